/-
  DERIVED. GIVEN WITH THE SEED: THE CARDS: each row of YthnghkkbnhjlgaaDoorRows.lean that lists a variable, with what it lists TIED to the program's text (the seventh form; the later family's looks); each row that meets fmt, with fmt's text TOLD by the authors' own Lean function (tested against real Go, not proved from fmt's source: count such statements apart). THE CARD IS WHAT COUNTS. Prove the row's statement (the work); the ties are given (YthnghkkbnhjlgaaDoorTie.lean); close each card by the builder's one call (the guide's Derived/Test/ToyasCard.lean, 'card_holds'). Laid BY PROGRAM, IN A SANDBOX (cutbox-door.mjs). By AI agents, Wed Nov 11 2026. No macro, syntax, notation, axiom, sorry.
-/
import Derived.Test.YthnghkkbnhjlgaaDoorRows
import GoSem.ClaimSeven
namespace Go.Proofs.YthnghkkbnhjlgaaDoor
namespace Rows

/-- THE TIED CARD OF 'towlinelaw10.PassRight'. -/
def passRightCard : Claim7 := { stood := { row := passRightRow, standIns := [], harness := (true, "7f1abab5a3af9da5a56d72e50c8b7783dd1d7ad10e853321bc171353cc512056"), looks := false }, kinds := [], alts := [], laidByText := true, laidKinds := [.data, .pinned], laidTests := true, laidLooks := .later }
def PassRightCardSaid : Prop := Claim7.holds Tryd.pinned (.plain (OpenSpec.ofChange passRightSpec)) passRightCard

/-- THE TIED CARD OF 'towlinelaw10.PassMakes'. -/
def passMakesCard : Claim7 := { stood := { row := passMakesRow, standIns := [], harness := (true, "7f1abab5a3af9da5a56d72e50c8b7783dd1d7ad10e853321bc171353cc512056"), looks := false }, kinds := [], alts := [], laidByText := true, laidKinds := [.data, .pinned], laidTests := true, laidLooks := .later }
def PassMakesCardSaid : Prop := Claim7.holds Tryd.pinned (.plain (OpenSpec.ofChange passMakesSpec)) passMakesCard

/-- THE TIED CARD OF 'towlinelaw10.PassReads'. -/
def passReadsCard : Claim7 := { stood := { row := passReadsRow, standIns := [], harness := (true, "7f1abab5a3af9da5a56d72e50c8b7783dd1d7ad10e853321bc171353cc512056"), looks := false }, kinds := [], alts := [], laidByText := true, laidKinds := [.data, .pinned], laidTests := true, laidLooks := .later }
def PassReadsCardSaid : Prop := Claim7.holds Tryd.pinned (.plain (OpenSpec.ofChange passReadsSpec)) passReadsCard

/-- THE TIED CARD OF 'towlinelaw10.PassBack'. -/
def passBackCard : Claim7 := { stood := { row := passBackRow, standIns := [], harness := (true, "7f1abab5a3af9da5a56d72e50c8b7783dd1d7ad10e853321bc171353cc512056"), looks := false }, kinds := [], alts := [], laidByText := true, laidKinds := [.data, .pinned], laidTests := true, laidLooks := .later }
def PassBackCardSaid : Prop := Claim7.holds Tryd.pinned (.plain (OpenSpec.ofChange passBackSpec)) passBackCard

/-- THE TIED CARD OF 'towlinelaw10.PassSees'. -/
def passSeesCard : Claim7 := { stood := { row := passSeesRow, standIns := [], harness := (true, "7f1abab5a3af9da5a56d72e50c8b7783dd1d7ad10e853321bc171353cc512056"), looks := false }, kinds := [], alts := [], laidByText := true, laidKinds := [.data, .pinned], laidTests := true, laidLooks := .later }
def PassSeesCardSaid : Prop := Claim7.holds Tryd.pinned (.plain (OpenSpec.ofChange passSeesSpec)) passSeesCard

/-- THE TIED CARD OF 'towlinelaw10.PassFloors'. -/
def passFloorsCard : Claim7 := { stood := { row := passFloorsRow, standIns := [], harness := (true, "7f1abab5a3af9da5a56d72e50c8b7783dd1d7ad10e853321bc171353cc512056"), looks := false }, kinds := [], alts := [], laidByText := true, laidKinds := [.data, .pinned], laidTests := true, laidLooks := .later }
def PassFloorsCardSaid : Prop := Claim7.holds Tryd.pinned (.plain (OpenSpec.ofChange passFloorsSpec)) passFloorsCard

/-- THE TIED CARD OF 'towlinelaw10.PassJoins'. -/
def passJoinsCard : Claim7 := { stood := { row := passJoinsRow, standIns := [], harness := (true, "7f1abab5a3af9da5a56d72e50c8b7783dd1d7ad10e853321bc171353cc512056"), looks := false }, kinds := [], alts := [], laidByText := true, laidKinds := [.data, .pinned], laidTests := true, laidLooks := .later }
def PassJoinsCardSaid : Prop := Claim7.holds Tryd.pinned (.plain (OpenSpec.ofChange passJoinsSpec)) passJoinsCard

/-- THE TIED CARD OF 'towlinelaw10.PassJoined'. -/
def passJoinedCard : Claim7 := { stood := { row := passJoinedRow, standIns := [], harness := (true, "7f1abab5a3af9da5a56d72e50c8b7783dd1d7ad10e853321bc171353cc512056"), looks := false }, kinds := [], alts := [], laidByText := true, laidKinds := [.data, .pinned], laidTests := true, laidLooks := .later }
def PassJoinedCardSaid : Prop := Claim7.holds Tryd.pinned (.plain (OpenSpec.ofChange passJoinedSpec)) passJoinedCard

/-- THE SECOND FORM's CARD OF 'towlinelaw10.PassRight'. -/
def passRightUptoCard : Claim7 := { stood := { row := passRightUptoRow, standIns := [], harness := (true, "7f1abab5a3af9da5a56d72e50c8b7783dd1d7ad10e853321bc171353cc512056"), looks := false }, kinds := [], alts := [], laidByText := true, laidKinds := [.data, .pinned], laidTests := true, laidLooks := .later }
def PassRightUptoCardSaid : Prop := Claim7.holds Tryd.pinned (.plain (OpenSpec.upto passRightSpec)) passRightUptoCard

/-- THE SECOND FORM's CARD OF 'towlinelaw10.PassMakes'. -/
def passMakesUptoCard : Claim7 := { stood := { row := passMakesUptoRow, standIns := [], harness := (true, "7f1abab5a3af9da5a56d72e50c8b7783dd1d7ad10e853321bc171353cc512056"), looks := false }, kinds := [], alts := [], laidByText := true, laidKinds := [.data, .pinned], laidTests := true, laidLooks := .later }
def PassMakesUptoCardSaid : Prop := Claim7.holds Tryd.pinned (.plain (OpenSpec.upto passMakesSpec)) passMakesUptoCard

/-- THE SECOND FORM's CARD OF 'towlinelaw10.PassReads'. -/
def passReadsUptoCard : Claim7 := { stood := { row := passReadsUptoRow, standIns := [], harness := (true, "7f1abab5a3af9da5a56d72e50c8b7783dd1d7ad10e853321bc171353cc512056"), looks := false }, kinds := [], alts := [], laidByText := true, laidKinds := [.data, .pinned], laidTests := true, laidLooks := .later }
def PassReadsUptoCardSaid : Prop := Claim7.holds Tryd.pinned (.plain (OpenSpec.upto passReadsSpec)) passReadsUptoCard

/-- THE SECOND FORM's CARD OF 'towlinelaw10.PassBack'. -/
def passBackUptoCard : Claim7 := { stood := { row := passBackUptoRow, standIns := [], harness := (true, "7f1abab5a3af9da5a56d72e50c8b7783dd1d7ad10e853321bc171353cc512056"), looks := false }, kinds := [], alts := [], laidByText := true, laidKinds := [.data, .pinned], laidTests := true, laidLooks := .later }
def PassBackUptoCardSaid : Prop := Claim7.holds Tryd.pinned (.plain (OpenSpec.upto passBackSpec)) passBackUptoCard

/-- THE SECOND FORM's CARD OF 'towlinelaw10.PassSees'. -/
def passSeesUptoCard : Claim7 := { stood := { row := passSeesUptoRow, standIns := [], harness := (true, "7f1abab5a3af9da5a56d72e50c8b7783dd1d7ad10e853321bc171353cc512056"), looks := false }, kinds := [], alts := [], laidByText := true, laidKinds := [.data, .pinned], laidTests := true, laidLooks := .later }
def PassSeesUptoCardSaid : Prop := Claim7.holds Tryd.pinned (.plain (OpenSpec.upto passSeesSpec)) passSeesUptoCard

/-- THE SECOND FORM's CARD OF 'towlinelaw10.PassFloors'. -/
def passFloorsUptoCard : Claim7 := { stood := { row := passFloorsUptoRow, standIns := [], harness := (true, "7f1abab5a3af9da5a56d72e50c8b7783dd1d7ad10e853321bc171353cc512056"), looks := false }, kinds := [], alts := [], laidByText := true, laidKinds := [.data, .pinned], laidTests := true, laidLooks := .later }
def PassFloorsUptoCardSaid : Prop := Claim7.holds Tryd.pinned (.plain (OpenSpec.upto passFloorsSpec)) passFloorsUptoCard

/-- THE SECOND FORM's CARD OF 'towlinelaw10.PassJoins'. -/
def passJoinsUptoCard : Claim7 := { stood := { row := passJoinsUptoRow, standIns := [], harness := (true, "7f1abab5a3af9da5a56d72e50c8b7783dd1d7ad10e853321bc171353cc512056"), looks := false }, kinds := [], alts := [], laidByText := true, laidKinds := [.data, .pinned], laidTests := true, laidLooks := .later }
def PassJoinsUptoCardSaid : Prop := Claim7.holds Tryd.pinned (.plain (OpenSpec.upto passJoinsSpec)) passJoinsUptoCard

/-- THE SECOND FORM's CARD OF 'towlinelaw10.PassJoined'. -/
def passJoinedUptoCard : Claim7 := { stood := { row := passJoinedUptoRow, standIns := [], harness := (true, "7f1abab5a3af9da5a56d72e50c8b7783dd1d7ad10e853321bc171353cc512056"), looks := false }, kinds := [], alts := [], laidByText := true, laidKinds := [.data, .pinned], laidTests := true, laidLooks := .later }
def PassJoinedUptoCardSaid : Prop := Claim7.holds Tryd.pinned (.plain (OpenSpec.upto passJoinedSpec)) passJoinedUptoCard
end Rows
end Go.Proofs.YthnghkkbnhjlgaaDoor
