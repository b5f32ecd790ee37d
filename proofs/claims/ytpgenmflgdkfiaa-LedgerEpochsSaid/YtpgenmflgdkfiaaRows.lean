/-
  No cell of these rows narrows 'for every input' (looked for: loops, veiled, ifaces, maps, wideKeys, modest, calm, conditions, laid).
  DERIVED. THE GIVEN ROWS OF THIS SEAT. 7 by the template 'for every input the law returns true; each argument reads behind the call as it read before'; 0 by the template 'total and deterministic' (their statements: YtpgenmflgdkfiaaTotals.lean).
  GIVEN WITH THE SEED: the statements are not yours to turn. If you find one false, say at which input.
  Laid BY PROGRAM, IN A SANDBOX (cutbox-rows.mjs): the forced cells as the released guide's own fill.sh prints them over the translation bc6eac6b17686dde… (all of the seat's roots in one cut). By AI agents, Wed Nov 11 2026. No macro, syntax, notation, axiom, sorry.
-/
import Derived.Test.YtpgenmflgdkfiaaChecked
import GoSem.Claim
import GoSem.ClaimJoined
import GoSem.ClaimMapViews
import Derived.JoinedTies
import Derived.KernelRfl
namespace Go.Proofs.Ytpgenmflgdkfiaa
/- THE CELL 'sum', in the pinned program and in every row, IS THE sha256 OF THE DUMP (.gsa) THAT YtpgenmflgdkfiaaProg.lean LOADS. Nothing in Lean hashes anything: it is a label: what it is worth is what the hold of that sum in a sandbox is worth. -/
noncomputable def Try.pinned : Pinned := { name := "ytpgenmflgdkfiaa", sum := "bc6eac6b17686dde0160e0475935475f8c7ae0b45896adb2632ce7a26e9cddc5", checked := Try.checked }
namespace Rows
def none {H : Type} : Left H := { results := [], args := [] }

/-- 'towlinelaw12.LedgerOnce': WHATEVER THE INPUT: true; the input reads as it did. -/
def ledgerOnceSpec : ChangeSpec := { name := "ledgerOnce", fn := fun _ => fun
  | [d1, d2, d3] => { results := [.lit (.bool true)], args := [d1, d2, d3] }
  | _ => none }
def ledgerOnceRow : OpenClaim := { program := "ytpgenmflgdkfiaa", sum := "bc6eac6b17686dde0160e0475935475f8c7ae0b45896adb2632ce7a26e9cddc5", func := "towline/towlinelaw12.LedgerOnce", spec := "ledgerOnce", inPlace := ["slices.overlaps[towline/api.Member]"], unfollowed := true, recurses := true, apart := false }
def LedgerOnceSaid : Prop := ledgerOnceRow.holds Try.pinned (OpenSpec.ofChange ledgerOnceSpec)

/-- ITS FALSE NEIGHBOUR: 'it returns false'. Refute it at one input. -/
def ledgerOnceWrong : ChangeSpec := { name := "ledgerOnce", fn := fun _ => fun
  | [d1, d2, d3] => { results := [.lit (.bool false)], args := [d1, d2, d3] }
  | _ => none }
def LedgerOnceWrongFalsely : Prop := ledgerOnceRow.holds Try.pinned (OpenSpec.ofChange ledgerOnceWrong)

/-- 'towlinelaw12.LedgerRefused': WHATEVER THE INPUT: true; the input reads as it did. -/
def ledgerRefusedSpec : ChangeSpec := { name := "ledgerRefused", fn := fun _ => fun
  | [d1, d2, d3] => { results := [.lit (.bool true)], args := [d1, d2, d3] }
  | _ => none }
def ledgerRefusedRow : OpenClaim := { program := "ytpgenmflgdkfiaa", sum := "bc6eac6b17686dde0160e0475935475f8c7ae0b45896adb2632ce7a26e9cddc5", func := "towline/towlinelaw12.LedgerRefused", spec := "ledgerRefused", inPlace := ["slices.overlaps[towline/api.Member]"], unfollowed := true, recurses := true, apart := false }
def LedgerRefusedSaid : Prop := ledgerRefusedRow.holds Try.pinned (OpenSpec.ofChange ledgerRefusedSpec)

/-- ITS FALSE NEIGHBOUR: 'it returns false'. Refute it at one input. -/
def ledgerRefusedWrong : ChangeSpec := { name := "ledgerRefused", fn := fun _ => fun
  | [d1, d2, d3] => { results := [.lit (.bool false)], args := [d1, d2, d3] }
  | _ => none }
def LedgerRefusedWrongFalsely : Prop := ledgerRefusedRow.holds Try.pinned (OpenSpec.ofChange ledgerRefusedWrong)

/-- 'towlinelaw12.LedgerCommands': WHATEVER THE INPUT: true; the input reads as it did. -/
def ledgerCommandsSpec : ChangeSpec := { name := "ledgerCommands", fn := fun _ => fun
  | [d1, d2] => { results := [.lit (.bool true)], args := [d1, d2] }
  | _ => none }
def ledgerCommandsRow : OpenClaim := { program := "ytpgenmflgdkfiaa", sum := "bc6eac6b17686dde0160e0475935475f8c7ae0b45896adb2632ce7a26e9cddc5", func := "towline/towlinelaw12.LedgerCommands", spec := "ledgerCommands", inPlace := ["slices.overlaps[towline/api.Member]"], unfollowed := true, recurses := true, apart := false }
def LedgerCommandsSaid : Prop := ledgerCommandsRow.holds Try.pinned (OpenSpec.ofChange ledgerCommandsSpec)

/-- ITS FALSE NEIGHBOUR: 'it returns false'. Refute it at one input. -/
def ledgerCommandsWrong : ChangeSpec := { name := "ledgerCommands", fn := fun _ => fun
  | [d1, d2] => { results := [.lit (.bool false)], args := [d1, d2] }
  | _ => none }
def LedgerCommandsWrongFalsely : Prop := ledgerCommandsRow.holds Try.pinned (OpenSpec.ofChange ledgerCommandsWrong)

/-- 'towlinelaw12.LedgerAlike': WHATEVER THE INPUT: true; the input reads as it did. -/
def ledgerAlikeSpec : ChangeSpec := { name := "ledgerAlike", fn := fun _ => fun
  | [d1, d2, d3] => { results := [.lit (.bool true)], args := [d1, d2, d3] }
  | _ => none }
def ledgerAlikeRow : OpenClaim := { program := "ytpgenmflgdkfiaa", sum := "bc6eac6b17686dde0160e0475935475f8c7ae0b45896adb2632ce7a26e9cddc5", func := "towline/towlinelaw12.LedgerAlike", spec := "ledgerAlike", inPlace := ["slices.overlaps[towline/api.Member]"], unfollowed := true, recurses := true, apart := false }
def LedgerAlikeSaid : Prop := ledgerAlikeRow.holds Try.pinned (OpenSpec.ofChange ledgerAlikeSpec)

/-- ITS FALSE NEIGHBOUR: 'it returns false'. Refute it at one input. -/
def ledgerAlikeWrong : ChangeSpec := { name := "ledgerAlike", fn := fun _ => fun
  | [d1, d2, d3] => { results := [.lit (.bool false)], args := [d1, d2, d3] }
  | _ => none }
def LedgerAlikeWrongFalsely : Prop := ledgerAlikeRow.holds Try.pinned (OpenSpec.ofChange ledgerAlikeWrong)

/-- 'towlinelaw12.LedgerPlays': WHATEVER THE INPUT: true; the input reads as it did. -/
def ledgerPlaysSpec : ChangeSpec := { name := "ledgerPlays", fn := fun _ => fun
  | [d1, d2, d3] => { results := [.lit (.bool true)], args := [d1, d2, d3] }
  | _ => none }
def ledgerPlaysRow : OpenClaim := { program := "ytpgenmflgdkfiaa", sum := "bc6eac6b17686dde0160e0475935475f8c7ae0b45896adb2632ce7a26e9cddc5", func := "towline/towlinelaw12.LedgerPlays", spec := "ledgerPlays", inPlace := ["slices.overlaps[towline/api.Member]"], unfollowed := true, recurses := true, apart := false }
def LedgerPlaysSaid : Prop := ledgerPlaysRow.holds Try.pinned (OpenSpec.ofChange ledgerPlaysSpec)

/-- ITS FALSE NEIGHBOUR: 'it returns false'. Refute it at one input. -/
def ledgerPlaysWrong : ChangeSpec := { name := "ledgerPlays", fn := fun _ => fun
  | [d1, d2, d3] => { results := [.lit (.bool false)], args := [d1, d2, d3] }
  | _ => none }
def LedgerPlaysWrongFalsely : Prop := ledgerPlaysRow.holds Try.pinned (OpenSpec.ofChange ledgerPlaysWrong)

/-- 'towlinelaw12.LedgerNobody': WHATEVER THE INPUT: true; the input reads as it did. -/
def ledgerNobodySpec : ChangeSpec := { name := "ledgerNobody", fn := fun _ => fun
  | [d1, d2] => { results := [.lit (.bool true)], args := [d1, d2] }
  | _ => none }
def ledgerNobodyRow : OpenClaim := { program := "ytpgenmflgdkfiaa", sum := "bc6eac6b17686dde0160e0475935475f8c7ae0b45896adb2632ce7a26e9cddc5", func := "towline/towlinelaw12.LedgerNobody", spec := "ledgerNobody", inPlace := ["slices.overlaps[towline/api.Member]"], unfollowed := true, recurses := true, apart := false }
def LedgerNobodySaid : Prop := ledgerNobodyRow.holds Try.pinned (OpenSpec.ofChange ledgerNobodySpec)

/-- ITS FALSE NEIGHBOUR: 'it returns false'. Refute it at one input. -/
def ledgerNobodyWrong : ChangeSpec := { name := "ledgerNobody", fn := fun _ => fun
  | [d1, d2] => { results := [.lit (.bool false)], args := [d1, d2] }
  | _ => none }
def LedgerNobodyWrongFalsely : Prop := ledgerNobodyRow.holds Try.pinned (OpenSpec.ofChange ledgerNobodyWrong)

/-- 'towlinelaw12.LedgerEpochs': WHATEVER THE INPUT: true; the input reads as it did. -/
def ledgerEpochsSpec : ChangeSpec := { name := "ledgerEpochs", fn := fun _ => fun
  | [d1, d2] => { results := [.lit (.bool true)], args := [d1, d2] }
  | _ => none }
def ledgerEpochsRow : OpenClaim := { program := "ytpgenmflgdkfiaa", sum := "bc6eac6b17686dde0160e0475935475f8c7ae0b45896adb2632ce7a26e9cddc5", func := "towline/towlinelaw12.LedgerEpochs", spec := "ledgerEpochs", inPlace := ["slices.overlaps[towline/api.Member]"], unfollowed := true, recurses := true, apart := false }
def LedgerEpochsSaid : Prop := ledgerEpochsRow.holds Try.pinned (OpenSpec.ofChange ledgerEpochsSpec)

/-- ITS FALSE NEIGHBOUR: 'it returns false'. Refute it at one input. -/
def ledgerEpochsWrong : ChangeSpec := { name := "ledgerEpochs", fn := fun _ => fun
  | [d1, d2] => { results := [.lit (.bool false)], args := [d1, d2] }
  | _ => none }
def LedgerEpochsWrongFalsely : Prop := ledgerEpochsRow.holds Try.pinned (OpenSpec.ofChange ledgerEpochsWrong)

/- THE SECOND FORM. 'bulk': how many values and letters a reading holds, each counted each time it is reached (what is shared counts as often as it is met; a slice's spare places count too). A statement '..UptoSaid' is the law's where the arguments, and the package variables that the reading takes, are together of bulk at most 1048576: NARROWER than '..Said'. Prove '..Said' where nothing that the law and all that it calls make is longer than what came in: it says more and counts as full. Else prove '..UptoSaid'. A law counts once. -/
mutual
def uptoBulk {H : Type} : DataW H → Nat
  | .lit (.string bytes) => bytes.length + 1
  | .lit _ => 1
  | .nil => 1
  | .ptr d => uptoBulk d + 1
  | .slice elems spare => uptoBulkAll elems + uptoBulkAll spare + 1
  | .agg parts => uptoBulkAll parts + 1
  | .iface _ d => uptoBulk d + 1
  | .map entries => uptoBulkEntries entries + 1
  | .held _ => 1
def uptoBulkAll {H : Type} : List (DataW H) → Nat
  | [] => 0
  | d :: r => uptoBulk d + uptoBulkAll r
def uptoBulkEntries {H : Type} : List (Lit × DataW H) → Nat
  | [] => 0
  | x :: r => uptoBulkEntry x + uptoBulkEntries r
def uptoBulkEntry {H : Type} : Lit × DataW H → Nat
  | (.string bytes, d) => bytes.length + uptoBulk d + 1
  | (_, d) => uptoBulk d + 1
 end
def uptoSmall : (H : Type) → List (DataW H) → Bool := fun _ ds => decide (uptoBulkAll ds ≤ 1048576)
def OpenSpec.upto (s : _root_.Go.ChangeSpec) : _root_.Go.OpenSpec := { _root_.Go.OpenSpec.ofChange s with cond := some uptoSmall }

/-- 'towlinelaw12.LedgerOnce', WHERE WHAT IT READS IS OF BULK AT MOST 1048576: true; the input reads as it did. -/
def ledgerOnceUptoRow : OpenClaim := { program := "ytpgenmflgdkfiaa", sum := "bc6eac6b17686dde0160e0475935475f8c7ae0b45896adb2632ce7a26e9cddc5", func := "towline/towlinelaw12.LedgerOnce", spec := "ledgerOnce", inPlace := ["slices.overlaps[towline/api.Member]"], unfollowed := true, recurses := true, apart := false, narrowed := true }
def LedgerOnceUptoSaid : Prop := ledgerOnceUptoRow.holds Try.pinned (OpenSpec.upto ledgerOnceSpec)

/-- 'towlinelaw12.LedgerRefused', WHERE WHAT IT READS IS OF BULK AT MOST 1048576: true; the input reads as it did. -/
def ledgerRefusedUptoRow : OpenClaim := { program := "ytpgenmflgdkfiaa", sum := "bc6eac6b17686dde0160e0475935475f8c7ae0b45896adb2632ce7a26e9cddc5", func := "towline/towlinelaw12.LedgerRefused", spec := "ledgerRefused", inPlace := ["slices.overlaps[towline/api.Member]"], unfollowed := true, recurses := true, apart := false, narrowed := true }
def LedgerRefusedUptoSaid : Prop := ledgerRefusedUptoRow.holds Try.pinned (OpenSpec.upto ledgerRefusedSpec)

/-- 'towlinelaw12.LedgerCommands', WHERE WHAT IT READS IS OF BULK AT MOST 1048576: true; the input reads as it did. -/
def ledgerCommandsUptoRow : OpenClaim := { program := "ytpgenmflgdkfiaa", sum := "bc6eac6b17686dde0160e0475935475f8c7ae0b45896adb2632ce7a26e9cddc5", func := "towline/towlinelaw12.LedgerCommands", spec := "ledgerCommands", inPlace := ["slices.overlaps[towline/api.Member]"], unfollowed := true, recurses := true, apart := false, narrowed := true }
def LedgerCommandsUptoSaid : Prop := ledgerCommandsUptoRow.holds Try.pinned (OpenSpec.upto ledgerCommandsSpec)

/-- 'towlinelaw12.LedgerAlike', WHERE WHAT IT READS IS OF BULK AT MOST 1048576: true; the input reads as it did. -/
def ledgerAlikeUptoRow : OpenClaim := { program := "ytpgenmflgdkfiaa", sum := "bc6eac6b17686dde0160e0475935475f8c7ae0b45896adb2632ce7a26e9cddc5", func := "towline/towlinelaw12.LedgerAlike", spec := "ledgerAlike", inPlace := ["slices.overlaps[towline/api.Member]"], unfollowed := true, recurses := true, apart := false, narrowed := true }
def LedgerAlikeUptoSaid : Prop := ledgerAlikeUptoRow.holds Try.pinned (OpenSpec.upto ledgerAlikeSpec)

/-- 'towlinelaw12.LedgerPlays', WHERE WHAT IT READS IS OF BULK AT MOST 1048576: true; the input reads as it did. -/
def ledgerPlaysUptoRow : OpenClaim := { program := "ytpgenmflgdkfiaa", sum := "bc6eac6b17686dde0160e0475935475f8c7ae0b45896adb2632ce7a26e9cddc5", func := "towline/towlinelaw12.LedgerPlays", spec := "ledgerPlays", inPlace := ["slices.overlaps[towline/api.Member]"], unfollowed := true, recurses := true, apart := false, narrowed := true }
def LedgerPlaysUptoSaid : Prop := ledgerPlaysUptoRow.holds Try.pinned (OpenSpec.upto ledgerPlaysSpec)

/-- 'towlinelaw12.LedgerNobody', WHERE WHAT IT READS IS OF BULK AT MOST 1048576: true; the input reads as it did. -/
def ledgerNobodyUptoRow : OpenClaim := { program := "ytpgenmflgdkfiaa", sum := "bc6eac6b17686dde0160e0475935475f8c7ae0b45896adb2632ce7a26e9cddc5", func := "towline/towlinelaw12.LedgerNobody", spec := "ledgerNobody", inPlace := ["slices.overlaps[towline/api.Member]"], unfollowed := true, recurses := true, apart := false, narrowed := true }
def LedgerNobodyUptoSaid : Prop := ledgerNobodyUptoRow.holds Try.pinned (OpenSpec.upto ledgerNobodySpec)

/-- 'towlinelaw12.LedgerEpochs', WHERE WHAT IT READS IS OF BULK AT MOST 1048576: true; the input reads as it did. -/
def ledgerEpochsUptoRow : OpenClaim := { program := "ytpgenmflgdkfiaa", sum := "bc6eac6b17686dde0160e0475935475f8c7ae0b45896adb2632ce7a26e9cddc5", func := "towline/towlinelaw12.LedgerEpochs", spec := "ledgerEpochs", inPlace := ["slices.overlaps[towline/api.Member]"], unfollowed := true, recurses := true, apart := false, narrowed := true }
def LedgerEpochsUptoSaid : Prop := ledgerEpochsUptoRow.holds Try.pinned (OpenSpec.upto ledgerEpochsSpec)

end Rows
end Go.Proofs.Ytpgenmflgdkfiaa
