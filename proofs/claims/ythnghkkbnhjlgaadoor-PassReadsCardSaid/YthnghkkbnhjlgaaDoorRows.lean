/-
  NARROWER THAN 'FOR EVERY INPUT', by the rows' own cells (each row's printed sentence says how): PassRight: laid · PassMakes: laid · PassReads: laid · PassBack: laid · PassSees: laid · PassFloors: laid · PassJoins: laid · PassJoined: laid.
  DERIVED. THE GIVEN ROWS OF THIS SEAT. 8 by the template 'for every input the law returns true; each argument reads behind the call as it read before'; 0 by the template 'total and deterministic' (their statements: YthnghkkbnhjlgaaDoorTotals.lean).
  GIVEN WITH THE SEED: the statements are not yours to turn. If you find one false, say at which input.
  Laid BY PROGRAM, IN A SANDBOX (cutbox-rows.mjs): the forced cells as the released guide's own fill.sh prints them over the translation ef88feb97424fc27… (all of the seat's roots in one cut). By AI agents, Wed Nov 11 2026. No macro, syntax, notation, axiom, sorry.
-/
import Derived.Test.YthnghkkbnhjlgaaDoorChecked
import GoSem.PinnedTables
import GoSem.Claim
import GoSem.ClaimJoined
import GoSem.ClaimMapViews
import Derived.JoinedTies
import Derived.KernelRfl
namespace Go.Proofs.YthnghkkbnhjlgaaDoor
/- THE CELL 'sum', in the pinned program and in every row, IS THE sha256 OF THE DUMP (.gsa) THAT YthnghkkbnhjlgaaDoorProg.lean LOADS. Nothing in Lean hashes anything: it is a label: what it is worth is what the hold of that sum in a sandbox is worth. -/
noncomputable def Tryd.pinned : Pinned := { name := "ythnghkkbnhjlgaadoor", sum := "ef88feb97424fc27c561f8c8440650c258c6a5ca04d8af0f1374509fe8bf3e82", checked := Tryd.checked }
namespace Rows
def none {H : Type} : Left H := { results := [], args := [] }

/- WHAT THE LISTED PACKAGE-LEVEL VARIABLES READ AS WHEN THE CALL BEGINS. Each datum BY PROGRAM (the guide's laid-datum.mjs) off the statement by which the dump's own 'gosem.cut.vars' lays the variable. In a bare row this is a premise. The card (YthnghkkbnhjlgaaDoorCards.lean) ties it to the program's text. -/
def laid_unicode_utf8_acceptRanges {H : Type} : DataW H := .agg [.agg [.lit (.int .u8 128), .lit (.int .u8 191)], .agg [.lit (.int .u8 160), .lit (.int .u8 191)], .agg [.lit (.int .u8 128), .lit (.int .u8 159)], .agg [.lit (.int .u8 144), .lit (.int .u8 191)], .agg [.lit (.int .u8 128), .lit (.int .u8 143)], .agg [.lit (.int .u8 0), .lit (.int .u8 0)], .agg [.lit (.int .u8 0), .lit (.int .u8 0)], .agg [.lit (.int .u8 0), .lit (.int .u8 0)], .agg [.lit (.int .u8 0), .lit (.int .u8 0)], .agg [.lit (.int .u8 0), .lit (.int .u8 0)], .agg [.lit (.int .u8 0), .lit (.int .u8 0)], .agg [.lit (.int .u8 0), .lit (.int .u8 0)], .agg [.lit (.int .u8 0), .lit (.int .u8 0)], .agg [.lit (.int .u8 0), .lit (.int .u8 0)], .agg [.lit (.int .u8 0), .lit (.int .u8 0)], .agg [.lit (.int .u8 0), .lit (.int .u8 0)]]
/-- One of Go's own tables, pinned by name: the form's constant. -/
def laid_unicode_utf8_first : DataW Unit := Go.Pinned.utf8First

/-- 'towlinelaw10.PassRight': WHATEVER THE INPUT: true; the input reads as it did. -/
def passRightSpec : ChangeSpec := { name := "passRight", fn := fun _ => fun
  | [d] => { results := [.lit (.bool true)], args := [d] }
  | _ => none }
def passRightRow : OpenClaim := { program := "ythnghkkbnhjlgaadoor", sum := "ef88feb97424fc27c561f8c8440650c258c6a5ca04d8af0f1374509fe8bf3e82", func := "towline/towlinelaw10.PassRight", spec := "passRight", inPlace := ["internal/bytealg.IndexByte", "internal/bytealg.Compare", "slices.overlaps[towline/api.Seen]"], unfollowed := true, recurses := true, named := ["unicode/utf8.first", "unicode/utf8.acceptRanges"], apart := false, laid := [("unicode/utf8.acceptRanges", laid_unicode_utf8_acceptRanges), ("unicode/utf8.first", laid_unicode_utf8_first)] }
def PassRightSaid : Prop := passRightRow.holds Tryd.pinned (OpenSpec.ofChange passRightSpec)

/-- ITS FALSE NEIGHBOUR: 'it returns false'. Refute it at one input. -/
def passRightWrong : ChangeSpec := { name := "passRight", fn := fun _ => fun
  | [d] => { results := [.lit (.bool false)], args := [d] }
  | _ => none }
def PassRightWrongFalsely : Prop := passRightRow.holds Tryd.pinned (OpenSpec.ofChange passRightWrong)

/-- 'towlinelaw10.PassMakes': WHATEVER THE INPUT: true; the input reads as it did. -/
def passMakesSpec : ChangeSpec := { name := "passMakes", fn := fun _ => fun
  | [d1, d2] => { results := [.lit (.bool true)], args := [d1, d2] }
  | _ => none }
def passMakesRow : OpenClaim := { program := "ythnghkkbnhjlgaadoor", sum := "ef88feb97424fc27c561f8c8440650c258c6a5ca04d8af0f1374509fe8bf3e82", func := "towline/towlinelaw10.PassMakes", spec := "passMakes", inPlace := ["internal/bytealg.IndexByte", "internal/bytealg.Compare", "slices.overlaps[towline/api.Seen]"], unfollowed := true, recurses := true, named := ["unicode/utf8.first", "unicode/utf8.acceptRanges"], apart := false, laid := [("unicode/utf8.acceptRanges", laid_unicode_utf8_acceptRanges), ("unicode/utf8.first", laid_unicode_utf8_first)] }
def PassMakesSaid : Prop := passMakesRow.holds Tryd.pinned (OpenSpec.ofChange passMakesSpec)

/-- ITS FALSE NEIGHBOUR: 'it returns false'. Refute it at one input. -/
def passMakesWrong : ChangeSpec := { name := "passMakes", fn := fun _ => fun
  | [d1, d2] => { results := [.lit (.bool false)], args := [d1, d2] }
  | _ => none }
def PassMakesWrongFalsely : Prop := passMakesRow.holds Tryd.pinned (OpenSpec.ofChange passMakesWrong)

/-- 'towlinelaw10.PassReads': WHATEVER THE INPUT: true; the input reads as it did. -/
def passReadsSpec : ChangeSpec := { name := "passReads", fn := fun _ => fun
  | [d1, d2] => { results := [.lit (.bool true)], args := [d1, d2] }
  | _ => none }
def passReadsRow : OpenClaim := { program := "ythnghkkbnhjlgaadoor", sum := "ef88feb97424fc27c561f8c8440650c258c6a5ca04d8af0f1374509fe8bf3e82", func := "towline/towlinelaw10.PassReads", spec := "passReads", inPlace := ["internal/bytealg.IndexByte", "internal/bytealg.Compare", "slices.overlaps[towline/api.Seen]"], unfollowed := true, recurses := true, named := ["unicode/utf8.first", "unicode/utf8.acceptRanges"], apart := false, laid := [("unicode/utf8.acceptRanges", laid_unicode_utf8_acceptRanges), ("unicode/utf8.first", laid_unicode_utf8_first)] }
def PassReadsSaid : Prop := passReadsRow.holds Tryd.pinned (OpenSpec.ofChange passReadsSpec)

/-- ITS FALSE NEIGHBOUR: 'it returns false'. Refute it at one input. -/
def passReadsWrong : ChangeSpec := { name := "passReads", fn := fun _ => fun
  | [d1, d2] => { results := [.lit (.bool false)], args := [d1, d2] }
  | _ => none }
def PassReadsWrongFalsely : Prop := passReadsRow.holds Tryd.pinned (OpenSpec.ofChange passReadsWrong)

/-- 'towlinelaw10.PassBack': WHATEVER THE INPUT: true; the input reads as it did. -/
def passBackSpec : ChangeSpec := { name := "passBack", fn := fun _ => fun
  | [d1, d2] => { results := [.lit (.bool true)], args := [d1, d2] }
  | _ => none }
def passBackRow : OpenClaim := { program := "ythnghkkbnhjlgaadoor", sum := "ef88feb97424fc27c561f8c8440650c258c6a5ca04d8af0f1374509fe8bf3e82", func := "towline/towlinelaw10.PassBack", spec := "passBack", inPlace := ["internal/bytealg.IndexByte", "internal/bytealg.Compare", "slices.overlaps[towline/api.Seen]"], unfollowed := true, recurses := true, named := ["unicode/utf8.first", "unicode/utf8.acceptRanges"], apart := false, laid := [("unicode/utf8.acceptRanges", laid_unicode_utf8_acceptRanges), ("unicode/utf8.first", laid_unicode_utf8_first)] }
def PassBackSaid : Prop := passBackRow.holds Tryd.pinned (OpenSpec.ofChange passBackSpec)

/-- ITS FALSE NEIGHBOUR: 'it returns false'. Refute it at one input. -/
def passBackWrong : ChangeSpec := { name := "passBack", fn := fun _ => fun
  | [d1, d2] => { results := [.lit (.bool false)], args := [d1, d2] }
  | _ => none }
def PassBackWrongFalsely : Prop := passBackRow.holds Tryd.pinned (OpenSpec.ofChange passBackWrong)

/-- 'towlinelaw10.PassSees': WHATEVER THE INPUT: true; the input reads as it did. -/
def passSeesSpec : ChangeSpec := { name := "passSees", fn := fun _ => fun
  | [d1, d2, d3] => { results := [.lit (.bool true)], args := [d1, d2, d3] }
  | _ => none }
def passSeesRow : OpenClaim := { program := "ythnghkkbnhjlgaadoor", sum := "ef88feb97424fc27c561f8c8440650c258c6a5ca04d8af0f1374509fe8bf3e82", func := "towline/towlinelaw10.PassSees", spec := "passSees", inPlace := ["internal/bytealg.IndexByte", "internal/bytealg.Compare", "slices.overlaps[towline/api.Seen]"], unfollowed := true, recurses := true, named := ["unicode/utf8.first", "unicode/utf8.acceptRanges"], apart := false, laid := [("unicode/utf8.acceptRanges", laid_unicode_utf8_acceptRanges), ("unicode/utf8.first", laid_unicode_utf8_first)] }
def PassSeesSaid : Prop := passSeesRow.holds Tryd.pinned (OpenSpec.ofChange passSeesSpec)

/-- ITS FALSE NEIGHBOUR: 'it returns false'. Refute it at one input. -/
def passSeesWrong : ChangeSpec := { name := "passSees", fn := fun _ => fun
  | [d1, d2, d3] => { results := [.lit (.bool false)], args := [d1, d2, d3] }
  | _ => none }
def PassSeesWrongFalsely : Prop := passSeesRow.holds Tryd.pinned (OpenSpec.ofChange passSeesWrong)

/-- 'towlinelaw10.PassFloors': WHATEVER THE INPUT: true; the input reads as it did. -/
def passFloorsSpec : ChangeSpec := { name := "passFloors", fn := fun _ => fun
  | [d1, d2, d3, d4] => { results := [.lit (.bool true)], args := [d1, d2, d3, d4] }
  | _ => none }
def passFloorsRow : OpenClaim := { program := "ythnghkkbnhjlgaadoor", sum := "ef88feb97424fc27c561f8c8440650c258c6a5ca04d8af0f1374509fe8bf3e82", func := "towline/towlinelaw10.PassFloors", spec := "passFloors", inPlace := ["internal/bytealg.IndexByte", "internal/bytealg.Compare", "slices.overlaps[towline/api.Seen]"], unfollowed := true, recurses := true, named := ["unicode/utf8.first", "unicode/utf8.acceptRanges"], apart := false, laid := [("unicode/utf8.acceptRanges", laid_unicode_utf8_acceptRanges), ("unicode/utf8.first", laid_unicode_utf8_first)] }
def PassFloorsSaid : Prop := passFloorsRow.holds Tryd.pinned (OpenSpec.ofChange passFloorsSpec)

/-- ITS FALSE NEIGHBOUR: 'it returns false'. Refute it at one input. -/
def passFloorsWrong : ChangeSpec := { name := "passFloors", fn := fun _ => fun
  | [d1, d2, d3, d4] => { results := [.lit (.bool false)], args := [d1, d2, d3, d4] }
  | _ => none }
def PassFloorsWrongFalsely : Prop := passFloorsRow.holds Tryd.pinned (OpenSpec.ofChange passFloorsWrong)

/-- 'towlinelaw10.PassJoins': WHATEVER THE INPUT: true; the input reads as it did. -/
def passJoinsSpec : ChangeSpec := { name := "passJoins", fn := fun _ => fun
  | [d1, d2] => { results := [.lit (.bool true)], args := [d1, d2] }
  | _ => none }
def passJoinsRow : OpenClaim := { program := "ythnghkkbnhjlgaadoor", sum := "ef88feb97424fc27c561f8c8440650c258c6a5ca04d8af0f1374509fe8bf3e82", func := "towline/towlinelaw10.PassJoins", spec := "passJoins", inPlace := ["internal/bytealg.IndexByte", "internal/bytealg.Compare", "slices.overlaps[towline/api.Seen]"], unfollowed := true, recurses := true, named := ["unicode/utf8.first", "unicode/utf8.acceptRanges"], apart := false, laid := [("unicode/utf8.acceptRanges", laid_unicode_utf8_acceptRanges), ("unicode/utf8.first", laid_unicode_utf8_first)] }
def PassJoinsSaid : Prop := passJoinsRow.holds Tryd.pinned (OpenSpec.ofChange passJoinsSpec)

/-- ITS FALSE NEIGHBOUR: 'it returns false'. Refute it at one input. -/
def passJoinsWrong : ChangeSpec := { name := "passJoins", fn := fun _ => fun
  | [d1, d2] => { results := [.lit (.bool false)], args := [d1, d2] }
  | _ => none }
def PassJoinsWrongFalsely : Prop := passJoinsRow.holds Tryd.pinned (OpenSpec.ofChange passJoinsWrong)

/-- 'towlinelaw10.PassJoined': WHATEVER THE INPUT: true; the input reads as it did. -/
def passJoinedSpec : ChangeSpec := { name := "passJoined", fn := fun _ => fun
  | [d1, d2, d3] => { results := [.lit (.bool true)], args := [d1, d2, d3] }
  | _ => none }
def passJoinedRow : OpenClaim := { program := "ythnghkkbnhjlgaadoor", sum := "ef88feb97424fc27c561f8c8440650c258c6a5ca04d8af0f1374509fe8bf3e82", func := "towline/towlinelaw10.PassJoined", spec := "passJoined", inPlace := ["internal/bytealg.IndexByte", "internal/bytealg.Compare", "slices.overlaps[towline/api.Seen]"], unfollowed := true, recurses := true, named := ["unicode/utf8.first", "unicode/utf8.acceptRanges"], apart := false, laid := [("unicode/utf8.acceptRanges", laid_unicode_utf8_acceptRanges), ("unicode/utf8.first", laid_unicode_utf8_first)] }
def PassJoinedSaid : Prop := passJoinedRow.holds Tryd.pinned (OpenSpec.ofChange passJoinedSpec)

/-- ITS FALSE NEIGHBOUR: 'it returns false'. Refute it at one input. -/
def passJoinedWrong : ChangeSpec := { name := "passJoined", fn := fun _ => fun
  | [d1, d2, d3] => { results := [.lit (.bool false)], args := [d1, d2, d3] }
  | _ => none }
def PassJoinedWrongFalsely : Prop := passJoinedRow.holds Tryd.pinned (OpenSpec.ofChange passJoinedWrong)

/- THE SECOND FORM. 'bulk': how many values and letters a reading holds, each counted each time it is reached (what is shared counts as often as it is met; a slice's spare places count too). A statement '..UptoSaid' is the law's where the arguments, and the package variables that the reading takes, are together of bulk at most 1048576: NARROWER than '..Said'. Prove '..Said' where nothing that the law and all that it calls make is longer than what came in: it says more and counts as full. Else prove '..UptoSaid'. A law counts once. -/
mutual
def uptoBulk {H : Type} : DataW H → Nat
  | .lit (.string bytes) => bytes.length + 1
  | .lit _ => 1
  | .nil => 1
  | .ptr d => uptoBulk d + 1
  | .slice elems spare => uptoBulkAll elems + uptoBulkAll spare + 1
  | .agg parts => uptoBulkAll parts + 1
  | .iface _ d => uptoBulk d + 1
  | .map entries => uptoBulkEntries entries + 1
  | .held _ => 1
def uptoBulkAll {H : Type} : List (DataW H) → Nat
  | [] => 0
  | d :: r => uptoBulk d + uptoBulkAll r
def uptoBulkEntries {H : Type} : List (Lit × DataW H) → Nat
  | [] => 0
  | x :: r => uptoBulkEntry x + uptoBulkEntries r
def uptoBulkEntry {H : Type} : Lit × DataW H → Nat
  | (.string bytes, d) => bytes.length + uptoBulk d + 1
  | (_, d) => uptoBulk d + 1
 end
def uptoSmall : (H : Type) → List (DataW H) → Bool := fun _ ds => decide (uptoBulkAll ds ≤ 1048576)
def OpenSpec.upto (s : _root_.Go.ChangeSpec) : _root_.Go.OpenSpec := { _root_.Go.OpenSpec.ofChange s with cond := some uptoSmall }

/-- 'towlinelaw10.PassRight', WHERE WHAT IT READS IS OF BULK AT MOST 1048576: true; the input reads as it did. -/
def passRightUptoRow : OpenClaim := { program := "ythnghkkbnhjlgaadoor", sum := "ef88feb97424fc27c561f8c8440650c258c6a5ca04d8af0f1374509fe8bf3e82", func := "towline/towlinelaw10.PassRight", spec := "passRight", inPlace := ["internal/bytealg.IndexByte", "internal/bytealg.Compare", "slices.overlaps[towline/api.Seen]"], unfollowed := true, recurses := true, named := ["unicode/utf8.first", "unicode/utf8.acceptRanges"], apart := false, laid := [("unicode/utf8.acceptRanges", laid_unicode_utf8_acceptRanges), ("unicode/utf8.first", laid_unicode_utf8_first)], narrowed := true }
def PassRightUptoSaid : Prop := passRightUptoRow.holds Tryd.pinned (OpenSpec.upto passRightSpec)

/-- 'towlinelaw10.PassMakes', WHERE WHAT IT READS IS OF BULK AT MOST 1048576: true; the input reads as it did. -/
def passMakesUptoRow : OpenClaim := { program := "ythnghkkbnhjlgaadoor", sum := "ef88feb97424fc27c561f8c8440650c258c6a5ca04d8af0f1374509fe8bf3e82", func := "towline/towlinelaw10.PassMakes", spec := "passMakes", inPlace := ["internal/bytealg.IndexByte", "internal/bytealg.Compare", "slices.overlaps[towline/api.Seen]"], unfollowed := true, recurses := true, named := ["unicode/utf8.first", "unicode/utf8.acceptRanges"], apart := false, laid := [("unicode/utf8.acceptRanges", laid_unicode_utf8_acceptRanges), ("unicode/utf8.first", laid_unicode_utf8_first)], narrowed := true }
def PassMakesUptoSaid : Prop := passMakesUptoRow.holds Tryd.pinned (OpenSpec.upto passMakesSpec)

/-- 'towlinelaw10.PassReads', WHERE WHAT IT READS IS OF BULK AT MOST 1048576: true; the input reads as it did. -/
def passReadsUptoRow : OpenClaim := { program := "ythnghkkbnhjlgaadoor", sum := "ef88feb97424fc27c561f8c8440650c258c6a5ca04d8af0f1374509fe8bf3e82", func := "towline/towlinelaw10.PassReads", spec := "passReads", inPlace := ["internal/bytealg.IndexByte", "internal/bytealg.Compare", "slices.overlaps[towline/api.Seen]"], unfollowed := true, recurses := true, named := ["unicode/utf8.first", "unicode/utf8.acceptRanges"], apart := false, laid := [("unicode/utf8.acceptRanges", laid_unicode_utf8_acceptRanges), ("unicode/utf8.first", laid_unicode_utf8_first)], narrowed := true }
def PassReadsUptoSaid : Prop := passReadsUptoRow.holds Tryd.pinned (OpenSpec.upto passReadsSpec)

/-- 'towlinelaw10.PassBack', WHERE WHAT IT READS IS OF BULK AT MOST 1048576: true; the input reads as it did. -/
def passBackUptoRow : OpenClaim := { program := "ythnghkkbnhjlgaadoor", sum := "ef88feb97424fc27c561f8c8440650c258c6a5ca04d8af0f1374509fe8bf3e82", func := "towline/towlinelaw10.PassBack", spec := "passBack", inPlace := ["internal/bytealg.IndexByte", "internal/bytealg.Compare", "slices.overlaps[towline/api.Seen]"], unfollowed := true, recurses := true, named := ["unicode/utf8.first", "unicode/utf8.acceptRanges"], apart := false, laid := [("unicode/utf8.acceptRanges", laid_unicode_utf8_acceptRanges), ("unicode/utf8.first", laid_unicode_utf8_first)], narrowed := true }
def PassBackUptoSaid : Prop := passBackUptoRow.holds Tryd.pinned (OpenSpec.upto passBackSpec)

/-- 'towlinelaw10.PassSees', WHERE WHAT IT READS IS OF BULK AT MOST 1048576: true; the input reads as it did. -/
def passSeesUptoRow : OpenClaim := { program := "ythnghkkbnhjlgaadoor", sum := "ef88feb97424fc27c561f8c8440650c258c6a5ca04d8af0f1374509fe8bf3e82", func := "towline/towlinelaw10.PassSees", spec := "passSees", inPlace := ["internal/bytealg.IndexByte", "internal/bytealg.Compare", "slices.overlaps[towline/api.Seen]"], unfollowed := true, recurses := true, named := ["unicode/utf8.first", "unicode/utf8.acceptRanges"], apart := false, laid := [("unicode/utf8.acceptRanges", laid_unicode_utf8_acceptRanges), ("unicode/utf8.first", laid_unicode_utf8_first)], narrowed := true }
def PassSeesUptoSaid : Prop := passSeesUptoRow.holds Tryd.pinned (OpenSpec.upto passSeesSpec)

/-- 'towlinelaw10.PassFloors', WHERE WHAT IT READS IS OF BULK AT MOST 1048576: true; the input reads as it did. -/
def passFloorsUptoRow : OpenClaim := { program := "ythnghkkbnhjlgaadoor", sum := "ef88feb97424fc27c561f8c8440650c258c6a5ca04d8af0f1374509fe8bf3e82", func := "towline/towlinelaw10.PassFloors", spec := "passFloors", inPlace := ["internal/bytealg.IndexByte", "internal/bytealg.Compare", "slices.overlaps[towline/api.Seen]"], unfollowed := true, recurses := true, named := ["unicode/utf8.first", "unicode/utf8.acceptRanges"], apart := false, laid := [("unicode/utf8.acceptRanges", laid_unicode_utf8_acceptRanges), ("unicode/utf8.first", laid_unicode_utf8_first)], narrowed := true }
def PassFloorsUptoSaid : Prop := passFloorsUptoRow.holds Tryd.pinned (OpenSpec.upto passFloorsSpec)

/-- 'towlinelaw10.PassJoins', WHERE WHAT IT READS IS OF BULK AT MOST 1048576: true; the input reads as it did. -/
def passJoinsUptoRow : OpenClaim := { program := "ythnghkkbnhjlgaadoor", sum := "ef88feb97424fc27c561f8c8440650c258c6a5ca04d8af0f1374509fe8bf3e82", func := "towline/towlinelaw10.PassJoins", spec := "passJoins", inPlace := ["internal/bytealg.IndexByte", "internal/bytealg.Compare", "slices.overlaps[towline/api.Seen]"], unfollowed := true, recurses := true, named := ["unicode/utf8.first", "unicode/utf8.acceptRanges"], apart := false, laid := [("unicode/utf8.acceptRanges", laid_unicode_utf8_acceptRanges), ("unicode/utf8.first", laid_unicode_utf8_first)], narrowed := true }
def PassJoinsUptoSaid : Prop := passJoinsUptoRow.holds Tryd.pinned (OpenSpec.upto passJoinsSpec)

/-- 'towlinelaw10.PassJoined', WHERE WHAT IT READS IS OF BULK AT MOST 1048576: true; the input reads as it did. -/
def passJoinedUptoRow : OpenClaim := { program := "ythnghkkbnhjlgaadoor", sum := "ef88feb97424fc27c561f8c8440650c258c6a5ca04d8af0f1374509fe8bf3e82", func := "towline/towlinelaw10.PassJoined", spec := "passJoined", inPlace := ["internal/bytealg.IndexByte", "internal/bytealg.Compare", "slices.overlaps[towline/api.Seen]"], unfollowed := true, recurses := true, named := ["unicode/utf8.first", "unicode/utf8.acceptRanges"], apart := false, laid := [("unicode/utf8.acceptRanges", laid_unicode_utf8_acceptRanges), ("unicode/utf8.first", laid_unicode_utf8_first)], narrowed := true }
def PassJoinedUptoSaid : Prop := passJoinedUptoRow.holds Tryd.pinned (OpenSpec.upto passJoinedSpec)

end Rows
end Go.Proofs.YthnghkkbnhjlgaaDoor
