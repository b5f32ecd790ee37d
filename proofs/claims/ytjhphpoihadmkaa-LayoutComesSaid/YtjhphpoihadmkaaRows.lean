/-
  No cell of these rows narrows 'for every input' (looked for: loops, veiled, ifaces, maps, wideKeys, modest, calm, conditions, laid).
  DERIVED. THE GIVEN ROWS OF THIS SEAT. 7 by the template 'for every input the law returns true; each argument reads behind the call as it read before'; 0 by the template 'total and deterministic' (their statements: YtjhphpoihadmkaaTotals.lean).
  GIVEN WITH THE SEED: the statements are not yours to turn. If you find one false, say at which input.
  Laid BY PROGRAM, IN A SANDBOX (cutbox-rows.mjs): the forced cells as the released guide's own fill.sh prints them over the translation 3b923abefa56b57f… (all of the seat's roots in one cut). By AI agents, Wed Nov 11 2026. No macro, syntax, notation, axiom, sorry.
-/
import Derived.Test.YtjhphpoihadmkaaChecked
import GoSem.Claim
import GoSem.ClaimJoined
import GoSem.ClaimMapViews
import Derived.JoinedTies
import Derived.KernelRfl
namespace Go.Proofs.Ytjhphpoihadmkaa
/- THE CELL 'sum', in the pinned program and in every row, IS THE sha256 OF THE DUMP (.gsa) THAT YtjhphpoihadmkaaProg.lean LOADS. Nothing in Lean hashes anything: it is a label: what it is worth is what the hold of that sum in a sandbox is worth. -/
noncomputable def Try.pinned : Pinned := { name := "ytjhphpoihadmkaa", sum := "3b923abefa56b57fc0d22d9afae7ed4f6b3e738ffa64840b5974e55114ba69cc", checked := Try.checked }
namespace Rows
def none {H : Type} : Left H := { results := [], args := [] }

/-- 'towlinelaw08.LayoutChecks': WHATEVER THE INPUT: true; the input reads as it did. -/
def layoutChecksSpec : ChangeSpec := { name := "layoutChecks", fn := fun _ => fun
  | [d1, d2] => { results := [.lit (.bool true)], args := [d1, d2] }
  | _ => none }
def layoutChecksRow : OpenClaim := { program := "ytjhphpoihadmkaa", sum := "3b923abefa56b57fc0d22d9afae7ed4f6b3e738ffa64840b5974e55114ba69cc", func := "towline/towlinelaw08.LayoutChecks", spec := "layoutChecks", inPlace := ["slices.overlaps[towline/api.Member]"], unfollowed := true, recurses := true, apart := false }
def LayoutChecksSaid : Prop := layoutChecksRow.holds Try.pinned (OpenSpec.ofChange layoutChecksSpec)

/-- ITS FALSE NEIGHBOUR: 'it returns false'. Refute it at one input. -/
def layoutChecksWrong : ChangeSpec := { name := "layoutChecks", fn := fun _ => fun
  | [d1, d2] => { results := [.lit (.bool false)], args := [d1, d2] }
  | _ => none }
def LayoutChecksWrongFalsely : Prop := layoutChecksRow.holds Try.pinned (OpenSpec.ofChange layoutChecksWrong)

/-- 'towlinelaw08.LayoutPlaces': WHATEVER THE INPUT: true; the input reads as it did. -/
def layoutPlacesSpec : ChangeSpec := { name := "layoutPlaces", fn := fun _ => fun
  | [d1, d2] => { results := [.lit (.bool true)], args := [d1, d2] }
  | _ => none }
def layoutPlacesRow : OpenClaim := { program := "ytjhphpoihadmkaa", sum := "3b923abefa56b57fc0d22d9afae7ed4f6b3e738ffa64840b5974e55114ba69cc", func := "towline/towlinelaw08.LayoutPlaces", spec := "layoutPlaces", inPlace := ["slices.overlaps[towline/api.Member]"], unfollowed := true, recurses := true, apart := false }
def LayoutPlacesSaid : Prop := layoutPlacesRow.holds Try.pinned (OpenSpec.ofChange layoutPlacesSpec)

/-- ITS FALSE NEIGHBOUR: 'it returns false'. Refute it at one input. -/
def layoutPlacesWrong : ChangeSpec := { name := "layoutPlaces", fn := fun _ => fun
  | [d1, d2] => { results := [.lit (.bool false)], args := [d1, d2] }
  | _ => none }
def LayoutPlacesWrongFalsely : Prop := layoutPlacesRow.holds Try.pinned (OpenSpec.ofChange layoutPlacesWrong)

/-- 'towlinelaw08.LayoutSets': WHATEVER THE INPUT: true; the input reads as it did. -/
def layoutSetsSpec : ChangeSpec := { name := "layoutSets", fn := fun _ => fun
  | [d] => { results := [.lit (.bool true)], args := [d] }
  | _ => none }
def layoutSetsRow : OpenClaim := { program := "ytjhphpoihadmkaa", sum := "3b923abefa56b57fc0d22d9afae7ed4f6b3e738ffa64840b5974e55114ba69cc", func := "towline/towlinelaw08.LayoutSets", spec := "layoutSets", inPlace := ["slices.overlaps[towline/api.Member]"], unfollowed := true, recurses := true, apart := false }
def LayoutSetsSaid : Prop := layoutSetsRow.holds Try.pinned (OpenSpec.ofChange layoutSetsSpec)

/-- ITS FALSE NEIGHBOUR: 'it returns false'. Refute it at one input. -/
def layoutSetsWrong : ChangeSpec := { name := "layoutSets", fn := fun _ => fun
  | [d] => { results := [.lit (.bool false)], args := [d] }
  | _ => none }
def LayoutSetsWrongFalsely : Prop := layoutSetsRow.holds Try.pinned (OpenSpec.ofChange layoutSetsWrong)

/-- 'towlinelaw08.LayoutAround': WHATEVER THE INPUT: true; the input reads as it did. -/
def layoutAroundSpec : ChangeSpec := { name := "layoutAround", fn := fun _ => fun
  | [d] => { results := [.lit (.bool true)], args := [d] }
  | _ => none }
def layoutAroundRow : OpenClaim := { program := "ytjhphpoihadmkaa", sum := "3b923abefa56b57fc0d22d9afae7ed4f6b3e738ffa64840b5974e55114ba69cc", func := "towline/towlinelaw08.LayoutAround", spec := "layoutAround", inPlace := ["slices.overlaps[towline/api.Member]"], unfollowed := true, recurses := true, apart := false }
def LayoutAroundSaid : Prop := layoutAroundRow.holds Try.pinned (OpenSpec.ofChange layoutAroundSpec)

/-- ITS FALSE NEIGHBOUR: 'it returns false'. Refute it at one input. -/
def layoutAroundWrong : ChangeSpec := { name := "layoutAround", fn := fun _ => fun
  | [d] => { results := [.lit (.bool false)], args := [d] }
  | _ => none }
def LayoutAroundWrongFalsely : Prop := layoutAroundRow.holds Try.pinned (OpenSpec.ofChange layoutAroundWrong)

/-- 'towlinelaw08.LayoutChanges': WHATEVER THE INPUT: true; the input reads as it did. -/
def layoutChangesSpec : ChangeSpec := { name := "layoutChanges", fn := fun _ => fun
  | [d1, d2] => { results := [.lit (.bool true)], args := [d1, d2] }
  | _ => none }
def layoutChangesRow : OpenClaim := { program := "ytjhphpoihadmkaa", sum := "3b923abefa56b57fc0d22d9afae7ed4f6b3e738ffa64840b5974e55114ba69cc", func := "towline/towlinelaw08.LayoutChanges", spec := "layoutChanges", inPlace := ["slices.overlaps[towline/api.Member]"], unfollowed := true, recurses := true, apart := false }
def LayoutChangesSaid : Prop := layoutChangesRow.holds Try.pinned (OpenSpec.ofChange layoutChangesSpec)

/-- ITS FALSE NEIGHBOUR: 'it returns false'. Refute it at one input. -/
def layoutChangesWrong : ChangeSpec := { name := "layoutChanges", fn := fun _ => fun
  | [d1, d2] => { results := [.lit (.bool false)], args := [d1, d2] }
  | _ => none }
def LayoutChangesWrongFalsely : Prop := layoutChangesRow.holds Try.pinned (OpenSpec.ofChange layoutChangesWrong)

/-- 'towlinelaw08.LayoutFollows': WHATEVER THE INPUT: true; the input reads as it did. -/
def layoutFollowsSpec : ChangeSpec := { name := "layoutFollows", fn := fun _ => fun
  | [d1, d2] => { results := [.lit (.bool true)], args := [d1, d2] }
  | _ => none }
def layoutFollowsRow : OpenClaim := { program := "ytjhphpoihadmkaa", sum := "3b923abefa56b57fc0d22d9afae7ed4f6b3e738ffa64840b5974e55114ba69cc", func := "towline/towlinelaw08.LayoutFollows", spec := "layoutFollows", inPlace := ["slices.overlaps[towline/api.Member]"], unfollowed := true, recurses := true, apart := false }
def LayoutFollowsSaid : Prop := layoutFollowsRow.holds Try.pinned (OpenSpec.ofChange layoutFollowsSpec)

/-- ITS FALSE NEIGHBOUR: 'it returns false'. Refute it at one input. -/
def layoutFollowsWrong : ChangeSpec := { name := "layoutFollows", fn := fun _ => fun
  | [d1, d2] => { results := [.lit (.bool false)], args := [d1, d2] }
  | _ => none }
def LayoutFollowsWrongFalsely : Prop := layoutFollowsRow.holds Try.pinned (OpenSpec.ofChange layoutFollowsWrong)

/-- 'towlinelaw08.LayoutComes': WHATEVER THE INPUT: true; the input reads as it did. -/
def layoutComesSpec : ChangeSpec := { name := "layoutComes", fn := fun _ => fun
  | [d1, d2] => { results := [.lit (.bool true)], args := [d1, d2] }
  | _ => none }
def layoutComesRow : OpenClaim := { program := "ytjhphpoihadmkaa", sum := "3b923abefa56b57fc0d22d9afae7ed4f6b3e738ffa64840b5974e55114ba69cc", func := "towline/towlinelaw08.LayoutComes", spec := "layoutComes", inPlace := ["slices.overlaps[towline/api.Member]"], unfollowed := true, recurses := true, apart := false }
def LayoutComesSaid : Prop := layoutComesRow.holds Try.pinned (OpenSpec.ofChange layoutComesSpec)

/-- ITS FALSE NEIGHBOUR: 'it returns false'. Refute it at one input. -/
def layoutComesWrong : ChangeSpec := { name := "layoutComes", fn := fun _ => fun
  | [d1, d2] => { results := [.lit (.bool false)], args := [d1, d2] }
  | _ => none }
def LayoutComesWrongFalsely : Prop := layoutComesRow.holds Try.pinned (OpenSpec.ofChange layoutComesWrong)

/- THE SECOND FORM. 'bulk': how many values and letters a reading holds, each counted each time it is reached (what is shared counts as often as it is met; a slice's spare places count too). A statement '..UptoSaid' is the law's where the arguments, and the package variables that the reading takes, are together of bulk at most 1048576: NARROWER than '..Said'. Prove '..Said' where nothing that the law and all that it calls make is longer than what came in: it says more and counts as full. Else prove '..UptoSaid'. A law counts once. -/
mutual
def uptoBulk {H : Type} : DataW H → Nat
  | .lit (.string bytes) => bytes.length + 1
  | .lit _ => 1
  | .nil => 1
  | .ptr d => uptoBulk d + 1
  | .slice elems spare => uptoBulkAll elems + uptoBulkAll spare + 1
  | .agg parts => uptoBulkAll parts + 1
  | .iface _ d => uptoBulk d + 1
  | .map entries => uptoBulkEntries entries + 1
  | .held _ => 1
def uptoBulkAll {H : Type} : List (DataW H) → Nat
  | [] => 0
  | d :: r => uptoBulk d + uptoBulkAll r
def uptoBulkEntries {H : Type} : List (Lit × DataW H) → Nat
  | [] => 0
  | x :: r => uptoBulkEntry x + uptoBulkEntries r
def uptoBulkEntry {H : Type} : Lit × DataW H → Nat
  | (.string bytes, d) => bytes.length + uptoBulk d + 1
  | (_, d) => uptoBulk d + 1
 end
def uptoSmall : (H : Type) → List (DataW H) → Bool := fun _ ds => decide (uptoBulkAll ds ≤ 1048576)
def OpenSpec.upto (s : _root_.Go.ChangeSpec) : _root_.Go.OpenSpec := { _root_.Go.OpenSpec.ofChange s with cond := some uptoSmall }

/-- 'towlinelaw08.LayoutChecks', WHERE WHAT IT READS IS OF BULK AT MOST 1048576: true; the input reads as it did. -/
def layoutChecksUptoRow : OpenClaim := { program := "ytjhphpoihadmkaa", sum := "3b923abefa56b57fc0d22d9afae7ed4f6b3e738ffa64840b5974e55114ba69cc", func := "towline/towlinelaw08.LayoutChecks", spec := "layoutChecks", inPlace := ["slices.overlaps[towline/api.Member]"], unfollowed := true, recurses := true, apart := false, narrowed := true }
def LayoutChecksUptoSaid : Prop := layoutChecksUptoRow.holds Try.pinned (OpenSpec.upto layoutChecksSpec)

/-- 'towlinelaw08.LayoutPlaces', WHERE WHAT IT READS IS OF BULK AT MOST 1048576: true; the input reads as it did. -/
def layoutPlacesUptoRow : OpenClaim := { program := "ytjhphpoihadmkaa", sum := "3b923abefa56b57fc0d22d9afae7ed4f6b3e738ffa64840b5974e55114ba69cc", func := "towline/towlinelaw08.LayoutPlaces", spec := "layoutPlaces", inPlace := ["slices.overlaps[towline/api.Member]"], unfollowed := true, recurses := true, apart := false, narrowed := true }
def LayoutPlacesUptoSaid : Prop := layoutPlacesUptoRow.holds Try.pinned (OpenSpec.upto layoutPlacesSpec)

/-- 'towlinelaw08.LayoutSets', WHERE WHAT IT READS IS OF BULK AT MOST 1048576: true; the input reads as it did. -/
def layoutSetsUptoRow : OpenClaim := { program := "ytjhphpoihadmkaa", sum := "3b923abefa56b57fc0d22d9afae7ed4f6b3e738ffa64840b5974e55114ba69cc", func := "towline/towlinelaw08.LayoutSets", spec := "layoutSets", inPlace := ["slices.overlaps[towline/api.Member]"], unfollowed := true, recurses := true, apart := false, narrowed := true }
def LayoutSetsUptoSaid : Prop := layoutSetsUptoRow.holds Try.pinned (OpenSpec.upto layoutSetsSpec)

/-- 'towlinelaw08.LayoutAround', WHERE WHAT IT READS IS OF BULK AT MOST 1048576: true; the input reads as it did. -/
def layoutAroundUptoRow : OpenClaim := { program := "ytjhphpoihadmkaa", sum := "3b923abefa56b57fc0d22d9afae7ed4f6b3e738ffa64840b5974e55114ba69cc", func := "towline/towlinelaw08.LayoutAround", spec := "layoutAround", inPlace := ["slices.overlaps[towline/api.Member]"], unfollowed := true, recurses := true, apart := false, narrowed := true }
def LayoutAroundUptoSaid : Prop := layoutAroundUptoRow.holds Try.pinned (OpenSpec.upto layoutAroundSpec)

/-- 'towlinelaw08.LayoutChanges', WHERE WHAT IT READS IS OF BULK AT MOST 1048576: true; the input reads as it did. -/
def layoutChangesUptoRow : OpenClaim := { program := "ytjhphpoihadmkaa", sum := "3b923abefa56b57fc0d22d9afae7ed4f6b3e738ffa64840b5974e55114ba69cc", func := "towline/towlinelaw08.LayoutChanges", spec := "layoutChanges", inPlace := ["slices.overlaps[towline/api.Member]"], unfollowed := true, recurses := true, apart := false, narrowed := true }
def LayoutChangesUptoSaid : Prop := layoutChangesUptoRow.holds Try.pinned (OpenSpec.upto layoutChangesSpec)

/-- 'towlinelaw08.LayoutFollows', WHERE WHAT IT READS IS OF BULK AT MOST 1048576: true; the input reads as it did. -/
def layoutFollowsUptoRow : OpenClaim := { program := "ytjhphpoihadmkaa", sum := "3b923abefa56b57fc0d22d9afae7ed4f6b3e738ffa64840b5974e55114ba69cc", func := "towline/towlinelaw08.LayoutFollows", spec := "layoutFollows", inPlace := ["slices.overlaps[towline/api.Member]"], unfollowed := true, recurses := true, apart := false, narrowed := true }
def LayoutFollowsUptoSaid : Prop := layoutFollowsUptoRow.holds Try.pinned (OpenSpec.upto layoutFollowsSpec)

/-- 'towlinelaw08.LayoutComes', WHERE WHAT IT READS IS OF BULK AT MOST 1048576: true; the input reads as it did. -/
def layoutComesUptoRow : OpenClaim := { program := "ytjhphpoihadmkaa", sum := "3b923abefa56b57fc0d22d9afae7ed4f6b3e738ffa64840b5974e55114ba69cc", func := "towline/towlinelaw08.LayoutComes", spec := "layoutComes", inPlace := ["slices.overlaps[towline/api.Member]"], unfollowed := true, recurses := true, apart := false, narrowed := true }
def LayoutComesUptoSaid : Prop := layoutComesUptoRow.holds Try.pinned (OpenSpec.upto layoutComesSpec)

end Rows
end Go.Proofs.Ytjhphpoihadmkaa
