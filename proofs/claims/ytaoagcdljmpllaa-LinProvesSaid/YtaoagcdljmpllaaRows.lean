/-
  No cell of these rows narrows 'for every input' (looked for: loops, veiled, ifaces, maps, wideKeys, modest, calm, conditions, laid).
  DERIVED. THE GIVEN ROWS OF THIS SEAT. 11 by the template 'for every input the law returns true; each argument reads behind the call as it read before'; 0 by the template 'total and deterministic' (their statements: YtaoagcdljmpllaaTotals.lean).
  GIVEN WITH THE SEED: the statements are not yours to turn. If you find one false, say at which input.
  Laid BY PROGRAM, IN A SANDBOX (cutbox-rows.mjs): the forced cells as the released guide's own fill.sh prints them over the translation 4552d58cd3f6a585… (all of the seat's roots in one cut). By AI agents, Wed Nov 11 2026. No macro, syntax, notation, axiom, sorry.
-/
import Derived.Test.YtaoagcdljmpllaaChecked
import GoSem.Claim
import GoSem.ClaimJoined
import GoSem.ClaimMapViews
import Derived.JoinedTies
import Derived.KernelRfl
namespace Go.Proofs.Ytaoagcdljmpllaa
/- THE CELL 'sum', in the pinned program and in every row, IS THE sha256 OF THE DUMP (.gsa) THAT YtaoagcdljmpllaaProg.lean LOADS. Nothing in Lean hashes anything: it is a label: what it is worth is what the hold of that sum in a sandbox is worth. -/
noncomputable def Try.pinned : Pinned := { name := "ytaoagcdljmpllaa", sum := "4552d58cd3f6a585169745525e3becefcaaf5b34b0a03aaa1ab53b2520785678", checked := Try.checked }
namespace Rows
def none {H : Type} : Left H := { results := [], args := [] }

/-- 'towlinelaw03.TagBlocks': WHATEVER THE INPUT: true; the input reads as it did. -/
def tagBlocksSpec : ChangeSpec := { name := "tagBlocks", fn := fun _ => fun
  | [d1, d2, d3] => { results := [.lit (.bool true)], args := [d1, d2, d3] }
  | _ => none }
def tagBlocksRow : OpenClaim := { program := "ytaoagcdljmpllaa", sum := "4552d58cd3f6a585169745525e3becefcaaf5b34b0a03aaa1ab53b2520785678", func := "towline/towlinelaw03.TagBlocks", spec := "tagBlocks", plainKeys := false, apart := false }
def TagBlocksSaid : Prop := tagBlocksRow.holds Try.pinned (OpenSpec.ofChange tagBlocksSpec)

/-- ITS FALSE NEIGHBOUR: 'it returns false'. Refute it at one input. -/
def tagBlocksWrong : ChangeSpec := { name := "tagBlocks", fn := fun _ => fun
  | [d1, d2, d3] => { results := [.lit (.bool false)], args := [d1, d2, d3] }
  | _ => none }
def TagBlocksWrongFalsely : Prop := tagBlocksRow.holds Try.pinned (OpenSpec.ofChange tagBlocksWrong)

/-- 'towlinelaw03.TagSame': WHATEVER THE INPUT: true; the input reads as it did. -/
def tagSameSpec : ChangeSpec := { name := "tagSame", fn := fun _ => fun
  | [d1, d2] => { results := [.lit (.bool true)], args := [d1, d2] }
  | _ => none }
def tagSameRow : OpenClaim := { program := "ytaoagcdljmpllaa", sum := "4552d58cd3f6a585169745525e3becefcaaf5b34b0a03aaa1ab53b2520785678", func := "towline/towlinelaw03.TagSame", spec := "tagSame", plainKeys := false, apart := false }
def TagSameSaid : Prop := tagSameRow.holds Try.pinned (OpenSpec.ofChange tagSameSpec)

/-- ITS FALSE NEIGHBOUR: 'it returns false'. Refute it at one input. -/
def tagSameWrong : ChangeSpec := { name := "tagSame", fn := fun _ => fun
  | [d1, d2] => { results := [.lit (.bool false)], args := [d1, d2] }
  | _ => none }
def TagSameWrongFalsely : Prop := tagSameRow.holds Try.pinned (OpenSpec.ofChange tagSameWrong)

/-- 'towlinelaw03.TagShort': WHATEVER THE INPUT: true; the input reads as it did. -/
def tagShortSpec : ChangeSpec := { name := "tagShort", fn := fun _ => fun
  | [d1, d2] => { results := [.lit (.bool true)], args := [d1, d2] }
  | _ => none }
def tagShortRow : OpenClaim := { program := "ytaoagcdljmpllaa", sum := "4552d58cd3f6a585169745525e3becefcaaf5b34b0a03aaa1ab53b2520785678", func := "towline/towlinelaw03.TagShort", spec := "tagShort", plainKeys := false, apart := false }
def TagShortSaid : Prop := tagShortRow.holds Try.pinned (OpenSpec.ofChange tagShortSpec)

/-- ITS FALSE NEIGHBOUR: 'it returns false'. Refute it at one input. -/
def tagShortWrong : ChangeSpec := { name := "tagShort", fn := fun _ => fun
  | [d1, d2] => { results := [.lit (.bool false)], args := [d1, d2] }
  | _ => none }
def TagShortWrongFalsely : Prop := tagShortRow.holds Try.pinned (OpenSpec.ofChange tagShortWrong)

/-- 'towlinelaw03.TagKeys': WHATEVER THE INPUT: true; the input reads as it did. -/
def tagKeysSpec : ChangeSpec := { name := "tagKeys", fn := fun _ => fun
  | [d1, d2] => { results := [.lit (.bool true)], args := [d1, d2] }
  | _ => none }
def tagKeysRow : OpenClaim := { program := "ytaoagcdljmpllaa", sum := "4552d58cd3f6a585169745525e3becefcaaf5b34b0a03aaa1ab53b2520785678", func := "towline/towlinelaw03.TagKeys", spec := "tagKeys", plainKeys := false, apart := false }
def TagKeysSaid : Prop := tagKeysRow.holds Try.pinned (OpenSpec.ofChange tagKeysSpec)

/-- ITS FALSE NEIGHBOUR: 'it returns false'. Refute it at one input. -/
def tagKeysWrong : ChangeSpec := { name := "tagKeys", fn := fun _ => fun
  | [d1, d2] => { results := [.lit (.bool false)], args := [d1, d2] }
  | _ => none }
def TagKeysWrongFalsely : Prop := tagKeysRow.holds Try.pinned (OpenSpec.ofChange tagKeysWrong)

/-- 'towlinelaw03.TagDigests': WHATEVER THE INPUT: true; the input reads as it did. -/
def tagDigestsSpec : ChangeSpec := { name := "tagDigests", fn := fun _ => fun
  | [d1, d2] => { results := [.lit (.bool true)], args := [d1, d2] }
  | _ => none }
def tagDigestsRow : OpenClaim := { program := "ytaoagcdljmpllaa", sum := "4552d58cd3f6a585169745525e3becefcaaf5b34b0a03aaa1ab53b2520785678", func := "towline/towlinelaw03.TagDigests", spec := "tagDigests", plainKeys := false, apart := false }
def TagDigestsSaid : Prop := tagDigestsRow.holds Try.pinned (OpenSpec.ofChange tagDigestsSpec)

/-- ITS FALSE NEIGHBOUR: 'it returns false'. Refute it at one input. -/
def tagDigestsWrong : ChangeSpec := { name := "tagDigests", fn := fun _ => fun
  | [d1, d2] => { results := [.lit (.bool false)], args := [d1, d2] }
  | _ => none }
def TagDigestsWrongFalsely : Prop := tagDigestsRow.holds Try.pinned (OpenSpec.ofChange tagDigestsWrong)

/-- 'towlinelaw07.LinRight': WHATEVER THE INPUT: true; the input reads as it did. -/
def linRightSpec : ChangeSpec := { name := "linRight", fn := fun _ => fun
  | [d] => { results := [.lit (.bool true)], args := [d] }
  | _ => none }
def linRightRow : OpenClaim := { program := "ytaoagcdljmpllaa", sum := "4552d58cd3f6a585169745525e3becefcaaf5b34b0a03aaa1ab53b2520785678", func := "towline/towlinelaw07.LinRight", spec := "linRight", recurses := true, plainKeys := false, apart := false }
def LinRightSaid : Prop := linRightRow.holds Try.pinned (OpenSpec.ofChange linRightSpec)

/-- ITS FALSE NEIGHBOUR: 'it returns false'. Refute it at one input. -/
def linRightWrong : ChangeSpec := { name := "linRight", fn := fun _ => fun
  | [d] => { results := [.lit (.bool false)], args := [d] }
  | _ => none }
def LinRightWrongFalsely : Prop := linRightRow.holds Try.pinned (OpenSpec.ofChange linRightWrong)

/-- 'towlinelaw07.LinSeen': WHATEVER THE INPUT: true; the input reads as it did. -/
def linSeenSpec : ChangeSpec := { name := "linSeen", fn := fun _ => fun
  | [d1, d2, d3] => { results := [.lit (.bool true)], args := [d1, d2, d3] }
  | _ => none }
def linSeenRow : OpenClaim := { program := "ytaoagcdljmpllaa", sum := "4552d58cd3f6a585169745525e3becefcaaf5b34b0a03aaa1ab53b2520785678", func := "towline/towlinelaw07.LinSeen", spec := "linSeen", recurses := true, plainKeys := false, apart := false }
def LinSeenSaid : Prop := linSeenRow.holds Try.pinned (OpenSpec.ofChange linSeenSpec)

/-- ITS FALSE NEIGHBOUR: 'it returns false'. Refute it at one input. -/
def linSeenWrong : ChangeSpec := { name := "linSeen", fn := fun _ => fun
  | [d1, d2, d3] => { results := [.lit (.bool false)], args := [d1, d2, d3] }
  | _ => none }
def LinSeenWrongFalsely : Prop := linSeenRow.holds Try.pinned (OpenSpec.ofChange linSeenWrong)

/-- 'towlinelaw07.LinFewer': WHATEVER THE INPUT: true; the input reads as it did. -/
def linFewerSpec : ChangeSpec := { name := "linFewer", fn := fun _ => fun
  | [d1, d2] => { results := [.lit (.bool true)], args := [d1, d2] }
  | _ => none }
def linFewerRow : OpenClaim := { program := "ytaoagcdljmpllaa", sum := "4552d58cd3f6a585169745525e3becefcaaf5b34b0a03aaa1ab53b2520785678", func := "towline/towlinelaw07.LinFewer", spec := "linFewer", recurses := true, plainKeys := false, apart := false }
def LinFewerSaid : Prop := linFewerRow.holds Try.pinned (OpenSpec.ofChange linFewerSpec)

/-- ITS FALSE NEIGHBOUR: 'it returns false'. Refute it at one input. -/
def linFewerWrong : ChangeSpec := { name := "linFewer", fn := fun _ => fun
  | [d1, d2] => { results := [.lit (.bool false)], args := [d1, d2] }
  | _ => none }
def LinFewerWrongFalsely : Prop := linFewerRow.holds Try.pinned (OpenSpec.ofChange linFewerWrong)

/-- 'towlinelaw07.LinOrders': WHATEVER THE INPUT: true; the input reads as it did. -/
def linOrdersSpec : ChangeSpec := { name := "linOrders", fn := fun _ => fun
  | [d] => { results := [.lit (.bool true)], args := [d] }
  | _ => none }
def linOrdersRow : OpenClaim := { program := "ytaoagcdljmpllaa", sum := "4552d58cd3f6a585169745525e3becefcaaf5b34b0a03aaa1ab53b2520785678", func := "towline/towlinelaw07.LinOrders", spec := "linOrders", recurses := true, plainKeys := false, apart := false }
def LinOrdersSaid : Prop := linOrdersRow.holds Try.pinned (OpenSpec.ofChange linOrdersSpec)

/-- ITS FALSE NEIGHBOUR: 'it returns false'. Refute it at one input. -/
def linOrdersWrong : ChangeSpec := { name := "linOrders", fn := fun _ => fun
  | [d] => { results := [.lit (.bool false)], args := [d] }
  | _ => none }
def LinOrdersWrongFalsely : Prop := linOrdersRow.holds Try.pinned (OpenSpec.ofChange linOrdersWrong)

/-- 'towlinelaw07.LinFits': WHATEVER THE INPUT: true; the input reads as it did. -/
def linFitsSpec : ChangeSpec := { name := "linFits", fn := fun _ => fun
  | [d1, d2] => { results := [.lit (.bool true)], args := [d1, d2] }
  | _ => none }
def linFitsRow : OpenClaim := { program := "ytaoagcdljmpllaa", sum := "4552d58cd3f6a585169745525e3becefcaaf5b34b0a03aaa1ab53b2520785678", func := "towline/towlinelaw07.LinFits", spec := "linFits", recurses := true, plainKeys := false, apart := false }
def LinFitsSaid : Prop := linFitsRow.holds Try.pinned (OpenSpec.ofChange linFitsSpec)

/-- ITS FALSE NEIGHBOUR: 'it returns false'. Refute it at one input. -/
def linFitsWrong : ChangeSpec := { name := "linFits", fn := fun _ => fun
  | [d1, d2] => { results := [.lit (.bool false)], args := [d1, d2] }
  | _ => none }
def LinFitsWrongFalsely : Prop := linFitsRow.holds Try.pinned (OpenSpec.ofChange linFitsWrong)

/-- 'towlinelaw07.LinProves': WHATEVER THE INPUT: true; the input reads as it did. -/
def linProvesSpec : ChangeSpec := { name := "linProves", fn := fun _ => fun
  | [d] => { results := [.lit (.bool true)], args := [d] }
  | _ => none }
def linProvesRow : OpenClaim := { program := "ytaoagcdljmpllaa", sum := "4552d58cd3f6a585169745525e3becefcaaf5b34b0a03aaa1ab53b2520785678", func := "towline/towlinelaw07.LinProves", spec := "linProves", unfollowed := true, recurses := true, plainKeys := false, apart := false }
def LinProvesSaid : Prop := linProvesRow.holds Try.pinned (OpenSpec.ofChange linProvesSpec)

/-- ITS FALSE NEIGHBOUR: 'it returns false'. Refute it at one input. -/
def linProvesWrong : ChangeSpec := { name := "linProves", fn := fun _ => fun
  | [d] => { results := [.lit (.bool false)], args := [d] }
  | _ => none }
def LinProvesWrongFalsely : Prop := linProvesRow.holds Try.pinned (OpenSpec.ofChange linProvesWrong)

/- THE SECOND FORM. 'bulk': how many values and letters a reading holds, each counted each time it is reached (what is shared counts as often as it is met; a slice's spare places count too). A statement '..UptoSaid' is the law's where the arguments, and the package variables that the reading takes, are together of bulk at most 1048576: NARROWER than '..Said'. Prove '..Said' where nothing that the law and all that it calls make is longer than what came in: it says more and counts as full. Else prove '..UptoSaid'. A law counts once. -/
mutual
def uptoBulk {H : Type} : DataW H → Nat
  | .lit (.string bytes) => bytes.length + 1
  | .lit _ => 1
  | .nil => 1
  | .ptr d => uptoBulk d + 1
  | .slice elems spare => uptoBulkAll elems + uptoBulkAll spare + 1
  | .agg parts => uptoBulkAll parts + 1
  | .iface _ d => uptoBulk d + 1
  | .map entries => uptoBulkEntries entries + 1
  | .held _ => 1
def uptoBulkAll {H : Type} : List (DataW H) → Nat
  | [] => 0
  | d :: r => uptoBulk d + uptoBulkAll r
def uptoBulkEntries {H : Type} : List (Lit × DataW H) → Nat
  | [] => 0
  | x :: r => uptoBulkEntry x + uptoBulkEntries r
def uptoBulkEntry {H : Type} : Lit × DataW H → Nat
  | (.string bytes, d) => bytes.length + uptoBulk d + 1
  | (_, d) => uptoBulk d + 1
 end
def uptoSmall : (H : Type) → List (DataW H) → Bool := fun _ ds => decide (uptoBulkAll ds ≤ 1048576)
def OpenSpec.upto (s : _root_.Go.ChangeSpec) : _root_.Go.OpenSpec := { _root_.Go.OpenSpec.ofChange s with cond := some uptoSmall }

/-- 'towlinelaw03.TagBlocks', WHERE WHAT IT READS IS OF BULK AT MOST 1048576: true; the input reads as it did. -/
def tagBlocksUptoRow : OpenClaim := { program := "ytaoagcdljmpllaa", sum := "4552d58cd3f6a585169745525e3becefcaaf5b34b0a03aaa1ab53b2520785678", func := "towline/towlinelaw03.TagBlocks", spec := "tagBlocks", plainKeys := false, apart := false, narrowed := true }
def TagBlocksUptoSaid : Prop := tagBlocksUptoRow.holds Try.pinned (OpenSpec.upto tagBlocksSpec)

/-- 'towlinelaw03.TagSame', WHERE WHAT IT READS IS OF BULK AT MOST 1048576: true; the input reads as it did. -/
def tagSameUptoRow : OpenClaim := { program := "ytaoagcdljmpllaa", sum := "4552d58cd3f6a585169745525e3becefcaaf5b34b0a03aaa1ab53b2520785678", func := "towline/towlinelaw03.TagSame", spec := "tagSame", plainKeys := false, apart := false, narrowed := true }
def TagSameUptoSaid : Prop := tagSameUptoRow.holds Try.pinned (OpenSpec.upto tagSameSpec)

/-- 'towlinelaw03.TagShort', WHERE WHAT IT READS IS OF BULK AT MOST 1048576: true; the input reads as it did. -/
def tagShortUptoRow : OpenClaim := { program := "ytaoagcdljmpllaa", sum := "4552d58cd3f6a585169745525e3becefcaaf5b34b0a03aaa1ab53b2520785678", func := "towline/towlinelaw03.TagShort", spec := "tagShort", plainKeys := false, apart := false, narrowed := true }
def TagShortUptoSaid : Prop := tagShortUptoRow.holds Try.pinned (OpenSpec.upto tagShortSpec)

/-- 'towlinelaw03.TagKeys', WHERE WHAT IT READS IS OF BULK AT MOST 1048576: true; the input reads as it did. -/
def tagKeysUptoRow : OpenClaim := { program := "ytaoagcdljmpllaa", sum := "4552d58cd3f6a585169745525e3becefcaaf5b34b0a03aaa1ab53b2520785678", func := "towline/towlinelaw03.TagKeys", spec := "tagKeys", plainKeys := false, apart := false, narrowed := true }
def TagKeysUptoSaid : Prop := tagKeysUptoRow.holds Try.pinned (OpenSpec.upto tagKeysSpec)

/-- 'towlinelaw03.TagDigests', WHERE WHAT IT READS IS OF BULK AT MOST 1048576: true; the input reads as it did. -/
def tagDigestsUptoRow : OpenClaim := { program := "ytaoagcdljmpllaa", sum := "4552d58cd3f6a585169745525e3becefcaaf5b34b0a03aaa1ab53b2520785678", func := "towline/towlinelaw03.TagDigests", spec := "tagDigests", plainKeys := false, apart := false, narrowed := true }
def TagDigestsUptoSaid : Prop := tagDigestsUptoRow.holds Try.pinned (OpenSpec.upto tagDigestsSpec)

/-- 'towlinelaw07.LinRight', WHERE WHAT IT READS IS OF BULK AT MOST 1048576: true; the input reads as it did. -/
def linRightUptoRow : OpenClaim := { program := "ytaoagcdljmpllaa", sum := "4552d58cd3f6a585169745525e3becefcaaf5b34b0a03aaa1ab53b2520785678", func := "towline/towlinelaw07.LinRight", spec := "linRight", recurses := true, plainKeys := false, apart := false, narrowed := true }
def LinRightUptoSaid : Prop := linRightUptoRow.holds Try.pinned (OpenSpec.upto linRightSpec)

/-- 'towlinelaw07.LinSeen', WHERE WHAT IT READS IS OF BULK AT MOST 1048576: true; the input reads as it did. -/
def linSeenUptoRow : OpenClaim := { program := "ytaoagcdljmpllaa", sum := "4552d58cd3f6a585169745525e3becefcaaf5b34b0a03aaa1ab53b2520785678", func := "towline/towlinelaw07.LinSeen", spec := "linSeen", recurses := true, plainKeys := false, apart := false, narrowed := true }
def LinSeenUptoSaid : Prop := linSeenUptoRow.holds Try.pinned (OpenSpec.upto linSeenSpec)

/-- 'towlinelaw07.LinFewer', WHERE WHAT IT READS IS OF BULK AT MOST 1048576: true; the input reads as it did. -/
def linFewerUptoRow : OpenClaim := { program := "ytaoagcdljmpllaa", sum := "4552d58cd3f6a585169745525e3becefcaaf5b34b0a03aaa1ab53b2520785678", func := "towline/towlinelaw07.LinFewer", spec := "linFewer", recurses := true, plainKeys := false, apart := false, narrowed := true }
def LinFewerUptoSaid : Prop := linFewerUptoRow.holds Try.pinned (OpenSpec.upto linFewerSpec)

/-- 'towlinelaw07.LinOrders', WHERE WHAT IT READS IS OF BULK AT MOST 1048576: true; the input reads as it did. -/
def linOrdersUptoRow : OpenClaim := { program := "ytaoagcdljmpllaa", sum := "4552d58cd3f6a585169745525e3becefcaaf5b34b0a03aaa1ab53b2520785678", func := "towline/towlinelaw07.LinOrders", spec := "linOrders", recurses := true, plainKeys := false, apart := false, narrowed := true }
def LinOrdersUptoSaid : Prop := linOrdersUptoRow.holds Try.pinned (OpenSpec.upto linOrdersSpec)

/-- 'towlinelaw07.LinFits', WHERE WHAT IT READS IS OF BULK AT MOST 1048576: true; the input reads as it did. -/
def linFitsUptoRow : OpenClaim := { program := "ytaoagcdljmpllaa", sum := "4552d58cd3f6a585169745525e3becefcaaf5b34b0a03aaa1ab53b2520785678", func := "towline/towlinelaw07.LinFits", spec := "linFits", recurses := true, plainKeys := false, apart := false, narrowed := true }
def LinFitsUptoSaid : Prop := linFitsUptoRow.holds Try.pinned (OpenSpec.upto linFitsSpec)

/-- 'towlinelaw07.LinProves', WHERE WHAT IT READS IS OF BULK AT MOST 1048576: true; the input reads as it did. -/
def linProvesUptoRow : OpenClaim := { program := "ytaoagcdljmpllaa", sum := "4552d58cd3f6a585169745525e3becefcaaf5b34b0a03aaa1ab53b2520785678", func := "towline/towlinelaw07.LinProves", spec := "linProves", unfollowed := true, recurses := true, plainKeys := false, apart := false, narrowed := true }
def LinProvesUptoSaid : Prop := linProvesUptoRow.holds Try.pinned (OpenSpec.upto linProvesSpec)

end Rows
end Go.Proofs.Ytaoagcdljmpllaa
