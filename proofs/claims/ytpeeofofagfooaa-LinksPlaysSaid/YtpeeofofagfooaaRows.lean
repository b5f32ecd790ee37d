/-
  No cell of these rows narrows 'for every input' (looked for: loops, veiled, ifaces, maps, wideKeys, modest, calm, conditions, laid).
  DERIVED. THE GIVEN ROWS OF THIS SEAT. 7 by the template 'for every input the law returns true; each argument reads behind the call as it read before'; 0 by the template 'total and deterministic' (their statements: YtpeeofofagfooaaTotals.lean).
  GIVEN WITH THE SEED: the statements are not yours to turn. If you find one false, say at which input.
  Laid BY PROGRAM, IN A SANDBOX (cutbox-rows.mjs): the forced cells as the released guide's own fill.sh prints them over the translation 320f3582298f2c26… (all of the seat's roots in one cut). By AI agents, Wed Nov 11 2026. No macro, syntax, notation, axiom, sorry.
-/
import Derived.Test.YtpeeofofagfooaaChecked
import GoSem.Claim
import GoSem.ClaimJoined
import GoSem.ClaimMapViews
import Derived.JoinedTies
import Derived.KernelRfl
namespace Go.Proofs.Ytpeeofofagfooaa
/- THE CELL 'sum', in the pinned program and in every row, IS THE sha256 OF THE DUMP (.gsa) THAT YtpeeofofagfooaaProg.lean LOADS. Nothing in Lean hashes anything: it is a label: what it is worth is what the hold of that sum in a sandbox is worth. -/
noncomputable def Try.pinned : Pinned := { name := "ytpeeofofagfooaa", sum := "320f3582298f2c263861b4cf42cd765118141a250f86dd9954310446e03a4815", checked := Try.checked }
namespace Rows
def none {H : Type} : Left H := { results := [], args := [] }

/-- 'towlinelaw04.LinksOnce': WHATEVER THE INPUT: true; the input reads as it did. -/
def linksOnceSpec : ChangeSpec := { name := "linksOnce", fn := fun _ => fun
  | [d] => { results := [.lit (.bool true)], args := [d] }
  | _ => none }
def linksOnceRow : OpenClaim := { program := "ytpeeofofagfooaa", sum := "320f3582298f2c263861b4cf42cd765118141a250f86dd9954310446e03a4815", func := "towline/towlinelaw04.LinksOnce", spec := "linksOnce", plainKeys := false, apart := false }
def LinksOnceSaid : Prop := linksOnceRow.holds Try.pinned (OpenSpec.ofChange linksOnceSpec)

/-- ITS FALSE NEIGHBOUR: 'it returns false'. Refute it at one input. -/
def linksOnceWrong : ChangeSpec := { name := "linksOnce", fn := fun _ => fun
  | [d] => { results := [.lit (.bool false)], args := [d] }
  | _ => none }
def LinksOnceWrongFalsely : Prop := linksOnceRow.holds Try.pinned (OpenSpec.ofChange linksOnceWrong)

/-- 'towlinelaw04.LinksRoom': WHATEVER THE INPUT: true; the input reads as it did. -/
def linksRoomSpec : ChangeSpec := { name := "linksRoom", fn := fun _ => fun
  | [d] => { results := [.lit (.bool true)], args := [d] }
  | _ => none }
def linksRoomRow : OpenClaim := { program := "ytpeeofofagfooaa", sum := "320f3582298f2c263861b4cf42cd765118141a250f86dd9954310446e03a4815", func := "towline/towlinelaw04.LinksRoom", spec := "linksRoom", unfollowed := true, recurses := true, plainKeys := false, apart := false }
def LinksRoomSaid : Prop := linksRoomRow.holds Try.pinned (OpenSpec.ofChange linksRoomSpec)

/-- ITS FALSE NEIGHBOUR: 'it returns false'. Refute it at one input. -/
def linksRoomWrong : ChangeSpec := { name := "linksRoom", fn := fun _ => fun
  | [d] => { results := [.lit (.bool false)], args := [d] }
  | _ => none }
def LinksRoomWrongFalsely : Prop := linksRoomRow.holds Try.pinned (OpenSpec.ofChange linksRoomWrong)

/-- 'towlinelaw04.LinksApart': WHATEVER THE INPUT: true; the input reads as it did. -/
def linksApartSpec : ChangeSpec := { name := "linksApart", fn := fun _ => fun
  | [d1, d2] => { results := [.lit (.bool true)], args := [d1, d2] }
  | _ => none }
def linksApartRow : OpenClaim := { program := "ytpeeofofagfooaa", sum := "320f3582298f2c263861b4cf42cd765118141a250f86dd9954310446e03a4815", func := "towline/towlinelaw04.LinksApart", spec := "linksApart", unfollowed := true, recurses := true, plainKeys := false, apart := false }
def LinksApartSaid : Prop := linksApartRow.holds Try.pinned (OpenSpec.ofChange linksApartSpec)

/-- ITS FALSE NEIGHBOUR: 'it returns false'. Refute it at one input. -/
def linksApartWrong : ChangeSpec := { name := "linksApart", fn := fun _ => fun
  | [d1, d2] => { results := [.lit (.bool false)], args := [d1, d2] }
  | _ => none }
def LinksApartWrongFalsely : Prop := linksApartRow.holds Try.pinned (OpenSpec.ofChange linksApartWrong)

/-- 'towlinelaw04.LinksPlays': WHATEVER THE INPUT: true; the input reads as it did. -/
def linksPlaysSpec : ChangeSpec := { name := "linksPlays", fn := fun _ => fun
  | [d1, d2] => { results := [.lit (.bool true)], args := [d1, d2] }
  | _ => none }
def linksPlaysRow : OpenClaim := { program := "ytpeeofofagfooaa", sum := "320f3582298f2c263861b4cf42cd765118141a250f86dd9954310446e03a4815", func := "towline/towlinelaw04.LinksPlays", spec := "linksPlays", unfollowed := true, recurses := true, plainKeys := false, apart := false }
def LinksPlaysSaid : Prop := linksPlaysRow.holds Try.pinned (OpenSpec.ofChange linksPlaysSpec)

/-- ITS FALSE NEIGHBOUR: 'it returns false'. Refute it at one input. -/
def linksPlaysWrong : ChangeSpec := { name := "linksPlays", fn := fun _ => fun
  | [d1, d2] => { results := [.lit (.bool false)], args := [d1, d2] }
  | _ => none }
def LinksPlaysWrongFalsely : Prop := linksPlaysRow.holds Try.pinned (OpenSpec.ofChange linksPlaysWrong)

/-- 'towlinelaw04.LinksRefused': WHATEVER THE INPUT: true; the input reads as it did. -/
def linksRefusedSpec : ChangeSpec := { name := "linksRefused", fn := fun _ => fun
  | [d1, d2] => { results := [.lit (.bool true)], args := [d1, d2] }
  | _ => none }
def linksRefusedRow : OpenClaim := { program := "ytpeeofofagfooaa", sum := "320f3582298f2c263861b4cf42cd765118141a250f86dd9954310446e03a4815", func := "towline/towlinelaw04.LinksRefused", spec := "linksRefused", unfollowed := true, recurses := true, plainKeys := false, apart := false }
def LinksRefusedSaid : Prop := linksRefusedRow.holds Try.pinned (OpenSpec.ofChange linksRefusedSpec)

/-- ITS FALSE NEIGHBOUR: 'it returns false'. Refute it at one input. -/
def linksRefusedWrong : ChangeSpec := { name := "linksRefused", fn := fun _ => fun
  | [d1, d2] => { results := [.lit (.bool false)], args := [d1, d2] }
  | _ => none }
def LinksRefusedWrongFalsely : Prop := linksRefusedRow.holds Try.pinned (OpenSpec.ofChange linksRefusedWrong)

/-- 'towlinelaw04.LinksNobody': WHATEVER THE INPUT: true; the input reads as it did. -/
def linksNobodySpec : ChangeSpec := { name := "linksNobody", fn := fun _ => fun
  | [d] => { results := [.lit (.bool true)], args := [d] }
  | _ => none }
def linksNobodyRow : OpenClaim := { program := "ytpeeofofagfooaa", sum := "320f3582298f2c263861b4cf42cd765118141a250f86dd9954310446e03a4815", func := "towline/towlinelaw04.LinksNobody", spec := "linksNobody", unfollowed := true, recurses := true, plainKeys := false, apart := false }
def LinksNobodySaid : Prop := linksNobodyRow.holds Try.pinned (OpenSpec.ofChange linksNobodySpec)

/-- ITS FALSE NEIGHBOUR: 'it returns false'. Refute it at one input. -/
def linksNobodyWrong : ChangeSpec := { name := "linksNobody", fn := fun _ => fun
  | [d] => { results := [.lit (.bool false)], args := [d] }
  | _ => none }
def LinksNobodyWrongFalsely : Prop := linksNobodyRow.holds Try.pinned (OpenSpec.ofChange linksNobodyWrong)

/-- 'towlinelaw04.LinksTwins': WHATEVER THE INPUT: true; the input reads as it did. -/
def linksTwinsSpec : ChangeSpec := { name := "linksTwins", fn := fun _ => fun
  | [d1, d2, d3] => { results := [.lit (.bool true)], args := [d1, d2, d3] }
  | _ => none }
def linksTwinsRow : OpenClaim := { program := "ytpeeofofagfooaa", sum := "320f3582298f2c263861b4cf42cd765118141a250f86dd9954310446e03a4815", func := "towline/towlinelaw04.LinksTwins", spec := "linksTwins", unfollowed := true, recurses := true, plainKeys := false, apart := false }
def LinksTwinsSaid : Prop := linksTwinsRow.holds Try.pinned (OpenSpec.ofChange linksTwinsSpec)

/-- ITS FALSE NEIGHBOUR: 'it returns false'. Refute it at one input. -/
def linksTwinsWrong : ChangeSpec := { name := "linksTwins", fn := fun _ => fun
  | [d1, d2, d3] => { results := [.lit (.bool false)], args := [d1, d2, d3] }
  | _ => none }
def LinksTwinsWrongFalsely : Prop := linksTwinsRow.holds Try.pinned (OpenSpec.ofChange linksTwinsWrong)

/- THE SECOND FORM. 'bulk': how many values and letters a reading holds, each counted each time it is reached (what is shared counts as often as it is met; a slice's spare places count too). A statement '..UptoSaid' is the law's where the arguments, and the package variables that the reading takes, are together of bulk at most 1048576: NARROWER than '..Said'. Prove '..Said' where nothing that the law and all that it calls make is longer than what came in: it says more and counts as full. Else prove '..UptoSaid'. A law counts once. -/
mutual
def uptoBulk {H : Type} : DataW H → Nat
  | .lit (.string bytes) => bytes.length + 1
  | .lit _ => 1
  | .nil => 1
  | .ptr d => uptoBulk d + 1
  | .slice elems spare => uptoBulkAll elems + uptoBulkAll spare + 1
  | .agg parts => uptoBulkAll parts + 1
  | .iface _ d => uptoBulk d + 1
  | .map entries => uptoBulkEntries entries + 1
  | .held _ => 1
def uptoBulkAll {H : Type} : List (DataW H) → Nat
  | [] => 0
  | d :: r => uptoBulk d + uptoBulkAll r
def uptoBulkEntries {H : Type} : List (Lit × DataW H) → Nat
  | [] => 0
  | x :: r => uptoBulkEntry x + uptoBulkEntries r
def uptoBulkEntry {H : Type} : Lit × DataW H → Nat
  | (.string bytes, d) => bytes.length + uptoBulk d + 1
  | (_, d) => uptoBulk d + 1
 end
def uptoSmall : (H : Type) → List (DataW H) → Bool := fun _ ds => decide (uptoBulkAll ds ≤ 1048576)
def OpenSpec.upto (s : _root_.Go.ChangeSpec) : _root_.Go.OpenSpec := { _root_.Go.OpenSpec.ofChange s with cond := some uptoSmall }

/-- 'towlinelaw04.LinksOnce', WHERE WHAT IT READS IS OF BULK AT MOST 1048576: true; the input reads as it did. -/
def linksOnceUptoRow : OpenClaim := { program := "ytpeeofofagfooaa", sum := "320f3582298f2c263861b4cf42cd765118141a250f86dd9954310446e03a4815", func := "towline/towlinelaw04.LinksOnce", spec := "linksOnce", plainKeys := false, apart := false, narrowed := true }
def LinksOnceUptoSaid : Prop := linksOnceUptoRow.holds Try.pinned (OpenSpec.upto linksOnceSpec)

/-- 'towlinelaw04.LinksRoom', WHERE WHAT IT READS IS OF BULK AT MOST 1048576: true; the input reads as it did. -/
def linksRoomUptoRow : OpenClaim := { program := "ytpeeofofagfooaa", sum := "320f3582298f2c263861b4cf42cd765118141a250f86dd9954310446e03a4815", func := "towline/towlinelaw04.LinksRoom", spec := "linksRoom", unfollowed := true, recurses := true, plainKeys := false, apart := false, narrowed := true }
def LinksRoomUptoSaid : Prop := linksRoomUptoRow.holds Try.pinned (OpenSpec.upto linksRoomSpec)

/-- 'towlinelaw04.LinksApart', WHERE WHAT IT READS IS OF BULK AT MOST 1048576: true; the input reads as it did. -/
def linksApartUptoRow : OpenClaim := { program := "ytpeeofofagfooaa", sum := "320f3582298f2c263861b4cf42cd765118141a250f86dd9954310446e03a4815", func := "towline/towlinelaw04.LinksApart", spec := "linksApart", unfollowed := true, recurses := true, plainKeys := false, apart := false, narrowed := true }
def LinksApartUptoSaid : Prop := linksApartUptoRow.holds Try.pinned (OpenSpec.upto linksApartSpec)

/-- 'towlinelaw04.LinksPlays', WHERE WHAT IT READS IS OF BULK AT MOST 1048576: true; the input reads as it did. -/
def linksPlaysUptoRow : OpenClaim := { program := "ytpeeofofagfooaa", sum := "320f3582298f2c263861b4cf42cd765118141a250f86dd9954310446e03a4815", func := "towline/towlinelaw04.LinksPlays", spec := "linksPlays", unfollowed := true, recurses := true, plainKeys := false, apart := false, narrowed := true }
def LinksPlaysUptoSaid : Prop := linksPlaysUptoRow.holds Try.pinned (OpenSpec.upto linksPlaysSpec)

/-- 'towlinelaw04.LinksRefused', WHERE WHAT IT READS IS OF BULK AT MOST 1048576: true; the input reads as it did. -/
def linksRefusedUptoRow : OpenClaim := { program := "ytpeeofofagfooaa", sum := "320f3582298f2c263861b4cf42cd765118141a250f86dd9954310446e03a4815", func := "towline/towlinelaw04.LinksRefused", spec := "linksRefused", unfollowed := true, recurses := true, plainKeys := false, apart := false, narrowed := true }
def LinksRefusedUptoSaid : Prop := linksRefusedUptoRow.holds Try.pinned (OpenSpec.upto linksRefusedSpec)

/-- 'towlinelaw04.LinksNobody', WHERE WHAT IT READS IS OF BULK AT MOST 1048576: true; the input reads as it did. -/
def linksNobodyUptoRow : OpenClaim := { program := "ytpeeofofagfooaa", sum := "320f3582298f2c263861b4cf42cd765118141a250f86dd9954310446e03a4815", func := "towline/towlinelaw04.LinksNobody", spec := "linksNobody", unfollowed := true, recurses := true, plainKeys := false, apart := false, narrowed := true }
def LinksNobodyUptoSaid : Prop := linksNobodyUptoRow.holds Try.pinned (OpenSpec.upto linksNobodySpec)

/-- 'towlinelaw04.LinksTwins', WHERE WHAT IT READS IS OF BULK AT MOST 1048576: true; the input reads as it did. -/
def linksTwinsUptoRow : OpenClaim := { program := "ytpeeofofagfooaa", sum := "320f3582298f2c263861b4cf42cd765118141a250f86dd9954310446e03a4815", func := "towline/towlinelaw04.LinksTwins", spec := "linksTwins", unfollowed := true, recurses := true, plainKeys := false, apart := false, narrowed := true }
def LinksTwinsUptoSaid : Prop := linksTwinsUptoRow.holds Try.pinned (OpenSpec.upto linksTwinsSpec)

end Rows
end Go.Proofs.Ytpeeofofagfooaa
