/-
  No cell of these rows narrows 'for every input' (looked for: loops, veiled, ifaces, maps, wideKeys, modest, calm, conditions, laid).
  DERIVED. THE GIVEN ROWS OF THIS SEAT. 6 by the template 'for every input the law returns true; each argument reads behind the call as it read before'; 0 by the template 'total and deterministic' (their statements: YtaffaalpgpepeaaTotals.lean).
  GIVEN WITH THE SEED: the statements are not yours to turn. If you find one false, say at which input.
  Laid BY PROGRAM, IN A SANDBOX (cutbox-rows.mjs): the forced cells as the released guide's own fill.sh prints them over the translation 05bed18c509e0a72… (all of the seat's roots in one cut). By AI agents, Wed Nov 11 2026. No macro, syntax, notation, axiom, sorry.
-/
import Derived.Test.YtaffaalpgpepeaaChecked
import GoSem.Claim
import GoSem.ClaimJoined
import GoSem.ClaimMapViews
import Derived.JoinedTies
import Derived.KernelRfl
namespace Go.Proofs.Ytaffaalpgpepeaa
/- THE CELL 'sum', in the pinned program and in every row, IS THE sha256 OF THE DUMP (.gsa) THAT YtaffaalpgpepeaaProg.lean LOADS. Nothing in Lean hashes anything: it is a label: what it is worth is what the hold of that sum in a sandbox is worth. -/
noncomputable def Try.pinned : Pinned := { name := "ytaffaalpgpepeaa", sum := "05bed18c509e0a7229652a375d97cc1d8eb904dcfd356b6a71ee74f956777703", checked := Try.checked }
namespace Rows
def none {H : Type} : Left H := { results := [], args := [] }

/-- 'towlinelaw14.PlanNext': WHATEVER THE INPUT: true; the input reads as it did. -/
def planNextSpec : ChangeSpec := { name := "planNext", fn := fun _ => fun
  | [d1, d2, d3, d4] => { results := [.lit (.bool true)], args := [d1, d2, d3, d4] }
  | _ => none }
def planNextRow : OpenClaim := { program := "ytaffaalpgpepeaa", sum := "05bed18c509e0a7229652a375d97cc1d8eb904dcfd356b6a71ee74f956777703", func := "towline/towlinelaw14.PlanNext", spec := "planNext", inPlace := ["slices.overlaps[towline/api.Member]"], unfollowed := true, recurses := true, apart := false }
def PlanNextSaid : Prop := planNextRow.holds Try.pinned (OpenSpec.ofChange planNextSpec)

/-- ITS FALSE NEIGHBOUR: 'it returns false'. Refute it at one input. -/
def planNextWrong : ChangeSpec := { name := "planNext", fn := fun _ => fun
  | [d1, d2, d3, d4] => { results := [.lit (.bool false)], args := [d1, d2, d3, d4] }
  | _ => none }
def PlanNextWrongFalsely : Prop := planNextRow.holds Try.pinned (OpenSpec.ofChange planNextWrong)

/-- 'towlinelaw14.PlanAll': WHATEVER THE INPUT: true; the input reads as it did. -/
def planAllSpec : ChangeSpec := { name := "planAll", fn := fun _ => fun
  | [d1, d2, d3, d4] => { results := [.lit (.bool true)], args := [d1, d2, d3, d4] }
  | _ => none }
def planAllRow : OpenClaim := { program := "ytaffaalpgpepeaa", sum := "05bed18c509e0a7229652a375d97cc1d8eb904dcfd356b6a71ee74f956777703", func := "towline/towlinelaw14.PlanAll", spec := "planAll", inPlace := ["slices.overlaps[towline/api.Member]"], unfollowed := true, recurses := true, apart := false }
def PlanAllSaid : Prop := planAllRow.holds Try.pinned (OpenSpec.ofChange planAllSpec)

/-- ITS FALSE NEIGHBOUR: 'it returns false'. Refute it at one input. -/
def planAllWrong : ChangeSpec := { name := "planAll", fn := fun _ => fun
  | [d1, d2, d3, d4] => { results := [.lit (.bool false)], args := [d1, d2, d3, d4] }
  | _ => none }
def PlanAllWrongFalsely : Prop := planAllRow.holds Try.pinned (OpenSpec.ofChange planAllWrong)

/-- 'towlinelaw14.PlanEnds': WHATEVER THE INPUT: true; the input reads as it did. -/
def planEndsSpec : ChangeSpec := { name := "planEnds", fn := fun _ => fun
  | [d1, d2, d3, d4] => { results := [.lit (.bool true)], args := [d1, d2, d3, d4] }
  | _ => none }
def planEndsRow : OpenClaim := { program := "ytaffaalpgpepeaa", sum := "05bed18c509e0a7229652a375d97cc1d8eb904dcfd356b6a71ee74f956777703", func := "towline/towlinelaw14.PlanEnds", spec := "planEnds", inPlace := ["slices.overlaps[towline/api.Member]"], unfollowed := true, recurses := true, apart := false }
def PlanEndsSaid : Prop := planEndsRow.holds Try.pinned (OpenSpec.ofChange planEndsSpec)

/-- ITS FALSE NEIGHBOUR: 'it returns false'. Refute it at one input. -/
def planEndsWrong : ChangeSpec := { name := "planEnds", fn := fun _ => fun
  | [d1, d2, d3, d4] => { results := [.lit (.bool false)], args := [d1, d2, d3, d4] }
  | _ => none }
def PlanEndsWrongFalsely : Prop := planEndsRow.holds Try.pinned (OpenSpec.ofChange planEndsWrong)

/-- 'towlinelaw14.PlanChecks': WHATEVER THE INPUT: true; the input reads as it did. -/
def planChecksSpec : ChangeSpec := { name := "planChecks", fn := fun _ => fun
  | [d1, d2, d3] => { results := [.lit (.bool true)], args := [d1, d2, d3] }
  | _ => none }
def planChecksRow : OpenClaim := { program := "ytaffaalpgpepeaa", sum := "05bed18c509e0a7229652a375d97cc1d8eb904dcfd356b6a71ee74f956777703", func := "towline/towlinelaw14.PlanChecks", spec := "planChecks", inPlace := ["slices.overlaps[towline/api.Member]"], unfollowed := true, recurses := true, apart := false }
def PlanChecksSaid : Prop := planChecksRow.holds Try.pinned (OpenSpec.ofChange planChecksSpec)

/-- ITS FALSE NEIGHBOUR: 'it returns false'. Refute it at one input. -/
def planChecksWrong : ChangeSpec := { name := "planChecks", fn := fun _ => fun
  | [d1, d2, d3] => { results := [.lit (.bool false)], args := [d1, d2, d3] }
  | _ => none }
def PlanChecksWrongFalsely : Prop := planChecksRow.holds Try.pinned (OpenSpec.ofChange planChecksWrong)

/-- 'towlinelaw14.PlanWished': WHATEVER THE INPUT: true; the input reads as it did. -/
def planWishedSpec : ChangeSpec := { name := "planWished", fn := fun _ => fun
  | [d1, d2, d3, d4] => { results := [.lit (.bool true)], args := [d1, d2, d3, d4] }
  | _ => none }
def planWishedRow : OpenClaim := { program := "ytaffaalpgpepeaa", sum := "05bed18c509e0a7229652a375d97cc1d8eb904dcfd356b6a71ee74f956777703", func := "towline/towlinelaw14.PlanWished", spec := "planWished", inPlace := ["slices.overlaps[towline/api.Member]"], unfollowed := true, recurses := true, apart := false }
def PlanWishedSaid : Prop := planWishedRow.holds Try.pinned (OpenSpec.ofChange planWishedSpec)

/-- ITS FALSE NEIGHBOUR: 'it returns false'. Refute it at one input. -/
def planWishedWrong : ChangeSpec := { name := "planWished", fn := fun _ => fun
  | [d1, d2, d3, d4] => { results := [.lit (.bool false)], args := [d1, d2, d3, d4] }
  | _ => none }
def PlanWishedWrongFalsely : Prop := planWishedRow.holds Try.pinned (OpenSpec.ofChange planWishedWrong)

/-- 'towlinelaw14.PlanSafe': WHATEVER THE INPUT: true; the input reads as it did. -/
def planSafeSpec : ChangeSpec := { name := "planSafe", fn := fun _ => fun
  | [d1, d2, d3, d4] => { results := [.lit (.bool true)], args := [d1, d2, d3, d4] }
  | _ => none }
def planSafeRow : OpenClaim := { program := "ytaffaalpgpepeaa", sum := "05bed18c509e0a7229652a375d97cc1d8eb904dcfd356b6a71ee74f956777703", func := "towline/towlinelaw14.PlanSafe", spec := "planSafe", inPlace := ["slices.overlaps[towline/api.Member]"], unfollowed := true, recurses := true, apart := false }
def PlanSafeSaid : Prop := planSafeRow.holds Try.pinned (OpenSpec.ofChange planSafeSpec)

/-- ITS FALSE NEIGHBOUR: 'it returns false'. Refute it at one input. -/
def planSafeWrong : ChangeSpec := { name := "planSafe", fn := fun _ => fun
  | [d1, d2, d3, d4] => { results := [.lit (.bool false)], args := [d1, d2, d3, d4] }
  | _ => none }
def PlanSafeWrongFalsely : Prop := planSafeRow.holds Try.pinned (OpenSpec.ofChange planSafeWrong)

/- THE SECOND FORM. 'bulk': how many values and letters a reading holds, each counted each time it is reached (what is shared counts as often as it is met; a slice's spare places count too). A statement '..UptoSaid' is the law's where the arguments, and the package variables that the reading takes, are together of bulk at most 1048576: NARROWER than '..Said'. Prove '..Said' where nothing that the law and all that it calls make is longer than what came in: it says more and counts as full. Else prove '..UptoSaid'. A law counts once. -/
mutual
def uptoBulk {H : Type} : DataW H → Nat
  | .lit (.string bytes) => bytes.length + 1
  | .lit _ => 1
  | .nil => 1
  | .ptr d => uptoBulk d + 1
  | .slice elems spare => uptoBulkAll elems + uptoBulkAll spare + 1
  | .agg parts => uptoBulkAll parts + 1
  | .iface _ d => uptoBulk d + 1
  | .map entries => uptoBulkEntries entries + 1
  | .held _ => 1
def uptoBulkAll {H : Type} : List (DataW H) → Nat
  | [] => 0
  | d :: r => uptoBulk d + uptoBulkAll r
def uptoBulkEntries {H : Type} : List (Lit × DataW H) → Nat
  | [] => 0
  | x :: r => uptoBulkEntry x + uptoBulkEntries r
def uptoBulkEntry {H : Type} : Lit × DataW H → Nat
  | (.string bytes, d) => bytes.length + uptoBulk d + 1
  | (_, d) => uptoBulk d + 1
 end
def uptoSmall : (H : Type) → List (DataW H) → Bool := fun _ ds => decide (uptoBulkAll ds ≤ 1048576)
def OpenSpec.upto (s : _root_.Go.ChangeSpec) : _root_.Go.OpenSpec := { _root_.Go.OpenSpec.ofChange s with cond := some uptoSmall }

/-- 'towlinelaw14.PlanNext', WHERE WHAT IT READS IS OF BULK AT MOST 1048576: true; the input reads as it did. -/
def planNextUptoRow : OpenClaim := { program := "ytaffaalpgpepeaa", sum := "05bed18c509e0a7229652a375d97cc1d8eb904dcfd356b6a71ee74f956777703", func := "towline/towlinelaw14.PlanNext", spec := "planNext", inPlace := ["slices.overlaps[towline/api.Member]"], unfollowed := true, recurses := true, apart := false, narrowed := true }
def PlanNextUptoSaid : Prop := planNextUptoRow.holds Try.pinned (OpenSpec.upto planNextSpec)

/-- 'towlinelaw14.PlanAll', WHERE WHAT IT READS IS OF BULK AT MOST 1048576: true; the input reads as it did. -/
def planAllUptoRow : OpenClaim := { program := "ytaffaalpgpepeaa", sum := "05bed18c509e0a7229652a375d97cc1d8eb904dcfd356b6a71ee74f956777703", func := "towline/towlinelaw14.PlanAll", spec := "planAll", inPlace := ["slices.overlaps[towline/api.Member]"], unfollowed := true, recurses := true, apart := false, narrowed := true }
def PlanAllUptoSaid : Prop := planAllUptoRow.holds Try.pinned (OpenSpec.upto planAllSpec)

/-- 'towlinelaw14.PlanEnds', WHERE WHAT IT READS IS OF BULK AT MOST 1048576: true; the input reads as it did. -/
def planEndsUptoRow : OpenClaim := { program := "ytaffaalpgpepeaa", sum := "05bed18c509e0a7229652a375d97cc1d8eb904dcfd356b6a71ee74f956777703", func := "towline/towlinelaw14.PlanEnds", spec := "planEnds", inPlace := ["slices.overlaps[towline/api.Member]"], unfollowed := true, recurses := true, apart := false, narrowed := true }
def PlanEndsUptoSaid : Prop := planEndsUptoRow.holds Try.pinned (OpenSpec.upto planEndsSpec)

/-- 'towlinelaw14.PlanChecks', WHERE WHAT IT READS IS OF BULK AT MOST 1048576: true; the input reads as it did. -/
def planChecksUptoRow : OpenClaim := { program := "ytaffaalpgpepeaa", sum := "05bed18c509e0a7229652a375d97cc1d8eb904dcfd356b6a71ee74f956777703", func := "towline/towlinelaw14.PlanChecks", spec := "planChecks", inPlace := ["slices.overlaps[towline/api.Member]"], unfollowed := true, recurses := true, apart := false, narrowed := true }
def PlanChecksUptoSaid : Prop := planChecksUptoRow.holds Try.pinned (OpenSpec.upto planChecksSpec)

/-- 'towlinelaw14.PlanWished', WHERE WHAT IT READS IS OF BULK AT MOST 1048576: true; the input reads as it did. -/
def planWishedUptoRow : OpenClaim := { program := "ytaffaalpgpepeaa", sum := "05bed18c509e0a7229652a375d97cc1d8eb904dcfd356b6a71ee74f956777703", func := "towline/towlinelaw14.PlanWished", spec := "planWished", inPlace := ["slices.overlaps[towline/api.Member]"], unfollowed := true, recurses := true, apart := false, narrowed := true }
def PlanWishedUptoSaid : Prop := planWishedUptoRow.holds Try.pinned (OpenSpec.upto planWishedSpec)

/-- 'towlinelaw14.PlanSafe', WHERE WHAT IT READS IS OF BULK AT MOST 1048576: true; the input reads as it did. -/
def planSafeUptoRow : OpenClaim := { program := "ytaffaalpgpepeaa", sum := "05bed18c509e0a7229652a375d97cc1d8eb904dcfd356b6a71ee74f956777703", func := "towline/towlinelaw14.PlanSafe", spec := "planSafe", inPlace := ["slices.overlaps[towline/api.Member]"], unfollowed := true, recurses := true, apart := false, narrowed := true }
def PlanSafeUptoSaid : Prop := planSafeUptoRow.holds Try.pinned (OpenSpec.upto planSafeSpec)

end Rows
end Go.Proofs.Ytaffaalpgpepeaa
