/-
  No cell of these rows narrows 'for every input' (looked for: loops, veiled, ifaces, maps, wideKeys, modest, calm, conditions, laid).
  DERIVED. THE GIVEN ROWS OF THIS SEAT. 8 by the template 'for every input the law returns true; each argument reads behind the call as it read before'; 0 by the template 'total and deterministic' (their statements: YtihccnkegkkikaaTotals.lean).
  GIVEN WITH THE SEED: the statements are not yours to turn. If you find one false, say at which input.
  Laid BY PROGRAM, IN A SANDBOX (cutbox-rows.mjs): the forced cells as the released guide's own fill.sh prints them over the translation 745c804c9ec6e821… (all of the seat's roots in one cut). By AI agents, Wed Nov 11 2026. No macro, syntax, notation, axiom, sorry.
-/
import Derived.Test.YtihccnkegkkikaaChecked
import GoSem.Claim
import GoSem.ClaimJoined
import GoSem.ClaimMapViews
import Derived.JoinedTies
import Derived.KernelRfl
namespace Go.Proofs.Ytihccnkegkkikaa
/- THE CELL 'sum', in the pinned program and in every row, IS THE sha256 OF THE DUMP (.gsa) THAT YtihccnkegkkikaaProg.lean LOADS. Nothing in Lean hashes anything: it is a label: what it is worth is what the hold of that sum in a sandbox is worth. -/
noncomputable def Try.pinned : Pinned := { name := "ytihccnkegkkikaa", sum := "745c804c9ec6e8212ea75b45ba299bf69643ffc7cc361d92d56e5a3d6084a9f9", checked := Try.checked }
namespace Rows
def none {H : Type} : Left H := { results := [], args := [] }

/-- 'towlinelaw13.RouteReads': WHATEVER THE INPUT: true; the input reads as it did. -/
def routeReadsSpec : ChangeSpec := { name := "routeReads", fn := fun _ => fun
  | [d1, d2, d3, d4, d5, d6] => { results := [.lit (.bool true)], args := [d1, d2, d3, d4, d5, d6] }
  | _ => none }
def routeReadsRow : OpenClaim := { program := "ytihccnkegkkikaa", sum := "745c804c9ec6e8212ea75b45ba299bf69643ffc7cc361d92d56e5a3d6084a9f9", func := "towline/towlinelaw13.RouteReads", spec := "routeReads", unfollowed := true, recurses := true, apart := false }
def RouteReadsSaid : Prop := routeReadsRow.holds Try.pinned (OpenSpec.ofChange routeReadsSpec)

/-- ITS FALSE NEIGHBOUR: 'it returns false'. Refute it at one input. -/
def routeReadsWrong : ChangeSpec := { name := "routeReads", fn := fun _ => fun
  | [d1, d2, d3, d4, d5, d6] => { results := [.lit (.bool false)], args := [d1, d2, d3, d4, d5, d6] }
  | _ => none }
def RouteReadsWrongFalsely : Prop := routeReadsRow.holds Try.pinned (OpenSpec.ofChange routeReadsWrong)

/-- 'towlinelaw13.RouteNear': WHATEVER THE INPUT: true; the input reads as it did. -/
def routeNearSpec : ChangeSpec := { name := "routeNear", fn := fun _ => fun
  | [d1, d2, d3] => { results := [.lit (.bool true)], args := [d1, d2, d3] }
  | _ => none }
def routeNearRow : OpenClaim := { program := "ytihccnkegkkikaa", sum := "745c804c9ec6e8212ea75b45ba299bf69643ffc7cc361d92d56e5a3d6084a9f9", func := "towline/towlinelaw13.RouteNear", spec := "routeNear", unfollowed := true, recurses := true, apart := false }
def RouteNearSaid : Prop := routeNearRow.holds Try.pinned (OpenSpec.ofChange routeNearSpec)

/-- ITS FALSE NEIGHBOUR: 'it returns false'. Refute it at one input. -/
def routeNearWrong : ChangeSpec := { name := "routeNear", fn := fun _ => fun
  | [d1, d2, d3] => { results := [.lit (.bool false)], args := [d1, d2, d3] }
  | _ => none }
def RouteNearWrongFalsely : Prop := routeNearRow.holds Try.pinned (OpenSpec.ofChange routeNearWrong)

/-- 'towlinelaw13.RouteEach': WHATEVER THE INPUT: true; the input reads as it did. -/
def routeEachSpec : ChangeSpec := { name := "routeEach", fn := fun _ => fun
  | [d1, d2, d3] => { results := [.lit (.bool true)], args := [d1, d2, d3] }
  | _ => none }
def routeEachRow : OpenClaim := { program := "ytihccnkegkkikaa", sum := "745c804c9ec6e8212ea75b45ba299bf69643ffc7cc361d92d56e5a3d6084a9f9", func := "towline/towlinelaw13.RouteEach", spec := "routeEach", unfollowed := true, recurses := true, apart := false }
def RouteEachSaid : Prop := routeEachRow.holds Try.pinned (OpenSpec.ofChange routeEachSpec)

/-- ITS FALSE NEIGHBOUR: 'it returns false'. Refute it at one input. -/
def routeEachWrong : ChangeSpec := { name := "routeEach", fn := fun _ => fun
  | [d1, d2, d3] => { results := [.lit (.bool false)], args := [d1, d2, d3] }
  | _ => none }
def RouteEachWrongFalsely : Prop := routeEachRow.holds Try.pinned (OpenSpec.ofChange routeEachWrong)

/-- 'towlinelaw13.RouteChecks': WHATEVER THE INPUT: true; the input reads as it did. -/
def routeChecksSpec : ChangeSpec := { name := "routeChecks", fn := fun _ => fun
  | [d] => { results := [.lit (.bool true)], args := [d] }
  | _ => none }
def routeChecksRow : OpenClaim := { program := "ytihccnkegkkikaa", sum := "745c804c9ec6e8212ea75b45ba299bf69643ffc7cc361d92d56e5a3d6084a9f9", func := "towline/towlinelaw13.RouteChecks", spec := "routeChecks", unfollowed := true, recurses := true, apart := false }
def RouteChecksSaid : Prop := routeChecksRow.holds Try.pinned (OpenSpec.ofChange routeChecksSpec)

/-- ITS FALSE NEIGHBOUR: 'it returns false'. Refute it at one input. -/
def routeChecksWrong : ChangeSpec := { name := "routeChecks", fn := fun _ => fun
  | [d] => { results := [.lit (.bool false)], args := [d] }
  | _ => none }
def RouteChecksWrongFalsely : Prop := routeChecksRow.holds Try.pinned (OpenSpec.ofChange routeChecksWrong)

/-- 'towlinelaw13.RouteDirect': WHATEVER THE INPUT: true; the input reads as it did. -/
def routeDirectSpec : ChangeSpec := { name := "routeDirect", fn := fun _ => fun
  | [d] => { results := [.lit (.bool true)], args := [d] }
  | _ => none }
def routeDirectRow : OpenClaim := { program := "ytihccnkegkkikaa", sum := "745c804c9ec6e8212ea75b45ba299bf69643ffc7cc361d92d56e5a3d6084a9f9", func := "towline/towlinelaw13.RouteDirect", spec := "routeDirect", unfollowed := true, recurses := true, apart := false }
def RouteDirectSaid : Prop := routeDirectRow.holds Try.pinned (OpenSpec.ofChange routeDirectSpec)

/-- ITS FALSE NEIGHBOUR: 'it returns false'. Refute it at one input. -/
def routeDirectWrong : ChangeSpec := { name := "routeDirect", fn := fun _ => fun
  | [d] => { results := [.lit (.bool false)], args := [d] }
  | _ => none }
def RouteDirectWrongFalsely : Prop := routeDirectRow.holds Try.pinned (OpenSpec.ofChange routeDirectWrong)

/-- 'towlinelaw13.RouteBest': WHATEVER THE INPUT: true; the input reads as it did. -/
def routeBestSpec : ChangeSpec := { name := "routeBest", fn := fun _ => fun
  | [d1, d2, d3] => { results := [.lit (.bool true)], args := [d1, d2, d3] }
  | _ => none }
def routeBestRow : OpenClaim := { program := "ytihccnkegkkikaa", sum := "745c804c9ec6e8212ea75b45ba299bf69643ffc7cc361d92d56e5a3d6084a9f9", func := "towline/towlinelaw13.RouteBest", spec := "routeBest", unfollowed := true, recurses := true, apart := false }
def RouteBestSaid : Prop := routeBestRow.holds Try.pinned (OpenSpec.ofChange routeBestSpec)

/-- ITS FALSE NEIGHBOUR: 'it returns false'. Refute it at one input. -/
def routeBestWrong : ChangeSpec := { name := "routeBest", fn := fun _ => fun
  | [d1, d2, d3] => { results := [.lit (.bool false)], args := [d1, d2, d3] }
  | _ => none }
def RouteBestWrongFalsely : Prop := routeBestRow.holds Try.pinned (OpenSpec.ofChange routeBestWrong)

/-- 'towlinelaw13.RouteLeast': WHATEVER THE INPUT: true; the input reads as it did. -/
def routeLeastSpec : ChangeSpec := { name := "routeLeast", fn := fun _ => fun
  | [d1, d2, d3] => { results := [.lit (.bool true)], args := [d1, d2, d3] }
  | _ => none }
def routeLeastRow : OpenClaim := { program := "ytihccnkegkkikaa", sum := "745c804c9ec6e8212ea75b45ba299bf69643ffc7cc361d92d56e5a3d6084a9f9", func := "towline/towlinelaw13.RouteLeast", spec := "routeLeast", unfollowed := true, recurses := true, apart := false }
def RouteLeastSaid : Prop := routeLeastRow.holds Try.pinned (OpenSpec.ofChange routeLeastSpec)

/-- ITS FALSE NEIGHBOUR: 'it returns false'. Refute it at one input. -/
def routeLeastWrong : ChangeSpec := { name := "routeLeast", fn := fun _ => fun
  | [d1, d2, d3] => { results := [.lit (.bool false)], args := [d1, d2, d3] }
  | _ => none }
def RouteLeastWrongFalsely : Prop := routeLeastRow.holds Try.pinned (OpenSpec.ofChange routeLeastWrong)

/-- 'towlinelaw13.RouteTries': WHATEVER THE INPUT: true; the input reads as it did. -/
def routeTriesSpec : ChangeSpec := { name := "routeTries", fn := fun _ => fun
  | [d1, d2, d3, d4, d5] => { results := [.lit (.bool true)], args := [d1, d2, d3, d4, d5] }
  | _ => none }
def routeTriesRow : OpenClaim := { program := "ytihccnkegkkikaa", sum := "745c804c9ec6e8212ea75b45ba299bf69643ffc7cc361d92d56e5a3d6084a9f9", func := "towline/towlinelaw13.RouteTries", spec := "routeTries", unfollowed := true, recurses := true, apart := false }
def RouteTriesSaid : Prop := routeTriesRow.holds Try.pinned (OpenSpec.ofChange routeTriesSpec)

/-- ITS FALSE NEIGHBOUR: 'it returns false'. Refute it at one input. -/
def routeTriesWrong : ChangeSpec := { name := "routeTries", fn := fun _ => fun
  | [d1, d2, d3, d4, d5] => { results := [.lit (.bool false)], args := [d1, d2, d3, d4, d5] }
  | _ => none }
def RouteTriesWrongFalsely : Prop := routeTriesRow.holds Try.pinned (OpenSpec.ofChange routeTriesWrong)

/- THE SECOND FORM. 'bulk': how many values and letters a reading holds, each counted each time it is reached (what is shared counts as often as it is met; a slice's spare places count too). A statement '..UptoSaid' is the law's where the arguments, and the package variables that the reading takes, are together of bulk at most 1048576: NARROWER than '..Said'. Prove '..Said' where nothing that the law and all that it calls make is longer than what came in: it says more and counts as full. Else prove '..UptoSaid'. A law counts once. -/
mutual
def uptoBulk {H : Type} : DataW H → Nat
  | .lit (.string bytes) => bytes.length + 1
  | .lit _ => 1
  | .nil => 1
  | .ptr d => uptoBulk d + 1
  | .slice elems spare => uptoBulkAll elems + uptoBulkAll spare + 1
  | .agg parts => uptoBulkAll parts + 1
  | .iface _ d => uptoBulk d + 1
  | .map entries => uptoBulkEntries entries + 1
  | .held _ => 1
def uptoBulkAll {H : Type} : List (DataW H) → Nat
  | [] => 0
  | d :: r => uptoBulk d + uptoBulkAll r
def uptoBulkEntries {H : Type} : List (Lit × DataW H) → Nat
  | [] => 0
  | x :: r => uptoBulkEntry x + uptoBulkEntries r
def uptoBulkEntry {H : Type} : Lit × DataW H → Nat
  | (.string bytes, d) => bytes.length + uptoBulk d + 1
  | (_, d) => uptoBulk d + 1
 end
def uptoSmall : (H : Type) → List (DataW H) → Bool := fun _ ds => decide (uptoBulkAll ds ≤ 1048576)
def OpenSpec.upto (s : _root_.Go.ChangeSpec) : _root_.Go.OpenSpec := { _root_.Go.OpenSpec.ofChange s with cond := some uptoSmall }

/-- 'towlinelaw13.RouteReads', WHERE WHAT IT READS IS OF BULK AT MOST 1048576: true; the input reads as it did. -/
def routeReadsUptoRow : OpenClaim := { program := "ytihccnkegkkikaa", sum := "745c804c9ec6e8212ea75b45ba299bf69643ffc7cc361d92d56e5a3d6084a9f9", func := "towline/towlinelaw13.RouteReads", spec := "routeReads", unfollowed := true, recurses := true, apart := false, narrowed := true }
def RouteReadsUptoSaid : Prop := routeReadsUptoRow.holds Try.pinned (OpenSpec.upto routeReadsSpec)

/-- 'towlinelaw13.RouteNear', WHERE WHAT IT READS IS OF BULK AT MOST 1048576: true; the input reads as it did. -/
def routeNearUptoRow : OpenClaim := { program := "ytihccnkegkkikaa", sum := "745c804c9ec6e8212ea75b45ba299bf69643ffc7cc361d92d56e5a3d6084a9f9", func := "towline/towlinelaw13.RouteNear", spec := "routeNear", unfollowed := true, recurses := true, apart := false, narrowed := true }
def RouteNearUptoSaid : Prop := routeNearUptoRow.holds Try.pinned (OpenSpec.upto routeNearSpec)

/-- 'towlinelaw13.RouteEach', WHERE WHAT IT READS IS OF BULK AT MOST 1048576: true; the input reads as it did. -/
def routeEachUptoRow : OpenClaim := { program := "ytihccnkegkkikaa", sum := "745c804c9ec6e8212ea75b45ba299bf69643ffc7cc361d92d56e5a3d6084a9f9", func := "towline/towlinelaw13.RouteEach", spec := "routeEach", unfollowed := true, recurses := true, apart := false, narrowed := true }
def RouteEachUptoSaid : Prop := routeEachUptoRow.holds Try.pinned (OpenSpec.upto routeEachSpec)

/-- 'towlinelaw13.RouteChecks', WHERE WHAT IT READS IS OF BULK AT MOST 1048576: true; the input reads as it did. -/
def routeChecksUptoRow : OpenClaim := { program := "ytihccnkegkkikaa", sum := "745c804c9ec6e8212ea75b45ba299bf69643ffc7cc361d92d56e5a3d6084a9f9", func := "towline/towlinelaw13.RouteChecks", spec := "routeChecks", unfollowed := true, recurses := true, apart := false, narrowed := true }
def RouteChecksUptoSaid : Prop := routeChecksUptoRow.holds Try.pinned (OpenSpec.upto routeChecksSpec)

/-- 'towlinelaw13.RouteDirect', WHERE WHAT IT READS IS OF BULK AT MOST 1048576: true; the input reads as it did. -/
def routeDirectUptoRow : OpenClaim := { program := "ytihccnkegkkikaa", sum := "745c804c9ec6e8212ea75b45ba299bf69643ffc7cc361d92d56e5a3d6084a9f9", func := "towline/towlinelaw13.RouteDirect", spec := "routeDirect", unfollowed := true, recurses := true, apart := false, narrowed := true }
def RouteDirectUptoSaid : Prop := routeDirectUptoRow.holds Try.pinned (OpenSpec.upto routeDirectSpec)

/-- 'towlinelaw13.RouteBest', WHERE WHAT IT READS IS OF BULK AT MOST 1048576: true; the input reads as it did. -/
def routeBestUptoRow : OpenClaim := { program := "ytihccnkegkkikaa", sum := "745c804c9ec6e8212ea75b45ba299bf69643ffc7cc361d92d56e5a3d6084a9f9", func := "towline/towlinelaw13.RouteBest", spec := "routeBest", unfollowed := true, recurses := true, apart := false, narrowed := true }
def RouteBestUptoSaid : Prop := routeBestUptoRow.holds Try.pinned (OpenSpec.upto routeBestSpec)

/-- 'towlinelaw13.RouteLeast', WHERE WHAT IT READS IS OF BULK AT MOST 1048576: true; the input reads as it did. -/
def routeLeastUptoRow : OpenClaim := { program := "ytihccnkegkkikaa", sum := "745c804c9ec6e8212ea75b45ba299bf69643ffc7cc361d92d56e5a3d6084a9f9", func := "towline/towlinelaw13.RouteLeast", spec := "routeLeast", unfollowed := true, recurses := true, apart := false, narrowed := true }
def RouteLeastUptoSaid : Prop := routeLeastUptoRow.holds Try.pinned (OpenSpec.upto routeLeastSpec)

/-- 'towlinelaw13.RouteTries', WHERE WHAT IT READS IS OF BULK AT MOST 1048576: true; the input reads as it did. -/
def routeTriesUptoRow : OpenClaim := { program := "ytihccnkegkkikaa", sum := "745c804c9ec6e8212ea75b45ba299bf69643ffc7cc361d92d56e5a3d6084a9f9", func := "towline/towlinelaw13.RouteTries", spec := "routeTries", unfollowed := true, recurses := true, apart := false, narrowed := true }
def RouteTriesUptoSaid : Prop := routeTriesUptoRow.holds Try.pinned (OpenSpec.upto routeTriesSpec)

end Rows
end Go.Proofs.Ytihccnkegkkikaa
