/- The contracts of the laws LayoutPlaces and LayoutSets: each is true, whatever the input. No conditions. -/
import Derived.Test.YtjhphpoihadmkaaLayS
import Derived.Test.YtjhphpoihadmkaaLayB
import Derived.Test.YtjhphpoihadmkaaFlatB
namespace Go.Proofs.Ytjhphpoihadmkaa
open Go.Am
theorem layoutPlaces_calls (c : Chain) (_ : WT24 c) (n : Int) (_ : (Lit.int .i64 n).wf = true) : PCalls Try.prog 4 [.agg ((eChain.enc c).map .pv), .pv (.lit (.int .i64 n))] (.pv (.bool true)) := by
  cases hb : (decide ((c.members.D.length : Int) > 60))
  · have hs := of_decide_eq_false hb
    have h := lawPlaces_calls c n (by omega)
    rw [lawPlaces_true c n (by omega)] at h
    exact h
  · have h := biglawPlaces_calls c n hb
    rw [show biglawPlaces c n = true from awake_true] at h
    exact h
theorem layoutSets_calls (c : Chain) (_ : WT24 c) : PCalls Try.prog 5 [.agg ((eChain.enc c).map .pv)] (.pv (.bool true)) := by
  cases hb : (decide ((c.members.D.length : Int) > 60))
  · have hs := of_decide_eq_false hb
    have h := lawSets_calls c (by omega)
    rw [lawSets_true c] at h
    exact h
  · have h := biglawSets_calls c hb
    rw [show biglawSets c = true from awake_true] at h
    exact h
end Go.Proofs.Ytjhphpoihadmkaa
