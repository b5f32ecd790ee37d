/- The contracts of laws of chapter 8: each is true, whatever the input. No conditions. -/
import Derived.Test.YtjhphpoihadmkaaLayR
import Derived.Test.YtjhphpoihadmkaaLayB
import Derived.Test.YtjhphpoihadmkaaFlatB
namespace Go.Proofs.Ytjhphpoihadmkaa
open Go.Am
theorem layoutChecks_calls (c : Chain) (wc : WT24 c) (d : Chain) (_ : WT24 d) : PCalls Try.prog 3 [.agg ((eChain.enc c).map .pv), .agg ((eChain.enc d).map .pv)] (.pv (.bool true)) := by
  have h1 : c.members.D.length ≤ maxLen := wc.2.1
  cases hb : (decide ((IntKind.i64.wrap ((c.members.D.length : Int) + (d.members.D.length : Int))) > 60))
  · have h := lawChecks_calls c d h1
    rw [lawChecks_true] at h
    exact h
  · have h := biglawChecks_calls c d hb
    rw [show biglawChecks c d = true from awake_true] at h
    exact h
end Go.Proofs.Ytjhphpoihadmkaa
