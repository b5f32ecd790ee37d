/- The contract of the law LayoutChanges: it is true, whatever the input. No conditions. -/
import Derived.Test.YtjhphpoihadmkaaLay7
import Derived.Test.YtjhphpoihadmkaaLayB7
import Derived.Test.YtjhphpoihadmkaaFlatB7
namespace Go.Proofs.Ytjhphpoihadmkaa
open Go.Am
theorem lawChanges_true (c : Chain) (hn : c.members.nil = true → c.members.D = []) (k : Do) : lawChanges c k = true := by
  unfold lawChanges
  rw [clone_eq hn, rSame_of (does_eq c hn k).1, (does_eq c hn k).2, rSame_of (eqC_refl _), awake_true]
  simp
theorem layoutChanges_calls (c : Chain) (wc : WT24 c) (k : Do) (_ : WT42 k) : PCalls Try.prog 7 [.agg ((eChain.enc c).map .pv), .agg ((eDo.enc k).map .pv)] (.pv (.bool true)) := by
  have hn := wc.2.2.1
  cases hb : (decide ((c.members.D.length : Int) > 60))
  · have hs := of_decide_eq_false hb
    have h := lawChanges_calls c k hn (by omega)
    rw [lawChanges_true c hn k] at h
    exact h
  · have h := biglawChanges_calls c k hb
    rw [show biglawChanges c k = true from awake_true] at h
    exact h
end Go.Proofs.Ytjhphpoihadmkaa
