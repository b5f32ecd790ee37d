/- The contract of the law LayoutFollows: it is true, whatever the input. No conditions. -/
import Derived.Test.YtjhphpoihadmkaaLayF
import Derived.Test.YtjhphpoihadmkaaFlatB
namespace Go.Proofs.Ytjhphpoihadmkaa
open Go.Am
theorem layoutFollows_calls (a : Chain) (wa : WT24 a) (b : Chain) (wb : WT24 b) : PCalls Try.prog 8 [.agg ((eChain.enc a).map .pv), .agg ((eChain.enc b).map .pv)] (.pv (.bool true)) := by
  have h1 : a.members.D.length ≤ maxLen := wa.2.1
  have h2 : b.members.D.length ≤ maxLen := wb.2.1
  have h := lawFollows_calls a b h1 h2
  rw [lawFollows_true] at h
  exact h
end Go.Proofs.Ytjhphpoihadmkaa
