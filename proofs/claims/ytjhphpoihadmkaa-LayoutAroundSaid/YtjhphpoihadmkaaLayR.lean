/- The laws of chapter 8, as far as plain Lean goes: each model answers true. No conditions. -/
import Derived.Test.YtjhphpoihadmkaaLayQ
import Derived.Test.YtjhphpoihadmkaaLay3
namespace Go.Proofs.Ytjhphpoihadmkaa
open Go.Am
theorem awake_true : awake = true := by kernel_rfl
theorem lawChecks_true (c d : Chain) : lawChecks c d = true := by
  unfold lawChecks
  rw [awake_true, check_eq, same_eq, same_self]
  simp
end Go.Proofs.Ytjhphpoihadmkaa
