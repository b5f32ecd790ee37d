/- What all rows of this seat need: no knob is turned, the types are laid out, bytes that are handed in are bytes. No conditions. -/
import Derived.Test.YtaoagcdljmpllaaTab
import Derived.Test.YtaoagcdljmpllaaTagP
import Derived.Test.YtaoagcdljmpllaaAm19
namespace Go.Proofs.Ytaoagcdljmpllaa
open Go.Am
theorem own : ownKnob Try.prog.godebug = none := by kernel_rfl
theorem laidOut : laidOutB Try.prog = true := by kernel_rfl
theorem R8.of_wf {n : Int} (h : (Lit.int .u8 n).wf = true) : R8 n := by
  simp [Lit.wf, IntKind.min, IntKind.max, IntKind.signed, IntKind.bits] at h
  exact ⟨h.1, by have := h.2; omega⟩
theorem R8.arr {f : Nat → Int} {n : Nat} (h1 : ∀ i, i < n → (Lit.int .u8 (f i)).wf = true) (h2 : ∀ i, ¬ i < n → f i = 0) (t : Nat) : R8 (f t) := by
  by_cases h : t < n
  · exact R8.of_wf (h1 t h)
  · rw [h2 t h]; exact ⟨by decide, by decide⟩
end Go.Proofs.Ytaoagcdljmpllaa
