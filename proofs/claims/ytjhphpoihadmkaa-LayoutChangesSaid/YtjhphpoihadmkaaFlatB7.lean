/- More inputs of chapter 8, as plain values. No conditions. -/
import Derived.Test.YtjhphpoihadmkaaFlatB
import Derived.Test.YtjhphpoihadmkaaLay5
namespace Go.Proofs.Ytjhphpoihadmkaa
open Go.Am
def WT42 (x : Do) : Prop := (Lit.int .i64 x.op).wf = true ∧ (Lit.int .i64 x.node).wf = true ∧ (Lit.int .i64 x.site).wf = true ∧ True
theorem flat42 {m : Nat} {ps : List PV} (h : Flat Try.prog (m + 2) 42 ps) : ∃ x : Do, ps = eDo.enc x ∧ WT42 x := by
  unfold Flat at h
  rw [Try.underlying42] at h
  obtain ⟨a0, b0, e0, h0, a1, b1, e1, h1, a2, b2, e2, h2, a3, b3, e3, h3, el⟩ := h
  obtain ⟨x0, rfl, w0⟩ := flat3 (m := m + 0) h0
  obtain ⟨x1, rfl, w1⟩ := flat3 (m := m + 0) h1
  obtain ⟨x2, rfl, w2⟩ := flat3 (m := m + 0) h2
  obtain ⟨x3, rfl, w3⟩ := flat4 (m := m + 0) h3
  subst el
  subst e3
  subst e2
  subst e1
  subst e0
  exact ⟨⟨x0, x1, x2, x3⟩, rfl, w0, w1, w2, w3⟩
def WT49 (s : Sl Do) : Prop := s.D.length ≤ maxLen ∧ (s.nil = true → s.D = []) ∧ ∀ x ∈ s.D, WT42 x
theorem flat49 {m : Nat} {ps : List PV} (h : Flat Try.prog (m + 3) 49 ps) : ∃ s : Sl Do, ps = [.sl (some s.nil) s.D.length (encL eDo s.D)] ∧ WT49 s := by
  unfold Flat at h
  rw [Try.underlying49] at h
  obtain ⟨b, D, rfl, h1, h2, h3⟩ := h
  obtain ⟨D2, e1, e2, e3⟩ := enc_list (e := eDo) (W := fun x => WT42 x) D fun y hy => flat42 (h3 y hy)
  rw [e2, ← e1]
  exact ⟨⟨b, D2⟩, rfl, (by show D2.length ≤ _; rw [e1]; exact h1), (fun hb => by have := h2 hb; rw [this] at e1; exact List.eq_nil_of_length_eq_zero e1), e3⟩
end Go.Proofs.Ytjhphpoihadmkaa
