/- The contracts of word, four and xor of the reference. No conditions. -/
import Derived.Test.YtaoagcdljmpllaaTagK
import Derived.Test.YtaoagcdljmpllaaAm21
namespace Go.Proofs.Ytaoagcdljmpllaa
open Go.Am

theorem rp_at {k : IntKind} {D : List Int} {j : Nat} (i : Nat) (hj : j = i) (h : i < D.length) : (((pI k D).drop j).take 1)[0]? = some (.lit (.int k (D.getD i 0))) := by
  subst hj
  simp [pI, h]
theorem shl_byte {x : Int} (hx : R8 x) (p n : Nat) (hn : n ≤ 24) (hp : p = 2 ^ n) : shlI .u32 (IntKind.u32.wrap x) (n : Int) = p * x ∧ (p : Int) * x < 4294967296 ∧ 0 ≤ (p : Int) * x := by
  obtain ⟨a, rfl, ha⟩ := hx.nat
  subst hp
  have h1 : IntKind.u32.wrap (a : Int) = a := wrap_R32 ⟨by omega, by omega⟩
  have h2 : 2 ^ n ≤ 2 ^ 24 := Nat.pow_le_pow_right (by decide) hn
  have h3 : 2 ^ n * a ≤ 2 ^ 24 * 255 := Nat.mul_le_mul h2 (by omega)
  have e24 : (2 : Nat) ^ 24 * 255 = 4278190080 := by decide
  have h4 : ((2 ^ n : Nat) : Int) * (a : Int) = ((2 ^ n * a : Nat) : Int) := by simp
  rw [h1, h4]
  refine ⟨?_, by omega, by omega⟩
  show IntKind.u32.wrap ((a : Int) * 2 ^ (min (n : Int).toNat 32)) = _
  rw [Int.toNat_natCast, Nat.min_eq_left (by omega)]
  have : (a : Int) * 2 ^ n = ((2 ^ n * a : Nat) : Int) := by simp [Int.mul_comm]
  rw [this]
  exact wrap_R32 ⟨by omega, by omega⟩
theorem or_high {a x : Int} (n : Nat) (p : Nat) (hp : p = 2 ^ n) (ha : 0 ≤ a ∧ a < p) (hx : 0 ≤ x) (hpx : (p : Int) * x < 4294967296) (hp2 : p ≤ 4294967296) : bitI .or .u32 a (p * x) = a + p * x := by
  obtain ⟨a, rfl⟩ := Int.eq_ofNat_of_zero_le ha.1
  obtain ⟨x, rfl⟩ := Int.eq_ofNat_of_zero_le hx
  subst hp
  have h4 : ((2 ^ n : Nat) : Int) * (x : Int) = ((2 ^ n * x : Nat) : Int) := by simp
  rw [h4] at hpx ⊢
  have h5 : a < 2 ^ n := by have := ha.2; omega
  rw [or_u32 (by omega) (by omega), Nat.or_comm, or_add n x a h5]
  omega
theorem word_val {b0 b1 b2 b3 : Int} (h0 : R8 b0) (h1 : R8 b1) (h2 : R8 b2) (h3 : R8 b3) :
    IntKind.u32.wrap (IntKind.u32.wrap (IntKind.u32.wrap (IntKind.u32.wrap b0 + IntKind.u32.wrap (256 * IntKind.u32.wrap b1)) + IntKind.u32.wrap (65536 * IntKind.u32.wrap b2)) + IntKind.u32.wrap (16777216 * IntKind.u32.wrap b3)) = b0 + 256 * b1 + 65536 * b2 + 16777216 * b3 := by
  obtain ⟨a0, c0⟩ := h0; obtain ⟨a1, c1⟩ := h1; obtain ⟨a2, c2⟩ := h2; obtain ⟨a3, c3⟩ := h3
  simp only [wrap_u32]
  omega
theorem wAcc_val (b : Nat → Int) (t : Nat) (h : ∀ s, R8 (b s)) : wordsF b t = b (4 * t) + 256 * b (4 * t + 1) + 65536 * b (4 * t + 2) + 16777216 * b (4 * t + 3) := by
  simp only [wordsF, wAcc]
  have r0 := h (4 * t + 0); have r1 := h (4 * t + 1); have r2 := h (4 * t + 2); have r3 := h (4 * t + 3)
  obtain ⟨s0, _, _⟩ := shl_byte r0 1 0 (by decide) (by decide)
  obtain ⟨s1, u1, v1⟩ := shl_byte r1 256 8 (by decide) (by decide)
  obtain ⟨s2, u2, v2⟩ := shl_byte r2 65536 16 (by decide) (by decide)
  obtain ⟨s3, u3, v3⟩ := shl_byte r3 16777216 24 (by decide) (by decide)
  rw [show ((8 * 0 : Nat) : Int) = ((0 : Nat) : Int) by rfl, show ((8 * 1 : Nat) : Int) = ((8 : Nat) : Int) by rfl, show ((8 * 2 : Nat) : Int) = ((16 : Nat) : Int) by rfl, show ((8 * 3 : Nat) : Int) = ((24 : Nat) : Int) by rfl, s0, s1, s2, s3]
  have e0 : bitI .or .u32 0 (((1 : Nat) : Int) * b (4 * t + 0)) = b (4 * t) := by
    rw [or_high 0 1 (by decide) ⟨by omega, by omega⟩ r0.1 (by have := r0.2; omega) (by decide), Nat.add_zero]; omega
  obtain ⟨a0, c0⟩ := r0; obtain ⟨a1, c1⟩ := r1; obtain ⟨a2, c2⟩ := r2; obtain ⟨a3, c3⟩ := r3
  rw [Nat.add_zero] at a0 c0
  rw [e0, or_high 8 256 (by decide) ⟨a0, by omega⟩ a1 u1 (by decide), or_high 16 65536 (by decide) ⟨by omega, by omega⟩ a2 u2 (by decide), or_high 24 16777216 (by decide) ⟨by omega, by omega⟩ a3 u3 (by decide)]
  omega

def R8l (D : List Int) : Prop := ∀ s, R8 (D.getD s 0)
theorem word_calls (f : Option Bool) (D : List Int) (h : R8l D) (hl : 4 ≤ D.length) : PCalls Try.prog 57 [sI f .u8 D] (.pv (.int .u32 (wordsF (fun s => D.getD s 0) 0))) := by
  refine PCalls.of_body tabOk Try.func57 rfl rfl rfl rfl rfl mixed fun E hP C hI => ?_
  refine Awp.cons C (fun _ => .pure) (by kernel_rfl) ?_ -- region 0 false
  refine rvc_prim C rfl rfl rfl rfl (trivial) rfl ?_ -- t2 assign
  refine rvc_nil ?_
  refine Awp.cons C (fun _ => .pure) (by kernel_rfl) ?_ -- region 1 true
  refine rvc_prim C rfl rfl rfl rfl (trivial) rfl ?_ -- t3 move
  refine rvc_prim C rfl rfl rfl rfl (⟨by decide, by show (0 : Int) < D.length; omega⟩) rfl ?_ -- t4 indexAddr
  refine rvc_loadp C rfl rfl rfl rfl (rp_at 0 (by decide) (by omega)) ?_
  refine rvc_prim C rfl rfl rfl rfl (trivial) rfl ?_ -- t6 convert
  refine rvc_prim C rfl rfl rfl rfl (trivial) rfl ?_ -- t7 move
  refine rvc_prim C rfl rfl rfl rfl (⟨by decide, by show (1 : Int) < D.length; omega⟩) rfl ?_ -- t8 indexAddr
  refine rvc_loadp C rfl rfl rfl rfl (rp_at 1 (by decide) (by omega)) ?_
  refine rvc_prim C rfl rfl rfl rfl (trivial) rfl ?_ -- t10 convert
  refine rvc_prim C rfl rfl rfl rfl (trivial) rfl ?_ -- t11 binOp
  refine rvc_prim C rfl rfl rfl rfl (trivial) rfl ?_ -- t12 binOp
  refine rvc_prim C rfl rfl rfl rfl (trivial) rfl ?_ -- t13 move
  refine rvc_prim C rfl rfl rfl rfl (⟨by decide, by show (2 : Int) < D.length; omega⟩) rfl ?_ -- t14 indexAddr
  refine rvc_loadp C rfl rfl rfl rfl (rp_at 2 (by decide) (by omega)) ?_
  refine rvc_prim C rfl rfl rfl rfl (trivial) rfl ?_ -- t16 convert
  refine rvc_prim C rfl rfl rfl rfl (trivial) rfl ?_ -- t17 binOp
  refine rvc_prim C rfl rfl rfl rfl (trivial) rfl ?_ -- t18 binOp
  refine rvc_prim C rfl rfl rfl rfl (trivial) rfl ?_ -- t19 move
  refine rvc_prim C rfl rfl rfl rfl (⟨by decide, by show (3 : Int) < D.length; omega⟩) rfl ?_ -- t20 indexAddr
  refine rvc_loadp C rfl rfl rfl rfl (rp_at 3 (by decide) (by omega)) ?_
  refine rvc_prim C rfl rfl rfl rfl (trivial) rfl ?_ -- t22 convert
  refine rvc_prim C rfl rfl rfl rfl (trivial) rfl ?_ -- t23 binOp
  refine rvc_prim C rfl rfl rfl rfl (trivial) rfl ?_ -- t24 binOp
  refine rvc_prim C rfl rfl rfl rfl (trivial) rfl ?_ -- t2 assign
  refine rvc_nil ?_
  refine Awp.ret ?_
  refine ⟨.inl rfl, ?_⟩
  exact congrArg (fun x => some (AV.pv (.int .u32 x))) ((word_val (h 0) (h 1) (h 2) (h 3)).trans (wAcc_val _ 0 h).symm)

theorem R8l.drop {D : List Int} (h : R8l D) (k : Nat) : R8l (D.drop k) := fun s => by
  have := h (k + s)
  simpa [List.getD_eq_getElem?_getD] using this
theorem words_drop (D : List Int) (h : R8l D) (t : Nat) : wordsF (fun s => (D.drop (4 * t)).getD s 0) 0 = wordsF (fun s => D.getD s 0) t := by
  rw [wAcc_val _ 0 (h.drop _), wAcc_val _ t h]
  simp [List.getD_eq_getElem?_getD]
theorem four_calls (f : Option Bool) (D : List Int) (h : R8l D) (hl : 16 ≤ D.length) : PCalls Try.prog 43 [sI f .u8 D] (.agg (cI .u32 (tb 4 (wordsF fun s => D.getD s 0)))) := by
  refine PCalls.of_body tabOk Try.func43 rfl rfl rfl rfl (by simp [AV.within, cI_within]) mixed fun E hP C hI => ?_
  have e1 := words_drop D h 1
  have e2 := words_drop D h 2
  have e3 := words_drop D h 3
  refine Awp.cons C (fun _ => .pure) (by kernel_rfl) ?_ -- region 0 false
  refine rvc_prim C rfl rfl rfl rfl (trivial) rfl ?_ -- t2 alloc
  refine rvc_nil ?_
  refine Awp.cons C (fun _ => .pure) (by kernel_rfl) ?_ -- region 1 true
  refine rvc_prim C rfl rfl rfl rfl (trivial) rfl ?_ -- t3 move
  refine rvc_call hP C rfl rfl rfl (word_calls f D h (by omega)) ?_ -- t4 call
  refine rvc_prim C rfl rfl rfl rfl (trivial) rfl ?_ -- t5 move
  refine rvc_primv C (sI f .u8 (D.drop 4)) rfl rfl rfl rfl ⟨by decide, by show (4 : Int) ≤ D.length; omega⟩ rfl ((sI_cut 4 D.length (by omega) (by omega) rfl rfl rfl).trans (by rw [List.take_of_length_le (by simp)])) ?_
  refine rvc_call hP C rfl rfl rfl (word_calls f (D.drop 4) (h.drop 4) (by simp; omega)) ?_ -- t7 call
  refine rvc_prim C rfl rfl rfl rfl (trivial) rfl ?_ -- t8 move
  refine rvc_primv C (sI f .u8 (D.drop 8)) rfl rfl rfl rfl ⟨by decide, by show (8 : Int) ≤ D.length; omega⟩ rfl ((sI_cut 8 D.length (by omega) (by omega) rfl rfl rfl).trans (by rw [List.take_of_length_le (by simp)])) ?_
  refine rvc_call hP C rfl rfl rfl (word_calls f (D.drop 8) (h.drop 8) (by simp; omega)) ?_ -- t10 call
  refine rvc_prim C rfl rfl rfl rfl (trivial) rfl ?_ -- t11 move
  refine rvc_primv C (sI f .u8 (D.drop 12)) rfl rfl rfl rfl ⟨by decide, by show (12 : Int) ≤ D.length; omega⟩ rfl ((sI_cut 12 D.length (by omega) (by omega) rfl rfl rfl).trans (by rw [List.take_of_length_le (by simp)])) ?_
  refine rvc_call hP C rfl rfl rfl (word_calls f (D.drop 12) (h.drop 12) (by simp; omega)) ?_ -- t13 call
  refine rvc_prim C rfl rfl rfl rfl (trivial) rfl ?_ -- t14 build
  refine rvc_prim C rfl rfl rfl rfl (trivial) rfl ?_ -- s0 store
  refine rvc_nil ?_
  refine Awp.ret ?_
  refine ⟨.inl rfl, ?_⟩
  refine Eq.trans (b := some (AV.agg (cI .u32 [wordsF (fun s => D.getD s 0) 0, wordsF (fun s => (D.drop 4).getD s 0) 0, wordsF (fun s => (D.drop 8).getD s 0) 0, wordsF (fun s => (D.drop 12).getD s 0) 0]))) rfl ?_
  rw [e1, e2, e3]
  rfl

theorem refXor_calls (k l : Nat → Int) : PCalls Try.prog 44 [.agg (cI .u32 (tb 4 k)), .agg (cI .u32 (tb 4 l))] (.agg (cI .u32 (tb 4 (xorF k l)))) := by
  refine PCalls.of_body tabOk Try.func44 rfl rfl rfl (by simp [AV.withinL, AV.within, cI_within]) (by simp [AV.within, cI_within]) mixed fun E hP C hI => ?_
  refine Awp.cons C (fun _ => .pure) (by kernel_rfl) ?_ -- region 0 false
  refine rvc_prim C rfl rfl rfl rfl (trivial) rfl ?_ -- t2 box
  refine rvc_prim C rfl rfl rfl rfl (trivial) rfl ?_ -- t3 box
  refine rvc_prim C rfl rfl rfl rfl (trivial) rfl ?_ -- t4 alloc
  refine rvc_nil ?_
  refine Awp.cons C (fun _ => .pure) (by kernel_rfl) ?_ -- region 1 false
  refine rvc_prim C rfl rfl rfl rfl (⟨by decide, by decide⟩) rfl ?_ -- t5 indexAddr
  refine rvc_prim C rfl rfl rfl rfl (trivial) rfl ?_ -- t6 load
  refine rvc_prim C rfl rfl rfl rfl (⟨by decide, by decide⟩) rfl ?_ -- t7 indexAddr
  refine rvc_prim C rfl rfl rfl rfl (trivial) rfl ?_ -- t8 load
  refine rvc_prim C rfl rfl rfl rfl (trivial) rfl ?_ -- t9 binOp
  refine rvc_prim C rfl rfl rfl rfl (⟨by decide, by decide⟩) rfl ?_ -- t10 indexAddr
  refine rvc_prim C rfl rfl rfl rfl (trivial) rfl ?_ -- t11 load
  refine rvc_prim C rfl rfl rfl rfl (⟨by decide, by decide⟩) rfl ?_ -- t12 indexAddr
  refine rvc_prim C rfl rfl rfl rfl (trivial) rfl ?_ -- t13 load
  refine rvc_prim C rfl rfl rfl rfl (trivial) rfl ?_ -- t14 binOp
  refine rvc_prim C rfl rfl rfl rfl (⟨by decide, by decide⟩) rfl ?_ -- t15 indexAddr
  refine rvc_prim C rfl rfl rfl rfl (trivial) rfl ?_ -- t16 load
  refine rvc_prim C rfl rfl rfl rfl (⟨by decide, by decide⟩) rfl ?_ -- t17 indexAddr
  refine rvc_prim C rfl rfl rfl rfl (trivial) rfl ?_ -- t18 load
  refine rvc_prim C rfl rfl rfl rfl (trivial) rfl ?_ -- t19 binOp
  refine rvc_prim C rfl rfl rfl rfl (⟨by decide, by decide⟩) rfl ?_ -- t20 indexAddr
  refine rvc_prim C rfl rfl rfl rfl (trivial) rfl ?_ -- t21 load
  refine rvc_prim C rfl rfl rfl rfl (⟨by decide, by decide⟩) rfl ?_ -- t22 indexAddr
  refine rvc_prim C rfl rfl rfl rfl (trivial) rfl ?_ -- t23 load
  refine rvc_prim C rfl rfl rfl rfl (trivial) rfl ?_ -- t24 binOp
  refine rvc_prim C rfl rfl rfl rfl (trivial) rfl ?_ -- t25 build
  refine rvc_prim C rfl rfl rfl rfl (trivial) rfl ?_ -- s0 store
  refine rvc_nil ?_
  refine Awp.ret ?_
  exact ⟨.inl rfl, rfl⟩
end Go.Proofs.Ytaoagcdljmpllaa
