/- The contract of the law TagSame: it is true, whatever the input. No conditions. -/
import Derived.Test.YtaoagcdljmpllaaTagG
namespace Go.Proofs.Ytaoagcdljmpllaa
open Go.Am

theorem R8.nat {x : Int} (h : R8 x) : ∃ m : Nat, x = m ∧ m < 256 := ⟨x.toNat, by have := h.1; omega, by have := h.1; have := h.2; omega⟩
theorem bv8 (a : Nat) (h : a < 256) : (BitVec.ofInt 8 (a : Int)).toNat = a := by
  rw [BitVec.toNat_ofInt]
  have : ((2 ^ 8 : Nat) : Int) = 256 := by decide
  rw [this]; omega
theorem or_u8 {a b : Nat} (ha : a < 256) (hb : b < 256) : bitI .or .u8 a b = ((a ||| b : Nat) : Int) ∧ a ||| b < 256 := by
  have : a ||| b < 256 := Nat.or_lt_two_pow (n := 8) ha hb
  refine ⟨?_, this⟩
  show IntKind.u8.wrap (((BitVec.ofInt 8 (a : Int) ||| BitVec.ofInt 8 (b : Int) : BitVec 8).toNat : Nat) : Int) = _
  rw [BitVec.toNat_or, bv8 a ha, bv8 b hb, wrap_u8]; omega
theorem xor_u8 {a b : Nat} (ha : a < 256) (hb : b < 256) : bitI .xor .u8 a b = ((a ^^^ b : Nat) : Int) ∧ a ^^^ b < 256 := by
  have : a ^^^ b < 256 := Nat.xor_lt_two_pow (n := 8) ha hb
  refine ⟨?_, this⟩
  show IntKind.u8.wrap (((BitVec.ofInt 8 (a : Int) ^^^ BitVec.ofInt 8 (b : Int) : BitVec 8).toNat : Nat) : Int) = _
  rw [BitVec.toNat_xor, bv8 a ha, bv8 b hb, wrap_u8]; omega
theorem sameN_nat {A B : Nat → Int} (hA : ∀ t, R8 (A t)) (hB : ∀ t, R8 (B t)) : ∀ i, ∃ m : Nat, sameN A B i = m ∧ m < 256 ∧ (m = 0 ↔ ∀ t, t < i → A t = B t)
  | 0 => ⟨0, rfl, by decide, by simp⟩
  | i + 1 => by
    obtain ⟨m, h1, h2, h3⟩ := sameN_nat hA hB i
    obtain ⟨a, ha, ha'⟩ := (hA i).nat
    obtain ⟨b, hb, hb'⟩ := (hB i).nat
    obtain ⟨x1, x2⟩ := xor_u8 ha' hb'
    obtain ⟨o1, o2⟩ := or_u8 h2 x2
    refine ⟨_, by simp only [sameN]; rw [h1, ha, hb, x1, o1], o2, ?_⟩
    have e1 : (m ||| (a ^^^ b) = 0) ↔ m = 0 ∧ a = b := by
      rw [Nat.or_eq_zero_iff]
      refine and_congr_right fun _ => ?_
      constructor
      · intro h
        have : a ^^^ (a ^^^ b) = a ^^^ 0 := by rw [h]
        rw [← Nat.xor_assoc, Nat.xor_self, Nat.zero_xor, Nat.xor_zero] at this
        exact this.symm
      · rintro rfl; exact Nat.xor_self a
    rw [e1, h3]
    constructor
    · rintro ⟨h4, h5⟩ t ht
      rcases Nat.lt_or_ge t i with h | h
      · exact h4 t h
      · have : t = i := by omega
        subst this; rw [ha, hb, h5]
    · intro h4
      refine ⟨fun t ht => h4 t (by omega), ?_⟩
      have := h4 i (by omega)
      rw [ha, hb] at this; omega
theorem same_eq {A B : Nat → Int} (hA : ∀ t, R8 (A t)) (hB : ∀ t, R8 (B t)) : (sameN A B 16 == 0) = eqI 16 A B := by
  obtain ⟨m, h1, h2, h3⟩ := sameN_nat hA hB 16
  rw [h1, Bool.eq_iff_iff, eqI, List.all_eq_true]
  simp only [beq_iff_eq, List.mem_range]
  rw [← h3]; omega
theorem eqI_self (A : Nat → Int) : eqI 16 A A = true := by simp [eqI]

theorem tagSame_calls (A B : Nat → Int) (hA : ∀ t, R8 (A t)) (hB : ∀ t, R8 (B t)) : PCalls Try.prog 4 [.agg (cI .u8 (tb 16 A)), .agg (cI .u8 (tb 16 B))] (.pv (.bool true)) := by
  refine PCalls.of_body tabOk Try.func4 rfl rfl rfl (by simp [AV.withinL, AV.within, cI_within]) rfl mixed fun E hP C hI => ?_
  refine Awp.cons C (fun _ => .pure) (by kernel_rfl) ?_ -- region 0 false
  refine rvc_prim C rfl rfl rfl rfl trivial rfl ?_ -- t2 box 
  refine rvc_prim C rfl rfl rfl rfl trivial rfl ?_ -- t3 box 
  refine rvc_prim C rfl rfl rfl rfl trivial rfl ?_ -- t4 assign 
  refine rvc_nil ?_
  refine Awp.cons C (fun _ => .pure) (by kernel_rfl) ?_ -- region 1 true
  refine rvc_prim C rfl rfl rfl rfl trivial rfl ?_ -- t5 load 
  refine rvc_prim C rfl rfl rfl rfl trivial rfl ?_ -- t6 load 
  refine rvc_call hP C rfl rfl rfl (same_eq hA hB ▸ same_calls A B) ?_ -- t7 call Go.Operand.func 19
  refine rvc_prim C rfl rfl rfl rfl trivial rfl ?_ -- t8 load 
  refine rvc_prim C rfl rfl rfl rfl trivial rfl ?_ -- t9 load 
  refine rvc_prim C rfl rfl rfl (prim_eqI (k := .u8) (m := 16) (f := A) (h := B) rfl rfl rfl rfl rfl rfl) trivial rfl ?_ -- t10 binOp Go.BinOp.eql
  refine rvc_prim C rfl rfl rfl rfl trivial rfl ?_ -- t11 binOp Go.BinOp.eql
  rw [beq_self_eq_true]
  refine rvc_prim C rfl rfl rfl rfl trivial rfl ?_ -- t12 move 
  refine rvc_open rfl rfl rfl (rexec_prim C rfl rfl rfl rfl trivial rfl ?_) -- t13 load 
  refine rvc_open rfl rfl rfl (rexec_prim C rfl rfl rfl rfl trivial rfl ?_) -- t14 load 
  refine rvc_open rfl rfl rfl (rexec_call hP C rfl rfl rfl (((same_eq hA hA).trans (eqI_self A)) ▸ same_calls A A) ?_) -- t15 call Go.Operand.func 19
  refine rvc_prim C rfl rfl rfl rfl trivial rfl ?_ -- t16 pick 
  refine rvc_prim C rfl rfl rfl rfl trivial rfl ?_ -- t17 move 
  refine rvc_open rfl rfl rfl (rexec_call hP C rfl rfl rfl awake_calls ?_) -- t18 call Go.Operand.func 18
  refine rvc_prim C rfl rfl rfl rfl trivial rfl ?_ -- t19 pick 
  refine rvc_prim C rfl rfl rfl rfl trivial rfl ?_ -- t4 assign 
  refine rvc_nil ?_
  refine Awp.ret ?_
  exact ⟨.inl rfl, rfl⟩
end Go.Proofs.Ytaoagcdljmpllaa
