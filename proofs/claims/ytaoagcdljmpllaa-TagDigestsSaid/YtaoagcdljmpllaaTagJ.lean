/- The contract of Double of the reference; facts of words that have no bit in common. No conditions. -/
import Derived.Test.YtaoagcdljmpllaaTagH
namespace Go.Proofs.Ytaoagcdljmpllaa
open Go.Am

theorem shl1 {x : Int} : shlI .u32 x 1 = (2 * x) % 4294967296 := by
  show IntKind.u32.wrap (x * 2 ^ 1) = _
  rw [wrap_u32]; omega
theorem shr31 {x : Int} : shrI .u32 x 31 = x / 2147483648 := rfl
theorem or_low {x y : Int} (hx : R32 x) (hy : R32 y) : bitI .or .u32 (shlI .u32 x 1) (shrI .u32 y 31) = IntKind.u32.wrap (IntKind.u32.wrap (2 * x) + IntKind.u32.wrap (y.tdiv 2147483648)) := by
  rw [shl1, shr31, wrap_u32, wrap_u32, wrap_u32, Int.tdiv_eq_ediv_of_nonneg hy.1]
  obtain ⟨a, ha, ha'⟩ : ∃ a : Nat, (2 * x) % 4294967296 = ((2 ^ 1 * a : Nat) : Int) ∧ 2 ^ 1 * a < 4294967296 := ⟨(x % 2147483648).toNat, by have := hx.1; have := hx.2; omega, by omega⟩
  obtain ⟨b, hb, hb'⟩ : ∃ b : Nat, y / 2147483648 = b ∧ b < 2 ^ 1 := ⟨(y / 2147483648).toNat, by have := hy.1; omega, by have := hy.1; have := hy.2; omega⟩
  rw [ha, hb, or_u32 ha' (by omega), or_add 1 a b hb']
  omega
theorem xor_zero32 {x : Int} (hx : R32 x) : bitI .xor .u32 x 0 = x := by
  obtain ⟨a, rfl, ha⟩ := hx.nat
  have := xor_u32 ha (b := 0) (by decide)
  rw [Nat.xor_zero] at this
  exact this
theorem double0 {x y : Int} (hy : R32 y) : bitI .xor .u32 (shlI .u32 x 1) (bitI .and .u32 135 (IntKind.u32.wrap (0 - shrI .u32 y 31))) = if y.tdiv 2147483648 = 1 then bitI .xor .u32 (IntKind.u32.wrap (2 * x)) 135 else IntKind.u32.wrap (2 * x) := by
  rw [shl1, shr31, wrap_u32 (2 * x), Int.tdiv_eq_ediv_of_nonneg hy.1]
  have hr : R32 ((2 * x) % 4294967296) := by constructor <;> omega
  by_cases h : y / 2147483648 = 1
  · rw [if_pos h, h]; rfl
  · have h0 : y / 2147483648 = 0 := by have := hy.1; have := hy.2; omega
    rw [if_neg h, h0]
    exact xor_zero32 hr
theorem R32s.double (k : Nat → Int) : R32s (doubleF k) := fun t => by
  cases t with
  | zero => rw [doubleF]; exact R32.bit _ _ _
  | succ n => rw [doubleF]; exact R32.bit _ _ _
theorem wrap_R32 {x : Int} (h : R32 x) : IntKind.u32.wrap x = x := by
  obtain ⟨h0, h1⟩ := h
  rw [wrap_u32]; omega

theorem tdiv_wrap {y : Int} (hy : R32 y) : IntKind.u32.wrap (y.tdiv 2147483648) = y.tdiv 2147483648 := by
  rw [Int.tdiv_eq_ediv_of_nonneg hy.1]
  exact wrap_R32 ⟨by have := hy.1; omega, by have := hy.2; omega⟩

theorem refDouble_calls (k : Nat → Int) (hk : R32s k) : PCalls Try.prog 15 [.agg (cI .u32 (tb 4 k))] (.agg (cI .u32 (tb 4 (doubleF k)))) := by
  refine PCalls.of_body tabOk Try.func15 rfl rfl rfl (by simp [AV.withinL, AV.within, cI_within]) (by simp [AV.within, cI_within]) mixed fun E hP C hI => ?_
  have e1 := or_low (hk 1) (hk 0)
  have e2 := or_low (hk 2) (hk 1)
  have e3 := or_low (hk 3) (hk 2)
  have e0 := double0 (x := k 0) (hk 3)
  have hd : ∀ z, z = bitI .xor .u32 (shlI .u32 (k 0) 1) (bitI .and .u32 135 (IntKind.u32.wrap (0 - shrI .u32 (k 3) 31))) → some (AV.agg (cI .u32 [z, IntKind.u32.wrap (IntKind.u32.wrap (2 * k 1) + IntKind.u32.wrap ((k 0).tdiv 2147483648)), IntKind.u32.wrap (IntKind.u32.wrap (2 * k 2) + IntKind.u32.wrap ((k 1).tdiv 2147483648)), IntKind.u32.wrap (IntKind.u32.wrap (2 * k 3) + IntKind.u32.wrap ((k 2).tdiv 2147483648))])) = some (AV.agg (cI .u32 (tb 4 (doubleF k)))) := by
    intro z hz
    rw [← e1, ← e2, ← e3, hz]; rfl
  refine Awp.cons C (fun _ => .pure) (by kernel_rfl) ?_ -- region 0 false
  refine rvc_prim C rfl rfl rfl rfl (trivial) rfl ?_ -- t1 box
  refine rvc_prim C rfl rfl rfl rfl (trivial) rfl ?_ -- t2 alloc
  refine rvc_nil ?_
  refine Awp.cons C (fun _ => .pure) (by kernel_rfl) ?_ -- region 1 false
  refine rvc_prim C rfl rfl rfl rfl (⟨by decide, by decide⟩) rfl ?_ -- t4 indexAddr
  refine rvc_prim C rfl rfl rfl rfl (trivial) rfl ?_ -- t5 load
  refine rvc_prim C rfl rfl rfl rfl (trivial) rfl ?_ -- t6 binOp
  refine rvc_prim C rfl rfl rfl rfl (⟨by decide, by decide⟩) rfl ?_ -- t7 indexAddr
  refine rvc_prim C rfl rfl rfl rfl (trivial) rfl ?_ -- t8 load
  refine rvc_prim C rfl rfl rfl rfl (trivial) rfl ?_ -- t9 binOp
  refine rvc_prim C rfl rfl rfl rfl (⟨by decide, by decide⟩) rfl ?_ -- t10 indexAddr
  refine rvc_prim C rfl rfl rfl rfl (trivial) rfl ?_ -- t11 load
  refine rvc_prim C rfl rfl rfl rfl (by decide) rfl ?_ -- t12 binOp
  refine rvc_prim C rfl rfl rfl rfl (trivial) rfl ?_ -- t13 binOp
  refine rvc_prim C rfl rfl rfl rfl (⟨by decide, by decide⟩) rfl ?_ -- t14 indexAddr
  refine rvc_prim C rfl rfl rfl rfl (trivial) rfl ?_ -- t15 load
  refine rvc_prim C rfl rfl rfl rfl (trivial) rfl ?_ -- t16 binOp
  refine rvc_prim C rfl rfl rfl rfl (⟨by decide, by decide⟩) rfl ?_ -- t17 indexAddr
  refine rvc_prim C rfl rfl rfl rfl (trivial) rfl ?_ -- t18 load
  refine rvc_prim C rfl rfl rfl rfl (by decide) rfl ?_ -- t19 binOp
  refine rvc_prim C rfl rfl rfl rfl (trivial) rfl ?_ -- t20 binOp
  refine rvc_prim C rfl rfl rfl rfl (⟨by decide, by decide⟩) rfl ?_ -- t21 indexAddr
  refine rvc_prim C rfl rfl rfl rfl (trivial) rfl ?_ -- t22 load
  refine rvc_prim C rfl rfl rfl rfl (trivial) rfl ?_ -- t23 binOp
  refine rvc_prim C rfl rfl rfl rfl (⟨by decide, by decide⟩) rfl ?_ -- t24 indexAddr
  refine rvc_prim C rfl rfl rfl rfl (trivial) rfl ?_ -- t25 load
  refine rvc_prim C rfl rfl rfl rfl (by decide) rfl ?_ -- t26 binOp
  refine rvc_prim C rfl rfl rfl rfl (trivial) rfl ?_ -- t27 binOp
  refine rvc_prim C rfl rfl rfl rfl (trivial) rfl ?_ -- t28 build
  refine rvc_prim C rfl rfl rfl rfl (trivial) rfl ?_ -- t3 alloc
  refine rvc_prim C rfl rfl rfl rfl (trivial) rfl ?_ -- s0 store
  refine rvc_nil ?_
  refine Awp.seq ?_
  refine Awp.cons C (fun _ => .pure) (by kernel_rfl) ?_ -- region 2 false
  refine rvc_prim C rfl rfl rfl rfl (⟨by decide, by decide⟩) rfl ?_ -- t29 indexAddr
  refine rvc_prim C rfl rfl rfl rfl (trivial) rfl ?_ -- t30 load
  refine rvc_prim C rfl rfl rfl rfl (by decide) rfl ?_ -- t31 binOp
  refine rvc_prim C rfl rfl rfl rfl (trivial) rfl ?_ -- t32 binOp
  refine rvc_nil ?_
  refine Awp.cond rfl (fun hc => ?_) (fun hc => ?_)
  ·
    have hc' : (k 3).tdiv 2147483648 = 1 := by rw [tdiv_wrap (hk 3)] at hc; simpa using hc
    refine Awp.region C (fun _ => .pure) (by kernel_rfl) ?_ -- region 3 false
    refine rvc_prim C rfl rfl rfl rfl (⟨by decide, by decide⟩) rfl ?_ -- t33 indexAddr
    refine rvc_prim C rfl rfl rfl rfl (trivial) rfl ?_ -- t34 load
    refine rvc_prim C rfl rfl rfl rfl (trivial) rfl ?_ -- t35 binOp
    refine rvc_prim C rfl rfl rfl rfl (⟨by decide, by decide⟩) rfl ?_ -- t36 indexAddr
    refine rvc_prim C rfl rfl rfl rfl (trivial) rfl ?_ -- s1 store
    refine rvc_nil ?_
    refine Awp.cons C (fun _ => .pure) (by kernel_rfl) ?_ -- region 4 false
    refine rvc_prim C rfl rfl rfl rfl (trivial) rfl ?_ -- t37 load
    refine rvc_prim C rfl rfl rfl rfl (trivial) rfl ?_ -- s2 store
    refine rvc_nil ?_
    refine Awp.ret ?_
    exact ⟨.inl rfl, hd _ (by rw [e0, if_pos hc'])⟩
  ·
    have hc' : ¬ (k 3).tdiv 2147483648 = 1 := by rw [tdiv_wrap (hk 3)] at hc; simpa using hc
    refine Awp.skip ?_
    refine Awp.cons C (fun _ => .pure) (by kernel_rfl) ?_ -- region 4 false
    refine rvc_prim C rfl rfl rfl rfl (trivial) rfl ?_ -- t37 load
    refine rvc_prim C rfl rfl rfl rfl (trivial) rfl ?_ -- s3 store
    refine rvc_nil ?_
    refine Awp.ret ?_
    exact ⟨.inl rfl, hd _ (by rw [e0, if_neg hc'])⟩
end Go.Proofs.Ytaoagcdljmpllaa
