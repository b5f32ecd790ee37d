/- The contract of Short of the reference. No conditions. -/
import Derived.Test.YtaoagcdljmpllaaTagI
import Derived.Test.YtaoagcdljmpllaaTagK
namespace Go.Proofs.Ytaoagcdljmpllaa
open Go.Am

theorem bv64 (a : Nat) (h : a < 18446744073709551616) : (BitVec.ofInt 64 (a : Int)).toNat = a := by
  rw [BitVec.toNat_ofInt]
  have : ((2 ^ 64 : Nat) : Int) = 18446744073709551616 := by decide
  rw [this]; omega
theorem or_u64 {a b : Nat} (ha : a < 18446744073709551616) (hb : b < 18446744073709551616) : bitI .or .u64 a b = ((a ||| b : Nat) : Int) := by
  have : a ||| b < 18446744073709551616 := Nat.or_lt_two_pow (n := 64) ha hb
  show IntKind.u64.wrap (((BitVec.ofInt 64 (a : Int) ||| BitVec.ofInt 64 (b : Int) : BitVec 64).toNat : Nat) : Int) = _
  rw [BitVec.toNat_or, bv64 a ha, bv64 b hb, wrap_u64]; omega
def rsN (d : Nat → Int) : Nat → Int
  | 0 => 0
  | i + 1 => IntKind.u64.wrap (IntKind.u64.wrap (256 * rsN d i) + IntKind.u64.wrap (d i))
theorem rs_eq {d : Nat → Int} (h : ∀ t, R8 (d t)) : ∀ i, rsN d i = shN d i ∧ 0 ≤ shN d i
  | 0 => ⟨rfl, Int.le_refl 0⟩
  | i + 1 => by
    obtain ⟨e, e0⟩ := rs_eq h i
    obtain ⟨b, hb, hb'⟩ := (h i).nat
    simp only [rsN, shN, e]
    have s1 : shlI .u64 (shN d i) 8 = IntKind.u64.wrap (256 * shN d i) := by
      show IntKind.u64.wrap (shN d i * 2 ^ 8) = _
      congr 1; omega
    have w1 : IntKind.u64.wrap (d i) = b := by rw [hb, wrap_u64]; omega
    obtain ⟨a, ha, ha'⟩ : ∃ a : Nat, IntKind.u64.wrap (256 * shN d i) = ((2 ^ 8 * a : Nat) : Int) ∧ 2 ^ 8 * a < 18446744073709551616 := by
      rw [wrap_u64]
      exact ⟨((shN d i) % 72057594037927936).toNat, by omega, by omega⟩
    rw [s1, w1, ha, or_u64 ha' (by omega), or_add 8 a b (by omega), wrap_u64]
    omega
theorem refShort_calls {x y : AV} {d : Nat → Int} {e : Int} (hd : ∀ t, R8 (d t)) (h : PCalls Try.prog 23 [x, y] (.tup [.agg (cI .u8 (tb 16 d)), .pv (.int .i64 e)])) : PCalls Try.prog 21 [x, y] (.tup [.pv (.int .u64 (shN d 8)), .pv (.int .i64 e)]) := by
  rw [← (rs_eq hd 8).1]
  refine PCalls.of_body tabOk Try.func21 rfl rfl rfl h.args rfl mixed fun E hP C hI => ?_
  refine Awp.cons C (fun _ => .pure) (by kernel_rfl) ?_ -- region 0 false
  refine rvc_prim C rfl rfl rfl rfl (trivial) rfl ?_ -- t4 assign
  refine rvc_prim C rfl rfl rfl rfl (trivial) rfl ?_ -- t5 assign
  refine rvc_nil ?_
  refine Awp.cons C (fun _ => .pure) (by kernel_rfl) ?_ -- region 1 false
  refine rvc_prim C rfl rfl rfl rfl (trivial) rfl ?_ -- t11 move
  refine rvc_prim C rfl rfl rfl rfl (trivial) rfl ?_ -- t12 move
  refine rvc_call hP C rfl rfl rfl (h) ?_ -- t13 call
  refine rvc_prim C rfl rfl rfl rfl (trivial) rfl ?_ -- t10 move
  refine rvc_prim C rfl rfl rfl rfl (trivial) rfl ?_ -- t14 extract
  refine rvc_prim C rfl rfl rfl rfl (trivial) rfl ?_ -- t15 extract
  refine rvc_prim C rfl rfl rfl rfl (trivial) rfl ?_ -- t6 alloc
  refine rvc_prim C rfl rfl rfl rfl (trivial) rfl ?_ -- s0 store
  refine rvc_prim C rfl rfl rfl rfl (trivial) rfl ?_ -- t7 assign
  refine rvc_nil ?_
  refine Awp.cons C (fun _ => .pure) (by kernel_rfl) ?_ -- region 2 false
  refine rvc_prim C rfl rfl rfl rfl (trivial) rfl ?_ -- t8 assign
  refine rvc_nil ?_
  refine Awp.seq ?_
  refine Awp.cons C (fun _ => .pure) (by kernel_rfl) ?_ -- region 3 false
  refine rvc_prim C rfl rfl rfl rfl (trivial) rfl ?_ -- t16 move
  refine rvc_nil ?_
  refine Awp.block ?_
  refine Awp.forN (8) (fun i => [(6, .ptr 6 0), (7, .pv (.int .i64 e)), (8, .pv (.int .u64 (rsN d i))), (16, .pv (.int .i64 i))]) (fun i => [(6, .cells (cI .u8 (tb 16 d)))]) [6] ?_ (fun i hi => ?_) ?_
  · exact Weaker.of hI ⟨rfl, rfl, rfl, rfl, trivial⟩ ⟨rfl, trivial⟩ rfl (by simp [Blk.within, cI_within])
  ·
    refine Awp.cons C (fun _ => .pure) (by kernel_rfl) ?_ -- region 4 false
    refine rvc_prim C rfl rfl rfl rfl (trivial) rfl ?_ -- t17 binOp
    refine rvc_nil ?_
    refine Awp.seq ?_
    refine Awp.condT rfl (by simp; omega) ?_
    refine Awp.skip ?_
    refine Awp.seq ?_
    refine Awp.block ?_
    refine Awp.cons C (fun _ => .pure) (by kernel_rfl) ?_ -- region 5 false
    refine rvc_prim C rfl rfl rfl rfl (trivial) rfl ?_ -- t18 move
    refine rvc_prim C rfl rfl rfl rfl (trivial) rfl ?_ -- t9 assign
    refine rvc_nil ?_
    refine Awp.region C (fun _ => .pure) (by kernel_rfl) ?_ -- region 6 false
    refine rvc_prim C rfl rfl rfl rfl (trivial) rfl ?_ -- t19 move
    refine rvc_prim C rfl rfl rfl rfl (trivial) rfl ?_ -- t20 binOp
    refine rvc_prim C rfl rfl rfl rfl (trivial) rfl ?_ -- t21 move
    refine rvc_prim C rfl rfl rfl rfl (⟨by omega, by omega⟩) rfl ?_ -- t22 indexAddr
    refine rvc_load C rfl rfl rfl rfl rfl (cI_at i (by show 0 + (i : Int).toNat * 1 = _; omega) (by omega)) ?_
    refine rvc_prim C rfl rfl rfl rfl (trivial) rfl ?_ -- t24 convert
    refine rvc_prim C rfl rfl rfl rfl (trivial) rfl ?_ -- t25 binOp
    refine rvc_prim C rfl rfl rfl rfl (trivial) rfl ?_ -- t8 assign
    refine rvc_nil ?_
    refine Awp.region C (fun _ => .pure) (by kernel_rfl) ?_ -- region 7 false
    refine rvc_prim C rfl rfl rfl rfl (trivial) rfl ?_ -- t26 binOp
    refine rvc_prim C rfl rfl rfl rfl (trivial) rfl ?_ -- t16 move
    refine rvc_nil ?_
    exact Weaker.of hI ⟨rfl, rfl, rfl, lit_cast (wrap_i64 (by omega) (by omega)), trivial⟩ ⟨rfl, trivial⟩ rfl (by simp [Blk.within, cI_within])
  ·
    refine Awp.cons C (fun _ => .pure) (by kernel_rfl) ?_ -- region 4 false
    refine rvc_prim C rfl rfl rfl rfl (trivial) rfl ?_ -- t17 binOp
    refine rvc_nil ?_
    refine Awp.seq ?_
    refine Awp.condF rfl (by simp) ?_
    refine Awp.exit ?_
    refine Awp.cons C (fun _ => .pure) (by kernel_rfl) ?_ -- region 8 false
    refine rvc_prim C rfl rfl rfl rfl (trivial) rfl ?_ -- t27 move
    refine rvc_prim C rfl rfl rfl rfl (trivial) rfl ?_ -- t28 move
    refine rvc_prim C rfl rfl rfl rfl (trivial) rfl ?_ -- t4 assign
    refine rvc_prim C rfl rfl rfl rfl (trivial) rfl ?_ -- t5 assign
    refine rvc_nil ?_
    refine Awp.ret ?_
    exact ⟨.inl rfl, rfl⟩
end Go.Proofs.Ytaoagcdljmpllaa
