/- The contracts of tag.Short and of the law TagKeys. No conditions. -/
import Derived.Test.YtaoagcdljmpllaaTagH
namespace Go.Proofs.Ytaoagcdljmpllaa
open Go.Am

/-! ### Short -/
def shN (d : Nat → Int) : Nat → Int
  | 0 => 0
  | i + 1 => bitI .or .u64 (shlI .u64 (shN d i) 8) (IntKind.u64.wrap (d i))
theorem short_calls {x y : AV} {d : Nat → Int} {e : Int} (h : PCalls Try.prog 14 [x, y] (.tup [.agg (cI .u8 (tb 16 d)), .pv (.int .i64 e)])) : PCalls Try.prog 20 [x, y] (.tup [.pv (.int .u64 (shN d 8)), .pv (.int .i64 e)]) := by
  refine PCalls.of_body tabOk Try.func20 rfl rfl rfl h.args rfl mixed fun E hP C hI => ?_
  refine Awp.cons C (fun _ => .pure) (by kernel_rfl) ?_ -- region 0 false
  refine rvc_prim C rfl rfl rfl rfl (trivial) rfl ?_ -- t4 assign
  refine rvc_prim C rfl rfl rfl rfl (trivial) rfl ?_ -- t5 assign
  refine rvc_nil ?_
  refine Awp.cons C (fun _ => .pure) (by kernel_rfl) ?_ -- region 1 false
  refine rvc_prim C rfl rfl rfl rfl (trivial) rfl ?_ -- t12 move
  refine rvc_prim C rfl rfl rfl rfl (trivial) rfl ?_ -- t13 move
  refine rvc_call hP C rfl rfl rfl (h) ?_ -- t14 call
  refine rvc_prim C rfl rfl rfl rfl (trivial) rfl ?_ -- t11 move
  refine rvc_prim C rfl rfl rfl rfl (trivial) rfl ?_ -- t15 extract
  refine rvc_prim C rfl rfl rfl rfl (trivial) rfl ?_ -- t16 extract
  refine rvc_prim C rfl rfl rfl rfl (trivial) rfl ?_ -- t6 alloc
  refine rvc_prim C rfl rfl rfl rfl (trivial) rfl ?_ -- s0 store
  refine rvc_prim C rfl rfl rfl rfl (trivial) rfl ?_ -- t7 assign
  refine rvc_nil ?_
  refine Awp.cons C (fun _ => .pure) (by kernel_rfl) ?_ -- region 2 false
  refine rvc_prim C rfl rfl rfl rfl (trivial) rfl ?_ -- t8 assign
  refine rvc_nil ?_
  refine Awp.seq ?_
  refine Awp.cons C (fun _ => .pure) (by kernel_rfl) ?_ -- region 3 false
  refine rvc_prim C rfl rfl rfl rfl (⟨⟨by decide, by decide, by decide⟩, Nat.le_refl 16, .inl rfl⟩) rfl ?_ -- t17 slice
  refine rvc_prim C rfl rfl rfl rfl (trivial) rfl ?_ -- t18 call
  refine rvc_prim C rfl rfl rfl rfl (trivial) rfl ?_ -- t19 move
  refine rvc_nil ?_
  refine Awp.block ?_
  refine Awp.forN (8) (fun i => [(6, .ptr 6 0), (7, .pv (.int .i64 e)), (8, .pv (.int .u64 (shN d i))), (17, .sl 6 0 8 1 false), (18, .pv (.int .i64 8)), (19, .pv (.int .i64 i))]) (fun i => [(6, .cells (cI .u8 (tb 16 d)))]) [6] ?_ (fun i hi => ?_) ?_
  · exact Weaker.of hI ⟨rfl, rfl, rfl, rfl, rfl, rfl, trivial⟩ ⟨rfl, trivial⟩ rfl (by simp [Blk.within, cI_within])
  ·
    refine Awp.cons C (fun _ => .pure) (by kernel_rfl) ?_ -- region 4 false
    refine rvc_prim C rfl rfl rfl rfl (trivial) rfl ?_ -- t20 binOp
    refine rvc_nil ?_
    refine Awp.seq ?_
    refine Awp.condT rfl (by simpa using (by omega : (i : Int) < 8)) ?_
    refine Awp.skip ?_
    refine Awp.seq ?_
    refine Awp.block ?_
    refine Awp.cons C (fun _ => .pure) (by kernel_rfl) ?_ -- region 5 false
    refine rvc_prim C rfl rfl rfl rfl (⟨by omega, by omega⟩) rfl ?_ -- t21 indexAddr
    refine rvc_load C rfl rfl rfl rfl rfl (cI_at i (by show 0 + 0 * 1 + (i : Int).toNat * 1 = _; omega) (by omega)) ?_
    refine rvc_prim C rfl rfl rfl rfl (trivial) rfl ?_ -- t10 assign
    refine rvc_nil ?_
    refine Awp.region C (fun _ => .pure) (by kernel_rfl) ?_ -- region 6 false
    refine rvc_prim C rfl rfl rfl rfl (trivial) rfl ?_ -- t23 move
    refine rvc_prim C rfl rfl rfl rfl (by decide) rfl ?_ -- t24 binOp
    refine rvc_prim C rfl rfl rfl rfl (trivial) rfl ?_ -- t25 move
    refine rvc_prim C rfl rfl rfl rfl (trivial) rfl ?_ -- t26 convert
    refine rvc_prim C rfl rfl rfl rfl (trivial) rfl ?_ -- t27 binOp
    refine rvc_prim C rfl rfl rfl rfl (trivial) rfl ?_ -- t8 assign
    refine rvc_nil ?_
    refine Awp.region C (fun _ => .pure) (by kernel_rfl) ?_ -- region 7 false
    refine rvc_prim C rfl rfl rfl rfl (trivial) rfl ?_ -- t28 binOp
    refine rvc_prim C rfl rfl rfl rfl (trivial) rfl ?_ -- t19 move
    refine rvc_nil ?_
    exact Weaker.of hI ⟨rfl, rfl, rfl, rfl, rfl, lit_cast (wrap_i64 (by omega) (by omega)), trivial⟩ ⟨rfl, trivial⟩ rfl (by simp [Blk.within, cI_within])
  ·
    refine Awp.cons C (fun _ => .pure) (by kernel_rfl) ?_ -- region 4 false
    refine rvc_prim C rfl rfl rfl rfl (trivial) rfl ?_ -- t20 binOp
    refine rvc_nil ?_
    refine Awp.seq ?_
    refine Awp.condF rfl (rfl) ?_
    refine Awp.exit ?_
    refine Awp.cons C (fun _ => .pure) (by kernel_rfl) ?_ -- region 8 false
    refine rvc_prim C rfl rfl rfl rfl (trivial) rfl ?_ -- t29 move
    refine rvc_prim C rfl rfl rfl rfl (trivial) rfl ?_ -- t30 move
    refine rvc_prim C rfl rfl rfl rfl (trivial) rfl ?_ -- t4 assign
    refine rvc_prim C rfl rfl rfl rfl (trivial) rfl ?_ -- t5 assign
    refine rvc_nil ?_
    refine Awp.ret ?_
    exact ⟨.inl rfl, rfl⟩

/-! ### The law TagKeys -/
theorem shN_zero : shN (fun _ => 0) 8 = 0 := by decide
theorem tagKeys_calls (fK : Option Bool) (K : List Int) (_ : ∀ n ∈ K, (Lit.int .u8 n).wf = true) (_ : K.length ≤ maxLen) (fD : Option Bool) (D : List Int) (_ : ∀ n ∈ D, (Lit.int .u8 n).wf = true) (_ : D.length ≤ maxLen) : PCalls Try.prog 6 [sI fK .u8 K, sI fD .u8 D] (.pv (.bool true)) := by
  refine PCalls.of_body tabOk Try.func6 rfl rfl rfl rfl rfl mixed fun E hP C hI => ?_
  by_cases hD : 4096 < D.length
  ·
    refine Awp.cons C (fun _ => .pure) (by kernel_rfl) ?_ -- region 0 false
    refine rvc_prim C rfl rfl rfl rfl (trivial) rfl ?_ -- t4 assign
    refine rvc_nil ?_
    refine Awp.seq ?_
    refine Awp.cons C (fun _ => .pure) (by kernel_rfl) ?_ -- region 1 false
    refine rvc_prim C rfl rfl rfl rfl (trivial) rfl ?_ -- t9 move
    refine rvc_prim C rfl rfl rfl rfl (trivial) rfl ?_ -- t10 call
    refine rvc_prim C rfl rfl rfl rfl (trivial) rfl ?_ -- t11 binOp
    refine rvc_nil ?_
    refine Awp.condT rfl (by simp; omega) ?_
    refine Awp.cons C (fun _ => .pure) (by kernel_rfl) ?_ -- region 2 false
    refine rvc_call hP C rfl rfl rfl (awake_calls) ?_ -- t12 call
    refine rvc_prim C rfl rfl rfl rfl (trivial) rfl ?_ -- t4 assign
    refine rvc_nil ?_
    refine Awp.ret ?_
    exact ⟨.inl rfl, rfl⟩
  by_cases hK : K.length = 16
  ·
    refine Awp.cons C (fun _ => .pure) (by kernel_rfl) ?_ -- region 0 false
    refine rvc_prim C rfl rfl rfl rfl (trivial) rfl ?_ -- t4 assign
    refine rvc_nil ?_
    refine Awp.seq ?_
    refine Awp.cons C (fun _ => .pure) (by kernel_rfl) ?_ -- region 1 false
    refine rvc_prim C rfl rfl rfl rfl (trivial) rfl ?_ -- t9 move
    refine rvc_prim C rfl rfl rfl rfl (trivial) rfl ?_ -- t10 call
    refine rvc_prim C rfl rfl rfl rfl (trivial) rfl ?_ -- t11 binOp
    refine rvc_nil ?_
    refine Awp.condF rfl (by simp; omega) ?_
    refine Awp.skip ?_
    refine Awp.cons C (fun _ => .pure) (by kernel_rfl) ?_ -- region 3 false
    refine rvc_prim C rfl rfl rfl rfl (trivial) rfl ?_ -- t14 move
    refine rvc_prim C rfl rfl rfl rfl (trivial) rfl ?_ -- t15 move
    refine rvc_call hP C rfl rfl rfl (of_good fK fD K D hK (by omega)) ?_ -- t16 call
    refine rvc_prim C rfl rfl rfl rfl (trivial) rfl ?_ -- t13 move
    refine rvc_prim C rfl rfl rfl rfl (trivial) rfl ?_ -- t17 extract
    refine rvc_prim C rfl rfl rfl rfl (trivial) rfl ?_ -- t18 extract
    refine rvc_prim C rfl rfl rfl rfl (trivial) rfl ?_ -- t5 alloc
    refine rvc_prim C rfl rfl rfl rfl (trivial) rfl ?_ -- s0 store
    refine rvc_prim C rfl rfl rfl rfl (trivial) rfl ?_ -- t6 assign
    refine rvc_nil ?_
    refine Awp.cons C (fun _ => .pure) (by kernel_rfl) ?_ -- region 4 false
    refine rvc_prim C rfl rfl rfl rfl (trivial) rfl ?_ -- t20 move
    refine rvc_prim C rfl rfl rfl rfl (trivial) rfl ?_ -- t21 move
    refine rvc_call hP C rfl rfl rfl (short_calls (of_good fK fD K D hK (by omega))) ?_ -- t22 call
    refine rvc_prim C rfl rfl rfl rfl (trivial) rfl ?_ -- t19 move
    refine rvc_prim C rfl rfl rfl rfl (trivial) rfl ?_ -- t23 extract
    refine rvc_prim C rfl rfl rfl rfl (trivial) rfl ?_ -- t24 extract
    refine rvc_prim C rfl rfl rfl rfl (trivial) rfl ?_ -- t7 assign
    refine rvc_prim C rfl rfl rfl rfl (trivial) rfl ?_ -- t8 assign
    refine rvc_nil ?_
    refine Awp.seq ?_
    refine Awp.cons C (fun _ => .pure) (by kernel_rfl) ?_ -- region 5 false
    refine rvc_prim C rfl rfl rfl rfl (trivial) rfl ?_ -- t25 move
    refine rvc_prim C rfl rfl rfl rfl (trivial) rfl ?_ -- t26 call
    refine rvc_prim C rfl rfl rfl rfl (trivial) rfl ?_ -- t27 binOp
    refine rvc_nil ?_
    refine Awp.condT rfl (by simp; omega) ?_
    refine Awp.cons C (fun _ => .pure) (by kernel_rfl) ?_ -- region 6 false
    refine rvc_prim C rfl rfl rfl rfl (trivial) rfl ?_ -- t28 move
    refine rvc_prim C rfl rfl rfl rfl (trivial) rfl ?_ -- t29 binOp
    refine rvc_prim C rfl rfl rfl rfl (trivial) rfl ?_ -- t30 move
    refine rvc_open rfl rfl rfl (rexec_prim C rfl rfl rfl rfl (trivial) rfl ?_) -- t31 move
    refine rvc_open rfl rfl rfl (rexec_prim C rfl rfl rfl rfl (trivial) rfl ?_) -- t32 binOp
    refine rvc_prim C rfl rfl rfl rfl (trivial) rfl ?_ -- t33 pick
    refine rvc_prim C rfl rfl rfl rfl (trivial) rfl ?_ -- t34 move
    refine rvc_open rfl rfl rfl (rexec_call hP C rfl rfl rfl (awake_calls) ?_) -- t35 call
    refine rvc_prim C rfl rfl rfl rfl (trivial) rfl ?_ -- t36 pick
    refine rvc_prim C rfl rfl rfl rfl (trivial) rfl ?_ -- t4 assign
    refine rvc_nil ?_
    refine Awp.ret ?_
    exact ⟨.inl rfl, rfl⟩
  ·
    refine Awp.cons C (fun _ => .pure) (by kernel_rfl) ?_ -- region 0 false
    refine rvc_prim C rfl rfl rfl rfl (trivial) rfl ?_ -- t4 assign
    refine rvc_nil ?_
    refine Awp.seq ?_
    refine Awp.cons C (fun _ => .pure) (by kernel_rfl) ?_ -- region 1 false
    refine rvc_prim C rfl rfl rfl rfl (trivial) rfl ?_ -- t9 move
    refine rvc_prim C rfl rfl rfl rfl (trivial) rfl ?_ -- t10 call
    refine rvc_prim C rfl rfl rfl rfl (trivial) rfl ?_ -- t11 binOp
    refine rvc_nil ?_
    refine Awp.condF rfl (by simp; omega) ?_
    refine Awp.skip ?_
    refine Awp.cons C (fun _ => .pure) (by kernel_rfl) ?_ -- region 3 false
    refine rvc_prim C rfl rfl rfl rfl (trivial) rfl ?_ -- t14 move
    refine rvc_prim C rfl rfl rfl rfl (trivial) rfl ?_ -- t15 move
    refine rvc_call hP C rfl rfl rfl (of_bad fK fD K D hK) ?_ -- t16 call
    refine rvc_prim C rfl rfl rfl rfl (trivial) rfl ?_ -- t13 move
    refine rvc_prim C rfl rfl rfl rfl (trivial) rfl ?_ -- t17 extract
    refine rvc_prim C rfl rfl rfl rfl (trivial) rfl ?_ -- t18 extract
    refine rvc_prim C rfl rfl rfl rfl (trivial) rfl ?_ -- t5 alloc
    refine rvc_prim C rfl rfl rfl rfl (trivial) rfl ?_ -- s0 store
    refine rvc_prim C rfl rfl rfl rfl (trivial) rfl ?_ -- t6 assign
    refine rvc_nil ?_
    refine Awp.cons C (fun _ => .pure) (by kernel_rfl) ?_ -- region 4 false
    refine rvc_prim C rfl rfl rfl rfl (trivial) rfl ?_ -- t20 move
    refine rvc_prim C rfl rfl rfl rfl (trivial) rfl ?_ -- t21 move
    refine rvc_call hP C rfl rfl rfl (short_calls (of_bad fK fD K D hK)) ?_ -- t22 call
    refine rvc_prim C rfl rfl rfl rfl (trivial) rfl ?_ -- t19 move
    refine rvc_prim C rfl rfl rfl rfl (trivial) rfl ?_ -- t23 extract
    refine rvc_prim C rfl rfl rfl rfl (trivial) rfl ?_ -- t24 extract
    refine rvc_prim C rfl rfl rfl rfl (trivial) rfl ?_ -- t7 assign
    refine rvc_prim C rfl rfl rfl rfl (trivial) rfl ?_ -- t8 assign
    refine rvc_nil ?_
    refine Awp.seq ?_
    refine Awp.cons C (fun _ => .pure) (by kernel_rfl) ?_ -- region 5 false
    refine rvc_prim C rfl rfl rfl rfl (trivial) rfl ?_ -- t25 move
    refine rvc_prim C rfl rfl rfl rfl (trivial) rfl ?_ -- t26 call
    refine rvc_prim C rfl rfl rfl rfl (trivial) rfl ?_ -- t27 binOp
    refine rvc_nil ?_
    refine Awp.condF rfl (by simp; omega) ?_
    refine Awp.skip ?_
    refine Awp.cons C (fun _ => .pure) (by kernel_rfl) ?_ -- region 7 false
    refine rvc_prim C rfl rfl rfl rfl (trivial) rfl ?_ -- t37 move
    refine rvc_prim C rfl rfl rfl rfl (trivial) rfl ?_ -- t38 binOp
    refine rvc_prim C rfl rfl rfl rfl (trivial) rfl ?_ -- t39 move
    refine rvc_open rfl rfl rfl (rexec_prim C rfl rfl rfl rfl (trivial) rfl ?_) -- t40 move
    refine rvc_open rfl rfl rfl (rexec_prim C rfl rfl rfl rfl (trivial) rfl ?_) -- t41 binOp
    refine rvc_prim C rfl rfl rfl rfl (trivial) rfl ?_ -- t42 pick
    refine rvc_prim C rfl rfl rfl rfl (trivial) rfl ?_ -- t43 move
    refine rvc_open rfl rfl rfl (rexec_prim C rfl rfl rfl rfl (trivial) rfl ?_) -- t44 move
    rw [shN_zero]
    refine rvc_open rfl rfl rfl (rexec_prim C rfl rfl rfl rfl trivial rfl ?_)
    refine rvc_prim C rfl rfl rfl rfl (trivial) rfl ?_ -- t46 pick
    refine rvc_prim C rfl rfl rfl rfl (trivial) rfl ?_ -- t47 move
    refine rvc_open rfl rfl rfl (rexec_prim C rfl rfl rfl rfl (trivial) rfl ?_) -- t48 load
    refine rvc_open rfl rfl rfl (rexec_prim C rfl rfl rfl rfl (trivial) rfl ?_) -- t49 build
    refine rvc_open rfl rfl rfl (rexec_prim C rfl rfl rfl (prim_eqI (k := .u8) (m := 16) (f := fun _ => 0) (h := fun _ => 0) rfl rfl rfl rfl rfl rfl) trivial rfl ?_)
    rw [eqI_self]
    refine rvc_prim C rfl rfl rfl rfl (trivial) rfl ?_ -- t51 pick
    refine rvc_prim C rfl rfl rfl rfl (trivial) rfl ?_ -- t52 move
    refine rvc_open rfl rfl rfl (rexec_call hP C rfl rfl rfl (awake_calls) ?_) -- t53 call
    refine rvc_prim C rfl rfl rfl rfl (trivial) rfl ?_ -- t54 pick
    refine rvc_prim C rfl rfl rfl rfl (trivial) rfl ?_ -- t4 assign
    refine rvc_nil ?_
    refine Awp.ret ?_
    exact ⟨.inl rfl, rfl⟩
end Go.Proofs.Ytaoagcdljmpllaa
