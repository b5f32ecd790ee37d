/- The contracts of turn and Stir of the reference. No conditions. -/
import Derived.Test.YtaoagcdljmpllaaTagP
namespace Go.Proofs.Ytaoagcdljmpllaa
open Go.Am

/-! ### turn -/
theorem turn_calls (x : Int) (m : Nat) (hm : m ≤ 64) : PCalls Try.prog 42 [.pv (.int .u32 x), .pv (.int .i64 m)] (.pv (.int .u32 (turnN x m))) := by
  refine PCalls.of_body tabOk Try.func42 rfl rfl rfl rfl rfl mixed fun E hP C hI => ?_
  refine Awp.cons C (fun _ => .pure) (by kernel_rfl) ?_ -- region 0 false
  refine rvc_prim C rfl rfl rfl rfl trivial rfl ?_ -- t4 assign 
  refine rvc_nil ?_
  refine Awp.seq ?_
  refine Awp.cons C (fun _ => .pure) (by kernel_rfl) ?_ -- region 1 false
  refine rvc_prim C rfl rfl rfl rfl trivial rfl ?_
  refine rvc_prim C rfl rfl rfl rfl trivial rfl ?_
  refine rvc_nil ?_
  refine Awp.block ?_ -- 0
  refine Awp.forN m (fun i => [(0, .pv (.int .u32 (turnN x i))), (5, .pv (.int .i64 m)), (6, .pv (.int .i64 i))]) (fun i => []) [] ?_ (fun i hi => ?_) ?_
  · exact Weaker.of hI ⟨rfl, rfl, rfl, trivial⟩ trivial rfl rfl
  · refine Awp.cons C (fun _ => .pure) (by kernel_rfl) ?_ -- region 2 false
    refine rvc_prim C rfl rfl rfl rfl trivial rfl ?_
    refine rvc_nil ?_
    refine Awp.seq ?_
    refine Awp.condT rfl (by simp; omega) (Awp.skip ?_)
    refine Awp.seq ?_
    refine Awp.block ?_ -- 1
    refine Awp.region C (fun _ => .pure) (by kernel_rfl) ?_ -- region 3 false
    refine rvc_prim C rfl rfl rfl rfl trivial rfl ?_
    refine rvc_prim C rfl rfl rfl rfl trivial rfl ?_
    refine rvc_prim C rfl rfl rfl rfl trivial rfl ?_
    refine rvc_prim C rfl rfl rfl rfl (by decide) rfl ?_
    refine rvc_prim C rfl rfl rfl rfl trivial rfl ?_
    refine rvc_prim C rfl rfl rfl rfl trivial rfl ?_
    refine rvc_nil ?_
    refine Awp.region C (fun _ => .pure) (by kernel_rfl) ?_ -- region 4 false
    refine rvc_prim C rfl rfl rfl rfl trivial rfl ?_
    refine rvc_prim C rfl rfl rfl rfl trivial rfl ?_
    refine rvc_nil ?_
    exact Weaker.of hI ⟨rfl, rfl, lit_cast (wrap_i64 (by omega) (by omega)), trivial⟩ trivial rfl rfl
  · refine Awp.cons C (fun _ => .pure) (by kernel_rfl) ?_ -- region 2 false
    refine rvc_prim C rfl rfl rfl rfl trivial rfl ?_
    refine rvc_nil ?_
    refine Awp.seq ?_
    refine Awp.condF rfl (by simp) (Awp.exit ?_)
    refine Awp.cons C (fun _ => .pure) (by kernel_rfl) ?_ -- region 5 false
    refine rvc_prim C rfl rfl rfl rfl trivial rfl ?_
    refine rvc_prim C rfl rfl rfl rfl trivial rfl ?_
    refine rvc_nil ?_
    refine Awp.ret ?_
    exact ⟨.inl rfl, rfl⟩

/-! ### Stir -/
def R32s (s : Nat → Int) : Prop := ∀ t, R32 (s t)
theorem R32s.rnd (s : Nat → Int) : R32s (rndF s) := fun t => by
  simp only [rndF]
  split
  · exact R32.wrap _
  · exact R32.bit _ _ _
  · exact R32.bit _ _ _
  · exact R32.bit _ _ _
theorem R32s.stirN {s : Nat → Int} (h : R32s s) : ∀ i, R32s (Ytaoagcdljmpllaa.stirN s i)
  | 0 => h
  | _ + 1 => R32s.rnd _
theorem left_ref {x : Int} (h : R32 x) (m : Nat) (hm : m = 5 ∨ m = 7 ∨ m = 8 ∨ m = 13 ∨ m = 16) : PCalls Try.prog 42 [.pv (.int .u32 x), .pv (.int .i64 m)] (.pv (.int .u32 (leftF x m))) := by
  have := turn_calls x m (by omega)
  rcases hm with rfl | rfl | rfl | rfl | rfl
  · rwa [turn_left5 h] at this
  · rwa [turn_left7 h] at this
  · rwa [turn_left8 h] at this
  · rwa [turn_left13 h] at this
  · rwa [turn_left16 h] at this

theorem refStir_calls (s : Nat → Int) (hs : R32s s) : PCalls Try.prog 16 [.agg (cI .u32 (tb 4 s))] (.agg (cI .u32 (tb 4 (stirF s)))) := by
  refine PCalls.of_body tabOk Try.func16 rfl rfl rfl (by simp [AV.withinL, AV.within, cI_within]) (by simp [AV.within, cI_within]) mixed fun E hP C hI => ?_
  refine Awp.cons C (fun _ => .pure) (by kernel_rfl) ?_ -- region 0 false
  refine rvc_prim C rfl rfl rfl rfl trivial rfl ?_ -- t1 box
  refine rvc_prim C rfl rfl rfl rfl trivial rfl ?_ -- t2 alloc
  refine rvc_nil ?_
  refine Awp.seq ?_
  refine Awp.cons C (fun _ => .pure) (by kernel_rfl) ?_ -- region 1 false
  refine rvc_prim C rfl rfl rfl rfl trivial rfl ?_ -- t3 move
  refine rvc_nil ?_
  refine Awp.block ?_ -- 0
  refine Awp.forN 12 (fun i => [(1, .ptr 1 0), (2, .ptr 2 0), (3, .pv (.int .i64 i))]) (fun i => [(1, .cells (cI .u32 (tb 4 (Ytaoagcdljmpllaa.stirN s i)))), (2, .cells (cI .u32 (tb 4 fun _ => 0)))]) [1, 2] ?_ (fun i hi => ?_) ?_
  · exact Weaker.of hI ⟨rfl, rfl, rfl, trivial⟩ ⟨rfl, rfl, trivial⟩ rfl (by simp [Blk.within, cI_within])
  · have hst := hs.stirN i
    refine Awp.cons C (fun _ => .pure) (by kernel_rfl) ?_ -- region 2 false
    refine rvc_prim C rfl rfl rfl rfl trivial rfl ?_ -- t4 binOp Go.BinOp.lss
    refine rvc_nil ?_
    refine Awp.seq ?_
    refine Awp.condT rfl (by simp; omega) (Awp.skip ?_)
    refine Awp.seq ?_
    refine Awp.block ?_ -- 1
    refine Awp.cons C (fun _ => .pure) (by kernel_rfl) ?_ -- region 3 false
    refine rvc_prim C rfl rfl rfl rfl ⟨by decide, by decide⟩ rfl ?_ -- t5 indexAddr
    refine rvc_prim C rfl rfl rfl rfl trivial rfl ?_ -- t6 load
    refine rvc_prim C rfl rfl rfl rfl ⟨by decide, by decide⟩ rfl ?_ -- t7 indexAddr
    refine rvc_prim C rfl rfl rfl rfl trivial rfl ?_ -- t8 load
    refine rvc_prim C rfl rfl rfl rfl trivial rfl ?_ -- t9 binOp Go.BinOp.add
    refine rvc_prim C rfl rfl rfl rfl ⟨by decide, by decide⟩ rfl ?_ -- t10 indexAddr
    refine rvc_prim C rfl rfl rfl rfl trivial rfl ?_ -- t_ store
    refine rvc_nil ?_
    refine Awp.cons C (fun _ => .pure) (by kernel_rfl) ?_ -- region 4 false
    refine rvc_prim C rfl rfl rfl rfl ⟨by decide, by decide⟩ rfl ?_ -- t11 indexAddr
    refine rvc_prim C rfl rfl rfl rfl trivial rfl ?_ -- t12 load
    refine rvc_prim C rfl rfl rfl rfl ⟨by decide, by decide⟩ rfl ?_ -- t13 indexAddr
    refine rvc_prim C rfl rfl rfl rfl trivial rfl ?_ -- t14 load
    refine rvc_prim C rfl rfl rfl rfl trivial rfl ?_ -- t15 binOp Go.BinOp.add
    refine rvc_prim C rfl rfl rfl rfl ⟨by decide, by decide⟩ rfl ?_ -- t16 indexAddr
    refine rvc_prim C rfl rfl rfl rfl trivial rfl ?_ -- t_ store
    refine rvc_nil ?_
    refine Awp.cons C (fun _ => .pure) (by kernel_rfl) ?_ -- region 5 true
    refine rvc_prim C rfl rfl rfl rfl ⟨by decide, by decide⟩ rfl ?_ -- t17 indexAddr
    refine rvc_prim C rfl rfl rfl rfl trivial rfl ?_ -- t18 load
    refine rvc_call hP C rfl rfl rfl (left_ref (by first | exact hst _ | exact R32.wrap _ | exact R32.bit _ _ _) 5 (by decide)) ?_
    refine rvc_prim C rfl rfl rfl rfl ⟨by decide, by decide⟩ rfl ?_ -- t20 indexAddr
    refine rvc_prim C rfl rfl rfl rfl trivial rfl ?_ -- t21 load
    refine rvc_prim C rfl rfl rfl rfl trivial rfl ?_ -- t22 binOp Go.BinOp.xor
    refine rvc_prim C rfl rfl rfl rfl ⟨by decide, by decide⟩ rfl ?_ -- t23 indexAddr
    refine rvc_prim C rfl rfl rfl rfl trivial rfl ?_ -- t_ store
    refine rvc_nil ?_
    refine Awp.cons C (fun _ => .pure) (by kernel_rfl) ?_ -- region 6 true
    refine rvc_prim C rfl rfl rfl rfl ⟨by decide, by decide⟩ rfl ?_ -- t24 indexAddr
    refine rvc_prim C rfl rfl rfl rfl trivial rfl ?_ -- t25 load
    refine rvc_call hP C rfl rfl rfl (left_ref (by first | exact hst _ | exact R32.wrap _ | exact R32.bit _ _ _) 8 (by decide)) ?_
    refine rvc_prim C rfl rfl rfl rfl ⟨by decide, by decide⟩ rfl ?_ -- t27 indexAddr
    refine rvc_prim C rfl rfl rfl rfl trivial rfl ?_ -- t28 load
    refine rvc_prim C rfl rfl rfl rfl trivial rfl ?_ -- t29 binOp Go.BinOp.xor
    refine rvc_prim C rfl rfl rfl rfl ⟨by decide, by decide⟩ rfl ?_ -- t30 indexAddr
    refine rvc_prim C rfl rfl rfl rfl trivial rfl ?_ -- t_ store
    refine rvc_nil ?_
    refine Awp.cons C (fun _ => .pure) (by kernel_rfl) ?_ -- region 7 true
    refine rvc_prim C rfl rfl rfl rfl ⟨by decide, by decide⟩ rfl ?_ -- t31 indexAddr
    refine rvc_prim C rfl rfl rfl rfl trivial rfl ?_ -- t32 load
    refine rvc_call hP C rfl rfl rfl (left_ref (by first | exact hst _ | exact R32.wrap _ | exact R32.bit _ _ _) 16 (by decide)) ?_
    refine rvc_prim C rfl rfl rfl rfl ⟨by decide, by decide⟩ rfl ?_ -- t34 indexAddr
    refine rvc_prim C rfl rfl rfl rfl trivial rfl ?_ -- t35 load
    refine rvc_prim C rfl rfl rfl rfl trivial rfl ?_ -- t36 binOp Go.BinOp.add
    refine rvc_prim C rfl rfl rfl rfl ⟨by decide, by decide⟩ rfl ?_ -- t37 indexAddr
    refine rvc_prim C rfl rfl rfl rfl trivial rfl ?_ -- t_ store
    refine rvc_nil ?_
    refine Awp.cons C (fun _ => .pure) (by kernel_rfl) ?_ -- region 8 false
    refine rvc_prim C rfl rfl rfl rfl ⟨by decide, by decide⟩ rfl ?_ -- t38 indexAddr
    refine rvc_prim C rfl rfl rfl rfl trivial rfl ?_ -- t39 load
    refine rvc_prim C rfl rfl rfl rfl ⟨by decide, by decide⟩ rfl ?_ -- t40 indexAddr
    refine rvc_prim C rfl rfl rfl rfl trivial rfl ?_ -- t41 load
    refine rvc_prim C rfl rfl rfl rfl trivial rfl ?_ -- t42 binOp Go.BinOp.add
    refine rvc_prim C rfl rfl rfl rfl ⟨by decide, by decide⟩ rfl ?_ -- t43 indexAddr
    refine rvc_prim C rfl rfl rfl rfl trivial rfl ?_ -- t_ store
    refine rvc_nil ?_
    refine Awp.cons C (fun _ => .pure) (by kernel_rfl) ?_ -- region 9 true
    refine rvc_prim C rfl rfl rfl rfl ⟨by decide, by decide⟩ rfl ?_ -- t44 indexAddr
    refine rvc_prim C rfl rfl rfl rfl trivial rfl ?_ -- t45 load
    refine rvc_call hP C rfl rfl rfl (left_ref (by first | exact hst _ | exact R32.wrap _ | exact R32.bit _ _ _) 7 (by decide)) ?_
    refine rvc_prim C rfl rfl rfl rfl ⟨by decide, by decide⟩ rfl ?_ -- t47 indexAddr
    refine rvc_prim C rfl rfl rfl rfl trivial rfl ?_ -- t48 load
    refine rvc_prim C rfl rfl rfl rfl trivial rfl ?_ -- t49 binOp Go.BinOp.xor
    refine rvc_prim C rfl rfl rfl rfl ⟨by decide, by decide⟩ rfl ?_ -- t50 indexAddr
    refine rvc_prim C rfl rfl rfl rfl trivial rfl ?_ -- t_ store
    refine rvc_nil ?_
    refine Awp.cons C (fun _ => .pure) (by kernel_rfl) ?_ -- region 10 true
    refine rvc_prim C rfl rfl rfl rfl ⟨by decide, by decide⟩ rfl ?_ -- t51 indexAddr
    refine rvc_prim C rfl rfl rfl rfl trivial rfl ?_ -- t52 load
    refine rvc_call hP C rfl rfl rfl (left_ref (by first | exact hst _ | exact R32.wrap _ | exact R32.bit _ _ _) 13 (by decide)) ?_
    refine rvc_prim C rfl rfl rfl rfl ⟨by decide, by decide⟩ rfl ?_ -- t54 indexAddr
    refine rvc_prim C rfl rfl rfl rfl trivial rfl ?_ -- t55 load
    refine rvc_prim C rfl rfl rfl rfl trivial rfl ?_ -- t56 binOp Go.BinOp.xor
    refine rvc_prim C rfl rfl rfl rfl ⟨by decide, by decide⟩ rfl ?_ -- t57 indexAddr
    refine rvc_prim C rfl rfl rfl rfl trivial rfl ?_ -- t_ store
    refine rvc_nil ?_
    refine Awp.region C (fun _ => .pure) (by kernel_rfl) ?_ -- region 11 false
    refine rvc_prim C rfl rfl rfl rfl ⟨by decide, by decide⟩ rfl ?_ -- t58 indexAddr
    refine rvc_prim C rfl rfl rfl rfl trivial rfl ?_ -- t59 load
    refine rvc_call hP C rfl rfl rfl (left_ref (by first | exact hst _ | exact R32.wrap _ | exact R32.bit _ _ _) 16 (by decide)) ?_
    refine rvc_prim C rfl rfl rfl rfl ⟨by decide, by decide⟩ rfl ?_ -- t61 indexAddr
    refine rvc_prim C rfl rfl rfl rfl trivial rfl ?_ -- t_ store
    refine rvc_nil ?_
    refine Awp.region C (fun _ => .pure) (by kernel_rfl) ?_ -- region 12 false
    refine rvc_prim C rfl rfl rfl rfl trivial rfl ?_ -- t62 binOp Go.BinOp.add
    refine rvc_prim C rfl rfl rfl rfl trivial rfl ?_ -- t3 move
    refine rvc_nil ?_
    exact Weaker.of hI ⟨rfl, rfl, lit_cast (wrap_i64 (by omega) (by omega)), trivial⟩ ⟨rfl, rfl, trivial⟩ rfl (by simp [Blk.within, cI_within])
  · refine Awp.cons C (fun _ => .pure) (by kernel_rfl) ?_ -- region 2 false
    refine rvc_prim C rfl rfl rfl rfl trivial rfl ?_ -- t4 binOp Go.BinOp.lss
    refine rvc_nil ?_
    refine Awp.seq ?_
    refine Awp.condF rfl (by simp) (Awp.exit ?_)
    refine Awp.cons C (fun _ => .pure) (by kernel_rfl) ?_ -- region 13 false
    refine rvc_prim C rfl rfl rfl rfl trivial rfl ?_ -- t63 load
    refine rvc_prim C rfl rfl rfl rfl trivial rfl ?_ -- t_ store
    refine rvc_nil ?_
    refine Awp.ret ?_
    exact ⟨.inl rfl, rfl⟩
end Go.Proofs.Ytaoagcdljmpllaa
