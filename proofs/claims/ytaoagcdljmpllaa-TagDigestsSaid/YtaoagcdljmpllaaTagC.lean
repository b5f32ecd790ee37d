/- The contracts of xor, left and stir of package tag. No conditions. -/
import Derived.Test.YtaoagcdljmpllaaTagB
namespace Go.Proofs.Ytaoagcdljmpllaa
open Go.Am

/-! ### xor -/
def xorF (k l : Nat → Int) (t : Nat) : Int := bitI .xor .u32 (k t) (l t)
def xTab (k l : Nat → Int) (i t : Nat) : Int := if t < i then xorF k l t else k t
theorem xor_calls (k l : Nat → Int) : PCalls Try.prog 39 [.agg (cI .u32 (tb 4 k)), .agg (cI .u32 (tb 4 l))] (.agg (cI .u32 (tb 4 (xorF k l)))) := by
  refine PCalls.of_body tabOk Try.func39 rfl rfl rfl (by simp [AV.withinL, AV.within, cI_within]) (by simp [AV.within, cI_within]) mixed fun E hP C hI => ?_
  refine Awp.cons C (fun _ => .pure) (by kernel_rfl) ?_ -- region 0 false
  refine rvc_prim C rfl rfl rfl rfl trivial rfl ?_ -- t2 box 
  refine rvc_prim C rfl rfl rfl rfl trivial rfl ?_ -- t3 box 
  refine rvc_prim C rfl rfl rfl rfl trivial rfl ?_ -- t4 alloc 
  refine rvc_nil ?_
  refine Awp.seq ?_
  refine Awp.cons C (fun _ => .pure) (by kernel_rfl) ?_ -- region 1 false
  refine rvc_prim C rfl rfl rfl rfl trivial rfl ?_ -- t6 move 
  refine rvc_nil ?_
  refine Awp.block ?_ -- 0
  refine Awp.forN 4 (fun i => [(2, .ptr 2 0), (3, .ptr 3 0), (4, .ptr 4 0), (6, .pv (.lit (.int .i64 i)))]) (fun i => [(2, .cells (cI .u32 (tb 4 (xTab k l i)))), (3, .cells (cI .u32 (tb 4 l))), (4, .cells (cI .u32 (tb 4 fun _ => 0)))]) [2, 3, 4] ?_ (fun i hi => ?_) ?_
  · exact Weaker.of hI ⟨rfl, rfl, rfl, rfl, trivial⟩ ⟨rfl, rfl, rfl, trivial⟩ rfl (by simp [Blk.within, cI_within])
  · refine Awp.cons C (fun _ => .pure) (by kernel_rfl) ?_ -- region 2 false
    refine rvc_prim C rfl rfl rfl rfl trivial rfl ?_ -- t7 binOp Go.BinOp.lss
    refine rvc_nil ?_
    refine Awp.seq ?_
    refine Awp.condT rfl (by simpa using (by omega : (i : Int) < 4)) (Awp.skip ?_)
    refine Awp.seq ?_
    refine Awp.block ?_ -- 1
    refine Awp.cons C (fun _ => .pure) (by kernel_rfl) ?_ -- region 3 false
    refine rvc_prim C rfl rfl rfl rfl trivial rfl ?_ -- t8 move 
    refine rvc_prim C rfl rfl rfl rfl trivial rfl ?_ -- t5 assign 
    refine rvc_nil ?_
    refine Awp.region C (fun _ => .pure) (by kernel_rfl) ?_ -- region 4 true
    refine rvc_prim C rfl rfl rfl rfl trivial rfl ?_ -- t9 move 
    refine rvc_prim C rfl rfl rfl rfl ⟨by omega, by omega⟩ rfl ?_ -- t10 indexAddr 
    refine rvc_load C rfl rfl rfl rfl rfl (cI_at i (by simp) (by omega)) ?_ -- t11 load 
    refine rvc_prim C rfl rfl rfl rfl trivial rfl ?_ -- t12 move 
    refine rvc_prim C rfl rfl rfl rfl ⟨by omega, by omega⟩ rfl ?_ -- t13 indexAddr 
    refine rvc_load C rfl rfl rfl rfl rfl (cI_at i (by simp) (by omega)) ?_ -- t14 load 
    refine rvc_prim C rfl rfl rfl rfl trivial rfl ?_ -- t15 binOp Go.BinOp.xor
    refine rvc_prim C rfl rfl rfl rfl ⟨by omega, by omega⟩ rfl ?_ -- t16 indexAddr 
    refine rvc_store C rfl rfl rfl rfl rfl (by rw [cI_len, tb_len]; show 0 + (i : Int).toNat * 1 < 4; omega) ?_ -- t_ store 
    refine rvc_nil ?_
    refine Awp.region C (fun _ => .pure) (by kernel_rfl) ?_ -- region 5 false
    refine rvc_prim C rfl rfl rfl rfl trivial rfl ?_ -- t17 binOp Go.BinOp.add
    refine rvc_prim C rfl rfl rfl rfl trivial rfl ?_ -- t6 move 
    refine rvc_nil ?_
    refine Weaker.of hI ⟨rfl, rfl, rfl, lit_cast (wrap_i64 (by omega) (by omega)), trivial⟩ ⟨?_, rfl, rfl, trivial⟩ rfl (by simp [Blk.within, cI_within])
    refine (congrArg (fun x => some (Blk.cells x)) (cI_set i (by simp))).trans (cells_cast fun t ht => ?_)
    simp only [xTab]
    by_cases h1 : t = i
    · subst h1; simp [xorF]
    · by_cases h2 : t < i
      · simp [h1, h2, Nat.lt_succ_of_lt h2]
      · have : ¬ t < i + 1 := by omega
        simp [h1, h2, this]
  · refine Awp.cons C (fun _ => .pure) (by kernel_rfl) ?_ -- region 2 false
    refine rvc_prim C rfl rfl rfl rfl trivial rfl ?_ -- t7 binOp Go.BinOp.lss
    refine rvc_nil ?_
    refine Awp.seq ?_
    refine Awp.condF rfl rfl (Awp.exit ?_)
    refine Awp.cons C (fun _ => .pure) (by kernel_rfl) ?_ -- region 6 false
    refine rvc_prim C rfl rfl rfl rfl trivial rfl ?_ -- t18 load 
    refine rvc_prim C rfl rfl rfl rfl trivial rfl ?_ -- t_ store 
    refine rvc_nil ?_
    refine Awp.ret ?_
    exact ⟨.inl rfl, rfl⟩

/-! ### left -/
def leftF (x n : Int) : Int := bitI .or .u32 (shlI .u32 x n) (shrI .u32 x (IntKind.i64.wrap (32 - n)))
theorem left_calls (x n : Int) (h : 0 ≤ n) (h2 : 0 ≤ IntKind.i64.wrap (32 - n)) : PCalls Try.prog 56 [.pv (.int .u32 x), .pv (.int .i64 n)] (.pv (.int .u32 (leftF x n))) := by
  refine PCalls.of_body tabOk Try.func56 rfl rfl rfl rfl rfl mixed fun E hP C hI => ?_
  refine Awp.cons C (fun _ => .pure) (by kernel_rfl) ?_
  refine rvc_prim C rfl rfl rfl rfl trivial rfl ?_
  refine rvc_nil ?_
  refine Awp.cons C (fun _ => .pure) (by kernel_rfl) ?_
  refine rvc_prim C rfl rfl rfl rfl trivial rfl ?_
  refine rvc_prim C rfl rfl rfl rfl trivial rfl ?_
  refine rvc_prim C rfl rfl rfl rfl h rfl ?_
  refine rvc_prim C rfl rfl rfl rfl trivial rfl ?_
  refine rvc_prim C rfl rfl rfl rfl trivial rfl ?_
  refine rvc_prim C rfl rfl rfl rfl trivial rfl ?_
  refine rvc_prim C rfl rfl rfl rfl h2 rfl ?_
  refine rvc_prim C rfl rfl rfl rfl trivial rfl ?_
  refine rvc_prim C rfl rfl rfl rfl trivial rfl ?_
  refine rvc_nil (Awp.ret ?_)
  exact ⟨.inl rfl, rfl⟩

/-! ### stir -/
def rndF (s : Nat → Int) : Nat → Int :=
  let a1 := IntKind.u32.wrap (s 0 + s 1)
  let c1 := IntKind.u32.wrap (s 2 + s 3)
  let b1 := bitI .xor .u32 (leftF (s 1) 5) a1
  let d1 := bitI .xor .u32 (leftF (s 3) 8) c1
  let a2 := IntKind.u32.wrap (leftF a1 16 + d1)
  let c2 := IntKind.u32.wrap (c1 + b1)
  let b2 := bitI .xor .u32 (leftF b1 7) c2
  let d2 := bitI .xor .u32 (leftF d1 13) a2
  let c3 := leftF c2 16
  fun t => match t with | 0 => a2 | 1 => b2 | 2 => c3 | _ => d2
def stirN (s : Nat → Int) : Nat → Nat → Int
  | 0 => s
  | n + 1 => rndF (stirN s n)
def stirF (s : Nat → Int) : Nat → Int := stirN s 12
theorem stir_calls (s : Nat → Int) : PCalls Try.prog 40 [.agg (cI .u32 (tb 4 s))] (.agg (cI .u32 (tb 4 (stirF s)))) := by
  refine PCalls.of_body tabOk Try.func40 rfl rfl rfl (by simp [AV.withinL, AV.within, cI_within]) (by simp [AV.within, cI_within]) mixed fun E hP C hI => ?_
  refine Awp.cons C (fun _ => .pure) (by kernel_rfl) ?_ -- region 0 false
  refine rvc_prim C rfl rfl rfl rfl trivial rfl ?_ -- t1 box 
  refine rvc_prim C rfl rfl rfl rfl trivial rfl ?_ -- t2 alloc 
  refine rvc_nil ?_
  refine Awp.cons C (fun _ => .pure) (by kernel_rfl) ?_ -- region 1 true
  refine rvc_prim C rfl rfl rfl rfl ⟨by decide, by decide⟩ rfl ?_ -- t7 indexAddr 
  refine rvc_prim C rfl rfl rfl rfl trivial rfl ?_ -- t8 load 
  refine rvc_prim C rfl rfl rfl rfl ⟨by decide, by decide⟩ rfl ?_ -- t9 indexAddr 
  refine rvc_prim C rfl rfl rfl rfl trivial rfl ?_ -- t10 load 
  refine rvc_prim C rfl rfl rfl rfl ⟨by decide, by decide⟩ rfl ?_ -- t11 indexAddr 
  refine rvc_prim C rfl rfl rfl rfl trivial rfl ?_ -- t12 load 
  refine rvc_prim C rfl rfl rfl rfl ⟨by decide, by decide⟩ rfl ?_ -- t13 indexAddr 
  refine rvc_prim C rfl rfl rfl rfl trivial rfl ?_ -- t14 load 
  refine rvc_prim C rfl rfl rfl rfl trivial rfl ?_ -- t3 assign 
  refine rvc_prim C rfl rfl rfl rfl trivial rfl ?_ -- t4 assign 
  refine rvc_prim C rfl rfl rfl rfl trivial rfl ?_ -- t5 assign 
  refine rvc_prim C rfl rfl rfl rfl trivial rfl ?_ -- t6 assign 
  refine rvc_nil ?_
  refine Awp.seq ?_
  refine Awp.cons C (fun _ => .pure) (by kernel_rfl) ?_ -- region 2 false
  refine rvc_prim C rfl rfl rfl rfl trivial rfl ?_ -- t15 move 
  refine rvc_nil ?_
  refine Awp.block ?_ -- 0
  refine Awp.forN 12 (fun i => [(2, .ptr 2 0), (3, .pv (.lit (.int .u32 (stirN s i 0)))), (4, .pv (.lit (.int .u32 (stirN s i 1)))), (5, .pv (.lit (.int .u32 (stirN s i 2)))), (6, .pv (.lit (.int .u32 (stirN s i 3)))), (15, .pv (.lit (.int .i64 i)))]) (fun i => [(2, .cells (cI .u32 (tb 4 fun _ => 0)))]) [2] ?_ (fun i hi => ?_) ?_
  · exact Weaker.of hI ⟨rfl, rfl, rfl, rfl, rfl, rfl, trivial⟩ ⟨rfl, trivial⟩ rfl (by simp [Blk.within, cI_within])
  · refine Awp.cons C (fun _ => .pure) (by kernel_rfl) ?_ -- region 3 false
    refine rvc_prim C rfl rfl rfl rfl trivial rfl ?_ -- t16 binOp Go.BinOp.lss
    refine rvc_nil ?_
    refine Awp.seq ?_
    refine Awp.condT rfl (by simpa using (by omega : (i : Int) < 12)) (Awp.skip ?_)
    refine Awp.seq ?_
    refine Awp.block ?_ -- 1
    refine Awp.cons C (fun _ => .pure) (by kernel_rfl) ?_ -- region 4 false
    refine rvc_prim C rfl rfl rfl rfl trivial rfl ?_ -- t17 move 
    refine rvc_prim C rfl rfl rfl rfl trivial rfl ?_ -- t18 move 
    refine rvc_prim C rfl rfl rfl rfl trivial rfl ?_ -- t19 binOp Go.BinOp.add
    refine rvc_prim C rfl rfl rfl rfl trivial rfl ?_ -- t20 move 
    refine rvc_prim C rfl rfl rfl rfl trivial rfl ?_ -- t21 move 
    refine rvc_prim C rfl rfl rfl rfl trivial rfl ?_ -- t22 binOp Go.BinOp.add
    refine rvc_prim C rfl rfl rfl rfl trivial rfl ?_ -- t3 assign 
    refine rvc_prim C rfl rfl rfl rfl trivial rfl ?_ -- t5 assign 
    refine rvc_nil ?_
    refine Awp.cons C (fun _ => .pure) (by kernel_rfl) ?_ -- region 5 false
    refine rvc_prim C rfl rfl rfl rfl trivial rfl ?_ -- t23 move 
    refine rvc_call hP C rfl rfl rfl (left_calls _ 5 (by decide) (by decide)) ?_ -- t24 call Go.Operand.func 56
    refine rvc_prim C rfl rfl rfl rfl trivial rfl ?_ -- t25 move 
    refine rvc_prim C rfl rfl rfl rfl trivial rfl ?_ -- t26 binOp Go.BinOp.xor
    refine rvc_prim C rfl rfl rfl rfl trivial rfl ?_ -- t27 move 
    refine rvc_call hP C rfl rfl rfl (left_calls _ 8 (by decide) (by decide)) ?_ -- t28 call Go.Operand.func 56
    refine rvc_prim C rfl rfl rfl rfl trivial rfl ?_ -- t29 move 
    refine rvc_prim C rfl rfl rfl rfl trivial rfl ?_ -- t30 binOp Go.BinOp.xor
    refine rvc_prim C rfl rfl rfl rfl trivial rfl ?_ -- t4 assign 
    refine rvc_prim C rfl rfl rfl rfl trivial rfl ?_ -- t6 assign 
    refine rvc_nil ?_
    refine Awp.cons C (fun _ => .pure) (by kernel_rfl) ?_ -- region 6 false
    refine rvc_prim C rfl rfl rfl rfl trivial rfl ?_ -- t31 move 
    refine rvc_call hP C rfl rfl rfl (left_calls _ 16 (by decide) (by decide)) ?_ -- t32 call Go.Operand.func 56
    refine rvc_prim C rfl rfl rfl rfl trivial rfl ?_ -- t33 move 
    refine rvc_prim C rfl rfl rfl rfl trivial rfl ?_ -- t34 binOp Go.BinOp.add
    refine rvc_prim C rfl rfl rfl rfl trivial rfl ?_ -- t35 move 
    refine rvc_prim C rfl rfl rfl rfl trivial rfl ?_ -- t36 move 
    refine rvc_prim C rfl rfl rfl rfl trivial rfl ?_ -- t37 binOp Go.BinOp.add
    refine rvc_prim C rfl rfl rfl rfl trivial rfl ?_ -- t3 assign 
    refine rvc_prim C rfl rfl rfl rfl trivial rfl ?_ -- t5 assign 
    refine rvc_nil ?_
    refine Awp.cons C (fun _ => .pure) (by kernel_rfl) ?_ -- region 7 false
    refine rvc_prim C rfl rfl rfl rfl trivial rfl ?_ -- t38 move 
    refine rvc_call hP C rfl rfl rfl (left_calls _ 7 (by decide) (by decide)) ?_ -- t39 call Go.Operand.func 56
    refine rvc_prim C rfl rfl rfl rfl trivial rfl ?_ -- t40 move 
    refine rvc_prim C rfl rfl rfl rfl trivial rfl ?_ -- t41 binOp Go.BinOp.xor
    refine rvc_prim C rfl rfl rfl rfl trivial rfl ?_ -- t42 move 
    refine rvc_call hP C rfl rfl rfl (left_calls _ 13 (by decide) (by decide)) ?_ -- t43 call Go.Operand.func 56
    refine rvc_prim C rfl rfl rfl rfl trivial rfl ?_ -- t44 move 
    refine rvc_prim C rfl rfl rfl rfl trivial rfl ?_ -- t45 binOp Go.BinOp.xor
    refine rvc_prim C rfl rfl rfl rfl trivial rfl ?_ -- t4 assign 
    refine rvc_prim C rfl rfl rfl rfl trivial rfl ?_ -- t6 assign 
    refine rvc_nil ?_
    refine Awp.region C (fun _ => .pure) (by kernel_rfl) ?_ -- region 8 false
    refine rvc_prim C rfl rfl rfl rfl trivial rfl ?_ -- t46 move 
    refine rvc_call hP C rfl rfl rfl (left_calls _ 16 (by decide) (by decide)) ?_ -- t47 call Go.Operand.func 56
    refine rvc_prim C rfl rfl rfl rfl trivial rfl ?_ -- t5 assign 
    refine rvc_nil ?_
    refine Awp.region C (fun _ => .pure) (by kernel_rfl) ?_ -- region 9 false
    refine rvc_prim C rfl rfl rfl rfl trivial rfl ?_ -- t48 binOp Go.BinOp.add
    refine rvc_prim C rfl rfl rfl rfl trivial rfl ?_ -- t15 move 
    refine rvc_nil ?_
    exact Weaker.of hI ⟨rfl, rfl, rfl, rfl, rfl, lit_cast (wrap_i64 (by omega) (by omega)), trivial⟩ ⟨rfl, trivial⟩ rfl (by simp [Blk.within, cI_within])
  · refine Awp.cons C (fun _ => .pure) (by kernel_rfl) ?_ -- region 3 false
    refine rvc_prim C rfl rfl rfl rfl trivial rfl ?_ -- t16 binOp Go.BinOp.lss
    refine rvc_nil ?_
    refine Awp.seq ?_
    refine Awp.condF rfl rfl (Awp.exit ?_)
    refine Awp.cons C (fun _ => .pure) (by kernel_rfl) ?_ -- region 10 false
    refine rvc_prim C rfl rfl rfl rfl trivial rfl ?_ -- t49 move 
    refine rvc_prim C rfl rfl rfl rfl trivial rfl ?_ -- t50 move 
    refine rvc_prim C rfl rfl rfl rfl trivial rfl ?_ -- t51 move 
    refine rvc_prim C rfl rfl rfl rfl trivial rfl ?_ -- t52 move 
    refine rvc_prim C rfl rfl rfl rfl trivial rfl ?_ -- t53 build 
    refine rvc_prim C rfl rfl rfl rfl trivial rfl ?_ -- t_ store 
    refine rvc_nil ?_
    refine Awp.ret ?_
    exact ⟨.inl rfl, rfl⟩
end Go.Proofs.Ytaoagcdljmpllaa
