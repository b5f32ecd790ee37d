/- The contracts of bytes16 and of awake. No conditions. -/
import Derived.Test.YtaoagcdljmpllaaTagF
namespace Go.Proofs.Ytaoagcdljmpllaa
open Go.Am

/-! ### bytes16 -/
theorem bytes16_calls (k : Nat → Int) : PCalls Try.prog 17 [.agg (cI .u32 (tb 4 k))] (.agg (cI .u8 (tb 16 (bytesF k)))) := by
  refine PCalls.of_body tabOk Try.func17 rfl rfl rfl (by simp [AV.withinL, AV.within, cI_within]) (by simp [AV.within, cI_within]) mixed fun E hP C hI => ?_
  refine Awp.cons C (fun _ => .pure) (by kernel_rfl) ?_ -- region 0 false
  refine rvc_prim C rfl rfl rfl rfl trivial rfl ?_ -- t1 box 
  refine rvc_prim C rfl rfl rfl rfl trivial rfl ?_ -- t2 alloc 
  refine rvc_nil ?_
  refine Awp.cons C (fun _ => .pure) (by kernel_rfl) ?_ -- region 1 false
  refine rvc_prim C rfl rfl rfl rfl trivial rfl ?_ -- t3 alloc 
  refine rvc_nil ?_
  refine Awp.seq ?_
  refine Awp.cons C (fun _ => .pure) (by kernel_rfl) ?_ -- region 2 false
  refine rvc_prim C rfl rfl rfl rfl trivial rfl ?_ -- t5 move 
  refine rvc_nil ?_
  refine Awp.block ?_ -- 0
  refine Awp.forN 16 (fun i => [(1, .ptr 1 0), (2, .ptr 2 0), (3, .ptr 3 0), (5, .pv (.int .i64 i))]) (fun i => [(1, .cells (cI .u32 (tb 4 k))), (2, .cells (cI .u8 (tb 16 fun _ => 0))), (3, .cells (cI .u8 (tb 16 (bTab k i))))]) [1, 2, 3] ?_ (fun i hi => ?_) ?_
  · exact Weaker.of hI ⟨rfl, rfl, rfl, rfl, trivial⟩ ⟨rfl, rfl, rfl, trivial⟩ rfl (by simp [Blk.within, cI_within])
  · have m1 : IntKind.i64.wrap ((i : Int).tdiv 4) = ((i / 4 : Nat) : Int) := by
      rw [Int.tdiv_eq_ediv_of_nonneg (by omega)]; exact wrap_i64 (by omega) (by omega)
    have m2 : IntKind.i64.wrap (8 * (i : Int).tmod 4) = ((8 * (i % 4) : Nat) : Int) := by
      rw [Int.tmod_eq_emod_of_nonneg (by omega)]; exact (wrap_i64 (by omega) (by omega)).trans (by omega)
    refine Awp.cons C (fun _ => .pure) (by kernel_rfl) ?_ -- region 3 false
    refine rvc_prim C rfl rfl rfl rfl trivial rfl ?_ -- t6 binOp Go.BinOp.lss
    refine rvc_nil ?_
    refine Awp.seq ?_
    refine Awp.condT rfl (by simp; omega) (Awp.skip ?_)
    refine Awp.seq ?_
    refine Awp.block ?_ -- 1
    refine Awp.cons C (fun _ => .pure) (by kernel_rfl) ?_ -- region 4 false
    refine rvc_prim C rfl rfl rfl rfl trivial rfl ?_ -- t7 move 
    refine rvc_prim C rfl rfl rfl rfl trivial rfl ?_ -- t4 assign 
    refine rvc_nil ?_
    refine Awp.region C (fun _ => .pure) (by kernel_rfl) ?_ -- region 5 false
    refine rvc_prim C rfl rfl rfl rfl trivial rfl ?_ -- t8 move 
    refine rvc_prim C rfl rfl rfl rfl trivial rfl ?_ -- t9 move 
    refine rvc_prim C rfl rfl rfl rfl (by decide) rfl ?_ -- t10 binOp Go.BinOp.quo
    refine rvc_prim C rfl rfl rfl rfl ⟨by rw [m1]; omega, by rw [m1]; omega⟩ rfl ?_ -- t11 indexAddr 
    refine rvc_load C rfl rfl rfl rfl rfl (cI_at (i / 4) (by rw [m1]; show 0 + ((i / 4 : Nat) : Int).toNat * 1 = _; omega) (by omega)) ?_ -- t12 load 
    refine rvc_prim C rfl rfl rfl rfl trivial rfl ?_ -- t13 move 
    refine rvc_prim C rfl rfl rfl rfl (by decide) rfl ?_ -- t14 binOp Go.BinOp.rem
    refine rvc_prim C rfl rfl rfl rfl trivial rfl ?_ -- t15 binOp Go.BinOp.mul
    refine rvc_prim C rfl rfl rfl rfl (by rw [m2]; omega) rfl ?_ -- t16 binOp Go.BinOp.shr
    refine rvc_prim C rfl rfl rfl rfl trivial rfl ?_ -- t17 convert 
    refine rvc_prim C rfl rfl rfl rfl ⟨by omega, by omega⟩ rfl ?_ -- t18 indexAddr 
    refine rvc_store C rfl rfl rfl rfl rfl (by rw [cI_len, tb_len]; show 0 + (i : Int).toNat * 1 < 16; omega) ?_ -- t_ store 
    refine rvc_nil ?_
    refine Awp.region C (fun _ => .pure) (by kernel_rfl) ?_ -- region 6 false
    refine rvc_prim C rfl rfl rfl rfl trivial rfl ?_ -- t19 binOp Go.BinOp.add
    refine rvc_prim C rfl rfl rfl rfl trivial rfl ?_ -- t5 move 
    refine rvc_nil ?_
    refine Weaker.of hI ⟨rfl, rfl, rfl, lit_cast (wrap_i64 (by omega) (by omega)), trivial⟩ ⟨rfl, rfl, ?_, trivial⟩ rfl (by simp [Blk.within, cI_within])
    refine (congrArg (fun x => some (Blk.cells x)) (cI_set i (by show 0 + (i : Int).toNat * 1 = _; omega))).trans (cells_cast fun t ht => ?_)
    simp only [bTab, m2]
    by_cases h1 : t = i
    · subst h1
      rw [if_pos rfl, if_pos (by omega)]
      rfl
    · rw [if_neg h1]
      by_cases h2 : t < i
      · rw [if_pos h2, if_pos (by omega)]
      · rw [if_neg h2, if_neg (by omega)]
  · refine Awp.cons C (fun _ => .pure) (by kernel_rfl) ?_ -- region 3 false
    refine rvc_prim C rfl rfl rfl rfl trivial rfl ?_ -- t6 binOp Go.BinOp.lss
    refine rvc_nil ?_
    refine Awp.seq ?_
    refine Awp.condF rfl (by simp) (Awp.exit ?_)
    refine Awp.cons C (fun _ => .pure) (by kernel_rfl) ?_ -- region 7 false
    refine rvc_prim C rfl rfl rfl rfl trivial rfl ?_ -- t20 load 
    refine rvc_prim C rfl rfl rfl rfl trivial rfl ?_ -- t_ store 
    refine rvc_nil ?_
    refine Awp.ret ?_
    exact ⟨.inl rfl, rfl⟩

/-! ### awake -/
def one4 (t : Nat) : Int := if t = 0 then 1 else 0
def zs (n : Nat) : List Int := List.replicate n 0
theorem awake_eq : eqI 16 (ofF (zs 16) []) (bytesF (stirF one4)) = true := by kernel_rfl
theorem awake_ne : eqI 16 (ofF (zs 16) []) (fun _ => 0) = false := by kernel_rfl
theorem one4_R : R32s one4 := fun t => by unfold one4; split <;> exact ⟨by decide, by decide⟩

theorem awake_calls : PCalls Try.prog 18 [] (.pv (.bool true)) := by
  refine PCalls.of_body tabOk Try.func18 rfl rfl rfl rfl rfl mixed fun E hP C hI => ?_
  refine Awp.cons C (fun _ => .pure) (by kernel_rfl) ?_ -- region 0 false
  refine rvc_prim C rfl rfl rfl rfl trivial rfl ?_ -- t0 assign 
  refine rvc_nil ?_
  refine Awp.cons C (fun _ => .pure) (by kernel_rfl) ?_ -- region 1 false
  refine rvc_makeSliceF C (pI .u8 (zs 15)) rfl rfl rfl rfl rfl (by decide) rfl ?_ -- t6 makeSlice 
  refine rvc_call hP C rfl rfl rfl (of_bad (some false) (some true) (zs 15) [] (by decide)) ?_ -- t7 call Go.Operand.func 14
  refine rvc_prim C rfl rfl rfl rfl trivial rfl ?_ -- t5 move 
  refine rvc_prim C rfl rfl rfl rfl trivial rfl ?_ -- t8 extract 
  refine rvc_prim C rfl rfl rfl rfl trivial rfl ?_ -- t9 extract 
  refine rvc_prim C rfl rfl rfl rfl trivial rfl ?_ -- t1 alloc 
  refine rvc_prim C rfl rfl rfl rfl trivial rfl ?_ -- t_ store 
  refine rvc_prim C rfl rfl rfl rfl trivial rfl ?_ -- t2 assign 
  refine rvc_nil ?_
  refine Awp.cons C (fun _ => .pure) (by kernel_rfl) ?_ -- region 2 false
  refine rvc_makeSliceF C (pI .u8 (zs 16)) rfl rfl rfl rfl rfl (by decide) rfl ?_ -- t11 makeSlice 
  refine rvc_call hP C rfl rfl rfl (of_good (some false) (some true) (zs 16) [] (by decide) (by decide)) ?_ -- t12 call Go.Operand.func 14
  refine rvc_prim C rfl rfl rfl rfl trivial rfl ?_ -- t10 move 
  refine rvc_prim C rfl rfl rfl rfl trivial rfl ?_ -- t13 extract 
  refine rvc_prim C rfl rfl rfl rfl trivial rfl ?_ -- t14 extract 
  refine rvc_prim C rfl rfl rfl rfl trivial rfl ?_ -- t3 alloc 
  refine rvc_prim C rfl rfl rfl rfl trivial rfl ?_ -- t_ store 
  refine rvc_prim C rfl rfl rfl rfl trivial rfl ?_ -- t4 assign 
  refine rvc_nil ?_
  refine Awp.cons C (fun _ => .pure) (by kernel_rfl) ?_ -- region 3 true
  refine rvc_prim C rfl rfl rfl rfl trivial rfl ?_ -- t15 move 
  refine rvc_prim C rfl rfl rfl rfl trivial rfl ?_ -- t16 binOp Go.BinOp.eql
  refine rvc_prim C rfl rfl rfl rfl trivial rfl ?_ -- t17 move 
  refine rvc_open rfl rfl rfl (rexec_prim C rfl rfl rfl rfl trivial rfl ?_) -- t18 move 
  refine rvc_open rfl rfl rfl (rexec_prim C rfl rfl rfl rfl trivial rfl ?_) -- t19 binOp Go.BinOp.eql
  refine rvc_prim C rfl rfl rfl rfl trivial rfl ?_ -- t20 pick 
  refine rvc_prim C rfl rfl rfl rfl trivial rfl ?_ -- t21 move 
  refine rvc_open rfl rfl rfl (rexec_prim C rfl rfl rfl rfl trivial rfl ?_) -- t22 load 
  refine rvc_open rfl rfl rfl (rexec_prim C rfl rfl rfl rfl trivial rfl ?_) -- t23 build 
  refine rvc_open rfl rfl rfl (rexec_call hP C rfl rfl rfl (refStir_calls one4 one4_R) ?_) -- t24 call Go.Operand.func 16
  refine rvc_open rfl rfl rfl (rexec_call hP C rfl rfl rfl (bytes16_calls _) ?_) -- t25 call Go.Operand.func 17
  refine rvc_open rfl rfl rfl (rexec_prim C rfl rfl rfl (prim_eqI (k := .u8) (m := 16) (f := ofF (zs 16) []) (h := bytesF (stirF one4)) rfl rfl rfl rfl rfl rfl) trivial rfl ?_) -- t26 binOp Go.BinOp.eql
  rw [awake_eq]
  refine rvc_prim C rfl rfl rfl rfl trivial rfl ?_ -- t27 pick 
  refine rvc_prim C rfl rfl rfl rfl trivial rfl ?_ -- t28 move 
  refine rvc_open rfl rfl rfl (rexec_prim C rfl rfl rfl rfl trivial rfl ?_) -- t29 load 
  refine rvc_open rfl rfl rfl (rexec_prim C rfl rfl rfl rfl trivial rfl ?_) -- t30 build 
  refine rvc_open rfl rfl rfl (rexec_prim C rfl rfl rfl (prim_neI (k := .u8) (m := 16) (f := ofF (zs 16) []) (h := fun _ => 0) rfl rfl rfl rfl rfl rfl) trivial rfl ?_) -- t31 binOp Go.BinOp.neq
  rw [awake_ne]
  refine rvc_prim C rfl rfl rfl rfl trivial rfl ?_ -- t32 pick 
  refine rvc_prim C rfl rfl rfl rfl trivial rfl ?_ -- t0 assign 
  refine rvc_nil ?_
  refine Awp.ret ?_
  exact ⟨.inl rfl, rfl⟩
end Go.Proofs.Ytaoagcdljmpllaa
