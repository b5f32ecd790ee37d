/- The contract of tag.Of where the key has 16 bytes. No conditions. -/
import Derived.Test.YtaoagcdljmpllaaTagD
namespace Go.Proofs.Ytaoagcdljmpllaa
open Go.Am

theorem blk_take {D : List Int} {i : Nat} (h : 16 * i + 16 ≤ D.length) : cI .u8 ((D.drop (16 * i)).take 16) = cI .u8 (tb 16 (blkF D i)) := by
  rw [cI_take (by simp; omega)]
  congr 1
  exact tb_congr fun t _ => by simp [blkF, List.getD_eq_getElem?_getD]

theorem of_good (fK fD : Option Bool) (K D : List Int) (h : K.length = 16) (hD : D.length ≤ 1000000000) : PCalls Try.prog 14 [sI fK .u8 K, sI fD .u8 D] (.tup [.agg (cI .u8 (tb 16 (ofF K D))), .pv (.lit (.int .i64 0))]) := by
  refine PCalls.of_body tabOk Try.func14 rfl rfl rfl rfl (by simp [AV.within, AV.withinL, cI_within]) mixed fun E hP C hI => ?_
  refine Awp.cons C (fun _ => .pure) (by kernel_rfl) ?_ -- region 0 false
  refine rvc_prim C rfl rfl rfl rfl trivial rfl ?_ -- t4 alloc 
  refine rvc_prim C rfl rfl rfl rfl trivial rfl ?_ -- t5 assign 
  refine rvc_nil ?_
  refine Awp.seq ?_
  refine Awp.cons C (fun _ => .pure) (by kernel_rfl) ?_ -- region 1 false
  refine rvc_prim C rfl rfl rfl rfl trivial rfl ?_ -- t12 move 
  refine rvc_prim C rfl rfl rfl rfl trivial rfl ?_ -- t13 call 
  refine rvc_prim C rfl rfl rfl rfl trivial rfl ?_ -- t14 binOp Go.BinOp.neq
  refine rvc_nil ?_
  refine Awp.condF rfl (by simpa using (by omega : (K.length : Int) = 16)) (Awp.skip ?_)
  refine Awp.cons C (fun _ => .pure) (by kernel_rfl) ?_ -- region 3 false
  refine rvc_prim C rfl rfl rfl rfl trivial rfl ?_ -- t16 move 
  refine rvc_primv C (.rp (pI .u8 (K.take 16))) rfl rfl rfl rfl ⟨by omega, by omega⟩ rfl (by simp [pI, List.map_take]) ?_ -- t17 sliceToArrayPointer 
  refine rvc_loadArr C (cI .u8 (tb 16 fun t => K.getD t 0)) rfl rfl rfl rfl (by rw [pI_pv]; exact cI_take (by omega)) rfl (by decide) ?_ -- t18 load 
  refine rvc_call hP C rfl rfl rfl (words_calls _) ?_ -- t19 call Go.Operand.func 37
  refine rvc_prim C rfl rfl rfl rfl trivial rfl ?_ -- t6 alloc 
  refine rvc_prim C rfl rfl rfl rfl trivial rfl ?_ -- t_ store 
  refine rvc_nil ?_
  refine Awp.cons C (fun _ => .pure) (by kernel_rfl) ?_ -- region 4 false
  refine rvc_prim C rfl rfl rfl rfl trivial rfl ?_ -- t20 load 
  refine rvc_call hP C rfl rfl rfl (double_calls _) ?_ -- t21 call Go.Operand.func 38
  refine rvc_prim C rfl rfl rfl rfl trivial rfl ?_ -- t7 alloc 
  refine rvc_prim C rfl rfl rfl rfl trivial rfl ?_ -- t_ store 
  refine rvc_nil ?_
  refine Awp.cons C (fun _ => .pure) (by kernel_rfl) ?_ -- region 5 false
  refine rvc_prim C rfl rfl rfl rfl trivial rfl ?_ -- t22 load 
  refine rvc_call hP C rfl rfl rfl (double_calls _) ?_ -- t23 call Go.Operand.func 38
  refine rvc_prim C rfl rfl rfl rfl trivial rfl ?_ -- t8 alloc 
  refine rvc_prim C rfl rfl rfl rfl trivial rfl ?_ -- t_ store 
  refine rvc_nil ?_
  refine Awp.cons C (fun _ => .pure) (by kernel_rfl) ?_ -- region 6 false
  refine rvc_prim C rfl rfl rfl rfl trivial rfl ?_ -- t24 load 
  refine rvc_prim C rfl rfl rfl rfl trivial rfl ?_ -- t9 alloc 
  refine rvc_prim C rfl rfl rfl rfl trivial rfl ?_ -- t_ store 
  refine rvc_nil ?_
  let k : Nat → Int := wordsF fun t => K.getD t 0
  refine Awp.seq ?_
  refine Awp.block ?_ -- 0
  refine Awp.forN ((D.length - 1) / 16) (fun i => [(1, sI fD .u8 (D.drop (16 * i))), (4, .ptr 4 0), (7, .ptr 7 0), (8, .ptr 8 0), (9, .ptr 9 0)]) (fun i => [(4, .cells (cI .u8 (tb 16 fun _ => 0))), (7, .cells (cI .u32 (tb 4 (doubleF k)))), (8, .cells (cI .u32 (tb 4 (doubleF (doubleF k))))), (9, .cells (cI .u32 (tb 4 (stN k D i))))]) [4, 7, 8, 9] ?_ (fun i hi => ?_) ?_
  · exact Weaker.of hI ⟨rfl, rfl, rfl, rfl, rfl, trivial⟩ ⟨rfl, rfl, rfl, rfl, trivial⟩ rfl (by simp [Blk.within, cI_within])
  · have hlen : (D.drop (16 * i)).length = D.length - 16 * i := by simp
    refine Awp.seq ?_
    refine Awp.cons C (fun _ => .pure) (by kernel_rfl) ?_ -- region 7 false
    refine rvc_prim C rfl rfl rfl rfl trivial rfl ?_ -- t25 move 
    refine rvc_prim C rfl rfl rfl rfl trivial rfl ?_ -- t26 call 
    refine rvc_prim C rfl rfl rfl rfl trivial rfl ?_ -- t27 binOp Go.BinOp.gtr
    refine rvc_nil ?_
    refine Awp.condT rfl (by rw [hlen]; simp; omega) (Awp.skip ?_)
    refine Awp.block ?_ -- 1
    refine Awp.cons C (fun _ => .pure) (by kernel_rfl) ?_ -- region 8 true
    refine rvc_prim C rfl rfl rfl rfl trivial rfl ?_ -- t28 load 
    refine rvc_prim C rfl rfl rfl rfl trivial rfl ?_ -- t29 move 
    refine rvc_primv C (sI fD .u8 ((D.drop (16 * i)).take 16)) rfl rfl rfl rfl ⟨by decide, by decide, by rw [hlen]; omega⟩ rfl (sI_cut 0 16 (by omega) (by rw [hlen]; omega) rfl rfl rfl) ?_ -- t30 slice 
    refine rvc_primv C (.rp (pI .u8 ((D.drop (16 * i)).take 16))) rfl rfl rfl rfl ⟨by simp; omega, by omega⟩ rfl (by simp [pI, List.take_take]) ?_ -- t31 sliceToArrayPointer 
    refine rvc_loadArr C (cI .u8 (tb 16 (blkF D i))) rfl rfl rfl rfl (by rw [pI_pv]; exact blk_take (by omega)) rfl (by decide) ?_ -- t32 load 
    refine rvc_call hP C rfl rfl rfl (words_calls _) ?_ -- t33 call Go.Operand.func 37
    refine rvc_call hP C rfl rfl rfl (xor_calls _ _) ?_ -- t34 call Go.Operand.func 39
    refine rvc_call hP C rfl rfl rfl (stir_calls _) ?_ -- t35 call Go.Operand.func 40
    refine rvc_prim C rfl rfl rfl rfl trivial rfl ?_ -- t_ store 
    refine rvc_nil ?_
    refine Awp.region C (fun _ => .pure) (by kernel_rfl) ?_ -- region 9 false
    refine rvc_prim C rfl rfl rfl rfl trivial rfl ?_ -- t36 move 
    refine rvc_primv C (sI fD .u8 (D.drop (16 * (i + 1)))) rfl rfl rfl rfl ⟨by decide, by show (16 : Int) ≤ ((D.drop (16 * i)).length : Int); rw [hlen]; omega⟩ rfl ?_ ?_ -- t37 slice 
    · refine (sI_cut 16 (D.drop (16 * i)).length (by rw [hlen]; omega) (by omega) rfl rfl rfl).trans ?_
      congr 1
      rw [List.take_of_length_le (by simp; omega), List.drop_drop]
      congr 1
    refine rvc_prim C rfl rfl rfl rfl trivial rfl ?_ -- t1 assign 
    refine rvc_nil ?_
    exact Weaker.of hI ⟨rfl, rfl, rfl, rfl, rfl, trivial⟩ ⟨rfl, rfl, rfl, rfl, trivial⟩ rfl (by simp [Blk.within, cI_within])
  · have hlen : (D.drop (16 * ((D.length - 1) / 16))).length = D.length - 16 * ((D.length - 1) / 16) := by simp
    refine Awp.seq ?_
    refine Awp.cons C (fun _ => .pure) (by kernel_rfl) ?_ -- region 7 false
    refine rvc_prim C rfl rfl rfl rfl trivial rfl ?_ -- t25 move 
    refine rvc_prim C rfl rfl rfl rfl trivial rfl ?_ -- t26 call 
    refine rvc_prim C rfl rfl rfl rfl trivial rfl ?_ -- t27 binOp Go.BinOp.gtr
    refine rvc_nil ?_
    refine Awp.condF rfl (by rw [hlen]; simp; omega) (Awp.exit ?_)
    refine Awp.cons C (fun _ => .pure) (by kernel_rfl) ?_ -- region 10 false
    refine rvc_prim C rfl rfl rfl rfl trivial rfl ?_ -- t10 alloc 
    refine rvc_nil ?_
    refine Awp.cons C (fun _ => .pure) (by kernel_rfl) ?_ -- region 11 false
    refine rvc_prim C rfl rfl rfl rfl ⟨⟨by decide, by decide⟩, by decide, .inl rfl⟩ rfl ?_ -- t38 slice 
    refine rvc_prim C rfl rfl rfl rfl trivial rfl ?_ -- t39 move 
    refine rvc_copy C rfl rfl rfl rfl rfl rfl rfl rfl (by rw [pI_len]; exact (Nat.mul_one _).symm) (by show 0 + min _ 16 * 1 ≤ 16; omega) ?_ ?_ -- t40 copy
    · rw [pI_pv]; exact flat_take _ _ _
    refine rvc_nil ?_
    refine Awp.weaken (S := [(1, sI fD .u8 (D.drop (16 * ((D.length - 1) / 16)))), (4, .ptr 4 0), (7, .ptr 7 0), (8, .ptr 8 0), (9, .ptr 9 0), (10, .ptr 10 0)]) (H := [(4, .cells (cI .u8 (tb 16 fun _ => 0))), (7, .cells (cI .u32 (tb 4 (doubleF k)))), (8, .cells (cI .u32 (tb 4 (doubleF (doubleF k))))), (9, .cells (cI .u32 (tb 4 (stN k D ((D.length - 1) / 16))))), (10, .cells (cI .u8 (tb 16 fun t => if t < D.length - 16 * ((D.length - 1) / 16) then blkF D ((D.length - 1) / 16) t else 0)))]) (U := [4, 7, 8, 9, 10]) (Weaker.of hI ⟨rfl, rfl, rfl, rfl, rfl, rfl, trivial⟩ ⟨rfl, rfl, rfl, rfl, ?_, trivial⟩ rfl (by simp [Blk.within, cI_within])) ?_
    · refine congrArg (fun x => some (Blk.cells x)) ?_
      rw [pI_pv]
      refine (cI_copy (k := .u8) (m := 16) (f := fun _ => 0) (R := D.drop (16 * ((D.length - 1) / 16))) (j := min (D.drop (16 * ((D.length - 1) / 16))).length 16 * 1) (by omega) (by omega)).trans ?_
      congr 1
      refine tb_congr fun t ht => ?_
      rw [hlen]
      by_cases h1 : t < D.length - 16 * ((D.length - 1) / 16)
      · rw [if_pos (by omega), if_pos h1]; simp [blkF, List.getD_eq_getElem?_getD]
      · rw [if_neg (by omega), if_neg h1]
    have hrle : D.length - 16 * ((D.length - 1) / 16) ≤ 16 := by omega
    have hend : endF k D = if D.length - 16 * ((D.length - 1) / 16) < 16 then doubleF (doubleF k) else doubleF k := rfl
    have hlast : ∀ t, lastF D t = if t = D.length - 16 * ((D.length - 1) / 16) then 1 else if t < D.length - 16 * ((D.length - 1) / 16) then blkF D ((D.length - 1) / 16) t else 0 := fun _ => rfl
    have hof : ofF K D = bytesF (xorF (stirF (xorF (xorF (stN k D ((D.length - 1) / 16)) (wordsF (lastF D))) (endF k D))) (endF k D)) := rfl
    rw [hof]
    generalize (D.length - 1) / 16 = m at *
    refine Awp.cons C (fun _ => .pure) (by kernel_rfl) ?_ -- region 12 false
    refine rvc_prim C rfl rfl rfl rfl trivial rfl ?_ -- t41 load 
    refine rvc_prim C rfl rfl rfl rfl trivial rfl ?_ -- t11 alloc 
    refine rvc_prim C rfl rfl rfl rfl trivial rfl ?_ -- t_ store 
    refine rvc_nil ?_
    refine Awp.seq_mid [(4, .ptr 4 0), (9, .ptr 9 0), (10, .ptr 10 0), (11, .ptr 11 0)] [(4, .cells (cI .u8 (tb 16 fun _ => 0))), (9, .cells (cI .u32 (tb 4 (stN k D m)))), (10, .cells (cI .u8 (tb 16 (lastF D)))), (11, .cells (cI .u32 (tb 4 (endF k D))))] [4, 9, 10, 11] ?_ ?_
    · refine Awp.cons C (fun _ => .pure) (by kernel_rfl) ?_ -- region 13 false
      refine rvc_prim C rfl rfl rfl rfl trivial rfl ?_ -- t42 move 
      refine rvc_prim C rfl rfl rfl rfl trivial rfl ?_ -- t43 call 
      refine rvc_prim C rfl rfl rfl rfl trivial rfl ?_ -- t44 binOp Go.BinOp.lss
      refine rvc_nil ?_
      refine Awp.cond rfl (fun hc => ?_) (fun hc => ?_)
      · have hr : D.length - 16 * m < 16 := by rw [hlen] at hc; simp at hc; omega
        refine Awp.cons C (fun _ => .pure) (by kernel_rfl) ?_ -- region 14 false
        refine rvc_prim C rfl rfl rfl rfl trivial rfl ?_ -- t45 move 
        refine rvc_prim C rfl rfl rfl rfl trivial rfl ?_ -- t46 call 
        refine rvc_prim C rfl rfl rfl rfl ⟨by omega, by rw [hlen]; omega⟩ rfl ?_ -- t47 indexAddr 
        refine rvc_store C rfl rfl rfl rfl rfl (by rw [cI_len, tb_len, hlen]; show 0 + ((D.length - 16 * m : Nat) : Int).toNat * 1 < 16; omega) ?_ -- t_ store 
        refine rvc_nil ?_
        refine Awp.region C (fun _ => .pure) (by kernel_rfl) ?_ -- region 15 false
        refine rvc_prim C rfl rfl rfl rfl trivial rfl ?_ -- t48 load 
        refine rvc_prim C rfl rfl rfl rfl trivial rfl ?_ -- t_ store 
        refine rvc_nil ?_
        refine Weaker.of hI ⟨rfl, rfl, rfl, rfl, trivial⟩ ⟨rfl, rfl, ?_, ?_, trivial⟩ rfl (by simp [Blk.within, cI_within])
        · refine (congrArg (fun x => some (Blk.cells x)) (cI_set (D.length - 16 * m) (by rw [hlen]; show 0 + ((D.length - 16 * m : Nat) : Int).toNat * 1 = _; omega))).trans (cells_cast fun t ht => ?_)
          rw [hlast]
        · rw [hend, if_pos hr]; rfl
      · have hr : D.length - 16 * m = 16 := by rw [hlen] at hc; simp at hc; omega
        refine Awp.skip ?_
        refine Weaker.of hI ⟨rfl, rfl, rfl, rfl, trivial⟩ ⟨rfl, rfl, ?_, ?_, trivial⟩ rfl (by simp [Blk.within, cI_within])
        · refine cells_cast fun t ht => ?_
          rw [hlast, hr]
          have : t ≠ 16 := by omega
          simp [this]
        · rw [hend, if_neg (by omega)]; rfl
    refine Awp.cons C (fun _ => .pure) (by kernel_rfl) ?_ -- region 16 true
    refine rvc_prim C rfl rfl rfl rfl trivial rfl ?_ -- t49 load 
    refine rvc_prim C rfl rfl rfl rfl trivial rfl ?_ -- t50 load 
    refine rvc_call hP C rfl rfl rfl (words_calls _) ?_ -- t51 call Go.Operand.func 37
    refine rvc_call hP C rfl rfl rfl (xor_calls _ _) ?_ -- t52 call Go.Operand.func 39
    refine rvc_prim C rfl rfl rfl rfl trivial rfl ?_ -- t53 load 
    refine rvc_call hP C rfl rfl rfl (xor_calls _ _) ?_ -- t54 call Go.Operand.func 39
    refine rvc_call hP C rfl rfl rfl (stir_calls _) ?_ -- t55 call Go.Operand.func 40
    refine rvc_prim C rfl rfl rfl rfl trivial rfl ?_ -- t56 load 
    refine rvc_call hP C rfl rfl rfl (xor_calls _ _) ?_ -- t57 call Go.Operand.func 39
    refine rvc_call hP C rfl rfl rfl (bytes_calls _) ?_ -- t58 call Go.Operand.func 41
    refine rvc_prim C rfl rfl rfl rfl trivial rfl ?_ -- t_ store 
    refine rvc_prim C rfl rfl rfl rfl trivial rfl ?_ -- t5 assign 
    refine rvc_nil ?_
    refine Awp.ret ?_
    exact ⟨.inl rfl, rfl⟩
end Go.Proofs.Ytaoagcdljmpllaa
