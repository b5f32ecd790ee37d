/- The contract of bytes of package tag, and of tag.Of where the key has not 16 bytes. No conditions. -/
import Derived.Test.YtaoagcdljmpllaaTagC
import Derived.Test.YtaoagcdljmpllaaAm18
namespace Go.Proofs.Ytaoagcdljmpllaa
open Go.Am

/-! ### bytes -/
def bytesF (k : Nat → Int) (t : Nat) : Int := IntKind.u8.wrap (shrI .u32 (k (t / 4)) ((8 * (t % 4) : Nat) : Int))
def bTab (k : Nat → Int) (m t : Nat) : Int := if t < m then bytesF k t else 0
theorem bytes_calls (k : Nat → Int) : PCalls Try.prog 41 [.agg (cI .u32 (tb 4 k))] (.agg (cI .u8 (tb 16 (bytesF k)))) := by
  refine PCalls.of_body tabOk Try.func41 rfl rfl rfl (by simp [AV.withinL, AV.within, cI_within]) (by simp [AV.within, cI_within]) mixed fun E hP C hI => ?_
  refine Awp.cons C (fun _ => .pure) (by kernel_rfl) ?_ -- region 0 false
  refine rvc_prim C rfl rfl rfl rfl trivial rfl ?_ -- t1 box 
  refine rvc_prim C rfl rfl rfl rfl trivial rfl ?_ -- t2 alloc 
  refine rvc_nil ?_
  refine Awp.cons C (fun _ => .pure) (by kernel_rfl) ?_ -- region 1 false
  refine rvc_prim C rfl rfl rfl rfl trivial rfl ?_ -- t3 alloc 
  refine rvc_nil ?_
  refine Awp.seq ?_
  refine Awp.cons C (fun _ => .pure) (by kernel_rfl) ?_ -- region 2 false
  refine rvc_prim C rfl rfl rfl rfl trivial rfl ?_ -- t7 load 
  refine rvc_prim C rfl rfl rfl rfl trivial rfl ?_ -- t8 move 
  refine rvc_nil ?_
  refine Awp.block ?_ -- 0
  refine Awp.forN 4 (fun i => [(2, .ptr 2 0), (3, .ptr 3 0), (7, .agg (cI .u32 (tb 4 k))), (8, .pv (.lit (.int .i64 i)))]) (fun i => [(2, .cells (cI .u8 (tb 16 fun _ => 0))), (3, .cells (cI .u8 (tb 16 (bTab k (4 * i)))))]) [2, 3] ?_ (fun i hi => ?_) ?_
  · exact Weaker.of hI ⟨rfl, rfl, rfl, rfl, trivial⟩ ⟨rfl, rfl, trivial⟩ (by simp [AV.within, cI_within]) (by simp [Blk.within, cI_within])
  · refine Awp.cons C (fun _ => .pure) (by kernel_rfl) ?_ -- region 3 false
    refine rvc_prim C rfl rfl rfl rfl trivial rfl ?_ -- t9 binOp Go.BinOp.lss
    refine rvc_nil ?_
    refine Awp.seq ?_
    refine Awp.condT rfl (by simpa using (by omega : (i : Int) < 4)) (Awp.skip ?_)
    refine Awp.seq ?_
    refine Awp.block ?_ -- 1
    refine Awp.cons C (fun _ => .pure) (by kernel_rfl) ?_ -- region 4 false
    refine rvc_prim C rfl rfl rfl rfl trivial rfl ?_ -- t10 move 
    refine rvc_index C rfl rfl rfl rfl rfl rfl ⟨by omega, by omega⟩ (cI_at i (by show (i : Int).toNat * 1 = i; omega) (by omega)) ?_ -- t11 index 
    refine rvc_prim C rfl rfl rfl rfl trivial rfl ?_ -- t4 assign 
    refine rvc_prim C rfl rfl rfl rfl trivial rfl ?_ -- t5 assign 
    refine rvc_nil ?_
    refine Awp.cons C (fun _ => .pure) (by kernel_rfl) ?_ -- region 5 false
    refine rvc_prim C rfl rfl rfl rfl trivial rfl ?_ -- t12 move 
    refine rvc_nil ?_
    refine Awp.block ?_ -- 2
    refine Awp.forN 4 (fun j => [(2, .ptr 2 0), (3, .ptr 3 0), (4, .pv (.lit (.int .i64 i))), (5, .pv (.lit (.int .u32 (k i)))), (7, .agg (cI .u32 (tb 4 k))), (8, .pv (.lit (.int .i64 i))), (12, .pv (.lit (.int .i64 j)))]) (fun j => [(2, .cells (cI .u8 (tb 16 fun _ => 0))), (3, .cells (cI .u8 (tb 16 (bTab k (4 * i + j)))))]) [2, 3] ?_ (fun j hj => ?_) ?_
    · exact Weaker.of hI ⟨rfl, rfl, rfl, rfl, rfl, rfl, rfl, trivial⟩ ⟨rfl, rfl, trivial⟩ (by simp [AV.within, cI_within]) (by simp [Blk.within, cI_within])
    · have m1 : IntKind.i64.wrap (4 * (i : Int)) = ((4 * i : Nat) : Int) := wrap_i64 (by omega) (by omega)
      have m2 : IntKind.i64.wrap (IntKind.i64.wrap (4 * (i : Int)) + (j : Int)) = ((4 * i + j : Nat) : Int) := by rw [m1]; exact wrap_i64 (by omega) (by omega)
      have m3 : IntKind.i64.wrap (8 * (j : Int)) = ((8 * j : Nat) : Int) := wrap_i64 (by omega) (by omega)
      refine Awp.cons C (fun _ => .pure) (by kernel_rfl) ?_ -- region 6 false
      refine rvc_prim C rfl rfl rfl rfl trivial rfl ?_ -- t13 binOp Go.BinOp.lss
      refine rvc_nil ?_
      refine Awp.seq ?_
      refine Awp.condT rfl (by simpa using (by omega : (j : Int) < 4)) (Awp.skip ?_)
      refine Awp.seq ?_
      refine Awp.block ?_ -- 3
      refine Awp.cons C (fun _ => .pure) (by kernel_rfl) ?_ -- region 7 false
      refine rvc_prim C rfl rfl rfl rfl trivial rfl ?_ -- t14 move 
      refine rvc_prim C rfl rfl rfl rfl trivial rfl ?_ -- t6 assign 
      refine rvc_nil ?_
      refine Awp.region C (fun _ => .pure) (by kernel_rfl) ?_ -- region 8 false
      refine rvc_prim C rfl rfl rfl rfl trivial rfl ?_ -- t15 move 
      refine rvc_prim C rfl rfl rfl rfl trivial rfl ?_ -- t16 binOp Go.BinOp.mul
      refine rvc_prim C rfl rfl rfl rfl trivial rfl ?_ -- t17 move 
      refine rvc_prim C rfl rfl rfl rfl trivial rfl ?_ -- t18 binOp Go.BinOp.add
      refine rvc_prim C rfl rfl rfl rfl trivial rfl ?_ -- t19 move 
      refine rvc_prim C rfl rfl rfl rfl trivial rfl ?_ -- t20 move 
      refine rvc_prim C rfl rfl rfl rfl trivial rfl ?_ -- t21 binOp Go.BinOp.mul
      refine rvc_prim C rfl rfl rfl rfl (by rw [m3]; omega) rfl ?_ -- t22 binOp Go.BinOp.shr
      refine rvc_prim C rfl rfl rfl rfl trivial rfl ?_ -- t23 convert 
      refine rvc_prim C rfl rfl rfl rfl ⟨by rw [m2]; omega, by rw [m2]; omega⟩ rfl ?_ -- t24 indexAddr 
      refine rvc_store C rfl rfl rfl rfl rfl (by rw [cI_len, tb_len, m2]; show 0 + ((4 * i + j : Nat) : Int).toNat * 1 < 16; omega) ?_ -- t_ store 
      refine rvc_nil ?_
      refine Awp.region C (fun _ => .pure) (by kernel_rfl) ?_ -- region 9 false
      refine rvc_prim C rfl rfl rfl rfl trivial rfl ?_ -- t25 binOp Go.BinOp.add
      refine rvc_prim C rfl rfl rfl rfl trivial rfl ?_ -- t12 move 
      refine rvc_nil ?_
      refine Weaker.of hI ⟨rfl, rfl, rfl, rfl, rfl, rfl, lit_cast (wrap_i64 (by omega) (by omega)), trivial⟩ ⟨rfl, ?_, trivial⟩ (by simp [AV.within, cI_within]) (by simp [Blk.within, cI_within])
      refine (congrArg (fun x => some (Blk.cells x)) (cI_set (4 * i + j) (by rw [m2]; show 0 + ((4 * i + j : Nat) : Int).toNat * 1 = _; omega))).trans (cells_cast fun t ht => ?_)
      simp only [bTab, m3]
      by_cases h1 : t = 4 * i + j
      · subst h1
        have e1 : (4 * i + j) / 4 = i := by omega
        have e2 : (4 * i + j) % 4 = j := by omega
        rw [if_pos rfl, if_pos (by omega)]
        simp only [bytesF, e1, e2]
      · rw [if_neg h1]
        by_cases h2 : t < 4 * i + j
        · rw [if_pos h2, if_pos (by omega)]
        · rw [if_neg h2, if_neg (by omega)]
    · refine Awp.cons C (fun _ => .pure) (by kernel_rfl) ?_ -- region 6 false
      refine rvc_prim C rfl rfl rfl rfl trivial rfl ?_ -- t13 binOp Go.BinOp.lss
      refine rvc_nil ?_
      refine Awp.seq ?_
      refine Awp.condF rfl rfl (Awp.exit ?_)
      refine Awp.region C (fun _ => .pure) (by kernel_rfl) ?_ -- region 10 false
      refine rvc_prim C rfl rfl rfl rfl trivial rfl ?_ -- t26 binOp Go.BinOp.add
      refine rvc_prim C rfl rfl rfl rfl trivial rfl ?_ -- t8 move 
      refine rvc_nil ?_
      exact Weaker.of hI ⟨rfl, rfl, rfl, lit_cast (wrap_i64 (by omega) (by omega)), trivial⟩ ⟨rfl, rfl, trivial⟩ (by simp [AV.within, cI_within]) (by simp [Blk.within, cI_within])
  · refine Awp.cons C (fun _ => .pure) (by kernel_rfl) ?_ -- region 3 false
    refine rvc_prim C rfl rfl rfl rfl trivial rfl ?_ -- t9 binOp Go.BinOp.lss
    refine rvc_nil ?_
    refine Awp.seq ?_
    refine Awp.condF rfl rfl (Awp.exit ?_)
    refine Awp.cons C (fun _ => .pure) (by kernel_rfl) ?_ -- region 11 false
    refine rvc_prim C rfl rfl rfl rfl trivial rfl ?_ -- t27 load 
    refine rvc_prim C rfl rfl rfl rfl trivial rfl ?_ -- t_ store 
    refine rvc_nil ?_
    refine Awp.ret ?_
    exact ⟨.inl rfl, rfl⟩

/-! ### Of -/
def blkF (D : List Int) (i t : Nat) : Int := D.getD (16 * i + t) 0
def stN (k : Nat → Int) (D : List Int) : Nat → Nat → Int
  | 0 => k
  | i + 1 => stirF (xorF (stN k D i) (wordsF (blkF D i)))
def lastF (D : List Int) (t : Nat) : Int :=
  let m := (D.length - 1) / 16
  let r := D.length - 16 * m
  if t = r then 1 else if t < r then blkF D m t else 0
def endF (k : Nat → Int) (D : List Int) : Nat → Int :=
  if D.length - 16 * ((D.length - 1) / 16) < 16 then doubleF (doubleF k) else doubleF k
def ofF (K D : List Int) : Nat → Int :=
  let k := wordsF fun t => K.getD t 0
  bytesF (xorF (stirF (xorF (xorF (stN k D ((D.length - 1) / 16)) (wordsF (lastF D))) (endF k D))) (endF k D))

theorem of_bad (fK fD : Option Bool) (K D : List Int) (h : K.length ≠ 16) : PCalls Try.prog 14 [sI fK .u8 K, sI fD .u8 D] (.tup [.agg (cI .u8 (tb 16 fun _ => 0)), .pv (.lit (.int .i64 1))]) := by
  refine PCalls.of_body tabOk Try.func14 rfl rfl rfl rfl rfl mixed fun E hP C hI => ?_
  refine Awp.cons C (fun _ => .pure) (by kernel_rfl) ?_ -- region 0 false
  refine rvc_prim C rfl rfl rfl rfl trivial rfl ?_ -- t4 alloc 
  refine rvc_prim C rfl rfl rfl rfl trivial rfl ?_ -- t5 assign 
  refine rvc_nil ?_
  refine Awp.seq ?_
  refine Awp.cons C (fun _ => .pure) (by kernel_rfl) ?_ -- region 1 false
  refine rvc_prim C rfl rfl rfl rfl trivial rfl ?_ -- t12 move 
  refine rvc_prim C rfl rfl rfl rfl trivial rfl ?_ -- t13 call 
  refine rvc_prim C rfl rfl rfl rfl trivial rfl ?_ -- t14 binOp Go.BinOp.neq
  refine rvc_nil ?_
  refine Awp.condT rfl (by simpa using (by omega : (K.length : Int) ≠ 16)) ?_
  refine Awp.cons C (fun _ => .pure) (by kernel_rfl) ?_ -- region 2 false
  refine rvc_prim C rfl rfl rfl rfl trivial rfl ?_ -- t15 build 
  refine rvc_prim C rfl rfl rfl rfl trivial rfl ?_ -- t_ store 
  refine rvc_prim C rfl rfl rfl rfl trivial rfl ?_ -- t5 assign 
  refine rvc_nil ?_
  refine Awp.ret ?_
  exact ⟨.inl rfl, rfl⟩
end Go.Proofs.Ytaoagcdljmpllaa
