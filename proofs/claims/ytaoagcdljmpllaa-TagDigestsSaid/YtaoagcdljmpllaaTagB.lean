/- The contracts of tag.words and of double. No conditions. -/
import Derived.Test.YtaoagcdljmpllaaTagA
namespace Go.Proofs.Ytaoagcdljmpllaa
open Go.Am
theorem lit_cast {k : IntKind} {a b : Int} (h : a = b) : some (AV.pv (.lit (.int k a))) = some (AV.pv (.lit (.int k b))) := by rw [h]
theorem cells_cast {k : IntKind} {n : Nat} {f g : Nat → Int} (h : ∀ t, t < n → f t = g t) : some (Blk.cells (cI k (tb n f))) = some (Blk.cells (cI k (tb n g))) := by rw [tb_congr h]

/-! ### words -/
def wAcc (b : Nat → Int) (i : Nat) : Nat → Int
  | 0 => 0
  | j + 1 => bitI .or .u32 (wAcc b i j) (shlI .u32 (IntKind.u32.wrap (b (4 * i + j))) (8 * j : Nat))
def wTab (b : Nat → Int) (i j : Nat) (t : Nat) : Int := if t < i then wAcc b t 4 else if t = i then wAcc b i j else 0
def wordsF (b : Nat → Int) (i : Nat) : Int := wAcc b i 4

theorem words_calls (b : Nat → Int) : PCalls Try.prog 37 [.agg (cI .u8 (tb 16 b))] (.agg (cI .u32 (tb 4 (wordsF b)))) := by
  refine PCalls.of_body tabOk Try.func37 rfl rfl rfl (by simp [AV.withinL, AV.within, cI_within]) (by simp [AV.within, cI_within]) mixed fun E hP C hI => ?_
  refine Awp.cons C (fun _ => .pure) (by kernel_rfl) ?_ -- region 0 false
  refine rvc_prim C rfl rfl rfl rfl trivial rfl ?_ -- t1 box 
  refine rvc_prim C rfl rfl rfl rfl trivial rfl ?_ -- t2 alloc 
  refine rvc_nil ?_
  refine Awp.cons C (fun _ => .pure) (by kernel_rfl) ?_ -- region 1 false
  refine rvc_prim C rfl rfl rfl rfl trivial rfl ?_ -- t3 alloc 
  refine rvc_nil ?_
  refine Awp.seq ?_
  refine Awp.cons C (fun _ => .pure) (by kernel_rfl) ?_ -- region 2 false
  refine rvc_prim C rfl rfl rfl rfl trivial rfl ?_ -- t6 move 
  refine rvc_nil ?_
  refine Awp.block ?_ -- 0
  refine Awp.forN 4 (fun i => [(1, .ptr 1 0), (2, .ptr 2 0), (3, .ptr 3 0), (6, .pv (.lit (.int .i64 i)))]) (fun i => [(1, .cells (cI .u8 (tb 16 b))), (2, .cells (cI .u32 (tb 4 fun _ => 0))), (3, .cells (cI .u32 (tb 4 (wTab b i 0))))]) [1, 2, 3] ?_ (fun i hi => ?_) ?_
  · exact Weaker.of hI ⟨rfl, rfl, rfl, rfl, trivial⟩ ⟨rfl, rfl, rfl, trivial⟩ rfl (by simp [Blk.within, cI_within])
  · refine Awp.cons C (fun _ => .pure) (by kernel_rfl) ?_ -- region 3 false
    refine rvc_prim C rfl rfl rfl rfl trivial rfl ?_ -- t7 binOp Go.BinOp.lss
    refine rvc_nil ?_
    refine Awp.seq ?_
    refine Awp.condT rfl (by simpa using (by omega : (i : Int) < 4)) (Awp.skip ?_)
    refine Awp.seq ?_
    refine Awp.block ?_ -- 1
    refine Awp.cons C (fun _ => .pure) (by kernel_rfl) ?_ -- region 4 false
    refine rvc_prim C rfl rfl rfl rfl trivial rfl ?_ -- t8 move 
    refine rvc_prim C rfl rfl rfl rfl trivial rfl ?_ -- t4 assign 
    refine rvc_nil ?_
    refine Awp.cons C (fun _ => .pure) (by kernel_rfl) ?_ -- region 5 false
    refine rvc_prim C rfl rfl rfl rfl trivial rfl ?_ -- t9 move 
    refine rvc_nil ?_
    refine Awp.block ?_ -- 2
    refine Awp.forN 4 (fun j => [(1, .ptr 1 0), (2, .ptr 2 0), (3, .ptr 3 0), (4, .pv (.lit (.int .i64 i))), (6, .pv (.lit (.int .i64 i))), (9, .pv (.lit (.int .i64 j)))]) (fun j => [(1, .cells (cI .u8 (tb 16 b))), (2, .cells (cI .u32 (tb 4 fun _ => 0))), (3, .cells (cI .u32 (tb 4 (wTab b i j))))]) [1, 2, 3] ?_ (fun j hj => ?_) ?_
    · exact Weaker.of hI ⟨rfl, rfl, rfl, rfl, rfl, rfl, trivial⟩ ⟨rfl, rfl, rfl, trivial⟩ rfl (by simp [Blk.within, cI_within])
    · have m1 : IntKind.i64.wrap (4 * (i : Int)) = ((4 * i : Nat) : Int) := wrap_i64 (by omega) (by omega)
      have m2 : IntKind.i64.wrap (IntKind.i64.wrap (4 * (i : Int)) + (j : Int)) = ((4 * i + j : Nat) : Int) := by rw [m1]; exact wrap_i64 (by omega) (by omega)
      have m3 : IntKind.i64.wrap (8 * (j : Int)) = ((8 * j : Nat) : Int) := wrap_i64 (by omega) (by omega)
      refine Awp.cons C (fun _ => .pure) (by kernel_rfl) ?_ -- region 6 false
      refine rvc_prim C rfl rfl rfl rfl trivial rfl ?_ -- t10 binOp Go.BinOp.lss
      refine rvc_nil ?_
      refine Awp.seq ?_
      refine Awp.condT rfl (by simpa using (by omega : (j : Int) < 4)) (Awp.skip ?_)
      refine Awp.seq ?_
      refine Awp.block ?_ -- 3
      refine Awp.cons C (fun _ => .pure) (by kernel_rfl) ?_ -- region 7 false
      refine rvc_prim C rfl rfl rfl rfl trivial rfl ?_ -- t11 move 
      refine rvc_prim C rfl rfl rfl rfl trivial rfl ?_ -- t5 assign 
      refine rvc_nil ?_
      refine Awp.region C (fun _ => .pure) (by kernel_rfl) ?_ -- region 8 true
      refine rvc_prim C rfl rfl rfl rfl trivial rfl ?_ -- t12 move 
      refine rvc_prim C rfl rfl rfl rfl ⟨by omega, by omega⟩ rfl ?_ -- t13 indexAddr 
      refine rvc_load C rfl rfl rfl rfl rfl (cI_at i (by simp) (by omega)) ?_ -- t14 load 
      refine rvc_prim C rfl rfl rfl rfl trivial rfl ?_ -- t15 move 
      refine rvc_prim C rfl rfl rfl rfl trivial rfl ?_ -- t16 binOp Go.BinOp.mul
      refine rvc_prim C rfl rfl rfl rfl trivial rfl ?_ -- t17 move 
      refine rvc_prim C rfl rfl rfl rfl trivial rfl ?_ -- t18 binOp Go.BinOp.add
      refine rvc_prim C rfl rfl rfl rfl ⟨by rw [m2]; omega, by rw [m2]; omega⟩ rfl ?_ -- t19 indexAddr 
      refine rvc_load C rfl rfl rfl rfl rfl (cI_at (4 * i + j) (by rw [m2]; show 0 + ((4 * i + j : Nat) : Int).toNat * 1 = _; omega) (by omega)) ?_ -- t20 load 
      refine rvc_prim C rfl rfl rfl rfl trivial rfl ?_ -- t21 convert 
      refine rvc_prim C rfl rfl rfl rfl trivial rfl ?_ -- t22 move 
      refine rvc_prim C rfl rfl rfl rfl trivial rfl ?_ -- t23 binOp Go.BinOp.mul
      refine rvc_prim C rfl rfl rfl rfl (by rw [m3]; omega) rfl ?_ -- t24 binOp Go.BinOp.shl
      refine rvc_prim C rfl rfl rfl rfl trivial rfl ?_ -- t25 binOp Go.BinOp.or
      refine rvc_prim C rfl rfl rfl rfl ⟨by omega, by omega⟩ rfl ?_ -- t26 indexAddr 
      refine rvc_store C rfl rfl rfl rfl rfl (by rw [cI_len, tb_len]; show 0 + (i : Int).toNat * 1 < 4; omega) ?_ -- t_ store 
      refine rvc_nil ?_
      refine Awp.region C (fun _ => .pure) (by kernel_rfl) ?_ -- region 9 false
      refine rvc_prim C rfl rfl rfl rfl trivial rfl ?_ -- t27 binOp Go.BinOp.add
      refine rvc_prim C rfl rfl rfl rfl trivial rfl ?_ -- t9 move 
      refine rvc_nil ?_
      refine Weaker.of hI ⟨rfl, rfl, rfl, rfl, rfl, lit_cast (wrap_i64 (by omega) (by omega)), trivial⟩ ⟨rfl, rfl, ?_, trivial⟩ rfl (by simp [Blk.within, cI_within])
      refine (congrArg (fun x => some (Blk.cells x)) (cI_set i (by simp))).trans (cells_cast fun t ht => ?_)
      simp only [wTab]
      by_cases h1 : t = i
      · subst h1; simp [wAcc, m3]
      · simp [h1]
    · refine Awp.cons C (fun _ => .pure) (by kernel_rfl) ?_ -- region 6 false
      refine rvc_prim C rfl rfl rfl rfl trivial rfl ?_ -- t10 binOp Go.BinOp.lss
      refine rvc_nil ?_
      refine Awp.seq ?_
      refine Awp.condF rfl rfl (Awp.exit ?_)
      refine Awp.region C (fun _ => .pure) (by kernel_rfl) ?_ -- region 10 false
      refine rvc_prim C rfl rfl rfl rfl trivial rfl ?_ -- t28 binOp Go.BinOp.add
      refine rvc_prim C rfl rfl rfl rfl trivial rfl ?_ -- t6 move 
      refine rvc_nil ?_
      refine Weaker.of hI ⟨rfl, rfl, rfl, lit_cast (wrap_i64 (by omega) (by omega)), trivial⟩ ⟨rfl, rfl, ?_, trivial⟩ rfl (by simp [Blk.within, cI_within])
      refine cells_cast fun t ht => ?_
      simp only [wTab, wAcc]
      by_cases h1 : t = i
      · subst h1; simp
      · by_cases h2 : t < i
        · simp [h2, Nat.lt_succ_of_lt h2]
        · have : ¬ t < i + 1 := by omega
          simp [h1, h2, this]
  · refine Awp.cons C (fun _ => .pure) (by kernel_rfl) ?_ -- region 3 false
    refine rvc_prim C rfl rfl rfl rfl trivial rfl ?_ -- t7 binOp Go.BinOp.lss
    refine rvc_nil ?_
    refine Awp.seq ?_
    refine Awp.condF rfl rfl (Awp.exit ?_)
    refine Awp.cons C (fun _ => .pure) (by kernel_rfl) ?_ -- region 11 false
    refine rvc_prim C rfl rfl rfl rfl trivial rfl ?_ -- t29 load 
    refine rvc_prim C rfl rfl rfl rfl trivial rfl ?_ -- t_ store 
    refine rvc_nil ?_
    refine Awp.ret ?_
    exact ⟨.inl rfl, rfl⟩

/-! ### double -/
def doubleF (k : Nat → Int) : Nat → Int
  | 0 => bitI .xor .u32 (shlI .u32 (k 0) 1) (bitI .and .u32 135 (IntKind.u32.wrap (0 - shrI .u32 (k 3) 31)))
  | n + 1 => bitI .or .u32 (shlI .u32 (k (n + 1)) 1) (shrI .u32 (k n) 31)
theorem double_calls (k : Nat → Int) : PCalls Try.prog 38 [.agg (cI .u32 (tb 4 k))] (.agg (cI .u32 (tb 4 (doubleF k)))) := by
  refine PCalls.of_body tabOk Try.func38 rfl rfl rfl (by simp [AV.withinL, AV.within, cI_within]) (by simp [AV.within, cI_within]) mixed fun E hP C hI => ?_
  refine Awp.cons C (fun _ => .pure) (by kernel_rfl) ?_ -- region 0 false
  refine rvc_prim C rfl rfl rfl rfl trivial rfl ?_ -- t1 box 
  refine rvc_prim C rfl rfl rfl rfl trivial rfl ?_ -- t2 alloc 
  refine rvc_nil ?_
  refine Awp.cons C (fun _ => .pure) (by kernel_rfl) ?_ -- region 1 false
  refine rvc_prim C rfl rfl rfl rfl ⟨by decide, by decide⟩ rfl ?_ -- t4 indexAddr 
  refine rvc_prim C rfl rfl rfl rfl trivial rfl ?_ -- t5 load 
  refine rvc_prim C rfl rfl rfl rfl (by decide) rfl ?_ -- t6 binOp Go.BinOp.shr
  refine rvc_prim C rfl rfl rfl rfl trivial rfl ?_ -- t3 assign 
  refine rvc_nil ?_
  refine Awp.cons C (fun _ => .pure) (by kernel_rfl) ?_ -- region 2 false
  refine rvc_prim C rfl rfl rfl rfl ⟨by decide, by decide⟩ rfl ?_ -- t7 indexAddr 
  refine rvc_prim C rfl rfl rfl rfl trivial rfl ?_ -- t8 load 
  refine rvc_prim C rfl rfl rfl rfl (by decide) rfl ?_ -- t9 binOp Go.BinOp.shl
  refine rvc_prim C rfl rfl rfl rfl trivial rfl ?_ -- t10 move 
  refine rvc_prim C rfl rfl rfl rfl trivial rfl ?_ -- t11 unOp 
  refine rvc_prim C rfl rfl rfl rfl trivial rfl ?_ -- t12 binOp Go.BinOp.and
  refine rvc_prim C rfl rfl rfl rfl trivial rfl ?_ -- t13 binOp Go.BinOp.xor
  refine rvc_prim C rfl rfl rfl rfl ⟨by decide, by decide⟩ rfl ?_ -- t14 indexAddr 
  refine rvc_prim C rfl rfl rfl rfl trivial rfl ?_ -- t15 load 
  refine rvc_prim C rfl rfl rfl rfl (by decide) rfl ?_ -- t16 binOp Go.BinOp.shl
  refine rvc_prim C rfl rfl rfl rfl ⟨by decide, by decide⟩ rfl ?_ -- t17 indexAddr 
  refine rvc_prim C rfl rfl rfl rfl trivial rfl ?_ -- t18 load 
  refine rvc_prim C rfl rfl rfl rfl (by decide) rfl ?_ -- t19 binOp Go.BinOp.shr
  refine rvc_prim C rfl rfl rfl rfl trivial rfl ?_ -- t20 binOp Go.BinOp.or
  refine rvc_prim C rfl rfl rfl rfl ⟨by decide, by decide⟩ rfl ?_ -- t21 indexAddr 
  refine rvc_prim C rfl rfl rfl rfl trivial rfl ?_ -- t22 load 
  refine rvc_prim C rfl rfl rfl rfl (by decide) rfl ?_ -- t23 binOp Go.BinOp.shl
  refine rvc_prim C rfl rfl rfl rfl ⟨by decide, by decide⟩ rfl ?_ -- t24 indexAddr 
  refine rvc_prim C rfl rfl rfl rfl trivial rfl ?_ -- t25 load 
  refine rvc_prim C rfl rfl rfl rfl (by decide) rfl ?_ -- t26 binOp Go.BinOp.shr
  refine rvc_prim C rfl rfl rfl rfl trivial rfl ?_ -- t27 binOp Go.BinOp.or
  refine rvc_prim C rfl rfl rfl rfl ⟨by decide, by decide⟩ rfl ?_ -- t28 indexAddr 
  refine rvc_prim C rfl rfl rfl rfl trivial rfl ?_ -- t29 load 
  refine rvc_prim C rfl rfl rfl rfl (by decide) rfl ?_ -- t30 binOp Go.BinOp.shl
  refine rvc_prim C rfl rfl rfl rfl ⟨by decide, by decide⟩ rfl ?_ -- t31 indexAddr 
  refine rvc_prim C rfl rfl rfl rfl trivial rfl ?_ -- t32 load 
  refine rvc_prim C rfl rfl rfl rfl (by decide) rfl ?_ -- t33 binOp Go.BinOp.shr
  refine rvc_prim C rfl rfl rfl rfl trivial rfl ?_ -- t34 binOp Go.BinOp.or
  refine rvc_prim C rfl rfl rfl rfl trivial rfl ?_ -- t35 build 
  refine rvc_prim C rfl rfl rfl rfl trivial rfl ?_ -- t_ store 
  refine rvc_nil ?_
  refine Awp.ret ?_
  exact ⟨.inl rfl, rfl⟩
end Go.Proofs.Ytaoagcdljmpllaa
