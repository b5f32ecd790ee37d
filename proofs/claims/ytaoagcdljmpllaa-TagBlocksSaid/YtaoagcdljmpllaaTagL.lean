/- The contract of the law TagBlocks: it is true, whatever the input. No conditions. -/
import Derived.Test.YtaoagcdljmpllaaTagK
import Derived.Test.YtaoagcdljmpllaaAm20
namespace Go.Proofs.Ytaoagcdljmpllaa
open Go.Am

theorem pI_at {k : IntKind} {n : Nat} {f : Nat → Int} {j : Nat} (i : Nat) (hj : j = i) (h : i < n) : (((pI k (tb n f)).drop j).take 1)[0]? = some (.lit (.int k (f i))) := by
  subst hj
  simp [pI, tb_get h]
theorem sI_all (f : Option Bool) (k : IntKind) (D : List Int) : sI f k ((D.drop 0).take (D.length - 0)) = sI f k D := by simp

def lastB (B : Nat → Int) (m s : Nat) : Int := if s = m then 1 else if s < m then B s else 0
def x1F (k w e : Nat → Int) (t : Nat) : Int := bitI .xor .u32 (k t) (bitI .xor .u32 (w t) (e t))
def x1N (k w e : Nat → Int) (i t : Nat) : Int := if t < i then x1F k w e t else k t
def x3N (s e : Nat → Int) (i t : Nat) : Int := if t < i then xorF s e t else s t
theorem x1N_step (k w e : Nat → Int) (i t : Nat) : (if t = i then bitI .xor .u32 (x1N k w e i i) (bitI .xor .u32 (w i) (e i)) else x1N k w e i t) = x1N k w e (i + 1) t := by
  by_cases h : t = i
  · subst h; simp [x1N, x1F]
  · by_cases h2 : t < i
    · simp [x1N, h, h2, Nat.lt_succ_of_lt h2]
    · have : ¬ t < i + 1 := by omega
      simp [x1N, h, h2, this]
theorem x3N_step (s e : Nat → Int) (i t : Nat) : (if t = i then bitI .xor .u32 (x3N s e i i) (e i) else x3N s e i t) = x3N s e (i + 1) t := by
  by_cases h : t = i
  · subst h; simp [x3N, xorF]
  · by_cases h2 : t < i
    · simp [x3N, h, h2, Nat.lt_succ_of_lt h2]
    · have : ¬ t < i + 1 := by omega
      simp [x3N, h, h2, this]
theorem x1N_all (k w e : Nat → Int) (t : Nat) (ht : t < 4) : x1N k w e 4 t = x1F k w e t := by simp [x1N, ht]
theorem x3N_all (s e : Nat → Int) (t : Nat) (ht : t < 4) : x3N s e 4 t = xorF s e t := by simp [x3N, ht]

theorem tagBlocks_calls' (A B : Nat → Int) (n : Int) (m : Nat) (hm : m < 16) (hn : IntKind.i64.wrap ((IntKind.u64.wrap n).tmod 16) = (m : Int)) : PCalls Try.prog 3 [.agg (cI .u8 (tb 16 A)), .agg (cI .u8 (tb 16 B)), .pv (.int .i64 n)] (.pv (.bool true)) := by
  refine PCalls.of_body tabOk Try.func3 rfl rfl rfl (by simp [AV.withinL, AV.within, cI_within]) rfl mixed fun E hP C hI => ?_
  refine Awp.cons C (fun _ => .pure) (by kernel_rfl) ?_ -- region 0 false
  refine rvc_boxF C (pI .u8 (tb 16 A)) rfl rfl (pI_pv _ _).symm ?_
  refine rvc_boxF C (pI .u8 (tb 16 B)) rfl rfl (pI_pv _ _).symm ?_
  refine rvc_prim C rfl rfl rfl rfl (trivial) rfl ?_ -- t6 assign
  refine rvc_nil ?_
  refine Awp.cons C (fun _ => .pure) (by kernel_rfl) ?_ -- region 1 false
  refine rvc_prim C rfl rfl rfl rfl (trivial) rfl ?_ -- t21 move
  refine rvc_prim C rfl rfl rfl rfl (trivial) rfl ?_ -- t22 convert
  refine rvc_prim C rfl rfl rfl rfl (by decide) rfl ?_ -- t23 binOp
  refine rvc_prim C rfl rfl rfl rfl (trivial) rfl ?_ -- t24 convert
  refine rvc_prim C rfl rfl rfl rfl (trivial) rfl ?_ -- t2 assign
  refine rvc_nil ?_
  refine Awp.cons C (fun _ => .pure) (by kernel_rfl) ?_ -- region 2 false
  refine rvc_prim C rfl rfl rfl rfl (trivial) rfl ?_ -- t25 build
  refine rvc_prim C rfl rfl rfl rfl (trivial) rfl ?_ -- t7 alloc
  refine rvc_prim C rfl rfl rfl rfl (trivial) rfl ?_ -- s0 store
  refine rvc_nil ?_
  refine Awp.cons C (fun _ => .pure) (by kernel_rfl) ?_ -- region 3 false
  refine rvc_prim C rfl rfl rfl rfl (trivial) rfl ?_ -- t26 build
  refine rvc_prim C rfl rfl rfl rfl (trivial) rfl ?_ -- t8 alloc
  refine rvc_prim C rfl rfl rfl rfl (trivial) rfl ?_ -- s1 store
  refine rvc_nil ?_
  refine Awp.cons C (fun _ => .pure) (by kernel_rfl) ?_ -- region 4 false
  refine rvc_prim C rfl rfl rfl rfl (trivial) rfl ?_ -- t27 build
  refine rvc_prim C rfl rfl rfl rfl (trivial) rfl ?_ -- t9 alloc
  refine rvc_prim C rfl rfl rfl rfl (trivial) rfl ?_ -- s2 store
  refine rvc_nil ?_
  refine Awp.seq ?_
  refine Awp.cons C (fun _ => .pure) (by kernel_rfl) ?_ -- region 5 false
  refine rvc_prim C rfl rfl rfl rfl (trivial) rfl ?_ -- t28 move
  refine rvc_nil ?_
  refine Awp.block ?_
  refine Awp.forN (16) (fun i => [(2, .pv (.int .i64 m)), (3, .rp (pI .u8 (tb 16 A))), (4, .rp (pI .u8 (tb 16 B))), (7, .ptr 7 0), (8, .ptr 8 0), (9, .ptr 9 0), (28, .pv (.int .i64 i))]) (fun i => [(7, .cells (cI .u32 (tb 4 (aTab A i)))), (8, .cells (cI .u32 (tb 4 (aTab B i)))), (9, .cells (cI .u32 (tb 4 (aTab B (min i m)))))]) [7, 8, 9] ?_ (fun i hi => ?_) ?_
  · exact Weaker.of hI ⟨lit_cast hn, rfl, rfl, rfl, rfl, rfl, rfl, trivial⟩ ⟨cells_cast (k := .u32) (n := 4) (f := fun _ => 0) fun t ht => (aTab_zero A t).symm, cells_cast (k := .u32) (n := 4) (f := fun _ => 0) fun t ht => (aTab_zero B t).symm, cells_cast (k := .u32) (n := 4) (f := fun _ => 0) fun t ht => by rw [Nat.zero_min, aTab_zero], trivial⟩ rfl (by simp [Blk.within, cI_within])
  ·
    have m1 : IntKind.i64.wrap ((i : Int).tdiv 4) = ((i / 4 : Nat) : Int) := by
      rw [Int.tdiv_eq_ediv_of_nonneg (by omega)]; exact wrap_i64 (by omega) (by omega)
    have m2 : IntKind.i64.wrap (8 * (i : Int).tmod 4) = ((8 * (i % 4) : Nat) : Int) := by
      rw [Int.tmod_eq_emod_of_nonneg (by omega)]; exact (wrap_i64 (by omega) (by omega)).trans (by omega)
    refine Awp.cons C (fun _ => .pure) (by kernel_rfl) ?_ -- region 6 false
    refine rvc_prim C rfl rfl rfl rfl (trivial) rfl ?_ -- t29 binOp
    refine rvc_nil ?_
    refine Awp.seq ?_
    refine Awp.condT rfl (by simp; omega) ?_
    refine Awp.skip ?_
    refine Awp.seq ?_
    refine Awp.block ?_
    refine Awp.cons C (fun _ => .pure) (by kernel_rfl) ?_ -- region 7 false
    refine rvc_prim C rfl rfl rfl rfl (trivial) rfl ?_ -- t30 move
    refine rvc_prim C rfl rfl rfl rfl (trivial) rfl ?_ -- t10 assign
    refine rvc_nil ?_
    refine Awp.cons C (fun _ => .pure) (by kernel_rfl) ?_ -- region 8 true
    refine rvc_prim C rfl rfl rfl rfl (trivial) rfl ?_ -- t31 move
    refine rvc_prim C rfl rfl rfl rfl (by decide) rfl ?_ -- t32 binOp
    refine rvc_prim C rfl rfl rfl rfl (⟨by rw [m1]; omega, by rw [m1]; omega⟩) rfl ?_ -- t33 indexAddr
    refine rvc_load C rfl rfl rfl rfl rfl (cI_at (i / 4) (by rw [m1]; show 0 + ((i / 4 : Nat) : Int).toNat * 1 = _; omega) (by omega)) ?_
    refine rvc_prim C rfl rfl rfl rfl (trivial) rfl ?_ -- t35 move
    refine rvc_prim C rfl rfl rfl rfl (⟨by omega, by omega⟩) rfl ?_ -- t36 indexAddr
    refine rvc_loadp C rfl rfl rfl rfl (pI_at i (by show (i : Int).toNat * 1 = i; omega) (by omega)) ?_
    refine rvc_prim C rfl rfl rfl rfl (trivial) rfl ?_ -- t38 convert
    refine rvc_prim C rfl rfl rfl rfl (trivial) rfl ?_ -- t39 move
    refine rvc_prim C rfl rfl rfl rfl (by decide) rfl ?_ -- t40 binOp
    refine rvc_prim C rfl rfl rfl rfl (trivial) rfl ?_ -- t41 binOp
    refine rvc_prim C rfl rfl rfl rfl (by rw [m2]; omega) rfl ?_ -- t42 binOp
    refine rvc_prim C rfl rfl rfl rfl (trivial) rfl ?_ -- t43 binOp
    refine rvc_prim C rfl rfl rfl rfl (⟨by rw [m1]; omega, by rw [m1]; omega⟩) rfl ?_ -- t44 indexAddr
    refine rvc_store C rfl rfl rfl rfl rfl (by rw [cI_len, tb_len, m1]; show 0 + ((i / 4 : Nat) : Int).toNat * 1 < 4; omega) ?_
    refine rvc_nil ?_
    refine Awp.cons C (fun _ => .pure) (by kernel_rfl) ?_ -- region 9 true
    refine rvc_prim C rfl rfl rfl rfl (trivial) rfl ?_ -- t45 move
    refine rvc_prim C rfl rfl rfl rfl (by decide) rfl ?_ -- t46 binOp
    refine rvc_prim C rfl rfl rfl rfl (⟨by rw [m1]; omega, by rw [m1]; omega⟩) rfl ?_ -- t47 indexAddr
    refine rvc_load C rfl rfl rfl rfl rfl (cI_at (i / 4) (by rw [m1]; show 0 + ((i / 4 : Nat) : Int).toNat * 1 = _; omega) (by omega)) ?_
    refine rvc_prim C rfl rfl rfl rfl (trivial) rfl ?_ -- t49 move
    refine rvc_prim C rfl rfl rfl rfl (⟨by omega, by omega⟩) rfl ?_ -- t50 indexAddr
    refine rvc_loadp C rfl rfl rfl rfl (pI_at i (by show (i : Int).toNat * 1 = i; omega) (by omega)) ?_
    refine rvc_prim C rfl rfl rfl rfl (trivial) rfl ?_ -- t52 convert
    refine rvc_prim C rfl rfl rfl rfl (trivial) rfl ?_ -- t53 move
    refine rvc_prim C rfl rfl rfl rfl (by decide) rfl ?_ -- t54 binOp
    refine rvc_prim C rfl rfl rfl rfl (trivial) rfl ?_ -- t55 binOp
    refine rvc_prim C rfl rfl rfl rfl (by rw [m2]; omega) rfl ?_ -- t56 binOp
    refine rvc_prim C rfl rfl rfl rfl (trivial) rfl ?_ -- t57 binOp
    refine rvc_prim C rfl rfl rfl rfl (⟨by rw [m1]; omega, by rw [m1]; omega⟩) rfl ?_ -- t58 indexAddr
    refine rvc_store C rfl rfl rfl rfl rfl (by rw [cI_len, tb_len, m1]; show 0 + ((i / 4 : Nat) : Int).toNat * 1 < 4; omega) ?_
    refine rvc_nil ?_
    refine Awp.cons C (fun _ => .pure) (by kernel_rfl) ?_ -- region 10 false
    refine rvc_prim C rfl rfl rfl rfl (trivial) rfl ?_ -- t59 move
    refine rvc_prim C rfl rfl rfl rfl (trivial) rfl ?_ -- t60 move
    refine rvc_prim C rfl rfl rfl rfl (trivial) rfl ?_ -- t61 binOp
    refine rvc_nil ?_
    refine Awp.cond rfl (fun hc => ?_) (fun hc => ?_)
    ·
      refine Awp.region C (fun _ => .pure) (by kernel_rfl) ?_ -- region 11 true
      refine rvc_prim C rfl rfl rfl rfl (trivial) rfl ?_ -- t62 move
      refine rvc_prim C rfl rfl rfl rfl (by decide) rfl ?_ -- t63 binOp
      refine rvc_prim C rfl rfl rfl rfl (⟨by rw [m1]; omega, by rw [m1]; omega⟩) rfl ?_ -- t64 indexAddr
      refine rvc_load C rfl rfl rfl rfl rfl (cI_at (i / 4) (by rw [m1]; show 0 + ((i / 4 : Nat) : Int).toNat * 1 = _; omega) (by omega)) ?_
      refine rvc_prim C rfl rfl rfl rfl (trivial) rfl ?_ -- t66 move
      refine rvc_prim C rfl rfl rfl rfl (⟨by omega, by omega⟩) rfl ?_ -- t67 indexAddr
      refine rvc_loadp C rfl rfl rfl rfl (pI_at i (by show (i : Int).toNat * 1 = i; omega) (by omega)) ?_
      refine rvc_prim C rfl rfl rfl rfl (trivial) rfl ?_ -- t69 convert
      refine rvc_prim C rfl rfl rfl rfl (trivial) rfl ?_ -- t70 move
      refine rvc_prim C rfl rfl rfl rfl (by decide) rfl ?_ -- t71 binOp
      refine rvc_prim C rfl rfl rfl rfl (trivial) rfl ?_ -- t72 binOp
      refine rvc_prim C rfl rfl rfl rfl (by rw [m2]; omega) rfl ?_ -- t73 binOp
      refine rvc_prim C rfl rfl rfl rfl (trivial) rfl ?_ -- t74 binOp
      refine rvc_prim C rfl rfl rfl rfl (⟨by rw [m1]; omega, by rw [m1]; omega⟩) rfl ?_ -- t75 indexAddr
      refine rvc_store C rfl rfl rfl rfl rfl (by rw [cI_len, tb_len, m1]; show 0 + ((i / 4 : Nat) : Int).toNat * 1 < 4; omega) ?_
      refine rvc_nil ?_
      refine Awp.region C (fun _ => .pure) (by kernel_rfl) ?_ -- region 12 false
      refine rvc_prim C rfl rfl rfl rfl (trivial) rfl ?_ -- t76 binOp
      refine rvc_prim C rfl rfl rfl rfl (trivial) rfl ?_ -- t28 move
      refine rvc_nil ?_
      have him : (i : Nat) < m := by simpa using hc
      have hmin : min i m = i := by omega
      have hmin' : min (i + 1) m = i + 1 := by omega
      exact Weaker.of hI ⟨rfl, rfl, rfl, rfl, rfl, rfl, lit_cast (wrap_i64 (by omega) (by omega)), trivial⟩ ⟨(congrArg (fun x => some (Blk.cells x)) (cI_set (i / 4) (by rw [m1]; show 0 + ((i / 4 : Nat) : Int).toNat * 1 = _; omega))).trans (cells_cast fun t ht => by rw [m2]; exact aTab_step A i t), (congrArg (fun x => some (Blk.cells x)) (cI_set (i / 4) (by rw [m1]; show 0 + ((i / 4 : Nat) : Int).toNat * 1 = _; omega))).trans (cells_cast fun t ht => by rw [m2]; exact aTab_step B i t), (congrArg (fun x => some (Blk.cells x)) (cI_set (i / 4) (by rw [m1]; show 0 + ((i / 4 : Nat) : Int).toNat * 1 = _; omega))).trans (cells_cast fun t ht => by rw [m2, hmin, hmin']; exact aTab_step B i t), trivial⟩ rfl (by simp [Blk.within, cI_within])
    ·
      refine Awp.skip ?_
      refine Awp.region C (fun _ => .pure) (by kernel_rfl) ?_ -- region 12 false
      refine rvc_prim C rfl rfl rfl rfl (trivial) rfl ?_ -- t76 binOp
      refine rvc_prim C rfl rfl rfl rfl (trivial) rfl ?_ -- t28 move
      refine rvc_nil ?_
      have him : ¬ (i : Nat) < m := by simpa using hc
      have hmin : min i m = m := by omega
      have hmin' : min (i + 1) m = m := by omega
      exact Weaker.of hI ⟨rfl, rfl, rfl, rfl, rfl, rfl, lit_cast (wrap_i64 (by omega) (by omega)), trivial⟩ ⟨(congrArg (fun x => some (Blk.cells x)) (cI_set (i / 4) (by rw [m1]; show 0 + ((i / 4 : Nat) : Int).toNat * 1 = _; omega))).trans (cells_cast fun t ht => by rw [m2]; exact aTab_step A i t), (congrArg (fun x => some (Blk.cells x)) (cI_set (i / 4) (by rw [m1]; show 0 + ((i / 4 : Nat) : Int).toNat * 1 = _; omega))).trans (cells_cast fun t ht => by rw [m2]; exact aTab_step B i t), cells_cast fun t ht => by rw [hmin, hmin'], trivial⟩ rfl (by simp [Blk.within, cI_within])
  ·
    have n1 : IntKind.i64.wrap ((m : Int).tdiv 4) = ((m / 4 : Nat) : Int) := by
      rw [Int.tdiv_eq_ediv_of_nonneg (by omega)]; exact wrap_i64 (by omega) (by omega)
    have n2 : IntKind.i64.wrap (8 * (m : Int).tmod 4) = ((8 * (m % 4) : Nat) : Int) := by
      rw [Int.tmod_eq_emod_of_nonneg (by omega)]; exact (wrap_i64 (by omega) (by omega)).trans (by omega)
    have e16 : min 16 m = m := by omega
    refine Awp.cons C (fun _ => .pure) (by kernel_rfl) ?_ -- region 6 false
    refine rvc_prim C rfl rfl rfl rfl (trivial) rfl ?_ -- t29 binOp
    refine rvc_nil ?_
    refine Awp.seq ?_
    refine Awp.condF rfl (by simp) ?_
    refine Awp.exit ?_
    refine Awp.cons C (fun _ => .pure) (by kernel_rfl) ?_ -- region 13 true
    refine rvc_prim C rfl rfl rfl rfl (trivial) rfl ?_ -- t77 move
    refine rvc_prim C rfl rfl rfl rfl (by decide) rfl ?_ -- t78 binOp
    refine rvc_prim C rfl rfl rfl rfl (⟨by rw [n1]; omega, by rw [n1]; omega⟩) rfl ?_ -- t79 indexAddr
    refine rvc_load C rfl rfl rfl rfl rfl (cI_at (m / 4) (by rw [n1]; show 0 + ((m / 4 : Nat) : Int).toNat * 1 = _; omega) (by omega)) ?_
    refine rvc_prim C rfl rfl rfl rfl (trivial) rfl ?_ -- t81 move
    refine rvc_prim C rfl rfl rfl rfl (by decide) rfl ?_ -- t82 binOp
    refine rvc_prim C rfl rfl rfl rfl (trivial) rfl ?_ -- t83 binOp
    refine rvc_prim C rfl rfl rfl rfl (by rw [n2]; omega) rfl ?_ -- t84 binOp
    refine rvc_prim C rfl rfl rfl rfl (trivial) rfl ?_ -- t85 binOp
    refine rvc_prim C rfl rfl rfl rfl (⟨by rw [n1]; omega, by rw [n1]; omega⟩) rfl ?_ -- t86 indexAddr
    refine rvc_store C rfl rfl rfl rfl rfl (by rw [cI_len, tb_len, n1]; show 0 + ((m / 4 : Nat) : Int).toNat * 1 < 4; omega) ?_
    refine rvc_nil ?_
    refine Awp.cons C (fun _ => .pure) (by kernel_rfl) ?_ -- region 14 true
    refine rvc_primv C (sI (some false) .u8 (tb 16 A)) rfl rfl rfl rfl ⟨by decide, by decide⟩ rfl ((sI_cut 0 16 (by omega) (by rw [tb_len]; omega) rfl rfl rfl).trans (by rw [List.drop_zero, List.take_of_length_le (by rw [tb_len]; omega)])) ?_
    refine rvc_primv C (sI (some false) .u8 (tb 16 B)) rfl rfl rfl rfl ⟨by decide, by decide⟩ rfl ((sI_cut 0 16 (by omega) (by rw [tb_len]; omega) rfl rfl rfl).trans (by rw [List.drop_zero, List.take_of_length_le (by rw [tb_len]; omega)])) ?_
    refine rvc_call hP C rfl rfl rfl (of_good (some false) (some false) (tb 16 A) (tb 16 B) (tb_len _ _) (by rw [tb_len]; decide)) ?_ -- t90 call
    refine rvc_prim C rfl rfl rfl rfl (trivial) rfl ?_ -- t87 move
    refine rvc_prim C rfl rfl rfl rfl (trivial) rfl ?_ -- t91 extract
    refine rvc_prim C rfl rfl rfl rfl (trivial) rfl ?_ -- t92 extract
    refine rvc_prim C rfl rfl rfl rfl (trivial) rfl ?_ -- t11 alloc
    refine rvc_prim C rfl rfl rfl rfl (trivial) rfl ?_ -- s7 store
    refine rvc_prim C rfl rfl rfl rfl (trivial) rfl ?_ -- t12 assign
    refine rvc_nil ?_
    refine Awp.cons C (fun _ => .pure) (by kernel_rfl) ?_ -- region 15 true
    refine rvc_primv C (sI (some false) .u8 (tb 16 A)) rfl rfl rfl rfl ⟨by decide, by decide⟩ rfl ((sI_cut 0 16 (by omega) (by rw [tb_len]; omega) rfl rfl rfl).trans (by rw [List.drop_zero, List.take_of_length_le (by rw [tb_len]; omega)])) ?_
    refine rvc_prim C rfl rfl rfl rfl (trivial) rfl ?_ -- t95 move
    refine rvc_primv C (sI (some false) .u8 ((tb 16 B).take m)) rfl rfl rfl rfl ⟨by decide, by show (0 : Int) ≤ m; omega, by show (m : Int) ≤ 16; omega⟩ rfl ((sI_cut 0 m (by omega) (by rw [tb_len]; omega) (by simp) rfl rfl).trans (by rw [List.drop_zero, Nat.sub_zero])) ?_
    refine rvc_call hP C rfl rfl rfl (of_good (some false) (some false) (tb 16 A) ((tb 16 B).take m) (tb_len _ _) (by simp [tb_len]; omega)) ?_ -- t97 call
    refine rvc_prim C rfl rfl rfl rfl (trivial) rfl ?_ -- t93 move
    refine rvc_prim C rfl rfl rfl rfl (trivial) rfl ?_ -- t98 extract
    refine rvc_prim C rfl rfl rfl rfl (trivial) rfl ?_ -- t99 extract
    refine rvc_prim C rfl rfl rfl rfl (trivial) rfl ?_ -- t13 alloc
    refine rvc_prim C rfl rfl rfl rfl (trivial) rfl ?_ -- s8 store
    refine rvc_prim C rfl rfl rfl rfl (trivial) rfl ?_ -- t14 assign
    refine rvc_nil ?_
    refine Awp.cons C (fun _ => .pure) (by kernel_rfl) ?_ -- region 16 true
    refine rvc_prim C rfl rfl rfl rfl (trivial) rfl ?_ -- t100 load
    refine rvc_call hP C rfl rfl rfl (refDouble_calls _ (fun t => wAcc_R _ _ _)) ?_ -- t101 call
    refine rvc_prim C rfl rfl rfl rfl (trivial) rfl ?_ -- t102 load
    refine rvc_call hP C rfl rfl rfl (refDouble_calls _ (fun t => wAcc_R _ _ _)) ?_ -- t103 call
    refine rvc_call hP C rfl rfl rfl (refDouble_calls _ (R32s.double _)) ?_ -- t104 call
    refine rvc_prim C rfl rfl rfl rfl (trivial) rfl ?_ -- t15 alloc
    refine rvc_prim C rfl rfl rfl rfl (trivial) rfl ?_ -- t16 alloc
    refine rvc_prim C rfl rfl rfl rfl (trivial) rfl ?_ -- s9 store
    refine rvc_prim C rfl rfl rfl rfl (trivial) rfl ?_ -- s10 store
    refine rvc_nil ?_
    refine Awp.cons C (fun o => match o.op with | .load _ _ => .reads [7] | .store _ (.tmp t) _ => .writes [t] | _ => .pure) (by kernel_rfl) ?_ -- region 17 true
    refine rvc_prim C rfl rfl rfl rfl (trivial) rfl ?_ -- t105 load
    refine rvc_prim C rfl rfl rfl rfl (trivial) rfl ?_ -- t106 load
    refine rvc_prim C rfl rfl rfl rfl (trivial) rfl ?_ -- t17 alloc
    refine rvc_prim C rfl rfl rfl rfl (trivial) rfl ?_ -- t18 alloc
    refine rvc_prim C rfl rfl rfl rfl (trivial) rfl ?_ -- s11 store
    refine rvc_prim C rfl rfl rfl rfl (trivial) rfl ?_ -- s12 store
    refine rvc_nil ?_
    refine Awp.seq ?_
    refine Awp.cons C (fun _ => .pure) (by kernel_rfl) ?_ -- region 18 false
    refine rvc_prim C rfl rfl rfl rfl (trivial) rfl ?_ -- t107 move
    refine rvc_nil ?_
    refine Awp.block ?_
    have hkA : ∀ t, t < 4 → aTab A 16 t = wordsF A t := fun t ht => aTab_all A ht
    refine Awp.forN (4) (fun i => [(8, .ptr 8 0), (9, .ptr 9 0), (11, .ptr 11 0), (12, .pv (.int .i64 0)), (13, .ptr 13 0), (14, .pv (.int .i64 0)), (15, .ptr 15 0), (16, .ptr 16 0), (17, .ptr 17 0), (18, .ptr 18 0), (107, .pv (.int .i64 i))]) (fun i => [(8, .cells (cI .u32 (tb 4 (wordsF B)))), (9, .cells (cI .u32 (tb 4 (wordsF (lastB B m))))), (11, .cells (cI .u8 (tb 16 (ofF (tb 16 A) (tb 16 B))))), (13, .cells (cI .u8 (tb 16 (ofF (tb 16 A) ((tb 16 B).take m))))), (15, .cells (cI .u32 (tb 4 (doubleF (wordsF A))))), (16, .cells (cI .u32 (tb 4 (doubleF (doubleF (wordsF A)))))), (17, .cells (cI .u32 (tb 4 (x1N (wordsF A) (wordsF B) (doubleF (wordsF A)) i)))), (18, .cells (cI .u32 (tb 4 (x1N (wordsF A) (wordsF (lastB B m)) (doubleF (doubleF (wordsF A))) i))))]) [8, 9, 11, 13, 15, 16, 17, 18] ?_ (fun i hi => ?_) ?_
    · refine Weaker.of hI ⟨rfl, rfl, rfl, rfl, rfl, rfl, rfl, rfl, rfl, rfl, rfl, trivial⟩ ⟨cells_cast fun t ht => aTab_all B ht, ?_, rfl, rfl, cells_cast (k := .u32) (n := 4) (f := doubleF (aTab A 16)) fun t ht => doubleF_congr hkA ht, cells_cast (k := .u32) (n := 4) (f := doubleF (doubleF (aTab A 16))) fun t ht => doubleF_congr (fun t ht => doubleF_congr hkA ht) ht, cells_cast (k := .u32) (n := 4) (f := aTab A 16) fun t ht => hkA t ht, cells_cast (k := .u32) (n := 4) (f := aTab A 16) fun t ht => hkA t ht, trivial⟩ rfl (by simp [Blk.within, cI_within])
      refine (congrArg (fun x => some (Blk.cells x)) (cI_set (m / 4) (by rw [n1]; show 0 + ((m / 4 : Nat) : Int).toNat * 1 = _; omega))).trans (cells_cast fun t ht => ?_)
      rw [n2, e16]; exact last_words B m t
    ·
      refine Awp.cons C (fun _ => .pure) (by kernel_rfl) ?_ -- region 19 false
      refine rvc_prim C rfl rfl rfl rfl (trivial) rfl ?_ -- t108 binOp
      refine rvc_nil ?_
      refine Awp.seq ?_
      refine Awp.condT rfl (by simp; omega) ?_
      refine Awp.skip ?_
      refine Awp.seq ?_
      refine Awp.block ?_
      refine Awp.cons C (fun _ => .pure) (by kernel_rfl) ?_ -- region 20 false
      refine rvc_prim C rfl rfl rfl rfl (trivial) rfl ?_ -- t109 move
      refine rvc_prim C rfl rfl rfl rfl (trivial) rfl ?_ -- t19 assign
      refine rvc_nil ?_
      refine Awp.cons C (fun _ => .pure) (by kernel_rfl) ?_ -- region 21 true
      refine rvc_prim C rfl rfl rfl rfl (trivial) rfl ?_ -- t110 move
      refine rvc_prim C rfl rfl rfl rfl (⟨by omega, by omega⟩) rfl ?_ -- t111 indexAddr
      refine rvc_load C rfl rfl rfl rfl rfl (cI_at i (by show 0 + (i : Int).toNat * 1 = _; omega) (by omega)) ?_
      refine rvc_prim C rfl rfl rfl rfl (trivial) rfl ?_ -- t113 move
      refine rvc_prim C rfl rfl rfl rfl (⟨by omega, by omega⟩) rfl ?_ -- t114 indexAddr
      refine rvc_load C rfl rfl rfl rfl rfl (cI_at i (by show 0 + (i : Int).toNat * 1 = _; omega) (by omega)) ?_
      refine rvc_prim C rfl rfl rfl rfl (trivial) rfl ?_ -- t116 move
      refine rvc_prim C rfl rfl rfl rfl (⟨by omega, by omega⟩) rfl ?_ -- t117 indexAddr
      refine rvc_load C rfl rfl rfl rfl rfl (cI_at i (by show 0 + (i : Int).toNat * 1 = _; omega) (by omega)) ?_
      refine rvc_prim C rfl rfl rfl rfl (trivial) rfl ?_ -- t119 binOp
      refine rvc_prim C rfl rfl rfl rfl (trivial) rfl ?_ -- t120 binOp
      refine rvc_prim C rfl rfl rfl rfl (⟨by omega, by omega⟩) rfl ?_ -- t121 indexAddr
      refine rvc_store C rfl rfl rfl rfl rfl (by rw [cI_len, tb_len]; show 0 + (i : Int).toNat * 1 < 4; omega) ?_
      refine rvc_nil ?_
      refine Awp.region C (fun _ => .pure) (by kernel_rfl) ?_ -- region 22 true
      refine rvc_prim C rfl rfl rfl rfl (trivial) rfl ?_ -- t122 move
      refine rvc_prim C rfl rfl rfl rfl (⟨by omega, by omega⟩) rfl ?_ -- t123 indexAddr
      refine rvc_load C rfl rfl rfl rfl rfl (cI_at i (by show 0 + (i : Int).toNat * 1 = _; omega) (by omega)) ?_
      refine rvc_prim C rfl rfl rfl rfl (trivial) rfl ?_ -- t125 move
      refine rvc_prim C rfl rfl rfl rfl (⟨by omega, by omega⟩) rfl ?_ -- t126 indexAddr
      refine rvc_load C rfl rfl rfl rfl rfl (cI_at i (by show 0 + (i : Int).toNat * 1 = _; omega) (by omega)) ?_
      refine rvc_prim C rfl rfl rfl rfl (trivial) rfl ?_ -- t128 move
      refine rvc_prim C rfl rfl rfl rfl (⟨by omega, by omega⟩) rfl ?_ -- t129 indexAddr
      refine rvc_load C rfl rfl rfl rfl rfl (cI_at i (by show 0 + (i : Int).toNat * 1 = _; omega) (by omega)) ?_
      refine rvc_prim C rfl rfl rfl rfl (trivial) rfl ?_ -- t131 binOp
      refine rvc_prim C rfl rfl rfl rfl (trivial) rfl ?_ -- t132 binOp
      refine rvc_prim C rfl rfl rfl rfl (⟨by omega, by omega⟩) rfl ?_ -- t133 indexAddr
      refine rvc_store C rfl rfl rfl rfl rfl (by rw [cI_len, tb_len]; show 0 + (i : Int).toNat * 1 < 4; omega) ?_
      refine rvc_nil ?_
      refine Awp.region C (fun _ => .pure) (by kernel_rfl) ?_ -- region 23 false
      refine rvc_prim C rfl rfl rfl rfl (trivial) rfl ?_ -- t134 binOp
      refine rvc_prim C rfl rfl rfl rfl (trivial) rfl ?_ -- t107 move
      refine rvc_nil ?_
      exact Weaker.of hI ⟨rfl, rfl, rfl, rfl, rfl, rfl, rfl, rfl, rfl, rfl, lit_cast (wrap_i64 (by omega) (by omega)), trivial⟩ ⟨rfl, rfl, rfl, rfl, rfl, rfl, (congrArg (fun x => some (Blk.cells x)) (cI_set i (by show 0 + (i : Int).toNat * 1 = _; omega))).trans (cells_cast fun t ht => x1N_step _ _ _ i t), (congrArg (fun x => some (Blk.cells x)) (cI_set i (by show 0 + (i : Int).toNat * 1 = _; omega))).trans (cells_cast fun t ht => x1N_step _ _ _ i t), trivial⟩ rfl (by simp [Blk.within, cI_within])
    ·
      have hX : R32s (x1N (wordsF A) (wordsF B) (doubleF (wordsF A)) 4) := fun t => by unfold x1N; split; exact R32.bit _ _ _; exact wordsF_R A t
      have hY : R32s (x1N (wordsF A) (wordsF (lastB B m)) (doubleF (doubleF (wordsF A))) 4) := fun t => by unfold x1N; split; exact R32.bit _ _ _; exact wordsF_R A t
      refine Awp.cons C (fun _ => .pure) (by kernel_rfl) ?_ -- region 19 false
      refine rvc_prim C rfl rfl rfl rfl (trivial) rfl ?_ -- t108 binOp
      refine rvc_nil ?_
      refine Awp.seq ?_
      refine Awp.condF rfl (by simp) ?_
      refine Awp.exit ?_
      refine Awp.cons C (fun _ => .pure) (by kernel_rfl) ?_ -- region 24 true
      refine rvc_prim C rfl rfl rfl rfl (trivial) rfl ?_ -- t135 load
      refine rvc_call hP C rfl rfl rfl (refStir_calls _ hX) ?_ -- t136 call
      refine rvc_prim C rfl rfl rfl rfl (trivial) rfl ?_ -- t137 load
      refine rvc_call hP C rfl rfl rfl (refStir_calls _ hY) ?_ -- t138 call
      refine rvc_prim C rfl rfl rfl rfl (trivial) rfl ?_ -- s15 store
      refine rvc_prim C rfl rfl rfl rfl (trivial) rfl ?_ -- s16 store
      refine rvc_nil ?_
      refine Awp.seq ?_
      refine Awp.cons C (fun _ => .pure) (by kernel_rfl) ?_ -- region 25 false
      refine rvc_prim C rfl rfl rfl rfl (trivial) rfl ?_ -- t139 move
      refine rvc_nil ?_
      refine Awp.block ?_
      refine Awp.forN (4) (fun i => [(8, .ptr 8 0), (9, .ptr 9 0), (11, .ptr 11 0), (12, .pv (.int .i64 0)), (13, .ptr 13 0), (14, .pv (.int .i64 0)), (15, .ptr 15 0), (16, .ptr 16 0), (17, .ptr 17 0), (18, .ptr 18 0), (139, .pv (.int .i64 i))]) (fun i => [(8, .cells (cI .u32 (tb 4 (wordsF B)))), (9, .cells (cI .u32 (tb 4 (wordsF (lastB B m))))), (11, .cells (cI .u8 (tb 16 (ofF (tb 16 A) (tb 16 B))))), (13, .cells (cI .u8 (tb 16 (ofF (tb 16 A) ((tb 16 B).take m))))), (15, .cells (cI .u32 (tb 4 (doubleF (wordsF A))))), (16, .cells (cI .u32 (tb 4 (doubleF (doubleF (wordsF A)))))), (17, .cells (cI .u32 (tb 4 (x3N (stirF (x1N (wordsF A) (wordsF B) (doubleF (wordsF A)) 4)) (doubleF (wordsF A)) i)))), (18, .cells (cI .u32 (tb 4 (x3N (stirF (x1N (wordsF A) (wordsF (lastB B m)) (doubleF (doubleF (wordsF A))) 4)) (doubleF (doubleF (wordsF A))) i))))]) [8, 9, 11, 13, 15, 16, 17, 18] ?_ (fun i hi => ?_) ?_
      · exact Weaker.of hI ⟨rfl, rfl, rfl, rfl, rfl, rfl, rfl, rfl, rfl, rfl, rfl, trivial⟩ ⟨rfl, rfl, rfl, rfl, rfl, rfl, cells_cast (k := .u32) (n := 4) (f := (stirF (x1N (wordsF A) (wordsF B) (doubleF (wordsF A)) 4))) fun t ht => by simp [x3N], cells_cast (k := .u32) (n := 4) (f := (stirF (x1N (wordsF A) (wordsF (lastB B m)) (doubleF (doubleF (wordsF A))) 4))) fun t ht => by simp [x3N], trivial⟩ rfl (by simp [Blk.within, cI_within])
      ·
        refine Awp.cons C (fun _ => .pure) (by kernel_rfl) ?_ -- region 26 false
        refine rvc_prim C rfl rfl rfl rfl (trivial) rfl ?_ -- t140 binOp
        refine rvc_nil ?_
        refine Awp.seq ?_
        refine Awp.condT rfl (by simp; omega) ?_
        refine Awp.skip ?_
        refine Awp.seq ?_
        refine Awp.block ?_
        refine Awp.cons C (fun _ => .pure) (by kernel_rfl) ?_ -- region 27 false
        refine rvc_prim C rfl rfl rfl rfl (trivial) rfl ?_ -- t141 move
        refine rvc_prim C rfl rfl rfl rfl (trivial) rfl ?_ -- t20 assign
        refine rvc_nil ?_
        refine Awp.cons C (fun _ => .pure) (by kernel_rfl) ?_ -- region 28 true
        refine rvc_prim C rfl rfl rfl rfl (trivial) rfl ?_ -- t142 move
        refine rvc_prim C rfl rfl rfl rfl (⟨by omega, by omega⟩) rfl ?_ -- t143 indexAddr
        refine rvc_load C rfl rfl rfl rfl rfl (cI_at i (by show 0 + (i : Int).toNat * 1 = _; omega) (by omega)) ?_
        refine rvc_prim C rfl rfl rfl rfl (trivial) rfl ?_ -- t145 move
        refine rvc_prim C rfl rfl rfl rfl (⟨by omega, by omega⟩) rfl ?_ -- t146 indexAddr
        refine rvc_load C rfl rfl rfl rfl rfl (cI_at i (by show 0 + (i : Int).toNat * 1 = _; omega) (by omega)) ?_
        refine rvc_prim C rfl rfl rfl rfl (trivial) rfl ?_ -- t148 binOp
        refine rvc_prim C rfl rfl rfl rfl (⟨by omega, by omega⟩) rfl ?_ -- t149 indexAddr
        refine rvc_store C rfl rfl rfl rfl rfl (by rw [cI_len, tb_len]; show 0 + (i : Int).toNat * 1 < 4; omega) ?_
        refine rvc_nil ?_
        refine Awp.region C (fun _ => .pure) (by kernel_rfl) ?_ -- region 29 true
        refine rvc_prim C rfl rfl rfl rfl (trivial) rfl ?_ -- t150 move
        refine rvc_prim C rfl rfl rfl rfl (⟨by omega, by omega⟩) rfl ?_ -- t151 indexAddr
        refine rvc_load C rfl rfl rfl rfl rfl (cI_at i (by show 0 + (i : Int).toNat * 1 = _; omega) (by omega)) ?_
        refine rvc_prim C rfl rfl rfl rfl (trivial) rfl ?_ -- t153 move
        refine rvc_prim C rfl rfl rfl rfl (⟨by omega, by omega⟩) rfl ?_ -- t154 indexAddr
        refine rvc_load C rfl rfl rfl rfl rfl (cI_at i (by show 0 + (i : Int).toNat * 1 = _; omega) (by omega)) ?_
        refine rvc_prim C rfl rfl rfl rfl (trivial) rfl ?_ -- t156 binOp
        refine rvc_prim C rfl rfl rfl rfl (⟨by omega, by omega⟩) rfl ?_ -- t157 indexAddr
        refine rvc_store C rfl rfl rfl rfl rfl (by rw [cI_len, tb_len]; show 0 + (i : Int).toNat * 1 < 4; omega) ?_
        refine rvc_nil ?_
        refine Awp.region C (fun _ => .pure) (by kernel_rfl) ?_ -- region 30 false
        refine rvc_prim C rfl rfl rfl rfl (trivial) rfl ?_ -- t158 binOp
        refine rvc_prim C rfl rfl rfl rfl (trivial) rfl ?_ -- t139 move
        refine rvc_nil ?_
        exact Weaker.of hI ⟨rfl, rfl, rfl, rfl, rfl, rfl, rfl, rfl, rfl, rfl, lit_cast (wrap_i64 (by omega) (by omega)), trivial⟩ ⟨rfl, rfl, rfl, rfl, rfl, rfl, (congrArg (fun x => some (Blk.cells x)) (cI_set i (by show 0 + (i : Int).toNat * 1 = _; omega))).trans (cells_cast fun t ht => x3N_step _ _ i t), (congrArg (fun x => some (Blk.cells x)) (cI_set i (by show 0 + (i : Int).toNat * 1 = _; omega))).trans (cells_cast fun t ht => x3N_step _ _ i t), trivial⟩ rfl (by simp [Blk.within, cI_within])
      ·
        have ex : eqI 16 (ofF (tb 16 A) (tb 16 B)) (bytesF (x3N (stirF (x1N (wordsF A) (wordsF B) (doubleF (wordsF A)) 4)) (doubleF (wordsF A)) 4)) = true := eqI_iff.2 (tb_congr fun t ht => (of_whole A B ht).trans (bytesF_congr (fun t ht => ((x3N_all _ _ t ht).trans (by simp only [xorF]; rw [stirF_congr (x1N_all _ _ _)]; rfl)).symm) ht))
        have ey : eqI 16 (ofF (tb 16 A) ((tb 16 B).take m)) (bytesF (x3N (stirF (x1N (wordsF A) (wordsF (lastB B m)) (doubleF (doubleF (wordsF A))) 4)) (doubleF (doubleF (wordsF A))) 4)) = true := eqI_iff.2 (tb_congr fun t ht => (of_part A B hm ht).trans (bytesF_congr (fun t ht => ((x3N_all _ _ t ht).trans (by simp only [xorF]; rw [stirF_congr (x1N_all _ _ _)]; rfl)).symm) ht))
        refine Awp.cons C (fun _ => .pure) (by kernel_rfl) ?_ -- region 26 false
        refine rvc_prim C rfl rfl rfl rfl (trivial) rfl ?_ -- t140 binOp
        refine rvc_nil ?_
        refine Awp.seq ?_
        refine Awp.condF rfl (by simp) ?_
        refine Awp.exit ?_
        refine Awp.cons C (fun _ => .pure) (by kernel_rfl) ?_ -- region 31 true
        refine rvc_prim C rfl rfl rfl rfl (trivial) rfl ?_ -- t159 move
        refine rvc_prim C rfl rfl rfl rfl (trivial) rfl ?_ -- t160 binOp
        refine rvc_prim C rfl rfl rfl rfl (trivial) rfl ?_ -- t161 move
        refine rvc_open rfl rfl rfl (rexec_prim C rfl rfl rfl rfl (trivial) rfl ?_) -- t162 move
        refine rvc_open rfl rfl rfl (rexec_prim C rfl rfl rfl rfl (trivial) rfl ?_) -- t163 binOp
        refine rvc_prim C rfl rfl rfl rfl (trivial) rfl ?_ -- t164 pick
        refine rvc_prim C rfl rfl rfl rfl (trivial) rfl ?_ -- t165 move
        refine rvc_open rfl rfl rfl (rexec_prim C rfl rfl rfl rfl (trivial) rfl ?_) -- t166 load
        refine rvc_open rfl rfl rfl (rexec_prim C rfl rfl rfl rfl (trivial) rfl ?_) -- t167 load
        refine rvc_open rfl rfl rfl (rexec_call hP C rfl rfl rfl (bytes16_calls _) ?_) -- t168 call
        refine rvc_open rfl rfl rfl (rexec_prim C rfl rfl rfl (prim_eqI (k := .u8) (m := 16) (f := ofF (tb 16 A) (tb 16 B)) (h := bytesF (x3N (stirF (x1N (wordsF A) (wordsF B) (doubleF (wordsF A)) 4)) (doubleF (wordsF A)) 4)) rfl rfl rfl rfl rfl rfl) trivial rfl ?_)
        rw [ex]
        refine rvc_prim C rfl rfl rfl rfl (trivial) rfl ?_ -- t170 pick
        refine rvc_prim C rfl rfl rfl rfl (trivial) rfl ?_ -- t171 move
        refine rvc_open rfl rfl rfl (rexec_prim C rfl rfl rfl rfl (trivial) rfl ?_) -- t172 load
        refine rvc_open rfl rfl rfl (rexec_prim C rfl rfl rfl rfl (trivial) rfl ?_) -- t173 load
        refine rvc_open rfl rfl rfl (rexec_call hP C rfl rfl rfl (bytes16_calls _) ?_) -- t174 call
        refine rvc_open rfl rfl rfl (rexec_prim C rfl rfl rfl (prim_eqI (k := .u8) (m := 16) (f := ofF (tb 16 A) ((tb 16 B).take m)) (h := bytesF (x3N (stirF (x1N (wordsF A) (wordsF (lastB B m)) (doubleF (doubleF (wordsF A))) 4)) (doubleF (doubleF (wordsF A))) 4)) rfl rfl rfl rfl rfl rfl) trivial rfl ?_)
        rw [ey]
        refine rvc_prim C rfl rfl rfl rfl (trivial) rfl ?_ -- t176 pick
        refine rvc_prim C rfl rfl rfl rfl (trivial) rfl ?_ -- t177 move
        refine rvc_open rfl rfl rfl (rexec_call hP C rfl rfl rfl (awake_calls) ?_) -- t178 call
        refine rvc_prim C rfl rfl rfl rfl (trivial) rfl ?_ -- t179 pick
        refine rvc_prim C rfl rfl rfl rfl (trivial) rfl ?_ -- t6 assign
        refine rvc_nil ?_
        refine Awp.ret ?_
        exact ⟨.inl rfl, rfl⟩

theorem tagBlocks_calls (A : Nat → Int) (_ : ∀ t, R8 (A t)) (B : Nat → Int) (_ : ∀ t, R8 (B t)) (n : Int) (_ : (Lit.int .i64 n).wf = true) : PCalls Try.prog 3 [.agg (cI .u8 (tb 16 A)), .agg (cI .u8 (tb 16 B)), .pv (.int .i64 n)] (.pv (.bool true)) := by
  have h0 : 0 ≤ IntKind.u64.wrap n := by rw [wrap_u64]; omega
  refine tagBlocks_calls' A B n ((IntKind.u64.wrap n) % 16).toNat (by omega) ?_
  rw [Int.tmod_eq_emod_of_nonneg h0]
  exact (wrap_i64 (by omega) (by omega)).trans (by omega)
end Go.Proofs.Ytaoagcdljmpllaa
