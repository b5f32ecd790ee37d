/- The contract of Of of the reference. No conditions. -/
import Derived.Test.YtaoagcdljmpllaaTagM
import Derived.Test.YtaoagcdljmpllaaAm22
namespace Go.Proofs.Ytaoagcdljmpllaa
open Go.Am

theorem cI_app (k : IntKind) (A B : List Int) : cI k A ++ cI k B = cI k (A ++ B) := by simp [cI]
theorem renL_cI (τ : Nat → Nat) (k : IntKind) (A : List Int) : AV.renL τ (cI k A) = cI k A := AV.renL_none _ (cI_within k A _)
theorem app_first (R : List Int) : ((([] : List AV).drop 0).take (0 * 1) ++ (pI .u8 R).map AV.pv) = cI .u8 R := by rw [pI_pv]; simp
theorem app_next {cs : List AV} {A B : List Int} (h : cs = cI .u8 A) {n : Nat} (hn : n = A.length) : ((cs.drop 0).take (n * 1) ++ (pI .u8 B).map AV.pv) = cI .u8 (A ++ B) := by
  subst h hn
  rw [pI_pv, List.drop_zero, Nat.mul_one, List.take_of_length_le (by rw [cI_len]; exact Nat.le_refl _), cI_app]
theorem sl_cast {b o n m s : Nat} {t : Bool} (h : n = m) : some (AV.sl b o n s t) = some (AV.sl b o m s t) := by rw [h]
theorem blk_cast {xs : List AV} {τ : Nat → Nat} {A : List Int} (h : xs = cI .u8 A) : some (Blk.cells xs) = some ((Blk.cells (cI .u8 A)).ren τ) := by
  rw [h]; simp only [Blk.ren, renL_cI]

theorem refOf_bad (fK fD : Option Bool) (K D : List Int) (h : K.length ≠ 16) : PCalls Try.prog 23 [sI fK .u8 K, sI fD .u8 D] (.tup [.agg (cI .u8 (tb 16 fun _ => 0)), .pv (.lit (.int .i64 1))]) := by
  refine PCalls.of_body tabOk Try.func23 rfl rfl rfl rfl rfl mixed fun E hP C hI => ?_
  refine Awp.cons C (fun _ => .pure) (by kernel_rfl) ?_ -- region 0 false
  refine rvc_prim C rfl rfl rfl rfl (trivial) rfl ?_ -- t4 alloc
  refine rvc_prim C rfl rfl rfl rfl (trivial) rfl ?_ -- t5 assign
  refine rvc_nil ?_
  refine Awp.cons C (fun _ => .pure) (by kernel_rfl) ?_ -- region 1 false
  refine rvc_prim C rfl rfl rfl rfl (trivial) rfl ?_ -- t6 alloc
  refine rvc_nil ?_
  refine Awp.seq ?_
  refine Awp.cons C (fun _ => .pure) (by kernel_rfl) ?_ -- region 2 false
  refine rvc_prim C rfl rfl rfl rfl (trivial) rfl ?_ -- t14 move
  refine rvc_prim C rfl rfl rfl rfl (trivial) rfl ?_ -- t15 call
  refine rvc_prim C rfl rfl rfl rfl (trivial) rfl ?_ -- t16 binOp
  refine rvc_nil ?_
  refine Awp.condT rfl (by simp; omega) ?_
  refine Awp.cons C (fun _ => .pure) (by kernel_rfl) ?_ -- region 3 false
  refine rvc_prim C rfl rfl rfl rfl (trivial) rfl ?_ -- t17 load
  refine rvc_prim C rfl rfl rfl rfl (trivial) rfl ?_ -- s0 store
  refine rvc_prim C rfl rfl rfl rfl (trivial) rfl ?_ -- t5 assign
  refine rvc_nil ?_
  refine Awp.ret ?_
  exact ⟨.inl rfl, rfl⟩

/-- The last bytes, filled up. -/
def refLast (R : List Int) : List Int := if R.length < 16 then R ++ [1] else R
theorem four_blk {f : Option Bool} {D : List Int} {i : Nat} (h : R8l D) (hl : 16 * i + 16 ≤ D.length) : PCalls Try.prog 43 [sI f .u8 ((D.drop (16 * i)).take 16)] (.agg (cI .u32 (tb 4 (wordsF (blkF D i))))) := by
  have hR : R8l ((D.drop (16 * i)).take 16) := fun s => by
    by_cases hs : s < 16
    · have := h (16 * i + s)
      simpa [List.getD_eq_getElem?_getD, List.getElem?_take, hs] using this
    · rw [List.getD_eq_getElem?_getD, List.getElem?_take, if_neg hs]; exact ⟨by decide, by decide⟩
  have := four_calls f _ hR (by simp; omega)
  rwa [tb_congr (n := 4) (g := wordsF (blkF D i)) fun t ht => wordsF_congr (fun s hs => by simp [blkF, List.getD_eq_getElem?_getD, hs]) ht] at this


/-! ### The last bytes -/
theorem refLast_len {R : List Int} (h : R.length ≤ 16) : (refLast R).length ≤ 16 := by
  unfold refLast; split
  · simp; omega
  · exact h
theorem last_get (D : List Int) (s : Nat) (hs : s < 16) : (refLast (D.drop (16 * ((D.length - 1) / 16))) ++ List.replicate (16 - (refLast (D.drop (16 * ((D.length - 1) / 16)))).length) 0).getD s 0 = lastF D s := by
  have hlen : (D.drop (16 * ((D.length - 1) / 16))).length = D.length - 16 * ((D.length - 1) / 16) := by simp
  have hr : D.length - 16 * ((D.length - 1) / 16) ≤ 16 := by omega
  have hg : ∀ i, (D.drop (16 * ((D.length - 1) / 16))).getD i 0 = blkF D ((D.length - 1) / 16) i := fun i => by simp [blkF, List.getD_eq_getElem?_getD]
  have hd : ∀ i, (D.drop (16 * ((D.length - 1) / 16)))[i]? = if i < D.length - 16 * ((D.length - 1) / 16) then some (blkF D ((D.length - 1) / 16) i) else none := fun i => by
    by_cases hi : i < D.length - 16 * ((D.length - 1) / 16)
    · rw [if_pos hi, ← hg, List.getD_eq_getElem?_getD, List.getElem?_eq_getElem (by omega)]; rfl
    · rw [if_neg hi, List.getElem?_eq_none (by omega)]
  simp only [lastF, List.getD_eq_getElem?_getD]
  generalize (D.drop (16 * ((D.length - 1) / 16))) = R at *
  generalize (D.length - 1) / 16 = m at *
  unfold refLast
  by_cases h1 : R.length < 16
  · rw [if_pos h1]
    rcases Nat.lt_trichotomy s R.length with h | h | h
    · rw [List.getElem?_append_left (by simp; omega), List.getElem?_append_left h, hd, if_pos (by omega), if_neg (by omega), if_pos (by omega)]; rfl
    · subst h
      rw [List.getElem?_append_left (by simp), List.getElem?_append_right (Nat.le_refl _), if_pos (by omega)]; simp
    · rw [List.getElem?_append_right (by simp; omega), if_neg (by omega), if_neg (by omega), List.getElem?_replicate]
      split <;> rfl
  · rw [if_neg h1, List.getElem?_append_left (by omega), hd, if_pos (by omega), if_neg (by omega), if_pos (by omega)]; rfl
theorem lastF_R {D : List Int} (h : R8l D) (s : Nat) : R8 (lastF D s) := by
  simp only [lastF]
  split
  · exact ⟨by decide, by decide⟩
  · split
    · exact h _
    · exact ⟨by decide, by decide⟩
theorem lz_R {D : List Int} (h : R8l D) : R8l (refLast (D.drop (16 * ((D.length - 1) / 16))) ++ List.replicate (16 - (refLast (D.drop (16 * ((D.length - 1) / 16)))).length) 0) := fun s => by
  by_cases hs : s < 16
  · rw [last_get D s hs]; exact lastF_R h s
  · have hl : (refLast (D.drop (16 * ((D.length - 1) / 16)))).length ≤ 16 := refLast_len (by simp; omega)
    have : (refLast (D.drop (16 * ((D.length - 1) / 16))) ++ List.replicate (16 - (refLast (D.drop (16 * ((D.length - 1) / 16)))).length) 0).length ≤ s := by rw [List.length_append, List.length_replicate]; omega
    rw [List.getD_eq_getElem?_getD, List.getElem?_eq_none this]; exact ⟨by decide, by decide⟩

/-! ### A word's bytes, one behind the other -/
def divN (x : Int) : Nat → Int
  | 0 => x
  | j + 1 => IntKind.u32.wrap ((divN x j).tdiv 256)
theorem divN_R {x : Int} (h : R32 x) : ∀ j, R32 (divN x j)
  | 0 => h
  | _ + 1 => R32.wrap _
theorem divN_eq {x : Int} (h : R32 x) : ∀ j, divN x j = x / 256 ^ j
  | 0 => by simp [divN]
  | j + 1 => by
    have hr := divN_R h j
    have e : (divN x j).tdiv 256 = divN x j / 256 := Int.tdiv_eq_ediv_of_nonneg hr.1
    simp only [divN]
    rw [e, wrap_R32 ⟨by have := hr.1; omega, by have := hr.1; have := hr.2; omega⟩, divN_eq h j, Int.ediv_ediv_of_nonneg (by exact Int.le_of_lt (Int.pow_pos (by decide))), Int.pow_succ]
theorem byte_eq {x : Int} (h : R32 x) (j : Nat) (hj : j < 4) : IntKind.u8.wrap ((divN x j).tmod 256) = IntKind.u8.wrap (shrI .u32 x ((8 * j : Nat) : Int)) := by
  rw [Int.tmod_eq_emod_of_nonneg (divN_R h j).1, divN_eq h j, wrap_u8, wrap_u8]
  have : shrI .u32 x ((8 * j : Nat) : Int) = x / 256 ^ j := by
    show x / 2 ^ (min ((8 * j : Nat) : Int).toNat 32) = _
    rw [Int.toNat_natCast, Nat.min_eq_left (by omega), Int.pow_mul]; rfl
  rw [this]; omega

theorem refOf_good (fK fD : Option Bool) (K D : List Int) (h : K.length = 16) (hK : R8l K) (hRD : R8l D) (hD : D.length ≤ 1000000000) : PCalls Try.prog 23 [sI fK .u8 K, sI fD .u8 D] (.tup [.agg (cI .u8 (tb 16 (ofF K D))), .pv (.lit (.int .i64 0))]) := by
  refine PCalls.of_body tabOk Try.func23 rfl rfl rfl rfl (by simp [AV.within, AV.withinL, cI_within]) mixed fun E hP C hI => ?_
  have hq : IntKind.i64.wrap ((D.length : Int).tdiv 16) = ((D.length / 16 : Nat) : Int) := by
    rw [Int.tdiv_eq_ediv_of_nonneg (by omega)]; exact wrap_i64 (by omega) (by omega)
  refine Awp.cons C (fun _ => .pure) (by kernel_rfl) ?_ -- region 0 false
  refine rvc_prim C rfl rfl rfl rfl (trivial) rfl ?_ -- t4 alloc
  refine rvc_prim C rfl rfl rfl rfl (trivial) rfl ?_ -- t5 assign
  refine rvc_nil ?_
  refine Awp.cons C (fun _ => .pure) (by kernel_rfl) ?_ -- region 1 false
  refine rvc_prim C rfl rfl rfl rfl (trivial) rfl ?_ -- t6 alloc
  refine rvc_nil ?_
  refine Awp.seq ?_
  refine Awp.cons C (fun _ => .pure) (by kernel_rfl) ?_ -- region 2 false
  refine rvc_prim C rfl rfl rfl rfl (trivial) rfl ?_ -- t14 move
  refine rvc_prim C rfl rfl rfl rfl (trivial) rfl ?_ -- t15 call
  refine rvc_prim C rfl rfl rfl rfl (trivial) rfl ?_ -- t16 binOp
  refine rvc_nil ?_
  refine Awp.condF rfl (by simp; omega) ?_
  refine Awp.skip ?_
  refine Awp.cons C (fun _ => .pure) (by kernel_rfl) ?_ -- region 4 false
  refine rvc_prim C rfl rfl rfl rfl (trivial) rfl ?_ -- t18 move
  refine rvc_call hP C rfl rfl rfl (four_calls fK K hK (by omega)) ?_ -- t19 call
  refine rvc_prim C rfl rfl rfl rfl (trivial) rfl ?_ -- t7 alloc
  refine rvc_prim C rfl rfl rfl rfl (trivial) rfl ?_ -- s0 store
  refine rvc_nil ?_
  refine Awp.cons C (fun _ => .pure) (by kernel_rfl) ?_ -- region 5 false
  refine rvc_prim C rfl rfl rfl rfl (trivial) rfl ?_ -- t20 load
  refine rvc_prim C rfl rfl rfl rfl (trivial) rfl ?_ -- t8 alloc
  refine rvc_prim C rfl rfl rfl rfl (trivial) rfl ?_ -- s1 store
  refine rvc_nil ?_
  refine Awp.seq_mid [(1, sI fD .u8 (D.drop (16 * ((D.length - 1) / 16)))), (4, .ptr 4 0), (6, .ptr 6 0), (7, .ptr 7 0), (8, .ptr 8 0)] [(4, .cells (cI .u8 (tb 16 fun _ => 0))), (6, .cells (cI .u8 (tb 16 fun _ => 0))), (7, .cells (cI .u32 (tb 4 (wordsF fun s => K.getD s 0)))), (8, .cells (cI .u32 (tb 4 (stN (wordsF fun s => K.getD s 0) D ((D.length - 1) / 16)))))] [4, 6, 7, 8] ?_ ?_
  ·
    refine Awp.cons C (fun _ => .pure) (by kernel_rfl) ?_ -- region 6 false
    refine rvc_prim C rfl rfl rfl rfl (trivial) rfl ?_ -- t21 move
    refine rvc_prim C rfl rfl rfl rfl (trivial) rfl ?_ -- t22 call
    refine rvc_prim C rfl rfl rfl rfl (by decide) rfl ?_ -- t23 binOp
    refine rvc_prim C rfl rfl rfl rfl (trivial) rfl ?_ -- t24 move
    refine rvc_nil ?_
    refine Awp.block ?_
    refine Awp.forN ((D.length - 1) / 16) (fun i => [(1, sI fD .u8 (D.drop (16 * i))), (4, .ptr 4 0), (6, .ptr 6 0), (7, .ptr 7 0), (8, .ptr 8 0), (23, .pv (.int .i64 ((D.length / 16 : Nat) : Int))), (24, .pv (.int .i64 i))]) (fun i => [(4, .cells (cI .u8 (tb 16 fun _ => 0))), (6, .cells (cI .u8 (tb 16 fun _ => 0))), (7, .cells (cI .u32 (tb 4 (wordsF fun s => K.getD s 0)))), (8, .cells (cI .u32 (tb 4 (stN (wordsF fun s => K.getD s 0) D i))))]) [4, 6, 7, 8] ?_ (fun i hi => ?_) ?_
    · exact Weaker.of hI ⟨rfl, rfl, rfl, rfl, rfl, lit_cast hq, rfl, trivial⟩ ⟨rfl, rfl, rfl, rfl, trivial⟩ rfl (by simp [Blk.within, cI_within])
    ·
      have hlen : (D.drop (16 * i)).length = D.length - 16 * i := by simp
      refine Awp.cons C (fun _ => .pure) (by kernel_rfl) ?_ -- region 7 false
      refine rvc_prim C rfl rfl rfl rfl (trivial) rfl ?_ -- t25 binOp
      refine rvc_nil ?_
      refine Awp.seq ?_
      refine Awp.condT rfl (by simp; omega) ?_
      refine Awp.skip ?_
      refine Awp.seq ?_
      refine Awp.block ?_
      refine Awp.seq ?_
      refine Awp.cons C (fun _ => .pure) (by kernel_rfl) ?_ -- region 8 false
      refine rvc_prim C rfl rfl rfl rfl (trivial) rfl ?_ -- t26 move
      refine rvc_prim C rfl rfl rfl rfl (trivial) rfl ?_ -- t27 call
      refine rvc_prim C rfl rfl rfl rfl (trivial) rfl ?_ -- t28 binOp
      refine rvc_nil ?_
      refine Awp.condF rfl (by rw [hlen]; simp; omega) ?_
      refine Awp.skip ?_
      refine Awp.cons C (fun _ => .pure) (by kernel_rfl) ?_ -- region 9 true
      refine rvc_prim C rfl rfl rfl rfl (trivial) rfl ?_ -- t29 load
      refine rvc_prim C rfl rfl rfl rfl (trivial) rfl ?_ -- t30 move
      refine rvc_primv C (sI fD .u8 ((D.drop (16 * i)).take 16)) rfl rfl rfl rfl ⟨by decide, by decide, by rw [hlen]; omega⟩ rfl (sI_cut 0 16 (by omega) (by rw [hlen]; omega) rfl rfl rfl) ?_
      refine rvc_call hP C rfl rfl rfl (four_blk hRD (by omega)) ?_ -- t32 call
      refine rvc_call hP C rfl rfl rfl (refXor_calls _ _) ?_ -- t33 call
      refine rvc_call hP C rfl rfl rfl (refStir_calls _ (fun t => R32.bit _ _ _)) ?_ -- t34 call
      refine rvc_prim C rfl rfl rfl rfl (trivial) rfl ?_ -- s2 store
      refine rvc_nil ?_
      refine Awp.region C (fun _ => .pure) (by kernel_rfl) ?_ -- region 10 false
      refine rvc_prim C rfl rfl rfl rfl (trivial) rfl ?_ -- t35 move
      refine rvc_primv C (sI fD .u8 (D.drop (16 * (i + 1)))) rfl rfl rfl rfl ⟨by decide, by show (16 : Int) ≤ ((D.drop (16 * i)).length : Int); rw [hlen]; omega⟩ rfl ?_ ?_
      · refine (sI_cut 16 (D.drop (16 * i)).length (by rw [hlen]; omega) (by omega) rfl rfl rfl).trans ?_
        congr 1
        rw [List.take_of_length_le (by simp; omega), List.drop_drop]
        congr 1
      refine rvc_prim C rfl rfl rfl rfl (trivial) rfl ?_ -- t1 assign
      refine rvc_nil ?_
      refine Awp.region C (fun _ => .pure) (by kernel_rfl) ?_ -- region 11 false
      refine rvc_prim C rfl rfl rfl rfl (trivial) rfl ?_ -- t37 binOp
      refine rvc_prim C rfl rfl rfl rfl (trivial) rfl ?_ -- t24 move
      refine rvc_nil ?_
      exact Weaker.of hI ⟨rfl, rfl, rfl, rfl, rfl, rfl, lit_cast (wrap_i64 (by omega) (by omega)), trivial⟩ ⟨rfl, rfl, rfl, rfl, trivial⟩ rfl (by simp [Blk.within, cI_within])
    ·
      have hlen : (D.drop (16 * ((D.length - 1) / 16))).length = D.length - 16 * ((D.length - 1) / 16) := by simp
      by_cases hb : (D.length - 1) / 16 < D.length / 16
      ·
        refine Awp.cons C (fun _ => .pure) (by kernel_rfl) ?_ -- region 7 false
        refine rvc_prim C rfl rfl rfl rfl (trivial) rfl ?_ -- t25 binOp
        refine rvc_nil ?_
        refine Awp.seq ?_
        refine Awp.condT rfl (by simp; omega) ?_
        refine Awp.skip ?_
        refine Awp.seq ?_
        refine Awp.block ?_
        refine Awp.seq ?_
        refine Awp.cons C (fun _ => .pure) (by kernel_rfl) ?_ -- region 8 false
        refine rvc_prim C rfl rfl rfl rfl (trivial) rfl ?_ -- t26 move
        refine rvc_prim C rfl rfl rfl rfl (trivial) rfl ?_ -- t27 call
        refine rvc_prim C rfl rfl rfl rfl (trivial) rfl ?_ -- t28 binOp
        refine rvc_nil ?_
        refine Awp.condT rfl (by rw [hlen]; simp; omega) ?_
        refine Awp.exit ?_
        exact Weaker.of hI ⟨rfl, rfl, rfl, rfl, rfl, trivial⟩ ⟨rfl, rfl, rfl, rfl, trivial⟩ rfl (by simp [Blk.within, cI_within])
      ·
        refine Awp.cons C (fun _ => .pure) (by kernel_rfl) ?_ -- region 7 false
        refine rvc_prim C rfl rfl rfl rfl (trivial) rfl ?_ -- t25 binOp
        refine rvc_nil ?_
        refine Awp.seq ?_
        refine Awp.condF rfl (by simp; omega) ?_
        refine Awp.exit ?_
        exact Weaker.of hI ⟨rfl, rfl, rfl, rfl, rfl, trivial⟩ ⟨rfl, rfl, rfl, rfl, trivial⟩ rfl (by simp [Blk.within, cI_within])
  have hlen : (D.drop (16 * ((D.length - 1) / 16))).length = D.length - 16 * ((D.length - 1) / 16) := by simp
  refine Awp.cons C (fun _ => .pure) (by kernel_rfl) ?_ -- region 12 false
  refine rvc_prim C rfl rfl rfl rfl (trivial) rfl ?_ -- t38 load
  refine rvc_call hP C rfl rfl rfl (refDouble_calls _ (wordsF_R _)) ?_ -- t39 call
  refine rvc_prim C rfl rfl rfl rfl (trivial) rfl ?_ -- t9 alloc
  refine rvc_prim C rfl rfl rfl rfl (trivial) rfl ?_ -- s0 store
  refine rvc_nil ?_
  refine Awp.cons C (fun _ => .pure) (by kernel_rfl) ?_ -- region 13 false
  refine rvc_prim C rfl rfl rfl rfl (trivial) rfl ?_ -- t40 buildSlice
  refine rvc_prim C rfl rfl rfl rfl (trivial) rfl ?_ -- t41 move
  refine rvc_append C rfl rfl rfl rfl rfl rfl rfl rfl (fun k h => by cases h) rfl rfl rfl (by rw [pI_len]; exact (Nat.mul_one _).symm) (Nat.le_refl 0) (by rw [pI_pv]; exact flat_cI _ _) (by rw [hlen]; show (2 * (0 + (D.length - 16 * ((D.length - 1) / 16))) + 192) * 1 ≤ _; omega) (by rw [hlen]; omega) ?_
  refine rvc_prim C rfl rfl rfl rfl (trivial) rfl ?_ -- t10 assign
  refine rvc_nil ?_
  refine Awp.seq_midR [(4, .ptr 4 0), (6, .ptr 6 0), (8, .ptr 8 0), (9, .ptr 9 0), (10, .sl 100 0 (refLast (D.drop (16 * ((D.length - 1) / 16)))).length 1 false)] [(4, .cells (cI .u8 (tb 16 fun _ => 0))), (6, .cells (cI .u8 (tb 16 fun _ => 0))), (8, .cells (cI .u32 (tb 4 (stN (wordsF fun s => K.getD s 0) D ((D.length - 1) / 16))))), (9, .cells (cI .u32 (tb 4 (endF (wordsF fun s => K.getD s 0) D)))), (100, .cells (cI .u8 (refLast (D.drop (16 * ((D.length - 1) / 16))))))] [4, 6, 8, 9, 100] ?_ ?_
  ·
    refine Awp.cons C (fun _ => .pure) (by kernel_rfl) ?_ -- region 14 false
    refine rvc_prim C rfl rfl rfl rfl (trivial) rfl ?_ -- t43 move
    refine rvc_prim C rfl rfl rfl rfl (trivial) rfl ?_ -- t44 call
    refine rvc_prim C rfl rfl rfl rfl (trivial) rfl ?_ -- t45 binOp
    refine rvc_nil ?_
    refine Awp.cond rfl (fun hc => ?_) (fun hc => ?_)
    ·
      refine Awp.cons C (fun _ => .pure) (by kernel_rfl) ?_ -- region 15 false
      refine rvc_prim C rfl rfl rfl rfl (trivial) rfl ?_ -- t46 load
      refine rvc_call hP C rfl rfl rfl (refDouble_calls _ (R32s.double _)) ?_ -- t47 call
      refine rvc_prim C rfl rfl rfl rfl (trivial) rfl ?_ -- s1 store
      refine rvc_nil ?_
      refine Awp.region C (fun _ => .pure) (by kernel_rfl) ?_ -- region 16 false
      refine rvc_prim C rfl rfl rfl rfl (trivial) rfl ?_ -- t48 move
      refine rvc_buildSliceF C (pI .u8 [1]) rfl rfl rfl rfl rfl (by decide) rfl rfl ?_
      refine rvc_append C rfl rfl rfl rfl rfl rfl rfl rfl (fun k h => by cases h) rfl rfl rfl (rfl) (by have e := congrArg List.length (app_first (D.drop (16 * ((D.length - 1) / 16)))); rw [cI_len] at e; exact Nat.le_trans (by show 0 + (0 + List.length (D.drop (16 * ((D.length - 1) / 16)))) * 1 ≤ List.length (D.drop (16 * ((D.length - 1) / 16))); omega) (Nat.le_of_eq e.symm)) (rfl) (by rw [hlen]; show (2 * (0 + (D.length - 16 * ((D.length - 1) / 16)) + 1) + 192) * 1 ≤ _; omega) (by rw [hlen]; omega) ?_
      refine rvc_prim C rfl rfl rfl rfl (trivial) rfl ?_ -- t10 assign
      refine rvc_nil ?_
      have hr : D.length - 16 * ((D.length - 1) / 16) < 16 := by simp at hc; omega
      have hl1 : refLast (D.drop (16 * ((D.length - 1) / 16))) = (D.drop (16 * ((D.length - 1) / 16))) ++ [1] := if_pos (by rw [hlen]; exact hr)
      refine ⟨fun b => if b = 100 then 50 else b, WeakerR.of hI ⟨rfl, rfl, rfl, rfl, sl_cast (by rw [hl1]; simp), trivial⟩ ⟨rfl, rfl, rfl, ?_, ?_, trivial⟩ rfl (by simp [Blk.within, cI_within]) rfl⟩
      · simp only [endF, if_pos hr]; rfl
      · rw [hl1]; exact blk_cast (app_next (app_first _) (by simp))
    ·
      refine Awp.skip ?_
      have hr : D.length - 16 * ((D.length - 1) / 16) = 16 := by simp at hc; omega
      have hl1 : refLast (D.drop (16 * ((D.length - 1) / 16))) = (D.drop (16 * ((D.length - 1) / 16))) := if_neg (by rw [hlen]; omega)
      refine ⟨fun b => if b = 100 then 42 else b, WeakerR.of hI ⟨rfl, rfl, rfl, rfl, sl_cast (by rw [hl1]; simp), trivial⟩ ⟨rfl, rfl, rfl, ?_, ?_, trivial⟩ rfl (by simp [Blk.within, cI_within]) rfl⟩
      · simp only [endF, if_neg (show ¬ D.length - 16 * ((D.length - 1) / 16) < 16 by omega)]; rfl
      · rw [hl1]; exact blk_cast (app_first _)
  refine Awp.seq ?_
  refine Awp.block ?_
  have hL : (refLast (D.drop (16 * ((D.length - 1) / 16)))).length ≤ 16 := refLast_len (by rw [hlen]; omega)
  refine Awp.forNR (16 - (refLast (D.drop (16 * ((D.length - 1) / 16)))).length) (fun i => [(4, .ptr 4 0), (6, .ptr 6 0), (8, .ptr 8 0), (9, .ptr 9 0), (10, .sl 100 0 ((refLast (D.drop (16 * ((D.length - 1) / 16)))).length + i) 1 false)]) (fun i => [(4, .cells (cI .u8 (tb 16 fun _ => 0))), (6, .cells (cI .u8 (tb 16 fun _ => 0))), (8, .cells (cI .u32 (tb 4 (stN (wordsF fun s => K.getD s 0) D ((D.length - 1) / 16))))), (9, .cells (cI .u32 (tb 4 (endF (wordsF fun s => K.getD s 0) D)))), (100, .cells (cI .u8 ((refLast (D.drop (16 * ((D.length - 1) / 16)))) ++ List.replicate i 0)))]) [4, 6, 8, 9, 100] (fun b => b) (fun b => if b = 100 then 56 else b) ?_ (fun i hi => ?_) ?_
  · exact WeakerR.of hI ⟨rfl, rfl, rfl, rfl, rfl, trivial⟩ ⟨rfl, rfl, rfl, rfl, blk_cast (by simp), trivial⟩ rfl (by simp [Blk.within, cI_within]) rfl
  ·
    refine Awp.seq ?_
    refine Awp.cons C (fun _ => .pure) (by kernel_rfl) ?_ -- region 17 false
    refine rvc_prim C rfl rfl rfl rfl (trivial) rfl ?_ -- t51 move
    refine rvc_prim C rfl rfl rfl rfl (trivial) rfl ?_ -- t52 call
    refine rvc_prim C rfl rfl rfl rfl (trivial) rfl ?_ -- t53 binOp
    refine rvc_nil ?_
    refine Awp.condT rfl (by simp; omega) ?_
    refine Awp.skip ?_
    refine Awp.block ?_
    refine Awp.region C (fun _ => .pure) (by kernel_rfl) ?_ -- region 18 false
    refine rvc_prim C rfl rfl rfl rfl (trivial) rfl ?_ -- t54 move
    refine rvc_buildSliceF C (pI .u8 [0]) rfl rfl rfl rfl rfl (by decide) rfl rfl ?_
    refine rvc_append C rfl rfl rfl rfl rfl rfl rfl rfl (fun k h => by cases h) rfl rfl rfl (rfl) (by rw [cI_len, List.length_append, List.length_replicate]; show 0 + (List.length (refLast (D.drop (16 * ((D.length - 1) / 16)))) + i) * 1 ≤ _; omega) (rfl) (by show (2 * (List.length (refLast (D.drop (16 * ((D.length - 1) / 16)))) + i + 1) + 192) * 1 ≤ _; omega) (by omega) ?_
    refine rvc_prim C rfl rfl rfl rfl (trivial) rfl ?_ -- t10 assign
    refine rvc_nil ?_
    exact WeakerR.of hI ⟨rfl, rfl, rfl, rfl, sl_cast (by omega), trivial⟩ ⟨rfl, rfl, rfl, rfl, blk_cast ((app_next (A := (refLast (D.drop (16 * ((D.length - 1) / 16)))) ++ List.replicate i 0) rfl (by simp)).trans (by rw [List.append_assoc, ← List.replicate_succ'])), trivial⟩ rfl (by simp [Blk.within, cI_within]) rfl
  ·
    refine Awp.seq ?_
    refine Awp.cons C (fun _ => .pure) (by kernel_rfl) ?_ -- region 17 false
    refine rvc_prim C rfl rfl rfl rfl (trivial) rfl ?_ -- t51 move
    refine rvc_prim C rfl rfl rfl rfl (trivial) rfl ?_ -- t52 call
    refine rvc_prim C rfl rfl rfl rfl (trivial) rfl ?_ -- t53 binOp
    refine rvc_nil ?_
    refine Awp.condF rfl (by simp; omega) ?_
    refine Awp.exit ?_
    refine Awp.weaken (S := [(4, .ptr 4 0), (6, .ptr 6 0), (8, .ptr 8 0), (9, .ptr 9 0), (10, .sl 100 0 (refLast (D.drop (16 * ((D.length - 1) / 16))) ++ List.replicate (16 - (refLast (D.drop (16 * ((D.length - 1) / 16)))).length) 0).length 1 false)]) (H := [(4, .cells (cI .u8 (tb 16 fun _ => 0))), (6, .cells (cI .u8 (tb 16 fun _ => 0))), (8, .cells (cI .u32 (tb 4 (stN (wordsF fun s => K.getD s 0) D ((D.length - 1) / 16))))), (9, .cells (cI .u32 (tb 4 (endF (wordsF fun s => K.getD s 0) D)))), (100, .cells (cI .u8 (refLast (D.drop (16 * ((D.length - 1) / 16))) ++ List.replicate (16 - (refLast (D.drop (16 * ((D.length - 1) / 16)))).length) 0)))]) (U := [4, 6, 8, 9, 100]) (Weaker.of hI ⟨rfl, rfl, rfl, rfl, sl_cast (by simp), trivial⟩ ⟨rfl, rfl, rfl, rfl, rfl, trivial⟩ rfl (by simp [Blk.within, cI_within])) ?_
    have hzl : (refLast (D.drop (16 * ((D.length - 1) / 16))) ++ List.replicate (16 - (refLast (D.drop (16 * ((D.length - 1) / 16)))).length) 0).length = 16 := by rw [List.length_append, List.length_replicate]; omega
    refine Awp.freeze 100 (pI .u8 (refLast (D.drop (16 * ((D.length - 1) / 16))) ++ List.replicate (16 - (refLast (D.drop (16 * ((D.length - 1) / 16)))).length) 0)) (by rw [pI_pv]; rfl) ([(4, .ptr 4 0), (6, .ptr 6 0), (8, .ptr 8 0), (9, .ptr 9 0), (10, sI (some false) .u8 (refLast (D.drop (16 * ((D.length - 1) / 16))) ++ List.replicate (16 - (refLast (D.drop (16 * ((D.length - 1) / 16)))).length) 0))]) [(4, .cells (cI .u8 (tb 16 fun _ => 0))), (6, .cells (cI .u8 (tb 16 fun _ => 0))), (8, .cells (cI .u32 (tb 4 (stN (wordsF fun s => K.getD s 0) D ((D.length - 1) / 16))))), (9, .cells (cI .u32 (tb 4 (endF (wordsF fun s => K.getD s 0) D))))] ?_ ?_ ?_
    · intro x hx
      simp only [List.mem_cons, List.not_mem_nil, or_false] at hx
      rcases hx with rfl | rfl | rfl | rfl | rfl
      · exact .inl rfl
      · exact .inl rfl
      · exact .inl rfl
      · exact .inl rfl
      · exact .inr ⟨_, _, _, rfl, rfl⟩
    · intro x hx
      simp only [List.mem_cons, List.not_mem_nil, or_false] at hx
      rcases hx with rfl | rfl | rfl | rfl <;> exact ⟨by simp, rfl⟩
    have hfour : PCalls Try.prog 43 [sI (some false) .u8 (refLast (D.drop (16 * ((D.length - 1) / 16))) ++ List.replicate (16 - (refLast (D.drop (16 * ((D.length - 1) / 16)))).length) 0)] (.agg (cI .u32 (tb 4 (wordsF (lastF D))))) := by
      have := four_calls (some false) (refLast (D.drop (16 * ((D.length - 1) / 16))) ++ List.replicate (16 - (refLast (D.drop (16 * ((D.length - 1) / 16)))).length) 0) (lz_R hRD) (by omega)
      rwa [tb_congr (n := 4) (g := wordsF (lastF D)) fun t ht => wordsF_congr (fun s hs => last_get D s hs) ht] at this
    refine Awp.cons C (fun _ => .pure) (by kernel_rfl) ?_ -- region 19 true
    refine rvc_prim C rfl rfl rfl rfl (trivial) rfl ?_ -- t57 load
    refine rvc_prim C rfl rfl rfl rfl (trivial) rfl ?_ -- t58 move
    refine rvc_call hP C rfl rfl rfl (hfour) ?_ -- t59 call
    refine rvc_call hP C rfl rfl rfl (refXor_calls _ _) ?_ -- t60 call
    refine rvc_prim C rfl rfl rfl rfl (trivial) rfl ?_ -- t61 load
    refine rvc_call hP C rfl rfl rfl (refXor_calls _ _) ?_ -- t62 call
    refine rvc_call hP C rfl rfl rfl (refStir_calls _ (fun t => R32.bit _ _ _)) ?_ -- t63 call
    refine rvc_prim C rfl rfl rfl rfl (trivial) rfl ?_ -- t64 load
    refine rvc_call hP C rfl rfl rfl (refXor_calls _ _) ?_ -- t65 call
    refine rvc_prim C rfl rfl rfl rfl (trivial) rfl ?_ -- s0 store
    refine rvc_nil ?_
    refine Awp.seq ?_
    refine Awp.cons C (fun _ => .pure) (by kernel_rfl) ?_ -- region 20 false
    refine rvc_prim C rfl rfl rfl rfl (trivial) rfl ?_ -- t66 move
    refine rvc_nil ?_
    refine Awp.block ?_
    generalize hF : (xorF (stirF (xorF (xorF (stN (wordsF fun s => K.getD s 0) D ((D.length - 1) / 16)) (wordsF (lastF D))) (endF (wordsF fun s => K.getD s 0) D))) (endF (wordsF fun s => K.getD s 0) D)) = F
    have hFR : R32s F := fun t => by rw [← hF]; exact R32.bit _ _ _
    refine Awp.forN (4) (fun i => [(4, .ptr 4 0), (6, .ptr 6 0), (8, .ptr 8 0), (66, .pv (.int .i64 i))]) (fun i => [(4, .cells (cI .u8 (tb 16 fun _ => 0))), (6, .cells (cI .u8 (tb 16 (bTab F (4 * i))))), (8, .cells (cI .u32 (tb 4 F)))]) [4, 6, 8] ?_ (fun i hi => ?_) ?_
    · exact Weaker.of hI ⟨rfl, rfl, rfl, rfl, trivial⟩ ⟨rfl, rfl, by rw [← hF]; rfl, trivial⟩ rfl (by simp [Blk.within, cI_within])
    ·
      refine Awp.cons C (fun _ => .pure) (by kernel_rfl) ?_ -- region 21 false
      refine rvc_prim C rfl rfl rfl rfl (trivial) rfl ?_ -- t67 binOp
      refine rvc_nil ?_
      refine Awp.seq ?_
      refine Awp.condT rfl (by simp; omega) ?_
      refine Awp.skip ?_
      refine Awp.seq ?_
      refine Awp.block ?_
      refine Awp.cons C (fun _ => .pure) (by kernel_rfl) ?_ -- region 22 false
      refine rvc_prim C rfl rfl rfl rfl (trivial) rfl ?_ -- t68 move
      refine rvc_prim C rfl rfl rfl rfl (trivial) rfl ?_ -- t11 assign
      refine rvc_nil ?_
      refine Awp.cons C (fun _ => .pure) (by kernel_rfl) ?_ -- region 23 false
      refine rvc_prim C rfl rfl rfl rfl (trivial) rfl ?_ -- t69 move
      refine rvc_prim C rfl rfl rfl rfl (⟨by omega, by omega⟩) rfl ?_ -- t70 indexAddr
      refine rvc_load C rfl rfl rfl rfl rfl (cI_at i (by show 0 + (i : Int).toNat * 1 = _; omega) (by omega)) ?_
      refine rvc_prim C rfl rfl rfl rfl (trivial) rfl ?_ -- t12 assign
      refine rvc_nil ?_
      refine Awp.cons C (fun _ => .pure) (by kernel_rfl) ?_ -- region 24 false
      refine rvc_prim C rfl rfl rfl rfl (trivial) rfl ?_ -- t72 move
      refine rvc_nil ?_
      refine Awp.block ?_
      refine Awp.forN (4) (fun j => [(4, .ptr 4 0), (6, .ptr 6 0), (8, .ptr 8 0), (11, .pv (.int .i64 i)), (12, .pv (.int .u32 (divN (F i) j))), (66, .pv (.int .i64 i)), (72, .pv (.int .i64 j))]) (fun j => [(4, .cells (cI .u8 (tb 16 fun _ => 0))), (6, .cells (cI .u8 (tb 16 (bTab F (4 * i + j))))), (8, .cells (cI .u32 (tb 4 F)))]) [4, 6, 8] ?_ (fun j hj => ?_) ?_
      · exact Weaker.of hI ⟨rfl, rfl, rfl, rfl, rfl, rfl, rfl, trivial⟩ ⟨rfl, rfl, rfl, trivial⟩ rfl (by simp [Blk.within, cI_within])
      ·
        have m1 : IntKind.i64.wrap (4 * (i : Int)) = ((4 * i : Nat) : Int) := wrap_i64 (by omega) (by omega)
        have m2 : IntKind.i64.wrap (IntKind.i64.wrap (4 * (i : Int)) + (j : Int)) = ((4 * i + j : Nat) : Int) := by rw [m1]; exact wrap_i64 (by omega) (by omega)
        refine Awp.cons C (fun _ => .pure) (by kernel_rfl) ?_ -- region 25 false
        refine rvc_prim C rfl rfl rfl rfl (trivial) rfl ?_ -- t73 binOp
        refine rvc_nil ?_
        refine Awp.seq ?_
        refine Awp.condT rfl (by simp; omega) ?_
        refine Awp.skip ?_
        refine Awp.seq ?_
        refine Awp.block ?_
        refine Awp.cons C (fun _ => .pure) (by kernel_rfl) ?_ -- region 26 false
        refine rvc_prim C rfl rfl rfl rfl (trivial) rfl ?_ -- t74 move
        refine rvc_prim C rfl rfl rfl rfl (trivial) rfl ?_ -- t13 assign
        refine rvc_nil ?_
        refine Awp.cons C (fun _ => .pure) (by kernel_rfl) ?_ -- region 27 false
        refine rvc_prim C rfl rfl rfl rfl (trivial) rfl ?_ -- t75 move
        refine rvc_prim C rfl rfl rfl rfl (trivial) rfl ?_ -- t76 binOp
        refine rvc_prim C rfl rfl rfl rfl (trivial) rfl ?_ -- t77 move
        refine rvc_prim C rfl rfl rfl rfl (trivial) rfl ?_ -- t78 binOp
        refine rvc_prim C rfl rfl rfl rfl (trivial) rfl ?_ -- t79 move
        refine rvc_prim C rfl rfl rfl rfl (by decide) rfl ?_ -- t80 binOp
        refine rvc_prim C rfl rfl rfl rfl (trivial) rfl ?_ -- t81 convert
        refine rvc_prim C rfl rfl rfl rfl (⟨by rw [m2]; omega, by rw [m2]; omega⟩) rfl ?_ -- t82 indexAddr
        refine rvc_store C rfl rfl rfl rfl rfl (by rw [cI_len, tb_len, m2]; show 0 + ((4 * i + j : Nat) : Int).toNat * 1 < 16; omega) ?_
        refine rvc_nil ?_
        refine Awp.region C (fun _ => .pure) (by kernel_rfl) ?_ -- region 28 false
        refine rvc_prim C rfl rfl rfl rfl (trivial) rfl ?_ -- t83 move
        refine rvc_prim C rfl rfl rfl rfl (by decide) rfl ?_ -- t84 binOp
        refine rvc_prim C rfl rfl rfl rfl (trivial) rfl ?_ -- t12 assign
        refine rvc_nil ?_
        refine Awp.region C (fun _ => .pure) (by kernel_rfl) ?_ -- region 29 false
        refine rvc_prim C rfl rfl rfl rfl (trivial) rfl ?_ -- t85 binOp
        refine rvc_prim C rfl rfl rfl rfl (trivial) rfl ?_ -- t72 move
        refine rvc_nil ?_
        refine Weaker.of hI ⟨rfl, rfl, rfl, rfl, rfl, rfl, lit_cast (wrap_i64 (by omega) (by omega)), trivial⟩ ⟨rfl, ?_, rfl, trivial⟩ rfl (by simp [Blk.within, cI_within])
        refine (congrArg (fun x => some (Blk.cells x)) (cI_set (4 * i + j) (by rw [m2]; show 0 + ((4 * i + j : Nat) : Int).toNat * 1 = _; omega))).trans (cells_cast fun t ht => ?_)
        simp only [bTab]
        by_cases h1 : t = 4 * i + j
        · subst h1
          have e1 : (4 * i + j) / 4 = i := by omega
          have e2 : (4 * i + j) % 4 = j := by omega
          rw [if_pos rfl, if_pos (by omega), byte_eq (hFR i) j hj]
          simp only [bytesF, e1, e2]
        · rw [if_neg h1]
          by_cases h2 : t < 4 * i + j
          · rw [if_pos h2, if_pos (by omega)]
          · rw [if_neg h2, if_neg (by omega)]
      ·
        refine Awp.cons C (fun _ => .pure) (by kernel_rfl) ?_ -- region 25 false
        refine rvc_prim C rfl rfl rfl rfl (trivial) rfl ?_ -- t73 binOp
        refine rvc_nil ?_
        refine Awp.seq ?_
        refine Awp.condF rfl (by simp) ?_
        refine Awp.exit ?_
        refine Awp.region C (fun _ => .pure) (by kernel_rfl) ?_ -- region 30 false
        refine rvc_prim C rfl rfl rfl rfl (trivial) rfl ?_ -- t86 binOp
        refine rvc_prim C rfl rfl rfl rfl (trivial) rfl ?_ -- t66 move
        refine rvc_nil ?_
        exact Weaker.of hI ⟨rfl, rfl, rfl, lit_cast (wrap_i64 (by omega) (by omega)), trivial⟩ ⟨rfl, rfl, rfl, trivial⟩ rfl (by simp [Blk.within, cI_within])
    ·
      refine Awp.cons C (fun _ => .pure) (by kernel_rfl) ?_ -- region 21 false
      refine rvc_prim C rfl rfl rfl rfl (trivial) rfl ?_ -- t67 binOp
      refine rvc_nil ?_
      refine Awp.seq ?_
      refine Awp.condF rfl (by simp) ?_
      refine Awp.exit ?_
      refine Awp.cons C (fun _ => .pure) (by kernel_rfl) ?_ -- region 31 false
      refine rvc_prim C rfl rfl rfl rfl (trivial) rfl ?_ -- t87 load
      refine rvc_prim C rfl rfl rfl rfl (trivial) rfl ?_ -- s2 store
      refine rvc_prim C rfl rfl rfl rfl (trivial) rfl ?_ -- t5 assign
      refine rvc_nil ?_
      refine Awp.ret ?_
      refine ⟨.inl rfl, ?_⟩
      subst hF
      rfl
end Go.Proofs.Ytaoagcdljmpllaa
