import Derived.Test.YthnghkkbnhjlgaaDoorM1
import Derived.Test.YthnghkkbnhjlgaaDoorM2
import Derived.Test.YthnghkkbnhjlgaaDoorM3
/- The contract of Of of the reference. No conditions. -/
namespace Go.Proofs.YthnghkkbnhjlgaaDoor
open Go.Am
theorem cI_app (k : IntKind) (A B : List Int) : cI k A ++ cI k B = cI k (A ++ B) := by simp [cI]
theorem renL_cI (τ : Nat → Nat) (k : IntKind) (A : List Int) : AV.renL τ (cI k A) = cI k A := AV.renL_none _ (cI_within k A _)
theorem app_first (R : List Int) : ((([] : List AV).drop 0).take (0 * 1) ++ (pI .u8 R).map AV.pv) = cI .u8 R := by rw [pI_pv]; simp
theorem app_next {cs : List AV} {A B : List Int} (h : cs = cI .u8 A) {n : Nat} (hn : n = A.length) : ((cs.drop 0).take (n * 1) ++ (pI .u8 B).map AV.pv) = cI .u8 (A ++ B) := by
  subst h hn
  rw [pI_pv, List.drop_zero, Nat.mul_one, List.take_of_length_le (by rw [cI_len]; exact Nat.le_refl _), cI_app]
theorem sl_cast {b o n m s : Nat} {t : Bool} (h : n = m) : some (AV.sl b o n s t) = some (AV.sl b o m s t) := by rw [h]
theorem blk_cast {xs : List AV} {τ : Nat → Nat} {A : List Int} (h : xs = cI .u8 A) : some (Blk.cells xs) = some ((Blk.cells (cI .u8 A)).ren τ) := by
  rw [h]; simp only [Blk.ren, renL_cI]
theorem refOf_bad (fK fD : Option Bool) (K D : List Int) (h : K.length ≠ 16) : PCalls Tryd.prog 36 [sI fK .u8 K, sI fD .u8 D] (.tup [.agg (cI .u8 (tb 16 fun _ => 0)), .pv (.lit (.int .i64 1))]) := by
  refine PCalls.of_body tabOk Tryd.func36 rfl rfl rfl rfl rfl mixed fun E hP C hI => ?_
  refine Awp.cons C (fun _ => .pure) (by kernel_rfl) ?_ -- region 0 false
  refine rvc_prim C rfl rfl rfl rfl (trivial) rfl ?_
  refine rvc_prim C rfl rfl rfl rfl (trivial) rfl ?_
  refine rvc_nil ?_
  refine Awp.cons C (fun _ => .pure) (by kernel_rfl) ?_ -- region 1 false
  refine rvc_prim C rfl rfl rfl rfl (trivial) rfl ?_
  refine rvc_nil ?_
  refine Awp.seq ?_
  refine Awp.cons C (fun _ => .pure) (by kernel_rfl) ?_ -- region 2 false
  refine rvc_prim C rfl rfl rfl rfl (trivial) rfl ?_
  refine rvc_prim C rfl rfl rfl rfl (trivial) rfl ?_
  refine rvc_prim C rfl rfl rfl rfl (trivial) rfl ?_
  refine rvc_nil ?_
  refine Awp.condT rfl (by simp; omega) ?_
  refine Awp.cons C (fun _ => .pure) (by kernel_rfl) ?_ -- region 3 false
  refine rvc_prim C rfl rfl rfl rfl (trivial) rfl ?_
  refine rvc_prim C rfl rfl rfl rfl (trivial) rfl ?_ -- s0 store
  refine rvc_prim C rfl rfl rfl rfl (trivial) rfl ?_
  refine rvc_nil ?_
  refine Awp.ret ?_
  exact ⟨.inl rfl, rfl⟩
/-- The last bytes, filled up. -/
def refLast (R : List Int) : List Int := if R.length < 16 then R ++ [1] else R
theorem four_blk {f : Option Bool} {D : List Int} {i : Nat} (h : R8l D) (hl : 16 * i + 16 ≤ D.length) : PCalls Tryd.prog 55 [sI f .u8 ((D.drop (16 * i)).take 16)] (.agg (cI .u32 (tb 4 (wordsF (blkF D i))))) := by
  have hR : R8l ((D.drop (16 * i)).take 16) := fun s => by
    by_cases hs : s < 16
    · have := h (16 * i + s)
      simpa [List.getD_eq_getElem?_getD, List.getElem?_take, hs] using this
    · rw [List.getD_eq_getElem?_getD, List.getElem?_take, if_neg hs]; exact ⟨by decide, by decide⟩
  have := four_calls f _ hR (by simp; omega)
  rwa [tb_congr (n := 4) (g := wordsF (blkF D i)) fun t ht => wordsF_congr (fun s hs => by simp [blkF, List.getD_eq_getElem?_getD, hs]) ht] at this
theorem refLast_len {R : List Int} (h : R.length ≤ 16) : (refLast R).length ≤ 16 := by
  unfold refLast; split
  · simp; omega
  · exact h
theorem last_get (D : List Int) (s : Nat) (hs : s < 16) : (refLast (D.drop (16 * ((D.length - 1) / 16))) ++ List.replicate (16 - (refLast (D.drop (16 * ((D.length - 1) / 16)))).length) 0).getD s 0 = lastF D s := by
  have hlen : (D.drop (16 * ((D.length - 1) / 16))).length = D.length - 16 * ((D.length - 1) / 16) := by simp
  have hr : D.length - 16 * ((D.length - 1) / 16) ≤ 16 := by omega
  have hg : ∀ i, (D.drop (16 * ((D.length - 1) / 16))).getD i 0 = blkF D ((D.length - 1) / 16) i := fun i => by simp [blkF, List.getD_eq_getElem?_getD]
  have hd : ∀ i, (D.drop (16 * ((D.length - 1) / 16)))[i]? = if i < D.length - 16 * ((D.length - 1) / 16) then some (blkF D ((D.length - 1) / 16) i) else none := fun i => by
    by_cases hi : i < D.length - 16 * ((D.length - 1) / 16)
    · rw [if_pos hi, ← hg, List.getD_eq_getElem?_getD, List.getElem?_eq_getElem (by omega)]; rfl
    · rw [if_neg hi, List.getElem?_eq_none (by omega)]
  simp only [lastF, List.getD_eq_getElem?_getD]
  generalize (D.drop (16 * ((D.length - 1) / 16))) = R at *
  generalize (D.length - 1) / 16 = m at *
  unfold refLast
  by_cases h1 : R.length < 16
  · rw [if_pos h1]
    rcases Nat.lt_trichotomy s R.length with h | h | h
    · rw [List.getElem?_append_left (by simp; omega), List.getElem?_append_left h, hd, if_pos (by omega), if_neg (by omega), if_pos (by omega)]; rfl
    · subst h
      rw [List.getElem?_append_left (by simp), List.getElem?_append_right (Nat.le_refl _), if_pos (by omega)]; simp
    · rw [List.getElem?_append_right (by simp; omega), if_neg (by omega), if_neg (by omega), List.getElem?_replicate]
      split <;> rfl
  · rw [if_neg h1, List.getElem?_append_left (by omega), hd, if_pos (by omega), if_neg (by omega), if_pos (by omega)]; rfl
theorem lastF_R {D : List Int} (h : R8l D) (s : Nat) : R8 (lastF D s) := by
  simp only [lastF]
  split
  · exact ⟨by decide, by decide⟩
  · split
    · exact h _
    · exact ⟨by decide, by decide⟩
theorem lz_R {D : List Int} (h : R8l D) : R8l (refLast (D.drop (16 * ((D.length - 1) / 16))) ++ List.replicate (16 - (refLast (D.drop (16 * ((D.length - 1) / 16)))).length) 0) := fun s => by
  by_cases hs : s < 16
  · rw [last_get D s hs]; exact lastF_R h s
  · have hl : (refLast (D.drop (16 * ((D.length - 1) / 16)))).length ≤ 16 := refLast_len (by simp; omega)
    have : (refLast (D.drop (16 * ((D.length - 1) / 16))) ++ List.replicate (16 - (refLast (D.drop (16 * ((D.length - 1) / 16)))).length) 0).length ≤ s := by rw [List.length_append, List.length_replicate]; omega
    rw [List.getD_eq_getElem?_getD, List.getElem?_eq_none this]; exact ⟨by decide, by decide⟩
def divN (x : Int) : Nat → Int
  | 0 => x
  | j + 1 => IntKind.u32.wrap ((divN x j).tdiv 256)
theorem divN_R {x : Int} (h : R32 x) : ∀ j, R32 (divN x j)
  | 0 => h
  | _ + 1 => R32.wrap _
theorem divN_eq {x : Int} (h : R32 x) : ∀ j, divN x j = x / 256 ^ j
  | 0 => by simp [divN]
  | j + 1 => by
    have hr := divN_R h j
    have e : (divN x j).tdiv 256 = divN x j / 256 := Int.tdiv_eq_ediv_of_nonneg hr.1
    simp only [divN]
    rw [e, wrap_R32 ⟨by have := hr.1; omega, by have := hr.1; have := hr.2; omega⟩, divN_eq h j, Int.ediv_ediv_of_nonneg (by exact Int.le_of_lt (Int.pow_pos (by decide))), Int.pow_succ]
theorem byte_eq {x : Int} (h : R32 x) (j : Nat) (hj : j < 4) : IntKind.u8.wrap ((divN x j).tmod 256) = IntKind.u8.wrap (shrI .u32 x ((8 * j : Nat) : Int)) := by
  rw [Int.tmod_eq_emod_of_nonneg (divN_R h j).1, divN_eq h j, wrap_u8, wrap_u8]
  have : shrI .u32 x ((8 * j : Nat) : Int) = x / 256 ^ j := by
    show x / 2 ^ (min ((8 * j : Nat) : Int).toNat 32) = _
    rw [Int.toNat_natCast, Nat.min_eq_left (by omega), Int.pow_mul]; rfl
  rw [this]; omega
theorem refOf_good (fK fD : Option Bool) (K D : List Int) (h : K.length = 16) (hK : R8l K) (hRD : R8l D) (hD : D.length ≤ 1000000000) : PCalls Tryd.prog 36 [sI fK .u8 K, sI fD .u8 D] (.tup [.agg (cI .u8 (tb 16 (ofF K D))), .pv (.lit (.int .i64 0))]) := by
  refine PCalls.of_body tabOk Tryd.func36 rfl rfl rfl rfl (by simp [AV.within, AV.withinL, cI_within]) mixed fun E hP C hI => ?_
  have hq : IntKind.i64.wrap ((D.length : Int).tdiv 16) = ((D.length / 16 : Nat) : Int) := by
    rw [Int.tdiv_eq_ediv_of_nonneg (by omega)]; exact wrap_i64 (by omega) (by omega)
  refine Awp.cons C (fun _ => .pure) (by kernel_rfl) ?_ -- region 0 false
  refine rvc_prim C rfl rfl rfl rfl (trivial) rfl ?_
  refine rvc_prim C rfl rfl rfl rfl (trivial) rfl ?_
  refine rvc_nil ?_
  refine Awp.cons C (fun _ => .pure) (by kernel_rfl) ?_ -- region 1 false
  refine rvc_prim C rfl rfl rfl rfl (trivial) rfl ?_
  refine rvc_nil ?_
  refine Awp.seq ?_
  refine Awp.cons C (fun _ => .pure) (by kernel_rfl) ?_ -- region 2 false
  refine rvc_prim C rfl rfl rfl rfl (trivial) rfl ?_
  refine rvc_prim C rfl rfl rfl rfl (trivial) rfl ?_
  refine rvc_prim C rfl rfl rfl rfl (trivial) rfl ?_
  refine rvc_nil ?_
  refine Awp.condF rfl (by simp; omega) ?_
  refine Awp.skip ?_
  refine Awp.cons C (fun _ => .pure) (by kernel_rfl) ?_ -- region 4 false
  refine rvc_prim C rfl rfl rfl rfl (trivial) rfl ?_
  refine rvc_call hP C rfl rfl rfl (four_calls fK K hK (by omega)) ?_
  refine rvc_prim C rfl rfl rfl rfl (trivial) rfl ?_
  refine rvc_prim C rfl rfl rfl rfl (trivial) rfl ?_ -- s0 store
  refine rvc_nil ?_
  refine Awp.cons C (fun _ => .pure) (by kernel_rfl) ?_ -- region 5 false
  refine rvc_prim C rfl rfl rfl rfl (trivial) rfl ?_
  refine rvc_prim C rfl rfl rfl rfl (trivial) rfl ?_
  refine rvc_prim C rfl rfl rfl rfl (trivial) rfl ?_ -- s1 store
  refine rvc_nil ?_
  refine Awp.seq_mid [(1, sI fD .u8 (D.drop (16 * ((D.length - 1) / 16)))), (4, .ptr 4 0), (6, .ptr 6 0), (7, .ptr 7 0), (8, .ptr 8 0)] [(4, .cells (cI .u8 (tb 16 fun _ => 0))), (6, .cells (cI .u8 (tb 16 fun _ => 0))), (7, .cells (cI .u32 (tb 4 (wordsF fun s => K.getD s 0)))), (8, .cells (cI .u32 (tb 4 (stN (wordsF fun s => K.getD s 0) D ((D.length - 1) / 16)))))] [4, 6, 7, 8] ?_ ?_
  ·
    refine Awp.cons C (fun _ => .pure) (by kernel_rfl) ?_ -- region 6 false
    refine rvc_prim C rfl rfl rfl rfl (trivial) rfl ?_
    refine rvc_prim C rfl rfl rfl rfl (trivial) rfl ?_
    refine rvc_prim C rfl rfl rfl rfl (by decide) rfl ?_
    refine rvc_prim C rfl rfl rfl rfl (trivial) rfl ?_
    refine rvc_nil ?_
    refine Awp.block ?_
    refine Awp.forN ((D.length - 1) / 16) (fun i => [(1, sI fD .u8 (D.drop (16 * i))), (4, .ptr 4 0), (6, .ptr 6 0), (7, .ptr 7 0), (8, .ptr 8 0), (23, .pv (.int .i64 ((D.length / 16 : Nat) : Int))), (24, .pv (.int .i64 i))]) (fun i => [(4, .cells (cI .u8 (tb 16 fun _ => 0))), (6, .cells (cI .u8 (tb 16 fun _ => 0))), (7, .cells (cI .u32 (tb 4 (wordsF fun s => K.getD s 0)))), (8, .cells (cI .u32 (tb 4 (stN (wordsF fun s => K.getD s 0) D i))))]) [4, 6, 7, 8] ?_ (fun i hi => ?_) ?_
    · exact Weaker.of hI ⟨rfl, rfl, rfl, rfl, rfl, lit_cast hq, rfl, trivial⟩ ⟨rfl, rfl, rfl, rfl, trivial⟩ rfl (by simp [Blk.within, cI_within])
    ·
      have hlen : (D.drop (16 * i)).length = D.length - 16 * i := by simp
      refine Awp.cons C (fun _ => .pure) (by kernel_rfl) ?_ -- region 7 false
      refine rvc_prim C rfl rfl rfl rfl (trivial) rfl ?_
      refine rvc_nil ?_
      refine Awp.seq ?_
      refine Awp.condT rfl (by simp; omega) ?_
      refine Awp.skip ?_
      refine Awp.seq ?_
      refine Awp.block ?_
      refine Awp.seq ?_
      refine Awp.cons C (fun _ => .pure) (by kernel_rfl) ?_ -- region 8 false
      refine rvc_prim C rfl rfl rfl rfl (trivial) rfl ?_
      refine rvc_prim C rfl rfl rfl rfl (trivial) rfl ?_
      refine rvc_prim C rfl rfl rfl rfl (trivial) rfl ?_
      refine rvc_nil ?_
      refine Awp.condF rfl (by rw [hlen]; simp; omega) ?_
      refine Awp.skip ?_
      refine Awp.consP C ?_
      refine rvc_prim C rfl rfl rfl rfl (trivial) rfl ?_
      refine rvc_prim C rfl rfl rfl rfl (trivial) rfl ?_
      refine rvc_primv C (sI fD .u8 ((D.drop (16 * i)).take 16)) rfl rfl rfl rfl ⟨by decide, by decide, by rw [hlen]; omega⟩ rfl (sI_cut 0 16 (by omega) (by rw [hlen]; omega) rfl rfl rfl) ?_
      refine rvc_call hP C rfl rfl rfl (four_blk hRD (by omega)) ?_
      refine rvc_call hP C rfl rfl rfl (refXor_calls _ _) ?_
      refine rvc_call hP C rfl rfl rfl (refStir_calls _ (fun t => R32.bit _ _ _)) ?_
      refine rvc_prim C rfl rfl rfl rfl (trivial) rfl ?_ -- s2 store
      refine rvc_nil ?_
      refine Awp.region C (fun _ => .pure) (by kernel_rfl) ?_ -- region 10 false
      refine rvc_prim C rfl rfl rfl rfl (trivial) rfl ?_
      refine rvc_primv C (sI fD .u8 (D.drop (16 * (i + 1)))) rfl rfl rfl rfl ⟨by decide, by show (16 : Int) ≤ ((D.drop (16 * i)).length : Int); rw [hlen]; omega⟩ rfl ?_ ?_
      · refine (sI_cut 16 (D.drop (16 * i)).length (by rw [hlen]; omega) (by omega) rfl rfl rfl).trans ?_
        congr 1
        rw [List.take_of_length_le (by simp; omega), List.drop_drop]
        congr 1
      refine rvc_prim C rfl rfl rfl rfl (trivial) rfl ?_
      refine rvc_nil ?_
      refine Awp.region C (fun _ => .pure) (by kernel_rfl) ?_ -- region 11 false
      refine rvc_prim C rfl rfl rfl rfl (trivial) rfl ?_
      refine rvc_prim C rfl rfl rfl rfl (trivial) rfl ?_
      refine rvc_nil ?_
      exact Weaker.of hI ⟨rfl, rfl, rfl, rfl, rfl, rfl, lit_cast (wrap_i64 (by omega) (by omega)), trivial⟩ ⟨rfl, rfl, rfl, rfl, trivial⟩ rfl (by simp [Blk.within, cI_within])
    ·
      have hlen : (D.drop (16 * ((D.length - 1) / 16))).length = D.length - 16 * ((D.length - 1) / 16) := by simp
      by_cases hb : (D.length - 1) / 16 < D.length / 16
      ·
        refine Awp.cons C (fun _ => .pure) (by kernel_rfl) ?_ -- region 7 false
        refine rvc_prim C rfl rfl rfl rfl (trivial) rfl ?_
        refine rvc_nil ?_
        refine Awp.seq ?_
        refine Awp.condT rfl (by simp; omega) ?_
        refine Awp.skip ?_
        refine Awp.seq ?_
        refine Awp.block ?_
        refine Awp.seq ?_
        refine Awp.cons C (fun _ => .pure) (by kernel_rfl) ?_ -- region 8 false
        refine rvc_prim C rfl rfl rfl rfl (trivial) rfl ?_
        refine rvc_prim C rfl rfl rfl rfl (trivial) rfl ?_
        refine rvc_prim C rfl rfl rfl rfl (trivial) rfl ?_
        refine rvc_nil ?_
        refine Awp.condT rfl (by rw [hlen]; simp; omega) ?_
        refine Awp.exit ?_
        exact Weaker.of hI ⟨rfl, rfl, rfl, rfl, rfl, trivial⟩ ⟨rfl, rfl, rfl, rfl, trivial⟩ rfl (by simp [Blk.within, cI_within])
      ·
        refine Awp.cons C (fun _ => .pure) (by kernel_rfl) ?_ -- region 7 false
        refine rvc_prim C rfl rfl rfl rfl (trivial) rfl ?_
        refine rvc_nil ?_
        refine Awp.seq ?_
        refine Awp.condF rfl (by simp; omega) ?_
        refine Awp.exit ?_
        exact Weaker.of hI ⟨rfl, rfl, rfl, rfl, rfl, trivial⟩ ⟨rfl, rfl, rfl, rfl, trivial⟩ rfl (by simp [Blk.within, cI_within])
  have hlen : (D.drop (16 * ((D.length - 1) / 16))).length = D.length - 16 * ((D.length - 1) / 16) := by simp
  refine Awp.cons C (fun _ => .pure) (by kernel_rfl) ?_ -- region 12 false
  refine rvc_prim C rfl rfl rfl rfl (trivial) rfl ?_
  refine rvc_call hP C rfl rfl rfl (refDouble_calls _ (wordsF_R _)) ?_
  refine rvc_prim C rfl rfl rfl rfl (trivial) rfl ?_
  refine rvc_prim C rfl rfl rfl rfl (trivial) rfl ?_ -- s0 store
  refine rvc_nil ?_
  refine Awp.cons C (fun _ => .pure) (by kernel_rfl) ?_ -- region 13 false
  refine rvc_prim C rfl rfl rfl rfl (trivial) rfl ?_
  refine rvc_prim C rfl rfl rfl rfl (trivial) rfl ?_
  refine rvc_append C rfl rfl rfl rfl rfl rfl rfl rfl (fun k h => by cases h) rfl rfl rfl (by rw [pI_len]; exact (Nat.mul_one _).symm) (Nat.le_refl 0) (by rw [pI_pv]; exact flat_cI _ _) (by rw [hlen]; show (2 * (0 + (D.length - 16 * ((D.length - 1) / 16))) + 192) * 1 ≤ _; omega) (by rw [hlen]; omega) ?_
  refine rvc_prim C rfl rfl rfl rfl (trivial) rfl ?_
  refine rvc_nil ?_
  refine Awp.seq_midR [(4, .ptr 4 0), (6, .ptr 6 0), (8, .ptr 8 0), (9, .ptr 9 0), (10, .sl 100 0 (refLast (D.drop (16 * ((D.length - 1) / 16)))).length 1 false)] [(4, .cells (cI .u8 (tb 16 fun _ => 0))), (6, .cells (cI .u8 (tb 16 fun _ => 0))), (8, .cells (cI .u32 (tb 4 (stN (wordsF fun s => K.getD s 0) D ((D.length - 1) / 16))))), (9, .cells (cI .u32 (tb 4 (endF (wordsF fun s => K.getD s 0) D)))), (100, .cells (cI .u8 (refLast (D.drop (16 * ((D.length - 1) / 16))))))] [4, 6, 8, 9, 100] ?_ ?_
  ·
    refine Awp.cons C (fun _ => .pure) (by kernel_rfl) ?_ -- region 14 false
    refine rvc_prim C rfl rfl rfl rfl (trivial) rfl ?_
    refine rvc_prim C rfl rfl rfl rfl (trivial) rfl ?_
    refine rvc_prim C rfl rfl rfl rfl (trivial) rfl ?_
    refine rvc_nil ?_
    refine Awp.cond rfl (fun hc => ?_) (fun hc => ?_)
    ·
      refine Awp.cons C (fun _ => .pure) (by kernel_rfl) ?_ -- region 15 false
      refine rvc_prim C rfl rfl rfl rfl (trivial) rfl ?_
      refine rvc_call hP C rfl rfl rfl (refDouble_calls _ (R32s.double _)) ?_
      refine rvc_prim C rfl rfl rfl rfl (trivial) rfl ?_ -- s1 store
      refine rvc_nil ?_
      refine Awp.region C (fun _ => .pure) (by kernel_rfl) ?_ -- region 16 false
      refine rvc_prim C rfl rfl rfl rfl (trivial) rfl ?_
      refine rvc_buildSliceF C (pI .u8 [1]) rfl rfl rfl rfl rfl (by decide) rfl rfl ?_
      refine rvc_append C rfl rfl rfl rfl rfl rfl rfl rfl (fun k h => by cases h) rfl rfl rfl (rfl) (by have e := congrArg List.length (app_first (D.drop (16 * ((D.length - 1) / 16)))); rw [cI_len] at e; exact Nat.le_trans (by show 0 + (0 + List.length (D.drop (16 * ((D.length - 1) / 16)))) * 1 ≤ List.length (D.drop (16 * ((D.length - 1) / 16))); omega) (Nat.le_of_eq e.symm)) (rfl) (by rw [hlen]; show (2 * (0 + (D.length - 16 * ((D.length - 1) / 16)) + 1) + 192) * 1 ≤ _; omega) (by rw [hlen]; omega) ?_
      refine rvc_prim C rfl rfl rfl rfl (trivial) rfl ?_
      refine rvc_nil ?_
      have hr : D.length - 16 * ((D.length - 1) / 16) < 16 := by simp at hc; omega
      have hl1 : refLast (D.drop (16 * ((D.length - 1) / 16))) = (D.drop (16 * ((D.length - 1) / 16))) ++ [1] := if_pos (by rw [hlen]; exact hr)
      refine ⟨fun b => if b = 100 then 50 else b, WeakerR.of hI ⟨rfl, rfl, rfl, rfl, sl_cast (by rw [hl1]; simp), trivial⟩ ⟨rfl, rfl, rfl, ?_, ?_, trivial⟩ rfl (by simp [Blk.within, cI_within]) rfl⟩
      · simp only [endF, if_pos hr]; rfl
      · rw [hl1]; exact blk_cast (app_next (app_first _) (by simp))
    ·
      refine Awp.skip ?_
      have hr : D.length - 16 * ((D.length - 1) / 16) = 16 := by simp at hc; omega
      have hl1 : refLast (D.drop (16 * ((D.length - 1) / 16))) = (D.drop (16 * ((D.length - 1) / 16))) := if_neg (by rw [hlen]; omega)
      refine ⟨fun b => if b = 100 then 42 else b, WeakerR.of hI ⟨rfl, rfl, rfl, rfl, sl_cast (by rw [hl1]; simp), trivial⟩ ⟨rfl, rfl, rfl, ?_, ?_, trivial⟩ rfl (by simp [Blk.within, cI_within]) rfl⟩
      · simp only [endF, if_neg (show ¬ D.length - 16 * ((D.length - 1) / 16) < 16 by omega)]; rfl
      · rw [hl1]; exact blk_cast (app_first _)
  refine Awp.seq ?_
  refine Awp.block ?_
  have hL : (refLast (D.drop (16 * ((D.length - 1) / 16)))).length ≤ 16 := refLast_len (by rw [hlen]; omega)
  refine Awp.forNR (16 - (refLast (D.drop (16 * ((D.length - 1) / 16)))).length) (fun i => [(4, .ptr 4 0), (6, .ptr 6 0), (8, .ptr 8 0), (9, .ptr 9 0), (10, .sl 100 0 ((refLast (D.drop (16 * ((D.length - 1) / 16)))).length + i) 1 false)]) (fun i => [(4, .cells (cI .u8 (tb 16 fun _ => 0))), (6, .cells (cI .u8 (tb 16 fun _ => 0))), (8, .cells (cI .u32 (tb 4 (stN (wordsF fun s => K.getD s 0) D ((D.length - 1) / 16))))), (9, .cells (cI .u32 (tb 4 (endF (wordsF fun s => K.getD s 0) D)))), (100, .cells (cI .u8 ((refLast (D.drop (16 * ((D.length - 1) / 16)))) ++ List.replicate i 0)))]) [4, 6, 8, 9, 100] (fun b => b) (fun b => if b = 100 then 56 else b) ?_ (fun i hi => ?_) ?_
  · exact WeakerR.of hI ⟨rfl, rfl, rfl, rfl, rfl, trivial⟩ ⟨rfl, rfl, rfl, rfl, blk_cast (by simp), trivial⟩ rfl (by simp [Blk.within, cI_within]) rfl
  ·
    refine Awp.seq ?_
    refine Awp.cons C (fun _ => .pure) (by kernel_rfl) ?_ -- region 17 false
    refine rvc_prim C rfl rfl rfl rfl (trivial) rfl ?_
    refine rvc_prim C rfl rfl rfl rfl (trivial) rfl ?_
    refine rvc_prim C rfl rfl rfl rfl (trivial) rfl ?_
    refine rvc_nil ?_
    refine Awp.condT rfl (by simp; omega) ?_
    refine Awp.skip ?_
    refine Awp.block ?_
    refine Awp.region C (fun _ => .pure) (by kernel_rfl) ?_ -- region 18 false
    refine rvc_prim C rfl rfl rfl rfl (trivial) rfl ?_
    refine rvc_buildSliceF C (pI .u8 [0]) rfl rfl rfl rfl rfl (by decide) rfl rfl ?_
    refine rvc_append C rfl rfl rfl rfl rfl rfl rfl rfl (fun k h => by cases h) rfl rfl rfl (rfl) (by rw [cI_len, List.length_append, List.length_replicate]; show 0 + (List.length (refLast (D.drop (16 * ((D.length - 1) / 16)))) + i) * 1 ≤ _; omega) (rfl) (by show (2 * (List.length (refLast (D.drop (16 * ((D.length - 1) / 16)))) + i + 1) + 192) * 1 ≤ _; omega) (by omega) ?_
    refine rvc_prim C rfl rfl rfl rfl (trivial) rfl ?_
    refine rvc_nil ?_
    exact WeakerR.of hI ⟨rfl, rfl, rfl, rfl, sl_cast (by omega), trivial⟩ ⟨rfl, rfl, rfl, rfl, blk_cast ((app_next (A := (refLast (D.drop (16 * ((D.length - 1) / 16)))) ++ List.replicate i 0) rfl (by simp)).trans (by rw [List.append_assoc, ← List.replicate_succ'])), trivial⟩ rfl (by simp [Blk.within, cI_within]) rfl
  ·
    refine Awp.seq ?_
    refine Awp.cons C (fun _ => .pure) (by kernel_rfl) ?_ -- region 17 false
    refine rvc_prim C rfl rfl rfl rfl (trivial) rfl ?_
    refine rvc_prim C rfl rfl rfl rfl (trivial) rfl ?_
    refine rvc_prim C rfl rfl rfl rfl (trivial) rfl ?_
    refine rvc_nil ?_
    refine Awp.condF rfl (by simp; omega) ?_
    refine Awp.exit ?_
    refine Awp.weaken (S := [(4, .ptr 4 0), (6, .ptr 6 0), (8, .ptr 8 0), (9, .ptr 9 0), (10, .sl 100 0 (refLast (D.drop (16 * ((D.length - 1) / 16))) ++ List.replicate (16 - (refLast (D.drop (16 * ((D.length - 1) / 16)))).length) 0).length 1 false)]) (H := [(4, .cells (cI .u8 (tb 16 fun _ => 0))), (6, .cells (cI .u8 (tb 16 fun _ => 0))), (8, .cells (cI .u32 (tb 4 (stN (wordsF fun s => K.getD s 0) D ((D.length - 1) / 16))))), (9, .cells (cI .u32 (tb 4 (endF (wordsF fun s => K.getD s 0) D)))), (100, .cells (cI .u8 (refLast (D.drop (16 * ((D.length - 1) / 16))) ++ List.replicate (16 - (refLast (D.drop (16 * ((D.length - 1) / 16)))).length) 0)))]) (U := [4, 6, 8, 9, 100]) (Weaker.of hI ⟨rfl, rfl, rfl, rfl, sl_cast (by simp), trivial⟩ ⟨rfl, rfl, rfl, rfl, rfl, trivial⟩ rfl (by simp [Blk.within, cI_within])) ?_
    have hzl : (refLast (D.drop (16 * ((D.length - 1) / 16))) ++ List.replicate (16 - (refLast (D.drop (16 * ((D.length - 1) / 16)))).length) 0).length = 16 := by rw [List.length_append, List.length_replicate]; omega
    refine Awp.freeze 100 (pI .u8 (refLast (D.drop (16 * ((D.length - 1) / 16))) ++ List.replicate (16 - (refLast (D.drop (16 * ((D.length - 1) / 16)))).length) 0)) (by rw [pI_pv]; rfl) ([(4, .ptr 4 0), (6, .ptr 6 0), (8, .ptr 8 0), (9, .ptr 9 0), (10, sI (some false) .u8 (refLast (D.drop (16 * ((D.length - 1) / 16))) ++ List.replicate (16 - (refLast (D.drop (16 * ((D.length - 1) / 16)))).length) 0))]) [(4, .cells (cI .u8 (tb 16 fun _ => 0))), (6, .cells (cI .u8 (tb 16 fun _ => 0))), (8, .cells (cI .u32 (tb 4 (stN (wordsF fun s => K.getD s 0) D ((D.length - 1) / 16))))), (9, .cells (cI .u32 (tb 4 (endF (wordsF fun s => K.getD s 0) D))))] ?_ ?_ ?_
    · intro x hx
      simp only [List.mem_cons, List.not_mem_nil, or_false] at hx
      rcases hx with rfl | rfl | rfl | rfl | rfl
      · exact .inl rfl
      · exact .inl rfl
      · exact .inl rfl
      · exact .inl rfl
      · exact .inr ⟨_, _, _, rfl, rfl⟩
    · intro x hx
      simp only [List.mem_cons, List.not_mem_nil, or_false] at hx
      rcases hx with rfl | rfl | rfl | rfl <;> exact ⟨by simp, rfl⟩
    have hfour : PCalls Tryd.prog 55 [sI (some false) .u8 (refLast (D.drop (16 * ((D.length - 1) / 16))) ++ List.replicate (16 - (refLast (D.drop (16 * ((D.length - 1) / 16)))).length) 0)] (.agg (cI .u32 (tb 4 (wordsF (lastF D))))) := by
      have := four_calls (some false) (refLast (D.drop (16 * ((D.length - 1) / 16))) ++ List.replicate (16 - (refLast (D.drop (16 * ((D.length - 1) / 16)))).length) 0) (lz_R hRD) (by omega)
      rwa [tb_congr (n := 4) (g := wordsF (lastF D)) fun t ht => wordsF_congr (fun s hs => last_get D s hs) ht] at this
    refine Awp.consP C ?_
    refine rvc_prim C rfl rfl rfl rfl (trivial) rfl ?_
    refine rvc_prim C rfl rfl rfl rfl (trivial) rfl ?_
    refine rvc_call hP C rfl rfl rfl (hfour) ?_
    refine rvc_call hP C rfl rfl rfl (refXor_calls _ _) ?_
    refine rvc_prim C rfl rfl rfl rfl (trivial) rfl ?_
    refine rvc_call hP C rfl rfl rfl (refXor_calls _ _) ?_
    refine rvc_call hP C rfl rfl rfl (refStir_calls _ (fun t => R32.bit _ _ _)) ?_
    refine rvc_prim C rfl rfl rfl rfl (trivial) rfl ?_
    refine rvc_call hP C rfl rfl rfl (refXor_calls _ _) ?_
    refine rvc_prim C rfl rfl rfl rfl (trivial) rfl ?_ -- s0 store
    refine rvc_nil ?_
    refine Awp.seq ?_
    refine Awp.cons C (fun _ => .pure) (by kernel_rfl) ?_ -- region 20 false
    refine rvc_prim C rfl rfl rfl rfl (trivial) rfl ?_
    refine rvc_nil ?_
    refine Awp.block ?_
    generalize hF : (xorF (stirF (xorF (xorF (stN (wordsF fun s => K.getD s 0) D ((D.length - 1) / 16)) (wordsF (lastF D))) (endF (wordsF fun s => K.getD s 0) D))) (endF (wordsF fun s => K.getD s 0) D)) = F
    have hFR : R32s F := fun t => by rw [← hF]; exact R32.bit _ _ _
    refine Awp.forN (4) (fun i => [(4, .ptr 4 0), (6, .ptr 6 0), (8, .ptr 8 0), (66, .pv (.int .i64 i))]) (fun i => [(4, .cells (cI .u8 (tb 16 fun _ => 0))), (6, .cells (cI .u8 (tb 16 (bTab F (4 * i))))), (8, .cells (cI .u32 (tb 4 F)))]) [4, 6, 8] ?_ (fun i hi => ?_) ?_
    · exact Weaker.of hI ⟨rfl, rfl, rfl, rfl, trivial⟩ ⟨rfl, rfl, by rw [← hF]; rfl, trivial⟩ rfl (by simp [Blk.within, cI_within])
    ·
      refine Awp.cons C (fun _ => .pure) (by kernel_rfl) ?_ -- region 21 false
      refine rvc_prim C rfl rfl rfl rfl (trivial) rfl ?_
      refine rvc_nil ?_
      refine Awp.seq ?_
      refine Awp.condT rfl (by simp; omega) ?_
      refine Awp.skip ?_
      refine Awp.seq ?_
      refine Awp.block ?_
      refine Awp.cons C (fun _ => .pure) (by kernel_rfl) ?_ -- region 22 false
      refine rvc_prim C rfl rfl rfl rfl (trivial) rfl ?_
      refine rvc_prim C rfl rfl rfl rfl (trivial) rfl ?_
      refine rvc_nil ?_
      refine Awp.cons C (fun _ => .pure) (by kernel_rfl) ?_ -- region 23 false
      refine rvc_prim C rfl rfl rfl rfl (trivial) rfl ?_
      refine rvc_prim C rfl rfl rfl rfl (⟨by omega, by omega⟩) rfl ?_
      refine rvc_load C rfl rfl rfl rfl rfl (cI_at i (by show 0 + (i : Int).toNat * 1 = _; omega) (by omega)) ?_
      refine rvc_prim C rfl rfl rfl rfl (trivial) rfl ?_
      refine rvc_nil ?_
      refine Awp.cons C (fun _ => .pure) (by kernel_rfl) ?_ -- region 24 false
      refine rvc_prim C rfl rfl rfl rfl (trivial) rfl ?_
      refine rvc_nil ?_
      refine Awp.block ?_
      refine Awp.forN (4) (fun j => [(4, .ptr 4 0), (6, .ptr 6 0), (8, .ptr 8 0), (11, .pv (.int .i64 i)), (12, .pv (.int .u32 (divN (F i) j))), (66, .pv (.int .i64 i)), (72, .pv (.int .i64 j))]) (fun j => [(4, .cells (cI .u8 (tb 16 fun _ => 0))), (6, .cells (cI .u8 (tb 16 (bTab F (4 * i + j))))), (8, .cells (cI .u32 (tb 4 F)))]) [4, 6, 8] ?_ (fun j hj => ?_) ?_
      · exact Weaker.of hI ⟨rfl, rfl, rfl, rfl, rfl, rfl, rfl, trivial⟩ ⟨rfl, rfl, rfl, trivial⟩ rfl (by simp [Blk.within, cI_within])
      ·
        have m1 : IntKind.i64.wrap (4 * (i : Int)) = ((4 * i : Nat) : Int) := wrap_i64 (by omega) (by omega)
        have m2 : IntKind.i64.wrap (IntKind.i64.wrap (4 * (i : Int)) + (j : Int)) = ((4 * i + j : Nat) : Int) := by rw [m1]; exact wrap_i64 (by omega) (by omega)
        refine Awp.cons C (fun _ => .pure) (by kernel_rfl) ?_ -- region 25 false
        refine rvc_prim C rfl rfl rfl rfl (trivial) rfl ?_
        refine rvc_nil ?_
        refine Awp.seq ?_
        refine Awp.condT rfl (by simp; omega) ?_
        refine Awp.skip ?_
        refine Awp.seq ?_
        refine Awp.block ?_
        refine Awp.cons C (fun _ => .pure) (by kernel_rfl) ?_ -- region 26 false
        refine rvc_prim C rfl rfl rfl rfl (trivial) rfl ?_
        refine rvc_prim C rfl rfl rfl rfl (trivial) rfl ?_
        refine rvc_nil ?_
        refine Awp.cons C (fun _ => .pure) (by kernel_rfl) ?_ -- region 27 false
        refine rvc_prim C rfl rfl rfl rfl (trivial) rfl ?_
        refine rvc_prim C rfl rfl rfl rfl (trivial) rfl ?_
        refine rvc_prim C rfl rfl rfl rfl (trivial) rfl ?_
        refine rvc_prim C rfl rfl rfl rfl (trivial) rfl ?_
        refine rvc_prim C rfl rfl rfl rfl (trivial) rfl ?_
        refine rvc_prim C rfl rfl rfl rfl (by decide) rfl ?_
        refine rvc_prim C rfl rfl rfl rfl (trivial) rfl ?_
        refine rvc_prim C rfl rfl rfl rfl (⟨by rw [m2]; omega, by rw [m2]; omega⟩) rfl ?_
        refine rvc_store C rfl rfl rfl rfl rfl (by rw [cI_len, tb_len, m2]; show 0 + ((4 * i + j : Nat) : Int).toNat * 1 < 16; omega) ?_
        refine rvc_nil ?_
        refine Awp.region C (fun _ => .pure) (by kernel_rfl) ?_ -- region 28 false
        refine rvc_prim C rfl rfl rfl rfl (trivial) rfl ?_
        refine rvc_prim C rfl rfl rfl rfl (by decide) rfl ?_
        refine rvc_prim C rfl rfl rfl rfl (trivial) rfl ?_
        refine rvc_nil ?_
        refine Awp.region C (fun _ => .pure) (by kernel_rfl) ?_ -- region 29 false
        refine rvc_prim C rfl rfl rfl rfl (trivial) rfl ?_
        refine rvc_prim C rfl rfl rfl rfl (trivial) rfl ?_
        refine rvc_nil ?_
        refine Weaker.of hI ⟨rfl, rfl, rfl, rfl, rfl, rfl, lit_cast (wrap_i64 (by omega) (by omega)), trivial⟩ ⟨rfl, ?_, rfl, trivial⟩ rfl (by simp [Blk.within, cI_within])
        refine (congrArg (fun x => some (Blk.cells x)) (cI_set (4 * i + j) (by rw [m2]; show 0 + ((4 * i + j : Nat) : Int).toNat * 1 = _; omega))).trans (cells_cast fun t ht => ?_)
        simp only [bTab]
        by_cases h1 : t = 4 * i + j
        · subst h1
          have e1 : (4 * i + j) / 4 = i := by omega
          have e2 : (4 * i + j) % 4 = j := by omega
          rw [if_pos rfl, if_pos (by omega), byte_eq (hFR i) j hj]
          simp only [bytesF, e1, e2]
        · rw [if_neg h1]
          by_cases h2 : t < 4 * i + j
          · rw [if_pos h2, if_pos (by omega)]
          · rw [if_neg h2, if_neg (by omega)]
      ·
        refine Awp.cons C (fun _ => .pure) (by kernel_rfl) ?_ -- region 25 false
        refine rvc_prim C rfl rfl rfl rfl (trivial) rfl ?_
        refine rvc_nil ?_
        refine Awp.seq ?_
        refine Awp.condF rfl (by simp) ?_
        refine Awp.exit ?_
        refine Awp.region C (fun _ => .pure) (by kernel_rfl) ?_ -- region 30 false
        refine rvc_prim C rfl rfl rfl rfl (trivial) rfl ?_
        refine rvc_prim C rfl rfl rfl rfl (trivial) rfl ?_
        refine rvc_nil ?_
        exact Weaker.of hI ⟨rfl, rfl, rfl, lit_cast (wrap_i64 (by omega) (by omega)), trivial⟩ ⟨rfl, rfl, rfl, trivial⟩ rfl (by simp [Blk.within, cI_within])
    ·
      refine Awp.cons C (fun _ => .pure) (by kernel_rfl) ?_ -- region 21 false
      refine rvc_prim C rfl rfl rfl rfl (trivial) rfl ?_
      refine rvc_nil ?_
      refine Awp.seq ?_
      refine Awp.condF rfl (by simp) ?_
      refine Awp.exit ?_
      refine Awp.cons C (fun _ => .pure) (by kernel_rfl) ?_ -- region 31 false
      refine rvc_prim C rfl rfl rfl rfl (trivial) rfl ?_
      refine rvc_prim C rfl rfl rfl rfl (trivial) rfl ?_ -- s2 store
      refine rvc_prim C rfl rfl rfl rfl (trivial) rfl ?_
      refine rvc_nil ?_
      refine Awp.ret ?_
      refine ⟨.inl rfl, ?_⟩
      subst hF
      rfl
theorem sh_step {d : Nat → Int} (h : ∀ t, R8 (d t)) (i : Nat) : shN d (i + 1) = IntKind.u64.wrap (IntKind.u64.wrap (256 * shN d i) + IntKind.u64.wrap (d i)) := by
  rw [← (rs_eq h (i + 1)).1, rsN, (rs_eq h i).1]
theorem sh_val1 {d : Nat → Int} (h : ∀ t, R8 (d t)) : shN d 1 = 1 * d 0 := by
  rw [sh_step h 0]
  simp only [wrap_u64, shN]
  obtain ⟨a0, b0⟩ := h 0
  omega
theorem sh_val2 {d : Nat → Int} (h : ∀ t, R8 (d t)) : shN d 2 = 256 * d 0 + 1 * d 1 := by
  rw [sh_step h 1, sh_val1 h]
  simp only [wrap_u64]
  obtain ⟨a0, b0⟩ := h 0
  obtain ⟨a1, b1⟩ := h 1
  omega
theorem sh_val3 {d : Nat → Int} (h : ∀ t, R8 (d t)) : shN d 3 = 65536 * d 0 + 256 * d 1 + 1 * d 2 := by
  rw [sh_step h 2, sh_val2 h]
  simp only [wrap_u64]
  obtain ⟨a0, b0⟩ := h 0
  obtain ⟨a1, b1⟩ := h 1
  obtain ⟨a2, b2⟩ := h 2
  omega
theorem sh_val4 {d : Nat → Int} (h : ∀ t, R8 (d t)) : shN d 4 = 16777216 * d 0 + 65536 * d 1 + 256 * d 2 + 1 * d 3 := by
  rw [sh_step h 3, sh_val3 h]
  simp only [wrap_u64]
  obtain ⟨a0, b0⟩ := h 0
  obtain ⟨a1, b1⟩ := h 1
  obtain ⟨a2, b2⟩ := h 2
  obtain ⟨a3, b3⟩ := h 3
  omega
theorem sh_val5 {d : Nat → Int} (h : ∀ t, R8 (d t)) : shN d 5 = 4294967296 * d 0 + 16777216 * d 1 + 65536 * d 2 + 256 * d 3 + 1 * d 4 := by
  rw [sh_step h 4, sh_val4 h]
  simp only [wrap_u64]
  obtain ⟨a0, b0⟩ := h 0
  obtain ⟨a1, b1⟩ := h 1
  obtain ⟨a2, b2⟩ := h 2
  obtain ⟨a3, b3⟩ := h 3
  obtain ⟨a4, b4⟩ := h 4
  omega
theorem sh_val6 {d : Nat → Int} (h : ∀ t, R8 (d t)) : shN d 6 = 1099511627776 * d 0 + 4294967296 * d 1 + 16777216 * d 2 + 65536 * d 3 + 256 * d 4 + 1 * d 5 := by
  rw [sh_step h 5, sh_val5 h]
  simp only [wrap_u64]
  obtain ⟨a0, b0⟩ := h 0
  obtain ⟨a1, b1⟩ := h 1
  obtain ⟨a2, b2⟩ := h 2
  obtain ⟨a3, b3⟩ := h 3
  obtain ⟨a4, b4⟩ := h 4
  obtain ⟨a5, b5⟩ := h 5
  omega
theorem sh_val7 {d : Nat → Int} (h : ∀ t, R8 (d t)) : shN d 7 = 281474976710656 * d 0 + 1099511627776 * d 1 + 4294967296 * d 2 + 16777216 * d 3 + 65536 * d 4 + 256 * d 5 + 1 * d 6 := by
  rw [sh_step h 6, sh_val6 h]
  simp only [wrap_u64]
  obtain ⟨a0, b0⟩ := h 0
  obtain ⟨a1, b1⟩ := h 1
  obtain ⟨a2, b2⟩ := h 2
  obtain ⟨a3, b3⟩ := h 3
  obtain ⟨a4, b4⟩ := h 4
  obtain ⟨a5, b5⟩ := h 5
  obtain ⟨a6, b6⟩ := h 6
  omega
theorem sh_val8 {d : Nat → Int} (h : ∀ t, R8 (d t)) : shN d 8 = 72057594037927936 * d 0 + 281474976710656 * d 1 + 1099511627776 * d 2 + 4294967296 * d 3 + 16777216 * d 4 + 65536 * d 5 + 256 * d 6 + 1 * d 7 := by
  rw [sh_step h 7, sh_val7 h]
  simp only [wrap_u64]
  obtain ⟨a0, b0⟩ := h 0
  obtain ⟨a1, b1⟩ := h 1
  obtain ⟨a2, b2⟩ := h 2
  obtain ⟨a3, b3⟩ := h 3
  obtain ⟨a4, b4⟩ := h 4
  obtain ⟨a5, b5⟩ := h 5
  obtain ⟨a6, b6⟩ := h 6
  obtain ⟨a7, b7⟩ := h 7
  omega
theorem sh_byte {d : Nat → Int} (h : ∀ t, R8 (d t)) (i : Nat) (hi : i < 8) : IntKind.u8.wrap (shrI .u64 (shN d 8) ((56 - 8 * i : Nat) : Int)) = d i := by
  rw [sh_val8 h, wrap_u8]
  obtain ⟨a0, b0⟩ := h 0
  obtain ⟨a1, b1⟩ := h 1
  obtain ⟨a2, b2⟩ := h 2
  obtain ⟨a3, b3⟩ := h 3
  obtain ⟨a4, b4⟩ := h 4
  obtain ⟨a5, b5⟩ := h 5
  obtain ⟨a6, b6⟩ := h 6
  obtain ⟨a7, b7⟩ := h 7
  rcases (by omega : i = 0 ∨ i = 1 ∨ i = 2 ∨ i = 3 ∨ i = 4 ∨ i = 5 ∨ i = 6 ∨ i = 7) with rfl | rfl | rfl | rfl | rfl | rfl | rfl | rfl
  · show _ / (72057594037927936 : Int) % 256 = _; omega
  · show _ / (281474976710656 : Int) % 256 = _; omega
  · show _ / (1099511627776 : Int) % 256 = _; omega
  · show _ / (4294967296 : Int) % 256 = _; omega
  · show _ / (16777216 : Int) % 256 = _; omega
  · show _ / (65536 : Int) % 256 = _; omega
  · show _ / (256 : Int) % 256 = _; omega
  · show _ / (1 : Int) % 256 = _; omega
theorem bytes_R8 (k : Nat → Int) (t : Nat) : R8 (bytesF k t) := by
  simp only [bytesF, wrap_u8]; constructor <;> omega
theorem ofF_R8 (K D : List Int) (t : Nat) : R8 (ofF K D t) := bytes_R8 _ t
structure Reader where
  b : (Sl Int)
  at_ : Int
  err : Int
  made : Bool
  deriving Inhabited
def rdErr (r : Reader) : Int :=
  (bif (!r.made) then 6 else r.err)
theorem rdErr_calls (r : Reader)  : MCalls Tryd.prog 60 [.ptr 0 0] (.cells [sS (some r.b.nil) (eI .u8) r.b.D, .pv (.lit (.int .i64 r.at_)), .pv (.lit (.int .i64 r.err)), .pv (.lit (.bool r.made))]) (.pv (.lit (.int .i64 (rdErr r)))) (.cells [sS (some r.b.nil) (eI .u8) r.b.D, .pv (.lit (.int .i64 r.at_)), .pv (.lit (.int .i64 r.err)), .pv (.lit (.bool r.made))]) := by
 generalize hR : rdErr r = R
 refine MCalls.of_body tabOk Tryd.func60 rfl rfl rfl rfl rfl rfl rfl mixed fun E hP C hI => ?_
 refine Awp.consP C ?_
 refine rvP C (.pv (.lit (.int .i64 0))) ?_
 refine rvc_nil ?_
 refine Awp.seq ?_
 refine Awp.consP C ?_
 refine rvP C (.ptr 0 0) ?_
 refine rvc_un (rexec_eqPtr C false true (z := .pv (.lit (.bool false))) rfl rfl rfl rfl rfl rfl rfl rfl rfl ?_)
 refine rvP C (.pv (.lit (.bool false))) ?_
 refine rvO C (.ptr 0 0) ?_
 refine rvO C (.ptr 0 0) ?_
 refine rvO C (.ptr 0 3) ?_
 refine rvO C (.pv (.lit (.bool r.made))) ?_
 refine rvO C (.pv (.lit (.bool (!r.made)))) ?_
 refine rvP C (.pv (.lit (.bool (!r.made)))) ?_
 refine rvc_nil ?_
 refine Awp.cond (b := (!r.made)) rfl (fun h1 => ?_) (fun h1 => ?_)
 ·
  replace hR := of_true h1 hR
  refine Awp.consP C ?_
  refine rvP C (.pv (.lit (.int .i64 6))) ?_
  refine rvc_nil ?_
  refine Awp.ret ?_
  subst hR
  exact ⟨.inl rfl, rfl, rfl⟩
 ·
  replace hR := of_false h1 hR
  refine Awp.skip ?_
  refine Awp.consP C ?_
  refine rvP C (.ptr 0 0) ?_
  refine rvP C (.ptr 0 0) ?_
  refine rvP C (.ptr 0 2) ?_
  refine rvP C (.pv (.lit (.int .i64 r.err))) ?_
  refine rvP C (.pv (.lit (.int .i64 r.err))) ?_
  refine rvc_nil ?_
  refine Awp.ret ?_
  subst hR
  exact ⟨.inl rfl, rfl, rfl⟩
def rdEnd (r : Reader) : Int :=
  (bif ((rdErr r) != 0) then (rdErr r) else (bif (decide (r.at_ < (r.b.D.length : Int))) then 3 else 0))
theorem rdEnd_calls (r : Reader)  : MCalls Tryd.prog 41 [.ptr 0 0] (.cells [sS (some r.b.nil) (eI .u8) r.b.D, .pv (.lit (.int .i64 r.at_)), .pv (.lit (.int .i64 r.err)), .pv (.lit (.bool r.made))]) (.pv (.lit (.int .i64 (rdEnd r)))) (.cells [sS (some r.b.nil) (eI .u8) r.b.D, .pv (.lit (.int .i64 r.at_)), .pv (.lit (.int .i64 r.err)), .pv (.lit (.bool r.made))]) := by
 generalize hR : rdEnd r = R
 refine MCalls.of_body tabOk Tryd.func41 rfl rfl rfl rfl rfl rfl rfl mixed fun E hP C hI => ?_
 refine Awp.consP C ?_
 refine rvP C (.pv (.lit (.int .i64 0))) ?_
 refine rvc_nil ?_
 refine Awp.seq ?_
 refine Awp.cons C (fun _ => .writer) (by kernel_rfl) ?_
 refine rvP C (.ptr 0 0) ?_
 refine rvc_un (rexec_callM hP C (b := 0) rfl rfl rfl (rdErr_calls r) rfl rfl ?_)
 refine rvP C (.pv (.lit (.int .i64 (rdErr r)))) ?_
 refine rvc_nil ?_
 refine Awp.consP C ?_
 refine rvP C (.pv (.lit (.int .i64 (rdErr r)))) ?_
 refine rvP C (.pv (.lit (.bool ((rdErr r) != 0)))) ?_
 refine rvc_nil ?_
 refine Awp.cond (b := ((rdErr r) != 0)) rfl (fun h1 => ?_) (fun h1 => ?_)
 ·
  replace hR := of_true h1 hR
  refine Awp.consP C ?_
  refine rvP C (.pv (.lit (.int .i64 (rdErr r)))) ?_
  refine rvP C (.pv (.lit (.int .i64 (rdErr r)))) ?_
  refine rvc_nil ?_
  refine Awp.ret ?_
  subst hR
  exact ⟨.inl rfl, rfl, rfl⟩
 ·
  replace hR := of_false h1 hR
  refine Awp.skip ?_
  refine Awp.seq ?_
  refine Awp.consP C ?_
  refine rvP C (.ptr 0 0) ?_
  refine rvP C (.ptr 0 0) ?_
  refine rvP C (.ptr 0 1) ?_
  refine rvP C (.pv (.lit (.int .i64 r.at_))) ?_
  refine rvP C (.ptr 0 0) ?_
  refine rvP C (.ptr 0 0) ?_
  refine rvP C (.ptr 0 0) ?_
  refine rvP C (sS (some r.b.nil) (eI .u8) r.b.D) ?_
  refine rvP C (.pv (.lit (.int .i64 (r.b.D.length : Int)))) ?_
  refine rvP C (.pv (.lit (.bool (decide (r.at_ < (r.b.D.length : Int)))))) ?_
  refine rvc_nil ?_
  refine Awp.cond (b := (decide (r.at_ < (r.b.D.length : Int)))) rfl (fun h2 => ?_) (fun h2 => ?_)
  ·
   replace hR := of_true h2 hR
   refine Awp.consP C ?_
   refine rvP C (.pv (.lit (.int .i64 3))) ?_
   refine rvc_nil ?_
   refine Awp.ret ?_
   subst hR
   exact ⟨.inl rfl, rfl, rfl⟩
  ·
   replace hR := of_false h2 hR
   refine Awp.skip ?_
   refine Awp.consP C ?_
   refine rvP C (.pv (.lit (.int .i64 0))) ?_
   refine rvc_nil ?_
   refine Awp.ret ?_
   subst hR
   exact ⟨.inl rfl, rfl, rfl⟩
def rdLeft (r : Reader) : Int :=
  (bif ((rdErr r) == 6) then 0 else (IntKind.i64.wrap ((r.b.D.length : Int) - r.at_)))
theorem rdLeft_calls (r : Reader)  : MCalls Tryd.prog 59 [.ptr 0 0] (.cells [sS (some r.b.nil) (eI .u8) r.b.D, .pv (.lit (.int .i64 r.at_)), .pv (.lit (.int .i64 r.err)), .pv (.lit (.bool r.made))]) (.pv (.lit (.int .i64 (rdLeft r)))) (.cells [sS (some r.b.nil) (eI .u8) r.b.D, .pv (.lit (.int .i64 r.at_)), .pv (.lit (.int .i64 r.err)), .pv (.lit (.bool r.made))]) := by
 generalize hR : rdLeft r = R
 refine MCalls.of_body tabOk Tryd.func59 rfl rfl rfl rfl rfl rfl rfl mixed fun E hP C hI => ?_
 refine Awp.consP C ?_
 refine rvP C (.pv (.lit (.int .i64 0))) ?_
 refine rvc_nil ?_
 refine Awp.seq ?_
 refine Awp.cons C (fun _ => .writer) (by kernel_rfl) ?_
 refine rvP C (.ptr 0 0) ?_
 refine rvc_un (rexec_callM hP C (b := 0) rfl rfl rfl (rdErr_calls r) rfl rfl ?_)
 refine rvP C (.pv (.lit (.bool ((rdErr r) == 6)))) ?_
 refine rvc_nil ?_
 refine Awp.cond (b := ((rdErr r) == 6)) rfl (fun h1 => ?_) (fun h1 => ?_)
 ·
  replace hR := of_true h1 hR
  refine Awp.consP C ?_
  refine rvP C (.pv (.lit (.int .i64 0))) ?_
  refine rvc_nil ?_
  refine Awp.ret ?_
  subst hR
  exact ⟨.inl rfl, rfl, rfl⟩
 ·
  replace hR := of_false h1 hR
  refine Awp.skip ?_
  refine Awp.consP C ?_
  refine rvP C (.ptr 0 0) ?_
  refine rvP C (.ptr 0 0) ?_
  refine rvP C (.ptr 0 0) ?_
  refine rvP C (sS (some r.b.nil) (eI .u8) r.b.D) ?_
  refine rvP C (.pv (.lit (.int .i64 (r.b.D.length : Int)))) ?_
  refine rvP C (.ptr 0 0) ?_
  refine rvP C (.ptr 0 0) ?_
  refine rvP C (.ptr 0 1) ?_
  refine rvP C (.pv (.lit (.int .i64 r.at_))) ?_
  refine rvP C (.pv (.lit (.int .i64 (IntKind.i64.wrap ((r.b.D.length : Int) - r.at_))))) ?_
  refine rvP C (.pv (.lit (.int .i64 (IntKind.i64.wrap ((r.b.D.length : Int) - r.at_))))) ?_
  refine rvc_nil ?_
  refine Awp.ret ?_
  subst hR
  exact ⟨.inl rfl, rfl, rfl⟩
def rdStop (r : Reader) (at_ : Int) (e_ : Int) : Reader :=
  (bif (r.err == 0) then (Reader.mk r.b at_ e_ r.made) else r)
theorem rdStop_calls (r : Reader) (at_ : Int) (e_ : Int)  : MCalls Tryd.prog 61 [.ptr 0 0, .pv (.lit (.int .i64 at_)), .pv (.lit (.int .i64 e_))] (.cells [sS (some r.b.nil) (eI .u8) r.b.D, .pv (.lit (.int .i64 r.at_)), .pv (.lit (.int .i64 r.err)), .pv (.lit (.bool r.made))]) (.tup []) (.cells [sS (some (rdStop r at_ e_).b.nil) (eI .u8) ((rdStop r at_ e_).b.D), .pv (.lit (.int .i64 ((rdStop r at_ e_).at_))), .pv (.lit (.int .i64 ((rdStop r at_ e_).err))), .pv (.lit (.bool ((rdStop r at_ e_).made)))]) := by
 generalize hR : rdStop r at_ e_ = R
 refine MCalls.of_body tabOk Tryd.func61 rfl rfl rfl rfl rfl rfl rfl mixed fun E hP C hI => ?_
 refine Awp.consP C ?_
 refine rvP C (.ptr 0 0) ?_
 refine rvP C (.ptr 0 0) ?_
 refine rvP C (.ptr 0 2) ?_
 refine rvP C (.pv (.lit (.int .i64 r.err))) ?_
 refine rvP C (.pv (.lit (.bool (r.err == 0)))) ?_
 refine rvc_nil ?_
 refine Awp.cond (b := (r.err == 0)) rfl (fun h1 => ?_) (fun h1 => ?_)
 ·
  replace hR := of_true h1 hR
  refine Awp.regionP C ?_
  refine rvP C (.ptr 0 0) ?_
  refine rvP C (.ptr 0 0) ?_
  refine rvP C (.pv (.lit (.int .i64 at_))) ?_
  refine rvP C (.pv (.lit (.int .i64 e_))) ?_
  refine rvP C (.ptr 0 0) ?_
  refine rvP C (.ptr 0 1) ?_
  refine rvc_un (rexec_prim C (δ := { v := .undef, wr := [(0, some (.cells [sS (some r.b.nil) (eI .u8) r.b.D, .pv (.lit (.int .i64 at_)), .pv (.lit (.int .i64 r.err)), .pv (.lit (.bool r.made))]))] }) rfl rfl rfl rfl trivial rfl ?_)
  refine rvP C (.ptr 0 0) ?_
  refine rvP C (.ptr 0 2) ?_
  refine rvc_un (rexec_prim C (δ := { v := .undef, wr := [(0, some (.cells [sS (some r.b.nil) (eI .u8) r.b.D, .pv (.lit (.int .i64 at_)), .pv (.lit (.int .i64 e_)), .pv (.lit (.bool r.made))]))] }) rfl rfl rfl rfl trivial rfl ?_)
  refine rvc_nil ?_
  subst hR
  exact ⟨.inr rfl, rfl, rfl⟩
 ·
  replace hR := of_false h1 hR
  refine Awp.skip ?_
  subst hR
  exact ⟨.inr rfl, rfl, rfl⟩
def rdNum_l0 (r : Reader) : Nat → Int → Int → Reader → Reader × Int
  | 0, _, _, _ => default
  | nn + 1, n, shift, vc => (bif (vc.at_ == (vc.b.D.length : Int)) then ((rdStop vc r.at_ 2), 0) else (bif (shift == 63) then (bif (decide ((IntKind.u64.wrap (bitI .and .u8 (vc.b.D[vc.at_.toNat]!) 127)) > 1)) then ((rdStop (Reader.mk vc.b (IntKind.i64.wrap (vc.at_ + 1)) vc.err vc.made) r.at_ 5), 0) else (bif (decide (shift > 63)) then ((rdStop (Reader.mk vc.b (IntKind.i64.wrap (vc.at_ + 1)) vc.err vc.made) r.at_ 5), 0) else (bif ((vc.b.D[vc.at_.toNat]!) == 0) then (bif (decide (shift > 0)) then ((rdStop (Reader.mk vc.b (IntKind.i64.wrap (vc.at_ + 1)) vc.err vc.made) r.at_ 10), 0) else (bif (decide ((vc.b.D[vc.at_.toNat]!) < 128)) then ((Reader.mk vc.b (IntKind.i64.wrap (vc.at_ + 1)) vc.err vc.made), (bitI .or .u64 n (shlI .u64 (IntKind.u64.wrap (bitI .and .u8 (vc.b.D[vc.at_.toNat]!) 127)) shift))) else rdNum_l0 r nn (bitI .or .u64 n (shlI .u64 (IntKind.u64.wrap (bitI .and .u8 (vc.b.D[vc.at_.toNat]!) 127)) shift)) (IntKind.i64.wrap (shift + 7)) (Reader.mk vc.b (IntKind.i64.wrap (vc.at_ + 1)) vc.err vc.made))) else (bif (decide ((vc.b.D[vc.at_.toNat]!) < 128)) then ((Reader.mk vc.b (IntKind.i64.wrap (vc.at_ + 1)) vc.err vc.made), (bitI .or .u64 n (shlI .u64 (IntKind.u64.wrap (bitI .and .u8 (vc.b.D[vc.at_.toNat]!) 127)) shift))) else rdNum_l0 r nn (bitI .or .u64 n (shlI .u64 (IntKind.u64.wrap (bitI .and .u8 (vc.b.D[vc.at_.toNat]!) 127)) shift)) (IntKind.i64.wrap (shift + 7)) (Reader.mk vc.b (IntKind.i64.wrap (vc.at_ + 1)) vc.err vc.made))))) else (bif (decide (shift > 63)) then ((rdStop (Reader.mk vc.b (IntKind.i64.wrap (vc.at_ + 1)) vc.err vc.made) r.at_ 5), 0) else (bif ((vc.b.D[vc.at_.toNat]!) == 0) then (bif (decide (shift > 0)) then ((rdStop (Reader.mk vc.b (IntKind.i64.wrap (vc.at_ + 1)) vc.err vc.made) r.at_ 10), 0) else (bif (decide ((vc.b.D[vc.at_.toNat]!) < 128)) then ((Reader.mk vc.b (IntKind.i64.wrap (vc.at_ + 1)) vc.err vc.made), (bitI .or .u64 n (shlI .u64 (IntKind.u64.wrap (bitI .and .u8 (vc.b.D[vc.at_.toNat]!) 127)) shift))) else rdNum_l0 r nn (bitI .or .u64 n (shlI .u64 (IntKind.u64.wrap (bitI .and .u8 (vc.b.D[vc.at_.toNat]!) 127)) shift)) (IntKind.i64.wrap (shift + 7)) (Reader.mk vc.b (IntKind.i64.wrap (vc.at_ + 1)) vc.err vc.made))) else (bif (decide ((vc.b.D[vc.at_.toNat]!) < 128)) then ((Reader.mk vc.b (IntKind.i64.wrap (vc.at_ + 1)) vc.err vc.made), (bitI .or .u64 n (shlI .u64 (IntKind.u64.wrap (bitI .and .u8 (vc.b.D[vc.at_.toNat]!) 127)) shift))) else rdNum_l0 r nn (bitI .or .u64 n (shlI .u64 (IntKind.u64.wrap (bitI .and .u8 (vc.b.D[vc.at_.toNat]!) 127)) shift)) (IntKind.i64.wrap (shift + 7)) (Reader.mk vc.b (IntKind.i64.wrap (vc.at_ + 1)) vc.err vc.made))))))
def rdNum (r : Reader) : Reader × Int :=
  (bif ((rdErr r) != 0) then (r, 0) else rdNum_l0 r ((r.b.D.length - r.at_.toNat) + 1) 0 0 r)
theorem rdNum_calls (r : Reader) (hk : (0 ≤ r.at_ ∧ r.at_ ≤ (r.b.D.length : Int)) ∧ r.b.D.length ≤ 1000000) : MCalls Tryd.prog 40 [.ptr 0 0] (.cells [sS (some r.b.nil) (eI .u8) r.b.D, .pv (.lit (.int .i64 r.at_)), .pv (.lit (.int .i64 r.err)), .pv (.lit (.bool r.made))]) (.pv (.lit (.int .u64 ((rdNum r).2)))) (.cells [sS (some (rdNum r).1.b.nil) (eI .u8) ((rdNum r).1.b.D), .pv (.lit (.int .i64 ((rdNum r).1.at_))), .pv (.lit (.int .i64 ((rdNum r).1.err))), .pv (.lit (.bool ((rdNum r).1.made)))]) := by
 generalize hR : rdNum r = R
 refine MCalls.of_body tabOk Tryd.func40 rfl rfl rfl rfl rfl rfl rfl mixed fun E hP C hI => ?_
 refine Awp.consP C ?_
 refine rvP C (.pv (.lit (.int .u64 0))) ?_
 refine rvc_nil ?_
 refine Awp.seq ?_
 refine Awp.cons C (fun _ => .writer) (by kernel_rfl) ?_
 refine rvP C (.ptr 0 0) ?_
 refine rvc_un (rexec_callM hP C (b := 0) rfl rfl rfl (rdErr_calls r) rfl rfl ?_)
 refine rvP C (.pv (.lit (.bool ((rdErr r) != 0)))) ?_
 refine rvc_nil ?_
 refine Awp.cond (b := ((rdErr r) != 0)) rfl (fun h1 => ?_) (fun h1 => ?_)
 ·
  replace hR := of_true h1 hR
  refine Awp.consP C ?_
  refine rvP C (.pv (.lit (.int .u64 0))) ?_
  refine rvc_nil ?_
  refine Awp.ret ?_
  subst hR
  exact ⟨.inl rfl, rfl, rfl⟩
 ·
  replace hR := of_false h1 hR
  refine Awp.skip ?_
  refine Awp.consP C ?_
  refine rvP C (.ptr 0 0) ?_
  refine rvP C (.ptr 0 0) ?_
  refine rvP C (.ptr 0 1) ?_
  refine rvP C (.pv (.lit (.int .i64 r.at_))) ?_
  refine rvP C (.pv (.lit (.int .u64 0))) ?_
  refine rvP C (.pv (.lit (.int .i64 r.at_))) ?_
  refine rvc_nil ?_
  refine Awp.consP C ?_
  refine rvP C (.pv (.lit (.int .i64 0))) ?_
  refine rvc_nil ?_
  refine Awp.block ?_
  refine Awp.forM (σ := Int × Int × Reader) (fun v => [(0, .ptr 0 0), (3, .pv (.lit (.int .u64 v.1))), (4, .pv (.lit (.int .i64 r.at_))), (5, .pv (.lit (.int .i64 v.2.1)))]) (fun v => [(0, .cells [sS (some v.2.2.b.nil) (eI .u8) v.2.2.b.D, .pv (.lit (.int .i64 v.2.2.at_)), .pv (.lit (.int .i64 v.2.2.err)), .pv (.lit (.bool v.2.2.made))])]) [0] (fun n v => n = (v.2.2.b.D.length - v.2.2.at_.toNat) ∧ rdNum_l0 r ((v.2.2.b.D.length - v.2.2.at_.toNat) + 1) v.1 v.2.1 v.2.2 = R ∧ (((0 ≤ v.2.2.at_ ∧ v.2.2.at_ ≤ (v.2.2.b.D.length : Int)) ∧ v.2.2.b.D.length ≤ 1000000) ∧ 0 ≤ v.2.1 ∧ v.2.1 ≤ 70)) ((r.b.D.length - r.at_.toNat)) (0, 0, r) ?_ ?_ (fun _ v h2 => ?_)
  · exact ⟨rfl, hR, ⟨hk, (by dsimp only; omega)⟩⟩
  · exact ⟨fun b => b, WeakerR.ofLI (I := [0]) (Ks := [0]) hI ⟨⟨rfl, rfl⟩, ⟨rfl, rfl⟩, ⟨rfl, rfl⟩, ⟨rfl, rfl⟩, trivial⟩ (okH_cons rfl rfl rfl rfl (okH_nil)) rfl rfl⟩
  obtain ⟨n, shift, vc⟩ := v
  obtain ⟨rfl, hR, ⟨hVk, hVs⟩⟩ := h2
  replace hVk : (0 ≤ vc.at_ ∧ vc.at_ ≤ (vc.b.D.length : Int)) ∧ vc.b.D.length ≤ 1000000 := hVk
  replace hVs : 0 ≤ shift ∧ shift ≤ 70 := hVs
  refine Awp.seq ?_
  refine Awp.block ?_
  refine Awp.seq ?_
  refine Awp.consP C ?_
  refine rvP C (.ptr 0 0) ?_
  refine rvP C (.ptr 0 0) ?_
  refine rvP C (.ptr 0 1) ?_
  refine rvP C (.pv (.lit (.int .i64 vc.at_))) ?_
  refine rvP C (.ptr 0 0) ?_
  refine rvP C (.ptr 0 0) ?_
  refine rvP C (.ptr 0 0) ?_
  refine rvP C (sS (some vc.b.nil) (eI .u8) vc.b.D) ?_
  refine rvP C (.pv (.lit (.int .i64 (vc.b.D.length : Int)))) ?_
  refine rvP C (.pv (.lit (.bool (vc.at_ == (vc.b.D.length : Int))))) ?_
  refine rvc_nil ?_
  refine Awp.cond (b := (vc.at_ == (vc.b.D.length : Int))) rfl (fun h4 => ?_) (fun h4 => ?_)
  ·
   replace hR := of_true h4 hR
   refine Awp.cons C (fun _ => .writer) (by kernel_rfl) ?_
   refine rvP C (.ptr 0 0) ?_
   refine rvP C (.pv (.lit (.int .i64 r.at_))) ?_
   refine rvc_un (rexec_callM hP C (b := 0) rfl rfl rfl (rdStop_calls vc r.at_ 2) rfl rfl ?_)
   refine rvc_nil ?_
   refine Awp.consP C ?_
   refine rvP C (.pv (.lit (.int .u64 0))) ?_
   refine rvc_nil ?_
   refine Awp.ret ?_
   subst hR
   exact ⟨.inl rfl, rfl, rfl⟩
  ·
   replace hR := of_false h4 hR
   refine Awp.skip ?_
   refine Awp.consP C ?_
   refine rvP C (.ptr 0 0) ?_
   refine rvP C (.ptr 0 0) ?_
   refine rvP C (.ptr 0 0) ?_
   refine rvP C (sS (some vc.b.nil) (eI .u8) vc.b.D) ?_
   refine rvP C (.ptr 0 0) ?_
   refine rvP C (.ptr 0 0) ?_
   refine rvP C (.ptr 0 1) ?_
   refine rvP C (.pv (.lit (.int .i64 vc.at_))) ?_
   have h5 : vc.b.D[vc.at_.toNat]? = some vc.b.D[vc.at_.toNat]! := getE (by have := ne_of_beq_false ‹(vc.at_ == (vc.b.D.length : Int)) = false›; omega)
   refine rvc_un (rexec_idxS C rfl rfl rfl rfl rfl rfl (vc.b.D[vc.at_.toNat]!) (by have := eq_of_bne_false h1; have := ne_of_beq_false h4; omega) h5 ?_)
   refine rvP C (.pv (.lit (.int .u8 (vc.b.D[vc.at_.toNat]!)))) ?_
   refine rvP C (.pv (.lit (.int .u8 (vc.b.D[vc.at_.toNat]!)))) ?_
   refine rvc_nil ?_
   refine Awp.consP C ?_
   refine rvP C (.ptr 0 0) ?_
   refine rvP C (.ptr 0 0) ?_
   refine rvP C (.ptr 0 1) ?_
   refine rvP C (.pv (.lit (.int .i64 vc.at_))) ?_
   refine rvP C (.pv (.lit (.int .i64 (IntKind.i64.wrap (vc.at_ + 1))))) ?_
   refine rvP C (.ptr 0 0) ?_
   refine rvP C (.ptr 0 1) ?_
   refine rvc_un (rexec_prim C (δ := { v := .undef, wr := [(0, some (.cells [sS (some vc.b.nil) (eI .u8) vc.b.D, .pv (.lit (.int .i64 (IntKind.i64.wrap (vc.at_ + 1)))), .pv (.lit (.int .i64 vc.err)), .pv (.lit (.bool vc.made))]))] }) rfl rfl rfl rfl trivial rfl ?_)
   refine rvc_nil ?_
   refine Awp.consP C ?_
   refine rvP C (.pv (.lit (.int .u8 (vc.b.D[vc.at_.toNat]!)))) ?_
   refine rvP C (.pv (.lit (.int .u8 (bitI .and .u8 (vc.b.D[vc.at_.toNat]!) 127)))) ?_
   refine rvP C (.pv (.lit (.int .u64 (IntKind.u64.wrap (bitI .and .u8 (vc.b.D[vc.at_.toNat]!) 127))))) ?_
   refine rvP C (.pv (.lit (.int .u64 (IntKind.u64.wrap (bitI .and .u8 (vc.b.D[vc.at_.toNat]!) 127))))) ?_
   refine rvc_nil ?_
   refine Awp.seq ?_
   refine Awp.block ?_
   refine Awp.consP C ?_
   refine rvP C (.pv (.lit (.int .i64 shift))) ?_
   refine rvP C (.pv (.lit (.bool (shift == 63)))) ?_
   refine rvP C (.pv (.lit (.bool (shift == 63)))) ?_
   refine rvc_case 53 (shift == 63) rfl (fun h6 => ?_) (fun h6 => ?_)
   ·
    replace hR := of_true h6 hR
    refine rvO C (.pv (.lit (.int .u64 (IntKind.u64.wrap (bitI .and .u8 (vc.b.D[vc.at_.toNat]!) 127))))) ?_
    refine rvO C (.pv (.lit (.bool (decide ((IntKind.u64.wrap (bitI .and .u8 (vc.b.D[vc.at_.toNat]!) 127)) > 1))))) ?_
    refine rvP C (.pv (.lit (.bool (decide ((IntKind.u64.wrap (bitI .and .u8 (vc.b.D[vc.at_.toNat]!) 127)) > 1))))) ?_
    refine rvP C (.pv (.lit (.bool (decide ((IntKind.u64.wrap (bitI .and .u8 (vc.b.D[vc.at_.toNat]!) 127)) > 1))))) ?_
    refine rvc_case 57 (decide ((IntKind.u64.wrap (bitI .and .u8 (vc.b.D[vc.at_.toNat]!) 127)) > 1)) rfl (fun h7 => ?_) (fun h7 => ?_)
    ·
     replace hR := of_true h7 hR
     refine rvS ?_
     refine rvS ?_
     refine rvP C (.pv (.lit (.bool true))) ?_
     refine rvP C (.pv (.lit (.bool true))) ?_
     refine rvc_nil ?_
     refine Awp.condT (b := true) rfl rfl ?_
     refine Awp.cons C (fun _ => .writer) (by kernel_rfl) ?_
     refine rvP C (.ptr 0 0) ?_
     refine rvP C (.pv (.lit (.int .i64 r.at_))) ?_
     refine rvc_un (rexec_callM hP C (b := 0) rfl rfl rfl (rdStop_calls (Reader.mk vc.b (IntKind.i64.wrap (vc.at_ + 1)) vc.err vc.made) r.at_ 5) rfl rfl ?_)
     refine rvc_nil ?_
     refine Awp.consP C ?_
     refine rvP C (.pv (.lit (.int .u64 0))) ?_
     refine rvc_nil ?_
     refine Awp.ret ?_
     subst hR
     exact ⟨.inl rfl, rfl, rfl⟩
    ·
     replace hR := of_false h7 hR
     refine rvO C (.pv (.lit (.int .i64 shift))) ?_
     refine rvO C (.pv (.lit (.bool (decide (shift > 63))))) ?_
     refine rvP C (.pv (.lit (.bool (decide (shift > 63))))) ?_
     refine rvP C (.pv (.lit (.bool (decide (shift > 63))))) ?_
     refine rvc_nil ?_
     refine Awp.cond (b := (decide (shift > 63))) rfl (fun h8 => ?_) (fun h8 => ?_)
     ·
      replace hR := of_true h8 hR
      refine Awp.cons C (fun _ => .writer) (by kernel_rfl) ?_
      refine rvP C (.ptr 0 0) ?_
      refine rvP C (.pv (.lit (.int .i64 r.at_))) ?_
      refine rvc_un (rexec_callM hP C (b := 0) rfl rfl rfl (rdStop_calls (Reader.mk vc.b (IntKind.i64.wrap (vc.at_ + 1)) vc.err vc.made) r.at_ 5) rfl rfl ?_)
      refine rvc_nil ?_
      refine Awp.consP C ?_
      refine rvP C (.pv (.lit (.int .u64 0))) ?_
      refine rvc_nil ?_
      refine Awp.ret ?_
      subst hR
      exact ⟨.inl rfl, rfl, rfl⟩
     ·
      replace hR := of_false h8 hR
      refine Awp.consP C ?_
      refine rvP C (.pv (.lit (.int .u8 (vc.b.D[vc.at_.toNat]!)))) ?_
      refine rvP C (.pv (.lit (.bool ((vc.b.D[vc.at_.toNat]!) == 0)))) ?_
      refine rvP C (.pv (.lit (.bool ((vc.b.D[vc.at_.toNat]!) == 0)))) ?_
      refine rvc_case 67 ((vc.b.D[vc.at_.toNat]!) == 0) rfl (fun h9 => ?_) (fun h9 => ?_)
      ·
       replace hR := of_true h9 hR
       refine rvO C (.pv (.lit (.int .i64 shift))) ?_
       refine rvO C (.pv (.lit (.bool (decide (shift > 0))))) ?_
       refine rvP C (.pv (.lit (.bool (decide (shift > 0))))) ?_
       refine rvP C (.pv (.lit (.bool (decide (shift > 0))))) ?_
       refine rvc_nil ?_
       refine Awp.cond (b := (decide (shift > 0))) rfl (fun h10 => ?_) (fun h10 => ?_)
       ·
        replace hR := of_true h10 hR
        refine Awp.cons C (fun _ => .writer) (by kernel_rfl) ?_
        refine rvP C (.ptr 0 0) ?_
        refine rvP C (.pv (.lit (.int .i64 r.at_))) ?_
        refine rvc_un (rexec_callM hP C (b := 0) rfl rfl rfl (rdStop_calls (Reader.mk vc.b (IntKind.i64.wrap (vc.at_ + 1)) vc.err vc.made) r.at_ 10) rfl rfl ?_)
        refine rvc_nil ?_
        refine Awp.consP C ?_
        refine rvP C (.pv (.lit (.int .u64 0))) ?_
        refine rvc_nil ?_
        refine Awp.ret ?_
        subst hR
        exact ⟨.inl rfl, rfl, rfl⟩
       ·
        replace hR := of_false h10 hR
        refine Awp.skip ?_
        refine Awp.consP C ?_
        refine rvP C (.pv (.lit (.int .u64 n))) ?_
        refine rvP C (.pv (.lit (.int .u64 (IntKind.u64.wrap (bitI .and .u8 (vc.b.D[vc.at_.toNat]!) 127))))) ?_
        refine rvP C (.pv (.lit (.int .i64 shift))) ?_
        refine rvc_un (rexec_prim C (δ := { v := .pv (.lit (.int .u64 (shlI .u64 (IntKind.u64.wrap (bitI .and .u8 (vc.b.D[vc.at_.toNat]!) 127)) shift))) }) rfl rfl rfl rfl (by omega) rfl ?_)
        refine rvP C (.pv (.lit (.int .u64 (bitI .or .u64 n (shlI .u64 (IntKind.u64.wrap (bitI .and .u8 (vc.b.D[vc.at_.toNat]!) 127)) shift))))) ?_
        refine rvP C (.pv (.lit (.int .u64 (bitI .or .u64 n (shlI .u64 (IntKind.u64.wrap (bitI .and .u8 (vc.b.D[vc.at_.toNat]!) 127)) shift))))) ?_
        refine rvc_nil ?_
        refine Awp.consP C ?_
        refine rvP C (.pv (.lit (.int .u8 (vc.b.D[vc.at_.toNat]!)))) ?_
        refine rvP C (.pv (.lit (.bool (decide ((vc.b.D[vc.at_.toNat]!) < 128))))) ?_
        refine rvc_nil ?_
        refine Awp.cond (b := (decide ((vc.b.D[vc.at_.toNat]!) < 128))) rfl (fun h11 => ?_) (fun h11 => ?_)
        ·
         replace hR := of_true h11 hR
         refine Awp.consP C ?_
         refine rvP C (.pv (.lit (.int .u64 (bitI .or .u64 n (shlI .u64 (IntKind.u64.wrap (bitI .and .u8 (vc.b.D[vc.at_.toNat]!) 127)) shift))))) ?_
         refine rvP C (.pv (.lit (.int .u64 (bitI .or .u64 n (shlI .u64 (IntKind.u64.wrap (bitI .and .u8 (vc.b.D[vc.at_.toNat]!) 127)) shift))))) ?_
         refine rvc_nil ?_
         refine Awp.ret ?_
         subst hR
         exact ⟨.inl rfl, rfl, rfl⟩
        ·
         replace hR := of_false h11 hR
         refine Awp.skip ?_
         refine Awp.regionP C ?_
         refine rvP C (.pv (.lit (.int .i64 shift))) ?_
         refine rvP C (.pv (.lit (.int .i64 (IntKind.i64.wrap (shift + 7))))) ?_
         refine rvP C (.pv (.lit (.int .i64 (IntKind.i64.wrap (shift + 7))))) ?_
         refine rvc_nil ?_
         refine ⟨_, ((bitI .or .u64 n (shlI .u64 (IntKind.u64.wrap (bitI .and .u8 (vc.b.D[vc.at_.toNat]!) 127)) shift)), (IntKind.i64.wrap (shift + 7)), (Reader.mk vc.b (IntKind.i64.wrap (vc.at_ + 1)) vc.err vc.made)), ?_, ⟨rfl, (by rw [show ((Reader.mk vc.b (IntKind.i64.wrap (vc.at_ + 1)) vc.err vc.made).b.D.length - (Reader.mk vc.b (IntKind.i64.wrap (vc.at_ + 1)) vc.err vc.made).at_.toNat) + 1 = (vc.b.D.length - vc.at_.toNat) by (have := wrapI (vc.at_ + 1); have := ne_of_beq_false ‹(vc.at_ == (vc.b.D.length : Int)) = false›; dsimp only; omega)]; exact hR), ⟨(by have := wrapI (vc.at_ + 1); have := ne_of_beq_false ‹(vc.at_ == (vc.b.D.length : Int)) = false›; dsimp only; omega), (by have := wrapI (shift + 7); have := of_decide_eq_false ‹decide (shift > 63) = false›; dsimp only; omega)⟩⟩, ?_⟩
         · show ((Reader.mk vc.b (IntKind.i64.wrap (vc.at_ + 1)) vc.err vc.made).b.D.length - (Reader.mk vc.b (IntKind.i64.wrap (vc.at_ + 1)) vc.err vc.made).at_.toNat) < (vc.b.D.length - vc.at_.toNat); (have := wrapI (vc.at_ + 1); have := ne_of_beq_false ‹(vc.at_ == (vc.b.D.length : Int)) = false›; dsimp only; omega)
         · exact ⟨fun b => b, WeakerR.ofLI (I := [0]) (Ks := [0]) hI ⟨⟨rfl, rfl⟩, ⟨rfl, rfl⟩, ⟨rfl, rfl⟩, ⟨rfl, rfl⟩, trivial⟩ (okH_cons rfl rfl rfl rfl (okH_nil)) rfl rfl⟩
      ·
       replace hR := of_false h9 hR
       refine rvS ?_
       refine rvS ?_
       refine rvP C (.pv (.lit (.bool false))) ?_
       refine rvP C (.pv (.lit (.bool false))) ?_
       refine rvc_nil ?_
       refine Awp.condF (b := false) rfl rfl ?_
       refine Awp.skip ?_
       refine Awp.consP C ?_
       refine rvP C (.pv (.lit (.int .u64 n))) ?_
       refine rvP C (.pv (.lit (.int .u64 (IntKind.u64.wrap (bitI .and .u8 (vc.b.D[vc.at_.toNat]!) 127))))) ?_
       refine rvP C (.pv (.lit (.int .i64 shift))) ?_
       refine rvc_un (rexec_prim C (δ := { v := .pv (.lit (.int .u64 (shlI .u64 (IntKind.u64.wrap (bitI .and .u8 (vc.b.D[vc.at_.toNat]!) 127)) shift))) }) rfl rfl rfl rfl (by omega) rfl ?_)
       refine rvP C (.pv (.lit (.int .u64 (bitI .or .u64 n (shlI .u64 (IntKind.u64.wrap (bitI .and .u8 (vc.b.D[vc.at_.toNat]!) 127)) shift))))) ?_
       refine rvP C (.pv (.lit (.int .u64 (bitI .or .u64 n (shlI .u64 (IntKind.u64.wrap (bitI .and .u8 (vc.b.D[vc.at_.toNat]!) 127)) shift))))) ?_
       refine rvc_nil ?_
       refine Awp.consP C ?_
       refine rvP C (.pv (.lit (.int .u8 (vc.b.D[vc.at_.toNat]!)))) ?_
       refine rvP C (.pv (.lit (.bool (decide ((vc.b.D[vc.at_.toNat]!) < 128))))) ?_
       refine rvc_nil ?_
       refine Awp.cond (b := (decide ((vc.b.D[vc.at_.toNat]!) < 128))) rfl (fun h12 => ?_) (fun h12 => ?_)
       ·
        replace hR := of_true h12 hR
        refine Awp.consP C ?_
        refine rvP C (.pv (.lit (.int .u64 (bitI .or .u64 n (shlI .u64 (IntKind.u64.wrap (bitI .and .u8 (vc.b.D[vc.at_.toNat]!) 127)) shift))))) ?_
        refine rvP C (.pv (.lit (.int .u64 (bitI .or .u64 n (shlI .u64 (IntKind.u64.wrap (bitI .and .u8 (vc.b.D[vc.at_.toNat]!) 127)) shift))))) ?_
        refine rvc_nil ?_
        refine Awp.ret ?_
        subst hR
        exact ⟨.inl rfl, rfl, rfl⟩
       ·
        replace hR := of_false h12 hR
        refine Awp.skip ?_
        refine Awp.regionP C ?_
        refine rvP C (.pv (.lit (.int .i64 shift))) ?_
        refine rvP C (.pv (.lit (.int .i64 (IntKind.i64.wrap (shift + 7))))) ?_
        refine rvP C (.pv (.lit (.int .i64 (IntKind.i64.wrap (shift + 7))))) ?_
        refine rvc_nil ?_
        refine ⟨_, ((bitI .or .u64 n (shlI .u64 (IntKind.u64.wrap (bitI .and .u8 (vc.b.D[vc.at_.toNat]!) 127)) shift)), (IntKind.i64.wrap (shift + 7)), (Reader.mk vc.b (IntKind.i64.wrap (vc.at_ + 1)) vc.err vc.made)), ?_, ⟨rfl, (by rw [show ((Reader.mk vc.b (IntKind.i64.wrap (vc.at_ + 1)) vc.err vc.made).b.D.length - (Reader.mk vc.b (IntKind.i64.wrap (vc.at_ + 1)) vc.err vc.made).at_.toNat) + 1 = (vc.b.D.length - vc.at_.toNat) by (have := wrapI (vc.at_ + 1); have := ne_of_beq_false ‹(vc.at_ == (vc.b.D.length : Int)) = false›; dsimp only; omega)]; exact hR), ⟨(by have := wrapI (vc.at_ + 1); have := ne_of_beq_false ‹(vc.at_ == (vc.b.D.length : Int)) = false›; dsimp only; omega), (by have := wrapI (shift + 7); have := of_decide_eq_false ‹decide (shift > 63) = false›; dsimp only; omega)⟩⟩, ?_⟩
        · show ((Reader.mk vc.b (IntKind.i64.wrap (vc.at_ + 1)) vc.err vc.made).b.D.length - (Reader.mk vc.b (IntKind.i64.wrap (vc.at_ + 1)) vc.err vc.made).at_.toNat) < (vc.b.D.length - vc.at_.toNat); (have := wrapI (vc.at_ + 1); have := ne_of_beq_false ‹(vc.at_ == (vc.b.D.length : Int)) = false›; dsimp only; omega)
        · exact ⟨fun b => b, WeakerR.ofLI (I := [0]) (Ks := [0]) hI ⟨⟨rfl, rfl⟩, ⟨rfl, rfl⟩, ⟨rfl, rfl⟩, ⟨rfl, rfl⟩, trivial⟩ (okH_cons rfl rfl rfl rfl (okH_nil)) rfl rfl⟩
   ·
    replace hR := of_false h6 hR
    refine rvS ?_
    refine rvS ?_
    refine rvP C (.pv (.lit (.bool false))) ?_
    refine rvP C (.pv (.lit (.bool false))) ?_
    refine rvO C (.pv (.lit (.int .i64 shift))) ?_
    refine rvO C (.pv (.lit (.bool (decide (shift > 63))))) ?_
    refine rvP C (.pv (.lit (.bool (decide (shift > 63))))) ?_
    refine rvP C (.pv (.lit (.bool (decide (shift > 63))))) ?_
    refine rvc_nil ?_
    refine Awp.cond (b := (decide (shift > 63))) rfl (fun h13 => ?_) (fun h13 => ?_)
    ·
     replace hR := of_true h13 hR
     refine Awp.cons C (fun _ => .writer) (by kernel_rfl) ?_
     refine rvP C (.ptr 0 0) ?_
     refine rvP C (.pv (.lit (.int .i64 r.at_))) ?_
     refine rvc_un (rexec_callM hP C (b := 0) rfl rfl rfl (rdStop_calls (Reader.mk vc.b (IntKind.i64.wrap (vc.at_ + 1)) vc.err vc.made) r.at_ 5) rfl rfl ?_)
     refine rvc_nil ?_
     refine Awp.consP C ?_
     refine rvP C (.pv (.lit (.int .u64 0))) ?_
     refine rvc_nil ?_
     refine Awp.ret ?_
     subst hR
     exact ⟨.inl rfl, rfl, rfl⟩
    ·
     replace hR := of_false h13 hR
     refine Awp.consP C ?_
     refine rvP C (.pv (.lit (.int .u8 (vc.b.D[vc.at_.toNat]!)))) ?_
     refine rvP C (.pv (.lit (.bool ((vc.b.D[vc.at_.toNat]!) == 0)))) ?_
     refine rvP C (.pv (.lit (.bool ((vc.b.D[vc.at_.toNat]!) == 0)))) ?_
     refine rvc_case 67 ((vc.b.D[vc.at_.toNat]!) == 0) rfl (fun h14 => ?_) (fun h14 => ?_)
     ·
      replace hR := of_true h14 hR
      refine rvO C (.pv (.lit (.int .i64 shift))) ?_
      refine rvO C (.pv (.lit (.bool (decide (shift > 0))))) ?_
      refine rvP C (.pv (.lit (.bool (decide (shift > 0))))) ?_
      refine rvP C (.pv (.lit (.bool (decide (shift > 0))))) ?_
      refine rvc_nil ?_
      refine Awp.cond (b := (decide (shift > 0))) rfl (fun h15 => ?_) (fun h15 => ?_)
      ·
       replace hR := of_true h15 hR
       refine Awp.cons C (fun _ => .writer) (by kernel_rfl) ?_
       refine rvP C (.ptr 0 0) ?_
       refine rvP C (.pv (.lit (.int .i64 r.at_))) ?_
       refine rvc_un (rexec_callM hP C (b := 0) rfl rfl rfl (rdStop_calls (Reader.mk vc.b (IntKind.i64.wrap (vc.at_ + 1)) vc.err vc.made) r.at_ 10) rfl rfl ?_)
       refine rvc_nil ?_
       refine Awp.consP C ?_
       refine rvP C (.pv (.lit (.int .u64 0))) ?_
       refine rvc_nil ?_
       refine Awp.ret ?_
       subst hR
       exact ⟨.inl rfl, rfl, rfl⟩
      ·
       replace hR := of_false h15 hR
       refine Awp.skip ?_
       refine Awp.consP C ?_
       refine rvP C (.pv (.lit (.int .u64 n))) ?_
       refine rvP C (.pv (.lit (.int .u64 (IntKind.u64.wrap (bitI .and .u8 (vc.b.D[vc.at_.toNat]!) 127))))) ?_
       refine rvP C (.pv (.lit (.int .i64 shift))) ?_
       refine rvc_un (rexec_prim C (δ := { v := .pv (.lit (.int .u64 (shlI .u64 (IntKind.u64.wrap (bitI .and .u8 (vc.b.D[vc.at_.toNat]!) 127)) shift))) }) rfl rfl rfl rfl (by omega) rfl ?_)
       refine rvP C (.pv (.lit (.int .u64 (bitI .or .u64 n (shlI .u64 (IntKind.u64.wrap (bitI .and .u8 (vc.b.D[vc.at_.toNat]!) 127)) shift))))) ?_
       refine rvP C (.pv (.lit (.int .u64 (bitI .or .u64 n (shlI .u64 (IntKind.u64.wrap (bitI .and .u8 (vc.b.D[vc.at_.toNat]!) 127)) shift))))) ?_
       refine rvc_nil ?_
       refine Awp.consP C ?_
       refine rvP C (.pv (.lit (.int .u8 (vc.b.D[vc.at_.toNat]!)))) ?_
       refine rvP C (.pv (.lit (.bool (decide ((vc.b.D[vc.at_.toNat]!) < 128))))) ?_
       refine rvc_nil ?_
       refine Awp.cond (b := (decide ((vc.b.D[vc.at_.toNat]!) < 128))) rfl (fun h16 => ?_) (fun h16 => ?_)
       ·
        replace hR := of_true h16 hR
        refine Awp.consP C ?_
        refine rvP C (.pv (.lit (.int .u64 (bitI .or .u64 n (shlI .u64 (IntKind.u64.wrap (bitI .and .u8 (vc.b.D[vc.at_.toNat]!) 127)) shift))))) ?_
        refine rvP C (.pv (.lit (.int .u64 (bitI .or .u64 n (shlI .u64 (IntKind.u64.wrap (bitI .and .u8 (vc.b.D[vc.at_.toNat]!) 127)) shift))))) ?_
        refine rvc_nil ?_
        refine Awp.ret ?_
        subst hR
        exact ⟨.inl rfl, rfl, rfl⟩
       ·
        replace hR := of_false h16 hR
        refine Awp.skip ?_
        refine Awp.regionP C ?_
        refine rvP C (.pv (.lit (.int .i64 shift))) ?_
        refine rvP C (.pv (.lit (.int .i64 (IntKind.i64.wrap (shift + 7))))) ?_
        refine rvP C (.pv (.lit (.int .i64 (IntKind.i64.wrap (shift + 7))))) ?_
        refine rvc_nil ?_
        refine ⟨_, ((bitI .or .u64 n (shlI .u64 (IntKind.u64.wrap (bitI .and .u8 (vc.b.D[vc.at_.toNat]!) 127)) shift)), (IntKind.i64.wrap (shift + 7)), (Reader.mk vc.b (IntKind.i64.wrap (vc.at_ + 1)) vc.err vc.made)), ?_, ⟨rfl, (by rw [show ((Reader.mk vc.b (IntKind.i64.wrap (vc.at_ + 1)) vc.err vc.made).b.D.length - (Reader.mk vc.b (IntKind.i64.wrap (vc.at_ + 1)) vc.err vc.made).at_.toNat) + 1 = (vc.b.D.length - vc.at_.toNat) by (have := wrapI (vc.at_ + 1); have := ne_of_beq_false ‹(vc.at_ == (vc.b.D.length : Int)) = false›; dsimp only; omega)]; exact hR), ⟨(by have := wrapI (vc.at_ + 1); have := ne_of_beq_false ‹(vc.at_ == (vc.b.D.length : Int)) = false›; dsimp only; omega), (by have := wrapI (shift + 7); have := of_decide_eq_false ‹decide (shift > 63) = false›; dsimp only; omega)⟩⟩, ?_⟩
        · show ((Reader.mk vc.b (IntKind.i64.wrap (vc.at_ + 1)) vc.err vc.made).b.D.length - (Reader.mk vc.b (IntKind.i64.wrap (vc.at_ + 1)) vc.err vc.made).at_.toNat) < (vc.b.D.length - vc.at_.toNat); (have := wrapI (vc.at_ + 1); have := ne_of_beq_false ‹(vc.at_ == (vc.b.D.length : Int)) = false›; dsimp only; omega)
        · exact ⟨fun b => b, WeakerR.ofLI (I := [0]) (Ks := [0]) hI ⟨⟨rfl, rfl⟩, ⟨rfl, rfl⟩, ⟨rfl, rfl⟩, ⟨rfl, rfl⟩, trivial⟩ (okH_cons rfl rfl rfl rfl (okH_nil)) rfl rfl⟩
     ·
      replace hR := of_false h14 hR
      refine rvS ?_
      refine rvS ?_
      refine rvP C (.pv (.lit (.bool false))) ?_
      refine rvP C (.pv (.lit (.bool false))) ?_
      refine rvc_nil ?_
      refine Awp.condF (b := false) rfl rfl ?_
      refine Awp.skip ?_
      refine Awp.consP C ?_
      refine rvP C (.pv (.lit (.int .u64 n))) ?_
      refine rvP C (.pv (.lit (.int .u64 (IntKind.u64.wrap (bitI .and .u8 (vc.b.D[vc.at_.toNat]!) 127))))) ?_
      refine rvP C (.pv (.lit (.int .i64 shift))) ?_
      refine rvc_un (rexec_prim C (δ := { v := .pv (.lit (.int .u64 (shlI .u64 (IntKind.u64.wrap (bitI .and .u8 (vc.b.D[vc.at_.toNat]!) 127)) shift))) }) rfl rfl rfl rfl (by omega) rfl ?_)
      refine rvP C (.pv (.lit (.int .u64 (bitI .or .u64 n (shlI .u64 (IntKind.u64.wrap (bitI .and .u8 (vc.b.D[vc.at_.toNat]!) 127)) shift))))) ?_
      refine rvP C (.pv (.lit (.int .u64 (bitI .or .u64 n (shlI .u64 (IntKind.u64.wrap (bitI .and .u8 (vc.b.D[vc.at_.toNat]!) 127)) shift))))) ?_
      refine rvc_nil ?_
      refine Awp.consP C ?_
      refine rvP C (.pv (.lit (.int .u8 (vc.b.D[vc.at_.toNat]!)))) ?_
      refine rvP C (.pv (.lit (.bool (decide ((vc.b.D[vc.at_.toNat]!) < 128))))) ?_
      refine rvc_nil ?_
      refine Awp.cond (b := (decide ((vc.b.D[vc.at_.toNat]!) < 128))) rfl (fun h17 => ?_) (fun h17 => ?_)
      ·
       replace hR := of_true h17 hR
       refine Awp.consP C ?_
       refine rvP C (.pv (.lit (.int .u64 (bitI .or .u64 n (shlI .u64 (IntKind.u64.wrap (bitI .and .u8 (vc.b.D[vc.at_.toNat]!) 127)) shift))))) ?_
       refine rvP C (.pv (.lit (.int .u64 (bitI .or .u64 n (shlI .u64 (IntKind.u64.wrap (bitI .and .u8 (vc.b.D[vc.at_.toNat]!) 127)) shift))))) ?_
       refine rvc_nil ?_
       refine Awp.ret ?_
       subst hR
       exact ⟨.inl rfl, rfl, rfl⟩
      ·
       replace hR := of_false h17 hR
       refine Awp.skip ?_
       refine Awp.regionP C ?_
       refine rvP C (.pv (.lit (.int .i64 shift))) ?_
       refine rvP C (.pv (.lit (.int .i64 (IntKind.i64.wrap (shift + 7))))) ?_
       refine rvP C (.pv (.lit (.int .i64 (IntKind.i64.wrap (shift + 7))))) ?_
       refine rvc_nil ?_
       refine ⟨_, ((bitI .or .u64 n (shlI .u64 (IntKind.u64.wrap (bitI .and .u8 (vc.b.D[vc.at_.toNat]!) 127)) shift)), (IntKind.i64.wrap (shift + 7)), (Reader.mk vc.b (IntKind.i64.wrap (vc.at_ + 1)) vc.err vc.made)), ?_, ⟨rfl, (by rw [show ((Reader.mk vc.b (IntKind.i64.wrap (vc.at_ + 1)) vc.err vc.made).b.D.length - (Reader.mk vc.b (IntKind.i64.wrap (vc.at_ + 1)) vc.err vc.made).at_.toNat) + 1 = (vc.b.D.length - vc.at_.toNat) by (have := wrapI (vc.at_ + 1); have := ne_of_beq_false ‹(vc.at_ == (vc.b.D.length : Int)) = false›; dsimp only; omega)]; exact hR), ⟨(by have := wrapI (vc.at_ + 1); have := ne_of_beq_false ‹(vc.at_ == (vc.b.D.length : Int)) = false›; dsimp only; omega), (by have := wrapI (shift + 7); have := of_decide_eq_false ‹decide (shift > 63) = false›; dsimp only; omega)⟩⟩, ?_⟩
       · show ((Reader.mk vc.b (IntKind.i64.wrap (vc.at_ + 1)) vc.err vc.made).b.D.length - (Reader.mk vc.b (IntKind.i64.wrap (vc.at_ + 1)) vc.err vc.made).at_.toNat) < (vc.b.D.length - vc.at_.toNat); (have := wrapI (vc.at_ + 1); have := ne_of_beq_false ‹(vc.at_ == (vc.b.D.length : Int)) = false›; dsimp only; omega)
       · exact ⟨fun b => b, WeakerR.ofLI (I := [0]) (Ks := [0]) hI ⟨⟨rfl, rfl⟩, ⟨rfl, rfl⟩, ⟨rfl, rfl⟩, ⟨rfl, rfl⟩, trivial⟩ (okH_cons rfl rfl rfl rfl (okH_nil)) rfl rfl⟩
structure Reader69 where
  b : (Sl Int)
  at_ : Int
  e_ : Int
  deriving Inhabited
def rrNum_l0 (r : Reader69) : Nat → Nat → Int → Int → Reader69 × Int
  | 0, _, _, _ => (r, 0)
  | k + 1, i, n, step => (bif (decide ((IntKind.i64.wrap (r.at_ + (i : Int))) ≥ (r.b.D.length : Int))) then ((Reader69.mk r.b r.at_ 2), 0) else (bif ((i : Int) == 10) then ((Reader69.mk r.b r.at_ 5), 0) else (bif ((i : Int) == 9) then (bif (decide ((IntKind.u64.wrap ((r.b.D[(IntKind.i64.wrap (r.at_ + (i : Int))).toNat]!).tmod 128)) > 1)) then ((Reader69.mk r.b r.at_ 5), 0) else (bif ((r.b.D[(IntKind.i64.wrap (r.at_ + (i : Int))).toNat]!) == 0) then (bif (decide ((i : Int) > 0)) then ((Reader69.mk r.b r.at_ 10), 0) else (bif (decide ((r.b.D[(IntKind.i64.wrap (r.at_ + (i : Int))).toNat]!) < 128)) then ((Reader69.mk r.b (IntKind.i64.wrap ((IntKind.i64.wrap (r.at_ + (i : Int))) + 1)) r.e_), (IntKind.u64.wrap (n + (IntKind.u64.wrap ((IntKind.u64.wrap ((r.b.D[(IntKind.i64.wrap (r.at_ + (i : Int))).toNat]!).tmod 128)) * step))))) else rrNum_l0 r k (i + 1) (IntKind.u64.wrap (n + (IntKind.u64.wrap ((IntKind.u64.wrap ((r.b.D[(IntKind.i64.wrap (r.at_ + (i : Int))).toNat]!).tmod 128)) * step)))) (IntKind.u64.wrap (step * 128)))) else (bif (decide ((r.b.D[(IntKind.i64.wrap (r.at_ + (i : Int))).toNat]!) < 128)) then ((Reader69.mk r.b (IntKind.i64.wrap ((IntKind.i64.wrap (r.at_ + (i : Int))) + 1)) r.e_), (IntKind.u64.wrap (n + (IntKind.u64.wrap ((IntKind.u64.wrap ((r.b.D[(IntKind.i64.wrap (r.at_ + (i : Int))).toNat]!).tmod 128)) * step))))) else rrNum_l0 r k (i + 1) (IntKind.u64.wrap (n + (IntKind.u64.wrap ((IntKind.u64.wrap ((r.b.D[(IntKind.i64.wrap (r.at_ + (i : Int))).toNat]!).tmod 128)) * step)))) (IntKind.u64.wrap (step * 128))))) else (bif ((r.b.D[(IntKind.i64.wrap (r.at_ + (i : Int))).toNat]!) == 0) then (bif (decide ((i : Int) > 0)) then ((Reader69.mk r.b r.at_ 10), 0) else (bif (decide ((r.b.D[(IntKind.i64.wrap (r.at_ + (i : Int))).toNat]!) < 128)) then ((Reader69.mk r.b (IntKind.i64.wrap ((IntKind.i64.wrap (r.at_ + (i : Int))) + 1)) r.e_), (IntKind.u64.wrap (n + (IntKind.u64.wrap ((IntKind.u64.wrap ((r.b.D[(IntKind.i64.wrap (r.at_ + (i : Int))).toNat]!).tmod 128)) * step))))) else rrNum_l0 r k (i + 1) (IntKind.u64.wrap (n + (IntKind.u64.wrap ((IntKind.u64.wrap ((r.b.D[(IntKind.i64.wrap (r.at_ + (i : Int))).toNat]!).tmod 128)) * step)))) (IntKind.u64.wrap (step * 128)))) else (bif (decide ((r.b.D[(IntKind.i64.wrap (r.at_ + (i : Int))).toNat]!) < 128)) then ((Reader69.mk r.b (IntKind.i64.wrap ((IntKind.i64.wrap (r.at_ + (i : Int))) + 1)) r.e_), (IntKind.u64.wrap (n + (IntKind.u64.wrap ((IntKind.u64.wrap ((r.b.D[(IntKind.i64.wrap (r.at_ + (i : Int))).toNat]!).tmod 128)) * step))))) else rrNum_l0 r k (i + 1) (IntKind.u64.wrap (n + (IntKind.u64.wrap ((IntKind.u64.wrap ((r.b.D[(IntKind.i64.wrap (r.at_ + (i : Int))).toNat]!).tmod 128)) * step)))) (IntKind.u64.wrap (step * 128)))))))
def rrNum (r : Reader69) : Reader69 × Int :=
  (bif (r.e_ != 0) then (r, 0) else rrNum_l0 r 11 0 0 1)
theorem rrNum_calls (r : Reader69) (hk : (0 ≤ r.at_ ∧ r.at_ ≤ (r.b.D.length : Int)) ∧ r.b.D.length ≤ 1000000) : MCalls Tryd.prog 43 [.ptr 0 0] (.cells [sS (some r.b.nil) (eI .u8) r.b.D, .pv (.lit (.int .i64 r.at_)), .pv (.lit (.int .i64 r.e_))]) (.pv (.lit (.int .u64 ((rrNum r).2)))) (.cells [sS (some (rrNum r).1.b.nil) (eI .u8) ((rrNum r).1.b.D), .pv (.lit (.int .i64 ((rrNum r).1.at_))), .pv (.lit (.int .i64 ((rrNum r).1.e_)))]) := by
 generalize hR : rrNum r = R
 refine MCalls.of_body tabOk Tryd.func43 rfl rfl rfl rfl rfl rfl rfl mixed fun E hP C hI => ?_
 refine Awp.consP C ?_
 refine rvP C (.pv (.lit (.int .u64 0))) ?_
 refine rvc_nil ?_
 refine Awp.seq ?_
 refine Awp.consP C ?_
 refine rvP C (.ptr 0 0) ?_
 refine rvP C (.ptr 0 0) ?_
 refine rvP C (.ptr 0 2) ?_
 refine rvP C (.pv (.lit (.int .i64 r.e_))) ?_
 refine rvP C (.pv (.lit (.bool (r.e_ != 0)))) ?_
 refine rvc_nil ?_
 refine Awp.cond (b := (r.e_ != 0)) rfl (fun h1 => ?_) (fun h1 => ?_)
 ·
  replace hR := of_true h1 hR
  refine Awp.consP C ?_
  refine rvP C (.pv (.lit (.int .u64 0))) ?_
  refine rvc_nil ?_
  refine Awp.ret ?_
  subst hR
  exact ⟨.inl rfl, rfl, rfl⟩
 ·
  replace hR := of_false h1 hR
  refine Awp.skip ?_
  refine Awp.consP C ?_
  refine rvP C (.pv (.lit (.int .u64 0))) ?_
  refine rvP C (.pv (.lit (.int .u64 1))) ?_
  refine rvc_nil ?_
  refine Awp.seq ?_
  refine Awp.consP C ?_
  refine rvP C (.pv (.lit (.int .i64 0))) ?_
  refine rvc_nil ?_
  refine Awp.block ?_
  refine Awp.forR (σ := Int × Int) (11) (fun i v => [(0, .ptr 0 0), (3, .pv (.lit (.int .u64 v.1))), (4, .pv (.lit (.int .u64 v.2))), (13, .pv (.lit (.int .i64 (i : Int))))]) (fun i v => [(0, .cells [sS (some r.b.nil) (eI .u8) r.b.D, .pv (.lit (.int .i64 r.at_)), .pv (.lit (.int .i64 r.e_))])]) [0] (fun i v => rrNum_l0 r (11 - i) i v.1 v.2 = R) (0, 1) ?_ ?_ (fun i v h2 hR => ?_)
  · exact hR
  · exact ⟨fun b => b, WeakerR.ofLI (I := [0]) (Ks := [0]) hI ⟨⟨rfl, rfl⟩, ⟨rfl, rfl⟩, ⟨rfl, rfl⟩, ⟨rfl, rfl⟩, trivial⟩ (okH_cons rfl rfl rfl rfl (okH_nil)) rfl rfl⟩
  obtain ⟨n, step⟩ := v
  refine Awp.consP C ?_
  refine rvP C (.pv (.lit (.bool (decide ((i : Int) < 11))))) ?_
  refine rvc_nil ?_
  refine Awp.seq ?_
  refine Awp.cond (b := (decide ((i : Int) < 11))) rfl (fun h3 => ?_) (fun h3 => ?_)
  ·
   have h4 : i < 11 := by have := of_decide_eq_true h3; omega
   obtain ⟨k, h5⟩ : ∃ k, 11 - i = k + 1 := ⟨11 - i - 1, by omega⟩
   rw [h5] at hR
   refine Awp.skip ?_
   refine Awp.seq ?_
   refine Awp.block ?_
   refine Awp.consP C ?_
   refine rvP C (.pv (.lit (.int .i64 (i : Int)))) ?_
   refine rvP C (.pv (.lit (.int .i64 (i : Int)))) ?_
   refine rvc_nil ?_
   refine Awp.seq ?_
   refine Awp.consP C ?_
   refine rvP C (.ptr 0 0) ?_
   refine rvP C (.ptr 0 0) ?_
   refine rvP C (.ptr 0 1) ?_
   refine rvP C (.pv (.lit (.int .i64 r.at_))) ?_
   refine rvP C (.pv (.lit (.int .i64 (i : Int)))) ?_
   refine rvP C (.pv (.lit (.int .i64 (IntKind.i64.wrap (r.at_ + (i : Int)))))) ?_
   refine rvP C (.ptr 0 0) ?_
   refine rvP C (.ptr 0 0) ?_
   refine rvP C (.ptr 0 0) ?_
   refine rvP C (sS (some r.b.nil) (eI .u8) r.b.D) ?_
   refine rvP C (.pv (.lit (.int .i64 (r.b.D.length : Int)))) ?_
   refine rvP C (.pv (.lit (.bool (decide ((IntKind.i64.wrap (r.at_ + (i : Int))) ≥ (r.b.D.length : Int)))))) ?_
   refine rvc_nil ?_
   refine Awp.cond (b := (decide ((IntKind.i64.wrap (r.at_ + (i : Int))) ≥ (r.b.D.length : Int)))) rfl (fun h6 => ?_) (fun h6 => ?_)
   ·
    replace hR := of_true h6 hR
    refine Awp.consP C ?_
    refine rvP C (.ptr 0 0) ?_
    refine rvP C (.ptr 0 0) ?_
    refine rvP C (.ptr 0 2) ?_
    refine rvc_un (rexec_prim C (δ := { v := .undef, wr := [(0, some (.cells [sS (some r.b.nil) (eI .u8) r.b.D, .pv (.lit (.int .i64 r.at_)), .pv (.lit (.int .i64 2))]))] }) rfl rfl rfl rfl trivial rfl ?_)
    refine rvc_nil ?_
    refine Awp.consP C ?_
    refine rvP C (.pv (.lit (.int .u64 0))) ?_
    refine rvc_nil ?_
    refine Awp.ret ?_
    subst hR
    exact ⟨.inl rfl, rfl, rfl⟩
   ·
    replace hR := of_false h6 hR
    refine Awp.skip ?_
    refine Awp.consP C ?_
    refine rvP C (.ptr 0 0) ?_
    refine rvP C (.ptr 0 0) ?_
    refine rvP C (.ptr 0 0) ?_
    refine rvP C (sS (some r.b.nil) (eI .u8) r.b.D) ?_
    refine rvP C (.ptr 0 0) ?_
    refine rvP C (.ptr 0 0) ?_
    refine rvP C (.ptr 0 1) ?_
    refine rvP C (.pv (.lit (.int .i64 r.at_))) ?_
    refine rvP C (.pv (.lit (.int .i64 (i : Int)))) ?_
    refine rvP C (.pv (.lit (.int .i64 (IntKind.i64.wrap (r.at_ + (i : Int)))))) ?_
    have h7 : r.b.D[(IntKind.i64.wrap (r.at_ + (i : Int))).toNat]? = some r.b.D[(IntKind.i64.wrap (r.at_ + (i : Int))).toNat]! := getE (by have := wrapI (r.at_ + (i : Int)); have := of_decide_eq_false ‹decide ((IntKind.i64.wrap (r.at_ + (i : Int))) ≥ (r.b.D.length : Int)) = false›; omega)
    refine rvc_un (rexec_idxS C rfl rfl rfl rfl rfl rfl (r.b.D[(IntKind.i64.wrap (r.at_ + (i : Int))).toNat]!) (by have := wrapI (r.at_ + (i : Int)); have := eq_of_bne_false h1; have := of_decide_eq_true h3; have := of_decide_eq_false h6; omega) h7 ?_)
    refine rvP C (.pv (.lit (.int .u8 (r.b.D[(IntKind.i64.wrap (r.at_ + (i : Int))).toNat]!)))) ?_
    refine rvP C (.pv (.lit (.int .u8 (r.b.D[(IntKind.i64.wrap (r.at_ + (i : Int))).toNat]!)))) ?_
    refine rvc_nil ?_
    refine Awp.consP C ?_
    refine rvP C (.pv (.lit (.int .u8 (r.b.D[(IntKind.i64.wrap (r.at_ + (i : Int))).toNat]!)))) ?_
    refine rvc_un (rexec_prim C (δ := { v := .pv (.lit (.int .u8 ((r.b.D[(IntKind.i64.wrap (r.at_ + (i : Int))).toNat]!).tmod 128))) }) rfl rfl rfl rfl (by first | decide | omega) rfl ?_)
    refine rvP C (.pv (.lit (.int .u64 (IntKind.u64.wrap ((r.b.D[(IntKind.i64.wrap (r.at_ + (i : Int))).toNat]!).tmod 128))))) ?_
    refine rvP C (.pv (.lit (.int .u64 (IntKind.u64.wrap ((r.b.D[(IntKind.i64.wrap (r.at_ + (i : Int))).toNat]!).tmod 128))))) ?_
    refine rvc_nil ?_
    refine Awp.seq ?_
    refine Awp.consP C ?_
    refine rvP C (.pv (.lit (.int .i64 (i : Int)))) ?_
    refine rvP C (.pv (.lit (.bool ((i : Int) == 10)))) ?_
    refine rvP C (.pv (.lit (.bool ((i : Int) == 10)))) ?_
    refine rvc_case 48 ((i : Int) == 10) rfl (fun h8 => ?_) (fun h8 => ?_)
    ·
     replace hR := of_true h8 hR
     refine rvS ?_
     refine rvS ?_
     refine rvS ?_
     refine rvc_shutU rfl rfl rfl ?_
     refine rvc_shutU rfl rfl rfl ?_
     refine rvS ?_
     refine rvP C (.pv (.lit (.bool true))) ?_
     refine rvc_nil ?_
     refine Awp.condT (b := true) rfl rfl ?_
     refine Awp.consP C ?_
     refine rvP C (.ptr 0 0) ?_
     refine rvP C (.ptr 0 0) ?_
     refine rvP C (.ptr 0 2) ?_
     refine rvc_un (rexec_prim C (δ := { v := .undef, wr := [(0, some (.cells [sS (some r.b.nil) (eI .u8) r.b.D, .pv (.lit (.int .i64 r.at_)), .pv (.lit (.int .i64 5))]))] }) rfl rfl rfl rfl trivial rfl ?_)
     refine rvc_nil ?_
     refine Awp.consP C ?_
     refine rvP C (.pv (.lit (.int .u64 0))) ?_
     refine rvc_nil ?_
     refine Awp.ret ?_
     subst hR
     exact ⟨.inl rfl, rfl, rfl⟩
    ·
     replace hR := of_false h8 hR
     refine rvO C (.pv (.lit (.int .i64 (i : Int)))) ?_
     refine rvO C (.pv (.lit (.bool ((i : Int) == 9)))) ?_
     refine rvO C (.pv (.lit (.bool ((i : Int) == 9)))) ?_
     refine rvc_case 51 ((i : Int) == 9) rfl (fun h9 => ?_) (fun h9 => ?_)
     ·
      replace hR := of_true h9 hR
      refine rvO C (.pv (.lit (.int .u64 (IntKind.u64.wrap ((r.b.D[(IntKind.i64.wrap (r.at_ + (i : Int))).toNat]!).tmod 128))))) ?_
      refine rvO C (.pv (.lit (.bool (decide ((IntKind.u64.wrap ((r.b.D[(IntKind.i64.wrap (r.at_ + (i : Int))).toNat]!).tmod 128)) > 1))))) ?_
      refine rvO C (.pv (.lit (.bool (decide ((IntKind.u64.wrap ((r.b.D[(IntKind.i64.wrap (r.at_ + (i : Int))).toNat]!).tmod 128)) > 1))))) ?_
      refine rvP C (.pv (.lit (.bool (decide ((IntKind.u64.wrap ((r.b.D[(IntKind.i64.wrap (r.at_ + (i : Int))).toNat]!).tmod 128)) > 1))))) ?_
      refine rvc_nil ?_
      refine Awp.cond (b := (decide ((IntKind.u64.wrap ((r.b.D[(IntKind.i64.wrap (r.at_ + (i : Int))).toNat]!).tmod 128)) > 1))) rfl (fun h10 => ?_) (fun h10 => ?_)
      ·
       replace hR := of_true h10 hR
       refine Awp.consP C ?_
       refine rvP C (.ptr 0 0) ?_
       refine rvP C (.ptr 0 0) ?_
       refine rvP C (.ptr 0 2) ?_
       refine rvc_un (rexec_prim C (δ := { v := .undef, wr := [(0, some (.cells [sS (some r.b.nil) (eI .u8) r.b.D, .pv (.lit (.int .i64 r.at_)), .pv (.lit (.int .i64 5))]))] }) rfl rfl rfl rfl trivial rfl ?_)
       refine rvc_nil ?_
       refine Awp.consP C ?_
       refine rvP C (.pv (.lit (.int .u64 0))) ?_
       refine rvc_nil ?_
       refine Awp.ret ?_
       subst hR
       exact ⟨.inl rfl, rfl, rfl⟩
      ·
       replace hR := of_false h10 hR
       refine Awp.skip ?_
       refine Awp.seq ?_
       refine Awp.consP C ?_
       refine rvP C (.pv (.lit (.int .u8 (r.b.D[(IntKind.i64.wrap (r.at_ + (i : Int))).toNat]!)))) ?_
       refine rvP C (.pv (.lit (.bool ((r.b.D[(IntKind.i64.wrap (r.at_ + (i : Int))).toNat]!) == 0)))) ?_
       refine rvP C (.pv (.lit (.bool ((r.b.D[(IntKind.i64.wrap (r.at_ + (i : Int))).toNat]!) == 0)))) ?_
       refine rvc_case 61 ((r.b.D[(IntKind.i64.wrap (r.at_ + (i : Int))).toNat]!) == 0) rfl (fun h11 => ?_) (fun h11 => ?_)
       ·
        replace hR := of_true h11 hR
        refine rvO C (.pv (.lit (.int .i64 (i : Int)))) ?_
        refine rvO C (.pv (.lit (.bool (decide ((i : Int) > 0))))) ?_
        refine rvP C (.pv (.lit (.bool (decide ((i : Int) > 0))))) ?_
        refine rvc_nil ?_
        refine Awp.cond (b := (decide ((i : Int) > 0))) rfl (fun h12 => ?_) (fun h12 => ?_)
        ·
         replace hR := of_true h12 hR
         refine Awp.consP C ?_
         refine rvP C (.ptr 0 0) ?_
         refine rvP C (.ptr 0 0) ?_
         refine rvP C (.ptr 0 2) ?_
         refine rvc_un (rexec_prim C (δ := { v := .undef, wr := [(0, some (.cells [sS (some r.b.nil) (eI .u8) r.b.D, .pv (.lit (.int .i64 r.at_)), .pv (.lit (.int .i64 10))]))] }) rfl rfl rfl rfl trivial rfl ?_)
         refine rvc_nil ?_
         refine Awp.consP C ?_
         refine rvP C (.pv (.lit (.int .u64 0))) ?_
         refine rvc_nil ?_
         refine Awp.ret ?_
         subst hR
         exact ⟨.inl rfl, rfl, rfl⟩
        ·
         replace hR := of_false h12 hR
         refine Awp.skip ?_
         refine Awp.consP C ?_
         refine rvP C (.pv (.lit (.int .u64 n))) ?_
         refine rvP C (.pv (.lit (.int .u64 (IntKind.u64.wrap ((r.b.D[(IntKind.i64.wrap (r.at_ + (i : Int))).toNat]!).tmod 128))))) ?_
         refine rvP C (.pv (.lit (.int .u64 step))) ?_
         refine rvP C (.pv (.lit (.int .u64 (IntKind.u64.wrap ((IntKind.u64.wrap ((r.b.D[(IntKind.i64.wrap (r.at_ + (i : Int))).toNat]!).tmod 128)) * step))))) ?_
         refine rvP C (.pv (.lit (.int .u64 (IntKind.u64.wrap (n + (IntKind.u64.wrap ((IntKind.u64.wrap ((r.b.D[(IntKind.i64.wrap (r.at_ + (i : Int))).toNat]!).tmod 128)) * step))))))) ?_
         refine rvP C (.pv (.lit (.int .u64 (IntKind.u64.wrap (n + (IntKind.u64.wrap ((IntKind.u64.wrap ((r.b.D[(IntKind.i64.wrap (r.at_ + (i : Int))).toNat]!).tmod 128)) * step))))))) ?_
         refine rvc_nil ?_
         refine Awp.consP C ?_
         refine rvP C (.pv (.lit (.int .u64 step))) ?_
         refine rvP C (.pv (.lit (.int .u64 (IntKind.u64.wrap (step * 128))))) ?_
         refine rvP C (.pv (.lit (.int .u64 (IntKind.u64.wrap (step * 128))))) ?_
         refine rvc_nil ?_
         refine Awp.consP C ?_
         refine rvP C (.pv (.lit (.int .u8 (r.b.D[(IntKind.i64.wrap (r.at_ + (i : Int))).toNat]!)))) ?_
         refine rvP C (.pv (.lit (.bool (decide ((r.b.D[(IntKind.i64.wrap (r.at_ + (i : Int))).toNat]!) < 128))))) ?_
         refine rvc_nil ?_
         refine Awp.cond (b := (decide ((r.b.D[(IntKind.i64.wrap (r.at_ + (i : Int))).toNat]!) < 128))) rfl (fun h13 => ?_) (fun h13 => ?_)
         ·
          replace hR := of_true h13 hR
          refine Awp.consP C ?_
          refine rvP C (.ptr 0 0) ?_
          refine rvP C (.ptr 0 0) ?_
          refine rvP C (.ptr 0 0) ?_
          refine rvP C (.ptr 0 1) ?_
          refine rvP C (.pv (.lit (.int .i64 r.at_))) ?_
          refine rvP C (.pv (.lit (.int .i64 (i : Int)))) ?_
          refine rvP C (.pv (.lit (.int .i64 (IntKind.i64.wrap (r.at_ + (i : Int)))))) ?_
          refine rvP C (.pv (.lit (.int .i64 (IntKind.i64.wrap ((IntKind.i64.wrap (r.at_ + (i : Int))) + 1))))) ?_
          refine rvP C (.ptr 0 0) ?_
          refine rvP C (.ptr 0 1) ?_
          refine rvc_un (rexec_prim C (δ := { v := .undef, wr := [(0, some (.cells [sS (some r.b.nil) (eI .u8) r.b.D, .pv (.lit (.int .i64 (IntKind.i64.wrap ((IntKind.i64.wrap (r.at_ + (i : Int))) + 1)))), .pv (.lit (.int .i64 r.e_))]))] }) rfl rfl rfl rfl trivial rfl ?_)
          refine rvc_nil ?_
          refine Awp.consP C ?_
          refine rvP C (.pv (.lit (.int .u64 (IntKind.u64.wrap (n + (IntKind.u64.wrap ((IntKind.u64.wrap ((r.b.D[(IntKind.i64.wrap (r.at_ + (i : Int))).toNat]!).tmod 128)) * step))))))) ?_
          refine rvP C (.pv (.lit (.int .u64 (IntKind.u64.wrap (n + (IntKind.u64.wrap ((IntKind.u64.wrap ((r.b.D[(IntKind.i64.wrap (r.at_ + (i : Int))).toNat]!).tmod 128)) * step))))))) ?_
          refine rvc_nil ?_
          refine Awp.ret ?_
          subst hR
          exact ⟨.inl rfl, rfl, rfl⟩
         ·
          replace hR := of_false h13 hR
          refine Awp.skip ?_
          refine Awp.regionP C ?_
          refine rvP C (.pv (.lit (.int .i64 (IntKind.i64.wrap ((i : Int) + 1))))) ?_
          refine rvP C (.pv (.lit (.int .i64 (IntKind.i64.wrap ((i : Int) + 1))))) ?_
          refine rvc_nil ?_
          refine ⟨h4, ((IntKind.u64.wrap (n + (IntKind.u64.wrap ((IntKind.u64.wrap ((r.b.D[(IntKind.i64.wrap (r.at_ + (i : Int))).toNat]!).tmod 128)) * step)))), (IntKind.u64.wrap (step * 128))), ?_, ?_⟩
          · exact (by rw [show 11 - (i + 1) = k by omega]; exact hR)
          · exact ⟨fun b => b, WeakerR.ofLI (I := [0]) (Ks := [0]) hI ⟨⟨rfl, rfl⟩, ⟨rfl, rfl⟩, ⟨rfl, rfl⟩, ⟨lit_cast (wrap_i64 (by omega) (by omega)), rfl⟩, trivial⟩ (okH_cons rfl rfl rfl rfl (okH_nil)) rfl rfl⟩
       ·
        replace hR := of_false h11 hR
        refine rvS ?_
        refine rvS ?_
        refine rvP C (.pv (.lit (.bool false))) ?_
        refine rvc_nil ?_
        refine Awp.condF (b := false) rfl rfl ?_
        refine Awp.skip ?_
        refine Awp.consP C ?_
        refine rvP C (.pv (.lit (.int .u64 n))) ?_
        refine rvP C (.pv (.lit (.int .u64 (IntKind.u64.wrap ((r.b.D[(IntKind.i64.wrap (r.at_ + (i : Int))).toNat]!).tmod 128))))) ?_
        refine rvP C (.pv (.lit (.int .u64 step))) ?_
        refine rvP C (.pv (.lit (.int .u64 (IntKind.u64.wrap ((IntKind.u64.wrap ((r.b.D[(IntKind.i64.wrap (r.at_ + (i : Int))).toNat]!).tmod 128)) * step))))) ?_
        refine rvP C (.pv (.lit (.int .u64 (IntKind.u64.wrap (n + (IntKind.u64.wrap ((IntKind.u64.wrap ((r.b.D[(IntKind.i64.wrap (r.at_ + (i : Int))).toNat]!).tmod 128)) * step))))))) ?_
        refine rvP C (.pv (.lit (.int .u64 (IntKind.u64.wrap (n + (IntKind.u64.wrap ((IntKind.u64.wrap ((r.b.D[(IntKind.i64.wrap (r.at_ + (i : Int))).toNat]!).tmod 128)) * step))))))) ?_
        refine rvc_nil ?_
        refine Awp.consP C ?_
        refine rvP C (.pv (.lit (.int .u64 step))) ?_
        refine rvP C (.pv (.lit (.int .u64 (IntKind.u64.wrap (step * 128))))) ?_
        refine rvP C (.pv (.lit (.int .u64 (IntKind.u64.wrap (step * 128))))) ?_
        refine rvc_nil ?_
        refine Awp.consP C ?_
        refine rvP C (.pv (.lit (.int .u8 (r.b.D[(IntKind.i64.wrap (r.at_ + (i : Int))).toNat]!)))) ?_
        refine rvP C (.pv (.lit (.bool (decide ((r.b.D[(IntKind.i64.wrap (r.at_ + (i : Int))).toNat]!) < 128))))) ?_
        refine rvc_nil ?_
        refine Awp.cond (b := (decide ((r.b.D[(IntKind.i64.wrap (r.at_ + (i : Int))).toNat]!) < 128))) rfl (fun h14 => ?_) (fun h14 => ?_)
        ·
         replace hR := of_true h14 hR
         refine Awp.consP C ?_
         refine rvP C (.ptr 0 0) ?_
         refine rvP C (.ptr 0 0) ?_
         refine rvP C (.ptr 0 0) ?_
         refine rvP C (.ptr 0 1) ?_
         refine rvP C (.pv (.lit (.int .i64 r.at_))) ?_
         refine rvP C (.pv (.lit (.int .i64 (i : Int)))) ?_
         refine rvP C (.pv (.lit (.int .i64 (IntKind.i64.wrap (r.at_ + (i : Int)))))) ?_
         refine rvP C (.pv (.lit (.int .i64 (IntKind.i64.wrap ((IntKind.i64.wrap (r.at_ + (i : Int))) + 1))))) ?_
         refine rvP C (.ptr 0 0) ?_
         refine rvP C (.ptr 0 1) ?_
         refine rvc_un (rexec_prim C (δ := { v := .undef, wr := [(0, some (.cells [sS (some r.b.nil) (eI .u8) r.b.D, .pv (.lit (.int .i64 (IntKind.i64.wrap ((IntKind.i64.wrap (r.at_ + (i : Int))) + 1)))), .pv (.lit (.int .i64 r.e_))]))] }) rfl rfl rfl rfl trivial rfl ?_)
         refine rvc_nil ?_
         refine Awp.consP C ?_
         refine rvP C (.pv (.lit (.int .u64 (IntKind.u64.wrap (n + (IntKind.u64.wrap ((IntKind.u64.wrap ((r.b.D[(IntKind.i64.wrap (r.at_ + (i : Int))).toNat]!).tmod 128)) * step))))))) ?_
         refine rvP C (.pv (.lit (.int .u64 (IntKind.u64.wrap (n + (IntKind.u64.wrap ((IntKind.u64.wrap ((r.b.D[(IntKind.i64.wrap (r.at_ + (i : Int))).toNat]!).tmod 128)) * step))))))) ?_
         refine rvc_nil ?_
         refine Awp.ret ?_
         subst hR
         exact ⟨.inl rfl, rfl, rfl⟩
        ·
         replace hR := of_false h14 hR
         refine Awp.skip ?_
         refine Awp.regionP C ?_
         refine rvP C (.pv (.lit (.int .i64 (IntKind.i64.wrap ((i : Int) + 1))))) ?_
         refine rvP C (.pv (.lit (.int .i64 (IntKind.i64.wrap ((i : Int) + 1))))) ?_
         refine rvc_nil ?_
         refine ⟨h4, ((IntKind.u64.wrap (n + (IntKind.u64.wrap ((IntKind.u64.wrap ((r.b.D[(IntKind.i64.wrap (r.at_ + (i : Int))).toNat]!).tmod 128)) * step)))), (IntKind.u64.wrap (step * 128))), ?_, ?_⟩
         · exact (by rw [show 11 - (i + 1) = k by omega]; exact hR)
         · exact ⟨fun b => b, WeakerR.ofLI (I := [0]) (Ks := [0]) hI ⟨⟨rfl, rfl⟩, ⟨rfl, rfl⟩, ⟨rfl, rfl⟩, ⟨lit_cast (wrap_i64 (by omega) (by omega)), rfl⟩, trivial⟩ (okH_cons rfl rfl rfl rfl (okH_nil)) rfl rfl⟩
     ·
      replace hR := of_false h9 hR
      refine rvS ?_
      refine rvS ?_
      refine rvO C (.pv (.lit (.bool false))) ?_
      refine rvP C (.pv (.lit (.bool false))) ?_
      refine rvc_nil ?_
      refine Awp.condF (b := false) rfl rfl ?_
      refine Awp.skip ?_
      refine Awp.seq ?_
      refine Awp.consP C ?_
      refine rvP C (.pv (.lit (.int .u8 (r.b.D[(IntKind.i64.wrap (r.at_ + (i : Int))).toNat]!)))) ?_
      refine rvP C (.pv (.lit (.bool ((r.b.D[(IntKind.i64.wrap (r.at_ + (i : Int))).toNat]!) == 0)))) ?_
      refine rvP C (.pv (.lit (.bool ((r.b.D[(IntKind.i64.wrap (r.at_ + (i : Int))).toNat]!) == 0)))) ?_
      refine rvc_case 61 ((r.b.D[(IntKind.i64.wrap (r.at_ + (i : Int))).toNat]!) == 0) rfl (fun h15 => ?_) (fun h15 => ?_)
      ·
       replace hR := of_true h15 hR
       refine rvO C (.pv (.lit (.int .i64 (i : Int)))) ?_
       refine rvO C (.pv (.lit (.bool (decide ((i : Int) > 0))))) ?_
       refine rvP C (.pv (.lit (.bool (decide ((i : Int) > 0))))) ?_
       refine rvc_nil ?_
       refine Awp.cond (b := (decide ((i : Int) > 0))) rfl (fun h16 => ?_) (fun h16 => ?_)
       ·
        replace hR := of_true h16 hR
        refine Awp.consP C ?_
        refine rvP C (.ptr 0 0) ?_
        refine rvP C (.ptr 0 0) ?_
        refine rvP C (.ptr 0 2) ?_
        refine rvc_un (rexec_prim C (δ := { v := .undef, wr := [(0, some (.cells [sS (some r.b.nil) (eI .u8) r.b.D, .pv (.lit (.int .i64 r.at_)), .pv (.lit (.int .i64 10))]))] }) rfl rfl rfl rfl trivial rfl ?_)
        refine rvc_nil ?_
        refine Awp.consP C ?_
        refine rvP C (.pv (.lit (.int .u64 0))) ?_
        refine rvc_nil ?_
        refine Awp.ret ?_
        subst hR
        exact ⟨.inl rfl, rfl, rfl⟩
       ·
        replace hR := of_false h16 hR
        refine Awp.skip ?_
        refine Awp.consP C ?_
        refine rvP C (.pv (.lit (.int .u64 n))) ?_
        refine rvP C (.pv (.lit (.int .u64 (IntKind.u64.wrap ((r.b.D[(IntKind.i64.wrap (r.at_ + (i : Int))).toNat]!).tmod 128))))) ?_
        refine rvP C (.pv (.lit (.int .u64 step))) ?_
        refine rvP C (.pv (.lit (.int .u64 (IntKind.u64.wrap ((IntKind.u64.wrap ((r.b.D[(IntKind.i64.wrap (r.at_ + (i : Int))).toNat]!).tmod 128)) * step))))) ?_
        refine rvP C (.pv (.lit (.int .u64 (IntKind.u64.wrap (n + (IntKind.u64.wrap ((IntKind.u64.wrap ((r.b.D[(IntKind.i64.wrap (r.at_ + (i : Int))).toNat]!).tmod 128)) * step))))))) ?_
        refine rvP C (.pv (.lit (.int .u64 (IntKind.u64.wrap (n + (IntKind.u64.wrap ((IntKind.u64.wrap ((r.b.D[(IntKind.i64.wrap (r.at_ + (i : Int))).toNat]!).tmod 128)) * step))))))) ?_
        refine rvc_nil ?_
        refine Awp.consP C ?_
        refine rvP C (.pv (.lit (.int .u64 step))) ?_
        refine rvP C (.pv (.lit (.int .u64 (IntKind.u64.wrap (step * 128))))) ?_
        refine rvP C (.pv (.lit (.int .u64 (IntKind.u64.wrap (step * 128))))) ?_
        refine rvc_nil ?_
        refine Awp.consP C ?_
        refine rvP C (.pv (.lit (.int .u8 (r.b.D[(IntKind.i64.wrap (r.at_ + (i : Int))).toNat]!)))) ?_
        refine rvP C (.pv (.lit (.bool (decide ((r.b.D[(IntKind.i64.wrap (r.at_ + (i : Int))).toNat]!) < 128))))) ?_
        refine rvc_nil ?_
        refine Awp.cond (b := (decide ((r.b.D[(IntKind.i64.wrap (r.at_ + (i : Int))).toNat]!) < 128))) rfl (fun h17 => ?_) (fun h17 => ?_)
        ·
         replace hR := of_true h17 hR
         refine Awp.consP C ?_
         refine rvP C (.ptr 0 0) ?_
         refine rvP C (.ptr 0 0) ?_
         refine rvP C (.ptr 0 0) ?_
         refine rvP C (.ptr 0 1) ?_
         refine rvP C (.pv (.lit (.int .i64 r.at_))) ?_
         refine rvP C (.pv (.lit (.int .i64 (i : Int)))) ?_
         refine rvP C (.pv (.lit (.int .i64 (IntKind.i64.wrap (r.at_ + (i : Int)))))) ?_
         refine rvP C (.pv (.lit (.int .i64 (IntKind.i64.wrap ((IntKind.i64.wrap (r.at_ + (i : Int))) + 1))))) ?_
         refine rvP C (.ptr 0 0) ?_
         refine rvP C (.ptr 0 1) ?_
         refine rvc_un (rexec_prim C (δ := { v := .undef, wr := [(0, some (.cells [sS (some r.b.nil) (eI .u8) r.b.D, .pv (.lit (.int .i64 (IntKind.i64.wrap ((IntKind.i64.wrap (r.at_ + (i : Int))) + 1)))), .pv (.lit (.int .i64 r.e_))]))] }) rfl rfl rfl rfl trivial rfl ?_)
         refine rvc_nil ?_
         refine Awp.consP C ?_
         refine rvP C (.pv (.lit (.int .u64 (IntKind.u64.wrap (n + (IntKind.u64.wrap ((IntKind.u64.wrap ((r.b.D[(IntKind.i64.wrap (r.at_ + (i : Int))).toNat]!).tmod 128)) * step))))))) ?_
         refine rvP C (.pv (.lit (.int .u64 (IntKind.u64.wrap (n + (IntKind.u64.wrap ((IntKind.u64.wrap ((r.b.D[(IntKind.i64.wrap (r.at_ + (i : Int))).toNat]!).tmod 128)) * step))))))) ?_
         refine rvc_nil ?_
         refine Awp.ret ?_
         subst hR
         exact ⟨.inl rfl, rfl, rfl⟩
        ·
         replace hR := of_false h17 hR
         refine Awp.skip ?_
         refine Awp.regionP C ?_
         refine rvP C (.pv (.lit (.int .i64 (IntKind.i64.wrap ((i : Int) + 1))))) ?_
         refine rvP C (.pv (.lit (.int .i64 (IntKind.i64.wrap ((i : Int) + 1))))) ?_
         refine rvc_nil ?_
         refine ⟨h4, ((IntKind.u64.wrap (n + (IntKind.u64.wrap ((IntKind.u64.wrap ((r.b.D[(IntKind.i64.wrap (r.at_ + (i : Int))).toNat]!).tmod 128)) * step)))), (IntKind.u64.wrap (step * 128))), ?_, ?_⟩
         · exact (by rw [show 11 - (i + 1) = k by omega]; exact hR)
         · exact ⟨fun b => b, WeakerR.ofLI (I := [0]) (Ks := [0]) hI ⟨⟨rfl, rfl⟩, ⟨rfl, rfl⟩, ⟨rfl, rfl⟩, ⟨lit_cast (wrap_i64 (by omega) (by omega)), rfl⟩, trivial⟩ (okH_cons rfl rfl rfl rfl (okH_nil)) rfl rfl⟩
      ·
       replace hR := of_false h15 hR
       refine rvS ?_
       refine rvS ?_
       refine rvP C (.pv (.lit (.bool false))) ?_
       refine rvc_nil ?_
       refine Awp.condF (b := false) rfl rfl ?_
       refine Awp.skip ?_
       refine Awp.consP C ?_
       refine rvP C (.pv (.lit (.int .u64 n))) ?_
       refine rvP C (.pv (.lit (.int .u64 (IntKind.u64.wrap ((r.b.D[(IntKind.i64.wrap (r.at_ + (i : Int))).toNat]!).tmod 128))))) ?_
       refine rvP C (.pv (.lit (.int .u64 step))) ?_
       refine rvP C (.pv (.lit (.int .u64 (IntKind.u64.wrap ((IntKind.u64.wrap ((r.b.D[(IntKind.i64.wrap (r.at_ + (i : Int))).toNat]!).tmod 128)) * step))))) ?_
       refine rvP C (.pv (.lit (.int .u64 (IntKind.u64.wrap (n + (IntKind.u64.wrap ((IntKind.u64.wrap ((r.b.D[(IntKind.i64.wrap (r.at_ + (i : Int))).toNat]!).tmod 128)) * step))))))) ?_
       refine rvP C (.pv (.lit (.int .u64 (IntKind.u64.wrap (n + (IntKind.u64.wrap ((IntKind.u64.wrap ((r.b.D[(IntKind.i64.wrap (r.at_ + (i : Int))).toNat]!).tmod 128)) * step))))))) ?_
       refine rvc_nil ?_
       refine Awp.consP C ?_
       refine rvP C (.pv (.lit (.int .u64 step))) ?_
       refine rvP C (.pv (.lit (.int .u64 (IntKind.u64.wrap (step * 128))))) ?_
       refine rvP C (.pv (.lit (.int .u64 (IntKind.u64.wrap (step * 128))))) ?_
       refine rvc_nil ?_
       refine Awp.consP C ?_
       refine rvP C (.pv (.lit (.int .u8 (r.b.D[(IntKind.i64.wrap (r.at_ + (i : Int))).toNat]!)))) ?_
       refine rvP C (.pv (.lit (.bool (decide ((r.b.D[(IntKind.i64.wrap (r.at_ + (i : Int))).toNat]!) < 128))))) ?_
       refine rvc_nil ?_
       refine Awp.cond (b := (decide ((r.b.D[(IntKind.i64.wrap (r.at_ + (i : Int))).toNat]!) < 128))) rfl (fun h18 => ?_) (fun h18 => ?_)
       ·
        replace hR := of_true h18 hR
        refine Awp.consP C ?_
        refine rvP C (.ptr 0 0) ?_
        refine rvP C (.ptr 0 0) ?_
        refine rvP C (.ptr 0 0) ?_
        refine rvP C (.ptr 0 1) ?_
        refine rvP C (.pv (.lit (.int .i64 r.at_))) ?_
        refine rvP C (.pv (.lit (.int .i64 (i : Int)))) ?_
        refine rvP C (.pv (.lit (.int .i64 (IntKind.i64.wrap (r.at_ + (i : Int)))))) ?_
        refine rvP C (.pv (.lit (.int .i64 (IntKind.i64.wrap ((IntKind.i64.wrap (r.at_ + (i : Int))) + 1))))) ?_
        refine rvP C (.ptr 0 0) ?_
        refine rvP C (.ptr 0 1) ?_
        refine rvc_un (rexec_prim C (δ := { v := .undef, wr := [(0, some (.cells [sS (some r.b.nil) (eI .u8) r.b.D, .pv (.lit (.int .i64 (IntKind.i64.wrap ((IntKind.i64.wrap (r.at_ + (i : Int))) + 1)))), .pv (.lit (.int .i64 r.e_))]))] }) rfl rfl rfl rfl trivial rfl ?_)
        refine rvc_nil ?_
        refine Awp.consP C ?_
        refine rvP C (.pv (.lit (.int .u64 (IntKind.u64.wrap (n + (IntKind.u64.wrap ((IntKind.u64.wrap ((r.b.D[(IntKind.i64.wrap (r.at_ + (i : Int))).toNat]!).tmod 128)) * step))))))) ?_
        refine rvP C (.pv (.lit (.int .u64 (IntKind.u64.wrap (n + (IntKind.u64.wrap ((IntKind.u64.wrap ((r.b.D[(IntKind.i64.wrap (r.at_ + (i : Int))).toNat]!).tmod 128)) * step))))))) ?_
        refine rvc_nil ?_
        refine Awp.ret ?_
        subst hR
        exact ⟨.inl rfl, rfl, rfl⟩
       ·
        replace hR := of_false h18 hR
        refine Awp.skip ?_
        refine Awp.regionP C ?_
        refine rvP C (.pv (.lit (.int .i64 (IntKind.i64.wrap ((i : Int) + 1))))) ?_
        refine rvP C (.pv (.lit (.int .i64 (IntKind.i64.wrap ((i : Int) + 1))))) ?_
        refine rvc_nil ?_
        refine ⟨h4, ((IntKind.u64.wrap (n + (IntKind.u64.wrap ((IntKind.u64.wrap ((r.b.D[(IntKind.i64.wrap (r.at_ + (i : Int))).toNat]!).tmod 128)) * step)))), (IntKind.u64.wrap (step * 128))), ?_, ?_⟩
        · exact (by rw [show 11 - (i + 1) = k by omega]; exact hR)
        · exact ⟨fun b => b, WeakerR.ofLI (I := [0]) (Ks := [0]) hI ⟨⟨rfl, rfl⟩, ⟨rfl, rfl⟩, ⟨rfl, rfl⟩, ⟨lit_cast (wrap_i64 (by omega) (by omega)), rfl⟩, trivial⟩ (okH_cons rfl rfl rfl rfl (okH_nil)) rfl rfl⟩
  ·
   rw [show 11 - i = 0 by have := of_decide_eq_false h3; omega] at hR
   refine Awp.exit ?_
   refine Awp.consP C ?_
   refine rvP C (.pv (.lit (.int .u64 0))) ?_
   refine rvc_nil ?_
   refine Awp.ret ?_
   subst hR
   exact ⟨.inl rfl, rfl, rfl⟩
theorem shr7 (n : Int) : shrI .u64 n 7 = n / 128 := rfl
def putInv (b : Nat) (x : Int) (b1 : List Int) (n : Int) : Prop := ∃ k : Nat, b1.length = b + k ∧ 1 ≤ n ∧ n.toNat * 128 ^ k ≤ x.toNat
theorem putInv_start {D : List Int} {x y : Int} (h : 128 ≤ x) : putInv D.length x (D ++ [y]) (shrI .u64 x 7) := by
  rw [shr7]
  exact ⟨1, by simp, by omega, by omega⟩
theorem putInv_step {b : Nat} {x y n : Int} {b1 : List Int} (h : putInv b x b1 n) (hn : 128 ≤ n) : putInv b x (b1 ++ [y]) (shrI .u64 n 7) := by
  obtain ⟨k, h1, h2, h3⟩ := h
  rw [shr7]
  refine ⟨k + 1, by rw [List.length_append, List.length_singleton]; omega, by omega, Nat.le_trans ?_ h3⟩
  rw [Nat.pow_succ, Nat.mul_comm (128 ^ k), ← Nat.mul_assoc]
  exact Nat.mul_le_mul_right _ (by omega)
theorem putInv_le {b : Nat} {x n : Int} {b1 : List Int} (h : putInv b x b1 n) (hx : x < 18446744073709551616) : b1.length ≤ b + 9 := by
  obtain ⟨k, h1, h2, h3⟩ := h
  rcases Nat.lt_or_ge k 10 with hk | hk
  · omega
  · have h4 : 128 ^ 10 ≤ 128 ^ k := Nat.pow_le_pow_right (by decide) hk
    have h5 : 1 * 128 ^ k ≤ n.toNat * 128 ^ k := Nat.mul_le_mul_right _ (by omega)
    have h6 : (128 : Nat) ^ 10 = 1180591620717411303424 := by decide
    omega
def wPut_l1 (kk : (List Int) → Int → (Sl Int)) : Nat → (List Int) → Int → (Sl Int)
  | 0, _, _ => default
  | nn + 1, b1, n => (bif (decide (n ≥ 128)) then wPut_l1 kk nn (b1 ++ [(bitI .or .u8 (IntKind.u8.wrap n) 128)]) (shrI .u64 n 7) else kk b1 n)
def wPut (b : (Sl Int)) (x : Int) : (Sl Int) :=
  (bif (decide (x ≥ 128)) then wPut_l1 (fun b1 n => (Sl.mk false (b1 ++ [(IntKind.u8.wrap n)]))) ((shrI .u64 x 7).toNat + 1) (b.D ++ [(bitI .or .u8 (IntKind.u8.wrap x) 128)]) (shrI .u64 x 7) else (Sl.mk false (b.D ++ [(IntKind.u8.wrap x)])))
def rdNew (b : (Sl Int)) : Reader :=
  (Reader.mk (Sl.mk false b.D) 0 0 true)
theorem rdNew_calls (b : (Sl Int)) (hl1 : b.D.length ≤ 1000000) : OCalls Tryd.prog 37 [sS (some b.nil) (eI .u8) b.D] (.ptr 0 0) (.cells [sS (some (rdNew b).b.nil) (eI .u8) ((rdNew b).b.D), .pv (.lit (.int .i64 ((rdNew b).at_))), .pv (.lit (.int .i64 ((rdNew b).err))), .pv (.lit (.bool ((rdNew b).made)))]) := by
 generalize hR : rdNew b = R
 refine OCalls.of_body tabOk Tryd.func37 rfl rfl rfl rfl rfl rfl mixed fun E hP C hI => ?_
 refine Awp.consP C ?_
 refine rvP C (.pv (.lit (.pointer none))) ?_
 refine rvc_nil ?_
 refine Awp.consP C ?_
 refine rvc_un (rexec_prim C (δ := { v := .sl 3 0 0 1 true, new := [(3, .cells (encC (eI .u8) []))] }) rfl rfl rfl rfl trivial rfl ?_)
 refine rvP C (sS (some b.nil) (eI .u8) b.D) ?_
 refine rvc_un (rexec_append C rfl rfl rfl rfl rfl rfl rfl rfl (fun _ h => by cases h) rfl (en := (eI .u8)) (D0 := []) (D := b.D) rfl rfl rfl rfl (by first | omega | (simp <;> omega)) (by decide) (nn := b.D.length) (by simp) ?_)
 refine rvP C (.agg [.sl 5 0 b.D.length 1 false, .pv (.lit (.int .i64 0)), .pv (.lit (.int .i64 0)), .pv (.lit (.bool true))]) ?_
 refine rvc_un (rexec_prim C (δ := { v := .ptr 7 0, new := [(7, .cells [.sl 5 0 b.D.length 1 false, .pv (.lit (.int .i64 0)), .pv (.lit (.int .i64 0)), .pv (.lit (.bool true))])] }) rfl rfl rfl rfl trivial rfl ?_)
 refine rvP C (.ptr 7 0) ?_
 refine rvc_nil ?_
 refine Awp.freezeW 5 (encL (eI .u8) b.D) ?_ [(2, .ptr 7 0)] [(7, .cells [sS (some false) (eI .u8) b.D, .pv (.lit (.int .i64 0)), .pv (.lit (.int .i64 0)), .pv (.lit (.bool true))])] ?_ ?_ ?_
 · rfl
 · exact ⟨⟨_, rfl, .inl (.inl rfl)⟩, trivial⟩
 · exact ⟨⟨(by show (7 : Nat) ≠ 5; decide), .inr ⟨_, _, rfl, rfl, ⟨.inr ⟨_, _, _, rfl, rfl⟩, .inl rfl, .inl rfl, .inl rfl, trivial⟩⟩⟩, trivial⟩
 refine Awp.weakenR (S := [(2, .ptr 0 0)]) (H := [(0, .cells [sS (some false) (eI .u8) b.D, .pv (.lit (.int .i64 0)), .pv (.lit (.int .i64 0)), .pv (.lit (.bool true))])]) (U := [0]) (fun x => bif x == 0 then 7 else x) (WeakerR.ofL (Ks := [0]) hI ⟨⟨rfl, rfl⟩, trivial⟩ (okH_cons rfl rfl rfl rfl okH_nil) rfl) ?_
 refine Awp.ret ?_
 subst hR
 exact ⟨.inl rfl, rfl, rfl⟩
def rdIn (r : Reader) (lo : Int) (hi : Int) : Reader × Int :=
  (bif ((rdErr (rdNum r).1) != 0) then ((rdNum r).1, 0) else (bif (decide ((rdNum r).2 > 4611686018427387904)) then ((rdStop (rdNum r).1 (IntKind.i64.wrap (((rdNum r).1.b.D.length : Int) - (rdLeft r))) 5), 0) else (bif (decide ((IntKind.i64.wrap (rdNum r).2) < lo)) then ((rdStop (rdNum r).1 (IntKind.i64.wrap (((rdNum r).1.b.D.length : Int) - (rdLeft r))) 5), 0) else (bif (decide ((IntKind.i64.wrap (rdNum r).2) > hi)) then ((rdStop (rdNum r).1 (IntKind.i64.wrap (((rdNum r).1.b.D.length : Int) - (rdLeft r))) 5), 0) else ((rdNum r).1, (IntKind.i64.wrap (rdNum r).2))))))
theorem rdIn_calls (r : Reader) (lo : Int) (hi : Int) (hk : (0 ≤ r.at_ ∧ r.at_ ≤ (r.b.D.length : Int)) ∧ r.b.D.length ≤ 1000000) : MCalls Tryd.prog 38 [.ptr 0 0, .pv (.lit (.int .i64 lo)), .pv (.lit (.int .i64 hi))] (.cells [sS (some r.b.nil) (eI .u8) r.b.D, .pv (.lit (.int .i64 r.at_)), .pv (.lit (.int .i64 r.err)), .pv (.lit (.bool r.made))]) (.pv (.lit (.int .i64 ((rdIn r lo hi).2)))) (.cells [sS (some (rdIn r lo hi).1.b.nil) (eI .u8) ((rdIn r lo hi).1.b.D), .pv (.lit (.int .i64 ((rdIn r lo hi).1.at_))), .pv (.lit (.int .i64 ((rdIn r lo hi).1.err))), .pv (.lit (.bool ((rdIn r lo hi).1.made)))]) := by
 generalize hR : rdIn r lo hi = R
 refine MCalls.of_body tabOk Tryd.func38 rfl rfl rfl rfl rfl rfl rfl mixed fun E hP C hI => ?_
 refine Awp.consP C ?_
 refine rvP C (.pv (.lit (.int .i64 0))) ?_
 refine rvc_nil ?_
 refine Awp.cons C (fun _ => .writer) (by kernel_rfl) ?_
 refine rvP C (.ptr 0 0) ?_
 refine rvc_un (rexec_callM hP C (b := 0) rfl rfl rfl (rdLeft_calls r) rfl rfl ?_)
 refine rvP C (.pv (.lit (.int .i64 (rdLeft r)))) ?_
 refine rvc_nil ?_
 refine Awp.cons C (fun _ => .writer) (by kernel_rfl) ?_
 refine rvP C (.ptr 0 0) ?_
 obtain ⟨nu, hq_nu⟩ : ∃ q_, q_ = (rdNum r) := ⟨_, rfl⟩
 have hc_nu := (rdNum_calls r hk)
 first | rw [← hq_nu] at hR hc_nu | (unfold rdIn at hR; rw [← hq_nu] at hR hc_nu)
 refine rvc_un (rexec_callM hP C (b := 0) rfl rfl rfl hc_nu rfl rfl ?_)
 refine rvP C (.pv (.lit (.int .u64 nu.2))) ?_
 refine rvc_nil ?_
 refine Awp.seq ?_
 refine Awp.cons C (fun _ => .writer) (by kernel_rfl) ?_
 refine rvP C (.ptr 0 0) ?_
 refine rvc_un (rexec_callM hP C (b := 0) rfl rfl rfl (rdErr_calls nu.1) rfl rfl ?_)
 refine rvP C (.pv (.lit (.bool ((rdErr nu.1) != 0)))) ?_
 refine rvc_nil ?_
 refine Awp.cond (b := ((rdErr nu.1) != 0)) rfl (fun h1 => ?_) (fun h1 => ?_)
 ·
  replace hR := of_true h1 hR
  refine Awp.consP C ?_
  refine rvP C (.pv (.lit (.int .i64 0))) ?_
  refine rvc_nil ?_
  refine Awp.ret ?_
  subst hR
  exact ⟨.inl rfl, rfl, rfl⟩
 ·
  replace hR := of_false h1 hR
  refine Awp.skip ?_
  refine Awp.seq ?_
  refine Awp.consP C ?_
  refine rvP C (.pv (.lit (.int .u64 nu.2))) ?_
  refine rvP C (.pv (.lit (.bool (decide (nu.2 > 4611686018427387904))))) ?_
  refine rvP C (.pv (.lit (.bool (decide (nu.2 > 4611686018427387904))))) ?_
  refine rvc_case 18 (decide (nu.2 > 4611686018427387904)) rfl (fun h2 => ?_) (fun h2 => ?_)
  ·
   replace hR := of_true h2 hR
   refine rvS ?_
   refine rvS ?_
   refine rvS ?_
   refine rvS ?_
   refine rvP C (.pv (.lit (.bool true))) ?_
   refine rvP C (.pv (.lit (.bool true))) ?_
   refine rvS ?_
   refine rvS ?_
   refine rvS ?_
   refine rvS ?_
   refine rvP C (.pv (.lit (.bool true))) ?_
   refine rvc_nil ?_
   refine Awp.condT (b := true) rfl rfl ?_
   refine Awp.cons C (fun _ => .writer) (by kernel_rfl) ?_
   refine rvP C (.ptr 0 0) ?_
   refine rvP C (.ptr 0 0) ?_
   refine rvP C (.ptr 0 0) ?_
   refine rvP C (.ptr 0 0) ?_
   refine rvP C (sS (some nu.1.b.nil) (eI .u8) nu.1.b.D) ?_
   refine rvP C (.pv (.lit (.int .i64 (nu.1.b.D.length : Int)))) ?_
   refine rvP C (.pv (.lit (.int .i64 (rdLeft r)))) ?_
   refine rvP C (.pv (.lit (.int .i64 (IntKind.i64.wrap ((nu.1.b.D.length : Int) - (rdLeft r)))))) ?_
   refine rvc_un (rexec_callM hP C (b := 0) rfl rfl rfl (rdStop_calls nu.1 (IntKind.i64.wrap ((nu.1.b.D.length : Int) - (rdLeft r))) 5) rfl rfl ?_)
   refine rvc_nil ?_
   refine Awp.consP C ?_
   refine rvP C (.pv (.lit (.int .i64 0))) ?_
   refine rvc_nil ?_
   refine Awp.ret ?_
   subst hR
   exact ⟨.inl rfl, rfl, rfl⟩
  ·
   replace hR := of_false h2 hR
   refine rvO C (.pv (.lit (.int .u64 nu.2))) ?_
   refine rvO C (.pv (.lit (.int .i64 (IntKind.i64.wrap nu.2)))) ?_
   refine rvO C (.pv (.lit (.int .i64 lo))) ?_
   refine rvO C (.pv (.lit (.bool (decide ((IntKind.i64.wrap nu.2) < lo))))) ?_
   refine rvP C (.pv (.lit (.bool (decide ((IntKind.i64.wrap nu.2) < lo))))) ?_
   refine rvP C (.pv (.lit (.bool (decide ((IntKind.i64.wrap nu.2) < lo))))) ?_
   refine rvc_case 24 (decide ((IntKind.i64.wrap nu.2) < lo)) rfl (fun h3 => ?_) (fun h3 => ?_)
   ·
    replace hR := of_true h3 hR
    refine rvS ?_
    refine rvS ?_
    refine rvS ?_
    refine rvS ?_
    refine rvP C (.pv (.lit (.bool true))) ?_
    refine rvc_nil ?_
    refine Awp.condT (b := true) rfl rfl ?_
    refine Awp.cons C (fun _ => .writer) (by kernel_rfl) ?_
    refine rvP C (.ptr 0 0) ?_
    refine rvP C (.ptr 0 0) ?_
    refine rvP C (.ptr 0 0) ?_
    refine rvP C (.ptr 0 0) ?_
    refine rvP C (sS (some nu.1.b.nil) (eI .u8) nu.1.b.D) ?_
    refine rvP C (.pv (.lit (.int .i64 (nu.1.b.D.length : Int)))) ?_
    refine rvP C (.pv (.lit (.int .i64 (rdLeft r)))) ?_
    refine rvP C (.pv (.lit (.int .i64 (IntKind.i64.wrap ((nu.1.b.D.length : Int) - (rdLeft r)))))) ?_
    refine rvc_un (rexec_callM hP C (b := 0) rfl rfl rfl (rdStop_calls nu.1 (IntKind.i64.wrap ((nu.1.b.D.length : Int) - (rdLeft r))) 5) rfl rfl ?_)
    refine rvc_nil ?_
    refine Awp.consP C ?_
    refine rvP C (.pv (.lit (.int .i64 0))) ?_
    refine rvc_nil ?_
    refine Awp.ret ?_
    subst hR
    exact ⟨.inl rfl, rfl, rfl⟩
   ·
    replace hR := of_false h3 hR
    refine rvO C (.pv (.lit (.int .u64 nu.2))) ?_
    refine rvO C (.pv (.lit (.int .i64 (IntKind.i64.wrap nu.2)))) ?_
    refine rvO C (.pv (.lit (.int .i64 hi))) ?_
    refine rvO C (.pv (.lit (.bool (decide ((IntKind.i64.wrap nu.2) > hi))))) ?_
    refine rvP C (.pv (.lit (.bool (decide ((IntKind.i64.wrap nu.2) > hi))))) ?_
    refine rvc_nil ?_
    refine Awp.cond (b := (decide ((IntKind.i64.wrap nu.2) > hi))) rfl (fun h4 => ?_) (fun h4 => ?_)
    ·
     replace hR := of_true h4 hR
     refine Awp.cons C (fun _ => .writer) (by kernel_rfl) ?_
     refine rvP C (.ptr 0 0) ?_
     refine rvP C (.ptr 0 0) ?_
     refine rvP C (.ptr 0 0) ?_
     refine rvP C (.ptr 0 0) ?_
     refine rvP C (sS (some nu.1.b.nil) (eI .u8) nu.1.b.D) ?_
     refine rvP C (.pv (.lit (.int .i64 (nu.1.b.D.length : Int)))) ?_
     refine rvP C (.pv (.lit (.int .i64 (rdLeft r)))) ?_
     refine rvP C (.pv (.lit (.int .i64 (IntKind.i64.wrap ((nu.1.b.D.length : Int) - (rdLeft r)))))) ?_
     refine rvc_un (rexec_callM hP C (b := 0) rfl rfl rfl (rdStop_calls nu.1 (IntKind.i64.wrap ((nu.1.b.D.length : Int) - (rdLeft r))) 5) rfl rfl ?_)
     refine rvc_nil ?_
     refine Awp.consP C ?_
     refine rvP C (.pv (.lit (.int .i64 0))) ?_
     refine rvc_nil ?_
     refine Awp.ret ?_
     subst hR
     exact ⟨.inl rfl, rfl, rfl⟩
    ·
     replace hR := of_false h4 hR
     refine Awp.skip ?_
     refine Awp.consP C ?_
     refine rvP C (.pv (.lit (.int .u64 nu.2))) ?_
     refine rvP C (.pv (.lit (.int .i64 (IntKind.i64.wrap nu.2)))) ?_
     refine rvP C (.pv (.lit (.int .i64 (IntKind.i64.wrap nu.2)))) ?_
     refine rvc_nil ?_
     refine Awp.ret ?_
     subst hR
     exact ⟨.inl rfl, rfl, rfl⟩
def rrIn (r : Reader69) (lo : Int) (hi : Int) : Reader69 × Int :=
  (bif ((rrNum r).1.e_ == 0) then (bif (decide ((rrNum r).2 > 4611686018427387904)) then (bif ((5 : Int) != 0) then ((Reader69.mk (rrNum r).1.b r.at_ 5), 0) else ((Reader69.mk (rrNum r).1.b r.at_ 5), (IntKind.i64.wrap (rrNum r).2))) else (bif (decide ((IntKind.i64.wrap (rrNum r).2) < lo)) then (bif ((5 : Int) != 0) then ((Reader69.mk (rrNum r).1.b r.at_ 5), 0) else ((Reader69.mk (rrNum r).1.b r.at_ 5), (IntKind.i64.wrap (rrNum r).2))) else (bif (decide ((IntKind.i64.wrap (rrNum r).2) > hi)) then (bif ((5 : Int) != 0) then ((Reader69.mk (rrNum r).1.b r.at_ 5), 0) else ((Reader69.mk (rrNum r).1.b r.at_ 5), (IntKind.i64.wrap (rrNum r).2))) else (bif ((rrNum r).1.e_ != 0) then ((rrNum r).1, 0) else ((rrNum r).1, (IntKind.i64.wrap (rrNum r).2)))))) else (bif ((rrNum r).1.e_ != 0) then ((rrNum r).1, 0) else ((rrNum r).1, (IntKind.i64.wrap (rrNum r).2))))
theorem rrIn_calls (r : Reader69) (lo : Int) (hi : Int) (hk : (0 ≤ r.at_ ∧ r.at_ ≤ (r.b.D.length : Int)) ∧ r.b.D.length ≤ 1000000) : MCalls Tryd.prog 42 [.ptr 0 0, .pv (.lit (.int .i64 lo)), .pv (.lit (.int .i64 hi))] (.cells [sS (some r.b.nil) (eI .u8) r.b.D, .pv (.lit (.int .i64 r.at_)), .pv (.lit (.int .i64 r.e_))]) (.pv (.lit (.int .i64 ((rrIn r lo hi).2)))) (.cells [sS (some (rrIn r lo hi).1.b.nil) (eI .u8) ((rrIn r lo hi).1.b.D), .pv (.lit (.int .i64 ((rrIn r lo hi).1.at_))), .pv (.lit (.int .i64 ((rrIn r lo hi).1.e_)))]) := by
 generalize hR : rrIn r lo hi = R
 refine MCalls.of_body tabOk Tryd.func42 rfl rfl rfl rfl rfl rfl rfl mixed fun E hP C hI => ?_
 refine Awp.consP C ?_
 refine rvP C (.pv (.lit (.int .i64 0))) ?_
 refine rvc_nil ?_
 refine Awp.consP C ?_
 refine rvP C (.ptr 0 0) ?_
 refine rvP C (.ptr 0 0) ?_
 refine rvP C (.ptr 0 1) ?_
 refine rvP C (.pv (.lit (.int .i64 r.at_))) ?_
 refine rvP C (.pv (.lit (.int .i64 r.at_))) ?_
 refine rvc_nil ?_
 refine Awp.cons C (fun _ => .writer) (by kernel_rfl) ?_
 refine rvP C (.ptr 0 0) ?_
 obtain ⟨nu, hq_nu⟩ : ∃ q_, q_ = (rrNum r) := ⟨_, rfl⟩
 have hc_nu := (rrNum_calls r hk)
 first | rw [← hq_nu] at hR hc_nu | (unfold rrIn at hR; rw [← hq_nu] at hR hc_nu)
 refine rvc_un (rexec_callM hP C (b := 0) rfl rfl rfl hc_nu rfl rfl ?_)
 refine rvP C (.pv (.lit (.int .u64 nu.2))) ?_
 refine rvc_nil ?_
 refine Awp.seq ?_
 refine Awp.consP C ?_
 refine rvP C (.ptr 0 0) ?_
 refine rvP C (.ptr 0 0) ?_
 refine rvP C (.ptr 0 2) ?_
 refine rvP C (.pv (.lit (.int .i64 nu.1.e_))) ?_
 refine rvP C (.pv (.lit (.bool (nu.1.e_ == 0)))) ?_
 refine rvP C (.pv (.lit (.bool (nu.1.e_ == 0)))) ?_
 refine rvc_case 20 (nu.1.e_ == 0) rfl (fun h1 => ?_) (fun h1 => ?_)
 ·
  replace hR := of_true h1 hR
  refine rvO C (.pv (.lit (.int .u64 nu.2))) ?_
  refine rvO C (.pv (.lit (.bool (decide (nu.2 > 4611686018427387904))))) ?_
  refine rvO C (.pv (.lit (.bool (decide (nu.2 > 4611686018427387904))))) ?_
  refine rvc_case 23 (decide (nu.2 > 4611686018427387904)) rfl (fun h2 => ?_) (fun h2 => ?_)
  ·
   replace hR := of_true h2 hR
   refine rvS ?_
   refine rvS ?_
   refine rvS ?_
   refine rvS ?_
   refine rvO C (.pv (.lit (.bool true))) ?_
   refine rvO C (.pv (.lit (.bool true))) ?_
   refine rvS ?_
   refine rvS ?_
   refine rvS ?_
   refine rvS ?_
   refine rvO C (.pv (.lit (.bool true))) ?_
   refine rvP C (.pv (.lit (.bool true))) ?_
   refine rvc_nil ?_
   refine Awp.condT (b := true) rfl rfl ?_
   refine Awp.consP C ?_
   refine rvP C (.ptr 0 0) ?_
   refine rvP C (.pv (.lit (.int .i64 r.at_))) ?_
   refine rvP C (.ptr 0 0) ?_
   refine rvP C (.ptr 0 1) ?_
   refine rvc_un (rexec_prim C (δ := { v := .undef, wr := [(0, some (.cells [sS (some nu.1.b.nil) (eI .u8) nu.1.b.D, .pv (.lit (.int .i64 r.at_)), .pv (.lit (.int .i64 nu.1.e_))]))] }) rfl rfl rfl rfl trivial rfl ?_)
   refine rvc_nil ?_
   refine Awp.regionP C ?_
   refine rvP C (.ptr 0 0) ?_
   refine rvP C (.ptr 0 0) ?_
   refine rvP C (.ptr 0 2) ?_
   refine rvc_un (rexec_prim C (δ := { v := .undef, wr := [(0, some (.cells [sS (some nu.1.b.nil) (eI .u8) nu.1.b.D, .pv (.lit (.int .i64 r.at_)), .pv (.lit (.int .i64 5))]))] }) rfl rfl rfl rfl trivial rfl ?_)
   refine rvc_nil ?_
   refine Awp.seq ?_
   refine Awp.consP C ?_
   refine rvP C (.ptr 0 0) ?_
   refine rvP C (.ptr 0 0) ?_
   refine rvP C (.ptr 0 2) ?_
   refine rvP C (.pv (.lit (.int .i64 5))) ?_
   refine rvP C (.pv (.lit (.bool ((5 : Int) != 0)))) ?_
   refine rvc_nil ?_
   refine Awp.cond (b := ((5 : Int) != 0)) rfl (fun h3 => ?_) (fun h3 => ?_)
   ·
    replace hR := of_true h3 hR
    refine Awp.consP C ?_
    refine rvP C (.pv (.lit (.int .i64 0))) ?_
    refine rvc_nil ?_
    refine Awp.ret ?_
    subst hR
    exact ⟨.inl rfl, rfl, rfl⟩
   ·
    replace hR := of_false h3 hR
    refine Awp.skip ?_
    refine Awp.consP C ?_
    refine rvP C (.pv (.lit (.int .u64 nu.2))) ?_
    refine rvP C (.pv (.lit (.int .i64 (IntKind.i64.wrap nu.2)))) ?_
    refine rvP C (.pv (.lit (.int .i64 (IntKind.i64.wrap nu.2)))) ?_
    refine rvc_nil ?_
    refine Awp.ret ?_
    subst hR
    exact ⟨.inl rfl, rfl, rfl⟩
  ·
   replace hR := of_false h2 hR
   refine rvO C (.pv (.lit (.int .u64 nu.2))) ?_
   refine rvO C (.pv (.lit (.int .i64 (IntKind.i64.wrap nu.2)))) ?_
   refine rvO C (.pv (.lit (.int .i64 lo))) ?_
   refine rvO C (.pv (.lit (.bool (decide ((IntKind.i64.wrap nu.2) < lo))))) ?_
   refine rvO C (.pv (.lit (.bool (decide ((IntKind.i64.wrap nu.2) < lo))))) ?_
   refine rvO C (.pv (.lit (.bool (decide ((IntKind.i64.wrap nu.2) < lo))))) ?_
   refine rvc_case 29 (decide ((IntKind.i64.wrap nu.2) < lo)) rfl (fun h4 => ?_) (fun h4 => ?_)
   ·
    replace hR := of_true h4 hR
    refine rvS ?_
    refine rvS ?_
    refine rvS ?_
    refine rvS ?_
    refine rvO C (.pv (.lit (.bool true))) ?_
    refine rvP C (.pv (.lit (.bool true))) ?_
    refine rvc_nil ?_
    refine Awp.condT (b := true) rfl rfl ?_
    refine Awp.consP C ?_
    refine rvP C (.ptr 0 0) ?_
    refine rvP C (.pv (.lit (.int .i64 r.at_))) ?_
    refine rvP C (.ptr 0 0) ?_
    refine rvP C (.ptr 0 1) ?_
    refine rvc_un (rexec_prim C (δ := { v := .undef, wr := [(0, some (.cells [sS (some nu.1.b.nil) (eI .u8) nu.1.b.D, .pv (.lit (.int .i64 r.at_)), .pv (.lit (.int .i64 nu.1.e_))]))] }) rfl rfl rfl rfl trivial rfl ?_)
    refine rvc_nil ?_
    refine Awp.regionP C ?_
    refine rvP C (.ptr 0 0) ?_
    refine rvP C (.ptr 0 0) ?_
    refine rvP C (.ptr 0 2) ?_
    refine rvc_un (rexec_prim C (δ := { v := .undef, wr := [(0, some (.cells [sS (some nu.1.b.nil) (eI .u8) nu.1.b.D, .pv (.lit (.int .i64 r.at_)), .pv (.lit (.int .i64 5))]))] }) rfl rfl rfl rfl trivial rfl ?_)
    refine rvc_nil ?_
    refine Awp.seq ?_
    refine Awp.consP C ?_
    refine rvP C (.ptr 0 0) ?_
    refine rvP C (.ptr 0 0) ?_
    refine rvP C (.ptr 0 2) ?_
    refine rvP C (.pv (.lit (.int .i64 5))) ?_
    refine rvP C (.pv (.lit (.bool ((5 : Int) != 0)))) ?_
    refine rvc_nil ?_
    refine Awp.cond (b := ((5 : Int) != 0)) rfl (fun h5 => ?_) (fun h5 => ?_)
    ·
     replace hR := of_true h5 hR
     refine Awp.consP C ?_
     refine rvP C (.pv (.lit (.int .i64 0))) ?_
     refine rvc_nil ?_
     refine Awp.ret ?_
     subst hR
     exact ⟨.inl rfl, rfl, rfl⟩
    ·
     replace hR := of_false h5 hR
     refine Awp.skip ?_
     refine Awp.consP C ?_
     refine rvP C (.pv (.lit (.int .u64 nu.2))) ?_
     refine rvP C (.pv (.lit (.int .i64 (IntKind.i64.wrap nu.2)))) ?_
     refine rvP C (.pv (.lit (.int .i64 (IntKind.i64.wrap nu.2)))) ?_
     refine rvc_nil ?_
     refine Awp.ret ?_
     subst hR
     exact ⟨.inl rfl, rfl, rfl⟩
   ·
    replace hR := of_false h4 hR
    refine rvO C (.pv (.lit (.int .u64 nu.2))) ?_
    refine rvO C (.pv (.lit (.int .i64 (IntKind.i64.wrap nu.2)))) ?_
    refine rvO C (.pv (.lit (.int .i64 hi))) ?_
    refine rvO C (.pv (.lit (.bool (decide ((IntKind.i64.wrap nu.2) > hi))))) ?_
    refine rvO C (.pv (.lit (.bool (decide ((IntKind.i64.wrap nu.2) > hi))))) ?_
    refine rvP C (.pv (.lit (.bool (decide ((IntKind.i64.wrap nu.2) > hi))))) ?_
    refine rvc_nil ?_
    refine Awp.cond (b := (decide ((IntKind.i64.wrap nu.2) > hi))) rfl (fun h6 => ?_) (fun h6 => ?_)
    ·
     replace hR := of_true h6 hR
     refine Awp.consP C ?_
     refine rvP C (.ptr 0 0) ?_
     refine rvP C (.pv (.lit (.int .i64 r.at_))) ?_
     refine rvP C (.ptr 0 0) ?_
     refine rvP C (.ptr 0 1) ?_
     refine rvc_un (rexec_prim C (δ := { v := .undef, wr := [(0, some (.cells [sS (some nu.1.b.nil) (eI .u8) nu.1.b.D, .pv (.lit (.int .i64 r.at_)), .pv (.lit (.int .i64 nu.1.e_))]))] }) rfl rfl rfl rfl trivial rfl ?_)
     refine rvc_nil ?_
     refine Awp.regionP C ?_
     refine rvP C (.ptr 0 0) ?_
     refine rvP C (.ptr 0 0) ?_
     refine rvP C (.ptr 0 2) ?_
     refine rvc_un (rexec_prim C (δ := { v := .undef, wr := [(0, some (.cells [sS (some nu.1.b.nil) (eI .u8) nu.1.b.D, .pv (.lit (.int .i64 r.at_)), .pv (.lit (.int .i64 5))]))] }) rfl rfl rfl rfl trivial rfl ?_)
     refine rvc_nil ?_
     refine Awp.seq ?_
     refine Awp.consP C ?_
     refine rvP C (.ptr 0 0) ?_
     refine rvP C (.ptr 0 0) ?_
     refine rvP C (.ptr 0 2) ?_
     refine rvP C (.pv (.lit (.int .i64 5))) ?_
     refine rvP C (.pv (.lit (.bool ((5 : Int) != 0)))) ?_
     refine rvc_nil ?_
     refine Awp.cond (b := ((5 : Int) != 0)) rfl (fun h7 => ?_) (fun h7 => ?_)
     ·
      replace hR := of_true h7 hR
      refine Awp.consP C ?_
      refine rvP C (.pv (.lit (.int .i64 0))) ?_
      refine rvc_nil ?_
      refine Awp.ret ?_
      subst hR
      exact ⟨.inl rfl, rfl, rfl⟩
     ·
      replace hR := of_false h7 hR
      refine Awp.skip ?_
      refine Awp.consP C ?_
      refine rvP C (.pv (.lit (.int .u64 nu.2))) ?_
      refine rvP C (.pv (.lit (.int .i64 (IntKind.i64.wrap nu.2)))) ?_
      refine rvP C (.pv (.lit (.int .i64 (IntKind.i64.wrap nu.2)))) ?_
      refine rvc_nil ?_
      refine Awp.ret ?_
      subst hR
      exact ⟨.inl rfl, rfl, rfl⟩
    ·
     replace hR := of_false h6 hR
     refine Awp.skip ?_
     refine Awp.seq ?_
     refine Awp.consP C ?_
     refine rvP C (.ptr 0 0) ?_
     refine rvP C (.ptr 0 0) ?_
     refine rvP C (.ptr 0 2) ?_
     refine rvP C (.pv (.lit (.int .i64 nu.1.e_))) ?_
     refine rvP C (.pv (.lit (.bool (nu.1.e_ != 0)))) ?_
     refine rvc_nil ?_
     refine Awp.cond (b := (nu.1.e_ != 0)) rfl (fun h8 => ?_) (fun h8 => ?_)
     ·
      replace hR := of_true h8 hR
      refine Awp.consP C ?_
      refine rvP C (.pv (.lit (.int .i64 0))) ?_
      refine rvc_nil ?_
      refine Awp.ret ?_
      subst hR
      exact ⟨.inl rfl, rfl, rfl⟩
     ·
      replace hR := of_false h8 hR
      refine Awp.skip ?_
      refine Awp.consP C ?_
      refine rvP C (.pv (.lit (.int .u64 nu.2))) ?_
      refine rvP C (.pv (.lit (.int .i64 (IntKind.i64.wrap nu.2)))) ?_
      refine rvP C (.pv (.lit (.int .i64 (IntKind.i64.wrap nu.2)))) ?_
      refine rvc_nil ?_
      refine Awp.ret ?_
      subst hR
      exact ⟨.inl rfl, rfl, rfl⟩
 ·
  replace hR := of_false h1 hR
  refine rvS ?_
  refine rvS ?_
  refine rvS ?_
  refine rvc_shutU rfl rfl rfl ?_
  refine rvc_shutU rfl rfl rfl ?_
  refine rvc_shutU rfl rfl rfl ?_
  refine rvc_shutU rfl rfl rfl ?_
  refine rvS ?_
  refine rvS ?_
  refine rvc_shutU rfl rfl rfl ?_
  refine rvc_shutU rfl rfl rfl ?_
  refine rvc_shutU rfl rfl rfl ?_
  refine rvc_shutU rfl rfl rfl ?_
  refine rvS ?_
  refine rvP C (.pv (.lit (.bool false))) ?_
  refine rvc_nil ?_
  refine Awp.condF (b := false) rfl rfl ?_
  refine Awp.skip ?_
  refine Awp.seq ?_
  refine Awp.consP C ?_
  refine rvP C (.ptr 0 0) ?_
  refine rvP C (.ptr 0 0) ?_
  refine rvP C (.ptr 0 2) ?_
  refine rvP C (.pv (.lit (.int .i64 nu.1.e_))) ?_
  refine rvP C (.pv (.lit (.bool (nu.1.e_ != 0)))) ?_
  refine rvc_nil ?_
  refine Awp.cond (b := (nu.1.e_ != 0)) rfl (fun h9 => ?_) (fun h9 => ?_)
  ·
   replace hR := of_true h9 hR
   refine Awp.consP C ?_
   refine rvP C (.pv (.lit (.int .i64 0))) ?_
   refine rvc_nil ?_
   refine Awp.ret ?_
   subst hR
   exact ⟨.inl rfl, rfl, rfl⟩
  ·
   replace hR := of_false h9 hR
   refine Awp.skip ?_
   refine Awp.consP C ?_
   refine rvP C (.pv (.lit (.int .u64 nu.2))) ?_
   refine rvP C (.pv (.lit (.int .i64 (IntKind.i64.wrap nu.2)))) ?_
   refine rvP C (.pv (.lit (.int .i64 (IntKind.i64.wrap nu.2)))) ?_
   refine rvc_nil ?_
   refine Awp.ret ?_
   subst hR
   exact ⟨.inl rfl, rfl, rfl⟩
def rrEnd (r : Reader69) : Int :=
  (bif (r.e_ == 0) then (bif (decide (r.at_ < (r.b.D.length : Int))) then 3 else r.e_) else r.e_)
theorem rrEnd_calls (r : Reader69)  : MCalls Tryd.prog 44 [.ptr 0 0] (.cells [sS (some r.b.nil) (eI .u8) r.b.D, .pv (.lit (.int .i64 r.at_)), .pv (.lit (.int .i64 r.e_))]) (.pv (.lit (.int .i64 (rrEnd r)))) (.cells [sS (some r.b.nil) (eI .u8) r.b.D, .pv (.lit (.int .i64 r.at_)), .pv (.lit (.int .i64 r.e_))]) := by
 generalize hR : rrEnd r = R
 refine MCalls.of_body tabOk Tryd.func44 rfl rfl rfl rfl rfl rfl rfl mixed fun E hP C hI => ?_
 refine Awp.consP C ?_
 refine rvP C (.pv (.lit (.int .i64 0))) ?_
 refine rvc_nil ?_
 refine Awp.seq ?_
 refine Awp.consP C ?_
 refine rvP C (.ptr 0 0) ?_
 refine rvP C (.ptr 0 0) ?_
 refine rvP C (.ptr 0 2) ?_
 refine rvP C (.pv (.lit (.int .i64 r.e_))) ?_
 refine rvP C (.pv (.lit (.bool (r.e_ == 0)))) ?_
 refine rvP C (.pv (.lit (.bool (r.e_ == 0)))) ?_
 refine rvc_case 8 (r.e_ == 0) rfl (fun h1 => ?_) (fun h1 => ?_)
 ·
  replace hR := of_true h1 hR
  refine rvO C (.ptr 0 0) ?_
  refine rvO C (.ptr 0 0) ?_
  refine rvO C (.ptr 0 1) ?_
  refine rvO C (.pv (.lit (.int .i64 r.at_))) ?_
  refine rvO C (.ptr 0 0) ?_
  refine rvO C (.ptr 0 0) ?_
  refine rvO C (.ptr 0 0) ?_
  refine rvO C (sS (some r.b.nil) (eI .u8) r.b.D) ?_
  refine rvO C (.pv (.lit (.int .i64 (r.b.D.length : Int)))) ?_
  refine rvO C (.pv (.lit (.bool (decide (r.at_ < (r.b.D.length : Int)))))) ?_
  refine rvP C (.pv (.lit (.bool (decide (r.at_ < (r.b.D.length : Int)))))) ?_
  refine rvc_nil ?_
  refine Awp.cond (b := (decide (r.at_ < (r.b.D.length : Int)))) rfl (fun h2 => ?_) (fun h2 => ?_)
  ·
   replace hR := of_true h2 hR
   refine Awp.consP C ?_
   refine rvP C (.pv (.lit (.int .i64 3))) ?_
   refine rvc_nil ?_
   refine Awp.ret ?_
   subst hR
   exact ⟨.inl rfl, rfl, rfl⟩
  ·
   replace hR := of_false h2 hR
   refine Awp.skip ?_
   refine Awp.consP C ?_
   refine rvP C (.ptr 0 0) ?_
   refine rvP C (.ptr 0 0) ?_
   refine rvP C (.ptr 0 2) ?_
   refine rvP C (.pv (.lit (.int .i64 r.e_))) ?_
   refine rvP C (.pv (.lit (.int .i64 r.e_))) ?_
   refine rvc_nil ?_
   refine Awp.ret ?_
   subst hR
   exact ⟨.inl rfl, rfl, rfl⟩
 ·
  replace hR := of_false h1 hR
  refine rvS ?_
  refine rvS ?_
  refine rvS ?_
  refine rvS ?_
  refine rvS ?_
  refine rvS ?_
  refine rvS ?_
  refine rvS ?_
  refine rvS ?_
  refine rvS ?_
  refine rvP C (.pv (.lit (.bool false))) ?_
  refine rvc_nil ?_
  refine Awp.condF (b := false) rfl rfl ?_
  refine Awp.skip ?_
  refine Awp.consP C ?_
  refine rvP C (.ptr 0 0) ?_
  refine rvP C (.ptr 0 0) ?_
  refine rvP C (.ptr 0 2) ?_
  refine rvP C (.pv (.lit (.int .i64 r.e_))) ?_
  refine rvP C (.pv (.lit (.int .i64 r.e_))) ?_
  refine rvc_nil ?_
  refine Awp.ret ?_
  subst hR
  exact ⟨.inl rfl, rfl, rfl⟩
def eqBytes (a : (Sl Int)) (b : (Sl Int)) : Bool :=
  ((strOf a.D).toList == (strOf b.D).toList)
theorem eqBytes_calls (a : (Sl Int)) (b : (Sl Int))  : PCalls Tryd.prog 17 [sS (some a.nil) (eI .u8) a.D, sS (some b.nil) (eI .u8) b.D] (.pv (.lit (.bool (eqBytes a b)))) := by
 generalize hR : eqBytes a b = R
 refine PCalls.of_body tabOk Tryd.func17 rfl rfl rfl rfl rfl mixed fun E hP C hI => ?_
 refine Awp.consP C ?_
 refine rvP C (.pv (.lit (.bool false))) ?_
 refine rvc_nil ?_
 refine Awp.consP C ?_
 refine rvP C (sS (some a.nil) (eI .u8) a.D) ?_
 refine rvc_un (rexec_convS C rfl rfl rfl rfl rfl rfl rfl rfl ?_)
 refine rvP C (sS (some b.nil) (eI .u8) b.D) ?_
 refine rvc_un (rexec_convS C rfl rfl rfl rfl rfl rfl rfl rfl ?_)
 refine rvP C (.pv (.lit (.bool ((strOf a.D).toList == (strOf b.D).toList)))) ?_
 refine rvP C (.pv (.lit (.bool ((strOf a.D).toList == (strOf b.D).toList)))) ?_
 refine rvc_nil ?_
 refine Awp.ret ?_
 subst hR
 exact ⟨.inl rfl, rfl⟩
def cloneBytes (s : (Sl Int)) : (Sl Int) :=
  (bif s.nil then (Sl.mk true []) else (Sl.mk false s.D))
theorem cloneBytes_calls (s : (Sl Int)) (hl1 : s.D.length ≤ 1000000) : PCalls Tryd.prog 19 [sS (some s.nil) (eI .u8) s.D] (sS (some (cloneBytes s).nil) (eI .u8) ((cloneBytes s).D)) := by
 generalize hR : cloneBytes s = R
 refine PCalls.of_body tabOk Tryd.func19 rfl rfl rfl rfl rfl mixed fun E hP C hI => ?_
 refine Awp.consP C ?_
 refine rvP C (sS (some true) (eI .u8) []) ?_
 refine rvc_nil ?_
 refine Awp.seq ?_
 refine Awp.consP C ?_
 refine rvP C (sS (some s.nil) (eI .u8) s.D) ?_
 refine rvc_un (rexec_eqNil C (f := s.nil) rfl rfl rfl rfl ?_)
 refine rvc_nil ?_
 refine Awp.cond (b := s.nil) rfl (fun h1 => ?_) (fun h1 => ?_)
 ·
  replace hR := of_true h1 hR
  refine Awp.consP C ?_
  refine rvP C (sS (some true) (eI .u8) []) ?_
  refine rvc_nil ?_
  refine Awp.ret ?_
  subst hR
  exact ⟨.inl rfl, rfl⟩
 ·
  replace hR := of_false h1 hR
  refine Awp.skip ?_
  refine Awp.consP C ?_
  refine rvc_un (rexec_prim C (δ := { v := .sl 5 0 0 1 true, new := [(5, .cells (encC (eI .u8) []))] }) rfl rfl rfl rfl trivial rfl ?_)
  refine rvP C (sS (some s.nil) (eI .u8) s.D) ?_
  refine rvc_un (rexec_append C rfl rfl rfl rfl rfl rfl rfl rfl (fun _ h => by cases h) rfl (en := (eI .u8)) (D0 := []) (D := s.D) rfl rfl rfl rfl (by first | omega | (simp <;> omega)) (by decide) (nn := s.D.length) (by simp) ?_)
  refine rvP C (.sl 7 0 s.D.length 1 false) ?_
  refine rvc_nil ?_
  refine Awp.freezeW 7 (encL (eI .u8) s.D) ?_ [(2, sS (some false) (eI .u8) s.D)] [] ?_ ?_ ?_
  · rfl
  · exact ⟨⟨_, rfl, .inl (.inr ⟨_, _, _, rfl, rfl⟩)⟩, trivial⟩
  · exact trivial
  refine Awp.ret ?_
  subst hR
  exact ⟨.inl rfl, rfl⟩
def rLess (a : (Nat → Int)) (b : (Nat → Int)) : Bool :=
  (Op.bytesLess (strOf (tbF a 8 0)).toList (strOf (tbF b 8 0)).toList)
theorem rLess_calls (a : (Nat → Int)) (b : (Nat → Int))  : PCalls Tryd.prog 31 [.agg [.pv (.lit (.int .u8 (a 0))), .pv (.lit (.int .u8 (a 1))), .pv (.lit (.int .u8 (a 2))), .pv (.lit (.int .u8 (a 3))), .pv (.lit (.int .u8 (a 4))), .pv (.lit (.int .u8 (a 5))), .pv (.lit (.int .u8 (a 6))), .pv (.lit (.int .u8 (a 7)))], .agg [.pv (.lit (.int .u8 (b 0))), .pv (.lit (.int .u8 (b 1))), .pv (.lit (.int .u8 (b 2))), .pv (.lit (.int .u8 (b 3))), .pv (.lit (.int .u8 (b 4))), .pv (.lit (.int .u8 (b 5))), .pv (.lit (.int .u8 (b 6))), .pv (.lit (.int .u8 (b 7)))]] (.pv (.lit (.bool (rLess a b)))) := by
 generalize hR : rLess a b = R
 refine PCalls.of_body tabOk Tryd.func31 rfl rfl rfl rfl rfl mixed fun E hP C hI => ?_
 refine Awp.consP C ?_
 refine rvc_un (rexec_boxF C [.lit (.int .u8 (a 0)), .lit (.int .u8 (a 1)), .lit (.int .u8 (a 2)), .lit (.int .u8 (a 3)), .lit (.int .u8 (a 4)), .lit (.int .u8 (a 5)), .lit (.int .u8 (a 6)), .lit (.int .u8 (a 7))] rfl rfl rfl rfl ?_)
 refine rvc_un (rexec_boxF C [.lit (.int .u8 (b 0)), .lit (.int .u8 (b 1)), .lit (.int .u8 (b 2)), .lit (.int .u8 (b 3)), .lit (.int .u8 (b 4)), .lit (.int .u8 (b 5)), .lit (.int .u8 (b 6)), .lit (.int .u8 (b 7))] rfl rfl rfl rfl ?_)
 refine rvP C (.pv (.lit (.bool false))) ?_
 refine rvc_nil ?_
 refine Awp.consP C ?_
 refine rvc_un (rexec_prim C (δ := { v := sS (some false) (eI .u8) (tbF a 8 0) }) rfl rfl rfl rfl (by decide) rfl ?_)
 refine rvc_un (rexec_convS C rfl rfl rfl rfl rfl rfl rfl rfl ?_)
 refine rvc_un (rexec_prim C (δ := { v := sS (some false) (eI .u8) (tbF b 8 0) }) rfl rfl rfl rfl (by decide) rfl ?_)
 refine rvc_un (rexec_convS C rfl rfl rfl rfl rfl rfl rfl rfl ?_)
 refine rvP C (.pv (.lit (.bool (Op.bytesLess (strOf (tbF a 8 0)).toList (strOf (tbF b 8 0)).toList)))) ?_
 refine rvP C (.pv (.lit (.bool (Op.bytesLess (strOf (tbF a 8 0)).toList (strOf (tbF b 8 0)).toList)))) ?_
 refine rvc_nil ?_
 refine Awp.ret ?_
 subst hR
 exact ⟨.inl rfl, rfl⟩
def r9Name_l0 (k : (Nat → Int)) : Nat → Nat → Int → ByteArray
  | 0, _, n => (strOf ((tbF k 8 0).take n.toNat))
  | k1 + 1, i, n => (bif ((k i) != 0) then r9Name_l0 k k1 (i + 1) (IntKind.i64.wrap ((i : Int) + 1)) else r9Name_l0 k k1 (i + 1) n)
def r9Name (k : (Nat → Int)) : ByteArray :=
  r9Name_l0 k 8 0 0
theorem r9Name_calls (k : (Nat → Int))  : PCalls Tryd.prog 69 [.agg [.pv (.lit (.int .u8 (k 0))), .pv (.lit (.int .u8 (k 1))), .pv (.lit (.int .u8 (k 2))), .pv (.lit (.int .u8 (k 3))), .pv (.lit (.int .u8 (k 4))), .pv (.lit (.int .u8 (k 5))), .pv (.lit (.int .u8 (k 6))), .pv (.lit (.int .u8 (k 7)))]] (.pv (.lit (.string (r9Name k)))) := by
 generalize hR : r9Name k = R
 refine PCalls.of_body tabOk Tryd.func69 rfl rfl rfl rfl rfl mixed fun E hP C hI => ?_
 refine Awp.consP C ?_
 refine rvc_un (rexec_boxF C [.lit (.int .u8 (k 0)), .lit (.int .u8 (k 1)), .lit (.int .u8 (k 2)), .lit (.int .u8 (k 3)), .lit (.int .u8 (k 4)), .lit (.int .u8 (k 5)), .lit (.int .u8 (k 6)), .lit (.int .u8 (k 7))] rfl rfl rfl rfl ?_)
 refine rvP C (.pv (.lit (.string ⟨#[]⟩))) ?_
 refine rvc_nil ?_
 refine Awp.consP C ?_
 refine rvP C (.pv (.lit (.int .i64 0))) ?_
 refine rvc_nil ?_
 refine Awp.seq ?_
 refine Awp.consP C ?_
 refine rvP C (.agg [.pv (.lit (.int .u8 (k 0))), .pv (.lit (.int .u8 (k 1))), .pv (.lit (.int .u8 (k 2))), .pv (.lit (.int .u8 (k 3))), .pv (.lit (.int .u8 (k 4))), .pv (.lit (.int .u8 (k 5))), .pv (.lit (.int .u8 (k 6))), .pv (.lit (.int .u8 (k 7)))]) ?_
 refine rvP C (.pv (.lit (.int .i64 0))) ?_
 refine rvc_nil ?_
 refine Awp.block ?_
 refine Awp.forR (σ := Int) (8) (fun i v => [(1, .rp [.lit (.int .u8 (k 0)), .lit (.int .u8 (k 1)), .lit (.int .u8 (k 2)), .lit (.int .u8 (k 3)), .lit (.int .u8 (k 4)), .lit (.int .u8 (k 5)), .lit (.int .u8 (k 6)), .lit (.int .u8 (k 7))]), (3, .pv (.lit (.int .i64 v))), (6, .agg [.pv (.lit (.int .u8 (k 0))), .pv (.lit (.int .u8 (k 1))), .pv (.lit (.int .u8 (k 2))), .pv (.lit (.int .u8 (k 3))), .pv (.lit (.int .u8 (k 4))), .pv (.lit (.int .u8 (k 5))), .pv (.lit (.int .u8 (k 6))), .pv (.lit (.int .u8 (k 7)))]), (7, .pv (.lit (.int .i64 (i : Int))))]) (fun i v => []) [] (fun i v => (r9Name_l0 k (8 - i) i v = R) ∧ (0 ≤ v ∧ v ≤ 8)) 0 ?_ ?_ (fun i n h1 hR => ?_)
 · exact ⟨hR, (by decide)⟩
 · exact ⟨fun b => b, WeakerR.ofL (Ks := []) hI ⟨⟨rfl, rfl⟩, ⟨rfl, rfl⟩, ⟨rfl, rfl⟩, ⟨rfl, rfl⟩, trivial⟩ (okH_nil) rfl⟩
 obtain ⟨hR, hV⟩ := hR
 replace hV : 0 ≤ n ∧ n ≤ 8 := hV
 refine Awp.consP C ?_
 refine rvP C (.pv (.lit (.bool (decide ((i : Int) < 8))))) ?_
 refine rvc_nil ?_
 refine Awp.seq ?_
 refine Awp.cond (b := (decide ((i : Int) < 8))) rfl (fun h2 => ?_) (fun h2 => ?_)
 ·
  have h3 : i < 8 := by have := of_decide_eq_true h2; omega
  obtain ⟨k1, h4⟩ : ∃ k, 8 - i = k + 1 := ⟨8 - i - 1, by omega⟩
  rw [h4] at hR
  refine Awp.skip ?_
  refine Awp.seq ?_
  refine Awp.block ?_
  refine Awp.consP C ?_
  refine rvP C (.pv (.lit (.int .i64 (i : Int)))) ?_
  refine rvc_un (rexec_idxA C (fun j => .pv (.lit (.int .u8 (k j)))) (.pv (.lit (.int .u8 (k i)))) rfl rfl rfl rfl rfl rfl rfl rfl ⟨(by have := of_decide_eq_true h2; omega), (by have := of_decide_eq_true h2; omega)⟩ rfl ?_)
  refine rvP C (.pv (.lit (.int .i64 (i : Int)))) ?_
  refine rvP C (.pv (.lit (.int .u8 (k i)))) ?_
  refine rvc_nil ?_
  refine Awp.consP C ?_
  refine rvP C (.pv (.lit (.int .u8 (k i)))) ?_
  refine rvP C (.pv (.lit (.bool ((k i) != 0)))) ?_
  refine rvc_nil ?_
  refine Awp.cond (b := ((k i) != 0)) rfl (fun h5 => ?_) (fun h5 => ?_)
  ·
   replace hR := of_true h5 hR
   refine Awp.regionP C ?_
   refine rvP C (.pv (.lit (.int .i64 (i : Int)))) ?_
   refine rvP C (.pv (.lit (.int .i64 (IntKind.i64.wrap ((i : Int) + 1))))) ?_
   refine rvP C (.pv (.lit (.int .i64 (IntKind.i64.wrap ((i : Int) + 1))))) ?_
   refine rvc_nil ?_
   refine Awp.regionP C ?_
   refine rvP C (.pv (.lit (.int .i64 (IntKind.i64.wrap ((i : Int) + 1))))) ?_
   refine rvP C (.pv (.lit (.int .i64 (IntKind.i64.wrap ((i : Int) + 1))))) ?_
   refine rvc_nil ?_
   refine ⟨h3, (IntKind.i64.wrap ((i : Int) + 1)), ?_, ?_⟩
   · exact ⟨(by rw [show 8 - (i + 1) = k1 by omega]; exact hR), (by have := wrapI ((i : Int) + 1); omega)⟩
   · exact ⟨fun b => b, WeakerR.ofL (Ks := []) hI ⟨⟨rfl, rfl⟩, ⟨rfl, rfl⟩, ⟨rfl, rfl⟩, ⟨lit_cast (wrap_i64 (by omega) (by omega)), rfl⟩, trivial⟩ (okH_nil) rfl⟩
  ·
   replace hR := of_false h5 hR
   refine Awp.skip ?_
   refine Awp.regionP C ?_
   refine rvP C (.pv (.lit (.int .i64 (IntKind.i64.wrap ((i : Int) + 1))))) ?_
   refine rvP C (.pv (.lit (.int .i64 (IntKind.i64.wrap ((i : Int) + 1))))) ?_
   refine rvc_nil ?_
   refine ⟨h3, n, ?_, ?_⟩
   · exact ⟨(by rw [show 8 - (i + 1) = k1 by omega]; exact hR), (by have := wrapI ((i : Int) + 1); omega)⟩
   · exact ⟨fun b => b, WeakerR.ofL (Ks := []) hI ⟨⟨rfl, rfl⟩, ⟨rfl, rfl⟩, ⟨rfl, rfl⟩, ⟨lit_cast (wrap_i64 (by omega) (by omega)), rfl⟩, trivial⟩ (okH_nil) rfl⟩
 ·
  rw [show 8 - i = 0 by have := of_decide_eq_false h2; omega] at hR
  refine Awp.exit ?_
  refine Awp.consP C ?_
  refine rvP C (.pv (.lit (.int .i64 n))) ?_
  refine rvc_un (rexec_sliceRp C (tbF k 8 0) n.toNat rfl rfl rfl rfl rfl rfl (by have := of_decide_eq_false h2; omega) (by have := of_decide_eq_false h2; omega) rfl ?_)
  refine rvc_un (rexec_convS C rfl rfl rfl rfl rfl rfl rfl rfl ?_)
  refine rvP C (.pv (.lit (.string (strOf ((tbF k 8 0).take n.toNat))))) ?_
  refine rvc_nil ?_
  refine Awp.ret ?_
  subst hR
  exact ⟨.inl rfl, rfl⟩
def shName_l0 (k : (Nat → Int)) : Nat → Int → ByteArray
  | 0, _ => default
  | nn + 1, n => (bif (decide (n > 0)) then (bif ((k (IntKind.i64.wrap (n - 1)).toNat) == 0) then shName_l0 k nn (IntKind.i64.wrap (n - 1)) else (strOf ((tbF k 8 0).take n.toNat))) else (strOf ((tbF k 8 0).take n.toNat)))
def shName (k : (Nat → Int)) : ByteArray :=
  shName_l0 k (((8 : Int).toNat) + 1) 8
theorem shName_calls (k : (Nat → Int))  : PCalls Tryd.prog 48 [.agg [.pv (.lit (.int .u8 (k 0))), .pv (.lit (.int .u8 (k 1))), .pv (.lit (.int .u8 (k 2))), .pv (.lit (.int .u8 (k 3))), .pv (.lit (.int .u8 (k 4))), .pv (.lit (.int .u8 (k 5))), .pv (.lit (.int .u8 (k 6))), .pv (.lit (.int .u8 (k 7)))]] (.pv (.lit (.string (shName k)))) := by
 generalize hR : shName k = R
 refine PCalls.of_body tabOk Tryd.func48 rfl rfl rfl rfl rfl mixed fun E hP C hI => ?_
 refine Awp.consP C ?_
 refine rvc_un (rexec_boxF C [.lit (.int .u8 (k 0)), .lit (.int .u8 (k 1)), .lit (.int .u8 (k 2)), .lit (.int .u8 (k 3)), .lit (.int .u8 (k 4)), .lit (.int .u8 (k 5)), .lit (.int .u8 (k 6)), .lit (.int .u8 (k 7))] rfl rfl rfl rfl ?_)
 refine rvP C (.pv (.lit (.string ⟨#[]⟩))) ?_
 refine rvc_nil ?_
 refine Awp.consP C ?_
 refine rvP C (.pv (.lit (.int .i64 8))) ?_
 refine rvc_nil ?_
 refine Awp.seq ?_
 refine Awp.block ?_
 refine Awp.forM (σ := Int) (fun v => [(1, .rp [.lit (.int .u8 (k 0)), .lit (.int .u8 (k 1)), .lit (.int .u8 (k 2)), .lit (.int .u8 (k 3)), .lit (.int .u8 (k 4)), .lit (.int .u8 (k 5)), .lit (.int .u8 (k 6)), .lit (.int .u8 (k 7))]), (3, .pv (.lit (.int .i64 v)))]) (fun v => []) [] (fun n v => n = ((v : Int).toNat) ∧ shName_l0 k (((v : Int).toNat) + 1) v = R ∧ (0 ≤ v ∧ v ≤ 8)) (((8 : Int).toNat)) 8 ?_ ?_ (fun _ n h1 => ?_)
 · exact ⟨rfl, hR, (by decide)⟩
 · exact ⟨fun b => b, WeakerR.ofL (Ks := []) hI ⟨⟨rfl, rfl⟩, ⟨rfl, rfl⟩, trivial⟩ (okH_nil) rfl⟩
 obtain ⟨rfl, hR, hV⟩ := h1
 replace hV : 0 ≤ n ∧ n ≤ 8 := hV
 refine Awp.seq ?_
 refine Awp.consP C ?_
 refine rvP C (.pv (.lit (.int .i64 n))) ?_
 refine rvP C (.pv (.lit (.bool (decide (n > 0))))) ?_
 refine rvP C (.pv (.lit (.bool (decide (n > 0))))) ?_
 refine rvc_case 6 (decide (n > 0)) rfl (fun h3 => ?_) (fun h3 => ?_)
 ·
  replace hR := of_true h3 hR
  refine rvO C (.pv (.lit (.int .i64 n))) ?_
  refine rvO C (.pv (.lit (.int .i64 (IntKind.i64.wrap (n - 1))))) ?_
  refine rvc_open rfl rfl rfl (rexec_idxRpA C (fun p => .lit (.int .u8 (k p))) (.lit (.int .u8 (k (IntKind.i64.wrap (n - 1)).toNat))) rfl rfl rfl rfl rfl rfl rfl ⟨(by have := wrapI (n - 1); have := of_decide_eq_true ‹decide (n > 0) = true›; omega), (by have := wrapI (n - 1); have := of_decide_eq_true ‹decide (n > 0) = true›; omega)⟩ rfl ?_)
  refine rvO C (.pv (.lit (.int .u8 (k (IntKind.i64.wrap (n - 1)).toNat)))) ?_
  refine rvO C (.pv (.lit (.bool ((k (IntKind.i64.wrap (n - 1)).toNat) == 0)))) ?_
  refine rvP C (.pv (.lit (.bool ((k (IntKind.i64.wrap (n - 1)).toNat) == 0)))) ?_
  refine rvc_nil ?_
  refine Awp.cond (b := ((k (IntKind.i64.wrap (n - 1)).toNat) == 0)) rfl (fun h4 => ?_) (fun h4 => ?_)
  ·
   replace hR := of_true h4 hR
   refine Awp.skip ?_
   refine Awp.block ?_
   refine Awp.regionP C ?_
   refine rvP C (.pv (.lit (.int .i64 n))) ?_
   refine rvP C (.pv (.lit (.int .i64 (IntKind.i64.wrap (n - 1))))) ?_
   refine rvP C (.pv (.lit (.int .i64 (IntKind.i64.wrap (n - 1))))) ?_
   refine rvc_nil ?_
   refine ⟨_, (IntKind.i64.wrap (n - 1)), ?_, ⟨rfl, (by rw [show (((IntKind.i64.wrap (n - 1)) : Int).toNat) + 1 = ((n : Int).toNat) by (have := wrapI (n - 1); have := of_decide_eq_true ‹decide (n > 0) = true›; omega)]; exact hR), (by have := wrapI (n - 1); have := of_decide_eq_true ‹decide (n > 0) = true›; omega)⟩, ?_⟩
   · show (((IntKind.i64.wrap (n - 1)) : Int).toNat) < ((n : Int).toNat); (have := wrapI (n - 1); have := of_decide_eq_true ‹decide (n > 0) = true›; omega)
   · exact ⟨fun b => b, WeakerR.ofL (Ks := []) hI ⟨⟨rfl, rfl⟩, ⟨rfl, rfl⟩, trivial⟩ (okH_nil) rfl⟩
  ·
   replace hR := of_false h4 hR
   refine Awp.exit ?_
   refine Awp.consP C ?_
   refine rvP C (.pv (.lit (.int .i64 n))) ?_
   refine rvc_un (rexec_sliceRp C (tbF k 8 0) n.toNat rfl rfl rfl rfl rfl rfl (by have := wrapI (n - 1); have := of_decide_eq_true h3; have := ne_of_beq_false h4; omega) (by have := wrapI (n - 1); have := of_decide_eq_true h3; have := ne_of_beq_false h4; omega) rfl ?_)
   refine rvc_un (rexec_convS C rfl rfl rfl rfl rfl rfl rfl rfl ?_)
   refine rvP C (.pv (.lit (.string (strOf ((tbF k 8 0).take n.toNat))))) ?_
   refine rvc_nil ?_
   refine Awp.ret ?_
   subst hR
   exact ⟨.inl rfl, rfl⟩
 ·
  replace hR := of_false h3 hR
  refine rvS ?_
  refine rvS ?_
  refine rvS ?_
  refine rvS ?_
  refine rvS ?_
  refine rvP C (.pv (.lit (.bool false))) ?_
  refine rvc_nil ?_
  refine Awp.condF (b := false) rfl rfl ?_
  refine Awp.exit ?_
  refine Awp.consP C ?_
  refine rvP C (.pv (.lit (.int .i64 n))) ?_
  refine rvc_un (rexec_sliceRp C (tbF k 8 0) n.toNat rfl rfl rfl rfl rfl rfl (by have := of_decide_eq_false h3; omega) (by have := of_decide_eq_false h3; omega) rfl ?_)
  refine rvc_un (rexec_convS C rfl rfl rfl rfl rfl rfl rfl rfl ?_)
  refine rvP C (.pv (.lit (.string (strOf ((tbF k 8 0).take n.toNat))))) ?_
  refine rvc_nil ?_
  refine Awp.ret ?_
  subst hR
  exact ⟨.inl rfl, rfl⟩
theorem r9plain_x : PCalls Tryd.prog 70 [.pv (.lit (.string ⟨#[120]⟩))] (.pv (.lit (.bool true))) := by
  refine PCalls.of_body tabOk Tryd.func70 rfl rfl rfl rfl rfl mixed fun E hP C hI => ?_
  refine Awp.consP C ?_
  refine rvc_prim C rfl rfl rfl rfl trivial rfl ?_
  refine rvc_nil ?_
  refine Awp.seq ?_
  refine Awp.cons C (fun _ => .writer) (by kernel_rfl) ?_
  refine rvc_prim C rfl rfl rfl rfl trivial rfl ?_
  refine rvc_un (rexec_rangeStr C rfl rfl (s := ⟨#[120]⟩) rfl rfl rfl ?_)
  refine rvc_nil ?_
  refine Awp.block ?_
  refine Awp.rounds 2 ?_
  refine Arounds.succ ?_
  refine Awp.cons C (fun _ => .writer) (by kernel_rfl) ?_
  refine rvc_un (rexec_nextStr C rfl (s := ⟨#[120]⟩) (pos := 0) 120 1 rfl rfl (by decide) (by decide +kernel) ?_)
  refine rvc_prim C rfl rfl rfl rfl trivial rfl ?_
  refine rvc_nil ?_
  refine Awp.seq ?_
  refine Awp.condT (b := true) rfl rfl ?_
  refine Awp.skip ?_
  refine Awp.block ?_
  refine Awp.consP C ?_
  refine rvc_prim C rfl rfl rfl rfl trivial rfl ?_
  refine rvc_prim C rfl rfl rfl rfl trivial rfl ?_
  refine rvc_prim C rfl rfl rfl rfl trivial rfl ?_
  refine rvc_prim C rfl rfl rfl rfl trivial rfl ?_
  refine rvc_nil ?_
  refine Awp.consP C ?_
  refine rvc_prim C rfl rfl rfl rfl trivial rfl ?_
  refine rvP C (.pv (.lit (.bool false))) ?_
  refine rvc_prim C rfl rfl rfl rfl trivial rfl ?_
  iterate 6 refine rvc_shut rfl rfl rfl rfl ?_
  iterate 6 refine rvc_shutU rfl rfl rfl ?_
  refine rvS ?_
  refine rvP C (.pv (.lit (.bool false))) ?_
  refine rvc_nil ?_
  refine Awp.condF (b := false) rfl rfl ?_
  refine Awp.skip ?_
  refine Arounds.succ ?_
  refine Awp.cons C (fun _ => .writer) (by kernel_rfl) ?_
  refine rvc_un (rexec_nextEnd C rfl (s := ⟨#[120]⟩) (pos := 1) rfl rfl (by decide) ?_)
  refine rvc_prim C rfl rfl rfl rfl trivial rfl ?_
  refine rvc_nil ?_
  refine Awp.seq ?_
  refine Awp.condF (b := false) rfl rfl ?_
  refine Awp.exit ?_
  refine Awp.consP C ?_
  refine rvc_prim C rfl rfl rfl rfl trivial rfl ?_
  refine rvc_nil ?_
  refine Awp.ret ?_
  exact ⟨.inl rfl, rfl⟩
theorem valid_x : PCalls Tryd.prog 49 [.pv (.lit (.string ⟨#[120]⟩))] (.pv (.lit (.bool true))) := by
  refine PCalls.of_body tabOk Tryd.func49 rfl rfl rfl rfl rfl mixed fun E hP C hI => ?_
  refine Awp.consP C ?_
  refine rvc_prim C rfl rfl rfl rfl trivial rfl ?_
  refine rvc_nil ?_
  refine Awp.seq ?_
  refine Awp.block ?_
  refine Awp.rounds 2 ?_
  refine Arounds.succ ?_
  refine Awp.seq ?_
  refine Awp.consP C ?_
  refine rvc_prim C rfl rfl rfl rfl trivial rfl ?_
  refine rvP C (.pv (.lit (.int .i64 1))) ?_
  refine rvP C (.pv (.lit (.bool true))) ?_
  refine rvc_nil ?_
  refine Awp.condT (b := true) rfl rfl ?_
  refine Awp.skip ?_
  refine Awp.block ?_
  refine Awp.consP C ?_
  refine rvc_prim C rfl rfl rfl rfl trivial rfl ?_
  refine rvc_un (rexec_prim C (δ := { v := .pv (.lit (.int .u8 120)) }) rfl rfl rfl rfl (by decide) rfl ?_)
  refine rvc_prim C rfl rfl rfl rfl trivial rfl ?_
  refine rvc_nil ?_
  refine Awp.seq ?_
  refine Awp.consP C ?_
  refine rvc_prim C rfl rfl rfl rfl trivial rfl ?_
  refine rvP C (.pv (.lit (.bool true))) ?_
  refine rvc_nil ?_
  refine Awp.condT (b := true) rfl rfl ?_
  refine Awp.consP C ?_
  refine rvc_prim C rfl rfl rfl rfl trivial rfl ?_
  refine rvc_un (rexec_prim C (δ := { v := .pv (.lit (.string ⟨#[]⟩)) }) rfl rfl rfl rfl (by decide) rfl ?_)
  refine rvc_prim C rfl rfl rfl rfl trivial rfl ?_
  refine rvc_nil ?_
  refine Awp.seq ?_
  refine Awp.cons C (fun _ => .writer) (by kernel_rfl) ?_
  refine rvc_prim C rfl rfl rfl rfl trivial rfl ?_
  refine rvP C (.pv (.lit (.int .i64 0))) ?_
  refine rvP C (.pv (.lit (.bool false))) ?_
  refine rvc_prim C rfl rfl rfl rfl trivial rfl ?_
  iterate 4 refine rvc_shut rfl rfl rfl rfl ?_
  refine rvP C (.pv (.lit (.bool false))) ?_
  refine rvc_nil ?_
  refine Awp.condF (b := false) rfl rfl ?_
  refine Awp.skip ?_
  refine Awp.exit ?_
  refine Arounds.succ ?_
  refine Awp.seq ?_
  refine Awp.consP C ?_
  refine rvc_prim C rfl rfl rfl rfl trivial rfl ?_
  refine rvP C (.pv (.lit (.int .i64 0))) ?_
  refine rvP C (.pv (.lit (.bool false))) ?_
  refine rvc_nil ?_
  refine Awp.condF (b := false) rfl rfl ?_
  refine Awp.exit ?_
  refine Awp.consP C ?_
  refine rvc_prim C rfl rfl rfl rfl trivial rfl ?_
  refine rvc_nil ?_
  refine Awp.ret ?_
  exact ⟨.inl rfl, rfl⟩
/-- How long a key's text is, of its first n bytes. -/
def trimN (k : Nat → Int) : Nat → Nat
  | 0 => 0
  | n + 1 => if k n = 0 then trimN k n else n + 1
def nameL (k : Nat → Int) : List Int := (tbF k 8 0).take (trimN k 8)
def KeyB (k : Nat → Int) : Prop := ∀ j, j < 8 → 0 ≤ k j ∧ k j < 256
theorem mem_tbF {k : Nat → Int} : ∀ {m j : Nat} {x : Int}, x ∈ tbF k m j → ∃ i, j ≤ i ∧ i < j + m ∧ x = k i
  | 0, j, x, h => by cases h
  | m + 1, j, x, h => by
    rcases List.mem_cons.1 h with rfl | h
    · exact ⟨j, Nat.le_refl _, by omega, rfl⟩
    · obtain ⟨i, h1, h2, h3⟩ := mem_tbF h
      exact ⟨i, by omega, by omega, h3⟩
theorem nameL_ok {k : Nat → Int} (hk : KeyB k) : ∀ x ∈ nameL k, 0 ≤ x ∧ x < 256 := fun x hx => by
  obtain ⟨i, _, h2, rfl⟩ := mem_tbF (List.mem_of_mem_take hx)
  exact hk i (by omega)
theorem wrapP {z : Int} (h : -9223372036854775808 ≤ z ∧ z ≤ 9223372036854775807) : IntKind.i64.wrap z = z := wrapI _ h
theorem shName_l0_eq (k : Nat → Int) : ∀ (nn n : Nat), n < nn → n ≤ 8 → shName_l0 k nn (n : Int) = strOf ((tbF k 8 0).take (trimN k n))
  | 0, _, h, _ => by omega
  | nn + 1, 0, _, _ => by
    unfold shName_l0
    rfl
  | nn + 1, n + 1, h, h8 => by
    unfold shName_l0
    have e : IntKind.i64.wrap (((n + 1 : Nat) : Int) - 1) = (n : Int) := by rw [wrapP (by omega)]; omega
    rw [decide_eq_true (show ((n + 1 : Nat) : Int) > 0 by omega), cond_true, e, Int.toNat_natCast]
    unfold trimN
    by_cases hk : k n = 0
    · rw [hk, if_pos rfl, show ((0 : Int) == 0) = true from rfl, cond_true]
      exact shName_l0_eq k nn n (by omega) (by omega)
    · rw [if_neg hk, show (k n == 0) = false by simpa using hk, cond_false, Int.toNat_natCast]
theorem shName_eq (k : Nat → Int) : shName k = strOf (nameL k) := shName_l0_eq k 9 8 (by omega) (Nat.le_refl _)
theorem r9Name_l0_eq (k : Nat → Int) : ∀ (m i : Nat), m + i = 8 → r9Name_l0 k m i (trimN k i : Nat) = strOf ((tbF k 8 0).take (trimN k 8))
  | 0, i, h => by
    have : i = 8 := by omega
    subst this
    unfold r9Name_l0
    rw [Int.toNat_natCast]
  | m + 1, i, h => by
    unfold r9Name_l0
    have ih := r9Name_l0_eq k m (i + 1) (by omega)
    have e : IntKind.i64.wrap ((i : Int) + 1) = ((i + 1 : Nat) : Int) := by rw [wrapP (by omega)]; omega
    rw [e]
    unfold trimN at ih
    by_cases hk : k i = 0
    · rw [if_pos hk] at ih
      rw [show (k i != 0) = false by simpa using hk, cond_false]; exact ih
    · rw [if_neg hk] at ih
      rw [show (k i != 0) = true by simpa using hk, cond_true]; exact ih
theorem r9Name_eq (k : Nat → Int) : r9Name k = strOf (nameL k) := r9Name_l0_eq k 8 0 rfl
theorem shNameL_calls (k : Nat → Int) : PCalls Tryd.prog 48 [.agg [.pv (.lit (.int .u8 (k 0))), .pv (.lit (.int .u8 (k 1))), .pv (.lit (.int .u8 (k 2))), .pv (.lit (.int .u8 (k 3))), .pv (.lit (.int .u8 (k 4))), .pv (.lit (.int .u8 (k 5))), .pv (.lit (.int .u8 (k 6))), .pv (.lit (.int .u8 (k 7)))]] (.pv (.lit (.string (strOf (nameL k))))) := by
  rw [← shName_eq]; exact shName_calls k
theorem r9NameL_calls (k : Nat → Int) : PCalls Tryd.prog 69 [.agg [.pv (.lit (.int .u8 (k 0))), .pv (.lit (.int .u8 (k 1))), .pv (.lit (.int .u8 (k 2))), .pv (.lit (.int .u8 (k 3))), .pv (.lit (.int .u8 (k 4))), .pv (.lit (.int .u8 (k 5))), .pv (.lit (.int .u8 (k 6))), .pv (.lit (.int .u8 (k 7)))]] (.pv (.lit (.string (strOf (nameL k))))) := by
  rw [← r9Name_eq]; exact r9Name_calls k
def indexB (b : (Sl Int)) (c : Int) : Int :=
  (idxI b.D c)
theorem indexB_calls (b : (Sl Int)) (c : Int)  : PCalls Tryd.prog 66 [sS (some b.nil) (eI .u8) b.D, .pv (.lit (.int .u8 c))] (.pv (.lit (.int .i64 (indexB b c)))) := by
 generalize hR : indexB b c = R
 refine PCalls.of_body tabOk Tryd.func66 rfl rfl rfl rfl rfl mixed fun E hP C hI => ?_
 refine Awp.consP C ?_
 refine rvP C (.pv (.lit (.int .i64 0))) ?_
 refine rvc_nil ?_
 refine Awp.consP C ?_
 refine rvP C (sS (some b.nil) (eI .u8) b.D) ?_
 refine rvP C (.pv (.lit (.int .u8 c))) ?_
 refine rvc_un (rexec_idxB hP C (fn := Tryd.f75) rfl rfl Tryd.func75 rfl rfl rfl (by kernel_rfl) rfl ?_)
 refine rvP C (.pv (.lit (.int .i64 (idxI b.D c)))) ?_
 refine rvc_nil ?_
 refine Awp.ret ?_
 subst hR
 exact ⟨.inl rfl, rfl⟩
def cmpB (a : (Sl Int)) (b : (Sl Int)) : Int :=
  (cmpI a.D b.D)
theorem cmpB_calls (a : (Sl Int)) (b : (Sl Int))  : PCalls Tryd.prog 29 [sS (some a.nil) (eI .u8) a.D, sS (some b.nil) (eI .u8) b.D] (.pv (.lit (.int .i64 (cmpB a b)))) := by
 generalize hR : cmpB a b = R
 refine PCalls.of_body tabOk Tryd.func29 rfl rfl rfl rfl rfl mixed fun E hP C hI => ?_
 refine Awp.consP C ?_
 refine rvP C (.pv (.lit (.int .i64 0))) ?_
 refine rvc_nil ?_
 refine Awp.consP C ?_
 refine rvP C (sS (some a.nil) (eI .u8) a.D) ?_
 refine rvP C (sS (some b.nil) (eI .u8) b.D) ?_
 refine rvc_un (rexec_cmpB hP C (fn := Tryd.f50) rfl rfl Tryd.func50 rfl rfl rfl (by kernel_rfl) rfl ?_)
 refine rvP C (.pv (.lit (.int .i64 (cmpI a.D b.D)))) ?_
 refine rvc_nil ?_
 refine Awp.ret ?_
 subst hR
 exact ⟨.inl rfl, rfl⟩
def shKey (D : List Int) : (Nat → Int) × Int :=
  (bif (decide ((D.length : Int) < 1)) then ((ofL [(0 : Int), 0, 0, 0, 0, 0, 0, 0]), 91) else (bif (decide ((D.length : Int) > 8)) then ((ofL [(0 : Int), 0, 0, 0, 0, 0, 0, 0]), 91) else (bif (decide ((indexB (Sl.mk false D) 0) ≥ 0)) then ((ofL [(0 : Int), 0, 0, 0, 0, 0, 0, 0]), 91) else ((cpF D 8 (ofL [(0 : Int), 0, 0, 0, 0, 0, 0, 0])), 0))))
theorem shKey_calls (D : List Int) (hD : ∀ x ∈ D, 0 ≤ x ∧ x < 256) : PCalls Tryd.prog 47 [.pv (.lit (.string (strOf D)))] (.tup [.agg [.pv (.lit (.int .u8 ((shKey D).1 0))), .pv (.lit (.int .u8 ((shKey D).1 1))), .pv (.lit (.int .u8 ((shKey D).1 2))), .pv (.lit (.int .u8 ((shKey D).1 3))), .pv (.lit (.int .u8 ((shKey D).1 4))), .pv (.lit (.int .u8 ((shKey D).1 5))), .pv (.lit (.int .u8 ((shKey D).1 6))), .pv (.lit (.int .u8 ((shKey D).1 7)))], .pv (.lit (.int .i64 ((shKey D).2)))]) := by
 generalize hR : shKey D = R
 refine PCalls.of_body tabOk Tryd.func47 rfl rfl rfl rfl rfl mixed fun E hP C hI => ?_
 refine Awp.consP C ?_
 refine rvc_un (rexec_prim C (δ := { v := .ptr 2 0, new := [(2, .cells [.pv (.lit (.int .u8 0)), .pv (.lit (.int .u8 0)), .pv (.lit (.int .u8 0)), .pv (.lit (.int .u8 0)), .pv (.lit (.int .u8 0)), .pv (.lit (.int .u8 0)), .pv (.lit (.int .u8 0)), .pv (.lit (.int .u8 0))])] }) rfl rfl rfl rfl trivial rfl ?_)
 refine rvP C (.pv (.lit (.int .i64 0))) ?_
 refine rvc_nil ?_
 refine Awp.consP C ?_
 refine rvc_un (rexec_prim C (δ := { v := .ptr 4 0, new := [(4, .cells [.pv (.lit (.int .u8 0)), .pv (.lit (.int .u8 0)), .pv (.lit (.int .u8 0)), .pv (.lit (.int .u8 0)), .pv (.lit (.int .u8 0)), .pv (.lit (.int .u8 0)), .pv (.lit (.int .u8 0)), .pv (.lit (.int .u8 0))])] }) rfl rfl rfl rfl trivial rfl ?_)
 refine rvc_nil ?_
 refine Awp.seq ?_
 refine Awp.consP C ?_
 refine rvP C (.pv (.lit (.string (strOf D)))) ?_
 refine rvc_un (rexec_lenStr C rfl rfl rfl rfl rfl rfl ?_)
 refine rvP C (.pv (.lit (.bool (decide ((D.length : Int) < 1))))) ?_
 refine rvP C (.pv (.lit (.bool (decide ((D.length : Int) < 1))))) ?_
 refine rvc_case 8 (decide ((D.length : Int) < 1)) rfl (fun h1 => ?_) (fun h1 => ?_)
 ·
  replace hR := of_true h1 hR
  refine rvS ?_
  refine rvS ?_
  refine rvS ?_
  refine rvP C (.pv (.lit (.bool true))) ?_
  refine rvP C (.pv (.lit (.bool true))) ?_
  refine rvS ?_
  refine rvS ?_
  refine rvS ?_
  refine rvS ?_
  refine rvP C (.pv (.lit (.bool true))) ?_
  refine rvc_nil ?_
  refine Awp.condT (b := true) rfl rfl ?_
  refine Awp.consP C ?_
  refine rvP C (.agg [.pv (.lit (.int .u8 0)), .pv (.lit (.int .u8 0)), .pv (.lit (.int .u8 0)), .pv (.lit (.int .u8 0)), .pv (.lit (.int .u8 0)), .pv (.lit (.int .u8 0)), .pv (.lit (.int .u8 0)), .pv (.lit (.int .u8 0))]) ?_
  refine rvc_un (rexec_prim C (δ := { v := .undef, wr := [(2, some (.cells [.pv (.lit (.int .u8 0)), .pv (.lit (.int .u8 0)), .pv (.lit (.int .u8 0)), .pv (.lit (.int .u8 0)), .pv (.lit (.int .u8 0)), .pv (.lit (.int .u8 0)), .pv (.lit (.int .u8 0)), .pv (.lit (.int .u8 0))]))] }) rfl rfl rfl rfl trivial rfl ?_)
  refine rvP C (.pv (.lit (.int .i64 91))) ?_
  refine rvc_nil ?_
  refine Awp.ret ?_
  subst hR
  exact ⟨.inl rfl, rfl⟩
 ·
  replace hR := of_false h1 hR
  refine rvO C (.pv (.lit (.string (strOf D)))) ?_
  refine rvc_open rfl rfl rfl (rexec_lenStr C rfl rfl rfl rfl rfl rfl ?_)
  refine rvO C (.pv (.lit (.bool (decide ((D.length : Int) > 8))))) ?_
  refine rvP C (.pv (.lit (.bool (decide ((D.length : Int) > 8))))) ?_
  refine rvP C (.pv (.lit (.bool (decide ((D.length : Int) > 8))))) ?_
  refine rvc_case 13 (decide ((D.length : Int) > 8)) rfl (fun h2 => ?_) (fun h2 => ?_)
  ·
   replace hR := of_true h2 hR
   refine rvS ?_
   refine rvS ?_
   refine rvS ?_
   refine rvS ?_
   refine rvP C (.pv (.lit (.bool true))) ?_
   refine rvc_nil ?_
   refine Awp.condT (b := true) rfl rfl ?_
   refine Awp.consP C ?_
   refine rvP C (.agg [.pv (.lit (.int .u8 0)), .pv (.lit (.int .u8 0)), .pv (.lit (.int .u8 0)), .pv (.lit (.int .u8 0)), .pv (.lit (.int .u8 0)), .pv (.lit (.int .u8 0)), .pv (.lit (.int .u8 0)), .pv (.lit (.int .u8 0))]) ?_
   refine rvc_un (rexec_prim C (δ := { v := .undef, wr := [(2, some (.cells [.pv (.lit (.int .u8 0)), .pv (.lit (.int .u8 0)), .pv (.lit (.int .u8 0)), .pv (.lit (.int .u8 0)), .pv (.lit (.int .u8 0)), .pv (.lit (.int .u8 0)), .pv (.lit (.int .u8 0)), .pv (.lit (.int .u8 0))]))] }) rfl rfl rfl rfl trivial rfl ?_)
   refine rvP C (.pv (.lit (.int .i64 91))) ?_
   refine rvc_nil ?_
   refine Awp.ret ?_
   subst hR
   exact ⟨.inl rfl, rfl⟩
  ·
   replace hR := of_false h2 hR
   refine rvO C (.pv (.lit (.string (strOf D)))) ?_
   refine rvc_open rfl rfl rfl (rexec_strBytes C rfl rfl rfl rfl rfl rfl rfl hD rfl ?_)
   refine rvc_open rfl rfl rfl (rexec_call hP C rfl rfl rfl (indexB_calls (Sl.mk false D) 0) ?_)
   refine rvO C (.pv (.lit (.bool (decide ((indexB (Sl.mk false D) 0) ≥ 0))))) ?_
   refine rvP C (.pv (.lit (.bool (decide ((indexB (Sl.mk false D) 0) ≥ 0))))) ?_
   refine rvc_nil ?_
   refine Awp.cond (b := (decide ((indexB (Sl.mk false D) 0) ≥ 0))) rfl (fun h3 => ?_) (fun h3 => ?_)
   ·
    replace hR := of_true h3 hR
    refine Awp.consP C ?_
    refine rvP C (.agg [.pv (.lit (.int .u8 0)), .pv (.lit (.int .u8 0)), .pv (.lit (.int .u8 0)), .pv (.lit (.int .u8 0)), .pv (.lit (.int .u8 0)), .pv (.lit (.int .u8 0)), .pv (.lit (.int .u8 0)), .pv (.lit (.int .u8 0))]) ?_
    refine rvc_un (rexec_prim C (δ := { v := .undef, wr := [(2, some (.cells [.pv (.lit (.int .u8 0)), .pv (.lit (.int .u8 0)), .pv (.lit (.int .u8 0)), .pv (.lit (.int .u8 0)), .pv (.lit (.int .u8 0)), .pv (.lit (.int .u8 0)), .pv (.lit (.int .u8 0)), .pv (.lit (.int .u8 0))]))] }) rfl rfl rfl rfl trivial rfl ?_)
    refine rvP C (.pv (.lit (.int .i64 91))) ?_
    refine rvc_nil ?_
    refine Awp.ret ?_
    subst hR
    exact ⟨.inl rfl, rfl⟩
   ·
    replace hR := of_false h3 hR
    refine Awp.skip ?_
    refine Awp.consP C ?_
    refine rvc_un (rexec_prim C (δ := { v := .sl 4 0 8 1 true }) rfl rfl rfl rfl ⟨by decide, Nat.le_of_ble_eq_true rfl, .inl rfl⟩ rfl ?_)
    refine rvP C (.pv (.lit (.string (strOf D)))) ?_
    refine rvc_un (rexec_copyStr C rfl rfl rfl rfl rfl rfl rfl (f := (ofL [(0 : Int), 0, 0, 0, 0, 0, 0, 0])) (D := D) hD rfl rfl ?_)
    refine rvc_nil ?_
    refine Awp.consP C ?_
    refine rvP C (.agg [.pv (.lit (.int .u8 ((cpF D 8 (ofL [(0 : Int), 0, 0, 0, 0, 0, 0, 0])) 0))), .pv (.lit (.int .u8 ((cpF D 8 (ofL [(0 : Int), 0, 0, 0, 0, 0, 0, 0])) 1))), .pv (.lit (.int .u8 ((cpF D 8 (ofL [(0 : Int), 0, 0, 0, 0, 0, 0, 0])) 2))), .pv (.lit (.int .u8 ((cpF D 8 (ofL [(0 : Int), 0, 0, 0, 0, 0, 0, 0])) 3))), .pv (.lit (.int .u8 ((cpF D 8 (ofL [(0 : Int), 0, 0, 0, 0, 0, 0, 0])) 4))), .pv (.lit (.int .u8 ((cpF D 8 (ofL [(0 : Int), 0, 0, 0, 0, 0, 0, 0])) 5))), .pv (.lit (.int .u8 ((cpF D 8 (ofL [(0 : Int), 0, 0, 0, 0, 0, 0, 0])) 6))), .pv (.lit (.int .u8 ((cpF D 8 (ofL [(0 : Int), 0, 0, 0, 0, 0, 0, 0])) 7)))]) ?_
    refine rvc_un (rexec_prim C (δ := { v := .undef, wr := [(2, some (.cells [.pv (.lit (.int .u8 ((cpF D 8 (ofL [(0 : Int), 0, 0, 0, 0, 0, 0, 0])) 0))), .pv (.lit (.int .u8 ((cpF D 8 (ofL [(0 : Int), 0, 0, 0, 0, 0, 0, 0])) 1))), .pv (.lit (.int .u8 ((cpF D 8 (ofL [(0 : Int), 0, 0, 0, 0, 0, 0, 0])) 2))), .pv (.lit (.int .u8 ((cpF D 8 (ofL [(0 : Int), 0, 0, 0, 0, 0, 0, 0])) 3))), .pv (.lit (.int .u8 ((cpF D 8 (ofL [(0 : Int), 0, 0, 0, 0, 0, 0, 0])) 4))), .pv (.lit (.int .u8 ((cpF D 8 (ofL [(0 : Int), 0, 0, 0, 0, 0, 0, 0])) 5))), .pv (.lit (.int .u8 ((cpF D 8 (ofL [(0 : Int), 0, 0, 0, 0, 0, 0, 0])) 6))), .pv (.lit (.int .u8 ((cpF D 8 (ofL [(0 : Int), 0, 0, 0, 0, 0, 0, 0])) 7)))]))] }) rfl rfl rfl rfl trivial rfl ?_)
    refine rvP C (.pv (.lit (.int .i64 0))) ?_
    refine rvc_nil ?_
    refine Awp.ret ?_
    subst hR
    exact ⟨.inl rfl, rfl⟩
def r9Key_l0 (D : List Int) : Nat → Nat → (Nat → Int) → (Nat → Int) × Int
  | 0, _, vc => (vc, 0)
  | k + 1, i, vc => (bif ((D[(i : Int).toNat]!) == 0) then ((ofL [(0 : Int), 0, 0, 0, 0, 0, 0, 0]), 91) else r9Key_l0 D k (i + 1) (updA vc i (D[(i : Int).toNat]!)))
def r9Key (D : List Int) : (Nat → Int) × Int :=
  (bif (decide ((D.length : Int) < 1)) then ((ofL [(0 : Int), 0, 0, 0, 0, 0, 0, 0]), 91) else (bif (decide ((D.length : Int) > 8)) then ((ofL [(0 : Int), 0, 0, 0, 0, 0, 0, 0]), 91) else r9Key_l0 D (D.length : Int).toNat 0 (ofL [(0 : Int), 0, 0, 0, 0, 0, 0, 0])))
theorem r9Key_calls (D : List Int) (hD : ∀ x ∈ D, 0 ≤ x ∧ x < 256) : PCalls Tryd.prog 68 [.pv (.lit (.string (strOf D)))] (.tup [.agg [.pv (.lit (.int .u8 ((r9Key D).1 0))), .pv (.lit (.int .u8 ((r9Key D).1 1))), .pv (.lit (.int .u8 ((r9Key D).1 2))), .pv (.lit (.int .u8 ((r9Key D).1 3))), .pv (.lit (.int .u8 ((r9Key D).1 4))), .pv (.lit (.int .u8 ((r9Key D).1 5))), .pv (.lit (.int .u8 ((r9Key D).1 6))), .pv (.lit (.int .u8 ((r9Key D).1 7)))], .pv (.lit (.int .i64 ((r9Key D).2)))]) := by
 generalize hR : r9Key D = R
 refine PCalls.of_body tabOk Tryd.func68 rfl rfl rfl rfl rfl mixed fun E hP C hI => ?_
 refine Awp.consP C ?_
 refine rvc_un (rexec_prim C (δ := { v := .ptr 2 0, new := [(2, .cells [.pv (.lit (.int .u8 0)), .pv (.lit (.int .u8 0)), .pv (.lit (.int .u8 0)), .pv (.lit (.int .u8 0)), .pv (.lit (.int .u8 0)), .pv (.lit (.int .u8 0)), .pv (.lit (.int .u8 0)), .pv (.lit (.int .u8 0))])] }) rfl rfl rfl rfl trivial rfl ?_)
 refine rvP C (.pv (.lit (.int .i64 0))) ?_
 refine rvc_nil ?_
 refine Awp.consP C ?_
 refine rvc_un (rexec_prim C (δ := { v := .ptr 4 0, new := [(4, .cells [.pv (.lit (.int .u8 0)), .pv (.lit (.int .u8 0)), .pv (.lit (.int .u8 0)), .pv (.lit (.int .u8 0)), .pv (.lit (.int .u8 0)), .pv (.lit (.int .u8 0)), .pv (.lit (.int .u8 0)), .pv (.lit (.int .u8 0))])] }) rfl rfl rfl rfl trivial rfl ?_)
 refine rvc_nil ?_
 refine Awp.seq ?_
 refine Awp.consP C ?_
 refine rvP C (.pv (.lit (.string (strOf D)))) ?_
 refine rvc_un (rexec_lenStr C rfl rfl rfl rfl rfl rfl ?_)
 refine rvP C (.pv (.lit (.bool (decide ((D.length : Int) < 1))))) ?_
 refine rvP C (.pv (.lit (.bool (decide ((D.length : Int) < 1))))) ?_
 refine rvc_case 9 (decide ((D.length : Int) < 1)) rfl (fun h1 => ?_) (fun h1 => ?_)
 ·
  replace hR := of_true h1 hR
  refine rvS ?_
  refine rvS ?_
  refine rvS ?_
  refine rvP C (.pv (.lit (.bool true))) ?_
  refine rvc_nil ?_
  refine Awp.condT (b := true) rfl rfl ?_
  refine Awp.consP C ?_
  refine rvP C (.agg [.pv (.lit (.int .u8 0)), .pv (.lit (.int .u8 0)), .pv (.lit (.int .u8 0)), .pv (.lit (.int .u8 0)), .pv (.lit (.int .u8 0)), .pv (.lit (.int .u8 0)), .pv (.lit (.int .u8 0)), .pv (.lit (.int .u8 0))]) ?_
  refine rvc_un (rexec_prim C (δ := { v := .undef, wr := [(2, some (.cells [.pv (.lit (.int .u8 0)), .pv (.lit (.int .u8 0)), .pv (.lit (.int .u8 0)), .pv (.lit (.int .u8 0)), .pv (.lit (.int .u8 0)), .pv (.lit (.int .u8 0)), .pv (.lit (.int .u8 0)), .pv (.lit (.int .u8 0))]))] }) rfl rfl rfl rfl trivial rfl ?_)
  refine rvP C (.pv (.lit (.int .i64 91))) ?_
  refine rvc_nil ?_
  refine Awp.ret ?_
  subst hR
  exact ⟨.inl rfl, rfl⟩
 ·
  replace hR := of_false h1 hR
  refine rvO C (.pv (.lit (.string (strOf D)))) ?_
  refine rvc_open rfl rfl rfl (rexec_lenStr C rfl rfl rfl rfl rfl rfl ?_)
  refine rvO C (.pv (.lit (.bool (decide ((D.length : Int) > 8))))) ?_
  refine rvP C (.pv (.lit (.bool (decide ((D.length : Int) > 8))))) ?_
  refine rvc_nil ?_
  refine Awp.cond (b := (decide ((D.length : Int) > 8))) rfl (fun h2 => ?_) (fun h2 => ?_)
  ·
   replace hR := of_true h2 hR
   refine Awp.consP C ?_
   refine rvP C (.agg [.pv (.lit (.int .u8 0)), .pv (.lit (.int .u8 0)), .pv (.lit (.int .u8 0)), .pv (.lit (.int .u8 0)), .pv (.lit (.int .u8 0)), .pv (.lit (.int .u8 0)), .pv (.lit (.int .u8 0)), .pv (.lit (.int .u8 0))]) ?_
   refine rvc_un (rexec_prim C (δ := { v := .undef, wr := [(2, some (.cells [.pv (.lit (.int .u8 0)), .pv (.lit (.int .u8 0)), .pv (.lit (.int .u8 0)), .pv (.lit (.int .u8 0)), .pv (.lit (.int .u8 0)), .pv (.lit (.int .u8 0)), .pv (.lit (.int .u8 0)), .pv (.lit (.int .u8 0))]))] }) rfl rfl rfl rfl trivial rfl ?_)
   refine rvP C (.pv (.lit (.int .i64 91))) ?_
   refine rvc_nil ?_
   refine Awp.ret ?_
   subst hR
   exact ⟨.inl rfl, rfl⟩
  ·
   replace hR := of_false h2 hR
   refine Awp.skip ?_
   refine Awp.seq ?_
   refine Awp.consP C ?_
   refine rvP C (.pv (.lit (.string (strOf D)))) ?_
   refine rvc_un (rexec_lenStr C rfl rfl rfl rfl rfl rfl ?_)
   refine rvP C (.pv (.lit (.int .i64 0))) ?_
   refine rvc_nil ?_
   refine Awp.block ?_
   refine Awp.forR (σ := ((Nat → Int))) ((D.length : Int).toNat) (fun i v => [(0, .pv (.lit (.string (strOf D)))), (2, .ptr 2 0), (4, .ptr 4 0), (16, .pv (.lit (.int .i64 (D.length : Int)))), (17, .pv (.lit (.int .i64 (i : Int))))]) (fun i v => [(2, .cells [.pv (.lit (.int .u8 0)), .pv (.lit (.int .u8 0)), .pv (.lit (.int .u8 0)), .pv (.lit (.int .u8 0)), .pv (.lit (.int .u8 0)), .pv (.lit (.int .u8 0)), .pv (.lit (.int .u8 0)), .pv (.lit (.int .u8 0))]), (4, .cells [.pv (.lit (.int .u8 (v 0))), .pv (.lit (.int .u8 (v 1))), .pv (.lit (.int .u8 (v 2))), .pv (.lit (.int .u8 (v 3))), .pv (.lit (.int .u8 (v 4))), .pv (.lit (.int .u8 (v 5))), .pv (.lit (.int .u8 (v 6))), .pv (.lit (.int .u8 (v 7)))])]) [2, 4] (fun i v => r9Key_l0 D ((D.length : Int).toNat - i) i v = R) (ofL [(0 : Int), 0, 0, 0, 0, 0, 0, 0]) ?_ ?_ (fun i vc h3 hR => ?_)
   · exact hR
   · exact ⟨fun b => b, WeakerR.ofL (Ks := [2, 4]) hI ⟨⟨rfl, rfl⟩, ⟨rfl, rfl⟩, ⟨rfl, rfl⟩, ⟨rfl, rfl⟩, ⟨rfl, rfl⟩, trivial⟩ (okH_cons rfl rfl rfl rfl (okH_cons rfl rfl rfl rfl (okH_nil))) rfl⟩
   have hl8_ := of_decide_eq_false ‹decide ((D.length : Int) > 8) = false›
   refine Awp.consP C ?_
   refine rvP C (.pv (.lit (.bool (decide ((i : Int) < (D.length : Int)))))) ?_
   refine rvc_nil ?_
   refine Awp.seq ?_
   refine Awp.cond (b := (decide ((i : Int) < (D.length : Int)))) rfl (fun h4 => ?_) (fun h4 => ?_)
   ·
    have h5 : i < (D.length : Int).toNat := by have := of_decide_eq_true h4; omega
    obtain ⟨k, h6⟩ : ∃ k, (D.length : Int).toNat - i = k + 1 := ⟨(D.length : Int).toNat - i - 1, by omega⟩
    rw [h6] at hR
    refine Awp.skip ?_
    refine Awp.seq ?_
    refine Awp.block ?_
    refine Awp.consP C ?_
    refine rvP C (.pv (.lit (.int .i64 (i : Int)))) ?_
    refine rvP C (.pv (.lit (.int .i64 (i : Int)))) ?_
    refine rvc_nil ?_
    refine Awp.seq ?_
    refine Awp.consP C ?_
    refine rvP C (.pv (.lit (.string (strOf D)))) ?_
    refine rvP C (.pv (.lit (.int .i64 (i : Int)))) ?_
    refine rvc_un (rexec_idxStr C hD rfl rfl rfl rfl ⟨(by omega), (by omega)⟩ ?_)
    refine rvP C (.pv (.lit (.bool ((D[(i : Int).toNat]!) == 0)))) ?_
    refine rvc_nil ?_
    refine Awp.cond (b := ((D[(i : Int).toNat]!) == 0)) rfl (fun h7 => ?_) (fun h7 => ?_)
    ·
     replace hR := of_true h7 hR
     refine Awp.consP C ?_
     refine rvP C (.agg [.pv (.lit (.int .u8 0)), .pv (.lit (.int .u8 0)), .pv (.lit (.int .u8 0)), .pv (.lit (.int .u8 0)), .pv (.lit (.int .u8 0)), .pv (.lit (.int .u8 0)), .pv (.lit (.int .u8 0)), .pv (.lit (.int .u8 0))]) ?_
     refine rvc_un (rexec_prim C (δ := { v := .undef, wr := [(2, some (.cells [.pv (.lit (.int .u8 0)), .pv (.lit (.int .u8 0)), .pv (.lit (.int .u8 0)), .pv (.lit (.int .u8 0)), .pv (.lit (.int .u8 0)), .pv (.lit (.int .u8 0)), .pv (.lit (.int .u8 0)), .pv (.lit (.int .u8 0))]))] }) rfl rfl rfl rfl trivial rfl ?_)
     refine rvP C (.pv (.lit (.int .i64 91))) ?_
     refine rvc_nil ?_
     refine Awp.ret ?_
     subst hR
     exact ⟨.inl rfl, rfl⟩
    ·
     replace hR := of_false h7 hR
     refine Awp.skip ?_
     refine Awp.regionP C ?_
     refine rvP C (.pv (.lit (.int .i64 (i : Int)))) ?_
     refine rvP C (.pv (.lit (.string (strOf D)))) ?_
     refine rvP C (.pv (.lit (.int .i64 (i : Int)))) ?_
     refine rvc_un (rexec_idxStr C hD rfl rfl rfl rfl ⟨(by omega), (by omega)⟩ ?_)
     refine rvc_un (rexec_prim C (δ := { v := .ptr 4 (0 + i * 1) }) rfl rfl rfl rfl ⟨(by omega), (by omega)⟩ rfl ?_)
     refine rvc_un (rexec_storeA C [] [] (fun z => .lit (.int .u8 z)) vc 8 i (D[(i : Int).toNat]!) [.pv (.lit (.int .u8 ((updA vc i (D[(i : Int).toNat]!)) 0))), .pv (.lit (.int .u8 ((updA vc i (D[(i : Int).toNat]!)) 1))), .pv (.lit (.int .u8 ((updA vc i (D[(i : Int).toNat]!)) 2))), .pv (.lit (.int .u8 ((updA vc i (D[(i : Int).toNat]!)) 3))), .pv (.lit (.int .u8 ((updA vc i (D[(i : Int).toNat]!)) 4))), .pv (.lit (.int .u8 ((updA vc i (D[(i : Int).toNat]!)) 5))), .pv (.lit (.int .u8 ((updA vc i (D[(i : Int).toNat]!)) 6))), .pv (.lit (.int .u8 ((updA vc i (D[(i : Int).toNat]!)) 7)))] rfl rfl rfl rfl rfl rfl (by omega) rfl ?_)
     refine rvc_nil ?_
     refine Awp.regionP C ?_
     refine rvP C (.pv (.lit (.int .i64 (IntKind.i64.wrap ((i : Int) + 1))))) ?_
     refine rvP C (.pv (.lit (.int .i64 (IntKind.i64.wrap ((i : Int) + 1))))) ?_
     refine rvc_nil ?_
     refine ⟨h5, (updA vc i (D[(i : Int).toNat]!)), ?_, ?_⟩
     · exact (by rw [show (D.length : Int).toNat - (i + 1) = k by omega]; exact hR)
     · exact ⟨fun b => b, WeakerR.ofL (Ks := [2, 4]) hI ⟨⟨rfl, rfl⟩, ⟨rfl, rfl⟩, ⟨rfl, rfl⟩, ⟨rfl, rfl⟩, ⟨lit_cast (wrap_i64 (by omega) (by omega)), rfl⟩, trivial⟩ (okH_cons rfl rfl rfl rfl (okH_cons rfl rfl rfl rfl (okH_nil))) rfl⟩
   ·
    rw [show (D.length : Int).toNat - i = 0 by have := of_decide_eq_false h4; omega] at hR
    refine Awp.exit ?_
    refine Awp.consP C ?_
    refine rvP C (.agg [.pv (.lit (.int .u8 (vc 0))), .pv (.lit (.int .u8 (vc 1))), .pv (.lit (.int .u8 (vc 2))), .pv (.lit (.int .u8 (vc 3))), .pv (.lit (.int .u8 (vc 4))), .pv (.lit (.int .u8 (vc 5))), .pv (.lit (.int .u8 (vc 6))), .pv (.lit (.int .u8 (vc 7)))]) ?_
    refine rvc_un (rexec_prim C (δ := { v := .undef, wr := [(2, some (.cells [.pv (.lit (.int .u8 (vc 0))), .pv (.lit (.int .u8 (vc 1))), .pv (.lit (.int .u8 (vc 2))), .pv (.lit (.int .u8 (vc 3))), .pv (.lit (.int .u8 (vc 4))), .pv (.lit (.int .u8 (vc 5))), .pv (.lit (.int .u8 (vc 6))), .pv (.lit (.int .u8 (vc 7)))]))] }) rfl rfl rfl rfl trivial rfl ?_)
    refine rvP C (.pv (.lit (.int .i64 0))) ?_
    refine rvc_nil ?_
    refine Awp.ret ?_
    subst hR
    exact ⟨.inl rfl, rfl⟩
structure Seen where
  key : (Nat → Int)
  ver : Int
  deriving Inhabited
def eSeen : Enc Seen := ⟨9, fun x => [.lit (.int .u8 (x.key 0)), .lit (.int .u8 (x.key 1)), .lit (.int .u8 (x.key 2)), .lit (.int .u8 (x.key 3)), .lit (.int .u8 (x.key 4)), .lit (.int .u8 (x.key 5)), .lit (.int .u8 (x.key 6)), .lit (.int .u8 (x.key 7)), .lit (.int .i64 x.ver)], fun _ => rfl⟩
def shRight (k : (Nat → Int))  : Int :=
  (bif (((shKey (nameL k)).2) != 0) then 91 else (bif (!((((shKey (nameL k)).1 0) == (k 0)) && ((((shKey (nameL k)).1 1) == (k 1)) && ((((shKey (nameL k)).1 2) == (k 2)) && ((((shKey (nameL k)).1 3) == (k 3)) && ((((shKey (nameL k)).1 4) == (k 4)) && ((((shKey (nameL k)).1 5) == (k 5)) && ((((shKey (nameL k)).1 6) == (k 6)) && ((((shKey (nameL k)).1 7) == (k 7)) && true))))))))) then 91 else (bif (decide (((⟨#[120]⟩ : ByteArray).size : Int) < 1)) then 91 else (bif (decide (((⟨#[120]⟩ : ByteArray).size : Int) > 24)) then 91 else 0))))
theorem shRight_calls (k : (Nat → Int))  (hk : KeyB k) : PCalls Tryd.prog 28 [.agg [.pv (.lit (.int .u8 (k 0))), .pv (.lit (.int .u8 (k 1))), .pv (.lit (.int .u8 (k 2))), .pv (.lit (.int .u8 (k 3))), .pv (.lit (.int .u8 (k 4))), .pv (.lit (.int .u8 (k 5))), .pv (.lit (.int .u8 (k 6))), .pv (.lit (.int .u8 (k 7)))], .pv (.lit (.string (⟨#[120]⟩ : ByteArray)))] (.pv (.lit (.int .i64 (shRight k )))) := by
 generalize hR : shRight k  = R
 refine PCalls.of_body tabOk Tryd.func28 rfl rfl rfl rfl rfl mixed fun E hP C hI => ?_
 refine Awp.consP C ?_
 refine rvc_un (rexec_prim C (δ := { v := .ptr 2 0, new := [(2, .cells [.pv (.lit (.int .u8 (k 0))), .pv (.lit (.int .u8 (k 1))), .pv (.lit (.int .u8 (k 2))), .pv (.lit (.int .u8 (k 3))), .pv (.lit (.int .u8 (k 4))), .pv (.lit (.int .u8 (k 5))), .pv (.lit (.int .u8 (k 6))), .pv (.lit (.int .u8 (k 7)))])] }) rfl rfl rfl rfl trivial rfl ?_)
 refine rvP C (.pv (.lit (.int .i64 0))) ?_
 refine rvc_nil ?_
 refine Awp.seq ?_
 refine Awp.consP C ?_
 refine rvP C (.agg [.pv (.lit (.int .u8 (k 0))), .pv (.lit (.int .u8 (k 1))), .pv (.lit (.int .u8 (k 2))), .pv (.lit (.int .u8 (k 3))), .pv (.lit (.int .u8 (k 4))), .pv (.lit (.int .u8 (k 5))), .pv (.lit (.int .u8 (k 6))), .pv (.lit (.int .u8 (k 7)))]) ?_
 refine rvc_un (rexec_call hP C rfl rfl rfl (shNameL_calls k) ?_)
 refine rvc_un (rexec_call hP C rfl rfl rfl (shKey_calls (nameL k) (nameL_ok hk)) ?_)
 refine rvP C (.tup [.agg [.pv (.lit (.int .u8 ((shKey (nameL k)).1 0))), .pv (.lit (.int .u8 ((shKey (nameL k)).1 1))), .pv (.lit (.int .u8 ((shKey (nameL k)).1 2))), .pv (.lit (.int .u8 ((shKey (nameL k)).1 3))), .pv (.lit (.int .u8 ((shKey (nameL k)).1 4))), .pv (.lit (.int .u8 ((shKey (nameL k)).1 5))), .pv (.lit (.int .u8 ((shKey (nameL k)).1 6))), .pv (.lit (.int .u8 ((shKey (nameL k)).1 7)))], .pv (.lit (.int .i64 ((shKey (nameL k)).2)))]) ?_
 refine rvP C (.agg [.pv (.lit (.int .u8 ((shKey (nameL k)).1 0))), .pv (.lit (.int .u8 ((shKey (nameL k)).1 1))), .pv (.lit (.int .u8 ((shKey (nameL k)).1 2))), .pv (.lit (.int .u8 ((shKey (nameL k)).1 3))), .pv (.lit (.int .u8 ((shKey (nameL k)).1 4))), .pv (.lit (.int .u8 ((shKey (nameL k)).1 5))), .pv (.lit (.int .u8 ((shKey (nameL k)).1 6))), .pv (.lit (.int .u8 ((shKey (nameL k)).1 7)))]) ?_
 refine rvP C (.pv (.lit (.int .i64 ((shKey (nameL k)).2)))) ?_
 refine rvc_un (rexec_prim C (δ := { v := .ptr 5 0, new := [(5, .cells [.pv (.lit (.int .u8 0)), .pv (.lit (.int .u8 0)), .pv (.lit (.int .u8 0)), .pv (.lit (.int .u8 0)), .pv (.lit (.int .u8 0)), .pv (.lit (.int .u8 0)), .pv (.lit (.int .u8 0)), .pv (.lit (.int .u8 0))])] }) rfl rfl rfl rfl trivial rfl ?_)
 refine rvc_un (rexec_prim C (δ := { v := .undef, wr := [(5, some (.cells [.pv (.lit (.int .u8 ((shKey (nameL k)).1 0))), .pv (.lit (.int .u8 ((shKey (nameL k)).1 1))), .pv (.lit (.int .u8 ((shKey (nameL k)).1 2))), .pv (.lit (.int .u8 ((shKey (nameL k)).1 3))), .pv (.lit (.int .u8 ((shKey (nameL k)).1 4))), .pv (.lit (.int .u8 ((shKey (nameL k)).1 5))), .pv (.lit (.int .u8 ((shKey (nameL k)).1 6))), .pv (.lit (.int .u8 ((shKey (nameL k)).1 7)))]))] }) rfl rfl rfl rfl trivial rfl ?_)
 refine rvP C (.pv (.lit (.int .i64 ((shKey (nameL k)).2)))) ?_
 refine rvc_nil ?_
 refine Awp.consP C ?_
 refine rvP C (.pv (.lit (.int .i64 ((shKey (nameL k)).2)))) ?_
 refine rvP C (.pv (.lit (.bool (((shKey (nameL k)).2) != 0)))) ?_
 refine rvP C (.pv (.lit (.bool (((shKey (nameL k)).2) != 0)))) ?_
 refine rvc_case 15 (((shKey (nameL k)).2) != 0) rfl (fun h1 => ?_) (fun h1 => ?_)
 ·
  replace hR := of_true h1 hR
  refine rvS ?_
  refine rvS ?_
  refine rvS ?_
  refine rvP C (.pv (.lit (.bool true))) ?_
  refine rvc_nil ?_
  refine Awp.condT (b := true) rfl rfl ?_
  refine Awp.consP C ?_
  refine rvP C (.pv (.lit (.int .i64 91))) ?_
  refine rvc_nil ?_
  refine Awp.ret ?_
  subst hR
  exact ⟨.inl rfl, rfl⟩
 ·
  replace hR := of_false h1 hR
  refine rvO C (.agg [.pv (.lit (.int .u8 ((shKey (nameL k)).1 0))), .pv (.lit (.int .u8 ((shKey (nameL k)).1 1))), .pv (.lit (.int .u8 ((shKey (nameL k)).1 2))), .pv (.lit (.int .u8 ((shKey (nameL k)).1 3))), .pv (.lit (.int .u8 ((shKey (nameL k)).1 4))), .pv (.lit (.int .u8 ((shKey (nameL k)).1 5))), .pv (.lit (.int .u8 ((shKey (nameL k)).1 6))), .pv (.lit (.int .u8 ((shKey (nameL k)).1 7)))]) ?_
  refine rvO C (.agg [.pv (.lit (.int .u8 (k 0))), .pv (.lit (.int .u8 (k 1))), .pv (.lit (.int .u8 (k 2))), .pv (.lit (.int .u8 (k 3))), .pv (.lit (.int .u8 (k 4))), .pv (.lit (.int .u8 (k 5))), .pv (.lit (.int .u8 (k 6))), .pv (.lit (.int .u8 (k 7)))]) ?_
  refine rvO C (.pv (.lit (.bool (!((((shKey (nameL k)).1 0) == (k 0)) && ((((shKey (nameL k)).1 1) == (k 1)) && ((((shKey (nameL k)).1 2) == (k 2)) && ((((shKey (nameL k)).1 3) == (k 3)) && ((((shKey (nameL k)).1 4) == (k 4)) && ((((shKey (nameL k)).1 5) == (k 5)) && ((((shKey (nameL k)).1 6) == (k 6)) && ((((shKey (nameL k)).1 7) == (k 7)) && true)))))))))))) ?_
  refine rvP C (.pv (.lit (.bool (!((((shKey (nameL k)).1 0) == (k 0)) && ((((shKey (nameL k)).1 1) == (k 1)) && ((((shKey (nameL k)).1 2) == (k 2)) && ((((shKey (nameL k)).1 3) == (k 3)) && ((((shKey (nameL k)).1 4) == (k 4)) && ((((shKey (nameL k)).1 5) == (k 5)) && ((((shKey (nameL k)).1 6) == (k 6)) && ((((shKey (nameL k)).1 7) == (k 7)) && true)))))))))))) ?_
  refine rvc_nil ?_
  refine Awp.cond (b := (!((((shKey (nameL k)).1 0) == (k 0)) && ((((shKey (nameL k)).1 1) == (k 1)) && ((((shKey (nameL k)).1 2) == (k 2)) && ((((shKey (nameL k)).1 3) == (k 3)) && ((((shKey (nameL k)).1 4) == (k 4)) && ((((shKey (nameL k)).1 5) == (k 5)) && ((((shKey (nameL k)).1 6) == (k 6)) && ((((shKey (nameL k)).1 7) == (k 7)) && true)))))))))) rfl (fun h2 => ?_) (fun h2 => ?_)
  ·
   replace hR := of_true h2 hR
   refine Awp.consP C ?_
   refine rvP C (.pv (.lit (.int .i64 91))) ?_
   refine rvc_nil ?_
   refine Awp.ret ?_
   subst hR
   exact ⟨.inl rfl, rfl⟩
  ·
   replace hR := of_false h2 hR
   refine Awp.skip ?_
   refine Awp.seq ?_
   refine Awp.consP C ?_
   refine rvP C (.pv (.lit (.string (⟨#[120]⟩ : ByteArray)))) ?_
   refine rvP C (.pv (.lit (.int .i64 ((⟨#[120]⟩ : ByteArray).size : Int)))) ?_
   refine rvP C (.pv (.lit (.bool (decide (((⟨#[120]⟩ : ByteArray).size : Int) < 1))))) ?_
   refine rvP C (.pv (.lit (.bool (decide (((⟨#[120]⟩ : ByteArray).size : Int) < 1))))) ?_
   refine rvc_case 23 (decide (((⟨#[120]⟩ : ByteArray).size : Int) < 1)) rfl (fun h3 => ?_) (fun h3 => ?_)
   ·
    replace hR := of_true h3 hR
    refine rvS ?_
    refine rvS ?_
    refine rvS ?_
    refine rvP C (.pv (.lit (.bool true))) ?_
    refine rvP C (.pv (.lit (.bool true))) ?_
    refine rvS ?_
    refine rvS ?_
    refine rvS ?_
    refine rvP C (.pv (.lit (.bool true))) ?_
    refine rvc_nil ?_
    refine Awp.condT (b := true) rfl rfl ?_
    refine Awp.consP C ?_
    refine rvP C (.pv (.lit (.int .i64 91))) ?_
    refine rvc_nil ?_
    refine Awp.ret ?_
    subst hR
    exact ⟨.inl rfl, rfl⟩
   ·
    replace hR := of_false h3 hR
    refine rvO C (.pv (.lit (.string (⟨#[120]⟩ : ByteArray)))) ?_
    refine rvO C (.pv (.lit (.int .i64 ((⟨#[120]⟩ : ByteArray).size : Int)))) ?_
    refine rvO C (.pv (.lit (.bool (decide (((⟨#[120]⟩ : ByteArray).size : Int) > 24))))) ?_
    refine rvP C (.pv (.lit (.bool (decide (((⟨#[120]⟩ : ByteArray).size : Int) > 24))))) ?_
    refine rvP C (.pv (.lit (.bool (decide (((⟨#[120]⟩ : ByteArray).size : Int) > 24))))) ?_
    refine rvc_case 28 (decide (((⟨#[120]⟩ : ByteArray).size : Int) > 24)) rfl (fun h4 => ?_) (fun h4 => ?_)
    ·
     replace hR := of_true h4 hR
     refine rvS ?_
     refine rvS ?_
     refine rvS ?_
     refine rvP C (.pv (.lit (.bool true))) ?_
     refine rvc_nil ?_
     refine Awp.condT (b := true) rfl rfl ?_
     refine Awp.consP C ?_
     refine rvP C (.pv (.lit (.int .i64 91))) ?_
     refine rvc_nil ?_
     refine Awp.ret ?_
     subst hR
     exact ⟨.inl rfl, rfl⟩
    ·
     replace hR := of_false h4 hR
     refine rvO C (.pv (.lit (.string (⟨#[120]⟩ : ByteArray)))) ?_
     refine rvc_open rfl rfl rfl (rexec_call hP C rfl rfl rfl (valid_x ) ?_)
     refine rvO C (.pv (.lit (.bool false))) ?_
     refine rvP C (.pv (.lit (.bool false))) ?_
     refine rvc_nil ?_
     refine Awp.condF (b := false) rfl rfl ?_
     refine Awp.skip ?_
     refine Awp.consP C ?_
     refine rvP C (.pv (.lit (.int .i64 0))) ?_
     refine rvc_nil ?_
     refine Awp.ret ?_
     subst hR
     exact ⟨.inl rfl, rfl⟩
def r9Right (k : (Nat → Int))  : Int :=
  (bif (((r9Key (nameL k)).2) != 0) then 91 else (bif (!((((r9Key (nameL k)).1 0) == (k 0)) && ((((r9Key (nameL k)).1 1) == (k 1)) && ((((r9Key (nameL k)).1 2) == (k 2)) && ((((r9Key (nameL k)).1 3) == (k 3)) && ((((r9Key (nameL k)).1 4) == (k 4)) && ((((r9Key (nameL k)).1 5) == (k 5)) && ((((r9Key (nameL k)).1 6) == (k 6)) && ((((r9Key (nameL k)).1 7) == (k 7)) && true))))))))) then 91 else (bif (decide (((⟨#[120]⟩ : ByteArray).size : Int) < 1)) then 91 else (bif (decide (((⟨#[120]⟩ : ByteArray).size : Int) > 24)) then 91 else 0))))
theorem r9Right_calls (k : (Nat → Int))  (hk : KeyB k) : PCalls Tryd.prog 51 [.agg [.pv (.lit (.int .u8 (k 0))), .pv (.lit (.int .u8 (k 1))), .pv (.lit (.int .u8 (k 2))), .pv (.lit (.int .u8 (k 3))), .pv (.lit (.int .u8 (k 4))), .pv (.lit (.int .u8 (k 5))), .pv (.lit (.int .u8 (k 6))), .pv (.lit (.int .u8 (k 7)))], .pv (.lit (.string (⟨#[120]⟩ : ByteArray)))] (.pv (.lit (.int .i64 (r9Right k )))) := by
 generalize hR : r9Right k  = R
 refine PCalls.of_body tabOk Tryd.func51 rfl rfl rfl rfl rfl mixed fun E hP C hI => ?_
 refine Awp.consP C ?_
 refine rvc_un (rexec_prim C (δ := { v := .ptr 2 0, new := [(2, .cells [.pv (.lit (.int .u8 (k 0))), .pv (.lit (.int .u8 (k 1))), .pv (.lit (.int .u8 (k 2))), .pv (.lit (.int .u8 (k 3))), .pv (.lit (.int .u8 (k 4))), .pv (.lit (.int .u8 (k 5))), .pv (.lit (.int .u8 (k 6))), .pv (.lit (.int .u8 (k 7)))])] }) rfl rfl rfl rfl trivial rfl ?_)
 refine rvP C (.pv (.lit (.int .i64 0))) ?_
 refine rvc_nil ?_
 refine Awp.consP C ?_
 refine rvP C (.agg [.pv (.lit (.int .u8 (k 0))), .pv (.lit (.int .u8 (k 1))), .pv (.lit (.int .u8 (k 2))), .pv (.lit (.int .u8 (k 3))), .pv (.lit (.int .u8 (k 4))), .pv (.lit (.int .u8 (k 5))), .pv (.lit (.int .u8 (k 6))), .pv (.lit (.int .u8 (k 7)))]) ?_
 refine rvc_un (rexec_call hP C rfl rfl rfl (r9NameL_calls k) ?_)
 refine rvc_un (rexec_call hP C rfl rfl rfl (r9Key_calls (nameL k) (nameL_ok hk)) ?_)
 refine rvP C (.tup [.agg [.pv (.lit (.int .u8 ((r9Key (nameL k)).1 0))), .pv (.lit (.int .u8 ((r9Key (nameL k)).1 1))), .pv (.lit (.int .u8 ((r9Key (nameL k)).1 2))), .pv (.lit (.int .u8 ((r9Key (nameL k)).1 3))), .pv (.lit (.int .u8 ((r9Key (nameL k)).1 4))), .pv (.lit (.int .u8 ((r9Key (nameL k)).1 5))), .pv (.lit (.int .u8 ((r9Key (nameL k)).1 6))), .pv (.lit (.int .u8 ((r9Key (nameL k)).1 7)))], .pv (.lit (.int .i64 ((r9Key (nameL k)).2)))]) ?_
 refine rvP C (.agg [.pv (.lit (.int .u8 ((r9Key (nameL k)).1 0))), .pv (.lit (.int .u8 ((r9Key (nameL k)).1 1))), .pv (.lit (.int .u8 ((r9Key (nameL k)).1 2))), .pv (.lit (.int .u8 ((r9Key (nameL k)).1 3))), .pv (.lit (.int .u8 ((r9Key (nameL k)).1 4))), .pv (.lit (.int .u8 ((r9Key (nameL k)).1 5))), .pv (.lit (.int .u8 ((r9Key (nameL k)).1 6))), .pv (.lit (.int .u8 ((r9Key (nameL k)).1 7)))]) ?_
 refine rvP C (.pv (.lit (.int .i64 ((r9Key (nameL k)).2)))) ?_
 refine rvc_un (rexec_prim C (δ := { v := .ptr 5 0, new := [(5, .cells [.pv (.lit (.int .u8 0)), .pv (.lit (.int .u8 0)), .pv (.lit (.int .u8 0)), .pv (.lit (.int .u8 0)), .pv (.lit (.int .u8 0)), .pv (.lit (.int .u8 0)), .pv (.lit (.int .u8 0)), .pv (.lit (.int .u8 0))])] }) rfl rfl rfl rfl trivial rfl ?_)
 refine rvc_un (rexec_prim C (δ := { v := .undef, wr := [(5, some (.cells [.pv (.lit (.int .u8 ((r9Key (nameL k)).1 0))), .pv (.lit (.int .u8 ((r9Key (nameL k)).1 1))), .pv (.lit (.int .u8 ((r9Key (nameL k)).1 2))), .pv (.lit (.int .u8 ((r9Key (nameL k)).1 3))), .pv (.lit (.int .u8 ((r9Key (nameL k)).1 4))), .pv (.lit (.int .u8 ((r9Key (nameL k)).1 5))), .pv (.lit (.int .u8 ((r9Key (nameL k)).1 6))), .pv (.lit (.int .u8 ((r9Key (nameL k)).1 7)))]))] }) rfl rfl rfl rfl trivial rfl ?_)
 refine rvP C (.pv (.lit (.int .i64 ((r9Key (nameL k)).2)))) ?_
 refine rvc_nil ?_
 refine Awp.seq ?_
 refine Awp.consP C ?_
 refine rvP C (.pv (.lit (.int .i64 ((r9Key (nameL k)).2)))) ?_
 refine rvP C (.pv (.lit (.bool (((r9Key (nameL k)).2) != 0)))) ?_
 refine rvP C (.pv (.lit (.bool (((r9Key (nameL k)).2) != 0)))) ?_
 refine rvc_case 15 (((r9Key (nameL k)).2) != 0) rfl (fun h1 => ?_) (fun h1 => ?_)
 ·
  replace hR := of_true h1 hR
  refine rvS ?_
  refine rvS ?_
  refine rvS ?_
  refine rvP C (.pv (.lit (.bool true))) ?_
  refine rvP C (.pv (.lit (.bool true))) ?_
  refine rvS ?_
  refine rvS ?_
  refine rvS ?_
  refine rvP C (.pv (.lit (.bool true))) ?_
  refine rvP C (.pv (.lit (.bool true))) ?_
  refine rvS ?_
  refine rvS ?_
  refine rvS ?_
  refine rvP C (.pv (.lit (.bool true))) ?_
  refine rvP C (.pv (.lit (.bool true))) ?_
  refine rvS ?_
  refine rvS ?_
  refine rvS ?_
  refine rvP C (.pv (.lit (.bool true))) ?_
  refine rvc_nil ?_
  refine Awp.condT (b := true) rfl rfl ?_
  refine Awp.consP C ?_
  refine rvP C (.pv (.lit (.int .i64 91))) ?_
  refine rvc_nil ?_
  refine Awp.ret ?_
  subst hR
  exact ⟨.inl rfl, rfl⟩
 ·
  replace hR := of_false h1 hR
  refine rvO C (.agg [.pv (.lit (.int .u8 ((r9Key (nameL k)).1 0))), .pv (.lit (.int .u8 ((r9Key (nameL k)).1 1))), .pv (.lit (.int .u8 ((r9Key (nameL k)).1 2))), .pv (.lit (.int .u8 ((r9Key (nameL k)).1 3))), .pv (.lit (.int .u8 ((r9Key (nameL k)).1 4))), .pv (.lit (.int .u8 ((r9Key (nameL k)).1 5))), .pv (.lit (.int .u8 ((r9Key (nameL k)).1 6))), .pv (.lit (.int .u8 ((r9Key (nameL k)).1 7)))]) ?_
  refine rvO C (.agg [.pv (.lit (.int .u8 (k 0))), .pv (.lit (.int .u8 (k 1))), .pv (.lit (.int .u8 (k 2))), .pv (.lit (.int .u8 (k 3))), .pv (.lit (.int .u8 (k 4))), .pv (.lit (.int .u8 (k 5))), .pv (.lit (.int .u8 (k 6))), .pv (.lit (.int .u8 (k 7)))]) ?_
  refine rvO C (.pv (.lit (.bool (!((((r9Key (nameL k)).1 0) == (k 0)) && ((((r9Key (nameL k)).1 1) == (k 1)) && ((((r9Key (nameL k)).1 2) == (k 2)) && ((((r9Key (nameL k)).1 3) == (k 3)) && ((((r9Key (nameL k)).1 4) == (k 4)) && ((((r9Key (nameL k)).1 5) == (k 5)) && ((((r9Key (nameL k)).1 6) == (k 6)) && ((((r9Key (nameL k)).1 7) == (k 7)) && true)))))))))))) ?_
  refine rvP C (.pv (.lit (.bool (!((((r9Key (nameL k)).1 0) == (k 0)) && ((((r9Key (nameL k)).1 1) == (k 1)) && ((((r9Key (nameL k)).1 2) == (k 2)) && ((((r9Key (nameL k)).1 3) == (k 3)) && ((((r9Key (nameL k)).1 4) == (k 4)) && ((((r9Key (nameL k)).1 5) == (k 5)) && ((((r9Key (nameL k)).1 6) == (k 6)) && ((((r9Key (nameL k)).1 7) == (k 7)) && true)))))))))))) ?_
  refine rvP C (.pv (.lit (.bool (!((((r9Key (nameL k)).1 0) == (k 0)) && ((((r9Key (nameL k)).1 1) == (k 1)) && ((((r9Key (nameL k)).1 2) == (k 2)) && ((((r9Key (nameL k)).1 3) == (k 3)) && ((((r9Key (nameL k)).1 4) == (k 4)) && ((((r9Key (nameL k)).1 5) == (k 5)) && ((((r9Key (nameL k)).1 6) == (k 6)) && ((((r9Key (nameL k)).1 7) == (k 7)) && true)))))))))))) ?_
  refine rvc_case 20 (!((((r9Key (nameL k)).1 0) == (k 0)) && ((((r9Key (nameL k)).1 1) == (k 1)) && ((((r9Key (nameL k)).1 2) == (k 2)) && ((((r9Key (nameL k)).1 3) == (k 3)) && ((((r9Key (nameL k)).1 4) == (k 4)) && ((((r9Key (nameL k)).1 5) == (k 5)) && ((((r9Key (nameL k)).1 6) == (k 6)) && ((((r9Key (nameL k)).1 7) == (k 7)) && true))))))))) rfl (fun h2 => ?_) (fun h2 => ?_)
  ·
   replace hR := of_true h2 hR
   refine rvS ?_
   refine rvS ?_
   refine rvS ?_
   refine rvP C (.pv (.lit (.bool true))) ?_
   refine rvP C (.pv (.lit (.bool true))) ?_
   refine rvS ?_
   refine rvS ?_
   refine rvS ?_
   refine rvP C (.pv (.lit (.bool true))) ?_
   refine rvP C (.pv (.lit (.bool true))) ?_
   refine rvS ?_
   refine rvS ?_
   refine rvS ?_
   refine rvP C (.pv (.lit (.bool true))) ?_
   refine rvc_nil ?_
   refine Awp.condT (b := true) rfl rfl ?_
   refine Awp.consP C ?_
   refine rvP C (.pv (.lit (.int .i64 91))) ?_
   refine rvc_nil ?_
   refine Awp.ret ?_
   subst hR
   exact ⟨.inl rfl, rfl⟩
  ·
   replace hR := of_false h2 hR
   refine rvO C (.pv (.lit (.string (⟨#[120]⟩ : ByteArray)))) ?_
   refine rvO C (.pv (.lit (.int .i64 ((⟨#[120]⟩ : ByteArray).size : Int)))) ?_
   refine rvO C (.pv (.lit (.bool (decide (((⟨#[120]⟩ : ByteArray).size : Int) < 1))))) ?_
   refine rvP C (.pv (.lit (.bool (decide (((⟨#[120]⟩ : ByteArray).size : Int) < 1))))) ?_
   refine rvP C (.pv (.lit (.bool (decide (((⟨#[120]⟩ : ByteArray).size : Int) < 1))))) ?_
   refine rvc_case 25 (decide (((⟨#[120]⟩ : ByteArray).size : Int) < 1)) rfl (fun h3 => ?_) (fun h3 => ?_)
   ·
    replace hR := of_true h3 hR
    refine rvS ?_
    refine rvS ?_
    refine rvS ?_
    refine rvP C (.pv (.lit (.bool true))) ?_
    refine rvP C (.pv (.lit (.bool true))) ?_
    refine rvS ?_
    refine rvS ?_
    refine rvS ?_
    refine rvP C (.pv (.lit (.bool true))) ?_
    refine rvc_nil ?_
    refine Awp.condT (b := true) rfl rfl ?_
    refine Awp.consP C ?_
    refine rvP C (.pv (.lit (.int .i64 91))) ?_
    refine rvc_nil ?_
    refine Awp.ret ?_
    subst hR
    exact ⟨.inl rfl, rfl⟩
   ·
    replace hR := of_false h3 hR
    refine rvO C (.pv (.lit (.string (⟨#[120]⟩ : ByteArray)))) ?_
    refine rvO C (.pv (.lit (.int .i64 ((⟨#[120]⟩ : ByteArray).size : Int)))) ?_
    refine rvO C (.pv (.lit (.bool (decide (((⟨#[120]⟩ : ByteArray).size : Int) > 24))))) ?_
    refine rvP C (.pv (.lit (.bool (decide (((⟨#[120]⟩ : ByteArray).size : Int) > 24))))) ?_
    refine rvP C (.pv (.lit (.bool (decide (((⟨#[120]⟩ : ByteArray).size : Int) > 24))))) ?_
    refine rvc_case 30 (decide (((⟨#[120]⟩ : ByteArray).size : Int) > 24)) rfl (fun h4 => ?_) (fun h4 => ?_)
    ·
     replace hR := of_true h4 hR
     refine rvS ?_
     refine rvS ?_
     refine rvS ?_
     refine rvP C (.pv (.lit (.bool true))) ?_
     refine rvc_nil ?_
     refine Awp.condT (b := true) rfl rfl ?_
     refine Awp.consP C ?_
     refine rvP C (.pv (.lit (.int .i64 91))) ?_
     refine rvc_nil ?_
     refine Awp.ret ?_
     subst hR
     exact ⟨.inl rfl, rfl⟩
    ·
     replace hR := of_false h4 hR
     refine rvO C (.pv (.lit (.string (⟨#[120]⟩ : ByteArray)))) ?_
     refine rvc_open rfl rfl rfl (rexec_call hP C rfl rfl rfl (r9plain_x ) ?_)
     refine rvO C (.pv (.lit (.bool false))) ?_
     refine rvP C (.pv (.lit (.bool false))) ?_
     refine rvc_nil ?_
     refine Awp.condF (b := false) rfl rfl ?_
     refine Awp.skip ?_
     refine Awp.consP C ?_
     refine rvP C (.pv (.lit (.int .i64 0))) ?_
     refine rvc_nil ?_
     refine Awp.ret ?_
     subst hR
     exact ⟨.inl rfl, rfl⟩
def rKey (k : (Nat → Int)) : Bool :=
  ((r9Right k) == 0)
theorem rKey_calls (k : (Nat → Int)) (hk : KeyB k) : PCalls Tryd.prog 30 [.agg [.pv (.lit (.int .u8 (k 0))), .pv (.lit (.int .u8 (k 1))), .pv (.lit (.int .u8 (k 2))), .pv (.lit (.int .u8 (k 3))), .pv (.lit (.int .u8 (k 4))), .pv (.lit (.int .u8 (k 5))), .pv (.lit (.int .u8 (k 6))), .pv (.lit (.int .u8 (k 7)))]] (.pv (.lit (.bool (rKey k)))) := by
 generalize hR : rKey k = R
 refine PCalls.of_body tabOk Tryd.func30 rfl rfl rfl rfl rfl mixed fun E hP C hI => ?_
 refine Awp.consP C ?_
 refine rvc_un (rexec_prim C (δ := { v := .ptr 1 0, new := [(1, .cells [.pv (.lit (.int .u8 (k 0))), .pv (.lit (.int .u8 (k 1))), .pv (.lit (.int .u8 (k 2))), .pv (.lit (.int .u8 (k 3))), .pv (.lit (.int .u8 (k 4))), .pv (.lit (.int .u8 (k 5))), .pv (.lit (.int .u8 (k 6))), .pv (.lit (.int .u8 (k 7)))])] }) rfl rfl rfl rfl trivial rfl ?_)
 refine rvP C (.pv (.lit (.bool false))) ?_
 refine rvc_nil ?_
 refine Awp.consP C ?_
 refine rvP C (.agg [.pv (.lit (.int .u8 (k 0))), .pv (.lit (.int .u8 (k 1))), .pv (.lit (.int .u8 (k 2))), .pv (.lit (.int .u8 (k 3))), .pv (.lit (.int .u8 (k 4))), .pv (.lit (.int .u8 (k 5))), .pv (.lit (.int .u8 (k 6))), .pv (.lit (.int .u8 (k 7)))]) ?_
 refine rvc_un (rexec_call hP C rfl rfl rfl (r9Right_calls k hk) ?_)
 refine rvP C (.pv (.lit (.bool ((r9Right k) == 0)))) ?_
 refine rvP C (.pv (.lit (.bool ((r9Right k) == 0)))) ?_
 refine rvc_nil ?_
 refine Awp.ret ?_
 subst hR
 exact ⟨.inl rfl, rfl⟩
def placeF (s : Seen) (k : (Nat → Int)) : Int :=
  (cmpB (Sl.mk false (tbF s.key 8 0)) (Sl.mk false (tbF k 8 0)))
theorem placeF_calls (s : Seen) (k : (Nat → Int))  : PCalls Tryd.prog 63 [.agg [.pv (.lit (.int .u8 (s.key 0))), .pv (.lit (.int .u8 (s.key 1))), .pv (.lit (.int .u8 (s.key 2))), .pv (.lit (.int .u8 (s.key 3))), .pv (.lit (.int .u8 (s.key 4))), .pv (.lit (.int .u8 (s.key 5))), .pv (.lit (.int .u8 (s.key 6))), .pv (.lit (.int .u8 (s.key 7))), .pv (.lit (.int .i64 s.ver))], .agg [.pv (.lit (.int .u8 (k 0))), .pv (.lit (.int .u8 (k 1))), .pv (.lit (.int .u8 (k 2))), .pv (.lit (.int .u8 (k 3))), .pv (.lit (.int .u8 (k 4))), .pv (.lit (.int .u8 (k 5))), .pv (.lit (.int .u8 (k 6))), .pv (.lit (.int .u8 (k 7)))]] (.pv (.lit (.int .i64 (placeF s k)))) := by
 generalize hR : placeF s k = R
 refine PCalls.of_body tabOk Tryd.func63 rfl rfl rfl rfl rfl mixed fun E hP C hI => ?_
 refine Awp.consP C ?_
 refine rvc_un (rexec_boxF C [.lit (.int .u8 (s.key 0)), .lit (.int .u8 (s.key 1)), .lit (.int .u8 (s.key 2)), .lit (.int .u8 (s.key 3)), .lit (.int .u8 (s.key 4)), .lit (.int .u8 (s.key 5)), .lit (.int .u8 (s.key 6)), .lit (.int .u8 (s.key 7)), .lit (.int .i64 s.ver)] rfl rfl rfl rfl ?_)
 refine rvc_un (rexec_boxF C [.lit (.int .u8 (k 0)), .lit (.int .u8 (k 1)), .lit (.int .u8 (k 2)), .lit (.int .u8 (k 3)), .lit (.int .u8 (k 4)), .lit (.int .u8 (k 5)), .lit (.int .u8 (k 6)), .lit (.int .u8 (k 7))] rfl rfl rfl rfl ?_)
 refine rvP C (.pv (.lit (.int .i64 0))) ?_
 refine rvc_nil ?_
 refine Awp.consP C ?_
 refine rvP C (.rp [.lit (.int .u8 (s.key 0)), .lit (.int .u8 (s.key 1)), .lit (.int .u8 (s.key 2)), .lit (.int .u8 (s.key 3)), .lit (.int .u8 (s.key 4)), .lit (.int .u8 (s.key 5)), .lit (.int .u8 (s.key 6)), .lit (.int .u8 (s.key 7))]) ?_
 refine rvc_un (rexec_prim C (δ := { v := sS (some false) (eI .u8) (tbF s.key 8 0) }) rfl rfl rfl rfl (by decide) rfl ?_)
 refine rvc_un (rexec_prim C (δ := { v := sS (some false) (eI .u8) (tbF k 8 0) }) rfl rfl rfl rfl (by decide) rfl ?_)
 refine rvc_un (rexec_call hP C rfl rfl rfl (cmpB_calls (Sl.mk false (tbF s.key 8 0)) (Sl.mk false (tbF k 8 0))) ?_)
 refine rvP C (.pv (.lit (.int .i64 (cmpB (Sl.mk false (tbF s.key 8 0)) (Sl.mk false (tbF k 8 0)))))) ?_
 refine rvc_nil ?_
 refine Awp.ret ?_
 subst hR
 exact ⟨.inl rfl, rfl⟩
def pRight_l0 (l : (Sl Seen)) : List Seen → Nat → Int
  | [], _ => 0
  | x :: xs, i => (bif ((shRight x.key) != 0) then 100 else (bif (decide (x.ver < 1)) then 100 else (bif (decide (x.ver > 1099511627776)) then 100 else (bif (decide ((i : Int) > 0)) then (bif (decide ((cmpB (Sl.mk false (tbF (ofL [(l.D[(IntKind.i64.wrap ((i : Int) - 1)).toNat]!.key 0), (l.D[(IntKind.i64.wrap ((i : Int) - 1)).toNat]!.key 1), (l.D[(IntKind.i64.wrap ((i : Int) - 1)).toNat]!.key 2), (l.D[(IntKind.i64.wrap ((i : Int) - 1)).toNat]!.key 3), (l.D[(IntKind.i64.wrap ((i : Int) - 1)).toNat]!.key 4), (l.D[(IntKind.i64.wrap ((i : Int) - 1)).toNat]!.key 5), (l.D[(IntKind.i64.wrap ((i : Int) - 1)).toNat]!.key 6), (l.D[(IntKind.i64.wrap ((i : Int) - 1)).toNat]!.key 7)]) 8 0)) (Sl.mk false (tbF x.key 8 0))) ≥ 0)) then 100 else pRight_l0 l xs (i + 1) ) else pRight_l0 l xs (i + 1) ))))
def pRight (l : (Sl Seen)) : Int :=
  (bif (decide ((l.D.length : Int) > 6)) then 7 else pRight_l0 l l.D 0 )
theorem pRight_calls (l : (Sl Seen)) (hl : ∀ x ∈ l.D, KeyB x.key) (hl1 : l.D.length ≤ 1000000) : PCalls Tryd.prog 11 [sS (some l.nil) eSeen l.D] (.pv (.lit (.int .i64 (pRight l)))) := by
 generalize hR : pRight l = R
 refine PCalls.of_body tabOk Tryd.func11 rfl rfl rfl rfl rfl mixed fun E hP C hI => ?_
 refine Awp.consP C ?_
 refine rvP C (.pv (.lit (.int .i64 0))) ?_
 refine rvc_nil ?_
 refine Awp.seq ?_
 refine Awp.consP C ?_
 refine rvP C (sS (some l.nil) eSeen l.D) ?_
 refine rvP C (.pv (.lit (.int .i64 (l.D.length : Int)))) ?_
 refine rvP C (.pv (.lit (.bool (decide ((l.D.length : Int) > 6))))) ?_
 refine rvc_nil ?_
 refine Awp.cond (b := (decide ((l.D.length : Int) > 6))) rfl (fun h1 => ?_) (fun h1 => ?_)
 ·
  replace hR := of_true h1 hR
  refine Awp.consP C ?_
  refine rvP C (.pv (.lit (.int .i64 7))) ?_
  refine rvc_nil ?_
  refine Awp.ret ?_
  subst hR
  exact ⟨.inl rfl, rfl⟩
 ·
  replace hR := of_false h1 hR
  refine Awp.skip ?_
  refine Awp.seq ?_
  refine Awp.consP C ?_
  refine rvP C (sS (some l.nil) eSeen l.D) ?_
  refine rvP C (.pv (.lit (.int .i64 (l.D.length : Int)))) ?_
  refine rvP C (.pv (.lit (.int .i64 0))) ?_
  refine rvc_nil ?_
  refine Awp.block ?_
  refine Awp.forR (σ := Unit) (l.D.length) (fun i _v => [(0, sS (some l.nil) eSeen l.D), (8, sS (some l.nil) eSeen l.D), (9, .pv (.lit (.int .i64 (l.D.length : Int)))), (10, .pv (.lit (.int .i64 (i : Int))))]) (fun i _v => []) [] (fun i _v => pRight_l0 l (l.D.drop i) i  = R) () ?_ ?_ (fun i _v h2 hR => ?_)
  · exact hR
  · exact ⟨fun b => b, WeakerR.ofL (Ks := []) hI ⟨⟨rfl, rfl⟩, ⟨rfl, rfl⟩, ⟨rfl, rfl⟩, ⟨rfl, rfl⟩, trivial⟩ (okH_nil) rfl⟩
  refine Awp.consP C ?_
  refine rvP C (.pv (.lit (.bool (decide ((i : Int) < (l.D.length : Int)))))) ?_
  refine rvc_nil ?_
  refine Awp.seq ?_
  refine Awp.cond (b := (decide ((i : Int) < (l.D.length : Int)))) rfl (fun h3 => ?_) (fun h3 => ?_)
  ·
   have h4 : i < l.D.length := by have := of_decide_eq_true h3; omega
   obtain ⟨x, h5⟩ := getX h4
   rw [drop_at h5] at hR
   refine Awp.skip ?_
   refine Awp.seq ?_
   refine Awp.block ?_
   refine Awp.consP C ?_
   refine rvP C (.pv (.lit (.int .i64 (i : Int)))) ?_
   refine rvc_un (rexec_idxS C rfl rfl rfl rfl rfl rfl x (Int.natCast_nonneg _) h5 ?_)
   refine rvP C (.agg [.pv (.lit (.int .u8 (x.key 0))), .pv (.lit (.int .u8 (x.key 1))), .pv (.lit (.int .u8 (x.key 2))), .pv (.lit (.int .u8 (x.key 3))), .pv (.lit (.int .u8 (x.key 4))), .pv (.lit (.int .u8 (x.key 5))), .pv (.lit (.int .u8 (x.key 6))), .pv (.lit (.int .u8 (x.key 7))), .pv (.lit (.int .i64 x.ver))]) ?_
   refine rvc_un (rexec_prim C (δ := { v := .ptr 4 0, new := [(4, .cells [.pv (.lit (.int .u8 0)), .pv (.lit (.int .u8 0)), .pv (.lit (.int .u8 0)), .pv (.lit (.int .u8 0)), .pv (.lit (.int .u8 0)), .pv (.lit (.int .u8 0)), .pv (.lit (.int .u8 0)), .pv (.lit (.int .u8 0)), .pv (.lit (.int .i64 0))])] }) rfl rfl rfl rfl trivial rfl ?_)
   refine rvP C (.pv (.lit (.int .i64 (i : Int)))) ?_
   refine rvc_un (rexec_prim C (δ := { v := .undef, wr := [(4, some (.cells [.pv (.lit (.int .u8 (x.key 0))), .pv (.lit (.int .u8 (x.key 1))), .pv (.lit (.int .u8 (x.key 2))), .pv (.lit (.int .u8 (x.key 3))), .pv (.lit (.int .u8 (x.key 4))), .pv (.lit (.int .u8 (x.key 5))), .pv (.lit (.int .u8 (x.key 6))), .pv (.lit (.int .u8 (x.key 7))), .pv (.lit (.int .i64 x.ver))]))] }) rfl rfl rfl rfl trivial rfl ?_)
   refine rvc_nil ?_
   refine Awp.seq ?_
   refine Awp.consP C ?_
   refine rvP C (.ptr 4 0) ?_
   refine rvP C (.agg [.pv (.lit (.int .u8 (x.key 0))), .pv (.lit (.int .u8 (x.key 1))), .pv (.lit (.int .u8 (x.key 2))), .pv (.lit (.int .u8 (x.key 3))), .pv (.lit (.int .u8 (x.key 4))), .pv (.lit (.int .u8 (x.key 5))), .pv (.lit (.int .u8 (x.key 6))), .pv (.lit (.int .u8 (x.key 7)))]) ?_
   refine rvc_un (rexec_call hP C rfl rfl rfl (shRight_calls x.key (hl _ (List.mem_of_getElem? (by assumption)))) ?_)
   refine rvP C (.pv (.lit (.bool ((shRight x.key) != 0)))) ?_
   refine rvP C (.pv (.lit (.bool ((shRight x.key) != 0)))) ?_
   refine rvc_case 19 ((shRight x.key) != 0) rfl (fun h6 => ?_) (fun h6 => ?_)
   ·
    replace hR := of_true h6 hR
    refine rvS ?_
    refine rvS ?_
    refine rvS ?_
    refine rvP C (.pv (.lit (.bool true))) ?_
    refine rvP C (.pv (.lit (.bool true))) ?_
    refine rvS ?_
    refine rvS ?_
    refine rvS ?_
    refine rvP C (.pv (.lit (.bool true))) ?_
    refine rvc_nil ?_
    refine Awp.condT (b := true) rfl rfl ?_
    refine Awp.consP C ?_
    refine rvP C (.pv (.lit (.int .i64 100))) ?_
    refine rvc_nil ?_
    refine Awp.ret ?_
    subst hR
    exact ⟨.inl rfl, rfl⟩
   ·
    replace hR := of_false h6 hR
    refine rvO C (.ptr 4 8) ?_
    refine rvO C (.pv (.lit (.int .i64 x.ver))) ?_
    refine rvO C (.pv (.lit (.bool (decide (x.ver < 1))))) ?_
    refine rvP C (.pv (.lit (.bool (decide (x.ver < 1))))) ?_
    refine rvP C (.pv (.lit (.bool (decide (x.ver < 1))))) ?_
    refine rvc_case 24 (decide (x.ver < 1)) rfl (fun h7 => ?_) (fun h7 => ?_)
    ·
     replace hR := of_true h7 hR
     refine rvS ?_
     refine rvS ?_
     refine rvS ?_
     refine rvP C (.pv (.lit (.bool true))) ?_
     refine rvc_nil ?_
     refine Awp.condT (b := true) rfl rfl ?_
     refine Awp.consP C ?_
     refine rvP C (.pv (.lit (.int .i64 100))) ?_
     refine rvc_nil ?_
     refine Awp.ret ?_
     subst hR
     exact ⟨.inl rfl, rfl⟩
    ·
     replace hR := of_false h7 hR
     refine rvO C (.ptr 4 8) ?_
     refine rvO C (.pv (.lit (.int .i64 x.ver))) ?_
     refine rvO C (.pv (.lit (.bool (decide (x.ver > 1099511627776))))) ?_
     refine rvP C (.pv (.lit (.bool (decide (x.ver > 1099511627776))))) ?_
     refine rvc_nil ?_
     refine Awp.cond (b := (decide (x.ver > 1099511627776))) rfl (fun h8 => ?_) (fun h8 => ?_)
     ·
      replace hR := of_true h8 hR
      refine Awp.consP C ?_
      refine rvP C (.pv (.lit (.int .i64 100))) ?_
      refine rvc_nil ?_
      refine Awp.ret ?_
      subst hR
      exact ⟨.inl rfl, rfl⟩
     ·
      replace hR := of_false h8 hR
      refine Awp.skip ?_
      refine Awp.freezeP 4 [.lit (.int .u8 (x.key 0)), .lit (.int .u8 (x.key 1)), .lit (.int .u8 (x.key 2)), .lit (.int .u8 (x.key 3)), .lit (.int .u8 (x.key 4)), .lit (.int .u8 (x.key 5)), .lit (.int .u8 (x.key 6)), .lit (.int .u8 (x.key 7)), .lit (.int .i64 x.ver)] rfl [(0, sS (some l.nil) eSeen l.D), (3, .pv (.lit (.int .i64 (i : Int)))), (4, .rp [.lit (.int .u8 (x.key 0)), .lit (.int .u8 (x.key 1)), .lit (.int .u8 (x.key 2)), .lit (.int .u8 (x.key 3)), .lit (.int .u8 (x.key 4)), .lit (.int .u8 (x.key 5)), .lit (.int .u8 (x.key 6)), .lit (.int .u8 (x.key 7)), .lit (.int .i64 x.ver)]), (8, sS (some l.nil) eSeen l.D), (9, .pv (.lit (.int .i64 (l.D.length : Int)))), (10, .pv (.lit (.int .i64 (i : Int)))), (21, .pv (.lit (.int .i64 x.ver))), (22, .pv (.lit (.bool (decide (x.ver < 1))))), (26, .pv (.lit (.int .i64 x.ver))), (27, .pv (.lit (.bool (decide (x.ver > 1099511627776)))))] [] ⟨⟨_, rfl, .inl rfl⟩, ⟨_, rfl, .inl rfl⟩, ⟨_, rfl, .inr ⟨rfl, rfl⟩⟩, ⟨_, rfl, .inl rfl⟩, ⟨_, rfl, .inl rfl⟩, ⟨_, rfl, .inl rfl⟩, ⟨_, rfl, .inl rfl⟩, ⟨_, rfl, .inl rfl⟩, ⟨_, rfl, .inl rfl⟩, ⟨_, rfl, .inl rfl⟩, trivial⟩ trivial ?_
      refine Awp.consP C ?_
      refine rvP C (.pv (.lit (.int .i64 (i : Int)))) ?_
      refine rvP C (.pv (.lit (.bool (decide ((i : Int) > 0))))) ?_
      refine rvP C (.pv (.lit (.bool (decide ((i : Int) > 0))))) ?_
      refine rvc_case 31 (decide ((i : Int) > 0)) rfl (fun h9 => ?_) (fun h9 => ?_)
      ·
       replace hR := of_true h9 hR
       refine rvO C (sS (some l.nil) eSeen l.D) ?_
       refine rvO C (.pv (.lit (.int .i64 (i : Int)))) ?_
       refine rvO C (.pv (.lit (.int .i64 (IntKind.i64.wrap ((i : Int) - 1))))) ?_
       have h10 : l.D[(IntKind.i64.wrap ((i : Int) - 1)).toNat]? = some l.D[(IntKind.i64.wrap ((i : Int) - 1)).toNat]! := getE (by have := wrapI ((i : Int) - 1); have := of_decide_eq_true ‹decide ((i : Int) > 0) = true›; omega)
       refine rvc_open rfl rfl rfl (rexec_idxS C rfl rfl rfl rfl rfl rfl (l.D[(IntKind.i64.wrap ((i : Int) - 1)).toNat]!) (by have := wrapI ((i : Int) - 1); have := of_decide_eq_false h1; have := of_decide_eq_true h3; have := eq_of_bne_false h6; have := of_decide_eq_false h7; have := of_decide_eq_false h8; have := of_decide_eq_true h9; omega) h10 ?_)
       refine rvO C (.rp [.lit (.int .u8 (l.D[(IntKind.i64.wrap ((i : Int) - 1)).toNat]!.key 0)), .lit (.int .u8 (l.D[(IntKind.i64.wrap ((i : Int) - 1)).toNat]!.key 1)), .lit (.int .u8 (l.D[(IntKind.i64.wrap ((i : Int) - 1)).toNat]!.key 2)), .lit (.int .u8 (l.D[(IntKind.i64.wrap ((i : Int) - 1)).toNat]!.key 3)), .lit (.int .u8 (l.D[(IntKind.i64.wrap ((i : Int) - 1)).toNat]!.key 4)), .lit (.int .u8 (l.D[(IntKind.i64.wrap ((i : Int) - 1)).toNat]!.key 5)), .lit (.int .u8 (l.D[(IntKind.i64.wrap ((i : Int) - 1)).toNat]!.key 6)), .lit (.int .u8 (l.D[(IntKind.i64.wrap ((i : Int) - 1)).toNat]!.key 7))]) ?_
       refine rvc_open rfl rfl rfl (rexec_prim C (δ := { v := sS (some false) (eI .u8) (tbF (ofL [(l.D[(IntKind.i64.wrap ((i : Int) - 1)).toNat]!.key 0), (l.D[(IntKind.i64.wrap ((i : Int) - 1)).toNat]!.key 1), (l.D[(IntKind.i64.wrap ((i : Int) - 1)).toNat]!.key 2), (l.D[(IntKind.i64.wrap ((i : Int) - 1)).toNat]!.key 3), (l.D[(IntKind.i64.wrap ((i : Int) - 1)).toNat]!.key 4), (l.D[(IntKind.i64.wrap ((i : Int) - 1)).toNat]!.key 5), (l.D[(IntKind.i64.wrap ((i : Int) - 1)).toNat]!.key 6), (l.D[(IntKind.i64.wrap ((i : Int) - 1)).toNat]!.key 7)]) 8 0) }) rfl rfl rfl rfl (by decide) rfl ?_)
       refine rvO C (.rp [.lit (.int .u8 (x.key 0)), .lit (.int .u8 (x.key 1)), .lit (.int .u8 (x.key 2)), .lit (.int .u8 (x.key 3)), .lit (.int .u8 (x.key 4)), .lit (.int .u8 (x.key 5)), .lit (.int .u8 (x.key 6)), .lit (.int .u8 (x.key 7))]) ?_
       refine rvc_open rfl rfl rfl (rexec_prim C (δ := { v := sS (some false) (eI .u8) (tbF x.key 8 0) }) rfl rfl rfl rfl (by decide) rfl ?_)
       refine rvc_open rfl rfl rfl (rexec_call hP C rfl rfl rfl (cmpB_calls (Sl.mk false (tbF (ofL [(l.D[(IntKind.i64.wrap ((i : Int) - 1)).toNat]!.key 0), (l.D[(IntKind.i64.wrap ((i : Int) - 1)).toNat]!.key 1), (l.D[(IntKind.i64.wrap ((i : Int) - 1)).toNat]!.key 2), (l.D[(IntKind.i64.wrap ((i : Int) - 1)).toNat]!.key 3), (l.D[(IntKind.i64.wrap ((i : Int) - 1)).toNat]!.key 4), (l.D[(IntKind.i64.wrap ((i : Int) - 1)).toNat]!.key 5), (l.D[(IntKind.i64.wrap ((i : Int) - 1)).toNat]!.key 6), (l.D[(IntKind.i64.wrap ((i : Int) - 1)).toNat]!.key 7)]) 8 0)) (Sl.mk false (tbF x.key 8 0))) ?_)
       refine rvO C (.pv (.lit (.bool (decide ((cmpB (Sl.mk false (tbF (ofL [(l.D[(IntKind.i64.wrap ((i : Int) - 1)).toNat]!.key 0), (l.D[(IntKind.i64.wrap ((i : Int) - 1)).toNat]!.key 1), (l.D[(IntKind.i64.wrap ((i : Int) - 1)).toNat]!.key 2), (l.D[(IntKind.i64.wrap ((i : Int) - 1)).toNat]!.key 3), (l.D[(IntKind.i64.wrap ((i : Int) - 1)).toNat]!.key 4), (l.D[(IntKind.i64.wrap ((i : Int) - 1)).toNat]!.key 5), (l.D[(IntKind.i64.wrap ((i : Int) - 1)).toNat]!.key 6), (l.D[(IntKind.i64.wrap ((i : Int) - 1)).toNat]!.key 7)]) 8 0)) (Sl.mk false (tbF x.key 8 0))) ≥ 0))))) ?_
       refine rvP C (.pv (.lit (.bool (decide ((cmpB (Sl.mk false (tbF (ofL [(l.D[(IntKind.i64.wrap ((i : Int) - 1)).toNat]!.key 0), (l.D[(IntKind.i64.wrap ((i : Int) - 1)).toNat]!.key 1), (l.D[(IntKind.i64.wrap ((i : Int) - 1)).toNat]!.key 2), (l.D[(IntKind.i64.wrap ((i : Int) - 1)).toNat]!.key 3), (l.D[(IntKind.i64.wrap ((i : Int) - 1)).toNat]!.key 4), (l.D[(IntKind.i64.wrap ((i : Int) - 1)).toNat]!.key 5), (l.D[(IntKind.i64.wrap ((i : Int) - 1)).toNat]!.key 6), (l.D[(IntKind.i64.wrap ((i : Int) - 1)).toNat]!.key 7)]) 8 0)) (Sl.mk false (tbF x.key 8 0))) ≥ 0))))) ?_
       refine rvc_nil ?_
       refine Awp.cond (b := (decide ((cmpB (Sl.mk false (tbF (ofL [(l.D[(IntKind.i64.wrap ((i : Int) - 1)).toNat]!.key 0), (l.D[(IntKind.i64.wrap ((i : Int) - 1)).toNat]!.key 1), (l.D[(IntKind.i64.wrap ((i : Int) - 1)).toNat]!.key 2), (l.D[(IntKind.i64.wrap ((i : Int) - 1)).toNat]!.key 3), (l.D[(IntKind.i64.wrap ((i : Int) - 1)).toNat]!.key 4), (l.D[(IntKind.i64.wrap ((i : Int) - 1)).toNat]!.key 5), (l.D[(IntKind.i64.wrap ((i : Int) - 1)).toNat]!.key 6), (l.D[(IntKind.i64.wrap ((i : Int) - 1)).toNat]!.key 7)]) 8 0)) (Sl.mk false (tbF x.key 8 0))) ≥ 0))) rfl (fun h11 => ?_) (fun h11 => ?_)
       ·
        replace hR := of_true h11 hR
        refine Awp.consP C ?_
        refine rvP C (.pv (.lit (.int .i64 100))) ?_
        refine rvc_nil ?_
        refine Awp.ret ?_
        subst hR
        exact ⟨.inl rfl, rfl⟩
       ·
        replace hR := of_false h11 hR
        refine Awp.skip ?_
        refine Awp.regionP C ?_
        refine rvP C (.pv (.lit (.int .i64 (IntKind.i64.wrap ((i : Int) + 1))))) ?_
        refine rvP C (.pv (.lit (.int .i64 (IntKind.i64.wrap ((i : Int) + 1))))) ?_
        refine rvc_nil ?_
        refine ⟨h4, (), ?_, ?_⟩
        · exact hR
        · exact ⟨fun b => b, WeakerR.ofL (Ks := []) hI ⟨⟨rfl, rfl⟩, ⟨rfl, rfl⟩, ⟨rfl, rfl⟩, ⟨lit_cast (wrap_i64 (by omega) (by omega)), rfl⟩, trivial⟩ (okH_nil) rfl⟩
      ·
       replace hR := of_false h9 hR
       refine rvS ?_
       refine rvS ?_
       refine rvS ?_
       refine rvS ?_
       refine rvS ?_
       refine rvS ?_
       refine rvS ?_
       refine rvS ?_
       refine rvS ?_
       refine rvS ?_
       refine rvP C (.pv (.lit (.bool false))) ?_
       refine rvc_nil ?_
       refine Awp.condF (b := false) rfl rfl ?_
       refine Awp.skip ?_
       refine Awp.regionP C ?_
       refine rvP C (.pv (.lit (.int .i64 (IntKind.i64.wrap ((i : Int) + 1))))) ?_
       refine rvP C (.pv (.lit (.int .i64 (IntKind.i64.wrap ((i : Int) + 1))))) ?_
       refine rvc_nil ?_
       refine ⟨h4, (), ?_, ?_⟩
       · exact hR
       · exact ⟨fun b => b, WeakerR.ofL (Ks := []) hI ⟨⟨rfl, rfl⟩, ⟨rfl, rfl⟩, ⟨rfl, rfl⟩, ⟨lit_cast (wrap_i64 (by omega) (by omega)), rfl⟩, trivial⟩ (okH_nil) rfl⟩
  ·
   have h4 : ¬ i < l.D.length := by have := of_decide_eq_false h3; omega
   rw [drop_end h4] at hR
   refine Awp.exit ?_
   refine Awp.consP C ?_
   refine rvP C (.pv (.lit (.int .i64 0))) ?_
   refine rvc_nil ?_
   refine Awp.ret ?_
   subst hR
   exact ⟨.inl rfl, rfl⟩
def rpRight_l0 (l : (Sl Seen)) : List Seen → Nat → Int
  | [], _ => 0
  | x :: xs, i => (bif (!(rKey x.key)) then 100 else (bif (decide (x.ver < 1)) then 100 else (bif (decide (x.ver > 1099511627776)) then 100 else (bif (decide ((i : Int) > 0)) then (bif (!(rLess (ofL [(l.D[(IntKind.i64.wrap ((i : Int) - 1)).toNat]!.key 0), (l.D[(IntKind.i64.wrap ((i : Int) - 1)).toNat]!.key 1), (l.D[(IntKind.i64.wrap ((i : Int) - 1)).toNat]!.key 2), (l.D[(IntKind.i64.wrap ((i : Int) - 1)).toNat]!.key 3), (l.D[(IntKind.i64.wrap ((i : Int) - 1)).toNat]!.key 4), (l.D[(IntKind.i64.wrap ((i : Int) - 1)).toNat]!.key 5), (l.D[(IntKind.i64.wrap ((i : Int) - 1)).toNat]!.key 6), (l.D[(IntKind.i64.wrap ((i : Int) - 1)).toNat]!.key 7)]) x.key)) then 100 else rpRight_l0 l xs (i + 1) ) else rpRight_l0 l xs (i + 1) ))))
def rpRight (l : (Sl Seen)) : Int :=
  (bif (decide ((l.D.length : Int) > 6)) then 7 else rpRight_l0 l l.D 0 )
theorem rpRight_calls (l : (Sl Seen)) (hl : ∀ x ∈ l.D, KeyB x.key) (hl1 : l.D.length ≤ 1000000) : PCalls Tryd.prog 12 [sS (some l.nil) eSeen l.D] (.pv (.lit (.int .i64 (rpRight l)))) := by
 generalize hR : rpRight l = R
 refine PCalls.of_body tabOk Tryd.func12 rfl rfl rfl rfl rfl mixed fun E hP C hI => ?_
 refine Awp.consP C ?_
 refine rvP C (.pv (.lit (.int .i64 0))) ?_
 refine rvc_nil ?_
 refine Awp.seq ?_
 refine Awp.consP C ?_
 refine rvP C (sS (some l.nil) eSeen l.D) ?_
 refine rvP C (.pv (.lit (.int .i64 (l.D.length : Int)))) ?_
 refine rvP C (.pv (.lit (.bool (decide ((l.D.length : Int) > 6))))) ?_
 refine rvc_nil ?_
 refine Awp.cond (b := (decide ((l.D.length : Int) > 6))) rfl (fun h1 => ?_) (fun h1 => ?_)
 ·
  replace hR := of_true h1 hR
  refine Awp.consP C ?_
  refine rvP C (.pv (.lit (.int .i64 7))) ?_
  refine rvc_nil ?_
  refine Awp.ret ?_
  subst hR
  exact ⟨.inl rfl, rfl⟩
 ·
  replace hR := of_false h1 hR
  refine Awp.skip ?_
  refine Awp.seq ?_
  refine Awp.consP C ?_
  refine rvP C (sS (some l.nil) eSeen l.D) ?_
  refine rvP C (.pv (.lit (.int .i64 (l.D.length : Int)))) ?_
  refine rvP C (.pv (.lit (.int .i64 0))) ?_
  refine rvc_nil ?_
  refine Awp.block ?_
  refine Awp.forR (σ := Unit) (l.D.length) (fun i _v => [(0, sS (some l.nil) eSeen l.D), (8, sS (some l.nil) eSeen l.D), (9, .pv (.lit (.int .i64 (l.D.length : Int)))), (10, .pv (.lit (.int .i64 (i : Int))))]) (fun i _v => []) [] (fun i _v => rpRight_l0 l (l.D.drop i) i  = R) () ?_ ?_ (fun i _v h2 hR => ?_)
  · exact hR
  · exact ⟨fun b => b, WeakerR.ofL (Ks := []) hI ⟨⟨rfl, rfl⟩, ⟨rfl, rfl⟩, ⟨rfl, rfl⟩, ⟨rfl, rfl⟩, trivial⟩ (okH_nil) rfl⟩
  refine Awp.consP C ?_
  refine rvP C (.pv (.lit (.bool (decide ((i : Int) < (l.D.length : Int)))))) ?_
  refine rvc_nil ?_
  refine Awp.seq ?_
  refine Awp.cond (b := (decide ((i : Int) < (l.D.length : Int)))) rfl (fun h3 => ?_) (fun h3 => ?_)
  ·
   have h4 : i < l.D.length := by have := of_decide_eq_true h3; omega
   obtain ⟨x, h5⟩ := getX h4
   rw [drop_at h5] at hR
   refine Awp.skip ?_
   refine Awp.seq ?_
   refine Awp.block ?_
   refine Awp.consP C ?_
   refine rvP C (.pv (.lit (.int .i64 (i : Int)))) ?_
   refine rvc_un (rexec_idxS C rfl rfl rfl rfl rfl rfl x (Int.natCast_nonneg _) h5 ?_)
   refine rvP C (.agg [.pv (.lit (.int .u8 (x.key 0))), .pv (.lit (.int .u8 (x.key 1))), .pv (.lit (.int .u8 (x.key 2))), .pv (.lit (.int .u8 (x.key 3))), .pv (.lit (.int .u8 (x.key 4))), .pv (.lit (.int .u8 (x.key 5))), .pv (.lit (.int .u8 (x.key 6))), .pv (.lit (.int .u8 (x.key 7))), .pv (.lit (.int .i64 x.ver))]) ?_
   refine rvc_un (rexec_prim C (δ := { v := .ptr 4 0, new := [(4, .cells [.pv (.lit (.int .u8 0)), .pv (.lit (.int .u8 0)), .pv (.lit (.int .u8 0)), .pv (.lit (.int .u8 0)), .pv (.lit (.int .u8 0)), .pv (.lit (.int .u8 0)), .pv (.lit (.int .u8 0)), .pv (.lit (.int .u8 0)), .pv (.lit (.int .i64 0))])] }) rfl rfl rfl rfl trivial rfl ?_)
   refine rvP C (.pv (.lit (.int .i64 (i : Int)))) ?_
   refine rvc_un (rexec_prim C (δ := { v := .undef, wr := [(4, some (.cells [.pv (.lit (.int .u8 (x.key 0))), .pv (.lit (.int .u8 (x.key 1))), .pv (.lit (.int .u8 (x.key 2))), .pv (.lit (.int .u8 (x.key 3))), .pv (.lit (.int .u8 (x.key 4))), .pv (.lit (.int .u8 (x.key 5))), .pv (.lit (.int .u8 (x.key 6))), .pv (.lit (.int .u8 (x.key 7))), .pv (.lit (.int .i64 x.ver))]))] }) rfl rfl rfl rfl trivial rfl ?_)
   refine rvc_nil ?_
   refine Awp.consP C ?_
   refine rvP C (.ptr 4 0) ?_
   refine rvP C (.agg [.pv (.lit (.int .u8 (x.key 0))), .pv (.lit (.int .u8 (x.key 1))), .pv (.lit (.int .u8 (x.key 2))), .pv (.lit (.int .u8 (x.key 3))), .pv (.lit (.int .u8 (x.key 4))), .pv (.lit (.int .u8 (x.key 5))), .pv (.lit (.int .u8 (x.key 6))), .pv (.lit (.int .u8 (x.key 7)))]) ?_
   refine rvc_un (rexec_call hP C rfl rfl rfl (rKey_calls x.key (hl _ (List.mem_of_getElem? (by assumption)))) ?_)
   refine rvP C (.pv (.lit (.bool (!(rKey x.key))))) ?_
   refine rvP C (.pv (.lit (.bool (!(rKey x.key))))) ?_
   refine rvc_case 19 (!(rKey x.key)) rfl (fun h6 => ?_) (fun h6 => ?_)
   ·
    replace hR := of_true h6 hR
    refine rvS ?_
    refine rvS ?_
    refine rvS ?_
    refine rvP C (.pv (.lit (.bool true))) ?_
    refine rvP C (.pv (.lit (.bool true))) ?_
    refine rvS ?_
    refine rvS ?_
    refine rvS ?_
    refine rvP C (.pv (.lit (.bool true))) ?_
    refine rvP C (.pv (.lit (.bool true))) ?_
    refine rvS ?_
    refine rvS ?_
    refine rvS ?_
    refine rvc_shutU rfl rfl rfl ?_
    refine rvc_shutU rfl rfl rfl ?_
    refine rvc_shutU rfl rfl rfl ?_
    refine rvc_shutU rfl rfl rfl ?_
    refine rvc_shutU rfl rfl rfl ?_
    refine rvc_shutU rfl rfl rfl ?_
    refine rvc_shutU rfl rfl rfl ?_
    refine rvc_shutU rfl rfl rfl ?_
    refine rvc_shutU rfl rfl rfl ?_
    refine rvc_shutU rfl rfl rfl ?_
    refine rvS ?_
    refine rvP C (.pv (.lit (.bool true))) ?_
    refine rvc_nil ?_
    refine Awp.condT (b := true) rfl rfl ?_
    refine Awp.consP C ?_
    refine rvP C (.pv (.lit (.int .i64 100))) ?_
    refine rvc_nil ?_
    refine Awp.ret ?_
    subst hR
    exact ⟨.inl rfl, rfl⟩
   ·
    replace hR := of_false h6 hR
    refine rvO C (.ptr 4 8) ?_
    refine rvO C (.pv (.lit (.int .i64 x.ver))) ?_
    refine rvO C (.pv (.lit (.bool (decide (x.ver < 1))))) ?_
    refine rvP C (.pv (.lit (.bool (decide (x.ver < 1))))) ?_
    refine rvP C (.pv (.lit (.bool (decide (x.ver < 1))))) ?_
    refine rvc_case 24 (decide (x.ver < 1)) rfl (fun h7 => ?_) (fun h7 => ?_)
    ·
     replace hR := of_true h7 hR
     refine rvS ?_
     refine rvS ?_
     refine rvS ?_
     refine rvP C (.pv (.lit (.bool true))) ?_
     refine rvP C (.pv (.lit (.bool true))) ?_
     refine rvS ?_
     refine rvS ?_
     refine rvS ?_
     refine rvc_shutU rfl rfl rfl ?_
     refine rvc_shutU rfl rfl rfl ?_
     refine rvc_shutU rfl rfl rfl ?_
     refine rvc_shutU rfl rfl rfl ?_
     refine rvc_shutU rfl rfl rfl ?_
     refine rvc_shutU rfl rfl rfl ?_
     refine rvc_shutU rfl rfl rfl ?_
     refine rvc_shutU rfl rfl rfl ?_
     refine rvc_shutU rfl rfl rfl ?_
     refine rvc_shutU rfl rfl rfl ?_
     refine rvS ?_
     refine rvP C (.pv (.lit (.bool true))) ?_
     refine rvc_nil ?_
     refine Awp.condT (b := true) rfl rfl ?_
     refine Awp.consP C ?_
     refine rvP C (.pv (.lit (.int .i64 100))) ?_
     refine rvc_nil ?_
     refine Awp.ret ?_
     subst hR
     exact ⟨.inl rfl, rfl⟩
    ·
     replace hR := of_false h7 hR
     refine rvO C (.ptr 4 8) ?_
     refine rvO C (.pv (.lit (.int .i64 x.ver))) ?_
     refine rvO C (.pv (.lit (.bool (decide (x.ver > 1099511627776))))) ?_
     refine rvP C (.pv (.lit (.bool (decide (x.ver > 1099511627776))))) ?_
     refine rvP C (.pv (.lit (.bool (decide (x.ver > 1099511627776))))) ?_
     refine rvc_case 29 (decide (x.ver > 1099511627776)) rfl (fun h8 => ?_) (fun h8 => ?_)
     ·
      replace hR := of_true h8 hR
      refine rvS ?_
      refine rvS ?_
      refine rvS ?_
      refine rvc_shutU rfl rfl rfl ?_
      refine rvc_shutU rfl rfl rfl ?_
      refine rvc_shutU rfl rfl rfl ?_
      refine rvc_shutU rfl rfl rfl ?_
      refine rvc_shutU rfl rfl rfl ?_
      refine rvc_shutU rfl rfl rfl ?_
      refine rvc_shutU rfl rfl rfl ?_
      refine rvc_shutU rfl rfl rfl ?_
      refine rvc_shutU rfl rfl rfl ?_
      refine rvc_shutU rfl rfl rfl ?_
      refine rvS ?_
      refine rvP C (.pv (.lit (.bool true))) ?_
      refine rvc_nil ?_
      refine Awp.condT (b := true) rfl rfl ?_
      refine Awp.consP C ?_
      refine rvP C (.pv (.lit (.int .i64 100))) ?_
      refine rvc_nil ?_
      refine Awp.ret ?_
      subst hR
      exact ⟨.inl rfl, rfl⟩
     ·
      replace hR := of_false h8 hR
      refine rvO C (.pv (.lit (.int .i64 (i : Int)))) ?_
      refine rvO C (.pv (.lit (.bool (decide ((i : Int) > 0))))) ?_
      refine rvO C (.pv (.lit (.bool (decide ((i : Int) > 0))))) ?_
      refine rvc_case 32 (decide ((i : Int) > 0)) rfl (fun h9 => ?_) (fun h9 => ?_)
      ·
       replace hR := of_true h9 hR
       refine rvO C (sS (some l.nil) eSeen l.D) ?_
       refine rvO C (.pv (.lit (.int .i64 (i : Int)))) ?_
       refine rvO C (.pv (.lit (.int .i64 (IntKind.i64.wrap ((i : Int) - 1))))) ?_
       have h10 : l.D[(IntKind.i64.wrap ((i : Int) - 1)).toNat]? = some l.D[(IntKind.i64.wrap ((i : Int) - 1)).toNat]! := getE (by have := wrapI ((i : Int) - 1); have := of_decide_eq_true ‹decide ((i : Int) > 0) = true›; omega)
       refine rvc_open rfl rfl rfl (rexec_idxS C rfl rfl rfl rfl rfl rfl (l.D[(IntKind.i64.wrap ((i : Int) - 1)).toNat]!) (by have := wrapI ((i : Int) - 1); have := of_decide_eq_false h1; have := of_decide_eq_true h3; have := of_decide_eq_false h7; have := of_decide_eq_false h8; have := of_decide_eq_true h9; omega) h10 ?_)
       refine rvO C (.rp [.lit (.int .u8 (l.D[(IntKind.i64.wrap ((i : Int) - 1)).toNat]!.key 0)), .lit (.int .u8 (l.D[(IntKind.i64.wrap ((i : Int) - 1)).toNat]!.key 1)), .lit (.int .u8 (l.D[(IntKind.i64.wrap ((i : Int) - 1)).toNat]!.key 2)), .lit (.int .u8 (l.D[(IntKind.i64.wrap ((i : Int) - 1)).toNat]!.key 3)), .lit (.int .u8 (l.D[(IntKind.i64.wrap ((i : Int) - 1)).toNat]!.key 4)), .lit (.int .u8 (l.D[(IntKind.i64.wrap ((i : Int) - 1)).toNat]!.key 5)), .lit (.int .u8 (l.D[(IntKind.i64.wrap ((i : Int) - 1)).toNat]!.key 6)), .lit (.int .u8 (l.D[(IntKind.i64.wrap ((i : Int) - 1)).toNat]!.key 7))]) ?_
       refine rvO C (.agg [.pv (.lit (.int .u8 (l.D[(IntKind.i64.wrap ((i : Int) - 1)).toNat]!.key 0))), .pv (.lit (.int .u8 (l.D[(IntKind.i64.wrap ((i : Int) - 1)).toNat]!.key 1))), .pv (.lit (.int .u8 (l.D[(IntKind.i64.wrap ((i : Int) - 1)).toNat]!.key 2))), .pv (.lit (.int .u8 (l.D[(IntKind.i64.wrap ((i : Int) - 1)).toNat]!.key 3))), .pv (.lit (.int .u8 (l.D[(IntKind.i64.wrap ((i : Int) - 1)).toNat]!.key 4))), .pv (.lit (.int .u8 (l.D[(IntKind.i64.wrap ((i : Int) - 1)).toNat]!.key 5))), .pv (.lit (.int .u8 (l.D[(IntKind.i64.wrap ((i : Int) - 1)).toNat]!.key 6))), .pv (.lit (.int .u8 (l.D[(IntKind.i64.wrap ((i : Int) - 1)).toNat]!.key 7)))]) ?_
       refine rvO C (.ptr 4 0) ?_
       refine rvO C (.agg [.pv (.lit (.int .u8 (x.key 0))), .pv (.lit (.int .u8 (x.key 1))), .pv (.lit (.int .u8 (x.key 2))), .pv (.lit (.int .u8 (x.key 3))), .pv (.lit (.int .u8 (x.key 4))), .pv (.lit (.int .u8 (x.key 5))), .pv (.lit (.int .u8 (x.key 6))), .pv (.lit (.int .u8 (x.key 7)))]) ?_
       refine rvc_open rfl rfl rfl (rexec_call hP C rfl rfl rfl (rLess_calls (ofL [(l.D[(IntKind.i64.wrap ((i : Int) - 1)).toNat]!.key 0), (l.D[(IntKind.i64.wrap ((i : Int) - 1)).toNat]!.key 1), (l.D[(IntKind.i64.wrap ((i : Int) - 1)).toNat]!.key 2), (l.D[(IntKind.i64.wrap ((i : Int) - 1)).toNat]!.key 3), (l.D[(IntKind.i64.wrap ((i : Int) - 1)).toNat]!.key 4), (l.D[(IntKind.i64.wrap ((i : Int) - 1)).toNat]!.key 5), (l.D[(IntKind.i64.wrap ((i : Int) - 1)).toNat]!.key 6), (l.D[(IntKind.i64.wrap ((i : Int) - 1)).toNat]!.key 7)]) x.key) ?_)
       refine rvO C (.pv (.lit (.bool (!(rLess (ofL [(l.D[(IntKind.i64.wrap ((i : Int) - 1)).toNat]!.key 0), (l.D[(IntKind.i64.wrap ((i : Int) - 1)).toNat]!.key 1), (l.D[(IntKind.i64.wrap ((i : Int) - 1)).toNat]!.key 2), (l.D[(IntKind.i64.wrap ((i : Int) - 1)).toNat]!.key 3), (l.D[(IntKind.i64.wrap ((i : Int) - 1)).toNat]!.key 4), (l.D[(IntKind.i64.wrap ((i : Int) - 1)).toNat]!.key 5), (l.D[(IntKind.i64.wrap ((i : Int) - 1)).toNat]!.key 6), (l.D[(IntKind.i64.wrap ((i : Int) - 1)).toNat]!.key 7)]) x.key))))) ?_
       refine rvO C (.pv (.lit (.bool (!(rLess (ofL [(l.D[(IntKind.i64.wrap ((i : Int) - 1)).toNat]!.key 0), (l.D[(IntKind.i64.wrap ((i : Int) - 1)).toNat]!.key 1), (l.D[(IntKind.i64.wrap ((i : Int) - 1)).toNat]!.key 2), (l.D[(IntKind.i64.wrap ((i : Int) - 1)).toNat]!.key 3), (l.D[(IntKind.i64.wrap ((i : Int) - 1)).toNat]!.key 4), (l.D[(IntKind.i64.wrap ((i : Int) - 1)).toNat]!.key 5), (l.D[(IntKind.i64.wrap ((i : Int) - 1)).toNat]!.key 6), (l.D[(IntKind.i64.wrap ((i : Int) - 1)).toNat]!.key 7)]) x.key))))) ?_
       refine rvP C (.pv (.lit (.bool (!(rLess (ofL [(l.D[(IntKind.i64.wrap ((i : Int) - 1)).toNat]!.key 0), (l.D[(IntKind.i64.wrap ((i : Int) - 1)).toNat]!.key 1), (l.D[(IntKind.i64.wrap ((i : Int) - 1)).toNat]!.key 2), (l.D[(IntKind.i64.wrap ((i : Int) - 1)).toNat]!.key 3), (l.D[(IntKind.i64.wrap ((i : Int) - 1)).toNat]!.key 4), (l.D[(IntKind.i64.wrap ((i : Int) - 1)).toNat]!.key 5), (l.D[(IntKind.i64.wrap ((i : Int) - 1)).toNat]!.key 6), (l.D[(IntKind.i64.wrap ((i : Int) - 1)).toNat]!.key 7)]) x.key))))) ?_
       refine rvc_nil ?_
       refine Awp.cond (b := (!(rLess (ofL [(l.D[(IntKind.i64.wrap ((i : Int) - 1)).toNat]!.key 0), (l.D[(IntKind.i64.wrap ((i : Int) - 1)).toNat]!.key 1), (l.D[(IntKind.i64.wrap ((i : Int) - 1)).toNat]!.key 2), (l.D[(IntKind.i64.wrap ((i : Int) - 1)).toNat]!.key 3), (l.D[(IntKind.i64.wrap ((i : Int) - 1)).toNat]!.key 4), (l.D[(IntKind.i64.wrap ((i : Int) - 1)).toNat]!.key 5), (l.D[(IntKind.i64.wrap ((i : Int) - 1)).toNat]!.key 6), (l.D[(IntKind.i64.wrap ((i : Int) - 1)).toNat]!.key 7)]) x.key))) rfl (fun h11 => ?_) (fun h11 => ?_)
       ·
        replace hR := of_true h11 hR
        refine Awp.consP C ?_
        refine rvP C (.pv (.lit (.int .i64 100))) ?_
        refine rvc_nil ?_
        refine Awp.ret ?_
        subst hR
        exact ⟨.inl rfl, rfl⟩
       ·
        replace hR := of_false h11 hR
        refine Awp.skip ?_
        refine Awp.regionP C ?_
        refine rvP C (.pv (.lit (.int .i64 (IntKind.i64.wrap ((i : Int) + 1))))) ?_
        refine rvP C (.pv (.lit (.int .i64 (IntKind.i64.wrap ((i : Int) + 1))))) ?_
        refine rvc_nil ?_
        refine ⟨h4, (), ?_, ?_⟩
        · exact hR
        · exact ⟨fun b => b, WeakerR.ofL (Ks := []) hI ⟨⟨rfl, rfl⟩, ⟨rfl, rfl⟩, ⟨rfl, rfl⟩, ⟨lit_cast (wrap_i64 (by omega) (by omega)), rfl⟩, trivial⟩ (okH_nil) rfl⟩
      ·
       replace hR := of_false h9 hR
       refine rvS ?_
       refine rvS ?_
       refine rvS ?_
       refine rvS ?_
       refine rvS ?_
       refine rvS ?_
       refine rvS ?_
       refine rvS ?_
       refine rvS ?_
       refine rvS ?_
       refine rvO C (.pv (.lit (.bool false))) ?_
       refine rvP C (.pv (.lit (.bool false))) ?_
       refine rvc_nil ?_
       refine Awp.condF (b := false) rfl rfl ?_
       refine Awp.skip ?_
       refine Awp.regionP C ?_
       refine rvP C (.pv (.lit (.int .i64 (IntKind.i64.wrap ((i : Int) + 1))))) ?_
       refine rvP C (.pv (.lit (.int .i64 (IntKind.i64.wrap ((i : Int) + 1))))) ?_
       refine rvc_nil ?_
       refine ⟨h4, (), ?_, ?_⟩
       · exact hR
       · exact ⟨fun b => b, WeakerR.ofL (Ks := []) hI ⟨⟨rfl, rfl⟩, ⟨rfl, rfl⟩, ⟨rfl, rfl⟩, ⟨lit_cast (wrap_i64 (by omega) (by omega)), rfl⟩, trivial⟩ (okH_nil) rfl⟩
  ·
   have h4 : ¬ i < l.D.length := by have := of_decide_eq_false h3; omega
   rw [drop_end h4] at hR
   refine Awp.exit ?_
   refine Awp.consP C ?_
   refine rvP C (.pv (.lit (.int .i64 0))) ?_
   refine rvc_nil ?_
   refine Awp.ret ?_
   subst hR
   exact ⟨.inl rfl, rfl⟩
def putInv2 (L : Nat) (y : Int) (b1 : List Int) (n : Int) : Prop := ∃ k : Nat, b1.length ≤ L + k ∧ n.toNat * 128 ^ k ≤ y.toNat ∧ (k ≠ 0 → 1 ≤ n)
theorem putInv2_step {L : Nat} {x y n : Int} {b1 : List Int} (h : putInv2 L x b1 n) (hn : 128 ≤ n) : putInv2 L x (b1 ++ [y]) (shrI .u64 n 7) := by
  obtain ⟨k, h1, h2, _⟩ := h
  rw [shr7]
  refine ⟨k + 1, by rw [List.length_append, List.length_singleton]; omega, Nat.le_trans ?_ h2, fun _ => by omega⟩
  rw [Nat.pow_succ, Nat.mul_comm (128 ^ k), ← Nat.mul_assoc]
  exact Nat.mul_le_mul_right _ (by omega)
theorem putInv2_le {L : Nat} {x n : Int} {b1 : List Int} (h : putInv2 L x b1 n) (hx : x < 18446744073709551616) : b1.length ≤ L + 9 := by
  obtain ⟨k, h1, h2, h3⟩ := h
  rcases Nat.lt_or_ge k 10 with hk | hk
  · omega
  · have h4 : 128 ^ 10 ≤ 128 ^ k := Nat.pow_le_pow_right (by decide) hk
    have h3' := h3 (by omega)
    have h5 : 1 * 128 ^ k ≤ n.toNat * 128 ^ k := Nat.mul_le_mul_right _ (by omega)
    have h6 : (128 : Nat) ^ 10 = 1180591620717411303424 := by decide
    omega
def wPut2_l1b (kk : (List Int) → Int → (Sl Int)) : Nat → (List Int) → Int → (Sl Int)
  | 0, _, _ => default
  | nn + 1, b3, n2 => (bif (decide (n2 ≥ 128)) then wPut2_l1b kk nn (b3 ++ [(bitI .or .u8 (IntKind.u8.wrap n2) 128)]) (shrI .u64 n2 7) else kk b3 n2)
def wPut2_l1 (kk : (List Int) → Int → (Sl Int)) : Nat → (List Int) → Int → (Sl Int)
  | 0, _, _ => default
  | nn + 1, b1, n => (bif (decide (n ≥ 128)) then wPut2_l1 kk nn (b1 ++ [(bitI .or .u8 (IntKind.u8.wrap n) 128)]) (shrI .u64 n 7) else kk b1 n)
def wPut2 (b : (Sl Int)) (x : Int) (y : Int) : (Sl Int) :=
  (bif (decide (x ≥ 128)) then wPut2_l1 (fun b1 n => wPut2_l1b (fun b3 n2 => (Sl.mk false (b3 ++ [(IntKind.u8.wrap n2)]))) (y.toNat + 1) (b1 ++ [(IntKind.u8.wrap n)]) y) ((shrI .u64 x 7).toNat + 1) (b.D ++ [(bitI .or .u8 (IntKind.u8.wrap x) 128)]) (shrI .u64 x 7) else wPut2_l1b (fun b3 n2 => (Sl.mk false (b3 ++ [(IntKind.u8.wrap n2)]))) (y.toNat + 1) (b.D ++ [(IntKind.u8.wrap x)]) y)
def okR (r : Reader) : Prop := (0 ≤ r.at_ ∧ r.at_ ≤ (r.b.D.length : Int)) ∧ r.b.D.length ≤ 1000000
def okRR (r : Reader69) : Prop := (0 ≤ r.at_ ∧ r.at_ ≤ (r.b.D.length : Int)) ∧ r.b.D.length ≤ 1000000
theorem rdNew_ok (b : Sl Int) (h : b.D.length ≤ 1000000) : okR (rdNew b) := ⟨⟨Int.le_refl _, Int.natCast_nonneg _⟩, h⟩
theorem rdStop_ok {r : Reader} {a e : Int} (h : okR r) (ha : 0 ≤ a ∧ a ≤ (r.b.D.length : Int)) : okR (rdStop r a e) := by
  unfold rdStop
  cases r.err == 0
  · exact h
  · exact ⟨ha, h.2⟩
theorem bif_pair {P : Reader → Prop} {a : Bool} {x y : Reader × Int} (hx : P x.1) (hy : P y.1) : P (bif a then x else y).1 := by cases a <;> assumption
theorem bif_rpair {P : Reader69 → Prop} {a : Bool} {x y : Reader69 × Int} (hx : P x.1) (hy : P y.1) : P (bif a then x else y).1 := by cases a <;> assumption
theorem rdNum_l0_ok (r : Reader) (h : okR r) : ∀ (f : Nat) (n s : Int) (v : Reader), f = v.b.D.length - v.at_.toNat + 1 → v.b = r.b → okR v → okR (rdNum_l0 r f n s v).1
  | 0, _, _, _, hf, _, _ => by omega
  | f + 1, n, s, v, hf, hb, hv => by
    have hw : 0 ≤ r.at_ ∧ r.at_ ≤ (v.b.D.length : Int) := by rw [hb]; exact h.1
    have h1 := hv.1
    have h2 := hv.2
    unfold rdNum_l0
    cases e1 : v.at_ == (v.b.D.length : Int)
    · have hne := ne_of_beq_false e1
      have hv' : okR (Reader.mk v.b (IntKind.i64.wrap (v.at_ + 1)) v.err v.made) := by
        have := wrapI (v.at_ + 1)
        refine ⟨⟨?_, ?_⟩, hv.2⟩ <;> (dsimp only; omega)
      have ih : ∀ n s, okR (rdNum_l0 r f n s (Reader.mk v.b (IntKind.i64.wrap (v.at_ + 1)) v.err v.made)).1 := fun n s => by
        refine rdNum_l0_ok r h f n s _ ?_ hb hv'
        have := wrapI (v.at_ + 1)
        dsimp only
        omega
      simp only [cond_false]
      repeat' (first | exact ih _ _ | exact rdStop_ok hv' hw | exact hv' | (apply bif_pair))
    · exact rdStop_ok hv hw
theorem rdNum_ok (r : Reader) (h : okR r) : okR (rdNum r).1 := by
  unfold rdNum
  refine bif_pair (P := okR) h ?_
  exact rdNum_l0_ok r h _ _ _ _ rfl rfl h
theorem rdNum_b_l0 (r : Reader) : ∀ (f : Nat) (n s : Int) (v : Reader), f = v.b.D.length - v.at_.toNat + 1 → okR v → v.b = r.b → (rdNum_l0 r f n s v).1.b = r.b
  | 0, _, _, _, hf, _, _ => by omega
  | f + 1, n, s, v, hf, hv, hb => by
    have st : ∀ {x : Reader} {a e : Int}, x.b = r.b → (rdStop x a e).b = r.b := fun {x a e} hx => by
      unfold rdStop; cases x.err == 0 <;> exact hx
    have h1 := hv.1
    have h2 := hv.2
    unfold rdNum_l0
    cases e1 : v.at_ == (v.b.D.length : Int)
    · have hne := ne_of_beq_false e1
      have hv' : okR (Reader.mk v.b (IntKind.i64.wrap (v.at_ + 1)) v.err v.made) := by
        have := wrapI (v.at_ + 1)
        refine ⟨⟨?_, ?_⟩, hv.2⟩ <;> (dsimp only; omega)
      have ih : ∀ n s, (rdNum_l0 r f n s (Reader.mk v.b (IntKind.i64.wrap (v.at_ + 1)) v.err v.made)).1.b = r.b := fun n s => by
        refine rdNum_b_l0 r f n s _ ?_ hv' hb
        have := wrapI (v.at_ + 1)
        dsimp only
        omega
      simp only [cond_false]
      repeat' (first | exact ih _ _ | exact st hb | exact hb | (apply bif_pair (P := fun x => x.b = r.b)))
    · exact st hb
theorem rdNum_b (r : Reader) (h : okR r) : (rdNum r).1.b = r.b := by
  unfold rdNum
  refine bif_pair (P := fun x => x.b = r.b) rfl ?_
  exact rdNum_b_l0 r _ _ _ _ rfl h rfl
theorem rdNum_err (r : Reader) (h : (rdErr r != 0) = true) : rdNum r = (r, 0) := by unfold rdNum; rw [h]; rfl
theorem rdLeft_eq (r : Reader) (h : okR r) (e : rdErr r = 0) : rdLeft r = (r.b.D.length : Int) - r.at_ := by
  unfold rdLeft
  rw [e]
  have := wrapI ((r.b.D.length : Int) - r.at_)
  have h1 := h.1
  have h2 := h.2
  show IntKind.i64.wrap _ = _
  omega
theorem rdIn_back (r : Reader) (h : okR r) (e : rdErr r = 0) : IntKind.i64.wrap (((rdNum r).1.b.D.length : Int) - rdLeft r) = r.at_ := by
  rw [rdLeft_eq r h e, rdNum_b r h]
  have := wrapI ((r.b.D.length : Int) - ((r.b.D.length : Int) - r.at_))
  have h1 := h.1
  have h2 := h.2
  omega
theorem rdIn_ok (r : Reader) (lo hi : Int) (h : okR r) : okR (rdIn r lo hi).1 := by
  have h1 := rdNum_ok r h
  cases e0 : rdErr r != 0
  · have hs : okR (rdStop (rdNum r).1 (IntKind.i64.wrap (((rdNum r).1.b.D.length : Int) - rdLeft r)) 5) := by
      rw [rdIn_back r h (eq_of_bne_false e0)]
      exact rdStop_ok h1 (by rw [rdNum_b r h]; exact h.1)
    unfold rdIn
    repeat' (first | exact h1 | exact hs | (apply bif_pair))
  · unfold rdIn
    rw [rdNum_err r e0]
    dsimp only
    rw [e0]
    exact h
theorem rrNum_l0_ok (r : Reader69) (h : okRR r) : ∀ (k i : Nat) (n s : Int), k + i = 11 → okRR (rrNum_l0 r k i n s).1
  | 0, _, _, _, _ => h
  | k + 1, i, n, s, hi => by
    have h1 := h.1
    have h2 := h.2
    have hw := wrapI (r.at_ + (i : Int))
    have hw2 := wrapI (IntKind.i64.wrap (r.at_ + (i : Int)) + 1)
    have ih : ∀ n s, okRR (rrNum_l0 r k (i + 1) n s).1 := fun n s => rrNum_l0_ok r h k (i + 1) n s (by omega)
    have hm : ∀ e, okRR (Reader69.mk r.b r.at_ e) := fun e => h
    unfold rrNum_l0
    cases e1 : decide ((IntKind.i64.wrap (r.at_ + (i : Int))) ≥ (r.b.D.length : Int))
    · have := of_decide_eq_false e1
      have hn : okRR (Reader69.mk r.b (IntKind.i64.wrap ((IntKind.i64.wrap (r.at_ + (i : Int))) + 1)) r.e_) := ⟨⟨by dsimp only; omega, by dsimp only; omega⟩, h2⟩
      simp only [cond_false]
      repeat' (first | exact ih _ _ | exact hm _ | exact hn | (apply bif_rpair))
    · exact hm _
theorem rrNum_ok (r : Reader69) (h : okRR r) : okRR (rrNum r).1 := by
  unfold rrNum
  refine bif_rpair (P := okRR) h ?_
  exact rrNum_l0_ok r h 11 0 0 1 rfl
theorem rrNum_b_l0 (r : Reader69) : ∀ (k i : Nat) (n s : Int), (rrNum_l0 r k i n s).1.b = r.b
  | 0, _, _, _ => rfl
  | k + 1, i, n, s => by
    have ih : ∀ n s, (rrNum_l0 r k (i + 1) n s).1.b = r.b := fun n s => rrNum_b_l0 r k (i + 1) n s
    unfold rrNum_l0
    repeat' (first | exact ih _ _ | rfl | (apply bif_rpair (P := fun x => x.b = r.b)))
theorem rrNum_b (r : Reader69) : (rrNum r).1.b = r.b := by
  unfold rrNum
  refine bif_rpair (P := fun x => x.b = r.b) rfl ?_
  exact rrNum_b_l0 r 11 0 0 1
theorem rrIn_ok (r : Reader69) (lo hi : Int) (h : okRR r) : okRR (rrIn r lo hi).1 := by
  have h1 := rrNum_ok r h
  have hm : okRR (Reader69.mk (rrNum r).1.b r.at_ 5) := by
    unfold okRR
    dsimp only
    rw [rrNum_b]
    exact h
  unfold rrIn
  repeat' (first | exact h1 | exact hm | (apply bif_rpair))
theorem wrapU (n : Int) : IntKind.u64.wrap n = n % 18446744073709551616 := by
  simp [IntKind.wrap, IntKind.bits, IntKind.signed]
theorem wrap_lt64 (n : Int) : IntKind.u64.wrap n < 18446744073709551616 := by rw [wrapU]; omega
theorem wrap_nn64 (n : Int) : 0 ≤ IntKind.u64.wrap n := by rw [wrapU]; omega
theorem wPut_l1_len {b : Nat} {x : Int} (hx : x < 18446744073709551616) : ∀ (f : Nat) (b1 : List Int) (n : Int), n.toNat < f → putInv b x b1 n → (wPut_l1 (fun b1 n => (Sl.mk false (b1 ++ [(IntKind.u8.wrap n)]))) f b1 n).D.length ≤ b + 10
  | 0, _, _, h, _ => by omega
  | f + 1, b1, n, h, hI => by
    unfold wPut_l1
    cases e1 : decide (n ≥ 128)
    · have := putInv_le hI hx
      show (b1 ++ [_]).length ≤ _
      rw [List.length_append, List.length_singleton]; omega
    · have hn := of_decide_eq_true e1
      exact wPut_l1_len hx f _ _ (by rw [shr7]; omega) (putInv_step hI hn)
theorem wPut_len (b : Sl Int) (x : Int) (hx : x < 18446744073709551616) : (wPut b x).D.length ≤ b.D.length + 10 := by
  unfold wPut
  cases e1 : decide (x ≥ 128)
  · show (b.D ++ [_]).length ≤ _
    rw [List.length_append, List.length_singleton]; omega
  · exact wPut_l1_len hx _ _ _ (by rw [shr7]; omega) (putInv_start (of_decide_eq_true e1))
/-- A number's bytes. -/
def vb (n : Nat) : List Int := if n < 128 then [(n : Int)] else ((n % 128 + 128 : Nat) : Int) :: vb (n / 128)
theorem vb_lt {n : Nat} (h : n < 128) : vb n = [(n : Int)] := by rw [vb, if_pos h]
theorem vb_ge {n : Nat} (h : 128 ≤ n) : vb n = ((n % 128 + 128 : Nat) : Int) :: vb (n / 128) := by rw [vb, if_neg (by omega)]
theorem wrap8 (n : Int) : IntKind.u8.wrap n = n % 256 := by simp [IntKind.wrap, IntKind.bits, IntKind.signed]
theorem bv8 (a : Nat) (h : a < 256) : (BitVec.ofInt 8 (a : Int)).toNat = a := by
  rw [BitVec.toNat_ofInt]
  show (((a : Int) % 256)).toNat = a
  omega
theorem or8 {a b : Nat} (ha : a < 256) (hb : b < 256) : bitI .or .u8 (a : Int) (b : Int) = ((a ||| b : Nat) : Int) := by
  unfold bitI
  show IntKind.u8.wrap ((BitVec.ofInt 8 (a : Int) ||| BitVec.ofInt 8 (b : Int)).toNat : Int) = _
  rw [BitVec.toNat_or, bv8 a ha, bv8 b hb, wrap8]
  have : a ||| b < 2 ^ 8 := Nat.or_lt_two_pow ha hb
  omega
theorem and8 {a b : Nat} (ha : a < 256) (hb : b < 256) : bitI .and .u8 (a : Int) (b : Int) = ((a &&& b : Nat) : Int) := by
  unfold bitI
  show IntKind.u8.wrap ((BitVec.ofInt 8 (a : Int) &&& BitVec.ofInt 8 (b : Int)).toNat : Int) = _
  rw [BitVec.toNat_and, bv8 a ha, bv8 b hb, wrap8]
  have : a &&& b ≤ a := Nat.and_le_left
  omega
theorem or128 : ∀ y : Fin 256, (y.val ||| 128) = y.val % 128 + 128 := by decide +kernel
theorem low_byte {n : Int} (h : 0 ≤ n) : bitI .or .u8 (IntKind.u8.wrap n) 128 = ((n.toNat % 128 + 128 : Nat) : Int) := by
  have e : IntKind.u8.wrap n = ((n.toNat % 256 : Nat) : Int) := by rw [wrap8]; omega
  rw [e, show (128 : Int) = ((128 : Nat) : Int) from rfl, or8 (by omega) (by decide), or128 ⟨n.toNat % 256, by omega⟩]
  show ((n.toNat % 256 % 128 + 128 : Nat) : Int) = _
  omega
theorem wPut_l1_eq : ∀ (f : Nat) (b1 : List Int) (n : Int), 0 ≤ n → n.toNat < f → wPut_l1 (fun b1 n => (Sl.mk false (b1 ++ [(IntKind.u8.wrap n)]))) f b1 n = Sl.mk false (b1 ++ vb n.toNat)
  | 0, _, _, _, h => by omega
  | f + 1, b1, n, h0, h => by
    unfold wPut_l1
    cases e1 : decide (n ≥ 128)
    · have := of_decide_eq_false e1
      rw [vb_lt (by omega)]
      show Sl.mk false (b1 ++ [IntKind.u8.wrap n]) = _
      rw [wrap8, show n % 256 = ((n.toNat : Nat) : Int) by omega]
    · have hn := of_decide_eq_true e1
      show wPut_l1 _ f (b1 ++ [bitI .or .u8 (IntKind.u8.wrap n) 128]) (shrI .u64 n 7) = _
      rw [wPut_l1_eq f _ _ (by rw [shr7]; omega) (by rw [shr7]; omega), low_byte h0, vb_ge (n := n.toNat) (by omega), shr7, show (n / 128).toNat = n.toNat / 128 by omega]
      simp
theorem wPut_eq (b : Sl Int) (x : Int) (h0 : 0 ≤ x) : wPut b x = Sl.mk false (b.D ++ vb x.toNat) := by
  unfold wPut
  cases e1 : decide (x ≥ 128)
  · have := of_decide_eq_false e1
    rw [vb_lt (by omega)]
    show Sl.mk false (b.D ++ [IntKind.u8.wrap x]) = _
    rw [wrap8, show x % 256 = ((x.toNat : Nat) : Int) by omega]
  · have hn := of_decide_eq_true e1
    show wPut_l1 _ _ (b.D ++ [bitI .or .u8 (IntKind.u8.wrap x) 128]) (shrI .u64 x 7) = _
    rw [wPut_l1_eq _ _ _ (by rw [shr7]; omega) (by omega), low_byte h0, vb_ge (n := x.toNat) (by omega), shr7, show (x / 128).toNat = x.toNat / 128 by omega]
    simp
def vbs : List Int → List Int
  | [] => []
  | x :: l => vb x.toNat ++ vbs l
/-- The number that bytes begin with, and what follows. -/
def vd : Nat → List Int → Option (Nat × List Int)
  | _, [] => none
  | i, x :: l => if (i = 9 ∧ 1 < x.toNat % 128) ∨ 9 < i then none else if x = 0 ∧ 0 < i then none else if x < 128 then some (x.toNat, l) else
    match vd (i + 1) l with
    | some (n, r) => some (x.toNat % 128 + 128 * n, r)
    | none => none
/-- What is read is put so. -/
theorem vd_vb : ∀ (i : Nat) (l : List Int) (n : Nat) (r : List Int), (∀ x ∈ l, 0 ≤ x ∧ x < 256) → vd i l = some (n, r) → l = vb n ++ r ∧ (0 < i → 0 < n) ∧ n * 128 ^ i < 18446744073709551616
  | _, [], _, _, _, h => by simp [vd] at h
  | i, x :: l, n, r, hb, h => by
    have hx := hb x (List.mem_cons_self ..)
    have hl : ∀ y ∈ l, 0 ≤ y ∧ y < 256 := fun y hy => hb y (List.mem_cons_of_mem _ hy)
    rw [vd] at h
    split at h
    · cases h
    · rename_i h1
      have hi : i ≤ 9 := by omega
      have hp : 128 ^ i ≤ 9223372036854775808 := Nat.le_trans (Nat.pow_le_pow_right (by decide) hi) (by decide)
      split at h
      · cases h
      · rename_i h2
        split at h
        · rename_i h3
          simp only [Option.some.injEq, Prod.mk.injEq] at h
          obtain ⟨rfl, rfl⟩ := h
          refine ⟨?_, fun hi => by omega, ?_⟩
          · rw [vb_lt (by omega), show ((x.toNat : Nat) : Int) = x by omega]; rfl
          · rcases Nat.lt_or_ge i 9 with h9 | h9
            · have : 128 ^ i ≤ 72057594037927936 := Nat.le_trans (Nat.pow_le_pow_right (by decide) (show i ≤ 8 by omega)) (by decide)
              have h5 : x.toNat * 128 ^ i ≤ 127 * 72057594037927936 := Nat.mul_le_mul (by omega) this
              omega
            · have h5 : x.toNat * 128 ^ i ≤ 1 * 9223372036854775808 := Nat.mul_le_mul (by omega) hp
              omega
        · rename_i h3
          split at h
          · rename_i m r' hm
            simp only [Option.some.injEq, Prod.mk.injEq] at h
            obtain ⟨rfl, rfl⟩ := h
            obtain ⟨e1, e2, e3⟩ := vd_vb (i + 1) l m r' hl hm
            have hm0 := e2 (by omega)
            refine ⟨?_, fun _ => by omega, ?_⟩
            · rw [vb_ge (by omega), show (x.toNat % 128 + 128 * m) / 128 = m by omega, show (((x.toNat % 128 + 128 * m) % 128 + 128 : Nat) : Int) = x by omega, e1]; rfl
            · rw [Nat.pow_succ] at e3
              have h4 : (x.toNat % 128 + 128 * m) * 128 ^ i = x.toNat % 128 * 128 ^ i + m * (128 ^ i * 128) := by
                rw [Nat.add_mul, Nat.mul_comm (128 ^ i) 128, ← Nat.mul_assoc, Nat.mul_comm 128 m]
              have hlt : x.toNat % 128 * 128 ^ i < 128 ^ i * 128 := by
                rw [Nat.mul_comm (128 ^ i)]
                exact Nat.mul_lt_mul_of_pos_right (Nat.mod_lt _ (by decide)) (Nat.pow_pos (by decide))
              have hdiv : 128 ^ i * 128 ∣ 18446744073709551616 ∨ 9 ≤ i := by
                rcases Nat.lt_or_ge i 9 with h9 | h9
                · left
                  rw [← Nat.pow_succ]
                  have : (18446744073709551616 : Nat) = 2 ^ 64 := by decide
                  rw [this, show (128 : Nat) = 2 ^ 7 from rfl, ← Nat.pow_mul]
                  exact Nat.pow_dvd_pow 2 (by omega)
                · exact .inr h9
              rcases hdiv with ⟨q, hq⟩ | h9
              · rw [h4]
                have hmq : m < q := by
                  have h5 : m * (128 ^ i * 128) < (128 ^ i * 128) * q := by rw [← hq]; exact e3
                  rw [Nat.mul_comm m] at h5
                  exact Nat.lt_of_mul_lt_mul_left h5
                have h6 : (m + 1) * (128 ^ i * 128) ≤ q * (128 ^ i * 128) := Nat.mul_le_mul_right _ hmq
                rw [Nat.mul_comm q, ← hq, Nat.add_mul, Nat.one_mul] at h6
                omega
              · exfalso
                -- a tenth byte is the last one
                have hi9 : i = 9 := by omega
                subst hi9
                cases l with
                | nil => simp [vd] at hm
                | cons y l => rw [vd, if_pos (.inr (by decide))] at hm; cases hm
          · cases h
/-- What is put is read so. -/
theorem vb_vd : ∀ (n i : Nat) (r : List Int), n * 128 ^ i < 18446744073709551616 → (0 < i → 0 < n) → vd i (vb n ++ r) = some (n, r) := by
  intro n
  induction n using Nat.strongRecOn with
  | _ n ih =>
    intro i r h h0
    have hi : 0 < n → i ≤ 9 := fun hn => by
      rcases Nat.lt_or_ge i 10 with h9 | h9
      · omega
      · have h4 : 128 ^ 10 ≤ 128 ^ i := Nat.pow_le_pow_right (by decide) h9
        have h5 : 1 * 128 ^ i ≤ n * 128 ^ i := Nat.mul_le_mul_right _ hn
        have h6 : (128 : Nat) ^ 10 = 1180591620717411303424 := by decide
        omega
    have hi' : i ≤ 9 := by
      rcases Nat.eq_zero_or_pos i with e | e
      · omega
      · exact hi (h0 e)
    have hc : i = 9 → n ≤ 1 := fun e => by
      subst e
      have h6 : (128 : Nat) ^ 9 = 9223372036854775808 := by decide
      rw [h6] at h
      omega
    rcases Nat.lt_or_ge n 128 with hn | hn
    · rw [vb_lt hn]
      show vd i ((n : Int) :: r) = _
      rw [vd, if_neg (by omega), if_neg (by omega), if_pos (by omega), show ((n : Int)).toNat = n by omega]
    · rw [vb_ge hn]
      show vd i (((n % 128 + 128 : Nat) : Int) :: (vb (n / 128) ++ r)) = _
      have hne : i ≠ 9 := fun e => by have := hc e; omega
      have hstep : n / 128 * 128 ^ (i + 1) < 18446744073709551616 := by
        refine Nat.lt_of_le_of_lt ?_ h
        rw [Nat.pow_succ, Nat.mul_comm (128 ^ i), ← Nat.mul_assoc]
        exact Nat.mul_le_mul_right _ (Nat.div_mul_le_self n 128)
      rw [vd, if_neg (by omega), if_neg (by omega), if_neg (by omega), ih (n / 128) (by omega) (i + 1) r hstep (fun _ => by omega)]
      simp only [Option.some.injEq, Prod.mk.injEq, and_true]
      omega
theorem vb_len {n : Nat} (h : n < 18446744073709551616) : (vb n).length ≤ 10 := by
  have h1 := wPut_len (Sl.mk true []) (n : Int) (by omega)
  rw [wPut_eq _ _ (by omega)] at h1
  simpa using h1
end Go.Proofs.YthnghkkbnhjlgaaDoor
