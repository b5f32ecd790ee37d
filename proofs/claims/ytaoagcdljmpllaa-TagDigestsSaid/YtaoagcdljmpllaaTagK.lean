/- Plain facts for the law TagBlocks: words byte by byte, and the last block. No conditions. -/
import Derived.Test.YtaoagcdljmpllaaTagJ
namespace Go.Proofs.Ytaoagcdljmpllaa
open Go.Am

theorem R32.zero : R32 0 := ⟨by decide, by decide⟩
theorem wAcc_R (b : Nat → Int) (t : Nat) : ∀ j, R32 (wAcc b t j)
  | 0 => R32.zero
  | _ + 1 => R32.bit _ _ _
theorem wAcc_congr {b c : Nat → Int} {t : Nat} : ∀ {m : Nat}, (∀ j, j < m → b (4 * t + j) = c (4 * t + j)) → wAcc b t m = wAcc c t m
  | 0, _ => rfl
  | m + 1, h => by simp only [wAcc]; rw [wAcc_congr fun j hj => h j (by omega), h m (by omega)]
theorem or_zero32 {x : Int} (hx : R32 x) : bitI .or .u32 x 0 = x := by
  obtain ⟨a, rfl, ha⟩ := hx.nat
  have := or_u32 ha (b := 0) (by decide)
  rw [Nat.or_zero] at this
  exact this
theorem shl_zero (n : Int) : shlI .u32 (IntKind.u32.wrap 0) n = 0 := by
  have : IntKind.u32.wrap 0 = 0 := by rw [wrap_u32]; rfl
  rw [this]
  simp only [shlI, Int.zero_mul]
  exact this

/-- The words behind so many bytes. -/
def aTab (b : Nat → Int) (i t : Nat) : Int := wAcc b t (min (i - 4 * t) 4)
theorem aTab_zero (b : Nat → Int) (t : Nat) : aTab b 0 t = 0 := by simp [aTab, wAcc]
theorem aTab_all (b : Nat → Int) {t : Nat} (ht : t < 4) : aTab b 16 t = wordsF b t := by
  have : min (16 - 4 * t) 4 = 4 := by omega
  simp only [aTab, this, wordsF]
theorem aTab_step (b : Nat → Int) (i t : Nat) : (if t = i / 4 then bitI .or .u32 (aTab b i (i / 4)) (shlI .u32 (IntKind.u32.wrap (b i)) ((8 * (i % 4) : Nat) : Int)) else aTab b i t) = aTab b (i + 1) t := by
  by_cases h : t = i / 4
  · subst h
    rw [if_pos rfl]
    have e1 : min (i - 4 * (i / 4)) 4 = i % 4 := by omega
    have e2 : min (i + 1 - 4 * (i / 4)) 4 = i % 4 + 1 := by omega
    have e3 : 4 * (i / 4) + i % 4 = i := by omega
    simp only [aTab, e1, e2, wAcc, e3]
  · rw [if_neg h]
    have : min (i + 1 - 4 * t) 4 = min (i - 4 * t) 4 := by omega
    simp only [aTab, this]

theorem last_acc (b : Nat → Int) (m t : Nat) : ∀ j, wAcc (fun s => if s = m then 1 else if s < m then b s else 0) t j = if 4 * t + j ≤ m then wAcc b t j else if m < 4 * t then 0 else bitI .or .u32 (wAcc b t (m - 4 * t)) (shlI .u32 1 ((8 * (m - 4 * t) : Nat) : Int))
  | 0 => by
    simp only [wAcc]
    by_cases h : 4 * t + 0 ≤ m
    · rw [if_pos h]
    · rw [if_neg h, if_pos (by omega)]
  | j + 1 => by
    simp only [wAcc]
    rw [last_acc b m t j]
    rcases Nat.lt_trichotomy (4 * t + j) m with h | h | h
    · rw [if_pos (by omega), if_neg (by omega), if_pos h, if_pos (by omega)]
    · subst h
      rw [if_pos (Nat.le_refl _), if_pos rfl, if_neg (by omega), if_neg (by omega)]
      have : 4 * t + j - 4 * t = j := by omega
      rw [this]
      rfl
    · have c1 : ¬ 4 * t + j ≤ m := by omega
      have c2 : ¬ 4 * t + j = m := by omega
      have c3 : ¬ 4 * t + j < m := by omega
      have c4 : ¬ 4 * t + (j + 1) ≤ m := by omega
      rw [if_neg c1, if_neg c2, if_neg c3, if_neg c4, shl_zero]
      by_cases h2 : m < 4 * t
      · rw [if_pos h2]; exact or_zero32 R32.zero
      · rw [if_neg h2]; exact or_zero32 (R32.bit _ _ _)
theorem last_words (b : Nat → Int) (m t : Nat) : (if t = m / 4 then bitI .or .u32 (aTab b m (m / 4)) (shlI .u32 1 ((8 * (m % 4) : Nat) : Int)) else aTab b m t) = wordsF (fun s => if s = m then 1 else if s < m then b s else 0) t := by
  simp only [wordsF]
  rw [last_acc]
  by_cases h : t = m / 4
  · subst h
    have e1 : min (m % 4) 4 = m % 4 := by omega
    have e2 : m - 4 * (m / 4) = m % 4 := by omega
    rw [if_pos rfl, if_neg (by omega), if_neg (by omega)]
    simp only [aTab, e2, e1]
  · rw [if_neg h]
    by_cases h2 : 4 * t + 4 ≤ m
    · have : min (m - 4 * t) 4 = 4 := by omega
      rw [if_pos h2]; simp only [aTab, this]
    · have : min (m - 4 * t) 4 = 0 := by omega
      rw [if_neg h2, if_pos (by omega)]; simp only [aTab, this, wAcc]

/-! ### What hangs on four words hangs on no more -/
theorem wordsF_congr {b c : Nat → Int} (h : ∀ t, t < 16 → b t = c t) {t : Nat} (ht : t < 4) : wordsF b t = wordsF c t := wAcc_congr fun j hj => h _ (by omega)
theorem doubleF_congr {k l : Nat → Int} (h : ∀ t, t < 4 → k t = l t) {t : Nat} (ht : t < 4) : doubleF k t = doubleF l t := by
  cases t with
  | zero => simp only [doubleF]; rw [h 0 (by decide), h 3 (by decide)]
  | succ n => simp only [doubleF]; rw [h (n + 1) ht, h n (by omega)]
theorem rndF_congr {k l : Nat → Int} (h : ∀ t, t < 4 → k t = l t) : rndF k = rndF l := by
  unfold rndF
  rw [h 0 (by decide), h 1 (by decide), h 2 (by decide), h 3 (by decide)]
theorem stirN_congr {k l : Nat → Int} (h : ∀ t, t < 4 → k t = l t) : ∀ n, n ≠ 0 → stirN k n = stirN l n
  | 1, _ => rndF_congr h
  | n + 2, _ => by
    show rndF (stirN k (n + 1)) = rndF (stirN l (n + 1))
    rw [stirN_congr h (n + 1) (by omega)]
theorem stirF_congr {k l : Nat → Int} (h : ∀ t, t < 4 → k t = l t) : stirF k = stirF l := stirN_congr h 12 (by decide)
theorem bytesF_congr {k l : Nat → Int} (h : ∀ t, t < 4 → k t = l t) {t : Nat} (ht : t < 16) : bytesF k t = bytesF l t := by
  simp only [bytesF]; rw [h (t / 4) (by omega)]
theorem wordsF_R (b : Nat → Int) : R32s (wordsF b) := fun _ => wAcc_R _ _ _
theorem xor_assoc32 {x y z : Int} (hx : R32 x) (hy : R32 y) (hz : R32 z) : bitI .xor .u32 (bitI .xor .u32 x y) z = bitI .xor .u32 x (bitI .xor .u32 y z) := by
  obtain ⟨a, rfl, ha⟩ := hx.nat
  obtain ⟨b, rfl, hb⟩ := hy.nat
  obtain ⟨c, rfl, hc⟩ := hz.nat
  have h1 : a ^^^ b < 4294967296 := Nat.xor_lt_two_pow (n := 32) ha hb
  have h2 : b ^^^ c < 4294967296 := Nat.xor_lt_two_pow (n := 32) hb hc
  rw [xor_u32 ha hb, xor_u32 hb hc, xor_u32 h1 hc, xor_u32 ha h2, Nat.xor_assoc]

/-- The law's answer for one block. -/
def blkAns (k w e : Nat → Int) : Nat → Int := bytesF (xorF (stirF fun t => bitI .xor .u32 (k t) (bitI .xor .u32 (w t) (e t))) e)
theorem blkAns_eq {k w e k' w' e' : Nat → Int} (hk : ∀ t, t < 4 → k t = k' t) (hw : ∀ t, t < 4 → w t = w' t) (he : ∀ t, t < 4 → e t = e' t) (rk : R32s k') (rw' : R32s w') (re : R32s e') {t : Nat} (ht : t < 16) :
    bytesF (xorF (stirF (xorF (xorF k w) e)) e) t = blkAns k' w' e' t := by
  refine bytesF_congr (fun t ht => ?_) ht
  have : stirF (xorF (xorF k w) e) = stirF fun t => bitI .xor .u32 (k' t) (bitI .xor .u32 (w' t) (e' t)) := stirF_congr fun t ht => by
    simp only [xorF]; rw [hk t ht, hw t ht, he t ht, xor_assoc32 (rk t) (rw' t) (re t)]
  simp only [xorF]
  rw [this, he t ht]

theorem of_whole (A B : Nat → Int) {t : Nat} (ht : t < 16) : ofF (tb 16 A) (tb 16 B) t = blkAns (wordsF A) (wordsF B) (doubleF (wordsF A)) t := by
  have hl : (tb 16 B).length = 16 := tb_len _ _
  have hk : ∀ t, t < 4 → wordsF (fun t => (tb 16 A).getD t 0) t = wordsF A t := fun t ht => wordsF_congr (fun s hs => by rw [List.getD_eq_getElem?_getD, tb_get hs]; rfl) ht
  simp only [ofF, endF, hl]
  refine blkAns_eq hk (fun t ht => wordsF_congr (fun s hs => ?_) ht) (fun t ht => doubleF_congr hk ht) (wordsF_R _) (wordsF_R _) (R32s.double _) ht
  simp only [lastF, hl, blkF]
  rw [if_neg (by omega), if_pos (by omega), List.getD_eq_getElem?_getD, show 16 * ((16 - 1) / 16) + s = s by omega, tb_get hs]; rfl
theorem of_part (A B : Nat → Int) {m : Nat} (hm : m < 16) {t : Nat} (ht : t < 16) : ofF (tb 16 A) ((tb 16 B).take m) t = blkAns (wordsF A) (wordsF fun s => if s = m then 1 else if s < m then B s else 0) (doubleF (doubleF (wordsF A))) t := by
  have hl : ((tb 16 B).take m).length = m := by rw [List.length_take, tb_len]; omega
  have hz : (m - 1) / 16 = 0 := by omega
  have hk : ∀ t, t < 4 → wordsF (fun t => (tb 16 A).getD t 0) t = wordsF A t := fun t ht => wordsF_congr (fun s hs => by rw [List.getD_eq_getElem?_getD, tb_get hs]; rfl) ht
  simp only [ofF, endF, hl, hz, Nat.mul_zero, Nat.sub_zero, if_pos hm]
  refine blkAns_eq hk (fun t ht => wordsF_congr (fun s hs => ?_) ht) (fun t ht => doubleF_congr (fun t ht => doubleF_congr hk ht) ht) (wordsF_R _) (wordsF_R _) (R32s.double _) ht
  simp only [lastF, hl, hz, blkF, Nat.mul_zero, Nat.sub_zero, Nat.zero_add]
  by_cases h1 : s = m
  · rw [if_pos h1, if_pos h1]
  · rw [if_neg h1, if_neg h1]
    by_cases h2 : s < m
    · rw [if_pos h2, if_pos h2, List.getD_eq_getElem?_getD, List.getElem?_take, if_pos h2, tb_get hs]; rfl
    · rw [if_neg h2, if_neg h2]
end Go.Proofs.Ytaoagcdljmpllaa
