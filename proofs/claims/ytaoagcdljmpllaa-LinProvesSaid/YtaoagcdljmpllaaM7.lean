import Derived.Test.YtaoagcdljmpllaaM1
import Derived.Test.YtaoagcdljmpllaaM2
import Derived.Test.YtaoagcdljmpllaaM5
import Derived.Test.YtaoagcdljmpllaaM6
import Derived.Test.YtaoagcdljmpllaaM4
import Derived.Test.YtaoagcdljmpllaaM3
/- Orders on places: two sorted ranges, a middle turned round, two merges. No conditions. -/
namespace Go.Proofs.Ytaoagcdljmpllaa
open Go.Am
structure LeOk (cmp : Int → Int → Int) : Prop where
  asym : ∀ x y, cmp x y < 0 → ¬ cmp y x < 0
  trans : ∀ x y z, ¬ cmp y x < 0 → ¬ cmp z y < 0 → ¬ cmp z x < 0
def Lq (cmp : Int → Int → Int) (x y : Int) : Prop := ¬ cmp y x < 0
theorem LeOk.refl {cmp : Int → Int → Int} (h : LeOk cmp) (x : Int) : Lq cmp x x := fun e => h.asym _ _ e e
theorem LeOk.tr {cmp : Int → Int → Int} (h : LeOk cmp) {x y z : Int} (a : Lq cmp x y) (b : Lq cmp y z) : Lq cmp x z := h.trans _ _ _ a b
theorem LeOk.lt {cmp : Int → Int → Int} (h : LeOk cmp) {x y : Int} (a : cmp x y < 0) : Lq cmp x y := h.asym _ _ a
def Srt (cmp : Int → Int → Int) (f : Nat → Int) (lo hi : Nat) : Prop := ∀ i j, lo ≤ i → i < j → j < hi → Lq cmp (f i) (f j)
def Post (cmp : Int → Int → Int) (a b : Nat) (f g : Nat → Int) : Prop := (∀ k, ¬ (a ≤ k ∧ k < b) → g k = f k) ∧ (∀ k, a ≤ k → k < b → ∃ k', a ≤ k' ∧ k' < b ∧ g k = f k') ∧ Srt cmp g a b
def rotf (lo mid hi : Nat) (f : Nat → Int) (k : Nat) : Int := if lo ≤ k ∧ k < lo + (hi - mid) then f (k + (mid - lo)) else if lo + (hi - mid) ≤ k ∧ k < hi then f (k - (hi - mid)) else f k
theorem Srt.le {cmp : Int → Int → Int} (h : LeOk cmp) {f : Nat → Int} {lo hi i j : Nat} (s : Srt cmp f lo hi) (h1 : lo ≤ i) (h2 : i ≤ j) (h3 : j < hi) : Lq cmp (f i) (f j) := by
  rcases Nat.lt_or_ge i j with h4 | h4
  · exact s i j h1 h4 h3
  · have : i = j := by omega
    subst this; exact h.refl _
theorem Srt.join {cmp : Int → Int → Int} (h : LeOk cmp) {g : Nat → Int} {lo md hi : Nat} (s1 : Srt cmp g lo md) (s2 : Srt cmp g md hi) (c : lo = md ∨ md = hi ∨ Lq cmp (g (md - 1)) (g md)) : Srt cmp g lo hi := fun i j h1 h2 h3 => by
  by_cases c1 : j < md
  · exact s1 i j h1 h2 c1
  · by_cases c2 : md ≤ i
    · exact s2 i j c2 h2 h3
    · rcases c with c | c | c
      · omega
      · omega
      · exact h.tr (s1.le h h1 (show i ≤ md - 1 by omega) (by omega)) (h.tr c (s2.le h (Nat.le_refl _) (show md ≤ j by omega) h3))
theorem Srt.glue {cmp : Int → Int → Int} {g : Nat → Int} {lo md hi : Nat} (s1 : Srt cmp g lo md) (s2 : Srt cmp g md hi) (c : ∀ x y, lo ≤ x → x < md → md ≤ y → y < hi → Lq cmp (g x) (g y)) : Srt cmp g lo hi := fun i j h1 h2 h3 => by
  by_cases c1 : j < md
  · exact s1 i j h1 h2 c1
  · by_cases c2 : md ≤ i
    · exact s2 i j c2 h2 h3
    · exact c i j h1 (by omega) (by omega) h3
theorem rotf_lo {lo mid hi : Nat} {f : Nat → Int} {k : Nat} (h : lo ≤ k ∧ k < lo + (hi - mid)) : rotf lo mid hi f k = f (k + (mid - lo)) := by
  unfold rotf; rw [if_pos h]
theorem rotf_hi {lo mid hi : Nat} {f : Nat → Int} {k : Nat} (h : lo + (hi - mid) ≤ k ∧ k < hi) : rotf lo mid hi f k = f (k - (hi - mid)) := by
  unfold rotf; rw [if_neg (by omega), if_pos h]
theorem rotf_out {lo mid hi : Nat} {f : Nat → Int} {k : Nat} (h : k < lo ∨ hi ≤ k) (hm : lo ≤ mid ∧ mid ≤ hi) : rotf lo mid hi f k = f k := by
  unfold rotf; rw [if_neg (by omega), if_neg (by omega)]
theorem rotf_none {lo mid hi : Nat} {f : Nat → Int} (hm : lo ≤ mid ∧ mid ≤ hi) (h : lo = mid ∨ mid = hi) : rotf lo mid hi f = f := by
  funext k
  by_cases c1 : lo ≤ k ∧ k < lo + (hi - mid)
  · rw [rotf_lo c1, show k + (mid - lo) = k by omega]
  · by_cases c2 : lo + (hi - mid) ≤ k ∧ k < hi
    · rw [rotf_hi c2, show k - (hi - mid) = k by omega]
    · exact rotf_out (by omega) hm
structure Split (cmp : Int → Int → Int) (a s md e b : Nat) (f : Nat → Int) : Prop where
  s1 : Srt cmp f a s
  s2 : Srt cmp f s md
  s3 : Srt cmp f md e
  s4 : Srt cmp f e b
  cross : ∀ x y, a ≤ x → x < md → md ≤ y → y < b → Lq cmp (f x) (f y)
theorem rot_split {cmp : Int → Int → Int} (h : LeOk cmp) {f : Nat → Int} {a s m e b : Nat} (h1 : a ≤ s ∧ s ≤ m ∧ m ≤ e ∧ e ≤ b) (u : Srt cmp f a m) (v : Srt cmp f m b) (c1 : s = a ∨ e = b ∨ Lq cmp (f (s - 1)) (f e)) (c2 : s = m ∨ e = m ∨ Lq cmp (f (e - 1)) (f s)) : Split cmp a s (s + (e - m)) e b (rotf s m e f) where
  s1 := fun i j q1 q2 q3 => by
    rw [rotf_out (by omega) (by omega), rotf_out (by omega) (by omega)]
    exact u i j q1 q2 (by omega)
  s2 := fun i j q1 q2 q3 => by
    rw [rotf_lo (by omega), rotf_lo (by omega)]
    exact v _ _ (by omega) (by omega) (by omega)
  s3 := fun i j q1 q2 q3 => by
    rw [rotf_hi (by omega), rotf_hi (by omega)]
    exact u _ _ (by omega) (by omega) (by omega)
  s4 := fun i j q1 q2 q3 => by
    rw [rotf_out (by omega) (by omega), rotf_out (by omega) (by omega)]
    exact v i j (by omega) q2 q3
  cross := fun x y q1 q2 q3 q4 => by
    by_cases k1 : x < s
    · rw [rotf_out (by omega) (by omega)]
      by_cases k2 : y < e
      · rw [rotf_hi (by omega)]
        exact u.le h q1 (by omega) (by omega)
      · rw [rotf_out (by omega) (by omega)]
        rcases c1 with c | c | c
        · omega
        · omega
        · exact h.tr (u.le h q1 (show x ≤ s - 1 by omega) (by omega)) (h.tr c (v.le h (by omega) (show e ≤ y by omega) q4))
    · rw [rotf_lo (by omega)]
      by_cases k2 : y < e
      · rw [rotf_hi (by omega)]
        rcases c2 with c | c | c
        · omega
        · omega
        · exact h.tr (v.le h (by omega) (show x + (m - s) ≤ e - 1 by omega) (by omega)) (h.tr c (u.le h (by omega) (show s ≤ y - (e - m) by omega) (by omega)))
      · rw [rotf_out (by omega) (by omega)]
        exact v.le h (by omega) (by omega) q4
theorem rotf_in {lo mid hi a b : Nat} {f : Nat → Int} (h : a ≤ lo ∧ lo ≤ mid ∧ mid ≤ hi ∧ hi ≤ b) : (∀ k, ¬ (a ≤ k ∧ k < b) → rotf lo mid hi f k = f k) ∧ (∀ k, a ≤ k → k < b → ∃ k', a ≤ k' ∧ k' < b ∧ rotf lo mid hi f k = f k') := by
  refine ⟨fun k hk => rotf_out (by omega) (by omega), fun k h1 h2 => ?_⟩
  by_cases c1 : lo ≤ k ∧ k < lo + (hi - mid)
  · exact ⟨_, by omega, by omega, rotf_lo c1⟩
  · by_cases c2 : lo + (hi - mid) ≤ k ∧ k < hi
    · exact ⟨_, by omega, by omega, rotf_hi c2⟩
    · exact ⟨k, h1, h2, rotf_out (by omega) (by omega)⟩
theorem Post.id {cmp : Int → Int → Int} {a b : Nat} {f : Nat → Int} (s : Srt cmp f a b) : Post cmp a b f f := ⟨fun _ _ => rfl, fun k h1 h2 => ⟨k, h1, h2, rfl⟩, s⟩
/-- The middle turned round, then the left part sorted, then the right. -/
theorem Post.merge {cmp : Int → Int → Int} {f g1 g2 : Nat → Int} {a s m e b : Nat} (h1 : a ≤ s ∧ s ≤ m ∧ m ≤ e ∧ e ≤ b) (sp : Split cmp a s (s + (e - m)) e b (rotf s m e f)) (p1 : Post cmp a (s + (e - m)) (rotf s m e f) g1) (p2 : Post cmp (s + (e - m)) b g1 g2) : Post cmp a b f g2 := by
  obtain ⟨o1, i1, t1⟩ := p1
  obtain ⟨o2, i2, t2⟩ := p2
  obtain ⟨o0, i0⟩ := rotf_in (f := f) h1
  refine ⟨fun k hk => ?_, fun k q1 q2 => ?_, Srt.glue (md := s + (e - m)) ?_ t2 ?_⟩
  · rw [o2 k (by omega), o1 k (by omega), o0 k hk]
  · by_cases c : k < s + (e - m)
    · rw [o2 k (by omega)]
      obtain ⟨k1, r1, r2, e1⟩ := i1 k q1 c
      obtain ⟨k2, r3, r4, e2⟩ := i0 k1 r1 (by omega)
      exact ⟨k2, r3, r4, e1.trans e2⟩
    · obtain ⟨k1, r1, r2, e1⟩ := i2 k (by omega) q2
      obtain ⟨k2, r3, r4, e2⟩ := i0 k1 (by omega) r2
      exact ⟨k2, r3, r4, (e1.trans (o1 k1 (by omega))).trans e2⟩
  · intro i j q1 q2 q3
    rw [o2 i (by omega), o2 j (by omega)]
    exact t1 i j q1 q2 q3
  · intro x y q1 q2 q3 q4
    rw [o2 x (by omega)]
    obtain ⟨x1, r1, r2, e1⟩ := i1 x q1 q2
    obtain ⟨y1, r3, r4, e2⟩ := i2 y q3 q4
    rw [e1, e2, o1 y1 (by omega)]
    exact sp.cross x1 y1 r1 r2 r3 r4
theorem swapF_a {a b n k : Nat} {f : Nat → Int} (h : a ≤ k ∧ k < a + n) : swapF a b n f k = f (k - a + b) := by
  unfold swapF; rw [if_pos h]
theorem swapF_b {a b n k : Nat} {f : Nat → Int} (h : b ≤ k ∧ k < b + n) (hab : a + n ≤ b) : swapF a b n f k = f (k - b + a) := by
  unfold swapF; rw [if_neg (by omega), if_pos h]
theorem swapF_o {a b n k : Nat} {f : Nat → Int} (h1 : ¬ (a ≤ k ∧ k < a + n)) (h2 : ¬ (b ≤ k ∧ k < b + n)) : swapF a b n f k = f k := by
  unfold swapF; rw [if_neg h1, if_neg h2]
theorem rotate_l0_get {m L : Nat} {cmp : Int → Int → Int} (hL : L ≤ 1000000) : ∀ (k i j : Nat) (vc : List Int), i + j ≤ k → 0 < i → i ≤ m → 0 < j → m + j ≤ L → vc.length = L → ∀ q, q < L → (rotate_l0 m cmp (k + 1) i j vc)[q]! = rotf (m - i) m (m + j) (fun q => vc[q]!) q
  | k, i, j, vc, hk, hi, him, hj, hjm, hv, q, hq => by
    unfold rotate_l0
    have e1 : IntKind.i64.wrap ((m : Int) - i) = ((m - i : Nat) : Int) := by rw [wrapI _ (by omega)]; omega
    by_cases h : i = j
    · subst h
      rw [show ((i : Int) != i) = false by simp, cond_false, e1, swapRange_get (by omega) (by omega) (by omega) (by omega)]
      by_cases c1 : m - i ≤ q ∧ q < m
      · rw [swapF_a (by omega), rotf_lo (by omega)]; rw [show q - (m - i) + m = q + (m - (m - i)) by omega]
      · by_cases c2 : m ≤ q ∧ q < m + i
        · rw [swapF_b (by omega) (by omega), rotf_hi (by omega)]; rw [show q - m + (m - i) = q - (m + i - m) by omega]
        · rw [swapF_o (by omega) (by omega), rotf_out (by omega) (by omega)]
    · rw [show ((i : Int) != j) = true from bne_iff_ne.2 (by omega), cond_true]
      obtain ⟨k, rfl⟩ : ∃ q, k = q + 1 := ⟨k - 1, by omega⟩
      by_cases h4 : j < i
      · rw [decide_eq_true (by omega : (i : Int) > j), cond_true, e1]
        have e2 : IntKind.i64.wrap ((i : Int) - j) = ((i - j : Nat) : Int) := by rw [wrapI _ (by omega)]; omega
        have hlen : (swapRange vc ((m - i : Nat) : Int) (m : Int) (j : Int) cmp).length = L := by rw [(swapRange_perm (by omega) (by omega)).length_eq]; exact hv
        have hg : ∀ q, q < L → (swapRange vc ((m - i : Nat) : Int) (m : Int) (j : Int) cmp)[q]! = swapF (m - i) m j (fun q => vc[q]!) q := fun q hq => swapRange_get (by omega) (by omega) (by omega) (by omega)
        rw [e2, rotate_l0_get hL k (i - j) j _ (by omega) (by omega) (by omega) hj hjm hlen q hq]
        by_cases c1 : m - i ≤ q ∧ q < m - i + j
        · rw [rotf_out (by omega) (by omega), hg q hq, swapF_a (by omega), rotf_lo (by omega)]; rw [show q - (m - i) + m = q + (m - (m - i)) by omega]
        · by_cases c2 : m - i + j ≤ q ∧ q < m + j
          · rw [rotf_hi (k := q) (f := fun q => vc[q]!) (by omega)]
            by_cases c3 : q < m - (i - j) + j
            · rw [rotf_lo (by omega), hg _ (by omega), swapF_b (by omega) (by omega)]; rw [show q + (m - (m - (i - j))) - m + (m - i) = q - (m + j - m) by omega]
            · rw [rotf_hi (by omega), hg _ (by omega), swapF_o (by omega) (by omega)]
          · rw [rotf_out (by omega) (by omega), hg q hq, swapF_o (by omega) (by omega), rotf_out (by omega) (by omega)]
      · rw [decide_eq_false (by omega : ¬ (i : Int) > j), cond_false, e1]
        have e2 : IntKind.i64.wrap ((j : Int) - i) = ((j - i : Nat) : Int) := by rw [wrapI _ (by omega)]; omega
        have e3 : IntKind.i64.wrap (IntKind.i64.wrap ((m : Int) + j) - i) = ((m + j - i : Nat) : Int) := by rw [wrapI ((m : Int) + j) (by omega), wrapI _ (by omega)]; omega
        have hlen : (swapRange vc ((m - i : Nat) : Int) ((m + j - i : Nat) : Int) (i : Int) cmp).length = L := by rw [(swapRange_perm (by omega) (by omega)).length_eq]; exact hv
        have hg : ∀ q, q < L → (swapRange vc ((m - i : Nat) : Int) ((m + j - i : Nat) : Int) (i : Int) cmp)[q]! = swapF (m - i) (m + j - i) i (fun q => vc[q]!) q := fun q hq => swapRange_get (by omega) (by omega) (by omega) (by omega)
        rw [e2, e3, rotate_l0_get hL k i (j - i) _ (by omega) hi him (by omega) (by omega) hlen q hq]
        by_cases c1 : m - i ≤ q ∧ q < m + j - i
        · rw [rotf_lo (k := q) (f := fun q => vc[q]!) (by omega)]
          by_cases c3 : q < m - i + (j - i)
          · rw [rotf_lo (by omega), hg _ (by omega), swapF_o (by omega) (by omega)]
          · rw [rotf_hi (by omega), hg _ (by omega), swapF_a (by omega)]; rw [show q - (m + (j - i) - m) - (m - i) + (m + j - i) = q + (m - (m - i)) by omega]
        · by_cases c2 : m + j - i ≤ q ∧ q < m + j
          · rw [rotf_out (by omega) (by omega), hg q hq, swapF_b (by omega) (by omega), rotf_hi (by omega)]; rw [show q - (m + j - i) + (m - i) = q - (m + j - m) by omega]
          · rw [rotf_out (by omega) (by omega), hg q hq, swapF_o (by omega) (by omega), rotf_out (by omega) (by omega)]
theorem rotate_get {data : List Int} {a m b : Nat} {cmp : Int → Int → Int} (h : a < m ∧ m < b ∧ b ≤ data.length) (hL : data.length ≤ 1000000) (q : Nat) : (rotate data a m b cmp)[q]! = rotf a m b (fun q => data[q]!) q := by
  by_cases hq : q < data.length
  · unfold rotate
    rw [show IntKind.i64.wrap ((m : Int) - a) = ((m - a : Nat) : Int) by rw [wrapI _ (by omega)]; omega, show IntKind.i64.wrap ((b : Int) - m) = ((b - m : Nat) : Int) by rw [wrapI _ (by omega)]; omega]
    rw [show ((((m - a : Nat) : Int) + ((b - m : Nat) : Int)).toNat) = (m - a) + (b - m) by omega]
    rw [rotate_l0_get hL _ (m - a) (b - m) data (Nat.le_refl _) (by omega) (by omega) (by omega) (by omega) rfl q hq, show m - (m - a) = a by omega, show m + (b - m) = b by omega]
  · rw [rotf_out (by omega) (by omega)]
    have hlen := (rotate_perm (data := data) (a := a) (m := m) (b := b) (cmp := cmp) (by omega) hL).length_eq
    rw [getElem!_neg _ q (by omega), getElem!_neg _ q hq]
theorem half_nat {x y : Nat} (h : x + y ≤ 4000000) : IntKind.i64.wrap (shrI .u64 (IntKind.u64.wrap (IntKind.i64.wrap ((x : Int) + y))) 1) = (((x + y) / 2 : Nat) : Int) := by
  have := half_eq (x := (x : Int) + y) (by omega)
  omega
theorem up_nat {x : Nat} (h : x ≤ 4000000) : IntKind.i64.wrap ((x : Int) + 1) = ((x + 1 : Nat) : Int) := by rw [wrapI _ (by omega)]; omega
theorem dn_nat {x : Nat} (h : 0 < x ∧ x ≤ 4000000) : IntKind.i64.wrap ((x : Int) - 1) = ((x - 1 : Nat) : Int) := by rw [wrapI _ (by omega)]; omega
/-- One element is carried up to place i - 1. -/
theorem up_loop {i L : Nat} (hL : L ≤ 1000000) (hiL : i ≤ L) : ∀ (j k : Nat) (vc : List Int), i - 1 - k = j → k + 1 ≤ i → vc.length = L → (symMergeB_l1 i (j + 1) k vc).Perm vc ∧ ∀ q, q < L → (symMergeB_l1 i (j + 1) k vc)[q]! = rotf k (k + 1) i (fun q => vc[q]!) q
  | j, k, vc, hj, hk, hv => by
    unfold symMergeB_l1
    rw [dn_nat (x := i) (by omega)]
    by_cases h : k < i - 1
    · rw [decide_eq_true (by omega : (k : Int) < ((i - 1 : Nat) : Int)), cond_true, up_nat (by omega), Int.toNat_natCast, Int.toNat_natCast]
      obtain ⟨j, rfl⟩ : ∃ q, j = q + 1 := ⟨j - 1, by omega⟩
      have hp : ((vc.set k vc[k + 1]!).set (k + 1) vc[k]!).Perm vc := swap_perm (by omega) (by omega)
      have hg : ∀ q, q < L → ((vc.set k vc[k + 1]!).set (k + 1) vc[k]!)[q]! = if k + 1 = q then vc[k]! else if k = q then vc[k + 1]! else vc[q]! := fun q hq => swap_get (by omega)
      generalize ((vc.set k vc[k + 1]!).set (k + 1) vc[k]!) = w at hp hg ⊢
      obtain ⟨p1, g1⟩ := up_loop (i := i) hL hiL j (k + 1) w (by omega) (by omega) (by rw [hp.length_eq]; exact hv)
      refine ⟨p1.trans hp, fun q hq => ?_⟩
      rw [g1 q hq]
      by_cases c1 : k ≤ q ∧ q < i - 1
      · rw [rotf_lo (lo := k) (by omega)]
        by_cases c2 : q = k
        · subst c2
          rw [rotf_out (by omega) (by omega), hg _ hq, if_neg (by omega), if_pos rfl, show q + (q + 1 - q) = q + 1 by omega]
        · rw [rotf_lo (by omega), show q + (k + 1 + 1 - (k + 1)) = q + (k + 1 - k) by omega, hg _ (by omega), if_neg (by omega), if_neg (by omega)]
      · by_cases c2 : q = i - 1
        · rw [rotf_hi (lo := k) (by omega), rotf_hi (by omega), show q - (i - (k + 1 + 1)) = k + 1 by omega, hg _ (by omega), if_pos rfl, show q - (i - (k + 1)) = k by omega]
        · rw [rotf_out (by omega) (by omega), rotf_out (by omega) (by omega), hg _ hq, if_neg (by omega), if_neg (by omega)]
    · rw [decide_eq_false (by omega : ¬ (k : Int) < ((i - 1 : Nat) : Int)), cond_false]
      have : i = k + 1 := by omega
      subst this
      exact ⟨List.Perm.refl _, fun q _ => by rw [rotf_none (by omega) (by omega)]⟩
/-- One element is carried down to place i. -/
theorem down_loop {i L : Nat} (hL : L ≤ 1000000) : ∀ (j k : Nat) (vc : List Int), k - i = j → i ≤ k → k < L → vc.length = L → (symMergeB_l3 i (j + 1) k vc).Perm vc ∧ ∀ q, q < L → (symMergeB_l3 i (j + 1) k vc)[q]! = rotf i k (k + 1) (fun q => vc[q]!) q
  | j, k, vc, hj, hk, hkL, hv => by
    unfold symMergeB_l3
    by_cases h : i < k
    · rw [decide_eq_true (by omega : (k : Int) > (i : Int)), cond_true, dn_nat (x := k) (by omega), Int.toNat_natCast, Int.toNat_natCast]
      obtain ⟨j, rfl⟩ : ∃ q, j = q + 1 := ⟨j - 1, by omega⟩
      have hp : ((vc.set k vc[k - 1]!).set (k - 1) vc[k]!).Perm vc := swap_perm (by omega) (by omega)
      have hg : ∀ q, q < L → ((vc.set k vc[k - 1]!).set (k - 1) vc[k]!)[q]! = if k - 1 = q then vc[k]! else if k = q then vc[k - 1]! else vc[q]! := fun q hq => swap_get (by omega)
      generalize ((vc.set k vc[k - 1]!).set (k - 1) vc[k]!) = w at hp hg ⊢
      obtain ⟨p1, g1⟩ := down_loop (i := i) hL j (k - 1) w (by omega) (by omega) (by omega) (by rw [hp.length_eq]; exact hv)
      refine ⟨p1.trans hp, fun q hq => ?_⟩
      rw [g1 q hq]
      by_cases c1 : q = i
      · subst c1
        rw [rotf_lo (by omega), rotf_lo (by omega), show q + (k - 1 - q) = k - 1 by omega, hg _ (by omega), if_pos rfl, show q + (k - q) = k by omega]
      · by_cases c2 : i < q ∧ q ≤ k
        · rw [rotf_hi (hi := k + 1) (by omega), show q - (k + 1 - k) = q - 1 by omega]
          by_cases c3 : q = k
          · subst c3
            rw [rotf_out (by omega) (by omega), hg _ hq, if_neg (by omega), if_pos rfl]
          · rw [rotf_hi (by omega), show q - (k - 1 + 1 - (k - 1)) = q - 1 by omega, hg _ (by omega), if_neg (by omega), if_neg (by omega)]
        · rw [rotf_out (by omega) (by omega), rotf_out (by omega) (by omega), hg _ hq, if_neg (by omega), if_neg (by omega)]
    · rw [decide_eq_false (by omega : ¬ (k : Int) > (i : Int)), cond_false]
      have : i = k := by omega
      subst this
      exact ⟨List.Perm.refl _, fun q _ => by rw [rotf_none (by omega) (by omega)]⟩
/-- Where one element of the left goes among the right. -/
theorem find_up {D : List Int} {a m b : Nat} {cmp : Int → Int → Int} (hb : b ≤ 1000000) : ∀ (k i j : Nat), j - i ≤ k → m ≤ i → i ≤ j → j ≤ b → (i = m ∨ cmp D[i - 1]! D[a]! < 0) → (j = b ∨ ¬ cmp D[j]! D[a]! < 0) → ∃ e : Nat, m ≤ e ∧ e ≤ b ∧ (e = m ∨ cmp D[e - 1]! D[a]! < 0) ∧ (e = b ∨ ¬ cmp D[e]! D[a]! < 0) ∧ symMergeB_l0 D a cmp (k + 1) i j = symMergeB_l1 e ((IntKind.i64.wrap ((e : Int) - 1) - a).toNat + 1) a D
  | k, i, j, hk, h1, h2, h3, h4, h5 => by
    unfold symMergeB_l0
    by_cases h : i < j
    · rw [decide_eq_true (by omega : (i : Int) < j), cond_true, half_nat (by omega), Int.toNat_natCast, Int.toNat_natCast]
      obtain ⟨k, rfl⟩ : ∃ q, k = q + 1 := ⟨k - 1, by omega⟩
      by_cases c : cmp D[(i + j) / 2]! D[a]! < 0
      · rw [decide_eq_true c, cond_true, up_nat (by omega)]
        exact find_up hb k ((i + j) / 2 + 1) j (by omega) (by omega) (by omega) h3 (.inr (by rw [Nat.add_sub_cancel]; exact c)) h5
      · rw [decide_eq_false c, cond_false]
        exact find_up hb k i ((i + j) / 2) (by omega) h1 (by omega) (by omega) h4 (.inr c)
    · rw [decide_eq_false (by omega : ¬ (i : Int) < j), cond_false]
      have : i = j := by omega
      subst this
      exact ⟨i, h1, h3, h4, h5, rfl⟩
/-- Where one element of the right goes among the left. -/
theorem find_down {D : List Int} {a m : Nat} {cmp : Int → Int → Int} (hb : m ≤ 1000000) : ∀ (k i j : Nat), j - i ≤ k → a ≤ i → i ≤ j → j ≤ m → (i = a ∨ ¬ cmp D[m]! D[i - 1]! < 0) → (j = m ∨ cmp D[m]! D[j]! < 0) → ∃ s : Nat, a ≤ s ∧ s ≤ m ∧ (s = a ∨ ¬ cmp D[m]! D[s - 1]! < 0) ∧ (s = m ∨ cmp D[m]! D[s]! < 0) ∧ symMergeB_l2 D m cmp (k + 1) i j = symMergeB_l3 s (((m : Int) - s).toNat + 1) m D
  | k, i, j, hk, h1, h2, h3, h4, h5 => by
    unfold symMergeB_l2
    by_cases h : i < j
    · rw [decide_eq_true (by omega : (i : Int) < j), cond_true, half_nat (by omega), Int.toNat_natCast, Int.toNat_natCast]
      obtain ⟨k, rfl⟩ : ∃ q, k = q + 1 := ⟨k - 1, by omega⟩
      by_cases c : cmp D[m]! D[(i + j) / 2]! < 0
      · rw [decide_eq_true c, Bool.not_true, cond_false]
        exact find_down hb k i ((i + j) / 2) (by omega) h1 (by omega) (by omega) h4 (.inr c)
      · rw [decide_eq_false c, Bool.not_false, cond_true, up_nat (by omega)]
        exact find_down hb k ((i + j) / 2 + 1) j (by omega) (by omega) (by omega) h3 (.inr (by rw [Nat.add_sub_cancel]; exact c)) h5
    · rw [decide_eq_false (by omega : ¬ (i : Int) < j), cond_false]
      have : i = j := by omega
      subst this
      exact ⟨i, h1, h3, h4, h5, rfl⟩
/-- What is done once the middle is known. -/
def finish (rec : List Int → Int → Int → Int → (Int → Int → Int) → List Int) (D : List Int) (a m b : Int) (cmp : Int → Int → Int) (mid s e : Int) : List Int :=
  (fun d1 => (fun d2 => bif decide (mid < e) && decide (e < b) then rec d2 mid e b cmp else d2) (bif decide (a < s) && decide (s < mid) then rec d1 a s mid cmp else d1)) (bif decide (s < m) && decide (m < e) then rotate D s m e cmp else D)
theorem find_mid {rec : List Int → Int → Int → Int → (Int → Int → Int) → List Int} {D : List Int} {a m b lo hi : Nat} {cmp : Int → Int → Int} (hb : b ≤ 1000000) (hab : a < m ∧ m < b) (hhi : hi ≤ m ∧ hi ≤ (a + b) / 2) (hlo : (a + b) / 2 + m - b ≤ lo) : ∀ (k i j : Nat), j - i ≤ k → lo ≤ i → i ≤ j → j ≤ hi → (i = lo ∨ ¬ cmp D[(a + b) / 2 + m - 1 - (i - 1)]! D[i - 1]! < 0) → (j = hi ∨ cmp D[(a + b) / 2 + m - 1 - j]! D[j]! < 0) → ∃ s : Nat, lo ≤ s ∧ s ≤ hi ∧ (s = lo ∨ ¬ cmp D[(a + b) / 2 + m - 1 - (s - 1)]! D[s - 1]! < 0) ∧ (s = hi ∨ cmp D[(a + b) / 2 + m - 1 - s]! D[s]! < 0) ∧ symMergeB_l4 rec D a m b cmp (k + 1) i j = finish rec D a m b cmp (((a + b) / 2 : Nat) : Int) s (((a + b) / 2 + m - s : Nat) : Int)
  | k, i, j, hk, h1, h2, h3, h4, h5 => by
    unfold symMergeB_l4
    rw [half_nat (x := a) (y := b) (by omega)]
    have e1 : IntKind.i64.wrap ((((a + b) / 2 : Nat) : Int) + m) = (((a + b) / 2 + m : Nat) : Int) := by rw [wrapI _ (by omega)]; omega
    rw [e1, dn_nat (x := (a + b) / 2 + m) (by omega)]
    by_cases h : i < j
    · rw [decide_eq_true (by omega : (i : Int) < j), cond_true, half_nat (by omega), Int.toNat_natCast]
      have e2 : IntKind.i64.wrap (((((a + b) / 2 + m - 1 : Nat)) : Int) - (((i + j) / 2 : Nat) : Int)) = (((a + b) / 2 + m - 1 - (i + j) / 2 : Nat) : Int) := by rw [wrapI _ (by omega)]; omega
      rw [e2, Int.toNat_natCast]
      obtain ⟨k, rfl⟩ : ∃ q, k = q + 1 := ⟨k - 1, by omega⟩
      by_cases c : cmp D[(a + b) / 2 + m - 1 - (i + j) / 2]! D[(i + j) / 2]! < 0
      · rw [decide_eq_true c, Bool.not_true, cond_false]
        exact find_mid hb hab hhi hlo k i ((i + j) / 2) (by omega) h1 (by omega) (by omega) h4 (.inr c)
      · rw [decide_eq_false c, Bool.not_false, cond_true, up_nat (by omega)]
        exact find_mid hb hab hhi hlo k ((i + j) / 2 + 1) j (by omega) (by omega) (by omega) h3 (.inr (by rw [Nat.add_sub_cancel]; exact c)) h5
    · rw [decide_eq_false (by omega : ¬ (i : Int) < j), cond_false]
      have : i = j := by omega
      subst this
      refine ⟨i, h1, h3, h4, h5, ?_⟩
      have e3 : IntKind.i64.wrap ((((a + b) / 2 + m : Nat) : Int) - i) = (((a + b) / 2 + m - i : Nat) : Int) := by rw [wrapI _ (by omega)]; omega
      rw [e3]
      generalize (((a + b) / 2 + m - i : Nat) : Int) = e
      generalize (((a + b) / 2 : Nat) : Int) = mid
      generalize (i : Int) = s
      unfold finish
      cases decide (s < (m : Int)) <;> cases decide ((m : Int) < e) <;> cases decide ((a : Int) < s) <;> cases decide (s < mid) <;> cases decide (mid < e) <;> cases decide (e < (b : Int)) <;> rfl
abbrev gt (D : List Int) (q : Nat) : Int := D[q]!
theorem sym_cases (rec : List Int → Int → Int → Int → (Int → Int → Int) → List Int) {D : List Int} {a m b : Nat} (cmp : Int → Int → Int) (h : a < m ∧ m < b ∧ b ≤ D.length) (hL : D.length ≤ 1000000) :
    (m = a + 1 ∧ ∃ e : Nat, m ≤ e ∧ e ≤ b ∧ (e = m ∨ cmp (gt D (e - 1)) (gt D a) < 0) ∧ (e = b ∨ ¬ cmp (gt D e) (gt D a) < 0) ∧ symMergeB rec D a m b cmp = symMergeB_l1 e (e - 1 - a + 1) a D) ∨
    (b = m + 1 ∧ ∃ s : Nat, a ≤ s ∧ s ≤ m ∧ (s = a ∨ ¬ cmp (gt D m) (gt D (s - 1)) < 0) ∧ (s = m ∨ cmp (gt D m) (gt D s) < 0) ∧ symMergeB rec D a m b cmp = symMergeB_l3 s (m - s + 1) m D) ∨
    (∃ s e mid : Nat, (a ≤ s ∧ s ≤ m ∧ m ≤ e ∧ e ≤ b ∧ mid = s + (e - m) ∧ a < mid ∧ mid < b) ∧ (s = a ∨ e = b ∨ ¬ cmp (gt D e) (gt D (s - 1)) < 0) ∧ (s = m ∨ e = m ∨ cmp (gt D (e - 1)) (gt D s) < 0) ∧ symMergeB rec D a m b cmp = finish rec D a m b cmp mid s e) := by
  unfold symMergeB
  by_cases h1 : m = a + 1
  · refine .inl ⟨h1, ?_⟩
    have e1 : (IntKind.i64.wrap ((m : Int) - a) == 1) = true := by rw [wrapI _ (by omega)]; simp; omega
    rw [e1, cond_true, show ((b : Int) - m).toNat = b - m by omega]
    obtain ⟨e, q1, q2, q3, q4, q5⟩ := find_up (D := D) (a := a) (m := m) (b := b) (cmp := cmp) (by omega) (b - m) m b (Nat.le_refl _) (Nat.le_refl _) (by omega) (Nat.le_refl _) (.inl rfl) (.inl rfl)
    refine ⟨e, q1, q2, q3, q4, ?_⟩
    rw [q5, dn_nat (x := e) (by omega), show (((e - 1 : Nat) : Int) - a).toNat = e - 1 - a by omega]
  · right
    have e1 : (IntKind.i64.wrap ((m : Int) - a) == 1) = false := by rw [wrapI _ (by omega)]; simp; omega
    rw [e1, cond_false]
    by_cases h2 : b = m + 1
    · refine .inl ⟨h2, ?_⟩
      have e2 : (IntKind.i64.wrap ((b : Int) - m) == 1) = true := by rw [wrapI _ (by omega)]; simp; omega
      rw [e2, cond_true, show ((m : Int) - a).toNat = m - a by omega]
      obtain ⟨s, q1, q2, q3, q4, q5⟩ := find_down (D := D) (a := a) (m := m) (cmp := cmp) (by omega) (m - a) a m (Nat.le_refl _) (Nat.le_refl _) (by omega) (Nat.le_refl _) (.inl rfl) (.inl rfl)
      refine ⟨s, q1, q2, q3, q4, ?_⟩
      rw [q5, show ((m : Int) - s).toNat = m - s by omega]
    · right
      have e2 : (IntKind.i64.wrap ((b : Int) - m) == 1) = false := by rw [wrapI _ (by omega)]; simp; omega
      rw [e2, cond_false, half_nat (x := a) (y := b) (by omega)]
      have e3 : IntKind.i64.wrap ((((a + b) / 2 : Nat) : Int) + m) = (((a + b) / 2 + m : Nat) : Int) := by rw [wrapI _ (by omega)]; omega
      rw [e3]
      by_cases h3 : (a + b) / 2 < m
      · have e4 : IntKind.i64.wrap ((((a + b) / 2 + m : Nat) : Int) - b) = (((a + b) / 2 + m - b : Nat) : Int) := by rw [wrapI _ (by omega)]; omega
        rw [decide_eq_true (by omega : (m : Int) > (((a + b) / 2 : Nat) : Int)), cond_true, e4, show ((((a + b) / 2 : Nat) : Int) - (((a + b) / 2 + m - b : Nat) : Int)).toNat = (a + b) / 2 - ((a + b) / 2 + m - b) by omega]
        obtain ⟨s, q1, q2, q3, q4, q5⟩ := find_mid (rec := rec) (D := D) (a := a) (m := m) (b := b) (lo := (a + b) / 2 + m - b) (hi := (a + b) / 2) (cmp := cmp) (by omega) (by omega) (by omega) (by omega) _ _ _ (Nat.le_refl _) (Nat.le_refl _) (by omega) (Nat.le_refl _) (.inl rfl) (.inl rfl)
        refine ⟨s, (a + b) / 2 + m - s, (a + b) / 2, by omega, ?_, ?_, q5⟩
        · rcases q3 with q | q
          · right; left; omega
          · by_cases c : s = 0
            · left; omega
            · right; right; rw [show (a + b) / 2 + m - 1 - (s - 1) = (a + b) / 2 + m - s by omega] at q; exact q
        · rcases q4 with q | q
          · right; left; omega
          · right; right; rw [show (a + b) / 2 + m - s - 1 = (a + b) / 2 + m - 1 - s by omega]; exact q
      · rw [decide_eq_false (by omega : ¬ (m : Int) > (((a + b) / 2 : Nat) : Int)), cond_false, show ((m : Int) - a).toNat = m - a by omega]
        obtain ⟨s, q1, q2, q3, q4, q5⟩ := find_mid (rec := rec) (D := D) (a := a) (m := m) (b := b) (lo := a) (hi := m) (cmp := cmp) (by omega) (by omega) (by omega) (by omega) _ _ _ (Nat.le_refl _) (Nat.le_refl _) (by omega) (Nat.le_refl _) (.inl rfl) (.inl rfl)
        refine ⟨s, (a + b) / 2 + m - s, (a + b) / 2, by omega, ?_, ?_, q5⟩
        · rcases q3 with q | q
          · left; exact q
          · by_cases c : s = 0
            · left; omega
            · right; right; rw [show (a + b) / 2 + m - 1 - (s - 1) = (a + b) / 2 + m - s by omega] at q; exact q
        · rcases q4 with q | q
          · left; exact q
          · right; right; rw [show (a + b) / 2 + m - s - 1 = (a + b) / 2 + m - 1 - s by omega]; exact q
theorem sym_perm {rec : List Int → Int → Int → Int → (Int → Int → Int) → List Int} {D : List Int} {a m b : Nat} {cmp : Int → Int → Int} (h : a < m ∧ m < b ∧ b ≤ D.length) (hL : D.length ≤ 1000000) (hrp : ∀ (d : List Int) (a' m' b' : Nat) (cmp : Int → Int → Int), a' < m' ∧ m' < b' ∧ b' ≤ d.length → d.length ≤ 1000000 → b' - a' < b - a → (rec d a' m' b' cmp).Perm d) : (symMergeB rec D a m b cmp).Perm D := by
  rcases sym_cases rec cmp h hL with ⟨h1, e, q1, q2, -, -, q5⟩ | ⟨h1, s, q1, q2, -, -, q5⟩ | ⟨s, e, mid, q1, -, -, q5⟩
  · rw [q5]; exact (up_loop (L := D.length) hL (by omega) _ a D rfl (by omega) rfl).1
  · rw [q5]; exact (down_loop (L := D.length) hL _ m D rfl (by omega) (by omega) rfl).1
  · rw [q5]
    unfold finish
    dsimp only
    have p1 : (bif decide ((s : Int) < m) && decide ((m : Int) < e) then rotate D s m e cmp else D).Perm D := by
      by_cases c : s < m ∧ m < e
      · rw [decide_eq_true (by omega : (s : Int) < m), decide_eq_true (by omega : (m : Int) < e)]; exact rotate_perm (by omega) hL
      · cases hc : (decide ((s : Int) < m) && decide ((m : Int) < e))
        · exact List.Perm.refl _
        · rw [Bool.and_eq_true, decide_eq_true_eq, decide_eq_true_eq] at hc; omega
    generalize (bif decide ((s : Int) < m) && decide ((m : Int) < e) then rotate D s m e cmp else D) = d1 at p1 ⊢
    have p2 : (bif decide ((a : Int) < s) && decide ((s : Int) < mid) then rec d1 a s mid cmp else d1).Perm D := by
      by_cases c : a < s ∧ s < mid
      · rw [decide_eq_true (by omega : (a : Int) < s), decide_eq_true (by omega : (s : Int) < mid)]; exact (hrp d1 a s mid cmp (by have := p1.length_eq; omega) (by rw [p1.length_eq]; exact hL) (by omega)).trans p1
      · cases hc : (decide ((a : Int) < s) && decide ((s : Int) < mid))
        · exact p1
        · rw [Bool.and_eq_true, decide_eq_true_eq, decide_eq_true_eq] at hc; omega
    generalize (bif decide ((a : Int) < s) && decide ((s : Int) < mid) then rec d1 a s mid cmp else d1) = d2 at p2 ⊢
    by_cases c : mid < e ∧ e < b
    · rw [decide_eq_true (by omega : (mid : Int) < e), decide_eq_true (by omega : (e : Int) < b)]; exact (hrp d2 mid e b cmp (by have := p2.length_eq; omega) (by rw [p2.length_eq]; exact hL) (by omega)).trans p2
    · cases hc : (decide ((mid : Int) < e) && decide ((e : Int) < b))
      · exact p2
      · rw [Bool.and_eq_true, decide_eq_true_eq, decide_eq_true_eq] at hc; omega
theorem perm_far {D R : List Int} (h : R.Perm D) {q : Nat} (hq : ¬ q < D.length) : gt R q = gt D q := by
  have := h.length_eq
  show R[q]! = D[q]!
  rw [getElem!_neg _ q (by omega), getElem!_neg _ q hq]
theorem fun_get {D R : List Int} {f : Nat → Int} (hp : R.Perm D) (h1 : ∀ q, q < D.length → R[q]! = f q) (h2 : ∀ q, ¬ q < D.length → f q = gt D q) : gt R = f := by
  funext q
  by_cases h : q < D.length
  · exact h1 q h
  · rw [h2 q h]; exact perm_far hp h
theorem sym_post {rec : List Int → Int → Int → Int → (Int → Int → Int) → List Int} {D : List Int} {a m b : Nat} {cmp : Int → Int → Int} (ok : LeOk cmp) (h : a < m ∧ m < b ∧ b ≤ D.length) (hL : D.length ≤ 1000000) (u : Srt cmp (gt D) a m) (v : Srt cmp (gt D) m b)
    (hrp : ∀ (d : List Int) (a' m' b' : Nat) (cmp : Int → Int → Int), a' < m' ∧ m' < b' ∧ b' ≤ d.length → d.length ≤ 1000000 → b' - a' < b - a → (rec d a' m' b' cmp).Perm d)
    (hrs : ∀ (d : List Int) (a' m' b' : Nat), a' < m' ∧ m' < b' ∧ b' ≤ d.length → d.length ≤ 1000000 → b' - a' < b - a → Srt cmp (gt d) a' m' → Srt cmp (gt d) m' b' → Post cmp a' b' (gt d) (gt (rec d a' m' b' cmp))) : Post cmp a b (gt D) (gt (symMergeB rec D a m b cmp)) := by
  rcases sym_cases rec cmp h hL with ⟨h1, e, q1, q2, q3, q4, q5⟩ | ⟨h1, s, q1, q2, q3, q4, q5⟩ | ⟨s, e, mid, q1, q3, q4, q5⟩
  · rw [q5]
    obtain ⟨p, g⟩ := up_loop (i := e) (L := D.length) hL (by omega) _ a D rfl (by omega) rfl
    rw [fun_get p g (fun q hq => by rw [rotf_out (by omega) (by omega)])]
    have sp := rot_split ok (f := gt D) (a := a) (s := a) (m := m) (e := e) (b := b) (by omega) u v (.inl rfl) (by
      rcases q3 with q | q
      · exact .inr (.inl q)
      · exact .inr (.inr (ok.lt q)))
    rw [show a + 1 = m by omega]
    refine Post.merge (s := a) (m := m) (e := e) (by omega) sp (Post.id sp.s2) (Post.id (sp.s3.join ok sp.s4 ?_))
    rcases q4 with q | q
    · exact .inr (.inl q)
    · right; right
      by_cases c : e = b
      · rw [rotf_hi (by omega), rotf_out (by omega) (by omega), show e - 1 - (e - m) = a by omega]; exact q
      · rw [rotf_hi (by omega), rotf_out (by omega) (by omega), show e - 1 - (e - m) = a by omega]; exact q
  · rw [q5]
    obtain ⟨p, g⟩ := down_loop (i := s) (L := D.length) hL _ m D rfl (by omega) (by omega) rfl
    rw [fun_get p g (fun q hq => by rw [rotf_out (by omega) (by omega)])]
    subst h1
    have sp := rot_split ok (f := gt D) (a := a) (s := s) (m := m) (e := m + 1) (b := m + 1) (by omega) u v (.inr (.inl rfl)) (by
      rcases q4 with q | q
      · exact .inl q
      · exact .inr (.inr (ok.lt q)))
    refine Post.merge (s := s) (m := m) (e := m + 1) (by omega) sp (Post.id (sp.s1.join ok sp.s2 ?_)) (Post.id sp.s3)
    rcases q3 with q | q
    · exact .inl q.symm
    · right; right
      by_cases c : s = 0
      · subst c
        rw [show rotf 0 m (m + 1) (gt D) (0 - 1) = rotf 0 m (m + 1) (gt D) 0 from rfl]; exact ok.refl _
      · rw [rotf_out (by omega) (by omega), rotf_lo (by omega), show s + (m - s) = m by omega]; exact q
  · rw [q5]
    unfold finish
    dsimp only
    obtain ⟨m1, m2, m3, m4, rfl, m6, m7⟩ := q1
    have sp := rot_split ok (f := gt D) (a := a) (s := s) (m := m) (e := e) (b := b) (by omega) u v q3 (by
      rcases q4 with q | q | q
      · exact .inl q
      · exact .inr (.inl q)
      · exact .inr (.inr (ok.lt q)))
    have p1 : (bif decide ((s : Int) < m) && decide ((m : Int) < e) then rotate D s m e cmp else D).Perm D ∧ gt (bif decide ((s : Int) < m) && decide ((m : Int) < e) then rotate D s m e cmp else D) = rotf s m e (gt D) := by
      by_cases c : s < m ∧ m < e
      · rw [decide_eq_true (by omega : (s : Int) < m), decide_eq_true (by omega : (m : Int) < e)]; exact ⟨rotate_perm (by omega) hL, funext fun q => rotate_get (by omega) hL q⟩
      · cases hc : (decide ((s : Int) < m) && decide ((m : Int) < e))
        · exact ⟨List.Perm.refl _, (rotf_none (by omega) (by omega)).symm⟩
        · rw [Bool.and_eq_true, decide_eq_true_eq, decide_eq_true_eq] at hc; omega
    generalize (bif decide ((s : Int) < m) && decide ((m : Int) < e) then rotate D s m e cmp else D) = d1 at p1 ⊢
    obtain ⟨p1, g1⟩ := p1
    rw [← g1] at sp
    have p2 : (bif decide ((a : Int) < s) && decide ((s : Int) < (s + (e - m) : Nat)) then rec d1 a s (s + (e - m) : Nat) cmp else d1).Perm D ∧ Post cmp a (s + (e - m)) (gt d1) (gt (bif decide ((a : Int) < s) && decide ((s : Int) < (s + (e - m) : Nat)) then rec d1 a s (s + (e - m) : Nat) cmp else d1)) := by
      by_cases c : a < s ∧ s < s + (e - m)
      · rw [decide_eq_true (by omega : (a : Int) < s), decide_eq_true (by omega : (s : Int) < (s + (e - m) : Nat))]
        exact ⟨(hrp d1 a s (s + (e - m)) cmp (by have := p1.length_eq; omega) (by rw [p1.length_eq]; exact hL) (by omega)).trans p1, hrs d1 a s (s + (e - m)) (by have := p1.length_eq; omega) (by rw [p1.length_eq]; exact hL) (by omega) sp.s1 sp.s2⟩
      · cases hc : (decide ((a : Int) < s) && decide ((s : Int) < (s + (e - m) : Nat)))
        · exact ⟨p1, Post.id (sp.s1.join ok sp.s2 (by omega))⟩
        · rw [Bool.and_eq_true, decide_eq_true_eq, decide_eq_true_eq] at hc; omega
    generalize (bif decide ((a : Int) < s) && decide ((s : Int) < (s + (e - m) : Nat)) then rec d1 a s (s + (e - m) : Nat) cmp else d1) = d2 at p2 ⊢
    obtain ⟨p2, g2⟩ := p2
    have t3 : Srt cmp (gt d2) (s + (e - m)) e := fun i j r1 r2 r3 => by rw [g2.1 i (by omega), g2.1 j (by omega)]; exact sp.s3 i j r1 r2 r3
    have t4 : Srt cmp (gt d2) e b := fun i j r1 r2 r3 => by rw [g2.1 i (by omega), g2.1 j (by omega)]; exact sp.s4 i j r1 r2 r3
    rw [g1] at sp g2
    refine Post.merge (s := s) (m := m) (e := e) (by omega) sp g2 ?_
    by_cases c : s + (e - m) < e ∧ e < b
    · rw [decide_eq_true (by omega : ((s + (e - m) : Nat) : Int) < e), decide_eq_true (by omega : (e : Int) < b)]
      exact hrs d2 (s + (e - m)) e b (by have := p2.length_eq; omega) (by rw [p2.length_eq]; exact hL) (by omega) t3 t4
    · cases hc : (decide (((s + (e - m) : Nat) : Int) < e) && decide ((e : Int) < b))
      · exact Post.id (t3.join ok t4 (by omega))
      · rw [Bool.and_eq_true, decide_eq_true_eq, decide_eq_true_eq] at hc; omega
def symMergeO : Nat → List Int → Int → Int → Int → (Int → Int → Int) → List Int
  | 0, d, _, _, _, _ => d
  | n + 1, d, a, m, b, cmp => symMergeB (symMergeO n) d a m b cmp
theorem symO_perm : ∀ (n : Nat) (d : List Int) (a m b : Nat) (cmp : Int → Int → Int), a < m ∧ m < b ∧ b ≤ d.length → d.length ≤ 1000000 → (symMergeO n d a m b cmp).Perm d
  | 0, _, _, _, _, _, _, _ => List.Perm.refl _
  | n + 1, _, _, _, _, _, h, hL => sym_perm h hL fun d a' m' b' cmp h' hL' _ => symO_perm n d a' m' b' cmp h' hL'
theorem symO_post {cmp : Int → Int → Int} (ok : LeOk cmp) : ∀ (n : Nat) (d : List Int) (a m b : Nat), a < m ∧ m < b ∧ b ≤ d.length → d.length ≤ 1000000 → b - a ≤ n → Srt cmp (gt d) a m → Srt cmp (gt d) m b → Post cmp a b (gt d) (gt (symMergeO n d a m b cmp))
  | 0, d, a, m, b, h, hL, hn, u, v => by omega
  | n + 1, d, a, m, b, h, hL, hn, u, v => sym_post ok h hL u v (fun d a' m' b' cmp h' hL' _ => symO_perm n d a' m' b' cmp h' hL') fun d a' m' b' h' hL' hlt u' v' => symO_post ok n d a' m' b' h' hL' (by omega) u' v'
theorem symO_calls {P_ : Int → Prop} : ∀ (n : Nat) (data : List Int) (a m b : Int) (cmp : Int → Int → Int) (g : Nat) (caps : List AV) (_ : ∀ (x0 : Int) (x1 : Int), P_ x0 → P_ x1 → PCalls Try.prog g ([.pv (.lit (.int .i64 x0)), .pv (.lit (.int .i64 x1))] ++ caps) (.pv (.lit (.int .i64 (cmp x0 x1))))) (_ : AV.withinL (fun _ => false) caps = true) (_ : 0 ≤ a ∧ a < m ∧ m < b ∧ b ≤ (data.length : Int)) (_ : data.length ≤ 1000000) (_ : ∀ x ∈ data, P_ x) (_ : b - a ≤ (n : Int)), MCalls Try.prog 63 [.sl 0 0 data.length 1 false, .pv (.lit (.int .i64 a)), .pv (.lit (.int .i64 m)), .pv (.lit (.int .i64 b)), .fn g [] caps] (.cells (encC (eI .i64) data)) (.tup []) (.cells (encC (eI .i64) (symMergeO n data a m b cmp)))
  | 0, _, _, _, _, _, _, _, _, _, h, _, _, hn => absurd hn (by omega)
  | n + 1, data, a, m, b, cmp, g, caps, hp, hw, h, hL, hs, hn =>
    symMergeB_calls (symMergeO n) data a m b cmp (fun d_ a_ m_ b_ cmp_ g_ caps_ hp_ hw_ h_ hlt hpm => symO_calls n d_ a_ m_ b_ cmp_ g_ caps_ hp_ hw_ (by rw [hpm.length_eq]; exact h_) (by rw [hpm.length_eq]; exact hL) (mem_perm hpm hs) (by omega)) g caps hp hw h hL hs (fun d_ a_ m_ b_ cmp_ h_ _ hpm => by
      obtain ⟨a', rfl⟩ := Int.eq_ofNat_of_zero_le h_.1
      obtain ⟨m', rfl⟩ := Int.eq_ofNat_of_zero_le (show 0 ≤ m_ by omega)
      obtain ⟨b', rfl⟩ := Int.eq_ofNat_of_zero_le (show 0 ≤ b_ by omega)
      exact (symO_perm n d_ a' m' b' cmp_ (by have := hpm.length_eq; omega) (by rw [hpm.length_eq]; exact hL)).trans hpm)
/-- What insertion keeps: all but place j is sorted, and what is above j is not below it. -/
def InsInv (cmp : Int → Int → Int) (a j hi : Nat) (f : Nat → Int) : Prop := (∀ p q, a ≤ p → p < q → q < hi → p ≠ j → q ≠ j → Lq cmp (f p) (f q)) ∧ ∀ q, j < q → q < hi → Lq cmp (f j) (f q)
theorem ins_l1 {cmp : Int → Int → Int} (ok : LeOk cmp) {a hi L : Nat} (hL : L ≤ 1000000) (hhi : hi ≤ L) (kk : Int → List Int → List Int) : ∀ (k j : Nat) (vc : List Int), j - a = k → a ≤ j → j < hi → vc.length = L → InsInv cmp a j hi (gt vc) → ∃ (j' : Int) (w : List Int), insSort_l1 a cmp kk (k + 1) j vc = kk j' w ∧ w.Perm vc ∧ (∀ q, ¬ (a ≤ q ∧ q < hi) → gt w q = gt vc q) ∧ Srt cmp (gt w) a hi
  | k, j, vc, hk, h1, h2, hv, hI => by
    unfold insSort_l1
    have fin : (j = a ∨ Lq cmp (gt vc (j - 1)) (gt vc j)) → Srt cmp (gt vc) a hi := fun hc p q r1 r2 r3 => by
      by_cases c1 : p = j
      · subst c1; exact hI.2 q r2 r3
      · by_cases c2 : q = j
        · subst c2
          rcases hc with hc | hc
          · omega
          · by_cases c3 : p = q - 1
            · subst c3; exact hc
            · exact ok.tr (hI.1 p (q - 1) r1 (by omega) (by omega) c1 (by omega)) hc
        · exact hI.1 p q r1 r2 r3 c1 c2
    by_cases h : a < j
    · rw [decide_eq_true (by omega : (j : Int) > a), cond_true, dn_nat (x := j) (by omega), Int.toNat_natCast, Int.toNat_natCast]
      obtain ⟨k, rfl⟩ : ∃ q, k = q + 1 := ⟨k - 1, by omega⟩
      by_cases c : cmp vc[j]! vc[j - 1]! < 0
      · rw [decide_eq_true c, cond_true]
        have hp : ((vc.set j vc[j - 1]!).set (j - 1) vc[j]!).Perm vc := swap_perm (by omega) (by omega)
        have hg : ∀ q, q < L → gt ((vc.set j vc[j - 1]!).set (j - 1) vc[j]!) q = if j - 1 = q then vc[j]! else if j = q then vc[j - 1]! else vc[q]! := fun q hq => swap_get (by omega)
        generalize ((vc.set j vc[j - 1]!).set (j - 1) vc[j]!) = w at hp hg ⊢
        have g1 : gt w (j - 1) = gt vc j := by rw [hg _ (by omega), if_pos rfl]
        have g2 : gt w j = gt vc (j - 1) := by rw [hg _ (by omega), if_neg (by omega), if_pos rfl]
        have g3 : ∀ q, q ≠ j → q ≠ j - 1 → gt w q = gt vc q := fun q r1 r2 => by
          by_cases hq : q < L
          · rw [hg _ hq, if_neg (by omega), if_neg (by omega)]
          · exact perm_far hp (by omega)
        have i1 : ∀ p q, a ≤ p → p < q → q < hi → p ≠ j - 1 → q ≠ j - 1 → Lq cmp (gt w p) (gt w q) := fun p q r1 r2 r3 r4 r5 => by
          by_cases c1 : p = j
          · subst c1; rw [g2, g3 q (by omega) r5]; exact hI.1 _ _ (by omega) (by omega) r3 (by omega) (by omega)
          · rw [g3 p c1 r4]
            by_cases c2 : q = j
            · subst c2; rw [g2]; exact hI.1 _ _ r1 (by omega) (by omega) c1 (by omega)
            · rw [g3 q c2 r5]; exact hI.1 p q r1 r2 r3 c1 c2
        have i2 : ∀ q, j - 1 < q → q < hi → Lq cmp (gt w (j - 1)) (gt w q) := fun q r1 r2 => by
          rw [g1]
          by_cases c2 : q = j
          · subst c2; rw [g2]; exact ok.lt c
          · rw [g3 q c2 (by omega)]; exact hI.2 q (by omega) r2
        obtain ⟨j', w', e, hp', ho, hs⟩ := ins_l1 ok (a := a) (hi := hi) hL hhi kk k (j - 1) w (by omega) (by omega) (by omega) (by rw [hp.length_eq]; exact hv) ⟨i1, i2⟩
        exact ⟨j', w', e, hp'.trans hp, fun q hq => by rw [ho q hq, g3 q (by omega) (by omega)], hs⟩
      · rw [decide_eq_false c, cond_false]
        exact ⟨_, _, rfl, List.Perm.refl _, fun _ _ => rfl, fin (.inr c)⟩
    · rw [decide_eq_false (by omega : ¬ (j : Int) > a), cond_false]
      exact ⟨_, _, rfl, List.Perm.refl _, fun _ _ => rfl, fin (.inl (by omega))⟩
theorem ins_l0 {cmp : Int → Int → Int} (ok : LeOk cmp) {a b L : Nat} (hL : L ≤ 1000000) (hb : b ≤ L) : ∀ (k i : Nat) (vc : List Int), b - i = k → a + 1 ≤ i → vc.length = L → Srt cmp (gt vc) a i → (insSort_l0 a b cmp (k + 1) i vc).Perm vc ∧ (∀ q, ¬ (a ≤ q ∧ q < b) → gt (insSort_l0 a b cmp (k + 1) i vc) q = gt vc q) ∧ Srt cmp (gt (insSort_l0 a b cmp (k + 1) i vc)) a b
  | k, i, vc, hk, hi, hv, hs => by
    unfold insSort_l0
    by_cases h : i < b
    · rw [decide_eq_true (by omega : (i : Int) < b), cond_true, show ((i : Int) - a).toNat = i - a by omega]
      obtain ⟨k, rfl⟩ : ∃ q, k = q + 1 := ⟨k - 1, by omega⟩
      obtain ⟨j', w, e, hp, ho, hw⟩ := ins_l1 ok (a := a) (hi := i + 1) hL (by omega) (fun _ vc1 => insSort_l0 a b cmp (k + 1) (IntKind.i64.wrap ((i : Int) + 1)) vc1) (i - a) i vc rfl (by omega) (by omega) hv ⟨fun p q r1 r2 r3 _ r5 => hs p q r1 r2 (by omega), fun q r1 r2 => absurd r2 (by omega)⟩
      rw [e, up_nat (by omega)]
      obtain ⟨p2, o2, s2⟩ := ins_l0 ok (a := a) hL hb k (i + 1) w (by omega) (by omega) (by rw [hp.length_eq]; exact hv) hw
      exact ⟨p2.trans hp, fun q hq => by rw [o2 q hq, ho q (by omega)], s2⟩
    · rw [decide_eq_false (by omega : ¬ (i : Int) < b), cond_false]
      exact ⟨List.Perm.refl _, fun _ _ => rfl, fun p q r1 r2 r3 => hs p q r1 r2 (by omega)⟩
theorem ins_sorts {cmp : Int → Int → Int} (ok : LeOk cmp) {a b : Nat} {data : List Int} (hL : data.length ≤ 1000000) (hb : a ≤ b ∧ b ≤ data.length) : (insSort data a b cmp).Perm data ∧ (∀ q, ¬ (a ≤ q ∧ q < b) → gt (insSort data a b cmp) q = gt data q) ∧ Srt cmp (gt (insSort data a b cmp)) a b := by
  unfold insSort
  rw [up_nat (by omega), show ((b : Int) - ((a + 1 : Nat) : Int)).toNat = b - (a + 1) by omega]
  exact ins_l0 ok hL hb.2 _ _ _ rfl (Nat.le_refl _) rfl (fun p q r1 r2 r3 => by omega)
theorem ins_permI {cmp : Int → Int → Int} {vc : List Int} {a b : Int} (ok : LeOk cmp) (h : 0 ≤ a ∧ a ≤ b ∧ b ≤ (vc.length : Int)) (hL : vc.length ≤ 1000000) : (insSort vc a b cmp).Perm vc := by
  obtain ⟨a', rfl⟩ := Int.eq_ofNat_of_zero_le h.1
  obtain ⟨b', rfl⟩ := Int.eq_ofNat_of_zero_le (show 0 ≤ b by omega)
  exact (ins_sorts ok hL (by omega)).1
theorem symO_permI {n : Nat} {cmp : Int → Int → Int} {vc : List Int} {a m b : Int} (h : 0 ≤ a ∧ a < m ∧ m < b ∧ b ≤ (vc.length : Int)) (hL : vc.length ≤ 1000000) : (symMergeO n vc a m b cmp).Perm vc := by
  obtain ⟨a', rfl⟩ := Int.eq_ofNat_of_zero_le h.1
  obtain ⟨m', rfl⟩ := Int.eq_ofNat_of_zero_le (show 0 ≤ m by omega)
  obtain ⟨b', rfl⟩ := Int.eq_ofNat_of_zero_le (show 0 ≤ b by omega)
  exact symO_perm _ _ _ _ _ _ (by omega) hL
end Go.Proofs.Ytaoagcdljmpllaa
namespace Go.Proofs.Ytaoagcdljmpllaa
open Go.Am
variable {P_ : Int → Prop}
def stableS_l2 (n : Int) (cmp : Int → Int → Int) (blockSize : Int) (kk : Int → Int → (List Int) → List Int) : Nat → Int → Int → (List Int) → List Int
  | 0, _, _, _ => default
  | nn + 1, a1, b1, vc2 => (bif (decide (b1 ≤ n)) then stableS_l2 n cmp blockSize kk nn b1 (IntKind.i64.wrap (b1 + (IntKind.i64.wrap (2 * blockSize)))) (symMergeO 24 vc2 a1 (IntKind.i64.wrap (a1 + blockSize)) b1 cmp) else kk a1 b1 vc2)
def stableS_l1 (n : Int) (cmp : Int → Int → Int) : Nat → Int → (List Int) → List Int
  | 0, _, _ => default
  | nn + 1, blockSize, vc1 => (bif (decide (blockSize < n)) then stableS_l2 n cmp blockSize (fun a1 _ vc2 => (bif (decide ((IntKind.i64.wrap (a1 + blockSize)) < n)) then stableS_l1 n cmp nn (IntKind.i64.wrap (blockSize * 2)) (symMergeO 24 vc2 a1 (IntKind.i64.wrap (a1 + blockSize)) n cmp) else stableS_l1 n cmp nn (IntKind.i64.wrap (blockSize * 2)) vc2)) ((n + 2 * blockSize - (IntKind.i64.wrap (2 * blockSize))).toNat + 1) 0 (IntKind.i64.wrap (2 * blockSize)) vc1 else vc1)
def stableS_l0 (n : Int) (cmp : Int → Int → Int) : Nat → Int → Int → (List Int) → List Int
  | 0, _, _, _ => default
  | nn + 1, a, b, vc => (bif (decide (b ≤ n)) then stableS_l0 n cmp nn b (IntKind.i64.wrap (b + 20)) (insSort vc a b cmp) else stableS_l1 n cmp ((((40 : Int) - 20) / 20).toNat + 1) 20 (insSort vc a n cmp))
def stableS (data : List Int) (n : Int) (cmp : Int → Int → Int) : List Int :=
  stableS_l0 n cmp ((n + 20 - 20).toNat + 1) 0 20 data
theorem stableS_calls (data : List Int) (n : Int) (cmp : Int → Int → Int) (g2 : Nat) (caps2 : List AV) (hp2 : ∀ (x0 : Int) (x1 : Int), P_ x0 → P_ x1 → PCalls Try.prog g2 ([.pv (.lit (.int .i64 x0)), .pv (.lit (.int .i64 x1))] ++ caps2) (.pv (.lit (.int .i64 (cmp x0 x1))))) (hw2 : AV.withinL (fun _ => false) caps2 = true) (hn : n = (data.length : Int)) (h24 : data.length ≤ 24) (hs : ∀ x ∈ data, P_ x) (ok : LeOk cmp) : MCalls Try.prog 61 [.sl 0 0 data.length 1 false, .pv (.lit (.int .i64 n)), .fn g2 [] caps2] (.cells (encC (eI .i64) data)) (.tup []) (.cells (encC (eI .i64) (stableS data n cmp))) := by
 generalize hR : stableS data n cmp = R
 refine MCalls.of_body tabOk Try.func61 rfl rfl rfl (by simp [AV.withinL, AV.within, withinL0 hw2]) rfl (encC_within _ _) (encC_within _ _) mixed fun E hP C hI => ?_
 refine Awp.consP C ?_
 refine rvP C (.pv (.lit (.int .i64 20))) ?_
 refine rvc_nil ?_
 refine Awp.consP C ?_
 refine rvP C (.pv (.lit (.int .i64 20))) ?_
 refine rvP C (.pv (.lit (.int .i64 0))) ?_
 refine rvP C (.pv (.lit (.int .i64 20))) ?_
 refine rvc_nil ?_
 refine Awp.seq ?_
 refine Awp.block ?_
 refine Awp.forM (σ := Int × Int × ((List Int))) (fun v => [(0, .sl 0 0 data.length 1 false), (1, .pv (.lit (.int .i64 n))), (2, .fn g2 [] caps2), (6, .pv (.lit (.int .i64 20))), (7, .pv (.lit (.int .i64 v.1))), (8, .pv (.lit (.int .i64 v.2.1)))]) (fun v => [(0, .cells (encC (eI .i64) v.2.2))]) [0] (fun m__ v => (n + 20 - v.2.1).toNat ≤ m__ ∧ stableS_l0 n cmp (m__ + 1) v.1 v.2.1 v.2.2 = R ∧ ((0 ≤ v.1 ∧ v.1 ≤ n ∧ v.1 + 20 = v.2.1) ∧ v.2.2.Perm data)) ((n + 20 - 20).toNat) (0, 20, data) ?_ ?_ (fun n_ v h1 => ?_)
 · exact ⟨Nat.le_refl _, hR, ⟨(by dsimp only; omega), List.Perm.refl _⟩⟩
 · exact ⟨fun b => b, WeakerR.ofLI (I := [0]) (Ks := [0]) hI ⟨⟨rfl, rfl⟩, ⟨rfl, rfl⟩, ⟨fn_to rfl hw2, fn_win hw2⟩, ⟨rfl, rfl⟩, ⟨rfl, rfl⟩, ⟨rfl, rfl⟩, trivial⟩ (okH_list rfl rfl rfl (okH_nil)) rfl rfl⟩
 obtain ⟨a, b, vc⟩ := v
 obtain ⟨hm_, hR, ⟨hVa, hVp⟩⟩ := h1
 replace hm_ : (n + 20 - b).toNat ≤ n_ := hm_
 replace hVa : 0 ≤ a ∧ a ≤ n ∧ a + 20 = b := hVa
 replace hVp : vc.Perm data := hVp
 refine Awp.seq ?_
 refine Awp.consP C ?_
 refine rvP C (.pv (.lit (.int .i64 b))) ?_
 refine rvP C (.pv (.lit (.int .i64 n))) ?_
 refine rvP C (.pv (.lit (.bool (decide (b ≤ n))))) ?_
 refine rvc_nil ?_
 refine Awp.cond (b := (decide (b ≤ n))) rfl (fun h3 => ?_) (fun h3 => ?_)
 ·
  replace hR := of_true h3 hR
  refine Awp.skip ?_
  refine Awp.block ?_
  refine Awp.cons C (fun _ => .writer) (by kernel_rfl) ?_
  refine rvP C (.sl 0 0 data.length 1 false) ?_
  refine rvP C (.pv (.lit (.int .i64 a))) ?_
  refine rvP C (.pv (.lit (.int .i64 b))) ?_
  refine rvP C (.fn g2 [] caps2) ?_
  refine rvc_un (rexec_callM hP C (b := 0) rfl rfl rfl (insSort_calls vc a b cmp g2 caps2 hp2 hw2 (by have hn_ := hVp.length_eq; have hl_ := of_decide_eq_true ‹decide (b ≤ n) = true›; omega) (by have hn_ := hVp.length_eq; omega) (mem_perm hVp hs)) (by have hl_ : vc.length = data.length := (by first | exact hYp.length_eq | exact hVp.length_eq); simp only [AV.renL, AV.ren, hl_, AV.renL_none _ hw2]) rfl ?_)
  refine rvc_nil ?_
  refine Awp.consP C ?_
  refine rvP C (.pv (.lit (.int .i64 b))) ?_
  refine rvP C (.pv (.lit (.int .i64 b))) ?_
  refine rvc_nil ?_
  refine Awp.regionP C ?_
  refine rvP C (.pv (.lit (.int .i64 b))) ?_
  refine rvP C (.pv (.lit (.int .i64 20))) ?_
  refine rvP C (.pv (.lit (.int .i64 (IntKind.i64.wrap (b + 20))))) ?_
  refine rvP C (.pv (.lit (.int .i64 (IntKind.i64.wrap (b + 20))))) ?_
  refine rvc_nil ?_
  have h4 : (n + 20 - (IntKind.i64.wrap (b + 20))).toNat < (n + 20 - b).toNat := by (have hw_ := wrapI (b + 20) (by omega); have hl_ := of_decide_eq_true ‹decide (b ≤ n) = true›; omega)
  obtain ⟨nn, rfl⟩ : ∃ nn, n_ = nn + 1 := ⟨n_ - 1, by omega⟩
  refine ⟨nn, (b, (IntKind.i64.wrap (b + 20)), (insSort vc a b cmp)), by omega, ⟨by show (n + 20 - (IntKind.i64.wrap (b + 20))).toNat ≤ nn; omega, hR, (by have h_ := ins_permI (vc := vc) (a := a) (b := b) ok (by have hn_ := hVp.length_eq; have hl_ := of_decide_eq_true ‹decide (b ≤ n) = true›; omega) (by have hn_ := hVp.length_eq; omega); exact ⟨(by dsimp only; have hw_ := wrapI (b + 20) (by omega); have hl_ := of_decide_eq_true ‹decide (b ≤ n) = true›; omega), h_.trans hVp⟩)⟩, ?_⟩
  · exact ⟨fun b => b, WeakerR.ofLI (I := [0]) (Ks := [0]) hI ⟨⟨rfl, rfl⟩, ⟨rfl, rfl⟩, ⟨fn_to rfl hw2, fn_win hw2⟩, ⟨rfl, rfl⟩, ⟨rfl, rfl⟩, ⟨rfl, rfl⟩, trivial⟩ (okH_list rfl rfl rfl (okH_nil)) rfl rfl⟩
 ·
  replace hR := of_false h3 hR
  refine Awp.exit ?_
  refine Awp.cons C (fun _ => .writer) (by kernel_rfl) ?_
  refine rvP C (.sl 0 0 data.length 1 false) ?_
  refine rvP C (.pv (.lit (.int .i64 a))) ?_
  refine rvP C (.pv (.lit (.int .i64 n))) ?_
  refine rvP C (.fn g2 [] caps2) ?_
  refine rvc_un (rexec_callM hP C (b := 0) rfl rfl rfl (insSort_calls vc a n cmp g2 caps2 hp2 hw2 (by have hn_ := hVp.length_eq; omega) (by have hn_ := hVp.length_eq; omega) (mem_perm hVp hs)) (by have hl_ : vc.length = data.length := (by first | exact hYp.length_eq | exact hVp.length_eq); simp only [AV.renL, AV.ren, hl_, AV.renL_none _ hw2]) rfl ?_)
  refine rvc_nil ?_
  refine Awp.block ?_
  refine Awp.forM (σ := Int × ((List Int))) (fun v => [(0, .sl 0 0 data.length 1 false), (1, .pv (.lit (.int .i64 n))), (2, .fn g2 [] caps2), (6, .pv (.lit (.int .i64 v.1)))]) (fun v => [(0, .cells (encC (eI .i64) v.2))]) [0] (fun m__ v => m__ = (((40 : Int) - v.1) / 20).toNat ∧ stableS_l1 n cmp ((((40 : Int) - v.1) / 20).toNat + 1) v.1 v.2 = R ∧ ((v.1 = 20 ∨ v.1 = 40) ∧ v.2.Perm data)) ((((40 : Int) - 20) / 20).toNat) (20, (insSort vc a n cmp)) ?_ ?_ (fun _ v h5 => ?_)
  · exact ⟨rfl, hR, ⟨(by dsimp only; omega), (by have h_ := ins_permI (vc := vc) (a := a) (b := n) ok (by have hn_ := hVp.length_eq; omega) (by have hn_ := hVp.length_eq; omega); exact h_.trans hVp)⟩⟩
  · exact ⟨fun b => b, WeakerR.ofLI (I := [0]) (Ks := [0]) hI ⟨⟨rfl, rfl⟩, ⟨rfl, rfl⟩, ⟨fn_to rfl hw2, fn_win hw2⟩, ⟨rfl, rfl⟩, trivial⟩ (okH_list rfl rfl rfl (okH_nil)) rfl rfl⟩
  obtain ⟨blockSize, vc1⟩ := v
  obtain ⟨rfl, hR, ⟨hXa, hXp⟩⟩ := h5
  replace hXa : blockSize = 20 ∨ blockSize = 40 := hXa
  replace hXp : vc1.Perm data := hXp
  refine Awp.seq ?_
  refine Awp.consP C ?_
  refine rvP C (.pv (.lit (.int .i64 blockSize))) ?_
  refine rvP C (.pv (.lit (.int .i64 n))) ?_
  refine rvP C (.pv (.lit (.bool (decide (blockSize < n))))) ?_
  refine rvc_nil ?_
  refine Awp.cond (b := (decide (blockSize < n))) rfl (fun h7 => ?_) (fun h7 => ?_)
  ·
   replace hR := of_true h7 hR
   refine Awp.skip ?_
   refine Awp.block ?_
   refine Awp.consP C ?_
   refine rvP C (.pv (.lit (.int .i64 blockSize))) ?_
   refine rvP C (.pv (.lit (.int .i64 (IntKind.i64.wrap (2 * blockSize))))) ?_
   refine rvP C (.pv (.lit (.int .i64 0))) ?_
   refine rvP C (.pv (.lit (.int .i64 (IntKind.i64.wrap (2 * blockSize))))) ?_
   refine rvc_nil ?_
   refine Awp.seq ?_
   refine Awp.block ?_
   refine Awp.forM (σ := Int × Int × ((List Int))) (fun v => [(0, .sl 0 0 data.length 1 false), (1, .pv (.lit (.int .i64 n))), (2, .fn g2 [] caps2), (6, .pv (.lit (.int .i64 blockSize))), (7, .pv (.lit (.int .i64 v.1))), (8, .pv (.lit (.int .i64 v.2.1)))]) (fun v => [(0, .cells (encC (eI .i64) v.2.2))]) [0] (fun m__ v => (n + 2 * blockSize - v.2.1).toNat ≤ m__ ∧ stableS_l2 n cmp blockSize (fun a1 _ vc2 => (bif (decide ((IntKind.i64.wrap (a1 + blockSize)) < n)) then stableS_l1 n cmp ((((40 : Int) - blockSize) / 20).toNat) (IntKind.i64.wrap (blockSize * 2)) (symMergeO 24 vc2 a1 (IntKind.i64.wrap (a1 + blockSize)) n cmp) else stableS_l1 n cmp ((((40 : Int) - blockSize) / 20).toNat) (IntKind.i64.wrap (blockSize * 2)) vc2)) (m__ + 1) v.1 v.2.1 v.2.2 = R ∧ ((0 ≤ v.1 ∧ v.1 ≤ n ∧ v.1 + 2 * blockSize = v.2.1) ∧ v.2.2.Perm data)) ((n + 2 * blockSize - (IntKind.i64.wrap (2 * blockSize))).toNat) (0, (IntKind.i64.wrap (2 * blockSize)), vc1) ?_ ?_ (fun n_ v h8 => ?_)
   · exact ⟨Nat.le_refl _, hR, ⟨(by dsimp only; have hl_ := of_decide_eq_true ‹decide (blockSize < n) = true›; have hw_ := wrapI (2 * blockSize) (by omega); omega), hXp⟩⟩
   · exact ⟨fun b => b, WeakerR.ofLI (I := [0]) (Ks := [0]) hI ⟨⟨rfl, rfl⟩, ⟨rfl, rfl⟩, ⟨fn_to rfl hw2, fn_win hw2⟩, ⟨rfl, rfl⟩, ⟨rfl, rfl⟩, ⟨rfl, rfl⟩, trivial⟩ (okH_list rfl rfl rfl (okH_nil)) rfl rfl⟩
   obtain ⟨a1, b1, vc2⟩ := v
   obtain ⟨hm_, hR, ⟨hYa, hYp⟩⟩ := h8
   replace hm_ : (n + 2 * blockSize - b1).toNat ≤ n_ := hm_
   replace hYa : 0 ≤ a1 ∧ a1 ≤ n ∧ a1 + 2 * blockSize = b1 := hYa
   replace hYp : vc2.Perm data := hYp
   refine Awp.seq ?_
   refine Awp.consP C ?_
   refine rvP C (.pv (.lit (.int .i64 b1))) ?_
   refine rvP C (.pv (.lit (.int .i64 n))) ?_
   refine rvP C (.pv (.lit (.bool (decide (b1 ≤ n))))) ?_
   refine rvc_nil ?_
   refine Awp.cond (b := (decide (b1 ≤ n))) rfl (fun h10 => ?_) (fun h10 => ?_)
   ·
    replace hR := of_true h10 hR
    refine Awp.skip ?_
    refine Awp.block ?_
    refine Awp.cons C (fun _ => .writer) (by kernel_rfl) ?_
    refine rvP C (.sl 0 0 data.length 1 false) ?_
    refine rvP C (.pv (.lit (.int .i64 a1))) ?_
    refine rvP C (.pv (.lit (.int .i64 a1))) ?_
    refine rvP C (.pv (.lit (.int .i64 blockSize))) ?_
    refine rvP C (.pv (.lit (.int .i64 (IntKind.i64.wrap (a1 + blockSize))))) ?_
    refine rvP C (.pv (.lit (.int .i64 b1))) ?_
    refine rvP C (.fn g2 [] caps2) ?_
    refine rvc_un (rexec_callM hP C (b := 0) rfl rfl rfl (symO_calls 24 vc2 a1 (IntKind.i64.wrap (a1 + blockSize)) b1 cmp g2 caps2 hp2 hw2 (by have hn_ := hYp.length_eq; have hl_ := of_decide_eq_true ‹decide (blockSize < n) = true›; have hw_ := wrapI (a1 + blockSize) (by omega); have hm_ := of_decide_eq_true ‹decide (b1 ≤ n) = true›; have hw1_ := wrapI (2 * blockSize) (by omega); have hw2_ := wrapI (b1 + IntKind.i64.wrap (2 * blockSize)) (by omega); omega) (by have hn_ := hYp.length_eq; omega) (mem_perm hYp hs) (by have hl_ := of_decide_eq_true ‹decide (blockSize < n) = true›; have hw_ := wrapI (a1 + blockSize) (by omega); have hm_ := of_decide_eq_true ‹decide (b1 ≤ n) = true›; have hw1_ := wrapI (2 * blockSize) (by omega); have hw2_ := wrapI (b1 + IntKind.i64.wrap (2 * blockSize)) (by omega); omega)) (by have hl_ : vc2.length = data.length := (by first | exact hYp.length_eq | exact hVp.length_eq); simp only [AV.renL, AV.ren, hl_, AV.renL_none _ hw2]) rfl ?_)
    refine rvc_nil ?_
    refine Awp.consP C ?_
    refine rvP C (.pv (.lit (.int .i64 b1))) ?_
    refine rvP C (.pv (.lit (.int .i64 b1))) ?_
    refine rvc_nil ?_
    refine Awp.regionP C ?_
    refine rvP C (.pv (.lit (.int .i64 b1))) ?_
    refine rvP C (.pv (.lit (.int .i64 blockSize))) ?_
    refine rvP C (.pv (.lit (.int .i64 (IntKind.i64.wrap (2 * blockSize))))) ?_
    refine rvP C (.pv (.lit (.int .i64 (IntKind.i64.wrap (b1 + (IntKind.i64.wrap (2 * blockSize))))))) ?_
    refine rvP C (.pv (.lit (.int .i64 (IntKind.i64.wrap (b1 + (IntKind.i64.wrap (2 * blockSize))))))) ?_
    refine rvc_nil ?_
    have h11 : (n + 2 * blockSize - (IntKind.i64.wrap (b1 + (IntKind.i64.wrap (2 * blockSize))))).toNat < (n + 2 * blockSize - b1).toNat := by (have hl_ := of_decide_eq_true ‹decide (blockSize < n) = true›; have hw_ := wrapI (a1 + blockSize) (by omega); have hm_ := of_decide_eq_true ‹decide (b1 ≤ n) = true›; have hw1_ := wrapI (2 * blockSize) (by omega); have hw2_ := wrapI (b1 + IntKind.i64.wrap (2 * blockSize)) (by omega); omega)
    obtain ⟨nn, rfl⟩ : ∃ nn, n_ = nn + 1 := ⟨n_ - 1, by omega⟩
    refine ⟨nn, (b1, (IntKind.i64.wrap (b1 + (IntKind.i64.wrap (2 * blockSize)))), (symMergeO 24 vc2 a1 (IntKind.i64.wrap (a1 + blockSize)) b1 cmp)), by omega, ⟨by show (n + 2 * blockSize - (IntKind.i64.wrap (b1 + (IntKind.i64.wrap (2 * blockSize))))).toNat ≤ nn; omega, hR, (by have h_ := symO_permI (n := 24) (vc := vc2) (a := a1) (m := IntKind.i64.wrap (a1 + blockSize)) (b := b1) (cmp := cmp) (by have hn_ := hYp.length_eq; have hl_ := of_decide_eq_true ‹decide (blockSize < n) = true›; have hw_ := wrapI (a1 + blockSize) (by omega); have hm_ := of_decide_eq_true ‹decide (b1 ≤ n) = true›; have hw1_ := wrapI (2 * blockSize) (by omega); have hw2_ := wrapI (b1 + IntKind.i64.wrap (2 * blockSize)) (by omega); omega) (by have hn_ := hYp.length_eq; omega); exact ⟨(by dsimp only; have hl_ := of_decide_eq_true ‹decide (blockSize < n) = true›; have hw_ := wrapI (a1 + blockSize) (by omega); have hm_ := of_decide_eq_true ‹decide (b1 ≤ n) = true›; have hw1_ := wrapI (2 * blockSize) (by omega); have hw2_ := wrapI (b1 + IntKind.i64.wrap (2 * blockSize)) (by omega); omega), h_.trans hYp⟩)⟩, ?_⟩
    · exact ⟨fun b => b, WeakerR.ofLI (I := [0]) (Ks := [0]) hI ⟨⟨rfl, rfl⟩, ⟨rfl, rfl⟩, ⟨fn_to rfl hw2, fn_win hw2⟩, ⟨rfl, rfl⟩, ⟨rfl, rfl⟩, ⟨rfl, rfl⟩, trivial⟩ (okH_list rfl rfl rfl (okH_nil)) rfl rfl⟩
   ·
    replace hR := of_false h10 hR
    refine Awp.exit ?_
    refine Awp.seq ?_
    refine Awp.consP C ?_
    refine rvP C (.pv (.lit (.int .i64 a1))) ?_
    refine rvP C (.pv (.lit (.int .i64 blockSize))) ?_
    refine rvP C (.pv (.lit (.int .i64 (IntKind.i64.wrap (a1 + blockSize))))) ?_
    refine rvP C (.pv (.lit (.int .i64 (IntKind.i64.wrap (a1 + blockSize))))) ?_
    refine rvc_nil ?_
    refine Awp.consP C ?_
    refine rvP C (.pv (.lit (.int .i64 (IntKind.i64.wrap (a1 + blockSize))))) ?_
    refine rvP C (.pv (.lit (.int .i64 n))) ?_
    refine rvP C (.pv (.lit (.bool (decide ((IntKind.i64.wrap (a1 + blockSize)) < n))))) ?_
    refine rvc_nil ?_
    refine Awp.cond (b := (decide ((IntKind.i64.wrap (a1 + blockSize)) < n))) rfl (fun h12 => ?_) (fun h12 => ?_)
    ·
     replace hR := of_true h12 hR
     refine Awp.region C (fun _ => .writer) (by kernel_rfl) ?_
     refine rvP C (.sl 0 0 data.length 1 false) ?_
     refine rvP C (.pv (.lit (.int .i64 a1))) ?_
     refine rvP C (.pv (.lit (.int .i64 (IntKind.i64.wrap (a1 + blockSize))))) ?_
     refine rvP C (.pv (.lit (.int .i64 n))) ?_
     refine rvP C (.fn g2 [] caps2) ?_
     refine rvc_un (rexec_callM hP C (b := 0) rfl rfl rfl (symO_calls 24 vc2 a1 (IntKind.i64.wrap (a1 + blockSize)) n cmp g2 caps2 hp2 hw2 (by have hn_ := hYp.length_eq; have hl_ := of_decide_eq_true ‹decide (blockSize < n) = true›; have hw_ := wrapI (a1 + blockSize) (by omega); have hm_ := of_decide_eq_true ‹decide (IntKind.i64.wrap (a1 + blockSize) < n) = true›; omega) (by have hn_ := hYp.length_eq; omega) (mem_perm hYp hs) (by omega)) (by have hl_ : vc2.length = data.length := (by first | exact hYp.length_eq | exact hVp.length_eq); simp only [AV.renL, AV.ren, hl_, AV.renL_none _ hw2]) rfl ?_)
     refine rvc_nil ?_
     refine Awp.regionP C ?_
     refine rvP C (.pv (.lit (.int .i64 blockSize))) ?_
     refine rvP C (.pv (.lit (.int .i64 (IntKind.i64.wrap (blockSize * 2))))) ?_
     refine rvP C (.pv (.lit (.int .i64 (IntKind.i64.wrap (blockSize * 2))))) ?_
     refine rvc_nil ?_
     refine ⟨_, ((IntKind.i64.wrap (blockSize * 2)), (symMergeO 24 vc2 a1 (IntKind.i64.wrap (a1 + blockSize)) n cmp)), ?_, ⟨rfl, (by rw [show ((((40 : Int) - (IntKind.i64.wrap (blockSize * 2))) / 20).toNat) + 1 = ((((40 : Int) - blockSize) / 20).toNat) by (have hl_ := of_decide_eq_true ‹decide (blockSize < n) = true›; have hw_ := wrapI (blockSize * 2) (by omega); omega)]; exact hR), (by first | (have h_ := symO_permI (n := 24) (vc := vc2) (a := a1) (m := IntKind.i64.wrap (a1 + blockSize)) (b := n) (cmp := cmp) (by have hn_ := hYp.length_eq; have hl_ := of_decide_eq_true ‹decide (blockSize < n) = true›; have hw_ := wrapI (a1 + blockSize) (by omega); have hm_ := of_decide_eq_true ‹decide (IntKind.i64.wrap (a1 + blockSize) < n) = true›; omega) (by have hn_ := hYp.length_eq; omega); exact ⟨(by dsimp only; have hl_ := of_decide_eq_true ‹decide (blockSize < n) = true›; have hw_ := wrapI (blockSize * 2) (by omega); omega), h_.trans hYp⟩) | exact ⟨(by dsimp only; have hl_ := of_decide_eq_true ‹decide (blockSize < n) = true›; have hw_ := wrapI (blockSize * 2) (by omega); omega), hYp⟩)⟩, ?_⟩
     · show (((40 : Int) - (IntKind.i64.wrap (blockSize * 2))) / 20).toNat < (((40 : Int) - blockSize) / 20).toNat; (have hl_ := of_decide_eq_true ‹decide (blockSize < n) = true›; have hw_ := wrapI (blockSize * 2) (by omega); omega)
     · exact ⟨fun b => b, WeakerR.ofLI (I := [0]) (Ks := [0]) hI ⟨⟨rfl, rfl⟩, ⟨rfl, rfl⟩, ⟨fn_to rfl hw2, fn_win hw2⟩, ⟨rfl, rfl⟩, trivial⟩ (okH_list rfl rfl rfl (okH_nil)) rfl rfl⟩
    ·
     replace hR := of_false h12 hR
     refine Awp.skip ?_
     refine Awp.regionP C ?_
     refine rvP C (.pv (.lit (.int .i64 blockSize))) ?_
     refine rvP C (.pv (.lit (.int .i64 (IntKind.i64.wrap (blockSize * 2))))) ?_
     refine rvP C (.pv (.lit (.int .i64 (IntKind.i64.wrap (blockSize * 2))))) ?_
     refine rvc_nil ?_
     refine ⟨_, ((IntKind.i64.wrap (blockSize * 2)), vc2), ?_, ⟨rfl, (by rw [show ((((40 : Int) - (IntKind.i64.wrap (blockSize * 2))) / 20).toNat) + 1 = ((((40 : Int) - blockSize) / 20).toNat) by (have hl_ := of_decide_eq_true ‹decide (blockSize < n) = true›; have hw_ := wrapI (blockSize * 2) (by omega); omega)]; exact hR), (by first | (have h_ := symO_permI (n := 24) (vc := vc2) (a := a1) (m := IntKind.i64.wrap (a1 + blockSize)) (b := n) (cmp := cmp) (by have hn_ := hYp.length_eq; have hl_ := of_decide_eq_true ‹decide (blockSize < n) = true›; have hw_ := wrapI (a1 + blockSize) (by omega); have hm_ := of_decide_eq_true ‹decide (IntKind.i64.wrap (a1 + blockSize) < n) = true›; omega) (by have hn_ := hYp.length_eq; omega); exact ⟨(by dsimp only; have hl_ := of_decide_eq_true ‹decide (blockSize < n) = true›; have hw_ := wrapI (blockSize * 2) (by omega); omega), h_.trans hYp⟩) | exact ⟨(by dsimp only; have hl_ := of_decide_eq_true ‹decide (blockSize < n) = true›; have hw_ := wrapI (blockSize * 2) (by omega); omega), hYp⟩)⟩, ?_⟩
     · show (((40 : Int) - (IntKind.i64.wrap (blockSize * 2))) / 20).toNat < (((40 : Int) - blockSize) / 20).toNat; (have hl_ := of_decide_eq_true ‹decide (blockSize < n) = true›; have hw_ := wrapI (blockSize * 2) (by omega); omega)
     · exact ⟨fun b => b, WeakerR.ofLI (I := [0]) (Ks := [0]) hI ⟨⟨rfl, rfl⟩, ⟨rfl, rfl⟩, ⟨fn_to rfl hw2, fn_win hw2⟩, ⟨rfl, rfl⟩, trivial⟩ (okH_list rfl rfl rfl (okH_nil)) rfl rfl⟩
  ·
   replace hR := of_false h7 hR
   refine Awp.exit ?_
   subst hR
   exact ⟨.inr rfl, rfl, rfl⟩
def sortStable (x : List Int) (cmp : Int → Int → Int) : List Int :=
  (stableS x (x.length : Int) cmp)
theorem sortStable_calls (x : List Int) (cmp : Int → Int → Int) (g1 : Nat) (caps1 : List AV) (hp1 : ∀ (x0 : Int) (x1 : Int), P_ x0 → P_ x1 → PCalls Try.prog g1 ([.pv (.lit (.int .i64 x0)), .pv (.lit (.int .i64 x1))] ++ caps1) (.pv (.lit (.int .i64 (cmp x0 x1))))) (hw1 : AV.withinL (fun _ => false) caps1 = true) (h24 : x.length ≤ 24) (hs : ∀ y ∈ x, P_ y) (ok : LeOk cmp) : MCalls Try.prog 54 [.sl 0 0 x.length 1 false, .fn g1 [] caps1] (.cells (encC (eI .i64) x)) (.tup []) (.cells (encC (eI .i64) (sortStable x cmp))) := by
 generalize hR : sortStable x cmp = R
 refine MCalls.of_body tabOk Try.func54 rfl rfl rfl (by simp [AV.withinL, AV.within, withinL0 hw1]) rfl (encC_within _ _) (encC_within _ _) mixed fun E hP C hI => ?_
 refine Awp.region C (fun _ => .writer) (by kernel_rfl) ?_
 refine rvP C (.sl 0 0 x.length 1 false) ?_
 refine rvP C (.sl 0 0 x.length 1 false) ?_
 refine rvP C (.pv (.lit (.int .i64 (x.length : Int)))) ?_
 refine rvP C (.fn g1 [] caps1) ?_
 refine rvc_un (rexec_callM hP C (b := 0) rfl rfl rfl (stableS_calls x (x.length : Int) cmp g1 caps1 hp1 hw1 rfl h24 hs ok) (by simp only [AV.renL, AV.ren, AV.renL_none _ hw1]) rfl ?_)
 refine rvc_nil ?_
 subst hR
 exact ⟨.inr rfl, rfl, rfl⟩
end Go.Proofs.Ytaoagcdljmpllaa
namespace Go.Proofs.Ytaoagcdljmpllaa
open Go.Am
theorem stable_sorts {cmp : Int → Int → Int} (ok : LeOk cmp) {data : List Int} (h : data.length ≤ 24) : (stableS data data.length cmp).Perm data ∧ Srt cmp (gt (stableS data data.length cmp)) 0 data.length := by
  unfold stableS
  rw [show (((data.length : Int) + 20 - 20).toNat) = data.length by omega]
  unfold stableS_l0
  by_cases h1 : 20 ≤ data.length
  · rw [decide_eq_true (by omega : (20 : Int) ≤ (data.length : Int)), cond_true]
    obtain ⟨k, hk⟩ : ∃ k, data.length = k + 1 := ⟨data.length - 1, by omega⟩
    obtain ⟨p1, o1, s1⟩ := ins_sorts ok (a := 0) (b := 20) (data := data) (by omega) (by omega)
    rw [show ((20 : Nat) : Int) = 20 from rfl, show ((0 : Nat) : Int) = 0 from rfl] at p1 o1 s1
    rw [show IntKind.i64.wrap (20 + 20) = 40 by decide]
    generalize insSort data 0 20 cmp = w at p1 o1 s1 ⊢
    have hw := p1.length_eq
    obtain ⟨p2, o2, s2⟩ := ins_sorts ok (a := 20) (b := data.length) (data := w) (by omega) (by omega)
    rw [show ((20 : Nat) : Int) = 20 from rfl] at p2 o2 s2
    have e1 : stableS_l0 (data.length : Int) cmp data.length 20 40 w = stableS_l1 (data.length : Int) cmp (((40 : Int) - 20) / 20).toNat.succ 20 (insSort w 20 data.length cmp) := by
      conv => lhs; rw [show stableS_l0 (data.length : Int) cmp data.length 20 40 w = stableS_l0 (data.length : Int) cmp (k + 1) 20 40 w by rw [← hk]]; unfold stableS_l0
      rw [decide_eq_false (by omega : ¬ (40 : Int) ≤ (data.length : Int)), cond_false]
    rw [e1]
    generalize insSort w 20 data.length cmp = v at p2 o2 s2 ⊢
    have hv := p2.length_eq
    have t1 : Srt cmp (gt v) 0 20 := fun p q r1 r2 r3 => by rw [o2 p (by omega), o2 q (by omega)]; exact s1 p q r1 r2 r3
    unfold stableS_l1
    by_cases h2 : data.length = 20
    · rw [decide_eq_false (by omega : ¬ (20 : Int) < (data.length : Int)), cond_false]
      exact ⟨p2.trans p1, by rw [h2]; exact t1⟩
    · rw [decide_eq_true (by omega : (20 : Int) < (data.length : Int)), cond_true, show IntKind.i64.wrap (2 * 20) = 40 by decide]
      unfold stableS_l2
      rw [decide_eq_false (by omega : ¬ (40 : Int) ≤ (data.length : Int)), cond_false]
      rw [show IntKind.i64.wrap (0 + 20) = 20 by decide, decide_eq_true (by omega : (20 : Int) < (data.length : Int)), cond_true, show IntKind.i64.wrap (20 * 2) = 40 by decide]
      have hp := symO_perm 24 v 0 20 data.length cmp (by omega) (by omega)
      have hs := symO_post ok 24 v 0 20 data.length (by omega) (by omega) (by omega) t1 s2
      rw [show ((20 : Nat) : Int) = 20 from rfl, show ((0 : Nat) : Int) = 0 from rfl] at hp hs
      have e2 : ∀ x, stableS_l1 (data.length : Int) cmp (((40 : Int) - 20) / 20).toNat 40 x = x := fun x => by
        rw [show (((40 : Int) - 20) / 20).toNat = 0 + 1 by decide]
        unfold stableS_l1
        rw [decide_eq_false (by omega : ¬ (40 : Int) < (data.length : Int)), cond_false]
      rw [e2]
      exact ⟨(hp.trans p2).trans p1, hs.2.2⟩
  · rw [decide_eq_false (by omega : ¬ (20 : Int) ≤ (data.length : Int)), cond_false]
    unfold stableS_l1
    rw [decide_eq_false (by omega : ¬ (20 : Int) < (data.length : Int)), cond_false]
    obtain ⟨p1, _, s1⟩ := ins_sorts ok (a := 0) (b := data.length) (data := data) (by omega) (by omega)
    exact ⟨p1, s1⟩
end Go.Proofs.Ytaoagcdljmpllaa
namespace Go.Proofs.Ytaoagcdljmpllaa
open Go.Am
def byLess (x : Int) (y : Int) (c0 : (Sl Op)) : Int :=
  (bif (decide ((c0.D[x.toNat]!.ver) < (c0.D[y.toNat]!.ver))) then (-1) else (bif (decide ((c0.D[x.toNat]!.ver) > (c0.D[y.toNat]!.ver))) then 1 else (bif (!((c0.D[x.toNat]!.write) == (c0.D[y.toNat]!.write))) then (bif c0.D[x.toNat]!.write then (-1) else 1) else (bif (decide ((c0.D[x.toNat]!.began) < (c0.D[y.toNat]!.began))) then (-1) else (bif (decide ((c0.D[x.toNat]!.began) > (c0.D[y.toNat]!.began))) then 1 else 0)))))
theorem byLess_calls (x : Int) (y : Int) (c0 : (Sl Op)) (hx : 0 ≤ x ∧ x < (c0.D.length : Int)) (hy : 0 ≤ y ∧ y < (c0.D.length : Int)) : PCalls Try.prog 55 [.pv (.lit (.int .i64 x)), .pv (.lit (.int .i64 y)), .rp [.sl (some c0.nil) c0.D.length (encL eOp c0.D)]] (.pv (.lit (.int .i64 (byLess x y c0)))) := by
 generalize hR : byLess x y c0 = R
 refine PCalls.of_body tabOk Try.func55 rfl rfl rfl rfl rfl mixed fun E hP C hI => ?_
 refine Awp.consP C ?_
 refine rvP C (.pv (.lit (.int .i64 0))) ?_
 refine rvc_nil ?_
 refine Awp.cons C (fun o => match o.dst with | some 8 => .reads [] | some 11 => .reads [] | some 12 => .reads [] | some 15 => .reads [] | some 6 => .writes [6] | some 7 => .writes [7] | none => .writes [6, 7] | _ => .pure) (by kernel_rfl) ?_
 refine rvP C (sS (some c0.nil) eOp c0.D) ?_
 refine rvP C (.pv (.lit (.int .i64 x))) ?_
 have h1 : c0.D[x.toNat]? = some c0.D[x.toNat]! := getE (by omega)
 refine rvc_un (rexec_idxS C rfl rfl rfl rfl rfl rfl (c0.D[x.toNat]!) (by omega) h1 ?_)
 refine rvP C (.agg [.pv (.lit (.bool (c0.D[x.toNat]!.write))), .pv (.lit (.string (c0.D[x.toNat]!.value))), .pv (.lit (.int .i64 (c0.D[x.toNat]!.ver))), .pv (.lit (.int .i64 (c0.D[x.toNat]!.began))), .pv (.lit (.int .i64 (c0.D[x.toNat]!.ended)))]) ?_
 refine rvP C (sS (some c0.nil) eOp c0.D) ?_
 refine rvP C (.pv (.lit (.int .i64 y))) ?_
 have h2 : c0.D[y.toNat]? = some c0.D[y.toNat]! := getE (by omega)
 refine rvc_un (rexec_idxS C rfl rfl rfl rfl rfl rfl (c0.D[y.toNat]!) (by omega) h2 ?_)
 refine rvP C (.agg [.pv (.lit (.bool (c0.D[y.toNat]!.write))), .pv (.lit (.string (c0.D[y.toNat]!.value))), .pv (.lit (.int .i64 (c0.D[y.toNat]!.ver))), .pv (.lit (.int .i64 (c0.D[y.toNat]!.began))), .pv (.lit (.int .i64 (c0.D[y.toNat]!.ended)))]) ?_
 refine rvc_un (rexec_prim C (δ := { v := .ptr 6 0, new := [(6, .cells [.pv (.lit (.bool false)), .pv (.lit (.string ⟨#[]⟩)), .pv (.lit (.int .i64 0)), .pv (.lit (.int .i64 0)), .pv (.lit (.int .i64 0))])] }) rfl rfl rfl rfl trivial rfl ?_)
 refine rvc_un (rexec_prim C (δ := { v := .ptr 7 0, new := [(7, .cells [.pv (.lit (.bool false)), .pv (.lit (.string ⟨#[]⟩)), .pv (.lit (.int .i64 0)), .pv (.lit (.int .i64 0)), .pv (.lit (.int .i64 0))])] }) rfl rfl rfl rfl trivial rfl ?_)
 refine rvc_un (rexec_prim C (δ := { v := .undef, wr := [(6, some (.cells [.pv (.lit (.bool (c0.D[x.toNat]!.write))), .pv (.lit (.string (c0.D[x.toNat]!.value))), .pv (.lit (.int .i64 (c0.D[x.toNat]!.ver))), .pv (.lit (.int .i64 (c0.D[x.toNat]!.began))), .pv (.lit (.int .i64 (c0.D[x.toNat]!.ended)))]))] }) rfl rfl rfl rfl trivial rfl ?_)
 refine rvc_un (rexec_prim C (δ := { v := .undef, wr := [(7, some (.cells [.pv (.lit (.bool (c0.D[y.toNat]!.write))), .pv (.lit (.string (c0.D[y.toNat]!.value))), .pv (.lit (.int .i64 (c0.D[y.toNat]!.ver))), .pv (.lit (.int .i64 (c0.D[y.toNat]!.began))), .pv (.lit (.int .i64 (c0.D[y.toNat]!.ended)))]))] }) rfl rfl rfl rfl trivial rfl ?_)
 refine rvc_nil ?_
 refine Awp.seq ?_
 refine Awp.block ?_
 refine Awp.consP C ?_
 refine rvP C (.ptr 6 2) ?_
 refine rvP C (.pv (.lit (.int .i64 (c0.D[x.toNat]!.ver)))) ?_
 refine rvP C (.ptr 7 2) ?_
 refine rvP C (.pv (.lit (.int .i64 (c0.D[y.toNat]!.ver)))) ?_
 refine rvP C (.pv (.lit (.bool (decide ((c0.D[x.toNat]!.ver) < (c0.D[y.toNat]!.ver)))))) ?_
 refine rvP C (.pv (.lit (.bool (decide ((c0.D[x.toNat]!.ver) < (c0.D[y.toNat]!.ver)))))) ?_
 refine rvc_nil ?_
 refine Awp.cond (b := (decide ((c0.D[x.toNat]!.ver) < (c0.D[y.toNat]!.ver)))) rfl (fun h3 => ?_) (fun h3 => ?_)
 ·
  replace hR := of_true h3 hR
  refine Awp.consP C ?_
  refine rvP C (.pv (.lit (.int .i64 (-1)))) ?_
  refine rvc_nil ?_
  refine Awp.ret ?_
  subst hR
  exact ⟨.inl rfl, rfl⟩
 ·
  replace hR := of_false h3 hR
  refine Awp.consP C ?_
  refine rvP C (.ptr 6 2) ?_
  refine rvP C (.pv (.lit (.int .i64 (c0.D[x.toNat]!.ver)))) ?_
  refine rvP C (.ptr 7 2) ?_
  refine rvP C (.pv (.lit (.int .i64 (c0.D[y.toNat]!.ver)))) ?_
  refine rvP C (.pv (.lit (.bool (decide ((c0.D[x.toNat]!.ver) > (c0.D[y.toNat]!.ver)))))) ?_
  refine rvP C (.pv (.lit (.bool (decide ((c0.D[x.toNat]!.ver) > (c0.D[y.toNat]!.ver)))))) ?_
  refine rvc_nil ?_
  refine Awp.cond (b := (decide ((c0.D[x.toNat]!.ver) > (c0.D[y.toNat]!.ver)))) rfl (fun h4 => ?_) (fun h4 => ?_)
  ·
   replace hR := of_true h4 hR
   refine Awp.consP C ?_
   refine rvP C (.pv (.lit (.int .i64 1))) ?_
   refine rvc_nil ?_
   refine Awp.ret ?_
   subst hR
   exact ⟨.inl rfl, rfl⟩
  ·
   replace hR := of_false h4 hR
   refine Awp.consP C ?_
   refine rvP C (.ptr 6 0) ?_
   refine rvP C (.pv (.lit (.bool (c0.D[x.toNat]!.write)))) ?_
   refine rvP C (.ptr 7 0) ?_
   refine rvP C (.pv (.lit (.bool (c0.D[y.toNat]!.write)))) ?_
   refine rvP C (.pv (.lit (.bool (!((c0.D[x.toNat]!.write) == (c0.D[y.toNat]!.write)))))) ?_
   refine rvP C (.pv (.lit (.bool (!((c0.D[x.toNat]!.write) == (c0.D[y.toNat]!.write)))))) ?_
   refine rvc_case 34 (!((c0.D[x.toNat]!.write) == (c0.D[y.toNat]!.write))) rfl (fun h5 => ?_) (fun h5 => ?_)
   ·
    replace hR := of_true h5 hR
    refine rvO C (.ptr 6 0) ?_
    refine rvO C (.pv (.lit (.bool (c0.D[x.toNat]!.write)))) ?_
    refine rvP C (.pv (.lit (.bool (c0.D[x.toNat]!.write)))) ?_
    refine rvP C (.pv (.lit (.bool (c0.D[x.toNat]!.write)))) ?_
    refine rvc_nil ?_
    refine Awp.cond (b := c0.D[x.toNat]!.write) rfl (fun h6 => ?_) (fun h6 => ?_)
    ·
     replace hR := of_true h6 hR
     refine Awp.consP C ?_
     refine rvP C (.pv (.lit (.int .i64 (-1)))) ?_
     refine rvc_nil ?_
     refine Awp.ret ?_
     subst hR
     exact ⟨.inl rfl, rfl⟩
    ·
     replace hR := of_false h6 hR
     refine Awp.consP C ?_
     refine rvP C (.ptr 6 0) ?_
     refine rvP C (.pv (.lit (.bool (c0.D[x.toNat]!.write)))) ?_
     refine rvP C (.ptr 7 0) ?_
     refine rvP C (.pv (.lit (.bool (c0.D[y.toNat]!.write)))) ?_
     refine rvP C (.pv (.lit (.bool (!((c0.D[x.toNat]!.write) == (c0.D[y.toNat]!.write)))))) ?_
     refine rvP C (.pv (.lit (.bool (!((c0.D[x.toNat]!.write) == (c0.D[y.toNat]!.write)))))) ?_
     refine rvc_nil ?_
     refine Awp.condT (b := (!((c0.D[x.toNat]!.write) == (c0.D[y.toNat]!.write)))) rfl h5 ?_
     refine Awp.consP C ?_
     refine rvP C (.pv (.lit (.int .i64 1))) ?_
     refine rvc_nil ?_
     refine Awp.ret ?_
     subst hR
     exact ⟨.inl rfl, rfl⟩
   ·
    replace hR := of_false h5 hR
    refine rvS ?_
    refine rvS ?_
    refine rvP C (.pv (.lit (.bool false))) ?_
    refine rvP C (.pv (.lit (.bool false))) ?_
    refine rvc_nil ?_
    refine Awp.condF (b := false) rfl rfl ?_
    refine Awp.consP C ?_
    refine rvP C (.ptr 6 0) ?_
    refine rvP C (.pv (.lit (.bool (c0.D[x.toNat]!.write)))) ?_
    refine rvP C (.ptr 7 0) ?_
    refine rvP C (.pv (.lit (.bool (c0.D[y.toNat]!.write)))) ?_
    refine rvP C (.pv (.lit (.bool (!((c0.D[x.toNat]!.write) == (c0.D[y.toNat]!.write)))))) ?_
    refine rvP C (.pv (.lit (.bool (!((c0.D[x.toNat]!.write) == (c0.D[y.toNat]!.write)))))) ?_
    refine rvc_nil ?_
    refine Awp.condF (b := (!((c0.D[x.toNat]!.write) == (c0.D[y.toNat]!.write)))) rfl h5 ?_
    refine Awp.consP C ?_
    refine rvP C (.ptr 6 3) ?_
    refine rvP C (.pv (.lit (.int .i64 (c0.D[x.toNat]!.began)))) ?_
    refine rvP C (.ptr 7 3) ?_
    refine rvP C (.pv (.lit (.int .i64 (c0.D[y.toNat]!.began)))) ?_
    refine rvP C (.pv (.lit (.bool (decide ((c0.D[x.toNat]!.began) < (c0.D[y.toNat]!.began)))))) ?_
    refine rvP C (.pv (.lit (.bool (decide ((c0.D[x.toNat]!.began) < (c0.D[y.toNat]!.began)))))) ?_
    refine rvc_nil ?_
    refine Awp.cond (b := (decide ((c0.D[x.toNat]!.began) < (c0.D[y.toNat]!.began)))) rfl (fun h7 => ?_) (fun h7 => ?_)
    ·
     replace hR := of_true h7 hR
     refine Awp.consP C ?_
     refine rvP C (.pv (.lit (.int .i64 (-1)))) ?_
     refine rvc_nil ?_
     refine Awp.ret ?_
     subst hR
     exact ⟨.inl rfl, rfl⟩
    ·
     replace hR := of_false h7 hR
     refine Awp.consP C ?_
     refine rvP C (.ptr 6 3) ?_
     refine rvP C (.pv (.lit (.int .i64 (c0.D[x.toNat]!.began)))) ?_
     refine rvP C (.ptr 7 3) ?_
     refine rvP C (.pv (.lit (.int .i64 (c0.D[y.toNat]!.began)))) ?_
     refine rvP C (.pv (.lit (.bool (decide ((c0.D[x.toNat]!.began) > (c0.D[y.toNat]!.began)))))) ?_
     refine rvP C (.pv (.lit (.bool (decide ((c0.D[x.toNat]!.began) > (c0.D[y.toNat]!.began)))))) ?_
     refine rvc_nil ?_
     refine Awp.cond (b := (decide ((c0.D[x.toNat]!.began) > (c0.D[y.toNat]!.began)))) rfl (fun h8 => ?_) (fun h8 => ?_)
     ·
      replace hR := of_true h8 hR
      refine Awp.consP C ?_
      refine rvP C (.pv (.lit (.int .i64 1))) ?_
      refine rvc_nil ?_
      refine Awp.ret ?_
      subst hR
      exact ⟨.inl rfl, rfl⟩
     ·
      replace hR := of_false h8 hR
      refine Awp.skip ?_
      refine Awp.consP C ?_
      refine rvP C (.pv (.lit (.int .i64 0))) ?_
      refine rvc_nil ?_
      refine Awp.ret ?_
      subst hR
      exact ⟨.inl rfl, rfl⟩
end Go.Proofs.Ytaoagcdljmpllaa
namespace Go.Proofs.Ytaoagcdljmpllaa
open Go.Am
def InL (l : Sl Op) (x : Int) : Prop := 0 ≤ x ∧ x < (l.D.length : Int)
/-- Versions, writes first, then who began first. -/
def wk (a : Op) : Nat := bif a.write then 0 else 1
def aheadO (a b : Op) : Prop := a.ver < b.ver ∨ a.ver = b.ver ∧ (wk a < wk b ∨ wk a = wk b ∧ a.began < b.began)
theorem byLess_lt (x y : Int) (l : Sl Op) : byLess x y l < 0 ↔ aheadO l.D[x.toNat]! l.D[y.toNat]! := by
  unfold byLess aheadO wk
  generalize l.D[x.toNat]! = a
  generalize l.D[y.toNat]! = b
  by_cases h1 : a.ver < b.ver
  · rw [decide_eq_true h1, cond_true]; exact ⟨fun _ => .inl h1, fun _ => by decide⟩
  · rw [decide_eq_false h1, cond_false]
    by_cases h2 : a.ver > b.ver
    · rw [decide_eq_true h2, cond_true]; exact ⟨fun h => absurd h (by decide), fun h => by omega⟩
    · rw [decide_eq_false h2, cond_false]
      have h3 : a.ver = b.ver := by omega
      cases ha : a.write <;> cases hb : b.write
      · by_cases h4 : a.began < b.began
        · rw [decide_eq_true h4]; simp [h3, h4]
        · rw [decide_eq_false h4]
          by_cases h5 : a.began > b.began
          · rw [decide_eq_true h5]; simp [h3, h4]
          · rw [decide_eq_false h5]; simp [h3, h4]
      · simp [h3]
      · simp [h3]
      · by_cases h4 : a.began < b.began
        · rw [decide_eq_true h4]; simp [h3, h4]
        · rw [decide_eq_false h4]
          by_cases h5 : a.began > b.began
          · rw [decide_eq_true h5]; simp [h3, h4]
          · rw [decide_eq_false h5]; simp [h3, h4]
theorem ahead_asym {a b : Op} (h : aheadO a b) : ¬ aheadO b a := by
  unfold aheadO at *
  omega
theorem ahead_trans {a b c : Op} (h1 : ¬ aheadO b a) (h2 : ¬ aheadO c b) : ¬ aheadO c a := by
  unfold aheadO at *
  omega
theorem byLess_ok (l : Sl Op) : LeOk (fun x y => byLess x y l) where
  asym := fun x y h => by
    rw [byLess_lt] at *
    exact ahead_asym h
  trans := fun x y z h1 h2 => by
    rw [byLess_lt] at *
    exact ahead_trans h1 h2
theorem byLess_callsP (l : Sl Op) (x0 x1 : Int) (hx : InL l x0) (hy : InL l x1) : PCalls Try.prog 55 ([.pv (.lit (.int .i64 x0)), .pv (.lit (.int .i64 x1))] ++ [.rp [.sl (some l.nil) l.D.length (encL eOp l.D)]]) (.pv (.lit (.int .i64 (byLess x0 x1 l)))) := byLess_calls x0 x1 l hx hy
theorem in_app {row : List Int} {i : Nat} (h : ∀ y ∈ row, 0 ≤ y ∧ y < (i : Int)) : ∀ y ∈ row ++ [(i : Int)], 0 ≤ y ∧ y < ((i + 1 : Nat) : Int) := fun y hy => by
  rcases List.mem_append.1 hy with hy | hy
  · have := h y hy; omega
  · have := List.mem_singleton.1 hy; omega
theorem in_keep {row : List Int} {i : Nat} (h : ∀ y ∈ row, 0 ≤ y ∧ y < (i : Int)) : ∀ y ∈ row, 0 ≤ y ∧ y < ((i + 1 : Nat) : Int) := fun y hy => by
  have := h y hy; omega
theorem in_all {row : List Int} {i : Nat} {l : Sl Op} (h : ∀ y ∈ row, 0 ≤ y ∧ y < (i : Int)) (hi : i ≤ l.D.length) : ∀ y ∈ row, InL l y := fun y hy => by
  have := h y hy; exact ⟨this.1, by omega⟩
theorem sort_len {row : List Int} {l : Sl Op} (h : row.length ≤ 24) : (sortStable row fun x0 x1 => byLess x0 x1 l).length = row.length := (stable_sorts (byLess_ok l) h).1.length_eq
theorem sort_ne {row : List Int} {l : Sl Op} (h : row.length ≤ 24) (hn : ¬ row = []) : ¬ (sortStable row fun x0 x1 => byLess x0 x1 l) = [] := fun e => hn (List.length_eq_zero_iff.1 (by rw [← sort_len (l := l) h, e]; rfl))
theorem right_len24 {l : Sl Op} (h : (rightL l != 0) = false) : l.D.length ≤ 24 := by
  unfold rightL at h
  cases h1 : decide ((l.D.length : Int) > 24)
  · have := of_decide_eq_false h1; omega
  · rw [h1] at h; cases h
end Go.Proofs.Ytaoagcdljmpllaa
namespace Go.Proofs.Ytaoagcdljmpllaa
open Go.Am
variable {P_ : Int → Prop}
def insSort0 (_data : (Sl Int)) (_a : Int) (_b : Int) (_cmp : Int → Int → Int) : Unit :=
  ()
theorem insSort0_calls (data : (Sl Int)) (a : Int) (b : Int) (cmp : Int → Int → Int) (g3 : Nat) (caps3 : List AV) (_hp3 : ∀ (x0 : Int) (x1 : Int), P_ x0 → P_ x1 → PCalls Try.prog g3 ([.pv (.lit (.int .i64 x0)), .pv (.lit (.int .i64 x1))] ++ caps3) (.pv (.lit (.int .i64 (cmp x0 x1))))) (hw3 : AV.withinL (fun _ => false) caps3 = true) (hq : (decide ((IntKind.i64.wrap (a + 1)) < b)) = false) : PCalls Try.prog 62 [sS (some data.nil) (eI .i64) data.D, .pv (.lit (.int .i64 a)), .pv (.lit (.int .i64 b)), .fn g3 [] caps3] (.tup []) := by
 generalize hR : insSort0 data a b cmp = R
 refine PCalls.of_body tabOk Try.func62 rfl rfl rfl (by simp [AV.withinL, AV.within, sS, hw3]) rfl mixed fun E hP C hI => ?_
 refine Awp.consP C ?_
 refine rvP C (.pv (.lit (.int .i64 a))) ?_
 refine rvP C (.pv (.lit (.int .i64 (IntKind.i64.wrap (a + 1))))) ?_
 refine rvP C (.pv (.lit (.int .i64 (IntKind.i64.wrap (a + 1))))) ?_
 refine rvc_nil ?_
 refine Awp.block ?_
 refine Awp.once ?_
 refine Awp.seq ?_
 refine Awp.consP C ?_
 refine rvP C (.pv (.lit (.int .i64 (IntKind.i64.wrap (a + 1))))) ?_
 refine rvP C (.pv (.lit (.int .i64 b))) ?_
 refine rvP C (.pv (.lit (.bool (decide ((IntKind.i64.wrap (a + 1)) < b))))) ?_
 refine rvc_nil ?_
 refine Awp.condF (b := (decide ((IntKind.i64.wrap (a + 1)) < b))) rfl hq ?_
 refine Awp.exit ?_
 subst hR
 exact ⟨.inr rfl, rfl⟩
def stableS0 (_data : (Sl Int)) (_n : Int) (_cmp : Int → Int → Int) : Unit :=
  ()
theorem stableS0_calls (data : (Sl Int)) (n : Int) (cmp : Int → Int → Int) (g2 : Nat) (caps2 : List AV) (hp2 : ∀ (x0 : Int) (x1 : Int), P_ x0 → P_ x1 → PCalls Try.prog g2 ([.pv (.lit (.int .i64 x0)), .pv (.lit (.int .i64 x1))] ++ caps2) (.pv (.lit (.int .i64 (cmp x0 x1))))) (hw2 : AV.withinL (fun _ => false) caps2 = true) (hn : n = 0) (h20 : (decide ((20 : Int) ≤ n)) = false) (h21 : (decide ((20 : Int) < n)) = false) : PCalls Try.prog 61 [sS (some data.nil) (eI .i64) data.D, .pv (.lit (.int .i64 n)), .fn g2 [] caps2] (.tup []) := by
 generalize hR : stableS0 data n cmp = R
 refine PCalls.of_body tabOk Try.func61 rfl rfl rfl (by simp [AV.withinL, AV.within, sS, hw2]) rfl mixed fun E hP C hI => ?_
 refine Awp.consP C ?_
 refine rvP C (.pv (.lit (.int .i64 20))) ?_
 refine rvc_nil ?_
 refine Awp.consP C ?_
 refine rvP C (.pv (.lit (.int .i64 20))) ?_
 refine rvP C (.pv (.lit (.int .i64 0))) ?_
 refine rvP C (.pv (.lit (.int .i64 20))) ?_
 refine rvc_nil ?_
 refine Awp.seq ?_
 refine Awp.block ?_
 refine Awp.once ?_
 refine Awp.seq ?_
 refine Awp.consP C ?_
 refine rvP C (.pv (.lit (.int .i64 20))) ?_
 refine rvP C (.pv (.lit (.int .i64 n))) ?_
 refine rvP C (.pv (.lit (.bool (decide ((20 : Int) ≤ n))))) ?_
 refine rvc_nil ?_
 refine Awp.condF (b := (decide ((20 : Int) ≤ n))) rfl h20 ?_
 refine Awp.exit ?_
 refine Awp.consP C ?_
 refine rvP C (sS (some data.nil) (eI .i64) data.D) ?_
 refine rvP C (.pv (.lit (.int .i64 0))) ?_
 refine rvP C (.pv (.lit (.int .i64 n))) ?_
 refine rvP C (.fn g2 [] caps2) ?_
 refine rvc_un (rexec_call hP C rfl rfl rfl (insSort0_calls data 0 n cmp g2 caps2 hp2 hw2 (by subst hn; decide)) ?_)
 refine rvc_nil ?_
 refine Awp.block ?_
 refine Awp.once ?_
 refine Awp.seq ?_
 refine Awp.consP C ?_
 refine rvP C (.pv (.lit (.int .i64 20))) ?_
 refine rvP C (.pv (.lit (.int .i64 n))) ?_
 refine rvP C (.pv (.lit (.bool (decide ((20 : Int) < n))))) ?_
 refine rvc_nil ?_
 refine Awp.condF (b := (decide ((20 : Int) < n))) rfl h21 ?_
 refine Awp.exit ?_
 subst hR
 exact ⟨.inr rfl, rfl⟩
def sortStable0 (_x : (Sl Int)) (_cmp : Int → Int → Int) : Unit :=
  ()
theorem sortStable0_calls (x : (Sl Int)) (cmp : Int → Int → Int) (g1 : Nat) (caps1 : List AV) (hp1 : ∀ (x0 : Int) (x1 : Int), P_ x0 → P_ x1 → PCalls Try.prog g1 ([.pv (.lit (.int .i64 x0)), .pv (.lit (.int .i64 x1))] ++ caps1) (.pv (.lit (.int .i64 (cmp x0 x1))))) (hw1 : AV.withinL (fun _ => false) caps1 = true) (hx0 : x.D = []) : PCalls Try.prog 54 [sS (some x.nil) (eI .i64) x.D, .fn g1 [] caps1] (.tup []) := by
 generalize hR : sortStable0 x cmp = R
 refine PCalls.of_body tabOk Try.func54 rfl rfl rfl (by simp [AV.withinL, AV.within, sS, hw1]) rfl mixed fun E hP C hI => ?_
 refine Awp.regionP C ?_
 refine rvP C (sS (some x.nil) (eI .i64) x.D) ?_
 refine rvP C (sS (some x.nil) (eI .i64) x.D) ?_
 refine rvP C (.pv (.lit (.int .i64 (x.D.length : Int)))) ?_
 refine rvP C (.fn g1 [] caps1) ?_
 refine rvc_un (rexec_call hP C rfl rfl rfl (stableS0_calls x (x.D.length : Int) cmp g1 caps1 hp1 hw1 (by rw [hx0]; rfl) (by rw [hx0]; rfl) (by rw [hx0]; rfl)) ?_)
 refine rvc_nil ?_
 subst hR
 exact ⟨.inr rfl, rfl⟩
end Go.Proofs.Ytaoagcdljmpllaa
namespace Go.Proofs.Ytaoagcdljmpllaa
open Go.Am
def byV_l0 (l : (Sl Op)) : List Op → Nat → (List Int) → (Sl Int)
  | [], _, row => (Sl.mk ((sortStable row (fun x0 x1 => byLess x0 x1 l)).isEmpty) (sortStable row (fun x0 x1 => byLess x0 x1 l)))
  | x :: xs, i, row => (bif (x.ended != 0) then byV_l0 l xs (i + 1) (row ++ [(i : Int)]) else (bif x.write then (bif (decide (x.ver > 0)) then byV_l0 l xs (i + 1) (row ++ [(i : Int)]) else byV_l0 l xs (i + 1) row) else byV_l0 l xs (i + 1) row))
def byV (l : (Sl Op)) : (Sl Int) :=
  byV_l0 l l.D 0 []
theorem byV_calls (l : (Sl Op)) (h24 : l.D.length ≤ 24) (_hl1 : l.D.length ≤ 9223372036854775807) : PCalls Try.prog 36 [sS (some l.nil) eOp l.D] (sS (some (byV l).nil) (eI .i64) ((byV l).D)) := by
 generalize hR : byV l = R
 refine PCalls.of_body tabOk Try.func36 rfl rfl rfl rfl rfl mixed fun E hP C hI => ?_
 refine Awp.consP C ?_
 refine rvc_un (rexec_boxF C [.sl (some l.nil) l.D.length (encL eOp l.D)] rfl rfl rfl rfl ?_)
 refine rvP C (sS (some true) (eI .i64) []) ?_
 refine rvc_nil ?_
 refine Awp.consP C ?_
 refine rvP C (sS (some true) (eI .i64) []) ?_
 refine rvc_nil ?_
 refine Awp.seq ?_
 refine Awp.consP C ?_
 refine rvP C (sS (some l.nil) eOp l.D) ?_
 refine rvP C (.pv (.lit (.int .i64 (l.D.length : Int)))) ?_
 refine rvP C (.pv (.lit (.int .i64 0))) ?_
 refine rvc_nil ?_
 refine Awp.block ?_
 refine Awp.forR (σ := ((List Int))) (l.D.length) (fun i v => [(1, .rp [.sl (some l.nil) l.D.length (encL eOp l.D)]), (3, grow 900 (eI .i64) v), (6, sS (some l.nil) eOp l.D), (7, .pv (.lit (.int .i64 (l.D.length : Int)))), (8, .pv (.lit (.int .i64 (i : Int))))]) (fun i v => (growH 900 (eI .i64) v ++ ([]))) [900] (fun i v => (byV_l0 l (l.D.drop i) i v = R) ∧ (∀ y ∈ v, 0 ≤ y ∧ y < (i : Int)) ∧ (v.length ≤ i)) [] ?_ ?_ (fun i row h1 hR => ?_)
 · exact ⟨hR, (fun y hy => by cases hy), (by first | omega | (simp <;> omega))⟩
 · exact ⟨fun b => b, WeakerR.ofL (Ks := [900]) hI ⟨⟨rfl, rfl⟩, ⟨rfl, rfl⟩, ⟨rfl, rfl⟩, ⟨rfl, rfl⟩, ⟨rfl, rfl⟩, trivial⟩ (okH_grow (fun hne => absurd rfl hne) rfl rfl (okH_nil)) rfl⟩
 obtain ⟨hR, hV, hi_row⟩ := hR
 replace hi_row : row.length ≤ i := hi_row
 by_cases h2 : row = []
 ·
  refine Awp.wordsR [(1, .rp [.sl (some l.nil) l.D.length (encL eOp l.D)]), (3, sS (some row.isEmpty) (eI .i64) row), (6, sS (some l.nil) eOp l.D), (7, .pv (.lit (.int .i64 (l.D.length : Int)))), (8, .pv (.lit (.int .i64 (i : Int))))] [] [] (WeakerR.ofL (Ks := []) hI ⟨⟨rfl, rfl⟩, ⟨(by exact grow_at_nil (b := 900) (e := (eI .i64)) (l := row) rfl h2), rfl⟩, ⟨rfl, rfl⟩, ⟨rfl, rfl⟩, ⟨rfl, rfl⟩, trivial⟩ (okH_nil) rfl) ?_
  refine Awp.consP C ?_
  refine rvP C (.pv (.lit (.bool (decide ((i : Int) < (l.D.length : Int)))))) ?_
  refine rvc_nil ?_
  refine Awp.seq ?_
  refine Awp.cond (b := (decide ((i : Int) < (l.D.length : Int)))) rfl (fun h3 => ?_) (fun h3 => ?_)
  ·
   have h4 : i < l.D.length := by have := of_decide_eq_true h3; omega
   obtain ⟨x, h5⟩ := getX h4
   rw [drop_at h5] at hR
   refine Awp.skip ?_
   refine Awp.seq ?_
   refine Awp.block ?_
   refine Awp.consP C ?_
   refine rvP C (.pv (.lit (.int .i64 (i : Int)))) ?_
   refine rvc_un (rexec_idxS C rfl rfl rfl rfl rfl rfl x (Int.natCast_nonneg _) h5 ?_)
   refine rvP C (.agg [.pv (.lit (.bool x.write)), .pv (.lit (.string x.value)), .pv (.lit (.int .i64 x.ver)), .pv (.lit (.int .i64 x.began)), .pv (.lit (.int .i64 x.ended))]) ?_
   refine rvc_un (rexec_prim C (δ := { v := .ptr 5 0, new := [(5, .cells [.pv (.lit (.bool false)), .pv (.lit (.string ⟨#[]⟩)), .pv (.lit (.int .i64 0)), .pv (.lit (.int .i64 0)), .pv (.lit (.int .i64 0))])] }) rfl rfl rfl rfl trivial rfl ?_)
   refine rvP C (.pv (.lit (.int .i64 (i : Int)))) ?_
   refine rvc_un (rexec_prim C (δ := { v := .undef, wr := [(5, some (.cells [.pv (.lit (.bool x.write)), .pv (.lit (.string x.value)), .pv (.lit (.int .i64 x.ver)), .pv (.lit (.int .i64 x.began)), .pv (.lit (.int .i64 x.ended))]))] }) rfl rfl rfl rfl trivial rfl ?_)
   refine rvc_nil ?_
   refine Awp.consP C ?_
   refine rvP C (.ptr 5 4) ?_
   refine rvP C (.pv (.lit (.int .i64 x.ended))) ?_
   refine rvP C (.pv (.lit (.bool (x.ended != 0)))) ?_
   refine rvP C (.pv (.lit (.bool (x.ended != 0)))) ?_
   refine rvc_case 16 (x.ended != 0) rfl (fun h6 => ?_) (fun h6 => ?_)
   ·
    replace hR := of_true h6 hR
    refine rvS ?_
    refine rvS ?_
    refine rvS ?_
    refine rvc_shutU rfl rfl rfl ?_
    refine rvc_shutU rfl rfl rfl ?_
    refine rvc_shutU rfl rfl rfl ?_
    refine rvS ?_
    refine rvP C (.pv (.lit (.bool true))) ?_
    refine rvc_nil ?_
    refine Awp.condT (b := true) rfl rfl ?_
    refine Awp.regionP C ?_
    refine rvP C (sS (some row.isEmpty) (eI .i64) row) ?_
    refine rvP C (.pv (.lit (.int .i64 (i : Int)))) ?_
    refine rvc_un (rexec_buildSliceF C (eI .i64) [(i : Int)] rfl rfl rfl rfl rfl rfl rfl (by decide) rfl ?_)
    refine rvc_un (rexec_appendG C rfl rfl rfl rfl rfl rfl rfl rfl (fun _ h => by cases h) rfl (en := (eI .i64)) (l := row) (D := [(i : Int)]) rfl rfl h2 (by rw [h2]; rfl) (by simp) (by have := of_decide_eq_true h3; have := bne_iff_ne.1 h6; first | omega | (simp <;> omega)) (by decide) (nn := (row ++ [(i : Int)]).length) (by simp) ?_)
    refine rvP C (.sl 28 0 ((row ++ [(i : Int)]).length) 1 false) ?_
    refine rvc_nil ?_
    refine Awp.regionP C ?_
    refine rvP C (.pv (.lit (.int .i64 (IntKind.i64.wrap ((i : Int) + 1))))) ?_
    refine rvP C (.pv (.lit (.int .i64 (IntKind.i64.wrap ((i : Int) + 1))))) ?_
    refine rvc_nil ?_
    refine ⟨h4, (row ++ [(i : Int)]), ?_, ?_⟩
    · exact ⟨hR, (by first | exact in_app hV | exact in_keep hV), (by first | omega | (simp <;> omega))⟩
    · exact ⟨fun b => bif b == 900 then 28 else (fun b => b) b, WeakerR.ofL (Ks := [900]) hI ⟨⟨rfl, rfl⟩, ⟨grow_to rfl rfl app_ne rfl rfl, grow_within rfl⟩, ⟨rfl, rfl⟩, ⟨rfl, rfl⟩, ⟨lit_cast (wrap_i64 (by omega) (by omega)), rfl⟩, trivial⟩ (okH_grow (fun _ => rfl) rfl rfl (okH_nil)) rfl⟩
   ·
    replace hR := of_false h6 hR
    refine rvO C (.ptr 5 0) ?_
    refine rvO C (.pv (.lit (.bool x.write))) ?_
    refine rvO C (.pv (.lit (.bool x.write))) ?_
    refine rvc_case 19 x.write rfl (fun h7 => ?_) (fun h7 => ?_)
    ·
     replace hR := of_true h7 hR
     refine rvO C (.ptr 5 2) ?_
     refine rvO C (.pv (.lit (.int .i64 x.ver))) ?_
     refine rvO C (.pv (.lit (.bool (decide (x.ver > 0))))) ?_
     refine rvO C (.pv (.lit (.bool (decide (x.ver > 0))))) ?_
     refine rvP C (.pv (.lit (.bool (decide (x.ver > 0))))) ?_
     refine rvc_nil ?_
     refine Awp.cond (b := (decide (x.ver > 0))) rfl (fun h8 => ?_) (fun h8 => ?_)
     ·
      replace hR := of_true h8 hR
      refine Awp.regionP C ?_
      refine rvP C (sS (some row.isEmpty) (eI .i64) row) ?_
      refine rvP C (.pv (.lit (.int .i64 (i : Int)))) ?_
      refine rvc_un (rexec_buildSliceF C (eI .i64) [(i : Int)] rfl rfl rfl rfl rfl rfl rfl (by decide) rfl ?_)
      refine rvc_un (rexec_appendG C rfl rfl rfl rfl rfl rfl rfl rfl (fun _ h => by cases h) rfl (en := (eI .i64)) (l := row) (D := [(i : Int)]) rfl rfl h2 (by rw [h2]; rfl) (by simp) (by have := of_decide_eq_true h3; have := eq_of_bne_false h6; have := of_decide_eq_true h8; first | omega | (simp <;> omega)) (by decide) (nn := (row ++ [(i : Int)]).length) (by simp) ?_)
      refine rvP C (.sl 28 0 ((row ++ [(i : Int)]).length) 1 false) ?_
      refine rvc_nil ?_
      refine Awp.regionP C ?_
      refine rvP C (.pv (.lit (.int .i64 (IntKind.i64.wrap ((i : Int) + 1))))) ?_
      refine rvP C (.pv (.lit (.int .i64 (IntKind.i64.wrap ((i : Int) + 1))))) ?_
      refine rvc_nil ?_
      refine ⟨h4, (row ++ [(i : Int)]), ?_, ?_⟩
      · exact ⟨hR, (by first | exact in_app hV | exact in_keep hV), (by first | omega | (simp <;> omega))⟩
      · exact ⟨fun b => bif b == 900 then 28 else (fun b => b) b, WeakerR.ofL (Ks := [900]) hI ⟨⟨rfl, rfl⟩, ⟨grow_to rfl rfl app_ne rfl rfl, grow_within rfl⟩, ⟨rfl, rfl⟩, ⟨rfl, rfl⟩, ⟨lit_cast (wrap_i64 (by omega) (by omega)), rfl⟩, trivial⟩ (okH_grow (fun _ => rfl) rfl rfl (okH_nil)) rfl⟩
     ·
      replace hR := of_false h8 hR
      refine Awp.skip ?_
      refine Awp.regionP C ?_
      refine rvP C (.pv (.lit (.int .i64 (IntKind.i64.wrap ((i : Int) + 1))))) ?_
      refine rvP C (.pv (.lit (.int .i64 (IntKind.i64.wrap ((i : Int) + 1))))) ?_
      refine rvc_nil ?_
      refine ⟨h4, row, ?_, ?_⟩
      · exact ⟨hR, (by first | exact in_app hV | exact in_keep hV), (by first | omega | (simp <;> omega))⟩
      · exact ⟨fun b => b, WeakerR.ofL (Ks := [900]) hI ⟨⟨rfl, rfl⟩, ⟨grow_to_nil rfl h2 (.inr rfl), grow_within rfl⟩, ⟨rfl, rfl⟩, ⟨rfl, rfl⟩, ⟨lit_cast (wrap_i64 (by omega) (by omega)), rfl⟩, trivial⟩ (okH_grow (fun hne => absurd h2 hne) rfl rfl (okH_nil)) rfl⟩
    ·
     replace hR := of_false h7 hR
     refine rvS ?_
     refine rvS ?_
     refine rvS ?_
     refine rvO C (.pv (.lit (.bool false))) ?_
     refine rvP C (.pv (.lit (.bool false))) ?_
     refine rvc_nil ?_
     refine Awp.condF (b := false) rfl rfl ?_
     refine Awp.skip ?_
     refine Awp.regionP C ?_
     refine rvP C (.pv (.lit (.int .i64 (IntKind.i64.wrap ((i : Int) + 1))))) ?_
     refine rvP C (.pv (.lit (.int .i64 (IntKind.i64.wrap ((i : Int) + 1))))) ?_
     refine rvc_nil ?_
     refine ⟨h4, row, ?_, ?_⟩
     · exact ⟨hR, (by first | exact in_app hV | exact in_keep hV), (by first | omega | (simp <;> omega))⟩
     · exact ⟨fun b => b, WeakerR.ofL (Ks := [900]) hI ⟨⟨rfl, rfl⟩, ⟨grow_to_nil rfl h2 (.inr rfl), grow_within rfl⟩, ⟨rfl, rfl⟩, ⟨rfl, rfl⟩, ⟨lit_cast (wrap_i64 (by omega) (by omega)), rfl⟩, trivial⟩ (okH_grow (fun hne => absurd h2 hne) rfl rfl (okH_nil)) rfl⟩
  ·
   have h4 : ¬ i < l.D.length := by have := of_decide_eq_false h3; omega
   rw [drop_end h4] at hR
   refine Awp.exit ?_
   refine Awp.cons C (fun _ => .writer) (by kernel_rfl) ?_
   refine rvP C (sS (some row.isEmpty) (eI .i64) row) ?_
   refine rvP C (.fn 55 [] [.rp [.sl (some l.nil) l.D.length (encL eOp l.D)]]) ?_
   refine rvc_un (rexec_call hP C rfl rfl rfl (sortStable0_calls (Sl.mk row.isEmpty row) (fun x0 x1 => byLess x0 x1 l) 55 [.rp [.sl (some l.nil) l.D.length (encL eOp l.D)]] (byLess_callsP l) rfl (by assumption)) ?_)
   refine rvc_nil ?_
   refine Awp.consP C ?_
   refine rvP C (sS (some row.isEmpty) (eI .i64) row) ?_
   refine rvP C (sS (some row.isEmpty) (eI .i64) row) ?_
   refine rvc_nil ?_
   refine Awp.ret ?_
   subst hR
   subst h2
   exact ⟨.inl rfl, rfl⟩
 ·
  refine Awp.wordsR [(1, .rp [.sl (some l.nil) l.D.length (encL eOp l.D)]), (3, .sl 900 0 row.length 1 false), (6, sS (some l.nil) eOp l.D), (7, .pv (.lit (.int .i64 (l.D.length : Int)))), (8, .pv (.lit (.int .i64 (i : Int))))] [(900, .cells (encC (eI .i64) row))] [900] (WeakerR.ofL (Ks := [900]) hI ⟨⟨rfl, rfl⟩, ⟨(by exact grow_at_cons (b := 900) (b' := 900) (e := (eI .i64)) (l := row) rfl h2 rfl rfl rfl), rfl⟩, ⟨rfl, rfl⟩, ⟨rfl, rfl⟩, ⟨rfl, rfl⟩, trivial⟩ (okH_list (look_cons h2 rfl) rfl rfl (okH_nil)) rfl) ?_
  refine Awp.consP C ?_
  refine rvP C (.pv (.lit (.bool (decide ((i : Int) < (l.D.length : Int)))))) ?_
  refine rvc_nil ?_
  refine Awp.seq ?_
  refine Awp.cond (b := (decide ((i : Int) < (l.D.length : Int)))) rfl (fun h9 => ?_) (fun h9 => ?_)
  ·
   have h10 : i < l.D.length := by have := of_decide_eq_true h9; omega
   obtain ⟨x, h11⟩ := getX h10
   rw [drop_at h11] at hR
   refine Awp.skip ?_
   refine Awp.seq ?_
   refine Awp.block ?_
   refine Awp.consP C ?_
   refine rvP C (.pv (.lit (.int .i64 (i : Int)))) ?_
   refine rvc_un (rexec_idxS C rfl rfl rfl rfl rfl rfl x (Int.natCast_nonneg _) h11 ?_)
   refine rvP C (.agg [.pv (.lit (.bool x.write)), .pv (.lit (.string x.value)), .pv (.lit (.int .i64 x.ver)), .pv (.lit (.int .i64 x.began)), .pv (.lit (.int .i64 x.ended))]) ?_
   refine rvc_un (rexec_prim C (δ := { v := .ptr 5 0, new := [(5, .cells [.pv (.lit (.bool false)), .pv (.lit (.string ⟨#[]⟩)), .pv (.lit (.int .i64 0)), .pv (.lit (.int .i64 0)), .pv (.lit (.int .i64 0))])] }) rfl rfl rfl rfl trivial rfl ?_)
   refine rvP C (.pv (.lit (.int .i64 (i : Int)))) ?_
   refine rvc_un (rexec_prim C (δ := { v := .undef, wr := [(5, some (.cells [.pv (.lit (.bool x.write)), .pv (.lit (.string x.value)), .pv (.lit (.int .i64 x.ver)), .pv (.lit (.int .i64 x.began)), .pv (.lit (.int .i64 x.ended))]))] }) rfl rfl rfl rfl trivial rfl ?_)
   refine rvc_nil ?_
   refine Awp.consP C ?_
   refine rvP C (.ptr 5 4) ?_
   refine rvP C (.pv (.lit (.int .i64 x.ended))) ?_
   refine rvP C (.pv (.lit (.bool (x.ended != 0)))) ?_
   refine rvP C (.pv (.lit (.bool (x.ended != 0)))) ?_
   refine rvc_case 16 (x.ended != 0) rfl (fun h12 => ?_) (fun h12 => ?_)
   ·
    replace hR := of_true h12 hR
    refine rvS ?_
    refine rvS ?_
    refine rvS ?_
    refine rvc_shutU rfl rfl rfl ?_
    refine rvc_shutU rfl rfl rfl ?_
    refine rvc_shutU rfl rfl rfl ?_
    refine rvS ?_
    refine rvP C (.pv (.lit (.bool true))) ?_
    refine rvc_nil ?_
    refine Awp.condT (b := true) rfl rfl ?_
    refine Awp.regionP C ?_
    refine rvP C (.sl 900 0 row.length 1 false) ?_
    refine rvP C (.pv (.lit (.int .i64 (i : Int)))) ?_
    refine rvc_un (rexec_buildSliceF C (eI .i64) [(i : Int)] rfl rfl rfl rfl rfl rfl rfl (by decide) rfl ?_)
    refine rvc_un (rexec_append C rfl rfl rfl rfl rfl rfl rfl rfl (fun _ h => by cases h) rfl (en := (eI .i64)) (D0 := row) (D := [(i : Int)]) rfl rfl rfl rfl (by have := of_decide_eq_true h9; have := bne_iff_ne.1 h12; first | omega | (simp <;> omega)) (by decide) (nn := (row ++ [(i : Int)]).length) (by simp) ?_)
    refine rvP C (.sl 28 0 ((row ++ [(i : Int)]).length) 1 false) ?_
    refine rvc_nil ?_
    refine Awp.regionP C ?_
    refine rvP C (.pv (.lit (.int .i64 (IntKind.i64.wrap ((i : Int) + 1))))) ?_
    refine rvP C (.pv (.lit (.int .i64 (IntKind.i64.wrap ((i : Int) + 1))))) ?_
    refine rvc_nil ?_
    refine ⟨h10, (row ++ [(i : Int)]), ?_, ?_⟩
    · exact ⟨hR, (by first | exact in_app hV | exact in_keep hV), (by first | omega | (simp <;> omega))⟩
    · exact ⟨fun b => bif b == 900 then 28 else (fun b => b) b, WeakerR.ofL (Ks := [900]) hI ⟨⟨rfl, rfl⟩, ⟨grow_to rfl rfl app_ne rfl rfl, grow_within rfl⟩, ⟨rfl, rfl⟩, ⟨rfl, rfl⟩, ⟨lit_cast (wrap_i64 (by omega) (by omega)), rfl⟩, trivial⟩ (okH_grow (fun _ => rfl) rfl rfl (okH_nil)) rfl⟩
   ·
    replace hR := of_false h12 hR
    refine rvO C (.ptr 5 0) ?_
    refine rvO C (.pv (.lit (.bool x.write))) ?_
    refine rvO C (.pv (.lit (.bool x.write))) ?_
    refine rvc_case 19 x.write rfl (fun h13 => ?_) (fun h13 => ?_)
    ·
     replace hR := of_true h13 hR
     refine rvO C (.ptr 5 2) ?_
     refine rvO C (.pv (.lit (.int .i64 x.ver))) ?_
     refine rvO C (.pv (.lit (.bool (decide (x.ver > 0))))) ?_
     refine rvO C (.pv (.lit (.bool (decide (x.ver > 0))))) ?_
     refine rvP C (.pv (.lit (.bool (decide (x.ver > 0))))) ?_
     refine rvc_nil ?_
     refine Awp.cond (b := (decide (x.ver > 0))) rfl (fun h14 => ?_) (fun h14 => ?_)
     ·
      replace hR := of_true h14 hR
      refine Awp.regionP C ?_
      refine rvP C (.sl 900 0 row.length 1 false) ?_
      refine rvP C (.pv (.lit (.int .i64 (i : Int)))) ?_
      refine rvc_un (rexec_buildSliceF C (eI .i64) [(i : Int)] rfl rfl rfl rfl rfl rfl rfl (by decide) rfl ?_)
      refine rvc_un (rexec_append C rfl rfl rfl rfl rfl rfl rfl rfl (fun _ h => by cases h) rfl (en := (eI .i64)) (D0 := row) (D := [(i : Int)]) rfl rfl rfl rfl (by have := of_decide_eq_true h9; have := eq_of_bne_false h12; have := of_decide_eq_true h14; first | omega | (simp <;> omega)) (by decide) (nn := (row ++ [(i : Int)]).length) (by simp) ?_)
      refine rvP C (.sl 28 0 ((row ++ [(i : Int)]).length) 1 false) ?_
      refine rvc_nil ?_
      refine Awp.regionP C ?_
      refine rvP C (.pv (.lit (.int .i64 (IntKind.i64.wrap ((i : Int) + 1))))) ?_
      refine rvP C (.pv (.lit (.int .i64 (IntKind.i64.wrap ((i : Int) + 1))))) ?_
      refine rvc_nil ?_
      refine ⟨h10, (row ++ [(i : Int)]), ?_, ?_⟩
      · exact ⟨hR, (by first | exact in_app hV | exact in_keep hV), (by first | omega | (simp <;> omega))⟩
      · exact ⟨fun b => bif b == 900 then 28 else (fun b => b) b, WeakerR.ofL (Ks := [900]) hI ⟨⟨rfl, rfl⟩, ⟨grow_to rfl rfl app_ne rfl rfl, grow_within rfl⟩, ⟨rfl, rfl⟩, ⟨rfl, rfl⟩, ⟨lit_cast (wrap_i64 (by omega) (by omega)), rfl⟩, trivial⟩ (okH_grow (fun _ => rfl) rfl rfl (okH_nil)) rfl⟩
     ·
      replace hR := of_false h14 hR
      refine Awp.skip ?_
      refine Awp.regionP C ?_
      refine rvP C (.pv (.lit (.int .i64 (IntKind.i64.wrap ((i : Int) + 1))))) ?_
      refine rvP C (.pv (.lit (.int .i64 (IntKind.i64.wrap ((i : Int) + 1))))) ?_
      refine rvc_nil ?_
      refine ⟨h10, row, ?_, ?_⟩
      · exact ⟨hR, (by first | exact in_app hV | exact in_keep hV), (by first | omega | (simp <;> omega))⟩
      · exact ⟨fun b => b, WeakerR.ofL (Ks := [900]) hI ⟨⟨rfl, rfl⟩, ⟨grow_to rfl rfl h2 rfl rfl, grow_within rfl⟩, ⟨rfl, rfl⟩, ⟨rfl, rfl⟩, ⟨lit_cast (wrap_i64 (by omega) (by omega)), rfl⟩, trivial⟩ (okH_grow (fun _ => rfl) rfl rfl (okH_nil)) rfl⟩
    ·
     replace hR := of_false h13 hR
     refine rvS ?_
     refine rvS ?_
     refine rvS ?_
     refine rvO C (.pv (.lit (.bool false))) ?_
     refine rvP C (.pv (.lit (.bool false))) ?_
     refine rvc_nil ?_
     refine Awp.condF (b := false) rfl rfl ?_
     refine Awp.skip ?_
     refine Awp.regionP C ?_
     refine rvP C (.pv (.lit (.int .i64 (IntKind.i64.wrap ((i : Int) + 1))))) ?_
     refine rvP C (.pv (.lit (.int .i64 (IntKind.i64.wrap ((i : Int) + 1))))) ?_
     refine rvc_nil ?_
     refine ⟨h10, row, ?_, ?_⟩
     · exact ⟨hR, (by first | exact in_app hV | exact in_keep hV), (by first | omega | (simp <;> omega))⟩
     · exact ⟨fun b => b, WeakerR.ofL (Ks := [900]) hI ⟨⟨rfl, rfl⟩, ⟨grow_to rfl rfl h2 rfl rfl, grow_within rfl⟩, ⟨rfl, rfl⟩, ⟨rfl, rfl⟩, ⟨lit_cast (wrap_i64 (by omega) (by omega)), rfl⟩, trivial⟩ (okH_grow (fun _ => rfl) rfl rfl (okH_nil)) rfl⟩
  ·
   have h10 : ¬ i < l.D.length := by have := of_decide_eq_false h9; omega
   rw [drop_end h10] at hR
   refine Awp.exit ?_
   refine Awp.cons C (fun _ => .writer) (by kernel_rfl) ?_
   refine rvP C (.sl 900 0 row.length 1 false) ?_
   refine rvP C (.fn 55 [] [.rp [.sl (some l.nil) l.D.length (encL eOp l.D)]]) ?_
   refine rvc_un (rexec_callM hP C (b := 900) rfl rfl rfl (sortStable_calls row (fun x0 x1 => byLess x0 x1 l) 55 [.rp [.sl (some l.nil) l.D.length (encL eOp l.D)]] (byLess_callsP l) rfl (by omega) (in_all hV (by omega)) (byLess_ok l)) rfl rfl ?_)
   refine rvc_nil ?_
   refine Awp.consP C ?_
   refine rvP C (.sl 900 0 row.length 1 false) ?_
   refine rvP C (.sl 900 0 row.length 1 false) ?_
   refine rvc_nil ?_
   refine Awp.freezeW 900 (encL (eI .i64) (sortStable row (fun x0 x1 => byLess x0 x1 l))) ?_ [(2, sS (some (sortStable row (fun x0 x1 => byLess x0 x1 l)).isEmpty) (eI .i64) (sortStable row (fun x0 x1 => byLess x0 x1 l)))] [] ?_ ?_ ?_
   · rfl
   · exact ⟨⟨_, rfl, .inl (.inr ⟨_, _, _, rfl, by rw [ne_isEmpty (sort_ne (l := l) (by omega) h2), ← sort_len (l := l) (row := row) (by omega)]; rfl⟩)⟩, trivial⟩
   · exact trivial
   refine Awp.ret ?_
   subst hR
   exact ⟨.inl rfl, rfl⟩
 -- !! two models: ('(Sl.mk row.isEmpty row)', '(bif (x.ended != 0) then byV_l0 l (l.D.drop (i + 1)) (i + 1) (row ++ [(i : Int)]) else (bif x.write then (bif (decide (x.ver > 0)) then byV_l0 l (l.D.drop (i + 1)) (i + 1) (row ++ [(i : Int)]) else byV_l0 l (l.D.drop (i + 1)) (i + 1) row) else byV_l0 l (l.D.drop (i + 1)) (i + 1) row))') ||| ('(Sl.mk ((sortStable row (fun x0 x1 => byLess x0 x1 l)).isEmpty) (sortStable row (fun x0 x1 => byLess x0 x1 l)))', '(bif (x.ended != 0) then byV_l0 l (l.D.drop (i + 1)) (i + 1) (row ++ [(i : Int)]) else (bif x.write then (bif (decide (x.ver > 0)) then byV_l0 l (l.D.drop (i + 1)) (i + 1) (row ++ [(i : Int)]) else byV_l0 l (l.D.drop (i + 1)) (i + 1) row) else byV_l0 l (l.D.drop (i + 1)) (i + 1) row))')
end Go.Proofs.Ytaoagcdljmpllaa
namespace Go.Proofs.Ytaoagcdljmpllaa
open Go.Am
def inBy (x : Op) : Bool := (x.ended != 0) || (x.write && decide (x.ver > 0))
def byRow : List Op → Nat → List Int
  | [], _ => []
  | x :: xs, i => if inBy x = true then (i : Int) :: byRow xs (i + 1) else byRow xs (i + 1)
theorem byV_row (l : Sl Op) : ∀ (xs : List Op) (i : Nat) (row : List Int), (byV_l0 l xs i row).D = sortStable (row ++ byRow xs i) fun x0 x1 => byLess x0 x1 l
  | [], i, row => by unfold byV_l0 byRow; rw [List.append_nil]
  | x :: xs, i, row => by
    unfold byV_l0 byRow
    unfold inBy
    cases h1 : (x.ended != 0)
    · cases h2 : x.write
      · rw [if_neg (by simp)]; exact byV_row l xs (i + 1) row
      · cases h3 : decide (x.ver > 0)
        · rw [if_neg (by simp)]; exact byV_row l xs (i + 1) row
        · rw [if_pos (by simp)]; simp only [cond_false, cond_true]; rw [byV_row l xs (i + 1), List.append_assoc]; rfl
    · rw [if_pos (by simp)]; simp only [cond_true]; rw [byV_row l xs (i + 1), List.append_assoc]; rfl
theorem byRow_len : ∀ (xs : List Op) (i : Nat), (byRow xs i).length ≤ xs.length
  | [], _ => Nat.le_refl _
  | x :: xs, i => by
    unfold byRow
    have := byRow_len xs (i + 1)
    split
    · simp only [List.length_cons]; omega
    · simp only [List.length_cons]; omega
theorem byRow_mem : ∀ (xs : List Op) (i : Nat) (z : Int), z ∈ byRow xs i ↔ ∃ k x, xs[k]? = some x ∧ inBy x = true ∧ z = ((i + k : Nat) : Int)
  | [], i, z => by simp [byRow]
  | x :: xs, i, z => by
    unfold byRow
    have ih := byRow_mem xs (i + 1) z
    constructor
    · intro h
      split at h
      · rcases List.mem_cons.1 h with rfl | h
        · exact ⟨0, x, rfl, by assumption, rfl⟩
        · obtain ⟨k, y, h1, h2, h3⟩ := ih.1 h
          exact ⟨k + 1, y, h1, h2, by rw [h3]; omega⟩
      · obtain ⟨k, y, h1, h2, h3⟩ := ih.1 h
        exact ⟨k + 1, y, h1, h2, by rw [h3]; omega⟩
    · rintro ⟨k, y, h1, h2, h3⟩
      cases k with
      | zero =>
        simp only [List.getElem?_cons_zero, Option.some.injEq] at h1
        subst h1
        rw [if_pos h2, h3]; exact List.mem_cons_self ..
      | succ k =>
        rw [List.getElem?_cons_succ] at h1
        have := ih.2 ⟨k, y, h1, h2, by rw [h3]; omega⟩
        split
        · exact List.mem_cons_of_mem _ this
        · exact this
theorem byRow_nodup : ∀ (xs : List Op) (i : Nat), (byRow xs i).Nodup
  | [], _ => List.nodup_nil
  | x :: xs, i => by
    unfold byRow
    split
    · refine List.nodup_cons.2 ⟨fun h => ?_, byRow_nodup xs (i + 1)⟩
      obtain ⟨k, y, _, _, h3⟩ := (byRow_mem xs (i + 1) _).1 h
      omega
    · exact byRow_nodup xs (i + 1)
/-- The row: the same calls, sorted. -/
theorem byV_spec {l : Sl Op} (h : l.D.length ≤ 24) : (byV l).D.Perm (byRow l.D 0) ∧ Srt (fun x y => byLess x y l) (gt (byV l).D) 0 (byV l).D.length := by
  unfold byV
  rw [byV_row, List.nil_append]
  have := stable_sorts (byLess_ok l) (data := byRow l.D 0) (Nat.le_trans (byRow_len _ _) h)
  have hs : (sortStable (byRow l.D 0) fun x0 x1 => byLess x0 x1 l) = stableS (byRow l.D 0) (byRow l.D 0).length fun x0 x1 => byLess x0 x1 l := rfl
  rw [hs]
  refine ⟨this.1, ?_⟩
  rw [this.1.length_eq]
  exact this.2
theorem byV_len {l : Sl Op} (h : l.D.length ≤ 24) : (byV l).D.length ≤ 9223372036854775807 := by
  rw [(byV_spec h).1.length_eq]
  exact Nat.le_trans (byRow_len _ _) (Nat.le_trans h (by decide))
end Go.Proofs.Ytaoagcdljmpllaa
namespace Go.Proofs.Ytaoagcdljmpllaa
open Go.Am
structure Stand where
  value : ByteArray
  began : Int
  there : Bool
  deriving Inhabited
def kI64 : KEnc Int := ⟨fun x => .pv (.lit (.int .i64 x)), fun a b => (a == b), fun _ => rfl, fun _ => Nat.le_of_ble_eq_true rfl, fun a b => by simp only [beq_iff_eq, AV.pv.injEq, PV.lit.injEq, Value.int.injEq, true_and]⟩
theorem kI64_ok : KeyOk Try.prog 3 kI64 := KeyOk.int tabOk (r := (tab.lookup 3).get rfl) rfl rfl (f := fun x => x) (fun _ => rfl) (fun _ _ => rfl)
def vStand : VEnc Stand := ⟨fun x => .agg [.pv (.lit (.string x.value)), .pv (.lit (.int .i64 x.began)), .pv (.lit (.bool x.there))], fun _ _ => rfl⟩
def rising_l1 (x : Op) (kk : Bool) : List Op → Nat → Bool
  | [], _ => kk 
  | x1 :: x1s, i1 => (bif (x.ended == 0) then rising_l1 x kk x1s (i1 + 1)  else (bif (x1.ver == 0) then (bif x1.write then rising_l1 x kk x1s (i1 + 1)  else (bif (decide (x.ended ≥ x1.began)) then rising_l1 x kk x1s (i1 + 1)  else (bif (x1.ended == 0) then (bif (!x1.write) then rising_l1 x kk x1s (i1 + 1)  else (bif (decide (x.ver > x1.ver)) then false else rising_l1 x kk x1s (i1 + 1) )) else (bif (decide (x.ver > x1.ver)) then false else rising_l1 x kk x1s (i1 + 1) )))) else (bif (decide (x.ended ≥ x1.began)) then rising_l1 x kk x1s (i1 + 1)  else (bif (x1.ended == 0) then (bif (!x1.write) then rising_l1 x kk x1s (i1 + 1)  else (bif (decide (x.ver > x1.ver)) then false else (bif x1.write then (bif (x.ver == x1.ver) then false else rising_l1 x kk x1s (i1 + 1) ) else rising_l1 x kk x1s (i1 + 1) ))) else (bif (decide (x.ver > x1.ver)) then false else (bif x1.write then (bif (x.ver == x1.ver) then false else rising_l1 x kk x1s (i1 + 1) ) else rising_l1 x kk x1s (i1 + 1) ))))))
def rising_l0 (l : (Sl Op)) : List Op → Nat → Bool
  | [], _ => true
  | x :: xs, i => rising_l1 x (rising_l0 l xs (i + 1) ) l.D 0
def rising (l : (Sl Op)) : Bool :=
  rising_l0 l l.D 0
theorem rising_calls (l : (Sl Op)) (hl1 : l.D.length ≤ 9223372036854775807) : PCalls Try.prog 53 [sS (some l.nil) eOp l.D] (.pv (.lit (.bool (rising l)))) := by
 generalize hR : rising l = R
 refine PCalls.of_body tabOk Try.func53 rfl rfl rfl rfl rfl mixed fun E hP C hI => ?_
 refine Awp.consP C ?_
 refine rvP C (.pv (.lit (.bool false))) ?_
 refine rvc_nil ?_
 refine Awp.seq ?_
 refine Awp.consP C ?_
 refine rvP C (sS (some l.nil) eOp l.D) ?_
 refine rvP C (.pv (.lit (.int .i64 (l.D.length : Int)))) ?_
 refine rvP C (.pv (.lit (.int .i64 0))) ?_
 refine rvc_nil ?_
 refine Awp.block ?_
 refine Awp.forR (σ := Unit) (l.D.length) (fun i _v => [(0, sS (some l.nil) eOp l.D), (7, sS (some l.nil) eOp l.D), (8, .pv (.lit (.int .i64 (l.D.length : Int)))), (9, .pv (.lit (.int .i64 (i : Int))))]) (fun i _v => []) [] (fun i _v => rising_l0 l (l.D.drop i) i  = R) () ?_ ?_ (fun i _v h1 hR => ?_)
 · exact hR
 · exact ⟨fun b => b, WeakerR.ofL (Ks := []) hI ⟨⟨rfl, rfl⟩, ⟨rfl, rfl⟩, ⟨rfl, rfl⟩, ⟨rfl, rfl⟩, trivial⟩ (okH_nil) rfl⟩
 refine Awp.consP C ?_
 refine rvP C (.pv (.lit (.bool (decide ((i : Int) < (l.D.length : Int)))))) ?_
 refine rvc_nil ?_
 refine Awp.seq ?_
 refine Awp.cond (b := (decide ((i : Int) < (l.D.length : Int)))) rfl (fun h2 => ?_) (fun h2 => ?_)
 ·
  have h3 : i < l.D.length := by have := of_decide_eq_true h2; omega
  obtain ⟨x, h4⟩ := getX h3
  rw [drop_at h4] at hR
  refine Awp.skip ?_
  refine Awp.seq ?_
  refine Awp.block ?_
  refine Awp.consP C ?_
  refine rvc_un (rexec_idxS C rfl rfl rfl rfl rfl rfl x (Int.natCast_nonneg _) h4 ?_)
  refine rvP C (.agg [.pv (.lit (.bool x.write)), .pv (.lit (.string x.value)), .pv (.lit (.int .i64 x.ver)), .pv (.lit (.int .i64 x.began)), .pv (.lit (.int .i64 x.ended))]) ?_
  refine rvc_un (rexec_prim C (δ := { v := .ptr 4 0, new := [(4, .cells [.pv (.lit (.bool false)), .pv (.lit (.string ⟨#[]⟩)), .pv (.lit (.int .i64 0)), .pv (.lit (.int .i64 0)), .pv (.lit (.int .i64 0))])] }) rfl rfl rfl rfl trivial rfl ?_)
  refine rvc_un (rexec_prim C (δ := { v := .undef, wr := [(4, some (.cells [.pv (.lit (.bool x.write)), .pv (.lit (.string x.value)), .pv (.lit (.int .i64 x.ver)), .pv (.lit (.int .i64 x.began)), .pv (.lit (.int .i64 x.ended))]))] }) rfl rfl rfl rfl trivial rfl ?_)
  refine rvc_nil ?_
  refine Awp.consP C ?_
  refine rvP C (sS (some l.nil) eOp l.D) ?_
  refine rvP C (.pv (.lit (.int .i64 (l.D.length : Int)))) ?_
  refine rvP C (.pv (.lit (.int .i64 0))) ?_
  refine rvc_nil ?_
  refine Awp.block ?_
  refine Awp.forR (σ := Unit) (l.D.length) (fun i1 _v => [(0, sS (some l.nil) eOp l.D), (4, .ptr 4 0), (7, sS (some l.nil) eOp l.D), (8, .pv (.lit (.int .i64 (l.D.length : Int)))), (9, .pv (.lit (.int .i64 (i : Int)))), (13, sS (some l.nil) eOp l.D), (14, .pv (.lit (.int .i64 (l.D.length : Int)))), (15, .pv (.lit (.int .i64 (i1 : Int))))]) (fun i1 _v => [(4, .cells [.pv (.lit (.bool x.write)), .pv (.lit (.string x.value)), .pv (.lit (.int .i64 x.ver)), .pv (.lit (.int .i64 x.began)), .pv (.lit (.int .i64 x.ended))])]) [4] (fun i1 _v => rising_l1 x (rising_l0 l (l.D.drop (i + 1)) (i + 1) ) (l.D.drop i1) i1  = R) () ?_ ?_ (fun i1 _v h5 hR => ?_)
  · exact hR
  · exact ⟨fun b => b, WeakerR.ofL (Ks := [4]) hI ⟨⟨rfl, rfl⟩, ⟨rfl, rfl⟩, ⟨rfl, rfl⟩, ⟨rfl, rfl⟩, ⟨rfl, rfl⟩, ⟨rfl, rfl⟩, ⟨rfl, rfl⟩, ⟨rfl, rfl⟩, trivial⟩ (okH_cons rfl rfl rfl rfl (okH_nil)) rfl⟩
  refine Awp.consP C ?_
  refine rvP C (.pv (.lit (.bool (decide ((i1 : Int) < (l.D.length : Int)))))) ?_
  refine rvc_nil ?_
  refine Awp.seq ?_
  refine Awp.cond (b := (decide ((i1 : Int) < (l.D.length : Int)))) rfl (fun h6 => ?_) (fun h6 => ?_)
  ·
   have h7 : i1 < l.D.length := by have := of_decide_eq_true h6; omega
   obtain ⟨x1, h8⟩ := getX h7
   rw [drop_at h8] at hR
   refine Awp.skip ?_
   refine Awp.seq ?_
   refine Awp.block ?_
   refine Awp.consP C ?_
   refine rvc_un (rexec_idxS C rfl rfl rfl rfl rfl rfl x1 (Int.natCast_nonneg _) h8 ?_)
   refine rvP C (.agg [.pv (.lit (.bool x1.write)), .pv (.lit (.string x1.value)), .pv (.lit (.int .i64 x1.ver)), .pv (.lit (.int .i64 x1.began)), .pv (.lit (.int .i64 x1.ended))]) ?_
   refine rvc_un (rexec_prim C (δ := { v := .ptr 6 0, new := [(6, .cells [.pv (.lit (.bool false)), .pv (.lit (.string ⟨#[]⟩)), .pv (.lit (.int .i64 0)), .pv (.lit (.int .i64 0)), .pv (.lit (.int .i64 0))])] }) rfl rfl rfl rfl trivial rfl ?_)
   refine rvc_un (rexec_prim C (δ := { v := .undef, wr := [(6, some (.cells [.pv (.lit (.bool x1.write)), .pv (.lit (.string x1.value)), .pv (.lit (.int .i64 x1.ver)), .pv (.lit (.int .i64 x1.began)), .pv (.lit (.int .i64 x1.ended))]))] }) rfl rfl rfl rfl trivial rfl ?_)
   refine rvc_nil ?_
   refine Awp.seq ?_
   refine Awp.consP C ?_
   refine rvP C (.ptr 4 4) ?_
   refine rvP C (.pv (.lit (.int .i64 x.ended))) ?_
   refine rvP C (.pv (.lit (.bool (x.ended == 0)))) ?_
   refine rvP C (.pv (.lit (.bool (x.ended == 0)))) ?_
   refine rvc_case 22 (x.ended == 0) rfl (fun h9 => ?_) (fun h9 => ?_)
   ·
    replace hR := of_true h9 hR
    refine rvS ?_
    refine rvS ?_
    refine rvS ?_
    refine rvS ?_
    refine rvc_shutU rfl rfl rfl ?_
    refine rvc_shutU rfl rfl rfl ?_
    refine rvS ?_
    refine rvP C (.pv (.lit (.bool true))) ?_
    refine rvP C (.pv (.lit (.bool true))) ?_
    refine rvS ?_
    refine rvS ?_
    refine rvS ?_
    refine rvS ?_
    refine rvS ?_
    refine rvP C (.pv (.lit (.bool true))) ?_
    refine rvP C (.pv (.lit (.bool true))) ?_
    refine rvS ?_
    refine rvS ?_
    refine rvS ?_
    refine rvS ?_
    refine rvc_shutU rfl rfl rfl ?_
    refine rvc_shutU rfl rfl rfl ?_
    refine rvc_shutU rfl rfl rfl ?_
    refine rvS ?_
    refine rvP C (.pv (.lit (.bool true))) ?_
    refine rvc_nil ?_
    refine Awp.condT (b := true) rfl rfl ?_
    refine Awp.exit ?_
    refine Awp.regionP C ?_
    refine rvP C (.pv (.lit (.int .i64 (IntKind.i64.wrap ((i1 : Int) + 1))))) ?_
    refine rvP C (.pv (.lit (.int .i64 (IntKind.i64.wrap ((i1 : Int) + 1))))) ?_
    refine rvc_nil ?_
    refine ⟨h7, (), ?_, ?_⟩
    · exact hR
    · exact ⟨fun b => b, WeakerR.ofL (Ks := [4]) hI ⟨⟨rfl, rfl⟩, ⟨rfl, rfl⟩, ⟨rfl, rfl⟩, ⟨rfl, rfl⟩, ⟨rfl, rfl⟩, ⟨rfl, rfl⟩, ⟨rfl, rfl⟩, ⟨lit_cast (wrap_i64 (by omega) (by omega)), rfl⟩, trivial⟩ (okH_cons rfl rfl rfl rfl (okH_nil)) rfl⟩
   ·
    replace hR := of_false h9 hR
    refine rvO C (.ptr 6 2) ?_
    refine rvO C (.pv (.lit (.int .i64 x1.ver))) ?_
    refine rvO C (.pv (.lit (.bool (x1.ver == 0)))) ?_
    refine rvO C (.pv (.lit (.bool (x1.ver == 0)))) ?_
    refine rvc_case 26 (x1.ver == 0) rfl (fun h10 => ?_) (fun h10 => ?_)
    ·
     replace hR := of_true h10 hR
     refine rvO C (.ptr 6 0) ?_
     refine rvO C (.pv (.lit (.bool x1.write))) ?_
     refine rvO C (.pv (.lit (.bool x1.write))) ?_
     refine rvP C (.pv (.lit (.bool x1.write))) ?_
     refine rvP C (.pv (.lit (.bool x1.write))) ?_
     refine rvc_case 31 x1.write rfl (fun h11 => ?_) (fun h11 => ?_)
     ·
      replace hR := of_true h11 hR
      refine rvS ?_
      refine rvS ?_
      refine rvS ?_
      refine rvS ?_
      refine rvS ?_
      refine rvP C (.pv (.lit (.bool true))) ?_
      refine rvP C (.pv (.lit (.bool true))) ?_
      refine rvS ?_
      refine rvS ?_
      refine rvS ?_
      refine rvS ?_
      refine rvc_shutU rfl rfl rfl ?_
      refine rvc_shutU rfl rfl rfl ?_
      refine rvc_shutU rfl rfl rfl ?_
      refine rvS ?_
      refine rvP C (.pv (.lit (.bool true))) ?_
      refine rvc_nil ?_
      refine Awp.condT (b := true) rfl rfl ?_
      refine Awp.exit ?_
      refine Awp.regionP C ?_
      refine rvP C (.pv (.lit (.int .i64 (IntKind.i64.wrap ((i1 : Int) + 1))))) ?_
      refine rvP C (.pv (.lit (.int .i64 (IntKind.i64.wrap ((i1 : Int) + 1))))) ?_
      refine rvc_nil ?_
      refine ⟨h7, (), ?_, ?_⟩
      · exact hR
      · exact ⟨fun b => b, WeakerR.ofL (Ks := [4]) hI ⟨⟨rfl, rfl⟩, ⟨rfl, rfl⟩, ⟨rfl, rfl⟩, ⟨rfl, rfl⟩, ⟨rfl, rfl⟩, ⟨rfl, rfl⟩, ⟨rfl, rfl⟩, ⟨lit_cast (wrap_i64 (by omega) (by omega)), rfl⟩, trivial⟩ (okH_cons rfl rfl rfl rfl (okH_nil)) rfl⟩
     ·
      replace hR := of_false h11 hR
      refine rvO C (.ptr 4 4) ?_
      refine rvO C (.pv (.lit (.int .i64 x.ended))) ?_
      refine rvO C (.ptr 6 3) ?_
      refine rvO C (.pv (.lit (.int .i64 x1.began))) ?_
      refine rvO C (.pv (.lit (.bool (decide (x.ended ≥ x1.began))))) ?_
      refine rvP C (.pv (.lit (.bool (decide (x.ended ≥ x1.began))))) ?_
      refine rvP C (.pv (.lit (.bool (decide (x.ended ≥ x1.began))))) ?_
      refine rvc_case 38 (decide (x.ended ≥ x1.began)) rfl (fun h12 => ?_) (fun h12 => ?_)
      ·
       replace hR := of_true h12 hR
       refine rvS ?_
       refine rvS ?_
       refine rvS ?_
       refine rvS ?_
       refine rvc_shutU rfl rfl rfl ?_
       refine rvc_shutU rfl rfl rfl ?_
       refine rvc_shutU rfl rfl rfl ?_
       refine rvS ?_
       refine rvP C (.pv (.lit (.bool true))) ?_
       refine rvc_nil ?_
       refine Awp.condT (b := true) rfl rfl ?_
       refine Awp.exit ?_
       refine Awp.regionP C ?_
       refine rvP C (.pv (.lit (.int .i64 (IntKind.i64.wrap ((i1 : Int) + 1))))) ?_
       refine rvP C (.pv (.lit (.int .i64 (IntKind.i64.wrap ((i1 : Int) + 1))))) ?_
       refine rvc_nil ?_
       refine ⟨h7, (), ?_, ?_⟩
       · exact hR
       · exact ⟨fun b => b, WeakerR.ofL (Ks := [4]) hI ⟨⟨rfl, rfl⟩, ⟨rfl, rfl⟩, ⟨rfl, rfl⟩, ⟨rfl, rfl⟩, ⟨rfl, rfl⟩, ⟨rfl, rfl⟩, ⟨rfl, rfl⟩, ⟨lit_cast (wrap_i64 (by omega) (by omega)), rfl⟩, trivial⟩ (okH_cons rfl rfl rfl rfl (okH_nil)) rfl⟩
      ·
       replace hR := of_false h12 hR
       refine rvO C (.ptr 6 4) ?_
       refine rvO C (.pv (.lit (.int .i64 x1.ended))) ?_
       refine rvO C (.pv (.lit (.bool (x1.ended == 0)))) ?_
       refine rvO C (.pv (.lit (.bool (x1.ended == 0)))) ?_
       refine rvc_case 42 (x1.ended == 0) rfl (fun h13 => ?_) (fun h13 => ?_)
       ·
        replace hR := of_true h13 hR
        refine rvO C (.ptr 6 0) ?_
        refine rvO C (.pv (.lit (.bool x1.write))) ?_
        refine rvO C (.pv (.lit (.bool (!x1.write)))) ?_
        refine rvO C (.pv (.lit (.bool (!x1.write)))) ?_
        refine rvP C (.pv (.lit (.bool (!x1.write)))) ?_
        refine rvc_nil ?_
        refine Awp.cond (b := (!x1.write)) rfl (fun h14 => ?_) (fun h14 => ?_)
        ·
         replace hR := of_true h14 hR
         refine Awp.exit ?_
         refine Awp.regionP C ?_
         refine rvP C (.pv (.lit (.int .i64 (IntKind.i64.wrap ((i1 : Int) + 1))))) ?_
         refine rvP C (.pv (.lit (.int .i64 (IntKind.i64.wrap ((i1 : Int) + 1))))) ?_
         refine rvc_nil ?_
         refine ⟨h7, (), ?_, ?_⟩
         · exact hR
         · exact ⟨fun b => b, WeakerR.ofL (Ks := [4]) hI ⟨⟨rfl, rfl⟩, ⟨rfl, rfl⟩, ⟨rfl, rfl⟩, ⟨rfl, rfl⟩, ⟨rfl, rfl⟩, ⟨rfl, rfl⟩, ⟨rfl, rfl⟩, ⟨lit_cast (wrap_i64 (by omega) (by omega)), rfl⟩, trivial⟩ (okH_cons rfl rfl rfl rfl (okH_nil)) rfl⟩
        ·
         replace hR := of_false h14 hR
         refine Awp.skip ?_
         refine Awp.consP C ?_
         refine rvP C (.ptr 4 2) ?_
         refine rvP C (.pv (.lit (.int .i64 x.ver))) ?_
         refine rvP C (.ptr 6 2) ?_
         refine rvP C (.pv (.lit (.int .i64 x1.ver))) ?_
         refine rvP C (.pv (.lit (.bool (decide (x.ver > x1.ver))))) ?_
         refine rvP C (.pv (.lit (.bool (decide (x.ver > x1.ver))))) ?_
         refine rvc_case 53 (decide (x.ver > x1.ver)) rfl (fun h15 => ?_) (fun h15 => ?_)
         ·
          replace hR := of_true h15 hR
          refine rvS ?_
          refine rvS ?_
          refine rvS ?_
          refine rvc_shutU rfl rfl rfl ?_
          refine rvc_shutU rfl rfl rfl ?_
          refine rvc_shutU rfl rfl rfl ?_
          refine rvc_shutU rfl rfl rfl ?_
          refine rvc_shutU rfl rfl rfl ?_
          refine rvS ?_
          refine rvP C (.pv (.lit (.bool true))) ?_
          refine rvc_nil ?_
          refine Awp.condT (b := true) rfl rfl ?_
          refine Awp.consP C ?_
          refine rvP C (.pv (.lit (.bool false))) ?_
          refine rvc_nil ?_
          refine Awp.ret ?_
          subst hR
          exact ⟨.inl rfl, rfl⟩
         ·
          replace hR := of_false h15 hR
          refine rvO C (.ptr 6 0) ?_
          refine rvO C (.pv (.lit (.bool x1.write))) ?_
          refine rvO C (.pv (.lit (.bool x1.write))) ?_
          refine rvc_known 56 x1.write false rfl h11 ?_
          refine rvS ?_
          refine rvS ?_
          refine rvS ?_
          refine rvS ?_
          refine rvS ?_
          refine rvO C (.pv (.lit (.bool false))) ?_
          refine rvP C (.pv (.lit (.bool false))) ?_
          refine rvc_nil ?_
          refine Awp.condF (b := false) rfl rfl ?_
          refine Awp.skip ?_
          refine Awp.regionP C ?_
          refine rvP C (.pv (.lit (.int .i64 (IntKind.i64.wrap ((i1 : Int) + 1))))) ?_
          refine rvP C (.pv (.lit (.int .i64 (IntKind.i64.wrap ((i1 : Int) + 1))))) ?_
          refine rvc_nil ?_
          refine ⟨h7, (), ?_, ?_⟩
          · exact hR
          · exact ⟨fun b => b, WeakerR.ofL (Ks := [4]) hI ⟨⟨rfl, rfl⟩, ⟨rfl, rfl⟩, ⟨rfl, rfl⟩, ⟨rfl, rfl⟩, ⟨rfl, rfl⟩, ⟨rfl, rfl⟩, ⟨rfl, rfl⟩, ⟨lit_cast (wrap_i64 (by omega) (by omega)), rfl⟩, trivial⟩ (okH_cons rfl rfl rfl rfl (okH_nil)) rfl⟩
       ·
        replace hR := of_false h13 hR
        refine rvS ?_
        refine rvS ?_
        refine rvS ?_
        refine rvO C (.pv (.lit (.bool false))) ?_
        refine rvP C (.pv (.lit (.bool false))) ?_
        refine rvc_nil ?_
        refine Awp.condF (b := false) rfl rfl ?_
        refine Awp.skip ?_
        refine Awp.consP C ?_
        refine rvP C (.ptr 4 2) ?_
        refine rvP C (.pv (.lit (.int .i64 x.ver))) ?_
        refine rvP C (.ptr 6 2) ?_
        refine rvP C (.pv (.lit (.int .i64 x1.ver))) ?_
        refine rvP C (.pv (.lit (.bool (decide (x.ver > x1.ver))))) ?_
        refine rvP C (.pv (.lit (.bool (decide (x.ver > x1.ver))))) ?_
        refine rvc_case 53 (decide (x.ver > x1.ver)) rfl (fun h16 => ?_) (fun h16 => ?_)
        ·
         replace hR := of_true h16 hR
         refine rvS ?_
         refine rvS ?_
         refine rvS ?_
         refine rvc_shutU rfl rfl rfl ?_
         refine rvc_shutU rfl rfl rfl ?_
         refine rvc_shutU rfl rfl rfl ?_
         refine rvc_shutU rfl rfl rfl ?_
         refine rvc_shutU rfl rfl rfl ?_
         refine rvS ?_
         refine rvP C (.pv (.lit (.bool true))) ?_
         refine rvc_nil ?_
         refine Awp.condT (b := true) rfl rfl ?_
         refine Awp.consP C ?_
         refine rvP C (.pv (.lit (.bool false))) ?_
         refine rvc_nil ?_
         refine Awp.ret ?_
         subst hR
         exact ⟨.inl rfl, rfl⟩
        ·
         replace hR := of_false h16 hR
         refine rvO C (.ptr 6 0) ?_
         refine rvO C (.pv (.lit (.bool x1.write))) ?_
         refine rvO C (.pv (.lit (.bool x1.write))) ?_
         refine rvc_known 56 x1.write false rfl h11 ?_
         refine rvS ?_
         refine rvS ?_
         refine rvS ?_
         refine rvS ?_
         refine rvS ?_
         refine rvO C (.pv (.lit (.bool false))) ?_
         refine rvP C (.pv (.lit (.bool false))) ?_
         refine rvc_nil ?_
         refine Awp.condF (b := false) rfl rfl ?_
         refine Awp.skip ?_
         refine Awp.regionP C ?_
         refine rvP C (.pv (.lit (.int .i64 (IntKind.i64.wrap ((i1 : Int) + 1))))) ?_
         refine rvP C (.pv (.lit (.int .i64 (IntKind.i64.wrap ((i1 : Int) + 1))))) ?_
         refine rvc_nil ?_
         refine ⟨h7, (), ?_, ?_⟩
         · exact hR
         · exact ⟨fun b => b, WeakerR.ofL (Ks := [4]) hI ⟨⟨rfl, rfl⟩, ⟨rfl, rfl⟩, ⟨rfl, rfl⟩, ⟨rfl, rfl⟩, ⟨rfl, rfl⟩, ⟨rfl, rfl⟩, ⟨rfl, rfl⟩, ⟨lit_cast (wrap_i64 (by omega) (by omega)), rfl⟩, trivial⟩ (okH_cons rfl rfl rfl rfl (okH_nil)) rfl⟩
    ·
     replace hR := of_false h10 hR
     refine rvS ?_
     refine rvS ?_
     refine rvO C (.pv (.lit (.bool false))) ?_
     refine rvP C (.pv (.lit (.bool false))) ?_
     refine rvP C (.pv (.lit (.bool false))) ?_
     refine rvO C (.ptr 4 4) ?_
     refine rvO C (.pv (.lit (.int .i64 x.ended))) ?_
     refine rvO C (.ptr 6 3) ?_
     refine rvO C (.pv (.lit (.int .i64 x1.began))) ?_
     refine rvO C (.pv (.lit (.bool (decide (x.ended ≥ x1.began))))) ?_
     refine rvP C (.pv (.lit (.bool (decide (x.ended ≥ x1.began))))) ?_
     refine rvP C (.pv (.lit (.bool (decide (x.ended ≥ x1.began))))) ?_
     refine rvc_case 38 (decide (x.ended ≥ x1.began)) rfl (fun h17 => ?_) (fun h17 => ?_)
     ·
      replace hR := of_true h17 hR
      refine rvS ?_
      refine rvS ?_
      refine rvS ?_
      refine rvS ?_
      refine rvc_shutU rfl rfl rfl ?_
      refine rvc_shutU rfl rfl rfl ?_
      refine rvc_shutU rfl rfl rfl ?_
      refine rvS ?_
      refine rvP C (.pv (.lit (.bool true))) ?_
      refine rvc_nil ?_
      refine Awp.condT (b := true) rfl rfl ?_
      refine Awp.exit ?_
      refine Awp.regionP C ?_
      refine rvP C (.pv (.lit (.int .i64 (IntKind.i64.wrap ((i1 : Int) + 1))))) ?_
      refine rvP C (.pv (.lit (.int .i64 (IntKind.i64.wrap ((i1 : Int) + 1))))) ?_
      refine rvc_nil ?_
      refine ⟨h7, (), ?_, ?_⟩
      · exact hR
      · exact ⟨fun b => b, WeakerR.ofL (Ks := [4]) hI ⟨⟨rfl, rfl⟩, ⟨rfl, rfl⟩, ⟨rfl, rfl⟩, ⟨rfl, rfl⟩, ⟨rfl, rfl⟩, ⟨rfl, rfl⟩, ⟨rfl, rfl⟩, ⟨lit_cast (wrap_i64 (by omega) (by omega)), rfl⟩, trivial⟩ (okH_cons rfl rfl rfl rfl (okH_nil)) rfl⟩
     ·
      replace hR := of_false h17 hR
      refine rvO C (.ptr 6 4) ?_
      refine rvO C (.pv (.lit (.int .i64 x1.ended))) ?_
      refine rvO C (.pv (.lit (.bool (x1.ended == 0)))) ?_
      refine rvO C (.pv (.lit (.bool (x1.ended == 0)))) ?_
      refine rvc_case 42 (x1.ended == 0) rfl (fun h18 => ?_) (fun h18 => ?_)
      ·
       replace hR := of_true h18 hR
       refine rvO C (.ptr 6 0) ?_
       refine rvO C (.pv (.lit (.bool x1.write))) ?_
       refine rvO C (.pv (.lit (.bool (!x1.write)))) ?_
       refine rvO C (.pv (.lit (.bool (!x1.write)))) ?_
       refine rvP C (.pv (.lit (.bool (!x1.write)))) ?_
       refine rvc_nil ?_
       refine Awp.cond (b := (!x1.write)) rfl (fun h19 => ?_) (fun h19 => ?_)
       ·
        replace hR := of_true h19 hR
        refine Awp.exit ?_
        refine Awp.regionP C ?_
        refine rvP C (.pv (.lit (.int .i64 (IntKind.i64.wrap ((i1 : Int) + 1))))) ?_
        refine rvP C (.pv (.lit (.int .i64 (IntKind.i64.wrap ((i1 : Int) + 1))))) ?_
        refine rvc_nil ?_
        refine ⟨h7, (), ?_, ?_⟩
        · exact hR
        · exact ⟨fun b => b, WeakerR.ofL (Ks := [4]) hI ⟨⟨rfl, rfl⟩, ⟨rfl, rfl⟩, ⟨rfl, rfl⟩, ⟨rfl, rfl⟩, ⟨rfl, rfl⟩, ⟨rfl, rfl⟩, ⟨rfl, rfl⟩, ⟨lit_cast (wrap_i64 (by omega) (by omega)), rfl⟩, trivial⟩ (okH_cons rfl rfl rfl rfl (okH_nil)) rfl⟩
       ·
        replace hR := of_false h19 hR
        refine Awp.skip ?_
        refine Awp.consP C ?_
        refine rvP C (.ptr 4 2) ?_
        refine rvP C (.pv (.lit (.int .i64 x.ver))) ?_
        refine rvP C (.ptr 6 2) ?_
        refine rvP C (.pv (.lit (.int .i64 x1.ver))) ?_
        refine rvP C (.pv (.lit (.bool (decide (x.ver > x1.ver))))) ?_
        refine rvP C (.pv (.lit (.bool (decide (x.ver > x1.ver))))) ?_
        refine rvc_case 53 (decide (x.ver > x1.ver)) rfl (fun h20 => ?_) (fun h20 => ?_)
        ·
         replace hR := of_true h20 hR
         refine rvS ?_
         refine rvS ?_
         refine rvS ?_
         refine rvc_shutU rfl rfl rfl ?_
         refine rvc_shutU rfl rfl rfl ?_
         refine rvc_shutU rfl rfl rfl ?_
         refine rvc_shutU rfl rfl rfl ?_
         refine rvc_shutU rfl rfl rfl ?_
         refine rvS ?_
         refine rvP C (.pv (.lit (.bool true))) ?_
         refine rvc_nil ?_
         refine Awp.condT (b := true) rfl rfl ?_
         refine Awp.consP C ?_
         refine rvP C (.pv (.lit (.bool false))) ?_
         refine rvc_nil ?_
         refine Awp.ret ?_
         subst hR
         exact ⟨.inl rfl, rfl⟩
        ·
         replace hR := of_false h20 hR
         refine rvO C (.ptr 6 0) ?_
         refine rvO C (.pv (.lit (.bool x1.write))) ?_
         refine rvO C (.pv (.lit (.bool x1.write))) ?_
         refine rvc_case 56 x1.write rfl (fun h21 => ?_) (fun h21 => ?_)
         ·
          replace hR := of_true h21 hR
          refine rvO C (.ptr 4 2) ?_
          refine rvO C (.pv (.lit (.int .i64 x.ver))) ?_
          refine rvO C (.ptr 6 2) ?_
          refine rvO C (.pv (.lit (.int .i64 x1.ver))) ?_
          refine rvO C (.pv (.lit (.bool (x.ver == x1.ver)))) ?_
          refine rvO C (.pv (.lit (.bool (x.ver == x1.ver)))) ?_
          refine rvP C (.pv (.lit (.bool (x.ver == x1.ver)))) ?_
          refine rvc_nil ?_
          refine Awp.cond (b := (x.ver == x1.ver)) rfl (fun h22 => ?_) (fun h22 => ?_)
          ·
           replace hR := of_true h22 hR
           refine Awp.consP C ?_
           refine rvP C (.pv (.lit (.bool false))) ?_
           refine rvc_nil ?_
           refine Awp.ret ?_
           subst hR
           exact ⟨.inl rfl, rfl⟩
          ·
           replace hR := of_false h22 hR
           refine Awp.skip ?_
           refine Awp.regionP C ?_
           refine rvP C (.pv (.lit (.int .i64 (IntKind.i64.wrap ((i1 : Int) + 1))))) ?_
           refine rvP C (.pv (.lit (.int .i64 (IntKind.i64.wrap ((i1 : Int) + 1))))) ?_
           refine rvc_nil ?_
           refine ⟨h7, (), ?_, ?_⟩
           · exact hR
           · exact ⟨fun b => b, WeakerR.ofL (Ks := [4]) hI ⟨⟨rfl, rfl⟩, ⟨rfl, rfl⟩, ⟨rfl, rfl⟩, ⟨rfl, rfl⟩, ⟨rfl, rfl⟩, ⟨rfl, rfl⟩, ⟨rfl, rfl⟩, ⟨lit_cast (wrap_i64 (by omega) (by omega)), rfl⟩, trivial⟩ (okH_cons rfl rfl rfl rfl (okH_nil)) rfl⟩
         ·
          replace hR := of_false h21 hR
          refine rvS ?_
          refine rvS ?_
          refine rvS ?_
          refine rvS ?_
          refine rvS ?_
          refine rvO C (.pv (.lit (.bool false))) ?_
          refine rvP C (.pv (.lit (.bool false))) ?_
          refine rvc_nil ?_
          refine Awp.condF (b := false) rfl rfl ?_
          refine Awp.skip ?_
          refine Awp.regionP C ?_
          refine rvP C (.pv (.lit (.int .i64 (IntKind.i64.wrap ((i1 : Int) + 1))))) ?_
          refine rvP C (.pv (.lit (.int .i64 (IntKind.i64.wrap ((i1 : Int) + 1))))) ?_
          refine rvc_nil ?_
          refine ⟨h7, (), ?_, ?_⟩
          · exact hR
          · exact ⟨fun b => b, WeakerR.ofL (Ks := [4]) hI ⟨⟨rfl, rfl⟩, ⟨rfl, rfl⟩, ⟨rfl, rfl⟩, ⟨rfl, rfl⟩, ⟨rfl, rfl⟩, ⟨rfl, rfl⟩, ⟨rfl, rfl⟩, ⟨lit_cast (wrap_i64 (by omega) (by omega)), rfl⟩, trivial⟩ (okH_cons rfl rfl rfl rfl (okH_nil)) rfl⟩
      ·
       replace hR := of_false h18 hR
       refine rvS ?_
       refine rvS ?_
       refine rvS ?_
       refine rvO C (.pv (.lit (.bool false))) ?_
       refine rvP C (.pv (.lit (.bool false))) ?_
       refine rvc_nil ?_
       refine Awp.condF (b := false) rfl rfl ?_
       refine Awp.skip ?_
       refine Awp.consP C ?_
       refine rvP C (.ptr 4 2) ?_
       refine rvP C (.pv (.lit (.int .i64 x.ver))) ?_
       refine rvP C (.ptr 6 2) ?_
       refine rvP C (.pv (.lit (.int .i64 x1.ver))) ?_
       refine rvP C (.pv (.lit (.bool (decide (x.ver > x1.ver))))) ?_
       refine rvP C (.pv (.lit (.bool (decide (x.ver > x1.ver))))) ?_
       refine rvc_case 53 (decide (x.ver > x1.ver)) rfl (fun h23 => ?_) (fun h23 => ?_)
       ·
        replace hR := of_true h23 hR
        refine rvS ?_
        refine rvS ?_
        refine rvS ?_
        refine rvc_shutU rfl rfl rfl ?_
        refine rvc_shutU rfl rfl rfl ?_
        refine rvc_shutU rfl rfl rfl ?_
        refine rvc_shutU rfl rfl rfl ?_
        refine rvc_shutU rfl rfl rfl ?_
        refine rvS ?_
        refine rvP C (.pv (.lit (.bool true))) ?_
        refine rvc_nil ?_
        refine Awp.condT (b := true) rfl rfl ?_
        refine Awp.consP C ?_
        refine rvP C (.pv (.lit (.bool false))) ?_
        refine rvc_nil ?_
        refine Awp.ret ?_
        subst hR
        exact ⟨.inl rfl, rfl⟩
       ·
        replace hR := of_false h23 hR
        refine rvO C (.ptr 6 0) ?_
        refine rvO C (.pv (.lit (.bool x1.write))) ?_
        refine rvO C (.pv (.lit (.bool x1.write))) ?_
        refine rvc_case 56 x1.write rfl (fun h24 => ?_) (fun h24 => ?_)
        ·
         replace hR := of_true h24 hR
         refine rvO C (.ptr 4 2) ?_
         refine rvO C (.pv (.lit (.int .i64 x.ver))) ?_
         refine rvO C (.ptr 6 2) ?_
         refine rvO C (.pv (.lit (.int .i64 x1.ver))) ?_
         refine rvO C (.pv (.lit (.bool (x.ver == x1.ver)))) ?_
         refine rvO C (.pv (.lit (.bool (x.ver == x1.ver)))) ?_
         refine rvP C (.pv (.lit (.bool (x.ver == x1.ver)))) ?_
         refine rvc_nil ?_
         refine Awp.cond (b := (x.ver == x1.ver)) rfl (fun h25 => ?_) (fun h25 => ?_)
         ·
          replace hR := of_true h25 hR
          refine Awp.consP C ?_
          refine rvP C (.pv (.lit (.bool false))) ?_
          refine rvc_nil ?_
          refine Awp.ret ?_
          subst hR
          exact ⟨.inl rfl, rfl⟩
         ·
          replace hR := of_false h25 hR
          refine Awp.skip ?_
          refine Awp.regionP C ?_
          refine rvP C (.pv (.lit (.int .i64 (IntKind.i64.wrap ((i1 : Int) + 1))))) ?_
          refine rvP C (.pv (.lit (.int .i64 (IntKind.i64.wrap ((i1 : Int) + 1))))) ?_
          refine rvc_nil ?_
          refine ⟨h7, (), ?_, ?_⟩
          · exact hR
          · exact ⟨fun b => b, WeakerR.ofL (Ks := [4]) hI ⟨⟨rfl, rfl⟩, ⟨rfl, rfl⟩, ⟨rfl, rfl⟩, ⟨rfl, rfl⟩, ⟨rfl, rfl⟩, ⟨rfl, rfl⟩, ⟨rfl, rfl⟩, ⟨lit_cast (wrap_i64 (by omega) (by omega)), rfl⟩, trivial⟩ (okH_cons rfl rfl rfl rfl (okH_nil)) rfl⟩
        ·
         replace hR := of_false h24 hR
         refine rvS ?_
         refine rvS ?_
         refine rvS ?_
         refine rvS ?_
         refine rvS ?_
         refine rvO C (.pv (.lit (.bool false))) ?_
         refine rvP C (.pv (.lit (.bool false))) ?_
         refine rvc_nil ?_
         refine Awp.condF (b := false) rfl rfl ?_
         refine Awp.skip ?_
         refine Awp.regionP C ?_
         refine rvP C (.pv (.lit (.int .i64 (IntKind.i64.wrap ((i1 : Int) + 1))))) ?_
         refine rvP C (.pv (.lit (.int .i64 (IntKind.i64.wrap ((i1 : Int) + 1))))) ?_
         refine rvc_nil ?_
         refine ⟨h7, (), ?_, ?_⟩
         · exact hR
         · exact ⟨fun b => b, WeakerR.ofL (Ks := [4]) hI ⟨⟨rfl, rfl⟩, ⟨rfl, rfl⟩, ⟨rfl, rfl⟩, ⟨rfl, rfl⟩, ⟨rfl, rfl⟩, ⟨rfl, rfl⟩, ⟨rfl, rfl⟩, ⟨lit_cast (wrap_i64 (by omega) (by omega)), rfl⟩, trivial⟩ (okH_cons rfl rfl rfl rfl (okH_nil)) rfl⟩
  ·
   have h7 : ¬ i1 < l.D.length := by have := of_decide_eq_false h6; omega
   rw [drop_end h7] at hR
   refine Awp.exit ?_
   refine Awp.regionP C ?_
   refine rvP C (.pv (.lit (.int .i64 (IntKind.i64.wrap ((i : Int) + 1))))) ?_
   refine rvP C (.pv (.lit (.int .i64 (IntKind.i64.wrap ((i : Int) + 1))))) ?_
   refine rvc_nil ?_
   refine ⟨h3, (), ?_, ?_⟩
   · exact hR
   · exact ⟨fun b => b, WeakerR.ofL (Ks := []) hI ⟨⟨rfl, rfl⟩, ⟨rfl, rfl⟩, ⟨rfl, rfl⟩, ⟨lit_cast (wrap_i64 (by omega) (by omega)), rfl⟩, trivial⟩ (okH_nil) rfl⟩
 ·
  have h3 : ¬ i < l.D.length := by have := of_decide_eq_false h2; omega
  rw [drop_end h3] at hR
  refine Awp.exit ?_
  refine Awp.consP C ?_
  refine rvP C (.pv (.lit (.bool true))) ?_
  refine rvc_nil ?_
  refine Awp.ret ?_
  subst hR
  exact ⟨.inl rfl, rfl⟩
def versions_l1 (l : (Sl Op)) (vc : (List (Int × Stand))) : List Op → Nat → Bool
  | [], _ => (rising l)
  | x1 :: x1s, i1 => (bif (x1.ended == 0) then versions_l1 l vc x1s (i1 + 1)  else (bif (x1.ver == 0) then (bif x1.write then false else (bif (!(x1.value.toList == (⟨#[]⟩ : ByteArray).toList)) then false else (bif (x1.ver != 0) then (bif (!x1.write) then (bif (!(((mGet kI64 x1.ver vc).getD (Stand.mk ⟨#[]⟩ 0 false)).there)) then false else (bif (!((((mGet kI64 x1.ver vc).getD (Stand.mk ⟨#[]⟩ 0 false)).value).toList == x1.value.toList)) then false else (bif (decide ((((mGet kI64 x1.ver vc).getD (Stand.mk ⟨#[]⟩ 0 false)).began) ≥ x1.ended)) then false else versions_l1 l vc x1s (i1 + 1) ))) else versions_l1 l vc x1s (i1 + 1) ) else versions_l1 l vc x1s (i1 + 1) ))) else (bif (x1.ver != 0) then (bif (!x1.write) then (bif (!(((mGet kI64 x1.ver vc).getD (Stand.mk ⟨#[]⟩ 0 false)).there)) then false else (bif (!((((mGet kI64 x1.ver vc).getD (Stand.mk ⟨#[]⟩ 0 false)).value).toList == x1.value.toList)) then false else (bif (decide ((((mGet kI64 x1.ver vc).getD (Stand.mk ⟨#[]⟩ 0 false)).began) ≥ x1.ended)) then false else versions_l1 l vc x1s (i1 + 1) ))) else versions_l1 l vc x1s (i1 + 1) ) else versions_l1 l vc x1s (i1 + 1) )))
def versions_l0 (l : (Sl Op)) : List Op → Nat → (List (Int × Stand)) → Bool
  | [], _, vc => versions_l1 l vc l.D 0 
  | x :: xs, i, vc => (bif (!x.write) then versions_l0 l xs (i + 1) vc else (bif (x.ver == 0) then versions_l0 l xs (i + 1) vc else (bif ((mGet kI64 x.ver vc).getD (Stand.mk ⟨#[]⟩ 0 false)).there then false else versions_l0 l xs (i + 1) (mSet kI64 x.ver (Stand.mk x.value x.began true) vc))))
def versions (l : (Sl Op)) : Bool :=
  versions_l0 l l.D 0 []
theorem versions_calls (l : (Sl Op)) (hl1 : l.D.length ≤ 9223372036854775807) : PCalls Try.prog 35 [sS (some l.nil) eOp l.D] (.pv (.lit (.bool (versions l)))) := by
 generalize hR : versions l = R
 refine PCalls.of_body tabOk Try.func35 rfl rfl rfl rfl rfl mixed fun E hP C hI => ?_
 refine Awp.consP C ?_
 refine rvP C (.pv (.lit (.bool false))) ?_
 refine rvc_nil ?_
 refine Awp.consP C ?_
 refine rvc_un (rexec_makeMap C rfl rfl kI64 vStand ?_)
 refine rvP C (.mp 9) ?_
 refine rvc_nil ?_
 refine Awp.seq ?_
 refine Awp.consP C ?_
 refine rvP C (sS (some l.nil) eOp l.D) ?_
 refine rvP C (.pv (.lit (.int .i64 (l.D.length : Int)))) ?_
 refine rvP C (.pv (.lit (.int .i64 0))) ?_
 refine rvc_nil ?_
 refine Awp.block ?_
 refine Awp.forR (σ := ((List (Int × Stand)))) (l.D.length) (fun i v => [(0, sS (some l.nil) eOp l.D), (3, .mp 9), (10, sS (some l.nil) eOp l.D), (11, .pv (.lit (.int .i64 (l.D.length : Int)))), (12, .pv (.lit (.int .i64 (i : Int))))]) (fun i v => [(9, mapE kI64 vStand.enc v)]) [9] (fun i v => versions_l0 l (l.D.drop i) i v = R) [] ?_ ?_ (fun i vc h1 hR => ?_)
 · exact hR
 · exact ⟨fun b => b, WeakerR.ofL (Ks := [9]) hI ⟨⟨rfl, rfl⟩, ⟨rfl, rfl⟩, ⟨rfl, rfl⟩, ⟨rfl, rfl⟩, ⟨rfl, rfl⟩, trivial⟩ (okH_map rfl rfl rfl (okH_nil)) rfl⟩
 refine Awp.consP C ?_
 refine rvP C (.pv (.lit (.bool (decide ((i : Int) < (l.D.length : Int)))))) ?_
 refine rvc_nil ?_
 refine Awp.seq ?_
 refine Awp.cond (b := (decide ((i : Int) < (l.D.length : Int)))) rfl (fun h2 => ?_) (fun h2 => ?_)
 ·
  have h3 : i < l.D.length := by have := of_decide_eq_true h2; omega
  obtain ⟨x, h4⟩ := getX h3
  rw [drop_at h4] at hR
  refine Awp.skip ?_
  refine Awp.seq ?_
  refine Awp.block ?_
  refine Awp.consP C ?_
  refine rvc_un (rexec_idxS C rfl rfl rfl rfl rfl rfl x (Int.natCast_nonneg _) h4 ?_)
  refine rvP C (.agg [.pv (.lit (.bool x.write)), .pv (.lit (.string x.value)), .pv (.lit (.int .i64 x.ver)), .pv (.lit (.int .i64 x.began)), .pv (.lit (.int .i64 x.ended))]) ?_
  refine rvc_un (rexec_prim C (δ := { v := .ptr 5 0, new := [(5, .cells [.pv (.lit (.bool false)), .pv (.lit (.string ⟨#[]⟩)), .pv (.lit (.int .i64 0)), .pv (.lit (.int .i64 0)), .pv (.lit (.int .i64 0))])] }) rfl rfl rfl rfl trivial rfl ?_)
  refine rvc_un (rexec_prim C (δ := { v := .undef, wr := [(5, some (.cells [.pv (.lit (.bool x.write)), .pv (.lit (.string x.value)), .pv (.lit (.int .i64 x.ver)), .pv (.lit (.int .i64 x.began)), .pv (.lit (.int .i64 x.ended))]))] }) rfl rfl rfl rfl trivial rfl ?_)
  refine rvc_nil ?_
  refine Awp.seq ?_
  refine Awp.consP C ?_
  refine rvP C (.ptr 5 0) ?_
  refine rvP C (.pv (.lit (.bool x.write))) ?_
  refine rvP C (.pv (.lit (.bool (!x.write)))) ?_
  refine rvP C (.pv (.lit (.bool (!x.write)))) ?_
  refine rvc_case 19 (!x.write) rfl (fun h5 => ?_) (fun h5 => ?_)
  ·
   replace hR := of_true h5 hR
   refine rvS ?_
   refine rvS ?_
   refine rvS ?_
   refine rvP C (.pv (.lit (.bool true))) ?_
   refine rvc_nil ?_
   refine Awp.condT (b := true) rfl rfl ?_
   refine Awp.exit ?_
   refine Awp.regionP C ?_
   refine rvP C (.pv (.lit (.int .i64 (IntKind.i64.wrap ((i : Int) + 1))))) ?_
   refine rvP C (.pv (.lit (.int .i64 (IntKind.i64.wrap ((i : Int) + 1))))) ?_
   refine rvc_nil ?_
   refine ⟨h3, vc, ?_, ?_⟩
   · exact hR
   · exact ⟨fun b => b, WeakerR.ofL (Ks := [9]) hI ⟨⟨rfl, rfl⟩, ⟨rfl, rfl⟩, ⟨rfl, rfl⟩, ⟨rfl, rfl⟩, ⟨lit_cast (wrap_i64 (by omega) (by omega)), rfl⟩, trivial⟩ (okH_map rfl rfl rfl (okH_nil)) rfl⟩
  ·
   replace hR := of_false h5 hR
   refine rvO C (.ptr 5 2) ?_
   refine rvO C (.pv (.lit (.int .i64 x.ver))) ?_
   refine rvO C (.pv (.lit (.bool (x.ver == 0)))) ?_
   refine rvP C (.pv (.lit (.bool (x.ver == 0)))) ?_
   refine rvc_nil ?_
   refine Awp.cond (b := (x.ver == 0)) rfl (fun h6 => ?_) (fun h6 => ?_)
   ·
    replace hR := of_true h6 hR
    refine Awp.exit ?_
    refine Awp.regionP C ?_
    refine rvP C (.pv (.lit (.int .i64 (IntKind.i64.wrap ((i : Int) + 1))))) ?_
    refine rvP C (.pv (.lit (.int .i64 (IntKind.i64.wrap ((i : Int) + 1))))) ?_
    refine rvc_nil ?_
    refine ⟨h3, vc, ?_, ?_⟩
    · exact hR
    · exact ⟨fun b => b, WeakerR.ofL (Ks := [9]) hI ⟨⟨rfl, rfl⟩, ⟨rfl, rfl⟩, ⟨rfl, rfl⟩, ⟨rfl, rfl⟩, ⟨lit_cast (wrap_i64 (by omega) (by omega)), rfl⟩, trivial⟩ (okH_map rfl rfl rfl (okH_nil)) rfl⟩
   ·
    replace hR := of_false h6 hR
    refine Awp.skip ?_
    refine Awp.seq ?_
    refine Awp.consP C ?_
    refine rvP C (.mp 9) ?_
    refine rvP C (.ptr 5 2) ?_
    refine rvP C (.pv (.lit (.int .i64 x.ver))) ?_
    refine rvc_un (rexec_lookup hP C rfl x.ver (Stand.mk ⟨#[]⟩ 0 false) rfl rfl rfl rfl rfl rfl kI64_ok rfl (.agg [.pv (.lit (.string (((mGet kI64 x.ver vc).getD (Stand.mk ⟨#[]⟩ 0 false)).value))), .pv (.lit (.int .i64 (((mGet kI64 x.ver vc).getD (Stand.mk ⟨#[]⟩ 0 false)).began))), .pv (.lit (.bool (((mGet kI64 x.ver vc).getD (Stand.mk ⟨#[]⟩ 0 false)).there)))]) rfl ?_)
    refine rvP C (.pv (.lit (.bool (((mGet kI64 x.ver vc).getD (Stand.mk ⟨#[]⟩ 0 false)).there)))) ?_
    refine rvc_nil ?_
    refine Awp.cond (b := ((mGet kI64 x.ver vc).getD (Stand.mk ⟨#[]⟩ 0 false)).there) rfl (fun h7 => ?_) (fun h7 => ?_)
    ·
     replace hR := of_true h7 hR
     refine Awp.consP C ?_
     refine rvP C (.pv (.lit (.bool false))) ?_
     refine rvc_nil ?_
     refine Awp.ret ?_
     subst hR
     exact ⟨.inl rfl, rfl⟩
    ·
     replace hR := of_false h7 hR
     refine Awp.skip ?_
     refine Awp.regionP C ?_
     refine rvP C (.mp 9) ?_
     refine rvP C (.ptr 5 2) ?_
     refine rvP C (.pv (.lit (.int .i64 x.ver))) ?_
     refine rvP C (.ptr 5 1) ?_
     refine rvP C (.pv (.lit (.string x.value))) ?_
     refine rvP C (.ptr 5 3) ?_
     refine rvP C (.pv (.lit (.int .i64 x.began))) ?_
     refine rvP C (.agg [.pv (.lit (.string x.value)), .pv (.lit (.int .i64 x.began)), .pv (.lit (.bool true))]) ?_
     refine rvc_un (rexec_mapUpdate hP C x.ver (Stand.mk x.value x.began true) rfl rfl rfl rfl rfl rfl kI64_ok ?_)
     refine rvc_nil ?_
     refine Awp.regionP C ?_
     refine rvP C (.pv (.lit (.int .i64 (IntKind.i64.wrap ((i : Int) + 1))))) ?_
     refine rvP C (.pv (.lit (.int .i64 (IntKind.i64.wrap ((i : Int) + 1))))) ?_
     refine rvc_nil ?_
     refine ⟨h3, (mSet kI64 x.ver (Stand.mk x.value x.began true) vc), ?_, ?_⟩
     · exact hR
     · exact ⟨fun b => b, WeakerR.ofL (Ks := [9]) hI ⟨⟨rfl, rfl⟩, ⟨rfl, rfl⟩, ⟨rfl, rfl⟩, ⟨rfl, rfl⟩, ⟨lit_cast (wrap_i64 (by omega) (by omega)), rfl⟩, trivial⟩ (okH_map rfl rfl rfl (okH_nil)) rfl⟩
 ·
  have h3 : ¬ i < l.D.length := by have := of_decide_eq_false h2; omega
  rw [drop_end h3] at hR
  refine Awp.exit ?_
  refine Awp.seq ?_
  refine Awp.consP C ?_
  refine rvP C (sS (some l.nil) eOp l.D) ?_
  refine rvP C (.pv (.lit (.int .i64 (l.D.length : Int)))) ?_
  refine rvP C (.pv (.lit (.int .i64 0))) ?_
  refine rvc_nil ?_
  refine Awp.block ?_
  refine Awp.forR (σ := Unit) (l.D.length) (fun i1 _v => [(0, sS (some l.nil) eOp l.D), (3, .mp 9), (38, sS (some l.nil) eOp l.D), (39, .pv (.lit (.int .i64 (l.D.length : Int)))), (40, .pv (.lit (.int .i64 (i1 : Int))))]) (fun i1 _v => [(9, mapE kI64 vStand.enc vc)]) [9] (fun i1 _v => versions_l1 l vc (l.D.drop i1) i1  = R) () ?_ ?_ (fun i1 _v h8 hR => ?_)
  · exact hR
  · exact ⟨fun b => b, WeakerR.ofL (Ks := [9]) hI ⟨⟨rfl, rfl⟩, ⟨rfl, rfl⟩, ⟨rfl, rfl⟩, ⟨rfl, rfl⟩, ⟨rfl, rfl⟩, trivial⟩ (okH_map rfl rfl rfl (okH_nil)) rfl⟩
  refine Awp.consP C ?_
  refine rvP C (.pv (.lit (.bool (decide ((i1 : Int) < (l.D.length : Int)))))) ?_
  refine rvc_nil ?_
  refine Awp.seq ?_
  refine Awp.cond (b := (decide ((i1 : Int) < (l.D.length : Int)))) rfl (fun h9 => ?_) (fun h9 => ?_)
  ·
   have h10 : i1 < l.D.length := by have := of_decide_eq_true h9; omega
   obtain ⟨x1, h11⟩ := getX h10
   rw [drop_at h11] at hR
   refine Awp.skip ?_
   refine Awp.seq ?_
   refine Awp.block ?_
   refine Awp.consP C ?_
   refine rvc_un (rexec_idxS C rfl rfl rfl rfl rfl rfl x1 (Int.natCast_nonneg _) h11 ?_)
   refine rvP C (.agg [.pv (.lit (.bool x1.write)), .pv (.lit (.string x1.value)), .pv (.lit (.int .i64 x1.ver)), .pv (.lit (.int .i64 x1.began)), .pv (.lit (.int .i64 x1.ended))]) ?_
   refine rvc_un (rexec_prim C (δ := { v := .ptr 7 0, new := [(7, .cells [.pv (.lit (.bool false)), .pv (.lit (.string ⟨#[]⟩)), .pv (.lit (.int .i64 0)), .pv (.lit (.int .i64 0)), .pv (.lit (.int .i64 0))])] }) rfl rfl rfl rfl trivial rfl ?_)
   refine rvc_un (rexec_prim C (δ := { v := .undef, wr := [(7, some (.cells [.pv (.lit (.bool x1.write)), .pv (.lit (.string x1.value)), .pv (.lit (.int .i64 x1.ver)), .pv (.lit (.int .i64 x1.began)), .pv (.lit (.int .i64 x1.ended))]))] }) rfl rfl rfl rfl trivial rfl ?_)
   refine rvc_nil ?_
   refine Awp.consP C ?_
   refine rvP C (.mp 9) ?_
   refine rvP C (.ptr 7 2) ?_
   refine rvP C (.pv (.lit (.int .i64 x1.ver))) ?_
   refine rvc_un (rexec_lookup hP C rfl x1.ver (Stand.mk ⟨#[]⟩ 0 false) rfl rfl rfl rfl rfl rfl kI64_ok rfl (.agg [.pv (.lit (.string (((mGet kI64 x1.ver vc).getD (Stand.mk ⟨#[]⟩ 0 false)).value))), .pv (.lit (.int .i64 (((mGet kI64 x1.ver vc).getD (Stand.mk ⟨#[]⟩ 0 false)).began))), .pv (.lit (.bool (((mGet kI64 x1.ver vc).getD (Stand.mk ⟨#[]⟩ 0 false)).there)))]) rfl ?_)
   refine rvc_un (rexec_prim C (δ := { v := .ptr 8 0, new := [(8, .cells [.pv (.lit (.string ⟨#[]⟩)), .pv (.lit (.int .i64 0)), .pv (.lit (.bool false))])] }) rfl rfl rfl rfl trivial rfl ?_)
   refine rvc_un (rexec_prim C (δ := { v := .undef, wr := [(8, some (.cells [.pv (.lit (.string (((mGet kI64 x1.ver vc).getD (Stand.mk ⟨#[]⟩ 0 false)).value))), .pv (.lit (.int .i64 (((mGet kI64 x1.ver vc).getD (Stand.mk ⟨#[]⟩ 0 false)).began))), .pv (.lit (.bool (((mGet kI64 x1.ver vc).getD (Stand.mk ⟨#[]⟩ 0 false)).there)))]))] }) rfl rfl rfl rfl trivial rfl ?_)
   refine rvc_nil ?_
   refine Awp.block ?_
   refine Awp.consP C ?_
   refine rvP C (.ptr 7 4) ?_
   refine rvP C (.pv (.lit (.int .i64 x1.ended))) ?_
   refine rvP C (.pv (.lit (.bool (x1.ended == 0)))) ?_
   refine rvP C (.pv (.lit (.bool (x1.ended == 0)))) ?_
   refine rvc_nil ?_
   refine Awp.cond (b := (x1.ended == 0)) rfl (fun h12 => ?_) (fun h12 => ?_)
   ·
    replace hR := of_true h12 hR
    refine Awp.skip ?_
    refine Awp.regionP C ?_
    refine rvP C (.pv (.lit (.int .i64 (IntKind.i64.wrap ((i1 : Int) + 1))))) ?_
    refine rvP C (.pv (.lit (.int .i64 (IntKind.i64.wrap ((i1 : Int) + 1))))) ?_
    refine rvc_nil ?_
    refine ⟨h10, (), ?_, ?_⟩
    · exact hR
    · exact ⟨fun b => b, WeakerR.ofL (Ks := [9]) hI ⟨⟨rfl, rfl⟩, ⟨rfl, rfl⟩, ⟨rfl, rfl⟩, ⟨rfl, rfl⟩, ⟨lit_cast (wrap_i64 (by omega) (by omega)), rfl⟩, trivial⟩ (okH_map rfl rfl rfl (okH_nil)) rfl⟩
   ·
    replace hR := of_false h12 hR
    refine Awp.consP C ?_
    refine rvP C (.ptr 7 2) ?_
    refine rvP C (.pv (.lit (.int .i64 x1.ver))) ?_
    refine rvP C (.pv (.lit (.bool (x1.ver == 0)))) ?_
    refine rvP C (.pv (.lit (.bool (x1.ver == 0)))) ?_
    refine rvc_case 56 (x1.ver == 0) rfl (fun h13 => ?_) (fun h13 => ?_)
    ·
     replace hR := of_true h13 hR
     refine rvO C (.ptr 7 0) ?_
     refine rvO C (.pv (.lit (.bool x1.write))) ?_
     refine rvO C (.pv (.lit (.bool x1.write))) ?_
     refine rvc_case 59 x1.write rfl (fun h14 => ?_) (fun h14 => ?_)
     ·
      replace hR := of_true h14 hR
      refine rvS ?_
      refine rvS ?_
      refine rvS ?_
      refine rvO C (.pv (.lit (.bool true))) ?_
      refine rvP C (.pv (.lit (.bool true))) ?_
      refine rvP C (.pv (.lit (.bool true))) ?_
      refine rvc_nil ?_
      refine Awp.condT (b := true) rfl rfl ?_
      refine Awp.consP C ?_
      refine rvP C (.pv (.lit (.bool false))) ?_
      refine rvc_nil ?_
      refine Awp.ret ?_
      subst hR
      exact ⟨.inl rfl, rfl⟩
     ·
      replace hR := of_false h14 hR
      refine rvO C (.ptr 7 1) ?_
      refine rvO C (.pv (.lit (.string x1.value))) ?_
      refine rvO C (.pv (.lit (.bool (!(x1.value.toList == (⟨#[]⟩ : ByteArray).toList))))) ?_
      refine rvO C (.pv (.lit (.bool (!(x1.value.toList == (⟨#[]⟩ : ByteArray).toList))))) ?_
      refine rvP C (.pv (.lit (.bool (!(x1.value.toList == (⟨#[]⟩ : ByteArray).toList))))) ?_
      refine rvP C (.pv (.lit (.bool (!(x1.value.toList == (⟨#[]⟩ : ByteArray).toList))))) ?_
      refine rvc_nil ?_
      refine Awp.cond (b := (!(x1.value.toList == (⟨#[]⟩ : ByteArray).toList))) rfl (fun h15 => ?_) (fun h15 => ?_)
      ·
       replace hR := of_true h15 hR
       refine Awp.consP C ?_
       refine rvP C (.pv (.lit (.bool false))) ?_
       refine rvc_nil ?_
       refine Awp.ret ?_
       subst hR
       exact ⟨.inl rfl, rfl⟩
      ·
       replace hR := of_false h15 hR
       refine Awp.consP C ?_
       refine rvP C (.ptr 7 2) ?_
       refine rvP C (.pv (.lit (.int .i64 x1.ver))) ?_
       refine rvP C (.pv (.lit (.bool (x1.ver != 0)))) ?_
       refine rvP C (.pv (.lit (.bool (x1.ver != 0)))) ?_
       refine rvc_case 69 (x1.ver != 0) rfl (fun h16 => ?_) (fun h16 => ?_)
       ·
        replace hR := of_true h16 hR
        refine rvO C (.ptr 7 0) ?_
        refine rvO C (.pv (.lit (.bool x1.write))) ?_
        refine rvO C (.pv (.lit (.bool (!x1.write)))) ?_
        refine rvP C (.pv (.lit (.bool (!x1.write)))) ?_
        refine rvP C (.pv (.lit (.bool (!x1.write)))) ?_
        refine rvc_case 74 (!x1.write) rfl (fun h17 => ?_) (fun h17 => ?_)
        ·
         replace hR := of_true h17 hR
         refine rvO C (.ptr 8 2) ?_
         refine rvO C (.pv (.lit (.bool (((mGet kI64 x1.ver vc).getD (Stand.mk ⟨#[]⟩ 0 false)).there)))) ?_
         refine rvO C (.pv (.lit (.bool (!(((mGet kI64 x1.ver vc).getD (Stand.mk ⟨#[]⟩ 0 false)).there))))) ?_
         refine rvO C (.pv (.lit (.bool (!(((mGet kI64 x1.ver vc).getD (Stand.mk ⟨#[]⟩ 0 false)).there))))) ?_
         refine rvc_case 78 (!(((mGet kI64 x1.ver vc).getD (Stand.mk ⟨#[]⟩ 0 false)).there)) rfl (fun h18 => ?_) (fun h18 => ?_)
         ·
          replace hR := of_true h18 hR
          refine rvS ?_
          refine rvS ?_
          refine rvS ?_
          refine rvS ?_
          refine rvS ?_
          refine rvO C (.pv (.lit (.bool true))) ?_
          refine rvO C (.pv (.lit (.bool true))) ?_
          refine rvS ?_
          refine rvS ?_
          refine rvS ?_
          refine rvS ?_
          refine rvS ?_
          refine rvO C (.pv (.lit (.bool true))) ?_
          refine rvP C (.pv (.lit (.bool true))) ?_
          refine rvP C (.pv (.lit (.bool true))) ?_
          refine rvc_nil ?_
          refine Awp.condT (b := true) rfl rfl ?_
          refine Awp.consP C ?_
          refine rvP C (.pv (.lit (.bool false))) ?_
          refine rvc_nil ?_
          refine Awp.ret ?_
          subst hR
          exact ⟨.inl rfl, rfl⟩
         ·
          replace hR := of_false h18 hR
          refine rvO C (.ptr 8 0) ?_
          refine rvO C (.pv (.lit (.string (((mGet kI64 x1.ver vc).getD (Stand.mk ⟨#[]⟩ 0 false)).value)))) ?_
          refine rvO C (.ptr 7 1) ?_
          refine rvO C (.pv (.lit (.string x1.value))) ?_
          refine rvO C (.pv (.lit (.bool (!((((mGet kI64 x1.ver vc).getD (Stand.mk ⟨#[]⟩ 0 false)).value).toList == x1.value.toList))))) ?_
          refine rvO C (.pv (.lit (.bool (!((((mGet kI64 x1.ver vc).getD (Stand.mk ⟨#[]⟩ 0 false)).value).toList == x1.value.toList))))) ?_
          refine rvO C (.pv (.lit (.bool (!((((mGet kI64 x1.ver vc).getD (Stand.mk ⟨#[]⟩ 0 false)).value).toList == x1.value.toList))))) ?_
          refine rvc_case 85 (!((((mGet kI64 x1.ver vc).getD (Stand.mk ⟨#[]⟩ 0 false)).value).toList == x1.value.toList)) rfl (fun h19 => ?_) (fun h19 => ?_)
          ·
           replace hR := of_true h19 hR
           refine rvS ?_
           refine rvS ?_
           refine rvS ?_
           refine rvS ?_
           refine rvS ?_
           refine rvO C (.pv (.lit (.bool true))) ?_
           refine rvP C (.pv (.lit (.bool true))) ?_
           refine rvP C (.pv (.lit (.bool true))) ?_
           refine rvc_nil ?_
           refine Awp.condT (b := true) rfl rfl ?_
           refine Awp.consP C ?_
           refine rvP C (.pv (.lit (.bool false))) ?_
           refine rvc_nil ?_
           refine Awp.ret ?_
           subst hR
           exact ⟨.inl rfl, rfl⟩
          ·
           replace hR := of_false h19 hR
           refine rvO C (.ptr 8 1) ?_
           refine rvO C (.pv (.lit (.int .i64 (((mGet kI64 x1.ver vc).getD (Stand.mk ⟨#[]⟩ 0 false)).began)))) ?_
           refine rvO C (.ptr 7 4) ?_
           refine rvO C (.pv (.lit (.int .i64 x1.ended))) ?_
           refine rvO C (.pv (.lit (.bool (decide ((((mGet kI64 x1.ver vc).getD (Stand.mk ⟨#[]⟩ 0 false)).began) ≥ x1.ended))))) ?_
           refine rvO C (.pv (.lit (.bool (decide ((((mGet kI64 x1.ver vc).getD (Stand.mk ⟨#[]⟩ 0 false)).began) ≥ x1.ended))))) ?_
           refine rvP C (.pv (.lit (.bool (decide ((((mGet kI64 x1.ver vc).getD (Stand.mk ⟨#[]⟩ 0 false)).began) ≥ x1.ended))))) ?_
           refine rvP C (.pv (.lit (.bool (decide ((((mGet kI64 x1.ver vc).getD (Stand.mk ⟨#[]⟩ 0 false)).began) ≥ x1.ended))))) ?_
           refine rvc_nil ?_
           refine Awp.cond (b := (decide ((((mGet kI64 x1.ver vc).getD (Stand.mk ⟨#[]⟩ 0 false)).began) ≥ x1.ended))) rfl (fun h20 => ?_) (fun h20 => ?_)
           ·
            replace hR := of_true h20 hR
            refine Awp.consP C ?_
            refine rvP C (.pv (.lit (.bool false))) ?_
            refine rvc_nil ?_
            refine Awp.ret ?_
            subst hR
            exact ⟨.inl rfl, rfl⟩
           ·
            replace hR := of_false h20 hR
            refine Awp.skip ?_
            refine Awp.regionP C ?_
            refine rvP C (.pv (.lit (.int .i64 (IntKind.i64.wrap ((i1 : Int) + 1))))) ?_
            refine rvP C (.pv (.lit (.int .i64 (IntKind.i64.wrap ((i1 : Int) + 1))))) ?_
            refine rvc_nil ?_
            refine ⟨h10, (), ?_, ?_⟩
            · exact hR
            · exact ⟨fun b => b, WeakerR.ofL (Ks := [9]) hI ⟨⟨rfl, rfl⟩, ⟨rfl, rfl⟩, ⟨rfl, rfl⟩, ⟨rfl, rfl⟩, ⟨lit_cast (wrap_i64 (by omega) (by omega)), rfl⟩, trivial⟩ (okH_map rfl rfl rfl (okH_nil)) rfl⟩
        ·
         replace hR := of_false h17 hR
         refine rvS ?_
         refine rvS ?_
         refine rvS ?_
         refine rvS ?_
         refine rvc_shutU rfl rfl rfl ?_
         refine rvc_shutU rfl rfl rfl ?_
         refine rvc_shutU rfl rfl rfl ?_
         refine rvc_shutU rfl rfl rfl ?_
         refine rvc_shutU rfl rfl rfl ?_
         refine rvS ?_
         refine rvS ?_
         refine rvc_shutU rfl rfl rfl ?_
         refine rvc_shutU rfl rfl rfl ?_
         refine rvc_shutU rfl rfl rfl ?_
         refine rvc_shutU rfl rfl rfl ?_
         refine rvc_shutU rfl rfl rfl ?_
         refine rvS ?_
         refine rvP C (.pv (.lit (.bool false))) ?_
         refine rvP C (.pv (.lit (.bool false))) ?_
         refine rvc_nil ?_
         refine Awp.condF (b := false) rfl rfl ?_
         refine Awp.skip ?_
         refine Awp.regionP C ?_
         refine rvP C (.pv (.lit (.int .i64 (IntKind.i64.wrap ((i1 : Int) + 1))))) ?_
         refine rvP C (.pv (.lit (.int .i64 (IntKind.i64.wrap ((i1 : Int) + 1))))) ?_
         refine rvc_nil ?_
         refine ⟨h10, (), ?_, ?_⟩
         · exact hR
         · exact ⟨fun b => b, WeakerR.ofL (Ks := [9]) hI ⟨⟨rfl, rfl⟩, ⟨rfl, rfl⟩, ⟨rfl, rfl⟩, ⟨rfl, rfl⟩, ⟨lit_cast (wrap_i64 (by omega) (by omega)), rfl⟩, trivial⟩ (okH_map rfl rfl rfl (okH_nil)) rfl⟩
       ·
        replace hR := of_false h16 hR
        refine rvS ?_
        refine rvS ?_
        refine rvS ?_
        refine rvP C (.pv (.lit (.bool false))) ?_
        refine rvP C (.pv (.lit (.bool false))) ?_
        refine rvS ?_
        refine rvS ?_
        refine rvS ?_
        refine rvS ?_
        refine rvc_shutU rfl rfl rfl ?_
        refine rvc_shutU rfl rfl rfl ?_
        refine rvc_shutU rfl rfl rfl ?_
        refine rvc_shutU rfl rfl rfl ?_
        refine rvc_shutU rfl rfl rfl ?_
        refine rvS ?_
        refine rvS ?_
        refine rvc_shutU rfl rfl rfl ?_
        refine rvc_shutU rfl rfl rfl ?_
        refine rvc_shutU rfl rfl rfl ?_
        refine rvc_shutU rfl rfl rfl ?_
        refine rvc_shutU rfl rfl rfl ?_
        refine rvS ?_
        refine rvP C (.pv (.lit (.bool false))) ?_
        refine rvP C (.pv (.lit (.bool false))) ?_
        refine rvc_nil ?_
        refine Awp.condF (b := false) rfl rfl ?_
        refine Awp.skip ?_
        refine Awp.regionP C ?_
        refine rvP C (.pv (.lit (.int .i64 (IntKind.i64.wrap ((i1 : Int) + 1))))) ?_
        refine rvP C (.pv (.lit (.int .i64 (IntKind.i64.wrap ((i1 : Int) + 1))))) ?_
        refine rvc_nil ?_
        refine ⟨h10, (), ?_, ?_⟩
        · exact hR
        · exact ⟨fun b => b, WeakerR.ofL (Ks := [9]) hI ⟨⟨rfl, rfl⟩, ⟨rfl, rfl⟩, ⟨rfl, rfl⟩, ⟨rfl, rfl⟩, ⟨lit_cast (wrap_i64 (by omega) (by omega)), rfl⟩, trivial⟩ (okH_map rfl rfl rfl (okH_nil)) rfl⟩
    ·
     replace hR := of_false h13 hR
     refine rvS ?_
     refine rvS ?_
     refine rvS ?_
     refine rvc_shutU rfl rfl rfl ?_
     refine rvc_shutU rfl rfl rfl ?_
     refine rvc_shutU rfl rfl rfl ?_
     refine rvS ?_
     refine rvP C (.pv (.lit (.bool false))) ?_
     refine rvP C (.pv (.lit (.bool false))) ?_
     refine rvc_nil ?_
     refine Awp.condF (b := false) rfl rfl ?_
     refine Awp.consP C ?_
     refine rvP C (.ptr 7 2) ?_
     refine rvP C (.pv (.lit (.int .i64 x1.ver))) ?_
     refine rvP C (.pv (.lit (.bool (x1.ver != 0)))) ?_
     refine rvP C (.pv (.lit (.bool (x1.ver != 0)))) ?_
     refine rvc_case 69 (x1.ver != 0) rfl (fun h21 => ?_) (fun h21 => ?_)
     ·
      replace hR := of_true h21 hR
      refine rvO C (.ptr 7 0) ?_
      refine rvO C (.pv (.lit (.bool x1.write))) ?_
      refine rvO C (.pv (.lit (.bool (!x1.write)))) ?_
      refine rvP C (.pv (.lit (.bool (!x1.write)))) ?_
      refine rvP C (.pv (.lit (.bool (!x1.write)))) ?_
      refine rvc_case 74 (!x1.write) rfl (fun h22 => ?_) (fun h22 => ?_)
      ·
       replace hR := of_true h22 hR
       refine rvO C (.ptr 8 2) ?_
       refine rvO C (.pv (.lit (.bool (((mGet kI64 x1.ver vc).getD (Stand.mk ⟨#[]⟩ 0 false)).there)))) ?_
       refine rvO C (.pv (.lit (.bool (!(((mGet kI64 x1.ver vc).getD (Stand.mk ⟨#[]⟩ 0 false)).there))))) ?_
       refine rvO C (.pv (.lit (.bool (!(((mGet kI64 x1.ver vc).getD (Stand.mk ⟨#[]⟩ 0 false)).there))))) ?_
       refine rvc_case 78 (!(((mGet kI64 x1.ver vc).getD (Stand.mk ⟨#[]⟩ 0 false)).there)) rfl (fun h23 => ?_) (fun h23 => ?_)
       ·
        replace hR := of_true h23 hR
        refine rvS ?_
        refine rvS ?_
        refine rvS ?_
        refine rvS ?_
        refine rvS ?_
        refine rvO C (.pv (.lit (.bool true))) ?_
        refine rvO C (.pv (.lit (.bool true))) ?_
        refine rvS ?_
        refine rvS ?_
        refine rvS ?_
        refine rvS ?_
        refine rvS ?_
        refine rvO C (.pv (.lit (.bool true))) ?_
        refine rvP C (.pv (.lit (.bool true))) ?_
        refine rvP C (.pv (.lit (.bool true))) ?_
        refine rvc_nil ?_
        refine Awp.condT (b := true) rfl rfl ?_
        refine Awp.consP C ?_
        refine rvP C (.pv (.lit (.bool false))) ?_
        refine rvc_nil ?_
        refine Awp.ret ?_
        subst hR
        exact ⟨.inl rfl, rfl⟩
       ·
        replace hR := of_false h23 hR
        refine rvO C (.ptr 8 0) ?_
        refine rvO C (.pv (.lit (.string (((mGet kI64 x1.ver vc).getD (Stand.mk ⟨#[]⟩ 0 false)).value)))) ?_
        refine rvO C (.ptr 7 1) ?_
        refine rvO C (.pv (.lit (.string x1.value))) ?_
        refine rvO C (.pv (.lit (.bool (!((((mGet kI64 x1.ver vc).getD (Stand.mk ⟨#[]⟩ 0 false)).value).toList == x1.value.toList))))) ?_
        refine rvO C (.pv (.lit (.bool (!((((mGet kI64 x1.ver vc).getD (Stand.mk ⟨#[]⟩ 0 false)).value).toList == x1.value.toList))))) ?_
        refine rvO C (.pv (.lit (.bool (!((((mGet kI64 x1.ver vc).getD (Stand.mk ⟨#[]⟩ 0 false)).value).toList == x1.value.toList))))) ?_
        refine rvc_case 85 (!((((mGet kI64 x1.ver vc).getD (Stand.mk ⟨#[]⟩ 0 false)).value).toList == x1.value.toList)) rfl (fun h24 => ?_) (fun h24 => ?_)
        ·
         replace hR := of_true h24 hR
         refine rvS ?_
         refine rvS ?_
         refine rvS ?_
         refine rvS ?_
         refine rvS ?_
         refine rvO C (.pv (.lit (.bool true))) ?_
         refine rvP C (.pv (.lit (.bool true))) ?_
         refine rvP C (.pv (.lit (.bool true))) ?_
         refine rvc_nil ?_
         refine Awp.condT (b := true) rfl rfl ?_
         refine Awp.consP C ?_
         refine rvP C (.pv (.lit (.bool false))) ?_
         refine rvc_nil ?_
         refine Awp.ret ?_
         subst hR
         exact ⟨.inl rfl, rfl⟩
        ·
         replace hR := of_false h24 hR
         refine rvO C (.ptr 8 1) ?_
         refine rvO C (.pv (.lit (.int .i64 (((mGet kI64 x1.ver vc).getD (Stand.mk ⟨#[]⟩ 0 false)).began)))) ?_
         refine rvO C (.ptr 7 4) ?_
         refine rvO C (.pv (.lit (.int .i64 x1.ended))) ?_
         refine rvO C (.pv (.lit (.bool (decide ((((mGet kI64 x1.ver vc).getD (Stand.mk ⟨#[]⟩ 0 false)).began) ≥ x1.ended))))) ?_
         refine rvO C (.pv (.lit (.bool (decide ((((mGet kI64 x1.ver vc).getD (Stand.mk ⟨#[]⟩ 0 false)).began) ≥ x1.ended))))) ?_
         refine rvP C (.pv (.lit (.bool (decide ((((mGet kI64 x1.ver vc).getD (Stand.mk ⟨#[]⟩ 0 false)).began) ≥ x1.ended))))) ?_
         refine rvP C (.pv (.lit (.bool (decide ((((mGet kI64 x1.ver vc).getD (Stand.mk ⟨#[]⟩ 0 false)).began) ≥ x1.ended))))) ?_
         refine rvc_nil ?_
         refine Awp.cond (b := (decide ((((mGet kI64 x1.ver vc).getD (Stand.mk ⟨#[]⟩ 0 false)).began) ≥ x1.ended))) rfl (fun h25 => ?_) (fun h25 => ?_)
         ·
          replace hR := of_true h25 hR
          refine Awp.consP C ?_
          refine rvP C (.pv (.lit (.bool false))) ?_
          refine rvc_nil ?_
          refine Awp.ret ?_
          subst hR
          exact ⟨.inl rfl, rfl⟩
         ·
          replace hR := of_false h25 hR
          refine Awp.skip ?_
          refine Awp.regionP C ?_
          refine rvP C (.pv (.lit (.int .i64 (IntKind.i64.wrap ((i1 : Int) + 1))))) ?_
          refine rvP C (.pv (.lit (.int .i64 (IntKind.i64.wrap ((i1 : Int) + 1))))) ?_
          refine rvc_nil ?_
          refine ⟨h10, (), ?_, ?_⟩
          · exact hR
          · exact ⟨fun b => b, WeakerR.ofL (Ks := [9]) hI ⟨⟨rfl, rfl⟩, ⟨rfl, rfl⟩, ⟨rfl, rfl⟩, ⟨rfl, rfl⟩, ⟨lit_cast (wrap_i64 (by omega) (by omega)), rfl⟩, trivial⟩ (okH_map rfl rfl rfl (okH_nil)) rfl⟩
      ·
       replace hR := of_false h22 hR
       refine rvS ?_
       refine rvS ?_
       refine rvS ?_
       refine rvS ?_
       refine rvc_shutU rfl rfl rfl ?_
       refine rvc_shutU rfl rfl rfl ?_
       refine rvc_shutU rfl rfl rfl ?_
       refine rvc_shutU rfl rfl rfl ?_
       refine rvc_shutU rfl rfl rfl ?_
       refine rvS ?_
       refine rvS ?_
       refine rvc_shutU rfl rfl rfl ?_
       refine rvc_shutU rfl rfl rfl ?_
       refine rvc_shutU rfl rfl rfl ?_
       refine rvc_shutU rfl rfl rfl ?_
       refine rvc_shutU rfl rfl rfl ?_
       refine rvS ?_
       refine rvP C (.pv (.lit (.bool false))) ?_
       refine rvP C (.pv (.lit (.bool false))) ?_
       refine rvc_nil ?_
       refine Awp.condF (b := false) rfl rfl ?_
       refine Awp.skip ?_
       refine Awp.regionP C ?_
       refine rvP C (.pv (.lit (.int .i64 (IntKind.i64.wrap ((i1 : Int) + 1))))) ?_
       refine rvP C (.pv (.lit (.int .i64 (IntKind.i64.wrap ((i1 : Int) + 1))))) ?_
       refine rvc_nil ?_
       refine ⟨h10, (), ?_, ?_⟩
       · exact hR
       · exact ⟨fun b => b, WeakerR.ofL (Ks := [9]) hI ⟨⟨rfl, rfl⟩, ⟨rfl, rfl⟩, ⟨rfl, rfl⟩, ⟨rfl, rfl⟩, ⟨lit_cast (wrap_i64 (by omega) (by omega)), rfl⟩, trivial⟩ (okH_map rfl rfl rfl (okH_nil)) rfl⟩
     ·
      replace hR := of_false h21 hR
      refine rvS ?_
      refine rvS ?_
      refine rvS ?_
      refine rvP C (.pv (.lit (.bool false))) ?_
      refine rvP C (.pv (.lit (.bool false))) ?_
      refine rvS ?_
      refine rvS ?_
      refine rvS ?_
      refine rvS ?_
      refine rvc_shutU rfl rfl rfl ?_
      refine rvc_shutU rfl rfl rfl ?_
      refine rvc_shutU rfl rfl rfl ?_
      refine rvc_shutU rfl rfl rfl ?_
      refine rvc_shutU rfl rfl rfl ?_
      refine rvS ?_
      refine rvS ?_
      refine rvc_shutU rfl rfl rfl ?_
      refine rvc_shutU rfl rfl rfl ?_
      refine rvc_shutU rfl rfl rfl ?_
      refine rvc_shutU rfl rfl rfl ?_
      refine rvc_shutU rfl rfl rfl ?_
      refine rvS ?_
      refine rvP C (.pv (.lit (.bool false))) ?_
      refine rvP C (.pv (.lit (.bool false))) ?_
      refine rvc_nil ?_
      refine Awp.condF (b := false) rfl rfl ?_
      refine Awp.skip ?_
      refine Awp.regionP C ?_
      refine rvP C (.pv (.lit (.int .i64 (IntKind.i64.wrap ((i1 : Int) + 1))))) ?_
      refine rvP C (.pv (.lit (.int .i64 (IntKind.i64.wrap ((i1 : Int) + 1))))) ?_
      refine rvc_nil ?_
      refine ⟨h10, (), ?_, ?_⟩
      · exact hR
      · exact ⟨fun b => b, WeakerR.ofL (Ks := [9]) hI ⟨⟨rfl, rfl⟩, ⟨rfl, rfl⟩, ⟨rfl, rfl⟩, ⟨rfl, rfl⟩, ⟨lit_cast (wrap_i64 (by omega) (by omega)), rfl⟩, trivial⟩ (okH_map rfl rfl rfl (okH_nil)) rfl⟩
  ·
   have h10 : ¬ i1 < l.D.length := by have := of_decide_eq_false h9; omega
   rw [drop_end h10] at hR
   refine Awp.exit ?_
   refine Awp.consP C ?_
   refine rvP C (sS (some l.nil) eOp l.D) ?_
   refine rvc_un (rexec_call hP C rfl rfl rfl (rising_calls l hl1) ?_)
   refine rvP C (.pv (.lit (.bool (rising l)))) ?_
   refine rvc_nil ?_
   refine Awp.ret ?_
   subst hR
   exact ⟨.inl rfl, rfl⟩
end Go.Proofs.Ytaoagcdljmpllaa
namespace Go.Proofs.Ytaoagcdljmpllaa
open Go.Am
def lawProves (l : (Sl Op)) : Bool :=
  (bif (decide ((l.D.length : Int) > 60)) then (awakeL ) else (bif ((rightL l) != 0) then (awakeL ) else (bif (!(versions l)) then (awakeL ) else (bif (fitsL (byV l) l) then (bif (rFits (byV l) l) then (awakeL ) else false) else false))))
theorem lawProves_calls (l : (Sl Op)) (hl1 : l.D.length ≤ 9223372036854775807) : PCalls Try.prog 13 [sS (some l.nil) eOp l.D] (.pv (.lit (.bool (lawProves l)))) := by
 generalize hR : lawProves l = R
 refine PCalls.of_body tabOk Try.func13 rfl rfl rfl rfl rfl mixed fun E hP C hI => ?_
 refine Awp.consP C ?_
 refine rvP C (.pv (.lit (.bool false))) ?_
 refine rvc_nil ?_
 refine Awp.seq ?_
 refine Awp.consP C ?_
 refine rvP C (sS (some l.nil) eOp l.D) ?_
 refine rvP C (.pv (.lit (.int .i64 (l.D.length : Int)))) ?_
 refine rvP C (.pv (.lit (.bool (decide ((l.D.length : Int) > 60))))) ?_
 refine rvP C (.pv (.lit (.bool (decide ((l.D.length : Int) > 60))))) ?_
 refine rvc_case 7 (decide ((l.D.length : Int) > 60)) rfl (fun h1 => ?_) (fun h1 => ?_)
 ·
  replace hR := of_true h1 hR
  refine rvS ?_
  refine rvS ?_
  refine rvS ?_
  refine rvP C (.pv (.lit (.bool true))) ?_
  refine rvP C (.pv (.lit (.bool true))) ?_
  refine rvS ?_
  refine rvS ?_
  refine rvS ?_
  refine rvP C (.pv (.lit (.bool true))) ?_
  refine rvc_nil ?_
  refine Awp.condT (b := true) rfl rfl ?_
  refine Awp.consP C ?_
  refine rvc_un (rexec_call hP C rfl rfl rfl (awakeL_calls ) ?_)
  refine rvP C (.pv (.lit (.bool (awakeL )))) ?_
  refine rvc_nil ?_
  refine Awp.ret ?_
  subst hR
  exact ⟨.inl rfl, rfl⟩
 ·
  replace hR := of_false h1 hR
  refine rvO C (sS (some l.nil) eOp l.D) ?_
  refine rvc_open rfl rfl rfl (rexec_call hP C rfl rfl rfl (rightL_calls l hl1) ?_)
  refine rvO C (.pv (.lit (.bool ((rightL l) != 0)))) ?_
  refine rvP C (.pv (.lit (.bool ((rightL l) != 0)))) ?_
  refine rvP C (.pv (.lit (.bool ((rightL l) != 0)))) ?_
  refine rvc_case 12 ((rightL l) != 0) rfl (fun h2 => ?_) (fun h2 => ?_)
  ·
   replace hR := of_true h2 hR
   refine rvS ?_
   refine rvS ?_
   refine rvS ?_
   refine rvP C (.pv (.lit (.bool true))) ?_
   refine rvc_nil ?_
   refine Awp.condT (b := true) rfl rfl ?_
   refine Awp.consP C ?_
   refine rvc_un (rexec_call hP C rfl rfl rfl (awakeL_calls ) ?_)
   refine rvP C (.pv (.lit (.bool (awakeL )))) ?_
   refine rvc_nil ?_
   refine Awp.ret ?_
   subst hR
   exact ⟨.inl rfl, rfl⟩
  ·
   replace hR := of_false h2 hR
   refine rvO C (sS (some l.nil) eOp l.D) ?_
   refine rvc_open rfl rfl rfl (rexec_call hP C rfl rfl rfl (versions_calls l hl1) ?_)
   refine rvO C (.pv (.lit (.bool (!(versions l))))) ?_
   refine rvP C (.pv (.lit (.bool (!(versions l))))) ?_
   refine rvc_nil ?_
   refine Awp.cond (b := (!(versions l))) rfl (fun h3 => ?_) (fun h3 => ?_)
   ·
    replace hR := of_true h3 hR
    refine Awp.consP C ?_
    refine rvc_un (rexec_call hP C rfl rfl rfl (awakeL_calls ) ?_)
    refine rvP C (.pv (.lit (.bool (awakeL )))) ?_
    refine rvc_nil ?_
    refine Awp.ret ?_
    subst hR
    exact ⟨.inl rfl, rfl⟩
   ·
    replace hR := of_false h3 hR
    refine Awp.skip ?_
    refine Awp.consP C ?_
    refine rvP C (sS (some l.nil) eOp l.D) ?_
    refine rvc_un (rexec_call hP C rfl rfl rfl (byV_calls l (right_len24 (by assumption)) hl1) ?_)
    refine rvP C (sS (some (byV l).nil) (eI .i64) ((byV l).D)) ?_
    refine rvc_nil ?_
    refine Awp.consP C ?_
    refine rvP C (sS (some (byV l).nil) (eI .i64) ((byV l).D)) ?_
    refine rvP C (sS (some l.nil) eOp l.D) ?_
    refine rvc_un (rexec_call hP C rfl rfl rfl (fitsL_calls (byV l) l hl1 (byV_len (right_len24 (by assumption)))) ?_)
    refine rvP C (.pv (.lit (.bool (fitsL (byV l) l)))) ?_
    refine rvc_case 23 (fitsL (byV l) l) rfl (fun h4 => ?_) (fun h4 => ?_)
    ·
     replace hR := of_true h4 hR
     refine rvO C (sS (some (byV l).nil) (eI .i64) ((byV l).D)) ?_
     refine rvO C (sS (some l.nil) eOp l.D) ?_
     refine rvc_open rfl rfl rfl (rexec_call hP C rfl rfl rfl (rFits_calls (byV l) l hl1 (byV_len (right_len24 (by assumption)))) ?_)
     refine rvP C (.pv (.lit (.bool (rFits (byV l) l)))) ?_
     refine rvP C (.pv (.lit (.bool (rFits (byV l) l)))) ?_
     refine rvc_case 28 (rFits (byV l) l) rfl (fun h5 => ?_) (fun h5 => ?_)
     ·
      replace hR := of_true h5 hR
      refine rvc_open rfl rfl rfl (rexec_call hP C rfl rfl rfl (awakeL_calls ) ?_)
      refine rvP C (.pv (.lit (.bool (awakeL )))) ?_
      refine rvP C (.pv (.lit (.bool (awakeL )))) ?_
      refine rvc_nil ?_
      refine Awp.ret ?_
      subst hR
      exact ⟨.inl rfl, rfl⟩
     ·
      replace hR := of_false h5 hR
      refine rvS ?_
      refine rvP C (.pv (.lit (.bool false))) ?_
      refine rvP C (.pv (.lit (.bool false))) ?_
      refine rvc_nil ?_
      refine Awp.ret ?_
      subst hR
      exact ⟨.inl rfl, rfl⟩
    ·
     replace hR := of_false h4 hR
     refine rvS ?_
     refine rvS ?_
     refine rvS ?_
     refine rvP C (.pv (.lit (.bool false))) ?_
     refine rvP C (.pv (.lit (.bool false))) ?_
     refine rvS ?_
     refine rvP C (.pv (.lit (.bool false))) ?_
     refine rvP C (.pv (.lit (.bool false))) ?_
     refine rvc_nil ?_
     refine Awp.ret ?_
     subst hR
     exact ⟨.inl rfl, rfl⟩
end Go.Proofs.Ytaoagcdljmpllaa
namespace Go.Proofs.Ytaoagcdljmpllaa
open Go.Am
theorem awakeL_true : awakeL = true := by kernel_rfl
theorem right_l : ∀ (l : List Op) (i : Nat), rightL_l0 l i = refRight_l0 l i
  | [], _ => rfl
  | x :: xs, i => by
    unfold rightL_l0 refRight_l0
    rw [right_l xs (i + 1)]
    by_cases h1 : x.began < 1
    · rw [decide_eq_true h1]; rfl
    · rw [decide_eq_false h1]
      simp only [cond_false]
      rcases Int.lt_trichotomy x.ended 0 with h | h | h
      · have e1 : (x.ended != 0) = true := by simp; omega
        rw [e1, decide_eq_true (p := x.ended ≤ x.began) (by omega), decide_eq_true h]; rfl
      · have e1 : (x.ended != 0) = false := by rw [h]; rfl
        rw [e1, decide_eq_false (p := x.ended < 0) (by omega), decide_eq_false (p := x.ended > 0) (by omega)]; rfl
      · have e1 : (x.ended != 0) = true := by simp; omega
        rw [e1, decide_eq_false (p := x.ended < 0) (by omega), decide_eq_true (p := x.ended > 0) (by omega)]; rfl
theorem right_eq (l : Sl Op) : rightL l = refRight l := by unfold rightL refRight; rw [right_l]
end Go.Proofs.Ytaoagcdljmpllaa
namespace Go.Proofs.Ytaoagcdljmpllaa
open Go.Am
set_option maxRecDepth 100000 in
theorem flat4 {m : Nat} {ps : List PV} (h : Flat Try.prog (m + 1) 4 ps) : ∃ b, ps = [.lit (.bool b)] ∧ True := by
  unfold Flat at h
  rw [Try.underlying4] at h
  obtain ⟨b, h⟩ := h
  exact ⟨b, h, trivial⟩
set_option maxRecDepth 100000 in
theorem flat9 {m : Nat} {ps : List PV} (h : Flat Try.prog (m + 1) 9 ps) : ∃ s, ps = [.lit (.string s)] ∧ s.size ≤ maxLen := by
  unfold Flat at h
  rw [Try.underlying9] at h
  exact h
set_option maxRecDepth 100000 in
theorem flat3 {m : Nat} {ps : List PV} (h : Flat Try.prog (m + 1) 3 ps) : ∃ n, ps = [.lit (.int .i64 n)] ∧ (Lit.int .i64 n).wf = true := by
  unfold Flat at h
  rw [Try.underlying3] at h
  exact h
def WT47 (x : Op) : Prop := True ∧ x.value.size ≤ maxLen ∧ (Lit.int .i64 x.ver).wf = true ∧ (Lit.int .i64 x.began).wf = true ∧ (Lit.int .i64 x.ended).wf = true
set_option maxRecDepth 100000 in
theorem flat47 {m : Nat} {ps : List PV} (h : Flat Try.prog (m + 2) 47 ps) : ∃ x : Op, ps = eOp.enc x ∧ WT47 x := by
  unfold Flat at h
  rw [Try.underlying47] at h
  obtain ⟨a0, b0, e0, h0, a1, b1, e1, h1, a2, b2, e2, h2, a3, b3, e3, h3, a4, b4, e4, h4, el⟩ := h
  obtain ⟨x0, rfl, w0⟩ := flat4 (m := m + 0) h0
  obtain ⟨x1, rfl, w1⟩ := flat9 (m := m + 0) h1
  obtain ⟨x2, rfl, w2⟩ := flat3 (m := m + 0) h2
  obtain ⟨x3, rfl, w3⟩ := flat3 (m := m + 0) h3
  obtain ⟨x4, rfl, w4⟩ := flat3 (m := m + 0) h4
  subst el
  subst e4
  subst e3
  subst e2
  subst e1
  subst e0
  exact ⟨⟨x0, x1, x2, x3, x4⟩, rfl, w0, w1, w2, w3, w4⟩
def WT40 (s : Sl Op) : Prop := s.D.length ≤ maxLen ∧ (s.nil = true → s.D = []) ∧ ∀ x ∈ s.D, WT47 x
set_option maxRecDepth 100000 in
theorem flat40 {m : Nat} {ps : List PV} (h : Flat Try.prog (m + 3) 40 ps) : ∃ s : Sl Op, ps = [.sl (some s.nil) s.D.length (encL eOp s.D)] ∧ WT40 s := by
  unfold Flat at h
  rw [Try.underlying40] at h
  obtain ⟨b, D, rfl, h1, h2, h3⟩ := h
  obtain ⟨D2, e1, e2, e3⟩ := enc_list (e := eOp) (W := fun x => WT47 x) D fun y hy => flat47 (h3 y hy)
  rw [e2, ← e1]
  exact ⟨⟨b, D2⟩, rfl, (by show D2.length ≤ _; rw [e1]; exact h1), (fun hb => by have := h2 hb; rw [this] at e1; exact List.eq_nil_of_length_eq_zero e1), e3⟩
end Go.Proofs.Ytaoagcdljmpllaa
namespace Go.Proofs.Ytaoagcdljmpllaa
open Go.Am
theorem loop_iff {α : Type} {f : List α → Nat → Bool} {c : Nat → α → Bool} (h0 : ∀ j, f [] j = true) (h1 : ∀ x xs j, f (x :: xs) j = bif c j x then false else f xs (j + 1)) : ∀ (ys : List α) (j : Nat), f ys j = true ↔ ∀ k x, ys[k]? = some x → c (j + k) x = false
  | [], j => by simp [h0]
  | y :: ys, j => by
    rw [h1]
    cases hc : c j y
    · rw [cond_false, loop_iff h0 h1 ys (j + 1)]
      constructor
      · intro h k x hk
        cases k with
        | zero => simp only [List.getElem?_cons_zero, Option.some.injEq] at hk; subst hk; exact hc
        | succ k => rw [List.getElem?_cons_succ] at hk; have := h k x hk; rwa [Nat.add_right_comm] at this
      · intro h k x hk
        have := h (k + 1) x (by rw [List.getElem?_cons_succ]; exact hk)
        rwa [show j + (k + 1) = j + 1 + k by omega] at this
    · rw [cond_true]
      constructor
      · intro h; cases h
      · intro h
        have := h 0 y rfl
        rw [Nat.add_zero, hc] at this; cases this
def firstC' (l : List Op) (i done : Int) (k : Nat) (x : Op) : Bool := ((k : Int) != i) && (!(mHas done (k : Int)) && decide (over x < (l[i.toNat]!.began)))
theorem firstSO_iff (s : Search) (i d : Int) : firstSO s i d = true ↔ ∀ k x, s.l.D[k]? = some x → firstC' s.l.D i d k x = false := by
  have := loop_iff (f := firstSO_l0 s i d) (c := firstC' s.l.D i d) (fun _ => rfl) (fun x xs j => by
    conv => lhs; unfold firstSO_l0
    unfold firstC'
    cases ((j : Int) != i) <;> cases (mHas d (j : Int)) <;> cases decide (over x < (s.l.D[i.toNat]!.began)) <;> rfl) s.l.D 0
  simp only [Nat.zero_add] at this
  exact this
theorem firstSM_eq (s : Search) (i d : Int) : firstSM s i d = firstSO s i d := by
  unfold firstSM firstSO
  suffices hh : ∀ (ys : List Op) (j : Nat), firstSM_l0 s i d ys j = firstSO_l0 s i d ys j from hh _ 0
  intro ys
  induction ys with
  | nil => intro j; rfl
  | cons y ys ih => intro j; unfold firstSM_l0 firstSO_l0; rw [ih]
theorem allSM_eq (s : Search) (d : Int) : allSM s d = allSO s d := by
  unfold allSM allSO
  suffices hh : ∀ (ys : List Op) (j : Nat), allSM_l0 d ys j = allSO_l0 d ys j from hh _ 0
  intro ys
  induction ys with
  | nil => intro j; rfl
  | cons y ys ih => intro j; unfold allSM_l0 allSO_l0; rw [ih]
theorem allSO_iff (s : Search) (d : Int) : allSO s d = true ↔ ∀ (k : Nat) (x : Op), s.l.D[k]? = some x → ((x.ended != 0) && !(mHas d (k : Int))) = false := by
  have := loop_iff (f := allSO_l0 d) (c := fun (k : Nat) (x : Op) => (x.ended != 0) && !(mHas d (k : Int))) (fun _ => rfl) (fun x xs j => by
    conv => lhs; unfold allSO_l0
    cases (x.ended != 0) <;> cases (mHas d (j : Int)) <;> rfl) s.l.D 0
  simp only [Nat.zero_add] at this
  exact this
def nextC (l : List Op) (left : List Bool) (i : Int) (k : Nat) (x : Op) : Bool := left[k]! && (((k : Int) != i) && before x (l[i.toNat]!))
theorem nextW_iff (l : Sl Op) (left : Sl Bool) (i : Int) : nextW l left i = true ↔ ∀ k x, l.D[k]? = some x → nextC l.D left.D i k x = false := by
  have := loop_iff (f := nextW_l0 l left i) (c := nextC l.D left.D i) (fun _ => rfl) (fun x xs j => by
    conv => lhs; unfold nextW_l0
    unfold nextC
    cases left.D[j]! <;> cases ((j : Int) != i) <;> cases before x (l.D[i.toNat]!) <;> rfl) l.D 0
  simp only [Nat.zero_add] at this
  exact this
theorem rFits2_iff (left : List Bool) (l : List Op) : rFits_l2 left l 0 = true ↔ ∀ (k : Nat) (x : Op), l[k]? = some x → (left[k]! && decide (x.ended > 0)) = false := by
  have := loop_iff (f := rFits_l2 left) (c := fun (k : Nat) (x : Op) => left[k]! && decide (x.ended > 0)) (fun _ => rfl) (fun x xs j => by
    conv => lhs; unfold rFits_l2
    cases left[j]! <;> cases decide (x.ended > 0) <;> rfl) l 0
  simp only [Nat.zero_add] at this
  exact this
/-- What is done, and what is left. -/
def Rel (l : List Op) (done : Int) (left : List Bool) : Prop := left.length = l.length ∧ ∀ k, k < l.length → left[k]! = !(mHas done (k : Int))
def okOp (x : Op) : Prop := 0 ≤ x.ended ∧ x.began ≤ 9223372036854775807
theorem over_before {a b : Op} (h : okOp a) (hb : okOp b) : decide (over a < b.began) = before a b := by
  obtain ⟨h1, _⟩ := h
  obtain ⟨_, h2⟩ := hb
  unfold over before
  by_cases e : a.ended = 0
  · have e1 : (a.ended == 0) = true := by simp [e]
    rw [e1, decide_eq_false (p := a.ended > 0) (by omega), cond_true, cond_false]
    exact decide_eq_false (by omega)
  · have e1 : (a.ended == 0) = false := by simp [e]
    rw [e1, decide_eq_true (p := a.ended > 0) (by omega), cond_true, cond_false]
theorem bool_iff {a b : Bool} (h : a = true ↔ b = true) : a = b := by
  cases a <;> cases b <;> simp_all
theorem getI {α : Type} [Inhabited α] {l : List α} {i : Nat} {x : α} (h : l[i]? = some x) : l[i]! = x := by
  rw [List.getElem!_eq_getElem?_getD, h]; rfl
theorem getO {α : Type} [Inhabited α] {l : List α} {i : Nat} (h : i < l.length) : l[i]? = some (l[i]!) := by
  rw [List.getElem!_eq_getElem?_getD, List.getElem?_eq_getElem h]; rfl
theorem lt_of_get {α : Type} {l : List α} {i : Nat} {x : α} (h : l[i]? = some x) : i < l.length := by
  rcases Nat.lt_or_ge i l.length with h1 | h1
  · exact h1
  · rw [List.getElem?_eq_none h1] at h; cases h
theorem next_first {l : Sl Op} (hl : ∀ x ∈ l.D, okOp x) {done : Int} {left : Sl Bool} (h : Rel l.D done left.D) {i : Int} (hi : 0 ≤ i ∧ i < (l.D.length : Int)) (s : Search) (hs : s.l.D = l.D) : firstSO s i done = nextW l left i := by
  apply bool_iff
  rw [firstSO_iff, nextW_iff, hs]
  have key : ∀ k x, l.D[k]? = some x → firstC' l.D i done k x = nextC l.D left.D i k x := fun k x hk => by
    unfold firstC' nextC
    have hlt := lt_of_get hk
    have hm : x ∈ l.D := List.mem_of_getElem? hk
    have hm2 : l.D[i.toNat]! ∈ l.D := List.mem_of_getElem? (getO (by omega))
    rw [h.2 k hlt, over_before (hl x hm) (hl _ hm2)]
    cases ((k : Int) != i) <;> cases mHas done (k : Int) <;> cases before x l.D[i.toNat]! <;> rfl
  constructor
  · intro hh k x hk; rw [← key k x hk]; exact hh k x hk
  · intro hh k x hk; rw [key k x hk]; exact hh k x hk
theorem all_left {l : List Op} (hl : ∀ x ∈ l, okOp x) {done : Int} {left : List Bool} (h : Rel l done left) (s : Search) (hs : s.l.D = l) : allSO s done = rFits_l2 left l 0 := by
  apply bool_iff
  rw [allSO_iff, rFits2_iff, hs]
  have key : ∀ (k : Nat) (x : Op), l[k]? = some x → ((x.ended != 0) && !(mHas done (k : Int))) = (left[k]! && decide (x.ended > 0)) := fun k x hk => by
    have hx := (hl x (List.mem_of_getElem? hk)).1
    rw [h.2 k (lt_of_get hk)]
    by_cases e : x.ended = 0
    · have e1 : (x.ended != 0) = false := by simp [e]
      rw [e1, decide_eq_false (p := x.ended > 0) (by omega)]; simp
    · have e1 : (x.ended != 0) = true := by simp [e]
      rw [e1, decide_eq_true (p := x.ended > 0) (by omega)]; simp
  constructor
  · intro hh k x hk; rw [← key k x hk]; exact hh k x hk
  · intro hh k x hk; rw [key k x hk]; exact hh k x hk
theorem set_get (left : List Bool) (n k : Nat) (hk : k < left.length) : (left.set n false)[k]! = (left[k]! && !(decide (n = k))) := by
  rw [List.getElem!_eq_getElem?_getD, List.getElem!_eq_getElem?_getD, List.getElem?_set]
  by_cases e : n = k
  · subst e
    rw [if_pos rfl, if_pos hk]; simp
  · rw [if_neg e]; simp [e]
theorem Rel.step {l : List Op} {done : Int} {left : List Bool} (hl : l.length ≤ 64) (hd : okD done) (h : Rel l done left) {n : Nat} (hn : n < l.length) : Rel l (mWith done (n : Int)) (left.set n false) := by
  refine ⟨by rw [List.length_set]; exact h.1, fun k hk => ?_⟩
  rw [set_get _ _ _ (by rw [h.1]; exact hk), h.2 k hk, has_withD hd (by omega) (by omega)]
  cases mHas done (k : Int) <;> simp
theorem Rel.zero (l : List Op) (hl : l.length ≤ 64) : Rel l 0 (List.replicate l.length true) := by
  refine ⟨by simp, fun k hk => ?_⟩
  have e : mHas 0 (k : Int) = false := by
    have := has_nat (S := 0) (n := k) (by decide) (by omega)
    rw [Nat.zero_testBit] at this
    exact this
  rw [e, List.getElem!_eq_getElem?_getD, List.getElem?_replicate, if_pos hk]; rfl
theorem okD0 : okD 0 := ⟨by decide, by decide⟩
theorem rep_set (i k : Nat) : (List.replicate i true ++ List.replicate (k + 1) false).set i true = List.replicate (i + 1) true ++ List.replicate k false := by
  rw [List.set_append_right _ _ (by simp)]
  simp only [List.length_replicate, Nat.sub_self, List.replicate_succ, List.set_cons_zero]
  rw [← List.replicate_succ, List.replicate_succ', List.append_assoc]; rfl
theorem rFits0_eq (row : Sl Int) (l : Sl Op) : ∀ (ys : List Op) (i : Nat), rFits_l0 row l ys i (List.replicate i true ++ List.replicate ys.length false) = rFits_l1 l row.D 0 ⟨#[]⟩ (List.replicate (i + ys.length) true)
  | [], i => by unfold rFits_l0; simp
  | y :: ys, i => by
    unfold rFits_l0
    rw [List.length_cons, rep_set, rFits0_eq row l ys (i + 1), show i + 1 + ys.length = i + (ys.length + 1) by omega]
theorem fits_l {l : Sl Op} (hl : ∀ x ∈ l.D, okOp x) (h64 : l.D.length ≤ 64) : ∀ (xs : List Int) (i j : Nat) (done : Int) (left : List Bool) (v : ByteArray), okD done → Rel l.D done left → fitsL_l0 l xs i done v = rFits_l1 l xs j v left
  | [], i, j, done, left, v, hd, hr => by
    unfold fitsL_l0 rFits_l1
    rw [allSM_eq, all_left hl hr _ rfl]
  | x :: xs, i, j, done, left, v, hd, hr => by
    unfold fitsL_l0 rFits_l1
    by_cases h1 : x < 0
    · rw [decide_eq_true h1]; rfl
    · by_cases h2 : x ≥ (l.D.length : Int)
      · rw [decide_eq_true h2, decide_eq_false h1]; rfl
      · rw [decide_eq_false h2, decide_eq_false h1]
        have hn : x.toNat < l.D.length := by omega
        have hx : x = ((x.toNat : Nat) : Int) := by omega
        have e1 := hr.2 _ hn
        rw [← hx] at e1
        rw [e1, firstSM_eq, next_first hl (left := Sl.mk false left) hr (by omega) _ rfl]
        have hs := hr.step h64 hd hn
        rw [← hx] at hs
        have hd' := with_okD hd (n := x.toNat) (by omega)
        rw [← hx] at hd'
        rw [fits_l hl h64 xs (i + 1) (j + 1) _ _ (l.D[x.toNat]!.value) hd' hs, fits_l hl h64 xs (i + 1) (j + 1) _ _ v hd' hs]
        cases mHas done x <;> cases nextW l (Sl.mk false left) x <;> cases l.D[x.toNat]!.write <;> cases (l.D[x.toNat]!.value.toList == v.toList) <;> rfl
theorem right_ended : ∀ (l : List Op) (i : Nat), refRight_l0 l i = 0 → ∀ x ∈ l, 0 ≤ x.ended
  | [], _, _, x, hx => by cases hx
  | y :: ys, i, h, x, hx => by
    unfold refRight_l0 at h
    by_cases h1 : y.ended < 0
    · rw [decide_eq_true h1] at h
      cases hb : decide (y.began < 1) <;> rw [hb] at h <;> cases h
    · rcases List.mem_cons.1 hx with rfl | hx
      · omega
      · refine right_ended ys (i + 1) ?_ x hx
        rw [decide_eq_false h1] at h
        revert h
        cases decide (y.began < 1) <;> cases decide (y.ended > 0) <;> cases decide (y.ended ≤ y.began) <;> cases decide (y.ver < 0) <;> cases decide (y.ver > 1099511627776) <;> cases decide ((y.value.size : Int) > 24) <;> intro h <;> first | exact h | cases h
theorem ok_of {l : Sl Op} (w : WT40 l) (h : (refRight l != 0) = false) : ∀ x ∈ l.D, okOp x := fun x hx => by
  have h0 : refRight l = 0 := by simpa using h
  unfold refRight at h0
  cases h1 : decide ((l.D.length : Int) > 24)
  · rw [h1, cond_false] at h0
    refine ⟨right_ended _ _ h0 x hx, ?_⟩
    have hw := (w.2.2 x hx)
    have hb := hw.2.2.2.1
    simp [Lit.wf, IntKind.min, IntKind.max, IntKind.signed, IntKind.bits] at hb
    omega
  · rw [h1] at h0; cases h0
theorem fits_eq (row : Sl Int) (l : Sl Op) (w : WT40 l) : fitsL row l = rFits row l := by
  unfold fitsL rFits
  rw [right_eq]
  cases h : (refRight l != 0)
  · rw [cond_false, cond_false]
    have h64 := ref_len h
    have := rFits0_eq row l l.D 0
    simp only [List.replicate_zero, List.nil_append, Nat.zero_add] at this
    rw [this]
    exact fits_l (ok_of w h) h64 row.D 0 0 0 _ _ okD0 (Rel.zero _ h64)
  · rfl
end Go.Proofs.Ytaoagcdljmpllaa
namespace Go.Proofs.Ytaoagcdljmpllaa
open Go.Am
structure VOk (L : List Op) : Prop where
  be : ∀ x ∈ L, 0 ≤ x.ended ∧ (x.ended ≠ 0 → x.began < x.ended) ∧ 0 ≤ x.ver
  one : ∀ (i j : Nat) (x y : Op), L[i]? = some x → L[j]? = some y → x.write = true → y.write = true → x.ver ≠ 0 → x.ver = y.ver → i = j
  rd0 : ∀ x ∈ L, x.ended ≠ 0 → x.ver = 0 → x.write = false ∧ x.value.toList = (⟨#[]⟩ : ByteArray).toList
  rd1 : ∀ x ∈ L, x.ended ≠ 0 → x.ver ≠ 0 → x.write = false → ∃ (k : Nat) (w : Op), L[k]? = some w ∧ w.write = true ∧ w.ver = x.ver ∧ w.value.toList = x.value.toList
  ris : ∀ a ∈ L, ∀ b ∈ L, a.ended ≠ 0 → ¬ (b.ver = 0 ∧ b.write = true) → a.ended < b.began → ¬ (b.ended = 0 ∧ b.write = false) → a.ver ≤ b.ver ∧ (b.ver ≠ 0 → b.write = true → a.ver ≠ b.ver)
theorem right_be : ∀ (xs : List Op) (i : Nat), rightL_l0 xs i = 0 → ∀ x ∈ xs, (x.ended ≠ 0 → x.began < x.ended) ∧ 0 ≤ x.ver
  | [], _, _, x, hx => by cases hx
  | y :: ys, i, h, x, hx => by
    unfold rightL_l0 at h
    cases h1 : decide (y.began < 1)
    · rw [h1, cond_false] at h
      have hv : (y.ended ≠ 0 → y.began < y.ended) ∧ 0 ≤ y.ver ∧ rightL_l0 ys (i + 1) = 0 := by
        revert h
        by_cases h2 : y.ended = 0
        · rw [show (y.ended != 0) = false by simp [h2], cond_false]
          intro h
          refine ⟨fun e => absurd h2 e, ?_⟩
          revert h
          cases h4 : decide (y.ver < 0)
          · cases h5 : decide (y.ver > 1099511627776)
            · cases h6 : decide ((y.value.size : Int) > 24)
              · intro h; exact ⟨by have := of_decide_eq_false h4; omega, h⟩
              · intro h; cases h
            · intro h; cases h
          · intro h; cases h
        · rw [show (y.ended != 0) = true from bne_iff_ne.2 h2, cond_true]
          cases h3 : decide (y.ended ≤ y.began)
          · intro h
            refine ⟨fun _ => by have := of_decide_eq_false h3; omega, ?_⟩
            revert h
            cases h4 : decide (y.ver < 0)
            · cases h5 : decide (y.ver > 1099511627776)
              · cases h6 : decide ((y.value.size : Int) > 24)
                · intro h; exact ⟨by have := of_decide_eq_false h4; omega, h⟩
                · intro h; cases h
              · intro h; cases h
            · intro h; cases h
          · intro h; cases h
      rcases List.mem_cons.1 hx with rfl | hx
      · exact ⟨hv.1, hv.2.1⟩
      · exact right_be ys (i + 1) hv.2.2 x hx
    · rw [h1] at h; cases h
theorem mGet_setI (p q : Int) (b : Stand) : ∀ (D : List (Int × Stand)), mGet kI64 q (mSet kI64 p b D) = if q = p then some b else mGet kI64 q D
  | [] => by
    unfold mSet mGet mGet
    by_cases h : q = p
    · subst h; rw [if_pos (show kI64.eq q q = true from beq_self_eq_true q), if_pos rfl]
    · rw [if_neg (show ¬ kI64.eq q (p, b).1 = true from fun e => h (beq_iff_eq.1 e)), if_neg h]
  | e :: D => by
    unfold mSet
    by_cases h1 : p = e.1
    · rw [if_pos (show kI64.eq p e.1 = true from beq_iff_eq.2 h1)]
      unfold mGet
      by_cases h2 : q = p
      · rw [if_pos h2, if_pos (show kI64.eq q e.1 = true from beq_iff_eq.2 (h2.trans h1))]
      · have h3 : ¬ kI64.eq q e.1 = true := fun x => h2 ((beq_iff_eq.1 x).trans h1.symm)
        rw [if_neg h2, if_neg h3]
        exact (if_neg h3).symm
    · rw [if_neg (show ¬ kI64.eq p e.1 = true from fun x => h1 (beq_iff_eq.1 x))]
      unfold mGet
      by_cases h2 : q = e.1
      · rw [if_pos (show kI64.eq q e.1 = true from beq_iff_eq.2 h2), if_pos (show kI64.eq q e.1 = true from beq_iff_eq.2 h2), if_neg (fun x => h1 (x.symm.trans h2))]
      · rw [if_neg (show ¬ kI64.eq q e.1 = true from fun x => h2 (beq_iff_eq.1 x)), if_neg (show ¬ kI64.eq q e.1 = true from fun x => h2 (beq_iff_eq.1 x)), mGet_setI p q b D]
/-- What the table of writes says of the calls seen. -/
structure TabOk (vc : List (Int × Stand)) (P : List Op) : Prop where
  t1 : ∀ k s, mGet kI64 k vc = some s → s.there = true ∧ ∃ (j : Nat) (w : Op), P[j]? = some w ∧ w.write = true ∧ w.ver = k ∧ w.value = s.value
  t2 : ∀ (j : Nat) (w : Op), P[j]? = some w → w.write = true → w.ver ≠ 0 → ∃ s, mGet kI64 w.ver vc = some s
  t3 : ∀ (i j : Nat) (x y : Op), P[i]? = some x → P[j]? = some y → x.write = true → y.write = true → x.ver ≠ 0 → x.ver = y.ver → i = j
theorem app_get {P : List Op} {x : Op} {j : Nat} {w : Op} (h : (P ++ [x])[j]? = some w) : P[j]? = some w ∨ (j = P.length ∧ w = x) := by
  by_cases hj : j < P.length
  · rw [List.getElem?_append_left hj] at h; exact .inl h
  · rw [List.getElem?_append_right (by omega)] at h
    obtain ⟨q, hq⟩ : ∃ q, j - P.length = q := ⟨_, rfl⟩
    rw [hq] at h
    cases q with
    | zero => right; simp only [List.getElem?_cons_zero, Option.some.injEq] at h; exact ⟨by omega, h.symm⟩
    | succ q => simp at h
theorem TabOk.skip {vc : List (Int × Stand)} {P : List Op} {x : Op} (h : TabOk vc P) (hx : x.write = false ∨ x.ver = 0) : TabOk vc (P ++ [x]) where
  t1 := fun k s e => by
    obtain ⟨a, j, w, b, c⟩ := h.t1 k s e
    exact ⟨a, j, w, by rw [List.getElem?_append_left (lt_of_get b)]; exact b, c⟩
  t2 := fun j w e h1 h2 => by
    rcases app_get e with e | ⟨_, rfl⟩
    · exact h.t2 j w e h1 h2
    · rcases hx with hx | hx
      · rw [hx] at h1; cases h1
      · exact absurd hx h2
  t3 := fun i j y z e1 e2 h1 h2 h3 h4 => by
    rcases app_get e1 with e1 | ⟨_, rfl⟩
    · rcases app_get e2 with e2 | ⟨_, rfl⟩
      · exact h.t3 i j y z e1 e2 h1 h2 h3 h4
      · rcases hx with hx | hx
        · rw [hx] at h2; cases h2
        · omega
    · rcases hx with hx | hx
      · rw [hx] at h1; cases h1
      · omega
theorem TabOk.add {vc : List (Int × Stand)} {P : List Op} {x : Op} (h : TabOk vc P) (hw : x.write = true) (hn : mGet kI64 x.ver vc = none) : TabOk (mSet kI64 x.ver (Stand.mk x.value x.began true) vc) (P ++ [x]) where
  t1 := fun k s e => by
    rw [mGet_setI] at e
    by_cases hk : k = x.ver
    · rw [if_pos hk] at e
      cases e
      exact ⟨rfl, P.length, x, by rw [List.getElem?_append_right (Nat.le_refl _), Nat.sub_self]; rfl, hw, hk.symm, rfl⟩
    · rw [if_neg hk] at e
      obtain ⟨a, j, w, b, c⟩ := h.t1 k s e
      exact ⟨a, j, w, by rw [List.getElem?_append_left (lt_of_get b)]; exact b, c⟩
  t2 := fun j w e h1 h2 => by
    rw [mGet_setI]
    by_cases hk : w.ver = x.ver
    · rw [if_pos hk]; exact ⟨_, rfl⟩
    · rw [if_neg hk]
      rcases app_get e with e | ⟨_, rfl⟩
      · exact h.t2 j w e h1 h2
      · exact absurd rfl hk
  t3 := fun i j y z e1 e2 h1 h2 h3 h4 => by
    rcases app_get e1 with f1 | ⟨i1, g1⟩
    · rcases app_get e2 with f2 | ⟨_, g2⟩
      · exact h.t3 i j y z f1 f2 h1 h2 h3 h4
      · obtain ⟨s, hs⟩ := h.t2 i y f1 h1 h3
        rw [h4, g2, hn] at hs; cases hs
    · rcases app_get e2 with f2 | ⟨i2, g2⟩
      · obtain ⟨s, hs⟩ := h.t2 j z f2 h2 (by omega)
        rw [← h4, g1, hn] at hs; cases hs
      · omega
theorem versions_tab {l : Sl Op} : ∀ (xs : List Op) (i : Nat) (vc : List (Int × Stand)) (P : List Op), versions_l0 l xs i vc = true → TabOk vc P → ∃ vc', TabOk vc' (P ++ xs) ∧ versions_l1 l vc' l.D 0 = true
  | [], i, vc, P, h, ht => ⟨vc, by rw [List.append_nil]; exact ht, h⟩
  | x :: xs, i, vc, P, h, ht => by
    unfold versions_l0 at h
    rw [show P ++ x :: xs = (P ++ [x]) ++ xs by rw [List.append_assoc]; rfl]
    cases hw : x.write
    · rw [hw] at h
      exact versions_tab xs (i + 1) vc (P ++ [x]) h (ht.skip (.inl hw))
    · rw [hw, Bool.not_true, cond_false] at h
      by_cases hv : x.ver = 0
      · rw [show (x.ver == 0) = true by simp [hv], cond_true] at h
        exact versions_tab xs (i + 1) vc (P ++ [x]) h (ht.skip (.inr hv))
      · rw [show (x.ver == 0) = false by simp [hv], cond_false] at h
        cases hg : mGet kI64 x.ver vc with
        | none =>
          rw [hg] at h
          exact versions_tab xs (i + 1) _ (P ++ [x]) h (ht.add hw hg)
        | some s =>
          rw [hg] at h
          rw [show ((some s).getD (Stand.mk ⟨#[]⟩ 0 false)).there = true from (ht.t1 _ _ hg).1] at h
          cases h
theorem versions_reads {l : Sl Op} {vc : List (Int × Stand)} {P : List Op} (ht : TabOk vc P) : ∀ (xs : List Op) (i : Nat), versions_l1 l vc xs i = true → rising l = true ∧ ∀ x ∈ xs, x.ended ≠ 0 → (x.ver = 0 → x.write = false ∧ x.value.toList = (⟨#[]⟩ : ByteArray).toList) ∧ (x.ver ≠ 0 → x.write = false → ∃ (k : Nat) (w : Op), P[k]? = some w ∧ w.write = true ∧ w.ver = x.ver ∧ w.value.toList = x.value.toList)
  | [], _, h => ⟨h, fun x hx => by cases hx⟩
  | y :: ys, i, h => by
    unfold versions_l1 at h
    have key : versions_l1 l vc ys (i + 1) = true ∧ (y.ended ≠ 0 → (y.ver = 0 → y.write = false ∧ y.value.toList = (⟨#[]⟩ : ByteArray).toList) ∧ (y.ver ≠ 0 → y.write = false → ∃ (k : Nat) (w : Op), P[k]? = some w ∧ w.write = true ∧ w.ver = y.ver ∧ w.value.toList = y.value.toList)) := by
      by_cases he : y.ended = 0
      · rw [show (y.ended == 0) = true by simp [he], cond_true] at h
        exact ⟨h, fun e => absurd he e⟩
      · rw [show (y.ended == 0) = false by simp [he], cond_false] at h
        by_cases hv : y.ver = 0
        · rw [show (y.ver == 0) = true by simp [hv], cond_true] at h
          cases hw : y.write
          · rw [hw, cond_false] at h
            cases hq : (y.value.toList == (⟨#[]⟩ : ByteArray).toList)
            · rw [hq] at h; cases h
            · rw [hq, Bool.not_true, cond_false, show (y.ver != 0) = false by simp [hv], cond_false] at h
              exact ⟨h, fun _ => ⟨fun _ => ⟨rfl, beq_iff_eq.1 hq⟩, fun e => absurd hv e⟩⟩
          · rw [hw] at h; cases h
        · rw [show (y.ver == 0) = false by simp [hv], cond_false, show (y.ver != 0) = true from bne_iff_ne.2 hv, cond_true] at h
          cases hw : y.write
          · rw [hw, Bool.not_false, cond_true] at h
            cases hg : mGet kI64 y.ver vc with
            | none =>
              rw [hg] at h
              exact Bool.noConfusion h
            | some s =>
              obtain ⟨hs, j, w, w1, w2, w3, w4⟩ := ht.t1 _ _ hg
              rw [hg] at h
              rw [show ((some s).getD (Stand.mk ⟨#[]⟩ 0 false)) = s from rfl, hs, Bool.not_true, cond_false] at h
              cases hq : (s.value.toList == y.value.toList)
              · rw [hq] at h; cases h
              · rw [hq, Bool.not_true, cond_false] at h
                cases hb : decide (s.began ≥ y.ended)
                · rw [hb, cond_false] at h
                  exact ⟨h, fun _ => ⟨fun e => absurd e hv, fun _ _ => ⟨j, w, w1, w2, w3, by rw [w4]; exact beq_iff_eq.1 hq⟩⟩⟩
                · rw [hb] at h; cases h
          · rw [hw, Bool.not_true, cond_false] at h
            exact ⟨h, fun _ => ⟨fun e => absurd e hv, fun _ e => by cases e⟩⟩
    obtain ⟨r, hr⟩ := versions_reads ht ys (i + 1) key.1
    refine ⟨r, fun x hx => ?_⟩
    rcases List.mem_cons.1 hx with rfl | hx
    · exact key.2
    · exact hr x hx
theorem rising_one {a : Op} {kk : Bool} : ∀ (xs : List Op) (i : Nat), rising_l1 a kk xs i = true → kk = true ∧ ∀ b ∈ xs, a.ended ≠ 0 → ¬ (b.ver = 0 ∧ b.write = true) → a.ended < b.began → ¬ (b.ended = 0 ∧ b.write = false) → a.ver ≤ b.ver ∧ (b.ver ≠ 0 → b.write = true → a.ver ≠ b.ver)
  | [], _, h => ⟨h, fun b hb => by cases hb⟩
  | y :: ys, i, h => by
    unfold rising_l1 at h
    have key : rising_l1 a kk ys (i + 1) = true ∧ (a.ended ≠ 0 → ¬ (y.ver = 0 ∧ y.write = true) → a.ended < y.began → ¬ (y.ended = 0 ∧ y.write = false) → a.ver ≤ y.ver ∧ (y.ver ≠ 0 → y.write = true → a.ver ≠ y.ver)) := by
      by_cases h1 : a.ended = 0
      · rw [show (a.ended == 0) = true by simp [h1], cond_true] at h
        exact ⟨h, fun e => absurd h1 e⟩
      · rw [show (a.ended == 0) = false by simp [h1], cond_false] at h
        by_cases h3 : a.ended < y.began
        · rw [decide_eq_false (by omega : ¬ a.ended ≥ y.began)] at h
          by_cases h4 : a.ver > y.ver
          · rw [decide_eq_true h4] at h
            revert h
            cases hv0 : (y.ver == 0) <;> cases hw : y.write <;> cases he : (y.ended == 0) <;> intro h <;> first | exact Bool.noConfusion h | refine ⟨h, fun _ q1 _ q2 => ?_⟩ <;> simp_all
          · rw [decide_eq_false h4] at h
            by_cases h5 : a.ver = y.ver
            · revert h
              rw [show (a.ver == y.ver) = true by simp [h5]]
              by_cases h6 : y.ver = 0
              · rw [show (y.ver == 0) = true by simp [h6]]
                cases hw : y.write <;> cases he : (y.ended == 0) <;> intro h <;> exact ⟨h, fun _ _ _ _ => ⟨by omega, fun e => absurd h6 e⟩⟩
              · rw [show (y.ver == 0) = false by simp [h6]]
                cases hw : y.write <;> cases he : (y.ended == 0) <;> intro h <;> first | exact Bool.noConfusion h | exact ⟨h, fun _ _ _ _ => ⟨by omega, fun _ e => by cases e⟩⟩
            · revert h
              rw [show (a.ver == y.ver) = false by simp [h5]]
              cases (y.ver == 0) <;> cases hw : y.write <;> cases he : (y.ended == 0) <;> intro h <;> exact ⟨h, fun _ _ _ _ => ⟨by omega, fun _ _ => h5⟩⟩
        · rw [decide_eq_true (by omega : a.ended ≥ y.began)] at h
          revert h
          cases (y.ver == 0) <;> cases y.write <;> intro h <;> exact ⟨h, fun _ _ e => absurd e h3⟩
    obtain ⟨r, hr⟩ := rising_one ys (i + 1) key.1
    refine ⟨r, fun x hx => ?_⟩
    rcases List.mem_cons.1 hx with rfl | hx
    · exact key.2
    · exact hr x hx
theorem rising_all {l : Sl Op} : ∀ (xs : List Op) (i : Nat), rising_l0 l xs i = true → ∀ a ∈ xs, ∀ b ∈ l.D, a.ended ≠ 0 → ¬ (b.ver = 0 ∧ b.write = true) → a.ended < b.began → ¬ (b.ended = 0 ∧ b.write = false) → a.ver ≤ b.ver ∧ (b.ver ≠ 0 → b.write = true → a.ver ≠ b.ver)
  | [], _, _, a, ha => by cases ha
  | x :: xs, i, h, a, ha => by
    unfold rising_l0 at h
    obtain ⟨h1, h2⟩ := rising_one _ _ h
    rcases List.mem_cons.1 ha with rfl | ha
    · exact h2
    · exact rising_all xs (i + 1) h1 a ha
theorem vok_of {l : Sl Op} (w : WT40 l) (hr : (rightL l != 0) = false) (hv : versions l = true) : VOk l.D := by
  have hr' : (refRight l != 0) = false := by rw [← right_eq]; exact hr
  have hok := ok_of w hr'
  have hb : rightL_l0 l.D 0 = 0 := by
    have h0 : rightL l = 0 := by simpa using hr
    unfold rightL at h0
    cases h1 : decide ((l.D.length : Int) > 24)
    · rw [h1, cond_false] at h0; exact h0
    · rw [h1] at h0; cases h0
  have hbe := right_be _ _ hb
  unfold versions at hv
  obtain ⟨vc, ht, h1⟩ := versions_tab l.D 0 [] [] hv ⟨(fun k s e => by cases e), (fun j w e => by simp at e), (fun i j x y e => by simp at e)⟩
  rw [List.nil_append] at ht
  obtain ⟨h2, h3⟩ := versions_reads ht _ _ h1
  exact ⟨fun x hx => ⟨(hok x hx).1, hbe x hx⟩, ht.t3, fun x hx he => (h3 x hx he).1, fun x hx he => (h3 x hx he).2, fun a ha => rising_all _ _ h2 a ha⟩
end Go.Proofs.Ytaoagcdljmpllaa
namespace Go.Proofs.Ytaoagcdljmpllaa
open Go.Am
abbrev opI (L : List Op) (z : Int) : Op := L[z.toNat]!
theorem opI_mem {L : List Op} {k : Nat} {x : Op} (h : L[k]? = some x) : opI L (k : Int) = x := by
  show L[(k : Int).toNat]! = x
  rw [Int.toNat_natCast]; exact getI h
theorem fits_by {l : Sl Op} (ok : VOk l.D) : ∀ (X P : List Int) (j : Nat) (left : List Bool) (v : ByteArray),
    (∀ z, z ∈ P ++ X ↔ ∃ (k : Nat) (x : Op), l.D[k]? = some x ∧ inBy x = true ∧ z = (k : Int)) → (P ++ X).Nodup →
    (P ++ X).Pairwise (fun x y => ¬ aheadO (opI l.D y) (opI l.D x)) →
    left.length = l.D.length → (∀ k, k < l.D.length → (left[k]! = true ↔ (k : Int) ∉ P)) →
    ((∃ q ∈ P, (opI l.D q).write = true ∧ v.toList = (opI l.D q).value.toList ∧ ∀ w ∈ P, (opI l.D w).write = true → (opI l.D w).ver ≤ (opI l.D q).ver) ∨ ((∀ q ∈ P, (opI l.D q).write = false) ∧ v.toList = (⟨#[]⟩ : ByteArray).toList)) →
    rFits_l1 l X j v left = true
  | [], P, j, left, v, hT, hnd, hpw, hl, hf, hv => by
    unfold rFits_l1
    rw [rFits2_iff]
    intro k x hk
    have hlt := lt_of_get hk
    cases h1 : left[k]!
    · rfl
    · rw [Bool.true_and]
      refine decide_eq_false fun he => ?_
      have hn := (hf k hlt).1 h1
      refine hn ?_
      have := (hT (k : Int)).2 ⟨k, x, hk, by unfold inBy; rw [show (x.ended != 0) = true from bne_iff_ne.2 (by omega)]; rfl, rfl⟩
      rwa [List.append_nil] at this
  | z :: X, P, j, left, v, hT, hnd, hpw, hl, hf, hv => by
    obtain ⟨k, x, hk, hb, rfl⟩ := (hT z).1 (List.mem_append_right _ (List.mem_cons_self ..))
    have hlt := lt_of_get hk
    have hx : opI l.D (k : Int) = x := opI_mem hk
    have hxm : x ∈ l.D := List.mem_of_getElem? hk
    have hnd' := List.nodup_append.1 hnd
    have hkP : (k : Int) ∉ P := fun h => hnd'.2.2 _ h _ (List.mem_cons_self ..) rfl
    have hkX : (k : Int) ∉ X := (List.nodup_cons.1 hnd'.2.1).1
    have hpw' := List.pairwise_append.1 hpw
    have hPx : ∀ p ∈ P, ¬ aheadO x (opI l.D p) := fun p hp => by rw [← hx]; exact hpw'.2.2 p hp _ (List.mem_cons_self ..)
    have hXx : ∀ q ∈ X, ¬ aheadO (opI l.D q) x := fun q hq => by rw [← hx]; exact (List.pairwise_cons.1 hpw'.2.1).1 q hq
    have hmem : ∀ p ∈ P, ∃ (i : Nat) (y : Op), l.D[i]? = some y ∧ inBy y = true ∧ p = (i : Int) := fun p hp => (hT p).1 (List.mem_append_left _ hp)
    -- a write in the row has a version above nought
    have hwv : ∀ y ∈ l.D, inBy y = true → y.write = true → 0 < y.ver := fun y hy h1 h2 => by
      unfold inBy at h1
      rw [Bool.or_eq_true, Bool.and_eq_true, decide_eq_true_eq, bne_iff_ne] at h1
      rcases h1 with h1 | h1
      · have := (ok.be y hy).2.2
        rcases Int.lt_or_eq_of_le this with h3 | h3
        · exact h3
        · have := (ok.rd0 y hy h1 h3.symm).1
          rw [this] at h2; cases h2
      · exact h1.2
    have hxe : x.write = false → x.ended ≠ 0 := fun h => by
      have := hb
      unfold inBy at this
      rw [h, Bool.false_and, Bool.or_false, bne_iff_ne] at this
      exact this
    unfold rFits_l1
    rw [decide_eq_false (by omega : ¬ (k : Int) < 0), decide_eq_false (by omega : ¬ (k : Int) ≥ (l.D.length : Int)), cond_false, cond_false, Int.toNat_natCast, (hf k hlt).2 hkP, Bool.not_true, cond_false, getI hk]
    have hnext : nextW l (Sl.mk false left) (k : Int) = true := by
      rw [nextW_iff]
      intro i y hi
      unfold nextC
      rw [Int.toNat_natCast, getI hk]
      cases h1 : left[i]!
      · rfl
      · cases h2 : ((i : Int) != (k : Int))
        · rfl
        · show before y x = false
          cases h3 : before y x
          · rfl
          · exfalso
            unfold before at h3
            have hye : y.ended > 0 := by
              cases h4 : decide (y.ended > 0)
              · rw [h4] at h3; cases h3
              · exact of_decide_eq_true h4
            rw [decide_eq_true hye, cond_true] at h3
            have hlt3 := of_decide_eq_true h3
            have hym : y ∈ l.D := List.mem_of_getElem? hi
            have hiP := (hf i (lt_of_get hi)).1 h1
            have hiT := (hT (i : Int)).2 ⟨i, y, hi, by unfold inBy; rw [show (y.ended != 0) = true from bne_iff_ne.2 (by omega)]; rfl, rfl⟩
            have hiX : (i : Int) ∈ X := by
              rcases List.mem_append.1 hiT with h | h
              · exact absurd h hiP
              · rcases List.mem_cons.1 h with h | h
                · exact absurd h (bne_iff_ne.1 h2)
                · exact h
            have hna := hXx _ hiX
            rw [opI_mem hi] at hna
            have hyb := (ok.be y hym).2.1 (by omega)
            have hr := ok.ris y hym x hxm (by omega) (fun h => by have := hwv x hxm hb h.2; omega) hlt3 (fun h => hxe h.2 h.1)
            unfold aheadO at hna
            have hr1 := hr.1
            have hge : ¬ y.ver < x.ver := fun h => hna (.inl h)
            have heq : y.ver = x.ver := by omega
            cases hw : x.write
            · refine hna (.inr ⟨heq, ?_⟩)
              unfold wk
              cases hwy : y.write
              · rw [hw]; exact .inr ⟨rfl, by omega⟩
              · rw [hw]; exact .inl (by decide)
            · have := hr.2 (by have := hwv x hxm hb hw; omega) hw
              omega
    rw [hnext, Bool.not_true, cond_false]
    have hT' : ∀ z, z ∈ (P ++ [(k : Int)]) ++ X ↔ ∃ (k : Nat) (x : Op), l.D[k]? = some x ∧ inBy x = true ∧ z = (k : Int) := fun z => by
      rw [List.append_assoc]; exact hT z
    have hnd2 : ((P ++ [(k : Int)]) ++ X).Nodup := by rw [List.append_assoc]; exact hnd
    have hpw2 : ((P ++ [(k : Int)]) ++ X).Pairwise (fun x y => ¬ aheadO (opI l.D y) (opI l.D x)) := by rw [List.append_assoc]; exact hpw
    have hl' : (left.set k false).length = l.D.length := by rw [List.length_set]; exact hl
    have hf' : ∀ i, i < l.D.length → ((left.set k false)[i]! = true ↔ (i : Int) ∉ P ++ [(k : Int)]) := fun i hi => by
      rw [set_get _ _ _ (by rw [hl]; exact hi), List.mem_append, List.mem_singleton]
      by_cases e : k = i
      · subst e; simp
      · have := hf i hi
        rw [decide_eq_false e, Bool.not_false, Bool.and_true, this]
        constructor
        · intro h h'
          rcases h' with h' | h'
          · exact h h'
          · omega
        · intro h h'; exact h (.inl h')
    have hle : ∀ p ∈ P, (opI l.D p).ver ≤ x.ver := fun p hp => by
      have := hPx p hp
      unfold aheadO at this
      omega
    cases hw : x.write
    · rw [cond_false]
      have hval : x.value.toList = v.toList := by
        have hne := hxe hw
        by_cases hv0 : x.ver = 0
        · have h0 := (ok.rd0 x hxm hne hv0).2
          rcases hv with ⟨q, hq, hqw, _, _⟩ | ⟨_, hv⟩
          · exfalso
            obtain ⟨i, y, hi, hiy, rfl⟩ := hmem q hq
            have h1 := hle _ hq
            rw [opI_mem hi] at h1 hqw
            have := hwv y (List.mem_of_getElem? hi) hiy hqw
            omega
          · rw [h0, hv]
        · obtain ⟨i, w, hi, hww, hwver, hwval⟩ := ok.rd1 x hxm hne hv0 hw
          have hwm : w ∈ l.D := List.mem_of_getElem? hi
          have hxv := (ok.be x hxm).2.2
          have hiT := (hT (i : Int)).2 ⟨i, w, hi, by unfold inBy; rw [hww, Bool.true_and, decide_eq_true (by omega : w.ver > 0), Bool.or_true], rfl⟩
          have hik : i ≠ k := fun e => by
            subst e
            rw [hi] at hk; cases hk
            rw [hww] at hw; cases hw
          have hiP : (i : Int) ∈ P := by
            rcases List.mem_append.1 hiT with h | h
            · exact h
            · exfalso
              rcases List.mem_cons.1 h with h | h
              · omega
              · have := hXx _ h
                rw [opI_mem hi] at this
                refine this ?_
                unfold aheadO wk
                rw [hww, hw]
                exact .inr ⟨hwver, .inl (by decide)⟩
          rcases hv with ⟨q, hq, hqw, hqv, hqm⟩ | ⟨hv, _⟩
          · have h1 := hqm _ hiP (by rw [opI_mem hi]; exact hww)
            have h2 := hle _ hq
            rw [opI_mem hi] at h1
            obtain ⟨i', y, hi', hiy, rfl⟩ := hmem q hq
            rw [opI_mem hi'] at h1 h2 hqw hqv
            have := ok.one i i' w y hi hi' hww hqw (by omega) (by omega)
            subst this
            rw [hi] at hi'; cases hi'
            rw [hqv, hwval]
          · exfalso
            have := hv _ hiP
            rw [opI_mem hi, hww] at this; cases this
      rw [show (x.value.toList == v.toList) = true from beq_iff_eq.2 hval, Bool.not_true, cond_false]
      refine fits_by ok X (P ++ [(k : Int)]) (j + 1) (left.set k false) v hT' hnd2 hpw2 hl' hf' ?_
      rcases hv with ⟨q, hq, hqw, hqv, hqm⟩ | ⟨hv, hv'⟩
      · refine .inl ⟨q, List.mem_append_left _ hq, hqw, hqv, fun w hw1 hw2 => ?_⟩
        rcases List.mem_append.1 hw1 with h | h
        · exact hqm w h hw2
        · rw [List.mem_singleton.1 h, hx, hw] at hw2; cases hw2
      · refine .inr ⟨fun q hq => ?_, hv'⟩
        rcases List.mem_append.1 hq with h | h
        · exact hv q h
        · rw [List.mem_singleton.1 h, hx]; exact hw
    · rw [cond_true]
      refine fits_by ok X (P ++ [(k : Int)]) (j + 1) (left.set k false) x.value hT' hnd2 hpw2 hl' hf' (.inl ⟨(k : Int), List.mem_append_right _ (List.mem_cons_self ..), by rw [hx]; exact hw, by rw [hx], fun w hw1 hw2 => ?_⟩)
      rw [hx]
      rcases List.mem_append.1 hw1 with h | h
      · exact hle w h
      · rw [List.mem_singleton.1 h, hx]; exact Int.le_refl _
theorem by_fits {l : Sl Op} (w : WT40 l) (hr : (rightL l != 0) = false) (hv : versions l = true) : rFits (byV l) l = true := by
  have ok := vok_of w hr hv
  obtain ⟨hp, hs⟩ := byV_spec (right_len24 hr)
  unfold rFits
  rw [show (refRight l != 0) = false by rw [← right_eq]; exact hr, cond_false]
  have := rFits0_eq (byV l) l l.D 0
  simp only [List.replicate_zero, List.nil_append, Nat.zero_add] at this
  rw [this]
  refine fits_by ok (byV l).D [] 0 _ _ (fun z => ?_) ?_ ?_ List.length_replicate (fun k hk => ?_) (.inr ⟨(fun q hq => by cases hq), rfl⟩)
  · rw [List.nil_append, hp.mem_iff, byRow_mem]
    simp only [Nat.zero_add]
  · rw [List.nil_append]; exact hp.nodup_iff.2 (byRow_nodup _ _)
  · rw [List.nil_append]
    refine List.pairwise_iff_getElem.2 fun i j hi hj hij => ?_
    have h1 := hs i j (Nat.zero_le _) hij hj
    unfold Lq at h1
    rw [byLess_lt] at h1
    show ¬ aheadO l.D[(byV l).D[j].toNat]! l.D[(byV l).D[i].toNat]!
    have e1 : gt (byV l).D i = (byV l).D[i] := getElem!_pos _ i hi
    have e2 : gt (byV l).D j = (byV l).D[j] := getElem!_pos _ j hj
    rw [e1, e2] at h1
    exact h1
  · rw [List.getElem!_eq_getElem?_getD, List.getElem?_replicate, if_pos hk]
    simp
theorem lawProves_true (l : Sl Op) (w : WT40 l) : lawProves l = true := by
  unfold lawProves
  rw [awakeL_true]
  cases decide ((l.D.length : Int) > 60)
  · cases hr : (rightL l != 0)
    · cases hv : versions l
      · rfl
      · have := by_fits w hr hv
        rw [fits_eq (byV l) l w, this]; rfl
    · rfl
  · rfl
theorem linProves_calls (l : Sl Op) (w : WT40 l) : PCalls Try.prog 13 [sS (some l.nil) eOp l.D] (.pv (.bool true)) := by
  have r := lawProves_calls l (Nat.le_trans w.1 (by decide))
  rw [lawProves_true l w] at r
  exact r
end Go.Proofs.Ytaoagcdljmpllaa
namespace Go.Proofs.Ytaoagcdljmpllaa
open Go.Am
theorem own : ownKnob Try.prog.godebug = none := by kernel_rfl
theorem laidOut : laidOutB Try.prog = true := by kernel_rfl
end Go.Proofs.Ytaoagcdljmpllaa
