import Derived.Test.YtihccnkegkkikaaM3
import Derived.Test.YtihccnkegkkikaaM2
/- Direct ways in plain Lean. No conditions. -/
namespace Go.Proofs.Ytihccnkegkkikaa
open Go.Am
def Agree (v m : Nat → Nat → Int) : Prop := ∀ p q, p < 3 → q < 3 → v p q = m p q
def Small (m : Nat → Nat → Int) : Prop := ∀ p q, p < 3 → q < 3 → 0 ≤ m p q ∧ m p q ≤ 1000
def putC (m : Nat → Nat → Int) (i j : Nat) (x : Int) : Nat → Nat → Int := fun p q => if p = i ∧ q = j then x else m p q
theorem upd33_at (v : Nat → Nat → Int) (i j : Nat) (x : Int) (p q : Nat) : upd33 v i j x p q = if p = i ∧ q = j then x else v p q := by
  unfold upd33 updA
  by_cases hp : p = i
  · subst hp
    rw [show (p == p) = true from beq_self_eq_true p, cond_true]
    by_cases hq : q = j
    · subst hq; simp
    · rw [show (q == j) = false by simpa using hq, cond_false, if_neg (by simp [hq])]
  · rw [show (p == i) = false by simpa using hp, cond_false, if_neg (by simp [hp])]
theorem agree_put {v m : Nat → Nat → Int} (h : Agree v m) {i j : Nat} {x y : Int} (e : x = y) : Agree (upd33 v i j x) (putC m i j y) := fun p q hp hq => by
  rw [upd33_at, e]
  unfold putC
  by_cases hpq : p = i ∧ q = j
  · rw [if_pos hpq, if_pos hpq]
  · rw [if_neg hpq, if_neg hpq]; exact h p q hp hq
theorem small_put {m : Nat → Nat → Int} (h : Small m) {i j : Nat} {x : Int} (hx : 0 ≤ x ∧ x ≤ 1000) : Small (putC m i j x) := fun p q hp hq => by
  unfold putC
  by_cases hpq : p = i ∧ q = j
  · rw [if_pos hpq]; exact hx
  · rw [if_neg hpq]; exact h p q hp hq
theorem min_bif {x y : Int} (hx : 0 ≤ x) (hx2 : x ≤ 3000) : (bif decide (IntKind.i64.wrap x < y) then IntKind.i64.wrap x else y) = min x y := by
  rw [wrapI _ (by omega)]
  cases h : decide (x < y)
  · have := of_decide_eq_false h
    rw [cond_false]; omega
  · have := of_decide_eq_true h
    rw [cond_true]; omega
def fw (o i j : Nat) (m : Nat → Nat → Int) : Nat → Nat → Int := putC m i j (min (m i o + m o j) (m i j))
theorem small_fw {m : Nat → Nat → Int} (h : Small m) {o i j : Nat} (ho : o < 3) (hi : i < 3) (hj : j < 3) : Small (fw o i j m) := by
  have h1 := h i o hi ho
  have h2 := h o j ho hj
  have h3 := h i j hi hj
  exact small_put h (by omega)
theorem direct_l2_eq {o i : Nat} (ho : o < 3) (hi : i < 3) (kk : (Nat → Nat → Int) → (Nat → Nat → Int) × Int) : ∀ (k j : Nat) (v m : Nat → Nat → Int), j + k = 3 → Agree v m → Small m → ∃ v', direct_l2 o i kk k j v = kk v' ∧ Agree v' ((List.range' j k).foldl (fun m j => fw o i j m) m) ∧ Small ((List.range' j k).foldl (fun m j => fw o i j m) m)
  | 0, j, v, m, _, ha, hs => ⟨v, rfl, ha, hs⟩
  | k + 1, j, v, m, hk, ha, hs => by
    have h1 := hs i o hi ho
    have h2 := hs o j ho (by omega)
    have ih := direct_l2_eq ho hi kk k (j + 1) (upd33 v i j (bif decide (IntKind.i64.wrap (v i o + v o j) < v i j) then IntKind.i64.wrap (v i o + v o j) else v i j)) (fw o i j m) (by omega) (agree_put ha (by
      rw [ha i o hi ho, ha o j ho (by omega), ha i j hi (by omega)]
      exact min_bif (by omega) (by omega))) (small_fw hs ho hi (by omega))
    unfold direct_l2
    rw [List.range'_succ, List.foldl_cons]
    exact ih
def rowF (o i : Nat) (m : Nat → Nat → Int) : Nat → Nat → Int := (List.range' 0 3).foldl (fun m j => fw o i j m) m
theorem direct_l1_eq {o : Nat} (ho : o < 3) (kk : (Nat → Nat → Int) → (Nat → Nat → Int) × Int) : ∀ (k i : Nat) (v m : Nat → Nat → Int), i + k = 3 → Agree v m → Small m → ∃ v', direct_l1 o kk k i v = kk v' ∧ Agree v' ((List.range' i k).foldl (fun m i => rowF o i m) m) ∧ Small ((List.range' i k).foldl (fun m i => rowF o i m) m)
  | 0, i, v, m, _, ha, hs => ⟨v, rfl, ha, hs⟩
  | k + 1, i, v, m, hk, ha, hs => by
    unfold direct_l1
    obtain ⟨v1, e1, a1, s1⟩ := direct_l2_eq ho (i := i) (by omega) (fun vc2 => direct_l1 o kk k (i + 1) vc2) 3 0 v m rfl ha hs
    obtain ⟨v2, e2, a2, s2⟩ := direct_l1_eq ho kk k (i + 1) v1 _ (by omega) a1 s1
    refine ⟨v2, by rw [e1]; exact e2, ?_, ?_⟩
    · rw [List.range'_succ, List.foldl_cons]; exact a2
    · rw [List.range'_succ, List.foldl_cons]; exact s2
def passF (o : Nat) (m : Nat → Nat → Int) : Nat → Nat → Int := (List.range' 0 3).foldl (fun m i => rowF o i m) m
theorem direct_l0_eq : ∀ (k o : Nat) (v m : Nat → Nat → Int), o + k = 3 → Agree v m → Small m → ∃ v', direct_l0 k o v = (v', 0) ∧ Agree v' ((List.range' o k).foldl (fun m o => passF o m) m)
  | 0, o, v, m, _, ha, _ => ⟨v, rfl, ha⟩
  | k + 1, o, v, m, hk, ha, hs => by
    unfold direct_l0
    obtain ⟨v1, e1, a1, s1⟩ := direct_l1_eq (o := o) (by omega) (fun vc1 => direct_l0 k (o + 1) vc1) 3 0 v m rfl ha hs
    obtain ⟨v2, e2, a2⟩ := direct_l0_eq k (o + 1) v1 _ (by omega) a1 s1
    refine ⟨v2, by rw [e1]; exact e2, ?_⟩
    rw [List.range'_succ, List.foldl_cons]; exact a2
/-- Three sites' ways. -/
structure Three (m : Nat → Nat → Int) (a b c : Int) : Prop where
  h00 : m 0 0 = 0
  h11 : m 1 1 = 0
  h22 : m 2 2 = 0
  h01 : m 0 1 = a
  h10 : m 1 0 = a
  h02 : m 0 2 = b
  h20 : m 2 0 = b
  h12 : m 1 2 = c
  h21 : m 2 1 = c
theorem pass0 {m : Nat → Nat → Int} {a b c : Int} (h : Three m a b c) (ha : 0 ≤ a) (hb : 0 ≤ b) : Three (passF 0 m) a b (min (a + b) c) := by
  obtain ⟨h00, h11, h22, h01, h10, h02, h20, h12, h21⟩ := h
  constructor <;> simp [passF, rowF, fw, putC, List.range'_succ, h00, h11, h22, h01, h10, h02, h20, h12, h21] <;> omega
theorem pass1 {m : Nat → Nat → Int} {a b c : Int} (h : Three m a b c) (ha : 0 ≤ a) (hc : 0 ≤ c) : Three (passF 1 m) a (min (a + c) b) c := by
  obtain ⟨h00, h11, h22, h01, h10, h02, h20, h12, h21⟩ := h
  constructor <;> simp [passF, rowF, fw, putC, List.range'_succ, h00, h11, h22, h01, h10, h02, h20, h12, h21] <;> omega
theorem pass2 {m : Nat → Nat → Int} {a b c : Int} (h : Three m a b c) (hb : 0 ≤ b) (hc : 0 ≤ c) : Three (passF 2 m) (min (b + c) a) b c := by
  obtain ⟨h00, h11, h22, h01, h10, h02, h20, h12, h21⟩ := h
  constructor <;> simp [passF, rowF, fw, putC, List.range'_succ, h00, h11, h22, h01, h10, h02, h20, h12, h21] <;> omega
theorem three_of {w : Nat → Nat → Int} (hw : Ways w) : Three w (w 0 1) (w 0 2) (w 1 2) ∧ (0 ≤ w 0 1 ∧ w 0 1 ≤ 1000) ∧ (0 ≤ w 0 2 ∧ w 0 2 ≤ 1000) ∧ (0 ≤ w 1 2 ∧ w 1 2 ≤ 1000) := by
  have h := fun i j (hi : i < 3) (hj : j < 3) => hw i j hi hj
  have e01 := h 0 1 (by decide) (by decide)
  have e02 := h 0 2 (by decide) (by decide)
  have e12 := h 1 2 (by decide) (by decide)
  have e10 := h 1 0 (by decide) (by decide)
  have e20 := h 2 0 (by decide) (by decide)
  exact ⟨⟨e01.2.2.2, e10.2.2.2, e20.2.2.2, rfl, e01.2.2.1.symm, rfl, e02.2.2.1.symm, rfl, e12.2.2.1.symm⟩, ⟨e01.1, e01.2.1⟩, ⟨e02.1, e02.2.1⟩, ⟨e12.1, e12.2.1⟩⟩
/-- What the direct ways are. -/
theorem direct_three {w : Nat → Nat → Int} (hw : Ways w) : (direct w).2 = 0 ∧ Three (direct w).1 (min (w 0 2 + w 1 2) (w 0 1)) (min (w 0 1 + w 1 2) (w 0 2)) (min (w 0 1 + w 0 2) (w 1 2)) := by
  obtain ⟨ht, ha, hb, hc⟩ := three_of hw
  unfold direct
  rw [(wayCheck_iff w).1.2 hw, show ((0 : Int) != 0) = false from rfl, cond_false]
  obtain ⟨v, e, hv⟩ := direct_l0_eq 3 0 w w rfl (fun _ _ _ _ => rfl) (fun p q hp hq => ⟨(hw p q hp hq).1, (hw p q hp hq).2.1⟩)
  rw [e]
  refine ⟨rfl, ?_⟩
  have h0 := pass0 ht ha.1 hb.1
  have h1 := pass1 h0 ha.1 (by omega)
  have h2 := pass2 h1 (by omega) (by omega)
  have hM : (List.range' 0 3).foldl (fun m o => passF o m) w = passF 2 (passF 1 (passF 0 w)) := rfl
  rw [hM] at hv
  obtain ⟨g00, g11, g22, g01, g10, g02, g20, g12, g21⟩ := h2
  constructor
  · show v 0 0 = 0; rw [hv 0 0 (by decide) (by decide)]; exact g00
  · show v 1 1 = 0; rw [hv 1 1 (by decide) (by decide)]; exact g11
  · show v 2 2 = 0; rw [hv 2 2 (by decide) (by decide)]; exact g22
  · show v 0 1 = _; rw [hv 0 1 (by decide) (by decide), g01]; omega
  · show v 1 0 = _; rw [hv 1 0 (by decide) (by decide), g10]; omega
  · show v 0 2 = _; rw [hv 0 2 (by decide) (by decide), g02]; omega
  · show v 2 0 = _; rw [hv 2 0 (by decide) (by decide), g20]; omega
  · show v 1 2 = _; rw [hv 1 2 (by decide) (by decide), g12]
  · show v 2 1 = _; rw [hv 2 1 (by decide) (by decide), g21]
def rf (w : Nat → Nat → Int) (i j k : Nat) (m : Nat → Nat → Int) : Nat → Nat → Int := putC m i j (min (w i k + w k j) (m i j))
theorem agree_stay {v m : Nat → Nat → Int} (h : Agree v m) {i j : Nat} {y : Int} (e : m i j = y) : Agree v (putC m i j y) := fun p q hp hq => by
  unfold putC
  by_cases hpq : p = i ∧ q = j
  · obtain ⟨rfl, rfl⟩ := hpq
    rw [if_pos ⟨rfl, rfl⟩, ← e]; exact h p q hp hq
  · rw [if_neg hpq]; exact h p q hp hq
theorem rDirect_l2_eq {w : Nat → Nat → Int} (hw : Small w) {i j : Nat} (hi : i < 3) (hj : j < 3) (kk : (Nat → Nat → Int) → (Nat → Nat → Int) × Int) : ∀ (n k : Nat) (v m : Nat → Nat → Int), k + n = 3 → Agree v m → ∃ v', rDirect_l2 w i j kk n k v = kk v' ∧ Agree v' ((List.range' k n).foldl (fun m k => rf w i j k m) m)
  | 0, k, v, m, _, ha => ⟨v, rfl, ha⟩
  | n + 1, k, v, m, hk, ha => by
    have h1 := hw i k hi (by omega)
    have h2 := hw k j (by omega) hj
    have hv := ha i j hi hj
    unfold rDirect_l2
    rw [List.range'_succ, List.foldl_cons, wrapI _ (by omega)]
    cases hd : decide (w i k + w k j < v i j)
    · have := of_decide_eq_false hd
      rw [cond_false]
      exact rDirect_l2_eq hw hi hj kk n (k + 1) v (rf w i j k m) (by omega) (agree_stay ha (by omega))
    · have := of_decide_eq_true hd
      rw [cond_true]
      exact rDirect_l2_eq hw hi hj kk n (k + 1) _ (rf w i j k m) (by omega) (agree_put ha (by omega))
def rRow (w : Nat → Nat → Int) (i j : Nat) (m : Nat → Nat → Int) : Nat → Nat → Int := (List.range' 0 3).foldl (fun m k => rf w i j k m) m
theorem rDirect_l1_eq {w : Nat → Nat → Int} (hw : Small w) {i : Nat} (hi : i < 3) (kk : (Nat → Nat → Int) → (Nat → Nat → Int) × Int) : ∀ (n j : Nat) (v m : Nat → Nat → Int), j + n = 3 → Agree v m → ∃ v', rDirect_l1 w i kk n j v = kk v' ∧ Agree v' ((List.range' j n).foldl (fun m j => rRow w i j m) m)
  | 0, j, v, m, _, ha => ⟨v, rfl, ha⟩
  | n + 1, j, v, m, hk, ha => by
    unfold rDirect_l1
    obtain ⟨v1, e1, a1⟩ := rDirect_l2_eq hw hi (j := j) (by omega) (fun vc2 => rDirect_l1 w i kk n (j + 1) vc2) 3 0 v m rfl ha
    obtain ⟨v2, e2, a2⟩ := rDirect_l1_eq hw hi kk n (j + 1) v1 _ (by omega) a1
    refine ⟨v2, by rw [e1]; exact e2, ?_⟩
    rw [List.range'_succ, List.foldl_cons]; exact a2
def rPass (w : Nat → Nat → Int) (i : Nat) (m : Nat → Nat → Int) : Nat → Nat → Int := (List.range' 0 3).foldl (fun m j => rRow w i j m) m
theorem rDirect_l0_eq {w : Nat → Nat → Int} (hw : Small w) : ∀ (n i : Nat) (v m : Nat → Nat → Int), i + n = 3 → Agree v m → ∃ v', rDirect_l0 w n i v = (v', 0) ∧ Agree v' ((List.range' i n).foldl (fun m i => rPass w i m) m)
  | 0, i, v, m, _, ha => ⟨v, rfl, ha⟩
  | n + 1, i, v, m, hk, ha => by
    unfold rDirect_l0
    obtain ⟨v1, e1, a1⟩ := rDirect_l1_eq hw (i := i) (by omega) (fun vc1 => rDirect_l0 w n (i + 1) vc1) 3 0 v m rfl ha
    obtain ⟨v2, e2, a2⟩ := rDirect_l0_eq hw n (i + 1) v1 _ (by omega) a1
    refine ⟨v2, by rw [e1]; exact e2, ?_⟩
    rw [List.range'_succ, List.foldl_cons]; exact a2
theorem rDirect_three {w : Nat → Nat → Int} (hw : Ways w) : (rDirect w).2 = 0 ∧ Three (rDirect w).1 (min (w 0 2 + w 1 2) (w 0 1)) (min (w 0 1 + w 1 2) (w 0 2)) (min (w 0 1 + w 0 2) (w 1 2)) := by
  obtain ⟨⟨h00, h11, h22, h01, h10, h02, h20, h12, h21⟩, ha, hb, hc⟩ := three_of hw
  unfold rDirect
  rw [(rWayCheck_iff w).1.2 hw, show ((0 : Int) != 0) = false from rfl, cond_false]
  obtain ⟨v, e, hv⟩ := rDirect_l0_eq (w := w) (fun p q hp hq => ⟨(hw p q hp hq).1, (hw p q hp hq).2.1⟩) 3 0 w w rfl (fun _ _ _ _ => rfl)
  rw [e]
  refine ⟨rfl, ?_⟩
  have hM : (List.range' 0 3).foldl (fun m i => rPass w i m) w = rPass w 2 (rPass w 1 (rPass w 0 w)) := rfl
  rw [hM] at hv
  have step : ∀ p q, p < 3 → q < 3 → rPass w 2 (rPass w 1 (rPass w 0 w)) p q = min (w p 2 + w 2 q) (min (w p 1 + w 1 q) (min (w p 0 + w 0 q) (w p q))) :=
    all33 (by simp [rPass, rRow, rf, putC, List.range'_succ]) (by simp [rPass, rRow, rf, putC, List.range'_succ]) (by simp [rPass, rRow, rf, putC, List.range'_succ]) (by simp [rPass, rRow, rf, putC, List.range'_succ]) (by simp [rPass, rRow, rf, putC, List.range'_succ]) (by simp [rPass, rRow, rf, putC, List.range'_succ]) (by simp [rPass, rRow, rf, putC, List.range'_succ]) (by simp [rPass, rRow, rf, putC, List.range'_succ]) (by simp [rPass, rRow, rf, putC, List.range'_succ])
  constructor
  · show v 0 0 = _; rw [hv 0 0 (by decide) (by decide), step 0 0 (by decide) (by decide), h00, h10, h20]; omega
  · show v 1 1 = _; rw [hv 1 1 (by decide) (by decide), step 1 1 (by decide) (by decide), h11, h10, h12, h21]; omega
  · show v 2 2 = _; rw [hv 2 2 (by decide) (by decide), step 2 2 (by decide) (by decide), h22, h20, h21]; omega
  · show v 0 1 = _; rw [hv 0 1 (by decide) (by decide), step 0 1 (by decide) (by decide), h00, h11, h21]; omega
  · show v 1 0 = _; rw [hv 1 0 (by decide) (by decide), step 1 0 (by decide) (by decide), h00, h11, h10, h20]; omega
  · show v 0 2 = _; rw [hv 0 2 (by decide) (by decide), step 0 2 (by decide) (by decide), h00, h22]; omega
  · show v 2 0 = _; rw [hv 2 0 (by decide) (by decide), step 2 0 (by decide) (by decide), h00, h22, h20, h21, h10]; omega
  · show v 1 2 = _; rw [hv 1 2 (by decide) (by decide), step 1 2 (by decide) (by decide), h11, h22, h10]; omega
  · show v 2 1 = _; rw [hv 2 1 (by decide) (by decide), step 2 1 (by decide) (by decide), h11, h22, h20, h21]; omega
end Go.Proofs.Ytihccnkegkkikaa
/- Laws of chapter 13 in plain Lean: their models answer true. No conditions. -/
namespace Go.Proofs.Ytihccnkegkkikaa
open Go.Am
theorem awake_true : awake = true := by kernel_rfl
theorem three_eq {m n : Nat → Nat → Int} {a b c : Int} (h : Three m a b c) (g : Three n a b c) : m 0 0 = n 0 0 ∧ m 0 1 = n 0 1 ∧ m 0 2 = n 0 2 ∧ m 1 0 = n 1 0 ∧ m 1 1 = n 1 1 ∧ m 1 2 = n 1 2 ∧ m 2 0 = n 2 0 ∧ m 2 1 = n 2 1 ∧ m 2 2 = n 2 2 :=
  ⟨by rw [h.h00, g.h00], by rw [h.h01, g.h01], by rw [h.h02, g.h02], by rw [h.h10, g.h10], by rw [h.h11, g.h11], by rw [h.h12, g.h12], by rw [h.h20, g.h20], by rw [h.h21, g.h21], by rw [h.h22, g.h22]⟩
theorem lawRChecks_true (w : Nat → Nat → Int) : lawRChecks w = true := by
  unfold lawRChecks
  rw [awake_true, way_eq]
  by_cases hw : Ways w
  · obtain ⟨e1, t1⟩ := direct_three hw
    obtain ⟨e2, t2⟩ := rDirect_three hw
    obtain ⟨q1, q2, q3, q4, q5, q6, q7, q8, q9⟩ := three_eq t1 t2
    rw [e1, e2, q1, q2, q3, q4, q5, q6, q7, q8, q9]
    simp
  · have h1 : wayCheck w = 1 := (wayCheck_iff w).2.resolve_left fun h => hw ((wayCheck_iff w).1.1 h)
    have h2 : rWayCheck w = 1 := by rw [way_eq]; exact h1
    unfold direct rDirect
    rw [h1, h2]
    rfl
end Go.Proofs.Ytihccnkegkkikaa
/- Laws of chapter 13 at chains that are too long. No conditions. -/
namespace Go.Proofs.Ytihccnkegkkikaa
open Go.Am
end Go.Proofs.Ytihccnkegkkikaa
/- Inputs of chapter 13, as plain values. No conditions. -/
namespace Go.Proofs.Ytihccnkegkkikaa
open Go.Am
end Go.Proofs.Ytihccnkegkkikaa
/- The contracts of the laws RouteReads, RouteNear, RouteChecks and RouteDirect: each is true, whatever the input. No conditions. -/
namespace Go.Proofs.Ytihccnkegkkikaa
open Go.Am
theorem routeChecks_calls (w : Nat → Nat → Int) : PCalls Try.prog 6 [.agg (rows3 fun p q => .pv (.lit (.int .i64 (w p q))))] (.pv (.bool true)) := by
  have r := lawRChecks_calls w
  rw [lawRChecks_true] at r
  exact r
end Go.Proofs.Ytihccnkegkkikaa
/- An abstract machine over the kit's calls, part 34: three rows of three numbers that are handed in. No conditions. -/
namespace Go.Am
section
variable {H : Type} {enc : TypeId × Value → H} {P : Program} {w : World} {base : Nat} {spare : Nat → Bool} {held : Bool}
theorem lits_VHs {k : IntKind} {ι : Nat → Option (Nat × Nat)} {imm : Nat → Prop} {w' : World} : ∀ (l : List Value) (A : List Int), l.length = A.length → (∀ i, i < A.length → l[i]? = some (.int k (A.getD i 0))) → VHs ι imm w' (A.map fun z => .pv (.lit (.int k z))) l := by
  intro l
  induction l with
  | nil => intro A hA _; cases A with
    | nil => rfl
    | cons a A => simp at hA
  | cons v l ih => intro A hA hA2; cases A with
    | nil => simp at hA
    | cons a A =>
      have h0 := hA2 0 (by simp)
      simp only [List.getElem?_cons_zero, List.getD_cons_zero, Option.some.injEq] at h0
      subst h0
      exact ⟨_, l, rfl, ⟨rfl, rfl⟩, ih A (by simpa using hA) fun i hi => by simpa using hA2 (i + 1) (by simpa using hi)⟩
theorem open_arr33 {r : Reach} {b0 : Nat} {t e e2 : Nat} {k : IntKind} {v : Value} {d : DataW H} {ps : List MemPlace} (ht : P.underlying t = some (.array 3 e)) (he : P.underlying e = some (.array 3 e2)) (he2 : P.underlying e2 = some (.int k)) (hc2 : P.cellsOf e2 = 1) (hc : P.cellsOf e = 3) (hct : P.cellsOf t = 9) (hval : Value.okWide P w r b0 t v) (hd : DataW.Trod enc P w base spare held t v d ps) :
    ∃ f : Nat → Nat → Int, ∀ ι imm w', VH ι imm w' (.agg (rows3 fun p q => .pv (.lit (.int k (f p q))))) v := by
  simp only [Value.okWide, ht] at hval
  obtain ⟨cs, rfl, hsz, _⟩ := hval
  obtain ⟨fuel, hf⟩ := hd
  obtain ⟨xs, m, rfl, _, hl, hlx, hx⟩ := DataW.trod_array ht hf
  simp only [Value.cells] at hl hx
  have hn : cs.toList.length = 9 := by rw [hl, hct]
  have key : ∀ i j, i < 3 → j < 3 → ∃ z, cs.toList[i * 3 + j]? = some (.int k z) := fun i j hi hj => by
    have h1 := hx i hi
    obtain ⟨y, hy⟩ : ∃ y, xs[i]? = some y := ⟨xs[i], by simp [hlx, hi]⟩
    rw [hy] at h1
    obtain ⟨ys, m2, _, _, _, hly, hx2⟩ := DataW.trod_array he h1
    have h2 := hx2 j hj
    obtain ⟨y2, hy2⟩ : ∃ y, ys[j]? = some y := ⟨ys[j], by simp [hly, hj]⟩
    rw [hy2] at h2
    obtain ⟨z, h3, _, _⟩ := DataW.trod_int he2 h2
    rw [hc2, hc, Nat.mul_one] at h3
    refine ⟨z, ?_⟩
    have h5 := congrArg (fun l => l[0]?) h3
    simp only [List.getElem?_cons_zero] at h5
    rw [List.getElem?_take_of_lt (by omega), List.getElem?_drop, List.getElem?_take_of_lt (by omega), List.getElem?_drop] at h5
    simpa using h5
  refine ⟨fun i j => match cs.toList[i * 3 + j]? with | some (.int _ z) => z | _ => 0, fun ι imm w' => ⟨cs.toList, by simp, ?_⟩⟩
  generalize hf : (fun i j : Nat => match cs.toList[i * 3 + j]? with | some (.int _ z) => z | _ => 0) = f
  have hval : ∀ i j, i < 3 → j < 3 → cs.toList[i * 3 + j]? = some (.int k (f i j)) := fun i j hi hj => by
    obtain ⟨z, hz⟩ := key i j hi hj
    have : f i j = z := by rw [← hf]; simp only [hz]
    rw [hz, this]
  exact lits_VHs cs.toList (rows3 f) (by rw [hn]; rfl) fun n hn9 => by
    have hn9 : n < 9 := hn9
    have h := hval (n / 3) (n % 3) (by omega) (by omega)
    rw [show n / 3 * 3 + n % 3 = n by omega] at h
    rw [h]
    congr 2
    rcases (by omega : n = 0 ∨ n = 1 ∨ n = 2 ∨ n = 3 ∨ n = 4 ∨ n = 5 ∨ n = 6 ∨ n = 7 ∨ n = 8) with rfl | rfl | rfl | rfl | rfl | rfl | rfl | rfl | rfl <;> rfl
end
end Go.Am
/- What all rows of this seat need: no knob is turned, the types are laid out. No conditions. -/
namespace Go.Proofs.Ytihccnkegkkikaa
open Go.Am
theorem own : ownKnob Try.prog.godebug = none := by kernel_rfl
theorem laidOut : laidOutB Try.prog = true := by kernel_rfl
end Go.Proofs.Ytihccnkegkkikaa
