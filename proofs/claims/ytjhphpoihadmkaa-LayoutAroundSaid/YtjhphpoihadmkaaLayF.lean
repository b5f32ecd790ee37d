/- The law LayoutFollows in plain Lean: its model answers true. No conditions. -/
import Derived.Test.YtjhphpoihadmkaaLayS
import Derived.Test.YtjhphpoihadmkaaLay6
namespace Go.Proofs.Ytjhphpoihadmkaa
open Go.Am

theorem ok_apart : ∀ (l pre : List Member), okFrom pre l = true → ∀ y ∈ l, ∀ z ∈ pre, z.node ≠ y.node
  | [], _, _, y, hy, _, _ => by cases hy
  | x :: l, pre, h, y, hy, z, hz => by
    simp only [okFrom, Bool.and_eq_true] at h
    obtain ⟨⟨_, h2⟩, h3⟩ := h
    cases hy with
    | head =>
      have := List.all_eq_true.1 h2 z hz
      simp at this
      exact this.1
    | tail _ hm => exact ok_apart l (pre ++ [x]) h3 y hm z (by simp [hz])
theorem unique_at (n : Int) : ∀ (l pre : List Member), okFrom pre l = true → (l.any fun y => y.node == n && !y.fresh) = (decide (0 ≤ rPlace_l0 n l pre.length) && !((pre ++ l)[(rPlace_l0 n l pre.length).toNat]!.fresh))
  | [], _, _ => by simp [rPlace_l0]
  | x :: l, pre, h => by
    have h' := h
    simp only [okFrom, Bool.and_eq_true] at h
    obtain ⟨_, h3⟩ := h
    cases hx : x.node == n
    · have ih := unique_at n l (pre ++ [x]) h3
      have hl : (pre ++ [x]).length = pre.length + 1 := by simp
      rw [hl] at ih
      simp only [List.any_cons, hx, Bool.false_and, Bool.false_or, rPlace_l0, cond_false, ih]
      simp
    · have hnone : (l.any fun y => y.node == n && !y.fresh) = false := by
        rw [Bool.eq_false_iff]
        intro he
        obtain ⟨y, hy, he⟩ := List.any_eq_true.1 he
        have := ok_apart l (pre ++ [x]) h3 y hy x (by simp)
        simp only [Bool.and_eq_true, beq_iff_eq] at he hx
        exact this (hx.trans he.1.symm)
      simp only [List.any_cons, hx, Bool.true_and, hnone, Bool.or_false, rPlace_l0, cond_true]
      simp

theorem ok_of_check {c : Chain} (h : check c = 0) : okFrom [] c.members.D = true := by
  unfold check at h
  obtain ⟨_, h⟩ := bif_const (by decide) h
  obtain ⟨_, h⟩ := bif_const (by decide) h
  obtain ⟨_, h⟩ := bif_const (by decide) h
  obtain ⟨_, h⟩ := bif_const (by decide) h
  have h1 : check_l0 c.members.D 0 0 0 = bif okFrom [] c.members.D then 0 else 80 := check_l0_eq c.members.D [] 0 0 0 ⟨by decide, fun n hn => by
    have := has_nat (S := 0) (n := n) (by decide) (by omega)
    rw [this]; simp, fun y hy => (by cases hy), .inl rfl⟩
  rw [h1] at h
  cases ho : okFrom [] c.members.D
  · rw [ho] at h; cases h
  · rfl
theorem ok_member : ∀ (l pre : List Member), okFrom pre l = true → ∀ y ∈ l, member y = true
  | [], _, _, y, hy => by cases hy
  | x :: l, pre, h, y, hy => by
    simp only [okFrom, Bool.and_eq_true] at h
    cases hy with
    | head => exact h.1.1
    | tail _ hm => exact ok_member l (pre ++ [x]) h.2 y hm

def goodNF (a : Chain) (x : Member) : Bool := x.fresh || (decide (0 ≤ rPlace a x.node) && !(a.members.D[(rPlace a x.node).toNat]!.fresh))
def asc (last : Int) : List Int → Bool
  | [] => true
  | p :: ps => !(decide (p < last)) && asc p ps
def stayOf (a : Chain) : List Member → List Int
  | [] => []
  | x :: l => if 0 ≤ rPlace a x.node then rPlace a x.node :: stayOf a l else stayOf a l
theorem rFollows_l0_eq (a : Chain) : ∀ (l : List Member) (i : Nat) (last : Int), rFollows_l0 a l i last = (l.all (goodNF a) && asc last (stayOf a l) && (decide (last ≥ 0) || !(stayOf a l).isEmpty))
  | [], _, last => by simp [rFollows_l0, stayOf, asc]
  | x :: l, i, last => by
    have h1 := rFollows_l0_eq a l (i + 1) last
    have h2 := rFollows_l0_eq a l (i + 1) (rPlace a x.node)
    simp only [rFollows_l0, List.all_cons, stayOf, goodNF]
    by_cases hp : 0 ≤ rPlace a x.node
    · have e1 : decide (rPlace a x.node < 0) = false := by simp; omega
      have e2 : decide (rPlace a x.node ≥ 0) = true := by simp; omega
      have e3 : decide (0 ≤ rPlace a x.node) = true := by simp; omega
      simp only [e1, e2, if_pos hp, asc, h2, Bool.true_and, cond_true, cond_false, List.isEmpty_cons, Bool.not_false, Bool.or_true, Bool.and_true, Bool.true_or]
      cases x.fresh <;> cases (a.members.D[(rPlace a x.node).toNat]!).fresh <;> cases decide (rPlace a x.node < last) <;> simp
    · have e1 : decide (rPlace a x.node < 0) = true := by simp; omega
      have e2 : decide (rPlace a x.node ≥ 0) = false := by simp; omega
      have e3 : decide (0 ≤ rPlace a x.node) = false := by simp; omega
      simp only [e1, e2, if_neg hp, h1, Bool.false_and, cond_true, cond_false, Bool.or_false]
      cases x.fresh <;> simp
theorem follows_l0_eq (a : Chain) (hp : ∀ n, placeIn a n = rPlace a n) : ∀ (l : List Member) (i : Nat) (stay : List Int), follows_l0 a l i stay = (isSorted ⟨(stay ++ stayOf a l).isEmpty, stay ++ stayOf a l⟩ && decide (((stay ++ stayOf a l).length : Int) > 0))
  | [], _, stay => by
    simp only [follows_l0, stayOf, List.append_nil]
    cases isSorted ⟨stay.isEmpty, stay⟩ <;> rfl
  | x :: l, i, stay => by
    show (bif decide (placeIn a x.node ≥ 0) then follows_l0 a l (i + 1) (stay ++ [placeIn a x.node]) else follows_l0 a l (i + 1) stay) = _
    rw [hp]
    by_cases h : 0 ≤ rPlace a x.node
    · have e2 : decide (rPlace a x.node ≥ 0) = true := by simp; omega
      have hs : stayOf a (x :: l) = rPlace a x.node :: stayOf a l := by simp [stayOf, h]
      rw [e2, hs, cond_true, follows_l0_eq a hp l, List.append_assoc, List.singleton_append]
    · have e2 : decide (rPlace a x.node ≥ 0) = false := by simp; omega
      have hs : stayOf a (x :: l) = stayOf a l := by simp [stayOf, h]
      rw [e2, hs, cond_false, follows_l0_eq a hp l]
theorem less_eq (x y : Int) : less x y = decide (x < y) := by unfold less isNaN; simp
theorem isSorted_l0_eq (x : Sl Int) : ∀ (i : Nat), i ≤ 1000000 → isSorted_l0 x (i + 1) (i : Int) = (List.range i).all fun j => !(decide (x.D[j + 1]! < x.D[j]!))
  | 0, _ => by simp [isSorted_l0]
  | i + 1, hi => by
    have ih := isSorted_l0_eq x i (by omega)
    have e1 : decide (((i + 1 : Nat) : Int) > 0) = true := by simp
    have e2 : IntKind.i64.wrap (((i + 1 : Nat) : Int) - 1) = (i : Int) := by rw [wrapI _ (by omega)]; omega
    rw [isSorted_l0, e1, e2, cond_true, less_eq, ih, List.range_succ, List.all_append]
    simp only [Int.toNat_natCast, List.all_cons, List.all_nil, Bool.and_true]
    cases decide (x.D[i + 1]! < x.D[i]!) <;> simp
theorem asc_eq : ∀ (ps : List Int) (p : Int), asc p ps = (List.range ps.length).all fun j => !(decide ((p :: ps)[j + 1]! < (p :: ps)[j]!))
  | [], _ => rfl
  | q :: ps, p => by
    rw [asc, asc_eq ps q, List.length_cons, List.range_succ_eq_map]
    rw [List.all_cons, List.all_map]
    rfl
theorem isSorted_eq (f : Bool) : ∀ (l : List Int), l.length ≤ 1000000 → isSorted ⟨f, l⟩ = match l with | [] => true | p :: ps => asc p ps
  | [], _ => by
    unfold isSorted
    have : IntKind.i64.wrap (((([] : List Int).length : Nat) : Int) - 1) = -1 := by rw [wrapI _ (by simp)]; rfl
    simp only [this]
    rfl
  | p :: ps, h => by
    unfold isSorted
    have : IntKind.i64.wrap ((((p :: ps).length : Nat) : Int) - 1) = (ps.length : Int) := by
      rw [wrapI _ (by simp only [List.length_cons] at h ⊢; omega)]; simp
    simp only [this, Int.toNat_natCast]
    rw [isSorted_l0_eq _ _ (by simp only [List.length_cons] at h; omega), asc_eq]
theorem stay_len (a : Chain) : ∀ (l : List Member), (stayOf a l).length ≤ l.length
  | [] => Nat.le_refl _
  | x :: l => by
    have := stay_len a l
    simp only [stayOf, List.length_cons]
    split
    · simp only [List.length_cons]; omega
    · omega
theorem stay_pos (a : Chain) : ∀ (l : List Member), ∀ p ∈ stayOf a l, 0 ≤ p
  | [], p, hp => by cases hp
  | x :: l, p, hp => by
    simp only [stayOf] at hp
    split at hp
    · cases hp with
      | head => assumption
      | tail _ hm => exact stay_pos a l p hm
    · exact stay_pos a l p hp

theorem but_zero {s t : Nat} (_ : s < 18446744073709551616) (_ : t < 18446744073709551616) : mBut (s : Int) (t : Int) = 0 ↔ ∀ n, n < 64 → s.testBit n = true → t.testBit n = true := by
  have e1 : mBut (s : Int) (t : Int) = (((BitVec.ofNat 64 s &&& ~~~ BitVec.ofNat 64 t : BitVec 64).toNat : Nat) : Int) := by
    show IntKind.u64.wrap (((BitVec.ofInt 64 (s : Int) &&& ~~~ BitVec.ofInt 64 (t : Int) : BitVec 64).toNat : Nat) : Int) = _
    rw [BitVec.ofInt_natCast, BitVec.ofInt_natCast, wrap64]
    have := (BitVec.ofNat 64 s &&& ~~~ BitVec.ofNat 64 t : BitVec 64).isLt
    have h' : (2 : Nat) ^ 64 = 18446744073709551616 := by decide
    omega
  rw [e1]
  constructor
  · intro h n hn hsn
    have h0 : (BitVec.ofNat 64 s &&& ~~~ BitVec.ofNat 64 t : BitVec 64) = 0#64 := BitVec.eq_of_toNat_eq (by simpa using h)
    have := congrArg (fun v => v.getLsbD n) h0
    simp only [BitVec.getLsbD_and, BitVec.getLsbD_not, BitVec.getLsbD_ofNat, hn, decide_true, Bool.true_and, hsn] at this
    cases ht' : t.testBit n
    · rw [ht'] at this; simp at this
    · rfl
  · intro h
    have h0 : (BitVec.ofNat 64 s &&& ~~~ BitVec.ofNat 64 t : BitVec 64) = 0#64 := by
      apply BitVec.eq_of_getLsbD_eq
      intro n hn
      simp only [BitVec.getLsbD_and, BitVec.getLsbD_not, BitVec.getLsbD_ofNat, hn, decide_true, Bool.true_and]
      cases hs' : s.testBit n
      · simp
      · rw [h n hn hs']; simp
    rw [h0]; rfl

theorem follows_eq (a b : Chain) : follows a b = rFollows a b := by
  unfold follows rFollows
  rw [← check_eq, ← check_eq]
  cases ha : check a != 0
  case true => rfl
  cases hb : check b != 0
  case true => rfl
  have ha := eq_of_bne_false ha
  have hb := eq_of_bne_false hb
  simp only [cond_false]
  rw [show decide (a.epoch ≥ b.epoch) = decide (b.epoch ≤ a.epoch) from rfl]
  cases he : decide (b.epoch ≤ a.epoch)
  case true => rfl
  simp only [cond_false]
  have hp : ∀ n, placeIn a n = rPlace a n := fun n => by
    rw [← place_eq]; unfold place0; rw [ha]; rfl
  have hl := stay_len a b.members.D
  have hb6 := check_le6 hb
  rw [rFollows_l0_eq, follows_l0_eq a hp, List.nil_append, isSorted_eq _ _ (by omega)]
  obtain ⟨b1, b2⟩ := whole_l0_eq b.members.D 0 0 (by decide)
  obtain ⟨a1, a2⟩ := whole_l0_eq a.members.D 0 0 (by decide)
  have hoka := ok_of_check ha
  have hokb := ok_of_check hb
  have hgood : ∀ x ∈ b.members.D, goodNF a x = (x.fresh || a.members.D.any fun y => y.node == x.node && !y.fresh) := fun x _ => by
    have := unique_at x.node a.members.D [] hoka
    simp only [List.length_nil, List.nil_append] at this
    have hr : rPlace a x.node = rPlace_l0 x.node a.members.D 0 := by unfold rPlace; rw [← check_eq, ha]; rfl
    rw [goodNF, hr, this]
  have hbut : (mBut (whole b) (whole a) != 0) = !(b.members.D.all (goodNF a)) := by
    have e : mBut (whole b) (whole a) = 0 ↔ b.members.D.all (goodNF a) = true := by
      unfold whole
      rw [show (0 : Int) = ((0 : Nat) : Int) from rfl, b1, a1]
      rw [show ((0 : Nat) : Int) = (0 : Int) from rfl, but_zero b2 a2, List.all_eq_true]
      constructor
      · intro h x hx
        rw [hgood x hx]
        cases hf : x.fresh
        · obtain ⟨m1, m2, _, _⟩ := (member_iff x).1 (ok_member _ _ hokb x hx)
          obtain ⟨k, hk⟩ : ∃ k : Nat, x.node = (k : Int) := ⟨x.node.toNat, by omega⟩
          have := h k (by omega) (by
            rw [bits_test _ (by omega)]
            have : (b.members.D.any fun y => y.node == (k : Int) && !y.fresh) = true := List.any_eq_true.2 ⟨x, hx, by simp [hk, hf]⟩
            rw [this]; simp)
          rw [bits_test _ (by omega)] at this
          simpa [hk] using this
        · rfl
      · intro h n hn hbn
        rw [bits_test _ hn] at hbn ⊢
        have hbn : (b.members.D.any fun y => y.node == (n : Int) && !y.fresh) = true := by simpa using hbn
        obtain ⟨x, hx, hxx⟩ := List.any_eq_true.1 hbn
        simp only [Bool.and_eq_true, beq_iff_eq, Bool.not_eq_true'] at hxx
        have := h x hx
        rw [hgood x hx, hxx.2, hxx.1] at this
        simp only [Bool.false_or] at this
        rw [this]; simp
    cases hall : b.members.D.all (goodNF a)
    · rw [hall] at e
      have : mBut (whole b) (whole a) ≠ 0 := fun h => by have := e.1 h; cases this
      simp [this]
    · rw [hall] at e
      rw [e.2 rfl]; rfl
  rw [hbut]
  cases hall : b.members.D.all (goodNF a)
  · rfl
  · simp only [Bool.not_true, cond_false, Bool.true_and]
    cases hst : stayOf a b.members.D with
    | nil => simp
    | cons p ps =>
      have hp0 : 0 ≤ p := stay_pos a b.members.D p (by rw [hst]; exact List.mem_cons_self ..)
      have e1 : decide (p < -1) = false := by simp; omega
      simp [asc, e1]
theorem lawFollows_true (a b : Chain) : lawFollows a b = true := by
  unfold lawFollows
  rw [awake_true, follows_eq]
  simp
end Go.Proofs.Ytjhphpoihadmkaa
