/- The laws LayoutPlaces and LayoutSets in plain Lean: their models answer true. No conditions. -/
import Derived.Test.YtjhphpoihadmkaaLayR
import Derived.Test.YtjhphpoihadmkaaLay4
namespace Go.Proofs.Ytjhphpoihadmkaa
open Go.Am

theorem indexFunc_l0_eq (n : Int) : ∀ (l : List Member) (i : Nat), indexFunc_l0 (fun x0 => placeF x0 n) l i = rPlace_l0 n l i
  | [], _ => rfl
  | x :: l, i => by
    show (bif x.node == n then (i : Int) else indexFunc_l0 (fun x0 => placeF x0 n) l (i + 1)) = _
    rw [indexFunc_l0_eq n l (i + 1)]; rfl
theorem place_eq (c : Chain) (n : Int) : place0 c n = rPlace c n := by
  unfold place0 rPlace placeIn indexFunc
  rw [check_eq, indexFunc_l0_eq]
theorem next_eq (c : Chain) (n : Int) (hl : c.members.D.length ≤ 1000000) : nextC c n = rOff c n 1 := by
  unfold nextC rOff
  have h := place0_lt c n
  rw [← place_eq]
  have w1 := wrapI ((c.members.D.length : Int) - 1) (by omega)
  have w2 := wrapI (place0 c n + 1) (by omega)
  rw [w1, w2]
  cases h0 : decide (place0 c n < 0)
  · have h0 := of_decide_eq_false h0
    have e1 : decide (place0 c n + 1 < 0) = false := by simp; omega
    rw [e1]
    by_cases h2 : place0 c n = (c.members.D.length : Int) - 1
    · have e2 : decide (place0 c n + 1 ≥ (c.members.D.length : Int)) = true := by simp; omega
      rw [e2, beq_iff_eq.2 h2]; rfl
    · have e2 : decide (place0 c n + 1 ≥ (c.members.D.length : Int)) = false := by simp; omega
      rw [e2, beq_eq_false_iff_ne.2 h2]; rfl
  · rfl
theorem back_eq (c : Chain) (n : Int) (hl : c.members.D.length ≤ 1000000) : backC c n = rOff c n (-1) := by
  unfold backC rOff
  have h := place0_lt c n
  rw [← place_eq]
  have w2 := wrapI (place0 c n - 1) (by omega)
  rw [show place0 c n + -1 = place0 c n - 1 by omega, w2]
  by_cases h0 : place0 c n < 1
  · rw [decide_eq_true h0]
    by_cases h1 : place0 c n < 0
    · rw [decide_eq_true h1]; rfl
    · have e1 : decide (place0 c n - 1 < 0) = true := by simp; omega
      rw [decide_eq_false h1, e1]; rfl
  · have e0 : decide (place0 c n < 0) = false := by simp; omega
    have e1 : decide (place0 c n - 1 < 0) = false := by simp; omega
    have e2 : decide (place0 c n - 1 ≥ (c.members.D.length : Int)) = false := by simp; omega
    rw [decide_eq_false h0, e0, e1, e2]; rfl
theorem head_eq (c : Chain) : headC c = rEnd c 0 := by
  unfold headC rEnd
  rw [check_eq]
  cases rCheck c != 0
  · have : (IntKind.i64.wrap (0 * IntKind.i64.wrap ((c.members.D.length : Int) - 1))).toNat = 0 := by
      rw [Int.zero_mul]; rfl
    rw [this]
  · rfl
theorem tail_eq (c : Chain) (hl : c.members.D.length ≤ 1000000) : tailC c = rEnd c 1 := by
  unfold tailC rEnd
  rw [check_eq]
  have w1 := wrapI ((c.members.D.length : Int) - 1) (by omega)
  rw [Int.one_mul, w1, w1]
theorem lawPlaces_true (c : Chain) (n : Int) (hl : c.members.D.length ≤ 1000000) : lawPlaces c n = true := by
  unfold lawPlaces
  rw [awake_true, place_eq, next_eq c n hl, back_eq c n hl, head_eq, tail_eq c hl]
  simp

/-! ### Sets -/
def bitsOf (p : Member → Bool) (l : List Member) (S : Nat) : Nat := l.foldl (fun S x => if p x && mIn x.node then S ||| 2 ^ x.node.toNat else S) S
theorem in_iff (n : Int) : mIn n = true ↔ 0 ≤ n ∧ n < 64 := by
  unfold mIn
  by_cases h1 : n ≥ 0 <;> by_cases h2 : n < 64 <;> simp [h1, h2] <;> omega
theorem with_cast {S : Nat} (hS : S < 18446744073709551616) (n : Int) : mWith (S : Int) n = ((if mIn n then S ||| 2 ^ n.toNat else S : Nat) : Int) := by
  cases h : mIn n
  · rw [with_out h]; simp
  · obtain ⟨h1, h2⟩ := (in_iff n).1 h
    obtain ⟨k, rfl⟩ : ∃ k : Nat, n = (k : Int) := ⟨n.toNat, by omega⟩
    rw [with_nat hS (by omega)]; simp
theorem with_cast_lt {S : Nat} (hS : S < 18446744073709551616) (n : Int) : (if mIn n then S ||| 2 ^ n.toNat else S : Nat) < 18446744073709551616 := by
  cases h : mIn n
  · simpa using hS
  · obtain ⟨h1, h2⟩ := (in_iff n).1 h
    simp only [if_true]
    exact with_lt hS (by omega)
theorem nodes_l0_eq : ∀ (l : List Member) (i S : Nat), S < 18446744073709551616 → nodes_l0 l i (S : Int) = (bitsOf (fun _ => true) l S : Nat) ∧ bitsOf (fun _ => true) l S < 18446744073709551616
  | [], _, S, hS => ⟨rfl, hS⟩
  | x :: l, i, S, hS => by
    have := nodes_l0_eq l (i + 1) _ (with_cast_lt hS x.node)
    simp only [nodes_l0, with_cast hS, this.1]
    simp only [bitsOf, List.foldl_cons, Bool.true_and] at this ⊢
    exact ⟨trivial, this.2⟩
theorem whole_l0_eq : ∀ (l : List Member) (i S : Nat), S < 18446744073709551616 → whole_l0 l i (S : Int) = (bitsOf (fun x => !x.fresh) l S : Nat) ∧ bitsOf (fun x => !x.fresh) l S < 18446744073709551616
  | [], _, S, hS => ⟨rfl, hS⟩
  | x :: l, i, S, hS => by
    simp only [whole_l0]
    cases hf : x.fresh
    · have := whole_l0_eq l (i + 1) _ (with_cast_lt hS x.node)
      simp only [Bool.not_false, cond_true, with_cast hS, this.1]
      simp only [bitsOf, List.foldl_cons, hf, Bool.not_false, Bool.true_and] at this ⊢
      exact ⟨trivial, this.2⟩
    · have := whole_l0_eq l (i + 1) S hS
      simp only [Bool.not_true, cond_false, this.1]
      simp only [bitsOf, List.foldl_cons, hf, Bool.not_true, Bool.false_and] at this ⊢
      exact ⟨by simp, by simpa using this.2⟩
theorem bits_test (p : Member → Bool) {n : Nat} (hn : n < 64) : ∀ (l : List Member) (S : Nat), (bitsOf p l S).testBit n = (S.testBit n || l.any fun x => x.node == (n : Int) && p x)
  | [], S => by simp [bitsOf]
  | x :: l, S => by
    have h : bitsOf p (x :: l) S = bitsOf p l (if p x && mIn x.node then S ||| 2 ^ x.node.toNat else S) := rfl
    rw [h, bits_test p hn l, List.any_cons]
    by_cases hx : x.node = (n : Int)
    · have hin : mIn x.node = true := (in_iff _).2 (by omega)
      rw [hin, hx]
      cases p x <;> simp [Nat.testBit_or]
    · have e : (x.node == (n : Int)) = false := by simpa using hx
      rw [e]
      cases hp : p x && mIn x.node
      · simp
      · have hin : mIn x.node = true := by simp only [Bool.and_eq_true] at hp; exact hp.2
        obtain ⟨h1, h2⟩ := (in_iff _).1 hin
        have : x.node.toNat ≠ n := by omega
        simp [Nat.testBit_or, this]
theorem rSet_l2_eq (kk : Int → Int) : ∀ (k i p : Nat), p * 2 ^ k < 18446744073709551616 → rSet_l2 kk k i (p : Int) = kk ((p * 2 ^ k : Nat) : Int)
  | 0, _, p, _ => by simp [rSet_l2]
  | k + 1, i, p, h => by
    have h2 : p * 2 ^ (k + 1) = (2 * p) * 2 ^ k := by rw [Nat.pow_succ, Nat.mul_comm 2 p, Nat.mul_assoc, Nat.mul_comm 2]
    have hp : 2 * p < 18446744073709551616 := by
      have : 1 ≤ 2 ^ k := Nat.one_le_two_pow
      have : 2 * p * 1 ≤ 2 * p * 2 ^ k := Nat.mul_le_mul_left _ this
      omega
    have e : IntKind.u64.wrap (2 * (p : Int)) = ((2 * p : Nat) : Int) := by rw [wrap64]; omega
    simp only [rSet_l2, e]
    rw [rSet_l2_eq kk k (i + 1) (2 * p) (by omega), h2]
theorem rSet_l1_eq (wh : Bool) (i : Nat) (kk : Bool → Int) : ∀ (l : List Member) (j : Nat) (has : Bool), rSet_l1 wh i kk l j has = kk (has || l.any fun x => x.node == (i : Int) && !(wh && x.fresh))
  | [], _, has => by simp [rSet_l1]
  | x :: l, j, has => by
    simp only [rSet_l1, List.any_cons]
    cases has
    · cases h1 : x.node == (i : Int)
      · simp [rSet_l1_eq wh i kk l]
      · cases wh <;> simp [rSet_l1_eq _ i kk l]
    · simp [rSet_l1_eq wh i kk l]
theorem rSet_l0_eq (c : Chain) (wh : Bool) {S : Nat} (hS : S < 18446744073709551616) (hbit : ∀ n, n < 64 → S.testBit n = c.members.D.any fun x => x.node == (n : Int) && !(wh && x.fresh)) : ∀ (k i : Nat), i + k = 64 → rSet_l0 c wh k i ((S % 2 ^ i : Nat) : Int) = ((S : Nat) : Int)
  | 0, i, h => by
    have : i = 64 := by omega
    subst this
    simp only [rSet_l0]
    rw [Nat.mod_eq_of_lt (by simpa using hS)]
  | k + 1, i, h => by
    simp only [rSet_l0, rSet_l1_eq, Bool.false_or]
    rw [← hbit i (by omega)]
    have hs : S % 2 ^ (i + 1) = S % 2 ^ i + 2 ^ i * (S.testBit i).toNat := by rw [Nat.mod_pow_succ, Nat.toNat_testBit]
    have ih := rSet_l0_eq c wh hS hbit k (i + 1) (by omega)
    cases hb : S.testBit i
    · rw [hb] at hs
      simp only [cond_false]
      rw [show S % 2 ^ (i + 1) = S % 2 ^ i by rw [hs]; simp] at ih
      exact ih
    · rw [hb] at hs
      simp only [cond_true, Int.toNat_natCast]
      have hpow : 2 ^ i < 18446744073709551616 := by
        have : 2 ^ i < 2 ^ 64 := Nat.pow_lt_pow_right (by decide) (by omega)
        simpa using this
      have h1 : (1 : Int) = ((1 : Nat) : Int) := rfl
      rw [h1, rSet_l2_eq _ i 0 1 (by omega), Nat.one_mul]
      have hle : S % 2 ^ (i + 1) ≤ S := Nat.mod_le _ _
      simp only [Bool.toNat_true, Nat.mul_one] at hs
      have e : IntKind.u64.wrap (((S % 2 ^ i : Nat) : Int) + ((2 ^ i : Nat) : Int)) = ((S % 2 ^ (i + 1) : Nat) : Int) := by
        rw [wrap64, hs]
        rw [hs] at hle
        generalize S % 2 ^ i = a at hle ⊢
        generalize 2 ^ i = b at hle ⊢
        omega
      simp only [e]
      exact ih
theorem sets_eq (c : Chain) : nodes c = rSet c false ∧ whole c = rSet c true := by
  constructor
  · obtain ⟨h1, h2⟩ := nodes_l0_eq c.members.D 0 0 (by decide)
    have h3 := rSet_l0_eq c false h2 (fun n hn => by rw [bits_test _ hn]; simp) 64 0 rfl
    unfold nodes rSet
    rw [show (0 : Int) = ((0 : Nat) : Int) from rfl, h1]
    rw [show (bitsOf (fun _ => true) c.members.D 0) % 2 ^ 0 = 0 by rw [Nat.pow_zero, Nat.mod_one]] at h3
    exact h3.symm
  · obtain ⟨h1, h2⟩ := whole_l0_eq c.members.D 0 0 (by decide)
    have h3 := rSet_l0_eq c true h2 (fun n hn => by rw [bits_test _ hn]; simp) 64 0 rfl
    unfold whole rSet
    rw [show (0 : Int) = ((0 : Nat) : Int) from rfl, h1]
    rw [show (bitsOf (fun x => !x.fresh) c.members.D 0) % 2 ^ 0 = 0 by rw [Nat.pow_zero, Nat.mod_one]] at h3
    exact h3.symm
theorem lawSets_true (c : Chain) : lawSets c = true := by
  unfold lawSets
  rw [awake_true, (sets_eq c).1, (sets_eq c).2]
  simp
end Go.Proofs.Ytjhphpoihadmkaa
