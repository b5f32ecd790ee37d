/- The law LayoutAround in plain Lean, and its contract: it is true, whatever the input. No conditions. -/
import Derived.Test.YtjhphpoihadmkaaLay8
import Derived.Test.YtjhphpoihadmkaaFlatB
namespace Go.Proofs.Ytjhphpoihadmkaa
open Go.Am
theorem ok_cnt : ∀ (xs pre : List Member), okFrom pre xs = true → pre.length = cnt pre → (pre ++ xs).length = cnt (pre ++ xs)
  | [], pre, _, hc => by simpa using hc
  | x :: xs, pre, h, hc => by
    simp only [okFrom, Bool.and_eq_true] at h
    obtain ⟨⟨h1, h2⟩, h3⟩ := h
    obtain ⟨m1, m2, _, _⟩ := (member_iff x).1 h1
    have ha : pre.any (fun y => y.node == x.node) = false := by
      rw [Bool.eq_false_iff]
      intro he
      obtain ⟨y, hy, he⟩ := List.any_eq_true.1 he
      have := List.all_eq_true.1 h2 y hy
      rw [he] at this
      simp at this
    have := ok_cnt xs (pre ++ [x]) h3 (by rw [cnt_step m1 m2 ha, List.length_append, hc]; rfl)
    simpa using this
theorem popcount : ∀ S : Nat, S < 64 → mLen (S : Int) = (((S.testBit 0).toNat + (S.testBit 1).toNat + (S.testBit 2).toNat + (S.testBit 3).toNat + (S.testBit 4).toNat + (S.testBit 5).toNat : Nat) : Int) := by
  have h : ∀ S : Fin 64, mLen ((S : Nat) : Int) = ((((S : Nat).testBit 0).toNat + ((S : Nat).testBit 1).toNat + ((S : Nat).testBit 2).toNat + ((S : Nat).testBit 3).toNat + ((S : Nat).testBit 4).toNat + ((S : Nat).testBit 5).toNat : Nat) : Int) := of_decide_eq_true (by kernel_rfl)
  exact fun S hS => h ⟨S, hS⟩
def seenAt (c : Chain) (p : Nat) : Nat := bitsOf (fun _ => true) (c.members.D.take p) 0
theorem seen_lt (c : Chain) (p : Nat) : seenAt c p < 18446744073709551616 := (nodes_l0_eq (c.members.D.take p) 0 0 (by decide)).2
theorem seen_bit (c : Chain) (p : Nat) {n : Nat} (hn : n < 64) : (seenAt c p).testBit n = (c.members.D.take p).any fun x => x.node == (n : Int) := by
  unfold seenAt; rw [bits_test _ hn]; simp
theorem seen_succ {c : Chain} (hc : check c = 0) {p : Nat} (hp : p < c.members.D.length) : mWith (seenAt c p : Int) c.members.D[p]!.node = ((seenAt c (p + 1) : Nat) : Int) := by
  rw [with_cast (seen_lt c p)]
  unfold seenAt
  rw [List.take_succ_eq_append_getElem hp, bitsOf, bitsOf, List.foldl_append, getElem!_pos _ p hp]
  simp
theorem seen_has {c : Chain} (hc : check c = 0) {p : Nat} (hp : p < c.members.D.length) : mHas (seenAt c p : Int) c.members.D[p]!.node = false := by
  obtain ⟨m1, m2⟩ := node_ok hc hp
  obtain ⟨k, hk⟩ : ∃ k : Nat, c.members.D[p]!.node = (k : Int) := ⟨c.members.D[p]!.node.toNat, by omega⟩
  rw [hk, has_nat (seen_lt c p) (by omega), seen_bit c p (by omega), Bool.eq_false_iff]
  intro he
  obtain ⟨x, hx, hxe⟩ := List.any_eq_true.1 he
  obtain ⟨j, hj, rfl⟩ := List.getElem_of_mem hx
  have hj' : j < p := by rw [List.length_take] at hj; omega
  have hjl : j < c.members.D.length := by omega
  have e1 := place_at hc hjl
  have e2 := place_at hc hp
  have e3 : (c.members.D.take p)[j] = c.members.D[j]! := by rw [List.getElem_take, getElem!_pos _ j hjl]
  rw [e3, beq_iff_eq, ← hk] at hxe
  rw [hxe, e2] at e1
  omega
theorem around_l0_true {c : Chain} (hc : check c = 0) : ∀ (k p : Nat), p + k = c.members.D.length → lawAround_l0 c (k + 1) (seenAt c p : Int) (if p = 0 then -1 else c.members.D[p - 1]!.node) (nodeAt c p) = true
  | 0, p, hp => by
    have hn : nodeAt c p = -1 := by unfold nodeAt; rw [if_neg (by omega)]
    have hl := check_le6 hc
    have hl0 := check_len hc
    unfold lawAround_l0
    rw [hn]
    have e0 : decide ((-1 : Int) ≥ 0) = false := rfl
    rw [e0, cond_false]
    have htake : c.members.D.take p = c.members.D := List.take_of_length_le (by omega)
    have e1 : ((seenAt c p : Nat) : Int) = nodes c := by
      unfold nodes seenAt
      rw [htake]
      exact (nodes_l0_eq c.members.D 0 0 (by decide)).1.symm
    have e2 : mLen (seenAt c p : Int) = (c.members.D.length : Int) := by
      have hb : ∀ n, n < 64 → (seenAt c p).testBit n = c.members.D.any fun x => x.node == (n : Int) := fun n hn => by rw [seen_bit c p hn, htake]
      have h64 : seenAt c p < 2 ^ 6 := Nat.lt_pow_two_of_testBit _ fun i hi => by
        by_cases h : i < 64
        · rw [hb i h, Bool.eq_false_iff]
          intro he
          obtain ⟨x, hx, hxe⟩ := List.any_eq_true.1 he
          have := (member_iff _).1 (ok_member _ _ (ok_of_check hc) x hx)
          rw [beq_iff_eq] at hxe
          omega
        · exact Nat.testBit_lt_two_pow (Nat.lt_of_lt_of_le (seen_lt c p) (by
            have : (2 : Nat) ^ 64 ≤ 2 ^ i := Nat.pow_le_pow_right (by decide) (by omega)
            have h' : (2 : Nat) ^ 64 = 18446744073709551616 := by decide
            omega))
      have hcnt := ok_cnt c.members.D [] (ok_of_check hc) (by decide)
      rw [List.nil_append] at hcnt
      rw [popcount _ h64, hcnt, hb 0 (by decide), hb 1 (by decide), hb 2 (by decide), hb 3 (by decide), hb 4 (by decide), hb 5 (by decide)]
      rfl
    have e3 : (if p = 0 then -1 else c.members.D[p - 1]!.node) = tailC c := by
      unfold tailC
      rw [hc, if_neg (by omega), wrapI _ (by omega), show ((c.members.D.length : Int) - 1).toNat = p - 1 by omega]
      rfl
    rw [e2, e1, e3, awake_true]
    simp
  | k + 1, p, hp => by
    have hpl : p < c.members.D.length := by omega
    have hn : nodeAt c p = c.members.D[p]!.node := by unfold nodeAt; rw [if_pos hpl]
    obtain ⟨m1, m2⟩ := node_ok hc hpl
    unfold lawAround_l0
    have e0 : decide (nodeAt c p ≥ 0) = true := by rw [hn]; exact decide_eq_true m1
    rw [e0, cond_true, hn, seen_has hc hpl, cond_false, back_of hc (place_at hc hpl), bne_self_eq_false, cond_false, seen_succ hc hpl, next_of hc (place_at hc hpl)]
    exact around_l0_true hc k (p + 1) (by omega)
theorem lawAround_true (c : Chain) : lawAround c = true := by
  unfold lawAround
  cases hc : check c != 0
  · have hc := eq_of_bne_false hc
    have hl0 := check_len hc
    have hh : headC c = nodeAt c 0 := by
      unfold headC nodeAt
      rw [hc, if_pos hl0]; rfl
    have hm : aroundM c (headC c) = c.members.D.length := by
      unfold aroundM
      rw [hh]
      unfold nodeAt
      have := node_ok hc hl0
      rw [if_pos hl0, place_at hc hl0, if_neg (by omega), if_neg (by omega)]
      omega
    rw [cond_false, hm, hh]
    exact around_l0_true hc c.members.D.length 0 (by omega)
  · have h1 : headC c = -1 := by unfold headC; rw [hc]; rfl
    have h2 : tailC c = -1 := by unfold tailC; rw [hc]; rfl
    rw [h1, h2, awake_true]; rfl
theorem layoutAround_calls (c : Chain) (wc : WT24 c) : PCalls Try.prog 6 [.agg ((eChain.enc c).map .pv)] (.pv (.bool true)) := by
  have h := lawAround_calls c wc.2.1
  rw [lawAround_true c] at h
  exact h
end Go.Proofs.Ytjhphpoihadmkaa
