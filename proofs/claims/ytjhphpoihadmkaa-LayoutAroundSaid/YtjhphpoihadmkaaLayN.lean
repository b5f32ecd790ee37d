/- Going around a chain: the measure. No conditions. -/
import Derived.Test.YtjhphpoihadmkaaLayF
namespace Go.Proofs.Ytjhphpoihadmkaa
open Go.Am
def aroundM (c : Chain) (n : Int) : Nat := if n < 0 then 0 else if place0 c n < 0 then 1 else ((c.members.D.length : Int) - place0 c n).toNat
theorem rPlace_at : ∀ (l pre : List Member) (i p : Nat), okFrom pre l = true → p < l.length → rPlace_l0 l[p]!.node l i = ((i + p : Nat) : Int)
  | [], _, _, _, _, hp => by simp at hp
  | x :: l, pre, i, p, h, hp => by
    unfold rPlace_l0
    cases p with
    | zero => simp
    | succ p =>
      have h' := h
      simp only [okFrom, Bool.and_eq_true] at h
      obtain ⟨_, h3⟩ := h
      have hp' : p < l.length := by simpa using hp
      have e : (x :: l)[p + 1]! = l[p]! := by simp
      have hm : l[p]! ∈ l := by rw [getElem!_pos l p hp']; exact List.getElem_mem hp'
      have hne := ok_apart l (pre ++ [x]) h3 _ hm x (by simp)
      have : (x.node == l[p]!.node) = false := by rw [beq_eq_false_iff_ne]; exact hne
      rw [e, this, cond_false, rPlace_at l (pre ++ [x]) (i + 1) p h3 hp']
      rw [show i + 1 + p = i + (p + 1) by omega]
theorem place_at {c : Chain} (hc : check c = 0) {p : Nat} (hp : p < c.members.D.length) : place0 c c.members.D[p]!.node = (p : Int) := by
  rw [place_eq]; unfold rPlace
  rw [← check_eq, hc]
  have := rPlace_at c.members.D [] 0 p (ok_of_check hc) hp
  rw [Nat.zero_add] at this
  exact this
theorem node_ok {c : Chain} (hc : check c = 0) {p : Nat} (hp : p < c.members.D.length) : 0 ≤ c.members.D[p]!.node ∧ c.members.D[p]!.node ≤ 5 := by
  have hm : c.members.D[p]! ∈ c.members.D := by rw [getElem!_pos _ p hp]; exact List.getElem_mem hp
  have := (member_iff _).1 (ok_member _ _ (ok_of_check hc) _ hm)
  exact ⟨this.1, this.2.1⟩
theorem check_of_place {c : Chain} {n : Int} (h : 0 ≤ place0 c n) : check c = 0 := by
  unfold place0 at h
  cases hc : check c != 0
  · exact eq_of_bne_false hc
  · rw [hc] at h; simp at h
/-- Who stands at a place; behind the last one: nobody. -/
def nodeAt (c : Chain) (p : Nat) : Int := if p < c.members.D.length then c.members.D[p]!.node else -1
theorem next_of {c : Chain} {n : Int} {p : Nat} (hc : check c = 0) (h : place0 c n = (p : Int)) : nextC c n = nodeAt c (p + 1) := by
  have hl := check_le6 hc
  have hlt := (place0_lt c n).1
  have w1 := wrapI ((c.members.D.length : Int) - 1) (by omega)
  have w2 := wrapI ((p : Int) + 1) (by omega)
  unfold nextC nodeAt
  rw [h, w1, w2]
  have e0 : decide ((p : Int) < 0) = false := by simp
  rw [e0, cond_false]
  by_cases hp : p + 1 < c.members.D.length
  · have e1 : ((p : Int) == (c.members.D.length : Int) - 1) = false := by rw [beq_eq_false_iff_ne]; omega
    rw [e1, if_pos hp, cond_false, show ((p : Int) + 1).toNat = p + 1 by omega]
  · have e1 : ((p : Int) == (c.members.D.length : Int) - 1) = true := by rw [beq_iff_eq]; omega
    rw [e1, if_neg hp, cond_true]
theorem back_of {c : Chain} {n : Int} {p : Nat} (hc : check c = 0) (h : place0 c n = (p : Int)) : backC c n = if p = 0 then -1 else c.members.D[p - 1]!.node := by
  have hl := check_le6 hc
  have hlt := (place0_lt c n).1
  have w2 := wrapI ((p : Int) - 1) (by omega)
  unfold backC
  rw [h, w2]
  by_cases hp : p = 0
  · subst hp; rfl
  · have e0 : decide ((p : Int) < 1) = false := by simp; omega
    rw [e0, if_neg hp, cond_false, show ((p : Int) - 1).toNat = p - 1 by omega]
theorem aroundM_next (c : Chain) {n : Int} (h : n ≥ 0) : aroundM c (nextC c n) + 1 = aroundM c n := by
  unfold aroundM
  rw [if_neg (show ¬ n < 0 by omega)]
  by_cases hp : place0 c n < 0
  · have e : nextC c n = -1 := by unfold nextC; rw [decide_eq_true hp]; rfl
    rw [e, if_pos hp]; rfl
  · rw [if_neg hp]
    have hc := check_of_place (c := c) (n := n) (by omega)
    obtain ⟨p, hpp⟩ : ∃ p : Nat, place0 c n = (p : Int) := ⟨(place0 c n).toNat, by omega⟩
    have hlt := (place0_lt c n).1
    rw [next_of hc hpp, hpp]
    unfold nodeAt
    by_cases hp1 : p + 1 < c.members.D.length
    · have := node_ok hc hp1
      rw [if_pos hp1, place_at hc hp1, if_neg (by omega), if_neg (by omega)]; omega
    · rw [if_neg hp1]
      simp; omega
end Go.Proofs.Ytjhphpoihadmkaa
