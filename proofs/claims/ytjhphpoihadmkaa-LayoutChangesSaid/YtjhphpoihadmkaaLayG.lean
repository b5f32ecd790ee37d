/- Changes of chains: the code's and the document's are alike. No conditions. -/
import Derived.Test.YtjhphpoihadmkaaLayF
import Derived.Test.YtjhphpoihadmkaaLay5
namespace Go.Proofs.Ytjhphpoihadmkaa
open Go.Am

def eqC (a b : Chain) : Prop := a.epoch = b.epoch ∧ a.members.D = b.members.D
def eqP (p q : Chain × Int) : Prop := eqC p.1 q.1 ∧ p.2 = q.2
theorem eqC_refl (a : Chain) : eqC a a := ⟨rfl, rfl⟩
theorem rSame_of {a b : Chain} (h : eqC a b) : rSame a b = true := by
  have := same_self b
  rw [same_eq] at this
  unfold rSame at this ⊢
  rw [h.1, h.2]; exact this
theorem clone_eq {s : Sl Member} (h : s.nil = true → s.D = []) : cloneMembers s = s := by
  unfold cloneMembers
  cases s with
  | mk f D =>
    cases f
    · rfl
    · have h : D = [] := h rfl
      rw [h]; rfl

/-! ### Drop, DropSite -/
def finW (c : Chain) (l : List Member) : Chain × Int :=
  bif decide (c.epoch ≥ 1099511627776) then (Chain.mk 0 (Sl.mk true []), 5) else bif ((l.length : Int) == (c.members.D.length : Int)) then (Chain.mk 0 (Sl.mk true []), 81) else bif ((l.length : Int) == 0) then (Chain.mk 0 (Sl.mk true []), 83) else (after c (Sl.mk l.isEmpty l), 0)
theorem without_l0_eq (c : Chain) (gone : Int) : ∀ (xs : List Member) (i : Nat) (l : List Member), without_l0 c gone xs i l = finW c (if l = [] then (xs.filter fun x => !mHas gone x.node).dropWhile (·.fresh) else l ++ xs.filter fun x => !mHas gone x.node)
  | [], _, l => by
    unfold without_l0 finW
    cases l <;> simp
  | x :: xs, i, l => by
    unfold without_l0
    cases hk : mHas gone x.node
    · cases l with
      | nil =>
        cases hf : x.fresh
        · simp [without_l0_eq c gone xs, hk, hf]
        · simp [without_l0_eq c gone xs, hk, hf]
      | cons y l =>
        have : decide ((((y :: l).length : Nat) : Int) > 0) = true := by simp
        rw [this]
        simp [without_l0_eq c gone xs, hk]
    · simp [without_l0_eq c gone xs, hk]
theorem without_eq (c : Chain) (gone : Int) : without c gone = finW c ((c.members.D.filter fun x => !mHas gone x.node).dropWhile (·.fresh)) := by
  unfold without; rw [without_l0_eq]; rfl

def finC (c : Chain) (l : Sl Member) : Chain × Int :=
  bif ((l.D.length : Int) == (c.members.D.length : Int)) then (Chain.mk 0 (Sl.mk true []), 81) else bif ((l.D.length : Int) == 0) then (Chain.mk 0 (Sl.mk true []), 83) else (Chain.mk (IntKind.i64.wrap (c.epoch + 1)) l, 0)
theorem rCut_l1_eq (c : Chain) : ∀ (n : Nat) (l : Sl Member), l.D.length < n → rCut_l1 c n l = finC c ⟨l.nil, l.D.dropWhile (·.fresh)⟩
  | 0, _, h => by omega
  | n + 1, ⟨f, []⟩, _ => rfl
  | n + 1, ⟨f, x :: l⟩, h => by
    have h' : l.length < n := by simp only [List.length_cons] at h; omega
    have ih := rCut_l1_eq c n ⟨f, l⟩ h'
    unfold rCut_l1
    have e1 : decide ((((x :: l).length : Nat) : Int) > 0) = true := by simp
    simp only [e1, cond_true]
    have e2 : (x :: l)[0]! = x := rfl
    rw [e2]
    cases hf : x.fresh
    · simp only [cond_false, List.dropWhile_cons, hf]; rfl
    · simp only [cond_true, List.dropWhile_cons, hf, if_true]
      exact ih
theorem rCut_l0_eq (c : Chain) (node site : Int) : ∀ (xs : List Member) (i : Nat) (l : List Member), rCut_l0 c node site xs i l = finC c ⟨(l ++ xs.filter fun x => x.node != node && x.site != site).isEmpty, (l ++ xs.filter fun x => x.node != node && x.site != site).dropWhile (·.fresh)⟩
  | [], _, l => by
    unfold rCut_l0
    rw [rCut_l1_eq c _ _ (Nat.lt_succ_self _)]
    simp
  | x :: xs, i, l => by
    unfold rCut_l0
    cases h1 : x.node != node
    · simp [rCut_l0_eq c node site xs, h1]
    · cases h2 : x.site != site
      · simp [rCut_l0_eq c node site xs, h1, h2]
      · simp [rCut_l0_eq c node site xs, h1, h2]
theorem epoch_of {c : Chain} (h : check c = 0) : 1 ≤ c.epoch ∧ c.epoch ≤ 1099511627776 := by
  unfold check at h
  obtain ⟨h1, h⟩ := bif_const (by decide) h
  obtain ⟨h2, h⟩ := bif_const (by decide) h
  have := of_decide_eq_false h1
  have := of_decide_eq_false h2
  omega
theorem cut_eq {c : Chain} (hc : check c = 0) (gone node site : Int) (h : ∀ x ∈ c.members.D, (!mHas gone x.node) = (x.node != node && x.site != site)) : eqP (without c gone) (rCut c node site) := by
  rw [without_eq, List.filter_congr h]
  unfold rCut
  rw [← check_eq, hc, rCut_l0_eq]
  simp only [List.nil_append]
  generalize (c.members.D.filter fun x => x.node != node && x.site != site) = l
  obtain ⟨e1, e2⟩ := epoch_of hc
  have hne : ((0 : Int) != 0) = false := rfl
  rw [hne, cond_false]
  unfold finW finC
  by_cases he : c.epoch = 1099511627776
  · have d1 : decide (c.epoch ≥ 1099511627776) = true := by simp; omega
    have d2 : (c.epoch == 1099511627776) = true := by simp [he]
    rw [d1, d2]; exact ⟨eqC_refl _, rfl⟩
  · have d1 : decide (c.epoch ≥ 1099511627776) = false := by simp; omega
    have d2 : (c.epoch == 1099511627776) = false := by simp [he]
    rw [d1, d2]
    simp only [cond_false]
    cases (((l.dropWhile (·.fresh)).length : Int) == (c.members.D.length : Int))
    · cases (((l.dropWhile (·.fresh)).length : Int) == 0)
      · exact ⟨⟨rfl, rfl⟩, rfl⟩
      · exact ⟨eqC_refl _, rfl⟩
    · exact ⟨eqC_refl _, rfl⟩
theorem mem_ok {c : Chain} (hc : check c = 0) {x : Member} (hx : x ∈ c.members.D) : 0 ≤ x.node ∧ x.node ≤ 5 ∧ 0 ≤ x.site ∧ x.site ≤ 2 :=
  (member_iff x).1 (ok_member _ _ (ok_of_check hc) x hx)
theorem has_mask (n m : Int) (h : 0 ≤ m ∧ m ≤ 5) : mHas (maskOf ⟨false, [n]⟩) m = (m == n) := by
  obtain ⟨k, rfl⟩ : ∃ k : Nat, m = (k : Int) := ⟨m.toNat, by omega⟩
  show mHas (mWith ((0 : Nat) : Int) n) (k : Int) = _
  cases hn : mIn n
  · rw [with_out hn, has_nat (by decide) (by omega)]
    have : (((k : Nat) : Int) == n) = false := by
      rw [beq_eq_false_iff_ne]
      intro e; subst e
      rw [in_nat] at hn
      have := of_decide_eq_false hn
      omega
    rw [this]; simp
  · obtain ⟨h1, h2⟩ := (in_iff n).1 hn
    obtain ⟨j, rfl⟩ : ∃ j : Nat, n = (j : Int) := ⟨n.toNat, by omega⟩
    rw [has_with (by decide) (by omega) (by omega), has_nat (by decide) (by omega)]
    by_cases e : j = k
    · simp [e]
    · have : ((k : Int) == (j : Int)) = false := by simp; omega
      rw [this]; simp [e]
theorem check_80 (c : Chain) : check c = 0 ∨ check c = 80 := by
  unfold check
  have h1 : check_l0 c.members.D 0 0 0 = bif okFrom [] c.members.D then 0 else 80 := check_l0_eq c.members.D [] 0 0 0 ⟨by decide, fun n hn => by
    have := has_nat (S := 0) (n := n) (by decide) (by omega)
    rw [this]; simp, fun y hy => (by cases hy), .inl rfl⟩
  rw [h1]
  cases decide (c.epoch < 1) <;> cases decide (c.epoch > 1099511627776) <;> cases ((c.members.D.length : Int) == 0) <;> cases c.members.D[0]!.fresh <;> cases okFrom [] c.members.D <;> simp
theorem check_bad {c : Chain} (h : (check c != 0) = true) : check c = 80 := by
  rcases check_80 c with h' | h'
  · rw [h'] at h; cases h
  · exact h'
theorem cut_bad {c : Chain} (h : (check c != 0) = true) (n s : Int) : rCut c n s = (Chain.mk 0 (Sl.mk true []), 80) := by
  unfold rCut; rw [← check_eq, h]; rfl
theorem drop_eq (c : Chain) (node : Int) : eqP (drop c node) (bif (node == (-1)) then rCut c (-2) (-1) else rCut c node (-1)) := by
  unfold drop
  cases hc : check c != 0
  case true =>
    rw [cut_bad hc, cut_bad hc, check_bad hc]
    cases (node == (-1)) <;> exact ⟨eqC_refl _, rfl⟩
  have hc := eq_of_bne_false hc
  have hm : ∀ x ∈ c.members.D, mHas (maskOf ⟨false, [node]⟩) x.node = (x.node == node) := fun x hx => has_mask _ _ ⟨(mem_ok hc hx).1, (mem_ok hc hx).2.1⟩
  show eqP (without c _) _
  cases hn : node == (-1)
  · refine cut_eq hc _ _ _ fun x hx => ?_
    obtain ⟨m1, m2, m3, m4⟩ := mem_ok hc hx
    rw [hm x hx]
    have : (x.site != -1) = true := by simp; omega
    rw [this]; simp [bne]
  · refine cut_eq hc _ _ _ fun x hx => ?_
    obtain ⟨m1, m2, m3, m4⟩ := mem_ok hc hx
    have hn : node = -1 := by simpa using hn
    rw [hm x hx]
    have e1 : (x.site != -1) = true := by simp; omega
    have e2 : (x.node != -2) = true := by simp; omega
    have e3 : (x.node == node) = false := by simp; omega
    rw [e1, e2, e3]; rfl

theorem ok_inj : ∀ (l pre : List Member), okFrom pre l = true → ∀ x ∈ l, ∀ y ∈ l, x.node = y.node → x = y
  | [], _, _, x, hx, _, _, _ => by cases hx
  | z :: l, pre, h, x, hx, y, hy, e => by
    simp only [okFrom, Bool.and_eq_true] at h
    obtain ⟨_, h3⟩ := h
    cases hx with
    | head => cases hy with
      | head => rfl
      | tail _ hy => exact absurd e (ok_apart l _ h3 y hy z (by simp))
    | tail _ hx => cases hy with
      | head => exact absurd e.symm (ok_apart l _ h3 x hx _ (List.mem_append_right _ (List.mem_cons_self ..)))
      | tail _ hy => exact ok_inj l _ h3 x hx y hy e
theorem dropSite_l0_eq (c : Chain) (site : Int) : ∀ (l : List Member) (i S : Nat), S < 18446744073709551616 → dropSite_l0 c site l i (S : Int) = without c ((bitsOf (fun x => x.site == site) l S : Nat) : Int) ∧ bitsOf (fun x => x.site == site) l S < 18446744073709551616
  | [], _, S, h => ⟨rfl, h⟩
  | x :: l, i, S, h => by
    have hb : bitsOf (fun x => x.site == site) (x :: l) S = bitsOf (fun x => x.site == site) l (if (x.site == site) && mIn x.node then S ||| 2 ^ x.node.toNat else S) := rfl
    rw [hb]
    unfold dropSite_l0
    cases hs : x.site == site
    · exact dropSite_l0_eq c site l (i + 1) S h
    · rw [with_cast h]
      exact dropSite_l0_eq c site l (i + 1) _ (with_cast_lt h x.node)
theorem dropSite_eq (c : Chain) (site : Int) : eqP (dropSite c site) (bif (site == (-1)) then rCut c (-1) (-2) else rCut c (-1) site) := by
  unfold dropSite
  cases hc : check c != 0
  case true =>
    rw [cut_bad hc, cut_bad hc, check_bad hc]
    cases (site == (-1)) <;> exact ⟨eqC_refl _, rfl⟩
  have hc := eq_of_bne_false hc
  obtain ⟨b1, b2⟩ := dropSite_l0_eq c site c.members.D 0 0 (by decide)
  rw [show (0 : Int) = ((0 : Nat) : Int) from rfl, b1, show ((0 : Nat) : Int) = (0 : Int) from rfl]
  have hm : ∀ x ∈ c.members.D, mHas ((bitsOf (fun x => x.site == site) c.members.D 0 : Nat) : Int) x.node = (x.site == site) := fun x hx => by
    obtain ⟨m1, m2, m3, m4⟩ := mem_ok hc hx
    obtain ⟨k, hk⟩ : ∃ k : Nat, x.node = (k : Int) := ⟨x.node.toNat, by omega⟩
    rw [hk, has_nat b2 (by omega), bits_test _ (by omega)]
    simp only [Nat.zero_testBit, Bool.false_or]
    rw [Bool.eq_iff_iff, List.any_eq_true]
    constructor
    · rintro ⟨y, hy, hyy⟩
      simp only [Bool.and_eq_true, beq_iff_eq] at hyy
      have := ok_inj _ _ (ok_of_check hc) x hx y hy (by rw [hk, hyy.1])
      rw [this]; simp [hyy.2]
    · intro h
      exact ⟨x, hx, by simp [hk]; simpa using h⟩
  show eqP (without c _) _
  cases hn : site == (-1)
  · refine cut_eq hc _ _ _ fun x hx => ?_
    obtain ⟨m1, m2, m3, m4⟩ := mem_ok hc hx
    rw [hm x hx]
    have : (x.node != -1) = true := by simp; omega
    rw [this]; simp [bne]
  · refine cut_eq hc _ _ _ fun x hx => ?_
    obtain ⟨m1, m2, m3, m4⟩ := mem_ok hc hx
    have hn : site = -1 := by simpa using hn
    rw [hm x hx]
    have e1 : (x.node != -1) = true := by simp; omega
    have e2 : (x.site != -2) = true := by simp; omega
    have e3 : (x.site == site) = false := by simp; omega
    rw [e1, e2, e3]; rfl

/-! ### Join -/
theorem join_l0_eq (c : Chain) (m : Member) (hl : c.members.D.length ≤ 1000000) : ∀ (nn i : Nat), i ≤ c.members.D.length → c.members.D.length - i < nn → join_l0 c m nn (i : Int) = bif (i + ((c.members.D.drop i).takeWhile fun x => decide (x.site ≤ m.site)).length == 0) then (Chain.mk 0 (Sl.mk true []), 152) else (after c (Sl.mk false (insertL c.members.D (i + ((c.members.D.drop i).takeWhile fun x => decide (x.site ≤ m.site)).length) [Member.mk m.node m.site true])), 0)
  | 0, i, _, h => by omega
  | nn + 1, i, hi, h => by
    unfold join_l0
    have eI : (((i : Nat) : Int) == 0) = (i == 0) := by cases i <;> simp; omega
    by_cases hlt : i < c.members.D.length
    · have e1 : decide ((i : Int) < (c.members.D.length : Int)) = true := by simp; omega
      have hd : c.members.D.drop i = c.members.D[i] :: c.members.D.drop (i + 1) := List.drop_eq_getElem_cons hlt
      have hg : c.members.D[(i : Int).toNat]! = c.members.D[i] := by simp [hlt]
      rw [e1, cond_true, hg, hd, List.takeWhile_cons]
      cases hs : decide (c.members.D[i].site ≤ m.site)
      · simp [eI]
      · have e2 : IntKind.i64.wrap ((i : Int) + 1) = ((i + 1 : Nat) : Int) := by rw [wrapI _ (by omega)]; omega
        rw [e2, cond_true, join_l0_eq c m hl nn (i + 1) (by omega) (by omega)]
        simp [Nat.add_assoc, Nat.add_comm 1]
    · have e1 : decide ((i : Int) < (c.members.D.length : Int)) = false := by simp; omega
      rw [e1, cond_false, List.drop_eq_nil_of_le (by omega)]
      simp [eI]
theorem rJoin_l0_put (c : Chain) (m : Member) : ∀ (xs : List Member) (i : Nat) (vc : List Member), rJoin_l0 c m xs i true vc = (Chain.mk (IntKind.i64.wrap (c.epoch + 1)) (Sl.mk (vc ++ xs).isEmpty (vc ++ xs)), 0)
  | [], _, vc => by simp [rJoin_l0]
  | x :: xs, i, vc => by
    unfold rJoin_l0
    cases decide (x.site > m.site) <;> simp [rJoin_l0_put c m xs]
theorem rJoin_l0_eq (c : Chain) (m : Member) : ∀ (xs : List Member) (i : Nat) (vc : List Member), eqP (rJoin_l0 c m xs i false vc) (Chain.mk (IntKind.i64.wrap (c.epoch + 1)) (Sl.mk false (vc ++ xs.takeWhile (fun x => decide (x.site ≤ m.site)) ++ Member.mk m.node m.site true :: xs.dropWhile (fun x => decide (x.site ≤ m.site)))), 0)
  | [], _, vc => by
    unfold rJoin_l0
    exact ⟨⟨rfl, by simp⟩, rfl⟩
  | x :: xs, i, vc => by
    unfold rJoin_l0
    by_cases hs : x.site ≤ m.site
    · have e1 : decide (x.site > m.site) = false := by simp; omega
      rw [e1, cond_false]
      have := rJoin_l0_eq c m xs (i + 1) (vc ++ [x])
      simpa [List.takeWhile_cons, List.dropWhile_cons, hs] using this
    · have e1 : decide (x.site > m.site) = true := by simp; omega
      rw [e1, cond_true]
      simp only [Bool.not_false, cond_true]
      rw [rJoin_l0_put]
      exact ⟨⟨rfl, by simp [hs]⟩, rfl⟩
theorem join_eq (c : Chain) (n s : Int) (f : Bool) : eqP (join c ⟨n, s, f⟩) (rJoin c ⟨n, s, false⟩) := by
  unfold join rJoin
  cases hc : check c != 0
  case true =>
    rw [← check_eq, hc, check_bad hc]
    exact ⟨eqC_refl _, rfl⟩
  have hc' := hc
  have hc := eq_of_bne_false hc
  rw [← check_eq, hc']
  simp only [cond_false]
  have hl := check_le6 hc
  obtain ⟨ep1, ep2⟩ := epoch_of hc
  have hp : placeIn c n = rPlace c n := by rw [← place_eq]; unfold place0; rw [hc]; rfl
  by_cases hm : 0 ≤ n ∧ n ≤ 5 ∧ 0 ≤ s ∧ s ≤ 2
  · have e0 : member ⟨n, s, true⟩ = true := (member_iff _).2 hm
    have e1 : decide (n < 0) = false := by simp; omega
    have e2 : decide (n > 5) = false := by simp; omega
    have e3 : decide (s < 0) = false := by simp; omega
    have e4 : decide (s > 2) = false := by simp; omega
    rw [e0, hp]
    simp only [e1, e2, e3, e4, cond_false, Bool.not_true]
    cases decide (rPlace c n ≥ 0)
    case true => exact ⟨eqC_refl _, rfl⟩
    simp only [cond_false]
    have d : decide (c.epoch ≥ 1099511627776) = (c.epoch == 1099511627776) := by
      by_cases he : c.epoch = 1099511627776
      · simp [he]
      · have : decide (c.epoch ≥ 1099511627776) = false := by simp; omega
        rw [this]; simp [he]
    rw [d]
    cases (c.epoch == 1099511627776)
    case true => exact ⟨eqC_refl _, rfl⟩
    simp only [cond_false]
    have hj := join_l0_eq c ⟨n, s, f⟩ (by omega) (c.members.D.length - (0 : Int).toNat + 1) 0 (by omega) (by simp)
    rw [show ((0 : Nat) : Int) = 0 from rfl] at hj
    rw [hj]
    have hr := rJoin_l0_eq c ⟨n, s, false⟩ c.members.D 0 []
    have hne := check_len hc
    simp only [List.drop_zero, Nat.zero_add]
    obtain ⟨x, xs, hD⟩ : ∃ x xs, c.members.D = x :: xs := by
      cases hD : c.members.D with
      | nil => rw [hD] at hne; simp at hne
      | cons x xs => exact ⟨x, xs, rfl⟩
    by_cases hs : x.site ≤ s
    · have e5 : decide (c.members.D[0]!.site > s) = false := by rw [hD]; simp; omega
      rw [e5, cond_false]
      have e6 : ((c.members.D.takeWhile fun x => decide (x.site ≤ s)).length == 0) = false := by
        rw [hD, List.takeWhile_cons]; simp [hs]
      rw [e6, cond_false]
      refine ⟨⟨hr.1.1.symm, ?_⟩, hr.2.symm⟩
      rw [hr.1.2]
      show insertL _ _ _ = _
      unfold insertL
      have ht : c.members.D.take (c.members.D.takeWhile fun x => decide (x.site ≤ s)).length = c.members.D.takeWhile fun x => decide (x.site ≤ s) := by
        conv => lhs; rhs; rw [← List.takeWhile_append_dropWhile (p := fun x : Member => decide (x.site ≤ s)) (l := c.members.D)]
        exact List.take_left' rfl
      have hdd : c.members.D.drop (c.members.D.takeWhile fun x => decide (x.site ≤ s)).length = c.members.D.dropWhile fun x => decide (x.site ≤ s) := by
        conv => lhs; rhs; rw [← List.takeWhile_append_dropWhile (p := fun x : Member => decide (x.site ≤ s)) (l := c.members.D)]
        exact List.drop_left' rfl
      rw [ht, hdd]; simp
    · have e5 : decide (c.members.D[0]!.site > s) = true := by rw [hD]; simp; omega
      rw [e5, cond_true]
      have e6 : ((c.members.D.takeWhile fun x => decide (x.site ≤ s)).length == 0) = true := by
        rw [hD, List.takeWhile_cons]; simp [hs]
      rw [e6, cond_true]
      exact ⟨eqC_refl _, rfl⟩
  · have e0 : member ⟨n, s, true⟩ = false := by
      rw [Bool.eq_false_iff]; exact fun h => hm ((member_iff _).1 h)
    rw [e0]
    simp only [Bool.not_false, cond_true]
    cases h1 : decide (n < 0)
    case true => exact ⟨eqC_refl _, rfl⟩
    cases h2 : decide (n > 5)
    case true => exact ⟨eqC_refl _, rfl⟩
    cases h3 : decide (s < 0)
    case true => exact ⟨eqC_refl _, rfl⟩
    cases h4 : decide (s > 2)
    case true => exact ⟨eqC_refl _, rfl⟩
    have := of_decide_eq_false h1
    have := of_decide_eq_false h2
    have := of_decide_eq_false h3
    have := of_decide_eq_false h4
    exact absurd (by omega) hm
theorem again_eq (c : Chain) (hn : c.members.nil = true → c.members.D = []) (n : Int) : eqP (again c n) (rAgain c n) := by
  unfold again rAgain
  cases hc : check c != 0
  case true =>
    rw [← check_eq, hc, check_bad hc]
    exact ⟨eqC_refl _, rfl⟩
  have hc' := hc
  have hc := eq_of_bne_false hc
  rw [← check_eq, hc']
  obtain ⟨ep1, ep2⟩ := epoch_of hc
  have hp : placeIn c n = rPlace c n := by rw [← place_eq]; unfold place0; rw [hc]; rfl
  rw [hp]
  simp only [cond_false]
  cases decide (rPlace c n < 0)
  case true => exact ⟨eqC_refl _, rfl⟩
  have d : decide (c.epoch ≥ 1099511627776) = (c.epoch == 1099511627776) := by
    by_cases he : c.epoch = 1099511627776
    · simp [he]
    · have : decide (c.epoch ≥ 1099511627776) = false := by simp; omega
      rw [this]; simp [he]
  rw [d]
  cases (c.epoch == 1099511627776)
  case true => exact ⟨eqC_refl _, rfl⟩
  rw [clone_eq hn]
  exact ⟨⟨rfl, rfl⟩, rfl⟩

/-! ### Ready -/
def readyL (p : Int) : List Member → Nat → List Member
  | [], _ => []
  | x :: xs, i => (bif x.fresh then Member.mk x.node x.site ((i : Int) != p) else Member.mk x.node x.site false) :: readyL p xs (i + 1)
theorem rReady_l0_eq (c : Chain) (n : Int) : ∀ (xs : List Member) (i : Nat) (vc : List Member), rReady_l0 c n xs i vc = (Chain.mk c.epoch (Sl.mk (vc ++ readyL (rPlace c n) xs i).isEmpty (vc ++ readyL (rPlace c n) xs i)), 0)
  | [], _, vc => by simp [rReady_l0, readyL]
  | x :: xs, i, vc => by
    unfold rReady_l0 readyL
    cases x.fresh <;> simp [rReady_l0_eq c n xs]
theorem readyL_lt (p : Int) : ∀ (xs : List Member) (i : Nat), p < (i : Int) → readyL p xs i = xs
  | [], _, _ => rfl
  | ⟨a, b, f⟩ :: xs, i, h => by
    unfold readyL
    rw [readyL_lt p xs (i + 1) (by omega)]
    have : ((i : Int) != p) = true := by simp; omega
    cases f <;> simp [this]
theorem readyL_at (p : Nat) : ∀ (xs : List Member) (i : Nat), readyL ((i + p : Nat) : Int) xs i = xs.set p (Member.mk xs[p]!.node xs[p]!.site false)
  | [], _ => rfl
  | ⟨a, b, f⟩ :: xs, i => by
    unfold readyL
    cases p with
    | zero =>
      rw [readyL_lt _ xs (i + 1) (by omega)]
      cases f <;> simp
    | succ p =>
      have := readyL_at p xs (i + 1)
      rw [show i + (p + 1) = i + 1 + p by omega, this]
      have : ((i : Int) != ((i + 1 + p : Nat) : Int)) = true := by rw [bne_iff_ne]; omega
      rw [this]
      cases f <;> simp
theorem ready_eq (c : Chain) (n : Int) : eqP (ready c n) (rReady c n) := by
  unfold ready rReady
  cases hc : check c != 0
  case true =>
    rw [← check_eq, hc, check_bad hc]
    exact ⟨eqC_refl _, rfl⟩
  have hc' := hc
  have hc := eq_of_bne_false hc
  rw [← check_eq, hc']
  have hp : placeIn c n = rPlace c n := by rw [← place_eq]; unfold place0; rw [hc]; rfl
  rw [hp]
  simp only [cond_false]
  cases h1 : decide (rPlace c n < 0)
  case true => exact ⟨eqC_refl _, rfl⟩
  have h1 := of_decide_eq_false h1
  simp only [cond_false]
  cases !(c.members.D[(rPlace c n).toNat]!).fresh
  case true => exact ⟨eqC_refl _, rfl⟩
  simp only [cond_false]
  rw [rReady_l0_eq]
  refine ⟨⟨rfl, ?_⟩, rfl⟩
  show List.set _ _ _ = [] ++ _
  have := readyL_at (rPlace c n).toNat c.members.D 0
  rw [show ((0 + (rPlace c n).toNat : Nat) : Int) = rPlace c n by omega] at this
  rw [this]; rfl

theorem does_eq (c : Chain) (hn : c.members.nil = true → c.members.D = []) (k : Do) : eqP (does c k) (also c k) := by
  unfold does also
  cases ((IntKind.i64.wrap ((IntKind.u64.wrap k.op).tmod 5)) == 0)
  case true =>
    have := drop_eq c k.node
    simp only [cond_true]
    revert this
    cases (k.node == (-1)) <;> exact id
  cases ((IntKind.i64.wrap ((IntKind.u64.wrap k.op).tmod 5)) == 1)
  case true =>
    have := dropSite_eq c k.site
    simp only [cond_true, cond_false]
    revert this
    cases (k.site == (-1)) <;> exact id
  cases ((IntKind.i64.wrap ((IntKind.u64.wrap k.op).tmod 5)) == 2)
  case true => exact join_eq c _ _ _
  cases ((IntKind.i64.wrap ((IntKind.u64.wrap k.op).tmod 5)) == 3)
  case true => exact again_eq c hn _
  exact ready_eq c _

/-! ### No longer than that -/
theorem finW_len (c : Chain) (l : List Member) : (finW c l).1.members.D.length ≤ l.length := by
  unfold finW
  cases decide (c.epoch ≥ 1099511627776)
  · cases ((l.length : Int) == (c.members.D.length : Int))
    · cases ((l.length : Int) == 0)
      · exact Nat.le_refl _
      · exact Nat.zero_le _
    · exact Nat.zero_le _
  · exact Nat.zero_le _
theorem without_len (c : Chain) (gone : Int) : (without c gone).1.members.D.length ≤ c.members.D.length + 1 := by
  rw [without_eq]
  have h1 := finW_len c ((c.members.D.filter fun x => !mHas gone x.node).dropWhile (·.fresh))
  have h2 := (List.dropWhile_sublist (p := fun x : Member => x.fresh) (l := c.members.D.filter fun x => !mHas gone x.node)).length_le
  have h3 := List.length_filter_le (fun x : Member => !mHas gone x.node) c.members.D
  omega
theorem does_len (c : Chain) (k : Do) : (does c k).1.members.D.length ≤ c.members.D.length + 1 := by
  unfold does
  cases ((IntKind.i64.wrap ((IntKind.u64.wrap k.op).tmod 5)) == 0)
  case true =>
    show (drop c k.node).1.members.D.length ≤ _
    unfold drop
    cases check c != 0
    · exact without_len _ _
    · exact Nat.zero_le _
  cases ((IntKind.i64.wrap ((IntKind.u64.wrap k.op).tmod 5)) == 1)
  case true =>
    show (dropSite c k.site).1.members.D.length ≤ _
    unfold dropSite
    cases check c != 0
    · have := (dropSite_l0_eq c k.site c.members.D 0 0 (by decide)).1
      rw [show ((0 : Nat) : Int) = 0 from rfl] at this
      rw [cond_false, this]
      exact without_len _ _
    · exact Nat.zero_le _
  cases ((IntKind.i64.wrap ((IntKind.u64.wrap k.op).tmod 5)) == 2)
  case true =>
    show (join c ⟨k.node, k.site, k.fresh⟩).1.members.D.length ≤ _
    unfold join
    cases hc : check c != 0
    case true => exact Nat.zero_le _
    have hl := check_le6 (eq_of_bne_false hc)
    cases !member ⟨k.node, k.site, true⟩
    case true => exact Nat.zero_le _
    cases decide (placeIn c k.node ≥ 0)
    case true => exact Nat.zero_le _
    cases decide (c.epoch ≥ 1099511627776)
    case true => exact Nat.zero_le _
    have hj := join_l0_eq c ⟨k.node, k.site, k.fresh⟩ (by omega) (c.members.D.length - (0 : Int).toNat + 1) 0 (by omega) (by simp)
    rw [show ((0 : Nat) : Int) = 0 from rfl] at hj
    simp only [cond_false, hj]
    cases (0 + (List.takeWhile (fun x => decide (x.site ≤ k.site)) (c.members.D.drop 0)).length == 0)
    · show (insertL _ _ _).length ≤ _
      have := (List.takeWhile_sublist (p := fun x : Member => decide (x.site ≤ k.site)) (l := c.members.D)).length_le
      rw [insertL_len (by simpa using this)]
      exact Nat.le_refl _
    · exact Nat.zero_le _
  cases ((IntKind.i64.wrap ((IntKind.u64.wrap k.op).tmod 5)) == 3)
  case true =>
    show (again c k.node).1.members.D.length ≤ _
    unfold again
    cases check c != 0
    case true => exact Nat.zero_le _
    cases decide (placeIn c k.node < 0)
    case true => exact Nat.zero_le _
    cases decide (c.epoch ≥ 1099511627776)
    case true => exact Nat.zero_le _
    exact Nat.le_succ_of_le (clone_len _)
  show (ready c k.node).1.members.D.length ≤ _
  unfold ready
  cases check c != 0
  case true => exact Nat.zero_le _
  cases decide (placeIn c k.node < 0)
  case true => exact Nat.zero_le _
  cases !(c.members.D[(placeIn c k.node).toNat]!.fresh)
  case true => exact Nat.zero_le _
  show (List.set _ _ _).length ≤ _
  rw [List.length_set]; omega
theorem also_len (c : Chain) (hn : c.members.nil = true → c.members.D = []) (k : Do) : (also c k).1.members.D.length ≤ c.members.D.length + 1 := by
  rw [← (does_eq c hn k).1.2]; exact does_len c k
end Go.Proofs.Ytjhphpoihadmkaa
