import Derived.Test.YtjhphpoihadmkaaM7
import Derived.Test.YtjhphpoihadmkaaM9
import Derived.Test.YtjhphpoihadmkaaM2
/- The law LayoutComes in plain Lean, and its contract: it is true, whatever the input. No conditions. -/
namespace Go.Proofs.Ytjhphpoihadmkaa
open Go.Am

/-! ### What it is that a chain may be -/
def Apart (a b : Member) : Prop := a.node ≠ b.node ∧ a.site ≤ b.site
theorem ok_iff : ∀ (l pre : List Member), okFrom pre l = true ↔ (∀ x ∈ l, member x = true) ∧ (∀ x ∈ l, ∀ y ∈ pre, Apart y x) ∧ l.Pairwise Apart
  | [], pre => by simp [okFrom]
  | x :: l, pre => by
    have ih := ok_iff l (pre ++ [x])
    have hp : (pre.all fun y => !(y.node == x.node) && !(decide (y.site > x.site))) = true ↔ ∀ y ∈ pre, Apart y x := by
      rw [List.all_eq_true]
      constructor
      · intro h y hy
        have := h y hy
        simp only [Bool.and_eq_true, Bool.not_eq_true', beq_eq_false_iff_ne, decide_eq_false_iff_not] at this
        exact ⟨this.1, by omega⟩
      · intro h y hy
        obtain ⟨h1, h2⟩ := h y hy
        simp only [Bool.and_eq_true, Bool.not_eq_true', beq_eq_false_iff_ne, decide_eq_false_iff_not]
        exact ⟨h1, by omega⟩
    simp only [okFrom, Bool.and_eq_true, hp, ih, List.mem_cons, List.pairwise_cons, List.mem_append, List.mem_nil_iff, or_false]
    constructor
    · rintro ⟨⟨h1, h2⟩, h3, h4, h5⟩
      refine ⟨fun z hz => ?_, fun z hz y hy => ?_, fun z hz => h4 z hz x (.inr rfl), h5⟩
      · rcases hz with rfl | hz
        · exact h1
        · exact h3 z hz
      · rcases hz with rfl | hz
        · exact h2 y hy
        · exact h4 z hz y (.inl hy)
    · rintro ⟨h1, h2, h3, h4⟩
      refine ⟨⟨h1 x (.inl rfl), fun y hy => h2 x (.inl rfl) y hy⟩, fun z hz => h1 z (.inr hz), fun z hz y hy => ?_, h4⟩
      rcases hy with hy | rfl
      · exact h2 z (.inr hz) y hy
      · exact h3 z hz
theorem check_iff (c : Chain) : check c = 0 ↔ (1 ≤ c.epoch ∧ c.epoch ≤ 1099511627776) ∧ c.members.D ≠ [] ∧ c.members.D[0]!.fresh = false ∧ (∀ x ∈ c.members.D, member x = true) ∧ c.members.D.Pairwise Apart := by
  have h1 : check_l0 c.members.D 0 0 0 = bif okFrom [] c.members.D then 0 else 80 := check_l0_eq c.members.D [] 0 0 0 ⟨by decide, fun n hn => by
    have := has_nat (S := 0) (n := n) (by decide) (by omega)
    rw [this]; simp, fun y hy => (by cases hy), .inl rfl⟩
  have h2 := ok_iff c.members.D []
  constructor
  · intro h
    have ho := h2.1 (ok_of_check h)
    refine ⟨epoch_of h, fun e => ?_, ?_, ho.1, ho.2.2⟩
    · have := check_len h; rw [e] at this; simp at this
    · unfold check at h
      obtain ⟨_, h⟩ := bif_const (by decide) h
      obtain ⟨_, h⟩ := bif_const (by decide) h
      obtain ⟨_, h⟩ := bif_const (by decide) h
      exact (bif_const (by decide) h).1
  · rintro ⟨⟨e1, e2⟩, hne, hf, hm, hp⟩
    unfold check
    have d1 : decide (c.epoch < 1) = false := by simp; omega
    have d2 : decide (c.epoch > 1099511627776) = false := by simp; omega
    have d3 : ((c.members.D.length : Int) == 0) = false := by
      rw [beq_eq_false_iff_ne]
      intro e
      exact hne (List.eq_nil_of_length_eq_zero (by omega))
    rw [d1, d2, d3, hf, h1, h2.2 ⟨hm, fun _ _ _ hy => (by cases hy), hp⟩]
    rfl

/-! ### Who stays keeps the order -/
theorem asc_of_sub {c : Chain} (hc : check c = 0) {l s : List Member} (h : l.Sublist s) : ∀ (j : Nat) (last : Int), s = c.members.D.drop j → last ≤ (j : Int) → asc last (stayOf c l) = true := by
  induction h with
  | slnil => exact fun _ _ _ _ => rfl
  | cons x h ih =>
    intro j last hs hl
    have hj : j < c.members.D.length := by
      rcases Nat.lt_or_ge j c.members.D.length with h | h
      · exact h
      · rw [List.drop_eq_nil_of_le h] at hs; cases hs
    rw [List.drop_eq_getElem_cons hj] at hs
    injection hs with _ hs
    exact ih (j + 1) last hs (by omega)
  | cons_cons x h ih =>
    intro j last hs hl
    have hj : j < c.members.D.length := by
      rcases Nat.lt_or_ge j c.members.D.length with h | h
      · exact h
      · rw [List.drop_eq_nil_of_le h] at hs; cases hs
    rw [List.drop_eq_getElem_cons hj] at hs
    injection hs with hx hs
    have hp := place_at hc hj
    rw [getElem!_pos _ j hj, ← hx, place_eq] at hp
    have h0 : (0 : Int) ≤ rPlace c x.node := by omega
    rw [stayOf, if_pos h0, asc, hp, ih (j + 1) (j : Int) hs (by omega)]
    have : decide ((j : Int) < last) = false := by simp; omega
    rw [this]; rfl
theorem stay_append (c : Chain) : ∀ (l m : List Member), stayOf c (l ++ m) = stayOf c l ++ stayOf c m
  | [], _ => rfl
  | x :: l, m => by
    simp only [List.cons_append, stayOf, stay_append c l m]
    split <;> simp
theorem stay_ne {c : Chain} (hc : check c = 0) {x : Member} (hx : x ∈ c.members.D) : ∀ (l : List Member), x ∈ l → stayOf c l ≠ []
  | [], h => by cases h
  | y :: l, h => by
    cases h with
    | head =>
      obtain ⟨j, hj, e⟩ := List.getElem_of_mem hx
      have hp := place_at hc hj
      rw [getElem!_pos _ j hj, e, place_eq] at hp
      have h0 : (0 : Int) ≤ rPlace c x.node := by omega
      rw [stayOf, if_pos h0]; simp
    | tail _ h =>
      have := stay_ne hc hx l h
      rw [stayOf]
      split
      · simp
      · exact this
theorem follows_of {c d : Chain} (hc : check c = 0) (hd : check d = 0) (he : c.epoch < d.epoch) (hw : ∀ x ∈ d.members.D, x.fresh = false → x ∈ c.members.D) {l : List Member} (hs : stayOf c d.members.D = stayOf c l) (hl : l.Sublist c.members.D) (hne : ∃ x ∈ d.members.D, x ∈ c.members.D) : follows c d = true := by
  rw [follows_eq]
  unfold rFollows
  rw [← check_eq, ← check_eq, hc, hd]
  have e1 : decide (d.epoch ≤ c.epoch) = false := by simp; omega
  rw [e1, rFollows_l0_eq, hs, asc_of_sub hc hl 0 (-1) rfl (by omega)]
  obtain ⟨x, hx, hxc⟩ := hne
  have h1 := stay_ne hc hxc _ hx
  rw [hs] at h1
  have h2 : (stayOf c l).isEmpty = false := by
    cases h : stayOf c l
    · exact absurd h h1
    · rfl
  have h3 : d.members.D.all (goodNF c) = true := List.all_eq_true.2 fun y hy => by
    unfold goodNF
    cases hf : y.fresh
    · have hyc := hw y hy hf
      obtain ⟨j, hj, e⟩ := List.getElem_of_mem hyc
      have hp := place_at hc hj
      rw [getElem!_pos _ j hj, e, place_eq] at hp
      rw [hp, Int.toNat_natCast, getElem!_pos _ j hj, e, hf]
      simp
    · rfl
  rw [h2, h3]; simp

/-! ### Change by change -/
theorem head_whole {d : Chain} (hd : check d = 0) : mHas (whole d) (headC d) = true := by
  obtain ⟨_, hne, hf, hm, _⟩ := (check_iff d).1 hd
  have hl := check_len hd
  have hmem : d.members.D[0]! ∈ d.members.D := by rw [getElem!_pos _ 0 hl]; exact List.getElem_mem hl
  have hh : headC d = d.members.D[0]!.node := by unfold headC; rw [hd]; rfl
  have hmm := (member_iff _).1 (hm _ hmem)
  obtain ⟨k, hk⟩ : ∃ k : Nat, d.members.D[0]!.node = (k : Int) := ⟨d.members.D[0]!.node.toNat, by omega⟩
  obtain ⟨w1, w2⟩ := whole_l0_eq d.members.D 0 0 (by decide)
  have hw : whole d = ((bitsOf (fun x => !x.fresh) d.members.D 0 : Nat) : Int) := w1
  rw [hh, hk, hw, has_nat w2 (by omega), bits_test _ (by omega)]
  have : (d.members.D.any fun x => x.node == (k : Int) && !x.fresh) = true := List.any_eq_true.2 ⟨_, hmem, by rw [hk, hf]; simp⟩
  rw [this]; simp
theorem wrap_epoch {c : Chain} (h : check c = 0) : IntKind.i64.wrap (c.epoch + 1) = c.epoch + 1 := by
  have := epoch_of h
  exact wrapI _ (by omega)
/-- What a change that was done gives. -/
def Next (c d : Chain) : Prop := check d = 0 ∧ d.epoch = c.epoch + 1 ∧ follows c d = true
theorem sub_next {c : Chain} (hc : check c = 0) (he : ¬ c.epoch ≥ 1099511627776) {l : List Member} (hl : l.Sublist c.members.D) (hne : l ≠ []) (hf : l[0]!.fresh = false) (f : Bool) : Next c (Chain.mk (IntKind.i64.wrap (c.epoch + 1)) (Sl.mk f l)) := by
  obtain ⟨⟨e1, e2⟩, _, _, hm, hp⟩ := (check_iff c).1 hc
  have hw := wrap_epoch hc
  have hd : check (Chain.mk (IntKind.i64.wrap (c.epoch + 1)) (Sl.mk f l)) = 0 := (check_iff _).2 ⟨by rw [hw]; exact ⟨(by omega : 1 ≤ c.epoch + 1), (by omega : c.epoch + 1 ≤ 1099511627776)⟩, hne, hf, fun x hx => hm x (hl.subset hx), hp.sublist hl⟩
  refine ⟨hd, hw, follows_of hc hd (by show _ < IntKind.i64.wrap _; rw [hw]; omega) (fun x hx _ => hl.subset hx) rfl hl ?_⟩
  cases l with
  | nil => exact absurd rfl hne
  | cons x l => exact ⟨x, List.mem_cons_self .., hl.subset (List.mem_cons_self ..)⟩
theorem drop_head {l : List Member} (h : l.dropWhile (·.fresh) ≠ []) : (l.dropWhile (·.fresh))[0]!.fresh = false := by
  induction l with
  | nil => exact absurd rfl h
  | cons x l ih =>
    rw [List.dropWhile_cons] at h ⊢
    cases hf : x.fresh
    · simp [hf]
    · rw [hf] at h
      simp only [if_true] at h ⊢
      exact ih h
theorem without_next {c : Chain} (hc : check c = 0) (gone : Int) : ((without c gone).2 = 0 → Next c (without c gone).1) ∧ ((without c gone).2 ≠ 0 → (without c gone).1.members.D = []) := by
  rw [without_eq]
  have hs : ((c.members.D.filter fun x => !mHas gone x.node).dropWhile (·.fresh)).Sublist c.members.D := (List.dropWhile_sublist _).trans List.filter_sublist
  have hh := drop_head (l := c.members.D.filter fun x => !mHas gone x.node)
  revert hs hh
  generalize ((c.members.D.filter fun x => !mHas gone x.node).dropWhile (·.fresh)) = l
  intro hs hh
  unfold finW
  cases h1 : decide (c.epoch ≥ 1099511627776)
  case true => exact ⟨fun h => (by cases h), fun _ => rfl⟩
  cases h2 : ((l.length : Int) == (c.members.D.length : Int))
  case true => exact ⟨fun h => (by cases h), fun _ => rfl⟩
  cases h3 : ((l.length : Int) == 0)
  case true => exact ⟨fun h => (by cases h), fun _ => rfl⟩
  have hne : l ≠ [] := fun e => by rw [e] at h3; cases h3
  exact ⟨fun _ => sub_next hc (of_decide_eq_false h1) hs hne (hh hne) _, fun h => absurd rfl h⟩
theorem drop_next {c : Chain} (hc : check c = 0) (n : Int) : ((drop c n).2 = 0 → Next c (drop c n).1) ∧ ((drop c n).2 ≠ 0 → (drop c n).1.members.D = []) := by
  unfold drop; rw [hc]; exact without_next hc _
theorem dropSite_next {c : Chain} (hc : check c = 0) (s : Int) : ((dropSite c s).2 = 0 → Next c (dropSite c s).1) ∧ ((dropSite c s).2 ≠ 0 → (dropSite c s).1.members.D = []) := by
  unfold dropSite; rw [hc]
  have := (dropSite_l0_eq c s c.members.D 0 0 (by decide)).1
  rw [show ((0 : Nat) : Int) = 0 from rfl] at this
  show ((dropSite_l0 c s c.members.D 0 0).2 = 0 → Next c (dropSite_l0 c s c.members.D 0 0).1) ∧ _
  rw [this]
  exact without_next hc _
theorem again_next {c : Chain} (hn : c.members.nil = true → c.members.D = []) (hc : check c = 0) (n : Int) : ((again c n).2 = 0 → Next c (again c n).1) ∧ ((again c n).2 ≠ 0 → (again c n).1.members.D = []) := by
  unfold again; rw [hc]
  show ((bif decide (placeIn c n < 0) then _ else _ : Chain × Int).2 = 0 → _) ∧ _
  cases decide (placeIn c n < 0)
  case true => exact ⟨fun h => (by cases h), fun _ => rfl⟩
  cases h1 : decide (c.epoch ≥ 1099511627776)
  case true => exact ⟨fun h => (by cases h), fun _ => rfl⟩
  obtain ⟨_, hne, hf, _⟩ := (check_iff c).1 hc
  rw [clone_eq hn]
  exact ⟨fun _ => sub_next hc (of_decide_eq_false h1) (List.Sublist.refl _) hne hf _, fun h => absurd rfl h⟩
theorem place_none {c : Chain} (hc : check c = 0) {n : Int} (h : rPlace c n < 0) : ∀ x ∈ c.members.D, x.node ≠ n := fun x hx e => by
  obtain ⟨j, hj, ej⟩ := List.getElem_of_mem hx
  have hp := place_at hc hj
  rw [getElem!_pos _ j hj, ej, place_eq, e] at hp
  omega

theorem mem_split {c : Chain} (p : Member → Bool) {x : Member} (h : x ∈ c.members.D.takeWhile p ∨ x ∈ c.members.D.dropWhile p) : x ∈ c.members.D := by
  have := List.takeWhile_append_dropWhile (p := p) (l := c.members.D)
  rw [← this]
  exact List.mem_append.2 h
theorem takeWhile_true {α : Type} (p : α → Bool) : ∀ (l : List α), ∀ x ∈ l.takeWhile p, p x = true
  | [], x, h => by cases h
  | y :: l, x, h => by
    rw [List.takeWhile_cons] at h
    cases hy : p y
    · rw [hy] at h; cases h
    · rw [hy] at h
      simp only [if_true] at h
      cases h with
      | head => exact hy
      | tail _ h => exact takeWhile_true p l x h
theorem dropWhile_sites (s : Int) : ∀ (l : List Member), l.Pairwise Apart → ∀ x ∈ l.dropWhile (fun x => decide (x.site ≤ s)), s ≤ x.site
  | [], _, x, h => by cases h
  | y :: l, hp, x, h => by
    rw [List.dropWhile_cons] at h
    rw [List.pairwise_cons] at hp
    by_cases hy : y.site ≤ s
    · rw [decide_eq_true hy] at h
      exact dropWhile_sites s l hp.2 x h
    · rw [decide_eq_false hy] at h
      cases h with
      | head => omega
      | tail _ h => have := (hp.1 x h).2; omega
theorem join_next {c : Chain} (hc : check c = 0) (n s : Int) (f : Bool) : ((join c ⟨n, s, f⟩).2 = 0 → Next c (join c ⟨n, s, f⟩).1) ∧ ((join c ⟨n, s, f⟩).2 ≠ 0 → (join c ⟨n, s, f⟩).1.members.D = []) := by
  have hl := check_le6 hc
  obtain ⟨⟨e1, e2⟩, hne, hf, hmm, hpp⟩ := (check_iff c).1 hc
  have hp : placeIn c n = rPlace c n := by rw [← place_eq]; unfold place0; rw [hc]; rfl
  unfold join
  rw [hc, hp]
  show ((bif !member ⟨n, s, true⟩ then _ else _ : Chain × Int).2 = 0 → _) ∧ _
  cases hm : member ⟨n, s, true⟩
  case false => exact ⟨fun h => (by cases h), fun _ => rfl⟩
  cases h1 : decide (rPlace c n ≥ 0)
  case true => exact ⟨fun h => (by cases h), fun _ => rfl⟩
  cases h2 : decide (c.epoch ≥ 1099511627776)
  case true => exact ⟨fun h => (by cases h), fun _ => rfl⟩
  have hj := join_l0_eq c ⟨n, s, f⟩ (by omega) (c.members.D.length - (0 : Int).toNat + 1) 0 (by omega) (by simp)
  rw [show ((0 : Nat) : Int) = 0 from rfl] at hj
  show ((join_l0 c ⟨n, s, f⟩ (c.members.D.length - (0 : Int).toNat + 1) 0).2 = 0 → Next c (join_l0 c ⟨n, s, f⟩ (c.members.D.length - (0 : Int).toNat + 1) 0).1) ∧ ((join_l0 c ⟨n, s, f⟩ (c.members.D.length - (0 : Int).toNat + 1) 0).2 ≠ 0 → (join_l0 c ⟨n, s, f⟩ (c.members.D.length - (0 : Int).toNat + 1) 0).1.members.D = [])
  rw [hj]
  simp only [List.drop_zero, Nat.zero_add]
  cases h3 : ((c.members.D.takeWhile fun x => decide (x.site ≤ s)).length == 0)
  case true => exact ⟨fun h => (by cases h), fun _ => rfl⟩
  refine ⟨fun _ => ?_, fun h => absurd rfl h⟩
  have hnone := place_none hc (n := n) (by have := of_decide_eq_false h1; omega)
  have hw := wrap_epoch hc
  have he := of_decide_eq_false h2
  -- the members
  have hD : insertL c.members.D (c.members.D.takeWhile fun x => decide (x.site ≤ s)).length [Member.mk n s true] = (c.members.D.takeWhile fun x => decide (x.site ≤ s)) ++ Member.mk n s true :: (c.members.D.dropWhile fun x => decide (x.site ≤ s)) := by
    unfold insertL
    have ht : c.members.D.take (c.members.D.takeWhile fun x => decide (x.site ≤ s)).length = c.members.D.takeWhile fun x => decide (x.site ≤ s) := by
      conv => lhs; rhs; rw [← List.takeWhile_append_dropWhile (p := fun x : Member => decide (x.site ≤ s)) (l := c.members.D)]
      exact List.take_left' rfl
    have hdd : c.members.D.drop (c.members.D.takeWhile fun x => decide (x.site ≤ s)).length = c.members.D.dropWhile fun x => decide (x.site ≤ s) := by
      conv => lhs; rhs; rw [← List.takeWhile_append_dropWhile (p := fun x : Member => decide (x.site ≤ s)) (l := c.members.D)]
      exact List.drop_left' rfl
    rw [ht, hdd]; simp
  have hcat := List.takeWhile_append_dropWhile (p := fun x : Member => decide (x.site ≤ s)) (l := c.members.D)
  have hT := takeWhile_true (fun x : Member => decide (x.site ≤ s)) c.members.D
  have hDW := dropWhile_sites s c.members.D hpp
  have hsp := fun x => mem_split (c := c) (fun x : Member => decide (x.site ≤ s)) (x := x)
  show Next c (after c (Sl.mk false (insertL c.members.D _ [Member.mk n s true])))
  rw [hD]
  revert h3 hcat hT hDW hsp
  generalize (c.members.D.takeWhile fun x => decide (x.site ≤ s)) = A
  generalize (c.members.D.dropWhile fun x => decide (x.site ≤ s)) = B
  intro h3 hcat hT hDW hsp
  have hAB := hpp
  rw [← hcat, List.pairwise_append] at hAB
  obtain ⟨pA, pB, pAB⟩ := hAB
  have hd : check (after c (Sl.mk false (A ++ Member.mk n s true :: B))) = 0 := by
    refine (check_iff _).2 ⟨?_, ?_, ?_, ?_, ?_⟩
    · show 1 ≤ IntKind.i64.wrap (c.epoch + 1) ∧ IntKind.i64.wrap (c.epoch + 1) ≤ _
      rw [hw]; omega
    · show A ++ _ ≠ []; simp
    · cases A with
      | nil => cases h3
      | cons a A =>
        rw [← hcat] at hf
        exact hf
    · intro x hx
      rcases List.mem_append.1 hx with hx | hx
      · exact hmm x (hsp x (.inl hx))
      · cases hx with
        | head => exact hm
        | tail _ hx => exact hmm x (hsp x (.inr hx))
    · refine List.pairwise_append.2 ⟨pA, List.pairwise_cons.2 ⟨fun b hb => ⟨fun e => hnone b (hsp b (.inr hb)) e.symm, hDW b hb⟩, pB⟩, fun a ha b hb => ?_⟩
      cases hb with
      | head => exact ⟨fun e => hnone a (hsp a (.inl ha)) e, of_decide_eq_true (hT a ha)⟩
      | tail _ hb => exact pAB a ha b hb
  refine ⟨hd, hw, follows_of hc hd (by show _ < IntKind.i64.wrap _; rw [hw]; omega) (fun x hx hxf => ?_) (l := A ++ B) ?_ ?_ ?_⟩
  · rcases List.mem_append.1 hx with hx | hx
    · exact hsp x (.inl hx)
    · cases hx with
      | head => cases hxf
      | tail _ hx => exact hsp x (.inr hx)
  · show stayOf c (A ++ Member.mk n s true :: B) = _
    rw [stay_append, stay_append]
    congr 1
    have : ¬ 0 ≤ rPlace c n := by have := of_decide_eq_false h1; omega
    rw [stayOf, if_neg this]
  · rw [hcat]; exact List.Sublist.refl _
  · cases A with
    | nil => cases h3
    | cons a A => exact ⟨a, List.mem_append.2 (.inl (List.mem_cons_self ..)), hsp a (.inl (List.mem_cons_self ..))⟩

/-! ### Ready -/
theorem nodes_map : ∀ (l m : List Member) (i j : Nat) (s : Int), l.map (·.node) = m.map (·.node) → nodes_l0 l i s = nodes_l0 m j s
  | [], [], _, _, _, _ => rfl
  | [], _ :: _, _, _, _, h => by simp at h
  | _ :: _, [], _, _, _, h => by simp at h
  | x :: l, y :: m, i, j, s, h => by
    simp only [List.map_cons, List.cons.injEq] at h
    unfold nodes_l0
    rw [h.1, nodes_map l m (i + 1) (j + 1) _ h.2]
theorem set_map {β : Type} (g : Member → β) {l : List Member} {p : Nat} (hp : p < l.length) {y : Member} (h : g y = g l[p]) : (l.set p y).map g = l.map g := by
  rw [List.map_set, h]
  apply List.ext_getElem
  · simp
  · intro i h1 h2
    rw [List.getElem_set]
    split
    · rename_i e; subst e; simp
    · rfl
def IsReady (c d : Chain) : Prop := check d = 0 ∧ d.epoch = c.epoch ∧ nodes d = nodes c ∧ mLen (mBut (whole d) (whole c)) = 1
theorem mBut_nat {s t : Nat} : mBut (s : Int) (t : Int) = (((BitVec.ofNat 64 s &&& ~~~ BitVec.ofNat 64 t : BitVec 64).toNat : Nat) : Int) := by
  show IntKind.u64.wrap (((BitVec.ofInt 64 (s : Int) &&& ~~~ BitVec.ofInt 64 (t : Int) : BitVec 64).toNat : Nat) : Int) = _
  rw [BitVec.ofInt_natCast, BitVec.ofInt_natCast, wrap64]
  have := (BitVec.ofNat 64 s &&& ~~~ BitVec.ofNat 64 t : BitVec 64).isLt
  have h' : (2 : Nat) ^ 64 = 18446744073709551616 := by decide
  omega
theorem but_one {s t n : Nat} (hn : n < 64) (h : ∀ k, k < 64 → (s.testBit k && !t.testBit k) = decide (n = k)) : mBut (s : Int) (t : Int) = ((2 ^ n : Nat) : Int) := by
  rw [mBut_nat]
  have : (BitVec.ofNat 64 s &&& ~~~ BitVec.ofNat 64 t : BitVec 64) = BitVec.ofNat 64 (2 ^ n) := by
    apply BitVec.eq_of_getLsbD_eq
    intro k hk
    simp only [BitVec.getLsbD_and, BitVec.getLsbD_not, BitVec.getLsbD_ofNat, hk, decide_true, Bool.true_and]
    rw [h k hk, Nat.testBit_two_pow]
  rw [this, BitVec.toNat_ofNat, Nat.mod_eq_of_lt (Nat.pow_lt_pow_right (by decide) hn)]
theorem ready_is {c : Chain} (hc : check c = 0) (n : Int) : ((ready c n).2 = 0 → IsReady c (ready c n).1) ∧ ((ready c n).2 ≠ 0 → (ready c n).1.members.D = []) := by
  obtain ⟨⟨e1, e2⟩, hne, hf, hmm, hpp⟩ := (check_iff c).1 hc
  have hp : placeIn c n = rPlace c n := by rw [← place_eq]; unfold place0; rw [hc]; rfl
  unfold ready
  rw [hc, hp]
  show ((bif decide (rPlace c n < 0) then _ else _ : Chain × Int).2 = 0 → _) ∧ _
  cases h1 : decide (rPlace c n < 0)
  case true => exact ⟨fun h => (by cases h), fun _ => rfl⟩
  have h1 := of_decide_eq_false h1
  have hlt := (rPlace_lt c n).1
  obtain ⟨p, hpn⟩ : ∃ p : Nat, rPlace c n = (p : Int) := ⟨(rPlace c n).toNat, by omega⟩
  rw [hpn, Int.toNat_natCast]
  have hpl : p < c.members.D.length := by omega
  cases h2 : (c.members.D[p]!).fresh
  case false => exact ⟨fun h => (by cases h), fun _ => rfl⟩
  refine ⟨fun _ => ?_, fun h => absurd rfl h⟩
  show IsReady c (Chain.mk c.epoch (Sl.mk false (c.members.D.set p (Member.mk (c.members.D[p]!.node) (c.members.D[p]!.site) false))))
  have hg : c.members.D[p]! = c.members.D[p] := getElem!_pos _ p hpl
  rw [hg] at h2 ⊢
  generalize hy : Member.mk (c.members.D[p].node) (c.members.D[p].site) false = y
  have yn : y.node = c.members.D[p].node := by rw [← hy]
  have ys : y.site = c.members.D[p].site := by rw [← hy]
  have yf : y.fresh = false := by rw [← hy]
  have mapN := set_map (fun m => m.node) hpl (y := y) yn
  have mapNS := set_map (fun m => (m.node, m.site)) hpl (y := y) (by rw [yn, ys])
  have hmem : ∀ x ∈ c.members.D.set p y, ∃ z ∈ c.members.D, z.node = x.node ∧ z.site = x.site := fun x hx => by
    have : (x.node, x.site) ∈ (c.members.D.set p y).map (fun m => (m.node, m.site)) := List.mem_map.2 ⟨x, hx, rfl⟩
    rw [mapNS] at this
    obtain ⟨z, hz, e⟩ := List.mem_map.1 this
    injection e with e1 e2
    exact ⟨z, hz, e1, e2⟩
  have hd : check (Chain.mk c.epoch (Sl.mk false (c.members.D.set p y))) = 0 := by
    refine (check_iff _).2 ⟨⟨e1, e2⟩, ?_, ?_, ?_, ?_⟩
    · intro e
      have : (c.members.D.set p y).length = 0 := by
        have e : c.members.D.set p y = [] := e
        rw [e]; rfl
      rw [List.length_set] at this
      omega
    · show (c.members.D.set p y)[0]!.fresh = false
      have hl0 : 0 < c.members.D.length := by omega
      rw [getElem!_pos _ 0 (by rw [List.length_set]; exact hl0), List.getElem_set]
      rw [getElem!_pos _ 0 hl0] at hf
      split
      · exact yf
      · exact hf
    · intro x hx
      obtain ⟨z, hz, e3, e4⟩ := hmem x hx
      have := (member_iff z).1 (hmm z hz)
      exact (member_iff x).2 (by omega)
    · have h3 : (c.members.D.map (fun m => (m.node, m.site))).Pairwise (fun a b => a.1 ≠ b.1 ∧ a.2 ≤ b.2) := List.pairwise_map.2 hpp
      rw [← mapNS, List.pairwise_map] at h3
      exact h3
  refine ⟨hd, rfl, nodes_map _ _ 0 0 0 mapN, ?_⟩
  obtain ⟨m1, m2, _, _⟩ := (member_iff _).1 (hmm _ (List.getElem_mem hpl))
  obtain ⟨k, hk⟩ : ∃ k : Nat, c.members.D[p].node = (k : Int) := ⟨c.members.D[p].node.toNat, by omega⟩
  obtain ⟨w1, w2⟩ := whole_l0_eq c.members.D 0 0 (by decide)
  obtain ⟨v1, v2⟩ := whole_l0_eq (c.members.D.set p y) 0 0 (by decide)
  have hw : whole c = ((bitsOf (fun x => !x.fresh) c.members.D 0 : Nat) : Int) := w1
  have hv : whole (Chain.mk c.epoch (Sl.mk false (c.members.D.set p y))) = ((bitsOf (fun x => !x.fresh) (c.members.D.set p y) 0 : Nat) : Int) := v1
  rw [hw, hv, but_one (n := k) (by omega) fun j hj => ?_, popcount (2 ^ k) (by
    have : 2 ^ k ≤ 2 ^ 5 := Nat.pow_le_pow_right (by decide) (by omega)
    omega)]
  · rcases (by omega : k = 0 ∨ k = 1 ∨ k = 2 ∨ k = 3 ∨ k = 4 ∨ k = 5) with rfl | rfl | rfl | rfl | rfl | rfl <;> rfl
  · rw [bits_test _ hj, bits_test _ hj]
    simp only [Nat.zero_testBit, Bool.false_or]
    by_cases hkj : k = j
    · subst hkj
      have t1 : ((c.members.D.set p y).any fun x => x.node == (k : Int) && !x.fresh) = true := by
        refine List.any_eq_true.2 ⟨y, ?_, by rw [yn, hk, yf]; simp⟩
        exact List.mem_set hpl y
      have t2 : (c.members.D.any fun x => x.node == (k : Int) && !x.fresh) = false := by
        rw [Bool.eq_false_iff]
        intro h
        obtain ⟨x, hx, hxx⟩ := List.any_eq_true.1 h
        simp only [Bool.and_eq_true, beq_iff_eq, Bool.not_eq_true'] at hxx
        have := ok_inj _ _ (ok_of_check hc) x hx _ (List.getElem_mem hpl) (by rw [hxx.1, hk])
        rw [this, h2] at hxx
        cases hxx.2
      rw [t1, t2]; simp
    · have : ((c.members.D.set p y).any fun x => x.node == (j : Int) && !x.fresh) = (c.members.D.any fun x => x.node == (j : Int) && !x.fresh) := by
        rw [Bool.eq_iff_iff, List.any_eq_true, List.any_eq_true]
        constructor
        · rintro ⟨x, hx, hxx⟩
          rcases List.mem_or_eq_of_mem_set hx with hx | rfl
          · exact ⟨x, hx, hxx⟩
          · simp only [Bool.and_eq_true, beq_iff_eq, yn, hk] at hxx
            omega
        · rintro ⟨x, hx, hxx⟩
          obtain ⟨i, hi, e⟩ := List.getElem_of_mem hx
          refine ⟨x, ?_, hxx⟩
          have hip : p ≠ i := by
            rintro rfl
            rw [e] at hk
            simp only [Bool.and_eq_true, beq_iff_eq] at hxx
            omega
          have : (c.members.D.set p y)[i]'(by rw [List.length_set]; exact hi) = x := by rw [List.getElem_set, if_neg hip, e]
          rw [← this]
          exact List.getElem_mem _
      rw [this]
      have e : decide (k = j) = false := decide_eq_false hkj
      rw [e]
      cases (c.members.D.any fun x => x.node == (j : Int) && !x.fresh) <;> rfl

/-! ### The law -/
theorem op_lt (n : Int) : 0 ≤ IntKind.i64.wrap ((IntKind.u64.wrap n).tmod 5) ∧ IntKind.i64.wrap ((IntKind.u64.wrap n).tmod 5) < 5 := by
  have h : (IntKind.u64.wrap n).tmod 5 = (n % 18446744073709551616) % 5 := by
    rw [wrap64, Int.tmod_eq_emod_of_nonneg (Int.emod_nonneg _ (by decide))]
  rw [h, wrapI _ (by omega)]
  omega
theorem comes_l0_true : ∀ (l : List Do) (i : Nat) (e : Int) (s : Sl Member), check ⟨e, s⟩ = 0 → (s.nil = true → s.D = []) → lawComes_l0 l i e s = true
  | [], _, _, _, _, _ => awake_true
  | k :: l, i, e, s, hc, hn => by
    have ih := comes_l0_true l (i + 1)
    have hn' := does_hn (c := ⟨e, s⟩) k
    have key : ((does ⟨e, s⟩ k).2 ≠ 0 → (does ⟨e, s⟩ k).1.members.D = []) ∧ ((does ⟨e, s⟩ k).2 = 0 → bif ((IntKind.i64.wrap ((IntKind.u64.wrap k.op).tmod 5)) == 4) then IsReady ⟨e, s⟩ (does ⟨e, s⟩ k).1 else Next ⟨e, s⟩ (does ⟨e, s⟩ k).1) := by
      unfold does
      have ho := op_lt k.op
      revert ho
      generalize (IntKind.i64.wrap ((IntKind.u64.wrap k.op).tmod 5)) = o
      intro ho
      cases h0 : o == 0
      case true =>
        have h := drop_next hc k.node
        have : (o == 4) = false := by rw [beq_iff_eq] at h0; rw [h0]; rfl
        rw [this]; exact ⟨h.2, h.1⟩
      cases h1 : o == 1
      case true =>
        have h := dropSite_next hc k.site
        have : (o == 4) = false := by rw [beq_iff_eq] at h1; rw [h1]; rfl
        rw [this]; exact ⟨h.2, h.1⟩
      cases h2 : o == 2
      case true =>
        have h := join_next hc k.node k.site k.fresh
        have : (o == 4) = false := by rw [beq_iff_eq] at h2; rw [h2]; rfl
        rw [this]; exact ⟨h.2, h.1⟩
      cases h3 : o == 3
      case true =>
        have h := again_next hn hc k.node
        have : (o == 4) = false := by rw [beq_iff_eq] at h3; rw [h3]; rfl
        rw [this]; exact ⟨h.2, h.1⟩
      have h4 : (o == 4) = true := by
        rw [beq_iff_eq]
        rw [beq_eq_false_iff_ne] at h0 h1 h2 h3
        omega
      have h := ready_is hc k.node
      rw [h4]; exact ⟨h.2, h.1⟩
    unfold lawComes_l0
    revert key hn'
    generalize does ⟨e, s⟩ k = r
    obtain ⟨d, er⟩ := r
    intro hn' key
    simp only at key hn' ⊢
    cases he : er != 0
    case true =>
      have hD := key.1 (by simpa using he)
      rw [hD]
      exact ih e s hc hn
    have he := eq_of_bne_false he
    have hk := key.2 he
    revert hk
    cases ho : ((IntKind.i64.wrap ((IntKind.u64.wrap k.op).tmod 5)) == 4)
    · intro hk
      obtain ⟨h1, h2, h3⟩ : Next ⟨e, s⟩ d := hk
      have hw : IntKind.i64.wrap (e + 1) = e + 1 := wrap_epoch hc
      have hd := ih d.epoch d.members h1 hn'
      rw [h1, hw, h2, h3, head_whole h1]
      rw [h2] at hd
      simpa using hd
    · intro hk
      obtain ⟨h1, h2, h3, h4⟩ : IsReady ⟨e, s⟩ d := hk
      have hd := ih d.epoch d.members h1 hn'
      rw [h1, h3, h4, head_whole h1, h2]
      rw [h2] at hd
      simpa using hd
theorem lawComes_true (l : Sl Member) (ch : Sl Do) : lawComes l ch = true := by
  unfold lawComes
  rw [awake_true]
  cases h : (firstC l).2 != 0
  · have hc := firstC_ok (eq_of_bne_false h)
    rw [comes_l0_true ch.D 0 _ _ hc (firstC_hn l)]
    simp
  · simp
theorem layoutComes_calls (l : Sl Member) (_ : WT22 l) (ch : Sl Do) (_ : WT49 ch) : PCalls Try.prog 9 [sS (some l.nil) eMember l.D, sS (some ch.nil) eDo ch.D] (.pv (.bool true)) := by
  cases h1 : (decide ((l.D.length : Int) > 60))
  case true =>
    have h := big1lawComes_calls l ch h1
    rw [show big1lawComes l ch = true from awake_true] at h
    exact h
  cases h2 : (decide ((ch.D.length : Int) > 200))
  case true =>
    have h := big2lawComes_calls l ch h2
    rw [show big2lawComes l ch = true by unfold big2lawComes; rw [awake_true]; simp] at h
    exact h
  have := of_decide_eq_false h1
  have := of_decide_eq_false h2
  have h := lawComes_calls l ch (by omega) (by omega)
  rw [lawComes_true l ch] at h
  exact h
end Go.Proofs.Ytjhphpoihadmkaa

/- What all rows of this seat need: no knob is turned, the types are laid out. No conditions. -/
namespace Go.Proofs.Ytjhphpoihadmkaa
open Go.Am
theorem own : ownKnob Try.prog.godebug = none := by kernel_rfl
theorem laidOut : laidOutB Try.prog = true := by kernel_rfl
end Go.Proofs.Ytjhphpoihadmkaa

