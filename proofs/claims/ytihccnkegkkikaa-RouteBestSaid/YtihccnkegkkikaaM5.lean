import Derived.Test.YtihccnkegkkikaaM4
import Derived.Test.YtihccnkegkkikaaM3
import Derived.Test.YtihccnkegkkikaaM2
/- The best order of sites in plain Lean: the code's is the document's. No conditions. -/
namespace Go.Proofs.Ytihccnkegkkikaa
open Go.Am
section go
variable (w : Nat → Nat → Int) (f : Int)
def nOf (m : List Member) : Int := IntKind.i64.wrap ((IntKind.i64.wrap (2 * ((w f.toNat) (m[0]!.site).toNat))) + (IntKind.i64.wrap (2 * (down (Chain.mk 0 (Sl.mk m.isEmpty m)) w))))
def goC : List (List Member) → Sl Member → Int → Sl Member × Int
  | [], b, n => (b, n)
  | m :: ms, b, n => bif decide (n < 0) then goC ms ⟨m.isEmpty, m⟩ (nOf w f m) else bif decide (nOf w f m < n) then goC ms ⟨m.isEmpty, m⟩ (nOf w f m) else goC ms b n
def goR : List (List Member) → Sl Member → Sl Member
  | [], b => b
  | m :: ms, b => bif b.nil then goR ms ⟨m.isEmpty, m⟩ else bif decide (cost ⟨m.isEmpty, m⟩ w f < cost b w f) then goR ms ⟨m.isEmpty, m⟩ else goR ms b
end go
def Fine (m : List Member) : Prop := 0 < m.length ∧ m.length ≤ 6 ∧ ∀ y ∈ m, 0 ≤ y.site ∧ y.site < 3
theorem fine_cost {w : Nat → Nat → Int} (hW : Ways w) {f : Int} (hf : 0 ≤ f ∧ f < 3) {m : List Member} (h : Fine m) {b : Bool} : nOf w f m = cost ⟨b, m⟩ w f ∧ 0 ≤ cost ⟨b, m⟩ w f ∧ m.isEmpty = false := by
  obtain ⟨h1, h2, h3⟩ := h
  have hb := way_at hW hf (h3 _ (at_mem (D := m) (n := 0) h1))
  have hp := path_le hW m h3
  have e1 := cost_eq (s := ⟨b, m⟩) hW hf h3 h2 h1
  have e2 : down ⟨0, ⟨m.isEmpty, m⟩⟩ w = pathS w m := down_eq (c := ⟨0, ⟨m.isEmpty, m⟩⟩) hW h3 h2 h1
  have e1 : cost ⟨b, m⟩ w f = (2 : Int) * w f.toNat (m[0]!).site.toNat + (2 : Int) * pathS w m := e1
  have g1 := wrapI (((2 : Nat) : Int) * w f.toNat (m[0]!).site.toNat) (by omega)
  refine ⟨?_, by omega, ?_⟩
  · unfold nOf
    rw [e2, g1, wrapI ((2 : Int) * pathS w m) (by omega), wrapI _ (by omega), e1]; rfl
  · cases m with
    | nil => exact absurd h1 (by simp)
    | cons x m => rfl
theorem goC_eq {w : Nat → Nat → Int} (hW : Ways w) {f : Int} (hf : 0 ≤ f ∧ f < 3) : ∀ (ms : List (List Member)) (b : Sl Member) (n : Int), (∀ m ∈ ms, Fine m) → (b.nil = true ∧ n = -1 ∨ b.nil = false ∧ n = cost b w f ∧ 0 ≤ n) → (ms ≠ [] ∨ b.nil = false) → goC w f ms b n = (goR w f ms b, cost (goR w f ms b) w f)
  | [], b, n, _, h, h2 => by
    rcases h with ⟨h, _⟩ | ⟨_, h, _⟩
    · rcases h2 with h2 | h2
      · exact absurd rfl h2
      · rw [h] at h2; cases h2
    · show (b, n) = (b, cost b w f)
      rw [h]
  | m :: ms, b, n, hm, h, _ => by
    obtain ⟨c1, c2, c3⟩ := fine_cost hW hf (hm m (List.mem_cons_self ..)) (b := m.isEmpty)
    have ihn := goC_eq hW hf ms ⟨m.isEmpty, m⟩ (nOf w f m) (fun x hx => hm x (List.mem_cons_of_mem _ hx)) (.inr ⟨c3, c1, by rw [c1]; exact c2⟩) (.inr c3)
    unfold goC goR
    rcases h with ⟨h1, h2⟩ | ⟨h1, h2, h3⟩
    · rw [h1, h2, decide_eq_true (by decide), cond_true, cond_true]; exact ihn
    · have ihs := goC_eq hW hf ms b n (fun x hx => hm x (List.mem_cons_of_mem _ hx)) (.inr ⟨h1, h2, h3⟩) (.inr h1)
      rw [h1, decide_eq_false (by omega), cond_false, cond_false, ← c1, ← h2]
      cases decide (nOf w f m < n)
      · exact ihs
      · exact ihn
theorem best_l2_eq (x : Nat → Int) (i : Nat) (kk : List Member → Sl Member × Int × Int) : ∀ (l : List Member) (j : Nat) (m : List Member), best_l2 x i kk l j m = kk (m ++ l.filter fun y => y.site == x i)
  | [], _, m => by rw [List.filter_nil, List.append_nil]; rfl
  | y :: l, j, m => by
    unfold best_l2
    rw [best_l2_eq x i kk l, best_l2_eq x i kk l, List.filter_cons]
    cases y.site == x i
    · rfl
    · show kk (m ++ [y] ++ _) = kk (m ++ y :: _)
      rw [List.append_assoc]; rfl
theorem best_l1_eq (fc : Chain × Int) (x : Nat → Int) (kk : List Member → Sl Member × Int × Int) : ∀ (k i : Nat) (m : List Member), best_l1 fc x kk k i m = kk (m ++ (List.range' i k).flatMap fun t => fc.1.members.D.filter fun y => y.site == x t)
  | 0, _, m => by rw [List.range'_zero, List.flatMap_nil, List.append_nil]; rfl
  | k + 1, i, m => by
    unfold best_l1
    rw [best_l2_eq, best_l1_eq fc x kk k (i + 1), List.range'_succ, List.flatMap_cons, List.append_assoc]
theorem best_l0_eq (w : Nat → Nat → Int) (f : Int) (fc : Chain × Int) : ∀ (xs : List (Nat → Int)) (i : Nat) (b : Sl Member) (n : Int), best_l0 w f fc xs i b n = ((goC w f (xs.map fun x => inOrder fc.1.members.D x 3) b n).1, (goC w f (xs.map fun x => inOrder fc.1.members.D x 3) b n).2, 0)
  | [], _, b, n => rfl
  | x :: xs, i, b, n => by
    unfold best_l0
    rw [best_l1_eq, List.nil_append, List.map_cons]
    have e : ((List.range' 0 3).flatMap fun t => fc.1.members.D.filter fun y => y.site == x t) = inOrder fc.1.members.D x 3 := by unfold inOrder; rw [List.range_eq_range']
    rw [e]
    unfold goC
    rw [best_l0_eq w f fc xs, best_l0_eq w f fc xs]
    show (bif decide (n < 0) then ((goC w f _ _ (nOf w f (inOrder fc.1.members.D x 3))).1, (goC w f _ _ (nOf w f (inOrder fc.1.members.D x 3))).2, (0 : Int)) else bif decide (nOf w f (inOrder fc.1.members.D x 3) < n) then ((goC w f _ _ (nOf w f (inOrder fc.1.members.D x 3))).1, (goC w f _ _ (nOf w f (inOrder fc.1.members.D x 3))).2, (0 : Int)) else _) = _
    cases decide (n < 0)
    · cases decide (nOf w f (inOrder fc.1.members.D x 3) < n) <;> rfl
    · rfl
theorem rBest_l3_eq (s : Int) (kk : List Member → Sl Member × Int × Int) : ∀ (l : List Member) (j : Nat) (m : List Member), rBest_l3 s kk l j m = kk (m ++ l.filter fun y => y.site == s)
  | [], _, m => by rw [List.filter_nil, List.append_nil]; rfl
  | y :: l, j, m => by
    unfold rBest_l3
    rw [rBest_l3_eq s kk l, rBest_l3_eq s kk l, List.filter_cons]
    cases y.site == s
    · rfl
    · show kk (m ++ [y] ++ _) = kk (m ++ y :: _)
      rw [List.append_assoc]; rfl
theorem rBest_l2_eq (fc : Chain × Int) (kk : List Member → Sl Member × Int × Int) : ∀ (L : List Int) (i : Nat) (m : List Member), rBest_l2 fc kk L i m = kk (m ++ inList fc.1.members.D L)
  | [], _, m => by unfold inList; rw [List.flatMap_nil, List.append_nil]; rfl
  | s :: L, i, m => by
    unfold rBest_l2
    rw [rBest_l3_eq, rBest_l2_eq fc kk L]
    unfold inList
    rw [List.flatMap_cons, List.append_assoc]
theorem rBest_step (w : Nat → Nat → Int) (f : Int) (fc : Chain × Int) (i : Nat) (kk : Sl Member → Sl Member × Int × Int) (k i1 : Nat) (b : Sl Member) (L : List Int) (hne : ((i : Int) == (i1 : Int)) = false) (hL : [(i : Int), (i1 : Int), (IntKind.i64.wrap ((IntKind.i64.wrap (3 - (i : Int))) - (i1 : Int)))] = L) (R : Sl Member → Sl Member × Int × Int) (hk : ∀ b, rBest_l1 w f fc i kk k (i1 + 1) b = R b) : rBest_l1 w f fc i kk (k + 1) i1 b = R (bif b.nil then ⟨(inList fc.1.members.D L).isEmpty, inList fc.1.members.D L⟩ else bif decide (cost ⟨(inList fc.1.members.D L).isEmpty, inList fc.1.members.D L⟩ w f < cost b w f) then ⟨(inList fc.1.members.D L).isEmpty, inList fc.1.members.D L⟩ else b) := by
  unfold rBest_l1
  rw [hne, cond_false, rBest_l2_eq, List.nil_append, hL, hk, hk]
  cases b.nil
  · cases decide (cost ⟨(inList fc.1.members.D L).isEmpty, inList fc.1.members.D L⟩ w f < cost b w f) <;> rfl
  · rfl
theorem goR_cons (w : Nat → Nat → Int) (f : Int) (m : List Member) (ms : List (List Member)) (b : Sl Member) : goR w f ms (bif b.nil then ⟨m.isEmpty, m⟩ else bif decide (cost ⟨m.isEmpty, m⟩ w f < cost b w f) then ⟨m.isEmpty, m⟩ else b) = goR w f (m :: ms) b := by
  show _ = bif b.nil then goR w f ms ⟨m.isEmpty, m⟩ else bif decide (cost ⟨m.isEmpty, m⟩ w f < cost b w f) then goR w f ms ⟨m.isEmpty, m⟩ else goR w f ms b
  cases b.nil
  · cases decide (cost ⟨m.isEmpty, m⟩ w f < cost b w f) <;> rfl
  · rfl
def cands (D : List Member) : List (List Member) := [inList D [0, 1, 2], inList D [0, 2, 1], inList D [1, 0, 2], inList D [1, 2, 0], inList D [2, 0, 1], inList D [2, 1, 0]]
theorem goR_append (w : Nat → Nat → Int) (f : Int) : ∀ (xs ys : List (List Member)) (b : Sl Member), goR w f ys (goR w f xs b) = goR w f (xs ++ ys) b
  | [], _, _ => rfl
  | m :: xs, ys, b => by
    rw [← goR_cons, goR_append w f xs ys, List.cons_append, ← goR_cons]
theorem rBest_skip (w : Nat → Nat → Int) (f : Int) (fc : Chain × Int) (i : Nat) (kk : Sl Member → Sl Member × Int × Int) (k : Nat) (b : Sl Member) : rBest_l1 w f fc i kk (k + 1) i b = rBest_l1 w f fc i kk k (i + 1) b := by
  rw [rBest_l1, show ((i : Int) == (i : Int)) = true from beq_self_eq_true _, cond_true]
theorem rBest_l1_0 (w : Nat → Nat → Int) (f : Int) (fc : Chain × Int) (kk : Sl Member → Sl Member × Int × Int) (b : Sl Member) : rBest_l1 w f fc 0 kk 3 0 b = kk (goR w f [inList fc.1.members.D [0, 1, 2], inList fc.1.members.D [0, 2, 1]] b) := by
  have s2 : ∀ b, rBest_l1 w f fc 0 kk 1 2 b = kk (goR w f [inList fc.1.members.D [0, 2, 1]] b) := fun b => (rBest_step w f fc 0 kk 0 2 b [0, 2, 1] (by decide) (by decide) kk fun _ => rfl).trans (congrArg kk (goR_cons w f _ [] b))
  have s1 : ∀ b, rBest_l1 w f fc 0 kk 2 1 b = kk (goR w f [inList fc.1.members.D [0, 1, 2], inList fc.1.members.D [0, 2, 1]] b) := fun b => (rBest_step w f fc 0 kk 1 1 b [0, 1, 2] (by decide) (by decide) (fun b => kk (goR w f [inList fc.1.members.D [0, 2, 1]] b)) s2).trans (congrArg kk (goR_cons w f _ [_] b))
  exact (rBest_skip w f fc 0 kk 2 b).trans (s1 b)
theorem rBest_l1_1 (w : Nat → Nat → Int) (f : Int) (fc : Chain × Int) (kk : Sl Member → Sl Member × Int × Int) (b : Sl Member) : rBest_l1 w f fc 1 kk 3 0 b = kk (goR w f [inList fc.1.members.D [1, 0, 2], inList fc.1.members.D [1, 2, 0]] b) := by
  have s2 : ∀ b, rBest_l1 w f fc 1 kk 1 2 b = kk (goR w f [inList fc.1.members.D [1, 2, 0]] b) := fun b => (rBest_step w f fc 1 kk 0 2 b [1, 2, 0] (by decide) (by decide) kk fun _ => rfl).trans (congrArg kk (goR_cons w f _ [] b))
  have s1 : ∀ b, rBest_l1 w f fc 1 kk 2 1 b = kk (goR w f [inList fc.1.members.D [1, 2, 0]] b) := fun b => (rBest_skip w f fc 1 kk 1 b).trans (s2 b)
  exact (rBest_step w f fc 1 kk 2 0 b [1, 0, 2] (by decide) (by decide) (fun b => kk (goR w f [inList fc.1.members.D [1, 2, 0]] b)) s1).trans (congrArg kk (goR_cons w f _ [_] b))
theorem rBest_l1_2 (w : Nat → Nat → Int) (f : Int) (fc : Chain × Int) (kk : Sl Member → Sl Member × Int × Int) (b : Sl Member) : rBest_l1 w f fc 2 kk 3 0 b = kk (goR w f [inList fc.1.members.D [2, 0, 1], inList fc.1.members.D [2, 1, 0]] b) := by
  have s2 : ∀ b, rBest_l1 w f fc 2 kk 1 2 b = kk b := fun b => rBest_skip w f fc 2 kk 0 b
  have s1 : ∀ b, rBest_l1 w f fc 2 kk 2 1 b = kk (goR w f [inList fc.1.members.D [2, 1, 0]] b) := fun b => (rBest_step w f fc 2 kk 1 1 b [2, 1, 0] (by decide) (by decide) kk s2).trans (congrArg kk (goR_cons w f _ [] b))
  exact (rBest_step w f fc 2 kk 2 0 b [2, 0, 1] (by decide) (by decide) (fun b => kk (goR w f [inList fc.1.members.D [2, 1, 0]] b)) s1).trans (congrArg kk (goR_cons w f _ [_] b))
theorem rBest_l0_all (w : Nat → Nat → Int) (f : Int) (fc : Chain × Int) (b : Sl Member) : rBest_l0 w f fc 3 0 b = (goR w f (cands fc.1.members.D) b, cost (goR w f (cands fc.1.members.D) b) w f, 0) := by
  rw [rBest_l0, rBest_l1_0]
  show rBest_l0 w f fc 2 1 _ = _
  rw [rBest_l0, rBest_l1_1]
  show rBest_l0 w f fc 1 2 _ = _
  rw [rBest_l0, rBest_l1_2]
  rw [goR_append, goR_append]
  rfl
theorem order_list (D : List Member) (x : Nat → Int) : inOrder D x 3 = inList D [x 0, x 1, x 2] := by
  unfold inOrder inList
  rw [show List.range 3 = [0, 1, 2] by decide]
  simp only [List.flatMap_cons, List.flatMap_nil]
theorem orders_eq (D : List Member) : ([(ofL [(0 : Int), 1, 2]), (ofL [(0 : Int), 2, 1]), (ofL [(1 : Int), 0, 2]), (ofL [(1 : Int), 2, 0]), (ofL [(2 : Int), 0, 1]), (ofL [(2 : Int), 1, 0])].map fun x => inOrder D x 3) = cands D := by
  have h : ∀ a b c : Int, inOrder D (ofL [a, b, c]) 3 = inList D [a, b, c] := fun a b c => order_list D (ofL [a, b, c])
  unfold cands
  simp only [List.map_cons, List.map_nil, h]
theorem list_len {D : List Member} {a b c : Int} (h : ∀ s, 0 ≤ s ∧ s < 3 → s = a ∨ s = b ∨ s = c) (hab : a ≠ b) (hac : a ≠ c) (hbc : b ≠ c) (hs : ∀ y ∈ D, 0 ≤ y.site ∧ y.site < 3) : (inList D [a, b, c]).length = D.length := by
  unfold inList
  rw [List.flatMap_cons, List.flatMap_cons, List.flatMap_cons, List.flatMap_nil, List.append_nil, List.length_append, List.length_append]
  induction D with
  | nil => rfl
  | cons x D ih =>
    have ih := ih fun y hy => hs y (List.mem_cons_of_mem _ hy)
    rw [List.filter_cons, List.filter_cons, List.filter_cons, List.length_cons]
    rcases h x.site (hs x (List.mem_cons_self ..)) with e | e | e
    · rw [show (x.site == a) = true by simpa using e, show (x.site == b) = false by simp [e]; exact hab, show (x.site == c) = false by simp [e]; exact hac]
      simp only [Bool.false_eq_true, if_false, if_true, List.length_cons]; omega
    · rw [show (x.site == a) = false by simp [e]; exact fun q => hab q.symm, show (x.site == b) = true by simpa using e, show (x.site == c) = false by simp [e]; exact hbc]
      simp only [Bool.false_eq_true, if_false, if_true, List.length_cons]; omega
    · rw [show (x.site == a) = false by simp [e]; exact fun q => hac q.symm, show (x.site == b) = false by simp [e]; exact fun q => hbc q.symm, show (x.site == c) = true by simpa using e]
      simp only [Bool.false_eq_true, if_false, if_true, List.length_cons]; omega
theorem cands_fine {D : List Member} (hD : 0 < D.length) (h6 : D.length ≤ 6) (hs : ∀ y ∈ D, 0 ≤ y.site ∧ y.site < 3) : ∀ m ∈ cands D, Fine m ∧ m.length = D.length := by
  have key : ∀ a b c : Int, (∀ s, 0 ≤ s ∧ s < 3 → s = a ∨ s = b ∨ s = c) → a ≠ b → a ≠ c → b ≠ c → Fine (inList D [a, b, c]) ∧ (inList D [a, b, c]).length = D.length := fun a b c h h1 h2 h3 => by
    have hl := list_len h h1 h2 h3 hs
    obtain ⟨g1, g2, _⟩ := inList_all (n := 3) rfl (by omega) h hD hs
    exact ⟨⟨g1, by omega, g2⟩, hl⟩
  intro m hm
  unfold cands at hm
  simp only [List.mem_cons, List.not_mem_nil, or_false] at hm
  rcases hm with rfl | rfl | rfl | rfl | rfl | rfl
  all_goals exact key _ _ _ (fun s hs => by omega) (by decide) (by decide) (by decide)
theorem best_eq (l : Sl Member) (w : Nat → Nat → Int) (f : Int) : best l w f = rBest l w f := by
  unfold best rBest
  rw [first_eq, ← able_eq]
  cases h1 : (firstC l).2 != 0
  case true => rw [cond_true, cond_true]
  cases ha : able (firstC l).1 w f != 0
  case true => rw [cond_false, cond_false, cond_true, cond_true]
  obtain ⟨hc, hw, hf⟩ := able_ok (eq_of_bne_false ha)
  have hW := (wayCheck_iff w).1.1 hw
  have hs := sites_ok hc
  have hl := check_len hc
  have h6 := check_le6 hc
  rw [cond_false, cond_false, cond_false, cond_false, best_l0_eq, orders_eq, rBest_l0_all, goC_eq hW hf _ _ _ (fun m hm => (cands_fine hl h6 hs m hm).1) (.inl ⟨rfl, rfl⟩) (.inl (by unfold cands; simp))]
end Go.Proofs.Ytihccnkegkkikaa
/- The best order of sites: what it is. No conditions. -/
namespace Go.Proofs.Ytihccnkegkkikaa
open Go.Am
theorem goR_mem (w : Nat → Nat → Int) (f : Int) : ∀ (ms : List (List Member)) (b : Sl Member), goR w f ms b = b ∨ ∃ m ∈ ms, goR w f ms b = ⟨m.isEmpty, m⟩
  | [], _ => .inl rfl
  | m :: ms, b => by
    rw [← goR_cons]
    rcases goR_mem w f ms (bif b.nil then ⟨m.isEmpty, m⟩ else bif decide (cost ⟨m.isEmpty, m⟩ w f < cost b w f) then ⟨m.isEmpty, m⟩ else b) with h | ⟨x, hx, h⟩
    · rw [h]
      cases b.nil
      · cases decide (cost ⟨m.isEmpty, m⟩ w f < cost b w f)
        · exact .inl rfl
        · exact .inr ⟨m, List.mem_cons_self .., rfl⟩
      · exact .inr ⟨m, List.mem_cons_self .., rfl⟩
    · exact .inr ⟨x, List.mem_cons_of_mem _ hx, h⟩
theorem goR_le (w : Nat → Nat → Int) (f : Int) : ∀ (ms : List (List Member)) (b : Sl Member), (∀ m ∈ ms, m.isEmpty = false) → (b.nil = false → cost (goR w f ms b) w f ≤ cost b w f) ∧ ∀ m ∈ ms, cost (goR w f ms b) w f ≤ cost ⟨m.isEmpty, m⟩ w f
  | [], _, _ => ⟨fun _ => Int.le_refl _, fun _ h => by cases h⟩
  | m :: ms, b, hm => by
    rw [← goR_cons]
    have hm0 := hm m (List.mem_cons_self ..)
    obtain ⟨h1, h2⟩ := goR_le w f ms (bif b.nil then ⟨m.isEmpty, m⟩ else bif decide (cost ⟨m.isEmpty, m⟩ w f < cost b w f) then ⟨m.isEmpty, m⟩ else b) fun x hx => hm x (List.mem_cons_of_mem _ hx)
    revert h1 h2
    cases hb : b.nil
    · rw [cond_false]
      cases hd : decide (cost ⟨m.isEmpty, m⟩ w f < cost b w f)
      · rw [cond_false]
        intro h1 h2
        have h1 := h1 hb
        have hd := of_decide_eq_false hd
        refine ⟨fun _ => h1, fun x hx => ?_⟩
        cases hx with
        | head => omega
        | tail _ hx => exact h2 x hx
      · rw [cond_true]
        intro h1 h2
        have h1 := h1 hm0
        have hd := of_decide_eq_true hd
        refine ⟨fun _ => by omega, fun x hx => ?_⟩
        cases hx with
        | head => exact h1
        | tail _ hx => exact h2 x hx
    · rw [cond_true]
      intro h1 h2
      have h1 := h1 hm0
      refine ⟨fun h => (by cases h), fun x hx => ?_⟩
      cases hx with
      | head => exact h1
      | tail _ hx => exact h2 x hx
theorem best_bad {l : Sl Member} {w : Nat → Nat → Int} {f : Int} (h : (best l w f).2.2 ≠ 0) : best l w f = (⟨true, []⟩, 0, (best l w f).2.2) := by
  unfold best at h ⊢
  cases h1 : (firstC l).2 != 0
  · rw [h1, cond_false] at h
    rw [cond_false]
    cases h2 : able (firstC l).1 w f != 0
    · rw [h2, cond_false, best_l0_eq] at h
      exact absurd rfl h
    · rw [cond_true]
  · rw [cond_true]
theorem best_ok {l : Sl Member} {w : Nat → Nat → Int} {f : Int} (h : (best l w f).2.2 = 0) : (firstC l).2 = 0 ∧ able (firstC l).1 w f = 0 ∧ ∃ m ∈ cands (firstC l).1.members.D, (best l w f).1 = ⟨m.isEmpty, m⟩ ∧ (best l w f).2.1 = cost ⟨m.isEmpty, m⟩ w f ∧ ∀ x ∈ cands (firstC l).1.members.D, (best l w f).2.1 ≤ cost ⟨x.isEmpty, x⟩ w f := by
  unfold best at h ⊢
  cases h1 : (firstC l).2 != 0
  case true => rw [h1, cond_true] at h; rw [h] at h1; cases h1
  rw [h1, cond_false] at h
  cases ha : able (firstC l).1 w f != 0
  case true => rw [ha, cond_true] at h; have h : able (firstC l).1 w f = 0 := h; rw [h] at ha; cases ha
  obtain ⟨hc, hw, hf⟩ := able_ok (eq_of_bne_false ha)
  have hW := (wayCheck_iff w).1.1 hw
  have hs := sites_ok hc
  have hl := check_len hc
  have h6 := check_le6 hc
  have hfine := cands_fine hl h6 hs
  refine ⟨eq_of_bne_false h1, eq_of_bne_false ha, ?_⟩
  rw [cond_false, cond_false, best_l0_eq, orders_eq, goC_eq hW hf _ _ _ (fun m hm => (hfine m hm).1) (.inl ⟨rfl, rfl⟩) (.inl (by unfold cands; simp))]
  have hle := (goR_le w f (cands (firstC l).1.members.D) ⟨true, []⟩ fun m hm => (fine_cost hW hf (hfine m hm).1 (b := true)).2.2).2
  rcases goR_mem w f (cands (firstC l).1.members.D) ⟨true, []⟩ with hb | ⟨m, hm, hb⟩
  · exfalso
    have hm : inList (firstC l).1.members.D [0, 1, 2] ∈ cands (firstC l).1.members.D := by unfold cands; exact List.mem_cons_self ..
    have hne : goR w f (cands (firstC l).1.members.D) ⟨true, []⟩ ≠ ⟨true, []⟩ := by
      unfold cands
      rw [← goR_cons]
      show goR w f _ ⟨(inList (firstC l).1.members.D [0, 1, 2]).isEmpty, inList (firstC l).1.members.D [0, 1, 2]⟩ ≠ _
      rw [(fine_cost hW hf (hfine _ hm).1 (b := true)).2.2]
      intro e
      rcases goR_mem w f [inList (firstC l).1.members.D [0, 2, 1], inList (firstC l).1.members.D [1, 0, 2], inList (firstC l).1.members.D [1, 2, 0], inList (firstC l).1.members.D [2, 0, 1], inList (firstC l).1.members.D [2, 1, 0]] ⟨false, inList (firstC l).1.members.D [0, 1, 2]⟩ with q | ⟨x, hx, q⟩
      · rw [q] at e; cases e
      · rw [q] at e
        have hx' : x ∈ cands (firstC l).1.members.D := by unfold cands; exact List.mem_cons_of_mem _ hx
        rw [(fine_cost hW hf (hfine x hx').1 (b := true)).2.2] at e
        cases e
    exact hne hb
  · exact ⟨m, hm, hb, by rw [hb], hle⟩
theorem best_len (l : Sl Member) (w : Nat → Nat → Int) (f : Int) : (best l w f).1.D.length ≤ 6 := by
  by_cases h : (best l w f).2.2 = 0
  · obtain ⟨_, ha, m, hm, e, _⟩ := best_ok h
    have hc := (able_ok ha).1
    rw [e]
    exact (cands_fine (check_len hc) (check_le6 hc) (sites_ok hc) m hm).1.2.1
  · rw [best_bad h]; exact Nat.zero_le _
theorem rBest_len (l : Sl Member) (w : Nat → Nat → Int) (f : Int) : (rBest l w f).1.D.length ≤ 6 := by rw [← best_eq]; exact best_len l w f
end Go.Proofs.Ytihccnkegkkikaa
/- Laws: the best order. No conditions. -/
namespace Go.Proofs.Ytihccnkegkkikaa
open Go.Am
def lawBest (l : (Sl Member)) (w : (Nat → (Nat → Int))) (from_ : Int) : Bool :=
  (bif (decide ((l.D.length : Int) > 60)) then (awake ) else (bif (eqMembers (best l w from_).1 (rBest l w from_).1) then (bif ((best l w from_).2.1 == (rBest l w from_).2.1) then (bif ((best l w from_).2.2 == (rBest l w from_).2.2) then (awake ) else false) else false) else false))
theorem lawBest_calls (l : (Sl Member)) (w : (Nat → (Nat → Int))) (from_ : Int) (hl1 : l.D.length ≤ 1000000) : PCalls Try.prog 8 [sS (some l.nil) eMember l.D, .agg [.pv (.lit (.int .i64 ((w 0) 0))), .pv (.lit (.int .i64 ((w 0) 1))), .pv (.lit (.int .i64 ((w 0) 2))), .pv (.lit (.int .i64 ((w 1) 0))), .pv (.lit (.int .i64 ((w 1) 1))), .pv (.lit (.int .i64 ((w 1) 2))), .pv (.lit (.int .i64 ((w 2) 0))), .pv (.lit (.int .i64 ((w 2) 1))), .pv (.lit (.int .i64 ((w 2) 2)))], .pv (.lit (.int .i64 from_))] (.pv (.lit (.bool (lawBest l w from_)))) := by
 generalize hR : lawBest l w from_ = R
 refine PCalls.of_body tabOk Try.func8 rfl rfl rfl rfl rfl mixed fun E hP C hI => ?_
 refine Awp.consP C ?_
 refine rvc_un (rexec_prim C (δ := { v := .ptr 4 0, new := [(4, .cells [.pv (.lit (.int .i64 ((w 0) 0))), .pv (.lit (.int .i64 ((w 0) 1))), .pv (.lit (.int .i64 ((w 0) 2))), .pv (.lit (.int .i64 ((w 1) 0))), .pv (.lit (.int .i64 ((w 1) 1))), .pv (.lit (.int .i64 ((w 1) 2))), .pv (.lit (.int .i64 ((w 2) 0))), .pv (.lit (.int .i64 ((w 2) 1))), .pv (.lit (.int .i64 ((w 2) 2)))])] }) rfl rfl rfl rfl trivial rfl ?_)
 refine rvP C (.pv (.lit (.bool false))) ?_
 refine rvc_nil ?_
 refine Awp.seq ?_
 refine Awp.consP C ?_
 refine rvP C (sS (some l.nil) eMember l.D) ?_
 refine rvP C (.pv (.lit (.int .i64 (l.D.length : Int)))) ?_
 refine rvP C (.pv (.lit (.bool (decide ((l.D.length : Int) > 60))))) ?_
 refine rvc_nil ?_
 refine Awp.cond (b := (decide ((l.D.length : Int) > 60))) rfl (fun h1 => ?_) (fun h1 => ?_)
 ·
  replace hR := of_true h1 hR
  refine Awp.consP C ?_
  obtain ⟨aw, hq_aw⟩ : ∃ q_, q_ = (awake ) := ⟨_, rfl⟩
  have hc_aw := (awake_calls )
  first | rw [← hq_aw] at hR hc_aw | (unfold lawBest at hR; rw [← hq_aw] at hR hc_aw)
  refine rvc_un (rexec_call hP C rfl rfl rfl hc_aw ?_)
  refine rvP C (.pv (.lit (.bool aw))) ?_
  refine rvc_nil ?_
  refine Awp.ret ?_
  subst hR
  exact ⟨.inl rfl, rfl⟩
 ·
  replace hR := of_false h1 hR
  refine Awp.skip ?_
  refine Awp.consP C ?_
  refine rvP C (sS (some l.nil) eMember l.D) ?_
  refine rvP C (.agg [.pv (.lit (.int .i64 ((w 0) 0))), .pv (.lit (.int .i64 ((w 0) 1))), .pv (.lit (.int .i64 ((w 0) 2))), .pv (.lit (.int .i64 ((w 1) 0))), .pv (.lit (.int .i64 ((w 1) 1))), .pv (.lit (.int .i64 ((w 1) 2))), .pv (.lit (.int .i64 ((w 2) 0))), .pv (.lit (.int .i64 ((w 2) 1))), .pv (.lit (.int .i64 ((w 2) 2)))]) ?_
  refine rvP C (.pv (.lit (.int .i64 from_))) ?_
  obtain ⟨ba, hq_ba⟩ : ∃ q_, q_ = (best l w from_) := ⟨_, rfl⟩
  have hc_ba := (best_calls l w from_ hl1)
  first | rw [← hq_ba] at hR hc_ba | (unfold lawBest at hR; rw [← hq_ba] at hR hc_ba)
  have hf0_ba := best_len l w from_
  rw [← hq_ba] at hf0_ba
  refine rvc_un (rexec_call hP C rfl rfl rfl hc_ba ?_)
  refine rvP C (.tup [sS (some ba.1.nil) eMember ba.1.D, .pv (.lit (.int .i64 ba.2.1)), .pv (.lit (.int .i64 ba.2.2))]) ?_
  refine rvP C (sS (some ba.1.nil) eMember ba.1.D) ?_
  refine rvP C (.pv (.lit (.int .i64 ba.2.1))) ?_
  refine rvP C (.pv (.lit (.int .i64 ba.2.2))) ?_
  refine rvP C (sS (some ba.1.nil) eMember ba.1.D) ?_
  refine rvP C (.pv (.lit (.int .i64 ba.2.1))) ?_
  refine rvP C (.pv (.lit (.int .i64 ba.2.2))) ?_
  refine rvc_nil ?_
  refine Awp.consP C ?_
  refine rvP C (sS (some l.nil) eMember l.D) ?_
  refine rvP C (.agg [.pv (.lit (.int .i64 ((w 0) 0))), .pv (.lit (.int .i64 ((w 0) 1))), .pv (.lit (.int .i64 ((w 0) 2))), .pv (.lit (.int .i64 ((w 1) 0))), .pv (.lit (.int .i64 ((w 1) 1))), .pv (.lit (.int .i64 ((w 1) 2))), .pv (.lit (.int .i64 ((w 2) 0))), .pv (.lit (.int .i64 ((w 2) 1))), .pv (.lit (.int .i64 ((w 2) 2)))]) ?_
  refine rvP C (.pv (.lit (.int .i64 from_))) ?_
  obtain ⟨bb, hq_bb⟩ : ∃ q_, q_ = (rBest l w from_) := ⟨_, rfl⟩
  have hc_bb := (rBest_calls l w from_ hl1)
  first | rw [← hq_bb] at hR hc_bb | (unfold lawBest at hR; rw [← hq_bb] at hR hc_bb)
  have hf0_bb := rBest_len l w from_
  rw [← hq_bb] at hf0_bb
  refine rvc_un (rexec_call hP C rfl rfl rfl hc_bb ?_)
  refine rvP C (.tup [sS (some bb.1.nil) eMember bb.1.D, .pv (.lit (.int .i64 bb.2.1)), .pv (.lit (.int .i64 bb.2.2))]) ?_
  refine rvP C (sS (some bb.1.nil) eMember bb.1.D) ?_
  refine rvP C (.pv (.lit (.int .i64 bb.2.1))) ?_
  refine rvP C (.pv (.lit (.int .i64 bb.2.2))) ?_
  refine rvP C (sS (some bb.1.nil) eMember bb.1.D) ?_
  refine rvP C (.pv (.lit (.int .i64 bb.2.1))) ?_
  refine rvP C (.pv (.lit (.int .i64 bb.2.2))) ?_
  refine rvc_nil ?_
  refine Awp.consP C ?_
  refine rvP C (sS (some ba.1.nil) eMember ba.1.D) ?_
  refine rvP C (sS (some bb.1.nil) eMember bb.1.D) ?_
  obtain ⟨em, hq_em⟩ : ∃ q_, q_ = (eqMembers ba.1 bb.1) := ⟨_, rfl⟩
  have hc_em := (eqMembers_calls ba.1 bb.1 (by show ba.1.D.length ≤ 9223372036854775807; have := of_decide_eq_false h1; omega))
  first | rw [← hq_em] at hR hc_em | (unfold lawBest at hR; rw [← hq_em] at hR hc_em)
  refine rvc_un (rexec_call hP C rfl rfl rfl hc_em ?_)
  refine rvP C (.pv (.lit (.bool em))) ?_
  refine rvc_case 36 em rfl (fun h2 => ?_) (fun h2 => ?_)
  ·
   replace hR := of_true h2 hR
   refine rvO C (.pv (.lit (.int .i64 ba.2.1))) ?_
   refine rvO C (.pv (.lit (.int .i64 bb.2.1))) ?_
   refine rvO C (.pv (.lit (.bool (ba.2.1 == bb.2.1)))) ?_
   refine rvP C (.pv (.lit (.bool (ba.2.1 == bb.2.1)))) ?_
   refine rvP C (.pv (.lit (.bool (ba.2.1 == bb.2.1)))) ?_
   refine rvc_case 41 (ba.2.1 == bb.2.1) rfl (fun h3 => ?_) (fun h3 => ?_)
   ·
    replace hR := of_true h3 hR
    refine rvO C (.pv (.lit (.int .i64 ba.2.2))) ?_
    refine rvO C (.pv (.lit (.int .i64 bb.2.2))) ?_
    refine rvO C (.pv (.lit (.bool (ba.2.2 == bb.2.2)))) ?_
    refine rvP C (.pv (.lit (.bool (ba.2.2 == bb.2.2)))) ?_
    refine rvP C (.pv (.lit (.bool (ba.2.2 == bb.2.2)))) ?_
    refine rvc_case 46 (ba.2.2 == bb.2.2) rfl (fun h4 => ?_) (fun h4 => ?_)
    ·
     replace hR := of_true h4 hR
     obtain ⟨aw1, hq_aw1⟩ : ∃ q_, q_ = (awake ) := ⟨_, rfl⟩
     have hc_aw1 := (awake_calls )
     first | rw [← hq_aw1] at hR hc_aw1 | (unfold lawBest at hR; rw [← hq_aw1] at hR hc_aw1)
     refine rvc_open rfl rfl rfl (rexec_call hP C rfl rfl rfl hc_aw1 ?_)
     refine rvP C (.pv (.lit (.bool aw1))) ?_
     refine rvP C (.pv (.lit (.bool aw1))) ?_
     refine rvc_nil ?_
     refine Awp.ret ?_
     subst hR
     exact ⟨.inl rfl, rfl⟩
    ·
     replace hR := of_false h4 hR
     refine rvS ?_
     refine rvP C (.pv (.lit (.bool false))) ?_
     refine rvP C (.pv (.lit (.bool false))) ?_
     refine rvc_nil ?_
     refine Awp.ret ?_
     subst hR
     exact ⟨.inl rfl, rfl⟩
   ·
    replace hR := of_false h3 hR
    refine rvS ?_
    refine rvS ?_
    refine rvS ?_
    refine rvP C (.pv (.lit (.bool false))) ?_
    refine rvP C (.pv (.lit (.bool false))) ?_
    refine rvS ?_
    refine rvP C (.pv (.lit (.bool false))) ?_
    refine rvP C (.pv (.lit (.bool false))) ?_
    refine rvc_nil ?_
    refine Awp.ret ?_
    subst hR
    exact ⟨.inl rfl, rfl⟩
  ·
   replace hR := of_false h2 hR
   refine rvS ?_
   refine rvS ?_
   refine rvS ?_
   refine rvP C (.pv (.lit (.bool false))) ?_
   refine rvP C (.pv (.lit (.bool false))) ?_
   refine rvS ?_
   refine rvS ?_
   refine rvS ?_
   refine rvP C (.pv (.lit (.bool false))) ?_
   refine rvP C (.pv (.lit (.bool false))) ?_
   refine rvS ?_
   refine rvP C (.pv (.lit (.bool false))) ?_
   refine rvP C (.pv (.lit (.bool false))) ?_
   refine rvc_nil ?_
   refine Awp.ret ?_
   subst hR
   exact ⟨.inl rfl, rfl⟩
end Go.Proofs.Ytihccnkegkkikaa
/- The laws RouteBest and RouteLeast in plain Lean: their models answer true. No conditions. -/
namespace Go.Proofs.Ytihccnkegkkikaa
open Go.Am
theorem eqM_self (s : Sl Member) : eqMembers s s = true := by
  unfold eqMembers
  rw [eqMembers_self s s.D 0 rfl]
  simp
theorem lawBest_true (l : Sl Member) (w : Nat → Nat → Int) (f : Int) : lawBest l w f = true := by
  unfold lawBest
  rw [best_eq, eqM_self, awake_true]
  simp
end Go.Proofs.Ytihccnkegkkikaa
/- Laws of chapter 13 at chains that are too long. No conditions. -/
namespace Go.Proofs.Ytihccnkegkkikaa
open Go.Am
def biglawBest (_l : (Sl Member)) (_w : (Nat → (Nat → Int))) (_from_ : Int) : Bool :=
  (awake )
theorem biglawBest_calls (l : (Sl Member)) (w : (Nat → (Nat → Int))) (from_ : Int) (hbig : (decide ((l.D.length : Int) > 60)) = true) : PCalls Try.prog 8 [sS (some l.nil) eMember l.D, .agg [.pv (.lit (.int .i64 ((w 0) 0))), .pv (.lit (.int .i64 ((w 0) 1))), .pv (.lit (.int .i64 ((w 0) 2))), .pv (.lit (.int .i64 ((w 1) 0))), .pv (.lit (.int .i64 ((w 1) 1))), .pv (.lit (.int .i64 ((w 1) 2))), .pv (.lit (.int .i64 ((w 2) 0))), .pv (.lit (.int .i64 ((w 2) 1))), .pv (.lit (.int .i64 ((w 2) 2)))], .pv (.lit (.int .i64 from_))] (.pv (.lit (.bool (biglawBest l w from_)))) := by
 generalize hR : biglawBest l w from_ = R
 refine PCalls.of_body tabOk Try.func8 rfl rfl rfl rfl rfl mixed fun E hP C hI => ?_
 refine Awp.consP C ?_
 refine rvc_un (rexec_prim C (δ := { v := .ptr 4 0, new := [(4, .cells [.pv (.lit (.int .i64 ((w 0) 0))), .pv (.lit (.int .i64 ((w 0) 1))), .pv (.lit (.int .i64 ((w 0) 2))), .pv (.lit (.int .i64 ((w 1) 0))), .pv (.lit (.int .i64 ((w 1) 1))), .pv (.lit (.int .i64 ((w 1) 2))), .pv (.lit (.int .i64 ((w 2) 0))), .pv (.lit (.int .i64 ((w 2) 1))), .pv (.lit (.int .i64 ((w 2) 2)))])] }) rfl rfl rfl rfl trivial rfl ?_)
 refine rvP C (.pv (.lit (.bool false))) ?_
 refine rvc_nil ?_
 refine Awp.seq ?_
 refine Awp.consP C ?_
 refine rvP C (sS (some l.nil) eMember l.D) ?_
 refine rvP C (.pv (.lit (.int .i64 (l.D.length : Int)))) ?_
 refine rvP C (.pv (.lit (.bool (decide ((l.D.length : Int) > 60))))) ?_
 refine rvc_nil ?_
 refine Awp.condT (b := (decide ((l.D.length : Int) > 60))) rfl hbig ?_
 refine Awp.consP C ?_
 obtain ⟨aw, hq_aw⟩ : ∃ q_, q_ = (awake ) := ⟨_, rfl⟩
 have hc_aw := (awake_calls )
 first | rw [← hq_aw] at hR hc_aw | (unfold biglawBest at hR; rw [← hq_aw] at hR hc_aw)
 refine rvc_un (rexec_call hP C rfl rfl rfl hc_aw ?_)
 refine rvP C (.pv (.lit (.bool aw))) ?_
 refine rvc_nil ?_
 refine Awp.ret ?_
 subst hR
 exact ⟨.inl rfl, rfl⟩
end Go.Proofs.Ytihccnkegkkikaa
/- Inputs of chapter 13, as plain values. No conditions. -/
namespace Go.Proofs.Ytihccnkegkkikaa
open Go.Am
set_option maxRecDepth 100000 in
theorem flat3 {m : Nat} {ps : List PV} (h : Flat Try.prog (m + 1) 3 ps) : ∃ n, ps = [.lit (.int .i64 n)] ∧ (Lit.int .i64 n).wf = true := by
  unfold Flat at h
  rw [Try.underlying3] at h
  exact h
set_option maxRecDepth 100000 in
theorem flat4 {m : Nat} {ps : List PV} (h : Flat Try.prog (m + 1) 4 ps) : ∃ b, ps = [.lit (.bool b)] ∧ True := by
  unfold Flat at h
  rw [Try.underlying4] at h
  obtain ⟨b, h⟩ := h
  exact ⟨b, h, trivial⟩
def WT35 (x : Member) : Prop := (Lit.int .i64 x.node).wf = true ∧ (Lit.int .i64 x.site).wf = true ∧ True
set_option maxRecDepth 100000 in
theorem flat35 {m : Nat} {ps : List PV} (h : Flat Try.prog (m + 2) 35 ps) : ∃ x : Member, ps = eMember.enc x ∧ WT35 x := by
  unfold Flat at h
  rw [Try.underlying35] at h
  obtain ⟨a0, b0, e0, h0, a1, b1, e1, h1, a2, b2, e2, h2, el⟩ := h
  obtain ⟨x0, rfl, w0⟩ := flat3 (m := m + 0) h0
  obtain ⟨x1, rfl, w1⟩ := flat3 (m := m + 0) h1
  obtain ⟨x2, rfl, w2⟩ := flat4 (m := m + 0) h2
  subst el
  subst e2
  subst e1
  subst e0
  exact ⟨⟨x0, x1, x2⟩, rfl, w0, w1, w2⟩
def WT22 (s : Sl Member) : Prop := s.D.length ≤ maxLen ∧ (s.nil = true → s.D = []) ∧ ∀ x ∈ s.D, WT35 x
set_option maxRecDepth 100000 in
theorem flat22 {m : Nat} {ps : List PV} (h : Flat Try.prog (m + 3) 22 ps) : ∃ s : Sl Member, ps = [.sl (some s.nil) s.D.length (encL eMember s.D)] ∧ WT22 s := by
  unfold Flat at h
  rw [Try.underlying22] at h
  obtain ⟨b, D, rfl, h1, h2, h3⟩ := h
  obtain ⟨D2, e1, e2, e3⟩ := enc_list (e := eMember) (W := fun x => WT35 x) D fun y hy => flat35 (h3 y hy)
  rw [e2, ← e1]
  exact ⟨⟨b, D2⟩, rfl, (by show D2.length ≤ _; rw [e1]; exact h1), (fun hb => by have := h2 hb; rw [this] at e1; exact List.eq_nil_of_length_eq_zero e1), e3⟩
end Go.Proofs.Ytihccnkegkkikaa
/- The contracts of the laws RouteBest and RouteLeast: each is true, whatever the input. No conditions. -/
namespace Go.Proofs.Ytihccnkegkkikaa
open Go.Am
theorem routeBest_calls (l : Sl Member) (_ : WT22 l) (w : Nat → Nat → Int) (f : Int) (_ : (Lit.int .i64 f).wf = true) : PCalls Try.prog 8 [sS (some l.nil) eMember l.D, .agg (rows3 fun p q => .pv (.lit (.int .i64 (w p q)))), .pv (.lit (.int .i64 f))] (.pv (.bool true)) := by
  cases hb : (decide ((l.D.length : Int) > 60))
  · have := of_decide_eq_false hb
    have r := lawBest_calls l w f (by omega)
    rw [lawBest_true] at r
    exact r
  · have r := biglawBest_calls l w f hb
    rw [show biglawBest l w f = true from awake_true] at r
    exact r
end Go.Proofs.Ytihccnkegkkikaa
/- An abstract machine over the kit's calls, part 34: three rows of three numbers that are handed in. No conditions. -/
namespace Go.Am
section
variable {H : Type} {enc : TypeId × Value → H} {P : Program} {w : World} {base : Nat} {spare : Nat → Bool} {held : Bool}
theorem lits_VHs {k : IntKind} {ι : Nat → Option (Nat × Nat)} {imm : Nat → Prop} {w' : World} : ∀ (l : List Value) (A : List Int), l.length = A.length → (∀ i, i < A.length → l[i]? = some (.int k (A.getD i 0))) → VHs ι imm w' (A.map fun z => .pv (.lit (.int k z))) l := by
  intro l
  induction l with
  | nil => intro A hA _; cases A with
    | nil => rfl
    | cons a A => simp at hA
  | cons v l ih => intro A hA hA2; cases A with
    | nil => simp at hA
    | cons a A =>
      have h0 := hA2 0 (by simp)
      simp only [List.getElem?_cons_zero, List.getD_cons_zero, Option.some.injEq] at h0
      subst h0
      exact ⟨_, l, rfl, ⟨rfl, rfl⟩, ih A (by simpa using hA) fun i hi => by simpa using hA2 (i + 1) (by simpa using hi)⟩
theorem open_arr33 {r : Reach} {b0 : Nat} {t e e2 : Nat} {k : IntKind} {v : Value} {d : DataW H} {ps : List MemPlace} (ht : P.underlying t = some (.array 3 e)) (he : P.underlying e = some (.array 3 e2)) (he2 : P.underlying e2 = some (.int k)) (hc2 : P.cellsOf e2 = 1) (hc : P.cellsOf e = 3) (hct : P.cellsOf t = 9) (hval : Value.okWide P w r b0 t v) (hd : DataW.Trod enc P w base spare held t v d ps) :
    ∃ f : Nat → Nat → Int, ∀ ι imm w', VH ι imm w' (.agg (rows3 fun p q => .pv (.lit (.int k (f p q))))) v := by
  simp only [Value.okWide, ht] at hval
  obtain ⟨cs, rfl, hsz, _⟩ := hval
  obtain ⟨fuel, hf⟩ := hd
  obtain ⟨xs, m, rfl, _, hl, hlx, hx⟩ := DataW.trod_array ht hf
  simp only [Value.cells] at hl hx
  have hn : cs.toList.length = 9 := by rw [hl, hct]
  have key : ∀ i j, i < 3 → j < 3 → ∃ z, cs.toList[i * 3 + j]? = some (.int k z) := fun i j hi hj => by
    have h1 := hx i hi
    obtain ⟨y, hy⟩ : ∃ y, xs[i]? = some y := ⟨xs[i], by simp [hlx, hi]⟩
    rw [hy] at h1
    obtain ⟨ys, m2, _, _, _, hly, hx2⟩ := DataW.trod_array he h1
    have h2 := hx2 j hj
    obtain ⟨y2, hy2⟩ : ∃ y, ys[j]? = some y := ⟨ys[j], by simp [hly, hj]⟩
    rw [hy2] at h2
    obtain ⟨z, h3, _, _⟩ := DataW.trod_int he2 h2
    rw [hc2, hc, Nat.mul_one] at h3
    refine ⟨z, ?_⟩
    have h5 := congrArg (fun l => l[0]?) h3
    simp only [List.getElem?_cons_zero] at h5
    rw [List.getElem?_take_of_lt (by omega), List.getElem?_drop, List.getElem?_take_of_lt (by omega), List.getElem?_drop] at h5
    simpa using h5
  refine ⟨fun i j => match cs.toList[i * 3 + j]? with | some (.int _ z) => z | _ => 0, fun ι imm w' => ⟨cs.toList, by simp, ?_⟩⟩
  generalize hf : (fun i j : Nat => match cs.toList[i * 3 + j]? with | some (.int _ z) => z | _ => 0) = f
  have hval : ∀ i j, i < 3 → j < 3 → cs.toList[i * 3 + j]? = some (.int k (f i j)) := fun i j hi hj => by
    obtain ⟨z, hz⟩ := key i j hi hj
    have : f i j = z := by rw [← hf]; simp only [hz]
    rw [hz, this]
  exact lits_VHs cs.toList (rows3 f) (by rw [hn]; rfl) fun n hn9 => by
    have hn9 : n < 9 := hn9
    have h := hval (n / 3) (n % 3) (by omega) (by omega)
    rw [show n / 3 * 3 + n % 3 = n by omega] at h
    rw [h]
    congr 2
    rcases (by omega : n = 0 ∨ n = 1 ∨ n = 2 ∨ n = 3 ∨ n = 4 ∨ n = 5 ∨ n = 6 ∨ n = 7 ∨ n = 8) with rfl | rfl | rfl | rfl | rfl | rfl | rfl | rfl | rfl <;> rfl
end
end Go.Am
/- What all rows of this seat need: no knob is turned, the types are laid out. No conditions. -/
namespace Go.Proofs.Ytihccnkegkkikaa
open Go.Am
theorem own : ownKnob Try.prog.godebug = none := by kernel_rfl
theorem laidOut : laidOutB Try.prog = true := by kernel_rfl
end Go.Proofs.Ytihccnkegkkikaa
