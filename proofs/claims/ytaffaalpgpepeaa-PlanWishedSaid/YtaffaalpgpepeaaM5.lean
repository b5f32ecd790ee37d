import Derived.Test.YtaffaalpgpepeaaM4
import Derived.Test.YtaffaalpgpepeaaM3
import Derived.Test.YtaffaalpgpepeaaM2
/- Behind each command less is left to do. No conditions. -/
namespace Go.Proofs.Ytaffaalpgpepeaa
open Go.Am
theorem mem_freshen {c : Chain} {a : Int} (hc : check c = 0) {x : Member} (hx : x ∈ (readyAll c a).members.D) : x.fresh = true → mHas a x.node = false := by
  rw [(readyAll_eq a hc).2] at hx
  obtain ⟨y, _, rfl⟩ := List.mem_map.1 hx
  show (y.fresh && !mHas a y.node) = true → mHas a y.node = false
  simp
theorem dropWhile_mem {α : Type} (p : α → Bool) : ∀ (l : List α) (x : α), x ∈ l → x ∈ l.dropWhile p ∨ p x = true
  | [], _, h => by cases h
  | y :: l, x, h => by
    cases hp : p y
    · rw [List.dropWhile_cons, hp]; exact .inl h
    · rw [List.dropWhile_cons, hp]
      cases h with
      | head => exact .inr hp
      | tail _ h => exact dropWhile_mem p l x h
/-- One that does not live goes: less is left to do, if all fresh ones do not live. -/
theorem planM_drop {a : Int} {l : List Member} (hf : ∀ x ∈ l, x.fresh = true → mHas a x.node = false) {x : Member} (hx : x ∈ l) (hd : mHas a x.node = false) : planM a ((l.filter fun y => y.node != x.node).dropWhile (·.fresh)) < planM a l := by
  have hsub : ((l.filter fun y => y.node != x.node).dropWhile (·.fresh)).Sublist (l.filter fun y => y.node != x.node) := List.dropWhile_sublist _
  have h1 : deadN a (((l.filter fun y => y.node != x.node).dropWhile (·.fresh)).map (·.node)) < deadN a (l.map (·.node)) := by
    unfold deadN
    rw [List.countP_map, List.countP_map]
    refine Nat.lt_of_le_of_lt hsub.countP_le ?_
    rw [List.countP_filter]
    refine count_lt _ _ _ (fun y _ h => ?_) ⟨x, hx, ?_, ?_⟩
    · rw [Bool.and_eq_true] at h; exact h.1
    · show (!mHas a x.node) = true; rw [hd]; rfl
    · simp
  have h2 : liveN a (((l.filter fun y => y.node != x.node).dropWhile (·.fresh)).map (·.node)) ≤ liveN a (l.map (·.node)) := by
    unfold liveN
    refine List.countP_mono_left fun n _ h => ?_
    rw [Bool.and_eq_true] at h ⊢
    refine ⟨h.1, List.all_eq_true.2 fun m hm => ?_⟩
    obtain ⟨y, hy, rfl⟩ := List.mem_map.1 hm
    cases hq : (y.node != Int.ofNat n)
    case true => rfl
    have hn : y.node = Int.ofNat n := by simpa using hq
    have hlive : mHas a y.node = true := by rw [hn]; exact h.1
    have hmem : y ∈ l.filter fun y => y.node != x.node := List.mem_filter.2 ⟨hy, by
      have : y.node ≠ x.node := fun e => by rw [e, hd] at hlive; cases hlive
      simpa using this⟩
    rcases dropWhile_mem (·.fresh) _ y hmem with hin | hfr
    · have := List.all_eq_true.1 h.2 y.node (List.mem_map_of_mem hin)
      rw [hq] at this; cases this
    · rw [hf y hy hfr] at hlive; cases hlive
  unfold planM; omega
/-- One that lives comes: less is left to do. -/
theorem planM_put {a : Int} {l : List Member} {n : Nat} {s : Int} (hn : n < 6) (ha : mHas a (n : Int) = true) (hx : ∀ x ∈ l, x.node ≠ (n : Int)) : planM a (putIn l n s) < planM a l := by
  have hm : ∀ m : Int, m ∈ (putIn l n s).map (·.node) ↔ m = (n : Int) ∨ m ∈ l.map (·.node) := fun m => by
    unfold putIn insertL
    rw [List.map_append, List.map_append, List.mem_append, List.mem_append]
    have hl : m ∈ l.map (·.node) ↔ m ∈ (l.take (l.takeWhile fun x => decide (x.site ≤ s)).length).map (·.node) ∨ m ∈ (l.drop (l.takeWhile fun x => decide (x.site ≤ s)).length).map (·.node) := by
      rw [← List.mem_append, ← List.map_append, List.take_append_drop]
    rw [hl]
    simp only [List.map_cons, List.map_nil, List.mem_singleton]
    constructor
    · rintro ((h | h) | h)
      · exact .inr (.inl h)
      · exact .inl h
      · exact .inr (.inr h)
    · rintro (h | h | h)
      · exact .inl (.inr h)
      · exact .inl (.inl h)
      · exact .inr h
  have h1 : deadN a ((putIn l n s).map (·.node)) = deadN a (l.map (·.node)) := by
    unfold deadN putIn insertL
    have e : deadN a (l.map (·.node)) = deadN a ((l.take (l.takeWhile fun x => decide (x.site ≤ s)).length ++ l.drop (l.takeWhile fun x => decide (x.site ≤ s)).length).map (·.node)) := by rw [List.take_append_drop]
    unfold deadN at e
    rw [e, List.map_append, List.map_append, List.map_append, List.countP_append, List.countP_append, List.countP_append]
    simp [ha]
  have h2 : liveN a ((putIn l n s).map (·.node)) < liveN a (l.map (·.node)) := by
    unfold liveN
    refine count_lt _ _ _ (fun k _ h => ?_) ⟨n, List.mem_range.2 hn, ?_, ?_⟩
    · rw [Bool.and_eq_true] at h ⊢
      exact ⟨h.1, List.all_eq_true.2 fun m hmem => List.all_eq_true.1 h.2 m ((hm m).2 (.inr hmem))⟩
    · rw [Bool.and_eq_true]
      refine ⟨ha, List.all_eq_true.2 fun m hmem => ?_⟩
      obtain ⟨y, hy, rfl⟩ := List.mem_map.1 hmem
      simpa using hx y hy
    · rw [Bool.and_eq_false_iff]
      refine .inr (List.all_eq_false.2 ⟨(n : Int), (hm _).2 (.inl rfl), ?_⟩)
      simp
  unfold planM; omega
theorem join_none {c : Chain} {m : Member} (hc : check c = 0) (h : (join c m).2 ≠ 0) : (join c m).1 = ⟨0, ⟨true, []⟩⟩ := by
  obtain ⟨n, s, f⟩ := m
  unfold join at h ⊢
  rw [hc, show ((0 : Int) != 0) = false from rfl, cond_false] at h ⊢
  cases h1 : member ⟨n, s, true⟩
  case false => simp only [Bool.not_false, cond_true]
  simp only [h1, Bool.not_true, cond_false] at h ⊢
  cases h2 : decide (placeIn c n ≥ 0)
  case true => rfl
  rw [h2, cond_false] at h
  rw [cond_false]
  cases h3 : decide (c.epoch ≥ 1099511627776)
  case true => rfl
  rw [h3, cond_false] at h
  rw [cond_false]
  have hl := check_le6 hc
  have e := join_l0_eq c ⟨n, s, f⟩ (by omega) (c.members.D.length - (0 : Int).toNat + 1) 0 (Nat.zero_le _) (by simp)
  rw [show ((0 : Nat) : Int) = 0 from rfl, List.drop_zero, Nat.zero_add] at e
  rw [e] at h ⊢
  cases h4 : (c.members.D.takeWhile fun x => decide (x.site ≤ s)).length == 0
  case true => simp only [cond_true]
  simp only [h4, cond_false] at h
  exact absurd rfl h
theorem nextP_some {c : Chain} {a : Int} {h w : Nat → Int} {nx : Command × Bool × Int} (ha : 0 ≤ a ∧ a < 18446744073709551616) (hx : nextP c a h w = nx) (h2 : nx.2.1 = true) : check c = 0 ∧ planCheck h w = 0 ∧ nx.2.2 = 0 ∧ ((∃ x ∈ c.members.D, mHas a x.node = false ∧ nx.1 = ⟨1, x.node, 0, c.epoch⟩ ∧ (drop c x.node).2 = 0) ∨ (whole c = nodes c ∧ ∃ n s : Nat, n < 6 ∧ s < 3 ∧ mHas a (n : Int) = true ∧ h n = (s : Int) ∧ (∀ x ∈ c.members.D, x.node ≠ (n : Int)) ∧ nx.1 = ⟨2, n, s, c.epoch⟩ ∧ (join c ⟨n, s, false⟩).2 = 0)) := by
  rcases nextP_cases hx with ⟨_, e⟩ | ⟨_, _, e⟩ | ⟨h1, h3, _, h4, r⟩ | ⟨_, _, _, _, e⟩ | ⟨h1, h3, _, h4, e⟩
  · rw [e] at h2; cases h2
  · rw [e] at h2; cases h2
  · exact ⟨h1, h3, h4, .inl r⟩
  · rw [e] at h2; cases h2
  · have hk : (lackOf ⟨a, h, w⟩ c).2 = true := by rw [e] at h2; exact h2
    have e1 : nx.1 = (lackOf ⟨a, h, w⟩ c).1 := by rw [e]
    have e2 : nx.2.2 = 0 := by rw [e]
    unfold lackOf at hk e1
    obtain ⟨n, s, r1, r2, r3, r4, r5, r6, r7⟩ := lackOf_l0_some (f := ⟨a, h, w⟩) (c := c) ha 3 0 rfl hk
    exact ⟨h1, h3, e2, .inr ⟨h4, n, s, r1, r2, r3, r4, r5, by rw [e1]; exact r6, r7⟩⟩
theorem step_drop {c : Chain} {a : Int} {h w : Nat → Int} {nx : Command × Bool × Int} (ha : 0 ≤ a ∧ a < 18446744073709551616) (hc : check c = 0) (hx : nextP (readyAll c a) a h w = nx) (h2 : nx.2.1 = true) (h3 : nx.1.kind = 1) : planM a (drop (readyAll c a) nx.1.node).1.members.D < planM a c.members.D := by
  have hr := readyAll_check a hc
  rw [← planM_ready a hc]
  obtain ⟨_, _, _, ⟨x, hm, r1, r2, r3⟩ | ⟨_, n, s, _, _, _, _, _, e, _⟩⟩ := nextP_some ha hx h2
  · rw [r2, (drop_some hr r3).1]
    exact planM_drop (fun y hy => mem_freshen hc hy) hm r1
  · rw [e] at h3; exact absurd h3 (by show ¬ ((2 : Int) = 1); decide)
theorem step_join {c : Chain} {a : Int} {h w : Nat → Int} {nx : Command × Bool × Int} (ha : 0 ≤ a ∧ a < 18446744073709551616) (hc : check c = 0) (hx : nextP (readyAll c a) a h w = nx) (h2 : nx.2.1 = true) (h3 : nx.1.kind ≠ 1) : planM a (join (readyAll c a) ⟨nx.1.node, nx.1.site, false⟩).1.members.D < planM a c.members.D := by
  have hr := readyAll_check a hc
  rw [← planM_ready a hc]
  obtain ⟨_, _, _, ⟨x, _, _, e, _⟩ | ⟨_, n, s, hn, _, hh, _, hx, e, r⟩⟩ := nextP_some ha hx h2
  · rw [e] at h3; exact absurd rfl h3
  · rw [e]
    show planM a (join (readyAll c a) ⟨(n : Int), (s : Int), false⟩).1.members.D < _
    rw [(join_some hr r).1]
    exact planM_put hn hh hx
theorem step_bad {c : Chain} {a : Int} {h w : Nat → Int} {nx : Command × Bool × Int} (ha : 0 ≤ a ∧ a < 18446744073709551616) (hc : check c ≠ 0) (hx : nextP c a h w = nx) (h2 : nx.2.1 = true) : False :=
  hc (nextP_some ha hx h2).1
theorem join_len (c : Chain) (m : Member) : (join c m).1.members.D.length ≤ c.members.D.length + 1 := by
  obtain ⟨n, s, f⟩ := m
  by_cases hc : check c = 0
  · by_cases h : (join c ⟨n, s, f⟩).2 = 0
    · rw [(join_some hc h).1]
      show (putIn c.members.D n s).length ≤ _
      rw [putIn_len]; omega
    · rw [join_none hc h]; exact Nat.zero_le _
  · rw [join_bad hc]; exact Nat.zero_le _
theorem readyAll_l0_le (a : Int) (m : Nat) : ∀ (xs : List Member) (i : Nat) (e : Int) (s : Sl Member), s.D.length ≤ m → (readyAll_l0 a xs i e s).members.D.length ≤ m
  | [], _, _, _, hs => hs
  | x :: xs, i, e, s, hs => by
    have h1 := readyAll_l0_le a m xs (i + 1) e s hs
    have h2 := readyAll_l0_le a m xs (i + 1) (ready ⟨e, s⟩ x.node).1.epoch (ready ⟨e, s⟩ x.node).1.members (Nat.le_trans (ready_len ⟨e, s⟩ x.node) hs)
    unfold readyAll_l0
    cases (ready ⟨e, s⟩ x.node).2 == 0
    · exact h1
    · cases mHas a x.node
      · exact h1
      · exact h2
theorem readyAll_le {c : Chain} {m : Nat} (a : Int) (h : c.members.D.length ≤ m) : (readyAll c a).members.D.length ≤ m := readyAll_l0_le a m _ _ _ _ h
theorem stepA {c ra : Chain} {a : Int} {h w : Nat → Int} {nx : Command × Bool × Int} {dr : Chain × Int} (ha : 0 ≤ a ∧ a < 18446744073709551616) (hd : dr = drop ra nx.1.node) (hx : nx = nextP ra a h w) (hra : ra = readyAll c a) (hc : (check c == 0) = true) (h2 : (!nx.2.1) = false) (h3 : (nx.1.kind == 1) = true) : planM a dr.1.members.D < planM a c.members.D ∧ (dr.1.members.nil = true → dr.1.members.D = []) ∧ dr.1.members.D.length ≤ 1000000 := by
  have hc0 : check c = 0 := by simpa using hc
  subst hd hra
  refine ⟨step_drop ha hc0 hx.symm (by simpa using h2) (by simpa using h3), drop_hn _ _, ?_⟩
  have h4 := drop_len (readyAll c a) nx.1.node
  have h5 := check_le6 (readyAll_check a hc0)
  omega
theorem stepB {c ra : Chain} {a : Int} {h w : Nat → Int} {nx : Command × Bool × Int} {dr : Chain × Int} (ha : 0 ≤ a ∧ a < 18446744073709551616) (hd : dr = join ra ⟨nx.1.node, nx.1.site, false⟩) (hx : nx = nextP ra a h w) (hra : ra = readyAll c a) (hc : (check c == 0) = true) (h2 : (!nx.2.1) = false) (h3 : (nx.1.kind == 1) = false) : planM a dr.1.members.D < planM a c.members.D ∧ (dr.1.members.nil = true → dr.1.members.D = []) ∧ dr.1.members.D.length ≤ 1000000 := by
  have hc0 : check c = 0 := by simpa using hc
  subst hd hra
  refine ⟨step_join ha hc0 hx.symm (by simpa using h2) (by simpa using h3), join_hn _ _, ?_⟩
  have h4 := join_len (readyAll c a) ⟨nx.1.node, nx.1.site, false⟩
  have h5 := check_le6 (readyAll_check a hc0)
  omega
theorem stepC {c : Chain} {a : Int} {h w : Nat → Int} {nx : Command × Bool × Int} (ha : 0 ≤ a ∧ a < 18446744073709551616) (hx : nx = nextP c a h w) (hc : (check c == 0) = false) (h2 : (!nx.2.1) = false) : False :=
  step_bad ha (by simpa using hc) hx.symm (by simpa using h2)
theorem maskOf_range (l : Sl Int) : 0 ≤ maskOf l ∧ maskOf l < 18446744073709551616 := by
  have key : ∀ (l : List Int) (i S : Nat), S < 18446744073709551616 → ∃ U : Nat, U < 18446744073709551616 ∧ maskOf_l0 l i (S : Int) = (U : Int) := by
    intro l
    induction l with
    | nil => intro i S h; exact ⟨S, h, rfl⟩
    | cons x l ih =>
      intro i S h
      show ∃ U : Nat, _ ∧ maskOf_l0 l (i + 1) (mWith (S : Int) x) = _
      rw [with_cast h]
      exact ih _ _ (with_cast_lt h x)
  obtain ⟨U, h1, h2⟩ := key l.D 0 0 (by decide)
  have h3 : maskOf l = (U : Int) := h2
  omega
end Go.Proofs.Ytaffaalpgpepeaa
/- All commands. No conditions. -/
namespace Go.Proofs.Ytaffaalpgpepeaa
open Go.Am
def allP_l0 (alive : Int) (h : (Nat → Int)) (w : (Nat → Int)) : Nat → (List Command) → Int → (Sl Member) → (Sl Command) × Chain × Int
  | 0, _, _, _ => default
  | nn + 1, l, vc, vc1 => (bif ((check (Chain.mk vc vc1)) == 0) then (bif ((nextP (readyAll (Chain.mk vc vc1) alive) alive h w).2.2 != 0) then ((Sl.mk true []), (Chain.mk 0 (Sl.mk true [])), (nextP (readyAll (Chain.mk vc vc1) alive) alive h w).2.2) else (bif (!(nextP (readyAll (Chain.mk vc vc1) alive) alive h w).2.1) then ((Sl.mk l.isEmpty l), (readyAll (Chain.mk vc vc1) alive), 0) else (bif (decide ((readyAll (Chain.mk vc vc1) alive).epoch ≥ 1099511627776)) then ((Sl.mk l.isEmpty l), (readyAll (Chain.mk vc vc1) alive), 0) else (bif ((nextP (readyAll (Chain.mk vc vc1) alive) alive h w).1.kind == 1) then (bif ((drop (readyAll (Chain.mk vc vc1) alive) (nextP (readyAll (Chain.mk vc vc1) alive) alive h w).1.node).2 != 0) then ((Sl.mk l.isEmpty l), (readyAll (Chain.mk vc vc1) alive), 0) else (bif ((cmdCheck (nextP (readyAll (Chain.mk vc vc1) alive) alive h w).1) != 0) then ((Sl.mk l.isEmpty l), (readyAll (Chain.mk vc vc1) alive), 0) else allP_l0 alive h w nn (l ++ [(nextP (readyAll (Chain.mk vc vc1) alive) alive h w).1]) (drop (readyAll (Chain.mk vc vc1) alive) (nextP (readyAll (Chain.mk vc vc1) alive) alive h w).1.node).1.epoch (drop (readyAll (Chain.mk vc vc1) alive) (nextP (readyAll (Chain.mk vc vc1) alive) alive h w).1.node).1.members)) else (bif ((join (readyAll (Chain.mk vc vc1) alive) (Member.mk (nextP (readyAll (Chain.mk vc vc1) alive) alive h w).1.node (nextP (readyAll (Chain.mk vc vc1) alive) alive h w).1.site false)).2 != 0) then ((Sl.mk l.isEmpty l), (readyAll (Chain.mk vc vc1) alive), 0) else (bif ((cmdCheck (nextP (readyAll (Chain.mk vc vc1) alive) alive h w).1) != 0) then ((Sl.mk l.isEmpty l), (readyAll (Chain.mk vc vc1) alive), 0) else allP_l0 alive h w nn (l ++ [(nextP (readyAll (Chain.mk vc vc1) alive) alive h w).1]) (join (readyAll (Chain.mk vc vc1) alive) (Member.mk (nextP (readyAll (Chain.mk vc vc1) alive) alive h w).1.node (nextP (readyAll (Chain.mk vc vc1) alive) alive h w).1.site false)).1.epoch (join (readyAll (Chain.mk vc vc1) alive) (Member.mk (nextP (readyAll (Chain.mk vc vc1) alive) alive h w).1.node (nextP (readyAll (Chain.mk vc vc1) alive) alive h w).1.site false)).1.members)))))) else (bif ((nextP (Chain.mk vc vc1) alive h w).2.2 != 0) then ((Sl.mk true []), (Chain.mk 0 (Sl.mk true [])), (nextP (Chain.mk vc vc1) alive h w).2.2) else (bif (!(nextP (Chain.mk vc vc1) alive h w).2.1) then ((Sl.mk l.isEmpty l), (Chain.mk vc vc1), 0) else (bif (decide (vc ≥ 1099511627776)) then ((Sl.mk l.isEmpty l), (Chain.mk vc vc1), 0) else (bif ((nextP (Chain.mk vc vc1) alive h w).1.kind == 1) then (bif ((drop (Chain.mk vc vc1) (nextP (Chain.mk vc vc1) alive h w).1.node).2 != 0) then ((Sl.mk l.isEmpty l), (Chain.mk vc vc1), 0) else (bif ((cmdCheck (nextP (Chain.mk vc vc1) alive h w).1) != 0) then ((Sl.mk l.isEmpty l), (Chain.mk vc vc1), 0) else allP_l0 alive h w nn (l ++ [(nextP (Chain.mk vc vc1) alive h w).1]) (drop (Chain.mk vc vc1) (nextP (Chain.mk vc vc1) alive h w).1.node).1.epoch (drop (Chain.mk vc vc1) (nextP (Chain.mk vc vc1) alive h w).1.node).1.members)) else (bif ((join (Chain.mk vc vc1) (Member.mk (nextP (Chain.mk vc vc1) alive h w).1.node (nextP (Chain.mk vc vc1) alive h w).1.site false)).2 != 0) then ((Sl.mk l.isEmpty l), (Chain.mk vc vc1), 0) else (bif ((cmdCheck (nextP (Chain.mk vc vc1) alive h w).1) != 0) then ((Sl.mk l.isEmpty l), (Chain.mk vc vc1), 0) else allP_l0 alive h w nn (l ++ [(nextP (Chain.mk vc vc1) alive h w).1]) (join (Chain.mk vc vc1) (Member.mk (nextP (Chain.mk vc vc1) alive h w).1.node (nextP (Chain.mk vc vc1) alive h w).1.site false)).1.epoch (join (Chain.mk vc vc1) (Member.mk (nextP (Chain.mk vc vc1) alive h w).1.node (nextP (Chain.mk vc vc1) alive h w).1.site false)).1.members)))))))
def allP (c : Chain) (alive : Int) (h : (Nat → Int)) (w : (Nat → Int)) : (Sl Command) × Chain × Int :=
  allP_l0 alive h w ((planM alive c.members.D) + 1) [] c.epoch c.members
theorem allP_calls (c : Chain) (alive : Int) (h : (Nat → Int)) (w : (Nat → Int)) (hn : c.members.nil = true → c.members.D = []) (ha : 0 ≤ alive ∧ alive < 18446744073709551616) (hl1 : c.members.D.length ≤ 1000000) : PCalls Try.prog 13 [.agg [.pv (.lit (.int .i64 c.epoch)), sS (some c.members.nil) eMember c.members.D], .pv (.lit (.int .u64 alive)), .agg [.pv (.lit (.int .i64 (h 0))), .pv (.lit (.int .i64 (h 1))), .pv (.lit (.int .i64 (h 2))), .pv (.lit (.int .i64 (h 3))), .pv (.lit (.int .i64 (h 4))), .pv (.lit (.int .i64 (h 5)))], .agg [.pv (.lit (.int .i64 (w 0))), .pv (.lit (.int .i64 (w 1))), .pv (.lit (.int .i64 (w 2)))]] (.tup [sS (some (allP c alive h w).1.nil) eCommand ((allP c alive h w).1.D), .agg [.pv (.lit (.int .i64 ((allP c alive h w).2.1.epoch))), sS (some (allP c alive h w).2.1.members.nil) eMember ((allP c alive h w).2.1.members.D)], .pv (.lit (.int .i64 ((allP c alive h w).2.2)))]) := by
 generalize hR : allP c alive h w = R
 refine PCalls.of_body tabOk Try.func13 rfl rfl rfl rfl rfl mixed fun E hP C hI => ?_
 refine Awp.consP C ?_
 refine rvc_un (rexec_prim C (δ := { v := .ptr 4 0, new := [(4, .cells [.pv (.lit (.int .i64 c.epoch)), sS (some c.members.nil) eMember c.members.D])] }) rfl rfl rfl rfl trivial rfl ?_)
 refine rvc_un (rexec_prim C (δ := { v := .ptr 6 0, new := [(6, .cells [.pv (.lit (.int .i64 (h 0))), .pv (.lit (.int .i64 (h 1))), .pv (.lit (.int .i64 (h 2))), .pv (.lit (.int .i64 (h 3))), .pv (.lit (.int .i64 (h 4))), .pv (.lit (.int .i64 (h 5)))])] }) rfl rfl rfl rfl trivial rfl ?_)
 refine rvc_un (rexec_prim C (δ := { v := .ptr 7 0, new := [(7, .cells [.pv (.lit (.int .i64 (w 0))), .pv (.lit (.int .i64 (w 1))), .pv (.lit (.int .i64 (w 2)))])] }) rfl rfl rfl rfl trivial rfl ?_)
 refine rvP C (sS (some true) eCommand []) ?_
 refine rvc_un (rexec_prim C (δ := { v := .ptr 9 0, new := [(9, .cells [.pv (.lit (.int .i64 0)), sS (some true) eMember []])] }) rfl rfl rfl rfl trivial rfl ?_)
 refine rvP C (.pv (.lit (.int .i64 0))) ?_
 refine rvc_nil ?_
 refine Awp.consP C ?_
 refine rvP C (sS (some true) eCommand []) ?_
 refine rvc_nil ?_
 refine Awp.block ?_
 refine Awp.forM (σ := ((List Command)) × Int × ((Sl Member))) (fun v => [(1, .pv (.lit (.int .u64 alive))), (4, .ptr 4 0), (6, .ptr 6 0), (7, .ptr 7 0), (9, .ptr 9 0), (11, grow 900 eCommand v.1)]) (fun v => (growH 900 eCommand v.1 ++ ([(4, .cells [.pv (.lit (.int .i64 v.2.1)), sS (some v.2.2.nil) eMember v.2.2.D]), (6, .cells [.pv (.lit (.int .i64 (h 0))), .pv (.lit (.int .i64 (h 1))), .pv (.lit (.int .i64 (h 2))), .pv (.lit (.int .i64 (h 3))), .pv (.lit (.int .i64 (h 4))), .pv (.lit (.int .i64 (h 5)))]), (7, .cells [.pv (.lit (.int .i64 (w 0))), .pv (.lit (.int .i64 (w 1))), .pv (.lit (.int .i64 (w 2)))]), (9, .cells [.pv (.lit (.int .i64 0)), sS (some true) eMember []])]))) [4, 6, 7, 9, 900] (fun n v => (planM alive v.2.2.D) ≤ n ∧ allP_l0 alive h w (n + 1) v.1 v.2.1 v.2.2 = R ∧ ((v.2.2.nil = true → v.2.2.D = []) ∧ v.2.2.D.length ≤ 1000000 ∧ v.1.length + planM alive v.2.2.D ≤ 2000000)) ((planM alive c.members.D)) ([], c.epoch, c.members) ?_ ?_ (fun n_ v h1 => ?_)
 · exact ⟨Nat.le_refl _, hR, ⟨hn, hl1, (by have := planM_le alive c.members.D; show 0 + planM alive c.members.D ≤ 2000000; omega)⟩⟩
 · exact ⟨fun b => b, WeakerR.ofL (Ks := [4, 6, 7, 9, 900]) hI ⟨⟨rfl, rfl⟩, ⟨rfl, rfl⟩, ⟨rfl, rfl⟩, ⟨rfl, rfl⟩, ⟨rfl, rfl⟩, ⟨rfl, rfl⟩, trivial⟩ (okH_grow (fun hne => absurd rfl hne) rfl rfl (okH_cons rfl rfl rfl rfl (okH_cons rfl rfl rfl rfl (okH_cons rfl rfl rfl rfl (okH_cons rfl rfl rfl rfl (okH_nil)))))) rfl⟩
 obtain ⟨l, vc, vc1⟩ := v
 obtain ⟨hm_, hR, ⟨hVn, hVl, hVm⟩⟩ := h1
 replace hm_ : (planM alive vc1.D) ≤ n_ := hm_
 replace hVn : vc1.nil = true → vc1.D = [] := hVn
 replace hVl : vc1.D.length ≤ 1000000 := hVl
 replace hVm : l.length + planM alive vc1.D ≤ 2000000 := hVm
 by_cases h3 : l = []
 ·
  refine Awp.wordsR [(1, .pv (.lit (.int .u64 alive))), (4, .ptr 4 0), (6, .ptr 6 0), (7, .ptr 7 0), (9, .ptr 9 0), (11, sS (some l.isEmpty) eCommand l)] [(4, .cells [.pv (.lit (.int .i64 vc)), sS (some vc1.nil) eMember vc1.D]), (6, .cells [.pv (.lit (.int .i64 (h 0))), .pv (.lit (.int .i64 (h 1))), .pv (.lit (.int .i64 (h 2))), .pv (.lit (.int .i64 (h 3))), .pv (.lit (.int .i64 (h 4))), .pv (.lit (.int .i64 (h 5)))]), (7, .cells [.pv (.lit (.int .i64 (w 0))), .pv (.lit (.int .i64 (w 1))), .pv (.lit (.int .i64 (w 2)))]), (9, .cells [.pv (.lit (.int .i64 0)), sS (some true) eMember []])] [4, 6, 7, 9] (WeakerR.ofL (Ks := [4, 6, 7, 9]) hI ⟨⟨rfl, rfl⟩, ⟨rfl, rfl⟩, ⟨rfl, rfl⟩, ⟨rfl, rfl⟩, ⟨rfl, rfl⟩, ⟨(by exact grow_at_nil (b := 900) (e := eCommand) (l := l) rfl h3), rfl⟩, trivial⟩ (okH_cons (look_nil h3 rfl) rfl rfl rfl (okH_cons (look_nil h3 rfl) rfl rfl rfl (okH_cons (look_nil h3 rfl) rfl rfl rfl (okH_cons (look_nil h3 rfl) rfl rfl rfl (okH_nil))))) rfl) ?_
  refine Awp.block ?_
  refine Awp.seq ?_
  refine Awp.consP C ?_
  refine rvP C (.agg [.pv (.lit (.int .i64 vc)), sS (some vc1.nil) eMember vc1.D]) ?_
  refine rvc_un (rexec_call hP C rfl rfl rfl (check_calls (Chain.mk vc vc1) (by show vc1.D.length ≤ 9223372036854775807; omega)) ?_)
  refine rvP C (.pv (.lit (.bool ((check (Chain.mk vc vc1)) == 0)))) ?_
  refine rvc_nil ?_
  refine Awp.cond (b := ((check (Chain.mk vc vc1)) == 0)) rfl (fun h4 => ?_) (fun h4 => ?_)
  ·
   replace hR := of_true h4 hR
   refine Awp.regionP C ?_
   refine rvP C (.agg [.pv (.lit (.int .i64 vc)), sS (some vc1.nil) eMember vc1.D]) ?_
   refine rvP C (.pv (.lit (.int .u64 alive))) ?_
   obtain ⟨ra, hq_ra⟩ : ∃ q_, q_ = (readyAll (Chain.mk vc vc1) alive) := ⟨_, rfl⟩
   have hc_ra := (readyAll_calls (Chain.mk vc vc1) alive hVn (by show vc1.D.length ≤ 1000000; have := check_len (c := (Chain.mk vc vc1)); have := check_le6 (c := (Chain.mk vc vc1)); have := beq_iff_eq.1 h4; omega))
   first | rw [← hq_ra] at hR hc_ra | (unfold allP at hR; rw [← hq_ra] at hR hc_ra) | (unfold allP_l0 at hR; rw [← hq_ra] at hR hc_ra)
   have hf0_ra := readyAll_hn (Chain.mk vc vc1) alive hVn
   rw [← hq_ra] at hf0_ra
   have hf1_ra := readyAll_le (m := 1000000) (c := (Chain.mk vc vc1)) alive hVl
   rw [← hq_ra] at hf1_ra
   refine rvc_un (rexec_call hP C rfl rfl rfl hc_ra ?_)
   refine rvc_un (rexec_prim C (δ := { v := .undef, wr := [(4, some (.cells [.pv (.lit (.int .i64 ra.epoch)), sS (some ra.members.nil) eMember ra.members.D]))] }) rfl rfl rfl rfl trivial rfl ?_)
   refine rvc_nil ?_
   refine Awp.consP C ?_
   refine rvP C (.agg [.pv (.lit (.int .i64 ra.epoch)), sS (some ra.members.nil) eMember ra.members.D]) ?_
   refine rvP C (.pv (.lit (.int .u64 alive))) ?_
   refine rvP C (.agg [.pv (.lit (.int .i64 (h 0))), .pv (.lit (.int .i64 (h 1))), .pv (.lit (.int .i64 (h 2))), .pv (.lit (.int .i64 (h 3))), .pv (.lit (.int .i64 (h 4))), .pv (.lit (.int .i64 (h 5)))]) ?_
   refine rvP C (.agg [.pv (.lit (.int .i64 (w 0))), .pv (.lit (.int .i64 (w 1))), .pv (.lit (.int .i64 (w 2)))]) ?_
   obtain ⟨nx, hq_nx⟩ : ∃ q_, q_ = (nextP ra alive h w) := ⟨_, rfl⟩
   have hc_nx := (nextP_calls ra alive h w (by assumption) (by show ra.members.D.length ≤ 1000000; have := check_len (c := (Chain.mk vc vc1)); have := check_le6 (c := (Chain.mk vc vc1)); have := beq_iff_eq.1 h4; omega))
   first | rw [← hq_nx] at hR hc_nx | (unfold allP at hR; rw [← hq_nx] at hR hc_nx) | (unfold allP_l0 at hR; rw [← hq_nx] at hR hc_nx)
   refine rvc_un (rexec_call hP C rfl rfl rfl hc_nx ?_)
   refine rvP C (.tup [.agg [.pv (.lit (.int .i64 nx.1.kind)), .pv (.lit (.int .i64 nx.1.node)), .pv (.lit (.int .i64 nx.1.site)), .pv (.lit (.int .i64 nx.1.epoch))], .pv (.lit (.bool nx.2.1)), .pv (.lit (.int .i64 nx.2.2))]) ?_
   refine rvP C (.agg [.pv (.lit (.int .i64 nx.1.kind)), .pv (.lit (.int .i64 nx.1.node)), .pv (.lit (.int .i64 nx.1.site)), .pv (.lit (.int .i64 nx.1.epoch))]) ?_
   refine rvP C (.pv (.lit (.bool nx.2.1))) ?_
   refine rvP C (.pv (.lit (.int .i64 nx.2.2))) ?_
   refine rvc_un (rexec_prim C (δ := { v := .ptr 12 0, new := [(12, .cells [.pv (.lit (.int .i64 0)), .pv (.lit (.int .i64 0)), .pv (.lit (.int .i64 0)), .pv (.lit (.int .i64 0))])] }) rfl rfl rfl rfl trivial rfl ?_)
   refine rvc_un (rexec_prim C (δ := { v := .undef, wr := [(12, some (.cells [.pv (.lit (.int .i64 nx.1.kind)), .pv (.lit (.int .i64 nx.1.node)), .pv (.lit (.int .i64 nx.1.site)), .pv (.lit (.int .i64 nx.1.epoch))]))] }) rfl rfl rfl rfl trivial rfl ?_)
   refine rvP C (.pv (.lit (.bool nx.2.1))) ?_
   refine rvP C (.pv (.lit (.int .i64 nx.2.2))) ?_
   refine rvc_nil ?_
   refine Awp.seq ?_
   refine Awp.consP C ?_
   refine rvP C (.pv (.lit (.int .i64 nx.2.2))) ?_
   refine rvP C (.pv (.lit (.bool (nx.2.2 != 0)))) ?_
   refine rvc_nil ?_
   refine Awp.cond (b := (nx.2.2 != 0)) rfl (fun h5 => ?_) (fun h5 => ?_)
   ·
    replace hR := of_true h5 hR
    refine Awp.consP C ?_
    refine rvP C (.agg [.pv (.lit (.int .i64 0)), sS (some true) eMember []]) ?_
    refine rvP C (.pv (.lit (.int .i64 nx.2.2))) ?_
    refine rvP C (sS (some true) eCommand []) ?_
    refine rvc_un (rexec_prim C (δ := { v := .undef, wr := [(9, some (.cells [.pv (.lit (.int .i64 0)), sS (some true) eMember []]))] }) rfl rfl rfl rfl trivial rfl ?_)
    refine rvP C (.pv (.lit (.int .i64 nx.2.2))) ?_
    refine rvc_nil ?_
    refine Awp.ret ?_
    subst hR
    exact ⟨.inl rfl, rfl⟩
   ·
    replace hR := of_false h5 hR
    refine Awp.skip ?_
    refine Awp.seq ?_
    refine Awp.consP C ?_
    refine rvP C (.pv (.lit (.bool nx.2.1))) ?_
    refine rvP C (.pv (.lit (.bool (!nx.2.1)))) ?_
    refine rvP C (.pv (.lit (.bool (!nx.2.1)))) ?_
    refine rvc_case 37 (!nx.2.1) rfl (fun h6 => ?_) (fun h6 => ?_)
    ·
     replace hR := of_true h6 hR
     refine rvS ?_
     refine rvS ?_
     refine rvS ?_
     refine rvP C (.pv (.lit (.bool true))) ?_
     refine rvc_nil ?_
     refine Awp.condT (b := true) rfl rfl ?_
     refine Awp.consP C ?_
     refine rvP C (sS (some l.isEmpty) eCommand l) ?_
     refine rvP C (.agg [.pv (.lit (.int .i64 ra.epoch)), sS (some ra.members.nil) eMember ra.members.D]) ?_
     refine rvP C (sS (some l.isEmpty) eCommand l) ?_
     refine rvc_un (rexec_prim C (δ := { v := .undef, wr := [(9, some (.cells [.pv (.lit (.int .i64 ra.epoch)), sS (some ra.members.nil) eMember ra.members.D]))] }) rfl rfl rfl rfl trivial rfl ?_)
     refine rvP C (.pv (.lit (.int .i64 0))) ?_
     refine rvc_nil ?_
     refine Awp.ret ?_
     subst hR
     exact ⟨.inl rfl, rfl⟩
    ·
     replace hR := of_false h6 hR
     refine rvO C (.ptr 4 0) ?_
     refine rvO C (.pv (.lit (.int .i64 ra.epoch))) ?_
     refine rvO C (.pv (.lit (.bool (decide (ra.epoch ≥ 1099511627776))))) ?_
     refine rvP C (.pv (.lit (.bool (decide (ra.epoch ≥ 1099511627776))))) ?_
     refine rvc_nil ?_
     refine Awp.cond (b := (decide (ra.epoch ≥ 1099511627776))) rfl (fun h7 => ?_) (fun h7 => ?_)
     ·
      replace hR := of_true h7 hR
      refine Awp.consP C ?_
      refine rvP C (sS (some l.isEmpty) eCommand l) ?_
      refine rvP C (.agg [.pv (.lit (.int .i64 ra.epoch)), sS (some ra.members.nil) eMember ra.members.D]) ?_
      refine rvP C (sS (some l.isEmpty) eCommand l) ?_
      refine rvc_un (rexec_prim C (δ := { v := .undef, wr := [(9, some (.cells [.pv (.lit (.int .i64 ra.epoch)), sS (some ra.members.nil) eMember ra.members.D]))] }) rfl rfl rfl rfl trivial rfl ?_)
      refine rvP C (.pv (.lit (.int .i64 0))) ?_
      refine rvc_nil ?_
      refine Awp.ret ?_
      subst hR
      exact ⟨.inl rfl, rfl⟩
     ·
      replace hR := of_false h7 hR
      refine Awp.skip ?_
      refine Awp.consP C ?_
      refine rvP C (.agg [.pv (.lit (.int .i64 0)), sS (some true) eMember []]) ?_
      refine rvc_un (rexec_prim C (δ := { v := .ptr 15 0, new := [(15, .cells [.pv (.lit (.int .i64 0)), sS (some true) eMember []])] }) rfl rfl rfl rfl trivial rfl ?_)
      refine rvc_un (rexec_prim C (δ := { v := .undef, wr := [(15, some (.cells [.pv (.lit (.int .i64 0)), sS (some true) eMember []]))] }) rfl rfl rfl rfl trivial rfl ?_)
      refine rvc_nil ?_
      refine Awp.seq ?_
      refine Awp.consP C ?_
      refine rvP C (.ptr 12 0) ?_
      refine rvP C (.pv (.lit (.int .i64 nx.1.kind))) ?_
      refine rvP C (.pv (.lit (.bool (nx.1.kind == 1)))) ?_
      refine rvc_nil ?_
      refine Awp.cond (b := (nx.1.kind == 1)) rfl (fun h8 => ?_) (fun h8 => ?_)
      ·
       replace hR := of_true h8 hR
       refine Awp.regionP C ?_
       refine rvP C (.agg [.pv (.lit (.int .i64 ra.epoch)), sS (some ra.members.nil) eMember ra.members.D]) ?_
       refine rvP C (.ptr 12 1) ?_
       refine rvP C (.pv (.lit (.int .i64 nx.1.node))) ?_
       obtain ⟨dr, hq_dr⟩ : ∃ q_, q_ = (drop ra nx.1.node) := ⟨_, rfl⟩
       have hc_dr := (drop_calls ra nx.1.node (by show ra.members.D.length ≤ 1000000; have := check_len (c := (Chain.mk vc vc1)); have := check_le6 (c := (Chain.mk vc vc1)); have := beq_iff_eq.1 h4; have := eq_of_bne_false h5; have := of_decide_eq_false h7; have := beq_iff_eq.1 h8; omega))
       first | rw [← hq_dr] at hR hc_dr | (unfold allP at hR; rw [← hq_dr] at hR hc_dr) | (unfold allP_l0 at hR; rw [← hq_dr] at hR hc_dr)
       refine rvc_un (rexec_call hP C rfl rfl rfl hc_dr ?_)
       refine rvP C (.tup [.agg [.pv (.lit (.int .i64 dr.1.epoch)), sS (some dr.1.members.nil) eMember dr.1.members.D], .pv (.lit (.int .i64 dr.2))]) ?_
       refine rvP C (.agg [.pv (.lit (.int .i64 dr.1.epoch)), sS (some dr.1.members.nil) eMember dr.1.members.D]) ?_
       refine rvP C (.pv (.lit (.int .i64 dr.2))) ?_
       refine rvc_un (rexec_prim C (δ := { v := .undef, wr := [(15, some (.cells [.pv (.lit (.int .i64 dr.1.epoch)), sS (some dr.1.members.nil) eMember dr.1.members.D]))] }) rfl rfl rfl rfl trivial rfl ?_)
       refine rvP C (.pv (.lit (.int .i64 dr.2))) ?_
       refine rvc_nil ?_
       refine Awp.seq ?_
       refine Awp.consP C ?_
       refine rvP C (.pv (.lit (.int .i64 dr.2))) ?_
       refine rvP C (.pv (.lit (.bool (dr.2 != 0)))) ?_
       refine rvP C (.pv (.lit (.bool (dr.2 != 0)))) ?_
       refine rvc_case 67 (dr.2 != 0) rfl (fun h9 => ?_) (fun h9 => ?_)
       ·
        replace hR := of_true h9 hR
        refine rvS ?_
        refine rvS ?_
        refine rvS ?_
        refine rvP C (.pv (.lit (.bool true))) ?_
        refine rvc_nil ?_
        refine Awp.condT (b := true) rfl rfl ?_
        refine Awp.consP C ?_
        refine rvP C (sS (some l.isEmpty) eCommand l) ?_
        refine rvP C (.agg [.pv (.lit (.int .i64 ra.epoch)), sS (some ra.members.nil) eMember ra.members.D]) ?_
        refine rvP C (sS (some l.isEmpty) eCommand l) ?_
        refine rvc_un (rexec_prim C (δ := { v := .undef, wr := [(9, some (.cells [.pv (.lit (.int .i64 ra.epoch)), sS (some ra.members.nil) eMember ra.members.D]))] }) rfl rfl rfl rfl trivial rfl ?_)
        refine rvP C (.pv (.lit (.int .i64 0))) ?_
        refine rvc_nil ?_
        refine Awp.ret ?_
        subst hR
        exact ⟨.inl rfl, rfl⟩
       ·
        replace hR := of_false h9 hR
        refine rvO C (.agg [.pv (.lit (.int .i64 nx.1.kind)), .pv (.lit (.int .i64 nx.1.node)), .pv (.lit (.int .i64 nx.1.site)), .pv (.lit (.int .i64 nx.1.epoch))]) ?_
        refine rvc_open rfl rfl rfl (rexec_call hP C rfl rfl rfl (cmdCheck_calls nx.1) ?_)
        refine rvO C (.pv (.lit (.bool ((cmdCheck nx.1) != 0)))) ?_
        refine rvP C (.pv (.lit (.bool ((cmdCheck nx.1) != 0)))) ?_
        refine rvc_nil ?_
        refine Awp.cond (b := ((cmdCheck nx.1) != 0)) rfl (fun h10 => ?_) (fun h10 => ?_)
        ·
         replace hR := of_true h10 hR
         refine Awp.consP C ?_
         refine rvP C (sS (some l.isEmpty) eCommand l) ?_
         refine rvP C (.agg [.pv (.lit (.int .i64 ra.epoch)), sS (some ra.members.nil) eMember ra.members.D]) ?_
         refine rvP C (sS (some l.isEmpty) eCommand l) ?_
         refine rvc_un (rexec_prim C (δ := { v := .undef, wr := [(9, some (.cells [.pv (.lit (.int .i64 ra.epoch)), sS (some ra.members.nil) eMember ra.members.D]))] }) rfl rfl rfl rfl trivial rfl ?_)
         refine rvP C (.pv (.lit (.int .i64 0))) ?_
         refine rvc_nil ?_
         refine Awp.ret ?_
         subst hR
         exact ⟨.inl rfl, rfl⟩
        ·
         replace hR := of_false h10 hR
         refine Awp.skip ?_
         refine Awp.region C (fun o => match o.dst with | some 77 => .writes [77, 900] | some 78 => .reads [15] | _ => .pure) (by kernel_rfl) ?_
         refine rvP C (sS (some l.isEmpty) eCommand l) ?_
         refine rvP C (.agg [.pv (.lit (.int .i64 nx.1.kind)), .pv (.lit (.int .i64 nx.1.node)), .pv (.lit (.int .i64 nx.1.site)), .pv (.lit (.int .i64 nx.1.epoch))]) ?_
         refine rvc_un (rexec_buildSliceF C eCommand [nx.1] rfl rfl rfl rfl rfl rfl rfl (by decide) rfl ?_)
         refine rvc_un (rexec_appendG C rfl rfl rfl rfl rfl rfl rfl rfl (fun _ h => by cases h) rfl (en := eCommand) (l := l) (D := [nx.1]) rfl rfl h3 (by rw [h3]; rfl) (by simp) (by have := check_len (c := (Chain.mk vc vc1)); have := check_le6 (c := (Chain.mk vc vc1)); have := beq_iff_eq.1 h4; have := eq_of_bne_false h5; have := of_decide_eq_false h7; have := beq_iff_eq.1 h8; have := eq_of_bne_false h9; have := eq_of_bne_false h10; first | omega | (simp <;> omega)) (by decide) (nn := (l ++ [nx.1]).length) (by simp) ?_)
         refine rvP C (.agg [.pv (.lit (.int .i64 dr.1.epoch)), sS (some dr.1.members.nil) eMember dr.1.members.D]) ?_
         refine rvP C (.sl 77 0 ((l ++ [nx.1]).length) 4 false) ?_
         refine rvc_un (rexec_prim C (δ := { v := .undef, wr := [(4, some (.cells [.pv (.lit (.int .i64 dr.1.epoch)), sS (some dr.1.members.nil) eMember dr.1.members.D]))] }) rfl rfl rfl rfl trivial rfl ?_)
         refine rvc_nil ?_
         have h11 : (planM alive dr.1.members.D) < (planM alive vc1.D) := by first | exact (stepA ha (c := Chain.mk vc vc1) (by assumption) (by assumption) (by assumption) (by assumption) (by assumption) (by assumption)).1 | exact (stepB ha (c := Chain.mk vc vc1) (by assumption) (by assumption) (by assumption) (by assumption) (by assumption) (by assumption)).1 | exact (stepC ha (c := Chain.mk vc vc1) (by assumption) (by assumption) (by assumption)).elim
         obtain ⟨nn, rfl⟩ : ∃ nn, n_ = nn + 1 := ⟨n_ - 1, by omega⟩
         refine ⟨nn, ((l ++ [nx.1]), dr.1.epoch, dr.1.members), by omega, ⟨by show (planM alive dr.1.members.D) ≤ nn; omega, hR, (by have hlt_ := ‹planM _ _ < planM _ _›; first | (have h_ := (stepA ha (c := Chain.mk vc vc1) (by assumption) (by assumption) (by assumption) (by assumption) (by assumption) (by assumption)); exact ⟨h_.2.1, h_.2.2, (by simp only [List.length_append, List.length_cons, List.length_nil]; omega)⟩) | (have h_ := (stepB ha (c := Chain.mk vc vc1) (by assumption) (by assumption) (by assumption) (by assumption) (by assumption) (by assumption)); exact ⟨h_.2.1, h_.2.2, (by simp only [List.length_append, List.length_cons, List.length_nil]; omega)⟩) | exact (stepC ha (c := Chain.mk vc vc1) (by assumption) (by assumption) (by assumption)).elim)⟩, ?_⟩
         · exact ⟨fun b => bif b == 900 then 77 else (fun b => b) b, WeakerR.ofL (Ks := [4, 6, 7, 9, 900]) hI ⟨⟨rfl, rfl⟩, ⟨rfl, rfl⟩, ⟨rfl, rfl⟩, ⟨rfl, rfl⟩, ⟨rfl, rfl⟩, ⟨grow_to rfl rfl app_ne rfl rfl, grow_within rfl⟩, trivial⟩ (okH_grow (fun _ => rfl) rfl rfl (okH_cons rfl rfl rfl rfl (okH_cons rfl rfl rfl rfl (okH_cons rfl rfl rfl rfl (okH_cons rfl rfl rfl rfl (okH_nil)))))) rfl⟩
      ·
       replace hR := of_false h8 hR
       refine Awp.regionP C ?_
       refine rvP C (.agg [.pv (.lit (.int .i64 ra.epoch)), sS (some ra.members.nil) eMember ra.members.D]) ?_
       refine rvP C (.ptr 12 1) ?_
       refine rvP C (.pv (.lit (.int .i64 nx.1.node))) ?_
       refine rvP C (.ptr 12 2) ?_
       refine rvP C (.pv (.lit (.int .i64 nx.1.site))) ?_
       refine rvP C (.agg [.pv (.lit (.int .i64 nx.1.node)), .pv (.lit (.int .i64 nx.1.site)), .pv (.lit (.bool false))]) ?_
       obtain ⟨jo, hq_jo⟩ : ∃ q_, q_ = (join ra (Member.mk nx.1.node nx.1.site false)) := ⟨_, rfl⟩
       have hc_jo := (join_calls ra (Member.mk nx.1.node nx.1.site false) (by assumption) (by show ra.members.D.length ≤ 1000000; have := check_len (c := (Chain.mk vc vc1)); have := check_le6 (c := (Chain.mk vc vc1)); have := beq_iff_eq.1 h4; have := eq_of_bne_false h5; have := of_decide_eq_false h7; have := ne_of_beq_false h8; omega))
       first | rw [← hq_jo] at hR hc_jo | (unfold allP at hR; rw [← hq_jo] at hR hc_jo) | (unfold allP_l0 at hR; rw [← hq_jo] at hR hc_jo)
       refine rvc_un (rexec_call hP C rfl rfl rfl hc_jo ?_)
       refine rvP C (.tup [.agg [.pv (.lit (.int .i64 jo.1.epoch)), sS (some jo.1.members.nil) eMember jo.1.members.D], .pv (.lit (.int .i64 jo.2))]) ?_
       refine rvP C (.agg [.pv (.lit (.int .i64 jo.1.epoch)), sS (some jo.1.members.nil) eMember jo.1.members.D]) ?_
       refine rvP C (.pv (.lit (.int .i64 jo.2))) ?_
       refine rvc_un (rexec_prim C (δ := { v := .undef, wr := [(15, some (.cells [.pv (.lit (.int .i64 jo.1.epoch)), sS (some jo.1.members.nil) eMember jo.1.members.D]))] }) rfl rfl rfl rfl trivial rfl ?_)
       refine rvP C (.pv (.lit (.int .i64 jo.2))) ?_
       refine rvc_nil ?_
       refine Awp.seq ?_
       refine Awp.consP C ?_
       refine rvP C (.pv (.lit (.int .i64 jo.2))) ?_
       refine rvP C (.pv (.lit (.bool (jo.2 != 0)))) ?_
       refine rvP C (.pv (.lit (.bool (jo.2 != 0)))) ?_
       refine rvc_case 67 (jo.2 != 0) rfl (fun h12 => ?_) (fun h12 => ?_)
       ·
        replace hR := of_true h12 hR
        refine rvS ?_
        refine rvS ?_
        refine rvS ?_
        refine rvP C (.pv (.lit (.bool true))) ?_
        refine rvc_nil ?_
        refine Awp.condT (b := true) rfl rfl ?_
        refine Awp.consP C ?_
        refine rvP C (sS (some l.isEmpty) eCommand l) ?_
        refine rvP C (.agg [.pv (.lit (.int .i64 ra.epoch)), sS (some ra.members.nil) eMember ra.members.D]) ?_
        refine rvP C (sS (some l.isEmpty) eCommand l) ?_
        refine rvc_un (rexec_prim C (δ := { v := .undef, wr := [(9, some (.cells [.pv (.lit (.int .i64 ra.epoch)), sS (some ra.members.nil) eMember ra.members.D]))] }) rfl rfl rfl rfl trivial rfl ?_)
        refine rvP C (.pv (.lit (.int .i64 0))) ?_
        refine rvc_nil ?_
        refine Awp.ret ?_
        subst hR
        exact ⟨.inl rfl, rfl⟩
       ·
        replace hR := of_false h12 hR
        refine rvO C (.agg [.pv (.lit (.int .i64 nx.1.kind)), .pv (.lit (.int .i64 nx.1.node)), .pv (.lit (.int .i64 nx.1.site)), .pv (.lit (.int .i64 nx.1.epoch))]) ?_
        refine rvc_open rfl rfl rfl (rexec_call hP C rfl rfl rfl (cmdCheck_calls nx.1) ?_)
        refine rvO C (.pv (.lit (.bool ((cmdCheck nx.1) != 0)))) ?_
        refine rvP C (.pv (.lit (.bool ((cmdCheck nx.1) != 0)))) ?_
        refine rvc_nil ?_
        refine Awp.cond (b := ((cmdCheck nx.1) != 0)) rfl (fun h13 => ?_) (fun h13 => ?_)
        ·
         replace hR := of_true h13 hR
         refine Awp.consP C ?_
         refine rvP C (sS (some l.isEmpty) eCommand l) ?_
         refine rvP C (.agg [.pv (.lit (.int .i64 ra.epoch)), sS (some ra.members.nil) eMember ra.members.D]) ?_
         refine rvP C (sS (some l.isEmpty) eCommand l) ?_
         refine rvc_un (rexec_prim C (δ := { v := .undef, wr := [(9, some (.cells [.pv (.lit (.int .i64 ra.epoch)), sS (some ra.members.nil) eMember ra.members.D]))] }) rfl rfl rfl rfl trivial rfl ?_)
         refine rvP C (.pv (.lit (.int .i64 0))) ?_
         refine rvc_nil ?_
         refine Awp.ret ?_
         subst hR
         exact ⟨.inl rfl, rfl⟩
        ·
         replace hR := of_false h13 hR
         refine Awp.skip ?_
         refine Awp.region C (fun o => match o.dst with | some 77 => .writes [77, 900] | some 78 => .reads [15] | _ => .pure) (by kernel_rfl) ?_
         refine rvP C (sS (some l.isEmpty) eCommand l) ?_
         refine rvP C (.agg [.pv (.lit (.int .i64 nx.1.kind)), .pv (.lit (.int .i64 nx.1.node)), .pv (.lit (.int .i64 nx.1.site)), .pv (.lit (.int .i64 nx.1.epoch))]) ?_
         refine rvc_un (rexec_buildSliceF C eCommand [nx.1] rfl rfl rfl rfl rfl rfl rfl (by decide) rfl ?_)
         refine rvc_un (rexec_appendG C rfl rfl rfl rfl rfl rfl rfl rfl (fun _ h => by cases h) rfl (en := eCommand) (l := l) (D := [nx.1]) rfl rfl h3 (by rw [h3]; rfl) (by simp) (by have := check_len (c := (Chain.mk vc vc1)); have := check_le6 (c := (Chain.mk vc vc1)); have := beq_iff_eq.1 h4; have := eq_of_bne_false h5; have := of_decide_eq_false h7; have := ne_of_beq_false h8; have := eq_of_bne_false h12; have := eq_of_bne_false h13; first | omega | (simp <;> omega)) (by decide) (nn := (l ++ [nx.1]).length) (by simp) ?_)
         refine rvP C (.agg [.pv (.lit (.int .i64 jo.1.epoch)), sS (some jo.1.members.nil) eMember jo.1.members.D]) ?_
         refine rvP C (.sl 77 0 ((l ++ [nx.1]).length) 4 false) ?_
         refine rvc_un (rexec_prim C (δ := { v := .undef, wr := [(4, some (.cells [.pv (.lit (.int .i64 jo.1.epoch)), sS (some jo.1.members.nil) eMember jo.1.members.D]))] }) rfl rfl rfl rfl trivial rfl ?_)
         refine rvc_nil ?_
         have h14 : (planM alive jo.1.members.D) < (planM alive vc1.D) := by first | exact (stepA ha (c := Chain.mk vc vc1) (by assumption) (by assumption) (by assumption) (by assumption) (by assumption) (by assumption)).1 | exact (stepB ha (c := Chain.mk vc vc1) (by assumption) (by assumption) (by assumption) (by assumption) (by assumption) (by assumption)).1 | exact (stepC ha (c := Chain.mk vc vc1) (by assumption) (by assumption) (by assumption)).elim
         obtain ⟨nn, rfl⟩ : ∃ nn, n_ = nn + 1 := ⟨n_ - 1, by omega⟩
         refine ⟨nn, ((l ++ [nx.1]), jo.1.epoch, jo.1.members), by omega, ⟨by show (planM alive jo.1.members.D) ≤ nn; omega, hR, (by have hlt_ := ‹planM _ _ < planM _ _›; first | (have h_ := (stepA ha (c := Chain.mk vc vc1) (by assumption) (by assumption) (by assumption) (by assumption) (by assumption) (by assumption)); exact ⟨h_.2.1, h_.2.2, (by simp only [List.length_append, List.length_cons, List.length_nil]; omega)⟩) | (have h_ := (stepB ha (c := Chain.mk vc vc1) (by assumption) (by assumption) (by assumption) (by assumption) (by assumption) (by assumption)); exact ⟨h_.2.1, h_.2.2, (by simp only [List.length_append, List.length_cons, List.length_nil]; omega)⟩) | exact (stepC ha (c := Chain.mk vc vc1) (by assumption) (by assumption) (by assumption)).elim)⟩, ?_⟩
         · exact ⟨fun b => bif b == 900 then 77 else (fun b => b) b, WeakerR.ofL (Ks := [4, 6, 7, 9, 900]) hI ⟨⟨rfl, rfl⟩, ⟨rfl, rfl⟩, ⟨rfl, rfl⟩, ⟨rfl, rfl⟩, ⟨rfl, rfl⟩, ⟨grow_to rfl rfl app_ne rfl rfl, grow_within rfl⟩, trivial⟩ (okH_grow (fun _ => rfl) rfl rfl (okH_cons rfl rfl rfl rfl (okH_cons rfl rfl rfl rfl (okH_cons rfl rfl rfl rfl (okH_cons rfl rfl rfl rfl (okH_nil)))))) rfl⟩
  ·
   replace hR := of_false h4 hR
   refine Awp.skip ?_
   refine Awp.consP C ?_
   refine rvP C (.agg [.pv (.lit (.int .i64 vc)), sS (some vc1.nil) eMember vc1.D]) ?_
   refine rvP C (.pv (.lit (.int .u64 alive))) ?_
   refine rvP C (.agg [.pv (.lit (.int .i64 (h 0))), .pv (.lit (.int .i64 (h 1))), .pv (.lit (.int .i64 (h 2))), .pv (.lit (.int .i64 (h 3))), .pv (.lit (.int .i64 (h 4))), .pv (.lit (.int .i64 (h 5)))]) ?_
   refine rvP C (.agg [.pv (.lit (.int .i64 (w 0))), .pv (.lit (.int .i64 (w 1))), .pv (.lit (.int .i64 (w 2)))]) ?_
   obtain ⟨nx1, hq_nx1⟩ : ∃ q_, q_ = (nextP (Chain.mk vc vc1) alive h w) := ⟨_, rfl⟩
   have hc_nx1 := (nextP_calls (Chain.mk vc vc1) alive h w (by assumption) (by show vc1.D.length ≤ 1000000; have := check_len (c := (Chain.mk vc vc1)); have := check_le6 (c := (Chain.mk vc vc1)); have := ne_of_beq_false h4; omega))
   first | rw [← hq_nx1] at hR hc_nx1 | (unfold allP at hR; rw [← hq_nx1] at hR hc_nx1) | (unfold allP_l0 at hR; rw [← hq_nx1] at hR hc_nx1)
   refine rvc_un (rexec_call hP C rfl rfl rfl hc_nx1 ?_)
   refine rvP C (.tup [.agg [.pv (.lit (.int .i64 nx1.1.kind)), .pv (.lit (.int .i64 nx1.1.node)), .pv (.lit (.int .i64 nx1.1.site)), .pv (.lit (.int .i64 nx1.1.epoch))], .pv (.lit (.bool nx1.2.1)), .pv (.lit (.int .i64 nx1.2.2))]) ?_
   refine rvP C (.agg [.pv (.lit (.int .i64 nx1.1.kind)), .pv (.lit (.int .i64 nx1.1.node)), .pv (.lit (.int .i64 nx1.1.site)), .pv (.lit (.int .i64 nx1.1.epoch))]) ?_
   refine rvP C (.pv (.lit (.bool nx1.2.1))) ?_
   refine rvP C (.pv (.lit (.int .i64 nx1.2.2))) ?_
   refine rvc_un (rexec_prim C (δ := { v := .ptr 12 0, new := [(12, .cells [.pv (.lit (.int .i64 0)), .pv (.lit (.int .i64 0)), .pv (.lit (.int .i64 0)), .pv (.lit (.int .i64 0))])] }) rfl rfl rfl rfl trivial rfl ?_)
   refine rvc_un (rexec_prim C (δ := { v := .undef, wr := [(12, some (.cells [.pv (.lit (.int .i64 nx1.1.kind)), .pv (.lit (.int .i64 nx1.1.node)), .pv (.lit (.int .i64 nx1.1.site)), .pv (.lit (.int .i64 nx1.1.epoch))]))] }) rfl rfl rfl rfl trivial rfl ?_)
   refine rvP C (.pv (.lit (.bool nx1.2.1))) ?_
   refine rvP C (.pv (.lit (.int .i64 nx1.2.2))) ?_
   refine rvc_nil ?_
   refine Awp.seq ?_
   refine Awp.consP C ?_
   refine rvP C (.pv (.lit (.int .i64 nx1.2.2))) ?_
   refine rvP C (.pv (.lit (.bool (nx1.2.2 != 0)))) ?_
   refine rvc_nil ?_
   refine Awp.cond (b := (nx1.2.2 != 0)) rfl (fun h15 => ?_) (fun h15 => ?_)
   ·
    replace hR := of_true h15 hR
    refine Awp.consP C ?_
    refine rvP C (.agg [.pv (.lit (.int .i64 0)), sS (some true) eMember []]) ?_
    refine rvP C (.pv (.lit (.int .i64 nx1.2.2))) ?_
    refine rvP C (sS (some true) eCommand []) ?_
    refine rvc_un (rexec_prim C (δ := { v := .undef, wr := [(9, some (.cells [.pv (.lit (.int .i64 0)), sS (some true) eMember []]))] }) rfl rfl rfl rfl trivial rfl ?_)
    refine rvP C (.pv (.lit (.int .i64 nx1.2.2))) ?_
    refine rvc_nil ?_
    refine Awp.ret ?_
    subst hR
    exact ⟨.inl rfl, rfl⟩
   ·
    replace hR := of_false h15 hR
    refine Awp.skip ?_
    refine Awp.seq ?_
    refine Awp.consP C ?_
    refine rvP C (.pv (.lit (.bool nx1.2.1))) ?_
    refine rvP C (.pv (.lit (.bool (!nx1.2.1)))) ?_
    refine rvP C (.pv (.lit (.bool (!nx1.2.1)))) ?_
    refine rvc_case 37 (!nx1.2.1) rfl (fun h16 => ?_) (fun h16 => ?_)
    ·
     replace hR := of_true h16 hR
     refine rvS ?_
     refine rvS ?_
     refine rvS ?_
     refine rvP C (.pv (.lit (.bool true))) ?_
     refine rvc_nil ?_
     refine Awp.condT (b := true) rfl rfl ?_
     refine Awp.consP C ?_
     refine rvP C (sS (some l.isEmpty) eCommand l) ?_
     refine rvP C (.agg [.pv (.lit (.int .i64 vc)), sS (some vc1.nil) eMember vc1.D]) ?_
     refine rvP C (sS (some l.isEmpty) eCommand l) ?_
     refine rvc_un (rexec_prim C (δ := { v := .undef, wr := [(9, some (.cells [.pv (.lit (.int .i64 vc)), sS (some vc1.nil) eMember vc1.D]))] }) rfl rfl rfl rfl trivial rfl ?_)
     refine rvP C (.pv (.lit (.int .i64 0))) ?_
     refine rvc_nil ?_
     refine Awp.ret ?_
     subst hR
     exact ⟨.inl rfl, rfl⟩
    ·
     replace hR := of_false h16 hR
     refine rvO C (.ptr 4 0) ?_
     refine rvO C (.pv (.lit (.int .i64 vc))) ?_
     refine rvO C (.pv (.lit (.bool (decide (vc ≥ 1099511627776))))) ?_
     refine rvP C (.pv (.lit (.bool (decide (vc ≥ 1099511627776))))) ?_
     refine rvc_nil ?_
     refine Awp.cond (b := (decide (vc ≥ 1099511627776))) rfl (fun h17 => ?_) (fun h17 => ?_)
     ·
      replace hR := of_true h17 hR
      refine Awp.consP C ?_
      refine rvP C (sS (some l.isEmpty) eCommand l) ?_
      refine rvP C (.agg [.pv (.lit (.int .i64 vc)), sS (some vc1.nil) eMember vc1.D]) ?_
      refine rvP C (sS (some l.isEmpty) eCommand l) ?_
      refine rvc_un (rexec_prim C (δ := { v := .undef, wr := [(9, some (.cells [.pv (.lit (.int .i64 vc)), sS (some vc1.nil) eMember vc1.D]))] }) rfl rfl rfl rfl trivial rfl ?_)
      refine rvP C (.pv (.lit (.int .i64 0))) ?_
      refine rvc_nil ?_
      refine Awp.ret ?_
      subst hR
      exact ⟨.inl rfl, rfl⟩
     ·
      replace hR := of_false h17 hR
      refine Awp.skip ?_
      refine Awp.consP C ?_
      refine rvP C (.agg [.pv (.lit (.int .i64 0)), sS (some true) eMember []]) ?_
      refine rvc_un (rexec_prim C (δ := { v := .ptr 15 0, new := [(15, .cells [.pv (.lit (.int .i64 0)), sS (some true) eMember []])] }) rfl rfl rfl rfl trivial rfl ?_)
      refine rvc_un (rexec_prim C (δ := { v := .undef, wr := [(15, some (.cells [.pv (.lit (.int .i64 0)), sS (some true) eMember []]))] }) rfl rfl rfl rfl trivial rfl ?_)
      refine rvc_nil ?_
      refine Awp.seq ?_
      refine Awp.consP C ?_
      refine rvP C (.ptr 12 0) ?_
      refine rvP C (.pv (.lit (.int .i64 nx1.1.kind))) ?_
      refine rvP C (.pv (.lit (.bool (nx1.1.kind == 1)))) ?_
      refine rvc_nil ?_
      refine Awp.cond (b := (nx1.1.kind == 1)) rfl (fun h18 => ?_) (fun h18 => ?_)
      ·
       replace hR := of_true h18 hR
       refine Awp.regionP C ?_
       refine rvP C (.agg [.pv (.lit (.int .i64 vc)), sS (some vc1.nil) eMember vc1.D]) ?_
       refine rvP C (.ptr 12 1) ?_
       refine rvP C (.pv (.lit (.int .i64 nx1.1.node))) ?_
       obtain ⟨dr1, hq_dr1⟩ : ∃ q_, q_ = (drop (Chain.mk vc vc1) nx1.1.node) := ⟨_, rfl⟩
       have hc_dr1 := (drop_calls (Chain.mk vc vc1) nx1.1.node (by show vc1.D.length ≤ 1000000; have := check_len (c := (Chain.mk vc vc1)); have := check_le6 (c := (Chain.mk vc vc1)); have := ne_of_beq_false h4; have := eq_of_bne_false h15; have := of_decide_eq_false h17; have := beq_iff_eq.1 h18; omega))
       first | rw [← hq_dr1] at hR hc_dr1 | (unfold allP at hR; rw [← hq_dr1] at hR hc_dr1) | (unfold allP_l0 at hR; rw [← hq_dr1] at hR hc_dr1)
       refine rvc_un (rexec_call hP C rfl rfl rfl hc_dr1 ?_)
       refine rvP C (.tup [.agg [.pv (.lit (.int .i64 dr1.1.epoch)), sS (some dr1.1.members.nil) eMember dr1.1.members.D], .pv (.lit (.int .i64 dr1.2))]) ?_
       refine rvP C (.agg [.pv (.lit (.int .i64 dr1.1.epoch)), sS (some dr1.1.members.nil) eMember dr1.1.members.D]) ?_
       refine rvP C (.pv (.lit (.int .i64 dr1.2))) ?_
       refine rvc_un (rexec_prim C (δ := { v := .undef, wr := [(15, some (.cells [.pv (.lit (.int .i64 dr1.1.epoch)), sS (some dr1.1.members.nil) eMember dr1.1.members.D]))] }) rfl rfl rfl rfl trivial rfl ?_)
       refine rvP C (.pv (.lit (.int .i64 dr1.2))) ?_
       refine rvc_nil ?_
       refine Awp.seq ?_
       refine Awp.consP C ?_
       refine rvP C (.pv (.lit (.int .i64 dr1.2))) ?_
       refine rvP C (.pv (.lit (.bool (dr1.2 != 0)))) ?_
       refine rvP C (.pv (.lit (.bool (dr1.2 != 0)))) ?_
       refine rvc_case 67 (dr1.2 != 0) rfl (fun h19 => ?_) (fun h19 => ?_)
       ·
        replace hR := of_true h19 hR
        refine rvS ?_
        refine rvS ?_
        refine rvS ?_
        refine rvP C (.pv (.lit (.bool true))) ?_
        refine rvc_nil ?_
        refine Awp.condT (b := true) rfl rfl ?_
        refine Awp.consP C ?_
        refine rvP C (sS (some l.isEmpty) eCommand l) ?_
        refine rvP C (.agg [.pv (.lit (.int .i64 vc)), sS (some vc1.nil) eMember vc1.D]) ?_
        refine rvP C (sS (some l.isEmpty) eCommand l) ?_
        refine rvc_un (rexec_prim C (δ := { v := .undef, wr := [(9, some (.cells [.pv (.lit (.int .i64 vc)), sS (some vc1.nil) eMember vc1.D]))] }) rfl rfl rfl rfl trivial rfl ?_)
        refine rvP C (.pv (.lit (.int .i64 0))) ?_
        refine rvc_nil ?_
        refine Awp.ret ?_
        subst hR
        exact ⟨.inl rfl, rfl⟩
       ·
        replace hR := of_false h19 hR
        refine rvO C (.agg [.pv (.lit (.int .i64 nx1.1.kind)), .pv (.lit (.int .i64 nx1.1.node)), .pv (.lit (.int .i64 nx1.1.site)), .pv (.lit (.int .i64 nx1.1.epoch))]) ?_
        refine rvc_open rfl rfl rfl (rexec_call hP C rfl rfl rfl (cmdCheck_calls nx1.1) ?_)
        refine rvO C (.pv (.lit (.bool ((cmdCheck nx1.1) != 0)))) ?_
        refine rvP C (.pv (.lit (.bool ((cmdCheck nx1.1) != 0)))) ?_
        refine rvc_nil ?_
        refine Awp.cond (b := ((cmdCheck nx1.1) != 0)) rfl (fun h20 => ?_) (fun h20 => ?_)
        ·
         replace hR := of_true h20 hR
         refine Awp.consP C ?_
         refine rvP C (sS (some l.isEmpty) eCommand l) ?_
         refine rvP C (.agg [.pv (.lit (.int .i64 vc)), sS (some vc1.nil) eMember vc1.D]) ?_
         refine rvP C (sS (some l.isEmpty) eCommand l) ?_
         refine rvc_un (rexec_prim C (δ := { v := .undef, wr := [(9, some (.cells [.pv (.lit (.int .i64 vc)), sS (some vc1.nil) eMember vc1.D]))] }) rfl rfl rfl rfl trivial rfl ?_)
         refine rvP C (.pv (.lit (.int .i64 0))) ?_
         refine rvc_nil ?_
         refine Awp.ret ?_
         subst hR
         exact ⟨.inl rfl, rfl⟩
        ·
         replace hR := of_false h20 hR
         refine Awp.skip ?_
         refine Awp.region C (fun o => match o.dst with | some 77 => .writes [77, 900] | some 78 => .reads [15] | _ => .pure) (by kernel_rfl) ?_
         refine rvP C (sS (some l.isEmpty) eCommand l) ?_
         refine rvP C (.agg [.pv (.lit (.int .i64 nx1.1.kind)), .pv (.lit (.int .i64 nx1.1.node)), .pv (.lit (.int .i64 nx1.1.site)), .pv (.lit (.int .i64 nx1.1.epoch))]) ?_
         refine rvc_un (rexec_buildSliceF C eCommand [nx1.1] rfl rfl rfl rfl rfl rfl rfl (by decide) rfl ?_)
         refine rvc_un (rexec_appendG C rfl rfl rfl rfl rfl rfl rfl rfl (fun _ h => by cases h) rfl (en := eCommand) (l := l) (D := [nx1.1]) rfl rfl h3 (by rw [h3]; rfl) (by simp) (by have := check_len (c := (Chain.mk vc vc1)); have := check_le6 (c := (Chain.mk vc vc1)); have := ne_of_beq_false h4; have := eq_of_bne_false h15; have := of_decide_eq_false h17; have := beq_iff_eq.1 h18; have := eq_of_bne_false h19; have := eq_of_bne_false h20; first | omega | (simp <;> omega)) (by decide) (nn := (l ++ [nx1.1]).length) (by simp) ?_)
         refine rvP C (.agg [.pv (.lit (.int .i64 dr1.1.epoch)), sS (some dr1.1.members.nil) eMember dr1.1.members.D]) ?_
         refine rvP C (.sl 77 0 ((l ++ [nx1.1]).length) 4 false) ?_
         refine rvc_un (rexec_prim C (δ := { v := .undef, wr := [(4, some (.cells [.pv (.lit (.int .i64 dr1.1.epoch)), sS (some dr1.1.members.nil) eMember dr1.1.members.D]))] }) rfl rfl rfl rfl trivial rfl ?_)
         refine rvc_nil ?_
         have h21 : (planM alive dr1.1.members.D) < (planM alive vc1.D) := by first | exact (stepA ha (c := Chain.mk vc vc1) (by assumption) (by assumption) (by assumption) (by assumption) (by assumption) (by assumption)).1 | exact (stepB ha (c := Chain.mk vc vc1) (by assumption) (by assumption) (by assumption) (by assumption) (by assumption) (by assumption)).1 | exact (stepC ha (c := Chain.mk vc vc1) (by assumption) (by assumption) (by assumption)).elim
         obtain ⟨nn, rfl⟩ : ∃ nn, n_ = nn + 1 := ⟨n_ - 1, by omega⟩
         refine ⟨nn, ((l ++ [nx1.1]), dr1.1.epoch, dr1.1.members), by omega, ⟨by show (planM alive dr1.1.members.D) ≤ nn; omega, hR, (by have hlt_ := ‹planM _ _ < planM _ _›; first | (have h_ := (stepA ha (c := Chain.mk vc vc1) (by assumption) (by assumption) (by assumption) (by assumption) (by assumption) (by assumption)); exact ⟨h_.2.1, h_.2.2, (by simp only [List.length_append, List.length_cons, List.length_nil]; omega)⟩) | (have h_ := (stepB ha (c := Chain.mk vc vc1) (by assumption) (by assumption) (by assumption) (by assumption) (by assumption) (by assumption)); exact ⟨h_.2.1, h_.2.2, (by simp only [List.length_append, List.length_cons, List.length_nil]; omega)⟩) | exact (stepC ha (c := Chain.mk vc vc1) (by assumption) (by assumption) (by assumption)).elim)⟩, ?_⟩
         · exact ⟨fun b => bif b == 900 then 77 else (fun b => b) b, WeakerR.ofL (Ks := [4, 6, 7, 9, 900]) hI ⟨⟨rfl, rfl⟩, ⟨rfl, rfl⟩, ⟨rfl, rfl⟩, ⟨rfl, rfl⟩, ⟨rfl, rfl⟩, ⟨grow_to rfl rfl app_ne rfl rfl, grow_within rfl⟩, trivial⟩ (okH_grow (fun _ => rfl) rfl rfl (okH_cons rfl rfl rfl rfl (okH_cons rfl rfl rfl rfl (okH_cons rfl rfl rfl rfl (okH_cons rfl rfl rfl rfl (okH_nil)))))) rfl⟩
      ·
       replace hR := of_false h18 hR
       refine Awp.regionP C ?_
       refine rvP C (.agg [.pv (.lit (.int .i64 vc)), sS (some vc1.nil) eMember vc1.D]) ?_
       refine rvP C (.ptr 12 1) ?_
       refine rvP C (.pv (.lit (.int .i64 nx1.1.node))) ?_
       refine rvP C (.ptr 12 2) ?_
       refine rvP C (.pv (.lit (.int .i64 nx1.1.site))) ?_
       refine rvP C (.agg [.pv (.lit (.int .i64 nx1.1.node)), .pv (.lit (.int .i64 nx1.1.site)), .pv (.lit (.bool false))]) ?_
       obtain ⟨jo1, hq_jo1⟩ : ∃ q_, q_ = (join (Chain.mk vc vc1) (Member.mk nx1.1.node nx1.1.site false)) := ⟨_, rfl⟩
       have hc_jo1 := (join_calls (Chain.mk vc vc1) (Member.mk nx1.1.node nx1.1.site false) (by assumption) (by show vc1.D.length ≤ 1000000; have := check_len (c := (Chain.mk vc vc1)); have := check_le6 (c := (Chain.mk vc vc1)); have := ne_of_beq_false h4; have := eq_of_bne_false h15; have := of_decide_eq_false h17; have := ne_of_beq_false h18; omega))
       first | rw [← hq_jo1] at hR hc_jo1 | (unfold allP at hR; rw [← hq_jo1] at hR hc_jo1) | (unfold allP_l0 at hR; rw [← hq_jo1] at hR hc_jo1)
       refine rvc_un (rexec_call hP C rfl rfl rfl hc_jo1 ?_)
       refine rvP C (.tup [.agg [.pv (.lit (.int .i64 jo1.1.epoch)), sS (some jo1.1.members.nil) eMember jo1.1.members.D], .pv (.lit (.int .i64 jo1.2))]) ?_
       refine rvP C (.agg [.pv (.lit (.int .i64 jo1.1.epoch)), sS (some jo1.1.members.nil) eMember jo1.1.members.D]) ?_
       refine rvP C (.pv (.lit (.int .i64 jo1.2))) ?_
       refine rvc_un (rexec_prim C (δ := { v := .undef, wr := [(15, some (.cells [.pv (.lit (.int .i64 jo1.1.epoch)), sS (some jo1.1.members.nil) eMember jo1.1.members.D]))] }) rfl rfl rfl rfl trivial rfl ?_)
       refine rvP C (.pv (.lit (.int .i64 jo1.2))) ?_
       refine rvc_nil ?_
       refine Awp.seq ?_
       refine Awp.consP C ?_
       refine rvP C (.pv (.lit (.int .i64 jo1.2))) ?_
       refine rvP C (.pv (.lit (.bool (jo1.2 != 0)))) ?_
       refine rvP C (.pv (.lit (.bool (jo1.2 != 0)))) ?_
       refine rvc_case 67 (jo1.2 != 0) rfl (fun h22 => ?_) (fun h22 => ?_)
       ·
        replace hR := of_true h22 hR
        refine rvS ?_
        refine rvS ?_
        refine rvS ?_
        refine rvP C (.pv (.lit (.bool true))) ?_
        refine rvc_nil ?_
        refine Awp.condT (b := true) rfl rfl ?_
        refine Awp.consP C ?_
        refine rvP C (sS (some l.isEmpty) eCommand l) ?_
        refine rvP C (.agg [.pv (.lit (.int .i64 vc)), sS (some vc1.nil) eMember vc1.D]) ?_
        refine rvP C (sS (some l.isEmpty) eCommand l) ?_
        refine rvc_un (rexec_prim C (δ := { v := .undef, wr := [(9, some (.cells [.pv (.lit (.int .i64 vc)), sS (some vc1.nil) eMember vc1.D]))] }) rfl rfl rfl rfl trivial rfl ?_)
        refine rvP C (.pv (.lit (.int .i64 0))) ?_
        refine rvc_nil ?_
        refine Awp.ret ?_
        subst hR
        exact ⟨.inl rfl, rfl⟩
       ·
        replace hR := of_false h22 hR
        refine rvO C (.agg [.pv (.lit (.int .i64 nx1.1.kind)), .pv (.lit (.int .i64 nx1.1.node)), .pv (.lit (.int .i64 nx1.1.site)), .pv (.lit (.int .i64 nx1.1.epoch))]) ?_
        refine rvc_open rfl rfl rfl (rexec_call hP C rfl rfl rfl (cmdCheck_calls nx1.1) ?_)
        refine rvO C (.pv (.lit (.bool ((cmdCheck nx1.1) != 0)))) ?_
        refine rvP C (.pv (.lit (.bool ((cmdCheck nx1.1) != 0)))) ?_
        refine rvc_nil ?_
        refine Awp.cond (b := ((cmdCheck nx1.1) != 0)) rfl (fun h23 => ?_) (fun h23 => ?_)
        ·
         replace hR := of_true h23 hR
         refine Awp.consP C ?_
         refine rvP C (sS (some l.isEmpty) eCommand l) ?_
         refine rvP C (.agg [.pv (.lit (.int .i64 vc)), sS (some vc1.nil) eMember vc1.D]) ?_
         refine rvP C (sS (some l.isEmpty) eCommand l) ?_
         refine rvc_un (rexec_prim C (δ := { v := .undef, wr := [(9, some (.cells [.pv (.lit (.int .i64 vc)), sS (some vc1.nil) eMember vc1.D]))] }) rfl rfl rfl rfl trivial rfl ?_)
         refine rvP C (.pv (.lit (.int .i64 0))) ?_
         refine rvc_nil ?_
         refine Awp.ret ?_
         subst hR
         exact ⟨.inl rfl, rfl⟩
        ·
         replace hR := of_false h23 hR
         refine Awp.skip ?_
         refine Awp.region C (fun o => match o.dst with | some 77 => .writes [77, 900] | some 78 => .reads [15] | _ => .pure) (by kernel_rfl) ?_
         refine rvP C (sS (some l.isEmpty) eCommand l) ?_
         refine rvP C (.agg [.pv (.lit (.int .i64 nx1.1.kind)), .pv (.lit (.int .i64 nx1.1.node)), .pv (.lit (.int .i64 nx1.1.site)), .pv (.lit (.int .i64 nx1.1.epoch))]) ?_
         refine rvc_un (rexec_buildSliceF C eCommand [nx1.1] rfl rfl rfl rfl rfl rfl rfl (by decide) rfl ?_)
         refine rvc_un (rexec_appendG C rfl rfl rfl rfl rfl rfl rfl rfl (fun _ h => by cases h) rfl (en := eCommand) (l := l) (D := [nx1.1]) rfl rfl h3 (by rw [h3]; rfl) (by simp) (by have := check_len (c := (Chain.mk vc vc1)); have := check_le6 (c := (Chain.mk vc vc1)); have := ne_of_beq_false h4; have := eq_of_bne_false h15; have := of_decide_eq_false h17; have := ne_of_beq_false h18; have := eq_of_bne_false h22; have := eq_of_bne_false h23; first | omega | (simp <;> omega)) (by decide) (nn := (l ++ [nx1.1]).length) (by simp) ?_)
         refine rvP C (.agg [.pv (.lit (.int .i64 jo1.1.epoch)), sS (some jo1.1.members.nil) eMember jo1.1.members.D]) ?_
         refine rvP C (.sl 77 0 ((l ++ [nx1.1]).length) 4 false) ?_
         refine rvc_un (rexec_prim C (δ := { v := .undef, wr := [(4, some (.cells [.pv (.lit (.int .i64 jo1.1.epoch)), sS (some jo1.1.members.nil) eMember jo1.1.members.D]))] }) rfl rfl rfl rfl trivial rfl ?_)
         refine rvc_nil ?_
         have h24 : (planM alive jo1.1.members.D) < (planM alive vc1.D) := by first | exact (stepA ha (c := Chain.mk vc vc1) (by assumption) (by assumption) (by assumption) (by assumption) (by assumption) (by assumption)).1 | exact (stepB ha (c := Chain.mk vc vc1) (by assumption) (by assumption) (by assumption) (by assumption) (by assumption) (by assumption)).1 | exact (stepC ha (c := Chain.mk vc vc1) (by assumption) (by assumption) (by assumption)).elim
         obtain ⟨nn, rfl⟩ : ∃ nn, n_ = nn + 1 := ⟨n_ - 1, by omega⟩
         refine ⟨nn, ((l ++ [nx1.1]), jo1.1.epoch, jo1.1.members), by omega, ⟨by show (planM alive jo1.1.members.D) ≤ nn; omega, hR, (by have hlt_ := ‹planM _ _ < planM _ _›; first | (have h_ := (stepA ha (c := Chain.mk vc vc1) (by assumption) (by assumption) (by assumption) (by assumption) (by assumption) (by assumption)); exact ⟨h_.2.1, h_.2.2, (by simp only [List.length_append, List.length_cons, List.length_nil]; omega)⟩) | (have h_ := (stepB ha (c := Chain.mk vc vc1) (by assumption) (by assumption) (by assumption) (by assumption) (by assumption) (by assumption)); exact ⟨h_.2.1, h_.2.2, (by simp only [List.length_append, List.length_cons, List.length_nil]; omega)⟩) | exact (stepC ha (c := Chain.mk vc vc1) (by assumption) (by assumption) (by assumption)).elim)⟩, ?_⟩
         · exact ⟨fun b => bif b == 900 then 77 else (fun b => b) b, WeakerR.ofL (Ks := [4, 6, 7, 9, 900]) hI ⟨⟨rfl, rfl⟩, ⟨rfl, rfl⟩, ⟨rfl, rfl⟩, ⟨rfl, rfl⟩, ⟨rfl, rfl⟩, ⟨grow_to rfl rfl app_ne rfl rfl, grow_within rfl⟩, trivial⟩ (okH_grow (fun _ => rfl) rfl rfl (okH_cons rfl rfl rfl rfl (okH_cons rfl rfl rfl rfl (okH_cons rfl rfl rfl rfl (okH_cons rfl rfl rfl rfl (okH_nil)))))) rfl⟩
 ·
  refine Awp.wordsR [(1, .pv (.lit (.int .u64 alive))), (4, .ptr 4 0), (6, .ptr 6 0), (7, .ptr 7 0), (9, .ptr 9 0), (11, .sl 900 0 l.length 4 false)] [(900, .cells (encC eCommand l)), (4, .cells [.pv (.lit (.int .i64 vc)), sS (some vc1.nil) eMember vc1.D]), (6, .cells [.pv (.lit (.int .i64 (h 0))), .pv (.lit (.int .i64 (h 1))), .pv (.lit (.int .i64 (h 2))), .pv (.lit (.int .i64 (h 3))), .pv (.lit (.int .i64 (h 4))), .pv (.lit (.int .i64 (h 5)))]), (7, .cells [.pv (.lit (.int .i64 (w 0))), .pv (.lit (.int .i64 (w 1))), .pv (.lit (.int .i64 (w 2)))]), (9, .cells [.pv (.lit (.int .i64 0)), sS (some true) eMember []])] [4, 6, 7, 9, 900] (WeakerR.ofL (Ks := [4, 6, 7, 9, 900]) hI ⟨⟨rfl, rfl⟩, ⟨rfl, rfl⟩, ⟨rfl, rfl⟩, ⟨rfl, rfl⟩, ⟨rfl, rfl⟩, ⟨(by exact grow_at_cons (b := 900) (b' := 900) (e := eCommand) (l := l) rfl h3 rfl rfl rfl), rfl⟩, trivial⟩ (okH_list (look_cons h3 rfl) rfl rfl (okH_cons (look_cons h3 rfl) rfl rfl rfl (okH_cons (look_cons h3 rfl) rfl rfl rfl (okH_cons (look_cons h3 rfl) rfl rfl rfl (okH_cons (look_cons h3 rfl) rfl rfl rfl (okH_nil)))))) rfl) ?_
  refine Awp.block ?_
  refine Awp.seq ?_
  refine Awp.consP C ?_
  refine rvP C (.agg [.pv (.lit (.int .i64 vc)), sS (some vc1.nil) eMember vc1.D]) ?_
  refine rvc_un (rexec_call hP C rfl rfl rfl (check_calls (Chain.mk vc vc1) (by show vc1.D.length ≤ 9223372036854775807; omega)) ?_)
  refine rvP C (.pv (.lit (.bool ((check (Chain.mk vc vc1)) == 0)))) ?_
  refine rvc_nil ?_
  refine Awp.cond (b := ((check (Chain.mk vc vc1)) == 0)) rfl (fun h25 => ?_) (fun h25 => ?_)
  ·
   replace hR := of_true h25 hR
   refine Awp.regionP C ?_
   refine rvP C (.agg [.pv (.lit (.int .i64 vc)), sS (some vc1.nil) eMember vc1.D]) ?_
   refine rvP C (.pv (.lit (.int .u64 alive))) ?_
   obtain ⟨ra1, hq_ra1⟩ : ∃ q_, q_ = (readyAll (Chain.mk vc vc1) alive) := ⟨_, rfl⟩
   have hc_ra1 := (readyAll_calls (Chain.mk vc vc1) alive hVn (by show vc1.D.length ≤ 1000000; have := check_len (c := (Chain.mk vc vc1)); have := check_le6 (c := (Chain.mk vc vc1)); have := beq_iff_eq.1 h25; omega))
   first | rw [← hq_ra1] at hR hc_ra1 | (unfold allP at hR; rw [← hq_ra1] at hR hc_ra1) | (unfold allP_l0 at hR; rw [← hq_ra1] at hR hc_ra1)
   have hf0_ra1 := readyAll_hn (Chain.mk vc vc1) alive hVn
   rw [← hq_ra1] at hf0_ra1
   have hf1_ra1 := readyAll_le (m := 1000000) (c := (Chain.mk vc vc1)) alive hVl
   rw [← hq_ra1] at hf1_ra1
   refine rvc_un (rexec_call hP C rfl rfl rfl hc_ra1 ?_)
   refine rvc_un (rexec_prim C (δ := { v := .undef, wr := [(4, some (.cells [.pv (.lit (.int .i64 ra1.epoch)), sS (some ra1.members.nil) eMember ra1.members.D]))] }) rfl rfl rfl rfl trivial rfl ?_)
   refine rvc_nil ?_
   refine Awp.consP C ?_
   refine rvP C (.agg [.pv (.lit (.int .i64 ra1.epoch)), sS (some ra1.members.nil) eMember ra1.members.D]) ?_
   refine rvP C (.pv (.lit (.int .u64 alive))) ?_
   refine rvP C (.agg [.pv (.lit (.int .i64 (h 0))), .pv (.lit (.int .i64 (h 1))), .pv (.lit (.int .i64 (h 2))), .pv (.lit (.int .i64 (h 3))), .pv (.lit (.int .i64 (h 4))), .pv (.lit (.int .i64 (h 5)))]) ?_
   refine rvP C (.agg [.pv (.lit (.int .i64 (w 0))), .pv (.lit (.int .i64 (w 1))), .pv (.lit (.int .i64 (w 2)))]) ?_
   obtain ⟨nx2, hq_nx2⟩ : ∃ q_, q_ = (nextP ra1 alive h w) := ⟨_, rfl⟩
   have hc_nx2 := (nextP_calls ra1 alive h w (by assumption) (by show ra1.members.D.length ≤ 1000000; have := check_len (c := (Chain.mk vc vc1)); have := check_le6 (c := (Chain.mk vc vc1)); have := beq_iff_eq.1 h25; omega))
   first | rw [← hq_nx2] at hR hc_nx2 | (unfold allP at hR; rw [← hq_nx2] at hR hc_nx2) | (unfold allP_l0 at hR; rw [← hq_nx2] at hR hc_nx2)
   refine rvc_un (rexec_call hP C rfl rfl rfl hc_nx2 ?_)
   refine rvP C (.tup [.agg [.pv (.lit (.int .i64 nx2.1.kind)), .pv (.lit (.int .i64 nx2.1.node)), .pv (.lit (.int .i64 nx2.1.site)), .pv (.lit (.int .i64 nx2.1.epoch))], .pv (.lit (.bool nx2.2.1)), .pv (.lit (.int .i64 nx2.2.2))]) ?_
   refine rvP C (.agg [.pv (.lit (.int .i64 nx2.1.kind)), .pv (.lit (.int .i64 nx2.1.node)), .pv (.lit (.int .i64 nx2.1.site)), .pv (.lit (.int .i64 nx2.1.epoch))]) ?_
   refine rvP C (.pv (.lit (.bool nx2.2.1))) ?_
   refine rvP C (.pv (.lit (.int .i64 nx2.2.2))) ?_
   refine rvc_un (rexec_prim C (δ := { v := .ptr 12 0, new := [(12, .cells [.pv (.lit (.int .i64 0)), .pv (.lit (.int .i64 0)), .pv (.lit (.int .i64 0)), .pv (.lit (.int .i64 0))])] }) rfl rfl rfl rfl trivial rfl ?_)
   refine rvc_un (rexec_prim C (δ := { v := .undef, wr := [(12, some (.cells [.pv (.lit (.int .i64 nx2.1.kind)), .pv (.lit (.int .i64 nx2.1.node)), .pv (.lit (.int .i64 nx2.1.site)), .pv (.lit (.int .i64 nx2.1.epoch))]))] }) rfl rfl rfl rfl trivial rfl ?_)
   refine rvP C (.pv (.lit (.bool nx2.2.1))) ?_
   refine rvP C (.pv (.lit (.int .i64 nx2.2.2))) ?_
   refine rvc_nil ?_
   refine Awp.seq ?_
   refine Awp.consP C ?_
   refine rvP C (.pv (.lit (.int .i64 nx2.2.2))) ?_
   refine rvP C (.pv (.lit (.bool (nx2.2.2 != 0)))) ?_
   refine rvc_nil ?_
   refine Awp.cond (b := (nx2.2.2 != 0)) rfl (fun h26 => ?_) (fun h26 => ?_)
   ·
    replace hR := of_true h26 hR
    refine Awp.consP C ?_
    refine rvP C (.agg [.pv (.lit (.int .i64 0)), sS (some true) eMember []]) ?_
    refine rvP C (.pv (.lit (.int .i64 nx2.2.2))) ?_
    refine rvP C (sS (some true) eCommand []) ?_
    refine rvc_un (rexec_prim C (δ := { v := .undef, wr := [(9, some (.cells [.pv (.lit (.int .i64 0)), sS (some true) eMember []]))] }) rfl rfl rfl rfl trivial rfl ?_)
    refine rvP C (.pv (.lit (.int .i64 nx2.2.2))) ?_
    refine rvc_nil ?_
    refine Awp.ret ?_
    subst hR
    exact ⟨.inl rfl, rfl⟩
   ·
    replace hR := of_false h26 hR
    refine Awp.skip ?_
    refine Awp.seq ?_
    refine Awp.consP C ?_
    refine rvP C (.pv (.lit (.bool nx2.2.1))) ?_
    refine rvP C (.pv (.lit (.bool (!nx2.2.1)))) ?_
    refine rvP C (.pv (.lit (.bool (!nx2.2.1)))) ?_
    refine rvc_case 37 (!nx2.2.1) rfl (fun h27 => ?_) (fun h27 => ?_)
    ·
     replace hR := of_true h27 hR
     refine rvS ?_
     refine rvS ?_
     refine rvS ?_
     refine rvP C (.pv (.lit (.bool true))) ?_
     refine rvc_nil ?_
     refine Awp.condT (b := true) rfl rfl ?_
     refine Awp.consP C ?_
     refine rvP C (.sl 900 0 l.length 4 false) ?_
     refine rvP C (.agg [.pv (.lit (.int .i64 ra1.epoch)), sS (some ra1.members.nil) eMember ra1.members.D]) ?_
     refine rvP C (.sl 900 0 l.length 4 false) ?_
     refine rvc_un (rexec_prim C (δ := { v := .undef, wr := [(9, some (.cells [.pv (.lit (.int .i64 ra1.epoch)), sS (some ra1.members.nil) eMember ra1.members.D]))] }) rfl rfl rfl rfl trivial rfl ?_)
     refine rvP C (.pv (.lit (.int .i64 0))) ?_
     refine rvc_nil ?_
     refine Awp.freezeW 900 (encL eCommand l) ?_ [(8, sS (some l.isEmpty) eCommand l), (9, .ptr 9 0), (10, .pv (.lit (.int .i64 0)))] [(4, .cells [.pv (.lit (.int .i64 ra1.epoch)), sS (some ra1.members.nil) eMember ra1.members.D]), (6, .cells [.pv (.lit (.int .i64 (h 0))), .pv (.lit (.int .i64 (h 1))), .pv (.lit (.int .i64 (h 2))), .pv (.lit (.int .i64 (h 3))), .pv (.lit (.int .i64 (h 4))), .pv (.lit (.int .i64 (h 5)))]), (7, .cells [.pv (.lit (.int .i64 (w 0))), .pv (.lit (.int .i64 (w 1))), .pv (.lit (.int .i64 (w 2)))]), (9, .cells [.pv (.lit (.int .i64 ra1.epoch)), sS (some ra1.members.nil) eMember ra1.members.D]), (12, .cells [.pv (.lit (.int .i64 nx2.1.kind)), .pv (.lit (.int .i64 nx2.1.node)), .pv (.lit (.int .i64 nx2.1.site)), .pv (.lit (.int .i64 nx2.1.epoch))])] ?_ ?_ ?_
     · rfl
     · exact ⟨⟨_, rfl, .inl (.inr ⟨_, _, _, rfl, by rw [ne_isEmpty h3]; rfl⟩)⟩, ⟨_, rfl, .inl (.inl rfl)⟩, ⟨_, rfl, .inl (.inl rfl)⟩, trivial⟩
     · exact ⟨⟨(by show (4 : Nat) ≠ 900; decide), .inl rfl⟩, ⟨(by show (6 : Nat) ≠ 900; decide), .inl rfl⟩, ⟨(by show (7 : Nat) ≠ 900; decide), .inl rfl⟩, ⟨(by show (9 : Nat) ≠ 900; decide), .inl rfl⟩, ⟨(by show (12 : Nat) ≠ 900; decide), .inl rfl⟩, trivial⟩
     refine Awp.ret ?_
     subst hR
     exact ⟨.inl rfl, rfl⟩
    ·
     replace hR := of_false h27 hR
     refine rvO C (.ptr 4 0) ?_
     refine rvO C (.pv (.lit (.int .i64 ra1.epoch))) ?_
     refine rvO C (.pv (.lit (.bool (decide (ra1.epoch ≥ 1099511627776))))) ?_
     refine rvP C (.pv (.lit (.bool (decide (ra1.epoch ≥ 1099511627776))))) ?_
     refine rvc_nil ?_
     refine Awp.cond (b := (decide (ra1.epoch ≥ 1099511627776))) rfl (fun h28 => ?_) (fun h28 => ?_)
     ·
      replace hR := of_true h28 hR
      refine Awp.consP C ?_
      refine rvP C (.sl 900 0 l.length 4 false) ?_
      refine rvP C (.agg [.pv (.lit (.int .i64 ra1.epoch)), sS (some ra1.members.nil) eMember ra1.members.D]) ?_
      refine rvP C (.sl 900 0 l.length 4 false) ?_
      refine rvc_un (rexec_prim C (δ := { v := .undef, wr := [(9, some (.cells [.pv (.lit (.int .i64 ra1.epoch)), sS (some ra1.members.nil) eMember ra1.members.D]))] }) rfl rfl rfl rfl trivial rfl ?_)
      refine rvP C (.pv (.lit (.int .i64 0))) ?_
      refine rvc_nil ?_
      refine Awp.freezeW 900 (encL eCommand l) ?_ [(8, sS (some l.isEmpty) eCommand l), (9, .ptr 9 0), (10, .pv (.lit (.int .i64 0)))] [(4, .cells [.pv (.lit (.int .i64 ra1.epoch)), sS (some ra1.members.nil) eMember ra1.members.D]), (6, .cells [.pv (.lit (.int .i64 (h 0))), .pv (.lit (.int .i64 (h 1))), .pv (.lit (.int .i64 (h 2))), .pv (.lit (.int .i64 (h 3))), .pv (.lit (.int .i64 (h 4))), .pv (.lit (.int .i64 (h 5)))]), (7, .cells [.pv (.lit (.int .i64 (w 0))), .pv (.lit (.int .i64 (w 1))), .pv (.lit (.int .i64 (w 2)))]), (9, .cells [.pv (.lit (.int .i64 ra1.epoch)), sS (some ra1.members.nil) eMember ra1.members.D]), (12, .cells [.pv (.lit (.int .i64 nx2.1.kind)), .pv (.lit (.int .i64 nx2.1.node)), .pv (.lit (.int .i64 nx2.1.site)), .pv (.lit (.int .i64 nx2.1.epoch))])] ?_ ?_ ?_
      · rfl
      · exact ⟨⟨_, rfl, .inl (.inr ⟨_, _, _, rfl, by rw [ne_isEmpty h3]; rfl⟩)⟩, ⟨_, rfl, .inl (.inl rfl)⟩, ⟨_, rfl, .inl (.inl rfl)⟩, trivial⟩
      · exact ⟨⟨(by show (4 : Nat) ≠ 900; decide), .inl rfl⟩, ⟨(by show (6 : Nat) ≠ 900; decide), .inl rfl⟩, ⟨(by show (7 : Nat) ≠ 900; decide), .inl rfl⟩, ⟨(by show (9 : Nat) ≠ 900; decide), .inl rfl⟩, ⟨(by show (12 : Nat) ≠ 900; decide), .inl rfl⟩, trivial⟩
      refine Awp.ret ?_
      subst hR
      exact ⟨.inl rfl, rfl⟩
     ·
      replace hR := of_false h28 hR
      refine Awp.skip ?_
      refine Awp.consP C ?_
      refine rvP C (.agg [.pv (.lit (.int .i64 0)), sS (some true) eMember []]) ?_
      refine rvc_un (rexec_prim C (δ := { v := .ptr 15 0, new := [(15, .cells [.pv (.lit (.int .i64 0)), sS (some true) eMember []])] }) rfl rfl rfl rfl trivial rfl ?_)
      refine rvc_un (rexec_prim C (δ := { v := .undef, wr := [(15, some (.cells [.pv (.lit (.int .i64 0)), sS (some true) eMember []]))] }) rfl rfl rfl rfl trivial rfl ?_)
      refine rvc_nil ?_
      refine Awp.seq ?_
      refine Awp.consP C ?_
      refine rvP C (.ptr 12 0) ?_
      refine rvP C (.pv (.lit (.int .i64 nx2.1.kind))) ?_
      refine rvP C (.pv (.lit (.bool (nx2.1.kind == 1)))) ?_
      refine rvc_nil ?_
      refine Awp.cond (b := (nx2.1.kind == 1)) rfl (fun h29 => ?_) (fun h29 => ?_)
      ·
       replace hR := of_true h29 hR
       refine Awp.regionP C ?_
       refine rvP C (.agg [.pv (.lit (.int .i64 ra1.epoch)), sS (some ra1.members.nil) eMember ra1.members.D]) ?_
       refine rvP C (.ptr 12 1) ?_
       refine rvP C (.pv (.lit (.int .i64 nx2.1.node))) ?_
       obtain ⟨dr2, hq_dr2⟩ : ∃ q_, q_ = (drop ra1 nx2.1.node) := ⟨_, rfl⟩
       have hc_dr2 := (drop_calls ra1 nx2.1.node (by show ra1.members.D.length ≤ 1000000; have := check_len (c := (Chain.mk vc vc1)); have := check_le6 (c := (Chain.mk vc vc1)); have := beq_iff_eq.1 h25; have := eq_of_bne_false h26; have := of_decide_eq_false h28; have := beq_iff_eq.1 h29; omega))
       first | rw [← hq_dr2] at hR hc_dr2 | (unfold allP at hR; rw [← hq_dr2] at hR hc_dr2) | (unfold allP_l0 at hR; rw [← hq_dr2] at hR hc_dr2)
       refine rvc_un (rexec_call hP C rfl rfl rfl hc_dr2 ?_)
       refine rvP C (.tup [.agg [.pv (.lit (.int .i64 dr2.1.epoch)), sS (some dr2.1.members.nil) eMember dr2.1.members.D], .pv (.lit (.int .i64 dr2.2))]) ?_
       refine rvP C (.agg [.pv (.lit (.int .i64 dr2.1.epoch)), sS (some dr2.1.members.nil) eMember dr2.1.members.D]) ?_
       refine rvP C (.pv (.lit (.int .i64 dr2.2))) ?_
       refine rvc_un (rexec_prim C (δ := { v := .undef, wr := [(15, some (.cells [.pv (.lit (.int .i64 dr2.1.epoch)), sS (some dr2.1.members.nil) eMember dr2.1.members.D]))] }) rfl rfl rfl rfl trivial rfl ?_)
       refine rvP C (.pv (.lit (.int .i64 dr2.2))) ?_
       refine rvc_nil ?_
       refine Awp.seq ?_
       refine Awp.consP C ?_
       refine rvP C (.pv (.lit (.int .i64 dr2.2))) ?_
       refine rvP C (.pv (.lit (.bool (dr2.2 != 0)))) ?_
       refine rvP C (.pv (.lit (.bool (dr2.2 != 0)))) ?_
       refine rvc_case 67 (dr2.2 != 0) rfl (fun h30 => ?_) (fun h30 => ?_)
       ·
        replace hR := of_true h30 hR
        refine rvS ?_
        refine rvS ?_
        refine rvS ?_
        refine rvP C (.pv (.lit (.bool true))) ?_
        refine rvc_nil ?_
        refine Awp.condT (b := true) rfl rfl ?_
        refine Awp.consP C ?_
        refine rvP C (.sl 900 0 l.length 4 false) ?_
        refine rvP C (.agg [.pv (.lit (.int .i64 ra1.epoch)), sS (some ra1.members.nil) eMember ra1.members.D]) ?_
        refine rvP C (.sl 900 0 l.length 4 false) ?_
        refine rvc_un (rexec_prim C (δ := { v := .undef, wr := [(9, some (.cells [.pv (.lit (.int .i64 ra1.epoch)), sS (some ra1.members.nil) eMember ra1.members.D]))] }) rfl rfl rfl rfl trivial rfl ?_)
        refine rvP C (.pv (.lit (.int .i64 0))) ?_
        refine rvc_nil ?_
        refine Awp.freezeW 900 (encL eCommand l) ?_ [(8, sS (some l.isEmpty) eCommand l), (9, .ptr 9 0), (10, .pv (.lit (.int .i64 0)))] [(4, .cells [.pv (.lit (.int .i64 ra1.epoch)), sS (some ra1.members.nil) eMember ra1.members.D]), (6, .cells [.pv (.lit (.int .i64 (h 0))), .pv (.lit (.int .i64 (h 1))), .pv (.lit (.int .i64 (h 2))), .pv (.lit (.int .i64 (h 3))), .pv (.lit (.int .i64 (h 4))), .pv (.lit (.int .i64 (h 5)))]), (7, .cells [.pv (.lit (.int .i64 (w 0))), .pv (.lit (.int .i64 (w 1))), .pv (.lit (.int .i64 (w 2)))]), (9, .cells [.pv (.lit (.int .i64 ra1.epoch)), sS (some ra1.members.nil) eMember ra1.members.D]), (12, .cells [.pv (.lit (.int .i64 nx2.1.kind)), .pv (.lit (.int .i64 nx2.1.node)), .pv (.lit (.int .i64 nx2.1.site)), .pv (.lit (.int .i64 nx2.1.epoch))]), (15, .cells [.pv (.lit (.int .i64 dr2.1.epoch)), sS (some dr2.1.members.nil) eMember dr2.1.members.D])] ?_ ?_ ?_
        · rfl
        · exact ⟨⟨_, rfl, .inl (.inr ⟨_, _, _, rfl, by rw [ne_isEmpty h3]; rfl⟩)⟩, ⟨_, rfl, .inl (.inl rfl)⟩, ⟨_, rfl, .inl (.inl rfl)⟩, trivial⟩
        · exact ⟨⟨(by show (4 : Nat) ≠ 900; decide), .inl rfl⟩, ⟨(by show (6 : Nat) ≠ 900; decide), .inl rfl⟩, ⟨(by show (7 : Nat) ≠ 900; decide), .inl rfl⟩, ⟨(by show (9 : Nat) ≠ 900; decide), .inl rfl⟩, ⟨(by show (12 : Nat) ≠ 900; decide), .inl rfl⟩, ⟨(by show (15 : Nat) ≠ 900; decide), .inl rfl⟩, trivial⟩
        refine Awp.ret ?_
        subst hR
        exact ⟨.inl rfl, rfl⟩
       ·
        replace hR := of_false h30 hR
        refine rvO C (.agg [.pv (.lit (.int .i64 nx2.1.kind)), .pv (.lit (.int .i64 nx2.1.node)), .pv (.lit (.int .i64 nx2.1.site)), .pv (.lit (.int .i64 nx2.1.epoch))]) ?_
        refine rvc_open rfl rfl rfl (rexec_call hP C rfl rfl rfl (cmdCheck_calls nx2.1) ?_)
        refine rvO C (.pv (.lit (.bool ((cmdCheck nx2.1) != 0)))) ?_
        refine rvP C (.pv (.lit (.bool ((cmdCheck nx2.1) != 0)))) ?_
        refine rvc_nil ?_
        refine Awp.cond (b := ((cmdCheck nx2.1) != 0)) rfl (fun h31 => ?_) (fun h31 => ?_)
        ·
         replace hR := of_true h31 hR
         refine Awp.consP C ?_
         refine rvP C (.sl 900 0 l.length 4 false) ?_
         refine rvP C (.agg [.pv (.lit (.int .i64 ra1.epoch)), sS (some ra1.members.nil) eMember ra1.members.D]) ?_
         refine rvP C (.sl 900 0 l.length 4 false) ?_
         refine rvc_un (rexec_prim C (δ := { v := .undef, wr := [(9, some (.cells [.pv (.lit (.int .i64 ra1.epoch)), sS (some ra1.members.nil) eMember ra1.members.D]))] }) rfl rfl rfl rfl trivial rfl ?_)
         refine rvP C (.pv (.lit (.int .i64 0))) ?_
         refine rvc_nil ?_
         refine Awp.freezeW 900 (encL eCommand l) ?_ [(8, sS (some l.isEmpty) eCommand l), (9, .ptr 9 0), (10, .pv (.lit (.int .i64 0)))] [(4, .cells [.pv (.lit (.int .i64 ra1.epoch)), sS (some ra1.members.nil) eMember ra1.members.D]), (6, .cells [.pv (.lit (.int .i64 (h 0))), .pv (.lit (.int .i64 (h 1))), .pv (.lit (.int .i64 (h 2))), .pv (.lit (.int .i64 (h 3))), .pv (.lit (.int .i64 (h 4))), .pv (.lit (.int .i64 (h 5)))]), (7, .cells [.pv (.lit (.int .i64 (w 0))), .pv (.lit (.int .i64 (w 1))), .pv (.lit (.int .i64 (w 2)))]), (9, .cells [.pv (.lit (.int .i64 ra1.epoch)), sS (some ra1.members.nil) eMember ra1.members.D]), (12, .cells [.pv (.lit (.int .i64 nx2.1.kind)), .pv (.lit (.int .i64 nx2.1.node)), .pv (.lit (.int .i64 nx2.1.site)), .pv (.lit (.int .i64 nx2.1.epoch))]), (15, .cells [.pv (.lit (.int .i64 dr2.1.epoch)), sS (some dr2.1.members.nil) eMember dr2.1.members.D])] ?_ ?_ ?_
         · rfl
         · exact ⟨⟨_, rfl, .inl (.inr ⟨_, _, _, rfl, by rw [ne_isEmpty h3]; rfl⟩)⟩, ⟨_, rfl, .inl (.inl rfl)⟩, ⟨_, rfl, .inl (.inl rfl)⟩, trivial⟩
         · exact ⟨⟨(by show (4 : Nat) ≠ 900; decide), .inl rfl⟩, ⟨(by show (6 : Nat) ≠ 900; decide), .inl rfl⟩, ⟨(by show (7 : Nat) ≠ 900; decide), .inl rfl⟩, ⟨(by show (9 : Nat) ≠ 900; decide), .inl rfl⟩, ⟨(by show (12 : Nat) ≠ 900; decide), .inl rfl⟩, ⟨(by show (15 : Nat) ≠ 900; decide), .inl rfl⟩, trivial⟩
         refine Awp.ret ?_
         subst hR
         exact ⟨.inl rfl, rfl⟩
        ·
         replace hR := of_false h31 hR
         refine Awp.skip ?_
         refine Awp.region C (fun o => match o.dst with | some 77 => .writes [77, 900] | some 78 => .reads [15] | _ => .pure) (by kernel_rfl) ?_
         refine rvP C (.sl 900 0 l.length 4 false) ?_
         refine rvP C (.agg [.pv (.lit (.int .i64 nx2.1.kind)), .pv (.lit (.int .i64 nx2.1.node)), .pv (.lit (.int .i64 nx2.1.site)), .pv (.lit (.int .i64 nx2.1.epoch))]) ?_
         refine rvc_un (rexec_buildSliceF C eCommand [nx2.1] rfl rfl rfl rfl rfl rfl rfl (by decide) rfl ?_)
         refine rvc_un (rexec_append C rfl rfl rfl rfl rfl rfl rfl rfl (fun _ h => by cases h) rfl (en := eCommand) (D0 := l) (D := [nx2.1]) rfl rfl rfl rfl (by have := check_len (c := (Chain.mk vc vc1)); have := check_le6 (c := (Chain.mk vc vc1)); have := beq_iff_eq.1 h25; have := eq_of_bne_false h26; have := of_decide_eq_false h28; have := beq_iff_eq.1 h29; have := eq_of_bne_false h30; have := eq_of_bne_false h31; first | omega | (simp <;> omega)) (by decide) (nn := (l ++ [nx2.1]).length) (by simp) ?_)
         refine rvP C (.agg [.pv (.lit (.int .i64 dr2.1.epoch)), sS (some dr2.1.members.nil) eMember dr2.1.members.D]) ?_
         refine rvP C (.sl 77 0 ((l ++ [nx2.1]).length) 4 false) ?_
         refine rvc_un (rexec_prim C (δ := { v := .undef, wr := [(4, some (.cells [.pv (.lit (.int .i64 dr2.1.epoch)), sS (some dr2.1.members.nil) eMember dr2.1.members.D]))] }) rfl rfl rfl rfl trivial rfl ?_)
         refine rvc_nil ?_
         have h32 : (planM alive dr2.1.members.D) < (planM alive vc1.D) := by first | exact (stepA ha (c := Chain.mk vc vc1) (by assumption) (by assumption) (by assumption) (by assumption) (by assumption) (by assumption)).1 | exact (stepB ha (c := Chain.mk vc vc1) (by assumption) (by assumption) (by assumption) (by assumption) (by assumption) (by assumption)).1 | exact (stepC ha (c := Chain.mk vc vc1) (by assumption) (by assumption) (by assumption)).elim
         obtain ⟨nn, rfl⟩ : ∃ nn, n_ = nn + 1 := ⟨n_ - 1, by omega⟩
         refine ⟨nn, ((l ++ [nx2.1]), dr2.1.epoch, dr2.1.members), by omega, ⟨by show (planM alive dr2.1.members.D) ≤ nn; omega, hR, (by have hlt_ := ‹planM _ _ < planM _ _›; first | (have h_ := (stepA ha (c := Chain.mk vc vc1) (by assumption) (by assumption) (by assumption) (by assumption) (by assumption) (by assumption)); exact ⟨h_.2.1, h_.2.2, (by simp only [List.length_append, List.length_cons, List.length_nil]; omega)⟩) | (have h_ := (stepB ha (c := Chain.mk vc vc1) (by assumption) (by assumption) (by assumption) (by assumption) (by assumption) (by assumption)); exact ⟨h_.2.1, h_.2.2, (by simp only [List.length_append, List.length_cons, List.length_nil]; omega)⟩) | exact (stepC ha (c := Chain.mk vc vc1) (by assumption) (by assumption) (by assumption)).elim)⟩, ?_⟩
         · exact ⟨fun b => bif b == 900 then 77 else (fun b => b) b, WeakerR.ofL (Ks := [4, 6, 7, 9, 900]) hI ⟨⟨rfl, rfl⟩, ⟨rfl, rfl⟩, ⟨rfl, rfl⟩, ⟨rfl, rfl⟩, ⟨rfl, rfl⟩, ⟨grow_to rfl rfl app_ne rfl rfl, grow_within rfl⟩, trivial⟩ (okH_grow (fun _ => rfl) rfl rfl (okH_cons rfl rfl rfl rfl (okH_cons rfl rfl rfl rfl (okH_cons rfl rfl rfl rfl (okH_cons rfl rfl rfl rfl (okH_nil)))))) rfl⟩
      ·
       replace hR := of_false h29 hR
       refine Awp.regionP C ?_
       refine rvP C (.agg [.pv (.lit (.int .i64 ra1.epoch)), sS (some ra1.members.nil) eMember ra1.members.D]) ?_
       refine rvP C (.ptr 12 1) ?_
       refine rvP C (.pv (.lit (.int .i64 nx2.1.node))) ?_
       refine rvP C (.ptr 12 2) ?_
       refine rvP C (.pv (.lit (.int .i64 nx2.1.site))) ?_
       refine rvP C (.agg [.pv (.lit (.int .i64 nx2.1.node)), .pv (.lit (.int .i64 nx2.1.site)), .pv (.lit (.bool false))]) ?_
       obtain ⟨jo2, hq_jo2⟩ : ∃ q_, q_ = (join ra1 (Member.mk nx2.1.node nx2.1.site false)) := ⟨_, rfl⟩
       have hc_jo2 := (join_calls ra1 (Member.mk nx2.1.node nx2.1.site false) (by assumption) (by show ra1.members.D.length ≤ 1000000; have := check_len (c := (Chain.mk vc vc1)); have := check_le6 (c := (Chain.mk vc vc1)); have := beq_iff_eq.1 h25; have := eq_of_bne_false h26; have := of_decide_eq_false h28; have := ne_of_beq_false h29; omega))
       first | rw [← hq_jo2] at hR hc_jo2 | (unfold allP at hR; rw [← hq_jo2] at hR hc_jo2) | (unfold allP_l0 at hR; rw [← hq_jo2] at hR hc_jo2)
       refine rvc_un (rexec_call hP C rfl rfl rfl hc_jo2 ?_)
       refine rvP C (.tup [.agg [.pv (.lit (.int .i64 jo2.1.epoch)), sS (some jo2.1.members.nil) eMember jo2.1.members.D], .pv (.lit (.int .i64 jo2.2))]) ?_
       refine rvP C (.agg [.pv (.lit (.int .i64 jo2.1.epoch)), sS (some jo2.1.members.nil) eMember jo2.1.members.D]) ?_
       refine rvP C (.pv (.lit (.int .i64 jo2.2))) ?_
       refine rvc_un (rexec_prim C (δ := { v := .undef, wr := [(15, some (.cells [.pv (.lit (.int .i64 jo2.1.epoch)), sS (some jo2.1.members.nil) eMember jo2.1.members.D]))] }) rfl rfl rfl rfl trivial rfl ?_)
       refine rvP C (.pv (.lit (.int .i64 jo2.2))) ?_
       refine rvc_nil ?_
       refine Awp.seq ?_
       refine Awp.consP C ?_
       refine rvP C (.pv (.lit (.int .i64 jo2.2))) ?_
       refine rvP C (.pv (.lit (.bool (jo2.2 != 0)))) ?_
       refine rvP C (.pv (.lit (.bool (jo2.2 != 0)))) ?_
       refine rvc_case 67 (jo2.2 != 0) rfl (fun h33 => ?_) (fun h33 => ?_)
       ·
        replace hR := of_true h33 hR
        refine rvS ?_
        refine rvS ?_
        refine rvS ?_
        refine rvP C (.pv (.lit (.bool true))) ?_
        refine rvc_nil ?_
        refine Awp.condT (b := true) rfl rfl ?_
        refine Awp.consP C ?_
        refine rvP C (.sl 900 0 l.length 4 false) ?_
        refine rvP C (.agg [.pv (.lit (.int .i64 ra1.epoch)), sS (some ra1.members.nil) eMember ra1.members.D]) ?_
        refine rvP C (.sl 900 0 l.length 4 false) ?_
        refine rvc_un (rexec_prim C (δ := { v := .undef, wr := [(9, some (.cells [.pv (.lit (.int .i64 ra1.epoch)), sS (some ra1.members.nil) eMember ra1.members.D]))] }) rfl rfl rfl rfl trivial rfl ?_)
        refine rvP C (.pv (.lit (.int .i64 0))) ?_
        refine rvc_nil ?_
        refine Awp.freezeW 900 (encL eCommand l) ?_ [(8, sS (some l.isEmpty) eCommand l), (9, .ptr 9 0), (10, .pv (.lit (.int .i64 0)))] [(4, .cells [.pv (.lit (.int .i64 ra1.epoch)), sS (some ra1.members.nil) eMember ra1.members.D]), (6, .cells [.pv (.lit (.int .i64 (h 0))), .pv (.lit (.int .i64 (h 1))), .pv (.lit (.int .i64 (h 2))), .pv (.lit (.int .i64 (h 3))), .pv (.lit (.int .i64 (h 4))), .pv (.lit (.int .i64 (h 5)))]), (7, .cells [.pv (.lit (.int .i64 (w 0))), .pv (.lit (.int .i64 (w 1))), .pv (.lit (.int .i64 (w 2)))]), (9, .cells [.pv (.lit (.int .i64 ra1.epoch)), sS (some ra1.members.nil) eMember ra1.members.D]), (12, .cells [.pv (.lit (.int .i64 nx2.1.kind)), .pv (.lit (.int .i64 nx2.1.node)), .pv (.lit (.int .i64 nx2.1.site)), .pv (.lit (.int .i64 nx2.1.epoch))]), (15, .cells [.pv (.lit (.int .i64 jo2.1.epoch)), sS (some jo2.1.members.nil) eMember jo2.1.members.D])] ?_ ?_ ?_
        · rfl
        · exact ⟨⟨_, rfl, .inl (.inr ⟨_, _, _, rfl, by rw [ne_isEmpty h3]; rfl⟩)⟩, ⟨_, rfl, .inl (.inl rfl)⟩, ⟨_, rfl, .inl (.inl rfl)⟩, trivial⟩
        · exact ⟨⟨(by show (4 : Nat) ≠ 900; decide), .inl rfl⟩, ⟨(by show (6 : Nat) ≠ 900; decide), .inl rfl⟩, ⟨(by show (7 : Nat) ≠ 900; decide), .inl rfl⟩, ⟨(by show (9 : Nat) ≠ 900; decide), .inl rfl⟩, ⟨(by show (12 : Nat) ≠ 900; decide), .inl rfl⟩, ⟨(by show (15 : Nat) ≠ 900; decide), .inl rfl⟩, trivial⟩
        refine Awp.ret ?_
        subst hR
        exact ⟨.inl rfl, rfl⟩
       ·
        replace hR := of_false h33 hR
        refine rvO C (.agg [.pv (.lit (.int .i64 nx2.1.kind)), .pv (.lit (.int .i64 nx2.1.node)), .pv (.lit (.int .i64 nx2.1.site)), .pv (.lit (.int .i64 nx2.1.epoch))]) ?_
        refine rvc_open rfl rfl rfl (rexec_call hP C rfl rfl rfl (cmdCheck_calls nx2.1) ?_)
        refine rvO C (.pv (.lit (.bool ((cmdCheck nx2.1) != 0)))) ?_
        refine rvP C (.pv (.lit (.bool ((cmdCheck nx2.1) != 0)))) ?_
        refine rvc_nil ?_
        refine Awp.cond (b := ((cmdCheck nx2.1) != 0)) rfl (fun h34 => ?_) (fun h34 => ?_)
        ·
         replace hR := of_true h34 hR
         refine Awp.consP C ?_
         refine rvP C (.sl 900 0 l.length 4 false) ?_
         refine rvP C (.agg [.pv (.lit (.int .i64 ra1.epoch)), sS (some ra1.members.nil) eMember ra1.members.D]) ?_
         refine rvP C (.sl 900 0 l.length 4 false) ?_
         refine rvc_un (rexec_prim C (δ := { v := .undef, wr := [(9, some (.cells [.pv (.lit (.int .i64 ra1.epoch)), sS (some ra1.members.nil) eMember ra1.members.D]))] }) rfl rfl rfl rfl trivial rfl ?_)
         refine rvP C (.pv (.lit (.int .i64 0))) ?_
         refine rvc_nil ?_
         refine Awp.freezeW 900 (encL eCommand l) ?_ [(8, sS (some l.isEmpty) eCommand l), (9, .ptr 9 0), (10, .pv (.lit (.int .i64 0)))] [(4, .cells [.pv (.lit (.int .i64 ra1.epoch)), sS (some ra1.members.nil) eMember ra1.members.D]), (6, .cells [.pv (.lit (.int .i64 (h 0))), .pv (.lit (.int .i64 (h 1))), .pv (.lit (.int .i64 (h 2))), .pv (.lit (.int .i64 (h 3))), .pv (.lit (.int .i64 (h 4))), .pv (.lit (.int .i64 (h 5)))]), (7, .cells [.pv (.lit (.int .i64 (w 0))), .pv (.lit (.int .i64 (w 1))), .pv (.lit (.int .i64 (w 2)))]), (9, .cells [.pv (.lit (.int .i64 ra1.epoch)), sS (some ra1.members.nil) eMember ra1.members.D]), (12, .cells [.pv (.lit (.int .i64 nx2.1.kind)), .pv (.lit (.int .i64 nx2.1.node)), .pv (.lit (.int .i64 nx2.1.site)), .pv (.lit (.int .i64 nx2.1.epoch))]), (15, .cells [.pv (.lit (.int .i64 jo2.1.epoch)), sS (some jo2.1.members.nil) eMember jo2.1.members.D])] ?_ ?_ ?_
         · rfl
         · exact ⟨⟨_, rfl, .inl (.inr ⟨_, _, _, rfl, by rw [ne_isEmpty h3]; rfl⟩)⟩, ⟨_, rfl, .inl (.inl rfl)⟩, ⟨_, rfl, .inl (.inl rfl)⟩, trivial⟩
         · exact ⟨⟨(by show (4 : Nat) ≠ 900; decide), .inl rfl⟩, ⟨(by show (6 : Nat) ≠ 900; decide), .inl rfl⟩, ⟨(by show (7 : Nat) ≠ 900; decide), .inl rfl⟩, ⟨(by show (9 : Nat) ≠ 900; decide), .inl rfl⟩, ⟨(by show (12 : Nat) ≠ 900; decide), .inl rfl⟩, ⟨(by show (15 : Nat) ≠ 900; decide), .inl rfl⟩, trivial⟩
         refine Awp.ret ?_
         subst hR
         exact ⟨.inl rfl, rfl⟩
        ·
         replace hR := of_false h34 hR
         refine Awp.skip ?_
         refine Awp.region C (fun o => match o.dst with | some 77 => .writes [77, 900] | some 78 => .reads [15] | _ => .pure) (by kernel_rfl) ?_
         refine rvP C (.sl 900 0 l.length 4 false) ?_
         refine rvP C (.agg [.pv (.lit (.int .i64 nx2.1.kind)), .pv (.lit (.int .i64 nx2.1.node)), .pv (.lit (.int .i64 nx2.1.site)), .pv (.lit (.int .i64 nx2.1.epoch))]) ?_
         refine rvc_un (rexec_buildSliceF C eCommand [nx2.1] rfl rfl rfl rfl rfl rfl rfl (by decide) rfl ?_)
         refine rvc_un (rexec_append C rfl rfl rfl rfl rfl rfl rfl rfl (fun _ h => by cases h) rfl (en := eCommand) (D0 := l) (D := [nx2.1]) rfl rfl rfl rfl (by have := check_len (c := (Chain.mk vc vc1)); have := check_le6 (c := (Chain.mk vc vc1)); have := beq_iff_eq.1 h25; have := eq_of_bne_false h26; have := of_decide_eq_false h28; have := ne_of_beq_false h29; have := eq_of_bne_false h33; have := eq_of_bne_false h34; first | omega | (simp <;> omega)) (by decide) (nn := (l ++ [nx2.1]).length) (by simp) ?_)
         refine rvP C (.agg [.pv (.lit (.int .i64 jo2.1.epoch)), sS (some jo2.1.members.nil) eMember jo2.1.members.D]) ?_
         refine rvP C (.sl 77 0 ((l ++ [nx2.1]).length) 4 false) ?_
         refine rvc_un (rexec_prim C (δ := { v := .undef, wr := [(4, some (.cells [.pv (.lit (.int .i64 jo2.1.epoch)), sS (some jo2.1.members.nil) eMember jo2.1.members.D]))] }) rfl rfl rfl rfl trivial rfl ?_)
         refine rvc_nil ?_
         have h35 : (planM alive jo2.1.members.D) < (planM alive vc1.D) := by first | exact (stepA ha (c := Chain.mk vc vc1) (by assumption) (by assumption) (by assumption) (by assumption) (by assumption) (by assumption)).1 | exact (stepB ha (c := Chain.mk vc vc1) (by assumption) (by assumption) (by assumption) (by assumption) (by assumption) (by assumption)).1 | exact (stepC ha (c := Chain.mk vc vc1) (by assumption) (by assumption) (by assumption)).elim
         obtain ⟨nn, rfl⟩ : ∃ nn, n_ = nn + 1 := ⟨n_ - 1, by omega⟩
         refine ⟨nn, ((l ++ [nx2.1]), jo2.1.epoch, jo2.1.members), by omega, ⟨by show (planM alive jo2.1.members.D) ≤ nn; omega, hR, (by have hlt_ := ‹planM _ _ < planM _ _›; first | (have h_ := (stepA ha (c := Chain.mk vc vc1) (by assumption) (by assumption) (by assumption) (by assumption) (by assumption) (by assumption)); exact ⟨h_.2.1, h_.2.2, (by simp only [List.length_append, List.length_cons, List.length_nil]; omega)⟩) | (have h_ := (stepB ha (c := Chain.mk vc vc1) (by assumption) (by assumption) (by assumption) (by assumption) (by assumption) (by assumption)); exact ⟨h_.2.1, h_.2.2, (by simp only [List.length_append, List.length_cons, List.length_nil]; omega)⟩) | exact (stepC ha (c := Chain.mk vc vc1) (by assumption) (by assumption) (by assumption)).elim)⟩, ?_⟩
         · exact ⟨fun b => bif b == 900 then 77 else (fun b => b) b, WeakerR.ofL (Ks := [4, 6, 7, 9, 900]) hI ⟨⟨rfl, rfl⟩, ⟨rfl, rfl⟩, ⟨rfl, rfl⟩, ⟨rfl, rfl⟩, ⟨rfl, rfl⟩, ⟨grow_to rfl rfl app_ne rfl rfl, grow_within rfl⟩, trivial⟩ (okH_grow (fun _ => rfl) rfl rfl (okH_cons rfl rfl rfl rfl (okH_cons rfl rfl rfl rfl (okH_cons rfl rfl rfl rfl (okH_cons rfl rfl rfl rfl (okH_nil)))))) rfl⟩
  ·
   replace hR := of_false h25 hR
   refine Awp.skip ?_
   refine Awp.consP C ?_
   refine rvP C (.agg [.pv (.lit (.int .i64 vc)), sS (some vc1.nil) eMember vc1.D]) ?_
   refine rvP C (.pv (.lit (.int .u64 alive))) ?_
   refine rvP C (.agg [.pv (.lit (.int .i64 (h 0))), .pv (.lit (.int .i64 (h 1))), .pv (.lit (.int .i64 (h 2))), .pv (.lit (.int .i64 (h 3))), .pv (.lit (.int .i64 (h 4))), .pv (.lit (.int .i64 (h 5)))]) ?_
   refine rvP C (.agg [.pv (.lit (.int .i64 (w 0))), .pv (.lit (.int .i64 (w 1))), .pv (.lit (.int .i64 (w 2)))]) ?_
   obtain ⟨nx3, hq_nx3⟩ : ∃ q_, q_ = (nextP (Chain.mk vc vc1) alive h w) := ⟨_, rfl⟩
   have hc_nx3 := (nextP_calls (Chain.mk vc vc1) alive h w (by assumption) (by show vc1.D.length ≤ 1000000; have := check_len (c := (Chain.mk vc vc1)); have := check_le6 (c := (Chain.mk vc vc1)); have := ne_of_beq_false h25; omega))
   first | rw [← hq_nx3] at hR hc_nx3 | (unfold allP at hR; rw [← hq_nx3] at hR hc_nx3) | (unfold allP_l0 at hR; rw [← hq_nx3] at hR hc_nx3)
   refine rvc_un (rexec_call hP C rfl rfl rfl hc_nx3 ?_)
   refine rvP C (.tup [.agg [.pv (.lit (.int .i64 nx3.1.kind)), .pv (.lit (.int .i64 nx3.1.node)), .pv (.lit (.int .i64 nx3.1.site)), .pv (.lit (.int .i64 nx3.1.epoch))], .pv (.lit (.bool nx3.2.1)), .pv (.lit (.int .i64 nx3.2.2))]) ?_
   refine rvP C (.agg [.pv (.lit (.int .i64 nx3.1.kind)), .pv (.lit (.int .i64 nx3.1.node)), .pv (.lit (.int .i64 nx3.1.site)), .pv (.lit (.int .i64 nx3.1.epoch))]) ?_
   refine rvP C (.pv (.lit (.bool nx3.2.1))) ?_
   refine rvP C (.pv (.lit (.int .i64 nx3.2.2))) ?_
   refine rvc_un (rexec_prim C (δ := { v := .ptr 12 0, new := [(12, .cells [.pv (.lit (.int .i64 0)), .pv (.lit (.int .i64 0)), .pv (.lit (.int .i64 0)), .pv (.lit (.int .i64 0))])] }) rfl rfl rfl rfl trivial rfl ?_)
   refine rvc_un (rexec_prim C (δ := { v := .undef, wr := [(12, some (.cells [.pv (.lit (.int .i64 nx3.1.kind)), .pv (.lit (.int .i64 nx3.1.node)), .pv (.lit (.int .i64 nx3.1.site)), .pv (.lit (.int .i64 nx3.1.epoch))]))] }) rfl rfl rfl rfl trivial rfl ?_)
   refine rvP C (.pv (.lit (.bool nx3.2.1))) ?_
   refine rvP C (.pv (.lit (.int .i64 nx3.2.2))) ?_
   refine rvc_nil ?_
   refine Awp.seq ?_
   refine Awp.consP C ?_
   refine rvP C (.pv (.lit (.int .i64 nx3.2.2))) ?_
   refine rvP C (.pv (.lit (.bool (nx3.2.2 != 0)))) ?_
   refine rvc_nil ?_
   refine Awp.cond (b := (nx3.2.2 != 0)) rfl (fun h36 => ?_) (fun h36 => ?_)
   ·
    replace hR := of_true h36 hR
    refine Awp.consP C ?_
    refine rvP C (.agg [.pv (.lit (.int .i64 0)), sS (some true) eMember []]) ?_
    refine rvP C (.pv (.lit (.int .i64 nx3.2.2))) ?_
    refine rvP C (sS (some true) eCommand []) ?_
    refine rvc_un (rexec_prim C (δ := { v := .undef, wr := [(9, some (.cells [.pv (.lit (.int .i64 0)), sS (some true) eMember []]))] }) rfl rfl rfl rfl trivial rfl ?_)
    refine rvP C (.pv (.lit (.int .i64 nx3.2.2))) ?_
    refine rvc_nil ?_
    refine Awp.ret ?_
    subst hR
    exact ⟨.inl rfl, rfl⟩
   ·
    replace hR := of_false h36 hR
    refine Awp.skip ?_
    refine Awp.seq ?_
    refine Awp.consP C ?_
    refine rvP C (.pv (.lit (.bool nx3.2.1))) ?_
    refine rvP C (.pv (.lit (.bool (!nx3.2.1)))) ?_
    refine rvP C (.pv (.lit (.bool (!nx3.2.1)))) ?_
    refine rvc_case 37 (!nx3.2.1) rfl (fun h37 => ?_) (fun h37 => ?_)
    ·
     replace hR := of_true h37 hR
     refine rvS ?_
     refine rvS ?_
     refine rvS ?_
     refine rvP C (.pv (.lit (.bool true))) ?_
     refine rvc_nil ?_
     refine Awp.condT (b := true) rfl rfl ?_
     refine Awp.consP C ?_
     refine rvP C (.sl 900 0 l.length 4 false) ?_
     refine rvP C (.agg [.pv (.lit (.int .i64 vc)), sS (some vc1.nil) eMember vc1.D]) ?_
     refine rvP C (.sl 900 0 l.length 4 false) ?_
     refine rvc_un (rexec_prim C (δ := { v := .undef, wr := [(9, some (.cells [.pv (.lit (.int .i64 vc)), sS (some vc1.nil) eMember vc1.D]))] }) rfl rfl rfl rfl trivial rfl ?_)
     refine rvP C (.pv (.lit (.int .i64 0))) ?_
     refine rvc_nil ?_
     refine Awp.freezeW 900 (encL eCommand l) ?_ [(8, sS (some l.isEmpty) eCommand l), (9, .ptr 9 0), (10, .pv (.lit (.int .i64 0)))] [(4, .cells [.pv (.lit (.int .i64 vc)), sS (some vc1.nil) eMember vc1.D]), (6, .cells [.pv (.lit (.int .i64 (h 0))), .pv (.lit (.int .i64 (h 1))), .pv (.lit (.int .i64 (h 2))), .pv (.lit (.int .i64 (h 3))), .pv (.lit (.int .i64 (h 4))), .pv (.lit (.int .i64 (h 5)))]), (7, .cells [.pv (.lit (.int .i64 (w 0))), .pv (.lit (.int .i64 (w 1))), .pv (.lit (.int .i64 (w 2)))]), (9, .cells [.pv (.lit (.int .i64 vc)), sS (some vc1.nil) eMember vc1.D]), (12, .cells [.pv (.lit (.int .i64 nx3.1.kind)), .pv (.lit (.int .i64 nx3.1.node)), .pv (.lit (.int .i64 nx3.1.site)), .pv (.lit (.int .i64 nx3.1.epoch))])] ?_ ?_ ?_
     · rfl
     · exact ⟨⟨_, rfl, .inl (.inr ⟨_, _, _, rfl, by rw [ne_isEmpty h3]; rfl⟩)⟩, ⟨_, rfl, .inl (.inl rfl)⟩, ⟨_, rfl, .inl (.inl rfl)⟩, trivial⟩
     · exact ⟨⟨(by show (4 : Nat) ≠ 900; decide), .inl rfl⟩, ⟨(by show (6 : Nat) ≠ 900; decide), .inl rfl⟩, ⟨(by show (7 : Nat) ≠ 900; decide), .inl rfl⟩, ⟨(by show (9 : Nat) ≠ 900; decide), .inl rfl⟩, ⟨(by show (12 : Nat) ≠ 900; decide), .inl rfl⟩, trivial⟩
     refine Awp.ret ?_
     subst hR
     exact ⟨.inl rfl, rfl⟩
    ·
     replace hR := of_false h37 hR
     refine rvO C (.ptr 4 0) ?_
     refine rvO C (.pv (.lit (.int .i64 vc))) ?_
     refine rvO C (.pv (.lit (.bool (decide (vc ≥ 1099511627776))))) ?_
     refine rvP C (.pv (.lit (.bool (decide (vc ≥ 1099511627776))))) ?_
     refine rvc_nil ?_
     refine Awp.cond (b := (decide (vc ≥ 1099511627776))) rfl (fun h38 => ?_) (fun h38 => ?_)
     ·
      replace hR := of_true h38 hR
      refine Awp.consP C ?_
      refine rvP C (.sl 900 0 l.length 4 false) ?_
      refine rvP C (.agg [.pv (.lit (.int .i64 vc)), sS (some vc1.nil) eMember vc1.D]) ?_
      refine rvP C (.sl 900 0 l.length 4 false) ?_
      refine rvc_un (rexec_prim C (δ := { v := .undef, wr := [(9, some (.cells [.pv (.lit (.int .i64 vc)), sS (some vc1.nil) eMember vc1.D]))] }) rfl rfl rfl rfl trivial rfl ?_)
      refine rvP C (.pv (.lit (.int .i64 0))) ?_
      refine rvc_nil ?_
      refine Awp.freezeW 900 (encL eCommand l) ?_ [(8, sS (some l.isEmpty) eCommand l), (9, .ptr 9 0), (10, .pv (.lit (.int .i64 0)))] [(4, .cells [.pv (.lit (.int .i64 vc)), sS (some vc1.nil) eMember vc1.D]), (6, .cells [.pv (.lit (.int .i64 (h 0))), .pv (.lit (.int .i64 (h 1))), .pv (.lit (.int .i64 (h 2))), .pv (.lit (.int .i64 (h 3))), .pv (.lit (.int .i64 (h 4))), .pv (.lit (.int .i64 (h 5)))]), (7, .cells [.pv (.lit (.int .i64 (w 0))), .pv (.lit (.int .i64 (w 1))), .pv (.lit (.int .i64 (w 2)))]), (9, .cells [.pv (.lit (.int .i64 vc)), sS (some vc1.nil) eMember vc1.D]), (12, .cells [.pv (.lit (.int .i64 nx3.1.kind)), .pv (.lit (.int .i64 nx3.1.node)), .pv (.lit (.int .i64 nx3.1.site)), .pv (.lit (.int .i64 nx3.1.epoch))])] ?_ ?_ ?_
      · rfl
      · exact ⟨⟨_, rfl, .inl (.inr ⟨_, _, _, rfl, by rw [ne_isEmpty h3]; rfl⟩)⟩, ⟨_, rfl, .inl (.inl rfl)⟩, ⟨_, rfl, .inl (.inl rfl)⟩, trivial⟩
      · exact ⟨⟨(by show (4 : Nat) ≠ 900; decide), .inl rfl⟩, ⟨(by show (6 : Nat) ≠ 900; decide), .inl rfl⟩, ⟨(by show (7 : Nat) ≠ 900; decide), .inl rfl⟩, ⟨(by show (9 : Nat) ≠ 900; decide), .inl rfl⟩, ⟨(by show (12 : Nat) ≠ 900; decide), .inl rfl⟩, trivial⟩
      refine Awp.ret ?_
      subst hR
      exact ⟨.inl rfl, rfl⟩
     ·
      replace hR := of_false h38 hR
      refine Awp.skip ?_
      refine Awp.consP C ?_
      refine rvP C (.agg [.pv (.lit (.int .i64 0)), sS (some true) eMember []]) ?_
      refine rvc_un (rexec_prim C (δ := { v := .ptr 15 0, new := [(15, .cells [.pv (.lit (.int .i64 0)), sS (some true) eMember []])] }) rfl rfl rfl rfl trivial rfl ?_)
      refine rvc_un (rexec_prim C (δ := { v := .undef, wr := [(15, some (.cells [.pv (.lit (.int .i64 0)), sS (some true) eMember []]))] }) rfl rfl rfl rfl trivial rfl ?_)
      refine rvc_nil ?_
      refine Awp.seq ?_
      refine Awp.consP C ?_
      refine rvP C (.ptr 12 0) ?_
      refine rvP C (.pv (.lit (.int .i64 nx3.1.kind))) ?_
      refine rvP C (.pv (.lit (.bool (nx3.1.kind == 1)))) ?_
      refine rvc_nil ?_
      refine Awp.cond (b := (nx3.1.kind == 1)) rfl (fun h39 => ?_) (fun h39 => ?_)
      ·
       replace hR := of_true h39 hR
       refine Awp.regionP C ?_
       refine rvP C (.agg [.pv (.lit (.int .i64 vc)), sS (some vc1.nil) eMember vc1.D]) ?_
       refine rvP C (.ptr 12 1) ?_
       refine rvP C (.pv (.lit (.int .i64 nx3.1.node))) ?_
       obtain ⟨dr3, hq_dr3⟩ : ∃ q_, q_ = (drop (Chain.mk vc vc1) nx3.1.node) := ⟨_, rfl⟩
       have hc_dr3 := (drop_calls (Chain.mk vc vc1) nx3.1.node (by show vc1.D.length ≤ 1000000; have := check_len (c := (Chain.mk vc vc1)); have := check_le6 (c := (Chain.mk vc vc1)); have := ne_of_beq_false h25; have := eq_of_bne_false h36; have := of_decide_eq_false h38; have := beq_iff_eq.1 h39; omega))
       first | rw [← hq_dr3] at hR hc_dr3 | (unfold allP at hR; rw [← hq_dr3] at hR hc_dr3) | (unfold allP_l0 at hR; rw [← hq_dr3] at hR hc_dr3)
       refine rvc_un (rexec_call hP C rfl rfl rfl hc_dr3 ?_)
       refine rvP C (.tup [.agg [.pv (.lit (.int .i64 dr3.1.epoch)), sS (some dr3.1.members.nil) eMember dr3.1.members.D], .pv (.lit (.int .i64 dr3.2))]) ?_
       refine rvP C (.agg [.pv (.lit (.int .i64 dr3.1.epoch)), sS (some dr3.1.members.nil) eMember dr3.1.members.D]) ?_
       refine rvP C (.pv (.lit (.int .i64 dr3.2))) ?_
       refine rvc_un (rexec_prim C (δ := { v := .undef, wr := [(15, some (.cells [.pv (.lit (.int .i64 dr3.1.epoch)), sS (some dr3.1.members.nil) eMember dr3.1.members.D]))] }) rfl rfl rfl rfl trivial rfl ?_)
       refine rvP C (.pv (.lit (.int .i64 dr3.2))) ?_
       refine rvc_nil ?_
       refine Awp.seq ?_
       refine Awp.consP C ?_
       refine rvP C (.pv (.lit (.int .i64 dr3.2))) ?_
       refine rvP C (.pv (.lit (.bool (dr3.2 != 0)))) ?_
       refine rvP C (.pv (.lit (.bool (dr3.2 != 0)))) ?_
       refine rvc_case 67 (dr3.2 != 0) rfl (fun h40 => ?_) (fun h40 => ?_)
       ·
        replace hR := of_true h40 hR
        refine rvS ?_
        refine rvS ?_
        refine rvS ?_
        refine rvP C (.pv (.lit (.bool true))) ?_
        refine rvc_nil ?_
        refine Awp.condT (b := true) rfl rfl ?_
        refine Awp.consP C ?_
        refine rvP C (.sl 900 0 l.length 4 false) ?_
        refine rvP C (.agg [.pv (.lit (.int .i64 vc)), sS (some vc1.nil) eMember vc1.D]) ?_
        refine rvP C (.sl 900 0 l.length 4 false) ?_
        refine rvc_un (rexec_prim C (δ := { v := .undef, wr := [(9, some (.cells [.pv (.lit (.int .i64 vc)), sS (some vc1.nil) eMember vc1.D]))] }) rfl rfl rfl rfl trivial rfl ?_)
        refine rvP C (.pv (.lit (.int .i64 0))) ?_
        refine rvc_nil ?_
        refine Awp.freezeW 900 (encL eCommand l) ?_ [(8, sS (some l.isEmpty) eCommand l), (9, .ptr 9 0), (10, .pv (.lit (.int .i64 0)))] [(4, .cells [.pv (.lit (.int .i64 vc)), sS (some vc1.nil) eMember vc1.D]), (6, .cells [.pv (.lit (.int .i64 (h 0))), .pv (.lit (.int .i64 (h 1))), .pv (.lit (.int .i64 (h 2))), .pv (.lit (.int .i64 (h 3))), .pv (.lit (.int .i64 (h 4))), .pv (.lit (.int .i64 (h 5)))]), (7, .cells [.pv (.lit (.int .i64 (w 0))), .pv (.lit (.int .i64 (w 1))), .pv (.lit (.int .i64 (w 2)))]), (9, .cells [.pv (.lit (.int .i64 vc)), sS (some vc1.nil) eMember vc1.D]), (12, .cells [.pv (.lit (.int .i64 nx3.1.kind)), .pv (.lit (.int .i64 nx3.1.node)), .pv (.lit (.int .i64 nx3.1.site)), .pv (.lit (.int .i64 nx3.1.epoch))]), (15, .cells [.pv (.lit (.int .i64 dr3.1.epoch)), sS (some dr3.1.members.nil) eMember dr3.1.members.D])] ?_ ?_ ?_
        · rfl
        · exact ⟨⟨_, rfl, .inl (.inr ⟨_, _, _, rfl, by rw [ne_isEmpty h3]; rfl⟩)⟩, ⟨_, rfl, .inl (.inl rfl)⟩, ⟨_, rfl, .inl (.inl rfl)⟩, trivial⟩
        · exact ⟨⟨(by show (4 : Nat) ≠ 900; decide), .inl rfl⟩, ⟨(by show (6 : Nat) ≠ 900; decide), .inl rfl⟩, ⟨(by show (7 : Nat) ≠ 900; decide), .inl rfl⟩, ⟨(by show (9 : Nat) ≠ 900; decide), .inl rfl⟩, ⟨(by show (12 : Nat) ≠ 900; decide), .inl rfl⟩, ⟨(by show (15 : Nat) ≠ 900; decide), .inl rfl⟩, trivial⟩
        refine Awp.ret ?_
        subst hR
        exact ⟨.inl rfl, rfl⟩
       ·
        replace hR := of_false h40 hR
        refine rvO C (.agg [.pv (.lit (.int .i64 nx3.1.kind)), .pv (.lit (.int .i64 nx3.1.node)), .pv (.lit (.int .i64 nx3.1.site)), .pv (.lit (.int .i64 nx3.1.epoch))]) ?_
        refine rvc_open rfl rfl rfl (rexec_call hP C rfl rfl rfl (cmdCheck_calls nx3.1) ?_)
        refine rvO C (.pv (.lit (.bool ((cmdCheck nx3.1) != 0)))) ?_
        refine rvP C (.pv (.lit (.bool ((cmdCheck nx3.1) != 0)))) ?_
        refine rvc_nil ?_
        refine Awp.cond (b := ((cmdCheck nx3.1) != 0)) rfl (fun h41 => ?_) (fun h41 => ?_)
        ·
         replace hR := of_true h41 hR
         refine Awp.consP C ?_
         refine rvP C (.sl 900 0 l.length 4 false) ?_
         refine rvP C (.agg [.pv (.lit (.int .i64 vc)), sS (some vc1.nil) eMember vc1.D]) ?_
         refine rvP C (.sl 900 0 l.length 4 false) ?_
         refine rvc_un (rexec_prim C (δ := { v := .undef, wr := [(9, some (.cells [.pv (.lit (.int .i64 vc)), sS (some vc1.nil) eMember vc1.D]))] }) rfl rfl rfl rfl trivial rfl ?_)
         refine rvP C (.pv (.lit (.int .i64 0))) ?_
         refine rvc_nil ?_
         refine Awp.freezeW 900 (encL eCommand l) ?_ [(8, sS (some l.isEmpty) eCommand l), (9, .ptr 9 0), (10, .pv (.lit (.int .i64 0)))] [(4, .cells [.pv (.lit (.int .i64 vc)), sS (some vc1.nil) eMember vc1.D]), (6, .cells [.pv (.lit (.int .i64 (h 0))), .pv (.lit (.int .i64 (h 1))), .pv (.lit (.int .i64 (h 2))), .pv (.lit (.int .i64 (h 3))), .pv (.lit (.int .i64 (h 4))), .pv (.lit (.int .i64 (h 5)))]), (7, .cells [.pv (.lit (.int .i64 (w 0))), .pv (.lit (.int .i64 (w 1))), .pv (.lit (.int .i64 (w 2)))]), (9, .cells [.pv (.lit (.int .i64 vc)), sS (some vc1.nil) eMember vc1.D]), (12, .cells [.pv (.lit (.int .i64 nx3.1.kind)), .pv (.lit (.int .i64 nx3.1.node)), .pv (.lit (.int .i64 nx3.1.site)), .pv (.lit (.int .i64 nx3.1.epoch))]), (15, .cells [.pv (.lit (.int .i64 dr3.1.epoch)), sS (some dr3.1.members.nil) eMember dr3.1.members.D])] ?_ ?_ ?_
         · rfl
         · exact ⟨⟨_, rfl, .inl (.inr ⟨_, _, _, rfl, by rw [ne_isEmpty h3]; rfl⟩)⟩, ⟨_, rfl, .inl (.inl rfl)⟩, ⟨_, rfl, .inl (.inl rfl)⟩, trivial⟩
         · exact ⟨⟨(by show (4 : Nat) ≠ 900; decide), .inl rfl⟩, ⟨(by show (6 : Nat) ≠ 900; decide), .inl rfl⟩, ⟨(by show (7 : Nat) ≠ 900; decide), .inl rfl⟩, ⟨(by show (9 : Nat) ≠ 900; decide), .inl rfl⟩, ⟨(by show (12 : Nat) ≠ 900; decide), .inl rfl⟩, ⟨(by show (15 : Nat) ≠ 900; decide), .inl rfl⟩, trivial⟩
         refine Awp.ret ?_
         subst hR
         exact ⟨.inl rfl, rfl⟩
        ·
         replace hR := of_false h41 hR
         refine Awp.skip ?_
         refine Awp.region C (fun o => match o.dst with | some 77 => .writes [77, 900] | some 78 => .reads [15] | _ => .pure) (by kernel_rfl) ?_
         refine rvP C (.sl 900 0 l.length 4 false) ?_
         refine rvP C (.agg [.pv (.lit (.int .i64 nx3.1.kind)), .pv (.lit (.int .i64 nx3.1.node)), .pv (.lit (.int .i64 nx3.1.site)), .pv (.lit (.int .i64 nx3.1.epoch))]) ?_
         refine rvc_un (rexec_buildSliceF C eCommand [nx3.1] rfl rfl rfl rfl rfl rfl rfl (by decide) rfl ?_)
         refine rvc_un (rexec_append C rfl rfl rfl rfl rfl rfl rfl rfl (fun _ h => by cases h) rfl (en := eCommand) (D0 := l) (D := [nx3.1]) rfl rfl rfl rfl (by have := check_len (c := (Chain.mk vc vc1)); have := check_le6 (c := (Chain.mk vc vc1)); have := ne_of_beq_false h25; have := eq_of_bne_false h36; have := of_decide_eq_false h38; have := beq_iff_eq.1 h39; have := eq_of_bne_false h40; have := eq_of_bne_false h41; first | omega | (simp <;> omega)) (by decide) (nn := (l ++ [nx3.1]).length) (by simp) ?_)
         refine rvP C (.agg [.pv (.lit (.int .i64 dr3.1.epoch)), sS (some dr3.1.members.nil) eMember dr3.1.members.D]) ?_
         refine rvP C (.sl 77 0 ((l ++ [nx3.1]).length) 4 false) ?_
         refine rvc_un (rexec_prim C (δ := { v := .undef, wr := [(4, some (.cells [.pv (.lit (.int .i64 dr3.1.epoch)), sS (some dr3.1.members.nil) eMember dr3.1.members.D]))] }) rfl rfl rfl rfl trivial rfl ?_)
         refine rvc_nil ?_
         have h42 : (planM alive dr3.1.members.D) < (planM alive vc1.D) := by first | exact (stepA ha (c := Chain.mk vc vc1) (by assumption) (by assumption) (by assumption) (by assumption) (by assumption) (by assumption)).1 | exact (stepB ha (c := Chain.mk vc vc1) (by assumption) (by assumption) (by assumption) (by assumption) (by assumption) (by assumption)).1 | exact (stepC ha (c := Chain.mk vc vc1) (by assumption) (by assumption) (by assumption)).elim
         obtain ⟨nn, rfl⟩ : ∃ nn, n_ = nn + 1 := ⟨n_ - 1, by omega⟩
         refine ⟨nn, ((l ++ [nx3.1]), dr3.1.epoch, dr3.1.members), by omega, ⟨by show (planM alive dr3.1.members.D) ≤ nn; omega, hR, (by have hlt_ := ‹planM _ _ < planM _ _›; first | (have h_ := (stepA ha (c := Chain.mk vc vc1) (by assumption) (by assumption) (by assumption) (by assumption) (by assumption) (by assumption)); exact ⟨h_.2.1, h_.2.2, (by simp only [List.length_append, List.length_cons, List.length_nil]; omega)⟩) | (have h_ := (stepB ha (c := Chain.mk vc vc1) (by assumption) (by assumption) (by assumption) (by assumption) (by assumption) (by assumption)); exact ⟨h_.2.1, h_.2.2, (by simp only [List.length_append, List.length_cons, List.length_nil]; omega)⟩) | exact (stepC ha (c := Chain.mk vc vc1) (by assumption) (by assumption) (by assumption)).elim)⟩, ?_⟩
         · exact ⟨fun b => bif b == 900 then 77 else (fun b => b) b, WeakerR.ofL (Ks := [4, 6, 7, 9, 900]) hI ⟨⟨rfl, rfl⟩, ⟨rfl, rfl⟩, ⟨rfl, rfl⟩, ⟨rfl, rfl⟩, ⟨rfl, rfl⟩, ⟨grow_to rfl rfl app_ne rfl rfl, grow_within rfl⟩, trivial⟩ (okH_grow (fun _ => rfl) rfl rfl (okH_cons rfl rfl rfl rfl (okH_cons rfl rfl rfl rfl (okH_cons rfl rfl rfl rfl (okH_cons rfl rfl rfl rfl (okH_nil)))))) rfl⟩
      ·
       replace hR := of_false h39 hR
       refine Awp.regionP C ?_
       refine rvP C (.agg [.pv (.lit (.int .i64 vc)), sS (some vc1.nil) eMember vc1.D]) ?_
       refine rvP C (.ptr 12 1) ?_
       refine rvP C (.pv (.lit (.int .i64 nx3.1.node))) ?_
       refine rvP C (.ptr 12 2) ?_
       refine rvP C (.pv (.lit (.int .i64 nx3.1.site))) ?_
       refine rvP C (.agg [.pv (.lit (.int .i64 nx3.1.node)), .pv (.lit (.int .i64 nx3.1.site)), .pv (.lit (.bool false))]) ?_
       obtain ⟨jo3, hq_jo3⟩ : ∃ q_, q_ = (join (Chain.mk vc vc1) (Member.mk nx3.1.node nx3.1.site false)) := ⟨_, rfl⟩
       have hc_jo3 := (join_calls (Chain.mk vc vc1) (Member.mk nx3.1.node nx3.1.site false) (by assumption) (by show vc1.D.length ≤ 1000000; have := check_len (c := (Chain.mk vc vc1)); have := check_le6 (c := (Chain.mk vc vc1)); have := ne_of_beq_false h25; have := eq_of_bne_false h36; have := of_decide_eq_false h38; have := ne_of_beq_false h39; omega))
       first | rw [← hq_jo3] at hR hc_jo3 | (unfold allP at hR; rw [← hq_jo3] at hR hc_jo3) | (unfold allP_l0 at hR; rw [← hq_jo3] at hR hc_jo3)
       refine rvc_un (rexec_call hP C rfl rfl rfl hc_jo3 ?_)
       refine rvP C (.tup [.agg [.pv (.lit (.int .i64 jo3.1.epoch)), sS (some jo3.1.members.nil) eMember jo3.1.members.D], .pv (.lit (.int .i64 jo3.2))]) ?_
       refine rvP C (.agg [.pv (.lit (.int .i64 jo3.1.epoch)), sS (some jo3.1.members.nil) eMember jo3.1.members.D]) ?_
       refine rvP C (.pv (.lit (.int .i64 jo3.2))) ?_
       refine rvc_un (rexec_prim C (δ := { v := .undef, wr := [(15, some (.cells [.pv (.lit (.int .i64 jo3.1.epoch)), sS (some jo3.1.members.nil) eMember jo3.1.members.D]))] }) rfl rfl rfl rfl trivial rfl ?_)
       refine rvP C (.pv (.lit (.int .i64 jo3.2))) ?_
       refine rvc_nil ?_
       refine Awp.seq ?_
       refine Awp.consP C ?_
       refine rvP C (.pv (.lit (.int .i64 jo3.2))) ?_
       refine rvP C (.pv (.lit (.bool (jo3.2 != 0)))) ?_
       refine rvP C (.pv (.lit (.bool (jo3.2 != 0)))) ?_
       refine rvc_case 67 (jo3.2 != 0) rfl (fun h43 => ?_) (fun h43 => ?_)
       ·
        replace hR := of_true h43 hR
        refine rvS ?_
        refine rvS ?_
        refine rvS ?_
        refine rvP C (.pv (.lit (.bool true))) ?_
        refine rvc_nil ?_
        refine Awp.condT (b := true) rfl rfl ?_
        refine Awp.consP C ?_
        refine rvP C (.sl 900 0 l.length 4 false) ?_
        refine rvP C (.agg [.pv (.lit (.int .i64 vc)), sS (some vc1.nil) eMember vc1.D]) ?_
        refine rvP C (.sl 900 0 l.length 4 false) ?_
        refine rvc_un (rexec_prim C (δ := { v := .undef, wr := [(9, some (.cells [.pv (.lit (.int .i64 vc)), sS (some vc1.nil) eMember vc1.D]))] }) rfl rfl rfl rfl trivial rfl ?_)
        refine rvP C (.pv (.lit (.int .i64 0))) ?_
        refine rvc_nil ?_
        refine Awp.freezeW 900 (encL eCommand l) ?_ [(8, sS (some l.isEmpty) eCommand l), (9, .ptr 9 0), (10, .pv (.lit (.int .i64 0)))] [(4, .cells [.pv (.lit (.int .i64 vc)), sS (some vc1.nil) eMember vc1.D]), (6, .cells [.pv (.lit (.int .i64 (h 0))), .pv (.lit (.int .i64 (h 1))), .pv (.lit (.int .i64 (h 2))), .pv (.lit (.int .i64 (h 3))), .pv (.lit (.int .i64 (h 4))), .pv (.lit (.int .i64 (h 5)))]), (7, .cells [.pv (.lit (.int .i64 (w 0))), .pv (.lit (.int .i64 (w 1))), .pv (.lit (.int .i64 (w 2)))]), (9, .cells [.pv (.lit (.int .i64 vc)), sS (some vc1.nil) eMember vc1.D]), (12, .cells [.pv (.lit (.int .i64 nx3.1.kind)), .pv (.lit (.int .i64 nx3.1.node)), .pv (.lit (.int .i64 nx3.1.site)), .pv (.lit (.int .i64 nx3.1.epoch))]), (15, .cells [.pv (.lit (.int .i64 jo3.1.epoch)), sS (some jo3.1.members.nil) eMember jo3.1.members.D])] ?_ ?_ ?_
        · rfl
        · exact ⟨⟨_, rfl, .inl (.inr ⟨_, _, _, rfl, by rw [ne_isEmpty h3]; rfl⟩)⟩, ⟨_, rfl, .inl (.inl rfl)⟩, ⟨_, rfl, .inl (.inl rfl)⟩, trivial⟩
        · exact ⟨⟨(by show (4 : Nat) ≠ 900; decide), .inl rfl⟩, ⟨(by show (6 : Nat) ≠ 900; decide), .inl rfl⟩, ⟨(by show (7 : Nat) ≠ 900; decide), .inl rfl⟩, ⟨(by show (9 : Nat) ≠ 900; decide), .inl rfl⟩, ⟨(by show (12 : Nat) ≠ 900; decide), .inl rfl⟩, ⟨(by show (15 : Nat) ≠ 900; decide), .inl rfl⟩, trivial⟩
        refine Awp.ret ?_
        subst hR
        exact ⟨.inl rfl, rfl⟩
       ·
        replace hR := of_false h43 hR
        refine rvO C (.agg [.pv (.lit (.int .i64 nx3.1.kind)), .pv (.lit (.int .i64 nx3.1.node)), .pv (.lit (.int .i64 nx3.1.site)), .pv (.lit (.int .i64 nx3.1.epoch))]) ?_
        refine rvc_open rfl rfl rfl (rexec_call hP C rfl rfl rfl (cmdCheck_calls nx3.1) ?_)
        refine rvO C (.pv (.lit (.bool ((cmdCheck nx3.1) != 0)))) ?_
        refine rvP C (.pv (.lit (.bool ((cmdCheck nx3.1) != 0)))) ?_
        refine rvc_nil ?_
        refine Awp.cond (b := ((cmdCheck nx3.1) != 0)) rfl (fun h44 => ?_) (fun h44 => ?_)
        ·
         replace hR := of_true h44 hR
         refine Awp.consP C ?_
         refine rvP C (.sl 900 0 l.length 4 false) ?_
         refine rvP C (.agg [.pv (.lit (.int .i64 vc)), sS (some vc1.nil) eMember vc1.D]) ?_
         refine rvP C (.sl 900 0 l.length 4 false) ?_
         refine rvc_un (rexec_prim C (δ := { v := .undef, wr := [(9, some (.cells [.pv (.lit (.int .i64 vc)), sS (some vc1.nil) eMember vc1.D]))] }) rfl rfl rfl rfl trivial rfl ?_)
         refine rvP C (.pv (.lit (.int .i64 0))) ?_
         refine rvc_nil ?_
         refine Awp.freezeW 900 (encL eCommand l) ?_ [(8, sS (some l.isEmpty) eCommand l), (9, .ptr 9 0), (10, .pv (.lit (.int .i64 0)))] [(4, .cells [.pv (.lit (.int .i64 vc)), sS (some vc1.nil) eMember vc1.D]), (6, .cells [.pv (.lit (.int .i64 (h 0))), .pv (.lit (.int .i64 (h 1))), .pv (.lit (.int .i64 (h 2))), .pv (.lit (.int .i64 (h 3))), .pv (.lit (.int .i64 (h 4))), .pv (.lit (.int .i64 (h 5)))]), (7, .cells [.pv (.lit (.int .i64 (w 0))), .pv (.lit (.int .i64 (w 1))), .pv (.lit (.int .i64 (w 2)))]), (9, .cells [.pv (.lit (.int .i64 vc)), sS (some vc1.nil) eMember vc1.D]), (12, .cells [.pv (.lit (.int .i64 nx3.1.kind)), .pv (.lit (.int .i64 nx3.1.node)), .pv (.lit (.int .i64 nx3.1.site)), .pv (.lit (.int .i64 nx3.1.epoch))]), (15, .cells [.pv (.lit (.int .i64 jo3.1.epoch)), sS (some jo3.1.members.nil) eMember jo3.1.members.D])] ?_ ?_ ?_
         · rfl
         · exact ⟨⟨_, rfl, .inl (.inr ⟨_, _, _, rfl, by rw [ne_isEmpty h3]; rfl⟩)⟩, ⟨_, rfl, .inl (.inl rfl)⟩, ⟨_, rfl, .inl (.inl rfl)⟩, trivial⟩
         · exact ⟨⟨(by show (4 : Nat) ≠ 900; decide), .inl rfl⟩, ⟨(by show (6 : Nat) ≠ 900; decide), .inl rfl⟩, ⟨(by show (7 : Nat) ≠ 900; decide), .inl rfl⟩, ⟨(by show (9 : Nat) ≠ 900; decide), .inl rfl⟩, ⟨(by show (12 : Nat) ≠ 900; decide), .inl rfl⟩, ⟨(by show (15 : Nat) ≠ 900; decide), .inl rfl⟩, trivial⟩
         refine Awp.ret ?_
         subst hR
         exact ⟨.inl rfl, rfl⟩
        ·
         replace hR := of_false h44 hR
         refine Awp.skip ?_
         refine Awp.region C (fun o => match o.dst with | some 77 => .writes [77, 900] | some 78 => .reads [15] | _ => .pure) (by kernel_rfl) ?_
         refine rvP C (.sl 900 0 l.length 4 false) ?_
         refine rvP C (.agg [.pv (.lit (.int .i64 nx3.1.kind)), .pv (.lit (.int .i64 nx3.1.node)), .pv (.lit (.int .i64 nx3.1.site)), .pv (.lit (.int .i64 nx3.1.epoch))]) ?_
         refine rvc_un (rexec_buildSliceF C eCommand [nx3.1] rfl rfl rfl rfl rfl rfl rfl (by decide) rfl ?_)
         refine rvc_un (rexec_append C rfl rfl rfl rfl rfl rfl rfl rfl (fun _ h => by cases h) rfl (en := eCommand) (D0 := l) (D := [nx3.1]) rfl rfl rfl rfl (by have := check_len (c := (Chain.mk vc vc1)); have := check_le6 (c := (Chain.mk vc vc1)); have := ne_of_beq_false h25; have := eq_of_bne_false h36; have := of_decide_eq_false h38; have := ne_of_beq_false h39; have := eq_of_bne_false h43; have := eq_of_bne_false h44; first | omega | (simp <;> omega)) (by decide) (nn := (l ++ [nx3.1]).length) (by simp) ?_)
         refine rvP C (.agg [.pv (.lit (.int .i64 jo3.1.epoch)), sS (some jo3.1.members.nil) eMember jo3.1.members.D]) ?_
         refine rvP C (.sl 77 0 ((l ++ [nx3.1]).length) 4 false) ?_
         refine rvc_un (rexec_prim C (δ := { v := .undef, wr := [(4, some (.cells [.pv (.lit (.int .i64 jo3.1.epoch)), sS (some jo3.1.members.nil) eMember jo3.1.members.D]))] }) rfl rfl rfl rfl trivial rfl ?_)
         refine rvc_nil ?_
         have h45 : (planM alive jo3.1.members.D) < (planM alive vc1.D) := by first | exact (stepA ha (c := Chain.mk vc vc1) (by assumption) (by assumption) (by assumption) (by assumption) (by assumption) (by assumption)).1 | exact (stepB ha (c := Chain.mk vc vc1) (by assumption) (by assumption) (by assumption) (by assumption) (by assumption) (by assumption)).1 | exact (stepC ha (c := Chain.mk vc vc1) (by assumption) (by assumption) (by assumption)).elim
         obtain ⟨nn, rfl⟩ : ∃ nn, n_ = nn + 1 := ⟨n_ - 1, by omega⟩
         refine ⟨nn, ((l ++ [nx3.1]), jo3.1.epoch, jo3.1.members), by omega, ⟨by show (planM alive jo3.1.members.D) ≤ nn; omega, hR, (by have hlt_ := ‹planM _ _ < planM _ _›; first | (have h_ := (stepA ha (c := Chain.mk vc vc1) (by assumption) (by assumption) (by assumption) (by assumption) (by assumption) (by assumption)); exact ⟨h_.2.1, h_.2.2, (by simp only [List.length_append, List.length_cons, List.length_nil]; omega)⟩) | (have h_ := (stepB ha (c := Chain.mk vc vc1) (by assumption) (by assumption) (by assumption) (by assumption) (by assumption) (by assumption)); exact ⟨h_.2.1, h_.2.2, (by simp only [List.length_append, List.length_cons, List.length_nil]; omega)⟩) | exact (stepC ha (c := Chain.mk vc vc1) (by assumption) (by assumption) (by assumption)).elim)⟩, ?_⟩
         · exact ⟨fun b => bif b == 900 then 77 else (fun b => b) b, WeakerR.ofL (Ks := [4, 6, 7, 9, 900]) hI ⟨⟨rfl, rfl⟩, ⟨rfl, rfl⟩, ⟨rfl, rfl⟩, ⟨rfl, rfl⟩, ⟨rfl, rfl⟩, ⟨grow_to rfl rfl app_ne rfl rfl, grow_within rfl⟩, trivial⟩ (okH_grow (fun _ => rfl) rfl rfl (okH_cons rfl rfl rfl rfl (okH_cons rfl rfl rfl rfl (okH_cons rfl rfl rfl rfl (okH_cons rfl rfl rfl rfl (okH_nil)))))) rfl⟩
 -- !! two models: ('(bif ((check (Chain.mk vc vc1)) == 0) then (bif (nx.2.2 != 0) then ((Sl.mk true []), (Chain.mk 0 (Sl.mk true [])), nx.2.2) else (bif (!nx.2.1) then ((Sl.mk l.isEmpty l), ra, 0) else (bif (decide (ra.epoch ≥ 1099511627776)) then ((Sl.mk l.isEmpty l), ra, 0) else (bif (nx.1.kind == 1) then (bif (dr.2 != 0) then ((Sl.mk l.isEmpty l), ra, 0) else (bif ((cmdCheck nx.1) != 0) then ((Sl.mk l.isEmpty l), ra, 0) else allP_l0 alive h w nn (l ++ [nx.1]) dr.1.epoch dr.1.members)) else (bif (jo.2 != 0) then ((Sl.mk l.isEmpty l), ra, 0) else (bif ((cmdCheck nx.1) != 0) then ((Sl.mk l.isEmpty l), ra, 0) else allP_l0 alive h w nn (l ++ [nx.1]) jo.1.epoch jo.1.members)))))) else (bif (nx1.2.2 != 0) then ((Sl.mk true []), (Chain.mk 0 (Sl.mk true [])), nx1.2.2) else (bif (!nx1.2.1) then ((Sl.mk l.isEmpty l), (Chain.mk vc vc1), 0) else (bif (decide (vc ≥ 1099511627776)) then ((Sl.mk l.isEmpty l), (Chain.mk vc vc1), 0) else (bif (nx1.1.kind == 1) then (bif (dr1.2 != 0) then ((Sl.mk l.isEmpty l), (Chain.mk vc vc1), 0) else (bif ((cmdCheck nx1.1) != 0) then ((Sl.mk l.isEmpty l), (Chain.mk vc vc1), 0) else allP_l0 alive h w nn (l ++ [nx1.1]) dr1.1.epoch dr1.1.members)) else (bif (jo1.2 != 0) then ((Sl.mk l.isEmpty l), (Chain.mk vc vc1), 0) else (bif ((cmdCheck nx1.1) != 0) then ((Sl.mk l.isEmpty l), (Chain.mk vc vc1), 0) else allP_l0 alive h w nn (l ++ [nx1.1]) jo1.1.epoch jo1.1.members)))))))', '') ||| ('(bif ((check (Chain.mk vc vc1)) == 0) then (bif (nx2.2.2 != 0) then ((Sl.mk true []), (Chain.mk 0 (Sl.mk true [])), nx2.2.2) else (bif (!nx2.2.1) then ((Sl.mk l.isEmpty l), ra1, 0) else (bif (decide (ra1.epoch ≥ 1099511627776)) then ((Sl.mk l.isEmpty l), ra1, 0) else (bif (nx2.1.kind == 1) then (bif (dr2.2 != 0) then ((Sl.mk l.isEmpty l), ra1, 0) else (bif ((cmdCheck nx2.1) != 0) then ((Sl.mk l.isEmpty l), ra1, 0) else allP_l0 alive h w nn (l ++ [nx2.1]) dr2.1.epoch dr2.1.members)) else (bif (jo2.2 != 0) then ((Sl.mk l.isEmpty l), ra1, 0) else (bif ((cmdCheck nx2.1) != 0) then ((Sl.mk l.isEmpty l), ra1, 0) else allP_l0 alive h w nn (l ++ [nx2.1]) jo2.1.epoch jo2.1.members)))))) else (bif (nx3.2.2 != 0) then ((Sl.mk true []), (Chain.mk 0 (Sl.mk true [])), nx3.2.2) else (bif (!nx3.2.1) then ((Sl.mk l.isEmpty l), (Chain.mk vc vc1), 0) else (bif (decide (vc ≥ 1099511627776)) then ((Sl.mk l.isEmpty l), (Chain.mk vc vc1), 0) else (bif (nx3.1.kind == 1) then (bif (dr3.2 != 0) then ((Sl.mk l.isEmpty l), (Chain.mk vc vc1), 0) else (bif ((cmdCheck nx3.1) != 0) then ((Sl.mk l.isEmpty l), (Chain.mk vc vc1), 0) else allP_l0 alive h w nn (l ++ [nx3.1]) dr3.1.epoch dr3.1.members)) else (bif (jo3.2 != 0) then ((Sl.mk l.isEmpty l), (Chain.mk vc vc1), 0) else (bif ((cmdCheck nx3.1) != 0) then ((Sl.mk l.isEmpty l), (Chain.mk vc vc1), 0) else allP_l0 alive h w nn (l ++ [nx3.1]) jo3.1.epoch jo3.1.members)))))))', '')
end Go.Proofs.Ytaffaalpgpepeaa
/- All commands, round by round, in plain Lean. No conditions. -/
namespace Go.Proofs.Ytaffaalpgpepeaa
open Go.Am
theorem sub_check {c : Chain} (hc : check c = 0) (he : c.epoch < 1099511627776) {l : List Member} (hl : l.Sublist c.members.D) (hne : l ≠ []) (hf : l[0]!.fresh = false) (f : Bool) : check ⟨c.epoch + 1, ⟨f, l⟩⟩ = 0 := by
  obtain ⟨⟨e1, e2⟩, _, _, hm, hp⟩ := (check_iff c).1 hc
  exact (check_iff _).2 ⟨⟨(by omega : 1 ≤ c.epoch + 1), (by omega : c.epoch + 1 ≤ 1099511627776)⟩, hne, hf, fun x hx => hm x (hl.subset hx), hp.sublist hl⟩
theorem drop_check {c : Chain} {n : Int} (hc : check c = 0) (h : (drop c n).2 = 0) : check (drop c n).1 = 0 ∧ (drop c n).1.epoch = c.epoch + 1 := by
  obtain ⟨e, he, hne⟩ := drop_some hc h
  rw [e]
  exact ⟨sub_check hc he ((List.dropWhile_sublist _).trans List.filter_sublist) hne (drop_head hne) _, rfl⟩
theorem putIn_eq (l : List Member) (n s : Int) : putIn l n s = (l.takeWhile fun x => decide (x.site ≤ s)) ++ ⟨n, s, true⟩ :: (l.dropWhile fun x => decide (x.site ≤ s)) := by
  unfold putIn insertL
  have ht : l.take (l.takeWhile fun x => decide (x.site ≤ s)).length = l.takeWhile fun x => decide (x.site ≤ s) := by
    conv => lhs; rhs; rw [← List.takeWhile_append_dropWhile (p := fun x : Member => decide (x.site ≤ s)) (l := l)]
    exact List.take_left' rfl
  have hdd : l.drop (l.takeWhile fun x => decide (x.site ≤ s)).length = l.dropWhile fun x => decide (x.site ≤ s) := by
    conv => lhs; rhs; rw [← List.takeWhile_append_dropWhile (p := fun x : Member => decide (x.site ≤ s)) (l := l)]
    exact List.drop_left' rfl
  rw [ht, hdd]; simp
theorem join_check {c : Chain} {n s : Int} {f : Bool} (hc : check c = 0) (h : (join c ⟨n, s, f⟩).2 = 0) : check (join c ⟨n, s, f⟩).1 = 0 ∧ (join c ⟨n, s, f⟩).1.epoch = c.epoch + 1 := by
  obtain ⟨e, he, hm, hpl, h3⟩ := join_some hc h
  have hp : placeIn c n = rPlace c n := by rw [← place_eq]; unfold place0; rw [hc]; rfl
  have hnone := place_none hc (n := n) (by omega)
  obtain ⟨⟨e1, e2⟩, hne, hf, hmm, hpp⟩ := (check_iff c).1 hc
  rw [e]
  refine ⟨?_, rfl⟩
  have hcat := List.takeWhile_append_dropWhile (p := fun x : Member => decide (x.site ≤ s)) (l := c.members.D)
  have hT := takeWhile_true (fun x : Member => decide (x.site ≤ s)) c.members.D
  have hDW := dropWhile_sites s c.members.D hpp
  have hsp := fun x => mem_split (c := c) (fun x : Member => decide (x.site ≤ s)) (x := x)
  rw [putIn_eq]
  revert h3 hcat hT hDW hsp
  generalize (c.members.D.takeWhile fun x => decide (x.site ≤ s)) = A
  generalize (c.members.D.dropWhile fun x => decide (x.site ≤ s)) = B
  intro h3 hcat hT hDW hsp
  have hAB := hpp
  rw [← hcat, List.pairwise_append] at hAB
  obtain ⟨pA, pB, pAB⟩ := hAB
  refine (check_iff _).2 ⟨⟨(by omega : 1 ≤ c.epoch + 1), (by omega : c.epoch + 1 ≤ 1099511627776)⟩, ?_, ?_, ?_, ?_⟩
  · show A ++ _ ≠ []; simp
  · cases A with
    | nil => exact absurd rfl h3
    | cons a A =>
      rw [← hcat] at hf
      exact hf
  · intro x hx
    rcases List.mem_append.1 hx with hx | hx
    · exact hmm x (hsp x (.inl hx))
    · cases hx with
      | head => exact hm
      | tail _ hx => exact hmm x (hsp x (.inr hx))
  · refine List.pairwise_append.2 ⟨pA, List.pairwise_cons.2 ⟨fun b hb => ⟨fun e => hnone b (hsp b (.inr hb)) e.symm, hDW b hb⟩, pB⟩, fun a ha b hb => ?_⟩
    cases hb with
    | head => exact ⟨fun e => hnone a (hsp a (.inl ha)) e, of_decide_eq_true (hT a ha)⟩
    | tail _ hb => exact pAB a ha b hb
def stepOf (r : Chain) (k : Command) : Chain := bif k.kind == 1 then (drop r k.node).1 else (join r ⟨k.node, k.site, false⟩).1
def runP (a : Int) (h w : Nat → Int) : Nat → Chain → List Command × Chain
  | 0, c => ([], readyAll c a)
  | n + 1, c => bif (nextP (readyAll c a) a h w).2.1 then ((nextP (readyAll c a) a h w).1 :: (runP a h w n (stepOf (readyAll c a) (nextP (readyAll c a) a h w).1)).1, (runP a h w n (stepOf (readyAll c a) (nextP (readyAll c a) a h w).1)).2) else ([], readyAll c a)
/-- What a round does. -/
theorem round_ok {c : Chain} {a : Int} {h w : Nat → Int} (ha : 0 ≤ a ∧ a < 18446744073709551616) (hc : check c = 0) (_ : planCheck h w = 0) (h2 : (nextP (readyAll c a) a h w).2.1 = true) :
    ∃ d, stepOf (readyAll c a) (nextP (readyAll c a) a h w).1 = d ∧ check d = 0 ∧ d.epoch = c.epoch + 1 ∧ c.epoch < 1099511627776 ∧ planM a d.members.D < planM a c.members.D ∧ cmdCheck (nextP (readyAll c a) a h w).1 = 0 ∧
    ((nextP (readyAll c a) a h w).1.kind = 1 ∧ drop (readyAll c a) (nextP (readyAll c a) a h w).1.node = (d, 0) ∨ (nextP (readyAll c a) a h w).1.kind = 2 ∧ join (readyAll c a) ⟨(nextP (readyAll c a) a h w).1.node, (nextP (readyAll c a) a h w).1.site, false⟩ = (d, 0)) := by
  have hr := readyAll_check a hc
  have he : (readyAll c a).epoch = c.epoch := (readyAll_eq a hc).1
  have hep := epoch_of hc
  generalize hx : nextP (readyAll c a) a h w = nx at h2 ⊢
  obtain ⟨_, _, _, ⟨x, hm, r1, r2, r3⟩ | ⟨_, n, s, hn, hs, _, _, _, e, r⟩⟩ := nextP_some ha hx h2
  · have k1 : nx.1.kind = 1 := by rw [r2]
    have lt := step_drop ha hc hx h2 k1
    have hn : nx.1.node = x.node := by rw [r2]
    have hst : stepOf (readyAll c a) nx.1 = (drop (readyAll c a) nx.1.node).1 := by
      unfold stepOf; rw [k1]; rfl
    rw [← hn] at r3
    have hd := drop_check hr r3
    obtain ⟨_, hlt, _⟩ := drop_some hr r3
    have hmo := mem_ok hr hm
    refine ⟨_, hst, hd.1, by rw [hd.2, he], by omega, lt, ?_, .inl ⟨k1, Prod.ext rfl r3⟩⟩
    rw [r2, he]
    unfold cmdCheck
    simp only [decide_eq_true (show x.node ≥ 0 from hmo.1), decide_eq_true (show c.epoch ≥ 1 from hep.1), decide_eq_true (show c.epoch ≤ 1099511627776 from hep.2), decide_eq_true (show x.node < 6 by omega)]
    rfl
  · have k2 : nx.1.kind = 2 := by rw [e]
    have hnode : nx.1.node = n := by rw [e]
    have hsite : nx.1.site = s := by rw [e]
    have lt := step_join ha hc hx h2 (by rw [k2]; decide)
    have hst : stepOf (readyAll c a) nx.1 = (join (readyAll c a) ⟨nx.1.node, nx.1.site, false⟩).1 := by
      unfold stepOf; rw [k2]; rfl
    rw [← hnode, ← hsite] at r
    have hd := join_check hr r
    obtain ⟨_, hlt, _⟩ := join_some hr r
    refine ⟨_, hst, hd.1, by rw [hd.2, he], by omega, lt, ?_, .inr ⟨k2, Prod.ext rfl r⟩⟩
    rw [e, he]
    unfold cmdCheck
    simp only [decide_eq_true (show (n : Int) ≥ 0 by omega), decide_eq_true (show (s : Int) ≥ 0 by omega), decide_eq_true (show c.epoch ≥ 1 from hep.1), decide_eq_true (show c.epoch ≤ 1099511627776 from hep.2), decide_eq_true (show (n : Int) < 6 by omega), decide_eq_true (show (s : Int) < 3 by omega)]
    rfl
theorem nextP_ok {c : Chain} {a : Int} {h w : Nat → Int} (hc : check c = 0) (hp : planCheck h w = 0) : (nextP c a h w).2.2 = 0 := by
  rcases nextP_cases (c := c) (a := a) (h := h) (w := w) rfl with ⟨h3, _⟩ | ⟨_, h3, _⟩ | ⟨_, _, _, h3, _⟩ | ⟨_, _, _, _, h3⟩ | ⟨_, _, _, _, h3⟩
  · exact absurd hc h3
  · exact absurd hp h3
  · exact h3
  · rw [h3]
  · rw [h3]
theorem allP_l0_run {a : Int} {h w : Nat → Int} (ha : 0 ≤ a ∧ a < 18446744073709551616) (hp : planCheck h w = 0) : ∀ (n : Nat) (l : List Command) (c : Chain), check c = 0 → planM a c.members.D < n → allP_l0 a h w n l c.epoch c.members = (⟨(l ++ (runP a h w n c).1).isEmpty, l ++ (runP a h w n c).1⟩, (runP a h w n c).2, 0)
  | 0, _, _, _, hm => by cases hm
  | n + 1, l, c, hc, hm => by
    unfold allP_l0 runP
    have hr := readyAll_check a hc
    have h0 := nextP_ok (a := a) (w := w) hr hp
    have hro := round_ok ha hc hp
    have he : (readyAll c a).epoch = c.epoch := (readyAll_eq a hc).1
    rw [show (check (Chain.mk c.epoch c.members) == 0) = true by rw [show (Chain.mk c.epoch c.members) = c from rfl, hc]; rfl, cond_true, show (Chain.mk c.epoch c.members) = c from rfl]
    generalize hra : readyAll c a = ra at *
    generalize hx : nextP ra a h w = nx at *
    rw [h0, show ((0 : Int) != 0) = false from rfl, cond_false]
    cases h2 : nx.2.1
    · rw [Bool.not_false, cond_true, cond_false, List.append_nil]
    · obtain ⟨d, hd, hdc, hde, hlt, hpm, hck, hk⟩ := hro h2
      have ih := allP_l0_run ha hp n (l ++ [nx.1]) d hdc (by omega)
      rw [hd, Bool.not_true, cond_false, cond_true, decide_eq_false (by omega), cond_false, hck, show ((0 : Int) != 0) = false from rfl, cond_false]
      rw [List.append_assoc] at ih
      rcases hk with ⟨k1, hk⟩ | ⟨k2, hk⟩
      · rw [k1, show ((1 : Int) == 1) = true from rfl, cond_true, hk]
        exact ih
      · rw [k2, show ((2 : Int) == 1) = false from rfl, cond_false, hk]
        exact ih
theorem runP_end {a : Int} {h w : Nat → Int} (ha : 0 ≤ a ∧ a < 18446744073709551616) (hp : planCheck h w = 0) : ∀ (n : Nat) (c : Chain), check c = 0 → planM a c.members.D < n → (runP a h w n c).1.length ≤ planM a c.members.D ∧ ∃ d, check d = 0 ∧ (runP a h w n c).2 = readyAll d a ∧ (nextP (readyAll d a) a h w).2.1 = false ∧ d.epoch ≤ c.epoch + planM a c.members.D
  | 0, _, _, hm => by cases hm
  | n + 1, c, hc, hm => by
    unfold runP
    cases hk : (nextP (readyAll c a) a h w).2.1
    · exact ⟨Nat.zero_le _, c, hc, rfl, hk, by omega⟩
    · obtain ⟨d, hd, hdc, hde, _, hpm, _⟩ := round_ok ha hc hp hk
      obtain ⟨r1, d', r2, r3, r4, r5⟩ := runP_end ha hp n d hdc (by omega)
      rw [hd]
      exact ⟨by rw [cond_true]; show (runP a h w n d).1.length + 1 ≤ _; omega, d', r2, r3, r4, by omega⟩
theorem allP_ok {c : Chain} {a : Int} {h w : Nat → Int} (ha : 0 ≤ a ∧ a < 18446744073709551616) (hc : check c = 0) (hp : planCheck h w = 0) : allP c a h w = (⟨(runP a h w (planM a c.members.D + 1) c).1.isEmpty, (runP a h w (planM a c.members.D + 1) c).1⟩, (runP a h w (planM a c.members.D + 1) c).2, 0) :=
  allP_l0_run ha hp _ [] c hc (Nat.lt_succ_self _)
theorem allP_bad {c : Chain} {a : Int} {h w : Nat → Int} (hc : check c ≠ 0) : allP c a h w = (⟨true, []⟩, ⟨0, ⟨true, []⟩⟩, 80) := by
  unfold allP allP_l0
  rw [show (check (Chain.mk c.epoch c.members) == 0) = false by rw [show (Chain.mk c.epoch c.members) = c from rfl]; simpa using hc, cond_false, show (Chain.mk c.epoch c.members) = c from rfl]
  have hn : nextP c a h w = (⟨0, 0, 0, 0⟩, false, 80) := by
    rcases nextP_cases (c := c) (a := a) (h := h) (w := w) rfl with ⟨_, h3⟩ | ⟨h3, _⟩ | ⟨h3, _⟩ | ⟨h3, _⟩ | ⟨h3, _⟩
    · rw [h3, check_bad (by simpa using hc)]
    all_goals exact absurd h3 hc
  rw [hn]; rfl
theorem planCheck_01 (h w : Nat → Int) : planCheck h w = 0 ∨ planCheck h w = 1 := by
  have key : ∀ k i, planCheck_l0 h w k i = 0 ∨ planCheck_l0 h w k i = 1 := by
    intro k
    induction k with
    | zero => intro i; exact planCheck_l1_r w 3 0
    | succ k ih =>
      intro i
      unfold planCheck_l0
      cases decide (h i < 0)
      · cases decide (h i ≥ 3)
        · exact ih (i + 1)
        · exact .inr rfl
      · exact .inr rfl
  exact key 6 0
theorem allP_bad2 {c : Chain} {a : Int} {h w : Nat → Int} (hc : check c = 0) (hp : planCheck h w ≠ 0) : allP c a h w = (⟨true, []⟩, ⟨0, ⟨true, []⟩⟩, 1) := by
  unfold allP allP_l0
  rw [show (check (Chain.mk c.epoch c.members) == 0) = true by rw [show (Chain.mk c.epoch c.members) = c from rfl, hc]; rfl, cond_true, show (Chain.mk c.epoch c.members) = c from rfl]
  have hr := readyAll_check a hc
  have hn : nextP (readyAll c a) a h w = (⟨0, 0, 0, 0⟩, false, 1) := by
    rcases nextP_cases (c := readyAll c a) (a := a) (h := h) (w := w) rfl with ⟨h3, _⟩ | ⟨_, _, h3⟩ | ⟨_, h3, _⟩ | ⟨_, h3, _⟩ | ⟨_, h3, _⟩
    · exact absurd hr h3
    · rcases planCheck_01 h w with e | e
      · exact absurd e hp
      · rw [h3, e]
    all_goals exact absurd h3 hp
  rw [hn]; rfl
theorem allP_le (c : Chain) (a : Int) (h w : Nat → Int) (ha : 0 ≤ a ∧ a < 18446744073709551616) : (allP c a h w).1.D.length ≤ 12 ∧ (allP c a h w).2.1.members.D.length ≤ 6 := by
  by_cases hc : check c = 0
  · by_cases hp : planCheck h w = 0
    · rw [allP_ok ha hc hp]
      obtain ⟨h1, d, h2, h3, _⟩ := runP_end ha hp (planM a c.members.D + 1) c hc (Nat.lt_succ_self _)
      have h4 := planM_le a c.members.D
      have h5 := check_le6 hc
      refine ⟨by show (runP a h w (planM a c.members.D + 1) c).1.length ≤ 12; omega, ?_⟩
      show (runP a h w (planM a c.members.D + 1) c).2.members.D.length ≤ 6
      rw [h3]
      exact check_le6 (readyAll_check a h2)
    · rw [allP_bad2 hc hp]; exact ⟨by decide, by decide⟩
  · rw [allP_bad hc]; exact ⟨by decide, by decide⟩
end Go.Proofs.Ytaffaalpgpepeaa
/- The example, a law. No conditions. -/
namespace Go.Proofs.Ytaffaalpgpepeaa
open Go.Am
def awake  : Bool :=
  (bif ((allP (Chain.mk 1 (Sl.mk false [(Member.mk 0 0 false), (Member.mk 1 1 false)])) (maskOf (Sl.mk false [0, 2])) (ofL [0, 1, 1, 0, 0, 0]) (ofL [1, 1, 0])).2.2 == 0) then (bif (eqCmds (allP (Chain.mk 1 (Sl.mk false [(Member.mk 0 0 false), (Member.mk 1 1 false)])) (maskOf (Sl.mk false [0, 2])) (ofL [0, 1, 1, 0, 0, 0]) (ofL [1, 1, 0])).1 (Sl.mk false [(Command.mk 1 1 0 1), (Command.mk 2 2 1 2)])) then (same (allP (Chain.mk 1 (Sl.mk false [(Member.mk 0 0 false), (Member.mk 1 1 false)])) (maskOf (Sl.mk false [0, 2])) (ofL [0, 1, 1, 0, 0, 0]) (ofL [1, 1, 0])).2.1 (Chain.mk 3 (Sl.mk false [(Member.mk 0 0 false), (Member.mk 2 1 false)]))) else false) else false)
theorem awake_calls   : PCalls Try.prog 9 [] (.pv (.lit (.bool (awake )))) := by
 generalize hR : awake  = R
 refine PCalls.of_body tabOk Try.func9 rfl rfl rfl rfl rfl mixed fun E hP C hI => ?_
 refine Awp.consP C ?_
 refine rvP C (.pv (.lit (.bool false))) ?_
 refine rvc_nil ?_
 refine Awp.consP C ?_
 refine rvP C (.agg [.pv (.lit (.int .i64 0)), .pv (.lit (.int .i64 0)), .pv (.lit (.bool false))]) ?_
 refine rvP C (.agg [.pv (.lit (.int .i64 1)), .pv (.lit (.int .i64 1)), .pv (.lit (.bool false))]) ?_
 refine rvc_un (rexec_buildSliceF C eMember [(Member.mk 0 0 false), (Member.mk 1 1 false)] rfl rfl rfl rfl rfl rfl rfl (by decide) rfl ?_)
 refine rvP C (.agg [.pv (.lit (.int .i64 1)), sS (some false) eMember [(Member.mk 0 0 false), (Member.mk 1 1 false)]]) ?_
 refine rvc_un (rexec_prim C (δ := { v := .ptr 1 0, new := [(1, .cells [.pv (.lit (.int .i64 0)), sS (some true) eMember []])] }) rfl rfl rfl rfl trivial rfl ?_)
 refine rvc_un (rexec_prim C (δ := { v := .undef, wr := [(1, some (.cells [.pv (.lit (.int .i64 1)), sS (some false) eMember [(Member.mk 0 0 false), (Member.mk 1 1 false)]]))] }) rfl rfl rfl rfl trivial rfl ?_)
 refine rvc_nil ?_
 refine Awp.consP C ?_
 refine rvP C (.agg [.pv (.lit (.int .i64 1)), sS (some false) eMember [(Member.mk 0 0 false), (Member.mk 1 1 false)]]) ?_
 refine rvc_un (rexec_buildSliceF C (eI .i64) [0, 2] rfl rfl rfl rfl rfl rfl rfl (by decide) rfl ?_)
 obtain ⟨ma, hq_ma⟩ : ∃ q_, q_ = (maskOf (Sl.mk false [0, 2])) := ⟨_, rfl⟩
 have hc_ma := (maskOf_calls (Sl.mk false [0, 2]) (of_decide_eq_true (by kernel_rfl)))
 first | rw [← hq_ma] at hR hc_ma | (unfold awake at hR; rw [← hq_ma] at hR hc_ma)
 have hf0_ma := maskOf_range (Sl.mk false [0, 2])
 rw [← hq_ma] at hf0_ma
 refine rvc_un (rexec_call hP C rfl rfl rfl hc_ma ?_)
 refine rvP C (.agg [.pv (.lit (.int .i64 0)), .pv (.lit (.int .i64 1)), .pv (.lit (.int .i64 1)), .pv (.lit (.int .i64 0)), .pv (.lit (.int .i64 0)), .pv (.lit (.int .i64 0))]) ?_
 refine rvP C (.agg [.pv (.lit (.int .i64 1)), .pv (.lit (.int .i64 1)), .pv (.lit (.int .i64 0))]) ?_
 obtain ⟨ap, hq_ap⟩ : ∃ q_, q_ = (allP (Chain.mk 1 (Sl.mk false [(Member.mk 0 0 false), (Member.mk 1 1 false)])) ma (ofL [0, 1, 1, 0, 0, 0]) (ofL [1, 1, 0])) := ⟨_, rfl⟩
 have hc_ap := (allP_calls (Chain.mk 1 (Sl.mk false [(Member.mk 0 0 false), (Member.mk 1 1 false)])) ma (ofL [0, 1, 1, 0, 0, 0]) (ofL [1, 1, 0]) (fun h => Bool.noConfusion h) (by assumption) (of_decide_eq_true (by kernel_rfl)))
 first | rw [← hq_ap] at hR hc_ap | (unfold awake at hR; rw [← hq_ap] at hR hc_ap)
 have hf0_ap := (allP_le (Chain.mk 1 (Sl.mk false [(Member.mk 0 0 false), (Member.mk 1 1 false)])) ma (ofL [0, 1, 1, 0, 0, 0]) (ofL [1, 1, 0]) (by assumption)).1
 rw [← hq_ap] at hf0_ap
 have hf1_ap := (allP_le (Chain.mk 1 (Sl.mk false [(Member.mk 0 0 false), (Member.mk 1 1 false)])) ma (ofL [0, 1, 1, 0, 0, 0]) (ofL [1, 1, 0]) (by assumption)).2
 rw [← hq_ap] at hf1_ap
 refine rvc_un (rexec_call hP C rfl rfl rfl hc_ap ?_)
 refine rvP C (.tup [sS (some ap.1.nil) eCommand ap.1.D, .agg [.pv (.lit (.int .i64 ap.2.1.epoch)), sS (some ap.2.1.members.nil) eMember ap.2.1.members.D], .pv (.lit (.int .i64 ap.2.2))]) ?_
 refine rvP C (sS (some ap.1.nil) eCommand ap.1.D) ?_
 refine rvP C (.agg [.pv (.lit (.int .i64 ap.2.1.epoch)), sS (some ap.2.1.members.nil) eMember ap.2.1.members.D]) ?_
 refine rvP C (.pv (.lit (.int .i64 ap.2.2))) ?_
 refine rvc_un (rexec_prim C (δ := { v := .ptr 3 0, new := [(3, .cells [.pv (.lit (.int .i64 0)), sS (some true) eMember []])] }) rfl rfl rfl rfl trivial rfl ?_)
 refine rvP C (sS (some ap.1.nil) eCommand ap.1.D) ?_
 refine rvc_un (rexec_prim C (δ := { v := .undef, wr := [(3, some (.cells [.pv (.lit (.int .i64 ap.2.1.epoch)), sS (some ap.2.1.members.nil) eMember ap.2.1.members.D]))] }) rfl rfl rfl rfl trivial rfl ?_)
 refine rvP C (.pv (.lit (.int .i64 ap.2.2))) ?_
 refine rvc_nil ?_
 refine Awp.consP C ?_
 refine rvP C (.pv (.lit (.int .i64 ap.2.2))) ?_
 refine rvP C (.pv (.lit (.bool (ap.2.2 == 0)))) ?_
 refine rvP C (.pv (.lit (.bool (ap.2.2 == 0)))) ?_
 refine rvc_case 21 (ap.2.2 == 0) rfl (fun h1 => ?_) (fun h1 => ?_)
 ·
  replace hR := of_true h1 hR
  refine rvO C (sS (some ap.1.nil) eCommand ap.1.D) ?_
  refine rvO C (.agg [.pv (.lit (.int .i64 1)), .pv (.lit (.int .i64 1)), .pv (.lit (.int .i64 0)), .pv (.lit (.int .i64 1))]) ?_
  refine rvO C (.agg [.pv (.lit (.int .i64 2)), .pv (.lit (.int .i64 2)), .pv (.lit (.int .i64 1)), .pv (.lit (.int .i64 2))]) ?_
  refine rvc_open rfl rfl rfl (rexec_buildSliceF C eCommand [(Command.mk 1 1 0 1), (Command.mk 2 2 1 2)] rfl rfl rfl rfl rfl rfl rfl (by decide) rfl ?_)
  obtain ⟨ec, hq_ec⟩ : ∃ q_, q_ = (eqCmds ap.1 (Sl.mk false [(Command.mk 1 1 0 1), (Command.mk 2 2 1 2)])) := ⟨_, rfl⟩
  have hc_ec := (eqCmds_calls ap.1 (Sl.mk false [(Command.mk 1 1 0 1), (Command.mk 2 2 1 2)]) (by first | omega | decide))
  first | rw [← hq_ec] at hR hc_ec | (unfold awake at hR; rw [← hq_ec] at hR hc_ec)
  refine rvc_open rfl rfl rfl (rexec_call hP C rfl rfl rfl hc_ec ?_)
  refine rvP C (.pv (.lit (.bool ec))) ?_
  refine rvP C (.pv (.lit (.bool ec))) ?_
  refine rvc_case 28 ec rfl (fun h2 => ?_) (fun h2 => ?_)
  ·
   replace hR := of_true h2 hR
   refine rvO C (.agg [.pv (.lit (.int .i64 ap.2.1.epoch)), sS (some ap.2.1.members.nil) eMember ap.2.1.members.D]) ?_
   refine rvO C (.agg [.pv (.lit (.int .i64 0)), .pv (.lit (.int .i64 0)), .pv (.lit (.bool false))]) ?_
   refine rvO C (.agg [.pv (.lit (.int .i64 2)), .pv (.lit (.int .i64 1)), .pv (.lit (.bool false))]) ?_
   refine rvc_open rfl rfl rfl (rexec_buildSliceF C eMember [(Member.mk 0 0 false), (Member.mk 2 1 false)] rfl rfl rfl rfl rfl rfl rfl (by decide) rfl ?_)
   refine rvO C (.agg [.pv (.lit (.int .i64 3)), sS (some false) eMember [(Member.mk 0 0 false), (Member.mk 2 1 false)]]) ?_
   obtain ⟨sm, hq_sm⟩ : ∃ q_, q_ = (same ap.2.1 (Chain.mk 3 (Sl.mk false [(Member.mk 0 0 false), (Member.mk 2 1 false)]))) := ⟨_, rfl⟩
   have hc_sm := (same_calls ap.2.1 (Chain.mk 3 (Sl.mk false [(Member.mk 0 0 false), (Member.mk 2 1 false)])) (by first | omega | decide))
   first | rw [← hq_sm] at hR hc_sm | (unfold awake at hR; rw [← hq_sm] at hR hc_sm)
   refine rvc_open rfl rfl rfl (rexec_call hP C rfl rfl rfl hc_sm ?_)
   refine rvP C (.pv (.lit (.bool sm))) ?_
   refine rvP C (.pv (.lit (.bool sm))) ?_
   refine rvc_nil ?_
   refine Awp.ret ?_
   subst hR
   exact ⟨.inl rfl, rfl⟩
  ·
   replace hR := of_false h2 hR
   refine rvS ?_
   refine rvS ?_
   refine rvS ?_
   refine rvS ?_
   refine rvS ?_
   refine rvS ?_
   refine rvP C (.pv (.lit (.bool false))) ?_
   refine rvP C (.pv (.lit (.bool false))) ?_
   refine rvc_nil ?_
   refine Awp.ret ?_
   subst hR
   exact ⟨.inl rfl, rfl⟩
 ·
  replace hR := of_false h1 hR
  refine rvS ?_
  refine rvS ?_
  refine rvS ?_
  refine rvS ?_
  refine rvS ?_
  refine rvP C (.pv (.lit (.bool false))) ?_
  refine rvP C (.pv (.lit (.bool false))) ?_
  refine rvS ?_
  refine rvS ?_
  refine rvS ?_
  refine rvS ?_
  refine rvS ?_
  refine rvS ?_
  refine rvP C (.pv (.lit (.bool false))) ?_
  refine rvP C (.pv (.lit (.bool false))) ?_
  refine rvc_nil ?_
  refine Awp.ret ?_
  subst hR
  exact ⟨.inl rfl, rfl⟩
end Go.Proofs.Ytaffaalpgpepeaa
/- The law PlanChecks in plain Lean: its model answers true. No conditions. -/
namespace Go.Proofs.Ytaffaalpgpepeaa
open Go.Am
theorem awake_true : awake = true := by kernel_rfl
theorem lacks_at (c : Chain) (w : Nat → Int) {i : Nat} (hi : i < 3) : lacks c w i = bif decide (w i > many c (i : Int)) then IntKind.i64.wrap (w i - many c (i : Int)) else 0 := by
  unfold lacks
  unfold lacks_l0 lacks_l0 lacks_l0 lacks_l0
  have e0 : ((0 : Nat) : Int) = 0 := rfl
  generalize h0 : decide (w 0 > many c ((0 : Nat) : Int)) = b0
  generalize h1 : decide (w (0 + 1) > many c ((0 + 1 : Nat) : Int)) = b1
  generalize h2 : decide (w (0 + 1 + 1) > many c ((0 + 1 + 1 : Nat) : Int)) = b2
  rcases (by omega : i = 0 ∨ i = 1 ∨ i = 2) with rfl | rfl | rfl
  · rw [h0]; cases b0 <;> cases b1 <;> cases b2 <;> rfl
  · rw [h1]; cases b0 <;> cases b1 <;> cases b2 <;> rfl
  · rw [h2]; cases b0 <;> cases b1 <;> cases b2 <;> rfl
end Go.Proofs.Ytaffaalpgpepeaa
/- The reference: the next command; a law. No conditions. -/
namespace Go.Proofs.Ytaffaalpgpepeaa
open Go.Am
def fromW_l0 : Nat → Nat → Int → (Nat → Bool) → (Nat → Bool)
  | 0, _, _, vc => vc
  | k + 1, i, w1, vc => fromW_l0 k (i + 1) (IntKind.u64.wrap (w1.tdiv 2)) (updA vc i ((w1.tmod 2) == 1))
def fromW (w : Int) : (Nat → Bool) :=
  fromW_l0 64 0 w (ofL [false, false, false, false, false, false, false, false, false, false, false, false, false, false, false, false, false, false, false, false, false, false, false, false, false, false, false, false, false, false, false, false, false, false, false, false, false, false, false, false, false, false, false, false, false, false, false, false, false, false, false, false, false, false, false, false, false, false, false, false, false, false, false, false])
theorem fromW_calls (w : Int)  : PCalls Try.prog 41 [.pv (.lit (.int .u64 w))] (.agg [.pv (.lit (.bool ((fromW w) 0))), .pv (.lit (.bool ((fromW w) 1))), .pv (.lit (.bool ((fromW w) 2))), .pv (.lit (.bool ((fromW w) 3))), .pv (.lit (.bool ((fromW w) 4))), .pv (.lit (.bool ((fromW w) 5))), .pv (.lit (.bool ((fromW w) 6))), .pv (.lit (.bool ((fromW w) 7))), .pv (.lit (.bool ((fromW w) 8))), .pv (.lit (.bool ((fromW w) 9))), .pv (.lit (.bool ((fromW w) 10))), .pv (.lit (.bool ((fromW w) 11))), .pv (.lit (.bool ((fromW w) 12))), .pv (.lit (.bool ((fromW w) 13))), .pv (.lit (.bool ((fromW w) 14))), .pv (.lit (.bool ((fromW w) 15))), .pv (.lit (.bool ((fromW w) 16))), .pv (.lit (.bool ((fromW w) 17))), .pv (.lit (.bool ((fromW w) 18))), .pv (.lit (.bool ((fromW w) 19))), .pv (.lit (.bool ((fromW w) 20))), .pv (.lit (.bool ((fromW w) 21))), .pv (.lit (.bool ((fromW w) 22))), .pv (.lit (.bool ((fromW w) 23))), .pv (.lit (.bool ((fromW w) 24))), .pv (.lit (.bool ((fromW w) 25))), .pv (.lit (.bool ((fromW w) 26))), .pv (.lit (.bool ((fromW w) 27))), .pv (.lit (.bool ((fromW w) 28))), .pv (.lit (.bool ((fromW w) 29))), .pv (.lit (.bool ((fromW w) 30))), .pv (.lit (.bool ((fromW w) 31))), .pv (.lit (.bool ((fromW w) 32))), .pv (.lit (.bool ((fromW w) 33))), .pv (.lit (.bool ((fromW w) 34))), .pv (.lit (.bool ((fromW w) 35))), .pv (.lit (.bool ((fromW w) 36))), .pv (.lit (.bool ((fromW w) 37))), .pv (.lit (.bool ((fromW w) 38))), .pv (.lit (.bool ((fromW w) 39))), .pv (.lit (.bool ((fromW w) 40))), .pv (.lit (.bool ((fromW w) 41))), .pv (.lit (.bool ((fromW w) 42))), .pv (.lit (.bool ((fromW w) 43))), .pv (.lit (.bool ((fromW w) 44))), .pv (.lit (.bool ((fromW w) 45))), .pv (.lit (.bool ((fromW w) 46))), .pv (.lit (.bool ((fromW w) 47))), .pv (.lit (.bool ((fromW w) 48))), .pv (.lit (.bool ((fromW w) 49))), .pv (.lit (.bool ((fromW w) 50))), .pv (.lit (.bool ((fromW w) 51))), .pv (.lit (.bool ((fromW w) 52))), .pv (.lit (.bool ((fromW w) 53))), .pv (.lit (.bool ((fromW w) 54))), .pv (.lit (.bool ((fromW w) 55))), .pv (.lit (.bool ((fromW w) 56))), .pv (.lit (.bool ((fromW w) 57))), .pv (.lit (.bool ((fromW w) 58))), .pv (.lit (.bool ((fromW w) 59))), .pv (.lit (.bool ((fromW w) 60))), .pv (.lit (.bool ((fromW w) 61))), .pv (.lit (.bool ((fromW w) 62))), .pv (.lit (.bool ((fromW w) 63)))]) := by
 generalize hR : fromW w = R
 refine PCalls.of_body tabOk Try.func41 rfl rfl rfl rfl rfl mixed fun E hP C hI => ?_
 refine Awp.consP C ?_
 refine rvc_un (rexec_prim C (δ := { v := .ptr 2 0, new := [(2, .cells [.pv (.lit (.bool false)), .pv (.lit (.bool false)), .pv (.lit (.bool false)), .pv (.lit (.bool false)), .pv (.lit (.bool false)), .pv (.lit (.bool false)), .pv (.lit (.bool false)), .pv (.lit (.bool false)), .pv (.lit (.bool false)), .pv (.lit (.bool false)), .pv (.lit (.bool false)), .pv (.lit (.bool false)), .pv (.lit (.bool false)), .pv (.lit (.bool false)), .pv (.lit (.bool false)), .pv (.lit (.bool false)), .pv (.lit (.bool false)), .pv (.lit (.bool false)), .pv (.lit (.bool false)), .pv (.lit (.bool false)), .pv (.lit (.bool false)), .pv (.lit (.bool false)), .pv (.lit (.bool false)), .pv (.lit (.bool false)), .pv (.lit (.bool false)), .pv (.lit (.bool false)), .pv (.lit (.bool false)), .pv (.lit (.bool false)), .pv (.lit (.bool false)), .pv (.lit (.bool false)), .pv (.lit (.bool false)), .pv (.lit (.bool false)), .pv (.lit (.bool false)), .pv (.lit (.bool false)), .pv (.lit (.bool false)), .pv (.lit (.bool false)), .pv (.lit (.bool false)), .pv (.lit (.bool false)), .pv (.lit (.bool false)), .pv (.lit (.bool false)), .pv (.lit (.bool false)), .pv (.lit (.bool false)), .pv (.lit (.bool false)), .pv (.lit (.bool false)), .pv (.lit (.bool false)), .pv (.lit (.bool false)), .pv (.lit (.bool false)), .pv (.lit (.bool false)), .pv (.lit (.bool false)), .pv (.lit (.bool false)), .pv (.lit (.bool false)), .pv (.lit (.bool false)), .pv (.lit (.bool false)), .pv (.lit (.bool false)), .pv (.lit (.bool false)), .pv (.lit (.bool false)), .pv (.lit (.bool false)), .pv (.lit (.bool false)), .pv (.lit (.bool false)), .pv (.lit (.bool false)), .pv (.lit (.bool false)), .pv (.lit (.bool false)), .pv (.lit (.bool false)), .pv (.lit (.bool false))])] }) rfl rfl rfl rfl trivial rfl ?_)
 refine rvc_nil ?_
 refine Awp.consP C ?_
 refine rvc_un (rexec_prim C (δ := { v := .ptr 3 0, new := [(3, .cells [.pv (.lit (.bool false)), .pv (.lit (.bool false)), .pv (.lit (.bool false)), .pv (.lit (.bool false)), .pv (.lit (.bool false)), .pv (.lit (.bool false)), .pv (.lit (.bool false)), .pv (.lit (.bool false)), .pv (.lit (.bool false)), .pv (.lit (.bool false)), .pv (.lit (.bool false)), .pv (.lit (.bool false)), .pv (.lit (.bool false)), .pv (.lit (.bool false)), .pv (.lit (.bool false)), .pv (.lit (.bool false)), .pv (.lit (.bool false)), .pv (.lit (.bool false)), .pv (.lit (.bool false)), .pv (.lit (.bool false)), .pv (.lit (.bool false)), .pv (.lit (.bool false)), .pv (.lit (.bool false)), .pv (.lit (.bool false)), .pv (.lit (.bool false)), .pv (.lit (.bool false)), .pv (.lit (.bool false)), .pv (.lit (.bool false)), .pv (.lit (.bool false)), .pv (.lit (.bool false)), .pv (.lit (.bool false)), .pv (.lit (.bool false)), .pv (.lit (.bool false)), .pv (.lit (.bool false)), .pv (.lit (.bool false)), .pv (.lit (.bool false)), .pv (.lit (.bool false)), .pv (.lit (.bool false)), .pv (.lit (.bool false)), .pv (.lit (.bool false)), .pv (.lit (.bool false)), .pv (.lit (.bool false)), .pv (.lit (.bool false)), .pv (.lit (.bool false)), .pv (.lit (.bool false)), .pv (.lit (.bool false)), .pv (.lit (.bool false)), .pv (.lit (.bool false)), .pv (.lit (.bool false)), .pv (.lit (.bool false)), .pv (.lit (.bool false)), .pv (.lit (.bool false)), .pv (.lit (.bool false)), .pv (.lit (.bool false)), .pv (.lit (.bool false)), .pv (.lit (.bool false)), .pv (.lit (.bool false)), .pv (.lit (.bool false)), .pv (.lit (.bool false)), .pv (.lit (.bool false)), .pv (.lit (.bool false)), .pv (.lit (.bool false)), .pv (.lit (.bool false)), .pv (.lit (.bool false))])] }) rfl rfl rfl rfl trivial rfl ?_)
 refine rvc_nil ?_
 refine Awp.seq ?_
 refine Awp.consP C ?_
 refine rvP C (.pv (.lit (.int .i64 0))) ?_
 refine rvc_nil ?_
 refine Awp.block ?_
 refine Awp.forR (σ := Int × ((Nat → Bool))) (64) (fun i v => [(0, .pv (.lit (.int .u64 v.1))), (2, .ptr 2 0), (3, .ptr 3 0), (5, .pv (.lit (.int .i64 (i : Int))))]) (fun i v => [(2, .cells [.pv (.lit (.bool false)), .pv (.lit (.bool false)), .pv (.lit (.bool false)), .pv (.lit (.bool false)), .pv (.lit (.bool false)), .pv (.lit (.bool false)), .pv (.lit (.bool false)), .pv (.lit (.bool false)), .pv (.lit (.bool false)), .pv (.lit (.bool false)), .pv (.lit (.bool false)), .pv (.lit (.bool false)), .pv (.lit (.bool false)), .pv (.lit (.bool false)), .pv (.lit (.bool false)), .pv (.lit (.bool false)), .pv (.lit (.bool false)), .pv (.lit (.bool false)), .pv (.lit (.bool false)), .pv (.lit (.bool false)), .pv (.lit (.bool false)), .pv (.lit (.bool false)), .pv (.lit (.bool false)), .pv (.lit (.bool false)), .pv (.lit (.bool false)), .pv (.lit (.bool false)), .pv (.lit (.bool false)), .pv (.lit (.bool false)), .pv (.lit (.bool false)), .pv (.lit (.bool false)), .pv (.lit (.bool false)), .pv (.lit (.bool false)), .pv (.lit (.bool false)), .pv (.lit (.bool false)), .pv (.lit (.bool false)), .pv (.lit (.bool false)), .pv (.lit (.bool false)), .pv (.lit (.bool false)), .pv (.lit (.bool false)), .pv (.lit (.bool false)), .pv (.lit (.bool false)), .pv (.lit (.bool false)), .pv (.lit (.bool false)), .pv (.lit (.bool false)), .pv (.lit (.bool false)), .pv (.lit (.bool false)), .pv (.lit (.bool false)), .pv (.lit (.bool false)), .pv (.lit (.bool false)), .pv (.lit (.bool false)), .pv (.lit (.bool false)), .pv (.lit (.bool false)), .pv (.lit (.bool false)), .pv (.lit (.bool false)), .pv (.lit (.bool false)), .pv (.lit (.bool false)), .pv (.lit (.bool false)), .pv (.lit (.bool false)), .pv (.lit (.bool false)), .pv (.lit (.bool false)), .pv (.lit (.bool false)), .pv (.lit (.bool false)), .pv (.lit (.bool false)), .pv (.lit (.bool false))]), (3, .cells [.pv (.lit (.bool (v.2 0))), .pv (.lit (.bool (v.2 1))), .pv (.lit (.bool (v.2 2))), .pv (.lit (.bool (v.2 3))), .pv (.lit (.bool (v.2 4))), .pv (.lit (.bool (v.2 5))), .pv (.lit (.bool (v.2 6))), .pv (.lit (.bool (v.2 7))), .pv (.lit (.bool (v.2 8))), .pv (.lit (.bool (v.2 9))), .pv (.lit (.bool (v.2 10))), .pv (.lit (.bool (v.2 11))), .pv (.lit (.bool (v.2 12))), .pv (.lit (.bool (v.2 13))), .pv (.lit (.bool (v.2 14))), .pv (.lit (.bool (v.2 15))), .pv (.lit (.bool (v.2 16))), .pv (.lit (.bool (v.2 17))), .pv (.lit (.bool (v.2 18))), .pv (.lit (.bool (v.2 19))), .pv (.lit (.bool (v.2 20))), .pv (.lit (.bool (v.2 21))), .pv (.lit (.bool (v.2 22))), .pv (.lit (.bool (v.2 23))), .pv (.lit (.bool (v.2 24))), .pv (.lit (.bool (v.2 25))), .pv (.lit (.bool (v.2 26))), .pv (.lit (.bool (v.2 27))), .pv (.lit (.bool (v.2 28))), .pv (.lit (.bool (v.2 29))), .pv (.lit (.bool (v.2 30))), .pv (.lit (.bool (v.2 31))), .pv (.lit (.bool (v.2 32))), .pv (.lit (.bool (v.2 33))), .pv (.lit (.bool (v.2 34))), .pv (.lit (.bool (v.2 35))), .pv (.lit (.bool (v.2 36))), .pv (.lit (.bool (v.2 37))), .pv (.lit (.bool (v.2 38))), .pv (.lit (.bool (v.2 39))), .pv (.lit (.bool (v.2 40))), .pv (.lit (.bool (v.2 41))), .pv (.lit (.bool (v.2 42))), .pv (.lit (.bool (v.2 43))), .pv (.lit (.bool (v.2 44))), .pv (.lit (.bool (v.2 45))), .pv (.lit (.bool (v.2 46))), .pv (.lit (.bool (v.2 47))), .pv (.lit (.bool (v.2 48))), .pv (.lit (.bool (v.2 49))), .pv (.lit (.bool (v.2 50))), .pv (.lit (.bool (v.2 51))), .pv (.lit (.bool (v.2 52))), .pv (.lit (.bool (v.2 53))), .pv (.lit (.bool (v.2 54))), .pv (.lit (.bool (v.2 55))), .pv (.lit (.bool (v.2 56))), .pv (.lit (.bool (v.2 57))), .pv (.lit (.bool (v.2 58))), .pv (.lit (.bool (v.2 59))), .pv (.lit (.bool (v.2 60))), .pv (.lit (.bool (v.2 61))), .pv (.lit (.bool (v.2 62))), .pv (.lit (.bool (v.2 63)))])]) [2, 3] (fun i v => fromW_l0 (64 - i) i v.1 v.2 = R) (w, (ofL [false, false, false, false, false, false, false, false, false, false, false, false, false, false, false, false, false, false, false, false, false, false, false, false, false, false, false, false, false, false, false, false, false, false, false, false, false, false, false, false, false, false, false, false, false, false, false, false, false, false, false, false, false, false, false, false, false, false, false, false, false, false, false, false])) ?_ ?_ (fun i v h1 hR => ?_)
 · exact hR
 · exact ⟨fun b => b, WeakerR.ofL (Ks := [2, 3]) hI ⟨⟨rfl, rfl⟩, ⟨rfl, rfl⟩, ⟨rfl, rfl⟩, ⟨rfl, rfl⟩, trivial⟩ (okH_cons rfl rfl rfl rfl (okH_cons rfl rfl rfl rfl (okH_nil))) rfl⟩
 obtain ⟨w1, vc⟩ := v
 refine Awp.consP C ?_
 refine rvP C (.pv (.lit (.bool (decide ((i : Int) < 64))))) ?_
 refine rvc_nil ?_
 refine Awp.seq ?_
 refine Awp.cond (b := (decide ((i : Int) < 64))) rfl (fun h2 => ?_) (fun h2 => ?_)
 ·
  have h3 : i < 64 := by have := of_decide_eq_true h2; omega
  obtain ⟨k, h4⟩ : ∃ k, 64 - i = k + 1 := ⟨64 - i - 1, by omega⟩
  rw [h4] at hR
  refine Awp.skip ?_
  refine Awp.seq ?_
  refine Awp.block ?_
  refine Awp.consP C ?_
  refine rvP C (.pv (.lit (.int .i64 (i : Int)))) ?_
  refine rvP C (.pv (.lit (.int .i64 (i : Int)))) ?_
  refine rvc_nil ?_
  refine Awp.consP C ?_
  refine rvP C (.pv (.lit (.int .i64 (i : Int)))) ?_
  refine rvP C (.pv (.lit (.int .u64 w1))) ?_
  refine rvc_un (rexec_prim C (δ := { v := .pv (.lit (.int .u64 (w1.tmod 2))) }) rfl rfl rfl rfl (by first | decide | omega) rfl ?_)
  refine rvP C (.pv (.lit (.bool ((w1.tmod 2) == 1)))) ?_
  refine rvc_un (rexec_prim C (δ := { v := .ptr 3 (0 + i * 1) }) rfl rfl rfl rfl ⟨(by have := of_decide_eq_true h2; omega), (by have := of_decide_eq_true h2; omega)⟩ rfl ?_)
  refine rvc_un (rexec_storeA C [] [] (fun z => .lit (.bool z)) vc 64 i ((w1.tmod 2) == 1) [.pv (.lit (.bool ((updA vc i ((w1.tmod 2) == 1)) 0))), .pv (.lit (.bool ((updA vc i ((w1.tmod 2) == 1)) 1))), .pv (.lit (.bool ((updA vc i ((w1.tmod 2) == 1)) 2))), .pv (.lit (.bool ((updA vc i ((w1.tmod 2) == 1)) 3))), .pv (.lit (.bool ((updA vc i ((w1.tmod 2) == 1)) 4))), .pv (.lit (.bool ((updA vc i ((w1.tmod 2) == 1)) 5))), .pv (.lit (.bool ((updA vc i ((w1.tmod 2) == 1)) 6))), .pv (.lit (.bool ((updA vc i ((w1.tmod 2) == 1)) 7))), .pv (.lit (.bool ((updA vc i ((w1.tmod 2) == 1)) 8))), .pv (.lit (.bool ((updA vc i ((w1.tmod 2) == 1)) 9))), .pv (.lit (.bool ((updA vc i ((w1.tmod 2) == 1)) 10))), .pv (.lit (.bool ((updA vc i ((w1.tmod 2) == 1)) 11))), .pv (.lit (.bool ((updA vc i ((w1.tmod 2) == 1)) 12))), .pv (.lit (.bool ((updA vc i ((w1.tmod 2) == 1)) 13))), .pv (.lit (.bool ((updA vc i ((w1.tmod 2) == 1)) 14))), .pv (.lit (.bool ((updA vc i ((w1.tmod 2) == 1)) 15))), .pv (.lit (.bool ((updA vc i ((w1.tmod 2) == 1)) 16))), .pv (.lit (.bool ((updA vc i ((w1.tmod 2) == 1)) 17))), .pv (.lit (.bool ((updA vc i ((w1.tmod 2) == 1)) 18))), .pv (.lit (.bool ((updA vc i ((w1.tmod 2) == 1)) 19))), .pv (.lit (.bool ((updA vc i ((w1.tmod 2) == 1)) 20))), .pv (.lit (.bool ((updA vc i ((w1.tmod 2) == 1)) 21))), .pv (.lit (.bool ((updA vc i ((w1.tmod 2) == 1)) 22))), .pv (.lit (.bool ((updA vc i ((w1.tmod 2) == 1)) 23))), .pv (.lit (.bool ((updA vc i ((w1.tmod 2) == 1)) 24))), .pv (.lit (.bool ((updA vc i ((w1.tmod 2) == 1)) 25))), .pv (.lit (.bool ((updA vc i ((w1.tmod 2) == 1)) 26))), .pv (.lit (.bool ((updA vc i ((w1.tmod 2) == 1)) 27))), .pv (.lit (.bool ((updA vc i ((w1.tmod 2) == 1)) 28))), .pv (.lit (.bool ((updA vc i ((w1.tmod 2) == 1)) 29))), .pv (.lit (.bool ((updA vc i ((w1.tmod 2) == 1)) 30))), .pv (.lit (.bool ((updA vc i ((w1.tmod 2) == 1)) 31))), .pv (.lit (.bool ((updA vc i ((w1.tmod 2) == 1)) 32))), .pv (.lit (.bool ((updA vc i ((w1.tmod 2) == 1)) 33))), .pv (.lit (.bool ((updA vc i ((w1.tmod 2) == 1)) 34))), .pv (.lit (.bool ((updA vc i ((w1.tmod 2) == 1)) 35))), .pv (.lit (.bool ((updA vc i ((w1.tmod 2) == 1)) 36))), .pv (.lit (.bool ((updA vc i ((w1.tmod 2) == 1)) 37))), .pv (.lit (.bool ((updA vc i ((w1.tmod 2) == 1)) 38))), .pv (.lit (.bool ((updA vc i ((w1.tmod 2) == 1)) 39))), .pv (.lit (.bool ((updA vc i ((w1.tmod 2) == 1)) 40))), .pv (.lit (.bool ((updA vc i ((w1.tmod 2) == 1)) 41))), .pv (.lit (.bool ((updA vc i ((w1.tmod 2) == 1)) 42))), .pv (.lit (.bool ((updA vc i ((w1.tmod 2) == 1)) 43))), .pv (.lit (.bool ((updA vc i ((w1.tmod 2) == 1)) 44))), .pv (.lit (.bool ((updA vc i ((w1.tmod 2) == 1)) 45))), .pv (.lit (.bool ((updA vc i ((w1.tmod 2) == 1)) 46))), .pv (.lit (.bool ((updA vc i ((w1.tmod 2) == 1)) 47))), .pv (.lit (.bool ((updA vc i ((w1.tmod 2) == 1)) 48))), .pv (.lit (.bool ((updA vc i ((w1.tmod 2) == 1)) 49))), .pv (.lit (.bool ((updA vc i ((w1.tmod 2) == 1)) 50))), .pv (.lit (.bool ((updA vc i ((w1.tmod 2) == 1)) 51))), .pv (.lit (.bool ((updA vc i ((w1.tmod 2) == 1)) 52))), .pv (.lit (.bool ((updA vc i ((w1.tmod 2) == 1)) 53))), .pv (.lit (.bool ((updA vc i ((w1.tmod 2) == 1)) 54))), .pv (.lit (.bool ((updA vc i ((w1.tmod 2) == 1)) 55))), .pv (.lit (.bool ((updA vc i ((w1.tmod 2) == 1)) 56))), .pv (.lit (.bool ((updA vc i ((w1.tmod 2) == 1)) 57))), .pv (.lit (.bool ((updA vc i ((w1.tmod 2) == 1)) 58))), .pv (.lit (.bool ((updA vc i ((w1.tmod 2) == 1)) 59))), .pv (.lit (.bool ((updA vc i ((w1.tmod 2) == 1)) 60))), .pv (.lit (.bool ((updA vc i ((w1.tmod 2) == 1)) 61))), .pv (.lit (.bool ((updA vc i ((w1.tmod 2) == 1)) 62))), .pv (.lit (.bool ((updA vc i ((w1.tmod 2) == 1)) 63)))] rfl rfl rfl rfl rfl rfl (by have := of_decide_eq_true h2; omega) rfl ?_)
  refine rvc_nil ?_
  refine Awp.regionP C ?_
  refine rvP C (.pv (.lit (.int .u64 w1))) ?_
  refine rvc_un (rexec_prim C (δ := { v := .pv (.lit (.int .u64 (IntKind.u64.wrap (w1.tdiv 2)))) }) rfl rfl rfl rfl (by first | decide | omega) rfl ?_)
  refine rvP C (.pv (.lit (.int .u64 (IntKind.u64.wrap (w1.tdiv 2))))) ?_
  refine rvc_nil ?_
  refine Awp.regionP C ?_
  refine rvP C (.pv (.lit (.int .i64 (IntKind.i64.wrap ((i : Int) + 1))))) ?_
  refine rvP C (.pv (.lit (.int .i64 (IntKind.i64.wrap ((i : Int) + 1))))) ?_
  refine rvc_nil ?_
  refine ⟨h3, ((IntKind.u64.wrap (w1.tdiv 2)), (updA vc i ((w1.tmod 2) == 1))), ?_, ?_⟩
  · exact (by rw [show 64 - (i + 1) = k by omega]; exact hR)
  · exact ⟨fun b => b, WeakerR.ofL (Ks := [2, 3]) hI ⟨⟨rfl, rfl⟩, ⟨rfl, rfl⟩, ⟨rfl, rfl⟩, ⟨lit_cast (wrap_i64 (by omega) (by omega)), rfl⟩, trivial⟩ (okH_cons rfl rfl rfl rfl (okH_cons rfl rfl rfl rfl (okH_nil))) rfl⟩
 ·
  rw [show 64 - i = 0 by have := of_decide_eq_false h2; omega] at hR
  refine Awp.exit ?_
  refine Awp.consP C ?_
  refine rvP C (.agg [.pv (.lit (.bool (vc 0))), .pv (.lit (.bool (vc 1))), .pv (.lit (.bool (vc 2))), .pv (.lit (.bool (vc 3))), .pv (.lit (.bool (vc 4))), .pv (.lit (.bool (vc 5))), .pv (.lit (.bool (vc 6))), .pv (.lit (.bool (vc 7))), .pv (.lit (.bool (vc 8))), .pv (.lit (.bool (vc 9))), .pv (.lit (.bool (vc 10))), .pv (.lit (.bool (vc 11))), .pv (.lit (.bool (vc 12))), .pv (.lit (.bool (vc 13))), .pv (.lit (.bool (vc 14))), .pv (.lit (.bool (vc 15))), .pv (.lit (.bool (vc 16))), .pv (.lit (.bool (vc 17))), .pv (.lit (.bool (vc 18))), .pv (.lit (.bool (vc 19))), .pv (.lit (.bool (vc 20))), .pv (.lit (.bool (vc 21))), .pv (.lit (.bool (vc 22))), .pv (.lit (.bool (vc 23))), .pv (.lit (.bool (vc 24))), .pv (.lit (.bool (vc 25))), .pv (.lit (.bool (vc 26))), .pv (.lit (.bool (vc 27))), .pv (.lit (.bool (vc 28))), .pv (.lit (.bool (vc 29))), .pv (.lit (.bool (vc 30))), .pv (.lit (.bool (vc 31))), .pv (.lit (.bool (vc 32))), .pv (.lit (.bool (vc 33))), .pv (.lit (.bool (vc 34))), .pv (.lit (.bool (vc 35))), .pv (.lit (.bool (vc 36))), .pv (.lit (.bool (vc 37))), .pv (.lit (.bool (vc 38))), .pv (.lit (.bool (vc 39))), .pv (.lit (.bool (vc 40))), .pv (.lit (.bool (vc 41))), .pv (.lit (.bool (vc 42))), .pv (.lit (.bool (vc 43))), .pv (.lit (.bool (vc 44))), .pv (.lit (.bool (vc 45))), .pv (.lit (.bool (vc 46))), .pv (.lit (.bool (vc 47))), .pv (.lit (.bool (vc 48))), .pv (.lit (.bool (vc 49))), .pv (.lit (.bool (vc 50))), .pv (.lit (.bool (vc 51))), .pv (.lit (.bool (vc 52))), .pv (.lit (.bool (vc 53))), .pv (.lit (.bool (vc 54))), .pv (.lit (.bool (vc 55))), .pv (.lit (.bool (vc 56))), .pv (.lit (.bool (vc 57))), .pv (.lit (.bool (vc 58))), .pv (.lit (.bool (vc 59))), .pv (.lit (.bool (vc 60))), .pv (.lit (.bool (vc 61))), .pv (.lit (.bool (vc 62))), .pv (.lit (.bool (vc 63)))]) ?_
  refine rvc_un (rexec_prim C (δ := { v := .undef, wr := [(2, some (.cells [.pv (.lit (.bool (vc 0))), .pv (.lit (.bool (vc 1))), .pv (.lit (.bool (vc 2))), .pv (.lit (.bool (vc 3))), .pv (.lit (.bool (vc 4))), .pv (.lit (.bool (vc 5))), .pv (.lit (.bool (vc 6))), .pv (.lit (.bool (vc 7))), .pv (.lit (.bool (vc 8))), .pv (.lit (.bool (vc 9))), .pv (.lit (.bool (vc 10))), .pv (.lit (.bool (vc 11))), .pv (.lit (.bool (vc 12))), .pv (.lit (.bool (vc 13))), .pv (.lit (.bool (vc 14))), .pv (.lit (.bool (vc 15))), .pv (.lit (.bool (vc 16))), .pv (.lit (.bool (vc 17))), .pv (.lit (.bool (vc 18))), .pv (.lit (.bool (vc 19))), .pv (.lit (.bool (vc 20))), .pv (.lit (.bool (vc 21))), .pv (.lit (.bool (vc 22))), .pv (.lit (.bool (vc 23))), .pv (.lit (.bool (vc 24))), .pv (.lit (.bool (vc 25))), .pv (.lit (.bool (vc 26))), .pv (.lit (.bool (vc 27))), .pv (.lit (.bool (vc 28))), .pv (.lit (.bool (vc 29))), .pv (.lit (.bool (vc 30))), .pv (.lit (.bool (vc 31))), .pv (.lit (.bool (vc 32))), .pv (.lit (.bool (vc 33))), .pv (.lit (.bool (vc 34))), .pv (.lit (.bool (vc 35))), .pv (.lit (.bool (vc 36))), .pv (.lit (.bool (vc 37))), .pv (.lit (.bool (vc 38))), .pv (.lit (.bool (vc 39))), .pv (.lit (.bool (vc 40))), .pv (.lit (.bool (vc 41))), .pv (.lit (.bool (vc 42))), .pv (.lit (.bool (vc 43))), .pv (.lit (.bool (vc 44))), .pv (.lit (.bool (vc 45))), .pv (.lit (.bool (vc 46))), .pv (.lit (.bool (vc 47))), .pv (.lit (.bool (vc 48))), .pv (.lit (.bool (vc 49))), .pv (.lit (.bool (vc 50))), .pv (.lit (.bool (vc 51))), .pv (.lit (.bool (vc 52))), .pv (.lit (.bool (vc 53))), .pv (.lit (.bool (vc 54))), .pv (.lit (.bool (vc 55))), .pv (.lit (.bool (vc 56))), .pv (.lit (.bool (vc 57))), .pv (.lit (.bool (vc 58))), .pv (.lit (.bool (vc 59))), .pv (.lit (.bool (vc 60))), .pv (.lit (.bool (vc 61))), .pv (.lit (.bool (vc 62))), .pv (.lit (.bool (vc 63)))]))] }) rfl rfl rfl rfl trivial rfl ?_)
  refine rvc_nil ?_
  refine Awp.ret ?_
  subst hR
  exact ⟨.inl rfl, rfl⟩
def rSpare_l0 (c : Chain) (h : (Nat → Int)) (site : Int) (sw : (Nat → Bool)) : Nat → Nat → Int
  | 0, _ => (-1)
  | k + 1, i => (bif (sw i) then (bif ((h i) == site) then (bif (decide ((rPlace c (i : Int)) < 0)) then (i : Int) else rSpare_l0 c h site sw k (i + 1) ) else rSpare_l0 c h site sw k (i + 1) ) else rSpare_l0 c h site sw k (i + 1) )
def rSpare (c : Chain) (alive : Int) (h : (Nat → Int)) (site : Int) : Int :=
  rSpare_l0 c h site (fromW alive) 6 0
theorem rSpare_calls (c : Chain) (alive : Int) (h : (Nat → Int)) (site : Int) (hl1 : c.members.D.length ≤ 1000000) : PCalls Try.prog 28 [.agg [.pv (.lit (.int .i64 c.epoch)), sS (some c.members.nil) eMember c.members.D], .pv (.lit (.int .u64 alive)), .agg [.pv (.lit (.int .i64 (h 0))), .pv (.lit (.int .i64 (h 1))), .pv (.lit (.int .i64 (h 2))), .pv (.lit (.int .i64 (h 3))), .pv (.lit (.int .i64 (h 4))), .pv (.lit (.int .i64 (h 5)))], .pv (.lit (.int .i64 site))] (.pv (.lit (.int .i64 (rSpare c alive h site)))) := by
 generalize hR : rSpare c alive h site = R
 refine PCalls.of_body tabOk Try.func28 rfl rfl rfl rfl rfl mixed fun E hP C hI => ?_
 refine Awp.consP C ?_
 refine rvc_un (rexec_prim C (δ := { v := .ptr 4 0, new := [(4, .cells [.pv (.lit (.int .i64 c.epoch)), sS (some c.members.nil) eMember c.members.D])] }) rfl rfl rfl rfl trivial rfl ?_)
 refine rvc_un (rexec_prim C (δ := { v := .ptr 6 0, new := [(6, .cells [.pv (.lit (.int .i64 (h 0))), .pv (.lit (.int .i64 (h 1))), .pv (.lit (.int .i64 (h 2))), .pv (.lit (.int .i64 (h 3))), .pv (.lit (.int .i64 (h 4))), .pv (.lit (.int .i64 (h 5)))])] }) rfl rfl rfl rfl trivial rfl ?_)
 refine rvP C (.pv (.lit (.int .i64 0))) ?_
 refine rvc_nil ?_
 refine Awp.consP C ?_
 refine rvP C (.pv (.lit (.int .u64 alive))) ?_
 obtain ⟨sw, hq_sw⟩ : ∃ q_, q_ = (fromW alive) := ⟨_, rfl⟩
 have hc_sw := (fromW_calls alive)
 first | rw [← hq_sw] at hR hc_sw | (unfold rSpare at hR; rw [← hq_sw] at hR hc_sw)
 refine rvc_un (rexec_call hP C rfl rfl rfl hc_sw ?_)
 refine rvc_un (rexec_prim C (δ := { v := .ptr 9 0, new := [(9, .cells [.pv (.lit (.bool false)), .pv (.lit (.bool false)), .pv (.lit (.bool false)), .pv (.lit (.bool false)), .pv (.lit (.bool false)), .pv (.lit (.bool false)), .pv (.lit (.bool false)), .pv (.lit (.bool false)), .pv (.lit (.bool false)), .pv (.lit (.bool false)), .pv (.lit (.bool false)), .pv (.lit (.bool false)), .pv (.lit (.bool false)), .pv (.lit (.bool false)), .pv (.lit (.bool false)), .pv (.lit (.bool false)), .pv (.lit (.bool false)), .pv (.lit (.bool false)), .pv (.lit (.bool false)), .pv (.lit (.bool false)), .pv (.lit (.bool false)), .pv (.lit (.bool false)), .pv (.lit (.bool false)), .pv (.lit (.bool false)), .pv (.lit (.bool false)), .pv (.lit (.bool false)), .pv (.lit (.bool false)), .pv (.lit (.bool false)), .pv (.lit (.bool false)), .pv (.lit (.bool false)), .pv (.lit (.bool false)), .pv (.lit (.bool false)), .pv (.lit (.bool false)), .pv (.lit (.bool false)), .pv (.lit (.bool false)), .pv (.lit (.bool false)), .pv (.lit (.bool false)), .pv (.lit (.bool false)), .pv (.lit (.bool false)), .pv (.lit (.bool false)), .pv (.lit (.bool false)), .pv (.lit (.bool false)), .pv (.lit (.bool false)), .pv (.lit (.bool false)), .pv (.lit (.bool false)), .pv (.lit (.bool false)), .pv (.lit (.bool false)), .pv (.lit (.bool false)), .pv (.lit (.bool false)), .pv (.lit (.bool false)), .pv (.lit (.bool false)), .pv (.lit (.bool false)), .pv (.lit (.bool false)), .pv (.lit (.bool false)), .pv (.lit (.bool false)), .pv (.lit (.bool false)), .pv (.lit (.bool false)), .pv (.lit (.bool false)), .pv (.lit (.bool false)), .pv (.lit (.bool false)), .pv (.lit (.bool false)), .pv (.lit (.bool false)), .pv (.lit (.bool false)), .pv (.lit (.bool false))])] }) rfl rfl rfl rfl trivial rfl ?_)
 refine rvc_un (rexec_prim C (δ := { v := .undef, wr := [(9, some (.cells [.pv (.lit (.bool (sw 0))), .pv (.lit (.bool (sw 1))), .pv (.lit (.bool (sw 2))), .pv (.lit (.bool (sw 3))), .pv (.lit (.bool (sw 4))), .pv (.lit (.bool (sw 5))), .pv (.lit (.bool (sw 6))), .pv (.lit (.bool (sw 7))), .pv (.lit (.bool (sw 8))), .pv (.lit (.bool (sw 9))), .pv (.lit (.bool (sw 10))), .pv (.lit (.bool (sw 11))), .pv (.lit (.bool (sw 12))), .pv (.lit (.bool (sw 13))), .pv (.lit (.bool (sw 14))), .pv (.lit (.bool (sw 15))), .pv (.lit (.bool (sw 16))), .pv (.lit (.bool (sw 17))), .pv (.lit (.bool (sw 18))), .pv (.lit (.bool (sw 19))), .pv (.lit (.bool (sw 20))), .pv (.lit (.bool (sw 21))), .pv (.lit (.bool (sw 22))), .pv (.lit (.bool (sw 23))), .pv (.lit (.bool (sw 24))), .pv (.lit (.bool (sw 25))), .pv (.lit (.bool (sw 26))), .pv (.lit (.bool (sw 27))), .pv (.lit (.bool (sw 28))), .pv (.lit (.bool (sw 29))), .pv (.lit (.bool (sw 30))), .pv (.lit (.bool (sw 31))), .pv (.lit (.bool (sw 32))), .pv (.lit (.bool (sw 33))), .pv (.lit (.bool (sw 34))), .pv (.lit (.bool (sw 35))), .pv (.lit (.bool (sw 36))), .pv (.lit (.bool (sw 37))), .pv (.lit (.bool (sw 38))), .pv (.lit (.bool (sw 39))), .pv (.lit (.bool (sw 40))), .pv (.lit (.bool (sw 41))), .pv (.lit (.bool (sw 42))), .pv (.lit (.bool (sw 43))), .pv (.lit (.bool (sw 44))), .pv (.lit (.bool (sw 45))), .pv (.lit (.bool (sw 46))), .pv (.lit (.bool (sw 47))), .pv (.lit (.bool (sw 48))), .pv (.lit (.bool (sw 49))), .pv (.lit (.bool (sw 50))), .pv (.lit (.bool (sw 51))), .pv (.lit (.bool (sw 52))), .pv (.lit (.bool (sw 53))), .pv (.lit (.bool (sw 54))), .pv (.lit (.bool (sw 55))), .pv (.lit (.bool (sw 56))), .pv (.lit (.bool (sw 57))), .pv (.lit (.bool (sw 58))), .pv (.lit (.bool (sw 59))), .pv (.lit (.bool (sw 60))), .pv (.lit (.bool (sw 61))), .pv (.lit (.bool (sw 62))), .pv (.lit (.bool (sw 63)))]))] }) rfl rfl rfl rfl trivial rfl ?_)
 refine rvc_nil ?_
 refine Awp.seq ?_
 refine Awp.consP C ?_
 refine rvP C (.pv (.lit (.int .i64 0))) ?_
 refine rvc_nil ?_
 refine Awp.block ?_
 refine Awp.forR (σ := Unit) (6) (fun i _v => [(3, .pv (.lit (.int .i64 site))), (4, .ptr 4 0), (6, .ptr 6 0), (9, .ptr 9 0), (13, .pv (.lit (.int .i64 (i : Int))))]) (fun i _v => [(4, .cells [.pv (.lit (.int .i64 c.epoch)), sS (some c.members.nil) eMember c.members.D]), (6, .cells [.pv (.lit (.int .i64 (h 0))), .pv (.lit (.int .i64 (h 1))), .pv (.lit (.int .i64 (h 2))), .pv (.lit (.int .i64 (h 3))), .pv (.lit (.int .i64 (h 4))), .pv (.lit (.int .i64 (h 5)))]), (9, .cells [.pv (.lit (.bool (sw 0))), .pv (.lit (.bool (sw 1))), .pv (.lit (.bool (sw 2))), .pv (.lit (.bool (sw 3))), .pv (.lit (.bool (sw 4))), .pv (.lit (.bool (sw 5))), .pv (.lit (.bool (sw 6))), .pv (.lit (.bool (sw 7))), .pv (.lit (.bool (sw 8))), .pv (.lit (.bool (sw 9))), .pv (.lit (.bool (sw 10))), .pv (.lit (.bool (sw 11))), .pv (.lit (.bool (sw 12))), .pv (.lit (.bool (sw 13))), .pv (.lit (.bool (sw 14))), .pv (.lit (.bool (sw 15))), .pv (.lit (.bool (sw 16))), .pv (.lit (.bool (sw 17))), .pv (.lit (.bool (sw 18))), .pv (.lit (.bool (sw 19))), .pv (.lit (.bool (sw 20))), .pv (.lit (.bool (sw 21))), .pv (.lit (.bool (sw 22))), .pv (.lit (.bool (sw 23))), .pv (.lit (.bool (sw 24))), .pv (.lit (.bool (sw 25))), .pv (.lit (.bool (sw 26))), .pv (.lit (.bool (sw 27))), .pv (.lit (.bool (sw 28))), .pv (.lit (.bool (sw 29))), .pv (.lit (.bool (sw 30))), .pv (.lit (.bool (sw 31))), .pv (.lit (.bool (sw 32))), .pv (.lit (.bool (sw 33))), .pv (.lit (.bool (sw 34))), .pv (.lit (.bool (sw 35))), .pv (.lit (.bool (sw 36))), .pv (.lit (.bool (sw 37))), .pv (.lit (.bool (sw 38))), .pv (.lit (.bool (sw 39))), .pv (.lit (.bool (sw 40))), .pv (.lit (.bool (sw 41))), .pv (.lit (.bool (sw 42))), .pv (.lit (.bool (sw 43))), .pv (.lit (.bool (sw 44))), .pv (.lit (.bool (sw 45))), .pv (.lit (.bool (sw 46))), .pv (.lit (.bool (sw 47))), .pv (.lit (.bool (sw 48))), .pv (.lit (.bool (sw 49))), .pv (.lit (.bool (sw 50))), .pv (.lit (.bool (sw 51))), .pv (.lit (.bool (sw 52))), .pv (.lit (.bool (sw 53))), .pv (.lit (.bool (sw 54))), .pv (.lit (.bool (sw 55))), .pv (.lit (.bool (sw 56))), .pv (.lit (.bool (sw 57))), .pv (.lit (.bool (sw 58))), .pv (.lit (.bool (sw 59))), .pv (.lit (.bool (sw 60))), .pv (.lit (.bool (sw 61))), .pv (.lit (.bool (sw 62))), .pv (.lit (.bool (sw 63)))])]) [4, 6, 9] (fun i _v => rSpare_l0 c h site sw (6 - i) i  = R) () ?_ ?_ (fun i _v h1 hR => ?_)
 · exact hR
 · exact ⟨fun b => b, WeakerR.ofL (Ks := [4, 6, 9]) hI ⟨⟨rfl, rfl⟩, ⟨rfl, rfl⟩, ⟨rfl, rfl⟩, ⟨rfl, rfl⟩, ⟨rfl, rfl⟩, trivial⟩ (okH_cons rfl rfl rfl rfl (okH_cons rfl rfl rfl rfl (okH_cons rfl rfl rfl rfl (okH_nil)))) rfl⟩
 refine Awp.consP C ?_
 refine rvP C (.pv (.lit (.bool (decide ((i : Int) < 6))))) ?_
 refine rvc_nil ?_
 refine Awp.seq ?_
 refine Awp.cond (b := (decide ((i : Int) < 6))) rfl (fun h2 => ?_) (fun h2 => ?_)
 ·
  have h3 : i < 6 := by have := of_decide_eq_true h2; omega
  obtain ⟨k, h4⟩ : ∃ k, 6 - i = k + 1 := ⟨6 - i - 1, by omega⟩
  rw [h4] at hR
  refine Awp.skip ?_
  refine Awp.seq ?_
  refine Awp.block ?_
  refine Awp.consP C ?_
  refine rvP C (.pv (.lit (.int .i64 (i : Int)))) ?_
  refine rvP C (.pv (.lit (.int .i64 (i : Int)))) ?_
  refine rvc_nil ?_
  refine Awp.consP C ?_
  refine rvP C (.pv (.lit (.int .i64 (i : Int)))) ?_
  refine rvc_un (rexec_prim C (δ := { v := .ptr 9 (0 + i * 1) }) rfl rfl rfl rfl ⟨(by have := of_decide_eq_true h2; omega), (by have := of_decide_eq_true h2; omega)⟩ rfl ?_)
  refine rvc_un (rexec_loadA C [] [] (fun j => .pv (.lit (.bool (sw j)))) 64 i (.pv (.lit (.bool (sw i)))) rfl rfl rfl rfl rfl rfl rfl (by have := of_decide_eq_true h2; omega) rfl ?_)
  refine rvP C (.pv (.lit (.bool (sw i)))) ?_
  refine rvc_case 19 (sw i) rfl (fun h5 => ?_) (fun h5 => ?_)
  ·
   replace hR := of_true h5 hR
   refine rvO C (.pv (.lit (.int .i64 (i : Int)))) ?_
   refine rvc_open rfl rfl rfl (rexec_prim C (δ := { v := .ptr 6 (0 + i * 1) }) rfl rfl rfl rfl ⟨(by have := of_decide_eq_true h2; omega), (by have := of_decide_eq_true h2; omega)⟩ rfl ?_)
   refine rvc_open rfl rfl rfl (rexec_loadA C [] [] (fun j => .pv (.lit (.int .i64 (h j)))) 6 i (.pv (.lit (.int .i64 (h i)))) rfl rfl rfl rfl rfl rfl rfl (by have := of_decide_eq_true h2; omega) rfl ?_)
   refine rvO C (.pv (.lit (.int .i64 site))) ?_
   refine rvO C (.pv (.lit (.bool ((h i) == site)))) ?_
   refine rvP C (.pv (.lit (.bool ((h i) == site)))) ?_
   refine rvP C (.pv (.lit (.bool ((h i) == site)))) ?_
   refine rvc_case 26 ((h i) == site) rfl (fun h6 => ?_) (fun h6 => ?_)
   ·
    replace hR := of_true h6 hR
    refine rvO C (.agg [.pv (.lit (.int .i64 c.epoch)), sS (some c.members.nil) eMember c.members.D]) ?_
    refine rvO C (.pv (.lit (.int .i64 (i : Int)))) ?_
    refine rvc_open rfl rfl rfl (rexec_call hP C rfl rfl rfl (rPlace_calls c (i : Int) (Nat.le_trans hl1 (by decide))) ?_)
    refine rvO C (.pv (.lit (.bool (decide ((rPlace c (i : Int)) < 0))))) ?_
    refine rvP C (.pv (.lit (.bool (decide ((rPlace c (i : Int)) < 0))))) ?_
    refine rvc_nil ?_
    refine Awp.cond (b := (decide ((rPlace c (i : Int)) < 0))) rfl (fun h7 => ?_) (fun h7 => ?_)
    ·
     replace hR := of_true h7 hR
     refine Awp.consP C ?_
     refine rvP C (.pv (.lit (.int .i64 (i : Int)))) ?_
     refine rvP C (.pv (.lit (.int .i64 (i : Int)))) ?_
     refine rvc_nil ?_
     refine Awp.ret ?_
     subst hR
     exact ⟨.inl rfl, rfl⟩
    ·
     replace hR := of_false h7 hR
     refine Awp.skip ?_
     refine Awp.regionP C ?_
     refine rvP C (.pv (.lit (.int .i64 (IntKind.i64.wrap ((i : Int) + 1))))) ?_
     refine rvP C (.pv (.lit (.int .i64 (IntKind.i64.wrap ((i : Int) + 1))))) ?_
     refine rvc_nil ?_
     refine ⟨h3, (), ?_, ?_⟩
     · exact (by rw [show 6 - (i + 1) = k by omega]; exact hR)
     · exact ⟨fun b => b, WeakerR.ofL (Ks := [4, 6, 9]) hI ⟨⟨rfl, rfl⟩, ⟨rfl, rfl⟩, ⟨rfl, rfl⟩, ⟨rfl, rfl⟩, ⟨lit_cast (wrap_i64 (by omega) (by omega)), rfl⟩, trivial⟩ (okH_cons rfl rfl rfl rfl (okH_cons rfl rfl rfl rfl (okH_cons rfl rfl rfl rfl (okH_nil)))) rfl⟩
   ·
    replace hR := of_false h6 hR
    refine rvS ?_
    refine rvS ?_
    refine rvS ?_
    refine rvS ?_
    refine rvP C (.pv (.lit (.bool false))) ?_
    refine rvc_nil ?_
    refine Awp.condF (b := false) rfl rfl ?_
    refine Awp.skip ?_
    refine Awp.regionP C ?_
    refine rvP C (.pv (.lit (.int .i64 (IntKind.i64.wrap ((i : Int) + 1))))) ?_
    refine rvP C (.pv (.lit (.int .i64 (IntKind.i64.wrap ((i : Int) + 1))))) ?_
    refine rvc_nil ?_
    refine ⟨h3, (), ?_, ?_⟩
    · exact (by rw [show 6 - (i + 1) = k by omega]; exact hR)
    · exact ⟨fun b => b, WeakerR.ofL (Ks := [4, 6, 9]) hI ⟨⟨rfl, rfl⟩, ⟨rfl, rfl⟩, ⟨rfl, rfl⟩, ⟨rfl, rfl⟩, ⟨lit_cast (wrap_i64 (by omega) (by omega)), rfl⟩, trivial⟩ (okH_cons rfl rfl rfl rfl (okH_cons rfl rfl rfl rfl (okH_cons rfl rfl rfl rfl (okH_nil)))) rfl⟩
  ·
   replace hR := of_false h5 hR
   refine rvS ?_
   refine rvS ?_
   refine rvS ?_
   refine rvS ?_
   refine rvS ?_
   refine rvP C (.pv (.lit (.bool false))) ?_
   refine rvP C (.pv (.lit (.bool false))) ?_
   refine rvS ?_
   refine rvS ?_
   refine rvS ?_
   refine rvS ?_
   refine rvP C (.pv (.lit (.bool false))) ?_
   refine rvc_nil ?_
   refine Awp.condF (b := false) rfl rfl ?_
   refine Awp.skip ?_
   refine Awp.regionP C ?_
   refine rvP C (.pv (.lit (.int .i64 (IntKind.i64.wrap ((i : Int) + 1))))) ?_
   refine rvP C (.pv (.lit (.int .i64 (IntKind.i64.wrap ((i : Int) + 1))))) ?_
   refine rvc_nil ?_
   refine ⟨h3, (), ?_, ?_⟩
   · exact (by rw [show 6 - (i + 1) = k by omega]; exact hR)
   · exact ⟨fun b => b, WeakerR.ofL (Ks := [4, 6, 9]) hI ⟨⟨rfl, rfl⟩, ⟨rfl, rfl⟩, ⟨rfl, rfl⟩, ⟨rfl, rfl⟩, ⟨lit_cast (wrap_i64 (by omega) (by omega)), rfl⟩, trivial⟩ (okH_cons rfl rfl rfl rfl (okH_cons rfl rfl rfl rfl (okH_cons rfl rfl rfl rfl (okH_nil)))) rfl⟩
 ·
  rw [show 6 - i = 0 by have := of_decide_eq_false h2; omega] at hR
  refine Awp.exit ?_
  refine Awp.consP C ?_
  refine rvP C (.pv (.lit (.int .i64 (-1)))) ?_
  refine rvc_nil ?_
  refine Awp.ret ?_
  subst hR
  exact ⟨.inl rfl, rfl⟩
end Go.Proofs.Ytaffaalpgpepeaa
/- The law PlanNext in plain Lean: the code's next command is the document's. No conditions. -/
namespace Go.Proofs.Ytaffaalpgpepeaa
open Go.Am
theorem fromW_l0_at : ∀ (k i S : Nat) (g : Nat → Bool) (j : Nat), S < 18446744073709551616 → fromW_l0 k i (S : Int) g j = if i ≤ j ∧ j < i + k then S.testBit (j - i) else g j
  | 0, i, S, g, j, _ => by
    rw [if_neg (by omega)]; rfl
  | k + 1, i, S, g, j, hS => by
    unfold fromW_l0
    have e1 : IntKind.u64.wrap ((S : Int).tdiv 2) = ((S / 2 : Nat) : Int) := by
      rw [show (S : Int).tdiv 2 = ((S / 2 : Nat) : Int) from rfl, wrap64]; omega
    have e2 : ((S : Int).tmod 2 == 1) = S.testBit 0 := by
      rw [show (S : Int).tmod 2 = ((S % 2 : Nat) : Int) from rfl, Nat.testBit_zero]
      rw [Bool.eq_iff_iff]; simp; omega
    rw [e1, e2, fromW_l0_at k (i + 1) (S / 2) _ j (by omega)]
    unfold updA
    by_cases h1 : j = i
    · subst h1
      rw [if_neg (by omega), if_pos (by omega)]; simp
    · rw [show (j == i) = false by simpa using h1, cond_false]
      by_cases h2 : i + 1 ≤ j ∧ j < i + 1 + k
      · rw [if_pos h2, if_pos (by omega), show j - i = (j - (i + 1)) + 1 by omega, Nat.testBit_succ]
      · rw [if_neg h2, if_neg (by omega)]
theorem fromW_at {S j : Nat} (hS : S < 18446744073709551616) (hj : j < 64) : fromW (S : Int) j = S.testBit j := by
  unfold fromW
  rw [fromW_l0_at 64 0 S _ j hS, if_pos (by omega)]; rfl
theorem find_congr {α : Type} {p q : α → Bool} : ∀ {l : List α}, (∀ x ∈ l, p x = q x) → l.find? p = l.find? q
  | [], _ => rfl
  | x :: l, h => by
    rw [List.find?_cons, List.find?_cons, h x (List.mem_cons_self ..), find_congr fun y hy => h y (List.mem_cons_of_mem _ hy)]
theorem find_filter {α : Type} {p q : α → Bool} : ∀ (l : List α), (l.filter p).find? q = l.find? fun x => p x && q x
  | [] => rfl
  | x :: l => by
    rw [List.filter_cons, List.find?_cons, ← find_filter l]
    cases hp : p x
    · simp
    · simp only [if_true, List.find?_cons, Bool.true_and]
theorem rPlace_l0_node (n : Int) : ∀ (l : List Member) (i : Nat), 0 ≤ rPlace_l0 n l i → ∃ x, l[(rPlace_l0 n l i).toNat - i]? = some x ∧ x.node = n ∧ i ≤ (rPlace_l0 n l i).toNat
  | [], _, h => absurd h (by show ¬ (0 : Int) ≤ -1; decide)
  | x :: l, i, h => by
    unfold rPlace_l0 at h ⊢
    cases hx : x.node == n
    · rw [hx, cond_false] at h
      obtain ⟨y, h1, h2, h3⟩ := rPlace_l0_node n l (i + 1) h
      rw [cond_false]
      refine ⟨y, ?_, h2, by omega⟩
      rw [show (rPlace_l0 n l (i + 1)).toNat - i = ((rPlace_l0 n l (i + 1)).toNat - (i + 1)) + 1 by omega, List.getElem?_cons_succ]
      exact h1
    · rw [cond_true]
      exact ⟨x, by simp, by simpa using hx, by omega⟩
theorem place_mem {c : Chain} {n : Int} (h : 0 ≤ rPlace c n) : ∃ x ∈ c.members.D, x.node = n := by
  unfold rPlace at h
  cases hc : rCheck c != 0
  · rw [hc, cond_false] at h
    obtain ⟨x, h1, h2, _⟩ := rPlace_l0_node n c.members.D 0 h
    exact ⟨x, List.mem_of_getElem? h1, h2⟩
  · rw [hc] at h; exact absurd h (by show ¬ (0 : Int) ≤ -1; decide)
theorem spare_l0_find (f : Fleet) (s : Int) : ∀ (l : List Int) (i : Nat), spare_l0 f s l i = match l.find? (fun x => decide (x < 6) && (f.home x.toNat == s)) with | some x => (x, true) | none => (0, false)
  | [], _ => rfl
  | x :: l, i => by
    unfold spare_l0
    rw [List.find?_cons, spare_l0_find f s l (i + 1)]
    cases decide (x < 6)
    · rfl
    · cases f.home x.toNat == s <;> rfl
def spareN (a : Nat) (h : Nat → Int) (c : Chain) (s : Int) : Option Nat := (List.range 6).find? fun n => a.testBit n && (h n == s) && !(c.members.D.any fun x => x.node == (n : Int))
theorem spare_eqN {a : Nat} (h w : Nat → Int) (c : Chain) (s : Int) : spare ⟨(a : Int), h, w⟩ c s = match spareN a h c s with | some n => ((n : Int), true) | none => (0, false) := by
  obtain ⟨U, hU, hb⟩ := butNodes a c
  have e : spare ⟨(a : Int), h, w⟩ c s = spare_l0 ⟨(a : Int), h, w⟩ s (setL U) 0 := by unfold spare; rw [hU]
  rw [e, spare_l0_find]
  have key : (setL U).find? (fun x => decide (x < 6) && (h x.toNat == s)) = (spareN a h c s).map Int.ofNat := by
    have h0 : (setL U).find? (fun x => decide (x < 6) && (h x.toNat == s)) = ((List.range 64).find? fun n => U.testBit n && (decide (n < 6) && (h n == s))).map Int.ofNat := by
      unfold setL
      rw [List.find?_map, find_filter]
      congr 1
    rw [h0, show (List.range 64) = List.range 6 ++ List.range' 6 58 by decide, List.find?_append]
    have h1 : (List.range' 6 58).find? (fun n => U.testBit n && (decide (n < 6) && (h n == s))) = none := List.find?_eq_none.2 fun n hn => by
      have := (List.mem_range'_1.1 hn).1
      rw [decide_eq_false (by omega)]; simp
    have h2 : (List.range 6).find? (fun n => U.testBit n && (decide (n < 6) && (h n == s))) = spareN a h c s := by
      refine find_congr fun n hn => ?_
      have hn := List.mem_range.1 hn
      rw [hb n (by omega), decide_eq_true hn]
      cases a.testBit n <;> cases h n == s <;> simp
    rw [h1, h2, Option.or_none]
  rw [key]
  cases spareN a h c s <;> rfl
theorem rSpare_l0_find (c : Chain) (h : Nat → Int) (s : Int) (sw : Nat → Bool) : ∀ (k i : Nat), rSpare_l0 c h s sw k i = match (List.range' i k).find? (fun n => sw n && ((h n == s) && decide (rPlace c (n : Int) < 0))) with | some n => (n : Int) | none => -1
  | 0, _ => rfl
  | k + 1, i => by
    unfold rSpare_l0
    rw [List.range'_succ, List.find?_cons, rSpare_l0_find c h s sw k (i + 1)]
    cases sw i
    · rfl
    · cases h i == s
      · rfl
      · cases decide (rPlace c (i : Int) < 0) <;> rfl
theorem place_any {c : Chain} (hc : check c = 0) (n : Int) : decide (rPlace c n < 0) = !(c.members.D.any fun x => x.node == n) := by
  cases hd : decide (rPlace c n < 0)
  · symm
    rw [Bool.not_eq_false', List.any_eq_true]
    have h0 : 0 ≤ rPlace c n := by have := of_decide_eq_false hd; omega
    obtain ⟨x, h1, h2⟩ := place_mem h0
    exact ⟨x, h1, by simpa using h2⟩
  · symm
    rw [Bool.not_eq_true', List.any_eq_false]
    exact fun x hx => by simpa using place_none hc (of_decide_eq_true hd) x hx
theorem rSpare_eqN {a : Nat} (ha : a < 18446744073709551616) {c : Chain} (hc : check c = 0) (h : Nat → Int) (s : Int) : rSpare c (a : Int) h s = match spareN a h c s with | some n => (n : Int) | none => -1 := by
  unfold rSpare spareN
  rw [rSpare_l0_find, List.range_eq_range']
  rw [find_congr (l := List.range' 0 6) (q := fun n => a.testBit n && (h n == s) && !(c.members.D.any fun x => x.node == (n : Int))) fun n hn => by
    have := (List.mem_range'_1.1 hn).2
    rw [fromW_at ha (by omega), place_any hc, Bool.and_assoc]]
end Go.Proofs.Ytaffaalpgpepeaa
/- The law PlanNext in plain Lean: its model answers true. No conditions. -/
namespace Go.Proofs.Ytaffaalpgpepeaa
open Go.Am
end Go.Proofs.Ytaffaalpgpepeaa
/- Changes of the reference's chains: no longer than that. No conditions. -/
namespace Go.Proofs.Ytaffaalpgpepeaa
open Go.Am
end Go.Proofs.Ytaffaalpgpepeaa
/- The reference: all commands. No conditions. -/
namespace Go.Proofs.Ytaffaalpgpepeaa
open Go.Am
end Go.Proofs.Ytaffaalpgpepeaa
/- All commands: the code's are the document's. No conditions. -/
namespace Go.Proofs.Ytaffaalpgpepeaa
open Go.Am
theorem stepOf_hn (r : Chain) (k : Command) : (stepOf r k).members.nil = true → (stepOf r k).members.D = [] := by
  unfold stepOf
  cases k.kind == 1
  · exact join_hn _ _
  · exact drop_hn _ _
theorem runP_hn (a : Int) (h w : Nat → Int) : ∀ (n : Nat) (c : Chain), (c.members.nil = true → c.members.D = []) → (runP a h w n c).2.members.nil = true → (runP a h w n c).2.members.D = []
  | 0, c, hn => readyAll_hn c a hn
  | n + 1, c, hn => by
    have ih := runP_hn a h w n (stepOf (readyAll c a) (nextP (readyAll c a) a h w).1) (stepOf_hn _ _)
    have h0 := readyAll_hn c a hn
    unfold runP
    cases (nextP (readyAll c a) a h w).2.1
    · exact h0
    · exact ih
theorem allP_hn (c : Chain) (a : Int) (h w : Nat → Int) (ha : 0 ≤ a ∧ a < 18446744073709551616) (hn : c.members.nil = true → c.members.D = []) : (allP c a h w).2.1.members.nil = true → (allP c a h w).2.1.members.D = [] := by
  by_cases hc : check c = 0
  · by_cases hp : planCheck h w = 0
    · rw [allP_ok ha hc hp]; exact runP_hn a h w _ c hn
    · rw [allP_bad2 hc hp]; exact fun _ => rfl
  · rw [allP_bad hc]; exact fun _ => rfl
theorem check_ne {c : Chain} (hc : check c = 0) : c.members.D ≠ [] := ((check_iff c).1 hc).2.1
end Go.Proofs.Ytaffaalpgpepeaa
/- Laws. No conditions. -/
namespace Go.Proofs.Ytaffaalpgpepeaa
open Go.Am
def lawWished_l1 (alive : Int) (h : (Nat → Int)) (ap : (Sl Command) × Chain × Int) (lk : (Nat → Int)) : Nat → Nat → Bool
  | 0, _ => (awake )
  | k + 1, i1 => (bif (decide ((lk i1) > 0)) then (bif (decide ((rSpare ap.2.1 alive h (i1 : Int)) ≥ 0)) then (bif ((ap.2.1.members.D.length : Int) == 0) then false else (bif (decide ((ap.2.1.members.D[0]!.site) ≤ (i1 : Int))) then false else lawWished_l1 alive h ap lk k (i1 + 1) )) else lawWished_l1 alive h ap lk k (i1 + 1) ) else lawWished_l1 alive h ap lk k (i1 + 1) )
def lawWished_l0 (alive : Int) (h : (Nat → Int)) (w : (Nat → Int)) (ap : (Sl Command) × Chain × Int) (wh : Int) : List Member → Nat → Bool
  | [], _ => (bif (wh != (nodes ap.2.1)) then (awake ) else lawWished_l1 alive h ap (lacks ap.2.1 w) 3 0 )
  | x :: xs, i => (bif (!(mHas alive x.node)) then (bif (decide ((mLen (mAnd wh alive)) > 0)) then false else lawWished_l0 alive h w ap wh xs (i + 1) ) else lawWished_l0 alive h w ap wh xs (i + 1) )
def lawWished (c : Chain) (alive : Int) (h : (Nat → Int)) (w : (Nat → Int)) : Bool :=
  (bif (decide ((c.members.D.length : Int) > 60)) then (awake ) else (bif (decide (c.epoch > 1099511627756)) then (awake ) else (bif ((allP c alive h w).2.2 != 0) then (awake ) else lawWished_l0 alive h w (allP c alive h w) (whole (allP c alive h w).2.1) (allP c alive h w).2.1.members.D 0 )))
theorem lawWished_calls (c : Chain) (alive : Int) (h : (Nat → Int)) (w : (Nat → Int)) (hn : c.members.nil = true → c.members.D = []) (ha : 0 ≤ alive ∧ alive < 18446744073709551616) (hl1 : c.members.D.length ≤ 1000000) : PCalls Try.prog 7 [.agg [.pv (.lit (.int .i64 c.epoch)), sS (some c.members.nil) eMember c.members.D], .pv (.lit (.int .u64 alive)), .agg [.pv (.lit (.int .i64 (h 0))), .pv (.lit (.int .i64 (h 1))), .pv (.lit (.int .i64 (h 2))), .pv (.lit (.int .i64 (h 3))), .pv (.lit (.int .i64 (h 4))), .pv (.lit (.int .i64 (h 5)))], .agg [.pv (.lit (.int .i64 (w 0))), .pv (.lit (.int .i64 (w 1))), .pv (.lit (.int .i64 (w 2)))]] (.pv (.lit (.bool (lawWished c alive h w)))) := by
 generalize hR : lawWished c alive h w = R
 refine PCalls.of_body tabOk Try.func7 rfl rfl rfl rfl rfl mixed fun E hP C hI => ?_
 refine Awp.consP C ?_
 refine rvc_un (rexec_prim C (δ := { v := .ptr 4 0, new := [(4, .cells [.pv (.lit (.int .i64 c.epoch)), sS (some c.members.nil) eMember c.members.D])] }) rfl rfl rfl rfl trivial rfl ?_)
 refine rvc_un (rexec_prim C (δ := { v := .ptr 6 0, new := [(6, .cells [.pv (.lit (.int .i64 (h 0))), .pv (.lit (.int .i64 (h 1))), .pv (.lit (.int .i64 (h 2))), .pv (.lit (.int .i64 (h 3))), .pv (.lit (.int .i64 (h 4))), .pv (.lit (.int .i64 (h 5)))])] }) rfl rfl rfl rfl trivial rfl ?_)
 refine rvc_un (rexec_prim C (δ := { v := .ptr 7 0, new := [(7, .cells [.pv (.lit (.int .i64 (w 0))), .pv (.lit (.int .i64 (w 1))), .pv (.lit (.int .i64 (w 2)))])] }) rfl rfl rfl rfl trivial rfl ?_)
 refine rvP C (.pv (.lit (.bool false))) ?_
 refine rvc_nil ?_
 refine Awp.seq ?_
 refine Awp.consP C ?_
 refine rvP C (.ptr 4 1) ?_
 refine rvP C (sS (some c.members.nil) eMember c.members.D) ?_
 refine rvP C (.pv (.lit (.int .i64 (c.members.D.length : Int)))) ?_
 refine rvP C (.pv (.lit (.bool (decide ((c.members.D.length : Int) > 60))))) ?_
 refine rvP C (.pv (.lit (.bool (decide ((c.members.D.length : Int) > 60))))) ?_
 refine rvc_case 22 (decide ((c.members.D.length : Int) > 60)) rfl (fun h1 => ?_) (fun h1 => ?_)
 ·
  replace hR := of_true h1 hR
  refine rvS ?_
  refine rvS ?_
  refine rvS ?_
  refine rvP C (.pv (.lit (.bool true))) ?_
  refine rvc_nil ?_
  refine Awp.condT (b := true) rfl rfl ?_
  refine Awp.consP C ?_
  obtain ⟨aw, hq_aw⟩ : ∃ q_, q_ = (awake ) := ⟨_, rfl⟩
  have hc_aw := (awake_calls )
  first | rw [← hq_aw] at hR hc_aw | (unfold lawWished at hR; rw [← hq_aw] at hR hc_aw)
  refine rvc_un (rexec_call hP C rfl rfl rfl hc_aw ?_)
  refine rvP C (.pv (.lit (.bool aw))) ?_
  refine rvc_nil ?_
  refine Awp.ret ?_
  subst hR
  exact ⟨.inl rfl, rfl⟩
 ·
  replace hR := of_false h1 hR
  refine rvO C (.ptr 4 0) ?_
  refine rvO C (.pv (.lit (.int .i64 c.epoch))) ?_
  refine rvO C (.pv (.lit (.bool (decide (c.epoch > 1099511627756))))) ?_
  refine rvP C (.pv (.lit (.bool (decide (c.epoch > 1099511627756))))) ?_
  refine rvc_nil ?_
  refine Awp.cond (b := (decide (c.epoch > 1099511627756))) rfl (fun h2 => ?_) (fun h2 => ?_)
  ·
   replace hR := of_true h2 hR
   refine Awp.consP C ?_
   obtain ⟨aw1, hq_aw1⟩ : ∃ q_, q_ = (awake ) := ⟨_, rfl⟩
   have hc_aw1 := (awake_calls )
   first | rw [← hq_aw1] at hR hc_aw1 | (unfold lawWished at hR; rw [← hq_aw1] at hR hc_aw1)
   refine rvc_un (rexec_call hP C rfl rfl rfl hc_aw1 ?_)
   refine rvP C (.pv (.lit (.bool aw1))) ?_
   refine rvc_nil ?_
   refine Awp.ret ?_
   subst hR
   exact ⟨.inl rfl, rfl⟩
  ·
   replace hR := of_false h2 hR
   refine Awp.skip ?_
   refine Awp.consP C ?_
   refine rvP C (.agg [.pv (.lit (.int .i64 c.epoch)), sS (some c.members.nil) eMember c.members.D]) ?_
   refine rvP C (.pv (.lit (.int .u64 alive))) ?_
   refine rvP C (.agg [.pv (.lit (.int .i64 (h 0))), .pv (.lit (.int .i64 (h 1))), .pv (.lit (.int .i64 (h 2))), .pv (.lit (.int .i64 (h 3))), .pv (.lit (.int .i64 (h 4))), .pv (.lit (.int .i64 (h 5)))]) ?_
   refine rvP C (.agg [.pv (.lit (.int .i64 (w 0))), .pv (.lit (.int .i64 (w 1))), .pv (.lit (.int .i64 (w 2)))]) ?_
   obtain ⟨ap, hq_ap⟩ : ∃ q_, q_ = (allP c alive h w) := ⟨_, rfl⟩
   have hc_ap := (allP_calls c alive h w hn ha hl1)
   first | rw [← hq_ap] at hR hc_ap | (unfold lawWished at hR; rw [← hq_ap] at hR hc_ap)
   have hf0_ap := (allP_le c alive h w ha).1
   rw [← hq_ap] at hf0_ap
   have hf1_ap := (allP_le c alive h w ha).2
   rw [← hq_ap] at hf1_ap
   have hf2_ap := (allP_hn c alive h w ha hn)
   rw [← hq_ap] at hf2_ap
   refine rvc_un (rexec_call hP C rfl rfl rfl hc_ap ?_)
   refine rvP C (.tup [sS (some ap.1.nil) eCommand ap.1.D, .agg [.pv (.lit (.int .i64 ap.2.1.epoch)), sS (some ap.2.1.members.nil) eMember ap.2.1.members.D], .pv (.lit (.int .i64 ap.2.2))]) ?_
   refine rvP C (sS (some ap.1.nil) eCommand ap.1.D) ?_
   refine rvP C (.agg [.pv (.lit (.int .i64 ap.2.1.epoch)), sS (some ap.2.1.members.nil) eMember ap.2.1.members.D]) ?_
   refine rvP C (.pv (.lit (.int .i64 ap.2.2))) ?_
   refine rvc_un (rexec_prim C (δ := { v := .ptr 10 0, new := [(10, .cells [.pv (.lit (.int .i64 0)), sS (some true) eMember []])] }) rfl rfl rfl rfl trivial rfl ?_)
   refine rvP C (sS (some ap.1.nil) eCommand ap.1.D) ?_
   refine rvc_un (rexec_prim C (δ := { v := .undef, wr := [(10, some (.cells [.pv (.lit (.int .i64 ap.2.1.epoch)), sS (some ap.2.1.members.nil) eMember ap.2.1.members.D]))] }) rfl rfl rfl rfl trivial rfl ?_)
   refine rvP C (.pv (.lit (.int .i64 ap.2.2))) ?_
   refine rvc_nil ?_
   refine Awp.seq ?_
   refine Awp.consP C ?_
   refine rvP C (.pv (.lit (.int .i64 ap.2.2))) ?_
   refine rvP C (.pv (.lit (.bool (ap.2.2 != 0)))) ?_
   refine rvc_nil ?_
   refine Awp.cond (b := (ap.2.2 != 0)) rfl (fun h3 => ?_) (fun h3 => ?_)
   ·
    replace hR := of_true h3 hR
    refine Awp.consP C ?_
    obtain ⟨aw2, hq_aw2⟩ : ∃ q_, q_ = (awake ) := ⟨_, rfl⟩
    have hc_aw2 := (awake_calls )
    first | rw [← hq_aw2] at hR hc_aw2 | (unfold lawWished at hR; rw [← hq_aw2] at hR hc_aw2)
    refine rvc_un (rexec_call hP C rfl rfl rfl hc_aw2 ?_)
    refine rvP C (.pv (.lit (.bool aw2))) ?_
    refine rvc_nil ?_
    refine Awp.ret ?_
    subst hR
    exact ⟨.inl rfl, rfl⟩
   ·
    replace hR := of_false h3 hR
    refine Awp.skip ?_
    refine Awp.consP C ?_
    refine rvP C (.pv (.lit (.int .u64 alive))) ?_
    refine rvP C (.pv (.lit (.int .u64 alive))) ?_
    refine rvc_nil ?_
    refine Awp.consP C ?_
    refine rvP C (.agg [.pv (.lit (.int .i64 ap.2.1.epoch)), sS (some ap.2.1.members.nil) eMember ap.2.1.members.D]) ?_
    obtain ⟨wh, hq_wh⟩ : ∃ q_, q_ = (whole ap.2.1) := ⟨_, rfl⟩
    have hc_wh := (whole_calls ap.2.1 (by show ap.2.1.members.D.length ≤ 9223372036854775807; have := of_decide_eq_false h1; have := of_decide_eq_false h2; have := eq_of_bne_false h3; omega))
    first | rw [← hq_wh] at hR hc_wh | (unfold lawWished at hR; rw [← hq_wh] at hR hc_wh)
    refine rvc_un (rexec_call hP C rfl rfl rfl hc_wh ?_)
    refine rvP C (.pv (.lit (.int .u64 wh))) ?_
    refine rvc_nil ?_
    refine Awp.seq ?_
    refine Awp.consP C ?_
    refine rvP C (.ptr 10 1) ?_
    refine rvP C (sS (some ap.2.1.members.nil) eMember ap.2.1.members.D) ?_
    refine rvP C (.pv (.lit (.int .i64 (ap.2.1.members.D.length : Int)))) ?_
    refine rvP C (.pv (.lit (.int .i64 0))) ?_
    refine rvc_nil ?_
    refine Awp.block ?_
    refine Awp.forR (σ := Unit) (ap.2.1.members.D.length) (fun i _v => [(1, .pv (.lit (.int .u64 alive))), (6, .ptr 6 0), (7, .ptr 7 0), (10, .ptr 10 0), (12, .pv (.lit (.int .u64 alive))), (13, .pv (.lit (.int .u64 wh))), (44, sS (some ap.2.1.members.nil) eMember ap.2.1.members.D), (45, .pv (.lit (.int .i64 (ap.2.1.members.D.length : Int)))), (46, .pv (.lit (.int .i64 (i : Int))))]) (fun i _v => [(6, .cells [.pv (.lit (.int .i64 (h 0))), .pv (.lit (.int .i64 (h 1))), .pv (.lit (.int .i64 (h 2))), .pv (.lit (.int .i64 (h 3))), .pv (.lit (.int .i64 (h 4))), .pv (.lit (.int .i64 (h 5)))]), (7, .cells [.pv (.lit (.int .i64 (w 0))), .pv (.lit (.int .i64 (w 1))), .pv (.lit (.int .i64 (w 2)))]), (10, .cells [.pv (.lit (.int .i64 ap.2.1.epoch)), sS (some ap.2.1.members.nil) eMember ap.2.1.members.D])]) [6, 7, 10] (fun i _v => lawWished_l0 alive h w ap wh (ap.2.1.members.D.drop i) i  = R) () ?_ ?_ (fun i _v h4 hR => ?_)
    · exact hR
    · exact ⟨fun b => b, WeakerR.ofL (Ks := [6, 7, 10]) hI ⟨⟨rfl, rfl⟩, ⟨rfl, rfl⟩, ⟨rfl, rfl⟩, ⟨rfl, rfl⟩, ⟨rfl, rfl⟩, ⟨rfl, rfl⟩, ⟨rfl, rfl⟩, ⟨rfl, rfl⟩, ⟨rfl, rfl⟩, trivial⟩ (okH_cons rfl rfl rfl rfl (okH_cons rfl rfl rfl rfl (okH_cons rfl rfl rfl rfl (okH_nil)))) rfl⟩
    refine Awp.consP C ?_
    refine rvP C (.pv (.lit (.bool (decide ((i : Int) < (ap.2.1.members.D.length : Int)))))) ?_
    refine rvc_nil ?_
    refine Awp.seq ?_
    refine Awp.cond (b := (decide ((i : Int) < (ap.2.1.members.D.length : Int)))) rfl (fun h5 => ?_) (fun h5 => ?_)
    ·
     have h6 : i < ap.2.1.members.D.length := by have := of_decide_eq_true h5; omega
     obtain ⟨x, h7⟩ := getX h6
     rw [drop_at h7] at hR
     refine Awp.skip ?_
     refine Awp.seq ?_
     refine Awp.block ?_
     refine Awp.consP C ?_
     refine rvc_un (rexec_idxS C rfl rfl rfl rfl rfl rfl x (Int.natCast_nonneg _) h7 ?_)
     refine rvP C (.agg [.pv (.lit (.int .i64 x.node)), .pv (.lit (.int .i64 x.site)), .pv (.lit (.bool x.fresh))]) ?_
     refine rvc_un (rexec_prim C (δ := { v := .ptr 15 0, new := [(15, .cells [.pv (.lit (.int .i64 0)), .pv (.lit (.int .i64 0)), .pv (.lit (.bool false))])] }) rfl rfl rfl rfl trivial rfl ?_)
     refine rvc_un (rexec_prim C (δ := { v := .undef, wr := [(15, some (.cells [.pv (.lit (.int .i64 x.node)), .pv (.lit (.int .i64 x.site)), .pv (.lit (.bool x.fresh))]))] }) rfl rfl rfl rfl trivial rfl ?_)
     refine rvc_nil ?_
     refine Awp.consP C ?_
     refine rvP C (.pv (.lit (.int .u64 alive))) ?_
     refine rvP C (.ptr 15 0) ?_
     refine rvP C (.pv (.lit (.int .i64 x.node))) ?_
     obtain ⟨hs, hq_hs⟩ : ∃ q_, q_ = (mHas alive x.node) := ⟨_, rfl⟩
     have hc_hs := (mHas_calls alive x.node)
     first | rw [← hq_hs] at hR hc_hs | (unfold lawWished at hR; rw [← hq_hs] at hR hc_hs) | (unfold lawWished_l0 at hR; rw [← hq_hs] at hR hc_hs)
     refine rvc_un (rexec_call hP C rfl rfl rfl hc_hs ?_)
     refine rvP C (.pv (.lit (.bool (!hs)))) ?_
     refine rvP C (.pv (.lit (.bool (!hs)))) ?_
     refine rvc_case 55 (!hs) rfl (fun h8 => ?_) (fun h8 => ?_)
     ·
      replace hR := of_true h8 hR
      refine rvO C (.pv (.lit (.int .u64 wh))) ?_
      refine rvO C (.pv (.lit (.int .u64 alive))) ?_
      obtain ⟨an, hq_an⟩ : ∃ q_, q_ = (mAnd wh alive) := ⟨_, rfl⟩
      have hc_an := (mAnd_calls wh alive)
      first | rw [← hq_an] at hR hc_an | (unfold lawWished at hR; rw [← hq_an] at hR hc_an) | (unfold lawWished_l0 at hR; rw [← hq_an] at hR hc_an)
      refine rvc_open rfl rfl rfl (rexec_call hP C rfl rfl rfl hc_an ?_)
      obtain ⟨ml, hq_ml⟩ : ∃ q_, q_ = (mLen an) := ⟨_, rfl⟩
      have hc_ml := (mLen_calls an)
      first | rw [← hq_ml] at hR hc_ml | (unfold lawWished at hR; rw [← hq_ml] at hR hc_ml) | (unfold lawWished_l0 at hR; rw [← hq_ml] at hR hc_ml)
      refine rvc_open rfl rfl rfl (rexec_call hP C rfl rfl rfl hc_ml ?_)
      refine rvO C (.pv (.lit (.bool (decide (ml > 0))))) ?_
      refine rvP C (.pv (.lit (.bool (decide (ml > 0))))) ?_
      refine rvc_nil ?_
      refine Awp.cond (b := (decide (ml > 0))) rfl (fun h9 => ?_) (fun h9 => ?_)
      ·
       replace hR := of_true h9 hR
       refine Awp.consP C ?_
       refine rvP C (.pv (.lit (.bool false))) ?_
       refine rvc_nil ?_
       refine Awp.ret ?_
       subst hR
       exact ⟨.inl rfl, rfl⟩
      ·
       replace hR := of_false h9 hR
       refine Awp.skip ?_
       refine Awp.regionP C ?_
       refine rvP C (.pv (.lit (.int .i64 (IntKind.i64.wrap ((i : Int) + 1))))) ?_
       refine rvP C (.pv (.lit (.int .i64 (IntKind.i64.wrap ((i : Int) + 1))))) ?_
       refine rvc_nil ?_
       refine ⟨h6, (), ?_, ?_⟩
       · exact hR
       · exact ⟨fun b => b, WeakerR.ofL (Ks := [6, 7, 10]) hI ⟨⟨rfl, rfl⟩, ⟨rfl, rfl⟩, ⟨rfl, rfl⟩, ⟨rfl, rfl⟩, ⟨rfl, rfl⟩, ⟨rfl, rfl⟩, ⟨rfl, rfl⟩, ⟨rfl, rfl⟩, ⟨lit_cast (wrap_i64 (by omega) (by omega)), rfl⟩, trivial⟩ (okH_cons rfl rfl rfl rfl (okH_cons rfl rfl rfl rfl (okH_cons rfl rfl rfl rfl (okH_nil)))) rfl⟩
     ·
      replace hR := of_false h8 hR
      refine rvS ?_
      refine rvS ?_
      refine rvS ?_
      refine rvS ?_
      refine rvS ?_
      refine rvP C (.pv (.lit (.bool false))) ?_
      refine rvc_nil ?_
      refine Awp.condF (b := false) rfl rfl ?_
      refine Awp.skip ?_
      refine Awp.regionP C ?_
      refine rvP C (.pv (.lit (.int .i64 (IntKind.i64.wrap ((i : Int) + 1))))) ?_
      refine rvP C (.pv (.lit (.int .i64 (IntKind.i64.wrap ((i : Int) + 1))))) ?_
      refine rvc_nil ?_
      refine ⟨h6, (), ?_, ?_⟩
      · exact hR
      · exact ⟨fun b => b, WeakerR.ofL (Ks := [6, 7, 10]) hI ⟨⟨rfl, rfl⟩, ⟨rfl, rfl⟩, ⟨rfl, rfl⟩, ⟨rfl, rfl⟩, ⟨rfl, rfl⟩, ⟨rfl, rfl⟩, ⟨rfl, rfl⟩, ⟨rfl, rfl⟩, ⟨lit_cast (wrap_i64 (by omega) (by omega)), rfl⟩, trivial⟩ (okH_cons rfl rfl rfl rfl (okH_cons rfl rfl rfl rfl (okH_cons rfl rfl rfl rfl (okH_nil)))) rfl⟩
    ·
     have h6 : ¬ i < ap.2.1.members.D.length := by have := of_decide_eq_false h5; omega
     rw [drop_end h6] at hR
     refine Awp.exit ?_
     refine Awp.seq ?_
     refine Awp.consP C ?_
     refine rvP C (.pv (.lit (.int .u64 wh))) ?_
     refine rvP C (.agg [.pv (.lit (.int .i64 ap.2.1.epoch)), sS (some ap.2.1.members.nil) eMember ap.2.1.members.D]) ?_
     obtain ⟨nd, hq_nd⟩ : ∃ q_, q_ = (nodes ap.2.1) := ⟨_, rfl⟩
     have hc_nd := (nodes_calls ap.2.1 (by show ap.2.1.members.D.length ≤ 9223372036854775807; have := of_decide_eq_false h1; have := of_decide_eq_false h2; have := eq_of_bne_false h3; have := of_decide_eq_false h5; omega))
     first | rw [← hq_nd] at hR hc_nd | (unfold lawWished at hR; rw [← hq_nd] at hR hc_nd) | (unfold lawWished_l0 at hR; rw [← hq_nd] at hR hc_nd)
     refine rvc_un (rexec_call hP C rfl rfl rfl hc_nd ?_)
     refine rvP C (.pv (.lit (.bool (wh != nd)))) ?_
     refine rvc_nil ?_
     refine Awp.cond (b := (wh != nd)) rfl (fun h10 => ?_) (fun h10 => ?_)
     ·
      replace hR := of_true h10 hR
      refine Awp.consP C ?_
      obtain ⟨aw3, hq_aw3⟩ : ∃ q_, q_ = (awake ) := ⟨_, rfl⟩
      have hc_aw3 := (awake_calls )
      first | rw [← hq_aw3] at hR hc_aw3 | (unfold lawWished at hR; rw [← hq_aw3] at hR hc_aw3) | (unfold lawWished_l0 at hR; rw [← hq_aw3] at hR hc_aw3)
      refine rvc_un (rexec_call hP C rfl rfl rfl hc_aw3 ?_)
      refine rvP C (.pv (.lit (.bool aw3))) ?_
      refine rvc_nil ?_
      refine Awp.ret ?_
      subst hR
      exact ⟨.inl rfl, rfl⟩
     ·
      replace hR := of_false h10 hR
      refine Awp.skip ?_
      refine Awp.seq ?_
      refine Awp.consP C ?_
      refine rvP C (.agg [.pv (.lit (.int .i64 ap.2.1.epoch)), sS (some ap.2.1.members.nil) eMember ap.2.1.members.D]) ?_
      refine rvP C (.agg [.pv (.lit (.int .i64 (w 0))), .pv (.lit (.int .i64 (w 1))), .pv (.lit (.int .i64 (w 2)))]) ?_
      obtain ⟨lk, hq_lk⟩ : ∃ q_, q_ = (lacks ap.2.1 w) := ⟨_, rfl⟩
      have hc_lk := (lacks_calls ap.2.1 w (by show ap.2.1.members.D.length ≤ 1000000; have := of_decide_eq_false h1; have := of_decide_eq_false h2; have := eq_of_bne_false h3; have := of_decide_eq_false h5; have := eq_of_bne_false h10; omega))
      first | rw [← hq_lk] at hR hc_lk | (unfold lawWished at hR; rw [← hq_lk] at hR hc_lk) | (unfold lawWished_l0 at hR; rw [← hq_lk] at hR hc_lk)
      refine rvc_un (rexec_call hP C rfl rfl rfl hc_lk ?_)
      refine rvP C (.pv (.lit (.int .i64 0))) ?_
      refine rvc_nil ?_
      refine Awp.block ?_
      refine Awp.forR (σ := Unit) (3) (fun i1 _v => [(1, .pv (.lit (.int .u64 alive))), (6, .ptr 6 0), (10, .ptr 10 0), (70, .agg [.pv (.lit (.int .i64 (lk 0))), .pv (.lit (.int .i64 (lk 1))), .pv (.lit (.int .i64 (lk 2)))]), (71, .pv (.lit (.int .i64 (i1 : Int))))]) (fun i1 _v => [(6, .cells [.pv (.lit (.int .i64 (h 0))), .pv (.lit (.int .i64 (h 1))), .pv (.lit (.int .i64 (h 2))), .pv (.lit (.int .i64 (h 3))), .pv (.lit (.int .i64 (h 4))), .pv (.lit (.int .i64 (h 5)))]), (10, .cells [.pv (.lit (.int .i64 ap.2.1.epoch)), sS (some ap.2.1.members.nil) eMember ap.2.1.members.D])]) [6, 10] (fun i1 _v => lawWished_l1 alive h ap lk (3 - i1) i1  = R) () ?_ ?_ (fun i1 _v h11 hR => ?_)
      · exact hR
      · exact ⟨fun b => b, WeakerR.ofL (Ks := [6, 10]) hI ⟨⟨rfl, rfl⟩, ⟨rfl, rfl⟩, ⟨rfl, rfl⟩, ⟨rfl, rfl⟩, ⟨rfl, rfl⟩, trivial⟩ (okH_cons rfl rfl rfl rfl (okH_cons rfl rfl rfl rfl (okH_nil))) rfl⟩
      refine Awp.consP C ?_
      refine rvP C (.pv (.lit (.bool (decide ((i1 : Int) < 3))))) ?_
      refine rvc_nil ?_
      refine Awp.seq ?_
      refine Awp.cond (b := (decide ((i1 : Int) < 3))) rfl (fun h12 => ?_) (fun h12 => ?_)
      ·
       have h13 : i1 < 3 := by have := of_decide_eq_true h12; omega
       obtain ⟨k, h14⟩ : ∃ k, 3 - i1 = k + 1 := ⟨3 - i1 - 1, by omega⟩
       rw [h14] at hR
       refine Awp.skip ?_
       refine Awp.seq ?_
       refine Awp.block ?_
       refine Awp.consP C ?_
       refine rvP C (.pv (.lit (.int .i64 (i1 : Int)))) ?_
       refine rvc_un (rexec_idxA C (fun j => .pv (.lit (.int .i64 (lk j)))) (.pv (.lit (.int .i64 (lk i1)))) rfl rfl rfl rfl rfl rfl rfl rfl ⟨(by have := of_decide_eq_false h1; have := of_decide_eq_false h2; have := eq_of_bne_false h3; have := of_decide_eq_false h5; have := eq_of_bne_false h10; have := of_decide_eq_true h12; omega), (by have := of_decide_eq_false h1; have := of_decide_eq_false h2; have := eq_of_bne_false h3; have := of_decide_eq_false h5; have := eq_of_bne_false h10; have := of_decide_eq_true h12; omega)⟩ rfl ?_)
       refine rvP C (.pv (.lit (.int .i64 (i1 : Int)))) ?_
       refine rvP C (.pv (.lit (.int .i64 (lk i1)))) ?_
       refine rvc_nil ?_
       refine Awp.consP C ?_
       refine rvP C (.pv (.lit (.int .i64 (lk i1)))) ?_
       refine rvP C (.pv (.lit (.bool (decide ((lk i1) > 0))))) ?_
       refine rvP C (.pv (.lit (.bool (decide ((lk i1) > 0))))) ?_
       refine rvc_case 77 (decide ((lk i1) > 0)) rfl (fun h15 => ?_) (fun h15 => ?_)
       ·
        replace hR := of_true h15 hR
        refine rvO C (.agg [.pv (.lit (.int .i64 ap.2.1.epoch)), sS (some ap.2.1.members.nil) eMember ap.2.1.members.D]) ?_
        refine rvO C (.pv (.lit (.int .u64 alive))) ?_
        refine rvO C (.agg [.pv (.lit (.int .i64 (h 0))), .pv (.lit (.int .i64 (h 1))), .pv (.lit (.int .i64 (h 2))), .pv (.lit (.int .i64 (h 3))), .pv (.lit (.int .i64 (h 4))), .pv (.lit (.int .i64 (h 5)))]) ?_
        refine rvO C (.pv (.lit (.int .i64 (i1 : Int)))) ?_
        obtain ⟨rs, hq_rs⟩ : ∃ q_, q_ = (rSpare ap.2.1 alive h (i1 : Int)) := ⟨_, rfl⟩
        have hc_rs := (rSpare_calls ap.2.1 alive h (i1 : Int) (by show ap.2.1.members.D.length ≤ 1000000; have := of_decide_eq_false h1; have := of_decide_eq_false h2; have := eq_of_bne_false h3; have := of_decide_eq_false h5; have := eq_of_bne_false h10; have := of_decide_eq_true h12; have := of_decide_eq_true h15; omega))
        first | rw [← hq_rs] at hR hc_rs | (unfold lawWished at hR; rw [← hq_rs] at hR hc_rs) | (unfold lawWished_l0 at hR; rw [← hq_rs] at hR hc_rs) | (unfold lawWished_l1 at hR; rw [← hq_rs] at hR hc_rs)
        refine rvc_open rfl rfl rfl (rexec_call hP C rfl rfl rfl hc_rs ?_)
        refine rvO C (.pv (.lit (.bool (decide (rs ≥ 0))))) ?_
        refine rvP C (.pv (.lit (.bool (decide (rs ≥ 0))))) ?_
        refine rvP C (.pv (.lit (.bool (decide (rs ≥ 0))))) ?_
        refine rvc_case 85 (decide (rs ≥ 0)) rfl (fun h16 => ?_) (fun h16 => ?_)
        ·
         replace hR := of_true h16 hR
         refine rvO C (.ptr 10 1) ?_
         refine rvO C (sS (some ap.2.1.members.nil) eMember ap.2.1.members.D) ?_
         refine rvO C (.pv (.lit (.int .i64 (ap.2.1.members.D.length : Int)))) ?_
         refine rvO C (.pv (.lit (.bool ((ap.2.1.members.D.length : Int) == 0)))) ?_
         refine rvO C (.pv (.lit (.bool ((ap.2.1.members.D.length : Int) == 0)))) ?_
         refine rvc_case 90 ((ap.2.1.members.D.length : Int) == 0) rfl (fun h17 => ?_) (fun h17 => ?_)
         ·
          replace hR := of_true h17 hR
          refine rvS ?_
          refine rvS ?_
          refine rvS ?_
          refine rvS ?_
          refine rvS ?_
          refine rvS ?_
          refine rvS ?_
          refine rvO C (.pv (.lit (.bool true))) ?_
          refine rvP C (.pv (.lit (.bool true))) ?_
          refine rvc_nil ?_
          refine Awp.condT (b := true) rfl rfl ?_
          refine Awp.consP C ?_
          refine rvP C (.pv (.lit (.bool false))) ?_
          refine rvc_nil ?_
          refine Awp.ret ?_
          subst hR
          exact ⟨.inl rfl, rfl⟩
         ·
          replace hR := of_false h17 hR
          refine rvO C (.ptr 10 1) ?_
          refine rvO C (sS (some ap.2.1.members.nil) eMember ap.2.1.members.D) ?_
          have h18 : ap.2.1.members.D[0]? = some ap.2.1.members.D[0]! := getE (by have := of_decide_eq_false h1; have := of_decide_eq_false h2; have := eq_of_bne_false h3; have := of_decide_eq_false h5; have := eq_of_bne_false h10; have := of_decide_eq_true h12; have := of_decide_eq_true h15; have := of_decide_eq_true h16; have := ne_of_beq_false h17; omega)
          refine rvc_open rfl rfl rfl (rexec_idxS C rfl rfl rfl rfl rfl rfl (ap.2.1.members.D[0]!) (Int.natCast_nonneg _) h18 ?_)
          refine rvO C (.rp [.lit (.int .i64 (ap.2.1.members.D[0]!.site))]) ?_
          refine rvO C (.pv (.lit (.int .i64 (ap.2.1.members.D[0]!.site)))) ?_
          refine rvO C (.pv (.lit (.int .i64 (i1 : Int)))) ?_
          refine rvO C (.pv (.lit (.bool (decide ((ap.2.1.members.D[0]!.site) ≤ (i1 : Int)))))) ?_
          refine rvO C (.pv (.lit (.bool (decide ((ap.2.1.members.D[0]!.site) ≤ (i1 : Int)))))) ?_
          refine rvP C (.pv (.lit (.bool (decide ((ap.2.1.members.D[0]!.site) ≤ (i1 : Int)))))) ?_
          refine rvc_nil ?_
          refine Awp.cond (b := (decide ((ap.2.1.members.D[0]!.site) ≤ (i1 : Int)))) rfl (fun h19 => ?_) (fun h19 => ?_)
          ·
           replace hR := of_true h19 hR
           refine Awp.consP C ?_
           refine rvP C (.pv (.lit (.bool false))) ?_
           refine rvc_nil ?_
           refine Awp.ret ?_
           subst hR
           exact ⟨.inl rfl, rfl⟩
          ·
           replace hR := of_false h19 hR
           refine Awp.skip ?_
           refine Awp.regionP C ?_
           refine rvP C (.pv (.lit (.int .i64 (IntKind.i64.wrap ((i1 : Int) + 1))))) ?_
           refine rvP C (.pv (.lit (.int .i64 (IntKind.i64.wrap ((i1 : Int) + 1))))) ?_
           refine rvc_nil ?_
           refine ⟨h13, (), ?_, ?_⟩
           · exact (by rw [show 3 - (i1 + 1) = k by omega]; exact hR)
           · exact ⟨fun b => b, WeakerR.ofL (Ks := [6, 10]) hI ⟨⟨rfl, rfl⟩, ⟨rfl, rfl⟩, ⟨rfl, rfl⟩, ⟨rfl, rfl⟩, ⟨lit_cast (wrap_i64 (by omega) (by omega)), rfl⟩, trivial⟩ (okH_cons rfl rfl rfl rfl (okH_cons rfl rfl rfl rfl (okH_nil))) rfl⟩
        ·
         replace hR := of_false h16 hR
         refine rvS ?_
         refine rvS ?_
         refine rvS ?_
         refine rvS ?_
         refine rvS ?_
         refine rvc_shutU rfl rfl rfl ?_
         refine rvc_shutU rfl rfl rfl ?_
         refine rvc_shutU rfl rfl rfl ?_
         refine rvc_shutU rfl rfl rfl ?_
         refine rvc_shutU rfl rfl rfl ?_
         refine rvc_shutU rfl rfl rfl ?_
         refine rvc_shutU rfl rfl rfl ?_
         refine rvS ?_
         refine rvP C (.pv (.lit (.bool false))) ?_
         refine rvc_nil ?_
         refine Awp.condF (b := false) rfl rfl ?_
         refine Awp.skip ?_
         refine Awp.regionP C ?_
         refine rvP C (.pv (.lit (.int .i64 (IntKind.i64.wrap ((i1 : Int) + 1))))) ?_
         refine rvP C (.pv (.lit (.int .i64 (IntKind.i64.wrap ((i1 : Int) + 1))))) ?_
         refine rvc_nil ?_
         refine ⟨h13, (), ?_, ?_⟩
         · exact (by rw [show 3 - (i1 + 1) = k by omega]; exact hR)
         · exact ⟨fun b => b, WeakerR.ofL (Ks := [6, 10]) hI ⟨⟨rfl, rfl⟩, ⟨rfl, rfl⟩, ⟨rfl, rfl⟩, ⟨rfl, rfl⟩, ⟨lit_cast (wrap_i64 (by omega) (by omega)), rfl⟩, trivial⟩ (okH_cons rfl rfl rfl rfl (okH_cons rfl rfl rfl rfl (okH_nil))) rfl⟩
       ·
        replace hR := of_false h15 hR
        refine rvS ?_
        refine rvS ?_
        refine rvS ?_
        refine rvS ?_
        refine rvS ?_
        refine rvS ?_
        refine rvP C (.pv (.lit (.bool false))) ?_
        refine rvP C (.pv (.lit (.bool false))) ?_
        refine rvS ?_
        refine rvS ?_
        refine rvS ?_
        refine rvS ?_
        refine rvS ?_
        refine rvc_shutU rfl rfl rfl ?_
        refine rvc_shutU rfl rfl rfl ?_
        refine rvc_shutU rfl rfl rfl ?_
        refine rvc_shutU rfl rfl rfl ?_
        refine rvc_shutU rfl rfl rfl ?_
        refine rvc_shutU rfl rfl rfl ?_
        refine rvc_shutU rfl rfl rfl ?_
        refine rvS ?_
        refine rvP C (.pv (.lit (.bool false))) ?_
        refine rvc_nil ?_
        refine Awp.condF (b := false) rfl rfl ?_
        refine Awp.skip ?_
        refine Awp.regionP C ?_
        refine rvP C (.pv (.lit (.int .i64 (IntKind.i64.wrap ((i1 : Int) + 1))))) ?_
        refine rvP C (.pv (.lit (.int .i64 (IntKind.i64.wrap ((i1 : Int) + 1))))) ?_
        refine rvc_nil ?_
        refine ⟨h13, (), ?_, ?_⟩
        · exact (by rw [show 3 - (i1 + 1) = k by omega]; exact hR)
        · exact ⟨fun b => b, WeakerR.ofL (Ks := [6, 10]) hI ⟨⟨rfl, rfl⟩, ⟨rfl, rfl⟩, ⟨rfl, rfl⟩, ⟨rfl, rfl⟩, ⟨lit_cast (wrap_i64 (by omega) (by omega)), rfl⟩, trivial⟩ (okH_cons rfl rfl rfl rfl (okH_cons rfl rfl rfl rfl (okH_nil))) rfl⟩
      ·
       rw [show 3 - i1 = 0 by have := of_decide_eq_false h12; omega] at hR
       refine Awp.exit ?_
       refine Awp.consP C ?_
       obtain ⟨aw4, hq_aw4⟩ : ∃ q_, q_ = (awake ) := ⟨_, rfl⟩
       have hc_aw4 := (awake_calls )
       first | rw [← hq_aw4] at hR hc_aw4 | (unfold lawWished at hR; rw [← hq_aw4] at hR hc_aw4) | (unfold lawWished_l0 at hR; rw [← hq_aw4] at hR hc_aw4) | (unfold lawWished_l1 at hR; rw [← hq_aw4] at hR hc_aw4)
       refine rvc_un (rexec_call hP C rfl rfl rfl hc_aw4 ?_)
       refine rvP C (.pv (.lit (.bool aw4))) ?_
       refine rvc_nil ?_
       refine Awp.ret ?_
       subst hR
       exact ⟨.inl rfl, rfl⟩
end Go.Proofs.Ytaffaalpgpepeaa
/- The laws PlanAll, PlanEnds and PlanWished in plain Lean: their models answer true. No conditions. -/
namespace Go.Proofs.Ytaffaalpgpepeaa
open Go.Am
theorem deadOf_l0_none (f : Fleet) (c : Chain) : ∀ (l : List Member) (i : Nat), (deadOf_l0 f c l i).2 = false → ∀ x ∈ l, mHas f.alive x.node = false → (drop c x.node).2 ≠ 0
  | [], _, _, x, hx, _ => by cases hx
  | y :: l, i, h, x, hx, hd => by
    unfold deadOf_l0 at h
    rw [may_drop] at h
    cases h1 : mHas f.alive y.node
    · cases h2 : (drop c y.node).2 == 0
      · rw [h1, h2] at h
        cases hx with
        | head => simpa using h2
        | tail _ hx => exact deadOf_l0_none f c l (i + 1) h x hx hd
      · rw [h1, h2] at h; cases h
    · rw [h1] at h
      cases hx with
      | head => rw [h1] at hd; cases hd
      | tail _ hx => exact deadOf_l0_none f c l (i + 1) h x hx hd
theorem lackOf_l0_none (f : Fleet) (c : Chain) : ∀ (k i : Nat), (lackOf_l0 f c k i).2 = false → ∀ j, i ≤ j → j < i + k → many c (j : Int) < f.wish j → (spare f c (j : Int)).2 = true → (join c ⟨(spare f c (j : Int)).1, (j : Int), false⟩).2 ≠ 0
  | 0, _, _, j, h1, h2, _, _ => by omega
  | k + 1, i, h, j, h1, h2, hm, hs => by
    unfold lackOf_l0 at h
    rw [may_join] at h
    have rest : (lackOf_l0 f c k (i + 1)).2 = false → i ≠ j → (join c ⟨(spare f c (j : Int)).1, (j : Int), false⟩).2 ≠ 0 := fun h hne => lackOf_l0_none f c k (i + 1) h j (by omega) (by omega) hm hs
    by_cases hij : i = j
    · subst hij
      cases h3 : decide (many c (i : Int) ≥ f.wish i)
      case true => have := of_decide_eq_true h3; omega
      rw [h3, hs] at h
      cases h4 : (join c ⟨(spare f c (i : Int)).1, (i : Int), false⟩).2 == 0
      · simpa using h4
      · rw [h4] at h; cases h
    · cases h3 : decide (many c (i : Int) ≥ f.wish i)
      · cases h4 : (spare f c (i : Int)).2
        · rw [h3, h4] at h; exact rest h hij
        · cases h5 : (join c ⟨(spare f c (i : Int)).1, (i : Int), false⟩).2 == 0
          · rw [h3, h4, h5] at h; exact rest h hij
          · rw [h3, h4, h5] at h; cases h
      · rw [h3] at h; exact rest h hij
theorem drop_ok {c : Chain} (hc : check c = 0) (he : c.epoch < 1099511627776) {x y : Member} (hx : x ∈ c.members.D) (hy : y ∈ c.members.D) (hf : y.fresh = false) (hne : y.node ≠ x.node) : (drop c x.node).2 = 0 := by
  rw [drop_form hc]
  have h1 : (c.members.D.filter fun z => z.node != x.node).length < c.members.D.length := by
    rw [← List.countP_eq_length_filter]
    have hlt := count_lt (fun z : Member => z.node != x.node) (fun _ => true) c.members.D (fun _ _ _ => rfl) ⟨x, hx, rfl, by simp⟩
    have := List.countP_le_length (p := fun _ : Member => true) (l := c.members.D)
    omega
  have h2 : ((c.members.D.filter fun z => z.node != x.node).dropWhile (·.fresh)).length ≤ (c.members.D.filter fun z => z.node != x.node).length := (List.dropWhile_sublist _).length_le
  have h3 : ((c.members.D.filter fun z => z.node != x.node).dropWhile (·.fresh)) ≠ [] := fun e => by
    rcases dropWhile_mem (·.fresh) (c.members.D.filter fun z => z.node != x.node) y (List.mem_filter.2 ⟨hy, by simpa using hne⟩) with h | h
    · rw [e] at h; cases h
    · have h : y.fresh = true := h
      rw [hf] at h; cases h
  generalize ((c.members.D.filter fun z => z.node != x.node).dropWhile (·.fresh)) = l at *
  have h4 : l.length ≠ 0 := fun e => h3 (List.eq_nil_of_length_eq_zero e)
  unfold finW
  rw [decide_eq_false (by omega), show ((l.length : Int) == (c.members.D.length : Int)) = false by simp; omega, show ((l.length : Int) == 0) = false by simpa using h3]
  rfl
theorem join_ok {c : Chain} (hc : check c = 0) (he : c.epoch < 1099511627776) {n i : Nat} (hn : n < 6) (hi : i < 3) (hm : ∀ x ∈ c.members.D, x.node ≠ (n : Int)) (hh : c.members.D[0]!.site ≤ (i : Int)) : (join c ⟨(n : Int), (i : Int), false⟩).2 = 0 := by
  unfold join
  have hp : placeIn c (n : Int) < 0 := by
    have e : placeIn c (n : Int) = rPlace c (n : Int) := by rw [← place_eq]; unfold place0; rw [hc]; rfl
    rw [e]
    apply Classical.byContradiction
    intro h
    obtain ⟨x, h1, h2⟩ := place_mem (c := c) (n := (n : Int)) (by omega)
    exact hm x h1 h2
  have hmem : member ⟨(n : Int), (i : Int), true⟩ = true := (member_iff _).2 ⟨by show (0 : Int) ≤ n; omega, by show (n : Int) ≤ 5; omega, by show (0 : Int) ≤ i; omega, by show (i : Int) ≤ 2; omega⟩
  rw [hc, show ((0 : Int) != 0) = false from rfl, cond_false]
  show (bif !member ⟨(n : Int), (i : Int), true⟩ then _ else bif decide (placeIn c (n : Int) ≥ 0) then _ else bif decide (c.epoch ≥ 1099511627776) then _ else _ : Chain × Int).2 = 0
  rw [hmem, Bool.not_true, cond_false, decide_eq_false (by omega), cond_false, decide_eq_false (by omega), cond_false]
  have hl := check_le6 hc
  have e := join_l0_eq c ⟨(n : Int), (i : Int), false⟩ (by omega) (c.members.D.length - (0 : Int).toNat + 1) 0 (Nat.zero_le _) (by simp)
  rw [show ((0 : Nat) : Int) = 0 from rfl, List.drop_zero, Nat.zero_add] at e
  rw [e]
  have hne := check_ne hc
  have h4 : ((c.members.D.takeWhile fun x => decide (x.site ≤ (i : Int))).length == 0) = false := by
    obtain ⟨y, ys, hy⟩ := List.exists_cons_of_ne_nil hne
    rw [hy] at hh ⊢
    have hh : y.site ≤ (i : Int) := hh
    rw [List.takeWhile_cons, decide_eq_true hh]; rfl
  show (bif (c.members.D.takeWhile fun x => decide (x.site ≤ (i : Int))).length == 0 then _ else _ : Chain × Int).2 = 0
  rw [h4]; rfl
theorem whole_live {c : Chain} {a : Nat} (ha : a < 18446744073709551616) (h : mLen (mAnd (whole c) (a : Int)) > 0) : ∃ y ∈ c.members.D, y.fresh = false ∧ mHas (a : Int) y.node = true := by
  obtain ⟨U, e1, h1, b1⟩ := whole_nat c
  rw [e1] at h
  have e : mAnd (U : Int) (a : Int) = ((U &&& a : Nat) : Int) := and64 h1 ha
  rw [e] at h
  have hne : U &&& a ≠ 0 := fun h0 => by
    rw [h0] at h
    have : mLen ((0 : Nat) : Int) = 0 := by kernel_rfl
    omega
  obtain ⟨k, hk⟩ := Nat.exists_testBit_of_ne_zero hne
  rw [Nat.testBit_and, Bool.and_eq_true] at hk
  have hk64 : k < 64 := by
    apply Classical.byContradiction
    intro h
    have h64 : (2 : Nat) ^ 64 ≤ 2 ^ k := Nat.pow_le_pow_right (by decide) (by omega)
    have h' : (2 : Nat) ^ 64 = 18446744073709551616 := by decide
    rw [Nat.testBit_lt_two_pow (x := U) (by omega)] at hk
    exact absurd hk.1 (by decide)
  have hu := hk.1
  rw [b1 k hk64] at hu
  obtain ⟨y, hy, hyk⟩ := List.any_eq_true.1 hu
  rw [Bool.and_eq_true] at hyk
  have hn : y.node = (k : Int) := by simpa using hyk.1
  exact ⟨y, hy, by simpa using hyk.2, by rw [hn, has_nat ha hk64]; exact hk.2⟩
theorem lawWished_true (c : Chain) (a : Int) (h w : Nat → Int) (ha : 0 ≤ a ∧ a < 18446744073709551616) : lawWished c a h w = true := by
  unfold lawWished
  rw [awake_true]
  cases decide ((c.members.D.length : Int) > 60)
  case true => rfl
  cases he : decide (c.epoch > 1099511627756)
  case true => rfl
  have he := of_decide_eq_false he
  rw [cond_false, cond_false]
  by_cases hc : check c = 0
  case neg => rw [allP_bad hc]; rfl
  by_cases hp : planCheck h w = 0
  case neg => rw [allP_bad2 hc hp]; rfl
  obtain ⟨_, d, h2, h3, h4, h8⟩ := runP_end ha hp (planM a c.members.D + 1) c hc (Nat.lt_succ_self _)
  have h5 := planM_le a c.members.D
  have h6 := check_le6 hc
  have h7 := readyAll_check a h2
  have hepoch : (readyAll d a).epoch < 1099511627776 := by
    rw [(readyAll_eq a h2).1]
    show d.epoch < 1099511627776
    omega
  have hok : allP c a h w = ((allP c a h w).1, readyAll d a, 0) := by rw [allP_ok ha hc hp, h3]
  generalize allP c a h w = ap at *
  rw [hok, show ((0 : Int) != 0) = false from rfl, cond_false]
  generalize ap.1 = l0
  generalize readyAll d a = D at *
  obtain ⟨n, rfl⟩ : ∃ n : Nat, a = (n : Int) := ⟨a.toNat, by omega⟩
  have hn : n < 18446744073709551616 := by omega
  have hdead : (deadOf ⟨(n : Int), h, w⟩ D).2 = false := by
    rcases nextP_cases (c := D) (a := (n : Int)) (h := h) (w := w) rfl with ⟨q, _⟩ | ⟨_, q, _⟩ | ⟨_, _, q, _⟩ | ⟨_, _, q, _⟩ | ⟨_, _, q, _⟩
    · exact absurd h7 q
    · exact absurd hp q
    · rw [h4] at q; cases q
    · exact q
    · exact q
  have hlack : whole D = nodes D → (lackOf ⟨(n : Int), h, w⟩ D).2 = false := fun e => by
    rcases nextP_cases (c := D) (a := (n : Int)) (h := h) (w := w) rfl with ⟨q, _⟩ | ⟨_, q, _⟩ | ⟨_, _, q, _⟩ | ⟨_, _, _, q, _⟩ | ⟨_, _, _, _, q⟩
    · exact absurd h7 q
    · exact absurd hp q
    · rw [h4] at q; cases q
    · exact absurd e q
    · rw [q] at h4; exact h4
  unfold deadOf at hdead
  have l1 : whole D = nodes D → ∀ k i, i + k = 3 → lawWished_l1 (n : Int) h (l0, D, 0) (lacks D w) k i = true := fun e => by
    have hl := hlack e
    unfold lackOf at hl
    intro k
    induction k with
    | zero => intro i _; exact awake_true
    | succ k ih =>
      intro i hi
      have ih := ih (i + 1) (by omega)
      unfold lawWished_l1
      rw [ih]
      cases g1 : decide (lacks D w i > 0)
      case false => rfl
      cases g2 : decide (rSpare D (n : Int) h (i : Int) ≥ 0)
      case false => rfl
      have hlen : ((D.members.D.length : Int) == 0) = false := by
        have := check_len h7
        simp; intro h0; rw [h0] at this; simp at this
      show (bif ((D.members.D.length : Int) == 0) then false else bif decide (D.members.D[0]!.site ≤ (i : Int)) then false else true) = true
      rw [hlen, cond_false]
      cases g3 : decide (D.members.D[0]!.site ≤ (i : Int))
      case false => rfl
      exfalso
      have g1 := of_decide_eq_true g1
      have g2 := of_decide_eq_true g2
      have g3 := of_decide_eq_true g3
      rw [lacks_at D w (by omega)] at g1
      cases g0 : decide (w i > many D (i : Int))
      · rw [g0] at g1; exact absurd g1 (by show ¬ (0 : Int) > 0; omega)
      · have g0 := of_decide_eq_true g0
        rw [rSpare_eqN hn h7] at g2
        cases hs : spareN n h D (i : Int) with
        | none => rw [hs] at g2; exact absurd g2 (by show ¬ (-1 : Int) ≥ 0; omega)
        | some m =>
          have hsp : (spare ⟨(n : Int), h, w⟩ D (i : Int)).2 = true := by rw [spare_eqN, hs]
          obtain ⟨m', em, hm6, _, _, hno⟩ := spare_some ha hsp
          refine lackOf_l0_none _ _ 3 0 hl i (by omega) (by omega) (by show _ < w i; omega) hsp ?_
          rw [em]
          exact join_ok h7 hepoch hm6 (by omega) hno g3
  have l0' : ∀ (l : List Member) (i : Nat), (∀ x ∈ l, x ∈ D.members.D) → lawWished_l0 (n : Int) h w (l0, D, 0) (whole D) l i = true := by
    intro l
    induction l with
    | nil =>
      intro i _
      unfold lawWished_l0
      cases g : whole D != nodes D
      · exact l1 (eq_of_bne_false g) 3 0 rfl
      · (rw [cond_true]; exact awake_true)
    | cons x l ih =>
      intro i hl
      have ih := ih (i + 1) fun y hy => hl y (List.mem_cons_of_mem _ hy)
      have hx := hl x (List.mem_cons_self ..)
      unfold lawWished_l0
      rw [ih]
      cases g1 : mHas (n : Int) x.node
      case true => rfl
      cases g2 : decide (mLen (mAnd (whole D) (n : Int)) > 0)
      case false => rfl
      exfalso
      obtain ⟨y, hy, hyf, hya⟩ := whole_live hn (of_decide_eq_true g2)
      have hne : y.node ≠ x.node := fun e => by rw [e, g1] at hya; cases hya
      exact deadOf_l0_none _ _ _ _ hdead x hx g1 (drop_ok h7 hepoch hx hy hyf hne)
  exact l0' _ _ fun _ h => h
end Go.Proofs.Ytaffaalpgpepeaa
/- Laws of chapter 14 at chains that are too long. No conditions. -/
namespace Go.Proofs.Ytaffaalpgpepeaa
open Go.Am
def biglawWished (_c : Chain) (_alive : Int) (_h : (Nat → Int)) (_w : (Nat → Int)) : Bool :=
  (awake )
theorem biglawWished_calls (c : Chain) (alive : Int) (h : (Nat → Int)) (w : (Nat → Int)) (hbig : (decide ((c.members.D.length : Int) > 60)) = true) : PCalls Try.prog 7 [.agg [.pv (.lit (.int .i64 c.epoch)), sS (some c.members.nil) eMember c.members.D], .pv (.lit (.int .u64 alive)), .agg [.pv (.lit (.int .i64 (h 0))), .pv (.lit (.int .i64 (h 1))), .pv (.lit (.int .i64 (h 2))), .pv (.lit (.int .i64 (h 3))), .pv (.lit (.int .i64 (h 4))), .pv (.lit (.int .i64 (h 5)))], .agg [.pv (.lit (.int .i64 (w 0))), .pv (.lit (.int .i64 (w 1))), .pv (.lit (.int .i64 (w 2)))]] (.pv (.lit (.bool (biglawWished c alive h w)))) := by
 generalize hR : biglawWished c alive h w = R
 refine PCalls.of_body tabOk Try.func7 rfl rfl rfl rfl rfl mixed fun E hP C hI => ?_
 refine Awp.consP C ?_
 refine rvc_un (rexec_prim C (δ := { v := .ptr 4 0, new := [(4, .cells [.pv (.lit (.int .i64 c.epoch)), sS (some c.members.nil) eMember c.members.D])] }) rfl rfl rfl rfl trivial rfl ?_)
 refine rvc_un (rexec_prim C (δ := { v := .ptr 6 0, new := [(6, .cells [.pv (.lit (.int .i64 (h 0))), .pv (.lit (.int .i64 (h 1))), .pv (.lit (.int .i64 (h 2))), .pv (.lit (.int .i64 (h 3))), .pv (.lit (.int .i64 (h 4))), .pv (.lit (.int .i64 (h 5)))])] }) rfl rfl rfl rfl trivial rfl ?_)
 refine rvc_un (rexec_prim C (δ := { v := .ptr 7 0, new := [(7, .cells [.pv (.lit (.int .i64 (w 0))), .pv (.lit (.int .i64 (w 1))), .pv (.lit (.int .i64 (w 2)))])] }) rfl rfl rfl rfl trivial rfl ?_)
 refine rvP C (.pv (.lit (.bool false))) ?_
 refine rvc_nil ?_
 refine Awp.seq ?_
 refine Awp.consP C ?_
 refine rvP C (.ptr 4 1) ?_
 refine rvP C (sS (some c.members.nil) eMember c.members.D) ?_
 refine rvP C (.pv (.lit (.int .i64 (c.members.D.length : Int)))) ?_
 refine rvP C (.pv (.lit (.bool (decide ((c.members.D.length : Int) > 60))))) ?_
 refine rvP C (.pv (.lit (.bool (decide ((c.members.D.length : Int) > 60))))) ?_
 refine rvc_known 22 (decide ((c.members.D.length : Int) > 60)) true rfl hbig ?_
 refine rvS ?_
 refine rvS ?_
 refine rvS ?_
 refine rvP C (.pv (.lit (.bool true))) ?_
 refine rvc_nil ?_
 refine Awp.condT (b := true) rfl rfl ?_
 refine Awp.consP C ?_
 obtain ⟨aw, hq_aw⟩ : ∃ q_, q_ = (awake ) := ⟨_, rfl⟩
 have hc_aw := (awake_calls )
 first | rw [← hq_aw] at hR hc_aw | (unfold biglawWished at hR; rw [← hq_aw] at hR hc_aw)
 refine rvc_un (rexec_call hP C rfl rfl rfl hc_aw ?_)
 refine rvP C (.pv (.lit (.bool aw))) ?_
 refine rvc_nil ?_
 refine Awp.ret ?_
 subst hR
 exact ⟨.inl rfl, rfl⟩
end Go.Proofs.Ytaffaalpgpepeaa
/- Laws of chapter 14 at chains that are too long. No conditions. -/
namespace Go.Proofs.Ytaffaalpgpepeaa
open Go.Am
end Go.Proofs.Ytaffaalpgpepeaa
/- Inputs of chapter 14, as plain values. No conditions. -/
namespace Go.Proofs.Ytaffaalpgpepeaa
open Go.Am
set_option maxRecDepth 100000 in
theorem flat3 {m : Nat} {ps : List PV} (h : Flat Try.prog (m + 1) 3 ps) : ∃ n, ps = [.lit (.int .i64 n)] ∧ (Lit.int .i64 n).wf = true := by
  unfold Flat at h
  rw [Try.underlying3] at h
  exact h
set_option maxRecDepth 100000 in
theorem flat4 {m : Nat} {ps : List PV} (h : Flat Try.prog (m + 1) 4 ps) : ∃ b, ps = [.lit (.bool b)] ∧ True := by
  unfold Flat at h
  rw [Try.underlying4] at h
  obtain ⟨b, h⟩ := h
  exact ⟨b, h, trivial⟩
def WT41 (x : Member) : Prop := (Lit.int .i64 x.node).wf = true ∧ (Lit.int .i64 x.site).wf = true ∧ True
set_option maxRecDepth 100000 in
theorem flat41 {m : Nat} {ps : List PV} (h : Flat Try.prog (m + 2) 41 ps) : ∃ x : Member, ps = eMember.enc x ∧ WT41 x := by
  unfold Flat at h
  rw [Try.underlying41] at h
  obtain ⟨a0, b0, e0, h0, a1, b1, e1, h1, a2, b2, e2, h2, el⟩ := h
  obtain ⟨x0, rfl, w0⟩ := flat3 (m := m + 0) h0
  obtain ⟨x1, rfl, w1⟩ := flat3 (m := m + 0) h1
  obtain ⟨x2, rfl, w2⟩ := flat4 (m := m + 0) h2
  subst el
  subst e2
  subst e1
  subst e0
  exact ⟨⟨x0, x1, x2⟩, rfl, w0, w1, w2⟩
def WT22 (s : Sl Member) : Prop := s.D.length ≤ maxLen ∧ (s.nil = true → s.D = []) ∧ ∀ x ∈ s.D, WT41 x
set_option maxRecDepth 100000 in
theorem flat22 {m : Nat} {ps : List PV} (h : Flat Try.prog (m + 3) 22 ps) : ∃ s : Sl Member, ps = [.sl (some s.nil) s.D.length (encL eMember s.D)] ∧ WT22 s := by
  unfold Flat at h
  rw [Try.underlying22] at h
  obtain ⟨b, D, rfl, h1, h2, h3⟩ := h
  obtain ⟨D2, e1, e2, e3⟩ := enc_list (e := eMember) (W := fun x => WT41 x) D fun y hy => flat41 (h3 y hy)
  rw [e2, ← e1]
  exact ⟨⟨b, D2⟩, rfl, (by show D2.length ≤ _; rw [e1]; exact h1), (fun hb => by have := h2 hb; rw [this] at e1; exact List.eq_nil_of_length_eq_zero e1), e3⟩
def WT24 (x : Chain) : Prop := (Lit.int .i64 x.epoch).wf = true ∧ WT22 x.members
set_option maxRecDepth 100000 in
theorem flat24 {m : Nat} {ps : List PV} (h : Flat Try.prog (m + 4) 24 ps) : ∃ x : Chain, ps = eChain.enc x ∧ WT24 x := by
  unfold Flat at h
  rw [Try.underlying24] at h
  obtain ⟨a0, b0, e0, h0, a1, b1, e1, h1, el⟩ := h
  obtain ⟨x0, rfl, w0⟩ := flat3 (m := m + 2) h0
  obtain ⟨x1, rfl, w1⟩ := flat22 (m := m + 0) h1
  subst el
  subst e1
  subst e0
  exact ⟨⟨x0, x1⟩, rfl, w0, w1⟩
end Go.Proofs.Ytaffaalpgpepeaa
/- The contract of the law PlanNext: it is true, whatever the input. No conditions. -/
namespace Go.Proofs.Ytaffaalpgpepeaa
open Go.Am
theorem u64_range {a : Int} (h : (Lit.int .u64 a).wf = true) : 0 ≤ a ∧ a < 18446744073709551616 := by
  have h : (decide (IntKind.u64.min ≤ a) && decide (a ≤ IntKind.u64.max)) = true := h
  rw [Bool.and_eq_true] at h
  have h1 := of_decide_eq_true h.1
  have h2 := of_decide_eq_true h.2
  have e1 : IntKind.u64.min = 0 := rfl
  have e2 : IntKind.u64.max = 18446744073709551615 := rfl
  omega
end Go.Proofs.Ytaffaalpgpepeaa
/- The contracts of the laws PlanAll, PlanEnds and PlanWished: each is true, whatever the input. No conditions. -/
namespace Go.Proofs.Ytaffaalpgpepeaa
open Go.Am
theorem planWished_calls (c : Chain) (wc : WT24 c) (a : Int) (wa : (Lit.int .u64 a).wf = true) (h w : Nat → Int) : PCalls Try.prog 7 [.agg ((eChain.enc c).map .pv), .pv (.lit (.int .u64 a)), .agg (cI .i64 (tb 6 h)), .agg (cI .i64 (tb 3 w))] (.pv (.bool true)) := by
  cases hb : (decide ((c.members.D.length : Int) > 60))
  · have := of_decide_eq_false hb
    have r := lawWished_calls c a h w wc.2.2.1 (u64_range wa) (by omega)
    rw [lawWished_true c a h w (u64_range wa)] at r
    exact r
  · have r := biglawWished_calls c a h w hb
    rw [show biglawWished c a h w = true from awake_true] at r
    exact r
end Go.Proofs.Ytaffaalpgpepeaa
/- What all rows of this seat need: no knob is turned, the types are laid out. No conditions. -/
namespace Go.Proofs.Ytaffaalpgpepeaa
open Go.Am
theorem own : ownKnob Try.prog.godebug = none := by kernel_rfl
theorem laidOut : laidOutB Try.prog = true := by kernel_rfl
end Go.Proofs.Ytaffaalpgpepeaa
