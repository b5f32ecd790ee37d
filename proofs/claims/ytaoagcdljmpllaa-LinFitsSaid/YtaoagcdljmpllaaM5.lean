import Derived.Test.YtaoagcdljmpllaaM4
import Derived.Test.YtaoagcdljmpllaaM2
/- What the search asks, in plain words; a row fits here if it does there. No conditions. -/
namespace Go.Proofs.Ytaoagcdljmpllaa
open Go.Am
theorem loop_iff {α : Type} {f : List α → Nat → Bool} {c : Nat → α → Bool} (h0 : ∀ j, f [] j = true) (h1 : ∀ x xs j, f (x :: xs) j = bif c j x then false else f xs (j + 1)) : ∀ (ys : List α) (j : Nat), f ys j = true ↔ ∀ k x, ys[k]? = some x → c (j + k) x = false
  | [], j => by simp [h0]
  | y :: ys, j => by
    rw [h1]
    cases hc : c j y
    · rw [cond_false, loop_iff h0 h1 ys (j + 1)]
      constructor
      · intro h k x hk
        cases k with
        | zero => simp only [List.getElem?_cons_zero, Option.some.injEq] at hk; subst hk; exact hc
        | succ k => rw [List.getElem?_cons_succ] at hk; have := h k x hk; rwa [Nat.add_right_comm] at this
      · intro h k x hk
        have := h (k + 1) x (by rw [List.getElem?_cons_succ]; exact hk)
        rwa [show j + (k + 1) = j + 1 + k by omega] at this
    · rw [cond_true]
      constructor
      · intro h; cases h
      · intro h
        have := h 0 y rfl
        rw [Nat.add_zero, hc] at this; cases this
def firstC' (l : List Op) (i done : Int) (k : Nat) (x : Op) : Bool := ((k : Int) != i) && (!(mHas done (k : Int)) && decide (over x < (l[i.toNat]!.began)))
theorem firstSO_iff (s : Search) (i d : Int) : firstSO s i d = true ↔ ∀ k x, s.l.D[k]? = some x → firstC' s.l.D i d k x = false := by
  have := loop_iff (f := firstSO_l0 s i d) (c := firstC' s.l.D i d) (fun _ => rfl) (fun x xs j => by
    conv => lhs; unfold firstSO_l0
    unfold firstC'
    cases ((j : Int) != i) <;> cases (mHas d (j : Int)) <;> cases decide (over x < (s.l.D[i.toNat]!.began)) <;> rfl) s.l.D 0
  simp only [Nat.zero_add] at this
  exact this
theorem firstSM_eq (s : Search) (i d : Int) : firstSM s i d = firstSO s i d := by
  unfold firstSM firstSO
  suffices hh : ∀ (ys : List Op) (j : Nat), firstSM_l0 s i d ys j = firstSO_l0 s i d ys j from hh _ 0
  intro ys
  induction ys with
  | nil => intro j; rfl
  | cons y ys ih => intro j; unfold firstSM_l0 firstSO_l0; rw [ih]
theorem allSM_eq (s : Search) (d : Int) : allSM s d = allSO s d := by
  unfold allSM allSO
  suffices hh : ∀ (ys : List Op) (j : Nat), allSM_l0 d ys j = allSO_l0 d ys j from hh _ 0
  intro ys
  induction ys with
  | nil => intro j; rfl
  | cons y ys ih => intro j; unfold allSM_l0 allSO_l0; rw [ih]
theorem allSO_iff (s : Search) (d : Int) : allSO s d = true ↔ ∀ (k : Nat) (x : Op), s.l.D[k]? = some x → ((x.ended != 0) && !(mHas d (k : Int))) = false := by
  have := loop_iff (f := allSO_l0 d) (c := fun (k : Nat) (x : Op) => (x.ended != 0) && !(mHas d (k : Int))) (fun _ => rfl) (fun x xs j => by
    conv => lhs; unfold allSO_l0
    cases (x.ended != 0) <;> cases (mHas d (j : Int)) <;> rfl) s.l.D 0
  simp only [Nat.zero_add] at this
  exact this
def nextC (l : List Op) (left : List Bool) (i : Int) (k : Nat) (x : Op) : Bool := left[k]! && (((k : Int) != i) && before x (l[i.toNat]!))
theorem nextW_iff (l : Sl Op) (left : Sl Bool) (i : Int) : nextW l left i = true ↔ ∀ k x, l.D[k]? = some x → nextC l.D left.D i k x = false := by
  have := loop_iff (f := nextW_l0 l left i) (c := nextC l.D left.D i) (fun _ => rfl) (fun x xs j => by
    conv => lhs; unfold nextW_l0
    unfold nextC
    cases left.D[j]! <;> cases ((j : Int) != i) <;> cases before x (l.D[i.toNat]!) <;> rfl) l.D 0
  simp only [Nat.zero_add] at this
  exact this
theorem rFits2_iff (left : List Bool) (l : List Op) : rFits_l2 left l 0 = true ↔ ∀ (k : Nat) (x : Op), l[k]? = some x → (left[k]! && decide (x.ended > 0)) = false := by
  have := loop_iff (f := rFits_l2 left) (c := fun (k : Nat) (x : Op) => left[k]! && decide (x.ended > 0)) (fun _ => rfl) (fun x xs j => by
    conv => lhs; unfold rFits_l2
    cases left[j]! <;> cases decide (x.ended > 0) <;> rfl) l 0
  simp only [Nat.zero_add] at this
  exact this
/-- What is done, and what is left. -/
def Rel (l : List Op) (done : Int) (left : List Bool) : Prop := left.length = l.length ∧ ∀ k, k < l.length → left[k]! = !(mHas done (k : Int))
def okOp (x : Op) : Prop := 0 ≤ x.ended ∧ x.began ≤ 9223372036854775807
theorem over_before {a b : Op} (h : okOp a) (hb : okOp b) : decide (over a < b.began) = before a b := by
  obtain ⟨h1, _⟩ := h
  obtain ⟨_, h2⟩ := hb
  unfold over before
  by_cases e : a.ended = 0
  · have e1 : (a.ended == 0) = true := by simp [e]
    rw [e1, decide_eq_false (p := a.ended > 0) (by omega), cond_true, cond_false]
    exact decide_eq_false (by omega)
  · have e1 : (a.ended == 0) = false := by simp [e]
    rw [e1, decide_eq_true (p := a.ended > 0) (by omega), cond_true, cond_false]
theorem bool_iff {a b : Bool} (h : a = true ↔ b = true) : a = b := by
  cases a <;> cases b <;> simp_all
theorem getO {α : Type} [Inhabited α] {l : List α} {i : Nat} (h : i < l.length) : l[i]? = some (l[i]!) := by
  rw [List.getElem!_eq_getElem?_getD, List.getElem?_eq_getElem h]; rfl
theorem lt_of_get {α : Type} {l : List α} {i : Nat} {x : α} (h : l[i]? = some x) : i < l.length := by
  rcases Nat.lt_or_ge i l.length with h1 | h1
  · exact h1
  · rw [List.getElem?_eq_none h1] at h; cases h
theorem next_first {l : Sl Op} (hl : ∀ x ∈ l.D, okOp x) {done : Int} {left : Sl Bool} (h : Rel l.D done left.D) {i : Int} (hi : 0 ≤ i ∧ i < (l.D.length : Int)) (s : Search) (hs : s.l.D = l.D) : firstSO s i done = nextW l left i := by
  apply bool_iff
  rw [firstSO_iff, nextW_iff, hs]
  have key : ∀ k x, l.D[k]? = some x → firstC' l.D i done k x = nextC l.D left.D i k x := fun k x hk => by
    unfold firstC' nextC
    have hlt := lt_of_get hk
    have hm : x ∈ l.D := List.mem_of_getElem? hk
    have hm2 : l.D[i.toNat]! ∈ l.D := List.mem_of_getElem? (getO (by omega))
    rw [h.2 k hlt, over_before (hl x hm) (hl _ hm2)]
    cases ((k : Int) != i) <;> cases mHas done (k : Int) <;> cases before x l.D[i.toNat]! <;> rfl
  constructor
  · intro hh k x hk; rw [← key k x hk]; exact hh k x hk
  · intro hh k x hk; rw [key k x hk]; exact hh k x hk
theorem all_left {l : List Op} (hl : ∀ x ∈ l, okOp x) {done : Int} {left : List Bool} (h : Rel l done left) (s : Search) (hs : s.l.D = l) : allSO s done = rFits_l2 left l 0 := by
  apply bool_iff
  rw [allSO_iff, rFits2_iff, hs]
  have key : ∀ (k : Nat) (x : Op), l[k]? = some x → ((x.ended != 0) && !(mHas done (k : Int))) = (left[k]! && decide (x.ended > 0)) := fun k x hk => by
    have hx := (hl x (List.mem_of_getElem? hk)).1
    rw [h.2 k (lt_of_get hk)]
    by_cases e : x.ended = 0
    · have e1 : (x.ended != 0) = false := by simp [e]
      rw [e1, decide_eq_false (p := x.ended > 0) (by omega)]; simp
    · have e1 : (x.ended != 0) = true := by simp [e]
      rw [e1, decide_eq_true (p := x.ended > 0) (by omega)]; simp
  constructor
  · intro hh k x hk; rw [← key k x hk]; exact hh k x hk
  · intro hh k x hk; rw [key k x hk]; exact hh k x hk
theorem set_get (left : List Bool) (n k : Nat) (hk : k < left.length) : (left.set n false)[k]! = (left[k]! && !(decide (n = k))) := by
  rw [List.getElem!_eq_getElem?_getD, List.getElem!_eq_getElem?_getD, List.getElem?_set]
  by_cases e : n = k
  · subst e
    rw [if_pos rfl, if_pos hk]; simp
  · rw [if_neg e]; simp [e]
theorem Rel.step {l : List Op} {done : Int} {left : List Bool} (hl : l.length ≤ 64) (hd : okD done) (h : Rel l done left) {n : Nat} (hn : n < l.length) : Rel l (mWith done (n : Int)) (left.set n false) := by
  refine ⟨by rw [List.length_set]; exact h.1, fun k hk => ?_⟩
  rw [set_get _ _ _ (by rw [h.1]; exact hk), h.2 k hk, has_withD hd (by omega) (by omega)]
  cases mHas done (k : Int) <;> simp
theorem Rel.zero (l : List Op) (hl : l.length ≤ 64) : Rel l 0 (List.replicate l.length true) := by
  refine ⟨by simp, fun k hk => ?_⟩
  have e : mHas 0 (k : Int) = false := by
    have := has_nat (S := 0) (n := k) (by decide) (by omega)
    rw [Nat.zero_testBit] at this
    exact this
  rw [e, List.getElem!_eq_getElem?_getD, List.getElem?_replicate, if_pos hk]; rfl
theorem okD0 : okD 0 := ⟨by decide, by decide⟩
theorem rep_set (i k : Nat) : (List.replicate i true ++ List.replicate (k + 1) false).set i true = List.replicate (i + 1) true ++ List.replicate k false := by
  rw [List.set_append_right _ _ (by simp)]
  simp only [List.length_replicate, Nat.sub_self, List.replicate_succ, List.set_cons_zero]
  rw [← List.replicate_succ, List.replicate_succ', List.append_assoc]; rfl
theorem rFits0_eq (row : Sl Int) (l : Sl Op) : ∀ (ys : List Op) (i : Nat), rFits_l0 row l ys i (List.replicate i true ++ List.replicate ys.length false) = rFits_l1 l row.D 0 ⟨#[]⟩ (List.replicate (i + ys.length) true)
  | [], i => by unfold rFits_l0; simp
  | y :: ys, i => by
    unfold rFits_l0
    rw [List.length_cons, rep_set, rFits0_eq row l ys (i + 1), show i + 1 + ys.length = i + (ys.length + 1) by omega]
theorem fits_l {l : Sl Op} (hl : ∀ x ∈ l.D, okOp x) (h64 : l.D.length ≤ 64) : ∀ (xs : List Int) (i j : Nat) (done : Int) (left : List Bool) (v : ByteArray), okD done → Rel l.D done left → fitsL_l0 l xs i done v = rFits_l1 l xs j v left
  | [], i, j, done, left, v, hd, hr => by
    unfold fitsL_l0 rFits_l1
    rw [allSM_eq, all_left hl hr _ rfl]
  | x :: xs, i, j, done, left, v, hd, hr => by
    unfold fitsL_l0 rFits_l1
    by_cases h1 : x < 0
    · rw [decide_eq_true h1]; rfl
    · by_cases h2 : x ≥ (l.D.length : Int)
      · rw [decide_eq_true h2, decide_eq_false h1]; rfl
      · rw [decide_eq_false h2, decide_eq_false h1]
        have hn : x.toNat < l.D.length := by omega
        have hx : x = ((x.toNat : Nat) : Int) := by omega
        have e1 := hr.2 _ hn
        rw [← hx] at e1
        rw [e1, firstSM_eq, next_first hl (left := Sl.mk false left) hr (by omega) _ rfl]
        have hs := hr.step h64 hd hn
        rw [← hx] at hs
        have hd' := with_okD hd (n := x.toNat) (by omega)
        rw [← hx] at hd'
        rw [fits_l hl h64 xs (i + 1) (j + 1) _ _ (l.D[x.toNat]!.value) hd' hs, fits_l hl h64 xs (i + 1) (j + 1) _ _ v hd' hs]
        cases mHas done x <;> cases nextW l (Sl.mk false left) x <;> cases l.D[x.toNat]!.write <;> cases (l.D[x.toNat]!.value.toList == v.toList) <;> rfl
theorem right_ended : ∀ (l : List Op) (i : Nat), refRight_l0 l i = 0 → ∀ x ∈ l, 0 ≤ x.ended
  | [], _, _, x, hx => by cases hx
  | y :: ys, i, h, x, hx => by
    unfold refRight_l0 at h
    by_cases h1 : y.ended < 0
    · rw [decide_eq_true h1] at h
      cases hb : decide (y.began < 1) <;> rw [hb] at h <;> cases h
    · rcases List.mem_cons.1 hx with rfl | hx
      · omega
      · refine right_ended ys (i + 1) ?_ x hx
        rw [decide_eq_false h1] at h
        revert h
        cases decide (y.began < 1) <;> cases decide (y.ended > 0) <;> cases decide (y.ended ≤ y.began) <;> cases decide (y.ver < 0) <;> cases decide (y.ver > 1099511627776) <;> cases decide ((y.value.size : Int) > 24) <;> intro h <;> first | exact h | cases h
theorem ok_of {l : Sl Op} (w : WT40 l) (h : (refRight l != 0) = false) : ∀ x ∈ l.D, okOp x := fun x hx => by
  have h0 : refRight l = 0 := by simpa using h
  unfold refRight at h0
  cases h1 : decide ((l.D.length : Int) > 24)
  · rw [h1, cond_false] at h0
    refine ⟨right_ended _ _ h0 x hx, ?_⟩
    have hw := (w.2.2 x hx)
    have hb := hw.2.2.2.1
    simp [Lit.wf, IntKind.min, IntKind.max, IntKind.signed, IntKind.bits] at hb
    omega
  · rw [h1] at h0; cases h0
theorem fits_eq (row : Sl Int) (l : Sl Op) (w : WT40 l) : fitsL row l = rFits row l := by
  unfold fitsL rFits
  rw [right_eq]
  cases h : (refRight l != 0)
  · rw [cond_false, cond_false]
    have h64 := ref_len h
    have := rFits0_eq row l l.D 0
    simp only [List.replicate_zero, List.nil_append, Nat.zero_add] at this
    rw [this]
    exact fits_l (ok_of w h) h64 row.D 0 0 0 _ _ okD0 (Rel.zero _ h64)
  · rfl
theorem lawFits_true (row : Sl Int) (l : Sl Op) (w : WT40 l) : lawFits row l = true := by
  unfold lawFits
  rw [fits_eq row l w, awakeL_true]
  cases decide ((row.D.length : Int) > 60) <;> cases decide ((l.D.length : Int) > 60) <;> simp
theorem linFits_calls (row : Sl Int) (_ : WT43 row) (l : Sl Op) (w : WT40 l) : PCalls Try.prog 12 [sS (some row.nil) (eI .i64) row.D, sS (some l.nil) eOp l.D] (.pv (.bool true)) := by
  have r := lawFits_calls row l (Nat.le_trans w.1 (by decide)) (Nat.le_trans (by assumption : WT43 row).1 (by decide))
  rw [lawFits_true row l w] at r
  exact r
end Go.Proofs.Ytaoagcdljmpllaa
/- An abstract machine over the kit's calls, part 34: three rows of three numbers that are handed in. No conditions. -/
namespace Go.Am
section
variable {H : Type} {enc : TypeId × Value → H} {P : Program} {w : World} {base : Nat} {spare : Nat → Bool} {held : Bool}
end
end Go.Am
/- What all rows of this seat need: no knob is turned, the types are laid out. No conditions. -/
namespace Go.Proofs.Ytaoagcdljmpllaa
open Go.Am
theorem own : ownKnob Try.prog.godebug = none := by kernel_rfl
theorem laidOut : laidOutB Try.prog = true := by kernel_rfl
end Go.Proofs.Ytaoagcdljmpllaa
