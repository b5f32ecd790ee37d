/- An abstract machine over the kit's calls, part 4: a region, drawn or not, does what its moves do one behind the other. No conditions. -/
import Derived.Test.YtjhphpoihadmkaaAm3
namespace Go.Am

inductive Run (E : Env) (ops : Array Oper) (cl : Oper → Cls) : List Nat → St → St → Prop where
  | nil (st : St) : Run E ops cl [] st st
  | cons {i : Nat} {rest : List Nat} {o : Oper} {st s s' : St} (ho : ops[i]? = some o) (h : Step E ops (cl o) o st s) (hr : Run E ops cl rest s s') : Run E ops cl (i :: rest) st s'

/-- May operation k be done behind operation i, though it stands ahead of it? -/
def freePair (ops : Array Oper) (cl : Oper → Cls) (k i : Nat) : Bool :=
  match ops[k]?, ops[i]? with
  | some ok, some oi => ok.apart ops oi && (cl ok).free (cl oi)
  | _, _ => false

theorem Run.front {E : Env} {ops : Array Oper} {cl : Oper → Cls} {i : Nat} {post : List Nat} : ∀ {pre : List Nat} {st s2 : St}, WF st → Run E ops cl (pre ++ i :: post) st s2 → (∀ k ∈ pre, freePair ops cl k i = true) →
    ∃ o s, ops[i]? = some o ∧ Step E ops (cl o) o st s ∧ Run E ops cl (pre ++ post) s s2
  | [], st, s2, wf, h, _ => by
    cases h with
    | cons ho hs hr => exact ⟨_, _, ho, hs, hr⟩
  | k :: pre, st, s2, wf, h, hf => by
    cases h with
    | cons hok hs hr =>
      obtain ⟨o, s, ho, h1, h2⟩ := Run.front (hs.wf wf) hr fun j hj => hf j (List.mem_cons_of_mem _ hj)
      have hp := hf k (List.mem_cons_self ..)
      simp only [freePair, hok, ho, Bool.and_eq_true] at hp
      obtain ⟨s', h3, h4⟩ := Step.swap wf hs h1 hp.1 hp.2
      exact ⟨o, s', ho, h3, .cons hok h4 h2⟩

theorem SR.put {E : Env} {ι : Nat → Option (Nat × Nat)} {imm : Nat → Prop} {st : St} {a : Act} {w : World} (h : SR E ι imm st a w) (d : Option Nat) (hd : ∀ t, d = some t → t < E.n) {v : AV} {u : Value} (hv : VH ι imm w v u) :
    SR E ι imm ⟨putO st.S d v, st.H, st.U⟩ (a.put d u) w := by
  cases d with
  | none => exact { h with }
  | some d =>
    refine { h with defers := h.defers, size := by simp [Act.put, h.size], slot := fun t x hx => ?_ }
    simp only [putO] at hx
    have hlt : d < a.tmps.size := by rw [h.size]; exact hd d rfl
    simp only [Act.put]
    split at hx
    · rename_i he
      subst he
      obtain rfl := Option.some.inj hx
      simpa [Array.getD_eq_getD_getElem?, Array.getElem?_setIfInBounds, hlt] using hv
    · rename_i hne
      have := h.slot t x hx
      have e : (a.tmps.setIfInBounds d u).getD t undef = a.tmps.getD t undef := by
        simp only [Array.getD_eq_getD_getElem?, Array.getElem?_setIfInBounds, if_neg (Ne.symm hne)]
      rw [e]; exact this

theorem getD_some {l : Array Value} {t : Nat} {v : Value} (h : l.getD t undef = v) (hv : v ≠ undef) : l[t]? = some v := by
  rw [Array.getD_eq_getD_getElem?] at h
  cases hl : l[t]? with
  | none => rw [hl] at h; exact absurd h.symm hv
  | some x => rw [hl] at h; simpa using h

theorem SR.guard {E : Env} {ops : Array Oper} {ι : Nat → Option (Nat × Nat)} {imm : Nat → Prop} {st : St} {a : Act} {w : World} (h : SR E ι imm st a w) {o : Oper} {b : Bool} (hg : guardV ops st.S o = some b) :
    Region.wanted o (yielded ops a.tmps) = b := by
  unfold guardV at hg
  unfold Region.wanted
  split at hg
  · rename_i e; rw [e]; simpa using hg
  · rename_i j want e
    rw [e]
    split at hg
    · rename_i x hx
      obtain rfl := Option.some.inj hg
      unfold yielded
      cases hj : (ops[j]?).bind (·.dst) with
      | none => rw [hj] at hx; cases hx
      | some t =>
        rw [hj] at hx
        have hv := h.slot t _ hx
        simp only [VH, PH] at hv
        have : a.tmps[t]? = some (.bool x) := getD_some hv.1 (by simp [undef])
        simp only [hj, Option.bind_some, this]
        cases x <;> cases want <;> rfl
    · rename_i hx
      obtain rfl := Option.some.inj hg
      unfold yielded
      cases hj : (ops[j]?).bind (·.dst) with
      | none => rw [hj] at hx; cases hx
      | some t =>
        rw [hj] at hx
        have hv := h.slot t _ hx
        simp only [VH, VHs] at hv
        obtain ⟨us, hv, rfl⟩ := hv
        simp only [hj, Option.bind_some]
        have hv' : a.tmps.getD t undef = undef := hv
        rw [Array.getD_eq_getD_getElem?] at hv'
        cases hq : a.tmps[t]? with
        | none => cases want <;> rfl
        | some y =>
          rw [hq] at hv'
          simp only [Option.getD_some] at hv'
          subst hv'
          cases want <;> rfl
    · cases hg

/-- The state is as told, somehow. -/
def At (E : Env) (st : St) (a : Act) (w : World) : Prop := ∃ ι imm, SR E ι imm st a w

theorem Step.wpOp {E : Env} {ops : Array Oper} {c : Cls} {o : Oper} {st s : St} {a : Act} {w : World} {i : Nat} {Q : Exit → Act → World → Prop} (ho : ops[i]? = some o) (h : Step E ops c o st s) (hs : At E st a w) :
    wpOp E.P ops Q i (At E s) a w := by
  obtain ⟨ι, imm, hs⟩ := hs
  unfold Go.wpOp
  simp only [ho]
  cases h with
  | exec hg hd vs hs' δ m =>
    rw [if_pos (hs.guard hg)]
    exact .inl (m.does ι imm st a w Q hs m.vals m.deps m.fresh)
  | skip hg hd =>
    have := hs.guard hg
    rw [if_neg (by simp [this])]
    rw [St.after_skip]
    exact ⟨ι, imm, hs.put o.dst hd ⟨[], rfl, rfl⟩⟩

theorem run_wpOps {E : Env} {ops : Array Oper} {cl : Oper → Cls} {Q : Exit → Act → World → Prop} : ∀ {l : List Nat} {st s : St} {a : Act} {w : World}, Run E ops cl l st s → At E st a w → (∀ a w, At E s a w → Q .normal a w) →
    wpOps E.P ops Q l a w
  | [], st, s, a, w, h, hs, hq => by cases h; exact hq a w hs
  | i :: l, st, s, a, w, h, hs, hq => by
    cases h with
    | cons ho h1 h2 =>
      rw [wpOps_cons]
      exact wpOp_mono (fun a w h => run_wpOps h2 h hq) (h1.wpOp ho hs)

/-- What each operation waits for, as bits. -/
def befOf (B : List Nat) (o : Oper) : Nat := o.after.toList.foldl (fun s e => if Region.binds .any e then s ||| 2 ^ e.on ||| B.getD e.on 0 else s) 0
def befs : List Oper → List Nat → List Nat
  | [], B => B
  | o :: l, B => befs l (B ++ [befOf B o])

/-- A region whose order is drawn, and in which the order does not matter. -/
def okDrawn (ops : Array Oper) (cl : Oper → Cls) (B : List Nat) : Bool :=
  (List.range ops.size).all fun i => match ops[i]? with
    | none => false
    | some o => (o.after.toList.all fun e => !Region.binds .any e || decide (e.on < i)) && (B.getD i 0 == befOf B o) &&
      (List.range i).all fun k => (B.getD i 0).testBit k || freePair ops cl k i

theorem befOf_bit {B : List Nat} {o : Oper} {k : Nat} (h : (befOf B o).testBit k = true) : ∃ e ∈ o.after.toList, Region.binds .any e = true ∧ (e.on = k ∨ (B.getD e.on 0).testBit k = true) := by
  have key : ∀ (l : List Edge) (s : Nat), (l.foldl (fun s e => if Region.binds .any e then s ||| 2 ^ e.on ||| B.getD e.on 0 else s) s).testBit k = true →
      s.testBit k = true ∨ ∃ e ∈ l, Region.binds .any e = true ∧ (e.on = k ∨ (B.getD e.on 0).testBit k = true) := by
    intro l
    induction l with
    | nil => intro s h; exact .inl h
    | cons e l ih =>
      intro s h
      simp only [List.foldl_cons] at h
      rcases ih _ h with h | ⟨e', he, hb, hx⟩
      · by_cases hb : Region.binds .any e = true
        · rw [if_pos hb] at h
          simp only [Nat.testBit_or, Bool.or_eq_true, Nat.testBit_two_pow, decide_eq_true_eq] at h
          rcases h with (h | h) | h
          · exact .inl h
          · exact .inr ⟨e, List.mem_cons_self .., hb, .inl h⟩
          · exact .inr ⟨e, List.mem_cons_self .., hb, .inr h⟩
        · rw [if_neg hb] at h; exact .inl h
      · exact .inr ⟨e', List.mem_cons_of_mem _ he, hb, hx⟩
  rcases key _ _ h with h | h
  · simp at h
  · exact h

theorem run_wpAny {E : Env} {ops : Array Oper} {cl : Oper → Cls} {B : List Nat} {Q : Exit → Act → World → Prop} (hok : okDrawn ops cl B = true) {sn : St} (hq : ∀ a w, At E sn a w → Q .normal a w) :
    ∀ (fuel : Nat) (listed : Array Bool) (rem : List Nat) (st : St) (a : Act) (w : World), listed.size = ops.size → rem.length ≤ fuel → rem.Pairwise (· < ·) → (∀ i, i ∈ rem ↔ i < ops.size ∧ listed.getD i true = false) →
      (∀ i, i < ops.size → listed.getD i true = true → ∀ k, (B.getD i 0).testBit k = true → listed.getD k true = true) → Run E ops cl rem st sn → At E st a w → wpAny E.P .any ops Q fuel listed a w := by
  have hokI : ∀ i, i < ops.size → ∃ o, ops[i]? = some o ∧ (∀ e ∈ o.after.toList, Region.binds .any e = true → e.on < i) ∧ B.getD i 0 = befOf B o ∧ ∀ k, k < i → (B.getD i 0).testBit k = true ∨ freePair ops cl k i = true := by
    intro i hi
    have h := List.all_eq_true.1 hok i (List.mem_range.2 hi)
    split at h
    · cases h
    · rename_i o ho
      simp only [Bool.and_eq_true, beq_iff_eq] at h
      obtain ⟨⟨h1, h2⟩, h3⟩ := h
      refine ⟨o, ho, fun e he hb => ?_, h2, fun k hk => ?_⟩
      · have := List.all_eq_true.1 h1 e he
        simpa [hb] using this
      · have := List.all_eq_true.1 h3 k (List.mem_range.2 hk)
        simpa using this
  intro fuel
  induction fuel with
  | zero =>
    intro listed rem st a w hsz hlen hpw hrem hcl hrun hat
    obtain rfl : rem = [] := List.eq_nil_of_length_eq_zero (by omega)
    cases hrun
    refine ⟨?_, hq a w hat⟩
    apply List.eq_nil_iff_forall_not_mem.2
    intro i hi
    have := mem_ready.1 hi
    have hm := (hrem i).2 (by
      refine ⟨?_, ?_⟩
      · simp only [Region.ready, List.mem_filter, List.mem_range] at hi; exact hi.1
      · simp only [Region.ready, List.mem_filter, List.mem_range, Bool.and_eq_true, Bool.not_eq_true'] at hi; exact hi.2.1)
    cases hm
  | succ fuel ih =>
    intro listed rem st a w hsz hlen hpw hrem hcl hrun hat
    have hready : ∀ i, i ∈ Region.ready .any ops listed ↔ i < ops.size ∧ listed.getD i true = false ∧ ∀ o, ops[i]? = some o → ∀ e ∈ o.after.toList, Region.binds .any e = true → listed.getD e.on false = true := by
      intro i
      simp only [Region.ready, List.mem_filter, List.mem_range, Bool.and_eq_true, Bool.not_eq_true']
      constructor
      · rintro ⟨h1, h2, h3⟩
        refine ⟨h1, h2, fun o ho e he hb => ?_⟩
        simp only [ho, Option.map_some, Option.getD_some] at h3
        have := (Array.all_eq_true'.1 h3) e (Array.mem_toList_iff.1 he)
        simpa [hb] using this
      · rintro ⟨h1, h2, h3⟩
        refine ⟨h1, h2, ?_⟩
        have ho : ops[i]? = some ops[i] := Array.getElem?_eq_getElem h1
        simp only [ho, Option.map_some, Option.getD_some]
        refine Array.all_eq_true'.2 fun e he => ?_
        cases hb : Region.binds .any e with
        | false => rfl
        | true => simpa [hb] using h3 _ ho e (Array.mem_toList_iff.2 he) hb
    refine ⟨fun hnil => ?_, fun i hi => ?_⟩
    · -- none is ready: all are done
      cases rem with
      | nil => cases hrun; exact hq a w hat
      | cons j rem =>
        exfalso
        have hj := (hrem j).1 (List.mem_cons_self ..)
        obtain ⟨o, ho, he, _, _⟩ := hokI j hj.1
        have : j ∈ Region.ready .any ops listed := (hready j).2 ⟨hj.1, hj.2, fun o' ho' e hee hb => by
          obtain rfl : o = o' := Option.some.inj (ho.symm.trans ho')
          have hlt := he e hee hb
          cases hl : listed.getD e.on true with
          | true =>
            have : e.on < listed.size := by omega
            simpa [Array.getD_eq_getD_getElem?, Array.getElem?_eq_getElem this] using hl
          | false =>
            have hm := (hrem e.on).2 ⟨by omega, hl⟩
            cases hm with
            | head => omega
            | tail _ hm => have := (List.pairwise_cons.1 hpw).1 _ hm; omega⟩
        rw [hnil] at this
        cases this
    · obtain ⟨hi1, hi2, hi3⟩ := (hready i).1 hi
      have him := (hrem i).2 ⟨hi1, hi2⟩
      obtain ⟨pre, post, rfl⟩ := List.append_of_mem him
      obtain ⟨o, ho, he, hB, hfree⟩ := hokI i hi1
      have hpre : ∀ k ∈ pre, k < i := fun k hk => (List.pairwise_append.1 hpw).2.2 k hk i (List.mem_cons_self ..)
      have bits : ∀ k, (B.getD i 0).testBit k = true → listed.getD k true = true := by
        intro k hk
        rw [hB] at hk
        obtain ⟨e, hee, hb, hx⟩ := befOf_bit hk
        have hl := hi3 o ho e hee hb
        have hlt := he e hee hb
        have hl' : listed.getD e.on true = true := by
          have : e.on < listed.size := by omega
          simpa [Array.getD_eq_getD_getElem?, Array.getElem?_eq_getElem this] using hl
        rcases hx with rfl | hx
        · exact hl'
        · exact hcl e.on (by omega) hl' k hx
      have hfp : ∀ k ∈ pre, freePair ops cl k i = true := fun k hk => by
        rcases hfree k (hpre k hk) with h | h
        · have h1 := bits k h
          have h2 := ((hrem k).1 (List.mem_append_left _ hk)).2
          rw [h1] at h2; cases h2
        · exact h
      obtain ⟨ι, imm, hsr⟩ := hat
      obtain ⟨o', s, ho', hstep, hrun'⟩ := hrun.front hsr.wf hfp
      have hget : ∀ k, (listed.setIfInBounds i true).getD k true = (if k = i then true else listed.getD k true) := fun k => by
        simp only [Array.getD_eq_getD_getElem?, Array.getElem?_setIfInBounds]
        by_cases hki : k = i
        · subst hki; rw [if_pos rfl, if_pos rfl, if_pos (by omega)]; rfl
        · rw [if_neg hki, if_neg (Ne.symm hki)]
      refine wpOp_mono (fun a' w' hat' => ih _ (pre ++ post) s a' w' (by simp [hsz]) ?_ ?_ ?_ ?_ hrun' hat') (hstep.wpOp ho' ⟨ι, imm, hsr⟩)
      · simp only [List.length_append, List.length_cons] at hlen ⊢; omega
      · exact hpw.sublist (by simp)
      · intro k
        have hk := hrem k
        rw [hget k]
        by_cases hki : k = i
        · subst hki
          simp only [if_true]
          constructor
          · intro hm
            exfalso
            rcases List.mem_append.1 hm with h | h
            · exact Nat.lt_irrefl _ (hpre k h)
            · have := (List.pairwise_cons.1 (List.pairwise_append.1 hpw).2.1).1 k h
              exact Nat.lt_irrefl _ this
          · rintro ⟨_, h⟩; cases h
        · rw [if_neg hki, ← hk]
          simp only [List.mem_append, List.mem_cons]
          constructor
          · rintro (h | h)
            · exact .inl h
            · exact .inr (.inr h)
          · rintro (h | h | h)
            · exact .inl h
            · exact absurd h hki
            · exact .inr h
      · intro j hj hl k hk
        rw [hget] at hl ⊢
        by_cases hki : k = i
        · rw [if_pos hki]
        · rw [if_neg hki]
          by_cases hji : j = i
          · subst hji; exact bits k hk
          · rw [if_neg hji] at hl; exact hcl j hj hl k hk

theorem At.drew {E : Env} {st : St} {a : Act} {w : World} (h : At E st a w) : At E st a { w with drawn := w.drawn + 1 } := by
  obtain ⟨ι, imm, h⟩ := h
  have g : Grows ι ι imm imm w { w with drawn := w.drawn + 1 } := ⟨fun _ _ h => h, ⟨fun _ h => h, fun _ _ => rfl⟩, fun _ c _ f h => ⟨c, f, h, rfl⟩⟩
  refine ⟨ι, imm, h.defers, h.size, fun t v hv => VH.grows g v _ (h.slot t v hv), ⟨fun b k hk => ?_, h.heap.inj⟩, h.used, h.grow.trans g, ⟨h.ext.os, h.ext.tape, h.ext.output, h.ext.size, h.ext.block⟩, h.immM, h.immlt⟩
  obtain ⟨r, z, h1, h2, h3, h4⟩ := h.heap.blk b k hk
  refine ⟨r, z, h1, h2, h3, ?_⟩
  have hc : ∀ c (cs : List AV) (o : Nat), CellsH ι imm w c cs o → CellsH ι imm { w with drawn := w.drawn + 1 } c cs o := by
    intro c cs
    induction cs with
    | nil => intro o _; trivial
    | cons x xs ih => intro o hx; obtain ⟨⟨v, h1, h2⟩, h3⟩ := hx; exact ⟨⟨v, h1, VH.grows g x v h2⟩, ih _ h3⟩
  have he : ∀ (xs : List (AV × AV)) es, EntsH ι imm w xs es → EntsH ι imm { w with drawn := w.drawn + 1 } xs es := by
    intro xs
    induction xs with
    | nil => intro es h; exact h
    | cons x xs ih => intro es hx; obtain ⟨e, us, h1, h2, h3, h4⟩ := hx; exact ⟨e, us, h1, VH.grows g _ _ h2, VH.grows g _ _ h3, ih _ h4⟩
  cases k with
  | cells cs => obtain ⟨c, e, f, q1, q2, q3, q4⟩ := h4; exact ⟨c, e, f, q1, q2, q3, hc _ _ _ q4⟩
  | map es => obtain ⟨c, q, q1, q2, q3⟩ := h4; exact ⟨c, q, q1, q2, he _ _ q3⟩

/-- A region that is done in the text's order. -/
theorem wp_region_run {E : Env} {id : Nat} {ops : Array Oper} {cl : Oper → Cls} {Q : Exit → Act → World → Prop} {st s : St} {a : Act} {w : World} (h : Run E ops cl (List.range ops.size) st s) (hs : At E st a w)
    (hq : ∀ a w, At E s a w → Q .normal a w) : (Code.region id ops false).wp E.P Q a w :=
  wp_region (run_wpOps h hs hq)

/-- A region that draws its order. -/
theorem wp_region_drawn {E : Env} {id : Nat} {ops : Array Oper} {cl : Oper → Cls} {B : List Nat} {Q : Exit → Act → World → Prop} {st s : St} {a : Act} {w : World} (hm : E.P.follows .mixedOrders = true)
    (hok : okDrawn ops cl B = true) (h : Run E ops cl (List.range ops.size) st s) (hs : At E st a w) (hq : ∀ a w, At E s a w → Q .normal a w) : (Code.region id ops true).wp E.P Q a w := by
  refine wp_region_any hm (run_wpAny hok hq ops.size _ (List.range ops.size) st a _ (by simp) (by simp) List.pairwise_lt_range ?_ ?_ h hs.drew)
  · intro i
    simp only [List.mem_range]
    constructor
    · intro hi; exact ⟨hi, by simp [Array.getD_eq_getD_getElem?, hi]⟩
    · exact fun h => h.1
  · intro i hi hl
    simp [Array.getD_eq_getD_getElem?, hi] at hl
end Go.Am
