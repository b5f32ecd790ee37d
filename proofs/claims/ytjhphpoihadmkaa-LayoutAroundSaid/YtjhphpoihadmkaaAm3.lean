/- An abstract machine over the kit's calls, part 3: moves that wait for nothing of one another may be done in either order; a region that draws its order does what its moves do one behind the other. No conditions. -/
import Derived.Test.YtjhphpoihadmkaaAm2
namespace Go.Am

theorem reach_in {U : Nat → Bool} {H H' : Nat → Option Blk} {vs : List AV} (hv : AV.withinL U vs = true) (hU : ∀ b, U b = true → H' b = H b) (hW : ∀ b k, H b = some k → k.within U = true) :
    ∀ (hs seen : List (Nat × Blk)), (∀ x ∈ seen, x.2.within U = true) → reachB vs seen hs = true → (∀ x ∈ hs, H' x.1 = some x.2) → ∀ x ∈ hs, U x.1 = true ∧ H x.1 = some x.2 ∧ x.2.within U = true
  | [], _, _, _, _, x, hx => by cases hx
  | y :: ys, seen, hs, hr, hd, x, hx => by
    simp only [reachB, Bool.and_eq_true] at hr
    have hy := refs_in hv hs hr.1
    have hy1 : H y.1 = some y.2 := by rw [← hU y.1 hy]; exact hd y (List.mem_cons_self ..)
    have hy2 := hW _ _ hy1
    cases hx with
    | head => exact ⟨hy, hy1, hy2⟩
    | tail _ hm =>
      exact reach_in hv hU hW ys (y :: seen) (fun z hz => by cases hz with | head => exact hy2 | tail _ h => exact hs z h) hr.2 (fun z hz => hd z (List.mem_cons_of_mem _ hz)) x hm

theorem evls_within {st : St} (wf : WF st) : ∀ (xs : List Operand) (vs : List AV), evls st.S xs = some vs → AV.withinL st.U vs = true
  | [], vs, h => by simp only [evls, Option.some.injEq] at h; subst h; rfl
  | x :: xs, vs, h => by
    simp only [evls] at h
    split at h
    · rename_i v us hv hus
      simp only [Option.some.injEq] at h
      subst h
      simp only [AV.withinL, Bool.and_eq_true]
      refine ⟨?_, evls_within wf xs us hus⟩
      cases x with
      | tmp t => exact wf.S t v hv
      | const c =>
        simp only [evl, Option.some.injEq] at hv
        subst hv
        have hcell : ∀ c, (constCell c).within st.U = true := fun c => by unfold constCell; split <;> rfl
        unfold constAV
        split
        · simp only [AV.within]
          refine AV.withinL_of fun x hx => ?_
          obtain ⟨y, _, rfl⟩ := List.mem_map.1 hx
          exact hcell y
        · exact hcell _
      | func f => simp only [evl, Option.some.injEq] at hv; subst hv; rfl
      | global g => simp [evl] at hv
    · cases h

theorem Delta.U_old {δ : Delta} {U : Nat → Bool} {b : Nat} (h : U b = true) : δ.U U b = true := by simp [Delta.U, h]

mutual
theorem AV.within_of {U : Nat → Bool} : ∀ (x : AV), (∀ b, x.within (· != b) = false → U b = true) → x.within U = true
  | .undef, _ | .pv _, _ | .tsl _ _, _ | .rp _, _ => rfl
  | .agg cs, h => by simp only [AV.within] at h ⊢; exact AV.withinL_ofM cs h
  | .tup cs, h => by simp only [AV.within] at h ⊢; exact AV.withinL_ofM cs h
  | .ptr b _, h => by simp only [AV.within] at h ⊢; exact h b (by simp)
  | .sl b _ _ _ _, h | .slc b _ _ _ _, h => by simp only [AV.within] at h ⊢; exact h b (by simp)
  | .mp b, h => by simp only [AV.within] at h ⊢; exact h b (by simp)
  | .fn _ xs ys, h => by
    simp only [AV.within, Bool.and_eq_true, Bool.and_eq_false_iff] at h ⊢
    exact ⟨AV.withinL_ofM xs fun b hb => h b (.inl hb), AV.withinL_ofM ys fun b hb => h b (.inr hb)⟩
theorem AV.withinL_ofM {U : Nat → Bool} : ∀ (xs : List AV), (∀ b, AV.withinL (· != b) xs = false → U b = true) → AV.withinL U xs = true
  | [], _ => rfl
  | x :: xs, h => by
    simp only [AV.withinL, Bool.and_eq_true, Bool.and_eq_false_iff] at h ⊢
    exact ⟨AV.within_of x fun b hb => h b (.inl hb), AV.withinL_ofM xs fun b hb => h b (.inr hb)⟩
end
theorem Blk.within_of {U : Nat → Bool} : ∀ (x : Blk), (∀ b, x.within (· != b) = false → U b = true) → x.within U = true
  | .cells cs, h => AV.withinL_ofM cs h
  | .map es, h => by
    simp only [Blk.within, List.all_eq_true, Bool.and_eq_true]
    intro e he
    have key : ∀ b, e.1.within (· != b) = false ∨ e.2.within (· != b) = false → U b = true := fun b hb => h b (by
      cases hall : Blk.within (· != b) (.map es) with
      | false => rfl
      | true =>
        simp only [Blk.within, List.all_eq_true, Bool.and_eq_true] at hall
        have := hall e he
        rcases hb with hb | hb
        · rw [this.1] at hb; cases hb
        · rw [this.2] at hb; cases hb)
    exact ⟨AV.within_of _ fun b hb => key b (.inl hb), AV.within_of _ fun b hb => key b (.inr hb)⟩
theorem within_self (vs : List AV) (hs : List (Nat × Blk)) : AV.withinL (fun b => refs vs hs b) vs = true :=
  AV.withinL_ofM vs fun b hb => by simp [refs, hb]
theorem within_self_blk (vs : List AV) (hs : List (Nat × Blk)) (x : Nat × Blk) (hx : x ∈ hs) : x.2.within (fun b => refs vs hs b) = true :=
  Blk.within_of x.2 fun b hb => by
    simp only [refs, Bool.or_eq_true, List.any_eq_true]
    exact .inr ⟨x, hx, by simp [hb]⟩

theorem lookup_mem {α : Type} : ∀ {l : List (Nat × α)} {b : Nat} {k : α}, l.lookup b = some k → (b, k) ∈ l
  | [], _, _, h => by simp at h
  | (c, x) :: l, b, k, h => by
    simp only [List.lookup] at h
    split at h
    · rename_i he
      obtain rfl := eq_of_beq he
      obtain rfl := Option.some.inj h
      exact List.mem_cons_self ..
    · exact List.mem_cons_of_mem _ (lookup_mem h)

theorem Move.within {E : Env} {c : Cls} {o : Oper} {st : St} {vs : List AV} {hs : List (Nat × Blk)} {δ : Delta} (m : Move E c o st vs hs δ) (wf : WF st) :
    ∀ b, ((δ.new.lookup b).isSome || refs vs hs b) = true → δ.U st.U b = true := by
  intro b hb
  simp only [Bool.or_eq_true] at hb
  rcases hb with hb | hb
  · simp [Delta.U, hb]
  · exact Delta.U_old (refs_in (evls_within wf _ _ m.vals) (fun x hx => wf.H _ _ (m.deps x hx)) hb)

theorem Move.wf {E : Env} {c : Cls} {o : Oper} {st : St} {vs : List AV} {hs : List (Nat × Blk)} {δ : Delta} (m : Move E c o st vs hs δ) (wf : WF st) (d : Option Nat) : WF (st.after d δ) := by
  have hw := m.within wf
  refine ⟨fun t v hv => ?_, fun b k hk => ?_, fun b k hk => ?_⟩
  · have old : ∀ v, st.S t = some v → v.within (δ.U st.U) = true := fun v hv => AV.within_mono (fun b => Delta.U_old) v (wf.S t v hv)
    cases d with
    | none => exact old v hv
    | some d =>
      simp only [St.after, putO] at hv
      split at hv
      · obtain rfl := Option.some.inj hv; exact AV.within_mono hw _ m.inV
      · exact old v hv
  · simp only [St.after, Delta.H] at hk
    split at hk
    · rename_i k' hl
      obtain rfl := Option.some.inj hk
      exact Blk.within_mono hw _ (m.inN _ (lookup_mem hl))
    · split at hk
      · rename_i k' hl
        exact Blk.within_mono hw _ (m.inW _ (lookup_mem hl) k hk)
      · exact Blk.within_mono (fun b => Delta.U_old) _ (wf.H _ _ hk)
  · simp only [St.after, Delta.H] at hk
    simp only [St.after, Delta.U, Bool.or_eq_true]
    split at hk
    · rename_i k' hl; simp [hl]
    · rename_i hnone
      right
      split at hk
      · rename_i k' hl
        have hw := m.wr _ (lookup_mem hl)
        simp only [hnone, Option.isSome_none, Bool.false_or] at hw
        exact refs_in (evls_within wf _ _ m.vals) (fun x hx => wf.H _ _ (m.deps x hx)) hw
      · exact wf.U _ _ hk

theorem Step.wf {E : Env} {ops : Array Oper} {c : Cls} {o : Oper} {st st' : St} (h : Step E ops c o st st') (wf : WF st) : WF st' := by
  cases h with
  | exec _ _ vs hs δ m => exact m.wf wf _
  | skip _ _ =>
    refine ⟨fun t v hv => ?_, wf.H, wf.U⟩
    cases hd : o.dst with
    | none => rw [hd] at hv; exact wf.S t v hv
    | some d =>
      rw [hd] at hv
      simp only [St.after, putO] at hv
      split at hv
      · obtain rfl := Option.some.inj hv; rfl
      · exact wf.S t v hv

/-! ### Two moves that do not look at one another -/
theorem putO_other {S : Nat → Option AV} {d : Option Nat} {v : AV} {t : Nat} (h : d ≠ some t) : putO S d v t = S t := by
  cases d with
  | none => rfl
  | some e => simp only [putO]; rw [if_neg]; intro he; exact h (by rw [he])

theorem evls_put {S : Nat → Option AV} {d : Option Nat} {v : AV} : ∀ {xs : List Operand}, (∀ t, d = some t → Operand.tmp t ∉ xs) → evls (putO S d v) xs = evls S xs
  | [], _ => rfl
  | x :: xs, h => by
    have h1 : evl (putO S d v) x = evl S x := by
      cases x with
      | tmp t => exact putO_other fun e => h t e (List.mem_cons_self ..)
      | const c => rfl
      | func f => rfl
      | global g => rfl
    simp only [evls, h1, evls_put (xs := xs) fun t e hm => h t e (List.mem_cons_of_mem _ hm)]

theorem guardV_put {ops : Array Oper} {S : Nat → Option AV} {d : Option Nat} {v : AV} {o : Oper} (h : ∀ t, d = some t → t ∉ o.looksAt ops) : guardV ops (putO S d v) o = guardV ops S o := by
  unfold guardV
  cases hg : o.guard with
  | none => rfl
  | some g =>
    obtain ⟨j, want⟩ := g
    cases hj : (ops[j]?).bind (·.dst) with
    | none => simp only [hj, Option.bind_none]
    | some t =>
      have : putO S d v t = S t := putO_other fun e => h t e (by
        simp only [Oper.looksAt, hg, hj, Option.toList_some]
        exact List.mem_append_right _ (List.mem_singleton.2 rfl))
      simp only [hj, Option.bind_some, this]

theorem not_operand {ops : Array Oper} {o : Oper} {t : Nat} (h : t ∉ o.looksAt ops) : Operand.tmp t ∉ o.op.operands.toList := fun hm =>
  h (List.mem_append_left _ (List.mem_filterMap.2 ⟨.tmp t, hm, rfl⟩))

theorem putO_comm {S : Nat → Option AV} {d e : Option Nat} {v u : AV} (h : ∀ t, d = some t → e ≠ some t) : putO (putO S d v) e u = putO (putO S e u) d v := by
  cases d with
  | none => rfl
  | some d =>
    cases e with
    | none => rfl
    | some e =>
      have hne : e ≠ d := fun he => h d rfl (by rw [he])
      funext t
      simp only [putO]
      by_cases h1 : t = e
      · have h2 : ¬ t = d := fun h => hne (h1.symm.trans h)
        rw [if_pos h1, if_neg h2, if_pos h1]
      · rw [if_neg h1, if_neg h1]

/-- May these two be done in either order? -/
def Cls.free : Cls → Cls → Bool
  | .pure, _ | _, .pure => true
  | .quiet, .quiet | .quiet, .reads _ | .reads _, .quiet | .reads _, .reads _ => true
  | .reads a, .writes b | .writes a, .reads b | .writes a, .writes b => a.all fun x => !b.contains x
  | _, _ => false

theorem foot_reads {bs : List Nat} {hs : List (Nat × Blk)} {δ : Delta} (h : footB (.reads bs) hs δ = true) : δ.wr = [] ∧ δ.new = [] ∧ ∀ x ∈ hs, bs.contains x.1 = true := by
  simp only [footB, Bool.and_eq_true, List.isEmpty_iff, List.all_eq_true] at h
  exact h
theorem foot_writes {bs : List Nat} {hs : List (Nat × Blk)} {δ : Delta} (h : footB (.writes bs) hs δ = true) : δ.new = [] ∧ (∀ x ∈ hs, bs.contains x.1 = true) ∧ ∀ x ∈ δ.wr, bs.contains x.1 = true := by
  simp only [footB, Bool.and_eq_true, List.isEmpty_iff, List.all_eq_true] at h
  exact h
/-- What a move looks at or writes, where it keeps to blocks. -/
theorem foot_deps {c : Cls} {hs : List (Nat × Blk)} {δ : Delta} {a : List Nat} (h : footB c hs δ = true) (hc : c = .reads a ∨ c = .writes a) : ∀ x ∈ hs, a.contains x.1 = true := by
  rcases hc with rfl | rfl
  · exact (foot_reads h).2.2
  · exact (foot_writes h).2.1
theorem apart_lists {a b : List Nat} (h : (a.all fun x => !b.contains x) = true) {x : Nat} (ha : a.contains x = true) : b.contains x = false := by
  have := List.all_eq_true.1 h x (by simpa using ha)
  simpa using this
theorem lookup_apart {δ : Delta} {b : List Nat} (h : ∀ x ∈ δ.wr, b.contains x.1 = true) {x : Nat} (hx : b.contains x = false) : δ.wr.lookup x = none := by
  cases hl : δ.wr.lookup x with
  | none => rfl
  | some k =>
    exfalso
    have : ∀ (l : List (Nat × Option Blk)) {k}, l.lookup x = some k → (x, k) ∈ l := by
      intro l
      induction l with
      | nil => intro k h; cases h
      | cons y ys ih =>
        intro k h
        simp only [List.lookup] at h
        split at h
        · rename_i he
          have := eq_of_beq he
          simp only [Option.some.injEq] at h
          subst this; subst h
          exact List.mem_cons_self ..
        · exact List.mem_cons_of_mem _ (ih h)
    have := h _ (this _ hl)
    simp only at this
    rw [hx] at this; cases this

theorem Delta.H_nil {δ : Delta} {H : Nat → Option Blk} (h1 : δ.new = []) (h2 : δ.wr = []) : δ.H H = H := by
  funext b; simp [Delta.H, h1, h2]
theorem Delta.U_nil {δ : Delta} {U : Nat → Bool} (h1 : δ.new = []) : δ.U U = U := by
  funext b; simp [Delta.U, h1]

theorem lookup_fresh {δ : Delta} {U : Nat → Bool} (h : ∀ x ∈ δ.new, U x.1 = false) {b : Nat} (hb : U b = true) : δ.new.lookup b = none := by
  cases hl : δ.new.lookup b with
  | none => rfl
  | some k => have := h _ (lookup_mem hl); rw [hb] at this; cases this

/-- A move behind one that it does not look at is the same move ahead of it. -/
theorem Move.ahead {E : Env} {ops : Array Oper} {ck ci : Cls} {k i : Oper} {st : St} {vk vi : List AV} {hk hi : List (Nat × Blk)} {δk δi : Delta} (wf : WF st)
    (mk : Move E ck k st vk hk δk) (mi : Move E ci i (st.after k.dst δk) vi hi δi) (ha : k.apart ops i = true) (hf : ck.free ci = true) :
    Move E ci i st vi hi δi ∧ Move E ck k (st.after i.dst δi) vk hk δk ∧ (st.after k.dst δk).after i.dst δi = (st.after i.dst δi).after k.dst δk := by
  obtain ⟨ha1, ha2, ha3⟩ := Oper.apart_spec ha
  have hvi : evls st.S i.op.operands.toList = some vi := by
    have := mi.vals
    simp only [St.after] at this
    rwa [evls_put fun t e => not_operand (ha1 t e)] at this
  have hvk : evls (st.after i.dst δi).S k.op.operands.toList = some vk := by
    show evls (putO st.S i.dst δi.v) _ = _
    rw [evls_put fun t e => not_operand (ha3 t e)]; exact mk.vals
  have freshI : ∀ x ∈ δi.new, st.U x.1 = false := fun x hx => by
    have := mi.fresh x hx
    simp only [St.after, Delta.U, Bool.or_eq_false_iff] at this
    exact this.2
  have apartN : ∀ x ∈ δi.new, δk.new.lookup x.1 = none := fun x hx => by
    have := mi.fresh x hx
    simp only [St.after, Delta.U, Bool.or_eq_false_iff] at this
    simpa using this.1
  have freshK : ∀ x ∈ δk.new, (st.after i.dst δi).U x.1 = false := fun x hx => by
    simp only [St.after, Delta.U, Bool.or_eq_false_iff]
    refine ⟨?_, mk.fresh x hx⟩
    cases hl : δi.new.lookup x.1 with
    | none => rfl
    | some b =>
      have h1 := apartN _ (lookup_mem hl)
      exfalso
      have : ∀ (l : List (Nat × Blk)), x ∈ l → l.lookup x.1 ≠ none := by
        intro l
        induction l with
        | nil => intro h; cases h
        | cons y ys ih =>
          intro h
          simp only [List.lookup]
          split
          · simp
          · rename_i hne
            cases h with
            | head => simp at hne
            | tail _ hm => exact ih hm
      exact this _ hx h1
  -- what i looks at was there before k
  have depsI : ∀ x ∈ hi, st.H x.1 = some x.2 := by
    by_cases hp : hi = []
    · rw [hp]; intro x hx; cases hx
    · have hci : ci ≠ .pure := fun e => hp (mi.pure e).1
      by_cases hw : ∃ b, ck = .writes b
      · obtain ⟨b, hb⟩ := hw
        have key : ∀ a : List Nat, (a.all fun x => !b.contains x) = true ∨ (b.all fun x => !a.contains x) = true → (∀ x ∈ hi, a.contains x.1 = true) → ∀ x ∈ hi, st.H x.1 = some x.2 := fun a hab hh x hx => by
          obtain ⟨n1, _, n3⟩ := foot_writes (hb ▸ mk.foot)
          have hbx : b.contains x.1 = false := by
            rcases hab with hab | hab
            · exact apart_lists hab (hh x hx)
            · cases hc : b.contains x.1 with
              | false => rfl
              | true => have := apart_lists hab hc; rw [hh x hx] at this; cases this
          have := mi.deps x hx
          simpa only [St.after, Delta.H, n1, lookup_apart n3 hbx, List.lookup] using this
        cases hci' : ci with
        | pure => exact absurd hci' hci
        | quiet => rw [hb, hci'] at hf; cases hf
        | writer => rw [hb, hci'] at hf; cases hf
        | reads a => rw [hb, hci'] at hf; exact key a (.inr hf) (foot_deps mi.foot (.inl hci'))
        | writes a => rw [hb, hci'] at hf; exact key a (.inr hf) (foot_deps mi.foot (.inr hci'))
      have hwk : δk.wr = [] := by
        cases hck : ck with
        | pure => exact (mk.pure hck).2.2
        | quiet => exact mk.quiet hck
        | writer => rw [hck] at hf; cases hci' : ci <;> simp_all [Cls.free]
        | reads a => exact (foot_reads (hck ▸ mk.foot)).1
        | writes b => exact absurd ⟨b, hck⟩ hw
      have hold : ∀ b, st.U b = true → (st.after k.dst δk).H b = st.H b := fun b hb => by
        simp only [St.after, Delta.H, lookup_fresh mk.fresh hb, hwk, List.lookup]
      exact fun x hx => (reach_in (evls_within wf _ _ hvi) hold (fun b k h => wf.H b k h) hi [] (fun _ h => by cases h) mi.reach mi.deps x hx).2.1
  have depsK : ∀ x ∈ hk, (st.after i.dst δi).H x.1 = some x.2 := by
    by_cases hp : hk = []
    · rw [hp]; intro x hx; cases hx
    · have hck : ck ≠ .pure := fun e => hp (mk.pure e).1
      by_cases hw : ∃ b, ci = .writes b
      · obtain ⟨b, hb⟩ := hw
        have key : ∀ a : List Nat, (a.all fun x => !b.contains x) = true → (∀ x ∈ hk, a.contains x.1 = true) → ∀ x ∈ hk, (st.after i.dst δi).H x.1 = some x.2 := fun a hab hh x hx => by
          obtain ⟨n1, _, n3⟩ := foot_writes (hb ▸ mi.foot)
          have := mk.deps x hx
          simpa only [St.after, Delta.H, n1, lookup_apart n3 (apart_lists hab (hh x hx)), List.lookup] using this
        cases hck' : ck with
        | pure => exact absurd hck' hck
        | quiet => rw [hb, hck'] at hf; cases hf
        | writer => rw [hb, hck'] at hf; cases hf
        | reads a => rw [hb, hck'] at hf; exact key a hf (foot_deps mk.foot (.inl hck'))
        | writes a => rw [hb, hck'] at hf; exact key a hf (foot_deps mk.foot (.inr hck'))
      have hwi : δi.wr = [] := by
        cases hci : ci with
        | pure => exact (mi.pure hci).2.2
        | quiet => exact mi.quiet hci
        | writer => rw [hci] at hf; cases hck' : ck <;> simp_all [Cls.free]
        | reads a => exact (foot_reads (hci ▸ mi.foot)).1
        | writes b => exact absurd ⟨b, hci⟩ hw
      intro x hx
      have hu := wf.U _ _ (mk.deps x hx)
      simp only [St.after, Delta.H, lookup_fresh freshI hu, hwi, List.lookup]
      exact mk.deps x hx
  refine ⟨{ mi with vals := hvi, deps := depsI, fresh := freshI }, { mk with vals := hvk, deps := depsK, fresh := freshK }, ?_⟩
  have hS : putO (putO st.S k.dst δk.v) i.dst δi.v = putO (putO st.S i.dst δi.v) k.dst δk.v := putO_comm fun t h => ha2 t h
  have hU : δi.U (δk.U st.U) = δk.U (δi.U st.U) := by
    funext b
    simp only [Delta.U]
    cases (δi.new.lookup b).isSome <;> cases (δk.new.lookup b).isSome <;> rfl
  have hH : δi.H (δk.H st.H) = δk.H (δi.H st.H) := by
    have both : δi.wr = [] → δk.wr = [] → δi.H (δk.H st.H) = δk.H (δi.H st.H) := fun h1 h2 => by
      funext b
      simp only [Delta.H, h1, h2, List.lookup]
      cases hl : δi.new.lookup b with
      | none => cases δk.new.lookup b <;> rfl
      | some x => rw [apartN _ (lookup_mem hl)]
    cases hck : ck with
    | pure => obtain ⟨_, h1, h2⟩ := mk.pure hck; rw [Delta.H_nil h1 h2, Delta.H_nil h1 h2]
    | quiet =>
      cases hci : ci with
      | pure => obtain ⟨_, h1, h2⟩ := mi.pure hci; rw [Delta.H_nil h1 h2, Delta.H_nil h1 h2]
      | quiet => exact both (mi.quiet hci) (mk.quiet hck)
      | writer => rw [hck, hci] at hf; cases hf
      | reads a => obtain ⟨h2, h1, _⟩ := foot_reads (hci ▸ mi.foot); rw [Delta.H_nil h1 h2, Delta.H_nil h1 h2]
      | writes a => rw [hck, hci] at hf; cases hf
    | writer =>
      cases hci : ci with
      | pure => obtain ⟨_, h1, h2⟩ := mi.pure hci; rw [Delta.H_nil h1 h2, Delta.H_nil h1 h2]
      | quiet => rw [hck, hci] at hf; cases hf
      | writer => rw [hck, hci] at hf; cases hf
      | reads a => rw [hck, hci] at hf; cases hf
      | writes a => rw [hck, hci] at hf; cases hf
    | reads a => obtain ⟨h2, h1, _⟩ := foot_reads (hck ▸ mk.foot); rw [Delta.H_nil h1 h2, Delta.H_nil h1 h2]
    | writes b =>
      cases hci : ci with
      | pure => obtain ⟨_, h1, h2⟩ := mi.pure hci; rw [Delta.H_nil h1 h2, Delta.H_nil h1 h2]
      | quiet => rw [hck, hci] at hf; cases hf
      | writer => rw [hck, hci] at hf; cases hf
      | reads a => obtain ⟨h2, h1, _⟩ := foot_reads (hci ▸ mi.foot); rw [Delta.H_nil h1 h2, Delta.H_nil h1 h2]
      | writes a =>
        rw [hck, hci] at hf
        obtain ⟨n1, _, n3⟩ := foot_writes (hck ▸ mk.foot)
        obtain ⟨p1, _, p3⟩ := foot_writes (hci ▸ mi.foot)
        funext x
        simp only [Delta.H, n1, p1, List.lookup]
        cases hb : b.contains x with
        | false => rw [lookup_apart n3 hb]
        | true => rw [lookup_apart p3 (apart_lists hf hb)]
  simp only [St.after, hS, hU, hH]

theorem St.after_skip' (st : St) (d : Option Nat) (v : AV) : st.after d { v := v } = ⟨putO st.S d v, st.H, st.U⟩ := by
  simp only [St.after]
  rw [Delta.H_nil rfl rfl, Delta.U_nil rfl]
theorem St.after_skip (st : St) (d : Option Nat) : st.after d { v := .tup [] } = ⟨putO st.S d (.tup []), st.H, st.U⟩ := by
  simp only [St.after]
  rw [Delta.H_nil rfl rfl, Delta.U_nil rfl]

theorem Step.swap {E : Env} {ops : Array Oper} {ck ci : Cls} {k i : Oper} {st s1 s2 : St} (wf : WF st) (h1 : Step E ops ck k st s1) (h2 : Step E ops ci i s1 s2)
    (ha : k.apart ops i = true) (hf : ck.free ci = true) : ∃ s, Step E ops ci i st s ∧ Step E ops ck k s s2 := by
  obtain ⟨ha1, ha2, ha3⟩ := Oper.apart_spec ha
  cases h1 with
  | exec hgk hdk vk hk δk mk =>
    have e1 : guardV ops (st.after k.dst δk).S i = guardV ops st.S i := guardV_put ha1
    cases h2 with
    | exec hgi hdi vi hi δi mi =>
      rw [e1] at hgi
      obtain ⟨m1, m2, e⟩ := mk.ahead wf mi ha hf
      rw [e]
      exact ⟨_, .exec hgi hdi vi hi δi m1, .exec ((guardV_put ha3).trans hgk) hdk vk hk δk m2⟩
    | skip hgi hdi =>
      rw [e1] at hgi
      refine ⟨_, .skip hgi hdi, ?_⟩
      have hv : evls (putO st.S i.dst (AV.tup [])) k.op.operands.toList = some vk := by
        rw [evls_put fun t e => not_operand (ha3 t e)]; exact mk.vals
      have m2 : Move E ck k (st.after i.dst { v := .tup [] }) vk hk δk := by
        rw [St.after_skip]
        exact { mk with vals := hv }
      have e : (st.after k.dst δk).after i.dst { v := .tup [] } = (st.after i.dst { v := .tup [] }).after k.dst δk := by
        rw [St.after_skip, St.after_skip]
        simp only [St.after]
        rw [putO_comm fun t h => ha2 t h]
      rw [e]
      exact .exec ((guardV_put ha3).trans hgk) hdk vk hk δk m2
  | skip hgk hdk =>
    rw [St.after_skip] at h2
    have e1 : guardV ops (putO st.S k.dst (.tup [])) i = guardV ops st.S i := guardV_put ha1
    cases h2 with
    | exec hgi hdi vi hi δi mi =>
      rw [e1] at hgi
      have hv : evls st.S i.op.operands.toList = some vi := by
        have := mi.vals
        simp only at this
        rwa [evls_put fun t e => not_operand (ha1 t e)] at this
      have m1 : Move E ci i st vi hi δi := { mi with vals := hv }
      refine ⟨_, .exec hgi hdi vi hi δi m1, ?_⟩
      have e : St.after ⟨putO st.S k.dst (.tup []), st.H, st.U⟩ i.dst δi = (st.after i.dst δi).after k.dst { v := .tup [] } := by
        rw [St.after_skip]
        simp only [St.after]
        rw [putO_comm fun t h => ha2 t h]
      rw [e]
      exact .skip ((guardV_put ha3).trans hgk) hdk
    | skip hgi hdi =>
      rw [e1] at hgi
      refine ⟨_, .skip hgi hdi, ?_⟩
      have e : St.after ⟨putO st.S k.dst (.tup []), st.H, st.U⟩ i.dst { v := .tup [] } = (st.after i.dst { v := .tup [] }).after k.dst { v := .tup [] } := by
        rw [St.after_skip, St.after_skip, St.after_skip]
        simp only
        rw [putO_comm fun t h => ha2 t h]
      rw [e]
      exact .skip ((guardV_put ha3).trans hgk) hdk
end Go.Am
