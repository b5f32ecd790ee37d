/- An abstract machine over the kit's calls, part 8: stores, addresses of fields and elements, slices, structs and arrays put together. No conditions. -/
import Derived.Test.YtjhphpoihadmkaaAm7
namespace Go.Am

/-- Cells from k on are others. -/
def setRange (cs : List AV) (k : Nat) (xs : List AV) : List AV := cs.take k ++ xs ++ cs.drop (k + xs.length)

theorem setRange_length {cs xs : List AV} {k : Nat} (h : k + xs.length ≤ cs.length) : (setRange cs k xs).length = cs.length := by
  simp only [setRange, List.length_append, List.length_take, List.length_drop]; omega

/-- One row has been written. -/
structure RowSet (w w' : World) (r : Nat) (c : Array Value) (e : TypeId) (f : Nat × Nat) : Prop where
  os : w'.os = w.os
  tape : w'.tape = w.tape
  output : w'.output = w.output
  size : w'.heap.size = w.heap.size
  row : w'.heap[r]? = some (Obj.cells c e f)
  other : ∀ k, k ≠ r → w'.heap[k]? = w.heap[k]?

/-- Values put over cells. -/
def putCells (c : Array Value) (o : Nat) : List Value → Array Value
  | [] => c
  | v :: vs => putCells (c.setIfInBounds o v) (o + 1) vs

theorem putCells_size (c : Array Value) (o : Nat) (vs : List Value) : (putCells c o vs).size = c.size := by
  induction vs generalizing c o with
  | nil => rfl
  | cons v vs ih => simp [putCells, ih]
theorem putCells_below (c : Array Value) (o : Nat) (vs : List Value) (i : Nat) (h : i < o) : (putCells c o vs)[i]? = c[i]? := by
  induction vs generalizing c o with
  | nil => rfl
  | cons v vs ih => rw [putCells, ih _ _ (by omega), Array.getElem?_setIfInBounds_ne (by omega)]
theorem putCells_above (c : Array Value) (o : Nat) (vs : List Value) (i : Nat) (h : o + vs.length ≤ i) : (putCells c o vs)[i]? = c[i]? := by
  induction vs generalizing c o with
  | nil => rfl
  | cons v vs ih => rw [putCells, ih _ _ (by simp at h; omega), Array.getElem?_setIfInBounds_ne (by simp at h; omega)]
theorem putCells_at (c : Array Value) (o : Nat) (vs : List Value) (hc : o + vs.length ≤ c.size) (i : Nat) (h : i < vs.length) : (putCells c o vs)[o + i]? = vs[i]? := by
  induction vs generalizing c o i with
  | nil => simp at h
  | cons v vs ih =>
    cases i with
    | zero =>
      simp only [List.length_cons] at hc
      rw [putCells, Nat.add_zero, putCells_below _ _ _ _ (by omega), Array.getElem?_setIfInBounds]
      simp only [Nat.add_zero, if_true, List.getElem?_cons_zero]
      rw [if_pos (by omega)]
    | succ i =>
      rw [putCells, show o + (i + 1) = o + 1 + i by omega, ih _ _ (by simp at hc ⊢; omega) i (by simpa using h)]; simp

/-- No value of several cells. -/
def single (v : Value) : Prop := (∀ c, v ≠ .agg c) ∧ ∀ c, v ≠ .tuple c

theorem run_storeCells {P : Program} {r : Nat} {e : TypeId} {f : Nat × Nat} : ∀ (vs : List Value) (o i : Nat) {w : World} {c : Array Value}, w.heap[r]? = some (Obj.cells c e f) → o + i + vs.length ≤ c.size → (∀ o, o < c.size → ¬ (f.1 ≤ o ∧ o < f.2)) → (∀ v ∈ vs, single v) →
    ∃ w', (storeCells ⟨r, o, none⟩ vs i).run P w = .ok () w' ∧ RowSet w w' r (putCells c (o + i) vs) e f
  | [], o, i, w, c, hc, _, _, _ => ⟨w, rfl, rfl, rfl, rfl, rfl, hc, fun _ _ => rfl⟩
  | v :: vs, o, i, w, c, hc, hle, hf, ho => by
    have hv := ho v (List.mem_cons_self ..)
    simp only [List.length_cons] at hle
    have hcell : w.cell? ⟨r, o + i, none⟩ = some c[o + i] := by
      rw [cell_of_heap hc, Array.getElem?_eq_getElem (by omega)]
    have hfr : w.frozen? ⟨r, o + i, none⟩ = false := by
      simp only [World.frozen?, hc]
      have := hf (o + i) (by omega)
      simp only [Bool.and_eq_false_iff, decide_eq_false_iff_not]
      by_cases h1 : f.1 ≤ o + i
      · exact .inr fun h2 => this ⟨h1, h2⟩
      · exact .inl h1
    have hrow : (w.setCell ⟨r, o + i, none⟩ v).heap[r]? = some (Obj.cells (c.setIfInBounds (o + i) v) e f) := by
      simp only [World.setCell, Array.getElem?_modify, if_true, hc, Option.map_some]
      rfl
    obtain ⟨w', h1, h2⟩ := run_storeCells (P := P) vs o (i + 1) (w := w.setCell ⟨r, o + i, none⟩ v) (c := c.setIfInBounds (o + i) v) hrow (by simp; omega) (by simpa using hf) (fun u hu => ho u (List.mem_cons_of_mem _ hu))
    refine ⟨w', ?_, ?_⟩
    · simp only [storeCells, run_bind', store, add_none]
      have : (Sem.store Mode.plain ⟨r, o + i, none⟩ v (Sem.pure ())).run P w = .ok () (w.setCell ⟨r, o + i, none⟩ v) := by
        cases v <;> first | exact absurd rfl (hv.1 _) | exact absurd rfl (hv.2 _) | simp [Sem.run, hcell, hfr]
      rw [this]
      exact h1
    · have hother : ∀ k, k ≠ r → (w.setCell ⟨r, o + i, none⟩ v).heap[k]? = w.heap[k]? := fun k hk => by
        simp only [World.setCell, Array.getElem?_modify]
        rw [if_neg (by simpa using Ne.symm hk)]
      exact ⟨h2.os, h2.tape, h2.output, by rw [h2.size]; simp [World.setCell], h2.row, fun k hk => (h2.other k hk).trans (hother k hk)⟩

theorem SR.write {E : Env} {ι : Nat → Option (Nat × Nat)} {imm : Nat → Prop} {st : St} {a : Act} {w w' : World} (h : SR E ι imm st a w) {b : Nat} {cs cs' : List AV} (hb : st.H b = some (.cells cs)) {r z : Nat} (hi : ι b = some (r, z))
    {c c' : Array Value} {e : TypeId} {f : Nat × Nat} (hc : w.heap[r]? = some (Obj.cells c e f)) (hw : RowSet w w' r c' e f) (hsz : c'.size = c.size) (hle : z + cs'.length ≤ c.size) (hcs : CellsH ι imm w c' cs' z) (v : AV) :
    SR E ι imm ⟨st.S, (Delta.mk v [] [(b, some (.cells cs'))]).H st.H, (Delta.mk v [] [(b, some (.cells cs'))]).U st.U⟩ a w' := by
  obtain ⟨c0, e0, f0, h1, h2, h3, h4, h5, h6⟩ := h.heap.cells hb hi
  rw [hc] at h1
  simp only [Option.some.injEq, Obj.cells.injEq] at h1
  obtain ⟨rfl, rfl, rfl⟩ := h1
  have g : Grows ι ι imm imm w w' := ⟨fun _ _ h => h, ⟨fun _ h => h, fun k hk => hw.other k (fun e => h5 (e ▸ hk))⟩, fun r' c1 e1 f1 hr' => by
    by_cases hrr : r' = r
    · subst hrr
      rw [hc] at hr'
      simp only [Option.some.injEq, Obj.cells.injEq] at hr'
      obtain ⟨rfl, rfl, rfl⟩ := hr'
      exact ⟨c', f, hw.row, hsz⟩
    · exact ⟨c1, f1, (hw.other r' hrr).trans hr', rfl⟩⟩
  have hH : ∀ b' k, (Delta.mk v [] [(b, some (.cells cs'))]).H st.H b' = some k → (b' = b ∧ k = .cells cs') ∨ (b' ≠ b ∧ st.H b' = some k) := fun b' k hk => by
    simp only [Delta.H, List.lookup] at hk
    by_cases hbb : b' = b
    · subst hbb; simp only [beq_self_eq_true] at hk; exact .inl ⟨rfl, (Option.some.inj hk).symm⟩
    · have : (b' == b) = false := by simpa using hbb
      simp only [this] at hk; exact .inr ⟨hbb, hk⟩
  have hold : ∀ b' k, (Delta.mk v [] [(b, some (.cells cs'))]).H st.H b' = some k → ∃ k', st.H b' = some k' := fun b' k hk => by
    rcases hH b' k hk with ⟨rfl, _⟩ | ⟨_, h⟩
    · exact ⟨_, hb⟩
    · exact ⟨_, h⟩
  refine h.turn g hw.os hw.tape hw.output (by rw [hw.size]; exact Nat.le_refl _) (fun k _ hM => hw.other k (fun e => hM (e ▸ h6))) ⟨fun b' k hk => ?_, fun b1 b2 k1 k2 r1 z1 z2 hk1 hk2 hi1 hi2 => ?_⟩ (fun b' x hx => ?_) (fun _ hk => .inl hk) (fun k hk => by rw [hw.size]; exact h.immlt k hk)
  · rcases hH b' k hk with ⟨rfl, rfl⟩ | ⟨hne, hk⟩
    · exact ⟨r, z, hi, h5, h6, c', e, f, hw.row, by omega, h3, hcs.grows g⟩
    · obtain ⟨r', z', q1, q2, q3, q4⟩ := h.heap.blk b' k hk
      have hrr : r' ≠ r := fun e => hne (h.heap.inj b' b k _ r z' z hk hb (e ▸ q1) hi)
      exact ⟨r', z', q1, q2, q3, q4.grows g (hw.other r' hrr)⟩
  · obtain ⟨k1', q1⟩ := hold b1 k1 hk1
    obtain ⟨k2', q2⟩ := hold b2 k2 hk2
    exact h.heap.inj b1 b2 k1' k2' r1 z1 z2 q1 q2 hi1 hi2
  · simp only [Delta.U, List.lookup, Option.isSome_none, Bool.false_or]; exact h.used b' x hx

theorem VHs.singles {ι : Nat → Option (Nat × Nat)} {imm : Nat → Prop} {w : World} : ∀ (cs : List AV) (us : List Value), VHs ι imm w cs us → (∀ c ∈ cs, ∀ ds, c ≠ .agg ds ∧ c ≠ .tup ds ∧ c ≠ .undef) → ∀ u ∈ us, single u := by
  intro cs
  induction cs with
  | nil => intro us h _ u hu; simp only [VHs] at h; subst h; cases hu
  | cons c cs ih =>
    intro us h hf u hu
    obtain ⟨v, us', rfl, q1, q2⟩ := h
    cases hu with
    | tail _ hm => exact ih us' q2 (fun c hc => hf c (List.mem_cons_of_mem _ hc)) u hm
    | head =>
      have hc := hf c (List.mem_cons_self ..)
      cases c with
      | undef => exact absurd rfl (hc []).2.2
      | agg ds => exact absurd rfl (hc ds).1
      | tup ds => exact absurd rfl (hc ds).2.1
      | pv p =>
        cases p with
        | lit y => simp only [VH, PH] at q1; obtain ⟨rfl, hfl⟩ := q1; constructor <;> intro d e <;> subst e <;> simp [flatB] at hfl
        | sl f n ps => simp only [VH, PH] at q1; obtain ⟨A, cap, rfl, _⟩ := q1; constructor <;> intro d e <;> cases e
      | ptr b o => simp only [VH] at q1; obtain ⟨r, z, _, rfl⟩ := q1; constructor <;> intro d e <;> cases e
      | sl b o n s t => simp only [VH] at q1; obtain ⟨r, z, cap, _, rfl, _⟩ := q1; constructor <;> intro d e <;> cases e
      | slc b o n s c => simp only [VH] at q1; obtain ⟨r, z, _, rfl, _⟩ := q1; constructor <;> intro d e <;> cases e
      | tsl n ps => simp only [VH] at q1; obtain ⟨A, rfl, _⟩ := q1; constructor <;> intro d e <;> cases e
      | rp ps => simp only [VH] at q1; obtain ⟨A, rfl, _⟩ := q1; constructor <;> intro d e <;> cases e
      | mp b => simp only [VH] at q1; obtain ⟨r, z, _, rfl⟩ := q1; constructor <;> intro d e <;> cases e
      | fn f xs ys => simp only [VH] at q1; obtain ⟨vs, us, rfl, _⟩ := q1; constructor <;> intro d e <;> cases e

theorem VHs.one_all {ι : Nat → Option (Nat × Nat)} {imm : Nat → Prop} {w : World} {x : AV} {cs : List AV} {v : Value} (h : cellsOf x = some cs) (hv : VH ι imm w x v) (hflat : ∀ c ∈ cs, ∀ ds, c ≠ .agg ds ∧ c ≠ .tup ds ∧ c ≠ .undef) : ∀ u ∈ v.cells.toList, single u := by
  have h1 := cellsOf_holds h hv (fun c e => by subst e; simp only [VH, PH] at hv; simp [flatB] at hv)
  exact VHs.singles cs _ h1 hflat

/-- Cells alone: none of them an aggregate, a tuple, or unknown. -/
def flatCell : AV → Bool
  | .agg _ | .tup _ | .undef => false
  | _ => true

theorem flatCell_spec {cs : List AV} (h : cs.all flatCell = true) : ∀ c ∈ cs, ∀ ds, c ≠ .agg ds ∧ c ≠ .tup ds ∧ c ≠ .undef := by
  intro c hc ds
  have := List.all_eq_true.1 h c hc
  refine ⟨fun e => ?_, fun e => ?_, fun e => ?_⟩ <;> (subst e; simp [flatCell] at this)

theorem CellsH.put {ι : Nat → Option (Nat × Nat)} {imm : Nat → Prop} {w : World} {c c' : Array Value} {cs xs : List AV} {us : List Value} {z k : Nat} (hcs : CellsH ι imm w c cs z) (hx : VHs ι imm w xs us) (hk : k + xs.length ≤ cs.length)
    (hput : c' = putCells c (z + k) us) (hsz : z + cs.length ≤ c.size) : CellsH ι imm w c' (setRange cs k xs) z := by
  obtain ⟨vs, h1, h2⟩ := hcs.vals
  have hl1 := h1.length
  have hl2 := hx.length
  have app : ∀ {xs ys : List AV} {us vs : List Value}, VHs ι imm w xs us → VHs ι imm w ys vs → VHs ι imm w (xs ++ ys) (us ++ vs) := by
    intro xs
    induction xs with
    | nil => intro ys us vs h h'; simp only [VHs] at h; subst h; exact h'
    | cons x xs ih => intro ys us vs h h'; obtain ⟨v, us', rfl, q1, q2⟩ := h; exact ⟨v, us' ++ vs, rfl, q1, ih q2 h'⟩
  have tk : ∀ (k : Nat) {xs : List AV} {us : List Value}, VHs ι imm w xs us → VHs ι imm w (xs.take k) (us.take k) := by
    intro k
    induction k with
    | zero => intro xs us _; simp [VHs]
    | succ k ih => intro xs us h; cases xs with
      | nil => simp only [VHs] at h; subst h; simp [VHs]
      | cons x xs => obtain ⟨v, us', rfl, q1, q2⟩ := h; exact ⟨v, us'.take k, rfl, q1, ih q2⟩
  have dr : ∀ (k : Nat) {xs : List AV} {us : List Value}, VHs ι imm w xs us → VHs ι imm w (xs.drop k) (us.drop k) := by
    intro k
    induction k with
    | zero => intro xs us h; exact h
    | succ k ih => intro xs us h; cases xs with
      | nil => simp only [VHs] at h; subst h; simp [VHs]
      | cons x xs => obtain ⟨v, us', rfl, q1, q2⟩ := h; exact ih q2
  refine CellsH.of_VHs (vs := vs.take k ++ us ++ vs.drop (k + us.length)) ?_ fun i hi => ?_
  · have := app (app (tk k h1) hx) (dr (k + us.length) h1)
    rw [hl2] at this
    rw [hl2]; exact this
  · subst hput
    simp only [List.length_append, List.length_take, List.length_drop] at hi
    rcases Nat.lt_or_ge i k with hik | hik
    · rw [putCells_below _ _ _ _ (by omega), h2 i (by omega), List.append_assoc, List.getElem?_append_left (by simp; omega), List.getElem?_take, if_pos hik]
    · rcases Nat.lt_or_ge i (k + us.length) with hiu | hiu
      · have := putCells_at c (z + k) us (by omega) (i - k) (by omega)
        rw [show z + k + (i - k) = z + i by omega] at this
        rw [this, List.append_assoc, List.getElem?_append_right (by simp; omega), List.getElem?_append_left (by simp; omega)]
        congr 1
        simp; omega
      · rw [putCells_above _ _ _ _ (by omega), h2 i (by omega), List.getElem?_append_right (by simp; omega), List.getElem?_drop]
        congr 1
        simp; omega

section ops
variable {E : Env} {T : Tab}

theorem does_store (hT : TabOk E.P T) {o : Oper} {t : TypeId} {x y : Operand} (ho : o.op = .store t x y) (hdst : o.dst = none) {r : TyRow} (hr : T.lookup t = some r) {b k : Nat} {cs xs : List AV} {u : AV} (hx : cellsOf u = some xs) (hl : xs.length = r.size)
    (hk : k + xs.length ≤ cs.length) (hflat : xs.all flatCell = true) : Does E o [.ptr b k, u] [(b, .cells cs)] { v := .undef, wr := [(b, some (.cells (setRange cs k xs)))] } := by
  intro ι imm st a w Q hs hv hh _
  have hv := hs.evls hv
  rw [ho] at hv
  simp only [Op.operands, List.map_cons, List.map_nil] at hv
  obtain ⟨hv1, hv2⟩ := hv.two
  simp only [VH] at hv1
  obtain ⟨q, z, hi, he⟩ := hv1
  have hb := hh _ (List.mem_cons_self ..)
  obtain ⟨c, e, f, h1, h2, h3, h4, _⟩ := hs.heap.cells hb hi
  have hxs := cellsOf_holds hx hv2 (fun c e => by subst e; simp only [VH, PH] at hv2; simp [flatB] at hv2)
  have hlen := hxs.length
  obtain ⟨w', h5, h6⟩ := run_storeCells (P := E.P) (a.eval y).cells.toList (z + k) 0 h1 (by omega) (fun o _ => h3 o) (VHs.one_all hx hv2 (flatCell_spec hflat))
  unfold Oper.wp
  have hrun : (execOp a.eval o).run E.P w = .ok .skip w' := by
    have hsize : (a.eval y).cells.size = r.size := by simp only [Array.length_toList] at hlen; omega
    simp only [execOp, ho, he, Instr.storeAt, Instr.sureAddr, storeVar, run_bind', run_pure', run_sizeOf hT hr, hsize, ne_eq, not_true_eq_false, if_false, h5]
  rw [hrun, Oper.upon_skip]
  have hput := CellsH.put (c' := putCells c (z + k + 0) (a.eval y).cells.toList) h4 hxs hk (by simp) h2
  have := hs.write hb hi h1 h6 (putCells_size _ _ _) (by rw [setRange_length hk]; exact h2) hput .undef
  exact ⟨ι, imm, by simpa [Act.put, St.after, putO, hdst] using this⟩

end ops
end Go.Am
