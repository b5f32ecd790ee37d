/- An abstract machine over the kit's calls, part 7: operations on memory: loads, stores, new blocks, addresses. No conditions. -/
import Derived.Test.YtjhphpoihadmkaaAm6
namespace Go.Am

theorem add_none {r o i : Nat} : (⟨r, o, none⟩ : Addr).add i = ⟨r, o + i, none⟩ := by
  unfold Addr.add; split
  · rename_i h; subst h; rfl
  · rfl

theorem addr_eta {a : Addr} (h : a.spot = none) : a = ⟨a.block, a.off, none⟩ := by cases a; simp only at h; subst h; rfl

/-! ### A world that has turned, a state that has turned -/
theorem SR.turn {E : Env} {ι ι' : Nat → Option (Nat × Nat)} {imm imm' : Nat → Prop} {st : St} {a : Act} {w w' : World} {H : Nat → Option Blk} {U : Nat → Bool} (h : SR E ι imm st a w) (g : Grows ι ι' imm imm' w w')
    (hos : w'.os = w.os) (htape : w'.tape = w.tape) (hout : w'.output = w.output) (hsize : w.heap.size ≤ w'.heap.size) (hblk : ∀ k, k < w.heap.size → ¬ E.M k → w'.heap[k]? = w.heap[k]?)
    (hH : HR ι' imm' w' E.M H) (hU : ∀ b x, ι' b = some x → U b = true) (hi : ∀ k, imm' k → imm k ∨ E.M k) (hl : ∀ k, imm' k → k < w'.heap.size) : SR E ι' imm' ⟨st.S, H, U⟩ a w' where
  defers := h.defers
  size := h.size
  slot t v hv := VH.grows g v _ (h.slot t v hv)
  heap := hH
  used := hU
  grow := h.grow.trans g
  ext := ⟨hos.trans h.ext.os, htape.trans h.ext.tape, hout.trans h.ext.output, Nat.le_trans h.ext.size hsize, fun k hk hR => by
    rw [hblk k (Nat.lt_of_lt_of_le hk h.ext.size) (fun hM => hM.elim hR fun hle => Nat.not_lt.2 hle hk)]
    exact h.ext.block k hk hR⟩
  immM k hk := (hi k hk).elim (fun h1 => h.immM k h1) .inr
  immlt := hl

theorem CellsH.grows {ι ι' : Nat → Option (Nat × Nat)} {i j : Nat → Prop} {a b : World} (h : Grows ι ι' i j a b) {c : Array Value} : ∀ {cs : List AV} {o : Nat}, CellsH ι i a c cs o → CellsH ι' j b c cs o
  | [], _, _ => trivial
  | x :: xs, o, hx => by obtain ⟨⟨v, h1, h2⟩, h3⟩ := hx; exact ⟨⟨v, h1, VH.grows h x v h2⟩, CellsH.grows h h3⟩
theorem EntsH.grows {ι ι' : Nat → Option (Nat × Nat)} {i j : Nat → Prop} {a b : World} (h : Grows ι ι' i j a b) : ∀ {xs : List (AV × AV)} {es : List MapEntry}, EntsH ι i a xs es → EntsH ι' j b xs es
  | [], _, hx => hx
  | (k, x) :: xs, es, hx => by obtain ⟨e, us, h1, h2, h3, h4⟩ := hx; exact ⟨e, us, h1, VH.grows h _ _ h2, VH.grows h _ _ h3, EntsH.grows h h4⟩
theorem BlkH.grows {ι ι' : Nat → Option (Nat × Nat)} {i j : Nat → Prop} {a b : World} (h : Grows ι ι' i j a b) {r z : Nat} (hs : b.heap[r]? = a.heap[r]?) : ∀ {k : Blk}, BlkH ι i a r z k → BlkH ι' j b r z k
  | .cells cs, hk => by obtain ⟨c, e, f, h1, h2, h3, h4⟩ := hk; exact ⟨c, e, f, hs.trans h1, h2, h3, h4.grows h⟩
  | .map es, hk => by obtain ⟨c, q, h1, h2, h3⟩ := hk; exact ⟨c, q, h1, hs.trans h2, h3.grows h⟩

/-! ### New blocks -/
/-- A new block holds this. -/
def NewH (ι : Nat → Option (Nat × Nat)) (imm : Nat → Prop) (w : World) (O : Obj) : Blk → Prop
  | .cells cs => ∃ (c : Array Value) (e : TypeId), O = Obj.cells c e (0, 0) ∧ cs.length ≤ c.size ∧ CellsH ι imm w c cs 0
  | .map es => ∃ q, O = Obj.map #[] q ∧ es = []

def World.push (w : World) (O : Obj) : World := { w with heap := w.heap.push O }

theorem SR.new {E : Env} {ι : Nat → Option (Nat × Nat)} {imm : Nat → Prop} {st : St} {a : Act} {w : World} (h : SR E ι imm st a w) {d : Nat} (hd : st.U d = false) {O : Obj} {k : Blk} (hk : NewH ι imm w O k) (v : AV) :
    ∃ ι', ι' d = some (w.heap.size, 0) ∧ Grows ι ι' imm imm w (World.push w O) ∧ SR E ι' imm ⟨st.S, (Delta.mk v [(d, k)] []).H st.H, (Delta.mk v [(d, k)] []).U st.U⟩ a (World.push w O) := by
  have hιd : ι d = none := by
    cases hi : ι d with
    | none => rfl
    | some x => rw [h.used d x hi] at hd; cases hd
  have hheap : ∀ q, q < w.heap.size → (World.push w O).heap[q]? = w.heap[q]? := fun q hq => by
    show (w.heap.push O)[q]? = _
    rw [Array.getElem?_push, if_neg (by omega)]
  have hnew : (World.push w O).heap[w.heap.size]? = some O := by
    show (w.heap.push O)[_]? = _
    rw [Array.getElem?_push, if_pos rfl]
  let ι' : Nat → Option (Nat × Nat) := fun b => if b = d then some (w.heap.size, 0) else ι b
  have hext : ∀ b x, ι b = some x → ι' b = some x := fun b x hx => by
    show (if b = d then _ else ι b) = _
    rw [if_neg (fun e => by rw [e, hιd] at hx; cases hx)]; exact hx
  have g : Grows ι ι' imm imm w (World.push w O) := ⟨hext, ⟨fun _ hk => hk, fun q hq => hheap q (h.immlt q hq)⟩, fun r c e f hr => by
    have hr' : r < w.heap.size := by
      rcases Nat.lt_or_ge r w.heap.size with h' | h'
      · exact h'
      · rw [Array.getElem?_eq_none h'] at hr; cases hr
    exact ⟨c, f, (hheap r hr').trans hr, rfl⟩⟩
  have hlt : ∀ b q r z, st.H b = some q → ι b = some (r, z) → r < w.heap.size := fun b q r z hb hi => by
    obtain ⟨r', z', h1, _, _, h4⟩ := h.heap.blk b q hb
    rw [hi] at h1
    simp only [Option.some.injEq, Prod.mk.injEq] at h1
    obtain ⟨rfl, rfl⟩ := h1
    have : ∃ x, w.heap[r]? = some x := by
      cases q with
      | cells cs => obtain ⟨c, e, f, h1, _⟩ := h4; exact ⟨_, h1⟩
      | map es => obtain ⟨c, q, _, h2, _⟩ := h4; exact ⟨_, h2⟩
    obtain ⟨x, hx⟩ := this
    rcases Nat.lt_or_ge r w.heap.size with h' | h'
    · exact h'
    · rw [Array.getElem?_eq_none h'] at hx; cases hx
  have hold : ∀ b q, (Delta.mk v [(d, k)] []).H st.H b = some q → (b = d ∧ q = k) ∨ (b ≠ d ∧ st.H b = some q) := fun b q hb => by
    simp only [Delta.H, List.lookup] at hb
    by_cases hbd : b = d
    · subst hbd; simp only [beq_self_eq_true] at hb; exact .inl ⟨rfl, (Option.some.inj hb).symm⟩
    · have : (b == d) = false := by simpa using hbd
      simp only [this] at hb; exact .inr ⟨hbd, hb⟩
  refine ⟨ι', by show (if d = d then _ else _) = _; rw [if_pos rfl], g, h.turn g rfl rfl rfl (by show _ ≤ (w.heap.push O).size; simp) (fun q hq _ => hheap q hq) ⟨fun b q hb => ?_, fun b b' q q' r z z' hb hb' hi hi' => ?_⟩ (fun b x hx => ?_) (fun _ hk => .inl hk) (fun q hq => by show q < (w.heap.push O).size; have := h.immlt q hq; simp; omega)⟩
  · rcases hold b q hb with ⟨rfl, rfl⟩ | ⟨hne, hb⟩
    · refine ⟨w.heap.size, 0, by show (if b = b then _ else _) = _; rw [if_pos rfl], fun hi => Nat.lt_irrefl _ (h.immlt _ hi), .inr h.ext.size, ?_⟩
      cases q with
      | cells cs =>
        obtain ⟨c, e, rfl, h2, h3⟩ := hk
        exact ⟨c, e, (0, 0), hnew, by omega, fun o hh => Nat.not_lt_zero _ hh.2, h3.grows g⟩
      | map es =>
        obtain ⟨q, rfl, rfl⟩ := hk
        exact ⟨#[], q, rfl, hnew, rfl⟩
    · obtain ⟨r, z, h1, h2, h3, h4⟩ := h.heap.blk b q hb
      exact ⟨r, z, hext b _ h1, h2, h3, h4.grows g (hheap r (hlt b q r z hb h1))⟩
  · have key : ∀ b q r z, (Delta.mk v [(d, k)] []).H st.H b = some q → ι' b = some (r, z) → (b = d ∧ r = w.heap.size) ∨ (b ≠ d ∧ st.H b = some q ∧ ι b = some (r, z) ∧ r < w.heap.size) := fun b q r z hb hi => by
      rcases hold b q hb with ⟨rfl, rfl⟩ | ⟨hne, hb⟩
      · refine .inl ⟨rfl, ?_⟩
        have : ι' b = some (w.heap.size, 0) := by show (if b = b then _ else _) = _; rw [if_pos rfl]
        rw [this] at hi
        simp only [Option.some.injEq, Prod.mk.injEq] at hi
        exact hi.1.symm
      · have : ι' b = ι b := by show (if b = d then _ else ι b) = _; rw [if_neg hne]
        rw [this] at hi
        exact .inr ⟨hne, hb, hi, hlt b q r z hb hi⟩
    rcases key b q r z hb hi with ⟨h1, h2⟩ | ⟨h1, h2, h3, h4⟩ <;> rcases key b' q' r z' hb' hi' with ⟨k1, k2⟩ | ⟨k1, k2, k3, k4⟩
    · rw [h1, k1]
    · omega
    · omega
    · exact h.heap.inj b b' q q' r z z' h2 k2 h3 k3
  · simp only [Delta.U, List.lookup, Bool.or_eq_true]
    by_cases hbd : b = d
    · subst hbd; left; simp
    · right
      have : ι' b = ι b := by show (if b = d then _ else ι b) = _; rw [if_neg hbd]
      rw [this] at hx
      exact h.used b x hx

/-- An operation that makes one block. -/
theorem Does.alloc {E : Env} {o : Oper} {vs : List AV} {hs : List (Nat × Blk)} {v : AV} {d : Nat} {k : Blk} (hdst : o.dst = some d) (hd : d < E.n)
    (h : ∀ ι imm st a w, SR E ι imm st a w → VHs ι imm w vs (o.op.operands.toList.map a.eval) → (∀ x ∈ hs, st.H x.1 = some x.2) →
      ∃ O u, (execOp a.eval o).run E.P w = .ok (.value u) (World.push w O) ∧ NewH ι imm w O k ∧
        ∀ ι', ι' d = some (w.heap.size, 0) → VH ι' imm (World.push w O) v u) : Does E o vs hs { v := v, new := [(d, k)] } := by
  intro ι imm st a w Q hs' hv hh hf
  obtain ⟨O, u, h1, h2, h3⟩ := h ι imm st a w hs' (hs'.evls hv) hh
  obtain ⟨ι', h4, g, h5⟩ := hs'.new (hf (d, k) (List.mem_cons_self ..)) h2 v
  unfold Oper.wp
  rw [h1, Oper.upon_value]
  exact ⟨ι', imm, h5.put o.dst (fun t ht => by rw [hdst] at ht; exact Option.some.inj ht ▸ hd) (h3 ι' h4)⟩

/-- An operation that makes one block, whatever that is called. -/
def Makes (E : Env) (o : Oper) (vs : List AV) (hs : List (Nat × Blk)) (v : Nat → AV) (k : Blk) : Prop :=
  ∀ ι imm st a w, SR E ι imm st a w → VHs ι imm w vs (o.op.operands.toList.map a.eval) → (∀ x ∈ hs, st.H x.1 = some x.2) →
      ∃ O u, (execOp a.eval o).run E.P w = .ok (.value u) (World.push w O) ∧ NewH ι imm w O k ∧
        ∀ d ι', ι' d = some (w.heap.size, 0) → VH ι' imm (World.push w O) (v d) u
theorem Makes.does {E : Env} {o : Oper} {vs : List AV} {hs : List (Nat × Blk)} {v : Nat → AV} {k : Blk} (h : Makes E o vs hs v k) {d : Nat} (hdst : o.dst = some d) (hd : d < E.n) : Does E o vs hs { v := v d, new := [(d, k)] } :=
  Does.alloc hdst hd fun ι imm st a w hs hv hh => let ⟨O, u, h1, h2, h3⟩ := h ι imm st a w hs hv hh; ⟨O, u, h1, h2, h3 d⟩

theorem PHs.of_cells {ι : Nat → Option (Nat × Nat)} {i j : Nat → Prop} {w w' : World} {r : Nat} (g : Stays i j w w') {c : Array Value} (hc : ∀ o, w'.cell? ⟨r, o, none⟩ = c[o]?) : ∀ {ps : List PV} {o : Nat}, CellsH ι i w c (ps.map .pv) o → PHs j w' ps r o
  | [], _, _ => trivial
  | p :: ps, o, h => by
    simp only [List.map_cons, CellsH] at h
    obtain ⟨⟨v, h1, h2⟩, h3⟩ := h
    simp only [VH] at h2
    exact ⟨⟨v, (hc o).trans h1, PH.stays g _ _ h2⟩, PHs.of_cells g hc h3⟩

theorem CellsH.of_VHs {ι : Nat → Option (Nat × Nat)} {imm : Nat → Prop} {w : World} {c : Array Value} : ∀ {cs : List AV} {vs : List Value} {o : Nat}, VHs ι imm w cs vs → (∀ i, i < vs.length → c[o + i]? = vs[i]?) → CellsH ι imm w c cs o
  | [], _, _, _, _ => trivial
  | x :: xs, vs, o, h, hc => by
    obtain ⟨v, us, rfl, h1, h2⟩ := h
    refine ⟨⟨v, by simpa using hc 0 (by simp), h1⟩, CellsH.of_VHs h2 fun i hi => ?_⟩
    have := hc (i + 1) (by simpa using hi)
    rw [show o + 1 + i = o + (i + 1) by omega, this]; simp

theorem cellsOf_holds {ι : Nat → Option (Nat × Nat)} {imm : Nat → Prop} {w : World} {x : AV} {cs : List AV} {v : Value} (h : cellsOf x = some cs) (hv : VH ι imm w x v) (hag : ∀ c, x ≠ .pv (.lit (.agg c))) : VHs ι imm w cs v.cells.toList := by
  cases x with
  | undef => simp [cellsOf] at h
  | tup vs => simp [cellsOf] at h
  | agg xs =>
    simp only [cellsOf, Option.some.injEq] at h; subst h
    simp only [VH] at hv
    obtain ⟨vs, rfl, h2⟩ := hv
    simpa [Value.cells] using h2
  | pv p =>
    simp only [cellsOf, Option.some.injEq] at h; subst h
    have : v.cells = #[v] := by
      cases p with
      | lit y =>
        simp only [VH, PH] at hv
        obtain ⟨rfl, hf⟩ := hv
        cases v <;> first | rfl | simp [flatB] at hf
      | sl f n ps => simp only [VH, PH] at hv; obtain ⟨A, cap, rfl, _⟩ := hv; rfl
    rw [this]
    exact ⟨v, [], rfl, hv, rfl⟩
  | ptr b o =>
    simp only [cellsOf, Option.some.injEq] at h; subst h
    have hv' := hv
    simp only [VH] at hv; obtain ⟨r, z, _, rfl⟩ := hv
    exact ⟨_, [], rfl, hv', rfl⟩
  | sl b o n s t =>
    simp only [cellsOf, Option.some.injEq] at h; subst h
    have hv' := hv
    simp only [VH] at hv; obtain ⟨r, z, cap, _, rfl, _⟩ := hv
    exact ⟨_, [], rfl, hv', rfl⟩
  | slc b o n s c =>
    simp only [cellsOf, Option.some.injEq] at h; subst h
    have hv' := hv
    simp only [VH] at hv; obtain ⟨r, z, _, rfl, _⟩ := hv
    exact ⟨_, [], rfl, hv', rfl⟩
  | tsl n ps =>
    simp only [cellsOf, Option.some.injEq] at h; subst h
    have hv' := hv
    simp only [VH] at hv; obtain ⟨A, rfl, _⟩ := hv
    exact ⟨_, [], rfl, hv', rfl⟩
  | rp ps =>
    simp only [cellsOf, Option.some.injEq] at h; subst h
    have hv' := hv
    simp only [VH] at hv; obtain ⟨A, rfl, _⟩ := hv
    exact ⟨_, [], rfl, hv', rfl⟩
  | mp b =>
    simp only [cellsOf, Option.some.injEq] at h; subst h
    have hv' := hv
    simp only [VH] at hv; obtain ⟨r, z, _, rfl⟩ := hv
    exact ⟨_, [], rfl, hv', rfl⟩
  | fn f xs ys =>
    simp only [cellsOf, Option.some.injEq] at h; subst h
    have hv' := hv
    simp only [VH] at hv; obtain ⟨vs, us, rfl, _⟩ := hv
    exact ⟨_, [], rfl, hv', rfl⟩

section ops
variable {E : Env} {T : Tab}

theorem does_alloc (hT : TabOk E.P T) {o : Oper} {t : TypeId} (ho : o.op = .alloc t) {d : Nat} (hdst : o.dst = some d) (hd : d < E.n) {r : TyRow} (hr : T.lookup t = some r) :
    Does E o [] [] { v := .ptr d 0, new := [(d, .cells (r.zero.cells.toList.map constCell))] } := by
  refine Does.alloc hdst hd fun ι imm st a w hs hv _ => ⟨.cells r.zero.cells t, .pointer (some ⟨w.heap.size, 0, none⟩), ?_, ⟨_, _, rfl, by simp, ?_⟩, fun ι' h => ⟨_, _, h, rfl⟩⟩
  · simp only [execOp, ho, Instr.alloc, newVar, newRow, newObj, run_bind', run_zeroValue hT hr, Sem.run, run_pure']
    rfl
  · exact CellsH.of_VHs (VHs_map_const ι imm w _) fun i _ => by simp

theorem does_box {o : Oper} {t : TypeId} {x : Operand} (ho : o.op = .box t x) {d : Nat} (hdst : o.dst = some d) (hd : d < E.n) {u : AV} {cs : List AV} (hc : cellsOf u = some cs) :
    Does E o [u] [] { v := .ptr d 0, new := [(d, .cells cs)] } := by
  refine Does.alloc hdst hd fun ι imm st a w hs hv _ => ?_
  rw [ho] at hv
  simp only [Op.operands, List.map_cons, List.map_nil] at hv
  have hv := hv.one
  have hcs := cellsOf_holds hc hv (fun c e => by subst e; simp only [VH, PH] at hv; simp [flatB] at hv)
  refine ⟨.cells (a.eval x).cells t, .pointer (some ⟨w.heap.size, 0, none⟩), ?_, ⟨_, _, rfl, ?_, ?_⟩, fun ι' h => ⟨_, _, h, rfl⟩⟩
  · simp only [execOp, ho, Instr.box, newVar, newRow, newObj, run_bind', Sem.run, run_pure']
    rfl
  · have := hcs.length; simp only [Array.length_toList] at this; omega
  · exact CellsH.of_VHs hcs fun i _ => by simp

/-! ### Loads -/
theorem run_loadCells {P : Program} {w : World} {r o : Nat} (vs : List Value) (h : ∀ i, i < vs.length → w.cell? ⟨r, o + i, none⟩ = vs[i]?) : (loadCells ⟨r, o, none⟩ vs.length).run P w = .ok vs.toArray w := by
  have key : ∀ (n i : Nat) (acc : Array Value), i + n = vs.length → acc = (vs.take i).toArray → (loadCellsFrom ⟨r, o, none⟩ i n acc).run P w = .ok vs.toArray w := by
    intro n
    induction n with
    | zero =>
      intro i acc hi hacc
      have : vs.take i = vs := List.take_of_length_le (by omega)
      rw [hacc, this]; rfl
    | succ n ih =>
      intro i acc hi hacc
      have hlt : i < vs.length := by omega
      have hc := h i hlt
      rw [List.getElem?_eq_getElem hlt] at hc
      simp only [loadCellsFrom, run_bind', load, Sem.run, add_none, hc]
      refine ih (i + 1) _ (by omega) ?_
      rw [hacc, List.take_succ_eq_append_getElem hlt]
      simp
  exact key vs.length 0 #[] (by omega) rfl

theorem CellsH.get {ι : Nat → Option (Nat × Nat)} {imm : Nat → Prop} {w : World} {c : Array Value} : ∀ {cs : List AV} {o : Nat}, CellsH ι imm w c cs o → ∀ {i : Nat} {x : AV}, cs[i]? = some x → ∃ v, c[o + i]? = some v ∧ VH ι imm w x v
  | [], _, _, i, x, hx => by simp at hx
  | y :: ys, o, h, i, x, hx => by
    obtain ⟨⟨v, h1, h2⟩, h3⟩ := h
    cases i with
    | zero => simp only [List.getElem?_cons_zero, Option.some.injEq] at hx; subst hx; exact ⟨v, h1, h2⟩
    | succ i =>
      simp only [List.getElem?_cons_succ] at hx
      obtain ⟨v, h4, h5⟩ := CellsH.get h3 hx
      exact ⟨v, by rw [show o + (i + 1) = o + 1 + i by omega]; exact h4, h5⟩

theorem CellsH.drop {ι : Nat → Option (Nat × Nat)} {imm : Nat → Prop} {w : World} {c : Array Value} : ∀ {k : Nat} {cs : List AV} {o : Nat}, CellsH ι imm w c cs o → CellsH ι imm w c (cs.drop k) (o + k)
  | 0, cs, o, h => h
  | k + 1, [], o, _ => trivial
  | k + 1, x :: xs, o, h => by
    have := CellsH.drop (k := k) h.2
    rw [show o + (k + 1) = o + 1 + k by omega]; exact this
/-- The values of cells. -/
theorem CellsH.vals {ι : Nat → Option (Nat × Nat)} {imm : Nat → Prop} {w : World} {c : Array Value} : ∀ {cs : List AV} {o : Nat}, CellsH ι imm w c cs o → ∃ vs, VHs ι imm w cs vs ∧ ∀ i, i < vs.length → c[o + i]? = vs[i]?
  | [], o, _ => ⟨[], rfl, fun i hi => by simp at hi⟩
  | x :: xs, o, h => by
    obtain ⟨⟨v, h1, h2⟩, h3⟩ := h
    obtain ⟨vs, h4, h5⟩ := CellsH.vals h3
    refine ⟨v :: vs, ⟨v, vs, rfl, h2, h4⟩, fun i hi => ?_⟩
    cases i with
    | zero => simpa using h1
    | succ i => rw [show o + (i + 1) = o + 1 + i by omega, h5 i (by simpa using hi)]; simp
theorem CellsH.take {ι : Nat → Option (Nat × Nat)} {imm : Nat → Prop} {w : World} {c : Array Value} : ∀ {k : Nat} {cs : List AV} {o : Nat}, CellsH ι imm w c cs o → CellsH ι imm w c (cs.take k) o
  | 0, cs, o, h => by simp [CellsH]
  | k + 1, [], o, _ => trivial
  | k + 1, x :: xs, o, h => ⟨h.1, CellsH.take h.2⟩

theorem PHs.vals {imm : Nat → Prop} {w : World} (ι : Nat → Option (Nat × Nat)) : ∀ {ps : List PV} {r o : Nat}, PHs imm w ps r o → ∃ vs, VHs ι imm w (ps.map .pv) vs ∧ ∀ i, i < vs.length → w.cell? ⟨r, o + i, none⟩ = vs[i]?
  | [], r, o, _ => ⟨[], rfl, fun i hi => by simp at hi⟩
  | x :: xs, r, o, h => by
    obtain ⟨⟨v, h1, h2⟩, h3⟩ := h
    obtain ⟨vs, h4, h5⟩ := PHs.vals ι h3
    refine ⟨v :: vs, ⟨v, vs, rfl, h2, h4⟩, fun i hi => ?_⟩
    cases i with
    | zero => simpa using h1
    | succ i => rw [show o + (i + 1) = o + 1 + i by omega, h5 i (by simpa using hi)]; simp
theorem PHs.drop {imm : Nat → Prop} {w : World} : ∀ {k : Nat} {ps : List PV} {r o : Nat}, PHs imm w ps r o → PHs imm w (ps.drop k) r (o + k)
  | 0, ps, r, o, h => h
  | k + 1, [], r, o, _ => trivial
  | k + 1, x :: xs, r, o, h => by
    have := PHs.drop (k := k) h.2
    rw [show o + (k + 1) = o + 1 + k by omega]; exact this
theorem PHs.take {imm : Nat → Prop} {w : World} : ∀ {k : Nat} {ps : List PV} {r o : Nat}, PHs imm w ps r o → PHs imm w (ps.take k) r o
  | 0, ps, r, o, _ => by simp [PHs]
  | k + 1, [], r, o, _ => trivial
  | k + 1, x :: xs, r, o, h => ⟨h.1, PHs.take h.2⟩

/-- What is read out of cells. -/
def readAV (r : TyRow) (cs : List AV) : Option AV :=
  if isAggD r.desc then (if r.size ≤ cs.length then some (.agg (cs.take r.size)) else none) else cs.head?

theorem run_loadVar {P : Program} {T : Tab} (hT : TabOk P T) {t : TypeId} {r : TyRow} (hr : T.lookup t = some r) {ι : Nat → Option (Nat × Nat)} {imm : Nat → Prop} {w : World} {b o : Nat} {cs : List AV} {x : AV} (hx : readAV r cs = some x)
    (hc : ∃ vs, VHs ι imm w cs vs ∧ ∀ i, i < vs.length → w.cell? ⟨b, o + i, none⟩ = vs[i]?) : ∃ u, (loadVar t ⟨b, o, none⟩).run P w = .ok u w ∧ VH ι imm w x u := by
  obtain ⟨vs, h1, h2⟩ := hc
  unfold readAV at hx
  simp only [loadVar, run_bind', run_isAgg hT hr]
  cases hb : isAggD r.desc with
  | true =>
    simp only [hb, if_true] at hx
    split at hx
    · rename_i hle
      obtain rfl := Option.some.inj hx
      have hlen := h1.length
      have htake : ∀ (k : Nat) {xs : List AV} {vs : List Value}, VHs ι imm w xs vs → VHs ι imm w (xs.take k) (vs.take k) := by
        intro k
        induction k with
        | zero => intro xs vs _; simp [VHs]
        | succ k ih =>
          intro xs vs h
          cases xs with
          | nil => simp only [VHs] at h; subst h; simp [VHs]
          | cons y ys => obtain ⟨v, us, rfl, q1, q2⟩ := h; exact ⟨v, us.take k, rfl, q1, ih q2⟩
      refine ⟨.agg (vs.take r.size).toArray, ?_, ⟨_, rfl, htake _ h1⟩⟩
      have hl : (vs.take r.size).length = r.size := by simp; omega
      have := run_loadCells (P := P) (w := w) (r := b) (o := o) (vs.take r.size) (fun i hi => by
        rw [h2 i (by simp at hi; omega), List.getElem?_take, if_pos (by omega)])
      rw [hl] at this
      simp only [if_true, run_bind', run_sizeOf hT hr, this, run_pure']
    · cases hx
  | false =>
    simp only [hb, Bool.false_eq_true, if_false] at hx
    cases cs with
    | nil => simp at hx
    | cons y ys =>
      simp only [List.head?_cons, Option.some.injEq] at hx; subst hx
      obtain ⟨v, us, rfl, q1, q2⟩ := h1
      refine ⟨v, ?_, q1⟩
      have := h2 0 (by simp)
      simp only [Nat.add_zero, List.getElem?_cons_zero] at this
      simp only [Bool.false_eq_true, if_false, load, Sem.run, this]

theorem HR.cells {ι : Nat → Option (Nat × Nat)} {imm : Nat → Prop} {w : World} {M : Nat → Prop} {H : Nat → Option Blk} (h : HR ι imm w M H) {b : Nat} {cs : List AV} (hb : H b = some (.cells cs)) {r z : Nat} (hi : ι b = some (r, z)) :
    ∃ (c : Array Value) (e : TypeId) (f : Nat × Nat), w.heap[r]? = some (Obj.cells c e f) ∧ z + cs.length ≤ c.size ∧ (∀ o, ¬ (f.1 ≤ o ∧ o < f.2)) ∧ CellsH ι imm w c cs z ∧ ¬ imm r ∧ M r := by
  obtain ⟨r', z', h1, h2, h3, c, e, f, h4, h5, h6, h7⟩ := h.blk b _ hb
  rw [hi] at h1
  simp only [Option.some.injEq, Prod.mk.injEq] at h1
  obtain ⟨rfl, rfl⟩ := h1
  exact ⟨c, e, f, h4, h5, h6, h7, h2, h3⟩

theorem cell_of_heap {w : World} {r : Nat} {c : Array Value} {e : TypeId} {f : Nat × Nat} (h : w.heap[r]? = some (Obj.cells c e f)) (o : Nat) : w.cell? ⟨r, o, none⟩ = c[o]? := by
  simp [World.cell?, h]

theorem does_loadOwn (hT : TabOk E.P T) {o : Oper} {t : TypeId} {x : Operand} (ho : o.op = .load t x) (hd : ∀ d, o.dst = some d → d < E.n) {r : TyRow} (hr : T.lookup t = some r) {b k : Nat} {cs : List AV} {z : AV} (hz : readAV r (cs.drop k) = some z) :
    Does E o [.ptr b k] [(b, .cells cs)] { v := z } := by
  refine Does.value hd fun ι imm st a w hs hv hh => ?_
  rw [ho] at hv
  simp only [Op.operands, List.map_cons, List.map_nil] at hv
  have hv := hv.one
  simp only [VH] at hv
  obtain ⟨q, z0, hi, he⟩ := hv
  obtain ⟨c, e, f, h1, h2, h3, h4, _⟩ := hs.heap.cells (hh _ (List.mem_cons_self ..)) hi
  obtain ⟨vs, h5, h6⟩ := (h4.drop (k := k)).vals
  obtain ⟨u, h7, h8⟩ := run_loadVar hT hr hz (ι := ι) (imm := imm) (w := w) (b := q) (o := z0 + k) ⟨vs, h5, fun i hi => by rw [cell_of_heap h1]; exact h6 i hi⟩
  exact ⟨u, by simp only [execOp, ho, he, Instr.loadAt, Instr.sureAddr, run_bind', run_pure', h7], h8⟩

theorem does_loadImm (hT : TabOk E.P T) {o : Oper} {t : TypeId} {x : Operand} (ho : o.op = .load t x) (hd : ∀ d, o.dst = some d → d < E.n) {r : TyRow} (hr : T.lookup t = some r) {ps : List PV} {z : AV} (hz : readAV r (ps.map .pv) = some z) (hne : ps ≠ []) :
    Does E o [.rp ps] [] { v := z } := by
  refine Does.value hd fun ι imm st a w hs hv hh => ?_
  rw [ho] at hv
  simp only [Op.operands, List.map_cons, List.map_nil] at hv
  have hv := hv.one
  simp only [VH] at hv
  obtain ⟨ad, he, hq⟩ := hv
  obtain ⟨h1, h2, h3⟩ := hq hne
  obtain ⟨u, h7, h8⟩ := run_loadVar hT hr hz (ι := ι) (imm := imm) (w := w) (b := ad.block) (o := ad.off) (h3.vals ι)
  rw [← addr_eta h1] at h7
  exact ⟨u, by simp only [execOp, ho, he, Instr.loadAt, Instr.sureAddr, run_bind', run_pure', h7], h8⟩
end ops
/-- A new row that will not change. -/
theorem Makes.frozen {E : Env} {o : Oper} {vs : List AV} {hs : List (Nat × Blk)} {n s : Nat} {t : Bool} {ps : List PV} (h : Makes E o vs hs (fun d => .sl d 0 n s t) (.cells (ps.map .pv))) (hd : ∀ d, o.dst = some d → d < E.n) : Does E o vs hs { v := .pv (.sl (some false) n ps) } := by
  intro ι imm st a w Q hs' hv hh _
  obtain ⟨O, u, h1, ⟨c, e, rfl, h2, h2'⟩, h3⟩ := h ι imm st a w hs' (hs'.evls hv) hh
  unfold Oper.wp
  rw [h1, Oper.upon_value]
  have hheap : ∀ q, q < w.heap.size → (World.push w (.cells c e (0, 0))).heap[q]? = w.heap[q]? := fun q hq => by
    show (w.heap.push _)[q]? = _
    rw [Array.getElem?_push, if_neg (by omega)]
  have hnew : (World.push w (.cells c e (0, 0))).heap[w.heap.size]? = some (.cells c e (0, 0)) := by
    show (w.heap.push _)[_]? = _
    rw [Array.getElem?_push, if_pos rfl]
  have hold : ∀ {k : Nat} {x : Obj}, w.heap[k]? = some x → k < w.heap.size := fun {k x} hk => by
    rcases Nat.lt_or_ge k w.heap.size with h' | h'
    · exact h'
    · rw [Array.getElem?_eq_none h'] at hk; cases hk
  let imm' : Nat → Prop := fun k => imm k ∨ k = w.heap.size
  have st' : Stays imm imm' w (World.push w (.cells c e (0, 0))) := ⟨fun _ hk => .inl hk, fun q hq => hheap q (hs'.immlt q hq)⟩
  have g : Grows ι ι imm imm' w (World.push w (.cells c e (0, 0))) := ⟨fun _ _ h => h, st', fun r c f f2 hr => ⟨c, f2, (hheap r (hold hr)).trans hr, rfl⟩⟩
  have hblk : ∀ {b k r z}, st.H b = some k → ι b = some (r, z) → r < w.heap.size := fun {b q r z} hb hi => by
    obtain ⟨r', z', h1, _, _, h4⟩ := hs'.heap.blk b q hb
    rw [hi] at h1
    simp only [Option.some.injEq, Prod.mk.injEq] at h1
    obtain ⟨rfl, rfl⟩ := h1
    cases q with
    | cells cs => obtain ⟨c, e, f, h1, _⟩ := h4; exact hold h1
    | map es => obtain ⟨c, q, _, h2, _⟩ := h4; exact hold h2
  have hsr : SR E ι imm' ⟨st.S, st.H, st.U⟩ a (World.push w (.cells c e (0, 0))) := by
    refine hs'.turn g rfl rfl rfl (by show _ ≤ (w.heap.push _).size; simp) (fun q hq _ => hheap q hq) ⟨fun b q hb => ?_, fun b b' k k' r z z' hb hb' hi hi' => hs'.heap.inj b b' k k' r z z' hb hb' hi hi'⟩ (fun b x hx => hs'.used b x hx) (fun k hk => ?_) (fun k hk => ?_)
    · obtain ⟨r, z, h1, h2, h3, h4⟩ := hs'.heap.blk b q hb
      have hr := hblk hb h1
      exact ⟨r, z, h1, fun hi => hi.elim h2 fun e => by omega, h3, h4.grows g (hheap r hr)⟩
    · rcases hk with hk | rfl
      · exact .inl hk
      · exact .inr (.inr hs'.ext.size)
    · show k < (w.heap.push _).size
      rw [Array.size_push]
      rcases hk with hk | rfl
      · have := hs'.immlt k hk; omega
      · omega
  refine ⟨ι, imm', hsr.put o.dst hd ?_⟩
  obtain ⟨r, z, cap, hi, rfl, hle, _⟩ := h3 0 (fun _ => some (w.heap.size, 0)) rfl
  simp only [Option.some.injEq, Prod.mk.injEq] at hi
  obtain ⟨rfl, rfl⟩ := hi
  simp only [VH, PH]
  refine ⟨_, cap, rfl, hle, fun h => by simp at h, fun _ h => by simp at h, fun h => by simp at h, fun A hA _ => ?_⟩
  simp only [Option.some.injEq] at hA
  subst hA
  refine ⟨rfl, .inr rfl, PHs.of_cells st' (fun o => ?_) h2'⟩
  simp [cell_of_heap hnew]

end Go.Am
