/- An abstract machine over the kit's calls, part 17: append. No conditions. -/
import Derived.Test.YtjhphpoihadmkaaAm16
namespace Go.Am
section ops
variable {E : Env} {T : Tab}

theorem growBy_le (need : Nat) : ∀ (k c : Nat), c ≤ 2 * need + 192 → Builtin.growBy need k c ≤ 2 * need + 192
  | 0, c, h => h
  | k + 1, c, h => by
    simp only [Builtin.growBy]
    split
    · exact h
    · exact growBy_le need k _ (by omega)
theorem nextcap_le {need cap : Nat} (h : cap < need) : Builtin.nextslicecap need cap ≤ 2 * need + 192 := by
  unfold Builtin.nextslicecap
  split
  · omega
  · split
    · omega
    · exact growBy_le need 4 cap (by omega)

/-- What an append does in the memory: it goes into the room behind, or into a row of its own. -/
theorem run_append (hT : TabOk E.P T) {t t2 : TypeId} {r re r2 : TyRow} (hr : T.lookup t = some r) {e : TypeId} (hdesc : r.desc = .slice e) (hre : T.lookup e = some re) (hr2 : T.lookup t2 = some r2) (hd2 : ∀ k, r2.desc ≠ .int k) {w : World} {ty : TypeId}
    {base : Option Addr} {n cap m : Nat} {y : Value} {old new : List Value} (hl : (Builtin.lenOf y).run E.P w = .ok m w) (hy : ∀ w' : World, (∀ x, w'.cell? x = w.cell? x) → (Builtin.firstCells re.size m y).run E.P w' = .ok (List.toArray new) w') (ho : ∀ w' : World, (∀ x, w'.cell? x = w.cell? x) → (Builtin.firstCells re.size n (.slice base n cap)).run E.P w' = .ok (List.toArray old) w')
    (hb : (2 * (n + m) + 192) * re.bytes ≤ 281474976710656) (hnm : n + m ≤ 9223372036854775807) :
    (n + m ≤ cap → ∃ s, (Builtin.append_ #[t, t2] ty #[.slice base n cap, y]).run E.P w = ((match base with | some a => storeCells (a.add (n * re.size)) new | none => pure () : Sem Unit) >>= fun _ => pure (.slice base s cap)).run E.P w ∧ s = n + m) ∧
    (cap < n + m → ∃ w1 nc rest, (Builtin.append_ #[t, t2] ty #[.slice base n cap, y]).run E.P w = .ok (.slice (some ⟨w.heap.size, 0, none⟩) (n + m) nc) (World.push w1 (.cells (List.toArray (old ++ new ++ rest)) e)) ∧ n + m ≤ nc ∧ (w1.heap = w.heap ∧ w1.os = w.os ∧ w1.tape = w.tape ∧ w1.output = w.output) ∧ rest.length = (nc - (n + m)) * re.zero.cells.size) := by
  have hz : (match r2.desc with | .int _ => true | _ => false) = false := by
    cases hd : r2.desc <;> first | rfl | exact absurd hd (hd2 _)
  obtain ⟨ri, g1, g2, g3, g4⟩ := run_typeInfo hT hre w (P := E.P)
  constructor
  · intro hle
    refine ⟨n + m, ?_, rfl⟩
    simp only [Builtin.append_, List.getElem?_toArray, List.getElem?_cons_zero, List.getElem?_cons_succ]
    rw [run_bind', run_underlying hT hr]
    simp only [hdesc, run_bind', run_sizeOf hT hre, run_underlying hT hr2, run_pure', Bool.false_eq_true, if_false, hl]
    rw [if_pos hle]
    simp only [run_bind', Bool.not_false, if_true, hy w (fun _ => rfl)]
    cases base with
    | none => rfl
    | some a => simp only [run_bind']; rfl
  · intro hlt
    have hnc := nextcap_le hlt
    simp only [Builtin.append_, List.getElem?_toArray, List.getElem?_cons_zero, List.getElem?_cons_succ]
    rw [run_bind', run_underlying hT hr]
    simp only [hdesc, run_bind', run_sizeOf hT hre, run_underlying hT hr2, run_pure', Bool.false_eq_true, if_false, hl]
    rw [if_neg (by omega)]
    have hmax : (IntKind.i64.max : Int) = 9223372036854775807 := by decide
    have c1 : ¬ ((((n + m : Nat) : Int) > IntKind.i64.max) ∧ (False ∨ ri.bytes = 0)) := by
      rintro ⟨h, _⟩
      rw [hmax] at h; omega
    have hroom : ∀ k w, (askRoom k).run E.P w = .ok () w := fun k w => by unfold askRoom; split <;> rfl
    have c2 : ¬ (Builtin.nextslicecap (n + m) cap * ri.bytes > 2 ^ 48) := by
      rw [g3]
      have : Builtin.nextslicecap (n + m) cap * re.bytes ≤ (2 * (n + m) + 192) * re.bytes := Nat.mul_le_mul_right _ hnc
      have e : (2 : Nat) ^ 48 = 281474976710656 := by decide
      rw [e]; omega
    simp only [run_bind', g1]
    simp only [Bool.false_eq_true, c1, if_false, run_bind', g1, c2, choose, Sem.run, Question.forced]
    obtain ⟨r2', k1, _, _, _⟩ := run_typeInfo hT hre { heap := w.heap, tape := w.tape, drawn := w.drawn + 1, os := w.os, output := w.output } (P := E.P)
    have hsame : ∀ x, World.cell? { heap := w.heap, tape := w.tape, drawn := w.drawn + 1, os := w.os, output := w.output } x = w.cell? x := fun _ => rfl
    simp only [k1, hroom, ho _ hsame, Bool.not_false, if_true, hy _ hsame, run_zeroValue hT hre, newRow, newObj, run_bind', Sem.run, run_pure']
    refine ⟨{ heap := w.heap, tape := w.tape, drawn := w.drawn + 1, os := w.os, output := w.output }, (Question.appendCap (n + m) cap e).cut (w.tape w.drawn (Question.appendCap (n + m) cap e)), (Builtin.zeroCells re.zero.cells ((Question.appendCap (n + m) cap e).cut (w.tape w.drawn (Question.appendCap (n + m) cap e)) - (n + m))).toList, ?_, ?_, ⟨rfl, rfl, rfl, rfl⟩, ?_⟩
    · simp only [World.push]
      have : ∀ z : Array Value, old.toArray ++ new.toArray ++ z = (old ++ new ++ z.toList).toArray := fun z => by simp
      rw [this]
    · simp only [Question.cut]; omega
    · simp [Builtin.zeroCells]

/-- A block of one's own, or what lies in it from a place on, under another name. -/
theorem SR.alias {ι : Nat → Option (Nat × Nat)} {imm : Nat → Prop} {st : St} {a : Act} {w : World} (h : SR E ι imm st a w) {b : Nat} {cs : List AV} (hb : st.H b = some (.cells cs)) {r z : Nat} (hi : ι b = some (r, z)) {d : Nat} (hd : st.U d = false) {o : Nat} {cs' : List AV}
    {c : Array Value} {e : TypeId} {f : Nat × Nat} (hc : w.heap[r]? = some (Obj.cells c e f)) (hle : z + o + cs'.length ≤ c.size) (hcs : CellsH ι imm w c cs' (z + o)) (v : AV) :
    ∃ ι', ι' d = some (r, z + o) ∧ Grows ι ι' imm imm w w ∧ SR E ι' imm ⟨st.S, (Delta.mk v [(d, .cells cs')] [(b, none)]).H st.H, (Delta.mk v [(d, .cells cs')] [(b, none)]).U st.U⟩ a w := by
  obtain ⟨c0, e0, f0, h1, h2, h3, h4, h5, h6⟩ := h.heap.cells hb hi
  rw [hc] at h1
  simp only [Option.some.injEq, Obj.cells.injEq] at h1
  obtain ⟨rfl, rfl, rfl⟩ := h1
  have hιd : ι d = none := by
    cases hi : ι d with
    | none => rfl
    | some x => rw [h.used d x hi] at hd; cases hd
  have hbd : b ≠ d := fun e => by rw [e, hιd] at hi; cases hi
  let ι' : Nat → Option (Nat × Nat) := fun x => if x = d then some (r, z + o) else ι x
  have hd' : ι' d = some (r, z + o) := by show (if d = d then _ else _) = _; rw [if_pos rfl]
  have hne : ∀ x, x ≠ d → ι' x = ι x := fun x hx => by show (if x = d then _ else _) = _; rw [if_neg hx]
  have hext : ∀ x y, ι x = some y → ι' x = some y := fun x y hx => by
    rw [hne x (fun e => by rw [e, hιd] at hx; cases hx)]; exact hx
  have g : Grows ι ι' imm imm w w := ⟨hext, .refl _ _, fun r c e f hr => ⟨c, f, hr, rfl⟩⟩
  have hH : ∀ x k, (Delta.mk v [(d, .cells cs')] [(b, none)]).H st.H x = some k → (x = d ∧ k = .cells cs') ∨ (x ≠ d ∧ x ≠ b ∧ st.H x = some k) := fun x k hk => by
    simp only [Delta.H, List.lookup] at hk
    by_cases hx : x = d
    · subst hx; simp only [beq_self_eq_true] at hk; exact .inl ⟨rfl, (Option.some.inj hk).symm⟩
    · have e1 : (x == d) = false := by simpa using hx
      simp only [e1] at hk
      by_cases hxb : x = b
      · subst hxb; simp only [beq_self_eq_true] at hk; cases hk
      · have e2 : (x == b) = false := by simpa using hxb
        simp only [e2] at hk
        exact .inr ⟨hx, hxb, hk⟩
  refine ⟨ι', hd', g, h.turn g rfl rfl rfl (Nat.le_refl _) (fun _ _ _ => rfl) ⟨fun x k hk => ?_, fun x1 x2 k1 k2 r1 z1 z2 hk1 hk2 hi1 hi2 => ?_⟩ (fun x y hx => ?_) (fun _ hk => .inl hk) h.immlt⟩
  · rcases hH x k hk with ⟨rfl, rfl⟩ | ⟨n1, _, hk⟩
    · exact ⟨r, z + o, hd', h5, h6, c, e, f, hc, hle, h3, hcs.grows g⟩
    · obtain ⟨r', z', q1, q2, q3, q4⟩ := h.heap.blk x k hk
      exact ⟨r', z', hext x _ q1, q2, q3, q4.grows g rfl⟩
  · have key : ∀ x k r1 z1, (Delta.mk v [(d, .cells cs')] [(b, none)]).H st.H x = some k → ι' x = some (r1, z1) → (x = d ∧ r1 = r) ∨ (x ≠ b ∧ st.H x = some k ∧ ι x = some (r1, z1)) := fun x k r1 z1 hk hi => by
      rcases hH x k hk with ⟨rfl, rfl⟩ | ⟨n1, n2, hk⟩
      · rw [hd'] at hi
        simp only [Option.some.injEq, Prod.mk.injEq] at hi
        exact .inl ⟨rfl, hi.1.symm⟩
      · rw [hne x n1] at hi
        exact .inr ⟨n2, hk, hi⟩
    rcases key x1 k1 r1 z1 hk1 hi1 with ⟨p1, p2⟩ | ⟨p1, p2, p3⟩ <;> rcases key x2 k2 r1 z2 hk2 hi2 with ⟨q1, q2⟩ | ⟨q1, q2, q3⟩
    · rw [p1, q1]
    · subst p2; exact absurd (h.heap.inj x2 b k2 _ r1 z2 z q2 hb q3 hi) q1
    · subst q2; exact absurd (h.heap.inj x1 b k1 _ r1 z1 z p2 hb p3 hi) p1
    · exact h.heap.inj x1 x2 k1 k2 r1 z1 z2 p2 q2 p3 q3
  · simp only [Delta.U, List.lookup, Bool.or_eq_true]
    by_cases hx' : x = d
    · subst hx'; left; simp
    · right; rw [hne x hx'] at hx; exact h.used x y hx

/-- A block is forgotten. -/
theorem SR.kill {ι : Nat → Option (Nat × Nat)} {imm : Nat → Prop} {st : St} {a : Act} {w : World} (h : SR E ι imm st a w) {H : Nat → Option Blk} (hH : ∀ x k, H x = some k → st.H x = some k) : SR E ι imm ⟨st.S, H, st.U⟩ a w :=
  { h with heap := ⟨fun b k hb => h.heap.blk b k (hH b k hb), fun b b' k k' r z z' hb hb' => h.heap.inj b b' k k' r z z' (hH b k hb) (hH b' k' hb')⟩, defers := h.defers, size := h.size, slot := h.slot, used := h.used, grow := h.grow, ext := h.ext, immM := h.immM, immlt := h.immlt }

theorem CellsH.app {ι : Nat → Option (Nat × Nat)} {imm : Nat → Prop} {w : World} {c : Array Value} : ∀ {xs ys : List AV} {o : Nat}, CellsH ι imm w c xs o → CellsH ι imm w c ys (o + xs.length) → CellsH ι imm w c (xs ++ ys) o
  | [], ys, o, _, h => h
  | x :: xs, ys, o, h, h' => by
    simp only [CellsH, List.cons_append] at h ⊢
    exact ⟨h.1, CellsH.app h.2 (by rw [List.length_cons] at h'; rw [show o + 1 + xs.length = o + (xs.length + 1) by omega]; exact h')⟩
theorem CellsH.undefs {ι : Nat → Option (Nat × Nat)} {imm : Nat → Prop} {w : World} {c : Array Value} : ∀ {k : Nat} {o : Nat}, o + k ≤ c.size → CellsH ι imm w c (List.replicate k AV.undef) o
  | 0, _, _ => trivial
  | k + 1, o, h => by
    rw [List.replicate_succ]
    refine ⟨⟨c[o]'(by omega), by simp [show o < c.size by omega], trivial⟩, CellsH.undefs (by omega)⟩

theorem setRange_tail {O N : List AV} {p j : Nat} (hO : O.length = p) (hN : N.length = j) : setRange (O ++ List.replicate j AV.undef) p N = O ++ N := by
  subst hO hN
  simp only [setRange, List.take_left]
  rw [List.drop_of_length_le (by simp), List.append_nil]

/-- An append to a row of one's own: it goes on under a new name. -/
theorem does_append_own (hT : TabOk E.P T) {o : Oper} {c : Call} {t t2 : TypeId} (ho : o.op = .call c) (hc : c.callee = .builtin .append) (hty : c.argTypes = #[t, t2]) {d : Nat} (hdst : o.dst = some d) (hd : d < E.n) {r re r2 : TyRow} (hr : T.lookup t = some r) {e : TypeId} (hdesc : r.desc = .slice e) (hre : T.lookup e = some re) (hr2 : T.lookup t2 = some r2) (hd2 : ∀ k, r2.desc ≠ .int k)
    {b k n : Nat} {tt : Bool} {cs : List AV} {y : AV} {H : Nat → Option Blk} {m : Nat} {hs2 : List (Nat × Blk)} {new : List AV} (hy : srcAV H re.size y = some (m, hs2, new)) (hln : new.length = m * re.size) (hkn : k + n * re.size ≤ cs.length) (hflat : new.all flatCell = true)
    (hb : (2 * (n + m) + 192) * re.bytes ≤ 281474976710656) (hnm : n + m ≤ 9223372036854775807) (hzs : re.zero.cells.size = re.size) :
    Does E o [.sl b k n re.size tt, y] ((b, .cells cs) :: hs2) { v := .sl d 0 (n + m) re.size false, new := [(d, .cells ((cs.drop k).take (n * re.size) ++ new))], wr := [(b, none)] } := by
  intro ι imm st a w Q hs hv hh hf
  have hUd : st.U d = false := hf (d, _) (List.mem_cons_self ..)
  have hvs := hs.evls hv
  have hops : o.op.operands.toList = c.args.toList := by rw [ho]; simp [Op.operands, Call.operands, hc]
  rw [hops] at hvs
  obtain ⟨v1, us1, he, hv1, hvs⟩ := hvs
  obtain ⟨v2, us2, he2, hv2, hvs⟩ := hvs
  simp only [VHs] at hvs
  subst hvs
  subst he2
  have hargs : c.args.map a.eval = #[v1, v2] := by apply Array.ext'; simpa using he
  simp only [VH] at hv1
  obtain ⟨q, z, cap, hi, rfl, hncap, _, cS, eS, fS, hS, hSz⟩ := hv1
  have hbk := hh _ (List.mem_cons_self ..)
  obtain ⟨cc, ee, f, h1, h2, h3, h4, h5, h6⟩ := hs.heap.cells hbk hi
  rw [h1] at hS
  simp only [Option.some.injEq, Obj.cells.injEq] at hS
  obtain ⟨rfl, rfl, rfl⟩ := hS
  obtain ⟨vsN, g1, g2, g3⟩ := run_src hs hy (fun x hx => hh x (List.mem_cons_of_mem _ hx)) hln hv2
  have hlN := g2.length
  have hO : CellsH ι imm w cc ((cs.drop k).take (n * re.size)) (z + k) := (h4.drop).take
  have hOl : ((cs.drop k).take (n * re.size)).length = n * re.size := by rw [List.length_take, List.length_drop]; omega
  obtain ⟨vsO, o1, o2⟩ := hO.vals
  have hlO := o1.length
  have hold : ∀ w' : World, (∀ x, w'.cell? x = w.cell? x) → (Builtin.firstCells re.size n (.slice (some ⟨q, z + k, none⟩) n cap)).run E.P w' = .ok (List.toArray vsO) w' := fun w' hw' => by
    have := run_loadCells (P := E.P) (w := w') (r := q) (o := z + k) vsO (fun i hi => by rw [hw', cell_of_heap h1, o2 i hi])
    rw [hlO, hOl] at this
    simpa [Builtin.firstCells] using this
  have hnew : ∀ w' : World, (∀ x, w'.cell? x = w.cell? x) → (Builtin.firstCells re.size m v2).run E.P w' = .ok (List.toArray vsN) w' := fun w' hw' => by
    have := g3 m (Nat.le_refl _) w' hw'
    rwa [List.take_of_length_le (by rw [hlN, hln]; exact Nat.le_refl _)] at this
  have hsing : ∀ v ∈ vsN, single v := VHs.singles _ _ g2 (flatCell_spec hflat)
  obtain ⟨inplace, grown⟩ := run_append hT hr hdesc hre hr2 hd2 (ty := o.type) (t := t) g1 hnew hold hb hnm
  have hexec : ∀ {u w'}, (Builtin.append_ #[t, t2] o.type #[.slice (some ⟨q, z + k, none⟩) n cap, v2]).run E.P w = .ok u w' → (execOp a.eval o).run E.P w = .ok (.value u) w' := fun {u w'} h => by
    simp only [execOp, ho, resolve, hc, run_bind', run_pure', invoke, builtin, hargs, hty, h]
  unfold Oper.wp
  have hdd : ∀ x, o.dst = some x → x < E.n := fun x hx => by rw [hdst] at hx; exact Option.some.inj hx ▸ hd
  by_cases hle : n + m ≤ cap
  · obtain ⟨s, hrun, rfl⟩ := inplace hle
    have hmul : (n + m) * re.size ≤ cap * re.size := Nat.mul_le_mul_right _ hle
    rw [Nat.add_mul] at hmul
    have hin : z + k + (((cs.drop k).take (n * re.size)) ++ List.replicate (m * re.size) AV.undef).length ≤ cc.size := by
      rw [List.length_append, hOl, List.length_replicate]; omega
    obtain ⟨ι', i1, i2, i3⟩ := hs.alias hbk hi hUd h1 hin (CellsH.app hO (CellsH.undefs (k := m * re.size) (by rw [hOl]; omega))) (.sl d 0 (n + m) re.size false)
    obtain ⟨w', h7, h8⟩ := run_storeCells (P := E.P) vsN (z + k + n * re.size) 0 h1 (by rw [hlN, hln]; omega) (fun o _ => h3 o) hsing
    simp only [add_none, run_bind', h7, run_pure'] at hrun
    rw [hexec hrun, Oper.upon_value]
    have hHd : (Delta.mk (.sl d 0 (n + m) re.size false) [(d, .cells ((cs.drop k).take (n * re.size) ++ List.replicate (m * re.size) AV.undef))] [(b, none)]).H st.H d = some (.cells ((cs.drop k).take (n * re.size) ++ List.replicate (m * re.size) AV.undef)) := by
      simp [Delta.H]
    have hset : setRange ((cs.drop k).take (n * re.size) ++ List.replicate (m * re.size) AV.undef) (n * re.size) new = (cs.drop k).take (n * re.size) ++ new := by
      exact setRange_tail hOl hln
    have g2' : VHs ι' imm w new vsN := VHs.grows i2 _ _ g2
    have hput := CellsH.put (k := n * re.size) (c' := putCells cc (z + k + n * re.size + 0) vsN) (CellsH.grows i2 (CellsH.app hO (CellsH.undefs (k := m * re.size) (by rw [hOl]; omega)))) g2' (by rw [List.length_append, hOl, List.length_replicate, hln]; exact Nat.le_refl _) (by rw [Nat.add_zero]) hin
    rw [hset] at hput
    have hsr := i3.write hHd i1 h1 h8 (putCells_size _ _ _) (by rw [List.length_append, hOl, hln]; rw [List.length_append, hOl, List.length_replicate] at hin; exact hin) hput (.sl d 0 (n + m) re.size false)
    refine ⟨ι', imm, ?_⟩
    have hfin := hsr.put o.dst hdd (v := .sl d 0 (n + m) re.size false) (u := .slice (some ⟨q, z + k, none⟩) (n + m) cap) ⟨q, z + k, cap, i1, by simp, hle, (fun h => (by cases h)), _, _, _, h8.row, by rw [putCells_size]; omega⟩
    have eH : (Delta.mk (.sl d 0 (n + m) re.size false) [] [(d, some (.cells ((cs.drop k).take (n * re.size) ++ new)))]).H ((Delta.mk (.sl d 0 (n + m) re.size false) [(d, .cells ((cs.drop k).take (n * re.size) ++ List.replicate (m * re.size) AV.undef))] [(b, none)]).H st.H) = (Delta.mk (.sl d 0 (n + m) re.size false) [(d, .cells ((cs.drop k).take (n * re.size) ++ new))] [(b, none)]).H st.H := by
      funext x
      simp only [Delta.H, List.lookup]
      by_cases hx : x = d
      · subst hx; simp
      · have : (x == d) = false := by simpa using hx
        simp only [this]
    have eU : (Delta.mk (.sl d 0 (n + m) re.size false) [] [(d, some (.cells ((cs.drop k).take (n * re.size) ++ new)))]).U ((Delta.mk (.sl d 0 (n + m) re.size false) [(d, .cells ((cs.drop k).take (n * re.size) ++ List.replicate (m * re.size) AV.undef))] [(b, none)]).U st.U) = (Delta.mk (.sl d 0 (n + m) re.size false) [(d, .cells ((cs.drop k).take (n * re.size) ++ new))] [(b, none)]).U st.U := by
      funext x
      simp only [Delta.U, List.lookup]
      by_cases hx : x = d
      · subst hx; simp
      · have : (x == d) = false := by simpa using hx
        simp [this]
    simp only [eH, eU] at hfin
    exact hfin
  · obtain ⟨w1, nc, rest, hrun, hnc, ⟨e1, e2, e3, e4⟩, hrest⟩ := grown (by omega)
    rw [hexec hrun, Oper.upon_value]
    have gw : Grows ι ι imm imm w w1 := ⟨fun _ _ h => h, ⟨fun _ h => h, fun k _ => by rw [e1]⟩, fun r' c1 e1' f1 hr' => ⟨c1, f1, by rw [e1]; exact hr', rfl⟩⟩
    have hs1 : SR E ι imm ⟨st.S, st.H, st.U⟩ a w1 := hs.turn gw e2 e3 e4 (by rw [e1]; exact Nat.le_refl _) (fun k _ _ => by rw [e1]) ⟨fun b' k' hb' => by
      obtain ⟨r', z', p1, p2, p3, p4⟩ := hs.heap.blk b' k' hb'
      exact ⟨r', z', p1, p2, p3, p4.grows gw (by rw [e1])⟩, hs.heap.inj⟩ hs.used (fun _ hk => .inl hk) (fun k hk => by rw [e1]; exact hs.immlt k hk)
    have happ : ∀ {xs ys : List AV} {us vs : List Value}, VHs ι imm w1 xs us → VHs ι imm w1 ys vs → VHs ι imm w1 (xs ++ ys) (us ++ vs) := by
      intro xs
      induction xs with
      | nil => intro ys us vs h h'; simp only [VHs] at h; subst h; exact h'
      | cons x xs ih => intro ys us vs h h'; obtain ⟨u, us', rfl, p1, p2⟩ := h; exact ⟨u, us' ++ vs, rfl, p1, ih p2 h'⟩
    have hNew : NewH ι imm w1 (Obj.cells (vsO ++ vsN ++ rest).toArray e) (.cells ((cs.drop k).take (n * re.size) ++ new)) := by
      refine ⟨_, _, rfl, ?_, CellsH.of_VHs (vs := vsO ++ vsN) (happ (VHs.grows gw _ _ o1) (VHs.grows gw _ _ g2)) fun i hi => ?_⟩
      · simp only [List.length_append, List.size_toArray, hlO, hlN]; omega
      · rw [Nat.zero_add, List.getElem?_toArray, List.getElem?_append_left hi]
    obtain ⟨ι', i1, i2, i3⟩ := hs1.new hUd hNew (.sl d 0 (n + m) re.size false)
    have hK := i3.kill (H := (Delta.mk (.sl d 0 (n + m) re.size false) [(d, .cells ((cs.drop k).take (n * re.size) ++ new))] [(b, none)]).H st.H) (fun x kk hx => by
      simp only [Delta.H, List.lookup] at hx ⊢
      by_cases hxd : x = d
      · subst hxd; simpa using hx
      · have c1 : (x == d) = false := by simpa using hxd
        simp only [c1] at hx ⊢
        by_cases hxb : x = b
        · subst hxb; simp at hx
        · have c2 : (x == b) = false := by simpa using hxb
          simpa only [c2] using hx)
    refine ⟨ι', imm, ?_⟩
    have hheap : (World.push w1 (Obj.cells (vsO ++ vsN ++ rest).toArray e)).heap[w1.heap.size]? = some (Obj.cells (vsO ++ vsN ++ rest).toArray e) := by
      show (w1.heap.push _)[_]? = _
      rw [Array.getElem?_push, if_pos rfl]
    have hfin := hK.put o.dst hdd (v := .sl d 0 (n + m) re.size false) (u := .slice (some ⟨w.heap.size, 0, none⟩) (n + m) nc) ⟨w1.heap.size, 0, nc, i1, by rw [e1], hnc, (fun h => (by cases h)), _, _, _, hheap, by
      simp only [List.size_toArray, List.length_append, hlO, hOl, hlN, hln, hrest, hzs]
      have : nc = n + m + (nc - (n + m)) := by omega
      rw [this, Nat.add_mul, Nat.add_mul]
      have : n + m + (nc - (n + m)) - (n + m) = nc - (n + m) := by omega
      rw [this]; omega⟩
    exact hfin
end ops
end Go.Am
