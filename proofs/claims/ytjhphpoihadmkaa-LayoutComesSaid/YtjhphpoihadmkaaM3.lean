import Derived.Test.YtjhphpoihadmkaaM2
/- An abstract machine over the kit's calls, part 17: append. No conditions. -/
namespace Go.Am
section ops
variable {E : Env} {T : Tab}

theorem growBy_le (need : Nat) : ∀ (k c : Nat), c ≤ 2 * need + 192 → Builtin.growBy need k c ≤ 2 * need + 192
  | 0, c, h => h
  | k + 1, c, h => by
    simp only [Builtin.growBy]
    split
    · exact h
    · exact growBy_le need k _ (by omega)
theorem nextcap_le {need cap : Nat} (h : cap < need) : Builtin.nextslicecap need cap ≤ 2 * need + 192 := by
  unfold Builtin.nextslicecap
  split
  · omega
  · split
    · omega
    · exact growBy_le need 4 cap (by omega)

/-- What an append does in the memory: it goes into the room behind, or into a row of its own. -/
theorem run_append (hT : TabOk E.P T) {t t2 : TypeId} {r re r2 : TyRow} (hr : T.lookup t = some r) {e : TypeId} (hdesc : r.desc = .slice e) (hre : T.lookup e = some re) (hr2 : T.lookup t2 = some r2) (hd2 : ∀ k, r2.desc ≠ .int k) {w : World} {ty : TypeId}
    {base : Option Addr} {n cap m : Nat} {y : Value} {old new : List Value} (hl : (Builtin.lenOf y).run E.P w = .ok m w) (hy : ∀ w' : World, (∀ x, w'.cell? x = w.cell? x) → (Builtin.firstCells re.size m y).run E.P w' = .ok (List.toArray new) w') (ho : ∀ w' : World, (∀ x, w'.cell? x = w.cell? x) → (Builtin.firstCells re.size n (.slice base n cap)).run E.P w' = .ok (List.toArray old) w')
    (hb : (2 * (n + m) + 192) * re.bytes ≤ 281474976710656) (hnm : n + m ≤ 9223372036854775807) :
    (n + m ≤ cap → ∃ s, (Builtin.append_ #[t, t2] ty #[.slice base n cap, y]).run E.P w = ((match base with | some a => storeCells (a.add (n * re.size)) new | none => pure () : Sem Unit) >>= fun _ => pure (.slice base s cap)).run E.P w ∧ s = n + m) ∧
    (cap < n + m → ∃ w1 nc rest, (Builtin.append_ #[t, t2] ty #[.slice base n cap, y]).run E.P w = .ok (.slice (some ⟨w.heap.size, 0, none⟩) (n + m) nc) (World.push w1 (.cells (List.toArray (old ++ new ++ rest)) e)) ∧ n + m ≤ nc ∧ (w1.heap = w.heap ∧ w1.os = w.os ∧ w1.tape = w.tape ∧ w1.output = w.output) ∧ rest.length = (nc - (n + m)) * re.zero.cells.size) := by
  have hz : (match r2.desc with | .int _ => true | _ => false) = false := by
    cases hd : r2.desc <;> first | rfl | exact absurd hd (hd2 _)
  obtain ⟨ri, g1, g2, g3, g4⟩ := run_typeInfo hT hre w (P := E.P)
  constructor
  · intro hle
    refine ⟨n + m, ?_, rfl⟩
    simp only [Builtin.append_, List.getElem?_toArray, List.getElem?_cons_zero, List.getElem?_cons_succ]
    rw [run_bind', run_underlying hT hr]
    simp only [hdesc, run_bind', run_sizeOf hT hre, run_underlying hT hr2, run_pure', Bool.false_eq_true, if_false, hl]
    rw [if_pos hle]
    simp only [run_bind', Bool.not_false, if_true, hy w (fun _ => rfl)]
    cases base with
    | none => rfl
    | some a => simp only [run_bind']; rfl
  · intro hlt
    have hnc := nextcap_le hlt
    simp only [Builtin.append_, List.getElem?_toArray, List.getElem?_cons_zero, List.getElem?_cons_succ]
    rw [run_bind', run_underlying hT hr]
    simp only [hdesc, run_bind', run_sizeOf hT hre, run_underlying hT hr2, run_pure', Bool.false_eq_true, if_false, hl]
    rw [if_neg (by omega)]
    have hmax : (IntKind.i64.max : Int) = 9223372036854775807 := by decide
    have c1 : ¬ ((((n + m : Nat) : Int) > IntKind.i64.max) ∧ (False ∨ ri.bytes = 0)) := by
      rintro ⟨h, _⟩
      rw [hmax] at h; omega
    have hroom : ∀ k w, (askRoom k).run E.P w = .ok () w := fun k w => by unfold askRoom; split <;> rfl
    have c2 : ¬ (Builtin.nextslicecap (n + m) cap * ri.bytes > 2 ^ 48) := by
      rw [g3]
      have : Builtin.nextslicecap (n + m) cap * re.bytes ≤ (2 * (n + m) + 192) * re.bytes := Nat.mul_le_mul_right _ hnc
      have e : (2 : Nat) ^ 48 = 281474976710656 := by decide
      rw [e]; omega
    simp only [run_bind', g1]
    simp only [Bool.false_eq_true, c1, if_false, run_bind', g1, c2, choose, Sem.run, Question.forced]
    obtain ⟨r2', k1, _, _, _⟩ := run_typeInfo hT hre { heap := w.heap, tape := w.tape, drawn := w.drawn + 1, os := w.os, output := w.output } (P := E.P)
    have hsame : ∀ x, World.cell? { heap := w.heap, tape := w.tape, drawn := w.drawn + 1, os := w.os, output := w.output } x = w.cell? x := fun _ => rfl
    simp only [k1, hroom, ho _ hsame, Bool.not_false, if_true, hy _ hsame, run_zeroValue hT hre, newRow, newObj, run_bind', Sem.run, run_pure']
    refine ⟨{ heap := w.heap, tape := w.tape, drawn := w.drawn + 1, os := w.os, output := w.output }, (Question.appendCap (n + m) cap e).cut (w.tape w.drawn (Question.appendCap (n + m) cap e)), (Builtin.zeroCells re.zero.cells ((Question.appendCap (n + m) cap e).cut (w.tape w.drawn (Question.appendCap (n + m) cap e)) - (n + m))).toList, ?_, ?_, ⟨rfl, rfl, rfl, rfl⟩, ?_⟩
    · simp only [World.push]
      have : ∀ z : Array Value, old.toArray ++ new.toArray ++ z = (old ++ new ++ z.toList).toArray := fun z => by simp
      rw [this]
    · simp only [Question.cut]; omega
    · simp [Builtin.zeroCells]

/-- A block of one's own, or what lies in it from a place on, under another name. -/
theorem SR.alias {ι : Nat → Option (Nat × Nat)} {imm : Nat → Prop} {st : St} {a : Act} {w : World} (h : SR E ι imm st a w) {b : Nat} {cs : List AV} (hb : st.H b = some (.cells cs)) {r z : Nat} (hi : ι b = some (r, z)) {d : Nat} (hd : st.U d = false) {o : Nat} {cs' : List AV}
    {c : Array Value} {e : TypeId} {f : Nat × Nat} (hc : w.heap[r]? = some (Obj.cells c e f)) (hle : z + o + cs'.length ≤ c.size) (hcs : CellsH ι imm w c cs' (z + o)) (v : AV) :
    ∃ ι', ι' d = some (r, z + o) ∧ Grows ι ι' imm imm w w ∧ SR E ι' imm ⟨st.S, (Delta.mk v [(d, .cells cs')] [(b, none)]).H st.H, (Delta.mk v [(d, .cells cs')] [(b, none)]).U st.U⟩ a w := by
  obtain ⟨c0, e0, f0, h1, h2, h3, h4, h5, h6⟩ := h.heap.cells hb hi
  rw [hc] at h1
  simp only [Option.some.injEq, Obj.cells.injEq] at h1
  obtain ⟨rfl, rfl, rfl⟩ := h1
  have hιd : ι d = none := by
    cases hi : ι d with
    | none => rfl
    | some x => rw [h.used d x hi] at hd; cases hd
  have hbd : b ≠ d := fun e => by rw [e, hιd] at hi; cases hi
  let ι' : Nat → Option (Nat × Nat) := fun x => if x = d then some (r, z + o) else ι x
  have hd' : ι' d = some (r, z + o) := by show (if d = d then _ else _) = _; rw [if_pos rfl]
  have hne : ∀ x, x ≠ d → ι' x = ι x := fun x hx => by show (if x = d then _ else _) = _; rw [if_neg hx]
  have hext : ∀ x y, ι x = some y → ι' x = some y := fun x y hx => by
    rw [hne x (fun e => by rw [e, hιd] at hx; cases hx)]; exact hx
  have g : Grows ι ι' imm imm w w := ⟨hext, .refl _ _, fun r c e f hr => ⟨c, f, hr, rfl⟩⟩
  have hH : ∀ x k, (Delta.mk v [(d, .cells cs')] [(b, none)]).H st.H x = some k → (x = d ∧ k = .cells cs') ∨ (x ≠ d ∧ x ≠ b ∧ st.H x = some k) := fun x k hk => by
    simp only [Delta.H, List.lookup] at hk
    by_cases hx : x = d
    · subst hx; simp only [beq_self_eq_true] at hk; exact .inl ⟨rfl, (Option.some.inj hk).symm⟩
    · have e1 : (x == d) = false := by simpa using hx
      simp only [e1] at hk
      by_cases hxb : x = b
      · subst hxb; simp only [beq_self_eq_true] at hk; cases hk
      · have e2 : (x == b) = false := by simpa using hxb
        simp only [e2] at hk
        exact .inr ⟨hx, hxb, hk⟩
  refine ⟨ι', hd', g, h.turn g rfl rfl rfl (Nat.le_refl _) (fun _ _ _ => rfl) ⟨fun x k hk => ?_, fun x1 x2 k1 k2 r1 z1 z2 hk1 hk2 hi1 hi2 => ?_⟩ (fun x y hx => ?_) (fun _ hk => .inl hk) h.immlt⟩
  · rcases hH x k hk with ⟨rfl, rfl⟩ | ⟨n1, _, hk⟩
    · exact ⟨r, z + o, hd', h5, h6, c, e, f, hc, hle, h3, hcs.grows g⟩
    · obtain ⟨r', z', q1, q2, q3, q4⟩ := h.heap.blk x k hk
      exact ⟨r', z', hext x _ q1, q2, q3, q4.grows g rfl⟩
  · have key : ∀ x k r1 z1, (Delta.mk v [(d, .cells cs')] [(b, none)]).H st.H x = some k → ι' x = some (r1, z1) → (x = d ∧ r1 = r) ∨ (x ≠ b ∧ st.H x = some k ∧ ι x = some (r1, z1)) := fun x k r1 z1 hk hi => by
      rcases hH x k hk with ⟨rfl, rfl⟩ | ⟨n1, n2, hk⟩
      · rw [hd'] at hi
        simp only [Option.some.injEq, Prod.mk.injEq] at hi
        exact .inl ⟨rfl, hi.1.symm⟩
      · rw [hne x n1] at hi
        exact .inr ⟨n2, hk, hi⟩
    rcases key x1 k1 r1 z1 hk1 hi1 with ⟨p1, p2⟩ | ⟨p1, p2, p3⟩ <;> rcases key x2 k2 r1 z2 hk2 hi2 with ⟨q1, q2⟩ | ⟨q1, q2, q3⟩
    · rw [p1, q1]
    · subst p2; exact absurd (h.heap.inj x2 b k2 _ r1 z2 z q2 hb q3 hi) q1
    · subst q2; exact absurd (h.heap.inj x1 b k1 _ r1 z1 z p2 hb p3 hi) p1
    · exact h.heap.inj x1 x2 k1 k2 r1 z1 z2 p2 q2 p3 q3
  · simp only [Delta.U, List.lookup, Bool.or_eq_true]
    by_cases hx' : x = d
    · subst hx'; left; simp
    · right; rw [hne x hx'] at hx; exact h.used x y hx

/-- A block is forgotten. -/
theorem SR.kill {ι : Nat → Option (Nat × Nat)} {imm : Nat → Prop} {st : St} {a : Act} {w : World} (h : SR E ι imm st a w) {H : Nat → Option Blk} (hH : ∀ x k, H x = some k → st.H x = some k) : SR E ι imm ⟨st.S, H, st.U⟩ a w :=
  { h with heap := ⟨fun b k hb => h.heap.blk b k (hH b k hb), fun b b' k k' r z z' hb hb' => h.heap.inj b b' k k' r z z' (hH b k hb) (hH b' k' hb')⟩, defers := h.defers, size := h.size, slot := h.slot, used := h.used, grow := h.grow, ext := h.ext, immM := h.immM, immlt := h.immlt }

theorem CellsH.app {ι : Nat → Option (Nat × Nat)} {imm : Nat → Prop} {w : World} {c : Array Value} : ∀ {xs ys : List AV} {o : Nat}, CellsH ι imm w c xs o → CellsH ι imm w c ys (o + xs.length) → CellsH ι imm w c (xs ++ ys) o
  | [], ys, o, _, h => h
  | x :: xs, ys, o, h, h' => by
    simp only [CellsH, List.cons_append] at h ⊢
    exact ⟨h.1, CellsH.app h.2 (by rw [List.length_cons] at h'; rw [show o + 1 + xs.length = o + (xs.length + 1) by omega]; exact h')⟩
theorem CellsH.undefs {ι : Nat → Option (Nat × Nat)} {imm : Nat → Prop} {w : World} {c : Array Value} : ∀ {k : Nat} {o : Nat}, o + k ≤ c.size → CellsH ι imm w c (List.replicate k AV.undef) o
  | 0, _, _ => trivial
  | k + 1, o, h => by
    rw [List.replicate_succ]
    refine ⟨⟨c[o]'(by omega), by simp [show o < c.size by omega], trivial⟩, CellsH.undefs (by omega)⟩

theorem setRange_tail {O N : List AV} {p j : Nat} (hO : O.length = p) (hN : N.length = j) : setRange (O ++ List.replicate j AV.undef) p N = O ++ N := by
  subst hO hN
  simp only [setRange, List.take_left]
  rw [List.drop_of_length_le (by simp), List.append_nil]

/-- An append to a row of one's own: it goes on under a new name. -/
theorem does_append_own (hT : TabOk E.P T) {o : Oper} {c : Call} {t t2 : TypeId} (ho : o.op = .call c) (hc : c.callee = .builtin .append) (hty : c.argTypes = #[t, t2]) {d : Nat} (hdst : o.dst = some d) (hd : d < E.n) {r re r2 : TyRow} (hr : T.lookup t = some r) {e : TypeId} (hdesc : r.desc = .slice e) (hre : T.lookup e = some re) (hr2 : T.lookup t2 = some r2) (hd2 : ∀ k, r2.desc ≠ .int k)
    {b k n : Nat} {tt : Bool} {cs : List AV} {y : AV} {H : Nat → Option Blk} {m : Nat} {hs2 : List (Nat × Blk)} {new : List AV} (hy : srcAV H re.size y = some (m, hs2, new)) (hln : new.length = m * re.size) (hkn : k + n * re.size ≤ cs.length) (hflat : new.all flatCell = true)
    (hb : (2 * (n + m) + 192) * re.bytes ≤ 281474976710656) (hnm : n + m ≤ 9223372036854775807) (hzs : re.zero.cells.size = re.size) :
    Does E o [.sl b k n re.size tt, y] ((b, .cells cs) :: hs2) { v := .sl d 0 (n + m) re.size false, new := [(d, .cells ((cs.drop k).take (n * re.size) ++ new))], wr := [(b, none)] } := by
  intro ι imm st a w Q hs hv hh hf
  have hUd : st.U d = false := hf (d, _) (List.mem_cons_self ..)
  have hvs := hs.evls hv
  have hops : o.op.operands.toList = c.args.toList := by rw [ho]; simp [Op.operands, Call.operands, hc]
  rw [hops] at hvs
  obtain ⟨v1, us1, he, hv1, hvs⟩ := hvs
  obtain ⟨v2, us2, he2, hv2, hvs⟩ := hvs
  simp only [VHs] at hvs
  subst hvs
  subst he2
  have hargs : c.args.map a.eval = #[v1, v2] := by apply Array.ext'; simpa using he
  simp only [VH] at hv1
  obtain ⟨q, z, cap, hi, rfl, hncap, _, cS, eS, fS, hS, hSz⟩ := hv1
  have hbk := hh _ (List.mem_cons_self ..)
  obtain ⟨cc, ee, f, h1, h2, h3, h4, h5, h6⟩ := hs.heap.cells hbk hi
  rw [h1] at hS
  simp only [Option.some.injEq, Obj.cells.injEq] at hS
  obtain ⟨rfl, rfl, rfl⟩ := hS
  obtain ⟨vsN, g1, g2, g3⟩ := run_src hs hy (fun x hx => hh x (List.mem_cons_of_mem _ hx)) hln hv2
  have hlN := g2.length
  have hO : CellsH ι imm w cc ((cs.drop k).take (n * re.size)) (z + k) := (h4.drop).take
  have hOl : ((cs.drop k).take (n * re.size)).length = n * re.size := by rw [List.length_take, List.length_drop]; omega
  obtain ⟨vsO, o1, o2⟩ := hO.vals
  have hlO := o1.length
  have hold : ∀ w' : World, (∀ x, w'.cell? x = w.cell? x) → (Builtin.firstCells re.size n (.slice (some ⟨q, z + k, none⟩) n cap)).run E.P w' = .ok (List.toArray vsO) w' := fun w' hw' => by
    have := run_loadCells (P := E.P) (w := w') (r := q) (o := z + k) vsO (fun i hi => by rw [hw', cell_of_heap h1, o2 i hi])
    rw [hlO, hOl] at this
    simpa [Builtin.firstCells] using this
  have hnew : ∀ w' : World, (∀ x, w'.cell? x = w.cell? x) → (Builtin.firstCells re.size m v2).run E.P w' = .ok (List.toArray vsN) w' := fun w' hw' => by
    have := g3 m (Nat.le_refl _) w' hw'
    rwa [List.take_of_length_le (by rw [hlN, hln]; exact Nat.le_refl _)] at this
  have hsing : ∀ v ∈ vsN, single v := VHs.singles _ _ g2 (flatCell_spec hflat)
  obtain ⟨inplace, grown⟩ := run_append hT hr hdesc hre hr2 hd2 (ty := o.type) (t := t) g1 hnew hold hb hnm
  have hexec : ∀ {u w'}, (Builtin.append_ #[t, t2] o.type #[.slice (some ⟨q, z + k, none⟩) n cap, v2]).run E.P w = .ok u w' → (execOp a.eval o).run E.P w = .ok (.value u) w' := fun {u w'} h => by
    simp only [execOp, ho, resolve, hc, run_bind', run_pure', invoke, builtin, hargs, hty, h]
  unfold Oper.wp
  have hdd : ∀ x, o.dst = some x → x < E.n := fun x hx => by rw [hdst] at hx; exact Option.some.inj hx ▸ hd
  by_cases hle : n + m ≤ cap
  · obtain ⟨s, hrun, rfl⟩ := inplace hle
    have hmul : (n + m) * re.size ≤ cap * re.size := Nat.mul_le_mul_right _ hle
    rw [Nat.add_mul] at hmul
    have hin : z + k + (((cs.drop k).take (n * re.size)) ++ List.replicate (m * re.size) AV.undef).length ≤ cc.size := by
      rw [List.length_append, hOl, List.length_replicate]; omega
    obtain ⟨ι', i1, i2, i3⟩ := hs.alias hbk hi hUd h1 hin (CellsH.app hO (CellsH.undefs (k := m * re.size) (by rw [hOl]; omega))) (.sl d 0 (n + m) re.size false)
    obtain ⟨w', h7, h8⟩ := run_storeCells (P := E.P) vsN (z + k + n * re.size) 0 h1 (by rw [hlN, hln]; omega) (fun o _ => h3 o) hsing
    simp only [add_none, run_bind', h7, run_pure'] at hrun
    rw [hexec hrun, Oper.upon_value]
    have hHd : (Delta.mk (.sl d 0 (n + m) re.size false) [(d, .cells ((cs.drop k).take (n * re.size) ++ List.replicate (m * re.size) AV.undef))] [(b, none)]).H st.H d = some (.cells ((cs.drop k).take (n * re.size) ++ List.replicate (m * re.size) AV.undef)) := by
      simp [Delta.H]
    have hset : setRange ((cs.drop k).take (n * re.size) ++ List.replicate (m * re.size) AV.undef) (n * re.size) new = (cs.drop k).take (n * re.size) ++ new := by
      exact setRange_tail hOl hln
    have g2' : VHs ι' imm w new vsN := VHs.grows i2 _ _ g2
    have hput := CellsH.put (k := n * re.size) (c' := putCells cc (z + k + n * re.size + 0) vsN) (CellsH.grows i2 (CellsH.app hO (CellsH.undefs (k := m * re.size) (by rw [hOl]; omega)))) g2' (by rw [List.length_append, hOl, List.length_replicate, hln]; exact Nat.le_refl _) (by rw [Nat.add_zero]) hin
    rw [hset] at hput
    have hsr := i3.write hHd i1 h1 h8 (putCells_size _ _ _) (by rw [List.length_append, hOl, hln]; rw [List.length_append, hOl, List.length_replicate] at hin; exact hin) hput (.sl d 0 (n + m) re.size false)
    refine ⟨ι', imm, ?_⟩
    have hfin := hsr.put o.dst hdd (v := .sl d 0 (n + m) re.size false) (u := .slice (some ⟨q, z + k, none⟩) (n + m) cap) ⟨q, z + k, cap, i1, by simp, hle, (fun h => (by cases h)), _, _, _, h8.row, by rw [putCells_size]; omega⟩
    have eH : (Delta.mk (.sl d 0 (n + m) re.size false) [] [(d, some (.cells ((cs.drop k).take (n * re.size) ++ new)))]).H ((Delta.mk (.sl d 0 (n + m) re.size false) [(d, .cells ((cs.drop k).take (n * re.size) ++ List.replicate (m * re.size) AV.undef))] [(b, none)]).H st.H) = (Delta.mk (.sl d 0 (n + m) re.size false) [(d, .cells ((cs.drop k).take (n * re.size) ++ new))] [(b, none)]).H st.H := by
      funext x
      simp only [Delta.H, List.lookup]
      by_cases hx : x = d
      · subst hx; simp
      · have : (x == d) = false := by simpa using hx
        simp only [this]
    have eU : (Delta.mk (.sl d 0 (n + m) re.size false) [] [(d, some (.cells ((cs.drop k).take (n * re.size) ++ new)))]).U ((Delta.mk (.sl d 0 (n + m) re.size false) [(d, .cells ((cs.drop k).take (n * re.size) ++ List.replicate (m * re.size) AV.undef))] [(b, none)]).U st.U) = (Delta.mk (.sl d 0 (n + m) re.size false) [(d, .cells ((cs.drop k).take (n * re.size) ++ new))] [(b, none)]).U st.U := by
      funext x
      simp only [Delta.U, List.lookup]
      by_cases hx : x = d
      · subst hx; simp
      · have : (x == d) = false := by simpa using hx
        simp [this]
    simp only [eH, eU] at hfin
    exact hfin
  · obtain ⟨w1, nc, rest, hrun, hnc, ⟨e1, e2, e3, e4⟩, hrest⟩ := grown (by omega)
    rw [hexec hrun, Oper.upon_value]
    have gw : Grows ι ι imm imm w w1 := ⟨fun _ _ h => h, ⟨fun _ h => h, fun k _ => by rw [e1]⟩, fun r' c1 e1' f1 hr' => ⟨c1, f1, by rw [e1]; exact hr', rfl⟩⟩
    have hs1 : SR E ι imm ⟨st.S, st.H, st.U⟩ a w1 := hs.turn gw e2 e3 e4 (by rw [e1]; exact Nat.le_refl _) (fun k _ _ => by rw [e1]) ⟨fun b' k' hb' => by
      obtain ⟨r', z', p1, p2, p3, p4⟩ := hs.heap.blk b' k' hb'
      exact ⟨r', z', p1, p2, p3, p4.grows gw (by rw [e1])⟩, hs.heap.inj⟩ hs.used (fun _ hk => .inl hk) (fun k hk => by rw [e1]; exact hs.immlt k hk)
    have happ : ∀ {xs ys : List AV} {us vs : List Value}, VHs ι imm w1 xs us → VHs ι imm w1 ys vs → VHs ι imm w1 (xs ++ ys) (us ++ vs) := by
      intro xs
      induction xs with
      | nil => intro ys us vs h h'; simp only [VHs] at h; subst h; exact h'
      | cons x xs ih => intro ys us vs h h'; obtain ⟨u, us', rfl, p1, p2⟩ := h; exact ⟨u, us' ++ vs, rfl, p1, ih p2 h'⟩
    have hNew : NewH ι imm w1 (Obj.cells (vsO ++ vsN ++ rest).toArray e) (.cells ((cs.drop k).take (n * re.size) ++ new)) := by
      refine ⟨_, _, rfl, ?_, CellsH.of_VHs (vs := vsO ++ vsN) (happ (VHs.grows gw _ _ o1) (VHs.grows gw _ _ g2)) fun i hi => ?_⟩
      · simp only [List.length_append, List.size_toArray, hlO, hlN]; omega
      · rw [Nat.zero_add, List.getElem?_toArray, List.getElem?_append_left hi]
    obtain ⟨ι', i1, i2, i3⟩ := hs1.new hUd hNew (.sl d 0 (n + m) re.size false)
    have hK := i3.kill (H := (Delta.mk (.sl d 0 (n + m) re.size false) [(d, .cells ((cs.drop k).take (n * re.size) ++ new))] [(b, none)]).H st.H) (fun x kk hx => by
      simp only [Delta.H, List.lookup] at hx ⊢
      by_cases hxd : x = d
      · subst hxd; simpa using hx
      · have c1 : (x == d) = false := by simpa using hxd
        simp only [c1] at hx ⊢
        by_cases hxb : x = b
        · subst hxb; simp at hx
        · have c2 : (x == b) = false := by simpa using hxb
          simpa only [c2] using hx)
    refine ⟨ι', imm, ?_⟩
    have hheap : (World.push w1 (Obj.cells (vsO ++ vsN ++ rest).toArray e)).heap[w1.heap.size]? = some (Obj.cells (vsO ++ vsN ++ rest).toArray e) := by
      show (w1.heap.push _)[_]? = _
      rw [Array.getElem?_push, if_pos rfl]
    have hfin := hK.put o.dst hdd (v := .sl d 0 (n + m) re.size false) (u := .slice (some ⟨w.heap.size, 0, none⟩) (n + m) nc) ⟨w1.heap.size, 0, nc, i1, by rw [e1], hnc, (fun h => (by cases h)), _, _, _, hheap, by
      simp only [List.size_toArray, List.length_append, hlO, hOl, hlN, hln, hrest, hzs]
      have : nc = n + m + (nc - (n + m)) := by omega
      rw [this, Nat.add_mul, Nat.add_mul]
      have : n + m + (nc - (n + m)) - (n + m) = nc - (n + m) := by omega
      rw [this]; omega⟩
    exact hfin
end ops
end Go.Am

/- An abstract machine over the kit's calls, part 18: more rules: an element by value, copy, rows that will not change; slices of numbers told by lists. No conditions. -/
namespace Go.Am
section steps
variable {E : Env} {T : Tab} {cq : Oper → Cls} {n : Nat} {ops : Array Oper}

/-- An operation whose outcome is told in other words. -/
theorem rvc_primv (C : Cx E T n) {d : Option Nat} {op : Op} {ty : TypeId} {pos : String} {af : Array Edge} {rest : List Oper} {st : St} {K : St → Prop} {xs : List Operand} {vs : List AV} {p : Prop} {hs : List (Nat × Blk)} {δ : Delta} (v' : AV) (h1 : dstB n ⟨d, op, ty, pos, af, none⟩ = true)
    (hx : op.operands.toList = xs) (h2 : evls st.S xs = some vs) (h4 : prim T ⟨d, op, ty, pos, af, none⟩ vs st.H = some (p, hs, δ)) (h5 : p) (h6 : freshB st.U δ = true) (hv : δ.v = v') (h7 : rvc E cq n ops rest (st.after d { δ with v := v' }) K) (h8 : footB (clsOf cq ⟨d, op, ty, pos, af, none⟩) hs δ = true := by rfl) :
    rvc E cq n ops (⟨d, op, ty, pos, af, none⟩ :: rest) st K := by
  subst hv
  exact rvc_prim C h1 hx h2 h4 h5 h6 h7 h8

theorem rvc_index (C : Cx E T n) {d : Option Nat} {t : TypeId} {x y : Operand} {ty : TypeId} {pos : String} {af : Array Edge} {rest : List Oper} {st : St} {K : St → Prop} {cs : List AV} {kk : IntKind} {i : Int} {r re : TyRow} {m e : Nat} {v : AV} (h1 : dstB n ⟨d, .index t x y, ty, pos, af, none⟩ = true)
    (h2 : evls st.S [x, y] = some [.agg cs, .pv (.lit (.int kk i))]) (hr : T.lookup t = some r) (hdesc : r.desc = .array m e) (hre : T.lookup e = some re) (hra : isAggD re.desc = false) (hi : 0 ≤ i ∧ i < m) (h4 : cs[i.toNat * re.size]? = some v) (h7 : rvc E cq n ops rest (st.after d { v := v }) K) (h8 : footB (clsOf cq ⟨d, .index t x y, ty, pos, af, none⟩) [] { v := v } = true := by rfl) :
    rvc E cq n ops (⟨d, .index t x y, ty, pos, af, none⟩ :: rest) st K := by
  refine rvc_prim C (p := 0 ≤ i ∧ i < m) (hs := []) (δ := { v := v }) h1 rfl h2 ?_ hi rfl h7 h8
  have : partV re cs (i.toNat * re.size) = some v := by unfold partV; rw [hra]; simpa using h4
  simp only [prim, hr, idxAV, hdesc, hre, this]

/-- An array out of cells that do not change. -/
theorem rvc_loadArr (C : Cx E T n) {d : Option Nat} {t : TypeId} {x : Operand} {ty : TypeId} {pos : String} {af : Array Edge} {rest : List Oper} {st : St} {K : St → Prop} {ps : List PV} {r : TyRow} (cs : List AV) (h1 : dstB n ⟨d, .load t x, ty, pos, af, none⟩ = true)
    (h2 : evl st.S x = some (.rp ps)) (hr : T.lookup t = some r) (hra : isAggD r.desc = true) (h3 : ps.map .pv = cs) (h4 : cs.length = r.size) (h5 : 0 < r.size) (h7 : rvc E cq n ops rest (st.after d { v := .agg cs }) K) (h8 : footB (clsOf cq ⟨d, .load t x, ty, pos, af, none⟩) [] { v := .agg cs } = true := by rfl) : rvc E cq n ops (⟨d, .load t x, ty, pos, af, none⟩ :: rest) st K := by
  subst h3
  refine rvc_prim C (p := True) (hs := []) (δ := { v := .agg (ps.map .pv) }) h1 rfl (vs := [.rp ps]) ?_ ?_ trivial rfl h7 h8
  · show evls st.S [x] = _
    simp only [evls, h2]
  · have hne : PV.isNe ps = true := by
      cases ps with
      | nil => simp at h4; omega
      | cons p ps => rfl
    simp only [prim, primLoad, hr, hne, if_true, readAV, hra]
    rw [if_pos (by omega), ← h4, List.take_length]

theorem rvc_copy (C : Cx E T n) {d : Option Nat} {c : Call} {t t2 : TypeId} {ty : TypeId} {pos : String} {af : Array Edge} {rest : List Oper} {st : St} {K : St → Prop} (hc : c.callee = .builtin .copy) (hty : c.argTypes = #[t, t2]) (h1 : dstB n ⟨d, .call c, ty, pos, af, none⟩ = true) {r re : TyRow} (hr : T.lookup t = some r) {e : TypeId} (hdesc : r.desc = .slice e) (hre : T.lookup e = some re)
    {b k m : Nat} {tt : Bool} {cs : List AV} {f : Option Bool} {m' : Nat} {ps : List PV} (hv : evls st.S c.args.toList = some [.sl b k m re.size tt, .pv (.sl f m' ps)]) (hb : st.H b = some (.cells cs)) (hlen : ps.length = m' * re.size) (hfit : k + (min m' m) * re.size ≤ cs.length) (hflat : ((ps.map AV.pv).take ((min m' m) * re.size)).all flatCell = true)
    (h7 : rvc E cq n ops rest (st.after d { v := .pv (.lit (.int .i64 ((min m' m : Nat) : Int))), wr := [(b, some (.cells (setRange cs k ((ps.map AV.pv).take ((min m' m) * re.size)))))] }) K) (hcl : clsOf cq ⟨d, .call c, ty, pos, af, none⟩ = .writer := by rfl) : rvc E cq n ops (⟨d, .call c, ty, pos, af, none⟩ :: rest) st K := by
  simp only [rvc]
  have hd : ∀ x, d = some x → x < E.n := fun x e => by
    simp only [dstB, e, decide_eq_true_eq] at h1
    exact C.n ▸ h1
  have hdo := does_copy C.tab (o := ⟨d, .call c, ty, pos, af, none⟩) rfl hc hty hd hr hdesc hre (b := b) (k := k) (n := m) (tt := tt) (cs := cs) (y := .pv (.sl f m' ps)) (H := st.H) (m := m') (hd' := []) (ys := ps.map AV.pv) rfl (by simpa using hlen) hfit hflat
  have hops : (Op.operands (.call c)).toList = c.args.toList := by simp [Op.operands, Call.operands, hc]
  refine ⟨h1, _, _, _, { vals := ?_, deps := ?_, fresh := ?_, does := hdo, reach := ?_, inV := rfl, inN := ?_, inW := ?_, wr := ?_, pure := fun h => ?_, quiet := fun h => ?_, foot := by rw [hcl]; rfl }, h7⟩
  · show evls st.S (Op.operands (.call c)).toList = _
    rw [hops]; exact hv
  · intro x hx; simp only [List.mem_singleton] at hx; subst hx; exact hb
  · intro x hx; cases hx
  · exact reach_ptr fun U => .inl rfl
  · intro x hx; cases hx
  · intro x hx k' hk
    simp only [List.mem_singleton] at hx
    subst hx
    simp only [Option.some.injEq] at hk
    subst hk
    simp only [Blk.within]
    refine within_setRange ?_ ?_
    · refine AV.withinL_mono (U := fun b' => refs [.sl b k m re.size tt, .pv (.sl f m' ps)] [(b, .cells cs)] b') (fun b hb => by simp [hb]) cs ?_
      exact within_self_blk [.sl b k m re.size tt, .pv (.sl f m' ps)] [(b, .cells cs)] (b, .cells cs) (List.mem_singleton.2 rfl)
    · exact within_sub (within_pvs _ ps) fun x hx => List.mem_of_mem_take hx
  · intro x hx
    simp only [List.mem_singleton] at hx
    subst hx
    simp [refs, AV.withinL, AV.within]
  · rw [hcl] at h; cases h
  · rw [hcl] at h; cases h

theorem Move.of_frozen {d : Option Nat} {op : Op} {ty : TypeId} {pos : String} {af : Array Edge} {g : Option (Nat × Bool)} {st : St} {vs : List AV} {v : PV} (hd : Does E ⟨d, op, ty, pos, af, g⟩ vs [] { v := .pv v }) (h2 : evls st.S op.operands.toList = some vs) (c : Cls) : Move E c ⟨d, op, ty, pos, af, g⟩ st vs [] { v := .pv v } :=
  { vals := h2, deps := fun _ h => (by cases h), fresh := fun _ h => (by cases h), does := hd, reach := rfl, inV := rfl, inN := fun _ h => (by cases h), inW := fun _ h => (by cases h), wr := fun _ h => (by cases h), pure := fun _ => ⟨rfl, rfl, rfl⟩, quiet := fun _ => rfl, foot := by cases c <;> rfl }

/-- A new row of zeros that will not change. -/
theorem rvc_makeSliceF (C : Cx E T n) {d : Option Nat} {t : TypeId} {x y : Operand} {ty : TypeId} {pos : String} {af : Array Edge} {rest : List Oper} {st : St} {K : St → Prop} {k k' : IntKind} {len cap : Int} {r re : TyRow} {e : TypeId} (ps : List PV) (h1 : dstB n ⟨d, .makeSlice t x y, ty, pos, af, none⟩ = true)
    (h2 : evls st.S [x, y] = some [.pv (.lit (.int k len)), .pv (.lit (.int k' cap))]) (hr : T.lookup t = some r) (hdesc : r.desc = .slice e) (hre : T.lookup e = some re) (hb : 0 ≤ len ∧ len ≤ cap ∧ cap ≤ 140737488355328 ∧ re.bytes * cap ≤ 140737488355328) (hps : zeroAV re.zero.cells (cap.toNat * re.size) = ps.map .pv)
    (h7 : rvc E cq n ops rest (st.after d { v := .pv (.sl (some false) len.toNat ps) }) K) : rvc E cq n ops (⟨d, .makeSlice t x y, ty, pos, af, none⟩ :: rest) st K := by
  simp only [rvc]
  have hd : ∀ x, d = some x → x < E.n := fun x e => by
    simp only [dstB, e, decide_eq_true_eq] at h1
    exact C.n ▸ h1
  have hm := makes_makeSlice C.tab (E := E) (o := ⟨d, .makeSlice t x y, ty, pos, af, none⟩) (x := x) (y := y) rfl hr hdesc hre (k := k) (k' := k') hb.1 hb.2.1 hb.2.2.1 hb.2.2.2
  rw [hps] at hm
  exact ⟨h1, _, _, _, Move.of_frozen (hm.frozen hd) h2 _, h7⟩
end steps

/-- Two texts with a state between them. -/
theorem Awp.seq_mid {E : Env} {x y : Code} {st : St} {Q : Exit → St → Prop} (S : List (Nat × AV)) (H : List (Nat × Blk)) (U : List Nat) (h1 : Awp E x st fun e st' => match e with | .normal => Weaker st' S H U E.I | e => Q e st') (h2 : Awp E y (mkSt S H U) Q) : Awp E (.seq x y) st Q :=
  Awp.seq (h1.mono fun e st' hq => by
    cases e <;> first | exact hq | exact Awp.weaken hq h2)

/-! ### Slices of numbers, told by lists -/
def pI (k : IntKind) (D : List Int) : List PV := D.map fun x => .lit (.int k x)
def sI (f : Option Bool) (k : IntKind) (D : List Int) : AV := .pv (.sl f D.length (pI k D))
theorem pI_len (k : IntKind) (D : List Int) : (pI k D).length = D.length := by simp [pI]
theorem pI_pv (k : IntKind) (D : List Int) : (pI k D).map AV.pv = cI k D := by simp [pI, cI]
theorem pI_get {k : IntKind} {D : List Int} {i : Nat} (h : i < D.length) : (pI k D)[i]? = some (.lit (.int k (D.getD i 0))) := by simp [pI, h]
theorem sI_cut {f : Option Bool} {k : IntKind} {D : List Int} (l h : Nat) (hl : l ≤ h) (hh : h ≤ D.length) {a b s : Nat} (ha : a = h - l) (hb : b = l * s) (hs : s = 1) : AV.pv (.sl f a (((pI k D).drop b).take (a * s))) = sI f k ((D.drop l).take (h - l)) := by
  subst hs ha hb
  simp only [sI, pI, List.length_take, List.length_drop, List.map_take, List.map_drop, Nat.mul_one]
  rw [Nat.min_eq_left (by omega)]
/-- The first cells of a slice, as an array. -/
theorem cI_take {k : IntKind} {D : List Int} {m : Nat} (h : m ≤ D.length) : cI k (D.take m) = cI k (tb m fun t => D.getD t 0) := by
  congr 1
  apply List.ext_getElem?
  intro j
  by_cases hj : j < m
  · rw [List.getElem?_take, if_pos hj, tb_get hj]; simp [show j < D.length by omega]
  · rw [List.getElem?_take, if_neg hj, List.getElem?_eq_none (by rw [tb_len]; omega)]
theorem cI_copy {k : IntKind} {m : Nat} {f : Nat → Int} {R : List Int} {j : Nat} (h1 : j ≤ R.length) (h2 : j ≤ m) : setRange (cI k (tb m f)) 0 ((cI k R).take j) = cI k (tb m fun t => if t < j then R.getD t 0 else f t) := by
  have hl : ((cI k R).take j).length = j := by rw [List.length_take, cI_len]; omega
  simp only [setRange, List.take_zero, List.nil_append, hl, Nat.zero_add]
  rw [show (cI k R).take j = cI k (R.take j) by simp [cI, List.map_take], show (cI k (tb m f)).drop j = cI k ((tb m f).drop j) by simp [cI, List.map_drop], show cI k (R.take j) ++ cI k ((tb m f).drop j) = cI k (R.take j ++ (tb m f).drop j) by simp [cI]]
  congr 1
  apply List.ext_getElem?
  intro i
  have hl' : (R.take j).length = j := by rw [List.length_take]; omega
  by_cases hi : i < j
  · rw [List.getElem?_append_left (by omega), List.getElem?_take, if_pos hi, tb_get (by omega), if_pos hi]
    simp [show i < R.length by omega]
  · rw [List.getElem?_append_right (by omega), hl', List.getElem?_drop, show j + (i - j) = i by omega]
    by_cases hm : i < m
    · rw [tb_get hm, tb_get hm, if_neg hi]
    · rw [List.getElem?_eq_none (by rw [tb_len]; omega), List.getElem?_eq_none (by rw [tb_len]; omega)]
theorem flat_take (k : IntKind) (D : List Int) (j : Nat) : ((cI k D).take j).all flatCell = true := by
  rw [List.all_eq_true]
  intro x hx
  have := List.mem_of_mem_take hx
  simp only [cI, List.mem_map] at this
  obtain ⟨y, _, rfl⟩ := this
  rfl
theorem flat_cI (k : IntKind) (D : List Int) : (cI k D).all flatCell = true := by
  simp [cI, flatCell]
/-! ### Arrays of numbers compared -/
def eqI (m : Nat) (f g : Nat → Int) : Bool := (List.range m).all fun i => f i == g i
theorem eqI_iff {m : Nat} {f g : Nat → Int} : eqI m f g = true ↔ tb m f = tb m g := by
  simp only [eqI, List.all_eq_true, List.mem_range, beq_iff_eq]
  refine ⟨fun h => tb_congr h, fun h i hi => ?_⟩
  have := congrArg (fun l => l[i]?) h
  simpa [tb_get hi] using this
theorem eqIs_ints {T : Tab} {d : Nat} {re : TyRow} {k k' : IntKind} (hre : re.desc = .int k') (hsz : re.size = 1) {m : Nat} {f g : Nat → Int} : ∀ (l : List Nat), (∀ i ∈ l, i < m) → eqIs (eqAV T (d + 1)) re (cI k (tb m f)) (cI k (tb m g)) l = some (l.all fun i => f i == g i)
  | [], _ => rfl
  | i :: l, h => by
    have hi := h i (List.mem_cons_self ..)
    have p : ∀ f, partV re (cI k (tb m f)) (i * re.size) = some (.pv (.lit (.int k (f i)))) := fun f => by
      unfold partV
      rw [hre, hsz]
      have := cI_at (k := k) (f := f) i rfl hi
      simpa [isAggD] using this
    have e : eqAV T (d + 1) re (.pv (.lit (.int k (f i)))) (.pv (.lit (.int k (g i)))) = some (f i == g i) := by
      unfold eqAV
      rw [hre]
      simp [eqFlat, kindFits, eqCell]
    simp only [eqIs, p, e, eqIs_ints hre hsz l fun j hj => h j (List.mem_cons_of_mem _ hj), andO, List.all_cons]

theorem prim_eqI {T : Tab} {d : Option Nat} {t t' : TypeId} {x y : Operand} {ty : TypeId} {pos : String} {af : Array Edge} {g : Option (Nat × Bool)} {H : Nat → Option Blk} {r re : TyRow} {m e : Nat} {k k' : IntKind} (hr : T.lookup t = some r) (hdesc : r.desc = .array m e) (hre : T.lookup e = some re) (hred : re.desc = .int k') (hsz : re.size = 1) (hq : r.eq = true) {f h : Nat → Int} :
    prim T ⟨d, .binOp .eql t x y t', ty, pos, af, g⟩ [.agg (cI k (tb m f)), .agg (cI k (tb m h))] H = some (True, [], { v := .pv (.lit (.bool (eqI m f h))) }) := by
  have : eqAV T 10000 r (.agg (cI k (tb m f))) (.agg (cI k (tb m h))) = some (eqI m f h) := by
    unfold eqAV
    rw [hdesc]
    simp only [hre]
    exact eqIs_ints hred hsz (List.range m) fun i hi => List.mem_range.1 hi
  simp only [prim, primBin, hr, binAV, eqAgg, hq, if_true, this]
theorem prim_neI {T : Tab} {d : Option Nat} {t t' : TypeId} {x y : Operand} {ty : TypeId} {pos : String} {af : Array Edge} {g : Option (Nat × Bool)} {H : Nat → Option Blk} {r re : TyRow} {m e : Nat} {k k' : IntKind} (hr : T.lookup t = some r) (hdesc : r.desc = .array m e) (hre : T.lookup e = some re) (hred : re.desc = .int k') (hsz : re.size = 1) (hq : r.eq = true) {f h : Nat → Int} :
    prim T ⟨d, .binOp .neq t x y t', ty, pos, af, g⟩ [.agg (cI k (tb m f)), .agg (cI k (tb m h))] H = some (True, [], { v := .pv (.lit (.bool !(eqI m f h))) }) := by
  have : eqAV T 10000 r (.agg (cI k (tb m f))) (.agg (cI k (tb m h))) = some (eqI m f h) := by
    unfold eqAV
    rw [hdesc]
    simp only [hre]
    exact eqIs_ints hred hsz (List.range m) fun i hi => List.mem_range.1 hi
  simp only [prim, primBin, hr, binAV, eqAgg, hq, if_true, this]
end Go.Am

/- An abstract machine over the kit's calls, part 20: variables that are never written again. No conditions. -/
namespace Go.Am
section steps
variable {E : Env} {T : Tab} {cq : Oper → Cls} {n : Nat} {ops : Array Oper}

theorem makes_box {o : Oper} {t : TypeId} {x : Operand} (ho : o.op = .box t x) {u : AV} {cs : List AV} (hc : cellsOf u = some cs) : Makes E o [u] [] (fun d => .ptr d 0) (.cells cs) := by
  intro ι imm st a w hs hv _
  rw [ho] at hv
  simp only [Op.operands, List.map_cons, List.map_nil] at hv
  have hv := hv.one
  have hcs := cellsOf_holds hc hv (fun c e => by subst e; simp only [VH, PH] at hv; simp [flatB] at hv)
  refine ⟨.cells (a.eval x).cells t, .pointer (some ⟨w.heap.size, 0, none⟩), ?_, ⟨_, _, rfl, ?_, ?_⟩, fun d ι' h => ⟨_, _, h, rfl⟩⟩
  · simp only [execOp, ho, Instr.box, newVar, newRow, newObj, run_bind', Sem.run, run_pure']
    rfl
  · have := hcs.length; simp only [Array.length_toList] at this; omega
  · exact CellsH.of_VHs hcs fun i _ => by simp

/-- A new variable that will not change. -/
theorem Makes.frozenPtr {o : Oper} {vs : List AV} {hs : List (Nat × Blk)} {ps : List PV} (h : Makes E o vs hs (fun d => .ptr d 0) (.cells (ps.map .pv))) (hd : ∀ d, o.dst = some d → d < E.n) : Does E o vs hs { v := .rp ps } := by
  intro ι imm st a w Q hs' hv hh _
  obtain ⟨O, u, h1, ⟨c, e, rfl, h2, h2'⟩, h3⟩ := h ι imm st a w hs' (hs'.evls hv) hh
  unfold Oper.wp
  rw [h1, Oper.upon_value]
  have hheap : ∀ q, q < w.heap.size → (World.push w (.cells c e (0, 0))).heap[q]? = w.heap[q]? := fun q hq => by
    show (w.heap.push _)[q]? = _
    rw [Array.getElem?_push, if_neg (by omega)]
  have hnew : (World.push w (.cells c e (0, 0))).heap[w.heap.size]? = some (.cells c e (0, 0)) := by
    show (w.heap.push _)[_]? = _
    rw [Array.getElem?_push, if_pos rfl]
  have hold : ∀ {k : Nat} {x : Obj}, w.heap[k]? = some x → k < w.heap.size := fun {k x} hk => by
    rcases Nat.lt_or_ge k w.heap.size with h' | h'
    · exact h'
    · rw [Array.getElem?_eq_none h'] at hk; cases hk
  let imm' : Nat → Prop := fun k => imm k ∨ k = w.heap.size
  have st' : Stays imm imm' w (World.push w (.cells c e (0, 0))) := ⟨fun _ hk => .inl hk, fun q hq => hheap q (hs'.immlt q hq)⟩
  have g : Grows ι ι imm imm' w (World.push w (.cells c e (0, 0))) := ⟨fun _ _ h => h, st', fun r c f f2 hr => ⟨c, f2, (hheap r (hold hr)).trans hr, rfl⟩⟩
  have hblk : ∀ {b k r z}, st.H b = some k → ι b = some (r, z) → r < w.heap.size := fun {b q r z} hb hi => by
    obtain ⟨r', z', h1, _, _, h4⟩ := hs'.heap.blk b q hb
    rw [hi] at h1
    simp only [Option.some.injEq, Prod.mk.injEq] at h1
    obtain ⟨rfl, rfl⟩ := h1
    cases q with
    | cells cs => obtain ⟨c, e, f, h1, _⟩ := h4; exact hold h1
    | map es => obtain ⟨c, q, _, h2, _⟩ := h4; exact hold h2
  have hsr : SR E ι imm' ⟨st.S, st.H, st.U⟩ a (World.push w (.cells c e (0, 0))) := by
    refine hs'.turn g rfl rfl rfl (by show _ ≤ (w.heap.push _).size; simp) (fun q hq _ => hheap q hq) ⟨fun b q hb => ?_, fun b b' k k' r z z' hb hb' hi hi' => hs'.heap.inj b b' k k' r z z' hb hb' hi hi'⟩ (fun b x hx => hs'.used b x hx) (fun k hk => ?_) (fun k hk => ?_)
    · obtain ⟨r, z, h1, h2, h3, h4⟩ := hs'.heap.blk b q hb
      have hr := hblk hb h1
      exact ⟨r, z, h1, fun hi => hi.elim h2 fun e => by omega, h3, h4.grows g (hheap r hr)⟩
    · rcases hk with hk | rfl
      · exact .inl hk
      · exact .inr (.inr hs'.ext.size)
    · show k < (w.heap.push _).size
      rw [Array.size_push]
      rcases hk with hk | rfl
      · have := hs'.immlt k hk; omega
      · omega
  refine ⟨ι, imm', hsr.put o.dst hd ?_⟩
  obtain ⟨r, z, hi, rfl⟩ := h3 0 (fun _ => some (w.heap.size, 0)) rfl
  simp only [Option.some.injEq, Prod.mk.injEq] at hi
  obtain ⟨rfl, rfl⟩ := hi
  simp only [VH]
  refine ⟨_, rfl, fun _ => ⟨rfl, .inr rfl, PHs.of_cells st' (fun o => ?_) h2'⟩⟩
  simp [cell_of_heap hnew]

theorem rvc_boxF (C : Cx E T n) {d : Option Nat} {t : TypeId} {x : Operand} {ty : TypeId} {pos : String} {af : Array Edge} {rest : List Oper} {st : St} {K : St → Prop} {cs : List AV} (ps : List PV) (h1 : dstB n ⟨d, .box t x, ty, pos, af, none⟩ = true)
    (h2 : evls st.S [x] = some [.agg cs]) (hps : cs = ps.map .pv) (h7 : rvc E cq n ops rest (st.after d { v := .rp ps }) K) : rvc E cq n ops (⟨d, .box t x, ty, pos, af, none⟩ :: rest) st K := by
  simp only [rvc]
  have hd : ∀ x, d = some x → x < E.n := fun x e => by
    simp only [dstB, e, decide_eq_true_eq] at h1
    exact C.n ▸ h1
  have hm := makes_box (E := E) (o := ⟨d, .box t x, ty, pos, af, none⟩) (t := t) (x := x) rfl (u := .agg cs) (cs := cs) rfl
  subst hps
  exact ⟨h1, _, _, _, { vals := h2, deps := fun _ h => (by cases h), fresh := fun _ h => (by cases h), does := hm.frozenPtr hd, reach := rfl, inV := rfl, inN := fun _ h => (by cases h), inW := fun _ h => (by cases h), wr := fun _ h => (by cases h), pure := fun _ => ⟨rfl, rfl, rfl⟩, quiet := fun _ => rfl, foot := by cases clsOf cq ⟨d, .box t x, ty, pos, af, none⟩ <;> rfl }, h7⟩
end steps
end Go.Am

/- An abstract machine over the kit's calls, part 21: append as a rule; rows that will not change any more. No conditions. -/
namespace Go.Am
section steps
variable {E : Env} {T : Tab} {cq : Oper → Cls} {n : Nat} {ops : Array Oper}

/-- An append of unchanging elements to a row of one's own. -/
theorem rvc_append (C : Cx E T n) {d : Nat} {c : Call} {t t2 : TypeId} {ty : TypeId} {pos : String} {af : Array Edge} {rest : List Oper} {st : St} {K : St → Prop} (hc : c.callee = .builtin .append) (hty : c.argTypes = #[t, t2]) (h1 : dstB n ⟨some d, .call c, ty, pos, af, none⟩ = true) (hU : st.U d = false)
    {r re r2 : TyRow} (hr : T.lookup t = some r) {e : TypeId} (hdesc : r.desc = .slice e) (hre : T.lookup e = some re) (hr2 : T.lookup t2 = some r2) (hd2 : ∀ k, r2.desc ≠ .int k) (hzs : re.zero.cells.size = re.size)
    {b k l m : Nat} {tt : Bool} {cs : List AV} {f : Option Bool} {ps : List PV} (hv : evls st.S c.args.toList = some [.sl b k l re.size tt, .pv (.sl f m ps)]) (hb : st.H b = some (.cells cs)) (hln : ps.length = m * re.size) (hkn : k + l * re.size ≤ cs.length) (hflat : (ps.map AV.pv).all flatCell = true)
    (hbig : (2 * (l + m) + 192) * re.bytes ≤ 281474976710656) (hnm : l + m ≤ 9223372036854775807)
    (h7 : rvc E cq n ops rest (st.after (some d) { v := .sl d 0 (l + m) re.size false, new := [(d, .cells ((cs.drop k).take (l * re.size) ++ ps.map .pv))], wr := [(b, none)] }) K) (hcl : clsOf cq ⟨some d, .call c, ty, pos, af, none⟩ = .writer := by rfl) :
    rvc E cq n ops (⟨some d, .call c, ty, pos, af, none⟩ :: rest) st K := by
  simp only [rvc]
  have hd : d < E.n := by
    simp only [dstB, decide_eq_true_eq] at h1
    exact C.n ▸ h1
  have hdo := does_append_own C.tab (o := ⟨some d, .call c, ty, pos, af, none⟩) rfl hc hty rfl hd hr hdesc hre hr2 hd2 (b := b) (k := k) (n := l) (tt := tt) (cs := cs) (y := .pv (.sl f m ps)) (H := st.H) (m := m) (hs2 := []) (new := ps.map AV.pv) rfl (by simpa using hln) hkn hflat hbig hnm hzs
  have hops : (Op.operands (.call c)).toList = c.args.toList := by simp [Op.operands, Call.operands, hc]
  have hin : AV.withinL (fun x => (([(d, Blk.cells ((cs.drop k).take (l * re.size) ++ ps.map .pv))] : List (Nat × Blk)).lookup x).isSome || refs [.sl b k l re.size tt, .pv (.sl f m ps)] [(b, .cells cs)] x) ((cs.drop k).take (l * re.size) ++ ps.map .pv) = true := by
    refine AV.withinL_of fun x hx => ?_
    rcases List.mem_append.1 hx with hx | hx
    · refine AV.withinL_mem (xs := cs) ?_ x (List.mem_of_mem_drop (List.mem_of_mem_take hx))
      refine AV.withinL_mono (U := fun b' => refs [.sl b k l re.size tt, .pv (.sl f m ps)] [(b, .cells cs)] b') (fun b hb => by simp [hb]) cs ?_
      exact within_self_blk [.sl b k l re.size tt, .pv (.sl f m ps)] [(b, .cells cs)] (b, .cells cs) (List.mem_singleton.2 rfl)
    · obtain ⟨p, _, rfl⟩ := List.mem_map.1 hx; rfl
  refine ⟨h1, _, _, _, { vals := ?_, deps := ?_, fresh := ?_, does := hdo, reach := ?_, inV := ?_, inN := ?_, inW := ?_, wr := ?_, pure := fun h => ?_, quiet := fun h => ?_, foot := by rw [hcl]; rfl }, h7⟩
  · show evls st.S (Op.operands (.call c)).toList = _
    rw [hops]; exact hv
  · intro x hx; simp only [List.mem_singleton] at hx; subst hx; exact hb
  · intro x hx; simp only [List.mem_singleton] at hx; subst hx; exact hU
  · exact reach_ptr fun U => .inl rfl
  · simp [AV.within]
  · intro x hx; simp only [List.mem_singleton] at hx; subst hx; exact hin
  · intro x hx k' hk
    simp only [List.mem_singleton] at hx
    subst hx
    cases hk
  · intro x hx
    simp only [List.mem_singleton] at hx
    subst hx
    simp [refs, AV.withinL, AV.within]
  · rw [hcl] at h; cases h
  · rw [hcl] at h; cases h

/-- A literal row that will not change. -/
theorem rvc_buildSliceF (C : Cx E T n) {d : Option Nat} {t : TypeId} {l : Nat} {parts : Array (Nat × Operand)} {ty : TypeId} {pos : String} {af : Array Edge} {rest : List Oper} {st : St} {K : St → Prop} {r re : TyRow} {e : TypeId} {us : List AV} (ps : List PV) (h1 : dstB n ⟨d, .buildSlice t l parts, ty, pos, af, none⟩ = true)
    (h2 : evls st.S (parts.toList.map (·.2)) = some us) (hr : T.lookup t = some r) (hdesc : r.desc = .slice e) (hre : T.lookup e = some re) (hbig : l * re.size ≤ 16777216) (hz : fillAV (fun i => some (i * re.size, re.size)) (zeroAV re.zero.cells (l * re.size)) (parts.toList.zipWith (fun p u => (p.1, u)) us) = some (ps.map .pv)) (hlz : ps.length = l * re.size)
    (h7 : rvc E cq n ops rest (st.after d { v := .pv (.sl (some false) l ps) }) K) : rvc E cq n ops (⟨d, .buildSlice t l parts, ty, pos, af, none⟩ :: rest) st K := by
  simp only [rvc]
  have hd : ∀ x, d = some x → x < E.n := fun x e => by
    simp only [dstB, e, decide_eq_true_eq] at h1
    exact C.n ▸ h1
  have hm := makes_buildSlice C.tab (E := E) (o := ⟨d, .buildSlice t l parts, ty, pos, af, none⟩) (n := l) (parts := parts) rfl hr hdesc hre hbig hz (by simpa using hlz)
  refine ⟨h1, _, _, _, Move.of_frozen (hm.frozen hd) ?_ _, h7⟩
  simpa [Op.operands] using h2

/-- A row of one's own that will not change from here on. -/
theorem At.freeze {st : St} {a : Act} {w : World} (h : At E st a w) {b : Nat} {ps : List PV} (hb : st.H b = some (.cells (ps.map .pv))) {st' : St} (hS : ∀ t v, st'.S t = some v → st.S t = some v ∨ ∃ m s tt, st.S t = some (.sl b 0 m s tt) ∧ v = .pv (.sl (some false) m ps)) (hH : ∀ x k, st'.H x = some k → x ≠ b ∧ st.H x = some k) (hU : st'.U = st.U) : At E st' a w := by
  obtain ⟨ι, imm, h⟩ := h
  obtain ⟨r, z, q1, q2, q3, c, e, f, q4, q5, q6, q7⟩ := h.heap.blk b _ hb
  have hlt : r < w.heap.size := by
    rcases Nat.lt_or_ge r w.heap.size with h' | h'
    · exact h'
    · rw [Array.getElem?_eq_none h'] at q4; cases q4
  let imm' : Nat → Prop := fun k => imm k ∨ k = r
  have g : Grows ι ι imm imm' w w := ⟨fun _ _ h => h, ⟨fun _ hk => .inl hk, fun _ _ => rfl⟩, fun r c e f hr => ⟨c, f, hr, rfl⟩⟩
  refine ⟨ι, imm', h.defers, h.size, fun t v hv => ?_, ⟨fun x k hx => ?_, fun x x' k k' r z z' hx hx' => h.heap.inj x x' k k' r z z' (hH x k hx).2 (hH x' k' hx').2⟩, fun x y hx => ?_, h.grow.trans g, h.ext, fun k hk => ?_, fun k hk => ?_⟩
  · rcases hS t v hv with hv | ⟨m, s, tt, hw, rfl⟩
    · exact VH.grows g v _ (h.slot t v hv)
    · have := h.slot t _ hw
      simp only [VH] at this
      obtain ⟨r', z', cap, i1, i2, i3, _⟩ := this
      rw [q1] at i1
      simp only [Option.some.injEq, Prod.mk.injEq] at i1
      obtain ⟨rfl, rfl⟩ := i1
      rw [i2]
      simp only [VH, PH]
      refine ⟨_, cap, rfl, i3, fun h => (by simp at h), fun _ h => (by simp at h), fun h => (by simp at h), fun A hA _ => ?_⟩
      simp only [Option.some.injEq] at hA
      subst hA
      exact ⟨rfl, .inr rfl, PHs.of_cells (i := imm) (ι := ι) (w := w) ⟨fun _ hk => .inl hk, fun _ _ => rfl⟩ (fun o => cell_of_heap q4 o) q7⟩
  · obtain ⟨hne, hx⟩ := hH x k hx
    obtain ⟨r', z', p1, p2, p3, p4⟩ := h.heap.blk x k hx
    refine ⟨r', z', p1, fun hi => hi.elim p2 fun e => ?_, p3, p4.grows g rfl⟩
    subst e
    exact hne (h.heap.inj x b k _ r' z' z hx hb p1 q1)
  · rw [hU]; exact h.used x y hx
  · rcases hk with hk | rfl
    · exact h.immM k hk
    · exact .inr q3
  · rcases hk with hk | rfl
    · exact h.immlt k hk
    · exact hlt

theorem Awp.freeze {c : Code} {S : List (Nat × AV)} {H : List (Nat × Blk)} {U : List Nat} {Q : Exit → St → Prop} (b : Nat) (ps : List PV) (hb : H.lookup b = some (.cells (ps.map .pv))) (S' : List (Nat × AV)) (H' : List (Nat × Blk)) (hS : ∀ x ∈ S', S.lookup x.1 = some x.2 ∨ ∃ m s tt, S.lookup x.1 = some (.sl b 0 m s tt) ∧ x.2 = .pv (.sl (some false) m ps)) (hH : ∀ x ∈ H', x.1 ≠ b ∧ H.lookup x.1 = some x.2)
    (h : Awp E c (mkSt S' H' U) Q) : Awp E c (mkSt S H U) Q := fun a w hat =>
  h a w (hat.freeze (b := b) (ps := ps) hb (fun _ _ hv => hS _ (lookup_mem (l := S') hv)) (fun _ _ hk => hH _ (lookup_mem (l := H') hk)) rfl)
end steps
end Go.Am

/- An abstract machine over the kit's calls, part 22: blocks named anew at a loop's head. No conditions. -/
namespace Go.Am

/-- What is not needed is forgotten, and blocks are named anew: τ says what a block was called. -/
structure WeakerR (st : St) (τ : Nat → Nat) (S : List (Nat × AV)) (H : List (Nat × Blk)) (U : List Nat) (I : List Nat) : Prop where
  eqS : ∀ x ∈ S, st.S x.1 = some (x.2.ren τ)
  eqH : ∀ x ∈ H, st.H (τ x.1) = some (x.2.ren τ)
  inS : (S.all fun x => x.2.within fun b => U.contains b) = true
  inH : (H.all fun x => U.contains x.1 && x.2.within fun b => U.contains b) = true
  inj : ∀ x ∈ H, ∀ y ∈ H, τ x.1 = τ y.1 → x.1 = y.1
  inI : (I.all fun b => U.contains b && τ b == b) = true

theorem At.weakenR {E : Env} {st : St} {a : Act} {w : World} {τ : Nat → Nat} {S : List (Nat × AV)} {H : List (Nat × Blk)} {U : List Nat} (h : At E st a w) (hw : WeakerR st τ S H U E.I) : At E (mkSt S H U) a w := by
  obtain ⟨ι, imm, h⟩ := h
  let κ : Nat → Option (Nat × Nat) := fun b => if U.contains b then ι (τ b) else none
  have hκ : ∀ b, (fun b => U.contains b) b = true → ι (τ b) = κ b := fun b hb => by show _ = (if U.contains b then _ else _); rw [if_pos hb]
  have hV : ∀ x v, x.within (fun b => U.contains b) = true → VH ι imm w (x.ren τ) v → VH κ imm w x v := fun x v hu hx => (VH.ren (ι := κ) (κ := ι) (σ := τ) hκ x v hu).1 hx
  have hB : ∀ k r z, k.within (fun b => U.contains b) = true → BlkH ι imm w r z (k.ren τ) → BlkH κ imm w r z k := fun k r z hu hx => (BlkH.ren (ι := κ) (κ := ι) (σ := τ) hκ (r := r) (z := z) hu).1 hx
  have hin : ∀ x ∈ H, U.contains x.1 = true ∧ x.2.within (fun b => U.contains b) = true := fun x hx => by
    have := List.all_eq_true.1 hw.inH x hx
    simpa only [Bool.and_eq_true] using this
  refine ⟨κ, imm, h.defers, h.size, fun t v hv => ?_, ⟨fun b k hb => ?_, fun b b' k k' r z z' hb hb' hi hi' => ?_⟩, fun b x hx => ?_, ⟨fun b x hx => ?_, h.grow.stays, h.grow.rows⟩, h.ext, h.immM, h.immlt⟩
  · have hm := lookup_mem (l := S) hv
    exact hV _ _ (List.all_eq_true.1 hw.inS _ hm) (h.slot _ _ (hw.eqS _ hm))
  · have hm := lookup_mem (l := H) hb
    obtain ⟨r, z, q1, q2, q3, q4⟩ := h.heap.blk _ _ (hw.eqH _ hm)
    exact ⟨r, z, (hκ b (hin _ hm).1).symm.trans q1, q2, q3, hB _ _ _ (hin _ hm).2 q4⟩
  · have hm := lookup_mem (l := H) hb
    have hm' := lookup_mem (l := H) hb'
    rw [← hκ b (hin _ hm).1] at hi
    rw [← hκ b' (hin _ hm').1] at hi'
    exact hw.inj _ hm _ hm' (h.heap.inj _ _ _ _ _ _ _ (hw.eqH _ hm) (hw.eqH _ hm') hi hi')
  · show U.contains b = true
    by_cases hb : U.contains b = true
    · exact hb
    · have : κ b = none := by show (if U.contains b then _ else _) = _; rw [if_neg hb]
      rw [this] at hx; cases hx
  · have hb : (U.contains b && τ b == b) = true := List.all_eq_true.1 hw.inI b (by have := E.dom b x hx; simpa using this)
    simp only [Bool.and_eq_true, beq_iff_eq] at hb
    rw [← hκ b hb.1, hb.2]; exact h.grow.ext b x hx

theorem Awp.weakenR {E : Env} {c : Code} {st : St} {Q : Exit → St → Prop} {S : List (Nat × AV)} {H : List (Nat × Blk)} {U : List Nat} (τ : Nat → Nat) (hw : WeakerR st τ S H U E.I) (h : Awp E c (mkSt S H U) Q) : Awp E c st Q :=
  fun a w hat => h a w (hat.weakenR hw)

/-- A loop over a count, told by a family of states; behind each round blocks may be named anew. -/
theorem Awp.forNR {E : Env} {c : Code} {st : St} {Q : Exit → St → Prop} (N : Nat) (S : Nat → List (Nat × AV)) (H : Nat → List (Nat × Blk)) (U : List Nat) (τ0 τ : Nat → Nat) (hw : WeakerR st τ0 (S 0) (H 0) U E.I)
    (round : ∀ i, i < N → Awp E c (mkSt (S i) (H i) U) fun e st' => match e with | .normal => WeakerR st' τ (S (i + 1)) (H (i + 1)) U E.I | e => Q e st')
    (last : Awp E c (mkSt (S N) (H N) U) fun e st' => match e with | .normal => False | e => Q e st') : Awp E (.loop c) st Q := by
  intro a w hat
  refine wp_loop_ghost (fun m a w => ∃ i, i ≤ N ∧ m = N - i ∧ At E (mkSt (S i) (H i) U) a w) N ⟨0, Nat.zero_le _, rfl, hat.weakenR hw⟩ fun m a w ⟨i, hi, hm, hat⟩ => ?_
  rcases Nat.lt_or_ge i N with h | h
  · refine wp_mono (round i h a w hat) ?_
    rintro e a' w' ⟨st', h1, h2⟩
    cases e <;> simp only [Exit.then]
    case normal => exact ⟨N - (i + 1), by omega, i + 1, by omega, rfl, h2.weakenR h1⟩
    all_goals exact ⟨st', h1, h2⟩
  · have : i = N := by omega
    subst this
    refine wp_mono (last a w hat) ?_
    rintro e a' w' ⟨st', h1, h2⟩
    cases e <;> simp only [Exit.then]
    case normal => exact h1.elim
    all_goals exact ⟨st', h1, h2⟩

/-- Two texts with a state between them, blocks named anew. -/
theorem Awp.seq_midR {E : Env} {x y : Code} {st : St} {Q : Exit → St → Prop} (S : List (Nat × AV)) (H : List (Nat × Blk)) (U : List Nat) (h1 : Awp E x st fun e st' => match e with | .normal => ∃ τ, WeakerR st' τ S H U E.I | e => Q e st') (h2 : Awp E y (mkSt S H U) Q) : Awp E (.seq x y) st Q :=
  Awp.seq (h1.mono fun e st' hq => by
    cases e <;> first | exact hq | (obtain ⟨τ, hw⟩ := hq; exact Awp.weakenR τ hw h2))

theorem WeakerR.of {E : Env} {st : St} {τ : Nat → Nat} {S : List (Nat × AV)} {H : List (Nat × Blk)} {U : List Nat} (hI : E.I = []) (h1 : eqsS st.S (S.map fun x => (x.1, x.2.ren τ))) (h2 : eqsH st.H (H.map fun x => (τ x.1, x.2.ren τ))) (h3 : (S.all fun x => x.2.within fun b => U.contains b) = true) (h4 : (H.all fun x => U.contains x.1 && x.2.within fun b => U.contains b) = true)
    (h5 : (H.all fun x => H.all fun y => !(τ x.1 == τ y.1) || x.1 == y.1) = true) : WeakerR st τ S H U E.I :=
  ⟨fun x hx => eqsS_mem h1 _ (List.mem_map_of_mem hx), fun x hx => eqsH_mem h2 _ (List.mem_map_of_mem hx), h3, h4, fun x hx y hy e => by
    have := List.all_eq_true.1 (List.all_eq_true.1 h5 x hx) y hy
    simpa [e] using this, by rw [hI]; rfl⟩
end Go.Am

/- An abstract machine over the kit's calls, part 23: bytes as a string. No conditions. -/
namespace Go.Am
section steps
variable {E : Env} {T : Tab} {cq : Oper → Cls} {n : Nat} {ops : Array Oper}

/-- The string that bytes are. -/
def strOf (D : List Int) : ByteArray := ⟨(D.map fun x => UInt8.ofNat x.toNat).toArray⟩

theorem run_bytesLoop {P : Program} : ∀ (D : List Int) (s : ByteArray) (w : World),
    (forIn (D.map fun x => Value.int .u8 x) s (fun c (r : ByteArray) => do
      let .int .u8 n := c | stuck "bytesToString: byte expected"
      pure (ForInStep.yield (r.push (UInt8.ofNat n.toNat)))) : Sem ByteArray).run P w = .ok (⟨s.data ++ (D.map fun x => UInt8.ofNat x.toNat).toArray⟩) w
  | [], s, w => by simp
  | x :: D, s, w => by
    rw [List.map_cons, List.forIn_cons, run_bind']
    simp only [run_pure']
    rw [run_bytesLoop D]
    simp [ByteArray.push]

theorem vhs_ints {ι : Nat → Option (Nat × Nat)} {imm : Nat → Prop} {w : World} {k : IntKind} : ∀ {D : List Int} {vs : List Value}, VHs ι imm w (cI k D) vs → vs = D.map fun x => Value.int k x
  | [], vs, h => h
  | x :: D, vs, h => by
    obtain ⟨v, us, rfl, h1, h2⟩ := h
    simp only [VH, PH] at h1
    rw [h1.1, vhs_ints (D := D) h2, List.map_cons]

theorem does_bytesToString (hT : TabOk E.P T) {o : Oper} {src dst : TypeId} {x : Operand} (ho : o.op = .convert src dst x) (hd : ∀ d, o.dst = some d → d < E.n) {rs rd re : TyRow} {e : TypeId} (h1 : T.lookup src = some rs) (h2 : T.lookup dst = some rd) (hs : rs.desc = .slice e) (he : T.lookup e = some re) (hre : re.desc = .int .u8) (hk : rd.desc = .string) {f : Option Bool} {D : List Int} :
    Does E o [sI f .u8 D] [] { v := .pv (.lit (.string (strOf D))) } := by
  refine Does.value hd fun ι imm st a w hsr hv _ => ?_
  rw [ho] at hv
  simp only [Op.operands, List.map_cons, List.map_nil] at hv
  have h := hv.one
  simp only [sI, VH, PH] at h
  obtain ⟨A, cap, q1, q2, _, _, q3, q4⟩ := h
  refine ⟨.string (strOf D), ?_, by simp [VH, PH, flatB]⟩
  simp only [execOp, ho, q1, convert, run_bind', run_underlying hT h1, run_underlying hT h2, hs, hk, run_underlying hT he, hre]
  cases A with
  | none =>
    obtain ⟨e1, _, _⟩ := q3 rfl
    have : D = [] := List.eq_nil_of_length_eq_zero e1
    subst this
    rfl
  | some ad =>
    have key : ∃ vs : List Value, (loadCells ad D.length).run E.P w = .ok vs.toArray w ∧ vs = D.map fun x => Value.int .u8 x := by
      by_cases hD : D = []
      · subst hD
        exact ⟨[], rfl, rfl⟩
      · obtain ⟨p1, p2, p3⟩ := q4 ad rfl (by simpa [pI] using hD)
        obtain ⟨vs, r1, r2⟩ := p3.vals ι
        rw [pI_pv] at r1
        have e := vhs_ints r1
        have hl : vs.length = D.length := by rw [e]; simp
        refine ⟨vs, ?_, e⟩
        rw [← hl]
        rw [addr_eta p1]
        exact run_loadCells vs r2
    obtain ⟨vs, k1, k2⟩ := key
    simp only [Conv.bytesToString, run_bind', k1, k2]
    have := run_bytesLoop (P := E.P) D ByteArray.empty w
    rw [List.forIn_toArray]
    erw [this]
    simp only [run_pure']
    have e : (⟨ByteArray.empty.data ++ (List.map (fun x => UInt8.ofNat x.toNat) D).toArray⟩ : ByteArray) = strOf D := by
      simp [strOf, ByteArray.empty, ByteArray.emptyWithCapacity]
      rfl
    rw [e]
end steps
end Go.Am

/- An abstract machine over the kit's calls, part 24: rows of any type told by lists; rules for operations behind guards; loops over lists; calls that make a row. No conditions. -/
namespace Go.Am

/-! ### Rows -/
/-- How a value of a type lies in cells. -/
structure Enc (α : Type) where
  sz : Nat
  enc : α → List PV
  len : ∀ x, (enc x).length = sz

/-- A slice: is it nil (if known), and its elements. -/
structure Sl (α : Type) where
  nil : Bool
  D : List α
  deriving Inhabited

def encL {α : Type} (e : Enc α) (D : List α) : List PV := D.flatMap e.enc
def encC {α : Type} (e : Enc α) (D : List α) : List AV := (encL e D).map .pv
def sS {α : Type} (f : Option Bool) (e : Enc α) (D : List α) : AV := .pv (.sl f D.length (encL e D))
def eI (k : IntKind) : Enc Int := ⟨1, fun x => [.lit (.int k x)], fun _ => rfl⟩
def eB : Enc Bool := ⟨1, fun x => [.lit (.bool x)], fun _ => rfl⟩
def eStr : Enc ByteArray := ⟨1, fun x => [.lit (.string x)], fun _ => rfl⟩

def eSl {α : Type} (e : Enc α) : Enc (Sl α) := ⟨1, fun x => [.sl (some x.nil) x.D.length (encL e x.D)], fun _ => rfl⟩
instance : Inhabited ByteArray := ⟨.empty⟩

section rows
variable {α : Type} {e : Enc α}
theorem getX {D : List α} {i : Nat} (h : i < D.length) : ∃ x, D[i]? = some x := ⟨D[i], by simp [h]⟩
theorem getE [Inhabited α] {D : List α} {i : Nat} (h : i < D.length) : D[i]? = some D[i]! := by simp [h]
theorem getlt {D : List α} {i : Nat} {x : α} (h : D[i]? = some x) {z : Int} {m : Nat} (hz : z = i) (hm : m = D.length := by rfl) : z < (m : Int) := by
  subst hz hm
  have : i < D.length := by
    rcases Nat.lt_or_ge i D.length with h' | h'
    · exact h'
    · rw [List.getElem?_eq_none h'] at h; cases h
  omega
theorem drop_end {D : List α} {i : Nat} (h : ¬ i < D.length) : D.drop i = [] := List.drop_of_length_le (by omega)
theorem encL_len : ∀ (D : List α), (encL e D).length = D.length * e.sz
  | [] => by simp [encL]
  | x :: D => by
    have := encL_len D
    simp only [encL, List.flatMap_cons, List.length_append, e.len, List.length_cons] at this ⊢
    rw [this, Nat.add_mul]; omega
theorem encC_len (D : List α) : (encC e D).length = D.length * e.sz := by simp [encC, encL_len]
theorem encL_append (D D' : List α) : encL e (D ++ D') = encL e D ++ encL e D' := by simp [encL]
theorem encC_append (D D' : List α) : encC e (D ++ D') = encC e D ++ encC e D' := by simp [encC, encL_append]
theorem encL_drop : ∀ (D : List α) (i : Nat), (encL e D).drop (i * e.sz) = encL e (D.drop i)
  | D, 0 => by simp
  | [], i + 1 => by simp [encL]
  | x :: D, i + 1 => by
    have h : encL e (x :: D) = e.enc x ++ encL e D := by simp [encL]
    have hl := e.len x
    rw [h, show (i + 1) * e.sz = (e.enc x).length + i * e.sz by rw [hl, Nat.add_mul]; omega, List.drop_length_add_append, encL_drop D i, List.drop_succ_cons]
theorem encL_take : ∀ (D : List α) (i : Nat), (encL e D).take (i * e.sz) = encL e (D.take i)
  | D, 0 => by simp [encL]
  | [], i + 1 => by simp [encL]
  | x :: D, i + 1 => by
    have h : encL e (x :: D) = e.enc x ++ encL e D := by simp [encL]
    have hl := e.len x
    rw [h, show (i + 1) * e.sz = (e.enc x).length + i * e.sz by rw [hl, Nat.add_mul]; omega, List.take_length_add_append, encL_take D i, List.take_succ_cons]
    simp [encL]
theorem drop_at {D : List α} {i : Nat} {x : α} (h : D[i]? = some x) : D.drop i = x :: D.drop (i + 1) := by
  have hi : i < D.length := by
    rcases Nat.lt_or_ge i D.length with h' | h'
    · exact h'
    · rw [List.getElem?_eq_none h'] at h; cases h
  rw [List.drop_eq_getElem_cons hi]
  rw [List.getElem?_eq_getElem hi] at h
  simp only [Option.some.injEq] at h
  rw [h]
theorem encL_at {D : List α} {i : Nat} {x : α} (h : D[i]? = some x) : ((encL e D).drop (i * e.sz)).take e.sz = e.enc x := by
  rw [encL_drop, drop_at h]
  have : encL e (x :: D.drop (i + 1)) = e.enc x ++ encL e (D.drop (i + 1)) := by simp [encL]
  rw [this, List.take_append_of_le_length (by rw [e.len]; omega), List.take_of_length_le (by rw [e.len]; omega)]
theorem encL_one (x : α) : encL e [x] = e.enc x := by simp [encL]
theorem encC_flat (D : List α) (k : Nat) : ((encC e D).take k).all flatCell = true := by
  rw [List.all_eq_true]
  intro x hx
  obtain ⟨p, _, rfl⟩ := List.mem_map.1 (List.mem_of_mem_take hx)
  rfl
theorem pv_flat (ps : List PV) : (ps.map AV.pv).all flatCell = true := by
  rw [List.all_eq_true]
  intro x hx
  obtain ⟨p, _, rfl⟩ := List.mem_map.1 hx
  rfl
theorem encC_within (D : List α) (U : Nat → Bool) : AV.withinL U (encC e D) = true := within_pvs U _
theorem encC_set {D : List α} {i : Nat} {x : α} (hi : i < D.length) : setRange (encC e D) (i * e.sz) ((e.enc x).map .pv) = encC e (D.set i x) := by
  have h1 : (encC e D).take (i * e.sz) = encC e (D.take i) := by simp only [encC, ← List.map_take, encL_take]
  have h2 : (encC e D).drop (i * e.sz + e.sz) = encC e (D.drop (i + 1)) := by
    simp only [encC, ← List.map_drop]
    rw [show i * e.sz + e.sz = (i + 1) * e.sz by rw [Nat.add_mul]; omega, encL_drop]
  have hl : ((e.enc x).map AV.pv).length = e.sz := by simp [e.len]
  have h3 : (e.enc x).map AV.pv = encC e [x] := by simp [encC, encL]
  simp only [setRange, hl, h1, h2]
  rw [h3, ← encC_append, ← encC_append, List.set_eq_take_append_cons_drop, if_pos hi]
  simp
theorem eI_L (k : IntKind) (D : List Int) : encL (eI k) D = pI k D := by
  simp only [encL, eI, pI]
  induction D with
  | nil => rfl
  | cons x D ih => simp [ih]
theorem sS_I (f : Option Bool) (k : IntKind) (D : List Int) : sS f (eI k) D = sI f k D := by simp only [sS, sI, eI_L]
end rows

/-- A slice that begins as nil and only grows: its row is block b. -/
def grow {α : Type} (b : Nat) (e : Enc α) : List α → AV
  | [] => .pv (.sl (some true) 0 [])
  | _ :: D => .sl b 0 (D.length + 1) e.sz false
def growH {α : Type} (b : Nat) (e : Enc α) : List α → List (Nat × Blk)
  | [] => []
  | x :: D => [(b, .cells (encC e (x :: D)))]

/-! ### What a model says -/
theorem of_true {α : Type} {c : Bool} {x y R : α} (h : c = true) (e : (bif c then x else y) = R) : x = R := by rw [h] at e; exact e
theorem of_false {α : Type} {c : Bool} {x y R : α} (h : c = false) (e : (bif c then x else y) = R) : y = R := by rw [h] at e; exact e

section steps
variable {E : Env} {T : Tab} {cq : Oper → Cls} {n : Nat} {ops : Array Oper}

/-- An operation without a guard. -/
theorem rvc_un {d : Option Nat} {op : Op} {ty : TypeId} {pos : String} {af : Array Edge} {rest : List Oper} {st : St} {K : St → Prop} (h : rexec E cq n ⟨d, op, ty, pos, af, none⟩ st fun st' => rvc E cq n ops rest st' K) : rvc E cq n ops (⟨d, op, ty, pos, af, none⟩ :: rest) st K := by
  simp only [rvc]; exact h

theorem St.set_same {st : St} {t : Nat} {v : AV} (h : st.S t = some v) : st.set t v = st := by
  have : putO st.S (some t) v = st.S := by
    funext u
    show (if u = t then some v else st.S u) = _
    by_cases e : u = t
    · subst e; rw [if_pos rfl, h]
    · rw [if_neg e]
  show (⟨putO st.S (some t) v, st.H, st.U⟩ : St) = st
  rw [this]

/-- Two cases of a truth value. -/
theorem rvc_case {l : List Oper} {st : St} {K : St → Prop} (t : Nat) (b : Bool) (ht : st.S t = some (.pv (.lit (.bool b)))) (h1 : b = true → rvc E cq n ops l (st.set t (.pv (.lit (.bool true)))) K) (h2 : b = false → rvc E cq n ops l (st.set t (.pv (.lit (.bool false)))) K) : rvc E cq n ops l st K := by
  cases hb : b
  · have := h2 hb; rw [hb] at ht; rwa [St.set_same ht] at this
  · have := h1 hb; rw [hb] at ht; rwa [St.set_same ht] at this
/-- A truth value that is known. -/
theorem rvc_known {l : List Oper} {st : St} {K : St → Prop} (t : Nat) (b b' : Bool) (ht : st.S t = some (.pv (.lit (.bool b)))) (hb : b = b') (h : rvc E cq n ops l (st.set t (.pv (.lit (.bool b')))) K) : rvc E cq n ops l st K := by
  rw [hb] at ht; rwa [St.set_same ht] at h
/-- A slot's value in other words. -/
theorem rvc_slot {l : List Oper} {st : St} {K : St → Prop} (t : Nat) (v : AV) (ht : st.S t = some v) (h : rvc E cq n ops l (st.set t v) K) : rvc E cq n ops l st K := by
  rwa [St.set_same ht] at h

/-- An element of a slice that does not change. -/
theorem rexec_idxS (C : Cx E T n) {d : Option Nat} {t : TypeId} {x y : Operand} {ty : TypeId} {pos : String} {af : Array Edge} {g : Option (Nat × Bool)} {st : St} {K : St → Prop} {α : Type} {e : Enc α} {D : List α} {f : Option Bool} {k : IntKind} {z : Int} {r re : TyRow} {te : TypeId} (h1 : dstB n ⟨d, .indexAddr t x y, ty, pos, af, g⟩ = true)
    (h2 : evls st.S [x, y] = some [sS f e D, .pv (.lit (.int k z))]) (hr : T.lookup t = some r) (hd : r.desc = .slice te) (hre : T.lookup te = some re) (hs : re.size = e.sz) (a : α) (hz : 0 ≤ z) (ha : D[z.toNat]? = some a)
    (h7 : K (st.after d { v := .rp (e.enc a) })) (h8 : footB (clsOf cq ⟨d, .indexAddr t x y, ty, pos, af, g⟩) [] { v := .rp (e.enc a) } = true := by rfl) : rexec E cq n ⟨d, .indexAddr t x y, ty, pos, af, g⟩ st K := by
  have hlt : z.toNat < D.length := by
    rcases Nat.lt_or_ge z.toNat D.length with h' | h'
    · exact h'
    · rw [List.getElem?_eq_none h'] at ha; cases ha
  refine rexec_prim C (p := 0 ≤ z ∧ z < (D.length : Int)) (hs := []) (δ := { v := .rp (e.enc a) }) h1 rfl h2 ?_ ⟨hz, by omega⟩ rfl h7 h8
  have := encL_at (e := e) ha
  simp only [prim, hr, elemAV, hd, hre, sS, hs, this]

/-- A call that makes one row. -/
structure OCalls (P : Program) (f : FuncId) (avs : List AV) (av : AV) (k : Blk) : Prop where
  fn : ∃ fn, P.funcs[f]? = some fn ∧ (fn.name == "runtime.NumGoroutine") = false ∧ fn.body.isNone = false
  args : AV.withinL (fun _ => false) avs = true
  res : av.within (fun b => b == 0) = true
  blk : k.within (fun _ => false) = true
  calls : ACalls P f [] avs [] av [(0, k)]

/-- A call through a function value, or of a function, where no block of one's own is handed to and fro. -/
theorem PCalls.moveV {P : Program} (hP : E.P = P) {f : FuncId} {avs args caps : List AV} {av : AV} (C : PCalls P f avs av) (ha : avs = args ++ caps) {d : Option Nat} {c : Call} {x : Operand} {ty : TypeId} {pos : String} {af : Array Edge} {g : Option (Nat × Bool)} {st : St} (h1 : ∀ x, d = some x → x < E.n) (hc : c.callee = .value x) (hx : evl st.S x = some (.fn f [] caps)) (hv : evls st.S c.args.toList = some args) (cl : Cls) :
    Move E cl ⟨d, .call c, ty, pos, af, g⟩ st (.fn f [] caps :: args) [] { v := av } := by
  subst hP
  obtain ⟨fn, q1, q2, q3⟩ := C.fn
  have ok : CallOk ⟨fun b => b, []⟩ [] avs [] [] av := by
    refine { args := C.args, ids := ?_, blks := ?_, nodup := by simp, inj := ?_, nodupL := by simp, nodupR := by simp, fresh := ?_, res := ?_, res' := ?_, kept := ?_, all := ?_, used := ?_ }
    all_goals first | (intro x hx; cases hx; done) | skip
    · intro b c hb; cases hb
    · exact AV.within_mono (fun b hb => by cases hb) av C.res
  have hd := does_call (E := E) (o := ⟨d, .call c, ty, pos, af, g⟩) (c := c) rfl hc h1 q1 q2 q3 C.calls ok (args := args) (caps := caps) (by rw [AV.renL_none avs C.args]; exact ha)
  have he : Names.delta ⟨fun b => b, []⟩ [] [] [] av = { v := av } := by
    simp only [Names.delta, List.map_nil, AV.ren_none av C.res]
  rw [he] at hd
  have hops : (Op.operands (.call c)).toList = x :: c.args.toList := by simp [Op.operands, Call.operands, hc]
  refine { vals := ?_, deps := ?_, fresh := ?_, does := hd, reach := rfl, inV := ?_, inN := ?_, inW := ?_, wr := ?_, pure := fun _ => ⟨rfl, rfl, rfl⟩, quiet := fun _ => rfl, foot := by cases cl <;> rfl }
  · show evls st.S (Op.operands (.call c)).toList = _
    rw [hops]; simp only [evls, hx, hv]
  · intro x hx; cases hx
  · intro x hx; cases hx
  · exact AV.within_mono (fun b hb => by cases hb) av C.res
  · intro x hx; cases hx
  · intro x hx; cases hx
  · intro x hx; cases hx

theorem rexec_callV {P : Program} (hP : E.P = P) (C : Cx E T n) {f : FuncId} {avs args caps : List AV} {av : AV} {d : Option Nat} {c : Call} {x : Operand} {ty : TypeId} {pos : String} {af : Array Edge} {g : Option (Nat × Bool)} {st : St} {K : St → Prop} (h1 : dstB n ⟨d, .call c, ty, pos, af, g⟩ = true) (hc : c.callee = .value x) (hx : evl st.S x = some (.fn f [] caps)) (hv : evls st.S c.args.toList = some args)
    (F : PCalls P f avs av) (ha : avs = args ++ caps) (h7 : K (st.after d { v := av })) : rexec E cq n ⟨d, .call c, ty, pos, af, g⟩ st K := by
  refine ⟨h1, _, _, _, F.moveV hP ha (fun x e => ?_) hc hx hv _, h7⟩
  simp only [dstB, e, decide_eq_true_eq] at h1
  exact C.n ▸ h1

mutual
theorem AV.within_at {d : Nat} : ∀ (x : AV), x.within (fun b => b == 0) = true → (x.ren fun _ => d).within (fun b => b == d) = true
  | .undef, _ | .pv _, _ | .tsl _ _, _ | .rp _, _ => rfl
  | .ptr b o, _ | .sl b _ _ _ _, _ | .slc b _ _ _ _, _ | .mp b, _ => by simp [AV.ren, AV.within]
  | .agg cs, h => by simp only [AV.within] at h; simp only [AV.ren, AV.within, AV.withinL_at cs h]
  | .tup cs, h => by simp only [AV.within] at h; simp only [AV.ren, AV.within, AV.withinL_at cs h]
  | .fn f xs ys, h => by simp only [AV.within, Bool.and_eq_true] at h; simp only [AV.ren, AV.within, AV.withinL_at xs h.1, AV.withinL_at ys h.2, Bool.and_self]
theorem AV.withinL_at {d : Nat} : ∀ (xs : List AV), AV.withinL (fun b => b == 0) xs = true → AV.withinL (fun b => b == d) (AV.renL (fun _ => d) xs) = true
  | [], _ => rfl
  | x :: xs, h => by simp only [AV.withinL, Bool.and_eq_true] at h; simp only [AV.renL, AV.withinL, AV.within_at x h.1, AV.withinL_at xs h.2, Bool.and_self]
end
mutual
theorem AV.ren_congr {U : Nat → Bool} {σ τ : Nat → Nat} (e : ∀ b, U b = true → σ b = τ b) : ∀ (x : AV), x.within U = true → x.ren σ = x.ren τ
  | .undef, _ | .pv _, _ | .tsl _ _, _ | .rp _, _ => rfl
  | .ptr b o, h | .sl b _ _ _ _, h | .slc b _ _ _ _, h | .mp b, h => by simp only [AV.within] at h; simp only [AV.ren, e b h]
  | .agg cs, h => by simp only [AV.within] at h; simp only [AV.ren, AV.renL_congr e cs h]
  | .tup cs, h => by simp only [AV.within] at h; simp only [AV.ren, AV.renL_congr e cs h]
  | .fn f xs ys, h => by simp only [AV.within, Bool.and_eq_true] at h; simp only [AV.ren, AV.renL_congr e xs h.1, AV.renL_congr e ys h.2]
theorem AV.renL_congr {U : Nat → Bool} {σ τ : Nat → Nat} (e : ∀ b, U b = true → σ b = τ b) : ∀ (xs : List AV), AV.withinL U xs = true → AV.renL σ xs = AV.renL τ xs
  | [], _ => rfl
  | x :: xs, h => by simp only [AV.withinL, Bool.and_eq_true] at h; simp only [AV.renL, AV.ren_congr e x h.1, AV.renL_congr e xs h.2]
end
theorem Blk.ren_none {σ : Nat → Nat} : ∀ {k : Blk}, k.within (fun _ => false) = true → k.ren σ = k
  | .cells cs, h => by simp only [Blk.within] at h; simp only [Blk.ren, AV.renL_none cs h]
  | .map es, h => by
    simp only [Blk.within] at h
    simp only [Blk.ren]
    congr 1
    induction es with
    | nil => rfl
    | cons y ys ih =>
      simp only [List.all_cons, Bool.and_eq_true] at h
      rw [List.map_cons, ih h.2, AV.ren_none _ h.1.1, AV.ren_none _ h.1.2]

theorem rexec_callO {P : Program} (hP : E.P = P) (C : Cx E T n) {f : FuncId} {avs : List AV} {av : AV} {k : Blk} {d : Nat} {c : Call} {ty : TypeId} {pos : String} {af : Array Edge} {g : Option (Nat × Bool)} {st : St} {K : St → Prop} (h1 : dstB n ⟨some d, .call c, ty, pos, af, g⟩ = true) (hU : st.U d = false) (hc : c.callee = .value (.func f)) (hv : evls st.S c.args.toList = some avs)
    (F : OCalls P f avs av k) (h7 : K (st.after (some d) { v := av.ren fun _ => d, new := [(d, k)] })) (hcl : clsOf cq ⟨some d, .call c, ty, pos, af, g⟩ ≠ .pure := by decide) (hft : footB (clsOf cq ⟨some d, .call c, ty, pos, af, g⟩) [] { v := av.ren fun _ => d, new := [(d, k)] } = true := by rfl) : rexec E cq n ⟨some d, .call c, ty, pos, af, g⟩ st K := by
  subst hP
  obtain ⟨fn, q1, q2, q3⟩ := F.fn
  have hd : ∀ x, some d = some x → x < E.n := fun x e => by
    simp only [dstB, decide_eq_true_eq] at h1
    simp only [Option.some.injEq] at e
    subst e
    exact C.n ▸ h1
  have kn : ∀ b, Names.knows ⟨fun b => b, [(d, 0)]⟩ [] b = (b == 0) := fun b => by
    simp [Names.knows, inI, BEq.comm]
  have kn' : Names.knows ⟨fun b => b, [(d, 0)]⟩ [] = fun b => b == 0 := funext kn
  have ok : CallOk ⟨fun b => b, [(d, 0)]⟩ [] avs [] [(0, k)] av := by
    refine { args := F.args, ids := ?_, blks := ?_, nodup := by simp, inj := ?_, nodupL := by simp, nodupR := by simp, fresh := ?_, res := ?_, res' := ?_, kept := ?_, all := ?_, used := ?_ }
    · intro x hx; cases hx
    · intro x hx; cases hx
    · intro b c hb; cases hb
    · intro x _; rfl
    · rw [kn']; exact F.res
    · intro x hx
      simp only [List.mem_singleton] at hx
      subst hx
      rw [kn']
      exact ⟨rfl, Blk.within_mono (fun b hb => by cases hb) k F.blk⟩
    · intro x _ hx; cases hx
    · intro x hx
      simp only [List.mem_singleton] at hx
      subst hx; rfl
    · intro b hb; cases hb
  have hdo := does_call (E := E) (o := ⟨some d, .call c, ty, pos, af, g⟩) (c := c) rfl hc hd q1 q2 q3 F.calls ok (args := avs) (caps := []) (by rw [AV.renL_none avs F.args]; simp)
  have hτ : Names.τ ⟨fun b => b, [(d, 0)]⟩ [] 0 = d := by simp [Names.τ, inI]
  have hav : av.ren (Names.τ ⟨fun b => b, [(d, 0)]⟩ []) = av.ren fun _ => d := by
    refine AV.ren_congr (U := fun b => b == 0) (fun b hb => ?_) av F.res
    have : b = 0 := by simpa using hb
    subst this; exact hτ
  have hk : k.ren (Names.τ ⟨fun b => b, [(d, 0)]⟩ []) = k := Blk.ren_none F.blk
  have he : Names.delta ⟨fun b => b, [(d, 0)]⟩ [] [] [(0, k)] av = { v := av.ren fun _ => d, new := [(d, k)] } := by
    simp only [Names.delta, List.map_nil, List.map_cons, hav]
    have : (heapOf [(0, k)] 0).getD (.cells []) = k := rfl
    rw [this, hk]
  rw [he] at hdo
  have hops : (Op.operands (.call c)).toList = .func f :: c.args.toList := by simp [Op.operands, Call.operands, hc]
  refine ⟨h1, .fn f [] [] :: avs, [], _, { vals := ?_, deps := ?_, fresh := ?_, does := hdo, reach := ?_, inV := ?_, inN := ?_, inW := ?_, wr := ?_, pure := fun h => absurd h hcl, quiet := fun _ => rfl, foot := hft }, h7⟩
  · show evls st.S (Op.operands (.call c)).toList = _
    rw [hops]; simp only [evls, evl, hv]
  · intro x hx; cases hx
  · intro x hx; simp only [List.mem_singleton] at hx; subst hx; exact hU
  · rfl
  · refine AV.within_mono (U := fun b => b == d) (fun b hb => ?_) _ (AV.within_at _ F.res)
    have : b = d := by simpa using hb
    subst this; simp
  · intro x hx
    simp only [List.mem_singleton] at hx
    subst hx
    exact Blk.within_mono (fun b hb => by cases hb) k F.blk
  · intro x hx; cases hx
  · intro x hx; cases hx

/-- A loop over a count or a list: at its head one of a family of states, by how many rounds were made. -/
theorem Awp.forR {c : Code} {st : St} {Q : Exit → St → Prop} {σ : Type} (N : Nat) (S : Nat → σ → List (Nat × AV)) (H : Nat → σ → List (Nat × Blk)) (U : List Nat) (J : Nat → σ → Prop) (x0 : σ) (h0 : J 0 x0) (hw : ∃ τ, WeakerR st τ (S 0 x0) (H 0 x0) U E.I)
    (round : ∀ i x, i ≤ N → J i x → Awp E c (mkSt (S i x) (H i x) U) fun e st' => match e with | .normal => i < N ∧ ∃ y, J (i + 1) y ∧ ∃ τ, WeakerR st' τ (S (i + 1) y) (H (i + 1) y) U E.I | e => Q e st') : Awp E (.loop c) st Q := by
  intro a w hat
  obtain ⟨τ0, hw⟩ := hw
  refine wp_loop_ghost (fun m a w => ∃ i x, i ≤ N ∧ J i x ∧ m = N - i ∧ At E (mkSt (S i x) (H i x) U) a w) N ⟨0, x0, Nat.zero_le _, h0, rfl, hat.weakenR hw⟩ fun m a w ⟨i, x, hi, hJ, hm, hat⟩ => ?_
  refine wp_mono (round i x hi hJ a w hat) ?_
  rintro e a' w' ⟨st', h1, h2⟩
  cases e <;> simp only [Exit.then]
  case normal =>
    obtain ⟨h3, y, h4, τ, h5⟩ := h1
    exact ⟨N - (i + 1), by omega, i + 1, y, by omega, h4, rfl, h2.weakenR h5⟩
  all_goals exact ⟨st', h1, h2⟩
/-- A loop by a measure. -/
theorem Awp.forM {c : Code} {st : St} {Q : Exit → St → Prop} {σ : Type} (S : σ → List (Nat × AV)) (H : σ → List (Nat × Blk)) (U : List Nat) (J : Nat → σ → Prop) (m0 : Nat) (x0 : σ) (h0 : J m0 x0) (hw : ∃ τ, WeakerR st τ (S x0) (H x0) U E.I)
    (round : ∀ m x, J m x → Awp E c (mkSt (S x) (H x) U) fun e st' => match e with | .normal => ∃ m' y, m' < m ∧ J m' y ∧ ∃ τ, WeakerR st' τ (S y) (H y) U E.I | e => Q e st') : Awp E (.loop c) st Q := by
  intro a w hat
  obtain ⟨τ0, hw⟩ := hw
  refine wp_loop_ghost (fun m a w => ∃ x, J m x ∧ At E (mkSt (S x) (H x) U) a w) m0 ⟨x0, h0, hat.weakenR hw⟩ fun m a w ⟨x, hJ, hat⟩ => ?_
  refine wp_mono (round m x hJ a w hat) ?_
  rintro e a' w' ⟨st', h1, h2⟩
  cases e <;> simp only [Exit.then]
  case normal =>
    obtain ⟨m', y, h3, h4, τ, h5⟩ := h1
    exact ⟨m', h3, y, h4, h2.weakenR h5⟩
  all_goals exact ⟨st', h1, h2⟩
end steps
end Go.Am

/- An abstract machine over the kit's calls, part 25: append to nil; slices held against nil; freezing of rows that lie in structs. No conditions. -/
namespace Go.Am
section ops
variable {E : Env} {T : Tab}

/-- An append of elements to nil: a new row. -/
theorem does_append_nil (hT : TabOk E.P T) {o : Oper} {c : Call} {t t2 : TypeId} (ho : o.op = .call c) (hc : c.callee = .builtin .append) (hty : c.argTypes = #[t, t2]) {d : Nat} (hdst : o.dst = some d) (hd : d < E.n) {r re r2 : TyRow} (hr : T.lookup t = some r) {e : TypeId} (hdesc : r.desc = .slice e) (hre : T.lookup e = some re) (hr2 : T.lookup t2 = some r2) (hd2 : ∀ k, r2.desc ≠ .int k)
    {f : Option Bool} {m : Nat} {ps : List PV} (hm : 0 < m) (hln : ps.length = m * re.size)
    (hb : (2 * m + 192) * re.bytes ≤ 281474976710656) (hnm : m ≤ 9223372036854775807) (hzs : re.zero.cells.size = re.size) :
    Does E o [.pv (.sl (some true) 0 []), .pv (.sl f m ps)] [] { v := .sl d 0 m re.size false, new := [(d, .cells (ps.map .pv))] } := by
  intro ι imm st a w Q hs hv _ hf
  have hUd : st.U d = false := hf (d, _) (List.mem_cons_self ..)
  have hvs := hs.evls hv
  have hops : o.op.operands.toList = c.args.toList := by rw [ho]; simp [Op.operands, Call.operands, hc]
  rw [hops] at hvs
  obtain ⟨v1, us1, he, hv1, hvs⟩ := hvs
  obtain ⟨v2, us2, he2, hv2, hvs⟩ := hvs
  simp only [VHs] at hvs
  subst hvs
  subst he2
  have hargs : c.args.map a.eval = #[v1, v2] := by apply Array.ext'; simpa using he
  simp only [VH, PH] at hv1
  obtain ⟨A, cap, rfl, _, hnil, _, hz0, _⟩ := hv1
  have hA : A = none := hnil trivial
  subst hA
  obtain ⟨_, rfl, _⟩ := hz0 rfl
  obtain ⟨vsN, g1, g2, g3⟩ := run_src (H := st.H) (y := .pv (.sl f m ps)) (sz := re.size) (m := m) (hd := []) (cs := ps.map .pv) hs rfl (fun x hx => by cases hx) (by simpa using hln) hv2
  have hlN := g2.length
  have hnew : ∀ w' : World, (∀ x, w'.cell? x = w.cell? x) → (Builtin.firstCells re.size m v2).run E.P w' = .ok (List.toArray vsN) w' := fun w' hw' => by
    have := g3 m (Nat.le_refl _) w' hw'
    rwa [List.take_of_length_le (by rw [hlN]; simp [hln])] at this
  have hold : ∀ w' : World, (∀ x, w'.cell? x = w.cell? x) → (Builtin.firstCells re.size 0 (.slice none 0 0)).run E.P w' = .ok (List.toArray []) w' := fun w' _ => by
    simp [Builtin.firstCells]
  obtain ⟨_, grown⟩ := run_append hT hr hdesc hre hr2 hd2 (ty := o.type) (t := t) (n := 0) (cap := 0) (base := none) g1 hnew hold (by simpa using hb) (by simpa using hnm)
  have hexec : ∀ {u w'}, (Builtin.append_ #[t, t2] o.type #[.slice none 0 0, v2]).run E.P w = .ok u w' → (execOp a.eval o).run E.P w = .ok (.value u) w' := fun {u w'} h => by
    simp only [execOp, ho, resolve, hc, run_bind', run_pure', invoke, builtin, hargs, hty, h]
  unfold Oper.wp
  have hdd : ∀ x, o.dst = some x → x < E.n := fun x hx => by rw [hdst] at hx; exact Option.some.inj hx ▸ hd
  obtain ⟨w1, nc, rest, hrun, hnc, ⟨e1, e2, e3, e4⟩, hrest⟩ := grown (by omega)
  rw [hexec hrun, Oper.upon_value]
  have gw : Grows ι ι imm imm w w1 := ⟨fun _ _ h => h, ⟨fun _ h => h, fun k _ => by rw [e1]⟩, fun r' c1 e1' f1 hr' => ⟨c1, f1, by rw [e1]; exact hr', rfl⟩⟩
  have hs1 : SR E ι imm ⟨st.S, st.H, st.U⟩ a w1 := hs.turn gw e2 e3 e4 (by rw [e1]; exact Nat.le_refl _) (fun k _ _ => by rw [e1]) ⟨fun b' k' hb' => by
    obtain ⟨r', z', p1, p2, p3, p4⟩ := hs.heap.blk b' k' hb'
    exact ⟨r', z', p1, p2, p3, p4.grows gw (by rw [e1])⟩, hs.heap.inj⟩ hs.used (fun _ hk => .inl hk) (fun k hk => by rw [e1]; exact hs.immlt k hk)
  have hNew : NewH ι imm w1 (Obj.cells ([] ++ vsN ++ rest).toArray e) (.cells (ps.map .pv)) := by
    refine ⟨_, _, rfl, ?_, CellsH.of_VHs (vs := vsN) (VHs.grows gw _ _ g2) fun i hi => ?_⟩
    · simp only [List.length_append, List.size_toArray, hlN, List.length_nil]; omega
    · rw [Nat.zero_add, List.getElem?_toArray, List.nil_append, List.getElem?_append_left hi]
  obtain ⟨ι', i1, i2, i3⟩ := hs1.new hUd hNew (.sl d 0 m re.size false)
  refine ⟨ι', imm, ?_⟩
  have hheap : (World.push w1 (Obj.cells ([] ++ vsN ++ rest).toArray e)).heap[w1.heap.size]? = some (Obj.cells ([] ++ vsN ++ rest).toArray e) := by
    show (w1.heap.push _)[_]? = _
    rw [Array.getElem?_push, if_pos rfl]
  have hln' : vsN.length = m * re.size := by rw [hlN]; simp [hln]
  have hfin := i3.put o.dst hdd (v := .sl d 0 m re.size false) (u := .slice (some ⟨w.heap.size, 0, none⟩) (0 + m) nc) ⟨w1.heap.size, 0, nc, i1, by rw [e1]; simp, by omega, (fun h => (by cases h)), _, _, _, hheap, by
    simp only [List.size_toArray, List.length_append, List.length_nil, hln', hrest, hzs]
    have : nc = 0 + m + (nc - (0 + m)) := by omega
    rw [this, Nat.add_mul, Nat.add_mul]
    have : 0 + m + (nc - (0 + m)) - (0 + m) = nc - (0 + m) := by omega
    rw [this]; omega⟩
  exact hfin
end ops

section steps
variable {E : Env} {T : Tab} {cq : Oper → Cls} {n : Nat} {ops : Array Oper}

theorem rexec_appendN (C : Cx E T n) {d : Nat} {c : Call} {t t2 : TypeId} {ty : TypeId} {pos : String} {af : Array Edge} {g : Option (Nat × Bool)} {st : St} {K : St → Prop} (hc : c.callee = .builtin .append) (hty : c.argTypes = #[t, t2]) (h1 : dstB n ⟨some d, .call c, ty, pos, af, g⟩ = true) (hU : st.U d = false)
    {r re r2 : TyRow} (hr : T.lookup t = some r) {e : TypeId} (hdesc : r.desc = .slice e) (hre : T.lookup e = some re) (hr2 : T.lookup t2 = some r2) (hd2 : ∀ k, r2.desc ≠ .int k) (hzs : re.zero.cells.size = re.size)
    {α : Type} {en : Enc α} {f : Option Bool} {D : List α} (hs : re.size = en.sz) (hv : evls st.S c.args.toList = some [.pv (.sl (some true) 0 []), sS f en D]) (hm : 0 < D.length)
    (hbig : (2 * D.length + 192) * re.bytes ≤ 281474976710656) (hpos : 0 < re.bytes) {nn : Nat} (hnn : nn = D.length)
    (h7 : K (st.after (some d) { v := .sl d 0 nn re.size false, new := [(d, .cells (encC en D))] })) (hcl : clsOf cq ⟨some d, .call c, ty, pos, af, g⟩ = .writer := by rfl) :
    rexec E cq n ⟨some d, .call c, ty, pos, af, g⟩ st K := by
  subst hnn
  have hd : d < E.n := by
    simp only [dstB, decide_eq_true_eq] at h1
    exact C.n ▸ h1
  have hdo := does_append_nil C.tab (o := ⟨some d, .call c, ty, pos, af, g⟩) rfl hc hty rfl hd hr hdesc hre hr2 hd2 (f := f) (ps := encL en D) hm (by rw [encL_len, hs]) hbig (by
    have : 2 * D.length + 192 ≤ (2 * D.length + 192) * re.bytes := Nat.le_mul_of_pos_right _ hpos
    omega) hzs
  have hops : (Op.operands (.call c)).toList = c.args.toList := by simp [Op.operands, Call.operands, hc]
  refine ⟨h1, _, _, _, { vals := ?_, deps := ?_, fresh := ?_, does := hdo, reach := rfl, inV := ?_, inN := ?_, inW := ?_, wr := ?_, pure := fun h => ?_, quiet := fun h => ?_, foot := by rw [hcl]; rfl }, h7⟩
  · show evls st.S (Op.operands (.call c)).toList = _
    rw [hops]; exact hv
  · intro x hx; cases hx
  · intro x hx; simp only [List.mem_singleton] at hx; subst hx; exact hU
  · simp [AV.within]
  · intro x hx; simp only [List.mem_singleton] at hx; subst hx; exact within_pvs _ _
  · intro x hx; cases hx
  · intro x hx; cases hx
  · rw [hcl] at h; cases h
  · rfl

theorem rexec_append (C : Cx E T n) {d : Nat} {c : Call} {t t2 : TypeId} {ty : TypeId} {pos : String} {af : Array Edge} {g : Option (Nat × Bool)} {st : St} {K : St → Prop} (hc : c.callee = .builtin .append) (hty : c.argTypes = #[t, t2]) (h1 : dstB n ⟨some d, .call c, ty, pos, af, g⟩ = true) (hU : st.U d = false)
    {r re r2 : TyRow} (hr : T.lookup t = some r) {e : TypeId} (hdesc : r.desc = .slice e) (hre : T.lookup e = some re) (hr2 : T.lookup t2 = some r2) (hd2 : ∀ k, r2.desc ≠ .int k) (hzs : re.zero.cells.size = re.size)
    {b l : Nat} {tt : Bool} {α : Type} {en : Enc α} {f : Option Bool} {D0 D : List α} (hs : re.size = en.sz) (hv : evls st.S c.args.toList = some [.sl b 0 l en.sz tt, sS f en D]) (hb : st.H b = some (.cells (encC en D0))) (hl : l = D0.length)
    (hbig : (2 * (D0.length + D.length) + 192) * re.bytes ≤ 281474976710656) (hpos : 0 < re.bytes) {nn : Nat} (hnn : nn = D0.length + D.length)
    (h7 : K (st.after (some d) { v := .sl d 0 nn en.sz false, new := [(d, .cells (encC en (D0 ++ D)))], wr := [(b, none)] })) (hcl : clsOf cq ⟨some d, .call c, ty, pos, af, g⟩ = .writer := by rfl) :
    rexec E cq n ⟨some d, .call c, ty, pos, af, g⟩ st K := by
  subst hl hnn
  have hnm : D0.length + D.length ≤ 9223372036854775807 := by
    have : 2 * (D0.length + D.length) + 192 ≤ (2 * (D0.length + D.length) + 192) * re.bytes := Nat.le_mul_of_pos_right _ hpos
    omega
  rw [← hs] at hv
  have hd : d < E.n := by
    simp only [dstB, decide_eq_true_eq] at h1
    exact C.n ▸ h1
  have hlen := encC_len (e := en) D0
  have hdo := does_append_own C.tab (o := ⟨some d, .call c, ty, pos, af, g⟩) rfl hc hty rfl hd hr hdesc hre hr2 hd2 (b := b) (k := 0) (n := D0.length) (tt := tt) (cs := encC en D0) (y := sS f en D) (H := st.H) (m := D.length) (hs2 := []) (new := encC en D) rfl (by rw [encC_len, hs]) (by rw [hlen, hs]; omega) (pv_flat _) hbig hnm hzs
  have hcat : ((encC en D0).drop 0).take (D0.length * re.size) ++ encC en D = encC en (D0 ++ D) := by
    rw [List.drop_zero, hs, ← hlen, List.take_length, encC_append]
  rw [hcat, hs] at hdo
  rw [hs] at hv
  have hops : (Op.operands (.call c)).toList = c.args.toList := by simp [Op.operands, Call.operands, hc]
  refine ⟨h1, _, _, _, { vals := ?_, deps := ?_, fresh := ?_, does := hdo, reach := ?_, inV := ?_, inN := ?_, inW := ?_, wr := ?_, pure := fun h => ?_, quiet := fun h => ?_, foot := by rw [hcl]; rfl }, h7⟩
  · show evls st.S (Op.operands (.call c)).toList = _
    rw [hops]; exact hv
  · intro x hx; simp only [List.mem_singleton] at hx; subst hx; exact hb
  · intro x hx; simp only [List.mem_singleton] at hx; subst hx; exact hU
  · exact reach_ptr fun U => .inl rfl
  · simp [AV.within]
  · intro x hx; simp only [List.mem_singleton] at hx; subst hx; exact within_pvs _ _
  · intro x hx k' hk
    simp only [List.mem_singleton] at hx
    subst hx
    cases hk
  · intro x hx
    simp only [List.mem_singleton] at hx
    subst hx
    simp [refs, sS, AV.withinL, AV.within]
  · rw [hcl] at h; cases h
  · rw [hcl] at h; cases h

/-! ### Slices held against nil -/
theorem rexec_eqNil (C : Cx E T n) {d : Option Nat} {t t' : TypeId} {x y : Operand} {ty : TypeId} {pos : String} {af : Array Edge} {g : Option (Nat × Bool)} {st : St} {K : St → Prop} {f : Bool} {m : Nat} {ps : List PV} {r : TyRow} {e : TypeId} (h1 : dstB n ⟨d, .binOp .eql t x y t', ty, pos, af, g⟩ = true)
    (h2 : evls st.S [x, y] = some [.pv (.sl (some f) m ps), .pv (.sl (some true) 0 [])]) (hr : T.lookup t = some r) (hd : r.desc = .slice e) (h7 : K (st.after d { v := .pv (.lit (.bool f)) })) (h8 : footB (clsOf cq ⟨d, .binOp .eql t x y t', ty, pos, af, g⟩) [] { v := .pv (.lit (.bool f)) } = true := by rfl) : rexec E cq n ⟨d, .binOp .eql t x y t', ty, pos, af, g⟩ st K := by
  refine rexec_prim C (p := True) (hs := []) (δ := { v := .pv (.lit (.bool f)) }) h1 rfl h2 ?_ trivial rfl h7 h8
  cases f <;> simp [prim, primBin, hr, hd, binAV, eqAgg, eqNil, nilS, opB]
theorem rexec_neNil (C : Cx E T n) {d : Option Nat} {t t' : TypeId} {x y : Operand} {ty : TypeId} {pos : String} {af : Array Edge} {g : Option (Nat × Bool)} {st : St} {K : St → Prop} {f : Bool} {m : Nat} {ps : List PV} {r : TyRow} {e : TypeId} (h1 : dstB n ⟨d, .binOp .neq t x y t', ty, pos, af, g⟩ = true)
    (h2 : evls st.S [x, y] = some [.pv (.sl (some f) m ps), .pv (.sl (some true) 0 [])]) (hr : T.lookup t = some r) (hd : r.desc = .slice e) (h7 : K (st.after d { v := .pv (.lit (.bool !f)) })) (h8 : footB (clsOf cq ⟨d, .binOp .neq t x y t', ty, pos, af, g⟩) [] { v := .pv (.lit (.bool !f)) } = true := by rfl) : rexec E cq n ⟨d, .binOp .neq t x y t', ty, pos, af, g⟩ st K := by
  refine rexec_prim C (p := True) (hs := []) (δ := { v := .pv (.lit (.bool !f)) }) h1 rfl h2 ?_ trivial rfl h7 h8
  cases f <;> simp [prim, primBin, hr, hd, binAV, eqAgg, eqNil, nilS, opB]

/-! ### Freezing -/
def Frz0 (b : Nat) (ps : List PV) (x y : AV) : Prop := x = y ∨ ∃ m s tt, x = .sl b 0 m s tt ∧ y = .pv (.sl (some false) m ps)
def FrzL (b : Nat) (ps : List PV) : List AV → List AV → Prop
  | [], [] => True
  | x :: xs, y :: ys => Frz0 b ps x y ∧ FrzL b ps xs ys
  | _, _ => False
def Frz (b : Nat) (ps : List PV) (x y : AV) : Prop := Frz0 b ps x y ∨ ∃ cs cs', x = .agg cs ∧ y = .agg cs' ∧ FrzL b ps cs cs'
def FrzS (st : St) (b : Nat) (ps : List PV) : List (Nat × AV) → Prop
  | [] => True
  | x :: xs => (∃ u, st.S x.1 = some u ∧ Frz b ps u x.2) ∧ FrzS st b ps xs
def FrzH (st : St) (b : Nat) (ps : List PV) : List (Nat × Blk) → Prop
  | [] => True
  | x :: xs => (x.1 ≠ b ∧ ((st.H x.1 = some x.2) ∨ ∃ cs cs', st.H x.1 = some (.cells cs) ∧ x.2 = .cells cs' ∧ FrzL b ps cs cs')) ∧ FrzH st b ps xs
theorem FrzS.mem {st : St} {b : Nat} {ps : List PV} : ∀ {l : List (Nat × AV)}, FrzS st b ps l → ∀ x ∈ l, ∃ u, st.S x.1 = some u ∧ Frz b ps u x.2
  | [], _, x, hx => by cases hx
  | y :: ys, h, x, hx => by
    cases hx with
    | head => exact h.1
    | tail _ hm => exact FrzS.mem h.2 x hm
theorem FrzH.mem {st : St} {b : Nat} {ps : List PV} : ∀ {l : List (Nat × Blk)}, FrzH st b ps l → ∀ x ∈ l, x.1 ≠ b ∧ ((st.H x.1 = some x.2) ∨ ∃ cs cs', st.H x.1 = some (.cells cs) ∧ x.2 = .cells cs' ∧ FrzL b ps cs cs')
  | [], _, x, hx => by cases hx
  | y :: ys, h, x, hx => by
    cases hx with
    | head => exact h.1
    | tail _ hm => exact FrzH.mem h.2 x hm
theorem FrzL.length {b : Nat} {ps : List PV} : ∀ {xs ys : List AV}, FrzL b ps xs ys → ys.length = xs.length
  | [], [], _ => rfl
  | x :: xs, y :: ys, h => by simp [FrzL.length h.2]
  | [], _ :: _, h => h.elim
  | _ :: _, [], h => h.elim
theorem FrzL.vhs {b : Nat} {ps : List PV} {ι : Nat → Option (Nat × Nat)} {imm' : Nat → Prop} {w : World} (h0 : ∀ x y v, Frz0 b ps x y → VH ι imm' w x v → VH ι imm' w y v) : ∀ {xs ys : List AV} {vs : List Value}, FrzL b ps xs ys → VHs ι imm' w xs vs → VHs ι imm' w ys vs
  | [], [], _, _, h => h
  | x :: xs, y :: ys, vs, h, hv => by
    obtain ⟨v, us, rfl, q1, q2⟩ := hv
    exact ⟨v, us, rfl, h0 _ _ _ h.1 q1, FrzL.vhs h0 h.2 q2⟩
  | [], _ :: _, _, h, _ => h.elim
  | _ :: _, [], _, h, _ => h.elim
theorem FrzL.cells {b : Nat} {ps : List PV} {ι : Nat → Option (Nat × Nat)} {imm' : Nat → Prop} {w : World} {c : Array Value} (h0 : ∀ x y v, Frz0 b ps x y → VH ι imm' w x v → VH ι imm' w y v) : ∀ {xs ys : List AV} {o : Nat}, FrzL b ps xs ys → CellsH ι imm' w c xs o → CellsH ι imm' w c ys o
  | [], [], _, _, h => h
  | x :: xs, y :: ys, o, h, hv => by
    obtain ⟨⟨v, q1, q2⟩, q3⟩ := hv
    exact ⟨⟨v, q1, h0 _ _ _ h.1 q2⟩, FrzL.cells h0 h.2 q3⟩
  | [], _ :: _, _, h, _ => h.elim
  | _ :: _, [], _, h, _ => h.elim

theorem At.freezeW {st : St} {a : Act} {w : World} (h : At E st a w) (b : Nat) (ps : List PV) (hb : st.H b = some (.cells (ps.map .pv))) (S' : List (Nat × AV)) (H' : List (Nat × Blk)) (hS : FrzS st b ps S') (hH : FrzH st b ps H') : At E ⟨fun t => S'.lookup t, fun x => H'.lookup x, st.U⟩ a w := by
  obtain ⟨ι, imm, h⟩ := h
  obtain ⟨r, z, q1, q2, q3, c, e, f, q4, q5, q6, q7⟩ := h.heap.blk b _ hb
  have hlt : r < w.heap.size := by
    rcases Nat.lt_or_ge r w.heap.size with h' | h'
    · exact h'
    · rw [Array.getElem?_eq_none h'] at q4; cases q4
  let imm' : Nat → Prop := fun k => imm k ∨ k = r
  have g : Grows ι ι imm imm' w w := ⟨fun _ _ h => h, ⟨fun _ hk => .inl hk, fun _ _ => rfl⟩, fun r c e f hr => ⟨c, f, hr, rfl⟩⟩
  have h0 : ∀ x y v, Frz0 b ps x y → VH ι imm' w x v → VH ι imm' w y v := fun x y v hxy hv => by
    rcases hxy with rfl | ⟨m, s, tt, rfl, rfl⟩
    · exact hv
    · simp only [VH] at hv
      obtain ⟨r', z', cap, i1, rfl, i3, _⟩ := hv
      rw [q1] at i1
      simp only [Option.some.injEq, Prod.mk.injEq] at i1
      obtain ⟨rfl, rfl⟩ := i1
      simp only [VH, PH]
      refine ⟨_, cap, rfl, i3, fun h => (by simp at h), fun _ h => (by simp at h), fun h => (by simp at h), fun A hA _ => ?_⟩
      simp only [Option.some.injEq] at hA
      subst hA
      exact ⟨rfl, .inr rfl, PHs.of_cells (i := imm) (ι := ι) (w := w) ⟨fun _ hk => .inl hk, fun _ _ => rfl⟩ (fun o => cell_of_heap q4 o) q7⟩
  have hHm : ∀ x k, H'.lookup x = some k → x ≠ b ∧ ∃ k0, st.H x = some k0 ∧ (k0 = k ∨ ∃ cs cs', k0 = .cells cs ∧ k = .cells cs' ∧ FrzL b ps cs cs') := fun x k hk => by
    obtain ⟨n1, n2⟩ := hH.mem _ (lookup_mem (l := H') hk)
    refine ⟨n1, ?_⟩
    rcases n2 with n2 | ⟨cs, cs', p1, p2, p3⟩
    · exact ⟨k, n2, .inl rfl⟩
    · exact ⟨_, p1, .inr ⟨cs, cs', rfl, p2, p3⟩⟩
  refine ⟨ι, imm', h.defers, h.size, fun t v hv => ?_, ⟨fun x k hx => ?_, fun x x' k k' r z z' hx hx' => ?_⟩, fun x y hx => h.used x y hx, h.grow.trans g, h.ext, fun k hk => ?_, fun k hk => ?_⟩
  · obtain ⟨u, hu, hf⟩ := hS.mem _ (lookup_mem (l := S') hv)
    have hu' := VH.grows g u _ (h.slot t u hu)
    rcases hf with hf | ⟨cs, cs', rfl, e2, hf⟩
    · exact h0 _ _ _ hf hu'
    · simp only at e2
      subst e2
      simp only [VH] at hu' ⊢
      obtain ⟨vs, p1, p2⟩ := hu'
      exact ⟨vs, p1, FrzL.vhs h0 hf p2⟩
  · obtain ⟨hne, k0, hx0, hk⟩ := hHm x k hx
    obtain ⟨r', z', p1, p2, p3, p4⟩ := h.heap.blk x k0 hx0
    refine ⟨r', z', p1, fun hi => hi.elim p2 fun e => ?_, p3, ?_⟩
    · subst e
      exact hne (h.heap.inj x b k0 _ r' z' z hx0 hb p1 q1)
    · have p4' := BlkH.grows g rfl p4
      rcases hk with rfl | ⟨cs, cs', rfl, rfl, hf⟩
      · exact p4'
      · obtain ⟨c1, e1, f1, s1, s2, s3, s4⟩ := p4'
        exact ⟨c1, e1, f1, s1, by rw [hf.length]; exact s2, s3, FrzL.cells h0 hf s4⟩
  · obtain ⟨_, k0, hx0, _⟩ := hHm x k hx
    obtain ⟨_, k1, hx1, _⟩ := hHm x' k' hx'
    exact h.heap.inj x x' k0 k1 r z z' hx0 hx1
  · rcases hk with hk | rfl
    · exact h.immM k hk
    · exact .inr q3
  · rcases hk with hk | rfl
    · exact h.immlt k hk
    · exact hlt

/-- A row of one's own does not change from here on. -/
theorem Awp.freezeW {c : Code} {st : St} {Q : Exit → St → Prop} (b : Nat) (ps : List PV) (hb : st.H b = some (.cells (ps.map .pv))) (S' : List (Nat × AV)) (H' : List (Nat × Blk)) (hS : FrzS st b ps S') (hH : FrzH st b ps H') (h : Awp E c ⟨fun t => S'.lookup t, fun x => H'.lookup x, st.U⟩ Q) : Awp E c st Q :=
  fun a w hat => h a w (hat.freezeW b ps hb S' H' hS hH)
end steps
end Go.Am

/- An abstract machine over the kit's calls, part 26: rows of one's own told by lists: made, read, written; slices cut. No conditions. -/
namespace Go.Am
section steps
variable {E : Env} {T : Tab} {cq : Oper → Cls} {n : Nat} {ops : Array Oper}

/-- An operation whose outcome is told in other words. -/
theorem rexec_primv (C : Cx E T n) {d : Option Nat} {op : Op} {ty : TypeId} {pos : String} {af : Array Edge} {g : Option (Nat × Bool)} {st : St} {K : St → Prop} {xs : List Operand} {vs : List AV} {p : Prop} {hs : List (Nat × Blk)} {δ : Delta} (δ' : Delta) (h1 : dstB n ⟨d, op, ty, pos, af, g⟩ = true)
    (hx : op.operands.toList = xs) (h2 : evls st.S xs = some vs) (h4 : prim T ⟨d, op, ty, pos, af, g⟩ vs st.H = some (p, hs, δ)) (h5 : p) (hv : δ = δ') (h6 : freshB st.U δ' = true) (h7 : K (st.after d δ')) (h8 : footB (clsOf cq ⟨d, op, ty, pos, af, g⟩) hs δ' = true := by rfl) :
    rexec E cq n ⟨d, op, ty, pos, af, g⟩ st K := by
  subst hv
  exact rexec_prim C h1 hx h2 h4 h5 h6 h7 h8

/-- A literal row that will not change. -/
theorem rexec_buildSliceF (C : Cx E T n) {d : Option Nat} {t : TypeId} {l : Nat} {parts : Array (Nat × Operand)} {ty : TypeId} {pos : String} {af : Array Edge} {g : Option (Nat × Bool)} {st : St} {K : St → Prop} {r re : TyRow} {te : TypeId} {us : List AV} {α : Type} (e : Enc α) (D : List α) (h1 : dstB n ⟨d, .buildSlice t l parts, ty, pos, af, g⟩ = true)
    (h2 : evls st.S (parts.toList.map (·.2)) = some us) (hr : T.lookup t = some r) (hdesc : r.desc = .slice te) (hre : T.lookup te = some re) (hl : l = D.length) (hs : re.size = e.sz) (hbig : l * re.size ≤ 16777216) (hz : fillAV (fun i => some (i * re.size, re.size)) (zeroAV re.zero.cells (l * re.size)) (parts.toList.zipWith (fun p u => (p.1, u)) us) = some (encC e D))
    (h7 : K (st.after d { v := sS (some false) e D })) : rexec E cq n ⟨d, .buildSlice t l parts, ty, pos, af, g⟩ st K := by
  have hd : ∀ x, d = some x → x < E.n := fun x e => by
    simp only [dstB, e, decide_eq_true_eq] at h1
    exact C.n ▸ h1
  have hlen : (encL e D).length = l * re.size := by rw [encL_len, hl, hs]
  have hm := makes_buildSlice C.tab (E := E) (o := ⟨d, .buildSlice t l parts, ty, pos, af, g⟩) (n := l) (parts := parts) rfl hr hdesc hre hbig hz (by rw [encC_len, hl, hs])
  have hD : sS (some false) e D = .pv (.sl (some false) l (encL e D)) := by rw [hl]; rfl
  rw [hD] at h7
  refine ⟨h1, _, _, _, Move.of_frozen (hm.frozen hd) ?_ _, h7⟩
  simpa [Op.operands] using h2

/-- A row of zeros is a list of the zero value. -/
theorem zeroAV_rep {α : Type} {z : Array Value} {e : Enc α} {a : α} (hs : z.size = e.sz) (hz : z.toList.map constCell = (e.enc a).map .pv) : ∀ (m : Nat), zeroAV z (m * e.sz) = encC e (List.replicate m a)
  | 0 => by simp [zeroAV, encC, encL]
  | m + 1 => by
    have ih := zeroAV_rep hs hz m
    have h1 : zeroAV z ((m + 1) * e.sz) = zeroAV z (m * e.sz) ++ z.toList.map constCell := by
      simp only [zeroAV]
      rw [Nat.add_mul, Nat.one_mul, List.range_add, List.map_append]
      congr 1
      rw [List.map_map]
      apply List.ext_getElem
      · simp [hs]
      · intro i h1 h2
        simp only [List.length_map, List.length_range] at h1
        have hlt : i < z.size := by omega
        have hmod : (m * e.sz + i) % z.size = i := by rw [hs, Nat.mul_comm, Nat.mul_add_mod, Nat.mod_eq_of_lt (by omega)]
        simp only [List.getElem_map, List.getElem_range, Function.comp, hmod, Array.getElem_toList]
        rw [getElem!_pos z i hlt]
    rw [h1, ih, hz, List.replicate_succ', encC_append]
    simp [encC, encL]

/-- A row of zeros. -/
theorem rexec_makeSlice (C : Cx E T n) {d : Nat} {t : TypeId} {x y : Operand} {ty : TypeId} {pos : String} {af : Array Edge} {g : Option (Nat × Bool)} {st : St} {K : St → Prop} {k k' : IntKind} {len : Int} {r re : TyRow} {te : TypeId} {α : Type} (e : Enc α) (a : α) (m : Nat) (h1 : dstB n ⟨some d, .makeSlice t x y, ty, pos, af, g⟩ = true)
    (h2 : evls st.S [x, y] = some [.pv (.lit (.int k len)), .pv (.lit (.int k' len))]) (hr : T.lookup t = some r) (hdesc : r.desc = .slice te) (hre : T.lookup te = some re) (hm : len.toNat = m) (hb : 0 ≤ len ∧ len ≤ 140737488355328 ∧ re.bytes * len ≤ 140737488355328) (hs : re.size = e.sz) (hzs : re.zero.cells.size = e.sz) (hz : re.zero.cells.toList.map constCell = (e.enc a).map .pv) (h6 : st.U d = false)
    (h7 : K (st.after (some d) { v := .sl d 0 m e.sz true, new := [(d, .cells (encC e (List.replicate m a)))] })) (h8 : footB (clsOf cq ⟨some d, .makeSlice t x y, ty, pos, af, g⟩) [] { v := .sl d 0 m e.sz true, new := [(d, .cells (encC e (List.replicate m a)))] } = true := by rfl) : rexec E cq n ⟨some d, .makeSlice t x y, ty, pos, af, g⟩ st K := by
  refine rexec_primv C (p := 0 ≤ len ∧ len ≤ len ∧ len ≤ 140737488355328 ∧ re.bytes * len ≤ 140737488355328) (hs := []) (δ := { v := .sl d 0 len.toNat re.size (decide (len = len)), new := [(d, .cells (zeroAV re.zero.cells (len.toNat * re.size)))] }) _ h1 rfl h2 ?_ ⟨hb.1, Int.le_refl _, hb.2⟩ ?_ ?_ h7 h8
  · simp only [prim, primMakeSlice, hr, hdesc, hre]
  · rw [hm, hs, zeroAV_rep hzs hz]; simp
  · simp [freshB, h6]

theorem encC_dropAt {α : Type} {e : Enc α} {D : List α} {i off : Nat} {a : α} (ha : D[i]? = some a) (ho : off ≤ e.sz) : (encC e D).drop (i * e.sz + off) = ((e.enc a).map .pv).drop off ++ encC e (D.drop (i + 1)) := by
  have h1 : (encC e D).drop (i * e.sz) = (e.enc a).map .pv ++ encC e (D.drop (i + 1)) := by
    simp only [encC, ← List.map_drop]
    rw [encL_drop, drop_at ha]
    simp [encL]
  rw [← List.drop_drop, h1, List.drop_append_of_le_length (by simp [e.len, ho])]

/-- An element, or a part of one, out of a row of one's own. -/
theorem rexec_loadE (C : Cx E T n) {d : Option Nat} {t : TypeId} {x : Operand} {ty : TypeId} {pos : String} {af : Array Edge} {g : Option (Nat × Bool)} {st : St} {K : St → Prop} {b k : Nat} {r : TyRow} {α : Type} {e : Enc α} {D : List α} (i off : Nat) (a : α) (v : AV) (h1 : dstB n ⟨d, .load t x, ty, pos, af, g⟩ = true)
    (h2 : evl st.S x = some (.ptr b k)) (h3 : st.H b = some (.cells (encC e D))) (hr : T.lookup t = some r) (ha : D[i]? = some a) (hk : k = i * e.sz + off) (ho : off + r.size ≤ e.sz) (hz : 0 < r.size) (hv : readAV r (((e.enc a).map .pv).drop off) = some v)
    (h7 : K (st.after d { v := v })) (h8 : footB (clsOf cq ⟨d, .load t x, ty, pos, af, g⟩) [(b, .cells (encC e D))] { v := v } = true := by rfl) : rexec E cq n ⟨d, .load t x, ty, pos, af, g⟩ st K := by
  subst hk
  refine rexec_prim C (p := True) (hs := [(b, .cells (encC e D))]) (δ := { v := v }) h1 rfl (vs := [.ptr b (i * e.sz + off)]) (by show evls st.S [x] = _; simp only [evls, h2]) ?_ trivial rfl h7 h8
  have hl : (((e.enc a).map AV.pv).drop off).length = e.sz - off := by simp [e.len]
  have : readAV r ((encC e D).drop (i * e.sz + off)) = some v := by
    rw [encC_dropAt ha (by omega), ← hv]
    unfold readAV
    split
    · rw [if_pos (by rw [List.length_append, hl]; omega), if_pos (by rw [hl]; omega), List.take_append_of_le_length (by rw [hl]; omega)]
    · cases hq : ((e.enc a).map AV.pv).drop off with
      | nil => rw [hq] at hl; simp at hl; omega
      | cons y ys => rfl
  simp only [prim, primLoad, hr, h3, this]

theorem setRange_mid {xs ys zs new : List AV} {o : Nat} (h : o + new.length ≤ ys.length) : setRange (xs ++ ys ++ zs) (xs.length + o) new = xs ++ setRange ys o new ++ zs := by
  simp only [setRange]
  rw [List.append_assoc xs ys zs, List.take_length_add_append, List.take_append_of_le_length (by omega), show xs.length + o + new.length = xs.length + (o + new.length) by omega, List.drop_length_add_append, List.drop_append_of_le_length (by omega)]
  simp

/-- A store into an element of a row of one's own. -/
theorem rexec_storeE (C : Cx E T n) {t : TypeId} {x y : Operand} {ty : TypeId} {pos : String} {af : Array Edge} {g : Option (Nat × Bool)} {st : St} {K : St → Prop} {b k : Nat} {r : TyRow} {u : AV} {xs : List AV} {α : Type} {e : Enc α} {D : List α} (i off : Nat) (a a' : α) (h1 : dstB n ⟨none, .store t x y, ty, pos, af, g⟩ = true)
    (h2 : evls st.S [x, y] = some [.ptr b k, u]) (h3 : st.H b = some (.cells (encC e D))) (hr : T.lookup t = some r) (ha : D[i]? = some a) (hk : k = i * e.sz + off) (hu : cellsOf u = some xs) (hxs : xs.length = r.size) (hfl : xs.all flatCell = true) (ho : off + xs.length ≤ e.sz) (hset : setRange ((e.enc a).map .pv) off xs = (e.enc a').map .pv)
    (h7 : K (st.after none { v := .undef, wr := [(b, some (.cells (encC e (D.set i a'))))] })) (h8 : footB (clsOf cq ⟨none, .store t x y, ty, pos, af, g⟩) [(b, .cells (encC e D))] { v := .undef, wr := [(b, some (.cells (encC e (D.set i a'))))] } = true := by rfl) : rexec E cq n ⟨none, .store t x y, ty, pos, af, g⟩ st K := by
  subst hk
  have hi : i < D.length := by
    rcases Nat.lt_or_ge i D.length with h' | h'
    · exact h'
    · rw [List.getElem?_eq_none h'] at ha; cases ha
  have hle : i * e.sz + e.sz ≤ (encC e D).length := by
    rw [encC_len]
    have : (i + 1) * e.sz ≤ D.length * e.sz := Nat.mul_le_mul_right _ hi
    rw [Nat.add_mul] at this
    omega
  have hcut : setRange (encC e D) (i * e.sz + off) xs = encC e (D.set i a') := by
    have e1 : encC e D = encC e (D.take i) ++ (e.enc a).map .pv ++ encC e (D.drop (i + 1)) := by
      have : (e.enc a).map AV.pv = encC e [a] := by simp [encC, encL]
      rw [this, ← encC_append, ← encC_append]
      congr 1
      rw [List.append_assoc, List.singleton_append, ← drop_at ha, List.take_append_drop]
    have l1 : (encC e (D.take i)).length = i * e.sz := by rw [encC_len, List.length_take, Nat.min_eq_left (by omega)]
    rw [e1, ← l1, setRange_mid (by simp [e.len]; omega), hset]
    have : (e.enc a').map AV.pv = encC e [a'] := by simp [encC, encL]
    rw [this, ← encC_append, ← encC_append, List.set_eq_take_append_cons_drop, if_pos hi]
    simp
  refine rexec_primv C (p := True) (hs := [(b, .cells (encC e D))]) (δ := { v := .undef, wr := [(b, some (.cells (setRange (encC e D) (i * e.sz + off) xs)))] }) _ h1 rfl h2 ?_ trivial (by rw [hcut]) rfl h7 h8
  simp only [prim, primStore, hr, h3, hu]
  rw [if_pos ⟨hxs, by omega, hfl⟩]

/-- A slice that does not change, cut. -/
theorem rexec_sliceS (C : Cx E T n) {d : Option Nat} {t : TypeId} {x : Operand} {lo hi : Option Operand} {ty : TypeId} {pos : String} {af : Array Edge} {g : Option (Nat × Bool)} {st : St} {K : St → Prop} {r re : TyRow} {te : TypeId} {α : Type} {e : Enc α} {D : List α} {f : Option Bool} (l h : Nat) {vs : List AV} {li hi' : Option Int} {v1 v2 : List AV} (h1 : dstB n ⟨d, .slice t x lo hi none, ty, pos, af, g⟩ = true)
    (h2 : evls st.S (Op.operands (.slice t x lo hi none)).toList = some (sS f e D :: vs)) (hr : T.lookup t = some r) (hdesc : r.desc = .slice te) (hre : T.lookup te = some re) (hs : re.size = e.sz) (hlo : optI vs lo = some (li, v1)) (hhi : optI v1 hi = some (hi', v2)) (hl0 : li.getD 0 = (l : Int)) (hh0 : hi'.getD (D.length : Int) = (h : Int)) (hlh : l ≤ h) (hhn : h ≤ D.length) (D' : List α) (hD : (D.drop l).take (h - l) = D')
    (h7 : K (st.after d { v := sS f e D' })) (h8 : footB (clsOf cq ⟨d, .slice t x lo hi none, ty, pos, af, g⟩) [] { v := sS f e D' } = true := by rfl) : rexec E cq n ⟨d, .slice t x lo hi none, ty, pos, af, g⟩ st K := by
  subst hD
  have key : sS f e ((D.drop l).take (h - l)) = .pv (.sl f (h - l) (((encL e D).drop (l * e.sz)).take ((h - l) * e.sz))) := by
    rw [encL_drop, encL_take]
    simp only [sS, List.length_take, List.length_drop]
    rw [Nat.min_eq_left (by omega)]
  rw [key] at h7 h8
  have hmx : optI v2 none = some (none, v2) := by cases v2 <;> rfl
  cases hi' with
  | some hv =>
    simp only [Option.getD_some] at hh0
    subst hh0
    refine rexec_prim C (p := 0 ≤ li.getD 0 ∧ li.getD 0 ≤ (h : Int) ∧ (h : Int) ≤ (D.length : Int)) (hs := []) (δ := { v := .pv (.sl f (h - l) (((encL e D).drop (l * e.sz)).take ((h - l) * e.sz))) }) h1 rfl h2 ?_ (by rw [hl0]; omega) rfl h7 h8
    simp only [prim, primSlice, hr, hlo, hhi, hmx, sliceAV, hdesc, hre, sS, cutOf, hs, hl0, Int.toNat_natCast]
  | none =>
    simp only [Option.getD_none] at hh0
    have hh1 : h = D.length := by omega
    subst hh1
    refine rexec_prim C (p := 0 ≤ li.getD 0 ∧ li.getD 0 ≤ (D.length : Int)) (hs := []) (δ := { v := .pv (.sl f (D.length - l) (((encL e D).drop (l * e.sz)).take ((D.length - l) * e.sz))) }) h1 rfl h2 ?_ (by rw [hl0]; omega) rfl h7 h8
    simp only [prim, primSlice, hr, hlo, hhi, hmx, sliceAV, hdesc, hre, sS, cutOf, hs, hl0, Int.toNat_natCast]
end steps
end Go.Am

/- An abstract machine over the kit's calls, part 27: slices that grow in loops. No conditions. -/
namespace Go.Am
section grows
variable {α : Type} {e : Enc α} {l : List α} {b : Nat} {τ : Nat → Nat} {U : List Nat}

theorem grow_nil (h : l = []) : grow b e l = sS (some l.isEmpty) e l := by subst h; rfl
theorem grow_cons (h : l ≠ []) : grow b e l = .sl b 0 l.length e.sz false := by
  cases l with
  | nil => exact absurd rfl h
  | cons x l => rfl
theorem grow_ren : (grow b e l).ren τ = grow (τ b) e l := by cases l <;> rfl
theorem grow_within {U : Nat → Bool} (h : U b = true) : (grow b e l).within U = true := by
  cases l
  · rfl
  · exact h
theorem growH_cons (h : l ≠ []) : growH b e l = [(b, .cells (encC e l))] := by
  cases l with
  | nil => exact absurd rfl h
  | cons x l => rfl
theorem growH_nil (h : l = []) : growH b e l = [] := by subst h; rfl
theorem ne_isEmpty (h : l ≠ []) : l.isEmpty = false := by cases l <;> simp_all
theorem app_ne {x : α} : l ++ [x] ≠ [] := by simp
/-- What a grown slice is at the loop's head. -/
theorem grow_is (h : l ≠ []) {m s : Nat} (hm : m = l.length) (hs : s = e.sz) : some (AV.sl b 0 m s false) = some (grow b e l) := by
  rw [grow_cons h, hm, hs]

/-- Blocks as told, named anew, and within. -/
def okH (f : Nat → Option Blk) (τ : Nat → Nat) (U Ks : List Nat) (H : List (Nat × Blk)) : Prop :=
  ∀ x ∈ H, f (τ x.1) = some (x.2.ren τ) ∧ Ks.contains x.1 = true ∧ U.contains x.1 = true ∧ x.2.within (fun b => U.contains b) = true
def okS (f : Nat → Option AV) (τ : Nat → Nat) (U : List Nat) : List (Nat × AV) → Prop
  | [] => True
  | x :: xs => (f x.1 = some (x.2.ren τ) ∧ x.2.within (fun b => U.contains b) = true) ∧ okS f τ U xs
variable {f : Nat → Option Blk} {Ks : List Nat} {H : List (Nat × Blk)}
theorem okH_nil : okH f τ U Ks [] := fun x hx => by cases hx
theorem okH_cons {c : Nat} {k : Blk} (h1 : f (τ c) = some (k.ren τ)) (h2 : Ks.contains c = true) (h3 : U.contains c = true) (h4 : k.within (fun b => U.contains b) = true) (h : okH f τ U Ks H) : okH f τ U Ks ((c, k) :: H) := fun x hx => by
  cases hx with
  | head => exact ⟨h1, h2, h3, h4⟩
  | tail _ hm => exact h x hm
theorem encC_ren (D : List α) : AV.renL τ (encC e D) = encC e D := AV.renL_none _ (encC_within D _)
theorem okH_grow (h1 : l ≠ [] → f (τ b) = some (.cells (encC e l))) (h2 : Ks.contains b = true) (h3 : U.contains b = true) (h : okH f τ U Ks H) : okH f τ U Ks (growH b e l ++ H) := fun x hx => by
  rcases List.mem_append.1 hx with hx | hx
  · cases l with
    | nil => cases hx
    | cons y ys =>
      simp only [growH, List.mem_singleton] at hx
      subst hx
      refine ⟨?_, h2, h3, ?_⟩
      · rw [h1 (by simp)]; simp only [Blk.ren, encC_ren]
      · exact encC_within _ _
  · exact h x hx
theorem okH_list {c : Nat} (h1 : f (τ c) = some (.cells (encC e l))) (h2 : Ks.contains c = true) (h3 : U.contains c = true) (h : okH f τ U Ks H) : okH f τ U Ks ((c, .cells (encC e l)) :: H) :=
  okH_cons (by rw [h1]; simp only [Blk.ren, encC_ren]) h2 h3 (encC_within _ _) h
theorem okS_mem {f : Nat → Option AV} : ∀ {S : List (Nat × AV)}, okS f τ U S → ∀ x ∈ S, f x.1 = some (x.2.ren τ) ∧ x.2.within (fun b => U.contains b) = true
  | [], _, x, hx => by cases hx
  | y :: ys, h, x, hx => by
    cases hx with
    | head => exact h.1
    | tail _ hm => exact okS_mem h.2 x hm
end grows

theorem WeakerR.ofL {E : Env} {st : St} {τ : Nat → Nat} {S : List (Nat × AV)} {H : List (Nat × Blk)} {U Ks : List Nat} (hI : E.I = []) (h1 : okS st.S τ U S) (h2 : okH st.H τ U Ks H) (h5 : (Ks.all fun x => Ks.all fun y => !(τ x == τ y) || x == y) = true) : WeakerR st τ S H U E.I :=
  ⟨fun x hx => (okS_mem h1 x hx).1, fun x hx => (h2 x hx).1, List.all_eq_true.2 fun x hx => (okS_mem h1 x hx).2, List.all_eq_true.2 fun x hx => by rw [Bool.and_eq_true]; exact ⟨(h2 x hx).2.2.1, (h2 x hx).2.2.2⟩, fun x hx y hy e => by
    have := List.all_eq_true.1 (List.all_eq_true.1 h5 x.1 (by simpa using (h2 x hx).2.1)) y.1 (by simpa using (h2 y hy).2.1)
    simpa [e] using this, by rw [hI]; rfl⟩

/-- A state in other words. -/
theorem Awp.wordsR {E : Env} {c : Code} {st : St} {Q : Exit → St → Prop} (S : List (Nat × AV)) (H : List (Nat × Blk)) (U : List Nat) (hw : WeakerR st (fun b => b) S H U E.I) (h : Awp E c (mkSt S H U) Q) : Awp E c st Q := Awp.weakenR _ hw h

section steps
theorem SR.weakV {E : Env} {ι : Nat → Option (Nat × Nat)} {imm : Nat → Prop} {st : St} {d : Option Nat} {δ : Delta} {v' : AV} {a : Act} {w : World} (h : SR E ι imm (st.after d δ) a w) (hw : ∀ u, VH ι imm w δ.v u → VH ι imm w v' u) : SR E ι imm (st.after d { δ with v := v' }) a w :=
  { h with
    slot := fun t v hv => by
      cases d with
      | none => exact h.slot t v hv
      | some x =>
        have hv' : (if t = x then some v' else st.S t) = some v := hv
        by_cases e : t = x
        · rw [if_pos e] at hv'
          obtain rfl := Option.some.inj hv'
          exact hw _ (h.slot t δ.v (by show (if t = x then some δ.v else st.S t) = _; rw [if_pos e]))
        · rw [if_neg e] at hv'
          exact h.slot t v (by show (if t = x then some δ.v else st.S t) = _; rw [if_neg e]; exact hv') }
/-- The tightness of a slice is forgotten. -/
theorem loose {ι : Nat → Option (Nat × Nat)} {imm : Nat → Prop} {w : World} {b o n s : Nat} {t : Bool} {u : Value} (h : VH ι imm w (.sl b o n s t) u) : VH ι imm w (.sl b o n s false) u := by
  simp only [VH] at h ⊢
  obtain ⟨r, z, cap, h1, h2, h3, _, h5⟩ := h
  exact ⟨r, z, cap, h1, h2, h3, fun h => (by cases h), h5⟩
/-- .. anywhere between two texts. -/
theorem At.loose {E : Env} {st : St} {a : Act} {w : World} (h : At E st a w) {t b o n s : Nat} {tt : Bool} (ht : st.S t = some (.sl b o n s tt)) : At E (st.set t (.sl b o n s false)) a w := by
  obtain ⟨ι, imm, h⟩ := h
  refine ⟨ι, imm, { h with slot := fun x v hv => ?_ }⟩
  have hv' : (if x = t then some (AV.sl b o n s false) else st.S x) = some v := hv
  by_cases e : x = t
  · rw [if_pos e] at hv'
    obtain rfl := Option.some.inj hv'
    subst e
    exact Am.loose (h.slot x _ ht)
  · rw [if_neg e] at hv'
    exact h.slot x v hv'
theorem Awp.loose {E : Env} {c : Code} {st : St} {Q : Exit → St → Prop} (t b o n s : Nat) (tt : Bool) (ht : st.S t = some (.sl b o n s tt)) (h : Awp E c (st.set t (.sl b o n s false)) Q) : Awp E c st Q := fun a w hat => h a w (hat.loose ht)
end steps
section steps
variable {E : Env} {T : Tab} {cq : Oper → Cls} {n : Nat} {ops : Array Oper}
/-- An append to a slice that is nil as yet. -/
theorem rexec_appendG (C : Cx E T n) {d : Nat} {c : Call} {t t2 : TypeId} {ty : TypeId} {pos : String} {af : Array Edge} {g : Option (Nat × Bool)} {st : St} {K : St → Prop} (hc : c.callee = .builtin .append) (hty : c.argTypes = #[t, t2]) (h1 : dstB n ⟨some d, .call c, ty, pos, af, g⟩ = true) (hU : st.U d = false)
    {r re r2 : TyRow} (hr : T.lookup t = some r) {e : TypeId} (hdesc : r.desc = .slice e) (hre : T.lookup e = some re) (hr2 : T.lookup t2 = some r2) (hd2 : ∀ k, r2.desc ≠ .int k) (hzs : re.zero.cells.size = re.size)
    {α : Type} {en : Enc α} {f : Option Bool} {fl : Bool} {D l : List α} (hs : re.size = en.sz) (hv : evls st.S c.args.toList = some [sS (some fl) en l, sS f en D]) (hl : l = []) (hfl : fl = true) (hm : 0 < D.length)
    (hbig : (2 * D.length + 192) * re.bytes ≤ 281474976710656) (hpos : 0 < re.bytes) {nn : Nat} (hnn : nn = (l ++ D).length)
    (h7 : K (st.after (some d) { v := .sl d 0 nn en.sz false, new := [(d, .cells (encC en (l ++ D)))] })) (hcl : clsOf cq ⟨some d, .call c, ty, pos, af, g⟩ = .writer := by rfl) :
    rexec E cq n ⟨some d, .call c, ty, pos, af, g⟩ st K := by
  subst hl hfl hnn
  refine rexec_appendN C hc hty h1 hU hr hdesc hre hr2 hd2 hzs hs hv hm hbig hpos (nn := D.length) rfl ?_ hcl
  rw [hs]; exact h7
end steps
end Go.Am
namespace Go.Am
section words
variable {α : Type} {e : Enc α} {l : List α} {b : Nat} {τ : Nat → Nat}
theorem grow_to {o : Option AV} {b' m s : Nat} (h : o = some (.sl b' 0 m s false)) (hb : τ b = b') (hl : l ≠ []) (hm : m = l.length) (hs : s = e.sz) : o = some ((grow b e l).ren τ) := by
  rw [h, grow_ren, grow_cons hl, hb, hm, hs]
theorem grow_to_nil {o : Option AV} {f : Option Bool} (h : o = some (sS f e l)) (hl : l = []) (hf : f = some true ∨ f = some l.isEmpty) : o = some ((grow b e l).ren τ) := by
  subst hl
  rw [h]
  rcases hf with rfl | rfl <;> rfl
theorem grow_at_nil {o : Option AV} (h : o = some (grow b e l)) (hl : l = []) : o = some ((sS (some l.isEmpty) e l).ren τ) := by
  subst hl; rw [h]; rfl
theorem grow_at_cons {o : Option AV} (h : o = some (grow b e l)) (hl : l ≠ []) {b' : Nat} (hb : τ b' = b) {m s : Nat} (hm : m = l.length) (hs : s = e.sz) : o = some ((AV.sl b' 0 m s false).ren τ) := by
  rw [h, grow_cons hl]; simp only [AV.ren, hb, hm, hs]
theorem look_nil (hl : l = []) {c : Nat} {H : List (Nat × Blk)} {o : Option Blk} (h : H.lookup c = o) : (growH b e l ++ H).lookup c = o := by
  rw [growH_nil hl]; exact h
theorem look_cons (hl : l ≠ []) {c : Nat} {H : List (Nat × Blk)} {o : Option Blk} (h : ((b, .cells (encC e l)) :: H).lookup c = o) : (growH b e l ++ H).lookup c = o := by
  rw [growH_cons hl]; exact h
def eqL (τ : Nat → Nat) : List AV → List AV → Prop
  | [], [] => True
  | x :: xs, y :: ys => some x = some (y.ren τ) ∧ eqL τ xs ys
  | _, _ => False
theorem eqL_ren : ∀ {xs ys : List AV}, eqL τ xs ys → xs = AV.renL τ ys
  | [], [], _ => rfl
  | x :: xs, y :: ys, h => by
    simp only [AV.renL]
    rw [← eqL_ren h.2, ← Option.some.inj h.1]
  | [], _ :: _, h => h.elim
  | _ :: _, [], h => h.elim
theorem cellsTo {o : Option Blk} {cs ks : List AV} (h : o = some (.cells cs)) (hc : eqL τ cs ks) : o = some ((Blk.cells ks).ren τ) := by
  rw [h, eqL_ren hc]; rfl
def winL (U : Nat → Bool) : List AV → Prop
  | [] => True
  | x :: xs => x.within U = true ∧ winL U xs
theorem win_cells {U : Nat → Bool} : ∀ {ks : List AV}, winL U ks → (Blk.cells ks).within U = true
  | [], _ => rfl
  | x :: xs, h => by
    have := win_cells h.2
    simp only [Blk.within] at this
    simp only [Blk.within, AV.withinL, h.1, this, Bool.and_self]
end words
theorem eq_of_bne_false {α : Type} [BEq α] [LawfulBEq α] {a b : α} (h : (a != b) = false) : a = b := by simpa using h
theorem not_true_of {b : Bool} (h : (!b) = true) : b = false := by simpa using h
theorem not_false_of {b : Bool} (h : (!b) = false) : b = true := by simpa using h
theorem wrapI (n : Int) : -9223372036854775808 ≤ n ∧ n ≤ 9223372036854775807 → IntKind.i64.wrap n = n := fun h => by rw [IntKind.wrap_i64]; omega
end Go.Am
namespace Go.Am
section steps
variable {E : Env} {T : Tab} {cq : Oper → Cls} {n : Nat} {ops : Array Oper}
/-- A new variable that will not change. -/
theorem rexec_boxF (C : Cx E T n) {d : Option Nat} {t : TypeId} {x : Operand} {ty : TypeId} {pos : String} {af : Array Edge} {g : Option (Nat × Bool)} {st : St} {K : St → Prop} {u : AV} {cs : List AV} (ps : List PV) (h1 : dstB n ⟨d, .box t x, ty, pos, af, g⟩ = true)
    (h2 : evls st.S [x] = some [u]) (hc : cellsOf u = some cs) (hps : cs = ps.map .pv) (h7 : K (st.after d { v := .rp ps })) : rexec E cq n ⟨d, .box t x, ty, pos, af, g⟩ st K := by
  have hd : ∀ x, d = some x → x < E.n := fun x e => by
    simp only [dstB, e, decide_eq_true_eq] at h1
    exact C.n ▸ h1
  have hm := makes_box (E := E) (o := ⟨d, .box t x, ty, pos, af, g⟩) (t := t) (x := x) rfl (u := u) (cs := cs) hc
  subst hps
  exact ⟨h1, _, _, _, { vals := h2, deps := fun _ h => (by cases h), fresh := fun _ h => (by cases h), does := hm.frozenPtr hd, reach := rfl, inV := rfl, inN := fun _ h => (by cases h), inW := fun _ h => (by cases h), wr := fun _ h => (by cases h), pure := fun _ => ⟨rfl, rfl, rfl⟩, quiet := fun _ => rfl, foot := by cases clsOf cq ⟨d, .box t x, ty, pos, af, g⟩ <;> rfl }, h7⟩
end steps
end Go.Am
namespace Go.Am
theorem fn_to {o : Option AV} {g : Nat} {caps : List AV} {τ : Nat → Nat} (h : o = some (.fn g [] caps)) (hw : AV.withinL (fun _ => false) caps = true) : o = some ((AV.fn g [] caps).ren τ) := by
  rw [h]; simp only [AV.ren, AV.renL, AV.renL_none caps hw]
theorem fn_win {g : Nat} {caps : List AV} {U : Nat → Bool} (hw : AV.withinL (fun _ => false) caps = true) : (AV.fn g [] caps).within U = true := by
  simp only [AV.within, AV.withinL, Bool.true_and]
  exact AV.withinL_mono (fun b hb => by cases hb) caps hw
end Go.Am
namespace Go.Am
theorem OCalls.of_body {P : Program} {T : Tab} (hT : TabOk P T) {f : FuncId} {fn : Func} {body : Code} (hf : P.funcs[f]? = some fn) (hb : fn.body = some body) (hn : (fn.name == "runtime.NumGoroutine") = false) {avs : List AV} {av : AV} {k : Blk} (hl : decide (avs.length ≤ fn.ntmps) = true) (ha : AV.withinL (fun _ => false) avs = true) (hr : av.within (fun b => b == 0) = true) (hk : k.within (fun _ => false) = true) (hm : P.follows .mixedOrders = true)
    (h : ∀ E : Env, E.P = P → Cx E T fn.ntmps → E.I = [] → Awp E body (entry avs [] []) fun e st => (e = .ret ∨ e = .normal) ∧ resAV T st fn.results.toList = some av ∧ st.H 0 = some k) : OCalls P f avs av k where
  fn := ⟨fn, hf, hn, by simp [hb]⟩
  args := ha
  res := hr
  blk := hk
  calls := ACalls.of_body hT hf hb (by simpa using hl) fun E hP hE hI => (h E hP ⟨hP ▸ hT, hE, hP ▸ hm⟩ hI).mono fun e st ⟨h1, h2, h3⟩ => ⟨h1, h2, fun x hx => by
    simp only [List.mem_singleton] at hx
    subst hx; exact h3⟩
end Go.Am
namespace Go.Am
section steps
variable {E : Env} {T : Tab} {cq : Oper → Cls} {n : Nat} {ops : Array Oper}
theorem rexec_convS (C : Cx E T n) {d : Option Nat} {src dst : TypeId} {x : Operand} {ty : TypeId} {pos : String} {af : Array Edge} {g : Option (Nat × Bool)} {st : St} {K : St → Prop} {f : Option Bool} {D : List Int} {rs rd re : TyRow} {e : TypeId} (h1 : dstB n ⟨d, .convert src dst x, ty, pos, af, g⟩ = true)
    (h2 : evls st.S [x] = some [sS f (eI .u8) D]) (hs : T.lookup src = some rs) (hd : T.lookup dst = some rd) (hsd : rs.desc = .slice e) (he : T.lookup e = some re) (hre : re.desc = .int .u8) (hk : rd.desc = .string) (h7 : K (st.after d { v := .pv (.lit (.string (strOf D))) })) : rexec E cq n ⟨d, .convert src dst x, ty, pos, af, g⟩ st K := by
  rw [sS_I] at h2
  have hd' : ∀ x, d = some x → x < E.n := fun x e => by
    simp only [dstB, e, decide_eq_true_eq] at h1
    exact C.n ▸ h1
  exact ⟨h1, _, _, _, Move.of_frozen (does_bytesToString C.tab (o := ⟨d, .convert src dst x, ty, pos, af, g⟩) rfl hd' hs hd hsd he hre hk) h2 _, h7⟩
end steps
end Go.Am

