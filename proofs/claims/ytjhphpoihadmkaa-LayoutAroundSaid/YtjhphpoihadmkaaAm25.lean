/- An abstract machine over the kit's calls, part 25: append to nil; slices held against nil; freezing of rows that lie in structs. No conditions. -/
import Derived.Test.YtjhphpoihadmkaaAm24
namespace Go.Am
section ops
variable {E : Env} {T : Tab}

/-- An append of elements to nil: a new row. -/
theorem does_append_nil (hT : TabOk E.P T) {o : Oper} {c : Call} {t t2 : TypeId} (ho : o.op = .call c) (hc : c.callee = .builtin .append) (hty : c.argTypes = #[t, t2]) {d : Nat} (hdst : o.dst = some d) (hd : d < E.n) {r re r2 : TyRow} (hr : T.lookup t = some r) {e : TypeId} (hdesc : r.desc = .slice e) (hre : T.lookup e = some re) (hr2 : T.lookup t2 = some r2) (hd2 : ∀ k, r2.desc ≠ .int k)
    {f : Option Bool} {m : Nat} {ps : List PV} (hm : 0 < m) (hln : ps.length = m * re.size)
    (hb : (2 * m + 192) * re.bytes ≤ 281474976710656) (hnm : m ≤ 9223372036854775807) (hzs : re.zero.cells.size = re.size) :
    Does E o [.pv (.sl (some true) 0 []), .pv (.sl f m ps)] [] { v := .sl d 0 m re.size false, new := [(d, .cells (ps.map .pv))] } := by
  intro ι imm st a w Q hs hv _ hf
  have hUd : st.U d = false := hf (d, _) (List.mem_cons_self ..)
  have hvs := hs.evls hv
  have hops : o.op.operands.toList = c.args.toList := by rw [ho]; simp [Op.operands, Call.operands, hc]
  rw [hops] at hvs
  obtain ⟨v1, us1, he, hv1, hvs⟩ := hvs
  obtain ⟨v2, us2, he2, hv2, hvs⟩ := hvs
  simp only [VHs] at hvs
  subst hvs
  subst he2
  have hargs : c.args.map a.eval = #[v1, v2] := by apply Array.ext'; simpa using he
  simp only [VH, PH] at hv1
  obtain ⟨A, cap, rfl, _, hnil, _, hz0, _⟩ := hv1
  have hA : A = none := hnil trivial
  subst hA
  obtain ⟨_, rfl, _⟩ := hz0 rfl
  obtain ⟨vsN, g1, g2, g3⟩ := run_src (H := st.H) (y := .pv (.sl f m ps)) (sz := re.size) (m := m) (hd := []) (cs := ps.map .pv) hs rfl (fun x hx => by cases hx) (by simpa using hln) hv2
  have hlN := g2.length
  have hnew : ∀ w' : World, (∀ x, w'.cell? x = w.cell? x) → (Builtin.firstCells re.size m v2).run E.P w' = .ok (List.toArray vsN) w' := fun w' hw' => by
    have := g3 m (Nat.le_refl _) w' hw'
    rwa [List.take_of_length_le (by rw [hlN]; simp [hln])] at this
  have hold : ∀ w' : World, (∀ x, w'.cell? x = w.cell? x) → (Builtin.firstCells re.size 0 (.slice none 0 0)).run E.P w' = .ok (List.toArray []) w' := fun w' _ => by
    simp [Builtin.firstCells]
  obtain ⟨_, grown⟩ := run_append hT hr hdesc hre hr2 hd2 (ty := o.type) (t := t) (n := 0) (cap := 0) (base := none) g1 hnew hold (by simpa using hb) (by simpa using hnm)
  have hexec : ∀ {u w'}, (Builtin.append_ #[t, t2] o.type #[.slice none 0 0, v2]).run E.P w = .ok u w' → (execOp a.eval o).run E.P w = .ok (.value u) w' := fun {u w'} h => by
    simp only [execOp, ho, resolve, hc, run_bind', run_pure', invoke, builtin, hargs, hty, h]
  unfold Oper.wp
  have hdd : ∀ x, o.dst = some x → x < E.n := fun x hx => by rw [hdst] at hx; exact Option.some.inj hx ▸ hd
  obtain ⟨w1, nc, rest, hrun, hnc, ⟨e1, e2, e3, e4⟩, hrest⟩ := grown (by omega)
  rw [hexec hrun, Oper.upon_value]
  have gw : Grows ι ι imm imm w w1 := ⟨fun _ _ h => h, ⟨fun _ h => h, fun k _ => by rw [e1]⟩, fun r' c1 e1' f1 hr' => ⟨c1, f1, by rw [e1]; exact hr', rfl⟩⟩
  have hs1 : SR E ι imm ⟨st.S, st.H, st.U⟩ a w1 := hs.turn gw e2 e3 e4 (by rw [e1]; exact Nat.le_refl _) (fun k _ _ => by rw [e1]) ⟨fun b' k' hb' => by
    obtain ⟨r', z', p1, p2, p3, p4⟩ := hs.heap.blk b' k' hb'
    exact ⟨r', z', p1, p2, p3, p4.grows gw (by rw [e1])⟩, hs.heap.inj⟩ hs.used (fun _ hk => .inl hk) (fun k hk => by rw [e1]; exact hs.immlt k hk)
  have hNew : NewH ι imm w1 (Obj.cells ([] ++ vsN ++ rest).toArray e) (.cells (ps.map .pv)) := by
    refine ⟨_, _, rfl, ?_, CellsH.of_VHs (vs := vsN) (VHs.grows gw _ _ g2) fun i hi => ?_⟩
    · simp only [List.length_append, List.size_toArray, hlN, List.length_nil]; omega
    · rw [Nat.zero_add, List.getElem?_toArray, List.nil_append, List.getElem?_append_left hi]
  obtain ⟨ι', i1, i2, i3⟩ := hs1.new hUd hNew (.sl d 0 m re.size false)
  refine ⟨ι', imm, ?_⟩
  have hheap : (World.push w1 (Obj.cells ([] ++ vsN ++ rest).toArray e)).heap[w1.heap.size]? = some (Obj.cells ([] ++ vsN ++ rest).toArray e) := by
    show (w1.heap.push _)[_]? = _
    rw [Array.getElem?_push, if_pos rfl]
  have hln' : vsN.length = m * re.size := by rw [hlN]; simp [hln]
  have hfin := i3.put o.dst hdd (v := .sl d 0 m re.size false) (u := .slice (some ⟨w.heap.size, 0, none⟩) (0 + m) nc) ⟨w1.heap.size, 0, nc, i1, by rw [e1]; simp, by omega, (fun h => (by cases h)), _, _, _, hheap, by
    simp only [List.size_toArray, List.length_append, List.length_nil, hln', hrest, hzs]
    have : nc = 0 + m + (nc - (0 + m)) := by omega
    rw [this, Nat.add_mul, Nat.add_mul]
    have : 0 + m + (nc - (0 + m)) - (0 + m) = nc - (0 + m) := by omega
    rw [this]; omega⟩
  exact hfin
end ops

section steps
variable {E : Env} {T : Tab} {cq : Oper → Cls} {n : Nat} {ops : Array Oper}

theorem rexec_appendN (C : Cx E T n) {d : Nat} {c : Call} {t t2 : TypeId} {ty : TypeId} {pos : String} {af : Array Edge} {g : Option (Nat × Bool)} {st : St} {K : St → Prop} (hc : c.callee = .builtin .append) (hty : c.argTypes = #[t, t2]) (h1 : dstB n ⟨some d, .call c, ty, pos, af, g⟩ = true) (hU : st.U d = false)
    {r re r2 : TyRow} (hr : T.lookup t = some r) {e : TypeId} (hdesc : r.desc = .slice e) (hre : T.lookup e = some re) (hr2 : T.lookup t2 = some r2) (hd2 : ∀ k, r2.desc ≠ .int k) (hzs : re.zero.cells.size = re.size)
    {α : Type} {en : Enc α} {f : Option Bool} {D : List α} (hs : re.size = en.sz) (hv : evls st.S c.args.toList = some [.pv (.sl (some true) 0 []), sS f en D]) (hm : 0 < D.length)
    (hbig : (2 * D.length + 192) * re.bytes ≤ 281474976710656) (hpos : 0 < re.bytes) {nn : Nat} (hnn : nn = D.length)
    (h7 : K (st.after (some d) { v := .sl d 0 nn re.size false, new := [(d, .cells (encC en D))] })) (hcl : clsOf cq ⟨some d, .call c, ty, pos, af, g⟩ = .writer := by rfl) :
    rexec E cq n ⟨some d, .call c, ty, pos, af, g⟩ st K := by
  subst hnn
  have hd : d < E.n := by
    simp only [dstB, decide_eq_true_eq] at h1
    exact C.n ▸ h1
  have hdo := does_append_nil C.tab (o := ⟨some d, .call c, ty, pos, af, g⟩) rfl hc hty rfl hd hr hdesc hre hr2 hd2 (f := f) (ps := encL en D) hm (by rw [encL_len, hs]) hbig (by
    have : 2 * D.length + 192 ≤ (2 * D.length + 192) * re.bytes := Nat.le_mul_of_pos_right _ hpos
    omega) hzs
  have hops : (Op.operands (.call c)).toList = c.args.toList := by simp [Op.operands, Call.operands, hc]
  refine ⟨h1, _, _, _, { vals := ?_, deps := ?_, fresh := ?_, does := hdo, reach := rfl, inV := ?_, inN := ?_, inW := ?_, wr := ?_, pure := fun h => ?_, quiet := fun h => ?_, foot := by rw [hcl]; rfl }, h7⟩
  · show evls st.S (Op.operands (.call c)).toList = _
    rw [hops]; exact hv
  · intro x hx; cases hx
  · intro x hx; simp only [List.mem_singleton] at hx; subst hx; exact hU
  · simp [AV.within]
  · intro x hx; simp only [List.mem_singleton] at hx; subst hx; exact within_pvs _ _
  · intro x hx; cases hx
  · intro x hx; cases hx
  · rw [hcl] at h; cases h
  · rfl

theorem rexec_append (C : Cx E T n) {d : Nat} {c : Call} {t t2 : TypeId} {ty : TypeId} {pos : String} {af : Array Edge} {g : Option (Nat × Bool)} {st : St} {K : St → Prop} (hc : c.callee = .builtin .append) (hty : c.argTypes = #[t, t2]) (h1 : dstB n ⟨some d, .call c, ty, pos, af, g⟩ = true) (hU : st.U d = false)
    {r re r2 : TyRow} (hr : T.lookup t = some r) {e : TypeId} (hdesc : r.desc = .slice e) (hre : T.lookup e = some re) (hr2 : T.lookup t2 = some r2) (hd2 : ∀ k, r2.desc ≠ .int k) (hzs : re.zero.cells.size = re.size)
    {b l : Nat} {tt : Bool} {α : Type} {en : Enc α} {f : Option Bool} {D0 D : List α} (hs : re.size = en.sz) (hv : evls st.S c.args.toList = some [.sl b 0 l en.sz tt, sS f en D]) (hb : st.H b = some (.cells (encC en D0))) (hl : l = D0.length)
    (hbig : (2 * (D0.length + D.length) + 192) * re.bytes ≤ 281474976710656) (hpos : 0 < re.bytes) {nn : Nat} (hnn : nn = D0.length + D.length)
    (h7 : K (st.after (some d) { v := .sl d 0 nn en.sz false, new := [(d, .cells (encC en (D0 ++ D)))], wr := [(b, none)] })) (hcl : clsOf cq ⟨some d, .call c, ty, pos, af, g⟩ = .writer := by rfl) :
    rexec E cq n ⟨some d, .call c, ty, pos, af, g⟩ st K := by
  subst hl hnn
  have hnm : D0.length + D.length ≤ 9223372036854775807 := by
    have : 2 * (D0.length + D.length) + 192 ≤ (2 * (D0.length + D.length) + 192) * re.bytes := Nat.le_mul_of_pos_right _ hpos
    omega
  rw [← hs] at hv
  have hd : d < E.n := by
    simp only [dstB, decide_eq_true_eq] at h1
    exact C.n ▸ h1
  have hlen := encC_len (e := en) D0
  have hdo := does_append_own C.tab (o := ⟨some d, .call c, ty, pos, af, g⟩) rfl hc hty rfl hd hr hdesc hre hr2 hd2 (b := b) (k := 0) (n := D0.length) (tt := tt) (cs := encC en D0) (y := sS f en D) (H := st.H) (m := D.length) (hs2 := []) (new := encC en D) rfl (by rw [encC_len, hs]) (by rw [hlen, hs]; omega) (pv_flat _) hbig hnm hzs
  have hcat : ((encC en D0).drop 0).take (D0.length * re.size) ++ encC en D = encC en (D0 ++ D) := by
    rw [List.drop_zero, hs, ← hlen, List.take_length, encC_append]
  rw [hcat, hs] at hdo
  rw [hs] at hv
  have hops : (Op.operands (.call c)).toList = c.args.toList := by simp [Op.operands, Call.operands, hc]
  refine ⟨h1, _, _, _, { vals := ?_, deps := ?_, fresh := ?_, does := hdo, reach := ?_, inV := ?_, inN := ?_, inW := ?_, wr := ?_, pure := fun h => ?_, quiet := fun h => ?_, foot := by rw [hcl]; rfl }, h7⟩
  · show evls st.S (Op.operands (.call c)).toList = _
    rw [hops]; exact hv
  · intro x hx; simp only [List.mem_singleton] at hx; subst hx; exact hb
  · intro x hx; simp only [List.mem_singleton] at hx; subst hx; exact hU
  · exact reach_ptr fun U => .inl rfl
  · simp [AV.within]
  · intro x hx; simp only [List.mem_singleton] at hx; subst hx; exact within_pvs _ _
  · intro x hx k' hk
    simp only [List.mem_singleton] at hx
    subst hx
    cases hk
  · intro x hx
    simp only [List.mem_singleton] at hx
    subst hx
    simp [refs, sS, AV.withinL, AV.within]
  · rw [hcl] at h; cases h
  · rw [hcl] at h; cases h

/-! ### Slices held against nil -/
theorem rexec_eqNil (C : Cx E T n) {d : Option Nat} {t t' : TypeId} {x y : Operand} {ty : TypeId} {pos : String} {af : Array Edge} {g : Option (Nat × Bool)} {st : St} {K : St → Prop} {f : Bool} {m : Nat} {ps : List PV} {r : TyRow} {e : TypeId} (h1 : dstB n ⟨d, .binOp .eql t x y t', ty, pos, af, g⟩ = true)
    (h2 : evls st.S [x, y] = some [.pv (.sl (some f) m ps), .pv (.sl (some true) 0 [])]) (hr : T.lookup t = some r) (hd : r.desc = .slice e) (h7 : K (st.after d { v := .pv (.lit (.bool f)) })) (h8 : footB (clsOf cq ⟨d, .binOp .eql t x y t', ty, pos, af, g⟩) [] { v := .pv (.lit (.bool f)) } = true := by rfl) : rexec E cq n ⟨d, .binOp .eql t x y t', ty, pos, af, g⟩ st K := by
  refine rexec_prim C (p := True) (hs := []) (δ := { v := .pv (.lit (.bool f)) }) h1 rfl h2 ?_ trivial rfl h7 h8
  cases f <;> simp [prim, primBin, hr, hd, binAV, eqAgg, eqNil, nilS, opB]
theorem rexec_neNil (C : Cx E T n) {d : Option Nat} {t t' : TypeId} {x y : Operand} {ty : TypeId} {pos : String} {af : Array Edge} {g : Option (Nat × Bool)} {st : St} {K : St → Prop} {f : Bool} {m : Nat} {ps : List PV} {r : TyRow} {e : TypeId} (h1 : dstB n ⟨d, .binOp .neq t x y t', ty, pos, af, g⟩ = true)
    (h2 : evls st.S [x, y] = some [.pv (.sl (some f) m ps), .pv (.sl (some true) 0 [])]) (hr : T.lookup t = some r) (hd : r.desc = .slice e) (h7 : K (st.after d { v := .pv (.lit (.bool !f)) })) (h8 : footB (clsOf cq ⟨d, .binOp .neq t x y t', ty, pos, af, g⟩) [] { v := .pv (.lit (.bool !f)) } = true := by rfl) : rexec E cq n ⟨d, .binOp .neq t x y t', ty, pos, af, g⟩ st K := by
  refine rexec_prim C (p := True) (hs := []) (δ := { v := .pv (.lit (.bool !f)) }) h1 rfl h2 ?_ trivial rfl h7 h8
  cases f <;> simp [prim, primBin, hr, hd, binAV, eqAgg, eqNil, nilS, opB]

/-! ### Freezing -/
def Frz0 (b : Nat) (ps : List PV) (x y : AV) : Prop := x = y ∨ ∃ m s tt, x = .sl b 0 m s tt ∧ y = .pv (.sl (some false) m ps)
def FrzL (b : Nat) (ps : List PV) : List AV → List AV → Prop
  | [], [] => True
  | x :: xs, y :: ys => Frz0 b ps x y ∧ FrzL b ps xs ys
  | _, _ => False
def Frz (b : Nat) (ps : List PV) (x y : AV) : Prop := Frz0 b ps x y ∨ ∃ cs cs', x = .agg cs ∧ y = .agg cs' ∧ FrzL b ps cs cs'
def FrzS (st : St) (b : Nat) (ps : List PV) : List (Nat × AV) → Prop
  | [] => True
  | x :: xs => (∃ u, st.S x.1 = some u ∧ Frz b ps u x.2) ∧ FrzS st b ps xs
def FrzH (st : St) (b : Nat) (ps : List PV) : List (Nat × Blk) → Prop
  | [] => True
  | x :: xs => (x.1 ≠ b ∧ ((st.H x.1 = some x.2) ∨ ∃ cs cs', st.H x.1 = some (.cells cs) ∧ x.2 = .cells cs' ∧ FrzL b ps cs cs')) ∧ FrzH st b ps xs
theorem FrzS.mem {st : St} {b : Nat} {ps : List PV} : ∀ {l : List (Nat × AV)}, FrzS st b ps l → ∀ x ∈ l, ∃ u, st.S x.1 = some u ∧ Frz b ps u x.2
  | [], _, x, hx => by cases hx
  | y :: ys, h, x, hx => by
    cases hx with
    | head => exact h.1
    | tail _ hm => exact FrzS.mem h.2 x hm
theorem FrzH.mem {st : St} {b : Nat} {ps : List PV} : ∀ {l : List (Nat × Blk)}, FrzH st b ps l → ∀ x ∈ l, x.1 ≠ b ∧ ((st.H x.1 = some x.2) ∨ ∃ cs cs', st.H x.1 = some (.cells cs) ∧ x.2 = .cells cs' ∧ FrzL b ps cs cs')
  | [], _, x, hx => by cases hx
  | y :: ys, h, x, hx => by
    cases hx with
    | head => exact h.1
    | tail _ hm => exact FrzH.mem h.2 x hm
theorem FrzL.length {b : Nat} {ps : List PV} : ∀ {xs ys : List AV}, FrzL b ps xs ys → ys.length = xs.length
  | [], [], _ => rfl
  | x :: xs, y :: ys, h => by simp [FrzL.length h.2]
  | [], _ :: _, h => h.elim
  | _ :: _, [], h => h.elim
theorem FrzL.vhs {b : Nat} {ps : List PV} {ι : Nat → Option (Nat × Nat)} {imm' : Nat → Prop} {w : World} (h0 : ∀ x y v, Frz0 b ps x y → VH ι imm' w x v → VH ι imm' w y v) : ∀ {xs ys : List AV} {vs : List Value}, FrzL b ps xs ys → VHs ι imm' w xs vs → VHs ι imm' w ys vs
  | [], [], _, _, h => h
  | x :: xs, y :: ys, vs, h, hv => by
    obtain ⟨v, us, rfl, q1, q2⟩ := hv
    exact ⟨v, us, rfl, h0 _ _ _ h.1 q1, FrzL.vhs h0 h.2 q2⟩
  | [], _ :: _, _, h, _ => h.elim
  | _ :: _, [], _, h, _ => h.elim
theorem FrzL.cells {b : Nat} {ps : List PV} {ι : Nat → Option (Nat × Nat)} {imm' : Nat → Prop} {w : World} {c : Array Value} (h0 : ∀ x y v, Frz0 b ps x y → VH ι imm' w x v → VH ι imm' w y v) : ∀ {xs ys : List AV} {o : Nat}, FrzL b ps xs ys → CellsH ι imm' w c xs o → CellsH ι imm' w c ys o
  | [], [], _, _, h => h
  | x :: xs, y :: ys, o, h, hv => by
    obtain ⟨⟨v, q1, q2⟩, q3⟩ := hv
    exact ⟨⟨v, q1, h0 _ _ _ h.1 q2⟩, FrzL.cells h0 h.2 q3⟩
  | [], _ :: _, _, h, _ => h.elim
  | _ :: _, [], _, h, _ => h.elim

theorem At.freezeW {st : St} {a : Act} {w : World} (h : At E st a w) (b : Nat) (ps : List PV) (hb : st.H b = some (.cells (ps.map .pv))) (S' : List (Nat × AV)) (H' : List (Nat × Blk)) (hS : FrzS st b ps S') (hH : FrzH st b ps H') : At E ⟨fun t => S'.lookup t, fun x => H'.lookup x, st.U⟩ a w := by
  obtain ⟨ι, imm, h⟩ := h
  obtain ⟨r, z, q1, q2, q3, c, e, f, q4, q5, q6, q7⟩ := h.heap.blk b _ hb
  have hlt : r < w.heap.size := by
    rcases Nat.lt_or_ge r w.heap.size with h' | h'
    · exact h'
    · rw [Array.getElem?_eq_none h'] at q4; cases q4
  let imm' : Nat → Prop := fun k => imm k ∨ k = r
  have g : Grows ι ι imm imm' w w := ⟨fun _ _ h => h, ⟨fun _ hk => .inl hk, fun _ _ => rfl⟩, fun r c e f hr => ⟨c, f, hr, rfl⟩⟩
  have h0 : ∀ x y v, Frz0 b ps x y → VH ι imm' w x v → VH ι imm' w y v := fun x y v hxy hv => by
    rcases hxy with rfl | ⟨m, s, tt, rfl, rfl⟩
    · exact hv
    · simp only [VH] at hv
      obtain ⟨r', z', cap, i1, rfl, i3, _⟩ := hv
      rw [q1] at i1
      simp only [Option.some.injEq, Prod.mk.injEq] at i1
      obtain ⟨rfl, rfl⟩ := i1
      simp only [VH, PH]
      refine ⟨_, cap, rfl, i3, fun h => (by simp at h), fun _ h => (by simp at h), fun h => (by simp at h), fun A hA _ => ?_⟩
      simp only [Option.some.injEq] at hA
      subst hA
      exact ⟨rfl, .inr rfl, PHs.of_cells (i := imm) (ι := ι) (w := w) ⟨fun _ hk => .inl hk, fun _ _ => rfl⟩ (fun o => cell_of_heap q4 o) q7⟩
  have hHm : ∀ x k, H'.lookup x = some k → x ≠ b ∧ ∃ k0, st.H x = some k0 ∧ (k0 = k ∨ ∃ cs cs', k0 = .cells cs ∧ k = .cells cs' ∧ FrzL b ps cs cs') := fun x k hk => by
    obtain ⟨n1, n2⟩ := hH.mem _ (lookup_mem (l := H') hk)
    refine ⟨n1, ?_⟩
    rcases n2 with n2 | ⟨cs, cs', p1, p2, p3⟩
    · exact ⟨k, n2, .inl rfl⟩
    · exact ⟨_, p1, .inr ⟨cs, cs', rfl, p2, p3⟩⟩
  refine ⟨ι, imm', h.defers, h.size, fun t v hv => ?_, ⟨fun x k hx => ?_, fun x x' k k' r z z' hx hx' => ?_⟩, fun x y hx => h.used x y hx, h.grow.trans g, h.ext, fun k hk => ?_, fun k hk => ?_⟩
  · obtain ⟨u, hu, hf⟩ := hS.mem _ (lookup_mem (l := S') hv)
    have hu' := VH.grows g u _ (h.slot t u hu)
    rcases hf with hf | ⟨cs, cs', rfl, e2, hf⟩
    · exact h0 _ _ _ hf hu'
    · simp only at e2
      subst e2
      simp only [VH] at hu' ⊢
      obtain ⟨vs, p1, p2⟩ := hu'
      exact ⟨vs, p1, FrzL.vhs h0 hf p2⟩
  · obtain ⟨hne, k0, hx0, hk⟩ := hHm x k hx
    obtain ⟨r', z', p1, p2, p3, p4⟩ := h.heap.blk x k0 hx0
    refine ⟨r', z', p1, fun hi => hi.elim p2 fun e => ?_, p3, ?_⟩
    · subst e
      exact hne (h.heap.inj x b k0 _ r' z' z hx0 hb p1 q1)
    · have p4' := BlkH.grows g rfl p4
      rcases hk with rfl | ⟨cs, cs', rfl, rfl, hf⟩
      · exact p4'
      · obtain ⟨c1, e1, f1, s1, s2, s3, s4⟩ := p4'
        exact ⟨c1, e1, f1, s1, by rw [hf.length]; exact s2, s3, FrzL.cells h0 hf s4⟩
  · obtain ⟨_, k0, hx0, _⟩ := hHm x k hx
    obtain ⟨_, k1, hx1, _⟩ := hHm x' k' hx'
    exact h.heap.inj x x' k0 k1 r z z' hx0 hx1
  · rcases hk with hk | rfl
    · exact h.immM k hk
    · exact .inr q3
  · rcases hk with hk | rfl
    · exact h.immlt k hk
    · exact hlt

/-- A row of one's own does not change from here on. -/
theorem Awp.freezeW {c : Code} {st : St} {Q : Exit → St → Prop} (b : Nat) (ps : List PV) (hb : st.H b = some (.cells (ps.map .pv))) (S' : List (Nat × AV)) (H' : List (Nat × Blk)) (hS : FrzS st b ps S') (hH : FrzH st b ps H') (h : Awp E c ⟨fun t => S'.lookup t, fun x => H'.lookup x, st.U⟩ Q) : Awp E c st Q :=
  fun a w hat => h a w (hat.freezeW b ps hb S' H' hS hH)
end steps
end Go.Am
