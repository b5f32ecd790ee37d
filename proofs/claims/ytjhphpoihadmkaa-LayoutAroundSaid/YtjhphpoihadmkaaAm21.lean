/- An abstract machine over the kit's calls, part 21: append as a rule; rows that will not change any more. No conditions. -/
import Derived.Test.YtjhphpoihadmkaaAm17
import Derived.Test.YtjhphpoihadmkaaAm20
namespace Go.Am
section steps
variable {E : Env} {T : Tab} {cq : Oper → Cls} {n : Nat} {ops : Array Oper}

/-- An append of unchanging elements to a row of one's own. -/
theorem rvc_append (C : Cx E T n) {d : Nat} {c : Call} {t t2 : TypeId} {ty : TypeId} {pos : String} {af : Array Edge} {rest : List Oper} {st : St} {K : St → Prop} (hc : c.callee = .builtin .append) (hty : c.argTypes = #[t, t2]) (h1 : dstB n ⟨some d, .call c, ty, pos, af, none⟩ = true) (hU : st.U d = false)
    {r re r2 : TyRow} (hr : T.lookup t = some r) {e : TypeId} (hdesc : r.desc = .slice e) (hre : T.lookup e = some re) (hr2 : T.lookup t2 = some r2) (hd2 : ∀ k, r2.desc ≠ .int k) (hzs : re.zero.cells.size = re.size)
    {b k l m : Nat} {tt : Bool} {cs : List AV} {f : Option Bool} {ps : List PV} (hv : evls st.S c.args.toList = some [.sl b k l re.size tt, .pv (.sl f m ps)]) (hb : st.H b = some (.cells cs)) (hln : ps.length = m * re.size) (hkn : k + l * re.size ≤ cs.length) (hflat : (ps.map AV.pv).all flatCell = true)
    (hbig : (2 * (l + m) + 192) * re.bytes ≤ 281474976710656) (hnm : l + m ≤ 9223372036854775807)
    (h7 : rvc E cq n ops rest (st.after (some d) { v := .sl d 0 (l + m) re.size false, new := [(d, .cells ((cs.drop k).take (l * re.size) ++ ps.map .pv))], wr := [(b, none)] }) K) (hcl : clsOf cq ⟨some d, .call c, ty, pos, af, none⟩ = .writer := by rfl) :
    rvc E cq n ops (⟨some d, .call c, ty, pos, af, none⟩ :: rest) st K := by
  simp only [rvc]
  have hd : d < E.n := by
    simp only [dstB, decide_eq_true_eq] at h1
    exact C.n ▸ h1
  have hdo := does_append_own C.tab (o := ⟨some d, .call c, ty, pos, af, none⟩) rfl hc hty rfl hd hr hdesc hre hr2 hd2 (b := b) (k := k) (n := l) (tt := tt) (cs := cs) (y := .pv (.sl f m ps)) (H := st.H) (m := m) (hs2 := []) (new := ps.map AV.pv) rfl (by simpa using hln) hkn hflat hbig hnm hzs
  have hops : (Op.operands (.call c)).toList = c.args.toList := by simp [Op.operands, Call.operands, hc]
  have hin : AV.withinL (fun x => (([(d, Blk.cells ((cs.drop k).take (l * re.size) ++ ps.map .pv))] : List (Nat × Blk)).lookup x).isSome || refs [.sl b k l re.size tt, .pv (.sl f m ps)] [(b, .cells cs)] x) ((cs.drop k).take (l * re.size) ++ ps.map .pv) = true := by
    refine AV.withinL_of fun x hx => ?_
    rcases List.mem_append.1 hx with hx | hx
    · refine AV.withinL_mem (xs := cs) ?_ x (List.mem_of_mem_drop (List.mem_of_mem_take hx))
      refine AV.withinL_mono (U := fun b' => refs [.sl b k l re.size tt, .pv (.sl f m ps)] [(b, .cells cs)] b') (fun b hb => by simp [hb]) cs ?_
      exact within_self_blk [.sl b k l re.size tt, .pv (.sl f m ps)] [(b, .cells cs)] (b, .cells cs) (List.mem_singleton.2 rfl)
    · obtain ⟨p, _, rfl⟩ := List.mem_map.1 hx; rfl
  refine ⟨h1, _, _, _, { vals := ?_, deps := ?_, fresh := ?_, does := hdo, reach := ?_, inV := ?_, inN := ?_, inW := ?_, wr := ?_, pure := fun h => ?_, quiet := fun h => ?_, foot := by rw [hcl]; rfl }, h7⟩
  · show evls st.S (Op.operands (.call c)).toList = _
    rw [hops]; exact hv
  · intro x hx; simp only [List.mem_singleton] at hx; subst hx; exact hb
  · intro x hx; simp only [List.mem_singleton] at hx; subst hx; exact hU
  · exact reach_ptr fun U => .inl rfl
  · simp [AV.within]
  · intro x hx; simp only [List.mem_singleton] at hx; subst hx; exact hin
  · intro x hx k' hk
    simp only [List.mem_singleton] at hx
    subst hx
    cases hk
  · intro x hx
    simp only [List.mem_singleton] at hx
    subst hx
    simp [refs, AV.withinL, AV.within]
  · rw [hcl] at h; cases h
  · rw [hcl] at h; cases h

/-- A literal row that will not change. -/
theorem rvc_buildSliceF (C : Cx E T n) {d : Option Nat} {t : TypeId} {l : Nat} {parts : Array (Nat × Operand)} {ty : TypeId} {pos : String} {af : Array Edge} {rest : List Oper} {st : St} {K : St → Prop} {r re : TyRow} {e : TypeId} {us : List AV} (ps : List PV) (h1 : dstB n ⟨d, .buildSlice t l parts, ty, pos, af, none⟩ = true)
    (h2 : evls st.S (parts.toList.map (·.2)) = some us) (hr : T.lookup t = some r) (hdesc : r.desc = .slice e) (hre : T.lookup e = some re) (hbig : l * re.size ≤ 16777216) (hz : fillAV (fun i => some (i * re.size, re.size)) (zeroAV re.zero.cells (l * re.size)) (parts.toList.zipWith (fun p u => (p.1, u)) us) = some (ps.map .pv)) (hlz : ps.length = l * re.size)
    (h7 : rvc E cq n ops rest (st.after d { v := .pv (.sl (some false) l ps) }) K) : rvc E cq n ops (⟨d, .buildSlice t l parts, ty, pos, af, none⟩ :: rest) st K := by
  simp only [rvc]
  have hd : ∀ x, d = some x → x < E.n := fun x e => by
    simp only [dstB, e, decide_eq_true_eq] at h1
    exact C.n ▸ h1
  have hm := makes_buildSlice C.tab (E := E) (o := ⟨d, .buildSlice t l parts, ty, pos, af, none⟩) (n := l) (parts := parts) rfl hr hdesc hre hbig hz (by simpa using hlz)
  refine ⟨h1, _, _, _, Move.of_frozen (hm.frozen hd) ?_ _, h7⟩
  simpa [Op.operands] using h2

/-- A row of one's own that will not change from here on. -/
theorem At.freeze {st : St} {a : Act} {w : World} (h : At E st a w) {b : Nat} {ps : List PV} (hb : st.H b = some (.cells (ps.map .pv))) {st' : St} (hS : ∀ t v, st'.S t = some v → st.S t = some v ∨ ∃ m s tt, st.S t = some (.sl b 0 m s tt) ∧ v = .pv (.sl (some false) m ps)) (hH : ∀ x k, st'.H x = some k → x ≠ b ∧ st.H x = some k) (hU : st'.U = st.U) : At E st' a w := by
  obtain ⟨ι, imm, h⟩ := h
  obtain ⟨r, z, q1, q2, q3, c, e, f, q4, q5, q6, q7⟩ := h.heap.blk b _ hb
  have hlt : r < w.heap.size := by
    rcases Nat.lt_or_ge r w.heap.size with h' | h'
    · exact h'
    · rw [Array.getElem?_eq_none h'] at q4; cases q4
  let imm' : Nat → Prop := fun k => imm k ∨ k = r
  have g : Grows ι ι imm imm' w w := ⟨fun _ _ h => h, ⟨fun _ hk => .inl hk, fun _ _ => rfl⟩, fun r c e f hr => ⟨c, f, hr, rfl⟩⟩
  refine ⟨ι, imm', h.defers, h.size, fun t v hv => ?_, ⟨fun x k hx => ?_, fun x x' k k' r z z' hx hx' => h.heap.inj x x' k k' r z z' (hH x k hx).2 (hH x' k' hx').2⟩, fun x y hx => ?_, h.grow.trans g, h.ext, fun k hk => ?_, fun k hk => ?_⟩
  · rcases hS t v hv with hv | ⟨m, s, tt, hw, rfl⟩
    · exact VH.grows g v _ (h.slot t v hv)
    · have := h.slot t _ hw
      simp only [VH] at this
      obtain ⟨r', z', cap, i1, i2, i3, _⟩ := this
      rw [q1] at i1
      simp only [Option.some.injEq, Prod.mk.injEq] at i1
      obtain ⟨rfl, rfl⟩ := i1
      rw [i2]
      simp only [VH, PH]
      refine ⟨_, cap, rfl, i3, fun h => (by simp at h), fun _ h => (by simp at h), fun h => (by simp at h), fun A hA _ => ?_⟩
      simp only [Option.some.injEq] at hA
      subst hA
      exact ⟨rfl, .inr rfl, PHs.of_cells (i := imm) (ι := ι) (w := w) ⟨fun _ hk => .inl hk, fun _ _ => rfl⟩ (fun o => cell_of_heap q4 o) q7⟩
  · obtain ⟨hne, hx⟩ := hH x k hx
    obtain ⟨r', z', p1, p2, p3, p4⟩ := h.heap.blk x k hx
    refine ⟨r', z', p1, fun hi => hi.elim p2 fun e => ?_, p3, p4.grows g rfl⟩
    subst e
    exact hne (h.heap.inj x b k _ r' z' z hx hb p1 q1)
  · rw [hU]; exact h.used x y hx
  · rcases hk with hk | rfl
    · exact h.immM k hk
    · exact .inr q3
  · rcases hk with hk | rfl
    · exact h.immlt k hk
    · exact hlt

theorem Awp.freeze {c : Code} {S : List (Nat × AV)} {H : List (Nat × Blk)} {U : List Nat} {Q : Exit → St → Prop} (b : Nat) (ps : List PV) (hb : H.lookup b = some (.cells (ps.map .pv))) (S' : List (Nat × AV)) (H' : List (Nat × Blk)) (hS : ∀ x ∈ S', S.lookup x.1 = some x.2 ∨ ∃ m s tt, S.lookup x.1 = some (.sl b 0 m s tt) ∧ x.2 = .pv (.sl (some false) m ps)) (hH : ∀ x ∈ H', x.1 ≠ b ∧ H.lookup x.1 = some x.2)
    (h : Awp E c (mkSt S' H' U) Q) : Awp E c (mkSt S H U) Q := fun a w hat =>
  h a w (hat.freeze (b := b) (ps := ps) hb (fun _ _ hv => hS _ (lookup_mem (l := S') hv)) (fun _ _ hk => hH _ (lookup_mem (l := H') hk)) rfl)
end steps
end Go.Am
