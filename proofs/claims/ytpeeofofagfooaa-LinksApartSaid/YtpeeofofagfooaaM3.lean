import Derived.Test.YtpeeofofagfooaaM2
import Derived.Maps.RangeRun
/- An abstract machine over the kit's calls, part 40: the operations on maps as rules. No conditions. -/
namespace Go.Am
section worlds
variable {E : Env} {κ β : Type} {KE : KEnc κ} {ve : β → AV} {ι : Nat → Option (Nat × Nat)} {imm : Nat → Prop} {st : St} {a : Act} {w : World}
theorem keysOk_map {D : List (κ × β)} : KeysOk (D.map fun e => (KE.enc e.1, ve e.2)) ↔ mOnce KE D := by
  have e : (D.map fun e => (KE.enc e.1, ve e.2)).map (·.1) = D.map fun e => KE.enc e.1 := by rw [List.map_map]; rfl
  constructor
  · rintro ⟨_, h⟩; unfold mOnce; rwa [e] at h
  · intro h
    refine ⟨fun x hx => ?_, by rw [e]; exact h⟩
    obtain ⟨y, _, rfl⟩ := List.mem_map.1 hx
    exact KE.rig y.1
/-- A map's block. -/
theorem SR.map (h : SR E ι imm st a w) {b : Nat} {D : List (κ × β)} (hb : st.H b = some (mapE KE ve D)) {r z : Nat} (hi : ι b = some (r, z)) :
    z = 0 ∧ ∃ (c : Array MapEntry) (q : Nat) (D' : List (κ × β)), w.heap[r]? = some (.map c q) ∧ D.Perm D' ∧ EntsH ι imm w (D'.map fun e => (KE.enc e.1, ve e.2)) c.toList ∧ mOnce KE D' ∧ BornOk c.toList q ∧ ¬ imm r ∧ E.M r := by
  obtain ⟨r', z', h1, h2, h3, c, q, l, h4, h5, h6, h7, h8, h9⟩ := h.heap.blk b _ hb
  rw [hi] at h1
  simp only [Option.some.injEq, Prod.mk.injEq] at h1
  obtain ⟨rfl, rfl⟩ := h1
  obtain ⟨es', q1, q2⟩ := EntsH.perm h6 h7
  obtain ⟨D', q3, q4⟩ := map_perm q1 (D := D) rfl
  refine ⟨h4, c, q, D', h5, q3, by rw [q4]; exact q2, ((keysOk_map).1 h8).perm q3, ⟨(h6.map _).nodup_iff.1 h9.nodup, fun e he => h9.lt e (h6.mem_iff.2 he)⟩, h2, h3⟩
/-- A map is written. -/
theorem SR.writeMap (h : SR E ι imm st a w) {b : Nat} {D : List (κ × β)} (hb : st.H b = some (mapE KE ve D)) {r z : Nat} (hi : ι b = some (r, z)) {c' : Array MapEntry} {q' : Nat} {D2 D3 : List (κ × β)} (hp : D2.Perm D3) (he : EntsH ι imm w (D3.map fun e => (KE.enc e.1, ve e.2)) c'.toList)
    (ho : mOnce KE D2) (hbn : BornOk c'.toList q') (v : AV) : SR E ι imm ⟨st.S, (Delta.mk v [] [(b, some (mapE KE ve D2))]).H st.H, (Delta.mk v [] [(b, some (mapE KE ve D2))]).U st.U⟩ a { w with heap := w.heap.setIfInBounds r (.map c' q') } := by
  obtain ⟨rfl, c, q, D', h1, h2, h3, h4, h5, h6, h7⟩ := h.map hb hi
  obtain ⟨hs1, hs2⟩ := Go.MapKept.heap_set (o' := .map c' q') h1
  have g : Grows ι ι imm imm w { w with heap := w.heap.setIfInBounds r (.map c' q') } := ⟨fun _ _ h => h, ⟨fun _ h => h, fun k hk => hs2 k (fun e => h6 (e ▸ hk))⟩, fun r' c1 e1 f1 hr' => by
    by_cases hrr : r' = r
    · subst hrr; rw [h1] at hr'; cases hr'
    · exact ⟨c1, f1, (hs2 r' hrr).trans hr', rfl⟩⟩
  have hH : ∀ b' k, (Delta.mk v [] [(b, some (mapE KE ve D2))]).H st.H b' = some k → (b' = b ∧ k = mapE KE ve D2) ∨ (b' ≠ b ∧ st.H b' = some k) := fun b' k hk => by
    simp only [Delta.H, List.lookup] at hk
    by_cases hbb : b' = b
    · subst hbb; simp only [beq_self_eq_true] at hk; exact .inl ⟨rfl, (Option.some.inj hk).symm⟩
    · have : (b' == b) = false := by simpa using hbb
      simp only [this] at hk; exact .inr ⟨hbb, hk⟩
  have hold : ∀ b' k, (Delta.mk v [] [(b, some (mapE KE ve D2))]).H st.H b' = some k → ∃ k', st.H b' = some k' := fun b' k hk => by
    rcases hH b' k hk with ⟨rfl, _⟩ | ⟨_, h⟩
    · exact ⟨_, hb⟩
    · exact ⟨_, h⟩
  have hsz : ({ w with heap := w.heap.setIfInBounds r (.map c' q') } : World).heap.size = w.heap.size := by simp
  refine h.turn g rfl rfl rfl (Nat.le_refl _) (by rw [hsz]; exact Nat.le_refl _) (fun k _ hM => hs2 k (fun e => hM (e ▸ h7))) ⟨fun b' k hk => ?_, fun b1 b2 k1 k2 r1 z1 z2 hk1 hk2 hi1 hi2 => ?_⟩ (fun b' x hx => ?_) (fun _ hk => .inl hk) (fun k hk => by rw [hsz]; exact h.immlt k hk)
  · rcases hH b' k hk with ⟨rfl, rfl⟩ | ⟨hne, hk⟩
    · obtain ⟨l', p1, p2⟩ := EntsH.perm' (hp.map (fun e => (KE.enc e.1, ve e.2))).symm he
      refine ⟨r, 0, hi, h6, h7, c', q', l', rfl, hs1, p1.symm, p2.grows g, keysOk_map.2 ho, ⟨(p1.map _).nodup_iff.1 hbn.nodup, fun e he => hbn.lt e (p1.mem_iff.2 he)⟩⟩
    · obtain ⟨r', z', q1, q2, q3, q4⟩ := h.heap.blk b' k hk
      have hrr : r' ≠ r := fun e => hne (h.heap.inj b' b k _ r z' 0 hk hb (e ▸ q1) hi)
      exact ⟨r', z', q1, q2, q3, q4.grows g (hs2 r' hrr)⟩
  · obtain ⟨k1', q1⟩ := hold b1 k1 hk1
    obtain ⟨k2', q2⟩ := hold b2 k2 hk2
    exact h.heap.inj b1 b2 k1' k2' r1 z1 z2 q1 q2 hi1 hi2
  · simp only [Delta.U, List.lookup, Option.isSome_none, Bool.false_or]; exact h.used b' x hx
theorem modify_congr {α : Type} {f g : α → α} : ∀ {l : List α} {m : Nat} {e : α}, l[m]? = some e → f e = g e → l.modify m f = l.modify m g
  | [], _, _, h, _ => by cases h
  | x :: l, 0, e, h, hf => by
    simp only [List.getElem?_cons_zero, Option.some.injEq] at h
    subst h
    simp only [List.modify_zero_cons, hf]
  | x :: l, m + 1, e, h, hf => by
    simp only [List.modify_succ_cons]
    rw [modify_congr (by simpa using h) hf]
theorem modify_born {f : MapEntry → MapEntry} (hf : ∀ e, (f e).born = e.born) : ∀ (l : List MapEntry) (m : Nat), (l.modify m f).map (·.born) = l.map (·.born)
  | [], m => by simp
  | x :: l, 0 => by simp [hf]
  | x :: l, m + 1 => by simp [modify_born hf l m]
theorem BornOk.modify {l : List MapEntry} {q m : Nat} {f : MapEntry → MapEntry} (h : BornOk l q) (hf : ∀ e, (f e).born = e.born) : BornOk (l.modify m f) q where
  nodup := by rw [modify_born hf]; exact h.nodup
  lt e he := by
    have : e.born ∈ (l.modify m f).map (·.born) := List.mem_map.2 ⟨e, he, rfl⟩
    rw [modify_born hf] at this
    obtain ⟨e', he', e2⟩ := List.mem_map.1 this
    rw [← e2]; exact h.lt e' he'
theorem BornOk.push {l : List MapEntry} {q : Nat} (h : BornOk l q) {e : MapEntry} (he : e.born = q) : BornOk (l ++ [e]) (q + 1) where
  nodup := by
    rw [List.map_append, List.map_cons, List.map_nil, List.nodup_append]
    refine ⟨h.nodup, by simp, fun a ha b hb => ?_⟩
    obtain ⟨e', he', rfl⟩ := List.mem_map.1 ha
    rw [List.mem_singleton.1 hb, he]
    have := h.lt e' he'; omega
  lt e' he' := by
    rcases List.mem_append.1 he' with he' | he'
    · have := h.lt e' he'; omega
    · rw [List.mem_singleton.1 he', he]; omega
theorem BornOk.sub {l l' : List MapEntry} {q : Nat} (h : BornOk l q) (hs : l'.Sublist l) : BornOk l' q := ⟨(hs.map _).nodup h.nodup, fun e he => h.lt e (hs.subset he)⟩
end worlds
section ops
variable {E : Env} {T : Tab} {κ β : Type} {KE : KEnc κ} {ve : β → AV}
theorem does_makeMap {o : Oper} {t : TypeId} (ho : o.op = .makeMap t none) {d : Nat} (hdst : o.dst = some d) (hd : d < E.n) : Does E o [] [] { v := .mp d, new := [(d, .map [])] } := by
  refine Does.alloc hdst hd fun ι imm st a w hs hv _ => ⟨.map #[] 0, .map (some w.heap.size), ?_, ⟨0, rfl, rfl⟩, fun ι' h => ⟨_, _, h, rfl⟩⟩
  simp only [execOp, ho, Option.map_none, Instr.makeMap, newObj, run_bind', Sem.run, run_pure']
  rfl
theorem does_lookup (hT : TabOk E.P T) {o : Oper} {t : TypeId} {x y : Operand} {ok : Bool} (ho : o.op = .lookup t x y ok) (hd : ∀ d, o.dst = some d → d < E.n) {r re : TyRow} (hr : T.lookup t = some r) {kt et : TypeId} (hdesc : r.desc = .map kt et) (hre : T.lookup et = some re)
    (K : KeyOk E.P kt KE) {b : Nat} {D : List (κ × β)} {k : κ} {z : β} (hz : ve z = constAV re.zero) :
    Does E o [.mp b, KE.enc k] [(b, mapE KE ve D)] { v := if ok then .tup [ve ((mGet KE k D).getD z), .pv (.lit (.bool (mGet KE k D).isSome))] else ve ((mGet KE k D).getD z) } := by
  refine Does.value hd fun ι imm st a w hs hv hh => ?_
  rw [ho] at hv
  simp only [Op.operands, List.map_cons, List.map_nil] at hv
  obtain ⟨hv1, hv2⟩ := hv.two
  simp only [VH] at hv1
  obtain ⟨rr, zz, hi, he⟩ := hv1
  obtain ⟨rfl, c, q, D', h1, h2, h3, h4, h5, _, _⟩ := hs.map (hh _ (List.mem_cons_self ..)) hi
  have hg := mGet_perm (k := k) h2 (h4.perm h2.symm)
  have hu : (underlying t).run E.P w = .ok (.map kt et) w := by rw [run_underlying hT hr, hdesc]
  have hf := run_find (ve := ve) K hv2 D' c.toList h3
  have hck := K.check c.isEmpty k _ hv2
  cases hl : lookL KE k D' c.toList 0 with
  | none =>
    rw [hl] at hf
    obtain ⟨q1, _, _⟩ := lookL_none h3 hl
    have e : mGet KE k D = none := hg.trans q1
    rw [e]
    have hval := constAV_holds ι imm w re.zero
    rw [← hz] at hval
    cases ok
    · refine ⟨re.zero, ?_, hval⟩
      simp only [execOp, ho, he, Instr.lookup, run_bind', hu, Go.MapKept.run_getObj_map h1, run_pure', hck, hf, run_zeroValue hT hre, Bool.false_eq_true, if_false]
    · refine ⟨.tuple #[re.zero, .bool false], ?_, ?_⟩
      · simp only [execOp, ho, he, Instr.lookup, run_bind', hu, Go.MapKept.run_getObj_map h1, run_pure', hck, hf, run_zeroValue hT hre, if_true]
      · simp only [if_true, VH]
        exact ⟨[re.zero, .bool false], rfl, _, _, rfl, hval, _, _, rfl, ⟨rfl, rfl⟩, rfl⟩
  | some p =>
    obtain ⟨j, x⟩ := p
    rw [hl] at hf
    obtain ⟨m, e, y0, _, _, _, q4, q5, _, _⟩ := lookL_some h3 hl
    have e : mGet KE k D = some y0 := hg.trans q4
    rw [e]
    cases ok
    · refine ⟨x, ?_, q5⟩
      simp only [execOp, ho, he, Instr.lookup, run_bind', hu, Go.MapKept.run_getObj_map h1, run_pure', hck, hf, Bool.false_eq_true, if_false]
    · refine ⟨.tuple #[x, .bool true], ?_, ?_⟩
      · simp only [execOp, ho, he, Instr.lookup, run_bind', hu, Go.MapKept.run_getObj_map h1, run_pure', hck, hf, if_true]
      · simp only [if_true, VH]
        exact ⟨[x, .bool true], rfl, _, _, rfl, q5, _, _, rfl, ⟨rfl, rfl⟩, rfl⟩
theorem does_mapUpdate (hT : TabOk E.P T) {o : Oper} {t : TypeId} {x y z : Operand} (ho : o.op = .mapUpdate t x y z) (hdst : o.dst = none) {r : TyRow} (hr : T.lookup t = some r) {kt et : TypeId} (hdesc : r.desc = .map kt et)
    (K : KeyOk E.P kt KE) {b : Nat} {D : List (κ × β)} {k : κ} {u : β} : Does E o [.mp b, KE.enc k, ve u] [(b, mapE KE ve D)] { v := .undef, wr := [(b, some (mapE KE ve (mSet KE k u D)))] } := by
  intro ι imm st a w Q hs hv hh _
  have hv := hs.evls hv
  rw [ho] at hv
  simp only [Op.operands, List.map_cons, List.map_nil] at hv
  obtain ⟨hv1, hv2, hv3⟩ := hv.three
  simp only [VH] at hv1
  obtain ⟨rr, zz, hi, he⟩ := hv1
  have hb := hh _ (List.mem_cons_self ..)
  obtain ⟨rfl, c, q, D', h1, h2, h3, h4, h5, _, _⟩ := hs.map hb hi
  have hu : (underlying t).run E.P w = .ok (.map kt et) w := by rw [run_underlying hT hr, hdesc]
  have hf := run_find (ve := ve) K hv2 D' c.toList h3
  have hck := K.check false k _ hv2
  have hfin : ∀ c' q', EntsH ι imm w ((mSet KE k u D').map fun e => (KE.enc e.1, ve e.2)) c'.toList → BornOk c'.toList q' → (execOp a.eval o).run E.P w = .ok .skip { w with heap := w.heap.setIfInBounds rr (.map c' q') } →
      o.wp E.P a w (fun a' w' => ∃ ι' imm', SR E ι' imm' (st.after o.dst { v := .undef, wr := [(b, some (mapE KE ve (mSet KE k u D)))] }) a' w') Q := fun c' q' e1 e2 hrun => by
    unfold Oper.wp
    rw [hrun, Oper.upon_skip]
    have := hs.writeMap hb hi (mSet_perm (k := k) (x := u) h2 (h4.perm h2.symm)) e1 (mSet_once (h4.perm h2.symm)) e2 .undef
    exact ⟨ι, imm, by simpa [Act.put, St.after, putO, hdst] using this⟩
  cases hl : lookL KE k D' c.toList 0 with
  | none =>
    rw [hl] at hf
    obtain ⟨_, _, q3⟩ := lookL_none h3 hl
    refine hfin (c.push { key := a.eval y, val := a.eval z, born := q }) (q + 1) ?_ ?_ ?_
    · rw [q3, List.map_append, Array.toList_push]
      exact EntsH.append h3 hv2 hv3
    · rw [Array.toList_push]; exact h5.push rfl
    · simp only [execOp, ho, he, Instr.mapUpdate, run_bind', hu, Go.MapKept.run_getObj_map h1, run_pure', hck, hf, Go.MapKept.run_setObj_map _ h1]
  | some p =>
    obtain ⟨j, x⟩ := p
    rw [hl] at hf
    obtain ⟨m, e, y0, hj, q2, _, _, _, q6, q7⟩ := lookL_some h3 hl
    have hjm : j = m := by omega
    subst hjm
    have hkey := rigid_eq _ (KE.rig k) _ _ q6 hv2
    have hce : c[j]? = some e := by simpa using q2
    have hst : (Instr.keyThatStays (((c[j]?).map (·.key)).getD (a.eval y)) (a.eval y)).run E.P w = .ok (a.eval y) w := by
      rw [hce]
      simp only [Option.map_some, Option.getD_some, hkey, Instr.keyThatStays, rigid_same _ (KE.rig k) _ hv2 10000 (KE.dep k), if_true, run_pure']
    refine hfin (c.modify j fun e => { e with key := a.eval y, val := a.eval z }) q ?_ ?_ ?_
    · rw [Array.toList_modify, modify_congr (g := fun e => { e with val := a.eval z }) q2 (by rw [← hkey])]
      exact (q7 _ _ hv3).1
    · rw [Array.toList_modify]; exact h5.modify fun _ => rfl
    · simp only [execOp, ho, he, Instr.mapUpdate, run_bind', hu, Go.MapKept.run_getObj_map h1, run_pure', hck, hf, hst, Go.MapKept.run_setObj_map _ h1]
theorem does_delete (hT : TabOk E.P T) {o : Oper} {c : Call} {t t2 : TypeId} (ho : o.op = .call c) (hc : c.callee = .builtin .delete) (hty : c.argTypes = #[t, t2]) (hd : ∀ d, o.dst = some d → d < E.n) {r : TyRow} (hr : T.lookup t = some r) {kt et : TypeId} (hdesc : r.desc = .map kt et)
    (K : KeyOk E.P kt KE) {b : Nat} {D : List (κ × β)} {k : κ} : Does E o [.mp b, KE.enc k] [(b, mapE KE ve D)] { v := .tup [], wr := [(b, some (mapE KE ve (mDel KE k D)))] } := by
  intro ι imm st a w Q hs hv hh _
  have hv := hs.evls hv
  have hops : o.op.operands.toList = c.args.toList := by rw [ho]; simp [Op.operands, Call.operands, hc]
  rw [hops] at hv
  obtain ⟨v1, us, hea, hv1, v2, us2, he2, hv2, hv3⟩ := hv
  subst he2
  simp only [VHs] at hv3
  subst hv3
  have hargs : c.args.map a.eval = #[v1, v2] := by apply Array.ext'; simpa using hea
  simp only [VH] at hv1
  obtain ⟨rr, zz, hi, he⟩ := hv1
  have hb := hh _ (List.mem_cons_self ..)
  obtain ⟨rfl, m, q, D', h1, h2, h3, h4, h5, _, _⟩ := hs.map hb hi
  have hu : (underlying t).run E.P w = .ok (.map kt et) w := by rw [run_underlying hT hr, hdesc]
  have hf := run_find (ve := ve) K hv2 D' m.toList h3
  have hck := K.check m.isEmpty k _ hv2
  have hfin : ∀ c', EntsH ι imm w ((mDel KE k D').map fun e => (KE.enc e.1, ve e.2)) c'.toList → BornOk c'.toList q → (execOp a.eval o).run E.P w = .ok (.value (.tuple #[])) { w with heap := w.heap.setIfInBounds rr (.map c' q) } →
      o.wp E.P a w (fun a' w' => ∃ ι' imm', SR E ι' imm' (st.after o.dst { v := .tup [], wr := [(b, some (mapE KE ve (mDel KE k D)))] }) a' w') Q := fun c' e1 e2 hrun => by
    unfold Oper.wp
    rw [hrun, Oper.upon_value]
    have := hs.writeMap hb hi (mDel_perm (k := k) h2 (h4.perm h2.symm)) e1 (mDel_once (h4.perm h2.symm)) e2 (.tup [])
    exact ⟨ι, imm, this.put o.dst hd (by simp only [VH]; exact ⟨[], rfl, rfl⟩)⟩
  cases hl : lookL KE k D' m.toList 0 with
  | none =>
    rw [hl] at hf
    obtain ⟨_, q2, _⟩ := lookL_none h3 hl
    refine hfin m (by rw [q2]; exact h3) h5 ?_
    simp [execOp, ho, resolve, hc, invoke, builtin, hargs, Builtin.delete_, hty, he, hu, Go.MapKept.run_getObj_map h1, hck, hf, Go.MapKept.run_setObj_map _ h1]
  | some p =>
    obtain ⟨j, x⟩ := p
    rw [hl] at hf
    obtain ⟨m', e, y0, hj, q2, _, _, q5, q6, q7⟩ := lookL_some h3 hl
    have hjm : j = m' := by omega
    subst hjm
    have hjl : j < m.size := by
      have := (List.getElem?_eq_some_iff.1 q2).1
      simpa using this
    have hto : (m.eraseIdxIfInBounds j).toList = m.toList.eraseIdx j := by
      unfold Array.eraseIdxIfInBounds
      rw [dif_pos hjl, Array.toList_eraseIdx]
    refine hfin (m.eraseIdxIfInBounds j) ?_ ?_ ?_
    · rw [hto]; exact (q7 x y0 q5).2
    · rw [hto]; exact h5.sub (List.eraseIdx_sublist _ _)
    · simp [execOp, ho, resolve, hc, invoke, builtin, hargs, Builtin.delete_, hty, he, hu, Go.MapKept.run_getObj_map h1, hck, hf, Go.MapKept.run_setObj_map _ h1]
end ops
end Go.Am
/- An abstract machine over the kit's calls, part 41: maps: kinds of keys; the rules of operations in a region. No conditions. -/
namespace Go.Am
def ckFs (T : Tab) (rec : TyRow → AV → Bool) (xs : List AV) : List Field → Bool
  | [] => true
  | f :: fs => (f.name != "_") && match T.lookup f.type with
    | some r => match partV r xs f.offset with
      | some x => rec r x && ckFs T rec xs fs
      | none => false
    | none => false
def ckIs (rec : TyRow → AV → Bool) (r : TyRow) (xs : List AV) : List Nat → Bool
  | [] => true
  | i :: is => match partV r xs (i * r.size) with
    | some x => rec r x && ckIs rec r xs is
    | none => false
/-- Can a value be a key? -/
def ckAV (T : Tab) : Nat → TyRow → AV → Bool
  | 0, _, _ => false
  | d + 1, r, x => match r.desc with
    | .struct fs => match x with
      | .agg xs => ckFs T (ckAV T d) xs fs.toList
      | _ => false
    | .array n e => match x with
      | .agg xs => match T.lookup e with
        | some re => ckIs (ckAV T d) re xs (List.range n)
        | none => false
      | _ => false
    | .int _ | .bool | .string => true
    | _ => false
theorem run_ckFs {P : Program} {T : Tab} (hT : TabOk P T) {ι : Nat → Option (Nat × Nat)} {imm : Nat → Prop} {w : World} {em : Bool} {n : Nat} {rec : TyRow → AV → Bool}
    (hrec : ∀ {t : TypeId} {r : TyRow} (_ : T.lookup t = some r) {x : AV} (_ : rec r x = true) {v : Value} (_ : VH ι imm w x v), (Instr.checkKey em n t v).run P w = .ok () w) {xs : List AV} {us : List Value} (hx : VHs ι imm w xs us) :
    ∀ (fs : List Field), ckFs T rec xs fs = true → (forIn fs PUnit.unit fun f _ => if f.name ≠ "_" then (do Instr.checkKey em n f.type (← part f.type (List.toArray us) f.offset); pure (ForInStep.yield PUnit.unit)) else pure (ForInStep.yield PUnit.unit) : Sem PUnit).run P w = .ok () w
  | [], _ => rfl
  | f :: fs, h => by
    simp only [ckFs, Bool.and_eq_true, bne_iff_ne, ne_eq] at h
    obtain ⟨h1, h2⟩ := h
    split at h2
    · rename_i r hr
      split at h2
      · rename_i x hp
        simp only [Bool.and_eq_true] at h2
        obtain ⟨u, p1, p2⟩ := run_part hT hr hx hp
        have p3 := hrec hr h2.1 p2
        simp only [List.forIn_cons, ne_eq, h1, not_false_eq_true, if_true, run_bind', p1, p3, run_pure']
        exact run_ckFs hT hrec hx fs h2.2
      · cases h2
    · cases h2
theorem run_ckIs {P : Program} {T : Tab} (hT : TabOk P T) {ι : Nat → Option (Nat × Nat)} {imm : Nat → Prop} {w : World} {em : Bool} {n e : Nat} {re : TyRow} (hre : T.lookup e = some re) {rec : TyRow → AV → Bool}
    (hrec : ∀ {x : AV} (_ : rec re x = true) {v : Value} (_ : VH ι imm w x v), (Instr.checkKey em n e v).run P w = .ok () w) {xs : List AV} {us : List Value} (hx : VHs ι imm w xs us) :
    ∀ (is : List Nat), ckIs rec re xs is = true → (forIn is PUnit.unit fun i _ => (do Instr.checkKey em n e (← part e (List.toArray us) (i * (← Go.sizeOf e))); pure (ForInStep.yield PUnit.unit)) : Sem PUnit).run P w = .ok () w
  | [], _ => rfl
  | i :: is, h => by
    simp only [ckIs] at h
    split at h
    · rename_i x hp
      simp only [Bool.and_eq_true] at h
      obtain ⟨u, p1, p2⟩ := run_part hT hre hx hp
      have p3 := hrec h.1 p2
      simp only [List.forIn_cons, run_bind', run_sizeOf hT hre, p1, p3, run_pure']
      exact run_ckIs hT hre hrec hx is h.2
    · cases h
theorem run_ckAV {P : Program} {T : Tab} (hT : TabOk P T) {ι : Nat → Option (Nat × Nat)} {imm : Nat → Prop} {w : World} (em : Bool) : ∀ (d : Nat) {t : TypeId} {r : TyRow} (_ : T.lookup t = some r) {x : AV} (_ : ckAV T d r x = true) {v : Value} (_ : VH ι imm w x v), (Instr.checkKey em d t v).run P w = .ok () w
  | 0, _, _, _, _, h, _, _ => by simp [ckAV] at h
  | d + 1, t, r, hr, x, h, v, hv => by
    have hu := run_underlying hT hr w
    unfold ckAV at h
    split at h
    · rename_i fs hfs
      split at h
      · rename_i xs
        simp only [VH] at hv
        obtain ⟨us, rfl, hus⟩ := hv
        rw [Instr.checkKey]
        simp only [run_bind', hu, hfs]
        rw [← Array.forIn_toList]
        have := run_ckFs hT (fun hr' _ h' _ q => run_ckAV hT em d hr' h' q) hus fs.toList h
        simp at this ⊢
        rw [this]
      · cases h
    · rename_i n e hne
      split at h
      · rename_i xs
        split at h
        · rename_i re hre
          simp only [VH] at hv
          obtain ⟨us, rfl, hus⟩ := hv
          rw [Instr.checkKey]
          simp only [run_bind', hu, hne]
          simp only [Std.Legacy.Range.forIn_eq_forIn_range', Std.Legacy.Range.size, Nat.sub_zero, Nat.add_one_sub_one, Nat.div_one]
          rw [← List.range_eq_range']
          have := run_ckIs hT hre (fun h' _ q => run_ckAV hT em d hre h' q) hus (List.range n) h
          simp at this ⊢
          rw [this]
        · cases h
      · cases h
    · rename_i k hk
      rw [Instr.checkKey]
      simp only [run_bind', hu, hk, run_pure']
    · rename_i hk
      rw [Instr.checkKey]
      simp only [run_bind', hu, hk, run_pure']
    · rename_i hk
      rw [Instr.checkKey]
      simp only [run_bind', hu, hk, run_pure']
    · cases h
theorem KeyOk.agg {κ : Type} {KE : KEnc κ} {P : Program} {T : Tab} (hT : TabOk P T) {kt : TypeId} {r : TyRow} (hr : T.lookup kt = some r) (hd : isAggD r.desc = true) (hE : ∀ a b, eqAV T 10000 r (KE.enc a) (KE.enc b) = some (KE.eq a b)) (hC : ∀ a, ckAV T 10000 r (KE.enc a) = true) : KeyOk P kt KE where
  check em k v hv := run_ckAV hT em 10000 hr (hC k) hv
  now := .inr ⟨⟨r.desc, (hT kt r hr).1, fun u v => by cases hdd : r.desc <;> rw [hdd] at hd <;> first | (cases hd; done) | (cases u <;> cases v <;> rfl)⟩, fun a b u v h1 h2 => run_eqAV hT 10000 hr (hE a b) h1 h2⟩
theorem KeyOk.int {κ : Type} {KE : KEnc κ} {P : Program} {T : Tab} (hT : TabOk P T) {kt : TypeId} {r : TyRow} (hr : T.lookup kt = some r) {k k' : IntKind} (hd : r.desc = .int k) {f : κ → Int} (he : ∀ a, KE.enc a = .pv (.lit (.int k' (f a)))) (hq : ∀ a b, KE.eq a b = (f a == f b)) : KeyOk P kt KE where
  check em a v hv := by
    have hu := run_underlying hT hr
    rw [he] at hv
    simp only [VH, PH] at hv
    rw [hv.1, show (10000 : Nat) = 9999 + 1 from rfl, Instr.checkKey]
    simp only [run_bind', hu, hd, run_pure']
  now := .inl ⟨r.desc, (hT kt r hr).1, fun a b u v h1 h2 => by
    rw [he] at h1 h2
    simp only [VH, PH] at h1 h2
    rw [h1.1, h2.1, hd, hq]
    simp [Instr.sameNow]⟩
structure VEnc (β : Type) where
  enc : β → AV
  pure : ∀ x U, (enc x).within U = true
section steps
variable {E : Env} {T : Tab} {cq : Oper → Cls} {n : Nat} {ops : Array Oper} {κ β : Type} {KE : KEnc κ} {VE : VEnc β} {P : Program}
mutual
theorem rigid_within (U : Nat → Bool) : ∀ (x : AV), rigid x = true → x.within U = true
  | .agg cs, h => by simp only [rigid] at h; simp only [AV.within]; exact rigidL_within U cs h
  | .pv _, _ => rfl
  | .undef, h | .tup _, h | .ptr _ _, h | .sl _ _ _ _ _, h | .slc _ _ _ _ _, h | .tsl _ _, h | .rp _, h | .mp _, h | .fn _ _ _, h => by simp [rigid] at h
theorem rigidL_within (U : Nat → Bool) : ∀ (xs : List AV), rigidL xs = true → AV.withinL U xs = true
  | [], _ => rfl
  | x :: xs, h => by
    simp only [rigidL, Bool.and_eq_true] at h
    simp only [AV.withinL, Bool.and_eq_true]
    exact ⟨rigid_within U x h.1, rigidL_within U xs h.2⟩
end
theorem mapE_within (D : List (κ × β)) (U : Nat → Bool) : (mapE KE VE.enc D).within U = true := by
  simp only [mapE, Blk.within, List.all_map, List.all_eq_true, Function.comp_apply, Bool.and_eq_true]
  exact fun e _ => ⟨rigid_within U _ (KE.rig _), VE.pure _ _⟩
theorem mapE_ren (D : List (κ × β)) (σ : Nat → Nat) : (mapE KE VE.enc D).ren σ = mapE KE VE.enc D := by
  simp only [mapE, Blk.ren, List.map_map]
  congr 1
  exact List.map_congr_left fun e _ => by
    simp only [Function.comp_apply, ren_rigid _ (KE.rig _), AV.ren_none _ (VE.pure _ _)]
theorem refs_mp (b : Nat) (vs : List AV) (hs : List (Nat × Blk)) : refs (.mp b :: vs) hs b = true := by
  simp [refs, AV.withinL, AV.within]
theorem dst_lt (C : Cx E T n) {o : Oper} (h1 : dstB n o = true) : ∀ d, o.dst = some d → d < E.n := fun d e => by
  simp only [dstB, e, decide_eq_true_eq] at h1
  exact C.n ▸ h1
theorem rexec_makeMap (C : Cx E T n) {d : Nat} {t ty : TypeId} {pos : String} {af : Array Edge} {g : Option (Nat × Bool)} {st : St} {K : St → Prop} (h1 : dstB n ⟨some d, .makeMap t none, ty, pos, af, g⟩ = true) (hU : st.U d = false) (KE : KEnc κ) (VE : VEnc β)
    (h7 : K (st.after (some d) { v := .mp d, new := [(d, mapE KE VE.enc [])] })) (hp : clsOf cq ⟨some d, .makeMap t none, ty, pos, af, g⟩ ≠ .pure := by decide) (hft : footB (clsOf cq ⟨some d, .makeMap t none, ty, pos, af, g⟩) [] { v := .mp d, new := [(d, mapE KE VE.enc [])] } = true := by rfl) : rexec E cq n ⟨some d, .makeMap t none, ty, pos, af, g⟩ st K := by
  refine ⟨h1, [], [], _, { vals := rfl, deps := fun _ h => (by cases h), fresh := ?_, does := does_makeMap rfl rfl (dst_lt C h1 d rfl), reach := rfl, inV := ?_, inN := ?_, inW := fun _ h => (by cases h), wr := fun _ h => (by cases h), pure := fun h => absurd h hp, quiet := fun _ => rfl, foot := hft }, h7⟩
  · intro x hx; simp only [List.mem_singleton] at hx; subst hx; exact hU
  · simp [AV.within]
  · intro x hx; simp only [List.mem_singleton] at hx; subst hx; rfl
theorem rexec_lookup (hP : E.P = P) (C : Cx E T n) {d : Option Nat} {t ty : TypeId} {x y : Operand} {ok : Bool} {pos : String} {af : Array Edge} {g : Option (Nat × Bool)} {st : St} {K : St → Prop} (h1 : dstB n ⟨d, .lookup t x y ok, ty, pos, af, g⟩ = true) {b : Nat} {D : List (κ × β)} (k : κ) (z : β)
    (hx : evl st.S x = some (.mp b)) (hy : evl st.S y = some (KE.enc k)) (hb : st.H b = some (mapE KE VE.enc D)) {r re : TyRow} (hr : T.lookup t = some r) {kt et : TypeId} (hdesc : r.desc = .map kt et) (hre : T.lookup et = some re) (KO : KeyOk P kt KE) (hz : VE.enc z = constAV re.zero) (v : AV)
    (hv : v = if ok then .tup [VE.enc ((mGet KE k D).getD z), .pv (.lit (.bool (mGet KE k D).isSome))] else VE.enc ((mGet KE k D).getD z)) (h7 : K (st.after d { v := v }))
    (hp : clsOf cq ⟨d, .lookup t x y ok, ty, pos, af, g⟩ ≠ .pure := by decide) (hft : footB (clsOf cq ⟨d, .lookup t x y ok, ty, pos, af, g⟩) [(b, mapE KE VE.enc D)] { v := v } = true := by rfl) : rexec E cq n ⟨d, .lookup t x y ok, ty, pos, af, g⟩ st K := by
  subst hP
  subst hv
  refine ⟨h1, [.mp b, KE.enc k], [(b, mapE KE VE.enc D)], _, { vals := ?_, deps := ?_, fresh := fun _ h => (by cases h), does := does_lookup C.tab rfl (dst_lt C h1) hr hdesc hre KO hz, reach := ?_, inV := ?_, inN := fun _ h => (by cases h), inW := fun _ h => (by cases h), wr := fun _ h => (by cases h), pure := fun h => absurd h hp, quiet := fun _ => rfl, foot := hft }, h7⟩
  · show evls st.S [x, y] = _
    simp only [evls, hx, hy]
  · intro q hq; simp only [List.mem_singleton] at hq; subst hq; exact hb
  · simp only [reachB, refs_mp, Bool.and_self]
  · cases ok
    · exact VE.pure _ _
    · simp only [if_true, AV.within, AV.withinL, VE.pure, Bool.and_self]
theorem rexec_mapUpdate (hP : E.P = P) (C : Cx E T n) {t ty : TypeId} {x y z : Operand} {pos : String} {af : Array Edge} {g : Option (Nat × Bool)} {st : St} {K : St → Prop} {b : Nat} {D : List (κ × β)} (k : κ) (u : β)
    (hx : evl st.S x = some (.mp b)) (hy : evl st.S y = some (KE.enc k)) (hu : evl st.S z = some (VE.enc u)) (hb : st.H b = some (mapE KE VE.enc D)) {r : TyRow} (hr : T.lookup t = some r) {kt et : TypeId} (hdesc : r.desc = .map kt et) (KO : KeyOk P kt KE)
    (h7 : K (st.after none { v := .undef, wr := [(b, some (mapE KE VE.enc (mSet KE k u D)))] }))
    (hp : clsOf cq ⟨none, .mapUpdate t x y z, ty, pos, af, g⟩ ≠ .pure := by decide) (hq : clsOf cq ⟨none, .mapUpdate t x y z, ty, pos, af, g⟩ ≠ .quiet := by decide) (hft : footB (clsOf cq ⟨none, .mapUpdate t x y z, ty, pos, af, g⟩) [(b, mapE KE VE.enc D)] { v := .undef, wr := [(b, some (mapE KE VE.enc (mSet KE k u D)))] } = true := by rfl) : rexec E cq n ⟨none, .mapUpdate t x y z, ty, pos, af, g⟩ st K := by
  subst hP
  refine ⟨rfl, [.mp b, KE.enc k, VE.enc u], [(b, mapE KE VE.enc D)], _, { vals := ?_, deps := ?_, fresh := fun _ h => (by cases h), does := does_mapUpdate C.tab rfl rfl hr hdesc KO, reach := ?_, inV := rfl, inN := fun _ h => (by cases h), inW := ?_, wr := ?_, pure := fun h => absurd h hp, quiet := fun h => absurd h hq, foot := hft }, h7⟩
  · show evls st.S [x, y, z] = _
    simp only [evls, hx, hy, hu]
  · intro q hq; simp only [List.mem_singleton] at hq; subst hq; exact hb
  · simp only [reachB, refs_mp, Bool.and_self]
  · intro q hq k' hk'
    simp only [List.mem_singleton] at hq
    subst hq
    obtain rfl := Option.some.inj hk'
    exact mapE_within _ _
  · intro q hq
    simp only [List.mem_singleton] at hq
    subst hq
    simp [refs_mp]
theorem rexec_delete (hP : E.P = P) (C : Cx E T n) {d : Option Nat} {c : Call} {t t2 ty : TypeId} {pos : String} {af : Array Edge} {g : Option (Nat × Bool)} {st : St} {K : St → Prop} (h1 : dstB n ⟨d, .call c, ty, pos, af, g⟩ = true) (hc : c.callee = .builtin .delete) (hty : c.argTypes = #[t, t2]) {b : Nat} {D : List (κ × β)} (k : κ)
    (hx : evls st.S c.args.toList = some [.mp b, KE.enc k]) (hb : st.H b = some (mapE KE VE.enc D)) {r : TyRow} (hr : T.lookup t = some r) {kt et : TypeId} (hdesc : r.desc = .map kt et) (KO : KeyOk P kt KE)
    (h7 : K (st.after d { v := .tup [], wr := [(b, some (mapE KE VE.enc (mDel KE k D)))] }))
    (hp : clsOf cq ⟨d, .call c, ty, pos, af, g⟩ ≠ .pure := by decide) (hq : clsOf cq ⟨d, .call c, ty, pos, af, g⟩ ≠ .quiet := by decide) (hft : footB (clsOf cq ⟨d, .call c, ty, pos, af, g⟩) [(b, mapE KE VE.enc D)] { v := .tup [], wr := [(b, some (mapE KE VE.enc (mDel KE k D)))] } = true := by rfl) : rexec E cq n ⟨d, .call c, ty, pos, af, g⟩ st K := by
  subst hP
  refine ⟨h1, [.mp b, KE.enc k], [(b, mapE KE VE.enc D)], _, { vals := ?_, deps := ?_, fresh := fun _ h => (by cases h), does := does_delete C.tab rfl hc hty (dst_lt C h1) hr hdesc KO, reach := ?_, inV := rfl, inN := fun _ h => (by cases h), inW := ?_, wr := ?_, pure := fun h => absurd h hp, quiet := fun h => absurd h hq, foot := hft }, h7⟩
  · show evls st.S (Op.operands (.call c)).toList = _
    have : (Op.operands (.call c)).toList = c.args.toList := by simp [Op.operands, Call.operands, hc]
    rw [this]; exact hx
  · intro q hq; simp only [List.mem_singleton] at hq; subst hq; exact hb
  · simp only [reachB, refs_mp, Bool.and_self]
  · intro q hq k' hk'
    simp only [List.mem_singleton] at hq
    subst hq
    obtain rfl := Option.some.inj hk'
    exact mapE_within _ _
  · intro q hq
    simp only [List.mem_singleton] at hq
    subst hq
    simp [refs_mp]
end steps
end Go.Am
/- An abstract machine over the kit's calls, part 42: calls that are handed an object (block 0) and the blocks that it names. No conditions. -/
namespace Go.Am
section steps
variable {E : Env} {T : Tab} {cq : Oper → Cls} {n : Nat} {ops : Array Oper}
/-- A call that is handed an object, block 0, and the blocks that it names; what these hold leads nowhere. -/
structure ObjCalls (P : Program) (f : FuncId) (avs : List AV) (cs : List AV) (Bs : List (Nat × Blk)) (av : AV) (cs' : List AV) (Bs' : List (Nat × Blk)) : Prop where
  fn : ∃ fn, P.funcs[f]? = some fn ∧ (fn.name == "runtime.NumGoroutine") = false ∧ fn.body.isNone = false
  args : AV.withinL (inI (0 :: Bs.map (·.1))) avs = true
  c0 : AV.withinL (inI (0 :: Bs.map (·.1))) cs = true
  b0 : ∀ x ∈ Bs, x.2.within (fun _ => false) = true
  nd : (0 :: Bs.map (·.1)).Nodup
  res : av.within (fun _ => false) = true
  c1 : AV.withinL (inI (0 :: Bs'.map (·.1))) cs' = true
  b1 : ∀ x ∈ Bs', x.2.within (fun _ => false) = true
  nd' : (0 :: Bs'.map (·.1)).Nodup
  calls : ACalls P f (0 :: Bs.map (·.1)) avs ((0, .cells cs) :: Bs) av ((0, .cells cs') :: Bs')
theorem ObjCalls.of_body {P : Program} {T : Tab} (hT : TabOk P T) {f : FuncId} {fn : Func} {body : Code} (hf : P.funcs[f]? = some fn) (hb : fn.body = some body) (hn : (fn.name == "runtime.NumGoroutine") = false) {avs cs cs' : List AV} {Bs Bs' : List (Nat × Blk)} {av : AV} (hl : decide (avs.length ≤ fn.ntmps) = true)
    (args : AV.withinL (inI (0 :: Bs.map (·.1))) avs = true) (c0 : AV.withinL (inI (0 :: Bs.map (·.1))) cs = true) (b0 : ∀ x ∈ Bs, x.2.within (fun _ => false) = true) (nd : (0 :: Bs.map (·.1)).Nodup) (res : av.within (fun _ => false) = true)
    (c1 : AV.withinL (inI (0 :: Bs'.map (·.1))) cs' = true) (b1 : ∀ x ∈ Bs', x.2.within (fun _ => false) = true) (nd' : (0 :: Bs'.map (·.1)).Nodup) (hm : P.follows .mixedOrders = true)
    (h : ∀ E : Env, E.P = P → Cx E T fn.ntmps → E.I = 0 :: Bs.map (·.1) → Awp E body (entry avs ((0, .cells cs) :: Bs) (0 :: Bs.map (·.1))) fun e st => (e = .ret ∨ e = .normal) ∧ resAV T st fn.results.toList = some av ∧ st.H 0 = some (.cells cs') ∧ eqsH st.H Bs') : ObjCalls P f avs cs Bs av cs' Bs' where
  fn := ⟨fn, hf, hn, by simp [hb]⟩
  args := args
  c0 := c0
  b0 := b0
  nd := nd
  res := res
  c1 := c1
  b1 := b1
  nd' := nd'
  calls := ACalls.of_body hT hf hb (by simpa using hl) fun E hP hE hI => (h E hP ⟨hP ▸ hT, hE, hP ▸ hm⟩ hI).mono fun e st ⟨h1, h2, h3, h4⟩ => ⟨h1, h2, fun x hx => by
    rcases List.mem_cons.1 hx with rfl | hx
    · exact h3
    · exact eqsH_mem h4 x hx⟩
mutual
theorem AV.within_ren {U V : Nat → Bool} {τ : Nat → Nat} (h : ∀ b, U b = true → V (τ b) = true) : ∀ (x : AV), x.within U = true → (x.ren τ).within V = true
  | .agg cs, hx => by simp only [AV.within] at hx; simp only [AV.ren, AV.within]; exact AV.withinL_ren h cs hx
  | .tup cs, hx => by simp only [AV.within] at hx; simp only [AV.ren, AV.within]; exact AV.withinL_ren h cs hx
  | .undef, _ | .pv _, _ | .tsl _ _, _ | .rp _, _ => rfl
  | .ptr b _, hx => by simp only [AV.within] at hx; simp only [AV.ren, AV.within]; exact h b hx
  | .sl b _ _ _ _, hx => by simp only [AV.within] at hx; simp only [AV.ren, AV.within]; exact h b hx
  | .slc b _ _ _ _, hx => by simp only [AV.within] at hx; simp only [AV.ren, AV.within]; exact h b hx
  | .mp b, hx => by simp only [AV.within] at hx; simp only [AV.ren, AV.within]; exact h b hx
  | .fn _ xs ys, hx => by
    simp only [AV.within, Bool.and_eq_true] at hx
    simp only [AV.ren, AV.within, Bool.and_eq_true]
    exact ⟨AV.withinL_ren h xs hx.1, AV.withinL_ren h ys hx.2⟩
theorem AV.withinL_ren {U V : Nat → Bool} {τ : Nat → Nat} (h : ∀ b, U b = true → V (τ b) = true) : ∀ (xs : List AV), AV.withinL U xs = true → AV.withinL V (AV.renL τ xs) = true
  | [], _ => rfl
  | x :: xs, hx => by
    simp only [AV.withinL, Bool.and_eq_true] at hx
    simp only [AV.renL, AV.withinL, Bool.and_eq_true]
    exact ⟨AV.within_ren h x hx.1, AV.withinL_ren h xs hx.2⟩
end
/-- What such a call does at the caller's: σ names the blocks that are handed in, L those that are new. -/
def objDelta (σ : Nat → Nat) (L : List (Nat × Nat)) (I : List Nat) (Bs : List (Nat × Blk)) (av : AV) (cs' : List AV) (Bs' : List (Nat × Blk)) : Delta where
  v := av
  new := L.map fun x => (x.1, ((heapOf Bs' x.2).getD (.cells [])))
  wr := (σ 0, some (.cells (AV.renL (Names.τ ⟨σ, L⟩ I) cs'))) :: Bs.map fun x => (σ x.1, heapOf Bs' x.1)
theorem inj_of_nodup {α β : Type} {f : α → β} : ∀ {l : List α}, (l.map f).Nodup → ∀ {a b : α}, a ∈ l → b ∈ l → f a = f b → a = b
  | [], _, _, _, ha, _, _ => by cases ha
  | x :: l, h, a, b, ha, hb, e => by
    rw [List.map_cons, List.nodup_cons] at h
    rcases List.mem_cons.1 ha with h1 | h1 <;> rcases List.mem_cons.1 hb with h2 | h2
    · rw [h1, h2]
    · exact (h.1 (List.mem_map.2 ⟨b, h2, by rw [← e, h1]⟩)).elim
    · exact (h.1 (List.mem_map.2 ⟨a, h1, by rw [e, h2]⟩)).elim
    · exact inj_of_nodup h.2 h1 h2 e
theorem heapOf_cons_ne {b : Nat} {k : Blk} {H : List (Nat × Blk)} {c : Nat} (h : c ≠ b) : heapOf ((b, k) :: H) c = heapOf H c := by
  have : (c == b) = false := by simpa using h
  simp only [heapOf, List.lookup, this]
theorem rexec_callObj {P : Program} (hP : E.P = P) (C : Cx E T n) {f : FuncId} {avs args cs cs' : List AV} {Bs Bs' : List (Nat × Blk)} {av : AV} {d : Option Nat} {c : Call} {ty : TypeId} {pos : String} {af : Array Edge} {g : Option (Nat × Bool)} {st : St} {K : St → Prop}
    (σ : Nat → Nat) (L : List (Nat × Nat)) (h1 : dstB n ⟨d, .call c, ty, pos, af, g⟩ = true) (hc : c.callee = .value (.func f)) (hv : evls st.S c.args.toList = some args)
    (F : ObjCalls P f avs cs Bs av cs' Bs') (ha : AV.renL σ avs = args) (hb : st.H (σ 0) = some (.cells (AV.renL σ cs))) (hBs : eqsH st.H (Bs.map fun x => (σ x.1, x.2))) (hinj : ((0 :: Bs.map (·.1)).map σ).Nodup) (hU : (L.all fun x => !st.U x.1) = true)
    (hL1 : (L.map (·.1)).Nodup) (hL2 : (L.map (·.2)).Nodup) (hL3 : ∀ x ∈ L, inI (0 :: Bs.map (·.1)) x.2 = false) (hL4 : ∀ x ∈ L, (heapOf Bs' x.2).isSome = true) (hL5 : ∀ x ∈ Bs', Names.knows ⟨σ, L⟩ (0 :: Bs.map (·.1)) x.1 = true)
    (h7 : K (st.after d (objDelta σ L (0 :: Bs.map (·.1)) Bs av cs' Bs')))
    (hreach : refs (.fn f [] [] :: args) [] (σ 0) = true) (hrb : ∀ x ∈ Bs, AV.withinL (· != σ x.1) (args ++ AV.renL σ cs) = false)
    (hp : clsOf cq ⟨d, .call c, ty, pos, af, g⟩ ≠ .pure := by decide) (hq : clsOf cq ⟨d, .call c, ty, pos, af, g⟩ ≠ .quiet := by decide)
    (hft : footB (clsOf cq ⟨d, .call c, ty, pos, af, g⟩) ((σ 0, .cells (AV.renL σ cs)) :: Bs.map fun x => (σ x.1, x.2)) (objDelta σ L (0 :: Bs.map (·.1)) Bs av cs' Bs') = true := by rfl) : rexec E cq n ⟨d, .call c, ty, pos, af, g⟩ st K := by
  subst hP
  obtain ⟨fn, q1, q2, q3⟩ := F.fn
  have hd : ∀ x, d = some x → x < E.n := dst_lt C h1
  have hnone : ∀ (U : Nat → Bool) (b : Nat), (fun _ : Nat => false) b = true → U b = true := fun _ _ h => by cases h
  have hI0 : inI (0 :: Bs.map (·.1)) 0 = true := by simp [inI]
  have hIB : ∀ x ∈ Bs, inI (0 :: Bs.map (·.1)) x.1 = true := fun x hx => by
    simp only [inI, List.contains_iff_mem]
    exact List.mem_cons_of_mem _ (List.mem_map.2 ⟨x, hx, rfl⟩)
  have h0B : ∀ x ∈ Bs, x.1 ≠ 0 := fun x hx e => by
    have := (List.nodup_cons.1 F.nd).1
    exact this (List.mem_map.2 ⟨x, hx, e⟩)
  have h0B' : ∀ x ∈ Bs', x.1 ≠ 0 := fun x hx e => by
    have := (List.nodup_cons.1 F.nd').1
    exact this (List.mem_map.2 ⟨x, hx, e⟩)
  have hinj' : ∀ b c, inI (0 :: Bs.map (·.1)) b = true → inI (0 :: Bs.map (·.1)) c = true → σ b = σ c → b = c := fun b c hb hc e => by
    simp only [inI, List.contains_iff_mem] at hb hc
    exact inj_of_nodup hinj hb hc e
  have hknow0 : Names.knows ⟨σ, L⟩ (0 :: Bs.map (·.1)) 0 = true := by simp [Names.knows, hI0]
  have ok : CallOk ⟨σ, L⟩ (0 :: Bs.map (·.1)) avs ((0, .cells cs) :: Bs) ((0, .cells cs') :: Bs') av := by
    refine { args := F.args, ids := ?_, blks := ?_, nodup := by simpa using F.nd, inj := hinj', nodupL := hL1, nodupR := hL2, fresh := hL3, res := ?_, res' := ?_, kept := ?_, all := ?_, used := ?_ }
    · intro x hx
      rcases List.mem_cons.1 hx with rfl | hx
      · exact hI0
      · exact hIB x hx
    · intro x hx
      rcases List.mem_cons.1 hx with rfl | hx
      · exact F.c0
      · exact Blk.within_mono (hnone _) _ (F.b0 x hx)
    · exact AV.within_mono (hnone _) av F.res
    · intro x hx
      rcases List.mem_cons.1 hx with rfl | hx
      · refine ⟨hknow0, AV.withinL_mono (fun b hb => ?_) cs' F.c1⟩
        simp only [inI, List.contains_iff_mem, List.mem_cons] at hb
        rcases hb with rfl | hb
        · exact hknow0
        · obtain ⟨y, hy, rfl⟩ := List.mem_map.1 hb
          exact hL5 y hy
      · exact ⟨hL5 x hx, Blk.within_mono (hnone _) _ (F.b1 x hx)⟩
    · intro x hx hI
      simp only [inI, List.contains_iff_mem, List.mem_cons] at hI
      rcases hI with h0 | hI
      · exact ⟨.cells cs, by rw [h0]; exact List.mem_cons_self ..⟩
      · obtain ⟨y, hy, e⟩ := List.mem_map.1 hI
        exact ⟨y.2, List.mem_cons_of_mem _ (by rw [← e]; exact hy)⟩
    · intro x hx
      have hne : x.2 ≠ 0 := fun e => by
        have := hL3 x hx
        rw [e, hI0] at this; cases this
      rw [heapOf_cons_ne hne]; exact hL4 x hx
    · intro b hb
      simp only [inI, List.contains_iff_mem, List.mem_cons] at hb
      rcases hb with rfl | hb
      · exact .inr rfl
      · obtain ⟨y, hy, rfl⟩ := List.mem_map.1 hb
        right
        rw [heapOf_cons_ne (h0B y hy)]
        have := lookup_of_mem (l := Bs) (x := y) (List.nodup_cons.1 F.nd).2 hy
        simp only [heapOf, this]; rfl
  have hdo := does_call (E := E) (o := ⟨d, .call c, ty, pos, af, g⟩) (c := c) rfl hc hd q1 q2 q3 F.calls ok (args := args) (caps := []) (by simpa using ha)
  have pure1 : ∀ x, heapOf Bs' x = none ∨ ∃ k, heapOf Bs' x = some k ∧ k.within (fun _ => false) = true := fun x => by
    cases e : heapOf Bs' x with
    | none => exact .inl rfl
    | some k => exact .inr ⟨k, rfl, F.b1 (x, k) (lookup_mem (l := Bs') e)⟩
  have hren : ∀ (τ : Nat → Nat) x, (heapOf Bs' x).map (·.ren τ) = heapOf Bs' x := fun τ x => by
    rcases pure1 x with h | ⟨k, h, hk⟩
    · rw [h]; rfl
    · rw [h, Option.map_some, Blk.ren_none hk]
  have hH : (((0, Blk.cells cs) :: Bs).map fun x => (σ x.1, x.2.ren σ)) = (σ 0, .cells (AV.renL σ cs)) :: Bs.map fun x => (σ x.1, x.2) := by
    rw [List.map_cons]
    congr 1
    exact List.map_congr_left fun x hx => by rw [Blk.ren_none (F.b0 x hx)]
  have he : Names.delta ⟨σ, L⟩ (0 :: Bs.map (·.1)) ((0, .cells cs) :: Bs) ((0, .cells cs') :: Bs') av = objDelta σ L (0 :: Bs.map (·.1)) Bs av cs' Bs' := by
    unfold Names.delta objDelta
    congr 1
    · exact AV.ren_none av F.res
    · refine List.map_congr_left fun x hx => ?_
      have hne : x.2 ≠ 0 := fun e => by
        have := hL3 x hx
        rw [e, hI0] at this; cases this
      rw [heapOf_cons_ne hne]
      obtain ⟨k, hk⟩ := Option.isSome_iff_exists.1 (hL4 x hx)
      have := hren (Names.τ ⟨σ, L⟩ (0 :: Bs.map (·.1))) x.2
      rw [hk] at this ⊢
      simp only [Option.map_some, Option.some.injEq] at this
      simp only [Option.getD_some, this]
    · rw [List.map_cons]
      congr 1
      refine List.map_congr_left fun x hx => ?_
      rw [heapOf_cons_ne (h0B x hx), hren]
  rw [he] at hdo
  have hdo' : Does E ⟨d, .call c, ty, pos, af, g⟩ (.fn f [] [] :: args) ((σ 0, .cells (AV.renL σ cs)) :: Bs.map fun x => (σ x.1, x.2)) (objDelta σ L (0 :: Bs.map (·.1)) Bs av cs' Bs') := by
    rw [← hH]; exact hdo
  have hops : (Op.operands (.call c)).toList = .func f :: c.args.toList := by simp [Op.operands, Call.operands, hc]
  have hr0 : ∀ hs, refs (.fn f [] [] :: args) hs (σ 0) = true := fun hs => by
    simp only [refs, Bool.or_eq_true] at hreach ⊢
    rcases hreach with h | h
    · exact .inl h
    · simp at h
  have hrB : ∀ x ∈ Bs, ∀ hs, (σ 0, Blk.cells (AV.renL σ cs)) ∈ hs → refs (.fn f [] [] :: args) hs (σ x.1) = true := fun x hx hs hm => by
    have h := hrb x hx
    simp only [refs, Bool.or_eq_true, Bool.not_eq_true', List.any_eq_true]
    have key : AV.withinL (· != σ x.1) args = false ∨ AV.withinL (· != σ x.1) (AV.renL σ cs) = false := by
      cases e1 : AV.withinL (· != σ x.1) args
      · exact .inl rfl
      · cases e2 : AV.withinL (· != σ x.1) (AV.renL σ cs)
        · exact .inr rfl
        · have : AV.withinL (· != σ x.1) (args ++ AV.renL σ cs) = true := AV.withinL_of fun y hy => by
            rcases List.mem_append.1 hy with hy | hy
            · exact AV.withinL_mem e1 y hy
            · exact AV.withinL_mem e2 y hy
          rw [this] at h; cases h
    rcases key with h | h
    · left; simp only [AV.withinL, h, Bool.and_false]
    · right; exact ⟨_, hm, by simpa [Blk.within] using h⟩
  have hrAll : reachB (.fn f [] [] :: args) [] ((σ 0, .cells (AV.renL σ cs)) :: Bs.map fun x => (σ x.1, x.2)) = true := by
    have key : ∀ (bs : List (Nat × Blk)) (seen : List (Nat × Blk)), (∀ x ∈ bs, x ∈ Bs) → (σ 0, Blk.cells (AV.renL σ cs)) ∈ seen → reachB (.fn f [] [] :: args) seen (bs.map fun x => (σ x.1, x.2)) = true := by
      intro bs
      induction bs with
      | nil => intro _ _ _; rfl
      | cons y bs ih =>
        intro seen hb hm
        simp only [List.map_cons, reachB, Bool.and_eq_true]
        exact ⟨hrB y (hb y (List.mem_cons_self ..)) seen hm, ih _ (fun x hx => hb x (List.mem_cons_of_mem _ hx)) (List.mem_cons_of_mem _ hm)⟩
    simp only [reachB, Bool.and_eq_true]
    exact ⟨hr0 [], key Bs _ (fun _ h => h) (List.mem_cons_self ..)⟩
  have hknown : ∀ b, inI (0 :: Bs'.map (·.1)) b = true → ((objDelta σ L (0 :: Bs.map (·.1)) Bs av cs' Bs').new.lookup (Names.τ ⟨σ, L⟩ (0 :: Bs.map (·.1)) b)).isSome = true ∨ refs (.fn f [] [] :: args) ((σ 0, .cells (AV.renL σ cs)) :: Bs.map fun x => (σ x.1, x.2)) (Names.τ ⟨σ, L⟩ (0 :: Bs.map (·.1)) b) = true := fun b hb => by
    have hk : Names.knows ⟨σ, L⟩ (0 :: Bs.map (·.1)) b = true := by
      simp only [inI, List.contains_iff_mem, List.mem_cons] at hb
      rcases hb with rfl | hb
      · exact hknow0
      · obtain ⟨y, hy, rfl⟩ := List.mem_map.1 hb
        exact hL5 y hy
    cases hi : inI (0 :: Bs.map (·.1)) b with
    | true =>
      right
      have e : Names.τ ⟨σ, L⟩ (0 :: Bs.map (·.1)) b = σ b := by simp only [Names.τ, hi, if_true]
      rw [e]
      simp only [inI, List.contains_iff_mem, List.mem_cons] at hi
      rcases hi with rfl | hi
      · exact hr0 _
      · obtain ⟨y, hy, rfl⟩ := List.mem_map.1 hi
        exact hrB y hy _ (List.mem_cons_self ..)
    | false =>
      left
      simp only [Names.knows, hi, Bool.false_or, List.any_eq_true, beq_iff_eq] at hk
      obtain ⟨y, hy, rfl⟩ := hk
      have e : Names.τ ⟨σ, L⟩ (0 :: Bs.map (·.1)) y.2 = y.1 := by
        simp only [Names.τ, hi, Bool.false_eq_true, if_false, find_snd hL2 hy]; rfl
      rw [e]
      have : (L.map fun x => (x.1, (heapOf Bs' x.2).getD (.cells []))).lookup y.1 = some ((heapOf Bs' y.2).getD (.cells [])) :=
        lookup_of_mem (l := L.map fun x => (x.1, (heapOf Bs' x.2).getD (.cells []))) (x := (y.1, (heapOf Bs' y.2).getD (.cells []))) (by rw [List.map_map]; exact hL1) (List.mem_map.2 ⟨y, hy, rfl⟩)
      show ((L.map fun x => (x.1, (heapOf Bs' x.2).getD (.cells []))).lookup y.1).isSome = true
      rw [this]; rfl
  refine ⟨h1, .fn f [] [] :: args, _, _, { vals := ?_, deps := ?_, fresh := ?_, does := hdo', reach := hrAll, inV := ?_, inN := ?_, inW := ?_, wr := ?_, pure := fun h => absurd h hp, quiet := fun h => absurd h hq, foot := hft }, h7⟩
  · show evls st.S (Op.operands (.call c)).toList = _
    rw [hops]; simp only [evls, evl, hv]
  · intro x hx
    rcases List.mem_cons.1 hx with rfl | hx
    · exact hb
    · exact eqsH_mem hBs x hx
  · intro x hx
    obtain ⟨y, hy, rfl⟩ := List.mem_map.1 hx
    have := List.all_eq_true.1 hU y hy
    simpa using this
  · exact AV.within_mono (hnone _) av F.res
  · intro x hx
    obtain ⟨y, hy, rfl⟩ := List.mem_map.1 hx
    rcases pure1 y.2 with h | ⟨k, h, hk⟩
    · rw [h]; rfl
    · show ((heapOf Bs' y.2).getD _).within _ = true
      rw [h]; exact Blk.within_mono (hnone _) _ hk
  · intro x hx k hk
    rcases List.mem_cons.1 hx with rfl | hx
    · obtain rfl := Option.some.inj hk
      refine AV.withinL_ren (fun b hb => ?_) cs' F.c1
      have := hknown b hb
      simpa using this
    · obtain ⟨y, hy, rfl⟩ := List.mem_map.1 hx
      rcases pure1 y.1 with h | ⟨k', h, hk'⟩
      · have hk : heapOf Bs' y.1 = some k := hk
        rw [h] at hk; cases hk
      · have hk : heapOf Bs' y.1 = some k := hk
        rw [h] at hk
        obtain rfl := Option.some.inj hk
        exact Blk.within_mono (hnone _) _ hk'
  · intro x hx
    simp only [Bool.or_eq_true]
    right
    rcases List.mem_cons.1 hx with rfl | hx
    · exact hr0 _
    · obtain ⟨y, hy, rfl⟩ := List.mem_map.1 hx
      exact hrB y hy _ (List.mem_cons_self ..)
end steps
end Go.Am
/- An abstract machine over the kit's calls, part 43: maps at loops' heads; keys told; a row of one's own cut at its end. No conditions. -/
namespace Go.Am
section heads
variable {κ β : Type} {KE : KEnc κ} {VE : VEnc β} {f : Nat → Option Blk} {τ : Nat → Nat} {U Ks : List Nat} {H : List (Nat × Blk)}
theorem okH_map {c : Nat} {D : List (κ × β)} (h1 : f (τ c) = some (mapE KE VE.enc D)) (h2 : Ks.contains c = true) (h3 : U.contains c = true) (h : okH f τ U Ks H) : okH f τ U Ks ((c, mapE KE VE.enc D) :: H) :=
  okH_cons (by rw [h1, mapE_ren]) h2 h3 (mapE_within _ _) h
end heads
theorem allB_nil {α : Type} {P : α → Prop} : ∀ x ∈ ([] : List α), P x := fun _ h => by cases h
theorem allB_cons {α : Type} {P : α → Prop} {x : α} {l : List α} (h : P x) (hl : ∀ y ∈ l, P y) : ∀ y ∈ x :: l, P y := fun y hy => by
  rcases List.mem_cons.1 hy with e | hy
  · rw [e]; exact h
  · exact hl y hy
section steps
variable {E : Env} {T : Tab} {cq : Oper → Cls} {n : Nat}
end steps
end Go.Am
/- An abstract machine over the kit's calls, part 49: maps told whole, iterators over them: a map ranged over in whatever order. No conditions. -/
namespace Go.Am
section worlds
variable {E : Env} {κ β : Type} {KE : KEnc κ} {ve : β → AV} {ι : Nat → Option (Nat × Nat)} {imm : Nat → Prop} {st : St} {a : Act} {w : World}
/-- A map told whole: entries in order, with their stamps. -/
def mapX {κ β : Type} (KE : KEnc κ) (ve : β → AV) (X : List ((κ × β) × Nat)) (q : Nat) : Blk := .mapx (X.map fun e => (KE.enc e.1.1, ve e.1.2, e.2)) q
theorem dropB_mapX (X : List ((κ × β) × Nat)) : dropB (X.map fun e => (KE.enc e.1.1, ve e.1.2, e.2)) = (X.map (·.1)).map fun e => (KE.enc e.1, ve e.2) := by
  simp [dropB]
theorem Delta.H_wr {v : AV} {b : Nat} {k : Option Blk} {H : Nat → Option Blk} : (Delta.mk v [] [(b, k)]).H H = fun b' => if b' = b then k else H b' := by
  funext b'
  simp only [Delta.H, List.lookup]
  by_cases hbb : b' = b
  · subst hbb; simp
  · have : (b' == b) = false := by simpa using hbb
    simp [this, hbb]
/-- A block is told in other words. -/
theorem SR.retell' (h : SR E ι imm st a w) {b : Nat} {k k' : Blk} (hb : st.H b = some k) (hk : ∀ r z, ι b = some (r, z) → BlkH ι imm w r z k') (v : AV) : SR E ι imm ⟨st.S, (Delta.mk v [] [(b, some k')]).H st.H, (Delta.mk v [] [(b, some k')]).U st.U⟩ a w := by
  refine { h with defers := h.defers, size := h.size, slot := h.slot, heap := ⟨fun b' k1 hk1 => ?_, fun b1 b2 k1 k2 r1 z1 z2 hk1 hk2 hi1 hi2 => ?_⟩, used := fun b' x hx => ?_ }
  · rw [Delta.H_wr] at hk1
    dsimp only at hk1
    split at hk1
    · rename_i e
      subst e
      obtain rfl := Option.some.inj hk1
      obtain ⟨r, z, q1, q2, q3, _⟩ := h.heap.blk b' k hb
      exact ⟨r, z, q1, q2, q3, hk r z q1⟩
    · exact h.heap.blk b' k1 hk1
  · have old : ∀ b' k1, (Delta.mk v [] [(b, some k')]).H st.H b' = some k1 → ∃ k2, st.H b' = some k2 := fun b' k1 hk1 => by
      rw [Delta.H_wr] at hk1
      dsimp only at hk1
      split at hk1
      · rename_i e; subst e; exact ⟨_, hb⟩
      · exact ⟨_, hk1⟩
    obtain ⟨_, q1⟩ := old b1 k1 hk1
    obtain ⟨_, q2⟩ := old b2 k2 hk2
    exact h.heap.inj b1 b2 _ _ r1 z1 z2 q1 q2 hi1 hi2
  · simp only [Delta.U, List.lookup, Option.isSome_none, Bool.false_or]; exact h.used b' x hx
/-- A block that is no row is written. -/
theorem SR.writeObj (h : SR E ι imm st a w) {b : Nat} {k k' : Blk} (hb : st.H b = some k) {r z : Nat} (hi : ι b = some (r, z)) {o o' : Obj} (ho : w.heap[r]? = some o) (hc : ∀ c e f, o ≠ Obj.cells c e f)
    (hk : Grows ι ι imm imm w { w with heap := w.heap.setIfInBounds r o' } → BlkH ι imm { w with heap := w.heap.setIfInBounds r o' } r z k') (v : AV) :
    SR E ι imm ⟨st.S, (Delta.mk v [] [(b, some k')]).H st.H, (Delta.mk v [] [(b, some k')]).U st.U⟩ a { w with heap := w.heap.setIfInBounds r o' } := by
  obtain ⟨r', z', q1, h6, h7, _⟩ := h.heap.blk b k hb
  rw [hi] at q1
  simp only [Option.some.injEq, Prod.mk.injEq] at q1
  obtain ⟨rfl, rfl⟩ := q1
  obtain ⟨hs1, hs2⟩ := Go.MapKept.heap_set (o' := o') ho
  have g : Grows ι ι imm imm w { w with heap := w.heap.setIfInBounds r o' } := ⟨fun _ _ h => h, ⟨fun _ h => h, fun k hk => hs2 k (fun e => h6 (e ▸ hk))⟩, fun r' c1 e1 f1 hr' => by
    by_cases hrr : r' = r
    · subst hrr; rw [ho] at hr'; exact absurd (Option.some.inj hr') (hc _ _ _)
    · exact ⟨c1, f1, (hs2 r' hrr).trans hr', rfl⟩⟩
  have hH : ∀ b' k1, (Delta.mk v [] [(b, some k')]).H st.H b' = some k1 → (b' = b ∧ k1 = k') ∨ (b' ≠ b ∧ st.H b' = some k1) := fun b' k1 hk1 => by
    rw [Delta.H_wr] at hk1
    dsimp only at hk1
    split at hk1
    · rename_i e; exact .inl ⟨e, (Option.some.inj hk1).symm⟩
    · rename_i e; exact .inr ⟨e, hk1⟩
  have hold : ∀ b' k1, (Delta.mk v [] [(b, some k')]).H st.H b' = some k1 → ∃ k2, st.H b' = some k2 := fun b' k1 hk1 => by
    rcases hH b' k1 hk1 with ⟨rfl, _⟩ | ⟨_, h⟩
    · exact ⟨_, hb⟩
    · exact ⟨_, h⟩
  have hsz : ({ w with heap := w.heap.setIfInBounds r o' } : World).heap.size = w.heap.size := by simp
  refine h.turn g rfl rfl rfl (Nat.le_refl _) (by rw [hsz]; exact Nat.le_refl _) (fun k _ hM => hs2 k (fun e => hM (e ▸ h7))) ⟨fun b' k1 hk1 => ?_, fun b1 b2 k1 k2 r1 z1 z2 hk1 hk2 hi1 hi2 => ?_⟩ (fun b' x hx => ?_) (fun _ hk => .inl hk) (fun k hk => by rw [hsz]; exact h.immlt k hk)
  · rcases hH b' k1 hk1 with ⟨rfl, rfl⟩ | ⟨hne, hk1⟩
    · exact ⟨r, z, hi, h6, h7, hk g⟩
    · obtain ⟨r', z', q1, q2, q3, q4⟩ := h.heap.blk b' k1 hk1
      have hrr : r' ≠ r := fun e => hne (h.heap.inj b' b k1 _ r z' z hk1 hb (e ▸ q1) hi)
      exact ⟨r', z', q1, q2, q3, q4.grows g (hs2 r' hrr)⟩
  · obtain ⟨k1', q1⟩ := hold b1 k1 hk1
    obtain ⟨k2', q2⟩ := hold b2 k2 hk2
    exact h.heap.inj b1 b2 k1' k2' r1 z1 z2 q1 q2 hi1 hi2
  · simp only [Delta.U, List.lookup, Option.isSome_none, Bool.false_or]; exact h.used b' x hx
/-- One draw more. -/
theorem SR.drew (h : SR E ι imm st a w) : SR E ι imm st a w.drew := by
  have g : Grows ι ι imm imm w w.drew := ⟨fun _ _ h => h, ⟨fun _ h => h, fun _ _ => rfl⟩, fun _ c _ f h => ⟨c, f, h, rfl⟩⟩
  have := h.turn (H := st.H) (U := st.U) g rfl rfl rfl (Nat.le_succ _) (Nat.le_refl _) (fun _ _ _ => rfl) ⟨fun b k hk => by
    obtain ⟨r, z, q1, q2, q3, q4⟩ := h.heap.blk b k hk
    exact ⟨r, z, q1, q2, q3, q4.grows g rfl⟩, h.heap.inj⟩ h.used (fun _ hk => .inl hk) h.immlt
  exact this
theorem SR.iterB (h : SR E ι imm st a w) {i b since : Nat} {seen : List Nat} {c0 : Nat} (hi : st.H i = some (.iter b since seen c0)) {r z : Nat} (hr : ι i = some (r, z)) : z = 0 ∧ ∃ m, ι b = some (m, 0) ∧ w.heap[r]? = some (Obj.mapIter (some m) since (List.toArray seen) c0) := by
  obtain ⟨r', z', q1, _, _, m, q2, q3, q4⟩ := h.heap.blk i _ hi
  rw [hr] at q1
  simp only [Option.some.injEq, Prod.mk.injEq] at q1
  obtain ⟨rfl, rfl⟩ := q1
  exact ⟨q2, m, q3, q4⟩
theorem SR.mapXB (h : SR E ι imm st a w) {b : Nat} {X : List ((κ × β) × Nat)} {q : Nat} (hb : st.H b = some (mapX KE ve X q)) {m z : Nat} (hm : ι b = some (m, z)) : z = 0 ∧ ∃ c, w.heap[m]? = some (Obj.map c q) ∧ EntsH ι imm w ((X.map (·.1)).map fun e => (KE.enc e.1, ve e.2)) c.toList ∧ c.toList.map (·.born) = X.map (·.2) ∧ mOnce KE (X.map (·.1)) ∧ BornOk c.toList q := by
  obtain ⟨r', z', q1, _, _, c, q2, q3, q4, q5, q6, q7⟩ := h.heap.blk b _ hb
  rw [hm] at q1
  simp only [Option.some.injEq, Prod.mk.injEq] at q1
  obtain ⟨rfl, rfl⟩ := q1
  rw [dropB_mapX] at q4 q6
  refine ⟨q2, c, q3, q4, ?_, keysOk_map.1 q6, q7⟩
  rw [q5]; simp
theorem EntsH.length {es : List (AV × AV)} {l : List MapEntry} (h : EntsH ι imm w es l) : l.length = es.length := by
  induction es generalizing l with
  | nil => simp only [EntsH] at h; rw [h]; rfl
  | cons x xs ih => obtain ⟨e, us, rfl, _, _, h⟩ := h; simp [ih h]
/-- An entry of a map told whole. -/
theorem EntsH.at {X : List ((κ × β) × Nat)} {l : List MapEntry} (h : EntsH ι imm w ((X.map (·.1)).map fun e => (KE.enc e.1, ve e.2)) l) (hb : l.map (·.born) = X.map (·.2)) {x : MapEntry} (hx : x ∈ l) : ∃ e ∈ X, x.born = e.2 ∧ VH ι imm w (KE.enc e.1.1) x.key ∧ VH ι imm w (ve e.1.2) x.val := by
  induction X generalizing l with
  | nil => simp only [List.map_nil, EntsH] at h; subst h; cases hx
  | cons y X ih =>
    obtain ⟨e, us, rfl, h1, h2, h3⟩ := h
    simp only [List.map_cons, List.cons.injEq] at hb
    rcases List.mem_cons.1 hx with rfl | hx
    · exact ⟨y, List.mem_cons_self .., hb.1, h1, h2⟩
    · obtain ⟨e', q1, q2⟩ := ih h3 hb.2 hx
      exact ⟨e', List.mem_cons_of_mem _ q1, q2⟩
end worlds
section tell
variable {E : Env} {κ β : Type} {KE : KEnc κ} {VE : VEnc β} {st : St} {Q : Exit → St → Prop}
theorem zip_fst {α γ : Type} : ∀ {l : List α} {m : List γ}, l.length = m.length → (l.zip m).map (·.1) = l
  | [], [], _ => rfl
  | x :: l, y :: m, h => by simp only [List.zip_cons_cons, List.map_cons, List.length_cons, Nat.add_right_cancel_iff] at h ⊢; rw [zip_fst h]
  | [], _ :: _, h => by cases h
  | _ :: _, [], h => by cases h
theorem zip_snd {α γ : Type} : ∀ {l : List α} {m : List γ}, l.length = m.length → (l.zip m).map (·.2) = m
  | [], [], _ => rfl
  | x :: l, y :: m, h => by simp only [List.zip_cons_cons, List.map_cons, List.length_cons, Nat.add_right_cancel_iff] at h ⊢; rw [zip_snd h]
  | [], _ :: _, h => by cases h
  | _ :: _, [], h => by cases h
theorem St.after_none (st : St) (δ : Delta) : st.after none δ = ⟨st.S, δ.H st.H, δ.U st.U⟩ := rfl
theorem Awp.openMap {c : Code} {b : Nat} {D : List (κ × β)} (hb : st.H b = some (mapE KE VE.enc D))
    (h : ∀ (X : List ((κ × β) × Nat)) (q : Nat), D.Perm (X.map (·.1)) → mOnce KE (X.map (·.1)) → (X.map (·.2)).Nodup → (∀ e ∈ X, e.2 < q) → Awp E c (st.after none { v := .undef, wr := [(b, some (mapX KE VE.enc X q))] }) Q) : Awp E c st Q := by
  intro a w hat
  obtain ⟨ι, imm, hs⟩ := hat
  obtain ⟨r, z, hi, _⟩ := hs.heap.blk b _ hb
  obtain ⟨rfl, c1, q, D', h1, h2, h3, h4, h5, _, _⟩ := hs.map hb hi
  have hlen : D'.length = (c1.toList.map (·.born)).length := by
    have := h3.length
    rw [List.length_map] at this
    rw [List.length_map, this]
  have f1 := zip_fst hlen
  have f2 := zip_snd hlen
  refine h (D'.zip (c1.toList.map (·.born))) q (by rw [f1]; exact h2) (by rw [f1]; exact h4) (by rw [f2]; exact h5.nodup) (fun e he => ?_) a w ⟨ι, imm, ?_⟩
  · have : e.2 ∈ (D'.zip (c1.toList.map (·.born))).map (·.2) := List.mem_map.2 ⟨e, he, rfl⟩
    rw [f2] at this
    obtain ⟨x, hx, e2⟩ := List.mem_map.1 this
    rw [← e2]; exact h5.lt x hx
  · rw [St.after_none]
    obtain ⟨r', z', q1, q2, q3, _⟩ := hs.heap.blk b _ hb
    refine hs.retell' hb (fun r1 z1 hι => ?_) .undef
    rw [hi] at hι
    simp only [Option.some.injEq, Prod.mk.injEq] at hι
    obtain ⟨rfl, rfl⟩ := hι
    refine ⟨c1, rfl, h1, ?_, ?_, ?_, h5⟩
    · rw [dropB_mapX, f1]; exact h3
    · rw [show ((D'.zip (c1.toList.map (·.born))).map fun e => (KE.enc e.1.1, VE.enc e.1.2, e.2)).map (·.2.2) = (D'.zip (c1.toList.map (·.born))).map (·.2) by simp, f2]
    · rw [dropB_mapX, f1]; exact keysOk_map.2 h4
theorem Awp.closeMap {c : Code} {b : Nat} {X : List ((κ × β) × Nat)} {q : Nat} (hb : st.H b = some (mapX KE VE.enc X q)) (D : List (κ × β)) (hD : D.Perm (X.map (·.1)))
    (h : Awp E c (st.after none { v := .undef, wr := [(b, some (mapE KE VE.enc D))] }) Q) : Awp E c st Q := by
  intro a w hat
  obtain ⟨ι, imm, hs⟩ := hat
  obtain ⟨r, z, hi, _⟩ := hs.heap.blk b _ hb
  obtain ⟨rfl, c1, h1, h2, h3, h4, h5⟩ := hs.mapXB hb hi
  refine h a w ⟨ι, imm, ?_⟩
  rw [St.after_none]
  refine hs.retell' hb (fun r1 z1 hι => ?_) .undef
  rw [hi] at hι
  simp only [Option.some.injEq, Prod.mk.injEq] at hι
  obtain ⟨rfl, rfl⟩ := hι
  obtain ⟨l', p1, p2⟩ := EntsH.perm' ((hD.map (fun e => (KE.enc e.1, VE.enc e.2))).symm) h2
  exact ⟨c1, q, l', rfl, h1, p1.symm, p2, keysOk_map.2 (h4.perm hD.symm), ⟨(p1.map _).nodup_iff.1 h5.nodup, fun e he => h5.lt e (p1.mem_iff.2 he)⟩⟩
end tell
end Go.Am
/- An abstract machine over the kit's calls, part 50: maps told whole: ranged over, the next entry, the entry, looked up, deleted, entered. No conditions. -/
namespace Go.Am
section plain
variable {κ β : Type} (KE : KEnc κ)
def xDel (k : κ) : List ((κ × β) × Nat) → List ((κ × β) × Nat)
  | [] => []
  | e :: X => if KE.eq k e.1.1 then X else e :: xDel k X
def xGet (k : κ) : List ((κ × β) × Nat) → Option (β × Nat)
  | [] => none
  | e :: X => if KE.eq k e.1.1 then some (e.1.2, e.2) else xGet k X
def xPut (n : Nat) (u : β) (X : List ((κ × β) × Nat)) : List ((κ × β) × Nat) := X.map fun e => if e.2 = n then ((e.1.1, u), e.2) else e
theorem xDel_map (k : κ) : ∀ (X : List ((κ × β) × Nat)), (xDel KE k X).map (·.1) = mDel KE k (X.map (·.1))
  | [] => rfl
  | e :: X => by
    simp only [xDel, mDel, List.map_cons]
    split
    · rfl
    · rw [List.map_cons, xDel_map k X]
theorem xGet_map (k : κ) : ∀ (X : List ((κ × β) × Nat)), (xGet KE k X).map (·.1) = mGet KE k (X.map (·.1))
  | [] => rfl
  | e :: X => by
    simp only [xGet, mGet, List.map_cons]
    split
    · rfl
    · exact xGet_map k X
theorem xDel_sub (k : κ) : ∀ (X : List ((κ × β) × Nat)), (xDel KE k X).Sublist X
  | [] => .refl _
  | e :: X => by
    unfold xDel
    split
    · exact .cons _ (.refl _)
    · exact (xDel_sub k X).cons_cons _
end plain
theorem map_erase {α γ : Type} (f : α → γ) : ∀ (l : List α) (i : Nat), (l.eraseIdx i).map f = (l.map f).eraseIdx i
  | [], _ => rfl
  | _ :: _, 0 => rfl
  | x :: l, i + 1 => by simp only [List.eraseIdx_cons_succ, List.map_cons, map_erase f l i]
section worlds
variable {E : Env} {κ β : Type} {KE : KEnc κ} {ve : β → AV} {ι : Nat → Option (Nat × Nat)} {imm : Nat → Prop} {st : St} {a : Act} {w : World}
theorem EntsH.of {X : List ((κ × β) × Nat)} {l : List MapEntry} (h : EntsH ι imm w ((X.map (·.1)).map fun e => (KE.enc e.1, ve e.2)) l) (hb : l.map (·.born) = X.map (·.2)) {e : (κ × β) × Nat} (he : e ∈ X) : ∃ x ∈ l, x.born = e.2 ∧ VH ι imm w (KE.enc e.1.1) x.key ∧ VH ι imm w (ve e.1.2) x.val := by
  induction X generalizing l with
  | nil => cases he
  | cons y X ih =>
    obtain ⟨x, us, rfl, h1, h2, h3⟩ := h
    simp only [List.map_cons, List.cons.injEq] at hb
    rcases List.mem_cons.1 he with rfl | he
    · exact ⟨x, List.mem_cons_self .., hb.1, h1, h2⟩
    · obtain ⟨x', q1, q2⟩ := ih h3 hb.2 he
      exact ⟨x', List.mem_cons_of_mem _ q1, q2⟩
/-- What was found in a map told whole. -/
theorem lookL_at {k : κ} : ∀ {X : List ((κ × β) × Nat)} {l : List MapEntry} {i j : Nat} {x : Value}, l.map (·.born) = X.map (·.2) → lookL KE k (X.map (·.1)) l i = some (j, x) →
    ∃ m e y, j = i + m ∧ X[m]? = some e ∧ l[m]? = some y ∧ y.born = e.2 ∧ KE.eq k e.1.1 = true ∧ xDel KE k X = X.eraseIdx m ∧ xGet KE k X = some (e.1.2, e.2)
  | [], _, _, _, _, _, h => by simp [lookL] at h
  | x0 :: X, [], _, _, _, hb, _ => by simp at hb
  | x0 :: X, y :: l, i, j, x, hb, h => by
    simp only [List.map_cons, List.cons.injEq] at hb
    simp only [List.map_cons, lookL] at h
    split at h
    · rename_i hq
      simp only [Option.some.injEq, Prod.mk.injEq] at h
      obtain ⟨rfl, rfl⟩ := h
      exact ⟨0, x0, y, rfl, rfl, rfl, hb.1, hq, by simp only [xDel, hq, if_true]; rfl, by simp only [xGet, hq, if_true]⟩
    · rename_i hq
      obtain ⟨m, e, y', q1, q2, q3, q4, q5, q6, q7⟩ := lookL_at hb.2 h
      exact ⟨m + 1, e, y', by omega, by simpa using q2, by simpa using q3, q4, q5, by simp only [xDel, hq, q6]; rfl, by simp only [xGet, hq]; exact q7⟩
theorem lookL_not {k : κ} : ∀ {X : List ((κ × β) × Nat)} {l : List MapEntry} {i : Nat}, l.map (·.born) = X.map (·.2) → lookL KE k (X.map (·.1)) l i = none → xDel KE k X = X ∧ xGet KE k X = none ∧ ∀ e ∈ X, KE.eq k e.1.1 = false
  | [], _, _, _, _ => ⟨rfl, rfl, fun _ h => by cases h⟩
  | x0 :: X, [], _, hb, _ => by simp at hb
  | x0 :: X, y :: l, i, hb, h => by
    simp only [List.map_cons, List.cons.injEq] at hb
    simp only [List.map_cons, lookL] at h
    split at h
    · cases h
    · rename_i hq
      obtain ⟨a, b, c⟩ := lookL_not hb.2 h
      refine ⟨by simp only [xDel, hq, a]; rfl, by simp only [xGet, hq]; exact b, fun e he => ?_⟩
      rcases List.mem_cons.1 he with rfl | he
      · simpa using hq
      · exact c e he
/-- A map told whole is told by its entries. -/
theorem mapX_blk {X : List ((κ × β) × Nat)} {q r : Nat} {c : Array MapEntry} {w : World} (h1 : w.heap[r]? = some (Obj.map c q)) (h2 : EntsH ι imm w ((X.map (·.1)).map fun e => (KE.enc e.1, ve e.2)) c.toList) (h3 : c.toList.map (·.born) = X.map (·.2)) (h4 : mOnce KE (X.map (·.1))) (h5 : BornOk c.toList q) : BlkH ι imm w r 0 (mapX KE ve X q) :=
  ⟨c, rfl, h1, by rw [dropB_mapX]; exact h2, by rw [h3]; simp, by rw [dropB_mapX]; exact keysOk_map.2 h4, h5⟩
end worlds
section ops
variable {E : Env} {T : Tab} {κ β : Type} {KE : KEnc κ} {ve : β → AV}
theorem does_rangeX (hT : TabOk E.P T) {o : Oper} {t : TypeId} {x : Operand} (ho : o.op = .range t x) {d : Nat} (hdst : o.dst = some d) (hd : d < E.n) {r : TyRow} (hr : T.lookup t = some r) {kt et : TypeId} (hdesc : r.desc = .map kt et) {b : Nat} {X : List ((κ × β) × Nat)} {q : Nat} :
    Does E o [.mp b] [(b, mapX KE ve X q)] { v := .ptr d 0, new := [(d, .iter b q [] q)] } := by
  refine Does.alloc hdst hd fun ι imm st a w hs hv hh => ?_
  rw [ho] at hv
  simp only [Op.operands, List.map_cons, List.map_nil] at hv
  have hv1 := hv.one
  simp only [VH] at hv1
  obtain ⟨m, z, hi, he⟩ := hv1
  obtain ⟨rfl, c, h1, _⟩ := hs.mapXB (hh _ (List.mem_cons_self ..)) hi
  have hu : E.P.underlying t = some (.map kt et) := by rw [(hT t r hr).1, hdesc]
  refine ⟨.mapIter (some m) q #[] q, .pointer (some ⟨w.heap.size, 0, none⟩), ?_, ⟨m, hi, rfl⟩, fun ι' h => ⟨_, _, h, rfl⟩⟩
  simp only [execOp, ho, he, run_bind', Go.run_range_map w t kt et m c q hu h1, run_pure']
  rfl
theorem does_entryX {o : Oper} {x : Operand} (ho : o.op = .entry x) (hd : ∀ d, o.dst = some d → d < E.n) {i b since : Nat} {seen : List Nat} {X : List ((κ × β) × Nat)} {q : Nat} {e : (κ × β) × Nat} (he : e ∈ X) :
    Does E o [.ptr i 0] [(i, .iter b since (seen ++ [e.2]) q), (b, mapX KE ve X q)] { v := .tup [KE.enc e.1.1, ve e.1.2] } := by
  refine Does.value hd fun ι imm st a w hs hv hh => ?_
  rw [ho] at hv
  simp only [Op.operands, List.map_cons, List.map_nil] at hv
  have hv1 := hv.one
  simp only [VH] at hv1
  obtain ⟨r, z, hi, hev⟩ := hv1
  obtain ⟨rfl, m, hm, h1⟩ := hs.iterB (hh _ (List.mem_cons_self ..)) hi
  obtain ⟨_, c, h2, h3, h4, h5, h6⟩ := hs.mapXB (hh _ (List.mem_cons_of_mem _ (List.mem_cons_self ..))) hm
  obtain ⟨y, hy, e1, e2, e3⟩ := h3.of h4 he
  rw [show List.toArray (seen ++ [e.2]) = (List.toArray seen).push y.born by rw [e1]; simp] at h1
  refine ⟨.tuple #[y.key, y.val], ?_, ?_⟩
  · simp only [execOp, ho, hev, Nat.add_zero, run_bind', Go.run_entry_at w r m since (List.toArray seen) c q y h1 h2 hy h6.nodup, run_pure']
  · simp only [VH]
    exact ⟨[y.key, y.val], rfl, _, _, rfl, e2, _, _, rfl, e3, rfl⟩
theorem does_lookupX (hT : TabOk E.P T) {o : Oper} {t : TypeId} {x y : Operand} (ho : o.op = .lookup t x y false) (hd : ∀ d, o.dst = some d → d < E.n) {r re : TyRow} (hr : T.lookup t = some r) {kt et : TypeId} (hdesc : r.desc = .map kt et) (hre : T.lookup et = some re)
    (K : KeyOk E.P kt KE) {b : Nat} {X : List ((κ × β) × Nat)} {q : Nat} {k : κ} {z : β} (hz : ve z = constAV re.zero) :
    Does E o [.mp b, KE.enc k] [(b, mapX KE ve X q)] { v := ve ((mGet KE k (X.map (·.1))).getD z) } := by
  refine Does.value hd fun ι imm st a w hs hv hh => ?_
  rw [ho] at hv
  simp only [Op.operands, List.map_cons, List.map_nil] at hv
  obtain ⟨hv1, hv2⟩ := hv.two
  simp only [VH] at hv1
  obtain ⟨rr, zz, hi, he⟩ := hv1
  obtain ⟨rfl, c, h1, h3, _⟩ := hs.mapXB (hh _ (List.mem_cons_self ..)) hi
  have hu : (underlying t).run E.P w = .ok (.map kt et) w := by rw [run_underlying hT hr, hdesc]
  have hf := run_find (ve := ve) K hv2 (X.map (·.1)) c.toList h3
  have hck := K.check c.isEmpty k _ hv2
  cases hl : lookL KE k (X.map (·.1)) c.toList 0 with
  | none =>
    rw [hl] at hf
    obtain ⟨q1, _, _⟩ := lookL_none h3 hl
    rw [q1]
    have hval := constAV_holds ι imm w re.zero
    rw [← hz] at hval
    refine ⟨re.zero, ?_, hval⟩
    simp only [execOp, ho, he, Instr.lookup, run_bind', hu, Go.MapKept.run_getObj_map h1, run_pure', hck, hf, run_zeroValue hT hre, Bool.false_eq_true, if_false]
  | some p =>
    obtain ⟨j, x⟩ := p
    rw [hl] at hf
    obtain ⟨m, e, y0, _, _, _, q4, q5, _, _⟩ := lookL_some h3 hl
    rw [q4]
    refine ⟨x, ?_, q5⟩
    simp only [execOp, ho, he, Instr.lookup, run_bind', hu, Go.MapKept.run_getObj_map h1, run_pure', hck, hf, Bool.false_eq_true, if_false]
theorem does_deleteX (hT : TabOk E.P T) {o : Oper} {c : Call} {t t2 : TypeId} (ho : o.op = .call c) (hc : c.callee = .builtin .delete) (hty : c.argTypes = #[t, t2]) (hd : ∀ d, o.dst = some d → d < E.n) {r : TyRow} (hr : T.lookup t = some r) {kt et : TypeId} (hdesc : r.desc = .map kt et)
    (K : KeyOk E.P kt KE) {b : Nat} {X : List ((κ × β) × Nat)} {q : Nat} {k : κ} : Does E o [.mp b, KE.enc k] [(b, mapX KE ve X q)] { v := .tup [], wr := [(b, some (mapX KE ve (xDel KE k X) q))] } := by
  intro ι imm st a w Q hs hv hh _
  have hv := hs.evls hv
  have hops : o.op.operands.toList = c.args.toList := by rw [ho]; simp [Op.operands, Call.operands, hc]
  rw [hops] at hv
  obtain ⟨v1, us, hea, hv1, v2, us2, he2, hv2, hv3⟩ := hv
  subst he2
  simp only [VHs] at hv3
  subst hv3
  have hargs : c.args.map a.eval = #[v1, v2] := by apply Array.ext'; simpa using hea
  simp only [VH] at hv1
  obtain ⟨rr, zz, hi, he⟩ := hv1
  have hb := hh _ (List.mem_cons_self ..)
  obtain ⟨rfl, m, h1, h3, h4, h5, h6⟩ := hs.mapXB hb hi
  have hu : (underlying t).run E.P w = .ok (.map kt et) w := by rw [run_underlying hT hr, hdesc]
  have hf := run_find (ve := ve) K hv2 (X.map (·.1)) m.toList h3
  have hck := K.check m.isEmpty k _ hv2
  have hfin : ∀ c' : Array MapEntry, EntsH ι imm w (((xDel KE k X).map (·.1)).map fun e => (KE.enc e.1, ve e.2)) c'.toList → c'.toList.map (·.born) = (xDel KE k X).map (·.2) → BornOk c'.toList q → (execOp a.eval o).run E.P w = .ok (.value (.tuple #[])) { w with heap := w.heap.setIfInBounds rr (.map c' q) } →
      o.wp E.P a w (fun a' w' => ∃ ι' imm', SR E ι' imm' (st.after o.dst { v := .tup [], wr := [(b, some (mapX KE ve (xDel KE k X) q))] }) a' w') Q := fun c' e1 e2 e3 hrun => by
    unfold Oper.wp
    rw [hrun, Oper.upon_value]
    have := hs.writeObj hb hi h1 (fun _ _ _ e => by cases e) (o' := .map c' q) (k' := mapX KE ve (xDel KE k X) q) (fun g => mapX_blk (Go.MapKept.heap_set h1).1 (e1.grows g) e2 (by rw [xDel_map]; exact mDel_once h5) e3) (.tup [])
    exact ⟨ι, imm, this.put o.dst hd (by simp only [VH]; exact ⟨[], rfl, rfl⟩)⟩
  cases hl : lookL KE k (X.map (·.1)) m.toList 0 with
  | none =>
    rw [hl] at hf
    obtain ⟨q1, _, _⟩ := lookL_not h4 hl
    refine hfin m (by rw [q1]; exact h3) (by rw [q1]; exact h4) h6 ?_
    simp [execOp, ho, resolve, hc, invoke, builtin, hargs, Builtin.delete_, hty, he, hu, Go.MapKept.run_getObj_map h1, hck, hf, Go.MapKept.run_setObj_map _ h1]
  | some p =>
    obtain ⟨j, x⟩ := p
    rw [hl] at hf
    obtain ⟨m', e, y0, hj, q2, q3, _, _, q6, _⟩ := lookL_at h4 hl
    obtain ⟨m2, e', y1, hj2, _, _, _, q5, _, q7⟩ := lookL_some h3 hl
    have hjm : j = m' := by omega
    subst hjm
    have hj2' : m2 = j := by omega
    subst hj2'
    have hjl : m2 < m.size := by
      have := (List.getElem?_eq_some_iff.1 q3).1
      simpa using this
    have hto : (m.eraseIdxIfInBounds m2).toList = m.toList.eraseIdx m2 := by
      unfold Array.eraseIdxIfInBounds
      rw [dif_pos hjl, Array.toList_eraseIdx]
    refine hfin (m.eraseIdxIfInBounds m2) ?_ ?_ ?_ ?_
    · rw [hto, xDel_map]; exact (q7 x y1 q5).2
    · rw [hto, q6, map_erase, map_erase, h4]
    · rw [hto]; exact h6.sub (List.eraseIdx_sublist _ _)
    · simp [execOp, ho, resolve, hc, invoke, builtin, hargs, Builtin.delete_, hty, he, hu, Go.MapKept.run_getObj_map h1, hck, hf, Go.MapKept.run_setObj_map _ h1]
end ops
end Go.Am
/- An abstract machine over the kit's calls, part 51: the next entry of a map, whichever it is; entries made and stored; these as rules of a region. No conditions. -/
namespace Go.Am
section next
variable {E : Env} {T : Tab} {n : Nat} {κ β : Type} {KE : KEnc κ} {ve : β → AV} {st : St} {Q : Exit → St → Prop}
/-- A region that begins with the step to the next entry: nothing is left, or some entry that is left comes out. -/
theorem Awp.next (C : Cx E T n) (cq : Oper → Cls) {id d t : Nat} {ty : TypeId} {pos : String} {af : Array Edge} {rest : List Oper} {i b since : Nat} {seen : List Nat} {c0 : Nat} {X : List ((κ × β) × Nat)} {q : Nat} (hd : decide (d < n) = true)
    (ht : st.S t = some (.ptr i 0)) (hi : st.H i = some (.iter b since seen c0)) (hb : st.H b = some (mapX KE ve X q)) (hold : ∀ e ∈ X, e.2 < since) (hsc : since ≤ c0)
    (h0 : (∀ e ∈ X, e.2 ∈ seen) → rvc E cq n (⟨some d, .next (.tmp t) false, ty, pos, af, none⟩ :: rest).toArray rest (st.after (some d) { v := .tup [.pv (.lit (.bool false))] }) fun st' => Q .normal st')
    (h1 : ∀ e ∈ X, e.2 ∉ seen → rvc E cq n (⟨some d, .next (.tmp t) false, ty, pos, af, none⟩ :: rest).toArray rest (st.after (some d) { v := .tup [.pv (.lit (.bool true)), KE.enc e.1.1, ve e.1.2], wr := [(i, some (.iter b since (seen ++ [e.2]) q))] }) fun st' => Q .normal st') :
    Awp E (.region id (⟨some d, .next (.tmp t) false, ty, pos, af, none⟩ :: rest).toArray false) st Q := by
  intro a w hat
  obtain ⟨ι, imm, hs⟩ := hat
  have hdn : d < E.n := C.n ▸ of_decide_eq_true hd
  have hv := hs.slot t _ ht
  simp only [VH] at hv
  obtain ⟨r, z, hr, hev⟩ := hv
  obtain ⟨rfl, m, hm, g1⟩ := hs.iterB hi hr
  obtain ⟨_, c, g2, g3, g4, g5, g6⟩ := hs.mapXB hb hm
  have hold' : ∀ x ∈ c.toList, x.born < since := fun x hx => by
    obtain ⟨e, he, q1, _⟩ := g3.at g4 hx
    rw [q1]; exact hold e he
  have rest' : ∀ (st' : St) (a' : Act) (w' : World), At E st' a' w' → (rvc E cq n (⟨some d, .next (.tmp t) false, ty, pos, af, none⟩ :: rest).toArray rest st' fun st' => Q .normal st') →
      wpOps E.P (⟨some d, .next (.tmp t) false, ty, pos, af, none⟩ :: rest).toArray (fun e a' w' => ∃ st', Q e st' ∧ At E st' a' w') (List.range' 1 rest.length) a' w' := fun st' a' w' hat' hrv => by
    obtain ⟨sn, h1, h2⟩ := run_of_rvc C.n rest 1 st' _ (fun j => by rw [Nat.add_comm 1 j]; simp) hrv
    exact run_wpOps h1 hat' fun a w h3 => ⟨sn, h2, h3⟩
  refine wp_region ?_
  rw [show (List.range (⟨some d, .next (.tmp t) false, ty, pos, af, none⟩ :: rest : List Oper).toArray.size) = 0 :: List.range' 1 rest.length by rw [List.range_eq_range']; simp [List.range'_succ]]
  rw [wpOps_cons]
  unfold wpOp
  rw [show ((⟨some d, .next (.tmp t) false, ty, pos, af, none⟩ :: rest : List Oper).toArray)[0]? = some ⟨some d, .next (.tmp t) false, ty, pos, af, none⟩ by simp]
  dsimp only
  rw [if_pos (by simp [Region.wanted])]
  left
  unfold Oper.wp
  have hx : (execOp a.eval ⟨some d, .next (.tmp t) false, ty, pos, af, none⟩) = (do let x ← Instr.next (a.eval (.tmp t)) false ty; pure (.value x)) := rfl
  have hev' : a.eval (.tmp t) = .pointer (some ⟨r, 0, none⟩) := hev
  rw [hx, hev']
  rcases Go.run_next_at (P := E.P) w ty r m since c0 (List.toArray seen) c q g1 g2 hold' hsc with ⟨k0, hrun⟩ | ⟨e, he, w1, hal, hrun⟩
  · rw [run_bind', hrun]
    show Oper.upon _ _ _ _ _ (.ok (.value _) w)
    rw [Oper.upon_value]
    refine rest' _ _ _ ⟨ι, imm, ?_⟩ (h0 fun e he => ?_)
    · rw [St.after_skip']
      exact hs.put (some d) (fun x hx => by cases hx; exact hdn) (by simp only [VH]; exact ⟨[.bool false], rfl, _, _, rfl, ⟨rfl, rfl⟩, rfl⟩)
    · obtain ⟨y, hy, q1, _⟩ := g3.of g4 he
      have hall : (c.filter fun e => !(List.toArray seen).contains e.born) = #[] := Array.eq_empty_of_size_eq_zero k0
      rw [Array.filter_eq_empty_iff] at hall
      have := hall y (by simpa using hy)
      rw [← q1]
      simpa using this
  · rw [run_bind', hrun]
    show Oper.upon _ _ _ _ _ (.ok (.value _) _)
    rw [Oper.upon_value]
    have hmem : e ∈ c.toList ∧ e.born ∉ seen := by
      unfold Go.leftOf at he
      simp at he
      exact ⟨by simpa using he.1, he.2⟩
    obtain ⟨x, hxX, q1, q2, q3⟩ := g3.at g4 hmem.1
    have hs1 : SR E ι imm st a w1 := by
      rcases hal with rfl | rfl
      · exact hs
      · exact hs.drew
    have g1' : w1.heap[r]? = some (Obj.mapIter (some m) since (List.toArray seen) c0) := by rcases hal with rfl | rfl <;> exact g1
    have hgr : Grows ι ι imm imm w w1 := by
      rcases hal with rfl | rfl
      · exact .refl _ _ _
      · exact ⟨fun _ _ h => h, ⟨fun _ h => h, fun _ _ => rfl⟩, fun _ c _ f h => ⟨c, f, h, rfl⟩⟩
    have hw := hs1.writeObj hi hr g1' (fun _ _ _ e => by cases e) (o' := .mapIter (some m) since ((List.toArray seen).push e.born) q) (k' := .iter b since (seen ++ [x.2]) q)
      (fun g => ⟨m, rfl, hm, by rw [(Go.MapKept.heap_set g1').1, q1]; simp⟩) (.tup [])
    refine rest' _ _ _ ⟨ι, imm, hw.put (some d) (fun x hx => by cases hx; exact hdn) (v := .tup [.pv (.lit (.bool true)), KE.enc x.1.1, ve x.1.2]) ?_⟩ (h1 x hxX (by rw [← q1]; exact hmem.2))
    have hg2 : Grows ι ι imm imm w1 { w1 with heap := w1.heap.setIfInBounds r (.mapIter (some m) since ((List.toArray seen).push e.born) q) } := by
      obtain ⟨r', z', p1, p2, p3, _⟩ := hs1.heap.blk i _ hi
      rw [hr] at p1
      simp only [Option.some.injEq, Prod.mk.injEq] at p1
      obtain ⟨rfl, rfl⟩ := p1
      have hs2 := (Go.MapKept.heap_set (o' := Obj.mapIter (some m) since ((List.toArray seen).push e.born) q) g1').2
      exact ⟨fun _ _ h => h, ⟨fun _ h => h, fun k hk => hs2 k (fun e => p2 (e ▸ hk))⟩, fun r' c1 e1 f1 hr' => by
        by_cases hrr : r' = r
        · subst hrr; rw [g1'] at hr'; cases hr'
        · exact ⟨c1, f1, (hs2 r' hrr).trans hr', rfl⟩⟩
    simp only [VH]
    exact ⟨[.bool true, e.key, e.val], rfl, _, _, rfl, ⟨rfl, rfl⟩, _, _, rfl, VH.grows (hgr.trans hg2) _ _ q2, _, _, rfl, VH.grows (hgr.trans hg2) _ _ q3, rfl⟩
end next
end Go.Am
/- An abstract machine over the kit's calls, part 52: entries made and stored; the operations on maps told whole as rules of a region. No conditions. -/
namespace Go.Am
section plain
variable {κ β : Type} (KE : KEnc κ)
variable {KE}
end plain
section ops
variable {E : Env} {T : Tab} {κ β : Type} {KE : KEnc κ} {ve : β → AV}
theorem mOnce_iff {X : List ((κ × β) × Nat)} : mOnce KE (X.map (·.1)) ↔ (X.map fun e => KE.enc e.1.1).Nodup := by
  unfold mOnce; rw [List.map_map]; rfl
end ops
end Go.Am
/- An abstract machine over the kit's calls, part 53: maps told whole: the operations as rules of a region. No conditions. -/
namespace Go.Am
section steps
variable {E : Env} {T : Tab} {cq : Oper → Cls} {n : Nat} {ops : Array Oper} {κ β : Type} {KE : KEnc κ} {VE : VEnc β} {P : Program}
theorem mapX_within (X : List ((κ × β) × Nat)) (q : Nat) (U : Nat → Bool) : (mapX KE VE.enc X q).within U = true := by
  simp only [mapX, Blk.within, dropB_mapX, List.all_map, List.all_eq_true, Function.comp_apply, Bool.and_eq_true]
  exact fun e _ => ⟨rigid_within U _ (KE.rig _), VE.pure _ _⟩
theorem refs_ptr (i o : Nat) (vs : List AV) (hs : List (Nat × Blk)) : refs (.ptr i o :: vs) hs i = true := by
  simp [refs, AV.withinL, AV.within]
theorem refs_iter (vs : List AV) (i b s : Nat) (l : List Nat) (c : Nat) (hs : List (Nat × Blk)) : refs vs ((i, .iter b s l c) :: hs) b = true := by
  simp [refs, Blk.within]
theorem rexec_rangeX (C : Cx E T n) {d : Nat} {t ty : TypeId} {x : Operand} {pos : String} {af : Array Edge} {g : Option (Nat × Bool)} {st : St} {K : St → Prop} (h1 : dstB n ⟨some d, .range t x, ty, pos, af, g⟩ = true) (hU : st.U d = false) {b : Nat} {X : List ((κ × β) × Nat)} {q : Nat}
    (hx : evl st.S x = some (.mp b)) (hb : st.H b = some (mapX KE VE.enc X q)) {r : TyRow} (hr : T.lookup t = some r) {kt et : TypeId} (hdesc : r.desc = .map kt et) (h7 : K (st.after (some d) { v := .ptr d 0, new := [(d, .iter b q [] q)] }))
    (hp : clsOf cq ⟨some d, .range t x, ty, pos, af, g⟩ ≠ .pure := by decide) (hft : footB (clsOf cq ⟨some d, .range t x, ty, pos, af, g⟩) [(b, mapX KE VE.enc X q)] { v := .ptr d 0, new := [(d, .iter b q [] q)] } = true := by rfl) : rexec E cq n ⟨some d, .range t x, ty, pos, af, g⟩ st K := by
  refine ⟨h1, [.mp b], [(b, mapX KE VE.enc X q)], _, { vals := ?_, deps := ?_, fresh := ?_, does := does_rangeX C.tab rfl rfl (dst_lt C h1 d rfl) hr hdesc, reach := ?_, inV := ?_, inN := ?_, inW := fun _ h => (by cases h), wr := fun _ h => (by cases h), pure := fun h => absurd h hp, quiet := fun _ => rfl, foot := hft }, h7⟩
  · show evls st.S [x] = _
    simp only [evls, hx]
  · intro y hy; simp only [List.mem_singleton] at hy; subst hy; exact hb
  · intro y hy; simp only [List.mem_singleton] at hy; subst hy; exact hU
  · simp only [reachB, refs_mp, Bool.and_self]
  · simp [AV.within]
  · intro y hy; simp only [List.mem_singleton] at hy; subst hy
    simp only [Blk.within, refs_mp, Bool.or_true]
theorem rexec_entryX (C : Cx E T n) {d : Option Nat} {ty : TypeId} {x : Operand} {pos : String} {af : Array Edge} {g : Option (Nat × Bool)} {st : St} {K : St → Prop} (h1 : dstB n ⟨d, .entry x, ty, pos, af, g⟩ = true) {i b since : Nat} {seen : List Nat} {X : List ((κ × β) × Nat)} {q : Nat} (e : (κ × β) × Nat) (he : e ∈ X)
    (hx : evl st.S x = some (.ptr i 0)) (hi : st.H i = some (.iter b since (seen ++ [e.2]) q)) (hb : st.H b = some (mapX KE VE.enc X q)) (h7 : K (st.after d { v := .tup [KE.enc e.1.1, VE.enc e.1.2] }))
    (hp : clsOf cq ⟨d, .entry x, ty, pos, af, g⟩ ≠ .pure := by decide) (hft : footB (clsOf cq ⟨d, .entry x, ty, pos, af, g⟩) [(i, .iter b since (seen ++ [e.2]) q), (b, mapX KE VE.enc X q)] { v := .tup [KE.enc e.1.1, VE.enc e.1.2] } = true := by rfl) : rexec E cq n ⟨d, .entry x, ty, pos, af, g⟩ st K := by
  refine ⟨h1, [.ptr i 0], [(i, .iter b since (seen ++ [e.2]) q), (b, mapX KE VE.enc X q)], _, { vals := ?_, deps := ?_, fresh := fun _ h => (by cases h), does := does_entryX rfl (dst_lt C h1) he, reach := ?_, inV := ?_, inN := fun _ h => (by cases h), inW := fun _ h => (by cases h), wr := fun _ h => (by cases h), pure := fun h => absurd h hp, quiet := fun _ => rfl, foot := hft }, h7⟩
  · show evls st.S [x] = _
    simp only [evls, hx]
  · intro y hy
    rcases List.mem_cons.1 hy with rfl | hy
    · exact hi
    · simp only [List.mem_singleton] at hy; subst hy; exact hb
  · simp only [reachB, refs_ptr, refs_iter, Bool.and_self]
  · simp only [AV.within, AV.withinL, rigid_within _ _ (KE.rig _), VE.pure, Bool.and_self]
theorem rexec_deleteX (hP : E.P = P) (C : Cx E T n) {d : Option Nat} {c : Call} {t t2 ty : TypeId} {pos : String} {af : Array Edge} {g : Option (Nat × Bool)} {st : St} {K : St → Prop} (h1 : dstB n ⟨d, .call c, ty, pos, af, g⟩ = true) (hc : c.callee = .builtin .delete) (hty : c.argTypes = #[t, t2]) {b : Nat} {X : List ((κ × β) × Nat)} {q : Nat} (k : κ)
    (hx : evls st.S c.args.toList = some [.mp b, KE.enc k]) (hb : st.H b = some (mapX KE VE.enc X q)) {r : TyRow} (hr : T.lookup t = some r) {kt et : TypeId} (hdesc : r.desc = .map kt et) (KO : KeyOk P kt KE)
    (h7 : K (st.after d { v := .tup [], wr := [(b, some (mapX KE VE.enc (xDel KE k X) q))] }))
    (hp : clsOf cq ⟨d, .call c, ty, pos, af, g⟩ ≠ .pure := by decide) (hq : clsOf cq ⟨d, .call c, ty, pos, af, g⟩ ≠ .quiet := by decide) (hft : footB (clsOf cq ⟨d, .call c, ty, pos, af, g⟩) [(b, mapX KE VE.enc X q)] { v := .tup [], wr := [(b, some (mapX KE VE.enc (xDel KE k X) q))] } = true := by rfl) : rexec E cq n ⟨d, .call c, ty, pos, af, g⟩ st K := by
  subst hP
  refine ⟨h1, [.mp b, KE.enc k], [(b, mapX KE VE.enc X q)], _, { vals := ?_, deps := ?_, fresh := fun _ h => (by cases h), does := does_deleteX C.tab rfl hc hty (dst_lt C h1) hr hdesc KO, reach := ?_, inV := rfl, inN := fun _ h => (by cases h), inW := ?_, wr := ?_, pure := fun h => absurd h hp, quiet := fun h => absurd h hq, foot := hft }, h7⟩
  · show evls st.S (Op.operands (.call c)).toList = _
    have : (Op.operands (.call c)).toList = c.args.toList := by simp [Op.operands, Call.operands, hc]
    rw [this]; exact hx
  · intro q hq; simp only [List.mem_singleton] at hq; subst hq; exact hb
  · simp only [reachB, refs_mp, Bool.and_self]
  · intro q hq k' hk'
    simp only [List.mem_singleton] at hq
    subst hq
    obtain rfl := Option.some.inj hk'
    exact mapX_within _ _ _
  · intro q hq
    simp only [List.mem_singleton] at hq
    subst hq
    simp [refs_mp]
end steps
end Go.Am
/- An abstract machine over the kit's calls, part 54: a row of one's own put into a map: it will not change any more. No conditions. -/
namespace Go.Am
section worlds
variable {E : Env} {ι : Nat → Option (Nat × Nat)} {imm : Nat → Prop} {st : St} {a : Act} {w : World}
/-- A row of one's own is one that will not change. -/
theorem SR.freezeB (h : SR E ι imm st a w) {d : Nat} {ps : List PV} (hb : st.H d = some (.cells (ps.map .pv))) : ∃ imm', Grows ι ι imm imm' w w ∧ SR E ι imm' ⟨st.S, fun x => if x = d then none else st.H x, st.U⟩ a w ∧
    ∀ m s tt v, VH ι imm w (.sl d 0 m s tt) v → VH ι imm' w (.pv (.sl (some false) m ps)) v := by
  obtain ⟨r, z, q1, q2, q3, c, e, f, q4, q5, q6, q7⟩ := h.heap.blk d _ hb
  have hlt : r < w.heap.size := by
    rcases Nat.lt_or_ge r w.heap.size with h' | h'
    · exact h'
    · rw [Array.getElem?_eq_none h'] at q4; cases q4
  let imm' : Nat → Prop := fun k => imm k ∨ k = r
  have g : Grows ι ι imm imm' w w := ⟨fun _ _ h => h, ⟨fun _ hk => .inl hk, fun _ _ => rfl⟩, fun r c e f hr => ⟨c, f, hr, rfl⟩⟩
  have hH : ∀ x k, (if x = d then none else st.H x) = some k → x ≠ d ∧ st.H x = some k := fun x k hx => by
    split at hx
    · cases hx
    · rename_i hne; exact ⟨hne, hx⟩
  refine ⟨imm', g, ⟨h.defers, h.size, fun t v hv => VH.grows g v _ (h.slot t v hv), ⟨fun x k hx => ?_, fun x x' k k' r z z' hx hx' => h.heap.inj x x' k k' r z z' (hH x k hx).2 (hH x' k' hx').2⟩, h.used, h.grow.trans g, h.ext, fun k hk => ?_, fun k hk => ?_⟩, fun m s tt v hv => ?_⟩
  · obtain ⟨hne, hx⟩ := hH x k hx
    obtain ⟨r', z', p1, p2, p3, p4⟩ := h.heap.blk x k hx
    refine ⟨r', z', p1, fun hi => hi.elim p2 fun e => ?_, p3, p4.grows g rfl⟩
    subst e
    exact hne (h.heap.inj x d k _ r' z' z hx hb p1 q1)
  · rcases hk with hk | rfl
    · exact h.immM k hk
    · exact .inr q3
  · rcases hk with hk | rfl
    · exact h.immlt k hk
    · exact hlt
  · simp only [VH] at hv
    obtain ⟨r', z', cap, i1, i2, i3, _⟩ := hv
    rw [q1] at i1
    simp only [Option.some.injEq, Prod.mk.injEq] at i1
    obtain ⟨rfl, rfl⟩ := i1
    rw [i2]
    simp only [VH, PH]
    refine ⟨_, cap, rfl, i3, fun h => (by simp at h), fun _ h => (by simp at h), fun h => (by simp at h), fun A hA _ => ?_⟩
    simp only [Option.some.injEq] at hA
    subst hA
    exact ⟨rfl, .inr rfl, PHs.of_cells (i := imm) (ι := ι) (w := w) ⟨fun _ hk => .inl hk, fun _ _ => rfl⟩ (fun o => cell_of_heap q4 o) q7⟩
end worlds
section ops
variable {E : Env} {T : Tab} {κ β : Type} {KE : KEnc κ} {ve : β → AV}
theorem does_mapUpdateO (hT : TabOk E.P T) {o : Oper} {t : TypeId} {x y z : Operand} (ho : o.op = .mapUpdate t x y z) (hdst : o.dst = none) {r : TyRow} (hr : T.lookup t = some r) {kt et : TypeId} (hdesc : r.desc = .map kt et)
    (K : KeyOk E.P kt KE) {b d : Nat} (hne : b ≠ d) {D : List (κ × β)} {k : κ} {u : β} {m s : Nat} {tt : Bool} {ps : List PV} (hu : ve u = .pv (.sl (some false) m ps)) :
    Does E o [.mp b, KE.enc k, .sl d 0 m s tt] [(b, mapE KE ve D), (d, .cells (ps.map .pv))] { v := .undef, wr := [(b, some (mapE KE ve (mSet KE k u D))), (d, none)] } := by
  intro ι imm0 st a w Q hs0 hv hh _
  have hv := hs0.evls hv
  rw [ho] at hv
  simp only [Op.operands, List.map_cons, List.map_nil] at hv
  obtain ⟨hv1, hv2, hv3⟩ := hv.three
  have hbd := hh _ (List.mem_cons_of_mem _ (List.mem_cons_self ..))
  have hb0 := hh _ (List.mem_cons_self ..)
  obtain ⟨imm, g, hs, hf3⟩ := hs0.freezeB hbd
  have hv3 := hf3 _ _ _ _ hv3
  rw [← hu] at hv3
  have hv2 := VH.grows g _ _ hv2
  simp only [VH] at hv1
  obtain ⟨rr, zz, hi, he⟩ := hv1
  have hb : (⟨st.S, fun x => if x = d then none else st.H x, st.U⟩ : St).H b = some (mapE KE ve D) := by
    show (if b = d then none else st.H b) = _
    rw [if_neg hne]; exact hb0
  obtain ⟨rfl, c, q, D', h1, h2, h3, h4, h5, _, _⟩ := hs.map hb hi
  have hun : (underlying t).run E.P w = .ok (.map kt et) w := by rw [run_underlying hT hr, hdesc]
  have hf := run_find (ve := ve) K hv2 D' c.toList h3
  have hck := K.check false k _ hv2
  have hfin : ∀ c' q', EntsH ι imm w ((mSet KE k u D').map fun e => (KE.enc e.1, ve e.2)) c'.toList → BornOk c'.toList q' → (execOp a.eval o).run E.P w = .ok .skip { w with heap := w.heap.setIfInBounds rr (.map c' q') } →
      o.wp E.P a w (fun a' w' => ∃ ι' imm', SR E ι' imm' (st.after o.dst { v := .undef, wr := [(b, some (mapE KE ve (mSet KE k u D))), (d, none)] }) a' w') Q := fun c' q' e1 e2 hrun => by
    unfold Oper.wp
    rw [hrun, Oper.upon_skip]
    have := hs.writeMap hb hi (mSet_perm (k := k) (x := u) h2 (h4.perm h2.symm)) e1 (mSet_once (h4.perm h2.symm)) e2 .undef
    have e : (Delta.mk .undef [] [(b, some (mapE KE ve (mSet KE k u D))), (d, none)]).H st.H = (Delta.mk .undef [] [(b, some (mapE KE ve (mSet KE k u D)))]).H (fun x => if x = d then none else st.H x) := by
      funext x
      simp only [Delta.H, List.lookup]
      by_cases h1 : x = b
      · subst h1; simp
      · have h1' : (x == b) = false := by simpa using h1
        rw [h1']
        by_cases h2 : x = d
        · subst h2; simp
        · have h2' : (x == d) = false := by simpa using h2
          simp [h2', h2]
    refine ⟨ι, imm, ?_⟩
    have e2 : st.after o.dst { v := .undef, wr := [(b, some (mapE KE ve (mSet KE k u D))), (d, none)] } = ⟨st.S, (Delta.mk .undef [] [(b, some (mapE KE ve (mSet KE k u D)))]).H (fun x => if x = d then none else st.H x), (Delta.mk .undef [] [(b, some (mapE KE ve (mSet KE k u D)))]).U st.U⟩ := by
      rw [hdst]
      show (⟨st.S, _, _⟩ : St) = _
      rw [e]; rfl
    rw [e2]
    simpa [Act.put, hdst] using this
  cases hl : lookL KE k D' c.toList 0 with
  | none =>
    rw [hl] at hf
    obtain ⟨_, _, q3⟩ := lookL_none h3 hl
    refine hfin (c.push { key := a.eval y, val := a.eval z, born := q }) (q + 1) ?_ ?_ ?_
    · rw [q3, List.map_append, Array.toList_push]
      exact EntsH.append h3 hv2 hv3
    · rw [Array.toList_push]; exact h5.push rfl
    · simp only [execOp, ho, he, Instr.mapUpdate, run_bind', hun, Go.MapKept.run_getObj_map h1, run_pure', hck, hf, Go.MapKept.run_setObj_map _ h1]
  | some p =>
    obtain ⟨j, x⟩ := p
    rw [hl] at hf
    obtain ⟨m', e, y0, hj, q2, _, _, _, q6, q7⟩ := lookL_some h3 hl
    have hjm : j = m' := by omega
    subst hjm
    have hkey := rigid_eq _ (KE.rig k) _ _ q6 hv2
    have hce : c[j]? = some e := by simpa using q2
    have hst : (Instr.keyThatStays (((c[j]?).map (·.key)).getD (a.eval y)) (a.eval y)).run E.P w = .ok (a.eval y) w := by
      rw [hce]
      simp only [Option.map_some, Option.getD_some, hkey, Instr.keyThatStays, rigid_same _ (KE.rig k) _ hv2 10000 (KE.dep k), if_true, run_pure']
    refine hfin (c.modify j fun e => { e with key := a.eval y, val := a.eval z }) q ?_ ?_ ?_
    · rw [Array.toList_modify, modify_congr (g := fun e => { e with val := a.eval z }) q2 (by rw [← hkey])]
      exact (q7 _ _ hv3).1
    · rw [Array.toList_modify]; exact h5.modify fun _ => rfl
    · simp only [execOp, ho, he, Instr.mapUpdate, run_bind', hun, Go.MapKept.run_getObj_map h1, run_pure', hck, hf, hst, Go.MapKept.run_setObj_map _ h1]
end ops
section steps
variable {E : Env} {T : Tab} {cq : Oper → Cls} {n : Nat} {ops : Array Oper} {κ β : Type} {KE : KEnc κ} {VE : VEnc β} {P : Program}
theorem rexec_mapUpdateO (hP : E.P = P) (C : Cx E T n) {t ty : TypeId} {x y z : Operand} {pos : String} {af : Array Edge} {g : Option (Nat × Bool)} {st : St} {K : St → Prop} {b d : Nat} {D : List (κ × β)} (k : κ) (u : β) {α : Type} {en : Enc α} {L : List α} {nn : Nat} {tt : Bool}
    (hx : evl st.S x = some (.mp b)) (hy : evl st.S y = some (KE.enc k)) (hz : evl st.S z = some (.sl d 0 nn en.sz tt)) (hb : st.H b = some (mapE KE VE.enc D)) (hd : st.H d = some (.cells (encC en L))) (hne : (b == d) = false) (hn : nn = L.length) (hu : VE.enc u = sS (some false) en L) {r : TyRow} (hr : T.lookup t = some r) {kt et : TypeId} (hdesc : r.desc = .map kt et) (KO : KeyOk P kt KE)
    (h7 : K (st.after none { v := .undef, wr := [(b, some (mapE KE VE.enc (mSet KE k u D))), (d, none)] }))
    (hp : clsOf cq ⟨none, .mapUpdate t x y z, ty, pos, af, g⟩ ≠ .pure := by decide) (hq : clsOf cq ⟨none, .mapUpdate t x y z, ty, pos, af, g⟩ ≠ .quiet := by decide) (hft : footB (clsOf cq ⟨none, .mapUpdate t x y z, ty, pos, af, g⟩) [(b, mapE KE VE.enc D), (d, .cells (encC en L))] { v := .undef, wr := [(b, some (mapE KE VE.enc (mSet KE k u D))), (d, none)] } = true := by rfl) : rexec E cq n ⟨none, .mapUpdate t x y z, ty, pos, af, g⟩ st K := by
  subst hP
  subst hn
  refine ⟨rfl, [.mp b, KE.enc k, .sl d 0 L.length en.sz tt], [(b, mapE KE VE.enc D), (d, .cells (encC en L))], _, { vals := ?_, deps := ?_, fresh := fun _ h => (by cases h), does := does_mapUpdateO C.tab rfl rfl hr hdesc KO (by simpa using hne) hu, reach := ?_, inV := rfl, inN := fun _ h => (by cases h), inW := ?_, wr := ?_, pure := fun h => absurd h hp, quiet := fun h => absurd h hq, foot := hft }, h7⟩
  · show evls st.S [x, y, z] = _
    simp only [evls, hx, hy, hz]
  · intro q hq
    rcases List.mem_cons.1 hq with rfl | hq
    · exact hb
    · simp only [List.mem_singleton] at hq; subst hq; exact hd
  · simp only [reachB, refs_mp, Bool.true_and, Bool.and_true]
    simp [refs, AV.withinL, AV.within]
  · intro q hq k' hk'
    rcases List.mem_cons.1 hq with rfl | hq
    · obtain rfl := Option.some.inj hk'
      exact mapE_within _ _
    · simp only [List.mem_singleton] at hq
      subst hq
      cases hk'
  · intro q hq
    rcases List.mem_cons.1 hq with rfl | hq
    · simp [refs_mp]
    · simp only [List.mem_singleton] at hq
      subst hq
      simp [refs, AV.withinL, AV.within]
end steps
end Go.Am
/- Small functions of mask and links. No conditions. -/
namespace Go.Proofs.Ytpeeofofagfooaa
open Go.Am
structure Link where
  from_ : Int
  to : Int
  deriving Inhabited
def eLink : Enc Link := ⟨2, fun x => [.lit (.int .i64 x.from_), .lit (.int .i64 x.to)], fun _ => rfl⟩
def mIn (n : Int) : Bool :=
  (bif (decide (n ≥ 0)) then (decide (n < 64)) else false)
theorem mIn_calls (n : Int)  : PCalls Try.prog 55 [.pv (.lit (.int .i64 n))] (.pv (.lit (.bool (mIn n)))) := by
 generalize hR : mIn n = R
 refine PCalls.of_body tabOk Try.func55 rfl rfl rfl rfl rfl mixed fun E hP C hI => ?_
 refine Awp.consP C ?_
 refine rvP C (.pv (.lit (.bool false))) ?_
 refine rvc_nil ?_
 refine Awp.consP C ?_
 refine rvP C (.pv (.lit (.int .i64 n))) ?_
 refine rvP C (.pv (.lit (.bool (decide (n ≥ 0))))) ?_
 refine rvP C (.pv (.lit (.bool (decide (n ≥ 0))))) ?_
 refine rvc_case 5 (decide (n ≥ 0)) rfl (fun h1 => ?_) (fun h1 => ?_)
 ·
  replace hR := of_true h1 hR
  refine rvO C (.pv (.lit (.int .i64 n))) ?_
  refine rvO C (.pv (.lit (.bool (decide (n < 64))))) ?_
  refine rvP C (.pv (.lit (.bool (decide (n < 64))))) ?_
  refine rvP C (.pv (.lit (.bool (decide (n < 64))))) ?_
  refine rvc_nil ?_
  refine Awp.ret ?_
  subst hR
  exact ⟨.inl rfl, rfl⟩
 ·
  replace hR := of_false h1 hR
  refine rvS ?_
  refine rvS ?_
  refine rvP C (.pv (.lit (.bool false))) ?_
  refine rvP C (.pv (.lit (.bool false))) ?_
  refine rvc_nil ?_
  refine Awp.ret ?_
  subst hR
  exact ⟨.inl rfl, rfl⟩
def mHas (s : Int) (n : Int) : Bool :=
  (bif (mIn n) then ((bitI .and .u64 (shrI .u64 s n) 1) == 1) else false)
theorem mHas_calls (s : Int) (n : Int)  : PCalls Try.prog 49 [.pv (.lit (.int .u64 s)), .pv (.lit (.int .i64 n))] (.pv (.lit (.bool (mHas s n)))) := by
 generalize hR : mHas s n = R
 refine PCalls.of_body tabOk Try.func49 rfl rfl rfl rfl rfl mixed fun E hP C hI => ?_
 refine Awp.consP C ?_
 refine rvP C (.pv (.lit (.bool false))) ?_
 refine rvc_nil ?_
 refine Awp.consP C ?_
 refine rvP C (.pv (.lit (.int .i64 n))) ?_
 refine rvc_un (rexec_call hP C rfl rfl rfl (mIn_calls n) ?_)
 refine rvP C (.pv (.lit (.bool (mIn n)))) ?_
 refine rvc_case 7 (mIn n) rfl (fun h1 => ?_) (fun h1 => ?_)
 ·
  replace hR := of_true h1 hR
  refine rvO C (.pv (.lit (.int .u64 s))) ?_
  refine rvO C (.pv (.lit (.int .i64 n))) ?_
  refine rvc_open rfl rfl rfl (rexec_prim C (δ := { v := .pv (.lit (.int .u64 (shrI .u64 s n))) }) rfl rfl rfl rfl (by simp [mIn] at h1; omega) rfl ?_)
  refine rvO C (.pv (.lit (.int .u64 (bitI .and .u64 (shrI .u64 s n) 1)))) ?_
  refine rvO C (.pv (.lit (.bool ((bitI .and .u64 (shrI .u64 s n) 1) == 1)))) ?_
  refine rvP C (.pv (.lit (.bool ((bitI .and .u64 (shrI .u64 s n) 1) == 1)))) ?_
  refine rvP C (.pv (.lit (.bool ((bitI .and .u64 (shrI .u64 s n) 1) == 1)))) ?_
  refine rvc_nil ?_
  refine Awp.ret ?_
  subst hR
  exact ⟨.inl rfl, rfl⟩
 ·
  replace hR := of_false h1 hR
  refine rvS ?_
  refine rvS ?_
  refine rvS ?_
  refine rvS ?_
  refine rvS ?_
  refine rvP C (.pv (.lit (.bool false))) ?_
  refine rvP C (.pv (.lit (.bool false))) ?_
  refine rvc_nil ?_
  refine Awp.ret ?_
  subst hR
  exact ⟨.inl rfl, rfl⟩
def mWith (s : Int) (n : Int) : Int :=
  (bif (!(mIn n)) then s else (bitI .or .u64 s (shlI .u64 1 n)))
theorem mWith_calls (s : Int) (n : Int)  : PCalls Try.prog 50 [.pv (.lit (.int .u64 s)), .pv (.lit (.int .i64 n))] (.pv (.lit (.int .u64 (mWith s n)))) := by
 generalize hR : mWith s n = R
 refine PCalls.of_body tabOk Try.func50 rfl rfl rfl rfl rfl mixed fun E hP C hI => ?_
 refine Awp.consP C ?_
 refine rvP C (.pv (.lit (.int .u64 0))) ?_
 refine rvc_nil ?_
 refine Awp.seq ?_
 refine Awp.consP C ?_
 refine rvP C (.pv (.lit (.int .i64 n))) ?_
 refine rvc_un (rexec_call hP C rfl rfl rfl (mIn_calls n) ?_)
 refine rvP C (.pv (.lit (.bool (!(mIn n))))) ?_
 refine rvc_nil ?_
 refine Awp.cond (b := (!(mIn n))) rfl (fun h1 => ?_) (fun h1 => ?_)
 ·
  replace hR := of_true h1 hR
  refine Awp.consP C ?_
  refine rvP C (.pv (.lit (.int .u64 s))) ?_
  refine rvP C (.pv (.lit (.int .u64 s))) ?_
  refine rvc_nil ?_
  refine Awp.ret ?_
  subst hR
  exact ⟨.inl rfl, rfl⟩
 ·
  replace hR := of_false h1 hR
  refine Awp.skip ?_
  refine Awp.consP C ?_
  refine rvP C (.pv (.lit (.int .u64 s))) ?_
  refine rvP C (.pv (.lit (.int .i64 n))) ?_
  refine rvc_un (rexec_prim C (δ := { v := .pv (.lit (.int .u64 (shlI .u64 1 n))) }) rfl rfl rfl rfl (by simp [mIn] at h1; omega) rfl ?_)
  refine rvP C (.pv (.lit (.int .u64 (bitI .or .u64 s (shlI .u64 1 n))))) ?_
  refine rvP C (.pv (.lit (.int .u64 (bitI .or .u64 s (shlI .u64 1 n))))) ?_
  refine rvc_nil ?_
  refine Awp.ret ?_
  subst hR
  exact ⟨.inl rfl, rfl⟩
def fitsL (l : Link) : Bool :=
  (bif (decide (l.from_ ≥ 0)) then (bif (decide (l.from_ < 32)) then (bif (decide (l.to ≥ 0)) then (bif (decide (l.to < 32)) then (l.from_ != l.to) else false) else false) else false) else false)
theorem fitsL_calls (l : Link)  : PCalls Try.prog 46 [.agg [.pv (.lit (.int .i64 l.from_)), .pv (.lit (.int .i64 l.to))]] (.pv (.lit (.bool (fitsL l)))) := by
 generalize hR : fitsL l = R
 refine PCalls.of_body tabOk Try.func46 rfl rfl rfl rfl rfl mixed fun E hP C hI => ?_
 refine Awp.consP C ?_
 refine rvc_un (rexec_prim C (δ := { v := .ptr 1 0, new := [(1, .cells [.pv (.lit (.int .i64 l.from_)), .pv (.lit (.int .i64 l.to))])] }) rfl rfl rfl rfl trivial rfl ?_)
 refine rvP C (.pv (.lit (.bool false))) ?_
 refine rvc_nil ?_
 refine Awp.consP C ?_
 refine rvP C (.ptr 1 0) ?_
 refine rvP C (.pv (.lit (.int .i64 l.from_))) ?_
 refine rvP C (.pv (.lit (.bool (decide (l.from_ ≥ 0))))) ?_
 refine rvP C (.pv (.lit (.bool (decide (l.from_ ≥ 0))))) ?_
 refine rvc_case 6 (decide (l.from_ ≥ 0)) rfl (fun h1 => ?_) (fun h1 => ?_)
 ·
  replace hR := of_true h1 hR
  refine rvO C (.ptr 1 0) ?_
  refine rvO C (.pv (.lit (.int .i64 l.from_))) ?_
  refine rvO C (.pv (.lit (.bool (decide (l.from_ < 32))))) ?_
  refine rvP C (.pv (.lit (.bool (decide (l.from_ < 32))))) ?_
  refine rvP C (.pv (.lit (.bool (decide (l.from_ < 32))))) ?_
  refine rvc_case 11 (decide (l.from_ < 32)) rfl (fun h2 => ?_) (fun h2 => ?_)
  ·
   replace hR := of_true h2 hR
   refine rvO C (.ptr 1 1) ?_
   refine rvO C (.pv (.lit (.int .i64 l.to))) ?_
   refine rvO C (.pv (.lit (.bool (decide (l.to ≥ 0))))) ?_
   refine rvP C (.pv (.lit (.bool (decide (l.to ≥ 0))))) ?_
   refine rvP C (.pv (.lit (.bool (decide (l.to ≥ 0))))) ?_
   refine rvc_case 16 (decide (l.to ≥ 0)) rfl (fun h3 => ?_) (fun h3 => ?_)
   ·
    replace hR := of_true h3 hR
    refine rvO C (.ptr 1 1) ?_
    refine rvO C (.pv (.lit (.int .i64 l.to))) ?_
    refine rvO C (.pv (.lit (.bool (decide (l.to < 32))))) ?_
    refine rvP C (.pv (.lit (.bool (decide (l.to < 32))))) ?_
    refine rvP C (.pv (.lit (.bool (decide (l.to < 32))))) ?_
    refine rvc_case 21 (decide (l.to < 32)) rfl (fun h4 => ?_) (fun h4 => ?_)
    ·
     replace hR := of_true h4 hR
     refine rvO C (.ptr 1 0) ?_
     refine rvO C (.pv (.lit (.int .i64 l.from_))) ?_
     refine rvO C (.ptr 1 1) ?_
     refine rvO C (.pv (.lit (.int .i64 l.to))) ?_
     refine rvO C (.pv (.lit (.bool (l.from_ != l.to)))) ?_
     refine rvP C (.pv (.lit (.bool (l.from_ != l.to)))) ?_
     refine rvP C (.pv (.lit (.bool (l.from_ != l.to)))) ?_
     refine rvc_nil ?_
     refine Awp.ret ?_
     subst hR
     exact ⟨.inl rfl, rfl⟩
    ·
     replace hR := of_false h4 hR
     refine rvS ?_
     refine rvS ?_
     refine rvS ?_
     refine rvS ?_
     refine rvS ?_
     refine rvP C (.pv (.lit (.bool false))) ?_
     refine rvP C (.pv (.lit (.bool false))) ?_
     refine rvc_nil ?_
     refine Awp.ret ?_
     subst hR
     exact ⟨.inl rfl, rfl⟩
   ·
    replace hR := of_false h3 hR
    refine rvS ?_
    refine rvS ?_
    refine rvS ?_
    refine rvP C (.pv (.lit (.bool false))) ?_
    refine rvP C (.pv (.lit (.bool false))) ?_
    refine rvS ?_
    refine rvS ?_
    refine rvS ?_
    refine rvS ?_
    refine rvS ?_
    refine rvP C (.pv (.lit (.bool false))) ?_
    refine rvP C (.pv (.lit (.bool false))) ?_
    refine rvc_nil ?_
    refine Awp.ret ?_
    subst hR
    exact ⟨.inl rfl, rfl⟩
  ·
   replace hR := of_false h2 hR
   refine rvS ?_
   refine rvS ?_
   refine rvS ?_
   refine rvP C (.pv (.lit (.bool false))) ?_
   refine rvP C (.pv (.lit (.bool false))) ?_
   refine rvS ?_
   refine rvS ?_
   refine rvS ?_
   refine rvP C (.pv (.lit (.bool false))) ?_
   refine rvP C (.pv (.lit (.bool false))) ?_
   refine rvS ?_
   refine rvS ?_
   refine rvS ?_
   refine rvS ?_
   refine rvS ?_
   refine rvP C (.pv (.lit (.bool false))) ?_
   refine rvP C (.pv (.lit (.bool false))) ?_
   refine rvc_nil ?_
   refine Awp.ret ?_
   subst hR
   exact ⟨.inl rfl, rfl⟩
 ·
  replace hR := of_false h1 hR
  refine rvS ?_
  refine rvS ?_
  refine rvS ?_
  refine rvP C (.pv (.lit (.bool false))) ?_
  refine rvP C (.pv (.lit (.bool false))) ?_
  refine rvS ?_
  refine rvS ?_
  refine rvS ?_
  refine rvP C (.pv (.lit (.bool false))) ?_
  refine rvP C (.pv (.lit (.bool false))) ?_
  refine rvS ?_
  refine rvS ?_
  refine rvS ?_
  refine rvP C (.pv (.lit (.bool false))) ?_
  refine rvP C (.pv (.lit (.bool false))) ?_
  refine rvS ?_
  refine rvS ?_
  refine rvS ?_
  refine rvS ?_
  refine rvS ?_
  refine rvP C (.pv (.lit (.bool false))) ?_
  refine rvP C (.pv (.lit (.bool false))) ?_
  refine rvc_nil ?_
  refine Awp.ret ?_
  subst hR
  exact ⟨.inl rfl, rfl⟩
def maskOf_l0 : List Int → Nat → Int → Int
  | [], _, s => s
  | x :: xs, i, s => maskOf_l0 xs (i + 1) (mWith s x)
def maskOf (l : (Sl Int)) : Int :=
  maskOf_l0 l.D 0 0
theorem maskOf_calls (l : (Sl Int)) (hl1 : l.D.length ≤ 1000000) : PCalls Try.prog 31 [sS (some l.nil) (eI .i64) l.D] (.pv (.lit (.int .u64 (maskOf l)))) := by
 generalize hR : maskOf l = R
 refine PCalls.of_body tabOk Try.func31 rfl rfl rfl rfl rfl mixed fun E hP C hI => ?_
 refine Awp.consP C ?_
 refine rvP C (.pv (.lit (.int .u64 0))) ?_
 refine rvc_nil ?_
 refine Awp.consP C ?_
 refine rvP C (.pv (.lit (.int .u64 0))) ?_
 refine rvc_nil ?_
 refine Awp.seq ?_
 refine Awp.consP C ?_
 refine rvP C (sS (some l.nil) (eI .i64) l.D) ?_
 refine rvP C (.pv (.lit (.int .i64 (l.D.length : Int)))) ?_
 refine rvP C (.pv (.lit (.int .i64 0))) ?_
 refine rvc_nil ?_
 refine Awp.block ?_
 refine Awp.forR (σ := Int) (l.D.length) (fun i v => [(3, .pv (.lit (.int .u64 v))), (6, sS (some l.nil) (eI .i64) l.D), (7, .pv (.lit (.int .i64 (l.D.length : Int)))), (8, .pv (.lit (.int .i64 (i : Int))))]) (fun i v => []) [] (fun i v => maskOf_l0 (l.D.drop i) i v = R) 0 ?_ ?_ (fun i s h1 hR => ?_)
 · exact hR
 · exact ⟨fun b => b, WeakerR.ofL (Ks := []) hI ⟨⟨rfl, rfl⟩, ⟨rfl, rfl⟩, ⟨rfl, rfl⟩, ⟨rfl, rfl⟩, trivial⟩ (okH_nil) rfl⟩
 refine Awp.consP C ?_
 refine rvP C (.pv (.lit (.bool (decide ((i : Int) < (l.D.length : Int)))))) ?_
 refine rvc_nil ?_
 refine Awp.seq ?_
 refine Awp.cond (b := (decide ((i : Int) < (l.D.length : Int)))) rfl (fun h2 => ?_) (fun h2 => ?_)
 ·
  have h3 : i < l.D.length := by have := of_decide_eq_true h2; omega
  obtain ⟨x, h4⟩ := getX h3
  rw [drop_at h4] at hR
  refine Awp.skip ?_
  refine Awp.seq ?_
  refine Awp.block ?_
  refine Awp.consP C ?_
  refine rvc_un (rexec_idxS C rfl rfl rfl rfl rfl rfl x (Int.natCast_nonneg _) h4 ?_)
  refine rvP C (.pv (.lit (.int .i64 x))) ?_
  refine rvP C (.pv (.lit (.int .i64 x))) ?_
  refine rvc_nil ?_
  refine Awp.regionP C ?_
  refine rvP C (.pv (.lit (.int .u64 s))) ?_
  refine rvP C (.pv (.lit (.int .i64 x))) ?_
  refine rvc_un (rexec_call hP C rfl rfl rfl (mWith_calls s x) ?_)
  refine rvP C (.pv (.lit (.int .u64 (mWith s x)))) ?_
  refine rvc_nil ?_
  refine Awp.regionP C ?_
  refine rvP C (.pv (.lit (.int .i64 (IntKind.i64.wrap ((i : Int) + 1))))) ?_
  refine rvP C (.pv (.lit (.int .i64 (IntKind.i64.wrap ((i : Int) + 1))))) ?_
  refine rvc_nil ?_
  refine ⟨h3, (mWith s x), ?_, ?_⟩
  · exact hR
  · exact ⟨fun b => b, WeakerR.ofL (Ks := []) hI ⟨⟨rfl, rfl⟩, ⟨rfl, rfl⟩, ⟨rfl, rfl⟩, ⟨lit_cast (wrap_i64 (by omega) (by omega)), rfl⟩, trivial⟩ (okH_nil) rfl⟩
 ·
  have h3 : ¬ i < l.D.length := by have := of_decide_eq_false h2; omega
  rw [drop_end h3] at hR
  refine Awp.exit ?_
  refine Awp.consP C ?_
  refine rvP C (.pv (.lit (.int .u64 s))) ?_
  refine rvP C (.pv (.lit (.int .u64 s))) ?_
  refine rvc_nil ?_
  refine Awp.ret ?_
  subst hR
  exact ⟨.inl rfl, rfl⟩
def cloneBytes (s : (Sl Int)) : (Sl Int) :=
  (bif s.nil then (Sl.mk true []) else (Sl.mk false s.D))
theorem cloneBytes_calls (s : (Sl Int)) (hl1 : s.D.length ≤ 1000000) : PCalls Try.prog 18 [sS (some s.nil) (eI .u8) s.D] (sS (some (cloneBytes s).nil) (eI .u8) ((cloneBytes s).D)) := by
 generalize hR : cloneBytes s = R
 refine PCalls.of_body tabOk Try.func18 rfl rfl rfl rfl rfl mixed fun E hP C hI => ?_
 refine Awp.consP C ?_
 refine rvP C (sS (some true) (eI .u8) []) ?_
 refine rvc_nil ?_
 refine Awp.seq ?_
 refine Awp.consP C ?_
 refine rvP C (sS (some s.nil) (eI .u8) s.D) ?_
 refine rvc_un (rexec_eqNil C (f := s.nil) rfl rfl rfl rfl ?_)
 refine rvc_nil ?_
 refine Awp.cond (b := s.nil) rfl (fun h1 => ?_) (fun h1 => ?_)
 ·
  replace hR := of_true h1 hR
  refine Awp.consP C ?_
  refine rvP C (sS (some true) (eI .u8) []) ?_
  refine rvc_nil ?_
  refine Awp.ret ?_
  subst hR
  exact ⟨.inl rfl, rfl⟩
 ·
  replace hR := of_false h1 hR
  refine Awp.skip ?_
  refine Awp.consP C ?_
  refine rvc_un (rexec_prim C (δ := { v := .sl 5 0 0 1 true, new := [(5, .cells (encC (eI .u8) []))] }) rfl rfl rfl rfl trivial rfl ?_)
  refine rvP C (sS (some s.nil) (eI .u8) s.D) ?_
  refine rvc_un (rexec_append C rfl rfl rfl rfl rfl rfl rfl rfl (fun _ h => by cases h) rfl (en := (eI .u8)) (D0 := []) (D := s.D) rfl rfl rfl rfl (by first | omega | (simp <;> omega)) (by decide) (nn := s.D.length) (by simp) ?_)
  refine rvP C (.sl 7 0 s.D.length 1 false) ?_
  refine rvc_nil ?_
  refine Awp.freezeW 7 (encL (eI .u8) s.D) ?_ [(2, sS (some false) (eI .u8) s.D)] [] ?_ ?_ ?_
  · rfl
  · exact ⟨⟨_, rfl, .inl (.inr ⟨_, _, _, rfl, rfl⟩)⟩, trivial⟩
  · exact trivial
  refine Awp.ret ?_
  subst hR
  exact ⟨.inl rfl, rfl⟩
end Go.Proofs.Ytpeeofofagfooaa
/- Links compared. No conditions. -/
namespace Go.Proofs.Ytpeeofofagfooaa
open Go.Am
def busyCmp (a : Link) (b : Link) : Int :=
  (bif (a.from_ != b.from_) then (IntKind.i64.wrap (a.from_ - b.from_)) else (IntKind.i64.wrap (a.to - b.to)))
theorem busyCmp_calls (a : Link) (b : Link)  : PCalls Try.prog 38 [.agg [.pv (.lit (.int .i64 a.from_)), .pv (.lit (.int .i64 a.to))], .agg [.pv (.lit (.int .i64 b.from_)), .pv (.lit (.int .i64 b.to))]] (.pv (.lit (.int .i64 (busyCmp a b)))) := by
 generalize hR : busyCmp a b = R
 refine PCalls.of_body tabOk Try.func38 rfl rfl rfl rfl rfl mixed fun E hP C hI => ?_
 refine Awp.consP C ?_
 refine rvc_un (rexec_prim C (δ := { v := .ptr 2 0, new := [(2, .cells [.pv (.lit (.int .i64 a.from_)), .pv (.lit (.int .i64 a.to))])] }) rfl rfl rfl rfl trivial rfl ?_)
 refine rvc_un (rexec_prim C (δ := { v := .ptr 3 0, new := [(3, .cells [.pv (.lit (.int .i64 b.from_)), .pv (.lit (.int .i64 b.to))])] }) rfl rfl rfl rfl trivial rfl ?_)
 refine rvP C (.pv (.lit (.int .i64 0))) ?_
 refine rvc_nil ?_
 refine Awp.seq ?_
 refine Awp.consP C ?_
 refine rvP C (.ptr 2 0) ?_
 refine rvP C (.pv (.lit (.int .i64 a.from_))) ?_
 refine rvP C (.ptr 3 0) ?_
 refine rvP C (.pv (.lit (.int .i64 b.from_))) ?_
 refine rvP C (.pv (.lit (.bool (a.from_ != b.from_)))) ?_
 refine rvc_nil ?_
 refine Awp.cond (b := (a.from_ != b.from_)) rfl (fun h1 => ?_) (fun h1 => ?_)
 ·
  replace hR := of_true h1 hR
  refine Awp.consP C ?_
  refine rvP C (.ptr 2 0) ?_
  refine rvP C (.pv (.lit (.int .i64 a.from_))) ?_
  refine rvP C (.ptr 3 0) ?_
  refine rvP C (.pv (.lit (.int .i64 b.from_))) ?_
  refine rvP C (.pv (.lit (.int .i64 (IntKind.i64.wrap (a.from_ - b.from_))))) ?_
  refine rvP C (.pv (.lit (.int .i64 (IntKind.i64.wrap (a.from_ - b.from_))))) ?_
  refine rvc_nil ?_
  refine Awp.ret ?_
  subst hR
  exact ⟨.inl rfl, rfl⟩
 ·
  replace hR := of_false h1 hR
  refine Awp.skip ?_
  refine Awp.consP C ?_
  refine rvP C (.ptr 2 1) ?_
  refine rvP C (.pv (.lit (.int .i64 a.to))) ?_
  refine rvP C (.ptr 3 1) ?_
  refine rvP C (.pv (.lit (.int .i64 b.to))) ?_
  refine rvP C (.pv (.lit (.int .i64 (IntKind.i64.wrap (a.to - b.to))))) ?_
  refine rvP C (.pv (.lit (.int .i64 (IntKind.i64.wrap (a.to - b.to))))) ?_
  refine rvc_nil ?_
  refine Awp.ret ?_
  subst hR
  exact ⟨.inl rfl, rfl⟩
end Go.Proofs.Ytpeeofofagfooaa
/- The document: asking. No conditions. -/
namespace Go.Proofs.Ytpeeofofagfooaa
open Go.Am
structure Item where
  l : Link
  b : ByteArray
  deriving Inhabited
structure Net51 where
  items : (Sl Item)
  side : (Nat → Bool)
  lost : Int
  deriving Inhabited
def rRight (l : Link) : Bool :=
  (bif (decide (l.from_ ≥ 0)) then (bif (decide (l.from_ < 32)) then (bif (decide (l.to ≥ 0)) then (bif (decide (l.to < 32)) then (l.from_ != l.to) else false) else false) else false) else false)
def rLen_l0 (l : Link) : List Item → Nat → Int → Int
  | [], _, k => k
  | x :: xs, i, k => (bif ((x.l.from_ == l.from_) && ((x.l.to == l.to) && true)) then rLen_l0 l xs (i + 1) (IntKind.i64.wrap (k + 1)) else rLen_l0 l xs (i + 1) k)
def rLen (n : Net51) (l : Link) : Int :=
  rLen_l0 l n.items.D 0 0
def rPlace_l0 (l : Link) (i : Int) : List Item → Nat → Int → Int
  | [], _, _ => (-1)
  | x :: xs, i1, k => (bif (!((x.l.from_ == l.from_) && ((x.l.to == l.to) && true))) then rPlace_l0 l i xs (i1 + 1) k else (bif (k == i) then (i1 : Int) else rPlace_l0 l i xs (i1 + 1) (IntKind.i64.wrap (k + 1))))
def rPlace (n : Net51) (l : Link) (i : Int) : Int :=
  rPlace_l0 l i n.items.D 0 0
end Go.Proofs.Ytpeeofofagfooaa
/- The document's net: where a message stands. No conditions. -/
namespace Go.Proofs.Ytpeeofofagfooaa
open Go.Am
theorem rPlace_l0_lt (l : Link) (i : Int) : ∀ (D : List Item) (j : Nat) (k : Int), -1 ≤ rPlace_l0 l i D j k ∧ rPlace_l0 l i D j k < (j + D.length : Nat)
  | [], j, k => by unfold rPlace_l0; refine ⟨Int.le_refl _, ?_⟩; omega
  | x :: xs, j, k => by
    unfold rPlace_l0
    have h1 := rPlace_l0_lt l i xs (j + 1) k
    have h2 := rPlace_l0_lt l i xs (j + 1) (IntKind.i64.wrap (k + 1))
    rw [List.length_cons]
    cases !((x.l.from_ == l.from_) && ((x.l.to == l.to) && true))
    · rw [cond_false]
      cases k == i
      · rw [cond_false]; omega
      · rw [cond_true]; omega
    · rw [cond_true]; omega
theorem rPlace_lt (n : Net51) (l : Link) (i : Int) : -1 ≤ rPlace n l i ∧ rPlace n l i < (n.items.D.length : Int) := by
  have := rPlace_l0_lt l i n.items.D 0 0
  unfold rPlace; omega
theorem rPlace_l0_at (l : Link) (i : Int) : ∀ (D : List Item) (j : Nat) (k : Int), ¬ rPlace_l0 l i D j k < 0 → ∃ x ∈ D, x.l.from_ = l.from_ ∧ x.l.to = l.to
  | [], j, k => by unfold rPlace_l0; intro h; exact absurd (by decide) h
  | x :: xs, j, k => by
    unfold rPlace_l0
    have h1 := rPlace_l0_at l i xs (j + 1) k
    have h2 := rPlace_l0_at l i xs (j + 1) (IntKind.i64.wrap (k + 1))
    cases hx : !((x.l.from_ == l.from_) && ((x.l.to == l.to) && true))
    · rw [cond_false]
      intro _
      exact ⟨x, List.mem_cons_self .., by simpa using hx⟩
    · rw [cond_true]
      intro h
      obtain ⟨y, hy, e⟩ := h1 h
      exact ⟨y, List.mem_cons_of_mem _ hy, e⟩
/-- A net of the document: what is on its way is on links. -/
def okR (n : Net51) : Prop := ∀ x ∈ n.items.D, rRight x.l = true
theorem rRight_le {l : Link} (h : rRight l = true) : 0 ≤ l.from_ ∧ l.from_ < 32 ∧ 0 ≤ l.to ∧ l.to < 32 ∧ l.from_ ≠ l.to := by
  unfold rRight at h
  cases h1 : decide (l.from_ ≥ 0) <;> cases h2 : decide (l.from_ < 32) <;> cases h3 : decide (l.to ≥ 0) <;> cases h4 : decide (l.to < 32) <;> simp_all
theorem rTake_ix {n : Net51} {l : Link} {i : Int} (ho : okR n) (h : decide (rPlace n l i < 0) = false) : (0 ≤ l.from_ ∧ l.from_ < 64) ∧ (0 ≤ l.to ∧ l.to < 64) := by
  obtain ⟨x, hx, e1, e2⟩ := rPlace_l0_at l i n.items.D 0 0 (of_decide_eq_false h)
  have := rRight_le (ho x hx)
  omega
end Go.Proofs.Ytpeeofofagfooaa
/- The document: a message looked at. No conditions. -/
namespace Go.Proofs.Ytpeeofofagfooaa
open Go.Am
end Go.Proofs.Ytpeeofofagfooaa
/- A row of one's own that is frozen where the code ends. -/
namespace Go.Am
open Go
end Go.Am
/- The document: doing. No conditions. -/
namespace Go.Proofs.Ytpeeofofagfooaa
open Go.Am
def fromW_l0 : Nat → Nat → Int → (Nat → Bool) → (Nat → Bool)
  | 0, _, _, vc => vc
  | k + 1, i, w1, vc => fromW_l0 k (i + 1) (IntKind.u64.wrap (w1.tdiv 2)) (updA vc i ((w1.tmod 2) == 1))
def fromW (w : Int) : (Nat → Bool) :=
  fromW_l0 64 0 w (ofL [false, false, false, false, false, false, false, false, false, false, false, false, false, false, false, false, false, false, false, false, false, false, false, false, false, false, false, false, false, false, false, false, false, false, false, false, false, false, false, false, false, false, false, false, false, false, false, false, false, false, false, false, false, false, false, false, false, false, false, false, false, false, false, false])
def rSend (n : Net51) (l : Link) (b : (Sl Int)) : Net51 × Int :=
  (bif (!(rRight l)) then (n, 40) else (bif (decide ((b.D.length : Int) > 8192)) then (n, 4) else (bif (decide ((rLen n l) ≥ 8)) then ((Net51.mk n.items n.side (IntKind.i64.wrap (n.lost + 1))), 7) else ((Net51.mk (Sl.mk false (n.items.D ++ [(Item.mk l (strOf b.D))])) n.side n.lost), 0))))
def rTake (n : Net51) (l : Link) (i : Int) : Net51 × ByteArray × Bool × Int :=
  (bif (decide ((rPlace n l i) < 0)) then (n, ⟨#[]⟩, false, 40) else (bif (!((n.side l.from_.toNat) == (n.side l.to.toNat))) then ((Net51.mk (Sl.mk false ((n.items.D.take ((rPlace n l i).toNat)) ++ (n.items.D.drop ((IntKind.i64.wrap ((rPlace n l i) + 1)).toNat)))) n.side n.lost), ⟨#[]⟩, false, 0) else ((Net51.mk (Sl.mk false ((n.items.D.take ((rPlace n l i).toNat)) ++ (n.items.D.drop ((IntKind.i64.wrap ((rPlace n l i) + 1)).toNat)))) n.side n.lost), n.items.D[(rPlace n l i).toNat]!.b, true, 0)))
def rLose (n : Net51) (l : Link) (i : Int) : Net51 × Int :=
  (bif (decide ((rPlace n l i) < 0)) then (n, 40) else ((Net51.mk (Sl.mk false ((n.items.D.take ((rPlace n l i).toNat)) ++ (n.items.D.drop ((IntKind.i64.wrap ((rPlace n l i) + 1)).toNat)))) n.side n.lost), 0))
def rDouble (n : Net51) (l : Link) (i : Int) : Net51 × Int :=
  (bif (decide ((rPlace n l i) < 0)) then (n, 40) else (bif (decide ((rLen n l) ≥ 8)) then (n, 7) else ((Net51.mk (Sl.mk false (n.items.D ++ [n.items.D[(rPlace n l i).toNat]!])) n.side n.lost), 0)))
def rForget_l0 (n : Net51) (place : Int) : List Item → Nat → (List Item) → Net51
  | [], _, out => (Net51.mk (Sl.mk out.isEmpty out) n.side n.lost)
  | x :: xs, i, out => (bif (x.l.from_ != place) then (bif (x.l.to != place) then rForget_l0 n place xs (i + 1) (out ++ [x]) else rForget_l0 n place xs (i + 1) out) else rForget_l0 n place xs (i + 1) out)
def rForget (n : Net51) (place : Int) : Net51 :=
  rForget_l0 n place n.items.D 0 []
end Go.Proofs.Ytpeeofofagfooaa
/- Asking a net. No conditions. -/
namespace Go.Proofs.Ytpeeofofagfooaa
open Go.Am
structure Net where
  of_ : (List (Link × (Sl (Sl Int))))
  side : Int
  lost : Int
  made : Bool
  deriving Inhabited
def kLink : KEnc Link := ⟨fun x => .agg [.pv (.lit (.int .i64 x.from_)), .pv (.lit (.int .i64 x.to))], fun a b => ((a.from_ == b.from_) && ((a.to == b.to) && true)), fun _ => rfl, fun _ => Nat.le_of_ble_eq_true rfl, fun a b => by simp only [Bool.and_eq_true, beq_iff_eq, AV.agg.injEq, List.cons.injEq, AV.pv.injEq, PV.lit.injEq, Value.int.injEq, and_true, true_and]⟩
theorem kLink_ok : KeyOk Try.prog 29 kLink := KeyOk.agg tabOk (r := (tab.lookup 29).get rfl) rfl rfl (fun _ _ => rfl) (fun _ => rfl)
def vT77 : VEnc (Sl (Sl Int)) := ⟨fun x => sS (some x.nil) (eSl (eI .u8)) x.D, fun _ _ => rfl⟩
def nDead (n : Net) : Bool :=
  (!n.made)
theorem nDead_calls (n : Net)  : ObjCalls Try.prog 36 [.ptr 0 0] [.mp 1, .pv (.lit (.int .u64 n.side)), .pv (.lit (.int .i64 n.lost)), .pv (.lit (.bool n.made))] [(1, mapE kLink vT77.enc n.of_)] (.pv (.lit (.bool (nDead n)))) [.mp 1, .pv (.lit (.int .u64 n.side)), .pv (.lit (.int .i64 n.lost)), .pv (.lit (.bool n.made))] [(1, mapE kLink vT77.enc n.of_)] := by
 generalize hR : nDead n = R
 refine ObjCalls.of_body tabOk Try.func36 rfl rfl rfl rfl rfl (allB_cons (mapE_within _ _) allB_nil) (of_decide_eq_true rfl) rfl rfl (allB_cons (mapE_within _ _) allB_nil) (of_decide_eq_true rfl) mixed fun E hP C hI => ?_
 refine Awp.consP C ?_
 refine rvP C (.pv (.lit (.bool false))) ?_
 refine rvc_nil ?_
 refine Awp.consP C ?_
 refine rvP C (.ptr 0 0) ?_
 refine rvc_un (rexec_eqPtr C false true (z := .pv (.lit (.bool false))) rfl rfl rfl rfl rfl rfl rfl rfl rfl ?_)
 refine rvP C (.pv (.lit (.bool false))) ?_
 refine rvO C (.ptr 0 0) ?_
 refine rvO C (.ptr 0 0) ?_
 refine rvO C (.ptr 0 3) ?_
 refine rvO C (.pv (.lit (.bool n.made))) ?_
 refine rvO C (.pv (.lit (.bool (!n.made)))) ?_
 refine rvP C (.pv (.lit (.bool (!n.made)))) ?_
 refine rvP C (.pv (.lit (.bool (!n.made)))) ?_
 refine rvc_nil ?_
 refine Awp.ret ?_
 subst hR
 exact ⟨.inl rfl, rfl, rfl, ⟨rfl, trivial⟩⟩
def able (n : Net) (l : Link) (i : Int) : Int :=
  (bif (nDead n) then 6 else (bif (!(fitsL l)) then 40 else (bif (decide (i < 0)) then 40 else (bif (decide (i ≥ ((((mGet kLink l n.of_).getD (Sl.mk true [])).D).length : Int))) then 40 else 0))))
theorem able_calls (n : Net) (l : Link) (i : Int)  : ObjCalls Try.prog 35 [.ptr 0 0, .agg [.pv (.lit (.int .i64 l.from_)), .pv (.lit (.int .i64 l.to))], .pv (.lit (.int .i64 i))] [.mp 1, .pv (.lit (.int .u64 n.side)), .pv (.lit (.int .i64 n.lost)), .pv (.lit (.bool n.made))] [(1, mapE kLink vT77.enc n.of_)] (.pv (.lit (.int .i64 (able n l i)))) [.mp 1, .pv (.lit (.int .u64 n.side)), .pv (.lit (.int .i64 n.lost)), .pv (.lit (.bool n.made))] [(1, mapE kLink vT77.enc n.of_)] := by
 generalize hR : able n l i = R
 refine ObjCalls.of_body tabOk Try.func35 rfl rfl rfl rfl rfl (allB_cons (mapE_within _ _) allB_nil) (of_decide_eq_true rfl) rfl rfl (allB_cons (mapE_within _ _) allB_nil) (of_decide_eq_true rfl) mixed fun E hP C hI => ?_
 refine Awp.consP C ?_
 refine rvc_un (rexec_prim C (δ := { v := .ptr 4 0, new := [(4, .cells [.pv (.lit (.int .i64 l.from_)), .pv (.lit (.int .i64 l.to))])] }) rfl rfl rfl rfl trivial rfl ?_)
 refine rvP C (.pv (.lit (.int .i64 0))) ?_
 refine rvc_nil ?_
 refine Awp.seq ?_
 refine Awp.block ?_
 refine Awp.cons C (fun _ => .writer) (by kernel_rfl) ?_
 refine rvP C (.ptr 0 0) ?_
 refine rvc_un (rexec_callObj hP C (fun b => bif b == 0 then 0 else bif b == 1 then 1 else b) [] rfl rfl rfl (nDead_calls n) rfl rfl ⟨rfl, trivial⟩ (of_decide_eq_true rfl) rfl (of_decide_eq_true rfl) (of_decide_eq_true rfl) allB_nil allB_nil (allB_cons rfl allB_nil) ?_ rfl (allB_cons rfl allB_nil))
 refine rvP C (.pv (.lit (.bool (nDead n)))) ?_
 refine rvc_nil ?_
 refine Awp.cond (b := (nDead n)) rfl (fun h1 => ?_) (fun h1 => ?_)
 ·
  replace hR := of_true h1 hR
  refine Awp.consP C ?_
  refine rvP C (.pv (.lit (.int .i64 6))) ?_
  refine rvc_nil ?_
  refine Awp.ret ?_
  subst hR
  exact ⟨.inl rfl, rfl, rfl, ⟨rfl, trivial⟩⟩
 ·
  replace hR := of_false h1 hR
  refine Awp.consP C ?_
  refine rvP C (.agg [.pv (.lit (.int .i64 l.from_)), .pv (.lit (.int .i64 l.to))]) ?_
  refine rvc_un (rexec_call hP C rfl rfl rfl (fitsL_calls l) ?_)
  refine rvP C (.pv (.lit (.bool (!(fitsL l))))) ?_
  refine rvP C (.pv (.lit (.bool (!(fitsL l))))) ?_
  refine rvc_case 14 (!(fitsL l)) rfl (fun h2 => ?_) (fun h2 => ?_)
  ·
   replace hR := of_true h2 hR
   refine rvS ?_
   refine rvS ?_
   refine rvP C (.pv (.lit (.bool true))) ?_
   refine rvP C (.pv (.lit (.bool true))) ?_
   refine rvS ?_
   refine rvS ?_
   refine rvS ?_
   refine rvS ?_
   refine rvS ?_
   refine rvS ?_
   refine rvS ?_
   refine rvS ?_
   refine rvS ?_
   refine rvP C (.pv (.lit (.bool true))) ?_
   refine rvP C (.pv (.lit (.bool true))) ?_
   refine rvc_nil ?_
   refine Awp.condT (b := true) rfl rfl ?_
   refine Awp.consP C ?_
   refine rvP C (.pv (.lit (.int .i64 40))) ?_
   refine rvc_nil ?_
   refine Awp.ret ?_
   subst hR
   exact ⟨.inl rfl, rfl, rfl, ⟨rfl, trivial⟩⟩
  ·
   replace hR := of_false h2 hR
   refine rvO C (.pv (.lit (.int .i64 i))) ?_
   refine rvO C (.pv (.lit (.bool (decide (i < 0))))) ?_
   refine rvP C (.pv (.lit (.bool (decide (i < 0))))) ?_
   refine rvP C (.pv (.lit (.bool (decide (i < 0))))) ?_
   refine rvc_case 18 (decide (i < 0)) rfl (fun h3 => ?_) (fun h3 => ?_)
   ·
    replace hR := of_true h3 hR
    refine rvS ?_
    refine rvS ?_
    refine rvS ?_
    refine rvS ?_
    refine rvS ?_
    refine rvS ?_
    refine rvS ?_
    refine rvS ?_
    refine rvS ?_
    refine rvP C (.pv (.lit (.bool true))) ?_
    refine rvP C (.pv (.lit (.bool true))) ?_
    refine rvc_nil ?_
    refine Awp.condT (b := true) rfl rfl ?_
    refine Awp.consP C ?_
    refine rvP C (.pv (.lit (.int .i64 40))) ?_
    refine rvc_nil ?_
    refine Awp.ret ?_
    subst hR
    exact ⟨.inl rfl, rfl, rfl, ⟨rfl, trivial⟩⟩
   ·
    replace hR := of_false h3 hR
    refine rvO C (.pv (.lit (.int .i64 i))) ?_
    refine rvO C (.ptr 0 0) ?_
    refine rvO C (.ptr 0 0) ?_
    refine rvO C (.ptr 0 0) ?_
    refine rvO C (.mp 1) ?_
    refine rvO C (.agg [.pv (.lit (.int .i64 l.from_)), .pv (.lit (.int .i64 l.to))]) ?_
    refine rvc_open rfl rfl rfl (rexec_lookup hP C rfl l (Sl.mk true []) rfl rfl rfl rfl rfl rfl kLink_ok rfl (sS (some ((mGet kLink l n.of_).getD (Sl.mk true [])).nil) (eSl (eI .u8)) (((mGet kLink l n.of_).getD (Sl.mk true [])).D)) rfl ?_)
    refine rvO C (.pv (.lit (.int .i64 ((((mGet kLink l n.of_).getD (Sl.mk true [])).D).length : Int)))) ?_
    refine rvO C (.pv (.lit (.bool (decide (i ≥ ((((mGet kLink l n.of_).getD (Sl.mk true [])).D).length : Int)))))) ?_
    refine rvP C (.pv (.lit (.bool (decide (i ≥ ((((mGet kLink l n.of_).getD (Sl.mk true [])).D).length : Int)))))) ?_
    refine rvP C (.pv (.lit (.bool (decide (i ≥ ((((mGet kLink l n.of_).getD (Sl.mk true [])).D).length : Int)))))) ?_
    refine rvc_nil ?_
    refine Awp.cond (b := (decide (i ≥ ((((mGet kLink l n.of_).getD (Sl.mk true [])).D).length : Int)))) rfl (fun h4 => ?_) (fun h4 => ?_)
    ·
     replace hR := of_true h4 hR
     refine Awp.consP C ?_
     refine rvP C (.pv (.lit (.int .i64 40))) ?_
     refine rvc_nil ?_
     refine Awp.ret ?_
     subst hR
     exact ⟨.inl rfl, rfl, rfl, ⟨rfl, trivial⟩⟩
    ·
     replace hR := of_false h4 hR
     refine Awp.skip ?_
     refine Awp.consP C ?_
     refine rvP C (.pv (.lit (.int .i64 0))) ?_
     refine rvc_nil ?_
     refine Awp.ret ?_
     subst hR
     exact ⟨.inl rfl, rfl, rfl, ⟨rfl, trivial⟩⟩
def nLen (n : Net) (l : Link) : Int :=
  (bif (nDead n) then 0 else ((((mGet kLink l n.of_).getD (Sl.mk true [])).D).length : Int))
theorem nLen_calls (n : Net) (l : Link)  : ObjCalls Try.prog 16 [.ptr 0 0, .agg [.pv (.lit (.int .i64 l.from_)), .pv (.lit (.int .i64 l.to))]] [.mp 1, .pv (.lit (.int .u64 n.side)), .pv (.lit (.int .i64 n.lost)), .pv (.lit (.bool n.made))] [(1, mapE kLink vT77.enc n.of_)] (.pv (.lit (.int .i64 (nLen n l)))) [.mp 1, .pv (.lit (.int .u64 n.side)), .pv (.lit (.int .i64 n.lost)), .pv (.lit (.bool n.made))] [(1, mapE kLink vT77.enc n.of_)] := by
 generalize hR : nLen n l = R
 refine ObjCalls.of_body tabOk Try.func16 rfl rfl rfl rfl rfl (allB_cons (mapE_within _ _) allB_nil) (of_decide_eq_true rfl) rfl rfl (allB_cons (mapE_within _ _) allB_nil) (of_decide_eq_true rfl) mixed fun E hP C hI => ?_
 refine Awp.consP C ?_
 refine rvc_un (rexec_prim C (δ := { v := .ptr 3 0, new := [(3, .cells [.pv (.lit (.int .i64 l.from_)), .pv (.lit (.int .i64 l.to))])] }) rfl rfl rfl rfl trivial rfl ?_)
 refine rvP C (.pv (.lit (.int .i64 0))) ?_
 refine rvc_nil ?_
 refine Awp.seq ?_
 refine Awp.cons C (fun _ => .writer) (by kernel_rfl) ?_
 refine rvP C (.ptr 0 0) ?_
 refine rvc_un (rexec_callObj hP C (fun b => bif b == 0 then 0 else bif b == 1 then 1 else b) [] rfl rfl rfl (nDead_calls n) rfl rfl ⟨rfl, trivial⟩ (of_decide_eq_true rfl) rfl (of_decide_eq_true rfl) (of_decide_eq_true rfl) allB_nil allB_nil (allB_cons rfl allB_nil) ?_ rfl (allB_cons rfl allB_nil))
 refine rvc_nil ?_
 refine Awp.cond (b := (nDead n)) rfl (fun h1 => ?_) (fun h1 => ?_)
 ·
  replace hR := of_true h1 hR
  refine Awp.consP C ?_
  refine rvP C (.pv (.lit (.int .i64 0))) ?_
  refine rvc_nil ?_
  refine Awp.ret ?_
  subst hR
  exact ⟨.inl rfl, rfl, rfl, ⟨rfl, trivial⟩⟩
 ·
  replace hR := of_false h1 hR
  refine Awp.skip ?_
  refine Awp.consP C ?_
  refine rvP C (.ptr 0 0) ?_
  refine rvP C (.ptr 0 0) ?_
  refine rvP C (.ptr 0 0) ?_
  refine rvP C (.mp 1) ?_
  refine rvP C (.agg [.pv (.lit (.int .i64 l.from_)), .pv (.lit (.int .i64 l.to))]) ?_
  refine rvc_un (rexec_lookup hP C rfl l (Sl.mk true []) rfl rfl rfl rfl rfl rfl kLink_ok rfl (sS (some ((mGet kLink l n.of_).getD (Sl.mk true [])).nil) (eSl (eI .u8)) (((mGet kLink l n.of_).getD (Sl.mk true [])).D)) rfl ?_)
  refine rvP C (.pv (.lit (.int .i64 ((((mGet kLink l n.of_).getD (Sl.mk true [])).D).length : Int)))) ?_
  refine rvP C (.pv (.lit (.int .i64 ((((mGet kLink l n.of_).getD (Sl.mk true [])).D).length : Int)))) ?_
  refine rvc_nil ?_
  refine Awp.ret ?_
  subst hR
  exact ⟨.inl rfl, rfl, rfl, ⟨rfl, trivial⟩⟩
def nWall (n : Net) (side : Int) : Net × Int :=
  (bif (nDead n) then (n, 6) else ((Net.mk n.of_ side n.lost n.made), 0))
theorem nWall_calls (n : Net) (side : Int)  : ObjCalls Try.prog 30 [.ptr 0 0, .pv (.lit (.int .u64 side))] [.mp 1, .pv (.lit (.int .u64 n.side)), .pv (.lit (.int .i64 n.lost)), .pv (.lit (.bool n.made))] [(1, mapE kLink vT77.enc n.of_)] (.pv (.lit (.int .i64 ((nWall n side).2)))) [.mp 1, .pv (.lit (.int .u64 ((nWall n side).1.side))), .pv (.lit (.int .i64 ((nWall n side).1.lost))), .pv (.lit (.bool ((nWall n side).1.made)))] [(1, mapE kLink vT77.enc ((nWall n side).1.of_))] := by
 generalize hR : nWall n side = R
 refine ObjCalls.of_body tabOk Try.func30 rfl rfl rfl rfl rfl (allB_cons (mapE_within _ _) allB_nil) (of_decide_eq_true rfl) rfl rfl (allB_cons (mapE_within _ _) allB_nil) (of_decide_eq_true rfl) mixed fun E hP C hI => ?_
 refine Awp.consP C ?_
 refine rvP C (.pv (.lit (.int .i64 0))) ?_
 refine rvc_nil ?_
 refine Awp.seq ?_
 refine Awp.cons C (fun _ => .writer) (by kernel_rfl) ?_
 refine rvP C (.ptr 0 0) ?_
 refine rvc_un (rexec_callObj hP C (fun b => bif b == 0 then 0 else bif b == 1 then 1 else b) [] rfl rfl rfl (nDead_calls n) rfl rfl ⟨rfl, trivial⟩ (of_decide_eq_true rfl) rfl (of_decide_eq_true rfl) (of_decide_eq_true rfl) allB_nil allB_nil (allB_cons rfl allB_nil) ?_ rfl (allB_cons rfl allB_nil))
 refine rvc_nil ?_
 refine Awp.cond (b := (nDead n)) rfl (fun h1 => ?_) (fun h1 => ?_)
 ·
  replace hR := of_true h1 hR
  refine Awp.consP C ?_
  refine rvP C (.pv (.lit (.int .i64 6))) ?_
  refine rvc_nil ?_
  refine Awp.ret ?_
  subst hR
  exact ⟨.inl rfl, rfl, rfl, ⟨rfl, trivial⟩⟩
 ·
  replace hR := of_false h1 hR
  refine Awp.skip ?_
  refine Awp.consP C ?_
  refine rvP C (.ptr 0 0) ?_
  refine rvP C (.pv (.lit (.int .u64 side))) ?_
  refine rvP C (.ptr 0 0) ?_
  refine rvP C (.ptr 0 1) ?_
  refine rvc_un (rexec_prim C (δ := { v := .undef, wr := [(0, some (.cells [.mp 1, .pv (.lit (.int .u64 side)), .pv (.lit (.int .i64 n.lost)), .pv (.lit (.bool n.made))]))] }) rfl rfl rfl rfl trivial rfl ?_)
  refine rvc_nil ?_
  refine Awp.consP C ?_
  refine rvP C (.pv (.lit (.int .i64 0))) ?_
  refine rvc_nil ?_
  refine Awp.ret ?_
  subst hR
  exact ⟨.inl rfl, rfl, rfl, ⟨rfl, trivial⟩⟩
end Go.Proofs.Ytpeeofofagfooaa
/- Queues cloned. No conditions. -/
namespace Go.Proofs.Ytpeeofofagfooaa
open Go.Am
def cloneQ (s : (Sl (Sl Int))) : (Sl (Sl Int)) :=
  (bif s.nil then (Sl.mk true []) else (Sl.mk false s.D))
theorem cloneQ_calls (s : (Sl (Sl Int))) (hl1 : s.D.length ≤ 1000000) : PCalls Try.prog 47 [sS (some s.nil) (eSl (eI .u8)) s.D] (sS (some (cloneQ s).nil) (eSl (eI .u8)) ((cloneQ s).D)) := by
 generalize hR : cloneQ s = R
 refine PCalls.of_body tabOk Try.func47 rfl rfl rfl rfl rfl mixed fun E hP C hI => ?_
 refine Awp.consP C ?_
 refine rvP C (sS (some true) (eSl (eI .u8)) []) ?_
 refine rvc_nil ?_
 refine Awp.seq ?_
 refine Awp.consP C ?_
 refine rvP C (sS (some s.nil) (eSl (eI .u8)) s.D) ?_
 refine rvc_un (rexec_eqNil C (f := s.nil) rfl rfl rfl rfl ?_)
 refine rvc_nil ?_
 refine Awp.cond (b := s.nil) rfl (fun h1 => ?_) (fun h1 => ?_)
 ·
  replace hR := of_true h1 hR
  refine Awp.consP C ?_
  refine rvP C (sS (some true) (eSl (eI .u8)) []) ?_
  refine rvc_nil ?_
  refine Awp.ret ?_
  subst hR
  exact ⟨.inl rfl, rfl⟩
 ·
  replace hR := of_false h1 hR
  refine Awp.skip ?_
  refine Awp.consP C ?_
  refine rvc_un (rexec_prim C (δ := { v := .sl 5 0 0 1 true, new := [(5, .cells (encC (eSl (eI .u8)) []))] }) rfl rfl rfl rfl trivial rfl ?_)
  refine rvP C (sS (some s.nil) (eSl (eI .u8)) s.D) ?_
  refine rvc_un (rexec_append C rfl rfl rfl rfl rfl rfl rfl rfl (fun _ h => by cases h) rfl (en := (eSl (eI .u8))) (D0 := []) (D := s.D) rfl rfl rfl rfl (by first | omega | (simp <;> omega)) (by decide) (nn := s.D.length) (by simp) ?_)
  refine rvP C (.sl 7 0 s.D.length 1 false) ?_
  refine rvc_nil ?_
  refine Awp.freezeW 7 (encL (eSl (eI .u8)) s.D) ?_ [(2, sS (some false) (eSl (eI .u8)) s.D)] [] ?_ ?_ ?_
  · rfl
  · exact ⟨⟨_, rfl, .inl (.inr ⟨_, _, _, rfl, rfl⟩)⟩, trivial⟩
  · exact trivial
  refine Awp.ret ?_
  subst hR
  exact ⟨.inl rfl, rfl⟩
end Go.Proofs.Ytpeeofofagfooaa
/- An abstract machine over the kit's calls, part 45: elements taken out of a row. No conditions. -/
namespace Go.Am
section ops
variable {E : Env} {T : Tab}
theorem does_slice3C (hT : TabOk E.P T) {o : Oper} {t : TypeId} {x y1 y2 y3 : Operand} (ho : o.op = .slice t x (some y1) (some y2) (some y3)) (hd : ∀ d, o.dst = some d → d < E.n) {r re : TyRow} (hr : T.lookup t = some r) {e : TypeId} (hdesc : r.desc = .slice e) (hre : T.lookup e = some re) {b n c : Nat} {k1 k2 k3 : IntKind} {l h m : Nat} (hl : l ≤ h) (hh : h ≤ m) (hm : m ≤ c) :
    Does E o [.slc b 0 n re.size c, .pv (.lit (.int k1 (l : Int))), .pv (.lit (.int k2 (h : Int))), .pv (.lit (.int k3 (m : Int)))] [] { v := .undef } := by
  refine Does.value hd fun ι imm st a w hsr hv _ => ?_
  rw [ho] at hv
  have hv' : VHs ι imm w [.slc b 0 n re.size c, .pv (.lit (.int k1 (l : Int))), .pv (.lit (.int k2 (h : Int))), .pv (.lit (.int k3 (m : Int)))] [a.eval x, a.eval y1, a.eval y2, a.eval y3] := by simpa [Op.operands] using hv
  obtain ⟨v1, us, he, h1, h2⟩ := hv'
  obtain ⟨v2, us2, he2, h3, h4⟩ := h2
  obtain ⟨v3, us3, he3, h5, h6⟩ := h4
  obtain ⟨v4, us4, he4, h7, h8⟩ := h6
  simp only [VHs] at h8
  subst h8 he4 he3 he2
  simp only [List.cons.injEq, and_true] at he
  obtain ⟨rfl, rfl, rfl, rfl⟩ := he
  simp only [VH] at h1
  obtain ⟨q, z, i1, i2, i3, cc, ee, ff, g1, g2⟩ := h1
  simp only [VH, PH] at h3 h5 h7
  have hrun := run_sliceBounds (P := E.P) (w := w) (isSlice := true) (len := n) (cap := c) (lo := some (.int k1 (l : Int))) (hi := some (.int k2 (h : Int))) (mx := some (.int k3 (m : Int))) (l := l) (h := h) (m := m) (.inr ⟨k1, rfl⟩) (.inr ⟨k2, rfl⟩) (.inr ⟨k3, rfl⟩) (by omega) (by omega) (by omega) (by omega)
  refine ⟨_, by
    simp only [execOp, ho, i2, h3.1, h5.1, h7.1, Option.map_some, Instr.sliceAt, Instr.slice, run_bind', run_pure', run_underlying hT hr, hdesc, hrun, run_sizeOf hT hre]
    rfl, trivial⟩
theorem does_sliceC_from (hT : TabOk E.P T) {o : Oper} {t : TypeId} {x y : Operand} (ho : o.op = .slice t x (some y) none none) (hd : ∀ d, o.dst = some d → d < E.n) {r re : TyRow} (hr : T.lookup t = some r) {e : TypeId} (hdesc : r.desc = .slice e) (hre : T.lookup e = some re) {b n c : Nat} {k : IntKind} {l : Nat} (hl : l < n) :
    Does E o [.slc b 0 n re.size c, .pv (.lit (.int k (l : Int)))] [] { v := .sl b (l * re.size) (n - l) re.size false } := by
  refine Does.value hd fun ι imm st a w hsr hv _ => ?_
  rw [ho] at hv
  have hv' : VHs ι imm w [.slc b 0 n re.size c, .pv (.lit (.int k (l : Int)))] [a.eval x, a.eval y] := by simpa [Op.operands] using hv
  obtain ⟨v1, us, he, h1, h2⟩ := hv'
  obtain ⟨v2, us2, he2, h3, h4⟩ := h2
  simp only [VHs] at h4
  subst h4 he2
  simp only [List.cons.injEq, and_true] at he
  obtain ⟨rfl, rfl⟩ := he
  simp only [VH] at h1
  obtain ⟨q, z, i1, i2, i3, cc, ee, ff, g1, g2⟩ := h1
  simp only [VH, PH] at h3
  have hrun := run_sliceBounds (P := E.P) (w := w) (isSlice := true) (len := n) (cap := c) (lo := some (.int k (l : Int))) (hi := none) (mx := none) (l := l) (h := n) (m := c) (.inr ⟨k, rfl⟩) (.inl ⟨rfl, rfl, rfl⟩) (.inl ⟨rfl, rfl⟩) (by omega) (by omega) (by omega) (Int.le_refl _)
  have hmul : l * re.size + (c - l) * re.size = c * re.size := by rw [← Nat.add_mul]; congr 1; omega
  refine ⟨.slice (some ⟨q, z + l * re.size, none⟩) (n - l) (c - l), ?_, ⟨q, z, c - l, i1, rfl, by omega, fun h => (by cases h), cc, ee, ff, g1, by omega⟩⟩
  simp only [execOp, ho, i2, h3.1, Option.map_none, Option.map_some, Instr.sliceAt, Instr.slice, run_bind', run_pure', run_underlying hT hr, hdesc, hrun, run_sizeOf hT hre]
  simp
  rw [if_neg (by omega), add_none]
theorem does_sliceC_end (hT : TabOk E.P T) {o : Oper} {t : TypeId} {x y : Operand} (ho : o.op = .slice t x (some y) none none) (hd : ∀ d, o.dst = some d → d < E.n) {r re : TyRow} (hr : T.lookup t = some r) {e : TypeId} (hdesc : r.desc = .slice e) (hre : T.lookup e = some re) {b n c : Nat} {k : IntKind} :
    Does E o [.slc b 0 n re.size c, .pv (.lit (.int k (n : Int)))] [] { v := .pv (.sl (some false) 0 []) } := by
  refine Does.value hd fun ι imm st a w hsr hv _ => ?_
  rw [ho] at hv
  have hv' : VHs ι imm w [.slc b 0 n re.size c, .pv (.lit (.int k (n : Int)))] [a.eval x, a.eval y] := by simpa [Op.operands] using hv
  obtain ⟨v1, us, he, h1, h2⟩ := hv'
  obtain ⟨v2, us2, he2, h3, h4⟩ := h2
  simp only [VHs] at h4
  subst h4 he2
  simp only [List.cons.injEq, and_true] at he
  obtain ⟨rfl, rfl⟩ := he
  simp only [VH] at h1
  obtain ⟨q, z, i1, i2, i3, cc, ee, ff, g1, g2⟩ := h1
  simp only [VH, PH] at h3
  have hrun := run_sliceBounds (P := E.P) (w := w) (isSlice := true) (len := n) (cap := c) (lo := some (.int k (n : Int))) (hi := none) (mx := none) (l := n) (h := n) (m := c) (.inr ⟨k, rfl⟩) (.inl ⟨rfl, rfl, rfl⟩) (.inl ⟨rfl, rfl⟩) (by omega) (by omega) (by omega) (Int.le_refl _)
  by_cases hc : c = n
  · refine ⟨.slice (some ⟨q, z, none⟩) 0 (c - n), ?_, ?_⟩
    · simp only [execOp, ho, i2, h3.1, Option.map_none, Option.map_some, Instr.sliceAt, Instr.slice, run_bind', run_pure', run_underlying hT hr, hdesc, hrun, run_sizeOf hT hre]
      simp
      intro h; exact absurd hc h
    · simp only [VH, PH]
      exact ⟨_, _, rfl, by simp, by simp, by simp, by simp, fun _ _ h => absurd rfl h⟩
  · refine ⟨.slice (some ⟨q, z + n * re.size, none⟩) 0 (c - n), ?_, ?_⟩
    · simp only [execOp, ho, i2, h3.1, Option.map_none, Option.map_some, Instr.sliceAt, Instr.slice, run_bind', run_pure', run_underlying hT hr, hdesc, hrun, run_sizeOf hT hre]
      simp
      rw [if_neg hc, add_none]
    · simp only [VH, PH]
      exact ⟨_, _, rfl, by simp, by simp, by simp, by simp, fun _ _ h => absurd rfl h⟩
theorem does_sliceC_mid (hT : TabOk E.P T) {o : Oper} {t : TypeId} {x y y2 : Operand} (ho : o.op = .slice t x (some y) (some y2) none) (hd : ∀ d, o.dst = some d → d < E.n) {r re : TyRow} (hr : T.lookup t = some r) {e : TypeId} (hdesc : r.desc = .slice e) (hre : T.lookup e = some re) {b n c : Nat} {k k2 : IntKind} {l h : Nat} (hl : l < h) (hh : h ≤ c) :
    Does E o [.slc b 0 n re.size c, .pv (.lit (.int k (l : Int))), .pv (.lit (.int k2 (h : Int)))] [] { v := .slc b (l * re.size) (h - l) re.size (c - l) } := by
  refine Does.value hd fun ι imm st a w hsr hv _ => ?_
  rw [ho] at hv
  have hv' : VHs ι imm w [.slc b 0 n re.size c, .pv (.lit (.int k (l : Int))), .pv (.lit (.int k2 (h : Int)))] [a.eval x, a.eval y, a.eval y2] := by simpa [Op.operands] using hv
  obtain ⟨v1, us, he, h1, h2⟩ := hv'
  obtain ⟨v2, us2, he2, h3, h4⟩ := h2
  obtain ⟨v3, us3, he3, h5, h6⟩ := h4
  simp only [VHs] at h6
  subst h6 he3 he2
  simp only [List.cons.injEq, and_true] at he
  obtain ⟨rfl, rfl, rfl⟩ := he
  simp only [VH] at h1
  obtain ⟨q, z, i1, i2, i3, cc, ee, ff, g1, g2⟩ := h1
  simp only [VH, PH] at h3 h5
  have hrun := run_sliceBounds (P := E.P) (w := w) (isSlice := true) (len := n) (cap := c) (lo := some (.int k (l : Int))) (hi := some (.int k2 (h : Int))) (mx := none) (l := l) (h := h) (m := c) (.inr ⟨k, rfl⟩) (.inr ⟨k2, rfl⟩) (.inl ⟨rfl, rfl⟩) (by omega) (by omega) (by omega) (Int.le_refl _)
  have hmul : l * re.size + (c - l) * re.size = c * re.size := by rw [← Nat.add_mul]; congr 1; omega
  refine ⟨.slice (some ⟨q, z + l * re.size, none⟩) (h - l) (c - l), ?_, ⟨q, z, i1, rfl, by omega, cc, ee, ff, g1, by omega⟩⟩
  simp only [execOp, ho, i2, h3.1, h5.1, Option.map_none, Option.map_some, Instr.sliceAt, Instr.slice, run_bind', run_pure', run_underlying hT hr, hdesc, hrun, run_sizeOf hT hre]
  simp
  rw [if_neg (by omega), add_none]
/-- An append to a part of an own row, where there is room for it. -/
theorem does_appendIn (hT : TabOk E.P T) {o : Oper} {c : Call} {t t2 : TypeId} (ho : o.op = .call c) (hc : c.callee = .builtin .append) (hty : c.argTypes = #[t, t2]) (hd : ∀ d, o.dst = some d → d < E.n) {r re r2 : TyRow} (hr : T.lookup t = some r) {e : TypeId} (hdesc : r.desc = .slice e) (hre : T.lookup e = some re) (hr2 : T.lookup t2 = some r2) (hd2 : ∀ k, r2.desc ≠ .int k)
    {b n cap : Nat} {cs : List AV} {y : AV} {H : Nat → Option Blk} {m : Nat} {hd' : List (Nat × Blk)} {ys : List AV} (hsrc : srcAV H re.size y = some (m, hd', ys)) (hlen : ys.length = m * re.size) (hin : n + m ≤ cap) (hfit : (n + m) * re.size ≤ cs.length) (hflat : ys.all flatCell = true) (hnm : n + m ≤ 9223372036854775807) :
    Does E o [.slc b 0 n re.size cap, y] ((b, .cells cs) :: hd') { v := .slc b 0 (n + m) re.size cap, wr := [(b, some (.cells (setRange cs (n * re.size) ys)))] } := by
  intro ι imm st a w Q hs hv hh _
  have hvs := hs.evls hv
  have hops : o.op.operands.toList = c.args.toList := by rw [ho]; simp [Op.operands, Call.operands, hc]
  rw [hops] at hvs
  obtain ⟨v1, us1, he, hv1, hvs⟩ := hvs
  obtain ⟨v2, us2, he2, hv2, hvs⟩ := hvs
  simp only [VHs] at hvs
  subst hvs
  subst he2
  have hargs : c.args.map a.eval = #[v1, v2] := by apply Array.ext'; simpa using he
  simp only [VH] at hv1
  obtain ⟨q, z, hi, rfl, hncap, cS, eS, fS, hS, hSz⟩ := hv1
  have hb := hh _ (List.mem_cons_self ..)
  obtain ⟨cc, ee, f, h1, h2, h3, h4, _⟩ := hs.heap.cells hb hi
  rw [h1] at hS
  simp only [Option.some.injEq, Obj.cells.injEq] at hS
  obtain ⟨rfl, rfl, rfl⟩ := hS
  rw [Nat.add_mul] at hfit
  obtain ⟨vs, g1, g2, g3⟩ := run_src hs hsrc (fun x hx => hh x (List.mem_cons_of_mem _ hx)) hlen hv2
  have hl := g2.length
  have hO : CellsH ι imm w cc (cs.take (n * re.size)) z := h4.take
  have hOl : (cs.take (n * re.size)).length = n * re.size := by rw [List.length_take]; omega
  obtain ⟨vsO, o1, o2⟩ := hO.vals
  have hlO := o1.length
  have hold : ∀ w' : World, (∀ x, w'.cell? x = w.cell? x) → (Builtin.firstCells re.size n (.slice (some ⟨q, z + 0, none⟩) n cap)).run E.P w' = .ok (List.toArray vsO) w' := fun w' hw' => by
    have := run_loadCells (P := E.P) (w := w') (r := q) (o := z) vsO (fun i hi => by rw [hw', cell_of_heap h1, o2 i hi])
    rw [hlO, hOl] at this
    simpa [Builtin.firstCells] using this
  have hnew : ∀ w' : World, (∀ x, w'.cell? x = w.cell? x) → (Builtin.firstCells re.size m v2).run E.P w' = .ok (List.toArray vs) w' := fun w' hw' => by
    have := g3 m (Nat.le_refl _) w' hw'
    rwa [List.take_of_length_le (by rw [hl, hlen]; exact Nat.le_refl _)] at this
  have hsing : ∀ v ∈ vs, single v := VHs.singles _ _ g2 (flatCell_spec hflat)
  obtain ⟨inplace, _⟩ := run_append' hT hr hdesc hre hr2 hd2 (ty := o.type) (t := t) g1 hnew hold (fun h => absurd h (by omega)) hnm
  obtain ⟨s, hrun, rfl⟩ := inplace hin
  obtain ⟨w', h5, h6⟩ := run_storeCells (P := E.P) vs (z + n * re.size) 0 h1 (by rw [hl, hlen]; omega) (fun o _ => h3 o) hsing
  have hput := CellsH.put (k := n * re.size) (c' := putCells cc (z + n * re.size + 0) vs) h4 g2 (by rw [hlen]; omega) (by rw [Nat.add_zero]) h2
  have hsr := hs.write hb hi h1 h6 (putCells_size _ _ _) (by rw [setRange_length (by rw [hlen]; omega)]; exact h2) hput (.slc b 0 (n + m) re.size cap)
  simp only [add_none, Nat.add_zero, run_bind', h5, run_pure'] at hrun
  have hexec : (execOp a.eval o).run E.P w = .ok (.value (.slice (some ⟨q, z + 0, none⟩) (n + m) cap)) w' := by
    simp only [execOp, ho, resolve, hc, run_bind', run_pure', invoke, builtin, hargs, hty, Nat.add_zero, hrun]
  unfold Oper.wp
  rw [hexec, Oper.upon_value]
  refine ⟨ι, imm, hsr.put o.dst hd (show VH ι imm w' (.slc b 0 (n + m) re.size cap) (.slice (some ⟨q, z + 0, none⟩) (n + m) cap) from ⟨q, z, hi, rfl, hin, _, _, _, h6.row, ?_⟩)⟩
  rw [putCells_size]; exact hSz
/-- clear of what lies behind a place of an own row: what lies ahead of it stays. -/
theorem does_clearEnd (hT : TabOk E.P T) {o : Oper} {c : Call} {t : TypeId} (ho : o.op = .call c) (hc : c.callee = .builtin .clear) (hty : c.argTypes = #[t]) (hd : ∀ d, o.dst = some d → d < E.n) {r re : TyRow} (hr : T.lookup t = some r) {e : TypeId} (hdesc : r.desc = .slice e) (hre : T.lookup e = some re)
    {b k n cap : Nat} {cs : List AV} (hfit : k + n * re.size = cs.length) (hzs : re.zero.cells.size = re.size) (hzf : ∀ v ∈ re.zero.cells.toList, single v) (hn : 0 < n) :
    Does E o [.slc b k n re.size cap] [(b, .cells cs)] { v := .tup [], wr := [(b, some (.cells (cs.take k)))] } := by
  intro ι imm st a w Q hs hv hh _
  have hvs := hs.evls hv
  have hops : o.op.operands.toList = c.args.toList := by rw [ho]; simp [Op.operands, Call.operands, hc]
  rw [hops] at hvs
  obtain ⟨v1, us1, he, hv1, hvs⟩ := hvs
  simp only [VHs] at hvs
  subst hvs
  have hargs : c.args.map a.eval = #[v1] := by apply Array.ext'; simpa using he
  simp only [VH] at hv1
  obtain ⟨q, z, hi, rfl, hncap, cS, eS, fS, hS, hSz⟩ := hv1
  have hb := hh _ (List.mem_cons_self ..)
  obtain ⟨cc, ee, f, h1, h2, h3, h4, _⟩ := hs.heap.cells hb hi
  have hzl : (Builtin.zeroCells re.zero.cells n).toList.length = n * re.size := by simp [Builtin.zeroCells, hzs]
  have hsing : ∀ v ∈ (Builtin.zeroCells re.zero.cells n).toList, single v := fun v hv => by
    simp only [Builtin.zeroCells, Array.toList_map, List.mem_map] at hv
    obtain ⟨j, hj, rfl⟩ := hv
    have hlt : j < n * re.zero.cells.size := by simpa using hj
    have hpos : 0 < re.zero.cells.size := Nat.pos_of_ne_zero fun h0 => by rw [h0] at hlt; simp at hlt
    have hm : j % re.zero.cells.size < re.zero.cells.size := Nat.mod_lt _ hpos
    rw [getElem!_pos re.zero.cells _ hm]
    exact hzf _ (Array.mem_toList_iff.2 (Array.getElem_mem hm))
  obtain ⟨w', h5, h6⟩ := run_storeCells (P := E.P) (Builtin.zeroCells re.zero.cells n).toList (z + k) 0 h1 (by rw [hzl]; omega) (fun o _ => h3 o) hsing
  have hexec : (execOp a.eval o).run E.P w = .ok (.value (.tuple #[])) w' := by
    have h7 : (Builtin.clear_ #[t] o.type #[.slice (some ⟨q, z + k, none⟩) n cap]).run E.P w = .ok (.tuple #[]) w' := by
      simp only [Builtin.clear_, List.getElem?_toArray, List.getElem?_cons_zero]
      rw [run_bind', run_underlying hT hr]
      simp only [hdesc]
      obtain ⟨n', rfl⟩ : ∃ n', n = n' + 1 := ⟨n - 1, by omega⟩
      simp only [run_bind', run_zeroValue hT hre, h5, run_pure']
    simp only [execOp, ho, resolve, hc, run_bind', run_pure', invoke, builtin, hargs, hty, h7]
  unfold Oper.wp
  rw [hexec, Oper.upon_value]
  have hund : ∀ us : List Value, VHs ι imm w (List.replicate us.length AV.undef) us := fun us => by
    induction us with
    | nil => rfl
    | cons u us ih => exact ⟨u, us, rfl, trivial, ih⟩
  have hput := CellsH.put (k := k) (c' := putCells cc (z + k + 0) (Builtin.zeroCells re.zero.cells n).toList) h4 (hund _) (by rw [List.length_replicate, hzl]; omega) (by rw [Nat.add_zero]) h2
  have hput2 : CellsH ι imm w (putCells cc (z + k + 0) (Builtin.zeroCells re.zero.cells n).toList) (cs.take k) z := by
    unfold setRange at hput
    rw [List.append_assoc] at hput
    exact hput.left
  have hsr := hs.write hb hi h1 h6 (putCells_size _ _ _) (by rw [List.length_take]; omega) hput2 (.tup [])
  exact ⟨ι, imm, hsr.put o.dst hd (show VH ι imm w' (.tup []) (.tuple #[]) from ⟨[], rfl, rfl⟩)⟩
end ops
section steps
variable {E : Env} {T : Tab} {cq : Oper → Cls} {n : Nat}
theorem rexec_slice3C (C : Cx E T n) {d : Option Nat} {t : TypeId} {x y1 y2 y3 : Operand} {ty : TypeId} {pos : String} {af : Array Edge} {g : Option (Nat × Bool)} {st : St} {K : St → Prop} {b m s c l h q : Nat} {k1 k2 k3 : IntKind} {r re : TyRow} {te : TypeId} (h1 : dstB n ⟨d, .slice t x (some y1) (some y2) (some y3), ty, pos, af, g⟩ = true)
    (h2 : evls st.S [x, y1, y2, y3] = some [.slc b 0 m s c, .pv (.lit (.int k1 (l : Int))), .pv (.lit (.int k2 (h : Int))), .pv (.lit (.int k3 (q : Int)))]) (hr : T.lookup t = some r) (hdesc : r.desc = .slice te) (hre : T.lookup te = some re) (hs : re.size = s) (hl : l ≤ h) (hh : h ≤ q) (hq : q ≤ c) (h7 : K (st.after d { v := .undef })) : rexec E cq n ⟨d, .slice t x (some y1) (some y2) (some y3), ty, pos, af, g⟩ st K := by
  subst hs
  exact rexec_value C h1 rfl h2 (fun hd => does_slice3C C.tab rfl hd hr hdesc hre hl hh hq) (fun _ _ => rfl) h7
theorem rexec_sliceC_from (C : Cx E T n) {d : Option Nat} {t : TypeId} {x y : Operand} {ty : TypeId} {pos : String} {af : Array Edge} {g : Option (Nat × Bool)} {st : St} {K : St → Prop} {b m s c l : Nat} {kk : IntKind} {r re : TyRow} {te : TypeId} (h1 : dstB n ⟨d, .slice t x (some y) none none, ty, pos, af, g⟩ = true)
    (h2 : evls st.S [x, y] = some [.slc b 0 m s c, .pv (.lit (.int kk (l : Int)))]) (hr : T.lookup t = some r) (hdesc : r.desc = .slice te) (hre : T.lookup te = some re) (hs : re.size = s) (hl : l < m) (h7 : K (st.after d { v := .sl b (l * s) (m - l) s false })) : rexec E cq n ⟨d, .slice t x (some y) none none, ty, pos, af, g⟩ st K := by
  subst hs
  exact rexec_value C h1 rfl h2 (fun hd => does_sliceC_from C.tab rfl hd hr hdesc hre hl) (fun U hU => by simp only [AV.withinL, AV.within, Bool.and_eq_true] at hU ⊢; exact hU.1) h7
theorem rexec_sliceC_end (C : Cx E T n) {d : Option Nat} {t : TypeId} {x y : Operand} {ty : TypeId} {pos : String} {af : Array Edge} {g : Option (Nat × Bool)} {st : St} {K : St → Prop} {b m s c l : Nat} {kk : IntKind} {r re : TyRow} {te : TypeId} (h1 : dstB n ⟨d, .slice t x (some y) none none, ty, pos, af, g⟩ = true)
    (h2 : evls st.S [x, y] = some [.slc b 0 m s c, .pv (.lit (.int kk (l : Int)))]) (hr : T.lookup t = some r) (hdesc : r.desc = .slice te) (hre : T.lookup te = some re) (hs : re.size = s) (hl : l = m) (h7 : K (st.after d { v := .pv (.sl (some false) 0 []) })) : rexec E cq n ⟨d, .slice t x (some y) none none, ty, pos, af, g⟩ st K := by
  subst hs hl
  exact rexec_value C h1 rfl h2 (fun hd => does_sliceC_end C.tab rfl hd hr hdesc hre) (fun _ _ => rfl) h7
theorem rexec_sliceC_mid (C : Cx E T n) {d : Option Nat} {t : TypeId} {x y y2 : Operand} {ty : TypeId} {pos : String} {af : Array Edge} {g : Option (Nat × Bool)} {st : St} {K : St → Prop} {b m s c l h : Nat} {k k2 : IntKind} {r re : TyRow} {te : TypeId} (h1 : dstB n ⟨d, .slice t x (some y) (some y2) none, ty, pos, af, g⟩ = true)
    (h2 : evls st.S [x, y, y2] = some [.slc b 0 m s c, .pv (.lit (.int k (l : Int))), .pv (.lit (.int k2 (h : Int)))]) (hr : T.lookup t = some r) (hdesc : r.desc = .slice te) (hre : T.lookup te = some re) (hs : re.size = s) (hl : l < h) (hh : h ≤ c) (h7 : K (st.after d { v := .slc b (l * s) (h - l) s (c - l) })) : rexec E cq n ⟨d, .slice t x (some y) (some y2) none, ty, pos, af, g⟩ st K := by
  subst hs
  exact rexec_value C h1 rfl h2 (fun hd => does_sliceC_mid C.tab rfl hd hr hdesc hre hl hh) (fun U hU => by simp only [AV.withinL, AV.within, Bool.and_eq_true] at hU ⊢; exact hU.1) h7
theorem rexec_appendIn (C : Cx E T n) {d : Option Nat} {c : Call} {t t2 : TypeId} {ty : TypeId} {pos : String} {af : Array Edge} {g : Option (Nat × Bool)} {st : St} {K : St → Prop} (hc : c.callee = .builtin .append) (hty : c.argTypes = #[t, t2]) (h1 : dstB n ⟨d, .call c, ty, pos, af, g⟩ = true) {r re r2 : TyRow} (hr : T.lookup t = some r) {e : TypeId} (hdesc : r.desc = .slice e) (hre : T.lookup e = some re) (hr2 : T.lookup t2 = some r2) (hd2 : ∀ k, r2.desc ≠ .int k)
    {b m cap : Nat} {cs : List AV} {y : AV} {m' : Nat} {hs' : List (Nat × Blk)} {ys : List AV} (cs' : List AV) (hv : evls st.S c.args.toList = some [.slc b 0 m re.size cap, y]) (hb : st.H b = some (.cells cs)) (hsrc : srcAV st.H re.size y = some (m', hs', ys)) (hdeps : ∀ x ∈ hs', st.H x.1 = some x.2) (hlen : ys.length = m' * re.size) (hin : m + m' ≤ cap) (hfit : (m + m') * re.size ≤ cs.length) (hnm : m + m' ≤ 9223372036854775807) (hflat : ys.all flatCell = true) (hyw : ∀ U, (∀ x ∈ hs', Blk.within U x.2 = true) → AV.withinL U ys = true)
    (hcs' : setRange cs (m * re.size) ys = cs')
    (h7 : K (st.after d { v := .slc b 0 (m + m') re.size cap, wr := [(b, some (.cells cs'))] })) (hre' : reachB [.slc b 0 m re.size cap, y] [] ((b, .cells cs) :: hs') = true) (hcl : clsOf cq ⟨d, .call c, ty, pos, af, g⟩ = .writer := by rfl) : rexec E cq n ⟨d, .call c, ty, pos, af, g⟩ st K := by
  subst hcs'
  have hd : ∀ x, d = some x → x < E.n := fun x e => by
    simp only [dstB, e, decide_eq_true_eq] at h1
    exact C.n ▸ h1
  have hdo := does_appendIn C.tab (o := ⟨d, .call c, ty, pos, af, g⟩) rfl hc hty hd hr hdesc hre hr2 hd2 (b := b) (n := m) (cap := cap) (cs := cs) (y := y) (H := st.H) (m := m') (hd' := hs') (ys := ys) hsrc hlen hin hfit hflat hnm
  have hops : (Op.operands (.call c)).toList = c.args.toList := by simp [Op.operands, Call.operands, hc]
  have hself : ∀ x ∈ ((b, Blk.cells cs) :: hs'), x.2.within (fun b' => refs [.slc b 0 m re.size cap, y] ((b, .cells cs) :: hs') b') = true := fun x hx => within_self_blk _ _ x hx
  refine ⟨h1, _, _, _, { vals := ?_, deps := ?_, fresh := ?_, does := hdo, reach := hre', inV := ?_, inN := ?_, inW := ?_, wr := ?_, pure := fun h => ?_, quiet := fun h => ?_, foot := by rw [hcl]; rfl }, h7⟩
  · show evls st.S (Op.operands (.call c)).toList = _
    rw [hops]; exact hv
  · intro x hx
    cases hx with
    | head => exact hb
    | tail _ hm => exact hdeps x hm
  · intro x hx; cases hx
  · simp [refs, AV.withinL, AV.within]
  · intro x hx; cases hx
  · intro x hx k' hk
    simp only [List.mem_singleton] at hx
    subst hx
    simp only [Option.some.injEq] at hk
    subst hk
    simp only [Blk.within]
    refine within_setRange ?_ ?_
    · refine AV.withinL_mono (U := fun b' => refs [.slc b 0 m re.size cap, y] ((b, .cells cs) :: hs') b') (fun b hb => by simp [hb]) cs ?_
      exact hself (b, .cells cs) (List.mem_cons_self ..)
    · refine AV.withinL_mono (U := fun b' => refs [.slc b 0 m re.size cap, y] ((b, .cells cs) :: hs') b') (fun b hb => by simp [hb]) ys ?_
      exact hyw _ fun x hx => hself x (List.mem_cons_of_mem _ hx)
  · intro x hx
    simp only [List.mem_singleton] at hx
    subst hx
    simp [refs, AV.withinL, AV.within]
  · rw [hcl] at h; cases h
  · rw [hcl] at h; cases h
theorem rexec_clearEnd (C : Cx E T n) {d : Option Nat} {c : Call} {t : TypeId} {ty : TypeId} {pos : String} {af : Array Edge} {g : Option (Nat × Bool)} {st : St} {K : St → Prop} (hc : c.callee = .builtin .clear) (hty : c.argTypes = #[t]) (h1 : dstB n ⟨d, .call c, ty, pos, af, g⟩ = true) {r re : TyRow} (hr : T.lookup t = some r) {e : TypeId} (hdesc : r.desc = .slice e) (hre : T.lookup e = some re)
    {b k m cap : Nat} {cs : List AV} (cs' : List AV) (hv : evls st.S c.args.toList = some [.slc b k m re.size cap]) (hb : st.H b = some (.cells cs)) (hfit : k + m * re.size = cs.length) (hzs : re.zero.cells.size = re.size) (hzf : ∀ v ∈ re.zero.cells.toList, single v) (hn : 0 < m)
    (hcs' : cs.take k = cs')
    (h7 : K (st.after d { v := .tup [], wr := [(b, some (.cells cs'))] })) (hre' : reachB [.slc b k m re.size cap] [] [(b, .cells cs)] = true) (hcl : clsOf cq ⟨d, .call c, ty, pos, af, g⟩ = .writer := by rfl) : rexec E cq n ⟨d, .call c, ty, pos, af, g⟩ st K := by
  subst hcs'
  have hd : ∀ x, d = some x → x < E.n := fun x e => by
    simp only [dstB, e, decide_eq_true_eq] at h1
    exact C.n ▸ h1
  have hdo := does_clearEnd C.tab (o := ⟨d, .call c, ty, pos, af, g⟩) rfl hc hty hd hr hdesc hre (b := b) (k := k) (n := m) (cap := cap) (cs := cs) hfit hzs hzf hn
  have hops : (Op.operands (.call c)).toList = c.args.toList := by simp [Op.operands, Call.operands, hc]
  have hself : ∀ x ∈ [(b, Blk.cells cs)], x.2.within (fun b' => refs [.slc b k m re.size cap] [(b, .cells cs)] b') = true := fun x hx => within_self_blk _ _ x hx
  refine ⟨h1, _, _, _, { vals := ?_, deps := ?_, fresh := ?_, does := hdo, reach := hre', inV := rfl, inN := ?_, inW := ?_, wr := ?_, pure := fun h => ?_, quiet := fun h => ?_, foot := by rw [hcl]; rfl }, h7⟩
  · show evls st.S (Op.operands (.call c)).toList = _
    rw [hops]; exact hv
  · intro x hx
    simp only [List.mem_singleton] at hx
    subst hx; exact hb
  · intro x hx; cases hx
  · intro x hx; cases hx
  · intro x hx k' hk
    simp only [List.mem_singleton] at hx
    subst hx
    simp only [Option.some.injEq] at hk
    subst hk
    simp only [Blk.within]
    refine within_sub ?_ fun x hx => List.mem_of_mem_take hx
    refine AV.withinL_mono (U := fun b' => refs [.slc b k m re.size cap] [(b, .cells cs)] b') (fun b hb => by simp [hb]) cs ?_
    exact hself (b, .cells cs) (List.mem_cons_self ..)
  · intro x hx
    simp only [List.mem_singleton] at hx
    subst hx
    simp [refs, AV.withinL, AV.within]
  · rw [hcl] at h; cases h
  · rw [hcl] at h; cases h
end steps
end Go.Am
/- slices.Delete of one element of a row of one's own: its contract. No conditions. -/
namespace Go.Proofs.Ytpeeofofagfooaa
open Go.Am
abbrev eQ : Enc (Sl Int) := eSl (eI .u8)
theorem eraseIdx_eq {α : Type} (D : List α) (n : Nat) : D.eraseIdx n = D.take n ++ D.drop (n + 1) := List.eraseIdx_eq_take_drop_succ D n
theorem del_take (D : List (Sl Int)) (n : Nat) (hn : n < D.length) : (setRange (encC eQ D) (n * 1) (encC eQ (D.drop (n + 1)))).take ((n + (D.length - (n + 1))) * 1) = encC eQ (D.eraseIdx n) := by
  unfold setRange
  rw [eraseIdx_eq, show n * 1 = n * eQ.sz from rfl, encC_takeN, ← encC_append, List.take_left' (by rw [encC_len]; simp only [List.length_append, List.length_take, List.length_drop]; show _ * 1 = _ * 1; omega)]
theorem del_last (D : List (Sl Int)) (n : Nat) (hn : n + 1 = D.length) : (setRange (encC eQ D) (n * 1) []).take ((n + 0) * 1) = encC eQ (D.eraseIdx n) := by
  unfold setRange
  rw [eraseIdx_eq, show n * 1 = n * eQ.sz from rfl, encC_takeN, List.append_nil, show D.drop (n + 1) = [] from List.drop_of_length_le (by omega), List.append_nil]
  exact List.take_left' (by rw [encC_len]; simp only [List.length_take]; show _ * 1 = _ * 1; omega)
theorem zeroQ : ∀ v ∈ ((tab.lookup 30).get rfl).zero.cells.toList, single v := by
  intro v hv
  have e : ((tab.lookup 30).get rfl).zero.cells.toList = [.slice none 0 0] := by kernel_rfl
  rw [e] at hv
  simp only [List.mem_cons, List.not_mem_nil, or_false] at hv
  subst hv; exact ⟨fun c h => (by cases h), fun c h => (by cases h)⟩
theorem delQ_calls (D : List (Sl Int)) (i j : Int) (hi : 0 ≤ i ∧ i < (D.length : Int)) (hj : j = i + 1) (hl : D.length ≤ 1000000) : XCalls Try.prog 54 [.sl 0 0 D.length 1 false, .pv (.lit (.int .i64 i)), .pv (.lit (.int .i64 j))] (.cells (encC eQ D)) (sS (some false) eQ (D.eraseIdx i.toNat)) := by
 subst hj
 obtain ⟨n, rfl⟩ : ∃ n : Nat, i = (n : Int) := ⟨i.toNat, by omega⟩
 have hn : n < D.length := by omega
 rw [Int.toNat_natCast, show (n : Int) + 1 = ((n + 1 : Nat) : Int) by omega]
 have hne : ((n : Int) == ((n + 1 : Nat) : Int)) = false := by simp; omega
 have hys : ((encC eQ D).drop ((n + 1) * 1)).take ((D.length - (n + 1)) * 1) = encC eQ (D.drop (n + 1)) := by
  rw [show (n + 1) * 1 = (n + 1) * eQ.sz from rfl, encC_dropN, encC_takeAll _ (by rw [List.length_drop]; exact Nat.le_refl _)]
 refine XCalls.of_body tabOk Try.func54 rfl rfl rfl rfl rfl (encC_within _ _) mixed fun E hP C hI => ?_
 refine Awp.capOf 0 0 D.length 1 false (encC eQ D) rfl rfl (by rw [encC_len]; rfl) fun c hc0 => ?_
 refine Awp.consP C ?_
 refine rvc_prim C rfl rfl rfl rfl trivial rfl ?_
 refine rvc_nil ?_
 refine Awp.consP C ?_
 refine rvc_prim C rfl rfl rfl rfl trivial rfl ?_
 refine rvc_prim C rfl rfl rfl rfl trivial rfl ?_
 refine rvc_prim C rfl rfl rfl rfl trivial rfl ?_
 refine rvc_prim C rfl rfl rfl rfl trivial rfl ?_
 refine rvc_un (rexec_lenC C rfl rfl rfl rfl rfl rfl ?_)
 refine rvc_un (rexec_slice3C C (l := n) (h := n + 1) (q := D.length) rfl rfl rfl rfl rfl rfl (by omega) (by omega) (by omega) ?_)
 refine rvc_nil ?_
 refine Awp.seq ?_
 refine Awp.consP C ?_
 refine rvc_prim C rfl rfl rfl rfl trivial rfl ?_
 refine rvc_prim C rfl rfl rfl rfl trivial rfl ?_
 refine rvc_prim C rfl rfl rfl rfl trivial rfl ?_
 refine rvc_nil ?_
 refine Awp.condF rfl hne ?_
 refine Awp.skip ?_
 refine Awp.consP C ?_
 refine rvc_prim C rfl rfl rfl rfl trivial rfl ?_
 refine rvc_un (rexec_lenC C rfl rfl rfl rfl rfl rfl ?_)
 refine rvc_prim C rfl rfl rfl rfl trivial rfl ?_
 refine rvc_nil ?_
 by_cases hlast : n + 1 < D.length
 ·
  refine Awp.cons C (fun o => match o.dst with | some 26 => .writer | _ => .pure) (by kernel_rfl) ?_
  refine rvc_prim C rfl rfl rfl rfl trivial rfl ?_
  refine rvc_prim C rfl rfl rfl rfl trivial rfl ?_
  refine rvc_un (rexec_sliceHiC C n rfl rfl rfl rfl rfl rfl (by omega) ?_)
  refine rvc_prim C rfl rfl rfl rfl trivial rfl ?_
  refine rvc_prim C rfl rfl rfl rfl trivial rfl ?_
  refine rvc_un (rexec_sliceC_from C (l := n + 1) rfl rfl rfl rfl rfl rfl (by omega) ?_)
  refine rvc_un (rexec_appendIn C rfl rfl rfl rfl rfl rfl rfl (fun _ h => by cases h) (m := n) (m' := D.length - (n + 1)) (ys := (encC eQ (D.drop (n + 1)))) (setRange (encC eQ D) (n * 1) (encC eQ (D.drop (n + 1)))) rfl rfl (by show some (_, _, ((encC eQ D).drop ((n + 1) * 1)).take ((D.length - (n + 1)) * 1)) = _; rw [hys]) (fun x hx => by simp only [List.mem_singleton] at hx; subst hx; rfl) (by rw [encC_len, List.length_drop]; rfl) (by omega) (by rw [encC_len]; show _ * 1 ≤ _ * 1; omega) (by omega) (pv_flat _) (fun U _ => within_pvs _ _) rfl ?_ rfl)
  refine rvc_prim C rfl rfl rfl rfl trivial rfl ?_
  refine rvc_nil ?_
  refine Awp.cons C (fun o => match o.dst with | none => .writer | _ => .pure) (by kernel_rfl) ?_
  refine rvc_prim C rfl rfl rfl rfl trivial rfl ?_
  refine rvc_prim C rfl rfl rfl rfl trivial rfl ?_
  refine rvc_un (rexec_lenC C rfl rfl rfl rfl rfl rfl ?_)
  refine rvc_prim C rfl rfl rfl rfl trivial rfl ?_
  refine rvc_un (rexec_sliceC_mid C (l := n + (D.length - (n + 1))) (h := D.length) rfl rfl rfl rfl rfl rfl (by omega) (by omega) ?_)
  refine rvc_un (rexec_clearEnd C rfl rfl rfl rfl rfl rfl (encC eQ (D.eraseIdx n)) rfl rfl (by rw [setRange_length (by simp only [encC_len, List.length_drop]; show n * 1 + _ ≤ _ * 1; first | omega | (show n * 1 + _ * 1 ≤ _ * 1; omega))]; rw [encC_len]; show _ * 1 + _ * 1 = _ * 1; omega) rfl zeroQ (by omega) (del_take D n hn) ?_ rfl)
  refine rvc_nil ?_
  refine Awp.consP C ?_
  refine rvc_prim C rfl rfl rfl rfl trivial rfl ?_
  refine rvc_prim C rfl rfl rfl rfl trivial rfl ?_
  refine rvc_nil ?_
  refine Awp.dropCap 6 0 0 (n + (D.length - (n + 1))) 1 c rfl ?_
  refine Awp.freezeW 0 (encL eQ (D.eraseIdx n)) ?_ [(6, sS (some false) eQ (D.eraseIdx n))] [] ?_ ?_ ?_
  · rfl
  · exact ⟨⟨_, rfl, .inl (.inr ⟨_, _, _, rfl, by simp only [sS]; congr 2; rw [List.length_eraseIdx_of_lt hn]; omega⟩)⟩, trivial⟩
  · exact trivial
  refine Awp.ret ?_
  exact ⟨.inl rfl, rfl⟩
 ·
  refine Awp.cons C (fun o => match o.dst with | some 26 => .writer | _ => .pure) (by kernel_rfl) ?_
  refine rvc_prim C rfl rfl rfl rfl trivial rfl ?_
  refine rvc_prim C rfl rfl rfl rfl trivial rfl ?_
  refine rvc_un (rexec_sliceHiC C n rfl rfl rfl rfl rfl rfl (by omega) ?_)
  refine rvc_prim C rfl rfl rfl rfl trivial rfl ?_
  refine rvc_prim C rfl rfl rfl rfl trivial rfl ?_
  refine rvc_un (rexec_sliceC_end C (l := n + 1) rfl rfl rfl rfl rfl rfl (by omega) ?_)
  refine rvc_un (rexec_appendIn C rfl rfl rfl rfl rfl rfl rfl (fun _ h => by cases h) (m := n) (m' := 0) (ys := []) (setRange (encC eQ D) (n * 1) []) rfl rfl rfl (fun x hx => by cases hx) (by simp) (by omega) (by rw [encC_len]; show _ * 1 ≤ _ * 1; omega) (by omega) rfl (fun U _ => rfl) rfl ?_ rfl)
  refine rvc_prim C rfl rfl rfl rfl trivial rfl ?_
  refine rvc_nil ?_
  refine Awp.cons C (fun o => match o.dst with | none => .writer | _ => .pure) (by kernel_rfl) ?_
  refine rvc_prim C rfl rfl rfl rfl trivial rfl ?_
  refine rvc_prim C rfl rfl rfl rfl trivial rfl ?_
  refine rvc_un (rexec_lenC C rfl rfl rfl rfl rfl rfl ?_)
  refine rvc_prim C rfl rfl rfl rfl trivial rfl ?_
  refine rvc_un (rexec_sliceC_mid C (l := n + (0)) (h := D.length) rfl rfl rfl rfl rfl rfl (by omega) (by omega) ?_)
  refine rvc_un (rexec_clearEnd C rfl rfl rfl rfl rfl rfl (encC eQ (D.eraseIdx n)) rfl rfl (by rw [setRange_length (by simp only [encC_len, List.length_nil]; show n * 1 + _ ≤ _ * 1; first | omega | (show n * 1 + _ * 1 ≤ _ * 1; omega))]; rw [encC_len]; show _ * 1 + _ * 1 = _ * 1; omega) rfl zeroQ (by omega) (del_last D n (by omega)) ?_ rfl)
  refine rvc_nil ?_
  refine Awp.consP C ?_
  refine rvc_prim C rfl rfl rfl rfl trivial rfl ?_
  refine rvc_prim C rfl rfl rfl rfl trivial rfl ?_
  refine rvc_nil ?_
  refine Awp.dropCap 6 0 0 (n + (0)) 1 c rfl ?_
  refine Awp.freezeW 0 (encL eQ (D.eraseIdx n)) ?_ [(6, sS (some false) eQ (D.eraseIdx n))] [] ?_ ?_ ?_
  · rfl
  · exact ⟨⟨_, rfl, .inl (.inr ⟨_, _, _, rfl, by simp only [sS]; congr 2; rw [List.length_eraseIdx_of_lt hn]; omega⟩)⟩, trivial⟩
  · exact trivial
  refine Awp.ret ?_
  exact ⟨.inl rfl, rfl⟩
end Go.Proofs.Ytpeeofofagfooaa
/- What a net holds. No conditions. -/
namespace Go.Proofs.Ytpeeofofagfooaa
open Go.Am
abbrev Que := Sl (Sl Int)
def okB (x : Sl Int) : Prop := (x.nil = true → x.D = []) ∧ x.D.length ≤ 8192
def okQ (q : Que) : Prop := (q.nil = true → q.D = []) ∧ q.D.length ≤ 8 ∧ ∀ x ∈ q.D, okB x
def okN (n : Net) : Prop := mOnce kLink n.of_ ∧ ∀ e ∈ n.of_, okQ e.2
def qOf (D : List (Link × Que)) (l : Link) : Que := (mGet kLink l D).getD (Sl.mk true [])
theorem okQ0 : okQ (Sl.mk true []) := ⟨fun _ => rfl, Nat.zero_le _, fun _ h => by cases h⟩
theorem mGet_mem {κ β : Type} {KE : KEnc κ} {k : κ} : ∀ {D : List (κ × β)} {x : β}, mGet KE k D = some x → ∃ e ∈ D, KE.eq k e.1 = true ∧ e.2 = x
  | [], _, h => by cases h
  | e :: D, x, h => by
    unfold mGet at h
    split at h
    · rename_i hk; exact ⟨e, List.mem_cons_self .., hk, Option.some.inj h⟩
    · obtain ⟨e', h1, h2⟩ := mGet_mem h
      exact ⟨e', List.mem_cons_of_mem _ h1, h2⟩
theorem okN.q {n : Net} (h : okN n) (l : Link) : okQ (qOf n.of_ l) := by
  unfold qOf
  cases e : mGet kLink l n.of_ with
  | none => exact okQ0
  | some x =>
    obtain ⟨e', h1, _, h2⟩ := mGet_mem e
    rw [← h2]; exact h.2 e' h1
theorem able_q {n : Net} {l : Link} {i : Int} (ho : okN n) (h : (able n l i != 0) = false) : (0 ≤ i ∧ i < ((((mGet kLink l n.of_).getD (Sl.mk true [])).D).length : Int)) ∧ ((mGet kLink l n.of_).getD (Sl.mk true [])).nil = false := by
  have h0 : able n l i = 0 := eq_of_bne_false h
  unfold able at h0
  cases h1 : nDead n
  case true => rw [h1] at h0; cases h0
  rw [h1, cond_false] at h0
  cases h2 : !(fitsL l)
  case true => rw [h2] at h0; cases h0
  rw [h2, cond_false] at h0
  cases h3 : decide (i < 0)
  case true => rw [h3] at h0; cases h0
  rw [h3, cond_false] at h0
  cases h4 : decide (i ≥ ((((mGet kLink l n.of_).getD (Sl.mk true [])).D).length : Int))
  case true => rw [h4] at h0; cases h0
  have h3 := of_decide_eq_false h3
  have h4 := of_decide_eq_false h4
  refine ⟨⟨by omega, by omega⟩, ?_⟩
  have hq := (ho.q l).1
  unfold qOf at hq
  cases h5 : ((mGet kLink l n.of_).getD (Sl.mk true [])).nil
  · rfl
  · rw [hq h5] at h4; simp at h4; omega
theorem okN.msg {n : Net} (h : okN n) (l : Link) (i : Nat) : (((mGet kLink l n.of_).getD (Sl.mk true [])).D[i]!).D.length ≤ 8192 := by
  have hq := (h.q l).2.2
  unfold qOf at hq
  generalize ((mGet kLink l n.of_).getD (Sl.mk true [])).D = D at hq ⊢
  rcases Nat.lt_or_ge i D.length with hi | hi
  · rw [getElem!_pos D i hi]
    exact (hq _ (List.getElem_mem hi)).2
  · rw [getElem!_neg D i (by omega)]
    exact Nat.zero_le _
theorem cloneQO_nil (s : Que) (h : s.nil = true) (hl : s.D.length ≤ 1000000) : PCalls Try.prog 47 [sS (some s.nil) eQ s.D] (sS (some true) eQ []) := by
  have := cloneQ_calls s hl
  rw [show cloneQ s = ⟨true, []⟩ by unfold cloneQ; rw [h]; rfl] at this
  exact this
end Go.Proofs.Ytpeeofofagfooaa
/- Messages sent, doubled, looked at. No conditions. -/
namespace Go.Proofs.Ytpeeofofagfooaa
open Go.Am
def cloneQO (s : (Sl (Sl Int))) : List (Sl Int) :=
  s.D
theorem cloneQO_calls (s : (Sl (Sl Int))) (hn : s.nil = false) (hl1 : s.D.length ≤ 1000000) : OCalls Try.prog 47 [sS (some s.nil) (eSl (eI .u8)) s.D] (.sl 0 0 (cloneQO s).length 1 false) (.cells (encC (eSl (eI .u8)) (cloneQO s))) := by
 generalize hR : cloneQO s = R
 refine OCalls.of_body tabOk Try.func47 rfl rfl rfl rfl rfl (encC_within _ _) mixed fun E hP C hI => ?_
 refine Awp.consP C ?_
 refine rvP C (sS (some true) (eSl (eI .u8)) []) ?_
 refine rvc_nil ?_
 refine Awp.seq ?_
 refine Awp.consP C ?_
 refine rvP C (sS (some s.nil) (eSl (eI .u8)) s.D) ?_
 refine rvc_un (rexec_eqNil C (f := s.nil) rfl rfl rfl rfl ?_)
 refine rvc_nil ?_
 refine Awp.condF (b := s.nil) rfl hn ?_
 refine Awp.skip ?_
 refine Awp.consP C ?_
 refine rvc_un (rexec_prim C (δ := { v := .sl 5 0 0 1 true, new := [(5, .cells (encC (eSl (eI .u8)) []))] }) rfl rfl rfl rfl trivial rfl ?_)
 refine rvP C (sS (some s.nil) (eSl (eI .u8)) s.D) ?_
 refine rvc_un (rexec_append C rfl rfl rfl rfl rfl rfl rfl rfl (fun _ h => by cases h) rfl (en := (eSl (eI .u8))) (D0 := []) (D := s.D) rfl rfl rfl rfl (by first | omega | (simp <;> omega)) (by decide) (nn := s.D.length) (by simp) ?_)
 refine rvP C (.sl 7 0 s.D.length 1 false) ?_
 refine rvc_nil ?_
 refine Awp.weakenR (S := [(2, .sl 0 0 s.D.length 1 false)]) (H := [(0, .cells (encC (eSl (eI .u8)) s.D))]) (U := [0]) (fun x => bif x == 0 then 7 else x) (WeakerR.ofL (Ks := [0]) hI ⟨⟨rfl, rfl⟩, trivial⟩ (okH_list rfl rfl rfl okH_nil) rfl) ?_
 refine Awp.ret ?_
 subst hR
 exact ⟨.inl rfl, rfl, rfl⟩
def nSend (n : Net) (l : Link) (b : (Sl Int)) : Net × Int :=
  (bif (nDead n) then (n, 6) else (bif (!(fitsL l)) then (n, 40) else (bif (decide ((b.D.length : Int) > 8192)) then (n, 4) else (bif (decide (((((mGet kLink l n.of_).getD (Sl.mk true [])).D).length : Int) ≥ 8)) then ((Net.mk n.of_ n.side (IntKind.i64.wrap (n.lost + 1)) n.made), 7) else (bif ((mGet kLink l n.of_).getD (Sl.mk true [])).nil then ((Net.mk (mSet kLink l (Sl.mk false [(cloneBytes b)]) n.of_) n.side n.lost n.made), 0) else ((Net.mk (mSet kLink l (Sl.mk false ((((mGet kLink l n.of_).getD (Sl.mk true [])).D) ++ [(cloneBytes b)])) n.of_) n.side n.lost n.made), 0))))))
theorem nSend_calls (n : Net) (l : Link) (b : (Sl Int)) (hl1 : b.D.length ≤ 1000000) : ObjCalls Try.prog 28 [.ptr 0 0, .agg [.pv (.lit (.int .i64 l.from_)), .pv (.lit (.int .i64 l.to))], sS (some b.nil) (eI .u8) b.D] [.mp 1, .pv (.lit (.int .u64 n.side)), .pv (.lit (.int .i64 n.lost)), .pv (.lit (.bool n.made))] [(1, mapE kLink vT77.enc n.of_)] (.pv (.lit (.int .i64 ((nSend n l b).2)))) [.mp 1, .pv (.lit (.int .u64 ((nSend n l b).1.side))), .pv (.lit (.int .i64 ((nSend n l b).1.lost))), .pv (.lit (.bool ((nSend n l b).1.made)))] [(1, mapE kLink vT77.enc ((nSend n l b).1.of_))] := by
 generalize hR : nSend n l b = R
 refine ObjCalls.of_body tabOk Try.func28 rfl rfl rfl rfl rfl (allB_cons (mapE_within _ _) allB_nil) (of_decide_eq_true rfl) rfl rfl (allB_cons (mapE_within _ _) allB_nil) (of_decide_eq_true rfl) mixed fun E hP C hI => ?_
 refine Awp.consP C ?_
 refine rvc_un (rexec_prim C (δ := { v := .ptr 4 0, new := [(4, .cells [.pv (.lit (.int .i64 l.from_)), .pv (.lit (.int .i64 l.to))])] }) rfl rfl rfl rfl trivial rfl ?_)
 refine rvP C (.pv (.lit (.int .i64 0))) ?_
 refine rvc_nil ?_
 refine Awp.seq ?_
 refine Awp.block ?_
 refine Awp.cons C (fun _ => .writer) (by kernel_rfl) ?_
 refine rvP C (.ptr 0 0) ?_
 refine rvc_un (rexec_callObj hP C (fun b => bif b == 0 then 0 else bif b == 1 then 1 else b) [] rfl rfl rfl (nDead_calls n) rfl rfl ⟨rfl, trivial⟩ (of_decide_eq_true rfl) rfl (of_decide_eq_true rfl) (of_decide_eq_true rfl) allB_nil allB_nil (allB_cons rfl allB_nil) ?_ rfl (allB_cons rfl allB_nil))
 refine rvP C (.pv (.lit (.bool (nDead n)))) ?_
 refine rvc_nil ?_
 refine Awp.cond (b := (nDead n)) rfl (fun h1 => ?_) (fun h1 => ?_)
 ·
  replace hR := of_true h1 hR
  refine Awp.consP C ?_
  refine rvP C (.pv (.lit (.int .i64 6))) ?_
  refine rvc_nil ?_
  refine Awp.ret ?_
  subst hR
  exact ⟨.inl rfl, rfl, rfl, ⟨rfl, trivial⟩⟩
 ·
  replace hR := of_false h1 hR
  refine Awp.consP C ?_
  refine rvP C (.agg [.pv (.lit (.int .i64 l.from_)), .pv (.lit (.int .i64 l.to))]) ?_
  refine rvc_un (rexec_call hP C rfl rfl rfl (fitsL_calls l) ?_)
  refine rvP C (.pv (.lit (.bool (!(fitsL l))))) ?_
  refine rvP C (.pv (.lit (.bool (!(fitsL l))))) ?_
  refine rvc_nil ?_
  refine Awp.cond (b := (!(fitsL l))) rfl (fun h2 => ?_) (fun h2 => ?_)
  ·
   replace hR := of_true h2 hR
   refine Awp.consP C ?_
   refine rvP C (.pv (.lit (.int .i64 40))) ?_
   refine rvc_nil ?_
   refine Awp.ret ?_
   subst hR
   exact ⟨.inl rfl, rfl, rfl, ⟨rfl, trivial⟩⟩
  ·
   replace hR := of_false h2 hR
   refine Awp.consP C ?_
   refine rvP C (sS (some b.nil) (eI .u8) b.D) ?_
   refine rvP C (.pv (.lit (.int .i64 (b.D.length : Int)))) ?_
   refine rvP C (.pv (.lit (.bool (decide ((b.D.length : Int) > 8192))))) ?_
   refine rvP C (.pv (.lit (.bool (decide ((b.D.length : Int) > 8192))))) ?_
   refine rvc_nil ?_
   refine Awp.cond (b := (decide ((b.D.length : Int) > 8192))) rfl (fun h3 => ?_) (fun h3 => ?_)
   ·
    replace hR := of_true h3 hR
    refine Awp.consP C ?_
    refine rvP C (.pv (.lit (.int .i64 4))) ?_
    refine rvc_nil ?_
    refine Awp.ret ?_
    subst hR
    exact ⟨.inl rfl, rfl, rfl, ⟨rfl, trivial⟩⟩
   ·
    replace hR := of_false h3 hR
    refine Awp.consP C ?_
    refine rvP C (.ptr 0 0) ?_
    refine rvP C (.ptr 0 0) ?_
    refine rvP C (.ptr 0 0) ?_
    refine rvP C (.mp 1) ?_
    refine rvP C (.agg [.pv (.lit (.int .i64 l.from_)), .pv (.lit (.int .i64 l.to))]) ?_
    refine rvc_un (rexec_lookup hP C rfl l (Sl.mk true []) rfl rfl rfl rfl rfl rfl kLink_ok rfl (sS (some ((mGet kLink l n.of_).getD (Sl.mk true [])).nil) (eSl (eI .u8)) (((mGet kLink l n.of_).getD (Sl.mk true [])).D)) rfl ?_)
    refine rvP C (.pv (.lit (.int .i64 ((((mGet kLink l n.of_).getD (Sl.mk true [])).D).length : Int)))) ?_
    refine rvP C (.pv (.lit (.bool (decide (((((mGet kLink l n.of_).getD (Sl.mk true [])).D).length : Int) ≥ 8))))) ?_
    refine rvP C (.pv (.lit (.bool (decide (((((mGet kLink l n.of_).getD (Sl.mk true [])).D).length : Int) ≥ 8))))) ?_
    refine rvc_nil ?_
    refine Awp.cond (b := (decide (((((mGet kLink l n.of_).getD (Sl.mk true [])).D).length : Int) ≥ 8))) rfl (fun h4 => ?_) (fun h4 => ?_)
    ·
     replace hR := of_true h4 hR
     refine Awp.consP C ?_
     refine rvP C (.ptr 0 0) ?_
     refine rvP C (.ptr 0 0) ?_
     refine rvP C (.ptr 0 2) ?_
     refine rvP C (.pv (.lit (.int .i64 n.lost))) ?_
     refine rvP C (.pv (.lit (.int .i64 (IntKind.i64.wrap (n.lost + 1))))) ?_
     refine rvP C (.ptr 0 0) ?_
     refine rvP C (.ptr 0 2) ?_
     refine rvc_un (rexec_prim C (δ := { v := .undef, wr := [(0, some (.cells [.mp 1, .pv (.lit (.int .u64 n.side)), .pv (.lit (.int .i64 (IntKind.i64.wrap (n.lost + 1)))), .pv (.lit (.bool n.made))]))] }) rfl rfl rfl rfl trivial rfl ?_)
     refine rvc_nil ?_
     refine Awp.consP C ?_
     refine rvP C (.pv (.lit (.int .i64 7))) ?_
     refine rvc_nil ?_
     refine Awp.ret ?_
     subst hR
     exact ⟨.inl rfl, rfl, rfl, ⟨rfl, trivial⟩⟩
    ·
     replace hR := of_false h4 hR
     refine Awp.skip ?_
     refine Awp.cons C (fun o => match o.dst with | some 37 => .reads [0] | some 42 => .reads [0] | some 38 => .reads [4] | some 43 => .reads [4] | some 44 => .reads [1] | some 45 => .writes [45] | some 48 => .writes [] | some 49 => .writes [45, 49] | none => .writer | _ => .pure) (by kernel_rfl) ?_
     refine rvP C (.ptr 0 0) ?_
     refine rvP C (.ptr 0 0) ?_
     refine rvP C (.ptr 0 0) ?_
     refine rvP C (.mp 1) ?_
     refine rvP C (.agg [.pv (.lit (.int .i64 l.from_)), .pv (.lit (.int .i64 l.to))]) ?_
     refine rvP C (.ptr 0 0) ?_
     refine rvP C (.ptr 0 0) ?_
     refine rvP C (.ptr 0 0) ?_
     refine rvP C (.mp 1) ?_
     refine rvP C (.agg [.pv (.lit (.int .i64 l.from_)), .pv (.lit (.int .i64 l.to))]) ?_
     refine rvc_un (rexec_lookup hP C rfl l (Sl.mk true []) rfl rfl rfl rfl rfl rfl kLink_ok rfl (sS (some ((mGet kLink l n.of_).getD (Sl.mk true [])).nil) (eSl (eI .u8)) (((mGet kLink l n.of_).getD (Sl.mk true [])).D)) rfl ?_)
     rcases Bool.eq_false_or_eq_true (((mGet kLink l n.of_).getD (Sl.mk true [])).nil) with h5 | h5
     ·
      replace hR := of_true h5 hR
      refine rvc_un (rexec_call hP C rfl rfl rfl (cloneQO_nil ((mGet kLink l n.of_).getD (Sl.mk true [])) h5 (by have := of_decide_eq_false h3; have := of_decide_eq_false h4; omega)) ?_)
      refine rvP C (sS (some b.nil) (eI .u8) b.D) ?_
      refine rvc_un (rexec_call hP C rfl rfl rfl (cloneBytes_calls b hl1) ?_)
      refine rvc_un (rexec_buildSliceF C (eSl (eI .u8)) [(cloneBytes b)] rfl rfl rfl rfl rfl rfl rfl (by decide) rfl ?_)
      refine rvc_un (rexec_appendN C rfl rfl rfl rfl rfl rfl rfl rfl (fun _ h => by cases h) rfl (en := (eSl (eI .u8))) (D := [(cloneBytes b)]) rfl rfl (by simp) (by have := of_decide_eq_false h3; have := of_decide_eq_false h4; first | omega | (simp <;> omega)) (by decide) (nn := [(cloneBytes b)].length) rfl ?_)
      refine rvc_un (rexec_mapUpdateO hP C (en := (eSl (eI .u8))) l (Sl.mk false [(cloneBytes b)]) rfl rfl rfl rfl rfl rfl rfl rfl rfl rfl kLink_ok ?_)
      refine rvc_nil ?_
      refine Awp.consP C ?_
      refine rvP C (.pv (.lit (.int .i64 0))) ?_
      refine rvc_nil ?_
      refine Awp.ret ?_
      subst hR
      exact ⟨.inl rfl, rfl, rfl, ⟨rfl, trivial⟩⟩
     ·
      replace hR := of_false h5 hR
      refine rvc_un (rexec_callO hP C rfl rfl rfl rfl (cloneQO_calls ((mGet kLink l n.of_).getD (Sl.mk true [])) h5 (by have := of_decide_eq_false h3; have := of_decide_eq_false h4; omega)) ?_)
      refine rvP C (sS (some b.nil) (eI .u8) b.D) ?_
      refine rvc_un (rexec_call hP C rfl rfl rfl (cloneBytes_calls b hl1) ?_)
      refine rvc_un (rexec_buildSliceF C (eSl (eI .u8)) [(cloneBytes b)] rfl rfl rfl rfl rfl rfl rfl (by decide) rfl ?_)
      refine rvc_un (rexec_append C rfl rfl rfl rfl rfl rfl rfl rfl (fun _ h => by cases h) rfl (en := (eSl (eI .u8))) (D0 := (((mGet kLink l n.of_).getD (Sl.mk true [])).D)) (D := [(cloneBytes b)]) rfl rfl rfl (by first | rfl | simp) (by have := of_decide_eq_false h3; have := of_decide_eq_false h4; first | omega | (simp <;> omega)) (by decide) (nn := ((((mGet kLink l n.of_).getD (Sl.mk true [])).D) ++ [(cloneBytes b)]).length) (by simp) ?_)
      refine rvc_un (rexec_mapUpdateO hP C (en := (eSl (eI .u8))) l (Sl.mk false ((((mGet kLink l n.of_).getD (Sl.mk true [])).D) ++ [(cloneBytes b)])) rfl rfl rfl rfl rfl rfl rfl rfl rfl rfl kLink_ok ?_)
      refine rvc_nil ?_
      refine Awp.consP C ?_
      refine rvP C (.pv (.lit (.int .i64 0))) ?_
      refine rvc_nil ?_
      refine Awp.ret ?_
      subst hR
      exact ⟨.inl rfl, rfl, rfl, ⟨rfl, trivial⟩⟩
def nDouble (n : Net) (l : Link) (i : Int) : Net × Int :=
  (bif ((able n l i) != 0) then (n, (able n l i)) else (bif (decide (((((mGet kLink l n.of_).getD (Sl.mk true [])).D).length : Int) ≥ 8)) then (n, 7) else ((Net.mk (mSet kLink l (Sl.mk false ((((mGet kLink l n.of_).getD (Sl.mk true [])).D) ++ [(((mGet kLink l n.of_).getD (Sl.mk true [])).D)[i.toNat]!])) n.of_) n.side n.lost n.made), 0)))
theorem nDouble_calls (n : Net) (l : Link) (i : Int) (ho : okN n) : ObjCalls Try.prog 33 [.ptr 0 0, .agg [.pv (.lit (.int .i64 l.from_)), .pv (.lit (.int .i64 l.to))], .pv (.lit (.int .i64 i))] [.mp 1, .pv (.lit (.int .u64 n.side)), .pv (.lit (.int .i64 n.lost)), .pv (.lit (.bool n.made))] [(1, mapE kLink vT77.enc n.of_)] (.pv (.lit (.int .i64 ((nDouble n l i).2)))) [.mp 1, .pv (.lit (.int .u64 ((nDouble n l i).1.side))), .pv (.lit (.int .i64 ((nDouble n l i).1.lost))), .pv (.lit (.bool ((nDouble n l i).1.made)))] [(1, mapE kLink vT77.enc ((nDouble n l i).1.of_))] := by
 generalize hR : nDouble n l i = R
 refine ObjCalls.of_body tabOk Try.func33 rfl rfl rfl rfl rfl (allB_cons (mapE_within _ _) allB_nil) (of_decide_eq_true rfl) rfl rfl (allB_cons (mapE_within _ _) allB_nil) (of_decide_eq_true rfl) mixed fun E hP C hI => ?_
 refine Awp.consP C ?_
 refine rvc_un (rexec_prim C (δ := { v := .ptr 4 0, new := [(4, .cells [.pv (.lit (.int .i64 l.from_)), .pv (.lit (.int .i64 l.to))])] }) rfl rfl rfl rfl trivial rfl ?_)
 refine rvP C (.pv (.lit (.int .i64 0))) ?_
 refine rvc_nil ?_
 refine Awp.seq ?_
 refine Awp.cons C (fun _ => .writer) (by kernel_rfl) ?_
 refine rvP C (.ptr 0 0) ?_
 refine rvP C (.agg [.pv (.lit (.int .i64 l.from_)), .pv (.lit (.int .i64 l.to))]) ?_
 refine rvP C (.pv (.lit (.int .i64 i))) ?_
 refine rvc_un (rexec_callObj hP C (fun b => bif b == 0 then 0 else bif b == 1 then 1 else b) [] rfl rfl rfl (able_calls n l i) rfl rfl ⟨rfl, trivial⟩ (of_decide_eq_true rfl) rfl (of_decide_eq_true rfl) (of_decide_eq_true rfl) allB_nil allB_nil (allB_cons rfl allB_nil) ?_ rfl (allB_cons rfl allB_nil))
 refine rvP C (.pv (.lit (.int .i64 (able n l i)))) ?_
 refine rvc_nil ?_
 refine Awp.consP C ?_
 refine rvP C (.pv (.lit (.int .i64 (able n l i)))) ?_
 refine rvP C (.pv (.lit (.bool ((able n l i) != 0)))) ?_
 refine rvc_nil ?_
 refine Awp.cond (b := ((able n l i) != 0)) rfl (fun h1 => ?_) (fun h1 => ?_)
 ·
  replace hR := of_true h1 hR
  refine Awp.consP C ?_
  refine rvP C (.pv (.lit (.int .i64 (able n l i)))) ?_
  refine rvP C (.pv (.lit (.int .i64 (able n l i)))) ?_
  refine rvc_nil ?_
  refine Awp.ret ?_
  subst hR
  exact ⟨.inl rfl, rfl, rfl, ⟨rfl, trivial⟩⟩
 ·
  replace hR := of_false h1 hR
  refine Awp.skip ?_
  refine Awp.seq ?_
  refine Awp.consP C ?_
  refine rvP C (.ptr 0 0) ?_
  refine rvP C (.ptr 0 0) ?_
  refine rvP C (.ptr 0 0) ?_
  refine rvP C (.mp 1) ?_
  refine rvP C (.agg [.pv (.lit (.int .i64 l.from_)), .pv (.lit (.int .i64 l.to))]) ?_
  refine rvc_un (rexec_lookup hP C rfl l (Sl.mk true []) rfl rfl rfl rfl rfl rfl kLink_ok rfl (sS (some ((mGet kLink l n.of_).getD (Sl.mk true [])).nil) (eSl (eI .u8)) (((mGet kLink l n.of_).getD (Sl.mk true [])).D)) rfl ?_)
  refine rvP C (.pv (.lit (.int .i64 ((((mGet kLink l n.of_).getD (Sl.mk true [])).D).length : Int)))) ?_
  refine rvP C (.pv (.lit (.bool (decide (((((mGet kLink l n.of_).getD (Sl.mk true [])).D).length : Int) ≥ 8))))) ?_
  refine rvc_nil ?_
  refine Awp.cond (b := (decide (((((mGet kLink l n.of_).getD (Sl.mk true [])).D).length : Int) ≥ 8))) rfl (fun h2 => ?_) (fun h2 => ?_)
  ·
   replace hR := of_true h2 hR
   refine Awp.consP C ?_
   refine rvP C (.pv (.lit (.int .i64 7))) ?_
   refine rvc_nil ?_
   refine Awp.ret ?_
   subst hR
   exact ⟨.inl rfl, rfl, rfl, ⟨rfl, trivial⟩⟩
  ·
   replace hR := of_false h2 hR
   refine Awp.skip ?_
   refine Awp.cons C (fun o => match o.dst with | some 26 => .reads [0] | some 31 => .reads [0] | some 38 => .reads [0] | some 27 => .reads [4] | some 32 => .reads [4] | some 39 => .reads [4] | some 33 => .reads [1] | some 40 => .reads [1] | some 43 => .reads [] | some 34 => .writes [34] | some 44 => .writes [] | some 45 => .writes [34, 45] | none => .writer | _ => .pure) (by kernel_rfl) ?_
   refine rvP C (.ptr 0 0) ?_
   refine rvP C (.ptr 0 0) ?_
   refine rvP C (.ptr 0 0) ?_
   refine rvP C (.mp 1) ?_
   refine rvP C (.agg [.pv (.lit (.int .i64 l.from_)), .pv (.lit (.int .i64 l.to))]) ?_
   refine rvP C (.ptr 0 0) ?_
   refine rvP C (.ptr 0 0) ?_
   refine rvP C (.ptr 0 0) ?_
   refine rvP C (.mp 1) ?_
   refine rvP C (.agg [.pv (.lit (.int .i64 l.from_)), .pv (.lit (.int .i64 l.to))]) ?_
   refine rvc_un (rexec_lookup hP C rfl l (Sl.mk true []) rfl rfl rfl rfl rfl rfl kLink_ok rfl (sS (some ((mGet kLink l n.of_).getD (Sl.mk true [])).nil) (eSl (eI .u8)) (((mGet kLink l n.of_).getD (Sl.mk true [])).D)) rfl ?_)
   refine rvc_un (rexec_callO hP C rfl rfl rfl rfl (cloneQO_calls ((mGet kLink l n.of_).getD (Sl.mk true [])) (able_q ho (by assumption)).2 (by have := eq_of_bne_false h1; have := of_decide_eq_false h2; omega)) ?_)
   refine rvP C (.ptr 0 0) ?_
   refine rvP C (.ptr 0 0) ?_
   refine rvP C (.ptr 0 0) ?_
   refine rvP C (.mp 1) ?_
   refine rvP C (.agg [.pv (.lit (.int .i64 l.from_)), .pv (.lit (.int .i64 l.to))]) ?_
   refine rvc_un (rexec_lookup hP C rfl l (Sl.mk true []) rfl rfl rfl rfl rfl rfl kLink_ok rfl (sS (some ((mGet kLink l n.of_).getD (Sl.mk true [])).nil) (eSl (eI .u8)) (((mGet kLink l n.of_).getD (Sl.mk true [])).D)) rfl ?_)
   refine rvP C (.pv (.lit (.int .i64 i))) ?_
   have hq_ := (able_q ho (by assumption)).1
   have h3 : (((mGet kLink l n.of_).getD (Sl.mk true [])).D)[i.toNat]? = some (((mGet kLink l n.of_).getD (Sl.mk true [])).D)[i.toNat]! := getE (by omega)
   refine rvc_un (rexec_idxS C rfl rfl rfl rfl rfl rfl ((((mGet kLink l n.of_).getD (Sl.mk true [])).D)[i.toNat]!) (by have := eq_of_bne_false h1; have := of_decide_eq_false h2; omega) h3 ?_)
   refine rvP C (sS (some (((mGet kLink l n.of_).getD (Sl.mk true [])).D)[i.toNat]!.nil) (eI .u8) ((((mGet kLink l n.of_).getD (Sl.mk true [])).D)[i.toNat]!.D)) ?_
   refine rvc_un (rexec_buildSliceF C (eSl (eI .u8)) [(((mGet kLink l n.of_).getD (Sl.mk true [])).D)[i.toNat]!] rfl rfl rfl rfl rfl rfl rfl (by decide) rfl ?_)
   refine rvc_un (rexec_append C rfl rfl rfl rfl rfl rfl rfl rfl (fun _ h => by cases h) rfl (en := (eSl (eI .u8))) (D0 := (((mGet kLink l n.of_).getD (Sl.mk true [])).D)) (D := [(((mGet kLink l n.of_).getD (Sl.mk true [])).D)[i.toNat]!]) rfl rfl rfl (by first | rfl | simp) (by have := eq_of_bne_false h1; have := of_decide_eq_false h2; first | omega | (simp <;> omega)) (by decide) (nn := ((((mGet kLink l n.of_).getD (Sl.mk true [])).D) ++ [(((mGet kLink l n.of_).getD (Sl.mk true [])).D)[i.toNat]!]).length) (by simp) ?_)
   refine rvc_un (rexec_mapUpdateO hP C (en := (eSl (eI .u8))) l (Sl.mk false ((((mGet kLink l n.of_).getD (Sl.mk true [])).D) ++ [(((mGet kLink l n.of_).getD (Sl.mk true [])).D)[i.toNat]!])) rfl rfl rfl rfl rfl rfl rfl rfl rfl rfl kLink_ok ?_)
   refine rvc_nil ?_
   refine Awp.consP C ?_
   refine rvP C (.pv (.lit (.int .i64 0))) ?_
   refine rvc_nil ?_
   refine Awp.ret ?_
   subst hR
   exact ⟨.inl rfl, rfl, rfl, ⟨rfl, trivial⟩⟩
def nPeek (n : Net) (l : Link) (i : Int) : (Sl Int) × Int :=
  (bif ((able n l i) != 0) then ((Sl.mk true []), (able n l i)) else ((cloneBytes ((((mGet kLink l n.of_).getD (Sl.mk true [])).D)[i.toNat]!)), 0))
theorem nPeek_calls (n : Net) (l : Link) (i : Int) (ho : okN n) : ObjCalls Try.prog 14 [.ptr 0 0, .agg [.pv (.lit (.int .i64 l.from_)), .pv (.lit (.int .i64 l.to))], .pv (.lit (.int .i64 i))] [.mp 1, .pv (.lit (.int .u64 n.side)), .pv (.lit (.int .i64 n.lost)), .pv (.lit (.bool n.made))] [(1, mapE kLink vT77.enc n.of_)] (.tup [sS (some (nPeek n l i).1.nil) (eI .u8) ((nPeek n l i).1.D), .pv (.lit (.int .i64 ((nPeek n l i).2)))]) [.mp 1, .pv (.lit (.int .u64 n.side)), .pv (.lit (.int .i64 n.lost)), .pv (.lit (.bool n.made))] [(1, mapE kLink vT77.enc n.of_)] := by
 generalize hR : nPeek n l i = R
 refine ObjCalls.of_body tabOk Try.func14 rfl rfl rfl rfl rfl (allB_cons (mapE_within _ _) allB_nil) (of_decide_eq_true rfl) rfl rfl (allB_cons (mapE_within _ _) allB_nil) (of_decide_eq_true rfl) mixed fun E hP C hI => ?_
 refine Awp.consP C ?_
 refine rvc_un (rexec_prim C (δ := { v := .ptr 4 0, new := [(4, .cells [.pv (.lit (.int .i64 l.from_)), .pv (.lit (.int .i64 l.to))])] }) rfl rfl rfl rfl trivial rfl ?_)
 refine rvP C (sS (some true) (eI .u8) []) ?_
 refine rvP C (.pv (.lit (.int .i64 0))) ?_
 refine rvc_nil ?_
 refine Awp.seq ?_
 refine Awp.cons C (fun _ => .writer) (by kernel_rfl) ?_
 refine rvP C (.ptr 0 0) ?_
 refine rvP C (.agg [.pv (.lit (.int .i64 l.from_)), .pv (.lit (.int .i64 l.to))]) ?_
 refine rvP C (.pv (.lit (.int .i64 i))) ?_
 refine rvc_un (rexec_callObj hP C (fun b => bif b == 0 then 0 else bif b == 1 then 1 else b) [] rfl rfl rfl (able_calls n l i) rfl rfl ⟨rfl, trivial⟩ (of_decide_eq_true rfl) rfl (of_decide_eq_true rfl) (of_decide_eq_true rfl) allB_nil allB_nil (allB_cons rfl allB_nil) ?_ rfl (allB_cons rfl allB_nil))
 refine rvP C (.pv (.lit (.int .i64 (able n l i)))) ?_
 refine rvc_nil ?_
 refine Awp.consP C ?_
 refine rvP C (.pv (.lit (.int .i64 (able n l i)))) ?_
 refine rvP C (.pv (.lit (.bool ((able n l i) != 0)))) ?_
 refine rvc_nil ?_
 refine Awp.cond (b := ((able n l i) != 0)) rfl (fun h1 => ?_) (fun h1 => ?_)
 ·
  replace hR := of_true h1 hR
  refine Awp.consP C ?_
  refine rvP C (.pv (.lit (.int .i64 (able n l i)))) ?_
  refine rvP C (sS (some true) (eI .u8) []) ?_
  refine rvP C (.pv (.lit (.int .i64 (able n l i)))) ?_
  refine rvc_nil ?_
  refine Awp.ret ?_
  subst hR
  exact ⟨.inl rfl, rfl, rfl, ⟨rfl, trivial⟩⟩
 ·
  replace hR := of_false h1 hR
  refine Awp.skip ?_
  refine Awp.consP C ?_
  refine rvP C (.ptr 0 0) ?_
  refine rvP C (.ptr 0 0) ?_
  refine rvP C (.ptr 0 0) ?_
  refine rvP C (.mp 1) ?_
  refine rvP C (.agg [.pv (.lit (.int .i64 l.from_)), .pv (.lit (.int .i64 l.to))]) ?_
  refine rvc_un (rexec_lookup hP C rfl l (Sl.mk true []) rfl rfl rfl rfl rfl rfl kLink_ok rfl (sS (some ((mGet kLink l n.of_).getD (Sl.mk true [])).nil) (eSl (eI .u8)) (((mGet kLink l n.of_).getD (Sl.mk true [])).D)) rfl ?_)
  refine rvP C (.pv (.lit (.int .i64 i))) ?_
  have hq_ := (able_q ho (by assumption)).1
  have h2 : (((mGet kLink l n.of_).getD (Sl.mk true [])).D)[i.toNat]? = some (((mGet kLink l n.of_).getD (Sl.mk true [])).D)[i.toNat]! := getE (by have := eq_of_bne_false h1; omega)
  refine rvc_un (rexec_idxS C rfl rfl rfl rfl rfl rfl ((((mGet kLink l n.of_).getD (Sl.mk true [])).D)[i.toNat]!) (by have := eq_of_bne_false h1; omega) h2 ?_)
  refine rvP C (sS (some (((mGet kLink l n.of_).getD (Sl.mk true [])).D)[i.toNat]!.nil) (eI .u8) ((((mGet kLink l n.of_).getD (Sl.mk true [])).D)[i.toNat]!.D)) ?_
  refine rvc_un (rexec_call hP C rfl rfl rfl (cloneBytes_calls ((((mGet kLink l n.of_).getD (Sl.mk true [])).D)[i.toNat]!) (Nat.le_trans (okN.msg ho l _) (by decide))) ?_)
  refine rvP C (sS (some (cloneBytes ((((mGet kLink l n.of_).getD (Sl.mk true [])).D)[i.toNat]!)).nil) (eI .u8) ((cloneBytes ((((mGet kLink l n.of_).getD (Sl.mk true [])).D)[i.toNat]!)).D)) ?_
  refine rvP C (.pv (.lit (.int .i64 0))) ?_
  refine rvc_nil ?_
  refine Awp.ret ?_
  subst hR
  exact ⟨.inl rfl, rfl, rfl, ⟨rfl, trivial⟩⟩
end Go.Proofs.Ytpeeofofagfooaa
/- Messages taken out. No conditions. -/
namespace Go.Proofs.Ytpeeofofagfooaa
open Go.Am
def nCut (n : Net) (l : Link) (i : Int) : Net × (Sl Int) :=
  (bif (((List.eraseIdx (((mGet kLink l n.of_).getD (Sl.mk true [])).D) (i).toNat).length : Int) == 0) then ((Net.mk (mDel kLink l n.of_) n.side n.lost n.made), (((mGet kLink l n.of_).getD (Sl.mk true [])).D)[i.toNat]!) else ((Net.mk (mSet kLink l (Sl.mk false (List.eraseIdx (((mGet kLink l n.of_).getD (Sl.mk true [])).D) (i).toNat)) n.of_) n.side n.lost n.made), (((mGet kLink l n.of_).getD (Sl.mk true [])).D)[i.toNat]!))
theorem nCut_calls (n : Net) (l : Link) (i : Int) (ho : okN n) (hi : 0 ≤ i ∧ i < ((((mGet kLink l n.of_).getD (Sl.mk true [])).D).length : Int)) (hn : ((mGet kLink l n.of_).getD (Sl.mk true [])).nil = false) : ObjCalls Try.prog 48 [.ptr 0 0, .agg [.pv (.lit (.int .i64 l.from_)), .pv (.lit (.int .i64 l.to))], .pv (.lit (.int .i64 i))] [.mp 1, .pv (.lit (.int .u64 n.side)), .pv (.lit (.int .i64 n.lost)), .pv (.lit (.bool n.made))] [(1, mapE kLink vT77.enc n.of_)] (sS (some (nCut n l i).2.nil) (eI .u8) ((nCut n l i).2.D)) [.mp 1, .pv (.lit (.int .u64 ((nCut n l i).1.side))), .pv (.lit (.int .i64 ((nCut n l i).1.lost))), .pv (.lit (.bool ((nCut n l i).1.made)))] [(1, mapE kLink vT77.enc ((nCut n l i).1.of_))] := by
 generalize hR : nCut n l i = R
 refine ObjCalls.of_body tabOk Try.func48 rfl rfl rfl rfl rfl (allB_cons (mapE_within _ _) allB_nil) (of_decide_eq_true rfl) rfl rfl (allB_cons (mapE_within _ _) allB_nil) (of_decide_eq_true rfl) mixed fun E hP C hI => ?_
 refine Awp.consP C ?_
 refine rvc_un (rexec_prim C (δ := { v := .ptr 4 0, new := [(4, .cells [.pv (.lit (.int .i64 l.from_)), .pv (.lit (.int .i64 l.to))])] }) rfl rfl rfl rfl trivial rfl ?_)
 refine rvP C (sS (some true) (eI .u8) []) ?_
 refine rvc_nil ?_
 refine Awp.consP C ?_
 refine rvP C (.ptr 0 0) ?_
 refine rvP C (.ptr 0 0) ?_
 refine rvP C (.ptr 0 0) ?_
 refine rvP C (.mp 1) ?_
 refine rvP C (.agg [.pv (.lit (.int .i64 l.from_)), .pv (.lit (.int .i64 l.to))]) ?_
 refine rvc_un (rexec_lookup hP C rfl l (Sl.mk true []) rfl rfl rfl rfl rfl rfl kLink_ok rfl (sS (some ((mGet kLink l n.of_).getD (Sl.mk true [])).nil) (eSl (eI .u8)) (((mGet kLink l n.of_).getD (Sl.mk true [])).D)) rfl ?_)
 refine rvP C (sS (some ((mGet kLink l n.of_).getD (Sl.mk true [])).nil) (eSl (eI .u8)) (((mGet kLink l n.of_).getD (Sl.mk true [])).D)) ?_
 refine rvc_nil ?_
 refine Awp.consP C ?_
 refine rvP C (sS (some ((mGet kLink l n.of_).getD (Sl.mk true [])).nil) (eSl (eI .u8)) (((mGet kLink l n.of_).getD (Sl.mk true [])).D)) ?_
 refine rvP C (.pv (.lit (.int .i64 i))) ?_
 have h1 : (((mGet kLink l n.of_).getD (Sl.mk true [])).D)[i.toNat]? = some (((mGet kLink l n.of_).getD (Sl.mk true [])).D)[i.toNat]! := getE (by omega)
 refine rvc_un (rexec_idxS C rfl rfl rfl rfl rfl rfl ((((mGet kLink l n.of_).getD (Sl.mk true [])).D)[i.toNat]!) (by omega) h1 ?_)
 refine rvP C (sS (some (((mGet kLink l n.of_).getD (Sl.mk true [])).D)[i.toNat]!.nil) (eI .u8) ((((mGet kLink l n.of_).getD (Sl.mk true [])).D)[i.toNat]!.D)) ?_
 refine rvP C (sS (some (((mGet kLink l n.of_).getD (Sl.mk true [])).D)[i.toNat]!.nil) (eI .u8) ((((mGet kLink l n.of_).getD (Sl.mk true [])).D)[i.toNat]!.D)) ?_
 refine rvc_nil ?_
 refine Awp.seq ?_
 refine Awp.cons C (fun _ => .writer) (by kernel_rfl) ?_
 refine rvP C (sS (some ((mGet kLink l n.of_).getD (Sl.mk true [])).nil) (eSl (eI .u8)) (((mGet kLink l n.of_).getD (Sl.mk true [])).D)) ?_
 have hql_ := (ho.q l).2.1
 unfold qOf at hql_
 refine rvc_un (rexec_callO hP C rfl rfl rfl rfl (cloneQO_calls ((mGet kLink l n.of_).getD (Sl.mk true [])) hn (by omega)) ?_)
 refine rvP C (.pv (.lit (.int .i64 i))) ?_
 refine rvP C (.pv (.lit (.int .i64 i))) ?_
 refine rvP C (.pv (.lit (.int .i64 (IntKind.i64.wrap (i + 1))))) ?_
 refine rvc_un (rexec_callX hP C (b := 20) rfl rfl rfl (delQ_calls (((mGet kLink l n.of_).getD (Sl.mk true [])).D) i (IntKind.i64.wrap (i + 1)) hi (wrap_i64 (by omega) (by have := (ho.q l).2.1; unfold qOf at this; omega)) (by have := (ho.q l).2.1; unfold qOf at this; omega)) rfl rfl ?_)
 refine rvP C (sS (some false) (eSl (eI .u8)) (List.eraseIdx (((mGet kLink l n.of_).getD (Sl.mk true [])).D) (i).toNat)) ?_
 refine rvc_nil ?_
 refine Awp.consP C ?_
 refine rvP C (sS (some false) (eSl (eI .u8)) (List.eraseIdx (((mGet kLink l n.of_).getD (Sl.mk true [])).D) (i).toNat)) ?_
 refine rvP C (.pv (.lit (.int .i64 ((List.eraseIdx (((mGet kLink l n.of_).getD (Sl.mk true [])).D) (i).toNat).length : Int)))) ?_
 refine rvP C (.pv (.lit (.bool (((List.eraseIdx (((mGet kLink l n.of_).getD (Sl.mk true [])).D) (i).toNat).length : Int) == 0)))) ?_
 refine rvc_nil ?_
 refine Awp.cond (b := (((List.eraseIdx (((mGet kLink l n.of_).getD (Sl.mk true [])).D) (i).toNat).length : Int) == 0)) rfl (fun h2 => ?_) (fun h2 => ?_)
 ·
  replace hR := of_true h2 hR
  refine Awp.regionP C ?_
  refine rvP C (.ptr 0 0) ?_
  refine rvP C (.ptr 0 0) ?_
  refine rvP C (.ptr 0 0) ?_
  refine rvP C (.mp 1) ?_
  refine rvP C (.agg [.pv (.lit (.int .i64 l.from_)), .pv (.lit (.int .i64 l.to))]) ?_
  refine rvc_un (rexec_delete hP C rfl rfl rfl l rfl rfl rfl rfl kLink_ok ?_)
  refine rvc_nil ?_
  refine Awp.consP C ?_
  refine rvP C (sS (some (((mGet kLink l n.of_).getD (Sl.mk true [])).D)[i.toNat]!.nil) (eI .u8) ((((mGet kLink l n.of_).getD (Sl.mk true [])).D)[i.toNat]!.D)) ?_
  refine rvP C (sS (some (((mGet kLink l n.of_).getD (Sl.mk true [])).D)[i.toNat]!.nil) (eI .u8) ((((mGet kLink l n.of_).getD (Sl.mk true [])).D)[i.toNat]!.D)) ?_
  refine rvc_nil ?_
  refine Awp.ret ?_
  subst hR
  exact ⟨.inl rfl, rfl, rfl, ⟨rfl, trivial⟩⟩
 ·
  replace hR := of_false h2 hR
  refine Awp.regionP C ?_
  refine rvP C (.ptr 0 0) ?_
  refine rvP C (.ptr 0 0) ?_
  refine rvP C (.ptr 0 0) ?_
  refine rvP C (.mp 1) ?_
  refine rvP C (.agg [.pv (.lit (.int .i64 l.from_)), .pv (.lit (.int .i64 l.to))]) ?_
  refine rvP C (sS (some false) (eSl (eI .u8)) (List.eraseIdx (((mGet kLink l n.of_).getD (Sl.mk true [])).D) (i).toNat)) ?_
  refine rvc_un (rexec_mapUpdate hP C l (Sl.mk false (List.eraseIdx (((mGet kLink l n.of_).getD (Sl.mk true [])).D) (i).toNat)) rfl rfl rfl rfl rfl rfl kLink_ok ?_)
  refine rvc_nil ?_
  refine Awp.consP C ?_
  refine rvP C (sS (some (((mGet kLink l n.of_).getD (Sl.mk true [])).D)[i.toNat]!.nil) (eI .u8) ((((mGet kLink l n.of_).getD (Sl.mk true [])).D)[i.toNat]!.D)) ?_
  refine rvP C (sS (some (((mGet kLink l n.of_).getD (Sl.mk true [])).D)[i.toNat]!.nil) (eI .u8) ((((mGet kLink l n.of_).getD (Sl.mk true [])).D)[i.toNat]!.D)) ?_
  refine rvc_nil ?_
  refine Awp.ret ?_
  subst hR
  exact ⟨.inl rfl, rfl, rfl, ⟨rfl, trivial⟩⟩
end Go.Proofs.Ytpeeofofagfooaa
/- An abstract machine over the kit's calls, part 55: maps told whole and iterators at a loop's head; what is left of a map. No conditions. -/
namespace Go.Am
section
variable {f : Nat → Option Blk} {τ : Nat → Nat} {U Ks : List Nat} {H : List (Nat × Blk)} {κ β : Type} {KE : KEnc κ} {VE : VEnc β}
theorem mapX_ren (X : List ((κ × β) × Nat)) (q : Nat) (σ : Nat → Nat) : (mapX KE VE.enc X q).ren σ = mapX KE VE.enc X q := by
  simp only [mapX, Blk.ren, List.map_map]
  congr 1
  exact List.map_congr_left fun e _ => by simp only [Function.comp_apply, ren_rigid _ (KE.rig _), AV.ren_none _ (VE.pure _ _)]
theorem okH_mapx {c : Nat} {X X' : List ((κ × β) × Nat)} {q : Nat} (he : X' = X) (h1 : f (τ c) = some (mapX KE VE.enc X' q)) (h2 : Ks.contains c = true) (h3 : U.contains c = true) (h : okH f τ U Ks H) : okH f τ U Ks ((c, mapX KE VE.enc X q) :: H) :=
  okH_cons (by rw [h1, mapX_ren, he]) h2 h3 (mapX_within _ _ _) h
theorem okH_iter {c b s : Nat} {l : List Nat} {q : Nat} (h1 : f (τ c) = some (.iter (τ b) s l q)) (h2 : Ks.contains c = true) (h3 : U.contains c = true) (h4 : U.contains b = true) (h : okH f τ U Ks H) : okH f τ U Ks ((c, .iter b s l q) :: H) :=
  okH_cons (by rw [h1]; rfl) h2 h3 (by simp only [Blk.within]; exact h4) h
end
section
variable {κ β : Type} {KE : KEnc κ}
theorem nodup_inj {α γ : Type} {f : α → γ} : ∀ {l : List α}, (l.map f).Nodup → ∀ {a b : α}, a ∈ l → b ∈ l → f a = f b → a = b
  | [], _, _, _, ha, _, _ => by cases ha
  | x :: l, h, a, b, ha, hb, e => by
    rw [List.map_cons, List.nodup_cons] at h
    rcases List.mem_cons.1 ha with h1 | h1 <;> rcases List.mem_cons.1 hb with h2 | h2
    · rw [h1, h2]
    · exact (h.1 (List.mem_map.2 ⟨b, h2, by rw [← e, h1]⟩)).elim
    · exact (h.1 (List.mem_map.2 ⟨a, h1, by rw [e, h2]⟩)).elim
    · exact nodup_inj h.2 h1 h2 e
/-- Taking out a key that is there takes out its entry. -/
theorem xDel_filter : ∀ {X : List ((κ × β) × Nat)} {e : (κ × β) × Nat}, mOnce KE (X.map (·.1)) → (X.map (·.2)).Nodup → e ∈ X → xDel KE e.1.1 X = X.filter fun x => !(x.2 == e.2)
  | [], _, _, _, he => by cases he
  | x :: X, e, ho, hn, he => by
    have ho' := mOnce_iff.1 ho
    rw [List.map_cons, List.nodup_cons] at hn
    rw [List.map_cons, List.nodup_cons] at ho'
    unfold xDel
    by_cases hx : x = e
    · subst hx
      rw [if_pos ((KE.spec _ _).2 rfl), List.filter_cons_of_neg (by simp)]
      refine (List.filter_eq_self.2 fun y hy => ?_).symm
      have : y.2 ≠ x.2 := fun h => hn.1 (List.mem_map.2 ⟨y, hy, h⟩)
      simpa using this
    · have hm : e ∈ X := by
        rcases List.mem_cons.1 he with h | h
        · exact absurd h.symm hx
        · exact h
      have hk : ¬ KE.eq e.1.1 x.1.1 = true := fun h => ho'.1 (List.mem_map.2 ⟨e, hm, (KE.spec _ _).1 h⟩)
      have hb : x.2 ≠ e.2 := fun h => hn.1 (List.mem_map.2 ⟨e, hm, h.symm⟩)
      rw [if_neg hk, List.filter_cons_of_pos (by simpa using hb), xDel_filter (mOnce_iff.2 ho'.2) hn.2 hm]
/-- What a map holds when of those that were met only those stay that are to be kept. -/
def leftX (keep : κ → Bool) (s : List Nat) (X : List ((κ × β) × Nat)) : List ((κ × β) × Nat) := X.filter fun e => !s.contains e.2 || keep e.1.1
theorem leftX_sub {keep : κ → Bool} {s : List Nat} {X : List ((κ × β) × Nat)} : (leftX keep s X).Sublist X := List.filter_sublist
theorem leftX_nil {keep : κ → Bool} {X : List ((κ × β) × Nat)} : leftX keep [] X = X := List.filter_eq_self.2 fun _ _ => rfl
theorem leftX_all {keep : κ → Bool} {s : List Nat} {X : List ((κ × β) × Nat)} (h : ∀ e ∈ leftX keep s X, e.2 ∈ s) : leftX keep s X = X.filter fun e => keep e.1.1 := by
  unfold leftX at h ⊢
  refine List.filter_congr fun e he => ?_
  cases hs : s.contains e.2
  · have := h e (List.mem_filter.2 ⟨he, by rw [hs]; rfl⟩)
    rw [List.contains_eq_mem, decide_eq_false_iff_not] at hs
    exact absurd this hs
  · rfl
theorem leftX_keep {keep : κ → Bool} {s : List Nat} {X : List ((κ × β) × Nat)} {e : (κ × β) × Nat} (hn : (X.map (·.2)).Nodup) (he : e ∈ X) (hk : keep e.1.1 = true) : leftX keep (s ++ [e.2]) X = leftX keep s X := by
  unfold leftX
  refine List.filter_congr fun x hx => ?_
  by_cases h : x.2 = e.2
  · have := nodup_inj hn hx he h
    subst this
    rw [hk, Bool.or_true, Bool.or_true]
  · simp [h]
theorem leftX_drop {keep : κ → Bool} {s : List Nat} {X : List ((κ × β) × Nat)} {e : (κ × β) × Nat} (ho : mOnce KE (X.map (·.1))) (hn : (X.map (·.2)).Nodup) (he : e ∈ X) (hs : e.2 ∉ s) (hk : keep e.1.1 = false) : xDel KE e.1.1 (leftX keep s X) = leftX keep (s ++ [e.2]) X := by
  have hm : e ∈ leftX keep s X := List.mem_filter.2 ⟨he, by simp [hs]⟩
  have ho' : mOnce KE ((leftX keep s X).map (·.1)) := by
    have h1 := mOnce_iff.1 ho
    exact mOnce_iff.2 (((leftX_sub).map _).nodup h1)
  rw [xDel_filter ho' ((leftX_sub.map _).nodup hn) hm]
  unfold leftX
  rw [List.filter_filter]
  refine List.filter_congr fun x hx => ?_
  by_cases h : x.2 = e.2
  · have := nodup_inj hn hx he h
    subst this
    simp [hk]
  · simp [h]
/-- How many are still to come. -/
def restX (s : List Nat) (X : List ((κ × β) × Nat)) : Nat := (X.filter fun e => !s.contains e.2).length
theorem restX_lt {s : List Nat} {X : List ((κ × β) × Nat)} {e : (κ × β) × Nat} (he : e ∈ X) (hs : e.2 ∉ s) : restX (s ++ [e.2]) X < restX s X := by
  unfold restX
  have e1 : (X.filter fun y => !(s ++ [e.2]).contains y.2) = (X.filter fun y => !s.contains y.2).filter fun y => !(y.2 == e.2) := by
    rw [List.filter_filter]
    refine List.filter_congr fun y _ => ?_
    by_cases h1 : y.2 = e.2 <;> by_cases h2 : y.2 ∈ s <;> simp [h1, h2]
  rw [e1, List.length_filter_lt_length_iff_exists]
  exact ⟨e, List.mem_filter.2 ⟨he, by simp [hs]⟩, by simp⟩
end
end Go.Am
/- What a net holds stays as it may be. No conditions. -/
namespace Go.Proofs.Ytpeeofofagfooaa
open Go.Am
theorem mSet_all {κ β : Type} {KE : KEnc κ} {P : β → Prop} {k : κ} {x : β} (hx : P x) : ∀ {D : List (κ × β)}, (∀ e ∈ D, P e.2) → ∀ e ∈ mSet KE k x D, P e.2
  | [], _, e, he => by simp only [mSet, List.mem_singleton] at he; rw [he]; exact hx
  | y :: D, h, e, he => by
    unfold mSet at he
    split at he
    · rcases List.mem_cons.1 he with rfl | he
      · exact hx
      · exact h e (List.mem_cons_of_mem _ he)
    · rcases List.mem_cons.1 he with rfl | he
      · exact h _ (List.mem_cons_self ..)
      · exact mSet_all hx (fun e he => h e (List.mem_cons_of_mem _ he)) e he
theorem okN.set {n : Net} (h : okN n) (l : Link) {q : Que} (hq : okQ q) (s o : Int) (m : Bool) : okN (Net.mk (mSet kLink l q n.of_) s o m) := ⟨mSet_once h.1, mSet_all hq h.2⟩
theorem okN.del {n : Net} (h : okN n) (l : Link) (s o : Int) (m : Bool) : okN (Net.mk (mDel kLink l n.of_) s o m) := ⟨mDel_once h.1, fun e he => h.2 e ((mDel_sub _).subset he)⟩
theorem okN.same {n : Net} (h : okN n) (s o : Int) (m : Bool) : okN (Net.mk n.of_ s o m) := h
theorem okB_clone {b : Sl Int} (h : b.D.length ≤ 8192) : okB (cloneBytes b) := by
  unfold cloneBytes
  cases b.nil
  · exact ⟨fun h => (by cases h), h⟩
  · exact ⟨fun _ => rfl, Nat.zero_le _⟩
theorem okQ_more {q : Que} (h : okQ q) (hl : q.D.length < 8) {x : Sl Int} (hx : okB x) : okQ (Sl.mk false (q.D ++ [x])) :=
  ⟨fun h => (by cases h), by show (q.D ++ [x]).length ≤ 8; rw [List.length_append, List.length_singleton]; omega, fun y hy => by
    rcases List.mem_append.1 hy with hy | hy
    · exact h.2.2 y hy
    · rw [List.mem_singleton.1 hy]; exact hx⟩
theorem send_ok {n : Net} (h : okN n) (l : Link) (b : Sl Int) : okN (nSend n l b).1 := by
  have hq := h.q l
  unfold nSend
  cases h1 : nDead n
  case true => exact h
  rw [cond_false]
  cases h2 : !(fitsL l)
  case true => exact h
  rw [cond_false]
  cases h3 : decide ((b.D.length : Int) > 8192)
  case true => exact h
  have h3 := of_decide_eq_false h3
  rw [cond_false]
  cases h4 : decide (((((mGet kLink l n.of_).getD (Sl.mk true [])).D).length : Int) ≥ 8)
  case true => exact h
  have h4 := of_decide_eq_false h4
  have hb : okB (cloneBytes b) := okB_clone (by omega)
  rw [cond_false]
  cases h5 : ((mGet kLink l n.of_).getD (Sl.mk true [])).nil
  · exact h.set l (okQ_more hq (by unfold qOf; omega) hb) _ _ _
  · exact h.set l ⟨fun h => (by cases h), Nat.le_of_ble_eq_true rfl, fun x hx => by rw [List.mem_singleton.1 hx]; exact hb⟩ _ _ _
theorem double_ok {n : Net} (h : okN n) (l : Link) (i : Int) : okN (nDouble n l i).1 := by
  have hq := h.q l
  unfold nDouble
  cases h1 : able n l i != 0
  case true => exact h
  rw [cond_false]
  have ha := able_q h h1
  cases h4 : decide (((((mGet kLink l n.of_).getD (Sl.mk true [])).D).length : Int) ≥ 8)
  case true => exact h
  have h4 := of_decide_eq_false h4
  rw [cond_false]
  refine h.set l (okQ_more hq (by unfold qOf; omega) (hq.2.2 _ ?_)) _ _ _
  unfold qOf
  rw [getElem!_pos _ i.toNat (by omega)]
  exact List.getElem_mem _
theorem cut_ok {n : Net} (h : okN n) (l : Link) (i : Int) : okN (nCut n l i).1 := by
  have hq := h.q l
  unfold nCut
  cases h1 : ((List.eraseIdx (((mGet kLink l n.of_).getD (Sl.mk true [])).D) (i).toNat).length : Int) == 0
  · exact h.set l ⟨fun h => (by cases h), Nat.le_trans (List.length_eraseIdx_le _ _) hq.2.1, fun x hx => hq.2.2 x ((List.eraseIdx_sublist _ _).subset hx)⟩ _ _ _
  · exact h.del l _ _ _
theorem cut_len {n : Net} (h : okN n) (l : Link) (i : Int) : (nCut n l i).2.D.length ≤ 1000000 := by
  unfold nCut
  cases ((List.eraseIdx (((mGet kLink l n.of_).getD (Sl.mk true [])).D) (i).toNat).length : Int) == 0
  · exact Nat.le_trans (h.msg l _) (by decide)
  · exact Nat.le_trans (h.msg l _) (by decide)
def keepF (place : Int) (l : Link) : Bool := !(l.from_ == place || l.to == place)
def nForget (n : Net) (place : Int) : Net × Int := bif nDead n then (n, 6) else (Net.mk (n.of_.filter fun e => keepF place e.1) n.side n.lost n.made, 0)
theorem forget_ok {n : Net} (h : okN n) (p : Int) : okN (nForget n p).1 := by
  unfold nForget
  cases nDead n
  · exact ⟨List.Sublist.nodup ((List.filter_sublist).map _) h.1, fun e he => h.2 e (List.mem_filter.1 he).1⟩
  · exact h
theorem perm_filter {α γ : Type} {D : List α} {X : List (α × γ)} (h : D.Perm (X.map (·.1))) (p : α → Bool) : (D.filter p).Perm ((X.filter fun e => p e.1).map (·.1)) := by
  have := h.filter p
  rwa [List.filter_map] at this
theorem nForget_calls (n : Net) (place : Int) : ObjCalls Try.prog 34 [.ptr 0 0, .pv (.lit (.int .i64 place))] [.mp 1, .pv (.lit (.int .u64 n.side)), .pv (.lit (.int .i64 n.lost)), .pv (.lit (.bool n.made))] [(1, mapE kLink vT77.enc n.of_)] (.pv (.lit (.int .i64 ((nForget n place).2)))) [.mp 1, .pv (.lit (.int .u64 ((nForget n place).1.side))), .pv (.lit (.int .i64 ((nForget n place).1.lost))), .pv (.lit (.bool ((nForget n place).1.made)))] [(1, mapE kLink vT77.enc ((nForget n place).1.of_))] := by
 generalize hR : nForget n place = R
 refine ObjCalls.of_body tabOk Try.func34 rfl rfl rfl rfl rfl (allB_cons (mapE_within _ _) allB_nil) (of_decide_eq_true rfl) rfl rfl (allB_cons (mapE_within _ _) allB_nil) (of_decide_eq_true rfl) mixed fun E hP C hI => ?_
 refine Awp.consP C ?_
 refine rvc_prim C rfl rfl rfl rfl trivial rfl ?_
 refine rvc_nil ?_
 refine Awp.seq ?_
 refine Awp.cons C (fun _ => .writer) (by kernel_rfl) ?_
 refine rvc_prim C rfl rfl rfl rfl trivial rfl ?_
 refine rvc_un (rexec_callObj hP C (fun b => bif b == 0 then 0 else bif b == 1 then 1 else b) [] rfl rfl rfl (nDead_calls n) rfl rfl ⟨rfl, trivial⟩ (of_decide_eq_true rfl) rfl (of_decide_eq_true rfl) (of_decide_eq_true rfl) allB_nil allB_nil (allB_cons rfl allB_nil) ?_ rfl (allB_cons rfl allB_nil))
 refine rvc_nil ?_
 unfold nForget at hR
 refine Awp.cond (b := (nDead n)) rfl (fun h1 => ?_) (fun h1 => ?_)
 ·
  replace hR := of_true h1 hR
  refine Awp.consP C ?_
  refine rvc_prim C rfl rfl rfl rfl trivial rfl ?_
  refine rvc_nil ?_
  refine Awp.ret ?_
  subst hR
  exact ⟨.inl rfl, rfl, rfl, ⟨rfl, trivial⟩⟩
 ·
  replace hR := of_false h1 hR
  refine Awp.skip ?_
  refine Awp.openMap (KE := kLink) (VE := vT77) (b := 1) (D := n.of_) rfl (fun X q hp ho hn hl => ?_)
  refine Awp.seq ?_
  refine Awp.cons C (fun _ => .quiet) (by kernel_rfl) ?_
  refine rvc_prim C rfl rfl rfl rfl trivial rfl ?_
  refine rvc_prim C rfl rfl rfl rfl trivial rfl ?_
  refine rvc_prim C rfl rfl rfl rfl trivial rfl ?_
  refine rvc_prim C rfl rfl rfl rfl trivial rfl ?_
  refine rvc_un (rexec_rangeX (KE := kLink) (VE := vT77) (b := 1) (X := X) (q := q) C rfl rfl rfl rfl rfl rfl ?_)
  refine rvc_nil ?_
  refine Awp.block ?_
  refine Awp.forM (σ := List Nat) (fun _ => [(0, .ptr 0 0), (1, .pv (.lit (.int .i64 place))), (12, .ptr 12 0)]) (fun s => [(0, .cells [.mp 1, .pv (.lit (.int .u64 n.side)), .pv (.lit (.int .i64 n.lost)), .pv (.lit (.bool n.made))]), (1, mapX kLink vT77.enc (leftX (keepF place) s X) q), (12, .iter 1 q s q)]) [0, 1, 12] (fun m s => m = restX s X) (restX [] X) [] rfl
   ⟨fun b => b, WeakerR.ofLI (Ks := [0, 1, 12]) hI ⟨⟨rfl, rfl⟩, ⟨rfl, rfl⟩, ⟨rfl, rfl⟩, trivial⟩ (okH_cons rfl rfl rfl rfl (okH_mapx leftX_nil.symm rfl rfl rfl (okH_iter rfl rfl rfl rfl okH_nil))) rfl rfl⟩ (fun m s hm => ?_)
  subst hm
  refine Awp.seq ?_
  refine Awp.next (KE := kLink) (ve := vT77.enc) C (fun _ => .writer) (X := leftX (keepF place) s X) rfl rfl rfl rfl (fun e he => hl e (leftX_sub.subset he)) (Nat.le_refl _) (fun hall => ?_) (fun e he hs => ?_)
  ·
   refine rvc_prim C rfl rfl rfl rfl trivial rfl ?_
   refine rvc_nil ?_
   refine Awp.seq ?_
   refine Awp.condF (b := false) rfl rfl ?_
   refine Awp.exit ?_
   refine Awp.closeMap (KE := kLink) (VE := vT77) (b := 1) (X := leftX (keepF place) s X) rfl (n.of_.filter fun e => keepF place e.1) (by rw [leftX_all hall]; exact perm_filter hp _) ?_
   refine Awp.consP C ?_
   refine rvc_prim C rfl rfl rfl rfl trivial rfl ?_
   refine rvc_nil ?_
   refine Awp.ret ?_
   subst hR
   exact ⟨.inl rfl, rfl, rfl, ⟨rfl, trivial⟩⟩
  ·
   refine rvc_prim C rfl rfl rfl rfl trivial rfl ?_
   refine rvc_nil ?_
   refine Awp.seq ?_
   refine Awp.condT (b := true) rfl rfl ?_
   refine Awp.skip ?_
   refine Awp.block ?_
   refine Awp.cons C (fun _ => .quiet) (by kernel_rfl) ?_
   refine rvc_un (rexec_entryX (KE := kLink) (VE := vT77) C rfl e he rfl rfl rfl ?_)
   refine rvc_prim C rfl rfl rfl rfl trivial rfl ?_
   refine rvc_prim C rfl rfl rfl rfl trivial rfl ?_
   refine rvc_prim C rfl rfl rfl rfl trivial rfl ?_
   refine rvc_nil ?_
   refine Awp.consP C ?_
   refine rvc_prim C rfl rfl rfl rfl trivial rfl ?_
   refine rvc_prim C rfl rfl rfl rfl trivial rfl ?_
   refine rvc_prim C rfl rfl rfl rfl trivial rfl ?_
   refine rvc_prim C rfl rfl rfl rfl trivial rfl ?_
   refine rvc_prim C rfl rfl rfl rfl trivial rfl ?_
   refine rvc_case 21 (e.1.1.from_ == place) rfl (fun h2 => ?_) (fun h2 => ?_)
   ·
    refine rvS ?_
    refine rvS ?_
    refine rvS ?_
    refine rvS ?_
    refine rvc_prim C rfl rfl rfl rfl trivial rfl ?_
    refine rvc_nil ?_
    refine Awp.condT (b := true) rfl rfl ?_
    refine Awp.region C (fun o => match o.dst with | some 30 => .reads [0] | some 31 => .reads [5] | none => .writer | _ => .pure) (by kernel_rfl) ?_
    refine rvc_prim C rfl rfl rfl rfl trivial rfl ?_
    refine rvc_prim C rfl rfl rfl rfl trivial rfl ?_
    refine rvc_prim C rfl rfl rfl rfl trivial rfl ?_
    refine rvc_prim C rfl rfl rfl rfl trivial rfl ?_
    refine rvc_prim C rfl rfl rfl rfl trivial rfl ?_
    refine rvc_un (rexec_deleteX (KE := kLink) (VE := vT77) hP C rfl rfl rfl e.1.1 rfl rfl rfl rfl kLink_ok ?_)
    refine rvc_nil ?_
    exact ⟨_, s ++ [e.2], restX_lt (leftX_sub.subset he) hs, rfl, fun b => b, WeakerR.ofLI (Ks := [0, 1, 12]) hI ⟨⟨rfl, rfl⟩, ⟨rfl, rfl⟩, ⟨rfl, rfl⟩, trivial⟩ (okH_cons rfl rfl rfl rfl (okH_mapx (leftX_drop ho hn (leftX_sub.subset he) hs (by unfold keepF; rw [h2]; rfl)) rfl rfl rfl (okH_iter rfl rfl rfl rfl okH_nil))) rfl rfl⟩
   ·
    refine rvc_open rfl rfl rfl (rexec_prim C rfl rfl rfl rfl trivial rfl ?_)
    refine rvc_open rfl rfl rfl (rexec_prim C rfl rfl rfl rfl trivial rfl ?_)
    refine rvc_open rfl rfl rfl (rexec_prim C rfl rfl rfl rfl trivial rfl ?_)
    refine rvc_open rfl rfl rfl (rexec_prim C rfl rfl rfl rfl trivial rfl ?_)
    refine rvc_prim C rfl rfl rfl rfl trivial rfl ?_
    refine rvc_nil ?_
    refine Awp.cond (b := (e.1.1.to == place)) rfl (fun h3 => ?_) (fun h3 => ?_)
    ·
     refine Awp.region C (fun o => match o.dst with | some 30 => .reads [0] | some 31 => .reads [5] | none => .writer | _ => .pure) (by kernel_rfl) ?_
     refine rvc_prim C rfl rfl rfl rfl trivial rfl ?_
     refine rvc_prim C rfl rfl rfl rfl trivial rfl ?_
     refine rvc_prim C rfl rfl rfl rfl trivial rfl ?_
     refine rvc_prim C rfl rfl rfl rfl trivial rfl ?_
     refine rvc_prim C rfl rfl rfl rfl trivial rfl ?_
     refine rvc_un (rexec_deleteX (KE := kLink) (VE := vT77) hP C rfl rfl rfl e.1.1 rfl rfl rfl rfl kLink_ok ?_)
     refine rvc_nil ?_
     exact ⟨_, s ++ [e.2], restX_lt (leftX_sub.subset he) hs, rfl, fun b => b, WeakerR.ofLI (Ks := [0, 1, 12]) hI ⟨⟨rfl, rfl⟩, ⟨rfl, rfl⟩, ⟨rfl, rfl⟩, trivial⟩ (okH_cons rfl rfl rfl rfl (okH_mapx (leftX_drop ho hn (leftX_sub.subset he) hs (by unfold keepF; rw [h2, h3]; rfl)) rfl rfl rfl (okH_iter rfl rfl rfl rfl okH_nil))) rfl rfl⟩
    ·
     refine Awp.skip ?_
     exact ⟨_, s ++ [e.2], restX_lt (leftX_sub.subset he) hs, rfl, fun b => b, WeakerR.ofLI (Ks := [0, 1, 12]) hI ⟨⟨rfl, rfl⟩, ⟨rfl, rfl⟩, ⟨rfl, rfl⟩, trivial⟩ (okH_cons rfl rfl rfl rfl (okH_mapx (leftX_keep hn (leftX_sub.subset he) (by unfold keepF; rw [h2, h3]; rfl)).symm rfl rfl rfl (okH_iter rfl rfl rfl rfl okH_nil))) rfl rfl⟩
end Go.Proofs.Ytpeeofofagfooaa
/- Messages taken, lost. No conditions. -/
namespace Go.Proofs.Ytpeeofofagfooaa
open Go.Am
def nTake (n : Net) (l : Link) (i : Int) : Net × (Sl Int) × Bool × Int :=
  (bif ((able n l i) != 0) then (n, (Sl.mk true []), false, (able n l i)) else (bif (!((mHas ((nCut n l i).1.side) l.from_) == (mHas ((nCut n l i).1.side) l.to))) then ((nCut n l i).1, (Sl.mk true []), false, 0) else ((nCut n l i).1, (cloneBytes ((nCut n l i).2)), true, 0)))
theorem nTake_calls (n : Net) (l : Link) (i : Int) (ho : okN n) : ObjCalls Try.prog 29 [.ptr 0 0, .agg [.pv (.lit (.int .i64 l.from_)), .pv (.lit (.int .i64 l.to))], .pv (.lit (.int .i64 i))] [.mp 1, .pv (.lit (.int .u64 n.side)), .pv (.lit (.int .i64 n.lost)), .pv (.lit (.bool n.made))] [(1, mapE kLink vT77.enc n.of_)] (.tup [sS (some (nTake n l i).2.1.nil) (eI .u8) ((nTake n l i).2.1.D), .pv (.lit (.bool ((nTake n l i).2.2.1))), .pv (.lit (.int .i64 ((nTake n l i).2.2.2)))]) [.mp 1, .pv (.lit (.int .u64 ((nTake n l i).1.side))), .pv (.lit (.int .i64 ((nTake n l i).1.lost))), .pv (.lit (.bool ((nTake n l i).1.made)))] [(1, mapE kLink vT77.enc ((nTake n l i).1.of_))] := by
 generalize hR : nTake n l i = R
 refine ObjCalls.of_body tabOk Try.func29 rfl rfl rfl rfl rfl (allB_cons (mapE_within _ _) allB_nil) (of_decide_eq_true rfl) rfl rfl (allB_cons (mapE_within _ _) allB_nil) (of_decide_eq_true rfl) mixed fun E hP C hI => ?_
 refine Awp.consP C ?_
 refine rvc_un (rexec_prim C (δ := { v := .ptr 4 0, new := [(4, .cells [.pv (.lit (.int .i64 l.from_)), .pv (.lit (.int .i64 l.to))])] }) rfl rfl rfl rfl trivial rfl ?_)
 refine rvP C (sS (some true) (eI .u8) []) ?_
 refine rvP C (.pv (.lit (.bool false))) ?_
 refine rvP C (.pv (.lit (.int .i64 0))) ?_
 refine rvc_nil ?_
 refine Awp.seq ?_
 refine Awp.cons C (fun _ => .writer) (by kernel_rfl) ?_
 refine rvP C (.ptr 0 0) ?_
 refine rvP C (.agg [.pv (.lit (.int .i64 l.from_)), .pv (.lit (.int .i64 l.to))]) ?_
 refine rvP C (.pv (.lit (.int .i64 i))) ?_
 refine rvc_un (rexec_callObj hP C (fun b => bif b == 0 then 0 else bif b == 1 then 1 else b) [] rfl rfl rfl (able_calls n l i) rfl rfl ⟨rfl, trivial⟩ (of_decide_eq_true rfl) rfl (of_decide_eq_true rfl) (of_decide_eq_true rfl) allB_nil allB_nil (allB_cons rfl allB_nil) ?_ rfl (allB_cons rfl allB_nil))
 refine rvP C (.pv (.lit (.int .i64 (able n l i)))) ?_
 refine rvc_nil ?_
 refine Awp.consP C ?_
 refine rvP C (.pv (.lit (.int .i64 (able n l i)))) ?_
 refine rvP C (.pv (.lit (.bool ((able n l i) != 0)))) ?_
 refine rvc_nil ?_
 refine Awp.cond (b := ((able n l i) != 0)) rfl (fun h1 => ?_) (fun h1 => ?_)
 ·
  replace hR := of_true h1 hR
  refine Awp.consP C ?_
  refine rvP C (.pv (.lit (.int .i64 (able n l i)))) ?_
  refine rvP C (sS (some true) (eI .u8) []) ?_
  refine rvP C (.pv (.lit (.bool false))) ?_
  refine rvP C (.pv (.lit (.int .i64 (able n l i)))) ?_
  refine rvc_nil ?_
  refine Awp.ret ?_
  subst hR
  exact ⟨.inl rfl, rfl, rfl, ⟨rfl, trivial⟩⟩
 ·
  replace hR := of_false h1 hR
  refine Awp.skip ?_
  refine Awp.cons C (fun _ => .writer) (by kernel_rfl) ?_
  refine rvP C (.ptr 0 0) ?_
  refine rvP C (.agg [.pv (.lit (.int .i64 l.from_)), .pv (.lit (.int .i64 l.to))]) ?_
  refine rvP C (.pv (.lit (.int .i64 i))) ?_
  refine rvc_un (rexec_callObj hP C (fun b => bif b == 0 then 0 else bif b == 1 then 1 else b) [] rfl rfl rfl (nCut_calls n l i ho (able_q ho (by assumption)).1 (able_q ho (by assumption)).2) rfl rfl ⟨rfl, trivial⟩ (of_decide_eq_true rfl) rfl (of_decide_eq_true rfl) (of_decide_eq_true rfl) allB_nil allB_nil (allB_cons rfl allB_nil) ?_ rfl (allB_cons rfl allB_nil))
  refine rvP C (sS (some (nCut n l i).2.nil) (eI .u8) ((nCut n l i).2.D)) ?_
  refine rvc_nil ?_
  refine Awp.seq ?_
  refine Awp.consP C ?_
  refine rvP C (.ptr 0 0) ?_
  refine rvP C (.ptr 0 0) ?_
  refine rvP C (.ptr 0 1) ?_
  refine rvP C (.pv (.lit (.int .u64 ((nCut n l i).1.side)))) ?_
  refine rvP C (.ptr 4 0) ?_
  refine rvP C (.pv (.lit (.int .i64 l.from_))) ?_
  refine rvc_un (rexec_call hP C rfl rfl rfl (mHas_calls ((nCut n l i).1.side) l.from_) ?_)
  refine rvP C (.ptr 0 0) ?_
  refine rvP C (.ptr 0 0) ?_
  refine rvP C (.ptr 0 1) ?_
  refine rvP C (.pv (.lit (.int .u64 ((nCut n l i).1.side)))) ?_
  refine rvP C (.ptr 4 1) ?_
  refine rvP C (.pv (.lit (.int .i64 l.to))) ?_
  refine rvc_un (rexec_call hP C rfl rfl rfl (mHas_calls ((nCut n l i).1.side) l.to) ?_)
  refine rvP C (.pv (.lit (.bool (!((mHas ((nCut n l i).1.side) l.from_) == (mHas ((nCut n l i).1.side) l.to)))))) ?_
  refine rvc_nil ?_
  refine Awp.cond (b := (!((mHas ((nCut n l i).1.side) l.from_) == (mHas ((nCut n l i).1.side) l.to)))) rfl (fun h2 => ?_) (fun h2 => ?_)
  ·
   replace hR := of_true h2 hR
   refine Awp.consP C ?_
   refine rvP C (sS (some true) (eI .u8) []) ?_
   refine rvP C (.pv (.lit (.bool false))) ?_
   refine rvP C (.pv (.lit (.int .i64 0))) ?_
   refine rvc_nil ?_
   refine Awp.ret ?_
   subst hR
   exact ⟨.inl rfl, rfl, rfl, ⟨rfl, trivial⟩⟩
  ·
   replace hR := of_false h2 hR
   refine Awp.skip ?_
   refine Awp.consP C ?_
   refine rvP C (sS (some (nCut n l i).2.nil) (eI .u8) ((nCut n l i).2.D)) ?_
   refine rvc_un (rexec_call hP C rfl rfl rfl (cloneBytes_calls ((nCut n l i).2) (cut_len ho l i)) ?_)
   refine rvP C (sS (some (cloneBytes ((nCut n l i).2)).nil) (eI .u8) ((cloneBytes ((nCut n l i).2)).D)) ?_
   refine rvP C (.pv (.lit (.bool true))) ?_
   refine rvP C (.pv (.lit (.int .i64 0))) ?_
   refine rvc_nil ?_
   refine Awp.ret ?_
   subst hR
   exact ⟨.inl rfl, rfl, rfl, ⟨rfl, trivial⟩⟩
def nLose (n : Net) (l : Link) (i : Int) : Net × Int :=
  (bif ((able n l i) != 0) then (n, (able n l i)) else ((nCut n l i).1, 0))
theorem nLose_calls (n : Net) (l : Link) (i : Int) (ho : okN n) : ObjCalls Try.prog 32 [.ptr 0 0, .agg [.pv (.lit (.int .i64 l.from_)), .pv (.lit (.int .i64 l.to))], .pv (.lit (.int .i64 i))] [.mp 1, .pv (.lit (.int .u64 n.side)), .pv (.lit (.int .i64 n.lost)), .pv (.lit (.bool n.made))] [(1, mapE kLink vT77.enc n.of_)] (.pv (.lit (.int .i64 ((nLose n l i).2)))) [.mp 1, .pv (.lit (.int .u64 ((nLose n l i).1.side))), .pv (.lit (.int .i64 ((nLose n l i).1.lost))), .pv (.lit (.bool ((nLose n l i).1.made)))] [(1, mapE kLink vT77.enc ((nLose n l i).1.of_))] := by
 generalize hR : nLose n l i = R
 refine ObjCalls.of_body tabOk Try.func32 rfl rfl rfl rfl rfl (allB_cons (mapE_within _ _) allB_nil) (of_decide_eq_true rfl) rfl rfl (allB_cons (mapE_within _ _) allB_nil) (of_decide_eq_true rfl) mixed fun E hP C hI => ?_
 refine Awp.consP C ?_
 refine rvc_un (rexec_prim C (δ := { v := .ptr 4 0, new := [(4, .cells [.pv (.lit (.int .i64 l.from_)), .pv (.lit (.int .i64 l.to))])] }) rfl rfl rfl rfl trivial rfl ?_)
 refine rvP C (.pv (.lit (.int .i64 0))) ?_
 refine rvc_nil ?_
 refine Awp.seq ?_
 refine Awp.cons C (fun _ => .writer) (by kernel_rfl) ?_
 refine rvP C (.ptr 0 0) ?_
 refine rvP C (.agg [.pv (.lit (.int .i64 l.from_)), .pv (.lit (.int .i64 l.to))]) ?_
 refine rvP C (.pv (.lit (.int .i64 i))) ?_
 refine rvc_un (rexec_callObj hP C (fun b => bif b == 0 then 0 else bif b == 1 then 1 else b) [] rfl rfl rfl (able_calls n l i) rfl rfl ⟨rfl, trivial⟩ (of_decide_eq_true rfl) rfl (of_decide_eq_true rfl) (of_decide_eq_true rfl) allB_nil allB_nil (allB_cons rfl allB_nil) ?_ rfl (allB_cons rfl allB_nil))
 refine rvP C (.pv (.lit (.int .i64 (able n l i)))) ?_
 refine rvc_nil ?_
 refine Awp.consP C ?_
 refine rvP C (.pv (.lit (.int .i64 (able n l i)))) ?_
 refine rvP C (.pv (.lit (.bool ((able n l i) != 0)))) ?_
 refine rvc_nil ?_
 refine Awp.cond (b := ((able n l i) != 0)) rfl (fun h1 => ?_) (fun h1 => ?_)
 ·
  replace hR := of_true h1 hR
  refine Awp.consP C ?_
  refine rvP C (.pv (.lit (.int .i64 (able n l i)))) ?_
  refine rvP C (.pv (.lit (.int .i64 (able n l i)))) ?_
  refine rvc_nil ?_
  refine Awp.ret ?_
  subst hR
  exact ⟨.inl rfl, rfl, rfl, ⟨rfl, trivial⟩⟩
 ·
  replace hR := of_false h1 hR
  refine Awp.skip ?_
  refine Awp.cons C (fun _ => .writer) (by kernel_rfl) ?_
  refine rvP C (.ptr 0 0) ?_
  refine rvP C (.agg [.pv (.lit (.int .i64 l.from_)), .pv (.lit (.int .i64 l.to))]) ?_
  refine rvP C (.pv (.lit (.int .i64 i))) ?_
  refine rvc_un (rexec_callObj hP C (fun b => bif b == 0 then 0 else bif b == 1 then 1 else b) [] rfl rfl rfl (nCut_calls n l i ho (able_q ho (by assumption)).1 (able_q ho (by assumption)).2) rfl rfl ⟨rfl, trivial⟩ (of_decide_eq_true rfl) rfl (of_decide_eq_true rfl) (of_decide_eq_true rfl) allB_nil allB_nil (allB_cons rfl allB_nil) ?_ rfl (allB_cons rfl allB_nil))
  refine rvc_nil ?_
  refine Awp.consP C ?_
  refine rvP C (.pv (.lit (.int .i64 0))) ?_
  refine rvc_nil ?_
  refine Awp.ret ?_
  subst hR
  exact ⟨.inl rfl, rfl, rfl, ⟨rfl, trivial⟩⟩
end Go.Proofs.Ytpeeofofagfooaa
/- An abstract machine over the kit's calls, part 56: a call that makes an object with a map of its own. No conditions. -/
namespace Go.Am
section
variable {E : Env} {T : Tab} {n : Nat} {cq : Oper → Cls}
/-- A call, handed no block of one's own, that makes an object (block 0) and a block of no names (block 1) that the object names. -/
structure NewCalls (P : Program) (f : FuncId) (avs : List AV) (av : AV) (cs : List AV) (k : Blk) : Prop where
  fn : ∃ fn, P.funcs[f]? = some fn ∧ (fn.name == "runtime.NumGoroutine") = false ∧ fn.body.isNone = false
  args : AV.withinL (fun _ => false) avs = true
  res : av.within (fun b => b == 0) = true
  obj : AV.withinL (fun b => b == 1) cs = true
  blk : k.within (fun _ => false) = true
  calls : ACalls P f [] avs [] av [(0, .cells cs), (1, k)]
theorem NewCalls.of_body {P : Program} {T : Tab} (hT : TabOk P T) {f : FuncId} {fn : Func} {body : Code} (hf : P.funcs[f]? = some fn) (hb : fn.body = some body) (hn : (fn.name == "runtime.NumGoroutine") = false) {avs cs : List AV} {av : AV} {k : Blk} (hl : decide (avs.length ≤ fn.ntmps) = true) (ha : AV.withinL (fun _ => false) avs = true) (hr : av.within (fun b => b == 0) = true) (ho : AV.withinL (fun b => b == 1) cs = true) (hk : k.within (fun _ => false) = true) (hm : P.follows .mixedOrders = true)
    (h : ∀ E : Env, E.P = P → Cx E T fn.ntmps → E.I = [] → Awp E body (entry avs [] []) fun e st => (e = .ret ∨ e = .normal) ∧ resAV T st fn.results.toList = some av ∧ st.H 0 = some (.cells cs) ∧ st.H 1 = some k) : NewCalls P f avs av cs k where
  fn := ⟨fn, hf, hn, by simp [hb]⟩
  args := ha
  res := hr
  obj := ho
  blk := hk
  calls := ACalls.of_body hT hf hb (by simpa using hl) fun E hP hE hI => (h E hP ⟨hP ▸ hT, hE, hP ▸ hm⟩ hI).mono fun e st ⟨h1, h2, h3, h4⟩ => ⟨h1, h2, fun x hx => by
    rcases List.mem_cons.1 hx with rfl | hx
    · exact h3
    · rw [List.mem_singleton.1 hx]; exact h4⟩
def two (d d2 : Nat) : Nat → Nat := fun b => bif b == 0 then d else d2
theorem rexec_callNew {P : Program} (hP : E.P = P) (C : Cx E T n) {f : FuncId} {avs cs : List AV} {av : AV} {k : Blk} {d : Nat} (d2 : Nat) {c : Call} {ty : TypeId} {pos : String} {af : Array Edge} {g : Option (Nat × Bool)} {st : St} {K : St → Prop} (h1 : dstB n ⟨some d, .call c, ty, pos, af, g⟩ = true) (hU : st.U d = false) (hU2 : st.U d2 = false) (hne : (d == d2) = false) (hc : c.callee = .value (.func f)) (hv : evls st.S c.args.toList = some avs)
    (F : NewCalls P f avs av cs k) (h7 : K (st.after (some d) { v := av.ren (two d d2), new := [(d, .cells (AV.renL (two d d2) cs)), (d2, k)] })) (hcl : clsOf cq ⟨some d, .call c, ty, pos, af, g⟩ ≠ .pure := by decide) (hft : footB (clsOf cq ⟨some d, .call c, ty, pos, af, g⟩) [] { v := av.ren (two d d2), new := [(d, .cells (AV.renL (two d d2) cs)), (d2, k)] } = true := by rfl) : rexec E cq n ⟨some d, .call c, ty, pos, af, g⟩ st K := by
  subst hP
  obtain ⟨fn, q1, q2, q3⟩ := F.fn
  have hd : ∀ x, some d = some x → x < E.n := dst_lt C h1
  have hnd : d ≠ d2 := by simpa using hne
  let N : Names := ⟨fun b => b, [(d, 0), (d2, 1)]⟩
  have kn : ∀ b, Names.knows N [] b = (b == 0 || b == 1) := fun b => by
    simp [N, Names.knows, inI, BEq.comm]
  have kn' : Names.knows N [] = fun b => (b == 0 || b == 1) := funext kn
  have m0 : ∀ b, (fun b : Nat => b == 0) b = true → (b == 0 || b == 1) = true := fun b h => by dsimp only at h; rw [h]; rfl
  have m1 : ∀ b, (fun b : Nat => b == 1) b = true → (b == 0 || b == 1) = true := fun b h => by dsimp only at h; rw [h, Bool.or_true]
  have ok : CallOk N [] avs [] [(0, .cells cs), (1, k)] av := by
    refine { args := F.args, ids := fun x hx => (by cases hx), blks := fun x hx => (by cases hx), nodup := by simp, inj := fun b c hb => (by cases hb), nodupL := by simp [N, hnd], nodupR := by simp [N], fresh := fun x _ => rfl, res := ?_, res' := ?_, kept := fun x _ hx => (by cases hx), all := ?_, used := fun b hb => (by cases hb) }
    · rw [kn']; exact AV.within_mono m0 av F.res
    · intro x hx
      rw [kn']
      rcases List.mem_cons.1 hx with rfl | hx
      · exact ⟨rfl, AV.withinL_mono m1 cs F.obj⟩
      · rw [List.mem_singleton.1 hx]
        exact ⟨rfl, Blk.within_mono (fun b hb => by cases hb) k F.blk⟩
    · intro x hx
      simp only [N, List.mem_cons, List.not_mem_nil, or_false] at hx
      rcases hx with rfl | rfl <;> rfl
  have hdo := does_call (E := E) (o := ⟨some d, .call c, ty, pos, af, g⟩) (c := c) rfl hc hd q1 q2 q3 F.calls ok (args := avs) (caps := []) (by rw [AV.renL_none avs F.args]; simp)
  have hτ0 : Names.τ N [] 0 = d := by simp [N, Names.τ, inI]
  have hτ1 : Names.τ N [] 1 = d2 := by simp [N, Names.τ, inI]
  have hav : av.ren (Names.τ N []) = av.ren (two d d2) := by
    refine AV.ren_congr (U := fun b => b == 0) (fun b hb => ?_) av F.res
    have : b = 0 := by simpa using hb
    subst this; exact hτ0
  have hcs : AV.renL (Names.τ N []) cs = AV.renL (two d d2) cs := by
    refine AV.renL_congr (U := fun b => b == 1) (fun b hb => ?_) cs F.obj
    have : b = 1 := by simpa using hb
    subst this; exact hτ1
  have he : Names.delta N [] [] [(0, .cells cs), (1, k)] av = { v := av.ren (two d d2), new := [(d, .cells (AV.renL (two d d2) cs)), (d2, k)] } := by
    simp only [Names.delta, List.map_nil, hav, N, List.map_cons]
    have e0 : (heapOf [(0, Blk.cells cs), (1, k)] 0).getD (.cells []) = .cells cs := rfl
    have e1 : (heapOf [(0, Blk.cells cs), (1, k)] 1).getD (.cells []) = k := rfl
    rw [e0, e1, Blk.ren_none F.blk]
    simp only [Blk.ren]
    rw [show AV.renL (Names.τ ⟨fun b => b, [(d, 0), (d2, 1)]⟩ []) cs = AV.renL (two d d2) cs from hcs]
  rw [he] at hdo
  have hops : (Op.operands (.call c)).toList = .func f :: c.args.toList := by simp [Op.operands, Call.operands, hc]
  refine ⟨h1, .fn f [] [] :: avs, [], _, { vals := ?_, deps := fun x hx => (by cases hx), fresh := ?_, does := hdo, reach := rfl, inV := ?_, inN := ?_, inW := fun x hx => (by cases hx), wr := fun x hx => (by cases hx), pure := fun h => absurd h hcl, quiet := fun _ => rfl, foot := hft }, h7⟩
  · show evls st.S (Op.operands (.call c)).toList = _
    rw [hops]; simp only [evls, evl, hv]
  · intro x hx
    rcases List.mem_cons.1 hx with rfl | hx
    · exact hU
    · rw [List.mem_singleton.1 hx]; exact hU2
  · refine AV.within_ren (U := fun b => b == 0) (fun b hb => ?_) av F.res
    have : b = 0 := by simpa using hb
    subst this
    simp [two]
  · intro x hx
    rcases List.mem_cons.1 hx with rfl | hx
    · refine AV.withinL_ren (U := fun b => b == 1) (fun b hb => ?_) cs F.obj
      have : b = 1 := by simpa using hb
      subst this
      have h2 : (d2 == d) = false := by simpa using Ne.symm hnd
      simp [two, List.lookup, h2]
    · rw [List.mem_singleton.1 hx]
      exact Blk.within_mono (fun b hb => by cases hb) k F.blk
end
end Go.Am
/- A net with nothing on its way. No conditions. -/
namespace Go.Proofs.Ytpeeofofagfooaa
open Go.Am
theorem lose_ok {n : Net} (h : okN n) (l : Link) (i : Int) : okN (nLose n l i).1 := by
  unfold nLose
  cases h1 : able n l i != 0
  · exact cut_ok h l i
  · exact h
theorem take_ok {n : Net} (h : okN n) (l : Link) (i : Int) : okN (nTake n l i).1 := by
  unfold nTake
  cases h1 : able n l i != 0
  · rw [cond_false]
    cases !((mHas ((nCut n l i).1.side) l.from_) == (mHas ((nCut n l i).1.side) l.to))
    · exact cut_ok h l i
    · exact cut_ok h l i
  · exact h
theorem wall_ok {n : Net} (h : okN n) (s : Int) : okN (nWall n s).1 := by
  unfold nWall
  cases nDead n
  · exact h
  · exact h
def newN : Net := ⟨[], 0, 0, true⟩
theorem newN_ok : okN newN := ⟨List.nodup_nil, fun _ h => by cases h⟩
theorem newN_calls : NewCalls Try.prog 12 [] (.ptr 0 0) [.mp 1, .pv (.lit (.int .u64 newN.side)), .pv (.lit (.int .i64 newN.lost)), .pv (.lit (.bool newN.made))] (mapE kLink vT77.enc newN.of_) := by
 refine NewCalls.of_body tabOk Try.func12 rfl rfl rfl rfl rfl rfl (mapE_within _ _) mixed fun E hP C hI => ?_
 refine Awp.consP C ?_
 refine rvc_prim C rfl rfl rfl rfl trivial rfl ?_
 refine rvc_nil ?_
 refine Awp.cons C (fun _ => .quiet) (by kernel_rfl) ?_
 refine rvc_un (rexec_makeMap C rfl rfl kLink vT77 ?_)
 refine rvc_prim C rfl rfl rfl rfl trivial rfl ?_
 refine rvc_prim C rfl rfl rfl rfl trivial rfl ?_
 refine rvc_prim C rfl rfl rfl rfl trivial rfl ?_
 refine rvc_nil ?_
 refine Awp.weakenR (S := [(0, .ptr 0 0)]) (H := [(0, .cells [.mp 1, .pv (.lit (.int .u64 newN.side)), .pv (.lit (.int .i64 newN.lost)), .pv (.lit (.bool newN.made))]), (1, mapE kLink vT77.enc newN.of_)]) (U := [0, 1]) (fun b => bif b == 0 then 3 else b) (WeakerR.ofL (Ks := [0, 1]) hI ⟨⟨rfl, rfl⟩, trivial⟩ (okH_cons rfl rfl rfl rfl (okH_map rfl rfl rfl okH_nil)) rfl) ?_
 refine Awp.ret ?_
 exact ⟨.inl rfl, rfl, rfl, rfl⟩
end Go.Proofs.Ytpeeofofagfooaa
/- Numbers. No conditions. -/
namespace Go.Proofs.Ytpeeofofagfooaa
open Go.Am
theorem min85 (x : Int) (h : 0 ≤ x) : 0 ≤ (bif (decide ((16385 : Int) < x)) then (16385 : Int) else x) ∧ (bif (decide ((16385 : Int) < x)) then (16385 : Int) else x) ≤ 16385 := by
  cases e : decide ((16385 : Int) < x)
  · have := of_decide_eq_false e
    exact ⟨h, by simp only [cond_false]; omega⟩
  · exact ⟨(by decide : (0 : Int) ≤ 16385), (by decide : (16385 : Int) ≤ 16385)⟩
end Go.Proofs.Ytpeeofofagfooaa
