import Derived.Test.YtpgenmflgdkfiaaM2
/- An abstract machine over the kit's calls, part 33: calls that change a row of one's own in place. No conditions. -/
namespace Go.Am
section steps
variable {E : Env} {T : Tab} {cq : Oper → Cls} {n : Nat} {ops : Array Oper}
/-- A call that takes a row (block 0), changes it in place, and gives what does not change. -/
structure MCalls (P : Program) (f : FuncId) (avs : List AV) (k : Blk) (av : AV) (k' : Blk) : Prop where
  fn : ∃ fn, P.funcs[f]? = some fn ∧ (fn.name == "runtime.NumGoroutine") = false ∧ fn.body.isNone = false
  args : AV.withinL (fun b => b == 0) avs = true
  res : av.within (fun _ => false) = true
  blk : k.within (fun _ => false) = true
  blk' : k'.within (fun _ => false) = true
  calls : ACalls P f [0] avs [(0, k)] av [(0, k')]
theorem MCalls.of_body {P : Program} {T : Tab} (hT : TabOk P T) {f : FuncId} {fn : Func} {body : Code} (hf : P.funcs[f]? = some fn) (hb : fn.body = some body) (hn : (fn.name == "runtime.NumGoroutine") = false) {avs : List AV} {k k' : Blk} {av : AV} (hl : decide (avs.length ≤ fn.ntmps) = true) (ha : AV.withinL (fun b => b == 0) avs = true) (hr : av.within (fun _ => false) = true) (hk : k.within (fun _ => false) = true) (hk' : k'.within (fun _ => false) = true) (hm : P.follows .mixedOrders = true)
    (h : ∀ E : Env, E.P = P → Cx E T fn.ntmps → E.I = [0] → Awp E body (entry avs [(0, k)] [0]) fun e st => (e = .ret ∨ e = .normal) ∧ resAV T st fn.results.toList = some av ∧ st.H 0 = some k') : MCalls P f avs k av k' where
  fn := ⟨fn, hf, hn, by simp [hb]⟩
  args := ha
  res := hr
  blk := hk
  blk' := hk'
  calls := ACalls.of_body hT hf hb (by simpa using hl) fun E hP hE hI => (h E hP ⟨hP ▸ hT, hE, hP ▸ hm⟩ hI).mono fun e st ⟨h1, h2, h3⟩ => ⟨h1, h2, fun x hx => by simp only [List.mem_singleton] at hx; subst hx; exact h3⟩
theorem rexec_callM {P : Program} (hP : E.P = P) (C : Cx E T n) {f : FuncId} {avs args : List AV} {av : AV} {k k' : Blk} {d : Option Nat} {b : Nat} {c : Call} {ty : TypeId} {pos : String} {af : Array Edge} {g : Option (Nat × Bool)} {st : St} {K : St → Prop} (h1 : dstB n ⟨d, .call c, ty, pos, af, g⟩ = true) (hc : c.callee = .value (.func f)) (hv : evls st.S c.args.toList = some args)
    (F : MCalls P f avs k av k') (ha : AV.renL (fun _ => b) avs = args) (hb : st.H b = some k) (h7 : K (st.after d { v := av, wr := [(b, some k')] })) (hreach : reachB (.fn f [] [] :: args) [] [(b, k)] = true := by rfl) (hbr : refs (.fn f [] [] :: args) [(b, k)] b = true := by rfl) (hp : clsOf cq ⟨d, .call c, ty, pos, af, g⟩ ≠ .pure := by decide) (hq : clsOf cq ⟨d, .call c, ty, pos, af, g⟩ ≠ .quiet := by decide) (hft : footB (clsOf cq ⟨d, .call c, ty, pos, af, g⟩) [(b, k)] { v := av, wr := [(b, some k')] } = true := by rfl) : rexec E cq n ⟨d, .call c, ty, pos, af, g⟩ st K := by
  subst hP
  obtain ⟨fn, q1, q2, q3⟩ := F.fn
  have hd : ∀ x, d = some x → x < E.n := fun x e => by
    simp only [dstB, e, decide_eq_true_eq] at h1
    exact C.n ▸ h1
  have hin : inI [0] = fun b => b == 0 := funext fun b => by cases b <;> rfl
  have hk0 : Names.knows ⟨fun _ => b, []⟩ [0] 0 = true := by simp [Names.knows, inI]
  have ok : CallOk ⟨fun _ => b, []⟩ [0] avs [(0, k)] [(0, k')] av := by
    refine { args := by rw [hin]; exact F.args, ids := ?_, blks := ?_, nodup := by simp, inj := ?_, nodupL := by simp, nodupR := by simp, fresh := ?_, res := ?_, res' := ?_, kept := ?_, all := ?_, used := ?_ }
    · intro x hx; simp only [List.mem_singleton] at hx; subst hx; rfl
    · intro x hx; simp only [List.mem_singleton] at hx; subst hx; exact Blk.within_mono (fun b hb => by cases hb) k F.blk
    · intro x y hx hy _; simp [inI] at hx hy; omega
    · intro x hx; cases hx
    · exact AV.within_mono (fun x hx => by cases hx) av F.res
    · intro x hx
      simp only [List.mem_singleton] at hx
      subst hx
      exact ⟨hk0, Blk.within_mono (fun b hb => by cases hb) k' F.blk'⟩
    · intro x hx _; simp only [List.mem_singleton] at hx; subst hx; exact ⟨k, List.mem_singleton.2 rfl⟩
    · intro x hx; cases hx
    · intro x hx
      have : x = 0 := by simpa [inI] using hx
      subst this; exact .inr rfl
  have hdo := does_call (E := E) (o := ⟨d, .call c, ty, pos, af, g⟩) (c := c) rfl hc hd q1 q2 q3 F.calls ok (args := args) (caps := []) (by simpa using ha)
  have he : Names.delta ⟨fun _ => b, []⟩ [0] [(0, k)] [(0, k')] av = { v := av, wr := [(b, some k')] } := by
    have e2 : heapOf [(0, k')] 0 = some k' := rfl
    simp only [Names.delta, List.map_nil, List.map_cons, AV.ren_none av F.res, e2, Option.map_some, Blk.ren_none F.blk']
  have hH : ([(0, k)] : List (Nat × Blk)).map (fun x => ((fun _ => b) x.1, x.2.ren (fun _ => b))) = [(b, k)] := by
    simp only [List.map_cons, List.map_nil, Blk.ren_none F.blk]
  rw [he] at hdo
  have hdo' : Does E ⟨d, .call c, ty, pos, af, g⟩ (.fn f [] [] :: args) [(b, k)] { v := av, wr := [(b, some k')] } := by
    rw [← hH]; exact hdo
  have hops : (Op.operands (.call c)).toList = .func f :: c.args.toList := by simp [Op.operands, Call.operands, hc]
  refine ⟨h1, .fn f [] [] :: args, [(b, k)], _, { vals := ?_, deps := ?_, fresh := fun _ h => (by cases h), does := hdo', reach := hreach, inV := ?_, inN := fun _ h => (by cases h), inW := ?_, wr := ?_, pure := fun h => ?_, quiet := fun h => ?_, foot := hft }, h7⟩
  · show evls st.S (Op.operands (.call c)).toList = _
    rw [hops]; simp only [evls, evl, hv]
  · intro x hx; simp only [List.mem_singleton] at hx; subst hx; exact hb
  · exact AV.within_mono (fun x hx => by cases hx) av F.res
  · intro x hx q hq
    simp only [List.mem_singleton] at hx
    subst hx
    obtain rfl := Option.some.inj hq
    exact Blk.within_mono (fun b hb => by cases hb) k' F.blk'
  · intro x hx
    simp only [List.mem_singleton] at hx
    subst hx
    rw [hbr]; simp
  · exact absurd h hp
  · exact absurd h hq
end steps
end Go.Am
/- An abstract machine over the kit's calls, part 35: pointers held against nil; slices cut with their capacity; append to such ones. No conditions. -/
namespace Go.Am
/-- Is a pointer nil? -/
def nilP : AV → Option Bool
  | .pv (.lit (.pointer none)) => some true
  | .ptr _ _ => some false
  | .rp _ => some false
  | _ => none
theorem nilP_holds {ι : Nat → Option (Nat × Nat)} {imm : Nat → Prop} {w : World} {x : AV} {f : Bool} (h : nilP x = some f) {v : Value} (hv : VH ι imm w x v) : ∃ A, v = .pointer A ∧ A.isNone = f := by
  unfold nilP at h
  split at h
  · simp only [Option.some.injEq] at h
    subst h
    simp only [VH, PH] at hv
    exact ⟨none, hv.1, rfl⟩
  · simp only [Option.some.injEq] at h
    subst h
    simp only [VH] at hv
    obtain ⟨r, z, _, e⟩ := hv
    exact ⟨_, e, rfl⟩
  · simp only [Option.some.injEq] at h
    subst h
    simp only [VH] at hv
    obtain ⟨a, e, _⟩ := hv
    exact ⟨_, e, rfl⟩
  · cases h
section ops
variable {E : Env} {T : Tab}
theorem does_eqPtr (hT : TabOk E.P T) {o : Oper} {op : BinOp} {t yt : TypeId} {x y : Operand} (ho : o.op = .binOp op t x y yt) (hd : ∀ d, o.dst = some d → d < E.n) {r : TyRow} (hr : T.lookup t = some r) {et : TypeId} (hdesc : r.desc = .pointer et) {u v z : AV} {f g : Bool} (hf : nilP u = some f) (hg : nilP v = some g) (hfg : (f || g) = true) (h : opB op (f && g) = some z) : Does E o [u, v] [] { v := z } := by
  refine Does.value hd fun ι imm st a w hs hv _ => ?_
  rw [ho] at hv
  simp only [Op.operands, List.map_cons, List.map_nil] at hv
  obtain ⟨h1, h2⟩ := hv.two
  have hu := run_underlying hT hr w (P := E.P)
  obtain ⟨dep, hdp⟩ : ∃ d, Op.maxDepth = d + 1 := ⟨_, rfl⟩
  have fin : ∀ {b : Bool}, (Op.equal t (a.eval x) (a.eval y)).run E.P w = .ok b w → (eqGuard op t x y (a.eval x) (a.eval y)).run E.P w = .ok () w → (∀ op', (op' = .eql ∨ op' = .neq) → binOp op' t (a.eval x) (a.eval y) = (match op' with | .eql => (do let q ← Op.equal t (a.eval x) (a.eval y); pure (.bool q)) | _ => (do let q ← Op.equal t (a.eval x) (a.eval y); pure (.bool !q)))) →
      opB op b = some z → ∃ q, (execOp a.eval o).run E.P w = .ok (.value q) w ∧ VH ι imm w z q := by
    intro b hb hg hbin hz
    by_cases e1 : op = .eql
    · subst e1
      simp only [opB, Option.some.injEq] at hz; subst hz
      refine ⟨.bool b, ?_, by simp [VH, PH, flatB]⟩
      simp only [execOp, ho, run_bind', hg, hbin .eql (.inl rfl), hb, run_pure']
    · by_cases e2 : op = .neq
      · subst e2
        simp only [opB, Option.some.injEq] at hz; subst hz
        refine ⟨.bool !b, ?_, by simp [VH, PH, flatB]⟩
        simp only [execOp, ho, run_bind', hg, hbin .neq (.inr rfl), hb, run_pure']
      · exfalso; cases op <;> simp_all [opB]
  obtain ⟨A, e1, e2⟩ := nilP_holds hf h1
  obtain ⟨B, e3, e4⟩ := nilP_holds hg h2
  refine fin (b := f && g) ?_ (by rw [e1]; exact eqGuard_run w (by simp) (by simp)) (fun op' ho' => by rw [e1, e3]; rcases ho' with rfl | rfl <;> rfl) h
  unfold Op.equal
  rw [hdp, e1, e3]
  cases A <;> cases B <;> simp only [Option.isNone_none, Option.isNone_some] at e2 e4 <;> subst e2 <;> subst e4 <;> first | (cases hfg; done) | skip
  all_goals simp only [Op.equalIn, run_bind', hu, hdesc, run_pure']; rfl
/-- An append of elements to a slice whose room is full: a new row. -/
theorem does_appendT (hT : TabOk E.P T) {o : Oper} {c : Call} {t t2 : TypeId} (ho : o.op = .call c) (hc : c.callee = .builtin .append) (hty : c.argTypes = #[t, t2]) {d : Nat} (hdst : o.dst = some d) (hd : d < E.n) {r re r2 : TyRow} (hr : T.lookup t = some r) {e : TypeId} (hdesc : r.desc = .slice e) (hre : T.lookup e = some re) (hr2 : T.lookup t2 = some r2) (hd2 : ∀ k, r2.desc ≠ .int k)
    {n : Nat} {qs : List PV} (hlq : qs.length = n * re.size) {f : Option Bool} {m : Nat} {ps : List PV} (hm : 0 < m) (hln : ps.length = m * re.size)
    (hb : (2 * (n + m) + 192) * re.bytes ≤ 281474976710656) (hnm : n + m ≤ 9223372036854775807) (hzs : re.zero.cells.size = re.size) :
    Does E o [.tsl n qs, .pv (.sl f m ps)] [] { v := .sl d 0 (n + m) re.size false, new := [(d, .cells (qs.map .pv ++ ps.map .pv))] } := by
  intro ι imm st a w Q hs hv _ hf
  have hUd : st.U d = false := hf (d, _) (List.mem_cons_self ..)
  have hvs := hs.evls hv
  have hops : o.op.operands.toList = c.args.toList := by rw [ho]; simp [Op.operands, Call.operands, hc]
  rw [hops] at hvs
  obtain ⟨v1, us1, he, hv1, hvs⟩ := hvs
  obtain ⟨v2, us2, he2, hv2, hvs⟩ := hvs
  simp only [VHs] at hvs
  subst hvs
  subst he2
  have hargs : c.args.map a.eval = #[v1, v2] := by apply Array.ext'; simpa using he
  obtain ⟨vsO, p1, p2, p3⟩ := run_src (H := st.H) (y := .tsl n qs) (sz := re.size) (m := n) (hd := []) (cs := qs.map .pv) hs rfl (fun x hx => by cases hx) (by simpa using hlq) hv1
  have hlO := p2.length
  have hv1' := hv1
  simp only [VH] at hv1
  obtain ⟨A, rfl, _, _⟩ := hv1
  obtain ⟨vsN, g1, g2, g3⟩ := run_src (H := st.H) (y := .pv (.sl f m ps)) (sz := re.size) (m := m) (hd := []) (cs := ps.map .pv) hs rfl (fun x hx => by cases hx) (by simpa using hln) hv2
  have hlN := g2.length
  have hnew : ∀ w' : World, (∀ x, w'.cell? x = w.cell? x) → (Builtin.firstCells re.size m v2).run E.P w' = .ok (List.toArray vsN) w' := fun w' hw' => by
    have := g3 m (Nat.le_refl _) w' hw'
    rwa [List.take_of_length_le (by rw [hlN]; simp [hln])] at this
  have hold : ∀ w' : World, (∀ x, w'.cell? x = w.cell? x) → (Builtin.firstCells re.size n (.slice A n n)).run E.P w' = .ok (List.toArray vsO) w' := fun w' hw' => by
    have := p3 n (Nat.le_refl _) w' hw'
    rwa [List.take_of_length_le (by rw [hlO]; simp [hlq])] at this
  obtain ⟨_, grown⟩ := run_append hT hr hdesc hre hr2 hd2 (ty := o.type) (t := t) (n := n) (cap := n) (base := A) g1 hnew hold hb hnm
  have hexec : ∀ {u w'}, (Builtin.append_ #[t, t2] o.type #[.slice A n n, v2]).run E.P w = .ok u w' → (execOp a.eval o).run E.P w = .ok (.value u) w' := fun {u w'} h => by
    simp only [execOp, ho, resolve, hc, run_bind', run_pure', invoke, builtin, hargs, hty, h]
  unfold Oper.wp
  have hdd : ∀ x, o.dst = some x → x < E.n := fun x hx => by rw [hdst] at hx; exact Option.some.inj hx ▸ hd
  obtain ⟨w1, nc, rest, hrun, hnc, ⟨e1, e2, e3, e4⟩, hrest⟩ := grown (by omega)
  rw [hexec hrun, Oper.upon_value]
  have gw : Grows ι ι imm imm w w1 := ⟨fun _ _ h => h, ⟨fun _ h => h, fun k _ => by rw [e1]⟩, fun r' c1 e1' f1 hr' => ⟨c1, f1, by rw [e1]; exact hr', rfl⟩⟩
  have hs1 : SR E ι imm ⟨st.S, st.H, st.U⟩ a w1 := hs.turn gw e2 e3 e4 (by rw [e1]; exact Nat.le_refl _) (fun k _ _ => by rw [e1]) ⟨fun b' k' hb' => by
    obtain ⟨r', z', p1, p2, p3, p4⟩ := hs.heap.blk b' k' hb'
    exact ⟨r', z', p1, p2, p3, p4.grows gw (by rw [e1])⟩, hs.heap.inj⟩ hs.used (fun _ hk => .inl hk) (fun k hk => by rw [e1]; exact hs.immlt k hk)
  have hboth : VHs ι imm w1 (qs.map .pv ++ ps.map .pv) (vsO ++ vsN) := VHs.append (VHs.grows gw _ _ p2) (VHs.grows gw _ _ g2)
  have hNew : NewH ι imm w1 (Obj.cells (vsO ++ vsN ++ rest).toArray e) (.cells (qs.map .pv ++ ps.map .pv)) := by
    refine ⟨_, _, rfl, ?_, CellsH.of_VHs (vs := vsO ++ vsN) hboth fun i hi => ?_⟩
    · simp only [List.length_append, List.size_toArray, hlN, hlO]; omega
    · rw [Nat.zero_add, List.getElem?_toArray, List.getElem?_append_left hi]
  obtain ⟨ι', i1, i2, i3⟩ := hs1.new hUd hNew (.sl d 0 (n + m) re.size false)
  refine ⟨ι', imm, ?_⟩
  have hheap : (World.push w1 (Obj.cells (vsO ++ vsN ++ rest).toArray e)).heap[w1.heap.size]? = some (Obj.cells (vsO ++ vsN ++ rest).toArray e) := by
    show (w1.heap.push _)[_]? = _
    rw [Array.getElem?_push, if_pos rfl]
  have hln' : vsN.length = m * re.size := by rw [hlN]; simp [hln]
  have hlq' : vsO.length = n * re.size := by rw [hlO]; simp [hlq]
  have hfin := i3.put o.dst hdd (v := .sl d 0 (n + m) re.size false) (u := .slice (some ⟨w.heap.size, 0, none⟩) (n + m) nc) ⟨w1.heap.size, 0, nc, i1, by rw [e1], by omega, (fun h => (by cases h)), _, _, _, hheap, by
    simp only [List.size_toArray, List.length_append, hln', hlq', hrest, hzs]
    have : nc = n + m + (nc - (n + m)) := by omega
    rw [this, Nat.add_mul, Nat.add_mul]
    have : n + m + (nc - (n + m)) - (n + m) = nc - (n + m) := by omega
    rw [this]; omega⟩
  exact hfin
end ops
section steps
variable {E : Env} {T : Tab} {cq : Oper → Cls} {n : Nat} {ops : Array Oper}
theorem rexec_eqPtr (C : Cx E T n) {d : Option Nat} {op : BinOp} {t t' : TypeId} {x y : Operand} {ty : TypeId} {pos : String} {af : Array Edge} {g : Option (Nat × Bool)} {st : St} {K : St → Prop}
    {r : TyRow} {et : TypeId} {u v : AV} (p q : Bool) {z : AV} (h1 : dstB n ⟨d, .binOp op t x y t', ty, pos, af, g⟩ = true) (h2 : evls st.S [x, y] = some [u, v]) (hr : T.lookup t = some r) (hd : r.desc = .pointer et) (hp : nilP u = some p) (hq : nilP v = some q) (hpq : (p || q) = true) (hz : opB op (p && q) = some z) (hw : z.within (fun _ => false) = true) (h7 : K (st.after d { v := z })) :
    rexec E cq n ⟨d, .binOp op t x y t', ty, pos, af, g⟩ st K := by
  have hd' : ∀ x, d = some x → x < E.n := fun x e => by
    simp only [dstB, e, decide_eq_true_eq] at h1
    exact C.n ▸ h1
  refine ⟨h1, _, _, _, { vals := h2, deps := fun _ h => (by cases h), fresh := fun _ h => (by cases h), does := does_eqPtr C.tab (o := ⟨d, .binOp op t x y t', ty, pos, af, g⟩) rfl hd' hr hd hp hq hpq hz, reach := rfl, inV := AV.within_mono (fun b hb => by cases hb) _ hw, inN := fun _ h => (by cases h), inW := fun _ h => (by cases h), wr := fun _ h => (by cases h), pure := fun _ => ⟨rfl, rfl, rfl⟩, quiet := fun _ => rfl, foot := by cases (clsOf cq ⟨d, .binOp op t x y t', ty, pos, af, g⟩) <;> rfl }, h7⟩
/-- A slice that does not change, cut to its own length and room. -/
theorem rexec_slice3 (C : Cx E T n) {d : Option Nat} {t : TypeId} {x : Operand} {hi mx : Operand} {ty : TypeId} {pos : String} {af : Array Edge} {g : Option (Nat × Bool)} {st : St} {K : St → Prop} {r re : TyRow} {te : TypeId} {α : Type} {e : Enc α} {D : List α} {f : Option Bool} {k1 k2 : IntKind} (h1 : dstB n ⟨d, .slice t x none (some hi) (some mx), ty, pos, af, g⟩ = true)
    (h2 : evls st.S [x, hi, mx] = some [sS f e D, .pv (.lit (.int k1 (D.length : Int))), .pv (.lit (.int k2 (D.length : Int)))]) (hr : T.lookup t = some r) (hdesc : r.desc = .slice te) (hre : T.lookup te = some re) (hs : re.size = e.sz)
    (h7 : K (st.after d { v := .tsl D.length (encL e D) })) : rexec E cq n ⟨d, .slice t x none (some hi) (some mx), ty, pos, af, g⟩ st K := by
  have key : ((encL e D).drop (0 * e.sz)).take (D.length * e.sz) = encL e D := by
    rw [Nat.zero_mul, List.drop_zero, ← encL_len (e := e), List.take_length]
  refine rexec_primv C (p := (0 ≤ (0 : Int) ∧ (0 : Int) ≤ (D.length : Int) ∧ (D.length : Int) ≤ (D.length : Int) ∧ (D.length : Int) ≤ (D.length : Int)) ∧ (D.length : Int) = (D.length : Int)) (hs := []) (δ := { v := .tsl ((D.length : Int).toNat - (0 : Int).toNat) (((encL e D).drop ((0 : Int).toNat * re.size)).take (((D.length : Int).toNat - (0 : Int).toNat) * re.size)) }) { v := .tsl D.length (encL e D) } h1 rfl h2 ?_ ⟨⟨by omega, by omega, by omega, by omega⟩, rfl⟩ ?_ rfl h7 (by cases (clsOf cq ⟨d, .slice t x none (some hi) (some mx), ty, pos, af, g⟩) <;> rfl)
  · simp only [prim, primSlice, hr, optI, sliceAV, hdesc, hre, sS, cutOf, Option.getD_none]
  · simp only [hs, Int.toNat_natCast, Int.toNat_zero, Nat.sub_zero, key]
theorem rexec_appendT (C : Cx E T n) {d : Nat} {c : Call} {t t2 : TypeId} {ty : TypeId} {pos : String} {af : Array Edge} {g : Option (Nat × Bool)} {st : St} {K : St → Prop} (hc : c.callee = .builtin .append) (hty : c.argTypes = #[t, t2]) (h1 : dstB n ⟨some d, .call c, ty, pos, af, g⟩ = true) (hU : st.U d = false)
    {r re r2 : TyRow} (hr : T.lookup t = some r) {e : TypeId} (hdesc : r.desc = .slice e) (hre : T.lookup e = some re) (hr2 : T.lookup t2 = some r2) (hd2 : ∀ k, r2.desc ≠ .int k) (hzs : re.zero.cells.size = re.size)
    {α : Type} {en : Enc α} {f : Option Bool} {D0 D : List α} (hs : re.size = en.sz) (hv : evls st.S c.args.toList = some [.tsl D0.length (encL en D0), sS f en D]) (hm : 0 < D.length)
    (hbig : (2 * (D0.length + D.length) + 192) * re.bytes ≤ 281474976710656) (hpos : 0 < re.bytes) {nn : Nat} (hnn : nn = D0.length + D.length)
    (h7 : K (st.after (some d) { v := .sl d 0 nn re.size false, new := [(d, .cells (encC en (D0 ++ D)))] })) (hcl : clsOf cq ⟨some d, .call c, ty, pos, af, g⟩ ≠ .pure ∧ clsOf cq ⟨some d, .call c, ty, pos, af, g⟩ ≠ .quiet ∧ footB (clsOf cq ⟨some d, .call c, ty, pos, af, g⟩) [] { v := .sl d 0 nn re.size false, new := [(d, .cells (encC en (D0 ++ D)))] } = true := by exact ⟨by decide, by decide, rfl⟩) :
    rexec E cq n ⟨some d, .call c, ty, pos, af, g⟩ st K := by
  subst hnn
  have hd : d < E.n := by
    simp only [dstB, decide_eq_true_eq] at h1
    exact C.n ▸ h1
  have hdo := does_appendT C.tab (o := ⟨some d, .call c, ty, pos, af, g⟩) rfl hc hty rfl hd hr hdesc hre hr2 hd2 (n := D0.length) (qs := encL en D0) (by rw [encL_len, hs]) (f := f) (ps := encL en D) hm (by rw [encL_len, hs]) hbig (by
    have : 2 * (D0.length + D.length) + 192 ≤ (2 * (D0.length + D.length) + 192) * re.bytes := Nat.le_mul_of_pos_right _ hpos
    omega) hzs
  have hcat : (encL en D0).map AV.pv ++ (encL en D).map AV.pv = encC en (D0 ++ D) := by
    rw [encC_append]; rfl
  rw [hcat] at hdo
  have hops : (Op.operands (.call c)).toList = c.args.toList := by simp [Op.operands, Call.operands, hc]
  refine ⟨h1, _, _, _, { vals := ?_, deps := ?_, fresh := ?_, does := hdo, reach := rfl, inV := ?_, inN := ?_, inW := ?_, wr := ?_, pure := fun h => ?_, quiet := fun h => ?_, foot := hcl.2.2 }, h7⟩
  · show evls st.S (Op.operands (.call c)).toList = _
    rw [hops]; exact hv
  · intro x hx; cases hx
  · intro x hx; simp only [List.mem_singleton] at hx; subst hx; exact hU
  · simp [AV.within]
  · intro x hx; simp only [List.mem_singleton] at hx; subst hx; exact encC_within _ _
  · intro x hx; cases hx
  · intro x hx; cases hx
  · exact absurd h hcl.1
  · rfl
/-- A loop whose first round begins otherwise than the others. -/
theorem Awp.peelM {c : Code} {st : St} {Q : Exit → St → Prop} {σ : Type} (S : σ → List (Nat × AV)) (H : σ → List (Nat × Blk)) (U : List Nat) (J : Nat → σ → Prop) (N : Nat)
    (first : Awp E c st fun e st' => match e with | .normal => ∃ m' y, m' < N ∧ J m' y ∧ ∃ τ, WeakerR st' τ (S y) (H y) U E.I | e => Q e st')
    (round : ∀ m x, J m x → Awp E c (mkSt (S x) (H x) U) fun e st' => match e with | .normal => ∃ m' y, m' < m ∧ J m' y ∧ ∃ τ, WeakerR st' τ (S y) (H y) U E.I | e => Q e st') : Awp E (.loop c) st Q := by
  intro a w hat
  refine wp_loop_ghost (fun m a w => (m = N ∧ At E st a w) ∨ ∃ x, J m x ∧ At E (mkSt (S x) (H x) U) a w) N (.inl ⟨rfl, hat⟩) fun m a w hI => ?_
  rcases hI with ⟨rfl, hat⟩ | ⟨x, hJ, hat⟩
  · refine wp_mono (first a w hat) ?_
    rintro e a' w' ⟨st', h1, h2⟩
    cases e <;> simp only [Exit.then]
    case normal =>
      obtain ⟨m', y, h3, h4, τ, h5⟩ := h1
      exact ⟨m', h3, .inr ⟨y, h4, h2.weakenR h5⟩⟩
    all_goals exact ⟨st', h1, h2⟩
  · refine wp_mono (round m x hJ a w hat) ?_
    rintro e a' w' ⟨st', h1, h2⟩
    cases e <;> simp only [Exit.then]
    case normal =>
      obtain ⟨m', y, h3, h4, τ, h5⟩ := h1
      exact ⟨m', h3, .inr ⟨y, h4, h2.weakenR h5⟩⟩
    all_goals exact ⟨st', h1, h2⟩
end steps
end Go.Am
/- Readers of bytes. No conditions. -/
namespace Go.Proofs.Ytpgenmflgdkfiaa
open Go.Am
structure Reader where
  b : (Sl Int)
  at_ : Int
  err : Int
  made : Bool
  deriving Inhabited
def rdErr (r : Reader) : Int :=
  (bif (!r.made) then 6 else r.err)
theorem rdErr_calls (r : Reader)  : MCalls Try.prog 67 [.ptr 0 0] (.cells [sS (some r.b.nil) (eI .u8) r.b.D, .pv (.lit (.int .i64 r.at_)), .pv (.lit (.int .i64 r.err)), .pv (.lit (.bool r.made))]) (.pv (.lit (.int .i64 (rdErr r)))) (.cells [sS (some r.b.nil) (eI .u8) r.b.D, .pv (.lit (.int .i64 r.at_)), .pv (.lit (.int .i64 r.err)), .pv (.lit (.bool r.made))]) := by
 generalize hR : rdErr r = R
 refine MCalls.of_body tabOk Try.func67 rfl rfl rfl rfl rfl rfl rfl mixed fun E hP C hI => ?_
 refine Awp.consP C ?_
 refine rvP C (.pv (.lit (.int .i64 0))) ?_
 refine rvc_nil ?_
 refine Awp.seq ?_
 refine Awp.consP C ?_
 refine rvP C (.ptr 0 0) ?_
 refine rvc_un (rexec_eqPtr C false true (z := .pv (.lit (.bool false))) rfl rfl rfl rfl rfl rfl rfl rfl rfl ?_)
 refine rvP C (.pv (.lit (.bool false))) ?_
 refine rvO C (.ptr 0 0) ?_
 refine rvO C (.ptr 0 0) ?_
 refine rvO C (.ptr 0 3) ?_
 refine rvO C (.pv (.lit (.bool r.made))) ?_
 refine rvO C (.pv (.lit (.bool (!r.made)))) ?_
 refine rvP C (.pv (.lit (.bool (!r.made)))) ?_
 refine rvc_nil ?_
 refine Awp.cond (b := (!r.made)) rfl (fun h1 => ?_) (fun h1 => ?_)
 ·
  replace hR := of_true h1 hR
  refine Awp.consP C ?_
  refine rvP C (.pv (.lit (.int .i64 6))) ?_
  refine rvc_nil ?_
  refine Awp.ret ?_
  subst hR
  exact ⟨.inl rfl, rfl, rfl⟩
 ·
  replace hR := of_false h1 hR
  refine Awp.skip ?_
  refine Awp.consP C ?_
  refine rvP C (.ptr 0 0) ?_
  refine rvP C (.ptr 0 0) ?_
  refine rvP C (.ptr 0 2) ?_
  refine rvP C (.pv (.lit (.int .i64 r.err))) ?_
  refine rvP C (.pv (.lit (.int .i64 r.err))) ?_
  refine rvc_nil ?_
  refine Awp.ret ?_
  subst hR
  exact ⟨.inl rfl, rfl, rfl⟩
def rdEnd (r : Reader) : Int :=
  (bif ((rdErr r) != 0) then (rdErr r) else (bif (decide (r.at_ < (r.b.D.length : Int))) then 3 else 0))
theorem rdEnd_calls (r : Reader)  : MCalls Try.prog 49 [.ptr 0 0] (.cells [sS (some r.b.nil) (eI .u8) r.b.D, .pv (.lit (.int .i64 r.at_)), .pv (.lit (.int .i64 r.err)), .pv (.lit (.bool r.made))]) (.pv (.lit (.int .i64 (rdEnd r)))) (.cells [sS (some r.b.nil) (eI .u8) r.b.D, .pv (.lit (.int .i64 r.at_)), .pv (.lit (.int .i64 r.err)), .pv (.lit (.bool r.made))]) := by
 generalize hR : rdEnd r = R
 refine MCalls.of_body tabOk Try.func49 rfl rfl rfl rfl rfl rfl rfl mixed fun E hP C hI => ?_
 refine Awp.consP C ?_
 refine rvP C (.pv (.lit (.int .i64 0))) ?_
 refine rvc_nil ?_
 refine Awp.seq ?_
 refine Awp.cons C (fun _ => .writer) (by kernel_rfl) ?_
 refine rvP C (.ptr 0 0) ?_
 refine rvc_un (rexec_callM hP C (b := 0) rfl rfl rfl (rdErr_calls r) rfl rfl ?_)
 refine rvP C (.pv (.lit (.int .i64 (rdErr r)))) ?_
 refine rvc_nil ?_
 refine Awp.consP C ?_
 refine rvP C (.pv (.lit (.int .i64 (rdErr r)))) ?_
 refine rvP C (.pv (.lit (.bool ((rdErr r) != 0)))) ?_
 refine rvc_nil ?_
 refine Awp.cond (b := ((rdErr r) != 0)) rfl (fun h1 => ?_) (fun h1 => ?_)
 ·
  replace hR := of_true h1 hR
  refine Awp.consP C ?_
  refine rvP C (.pv (.lit (.int .i64 (rdErr r)))) ?_
  refine rvP C (.pv (.lit (.int .i64 (rdErr r)))) ?_
  refine rvc_nil ?_
  refine Awp.ret ?_
  subst hR
  exact ⟨.inl rfl, rfl, rfl⟩
 ·
  replace hR := of_false h1 hR
  refine Awp.skip ?_
  refine Awp.seq ?_
  refine Awp.consP C ?_
  refine rvP C (.ptr 0 0) ?_
  refine rvP C (.ptr 0 0) ?_
  refine rvP C (.ptr 0 1) ?_
  refine rvP C (.pv (.lit (.int .i64 r.at_))) ?_
  refine rvP C (.ptr 0 0) ?_
  refine rvP C (.ptr 0 0) ?_
  refine rvP C (.ptr 0 0) ?_
  refine rvP C (sS (some r.b.nil) (eI .u8) r.b.D) ?_
  refine rvP C (.pv (.lit (.int .i64 (r.b.D.length : Int)))) ?_
  refine rvP C (.pv (.lit (.bool (decide (r.at_ < (r.b.D.length : Int)))))) ?_
  refine rvc_nil ?_
  refine Awp.cond (b := (decide (r.at_ < (r.b.D.length : Int)))) rfl (fun h2 => ?_) (fun h2 => ?_)
  ·
   replace hR := of_true h2 hR
   refine Awp.consP C ?_
   refine rvP C (.pv (.lit (.int .i64 3))) ?_
   refine rvc_nil ?_
   refine Awp.ret ?_
   subst hR
   exact ⟨.inl rfl, rfl, rfl⟩
  ·
   replace hR := of_false h2 hR
   refine Awp.skip ?_
   refine Awp.consP C ?_
   refine rvP C (.pv (.lit (.int .i64 0))) ?_
   refine rvc_nil ?_
   refine Awp.ret ?_
   subst hR
   exact ⟨.inl rfl, rfl, rfl⟩
def rdLeft (r : Reader) : Int :=
  (bif ((rdErr r) == 6) then 0 else (IntKind.i64.wrap ((r.b.D.length : Int) - r.at_)))
theorem rdLeft_calls (r : Reader)  : MCalls Try.prog 65 [.ptr 0 0] (.cells [sS (some r.b.nil) (eI .u8) r.b.D, .pv (.lit (.int .i64 r.at_)), .pv (.lit (.int .i64 r.err)), .pv (.lit (.bool r.made))]) (.pv (.lit (.int .i64 (rdLeft r)))) (.cells [sS (some r.b.nil) (eI .u8) r.b.D, .pv (.lit (.int .i64 r.at_)), .pv (.lit (.int .i64 r.err)), .pv (.lit (.bool r.made))]) := by
 generalize hR : rdLeft r = R
 refine MCalls.of_body tabOk Try.func65 rfl rfl rfl rfl rfl rfl rfl mixed fun E hP C hI => ?_
 refine Awp.consP C ?_
 refine rvP C (.pv (.lit (.int .i64 0))) ?_
 refine rvc_nil ?_
 refine Awp.seq ?_
 refine Awp.cons C (fun _ => .writer) (by kernel_rfl) ?_
 refine rvP C (.ptr 0 0) ?_
 refine rvc_un (rexec_callM hP C (b := 0) rfl rfl rfl (rdErr_calls r) rfl rfl ?_)
 refine rvP C (.pv (.lit (.bool ((rdErr r) == 6)))) ?_
 refine rvc_nil ?_
 refine Awp.cond (b := ((rdErr r) == 6)) rfl (fun h1 => ?_) (fun h1 => ?_)
 ·
  replace hR := of_true h1 hR
  refine Awp.consP C ?_
  refine rvP C (.pv (.lit (.int .i64 0))) ?_
  refine rvc_nil ?_
  refine Awp.ret ?_
  subst hR
  exact ⟨.inl rfl, rfl, rfl⟩
 ·
  replace hR := of_false h1 hR
  refine Awp.skip ?_
  refine Awp.consP C ?_
  refine rvP C (.ptr 0 0) ?_
  refine rvP C (.ptr 0 0) ?_
  refine rvP C (.ptr 0 0) ?_
  refine rvP C (sS (some r.b.nil) (eI .u8) r.b.D) ?_
  refine rvP C (.pv (.lit (.int .i64 (r.b.D.length : Int)))) ?_
  refine rvP C (.ptr 0 0) ?_
  refine rvP C (.ptr 0 0) ?_
  refine rvP C (.ptr 0 1) ?_
  refine rvP C (.pv (.lit (.int .i64 r.at_))) ?_
  refine rvP C (.pv (.lit (.int .i64 (IntKind.i64.wrap ((r.b.D.length : Int) - r.at_))))) ?_
  refine rvP C (.pv (.lit (.int .i64 (IntKind.i64.wrap ((r.b.D.length : Int) - r.at_))))) ?_
  refine rvc_nil ?_
  refine Awp.ret ?_
  subst hR
  exact ⟨.inl rfl, rfl, rfl⟩
def rdStop (r : Reader) (at_ : Int) (e_ : Int) : Reader :=
  (bif (r.err == 0) then (Reader.mk r.b at_ e_ r.made) else r)
theorem rdStop_calls (r : Reader) (at_ : Int) (e_ : Int)  : MCalls Try.prog 68 [.ptr 0 0, .pv (.lit (.int .i64 at_)), .pv (.lit (.int .i64 e_))] (.cells [sS (some r.b.nil) (eI .u8) r.b.D, .pv (.lit (.int .i64 r.at_)), .pv (.lit (.int .i64 r.err)), .pv (.lit (.bool r.made))]) (.tup []) (.cells [sS (some (rdStop r at_ e_).b.nil) (eI .u8) ((rdStop r at_ e_).b.D), .pv (.lit (.int .i64 ((rdStop r at_ e_).at_))), .pv (.lit (.int .i64 ((rdStop r at_ e_).err))), .pv (.lit (.bool ((rdStop r at_ e_).made)))]) := by
 generalize hR : rdStop r at_ e_ = R
 refine MCalls.of_body tabOk Try.func68 rfl rfl rfl rfl rfl rfl rfl mixed fun E hP C hI => ?_
 refine Awp.consP C ?_
 refine rvP C (.ptr 0 0) ?_
 refine rvP C (.ptr 0 0) ?_
 refine rvP C (.ptr 0 2) ?_
 refine rvP C (.pv (.lit (.int .i64 r.err))) ?_
 refine rvP C (.pv (.lit (.bool (r.err == 0)))) ?_
 refine rvc_nil ?_
 refine Awp.cond (b := (r.err == 0)) rfl (fun h1 => ?_) (fun h1 => ?_)
 ·
  replace hR := of_true h1 hR
  refine Awp.regionP C ?_
  refine rvP C (.ptr 0 0) ?_
  refine rvP C (.ptr 0 0) ?_
  refine rvP C (.pv (.lit (.int .i64 at_))) ?_
  refine rvP C (.pv (.lit (.int .i64 e_))) ?_
  refine rvP C (.ptr 0 0) ?_
  refine rvP C (.ptr 0 1) ?_
  refine rvc_un (rexec_prim C (δ := { v := .undef, wr := [(0, some (.cells [sS (some r.b.nil) (eI .u8) r.b.D, .pv (.lit (.int .i64 at_)), .pv (.lit (.int .i64 r.err)), .pv (.lit (.bool r.made))]))] }) rfl rfl rfl rfl trivial rfl ?_)
  refine rvP C (.ptr 0 0) ?_
  refine rvP C (.ptr 0 2) ?_
  refine rvc_un (rexec_prim C (δ := { v := .undef, wr := [(0, some (.cells [sS (some r.b.nil) (eI .u8) r.b.D, .pv (.lit (.int .i64 at_)), .pv (.lit (.int .i64 e_)), .pv (.lit (.bool r.made))]))] }) rfl rfl rfl rfl trivial rfl ?_)
  refine rvc_nil ?_
  subst hR
  exact ⟨.inr rfl, rfl, rfl⟩
 ·
  replace hR := of_false h1 hR
  refine Awp.skip ?_
  subst hR
  exact ⟨.inr rfl, rfl, rfl⟩
def rdNum_l0 (r : Reader) : Nat → Int → Int → Reader → Reader × Int
  | 0, _, _, _ => default
  | nn + 1, n, shift, vc => (bif (vc.at_ == (vc.b.D.length : Int)) then ((rdStop vc r.at_ 2), 0) else (bif (shift == 63) then (bif (decide ((IntKind.u64.wrap (bitI .and .u8 (vc.b.D[vc.at_.toNat]!) 127)) > 1)) then ((rdStop (Reader.mk vc.b (IntKind.i64.wrap (vc.at_ + 1)) vc.err vc.made) r.at_ 5), 0) else (bif (decide (shift > 63)) then ((rdStop (Reader.mk vc.b (IntKind.i64.wrap (vc.at_ + 1)) vc.err vc.made) r.at_ 5), 0) else (bif ((vc.b.D[vc.at_.toNat]!) == 0) then (bif (decide (shift > 0)) then ((rdStop (Reader.mk vc.b (IntKind.i64.wrap (vc.at_ + 1)) vc.err vc.made) r.at_ 10), 0) else (bif (decide ((vc.b.D[vc.at_.toNat]!) < 128)) then ((Reader.mk vc.b (IntKind.i64.wrap (vc.at_ + 1)) vc.err vc.made), (bitI .or .u64 n (shlI .u64 (IntKind.u64.wrap (bitI .and .u8 (vc.b.D[vc.at_.toNat]!) 127)) shift))) else rdNum_l0 r nn (bitI .or .u64 n (shlI .u64 (IntKind.u64.wrap (bitI .and .u8 (vc.b.D[vc.at_.toNat]!) 127)) shift)) (IntKind.i64.wrap (shift + 7)) (Reader.mk vc.b (IntKind.i64.wrap (vc.at_ + 1)) vc.err vc.made))) else (bif (decide ((vc.b.D[vc.at_.toNat]!) < 128)) then ((Reader.mk vc.b (IntKind.i64.wrap (vc.at_ + 1)) vc.err vc.made), (bitI .or .u64 n (shlI .u64 (IntKind.u64.wrap (bitI .and .u8 (vc.b.D[vc.at_.toNat]!) 127)) shift))) else rdNum_l0 r nn (bitI .or .u64 n (shlI .u64 (IntKind.u64.wrap (bitI .and .u8 (vc.b.D[vc.at_.toNat]!) 127)) shift)) (IntKind.i64.wrap (shift + 7)) (Reader.mk vc.b (IntKind.i64.wrap (vc.at_ + 1)) vc.err vc.made))))) else (bif (decide (shift > 63)) then ((rdStop (Reader.mk vc.b (IntKind.i64.wrap (vc.at_ + 1)) vc.err vc.made) r.at_ 5), 0) else (bif ((vc.b.D[vc.at_.toNat]!) == 0) then (bif (decide (shift > 0)) then ((rdStop (Reader.mk vc.b (IntKind.i64.wrap (vc.at_ + 1)) vc.err vc.made) r.at_ 10), 0) else (bif (decide ((vc.b.D[vc.at_.toNat]!) < 128)) then ((Reader.mk vc.b (IntKind.i64.wrap (vc.at_ + 1)) vc.err vc.made), (bitI .or .u64 n (shlI .u64 (IntKind.u64.wrap (bitI .and .u8 (vc.b.D[vc.at_.toNat]!) 127)) shift))) else rdNum_l0 r nn (bitI .or .u64 n (shlI .u64 (IntKind.u64.wrap (bitI .and .u8 (vc.b.D[vc.at_.toNat]!) 127)) shift)) (IntKind.i64.wrap (shift + 7)) (Reader.mk vc.b (IntKind.i64.wrap (vc.at_ + 1)) vc.err vc.made))) else (bif (decide ((vc.b.D[vc.at_.toNat]!) < 128)) then ((Reader.mk vc.b (IntKind.i64.wrap (vc.at_ + 1)) vc.err vc.made), (bitI .or .u64 n (shlI .u64 (IntKind.u64.wrap (bitI .and .u8 (vc.b.D[vc.at_.toNat]!) 127)) shift))) else rdNum_l0 r nn (bitI .or .u64 n (shlI .u64 (IntKind.u64.wrap (bitI .and .u8 (vc.b.D[vc.at_.toNat]!) 127)) shift)) (IntKind.i64.wrap (shift + 7)) (Reader.mk vc.b (IntKind.i64.wrap (vc.at_ + 1)) vc.err vc.made))))))
def rdNum (r : Reader) : Reader × Int :=
  (bif ((rdErr r) != 0) then (r, 0) else rdNum_l0 r ((r.b.D.length - r.at_.toNat) + 1) 0 0 r)
theorem rdNum_calls (r : Reader) (hk : (0 ≤ r.at_ ∧ r.at_ ≤ (r.b.D.length : Int)) ∧ r.b.D.length ≤ 1000000) : MCalls Try.prog 66 [.ptr 0 0] (.cells [sS (some r.b.nil) (eI .u8) r.b.D, .pv (.lit (.int .i64 r.at_)), .pv (.lit (.int .i64 r.err)), .pv (.lit (.bool r.made))]) (.pv (.lit (.int .u64 ((rdNum r).2)))) (.cells [sS (some (rdNum r).1.b.nil) (eI .u8) ((rdNum r).1.b.D), .pv (.lit (.int .i64 ((rdNum r).1.at_))), .pv (.lit (.int .i64 ((rdNum r).1.err))), .pv (.lit (.bool ((rdNum r).1.made)))]) := by
 generalize hR : rdNum r = R
 refine MCalls.of_body tabOk Try.func66 rfl rfl rfl rfl rfl rfl rfl mixed fun E hP C hI => ?_
 refine Awp.consP C ?_
 refine rvP C (.pv (.lit (.int .u64 0))) ?_
 refine rvc_nil ?_
 refine Awp.seq ?_
 refine Awp.cons C (fun _ => .writer) (by kernel_rfl) ?_
 refine rvP C (.ptr 0 0) ?_
 refine rvc_un (rexec_callM hP C (b := 0) rfl rfl rfl (rdErr_calls r) rfl rfl ?_)
 refine rvP C (.pv (.lit (.bool ((rdErr r) != 0)))) ?_
 refine rvc_nil ?_
 refine Awp.cond (b := ((rdErr r) != 0)) rfl (fun h1 => ?_) (fun h1 => ?_)
 ·
  replace hR := of_true h1 hR
  refine Awp.consP C ?_
  refine rvP C (.pv (.lit (.int .u64 0))) ?_
  refine rvc_nil ?_
  refine Awp.ret ?_
  subst hR
  exact ⟨.inl rfl, rfl, rfl⟩
 ·
  replace hR := of_false h1 hR
  refine Awp.skip ?_
  refine Awp.consP C ?_
  refine rvP C (.ptr 0 0) ?_
  refine rvP C (.ptr 0 0) ?_
  refine rvP C (.ptr 0 1) ?_
  refine rvP C (.pv (.lit (.int .i64 r.at_))) ?_
  refine rvP C (.pv (.lit (.int .u64 0))) ?_
  refine rvP C (.pv (.lit (.int .i64 r.at_))) ?_
  refine rvc_nil ?_
  refine Awp.consP C ?_
  refine rvP C (.pv (.lit (.int .i64 0))) ?_
  refine rvc_nil ?_
  refine Awp.block ?_
  refine Awp.forM (σ := Int × Int × Reader) (fun v => [(0, .ptr 0 0), (3, .pv (.lit (.int .u64 v.1))), (4, .pv (.lit (.int .i64 r.at_))), (5, .pv (.lit (.int .i64 v.2.1)))]) (fun v => [(0, .cells [sS (some v.2.2.b.nil) (eI .u8) v.2.2.b.D, .pv (.lit (.int .i64 v.2.2.at_)), .pv (.lit (.int .i64 v.2.2.err)), .pv (.lit (.bool v.2.2.made))])]) [0] (fun n v => n = (v.2.2.b.D.length - v.2.2.at_.toNat) ∧ rdNum_l0 r ((v.2.2.b.D.length - v.2.2.at_.toNat) + 1) v.1 v.2.1 v.2.2 = R ∧ (((0 ≤ v.2.2.at_ ∧ v.2.2.at_ ≤ (v.2.2.b.D.length : Int)) ∧ v.2.2.b.D.length ≤ 1000000) ∧ 0 ≤ v.2.1 ∧ v.2.1 ≤ 70)) ((r.b.D.length - r.at_.toNat)) (0, 0, r) ?_ ?_ (fun _ v h2 => ?_)
  · exact ⟨rfl, hR, ⟨hk, (by dsimp only; omega)⟩⟩
  · exact ⟨fun b => b, WeakerR.ofLI (I := [0]) (Ks := [0]) hI ⟨⟨rfl, rfl⟩, ⟨rfl, rfl⟩, ⟨rfl, rfl⟩, ⟨rfl, rfl⟩, trivial⟩ (okH_cons rfl rfl rfl rfl (okH_nil)) rfl rfl⟩
  obtain ⟨n, shift, vc⟩ := v
  obtain ⟨rfl, hR, ⟨hVk, hVs⟩⟩ := h2
  replace hVk : (0 ≤ vc.at_ ∧ vc.at_ ≤ (vc.b.D.length : Int)) ∧ vc.b.D.length ≤ 1000000 := hVk
  replace hVs : 0 ≤ shift ∧ shift ≤ 70 := hVs
  refine Awp.seq ?_
  refine Awp.block ?_
  refine Awp.seq ?_
  refine Awp.consP C ?_
  refine rvP C (.ptr 0 0) ?_
  refine rvP C (.ptr 0 0) ?_
  refine rvP C (.ptr 0 1) ?_
  refine rvP C (.pv (.lit (.int .i64 vc.at_))) ?_
  refine rvP C (.ptr 0 0) ?_
  refine rvP C (.ptr 0 0) ?_
  refine rvP C (.ptr 0 0) ?_
  refine rvP C (sS (some vc.b.nil) (eI .u8) vc.b.D) ?_
  refine rvP C (.pv (.lit (.int .i64 (vc.b.D.length : Int)))) ?_
  refine rvP C (.pv (.lit (.bool (vc.at_ == (vc.b.D.length : Int))))) ?_
  refine rvc_nil ?_
  refine Awp.cond (b := (vc.at_ == (vc.b.D.length : Int))) rfl (fun h4 => ?_) (fun h4 => ?_)
  ·
   replace hR := of_true h4 hR
   refine Awp.cons C (fun _ => .writer) (by kernel_rfl) ?_
   refine rvP C (.ptr 0 0) ?_
   refine rvP C (.pv (.lit (.int .i64 r.at_))) ?_
   refine rvc_un (rexec_callM hP C (b := 0) rfl rfl rfl (rdStop_calls vc r.at_ 2) rfl rfl ?_)
   refine rvc_nil ?_
   refine Awp.consP C ?_
   refine rvP C (.pv (.lit (.int .u64 0))) ?_
   refine rvc_nil ?_
   refine Awp.ret ?_
   subst hR
   exact ⟨.inl rfl, rfl, rfl⟩
  ·
   replace hR := of_false h4 hR
   refine Awp.skip ?_
   refine Awp.consP C ?_
   refine rvP C (.ptr 0 0) ?_
   refine rvP C (.ptr 0 0) ?_
   refine rvP C (.ptr 0 0) ?_
   refine rvP C (sS (some vc.b.nil) (eI .u8) vc.b.D) ?_
   refine rvP C (.ptr 0 0) ?_
   refine rvP C (.ptr 0 0) ?_
   refine rvP C (.ptr 0 1) ?_
   refine rvP C (.pv (.lit (.int .i64 vc.at_))) ?_
   have h5 : vc.b.D[vc.at_.toNat]? = some vc.b.D[vc.at_.toNat]! := getE (by have := ne_of_beq_false ‹(vc.at_ == (vc.b.D.length : Int)) = false›; omega)
   refine rvc_un (rexec_idxS C rfl rfl rfl rfl rfl rfl (vc.b.D[vc.at_.toNat]!) (by have := eq_of_bne_false h1; have := ne_of_beq_false h4; omega) h5 ?_)
   refine rvP C (.pv (.lit (.int .u8 (vc.b.D[vc.at_.toNat]!)))) ?_
   refine rvP C (.pv (.lit (.int .u8 (vc.b.D[vc.at_.toNat]!)))) ?_
   refine rvc_nil ?_
   refine Awp.consP C ?_
   refine rvP C (.ptr 0 0) ?_
   refine rvP C (.ptr 0 0) ?_
   refine rvP C (.ptr 0 1) ?_
   refine rvP C (.pv (.lit (.int .i64 vc.at_))) ?_
   refine rvP C (.pv (.lit (.int .i64 (IntKind.i64.wrap (vc.at_ + 1))))) ?_
   refine rvP C (.ptr 0 0) ?_
   refine rvP C (.ptr 0 1) ?_
   refine rvc_un (rexec_prim C (δ := { v := .undef, wr := [(0, some (.cells [sS (some vc.b.nil) (eI .u8) vc.b.D, .pv (.lit (.int .i64 (IntKind.i64.wrap (vc.at_ + 1)))), .pv (.lit (.int .i64 vc.err)), .pv (.lit (.bool vc.made))]))] }) rfl rfl rfl rfl trivial rfl ?_)
   refine rvc_nil ?_
   refine Awp.consP C ?_
   refine rvP C (.pv (.lit (.int .u8 (vc.b.D[vc.at_.toNat]!)))) ?_
   refine rvP C (.pv (.lit (.int .u8 (bitI .and .u8 (vc.b.D[vc.at_.toNat]!) 127)))) ?_
   refine rvP C (.pv (.lit (.int .u64 (IntKind.u64.wrap (bitI .and .u8 (vc.b.D[vc.at_.toNat]!) 127))))) ?_
   refine rvP C (.pv (.lit (.int .u64 (IntKind.u64.wrap (bitI .and .u8 (vc.b.D[vc.at_.toNat]!) 127))))) ?_
   refine rvc_nil ?_
   refine Awp.seq ?_
   refine Awp.block ?_
   refine Awp.consP C ?_
   refine rvP C (.pv (.lit (.int .i64 shift))) ?_
   refine rvP C (.pv (.lit (.bool (shift == 63)))) ?_
   refine rvP C (.pv (.lit (.bool (shift == 63)))) ?_
   refine rvc_case 53 (shift == 63) rfl (fun h6 => ?_) (fun h6 => ?_)
   ·
    replace hR := of_true h6 hR
    refine rvO C (.pv (.lit (.int .u64 (IntKind.u64.wrap (bitI .and .u8 (vc.b.D[vc.at_.toNat]!) 127))))) ?_
    refine rvO C (.pv (.lit (.bool (decide ((IntKind.u64.wrap (bitI .and .u8 (vc.b.D[vc.at_.toNat]!) 127)) > 1))))) ?_
    refine rvP C (.pv (.lit (.bool (decide ((IntKind.u64.wrap (bitI .and .u8 (vc.b.D[vc.at_.toNat]!) 127)) > 1))))) ?_
    refine rvP C (.pv (.lit (.bool (decide ((IntKind.u64.wrap (bitI .and .u8 (vc.b.D[vc.at_.toNat]!) 127)) > 1))))) ?_
    refine rvc_case 57 (decide ((IntKind.u64.wrap (bitI .and .u8 (vc.b.D[vc.at_.toNat]!) 127)) > 1)) rfl (fun h7 => ?_) (fun h7 => ?_)
    ·
     replace hR := of_true h7 hR
     refine rvS ?_
     refine rvS ?_
     refine rvP C (.pv (.lit (.bool true))) ?_
     refine rvP C (.pv (.lit (.bool true))) ?_
     refine rvc_nil ?_
     refine Awp.condT (b := true) rfl rfl ?_
     refine Awp.cons C (fun _ => .writer) (by kernel_rfl) ?_
     refine rvP C (.ptr 0 0) ?_
     refine rvP C (.pv (.lit (.int .i64 r.at_))) ?_
     refine rvc_un (rexec_callM hP C (b := 0) rfl rfl rfl (rdStop_calls (Reader.mk vc.b (IntKind.i64.wrap (vc.at_ + 1)) vc.err vc.made) r.at_ 5) rfl rfl ?_)
     refine rvc_nil ?_
     refine Awp.consP C ?_
     refine rvP C (.pv (.lit (.int .u64 0))) ?_
     refine rvc_nil ?_
     refine Awp.ret ?_
     subst hR
     exact ⟨.inl rfl, rfl, rfl⟩
    ·
     replace hR := of_false h7 hR
     refine rvO C (.pv (.lit (.int .i64 shift))) ?_
     refine rvO C (.pv (.lit (.bool (decide (shift > 63))))) ?_
     refine rvP C (.pv (.lit (.bool (decide (shift > 63))))) ?_
     refine rvP C (.pv (.lit (.bool (decide (shift > 63))))) ?_
     refine rvc_nil ?_
     refine Awp.cond (b := (decide (shift > 63))) rfl (fun h8 => ?_) (fun h8 => ?_)
     ·
      replace hR := of_true h8 hR
      refine Awp.cons C (fun _ => .writer) (by kernel_rfl) ?_
      refine rvP C (.ptr 0 0) ?_
      refine rvP C (.pv (.lit (.int .i64 r.at_))) ?_
      refine rvc_un (rexec_callM hP C (b := 0) rfl rfl rfl (rdStop_calls (Reader.mk vc.b (IntKind.i64.wrap (vc.at_ + 1)) vc.err vc.made) r.at_ 5) rfl rfl ?_)
      refine rvc_nil ?_
      refine Awp.consP C ?_
      refine rvP C (.pv (.lit (.int .u64 0))) ?_
      refine rvc_nil ?_
      refine Awp.ret ?_
      subst hR
      exact ⟨.inl rfl, rfl, rfl⟩
     ·
      replace hR := of_false h8 hR
      refine Awp.consP C ?_
      refine rvP C (.pv (.lit (.int .u8 (vc.b.D[vc.at_.toNat]!)))) ?_
      refine rvP C (.pv (.lit (.bool ((vc.b.D[vc.at_.toNat]!) == 0)))) ?_
      refine rvP C (.pv (.lit (.bool ((vc.b.D[vc.at_.toNat]!) == 0)))) ?_
      refine rvc_case 67 ((vc.b.D[vc.at_.toNat]!) == 0) rfl (fun h9 => ?_) (fun h9 => ?_)
      ·
       replace hR := of_true h9 hR
       refine rvO C (.pv (.lit (.int .i64 shift))) ?_
       refine rvO C (.pv (.lit (.bool (decide (shift > 0))))) ?_
       refine rvP C (.pv (.lit (.bool (decide (shift > 0))))) ?_
       refine rvP C (.pv (.lit (.bool (decide (shift > 0))))) ?_
       refine rvc_nil ?_
       refine Awp.cond (b := (decide (shift > 0))) rfl (fun h10 => ?_) (fun h10 => ?_)
       ·
        replace hR := of_true h10 hR
        refine Awp.cons C (fun _ => .writer) (by kernel_rfl) ?_
        refine rvP C (.ptr 0 0) ?_
        refine rvP C (.pv (.lit (.int .i64 r.at_))) ?_
        refine rvc_un (rexec_callM hP C (b := 0) rfl rfl rfl (rdStop_calls (Reader.mk vc.b (IntKind.i64.wrap (vc.at_ + 1)) vc.err vc.made) r.at_ 10) rfl rfl ?_)
        refine rvc_nil ?_
        refine Awp.consP C ?_
        refine rvP C (.pv (.lit (.int .u64 0))) ?_
        refine rvc_nil ?_
        refine Awp.ret ?_
        subst hR
        exact ⟨.inl rfl, rfl, rfl⟩
       ·
        replace hR := of_false h10 hR
        refine Awp.skip ?_
        refine Awp.consP C ?_
        refine rvP C (.pv (.lit (.int .u64 n))) ?_
        refine rvP C (.pv (.lit (.int .u64 (IntKind.u64.wrap (bitI .and .u8 (vc.b.D[vc.at_.toNat]!) 127))))) ?_
        refine rvP C (.pv (.lit (.int .i64 shift))) ?_
        refine rvc_un (rexec_prim C (δ := { v := .pv (.lit (.int .u64 (shlI .u64 (IntKind.u64.wrap (bitI .and .u8 (vc.b.D[vc.at_.toNat]!) 127)) shift))) }) rfl rfl rfl rfl (by omega) rfl ?_)
        refine rvP C (.pv (.lit (.int .u64 (bitI .or .u64 n (shlI .u64 (IntKind.u64.wrap (bitI .and .u8 (vc.b.D[vc.at_.toNat]!) 127)) shift))))) ?_
        refine rvP C (.pv (.lit (.int .u64 (bitI .or .u64 n (shlI .u64 (IntKind.u64.wrap (bitI .and .u8 (vc.b.D[vc.at_.toNat]!) 127)) shift))))) ?_
        refine rvc_nil ?_
        refine Awp.consP C ?_
        refine rvP C (.pv (.lit (.int .u8 (vc.b.D[vc.at_.toNat]!)))) ?_
        refine rvP C (.pv (.lit (.bool (decide ((vc.b.D[vc.at_.toNat]!) < 128))))) ?_
        refine rvc_nil ?_
        refine Awp.cond (b := (decide ((vc.b.D[vc.at_.toNat]!) < 128))) rfl (fun h11 => ?_) (fun h11 => ?_)
        ·
         replace hR := of_true h11 hR
         refine Awp.consP C ?_
         refine rvP C (.pv (.lit (.int .u64 (bitI .or .u64 n (shlI .u64 (IntKind.u64.wrap (bitI .and .u8 (vc.b.D[vc.at_.toNat]!) 127)) shift))))) ?_
         refine rvP C (.pv (.lit (.int .u64 (bitI .or .u64 n (shlI .u64 (IntKind.u64.wrap (bitI .and .u8 (vc.b.D[vc.at_.toNat]!) 127)) shift))))) ?_
         refine rvc_nil ?_
         refine Awp.ret ?_
         subst hR
         exact ⟨.inl rfl, rfl, rfl⟩
        ·
         replace hR := of_false h11 hR
         refine Awp.skip ?_
         refine Awp.regionP C ?_
         refine rvP C (.pv (.lit (.int .i64 shift))) ?_
         refine rvP C (.pv (.lit (.int .i64 (IntKind.i64.wrap (shift + 7))))) ?_
         refine rvP C (.pv (.lit (.int .i64 (IntKind.i64.wrap (shift + 7))))) ?_
         refine rvc_nil ?_
         refine ⟨_, ((bitI .or .u64 n (shlI .u64 (IntKind.u64.wrap (bitI .and .u8 (vc.b.D[vc.at_.toNat]!) 127)) shift)), (IntKind.i64.wrap (shift + 7)), (Reader.mk vc.b (IntKind.i64.wrap (vc.at_ + 1)) vc.err vc.made)), ?_, ⟨rfl, (by rw [show ((Reader.mk vc.b (IntKind.i64.wrap (vc.at_ + 1)) vc.err vc.made).b.D.length - (Reader.mk vc.b (IntKind.i64.wrap (vc.at_ + 1)) vc.err vc.made).at_.toNat) + 1 = (vc.b.D.length - vc.at_.toNat) by (have := wrapI (vc.at_ + 1); have := ne_of_beq_false ‹(vc.at_ == (vc.b.D.length : Int)) = false›; dsimp only; omega)]; exact hR), ⟨(by have := wrapI (vc.at_ + 1); have := ne_of_beq_false ‹(vc.at_ == (vc.b.D.length : Int)) = false›; dsimp only; omega), (by have := wrapI (shift + 7); have := of_decide_eq_false ‹decide (shift > 63) = false›; dsimp only; omega)⟩⟩, ?_⟩
         · show ((Reader.mk vc.b (IntKind.i64.wrap (vc.at_ + 1)) vc.err vc.made).b.D.length - (Reader.mk vc.b (IntKind.i64.wrap (vc.at_ + 1)) vc.err vc.made).at_.toNat) < (vc.b.D.length - vc.at_.toNat); (have := wrapI (vc.at_ + 1); have := ne_of_beq_false ‹(vc.at_ == (vc.b.D.length : Int)) = false›; dsimp only; omega)
         · exact ⟨fun b => b, WeakerR.ofLI (I := [0]) (Ks := [0]) hI ⟨⟨rfl, rfl⟩, ⟨rfl, rfl⟩, ⟨rfl, rfl⟩, ⟨rfl, rfl⟩, trivial⟩ (okH_cons rfl rfl rfl rfl (okH_nil)) rfl rfl⟩
      ·
       replace hR := of_false h9 hR
       refine rvS ?_
       refine rvS ?_
       refine rvP C (.pv (.lit (.bool false))) ?_
       refine rvP C (.pv (.lit (.bool false))) ?_
       refine rvc_nil ?_
       refine Awp.condF (b := false) rfl rfl ?_
       refine Awp.skip ?_
       refine Awp.consP C ?_
       refine rvP C (.pv (.lit (.int .u64 n))) ?_
       refine rvP C (.pv (.lit (.int .u64 (IntKind.u64.wrap (bitI .and .u8 (vc.b.D[vc.at_.toNat]!) 127))))) ?_
       refine rvP C (.pv (.lit (.int .i64 shift))) ?_
       refine rvc_un (rexec_prim C (δ := { v := .pv (.lit (.int .u64 (shlI .u64 (IntKind.u64.wrap (bitI .and .u8 (vc.b.D[vc.at_.toNat]!) 127)) shift))) }) rfl rfl rfl rfl (by omega) rfl ?_)
       refine rvP C (.pv (.lit (.int .u64 (bitI .or .u64 n (shlI .u64 (IntKind.u64.wrap (bitI .and .u8 (vc.b.D[vc.at_.toNat]!) 127)) shift))))) ?_
       refine rvP C (.pv (.lit (.int .u64 (bitI .or .u64 n (shlI .u64 (IntKind.u64.wrap (bitI .and .u8 (vc.b.D[vc.at_.toNat]!) 127)) shift))))) ?_
       refine rvc_nil ?_
       refine Awp.consP C ?_
       refine rvP C (.pv (.lit (.int .u8 (vc.b.D[vc.at_.toNat]!)))) ?_
       refine rvP C (.pv (.lit (.bool (decide ((vc.b.D[vc.at_.toNat]!) < 128))))) ?_
       refine rvc_nil ?_
       refine Awp.cond (b := (decide ((vc.b.D[vc.at_.toNat]!) < 128))) rfl (fun h12 => ?_) (fun h12 => ?_)
       ·
        replace hR := of_true h12 hR
        refine Awp.consP C ?_
        refine rvP C (.pv (.lit (.int .u64 (bitI .or .u64 n (shlI .u64 (IntKind.u64.wrap (bitI .and .u8 (vc.b.D[vc.at_.toNat]!) 127)) shift))))) ?_
        refine rvP C (.pv (.lit (.int .u64 (bitI .or .u64 n (shlI .u64 (IntKind.u64.wrap (bitI .and .u8 (vc.b.D[vc.at_.toNat]!) 127)) shift))))) ?_
        refine rvc_nil ?_
        refine Awp.ret ?_
        subst hR
        exact ⟨.inl rfl, rfl, rfl⟩
       ·
        replace hR := of_false h12 hR
        refine Awp.skip ?_
        refine Awp.regionP C ?_
        refine rvP C (.pv (.lit (.int .i64 shift))) ?_
        refine rvP C (.pv (.lit (.int .i64 (IntKind.i64.wrap (shift + 7))))) ?_
        refine rvP C (.pv (.lit (.int .i64 (IntKind.i64.wrap (shift + 7))))) ?_
        refine rvc_nil ?_
        refine ⟨_, ((bitI .or .u64 n (shlI .u64 (IntKind.u64.wrap (bitI .and .u8 (vc.b.D[vc.at_.toNat]!) 127)) shift)), (IntKind.i64.wrap (shift + 7)), (Reader.mk vc.b (IntKind.i64.wrap (vc.at_ + 1)) vc.err vc.made)), ?_, ⟨rfl, (by rw [show ((Reader.mk vc.b (IntKind.i64.wrap (vc.at_ + 1)) vc.err vc.made).b.D.length - (Reader.mk vc.b (IntKind.i64.wrap (vc.at_ + 1)) vc.err vc.made).at_.toNat) + 1 = (vc.b.D.length - vc.at_.toNat) by (have := wrapI (vc.at_ + 1); have := ne_of_beq_false ‹(vc.at_ == (vc.b.D.length : Int)) = false›; dsimp only; omega)]; exact hR), ⟨(by have := wrapI (vc.at_ + 1); have := ne_of_beq_false ‹(vc.at_ == (vc.b.D.length : Int)) = false›; dsimp only; omega), (by have := wrapI (shift + 7); have := of_decide_eq_false ‹decide (shift > 63) = false›; dsimp only; omega)⟩⟩, ?_⟩
        · show ((Reader.mk vc.b (IntKind.i64.wrap (vc.at_ + 1)) vc.err vc.made).b.D.length - (Reader.mk vc.b (IntKind.i64.wrap (vc.at_ + 1)) vc.err vc.made).at_.toNat) < (vc.b.D.length - vc.at_.toNat); (have := wrapI (vc.at_ + 1); have := ne_of_beq_false ‹(vc.at_ == (vc.b.D.length : Int)) = false›; dsimp only; omega)
        · exact ⟨fun b => b, WeakerR.ofLI (I := [0]) (Ks := [0]) hI ⟨⟨rfl, rfl⟩, ⟨rfl, rfl⟩, ⟨rfl, rfl⟩, ⟨rfl, rfl⟩, trivial⟩ (okH_cons rfl rfl rfl rfl (okH_nil)) rfl rfl⟩
   ·
    replace hR := of_false h6 hR
    refine rvS ?_
    refine rvS ?_
    refine rvP C (.pv (.lit (.bool false))) ?_
    refine rvP C (.pv (.lit (.bool false))) ?_
    refine rvO C (.pv (.lit (.int .i64 shift))) ?_
    refine rvO C (.pv (.lit (.bool (decide (shift > 63))))) ?_
    refine rvP C (.pv (.lit (.bool (decide (shift > 63))))) ?_
    refine rvP C (.pv (.lit (.bool (decide (shift > 63))))) ?_
    refine rvc_nil ?_
    refine Awp.cond (b := (decide (shift > 63))) rfl (fun h13 => ?_) (fun h13 => ?_)
    ·
     replace hR := of_true h13 hR
     refine Awp.cons C (fun _ => .writer) (by kernel_rfl) ?_
     refine rvP C (.ptr 0 0) ?_
     refine rvP C (.pv (.lit (.int .i64 r.at_))) ?_
     refine rvc_un (rexec_callM hP C (b := 0) rfl rfl rfl (rdStop_calls (Reader.mk vc.b (IntKind.i64.wrap (vc.at_ + 1)) vc.err vc.made) r.at_ 5) rfl rfl ?_)
     refine rvc_nil ?_
     refine Awp.consP C ?_
     refine rvP C (.pv (.lit (.int .u64 0))) ?_
     refine rvc_nil ?_
     refine Awp.ret ?_
     subst hR
     exact ⟨.inl rfl, rfl, rfl⟩
    ·
     replace hR := of_false h13 hR
     refine Awp.consP C ?_
     refine rvP C (.pv (.lit (.int .u8 (vc.b.D[vc.at_.toNat]!)))) ?_
     refine rvP C (.pv (.lit (.bool ((vc.b.D[vc.at_.toNat]!) == 0)))) ?_
     refine rvP C (.pv (.lit (.bool ((vc.b.D[vc.at_.toNat]!) == 0)))) ?_
     refine rvc_case 67 ((vc.b.D[vc.at_.toNat]!) == 0) rfl (fun h14 => ?_) (fun h14 => ?_)
     ·
      replace hR := of_true h14 hR
      refine rvO C (.pv (.lit (.int .i64 shift))) ?_
      refine rvO C (.pv (.lit (.bool (decide (shift > 0))))) ?_
      refine rvP C (.pv (.lit (.bool (decide (shift > 0))))) ?_
      refine rvP C (.pv (.lit (.bool (decide (shift > 0))))) ?_
      refine rvc_nil ?_
      refine Awp.cond (b := (decide (shift > 0))) rfl (fun h15 => ?_) (fun h15 => ?_)
      ·
       replace hR := of_true h15 hR
       refine Awp.cons C (fun _ => .writer) (by kernel_rfl) ?_
       refine rvP C (.ptr 0 0) ?_
       refine rvP C (.pv (.lit (.int .i64 r.at_))) ?_
       refine rvc_un (rexec_callM hP C (b := 0) rfl rfl rfl (rdStop_calls (Reader.mk vc.b (IntKind.i64.wrap (vc.at_ + 1)) vc.err vc.made) r.at_ 10) rfl rfl ?_)
       refine rvc_nil ?_
       refine Awp.consP C ?_
       refine rvP C (.pv (.lit (.int .u64 0))) ?_
       refine rvc_nil ?_
       refine Awp.ret ?_
       subst hR
       exact ⟨.inl rfl, rfl, rfl⟩
      ·
       replace hR := of_false h15 hR
       refine Awp.skip ?_
       refine Awp.consP C ?_
       refine rvP C (.pv (.lit (.int .u64 n))) ?_
       refine rvP C (.pv (.lit (.int .u64 (IntKind.u64.wrap (bitI .and .u8 (vc.b.D[vc.at_.toNat]!) 127))))) ?_
       refine rvP C (.pv (.lit (.int .i64 shift))) ?_
       refine rvc_un (rexec_prim C (δ := { v := .pv (.lit (.int .u64 (shlI .u64 (IntKind.u64.wrap (bitI .and .u8 (vc.b.D[vc.at_.toNat]!) 127)) shift))) }) rfl rfl rfl rfl (by omega) rfl ?_)
       refine rvP C (.pv (.lit (.int .u64 (bitI .or .u64 n (shlI .u64 (IntKind.u64.wrap (bitI .and .u8 (vc.b.D[vc.at_.toNat]!) 127)) shift))))) ?_
       refine rvP C (.pv (.lit (.int .u64 (bitI .or .u64 n (shlI .u64 (IntKind.u64.wrap (bitI .and .u8 (vc.b.D[vc.at_.toNat]!) 127)) shift))))) ?_
       refine rvc_nil ?_
       refine Awp.consP C ?_
       refine rvP C (.pv (.lit (.int .u8 (vc.b.D[vc.at_.toNat]!)))) ?_
       refine rvP C (.pv (.lit (.bool (decide ((vc.b.D[vc.at_.toNat]!) < 128))))) ?_
       refine rvc_nil ?_
       refine Awp.cond (b := (decide ((vc.b.D[vc.at_.toNat]!) < 128))) rfl (fun h16 => ?_) (fun h16 => ?_)
       ·
        replace hR := of_true h16 hR
        refine Awp.consP C ?_
        refine rvP C (.pv (.lit (.int .u64 (bitI .or .u64 n (shlI .u64 (IntKind.u64.wrap (bitI .and .u8 (vc.b.D[vc.at_.toNat]!) 127)) shift))))) ?_
        refine rvP C (.pv (.lit (.int .u64 (bitI .or .u64 n (shlI .u64 (IntKind.u64.wrap (bitI .and .u8 (vc.b.D[vc.at_.toNat]!) 127)) shift))))) ?_
        refine rvc_nil ?_
        refine Awp.ret ?_
        subst hR
        exact ⟨.inl rfl, rfl, rfl⟩
       ·
        replace hR := of_false h16 hR
        refine Awp.skip ?_
        refine Awp.regionP C ?_
        refine rvP C (.pv (.lit (.int .i64 shift))) ?_
        refine rvP C (.pv (.lit (.int .i64 (IntKind.i64.wrap (shift + 7))))) ?_
        refine rvP C (.pv (.lit (.int .i64 (IntKind.i64.wrap (shift + 7))))) ?_
        refine rvc_nil ?_
        refine ⟨_, ((bitI .or .u64 n (shlI .u64 (IntKind.u64.wrap (bitI .and .u8 (vc.b.D[vc.at_.toNat]!) 127)) shift)), (IntKind.i64.wrap (shift + 7)), (Reader.mk vc.b (IntKind.i64.wrap (vc.at_ + 1)) vc.err vc.made)), ?_, ⟨rfl, (by rw [show ((Reader.mk vc.b (IntKind.i64.wrap (vc.at_ + 1)) vc.err vc.made).b.D.length - (Reader.mk vc.b (IntKind.i64.wrap (vc.at_ + 1)) vc.err vc.made).at_.toNat) + 1 = (vc.b.D.length - vc.at_.toNat) by (have := wrapI (vc.at_ + 1); have := ne_of_beq_false ‹(vc.at_ == (vc.b.D.length : Int)) = false›; dsimp only; omega)]; exact hR), ⟨(by have := wrapI (vc.at_ + 1); have := ne_of_beq_false ‹(vc.at_ == (vc.b.D.length : Int)) = false›; dsimp only; omega), (by have := wrapI (shift + 7); have := of_decide_eq_false ‹decide (shift > 63) = false›; dsimp only; omega)⟩⟩, ?_⟩
        · show ((Reader.mk vc.b (IntKind.i64.wrap (vc.at_ + 1)) vc.err vc.made).b.D.length - (Reader.mk vc.b (IntKind.i64.wrap (vc.at_ + 1)) vc.err vc.made).at_.toNat) < (vc.b.D.length - vc.at_.toNat); (have := wrapI (vc.at_ + 1); have := ne_of_beq_false ‹(vc.at_ == (vc.b.D.length : Int)) = false›; dsimp only; omega)
        · exact ⟨fun b => b, WeakerR.ofLI (I := [0]) (Ks := [0]) hI ⟨⟨rfl, rfl⟩, ⟨rfl, rfl⟩, ⟨rfl, rfl⟩, ⟨rfl, rfl⟩, trivial⟩ (okH_cons rfl rfl rfl rfl (okH_nil)) rfl rfl⟩
     ·
      replace hR := of_false h14 hR
      refine rvS ?_
      refine rvS ?_
      refine rvP C (.pv (.lit (.bool false))) ?_
      refine rvP C (.pv (.lit (.bool false))) ?_
      refine rvc_nil ?_
      refine Awp.condF (b := false) rfl rfl ?_
      refine Awp.skip ?_
      refine Awp.consP C ?_
      refine rvP C (.pv (.lit (.int .u64 n))) ?_
      refine rvP C (.pv (.lit (.int .u64 (IntKind.u64.wrap (bitI .and .u8 (vc.b.D[vc.at_.toNat]!) 127))))) ?_
      refine rvP C (.pv (.lit (.int .i64 shift))) ?_
      refine rvc_un (rexec_prim C (δ := { v := .pv (.lit (.int .u64 (shlI .u64 (IntKind.u64.wrap (bitI .and .u8 (vc.b.D[vc.at_.toNat]!) 127)) shift))) }) rfl rfl rfl rfl (by omega) rfl ?_)
      refine rvP C (.pv (.lit (.int .u64 (bitI .or .u64 n (shlI .u64 (IntKind.u64.wrap (bitI .and .u8 (vc.b.D[vc.at_.toNat]!) 127)) shift))))) ?_
      refine rvP C (.pv (.lit (.int .u64 (bitI .or .u64 n (shlI .u64 (IntKind.u64.wrap (bitI .and .u8 (vc.b.D[vc.at_.toNat]!) 127)) shift))))) ?_
      refine rvc_nil ?_
      refine Awp.consP C ?_
      refine rvP C (.pv (.lit (.int .u8 (vc.b.D[vc.at_.toNat]!)))) ?_
      refine rvP C (.pv (.lit (.bool (decide ((vc.b.D[vc.at_.toNat]!) < 128))))) ?_
      refine rvc_nil ?_
      refine Awp.cond (b := (decide ((vc.b.D[vc.at_.toNat]!) < 128))) rfl (fun h17 => ?_) (fun h17 => ?_)
      ·
       replace hR := of_true h17 hR
       refine Awp.consP C ?_
       refine rvP C (.pv (.lit (.int .u64 (bitI .or .u64 n (shlI .u64 (IntKind.u64.wrap (bitI .and .u8 (vc.b.D[vc.at_.toNat]!) 127)) shift))))) ?_
       refine rvP C (.pv (.lit (.int .u64 (bitI .or .u64 n (shlI .u64 (IntKind.u64.wrap (bitI .and .u8 (vc.b.D[vc.at_.toNat]!) 127)) shift))))) ?_
       refine rvc_nil ?_
       refine Awp.ret ?_
       subst hR
       exact ⟨.inl rfl, rfl, rfl⟩
      ·
       replace hR := of_false h17 hR
       refine Awp.skip ?_
       refine Awp.regionP C ?_
       refine rvP C (.pv (.lit (.int .i64 shift))) ?_
       refine rvP C (.pv (.lit (.int .i64 (IntKind.i64.wrap (shift + 7))))) ?_
       refine rvP C (.pv (.lit (.int .i64 (IntKind.i64.wrap (shift + 7))))) ?_
       refine rvc_nil ?_
       refine ⟨_, ((bitI .or .u64 n (shlI .u64 (IntKind.u64.wrap (bitI .and .u8 (vc.b.D[vc.at_.toNat]!) 127)) shift)), (IntKind.i64.wrap (shift + 7)), (Reader.mk vc.b (IntKind.i64.wrap (vc.at_ + 1)) vc.err vc.made)), ?_, ⟨rfl, (by rw [show ((Reader.mk vc.b (IntKind.i64.wrap (vc.at_ + 1)) vc.err vc.made).b.D.length - (Reader.mk vc.b (IntKind.i64.wrap (vc.at_ + 1)) vc.err vc.made).at_.toNat) + 1 = (vc.b.D.length - vc.at_.toNat) by (have := wrapI (vc.at_ + 1); have := ne_of_beq_false ‹(vc.at_ == (vc.b.D.length : Int)) = false›; dsimp only; omega)]; exact hR), ⟨(by have := wrapI (vc.at_ + 1); have := ne_of_beq_false ‹(vc.at_ == (vc.b.D.length : Int)) = false›; dsimp only; omega), (by have := wrapI (shift + 7); have := of_decide_eq_false ‹decide (shift > 63) = false›; dsimp only; omega)⟩⟩, ?_⟩
       · show ((Reader.mk vc.b (IntKind.i64.wrap (vc.at_ + 1)) vc.err vc.made).b.D.length - (Reader.mk vc.b (IntKind.i64.wrap (vc.at_ + 1)) vc.err vc.made).at_.toNat) < (vc.b.D.length - vc.at_.toNat); (have := wrapI (vc.at_ + 1); have := ne_of_beq_false ‹(vc.at_ == (vc.b.D.length : Int)) = false›; dsimp only; omega)
       · exact ⟨fun b => b, WeakerR.ofLI (I := [0]) (Ks := [0]) hI ⟨⟨rfl, rfl⟩, ⟨rfl, rfl⟩, ⟨rfl, rfl⟩, ⟨rfl, rfl⟩, trivial⟩ (okH_cons rfl rfl rfl rfl (okH_nil)) rfl rfl⟩
end Go.Proofs.Ytpgenmflgdkfiaa
/- The reference: readers of bytes; numbers as bytes. No conditions. -/
namespace Go.Proofs.Ytpgenmflgdkfiaa
open Go.Am
structure Reader94 where
  b : (Sl Int)
  at_ : Int
  e_ : Int
  deriving Inhabited
def rPut_l1 (kk : (List Int) → Int → (Sl Int)) : Nat → Nat → (List Int) → Int → (Sl Int)
  | 0, _, out1, n => kk out1 n
  | k + 1, i1, out1, n => (bif (decide (n < 128)) then kk out1 n else rPut_l1 kk k (i1 + 1) (out1 ++ [(IntKind.u8.wrap (IntKind.u64.wrap (128 + (n.tmod 128))))]) (IntKind.u64.wrap (n.tdiv 128)))
def rPut_l0 : List Int → Nat → (List Int) → (Sl Int)
  | [], _, out => (Sl.mk false out)
  | x :: xs, i, out => rPut_l1 (fun out1 n => rPut_l0 xs (i + 1) (out1 ++ [(IntKind.u8.wrap n)])) 10 0 out x
def rPut (b : (Sl Int)) (l : (Sl Int)) : (Sl Int) :=
  rPut_l0 l.D 0 b.D
theorem rPut_calls (b : (Sl Int)) (l : (Sl Int)) (hl1 : b.D.length ≤ 1000000) (hl2 : l.D.length ≤ 1000000) : PCalls Try.prog 46 [sS (some b.nil) (eI .u8) b.D, sS (some l.nil) (eI .u64) l.D] (sS (some (rPut b l).nil) (eI .u8) ((rPut b l).D)) := by
 generalize hR : rPut b l = R
 refine PCalls.of_body tabOk Try.func46 rfl rfl rfl rfl rfl mixed fun E hP C hI => ?_
 refine Awp.consP C ?_
 refine rvP C (sS (some true) (eI .u8) []) ?_
 refine rvc_nil ?_
 refine Awp.consP C ?_
 refine rvc_un (rexec_prim C (δ := { v := .sl 8 0 0 1 true, new := [(8, .cells (encC (eI .u8) []))] }) rfl rfl rfl rfl trivial rfl ?_)
 refine rvP C (sS (some b.nil) (eI .u8) b.D) ?_
 refine rvc_un (rexec_append C rfl rfl rfl rfl rfl rfl rfl rfl (fun _ h => by cases h) rfl (en := (eI .u8)) (D0 := []) (D := b.D) rfl rfl rfl rfl (by first | omega | (simp <;> omega)) (by decide) (nn := b.D.length) (by simp) ?_)
 refine rvP C (.sl 10 0 b.D.length 1 false) ?_
 refine rvc_nil ?_
 refine Awp.seq ?_
 refine Awp.consP C ?_
 refine rvP C (sS (some l.nil) (eI .u64) l.D) ?_
 refine rvP C (.pv (.lit (.int .i64 (l.D.length : Int)))) ?_
 refine rvP C (.pv (.lit (.int .i64 0))) ?_
 refine rvc_nil ?_
 refine Awp.block ?_
 refine Awp.forR (σ := ((List Int))) (l.D.length) (fun i v => [(5, .sl 900 0 v.length 1 false), (11, sS (some l.nil) (eI .u64) l.D), (12, .pv (.lit (.int .i64 (l.D.length : Int)))), (13, .pv (.lit (.int .i64 (i : Int))))]) (fun i v => [(900, .cells (encC (eI .u8) v))]) [900] (fun i v => (rPut_l0 (l.D.drop i) i v = R) ∧ (v.length ≤ b.D.length + i * 1000000)) b.D ?_ ?_ (fun i out h1 hR => ?_)
 · exact ⟨hR, (by first | omega | (simp <;> omega))⟩
 · exact ⟨fun b => bif b == 900 then 10 else (fun b => b) b, WeakerR.ofL (Ks := [900]) hI ⟨⟨rfl, rfl⟩, ⟨rfl, rfl⟩, ⟨rfl, rfl⟩, ⟨rfl, rfl⟩, trivial⟩ (okH_list rfl rfl rfl (okH_nil)) rfl⟩
 obtain ⟨hR, hi_out⟩ := hR
 replace hi_out : out.length ≤ b.D.length + i * 1000000 := hi_out
 refine Awp.consP C ?_
 refine rvP C (.pv (.lit (.bool (decide ((i : Int) < (l.D.length : Int)))))) ?_
 refine rvc_nil ?_
 refine Awp.seq ?_
 refine Awp.cond (b := (decide ((i : Int) < (l.D.length : Int)))) rfl (fun h2 => ?_) (fun h2 => ?_)
 ·
  have h3 : i < l.D.length := by have := of_decide_eq_true h2; omega
  obtain ⟨x, h4⟩ := getX h3
  rw [drop_at h4] at hR
  refine Awp.skip ?_
  refine Awp.seq ?_
  refine Awp.block ?_
  refine Awp.consP C ?_
  refine rvc_un (rexec_idxS C rfl rfl rfl rfl rfl rfl x (Int.natCast_nonneg _) h4 ?_)
  refine rvP C (.pv (.lit (.int .u64 x))) ?_
  refine rvP C (.pv (.lit (.int .u64 x))) ?_
  refine rvc_nil ?_
  refine Awp.seq ?_
  refine Awp.consP C ?_
  refine rvP C (.pv (.lit (.int .i64 0))) ?_
  refine rvc_nil ?_
  refine Awp.block ?_
  refine Awp.forR (σ := ((List Int)) × Int) (10) (fun i1 v => [(5, .sl 901 0 v.1.length 1 false), (7, .pv (.lit (.int .u64 v.2))), (11, sS (some l.nil) (eI .u64) l.D), (12, .pv (.lit (.int .i64 (l.D.length : Int)))), (13, .pv (.lit (.int .i64 (i : Int)))), (17, .pv (.lit (.int .i64 (i1 : Int))))]) (fun i1 v => [(901, .cells (encC (eI .u8) v.1))]) [901] (fun i1 v => (rPut_l1 (fun out1 n => rPut_l0 (l.D.drop (i + 1)) (i + 1) (out1 ++ [(IntKind.u8.wrap n)])) (10 - i1) i1 v.1 v.2 = R) ∧ (v.1.length ≤ out.length + i1)) (out, x) ?_ ?_ (fun i1 v h5 hR => ?_)
  · exact ⟨hR, (by first | omega | (simp <;> omega))⟩
  · exact ⟨fun b => bif b == 901 then 900 else (fun b => b) b, WeakerR.ofL (Ks := [901]) hI ⟨⟨rfl, rfl⟩, ⟨rfl, rfl⟩, ⟨rfl, rfl⟩, ⟨rfl, rfl⟩, ⟨rfl, rfl⟩, ⟨rfl, rfl⟩, trivial⟩ (okH_list rfl rfl rfl (okH_nil)) rfl⟩
  obtain ⟨out1, n⟩ := v
  obtain ⟨hR, hi_out1⟩ := hR
  replace hi_out1 : out1.length ≤ out.length + i1 := hi_out1
  refine Awp.consP C ?_
  refine rvP C (.pv (.lit (.bool (decide ((i1 : Int) < 10))))) ?_
  refine rvc_nil ?_
  refine Awp.seq ?_
  refine Awp.cond (b := (decide ((i1 : Int) < 10))) rfl (fun h6 => ?_) (fun h6 => ?_)
  ·
   have h7 : i1 < 10 := by have := of_decide_eq_true h6; omega
   obtain ⟨k, h8⟩ : ∃ k, 10 - i1 = k + 1 := ⟨10 - i1 - 1, by omega⟩
   rw [h8] at hR
   refine Awp.skip ?_
   refine Awp.seq ?_
   refine Awp.block ?_
   refine Awp.seq ?_
   refine Awp.consP C ?_
   refine rvP C (.pv (.lit (.int .u64 n))) ?_
   refine rvP C (.pv (.lit (.bool (decide (n < 128))))) ?_
   refine rvc_nil ?_
   refine Awp.cond (b := (decide (n < 128))) rfl (fun h9 => ?_) (fun h9 => ?_)
   ·
    replace hR := of_true h9 hR
    refine Awp.exit ?_
    refine Awp.regionP C ?_
    refine rvP C (.sl 901 0 out1.length 1 false) ?_
    refine rvP C (.pv (.lit (.int .u64 n))) ?_
    refine rvP C (.pv (.lit (.int .u8 (IntKind.u8.wrap n)))) ?_
    refine rvc_un (rexec_buildSliceF C (eI .u8) [(IntKind.u8.wrap n)] rfl rfl rfl rfl rfl rfl rfl (by decide) rfl ?_)
    refine rvc_un (rexec_append C rfl rfl rfl rfl rfl rfl rfl rfl (fun _ h => by cases h) rfl (en := (eI .u8)) (D0 := out1) (D := [(IntKind.u8.wrap n)]) rfl rfl rfl rfl (by have := of_decide_eq_true h2; have := of_decide_eq_true h6; have := of_decide_eq_true h9; first | omega | (simp <;> omega)) (by decide) (nn := (out1 ++ [(IntKind.u8.wrap n)]).length) (by simp) ?_)
    refine rvP C (.sl 35 0 ((out1 ++ [(IntKind.u8.wrap n)]).length) 1 false) ?_
    refine rvc_nil ?_
    refine Awp.regionP C ?_
    refine rvP C (.pv (.lit (.int .i64 (IntKind.i64.wrap ((i : Int) + 1))))) ?_
    refine rvP C (.pv (.lit (.int .i64 (IntKind.i64.wrap ((i : Int) + 1))))) ?_
    refine rvc_nil ?_
    refine ⟨h3, (out1 ++ [(IntKind.u8.wrap n)]), ?_, ?_⟩
    · exact ⟨hR, (by first | omega | (simp <;> omega))⟩
    · exact ⟨fun b => bif b == 900 then 35 else (fun b => b) b, WeakerR.ofL (Ks := [900]) hI ⟨⟨rfl, rfl⟩, ⟨rfl, rfl⟩, ⟨rfl, rfl⟩, ⟨lit_cast (wrap_i64 (by omega) (by omega)), rfl⟩, trivial⟩ (okH_list rfl rfl rfl (okH_nil)) rfl⟩
   ·
    replace hR := of_false h9 hR
    refine Awp.skip ?_
    refine Awp.consP C ?_
    refine rvP C (.sl 901 0 out1.length 1 false) ?_
    refine rvP C (.pv (.lit (.int .u64 n))) ?_
    refine rvc_un (rexec_prim C (δ := { v := .pv (.lit (.int .u64 (n.tmod 128))) }) rfl rfl rfl rfl (by first | decide | omega) rfl ?_)
    refine rvP C (.pv (.lit (.int .u64 (IntKind.u64.wrap (128 + (n.tmod 128)))))) ?_
    refine rvP C (.pv (.lit (.int .u8 (IntKind.u8.wrap (IntKind.u64.wrap (128 + (n.tmod 128))))))) ?_
    refine rvc_un (rexec_buildSliceF C (eI .u8) [(IntKind.u8.wrap (IntKind.u64.wrap (128 + (n.tmod 128))))] rfl rfl rfl rfl rfl rfl rfl (by decide) rfl ?_)
    refine rvc_un (rexec_append C rfl rfl rfl rfl rfl rfl rfl rfl (fun _ h => by cases h) rfl (en := (eI .u8)) (D0 := out1) (D := [(IntKind.u8.wrap (IntKind.u64.wrap (128 + (n.tmod 128))))]) rfl rfl rfl rfl (by have := of_decide_eq_true h2; have := of_decide_eq_true h6; have := of_decide_eq_false h9; first | omega | (simp <;> omega)) (by decide) (nn := (out1 ++ [(IntKind.u8.wrap (IntKind.u64.wrap (128 + (n.tmod 128))))]).length) (by simp) ?_)
    refine rvP C (.sl 27 0 ((out1 ++ [(IntKind.u8.wrap (IntKind.u64.wrap (128 + (n.tmod 128))))]).length) 1 false) ?_
    refine rvc_nil ?_
    refine Awp.regionP C ?_
    refine rvP C (.pv (.lit (.int .u64 n))) ?_
    refine rvc_un (rexec_prim C (δ := { v := .pv (.lit (.int .u64 (IntKind.u64.wrap (n.tdiv 128)))) }) rfl rfl rfl rfl (by first | decide | omega) rfl ?_)
    refine rvP C (.pv (.lit (.int .u64 (IntKind.u64.wrap (n.tdiv 128))))) ?_
    refine rvc_nil ?_
    refine Awp.regionP C ?_
    refine rvP C (.pv (.lit (.int .i64 (IntKind.i64.wrap ((i1 : Int) + 1))))) ?_
    refine rvP C (.pv (.lit (.int .i64 (IntKind.i64.wrap ((i1 : Int) + 1))))) ?_
    refine rvc_nil ?_
    refine ⟨h7, ((out1 ++ [(IntKind.u8.wrap (IntKind.u64.wrap (128 + (n.tmod 128))))]), (IntKind.u64.wrap (n.tdiv 128))), ?_, ?_⟩
    · exact ⟨(by rw [show 10 - (i1 + 1) = k by omega]; exact hR), (by first | omega | (simp <;> omega))⟩
    · exact ⟨fun b => bif b == 901 then 27 else (fun b => b) b, WeakerR.ofL (Ks := [901]) hI ⟨⟨rfl, rfl⟩, ⟨rfl, rfl⟩, ⟨rfl, rfl⟩, ⟨rfl, rfl⟩, ⟨rfl, rfl⟩, ⟨lit_cast (wrap_i64 (by omega) (by omega)), rfl⟩, trivial⟩ (okH_list rfl rfl rfl (okH_nil)) rfl⟩
  ·
   rw [show 10 - i1 = 0 by have := of_decide_eq_false h6; omega] at hR
   refine Awp.exit ?_
   refine Awp.regionP C ?_
   refine rvP C (.sl 901 0 out1.length 1 false) ?_
   refine rvP C (.pv (.lit (.int .u64 n))) ?_
   refine rvP C (.pv (.lit (.int .u8 (IntKind.u8.wrap n)))) ?_
   refine rvc_un (rexec_buildSliceF C (eI .u8) [(IntKind.u8.wrap n)] rfl rfl rfl rfl rfl rfl rfl (by decide) rfl ?_)
   refine rvc_un (rexec_append C rfl rfl rfl rfl rfl rfl rfl rfl (fun _ h => by cases h) rfl (en := (eI .u8)) (D0 := out1) (D := [(IntKind.u8.wrap n)]) rfl rfl rfl rfl (by have := of_decide_eq_true h2; have := of_decide_eq_false h6; first | omega | (simp <;> omega)) (by decide) (nn := (out1 ++ [(IntKind.u8.wrap n)]).length) (by simp) ?_)
   refine rvP C (.sl 35 0 ((out1 ++ [(IntKind.u8.wrap n)]).length) 1 false) ?_
   refine rvc_nil ?_
   refine Awp.regionP C ?_
   refine rvP C (.pv (.lit (.int .i64 (IntKind.i64.wrap ((i : Int) + 1))))) ?_
   refine rvP C (.pv (.lit (.int .i64 (IntKind.i64.wrap ((i : Int) + 1))))) ?_
   refine rvc_nil ?_
   refine ⟨h3, (out1 ++ [(IntKind.u8.wrap n)]), ?_, ?_⟩
   · exact ⟨hR, (by first | omega | (simp <;> omega))⟩
   · exact ⟨fun b => bif b == 900 then 35 else (fun b => b) b, WeakerR.ofL (Ks := [900]) hI ⟨⟨rfl, rfl⟩, ⟨rfl, rfl⟩, ⟨rfl, rfl⟩, ⟨lit_cast (wrap_i64 (by omega) (by omega)), rfl⟩, trivial⟩ (okH_list rfl rfl rfl (okH_nil)) rfl⟩
 ·
  have h3 : ¬ i < l.D.length := by have := of_decide_eq_false h2; omega
  rw [drop_end h3] at hR
  refine Awp.exit ?_
  refine Awp.consP C ?_
  refine rvP C (.sl 900 0 out.length 1 false) ?_
  refine rvP C (.sl 900 0 out.length 1 false) ?_
  refine rvc_nil ?_
  refine Awp.freezeW 900 (encL (eI .u8) out) ?_ [(4, sS (some false) (eI .u8) out)] [] ?_ ?_ ?_
  · rfl
  · exact ⟨⟨_, rfl, .inl (.inr ⟨_, _, _, rfl, rfl⟩)⟩, trivial⟩
  · exact trivial
  refine Awp.ret ?_
  subst hR
  exact ⟨.inl rfl, rfl⟩
end Go.Proofs.Ytpgenmflgdkfiaa
/- Numbers as bytes: how many bytes. No conditions. -/
namespace Go.Proofs.Ytpgenmflgdkfiaa
open Go.Am
theorem shr7 (n : Int) : shrI .u64 n 7 = n / 128 := rfl
def putInv (b : Nat) (x : Int) (b1 : List Int) (n : Int) : Prop := ∃ k : Nat, b1.length = b + k ∧ 1 ≤ n ∧ n.toNat * 128 ^ k ≤ x.toNat
theorem putInv_start {D : List Int} {x y : Int} (h : 128 ≤ x) : putInv D.length x (D ++ [y]) (shrI .u64 x 7) := by
  rw [shr7]
  exact ⟨1, by simp, by omega, by omega⟩
theorem putInv_step {b : Nat} {x y n : Int} {b1 : List Int} (h : putInv b x b1 n) (hn : 128 ≤ n) : putInv b x (b1 ++ [y]) (shrI .u64 n 7) := by
  obtain ⟨k, h1, h2, h3⟩ := h
  rw [shr7]
  refine ⟨k + 1, by rw [List.length_append, List.length_singleton]; omega, by omega, Nat.le_trans ?_ h3⟩
  rw [Nat.pow_succ, Nat.mul_comm (128 ^ k), ← Nat.mul_assoc]
  exact Nat.mul_le_mul_right _ (by omega)
theorem putInv_le {b : Nat} {x n : Int} {b1 : List Int} (h : putInv b x b1 n) (hx : x < 18446744073709551616) : b1.length ≤ b + 9 := by
  obtain ⟨k, h1, h2, h3⟩ := h
  rcases Nat.lt_or_ge k 10 with hk | hk
  · omega
  · have h4 : 128 ^ 10 ≤ 128 ^ k := Nat.pow_le_pow_right (by decide) hk
    have h5 : 1 * 128 ^ k ≤ n.toNat * 128 ^ k := Nat.mul_le_mul_right _ (by omega)
    have h6 : (128 : Nat) ^ 10 = 1180591620717411303424 := by decide
    omega
end Go.Proofs.Ytpgenmflgdkfiaa
/- Numbers as bytes. No conditions. -/
namespace Go.Proofs.Ytpgenmflgdkfiaa
open Go.Am
def wPut_l1 (kk : (List Int) → Int → (Sl Int)) : Nat → (List Int) → Int → (Sl Int)
  | 0, _, _ => default
  | nn + 1, b1, n => (bif (decide (n ≥ 128)) then wPut_l1 kk nn (b1 ++ [(bitI .or .u8 (IntKind.u8.wrap n) 128)]) (shrI .u64 n 7) else kk b1 n)
def wPut (b : (Sl Int)) (x : Int) : (Sl Int) :=
  (bif (decide (x ≥ 128)) then wPut_l1 (fun b1 n => (Sl.mk false (b1 ++ [(IntKind.u8.wrap n)]))) ((shrI .u64 x 7).toNat + 1) (b.D ++ [(bitI .or .u8 (IntKind.u8.wrap x) 128)]) (shrI .u64 x 7) else (Sl.mk false (b.D ++ [(IntKind.u8.wrap x)])))
theorem wPut_calls (b : (Sl Int)) (x : Int) (hx : x < 18446744073709551616) (hl1 : b.D.length ≤ 1000000) : PCalls Try.prog 45 [sS (some b.nil) (eI .u8) b.D, sS (some false) (eI .u64) [x]] (sS (some (wPut b x).nil) (eI .u8) ((wPut b x).D)) := by
 generalize hR : wPut b x = R
 refine PCalls.of_body tabOk Try.func45 rfl rfl rfl rfl rfl mixed fun E hP C hI => ?_
 refine Awp.consP C ?_
 refine rvP C (sS (some true) (eI .u8) []) ?_
 refine rvc_nil ?_
 refine Awp.consP C ?_
 refine rvP C (sS (some b.nil) (eI .u8) b.D) ?_
 refine rvP C (sS (some b.nil) (eI .u8) b.D) ?_
 refine rvP C (.pv (.lit (.int .i64 (b.D.length : Int)))) ?_
 refine rvP C (sS (some b.nil) (eI .u8) b.D) ?_
 refine rvP C (.pv (.lit (.int .i64 (b.D.length : Int)))) ?_
 refine rvc_un (rexec_slice3 C (e := (eI .u8)) (D := b.D) rfl rfl rfl rfl rfl rfl ?_)
 refine rvP C (.tsl b.D.length (encL (eI .u8) b.D)) ?_
 refine rvc_nil ?_
 refine Awp.seq ?_
 refine Awp.consP C ?_
 refine rvP C (sS (some false) (eI .u64) [x]) ?_
 refine rvP C (.pv (.lit (.int .i64 1))) ?_
 refine rvP C (.pv (.lit (.int .i64 0))) ?_
 refine rvc_nil ?_
 refine Awp.block ?_
 refine Awp.rounds 2 ?_
 refine Arounds.succ ?_
 refine Awp.consP C ?_
 refine rvP C (.pv (.lit (.bool true))) ?_
 refine rvc_nil ?_
 refine Awp.seq ?_
 refine Awp.condT (b := true) rfl rfl ?_
 refine Awp.skip ?_
 refine Awp.seq ?_
 refine Awp.block ?_
 refine Awp.consP C ?_
 have h1 : [x][0]? = some x := rfl
 refine rvc_un (rexec_idxS C rfl rfl rfl rfl rfl rfl x (Int.natCast_nonneg _) h1 ?_)
 refine rvP C (.pv (.lit (.int .u64 x))) ?_
 refine rvP C (.pv (.lit (.int .u64 x))) ?_
 refine rvc_nil ?_
 refine Awp.seq ?_
 refine Awp.block ?_
 refine Awp.peelM (σ := ((List Int)) × Int) (fun v => [(0, .sl 900 0 v.1.length 1 false), (6, .pv (.lit (.int .u64 v.2))), (13, sS (some false) (eI .u64) [x]), (14, .pv (.lit (.int .i64 1))), (15, .pv (.lit (.int .i64 0)))]) (fun v => [(900, .cells (encC (eI .u8) v.1))]) [900] (fun n v => v.2.toNat ≤ n ∧ wPut_l1 (fun b1 n => (Sl.mk false (b1 ++ [(IntKind.u8.wrap n)]))) (n + 1) v.1 v.2 = R ∧ (putInv b.D.length x v.1 v.2)) (x.toNat + 1) ?_ (fun n_ v h2 => ?_)
 ·
  refine Awp.seq ?_
  refine Awp.consP C ?_
  refine rvP C (.pv (.lit (.int .u64 x))) ?_
  refine rvP C (.pv (.lit (.bool (decide (x ≥ 128))))) ?_
  refine rvc_nil ?_
  refine Awp.cond (b := (decide (x ≥ 128))) rfl (fun h6 => ?_) (fun h6 => ?_)
  ·
   replace hR := of_true h6 hR
   refine Awp.skip ?_
   refine Awp.block ?_
   refine Awp.consP C ?_
   refine rvP C (.tsl b.D.length (encL (eI .u8) b.D)) ?_
   refine rvP C (.pv (.lit (.int .u64 x))) ?_
   refine rvP C (.pv (.lit (.int .u8 (IntKind.u8.wrap x)))) ?_
   refine rvP C (.pv (.lit (.int .u8 (bitI .or .u8 (IntKind.u8.wrap x) 128)))) ?_
   refine rvc_un (rexec_buildSliceF C (eI .u8) [(bitI .or .u8 (IntKind.u8.wrap x) 128)] rfl rfl rfl rfl rfl rfl rfl (by decide) rfl ?_)
   refine rvc_un (rexec_appendT C rfl rfl rfl rfl rfl rfl rfl rfl (fun _ h => by cases h) rfl (en := (eI .u8)) (D0 := b.D) (D := [(bitI .or .u8 (IntKind.u8.wrap x) 128)]) rfl rfl (by simp) (by first | (have h_ := putInv_le hV hx; simp; omega) | (simp; omega)) (by decide) (nn := (b.D ++ [(bitI .or .u8 (IntKind.u8.wrap x) 128)]).length) (by simp) ?_)
   refine rvP C (.sl 26 0 ((b.D ++ [(bitI .or .u8 (IntKind.u8.wrap x) 128)]).length) 1 false) ?_
   refine rvc_nil ?_
   refine Awp.regionP C ?_
   refine rvP C (.pv (.lit (.int .u64 x))) ?_
   refine rvc_un (rexec_prim C (δ := { v := .pv (.lit (.int .u64 (shrI .u64 x 7))) }) rfl rfl rfl rfl (by first | decide | assumption | omega) rfl ?_)
   refine rvP C (.pv (.lit (.int .u64 (shrI .u64 x 7)))) ?_
   refine rvc_nil ?_
   refine ⟨(shrI .u64 x 7).toNat, ((b.D ++ [(bitI .or .u8 (IntKind.u8.wrap x) 128)]), (shrI .u64 x 7)), ?_, ⟨Nat.le_refl _, hR, putInv_start (of_decide_eq_true ‹decide (x ≥ 128) = true›)⟩, ?_⟩
   · show (shrI .u64 x 7).toNat < x.toNat + 1; have := of_decide_eq_true ‹decide (x ≥ 128) = true›; rw [shr7]; omega
   · exact ⟨fun b => bif b == 900 then 26 else (fun b => b) b, WeakerR.ofL (Ks := [900]) hI ⟨⟨rfl, rfl⟩, ⟨rfl, rfl⟩, ⟨rfl, rfl⟩, ⟨rfl, rfl⟩, ⟨rfl, rfl⟩, trivial⟩ (okH_list rfl rfl rfl (okH_nil)) rfl⟩
  ·
   replace hR := of_false h6 hR
   refine Awp.exit ?_
   refine Awp.regionP C ?_
   refine rvP C (.tsl b.D.length (encL (eI .u8) b.D)) ?_
   refine rvP C (.pv (.lit (.int .u64 x))) ?_
   refine rvP C (.pv (.lit (.int .u8 (IntKind.u8.wrap x)))) ?_
   refine rvc_un (rexec_buildSliceF C (eI .u8) [(IntKind.u8.wrap x)] rfl rfl rfl rfl rfl rfl rfl (by decide) rfl ?_)
   refine rvc_un (rexec_appendT C rfl rfl rfl rfl rfl rfl rfl rfl (fun _ h => by cases h) rfl (en := (eI .u8)) (D0 := b.D) (D := [(IntKind.u8.wrap x)]) rfl rfl (by simp) (by first | (have h_ := putInv_le hV hx; simp; omega) | (simp; omega)) (by decide) (nn := (b.D ++ [(IntKind.u8.wrap x)]).length) (by simp) ?_)
   refine rvP C (.sl 33 0 ((b.D ++ [(IntKind.u8.wrap x)]).length) 1 false) ?_
   refine rvc_nil ?_
   refine Awp.regionP C ?_
   refine rvP C (.pv (.lit (.int .i64 1))) ?_
   refine rvP C (.pv (.lit (.int .i64 1))) ?_
   refine rvc_nil ?_
   refine Arounds.succ ?_
   refine Awp.consP C ?_
   refine rvP C (.pv (.lit (.bool false))) ?_
   refine rvc_nil ?_
   refine Awp.seq ?_
   refine Awp.condF (b := false) rfl rfl ?_
   refine Awp.exit ?_
   refine Awp.consP C ?_
   refine rvP C (.sl 33 0 ((b.D ++ [(IntKind.u8.wrap x)]).length) 1 false) ?_
   refine rvP C (.sl 33 0 ((b.D ++ [(IntKind.u8.wrap x)]).length) 1 false) ?_
   refine rvc_nil ?_
   refine Awp.freezeW 33 (encL (eI .u8) (b.D ++ [(IntKind.u8.wrap x)])) ?_ [(4, sS (some false) (eI .u8) (b.D ++ [(IntKind.u8.wrap x)]))] [] ?_ ?_ ?_
   · rfl
   · exact ⟨⟨_, rfl, .inl (.inr ⟨_, _, _, rfl, rfl⟩)⟩, trivial⟩
   · exact trivial
   refine Awp.ret ?_
   subst hR
   exact ⟨.inl rfl, rfl⟩
 obtain ⟨b1, n⟩ := v
 obtain ⟨hm_, hR, hV⟩ := h2
 replace hm_ : n.toNat ≤ n_ := hm_
 replace hV : putInv b.D.length x b1 n := hV
 refine Awp.seq ?_
 refine Awp.consP C ?_
 refine rvP C (.pv (.lit (.int .u64 n))) ?_
 refine rvP C (.pv (.lit (.bool (decide (n ≥ 128))))) ?_
 refine rvc_nil ?_
 refine Awp.cond (b := (decide (n ≥ 128))) rfl (fun h4 => ?_) (fun h4 => ?_)
 ·
  replace hR := of_true h4 hR
  refine Awp.skip ?_
  refine Awp.block ?_
  refine Awp.consP C ?_
  refine rvP C (.sl 900 0 b1.length 1 false) ?_
  refine rvP C (.pv (.lit (.int .u64 n))) ?_
  refine rvP C (.pv (.lit (.int .u8 (IntKind.u8.wrap n)))) ?_
  refine rvP C (.pv (.lit (.int .u8 (bitI .or .u8 (IntKind.u8.wrap n) 128)))) ?_
  refine rvc_un (rexec_buildSliceF C (eI .u8) [(bitI .or .u8 (IntKind.u8.wrap n) 128)] rfl rfl rfl rfl rfl rfl rfl (by decide) rfl ?_)
  refine rvc_un (rexec_append C rfl rfl rfl rfl rfl rfl rfl rfl (fun _ h => by cases h) rfl (en := (eI .u8)) (D0 := b1) (D := [(bitI .or .u8 (IntKind.u8.wrap n) 128)]) rfl rfl rfl rfl (by first | (have h_ := putInv_le hV hx; simp; omega) | (simp; omega)) (by decide) (nn := (b1 ++ [(bitI .or .u8 (IntKind.u8.wrap n) 128)]).length) (by simp) ?_)
  refine rvP C (.sl 26 0 ((b1 ++ [(bitI .or .u8 (IntKind.u8.wrap n) 128)]).length) 1 false) ?_
  refine rvc_nil ?_
  refine Awp.regionP C ?_
  refine rvP C (.pv (.lit (.int .u64 n))) ?_
  refine rvc_un (rexec_prim C (δ := { v := .pv (.lit (.int .u64 (shrI .u64 n 7))) }) rfl rfl rfl rfl (by first | decide | assumption | omega) rfl ?_)
  refine rvP C (.pv (.lit (.int .u64 (shrI .u64 n 7)))) ?_
  refine rvc_nil ?_
  have h5 : (shrI .u64 n 7).toNat < n.toNat := by (have := of_decide_eq_true ‹decide (n ≥ 128) = true›; rw [shr7]; omega)
  obtain ⟨nn, rfl⟩ : ∃ nn, n_ = nn + 1 := ⟨n_ - 1, by omega⟩
  refine ⟨nn, ((b1 ++ [(bitI .or .u8 (IntKind.u8.wrap n) 128)]), (shrI .u64 n 7)), by omega, ⟨by show (shrI .u64 n 7).toNat ≤ nn; omega, hR, putInv_step hV (of_decide_eq_true ‹decide (n ≥ 128) = true›)⟩, ?_⟩
  · exact ⟨fun b => bif b == 900 then 26 else (fun b => b) b, WeakerR.ofL (Ks := [900]) hI ⟨⟨rfl, rfl⟩, ⟨rfl, rfl⟩, ⟨rfl, rfl⟩, ⟨rfl, rfl⟩, ⟨rfl, rfl⟩, trivial⟩ (okH_list rfl rfl rfl (okH_nil)) rfl⟩
 ·
  replace hR := of_false h4 hR
  refine Awp.exit ?_
  refine Awp.regionP C ?_
  refine rvP C (.sl 900 0 b1.length 1 false) ?_
  refine rvP C (.pv (.lit (.int .u64 n))) ?_
  refine rvP C (.pv (.lit (.int .u8 (IntKind.u8.wrap n)))) ?_
  refine rvc_un (rexec_buildSliceF C (eI .u8) [(IntKind.u8.wrap n)] rfl rfl rfl rfl rfl rfl rfl (by decide) rfl ?_)
  refine rvc_un (rexec_append C rfl rfl rfl rfl rfl rfl rfl rfl (fun _ h => by cases h) rfl (en := (eI .u8)) (D0 := b1) (D := [(IntKind.u8.wrap n)]) rfl rfl rfl rfl (by first | (have h_ := putInv_le hV hx; simp; omega) | (simp; omega)) (by decide) (nn := (b1 ++ [(IntKind.u8.wrap n)]).length) (by simp) ?_)
  refine rvP C (.sl 33 0 ((b1 ++ [(IntKind.u8.wrap n)]).length) 1 false) ?_
  refine rvc_nil ?_
  refine Awp.regionP C ?_
  refine rvP C (.pv (.lit (.int .i64 1))) ?_
  refine rvP C (.pv (.lit (.int .i64 1))) ?_
  refine rvc_nil ?_
  refine Arounds.succ ?_
  refine Awp.consP C ?_
  refine rvP C (.pv (.lit (.bool false))) ?_
  refine rvc_nil ?_
  refine Awp.seq ?_
  refine Awp.condF (b := false) rfl rfl ?_
  refine Awp.exit ?_
  refine Awp.consP C ?_
  refine rvP C (.sl 33 0 ((b1 ++ [(IntKind.u8.wrap n)]).length) 1 false) ?_
  refine rvP C (.sl 33 0 ((b1 ++ [(IntKind.u8.wrap n)]).length) 1 false) ?_
  refine rvc_nil ?_
  refine Awp.freezeW 33 (encL (eI .u8) (b1 ++ [(IntKind.u8.wrap n)])) ?_ [(4, sS (some false) (eI .u8) (b1 ++ [(IntKind.u8.wrap n)]))] [] ?_ ?_ ?_
  · rfl
  · exact ⟨⟨_, rfl, .inl (.inr ⟨_, _, _, rfl, rfl⟩)⟩, trivial⟩
  · exact trivial
  refine Awp.ret ?_
  subst hR
  exact ⟨.inl rfl, rfl⟩
end Go.Proofs.Ytpgenmflgdkfiaa
