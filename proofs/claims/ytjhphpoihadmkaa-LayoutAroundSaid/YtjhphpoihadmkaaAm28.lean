/- An abstract machine over the kit's calls, part 28: slices whose capacity is known; append of zeros; copy within one's own; slices.overlaps. No conditions. -/
import Derived.Test.YtjhphpoihadmkaaAm27
import Derived.Lib.Overlaps
import Derived.Lib.AppendZerosOnto
namespace Go.Am
section ops
variable {E : Env} {T : Tab}

theorem does_sliceC_hi (hT : TabOk E.P T) {o : Oper} {t : TypeId} {x y : Operand} (ho : o.op = .slice t x none (some y) none) (hd : ∀ d, o.dst = some d → d < E.n) {r re : TyRow} (hr : T.lookup t = some r) {e : TypeId} (hdesc : r.desc = .slice e) (hre : T.lookup e = some re) {b n c : Nat} {k : IntKind} {h : Nat} (hh : h ≤ c) :
    Does E o [.slc b 0 n re.size c, .pv (.lit (.int k (h : Int)))] [] { v := .slc b 0 h re.size c } := by
  refine Does.value hd fun ι imm st a w hsr hv _ => ?_
  rw [ho] at hv
  have hv' : VHs ι imm w [.slc b 0 n re.size c, .pv (.lit (.int k (h : Int)))] [a.eval x, a.eval y] := by simpa [Op.operands] using hv
  obtain ⟨v1, us, he, h1, h2⟩ := hv'
  obtain ⟨v2, us2, he2, h3, h4⟩ := h2
  simp only [VHs] at h4
  subst h4 he2
  simp only [List.cons.injEq, and_true] at he
  obtain ⟨rfl, rfl⟩ := he
  simp only [VH] at h1
  obtain ⟨q, z, i1, i2, i3, cc, ee, ff, g1, g2⟩ := h1
  simp only [VH, PH] at h3
  have hrun := run_sliceBounds (P := E.P) (w := w) (isSlice := true) (len := n) (cap := c) (lo := none) (hi := some (.int k (h : Int))) (mx := none) (l := 0) (h := h) (m := c) (.inl ⟨rfl, rfl⟩) (.inr ⟨k, rfl⟩) (.inl ⟨rfl, rfl⟩) (by omega) (by omega) (by omega) (Int.le_refl _)
  refine ⟨.slice (some ⟨q, z + 0, none⟩) h c, ?_, ⟨q, z, i1, rfl, hh, cc, ee, ff, g1, g2⟩⟩
  simp only [execOp, ho, i2, h3.1, Option.map_none, Option.map_some, Instr.sliceAt, Instr.slice, run_bind', run_pure', run_underlying hT hr, hdesc, hrun, run_sizeOf hT hre]
  simp
  intro _
  rw [add_none]
  rfl

theorem does_sliceC_lo (hT : TabOk E.P T) {o : Oper} {t : TypeId} {x y : Operand} (ho : o.op = .slice t x (some y) none none) (hd : ∀ d, o.dst = some d → d < E.n) {r re : TyRow} (hr : T.lookup t = some r) {e : TypeId} (hdesc : r.desc = .slice e) (hre : T.lookup e = some re) {b n c : Nat} {k : IntKind} {l : Nat} (hl : l ≤ n) :
    Does E o [.slc b 0 n re.size c, .pv (.lit (.int k (l : Int)))] [] { v := .undef } := by
  refine Does.value hd fun ι imm st a w hsr hv _ => ?_
  rw [ho] at hv
  have hv' : VHs ι imm w [.slc b 0 n re.size c, .pv (.lit (.int k (l : Int)))] [a.eval x, a.eval y] := by simpa [Op.operands] using hv
  obtain ⟨v1, us, he, h1, h2⟩ := hv'
  obtain ⟨v2, us2, he2, h3, h4⟩ := h2
  simp only [VHs] at h4
  subst h4 he2
  simp only [List.cons.injEq, and_true] at he
  obtain ⟨rfl, rfl⟩ := he
  simp only [VH] at h1
  obtain ⟨q, z, i1, i2, i3, cc, ee, ff, g1, g2⟩ := h1
  simp only [VH, PH] at h3
  have hrun := run_sliceBounds (P := E.P) (w := w) (isSlice := true) (len := n) (cap := c) (lo := some (.int k (l : Int))) (hi := none) (mx := none) (l := l) (h := n) (m := c) (.inr ⟨k, rfl⟩) (.inl ⟨rfl, rfl, rfl⟩) (.inl ⟨rfl, rfl⟩) (by omega) (by omega) (by omega) (Int.le_refl _)
  refine ⟨_, by
    simp only [execOp, ho, i2, h3.1, Option.map_none, Option.map_some, Instr.sliceAt, Instr.slice, run_bind', run_pure', run_underlying hT hr, hdesc, hrun, run_sizeOf hT hre]
    rfl, trivial⟩

theorem does_capC (hT : TabOk E.P T) {o : Oper} {c : Call} {t : TypeId} (ho : o.op = .call c) (hc : c.callee = .builtin .cap) (hty : c.argTypes = #[t]) (hd : ∀ d, o.dst = some d → d < E.n) {r : TyRow} (hr : T.lookup t = some r) {e : TypeId} (hdesc : r.desc = .slice e) {b n s k : Nat} :
    Does E o [.slc b 0 n s k] [] { v := .pv (.lit (.int .i64 k)) } := by
  refine Does.value hd fun ι imm st a w hsr hv _ => ?_
  have hops : o.op.operands.toList = c.args.toList := by rw [ho]; simp [Op.operands, Call.operands, hc]
  rw [hops] at hv
  obtain ⟨v1, us, he, h1, h2⟩ := hv
  simp only [VHs] at h2
  subst h2
  have hargs : c.args.map a.eval = #[v1] := by apply Array.ext'; simpa using he
  simp only [VH] at h1
  obtain ⟨q, z, i1, rfl, i3, _⟩ := h1
  refine ⟨.int .i64 k, ?_, rfl, rfl⟩
  simp only [execOp, ho, resolve, hc, run_bind', run_pure', invoke, builtin, hargs, hty]
  simp [Builtin.cap_, run_underlying hT hr, hdesc, goInt]

theorem does_lenC (hT : TabOk E.P T) {o : Oper} {c : Call} {t : TypeId} (ho : o.op = .call c) (hc : c.callee = .builtin .len) (hty : c.argTypes = #[t]) (hd : ∀ d, o.dst = some d → d < E.n) {r : TyRow} (hr : T.lookup t = some r) {e : TypeId} (hdesc : r.desc = .slice e) {b n s k : Nat} :
    Does E o [.slc b 0 n s k] [] { v := .pv (.lit (.int .i64 n)) } := by
  refine Does.value hd fun ι imm st a w hsr hv _ => ?_
  have hops : o.op.operands.toList = c.args.toList := by rw [ho]; simp [Op.operands, Call.operands, hc]
  rw [hops] at hv
  obtain ⟨v1, us, he, h1, h2⟩ := hv
  simp only [VHs] at h2
  subst h2
  have hargs : c.args.map a.eval = #[v1] := by apply Array.ext'; simpa using he
  simp only [VH] at h1
  obtain ⟨q, z, i1, rfl, i3, _⟩ := h1
  refine ⟨.int .i64 n, ?_, rfl, rfl⟩
  simp only [execOp, ho, resolve, hc, run_bind', run_pure', invoke, builtin, hargs, hty]
  simp [Builtin.len_, run_underlying hT hr, hdesc, goInt]
end ops

section steps
variable {E : Env} {T : Tab} {cq : Oper → Cls} {n : Nat} {ops : Array Oper}

/-- An operation that looks at no block and gives a value that leads to blocks of its operands alone. -/
theorem rexec_value (C : Cx E T n) {d : Option Nat} {op : Op} {ty : TypeId} {pos : String} {af : Array Edge} {g : Option (Nat × Bool)} {st : St} {K : St → Prop} {xs : List Operand} {vs : List AV} {v : AV} (h1 : dstB n ⟨d, op, ty, pos, af, g⟩ = true)
    (hx : op.operands.toList = xs) (h2 : evls st.S xs = some vs) (hdo : (∀ x, d = some x → x < E.n) → Does E ⟨d, op, ty, pos, af, g⟩ vs [] { v := v }) (hw : ∀ U, AV.withinL U vs = true → v.within U = true) (h7 : K (st.after d { v := v })) : rexec E cq n ⟨d, op, ty, pos, af, g⟩ st K := by
  subst hx
  have hd : ∀ x, d = some x → x < E.n := fun x e => by
    simp only [dstB, e, decide_eq_true_eq] at h1
    exact C.n ▸ h1
  refine ⟨h1, vs, [], { v := v }, { vals := h2, deps := fun _ h => (by cases h), fresh := fun _ h => (by cases h), does := hdo hd, reach := rfl, inV := ?_, inN := fun _ h => (by cases h), inW := fun _ h => (by cases h), wr := fun _ h => (by cases h), pure := fun _ => ⟨rfl, rfl, rfl⟩, quiet := fun _ => rfl, foot := by cases clsOf cq ⟨d, op, ty, pos, af, g⟩ <;> rfl }, h7⟩
  refine hw _ ?_
  have := within_self vs []
  refine AV.withinL_mono (U := fun b => refs vs [] b) (fun b hb => ?_) vs this
  simp [hb]

/-- The capacity of a slice over the whole of an own row is looked at; what lies behind its elements is anything. -/
theorem At.openCap {st : St} {a : Act} {w : World} (h : At E st a w) {t b m s : Nat} {tt : Bool} {cs : List AV} (ht : st.S t = some (.sl b 0 m s tt)) (hb : st.H b = some (.cells cs)) (hl : cs.length = m * s) : ∃ c, m ≤ c ∧ At E (st.set t (.slc b 0 m s c)) a w ∧ At E ⟨(st.set t (.slc b 0 m s c)).S, fun x => if x = b then some (.cells (cs ++ List.replicate ((c - m) * s) .undef)) else st.H x, st.U⟩ a w := by
  obtain ⟨ι, imm, h⟩ := h
  have h0 := h.slot t _ ht
  simp only [VH] at h0
  obtain ⟨r, z, c, i1, i2, i3, _, i5⟩ := h0
  have hslot : ∀ x v, (st.set t (.slc b 0 m s c)).S x = some v → VH ι imm w v (a.tmps.getD x undef) := fun x v hv => by
    have hv' : (if x = t then some (AV.slc b 0 m s c) else st.S x) = some v := hv
    by_cases e : x = t
    · rw [if_pos e] at hv'
      obtain rfl := Option.some.inj hv'
      subst e
      simp only [VH]
      exact ⟨r, z, i1, i2, i3, i5⟩
    · rw [if_neg e] at hv'
      exact h.slot x v hv'
  have hset : SR E ι imm (st.set t (.slc b 0 m s c)) a w := { h with slot := hslot }
  refine ⟨c, i3, ⟨ι, imm, hset⟩, ι, imm, { hset with heap := ⟨fun x k hx => ?_, fun x x' k k' r1 z1 z2 hx hx' => ?_⟩ }⟩
  · by_cases e : x = b
    · subst e
      simp only [if_true] at hx
      obtain rfl := Option.some.inj hx
      obtain ⟨r', z', p1, p2, p3, c1, e1, f1, q1, q2, q3, q4⟩ := h.heap.blk x _ hb
      rw [i1] at p1
      simp only [Option.some.injEq, Prod.mk.injEq] at p1
      obtain ⟨rfl, rfl⟩ := p1
      obtain ⟨c2, e2, f2, s1, s2⟩ := i5
      rw [q1] at s1
      simp only [Option.some.injEq, Obj.cells.injEq] at s1
      obtain ⟨rfl, rfl, rfl⟩ := s1
      have hms : m * s + (c - m) * s = c * s := by rw [← Nat.add_mul]; congr 1; omega
      refine ⟨r, z, i1, p2, p3, c1, e1, f1, q1, ?_, q3, CellsH.app q4 (CellsH.undefs ?_)⟩
      · rw [List.length_append, List.length_replicate, hl]; omega
      · rw [hl]; omega
    · simp only [if_neg e] at hx
      exact h.heap.blk x k hx
  · have key : ∀ y k, (if y = b then some (Blk.cells (cs ++ List.replicate ((c - m) * s) .undef)) else st.H y) = some k → ∃ k', st.H y = some k' := fun y k hy => by
      by_cases e : y = b
      · subst e; exact ⟨_, hb⟩
      · rw [if_neg e] at hy; exact ⟨k, hy⟩
    obtain ⟨k1, hk1⟩ := key x k hx
    obtain ⟨k2, hk2⟩ := key x' k' hx'
    exact h.heap.inj x x' k1 k2 r1 z1 z2 hk1 hk2

theorem Awp.openCap {c : Code} {st : St} {Q : Exit → St → Prop} (t b m s : Nat) (tt : Bool) (cs : List AV) (ht : st.S t = some (.sl b 0 m s tt)) (hb : st.H b = some (.cells cs)) (hl : cs.length = m * s) (h : ∀ k, m ≤ k → Awp E c ⟨(st.set t (.slc b 0 m s k)).S, fun x => if x = b then some (.cells (cs ++ List.replicate ((k - m) * s) .undef)) else st.H x, st.U⟩ Q) : Awp E c st Q := fun a w hat => by
  obtain ⟨k, h1, _, h3⟩ := hat.openCap ht hb hl
  exact h k h1 a w h3
theorem At.dropCap {st : St} {a : Act} {w : World} (h : At E st a w) {t b o m s k : Nat} (ht : st.S t = some (.slc b o m s k)) : At E (st.set t (.sl b o m s false)) a w := by
  obtain ⟨ι, imm, h⟩ := h
  refine ⟨ι, imm, { h with slot := fun x v hv => ?_ }⟩
  have hv' : (if x = t then some (AV.sl b o m s false) else st.S x) = some v := hv
  by_cases e : x = t
  · rw [if_pos e] at hv'
    obtain rfl := Option.some.inj hv'
    subst e
    have := h.slot x _ ht
    simp only [VH] at this ⊢
    obtain ⟨r, z, i1, i2, i3, i5⟩ := this
    exact ⟨r, z, k, i1, i2, i3, fun h => (by cases h), i5⟩
  · rw [if_neg e] at hv'
    exact h.slot x v hv'
theorem Awp.dropCap {c : Code} {st : St} {Q : Exit → St → Prop} (t b o m s k : Nat) (ht : st.S t = some (.slc b o m s k)) (h : Awp E c (st.set t (.sl b o m s false)) Q) : Awp E c st Q := fun a w hat => h a w (hat.dropCap ht)

/-- copy, in general. -/
theorem rexec_copy (C : Cx E T n) {d : Option Nat} {c : Call} {t t2 : TypeId} {ty : TypeId} {pos : String} {af : Array Edge} {g : Option (Nat × Bool)} {st : St} {K : St → Prop} (hc : c.callee = .builtin .copy) (hty : c.argTypes = #[t, t2]) (h1 : dstB n ⟨d, .call c, ty, pos, af, g⟩ = true) {r re : TyRow} (hr : T.lookup t = some r) {e : TypeId} (hdesc : r.desc = .slice e) (hre : T.lookup e = some re)
    {b k m : Nat} {tt : Bool} {cs : List AV} {y : AV} {m' : Nat} {hs' : List (Nat × Blk)} {ys : List AV} (cs' : List AV) (hv : evls st.S c.args.toList = some [.sl b k m re.size tt, y]) (hb : st.H b = some (.cells cs)) (hsrc : srcAV st.H re.size y = some (m', hs', ys)) (hdeps : ∀ x ∈ hs', st.H x.1 = some x.2) (hlen : ys.length = m' * re.size) (hfit : k + (min m' m) * re.size ≤ cs.length) (hflat : (ys.take ((min m' m) * re.size)).all flatCell = true) (hyw : ∀ U, (∀ x ∈ hs', Blk.within U x.2 = true) → AV.withinL U ys = true)
    (hcs' : setRange cs k (ys.take ((min m' m) * re.size)) = cs')
    (h7 : K (st.after d { v := .pv (.lit (.int .i64 ((min m' m : Nat) : Int))), wr := [(b, some (.cells cs'))] })) (hre' : reachB [.sl b k m re.size tt, y] [] ((b, .cells cs) :: hs') = true) (hcl : clsOf cq ⟨d, .call c, ty, pos, af, g⟩ = .writer := by rfl) : rexec E cq n ⟨d, .call c, ty, pos, af, g⟩ st K := by
  subst hcs'
  have hd : ∀ x, d = some x → x < E.n := fun x e => by
    simp only [dstB, e, decide_eq_true_eq] at h1
    exact C.n ▸ h1
  have hdo := does_copy C.tab (o := ⟨d, .call c, ty, pos, af, g⟩) rfl hc hty hd hr hdesc hre (b := b) (k := k) (n := m) (tt := tt) (cs := cs) (y := y) (H := st.H) (m := m') (hd' := hs') (ys := ys) hsrc hlen hfit hflat
  have hops : (Op.operands (.call c)).toList = c.args.toList := by simp [Op.operands, Call.operands, hc]
  have hself : ∀ x ∈ ((b, Blk.cells cs) :: hs'), x.2.within (fun b' => refs [.sl b k m re.size tt, y] ((b, .cells cs) :: hs') b') = true := fun x hx => within_self_blk _ _ x hx
  refine ⟨h1, _, _, _, { vals := ?_, deps := ?_, fresh := ?_, does := hdo, reach := hre', inV := rfl, inN := ?_, inW := ?_, wr := ?_, pure := fun h => ?_, quiet := fun h => ?_, foot := by rw [hcl]; rfl }, h7⟩
  · show evls st.S (Op.operands (.call c)).toList = _
    rw [hops]; exact hv
  · intro x hx
    cases hx with
    | head => exact hb
    | tail _ hm => exact hdeps x hm
  · intro x hx; cases hx
  · intro x hx; cases hx
  · intro x hx k' hk
    simp only [List.mem_singleton] at hx
    subst hx
    simp only [Option.some.injEq] at hk
    subst hk
    simp only [Blk.within]
    have mono : ∀ cs : List AV, AV.withinL (fun b' => refs [.sl b k m re.size tt, y] ((b, .cells cs) :: hs') b') cs = true → True := fun _ _ => trivial
    refine within_setRange ?_ ?_
    · refine AV.withinL_mono (U := fun b' => refs [.sl b k m re.size tt, y] ((b, .cells cs) :: hs') b') (fun b hb => by simp [hb]) cs ?_
      exact hself (b, .cells cs) (List.mem_cons_self ..)
    · refine within_sub ?_ fun x hx => List.mem_of_mem_take hx
      refine AV.withinL_mono (U := fun b' => refs [.sl b k m re.size tt, y] ((b, .cells cs) :: hs') b') (fun b hb => by simp [hb]) ys ?_
      exact hyw _ fun x hx => hself x (List.mem_cons_of_mem _ hx)
  · intro x hx
    simp only [List.mem_singleton] at hx
    subst hx
    simp [refs, AV.withinL, AV.within]
  · rw [hcl] at h; cases h
  · rw [hcl] at h; cases h

theorem C_info {P : Program} {T : Tab} (hT : TabOk P T) {t : TypeId} {r : TyRow} (h : T.lookup t = some r) : ∃ i, P.info? t = some i ∧ i.size = r.size ∧ i.bytes = r.bytes ∧ i.zero = some r.zero := (hT t r h).2.1

/-- append of so many zeros, where there is no room: a new row; the old one stays. -/
theorem does_appendZ (hT : TabOk E.P T) {o : Oper} {c : Call} {t t2 : TypeId} (ho : o.op = .call c) (hc : c.callee = .builtin .append) (hty : c.argTypes = #[t, t2]) {d : Nat} (hdst : o.dst = some d) (hd : d < E.n) {r re r2 : TyRow} (hr : T.lookup t = some r) {e : TypeId} (hdesc : r.desc = .slice e) (hre : T.lookup e = some re) (hr2 : T.lookup t2 = some r2) {kd : IntKind} (hd2 : r2.desc = .int kd)
    {b i k s : Nat} {kk : IntKind} {cs : List AV} (hk : 0 < k) (hroom : s < i + k) (hfit : i * re.size ≤ cs.length) (hsz : 0 < re.size) (hbig : (2 * (i + k) + 192) * re.bytes ≤ 281474976710656) (hpos : 0 < re.bytes) (hzs : re.zero.cells.size = re.size) :
    Does E o [.slc b 0 i re.size s, .pv (.lit (.int kk (k : Int)))] [(b, .cells cs)] { v := .sl d 0 (i + k) re.size false, new := [(d, .cells (cs.take (i * re.size) ++ zeroAV re.zero.cells (k * re.size)))] } := by
  intro ι imm st a w Q hs hv hh hf
  have hUd : st.U d = false := hf (d, _) (List.mem_cons_self ..)
  have hvs := hs.evls hv
  have hops : o.op.operands.toList = c.args.toList := by rw [ho]; simp [Op.operands, Call.operands, hc]
  rw [hops] at hvs
  obtain ⟨v1, us1, he, hv1, hvs⟩ := hvs
  obtain ⟨v2, us2, he2, hv2, hvs⟩ := hvs
  simp only [VHs] at hvs
  subst hvs
  subst he2
  have hargs : c.args.map a.eval = #[v1, v2] := by apply Array.ext'; simpa using he
  simp only [VH] at hv1
  obtain ⟨q, z, h1, rfl, h3, cS, eS, fS, hS, hSz⟩ := hv1
  simp only [VH, PH] at hv2
  obtain ⟨rfl, _⟩ := hv2
  have hbk := hh _ (List.mem_cons_self ..)
  obtain ⟨cc, ee, ff, g1, g2, g3, g4, _⟩ := hs.heap.cells hbk h1
  have hO : CellsH ι imm w cc (cs.take (i * re.size)) z := g4.take
  obtain ⟨vsO, o1, o2⟩ := hO.vals
  have hlO := o1.length
  rw [List.length_take, Nat.min_eq_left hfit] at hlO
  obtain ⟨it, k1, k2, k3, k4⟩ := (C_info hT hre)
  have hold : (Builtin.firstCells it.size i (.slice (some ⟨q, z + 0, none⟩) i s)).run E.P w.drew = .ok (List.toArray vsO) w.drew := by
    rw [k2]
    have := run_loadCells (P := E.P) (w := w.drew) (r := q) (o := z) vsO (fun j hj => by
      show w.cell? _ = _
      rw [cell_of_heap g1, o2 j hj])
    rw [hlO] at this
    simpa [Builtin.firstCells] using this
  have hnc : Builtin.nextslicecap (i + k) s * it.bytes ≤ 281474976710656 := by
    rw [k3]
    have := Nat.mul_le_mul_right re.bytes (nextcap_le hroom)
    omega
  have hkb : k * it.bytes ≤ 281474976710656 := by
    rw [k3]
    have : k * re.bytes ≤ (2 * (i + k) + 192) * re.bytes := Nat.mul_le_mul_right _ (by omega)
    omega
  have h63 : ((i + k : Nat) : Int) ≤ 9223372036854775807 := by
    have : 2 * (i + k) + 192 ≤ (2 * (i + k) + 192) * re.bytes := Nat.le_mul_of_pos_right _ hpos
    omega
  have hrun := Lib.run_append_grow_zeros w t t2 o.type e it re.zero kk kd (by rw [(hT t r hr).1, hdesc]) (by rw [(hT t2 r2 hr2).1, hd2]) k1 k4 (some ⟨q, z + 0, none⟩) i s vsO hold k hk (by rw [k2]; exact hsz) hroom h63 hkb hnc
  have hexec : ∀ {u w'}, (Builtin.append_ #[t, t2] o.type #[.slice (some ⟨q, z + 0, none⟩) i s, .int kk k]).run E.P w = .ok u w' → (execOp a.eval o).run E.P w = .ok (.value u) w' := fun {u w'} h => by
    simp only [execOp, ho, resolve, hc, run_bind', run_pure', invoke, builtin, hargs, hty, h]
  unfold Oper.wp
  have hdd : ∀ x, o.dst = some x → x < E.n := fun x hx => by rw [hdst] at hx; exact Option.some.inj hx ▸ hd
  rw [hexec hrun, Oper.upon_value]
  obtain ⟨G, hG⟩ : ∃ G, G = grownCap w (i + k) s e := ⟨_, rfl⟩
  have hGn : i + k ≤ G := by rw [hG]; exact grownCap_ge w _ _ _
  rw [← hG]
  have gw : Grows ι ι imm imm w w.drew := ⟨fun _ _ h => h, ⟨fun _ h => h, fun k _ => rfl⟩, fun r' c1 e1' f1 hr' => ⟨c1, f1, hr', rfl⟩⟩
  have hs1 : SR E ι imm ⟨st.S, st.H, st.U⟩ a w.drew := hs.turn gw rfl rfl rfl (Nat.le_refl _) (fun k _ _ => rfl) ⟨fun b' k' hb' => by
    obtain ⟨r', z', p1, p2, p3, p4⟩ := hs.heap.blk b' k' hb'
    exact ⟨r', z', p1, p2, p3, p4.grows gw rfl⟩, hs.heap.inj⟩ hs.used (fun _ hk => .inl hk) (fun k hk => hs.immlt k hk)
  obtain ⟨ROW, hROW⟩ : ∃ ROW : Array Value, ROW = vsO.toArray ++ Builtin.zeroCells re.zero.cells k ++ Builtin.zeroCells re.zero.cells (G - (i + k)) := ⟨_, rfl⟩
  have hz1 : (Builtin.zeroCells re.zero.cells k).size = k * re.size := by simp [Builtin.zeroCells, hzs]
  have hNew : NewH ι imm w.drew (Obj.cells ROW e) (.cells (cs.take (i * re.size) ++ zeroAV re.zero.cells (k * re.size))) := by
    refine ⟨_, _, rfl, ?_, CellsH.app (CellsH.of_VHs (VHs.grows gw _ _ o1) fun j hj => ?_) ?_⟩
    · rw [hROW]
      simp only [List.length_append, List.length_take, Nat.min_eq_left hfit, Array.size_append, List.size_toArray, hlO, hz1, zeroAV, List.length_map, List.length_range]
      omega
    · rw [hROW, Nat.zero_add, Array.append_assoc, Array.getElem?_append_left (by simpa using hj), List.getElem?_toArray]
    · refine CellsH.of_VHs (vs := (List.range (k * re.size)).map fun j => re.zero.cells[j % re.zero.cells.size]!) ?_ fun j hj => ?_
      · have : zeroAV re.zero.cells (k * re.size) = ((List.range (k * re.size)).map fun j => re.zero.cells[j % re.zero.cells.size]!).map constCell := by simp [zeroAV]
        rw [this]; exact VHs_map_const ι imm w.drew _
      · simp only [List.length_map, List.length_range] at hj
        have h1 : 0 + (cs.take (i * re.size)).length + j = vsO.length + j := by rw [List.length_take, Nat.min_eq_left hfit, hlO]; omega
        rw [h1, hROW, Array.append_assoc, Array.getElem?_append_right (by simp), Array.getElem?_append_left (by rw [hz1]; simp; omega)]
        simp [Builtin.zeroCells, hzs, hj]
  rw [← hROW]
  obtain ⟨ι', i1, i2, i3⟩ := hs1.new hUd hNew (.sl d 0 (i + k) re.size false)
  refine ⟨ι', imm, ?_⟩
  have hheap : (World.push w.drew (Obj.cells ROW e)).heap[w.heap.size]? = some (Obj.cells ROW e) := by
    show (w.heap.push _)[_]? = _
    rw [Array.getElem?_push, if_pos rfl]
  have hfin := i3.put o.dst hdd (v := .sl d 0 (i + k) re.size false) (u := .slice (some ⟨w.heap.size, 0, none⟩) (i + k) G) ⟨w.heap.size, 0, G, i1, rfl, hGn, (fun h => (by cases h)), _, _, _, hheap, by
    have hz2 : (Builtin.zeroCells re.zero.cells (G - (i + k))).size = (G - (i + k)) * re.size := by simp [Builtin.zeroCells, hzs]
    rw [hROW]
    simp only [Array.size_append, List.size_toArray, hlO, hz1, hz2]
    have : G = i + k + (G - (i + k)) := by omega
    have h9 : G * re.size = (i + k + (G - (i + k))) * re.size := by rw [← this]
    rw [Nat.add_mul, Nat.add_mul] at h9
    omega⟩
  exact hfin

/-- slices.overlaps of what does not change and an own row: no. -/
theorem does_overlaps (hT : TabOk E.P T) {o : Oper} {c : Call} {f : FuncId} {fn : Func} {tR t e : TypeId} (ho : o.op = .call c) (hc : c.callee = .value (.func f)) (hd : ∀ d, o.dst = some d → d < E.n) (hf : E.P.funcs[f]? = some fn) (hn : (fn.name == "runtime.NumGoroutine") = false) (hb : fn.body.isNone = true) (hnx : Extern.findNext fn = none) (he : Extern.find fn = some (Extern.SlicesOverlaps.overlaps #[t, t] #[tR]))
    {r re : TyRow} (hr : T.lookup t = some r) (hdesc : r.desc = .slice e) (hre : T.lookup e = some re) {fl : Option Bool} {m : Nat} {ps : List PV} (hps : ps ≠ []) {b k l : Nat} {tt : Bool} {cs : List AV} (hcs : cs ≠ []) :
    Does E o [.fn f [] [], .pv (.sl fl m ps), .sl b k l re.size tt] [(b, .cells cs)] { v := .pv (.lit (.bool false)) } := by
  refine Does.value hd fun ι imm st a w hsr hv hh => ?_
  have hops : o.op.operands.toList = .func f :: c.args.toList := by rw [ho]; simp [Op.operands, Call.operands, hc]
  rw [hops, List.map_cons] at hv
  obtain ⟨_, us0, he0, _, hv⟩ := hv
  simp only [List.cons.injEq] at he0
  obtain ⟨_, rfl⟩ := he0
  obtain ⟨v1, us1, he1, hv1, hvs⟩ := hv
  obtain ⟨v2, us2, he2, hv2, hvs⟩ := hvs
  simp only [VHs] at hvs
  subst hvs
  subst he2
  have hargs : c.args.map a.eval = #[v1, v2] := by apply Array.ext'; simpa using he1
  simp only [VH, PH] at hv1
  obtain ⟨A, cap, rfl, _, _, _, q3, q4⟩ := hv1
  simp only [VH] at hv2
  obtain ⟨r2, z2, cap2, i1, rfl, _, _, _⟩ := hv2
  obtain ⟨cc, ee, ff, g1, g2, g3, g4, g5, _⟩ := hsr.heap.cells (hh _ (List.mem_cons_self ..)) i1
  cases A with
  | none => exact absurd (q3 rfl).2.2 hps
  | some ad =>
    obtain ⟨p1, p2, p3⟩ := q4 ad rfl hps
    have hne : ad.block ≠ r2 := fun e => g5 (e ▸ p2)
    obtain ⟨p, ps', rfl⟩ : ∃ p ps', ps = p :: ps' := by cases ps with | nil => exact absurd rfl hps | cons p ps' => exact ⟨p, ps', rfl⟩
    obtain ⟨⟨v0, hcell, _⟩, _⟩ := p3
    have hshape : ∃ ca ea fa, w.heap[ad.block]? = some (Obj.cells ca ea fa) ∧ ca.size ≠ 0 := by
      unfold World.cell? at hcell
      split at hcell
      · rename_i ca ea fa hca
        refine ⟨ca, ea, fa, hca, fun h0 => ?_⟩
        simp only [Option.isSome_none, Bool.false_eq_true, if_false] at hcell
        rw [Array.getElem?_eq_none (by omega)] at hcell
        cases hcell
      · cases hcell
    obtain ⟨ca, ea, fa, s1, s2⟩ := hshape
    refine ⟨.bool false, ?_, rfl, rfl⟩
    have hcsz : cc.size ≠ 0 := by
      cases cs with
      | nil => exact absurd rfl hcs
      | cons x xs => simp at g2; omega
    have hrun : (Extern.SlicesOverlaps.overlaps #[t, t] #[tR] #[.slice (some ad) m cap, .slice (some ⟨r2, z2 + k, none⟩) l cap2]).run E.P w = .ok (.bool false) w := by
      have hnb : (ad.block != r2) = true := by simpa using hne
      have hnb' : (ad.block == r2) = false := by simpa using hne
      have hsa : w.shape? ad.block = some (ea, ca.size) := by simp [World.shape?, s1]
      have hsb : w.shape? r2 = some (ee, cc.size) := by simp [World.shape?, g1]
      have hfb : ∀ o, w.frozen? ⟨r2, o, none⟩ = false := fun o => by
        simp only [World.frozen?, g1]
        have := g3 o
        by_cases h1 : ff.1 ≤ o
        · by_cases h2 : o < ff.2
          · exact absurd ⟨h1, h2⟩ this
          · simp [h2]
        · simp [h1]
      have e1 : (underlying t).run E.P w = .ok (.slice e) w := by rw [run_underlying hT hr, hdesc]
      have e2 : (sizeOf e).run E.P w = .ok re.size w := run_sizeOf hT hre w
      obtain ⟨A0, hA0⟩ : ∃ A0, ca.size = A0 + 1 := ⟨ca.size - 1, by omega⟩
      obtain ⟨B0, hB0⟩ : ∃ B0, cc.size = B0 + 1 := ⟨cc.size - 1, by omega⟩
      rw [hA0] at hsa
      rw [hB0] at hsb
      change Sem.run E.P (α := Value) (do
        let some t := (#[t, t] : Array TypeId)[0]? | stuck "slices.overlaps: no parameter types"
        let .slice elem ← underlying t | stuck "slices.overlaps: slice type expected"
        let size ← sizeOf elem
        match (some ad : Option Addr), (some ⟨r2, z2 + k, none⟩ : Option Addr) with
        | some a, some b =>
          if m = 0 ∨ l = 0 ∨ size = 0 then pure (Value.bool false)
          else if a.block != b.block && (← frozen a) && (← frozen b) then unsupported .addressObserved
          else do
            if a.block != b.block then do
              noView a; noView b
              if ← mayBeOne a b then return Value.bool ((← choose (.extern "sameAddr.stringBytes" 2)) == 1)
            pure (Value.bool (a.block == b.block && a.off < b.off + l * size && b.off < a.off + m * size))
        | _, _ => pure (Value.bool false)) w = _
      by_cases h0 : m = 0 ∨ l = 0 ∨ re.size = 0
      · simp [ run_bind', e1, e2, h0]
      · cases hA : w.frozen? ad <;> cases hA' : w.frozen? { block := ad.block, off := A0 + 1 } <;> simp [e1, e2, h0, hnb, hnb', frozen, noView, viewAt, mayBeOne, stringish, shape, Sem.run, hsa, hsb, hA, hA', hfb]
    simp only [execOp, ho, resolve, hc, run_bind', run_pure', invoke, Deferred.ofValue, Act.eval, hargs, Array.append_empty]
    rw [run_callFunc_extern hf hn hb hnx he, Array.empty_append, hrun]
    rfl
end steps
end Go.Am
