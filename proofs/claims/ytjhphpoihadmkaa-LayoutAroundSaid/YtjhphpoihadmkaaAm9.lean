/- An abstract machine over the kit's calls, part 9: addresses of fields and elements; slices; structs, arrays and slices put together; lengths. No conditions. -/
import Derived.Test.YtjhphpoihadmkaaAm8
namespace Go.Am

/-- A field: where it lies, how many cells it has. -/
def fieldOf (T : Tab) (d : TypeDesc) (f : Nat) : Option (Nat × Nat × TyRow) :=
  match d with
  | .struct fs => match fs[f]? with
    | some x => match T.lookup x.type with
      | some r => if r.size = 0 then none else some (x.offset, r.size, r)
      | none => none
    | none => none
  | _ => none

/-- The place of a part of an address. -/
def partAV (x : AV) (off len : Nat) : Option AV :=
  match x with
  | .ptr b o => some (.ptr b (o + off))
  | .rp ps => some (.rp ((ps.drop off).take len))
  | _ => none

section ops
variable {E : Env} {T : Tab}

theorem part_holds {ι : Nat → Option (Nat × Nat)} {imm : Nat → Prop} {w : World} {x z : AV} {off len : Nat} (h : partAV x off len = some z) {a : Addr} (hx : VH ι imm w x (.pointer (some a))) : VH ι imm w z (.pointer (some (a.add off))) := by
  cases x <;> simp only [partAV, reduceCtorEq, Option.some.injEq] at h
  · subst h
    simp only [VH] at hx ⊢
    obtain ⟨r, q, h1, h2⟩ := hx
    simp only [Value.pointer.injEq, Option.some.injEq] at h2
    subst h2
    exact ⟨r, q, h1, by rw [add_none, Nat.add_assoc]⟩
  · subst h
    simp only [VH] at hx ⊢
    obtain ⟨b, h1, h2⟩ := hx
    simp only [Value.pointer.injEq, Option.some.injEq] at h1
    subst h1
    refine ⟨_, rfl, fun hne => ?_⟩
    obtain ⟨h3, h4, h5⟩ := h2 (fun e => hne (by rw [e]; simp))
    rw [addr_eta h3, add_none]
    exact ⟨rfl, h4, (h5.drop).take⟩

theorem addr_of {ι : Nat → Option (Nat × Nat)} {imm : Nat → Prop} {w : World} {x z : AV} {off len : Nat} (h : partAV x off len = some z) {v : Value} (hx : VH ι imm w x v) : ∃ a, v = .pointer (some a) := by
  cases x <;> simp only [partAV, reduceCtorEq] at h
  · simp only [VH] at hx; obtain ⟨r, q, _, h2⟩ := hx; exact ⟨_, h2⟩
  · simp only [VH] at hx; obtain ⟨b, h1, _⟩ := hx; exact ⟨_, h1⟩

theorem does_fieldAddr (hT : TabOk E.P T) {o : Oper} {s : TypeId} {x : Operand} {f : Nat} (ho : o.op = .fieldAddr s x f) (hd : ∀ d, o.dst = some d → d < E.n) {r : TyRow} (hr : T.lookup s = some r) {off len : Nat} {rf : TyRow} (hf : fieldOf T r.desc f = some (off, len, rf)) {u z : AV} (hz : partAV u off len = some z) :
    Does E o [u] [] { v := z } := by
  refine Does.value hd fun ι imm st a w hs hv _ => ?_
  rw [ho] at hv
  simp only [Op.operands, List.map_cons, List.map_nil] at hv
  have hv := hv.one
  obtain ⟨ad, he⟩ := addr_of hz hv
  rw [he] at hv
  refine ⟨.pointer (some (ad.add off)), ?_, part_holds hz hv⟩
  unfold fieldOf at hf
  split at hf
  · rename_i fs hdesc
    split at hf
    · rename_i y hy
      split at hf
      · rename_i r' hr'
        split at hf
        · cases hf
        · rename_i hne
          simp only [Option.some.injEq, Prod.mk.injEq] at hf
          obtain ⟨rfl, rfl, rfl⟩ := hf
          simp only [execOp, ho, he, Instr.fieldAt, Instr.sureAddr, fieldPlace, run_bind', run_pure', run_underlying hT hr, hdesc, hy, run_sizeOf hT hr', if_neg hne]
      · cases hf
    · cases hf
  · cases hf

/-- The element at an index: what must hold, and its place. -/
def elemAV (T : Tab) (d : TypeDesc) (x : AV) (i : Int) : Option (Prop × AV) :=
  match d with
  | .array n e => match T.lookup e with
    | some r => match x with
      | .ptr b o => some (0 ≤ i ∧ i < n, .ptr b (o + i.toNat * r.size))
      | .rp ps => some (0 ≤ i ∧ i < n, .rp ((ps.drop (i.toNat * r.size)).take r.size))
      | _ => none
    | none => none
  | .slice e => match T.lookup e with
    | some r => match x with
      | .pv (.sl _ n ps) => some (0 ≤ i ∧ i < n, .rp ((ps.drop (i.toNat * r.size)).take r.size))
      | .tsl n ps => some (0 ≤ i ∧ i < n, .rp ((ps.drop (i.toNat * r.size)).take r.size))
      | .sl b o n s _ => if s = r.size then some (0 ≤ i ∧ i < n, .ptr b (o + i.toNat * s)) else none
      | _ => none
    | none => none
  | _ => none

theorem slice_part {imm : Nat → Prop} {w : World} (ι : Nat → Option (Nat × Nat)) {a : Addr} {ps : List PV} (h : ps ≠ [] → a.spot = none ∧ imm a.block ∧ PHs imm w ps a.block a.off) (off len : Nat) : VH ι imm w (.rp ((ps.drop off).take len)) (.pointer (some (a.add off))) := by
  simp only [VH]
  refine ⟨_, rfl, fun hne => ?_⟩
  obtain ⟨h3, h4, h5⟩ := h (fun e => hne (by rw [e]; simp))
  rw [addr_eta h3, add_none]
  exact ⟨rfl, h4, (h5.drop).take⟩

theorem does_indexAddr (hT : TabOk E.P T) {o : Oper} {t : TypeId} {x y : Operand} (ho : o.op = .indexAddr t x y) (hd : ∀ d, o.dst = some d → d < E.n) {r : TyRow} (hr : T.lookup t = some r) {k : IntKind} {i : Int} {u z : AV} {p : Prop} (hz : elemAV T r.desc u i = some (p, z)) (hp : p) :
    Does E o [u, .pv (.lit (.int k i))] [] { v := z } := by
  refine Does.value hd fun ι imm st a w hs hv _ => ?_
  rw [ho] at hv
  simp only [Op.operands, List.map_cons, List.map_nil] at hv
  obtain ⟨hv1, hv2⟩ := hv.two
  simp only [VH, PH] at hv2
  unfold elemAV at hz
  split at hz
  · rename_i n e hdesc
    split at hz
    · rename_i re hre
      split at hz
      · rename_i b o'
        simp only [Option.some.injEq, Prod.mk.injEq] at hz
        obtain ⟨rfl, rfl⟩ := hz
        simp only [VH] at hv1
        obtain ⟨q, z0, hi, he⟩ := hv1
        refine ⟨.pointer (some ⟨q, z0 + (o' + i.toNat * re.size), none⟩), ?_, ⟨q, z0, hi, rfl⟩⟩
        simp only [execOp, ho, he, hv2.1, Instr.indexAt, asIntOf, Instr.sureAddr, run_bind', run_pure', run_underlying hT hr, hdesc]
        rw [if_pos hp]
        simp only [run_bind', run_sizeOf hT hre, run_pure', add_none, Nat.add_assoc]
      · rename_i ps
        simp only [Option.some.injEq, Prod.mk.injEq] at hz
        obtain ⟨rfl, rfl⟩ := hz
        simp only [VH] at hv1
        obtain ⟨ad, he, hq⟩ := hv1
        refine ⟨_, ?_, slice_part ι hq _ _⟩
        simp only [execOp, ho, he, hv2.1, Instr.indexAt, asIntOf, Instr.sureAddr, run_bind', run_pure', run_underlying hT hr, hdesc]
        rw [if_pos hp]
        simp only [run_bind', run_sizeOf hT hre, run_pure']
      · cases hz
    · cases hz
  · rename_i e hdesc
    split at hz
    · rename_i re hre
      split at hz
      · rename_i f n ps
        simp only [Option.some.injEq, Prod.mk.injEq] at hz
        obtain ⟨rfl, rfl⟩ := hz
        simp only [VH, PH] at hv1
        obtain ⟨A, cap, he, h1, h2, h3, h4, h5⟩ := hv1
        cases A with
        | none => obtain ⟨h6, _⟩ := h4 rfl; omega
        | some ad =>
          refine ⟨_, ?_, slice_part ι (fun hne => h5 ad rfl hne) _ _⟩
          simp only [execOp, ho, he, hv2.1, Instr.indexAt, asIntOf, run_bind', run_pure', run_underlying hT hr, hdesc]
          rw [if_pos hp]
          simp only [run_bind', run_sizeOf hT hre, run_pure']
      · rename_i n ps
        simp only [Option.some.injEq, Prod.mk.injEq] at hz
        obtain ⟨rfl, rfl⟩ := hz
        simp only [VH] at hv1
        obtain ⟨A, he, h4, h5⟩ := hv1
        cases A with
        | none => obtain ⟨h6, _⟩ := h4 rfl; omega
        | some ad =>
          refine ⟨_, ?_, slice_part ι (fun hne => h5 ad rfl hne) _ _⟩
          simp only [execOp, ho, he, hv2.1, Instr.indexAt, asIntOf, run_bind', run_pure', run_underlying hT hr, hdesc]
          rw [if_pos hp]
          simp only [run_bind', run_sizeOf hT hre, run_pure']
      · rename_i b o' n s tt
        split at hz
        · rename_i hse
          subst hse
          simp only [Option.some.injEq, Prod.mk.injEq] at hz
          obtain ⟨rfl, rfl⟩ := hz
          simp only [VH] at hv1
          obtain ⟨q, z0, cap, hi, he, _⟩ := hv1
          refine ⟨.pointer (some ⟨q, z0 + (o' + i.toNat * re.size), none⟩), ?_, ⟨q, z0, hi, rfl⟩⟩
          simp only [execOp, ho, he, hv2.1, Instr.indexAt, asIntOf, run_bind', run_pure', run_underlying hT hr, hdesc]
          rw [if_pos hp]
          simp only [run_bind', run_sizeOf hT hre, run_pure', add_none, Nat.add_assoc]
        · cases hz
      · cases hz
    · cases hz
  · cases hz

/-! ### Slices -/
/-- A bound of a slice expression. -/
def boundN : Option AV → Option (Option Int)
  | none => some none
  | some (.pv (.lit (.int _ i))) => some (some i)
  | _ => none

theorem run_sliceBound {P : Program} {w : World} {k : IntKind} {i : Int} {y : Nat} {c : BoundsCode} (h0 : 0 ≤ i) (h1 : i ≤ y) : (Instr.sliceBound (.int k i) y c).run P w = .ok i.toNat w := by
  simp only [Instr.sliceBound, asIntOf, run_bind', run_pure']
  rw [if_pos ⟨h0, h1⟩]; rfl

/-- `x[l:h]`, `x[:h:m]`, ..: the three bounds, of a length and a capacity (as far as it is known to be). -/
theorem run_sliceBounds {P : Program} {w : World} {isSlice : Bool} {len cap : Nat} {lo hi mx : Option Value} {l h m : Int} (hlo : lo = none ∧ l = 0 ∨ ∃ k, lo = some (.int k l)) (hhi : hi = none ∧ mx = none ∧ h = len ∨ ∃ k, hi = some (.int k h)) (hmx : mx = none ∧ m = cap ∨ ∃ k, mx = some (.int k m))
    (h0 : 0 ≤ l) (h1 : l ≤ h) (h2 : h ≤ m) (h3 : m ≤ cap) : (Instr.sliceBounds isSlice len cap lo hi mx).run P w = .ok (l.toNat, h.toNat, m.toNat) w := by
  have hl : ∀ c k, (Instr.sliceBound (.int k l) h.toNat c).run P w = .ok l.toNat w := fun c k => run_sliceBound h0 (by omega)
  have hh : ∀ c k, (Instr.sliceBound (.int k h) m.toNat c).run P w = .ok h.toNat w := fun c k => run_sliceBound (by omega) (by omega)
  have hm : ∀ c k, (Instr.sliceBound (.int k m) cap c).run P w = .ok m.toNat w := fun c k => run_sliceBound (by omega) (by omega)
  rcases hlo with ⟨rfl, rfl⟩ | ⟨kl, rfl⟩ <;> rcases hhi with ⟨rfl, rfl, rfl⟩ | ⟨kh, rfl⟩ <;> rcases hmx with ⟨e1, rfl⟩ | ⟨km, e1⟩
  all_goals first | subst e1 | skip
  all_goals first | (cases e1; done) | skip
  all_goals try simp only [Int.toNat_natCast] at hl hh hm
  all_goals simp only [Instr.sliceBounds, run_bind', run_pure', hl, hh, hm, Int.toNat_natCast, Int.toNat_zero]

/-- Cells of values put over cells, as the model does it. -/
theorem foldl_put (vs : List Value) (c : Array Value) (o j : Nat) : (vs.zipIdx j).foldl (fun cs (x : Value × Nat) => cs.setIfInBounds (o + x.2) x.1) c = putCells c (o + j) vs := by
  induction vs generalizing c j with
  | nil => rfl
  | cons v vs ih => simp only [List.zipIdx_cons, List.foldl_cons, putCells]; rw [ih, Nat.add_assoc]

/-- Parts put over cells. -/
def fillAV (place : Nat → Option (Nat × Nat)) : List AV → List (Nat × AV) → Option (List AV)
  | cs, [] => some cs
  | cs, (i, x) :: rest => match place i, cellsOf x with
    | some (off, size), some xs => if xs.length = size ∧ off + size ≤ cs.length then fillAV place (setRange cs off xs) rest else none
    | _, _ => none

theorem fill_holds {ι : Nat → Option (Nat × Nat)} {imm : Nat → Prop} {w : World} {place : Nat → Option (Nat × Nat)} : ∀ {parts : List (Nat × AV)} {us : List (Nat × Value)} {cs zs : List AV} {c : Array Value}, fillAV place cs parts = some zs → CellsH ι imm w c cs 0 → c.size = cs.length →
    parts.map (·.1) = us.map (·.1) → VHs ι imm w (parts.map (·.2)) (us.map (·.2)) → ∃ c', Instr.fill place c us = some c' ∧ CellsH ι imm w c' zs 0 ∧ c'.size = zs.length
  | [], us, cs, zs, c, h, hc, hs, h1, _ => by
    simp only [fillAV, Option.some.injEq] at h; subst h
    cases us with
    | nil => exact ⟨c, rfl, hc, hs⟩
    | cons u us => simp at h1
  | (i, x) :: parts, us, cs, zs, c, h, hc, hs, h1, h2 => by
    cases us with
    | nil => simp at h1
    | cons u us =>
      obtain ⟨j, v⟩ := u
      simp only [List.map_cons, List.cons.injEq] at h1
      obtain ⟨rfl, h1⟩ := h1
      simp only [List.map_cons] at h2
      obtain ⟨v', us', he, hv, hvs⟩ := h2
      simp only [List.cons.injEq] at he
      obtain ⟨rfl, rfl⟩ := he
      simp only [fillAV] at h
      split at h
      · rename_i off size xs hp hx
        split at h
        · rename_i hcond
          obtain ⟨rfl, hle⟩ := hcond
          have hxs := cellsOf_holds hx hv (fun c e => by subst e; simp only [VH, PH] at hv; simp [flatB] at hv)
          have hlen := hxs.length
          simp only [Array.length_toList] at hlen
          have hput := CellsH.put (c' := putCells c (0 + off) v.cells.toList) hc hxs hle rfl (by omega)
          have hsz : (putCells c (0 + off) v.cells.toList).size = (setRange cs off xs).length := by rw [putCells_size, setRange_length hle, hs]
          obtain ⟨c', q1, q2, q3⟩ := fill_holds h hput hsz h1 hvs
          refine ⟨c', ?_, q2, q3⟩
          simp only [Instr.fill, hp]
          rw [if_neg (by simp only [ne_eq, Bool.or_eq_true, decide_eq_true_eq, not_or]; omega)]
          rw [← q1]
          congr 1
          rw [← Array.foldl_toList, Array.toList_zipIdx]
          have := foldl_put v.cells.toList c off 0
          rw [Nat.zero_add, ← Nat.add_zero off, ← this]
          simp
        · cases h
      · cases h

/-- The places of the parts of a struct or an array. -/
def placesOf (T : Tab) (d : TypeDesc) : Option (Nat → Option (Nat × Nat)) :=
  match d with
  | .struct fs => if fs.toList.all (fun f => (T.lookup f.type).isSome) then some fun i => (fs[i]?).map fun f => (f.offset, ((T.lookup f.type).map (·.size)).getD 0) else none
  | .array _ e => match T.lookup e with | some r => some fun i => some (i * r.size, r.size) | none => none
  | _ => none

theorem run_mapM_fields {P : Program} {w : World} (hT : TabOk P T) : ∀ (fs : List Field), (fs.all fun f => (T.lookup f.type).isSome) = true →
    (fs.mapM fun f => (do pure (f.offset, ← Go.sizeOf f.type) : Sem (Nat × Nat))).run P w = .ok (fs.map fun f => (f.offset, ((T.lookup f.type).map (·.size)).getD 0)) w := by
  intro fs
  induction fs with
  | nil => intro _; rfl
  | cons f fs ih =>
    intro h
    simp only [List.all_cons, Bool.and_eq_true] at h
    obtain ⟨h1, h2⟩ := h
    obtain ⟨r, hr⟩ := Option.isSome_iff_exists.1 h1
    simp only [List.mapM_cons, run_bind', run_sizeOf hT hr, run_pure', ih h2, List.map_cons, hr, Option.map_some, Option.getD_some]

theorem VHs_parts {E : Env} {ι : Nat → Option (Nat × Nat)} {imm : Nat → Prop} {w : World} {a : Act} : ∀ (ps : List (Nat × Operand)) (us : List AV), VHs ι imm w us ((ps.map (·.2)).map a.eval) → VHs ι imm w ((ps.zipWith (fun p u => (p.1, u)) us).map (·.2)) ((ps.map fun p => (p.1, a.eval p.2)).map (·.2)) ∧ (ps.zipWith (fun p u => (p.1, u)) us).map (·.1) = (ps.map fun p => (p.1, a.eval p.2)).map (·.1)
  | [], us, h => ⟨by simp [VHs], rfl⟩
  | p :: ps, us, h => by
    cases us with
    | nil => simp [VHs] at h
    | cons u us =>
      obtain ⟨v, vs, he, h1, h2⟩ := h
      simp only [List.map_cons, List.cons.injEq] at he
      obtain ⟨rfl, rfl⟩ := he
      obtain ⟨q1, q2⟩ := VHs_parts (E := E) ps us h2
      simp only [List.zipWith_cons_cons, List.map_cons]
      exact ⟨⟨_, _, rfl, h1, q1⟩, by rw [q2]⟩

theorem does_build (hT : TabOk E.P T) {o : Oper} {t : TypeId} {parts : Array (Nat × Operand)} (ho : o.op = .build t parts) (hd : ∀ d, o.dst = some d → d < E.n) {r : TyRow} (hr : T.lookup t = some r) {place : Nat → Option (Nat × Nat)} (hpl : placesOf T r.desc = some place) {us zs : List AV}
    (hz : fillAV place (r.zero.cells.toList.map constCell) (parts.toList.zipWith (fun p u => (p.1, u)) us) = some zs) : Does E o us [] { v := .agg zs } := by
  refine Does.value hd fun ι imm st a w hs hv _ => ?_
  rw [ho] at hv
  simp only [Op.operands] at hv
  obtain ⟨h1, h2⟩ := VHs_parts (E := E) (a := a) parts.toList us (by simpa using hv)
  obtain ⟨c', h3, h4, h5⟩ := fill_holds hz (CellsH.of_VHs (c := r.zero.cells) (VHs_map_const ι imm w _) (fun i _ => by simp)) (by simp) h2 h1
  obtain ⟨vs, h6, h7⟩ := h4.vals
  have hlen := h6.length
  have hvs : vs = c'.toList := by
    apply List.ext_getElem?
    intro i
    rcases Nat.lt_or_ge i vs.length with hi | hi
    · rw [← h7 i hi]; simp
    · rw [List.getElem?_eq_none hi, List.getElem?_eq_none (by simp; omega)]
  refine ⟨.agg c', ?_, ⟨vs, by rw [hvs], h6⟩⟩
  unfold placesOf at hpl
  split at hpl
  · rename_i fs hdesc
    split at hpl
    · rename_i hall
      simp only [Option.some.injEq] at hpl
      subst hpl
      have hm : (fs.mapM fun f => (do pure (f.offset, ← Go.sizeOf f.type) : Sem (Nat × Nat))).run E.P w = .ok (fs.map fun f => (f.offset, ((T.lookup f.type).map (·.size)).getD 0)) w := by
        rw [Array.mapM_eq_mapM_toList]
        show ((fs.toList.mapM _) >>= fun a => pure (List.toArray a) : Sem (Array (Nat × Nat))).run E.P w = _
        rw [run_bind', run_mapM_fields hT fs.toList hall]
        simp only [run_pure', Result.ok.injEq, and_true]
        apply Array.ext'
        simp
      simp only [execOp, ho, Instr.build, run_bind', run_zeroValue hT hr, run_underlying hT hr, hdesc, hm]
      have : (fun x => (fs.map fun (f : Field) => (f.offset, ((T.lookup f.type).map (·.size)).getD 0))[x]?) = fun (i : Nat) => (fs[i]?).map fun (f : Field) => (f.offset, ((T.lookup f.type).map (·.size)).getD 0) := by
        funext i; simp
      simp only [this, Array.toList_map, h3, run_pure']
    · cases hpl
  · rename_i n e hdesc
    split at hpl
    · rename_i re hre
      simp only [Option.some.injEq] at hpl
      subst hpl
      simp only [execOp, ho, Instr.build, run_bind', run_zeroValue hT hr, run_underlying hT hr, hdesc, run_sizeOf hT hre, Array.toList_map, h3, run_pure']
    · cases hpl
  · cases hpl

/-- Cells of zeros, so many. -/
def zeroAV (z : Array Value) (n : Nat) : List AV := (List.range n).map fun i => constCell z[i % z.size]!

theorem zeroAV_holds (ι : Nat → Option (Nat × Nat)) (imm : Nat → Prop) (w : World) (z : Array Value) (n : Nat) : CellsH ι imm w ((Array.range n).map (z[· % z.size]!)) (zeroAV z n) 0 ∧ ((Array.range n).map (z[· % z.size]!)).size = (zeroAV z n).length := by
  refine ⟨CellsH.of_VHs (vs := (List.range n).map fun i => z[i % z.size]!) ?_ fun i hi => ?_, by simp [zeroAV]⟩
  · have : zeroAV z n = ((List.range n).map fun i => z[i % z.size]!).map constCell := by simp [zeroAV]
    rw [this]; exact VHs_map_const ι imm w _
  · simp at hi
    simp [hi]

theorem makes_buildSlice (hT : TabOk E.P T) {o : Oper} {t : TypeId} {n : Nat} {parts : Array (Nat × Operand)} (ho : o.op = .buildSlice t n parts) {r re : TyRow} (hr : T.lookup t = some r) {e : TypeId} (hdesc : r.desc = .slice e) (hre : T.lookup e = some re) {us zs : List AV}
    (hbig : n * re.size ≤ 16777216) (hz : fillAV (fun i => some (i * re.size, re.size)) (zeroAV re.zero.cells (n * re.size)) (parts.toList.zipWith (fun p u => (p.1, u)) us) = some zs) (hlz : zs.length = n * re.size) :
    Makes E o us [] (fun d => .sl d 0 n re.size true) (.cells zs) := by
  intro ι imm st a w hs hv _
  rw [ho] at hv
  simp only [Op.operands] at hv
  obtain ⟨h1, h2⟩ := VHs_parts (E := E) (a := a) parts.toList us (by simpa using hv)
  obtain ⟨q1, q2⟩ := zeroAV_holds ι imm w re.zero.cells (n * re.size)
  obtain ⟨c', h3, h4, h5⟩ := fill_holds hz q1 q2 h2 h1
  refine ⟨.cells c' e, .slice (some ⟨w.heap.size, 0, none⟩) n n, ?_, ⟨c', e, rfl, by omega, h4⟩, fun d ι' hi => ⟨_, _, n, hi, rfl, Nat.le_refl _, fun _ => rfl, c', e, (0, 0), ?_, by omega⟩⟩
  · have hno : ¬ n * re.size > 2 ^ 24 := by omega
    by_cases h0 : n * re.size = 0
    · rw [h0] at h3
      have hz0 : ((Array.range 0).map (re.zero.cells[· % re.zero.cells.size]!)) = ((Array.range 0).map ((#[] : Array Value)[· % (#[] : Array Value).size]!)) := by simp
      simp only [execOp, ho, Instr.buildSlice, run_bind', run_underlying hT hr, hdesc, run_sizeOf hT hre, h0, if_neg (show ¬ (0 > 2 ^ 24) by omega), if_true, run_pure', newRow, newObj, Array.toList_map]
      rw [hz0] at h3
      simp only [h3]
      rfl
    · simp only [execOp, ho, Instr.buildSlice, run_bind', run_underlying hT hr, hdesc, run_sizeOf hT hre, if_neg hno, if_neg h0, run_zeroValue hT hre, run_pure', newRow, newObj, Sem.run, Array.toList_map, h3]
      rfl
  · show (w.heap.push _)[w.heap.size]? = _
    rw [Array.getElem?_push, if_pos rfl]
theorem does_buildSlice (hT : TabOk E.P T) {o : Oper} {t : TypeId} {n : Nat} {parts : Array (Nat × Operand)} (ho : o.op = .buildSlice t n parts) {d : Nat} (hdst : o.dst = some d) (hd : d < E.n) {r re : TyRow} (hr : T.lookup t = some r) {e : TypeId} (hdesc : r.desc = .slice e) (hre : T.lookup e = some re) {us zs : List AV}
    (hbig : n * re.size ≤ 16777216) (hz : fillAV (fun i => some (i * re.size, re.size)) (zeroAV re.zero.cells (n * re.size)) (parts.toList.zipWith (fun p u => (p.1, u)) us) = some zs) (hlz : zs.length = n * re.size) :
    Does E o us [] { v := .sl d 0 n re.size true, new := [(d, .cells zs)] } := (makes_buildSlice hT ho hr hdesc hre hbig hz hlz).does hdst hd
end ops
end Go.Am
