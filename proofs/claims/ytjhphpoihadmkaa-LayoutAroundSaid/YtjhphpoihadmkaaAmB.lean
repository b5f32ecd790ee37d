/- An abstract machine over the kit's calls, part B: parts of aggregates by value, slices as arrays, slices made, aggregates compared, slices held against nil. No conditions. -/
import Derived.Test.YtjhphpoihadmkaaAm10
import Derived.Laws.StructEq
import Derived.ChangeKeysEq
namespace Go.Am

/-- A part of an aggregate's cells. -/
def partV (r : TyRow) (cs : List AV) (off : Nat) : Option AV :=
  if isAggD r.desc then (if off + r.size ≤ cs.length then some (.agg ((cs.drop off).take r.size)) else none) else (cs.drop off).head?

section ops
variable {E : Env} {T : Tab}

theorem VHs.drop {ι : Nat → Option (Nat × Nat)} {imm : Nat → Prop} {w : World} : ∀ {k : Nat} {xs : List AV} {us : List Value}, VHs ι imm w xs us → VHs ι imm w (xs.drop k) (us.drop k)
  | 0, _, _, h => h
  | k + 1, [], us, h => by simp only [VHs] at h; subst h; simp [VHs]
  | k + 1, x :: xs, us, h => by obtain ⟨v, us', rfl, _, q2⟩ := h; exact VHs.drop (k := k) q2
theorem VHs.take {ι : Nat → Option (Nat × Nat)} {imm : Nat → Prop} {w : World} : ∀ {k : Nat} {xs : List AV} {us : List Value}, VHs ι imm w xs us → VHs ι imm w (xs.take k) (us.take k)
  | 0, _, _, _ => by simp [VHs]
  | k + 1, [], us, h => by simp only [VHs] at h; subst h; simp [VHs]
  | k + 1, x :: xs, us, h => by obtain ⟨v, us', rfl, q1, q2⟩ := h; exact ⟨v, us'.take k, rfl, q1, VHs.take q2⟩

theorem run_part {P : Program} (hT : TabOk P T) {t : TypeId} {r : TyRow} (hr : T.lookup t = some r) {ι : Nat → Option (Nat × Nat)} {imm : Nat → Prop} {w : World} {cs : List AV} {us : List Value} (h : VHs ι imm w cs us) {off : Nat} {z : AV} (hz : partV r cs off = some z) :
    ∃ u, (part t (List.toArray us) off).run P w = .ok u w ∧ VH ι imm w z u := by
  unfold partV at hz
  simp only [part, run_bind', run_isAgg hT hr]
  cases hb : isAggD r.desc with
  | true =>
    simp only [hb, if_true] at hz
    split at hz
    · simp only [Option.some.injEq] at hz
      subst hz
      refine ⟨.agg ((List.toArray us).extract off (off + r.size)), by simp only [if_true, run_bind', run_sizeOf hT hr, run_pure'], ⟨(us.drop off).take r.size, ?_, h.drop.take⟩⟩
      congr 1
      apply Array.ext'
      simp [List.extract_eq_take_drop]
    · cases hz
  | false =>
    simp only [hb, Bool.false_eq_true, if_false] at hz
    have hd := h.drop (k := off)
    cases hcs : cs.drop off with
    | nil => rw [hcs] at hz; cases hz
    | cons y ys =>
      rw [hcs] at hz hd
      simp only [List.head?_cons, Option.some.injEq] at hz
      subst hz
      obtain ⟨v, us', he, q1, _⟩ := hd
      refine ⟨v, ?_, q1⟩
      have : (List.toArray us)[off]? = some v := by
        have h9 : (us.drop off)[0]? = some v := by rw [he]; rfl
        simpa using h9
      simp only [Bool.false_eq_true, if_false, this, run_pure']

def bt (s : ByteArray) (i : Int) : Int := ((s[i.toNat]?).map (fun b => (b.toNat : Int))).getD 0

/-- An element of an array by value, or a byte of a string. -/
def idxAV (T : Tab) (d : TypeDesc) (x : AV) (i : Int) : Option (Prop × AV) :=
  match d, x with
  | .array n e, .agg cs => match T.lookup e with
    | some r => match partV r cs (i.toNat * r.size) with
      | some z => some (0 ≤ i ∧ i < n, z)
      | none => none
    | none => none
  | .string, .pv (.lit (.string s)) => some (0 ≤ i ∧ i < s.size, .pv (.lit (.int .u8 (bt s i))))
  | _, _ => none

theorem does_index (hT : TabOk E.P T) {o : Oper} {t : TypeId} {x y : Operand} (ho : o.op = .index t x y) (hd : ∀ d, o.dst = some d → d < E.n) {r : TyRow} (hr : T.lookup t = some r) {k : IntKind} {i : Int} {u z : AV} {p : Prop} (hz : idxAV T r.desc u i = some (p, z)) (hp : p) :
    Does E o [u, .pv (.lit (.int k i))] [] { v := z } := by
  refine Does.value hd fun ι imm st a w hs hv _ => ?_
  rw [ho] at hv
  simp only [Op.operands, List.map_cons, List.map_nil] at hv
  obtain ⟨hv1, hv2⟩ := hv.two
  simp only [VH, PH] at hv2
  unfold idxAV at hz
  split at hz
  · rename_i n e cs hdesc
    split at hz
    · rename_i re hre
      split at hz
      · rename_i z' hz'
        simp only [Option.some.injEq, Prod.mk.injEq] at hz
        obtain ⟨rfl, rfl⟩ := hz
        simp only [VH] at hv1
        obtain ⟨us, he, hus⟩ := hv1
        obtain ⟨q, h1, h2⟩ := run_part hT hre hus hz'
        refine ⟨q, ?_, h2⟩
        simp only [execOp, ho, he, hv2.1, Instr.index, asIntOf, run_bind', run_pure', run_underlying hT hr, hdesc]
        rw [if_pos hp]
        simp only [run_bind', run_sizeOf hT hre, h1]
      · cases hz
    · cases hz
  · rename_i s hdesc
    simp only [Option.some.injEq, Prod.mk.injEq] at hz
    obtain ⟨rfl, rfl⟩ := hz
    simp only [VH, PH] at hv1
    have hlt : i.toNat < s.size := by omega
    refine ⟨.int .u8 (bt s i), ?_, by simp [VH, PH, flatB]⟩
    simp only [execOp, ho, hv1.1, hv2.1, Instr.index, asIntOf, run_bind', run_pure', run_underlying hT hr, hdesc]
    rw [if_pos hp.1]
    have : s[i.toNat]? = some s[i.toNat] := getElem?_pos s i.toNat hlt
    simp only [this, run_pure', bt, Option.map_some, Option.getD_some]
  · cases hz

theorem does_field (hT : TabOk E.P T) {o : Oper} {t : TypeId} {x : Operand} {f : Nat} (ho : o.op = .field t x f) (hd : ∀ d, o.dst = some d → d < E.n) {r : TyRow} (hr : T.lookup t = some r) {fs : Array Field} (hdesc : r.desc = .struct fs) {fd : Field} (hf : fs[f]? = some fd) {rf : TyRow} (hrf : T.lookup fd.type = some rf)
    {cs : List AV} {z : AV} (hz : partV rf cs fd.offset = some z) : Does E o [.agg cs] [] { v := z } := by
  refine Does.value hd fun ι imm st a w hs hv _ => ?_
  rw [ho] at hv
  simp only [Op.operands, List.map_cons, List.map_nil] at hv
  have hv := hv.one
  simp only [VH] at hv
  obtain ⟨us, he, hus⟩ := hv
  obtain ⟨q, h1, h2⟩ := run_part hT hrf hus hz
  exact ⟨q, by simp only [execOp, ho, he, Instr.field, asAgg, run_bind', run_pure', run_underlying hT hr, hdesc, hf, h1], h2⟩

/-- A slice as an array's address. -/
def arrAV (n sz : Nat) (x : AV) : Option (Prop × AV) :=
  match x with
  | .pv (.sl _ m ps) => some (n ≤ m ∧ 0 < n, .rp (ps.take (n * sz)))
  | .tsl m ps => some (n ≤ m ∧ 0 < n, .rp (ps.take (n * sz)))
  | .sl b o m s _ => if s = sz then some (n ≤ m ∧ 0 < n, .ptr b o) else none
  | _ => none

theorem does_toArray (hT : TabOk E.P T) {o : Oper} {t : TypeId} {x : Operand} (ho : o.op = .sliceToArrayPointer t x) (hd : ∀ d, o.dst = some d → d < E.n) {r : TyRow} (hr : T.lookup t = some r) {n e : Nat} (hdesc : r.desc = .array n e) {sz : Nat} {u z : AV} {p : Prop} (hz : arrAV n sz u = some (p, z)) (hp : p) :
    Does E o [u] [] { v := z } := by
  refine Does.value hd fun ι imm st a w hs hv _ => ?_
  rw [ho] at hv
  simp only [Op.operands, List.map_cons, List.map_nil] at hv
  have hv := hv.one
  have run : ∀ {A : Option Addr} {m cap : Nat}, a.eval x = .slice A m cap → n ≤ m → (execOp a.eval o).run E.P w = .ok (.value (.pointer A)) w := fun {A m cap} he hle => by
    simp only [execOp, ho, he, Instr.arrayAt, run_bind', run_underlying hT hr, hdesc]
    rw [if_neg (by omega)]; rfl
  unfold arrAV at hz
  split at hz
  · simp only [Option.some.injEq, Prod.mk.injEq] at hz
    obtain ⟨rfl, rfl⟩ := hz
    simp only [VH, PH] at hv
    obtain ⟨A, cap, he, h1, h2, h3, h4, h5⟩ := hv
    cases A with
    | none => obtain ⟨h6, _⟩ := h4 rfl; omega
    | some ad =>
      refine ⟨_, run he hp.1, ⟨ad, rfl, fun hne => ?_⟩⟩
      obtain ⟨q1, q2, q3⟩ := h5 ad rfl (fun e => hne (by rw [e]; simp))
      exact ⟨q1, q2, q3.take⟩
  · simp only [Option.some.injEq, Prod.mk.injEq] at hz
    obtain ⟨rfl, rfl⟩ := hz
    simp only [VH] at hv
    obtain ⟨A, he, h4, h5⟩ := hv
    cases A with
    | none => obtain ⟨h6, _⟩ := h4 rfl; omega
    | some ad =>
      refine ⟨_, run he hp.1, ⟨ad, rfl, fun hne => ?_⟩⟩
      obtain ⟨q1, q2, q3⟩ := h5 ad rfl (fun e => hne (by rw [e]; simp))
      exact ⟨q1, q2, q3.take⟩
  · split at hz
    · simp only [Option.some.injEq, Prod.mk.injEq] at hz
      obtain ⟨rfl, rfl⟩ := hz
      simp only [VH] at hv
      obtain ⟨q, z0, cap, hi, he, _⟩ := hv
      exact ⟨_, run he hp.1, ⟨q, z0, hi, rfl⟩⟩
    · cases hz
  · cases hz

theorem wrap_i64 {n : Int} (h0 : 0 ≤ n) (h1 : n ≤ 9223372036854775807) : IntKind.i64.wrap n = n := by
  have e1 : ((2 : Int) ^ 64) = 18446744073709551616 := by decide
  have e2 : ((2 : Int) ^ 63) = 9223372036854775808 := by decide
  simp only [IntKind.wrap, IntKind.bits, IntKind.signed, Bool.true_and]
  simp only [e1, show (64 - 1 : Nat) = 63 from rfl, e2]
  have : n % 18446744073709551616 = n := Int.emod_eq_of_lt h0 (by omega)
  rw [this, if_neg (by simp; omega)]

theorem makes_makeSlice (hT : TabOk E.P T) {o : Oper} {t : TypeId} {x y : Operand} (ho : o.op = .makeSlice t x y) {r re : TyRow} (hr : T.lookup t = some r) {e : TypeId} (hdesc : r.desc = .slice e) (hre : T.lookup e = some re) {k k' : IntKind} {len cap : Int}
    (h0 : 0 ≤ len) (h1 : len ≤ cap) (h2 : cap ≤ 140737488355328) (h3 : re.bytes * cap ≤ 140737488355328) :
    Makes E o [.pv (.lit (.int k len)), .pv (.lit (.int k' cap))] [] (fun d => .sl d 0 len.toNat re.size (decide (len = cap))) (.cells (zeroAV re.zero.cells (cap.toNat * re.size))) := by
  intro ι imm st a w hs hv _
  rw [ho] at hv
  simp only [Op.operands, List.map_cons, List.map_nil] at hv
  obtain ⟨hv1, hv2⟩ := hv.two
  simp only [VH, PH] at hv1 hv2
  obtain ⟨q1, q2⟩ := zeroAV_holds ι imm w re.zero.cells (cap.toNat * re.size)
  refine ⟨.cells ((Array.range (cap.toNat * re.size)).map (re.zero.cells[· % re.zero.cells.size]!)) e, .slice (some ⟨w.heap.size, 0, none⟩) len.toNat cap.toNat, ?_, ⟨_, _, rfl, by omega, q1⟩, fun d ι' hi => ⟨_, _, cap.toNat, hi, rfl, by omega, fun h => by have := of_decide_eq_true h; omega, (Array.range (cap.toNat * re.size)).map (re.zero.cells[· % re.zero.cells.size]!), e, (0, 0), ?_, by simp⟩⟩
  · obtain ⟨ri, g1, g2, g3, g4⟩ := run_typeInfo hT hre w (P := E.P)
    have w1 : IntKind.i64.wrap len = len := wrap_i64 h0 (by omega)
    have w2 : IntKind.i64.wrap cap = cap := wrap_i64 (by omega) (by omega)
    have hcond : ((decide (cap < 0) || decide ((ri.bytes : Int) * cap > 2 ^ 48) || decide (len < 0) || decide (len > cap)) = true) = False := by
      simp only [eq_iff_iff, iff_false, Bool.or_eq_true, decide_eq_true_eq, not_or, g3]
      refine ⟨⟨⟨by omega, ?_⟩, by omega⟩, by omega⟩
      have : ((2 : Int) ^ 48) = 281474976710656 := by decide
      rw [this]; omega
    simp only [execOp, ho, hv1.1, hv2.1, Instr.makeSlice, asInt, asIntOf, run_bind', run_pure', run_underlying hT hr, hdesc, g1, w1, w2]
    have hroom : ∀ w, (askRoom (cap.toNat * ri.bytes)).run E.P w = .ok () w := fun w => by
      unfold askRoom; split <;> rfl
    simp only [hcond, if_false, run_bind', hroom, run_sizeOf hT hre]
    by_cases hz : cap.toNat * re.size = 0
    · simp only [hz, if_true, run_pure', newRow, run_bind', newObj, Sem.run]
      have : ((Array.range 0).map (re.zero.cells[· % re.zero.cells.size]!)) = ((Array.range 0).map ((#[] : Array Value)[· % (#[] : Array Value).size]!)) := by simp
      rw [this]; rfl
    · simp only [if_neg hz, run_zeroValue hT hre, run_pure', newRow, run_bind', newObj, Sem.run]
      rfl
  · show (w.heap.push _)[w.heap.size]? = _
    rw [Array.getElem?_push, if_pos rfl]

theorem does_makeSlice (hT : TabOk E.P T) {o : Oper} {t : TypeId} {x y : Operand} (ho : o.op = .makeSlice t x y) {d : Nat} (hdst : o.dst = some d) (hd : d < E.n) {r re : TyRow} (hr : T.lookup t = some r) {e : TypeId} (hdesc : r.desc = .slice e) (hre : T.lookup e = some re) {k k' : IntKind} {len cap : Int}
    (h0 : 0 ≤ len) (h1 : len ≤ cap) (h2 : cap ≤ 140737488355328) (h3 : re.bytes * cap ≤ 140737488355328) :
    Does E o [.pv (.lit (.int k len)), .pv (.lit (.int k' cap))] [] { v := .sl d 0 len.toNat re.size (decide (len = cap)), new := [(d, .cells (zeroAV re.zero.cells (cap.toNat * re.size)))] } := (makes_makeSlice hT ho hr hdesc hre h0 h1 h2 h3).does hdst hd

/-! ### Aggregates compared -/
def eqCell : AV → AV → Option Bool
  | .pv (.lit (.int k a)), .pv (.lit (.int k' b)) => if k = k' then some (a == b) else none
  | .pv (.lit (.bool a)), .pv (.lit (.bool b)) => some (a == b)
  | .pv (.lit (.string a)), .pv (.lit (.string b)) => some (a.toList == b.toList)
  | _, _ => none

def andO : Option Bool → Option Bool → Option Bool
  | some a, some b => some (a && b)
  | _, _ => none

def kindFits : TypeDesc → AV → Bool
  | .int _, .pv (.lit (.int _ _)) => true
  | .bool, .pv (.lit (.bool _)) => true
  | .string, .pv (.lit (.string _)) => true
  | _, _ => false

def eqFs (T : Tab) (rec : TyRow → AV → AV → Option Bool) (xs ys : List AV) : List Field → Option Bool
  | [] => some true
  | f :: fs => if f.name = "_" then none else match T.lookup f.type with
    | some r => match partV r xs f.offset, partV r ys f.offset with
      | some x, some y => andO (rec r x y) (eqFs T rec xs ys fs)
      | _, _ => none
    | none => none
def eqIs (rec : TyRow → AV → AV → Option Bool) (r : TyRow) (xs ys : List AV) : List Nat → Option Bool
  | [] => some true
  | i :: is => match partV r xs (i * r.size), partV r ys (i * r.size) with
    | some x, some y => andO (rec r x y) (eqIs rec r xs ys is)
    | _, _ => none
def eqFlat (d : TypeDesc) (x y : AV) : Option Bool := if kindFits d x && kindFits d y then eqCell x y else none
/-- Are two values of a type the same? -/
def eqAV (T : Tab) : Nat → TyRow → AV → AV → Option Bool
  | 0, _, _, _ => none
  | d + 1, r, x, y => match r.desc with
    | .struct fs => match x, y with
      | .agg xs, .agg ys => if r.eq then eqFs T (eqAV T d) xs ys fs.toList else none
      | _, _ => none
    | .array n e => match x, y with
      | .agg xs, .agg ys => match T.lookup e with
        | some re => eqIs (eqAV T d) re xs ys (List.range n)
        | none => none
      | _, _ => none
    | desc => eqFlat desc x y

theorem run_eqFlat {P : Program} (hT : TabOk P T) {t : TypeId} {r : TyRow} (hr : T.lookup t = some r) {ι : Nat → Option (Nat × Nat)} {imm : Nat → Prop} {w : World} {d : Nat} {x y : AV} {b : Bool}
    (h : eqFlat r.desc x y = some b) {u v : Value} (hx : VH ι imm w x u) (hy : VH ι imm w y v) : (Op.equalIn (d + 1) t u v).run P w = .ok b w := by
  have hu := (hT t r hr).1
  unfold eqFlat at h
  split at h
  · rename_i hk
    simp only [Bool.and_eq_true] at hk
    unfold eqCell at h
    split at h
    · split at h
      · rename_i k a k' b' hkk
        subst hkk
        simp only [Option.some.injEq] at h
        subst h
        simp only [VH, PH] at hx hy
        rw [hx.1, hy.1]
        cases hd : r.desc <;> rw [hd] at hk <;> simp only [kindFits, Bool.false_eq_true, false_and] at hk
        exact run_equalIn_int w d t k _ a b' (by rw [hu, hd])
      · cases h
    · rename_i a b'
      simp only [Option.some.injEq] at h
      subst h
      simp only [VH, PH] at hx hy
      rw [hx.1, hy.1]
      cases hd : r.desc <;> rw [hd] at hk <;> simp only [kindFits, Bool.false_eq_true, false_and] at hk
      exact run_equalIn_bool' w d t a b' (by rw [hu, hd])
    · rename_i a b'
      simp only [Option.some.injEq] at h
      subst h
      simp only [VH, PH] at hx hy
      rw [hx.1, hy.1]
      cases hd : r.desc <;> rw [hd] at hk <;> simp only [kindFits, Bool.false_eq_true, false_and] at hk
      exact run_equalIn_string w d t a b' (by rw [hu, hd])
    · cases h
  · cases h

theorem bind_ok {P : Program} {α β : Type} {s : Sem α} {f : α → Sem β} {w w' : World} {a : α} (h : s.run P w = .ok a w') : (s >>= f).run P w = (f a).run P w' := by
  rw [run_bind', h]

theorem run_eqFs {P : Program} (hT : TabOk P T) {ι : Nat → Option (Nat × Nat)} {imm : Nat → Prop} {w : World} {d : Nat} {rec : TyRow → AV → AV → Option Bool}
    (hrec : ∀ {t : TypeId} {r : TyRow} (_ : T.lookup t = some r) {x y : AV} {b : Bool} (_ : rec r x y = some b) {u v : Value} (_ : VH ι imm w x u) (_ : VH ι imm w y v), (Op.equalIn d t u v).run P w = .ok b w) :
    ∀ (fs : List Field) {xs ys : List AV} {b : Bool} (_ : eqFs T rec xs ys fs = some b) {us vs : List Value} (_ : VHs ι imm w xs us) (_ : VHs ι imm w ys vs), (Op.eqFields d (List.toArray us) (List.toArray vs) fs).run P w = .ok b w
  | [], xs, ys, b, h, us, vs, _, _ => by simp only [eqFs, Option.some.injEq] at h; subst h; rfl
  | f :: fs, xs, ys, b, h, us, vs, hx, hy => by
    simp only [eqFs] at h
    split at h
    · cases h
    · rename_i hn
      split at h
      · rename_i r hr
        split at h
        · rename_i x y hpx hpy
          unfold andO at h
          split at h
          · rename_i b1 b2 h1 h2
            simp only [Option.some.injEq] at h
            subst h
            obtain ⟨u, q1, q2⟩ := run_part hT hr hx hpx
            obtain ⟨v, q3, q4⟩ := run_part hT hr hy hpy
            have h3 := hrec hr h1 q2 q4
            rw [Op.eqFields, if_pos hn, bind_ok q1, bind_ok q3, bind_ok h3]
            cases b1
            · rfl
            · simp only [Bool.not_true, Bool.false_eq_true, if_false, Bool.true_and]
              exact run_eqFs hT hrec fs h2 hx hy
          · cases h
        · cases h
      · cases h
theorem run_eqIs {P : Program} (hT : TabOk P T) {ι : Nat → Option (Nat × Nat)} {imm : Nat → Prop} {w : World} {d : Nat} {rec : TyRow → AV → AV → Option Bool}
    (hrec : ∀ {t : TypeId} {r : TyRow} (_ : T.lookup t = some r) {x y : AV} {b : Bool} (_ : rec r x y = some b) {u v : Value} (_ : VH ι imm w x u) (_ : VH ι imm w y v), (Op.equalIn d t u v).run P w = .ok b w) {e : TypeId} {r : TyRow} (hr : T.lookup e = some r) :
    ∀ (is : List Nat) {xs ys : List AV} {b : Bool} (_ : eqIs rec r xs ys is = some b) {us vs : List Value} (_ : VHs ι imm w xs us) (_ : VHs ι imm w ys vs), (Op.eqItems d e r.size (List.toArray us) (List.toArray vs) is).run P w = .ok b w
  | [], xs, ys, b, h, us, vs, _, _ => by simp only [eqIs, Option.some.injEq] at h; subst h; rfl
  | i :: is, xs, ys, b, h, us, vs, hx, hy => by
    simp only [eqIs] at h
    split at h
    · rename_i x y hpx hpy
      unfold andO at h
      split at h
      · rename_i b1 b2 h1 h2
        simp only [Option.some.injEq] at h
        subst h
        obtain ⟨u, q1, q2⟩ := run_part hT hr hx hpx
        obtain ⟨v, q3, q4⟩ := run_part hT hr hy hpy
        have h3 := hrec hr h1 q2 q4
        rw [Op.eqItems, bind_ok q1, bind_ok q3, bind_ok h3]
        cases b1
        · rfl
        · simp only [Bool.not_true, Bool.false_eq_true, if_false, Bool.true_and]
          exact run_eqIs hT hrec hr is h2 hx hy
      · cases h
    · cases h

theorem run_eqAV {P : Program} (hT : TabOk P T) {ι : Nat → Option (Nat × Nat)} {imm : Nat → Prop} {w : World} : ∀ (d : Nat) {t : TypeId} {r : TyRow} (_ : T.lookup t = some r) {x y : AV} {b : Bool} (_ : eqAV T d r x y = some b) {u v : Value} (_ : VH ι imm w x u) (_ : VH ι imm w y v), (Op.equalIn d t u v).run P w = .ok b w
  | 0, _, _, _, _, _, _, h, _, _, _, _ => by simp [eqAV] at h
  | d + 1, t, r, hr, x, y, b, h, u, v, hx, hy => by
    have hu := (hT t r hr).1
    unfold eqAV at h
    split at h
    · rename_i fs hfs
      split at h
      · rename_i xs ys
        split at h
        · rename_i hq
          simp only [VH] at hx hy
          obtain ⟨us, rfl, hus⟩ := hx
          obtain ⟨vs, rfl, hvs⟩ := hy
          have hst := ((hT t r hr).2.2 hq).1
          have hfo : P.fieldsOf t = fs := by simp only [Program.fieldsOf, hu, hfs]
          rw [run_equalIn_struct w d t _ _ (by rw [hfo, hu, hfs]) hst, hfo]
          exact run_eqFs hT (fun hr' _ _ _ h' _ _ q1 q2 => run_eqAV hT d hr' h' q1 q2) fs.toList h hus hvs
        · cases h
      · cases h
    · rename_i n e hne
      split at h
      · rename_i xs ys
        split at h
        · rename_i re hre
          simp only [VH] at hx hy
          obtain ⟨us, rfl, hus⟩ := hx
          obtain ⟨vs, rfl, hvs⟩ := hy
          obtain ⟨_, ⟨i, hi, hsz, _⟩, _⟩ := hT e re hre
          have hc : P.cellsOf e = re.size := by simp [Program.cellsOf, hi, hsz]
          rw [run_equalIn_array w d _ _ (by rw [hu, hne]) hi, hc]
          exact run_eqIs hT (fun hr' _ _ _ h' _ _ q1 q2 => run_eqAV hT d hr' h' q1 q2) hre (List.range n) h hus hvs
        · cases h
      · cases h
    · exact run_eqFlat hT hr h hx hy

/-- `==` and `!=` of aggregates. -/
def eqAgg (T : Tab) (op : BinOp) (r : TyRow) (x y : AV) : Option AV :=
  match x, y with
  | .agg _, .agg _ => if r.eq then match op, eqAV T 10000 r x y with
      | .eql, some b => some (.pv (.lit (.bool b)))
      | .neq, some b => some (.pv (.lit (.bool !b)))
      | _, _ => none
    else none
  | _, _ => none

theorem does_eqAgg (hT : TabOk E.P T) {o : Oper} {op : BinOp} {t yt : TypeId} {x y : Operand} (ho : o.op = .binOp op t x y yt) (hd : ∀ d, o.dst = some d → d < E.n) {r : TyRow} (hr : T.lookup t = some r) {u v z : AV} (h : eqAgg T op r u v = some z) : Does E o [u, v] [] { v := z } := by
  refine Does.value hd fun ι imm st a w hs hv _ => ?_
  rw [ho] at hv
  simp only [Op.operands, List.map_cons, List.map_nil] at hv
  obtain ⟨h1, h2⟩ := hv.two
  unfold eqAgg at h
  split at h
  · rename_i xs ys
    split at h
    · rename_i hq
      have heq : ∀ {b}, eqAV T 10000 r (.agg xs) (.agg ys) = some b → (Op.equal t (a.eval x) (a.eval y)).run E.P w = .ok b w := fun {b} hb => run_eqAV hT 10000 hr hb h1 h2
      simp only [VH] at h1 h2
      obtain ⟨us, e1, _⟩ := h1
      obtain ⟨vs, e2, _⟩ := h2
      have hg : (eqGuard op t x y (a.eval x) (a.eval y)).run E.P w = .ok () w := by rw [e1, e2]; exact run_eqGuard_agg w op t x y _ _ ((hT t r hr).2.2 hq).2
      split at h
      · rename_i b hb
        simp only [Option.some.injEq] at h
        subst h
        refine ⟨.bool b, ?_, by simp [VH, PH, flatB]⟩
        have := heq hb
        have hbin : (binOp .eql t (a.eval x) (a.eval y)).run E.P w = .ok (.bool b) w := by
          rw [e1, e2] at this ⊢
          show (do let q ← Op.equal t _ _; pure (Value.bool q) : Sem Value).run E.P w = _
          rw [bind_ok this]; rfl
        simp only [execOp, ho, run_bind', hg, hbin, run_pure']
      · rename_i b hb
        simp only [Option.some.injEq] at h
        subst h
        refine ⟨.bool !b, ?_, by simp [VH, PH, flatB]⟩
        have := heq hb
        have hbin : (binOp .neq t (a.eval x) (a.eval y)).run E.P w = .ok (.bool !b) w := by
          rw [e1, e2] at this ⊢
          show (do let q ← Op.equal t _ _; pure (Value.bool !q) : Sem Value).run E.P w = _
          rw [bind_ok this]; rfl
        simp only [execOp, ho, run_bind', hg, hbin, run_pure']
      · cases h
    · cases h
  · cases h

/-- A slice, or a map, held against nil. -/
def nilS : AV → Option Bool
  | .pv (.sl (some f) _ _) => some f
  | .pv (.sl none (_ + 1) _) => some false
  | .sl _ _ _ _ _ => some false
  | _ => none
def nilM : AV → Option Bool
  | .pv (.lit (.map none)) => some true
  | .mp _ => some false
  | _ => none
def opB (op : BinOp) (b : Bool) : Option AV := match op with | .eql => some (.pv (.lit (.bool b))) | .neq => some (.pv (.lit (.bool !b))) | _ => none
def eqNil (op : BinOp) (d : TypeDesc) (x y : AV) : Option AV :=
  match d with
  | .slice _ => match nilS x, nilS y with
    | some a, some b => if a || b then opB op (a && b) else none
    | _, _ => none
  | .map _ _ => match nilM x, nilM y with
    | some a, some b => if a || b then opB op (a && b) else none
    | _, _ => none
  | _ => none

theorem nilS_holds {ι : Nat → Option (Nat × Nat)} {imm : Nat → Prop} {w : World} {x : AV} {f : Bool} (h : nilS x = some f) {v : Value} (hv : VH ι imm w x v) : ∃ A n c, v = .slice A n c ∧ A.isNone = f := by
  unfold nilS at h
  split at h
  · rename_i g n ps
    simp only [Option.some.injEq] at h
    simp only [VH, PH] at hv
    obtain ⟨A, cap, e, _, h1, h2, _⟩ := hv
    rw [h] at h1 h2
    refine ⟨A, _, _, e, ?_⟩
    cases f
    · have := h2 rfl; cases A <;> simp_all
    · rw [h1 rfl]; rfl
  · simp only [Option.some.injEq] at h
    subst h
    simp only [VH, PH] at hv
    obtain ⟨A, cap, e, _, _, _, h3, _⟩ := hv
    refine ⟨A, _, _, e, ?_⟩
    cases A with
    | none => have := (h3 rfl).1; omega
    | some a => rfl
  · simp only [Option.some.injEq] at h
    subst h
    simp only [VH] at hv
    obtain ⟨r, z, cap, _, e, _⟩ := hv
    exact ⟨_, _, _, e, rfl⟩
  · cases h
theorem nilM_holds {ι : Nat → Option (Nat × Nat)} {imm : Nat → Prop} {w : World} {x : AV} {f : Bool} (h : nilM x = some f) {v : Value} (hv : VH ι imm w x v) : ∃ A, v = .map A ∧ A.isNone = f := by
  unfold nilM at h
  split at h
  · simp only [Option.some.injEq] at h
    subst h
    simp only [VH, PH] at hv
    exact ⟨none, hv.1, rfl⟩
  · simp only [Option.some.injEq] at h
    subst h
    simp only [VH] at hv
    obtain ⟨r, z, _, e⟩ := hv
    exact ⟨_, e, rfl⟩
  · cases h

theorem does_eqNil (hT : TabOk E.P T) {o : Oper} {op : BinOp} {t yt : TypeId} {x y : Operand} (ho : o.op = .binOp op t x y yt) (hd : ∀ d, o.dst = some d → d < E.n) {r : TyRow} (hr : T.lookup t = some r) {u v z : AV} (h : eqNil op r.desc u v = some z) : Does E o [u, v] [] { v := z } := by
  refine Does.value hd fun ι imm st a w hs hv _ => ?_
  rw [ho] at hv
  simp only [Op.operands, List.map_cons, List.map_nil] at hv
  obtain ⟨h1, h2⟩ := hv.two
  have hu := run_underlying hT hr w (P := E.P)
  obtain ⟨dep, hdp⟩ : ∃ d, Op.maxDepth = d + 1 := ⟨_, rfl⟩
  have fin : ∀ {b : Bool}, (Op.equal t (a.eval x) (a.eval y)).run E.P w = .ok b w → (eqGuard op t x y (a.eval x) (a.eval y)).run E.P w = .ok () w → (∀ op', (op' = .eql ∨ op' = .neq) → binOp op' t (a.eval x) (a.eval y) = (match op' with | .eql => (do let q ← Op.equal t (a.eval x) (a.eval y); pure (Value.bool q)) | _ => (do let q ← Op.equal t (a.eval x) (a.eval y); pure (Value.bool !q)) : Sem Value)) →
      opB op b = some z → ∃ q, (execOp a.eval o).run E.P w = .ok (.value q) w ∧ VH ι imm w z q := by
    intro b hb hg hbin hz
    by_cases e1 : op = .eql
    · subst e1
      simp only [opB, Option.some.injEq] at hz; subst hz
      refine ⟨.bool b, ?_, by simp [VH, PH, flatB]⟩
      simp only [execOp, ho, run_bind', hg, hbin .eql (.inl rfl), hb, run_pure']
    · by_cases e2 : op = .neq
      · subst e2
        simp only [opB, Option.some.injEq] at hz; subst hz
        refine ⟨.bool !b, ?_, by simp [VH, PH, flatB]⟩
        simp only [execOp, ho, run_bind', hg, hbin .neq (.inr rfl), hb, run_pure']
      · exfalso; cases op <;> simp_all [opB]
  unfold eqNil at h
  split at h
  · rename_i e hdesc
    split at h
    · rename_i f g hf hg
      split at h
      · rename_i hfg
        obtain ⟨A, n, c, e1, e2⟩ := nilS_holds hf h1
        obtain ⟨B, m, c', e3, e4⟩ := nilS_holds hg h2
        refine fin (b := f && g) ?_ (by rw [e1]; exact eqGuard_run w (by simp) (by simp)) (fun op' ho' => by rw [e1, e3]; rcases ho' with rfl | rfl <;> rfl) h
        unfold Op.equal
        rw [hdp, e1, e3]
        cases A <;> cases B <;> simp only [Option.isNone_none, Option.isNone_some] at e2 e4 <;> subst e2 <;> subst e4 <;> first | (cases hfg; done) | skip
        all_goals simp only [Op.equalIn, run_bind', hu, hdesc, run_pure']; rfl
      · cases h
    · cases h
  · rename_i kt et hdesc
    split at h
    · rename_i f g hf hg
      split at h
      · rename_i hfg
        obtain ⟨A, e1, e2⟩ := nilM_holds hf h1
        obtain ⟨B, e3, e4⟩ := nilM_holds hg h2
        refine fin (b := f && g) ?_ (by rw [e1]; exact eqGuard_run w (by simp) (by simp)) (fun op' ho' => by rw [e1, e3]; rcases ho' with rfl | rfl <;> rfl) h
        unfold Op.equal
        rw [hdp, e1, e3]
        cases A <;> cases B <;> simp only [Option.isNone_none, Option.isNone_some] at e2 e4 <;> subst e2 <;> subst e4 <;> first | (cases hfg; done) | skip
        all_goals simp only [Op.equalIn, run_bind', hu, hdesc, run_pure']; rfl
      · cases h
    · cases h
  · cases h
end ops
end Go.Am
