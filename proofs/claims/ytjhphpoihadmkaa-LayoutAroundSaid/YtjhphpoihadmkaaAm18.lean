/- An abstract machine over the kit's calls, part 18: more rules: an element by value, copy, rows that will not change; slices of numbers told by lists. No conditions. -/
import Derived.Test.YtjhphpoihadmkaaAm16
namespace Go.Am
section steps
variable {E : Env} {T : Tab} {cq : Oper → Cls} {n : Nat} {ops : Array Oper}

/-- An operation whose outcome is told in other words. -/
theorem rvc_primv (C : Cx E T n) {d : Option Nat} {op : Op} {ty : TypeId} {pos : String} {af : Array Edge} {rest : List Oper} {st : St} {K : St → Prop} {xs : List Operand} {vs : List AV} {p : Prop} {hs : List (Nat × Blk)} {δ : Delta} (v' : AV) (h1 : dstB n ⟨d, op, ty, pos, af, none⟩ = true)
    (hx : op.operands.toList = xs) (h2 : evls st.S xs = some vs) (h4 : prim T ⟨d, op, ty, pos, af, none⟩ vs st.H = some (p, hs, δ)) (h5 : p) (h6 : freshB st.U δ = true) (hv : δ.v = v') (h7 : rvc E cq n ops rest (st.after d { δ with v := v' }) K) (h8 : footB (clsOf cq ⟨d, op, ty, pos, af, none⟩) hs δ = true := by rfl) :
    rvc E cq n ops (⟨d, op, ty, pos, af, none⟩ :: rest) st K := by
  subst hv
  exact rvc_prim C h1 hx h2 h4 h5 h6 h7 h8

theorem rvc_index (C : Cx E T n) {d : Option Nat} {t : TypeId} {x y : Operand} {ty : TypeId} {pos : String} {af : Array Edge} {rest : List Oper} {st : St} {K : St → Prop} {cs : List AV} {kk : IntKind} {i : Int} {r re : TyRow} {m e : Nat} {v : AV} (h1 : dstB n ⟨d, .index t x y, ty, pos, af, none⟩ = true)
    (h2 : evls st.S [x, y] = some [.agg cs, .pv (.lit (.int kk i))]) (hr : T.lookup t = some r) (hdesc : r.desc = .array m e) (hre : T.lookup e = some re) (hra : isAggD re.desc = false) (hi : 0 ≤ i ∧ i < m) (h4 : cs[i.toNat * re.size]? = some v) (h7 : rvc E cq n ops rest (st.after d { v := v }) K) (h8 : footB (clsOf cq ⟨d, .index t x y, ty, pos, af, none⟩) [] { v := v } = true := by rfl) :
    rvc E cq n ops (⟨d, .index t x y, ty, pos, af, none⟩ :: rest) st K := by
  refine rvc_prim C (p := 0 ≤ i ∧ i < m) (hs := []) (δ := { v := v }) h1 rfl h2 ?_ hi rfl h7 h8
  have : partV re cs (i.toNat * re.size) = some v := by unfold partV; rw [hra]; simpa using h4
  simp only [prim, hr, idxAV, hdesc, hre, this]

/-- An array out of cells that do not change. -/
theorem rvc_loadArr (C : Cx E T n) {d : Option Nat} {t : TypeId} {x : Operand} {ty : TypeId} {pos : String} {af : Array Edge} {rest : List Oper} {st : St} {K : St → Prop} {ps : List PV} {r : TyRow} (cs : List AV) (h1 : dstB n ⟨d, .load t x, ty, pos, af, none⟩ = true)
    (h2 : evl st.S x = some (.rp ps)) (hr : T.lookup t = some r) (hra : isAggD r.desc = true) (h3 : ps.map .pv = cs) (h4 : cs.length = r.size) (h5 : 0 < r.size) (h7 : rvc E cq n ops rest (st.after d { v := .agg cs }) K) (h8 : footB (clsOf cq ⟨d, .load t x, ty, pos, af, none⟩) [] { v := .agg cs } = true := by rfl) : rvc E cq n ops (⟨d, .load t x, ty, pos, af, none⟩ :: rest) st K := by
  subst h3
  refine rvc_prim C (p := True) (hs := []) (δ := { v := .agg (ps.map .pv) }) h1 rfl (vs := [.rp ps]) ?_ ?_ trivial rfl h7 h8
  · show evls st.S [x] = _
    simp only [evls, h2]
  · have hne : PV.isNe ps = true := by
      cases ps with
      | nil => simp at h4; omega
      | cons p ps => rfl
    simp only [prim, primLoad, hr, hne, if_true, readAV, hra]
    rw [if_pos (by omega), ← h4, List.take_length]

theorem rvc_copy (C : Cx E T n) {d : Option Nat} {c : Call} {t t2 : TypeId} {ty : TypeId} {pos : String} {af : Array Edge} {rest : List Oper} {st : St} {K : St → Prop} (hc : c.callee = .builtin .copy) (hty : c.argTypes = #[t, t2]) (h1 : dstB n ⟨d, .call c, ty, pos, af, none⟩ = true) {r re : TyRow} (hr : T.lookup t = some r) {e : TypeId} (hdesc : r.desc = .slice e) (hre : T.lookup e = some re)
    {b k m : Nat} {tt : Bool} {cs : List AV} {f : Option Bool} {m' : Nat} {ps : List PV} (hv : evls st.S c.args.toList = some [.sl b k m re.size tt, .pv (.sl f m' ps)]) (hb : st.H b = some (.cells cs)) (hlen : ps.length = m' * re.size) (hfit : k + (min m' m) * re.size ≤ cs.length) (hflat : ((ps.map AV.pv).take ((min m' m) * re.size)).all flatCell = true)
    (h7 : rvc E cq n ops rest (st.after d { v := .pv (.lit (.int .i64 ((min m' m : Nat) : Int))), wr := [(b, some (.cells (setRange cs k ((ps.map AV.pv).take ((min m' m) * re.size)))))] }) K) (hcl : clsOf cq ⟨d, .call c, ty, pos, af, none⟩ = .writer := by rfl) : rvc E cq n ops (⟨d, .call c, ty, pos, af, none⟩ :: rest) st K := by
  simp only [rvc]
  have hd : ∀ x, d = some x → x < E.n := fun x e => by
    simp only [dstB, e, decide_eq_true_eq] at h1
    exact C.n ▸ h1
  have hdo := does_copy C.tab (o := ⟨d, .call c, ty, pos, af, none⟩) rfl hc hty hd hr hdesc hre (b := b) (k := k) (n := m) (tt := tt) (cs := cs) (y := .pv (.sl f m' ps)) (H := st.H) (m := m') (hd' := []) (ys := ps.map AV.pv) rfl (by simpa using hlen) hfit hflat
  have hops : (Op.operands (.call c)).toList = c.args.toList := by simp [Op.operands, Call.operands, hc]
  refine ⟨h1, _, _, _, { vals := ?_, deps := ?_, fresh := ?_, does := hdo, reach := ?_, inV := rfl, inN := ?_, inW := ?_, wr := ?_, pure := fun h => ?_, quiet := fun h => ?_, foot := by rw [hcl]; rfl }, h7⟩
  · show evls st.S (Op.operands (.call c)).toList = _
    rw [hops]; exact hv
  · intro x hx; simp only [List.mem_singleton] at hx; subst hx; exact hb
  · intro x hx; cases hx
  · exact reach_ptr fun U => .inl rfl
  · intro x hx; cases hx
  · intro x hx k' hk
    simp only [List.mem_singleton] at hx
    subst hx
    simp only [Option.some.injEq] at hk
    subst hk
    simp only [Blk.within]
    refine within_setRange ?_ ?_
    · refine AV.withinL_mono (U := fun b' => refs [.sl b k m re.size tt, .pv (.sl f m' ps)] [(b, .cells cs)] b') (fun b hb => by simp [hb]) cs ?_
      exact within_self_blk [.sl b k m re.size tt, .pv (.sl f m' ps)] [(b, .cells cs)] (b, .cells cs) (List.mem_singleton.2 rfl)
    · exact within_sub (within_pvs _ ps) fun x hx => List.mem_of_mem_take hx
  · intro x hx
    simp only [List.mem_singleton] at hx
    subst hx
    simp [refs, AV.withinL, AV.within]
  · rw [hcl] at h; cases h
  · rw [hcl] at h; cases h

theorem Move.of_frozen {d : Option Nat} {op : Op} {ty : TypeId} {pos : String} {af : Array Edge} {g : Option (Nat × Bool)} {st : St} {vs : List AV} {v : PV} (hd : Does E ⟨d, op, ty, pos, af, g⟩ vs [] { v := .pv v }) (h2 : evls st.S op.operands.toList = some vs) (c : Cls) : Move E c ⟨d, op, ty, pos, af, g⟩ st vs [] { v := .pv v } :=
  { vals := h2, deps := fun _ h => (by cases h), fresh := fun _ h => (by cases h), does := hd, reach := rfl, inV := rfl, inN := fun _ h => (by cases h), inW := fun _ h => (by cases h), wr := fun _ h => (by cases h), pure := fun _ => ⟨rfl, rfl, rfl⟩, quiet := fun _ => rfl, foot := by cases c <;> rfl }

/-- A new row of zeros that will not change. -/
theorem rvc_makeSliceF (C : Cx E T n) {d : Option Nat} {t : TypeId} {x y : Operand} {ty : TypeId} {pos : String} {af : Array Edge} {rest : List Oper} {st : St} {K : St → Prop} {k k' : IntKind} {len cap : Int} {r re : TyRow} {e : TypeId} (ps : List PV) (h1 : dstB n ⟨d, .makeSlice t x y, ty, pos, af, none⟩ = true)
    (h2 : evls st.S [x, y] = some [.pv (.lit (.int k len)), .pv (.lit (.int k' cap))]) (hr : T.lookup t = some r) (hdesc : r.desc = .slice e) (hre : T.lookup e = some re) (hb : 0 ≤ len ∧ len ≤ cap ∧ cap ≤ 140737488355328 ∧ re.bytes * cap ≤ 140737488355328) (hps : zeroAV re.zero.cells (cap.toNat * re.size) = ps.map .pv)
    (h7 : rvc E cq n ops rest (st.after d { v := .pv (.sl (some false) len.toNat ps) }) K) : rvc E cq n ops (⟨d, .makeSlice t x y, ty, pos, af, none⟩ :: rest) st K := by
  simp only [rvc]
  have hd : ∀ x, d = some x → x < E.n := fun x e => by
    simp only [dstB, e, decide_eq_true_eq] at h1
    exact C.n ▸ h1
  have hm := makes_makeSlice C.tab (E := E) (o := ⟨d, .makeSlice t x y, ty, pos, af, none⟩) (x := x) (y := y) rfl hr hdesc hre (k := k) (k' := k') hb.1 hb.2.1 hb.2.2.1 hb.2.2.2
  rw [hps] at hm
  exact ⟨h1, _, _, _, Move.of_frozen (hm.frozen hd) h2 _, h7⟩
end steps

/-- Two texts with a state between them. -/
theorem Awp.seq_mid {E : Env} {x y : Code} {st : St} {Q : Exit → St → Prop} (S : List (Nat × AV)) (H : List (Nat × Blk)) (U : List Nat) (h1 : Awp E x st fun e st' => match e with | .normal => Weaker st' S H U E.I | e => Q e st') (h2 : Awp E y (mkSt S H U) Q) : Awp E (.seq x y) st Q :=
  Awp.seq (h1.mono fun e st' hq => by
    cases e <;> first | exact hq | exact Awp.weaken hq h2)

/-! ### Slices of numbers, told by lists -/
def pI (k : IntKind) (D : List Int) : List PV := D.map fun x => .lit (.int k x)
def sI (f : Option Bool) (k : IntKind) (D : List Int) : AV := .pv (.sl f D.length (pI k D))
theorem pI_len (k : IntKind) (D : List Int) : (pI k D).length = D.length := by simp [pI]
theorem pI_pv (k : IntKind) (D : List Int) : (pI k D).map AV.pv = cI k D := by simp [pI, cI]
theorem pI_get {k : IntKind} {D : List Int} {i : Nat} (h : i < D.length) : (pI k D)[i]? = some (.lit (.int k (D.getD i 0))) := by simp [pI, h]
theorem sI_cut {f : Option Bool} {k : IntKind} {D : List Int} (l h : Nat) (hl : l ≤ h) (hh : h ≤ D.length) {a b s : Nat} (ha : a = h - l) (hb : b = l * s) (hs : s = 1) : AV.pv (.sl f a (((pI k D).drop b).take (a * s))) = sI f k ((D.drop l).take (h - l)) := by
  subst hs ha hb
  simp only [sI, pI, List.length_take, List.length_drop, List.map_take, List.map_drop, Nat.mul_one]
  rw [Nat.min_eq_left (by omega)]
/-- The first cells of a slice, as an array. -/
theorem cI_take {k : IntKind} {D : List Int} {m : Nat} (h : m ≤ D.length) : cI k (D.take m) = cI k (tb m fun t => D.getD t 0) := by
  congr 1
  apply List.ext_getElem?
  intro j
  by_cases hj : j < m
  · rw [List.getElem?_take, if_pos hj, tb_get hj]; simp [show j < D.length by omega]
  · rw [List.getElem?_take, if_neg hj, List.getElem?_eq_none (by rw [tb_len]; omega)]
theorem cI_copy {k : IntKind} {m : Nat} {f : Nat → Int} {R : List Int} {j : Nat} (h1 : j ≤ R.length) (h2 : j ≤ m) : setRange (cI k (tb m f)) 0 ((cI k R).take j) = cI k (tb m fun t => if t < j then R.getD t 0 else f t) := by
  have hl : ((cI k R).take j).length = j := by rw [List.length_take, cI_len]; omega
  simp only [setRange, List.take_zero, List.nil_append, hl, Nat.zero_add]
  rw [show (cI k R).take j = cI k (R.take j) by simp [cI, List.map_take], show (cI k (tb m f)).drop j = cI k ((tb m f).drop j) by simp [cI, List.map_drop], show cI k (R.take j) ++ cI k ((tb m f).drop j) = cI k (R.take j ++ (tb m f).drop j) by simp [cI]]
  congr 1
  apply List.ext_getElem?
  intro i
  have hl' : (R.take j).length = j := by rw [List.length_take]; omega
  by_cases hi : i < j
  · rw [List.getElem?_append_left (by omega), List.getElem?_take, if_pos hi, tb_get (by omega), if_pos hi]
    simp [show i < R.length by omega]
  · rw [List.getElem?_append_right (by omega), hl', List.getElem?_drop, show j + (i - j) = i by omega]
    by_cases hm : i < m
    · rw [tb_get hm, tb_get hm, if_neg hi]
    · rw [List.getElem?_eq_none (by rw [tb_len]; omega), List.getElem?_eq_none (by rw [tb_len]; omega)]
theorem flat_take (k : IntKind) (D : List Int) (j : Nat) : ((cI k D).take j).all flatCell = true := by
  rw [List.all_eq_true]
  intro x hx
  have := List.mem_of_mem_take hx
  simp only [cI, List.mem_map] at this
  obtain ⟨y, _, rfl⟩ := this
  rfl
theorem flat_cI (k : IntKind) (D : List Int) : (cI k D).all flatCell = true := by
  simp [cI, flatCell]
/-! ### Arrays of numbers compared -/
def eqI (m : Nat) (f g : Nat → Int) : Bool := (List.range m).all fun i => f i == g i
theorem eqI_iff {m : Nat} {f g : Nat → Int} : eqI m f g = true ↔ tb m f = tb m g := by
  simp only [eqI, List.all_eq_true, List.mem_range, beq_iff_eq]
  refine ⟨fun h => tb_congr h, fun h i hi => ?_⟩
  have := congrArg (fun l => l[i]?) h
  simpa [tb_get hi] using this
theorem eqIs_ints {T : Tab} {d : Nat} {re : TyRow} {k k' : IntKind} (hre : re.desc = .int k') (hsz : re.size = 1) {m : Nat} {f g : Nat → Int} : ∀ (l : List Nat), (∀ i ∈ l, i < m) → eqIs (eqAV T (d + 1)) re (cI k (tb m f)) (cI k (tb m g)) l = some (l.all fun i => f i == g i)
  | [], _ => rfl
  | i :: l, h => by
    have hi := h i (List.mem_cons_self ..)
    have p : ∀ f, partV re (cI k (tb m f)) (i * re.size) = some (.pv (.lit (.int k (f i)))) := fun f => by
      unfold partV
      rw [hre, hsz]
      have := cI_at (k := k) (f := f) i rfl hi
      simpa [isAggD] using this
    have e : eqAV T (d + 1) re (.pv (.lit (.int k (f i)))) (.pv (.lit (.int k (g i)))) = some (f i == g i) := by
      unfold eqAV
      rw [hre]
      simp [eqFlat, kindFits, eqCell]
    simp only [eqIs, p, e, eqIs_ints hre hsz l fun j hj => h j (List.mem_cons_of_mem _ hj), andO, List.all_cons]

theorem prim_eqI {T : Tab} {d : Option Nat} {t t' : TypeId} {x y : Operand} {ty : TypeId} {pos : String} {af : Array Edge} {g : Option (Nat × Bool)} {H : Nat → Option Blk} {r re : TyRow} {m e : Nat} {k k' : IntKind} (hr : T.lookup t = some r) (hdesc : r.desc = .array m e) (hre : T.lookup e = some re) (hred : re.desc = .int k') (hsz : re.size = 1) (hq : r.eq = true) {f h : Nat → Int} :
    prim T ⟨d, .binOp .eql t x y t', ty, pos, af, g⟩ [.agg (cI k (tb m f)), .agg (cI k (tb m h))] H = some (True, [], { v := .pv (.lit (.bool (eqI m f h))) }) := by
  have : eqAV T 10000 r (.agg (cI k (tb m f))) (.agg (cI k (tb m h))) = some (eqI m f h) := by
    unfold eqAV
    rw [hdesc]
    simp only [hre]
    exact eqIs_ints hred hsz (List.range m) fun i hi => List.mem_range.1 hi
  simp only [prim, primBin, hr, binAV, eqAgg, hq, if_true, this]
theorem prim_neI {T : Tab} {d : Option Nat} {t t' : TypeId} {x y : Operand} {ty : TypeId} {pos : String} {af : Array Edge} {g : Option (Nat × Bool)} {H : Nat → Option Blk} {r re : TyRow} {m e : Nat} {k k' : IntKind} (hr : T.lookup t = some r) (hdesc : r.desc = .array m e) (hre : T.lookup e = some re) (hred : re.desc = .int k') (hsz : re.size = 1) (hq : r.eq = true) {f h : Nat → Int} :
    prim T ⟨d, .binOp .neq t x y t', ty, pos, af, g⟩ [.agg (cI k (tb m f)), .agg (cI k (tb m h))] H = some (True, [], { v := .pv (.lit (.bool !(eqI m f h))) }) := by
  have : eqAV T 10000 r (.agg (cI k (tb m f))) (.agg (cI k (tb m h))) = some (eqI m f h) := by
    unfold eqAV
    rw [hdesc]
    simp only [hre]
    exact eqIs_ints hred hsz (List.range m) fun i hi => List.mem_range.1 hi
  simp only [prim, primBin, hr, binAV, eqAgg, hq, if_true, this]
end Go.Am
