/- An abstract machine over the kit's calls, part 16: cells at places told by a fact; loops with a counter. No conditions. -/
import Derived.Test.YtjhphpoihadmkaaAm15
namespace Go.Am
section steps
variable {E : Env} {T : Tab} {cq : Oper → Cls} {n : Nat} {ops : Array Oper}

theorem readAV_one {r : TyRow} (hr : isAggD r.desc = false) {cs : List AV} {k : Nat} {v : AV} (h : cs[k]? = some v) : readAV r (cs.drop k) = some v := by
  unfold readAV
  rw [hr]
  simpa using h

theorem rexec_load (C : Cx E T n) {d : Option Nat} {t : TypeId} {x : Operand} {ty : TypeId} {pos : String} {af : Array Edge} {g : Option (Nat × Bool)} {st : St} {K : St → Prop} {b k : Nat} {cs : List AV} {r : TyRow} {v : AV} (h1 : dstB n ⟨d, .load t x, ty, pos, af, g⟩ = true)
    (h2 : evl st.S x = some (.ptr b k)) (h3 : st.H b = some (.cells cs)) (hr : T.lookup t = some r) (hra : isAggD r.desc = false) (h4 : cs[k]? = some v) (h7 : K (st.after d { v := v })) (h8 : footB (clsOf cq ⟨d, .load t x, ty, pos, af, g⟩) [(b, .cells cs)] { v := v } = true := by rfl) : rexec E cq n ⟨d, .load t x, ty, pos, af, g⟩ st K := by
  refine rexec_prim C (p := True) (hs := [(b, .cells cs)]) (δ := { v := v }) h1 rfl (vs := [.ptr b k]) ?_ ?_ trivial rfl h7 h8
  · show evls st.S [x] = _
    simp only [evls, h2]
  · simp only [prim, primLoad, hr, h3, readAV_one hra h4]

theorem rvc_load (C : Cx E T n) {d : Option Nat} {t : TypeId} {x : Operand} {ty : TypeId} {pos : String} {af : Array Edge} {rest : List Oper} {st : St} {K : St → Prop} {b k : Nat} {cs : List AV} {r : TyRow} {v : AV} (h1 : dstB n ⟨d, .load t x, ty, pos, af, none⟩ = true)
    (h2 : evl st.S x = some (.ptr b k)) (h3 : st.H b = some (.cells cs)) (hr : T.lookup t = some r) (hra : isAggD r.desc = false) (h4 : cs[k]? = some v) (h7 : rvc E cq n ops rest (st.after d { v := v }) K) (h8 : footB (clsOf cq ⟨d, .load t x, ty, pos, af, none⟩) [(b, .cells cs)] { v := v } = true := by rfl) : rvc E cq n ops (⟨d, .load t x, ty, pos, af, none⟩ :: rest) st K := by
  simp only [rvc]
  exact rexec_load C h1 h2 h3 hr hra h4 h7 h8

/-- A load through a pointer into cells that do not change. -/
theorem rexec_loadp (C : Cx E T n) {d : Option Nat} {t : TypeId} {x : Operand} {ty : TypeId} {pos : String} {af : Array Edge} {g : Option (Nat × Bool)} {st : St} {K : St → Prop} {ps : List PV} {r : TyRow} {v : PV} (h1 : dstB n ⟨d, .load t x, ty, pos, af, g⟩ = true)
    (h2 : evl st.S x = some (.rp ps)) (hr : T.lookup t = some r) (hra : isAggD r.desc = false) (h4 : ps[0]? = some v) (h7 : K (st.after d { v := .pv v })) (h8 : footB (clsOf cq ⟨d, .load t x, ty, pos, af, g⟩) [] { v := .pv v } = true := by rfl) : rexec E cq n ⟨d, .load t x, ty, pos, af, g⟩ st K := by
  refine rexec_prim C (p := True) (hs := []) (δ := { v := .pv v }) h1 rfl (vs := [.rp ps]) ?_ ?_ trivial rfl h7 h8
  · show evls st.S [x] = _
    simp only [evls, h2]
  · cases ps with
    | nil => cases h4
    | cons p ps =>
      simp only [List.getElem?_cons_zero, Option.some.injEq] at h4
      subst h4
      simp only [prim, primLoad, hr, PV.isNe, if_true, readAV, hra, List.map_cons, List.head?_cons, Bool.false_eq_true, if_false]
theorem rvc_loadp (C : Cx E T n) {d : Option Nat} {t : TypeId} {x : Operand} {ty : TypeId} {pos : String} {af : Array Edge} {rest : List Oper} {st : St} {K : St → Prop} {ps : List PV} {r : TyRow} {v : PV} (h1 : dstB n ⟨d, .load t x, ty, pos, af, none⟩ = true)
    (h2 : evl st.S x = some (.rp ps)) (hr : T.lookup t = some r) (hra : isAggD r.desc = false) (h4 : ps[0]? = some v) (h7 : rvc E cq n ops rest (st.after d { v := .pv v }) K) (h8 : footB (clsOf cq ⟨d, .load t x, ty, pos, af, none⟩) [] { v := .pv v } = true := by rfl) : rvc E cq n ops (⟨d, .load t x, ty, pos, af, none⟩ :: rest) st K := by
  simp only [rvc]
  exact rexec_loadp C h1 h2 hr hra h4 h7 h8

theorem setRange_one {cs : List AV} {k : Nat} {v : AV} (hk : k < cs.length) : setRange cs k [v] = cs.set k v := by
  simp only [setRange, List.length_singleton]
  rw [List.set_eq_take_append_cons_drop, if_pos hk]
  simp

theorem rvc_store (C : Cx E T n) {t : TypeId} {x y : Operand} {ty : TypeId} {pos : String} {af : Array Edge} {rest : List Oper} {st : St} {K : St → Prop} {b k : Nat} {cs : List AV} {r : TyRow} {v : PV} (h2 : evl st.S x = some (.ptr b k)) (h3 : st.H b = some (.cells cs)) (hv : evl st.S y = some (.pv v)) (hr : T.lookup t = some r) (hrs : r.size = 1) (hk : k < cs.length)
    (h7 : rvc E cq n ops rest (st.after none { v := .undef, wr := [(b, some (.cells (cs.set k (.pv v))))] }) K) (h8 : footB (clsOf cq ⟨none, .store t x y, ty, pos, af, none⟩) [(b, .cells cs)] { v := .undef, wr := [(b, some (.cells (setRange cs k [.pv v])))] } = true := by rfl) : rvc E cq n ops (⟨none, .store t x y, ty, pos, af, none⟩ :: rest) st K := by
  rw [← setRange_one hk] at h7
  refine rvc_prim C (p := True) (hs := [(b, .cells cs)]) (δ := { v := .undef, wr := [(b, some (.cells (setRange cs k [.pv v])))] }) rfl rfl (vs := [.ptr b k, .pv v]) ?_ ?_ trivial rfl h7 h8
  · show evls st.S [x, y] = _
    simp only [evls, h2, hv]
  · simp only [prim, primStore, hr, h3, cellsOf, List.length_singleton, hrs]
    rw [if_pos ⟨trivial, by omega, by simp [flatCell]⟩]

def eqsS (f : Nat → Option AV) : List (Nat × AV) → Prop
  | [] => True
  | x :: xs => f x.1 = some x.2 ∧ eqsS f xs
def eqsH (f : Nat → Option Blk) : List (Nat × Blk) → Prop
  | [] => True
  | x :: xs => f x.1 = some x.2 ∧ eqsH f xs
theorem eqsS_mem {f : Nat → Option AV} : ∀ {l : List (Nat × AV)}, eqsS f l → ∀ x ∈ l, f x.1 = some x.2
  | [], _, x, hx => by cases hx
  | y :: ys, h, x, hx => by
    cases hx with
    | head => exact h.1
    | tail _ hm => exact eqsS_mem h.2 x hm
theorem eqsH_mem {f : Nat → Option Blk} : ∀ {l : List (Nat × Blk)}, eqsH f l → ∀ x ∈ l, f x.1 = some x.2
  | [], _, x, hx => by cases hx
  | y :: ys, h, x, hx => by
    cases hx with
    | head => exact h.1
    | tail _ hm => exact eqsH_mem h.2 x hm
theorem Weaker.of {st : St} {S : List (Nat × AV)} {H : List (Nat × Blk)} {U : List Nat} (hI : E.I = []) (h1 : eqsS st.S S) (h2 : eqsH st.H H) (h3 : (S.all fun x => x.2.within fun b => U.contains b) = true) (h4 : (H.all fun x => U.contains x.1 && x.2.within fun b => U.contains b) = true) : Weaker st S H U E.I :=
  ⟨eqsS_mem h1, eqsH_mem h2, h3, h4, by rw [hI]; rfl⟩

/-- A loop over a count, told by a family of states. -/
theorem Awp.forN {c : Code} {st : St} {Q : Exit → St → Prop} (N : Nat) (S : Nat → List (Nat × AV)) (H : Nat → List (Nat × Blk)) (U : List Nat) (hw : Weaker st (S 0) (H 0) U E.I)
    (round : ∀ i, i < N → Awp E c (mkSt (S i) (H i) U) fun e st' => match e with | .normal => Weaker st' (S (i + 1)) (H (i + 1)) U E.I | e => Q e st')
    (last : Awp E c (mkSt (S N) (H N) U) fun e st' => match e with | .normal => False | e => Q e st') : Awp E (.loop c) st Q := by
  refine Awp.loop' (α := Nat) S H (fun _ => U) (fun m i => i ≤ N ∧ m = N - i) N 0 ⟨Nat.zero_le _, rfl⟩ hw fun m i ⟨hi, hm⟩ => ?_
  rcases Nat.lt_or_ge i N with h | h
  · refine (round i h).mono fun e st' hq => ?_
    cases e <;> first | exact hq | exact ⟨N - (i + 1), i + 1, by omega, ⟨by omega, rfl⟩, hq⟩
  · have : i = N := by omega
    subst this
    refine last.mono fun e st' hq => ?_
    cases e <;> first | exact hq | exact hq.elim
end steps

/-! ### Arrays of numbers, told by functions -/
def tb (n : Nat) (f : Nat → Int) : List Int := (List.range n).map f
def cI (k : IntKind) (A : List Int) : List AV := A.map fun x => .pv (.lit (.int k x))
theorem tb_len (n : Nat) (f : Nat → Int) : (tb n f).length = n := by simp [tb]
theorem tb_get {n : Nat} {f : Nat → Int} {i : Nat} (h : i < n) : (tb n f)[i]? = some (f i) := by simp [tb, h]
theorem tb_congr {n : Nat} {f g : Nat → Int} (h : ∀ t, t < n → f t = g t) : tb n f = tb n g := by
  simp only [tb]
  exact List.map_congr_left fun t ht => h t (List.mem_range.1 ht)
theorem tb_set {n : Nat} {f : Nat → Int} {i : Nat} {v : Int} : (tb n f).set i v = tb n (fun t => if t = i then v else f t) := by
  apply List.ext_getElem?
  intro j
  rw [List.getElem?_set, tb_len]
  by_cases hj : j < n
  · rw [tb_get hj, tb_get hj]
    by_cases h : i = j
    · subst h; simp [hj]
    · simp [h, Ne.symm h]
  · have h1 : (tb n f)[j]? = none := List.getElem?_eq_none (by rw [tb_len]; omega)
    have h2 : (tb n fun t => if t = i then v else f t)[j]? = none := List.getElem?_eq_none (by rw [tb_len]; omega)
    rw [h1, h2]
    by_cases h : i = j
    · subst h; simp [hj]
    · simp [h]
theorem cI_len (k : IntKind) (A : List Int) : (cI k A).length = A.length := by simp [cI]
theorem cI_within (k : IntKind) (A : List Int) (U : Nat → Bool) : AV.withinL U (cI k A) = true := AV.withinL_of fun x hx => by
  obtain ⟨p, _, rfl⟩ := List.mem_map.1 hx; rfl
/-- A cell of such an array, at a place that is told otherwise. -/
theorem cI_at {k : IntKind} {n : Nat} {f : Nat → Int} {j : Nat} (i : Nat) (hj : j = i) (h : i < n) : (cI k (tb n f))[j]? = some (.pv (.lit (.int k (f i)))) := by
  subst hj; simp [cI, tb_get h]
theorem cI_set {k : IntKind} {n : Nat} {f : Nat → Int} {j : Nat} (i : Nat) (hj : j = i) {v : Int} : (cI k (tb n f)).set j (.pv (.lit (.int k v))) = cI k (tb n (fun t => if t = i then v else f t)) := by
  subst hj
  rw [← tb_set]
  simp [cI, List.map_set]
theorem tb_getD (A : List Int) : tb A.length (fun t => A.getD t 0) = A := by
  apply List.ext_getElem?
  intro j
  by_cases hj : j < A.length
  · rw [tb_get hj]; simp [hj]
  · rw [List.getElem?_eq_none (by rw [tb_len]; omega), List.getElem?_eq_none (by omega)]
end Go.Am
