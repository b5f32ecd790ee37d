/- An abstract machine over the kit's calls, part 27: slices that grow in loops. No conditions. -/
import Derived.Test.YtjhphpoihadmkaaAm26
namespace Go.Am
section grows
variable {α : Type} {e : Enc α} {l : List α} {b : Nat} {τ : Nat → Nat} {U : List Nat}

theorem grow_nil (h : l = []) : grow b e l = sS (some l.isEmpty) e l := by subst h; rfl
theorem grow_cons (h : l ≠ []) : grow b e l = .sl b 0 l.length e.sz false := by
  cases l with
  | nil => exact absurd rfl h
  | cons x l => rfl
theorem grow_ren : (grow b e l).ren τ = grow (τ b) e l := by cases l <;> rfl
theorem grow_within {U : Nat → Bool} (h : U b = true) : (grow b e l).within U = true := by
  cases l
  · rfl
  · exact h
theorem growH_cons (h : l ≠ []) : growH b e l = [(b, .cells (encC e l))] := by
  cases l with
  | nil => exact absurd rfl h
  | cons x l => rfl
theorem growH_nil (h : l = []) : growH b e l = [] := by subst h; rfl
theorem ne_isEmpty (h : l ≠ []) : l.isEmpty = false := by cases l <;> simp_all
theorem app_ne {x : α} : l ++ [x] ≠ [] := by simp
/-- What a grown slice is at the loop's head. -/
theorem grow_is (h : l ≠ []) {m s : Nat} (hm : m = l.length) (hs : s = e.sz) : some (AV.sl b 0 m s false) = some (grow b e l) := by
  rw [grow_cons h, hm, hs]

/-- Blocks as told, named anew, and within. -/
def okH (f : Nat → Option Blk) (τ : Nat → Nat) (U Ks : List Nat) (H : List (Nat × Blk)) : Prop :=
  ∀ x ∈ H, f (τ x.1) = some (x.2.ren τ) ∧ Ks.contains x.1 = true ∧ U.contains x.1 = true ∧ x.2.within (fun b => U.contains b) = true
def okS (f : Nat → Option AV) (τ : Nat → Nat) (U : List Nat) : List (Nat × AV) → Prop
  | [] => True
  | x :: xs => (f x.1 = some (x.2.ren τ) ∧ x.2.within (fun b => U.contains b) = true) ∧ okS f τ U xs
variable {f : Nat → Option Blk} {Ks : List Nat} {H : List (Nat × Blk)}
theorem okH_nil : okH f τ U Ks [] := fun x hx => by cases hx
theorem okH_cons {c : Nat} {k : Blk} (h1 : f (τ c) = some (k.ren τ)) (h2 : Ks.contains c = true) (h3 : U.contains c = true) (h4 : k.within (fun b => U.contains b) = true) (h : okH f τ U Ks H) : okH f τ U Ks ((c, k) :: H) := fun x hx => by
  cases hx with
  | head => exact ⟨h1, h2, h3, h4⟩
  | tail _ hm => exact h x hm
theorem encC_ren (D : List α) : AV.renL τ (encC e D) = encC e D := AV.renL_none _ (encC_within D _)
theorem okH_grow (h1 : l ≠ [] → f (τ b) = some (.cells (encC e l))) (h2 : Ks.contains b = true) (h3 : U.contains b = true) (h : okH f τ U Ks H) : okH f τ U Ks (growH b e l ++ H) := fun x hx => by
  rcases List.mem_append.1 hx with hx | hx
  · cases l with
    | nil => cases hx
    | cons y ys =>
      simp only [growH, List.mem_singleton] at hx
      subst hx
      refine ⟨?_, h2, h3, ?_⟩
      · rw [h1 (by simp)]; simp only [Blk.ren, encC_ren]
      · exact encC_within _ _
  · exact h x hx
theorem okH_list {c : Nat} (h1 : f (τ c) = some (.cells (encC e l))) (h2 : Ks.contains c = true) (h3 : U.contains c = true) (h : okH f τ U Ks H) : okH f τ U Ks ((c, .cells (encC e l)) :: H) :=
  okH_cons (by rw [h1]; simp only [Blk.ren, encC_ren]) h2 h3 (encC_within _ _) h
theorem okS_mem {f : Nat → Option AV} : ∀ {S : List (Nat × AV)}, okS f τ U S → ∀ x ∈ S, f x.1 = some (x.2.ren τ) ∧ x.2.within (fun b => U.contains b) = true
  | [], _, x, hx => by cases hx
  | y :: ys, h, x, hx => by
    cases hx with
    | head => exact h.1
    | tail _ hm => exact okS_mem h.2 x hm
end grows

theorem WeakerR.ofL {E : Env} {st : St} {τ : Nat → Nat} {S : List (Nat × AV)} {H : List (Nat × Blk)} {U Ks : List Nat} (hI : E.I = []) (h1 : okS st.S τ U S) (h2 : okH st.H τ U Ks H) (h5 : (Ks.all fun x => Ks.all fun y => !(τ x == τ y) || x == y) = true) : WeakerR st τ S H U E.I :=
  ⟨fun x hx => (okS_mem h1 x hx).1, fun x hx => (h2 x hx).1, List.all_eq_true.2 fun x hx => (okS_mem h1 x hx).2, List.all_eq_true.2 fun x hx => by rw [Bool.and_eq_true]; exact ⟨(h2 x hx).2.2.1, (h2 x hx).2.2.2⟩, fun x hx y hy e => by
    have := List.all_eq_true.1 (List.all_eq_true.1 h5 x.1 (by simpa using (h2 x hx).2.1)) y.1 (by simpa using (h2 y hy).2.1)
    simpa [e] using this, by rw [hI]; rfl⟩

/-- A state in other words. -/
theorem Awp.wordsR {E : Env} {c : Code} {st : St} {Q : Exit → St → Prop} (S : List (Nat × AV)) (H : List (Nat × Blk)) (U : List Nat) (hw : WeakerR st (fun b => b) S H U E.I) (h : Awp E c (mkSt S H U) Q) : Awp E c st Q := Awp.weakenR _ hw h

section steps
theorem SR.weakV {E : Env} {ι : Nat → Option (Nat × Nat)} {imm : Nat → Prop} {st : St} {d : Option Nat} {δ : Delta} {v' : AV} {a : Act} {w : World} (h : SR E ι imm (st.after d δ) a w) (hw : ∀ u, VH ι imm w δ.v u → VH ι imm w v' u) : SR E ι imm (st.after d { δ with v := v' }) a w :=
  { h with
    slot := fun t v hv => by
      cases d with
      | none => exact h.slot t v hv
      | some x =>
        have hv' : (if t = x then some v' else st.S t) = some v := hv
        by_cases e : t = x
        · rw [if_pos e] at hv'
          obtain rfl := Option.some.inj hv'
          exact hw _ (h.slot t δ.v (by show (if t = x then some δ.v else st.S t) = _; rw [if_pos e]))
        · rw [if_neg e] at hv'
          exact h.slot t v (by show (if t = x then some δ.v else st.S t) = _; rw [if_neg e]; exact hv') }
/-- The tightness of a slice is forgotten. -/
theorem loose {ι : Nat → Option (Nat × Nat)} {imm : Nat → Prop} {w : World} {b o n s : Nat} {t : Bool} {u : Value} (h : VH ι imm w (.sl b o n s t) u) : VH ι imm w (.sl b o n s false) u := by
  simp only [VH] at h ⊢
  obtain ⟨r, z, cap, h1, h2, h3, _, h5⟩ := h
  exact ⟨r, z, cap, h1, h2, h3, fun h => (by cases h), h5⟩
/-- .. anywhere between two texts. -/
theorem At.loose {E : Env} {st : St} {a : Act} {w : World} (h : At E st a w) {t b o n s : Nat} {tt : Bool} (ht : st.S t = some (.sl b o n s tt)) : At E (st.set t (.sl b o n s false)) a w := by
  obtain ⟨ι, imm, h⟩ := h
  refine ⟨ι, imm, { h with slot := fun x v hv => ?_ }⟩
  have hv' : (if x = t then some (AV.sl b o n s false) else st.S x) = some v := hv
  by_cases e : x = t
  · rw [if_pos e] at hv'
    obtain rfl := Option.some.inj hv'
    subst e
    exact Am.loose (h.slot x _ ht)
  · rw [if_neg e] at hv'
    exact h.slot x v hv'
theorem Awp.loose {E : Env} {c : Code} {st : St} {Q : Exit → St → Prop} (t b o n s : Nat) (tt : Bool) (ht : st.S t = some (.sl b o n s tt)) (h : Awp E c (st.set t (.sl b o n s false)) Q) : Awp E c st Q := fun a w hat => h a w (hat.loose ht)
end steps
section steps
variable {E : Env} {T : Tab} {cq : Oper → Cls} {n : Nat} {ops : Array Oper}
/-- An append to a slice that is nil as yet. -/
theorem rexec_appendG (C : Cx E T n) {d : Nat} {c : Call} {t t2 : TypeId} {ty : TypeId} {pos : String} {af : Array Edge} {g : Option (Nat × Bool)} {st : St} {K : St → Prop} (hc : c.callee = .builtin .append) (hty : c.argTypes = #[t, t2]) (h1 : dstB n ⟨some d, .call c, ty, pos, af, g⟩ = true) (hU : st.U d = false)
    {r re r2 : TyRow} (hr : T.lookup t = some r) {e : TypeId} (hdesc : r.desc = .slice e) (hre : T.lookup e = some re) (hr2 : T.lookup t2 = some r2) (hd2 : ∀ k, r2.desc ≠ .int k) (hzs : re.zero.cells.size = re.size)
    {α : Type} {en : Enc α} {f : Option Bool} {fl : Bool} {D l : List α} (hs : re.size = en.sz) (hv : evls st.S c.args.toList = some [sS (some fl) en l, sS f en D]) (hl : l = []) (hfl : fl = true) (hm : 0 < D.length)
    (hbig : (2 * D.length + 192) * re.bytes ≤ 281474976710656) (hpos : 0 < re.bytes) {nn : Nat} (hnn : nn = (l ++ D).length)
    (h7 : K (st.after (some d) { v := .sl d 0 nn en.sz false, new := [(d, .cells (encC en (l ++ D)))] })) (hcl : clsOf cq ⟨some d, .call c, ty, pos, af, g⟩ = .writer := by rfl) :
    rexec E cq n ⟨some d, .call c, ty, pos, af, g⟩ st K := by
  subst hl hfl hnn
  refine rexec_appendN C hc hty h1 hU hr hdesc hre hr2 hd2 hzs hs hv hm hbig hpos (nn := D.length) rfl ?_ hcl
  rw [hs]; exact h7
end steps
end Go.Am
namespace Go.Am
section words
variable {α : Type} {e : Enc α} {l : List α} {b : Nat} {τ : Nat → Nat}
theorem grow_to {o : Option AV} {b' m s : Nat} (h : o = some (.sl b' 0 m s false)) (hb : τ b = b') (hl : l ≠ []) (hm : m = l.length) (hs : s = e.sz) : o = some ((grow b e l).ren τ) := by
  rw [h, grow_ren, grow_cons hl, hb, hm, hs]
theorem grow_to_nil {o : Option AV} {f : Option Bool} (h : o = some (sS f e l)) (hl : l = []) (hf : f = some true ∨ f = some l.isEmpty) : o = some ((grow b e l).ren τ) := by
  subst hl
  rw [h]
  rcases hf with rfl | rfl <;> rfl
theorem grow_at_nil {o : Option AV} (h : o = some (grow b e l)) (hl : l = []) : o = some ((sS (some l.isEmpty) e l).ren τ) := by
  subst hl; rw [h]; rfl
theorem grow_at_cons {o : Option AV} (h : o = some (grow b e l)) (hl : l ≠ []) {b' : Nat} (hb : τ b' = b) {m s : Nat} (hm : m = l.length) (hs : s = e.sz) : o = some ((AV.sl b' 0 m s false).ren τ) := by
  rw [h, grow_cons hl]; simp only [AV.ren, hb, hm, hs]
theorem look_nil (hl : l = []) {c : Nat} {H : List (Nat × Blk)} {o : Option Blk} (h : H.lookup c = o) : (growH b e l ++ H).lookup c = o := by
  rw [growH_nil hl]; exact h
theorem look_cons (hl : l ≠ []) {c : Nat} {H : List (Nat × Blk)} {o : Option Blk} (h : ((b, .cells (encC e l)) :: H).lookup c = o) : (growH b e l ++ H).lookup c = o := by
  rw [growH_cons hl]; exact h
def eqL (τ : Nat → Nat) : List AV → List AV → Prop
  | [], [] => True
  | x :: xs, y :: ys => some x = some (y.ren τ) ∧ eqL τ xs ys
  | _, _ => False
theorem eqL_ren : ∀ {xs ys : List AV}, eqL τ xs ys → xs = AV.renL τ ys
  | [], [], _ => rfl
  | x :: xs, y :: ys, h => by
    simp only [AV.renL]
    rw [← eqL_ren h.2, ← Option.some.inj h.1]
  | [], _ :: _, h => h.elim
  | _ :: _, [], h => h.elim
theorem cellsTo {o : Option Blk} {cs ks : List AV} (h : o = some (.cells cs)) (hc : eqL τ cs ks) : o = some ((Blk.cells ks).ren τ) := by
  rw [h, eqL_ren hc]; rfl
def winL (U : Nat → Bool) : List AV → Prop
  | [] => True
  | x :: xs => x.within U = true ∧ winL U xs
theorem win_cells {U : Nat → Bool} : ∀ {ks : List AV}, winL U ks → (Blk.cells ks).within U = true
  | [], _ => rfl
  | x :: xs, h => by
    have := win_cells h.2
    simp only [Blk.within] at this
    simp only [Blk.within, AV.withinL, h.1, this, Bool.and_self]
end words
theorem eq_of_bne_false {α : Type} [BEq α] [LawfulBEq α] {a b : α} (h : (a != b) = false) : a = b := by simpa using h
theorem not_true_of {b : Bool} (h : (!b) = true) : b = false := by simpa using h
theorem not_false_of {b : Bool} (h : (!b) = false) : b = true := by simpa using h
theorem wrapI (n : Int) : -9223372036854775808 ≤ n ∧ n ≤ 9223372036854775807 → IntKind.i64.wrap n = n := fun h => by rw [IntKind.wrap_i64]; omega
end Go.Am
namespace Go.Am
section steps
variable {E : Env} {T : Tab} {cq : Oper → Cls} {n : Nat} {ops : Array Oper}
/-- A new variable that will not change. -/
theorem rexec_boxF (C : Cx E T n) {d : Option Nat} {t : TypeId} {x : Operand} {ty : TypeId} {pos : String} {af : Array Edge} {g : Option (Nat × Bool)} {st : St} {K : St → Prop} {u : AV} {cs : List AV} (ps : List PV) (h1 : dstB n ⟨d, .box t x, ty, pos, af, g⟩ = true)
    (h2 : evls st.S [x] = some [u]) (hc : cellsOf u = some cs) (hps : cs = ps.map .pv) (h7 : K (st.after d { v := .rp ps })) : rexec E cq n ⟨d, .box t x, ty, pos, af, g⟩ st K := by
  have hd : ∀ x, d = some x → x < E.n := fun x e => by
    simp only [dstB, e, decide_eq_true_eq] at h1
    exact C.n ▸ h1
  have hm := makes_box (E := E) (o := ⟨d, .box t x, ty, pos, af, g⟩) (t := t) (x := x) rfl (u := u) (cs := cs) hc
  subst hps
  exact ⟨h1, _, _, _, { vals := h2, deps := fun _ h => (by cases h), fresh := fun _ h => (by cases h), does := hm.frozenPtr hd, reach := rfl, inV := rfl, inN := fun _ h => (by cases h), inW := fun _ h => (by cases h), wr := fun _ h => (by cases h), pure := fun _ => ⟨rfl, rfl, rfl⟩, quiet := fun _ => rfl, foot := by cases clsOf cq ⟨d, .box t x, ty, pos, af, g⟩ <;> rfl }, h7⟩
end steps
end Go.Am
namespace Go.Am
theorem fn_to {o : Option AV} {g : Nat} {caps : List AV} {τ : Nat → Nat} (h : o = some (.fn g [] caps)) (hw : AV.withinL (fun _ => false) caps = true) : o = some ((AV.fn g [] caps).ren τ) := by
  rw [h]; simp only [AV.ren, AV.renL, AV.renL_none caps hw]
theorem fn_win {g : Nat} {caps : List AV} {U : Nat → Bool} (hw : AV.withinL (fun _ => false) caps = true) : (AV.fn g [] caps).within U = true := by
  simp only [AV.within, AV.withinL, Bool.true_and]
  exact AV.withinL_mono (fun b hb => by cases hb) caps hw
end Go.Am
namespace Go.Am
theorem OCalls.of_body {P : Program} {T : Tab} (hT : TabOk P T) {f : FuncId} {fn : Func} {body : Code} (hf : P.funcs[f]? = some fn) (hb : fn.body = some body) (hn : (fn.name == "runtime.NumGoroutine") = false) {avs : List AV} {av : AV} {k : Blk} (hl : decide (avs.length ≤ fn.ntmps) = true) (ha : AV.withinL (fun _ => false) avs = true) (hr : av.within (fun b => b == 0) = true) (hk : k.within (fun _ => false) = true) (hm : P.follows .mixedOrders = true)
    (h : ∀ E : Env, E.P = P → Cx E T fn.ntmps → E.I = [] → Awp E body (entry avs [] []) fun e st => (e = .ret ∨ e = .normal) ∧ resAV T st fn.results.toList = some av ∧ st.H 0 = some k) : OCalls P f avs av k where
  fn := ⟨fn, hf, hn, by simp [hb]⟩
  args := ha
  res := hr
  blk := hk
  calls := ACalls.of_body hT hf hb (by simpa using hl) fun E hP hE hI => (h E hP ⟨hP ▸ hT, hE, hP ▸ hm⟩ hI).mono fun e st ⟨h1, h2, h3⟩ => ⟨h1, h2, fun x hx => by
    simp only [List.mem_singleton] at hx
    subst hx; exact h3⟩
end Go.Am
namespace Go.Am
section steps
variable {E : Env} {T : Tab} {cq : Oper → Cls} {n : Nat} {ops : Array Oper}
theorem rexec_convS (C : Cx E T n) {d : Option Nat} {src dst : TypeId} {x : Operand} {ty : TypeId} {pos : String} {af : Array Edge} {g : Option (Nat × Bool)} {st : St} {K : St → Prop} {f : Option Bool} {D : List Int} {rs rd re : TyRow} {e : TypeId} (h1 : dstB n ⟨d, .convert src dst x, ty, pos, af, g⟩ = true)
    (h2 : evls st.S [x] = some [sS f (eI .u8) D]) (hs : T.lookup src = some rs) (hd : T.lookup dst = some rd) (hsd : rs.desc = .slice e) (he : T.lookup e = some re) (hre : re.desc = .int .u8) (hk : rd.desc = .string) (h7 : K (st.after d { v := .pv (.lit (.string (strOf D))) })) : rexec E cq n ⟨d, .convert src dst x, ty, pos, af, g⟩ st K := by
  rw [sS_I] at h2
  have hd' : ∀ x, d = some x → x < E.n := fun x e => by
    simp only [dstB, e, decide_eq_true_eq] at h1
    exact C.n ▸ h1
  exact ⟨h1, _, _, _, Move.of_frozen (does_bytesToString C.tab (o := ⟨d, .convert src dst x, ty, pos, af, g⟩) rfl hd' hs hd hsd he hre hk) h2 _, h7⟩
end steps
end Go.Am
