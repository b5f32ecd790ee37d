/- An abstract machine over the kit's calls, part 24: rows of any type told by lists; rules for operations behind guards; loops over lists; calls that make a row. No conditions. -/
import Derived.Test.YtjhphpoihadmkaaAm23
namespace Go.Am

/-! ### Rows -/
/-- How a value of a type lies in cells. -/
structure Enc (α : Type) where
  sz : Nat
  enc : α → List PV
  len : ∀ x, (enc x).length = sz

/-- A slice: is it nil (if known), and its elements. -/
structure Sl (α : Type) where
  nil : Bool
  D : List α
  deriving Inhabited

def encL {α : Type} (e : Enc α) (D : List α) : List PV := D.flatMap e.enc
def encC {α : Type} (e : Enc α) (D : List α) : List AV := (encL e D).map .pv
def sS {α : Type} (f : Option Bool) (e : Enc α) (D : List α) : AV := .pv (.sl f D.length (encL e D))
def eI (k : IntKind) : Enc Int := ⟨1, fun x => [.lit (.int k x)], fun _ => rfl⟩
def eB : Enc Bool := ⟨1, fun x => [.lit (.bool x)], fun _ => rfl⟩
def eStr : Enc ByteArray := ⟨1, fun x => [.lit (.string x)], fun _ => rfl⟩

def eSl {α : Type} (e : Enc α) : Enc (Sl α) := ⟨1, fun x => [.sl (some x.nil) x.D.length (encL e x.D)], fun _ => rfl⟩
instance : Inhabited ByteArray := ⟨.empty⟩

section rows
variable {α : Type} {e : Enc α}
theorem getX {D : List α} {i : Nat} (h : i < D.length) : ∃ x, D[i]? = some x := ⟨D[i], by simp [h]⟩
theorem getE [Inhabited α] {D : List α} {i : Nat} (h : i < D.length) : D[i]? = some D[i]! := by simp [h]
theorem getlt {D : List α} {i : Nat} {x : α} (h : D[i]? = some x) {z : Int} {m : Nat} (hz : z = i) (hm : m = D.length := by rfl) : z < (m : Int) := by
  subst hz hm
  have : i < D.length := by
    rcases Nat.lt_or_ge i D.length with h' | h'
    · exact h'
    · rw [List.getElem?_eq_none h'] at h; cases h
  omega
theorem drop_end {D : List α} {i : Nat} (h : ¬ i < D.length) : D.drop i = [] := List.drop_of_length_le (by omega)
theorem encL_len : ∀ (D : List α), (encL e D).length = D.length * e.sz
  | [] => by simp [encL]
  | x :: D => by
    have := encL_len D
    simp only [encL, List.flatMap_cons, List.length_append, e.len, List.length_cons] at this ⊢
    rw [this, Nat.add_mul]; omega
theorem encC_len (D : List α) : (encC e D).length = D.length * e.sz := by simp [encC, encL_len]
theorem encL_append (D D' : List α) : encL e (D ++ D') = encL e D ++ encL e D' := by simp [encL]
theorem encC_append (D D' : List α) : encC e (D ++ D') = encC e D ++ encC e D' := by simp [encC, encL_append]
theorem encL_drop : ∀ (D : List α) (i : Nat), (encL e D).drop (i * e.sz) = encL e (D.drop i)
  | D, 0 => by simp
  | [], i + 1 => by simp [encL]
  | x :: D, i + 1 => by
    have h : encL e (x :: D) = e.enc x ++ encL e D := by simp [encL]
    have hl := e.len x
    rw [h, show (i + 1) * e.sz = (e.enc x).length + i * e.sz by rw [hl, Nat.add_mul]; omega, List.drop_length_add_append, encL_drop D i, List.drop_succ_cons]
theorem encL_take : ∀ (D : List α) (i : Nat), (encL e D).take (i * e.sz) = encL e (D.take i)
  | D, 0 => by simp [encL]
  | [], i + 1 => by simp [encL]
  | x :: D, i + 1 => by
    have h : encL e (x :: D) = e.enc x ++ encL e D := by simp [encL]
    have hl := e.len x
    rw [h, show (i + 1) * e.sz = (e.enc x).length + i * e.sz by rw [hl, Nat.add_mul]; omega, List.take_length_add_append, encL_take D i, List.take_succ_cons]
    simp [encL]
theorem drop_at {D : List α} {i : Nat} {x : α} (h : D[i]? = some x) : D.drop i = x :: D.drop (i + 1) := by
  have hi : i < D.length := by
    rcases Nat.lt_or_ge i D.length with h' | h'
    · exact h'
    · rw [List.getElem?_eq_none h'] at h; cases h
  rw [List.drop_eq_getElem_cons hi]
  rw [List.getElem?_eq_getElem hi] at h
  simp only [Option.some.injEq] at h
  rw [h]
theorem encL_at {D : List α} {i : Nat} {x : α} (h : D[i]? = some x) : ((encL e D).drop (i * e.sz)).take e.sz = e.enc x := by
  rw [encL_drop, drop_at h]
  have : encL e (x :: D.drop (i + 1)) = e.enc x ++ encL e (D.drop (i + 1)) := by simp [encL]
  rw [this, List.take_append_of_le_length (by rw [e.len]; omega), List.take_of_length_le (by rw [e.len]; omega)]
theorem encL_one (x : α) : encL e [x] = e.enc x := by simp [encL]
theorem encC_flat (D : List α) (k : Nat) : ((encC e D).take k).all flatCell = true := by
  rw [List.all_eq_true]
  intro x hx
  obtain ⟨p, _, rfl⟩ := List.mem_map.1 (List.mem_of_mem_take hx)
  rfl
theorem pv_flat (ps : List PV) : (ps.map AV.pv).all flatCell = true := by
  rw [List.all_eq_true]
  intro x hx
  obtain ⟨p, _, rfl⟩ := List.mem_map.1 hx
  rfl
theorem encC_within (D : List α) (U : Nat → Bool) : AV.withinL U (encC e D) = true := within_pvs U _
theorem encC_set {D : List α} {i : Nat} {x : α} (hi : i < D.length) : setRange (encC e D) (i * e.sz) ((e.enc x).map .pv) = encC e (D.set i x) := by
  have h1 : (encC e D).take (i * e.sz) = encC e (D.take i) := by simp only [encC, ← List.map_take, encL_take]
  have h2 : (encC e D).drop (i * e.sz + e.sz) = encC e (D.drop (i + 1)) := by
    simp only [encC, ← List.map_drop]
    rw [show i * e.sz + e.sz = (i + 1) * e.sz by rw [Nat.add_mul]; omega, encL_drop]
  have hl : ((e.enc x).map AV.pv).length = e.sz := by simp [e.len]
  have h3 : (e.enc x).map AV.pv = encC e [x] := by simp [encC, encL]
  simp only [setRange, hl, h1, h2]
  rw [h3, ← encC_append, ← encC_append, List.set_eq_take_append_cons_drop, if_pos hi]
  simp
theorem eI_L (k : IntKind) (D : List Int) : encL (eI k) D = pI k D := by
  simp only [encL, eI, pI]
  induction D with
  | nil => rfl
  | cons x D ih => simp [ih]
theorem sS_I (f : Option Bool) (k : IntKind) (D : List Int) : sS f (eI k) D = sI f k D := by simp only [sS, sI, eI_L]
end rows

/-- A slice that begins as nil and only grows: its row is block b. -/
def grow {α : Type} (b : Nat) (e : Enc α) : List α → AV
  | [] => .pv (.sl (some true) 0 [])
  | _ :: D => .sl b 0 (D.length + 1) e.sz false
def growH {α : Type} (b : Nat) (e : Enc α) : List α → List (Nat × Blk)
  | [] => []
  | x :: D => [(b, .cells (encC e (x :: D)))]

/-! ### What a model says -/
theorem of_true {α : Type} {c : Bool} {x y R : α} (h : c = true) (e : (bif c then x else y) = R) : x = R := by rw [h] at e; exact e
theorem of_false {α : Type} {c : Bool} {x y R : α} (h : c = false) (e : (bif c then x else y) = R) : y = R := by rw [h] at e; exact e

section steps
variable {E : Env} {T : Tab} {cq : Oper → Cls} {n : Nat} {ops : Array Oper}

/-- An operation without a guard. -/
theorem rvc_un {d : Option Nat} {op : Op} {ty : TypeId} {pos : String} {af : Array Edge} {rest : List Oper} {st : St} {K : St → Prop} (h : rexec E cq n ⟨d, op, ty, pos, af, none⟩ st fun st' => rvc E cq n ops rest st' K) : rvc E cq n ops (⟨d, op, ty, pos, af, none⟩ :: rest) st K := by
  simp only [rvc]; exact h

theorem St.set_same {st : St} {t : Nat} {v : AV} (h : st.S t = some v) : st.set t v = st := by
  have : putO st.S (some t) v = st.S := by
    funext u
    show (if u = t then some v else st.S u) = _
    by_cases e : u = t
    · subst e; rw [if_pos rfl, h]
    · rw [if_neg e]
  show (⟨putO st.S (some t) v, st.H, st.U⟩ : St) = st
  rw [this]

/-- Two cases of a truth value. -/
theorem rvc_case {l : List Oper} {st : St} {K : St → Prop} (t : Nat) (b : Bool) (ht : st.S t = some (.pv (.lit (.bool b)))) (h1 : b = true → rvc E cq n ops l (st.set t (.pv (.lit (.bool true)))) K) (h2 : b = false → rvc E cq n ops l (st.set t (.pv (.lit (.bool false)))) K) : rvc E cq n ops l st K := by
  cases hb : b
  · have := h2 hb; rw [hb] at ht; rwa [St.set_same ht] at this
  · have := h1 hb; rw [hb] at ht; rwa [St.set_same ht] at this
/-- A truth value that is known. -/
theorem rvc_known {l : List Oper} {st : St} {K : St → Prop} (t : Nat) (b b' : Bool) (ht : st.S t = some (.pv (.lit (.bool b)))) (hb : b = b') (h : rvc E cq n ops l (st.set t (.pv (.lit (.bool b')))) K) : rvc E cq n ops l st K := by
  rw [hb] at ht; rwa [St.set_same ht] at h
/-- A slot's value in other words. -/
theorem rvc_slot {l : List Oper} {st : St} {K : St → Prop} (t : Nat) (v : AV) (ht : st.S t = some v) (h : rvc E cq n ops l (st.set t v) K) : rvc E cq n ops l st K := by
  rwa [St.set_same ht] at h

/-- An element of a slice that does not change. -/
theorem rexec_idxS (C : Cx E T n) {d : Option Nat} {t : TypeId} {x y : Operand} {ty : TypeId} {pos : String} {af : Array Edge} {g : Option (Nat × Bool)} {st : St} {K : St → Prop} {α : Type} {e : Enc α} {D : List α} {f : Option Bool} {k : IntKind} {z : Int} {r re : TyRow} {te : TypeId} (h1 : dstB n ⟨d, .indexAddr t x y, ty, pos, af, g⟩ = true)
    (h2 : evls st.S [x, y] = some [sS f e D, .pv (.lit (.int k z))]) (hr : T.lookup t = some r) (hd : r.desc = .slice te) (hre : T.lookup te = some re) (hs : re.size = e.sz) (a : α) (hz : 0 ≤ z) (ha : D[z.toNat]? = some a)
    (h7 : K (st.after d { v := .rp (e.enc a) })) (h8 : footB (clsOf cq ⟨d, .indexAddr t x y, ty, pos, af, g⟩) [] { v := .rp (e.enc a) } = true := by rfl) : rexec E cq n ⟨d, .indexAddr t x y, ty, pos, af, g⟩ st K := by
  have hlt : z.toNat < D.length := by
    rcases Nat.lt_or_ge z.toNat D.length with h' | h'
    · exact h'
    · rw [List.getElem?_eq_none h'] at ha; cases ha
  refine rexec_prim C (p := 0 ≤ z ∧ z < (D.length : Int)) (hs := []) (δ := { v := .rp (e.enc a) }) h1 rfl h2 ?_ ⟨hz, by omega⟩ rfl h7 h8
  have := encL_at (e := e) ha
  simp only [prim, hr, elemAV, hd, hre, sS, hs, this]

/-- A call that makes one row. -/
structure OCalls (P : Program) (f : FuncId) (avs : List AV) (av : AV) (k : Blk) : Prop where
  fn : ∃ fn, P.funcs[f]? = some fn ∧ (fn.name == "runtime.NumGoroutine") = false ∧ fn.body.isNone = false
  args : AV.withinL (fun _ => false) avs = true
  res : av.within (fun b => b == 0) = true
  blk : k.within (fun _ => false) = true
  calls : ACalls P f [] avs [] av [(0, k)]

/-- A call through a function value, or of a function, where no block of one's own is handed to and fro. -/
theorem PCalls.moveV {P : Program} (hP : E.P = P) {f : FuncId} {avs args caps : List AV} {av : AV} (C : PCalls P f avs av) (ha : avs = args ++ caps) {d : Option Nat} {c : Call} {x : Operand} {ty : TypeId} {pos : String} {af : Array Edge} {g : Option (Nat × Bool)} {st : St} (h1 : ∀ x, d = some x → x < E.n) (hc : c.callee = .value x) (hx : evl st.S x = some (.fn f [] caps)) (hv : evls st.S c.args.toList = some args) (cl : Cls) :
    Move E cl ⟨d, .call c, ty, pos, af, g⟩ st (.fn f [] caps :: args) [] { v := av } := by
  subst hP
  obtain ⟨fn, q1, q2, q3⟩ := C.fn
  have ok : CallOk ⟨fun b => b, []⟩ [] avs [] [] av := by
    refine { args := C.args, ids := ?_, blks := ?_, nodup := by simp, inj := ?_, nodupL := by simp, nodupR := by simp, fresh := ?_, res := ?_, res' := ?_, kept := ?_, all := ?_, used := ?_ }
    all_goals first | (intro x hx; cases hx; done) | skip
    · intro b c hb; cases hb
    · exact AV.within_mono (fun b hb => by cases hb) av C.res
  have hd := does_call (E := E) (o := ⟨d, .call c, ty, pos, af, g⟩) (c := c) rfl hc h1 q1 q2 q3 C.calls ok (args := args) (caps := caps) (by rw [AV.renL_none avs C.args]; exact ha)
  have he : Names.delta ⟨fun b => b, []⟩ [] [] [] av = { v := av } := by
    simp only [Names.delta, List.map_nil, AV.ren_none av C.res]
  rw [he] at hd
  have hops : (Op.operands (.call c)).toList = x :: c.args.toList := by simp [Op.operands, Call.operands, hc]
  refine { vals := ?_, deps := ?_, fresh := ?_, does := hd, reach := rfl, inV := ?_, inN := ?_, inW := ?_, wr := ?_, pure := fun _ => ⟨rfl, rfl, rfl⟩, quiet := fun _ => rfl, foot := by cases cl <;> rfl }
  · show evls st.S (Op.operands (.call c)).toList = _
    rw [hops]; simp only [evls, hx, hv]
  · intro x hx; cases hx
  · intro x hx; cases hx
  · exact AV.within_mono (fun b hb => by cases hb) av C.res
  · intro x hx; cases hx
  · intro x hx; cases hx
  · intro x hx; cases hx

theorem rexec_callV {P : Program} (hP : E.P = P) (C : Cx E T n) {f : FuncId} {avs args caps : List AV} {av : AV} {d : Option Nat} {c : Call} {x : Operand} {ty : TypeId} {pos : String} {af : Array Edge} {g : Option (Nat × Bool)} {st : St} {K : St → Prop} (h1 : dstB n ⟨d, .call c, ty, pos, af, g⟩ = true) (hc : c.callee = .value x) (hx : evl st.S x = some (.fn f [] caps)) (hv : evls st.S c.args.toList = some args)
    (F : PCalls P f avs av) (ha : avs = args ++ caps) (h7 : K (st.after d { v := av })) : rexec E cq n ⟨d, .call c, ty, pos, af, g⟩ st K := by
  refine ⟨h1, _, _, _, F.moveV hP ha (fun x e => ?_) hc hx hv _, h7⟩
  simp only [dstB, e, decide_eq_true_eq] at h1
  exact C.n ▸ h1

mutual
theorem AV.within_at {d : Nat} : ∀ (x : AV), x.within (fun b => b == 0) = true → (x.ren fun _ => d).within (fun b => b == d) = true
  | .undef, _ | .pv _, _ | .tsl _ _, _ | .rp _, _ => rfl
  | .ptr b o, _ | .sl b _ _ _ _, _ | .slc b _ _ _ _, _ | .mp b, _ => by simp [AV.ren, AV.within]
  | .agg cs, h => by simp only [AV.within] at h; simp only [AV.ren, AV.within, AV.withinL_at cs h]
  | .tup cs, h => by simp only [AV.within] at h; simp only [AV.ren, AV.within, AV.withinL_at cs h]
  | .fn f xs ys, h => by simp only [AV.within, Bool.and_eq_true] at h; simp only [AV.ren, AV.within, AV.withinL_at xs h.1, AV.withinL_at ys h.2, Bool.and_self]
theorem AV.withinL_at {d : Nat} : ∀ (xs : List AV), AV.withinL (fun b => b == 0) xs = true → AV.withinL (fun b => b == d) (AV.renL (fun _ => d) xs) = true
  | [], _ => rfl
  | x :: xs, h => by simp only [AV.withinL, Bool.and_eq_true] at h; simp only [AV.renL, AV.withinL, AV.within_at x h.1, AV.withinL_at xs h.2, Bool.and_self]
end
mutual
theorem AV.ren_congr {U : Nat → Bool} {σ τ : Nat → Nat} (e : ∀ b, U b = true → σ b = τ b) : ∀ (x : AV), x.within U = true → x.ren σ = x.ren τ
  | .undef, _ | .pv _, _ | .tsl _ _, _ | .rp _, _ => rfl
  | .ptr b o, h | .sl b _ _ _ _, h | .slc b _ _ _ _, h | .mp b, h => by simp only [AV.within] at h; simp only [AV.ren, e b h]
  | .agg cs, h => by simp only [AV.within] at h; simp only [AV.ren, AV.renL_congr e cs h]
  | .tup cs, h => by simp only [AV.within] at h; simp only [AV.ren, AV.renL_congr e cs h]
  | .fn f xs ys, h => by simp only [AV.within, Bool.and_eq_true] at h; simp only [AV.ren, AV.renL_congr e xs h.1, AV.renL_congr e ys h.2]
theorem AV.renL_congr {U : Nat → Bool} {σ τ : Nat → Nat} (e : ∀ b, U b = true → σ b = τ b) : ∀ (xs : List AV), AV.withinL U xs = true → AV.renL σ xs = AV.renL τ xs
  | [], _ => rfl
  | x :: xs, h => by simp only [AV.withinL, Bool.and_eq_true] at h; simp only [AV.renL, AV.ren_congr e x h.1, AV.renL_congr e xs h.2]
end
theorem Blk.ren_none {σ : Nat → Nat} : ∀ {k : Blk}, k.within (fun _ => false) = true → k.ren σ = k
  | .cells cs, h => by simp only [Blk.within] at h; simp only [Blk.ren, AV.renL_none cs h]
  | .map es, h => by
    simp only [Blk.within] at h
    simp only [Blk.ren]
    congr 1
    induction es with
    | nil => rfl
    | cons y ys ih =>
      simp only [List.all_cons, Bool.and_eq_true] at h
      rw [List.map_cons, ih h.2, AV.ren_none _ h.1.1, AV.ren_none _ h.1.2]

theorem rexec_callO {P : Program} (hP : E.P = P) (C : Cx E T n) {f : FuncId} {avs : List AV} {av : AV} {k : Blk} {d : Nat} {c : Call} {ty : TypeId} {pos : String} {af : Array Edge} {g : Option (Nat × Bool)} {st : St} {K : St → Prop} (h1 : dstB n ⟨some d, .call c, ty, pos, af, g⟩ = true) (hU : st.U d = false) (hc : c.callee = .value (.func f)) (hv : evls st.S c.args.toList = some avs)
    (F : OCalls P f avs av k) (h7 : K (st.after (some d) { v := av.ren fun _ => d, new := [(d, k)] })) (hcl : clsOf cq ⟨some d, .call c, ty, pos, af, g⟩ ≠ .pure := by decide) (hft : footB (clsOf cq ⟨some d, .call c, ty, pos, af, g⟩) [] { v := av.ren fun _ => d, new := [(d, k)] } = true := by rfl) : rexec E cq n ⟨some d, .call c, ty, pos, af, g⟩ st K := by
  subst hP
  obtain ⟨fn, q1, q2, q3⟩ := F.fn
  have hd : ∀ x, some d = some x → x < E.n := fun x e => by
    simp only [dstB, decide_eq_true_eq] at h1
    simp only [Option.some.injEq] at e
    subst e
    exact C.n ▸ h1
  have kn : ∀ b, Names.knows ⟨fun b => b, [(d, 0)]⟩ [] b = (b == 0) := fun b => by
    simp [Names.knows, inI, BEq.comm]
  have kn' : Names.knows ⟨fun b => b, [(d, 0)]⟩ [] = fun b => b == 0 := funext kn
  have ok : CallOk ⟨fun b => b, [(d, 0)]⟩ [] avs [] [(0, k)] av := by
    refine { args := F.args, ids := ?_, blks := ?_, nodup := by simp, inj := ?_, nodupL := by simp, nodupR := by simp, fresh := ?_, res := ?_, res' := ?_, kept := ?_, all := ?_, used := ?_ }
    · intro x hx; cases hx
    · intro x hx; cases hx
    · intro b c hb; cases hb
    · intro x _; rfl
    · rw [kn']; exact F.res
    · intro x hx
      simp only [List.mem_singleton] at hx
      subst hx
      rw [kn']
      exact ⟨rfl, Blk.within_mono (fun b hb => by cases hb) k F.blk⟩
    · intro x _ hx; cases hx
    · intro x hx
      simp only [List.mem_singleton] at hx
      subst hx; rfl
    · intro b hb; cases hb
  have hdo := does_call (E := E) (o := ⟨some d, .call c, ty, pos, af, g⟩) (c := c) rfl hc hd q1 q2 q3 F.calls ok (args := avs) (caps := []) (by rw [AV.renL_none avs F.args]; simp)
  have hτ : Names.τ ⟨fun b => b, [(d, 0)]⟩ [] 0 = d := by simp [Names.τ, inI]
  have hav : av.ren (Names.τ ⟨fun b => b, [(d, 0)]⟩ []) = av.ren fun _ => d := by
    refine AV.ren_congr (U := fun b => b == 0) (fun b hb => ?_) av F.res
    have : b = 0 := by simpa using hb
    subst this; exact hτ
  have hk : k.ren (Names.τ ⟨fun b => b, [(d, 0)]⟩ []) = k := Blk.ren_none F.blk
  have he : Names.delta ⟨fun b => b, [(d, 0)]⟩ [] [] [(0, k)] av = { v := av.ren fun _ => d, new := [(d, k)] } := by
    simp only [Names.delta, List.map_nil, List.map_cons, hav]
    have : (heapOf [(0, k)] 0).getD (.cells []) = k := rfl
    rw [this, hk]
  rw [he] at hdo
  have hops : (Op.operands (.call c)).toList = .func f :: c.args.toList := by simp [Op.operands, Call.operands, hc]
  refine ⟨h1, .fn f [] [] :: avs, [], _, { vals := ?_, deps := ?_, fresh := ?_, does := hdo, reach := ?_, inV := ?_, inN := ?_, inW := ?_, wr := ?_, pure := fun h => absurd h hcl, quiet := fun _ => rfl, foot := hft }, h7⟩
  · show evls st.S (Op.operands (.call c)).toList = _
    rw [hops]; simp only [evls, evl, hv]
  · intro x hx; cases hx
  · intro x hx; simp only [List.mem_singleton] at hx; subst hx; exact hU
  · rfl
  · refine AV.within_mono (U := fun b => b == d) (fun b hb => ?_) _ (AV.within_at _ F.res)
    have : b = d := by simpa using hb
    subst this; simp
  · intro x hx
    simp only [List.mem_singleton] at hx
    subst hx
    exact Blk.within_mono (fun b hb => by cases hb) k F.blk
  · intro x hx; cases hx
  · intro x hx; cases hx

/-- A loop over a count or a list: at its head one of a family of states, by how many rounds were made. -/
theorem Awp.forR {c : Code} {st : St} {Q : Exit → St → Prop} {σ : Type} (N : Nat) (S : Nat → σ → List (Nat × AV)) (H : Nat → σ → List (Nat × Blk)) (U : List Nat) (J : Nat → σ → Prop) (x0 : σ) (h0 : J 0 x0) (hw : ∃ τ, WeakerR st τ (S 0 x0) (H 0 x0) U E.I)
    (round : ∀ i x, i ≤ N → J i x → Awp E c (mkSt (S i x) (H i x) U) fun e st' => match e with | .normal => i < N ∧ ∃ y, J (i + 1) y ∧ ∃ τ, WeakerR st' τ (S (i + 1) y) (H (i + 1) y) U E.I | e => Q e st') : Awp E (.loop c) st Q := by
  intro a w hat
  obtain ⟨τ0, hw⟩ := hw
  refine wp_loop_ghost (fun m a w => ∃ i x, i ≤ N ∧ J i x ∧ m = N - i ∧ At E (mkSt (S i x) (H i x) U) a w) N ⟨0, x0, Nat.zero_le _, h0, rfl, hat.weakenR hw⟩ fun m a w ⟨i, x, hi, hJ, hm, hat⟩ => ?_
  refine wp_mono (round i x hi hJ a w hat) ?_
  rintro e a' w' ⟨st', h1, h2⟩
  cases e <;> simp only [Exit.then]
  case normal =>
    obtain ⟨h3, y, h4, τ, h5⟩ := h1
    exact ⟨N - (i + 1), by omega, i + 1, y, by omega, h4, rfl, h2.weakenR h5⟩
  all_goals exact ⟨st', h1, h2⟩
/-- A loop by a measure. -/
theorem Awp.forM {c : Code} {st : St} {Q : Exit → St → Prop} {σ : Type} (S : σ → List (Nat × AV)) (H : σ → List (Nat × Blk)) (U : List Nat) (J : Nat → σ → Prop) (m0 : Nat) (x0 : σ) (h0 : J m0 x0) (hw : ∃ τ, WeakerR st τ (S x0) (H x0) U E.I)
    (round : ∀ m x, J m x → Awp E c (mkSt (S x) (H x) U) fun e st' => match e with | .normal => ∃ m' y, m' < m ∧ J m' y ∧ ∃ τ, WeakerR st' τ (S y) (H y) U E.I | e => Q e st') : Awp E (.loop c) st Q := by
  intro a w hat
  obtain ⟨τ0, hw⟩ := hw
  refine wp_loop_ghost (fun m a w => ∃ x, J m x ∧ At E (mkSt (S x) (H x) U) a w) m0 ⟨x0, h0, hat.weakenR hw⟩ fun m a w ⟨x, hJ, hat⟩ => ?_
  refine wp_mono (round m x hJ a w hat) ?_
  rintro e a' w' ⟨st', h1, h2⟩
  cases e <;> simp only [Exit.then]
  case normal =>
    obtain ⟨m', y, h3, h4, τ, h5⟩ := h1
    exact ⟨m', h3, y, h4, h2.weakenR h5⟩
  all_goals exact ⟨st', h1, h2⟩
end steps
end Go.Am
