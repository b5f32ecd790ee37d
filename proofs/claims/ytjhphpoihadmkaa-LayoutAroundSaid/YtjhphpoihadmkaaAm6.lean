/- An abstract machine over the kit's calls, part 6: operations on values alone, told and proved. No conditions. -/
import Derived.Test.YtjhphpoihadmkaaAm5
import Derived.Laws.BitsLemmas
namespace Go.Am

/-- The cells of a value. -/
def cellsOf : AV → Option (List AV)
  | .agg cs => some cs
  | .undef | .tup _ => none
  | x => some [x]

/-- `|`, `&`, `^`, `&^` of two numbers of a kind. -/
def bitI (op : BinOp) (k : IntKind) (x y : Int) : Int :=
  let a := BitVec.ofInt k.bits x
  let b := BitVec.ofInt k.bits y
  k.wrap (match op with
    | .and => (a &&& b).toNat
    | .or => (a ||| b).toNat
    | .xor => (a ^^^ b).toNat
    | _ => (a &&& ~~~b).toNat)
def shlI (k : IntKind) (x y : Int) : Int := k.wrap (x * 2 ^ (min y.toNat k.bits))
def shrI (k : IntKind) (x y : Int) : Int := x / 2 ^ (min y.toNat k.bits)

/-- Of two whole numbers of one kind: what must hold, and what comes out. -/
def intAV (op : BinOp) (k : IntKind) (x y : Int) : Option (Prop × AV) :=
  match op with
  | .add => some (True, .pv (.lit (.int k (k.wrap (x + y)))))
  | .sub => some (True, .pv (.lit (.int k (k.wrap (x - y)))))
  | .mul => some (True, .pv (.lit (.int k (k.wrap (x * y)))))
  | .quo => some (y ≠ 0, .pv (.lit (.int k (k.wrap (x.tdiv y)))))
  | .rem => some (y ≠ 0, .pv (.lit (.int k (x.tmod y))))
  | .and => some (True, .pv (.lit (.int k (bitI .and k x y))))
  | .or => some (True, .pv (.lit (.int k (bitI .or k x y))))
  | .xor => some (True, .pv (.lit (.int k (bitI .xor k x y))))
  | .andNot => some (True, .pv (.lit (.int k (bitI .andNot k x y))))
  | .eql => some (True, .pv (.lit (.bool (x == y))))
  | .neq => some (True, .pv (.lit (.bool (x != y))))
  | .lss => some (True, .pv (.lit (.bool (decide (x < y)))))
  | .leq => some (True, .pv (.lit (.bool (decide (x ≤ y)))))
  | .gtr => some (True, .pv (.lit (.bool (decide (x > y)))))
  | .geq => some (True, .pv (.lit (.bool (decide (x ≥ y)))))
  | _ => none

def strAV (op : BinOp) (x y : ByteArray) : Option (Prop × AV) :=
  match op with
  | .add => some (x.size + y.size ≤ 9223372036854775807, .pv (.lit (.string (x ++ y))))
  | .eql => some (True, .pv (.lit (.bool (x.toList == y.toList))))
  | .neq => some (True, .pv (.lit (.bool !(x.toList == y.toList))))
  | .lss => some (True, .pv (.lit (.bool (Op.bytesLess x.toList y.toList))))
  | .leq => some (True, .pv (.lit (.bool (Op.bytesLess x.toList y.toList || x.toList == y.toList))))
  | .gtr => some (True, .pv (.lit (.bool !(Op.bytesLess x.toList y.toList || x.toList == y.toList))))
  | .geq => some (True, .pv (.lit (.bool !(Op.bytesLess x.toList y.toList))))
  | _ => none

/-- Is a slice nil? -/
def nilAV : AV → Option Bool
  | .pv (.sl (some f) _ _) => some f
  | .pv (.sl none (_ + 1) _) => some false
  | .sl _ _ _ _ _ => some false
  | .pv (.lit (.map none)) => some true
  | .mp _ => some false
  | _ => none

def binAV (op : BinOp) (d : TypeDesc) (x y : AV) : Option (Prop × AV) :=
  match op, x, y with
  | .shl, .pv (.lit (.int k a)), .pv (.lit (.int _ b)) => some (0 ≤ b, .pv (.lit (.int k (shlI k a b))))
  | .shr, .pv (.lit (.int k a)), .pv (.lit (.int _ b)) => some (0 ≤ b, .pv (.lit (.int k (shrI k a b))))
  | op, .pv (.lit (.int k a)), .pv (.lit (.int k' b)) => if k = k' then intAV op k a b else none
  | op, .pv (.lit (.string a)), .pv (.lit (.string b)) => strAV op a b
  | .eql, .pv (.lit (.bool a)), .pv (.lit (.bool b)) => match d with | .bool => some (True, .pv (.lit (.bool (a == b)))) | _ => none
  | .neq, .pv (.lit (.bool a)), .pv (.lit (.bool b)) => match d with | .bool => some (True, .pv (.lit (.bool !(a == b)))) | _ => none
  | _, _, _ => none

def unAV (op : UnOp) (x : AV) : Option AV :=
  match op, x with
  | .neg, .pv (.lit (.int k n)) => some (.pv (.lit (.int k (k.wrap (0 - n)))))
  | .xor, .pv (.lit (.int k n)) => some (.pv (.lit (.int k (bitI .xor k (if k.signed then -1 else k.max) n))))
  | .not, .pv (.lit (.bool b)) => some (.pv (.lit (.bool !b)))
  | _, _ => none

def pickAV (c : Bool) (x y : AV) : AV :=
  match x, y with
  | .pv (.lit (.bool a)), .pv (.lit (.bool b)) => .pv (.lit (.bool (bif c then a else b)))
  | .pv (.lit (.int k a)), .pv (.lit (.int k' b)) => if k = k' then .pv (.lit (.int k (bif c then a else b))) else bif c then .pv (.lit (.int k a)) else .pv (.lit (.int k' b))
  | x, y => bif c then x else y

section sound
variable {E : Env} {T : Tab}

theorem toNat_cast_wrap (k : IntKind) (n : Nat) : k.wrap ((n : Nat) : Int) = k.wrap n := rfl

theorem run_intAV {P : Program} {op : BinOp} {k : IntKind} {x y : Int} {p : Prop} {v : AV} (h : intAV op k x y = some (p, v)) (hp : p) (hop : op ≠ .shl) (hop' : op ≠ .shr) (t : TypeId) (w : World) :
    ∃ u, (binOp op t (.int k x) (.int k y)).run P w = .ok u w ∧ v = .pv (.lit u) ∧ flatB u = true := by
  cases op <;> simp only [intAV, Option.some.injEq, Prod.mk.injEq, reduceCtorEq] at h
  all_goals first | exact absurd rfl hop | exact absurd rfl hop' | skip
  all_goals obtain ⟨h1, rfl⟩ := h; subst h1
  all_goals simp only [binOp, ne_eq, not_true_eq_false, ↓reduceIte, Op.intArith, Op.intDiv, Op.intBits, Op.intCmp, bitI]
  all_goals first | exact ⟨_, rfl, rfl, rfl⟩ | (rw [if_neg hp]; exact ⟨_, rfl, rfl, rfl⟩)

theorem run_strAV {P : Program} {op : BinOp} {x y : ByteArray} {p : Prop} {v : AV} (h : strAV op x y = some (p, v)) (hp : p) (t : TypeId) (w : World) :
    ∃ u, (binOp op t (.string x) (.string y)).run P w = .ok u w ∧ v = .pv (.lit u) ∧ flatB u = true := by
  cases op <;> simp only [strAV, Option.some.injEq, Prod.mk.injEq, reduceCtorEq] at h
  all_goals obtain ⟨h1, rfl⟩ := h; subst h1
  all_goals simp only [binOp, Op.stringOp]
  all_goals first
    | exact ⟨_, rfl, rfl, rfl⟩
    | (rw [if_neg (by have : IntKind.i64.max = 9223372036854775807 := by decide
                      rw [this]; omega)]; exact ⟨_, rfl, rfl, rfl⟩)

theorem eqGuard_run {P : Program} {op : BinOp} {t : TypeId} {x y : Operand} {a b : Value} (w : World) (h1 : ∀ c, a ≠ .agg c) (h2 : a ≠ .nilIface) : (eqGuard op t x y a b).run P w = .ok () w := by
  cases a <;> first | exact absurd rfl (h1 _) | exact absurd rfl h2 | (cases op <;> rfl)

theorem run_equal_bool (hT : TabOk E.P T) {t : TypeId} {r : TyRow} (hr : T.lookup t = some r) (hd : r.desc = .bool) (a b : Bool) (w : World) : (Op.equal t (.bool a) (.bool b)).run E.P w = .ok (a == b) w := by
  obtain ⟨d, hdp⟩ : ∃ d, Op.maxDepth = d + 1 := ⟨_, rfl⟩
  unfold Op.equal
  rw [hdp]
  simp only [Op.equalIn, run_bind', run_underlying hT hr, hd, run_pure']

theorem does_binOp (hT : TabOk E.P T) {o : Oper} {op : BinOp} {t yt : TypeId} {x y : Operand} (ho : o.op = .binOp op t x y yt) (hd : ∀ d, o.dst = some d → d < E.n) {r : TyRow} (hr : T.lookup t = some r)
    {u v : AV} {p : Prop} {z : AV} (h : binAV op r.desc u v = some (p, z)) (hp : p) : Does E o [u, v] [] { v := z } := by
  refine Does.value hd fun ι imm st a w hs hv _ => ?_
  rw [ho] at hv
  simp only [Op.operands, List.map_cons, List.map_nil] at hv
  obtain ⟨h1, h2⟩ := hv.two
  have key : ∃ q, (do eqGuard op t x y (a.eval x) (a.eval y); binOp op t (a.eval x) (a.eval y) : Sem Value).run E.P w = .ok q w ∧ z = .pv (.lit q) ∧ flatB q = true := by
    unfold binAV at h
    split at h
    · simp only [VH, PH] at h1 h2
      obtain ⟨e1, _⟩ := h1; obtain ⟨e2, _⟩ := h2
      simp only [Option.some.injEq, Prod.mk.injEq] at h
      obtain ⟨rfl, rfl⟩ := h
      rw [e1, e2]
      simp only [run_bind', eqGuard_run w (P := E.P) (a := Value.int _ _) (by simp) (by simp), binOp, Op.shift]
      rw [if_neg (by omega)]
      exact ⟨_, rfl, rfl, rfl⟩
    · simp only [VH, PH] at h1 h2
      obtain ⟨e1, _⟩ := h1; obtain ⟨e2, _⟩ := h2
      simp only [Option.some.injEq, Prod.mk.injEq] at h
      obtain ⟨rfl, rfl⟩ := h
      rw [e1, e2]
      simp only [run_bind', eqGuard_run w (P := E.P) (a := Value.int _ _) (by simp) (by simp), binOp, Op.shift]
      rw [if_neg (by omega)]
      refine ⟨_, rfl, ?_, rfl⟩
      simp only [shrI]
      rw [Int.fdiv_eq_ediv_of_nonneg]
      exact Int.pow_nonneg (by decide)
    · rename_i k a1 k' b1 n1 n2
      simp only [VH, PH] at h1 h2
      obtain ⟨e1, _⟩ := h1; obtain ⟨e2, _⟩ := h2
      split at h
      · rename_i hk
        subst hk
        rw [e1, e2]
        obtain ⟨q, hq, hz⟩ := run_intAV h hp n1 n2 t w (P := E.P)
        exact ⟨q, by simp only [run_bind', eqGuard_run w (P := E.P) (a := Value.int _ _) (by simp) (by simp), hq], hz⟩
      · cases h
    · simp only [VH, PH] at h1 h2
      obtain ⟨e1, _⟩ := h1; obtain ⟨e2, _⟩ := h2
      rw [e1, e2]
      obtain ⟨q, hq, hz⟩ := run_strAV h hp t w (P := E.P)
      exact ⟨q, by simp only [run_bind', eqGuard_run w (P := E.P) (a := Value.string _) (by simp) (by simp), hq], hz⟩
    · simp only [VH, PH] at h1 h2
      obtain ⟨e1, _⟩ := h1; obtain ⟨e2, _⟩ := h2
      split at h
      · rename_i hdsc
        simp only [Option.some.injEq, Prod.mk.injEq] at h
        obtain ⟨rfl, rfl⟩ := h
        rw [e1, e2]
        refine ⟨_, ?_, rfl, rfl⟩
        rw [run_bind', eqGuard_run w (P := E.P) (a := Value.bool _) (by simp) (by simp)]
        show (do let q ← Op.equal t (.bool _) (.bool _); pure (Value.bool _) : Sem Value).run E.P w = _
        rw [run_bind', run_equal_bool hT hr hdsc]
        rfl
      · cases h
    · simp only [VH, PH] at h1 h2
      obtain ⟨e1, _⟩ := h1; obtain ⟨e2, _⟩ := h2
      split at h
      · rename_i hdsc
        simp only [Option.some.injEq, Prod.mk.injEq] at h
        obtain ⟨rfl, rfl⟩ := h
        rw [e1, e2]
        refine ⟨_, ?_, rfl, rfl⟩
        rw [run_bind', eqGuard_run w (P := E.P) (a := Value.bool _) (by simp) (by simp)]
        show (do let q ← Op.equal t (.bool _) (.bool _); pure (Value.bool _) : Sem Value).run E.P w = _
        rw [run_bind', run_equal_bool hT hr hdsc]
        rfl
      · cases h
    · cases h
  obtain ⟨q, hq, rfl, hf⟩ := key
  refine ⟨q, ?_, by simp [VH, PH, hf]⟩
  simp only [execOp, ho, run_bind', hq, run_pure']

theorem does_unOp {o : Oper} {op : UnOp} {t : TypeId} {x : Operand} (ho : o.op = .unOp op t x) (hd : ∀ d, o.dst = some d → d < E.n) {u z : AV} (h : unAV op u = some z) : Does E o [u] [] { v := z } := by
  refine Does.value hd fun ι imm st a w hs hv _ => ?_
  rw [ho] at hv
  simp only [Op.operands, List.map_cons, List.map_nil] at hv
  have h1 := hv.one
  unfold unAV at h
  split at h
  · simp only [VH, PH] at h1
    obtain rfl := Option.some.inj h
    rename_i k n
    refine ⟨.int k (k.wrap (0 - n)), ?_, ?_⟩
    · simp only [execOp, ho, h1.1, Op.unary, Op.intArith, run_bind', run_pure']
    · simp [VH, PH, flatB]
  · simp only [VH, PH] at h1
    obtain rfl := Option.some.inj h
    rename_i k n
    refine ⟨.int k (bitI .xor k (if k.signed then -1 else k.max) n), ?_, ?_⟩
    · simp only [execOp, ho, h1.1, Op.unary, Op.intBits, run_bind', run_pure', bitI]
    · simp [VH, PH, flatB]
  · simp only [VH, PH] at h1
    obtain rfl := Option.some.inj h
    rename_i b
    refine ⟨.bool (!b), ?_, ?_⟩
    · simp only [execOp, ho, h1.1, Op.unary, run_bind', run_pure']
    · simp [VH, PH, flatB]
  · cases h

theorem does_move {o : Oper} {x : Operand} (ho : o.op = .move x ∨ o.op = .assign x) (hd : ∀ d, o.dst = some d → d < E.n) {u : AV} : Does E o [u] [] { v := u } := by
  refine Does.value hd fun ι imm st a w hs hv _ => ?_
  rcases ho with ho | ho <;>
  · rw [ho] at hv
    simp only [Op.operands, List.map_cons, List.map_nil] at hv
    exact ⟨_, by simp only [execOp, ho, run_pure'], hv.one⟩

theorem pickAV_holds {ι : Nat → Option (Nat × Nat)} {imm : Nat → Prop} {w : World} {c : Bool} {x y : AV} {u v : Value} (h1 : VH ι imm w x u) (h2 : VH ι imm w y v) : VH ι imm w (pickAV c x y) (if c then u else v) := by
  unfold pickAV
  split
  · simp only [VH, PH] at h1 h2 ⊢
    cases c <;> simp [h1.1, h2.1, flatB]
  · split
    · rename_i hk
      subst hk
      simp only [VH, PH] at h1 h2 ⊢
      cases c <;> simp [h1.1, h2.1, flatB]
    · cases c <;> simpa using (by first | exact h1 | exact h2)
  · cases c <;> simpa using (by first | exact h1 | exact h2)

theorem does_pick {o : Oper} {c x y : Operand} (ho : o.op = .pick c x y) (hd : ∀ d, o.dst = some d → d < E.n) {b : Bool} {u v : AV} : Does E o [.pv (.lit (.bool b)), u, v] [] { v := pickAV b u v } := by
  refine Does.value hd fun ι imm st a w hs hv _ => ?_
  rw [ho] at hv
  simp only [Op.operands, List.map_cons, List.map_nil] at hv
  obtain ⟨h1, h2, h3⟩ := hv.three
  simp only [VH, PH] at h1
  refine ⟨_, ?_, pickAV_holds (c := b) h2 h3⟩
  simp only [execOp, ho, h1.1, asBool, run_bind', run_pure']

theorem does_convInt (hT : TabOk E.P T) {o : Oper} {src dst : TypeId} {x : Operand} (ho : o.op = .convert src dst x) (hd : ∀ d, o.dst = some d → d < E.n) {rs rd : TyRow} (h1 : T.lookup src = some rs) (h2 : T.lookup dst = some rd) {k k' : IntKind} (hk : rd.desc = .int k') {n : Int} :
    Does E o [.pv (.lit (.int k n))] [] { v := .pv (.lit (.int k' (k'.wrap n))) } := by
  refine Does.value hd fun ι imm st a w hs hv _ => ?_
  rw [ho] at hv
  simp only [Op.operands, List.map_cons, List.map_nil] at hv
  have h := hv.one
  simp only [VH, PH] at h
  refine ⟨.int k' (k'.wrap n), ?_, by simp [VH, PH, flatB]⟩
  simp only [execOp, ho, h.1, convert, run_bind', run_underlying hT h1, run_underlying hT h2, hk, Conv.intToInt, run_pure']

theorem does_convStr (hT : TabOk E.P T) {o : Oper} {src dst : TypeId} {x : Operand} (ho : o.op = .convert src dst x) (hd : ∀ d, o.dst = some d → d < E.n) {rs rd : TyRow} (h1 : T.lookup src = some rs) (h2 : T.lookup dst = some rd) (hk : rd.desc = .string) {s : ByteArray} :
    Does E o [.pv (.lit (.string s))] [] { v := .pv (.lit (.string s)) } := by
  refine Does.value hd fun ι imm st a w hs hv _ => ?_
  rw [ho] at hv
  simp only [Op.operands, List.map_cons, List.map_nil] at hv
  have h := hv.one
  simp only [VH, PH] at h
  refine ⟨.string s, ?_, by simp [VH, PH, flatB]⟩
  simp only [execOp, ho, h.1, convert, run_bind', run_underlying hT h1, run_underlying hT h2, hk, run_pure']

/-- A nil check of what is none. -/
def liveAV : AV → Bool
  | .ptr _ _ | .rp _ | .fn _ _ _ => true
  | _ => false
theorem does_nilCheck {o : Oper} {x : Operand} (ho : o.op = .nilCheck x) (hd : ∀ d, o.dst = some d → d < E.n) {u : AV} (hl : liveAV u = true) : Does E o [u] [] { v := u } := by
  refine Does.value hd fun ι imm st a w hs hv _ => ?_
  rw [ho] at hv
  simp only [Op.operands, List.map_cons, List.map_nil] at hv
  have h := hv.one
  refine ⟨a.eval x, ?_, h⟩
  cases u <;> simp only [liveAV, Bool.false_eq_true] at hl
  · simp only [VH] at h; obtain ⟨r, z, _, e⟩ := h; simp only [execOp, ho, e, run_pure']
  · simp only [VH] at h; obtain ⟨r, e, _⟩ := h; simp only [execOp, ho, e, run_pure']
  · simp only [VH] at h; obtain ⟨vs, us, e, _⟩ := h; simp only [execOp, ho, e, run_pure']

theorem VHs.get {ι : Nat → Option (Nat × Nat)} {imm : Nat → Prop} {w : World} : ∀ {xs : List AV} {vs : List Value}, VHs ι imm w xs vs → ∀ {i : Nat} {x : AV}, xs[i]? = some x → ∃ v, vs[i]? = some v ∧ VH ι imm w x v
  | [], _, _, i, x, hx => by simp at hx
  | y :: ys, vs, h, i, x, hx => by
    obtain ⟨v, us, rfl, h1, h2⟩ := h
    cases i with
    | zero => simp only [List.getElem?_cons_zero, Option.some.injEq] at hx; subst hx; exact ⟨v, by simp, h1⟩
    | succ i => simp only [List.getElem?_cons_succ] at hx ⊢; exact VHs.get h2 hx
theorem VHs.length {ι : Nat → Option (Nat × Nat)} {imm : Nat → Prop} {w : World} : ∀ {xs : List AV} {vs : List Value}, VHs ι imm w xs vs → vs.length = xs.length
  | [], _, h => by simp only [VHs] at h; subst h; rfl
  | y :: ys, vs, h => by obtain ⟨v, us, rfl, h1, h2⟩ := h; simp [VHs.length h2]

theorem does_extract {o : Oper} {x : Operand} {i : Nat} (ho : o.op = .extract x i) (hd : ∀ d, o.dst = some d → d < E.n) {us : List AV} {z : AV} (h : us[i]? = some z) : Does E o [.tup us] [] { v := z } := by
  refine Does.value hd fun ι imm st a w hs hv _ => ?_
  rw [ho] at hv
  simp only [Op.operands, List.map_cons, List.map_nil] at hv
  have h1 := hv.one
  simp only [VH] at h1
  obtain ⟨vs, e, h2⟩ := h1
  obtain ⟨v, h3, h4⟩ := h2.get h
  refine ⟨v, ?_, h4⟩
  simp only [execOp, ho, e, Instr.extract, run_bind', List.getElem?_toArray, h3, run_pure']
end sound
end Go.Am
