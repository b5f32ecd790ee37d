/- An abstract machine over the kit's calls, part 2: abstract states, and what they say of a frame and a world; moves, and the theorem of regions: a region whose moves are told one behind the other is that in whatever order it draws. No conditions. -/
import Derived.Test.YtjhphpoihadmkaaAm1
namespace Go.Am
open Go.RowKit (Below)

/-- A block of one's own: cells, or a map's entries. -/
inductive Blk where
  | cells (cs : List AV)
  | map (es : List (AV × AV))

/-- Cells of a block are as told. -/
def CellsH (ι : Nat → Option (Nat × Nat)) (imm : Nat → Prop) (w : World) (c : Array Value) : List AV → Nat → Prop
  | [], _ => True
  | x :: xs, o => (∃ v, c[o]? = some v ∧ VH ι imm w x v) ∧ CellsH ι imm w c xs (o + 1)

def EntsH (ι : Nat → Option (Nat × Nat)) (imm : Nat → Prop) (w : World) : List (AV × AV) → List MapEntry → Prop
  | [], es => es = []
  | (k, x) :: xs, es => ∃ e us, es = e :: us ∧ VH ι imm w k e.key ∧ VH ι imm w x e.val ∧ EntsH ι imm w xs us

def BlkH (ι : Nat → Option (Nat × Nat)) (imm : Nat → Prop) (w : World) (r z : Nat) : Blk → Prop
  | .cells cs => ∃ (c : Array Value) (e : TypeId) (f : Nat × Nat), w.heap[r]? = some (Obj.cells c e f) ∧ z + cs.length ≤ c.size ∧ (∀ o, ¬ (f.1 ≤ o ∧ o < f.2)) ∧ CellsH ι imm w c cs z
  | .map es => ∃ (c : Array MapEntry) (q : Nat), z = 0 ∧ w.heap[r]? = some (Obj.map c q) ∧ EntsH ι imm w es c.toList

/-- The heap of one's own is as told; it lies in blocks that may be written (M). -/
structure HR (ι : Nat → Option (Nat × Nat)) (imm : Nat → Prop) (w : World) (M : Nat → Prop) (H : Nat → Option Blk) : Prop where
  blk : ∀ b k, H b = some k → ∃ r z, ι b = some (r, z) ∧ ¬ imm r ∧ M r ∧ BlkH ι imm w r z k
  inj : ∀ b b' k k' r z z', H b = some k → H b' = some k' → ι b = some (r, z) → ι b' = some (r, z') → b = b'

structure St where
  S : Nat → Option AV
  H : Nat → Option Blk
  U : Nat → Bool

/-- Where a function's run began. -/
structure Env where
  P : Program
  n : Nat
  w0 : World
  R : Nat → Prop
  ι0 : Nat → Option (Nat × Nat)
  imm0 : Nat → Prop
  I : List Nat
  dom : ∀ b x, ι0 b = some x → I.contains b = true

def Env.M (E : Env) (r : Nat) : Prop := E.R r ∨ E.w0.heap.size ≤ r

/-- The world has turned in blocks of one's own alone. -/
structure Ext (R : Nat → Prop) (w w' : World) : Prop where
  os : w'.os = w.os
  tape : w'.tape = w.tape
  output : w'.output = w.output
  size : w.heap.size ≤ w'.heap.size
  block : ∀ k, k < w.heap.size → ¬ R k → w'.heap[k]? = w.heap[k]?

theorem Ext.refl (R : Nat → Prop) (w : World) : Ext R w w := ⟨rfl, rfl, rfl, Nat.le_refl _, fun _ _ _ => rfl⟩

structure SR (E : Env) (ι : Nat → Option (Nat × Nat)) (imm : Nat → Prop) (st : St) (a : Act) (w : World) : Prop where
  defers : a.defers = []
  size : a.tmps.size = E.n
  slot : ∀ t v, st.S t = some v → VH ι imm w v (a.tmps.getD t undef)
  heap : HR ι imm w E.M st.H
  used : ∀ b x, ι b = some x → st.U b = true
  grow : Grows E.ι0 ι E.imm0 imm E.w0 w
  ext : Ext E.R E.w0 w
  immM : ∀ k, imm k → E.imm0 k ∨ E.M k
  immlt : ∀ k, imm k → k < w.heap.size

def putO (S : Nat → Option AV) (d : Option Nat) (v : AV) : Nat → Option AV :=
  match d with
  | none => S
  | some t => fun u => if u = t then some v else S u

/-- What a move does. -/
structure Delta where
  v : AV
  new : List (Nat × Blk) := []
  wr : List (Nat × Option Blk) := []

def Delta.H (δ : Delta) (H : Nat → Option Blk) : Nat → Option Blk := fun b =>
  match δ.new.lookup b with
  | some k => some k
  | none => match δ.wr.lookup b with
    | some k => k
    | none => H b

def Delta.U (δ : Delta) (U : Nat → Bool) : Nat → Bool := fun b => (δ.new.lookup b).isSome || U b

def St.after (st : St) (d : Option Nat) (δ : Delta) : St := ⟨putO st.S d δ.v, δ.H st.H, δ.U st.U⟩

/-- A constant's cell as an abstract value; a constant. -/
def constCell : Value → AV
  | .slice none 0 0 => .pv (.sl (some true) 0 [])
  | .bool b => .pv (.lit (.bool b))
  | .int k n => .pv (.lit (.int k n))
  | .string s => .pv (.lit (.string s))
  | .pointer none => .pv (.lit (.pointer none))
  | .map none => .pv (.lit (.map none))
  | .nilFunc => .pv (.lit .nilFunc)
  | .nilIface => .pv (.lit .nilIface)
  | _ => .undef
def constAV : Value → AV
  | .agg c => .agg (c.toList.map constCell)
  | v => constCell v

/-- An operand's abstract value. -/
def evl (S : Nat → Option AV) : Operand → Option AV
  | .tmp t => S t
  | .const v => some (constAV v)
  | .func f => some (.fn f [] [])
  | .global _ => none

/-- The operands' values, in order. -/
def evls (S : Nat → Option AV) : List Operand → Option (List AV)
  | [] => some []
  | x :: xs => match evl S x, evls S xs with
    | some v, some vs => some (v :: vs)
    | _, _ => none

mutual
/-- All blocks that a value names are in U. -/
def AV.within (U : Nat → Bool) : AV → Bool
  | .undef | .pv _ | .tsl _ _ | .rp _ => true
  | .agg cs | .tup cs => AV.withinL U cs
  | .ptr b _ | .sl b _ _ _ _ | .slc b _ _ _ _ | .mp b => U b
  | .fn _ xs ys => AV.withinL U xs && AV.withinL U ys
def AV.withinL (U : Nat → Bool) : List AV → Bool
  | [] => true
  | x :: xs => AV.within U x && AV.withinL U xs
end
def Blk.within (U : Nat → Bool) : Blk → Bool
  | .cells cs => AV.withinL U cs
  | .map es => es.all fun e => e.1.within U && e.2.within U

mutual
theorem AV.within_mono {U V : Nat → Bool} (h : ∀ b, U b = true → V b = true) : ∀ (x : AV), x.within U = true → x.within V = true
  | .undef, _ | .pv _, _ | .tsl _ _, _ | .rp _, _ => rfl
  | .agg cs, hx => by simp only [AV.within] at hx ⊢; exact AV.withinL_mono h cs hx
  | .tup cs, hx => by simp only [AV.within] at hx ⊢; exact AV.withinL_mono h cs hx
  | .ptr b _, hx => by simp only [AV.within] at hx ⊢; exact h b hx
  | .sl b _ _ _ _, hx | .slc b _ _ _ _, hx => by simp only [AV.within] at hx ⊢; exact h b hx
  | .mp b, hx => by simp only [AV.within] at hx ⊢; exact h b hx
  | .fn _ xs ys, hx => by
    simp only [AV.within, Bool.and_eq_true] at hx ⊢
    exact ⟨AV.withinL_mono h xs hx.1, AV.withinL_mono h ys hx.2⟩
theorem AV.withinL_mono {U V : Nat → Bool} (h : ∀ b, U b = true → V b = true) : ∀ (xs : List AV), AV.withinL U xs = true → AV.withinL V xs = true
  | [], _ => rfl
  | x :: xs, hx => by
    simp only [AV.withinL, Bool.and_eq_true] at hx ⊢
    exact ⟨AV.within_mono h x hx.1, AV.withinL_mono h xs hx.2⟩
end
theorem Blk.within_mono {U V : Nat → Bool} (h : ∀ b, U b = true → V b = true) : ∀ (x : Blk), x.within U = true → x.within V = true
  | .cells cs, hx => AV.withinL_mono h cs hx
  | .map es, hx => by
    simp only [Blk.within, List.all_eq_true, Bool.and_eq_true] at hx ⊢
    exact fun e he => ⟨AV.within_mono h _ (hx e he).1, AV.within_mono h _ (hx e he).2⟩
theorem AV.withinL_mem {U : Nat → Bool} : ∀ {xs : List AV}, AV.withinL U xs = true → ∀ x ∈ xs, x.within U = true
  | [], _, x, hx => by cases hx
  | y :: ys, h, x, hx => by
    simp only [AV.withinL, Bool.and_eq_true] at h
    cases hx with
    | head => exact h.1
    | tail _ hm => exact AV.withinL_mem h.2 x hm
theorem AV.withinL_of {U : Nat → Bool} : ∀ {xs : List AV}, (∀ x ∈ xs, x.within U = true) → AV.withinL U xs = true
  | [], _ => rfl
  | y :: ys, h => by
    simp only [AV.withinL, Bool.and_eq_true]
    exact ⟨h y (List.mem_cons_self ..), AV.withinL_of fun x hx => h x (List.mem_cons_of_mem _ hx)⟩

mutual
theorem VH.within {ι : Nat → Option (Nat × Nat)} {imm : Nat → Prop} {w : World} {U : Nat → Bool} (h : ∀ b x, ι b = some x → U b = true) : ∀ (x : AV) (v : Value), VH ι imm w x v → x.within U = true
  | .undef, _, _ | .pv _, _, _ | .tsl _ _, _, _ | .rp _, _, _ => rfl
  | .agg cs, v, hv => by simp only [VH] at hv; obtain ⟨vs, _, h2⟩ := hv; exact VHs.within h cs vs h2
  | .tup cs, v, hv => by simp only [VH] at hv; obtain ⟨vs, _, h2⟩ := hv; exact VHs.within h cs vs h2
  | .ptr b _, v, hv => by simp only [VH] at hv; obtain ⟨r, z, h1, _⟩ := hv; exact h b _ h1
  | .sl b _ _ _ _, v, hv => by simp only [VH] at hv; obtain ⟨r, z, _, h1, _⟩ := hv; exact h b _ h1
  | .slc b _ _ _ _, v, hv => by simp only [VH] at hv; obtain ⟨r, z, h1, _⟩ := hv; exact h b _ h1
  | .mp b, v, hv => by simp only [VH] at hv; obtain ⟨r, z, h1, _⟩ := hv; exact h b _ h1
  | .fn _ xs ys, v, hv => by
    simp only [VH] at hv
    obtain ⟨vs, us, _, h2, h3⟩ := hv
    simp only [AV.within, Bool.and_eq_true]
    exact ⟨VHs.within h xs vs h2, VHs.within h ys us h3⟩
theorem VHs.within {ι : Nat → Option (Nat × Nat)} {imm : Nat → Prop} {w : World} {U : Nat → Bool} (h : ∀ b x, ι b = some x → U b = true) : ∀ (xs : List AV) (vs : List Value), VHs ι imm w xs vs → AV.withinL U xs = true
  | [], _, _ => rfl
  | x :: xs, vs, hv => by
    simp only [VHs] at hv
    obtain ⟨v, us, _, h2, h3⟩ := hv
    simp only [AV.withinL, Bool.and_eq_true]
    exact ⟨VH.within h x v h2, VHs.within h xs us h3⟩
end
theorem CellsH.within {ι : Nat → Option (Nat × Nat)} {imm : Nat → Prop} {w : World} {U : Nat → Bool} (h : ∀ b x, ι b = some x → U b = true) {c : Array Value} : ∀ (xs : List AV) (o : Nat), CellsH ι imm w c xs o → AV.withinL U xs = true
  | [], _, _ => rfl
  | x :: xs, o, hv => by
    obtain ⟨⟨v, _, h2⟩, h3⟩ := hv
    simp only [AV.withinL, Bool.and_eq_true]
    exact ⟨VH.within h x v h2, CellsH.within h xs _ h3⟩
theorem EntsH.within {ι : Nat → Option (Nat × Nat)} {imm : Nat → Prop} {w : World} {U : Nat → Bool} (h : ∀ b x, ι b = some x → U b = true) : ∀ (xs : List (AV × AV)) (es : List MapEntry), EntsH ι imm w xs es → (xs.all fun e => e.1.within U && e.2.within U) = true
  | [], _, _ => rfl
  | (k, x) :: xs, es, hv => by
    obtain ⟨e, us, _, h2, h3, h4⟩ := hv
    simp only [List.all_cons, Bool.and_eq_true]
    exact ⟨⟨VH.within h k _ h2, VH.within h x _ h3⟩, EntsH.within h xs us h4⟩
theorem BlkH.within {ι : Nat → Option (Nat × Nat)} {imm : Nat → Prop} {w : World} {U : Nat → Bool} (h : ∀ b x, ι b = some x → U b = true) {r z : Nat} : ∀ (k : Blk), BlkH ι imm w r z k → k.within U = true
  | .cells cs, hk => by obtain ⟨c, e, f, _, _, _, h4⟩ := hk; exact CellsH.within h cs _ h4
  | .map es, hk => by obtain ⟨c, q, _, _, h4⟩ := hk; exact EntsH.within h es _ h4

/-- All that a state names is in use. -/
structure WF (st : St) : Prop where
  S : ∀ t v, st.S t = some v → v.within st.U = true
  H : ∀ b k, st.H b = some k → k.within st.U = true
  U : ∀ b k, st.H b = some k → st.U b = true

theorem SR.wf {E : Env} {ι : Nat → Option (Nat × Nat)} {imm : Nat → Prop} {st : St} {a : Act} {w : World} (h : SR E ι imm st a w) : WF st where
  S t v hv := VH.within h.used v _ (h.slot t v hv)
  H b k hk := by obtain ⟨r, z, _, _, _, h4⟩ := h.heap.blk b k hk; exact BlkH.within h.used k h4
  U b k hk := by obtain ⟨r, z, h1, _⟩ := h.heap.blk b k hk; exact h.used b _ h1

/-- The blocks that values and blocks name. -/
def refs (vs : List AV) (hs : List (Nat × Blk)) (b : Nat) : Bool :=
  !(AV.withinL (· != b) vs) || hs.any fun x => !(x.2.within (· != b))

theorem not_mentions {U : Nat → Bool} {b : Nat} (hb : U b = false) (c : Nat) (h : U c = true) : (c != b) = true := by
  simp only [bne_iff_ne, ne_eq]; intro e; rw [e, hb] at h; cases h

theorem refs_in {U : Nat → Bool} {vs : List AV} {hs : List (Nat × Blk)} (hv : AV.withinL U vs = true) (hh : ∀ x ∈ hs, x.2.within U = true) {b : Nat} (hr : refs vs hs b = true) : U b = true := by
  cases hb : U b with
  | true => rfl
  | false =>
    simp only [refs, Bool.or_eq_true, Bool.not_eq_true', List.any_eq_true] at hr
    rcases hr with h | ⟨x, hx, h⟩
    · rw [AV.withinL_mono (not_mentions hb) _ hv] at h; cases h
    · rw [Blk.within_mono (not_mentions hb) _ (hh x hx)] at h; cases h

/-- Each block that is looked at is named by the operands, or by a block ahead of it. -/
def reachB (vs : List AV) : List (Nat × Blk) → List (Nat × Blk) → Bool
  | _, [] => true
  | seen, x :: xs => refs vs seen x.1 && reachB vs (x :: seen) xs

inductive Cls where
  | pure | quiet | writer
  | reads (bs : List Nat)
  | writes (bs : List Nat)
  deriving DecidableEq

/-- A move keeps to the blocks that its class names. -/
def footB (c : Cls) (hs : List (Nat × Blk)) (δ : Delta) : Bool :=
  match c with
  | .reads bs => δ.wr.isEmpty && (δ.new.isEmpty && hs.all fun x => bs.contains x.1)
  | .writes bs => δ.new.isEmpty && (hs.all (fun x => bs.contains x.1) && δ.wr.all fun x => bs.contains x.1)
  | _ => true

/-- An operation does this, wherever its operands are those and the blocks that it looks at are as told. -/
def Does (E : Env) (o : Oper) (vs : List AV) (hs : List (Nat × Blk)) (δ : Delta) : Prop :=
  ∀ ι imm st a w Q, SR E ι imm st a w → evls st.S o.op.operands.toList = some vs → (∀ x ∈ hs, st.H x.1 = some x.2) → (∀ x ∈ δ.new, st.U x.1 = false) →
    o.wp E.P a w (fun a' w' => ∃ ι' imm', SR E ι' imm' (st.after o.dst δ) a' w') Q

/-- A guard's value. -/
def guardV (ops : Array Oper) (S : Nat → Option AV) (o : Oper) : Option Bool :=
  match o.guard with
  | none => some true
  | some (j, want) => match ((ops[j]?).bind (·.dst)).bind S with
    | some (.pv (.lit (.bool b))) => some (b == want)
    | some (.tup []) => some false
    | _ => none

structure Move (E : Env) (c : Cls) (o : Oper) (st : St) (vs : List AV) (hs : List (Nat × Blk)) (δ : Delta) : Prop where
  vals : evls st.S o.op.operands.toList = some vs
  deps : ∀ x ∈ hs, st.H x.1 = some x.2
  fresh : ∀ x ∈ δ.new, st.U x.1 = false
  does : Does E o vs hs δ
  reach : reachB vs [] hs = true
  inV : δ.v.within (fun b => (δ.new.lookup b).isSome || refs vs hs b) = true
  inN : ∀ x ∈ δ.new, x.2.within (fun b => (δ.new.lookup b).isSome || refs vs hs b) = true
  inW : ∀ x ∈ δ.wr, ∀ k, x.2 = some k → k.within (fun b => (δ.new.lookup b).isSome || refs vs hs b) = true
  wr : ∀ x ∈ δ.wr, ((δ.new.lookup x.1).isSome || refs vs hs x.1) = true
  pure : c = .pure → hs = [] ∧ δ.new = [] ∧ δ.wr = []
  quiet : c = .quiet → δ.wr = []
  foot : footB c hs δ = true

inductive Step (E : Env) (ops : Array Oper) (c : Cls) (o : Oper) (st : St) : St → Prop where
  | exec (hg : guardV ops st.S o = some true) (hd : ∀ d, o.dst = some d → d < E.n) (vs : List AV) (hs : List (Nat × Blk)) (δ : Delta) (m : Move E c o st vs hs δ) : Step E ops c o st (st.after o.dst δ)
  | skip (hg : guardV ops st.S o = some false) (hd : ∀ d, o.dst = some d → d < E.n) : Step E ops c o st (st.after o.dst { v := .tup [] })
end Go.Am
