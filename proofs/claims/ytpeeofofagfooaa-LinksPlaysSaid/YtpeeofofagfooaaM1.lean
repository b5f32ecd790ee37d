import Derived.Calls
import Derived.Orders
import Derived.Below
import Derived.Laws.BitsLemmas
import Derived.Laws.StructEq
import Derived.ChangeKeysEq
/- An abstract machine over the kit's calls, part 1: pure data (PV), abstract values (AV), and what they say of a world's memory. No conditions. -/
namespace Go.Am
open Go.RowKit (Below)
/-- A value of one cell that leads nowhere. -/
def flatB : Value → Bool
  | .bool _ | .int _ _ | .string _ | .pointer none | .map none | .nilFunc | .nilIface => true
  | _ => false
/-- Pure data: what a cell holds, whatever hangs on it included. `sl f n ps`: a slice of n elements, `ps` its cells, row by row; `f`: is it nil, if known. -/
inductive PV where
  | lit (v : Value)
  | sl (f : Option Bool) (n : Nat) (ps : List PV)
abbrev PV.bool (b : Bool) : PV := .lit (.bool b)
/-- Abstract values. `ptr b o`: to cell o of own block b; `sl b o n s t`: a slice over own block b, n elements of s cells, t: its capacity is its length; `tsl`: a slice of unchanging cells whose capacity is its length; `rp ps`: to unchanging cells that hold ps. -/
inductive AV where
  | undef
  | pv (p : PV)
  | agg (cs : List AV)
  | tup (vs : List AV)
  | ptr (b o : Nat)
  | sl (b o n s : Nat) (t : Bool)
  | slc (b o n s c : Nat)          -- .. whose capacity is known
  | tsl (n : Nat) (ps : List PV)
  | rp (ps : List PV)
  | mp (b : Nat)
  | fn (f : Nat) (first caps : List AV)
mutual
/-- A value holds pure data, in memory that is `imm`. -/
def PH (imm : Nat → Prop) (w : World) : PV → Value → Prop
  | .lit x, v => v = x ∧ flatB x = true
  | .sl f n ps, v => ∃ A cap, v = .slice A n cap ∧ n ≤ cap ∧ (f = some true → A = none) ∧ (f = some false → A ≠ none) ∧ (A = none → n = 0 ∧ cap = 0 ∧ ps = []) ∧
      ∀ a, A = some a → ps ≠ [] → a.spot = none ∧ imm a.block ∧ PHs imm w ps a.block a.off
/-- Cells hold pure data, from an address on. -/
def PHs (imm : Nat → Prop) (w : World) : List PV → Nat → Nat → Prop
  | [], _, _ => True
  | p :: ps, b, o => (∃ v, w.cell? ⟨b, o, none⟩ = some v ∧ PH imm w p v) ∧ PHs imm w ps b (o + 1)
end
/-- What is unchanging stays. -/
structure Stays (imm imm' : Nat → Prop) (w w' : World) : Prop where
  sub : ∀ k, imm k → imm' k
  same : ∀ k, imm k → w'.heap[k]? = w.heap[k]?
theorem Stays.refl (imm : Nat → Prop) (w : World) : Stays imm imm w w := ⟨fun _ h => h, fun _ _ => rfl⟩
theorem Stays.trans {i j k : Nat → Prop} {a b c : World} (h : Stays i j a b) (h' : Stays j k b c) : Stays i k a c :=
  ⟨fun x hx => h'.sub x (h.sub x hx), fun x hx => (h'.same x (h.sub x hx)).trans (h.same x hx)⟩
theorem Stays.cell {i j : Nat → Prop} {a b : World} (h : Stays i j a b) {k : Nat} (hk : i k) (o : Nat) : b.cell? ⟨k, o, none⟩ = a.cell? ⟨k, o, none⟩ := by
  simp only [World.cell?, h.same k hk]
mutual
theorem PH.stays {i j : Nat → Prop} {a b : World} (h : Stays i j a b) : ∀ (p : PV) (v : Value), PH i a p v → PH j b p v
  | .lit _, _, hp => hp
  | .sl f n ps, v, hp => by
    simp only [PH] at hp ⊢
    obtain ⟨A, cap, h1, h2, h3, h4, h5, h6⟩ := hp
    exact ⟨A, cap, h1, h2, h3, h4, h5, fun x hx hne => let ⟨s1, s2, s3⟩ := h6 x hx hne; ⟨s1, h.sub _ s2, PHs.stays h ps x.block x.off s2 s3⟩⟩
theorem PHs.stays {i j : Nat → Prop} {a b : World} (h : Stays i j a b) : ∀ (ps : List PV) (k o : Nat), i k → PHs i a ps k o → PHs j b ps k o
  | [], _, _, _, _ => trivial
  | p :: ps, k, o, hk, hp => by
    simp only [PHs] at hp ⊢
    obtain ⟨⟨v, h1, h2⟩, h3⟩ := hp
    exact ⟨⟨v, (h.cell hk o).trans h1, PH.stays h p v h2⟩, PHs.stays h ps k (o + 1) hk h3⟩
end
mutual
/-- A value is as told. ι: where own blocks lie (block, first cell). -/
def VH (ι : Nat → Option (Nat × Nat)) (imm : Nat → Prop) (w : World) : AV → Value → Prop
  | .undef, _ => True
  | .pv p, v => PH imm w p v
  | .agg cs, v => ∃ vs, v = .agg (List.toArray vs) ∧ VHs ι imm w cs vs
  | .tup cs, v => ∃ vs, v = .tuple (List.toArray vs) ∧ VHs ι imm w cs vs
  | .ptr b o, v => ∃ r z, ι b = some (r, z) ∧ v = .pointer (some ⟨r, z + o, none⟩)
  | .sl b o n s t, v => ∃ r z cap, ι b = some (r, z) ∧ v = .slice (some ⟨r, z + o, none⟩) n cap ∧ n ≤ cap ∧ (t = true → cap = n) ∧
      ∃ c e f, w.heap[r]? = some (.cells c e f) ∧ z + o + cap * s ≤ c.size
  | .slc b o n s k, v => ∃ r z, ι b = some (r, z) ∧ v = .slice (some ⟨r, z + o, none⟩) n k ∧ n ≤ k ∧ ∃ c e f, w.heap[r]? = some (.cells c e f) ∧ z + o + k * s ≤ c.size
  | .tsl n ps, v => ∃ A, v = .slice A n n ∧ (A = none → n = 0 ∧ ps = []) ∧ ∀ a, A = some a → ps ≠ [] → a.spot = none ∧ imm a.block ∧ PHs imm w ps a.block a.off
  | .rp ps, v => ∃ a, v = .pointer (some a) ∧ (ps ≠ [] → a.spot = none ∧ imm a.block ∧ PHs imm w ps a.block a.off)
  | .mp b, v => ∃ r z, ι b = some (r, z) ∧ v = .map (some r)
  | .fn f first caps, v => ∃ vs us, v = .func (.func f) (List.toArray vs) (List.toArray us) ∧ VHs ι imm w first vs ∧ VHs ι imm w caps us
def VHs (ι : Nat → Option (Nat × Nat)) (imm : Nat → Prop) (w : World) : List AV → List Value → Prop
  | [], vs => vs = []
  | c :: cs, vs => ∃ v us, vs = v :: us ∧ VH ι imm w c v ∧ VHs ι imm w cs us
end
/-- Where own blocks lie is only added to; blocks of cells keep their sizes. -/
structure Grows (ι ι' : Nat → Option (Nat × Nat)) (imm imm' : Nat → Prop) (w w' : World) : Prop where
  ext : ∀ b x, ι b = some x → ι' b = some x
  stays : Stays imm imm' w w'
  rows : ∀ (r : Nat) (c : Array Value) (e : TypeId) (f : Nat × Nat), w.heap[r]? = some (Obj.cells c e f) → ∃ (c2 : Array Value) (f2 : Nat × Nat), w'.heap[r]? = some (Obj.cells c2 e f2) ∧ c2.size = c.size
theorem Grows.refl (ι : Nat → Option (Nat × Nat)) (imm : Nat → Prop) (w : World) : Grows ι ι imm imm w w :=
  ⟨fun _ _ h => h, .refl _ _, fun _ c _ f h => ⟨c, f, h, rfl⟩⟩
theorem Grows.trans {ι₁ ι₂ ι₃ : Nat → Option (Nat × Nat)} {i j k : Nat → Prop} {a b c : World} (h : Grows ι₁ ι₂ i j a b) (h' : Grows ι₂ ι₃ j k b c) : Grows ι₁ ι₃ i k a c :=
  ⟨fun x y hx => h'.ext x y (h.ext x y hx), h.stays.trans h'.stays, fun r cs e f hr => by
    obtain ⟨c1, f1, h1, s1⟩ := h.rows r cs e f hr
    obtain ⟨c2, f2, h2, s2⟩ := h'.rows r c1 e f1 h1
    exact ⟨c2, f2, h2, s2.trans s1⟩⟩
mutual
theorem VH.grows {ι ι' : Nat → Option (Nat × Nat)} {i j : Nat → Prop} {a b : World} (h : Grows ι ι' i j a b) : ∀ (x : AV) (v : Value), VH ι i a x v → VH ι' j b x v
  | .undef, _, _ => trivial
  | .pv p, v, hp => PH.stays h.stays p v hp
  | .agg cs, v, hp => by
    simp only [VH] at hp ⊢
    obtain ⟨vs, h1, h2⟩ := hp
    exact ⟨vs, h1, VHs.grows h cs vs h2⟩
  | .tup cs, v, hp => by
    simp only [VH] at hp ⊢
    obtain ⟨vs, h1, h2⟩ := hp
    exact ⟨vs, h1, VHs.grows h cs vs h2⟩
  | .ptr b o, v, hp => by
    simp only [VH] at hp ⊢
    obtain ⟨r, z, h1, h2⟩ := hp
    exact ⟨r, z, h.ext _ _ h1, h2⟩
  | .sl b o n s t, v, hp => by
    simp only [VH] at hp ⊢
    obtain ⟨r, z, cap, h1, h2, h3, h4, c, e, f, h5, h6⟩ := hp
    obtain ⟨c', f', h7, h8⟩ := h.rows r c e f h5
    exact ⟨r, z, cap, h.ext _ _ h1, h2, h3, h4, c', e, f', h7, h8 ▸ h6⟩
  | .slc b o n s k, v, hp => by
    simp only [VH] at hp ⊢
    obtain ⟨r, z, h1, h2, h3, c, e, f, h5, h6⟩ := hp
    obtain ⟨c', f', h7, h8⟩ := h.rows r c e f h5
    exact ⟨r, z, h.ext _ _ h1, h2, h3, c', e, f', h7, h8 ▸ h6⟩
  | .tsl n ps, v, hp => by
    simp only [VH] at hp ⊢
    obtain ⟨A, h1, h2, h3⟩ := hp
    exact ⟨A, h1, h2, fun x hx hne => let ⟨s1, s2, s3⟩ := h3 x hx hne; ⟨s1, h.stays.sub _ s2, PHs.stays h.stays ps _ _ s2 s3⟩⟩
  | .rp ps, v, hp => by
    simp only [VH] at hp ⊢
    obtain ⟨x, h1, h2⟩ := hp
    exact ⟨x, h1, fun hne => let ⟨s1, s2, s3⟩ := h2 hne; ⟨s1, h.stays.sub _ s2, PHs.stays h.stays ps _ _ s2 s3⟩⟩
  | .mp b, v, hp => by
    simp only [VH] at hp ⊢
    obtain ⟨r, z, h1, h2⟩ := hp
    exact ⟨r, z, h.ext _ _ h1, h2⟩
  | .fn f first caps, v, hp => by
    simp only [VH] at hp ⊢
    obtain ⟨vs, us, h1, h2, h3⟩ := hp
    exact ⟨vs, us, h1, VHs.grows h first vs h2, VHs.grows h caps us h3⟩
theorem VHs.grows {ι ι' : Nat → Option (Nat × Nat)} {i j : Nat → Prop} {a b : World} (h : Grows ι ι' i j a b) : ∀ (xs : List AV) (vs : List Value), VHs ι i a xs vs → VHs ι' j b xs vs
  | [], _, hp => hp
  | c :: cs, vs, hp => by
    simp only [VHs] at hp ⊢
    obtain ⟨v, us, h1, h2, h3⟩ := hp
    exact ⟨v, us, h1, VH.grows h c v h2, VHs.grows h cs us h3⟩
end
open Go.RowKit (Below)
/-- A block of one's own: cells, or a map's entries. -/
inductive Blk where
  | cells (cs : List AV)
  | map (es : List (AV × AV))
  | mapx (es : List (AV × AV × Nat)) (q : Nat)          -- a map told whole: its entries in order, with their stamps, and its clock
  | iter (b since : Nat) (seen : List Nat) (c0 : Nat)   -- an iterator over the map b
  | siter (s : ByteArray) (pos : Nat)                   -- an iterator over a string
/-- Entries without their stamps. -/
def dropB (es : List (AV × AV × Nat)) : List (AV × AV) := es.map fun e => (e.1, e.2.1)
/-- Cells of a block are as told. -/
def CellsH (ι : Nat → Option (Nat × Nat)) (imm : Nat → Prop) (w : World) (c : Array Value) : List AV → Nat → Prop
  | [], _ => True
  | x :: xs, o => (∃ v, c[o]? = some v ∧ VH ι imm w x v) ∧ CellsH ι imm w c xs (o + 1)
def EntsH (ι : Nat → Option (Nat × Nat)) (imm : Nat → Prop) (w : World) : List (AV × AV) → List MapEntry → Prop
  | [], es => es = []
  | (k, x) :: xs, es => ∃ e us, es = e :: us ∧ VH ι imm w k e.key ∧ VH ι imm w x e.val ∧ EntsH ι imm w xs us
def rigidP : PV → Bool
  | .lit (.int _ _) | .lit (.bool _) | .lit (.string _) => true
  | _ => false
mutual
/-- A value of no memory, told whole. -/
def rigid : AV → Bool
  | .pv p => rigidP p
  | .agg cs => rigidL cs
  | _ => false
def rigidL : List AV → Bool
  | [] => true
  | x :: xs => rigid x && rigidL xs
end
/-- Keys are told whole, each stands once. -/
structure KeysOk (es : List (AV × AV)) : Prop where
  rg : ∀ e ∈ es, rigid e.1 = true
  nodup : (es.map (·.1)).Nodup
structure BornOk (l : List MapEntry) (q : Nat) : Prop where
  nodup : (l.map (·.born)).Nodup
  lt : ∀ e ∈ l, e.born < q
def BlkH (ι : Nat → Option (Nat × Nat)) (imm : Nat → Prop) (w : World) (r z : Nat) : Blk → Prop
  | .cells cs => ∃ (c : Array Value) (e : TypeId) (f : Nat × Nat), w.heap[r]? = some (Obj.cells c e f) ∧ z + cs.length ≤ c.size ∧ (∀ o, ¬ (f.1 ≤ o ∧ o < f.2)) ∧ CellsH ι imm w c cs z
  | .map es => ∃ (c : Array MapEntry) (q : Nat) (l : List MapEntry), z = 0 ∧ w.heap[r]? = some (Obj.map c q) ∧ l.Perm c.toList ∧ EntsH ι imm w es l ∧ KeysOk es ∧ BornOk l q
  | .mapx es q => ∃ (c : Array MapEntry), z = 0 ∧ w.heap[r]? = some (Obj.map c q) ∧ EntsH ι imm w (dropB es) c.toList ∧ c.toList.map (·.born) = es.map (·.2.2) ∧ KeysOk (dropB es) ∧ BornOk c.toList q
  | .iter b since seen c0 => ∃ m, z = 0 ∧ ι b = some (m, 0) ∧ w.heap[r]? = some (Obj.mapIter (some m) since (List.toArray seen) c0)
  | .siter s pos => z = 0 ∧ w.heap[r]? = some (Obj.stringIter s pos)
/-- The heap of one's own is as told; it lies in blocks that may be written (M). -/
structure HR (ι : Nat → Option (Nat × Nat)) (imm : Nat → Prop) (w : World) (M : Nat → Prop) (H : Nat → Option Blk) : Prop where
  blk : ∀ b k, H b = some k → ∃ r z, ι b = some (r, z) ∧ ¬ imm r ∧ M r ∧ BlkH ι imm w r z k
  inj : ∀ b b' k k' r z z', H b = some k → H b' = some k' → ι b = some (r, z) → ι b' = some (r, z') → b = b'
structure St where
  S : Nat → Option AV
  H : Nat → Option Blk
  U : Nat → Bool
/-- Where a function's run began. -/
structure Env where
  P : Program
  n : Nat
  w0 : World
  R : Nat → Prop
  ι0 : Nat → Option (Nat × Nat)
  imm0 : Nat → Prop
  I : List Nat
  dom : ∀ b x, ι0 b = some x → I.contains b = true
def Env.M (E : Env) (r : Nat) : Prop := E.R r ∨ E.w0.heap.size ≤ r
/-- The world has turned in blocks of one's own alone. -/
structure Ext (R : Nat → Prop) (w w' : World) : Prop where
  os : w'.os = w.os
  tape : w'.tape = w.tape
  output : w'.output = w.output
  size : w.heap.size ≤ w'.heap.size
  block : ∀ k, k < w.heap.size → ¬ R k → w'.heap[k]? = w.heap[k]?
  drawn : w.drawn ≤ w'.drawn
theorem Ext.refl (R : Nat → Prop) (w : World) : Ext R w w := ⟨rfl, rfl, rfl, Nat.le_refl _, fun _ _ _ => rfl, Nat.le_refl _⟩
structure SR (E : Env) (ι : Nat → Option (Nat × Nat)) (imm : Nat → Prop) (st : St) (a : Act) (w : World) : Prop where
  defers : a.defers = []
  size : a.tmps.size = E.n
  slot : ∀ t v, st.S t = some v → VH ι imm w v (a.tmps.getD t undef)
  heap : HR ι imm w E.M st.H
  used : ∀ b x, ι b = some x → st.U b = true
  grow : Grows E.ι0 ι E.imm0 imm E.w0 w
  ext : Ext E.R E.w0 w
  immM : ∀ k, imm k → E.imm0 k ∨ E.M k
  immlt : ∀ k, imm k → k < w.heap.size
def putO (S : Nat → Option AV) (d : Option Nat) (v : AV) : Nat → Option AV :=
  match d with
  | none => S
  | some t => fun u => if u = t then some v else S u
/-- What a move does. -/
structure Delta where
  v : AV
  new : List (Nat × Blk) := []
  wr : List (Nat × Option Blk) := []
def Delta.H (δ : Delta) (H : Nat → Option Blk) : Nat → Option Blk := fun b =>
  match δ.new.lookup b with
  | some k => some k
  | none => match δ.wr.lookup b with
    | some k => k
    | none => H b
def Delta.U (δ : Delta) (U : Nat → Bool) : Nat → Bool := fun b => (δ.new.lookup b).isSome || U b
def St.after (st : St) (d : Option Nat) (δ : Delta) : St := ⟨putO st.S d δ.v, δ.H st.H, δ.U st.U⟩
/-- A constant's cell as an abstract value; a constant. -/
def constCell : Value → AV
  | .slice none 0 0 => .pv (.sl (some true) 0 [])
  | .bool b => .pv (.lit (.bool b))
  | .int k n => .pv (.lit (.int k n))
  | .string s => .pv (.lit (.string s))
  | .pointer none => .pv (.lit (.pointer none))
  | .map none => .pv (.lit (.map none))
  | .nilFunc => .pv (.lit .nilFunc)
  | .nilIface => .pv (.lit .nilIface)
  | _ => .undef
def constAV : Value → AV
  | .agg c => .agg (c.toList.map constCell)
  | v => constCell v
/-- An operand's abstract value. -/
def evl (S : Nat → Option AV) : Operand → Option AV
  | .tmp t => S t
  | .const v => some (constAV v)
  | .func f => some (.fn f [] [])
  | .global _ => none
/-- The operands' values, in order. -/
def evls (S : Nat → Option AV) : List Operand → Option (List AV)
  | [] => some []
  | x :: xs => match evl S x, evls S xs with
    | some v, some vs => some (v :: vs)
    | _, _ => none
mutual
/-- All blocks that a value names are in U. -/
def AV.within (U : Nat → Bool) : AV → Bool
  | .undef | .pv _ | .tsl _ _ | .rp _ => true
  | .agg cs | .tup cs => AV.withinL U cs
  | .ptr b _ | .sl b _ _ _ _ | .slc b _ _ _ _ | .mp b => U b
  | .fn _ xs ys => AV.withinL U xs && AV.withinL U ys
def AV.withinL (U : Nat → Bool) : List AV → Bool
  | [] => true
  | x :: xs => AV.within U x && AV.withinL U xs
end
def Blk.within (U : Nat → Bool) : Blk → Bool
  | .cells cs => AV.withinL U cs
  | .map es => es.all fun e => e.1.within U && e.2.within U
  | .mapx es _ => (dropB es).all fun e => e.1.within U && e.2.within U
  | .iter b _ _ _ => U b
  | .siter _ _ => true
mutual
theorem AV.within_mono {U V : Nat → Bool} (h : ∀ b, U b = true → V b = true) : ∀ (x : AV), x.within U = true → x.within V = true
  | .undef, _ | .pv _, _ | .tsl _ _, _ | .rp _, _ => rfl
  | .agg cs, hx => by simp only [AV.within] at hx ⊢; exact AV.withinL_mono h cs hx
  | .tup cs, hx => by simp only [AV.within] at hx ⊢; exact AV.withinL_mono h cs hx
  | .ptr b _, hx => by simp only [AV.within] at hx ⊢; exact h b hx
  | .sl b _ _ _ _, hx | .slc b _ _ _ _, hx => by simp only [AV.within] at hx ⊢; exact h b hx
  | .mp b, hx => by simp only [AV.within] at hx ⊢; exact h b hx
  | .fn _ xs ys, hx => by
    simp only [AV.within, Bool.and_eq_true] at hx ⊢
    exact ⟨AV.withinL_mono h xs hx.1, AV.withinL_mono h ys hx.2⟩
theorem AV.withinL_mono {U V : Nat → Bool} (h : ∀ b, U b = true → V b = true) : ∀ (xs : List AV), AV.withinL U xs = true → AV.withinL V xs = true
  | [], _ => rfl
  | x :: xs, hx => by
    simp only [AV.withinL, Bool.and_eq_true] at hx ⊢
    exact ⟨AV.within_mono h x hx.1, AV.withinL_mono h xs hx.2⟩
end
theorem Blk.within_mono {U V : Nat → Bool} (h : ∀ b, U b = true → V b = true) : ∀ (x : Blk), x.within U = true → x.within V = true
  | .cells cs, hx => AV.withinL_mono h cs hx
  | .map es, hx => by
    simp only [Blk.within, List.all_eq_true, Bool.and_eq_true] at hx ⊢
    exact fun e he => ⟨AV.within_mono h _ (hx e he).1, AV.within_mono h _ (hx e he).2⟩
  | .mapx es _, hx => by
    simp only [Blk.within, List.all_eq_true, Bool.and_eq_true] at hx ⊢
    exact fun e he => ⟨AV.within_mono h _ (hx e he).1, AV.within_mono h _ (hx e he).2⟩
  | .iter b _ _ _, hx => by simp only [Blk.within] at hx ⊢; exact h b hx
  | .siter _ _, _ => rfl
theorem AV.withinL_mem {U : Nat → Bool} : ∀ {xs : List AV}, AV.withinL U xs = true → ∀ x ∈ xs, x.within U = true
  | [], _, x, hx => by cases hx
  | y :: ys, h, x, hx => by
    simp only [AV.withinL, Bool.and_eq_true] at h
    cases hx with
    | head => exact h.1
    | tail _ hm => exact AV.withinL_mem h.2 x hm
theorem AV.withinL_of {U : Nat → Bool} : ∀ {xs : List AV}, (∀ x ∈ xs, x.within U = true) → AV.withinL U xs = true
  | [], _ => rfl
  | y :: ys, h => by
    simp only [AV.withinL, Bool.and_eq_true]
    exact ⟨h y (List.mem_cons_self ..), AV.withinL_of fun x hx => h x (List.mem_cons_of_mem _ hx)⟩
mutual
theorem VH.within {ι : Nat → Option (Nat × Nat)} {imm : Nat → Prop} {w : World} {U : Nat → Bool} (h : ∀ b x, ι b = some x → U b = true) : ∀ (x : AV) (v : Value), VH ι imm w x v → x.within U = true
  | .undef, _, _ | .pv _, _, _ | .tsl _ _, _, _ | .rp _, _, _ => rfl
  | .agg cs, v, hv => by simp only [VH] at hv; obtain ⟨vs, _, h2⟩ := hv; exact VHs.within h cs vs h2
  | .tup cs, v, hv => by simp only [VH] at hv; obtain ⟨vs, _, h2⟩ := hv; exact VHs.within h cs vs h2
  | .ptr b _, v, hv => by simp only [VH] at hv; obtain ⟨r, z, h1, _⟩ := hv; exact h b _ h1
  | .sl b _ _ _ _, v, hv => by simp only [VH] at hv; obtain ⟨r, z, _, h1, _⟩ := hv; exact h b _ h1
  | .slc b _ _ _ _, v, hv => by simp only [VH] at hv; obtain ⟨r, z, h1, _⟩ := hv; exact h b _ h1
  | .mp b, v, hv => by simp only [VH] at hv; obtain ⟨r, z, h1, _⟩ := hv; exact h b _ h1
  | .fn _ xs ys, v, hv => by
    simp only [VH] at hv
    obtain ⟨vs, us, _, h2, h3⟩ := hv
    simp only [AV.within, Bool.and_eq_true]
    exact ⟨VHs.within h xs vs h2, VHs.within h ys us h3⟩
theorem VHs.within {ι : Nat → Option (Nat × Nat)} {imm : Nat → Prop} {w : World} {U : Nat → Bool} (h : ∀ b x, ι b = some x → U b = true) : ∀ (xs : List AV) (vs : List Value), VHs ι imm w xs vs → AV.withinL U xs = true
  | [], _, _ => rfl
  | x :: xs, vs, hv => by
    simp only [VHs] at hv
    obtain ⟨v, us, _, h2, h3⟩ := hv
    simp only [AV.withinL, Bool.and_eq_true]
    exact ⟨VH.within h x v h2, VHs.within h xs us h3⟩
end
theorem CellsH.within {ι : Nat → Option (Nat × Nat)} {imm : Nat → Prop} {w : World} {U : Nat → Bool} (h : ∀ b x, ι b = some x → U b = true) {c : Array Value} : ∀ (xs : List AV) (o : Nat), CellsH ι imm w c xs o → AV.withinL U xs = true
  | [], _, _ => rfl
  | x :: xs, o, hv => by
    obtain ⟨⟨v, _, h2⟩, h3⟩ := hv
    simp only [AV.withinL, Bool.and_eq_true]
    exact ⟨VH.within h x v h2, CellsH.within h xs _ h3⟩
theorem EntsH.within {ι : Nat → Option (Nat × Nat)} {imm : Nat → Prop} {w : World} {U : Nat → Bool} (h : ∀ b x, ι b = some x → U b = true) : ∀ (xs : List (AV × AV)) (es : List MapEntry), EntsH ι imm w xs es → (xs.all fun e => e.1.within U && e.2.within U) = true
  | [], _, _ => rfl
  | (k, x) :: xs, es, hv => by
    obtain ⟨e, us, _, h2, h3, h4⟩ := hv
    simp only [List.all_cons, Bool.and_eq_true]
    exact ⟨⟨VH.within h k _ h2, VH.within h x _ h3⟩, EntsH.within h xs us h4⟩
theorem BlkH.within {ι : Nat → Option (Nat × Nat)} {imm : Nat → Prop} {w : World} {U : Nat → Bool} (h : ∀ b x, ι b = some x → U b = true) {r z : Nat} : ∀ (k : Blk), BlkH ι imm w r z k → k.within U = true
  | .cells cs, hk => by obtain ⟨c, e, f, _, _, _, h4⟩ := hk; exact CellsH.within h cs _ h4
  | .map es, hk => by obtain ⟨c, q, l, _, _, _, h4, _⟩ := hk; exact EntsH.within h es _ h4
  | .mapx es _, hk => by obtain ⟨c, _, _, h4, _⟩ := hk; exact EntsH.within h (dropB es) _ h4
  | .iter b _ _ _, hk => by obtain ⟨m, _, h1, _⟩ := hk; exact h b _ h1
  | .siter _ _, _ => rfl
/-- All that a state names is in use. -/
structure WF (st : St) : Prop where
  S : ∀ t v, st.S t = some v → v.within st.U = true
  H : ∀ b k, st.H b = some k → k.within st.U = true
  U : ∀ b k, st.H b = some k → st.U b = true
theorem SR.wf {E : Env} {ι : Nat → Option (Nat × Nat)} {imm : Nat → Prop} {st : St} {a : Act} {w : World} (h : SR E ι imm st a w) : WF st where
  S t v hv := VH.within h.used v _ (h.slot t v hv)
  H b k hk := by obtain ⟨r, z, _, _, _, h4⟩ := h.heap.blk b k hk; exact BlkH.within h.used k h4
  U b k hk := by obtain ⟨r, z, h1, _⟩ := h.heap.blk b k hk; exact h.used b _ h1
/-- The blocks that values and blocks name. -/
def refs (vs : List AV) (hs : List (Nat × Blk)) (b : Nat) : Bool :=
  !(AV.withinL (· != b) vs) || hs.any fun x => !(x.2.within (· != b))
theorem not_mentions {U : Nat → Bool} {b : Nat} (hb : U b = false) (c : Nat) (h : U c = true) : (c != b) = true := by
  simp only [bne_iff_ne, ne_eq]; intro e; rw [e, hb] at h; cases h
theorem refs_in {U : Nat → Bool} {vs : List AV} {hs : List (Nat × Blk)} (hv : AV.withinL U vs = true) (hh : ∀ x ∈ hs, x.2.within U = true) {b : Nat} (hr : refs vs hs b = true) : U b = true := by
  cases hb : U b with
  | true => rfl
  | false =>
    simp only [refs, Bool.or_eq_true, Bool.not_eq_true', List.any_eq_true] at hr
    rcases hr with h | ⟨x, hx, h⟩
    · rw [AV.withinL_mono (not_mentions hb) _ hv] at h; cases h
    · rw [Blk.within_mono (not_mentions hb) _ (hh x hx)] at h; cases h
/-- Each block that is looked at is named by the operands, or by a block ahead of it. -/
def reachB (vs : List AV) : List (Nat × Blk) → List (Nat × Blk) → Bool
  | _, [] => true
  | seen, x :: xs => refs vs seen x.1 && reachB vs (x :: seen) xs
inductive Cls where
  | pure | quiet | writer
  | reads (bs : List Nat)
  | writes (bs : List Nat)
  deriving DecidableEq
/-- A move keeps to the blocks that its class names. -/
def footB (c : Cls) (hs : List (Nat × Blk)) (δ : Delta) : Bool :=
  match c with
  | .reads bs => δ.wr.isEmpty && (δ.new.isEmpty && hs.all fun x => bs.contains x.1)
  | .writes bs => δ.new.all (fun x => bs.contains x.1) && (hs.all (fun x => bs.contains x.1) && δ.wr.all fun x => bs.contains x.1)
  | _ => true
/-- An operation does this, wherever its operands are those and the blocks that it looks at are as told. -/
def Does (E : Env) (o : Oper) (vs : List AV) (hs : List (Nat × Blk)) (δ : Delta) : Prop :=
  ∀ ι imm st a w Q, SR E ι imm st a w → evls st.S o.op.operands.toList = some vs → (∀ x ∈ hs, st.H x.1 = some x.2) → (∀ x ∈ δ.new, st.U x.1 = false) →
    o.wp E.P a w (fun a' w' => ∃ ι' imm', SR E ι' imm' (st.after o.dst δ) a' w') Q
/-- A guard's value. -/
def guardV (ops : Array Oper) (S : Nat → Option AV) (o : Oper) : Option Bool :=
  match o.guard with
  | none => some true
  | some (j, want) => match ((ops[j]?).bind (·.dst)).bind S with
    | some (.pv (.lit (.bool b))) => some (b == want)
    | some (.tup []) => some false
    | _ => none
structure Move (E : Env) (c : Cls) (o : Oper) (st : St) (vs : List AV) (hs : List (Nat × Blk)) (δ : Delta) : Prop where
  vals : evls st.S o.op.operands.toList = some vs
  deps : ∀ x ∈ hs, st.H x.1 = some x.2
  fresh : ∀ x ∈ δ.new, st.U x.1 = false
  does : Does E o vs hs δ
  reach : reachB vs [] hs = true
  inV : δ.v.within (fun b => (δ.new.lookup b).isSome || refs vs hs b) = true
  inN : ∀ x ∈ δ.new, x.2.within (fun b => (δ.new.lookup b).isSome || refs vs hs b) = true
  inW : ∀ x ∈ δ.wr, ∀ k, x.2 = some k → k.within (fun b => (δ.new.lookup b).isSome || refs vs hs b) = true
  wr : ∀ x ∈ δ.wr, ((δ.new.lookup x.1).isSome || refs vs hs x.1) = true
  pure : c = .pure → hs = [] ∧ δ.new = [] ∧ δ.wr = []
  quiet : c = .quiet → δ.wr = []
  foot : footB c hs δ = true
inductive Step (E : Env) (ops : Array Oper) (c : Cls) (o : Oper) (st : St) : St → Prop where
  | exec (hg : guardV ops st.S o = some true) (hd : ∀ d, o.dst = some d → d < E.n) (vs : List AV) (hs : List (Nat × Blk)) (δ : Delta) (m : Move E c o st vs hs δ) : Step E ops c o st (st.after o.dst δ)
  | skip (hg : guardV ops st.S o = some false) (hd : ∀ d, o.dst = some d → d < E.n) : Step E ops c o st (st.after o.dst { v := .tup [] })
theorem reach_in {U : Nat → Bool} {H H' : Nat → Option Blk} {vs : List AV} (hv : AV.withinL U vs = true) (hU : ∀ b, U b = true → H' b = H b) (hW : ∀ b k, H b = some k → k.within U = true) :
    ∀ (hs seen : List (Nat × Blk)), (∀ x ∈ seen, x.2.within U = true) → reachB vs seen hs = true → (∀ x ∈ hs, H' x.1 = some x.2) → ∀ x ∈ hs, U x.1 = true ∧ H x.1 = some x.2 ∧ x.2.within U = true
  | [], _, _, _, _, x, hx => by cases hx
  | y :: ys, seen, hs, hr, hd, x, hx => by
    simp only [reachB, Bool.and_eq_true] at hr
    have hy := refs_in hv hs hr.1
    have hy1 : H y.1 = some y.2 := by rw [← hU y.1 hy]; exact hd y (List.mem_cons_self ..)
    have hy2 := hW _ _ hy1
    cases hx with
    | head => exact ⟨hy, hy1, hy2⟩
    | tail _ hm =>
      exact reach_in hv hU hW ys (y :: seen) (fun z hz => by cases hz with | head => exact hy2 | tail _ h => exact hs z h) hr.2 (fun z hz => hd z (List.mem_cons_of_mem _ hz)) x hm
theorem evls_within {st : St} (wf : WF st) : ∀ (xs : List Operand) (vs : List AV), evls st.S xs = some vs → AV.withinL st.U vs = true
  | [], vs, h => by simp only [evls, Option.some.injEq] at h; subst h; rfl
  | x :: xs, vs, h => by
    simp only [evls] at h
    split at h
    · rename_i v us hv hus
      simp only [Option.some.injEq] at h
      subst h
      simp only [AV.withinL, Bool.and_eq_true]
      refine ⟨?_, evls_within wf xs us hus⟩
      cases x with
      | tmp t => exact wf.S t v hv
      | const c =>
        simp only [evl, Option.some.injEq] at hv
        subst hv
        have hcell : ∀ c, (constCell c).within st.U = true := fun c => by unfold constCell; split <;> rfl
        unfold constAV
        split
        · simp only [AV.within]
          refine AV.withinL_of fun x hx => ?_
          obtain ⟨y, _, rfl⟩ := List.mem_map.1 hx
          exact hcell y
        · exact hcell _
      | func f => simp only [evl, Option.some.injEq] at hv; subst hv; rfl
      | global g => simp [evl] at hv
    · cases h
theorem Delta.U_old {δ : Delta} {U : Nat → Bool} {b : Nat} (h : U b = true) : δ.U U b = true := by simp [Delta.U, h]
mutual
theorem AV.within_of {U : Nat → Bool} : ∀ (x : AV), (∀ b, x.within (· != b) = false → U b = true) → x.within U = true
  | .undef, _ | .pv _, _ | .tsl _ _, _ | .rp _, _ => rfl
  | .agg cs, h => by simp only [AV.within] at h ⊢; exact AV.withinL_ofM cs h
  | .tup cs, h => by simp only [AV.within] at h ⊢; exact AV.withinL_ofM cs h
  | .ptr b _, h => by simp only [AV.within] at h ⊢; exact h b (by simp)
  | .sl b _ _ _ _, h | .slc b _ _ _ _, h => by simp only [AV.within] at h ⊢; exact h b (by simp)
  | .mp b, h => by simp only [AV.within] at h ⊢; exact h b (by simp)
  | .fn _ xs ys, h => by
    simp only [AV.within, Bool.and_eq_true, Bool.and_eq_false_iff] at h ⊢
    exact ⟨AV.withinL_ofM xs fun b hb => h b (.inl hb), AV.withinL_ofM ys fun b hb => h b (.inr hb)⟩
theorem AV.withinL_ofM {U : Nat → Bool} : ∀ (xs : List AV), (∀ b, AV.withinL (· != b) xs = false → U b = true) → AV.withinL U xs = true
  | [], _ => rfl
  | x :: xs, h => by
    simp only [AV.withinL, Bool.and_eq_true, Bool.and_eq_false_iff] at h ⊢
    exact ⟨AV.within_of x fun b hb => h b (.inl hb), AV.withinL_ofM xs fun b hb => h b (.inr hb)⟩
end
theorem Blk.within_of {U : Nat → Bool} : ∀ (x : Blk), (∀ b, x.within (· != b) = false → U b = true) → x.within U = true
  | .cells cs, h => AV.withinL_ofM cs h
  | .map es, h => by
    simp only [Blk.within, List.all_eq_true, Bool.and_eq_true]
    intro e he
    have key : ∀ b, e.1.within (· != b) = false ∨ e.2.within (· != b) = false → U b = true := fun b hb => h b (by
      cases hall : Blk.within (· != b) (.map es) with
      | false => rfl
      | true =>
        simp only [Blk.within, List.all_eq_true, Bool.and_eq_true] at hall
        have := hall e he
        rcases hb with hb | hb
        · rw [this.1] at hb; cases hb
        · rw [this.2] at hb; cases hb)
    exact ⟨AV.within_of _ fun b hb => key b (.inl hb), AV.within_of _ fun b hb => key b (.inr hb)⟩
  | .mapx es q, h => by
    simp only [Blk.within, List.all_eq_true, Bool.and_eq_true]
    intro e he
    have key : ∀ b, e.1.within (· != b) = false ∨ e.2.within (· != b) = false → U b = true := fun b hb => h b (by
      cases hall : Blk.within (· != b) (.mapx es q) with
      | false => rfl
      | true =>
        simp only [Blk.within, List.all_eq_true, Bool.and_eq_true] at hall
        have := hall e he
        rcases hb with hb | hb
        · rw [this.1] at hb; cases hb
        · rw [this.2] at hb; cases hb)
    exact ⟨AV.within_of _ fun b hb => key b (.inl hb), AV.within_of _ fun b hb => key b (.inr hb)⟩
  | .iter b _ _ _, h => by
    simp only [Blk.within] at h ⊢
    exact h b (by simp)
  | .siter _ _, _ => rfl
theorem within_self (vs : List AV) (hs : List (Nat × Blk)) : AV.withinL (fun b => refs vs hs b) vs = true :=
  AV.withinL_ofM vs fun b hb => by simp [refs, hb]
theorem within_self_blk (vs : List AV) (hs : List (Nat × Blk)) (x : Nat × Blk) (hx : x ∈ hs) : x.2.within (fun b => refs vs hs b) = true :=
  Blk.within_of x.2 fun b hb => by
    simp only [refs, Bool.or_eq_true, List.any_eq_true]
    exact .inr ⟨x, hx, by simp [hb]⟩
theorem lookup_mem {α : Type} : ∀ {l : List (Nat × α)} {b : Nat} {k : α}, l.lookup b = some k → (b, k) ∈ l
  | [], _, _, h => by simp at h
  | (c, x) :: l, b, k, h => by
    simp only [List.lookup] at h
    split at h
    · rename_i he
      obtain rfl := eq_of_beq he
      obtain rfl := Option.some.inj h
      exact List.mem_cons_self ..
    · exact List.mem_cons_of_mem _ (lookup_mem h)
theorem Move.within {E : Env} {c : Cls} {o : Oper} {st : St} {vs : List AV} {hs : List (Nat × Blk)} {δ : Delta} (m : Move E c o st vs hs δ) (wf : WF st) :
    ∀ b, ((δ.new.lookup b).isSome || refs vs hs b) = true → δ.U st.U b = true := by
  intro b hb
  simp only [Bool.or_eq_true] at hb
  rcases hb with hb | hb
  · simp [Delta.U, hb]
  · exact Delta.U_old (refs_in (evls_within wf _ _ m.vals) (fun x hx => wf.H _ _ (m.deps x hx)) hb)
theorem Move.wf {E : Env} {c : Cls} {o : Oper} {st : St} {vs : List AV} {hs : List (Nat × Blk)} {δ : Delta} (m : Move E c o st vs hs δ) (wf : WF st) (d : Option Nat) : WF (st.after d δ) := by
  have hw := m.within wf
  refine ⟨fun t v hv => ?_, fun b k hk => ?_, fun b k hk => ?_⟩
  · have old : ∀ v, st.S t = some v → v.within (δ.U st.U) = true := fun v hv => AV.within_mono (fun b => Delta.U_old) v (wf.S t v hv)
    cases d with
    | none => exact old v hv
    | some d =>
      simp only [St.after, putO] at hv
      split at hv
      · obtain rfl := Option.some.inj hv; exact AV.within_mono hw _ m.inV
      · exact old v hv
  · simp only [St.after, Delta.H] at hk
    split at hk
    · rename_i k' hl
      obtain rfl := Option.some.inj hk
      exact Blk.within_mono hw _ (m.inN _ (lookup_mem hl))
    · split at hk
      · rename_i k' hl
        exact Blk.within_mono hw _ (m.inW _ (lookup_mem hl) k hk)
      · exact Blk.within_mono (fun b => Delta.U_old) _ (wf.H _ _ hk)
  · simp only [St.after, Delta.H] at hk
    simp only [St.after, Delta.U, Bool.or_eq_true]
    split at hk
    · rename_i k' hl; simp [hl]
    · rename_i hnone
      right
      split at hk
      · rename_i k' hl
        have hw := m.wr _ (lookup_mem hl)
        simp only [hnone, Option.isSome_none, Bool.false_or] at hw
        exact refs_in (evls_within wf _ _ m.vals) (fun x hx => wf.H _ _ (m.deps x hx)) hw
      · exact wf.U _ _ hk
theorem Step.wf {E : Env} {ops : Array Oper} {c : Cls} {o : Oper} {st st' : St} (h : Step E ops c o st st') (wf : WF st) : WF st' := by
  cases h with
  | exec _ _ vs hs δ m => exact m.wf wf _
  | skip _ _ =>
    refine ⟨fun t v hv => ?_, wf.H, wf.U⟩
    cases hd : o.dst with
    | none => rw [hd] at hv; exact wf.S t v hv
    | some d =>
      rw [hd] at hv
      simp only [St.after, putO] at hv
      split at hv
      · obtain rfl := Option.some.inj hv; rfl
      · exact wf.S t v hv
theorem putO_other {S : Nat → Option AV} {d : Option Nat} {v : AV} {t : Nat} (h : d ≠ some t) : putO S d v t = S t := by
  cases d with
  | none => rfl
  | some e => simp only [putO]; rw [if_neg]; intro he; exact h (by rw [he])
theorem evls_put {S : Nat → Option AV} {d : Option Nat} {v : AV} : ∀ {xs : List Operand}, (∀ t, d = some t → Operand.tmp t ∉ xs) → evls (putO S d v) xs = evls S xs
  | [], _ => rfl
  | x :: xs, h => by
    have h1 : evl (putO S d v) x = evl S x := by
      cases x with
      | tmp t => exact putO_other fun e => h t e (List.mem_cons_self ..)
      | const c => rfl
      | func f => rfl
      | global g => rfl
    simp only [evls, h1, evls_put (xs := xs) fun t e hm => h t e (List.mem_cons_of_mem _ hm)]
theorem guardV_put {ops : Array Oper} {S : Nat → Option AV} {d : Option Nat} {v : AV} {o : Oper} (h : ∀ t, d = some t → t ∉ o.looksAt ops) : guardV ops (putO S d v) o = guardV ops S o := by
  unfold guardV
  cases hg : o.guard with
  | none => rfl
  | some g =>
    obtain ⟨j, want⟩ := g
    cases hj : (ops[j]?).bind (·.dst) with
    | none => simp only [hj, Option.bind_none]
    | some t =>
      have : putO S d v t = S t := putO_other fun e => h t e (by
        simp only [Oper.looksAt, hg, hj, Option.toList_some]
        exact List.mem_append_right _ (List.mem_singleton.2 rfl))
      simp only [hj, Option.bind_some, this]
theorem not_operand {ops : Array Oper} {o : Oper} {t : Nat} (h : t ∉ o.looksAt ops) : Operand.tmp t ∉ o.op.operands.toList := fun hm =>
  h (List.mem_append_left _ (List.mem_filterMap.2 ⟨.tmp t, hm, rfl⟩))
theorem putO_comm {S : Nat → Option AV} {d e : Option Nat} {v u : AV} (h : ∀ t, d = some t → e ≠ some t) : putO (putO S d v) e u = putO (putO S e u) d v := by
  cases d with
  | none => rfl
  | some d =>
    cases e with
    | none => rfl
    | some e =>
      have hne : e ≠ d := fun he => h d rfl (by rw [he])
      funext t
      simp only [putO]
      by_cases h1 : t = e
      · have h2 : ¬ t = d := fun h => hne (h1.symm.trans h)
        rw [if_pos h1, if_neg h2, if_pos h1]
      · rw [if_neg h1, if_neg h1]
/-- May these two be done in either order? -/
def Cls.free : Cls → Cls → Bool
  | .pure, _ | _, .pure => true
  | .quiet, .quiet | .quiet, .reads _ | .reads _, .quiet | .reads _, .reads _ => true
  | .reads a, .writes b | .writes a, .reads b | .writes a, .writes b => a.all fun x => !b.contains x
  | _, _ => false
theorem foot_reads {bs : List Nat} {hs : List (Nat × Blk)} {δ : Delta} (h : footB (.reads bs) hs δ = true) : δ.wr = [] ∧ δ.new = [] ∧ ∀ x ∈ hs, bs.contains x.1 = true := by
  simp only [footB, Bool.and_eq_true, List.isEmpty_iff, List.all_eq_true] at h
  exact h
theorem foot_writes {bs : List Nat} {hs : List (Nat × Blk)} {δ : Delta} (h : footB (.writes bs) hs δ = true) : (∀ x ∈ δ.new, bs.contains x.1 = true) ∧ (∀ x ∈ hs, bs.contains x.1 = true) ∧ ∀ x ∈ δ.wr, bs.contains x.1 = true := by
  simp only [footB, Bool.and_eq_true, List.all_eq_true] at h
  exact h
/-- What a move looks at or writes, where it keeps to blocks. -/
theorem foot_deps {c : Cls} {hs : List (Nat × Blk)} {δ : Delta} {a : List Nat} (h : footB c hs δ = true) (hc : c = .reads a ∨ c = .writes a) : ∀ x ∈ hs, a.contains x.1 = true := by
  rcases hc with rfl | rfl
  · exact (foot_reads h).2.2
  · exact (foot_writes h).2.1
theorem apart_lists {a b : List Nat} (h : (a.all fun x => !b.contains x) = true) {x : Nat} (ha : a.contains x = true) : b.contains x = false := by
  have := List.all_eq_true.1 h x (by simpa using ha)
  simpa using this
theorem lookup_apart {δ : Delta} {b : List Nat} (h : ∀ x ∈ δ.wr, b.contains x.1 = true) {x : Nat} (hx : b.contains x = false) : δ.wr.lookup x = none := by
  cases hl : δ.wr.lookup x with
  | none => rfl
  | some k =>
    exfalso
    have : ∀ (l : List (Nat × Option Blk)) {k}, l.lookup x = some k → (x, k) ∈ l := by
      intro l
      induction l with
      | nil => intro k h; cases h
      | cons y ys ih =>
        intro k h
        simp only [List.lookup] at h
        split at h
        · rename_i he
          have := eq_of_beq he
          simp only [Option.some.injEq] at h
          subst this; subst h
          exact List.mem_cons_self ..
        · exact List.mem_cons_of_mem _ (ih h)
    have := h _ (this _ hl)
    simp only at this
    rw [hx] at this; cases this
theorem lookup_apartN {δ : Delta} {b : List Nat} (h : ∀ x ∈ δ.new, b.contains x.1 = true) {x : Nat} (hx : b.contains x = false) : δ.new.lookup x = none := by
  cases hl : δ.new.lookup x with
  | none => rfl
  | some k => have := h _ (lookup_mem hl); rw [hx] at this; cases this
theorem Delta.H_nil {δ : Delta} {H : Nat → Option Blk} (h1 : δ.new = []) (h2 : δ.wr = []) : δ.H H = H := by
  funext b; simp [Delta.H, h1, h2]
theorem Delta.U_nil {δ : Delta} {U : Nat → Bool} (h1 : δ.new = []) : δ.U U = U := by
  funext b; simp [Delta.U, h1]
theorem lookup_fresh {δ : Delta} {U : Nat → Bool} (h : ∀ x ∈ δ.new, U x.1 = false) {b : Nat} (hb : U b = true) : δ.new.lookup b = none := by
  cases hl : δ.new.lookup b with
  | none => rfl
  | some k => have := h _ (lookup_mem hl); rw [hb] at this; cases this
/-- A move behind one that it does not look at is the same move ahead of it. -/
theorem Move.ahead {E : Env} {ops : Array Oper} {ck ci : Cls} {k i : Oper} {st : St} {vk vi : List AV} {hk hi : List (Nat × Blk)} {δk δi : Delta} (wf : WF st)
    (mk : Move E ck k st vk hk δk) (mi : Move E ci i (st.after k.dst δk) vi hi δi) (ha : k.apart ops i = true) (hf : ck.free ci = true) :
    Move E ci i st vi hi δi ∧ Move E ck k (st.after i.dst δi) vk hk δk ∧ (st.after k.dst δk).after i.dst δi = (st.after i.dst δi).after k.dst δk := by
  obtain ⟨ha1, ha2, ha3⟩ := Oper.apart_spec ha
  have hvi : evls st.S i.op.operands.toList = some vi := by
    have := mi.vals
    simp only [St.after] at this
    rwa [evls_put fun t e => not_operand (ha1 t e)] at this
  have hvk : evls (st.after i.dst δi).S k.op.operands.toList = some vk := by
    show evls (putO st.S i.dst δi.v) _ = _
    rw [evls_put fun t e => not_operand (ha3 t e)]; exact mk.vals
  have freshI : ∀ x ∈ δi.new, st.U x.1 = false := fun x hx => by
    have := mi.fresh x hx
    simp only [St.after, Delta.U, Bool.or_eq_false_iff] at this
    exact this.2
  have apartN : ∀ x ∈ δi.new, δk.new.lookup x.1 = none := fun x hx => by
    have := mi.fresh x hx
    simp only [St.after, Delta.U, Bool.or_eq_false_iff] at this
    simpa using this.1
  have freshK : ∀ x ∈ δk.new, (st.after i.dst δi).U x.1 = false := fun x hx => by
    simp only [St.after, Delta.U, Bool.or_eq_false_iff]
    refine ⟨?_, mk.fresh x hx⟩
    cases hl : δi.new.lookup x.1 with
    | none => rfl
    | some b =>
      have h1 := apartN _ (lookup_mem hl)
      exfalso
      have : ∀ (l : List (Nat × Blk)), x ∈ l → l.lookup x.1 ≠ none := by
        intro l
        induction l with
        | nil => intro h; cases h
        | cons y ys ih =>
          intro h
          simp only [List.lookup]
          split
          · simp
          · rename_i hne
            cases h with
            | head => simp at hne
            | tail _ hm => exact ih hm
      exact this _ hx h1
  -- what i looks at was there before k
  have depsI : ∀ x ∈ hi, st.H x.1 = some x.2 := by
    by_cases hp : hi = []
    · rw [hp]; intro x hx; cases hx
    · have hci : ci ≠ .pure := fun e => hp (mi.pure e).1
      by_cases hw : ∃ b, ck = .writes b
      · obtain ⟨b, hb⟩ := hw
        have key : ∀ a : List Nat, (a.all fun x => !b.contains x) = true ∨ (b.all fun x => !a.contains x) = true → (∀ x ∈ hi, a.contains x.1 = true) → ∀ x ∈ hi, st.H x.1 = some x.2 := fun a hab hh x hx => by
          obtain ⟨n1, _, n3⟩ := foot_writes (hb ▸ mk.foot)
          have hbx : b.contains x.1 = false := by
            rcases hab with hab | hab
            · exact apart_lists hab (hh x hx)
            · cases hc : b.contains x.1 with
              | false => rfl
              | true => have := apart_lists hab hc; rw [hh x hx] at this; cases this
          have := mi.deps x hx
          simpa only [St.after, Delta.H, lookup_apartN n1 hbx, lookup_apart n3 hbx] using this
        cases hci' : ci with
        | pure => exact absurd hci' hci
        | quiet => rw [hb, hci'] at hf; cases hf
        | writer => rw [hb, hci'] at hf; cases hf
        | reads a => rw [hb, hci'] at hf; exact key a (.inr hf) (foot_deps mi.foot (.inl hci'))
        | writes a => rw [hb, hci'] at hf; exact key a (.inr hf) (foot_deps mi.foot (.inr hci'))
      have hwk : δk.wr = [] := by
        cases hck : ck with
        | pure => exact (mk.pure hck).2.2
        | quiet => exact mk.quiet hck
        | writer => rw [hck] at hf; cases hci' : ci <;> simp_all [Cls.free]
        | reads a => exact (foot_reads (hck ▸ mk.foot)).1
        | writes b => exact absurd ⟨b, hck⟩ hw
      have hold : ∀ b, st.U b = true → (st.after k.dst δk).H b = st.H b := fun b hb => by
        simp only [St.after, Delta.H, lookup_fresh mk.fresh hb, hwk, List.lookup]
      exact fun x hx => (reach_in (evls_within wf _ _ hvi) hold (fun b k h => wf.H b k h) hi [] (fun _ h => by cases h) mi.reach mi.deps x hx).2.1
  have depsK : ∀ x ∈ hk, (st.after i.dst δi).H x.1 = some x.2 := by
    by_cases hp : hk = []
    · rw [hp]; intro x hx; cases hx
    · have hck : ck ≠ .pure := fun e => hp (mk.pure e).1
      by_cases hw : ∃ b, ci = .writes b
      · obtain ⟨b, hb⟩ := hw
        have key : ∀ a : List Nat, (a.all fun x => !b.contains x) = true → (∀ x ∈ hk, a.contains x.1 = true) → ∀ x ∈ hk, (st.after i.dst δi).H x.1 = some x.2 := fun a hab hh x hx => by
          obtain ⟨n1, _, n3⟩ := foot_writes (hb ▸ mi.foot)
          have := mk.deps x hx
          simpa only [St.after, Delta.H, lookup_apartN n1 (apart_lists hab (hh x hx)), lookup_apart n3 (apart_lists hab (hh x hx))] using this
        cases hck' : ck with
        | pure => exact absurd hck' hck
        | quiet => rw [hb, hck'] at hf; cases hf
        | writer => rw [hb, hck'] at hf; cases hf
        | reads a => rw [hb, hck'] at hf; exact key a hf (foot_deps mk.foot (.inl hck'))
        | writes a => rw [hb, hck'] at hf; exact key a hf (foot_deps mk.foot (.inr hck'))
      have hwi : δi.wr = [] := by
        cases hci : ci with
        | pure => exact (mi.pure hci).2.2
        | quiet => exact mi.quiet hci
        | writer => rw [hci] at hf; cases hck' : ck <;> simp_all [Cls.free]
        | reads a => exact (foot_reads (hci ▸ mi.foot)).1
        | writes b => exact absurd ⟨b, hci⟩ hw
      intro x hx
      have hu := wf.U _ _ (mk.deps x hx)
      simp only [St.after, Delta.H, lookup_fresh freshI hu, hwi, List.lookup]
      exact mk.deps x hx
  refine ⟨{ mi with vals := hvi, deps := depsI, fresh := freshI }, { mk with vals := hvk, deps := depsK, fresh := freshK }, ?_⟩
  have hS : putO (putO st.S k.dst δk.v) i.dst δi.v = putO (putO st.S i.dst δi.v) k.dst δk.v := putO_comm fun t h => ha2 t h
  have hU : δi.U (δk.U st.U) = δk.U (δi.U st.U) := by
    funext b
    simp only [Delta.U]
    cases (δi.new.lookup b).isSome <;> cases (δk.new.lookup b).isSome <;> rfl
  have hH : δi.H (δk.H st.H) = δk.H (δi.H st.H) := by
    have both : δi.wr = [] → δk.wr = [] → δi.H (δk.H st.H) = δk.H (δi.H st.H) := fun h1 h2 => by
      funext b
      simp only [Delta.H, h1, h2, List.lookup]
      cases hl : δi.new.lookup b with
      | none => cases δk.new.lookup b <;> rfl
      | some x => rw [apartN _ (lookup_mem hl)]
    cases hck : ck with
    | pure => obtain ⟨_, h1, h2⟩ := mk.pure hck; rw [Delta.H_nil h1 h2, Delta.H_nil h1 h2]
    | quiet =>
      cases hci : ci with
      | pure => obtain ⟨_, h1, h2⟩ := mi.pure hci; rw [Delta.H_nil h1 h2, Delta.H_nil h1 h2]
      | quiet => exact both (mi.quiet hci) (mk.quiet hck)
      | writer => rw [hck, hci] at hf; cases hf
      | reads a => obtain ⟨h2, h1, _⟩ := foot_reads (hci ▸ mi.foot); rw [Delta.H_nil h1 h2, Delta.H_nil h1 h2]
      | writes a => rw [hck, hci] at hf; cases hf
    | writer =>
      cases hci : ci with
      | pure => obtain ⟨_, h1, h2⟩ := mi.pure hci; rw [Delta.H_nil h1 h2, Delta.H_nil h1 h2]
      | quiet => rw [hck, hci] at hf; cases hf
      | writer => rw [hck, hci] at hf; cases hf
      | reads a => rw [hck, hci] at hf; cases hf
      | writes a => rw [hck, hci] at hf; cases hf
    | reads a => obtain ⟨h2, h1, _⟩ := foot_reads (hck ▸ mk.foot); rw [Delta.H_nil h1 h2, Delta.H_nil h1 h2]
    | writes b =>
      cases hci : ci with
      | pure => obtain ⟨_, h1, h2⟩ := mi.pure hci; rw [Delta.H_nil h1 h2, Delta.H_nil h1 h2]
      | quiet => rw [hck, hci] at hf; cases hf
      | writer => rw [hck, hci] at hf; cases hf
      | reads a => obtain ⟨h2, h1, _⟩ := foot_reads (hci ▸ mi.foot); rw [Delta.H_nil h1 h2, Delta.H_nil h1 h2]
      | writes a =>
        rw [hck, hci] at hf
        obtain ⟨n1, _, n3⟩ := foot_writes (hck ▸ mk.foot)
        obtain ⟨p1, _, p3⟩ := foot_writes (hci ▸ mi.foot)
        funext x
        simp only [Delta.H]
        cases hb : b.contains x with
        | false => rw [lookup_apart n3 hb, lookup_apartN n1 hb]
        | true => rw [lookup_apart p3 (apart_lists hf hb), lookup_apartN p1 (apart_lists hf hb)]
  simp only [St.after, hS, hU, hH]
theorem St.after_skip' (st : St) (d : Option Nat) (v : AV) : st.after d { v := v } = ⟨putO st.S d v, st.H, st.U⟩ := by
  simp only [St.after]
  rw [Delta.H_nil rfl rfl, Delta.U_nil rfl]
theorem St.after_skip (st : St) (d : Option Nat) : st.after d { v := .tup [] } = ⟨putO st.S d (.tup []), st.H, st.U⟩ := by
  simp only [St.after]
  rw [Delta.H_nil rfl rfl, Delta.U_nil rfl]
theorem Step.swap {E : Env} {ops : Array Oper} {ck ci : Cls} {k i : Oper} {st s1 s2 : St} (wf : WF st) (h1 : Step E ops ck k st s1) (h2 : Step E ops ci i s1 s2)
    (ha : k.apart ops i = true) (hf : ck.free ci = true) : ∃ s, Step E ops ci i st s ∧ Step E ops ck k s s2 := by
  obtain ⟨ha1, ha2, ha3⟩ := Oper.apart_spec ha
  cases h1 with
  | exec hgk hdk vk hk δk mk =>
    have e1 : guardV ops (st.after k.dst δk).S i = guardV ops st.S i := guardV_put ha1
    cases h2 with
    | exec hgi hdi vi hi δi mi =>
      rw [e1] at hgi
      obtain ⟨m1, m2, e⟩ := mk.ahead wf mi ha hf
      rw [e]
      exact ⟨_, .exec hgi hdi vi hi δi m1, .exec ((guardV_put ha3).trans hgk) hdk vk hk δk m2⟩
    | skip hgi hdi =>
      rw [e1] at hgi
      refine ⟨_, .skip hgi hdi, ?_⟩
      have hv : evls (putO st.S i.dst (AV.tup [])) k.op.operands.toList = some vk := by
        rw [evls_put fun t e => not_operand (ha3 t e)]; exact mk.vals
      have m2 : Move E ck k (st.after i.dst { v := .tup [] }) vk hk δk := by
        rw [St.after_skip]
        exact { mk with vals := hv }
      have e : (st.after k.dst δk).after i.dst { v := .tup [] } = (st.after i.dst { v := .tup [] }).after k.dst δk := by
        rw [St.after_skip, St.after_skip]
        simp only [St.after]
        rw [putO_comm fun t h => ha2 t h]
      rw [e]
      exact .exec ((guardV_put ha3).trans hgk) hdk vk hk δk m2
  | skip hgk hdk =>
    rw [St.after_skip] at h2
    have e1 : guardV ops (putO st.S k.dst (.tup [])) i = guardV ops st.S i := guardV_put ha1
    cases h2 with
    | exec hgi hdi vi hi δi mi =>
      rw [e1] at hgi
      have hv : evls st.S i.op.operands.toList = some vi := by
        have := mi.vals
        simp only at this
        rwa [evls_put fun t e => not_operand (ha1 t e)] at this
      have m1 : Move E ci i st vi hi δi := { mi with vals := hv }
      refine ⟨_, .exec hgi hdi vi hi δi m1, ?_⟩
      have e : St.after ⟨putO st.S k.dst (.tup []), st.H, st.U⟩ i.dst δi = (st.after i.dst δi).after k.dst { v := .tup [] } := by
        rw [St.after_skip]
        simp only [St.after]
        rw [putO_comm fun t h => ha2 t h]
      rw [e]
      exact .skip ((guardV_put ha3).trans hgk) hdk
    | skip hgi hdi =>
      rw [e1] at hgi
      refine ⟨_, .skip hgi hdi, ?_⟩
      have e : St.after ⟨putO st.S k.dst (.tup []), st.H, st.U⟩ i.dst { v := .tup [] } = (st.after i.dst { v := .tup [] }).after k.dst { v := .tup [] } := by
        rw [St.after_skip, St.after_skip, St.after_skip]
        simp only
        rw [putO_comm fun t h => ha2 t h]
      rw [e]
      exact .skip ((guardV_put ha3).trans hgk) hdk
inductive Run (E : Env) (ops : Array Oper) (cl : Oper → Cls) : List Nat → St → St → Prop where
  | nil (st : St) : Run E ops cl [] st st
  | cons {i : Nat} {rest : List Nat} {o : Oper} {st s s' : St} (ho : ops[i]? = some o) (h : Step E ops (cl o) o st s) (hr : Run E ops cl rest s s') : Run E ops cl (i :: rest) st s'
/-- May operation k be done behind operation i, though it stands ahead of it? -/
def freePair (ops : Array Oper) (cl : Oper → Cls) (k i : Nat) : Bool :=
  match ops[k]?, ops[i]? with
  | some ok, some oi => ok.apart ops oi && (cl ok).free (cl oi)
  | _, _ => false
theorem Run.front {E : Env} {ops : Array Oper} {cl : Oper → Cls} {i : Nat} {post : List Nat} : ∀ {pre : List Nat} {st s2 : St}, WF st → Run E ops cl (pre ++ i :: post) st s2 → (∀ k ∈ pre, freePair ops cl k i = true) →
    ∃ o s, ops[i]? = some o ∧ Step E ops (cl o) o st s ∧ Run E ops cl (pre ++ post) s s2
  | [], st, s2, wf, h, _ => by
    cases h with
    | cons ho hs hr => exact ⟨_, _, ho, hs, hr⟩
  | k :: pre, st, s2, wf, h, hf => by
    cases h with
    | cons hok hs hr =>
      obtain ⟨o, s, ho, h1, h2⟩ := Run.front (hs.wf wf) hr fun j hj => hf j (List.mem_cons_of_mem _ hj)
      have hp := hf k (List.mem_cons_self ..)
      simp only [freePair, hok, ho, Bool.and_eq_true] at hp
      obtain ⟨s', h3, h4⟩ := Step.swap wf hs h1 hp.1 hp.2
      exact ⟨o, s', ho, h3, .cons hok h4 h2⟩
theorem SR.put {E : Env} {ι : Nat → Option (Nat × Nat)} {imm : Nat → Prop} {st : St} {a : Act} {w : World} (h : SR E ι imm st a w) (d : Option Nat) (hd : ∀ t, d = some t → t < E.n) {v : AV} {u : Value} (hv : VH ι imm w v u) :
    SR E ι imm ⟨putO st.S d v, st.H, st.U⟩ (a.put d u) w := by
  cases d with
  | none => exact { h with }
  | some d =>
    refine { h with defers := h.defers, size := by simp [Act.put, h.size], slot := fun t x hx => ?_ }
    simp only [putO] at hx
    have hlt : d < a.tmps.size := by rw [h.size]; exact hd d rfl
    simp only [Act.put]
    split at hx
    · rename_i he
      subst he
      obtain rfl := Option.some.inj hx
      simpa [Array.getD_eq_getD_getElem?, Array.getElem?_setIfInBounds, hlt] using hv
    · rename_i hne
      have := h.slot t x hx
      have e : (a.tmps.setIfInBounds d u).getD t undef = a.tmps.getD t undef := by
        simp only [Array.getD_eq_getD_getElem?, Array.getElem?_setIfInBounds, if_neg (Ne.symm hne)]
      rw [e]; exact this
theorem getD_some {l : Array Value} {t : Nat} {v : Value} (h : l.getD t undef = v) (hv : v ≠ undef) : l[t]? = some v := by
  rw [Array.getD_eq_getD_getElem?] at h
  cases hl : l[t]? with
  | none => rw [hl] at h; exact absurd h.symm hv
  | some x => rw [hl] at h; simpa using h
theorem SR.guard {E : Env} {ops : Array Oper} {ι : Nat → Option (Nat × Nat)} {imm : Nat → Prop} {st : St} {a : Act} {w : World} (h : SR E ι imm st a w) {o : Oper} {b : Bool} (hg : guardV ops st.S o = some b) :
    Region.wanted o (yielded ops a.tmps) = b := by
  unfold guardV at hg
  unfold Region.wanted
  split at hg
  · rename_i e; rw [e]; simpa using hg
  · rename_i j want e
    rw [e]
    split at hg
    · rename_i x hx
      obtain rfl := Option.some.inj hg
      unfold yielded
      cases hj : (ops[j]?).bind (·.dst) with
      | none => rw [hj] at hx; cases hx
      | some t =>
        rw [hj] at hx
        have hv := h.slot t _ hx
        simp only [VH, PH] at hv
        have : a.tmps[t]? = some (.bool x) := getD_some hv.1 (by simp [undef])
        simp only [hj, Option.bind_some, this]
        cases x <;> cases want <;> rfl
    · rename_i hx
      obtain rfl := Option.some.inj hg
      unfold yielded
      cases hj : (ops[j]?).bind (·.dst) with
      | none => rw [hj] at hx; cases hx
      | some t =>
        rw [hj] at hx
        have hv := h.slot t _ hx
        simp only [VH, VHs] at hv
        obtain ⟨us, hv, rfl⟩ := hv
        simp only [hj, Option.bind_some]
        have hv' : a.tmps.getD t undef = undef := hv
        rw [Array.getD_eq_getD_getElem?] at hv'
        cases hq : a.tmps[t]? with
        | none => cases want <;> rfl
        | some y =>
          rw [hq] at hv'
          simp only [Option.getD_some] at hv'
          subst hv'
          cases want <;> rfl
    · cases hg
/-- The state is as told, somehow. -/
def At (E : Env) (st : St) (a : Act) (w : World) : Prop := ∃ ι imm, SR E ι imm st a w
theorem Step.wpOp {E : Env} {ops : Array Oper} {c : Cls} {o : Oper} {st s : St} {a : Act} {w : World} {i : Nat} {Q : Exit → Act → World → Prop} (ho : ops[i]? = some o) (h : Step E ops c o st s) (hs : At E st a w) :
    wpOp E.P ops Q i (At E s) a w := by
  obtain ⟨ι, imm, hs⟩ := hs
  unfold Go.wpOp
  simp only [ho]
  cases h with
  | exec hg hd vs hs' δ m =>
    rw [if_pos (hs.guard hg)]
    exact .inl (m.does ι imm st a w Q hs m.vals m.deps m.fresh)
  | skip hg hd =>
    have := hs.guard hg
    rw [if_neg (by simp [this])]
    rw [St.after_skip]
    exact ⟨ι, imm, hs.put o.dst hd ⟨[], rfl, rfl⟩⟩
theorem run_wpOps {E : Env} {ops : Array Oper} {cl : Oper → Cls} {Q : Exit → Act → World → Prop} : ∀ {l : List Nat} {st s : St} {a : Act} {w : World}, Run E ops cl l st s → At E st a w → (∀ a w, At E s a w → Q .normal a w) →
    wpOps E.P ops Q l a w
  | [], st, s, a, w, h, hs, hq => by cases h; exact hq a w hs
  | i :: l, st, s, a, w, h, hs, hq => by
    cases h with
    | cons ho h1 h2 =>
      rw [wpOps_cons]
      exact wpOp_mono (fun a w h => run_wpOps h2 h hq) (h1.wpOp ho hs)
/-- What each operation waits for, as bits. -/
def befOf (B : List Nat) (o : Oper) : Nat := o.after.toList.foldl (fun s e => if Region.binds .any e then s ||| 2 ^ e.on ||| B.getD e.on 0 else s) 0
def befs : List Oper → List Nat → List Nat
  | [], B => B
  | o :: l, B => befs l (B ++ [befOf B o])
/-- A region whose order is drawn, and in which the order does not matter. -/
def okDrawn (ops : Array Oper) (cl : Oper → Cls) (B : List Nat) : Bool :=
  (List.range ops.size).all fun i => match ops[i]? with
    | none => false
    | some o => (o.after.toList.all fun e => !Region.binds .any e || decide (e.on < i)) && (B.getD i 0 == befOf B o) &&
      (List.range i).all fun k => (B.getD i 0).testBit k || freePair ops cl k i
theorem befOf_bit {B : List Nat} {o : Oper} {k : Nat} (h : (befOf B o).testBit k = true) : ∃ e ∈ o.after.toList, Region.binds .any e = true ∧ (e.on = k ∨ (B.getD e.on 0).testBit k = true) := by
  have key : ∀ (l : List Edge) (s : Nat), (l.foldl (fun s e => if Region.binds .any e then s ||| 2 ^ e.on ||| B.getD e.on 0 else s) s).testBit k = true →
      s.testBit k = true ∨ ∃ e ∈ l, Region.binds .any e = true ∧ (e.on = k ∨ (B.getD e.on 0).testBit k = true) := by
    intro l
    induction l with
    | nil => intro s h; exact .inl h
    | cons e l ih =>
      intro s h
      simp only [List.foldl_cons] at h
      rcases ih _ h with h | ⟨e', he, hb, hx⟩
      · by_cases hb : Region.binds .any e = true
        · rw [if_pos hb] at h
          simp only [Nat.testBit_or, Bool.or_eq_true, Nat.testBit_two_pow, decide_eq_true_eq] at h
          rcases h with (h | h) | h
          · exact .inl h
          · exact .inr ⟨e, List.mem_cons_self .., hb, .inl h⟩
          · exact .inr ⟨e, List.mem_cons_self .., hb, .inr h⟩
        · rw [if_neg hb] at h; exact .inl h
      · exact .inr ⟨e', List.mem_cons_of_mem _ he, hb, hx⟩
  rcases key _ _ h with h | h
  · simp at h
  · exact h
theorem run_wpAny {E : Env} {ops : Array Oper} {cl : Oper → Cls} {B : List Nat} {Q : Exit → Act → World → Prop} (hok : okDrawn ops cl B = true) {sn : St} (hq : ∀ a w, At E sn a w → Q .normal a w) :
    ∀ (fuel : Nat) (listed : Array Bool) (rem : List Nat) (st : St) (a : Act) (w : World), listed.size = ops.size → rem.length ≤ fuel → rem.Pairwise (· < ·) → (∀ i, i ∈ rem ↔ i < ops.size ∧ listed.getD i true = false) →
      (∀ i, i < ops.size → listed.getD i true = true → ∀ k, (B.getD i 0).testBit k = true → listed.getD k true = true) → Run E ops cl rem st sn → At E st a w → wpAny E.P .any ops Q fuel listed a w := by
  have hokI : ∀ i, i < ops.size → ∃ o, ops[i]? = some o ∧ (∀ e ∈ o.after.toList, Region.binds .any e = true → e.on < i) ∧ B.getD i 0 = befOf B o ∧ ∀ k, k < i → (B.getD i 0).testBit k = true ∨ freePair ops cl k i = true := by
    intro i hi
    have h := List.all_eq_true.1 hok i (List.mem_range.2 hi)
    split at h
    · cases h
    · rename_i o ho
      simp only [Bool.and_eq_true, beq_iff_eq] at h
      obtain ⟨⟨h1, h2⟩, h3⟩ := h
      refine ⟨o, ho, fun e he hb => ?_, h2, fun k hk => ?_⟩
      · have := List.all_eq_true.1 h1 e he
        simpa [hb] using this
      · have := List.all_eq_true.1 h3 k (List.mem_range.2 hk)
        simpa using this
  intro fuel
  induction fuel with
  | zero =>
    intro listed rem st a w hsz hlen hpw hrem hcl hrun hat
    obtain rfl : rem = [] := List.eq_nil_of_length_eq_zero (by omega)
    cases hrun
    refine ⟨?_, hq a w hat⟩
    apply List.eq_nil_iff_forall_not_mem.2
    intro i hi
    have := mem_ready.1 hi
    have hm := (hrem i).2 (by
      refine ⟨?_, ?_⟩
      · simp only [Region.ready, List.mem_filter, List.mem_range] at hi; exact hi.1
      · simp only [Region.ready, List.mem_filter, List.mem_range, Bool.and_eq_true, Bool.not_eq_true'] at hi; exact hi.2.1)
    cases hm
  | succ fuel ih =>
    intro listed rem st a w hsz hlen hpw hrem hcl hrun hat
    have hready : ∀ i, i ∈ Region.ready .any ops listed ↔ i < ops.size ∧ listed.getD i true = false ∧ ∀ o, ops[i]? = some o → ∀ e ∈ o.after.toList, Region.binds .any e = true → listed.getD e.on false = true := by
      intro i
      simp only [Region.ready, List.mem_filter, List.mem_range, Bool.and_eq_true, Bool.not_eq_true']
      constructor
      · rintro ⟨h1, h2, h3⟩
        refine ⟨h1, h2, fun o ho e he hb => ?_⟩
        simp only [ho, Option.map_some, Option.getD_some] at h3
        have := (Array.all_eq_true'.1 h3) e (Array.mem_toList_iff.1 he)
        simpa [hb] using this
      · rintro ⟨h1, h2, h3⟩
        refine ⟨h1, h2, ?_⟩
        have ho : ops[i]? = some ops[i] := Array.getElem?_eq_getElem h1
        simp only [ho, Option.map_some, Option.getD_some]
        refine Array.all_eq_true'.2 fun e he => ?_
        cases hb : Region.binds .any e with
        | false => rfl
        | true => simpa [hb] using h3 _ ho e (Array.mem_toList_iff.2 he) hb
    refine ⟨fun hnil => ?_, fun i hi => ?_⟩
    · -- none is ready: all are done
      cases rem with
      | nil => cases hrun; exact hq a w hat
      | cons j rem =>
        exfalso
        have hj := (hrem j).1 (List.mem_cons_self ..)
        obtain ⟨o, ho, he, _, _⟩ := hokI j hj.1
        have : j ∈ Region.ready .any ops listed := (hready j).2 ⟨hj.1, hj.2, fun o' ho' e hee hb => by
          obtain rfl : o = o' := Option.some.inj (ho.symm.trans ho')
          have hlt := he e hee hb
          cases hl : listed.getD e.on true with
          | true =>
            have : e.on < listed.size := by omega
            simpa [Array.getD_eq_getD_getElem?, Array.getElem?_eq_getElem this] using hl
          | false =>
            have hm := (hrem e.on).2 ⟨by omega, hl⟩
            cases hm with
            | head => omega
            | tail _ hm => have := (List.pairwise_cons.1 hpw).1 _ hm; omega⟩
        rw [hnil] at this
        cases this
    · obtain ⟨hi1, hi2, hi3⟩ := (hready i).1 hi
      have him := (hrem i).2 ⟨hi1, hi2⟩
      obtain ⟨pre, post, rfl⟩ := List.append_of_mem him
      obtain ⟨o, ho, he, hB, hfree⟩ := hokI i hi1
      have hpre : ∀ k ∈ pre, k < i := fun k hk => (List.pairwise_append.1 hpw).2.2 k hk i (List.mem_cons_self ..)
      have bits : ∀ k, (B.getD i 0).testBit k = true → listed.getD k true = true := by
        intro k hk
        rw [hB] at hk
        obtain ⟨e, hee, hb, hx⟩ := befOf_bit hk
        have hl := hi3 o ho e hee hb
        have hlt := he e hee hb
        have hl' : listed.getD e.on true = true := by
          have : e.on < listed.size := by omega
          simpa [Array.getD_eq_getD_getElem?, Array.getElem?_eq_getElem this] using hl
        rcases hx with rfl | hx
        · exact hl'
        · exact hcl e.on (by omega) hl' k hx
      have hfp : ∀ k ∈ pre, freePair ops cl k i = true := fun k hk => by
        rcases hfree k (hpre k hk) with h | h
        · have h1 := bits k h
          have h2 := ((hrem k).1 (List.mem_append_left _ hk)).2
          rw [h1] at h2; cases h2
        · exact h
      obtain ⟨ι, imm, hsr⟩ := hat
      obtain ⟨o', s, ho', hstep, hrun'⟩ := hrun.front hsr.wf hfp
      have hget : ∀ k, (listed.setIfInBounds i true).getD k true = (if k = i then true else listed.getD k true) := fun k => by
        simp only [Array.getD_eq_getD_getElem?, Array.getElem?_setIfInBounds]
        by_cases hki : k = i
        · subst hki; rw [if_pos rfl, if_pos rfl, if_pos (by omega)]; rfl
        · rw [if_neg hki, if_neg (Ne.symm hki)]
      refine wpOp_mono (fun a' w' hat' => ih _ (pre ++ post) s a' w' (by simp [hsz]) ?_ ?_ ?_ ?_ hrun' hat') (hstep.wpOp ho' ⟨ι, imm, hsr⟩)
      · simp only [List.length_append, List.length_cons] at hlen ⊢; omega
      · exact hpw.sublist (by simp)
      · intro k
        have hk := hrem k
        rw [hget k]
        by_cases hki : k = i
        · subst hki
          simp only [if_true]
          constructor
          · intro hm
            exfalso
            rcases List.mem_append.1 hm with h | h
            · exact Nat.lt_irrefl _ (hpre k h)
            · have := (List.pairwise_cons.1 (List.pairwise_append.1 hpw).2.1).1 k h
              exact Nat.lt_irrefl _ this
          · rintro ⟨_, h⟩; cases h
        · rw [if_neg hki, ← hk]
          simp only [List.mem_append, List.mem_cons]
          constructor
          · rintro (h | h)
            · exact .inl h
            · exact .inr (.inr h)
          · rintro (h | h | h)
            · exact .inl h
            · exact absurd h hki
            · exact .inr h
      · intro j hj hl k hk
        rw [hget] at hl ⊢
        by_cases hki : k = i
        · rw [if_pos hki]
        · rw [if_neg hki]
          by_cases hji : j = i
          · subst hji; exact bits k hk
          · rw [if_neg hji] at hl; exact hcl j hj hl k hk
theorem At.drew {E : Env} {st : St} {a : Act} {w : World} (h : At E st a w) : At E st a { w with drawn := w.drawn + 1 } := by
  obtain ⟨ι, imm, h⟩ := h
  have g : Grows ι ι imm imm w { w with drawn := w.drawn + 1 } := ⟨fun _ _ h => h, ⟨fun _ h => h, fun _ _ => rfl⟩, fun _ c _ f h => ⟨c, f, h, rfl⟩⟩
  refine ⟨ι, imm, h.defers, h.size, fun t v hv => VH.grows g v _ (h.slot t v hv), ⟨fun b k hk => ?_, h.heap.inj⟩, h.used, h.grow.trans g, ⟨h.ext.os, h.ext.tape, h.ext.output, h.ext.size, h.ext.block, Nat.le_trans h.ext.drawn (Nat.le_succ _)⟩, h.immM, h.immlt⟩
  obtain ⟨r, z, h1, h2, h3, h4⟩ := h.heap.blk b k hk
  refine ⟨r, z, h1, h2, h3, ?_⟩
  have hc : ∀ c (cs : List AV) (o : Nat), CellsH ι imm w c cs o → CellsH ι imm { w with drawn := w.drawn + 1 } c cs o := by
    intro c cs
    induction cs with
    | nil => intro o _; trivial
    | cons x xs ih => intro o hx; obtain ⟨⟨v, h1, h2⟩, h3⟩ := hx; exact ⟨⟨v, h1, VH.grows g x v h2⟩, ih _ h3⟩
  have he : ∀ (xs : List (AV × AV)) es, EntsH ι imm w xs es → EntsH ι imm { w with drawn := w.drawn + 1 } xs es := by
    intro xs
    induction xs with
    | nil => intro es h; exact h
    | cons x xs ih => intro es hx; obtain ⟨e, us, h1, h2, h3, h4⟩ := hx; exact ⟨e, us, h1, VH.grows g _ _ h2, VH.grows g _ _ h3, ih _ h4⟩
  cases k with
  | cells cs => obtain ⟨c, e, f, q1, q2, q3, q4⟩ := h4; exact ⟨c, e, f, q1, q2, q3, hc _ _ _ q4⟩
  | map es => obtain ⟨c, q, l, q1, q2, q3, q4, q5⟩ := h4; exact ⟨c, q, l, q1, q2, q3, he _ _ q4, q5⟩
  | mapx es _ => obtain ⟨c, q1, q2, q3, q4⟩ := h4; exact ⟨c, q1, q2, he _ _ q3, q4⟩
  | iter b since seen c0 => exact h4
  | siter s pos => exact h4
/-- A region that is done in the text's order. -/
theorem wp_region_run {E : Env} {id : Nat} {ops : Array Oper} {cl : Oper → Cls} {Q : Exit → Act → World → Prop} {st s : St} {a : Act} {w : World} (h : Run E ops cl (List.range ops.size) st s) (hs : At E st a w)
    (hq : ∀ a w, At E s a w → Q .normal a w) : (Code.region id ops false).wp E.P Q a w :=
  wp_region (run_wpOps h hs hq)
/-- A region that draws its order. -/
theorem wp_region_drawn {E : Env} {id : Nat} {ops : Array Oper} {cl : Oper → Cls} {B : List Nat} {Q : Exit → Act → World → Prop} {st s : St} {a : Act} {w : World} (hm : E.P.follows .mixedOrders = true)
    (hok : okDrawn ops cl B = true) (h : Run E ops cl (List.range ops.size) st s) (hs : At E st a w) (hq : ∀ a w, At E s a w → Q .normal a w) : (Code.region id ops true).wp E.P Q a w := by
  refine wp_region_any hm (run_wpAny hok hq ops.size _ (List.range ops.size) st a _ (by simp) (by simp) List.pairwise_lt_range ?_ ?_ h hs.drew)
  · intro i
    simp only [List.mem_range]
    constructor
    · intro hi; exact ⟨hi, by simp [Array.getD_eq_getD_getElem?, hi]⟩
    · exact fun h => h.1
  · intro i hi hl
    simp [Array.getD_eq_getD_getElem?, hi] at hl
end Go.Am
namespace Go.Am
/-- What is known of a type. -/
structure TyRow where
  desc : TypeDesc
  size : Nat
  bytes : Nat
  zero : Value
  eq : Bool := false
abbrev Tab := List (Nat × TyRow)
def TabOk (P : Program) (T : Tab) : Prop :=
  ∀ t r, T.lookup t = some r → P.underlying t = some r.desc ∧ (∃ i, P.info? t = some i ∧ i.size = r.size ∧ i.bytes = r.bytes ∧ i.zero = some r.zero) ∧ (r.eq = true → P.stoodInHeld t = false ∧ P.eqGuardType P.depth t = false)
theorem TabOk.nil (P : Program) : TabOk P [] := fun _ _ h => by simp at h
theorem TabOk.cons {P : Program} {T : Tab} {t : Nat} {d : TypeDesc} {s b : Nat} {z : Value} {q : Bool} (h1 : P.underlying t = some d) (h2 : (P.info? t).map (fun i => (i.size, i.bytes, i.zero)) = some (s, b, some z)) (h3 : q = true → P.stoodInHeld t = false ∧ P.eqGuardType P.depth t = false) (h : TabOk P T) : TabOk P ((t, ⟨d, s, b, z, q⟩) :: T) := by
  intro u r hr
  simp only [List.lookup] at hr
  split at hr
  · rename_i he
    obtain rfl := eq_of_beq he
    obtain rfl := Option.some.inj hr
    refine ⟨h1, ?_, h3⟩
    cases hi : P.info? u with
    | none => rw [hi] at h2; simp at h2
    | some i =>
      rw [hi] at h2
      simp only [Option.map_some, Option.some.injEq, Prod.mk.injEq] at h2
      exact ⟨i, rfl, h2⟩
  · exact h u r hr
section runs
variable {P : Program} {T : Tab} {w : World}
theorem run_bind {α β : Type} (s : Sem α) (f : α → Sem β) : ∀ w, (s.bind f).run P w = match s.run P w with | .ok a w' => (f a).run P w' | .halt h w' => .halt h w' := by
  induction s with
  | pure a => intro w; rfl
  | load m a k ih =>
    intro w
    simp only [Sem.bind, Sem.run]
    split
    · exact ih _ _
    · split
      · exact ih _ _
      · rfl
  | store m a v k ih =>
    intro w
    cases v <;> simp only [Sem.bind, Sem.run] <;> (split <;> first | (split <;> first | rfl | exact ih _) | rfl)
  | new o k ih => intro w; exact ih _ _
  | shape r k ih => intro w; exact ih _ _
  | freeze a n k ih => intro w; exact ih _
  | frozen a k ih => intro w; exact ih _ _
  | getObj r k ih => intro w; simp only [Sem.bind, Sem.run]; split <;> first | rfl | exact ih _ _
  | setObj r o k ih => intro w; simp only [Sem.bind, Sem.run]; split <;> first | rfl | exact ih _
  | choose q k ih => intro w; simp only [Sem.bind, Sem.run]; split <;> exact ih _ _
  | sys c k ih => intro w; exact ih _ _
  | program k ih => intro w; exact ih _ _
  | mark m k ih => intro w; exact ih _
  | halt h => intro w; rfl
theorem run_bind' {α β : Type} (s : Sem α) (f : α → Sem β) (w : World) : (s >>= f).run P w = match s.run P w with | .ok a w' => (f a).run P w' | .halt h w' => .halt h w' := run_bind s f w
theorem run_pure' {α : Type} (a : α) (w : World) : (pure a : Sem α).run P w = .ok a w := rfl
theorem run_underlying {t : Nat} {r : TyRow} (hT : TabOk P T) (h : T.lookup t = some r) (w : World) : (underlying t).run P w = .ok r.desc w := by
  obtain ⟨h1, _⟩ := hT t r h
  simp only [underlying, program, run_bind', Sem.run, h1, run_pure']
theorem run_typeInfo {t : Nat} {r : TyRow} (hT : TabOk P T) (h : T.lookup t = some r) (w : World) : ∃ i, (typeInfo t).run P w = .ok i w ∧ i.size = r.size ∧ i.bytes = r.bytes ∧ i.zero = some r.zero := by
  obtain ⟨_, ⟨i, h1, h2⟩, _⟩ := hT t r h
  exact ⟨i, by simp only [typeInfo, program, run_bind', Sem.run, h1, run_pure'], h2⟩
theorem run_sizeOf {t : Nat} {r : TyRow} (hT : TabOk P T) (h : T.lookup t = some r) (w : World) : (sizeOf t).run P w = .ok r.size w := by
  obtain ⟨i, h1, h2, _⟩ := run_typeInfo hT h w
  simp only [Go.sizeOf, run_bind', h1, run_pure', h2]
theorem run_zeroValue {t : Nat} {r : TyRow} (hT : TabOk P T) (h : T.lookup t = some r) (w : World) : (zeroValue t).run P w = .ok r.zero w := by
  obtain ⟨i, h1, _, _, h4⟩ := run_typeInfo hT h w
  simp only [zeroValue, run_bind', h1, h4, run_pure']
/-- Is it a struct or an array? -/
def isAggD : TypeDesc → Bool
  | .struct _ | .array _ _ => true
  | _ => false
theorem run_isAgg {t : Nat} {r : TyRow} (hT : TabOk P T) (h : T.lookup t = some r) (w : World) : (isAgg t).run P w = .ok (isAggD r.desc) w := by
  simp only [isAgg, run_bind', run_underlying hT h]
  cases r.desc <;> rfl
end runs
theorem constCell_holds (ι : Nat → Option (Nat × Nat)) (imm : Nat → Prop) (w : World) (v : Value) : VH ι imm w (constCell v) v := by
  unfold constCell
  split
  · exact ⟨none, 0, rfl, Nat.le_refl _, fun _ => rfl, fun h => by simp at h, fun _ => ⟨rfl, rfl, rfl⟩, fun a h => by simp at h⟩
  all_goals simp [VH, PH, flatB]
theorem VHs_map_const (ι : Nat → Option (Nat × Nat)) (imm : Nat → Prop) (w : World) : ∀ (l : List Value), VHs ι imm w (l.map constCell) l
  | [] => rfl
  | v :: l => ⟨v, l, rfl, constCell_holds ι imm w v, VHs_map_const ι imm w l⟩
theorem constAV_holds (ι : Nat → Option (Nat × Nat)) (imm : Nat → Prop) (w : World) (v : Value) : VH ι imm w (constAV v) v := by
  unfold constAV
  split
  · rename_i c; exact ⟨c.toList, by simp, VHs_map_const ι imm w _⟩
  · exact constCell_holds ι imm w v
theorem SR.evl {E : Env} {ι : Nat → Option (Nat × Nat)} {imm : Nat → Prop} {st : St} {a : Act} {w : World} (h : SR E ι imm st a w) {x : Operand} {v : AV} (hx : evl st.S x = some v) : VH ι imm w v (a.eval x) := by
  cases x with
  | tmp t => exact h.slot t v hx
  | const c => simp only [Am.evl, Option.some.injEq] at hx; subst hx; exact constAV_holds ι imm w c
  | func f => simp only [Am.evl, Option.some.injEq] at hx; subst hx; exact ⟨[], [], rfl, rfl, rfl⟩
  | global g => simp [Am.evl] at hx
theorem SR.evls {E : Env} {ι : Nat → Option (Nat × Nat)} {imm : Nat → Prop} {st : St} {a : Act} {w : World} (h : SR E ι imm st a w) : ∀ {xs : List Operand} {vs : List AV}, evls st.S xs = some vs → VHs ι imm w vs (xs.map a.eval)
  | [], vs, hx => by simp only [Am.evls, Option.some.injEq] at hx; subst hx; rfl
  | x :: xs, vs, hx => by
    simp only [Am.evls] at hx
    split at hx
    · rename_i v us hv hus
      obtain rfl := Option.some.inj hx
      exact ⟨_, _, rfl, h.evl hv, SR.evls h hus⟩
    · cases hx
theorem VHs.one {ι : Nat → Option (Nat × Nat)} {imm : Nat → Prop} {w : World} {x : AV} {v : Value} (h : VHs ι imm w [x] [v]) : VH ι imm w x v := by
  obtain ⟨v', us, e, h1, _⟩ := h; simp only [List.cons.injEq] at e; rw [e.1]; exact h1
theorem VHs.two {ι : Nat → Option (Nat × Nat)} {imm : Nat → Prop} {w : World} {x y : AV} {u v : Value} (h : VHs ι imm w [x, y] [u, v]) : VH ι imm w x u ∧ VH ι imm w y v := by
  obtain ⟨v', us, e, h1, h2⟩ := h; simp only [List.cons.injEq] at e
  obtain ⟨rfl, rfl⟩ := e
  exact ⟨h1, h2.one⟩
theorem VHs.three {ι : Nat → Option (Nat × Nat)} {imm : Nat → Prop} {w : World} {x y z : AV} {u v t : Value} (h : VHs ι imm w [x, y, z] [u, v, t]) : VH ι imm w x u ∧ VH ι imm w y v ∧ VH ι imm w z t := by
  obtain ⟨v', us, e, h1, h2⟩ := h; simp only [List.cons.injEq] at e
  obtain ⟨rfl, rfl⟩ := e
  exact ⟨h1, h2.two⟩
/-- A value of no memory: the world stays. -/
theorem Does.value {E : Env} {o : Oper} {vs : List AV} {hs : List (Nat × Blk)} {x : AV} (hd : ∀ d, o.dst = some d → d < E.n)
    (h : ∀ ι imm st a w, SR E ι imm st a w → VHs ι imm w vs (o.op.operands.toList.map a.eval) → (∀ x ∈ hs, st.H x.1 = some x.2) → ∃ v, (execOp a.eval o).run E.P w = .ok (.value v) w ∧ VH ι imm w x v) : Does E o vs hs { v := x } := by
  intro ι imm st a w Q hs' hv hh _
  obtain ⟨v, h1, h2⟩ := h ι imm st a w hs' (hs'.evls hv) hh
  unfold Oper.wp
  rw [h1, Oper.upon_value, St.after_skip' ]
  exact ⟨ι, imm, hs'.put o.dst hd h2⟩
end Go.Am
namespace Go.Am
/-- The cells of a value. -/
def cellsOf : AV → Option (List AV)
  | .agg cs => some cs
  | .undef | .tup _ => none
  | x => some [x]
/-- `|`, `&`, `^`, `&^` of two numbers of a kind. -/
def bitI (op : BinOp) (k : IntKind) (x y : Int) : Int :=
  let a := BitVec.ofInt k.bits x
  let b := BitVec.ofInt k.bits y
  k.wrap (match op with
    | .and => (a &&& b).toNat
    | .or => (a ||| b).toNat
    | .xor => (a ^^^ b).toNat
    | _ => (a &&& ~~~b).toNat)
def shlI (k : IntKind) (x y : Int) : Int := k.wrap (x * 2 ^ (min y.toNat k.bits))
def shrI (k : IntKind) (x y : Int) : Int := x / 2 ^ (min y.toNat k.bits)
/-- Of two whole numbers of one kind: what must hold, and what comes out. -/
def intAV (op : BinOp) (k : IntKind) (x y : Int) : Option (Prop × AV) :=
  match op with
  | .add => some (True, .pv (.lit (.int k (k.wrap (x + y)))))
  | .sub => some (True, .pv (.lit (.int k (k.wrap (x - y)))))
  | .mul => some (True, .pv (.lit (.int k (k.wrap (x * y)))))
  | .quo => some (y ≠ 0, .pv (.lit (.int k (k.wrap (x.tdiv y)))))
  | .rem => some (y ≠ 0, .pv (.lit (.int k (x.tmod y))))
  | .and => some (True, .pv (.lit (.int k (bitI .and k x y))))
  | .or => some (True, .pv (.lit (.int k (bitI .or k x y))))
  | .xor => some (True, .pv (.lit (.int k (bitI .xor k x y))))
  | .andNot => some (True, .pv (.lit (.int k (bitI .andNot k x y))))
  | .eql => some (True, .pv (.lit (.bool (x == y))))
  | .neq => some (True, .pv (.lit (.bool (x != y))))
  | .lss => some (True, .pv (.lit (.bool (decide (x < y)))))
  | .leq => some (True, .pv (.lit (.bool (decide (x ≤ y)))))
  | .gtr => some (True, .pv (.lit (.bool (decide (x > y)))))
  | .geq => some (True, .pv (.lit (.bool (decide (x ≥ y)))))
  | _ => none
def strAV (op : BinOp) (x y : ByteArray) : Option (Prop × AV) :=
  match op with
  | .add => some (x.size + y.size ≤ 9223372036854775807, .pv (.lit (.string (x ++ y))))
  | .eql => some (True, .pv (.lit (.bool (x.toList == y.toList))))
  | .neq => some (True, .pv (.lit (.bool !(x.toList == y.toList))))
  | .lss => some (True, .pv (.lit (.bool (Op.bytesLess x.toList y.toList))))
  | .leq => some (True, .pv (.lit (.bool (Op.bytesLess x.toList y.toList || x.toList == y.toList))))
  | .gtr => some (True, .pv (.lit (.bool !(Op.bytesLess x.toList y.toList || x.toList == y.toList))))
  | .geq => some (True, .pv (.lit (.bool !(Op.bytesLess x.toList y.toList))))
  | _ => none
def binAV (op : BinOp) (d : TypeDesc) (x y : AV) : Option (Prop × AV) :=
  match op, x, y with
  | .shl, .pv (.lit (.int k a)), .pv (.lit (.int _ b)) => some (0 ≤ b, .pv (.lit (.int k (shlI k a b))))
  | .shr, .pv (.lit (.int k a)), .pv (.lit (.int _ b)) => some (0 ≤ b, .pv (.lit (.int k (shrI k a b))))
  | op, .pv (.lit (.int k a)), .pv (.lit (.int k' b)) => if k = k' then intAV op k a b else none
  | op, .pv (.lit (.string a)), .pv (.lit (.string b)) => strAV op a b
  | .eql, .pv (.lit (.bool a)), .pv (.lit (.bool b)) => match d with | .bool => some (True, .pv (.lit (.bool (a == b)))) | _ => none
  | .neq, .pv (.lit (.bool a)), .pv (.lit (.bool b)) => match d with | .bool => some (True, .pv (.lit (.bool !(a == b)))) | _ => none
  | _, _, _ => none
def unAV (op : UnOp) (x : AV) : Option AV :=
  match op, x with
  | .neg, .pv (.lit (.int k n)) => some (.pv (.lit (.int k (k.wrap (0 - n)))))
  | .xor, .pv (.lit (.int k n)) => some (.pv (.lit (.int k (bitI .xor k (if k.signed then -1 else k.max) n))))
  | .not, .pv (.lit (.bool b)) => some (.pv (.lit (.bool !b)))
  | _, _ => none
def pickAV (c : Bool) (x y : AV) : AV :=
  match x, y with
  | .pv (.lit (.bool a)), .pv (.lit (.bool b)) => .pv (.lit (.bool (bif c then a else b)))
  | .pv (.lit (.int k a)), .pv (.lit (.int k' b)) => if k = k' then .pv (.lit (.int k (bif c then a else b))) else bif c then .pv (.lit (.int k a)) else .pv (.lit (.int k' b))
  | x, y => bif c then x else y
section sound
variable {E : Env} {T : Tab}
theorem run_intAV {P : Program} {op : BinOp} {k : IntKind} {x y : Int} {p : Prop} {v : AV} (h : intAV op k x y = some (p, v)) (hp : p) (hop : op ≠ .shl) (hop' : op ≠ .shr) (t : TypeId) (w : World) :
    ∃ u, (binOp op t (.int k x) (.int k y)).run P w = .ok u w ∧ v = .pv (.lit u) ∧ flatB u = true := by
  cases op <;> simp only [intAV, Option.some.injEq, Prod.mk.injEq, reduceCtorEq] at h
  all_goals first | exact absurd rfl hop | exact absurd rfl hop' | skip
  all_goals obtain ⟨h1, rfl⟩ := h; subst h1
  all_goals simp only [binOp, ne_eq, not_true_eq_false, ↓reduceIte, Op.intArith, Op.intDiv, Op.intBits, Op.intCmp, bitI]
  all_goals first | exact ⟨_, rfl, rfl, rfl⟩ | (rw [if_neg hp]; exact ⟨_, rfl, rfl, rfl⟩)
theorem run_strAV {P : Program} {op : BinOp} {x y : ByteArray} {p : Prop} {v : AV} (h : strAV op x y = some (p, v)) (hp : p) (t : TypeId) (w : World) :
    ∃ u, (binOp op t (.string x) (.string y)).run P w = .ok u w ∧ v = .pv (.lit u) ∧ flatB u = true := by
  cases op <;> simp only [strAV, Option.some.injEq, Prod.mk.injEq, reduceCtorEq] at h
  all_goals obtain ⟨h1, rfl⟩ := h; subst h1
  all_goals simp only [binOp, Op.stringOp]
  all_goals first
    | exact ⟨_, rfl, rfl, rfl⟩
    | (rw [if_neg (by have : IntKind.i64.max = 9223372036854775807 := by decide
                      rw [this]; omega)]; exact ⟨_, rfl, rfl, rfl⟩)
theorem eqGuard_run {P : Program} {op : BinOp} {t : TypeId} {x y : Operand} {a b : Value} (w : World) (h1 : ∀ c, a ≠ .agg c) (h2 : a ≠ .nilIface) : (eqGuard op t x y a b).run P w = .ok () w := by
  cases a <;> first | exact absurd rfl (h1 _) | exact absurd rfl h2 | (cases op <;> rfl)
theorem run_equal_bool (hT : TabOk E.P T) {t : TypeId} {r : TyRow} (hr : T.lookup t = some r) (hd : r.desc = .bool) (a b : Bool) (w : World) : (Op.equal t (.bool a) (.bool b)).run E.P w = .ok (a == b) w := by
  obtain ⟨d, hdp⟩ : ∃ d, Op.maxDepth = d + 1 := ⟨_, rfl⟩
  unfold Op.equal
  rw [hdp]
  simp only [Op.equalIn, run_bind', run_underlying hT hr, hd, run_pure']
theorem does_binOp (hT : TabOk E.P T) {o : Oper} {op : BinOp} {t yt : TypeId} {x y : Operand} (ho : o.op = .binOp op t x y yt) (hd : ∀ d, o.dst = some d → d < E.n) {r : TyRow} (hr : T.lookup t = some r)
    {u v : AV} {p : Prop} {z : AV} (h : binAV op r.desc u v = some (p, z)) (hp : p) : Does E o [u, v] [] { v := z } := by
  refine Does.value hd fun ι imm st a w hs hv _ => ?_
  rw [ho] at hv
  simp only [Op.operands, List.map_cons, List.map_nil] at hv
  obtain ⟨h1, h2⟩ := hv.two
  have key : ∃ q, (do eqGuard op t x y (a.eval x) (a.eval y); binOp op t (a.eval x) (a.eval y) : Sem Value).run E.P w = .ok q w ∧ z = .pv (.lit q) ∧ flatB q = true := by
    unfold binAV at h
    split at h
    · simp only [VH, PH] at h1 h2
      obtain ⟨e1, _⟩ := h1; obtain ⟨e2, _⟩ := h2
      simp only [Option.some.injEq, Prod.mk.injEq] at h
      obtain ⟨rfl, rfl⟩ := h
      rw [e1, e2]
      simp only [run_bind', eqGuard_run w (P := E.P) (a := Value.int _ _) (by simp) (by simp), binOp, Op.shift]
      rw [if_neg (by omega)]
      exact ⟨_, rfl, rfl, rfl⟩
    · simp only [VH, PH] at h1 h2
      obtain ⟨e1, _⟩ := h1; obtain ⟨e2, _⟩ := h2
      simp only [Option.some.injEq, Prod.mk.injEq] at h
      obtain ⟨rfl, rfl⟩ := h
      rw [e1, e2]
      simp only [run_bind', eqGuard_run w (P := E.P) (a := Value.int _ _) (by simp) (by simp), binOp, Op.shift]
      rw [if_neg (by omega)]
      refine ⟨_, rfl, ?_, rfl⟩
      simp only [shrI]
      rw [Int.fdiv_eq_ediv_of_nonneg]
      exact Int.pow_nonneg (by decide)
    · rename_i k a1 k' b1 n1 n2
      simp only [VH, PH] at h1 h2
      obtain ⟨e1, _⟩ := h1; obtain ⟨e2, _⟩ := h2
      split at h
      · rename_i hk
        subst hk
        rw [e1, e2]
        obtain ⟨q, hq, hz⟩ := run_intAV h hp n1 n2 t w (P := E.P)
        exact ⟨q, by simp only [run_bind', eqGuard_run w (P := E.P) (a := Value.int _ _) (by simp) (by simp), hq], hz⟩
      · cases h
    · simp only [VH, PH] at h1 h2
      obtain ⟨e1, _⟩ := h1; obtain ⟨e2, _⟩ := h2
      rw [e1, e2]
      obtain ⟨q, hq, hz⟩ := run_strAV h hp t w (P := E.P)
      exact ⟨q, by simp only [run_bind', eqGuard_run w (P := E.P) (a := Value.string _) (by simp) (by simp), hq], hz⟩
    · simp only [VH, PH] at h1 h2
      obtain ⟨e1, _⟩ := h1; obtain ⟨e2, _⟩ := h2
      split at h
      · rename_i hdsc
        simp only [Option.some.injEq, Prod.mk.injEq] at h
        obtain ⟨rfl, rfl⟩ := h
        rw [e1, e2]
        refine ⟨_, ?_, rfl, rfl⟩
        rw [run_bind', eqGuard_run w (P := E.P) (a := Value.bool _) (by simp) (by simp)]
        show (do let q ← Op.equal t (.bool _) (.bool _); pure (Value.bool _) : Sem Value).run E.P w = _
        rw [run_bind', run_equal_bool hT hr hdsc]
        rfl
      · cases h
    · simp only [VH, PH] at h1 h2
      obtain ⟨e1, _⟩ := h1; obtain ⟨e2, _⟩ := h2
      split at h
      · rename_i hdsc
        simp only [Option.some.injEq, Prod.mk.injEq] at h
        obtain ⟨rfl, rfl⟩ := h
        rw [e1, e2]
        refine ⟨_, ?_, rfl, rfl⟩
        rw [run_bind', eqGuard_run w (P := E.P) (a := Value.bool _) (by simp) (by simp)]
        show (do let q ← Op.equal t (.bool _) (.bool _); pure (Value.bool _) : Sem Value).run E.P w = _
        rw [run_bind', run_equal_bool hT hr hdsc]
        rfl
      · cases h
    · cases h
  obtain ⟨q, hq, rfl, hf⟩ := key
  refine ⟨q, ?_, by simp [VH, PH, hf]⟩
  simp only [execOp, ho, run_bind', hq, run_pure']
theorem does_unOp {o : Oper} {op : UnOp} {t : TypeId} {x : Operand} (ho : o.op = .unOp op t x) (hd : ∀ d, o.dst = some d → d < E.n) {u z : AV} (h : unAV op u = some z) : Does E o [u] [] { v := z } := by
  refine Does.value hd fun ι imm st a w hs hv _ => ?_
  rw [ho] at hv
  simp only [Op.operands, List.map_cons, List.map_nil] at hv
  have h1 := hv.one
  unfold unAV at h
  split at h
  · simp only [VH, PH] at h1
    obtain rfl := Option.some.inj h
    rename_i k n
    refine ⟨.int k (k.wrap (0 - n)), ?_, ?_⟩
    · simp only [execOp, ho, h1.1, Op.unary, Op.intArith, run_bind', run_pure']
    · simp [VH, PH, flatB]
  · simp only [VH, PH] at h1
    obtain rfl := Option.some.inj h
    rename_i k n
    refine ⟨.int k (bitI .xor k (if k.signed then -1 else k.max) n), ?_, ?_⟩
    · simp only [execOp, ho, h1.1, Op.unary, Op.intBits, run_bind', run_pure', bitI]
    · simp [VH, PH, flatB]
  · simp only [VH, PH] at h1
    obtain rfl := Option.some.inj h
    rename_i b
    refine ⟨.bool (!b), ?_, ?_⟩
    · simp only [execOp, ho, h1.1, Op.unary, run_bind', run_pure']
    · simp [VH, PH, flatB]
  · cases h
theorem does_move {o : Oper} {x : Operand} (ho : o.op = .move x ∨ o.op = .assign x) (hd : ∀ d, o.dst = some d → d < E.n) {u : AV} : Does E o [u] [] { v := u } := by
  refine Does.value hd fun ι imm st a w hs hv _ => ?_
  rcases ho with ho | ho <;>
  · rw [ho] at hv
    simp only [Op.operands, List.map_cons, List.map_nil] at hv
    exact ⟨_, by simp only [execOp, ho, run_pure'], hv.one⟩
theorem pickAV_holds {ι : Nat → Option (Nat × Nat)} {imm : Nat → Prop} {w : World} {c : Bool} {x y : AV} {u v : Value} (h1 : VH ι imm w x u) (h2 : VH ι imm w y v) : VH ι imm w (pickAV c x y) (if c then u else v) := by
  unfold pickAV
  split
  · simp only [VH, PH] at h1 h2 ⊢
    cases c <;> simp [h1.1, h2.1, flatB]
  · split
    · rename_i hk
      subst hk
      simp only [VH, PH] at h1 h2 ⊢
      cases c <;> simp [h1.1, h2.1, flatB]
    · cases c <;> simpa using (by first | exact h1 | exact h2)
  · cases c <;> simpa using (by first | exact h1 | exact h2)
theorem does_pick {o : Oper} {c x y : Operand} (ho : o.op = .pick c x y) (hd : ∀ d, o.dst = some d → d < E.n) {b : Bool} {u v : AV} : Does E o [.pv (.lit (.bool b)), u, v] [] { v := pickAV b u v } := by
  refine Does.value hd fun ι imm st a w hs hv _ => ?_
  rw [ho] at hv
  simp only [Op.operands, List.map_cons, List.map_nil] at hv
  obtain ⟨h1, h2, h3⟩ := hv.three
  simp only [VH, PH] at h1
  refine ⟨_, ?_, pickAV_holds (c := b) h2 h3⟩
  simp only [execOp, ho, h1.1, asBool, run_bind', run_pure']
theorem does_convInt (hT : TabOk E.P T) {o : Oper} {src dst : TypeId} {x : Operand} (ho : o.op = .convert src dst x) (hd : ∀ d, o.dst = some d → d < E.n) {rs rd : TyRow} (h1 : T.lookup src = some rs) (h2 : T.lookup dst = some rd) {k k' : IntKind} (hk : rd.desc = .int k') {n : Int} :
    Does E o [.pv (.lit (.int k n))] [] { v := .pv (.lit (.int k' (k'.wrap n))) } := by
  refine Does.value hd fun ι imm st a w hs hv _ => ?_
  rw [ho] at hv
  simp only [Op.operands, List.map_cons, List.map_nil] at hv
  have h := hv.one
  simp only [VH, PH] at h
  refine ⟨.int k' (k'.wrap n), ?_, by simp [VH, PH, flatB]⟩
  simp only [execOp, ho, h.1, convert, run_bind', run_underlying hT h1, run_underlying hT h2, hk, Conv.intToInt, run_pure']
theorem does_convStr (hT : TabOk E.P T) {o : Oper} {src dst : TypeId} {x : Operand} (ho : o.op = .convert src dst x) (hd : ∀ d, o.dst = some d → d < E.n) {rs rd : TyRow} (h1 : T.lookup src = some rs) (h2 : T.lookup dst = some rd) (hk : rd.desc = .string) {s : ByteArray} :
    Does E o [.pv (.lit (.string s))] [] { v := .pv (.lit (.string s)) } := by
  refine Does.value hd fun ι imm st a w hs hv _ => ?_
  rw [ho] at hv
  simp only [Op.operands, List.map_cons, List.map_nil] at hv
  have h := hv.one
  simp only [VH, PH] at h
  refine ⟨.string s, ?_, by simp [VH, PH, flatB]⟩
  simp only [execOp, ho, h.1, convert, run_bind', run_underlying hT h1, run_underlying hT h2, hk, run_pure']
/-- A nil check of what is none. -/
def liveAV : AV → Bool
  | .ptr _ _ | .rp _ | .fn _ _ _ => true
  | _ => false
theorem does_nilCheck {o : Oper} {x : Operand} (ho : o.op = .nilCheck x) (hd : ∀ d, o.dst = some d → d < E.n) {u : AV} (hl : liveAV u = true) : Does E o [u] [] { v := u } := by
  refine Does.value hd fun ι imm st a w hs hv _ => ?_
  rw [ho] at hv
  simp only [Op.operands, List.map_cons, List.map_nil] at hv
  have h := hv.one
  refine ⟨a.eval x, ?_, h⟩
  cases u <;> simp only [liveAV, Bool.false_eq_true] at hl
  · simp only [VH] at h; obtain ⟨r, z, _, e⟩ := h; simp only [execOp, ho, e, run_pure']
  · simp only [VH] at h; obtain ⟨r, e, _⟩ := h; simp only [execOp, ho, e, run_pure']
  · simp only [VH] at h; obtain ⟨vs, us, e, _⟩ := h; simp only [execOp, ho, e, run_pure']
theorem VHs.get {ι : Nat → Option (Nat × Nat)} {imm : Nat → Prop} {w : World} : ∀ {xs : List AV} {vs : List Value}, VHs ι imm w xs vs → ∀ {i : Nat} {x : AV}, xs[i]? = some x → ∃ v, vs[i]? = some v ∧ VH ι imm w x v
  | [], _, _, i, x, hx => by simp at hx
  | y :: ys, vs, h, i, x, hx => by
    obtain ⟨v, us, rfl, h1, h2⟩ := h
    cases i with
    | zero => simp only [List.getElem?_cons_zero, Option.some.injEq] at hx; subst hx; exact ⟨v, by simp, h1⟩
    | succ i => simp only [List.getElem?_cons_succ] at hx ⊢; exact VHs.get h2 hx
theorem VHs.length {ι : Nat → Option (Nat × Nat)} {imm : Nat → Prop} {w : World} : ∀ {xs : List AV} {vs : List Value}, VHs ι imm w xs vs → vs.length = xs.length
  | [], _, h => by simp only [VHs] at h; subst h; rfl
  | y :: ys, vs, h => by obtain ⟨v, us, rfl, h1, h2⟩ := h; simp [VHs.length h2]
theorem does_extract {o : Oper} {x : Operand} {i : Nat} (ho : o.op = .extract x i) (hd : ∀ d, o.dst = some d → d < E.n) {us : List AV} {z : AV} (h : us[i]? = some z) : Does E o [.tup us] [] { v := z } := by
  refine Does.value hd fun ι imm st a w hs hv _ => ?_
  rw [ho] at hv
  simp only [Op.operands, List.map_cons, List.map_nil] at hv
  have h1 := hv.one
  simp only [VH] at h1
  obtain ⟨vs, e, h2⟩ := h1
  obtain ⟨v, h3, h4⟩ := h2.get h
  refine ⟨v, ?_, h4⟩
  simp only [execOp, ho, e, Instr.extract, run_bind', List.getElem?_toArray, h3, run_pure']
end sound
end Go.Am
namespace Go.Am
theorem add_none {r o i : Nat} : (⟨r, o, none⟩ : Addr).add i = ⟨r, o + i, none⟩ := by
  unfold Addr.add; split
  · rename_i h; subst h; rfl
  · rfl
theorem addr_eta {a : Addr} (h : a.spot = none) : a = ⟨a.block, a.off, none⟩ := by cases a; simp only at h; subst h; rfl
theorem SR.turn {E : Env} {ι ι' : Nat → Option (Nat × Nat)} {imm imm' : Nat → Prop} {st : St} {a : Act} {w w' : World} {H : Nat → Option Blk} {U : Nat → Bool} (h : SR E ι imm st a w) (g : Grows ι ι' imm imm' w w')
    (hos : w'.os = w.os) (htape : w'.tape = w.tape) (hout : w'.output = w.output) (hdr : w.drawn ≤ w'.drawn) (hsize : w.heap.size ≤ w'.heap.size) (hblk : ∀ k, k < w.heap.size → ¬ E.M k → w'.heap[k]? = w.heap[k]?)
    (hH : HR ι' imm' w' E.M H) (hU : ∀ b x, ι' b = some x → U b = true) (hi : ∀ k, imm' k → imm k ∨ E.M k) (hl : ∀ k, imm' k → k < w'.heap.size) : SR E ι' imm' ⟨st.S, H, U⟩ a w' where
  defers := h.defers
  size := h.size
  slot t v hv := VH.grows g v _ (h.slot t v hv)
  heap := hH
  used := hU
  grow := h.grow.trans g
  ext := ⟨hos.trans h.ext.os, htape.trans h.ext.tape, hout.trans h.ext.output, Nat.le_trans h.ext.size hsize, fun k hk hR => by
    rw [hblk k (Nat.lt_of_lt_of_le hk h.ext.size) (fun hM => hM.elim hR fun hle => Nat.not_lt.2 hle hk)]
    exact h.ext.block k hk hR, Nat.le_trans h.ext.drawn hdr⟩
  immM k hk := (hi k hk).elim (fun h1 => h.immM k h1) .inr
  immlt := hl
theorem CellsH.grows {ι ι' : Nat → Option (Nat × Nat)} {i j : Nat → Prop} {a b : World} (h : Grows ι ι' i j a b) {c : Array Value} : ∀ {cs : List AV} {o : Nat}, CellsH ι i a c cs o → CellsH ι' j b c cs o
  | [], _, _ => trivial
  | x :: xs, o, hx => by obtain ⟨⟨v, h1, h2⟩, h3⟩ := hx; exact ⟨⟨v, h1, VH.grows h x v h2⟩, CellsH.grows h h3⟩
theorem EntsH.grows {ι ι' : Nat → Option (Nat × Nat)} {i j : Nat → Prop} {a b : World} (h : Grows ι ι' i j a b) : ∀ {xs : List (AV × AV)} {es : List MapEntry}, EntsH ι i a xs es → EntsH ι' j b xs es
  | [], _, hx => hx
  | (k, x) :: xs, es, hx => by obtain ⟨e, us, h1, h2, h3, h4⟩ := hx; exact ⟨e, us, h1, VH.grows h _ _ h2, VH.grows h _ _ h3, EntsH.grows h h4⟩
theorem BlkH.grows {ι ι' : Nat → Option (Nat × Nat)} {i j : Nat → Prop} {a b : World} (h : Grows ι ι' i j a b) {r z : Nat} (hs : b.heap[r]? = a.heap[r]?) : ∀ {k : Blk}, BlkH ι i a r z k → BlkH ι' j b r z k
  | .cells cs, hk => by obtain ⟨c, e, f, h1, h2, h3, h4⟩ := hk; exact ⟨c, e, f, hs.trans h1, h2, h3, h4.grows h⟩
  | .map es, hk => by obtain ⟨c, q, l, h1, h2, h3, h4, h5⟩ := hk; exact ⟨c, q, l, h1, hs.trans h2, h3, h4.grows h, h5⟩
  | .mapx es _, hk => by obtain ⟨c, h1, h2, h3, h4⟩ := hk; exact ⟨c, h1, hs.trans h2, h3.grows h, h4⟩
  | .iter b _ _ _, hk => by obtain ⟨m, h1, h2, h3⟩ := hk; exact ⟨m, h1, h.ext _ _ h2, hs.trans h3⟩
  | .siter _ _, hk => ⟨hk.1, hs.trans hk.2⟩
/-- A new block holds this. -/
def NewH (ι : Nat → Option (Nat × Nat)) (imm : Nat → Prop) (w : World) (O : Obj) : Blk → Prop
  | .cells cs => ∃ (c : Array Value) (e : TypeId), O = Obj.cells c e (0, 0) ∧ cs.length ≤ c.size ∧ CellsH ι imm w c cs 0
  | .map es => ∃ q, O = Obj.map #[] q ∧ es = []
  | .mapx es q => O = Obj.map #[] q ∧ es = []
  | .iter b since seen c0 => ∃ m, ι b = some (m, 0) ∧ O = Obj.mapIter (some m) since (List.toArray seen) c0
  | .siter s pos => O = Obj.stringIter s pos
def World.push (w : World) (O : Obj) : World := { w with heap := w.heap.push O }
theorem SR.new {E : Env} {ι : Nat → Option (Nat × Nat)} {imm : Nat → Prop} {st : St} {a : Act} {w : World} (h : SR E ι imm st a w) {d : Nat} (hd : st.U d = false) {O : Obj} {k : Blk} (hk : NewH ι imm w O k) (v : AV) :
    ∃ ι', ι' d = some (w.heap.size, 0) ∧ Grows ι ι' imm imm w (World.push w O) ∧ SR E ι' imm ⟨st.S, (Delta.mk v [(d, k)] []).H st.H, (Delta.mk v [(d, k)] []).U st.U⟩ a (World.push w O) := by
  have hιd : ι d = none := by
    cases hi : ι d with
    | none => rfl
    | some x => rw [h.used d x hi] at hd; cases hd
  have hheap : ∀ q, q < w.heap.size → (World.push w O).heap[q]? = w.heap[q]? := fun q hq => by
    show (w.heap.push O)[q]? = _
    rw [Array.getElem?_push, if_neg (by omega)]
  have hnew : (World.push w O).heap[w.heap.size]? = some O := by
    show (w.heap.push O)[_]? = _
    rw [Array.getElem?_push, if_pos rfl]
  let ι' : Nat → Option (Nat × Nat) := fun b => if b = d then some (w.heap.size, 0) else ι b
  have hext : ∀ b x, ι b = some x → ι' b = some x := fun b x hx => by
    show (if b = d then _ else ι b) = _
    rw [if_neg (fun e => by rw [e, hιd] at hx; cases hx)]; exact hx
  have g : Grows ι ι' imm imm w (World.push w O) := ⟨hext, ⟨fun _ hk => hk, fun q hq => hheap q (h.immlt q hq)⟩, fun r c e f hr => by
    have hr' : r < w.heap.size := by
      rcases Nat.lt_or_ge r w.heap.size with h' | h'
      · exact h'
      · rw [Array.getElem?_eq_none h'] at hr; cases hr
    exact ⟨c, f, (hheap r hr').trans hr, rfl⟩⟩
  have hlt : ∀ b q r z, st.H b = some q → ι b = some (r, z) → r < w.heap.size := fun b q r z hb hi => by
    obtain ⟨r', z', h1, _, _, h4⟩ := h.heap.blk b q hb
    rw [hi] at h1
    simp only [Option.some.injEq, Prod.mk.injEq] at h1
    obtain ⟨rfl, rfl⟩ := h1
    have : ∃ x, w.heap[r]? = some x := by
      cases q with
      | cells cs => obtain ⟨c, e, f, h1, _⟩ := h4; exact ⟨_, h1⟩
      | map es => obtain ⟨c, q, _, _, h2, _⟩ := h4; exact ⟨_, h2⟩
      | mapx es q => obtain ⟨c, _, h2, _⟩ := h4; exact ⟨_, h2⟩
      | iter b since seen c0 => obtain ⟨m, _, _, h2⟩ := h4; exact ⟨_, h2⟩
      | siter s pos => exact ⟨_, h4.2⟩
    obtain ⟨x, hx⟩ := this
    rcases Nat.lt_or_ge r w.heap.size with h' | h'
    · exact h'
    · rw [Array.getElem?_eq_none h'] at hx; cases hx
  have hold : ∀ b q, (Delta.mk v [(d, k)] []).H st.H b = some q → (b = d ∧ q = k) ∨ (b ≠ d ∧ st.H b = some q) := fun b q hb => by
    simp only [Delta.H, List.lookup] at hb
    by_cases hbd : b = d
    · subst hbd; simp only [beq_self_eq_true] at hb; exact .inl ⟨rfl, (Option.some.inj hb).symm⟩
    · have : (b == d) = false := by simpa using hbd
      simp only [this] at hb; exact .inr ⟨hbd, hb⟩
  refine ⟨ι', by show (if d = d then _ else _) = _; rw [if_pos rfl], g, h.turn g rfl rfl rfl (Nat.le_refl _) (by show _ ≤ (w.heap.push O).size; simp) (fun q hq _ => hheap q hq) ⟨fun b q hb => ?_, fun b b' q q' r z z' hb hb' hi hi' => ?_⟩ (fun b x hx => ?_) (fun _ hk => .inl hk) (fun q hq => by show q < (w.heap.push O).size; have := h.immlt q hq; simp; omega)⟩
  · rcases hold b q hb with ⟨rfl, rfl⟩ | ⟨hne, hb⟩
    · refine ⟨w.heap.size, 0, by show (if b = b then _ else _) = _; rw [if_pos rfl], fun hi => Nat.lt_irrefl _ (h.immlt _ hi), .inr h.ext.size, ?_⟩
      cases q with
      | cells cs =>
        obtain ⟨c, e, rfl, h2, h3⟩ := hk
        exact ⟨c, e, (0, 0), hnew, by omega, fun o hh => Nat.not_lt_zero _ hh.2, h3.grows g⟩
      | map es =>
        obtain ⟨q, rfl, rfl⟩ := hk
        exact ⟨#[], q, [], rfl, hnew, .refl _, rfl, ⟨by simp, by simp⟩, ⟨by simp, by simp⟩⟩
      | mapx es q =>
        obtain ⟨rfl, rfl⟩ := hk
        exact ⟨#[], rfl, hnew, rfl, rfl, ⟨by simp [dropB], by simp [dropB]⟩, ⟨by simp, by simp⟩⟩
      | iter b since seen c0 =>
        obtain ⟨m, h1, rfl⟩ := hk
        exact ⟨m, rfl, hext _ _ h1, hnew⟩
      | siter s pos =>
        obtain rfl := hk
        exact ⟨rfl, hnew⟩
    · obtain ⟨r, z, h1, h2, h3, h4⟩ := h.heap.blk b q hb
      exact ⟨r, z, hext b _ h1, h2, h3, h4.grows g (hheap r (hlt b q r z hb h1))⟩
  · have key : ∀ b q r z, (Delta.mk v [(d, k)] []).H st.H b = some q → ι' b = some (r, z) → (b = d ∧ r = w.heap.size) ∨ (b ≠ d ∧ st.H b = some q ∧ ι b = some (r, z) ∧ r < w.heap.size) := fun b q r z hb hi => by
      rcases hold b q hb with ⟨rfl, rfl⟩ | ⟨hne, hb⟩
      · refine .inl ⟨rfl, ?_⟩
        have : ι' b = some (w.heap.size, 0) := by show (if b = b then _ else _) = _; rw [if_pos rfl]
        rw [this] at hi
        simp only [Option.some.injEq, Prod.mk.injEq] at hi
        exact hi.1.symm
      · have : ι' b = ι b := by show (if b = d then _ else ι b) = _; rw [if_neg hne]
        rw [this] at hi
        exact .inr ⟨hne, hb, hi, hlt b q r z hb hi⟩
    rcases key b q r z hb hi with ⟨h1, h2⟩ | ⟨h1, h2, h3, h4⟩ <;> rcases key b' q' r z' hb' hi' with ⟨k1, k2⟩ | ⟨k1, k2, k3, k4⟩
    · rw [h1, k1]
    · omega
    · omega
    · exact h.heap.inj b b' q q' r z z' h2 k2 h3 k3
  · simp only [Delta.U, List.lookup, Bool.or_eq_true]
    by_cases hbd : b = d
    · subst hbd; left; simp
    · right
      have : ι' b = ι b := by show (if b = d then _ else ι b) = _; rw [if_neg hbd]
      rw [this] at hx
      exact h.used b x hx
/-- An operation that makes one block. -/
theorem Does.alloc {E : Env} {o : Oper} {vs : List AV} {hs : List (Nat × Blk)} {v : AV} {d : Nat} {k : Blk} (hdst : o.dst = some d) (hd : d < E.n)
    (h : ∀ ι imm st a w, SR E ι imm st a w → VHs ι imm w vs (o.op.operands.toList.map a.eval) → (∀ x ∈ hs, st.H x.1 = some x.2) →
      ∃ O u, (execOp a.eval o).run E.P w = .ok (.value u) (World.push w O) ∧ NewH ι imm w O k ∧
        ∀ ι', ι' d = some (w.heap.size, 0) → VH ι' imm (World.push w O) v u) : Does E o vs hs { v := v, new := [(d, k)] } := by
  intro ι imm st a w Q hs' hv hh hf
  obtain ⟨O, u, h1, h2, h3⟩ := h ι imm st a w hs' (hs'.evls hv) hh
  obtain ⟨ι', h4, g, h5⟩ := hs'.new (hf (d, k) (List.mem_cons_self ..)) h2 v
  unfold Oper.wp
  rw [h1, Oper.upon_value]
  exact ⟨ι', imm, h5.put o.dst (fun t ht => by rw [hdst] at ht; exact Option.some.inj ht ▸ hd) (h3 ι' h4)⟩
/-- An operation that makes one block, whatever that is called. -/
def Makes (E : Env) (o : Oper) (vs : List AV) (hs : List (Nat × Blk)) (v : Nat → AV) (k : Blk) : Prop :=
  ∀ ι imm st a w, SR E ι imm st a w → VHs ι imm w vs (o.op.operands.toList.map a.eval) → (∀ x ∈ hs, st.H x.1 = some x.2) →
      ∃ O u, (execOp a.eval o).run E.P w = .ok (.value u) (World.push w O) ∧ NewH ι imm w O k ∧
        ∀ d ι', ι' d = some (w.heap.size, 0) → VH ι' imm (World.push w O) (v d) u
theorem Makes.does {E : Env} {o : Oper} {vs : List AV} {hs : List (Nat × Blk)} {v : Nat → AV} {k : Blk} (h : Makes E o vs hs v k) {d : Nat} (hdst : o.dst = some d) (hd : d < E.n) : Does E o vs hs { v := v d, new := [(d, k)] } :=
  Does.alloc hdst hd fun ι imm st a w hs hv hh => let ⟨O, u, h1, h2, h3⟩ := h ι imm st a w hs hv hh; ⟨O, u, h1, h2, h3 d⟩
theorem PHs.of_cells {ι : Nat → Option (Nat × Nat)} {i j : Nat → Prop} {w w' : World} {r : Nat} (g : Stays i j w w') {c : Array Value} (hc : ∀ o, w'.cell? ⟨r, o, none⟩ = c[o]?) : ∀ {ps : List PV} {o : Nat}, CellsH ι i w c (ps.map .pv) o → PHs j w' ps r o
  | [], _, _ => trivial
  | p :: ps, o, h => by
    simp only [List.map_cons, CellsH] at h
    obtain ⟨⟨v, h1, h2⟩, h3⟩ := h
    simp only [VH] at h2
    exact ⟨⟨v, (hc o).trans h1, PH.stays g _ _ h2⟩, PHs.of_cells g hc h3⟩
theorem CellsH.of_VHs {ι : Nat → Option (Nat × Nat)} {imm : Nat → Prop} {w : World} {c : Array Value} : ∀ {cs : List AV} {vs : List Value} {o : Nat}, VHs ι imm w cs vs → (∀ i, i < vs.length → c[o + i]? = vs[i]?) → CellsH ι imm w c cs o
  | [], _, _, _, _ => trivial
  | x :: xs, vs, o, h, hc => by
    obtain ⟨v, us, rfl, h1, h2⟩ := h
    refine ⟨⟨v, by simpa using hc 0 (by simp), h1⟩, CellsH.of_VHs h2 fun i hi => ?_⟩
    have := hc (i + 1) (by simpa using hi)
    rw [show o + 1 + i = o + (i + 1) by omega, this]; simp
theorem cellsOf_holds {ι : Nat → Option (Nat × Nat)} {imm : Nat → Prop} {w : World} {x : AV} {cs : List AV} {v : Value} (h : cellsOf x = some cs) (hv : VH ι imm w x v) (hag : ∀ c, x ≠ .pv (.lit (.agg c))) : VHs ι imm w cs v.cells.toList := by
  cases x with
  | undef => simp [cellsOf] at h
  | tup vs => simp [cellsOf] at h
  | agg xs =>
    simp only [cellsOf, Option.some.injEq] at h; subst h
    simp only [VH] at hv
    obtain ⟨vs, rfl, h2⟩ := hv
    simpa [Value.cells] using h2
  | pv p =>
    simp only [cellsOf, Option.some.injEq] at h; subst h
    have : v.cells = #[v] := by
      cases p with
      | lit y =>
        simp only [VH, PH] at hv
        obtain ⟨rfl, hf⟩ := hv
        cases v <;> first | rfl | simp [flatB] at hf
      | sl f n ps => simp only [VH, PH] at hv; obtain ⟨A, cap, rfl, _⟩ := hv; rfl
    rw [this]
    exact ⟨v, [], rfl, hv, rfl⟩
  | ptr b o =>
    simp only [cellsOf, Option.some.injEq] at h; subst h
    have hv' := hv
    simp only [VH] at hv; obtain ⟨r, z, _, rfl⟩ := hv
    exact ⟨_, [], rfl, hv', rfl⟩
  | sl b o n s t =>
    simp only [cellsOf, Option.some.injEq] at h; subst h
    have hv' := hv
    simp only [VH] at hv; obtain ⟨r, z, cap, _, rfl, _⟩ := hv
    exact ⟨_, [], rfl, hv', rfl⟩
  | slc b o n s c =>
    simp only [cellsOf, Option.some.injEq] at h; subst h
    have hv' := hv
    simp only [VH] at hv; obtain ⟨r, z, _, rfl, _⟩ := hv
    exact ⟨_, [], rfl, hv', rfl⟩
  | tsl n ps =>
    simp only [cellsOf, Option.some.injEq] at h; subst h
    have hv' := hv
    simp only [VH] at hv; obtain ⟨A, rfl, _⟩ := hv
    exact ⟨_, [], rfl, hv', rfl⟩
  | rp ps =>
    simp only [cellsOf, Option.some.injEq] at h; subst h
    have hv' := hv
    simp only [VH] at hv; obtain ⟨A, rfl, _⟩ := hv
    exact ⟨_, [], rfl, hv', rfl⟩
  | mp b =>
    simp only [cellsOf, Option.some.injEq] at h; subst h
    have hv' := hv
    simp only [VH] at hv; obtain ⟨r, z, _, rfl⟩ := hv
    exact ⟨_, [], rfl, hv', rfl⟩
  | fn f xs ys =>
    simp only [cellsOf, Option.some.injEq] at h; subst h
    have hv' := hv
    simp only [VH] at hv; obtain ⟨vs, us, rfl, _⟩ := hv
    exact ⟨_, [], rfl, hv', rfl⟩
section ops
variable {E : Env} {T : Tab}
theorem does_alloc (hT : TabOk E.P T) {o : Oper} {t : TypeId} (ho : o.op = .alloc t) {d : Nat} (hdst : o.dst = some d) (hd : d < E.n) {r : TyRow} (hr : T.lookup t = some r) :
    Does E o [] [] { v := .ptr d 0, new := [(d, .cells (r.zero.cells.toList.map constCell))] } := by
  refine Does.alloc hdst hd fun ι imm st a w hs hv _ => ⟨.cells r.zero.cells t, .pointer (some ⟨w.heap.size, 0, none⟩), ?_, ⟨_, _, rfl, by simp, ?_⟩, fun ι' h => ⟨_, _, h, rfl⟩⟩
  · simp only [execOp, ho, Instr.alloc, newVar, newRow, newObj, run_bind', run_zeroValue hT hr, Sem.run, run_pure']
    rfl
  · exact CellsH.of_VHs (VHs_map_const ι imm w _) fun i _ => by simp
theorem does_box {o : Oper} {t : TypeId} {x : Operand} (ho : o.op = .box t x) {d : Nat} (hdst : o.dst = some d) (hd : d < E.n) {u : AV} {cs : List AV} (hc : cellsOf u = some cs) :
    Does E o [u] [] { v := .ptr d 0, new := [(d, .cells cs)] } := by
  refine Does.alloc hdst hd fun ι imm st a w hs hv _ => ?_
  rw [ho] at hv
  simp only [Op.operands, List.map_cons, List.map_nil] at hv
  have hv := hv.one
  have hcs := cellsOf_holds hc hv (fun c e => by subst e; simp only [VH, PH] at hv; simp [flatB] at hv)
  refine ⟨.cells (a.eval x).cells t, .pointer (some ⟨w.heap.size, 0, none⟩), ?_, ⟨_, _, rfl, ?_, ?_⟩, fun ι' h => ⟨_, _, h, rfl⟩⟩
  · simp only [execOp, ho, Instr.box, newVar, newRow, newObj, run_bind', Sem.run, run_pure']
    rfl
  · have := hcs.length; simp only [Array.length_toList] at this; omega
  · exact CellsH.of_VHs hcs fun i _ => by simp
theorem run_loadCells {P : Program} {w : World} {r o : Nat} (vs : List Value) (h : ∀ i, i < vs.length → w.cell? ⟨r, o + i, none⟩ = vs[i]?) : (loadCells ⟨r, o, none⟩ vs.length).run P w = .ok vs.toArray w := by
  have key : ∀ (n i : Nat) (acc : Array Value), i + n = vs.length → acc = (vs.take i).toArray → (loadCellsFrom ⟨r, o, none⟩ i n acc).run P w = .ok vs.toArray w := by
    intro n
    induction n with
    | zero =>
      intro i acc hi hacc
      have : vs.take i = vs := List.take_of_length_le (by omega)
      rw [hacc, this]; rfl
    | succ n ih =>
      intro i acc hi hacc
      have hlt : i < vs.length := by omega
      have hc := h i hlt
      rw [List.getElem?_eq_getElem hlt] at hc
      simp only [loadCellsFrom, run_bind', load, Sem.run, add_none, hc]
      refine ih (i + 1) _ (by omega) ?_
      rw [hacc, List.take_succ_eq_append_getElem hlt]
      simp
  exact key vs.length 0 #[] (by omega) rfl
theorem CellsH.drop {ι : Nat → Option (Nat × Nat)} {imm : Nat → Prop} {w : World} {c : Array Value} : ∀ {k : Nat} {cs : List AV} {o : Nat}, CellsH ι imm w c cs o → CellsH ι imm w c (cs.drop k) (o + k)
  | 0, cs, o, h => h
  | k + 1, [], o, _ => trivial
  | k + 1, x :: xs, o, h => by
    have := CellsH.drop (k := k) h.2
    rw [show o + (k + 1) = o + 1 + k by omega]; exact this
/-- The values of cells. -/
theorem CellsH.vals {ι : Nat → Option (Nat × Nat)} {imm : Nat → Prop} {w : World} {c : Array Value} : ∀ {cs : List AV} {o : Nat}, CellsH ι imm w c cs o → ∃ vs, VHs ι imm w cs vs ∧ ∀ i, i < vs.length → c[o + i]? = vs[i]?
  | [], o, _ => ⟨[], rfl, fun i hi => by simp at hi⟩
  | x :: xs, o, h => by
    obtain ⟨⟨v, h1, h2⟩, h3⟩ := h
    obtain ⟨vs, h4, h5⟩ := CellsH.vals h3
    refine ⟨v :: vs, ⟨v, vs, rfl, h2, h4⟩, fun i hi => ?_⟩
    cases i with
    | zero => simpa using h1
    | succ i => rw [show o + (i + 1) = o + 1 + i by omega, h5 i (by simpa using hi)]; simp
theorem CellsH.take {ι : Nat → Option (Nat × Nat)} {imm : Nat → Prop} {w : World} {c : Array Value} : ∀ {k : Nat} {cs : List AV} {o : Nat}, CellsH ι imm w c cs o → CellsH ι imm w c (cs.take k) o
  | 0, cs, o, h => by simp [CellsH]
  | k + 1, [], o, _ => trivial
  | k + 1, x :: xs, o, h => ⟨h.1, CellsH.take h.2⟩
theorem PHs.vals {imm : Nat → Prop} {w : World} (ι : Nat → Option (Nat × Nat)) : ∀ {ps : List PV} {r o : Nat}, PHs imm w ps r o → ∃ vs, VHs ι imm w (ps.map .pv) vs ∧ ∀ i, i < vs.length → w.cell? ⟨r, o + i, none⟩ = vs[i]?
  | [], r, o, _ => ⟨[], rfl, fun i hi => by simp at hi⟩
  | x :: xs, r, o, h => by
    obtain ⟨⟨v, h1, h2⟩, h3⟩ := h
    obtain ⟨vs, h4, h5⟩ := PHs.vals ι h3
    refine ⟨v :: vs, ⟨v, vs, rfl, h2, h4⟩, fun i hi => ?_⟩
    cases i with
    | zero => simpa using h1
    | succ i => rw [show o + (i + 1) = o + 1 + i by omega, h5 i (by simpa using hi)]; simp
theorem PHs.drop {imm : Nat → Prop} {w : World} : ∀ {k : Nat} {ps : List PV} {r o : Nat}, PHs imm w ps r o → PHs imm w (ps.drop k) r (o + k)
  | 0, ps, r, o, h => h
  | k + 1, [], r, o, _ => trivial
  | k + 1, x :: xs, r, o, h => by
    have := PHs.drop (k := k) h.2
    rw [show o + (k + 1) = o + 1 + k by omega]; exact this
theorem PHs.take {imm : Nat → Prop} {w : World} : ∀ {k : Nat} {ps : List PV} {r o : Nat}, PHs imm w ps r o → PHs imm w (ps.take k) r o
  | 0, ps, r, o, _ => by simp [PHs]
  | k + 1, [], r, o, _ => trivial
  | k + 1, x :: xs, r, o, h => ⟨h.1, PHs.take h.2⟩
/-- What is read out of cells. -/
def readAV (r : TyRow) (cs : List AV) : Option AV :=
  if isAggD r.desc then (if r.size ≤ cs.length then some (.agg (cs.take r.size)) else none) else cs.head?
theorem run_loadVar {P : Program} {T : Tab} (hT : TabOk P T) {t : TypeId} {r : TyRow} (hr : T.lookup t = some r) {ι : Nat → Option (Nat × Nat)} {imm : Nat → Prop} {w : World} {b o : Nat} {cs : List AV} {x : AV} (hx : readAV r cs = some x)
    (hc : ∃ vs, VHs ι imm w cs vs ∧ ∀ i, i < vs.length → w.cell? ⟨b, o + i, none⟩ = vs[i]?) : ∃ u, (loadVar t ⟨b, o, none⟩).run P w = .ok u w ∧ VH ι imm w x u := by
  obtain ⟨vs, h1, h2⟩ := hc
  unfold readAV at hx
  simp only [loadVar, run_bind', run_isAgg hT hr]
  cases hb : isAggD r.desc with
  | true =>
    simp only [hb, if_true] at hx
    split at hx
    · rename_i hle
      obtain rfl := Option.some.inj hx
      have hlen := h1.length
      have htake : ∀ (k : Nat) {xs : List AV} {vs : List Value}, VHs ι imm w xs vs → VHs ι imm w (xs.take k) (vs.take k) := by
        intro k
        induction k with
        | zero => intro xs vs _; simp [VHs]
        | succ k ih =>
          intro xs vs h
          cases xs with
          | nil => simp only [VHs] at h; subst h; simp [VHs]
          | cons y ys => obtain ⟨v, us, rfl, q1, q2⟩ := h; exact ⟨v, us.take k, rfl, q1, ih q2⟩
      refine ⟨.agg (vs.take r.size).toArray, ?_, ⟨_, rfl, htake _ h1⟩⟩
      have hl : (vs.take r.size).length = r.size := by simp; omega
      have := run_loadCells (P := P) (w := w) (r := b) (o := o) (vs.take r.size) (fun i hi => by
        rw [h2 i (by simp at hi; omega), List.getElem?_take, if_pos (by omega)])
      rw [hl] at this
      simp only [if_true, run_bind', run_sizeOf hT hr, this, run_pure']
    · cases hx
  | false =>
    simp only [hb, Bool.false_eq_true, if_false] at hx
    cases cs with
    | nil => simp at hx
    | cons y ys =>
      simp only [List.head?_cons, Option.some.injEq] at hx; subst hx
      obtain ⟨v, us, rfl, q1, q2⟩ := h1
      refine ⟨v, ?_, q1⟩
      have := h2 0 (by simp)
      simp only [Nat.add_zero, List.getElem?_cons_zero] at this
      simp only [Bool.false_eq_true, if_false, load, Sem.run, this]
theorem HR.cells {ι : Nat → Option (Nat × Nat)} {imm : Nat → Prop} {w : World} {M : Nat → Prop} {H : Nat → Option Blk} (h : HR ι imm w M H) {b : Nat} {cs : List AV} (hb : H b = some (.cells cs)) {r z : Nat} (hi : ι b = some (r, z)) :
    ∃ (c : Array Value) (e : TypeId) (f : Nat × Nat), w.heap[r]? = some (Obj.cells c e f) ∧ z + cs.length ≤ c.size ∧ (∀ o, ¬ (f.1 ≤ o ∧ o < f.2)) ∧ CellsH ι imm w c cs z ∧ ¬ imm r ∧ M r := by
  obtain ⟨r', z', h1, h2, h3, c, e, f, h4, h5, h6, h7⟩ := h.blk b _ hb
  rw [hi] at h1
  simp only [Option.some.injEq, Prod.mk.injEq] at h1
  obtain ⟨rfl, rfl⟩ := h1
  exact ⟨c, e, f, h4, h5, h6, h7, h2, h3⟩
theorem cell_of_heap {w : World} {r : Nat} {c : Array Value} {e : TypeId} {f : Nat × Nat} (h : w.heap[r]? = some (Obj.cells c e f)) (o : Nat) : w.cell? ⟨r, o, none⟩ = c[o]? := by
  simp [World.cell?, h]
theorem does_loadOwn (hT : TabOk E.P T) {o : Oper} {t : TypeId} {x : Operand} (ho : o.op = .load t x) (hd : ∀ d, o.dst = some d → d < E.n) {r : TyRow} (hr : T.lookup t = some r) {b k : Nat} {cs : List AV} {z : AV} (hz : readAV r (cs.drop k) = some z) :
    Does E o [.ptr b k] [(b, .cells cs)] { v := z } := by
  refine Does.value hd fun ι imm st a w hs hv hh => ?_
  rw [ho] at hv
  simp only [Op.operands, List.map_cons, List.map_nil] at hv
  have hv := hv.one
  simp only [VH] at hv
  obtain ⟨q, z0, hi, he⟩ := hv
  obtain ⟨c, e, f, h1, h2, h3, h4, _⟩ := hs.heap.cells (hh _ (List.mem_cons_self ..)) hi
  obtain ⟨vs, h5, h6⟩ := (h4.drop (k := k)).vals
  obtain ⟨u, h7, h8⟩ := run_loadVar hT hr hz (ι := ι) (imm := imm) (w := w) (b := q) (o := z0 + k) ⟨vs, h5, fun i hi => by rw [cell_of_heap h1]; exact h6 i hi⟩
  exact ⟨u, by simp only [execOp, ho, he, Instr.loadAt, Instr.sureAddr, run_bind', run_pure', h7], h8⟩
theorem does_loadImm (hT : TabOk E.P T) {o : Oper} {t : TypeId} {x : Operand} (ho : o.op = .load t x) (hd : ∀ d, o.dst = some d → d < E.n) {r : TyRow} (hr : T.lookup t = some r) {ps : List PV} {z : AV} (hz : readAV r (ps.map .pv) = some z) (hne : ps ≠ []) :
    Does E o [.rp ps] [] { v := z } := by
  refine Does.value hd fun ι imm st a w hs hv hh => ?_
  rw [ho] at hv
  simp only [Op.operands, List.map_cons, List.map_nil] at hv
  have hv := hv.one
  simp only [VH] at hv
  obtain ⟨ad, he, hq⟩ := hv
  obtain ⟨h1, h2, h3⟩ := hq hne
  obtain ⟨u, h7, h8⟩ := run_loadVar hT hr hz (ι := ι) (imm := imm) (w := w) (b := ad.block) (o := ad.off) (h3.vals ι)
  rw [← addr_eta h1] at h7
  exact ⟨u, by simp only [execOp, ho, he, Instr.loadAt, Instr.sureAddr, run_bind', run_pure', h7], h8⟩
end ops
/-- A new row that will not change. -/
theorem Makes.frozen {E : Env} {o : Oper} {vs : List AV} {hs : List (Nat × Blk)} {n s : Nat} {t : Bool} {ps : List PV} (h : Makes E o vs hs (fun d => .sl d 0 n s t) (.cells (ps.map .pv))) (hd : ∀ d, o.dst = some d → d < E.n) : Does E o vs hs { v := .pv (.sl (some false) n ps) } := by
  intro ι imm st a w Q hs' hv hh _
  obtain ⟨O, u, h1, ⟨c, e, rfl, h2, h2'⟩, h3⟩ := h ι imm st a w hs' (hs'.evls hv) hh
  unfold Oper.wp
  rw [h1, Oper.upon_value]
  have hheap : ∀ q, q < w.heap.size → (World.push w (.cells c e (0, 0))).heap[q]? = w.heap[q]? := fun q hq => by
    show (w.heap.push _)[q]? = _
    rw [Array.getElem?_push, if_neg (by omega)]
  have hnew : (World.push w (.cells c e (0, 0))).heap[w.heap.size]? = some (.cells c e (0, 0)) := by
    show (w.heap.push _)[_]? = _
    rw [Array.getElem?_push, if_pos rfl]
  have hold : ∀ {k : Nat} {x : Obj}, w.heap[k]? = some x → k < w.heap.size := fun {k x} hk => by
    rcases Nat.lt_or_ge k w.heap.size with h' | h'
    · exact h'
    · rw [Array.getElem?_eq_none h'] at hk; cases hk
  let imm' : Nat → Prop := fun k => imm k ∨ k = w.heap.size
  have st' : Stays imm imm' w (World.push w (.cells c e (0, 0))) := ⟨fun _ hk => .inl hk, fun q hq => hheap q (hs'.immlt q hq)⟩
  have g : Grows ι ι imm imm' w (World.push w (.cells c e (0, 0))) := ⟨fun _ _ h => h, st', fun r c f f2 hr => ⟨c, f2, (hheap r (hold hr)).trans hr, rfl⟩⟩
  have hblk : ∀ {b k r z}, st.H b = some k → ι b = some (r, z) → r < w.heap.size := fun {b q r z} hb hi => by
    obtain ⟨r', z', h1, _, _, h4⟩ := hs'.heap.blk b q hb
    rw [hi] at h1
    simp only [Option.some.injEq, Prod.mk.injEq] at h1
    obtain ⟨rfl, rfl⟩ := h1
    cases q with
    | cells cs => obtain ⟨c, e, f, h1, _⟩ := h4; exact hold h1
    | map es => obtain ⟨c, q, _, _, h2, _⟩ := h4; exact hold h2
    | mapx es q => obtain ⟨c, _, h2, _⟩ := h4; exact hold h2
    | iter b since seen c0 => obtain ⟨m, _, _, h2⟩ := h4; exact hold h2
    | siter s pos => exact hold h4.2
  have hsr : SR E ι imm' ⟨st.S, st.H, st.U⟩ a (World.push w (.cells c e (0, 0))) := by
    refine hs'.turn g rfl rfl rfl (Nat.le_refl _) (by show _ ≤ (w.heap.push _).size; simp) (fun q hq _ => hheap q hq) ⟨fun b q hb => ?_, fun b b' k k' r z z' hb hb' hi hi' => hs'.heap.inj b b' k k' r z z' hb hb' hi hi'⟩ (fun b x hx => hs'.used b x hx) (fun k hk => ?_) (fun k hk => ?_)
    · obtain ⟨r, z, h1, h2, h3, h4⟩ := hs'.heap.blk b q hb
      have hr := hblk hb h1
      exact ⟨r, z, h1, fun hi => hi.elim h2 fun e => by omega, h3, h4.grows g (hheap r hr)⟩
    · rcases hk with hk | rfl
      · exact .inl hk
      · exact .inr (.inr hs'.ext.size)
    · show k < (w.heap.push _).size
      rw [Array.size_push]
      rcases hk with hk | rfl
      · have := hs'.immlt k hk; omega
      · omega
  refine ⟨ι, imm', hsr.put o.dst hd ?_⟩
  obtain ⟨r, z, cap, hi, rfl, hle, _⟩ := h3 0 (fun _ => some (w.heap.size, 0)) rfl
  simp only [Option.some.injEq, Prod.mk.injEq] at hi
  obtain ⟨rfl, rfl⟩ := hi
  simp only [VH, PH]
  refine ⟨_, cap, rfl, hle, fun h => by simp at h, fun _ h => by simp at h, fun h => by simp at h, fun A hA _ => ?_⟩
  simp only [Option.some.injEq] at hA
  subst hA
  refine ⟨rfl, .inr rfl, PHs.of_cells st' (fun o => ?_) h2'⟩
  simp [cell_of_heap hnew]
end Go.Am
namespace Go.Am
/-- Cells from k on are others. -/
def setRange (cs : List AV) (k : Nat) (xs : List AV) : List AV := cs.take k ++ xs ++ cs.drop (k + xs.length)
theorem setRange_length {cs xs : List AV} {k : Nat} (h : k + xs.length ≤ cs.length) : (setRange cs k xs).length = cs.length := by
  simp only [setRange, List.length_append, List.length_take, List.length_drop]; omega
/-- One row has been written. -/
structure RowSet (w w' : World) (r : Nat) (c : Array Value) (e : TypeId) (f : Nat × Nat) : Prop where
  os : w'.os = w.os
  tape : w'.tape = w.tape
  output : w'.output = w.output
  drawn : w'.drawn = w.drawn
  size : w'.heap.size = w.heap.size
  row : w'.heap[r]? = some (Obj.cells c e f)
  other : ∀ k, k ≠ r → w'.heap[k]? = w.heap[k]?
/-- Values put over cells. -/
def putCells (c : Array Value) (o : Nat) : List Value → Array Value
  | [] => c
  | v :: vs => putCells (c.setIfInBounds o v) (o + 1) vs
theorem putCells_size (c : Array Value) (o : Nat) (vs : List Value) : (putCells c o vs).size = c.size := by
  induction vs generalizing c o with
  | nil => rfl
  | cons v vs ih => simp [putCells, ih]
theorem putCells_below (c : Array Value) (o : Nat) (vs : List Value) (i : Nat) (h : i < o) : (putCells c o vs)[i]? = c[i]? := by
  induction vs generalizing c o with
  | nil => rfl
  | cons v vs ih => rw [putCells, ih _ _ (by omega), Array.getElem?_setIfInBounds_ne (by omega)]
theorem putCells_above (c : Array Value) (o : Nat) (vs : List Value) (i : Nat) (h : o + vs.length ≤ i) : (putCells c o vs)[i]? = c[i]? := by
  induction vs generalizing c o with
  | nil => rfl
  | cons v vs ih => rw [putCells, ih _ _ (by simp at h; omega), Array.getElem?_setIfInBounds_ne (by simp at h; omega)]
theorem putCells_at (c : Array Value) (o : Nat) (vs : List Value) (hc : o + vs.length ≤ c.size) (i : Nat) (h : i < vs.length) : (putCells c o vs)[o + i]? = vs[i]? := by
  induction vs generalizing c o i with
  | nil => simp at h
  | cons v vs ih =>
    cases i with
    | zero =>
      simp only [List.length_cons] at hc
      rw [putCells, Nat.add_zero, putCells_below _ _ _ _ (by omega), Array.getElem?_setIfInBounds]
      simp only [Nat.add_zero, if_true, List.getElem?_cons_zero]
      rw [if_pos (by omega)]
    | succ i =>
      rw [putCells, show o + (i + 1) = o + 1 + i by omega, ih _ _ (by simp at hc ⊢; omega) i (by simpa using h)]; simp
/-- No value of several cells. -/
def single (v : Value) : Prop := (∀ c, v ≠ .agg c) ∧ ∀ c, v ≠ .tuple c
theorem run_storeCells {P : Program} {r : Nat} {e : TypeId} {f : Nat × Nat} : ∀ (vs : List Value) (o i : Nat) {w : World} {c : Array Value}, w.heap[r]? = some (Obj.cells c e f) → o + i + vs.length ≤ c.size → (∀ o, o < c.size → ¬ (f.1 ≤ o ∧ o < f.2)) → (∀ v ∈ vs, single v) →
    ∃ w', (storeCells ⟨r, o, none⟩ vs i).run P w = .ok () w' ∧ RowSet w w' r (putCells c (o + i) vs) e f
  | [], o, i, w, c, hc, _, _, _ => ⟨w, rfl, rfl, rfl, rfl, rfl, rfl, hc, fun _ _ => rfl⟩
  | v :: vs, o, i, w, c, hc, hle, hf, ho => by
    have hv := ho v (List.mem_cons_self ..)
    simp only [List.length_cons] at hle
    have hcell : w.cell? ⟨r, o + i, none⟩ = some c[o + i] := by
      rw [cell_of_heap hc, Array.getElem?_eq_getElem (by omega)]
    have hfr : w.frozen? ⟨r, o + i, none⟩ = false := by
      simp only [World.frozen?, hc]
      have := hf (o + i) (by omega)
      simp only [Bool.and_eq_false_iff, decide_eq_false_iff_not]
      by_cases h1 : f.1 ≤ o + i
      · exact .inr fun h2 => this ⟨h1, h2⟩
      · exact .inl h1
    have hrow : (w.setCell ⟨r, o + i, none⟩ v).heap[r]? = some (Obj.cells (c.setIfInBounds (o + i) v) e f) := by
      simp only [World.setCell, Array.getElem?_modify, if_true, hc, Option.map_some]
      rfl
    obtain ⟨w', h1, h2⟩ := run_storeCells (P := P) vs o (i + 1) (w := w.setCell ⟨r, o + i, none⟩ v) (c := c.setIfInBounds (o + i) v) hrow (by simp; omega) (by simpa using hf) (fun u hu => ho u (List.mem_cons_of_mem _ hu))
    refine ⟨w', ?_, ?_⟩
    · simp only [storeCells, run_bind', store, add_none]
      have : (Sem.store Mode.plain ⟨r, o + i, none⟩ v (Sem.pure ())).run P w = .ok () (w.setCell ⟨r, o + i, none⟩ v) := by
        cases v <;> first | exact absurd rfl (hv.1 _) | exact absurd rfl (hv.2 _) | simp [Sem.run, hcell, hfr]
      rw [this]
      exact h1
    · have hother : ∀ k, k ≠ r → (w.setCell ⟨r, o + i, none⟩ v).heap[k]? = w.heap[k]? := fun k hk => by
        simp only [World.setCell, Array.getElem?_modify]
        rw [if_neg (by simpa using Ne.symm hk)]
      exact ⟨h2.os, h2.tape, h2.output, h2.drawn, by rw [h2.size]; simp [World.setCell], h2.row, fun k hk => (h2.other k hk).trans (hother k hk)⟩
theorem SR.write {E : Env} {ι : Nat → Option (Nat × Nat)} {imm : Nat → Prop} {st : St} {a : Act} {w w' : World} (h : SR E ι imm st a w) {b : Nat} {cs cs' : List AV} (hb : st.H b = some (.cells cs)) {r z : Nat} (hi : ι b = some (r, z))
    {c c' : Array Value} {e : TypeId} {f : Nat × Nat} (hc : w.heap[r]? = some (Obj.cells c e f)) (hw : RowSet w w' r c' e f) (hsz : c'.size = c.size) (hle : z + cs'.length ≤ c.size) (hcs : CellsH ι imm w c' cs' z) (v : AV) :
    SR E ι imm ⟨st.S, (Delta.mk v [] [(b, some (.cells cs'))]).H st.H, (Delta.mk v [] [(b, some (.cells cs'))]).U st.U⟩ a w' := by
  obtain ⟨c0, e0, f0, h1, h2, h3, h4, h5, h6⟩ := h.heap.cells hb hi
  rw [hc] at h1
  simp only [Option.some.injEq, Obj.cells.injEq] at h1
  obtain ⟨rfl, rfl, rfl⟩ := h1
  have g : Grows ι ι imm imm w w' := ⟨fun _ _ h => h, ⟨fun _ h => h, fun k hk => hw.other k (fun e => h5 (e ▸ hk))⟩, fun r' c1 e1 f1 hr' => by
    by_cases hrr : r' = r
    · subst hrr
      rw [hc] at hr'
      simp only [Option.some.injEq, Obj.cells.injEq] at hr'
      obtain ⟨rfl, rfl, rfl⟩ := hr'
      exact ⟨c', f, hw.row, hsz⟩
    · exact ⟨c1, f1, (hw.other r' hrr).trans hr', rfl⟩⟩
  have hH : ∀ b' k, (Delta.mk v [] [(b, some (.cells cs'))]).H st.H b' = some k → (b' = b ∧ k = .cells cs') ∨ (b' ≠ b ∧ st.H b' = some k) := fun b' k hk => by
    simp only [Delta.H, List.lookup] at hk
    by_cases hbb : b' = b
    · subst hbb; simp only [beq_self_eq_true] at hk; exact .inl ⟨rfl, (Option.some.inj hk).symm⟩
    · have : (b' == b) = false := by simpa using hbb
      simp only [this] at hk; exact .inr ⟨hbb, hk⟩
  have hold : ∀ b' k, (Delta.mk v [] [(b, some (.cells cs'))]).H st.H b' = some k → ∃ k', st.H b' = some k' := fun b' k hk => by
    rcases hH b' k hk with ⟨rfl, _⟩ | ⟨_, h⟩
    · exact ⟨_, hb⟩
    · exact ⟨_, h⟩
  refine h.turn g hw.os hw.tape hw.output (Nat.le_of_eq hw.drawn.symm) (by rw [hw.size]; exact Nat.le_refl _) (fun k _ hM => hw.other k (fun e => hM (e ▸ h6))) ⟨fun b' k hk => ?_, fun b1 b2 k1 k2 r1 z1 z2 hk1 hk2 hi1 hi2 => ?_⟩ (fun b' x hx => ?_) (fun _ hk => .inl hk) (fun k hk => by rw [hw.size]; exact h.immlt k hk)
  · rcases hH b' k hk with ⟨rfl, rfl⟩ | ⟨hne, hk⟩
    · exact ⟨r, z, hi, h5, h6, c', e, f, hw.row, by omega, h3, hcs.grows g⟩
    · obtain ⟨r', z', q1, q2, q3, q4⟩ := h.heap.blk b' k hk
      have hrr : r' ≠ r := fun e => hne (h.heap.inj b' b k _ r z' z hk hb (e ▸ q1) hi)
      exact ⟨r', z', q1, q2, q3, q4.grows g (hw.other r' hrr)⟩
  · obtain ⟨k1', q1⟩ := hold b1 k1 hk1
    obtain ⟨k2', q2⟩ := hold b2 k2 hk2
    exact h.heap.inj b1 b2 k1' k2' r1 z1 z2 q1 q2 hi1 hi2
  · simp only [Delta.U, List.lookup, Option.isSome_none, Bool.false_or]; exact h.used b' x hx
theorem VHs.singles {ι : Nat → Option (Nat × Nat)} {imm : Nat → Prop} {w : World} : ∀ (cs : List AV) (us : List Value), VHs ι imm w cs us → (∀ c ∈ cs, ∀ ds, c ≠ .agg ds ∧ c ≠ .tup ds ∧ c ≠ .undef) → ∀ u ∈ us, single u := by
  intro cs
  induction cs with
  | nil => intro us h _ u hu; simp only [VHs] at h; subst h; cases hu
  | cons c cs ih =>
    intro us h hf u hu
    obtain ⟨v, us', rfl, q1, q2⟩ := h
    cases hu with
    | tail _ hm => exact ih us' q2 (fun c hc => hf c (List.mem_cons_of_mem _ hc)) u hm
    | head =>
      have hc := hf c (List.mem_cons_self ..)
      cases c with
      | undef => exact absurd rfl (hc []).2.2
      | agg ds => exact absurd rfl (hc ds).1
      | tup ds => exact absurd rfl (hc ds).2.1
      | pv p =>
        cases p with
        | lit y => simp only [VH, PH] at q1; obtain ⟨rfl, hfl⟩ := q1; constructor <;> intro d e <;> subst e <;> simp [flatB] at hfl
        | sl f n ps => simp only [VH, PH] at q1; obtain ⟨A, cap, rfl, _⟩ := q1; constructor <;> intro d e <;> cases e
      | ptr b o => simp only [VH] at q1; obtain ⟨r, z, _, rfl⟩ := q1; constructor <;> intro d e <;> cases e
      | sl b o n s t => simp only [VH] at q1; obtain ⟨r, z, cap, _, rfl, _⟩ := q1; constructor <;> intro d e <;> cases e
      | slc b o n s c => simp only [VH] at q1; obtain ⟨r, z, _, rfl, _⟩ := q1; constructor <;> intro d e <;> cases e
      | tsl n ps => simp only [VH] at q1; obtain ⟨A, rfl, _⟩ := q1; constructor <;> intro d e <;> cases e
      | rp ps => simp only [VH] at q1; obtain ⟨A, rfl, _⟩ := q1; constructor <;> intro d e <;> cases e
      | mp b => simp only [VH] at q1; obtain ⟨r, z, _, rfl⟩ := q1; constructor <;> intro d e <;> cases e
      | fn f xs ys => simp only [VH] at q1; obtain ⟨vs, us, rfl, _⟩ := q1; constructor <;> intro d e <;> cases e
theorem VHs.one_all {ι : Nat → Option (Nat × Nat)} {imm : Nat → Prop} {w : World} {x : AV} {cs : List AV} {v : Value} (h : cellsOf x = some cs) (hv : VH ι imm w x v) (hflat : ∀ c ∈ cs, ∀ ds, c ≠ .agg ds ∧ c ≠ .tup ds ∧ c ≠ .undef) : ∀ u ∈ v.cells.toList, single u := by
  have h1 := cellsOf_holds h hv (fun c e => by subst e; simp only [VH, PH] at hv; simp [flatB] at hv)
  exact VHs.singles cs _ h1 hflat
/-- Cells alone: none of them an aggregate, a tuple, or unknown. -/
def flatCell : AV → Bool
  | .agg _ | .tup _ | .undef => false
  | _ => true
theorem flatCell_spec {cs : List AV} (h : cs.all flatCell = true) : ∀ c ∈ cs, ∀ ds, c ≠ .agg ds ∧ c ≠ .tup ds ∧ c ≠ .undef := by
  intro c hc ds
  have := List.all_eq_true.1 h c hc
  refine ⟨fun e => ?_, fun e => ?_, fun e => ?_⟩ <;> (subst e; simp [flatCell] at this)
theorem CellsH.put {ι : Nat → Option (Nat × Nat)} {imm : Nat → Prop} {w : World} {c c' : Array Value} {cs xs : List AV} {us : List Value} {z k : Nat} (hcs : CellsH ι imm w c cs z) (hx : VHs ι imm w xs us) (hk : k + xs.length ≤ cs.length)
    (hput : c' = putCells c (z + k) us) (hsz : z + cs.length ≤ c.size) : CellsH ι imm w c' (setRange cs k xs) z := by
  obtain ⟨vs, h1, h2⟩ := hcs.vals
  have hl1 := h1.length
  have hl2 := hx.length
  have app : ∀ {xs ys : List AV} {us vs : List Value}, VHs ι imm w xs us → VHs ι imm w ys vs → VHs ι imm w (xs ++ ys) (us ++ vs) := by
    intro xs
    induction xs with
    | nil => intro ys us vs h h'; simp only [VHs] at h; subst h; exact h'
    | cons x xs ih => intro ys us vs h h'; obtain ⟨v, us', rfl, q1, q2⟩ := h; exact ⟨v, us' ++ vs, rfl, q1, ih q2 h'⟩
  have tk : ∀ (k : Nat) {xs : List AV} {us : List Value}, VHs ι imm w xs us → VHs ι imm w (xs.take k) (us.take k) := by
    intro k
    induction k with
    | zero => intro xs us _; simp [VHs]
    | succ k ih => intro xs us h; cases xs with
      | nil => simp only [VHs] at h; subst h; simp [VHs]
      | cons x xs => obtain ⟨v, us', rfl, q1, q2⟩ := h; exact ⟨v, us'.take k, rfl, q1, ih q2⟩
  have dr : ∀ (k : Nat) {xs : List AV} {us : List Value}, VHs ι imm w xs us → VHs ι imm w (xs.drop k) (us.drop k) := by
    intro k
    induction k with
    | zero => intro xs us h; exact h
    | succ k ih => intro xs us h; cases xs with
      | nil => simp only [VHs] at h; subst h; simp [VHs]
      | cons x xs => obtain ⟨v, us', rfl, q1, q2⟩ := h; exact ih q2
  refine CellsH.of_VHs (vs := vs.take k ++ us ++ vs.drop (k + us.length)) ?_ fun i hi => ?_
  · have := app (app (tk k h1) hx) (dr (k + us.length) h1)
    rw [hl2] at this
    rw [hl2]; exact this
  · subst hput
    simp only [List.length_append, List.length_take, List.length_drop] at hi
    rcases Nat.lt_or_ge i k with hik | hik
    · rw [putCells_below _ _ _ _ (by omega), h2 i (by omega), List.append_assoc, List.getElem?_append_left (by simp; omega), List.getElem?_take, if_pos hik]
    · rcases Nat.lt_or_ge i (k + us.length) with hiu | hiu
      · have := putCells_at c (z + k) us (by omega) (i - k) (by omega)
        rw [show z + k + (i - k) = z + i by omega] at this
        rw [this, List.append_assoc, List.getElem?_append_right (by simp; omega), List.getElem?_append_left (by simp; omega)]
        congr 1
        simp; omega
      · rw [putCells_above _ _ _ _ (by omega), h2 i (by omega), List.getElem?_append_right (by simp; omega), List.getElem?_drop]
        congr 1
        simp; omega
section ops
variable {E : Env} {T : Tab}
theorem does_store (hT : TabOk E.P T) {o : Oper} {t : TypeId} {x y : Operand} (ho : o.op = .store t x y) (hdst : o.dst = none) {r : TyRow} (hr : T.lookup t = some r) {b k : Nat} {cs xs : List AV} {u : AV} (hx : cellsOf u = some xs) (hl : xs.length = r.size)
    (hk : k + xs.length ≤ cs.length) (hflat : xs.all flatCell = true) : Does E o [.ptr b k, u] [(b, .cells cs)] { v := .undef, wr := [(b, some (.cells (setRange cs k xs)))] } := by
  intro ι imm st a w Q hs hv hh _
  have hv := hs.evls hv
  rw [ho] at hv
  simp only [Op.operands, List.map_cons, List.map_nil] at hv
  obtain ⟨hv1, hv2⟩ := hv.two
  simp only [VH] at hv1
  obtain ⟨q, z, hi, he⟩ := hv1
  have hb := hh _ (List.mem_cons_self ..)
  obtain ⟨c, e, f, h1, h2, h3, h4, _⟩ := hs.heap.cells hb hi
  have hxs := cellsOf_holds hx hv2 (fun c e => by subst e; simp only [VH, PH] at hv2; simp [flatB] at hv2)
  have hlen := hxs.length
  obtain ⟨w', h5, h6⟩ := run_storeCells (P := E.P) (a.eval y).cells.toList (z + k) 0 h1 (by omega) (fun o _ => h3 o) (VHs.one_all hx hv2 (flatCell_spec hflat))
  unfold Oper.wp
  have hrun : (execOp a.eval o).run E.P w = .ok .skip w' := by
    have hsize : (a.eval y).cells.size = r.size := by simp only [Array.length_toList] at hlen; omega
    simp only [execOp, ho, he, Instr.storeAt, Instr.sureAddr, storeVar, run_bind', run_pure', run_sizeOf hT hr, hsize, ne_eq, not_true_eq_false, if_false, h5]
  rw [hrun, Oper.upon_skip]
  have hput := CellsH.put (c' := putCells c (z + k + 0) (a.eval y).cells.toList) h4 hxs hk (by simp) h2
  have := hs.write hb hi h1 h6 (putCells_size _ _ _) (by rw [setRange_length hk]; exact h2) hput .undef
  exact ⟨ι, imm, by simpa [Act.put, St.after, putO, hdst] using this⟩
end ops
end Go.Am
namespace Go.Am
/-- A field: where it lies, how many cells it has. -/
def fieldOf (T : Tab) (d : TypeDesc) (f : Nat) : Option (Nat × Nat × TyRow) :=
  match d with
  | .struct fs => match fs[f]? with
    | some x => match T.lookup x.type with
      | some r => if r.size = 0 then none else some (x.offset, r.size, r)
      | none => none
    | none => none
  | _ => none
/-- The place of a part of an address. -/
def partAV (x : AV) (off len : Nat) : Option AV :=
  match x with
  | .ptr b o => some (.ptr b (o + off))
  | .rp ps => some (.rp ((ps.drop off).take len))
  | _ => none
section ops
variable {E : Env} {T : Tab}
theorem part_holds {ι : Nat → Option (Nat × Nat)} {imm : Nat → Prop} {w : World} {x z : AV} {off len : Nat} (h : partAV x off len = some z) {a : Addr} (hx : VH ι imm w x (.pointer (some a))) : VH ι imm w z (.pointer (some (a.add off))) := by
  cases x <;> simp only [partAV, reduceCtorEq, Option.some.injEq] at h
  · subst h
    simp only [VH] at hx ⊢
    obtain ⟨r, q, h1, h2⟩ := hx
    simp only [Value.pointer.injEq, Option.some.injEq] at h2
    subst h2
    exact ⟨r, q, h1, by rw [add_none, Nat.add_assoc]⟩
  · subst h
    simp only [VH] at hx ⊢
    obtain ⟨b, h1, h2⟩ := hx
    simp only [Value.pointer.injEq, Option.some.injEq] at h1
    subst h1
    refine ⟨_, rfl, fun hne => ?_⟩
    obtain ⟨h3, h4, h5⟩ := h2 (fun e => hne (by rw [e]; simp))
    rw [addr_eta h3, add_none]
    exact ⟨rfl, h4, (h5.drop).take⟩
theorem addr_of {ι : Nat → Option (Nat × Nat)} {imm : Nat → Prop} {w : World} {x z : AV} {off len : Nat} (h : partAV x off len = some z) {v : Value} (hx : VH ι imm w x v) : ∃ a, v = .pointer (some a) := by
  cases x <;> simp only [partAV, reduceCtorEq] at h
  · simp only [VH] at hx; obtain ⟨r, q, _, h2⟩ := hx; exact ⟨_, h2⟩
  · simp only [VH] at hx; obtain ⟨b, h1, _⟩ := hx; exact ⟨_, h1⟩
theorem does_fieldAddr (hT : TabOk E.P T) {o : Oper} {s : TypeId} {x : Operand} {f : Nat} (ho : o.op = .fieldAddr s x f) (hd : ∀ d, o.dst = some d → d < E.n) {r : TyRow} (hr : T.lookup s = some r) {off len : Nat} {rf : TyRow} (hf : fieldOf T r.desc f = some (off, len, rf)) {u z : AV} (hz : partAV u off len = some z) :
    Does E o [u] [] { v := z } := by
  refine Does.value hd fun ι imm st a w hs hv _ => ?_
  rw [ho] at hv
  simp only [Op.operands, List.map_cons, List.map_nil] at hv
  have hv := hv.one
  obtain ⟨ad, he⟩ := addr_of hz hv
  rw [he] at hv
  refine ⟨.pointer (some (ad.add off)), ?_, part_holds hz hv⟩
  unfold fieldOf at hf
  split at hf
  · rename_i fs hdesc
    split at hf
    · rename_i y hy
      split at hf
      · rename_i r' hr'
        split at hf
        · cases hf
        · rename_i hne
          simp only [Option.some.injEq, Prod.mk.injEq] at hf
          obtain ⟨rfl, rfl, rfl⟩ := hf
          simp only [execOp, ho, he, Instr.fieldAt, Instr.sureAddr, fieldPlace, run_bind', run_pure', run_underlying hT hr, hdesc, hy, run_sizeOf hT hr', if_neg hne]
      · cases hf
    · cases hf
  · cases hf
/-- The element at an index: what must hold, and its place. -/
def elemAV (T : Tab) (d : TypeDesc) (x : AV) (i : Int) : Option (Prop × AV) :=
  match d with
  | .array n e => match T.lookup e with
    | some r => match x with
      | .ptr b o => some (0 ≤ i ∧ i < n, .ptr b (o + i.toNat * r.size))
      | .rp ps => some (0 ≤ i ∧ i < n, .rp ((ps.drop (i.toNat * r.size)).take r.size))
      | _ => none
    | none => none
  | .slice e => match T.lookup e with
    | some r => match x with
      | .pv (.sl _ n ps) => some (0 ≤ i ∧ i < n, .rp ((ps.drop (i.toNat * r.size)).take r.size))
      | .tsl n ps => some (0 ≤ i ∧ i < n, .rp ((ps.drop (i.toNat * r.size)).take r.size))
      | .sl b o n s _ => if s = r.size then some (0 ≤ i ∧ i < n, .ptr b (o + i.toNat * s)) else none
      | _ => none
    | none => none
  | _ => none
theorem slice_part {imm : Nat → Prop} {w : World} (ι : Nat → Option (Nat × Nat)) {a : Addr} {ps : List PV} (h : ps ≠ [] → a.spot = none ∧ imm a.block ∧ PHs imm w ps a.block a.off) (off len : Nat) : VH ι imm w (.rp ((ps.drop off).take len)) (.pointer (some (a.add off))) := by
  simp only [VH]
  refine ⟨_, rfl, fun hne => ?_⟩
  obtain ⟨h3, h4, h5⟩ := h (fun e => hne (by rw [e]; simp))
  rw [addr_eta h3, add_none]
  exact ⟨rfl, h4, (h5.drop).take⟩
theorem does_indexAddr (hT : TabOk E.P T) {o : Oper} {t : TypeId} {x y : Operand} (ho : o.op = .indexAddr t x y) (hd : ∀ d, o.dst = some d → d < E.n) {r : TyRow} (hr : T.lookup t = some r) {k : IntKind} {i : Int} {u z : AV} {p : Prop} (hz : elemAV T r.desc u i = some (p, z)) (hp : p) :
    Does E o [u, .pv (.lit (.int k i))] [] { v := z } := by
  refine Does.value hd fun ι imm st a w hs hv _ => ?_
  rw [ho] at hv
  simp only [Op.operands, List.map_cons, List.map_nil] at hv
  obtain ⟨hv1, hv2⟩ := hv.two
  simp only [VH, PH] at hv2
  unfold elemAV at hz
  split at hz
  · rename_i n e hdesc
    split at hz
    · rename_i re hre
      split at hz
      · rename_i b o'
        simp only [Option.some.injEq, Prod.mk.injEq] at hz
        obtain ⟨rfl, rfl⟩ := hz
        simp only [VH] at hv1
        obtain ⟨q, z0, hi, he⟩ := hv1
        refine ⟨.pointer (some ⟨q, z0 + (o' + i.toNat * re.size), none⟩), ?_, ⟨q, z0, hi, rfl⟩⟩
        simp only [execOp, ho, he, hv2.1, Instr.indexAt, asIntOf, Instr.sureAddr, run_bind', run_pure', run_underlying hT hr, hdesc]
        rw [if_pos hp]
        simp only [run_bind', run_sizeOf hT hre, run_pure', add_none, Nat.add_assoc]
      · rename_i ps
        simp only [Option.some.injEq, Prod.mk.injEq] at hz
        obtain ⟨rfl, rfl⟩ := hz
        simp only [VH] at hv1
        obtain ⟨ad, he, hq⟩ := hv1
        refine ⟨_, ?_, slice_part ι hq _ _⟩
        simp only [execOp, ho, he, hv2.1, Instr.indexAt, asIntOf, Instr.sureAddr, run_bind', run_pure', run_underlying hT hr, hdesc]
        rw [if_pos hp]
        simp only [run_bind', run_sizeOf hT hre, run_pure']
      · cases hz
    · cases hz
  · rename_i e hdesc
    split at hz
    · rename_i re hre
      split at hz
      · rename_i f n ps
        simp only [Option.some.injEq, Prod.mk.injEq] at hz
        obtain ⟨rfl, rfl⟩ := hz
        simp only [VH, PH] at hv1
        obtain ⟨A, cap, he, h1, h2, h3, h4, h5⟩ := hv1
        cases A with
        | none => obtain ⟨h6, _⟩ := h4 rfl; omega
        | some ad =>
          refine ⟨_, ?_, slice_part ι (fun hne => h5 ad rfl hne) _ _⟩
          simp only [execOp, ho, he, hv2.1, Instr.indexAt, asIntOf, run_bind', run_pure', run_underlying hT hr, hdesc]
          rw [if_pos hp]
          simp only [run_bind', run_sizeOf hT hre, run_pure']
      · rename_i n ps
        simp only [Option.some.injEq, Prod.mk.injEq] at hz
        obtain ⟨rfl, rfl⟩ := hz
        simp only [VH] at hv1
        obtain ⟨A, he, h4, h5⟩ := hv1
        cases A with
        | none => obtain ⟨h6, _⟩ := h4 rfl; omega
        | some ad =>
          refine ⟨_, ?_, slice_part ι (fun hne => h5 ad rfl hne) _ _⟩
          simp only [execOp, ho, he, hv2.1, Instr.indexAt, asIntOf, run_bind', run_pure', run_underlying hT hr, hdesc]
          rw [if_pos hp]
          simp only [run_bind', run_sizeOf hT hre, run_pure']
      · rename_i b o' n s tt
        split at hz
        · rename_i hse
          subst hse
          simp only [Option.some.injEq, Prod.mk.injEq] at hz
          obtain ⟨rfl, rfl⟩ := hz
          simp only [VH] at hv1
          obtain ⟨q, z0, cap, hi, he, _⟩ := hv1
          refine ⟨.pointer (some ⟨q, z0 + (o' + i.toNat * re.size), none⟩), ?_, ⟨q, z0, hi, rfl⟩⟩
          simp only [execOp, ho, he, hv2.1, Instr.indexAt, asIntOf, run_bind', run_pure', run_underlying hT hr, hdesc]
          rw [if_pos hp]
          simp only [run_bind', run_sizeOf hT hre, run_pure', add_none, Nat.add_assoc]
        · cases hz
      · cases hz
    · cases hz
  · cases hz
theorem run_sliceBound {P : Program} {w : World} {k : IntKind} {i : Int} {y : Nat} {c : BoundsCode} (h0 : 0 ≤ i) (h1 : i ≤ y) : (Instr.sliceBound (.int k i) y c).run P w = .ok i.toNat w := by
  simp only [Instr.sliceBound, asIntOf, run_bind', run_pure']
  rw [if_pos ⟨h0, h1⟩]; rfl
/-- `x[l:h]`, `x[:h:m]`, ..: the three bounds, of a length and a capacity (as far as it is known to be). -/
theorem run_sliceBounds {P : Program} {w : World} {isSlice : Bool} {len cap : Nat} {lo hi mx : Option Value} {l h m : Int} (hlo : lo = none ∧ l = 0 ∨ ∃ k, lo = some (.int k l)) (hhi : hi = none ∧ mx = none ∧ h = len ∨ ∃ k, hi = some (.int k h)) (hmx : mx = none ∧ m = cap ∨ ∃ k, mx = some (.int k m))
    (h0 : 0 ≤ l) (h1 : l ≤ h) (h2 : h ≤ m) (h3 : m ≤ cap) : (Instr.sliceBounds isSlice len cap lo hi mx).run P w = .ok (l.toNat, h.toNat, m.toNat) w := by
  have hl : ∀ c k, (Instr.sliceBound (.int k l) h.toNat c).run P w = .ok l.toNat w := fun c k => run_sliceBound h0 (by omega)
  have hh : ∀ c k, (Instr.sliceBound (.int k h) m.toNat c).run P w = .ok h.toNat w := fun c k => run_sliceBound (by omega) (by omega)
  have hm : ∀ c k, (Instr.sliceBound (.int k m) cap c).run P w = .ok m.toNat w := fun c k => run_sliceBound (by omega) (by omega)
  rcases hlo with ⟨rfl, rfl⟩ | ⟨kl, rfl⟩ <;> rcases hhi with ⟨rfl, rfl, rfl⟩ | ⟨kh, rfl⟩ <;> rcases hmx with ⟨e1, rfl⟩ | ⟨km, e1⟩
  all_goals first | subst e1 | skip
  all_goals first | (cases e1; done) | skip
  all_goals try simp only [Int.toNat_natCast] at hl hh hm
  all_goals simp only [Instr.sliceBounds, run_bind', run_pure', hl, hh, hm, Int.toNat_natCast, Int.toNat_zero]
/-- Cells of values put over cells, as the model does it. -/
theorem foldl_put (vs : List Value) (c : Array Value) (o j : Nat) : (vs.zipIdx j).foldl (fun cs (x : Value × Nat) => cs.setIfInBounds (o + x.2) x.1) c = putCells c (o + j) vs := by
  induction vs generalizing c j with
  | nil => rfl
  | cons v vs ih => simp only [List.zipIdx_cons, List.foldl_cons, putCells]; rw [ih, Nat.add_assoc]
/-- Parts put over cells. -/
def fillAV (place : Nat → Option (Nat × Nat)) : List AV → List (Nat × AV) → Option (List AV)
  | cs, [] => some cs
  | cs, (i, x) :: rest => match place i, cellsOf x with
    | some (off, size), some xs => if xs.length = size ∧ off + size ≤ cs.length then fillAV place (setRange cs off xs) rest else none
    | _, _ => none
theorem fill_holds {ι : Nat → Option (Nat × Nat)} {imm : Nat → Prop} {w : World} {place : Nat → Option (Nat × Nat)} : ∀ {parts : List (Nat × AV)} {us : List (Nat × Value)} {cs zs : List AV} {c : Array Value}, fillAV place cs parts = some zs → CellsH ι imm w c cs 0 → c.size = cs.length →
    parts.map (·.1) = us.map (·.1) → VHs ι imm w (parts.map (·.2)) (us.map (·.2)) → ∃ c', Instr.fill place c us = some c' ∧ CellsH ι imm w c' zs 0 ∧ c'.size = zs.length
  | [], us, cs, zs, c, h, hc, hs, h1, _ => by
    simp only [fillAV, Option.some.injEq] at h; subst h
    cases us with
    | nil => exact ⟨c, rfl, hc, hs⟩
    | cons u us => simp at h1
  | (i, x) :: parts, us, cs, zs, c, h, hc, hs, h1, h2 => by
    cases us with
    | nil => simp at h1
    | cons u us =>
      obtain ⟨j, v⟩ := u
      simp only [List.map_cons, List.cons.injEq] at h1
      obtain ⟨rfl, h1⟩ := h1
      simp only [List.map_cons] at h2
      obtain ⟨v', us', he, hv, hvs⟩ := h2
      simp only [List.cons.injEq] at he
      obtain ⟨rfl, rfl⟩ := he
      simp only [fillAV] at h
      split at h
      · rename_i off size xs hp hx
        split at h
        · rename_i hcond
          obtain ⟨rfl, hle⟩ := hcond
          have hxs := cellsOf_holds hx hv (fun c e => by subst e; simp only [VH, PH] at hv; simp [flatB] at hv)
          have hlen := hxs.length
          simp only [Array.length_toList] at hlen
          have hput := CellsH.put (c' := putCells c (0 + off) v.cells.toList) hc hxs hle rfl (by omega)
          have hsz : (putCells c (0 + off) v.cells.toList).size = (setRange cs off xs).length := by rw [putCells_size, setRange_length hle, hs]
          obtain ⟨c', q1, q2, q3⟩ := fill_holds h hput hsz h1 hvs
          refine ⟨c', ?_, q2, q3⟩
          simp only [Instr.fill, hp]
          rw [if_neg (by simp only [ne_eq, Bool.or_eq_true, decide_eq_true_eq, not_or]; omega)]
          rw [← q1]
          congr 1
          rw [← Array.foldl_toList, Array.toList_zipIdx]
          have := foldl_put v.cells.toList c off 0
          rw [Nat.zero_add, ← Nat.add_zero off, ← this]
          simp
        · cases h
      · cases h
/-- The places of the parts of a struct or an array. -/
def placesOf (T : Tab) (d : TypeDesc) : Option (Nat → Option (Nat × Nat)) :=
  match d with
  | .struct fs => if fs.toList.all (fun f => (T.lookup f.type).isSome) then some fun i => (fs[i]?).map fun f => (f.offset, ((T.lookup f.type).map (·.size)).getD 0) else none
  | .array _ e => match T.lookup e with | some r => some fun i => some (i * r.size, r.size) | none => none
  | _ => none
theorem run_mapM_fields {P : Program} {w : World} (hT : TabOk P T) : ∀ (fs : List Field), (fs.all fun f => (T.lookup f.type).isSome) = true →
    (fs.mapM fun f => (do pure (f.offset, ← Go.sizeOf f.type) : Sem (Nat × Nat))).run P w = .ok (fs.map fun f => (f.offset, ((T.lookup f.type).map (·.size)).getD 0)) w := by
  intro fs
  induction fs with
  | nil => intro _; rfl
  | cons f fs ih =>
    intro h
    simp only [List.all_cons, Bool.and_eq_true] at h
    obtain ⟨h1, h2⟩ := h
    obtain ⟨r, hr⟩ := Option.isSome_iff_exists.1 h1
    simp only [List.mapM_cons, run_bind', run_sizeOf hT hr, run_pure', ih h2, List.map_cons, hr, Option.map_some, Option.getD_some]
theorem VHs_parts {E : Env} {ι : Nat → Option (Nat × Nat)} {imm : Nat → Prop} {w : World} {a : Act} : ∀ (ps : List (Nat × Operand)) (us : List AV), VHs ι imm w us ((ps.map (·.2)).map a.eval) → VHs ι imm w ((ps.zipWith (fun p u => (p.1, u)) us).map (·.2)) ((ps.map fun p => (p.1, a.eval p.2)).map (·.2)) ∧ (ps.zipWith (fun p u => (p.1, u)) us).map (·.1) = (ps.map fun p => (p.1, a.eval p.2)).map (·.1)
  | [], us, h => ⟨by simp [VHs], rfl⟩
  | p :: ps, us, h => by
    cases us with
    | nil => simp [VHs] at h
    | cons u us =>
      obtain ⟨v, vs, he, h1, h2⟩ := h
      simp only [List.map_cons, List.cons.injEq] at he
      obtain ⟨rfl, rfl⟩ := he
      obtain ⟨q1, q2⟩ := VHs_parts (E := E) ps us h2
      simp only [List.zipWith_cons_cons, List.map_cons]
      exact ⟨⟨_, _, rfl, h1, q1⟩, by rw [q2]⟩
theorem does_build (hT : TabOk E.P T) {o : Oper} {t : TypeId} {parts : Array (Nat × Operand)} (ho : o.op = .build t parts) (hd : ∀ d, o.dst = some d → d < E.n) {r : TyRow} (hr : T.lookup t = some r) {place : Nat → Option (Nat × Nat)} (hpl : placesOf T r.desc = some place) {us zs : List AV}
    (hz : fillAV place (r.zero.cells.toList.map constCell) (parts.toList.zipWith (fun p u => (p.1, u)) us) = some zs) : Does E o us [] { v := .agg zs } := by
  refine Does.value hd fun ι imm st a w hs hv _ => ?_
  rw [ho] at hv
  simp only [Op.operands] at hv
  obtain ⟨h1, h2⟩ := VHs_parts (E := E) (a := a) parts.toList us (by simpa using hv)
  obtain ⟨c', h3, h4, h5⟩ := fill_holds hz (CellsH.of_VHs (c := r.zero.cells) (VHs_map_const ι imm w _) (fun i _ => by simp)) (by simp) h2 h1
  obtain ⟨vs, h6, h7⟩ := h4.vals
  have hlen := h6.length
  have hvs : vs = c'.toList := by
    apply List.ext_getElem?
    intro i
    rcases Nat.lt_or_ge i vs.length with hi | hi
    · rw [← h7 i hi]; simp
    · rw [List.getElem?_eq_none hi, List.getElem?_eq_none (by simp; omega)]
  refine ⟨.agg c', ?_, ⟨vs, by rw [hvs], h6⟩⟩
  unfold placesOf at hpl
  split at hpl
  · rename_i fs hdesc
    split at hpl
    · rename_i hall
      simp only [Option.some.injEq] at hpl
      subst hpl
      have hm : (fs.mapM fun f => (do pure (f.offset, ← Go.sizeOf f.type) : Sem (Nat × Nat))).run E.P w = .ok (fs.map fun f => (f.offset, ((T.lookup f.type).map (·.size)).getD 0)) w := by
        rw [Array.mapM_eq_mapM_toList]
        show ((fs.toList.mapM _) >>= fun a => pure (List.toArray a) : Sem (Array (Nat × Nat))).run E.P w = _
        rw [run_bind', run_mapM_fields hT fs.toList hall]
        simp only [run_pure', Result.ok.injEq, and_true]
        apply Array.ext'
        simp
      simp only [execOp, ho, Instr.build, run_bind', run_zeroValue hT hr, run_underlying hT hr, hdesc, hm]
      have : (fun x => (fs.map fun (f : Field) => (f.offset, ((T.lookup f.type).map (·.size)).getD 0))[x]?) = fun (i : Nat) => (fs[i]?).map fun (f : Field) => (f.offset, ((T.lookup f.type).map (·.size)).getD 0) := by
        funext i; simp
      simp only [this, Array.toList_map, h3, run_pure']
    · cases hpl
  · rename_i n e hdesc
    split at hpl
    · rename_i re hre
      simp only [Option.some.injEq] at hpl
      subst hpl
      simp only [execOp, ho, Instr.build, run_bind', run_zeroValue hT hr, run_underlying hT hr, hdesc, run_sizeOf hT hre, Array.toList_map, h3, run_pure']
    · cases hpl
  · cases hpl
/-- Cells of zeros, so many. -/
def zeroAV (z : Array Value) (n : Nat) : List AV := (List.range n).map fun i => constCell z[i % z.size]!
theorem zeroAV_holds (ι : Nat → Option (Nat × Nat)) (imm : Nat → Prop) (w : World) (z : Array Value) (n : Nat) : CellsH ι imm w ((Array.range n).map (z[· % z.size]!)) (zeroAV z n) 0 ∧ ((Array.range n).map (z[· % z.size]!)).size = (zeroAV z n).length := by
  refine ⟨CellsH.of_VHs (vs := (List.range n).map fun i => z[i % z.size]!) ?_ fun i hi => ?_, by simp [zeroAV]⟩
  · have : zeroAV z n = ((List.range n).map fun i => z[i % z.size]!).map constCell := by simp [zeroAV]
    rw [this]; exact VHs_map_const ι imm w _
  · simp at hi
    simp [hi]
theorem makes_buildSlice (hT : TabOk E.P T) {o : Oper} {t : TypeId} {n : Nat} {parts : Array (Nat × Operand)} (ho : o.op = .buildSlice t n parts) {r re : TyRow} (hr : T.lookup t = some r) {e : TypeId} (hdesc : r.desc = .slice e) (hre : T.lookup e = some re) {us zs : List AV}
    (hbig : n * re.size ≤ 16777216) (hz : fillAV (fun i => some (i * re.size, re.size)) (zeroAV re.zero.cells (n * re.size)) (parts.toList.zipWith (fun p u => (p.1, u)) us) = some zs) (hlz : zs.length = n * re.size) :
    Makes E o us [] (fun d => .sl d 0 n re.size true) (.cells zs) := by
  intro ι imm st a w hs hv _
  rw [ho] at hv
  simp only [Op.operands] at hv
  obtain ⟨h1, h2⟩ := VHs_parts (E := E) (a := a) parts.toList us (by simpa using hv)
  obtain ⟨q1, q2⟩ := zeroAV_holds ι imm w re.zero.cells (n * re.size)
  obtain ⟨c', h3, h4, h5⟩ := fill_holds hz q1 q2 h2 h1
  refine ⟨.cells c' e, .slice (some ⟨w.heap.size, 0, none⟩) n n, ?_, ⟨c', e, rfl, by omega, h4⟩, fun d ι' hi => ⟨_, _, n, hi, rfl, Nat.le_refl _, fun _ => rfl, c', e, (0, 0), ?_, by omega⟩⟩
  · have hno : ¬ n * re.size > 2 ^ 24 := by omega
    by_cases h0 : n * re.size = 0
    · rw [h0] at h3
      have hz0 : ((Array.range 0).map (re.zero.cells[· % re.zero.cells.size]!)) = ((Array.range 0).map ((#[] : Array Value)[· % (#[] : Array Value).size]!)) := by simp
      simp only [execOp, ho, Instr.buildSlice, run_bind', run_underlying hT hr, hdesc, run_sizeOf hT hre, h0, if_neg (show ¬ (0 > 2 ^ 24) by omega), if_true, run_pure', newRow, newObj, Array.toList_map]
      rw [hz0] at h3
      simp only [h3]
      rfl
    · simp only [execOp, ho, Instr.buildSlice, run_bind', run_underlying hT hr, hdesc, run_sizeOf hT hre, if_neg hno, if_neg h0, run_zeroValue hT hre, run_pure', newRow, newObj, Sem.run, Array.toList_map, h3]
      rfl
  · show (w.heap.push _)[w.heap.size]? = _
    rw [Array.getElem?_push, if_pos rfl]
theorem does_buildSlice (hT : TabOk E.P T) {o : Oper} {t : TypeId} {n : Nat} {parts : Array (Nat × Operand)} (ho : o.op = .buildSlice t n parts) {d : Nat} (hdst : o.dst = some d) (hd : d < E.n) {r re : TyRow} (hr : T.lookup t = some r) {e : TypeId} (hdesc : r.desc = .slice e) (hre : T.lookup e = some re) {us zs : List AV}
    (hbig : n * re.size ≤ 16777216) (hz : fillAV (fun i => some (i * re.size, re.size)) (zeroAV re.zero.cells (n * re.size)) (parts.toList.zipWith (fun p u => (p.1, u)) us) = some zs) (hlz : zs.length = n * re.size) :
    Does E o us [] { v := .sl d 0 n re.size true, new := [(d, .cells zs)] } := (makes_buildSlice hT ho hr hdesc hre hbig hz hlz).does hdst hd
end ops
end Go.Am
namespace Go.Am
/-- The bounds of a slice expression: none, or a number. -/
def optI : List AV → Option Operand → Option (Option Int × List AV)
  | vs, none => some (none, vs)
  | v :: vs, some _ => match v with
    | .pv (.lit (.int _ i)) => some (some i, vs)
    | _ => none
  | [], some _ => none
/-- `x[l:h:m]`, of a length and a capacity as far as known: l, h, m, what must hold, is m given? -/
structure Cut where
  l : Int
  h : Int
  m : Int
  pre : Prop
def cutOf (n : Nat) (lo hi mx : Option Int) : Option Cut :=
  match lo, hi, mx with
  | lo, some h, some m => some ⟨lo.getD 0, h, m, 0 ≤ lo.getD 0 ∧ lo.getD 0 ≤ h ∧ h ≤ m ∧ m ≤ n⟩
  | lo, some h, none => some ⟨lo.getD 0, h, n, 0 ≤ lo.getD 0 ∧ lo.getD 0 ≤ h ∧ h ≤ n⟩
  | lo, none, none => some ⟨lo.getD 0, n, n, 0 ≤ lo.getD 0 ∧ lo.getD 0 ≤ n⟩
  | _, none, some _ => none
section ops
variable {E : Env} {T : Tab}
theorem opt_bound {ι : Nat → Option (Nat × Nat)} {imm : Nat → Prop} {w : World} {a : Act} {lo : Option Operand} {vs rest : List AV} {l : Option Int} {us : List Operand} (h : optI vs lo = some (l, rest)) (hv : VHs ι imm w vs ((lo.toList ++ us).map a.eval)) :
    VHs ι imm w rest (us.map a.eval) ∧ (lo = none ∧ l = none ∨ ∃ x k i, lo = some x ∧ l = some i ∧ a.eval x = .int k i) := by
  cases lo with
  | none => simp only [optI, Option.some.injEq, Prod.mk.injEq] at h; obtain ⟨rfl, rfl⟩ := h; exact ⟨by simpa using hv, .inl ⟨rfl, rfl⟩⟩
  | some x =>
    cases vs with
    | nil => simp [optI] at h
    | cons v vs =>
      simp only [optI] at h
      split at h
      · rename_i k i
        simp only [Option.some.injEq, Prod.mk.injEq] at h
        obtain ⟨rfl, rfl⟩ := h
        simp only [Option.toList_some, List.cons_append, List.nil_append, List.map_cons] at hv
        obtain ⟨v', us', he, h1, h2⟩ := hv
        simp only [List.cons.injEq] at he
        obtain ⟨rfl, rfl⟩ := he
        simp only [VH, PH] at h1
        exact ⟨h2, .inr ⟨x, k, i, rfl, rfl, h1.1⟩⟩
      · cases h
/-- A cut of what is sliced: what must hold, and what comes out. -/
def sliceAV (T : Tab) (d : TypeDesc) (H : Nat → Option Blk) (x : AV) (lo hi mx : Option Int) : Option (Prop × List (Nat × Blk) × AV) :=
  match d with
  | .array n e => match T.lookup e with
    | some r => match x with
      | .ptr b o => match H b with
        | some (.cells cs) => match cutOf n lo hi mx with
          | some c => some (c.pre ∧ o + n * r.size ≤ cs.length ∧ (c.l = 0 ∨ c.l < c.m), [(b, .cells cs)], .sl b (o + c.l.toNat * r.size) (c.h.toNat - c.l.toNat) r.size (decide (c.m = c.h)))
          | none => none
        | _ => none
      | .rp ps => match cutOf n lo hi mx with
        | some c => some (c.pre, [], .pv (.sl (some false) (c.h.toNat - c.l.toNat) ((ps.drop (c.l.toNat * r.size)).take ((c.h.toNat - c.l.toNat) * r.size))))
        | none => none
      | _ => none
    | none => none
  | .slice e => match T.lookup e with
    | some r => match x with
      | .pv (.sl f n ps) => match cutOf n lo hi mx with
        | some c => match mx with
          | none => some (c.pre, [], .pv (.sl f (c.h.toNat - c.l.toNat) ((ps.drop (c.l.toNat * r.size)).take ((c.h.toNat - c.l.toNat) * r.size))))
          | some _ => some (c.pre ∧ c.m = c.h, [], .tsl (c.h.toNat - c.l.toNat) ((ps.drop (c.l.toNat * r.size)).take ((c.h.toNat - c.l.toNat) * r.size)))
        | none => none
      | .tsl n ps => match cutOf n lo hi mx with
        | some c => some (c.pre ∧ c.m = c.h, [], .tsl (c.h.toNat - c.l.toNat) ((ps.drop (c.l.toNat * r.size)).take ((c.h.toNat - c.l.toNat) * r.size)))
        | none => none
      | .sl b o n s t => if s = r.size then match cutOf n lo hi mx with
          | some c => some (c.pre ∧ (c.l = 0 ∨ c.l < c.m), [], .sl b (o + c.l.toNat * s) (c.h.toNat - c.l.toNat) s (decide (c.m = c.h) && (mx.isSome || t)))
          | none => none
        else none
      | _ => none
    | none => none
  | .string => match x with
    | .pv (.lit (.string s)) => match mx, cutOf s.size lo hi mx with
      | none, some c => some (c.pre, [], .pv (.lit (.string (s.extract c.l.toNat c.h.toNat))))
      | _, _ => none
    | _ => none
  | _ => none
theorem cut_runs {P : Program} {w : World} {a : Act} {isSlice : Bool} {n cap : Nat} {lo hi mx : Option Operand} {l h m : Option Int} {c : Cut} (hc : cutOf n l h m = some c) (hp : c.pre) (hn : n ≤ cap)
    (hl : lo = none ∧ l = none ∨ ∃ x k i, lo = some x ∧ l = some i ∧ a.eval x = .int k i) (hh : hi = none ∧ h = none ∨ ∃ x k i, hi = some x ∧ h = some i ∧ a.eval x = .int k i) (hm : mx = none ∧ m = none ∨ ∃ x k i, mx = some x ∧ m = some i ∧ a.eval x = .int k i) :
    (Instr.sliceBounds isSlice n cap (lo.map a.eval) (hi.map a.eval) (mx.map a.eval)).run P w = .ok (c.l.toNat, c.h.toNat, (if m.isSome then c.m.toNat else cap)) w ∧ 0 ≤ c.l ∧ c.l ≤ c.h ∧ c.h ≤ c.m ∧ c.m ≤ n ∧ (m = none → c.m = n) := by
  have e1 : (lo.map a.eval = none ∧ l.getD 0 = 0) ∨ ∃ k, lo.map a.eval = some (.int k (l.getD 0)) := by
    rcases hl with ⟨rfl, rfl⟩ | ⟨x, k, i, rfl, rfl, e⟩
    · exact .inl ⟨rfl, rfl⟩
    · exact .inr ⟨k, by simp [e]⟩
  cases m with
  | none =>
    have em : mx.map a.eval = none := by
      rcases hm with ⟨rfl, _⟩ | ⟨x, k, i, _, e, _⟩
      · rfl
      · cases e
    cases h with
    | none =>
      have eh : hi.map a.eval = none := by
        rcases hh with ⟨rfl, _⟩ | ⟨x, k, i, _, e, _⟩
        · rfl
        · cases e
      simp only [cutOf, Option.some.injEq] at hc
      subst hc
      simp only at hp ⊢
      refine ⟨?_, hp.1, hp.2, Int.le_refl _, Int.le_refl _, fun _ => by trivial⟩
      rw [em, eh]
      have := run_sliceBounds (P := P) (w := w) (isSlice := isSlice) (len := n) (cap := cap) (lo := lo.map a.eval) (hi := none) (mx := none) (l := l.getD 0) (h := n) (m := cap) e1 (.inl ⟨rfl, rfl, rfl⟩) (.inl ⟨rfl, rfl⟩) hp.1 hp.2 (by omega) (Int.le_refl _)
      simpa using this
    | some h =>
      obtain ⟨k, eh⟩ : ∃ k, hi.map a.eval = some (.int k h) := by
        rcases hh with ⟨_, e⟩ | ⟨x, k, i, rfl, e, e'⟩
        · cases e
        · simp only [Option.some.injEq] at e; subst e; exact ⟨k, by simp [e']⟩
      simp only [cutOf, Option.some.injEq] at hc
      subst hc
      simp only at hp ⊢
      refine ⟨?_, hp.1, hp.2.1, hp.2.2, Int.le_refl _, fun _ => by trivial⟩
      rw [em, eh]
      have := run_sliceBounds (P := P) (w := w) (isSlice := isSlice) (len := n) (cap := cap) (lo := lo.map a.eval) (hi := some (.int k h)) (mx := none) (l := l.getD 0) (h := h) (m := cap) e1 (.inr ⟨k, rfl⟩) (.inl ⟨rfl, rfl⟩) hp.1 hp.2.1 (by omega) (Int.le_refl _)
      simpa using this
  | some m =>
    obtain ⟨k2, em⟩ : ∃ k, mx.map a.eval = some (.int k m) := by
      rcases hm with ⟨_, e⟩ | ⟨x, k, i, rfl, e, e'⟩
      · cases e
      · simp only [Option.some.injEq] at e; subst e; exact ⟨k, by simp [e']⟩
    cases h with
    | none => simp [cutOf] at hc
    | some h =>
      obtain ⟨k, eh⟩ : ∃ k, hi.map a.eval = some (.int k h) := by
        rcases hh with ⟨_, e⟩ | ⟨x, k, i, rfl, e, e'⟩
        · cases e
        · simp only [Option.some.injEq] at e; subst e; exact ⟨k, by simp [e']⟩
      simp only [cutOf, Option.some.injEq] at hc
      subst hc
      simp only at hp ⊢
      refine ⟨?_, hp.1, hp.2.1, hp.2.2.1, hp.2.2.2, fun e => by cases e⟩
      rw [em, eh]
      have := run_sliceBounds (P := P) (w := w) (isSlice := isSlice) (len := n) (cap := cap) (lo := lo.map a.eval) (hi := some (.int k h)) (mx := some (.int k2 m)) (l := l.getD 0) (h := h) (m := m) e1 (.inr ⟨k, rfl⟩) (.inr ⟨k2, rfl⟩) hp.1 hp.2.1 hp.2.2.1 (by omega)
      simpa using this
theorem PHs_cut {imm : Nat → Prop} {w : World} {ad : Addr} {ps : List PV} (h : ps ≠ [] → ad.spot = none ∧ imm ad.block ∧ PHs imm w ps ad.block ad.off) (k len : Nat) (z : Addr) (hz : z = ad.add k ∨ len = 0) :
    (ps.drop k).take len ≠ [] → z.spot = none ∧ imm z.block ∧ PHs imm w ((ps.drop k).take len) z.block z.off := by
  intro hne
  rcases hz with rfl | rfl
  · obtain ⟨h3, h4, h5⟩ := h (fun e => hne (by rw [e]; simp))
    rw [addr_eta h3, add_none]
    exact ⟨rfl, h4, h5.drop.take⟩
  · simp at hne
theorem cut_addr {A : Option Addr} {M l k : Nat} : ∃ A', (if M = l then A else A.map (·.add k)) = A' ∧ (A' = none ↔ A = none) ∧ ∀ a', A' = some a' → ∃ ad, A = some ad ∧ (a' = ad.add k ∨ M = l ∧ a' = ad) := by
  refine ⟨_, rfl, ?_, fun a' h => ?_⟩
  · split <;> simp
  · split at h
    · rename_i e; exact ⟨a', h, .inr ⟨e, rfl⟩⟩
    · cases A with
      | none => simp at h
      | some ad => simp only [Option.map_some, Option.some.injEq] at h; exact ⟨ad, rfl, .inl h.symm⟩
theorem does_slice (hT : TabOk E.P T) {o : Oper} {t : TypeId} {x : Operand} {lo hi mx : Option Operand} (ho : o.op = .slice t x lo hi mx) (hd : ∀ d, o.dst = some d → d < E.n) {r : TyRow} (hr : T.lookup t = some r) {H : Nat → Option Blk} {u : AV} {vs v1 v2 v3 : List AV} {l h m : Option Int}
    (h1 : optI vs lo = some (l, v1)) (h2 : optI v1 hi = some (h, v2)) (h3 : optI v2 mx = some (m, v3)) {p : Prop} {hs : List (Nat × Blk)} {z : AV} (hz : sliceAV T r.desc H u l h m = some (p, hs, z)) (hp : p) :
    Does E o (u :: vs) hs { v := z } := by
  refine Does.value hd fun ι imm st a w hsr hv hh => ?_
  rw [ho] at hv
  simp only [Op.operands, Array.toList_append, List.append_assoc] at hv
  have hv' : VHs ι imm w (u :: vs) (a.eval x :: (lo.toList ++ (hi.toList ++ (mx.toList ++ []))).map a.eval) := by
    simpa using hv
  obtain ⟨v', us', he, hu, hvs⟩ := hv'
  simp only [List.cons.injEq] at he
  obtain ⟨rfl, rfl⟩ := he
  obtain ⟨q1, hl⟩ := opt_bound h1 hvs
  obtain ⟨q2, hh'⟩ := opt_bound h2 q1
  obtain ⟨_, hm⟩ := opt_bound h3 q2
  unfold sliceAV at hz
  split at hz
  · -- an array's address
    rename_i n e hdesc
    split at hz
    · rename_i re hre
      split at hz
      · rename_i b o'
        split at hz
        · rename_i cs hcs
          split at hz
          · rename_i c hc
            simp only [Option.some.injEq, Prod.mk.injEq] at hz
            obtain ⟨rfl, rfl, rfl⟩ := hz
            obtain ⟨hp, hlen, hlm⟩ := hp
            obtain ⟨hrun, c1, c2, c3, c4, c5⟩ := cut_runs (P := E.P) (w := w) (isSlice := false) hc hp (Nat.le_refl n) hl hh' hm
            simp only [VH] at hu
            obtain ⟨q, z0, hi', he⟩ := hu
            obtain ⟨cc, ee, ff, g1, g2, _⟩ := hsr.heap.cells (hh _ (List.mem_cons_self ..)) hi'
            have hmm : (if m.isSome then c.m.toNat else n) = c.m.toNat := by
              cases m with
              | none => have := c5 rfl; simp; omega
              | some m => rfl
            refine ⟨.slice (some ⟨q, z0 + (o' + c.l.toNat * re.size), none⟩) (c.h.toNat - c.l.toNat) (c.m.toNat - c.l.toNat), ?_, ⟨q, z0, c.m.toNat - c.l.toNat, hi', rfl, by omega, fun ht => by have := of_decide_eq_true ht; omega, cc, ee, ff, g1, ?_⟩⟩
            · simp only [execOp, ho, he, Instr.sliceAt, Instr.sureAddr, run_bind', run_pure', run_underlying hT hr, hdesc, hrun, run_sizeOf hT hre, hmm]
              congr 3
              split
              · rename_i heq
                have : c.l.toNat = 0 := by omega
                rw [this]; simp
              · rw [add_none, Nat.add_assoc]
            · have : c.m.toNat - c.l.toNat + c.l.toNat ≤ n := by omega
              have h9 : (c.m.toNat - c.l.toNat) * re.size + c.l.toNat * re.size ≤ n * re.size := by rw [← Nat.add_mul]; exact Nat.mul_le_mul_right _ this
              omega
          · cases hz
        · cases hz
      · rename_i ps
        split at hz
        · rename_i c hc
          simp only [Option.some.injEq, Prod.mk.injEq] at hz
          obtain ⟨rfl, rfl, rfl⟩ := hz
          obtain ⟨hrun, c1, c2, c3, c4, c5⟩ := cut_runs (P := E.P) (w := w) (isSlice := false) hc hp (Nat.le_refl n) hl hh' hm
          simp only [VH] at hu
          obtain ⟨ad, he, hq⟩ := hu
          have hmm : (if m.isSome then c.m.toNat else n) = c.m.toNat := by
            cases m with
            | none => have := c5 rfl; simp; omega
            | some m => rfl
          refine ⟨.slice (some (if c.m.toNat = c.l.toNat then ad else ad.add (c.l.toNat * re.size))) (c.h.toNat - c.l.toNat) (c.m.toNat - c.l.toNat), ?_, ?_⟩
          · simp only [execOp, ho, he, Instr.sliceAt, Instr.sureAddr, run_bind', run_pure', run_underlying hT hr, hdesc, hrun, run_sizeOf hT hre, hmm]
          · simp only [VH, PH]
            refine ⟨_, _, rfl, by omega, fun h => by simp at h, fun _ h => by simp at h, fun h => by simp at h, fun a' ha' => ?_⟩
            simp only [Option.some.injEq] at ha'
            subst ha'
            refine PHs_cut hq _ _ _ ?_
            split
            · right; rename_i heq; have : c.h.toNat - c.l.toNat = 0 := by omega
              rw [this]; simp
            · exact .inl rfl
        · cases hz
      · cases hz
    · cases hz
  · -- a slice
    rename_i e hdesc
    split at hz
    · rename_i re hre
      have general : ∀ {A : Option Addr} {n cap : Nat} {c : Cut}, a.eval x = .slice A n cap → n ≤ cap → cutOf n l h m = some c → c.pre → (0 ≤ c.l ∧ c.l ≤ c.h ∧ c.h ≤ c.m ∧ c.m ≤ n ∧ (m = none → c.m = n)) ∧
          ∃ A' : Option Addr, (if (if m.isSome then c.m.toNat else cap) = c.l.toNat then A else A.map (·.add (c.l.toNat * re.size))) = A' ∧ (A' = none ↔ A = none) ∧ (∀ a', A' = some a' → ∃ ad, A = some ad ∧ (a' = ad.add (c.l.toNat * re.size) ∨ (if m.isSome then c.m.toNat else cap) = c.l.toNat ∧ a' = ad)) ∧ (execOp a.eval o).run E.P w = .ok (.value (.slice A' (c.h.toNat - c.l.toNat) ((if m.isSome then c.m.toNat else cap) - c.l.toNat))) w := by
        intro A n cap c he hn hc hp
        obtain ⟨hrun, hrest⟩ := cut_runs (P := E.P) (w := w) (isSlice := true) hc hp hn hl hh' hm
        obtain ⟨A', e1, e2, e3⟩ := cut_addr (A := A) (M := (if m.isSome then c.m.toNat else cap)) (l := c.l.toNat) (k := c.l.toNat * re.size)
        refine ⟨hrest, A', e1, e2, e3, ?_⟩
        simp only [execOp, ho, he, Instr.sliceAt, Instr.slice, run_bind', run_pure', run_underlying hT hr, hdesc, hrun, run_sizeOf hT hre, e1]
      split at hz
      · rename_i f n ps
        split at hz
        · rename_i c hc
          simp only [VH, PH] at hu
          obtain ⟨A, cap, he, hn, f1, f2, f3, f4⟩ := hu
          split at hz
          · simp only [Option.some.injEq, Prod.mk.injEq] at hz
            obtain ⟨rfl, rfl, rfl⟩ := hz
            obtain ⟨⟨c1, c2, c3, c4, c5⟩, A', _, e2, e3, hrun⟩ := general he hn hc hp
            simp only [Option.isSome_none, Bool.false_eq_true, if_false] at hrun e3
            have c6 := c5 rfl
            refine ⟨_, hrun, ?_⟩
            simp only [VH, PH]
            refine ⟨_, _, rfl, by omega, fun hf => e2.2 (f1 hf), fun hf hA => f2 hf (e2.1 hA), fun hA => ?_, fun a' ha' => ?_⟩
            · obtain ⟨k1, k2, k3⟩ := f3 (e2.1 hA)
              subst k3
              simp; omega
            · obtain ⟨ad, hA, hor⟩ := e3 a' ha'
              refine PHs_cut (fun hne => f4 ad hA hne) _ _ _ ?_
              rcases hor with hor | ⟨heq, _⟩
              · exact .inl hor
              · right
                have : c.h.toNat - c.l.toNat = 0 := by omega
                rw [this]; simp
          · rename_i m'
            simp only [Option.some.injEq, Prod.mk.injEq] at hz
            obtain ⟨rfl, rfl, rfl⟩ := hz
            obtain ⟨hp, hmh⟩ := hp
            obtain ⟨⟨c1, c2, c3, c4, c5⟩, A', _, e2, e3, hrun⟩ := general he hn hc hp
            simp only [Option.isSome_some, if_true] at hrun e3
            refine ⟨_, hrun, ?_⟩
            simp only [VH]
            refine ⟨_, by rw [hmh], fun hA => ?_, fun a' ha' => ?_⟩
            · obtain ⟨k1, k2, k3⟩ := f3 (e2.1 hA)
              subst k3
              simp; omega
            · obtain ⟨ad, hA, hor⟩ := e3 a' ha'
              refine PHs_cut (fun hne => f4 ad hA hne) _ _ _ ?_
              rcases hor with hor | ⟨heq, _⟩
              · exact .inl hor
              · right
                have : c.h.toNat - c.l.toNat = 0 := by omega
                rw [this]; simp
        · cases hz
      · rename_i n ps
        split at hz
        · rename_i c hc
          simp only [Option.some.injEq, Prod.mk.injEq] at hz
          obtain ⟨rfl, rfl, rfl⟩ := hz
          obtain ⟨hp, hmh⟩ := hp
          simp only [VH] at hu
          obtain ⟨A, he, f3, f4⟩ := hu
          obtain ⟨⟨c1, c2, c3, c4, c5⟩, A', _, e2, e3, hrun⟩ := general he (Nat.le_refl n) hc hp
          have hmm : (if m.isSome then c.m.toNat else n) = c.m.toNat := by
            cases m with
            | none => have := c5 rfl; simp; omega
            | some m => rfl
          rw [hmm] at hrun e3
          refine ⟨_, hrun, ?_⟩
          simp only [VH]
          refine ⟨_, by rw [hmh], fun hA => ?_, fun a' ha' => ?_⟩
          · obtain ⟨k1, k3⟩ := f3 (e2.1 hA)
            subst k3
            simp; omega
          · obtain ⟨ad, hA, hor⟩ := e3 a' ha'
            refine PHs_cut (fun hne => f4 ad hA hne) _ _ _ ?_
            rcases hor with hor | ⟨heq, _⟩
            · exact .inl hor
            · right
              have : c.h.toNat - c.l.toNat = 0 := by omega
              rw [this]; simp
        · cases hz
      · rename_i b o' n s t'
        split at hz
        · rename_i hse
          subst hse
          split at hz
          · rename_i c hc
            simp only [Option.some.injEq, Prod.mk.injEq] at hz
            obtain ⟨rfl, rfl, rfl⟩ := hz
            obtain ⟨hp, hlm⟩ := hp
            simp only [VH] at hu
            obtain ⟨q, z0, cap, hi', he, hn, ht, cc, ee, ff, g1, g2⟩ := hu
            obtain ⟨⟨c1, c2, c3, c4, c5⟩, A', e1, _, _, hrun⟩ := general he hn hc hp
            rw [← e1] at hrun
            have hle : (if m.isSome then c.m.toNat else cap) ≤ cap := by cases m <;> simp; omega
            have hge : c.m.toNat ≤ (if m.isSome then c.m.toNat else cap) := by cases m <;> simp; omega
            generalize hM : (if m.isSome then c.m.toNat else cap) = M at hrun hle hge
            have haddr : (if M = c.l.toNat then (some (⟨q, z0 + o', none⟩ : Addr)) else (some (⟨q, z0 + o', none⟩ : Addr)).map (·.add (c.l.toNat * re.size))) = some ⟨q, z0 + (o' + c.l.toNat * re.size), none⟩ := by
              split
              · have : c.l.toNat = 0 := by omega
                rw [this]; simp
              · simp only [Option.map_some, add_none, Nat.add_assoc]
            rw [haddr] at hrun
            refine ⟨_, hrun, ⟨q, z0, M - c.l.toNat, hi', rfl, by omega, fun h9 => ?_, cc, ee, ff, g1, ?_⟩⟩
            · simp only [Bool.and_eq_true, decide_eq_true_eq, Bool.or_eq_true] at h9
              rcases h9.2 with h8 | h8
              · rw [h8] at hM; simp at hM; omega
              · have := ht h8
                cases m with
                | none => have := c5 rfl; simp at hM; omega
                | some m => simp at hM; omega
            · have : M - c.l.toNat + c.l.toNat ≤ cap := by omega
              have h9 : (M - c.l.toNat) * re.size + c.l.toNat * re.size ≤ cap * re.size := by rw [← Nat.add_mul]; exact Nat.mul_le_mul_right _ this
              omega
          · cases hz
        · cases hz
      · cases hz
    · cases hz
  · -- a string
    rename_i hdesc
    split at hz
    · rename_i s
      split at hz
      · rename_i c hc
        simp only [Option.some.injEq, Prod.mk.injEq] at hz
        obtain ⟨rfl, rfl, rfl⟩ := hz
        simp only [VH, PH] at hu
        obtain ⟨hrun, c1, c2, c3, c4, c5⟩ := cut_runs (P := E.P) (w := w) (isSlice := false) hc hp (Nat.le_refl s.size) hl hh' hm
        have hmx : mx = none := by
          rcases hm with ⟨e, _⟩ | ⟨_, _, _, _, e, _⟩
          · exact e
          · cases e
        subst hmx
        refine ⟨.string (s.extract c.l.toNat c.h.toNat), ?_, by simp [VH, PH, flatB]⟩
        simp only [Option.map_none, Option.isSome_none, Bool.false_eq_true, if_false] at hrun
        simp only [execOp, ho, hu.1, Instr.sliceAt, Instr.slice, run_bind', run_pure', run_underlying hT hr, hdesc, Option.map_none, Option.isSome_none, Bool.false_eq_true, if_false, hrun]
      · cases hz
    · cases hz
  · cases hz
end ops
end Go.Am
namespace Go.Am
/-- A part of an aggregate's cells. -/
def partV (r : TyRow) (cs : List AV) (off : Nat) : Option AV :=
  if isAggD r.desc then (if off + r.size ≤ cs.length then some (.agg ((cs.drop off).take r.size)) else none) else (cs.drop off).head?
section ops
variable {E : Env} {T : Tab}
theorem VHs.drop {ι : Nat → Option (Nat × Nat)} {imm : Nat → Prop} {w : World} : ∀ {k : Nat} {xs : List AV} {us : List Value}, VHs ι imm w xs us → VHs ι imm w (xs.drop k) (us.drop k)
  | 0, _, _, h => h
  | k + 1, [], us, h => by simp only [VHs] at h; subst h; simp [VHs]
  | k + 1, x :: xs, us, h => by obtain ⟨v, us', rfl, _, q2⟩ := h; exact VHs.drop (k := k) q2
theorem VHs.take {ι : Nat → Option (Nat × Nat)} {imm : Nat → Prop} {w : World} : ∀ {k : Nat} {xs : List AV} {us : List Value}, VHs ι imm w xs us → VHs ι imm w (xs.take k) (us.take k)
  | 0, _, _, _ => by simp [VHs]
  | k + 1, [], us, h => by simp only [VHs] at h; subst h; simp [VHs]
  | k + 1, x :: xs, us, h => by obtain ⟨v, us', rfl, q1, q2⟩ := h; exact ⟨v, us'.take k, rfl, q1, VHs.take q2⟩
theorem run_part {P : Program} (hT : TabOk P T) {t : TypeId} {r : TyRow} (hr : T.lookup t = some r) {ι : Nat → Option (Nat × Nat)} {imm : Nat → Prop} {w : World} {cs : List AV} {us : List Value} (h : VHs ι imm w cs us) {off : Nat} {z : AV} (hz : partV r cs off = some z) :
    ∃ u, (part t (List.toArray us) off).run P w = .ok u w ∧ VH ι imm w z u := by
  unfold partV at hz
  simp only [part, run_bind', run_isAgg hT hr]
  cases hb : isAggD r.desc with
  | true =>
    simp only [hb, if_true] at hz
    split at hz
    · simp only [Option.some.injEq] at hz
      subst hz
      refine ⟨.agg ((List.toArray us).extract off (off + r.size)), by simp only [if_true, run_bind', run_sizeOf hT hr, run_pure'], ⟨(us.drop off).take r.size, ?_, h.drop.take⟩⟩
      congr 1
      apply Array.ext'
      simp [List.extract_eq_take_drop]
    · cases hz
  | false =>
    simp only [hb, Bool.false_eq_true, if_false] at hz
    have hd := h.drop (k := off)
    cases hcs : cs.drop off with
    | nil => rw [hcs] at hz; cases hz
    | cons y ys =>
      rw [hcs] at hz hd
      simp only [List.head?_cons, Option.some.injEq] at hz
      subst hz
      obtain ⟨v, us', he, q1, _⟩ := hd
      refine ⟨v, ?_, q1⟩
      have : (List.toArray us)[off]? = some v := by
        have h9 : (us.drop off)[0]? = some v := by rw [he]; rfl
        simpa using h9
      simp only [Bool.false_eq_true, if_false, this, run_pure']
def bt (s : ByteArray) (i : Int) : Int := ((s[i.toNat]?).map (fun b => (b.toNat : Int))).getD 0
/-- An element of an array by value, or a byte of a string. -/
def idxAV (T : Tab) (d : TypeDesc) (x : AV) (i : Int) : Option (Prop × AV) :=
  match d, x with
  | .array n e, .agg cs => match T.lookup e with
    | some r => match partV r cs (i.toNat * r.size) with
      | some z => some (0 ≤ i ∧ i < n, z)
      | none => none
    | none => none
  | .string, .pv (.lit (.string s)) => some (0 ≤ i ∧ i < s.size, .pv (.lit (.int .u8 (bt s i))))
  | _, _ => none
theorem does_index (hT : TabOk E.P T) {o : Oper} {t : TypeId} {x y : Operand} (ho : o.op = .index t x y) (hd : ∀ d, o.dst = some d → d < E.n) {r : TyRow} (hr : T.lookup t = some r) {k : IntKind} {i : Int} {u z : AV} {p : Prop} (hz : idxAV T r.desc u i = some (p, z)) (hp : p) :
    Does E o [u, .pv (.lit (.int k i))] [] { v := z } := by
  refine Does.value hd fun ι imm st a w hs hv _ => ?_
  rw [ho] at hv
  simp only [Op.operands, List.map_cons, List.map_nil] at hv
  obtain ⟨hv1, hv2⟩ := hv.two
  simp only [VH, PH] at hv2
  unfold idxAV at hz
  split at hz
  · rename_i n e cs hdesc
    split at hz
    · rename_i re hre
      split at hz
      · rename_i z' hz'
        simp only [Option.some.injEq, Prod.mk.injEq] at hz
        obtain ⟨rfl, rfl⟩ := hz
        simp only [VH] at hv1
        obtain ⟨us, he, hus⟩ := hv1
        obtain ⟨q, h1, h2⟩ := run_part hT hre hus hz'
        refine ⟨q, ?_, h2⟩
        simp only [execOp, ho, he, hv2.1, Instr.index, asIntOf, run_bind', run_pure', run_underlying hT hr, hdesc]
        rw [if_pos hp]
        simp only [run_bind', run_sizeOf hT hre, h1]
      · cases hz
    · cases hz
  · rename_i s hdesc
    simp only [Option.some.injEq, Prod.mk.injEq] at hz
    obtain ⟨rfl, rfl⟩ := hz
    simp only [VH, PH] at hv1
    have hlt : i.toNat < s.size := by omega
    refine ⟨.int .u8 (bt s i), ?_, by simp [VH, PH, flatB]⟩
    simp only [execOp, ho, hv1.1, hv2.1, Instr.index, asIntOf, run_bind', run_pure', run_underlying hT hr, hdesc]
    rw [if_pos hp.1]
    have : s[i.toNat]? = some s[i.toNat] := getElem?_pos s i.toNat hlt
    simp only [this, run_pure', bt, Option.map_some, Option.getD_some]
  · cases hz
theorem does_field (hT : TabOk E.P T) {o : Oper} {t : TypeId} {x : Operand} {f : Nat} (ho : o.op = .field t x f) (hd : ∀ d, o.dst = some d → d < E.n) {r : TyRow} (hr : T.lookup t = some r) {fs : Array Field} (hdesc : r.desc = .struct fs) {fd : Field} (hf : fs[f]? = some fd) {rf : TyRow} (hrf : T.lookup fd.type = some rf)
    {cs : List AV} {z : AV} (hz : partV rf cs fd.offset = some z) : Does E o [.agg cs] [] { v := z } := by
  refine Does.value hd fun ι imm st a w hs hv _ => ?_
  rw [ho] at hv
  simp only [Op.operands, List.map_cons, List.map_nil] at hv
  have hv := hv.one
  simp only [VH] at hv
  obtain ⟨us, he, hus⟩ := hv
  obtain ⟨q, h1, h2⟩ := run_part hT hrf hus hz
  exact ⟨q, by simp only [execOp, ho, he, Instr.field, asAgg, run_bind', run_pure', run_underlying hT hr, hdesc, hf, h1], h2⟩
/-- A slice as an array's address. -/
def arrAV (n sz : Nat) (x : AV) : Option (Prop × AV) :=
  match x with
  | .pv (.sl _ m ps) => some (n ≤ m ∧ 0 < n, .rp (ps.take (n * sz)))
  | .tsl m ps => some (n ≤ m ∧ 0 < n, .rp (ps.take (n * sz)))
  | .sl b o m s _ => if s = sz then some (n ≤ m ∧ 0 < n, .ptr b o) else none
  | _ => none
theorem does_toArray (hT : TabOk E.P T) {o : Oper} {t : TypeId} {x : Operand} (ho : o.op = .sliceToArrayPointer t x) (hd : ∀ d, o.dst = some d → d < E.n) {r : TyRow} (hr : T.lookup t = some r) {n e : Nat} (hdesc : r.desc = .array n e) {sz : Nat} {u z : AV} {p : Prop} (hz : arrAV n sz u = some (p, z)) (hp : p) :
    Does E o [u] [] { v := z } := by
  refine Does.value hd fun ι imm st a w hs hv _ => ?_
  rw [ho] at hv
  simp only [Op.operands, List.map_cons, List.map_nil] at hv
  have hv := hv.one
  have run : ∀ {A : Option Addr} {m cap : Nat}, a.eval x = .slice A m cap → n ≤ m → (execOp a.eval o).run E.P w = .ok (.value (.pointer A)) w := fun {A m cap} he hle => by
    simp only [execOp, ho, he, Instr.arrayAt, run_bind', run_underlying hT hr, hdesc]
    rw [if_neg (by omega)]; rfl
  unfold arrAV at hz
  split at hz
  · simp only [Option.some.injEq, Prod.mk.injEq] at hz
    obtain ⟨rfl, rfl⟩ := hz
    simp only [VH, PH] at hv
    obtain ⟨A, cap, he, h1, h2, h3, h4, h5⟩ := hv
    cases A with
    | none => obtain ⟨h6, _⟩ := h4 rfl; omega
    | some ad =>
      refine ⟨_, run he hp.1, ⟨ad, rfl, fun hne => ?_⟩⟩
      obtain ⟨q1, q2, q3⟩ := h5 ad rfl (fun e => hne (by rw [e]; simp))
      exact ⟨q1, q2, q3.take⟩
  · simp only [Option.some.injEq, Prod.mk.injEq] at hz
    obtain ⟨rfl, rfl⟩ := hz
    simp only [VH] at hv
    obtain ⟨A, he, h4, h5⟩ := hv
    cases A with
    | none => obtain ⟨h6, _⟩ := h4 rfl; omega
    | some ad =>
      refine ⟨_, run he hp.1, ⟨ad, rfl, fun hne => ?_⟩⟩
      obtain ⟨q1, q2, q3⟩ := h5 ad rfl (fun e => hne (by rw [e]; simp))
      exact ⟨q1, q2, q3.take⟩
  · split at hz
    · simp only [Option.some.injEq, Prod.mk.injEq] at hz
      obtain ⟨rfl, rfl⟩ := hz
      simp only [VH] at hv
      obtain ⟨q, z0, cap, hi, he, _⟩ := hv
      exact ⟨_, run he hp.1, ⟨q, z0, hi, rfl⟩⟩
    · cases hz
  · cases hz
theorem wrap_i64 {n : Int} (h0 : 0 ≤ n) (h1 : n ≤ 9223372036854775807) : IntKind.i64.wrap n = n := by
  have e1 : ((2 : Int) ^ 64) = 18446744073709551616 := by decide
  have e2 : ((2 : Int) ^ 63) = 9223372036854775808 := by decide
  simp only [IntKind.wrap, IntKind.bits, IntKind.signed, Bool.true_and]
  simp only [e1, show (64 - 1 : Nat) = 63 from rfl, e2]
  have : n % 18446744073709551616 = n := Int.emod_eq_of_lt h0 (by omega)
  rw [this, if_neg (by simp; omega)]
theorem makes_makeSlice (hT : TabOk E.P T) {o : Oper} {t : TypeId} {x y : Operand} (ho : o.op = .makeSlice t x y) {r re : TyRow} (hr : T.lookup t = some r) {e : TypeId} (hdesc : r.desc = .slice e) (hre : T.lookup e = some re) {k k' : IntKind} {len cap : Int}
    (h0 : 0 ≤ len) (h1 : len ≤ cap) (h2 : cap ≤ 140737488355328) (h3 : re.bytes * cap ≤ 140737488355328) :
    Makes E o [.pv (.lit (.int k len)), .pv (.lit (.int k' cap))] [] (fun d => .sl d 0 len.toNat re.size (decide (len = cap))) (.cells (zeroAV re.zero.cells (cap.toNat * re.size))) := by
  intro ι imm st a w hs hv _
  rw [ho] at hv
  simp only [Op.operands, List.map_cons, List.map_nil] at hv
  obtain ⟨hv1, hv2⟩ := hv.two
  simp only [VH, PH] at hv1 hv2
  obtain ⟨q1, q2⟩ := zeroAV_holds ι imm w re.zero.cells (cap.toNat * re.size)
  refine ⟨.cells ((Array.range (cap.toNat * re.size)).map (re.zero.cells[· % re.zero.cells.size]!)) e, .slice (some ⟨w.heap.size, 0, none⟩) len.toNat cap.toNat, ?_, ⟨_, _, rfl, by omega, q1⟩, fun d ι' hi => ⟨_, _, cap.toNat, hi, rfl, by omega, fun h => by have := of_decide_eq_true h; omega, (Array.range (cap.toNat * re.size)).map (re.zero.cells[· % re.zero.cells.size]!), e, (0, 0), ?_, by simp⟩⟩
  · obtain ⟨ri, g1, g2, g3, g4⟩ := run_typeInfo hT hre w (P := E.P)
    have w1 : IntKind.i64.wrap len = len := wrap_i64 h0 (by omega)
    have w2 : IntKind.i64.wrap cap = cap := wrap_i64 (by omega) (by omega)
    have hcond : ((decide (cap < 0) || decide ((ri.bytes : Int) * cap > 2 ^ 48) || decide (len < 0) || decide (len > cap)) = true) = False := by
      simp only [eq_iff_iff, iff_false, Bool.or_eq_true, decide_eq_true_eq, not_or, g3]
      refine ⟨⟨⟨by omega, ?_⟩, by omega⟩, by omega⟩
      have : ((2 : Int) ^ 48) = 281474976710656 := by decide
      rw [this]; omega
    simp only [execOp, ho, hv1.1, hv2.1, Instr.makeSlice, asInt, asIntOf, run_bind', run_pure', run_underlying hT hr, hdesc, g1, w1, w2]
    have hroom : ∀ w, (askRoom (cap.toNat * ri.bytes)).run E.P w = .ok () w := fun w => by
      unfold askRoom; split <;> rfl
    simp only [hcond, if_false, run_bind', hroom, run_sizeOf hT hre]
    by_cases hz : cap.toNat * re.size = 0
    · simp only [hz, if_true, run_pure', newRow, run_bind', newObj, Sem.run]
      have : ((Array.range 0).map (re.zero.cells[· % re.zero.cells.size]!)) = ((Array.range 0).map ((#[] : Array Value)[· % (#[] : Array Value).size]!)) := by simp
      rw [this]; rfl
    · simp only [if_neg hz, run_zeroValue hT hre, run_pure', newRow, run_bind', newObj, Sem.run]
      rfl
  · show (w.heap.push _)[w.heap.size]? = _
    rw [Array.getElem?_push, if_pos rfl]
theorem does_makeSlice (hT : TabOk E.P T) {o : Oper} {t : TypeId} {x y : Operand} (ho : o.op = .makeSlice t x y) {d : Nat} (hdst : o.dst = some d) (hd : d < E.n) {r re : TyRow} (hr : T.lookup t = some r) {e : TypeId} (hdesc : r.desc = .slice e) (hre : T.lookup e = some re) {k k' : IntKind} {len cap : Int}
    (h0 : 0 ≤ len) (h1 : len ≤ cap) (h2 : cap ≤ 140737488355328) (h3 : re.bytes * cap ≤ 140737488355328) :
    Does E o [.pv (.lit (.int k len)), .pv (.lit (.int k' cap))] [] { v := .sl d 0 len.toNat re.size (decide (len = cap)), new := [(d, .cells (zeroAV re.zero.cells (cap.toNat * re.size)))] } := (makes_makeSlice hT ho hr hdesc hre h0 h1 h2 h3).does hdst hd
def eqCell : AV → AV → Option Bool
  | .pv (.lit (.int k a)), .pv (.lit (.int k' b)) => if k = k' then some (a == b) else none
  | .pv (.lit (.bool a)), .pv (.lit (.bool b)) => some (a == b)
  | .pv (.lit (.string a)), .pv (.lit (.string b)) => some (a.toList == b.toList)
  | _, _ => none
def andO : Option Bool → Option Bool → Option Bool
  | some a, some b => some (a && b)
  | _, _ => none
def kindFits : TypeDesc → AV → Bool
  | .int _, .pv (.lit (.int _ _)) => true
  | .bool, .pv (.lit (.bool _)) => true
  | .string, .pv (.lit (.string _)) => true
  | _, _ => false
def eqFs (T : Tab) (rec : TyRow → AV → AV → Option Bool) (xs ys : List AV) : List Field → Option Bool
  | [] => some true
  | f :: fs => if f.name = "_" then none else match T.lookup f.type with
    | some r => match partV r xs f.offset, partV r ys f.offset with
      | some x, some y => andO (rec r x y) (eqFs T rec xs ys fs)
      | _, _ => none
    | none => none
def eqIs (rec : TyRow → AV → AV → Option Bool) (r : TyRow) (xs ys : List AV) : List Nat → Option Bool
  | [] => some true
  | i :: is => match partV r xs (i * r.size), partV r ys (i * r.size) with
    | some x, some y => andO (rec r x y) (eqIs rec r xs ys is)
    | _, _ => none
def eqFlat (d : TypeDesc) (x y : AV) : Option Bool := if kindFits d x && kindFits d y then eqCell x y else none
/-- Are two values of a type the same? -/
def eqAV (T : Tab) : Nat → TyRow → AV → AV → Option Bool
  | 0, _, _, _ => none
  | d + 1, r, x, y => match r.desc with
    | .struct fs => match x, y with
      | .agg xs, .agg ys => if r.eq then eqFs T (eqAV T d) xs ys fs.toList else none
      | _, _ => none
    | .array n e => match x, y with
      | .agg xs, .agg ys => match T.lookup e with
        | some re => eqIs (eqAV T d) re xs ys (List.range n)
        | none => none
      | _, _ => none
    | desc => eqFlat desc x y
theorem run_eqFlat {P : Program} (hT : TabOk P T) {t : TypeId} {r : TyRow} (hr : T.lookup t = some r) {ι : Nat → Option (Nat × Nat)} {imm : Nat → Prop} {w : World} {d : Nat} {x y : AV} {b : Bool}
    (h : eqFlat r.desc x y = some b) {u v : Value} (hx : VH ι imm w x u) (hy : VH ι imm w y v) : (Op.equalIn (d + 1) t u v).run P w = .ok b w := by
  have hu := (hT t r hr).1
  unfold eqFlat at h
  split at h
  · rename_i hk
    simp only [Bool.and_eq_true] at hk
    unfold eqCell at h
    split at h
    · split at h
      · rename_i k a k' b' hkk
        subst hkk
        simp only [Option.some.injEq] at h
        subst h
        simp only [VH, PH] at hx hy
        rw [hx.1, hy.1]
        cases hd : r.desc <;> rw [hd] at hk <;> simp only [kindFits, Bool.false_eq_true, false_and] at hk
        exact run_equalIn_int w d t k _ a b' (by rw [hu, hd])
      · cases h
    · rename_i a b'
      simp only [Option.some.injEq] at h
      subst h
      simp only [VH, PH] at hx hy
      rw [hx.1, hy.1]
      cases hd : r.desc <;> rw [hd] at hk <;> simp only [kindFits, Bool.false_eq_true, false_and] at hk
      exact run_equalIn_bool' w d t a b' (by rw [hu, hd])
    · rename_i a b'
      simp only [Option.some.injEq] at h
      subst h
      simp only [VH, PH] at hx hy
      rw [hx.1, hy.1]
      cases hd : r.desc <;> rw [hd] at hk <;> simp only [kindFits, Bool.false_eq_true, false_and] at hk
      exact run_equalIn_string w d t a b' (by rw [hu, hd])
    · cases h
  · cases h
theorem bind_ok {P : Program} {α β : Type} {s : Sem α} {f : α → Sem β} {w w' : World} {a : α} (h : s.run P w = .ok a w') : (s >>= f).run P w = (f a).run P w' := by
  rw [run_bind', h]
theorem run_eqFs {P : Program} (hT : TabOk P T) {ι : Nat → Option (Nat × Nat)} {imm : Nat → Prop} {w : World} {d : Nat} {rec : TyRow → AV → AV → Option Bool}
    (hrec : ∀ {t : TypeId} {r : TyRow} (_ : T.lookup t = some r) {x y : AV} {b : Bool} (_ : rec r x y = some b) {u v : Value} (_ : VH ι imm w x u) (_ : VH ι imm w y v), (Op.equalIn d t u v).run P w = .ok b w) :
    ∀ (fs : List Field) {xs ys : List AV} {b : Bool} (_ : eqFs T rec xs ys fs = some b) {us vs : List Value} (_ : VHs ι imm w xs us) (_ : VHs ι imm w ys vs), (Op.eqFields d (List.toArray us) (List.toArray vs) fs).run P w = .ok b w
  | [], xs, ys, b, h, us, vs, _, _ => by simp only [eqFs, Option.some.injEq] at h; subst h; rfl
  | f :: fs, xs, ys, b, h, us, vs, hx, hy => by
    simp only [eqFs] at h
    split at h
    · cases h
    · rename_i hn
      split at h
      · rename_i r hr
        split at h
        · rename_i x y hpx hpy
          unfold andO at h
          split at h
          · rename_i b1 b2 h1 h2
            simp only [Option.some.injEq] at h
            subst h
            obtain ⟨u, q1, q2⟩ := run_part hT hr hx hpx
            obtain ⟨v, q3, q4⟩ := run_part hT hr hy hpy
            have h3 := hrec hr h1 q2 q4
            rw [Op.eqFields, if_pos hn, bind_ok q1, bind_ok q3, bind_ok h3]
            cases b1
            · rfl
            · simp only [Bool.not_true, Bool.false_eq_true, if_false, Bool.true_and]
              exact run_eqFs hT hrec fs h2 hx hy
          · cases h
        · cases h
      · cases h
theorem run_eqIs {P : Program} (hT : TabOk P T) {ι : Nat → Option (Nat × Nat)} {imm : Nat → Prop} {w : World} {d : Nat} {rec : TyRow → AV → AV → Option Bool}
    (hrec : ∀ {t : TypeId} {r : TyRow} (_ : T.lookup t = some r) {x y : AV} {b : Bool} (_ : rec r x y = some b) {u v : Value} (_ : VH ι imm w x u) (_ : VH ι imm w y v), (Op.equalIn d t u v).run P w = .ok b w) {e : TypeId} {r : TyRow} (hr : T.lookup e = some r) :
    ∀ (is : List Nat) {xs ys : List AV} {b : Bool} (_ : eqIs rec r xs ys is = some b) {us vs : List Value} (_ : VHs ι imm w xs us) (_ : VHs ι imm w ys vs), (Op.eqItems d e r.size (List.toArray us) (List.toArray vs) is).run P w = .ok b w
  | [], xs, ys, b, h, us, vs, _, _ => by simp only [eqIs, Option.some.injEq] at h; subst h; rfl
  | i :: is, xs, ys, b, h, us, vs, hx, hy => by
    simp only [eqIs] at h
    split at h
    · rename_i x y hpx hpy
      unfold andO at h
      split at h
      · rename_i b1 b2 h1 h2
        simp only [Option.some.injEq] at h
        subst h
        obtain ⟨u, q1, q2⟩ := run_part hT hr hx hpx
        obtain ⟨v, q3, q4⟩ := run_part hT hr hy hpy
        have h3 := hrec hr h1 q2 q4
        rw [Op.eqItems, bind_ok q1, bind_ok q3, bind_ok h3]
        cases b1
        · rfl
        · simp only [Bool.not_true, Bool.false_eq_true, if_false, Bool.true_and]
          exact run_eqIs hT hrec hr is h2 hx hy
      · cases h
    · cases h
theorem run_eqAV {P : Program} (hT : TabOk P T) {ι : Nat → Option (Nat × Nat)} {imm : Nat → Prop} {w : World} : ∀ (d : Nat) {t : TypeId} {r : TyRow} (_ : T.lookup t = some r) {x y : AV} {b : Bool} (_ : eqAV T d r x y = some b) {u v : Value} (_ : VH ι imm w x u) (_ : VH ι imm w y v), (Op.equalIn d t u v).run P w = .ok b w
  | 0, _, _, _, _, _, _, h, _, _, _, _ => by simp [eqAV] at h
  | d + 1, t, r, hr, x, y, b, h, u, v, hx, hy => by
    have hu := (hT t r hr).1
    unfold eqAV at h
    split at h
    · rename_i fs hfs
      split at h
      · rename_i xs ys
        split at h
        · rename_i hq
          simp only [VH] at hx hy
          obtain ⟨us, rfl, hus⟩ := hx
          obtain ⟨vs, rfl, hvs⟩ := hy
          have hst := ((hT t r hr).2.2 hq).1
          have hfo : P.fieldsOf t = fs := by simp only [Program.fieldsOf, hu, hfs]
          rw [run_equalIn_struct w d t _ _ (by rw [hfo, hu, hfs]) hst, hfo]
          exact run_eqFs hT (fun hr' _ _ _ h' _ _ q1 q2 => run_eqAV hT d hr' h' q1 q2) fs.toList h hus hvs
        · cases h
      · cases h
    · rename_i n e hne
      split at h
      · rename_i xs ys
        split at h
        · rename_i re hre
          simp only [VH] at hx hy
          obtain ⟨us, rfl, hus⟩ := hx
          obtain ⟨vs, rfl, hvs⟩ := hy
          obtain ⟨_, ⟨i, hi, hsz, _⟩, _⟩ := hT e re hre
          have hc : P.cellsOf e = re.size := by simp [Program.cellsOf, hi, hsz]
          rw [run_equalIn_array w d _ _ (by rw [hu, hne]) hi, hc]
          exact run_eqIs hT (fun hr' _ _ _ h' _ _ q1 q2 => run_eqAV hT d hr' h' q1 q2) hre (List.range n) h hus hvs
        · cases h
      · cases h
    · exact run_eqFlat hT hr h hx hy
/-- `==` and `!=` of aggregates. -/
def eqAgg (T : Tab) (op : BinOp) (r : TyRow) (x y : AV) : Option AV :=
  match x, y with
  | .agg _, .agg _ => if r.eq then match op, eqAV T 10000 r x y with
      | .eql, some b => some (.pv (.lit (.bool b)))
      | .neq, some b => some (.pv (.lit (.bool !b)))
      | _, _ => none
    else none
  | _, _ => none
theorem does_eqAgg (hT : TabOk E.P T) {o : Oper} {op : BinOp} {t yt : TypeId} {x y : Operand} (ho : o.op = .binOp op t x y yt) (hd : ∀ d, o.dst = some d → d < E.n) {r : TyRow} (hr : T.lookup t = some r) {u v z : AV} (h : eqAgg T op r u v = some z) : Does E o [u, v] [] { v := z } := by
  refine Does.value hd fun ι imm st a w hs hv _ => ?_
  rw [ho] at hv
  simp only [Op.operands, List.map_cons, List.map_nil] at hv
  obtain ⟨h1, h2⟩ := hv.two
  unfold eqAgg at h
  split at h
  · rename_i xs ys
    split at h
    · rename_i hq
      have heq : ∀ {b}, eqAV T 10000 r (.agg xs) (.agg ys) = some b → (Op.equal t (a.eval x) (a.eval y)).run E.P w = .ok b w := fun {b} hb => run_eqAV hT 10000 hr hb h1 h2
      simp only [VH] at h1 h2
      obtain ⟨us, e1, _⟩ := h1
      obtain ⟨vs, e2, _⟩ := h2
      have hg : (eqGuard op t x y (a.eval x) (a.eval y)).run E.P w = .ok () w := by rw [e1, e2]; exact run_eqGuard_agg w op t x y _ _ ((hT t r hr).2.2 hq).2
      split at h
      · rename_i b hb
        simp only [Option.some.injEq] at h
        subst h
        refine ⟨.bool b, ?_, by simp [VH, PH, flatB]⟩
        have := heq hb
        have hbin : (binOp .eql t (a.eval x) (a.eval y)).run E.P w = .ok (.bool b) w := by
          rw [e1, e2] at this ⊢
          show (do let q ← Op.equal t _ _; pure (Value.bool q) : Sem Value).run E.P w = _
          rw [bind_ok this]; rfl
        simp only [execOp, ho, run_bind', hg, hbin, run_pure']
      · rename_i b hb
        simp only [Option.some.injEq] at h
        subst h
        refine ⟨.bool !b, ?_, by simp [VH, PH, flatB]⟩
        have := heq hb
        have hbin : (binOp .neq t (a.eval x) (a.eval y)).run E.P w = .ok (.bool !b) w := by
          rw [e1, e2] at this ⊢
          show (do let q ← Op.equal t _ _; pure (Value.bool !q) : Sem Value).run E.P w = _
          rw [bind_ok this]; rfl
        simp only [execOp, ho, run_bind', hg, hbin, run_pure']
      · cases h
    · cases h
  · cases h
/-- A slice, or a map, held against nil. -/
def nilS : AV → Option Bool
  | .pv (.sl (some f) _ _) => some f
  | .pv (.sl none (_ + 1) _) => some false
  | .sl _ _ _ _ _ => some false
  | _ => none
def nilM : AV → Option Bool
  | .pv (.lit (.map none)) => some true
  | .mp _ => some false
  | _ => none
def opB (op : BinOp) (b : Bool) : Option AV := match op with | .eql => some (.pv (.lit (.bool b))) | .neq => some (.pv (.lit (.bool !b))) | _ => none
def eqNil (op : BinOp) (d : TypeDesc) (x y : AV) : Option AV :=
  match d with
  | .slice _ => match nilS x, nilS y with
    | some a, some b => if a || b then opB op (a && b) else none
    | _, _ => none
  | .map _ _ => match nilM x, nilM y with
    | some a, some b => if a || b then opB op (a && b) else none
    | _, _ => none
  | _ => none
theorem nilS_holds {ι : Nat → Option (Nat × Nat)} {imm : Nat → Prop} {w : World} {x : AV} {f : Bool} (h : nilS x = some f) {v : Value} (hv : VH ι imm w x v) : ∃ A n c, v = .slice A n c ∧ A.isNone = f := by
  unfold nilS at h
  split at h
  · rename_i g n ps
    simp only [Option.some.injEq] at h
    simp only [VH, PH] at hv
    obtain ⟨A, cap, e, _, h1, h2, _⟩ := hv
    rw [h] at h1 h2
    refine ⟨A, _, _, e, ?_⟩
    cases f
    · have := h2 rfl; cases A <;> simp_all
    · rw [h1 rfl]; rfl
  · simp only [Option.some.injEq] at h
    subst h
    simp only [VH, PH] at hv
    obtain ⟨A, cap, e, _, _, _, h3, _⟩ := hv
    refine ⟨A, _, _, e, ?_⟩
    cases A with
    | none => have := (h3 rfl).1; omega
    | some a => rfl
  · simp only [Option.some.injEq] at h
    subst h
    simp only [VH] at hv
    obtain ⟨r, z, cap, _, e, _⟩ := hv
    exact ⟨_, _, _, e, rfl⟩
  · cases h
theorem nilM_holds {ι : Nat → Option (Nat × Nat)} {imm : Nat → Prop} {w : World} {x : AV} {f : Bool} (h : nilM x = some f) {v : Value} (hv : VH ι imm w x v) : ∃ A, v = .map A ∧ A.isNone = f := by
  unfold nilM at h
  split at h
  · simp only [Option.some.injEq] at h
    subst h
    simp only [VH, PH] at hv
    exact ⟨none, hv.1, rfl⟩
  · simp only [Option.some.injEq] at h
    subst h
    simp only [VH] at hv
    obtain ⟨r, z, _, e⟩ := hv
    exact ⟨_, e, rfl⟩
  · cases h
theorem does_eqNil (hT : TabOk E.P T) {o : Oper} {op : BinOp} {t yt : TypeId} {x y : Operand} (ho : o.op = .binOp op t x y yt) (hd : ∀ d, o.dst = some d → d < E.n) {r : TyRow} (hr : T.lookup t = some r) {u v z : AV} (h : eqNil op r.desc u v = some z) : Does E o [u, v] [] { v := z } := by
  refine Does.value hd fun ι imm st a w hs hv _ => ?_
  rw [ho] at hv
  simp only [Op.operands, List.map_cons, List.map_nil] at hv
  obtain ⟨h1, h2⟩ := hv.two
  have hu := run_underlying hT hr w (P := E.P)
  obtain ⟨dep, hdp⟩ : ∃ d, Op.maxDepth = d + 1 := ⟨_, rfl⟩
  have fin : ∀ {b : Bool}, (Op.equal t (a.eval x) (a.eval y)).run E.P w = .ok b w → (eqGuard op t x y (a.eval x) (a.eval y)).run E.P w = .ok () w → (∀ op', (op' = .eql ∨ op' = .neq) → binOp op' t (a.eval x) (a.eval y) = (match op' with | .eql => (do let q ← Op.equal t (a.eval x) (a.eval y); pure (Value.bool q)) | _ => (do let q ← Op.equal t (a.eval x) (a.eval y); pure (Value.bool !q)) : Sem Value)) →
      opB op b = some z → ∃ q, (execOp a.eval o).run E.P w = .ok (.value q) w ∧ VH ι imm w z q := by
    intro b hb hg hbin hz
    by_cases e1 : op = .eql
    · subst e1
      simp only [opB, Option.some.injEq] at hz; subst hz
      refine ⟨.bool b, ?_, by simp [VH, PH, flatB]⟩
      simp only [execOp, ho, run_bind', hg, hbin .eql (.inl rfl), hb, run_pure']
    · by_cases e2 : op = .neq
      · subst e2
        simp only [opB, Option.some.injEq] at hz; subst hz
        refine ⟨.bool !b, ?_, by simp [VH, PH, flatB]⟩
        simp only [execOp, ho, run_bind', hg, hbin .neq (.inr rfl), hb, run_pure']
      · exfalso; cases op <;> simp_all [opB]
  unfold eqNil at h
  split at h
  · rename_i e hdesc
    split at h
    · rename_i f g hf hg
      split at h
      · rename_i hfg
        obtain ⟨A, n, c, e1, e2⟩ := nilS_holds hf h1
        obtain ⟨B, m, c', e3, e4⟩ := nilS_holds hg h2
        refine fin (b := f && g) ?_ (by rw [e1]; exact eqGuard_run w (by simp) (by simp)) (fun op' ho' => by rw [e1, e3]; rcases ho' with rfl | rfl <;> rfl) h
        unfold Op.equal
        rw [hdp, e1, e3]
        cases A <;> cases B <;> simp only [Option.isNone_none, Option.isNone_some] at e2 e4 <;> subst e2 <;> subst e4 <;> first | (cases hfg; done) | skip
        all_goals simp only [Op.equalIn, run_bind', hu, hdesc, run_pure']; rfl
      · cases h
    · cases h
  · rename_i kt et hdesc
    split at h
    · rename_i f g hf hg
      split at h
      · rename_i hfg
        obtain ⟨A, e1, e2⟩ := nilM_holds hf h1
        obtain ⟨B, e3, e4⟩ := nilM_holds hg h2
        refine fin (b := f && g) ?_ (by rw [e1]; exact eqGuard_run w (by simp) (by simp)) (fun op' ho' => by rw [e1, e3]; rcases ho' with rfl | rfl <;> rfl) h
        unfold Op.equal
        rw [hdp, e1, e3]
        cases A <;> cases B <;> simp only [Option.isNone_none, Option.isNone_some] at e2 e4 <;> subst e2 <;> subst e4 <;> first | (cases hfg; done) | skip
        all_goals simp only [Op.equalIn, run_bind', hu, hdesc, run_pure']; rfl
      · cases h
    · cases h
  · cases h
end ops
end Go.Am
namespace Go.Am
mutual
/-- A value with its blocks named anew. -/
def AV.ren (σ : Nat → Nat) : AV → AV
  | .undef => .undef
  | .pv p => .pv p
  | .agg cs => .agg (AV.renL σ cs)
  | .tup cs => .tup (AV.renL σ cs)
  | .ptr b o => .ptr (σ b) o
  | .sl b o n s t => .sl (σ b) o n s t
  | .slc b o n s c => .slc (σ b) o n s c
  | .tsl n ps => .tsl n ps
  | .rp ps => .rp ps
  | .mp b => .mp (σ b)
  | .fn f xs ys => .fn f (AV.renL σ xs) (AV.renL σ ys)
def AV.renL (σ : Nat → Nat) : List AV → List AV
  | [] => []
  | x :: xs => AV.ren σ x :: AV.renL σ xs
end
def Blk.ren (σ : Nat → Nat) : Blk → Blk
  | .cells cs => .cells (AV.renL σ cs)
  | .map es => .map (es.map fun e => (e.1.ren σ, e.2.ren σ))
  | .mapx es q => .mapx (es.map fun e => (e.1.ren σ, e.2.1.ren σ, e.2.2)) q
  | .iter b since seen c0 => .iter (σ b) since seen c0
  | .siter s pos => .siter s pos
mutual
/-- Where two maps of blocks agree on what a value names, the value is the same. -/
theorem VH.ren {ι κ : Nat → Option (Nat × Nat)} {imm : Nat → Prop} {w : World} {σ : Nat → Nat} {U : Nat → Bool} (h : ∀ b, U b = true → κ (σ b) = ι b) : ∀ (x : AV) (v : Value), x.within U = true → (VH κ imm w (x.ren σ) v ↔ VH ι imm w x v)
  | .undef, _, _ => Iff.rfl
  | .pv _, _, _ => Iff.rfl
  | .tsl _ _, _, _ => Iff.rfl
  | .rp _, _, _ => Iff.rfl
  | .agg cs, v, hu => by
    simp only [AV.within] at hu
    simp only [AV.ren, VH]
    exact exists_congr fun vs => and_congr_right fun _ => VHs.ren h cs vs hu
  | .tup cs, v, hu => by
    simp only [AV.within] at hu
    simp only [AV.ren, VH]
    exact exists_congr fun vs => and_congr_right fun _ => VHs.ren h cs vs hu
  | .ptr b o, v, hu => by simp only [AV.within] at hu; simp only [AV.ren, VH, h b hu]
  | .sl b o n s t, v, hu => by simp only [AV.within] at hu; simp only [AV.ren, VH, h b hu]
  | .slc b o n s c, v, hu => by simp only [AV.within] at hu; simp only [AV.ren, VH, h b hu]
  | .mp b, v, hu => by simp only [AV.within] at hu; simp only [AV.ren, VH, h b hu]
  | .fn f xs ys, v, hu => by
    simp only [AV.within, Bool.and_eq_true] at hu
    simp only [AV.ren, VH]
    exact exists_congr fun vs => exists_congr fun us => and_congr_right fun _ => and_congr (VHs.ren h xs vs hu.1) (VHs.ren h ys us hu.2)
theorem VHs.ren {ι κ : Nat → Option (Nat × Nat)} {imm : Nat → Prop} {w : World} {σ : Nat → Nat} {U : Nat → Bool} (h : ∀ b, U b = true → κ (σ b) = ι b) : ∀ (xs : List AV) (vs : List Value), AV.withinL U xs = true → (VHs κ imm w (AV.renL σ xs) vs ↔ VHs ι imm w xs vs)
  | [], _, _ => Iff.rfl
  | x :: xs, vs, hu => by
    simp only [AV.withinL, Bool.and_eq_true] at hu
    simp only [AV.renL, VHs]
    exact exists_congr fun v => exists_congr fun us => and_congr_right fun _ => and_congr (VH.ren h x v hu.1) (VHs.ren h xs us hu.2)
end
theorem renL_length (σ : Nat → Nat) : ∀ (xs : List AV), (AV.renL σ xs).length = xs.length
  | [] => rfl
  | x :: xs => by simp [AV.renL, renL_length σ xs]
theorem CellsH.ren {ι κ : Nat → Option (Nat × Nat)} {imm : Nat → Prop} {w : World} {σ : Nat → Nat} {U : Nat → Bool} (h : ∀ b, U b = true → κ (σ b) = ι b) {c : Array Value} : ∀ {xs : List AV} {o : Nat}, AV.withinL U xs = true → (CellsH κ imm w c (AV.renL σ xs) o ↔ CellsH ι imm w c xs o)
  | [], _, _ => Iff.rfl
  | x :: xs, o, hu => by
    simp only [AV.withinL, Bool.and_eq_true] at hu
    simp only [AV.renL, CellsH]
    exact and_congr (exists_congr fun v => and_congr_right fun _ => VH.ren h x v hu.1) (CellsH.ren h hu.2)
theorem EntsH.ren {ι κ : Nat → Option (Nat × Nat)} {imm : Nat → Prop} {w : World} {σ : Nat → Nat} {U : Nat → Bool} (h : ∀ b, U b = true → κ (σ b) = ι b) : ∀ {xs : List (AV × AV)} {es : List MapEntry}, (xs.all fun e => e.1.within U && e.2.within U) = true → (EntsH κ imm w (xs.map fun e => (e.1.ren σ, e.2.ren σ)) es ↔ EntsH ι imm w xs es)
  | [], _, _ => Iff.rfl
  | x :: xs, es, hu => by
    simp only [List.all_cons, Bool.and_eq_true] at hu
    simp only [List.map_cons, EntsH]
    exact exists_congr fun v => exists_congr fun us => and_congr_right fun _ => and_congr (VH.ren h _ _ hu.1.1) (and_congr (VH.ren h _ _ hu.1.2) (EntsH.ren h (by simpa using hu.2)))
mutual
theorem rigid_ren (σ : Nat → Nat) : ∀ (x : AV), rigid (x.ren σ) = rigid x
  | .agg cs => by simp only [AV.ren, rigid]; exact rigidL_ren σ cs
  | .undef | .pv _ | .tup _ | .ptr _ _ | .sl _ _ _ _ _ | .slc _ _ _ _ _ | .tsl _ _ | .rp _ | .mp _ | .fn _ _ _ => by simp [AV.ren, rigid]
theorem rigidL_ren (σ : Nat → Nat) : ∀ (xs : List AV), rigidL (AV.renL σ xs) = rigidL xs
  | [] => rfl
  | x :: xs => by simp only [AV.renL, rigidL]; rw [rigid_ren σ x, rigidL_ren σ xs]
end
mutual
theorem ren_rigid {σ : Nat → Nat} : ∀ (x : AV), rigid x = true → x.ren σ = x
  | .agg cs, h => by simp only [rigid] at h; simp only [AV.ren]; rw [renL_rigid cs h]
  | .pv _, _ => rfl
  | .undef, h | .tup _, h | .ptr _ _, h | .sl _ _ _ _ _, h | .slc _ _ _ _ _, h | .tsl _ _, h | .rp _, h | .mp _, h | .fn _ _ _, h => by simp [rigid] at h
theorem renL_rigid {σ : Nat → Nat} : ∀ (xs : List AV), rigidL xs = true → AV.renL σ xs = xs
  | [], _ => rfl
  | x :: xs, h => by
    simp only [rigidL, Bool.and_eq_true] at h
    simp only [AV.renL]
    rw [ren_rigid x h.1, renL_rigid xs h.2]
end
theorem KeysOk.ren {σ : Nat → Nat} {es : List (AV × AV)} : KeysOk (es.map fun e => (e.1.ren σ, e.2.ren σ)) ↔ KeysOk es := by
  have key : (∀ e ∈ es, rigid e.1 = true) → (es.map fun e => (e.1.ren σ, e.2.ren σ)).map (·.1) = es.map (·.1) := fun h => by
    rw [List.map_map]
    exact List.map_congr_left fun e he => ren_rigid e.1 (h e he)
  constructor
  · rintro ⟨h1, h2⟩
    have h3 : ∀ e ∈ es, rigid e.1 = true := fun e he => by
      have := h1 _ (List.mem_map.2 ⟨e, he, rfl⟩)
      rwa [rigid_ren σ e.1] at this
    exact ⟨h3, by rwa [key h3] at h2⟩
  · rintro ⟨h1, h2⟩
    refine ⟨fun e he => ?_, by rwa [key h1]⟩
    obtain ⟨e', he', rfl⟩ := List.mem_map.1 he
    rw [rigid_ren σ e'.1]; exact h1 e' he'
theorem BlkH.ren {ι κ : Nat → Option (Nat × Nat)} {imm : Nat → Prop} {w : World} {σ : Nat → Nat} {U : Nat → Bool} (h : ∀ b, U b = true → κ (σ b) = ι b) {r z : Nat} : ∀ {k : Blk}, k.within U = true → (BlkH κ imm w r z (k.ren σ) ↔ BlkH ι imm w r z k)
  | .cells cs, hu => by
    simp only [Blk.within] at hu
    simp only [Blk.ren, BlkH, renL_length]
    exact exists_congr fun c => exists_congr fun e => exists_congr fun f => and_congr_right fun _ => and_congr_right fun _ => and_congr_right fun _ => CellsH.ren h hu
  | .map es, hu => by
    simp only [Blk.within] at hu
    simp only [Blk.ren, BlkH]
    exact exists_congr fun c => exists_congr fun q => exists_congr fun l => and_congr_right fun _ => and_congr_right fun _ => and_congr_right fun _ => and_congr (EntsH.ren h hu) (and_congr_left fun _ => KeysOk.ren)
  | .mapx es q, hu => by
    simp only [Blk.within] at hu
    have e1 : dropB (es.map fun e => (e.1.ren σ, e.2.1.ren σ, e.2.2)) = (dropB es).map fun e => (e.1.ren σ, e.2.ren σ) := by simp [dropB]
    have e2 : (es.map fun e => (e.1.ren σ, e.2.1.ren σ, e.2.2)).map (·.2.2) = es.map (·.2.2) := by simp
    simp only [Blk.ren, BlkH, e1, e2]
    exact exists_congr fun c => and_congr_right fun _ => and_congr_right fun _ => and_congr (EntsH.ren h hu) (and_congr_right fun _ => and_congr_left fun _ => KeysOk.ren)
  | .iter b since seen c0, hu => by
    simp only [Blk.within] at hu
    simp only [Blk.ren, BlkH, h b hu]
  | .siter _ _, _ => Iff.rfl
def heapOf (H : List (Nat × Blk)) (b : Nat) : Option Blk := H.lookup b
/-- The real blocks of a heap. -/
def Rof (ι : Nat → Option (Nat × Nat)) (H : List (Nat × Blk)) (r : Nat) : Prop := ∃ b k z, heapOf H b = some k ∧ ι b = some (r, z)
def inI (I : List Nat) (b : Nat) : Bool := I.contains b
/-- Called with these values, over these blocks of one's own (I: all blocks that they name), a function answers this value, and leaves these blocks. -/
def ACalls (P : Program) (f : FuncId) (I : List Nat) (avs : List AV) (H : List (Nat × Blk)) (av : AV) (H' : List (Nat × Blk)) : Prop :=
  ∀ ι imm w M vs, HR ι imm w M (heapOf H) → VHs ι imm w avs vs → (∀ k, imm k → k < w.heap.size) → (∀ b x, ι b = some x → inI I b = true) →
    Calls P f (List.toArray vs) w fun e w' => ∃ v ι' imm', e = .returned v ∧ VH ι' imm' w' av v ∧ Grows ι ι' imm imm' w w' ∧ Ext (Rof ι H) w w' ∧ HR ι' imm' w' (fun r => Rof ι H r ∨ w.heap.size ≤ r) (heapOf H') ∧
      (∀ k, imm' k → imm k ∨ Rof ι H k ∨ w.heap.size ≤ k) ∧ (∀ k, imm' k → k < w'.heap.size)
/-- How a callee's blocks are named at the caller's: those that it was handed, and new ones. -/
structure Names where
  σ : Nat → Nat
  L : List (Nat × Nat)          -- (the caller's new name, the callee's)
def Names.τ (N : Names) (I : List Nat) (c : Nat) : Nat := if inI I c then N.σ c else ((N.L.find? fun x => x.2 == c).map (·.1)).getD 0
/-- The callee's names that are known. -/
def Names.knows (N : Names) (I : List Nat) (c : Nat) : Bool := inI I c || N.L.any fun x => x.2 == c
/-- What a call does at the caller's. -/
def Names.delta (N : Names) (I : List Nat) (H H' : List (Nat × Blk)) (av : AV) : Delta where
  v := av.ren (N.τ I)
  new := N.L.map fun x => (x.1, ((heapOf H' x.2).getD (.cells [])).ren (N.τ I))
  wr := H.map fun x => (N.σ x.1, (heapOf H' x.1).map (·.ren (N.τ I)))
structure CallOk (N : Names) (I : List Nat) (avs : List AV) (H H' : List (Nat × Blk)) (av : AV) : Prop where
  args : AV.withinL (inI I) avs = true
  ids : ∀ x ∈ H, inI I x.1 = true
  blks : ∀ x ∈ H, x.2.within (inI I) = true
  nodup : (H.map (·.1)).Nodup
  inj : ∀ b c, inI I b = true → inI I c = true → N.σ b = N.σ c → b = c
  nodupL : (N.L.map (·.1)).Nodup
  nodupR : (N.L.map (·.2)).Nodup
  fresh : ∀ x ∈ N.L, inI I x.2 = false
  res : av.within (N.knows I) = true
  res' : ∀ x ∈ H', N.knows I x.1 = true ∧ x.2.within (N.knows I) = true
  kept : ∀ x ∈ H', inI I x.1 = true → ∃ k, (x.1, k) ∈ H
  all : ∀ x ∈ N.L, (heapOf H' x.2).isSome = true
  used : ∀ b, inI I b = true → refs avs H b = true ∨ (heapOf H b).isSome = true
theorem lookup_of_mem {α : Type} : ∀ {l : List (Nat × α)} {x : Nat × α}, (l.map (·.1)).Nodup → x ∈ l → l.lookup x.1 = some x.2
  | [], x, _, hx => by cases hx
  | y :: ys, x, hn, hx => by
    simp only [List.map_cons, List.nodup_cons] at hn
    simp only [List.lookup]
    cases hx with
    | head => simp
    | tail _ hm =>
      have : (x.1 == y.1) = false := by
        simp only [beq_eq_false_iff_ne, ne_eq]
        intro e
        exact hn.1 (e ▸ List.mem_map_of_mem hm)
      simp only [this]
      exact lookup_of_mem hn.2 hm
theorem lookup_map {α β : Type} (g : Nat × α → β) : ∀ (l : List (Nat × α)) (b : Nat), (l.map fun x => (x.1, g x)).lookup b = (l.find? fun x => x.1 == b).map g
  | [], _ => rfl
  | x :: l, b => by
    simp only [List.map_cons, List.lookup, List.find?_cons]
    by_cases h : x.1 = b
    · subst h; simp
    · have h1 : (b == x.1) = false := by simpa using Ne.symm h
      have h2 : (x.1 == b) = false := by simpa using h
      simp only [h1, h2]
      exact lookup_map g l b
theorem find_fst {α : Type} {l : List (Nat × α)} (hn : (l.map (·.1)).Nodup) {x : Nat × α} (hx : x ∈ l) : l.find? (fun y => y.1 == x.1) = some x := by
  induction l with
  | nil => cases hx
  | cons y ys ih =>
    simp only [List.map_cons, List.nodup_cons] at hn
    simp only [List.find?_cons]
    cases hx with
    | head => simp
    | tail _ hm =>
      have : (y.1 == x.1) = false := by
        simp only [beq_eq_false_iff_ne, ne_eq]
        intro e; exact hn.1 (e ▸ List.mem_map_of_mem hm)
      simp only [this]
      exact ih hn.2 hm
theorem find_snd {l : List (Nat × Nat)} (hn : (l.map (·.2)).Nodup) {x : Nat × Nat} (hx : x ∈ l) : l.find? (fun y => y.2 == x.2) = some x := by
  induction l with
  | nil => cases hx
  | cons y ys ih =>
    simp only [List.map_cons, List.nodup_cons] at hn
    simp only [List.find?_cons]
    cases hx with
    | head => simp
    | tail _ hm =>
      have : (y.2 == x.2) = false := by
        simp only [beq_eq_false_iff_ne, ne_eq]
        intro e; exact hn.1 (e ▸ List.mem_map_of_mem hm)
      simp only [this]
      exact ih hn.2 hm
/-- The heart of a call: the callee's end, told at the caller's. -/
theorem call_end {E : Env} {N : Names} {I : List Nat} {avs : List AV} {H H' : List (Nat × Blk)} {av : AV} (ok : CallOk N I avs H H' av) {ι : Nat → Option (Nat × Nat)} {imm : Nat → Prop} {st : St} {a : Act} {w : World} (hs : SR E ι imm st a w)
    (hdeps : ∀ x ∈ H, st.H (N.σ x.1) = some (x.2.ren N.σ)) (hfresh : ∀ x ∈ N.L, st.U x.1 = false) {κ : Nat → Option (Nat × Nat)} (hκ : κ = fun b => if inI I b then ι (N.σ b) else none) (hsome : ∀ b, inI I b = true → (κ b).isSome = true)
    {v : Value} {ι' : Nat → Option (Nat × Nat)} {imm' : Nat → Prop} {w' : World} (hv : VH ι' imm' w' av v) (g : Grows κ ι' imm imm' w w') (hext : Ext (Rof κ H) w w') (hH : HR ι' imm' w' (fun r => Rof κ H r ∨ w.heap.size ≤ r) (heapOf H'))
    (himm : ∀ k, imm' k → imm k ∨ Rof κ H k ∨ w.heap.size ≤ k) (hlt : ∀ k, imm' k → k < w'.heap.size) {d : Option Nat} (hd : ∀ t, d = some t → t < E.n) :
    At E (st.after d (N.delta I H H' av)) (a.put d v) w' := by
  have hL : ∀ x ∈ N.L, ι x.1 = none := fun x hx => by
    cases hi : ι x.1 with
    | none => rfl
    | some y => have := hs.used _ _ hi; rw [hfresh x hx] at this; cases this
  let ι'' : Nat → Option (Nat × Nat) := fun b => match N.L.find? (fun x => x.1 == b) with | some x => ι' x.2 | none => ι b
  have f1 : ∀ x ∈ N.L, ι'' x.1 = ι' x.2 := fun x hx => by
    show (match N.L.find? (fun y => y.1 == x.1) with | some x => ι' x.2 | none => ι x.1) = _
    rw [find_fst ok.nodupL hx]
  have f2 : ∀ b, (∀ x ∈ N.L, x.1 ≠ b) → ι'' b = ι b := fun b hb => by
    show (match N.L.find? (fun y => y.1 == b) with | some x => ι' x.2 | none => ι b) = _
    have : N.L.find? (fun y => y.1 == b) = none := List.find?_eq_none.2 fun x hx => by simpa using hb x hx
    rw [this]
  have f3 : ∀ b y, ι b = some y → ι'' b = some y := fun b y hy => by
    rw [f2 b fun x hx e => by rw [← e, hL x hx] at hy; cases hy]; exact hy
  have hκI : ∀ c, inI I c = true → κ c = ι (N.σ c) := fun c hc => by rw [hκ]; simp only [hc, if_true]
  have f4 : ∀ c, N.knows I c = true → ι'' (N.τ I c) = ι' c := fun c hc => by
    by_cases hi : inI I c = true
    · obtain ⟨y, hy⟩ := Option.isSome_iff_exists.1 (hsome c hi)
      have h1 : N.τ I c = N.σ c := by simp only [Names.τ, hi, if_true]
      rw [h1, g.ext c y hy]
      exact f3 _ _ (by rw [← hκI c hi]; exact hy)
    · simp only [Names.knows, Bool.or_eq_true, List.any_eq_true, beq_iff_eq] at hc
      rcases hc with hc | ⟨x, hx, rfl⟩
      · exact absurd hc hi
      · have h1 : N.τ I x.2 = x.1 := by
          simp only [Names.τ]
          rw [if_neg hi, find_snd ok.nodupR hx]; rfl
        rw [h1]; exact f1 x hx
  have hRM : ∀ r, Rof κ H r → E.M r := fun r ⟨b, k, z, hb, hz⟩ => by
    have hm := lookup_mem (l := H) hb
    have hi := ok.ids _ hm
    obtain ⟨r', z', h1, _, h3, _⟩ := hs.heap.blk _ _ (hdeps _ hm)
    rw [← hκI b hi, hz] at h1
    simp only [Option.some.injEq, Prod.mk.injEq] at h1
    exact h1.1 ▸ h3
  have hHM : ∀ r, (Rof κ H r ∨ w.heap.size ≤ r) → E.M r := fun r h => h.elim (hRM r) fun h => .inr (Nat.le_trans hs.ext.size h)
  have g' : Grows ι ι'' imm imm' w w' := ⟨f3, g.stays, g.rows⟩
  -- a block that the callee did not have
  have hold : ∀ b k r z, st.H b = some k → ι b = some (r, z) → (∀ x ∈ H, N.σ x.1 ≠ b) → r < w.heap.size ∧ ¬ Rof κ H r := fun b k r z hb hi hne => by
    refine ⟨?_, fun ⟨c, kc, zc, hc, hz⟩ => ?_⟩
    · obtain ⟨r', z', h1, _, _, h4⟩ := hs.heap.blk b k hb
      rw [hi] at h1
      simp only [Option.some.injEq, Prod.mk.injEq] at h1
      obtain ⟨rfl, rfl⟩ := h1
      have : ∃ x, w.heap[r]? = some x := by
        cases k with
        | cells cs => obtain ⟨c, e, f, h1, _⟩ := h4; exact ⟨_, h1⟩
        | map es => obtain ⟨c, q, _, _, h2, _⟩ := h4; exact ⟨_, h2⟩
        | mapx es q => obtain ⟨c, _, h2, _⟩ := h4; exact ⟨_, h2⟩
        | iter b since seen c0 => obtain ⟨m, _, _, h2⟩ := h4; exact ⟨_, h2⟩
        | siter s pos => exact ⟨_, h4.2⟩
      obtain ⟨x, hx⟩ := this
      rcases Nat.lt_or_ge r w.heap.size with h' | h'
      · exact h'
      · rw [Array.getElem?_eq_none h'] at hx; cases hx
    · have hm := lookup_mem (l := H) hc
      rw [hκI c (ok.ids _ hm)] at hz
      exact hne _ hm (hs.heap.inj _ _ _ _ _ _ _ (hdeps _ hm) hb hz hi)
  have hnewL : ∀ b, (N.delta I H H' av).new.lookup b = (N.L.find? fun x => x.1 == b).map fun x => ((heapOf H' x.2).getD (.cells [])).ren (N.τ I) := fun b => lookup_map _ _ _
  -- what a block of the new state is
  have hcase : ∀ b k, (N.delta I H H' av).H st.H b = some k → (∃ c kc, N.knows I c = true ∧ heapOf H' c = some kc ∧ b = N.τ I c ∧ k = kc.ren (N.τ I)) ∨ ((∀ x ∈ N.L, x.1 ≠ b) ∧ (∀ x ∈ H, N.σ x.1 ≠ b) ∧ st.H b = some k) := fun b k hb => by
    simp only [Delta.H, hnewL] at hb
    cases hf : N.L.find? (fun x => x.1 == b) with
    | some x =>
      rw [hf] at hb
      simp only [Option.map_some, Option.some.injEq] at hb
      have hx := List.mem_of_find?_eq_some hf
      have hxb : x.1 = b := by simpa using List.find?_some hf
      obtain ⟨kc, hkc⟩ := Option.isSome_iff_exists.1 (ok.all x hx)
      have hi := ok.fresh x hx
      refine .inl ⟨x.2, kc, ?_, hkc, ?_, ?_⟩
      · simp only [Names.knows, Bool.or_eq_true, List.any_eq_true]; exact .inr ⟨x, hx, by simp⟩
      · simp only [Names.τ, hi, Bool.false_eq_true, if_false, find_snd ok.nodupR hx, Option.map_some, Option.getD_some]; exact hxb.symm
      · rw [hkc] at hb; simpa using hb.symm
    | none =>
      rw [hf] at hb
      simp only [Option.map_none] at hb
      have hnL : ∀ x ∈ N.L, x.1 ≠ b := fun x hx e => by
        have := List.find?_eq_none.1 hf x hx
        simp [e] at this
      cases hw : (N.delta I H H' av).wr.lookup b with
      | some q =>
        rw [hw] at hb
        simp only at hb
        subst hb
        have hm := lookup_mem hw
        simp only [Names.delta, List.mem_map] at hm
        obtain ⟨x, hx, he⟩ := hm
        simp only [Prod.mk.injEq] at he
        obtain ⟨rfl, he⟩ := he
        have hi := ok.ids x hx
        cases hh : heapOf H' x.1 with
        | none => rw [hh] at he; simp at he
        | some kc =>
          rw [hh] at he
          simp only [Option.map_some, Option.some.injEq] at he
          refine .inl ⟨x.1, kc, by simp only [Names.knows, hi, Bool.true_or], hh, by simp only [Names.τ, hi, if_true], he.symm⟩
      | none =>
        rw [hw] at hb
        simp only at hb
        refine .inr ⟨hnL, fun x hx e => ?_, hb⟩
        have hin : (N.σ x.1, (heapOf H' x.1).map (·.ren (N.τ I))) ∈ (N.delta I H H' av).wr := List.mem_map.2 ⟨x, hx, rfl⟩
        have none_of : ∀ (l : List (Nat × Option Blk)) (p : Nat × Option Blk), p ∈ l → l.lookup p.1 ≠ none := by
          intro l
          induction l with
          | nil => intro p h; cases h
          | cons y ys ih =>
            intro p h
            simp only [List.lookup]
            split
            · simp
            · rename_i hne
              cases h with
              | head => simp at hne
              | tail _ hm => exact ih p hm
        exact none_of _ _ hin (by simp only; rw [e]; exact hw)
  have sr : SR E ι'' imm' ⟨st.S, (N.delta I H H' av).H st.H, (N.delta I H H' av).U st.U⟩ a w' := by
    refine hs.turn g' hext.os hext.tape hext.output hext.drawn hext.size (fun k hk hM => hext.block k hk fun hR => hM (hRM k hR)) ⟨fun b k hb => ?_, fun b b' k k' r z z' hb hb' hi hi' => ?_⟩ (fun b x hx => ?_) (fun k hk => (himm k hk).elim .inl fun h => .inr (hHM k h)) hlt
    · rcases hcase b k hb with ⟨c, kc, hkn, hc, rfl, rfl⟩ | ⟨hnL, hnH, hb⟩
      · obtain ⟨r, z, q1, q2, q3, q4⟩ := hH.blk c kc hc
        exact ⟨r, z, by rw [f4 c hkn]; exact q1, q2, hHM r q3, (BlkH.ren f4 (ok.res' _ (lookup_mem hc)).2).2 q4⟩
      · obtain ⟨r, z, q1, q2, q3, q4⟩ := hs.heap.blk b k hb
        obtain ⟨hlt', hnR⟩ := hold b k r z hb q1 hnH
        exact ⟨r, z, f3 _ _ q1, fun hi => (himm r hi).elim q2 fun h => h.elim hnR fun h => Nat.not_lt.2 h hlt', q3, q4.grows g' (hext.block r hlt' hnR)⟩
    · rcases hcase b k hb with ⟨c, kc, hkn, hc, rfl, rfl⟩ | ⟨hnL, hnH, hb⟩ <;> rcases hcase b' k' hb' with ⟨c', kc', hkn', hc', rfl, rfl⟩ | ⟨hnL', hnH', hb'⟩
      · rw [f4 c hkn] at hi
        rw [f4 c' hkn'] at hi'
        rw [hH.inj c c' kc kc' r z z' hc hc' hi hi']
      · rw [f4 c hkn] at hi
        obtain ⟨r1, z1, q1, _, q3, _⟩ := hH.blk c kc hc
        rw [hi] at q1
        simp only [Option.some.injEq, Prod.mk.injEq] at q1
        obtain ⟨rfl, rfl⟩ := q1
        rw [f2 b' hnL'] at hi'
        obtain ⟨h1, h2⟩ := hold b' k' r z' hb' hi' hnH'
        exact (q3.elim h2 fun h => Nat.not_lt.2 h h1).elim
      · rw [f4 c' hkn'] at hi'
        obtain ⟨r1, z1, q1, _, q3, _⟩ := hH.blk c' kc' hc'
        rw [hi'] at q1
        simp only [Option.some.injEq, Prod.mk.injEq] at q1
        obtain ⟨rfl, rfl⟩ := q1
        rw [f2 b hnL] at hi
        obtain ⟨h1, h2⟩ := hold b k r z hb hi hnH
        exact (q3.elim h2 fun h => Nat.not_lt.2 h h1).elim
      · rw [f2 b hnL] at hi
        rw [f2 b' hnL'] at hi'
        exact hs.heap.inj b b' k k' r z z' hb hb' hi hi'
    · simp only [Delta.U, hnewL, Bool.or_eq_true]
      by_cases hb : ∃ x ∈ N.L, x.1 = b
      · obtain ⟨x, hxL, rfl⟩ := hb
        left; rw [find_fst ok.nodupL hxL]; rfl
      · right
        rw [f2 b fun y hy e => hb ⟨y, hy, e⟩] at hx
        exact hs.used b x hx
  exact ⟨ι'', imm', sr.put d hd ((VH.ren f4 av v ok.res).2 hv)⟩
theorem run_callFunc {P : Program} {f : FuncId} {fn : Func} (hf : P.funcs[f]? = some fn) (hn : (fn.name == "runtime.NumGoroutine") = false) (hb : fn.body.isNone = false) (args : Array Value) (w : World) : (callFunc f args).run P w = .ok (.enter f args) w := by
  simp only [callFunc, program, run_bind', Sem.run, hf, hn, hb, Bool.false_eq_true, if_false, run_pure']
theorem VHs.append {ι : Nat → Option (Nat × Nat)} {imm : Nat → Prop} {w : World} : ∀ {xs ys : List AV} {us vs : List Value}, VHs ι imm w xs us → VHs ι imm w ys vs → VHs ι imm w (xs ++ ys) (us ++ vs)
  | [], _, _, _, h, h' => by simp only [VHs] at h; subst h; exact h'
  | x :: xs, _, _, _, h, h' => by obtain ⟨v, us', rfl, q1, q2⟩ := h; exact ⟨v, _, rfl, q1, VHs.append q2 h'⟩
/-- A call of a function, or of a function value. -/
theorem does_call {E : Env} {o : Oper} {c : Call} {x : Operand} (ho : o.op = .call c) (hc : c.callee = .value x) (hd : ∀ d, o.dst = some d → d < E.n) {f : FuncId} {fn : Func} (hf : E.P.funcs[f]? = some fn) (hn : (fn.name == "runtime.NumGoroutine") = false) (hb : fn.body.isNone = false)
    {N : Names} {I : List Nat} {avs : List AV} {H H' : List (Nat × Blk)} {av : AV} (C : ACalls E.P f I avs H av H') (ok : CallOk N I avs H H' av) {args caps : List AV} (hargs : AV.renL N.σ avs = args ++ caps) :
    Does E o (.fn f [] caps :: args) (H.map fun x => (N.σ x.1, x.2.ren N.σ)) (N.delta I H H' av) := by
  intro ι imm st a w Q hs hv hh hfr
  have hvs := hs.evls hv
  rw [ho] at hvs
  have hops : (Op.operands (.call c)).toList = x :: c.args.toList := by simp [Op.operands, Call.operands, hc]
  rw [hops, List.map_cons] at hvs
  obtain ⟨v', us', he, hu, hvs⟩ := hvs
  simp only [List.cons.injEq] at he
  obtain ⟨he, rfl⟩ := he
  simp only [VH] at hu
  obtain ⟨fs, cs, hfv, hfs, hcs⟩ := hu
  simp only [VHs] at hfs
  subst hfs
  have hrun : (execOp a.eval o).run E.P w = .ok (.enter f ((c.args.map a.eval) ++ cs.toArray)) w := by
    simp only [execOp, ho, resolve, hc, Deferred.ofValue, he, hfv, run_bind', run_pure', invoke, run_callFunc hf hn hb]
    simp
  unfold Oper.wp
  rw [hrun, Oper.upon_enter]
  let κ : Nat → Option (Nat × Nat) := fun b => if inI I b then ι (N.σ b) else none
  have hκI : ∀ b, inI I b = true → ι (N.σ b) = κ b := fun b hb => by show _ = (if inI I b then _ else _); rw [if_pos hb]
  have hall : VHs κ imm w avs ((c.args.toList.map a.eval) ++ cs) := (VHs.ren hκI avs _ ok.args).1 (by rw [hargs]; exact hvs.append hcs)
  have hdeps : ∀ x ∈ H, st.H (N.σ x.1) = some (x.2.ren N.σ) := fun x hx => hh (N.σ x.1, x.2.ren N.σ) (List.mem_map.2 ⟨x, hx, rfl⟩)
  have hfresh : ∀ x ∈ N.L, st.U x.1 = false := fun x hx => hfr (x.1, _) (List.mem_map.2 ⟨x, hx, rfl⟩)
  have hHR : HR κ imm w E.M (heapOf H) := by
    refine ⟨fun b k hbk => ?_, fun b b' k k' r z z' hbk hbk' hi hi' => ?_⟩
    · have hm := lookup_mem (l := H) hbk
      obtain ⟨r, z, q1, q2, q3, q4⟩ := hs.heap.blk _ _ (hdeps _ hm)
      exact ⟨r, z, (hκI b (ok.ids _ hm)).symm.trans q1, q2, q3, (BlkH.ren hκI (ok.blks _ hm)).1 q4⟩
    · have hm := lookup_mem (l := H) hbk
      have hm' := lookup_mem (l := H) hbk'
      rw [← hκI b (ok.ids _ hm)] at hi
      rw [← hκI b' (ok.ids _ hm')] at hi'
      exact ok.inj b b' (ok.ids _ hm) (ok.ids _ hm') (hs.heap.inj _ _ _ _ r z z' (hdeps _ hm) (hdeps _ hm') hi hi')
  have hsome : ∀ b, inI I b = true → (κ b).isSome = true := fun b hb => by
    rcases ok.used b hb with h | h
    · refine refs_in (U := fun b => (κ b).isSome) (VHs.within (fun b x hx => by simp [hx]) avs _ hall) (fun x hx => ?_) h
      have hl := lookup_of_mem ok.nodup hx
      obtain ⟨r, z, _, _, _, q4⟩ := hHR.blk x.1 x.2 hl
      exact BlkH.within (fun b x hx => by simp [hx]) x.2 q4
    · obtain ⟨k, hk⟩ := Option.isSome_iff_exists.1 h
      obtain ⟨r, z, q1, _⟩ := hHR.blk b k hk
      rw [q1]; rfl
  have hC := C κ imm w E.M _ hHR hall hs.immlt (fun b x hx => by
    by_cases h : inI I b = true
    · exact h
    · have : κ b = none := by show (if inI I b then _ else _) = _; rw [if_neg h]
      rw [this] at hx; cases hx)
  have harr : (c.args.map a.eval) ++ cs.toArray = List.toArray ((c.args.toList.map a.eval) ++ cs) := by
    apply Array.ext'; simp
  rw [harr]
  refine hC.mono ?_
  rintro e w' ⟨v, ι', imm', rfl, q1, q2, q3, q4, q5, q6⟩
  exact call_end ok hs hdeps hfresh rfl hsome q1 q2 q3 q4 q5 q6 hd
end Go.Am
