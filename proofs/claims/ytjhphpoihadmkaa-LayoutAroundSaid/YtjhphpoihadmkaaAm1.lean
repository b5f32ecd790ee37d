/- An abstract machine over the kit's calls, part 1: pure data (PV), abstract values (AV), and what they say of a world's memory. No conditions. -/
import Derived.Calls
import Derived.Orders
import Derived.Below
namespace Go.Am
open Go.RowKit (Below)

/-- A value of one cell that leads nowhere. -/
def flatB : Value → Bool
  | .bool _ | .int _ _ | .string _ | .pointer none | .map none | .nilFunc | .nilIface => true
  | _ => false

/-- Pure data: what a cell holds, whatever hangs on it included. `sl f n ps`: a slice of n elements, `ps` its cells, row by row; `f`: is it nil, if known. -/
inductive PV where
  | lit (v : Value)
  | sl (f : Option Bool) (n : Nat) (ps : List PV)

abbrev PV.int (k : IntKind) (n : Int) : PV := .lit (.int k n)
abbrev PV.bool (b : Bool) : PV := .lit (.bool b)
abbrev PV.str (s : ByteArray) : PV := .lit (.string s)

/-- Abstract values. `ptr b o`: to cell o of own block b; `sl b o n s t`: a slice over own block b, n elements of s cells, t: its capacity is its length; `tsl`: a slice of unchanging cells whose capacity is its length; `rp ps`: to unchanging cells that hold ps. -/
inductive AV where
  | undef
  | pv (p : PV)
  | agg (cs : List AV)
  | tup (vs : List AV)
  | ptr (b o : Nat)
  | sl (b o n s : Nat) (t : Bool)
  | slc (b o n s c : Nat)          -- .. whose capacity is known
  | tsl (n : Nat) (ps : List PV)
  | rp (ps : List PV)
  | mp (b : Nat)
  | fn (f : Nat) (first caps : List AV)

mutual
/-- A value holds pure data, in memory that is `imm`. -/
def PH (imm : Nat → Prop) (w : World) : PV → Value → Prop
  | .lit x, v => v = x ∧ flatB x = true
  | .sl f n ps, v => ∃ A cap, v = .slice A n cap ∧ n ≤ cap ∧ (f = some true → A = none) ∧ (f = some false → A ≠ none) ∧ (A = none → n = 0 ∧ cap = 0 ∧ ps = []) ∧
      ∀ a, A = some a → ps ≠ [] → a.spot = none ∧ imm a.block ∧ PHs imm w ps a.block a.off
/-- Cells hold pure data, from an address on. -/
def PHs (imm : Nat → Prop) (w : World) : List PV → Nat → Nat → Prop
  | [], _, _ => True
  | p :: ps, b, o => (∃ v, w.cell? ⟨b, o, none⟩ = some v ∧ PH imm w p v) ∧ PHs imm w ps b (o + 1)
end

/-- What is unchanging stays. -/
structure Stays (imm imm' : Nat → Prop) (w w' : World) : Prop where
  sub : ∀ k, imm k → imm' k
  same : ∀ k, imm k → w'.heap[k]? = w.heap[k]?

theorem Stays.refl (imm : Nat → Prop) (w : World) : Stays imm imm w w := ⟨fun _ h => h, fun _ _ => rfl⟩
theorem Stays.trans {i j k : Nat → Prop} {a b c : World} (h : Stays i j a b) (h' : Stays j k b c) : Stays i k a c :=
  ⟨fun x hx => h'.sub x (h.sub x hx), fun x hx => (h'.same x (h.sub x hx)).trans (h.same x hx)⟩

theorem Stays.cell {i j : Nat → Prop} {a b : World} (h : Stays i j a b) {k : Nat} (hk : i k) (o : Nat) : b.cell? ⟨k, o, none⟩ = a.cell? ⟨k, o, none⟩ := by
  simp only [World.cell?, h.same k hk]

mutual
theorem PH.stays {i j : Nat → Prop} {a b : World} (h : Stays i j a b) : ∀ (p : PV) (v : Value), PH i a p v → PH j b p v
  | .lit _, _, hp => hp
  | .sl f n ps, v, hp => by
    simp only [PH] at hp ⊢
    obtain ⟨A, cap, h1, h2, h3, h4, h5, h6⟩ := hp
    exact ⟨A, cap, h1, h2, h3, h4, h5, fun x hx hne => let ⟨s1, s2, s3⟩ := h6 x hx hne; ⟨s1, h.sub _ s2, PHs.stays h ps x.block x.off s2 s3⟩⟩
theorem PHs.stays {i j : Nat → Prop} {a b : World} (h : Stays i j a b) : ∀ (ps : List PV) (k o : Nat), i k → PHs i a ps k o → PHs j b ps k o
  | [], _, _, _, _ => trivial
  | p :: ps, k, o, hk, hp => by
    simp only [PHs] at hp ⊢
    obtain ⟨⟨v, h1, h2⟩, h3⟩ := hp
    exact ⟨⟨v, (h.cell hk o).trans h1, PH.stays h p v h2⟩, PHs.stays h ps k (o + 1) hk h3⟩
end

mutual
/-- A value is as told. ι: where own blocks lie (block, first cell). -/
def VH (ι : Nat → Option (Nat × Nat)) (imm : Nat → Prop) (w : World) : AV → Value → Prop
  | .undef, _ => True
  | .pv p, v => PH imm w p v
  | .agg cs, v => ∃ vs, v = .agg (List.toArray vs) ∧ VHs ι imm w cs vs
  | .tup cs, v => ∃ vs, v = .tuple (List.toArray vs) ∧ VHs ι imm w cs vs
  | .ptr b o, v => ∃ r z, ι b = some (r, z) ∧ v = .pointer (some ⟨r, z + o, none⟩)
  | .sl b o n s t, v => ∃ r z cap, ι b = some (r, z) ∧ v = .slice (some ⟨r, z + o, none⟩) n cap ∧ n ≤ cap ∧ (t = true → cap = n) ∧
      ∃ c e f, w.heap[r]? = some (.cells c e f) ∧ z + o + cap * s ≤ c.size
  | .slc b o n s k, v => ∃ r z, ι b = some (r, z) ∧ v = .slice (some ⟨r, z + o, none⟩) n k ∧ n ≤ k ∧ ∃ c e f, w.heap[r]? = some (.cells c e f) ∧ z + o + k * s ≤ c.size
  | .tsl n ps, v => ∃ A, v = .slice A n n ∧ (A = none → n = 0 ∧ ps = []) ∧ ∀ a, A = some a → ps ≠ [] → a.spot = none ∧ imm a.block ∧ PHs imm w ps a.block a.off
  | .rp ps, v => ∃ a, v = .pointer (some a) ∧ (ps ≠ [] → a.spot = none ∧ imm a.block ∧ PHs imm w ps a.block a.off)
  | .mp b, v => ∃ r z, ι b = some (r, z) ∧ v = .map (some r)
  | .fn f first caps, v => ∃ vs us, v = .func (.func f) (List.toArray vs) (List.toArray us) ∧ VHs ι imm w first vs ∧ VHs ι imm w caps us
def VHs (ι : Nat → Option (Nat × Nat)) (imm : Nat → Prop) (w : World) : List AV → List Value → Prop
  | [], vs => vs = []
  | c :: cs, vs => ∃ v us, vs = v :: us ∧ VH ι imm w c v ∧ VHs ι imm w cs us
end

/-- Where own blocks lie is only added to; blocks of cells keep their sizes. -/
structure Grows (ι ι' : Nat → Option (Nat × Nat)) (imm imm' : Nat → Prop) (w w' : World) : Prop where
  ext : ∀ b x, ι b = some x → ι' b = some x
  stays : Stays imm imm' w w'
  rows : ∀ (r : Nat) (c : Array Value) (e : TypeId) (f : Nat × Nat), w.heap[r]? = some (Obj.cells c e f) → ∃ (c2 : Array Value) (f2 : Nat × Nat), w'.heap[r]? = some (Obj.cells c2 e f2) ∧ c2.size = c.size

theorem Grows.refl (ι : Nat → Option (Nat × Nat)) (imm : Nat → Prop) (w : World) : Grows ι ι imm imm w w :=
  ⟨fun _ _ h => h, .refl _ _, fun _ c _ f h => ⟨c, f, h, rfl⟩⟩
theorem Grows.trans {ι₁ ι₂ ι₃ : Nat → Option (Nat × Nat)} {i j k : Nat → Prop} {a b c : World} (h : Grows ι₁ ι₂ i j a b) (h' : Grows ι₂ ι₃ j k b c) : Grows ι₁ ι₃ i k a c :=
  ⟨fun x y hx => h'.ext x y (h.ext x y hx), h.stays.trans h'.stays, fun r cs e f hr => by
    obtain ⟨c1, f1, h1, s1⟩ := h.rows r cs e f hr
    obtain ⟨c2, f2, h2, s2⟩ := h'.rows r c1 e f1 h1
    exact ⟨c2, f2, h2, s2.trans s1⟩⟩

mutual
theorem VH.grows {ι ι' : Nat → Option (Nat × Nat)} {i j : Nat → Prop} {a b : World} (h : Grows ι ι' i j a b) : ∀ (x : AV) (v : Value), VH ι i a x v → VH ι' j b x v
  | .undef, _, _ => trivial
  | .pv p, v, hp => PH.stays h.stays p v hp
  | .agg cs, v, hp => by
    simp only [VH] at hp ⊢
    obtain ⟨vs, h1, h2⟩ := hp
    exact ⟨vs, h1, VHs.grows h cs vs h2⟩
  | .tup cs, v, hp => by
    simp only [VH] at hp ⊢
    obtain ⟨vs, h1, h2⟩ := hp
    exact ⟨vs, h1, VHs.grows h cs vs h2⟩
  | .ptr b o, v, hp => by
    simp only [VH] at hp ⊢
    obtain ⟨r, z, h1, h2⟩ := hp
    exact ⟨r, z, h.ext _ _ h1, h2⟩
  | .sl b o n s t, v, hp => by
    simp only [VH] at hp ⊢
    obtain ⟨r, z, cap, h1, h2, h3, h4, c, e, f, h5, h6⟩ := hp
    obtain ⟨c', f', h7, h8⟩ := h.rows r c e f h5
    exact ⟨r, z, cap, h.ext _ _ h1, h2, h3, h4, c', e, f', h7, h8 ▸ h6⟩
  | .slc b o n s k, v, hp => by
    simp only [VH] at hp ⊢
    obtain ⟨r, z, h1, h2, h3, c, e, f, h5, h6⟩ := hp
    obtain ⟨c', f', h7, h8⟩ := h.rows r c e f h5
    exact ⟨r, z, h.ext _ _ h1, h2, h3, c', e, f', h7, h8 ▸ h6⟩
  | .tsl n ps, v, hp => by
    simp only [VH] at hp ⊢
    obtain ⟨A, h1, h2, h3⟩ := hp
    exact ⟨A, h1, h2, fun x hx hne => let ⟨s1, s2, s3⟩ := h3 x hx hne; ⟨s1, h.stays.sub _ s2, PHs.stays h.stays ps _ _ s2 s3⟩⟩
  | .rp ps, v, hp => by
    simp only [VH] at hp ⊢
    obtain ⟨x, h1, h2⟩ := hp
    exact ⟨x, h1, fun hne => let ⟨s1, s2, s3⟩ := h2 hne; ⟨s1, h.stays.sub _ s2, PHs.stays h.stays ps _ _ s2 s3⟩⟩
  | .mp b, v, hp => by
    simp only [VH] at hp ⊢
    obtain ⟨r, z, h1, h2⟩ := hp
    exact ⟨r, z, h.ext _ _ h1, h2⟩
  | .fn f first caps, v, hp => by
    simp only [VH] at hp ⊢
    obtain ⟨vs, us, h1, h2, h3⟩ := hp
    exact ⟨vs, us, h1, VHs.grows h first vs h2, VHs.grows h caps us h3⟩
theorem VHs.grows {ι ι' : Nat → Option (Nat × Nat)} {i j : Nat → Prop} {a b : World} (h : Grows ι ι' i j a b) : ∀ (xs : List AV) (vs : List Value), VHs ι i a xs vs → VHs ι' j b xs vs
  | [], _, hp => hp
  | c :: cs, vs, hp => by
    simp only [VHs] at hp ⊢
    obtain ⟨v, us, h1, h2, h3⟩ := hp
    exact ⟨v, us, h1, VH.grows h c v h2, VHs.grows h cs us h3⟩
end
end Go.Am
