/- An abstract machine over the kit's calls, part 11: what a function does with its arguments and the blocks that it is handed (ACalls), and a call of it. No conditions. -/
import Derived.Test.YtjhphpoihadmkaaAmB
namespace Go.Am

mutual
/-- A value with its blocks named anew. -/
def AV.ren (σ : Nat → Nat) : AV → AV
  | .undef => .undef
  | .pv p => .pv p
  | .agg cs => .agg (AV.renL σ cs)
  | .tup cs => .tup (AV.renL σ cs)
  | .ptr b o => .ptr (σ b) o
  | .sl b o n s t => .sl (σ b) o n s t
  | .slc b o n s c => .slc (σ b) o n s c
  | .tsl n ps => .tsl n ps
  | .rp ps => .rp ps
  | .mp b => .mp (σ b)
  | .fn f xs ys => .fn f (AV.renL σ xs) (AV.renL σ ys)
def AV.renL (σ : Nat → Nat) : List AV → List AV
  | [] => []
  | x :: xs => AV.ren σ x :: AV.renL σ xs
end
def Blk.ren (σ : Nat → Nat) : Blk → Blk
  | .cells cs => .cells (AV.renL σ cs)
  | .map es => .map (es.map fun e => (e.1.ren σ, e.2.ren σ))

mutual
/-- Where two maps of blocks agree on what a value names, the value is the same. -/
theorem VH.ren {ι κ : Nat → Option (Nat × Nat)} {imm : Nat → Prop} {w : World} {σ : Nat → Nat} {U : Nat → Bool} (h : ∀ b, U b = true → κ (σ b) = ι b) : ∀ (x : AV) (v : Value), x.within U = true → (VH κ imm w (x.ren σ) v ↔ VH ι imm w x v)
  | .undef, _, _ => Iff.rfl
  | .pv _, _, _ => Iff.rfl
  | .tsl _ _, _, _ => Iff.rfl
  | .rp _, _, _ => Iff.rfl
  | .agg cs, v, hu => by
    simp only [AV.within] at hu
    simp only [AV.ren, VH]
    exact exists_congr fun vs => and_congr_right fun _ => VHs.ren h cs vs hu
  | .tup cs, v, hu => by
    simp only [AV.within] at hu
    simp only [AV.ren, VH]
    exact exists_congr fun vs => and_congr_right fun _ => VHs.ren h cs vs hu
  | .ptr b o, v, hu => by simp only [AV.within] at hu; simp only [AV.ren, VH, h b hu]
  | .sl b o n s t, v, hu => by simp only [AV.within] at hu; simp only [AV.ren, VH, h b hu]
  | .slc b o n s c, v, hu => by simp only [AV.within] at hu; simp only [AV.ren, VH, h b hu]
  | .mp b, v, hu => by simp only [AV.within] at hu; simp only [AV.ren, VH, h b hu]
  | .fn f xs ys, v, hu => by
    simp only [AV.within, Bool.and_eq_true] at hu
    simp only [AV.ren, VH]
    exact exists_congr fun vs => exists_congr fun us => and_congr_right fun _ => and_congr (VHs.ren h xs vs hu.1) (VHs.ren h ys us hu.2)
theorem VHs.ren {ι κ : Nat → Option (Nat × Nat)} {imm : Nat → Prop} {w : World} {σ : Nat → Nat} {U : Nat → Bool} (h : ∀ b, U b = true → κ (σ b) = ι b) : ∀ (xs : List AV) (vs : List Value), AV.withinL U xs = true → (VHs κ imm w (AV.renL σ xs) vs ↔ VHs ι imm w xs vs)
  | [], _, _ => Iff.rfl
  | x :: xs, vs, hu => by
    simp only [AV.withinL, Bool.and_eq_true] at hu
    simp only [AV.renL, VHs]
    exact exists_congr fun v => exists_congr fun us => and_congr_right fun _ => and_congr (VH.ren h x v hu.1) (VHs.ren h xs us hu.2)
end
theorem renL_length (σ : Nat → Nat) : ∀ (xs : List AV), (AV.renL σ xs).length = xs.length
  | [] => rfl
  | x :: xs => by simp [AV.renL, renL_length σ xs]
theorem CellsH.ren {ι κ : Nat → Option (Nat × Nat)} {imm : Nat → Prop} {w : World} {σ : Nat → Nat} {U : Nat → Bool} (h : ∀ b, U b = true → κ (σ b) = ι b) {c : Array Value} : ∀ {xs : List AV} {o : Nat}, AV.withinL U xs = true → (CellsH κ imm w c (AV.renL σ xs) o ↔ CellsH ι imm w c xs o)
  | [], _, _ => Iff.rfl
  | x :: xs, o, hu => by
    simp only [AV.withinL, Bool.and_eq_true] at hu
    simp only [AV.renL, CellsH]
    exact and_congr (exists_congr fun v => and_congr_right fun _ => VH.ren h x v hu.1) (CellsH.ren h hu.2)
theorem EntsH.ren {ι κ : Nat → Option (Nat × Nat)} {imm : Nat → Prop} {w : World} {σ : Nat → Nat} {U : Nat → Bool} (h : ∀ b, U b = true → κ (σ b) = ι b) : ∀ {xs : List (AV × AV)} {es : List MapEntry}, (xs.all fun e => e.1.within U && e.2.within U) = true → (EntsH κ imm w (xs.map fun e => (e.1.ren σ, e.2.ren σ)) es ↔ EntsH ι imm w xs es)
  | [], _, _ => Iff.rfl
  | x :: xs, es, hu => by
    simp only [List.all_cons, Bool.and_eq_true] at hu
    simp only [List.map_cons, EntsH]
    exact exists_congr fun v => exists_congr fun us => and_congr_right fun _ => and_congr (VH.ren h _ _ hu.1.1) (and_congr (VH.ren h _ _ hu.1.2) (EntsH.ren h (by simpa using hu.2)))
theorem BlkH.ren {ι κ : Nat → Option (Nat × Nat)} {imm : Nat → Prop} {w : World} {σ : Nat → Nat} {U : Nat → Bool} (h : ∀ b, U b = true → κ (σ b) = ι b) {r z : Nat} : ∀ {k : Blk}, k.within U = true → (BlkH κ imm w r z (k.ren σ) ↔ BlkH ι imm w r z k)
  | .cells cs, hu => by
    simp only [Blk.within] at hu
    simp only [Blk.ren, BlkH, renL_length]
    exact exists_congr fun c => exists_congr fun e => exists_congr fun f => and_congr_right fun _ => and_congr_right fun _ => and_congr_right fun _ => CellsH.ren h hu
  | .map es, hu => by
    simp only [Blk.within] at hu
    simp only [Blk.ren, BlkH]
    exact exists_congr fun c => exists_congr fun q => and_congr_right fun _ => and_congr_right fun _ => EntsH.ren h hu

def heapOf (H : List (Nat × Blk)) (b : Nat) : Option Blk := H.lookup b

/-- The real blocks of a heap. -/
def Rof (ι : Nat → Option (Nat × Nat)) (H : List (Nat × Blk)) (r : Nat) : Prop := ∃ b k z, heapOf H b = some k ∧ ι b = some (r, z)

def inI (I : List Nat) (b : Nat) : Bool := I.contains b

/-- Called with these values, over these blocks of one's own (I: all blocks that they name), a function answers this value, and leaves these blocks. -/
def ACalls (P : Program) (f : FuncId) (I : List Nat) (avs : List AV) (H : List (Nat × Blk)) (av : AV) (H' : List (Nat × Blk)) : Prop :=
  ∀ ι imm w M vs, HR ι imm w M (heapOf H) → VHs ι imm w avs vs → (∀ k, imm k → k < w.heap.size) → (∀ b x, ι b = some x → inI I b = true) →
    Calls P f (List.toArray vs) w fun e w' => ∃ v ι' imm', e = .returned v ∧ VH ι' imm' w' av v ∧ Grows ι ι' imm imm' w w' ∧ Ext (Rof ι H) w w' ∧ HR ι' imm' w' (fun r => Rof ι H r ∨ w.heap.size ≤ r) (heapOf H') ∧
      (∀ k, imm' k → imm k ∨ Rof ι H k ∨ w.heap.size ≤ k) ∧ (∀ k, imm' k → k < w'.heap.size)

/-- How a callee's blocks are named at the caller's: those that it was handed, and new ones. -/
structure Names where
  σ : Nat → Nat
  L : List (Nat × Nat)          -- (the caller's new name, the callee's)

def Names.τ (N : Names) (I : List Nat) (c : Nat) : Nat := if inI I c then N.σ c else ((N.L.find? fun x => x.2 == c).map (·.1)).getD 0

/-- The callee's names that are known. -/
def Names.knows (N : Names) (I : List Nat) (c : Nat) : Bool := inI I c || N.L.any fun x => x.2 == c

/-- What a call does at the caller's. -/
def Names.delta (N : Names) (I : List Nat) (H H' : List (Nat × Blk)) (av : AV) : Delta where
  v := av.ren (N.τ I)
  new := N.L.map fun x => (x.1, ((heapOf H' x.2).getD (.cells [])).ren (N.τ I))
  wr := H.map fun x => (N.σ x.1, (heapOf H' x.1).map (·.ren (N.τ I)))

structure CallOk (N : Names) (I : List Nat) (avs : List AV) (H H' : List (Nat × Blk)) (av : AV) : Prop where
  args : AV.withinL (inI I) avs = true
  ids : ∀ x ∈ H, inI I x.1 = true
  blks : ∀ x ∈ H, x.2.within (inI I) = true
  nodup : (H.map (·.1)).Nodup
  inj : ∀ b c, inI I b = true → inI I c = true → N.σ b = N.σ c → b = c
  nodupL : (N.L.map (·.1)).Nodup
  nodupR : (N.L.map (·.2)).Nodup
  fresh : ∀ x ∈ N.L, inI I x.2 = false
  res : av.within (N.knows I) = true
  res' : ∀ x ∈ H', N.knows I x.1 = true ∧ x.2.within (N.knows I) = true
  kept : ∀ x ∈ H', inI I x.1 = true → ∃ k, (x.1, k) ∈ H
  all : ∀ x ∈ N.L, (heapOf H' x.2).isSome = true
  used : ∀ b, inI I b = true → refs avs H b = true ∨ (heapOf H b).isSome = true

theorem lookup_of_mem {α : Type} : ∀ {l : List (Nat × α)} {x : Nat × α}, (l.map (·.1)).Nodup → x ∈ l → l.lookup x.1 = some x.2
  | [], x, _, hx => by cases hx
  | y :: ys, x, hn, hx => by
    simp only [List.map_cons, List.nodup_cons] at hn
    simp only [List.lookup]
    cases hx with
    | head => simp
    | tail _ hm =>
      have : (x.1 == y.1) = false := by
        simp only [beq_eq_false_iff_ne, ne_eq]
        intro e
        exact hn.1 (e ▸ List.mem_map_of_mem hm)
      simp only [this]
      exact lookup_of_mem hn.2 hm

theorem lookup_map {α β : Type} (g : Nat × α → β) : ∀ (l : List (Nat × α)) (b : Nat), (l.map fun x => (x.1, g x)).lookup b = (l.find? fun x => x.1 == b).map g
  | [], _ => rfl
  | x :: l, b => by
    simp only [List.map_cons, List.lookup, List.find?_cons]
    by_cases h : x.1 = b
    · subst h; simp
    · have h1 : (b == x.1) = false := by simpa using Ne.symm h
      have h2 : (x.1 == b) = false := by simpa using h
      simp only [h1, h2]
      exact lookup_map g l b

theorem find_fst {α : Type} {l : List (Nat × α)} (hn : (l.map (·.1)).Nodup) {x : Nat × α} (hx : x ∈ l) : l.find? (fun y => y.1 == x.1) = some x := by
  induction l with
  | nil => cases hx
  | cons y ys ih =>
    simp only [List.map_cons, List.nodup_cons] at hn
    simp only [List.find?_cons]
    cases hx with
    | head => simp
    | tail _ hm =>
      have : (y.1 == x.1) = false := by
        simp only [beq_eq_false_iff_ne, ne_eq]
        intro e; exact hn.1 (e ▸ List.mem_map_of_mem hm)
      simp only [this]
      exact ih hn.2 hm
theorem find_snd {l : List (Nat × Nat)} (hn : (l.map (·.2)).Nodup) {x : Nat × Nat} (hx : x ∈ l) : l.find? (fun y => y.2 == x.2) = some x := by
  induction l with
  | nil => cases hx
  | cons y ys ih =>
    simp only [List.map_cons, List.nodup_cons] at hn
    simp only [List.find?_cons]
    cases hx with
    | head => simp
    | tail _ hm =>
      have : (y.2 == x.2) = false := by
        simp only [beq_eq_false_iff_ne, ne_eq]
        intro e; exact hn.1 (e ▸ List.mem_map_of_mem hm)
      simp only [this]
      exact ih hn.2 hm

/-- The heart of a call: the callee's end, told at the caller's. -/
theorem call_end {E : Env} {N : Names} {I : List Nat} {avs : List AV} {H H' : List (Nat × Blk)} {av : AV} (ok : CallOk N I avs H H' av) {ι : Nat → Option (Nat × Nat)} {imm : Nat → Prop} {st : St} {a : Act} {w : World} (hs : SR E ι imm st a w)
    (hdeps : ∀ x ∈ H, st.H (N.σ x.1) = some (x.2.ren N.σ)) (hfresh : ∀ x ∈ N.L, st.U x.1 = false) {κ : Nat → Option (Nat × Nat)} (hκ : κ = fun b => if inI I b then ι (N.σ b) else none) (hsome : ∀ b, inI I b = true → (κ b).isSome = true)
    {v : Value} {ι' : Nat → Option (Nat × Nat)} {imm' : Nat → Prop} {w' : World} (hv : VH ι' imm' w' av v) (g : Grows κ ι' imm imm' w w') (hext : Ext (Rof κ H) w w') (hH : HR ι' imm' w' (fun r => Rof κ H r ∨ w.heap.size ≤ r) (heapOf H'))
    (himm : ∀ k, imm' k → imm k ∨ Rof κ H k ∨ w.heap.size ≤ k) (hlt : ∀ k, imm' k → k < w'.heap.size) {d : Option Nat} (hd : ∀ t, d = some t → t < E.n) :
    At E (st.after d (N.delta I H H' av)) (a.put d v) w' := by
  have hL : ∀ x ∈ N.L, ι x.1 = none := fun x hx => by
    cases hi : ι x.1 with
    | none => rfl
    | some y => have := hs.used _ _ hi; rw [hfresh x hx] at this; cases this
  let ι'' : Nat → Option (Nat × Nat) := fun b => match N.L.find? (fun x => x.1 == b) with | some x => ι' x.2 | none => ι b
  have f1 : ∀ x ∈ N.L, ι'' x.1 = ι' x.2 := fun x hx => by
    show (match N.L.find? (fun y => y.1 == x.1) with | some x => ι' x.2 | none => ι x.1) = _
    rw [find_fst ok.nodupL hx]
  have f2 : ∀ b, (∀ x ∈ N.L, x.1 ≠ b) → ι'' b = ι b := fun b hb => by
    show (match N.L.find? (fun y => y.1 == b) with | some x => ι' x.2 | none => ι b) = _
    have : N.L.find? (fun y => y.1 == b) = none := List.find?_eq_none.2 fun x hx => by simpa using hb x hx
    rw [this]
  have f3 : ∀ b y, ι b = some y → ι'' b = some y := fun b y hy => by
    rw [f2 b fun x hx e => by rw [← e, hL x hx] at hy; cases hy]; exact hy
  have hκI : ∀ c, inI I c = true → κ c = ι (N.σ c) := fun c hc => by rw [hκ]; simp only [hc, if_true]
  have f4 : ∀ c, N.knows I c = true → ι'' (N.τ I c) = ι' c := fun c hc => by
    by_cases hi : inI I c = true
    · obtain ⟨y, hy⟩ := Option.isSome_iff_exists.1 (hsome c hi)
      have h1 : N.τ I c = N.σ c := by simp only [Names.τ, hi, if_true]
      rw [h1, g.ext c y hy]
      exact f3 _ _ (by rw [← hκI c hi]; exact hy)
    · simp only [Names.knows, Bool.or_eq_true, List.any_eq_true, beq_iff_eq] at hc
      rcases hc with hc | ⟨x, hx, rfl⟩
      · exact absurd hc hi
      · have h1 : N.τ I x.2 = x.1 := by
          simp only [Names.τ]
          rw [if_neg hi, find_snd ok.nodupR hx]; rfl
        rw [h1]; exact f1 x hx
  have hRM : ∀ r, Rof κ H r → E.M r := fun r ⟨b, k, z, hb, hz⟩ => by
    have hm := lookup_mem (l := H) hb
    have hi := ok.ids _ hm
    obtain ⟨r', z', h1, _, h3, _⟩ := hs.heap.blk _ _ (hdeps _ hm)
    rw [← hκI b hi, hz] at h1
    simp only [Option.some.injEq, Prod.mk.injEq] at h1
    exact h1.1 ▸ h3
  have hHM : ∀ r, (Rof κ H r ∨ w.heap.size ≤ r) → E.M r := fun r h => h.elim (hRM r) fun h => .inr (Nat.le_trans hs.ext.size h)
  have g' : Grows ι ι'' imm imm' w w' := ⟨f3, g.stays, g.rows⟩
  -- a block that the callee did not have
  have hold : ∀ b k r z, st.H b = some k → ι b = some (r, z) → (∀ x ∈ H, N.σ x.1 ≠ b) → r < w.heap.size ∧ ¬ Rof κ H r := fun b k r z hb hi hne => by
    refine ⟨?_, fun ⟨c, kc, zc, hc, hz⟩ => ?_⟩
    · obtain ⟨r', z', h1, _, _, h4⟩ := hs.heap.blk b k hb
      rw [hi] at h1
      simp only [Option.some.injEq, Prod.mk.injEq] at h1
      obtain ⟨rfl, rfl⟩ := h1
      have : ∃ x, w.heap[r]? = some x := by
        cases k with
        | cells cs => obtain ⟨c, e, f, h1, _⟩ := h4; exact ⟨_, h1⟩
        | map es => obtain ⟨c, q, _, h2, _⟩ := h4; exact ⟨_, h2⟩
      obtain ⟨x, hx⟩ := this
      rcases Nat.lt_or_ge r w.heap.size with h' | h'
      · exact h'
      · rw [Array.getElem?_eq_none h'] at hx; cases hx
    · have hm := lookup_mem (l := H) hc
      rw [hκI c (ok.ids _ hm)] at hz
      exact hne _ hm (hs.heap.inj _ _ _ _ _ _ _ (hdeps _ hm) hb hz hi)
  have hnewL : ∀ b, (N.delta I H H' av).new.lookup b = (N.L.find? fun x => x.1 == b).map fun x => ((heapOf H' x.2).getD (.cells [])).ren (N.τ I) := fun b => lookup_map _ _ _
  -- what a block of the new state is
  have hcase : ∀ b k, (N.delta I H H' av).H st.H b = some k → (∃ c kc, N.knows I c = true ∧ heapOf H' c = some kc ∧ b = N.τ I c ∧ k = kc.ren (N.τ I)) ∨ ((∀ x ∈ N.L, x.1 ≠ b) ∧ (∀ x ∈ H, N.σ x.1 ≠ b) ∧ st.H b = some k) := fun b k hb => by
    simp only [Delta.H, hnewL] at hb
    cases hf : N.L.find? (fun x => x.1 == b) with
    | some x =>
      rw [hf] at hb
      simp only [Option.map_some, Option.some.injEq] at hb
      have hx := List.mem_of_find?_eq_some hf
      have hxb : x.1 = b := by simpa using List.find?_some hf
      obtain ⟨kc, hkc⟩ := Option.isSome_iff_exists.1 (ok.all x hx)
      have hi := ok.fresh x hx
      refine .inl ⟨x.2, kc, ?_, hkc, ?_, ?_⟩
      · simp only [Names.knows, Bool.or_eq_true, List.any_eq_true]; exact .inr ⟨x, hx, by simp⟩
      · simp only [Names.τ, hi, Bool.false_eq_true, if_false, find_snd ok.nodupR hx, Option.map_some, Option.getD_some]; exact hxb.symm
      · rw [hkc] at hb; simpa using hb.symm
    | none =>
      rw [hf] at hb
      simp only [Option.map_none] at hb
      have hnL : ∀ x ∈ N.L, x.1 ≠ b := fun x hx e => by
        have := List.find?_eq_none.1 hf x hx
        simp [e] at this
      cases hw : (N.delta I H H' av).wr.lookup b with
      | some q =>
        rw [hw] at hb
        simp only at hb
        subst hb
        have hm := lookup_mem hw
        simp only [Names.delta, List.mem_map] at hm
        obtain ⟨x, hx, he⟩ := hm
        simp only [Prod.mk.injEq] at he
        obtain ⟨rfl, he⟩ := he
        have hi := ok.ids x hx
        cases hh : heapOf H' x.1 with
        | none => rw [hh] at he; simp at he
        | some kc =>
          rw [hh] at he
          simp only [Option.map_some, Option.some.injEq] at he
          refine .inl ⟨x.1, kc, by simp only [Names.knows, hi, Bool.true_or], hh, by simp only [Names.τ, hi, if_true], he.symm⟩
      | none =>
        rw [hw] at hb
        simp only at hb
        refine .inr ⟨hnL, fun x hx e => ?_, hb⟩
        have hin : (N.σ x.1, (heapOf H' x.1).map (·.ren (N.τ I))) ∈ (N.delta I H H' av).wr := List.mem_map.2 ⟨x, hx, rfl⟩
        have none_of : ∀ (l : List (Nat × Option Blk)) (p : Nat × Option Blk), p ∈ l → l.lookup p.1 ≠ none := by
          intro l
          induction l with
          | nil => intro p h; cases h
          | cons y ys ih =>
            intro p h
            simp only [List.lookup]
            split
            · simp
            · rename_i hne
              cases h with
              | head => simp at hne
              | tail _ hm => exact ih p hm
        exact none_of _ _ hin (by simp only; rw [e]; exact hw)
  have sr : SR E ι'' imm' ⟨st.S, (N.delta I H H' av).H st.H, (N.delta I H H' av).U st.U⟩ a w' := by
    refine hs.turn g' hext.os hext.tape hext.output hext.size (fun k hk hM => hext.block k hk fun hR => hM (hRM k hR)) ⟨fun b k hb => ?_, fun b b' k k' r z z' hb hb' hi hi' => ?_⟩ (fun b x hx => ?_) (fun k hk => (himm k hk).elim .inl fun h => .inr (hHM k h)) hlt
    · rcases hcase b k hb with ⟨c, kc, hkn, hc, rfl, rfl⟩ | ⟨hnL, hnH, hb⟩
      · obtain ⟨r, z, q1, q2, q3, q4⟩ := hH.blk c kc hc
        exact ⟨r, z, by rw [f4 c hkn]; exact q1, q2, hHM r q3, (BlkH.ren f4 (ok.res' _ (lookup_mem hc)).2).2 q4⟩
      · obtain ⟨r, z, q1, q2, q3, q4⟩ := hs.heap.blk b k hb
        obtain ⟨hlt', hnR⟩ := hold b k r z hb q1 hnH
        exact ⟨r, z, f3 _ _ q1, fun hi => (himm r hi).elim q2 fun h => h.elim hnR fun h => Nat.not_lt.2 h hlt', q3, q4.grows g' (hext.block r hlt' hnR)⟩
    · rcases hcase b k hb with ⟨c, kc, hkn, hc, rfl, rfl⟩ | ⟨hnL, hnH, hb⟩ <;> rcases hcase b' k' hb' with ⟨c', kc', hkn', hc', rfl, rfl⟩ | ⟨hnL', hnH', hb'⟩
      · rw [f4 c hkn] at hi
        rw [f4 c' hkn'] at hi'
        rw [hH.inj c c' kc kc' r z z' hc hc' hi hi']
      · rw [f4 c hkn] at hi
        obtain ⟨r1, z1, q1, _, q3, _⟩ := hH.blk c kc hc
        rw [hi] at q1
        simp only [Option.some.injEq, Prod.mk.injEq] at q1
        obtain ⟨rfl, rfl⟩ := q1
        rw [f2 b' hnL'] at hi'
        obtain ⟨h1, h2⟩ := hold b' k' r z' hb' hi' hnH'
        exact (q3.elim h2 fun h => Nat.not_lt.2 h h1).elim
      · rw [f4 c' hkn'] at hi'
        obtain ⟨r1, z1, q1, _, q3, _⟩ := hH.blk c' kc' hc'
        rw [hi'] at q1
        simp only [Option.some.injEq, Prod.mk.injEq] at q1
        obtain ⟨rfl, rfl⟩ := q1
        rw [f2 b hnL] at hi
        obtain ⟨h1, h2⟩ := hold b k r z hb hi hnH
        exact (q3.elim h2 fun h => Nat.not_lt.2 h h1).elim
      · rw [f2 b hnL] at hi
        rw [f2 b' hnL'] at hi'
        exact hs.heap.inj b b' k k' r z z' hb hb' hi hi'
    · simp only [Delta.U, hnewL, Bool.or_eq_true]
      by_cases hb : ∃ x ∈ N.L, x.1 = b
      · obtain ⟨x, hxL, rfl⟩ := hb
        left; rw [find_fst ok.nodupL hxL]; rfl
      · right
        rw [f2 b fun y hy e => hb ⟨y, hy, e⟩] at hx
        exact hs.used b x hx
  exact ⟨ι'', imm', sr.put d hd ((VH.ren f4 av v ok.res).2 hv)⟩

theorem run_callFunc {P : Program} {f : FuncId} {fn : Func} (hf : P.funcs[f]? = some fn) (hn : (fn.name == "runtime.NumGoroutine") = false) (hb : fn.body.isNone = false) (args : Array Value) (w : World) : (callFunc f args).run P w = .ok (.enter f args) w := by
  simp only [callFunc, program, run_bind', Sem.run, hf, hn, hb, Bool.false_eq_true, if_false, run_pure']

theorem VHs.append {ι : Nat → Option (Nat × Nat)} {imm : Nat → Prop} {w : World} : ∀ {xs ys : List AV} {us vs : List Value}, VHs ι imm w xs us → VHs ι imm w ys vs → VHs ι imm w (xs ++ ys) (us ++ vs)
  | [], _, _, _, h, h' => by simp only [VHs] at h; subst h; exact h'
  | x :: xs, _, _, _, h, h' => by obtain ⟨v, us', rfl, q1, q2⟩ := h; exact ⟨v, _, rfl, q1, VHs.append q2 h'⟩

/-- A call of a function, or of a function value. -/
theorem does_call {E : Env} {o : Oper} {c : Call} {x : Operand} (ho : o.op = .call c) (hc : c.callee = .value x) (hd : ∀ d, o.dst = some d → d < E.n) {f : FuncId} {fn : Func} (hf : E.P.funcs[f]? = some fn) (hn : (fn.name == "runtime.NumGoroutine") = false) (hb : fn.body.isNone = false)
    {N : Names} {I : List Nat} {avs : List AV} {H H' : List (Nat × Blk)} {av : AV} (C : ACalls E.P f I avs H av H') (ok : CallOk N I avs H H' av) {args caps : List AV} (hargs : AV.renL N.σ avs = args ++ caps) :
    Does E o (.fn f [] caps :: args) (H.map fun x => (N.σ x.1, x.2.ren N.σ)) (N.delta I H H' av) := by
  intro ι imm st a w Q hs hv hh hfr
  have hvs := hs.evls hv
  rw [ho] at hvs
  have hops : (Op.operands (.call c)).toList = x :: c.args.toList := by simp [Op.operands, Call.operands, hc]
  rw [hops, List.map_cons] at hvs
  obtain ⟨v', us', he, hu, hvs⟩ := hvs
  simp only [List.cons.injEq] at he
  obtain ⟨he, rfl⟩ := he
  simp only [VH] at hu
  obtain ⟨fs, cs, hfv, hfs, hcs⟩ := hu
  simp only [VHs] at hfs
  subst hfs
  have hrun : (execOp a.eval o).run E.P w = .ok (.enter f ((c.args.map a.eval) ++ cs.toArray)) w := by
    simp only [execOp, ho, resolve, hc, Deferred.ofValue, he, hfv, run_bind', run_pure', invoke, run_callFunc hf hn hb]
    simp
  unfold Oper.wp
  rw [hrun, Oper.upon_enter]
  let κ : Nat → Option (Nat × Nat) := fun b => if inI I b then ι (N.σ b) else none
  have hκI : ∀ b, inI I b = true → ι (N.σ b) = κ b := fun b hb => by show _ = (if inI I b then _ else _); rw [if_pos hb]
  have hall : VHs κ imm w avs ((c.args.toList.map a.eval) ++ cs) := (VHs.ren hκI avs _ ok.args).1 (by rw [hargs]; exact hvs.append hcs)
  have hdeps : ∀ x ∈ H, st.H (N.σ x.1) = some (x.2.ren N.σ) := fun x hx => hh (N.σ x.1, x.2.ren N.σ) (List.mem_map.2 ⟨x, hx, rfl⟩)
  have hfresh : ∀ x ∈ N.L, st.U x.1 = false := fun x hx => hfr (x.1, _) (List.mem_map.2 ⟨x, hx, rfl⟩)
  have hHR : HR κ imm w E.M (heapOf H) := by
    refine ⟨fun b k hbk => ?_, fun b b' k k' r z z' hbk hbk' hi hi' => ?_⟩
    · have hm := lookup_mem (l := H) hbk
      obtain ⟨r, z, q1, q2, q3, q4⟩ := hs.heap.blk _ _ (hdeps _ hm)
      exact ⟨r, z, (hκI b (ok.ids _ hm)).symm.trans q1, q2, q3, (BlkH.ren hκI (ok.blks _ hm)).1 q4⟩
    · have hm := lookup_mem (l := H) hbk
      have hm' := lookup_mem (l := H) hbk'
      rw [← hκI b (ok.ids _ hm)] at hi
      rw [← hκI b' (ok.ids _ hm')] at hi'
      exact ok.inj b b' (ok.ids _ hm) (ok.ids _ hm') (hs.heap.inj _ _ _ _ r z z' (hdeps _ hm) (hdeps _ hm') hi hi')
  have hsome : ∀ b, inI I b = true → (κ b).isSome = true := fun b hb => by
    rcases ok.used b hb with h | h
    · refine refs_in (U := fun b => (κ b).isSome) (VHs.within (fun b x hx => by simp [hx]) avs _ hall) (fun x hx => ?_) h
      have hl := lookup_of_mem ok.nodup hx
      obtain ⟨r, z, _, _, _, q4⟩ := hHR.blk x.1 x.2 hl
      exact BlkH.within (fun b x hx => by simp [hx]) x.2 q4
    · obtain ⟨k, hk⟩ := Option.isSome_iff_exists.1 h
      obtain ⟨r, z, q1, _⟩ := hHR.blk b k hk
      rw [q1]; rfl
  have hC := C κ imm w E.M _ hHR hall hs.immlt (fun b x hx => by
    by_cases h : inI I b = true
    · exact h
    · have : κ b = none := by show (if inI I b then _ else _) = _; rw [if_neg h]
      rw [this] at hx; cases hx)
  have harr : (c.args.map a.eval) ++ cs.toArray = List.toArray ((c.args.toList.map a.eval) ++ cs) := by
    apply Array.ext'; simp
  rw [harr]
  refine hC.mono ?_
  rintro e w' ⟨v, ι', imm', rfl, q1, q2, q3, q4, q5, q6⟩
  exact call_end ok hs hdeps hfresh rfl hsome q1 q2 q3 q4 q5 q6 hd
end Go.Am
