/- An abstract machine over the kit's calls, part 22: blocks named anew at a loop's head. No conditions. -/
import Derived.Test.YtjhphpoihadmkaaAm21
namespace Go.Am

/-- What is not needed is forgotten, and blocks are named anew: τ says what a block was called. -/
structure WeakerR (st : St) (τ : Nat → Nat) (S : List (Nat × AV)) (H : List (Nat × Blk)) (U : List Nat) (I : List Nat) : Prop where
  eqS : ∀ x ∈ S, st.S x.1 = some (x.2.ren τ)
  eqH : ∀ x ∈ H, st.H (τ x.1) = some (x.2.ren τ)
  inS : (S.all fun x => x.2.within fun b => U.contains b) = true
  inH : (H.all fun x => U.contains x.1 && x.2.within fun b => U.contains b) = true
  inj : ∀ x ∈ H, ∀ y ∈ H, τ x.1 = τ y.1 → x.1 = y.1
  inI : (I.all fun b => U.contains b && τ b == b) = true

theorem At.weakenR {E : Env} {st : St} {a : Act} {w : World} {τ : Nat → Nat} {S : List (Nat × AV)} {H : List (Nat × Blk)} {U : List Nat} (h : At E st a w) (hw : WeakerR st τ S H U E.I) : At E (mkSt S H U) a w := by
  obtain ⟨ι, imm, h⟩ := h
  let κ : Nat → Option (Nat × Nat) := fun b => if U.contains b then ι (τ b) else none
  have hκ : ∀ b, (fun b => U.contains b) b = true → ι (τ b) = κ b := fun b hb => by show _ = (if U.contains b then _ else _); rw [if_pos hb]
  have hV : ∀ x v, x.within (fun b => U.contains b) = true → VH ι imm w (x.ren τ) v → VH κ imm w x v := fun x v hu hx => (VH.ren (ι := κ) (κ := ι) (σ := τ) hκ x v hu).1 hx
  have hB : ∀ k r z, k.within (fun b => U.contains b) = true → BlkH ι imm w r z (k.ren τ) → BlkH κ imm w r z k := fun k r z hu hx => (BlkH.ren (ι := κ) (κ := ι) (σ := τ) hκ (r := r) (z := z) hu).1 hx
  have hin : ∀ x ∈ H, U.contains x.1 = true ∧ x.2.within (fun b => U.contains b) = true := fun x hx => by
    have := List.all_eq_true.1 hw.inH x hx
    simpa only [Bool.and_eq_true] using this
  refine ⟨κ, imm, h.defers, h.size, fun t v hv => ?_, ⟨fun b k hb => ?_, fun b b' k k' r z z' hb hb' hi hi' => ?_⟩, fun b x hx => ?_, ⟨fun b x hx => ?_, h.grow.stays, h.grow.rows⟩, h.ext, h.immM, h.immlt⟩
  · have hm := lookup_mem (l := S) hv
    exact hV _ _ (List.all_eq_true.1 hw.inS _ hm) (h.slot _ _ (hw.eqS _ hm))
  · have hm := lookup_mem (l := H) hb
    obtain ⟨r, z, q1, q2, q3, q4⟩ := h.heap.blk _ _ (hw.eqH _ hm)
    exact ⟨r, z, (hκ b (hin _ hm).1).symm.trans q1, q2, q3, hB _ _ _ (hin _ hm).2 q4⟩
  · have hm := lookup_mem (l := H) hb
    have hm' := lookup_mem (l := H) hb'
    rw [← hκ b (hin _ hm).1] at hi
    rw [← hκ b' (hin _ hm').1] at hi'
    exact hw.inj _ hm _ hm' (h.heap.inj _ _ _ _ _ _ _ (hw.eqH _ hm) (hw.eqH _ hm') hi hi')
  · show U.contains b = true
    by_cases hb : U.contains b = true
    · exact hb
    · have : κ b = none := by show (if U.contains b then _ else _) = _; rw [if_neg hb]
      rw [this] at hx; cases hx
  · have hb : (U.contains b && τ b == b) = true := List.all_eq_true.1 hw.inI b (by have := E.dom b x hx; simpa using this)
    simp only [Bool.and_eq_true, beq_iff_eq] at hb
    rw [← hκ b hb.1, hb.2]; exact h.grow.ext b x hx

theorem Awp.weakenR {E : Env} {c : Code} {st : St} {Q : Exit → St → Prop} {S : List (Nat × AV)} {H : List (Nat × Blk)} {U : List Nat} (τ : Nat → Nat) (hw : WeakerR st τ S H U E.I) (h : Awp E c (mkSt S H U) Q) : Awp E c st Q :=
  fun a w hat => h a w (hat.weakenR hw)

/-- A loop over a count, told by a family of states; behind each round blocks may be named anew. -/
theorem Awp.forNR {E : Env} {c : Code} {st : St} {Q : Exit → St → Prop} (N : Nat) (S : Nat → List (Nat × AV)) (H : Nat → List (Nat × Blk)) (U : List Nat) (τ0 τ : Nat → Nat) (hw : WeakerR st τ0 (S 0) (H 0) U E.I)
    (round : ∀ i, i < N → Awp E c (mkSt (S i) (H i) U) fun e st' => match e with | .normal => WeakerR st' τ (S (i + 1)) (H (i + 1)) U E.I | e => Q e st')
    (last : Awp E c (mkSt (S N) (H N) U) fun e st' => match e with | .normal => False | e => Q e st') : Awp E (.loop c) st Q := by
  intro a w hat
  refine wp_loop_ghost (fun m a w => ∃ i, i ≤ N ∧ m = N - i ∧ At E (mkSt (S i) (H i) U) a w) N ⟨0, Nat.zero_le _, rfl, hat.weakenR hw⟩ fun m a w ⟨i, hi, hm, hat⟩ => ?_
  rcases Nat.lt_or_ge i N with h | h
  · refine wp_mono (round i h a w hat) ?_
    rintro e a' w' ⟨st', h1, h2⟩
    cases e <;> simp only [Exit.then]
    case normal => exact ⟨N - (i + 1), by omega, i + 1, by omega, rfl, h2.weakenR h1⟩
    all_goals exact ⟨st', h1, h2⟩
  · have : i = N := by omega
    subst this
    refine wp_mono (last a w hat) ?_
    rintro e a' w' ⟨st', h1, h2⟩
    cases e <;> simp only [Exit.then]
    case normal => exact h1.elim
    all_goals exact ⟨st', h1, h2⟩

/-- Two texts with a state between them, blocks named anew. -/
theorem Awp.seq_midR {E : Env} {x y : Code} {st : St} {Q : Exit → St → Prop} (S : List (Nat × AV)) (H : List (Nat × Blk)) (U : List Nat) (h1 : Awp E x st fun e st' => match e with | .normal => ∃ τ, WeakerR st' τ S H U E.I | e => Q e st') (h2 : Awp E y (mkSt S H U) Q) : Awp E (.seq x y) st Q :=
  Awp.seq (h1.mono fun e st' hq => by
    cases e <;> first | exact hq | (obtain ⟨τ, hw⟩ := hq; exact Awp.weakenR τ hw h2))

theorem WeakerR.of {E : Env} {st : St} {τ : Nat → Nat} {S : List (Nat × AV)} {H : List (Nat × Blk)} {U : List Nat} (hI : E.I = []) (h1 : eqsS st.S (S.map fun x => (x.1, x.2.ren τ))) (h2 : eqsH st.H (H.map fun x => (τ x.1, x.2.ren τ))) (h3 : (S.all fun x => x.2.within fun b => U.contains b) = true) (h4 : (H.all fun x => U.contains x.1 && x.2.within fun b => U.contains b) = true)
    (h5 : (H.all fun x => H.all fun y => !(τ x.1 == τ y.1) || x.1 == y.1) = true) : WeakerR st τ S H U E.I :=
  ⟨fun x hx => eqsS_mem h1 _ (List.mem_map_of_mem hx), fun x hx => eqsH_mem h2 _ (List.mem_map_of_mem hx), h3, h4, fun x hx y hy e => by
    have := List.all_eq_true.1 (List.all_eq_true.1 h5 x hx) y hy
    simpa [e] using this, by rw [hI]; rfl⟩
end Go.Am
