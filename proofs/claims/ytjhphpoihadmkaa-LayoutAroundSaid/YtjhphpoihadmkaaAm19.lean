/- An abstract machine over the kit's calls, part 19: from a contract to a row: inputs opened, outcomes shut. No conditions. -/
import Derived.Test.YtjhphpoihadmkaaAm18
import Derived.WalkKit
import Derived.ProofKit
import Derived.OpenShut
import Derived.ShutString
import Derived.ChangeOld
import Derived.Below
import Derived.SizedLaws
namespace Go.Am
open Go.ChangeShapes Go.WideShapes Go.ChangeAt Go.RowKit

/-- A law's walk, out of its contract. -/
theorem PCalls.row {P : Program} {f : FuncId} {avs : List AV} (h : PCalls P f avs (.pv (.lit (.bool true)))) {W : World} {vs : List Value} (hv : VHs (fun _ => none) (fun k => k < W.heap.size) W avs vs) :
    Calls P f (List.toArray vs) W fun e W' => e = .returned (.bool true) ∧ Below W.heap.size W W' := by
  refine (h.calls (fun _ => none) (fun k => k < W.heap.size) W (fun _ => True) vs ⟨fun b k hb => (by cases hb), fun b b' k k' r z z' hb => (by cases hb)⟩ hv (fun k hk => hk) (fun b x hx => (by cases hx))).mono ?_
  rintro e W' ⟨v, ι', imm', rfl, h1, _, h2, _⟩
  simp only [VH, PH] at h1
  obtain ⟨rfl, _⟩ := h1
  exact ⟨rfl, h2.os, h2.tape, h2.output, h2.size, fun k hk => h2.block k hk fun ⟨b, k', z, hb, _⟩ => (by cases hb)⟩

section
variable {H : Type} {enc : TypeId × Value → H} {P : Program} {w : World} {base : Nat} {spare : Nat → Bool} {held : Bool}

/-- An array of numbers that is handed in. -/
theorem open_arrI {r : Reach} {b0 : Nat} {t e n : Nat} {k : IntKind} {v : Value} {d : DataW H} {ps : List MemPlace} (ht : P.underlying t = some (.array n e)) (he : P.underlying e = some (.int k)) (hc : P.cellsOf e = 1) (hct : P.cellsOf t = n) (hval : Value.okWide P w r b0 t v) (hd : DataW.Trod enc P w base spare held t v d ps) :
    ∃ f : Nat → Int, (∀ i, i < n → (Lit.int k (f i)).wf = true) ∧ (∀ i, ¬ i < n → f i = 0) ∧ ∀ ι imm w', VH ι imm w' (.agg (cI k (tb n f))) v := by
  simp only [Value.okWide, ht] at hval
  obtain ⟨cs, rfl, hsz, _⟩ := hval
  obtain ⟨fuel, hf⟩ := hd
  obtain ⟨xs, m, rfl, _, hl, hlx, hx⟩ := DataW.trod_array ht hf
  simp only [Value.cells] at hl hx
  have hn : cs.toList.length = n := by rw [hl, hct]
  have key : ∀ i, i < n → ∃ z, cs.toList[i]? = some (.int k z) ∧ (Lit.int k z).wf = true := fun i hi => by
    have h1 := hx i hi
    have h2 : ∃ y, xs[i]? = some y := ⟨xs[i], by simp [hlx, hi]⟩
    obtain ⟨y, hy⟩ := h2
    rw [hy] at h1
    obtain ⟨z, h3, _, h4⟩ := DataW.trod_int he h1
    rw [hc, Nat.mul_one] at h3
    refine ⟨z, ?_, h4⟩
    have h5 := congrArg (fun l => l[0]?) h3
    simpa using h5
  refine ⟨fun i => match cs.toList[i]? with | some (.int _ z) => z | _ => 0, fun i hi => ?_, fun i hi => ?_, fun ι imm w' => ⟨cs.toList, by simp, ?_⟩⟩
  · obtain ⟨z, h1, h2⟩ := key i hi
    simp only [h1]; exact h2
  · have : cs.toList[i]? = none := List.getElem?_eq_none (by omega)
    simp only [this]
  · have hlit : ∀ (l : List Value) (A : List Int), l.length = A.length → (∀ i, i < A.length → l[i]? = some (.int k (A.getD i 0))) → VHs ι imm w' (cI k A) l := by
      intro l
      induction l with
      | nil => intro A hA _; cases A with
        | nil => rfl
        | cons a A => simp at hA
      | cons v l ih => intro A hA hA2; cases A with
        | nil => simp at hA
        | cons a A =>
          have h0 := hA2 0 (by simp)
          simp only [List.getElem?_cons_zero, List.getD_cons_zero, Option.some.injEq] at h0
          subst h0
          exact ⟨_, l, rfl, ⟨rfl, rfl⟩, ih A (by simpa using hA) fun i hi => by simpa using hA2 (i + 1) (by simpa using hi)⟩
    refine hlit _ _ (by rw [hn, tb_len]) fun i hi => ?_
    rw [tb_len] at hi
    obtain ⟨z, h1, _⟩ := key i hi
    rw [h1, List.getD_eq_getElem?_getD, tb_get hi]
    simp only [h1, Option.getD_some]

theorem spot_of_cell {w : World} {a : Addr} {v : Value} (h : w.cell? a = some v) : a.spot = none ∧ a.block < w.heap.size := by
  unfold World.cell? at h
  split at h
  · rename_i c e f hc
    split at h
    · cases h
    · rename_i hs
      refine ⟨by simpa using hs, ?_⟩
      rcases Nat.lt_or_ge a.block w.heap.size with h' | h'
      · exact h'
      · rw [Array.getElem?_eq_none h'] at hc; cases hc
  · cases h

theorem PHs_ints {imm : Nat → Prop} {w : World} {k : IntKind} {b : Nat} : ∀ {D : List Int} {o : Nat}, (∀ i, i < D.length → w.cell? ⟨b, o + i, none⟩ = some (.int k (D.getD i 0))) → PHs imm w (pI k D) b o
  | [], _, _ => trivial
  | x :: D, o, h => by
    refine ⟨⟨_, by simpa using h 0 (by simp), rfl, rfl⟩, PHs_ints fun i hi => ?_⟩
    have := h (i + 1) (by simpa using hi)
    rw [show o + 1 + i = o + (i + 1) by omega, this]; simp

/-- A slice of numbers that is handed in. -/
theorem open_sI {r : Reach} {b0 : Nat} {t e : Nat} {k : IntKind} {v : Value} {d : DataW H} {ps : List MemPlace} (ht : P.underlying t = some (.slice e)) (he : P.underlying e = some (.int k)) (hc : P.cellsOf e = 1) (hval : Value.okWide P w r b0 t v) (hd : DataW.Trod enc P w base (fun _ => true) held t v d ps) :
    ∃ (f : Option Bool) (D : List Int), (∀ n ∈ D, (Lit.int k n).wf = true) ∧ D.length ≤ maxLen ∧ VH (fun _ => none) (fun k => k < w.heap.size) w (sI f k D) v := by
  obtain ⟨A, len, cap, rfl⟩ := okWide_slice ht hval
  obtain ⟨fuel, hf⟩ := hd
  rcases open_ints ht he hc hf with ⟨hcs, _⟩ | ⟨x, l, c, zs, hcs, _, hl, hm, hz, _, hcell, hwz⟩
  · simp [Value.cells] at hcs
    obtain ⟨rfl, rfl, rfl⟩ := hcs
    exact ⟨some true, [], by simp, by simp, _, 0, rfl, by simp, fun _ => rfl, fun h => by simp at h, fun _ => ⟨rfl, rfl, rfl⟩, fun a ha => by cases ha⟩
  · simp [Value.cells] at hcs
    obtain ⟨rfl, rfl, rfl⟩ := hcs
    simp only [if_true] at hz
    have hlen : (zs.take len).length = len := by rw [List.length_take]; omega
    refine ⟨some false, zs.take len, fun n hn => hwz n (List.mem_of_mem_take hn), by rw [hlen]; omega, ?_⟩
    simp only [sI, VH, PH, hlen]
    refine ⟨_, cap, rfl, hl, fun h => by simp at h, fun _ h => by simp at h, fun h => by simp at h, fun a ha hne => ?_⟩
    simp only [Option.some.injEq] at ha
    subst ha
    have hpos : 0 < len := by
      rcases Nat.eq_zero_or_pos len with h | h
      · subst h; simp [pI] at hne
      · exact h
    have h0 := hcell 0 (by omega)
    obtain ⟨hs, hb⟩ := spot_of_cell h0
    have hx : x = ⟨x.block, x.off, none⟩ := by
      have : x.spot = none := hs
      cases x; simp_all
    refine ⟨by rw [hx], hb, PHs_ints fun i hi => ?_⟩
    rw [hlen] at hi
    have h1 := hcell i (by omega)
    rw [show (zs.take len).getD i 0 = zs.getD i 0 by simp [List.getD_eq_getElem?_getD, hi], ← h1]
    have hsx : x.spot = none := hs
    rw [addr_eta hsx, add_none]
/-- A slice of numbers that is handed in. -/
theorem open_sIb {r : Reach} {b0 : Nat} {t e : Nat} {k : IntKind} {v : Value} {d : DataW H} {ps : List MemPlace} (ht : P.underlying t = some (.slice e)) (he : P.underlying e = some (.int k)) (hc : P.cellsOf e = 1) (hval : Value.okWide P w r b0 t v) (hd : DataW.Trod enc P w base (fun _ => true) held t v d ps) :
    ∃ (f : Bool) (D : List Int), (f = true → D = []) ∧ (∀ n ∈ D, (Lit.int k n).wf = true) ∧ D.length ≤ maxLen ∧ VH (fun _ => none) (fun k => k < w.heap.size) w (sI (some f) k D) v := by
  obtain ⟨A, len, cap, rfl⟩ := okWide_slice ht hval
  obtain ⟨fuel, hf⟩ := hd
  rcases open_ints ht he hc hf with ⟨hcs, _⟩ | ⟨x, l, c, zs, hcs, _, hl, hm, hz, _, hcell, hwz⟩
  · simp [Value.cells] at hcs
    obtain ⟨rfl, rfl, rfl⟩ := hcs
    exact ⟨true, [], fun _ => rfl, by simp, by simp, _, 0, rfl, by simp, fun _ => rfl, fun h => by simp at h, fun _ => ⟨rfl, rfl, rfl⟩, fun a ha => by cases ha⟩
  · simp [Value.cells] at hcs
    obtain ⟨rfl, rfl, rfl⟩ := hcs
    simp only [if_true] at hz
    have hlen : (zs.take len).length = len := by rw [List.length_take]; omega
    refine ⟨false, zs.take len, fun h => (by cases h), fun n hn => hwz n (List.mem_of_mem_take hn), by rw [hlen]; omega, ?_⟩
    simp only [sI, VH, PH, hlen]
    refine ⟨_, cap, rfl, hl, fun h => by simp at h, fun _ h => by simp at h, fun h => by simp at h, fun a ha hne => ?_⟩
    simp only [Option.some.injEq] at ha
    subst ha
    have hpos : 0 < len := by
      rcases Nat.eq_zero_or_pos len with h | h
      · subst h; simp [pI] at hne
      · exact h
    have h0 := hcell 0 (by omega)
    obtain ⟨hs, hb⟩ := spot_of_cell h0
    have hx : x = ⟨x.block, x.off, none⟩ := by
      have : x.spot = none := hs
      cases x; simp_all
    refine ⟨by rw [hx], hb, PHs_ints fun i hi => ?_⟩
    rw [hlen] at hi
    have h1 := hcell i (by omega)
    rw [show (zs.take len).getD i 0 = zs.getD i 0 by simp [List.getD_eq_getElem?_getD, hi], ← h1]
    have hsx : x.spot = none := hs
    rw [addr_eta hsx, add_none]
end
end Go.Am
