/- An abstract machine over the kit's calls, part 30: inputs of any type without pointers opened. No conditions. -/
import Derived.Test.YtjhphpoihadmkaaAm27
import Derived.Test.YtjhphpoihadmkaaAm19
namespace Go.Am
open Go.ChangeShapes Go.WideShapes Go.ChangeAt Go.RowKit

/-- What cells of a struct's fields hold. -/
def FlatS (F : TypeId → List PV → Prop) : List Field → List PV → Prop
  | [], ps => ps = []
  | f :: fs, ps => ∃ a b, ps = a ++ b ∧ F f.type a ∧ FlatS F fs b
/-- What cells of a type hold. -/
def Flat (P : Program) : Nat → TypeId → List PV → Prop
  | 0, _, _ => False
  | m + 1, t, ps => match P.underlying t with
    | some .bool => ∃ b, ps = [.lit (.bool b)]
    | some (.int k) => ∃ n, ps = [.lit (.int k n)] ∧ (Lit.int k n).wf = true
    | some .string => ∃ s, ps = [.lit (.string s)] ∧ s.size ≤ maxLen
    | some (.slice e) => ∃ (b : Bool) (D : List (List PV)), ps = [.sl (some b) D.length D.flatten] ∧ D.length ≤ maxLen ∧ (b = true → D = []) ∧ ∀ x ∈ D, Flat P m e x
    | some (.struct fs) => FlatS (Flat P m) fs.toList ps
    | _ => False
def okFs (P : Program) (F : TypeId → Bool) (n : Nat) : List Field → Nat → Bool
  | [], o => o == n
  | f :: fs, o => f.offset == o && F f.type && okFs P F n fs (o + P.cellsOf f.type)
def okTy (P : Program) : Nat → TypeId → Bool
  | 0, _ => false
  | m + 1, t => match P.underlying t with
    | some .bool | some (.int _) | some .string => true
    | some (.slice e) => okTy P m e && decide (0 < P.cellsOf e)
    | some (.struct fs) => okFs P (okTy P m) (P.cellsOf t) fs.toList 0
    | _ => false

theorem exists_list {α : Type} {p : Nat → α → Prop} : ∀ (n : Nat), (∀ i, i < n → ∃ x, p i x) → ∃ D : List α, D.length = n ∧ ∀ i x, D[i]? = some x → p i x
  | 0, _ => ⟨[], rfl, fun i x h => by simp at h⟩
  | n + 1, h => by
    obtain ⟨D, h1, h2⟩ := exists_list n fun i hi => h i (by omega)
    obtain ⟨x, hx⟩ := h n (by omega)
    refine ⟨D ++ [x], by simp [h1], fun i y hy => ?_⟩
    rcases Nat.lt_or_ge i D.length with hi | hi
    · rw [List.getElem?_append_left hi] at hy; exact h2 i y hy
    · rw [List.getElem?_append_right hi] at hy
      have : i = D.length := by
        rcases Nat.lt_or_ge (i - D.length) 1 with h' | h'
        · omega
        · rw [List.getElem?_eq_none (by simpa using h')] at hy; cases hy
      subst this
      simp at hy
      subst hy
      rw [h1]; exact hx

theorem PHs_append {imm : Nat → Prop} {w : World} : ∀ {ps qs : List PV} {b o : Nat}, PHs imm w ps b o → PHs imm w qs b (o + ps.length) → PHs imm w (ps ++ qs) b o
  | [], _, _, _, _, h => h
  | p :: ps, qs, b, o, h, h' => ⟨h.1, PHs_append h.2 (by rw [List.length_cons] at h'; rw [show o + 1 + ps.length = o + (ps.length + 1) by omega]; exact h')⟩
theorem PHs_of {imm : Nat → Prop} {w : World} {ι : Nat → Option (Nat × Nat)} {b : Nat} : ∀ {ps : List PV} {cs : List Value} {o : Nat}, VHs ι imm w (ps.map .pv) cs → (∀ i, i < cs.length → w.cell? ⟨b, o + i, none⟩ = cs[i]?) → PHs imm w ps b o
  | [], _, _, _, _ => trivial
  | p :: ps, cs, o, h, hc => by
    obtain ⟨v, us, rfl, h1, h2⟩ := h
    refine ⟨⟨v, by simpa using hc 0 (by simp), h1⟩, PHs_of h2 fun i hi => ?_⟩
    have := hc (i + 1) (by simpa using hi)
    rw [show o + 1 + i = o + (i + 1) by omega, this]; simp
theorem PHs_flatten {imm : Nat → Prop} {w : World} {b n : Nat} : ∀ {D : List (List PV)} {o : Nat}, (∀ i x, D[i]? = some x → x.length = n ∧ PHs imm w x b (o + i * n)) → PHs imm w D.flatten b o
  | [], _, _ => trivial
  | x :: D, o, h => by
    obtain ⟨h1, h2⟩ := h 0 x rfl
    rw [List.flatten_cons]
    refine PHs_append (by simpa using h2) (PHs_flatten (n := n) fun i y hy => ?_)
    obtain ⟨h3, h4⟩ := h (i + 1) y (by simpa using hy)
    exact ⟨h3, by rw [h1, show o + n + i * n = o + (i + 1) * n by rw [Nat.add_mul]; omega]; exact h4⟩

section
variable {H : Type} {enc : TypeId × Value → H} {P : Program} {w : World} {base : Nat} {held : Bool}

theorem open_fields {F : TypeId → List PV → Prop} {G : TypeId → Bool} {ι : Nat → Option (Nat × Nat)} {imm : Nat → Prop} {cs : List Value} {n : Nat} (hF : ∀ t cs x, G t = true → DataW.trod enc P w base (fun _ => true) held n t cs = some x → ∃ ps : List PV, VHs ι imm w (ps.map .pv) cs ∧ F t ps) {xs : List (DataW H × List MemPlace)} : ∀ (fs : List Field) (j o : Nat), okFs P G cs.length fs o = true → (∀ (i : Nat) (f : Field), fs[i]? = some f → DataW.trod enc P w base (fun _ => true) held n f.type ((cs.drop f.offset).take (P.cellsOf f.type)) = xs[j + i]?) → xs.length = j + fs.length → o ≤ cs.length →
    ∃ ps : List PV, VHs ι imm w (ps.map .pv) (cs.drop o) ∧ FlatS F fs ps
  | [], j, o, hok, _, _, _ => by
    have : o = cs.length := by simpa [okFs] using hok
    subst this
    exact ⟨[], by simp [VHs], rfl⟩
  | f :: fs, j, o, hok, hx, hl, ho => by
    simp only [okFs, Bool.and_eq_true, beq_iff_eq] at hok
    obtain ⟨⟨h1, h2⟩, h3⟩ := hok
    have hf := hx 0 f rfl
    have : ∃ y, xs[j + 0]? = some y := ⟨xs[j]'(by simp only [List.length_cons] at hl; omega), by simp only [List.length_cons] at hl; rw [Nat.add_zero, List.getElem?_eq_getElem (by omega)]⟩
    obtain ⟨y, hy⟩ := this
    rw [hy, h1] at hf
    obtain ⟨a, ha, hFa⟩ := hF _ _ _ h2 hf
    have hlen : o + P.cellsOf f.type ≤ cs.length := by
      have key : ∀ (fs : List Field) (o : Nat), okFs P G cs.length fs o = true → o ≤ cs.length := by
        intro fs
        induction fs with
        | nil => intro o h; have : o = cs.length := by simpa [okFs] using h
                 omega
        | cons g gs ih => intro o h; simp only [okFs, Bool.and_eq_true] at h; have := ih _ h.2; omega
      exact key _ _ h3
    obtain ⟨b, hb, hFb⟩ := open_fields hF fs (j + 1) (o + P.cellsOf f.type) h3 (fun i g hg => by
      have := hx (i + 1) g (by simpa using hg)
      rw [show j + 1 + i = j + (i + 1) by omega]; exact this) (by simp only [List.length_cons] at hl; omega) hlen
    refine ⟨a ++ b, ?_, a, b, rfl, hFa, hFb⟩
    have : cs.drop o = (cs.drop o).take (P.cellsOf f.type) ++ cs.drop (o + P.cellsOf f.type) := by
      rw [← List.drop_drop, List.take_append_drop]
    rw [this, List.map_append]
    exact VHs.append ha hb

theorem open_flat {ι : Nat → Option (Nat × Nat)} : ∀ (m fuel : Nat) (t : TypeId) (cs : List Value) (x : DataW H × List MemPlace), okTy P m t = true → DataW.trod enc P w base (fun _ => true) held fuel t cs = some x →
    ∃ ps : List PV, VHs ι (fun k => k < w.heap.size) w (ps.map .pv) cs ∧ Flat P m t ps
  | 0, _, _, _, _, hok, _ => by simp [okTy] at hok
  | m + 1, fuel, t, cs, x, hok, h => by
    simp only [okTy] at hok
    split at hok
    · rename_i ht
      obtain ⟨b, rfl, _⟩ := DataW.trod_bool ht h
      exact ⟨[.lit (.bool b)], ⟨_, [], rfl, ⟨rfl, rfl⟩, rfl⟩, by simp only [Flat, ht]; exact ⟨b, rfl⟩⟩
    · rename_i k ht
      obtain ⟨n, rfl, _, hw⟩ := DataW.trod_int ht h
      exact ⟨[.lit (.int k n)], ⟨_, [], rfl, ⟨rfl, rfl⟩, rfl⟩, by simp only [Flat, ht]; exact ⟨n, rfl, hw⟩⟩
    · rename_i ht
      obtain ⟨s, rfl, _, hs⟩ := DataW.trod_string ht h
      exact ⟨[.lit (.string s)], ⟨_, [], rfl, ⟨rfl, rfl⟩, rfl⟩, by simp only [Flat, ht]; exact ⟨s, rfl, hs⟩⟩
    · rename_i e ht
      simp only [Bool.and_eq_true, decide_eq_true_eq] at hok
      rcases DataW.trod_slice ht h with ⟨rfl, _⟩ | ⟨a, len, cap, elems, rest, n, _, rfl, _, hb, hl, hm, hlen, hel, _, _⟩
      · refine ⟨[.sl (some true) 0 []], ⟨_, [], rfl, ?_, rfl⟩, by simp only [Flat, ht]; exact ⟨true, [], rfl, Nat.zero_le _, fun _ => rfl, fun x hx => by cases hx⟩⟩
        exact ⟨none, 0, rfl, Nat.le_refl _, fun _ => rfl, fun h => by simp at h, fun _ => ⟨rfl, rfl, rfl⟩, fun a ha => by cases ha⟩
      · have hspot : 0 < len → a.spot = none ∧ a.block < w.heap.size := fun hi => by
          have h1 := hel 0 hi
          have : ∃ y, elems[0]? = some y := ⟨elems[0], by rw [List.getElem?_eq_getElem (by omega)]⟩
          obtain ⟨y, hy⟩ := this
          rw [hy, Option.bind_eq_some_iff] at h1
          obtain ⟨ds, d1, _⟩ := h1
          obtain ⟨_, d3, d4⟩ := World.cells?_some d1
          have h0 := d4 0 hok.2
          have hds : ∃ v, ds[0]? = some v := ⟨ds[0], by rw [List.getElem?_eq_getElem (by omega)]⟩
          obtain ⟨v0, hv0⟩ := hds
          rw [hv0] at h0
          simpa [Addr.add] using spot_of_cell h0
        have each : ∀ i, i < len → ∃ ps : List PV, Flat P m e ps ∧ ps.length = P.cellsOf e ∧ a.spot = none ∧ a.block < w.heap.size ∧ PHs (fun k => k < w.heap.size) w ps a.block (a.off + i * P.cellsOf e) := fun i hi => by
          have h1 := hel i hi
          have : ∃ y, elems[i]? = some y := ⟨elems[i], by rw [List.getElem?_eq_getElem (by omega)]⟩
          obtain ⟨y, hy⟩ := this
          rw [hy, Option.bind_eq_some_iff] at h1
          obtain ⟨ds, d1, d2⟩ := h1
          obtain ⟨_, d3, d4⟩ := World.cells?_some d1
          obtain ⟨ps, p1, p2⟩ := open_flat (ι := ι) m n e ds y hok.1 d2
          have hpl := p1.length
          rw [List.length_map] at hpl
          obtain ⟨hsp, s2⟩ := hspot (by omega)
          refine ⟨ps, p2, by omega, hsp, s2, PHs_of p1 fun j hj => ?_⟩
          have := d4 j (by omega)
          rw [← this, addr_eta hsp, add_none, add_none]
        obtain ⟨D, hD, hp⟩ := exists_list len each
        refine ⟨[.sl (some false) D.length D.flatten], ⟨_, [], rfl, ?_, rfl⟩, ?_⟩
        · refine ⟨some a, cap, by rw [hD], by omega, fun h => by simp at h, fun _ h => by simp at h, fun h => by simp at h, fun a' ha' hne => ?_⟩
          simp only [Option.some.injEq] at ha'
          subst ha'
          have hpos : ∃ x, D[0]? = some x := by
            cases D with
            | nil => simp at hne
            | cons x D => exact ⟨x, rfl⟩
          obtain ⟨x0, hx0⟩ := hpos
          obtain ⟨_, _, e3, e4, _⟩ := hp 0 x0 hx0
          exact ⟨e3, e4, PHs_flatten fun i y hy => ⟨(hp i y hy).2.1, (hp i y hy).2.2.2.2⟩⟩
        · simp only [Flat, ht]
          refine ⟨false, D, rfl, by omega, fun h => (by cases h), fun y hy => ?_⟩
          obtain ⟨i, hi, rfl⟩ := List.getElem_of_mem hy
          exact (hp i _ (List.getElem?_eq_getElem hi)).1
    · rename_i fs ht
      obtain ⟨xs, n, _, _, hl, hxl, hx⟩ := DataW.trod_struct ht h
      obtain ⟨ps, h1, h2⟩ := open_fields (F := Flat P m) (G := okTy P m) (ι := ι) (imm := fun k => k < w.heap.size) (cs := cs) (n := n) (fun t' cs' x' ho ht' => open_flat (ι := ι) m n t' cs' x' ho ht') (xs := xs) fs.toList 0 0 (by rw [hl]; exact hok) (fun i f hf => by rw [Nat.zero_add]; exact hx i f (by simpa using hf)) (by simp [hxl]) (Nat.zero_le _)
      exact ⟨ps, by simpa using h1, by simp only [Flat, ht]; exact h2⟩
    · cases hok

/-- A struct that is handed in. -/
theorem open_struct {r : Reach} {b0 : Nat} {t : TypeId} {fs : Array Field} {v : Value} {d : DataW H} {ps : List MemPlace} (m : Nat) (hok : okTy P m t = true) (ht : P.underlying t = some (.struct fs)) (hval : Value.okWide P w r b0 t v) (hd : DataW.Trod enc P w base (fun _ => true) held t v d ps) : ∃ qs : List PV, Flat P m t qs ∧ VH (fun _ => none) (fun k => k < w.heap.size) w (.agg (qs.map .pv)) v := by
  simp only [Value.okWide, ht] at hval
  obtain ⟨cs, rfl, _⟩ := hval
  obtain ⟨fuel, hf⟩ := hd
  obtain ⟨qs, h1, h2⟩ := open_flat (ι := fun _ => none) m fuel t _ _ hok hf
  exact ⟨qs, h2, cs.toList, by simp, h1⟩
/-- One cell that is handed in. -/
theorem open_cell {t : TypeId} {v : Value} {d : DataW H} {ps : List MemPlace} (m : Nat) (hok : okTy P m t = true) (hv : v.cells = #[v]) (hd : DataW.Trod enc P w base (fun _ => true) held t v d ps) : ∃ q : PV, Flat P m t [q] ∧ VH (fun _ => none) (fun k => k < w.heap.size) w (.pv q) v := by
  obtain ⟨fuel, hf⟩ := hd
  obtain ⟨qs, h1, h2⟩ := open_flat (ι := fun _ => none) m fuel t _ _ hok hf
  rw [hv] at h1
  cases qs with
  | nil => simp [VHs] at h1
  | cons q qs =>
    obtain ⟨v', us, he, h3, h4⟩ := h1
    simp only [List.cons.injEq] at he
    obtain ⟨rfl, rfl⟩ := he
    cases qs with
    | nil => exact ⟨q, h2, h3⟩
    | cons a b => simp [VHs] at h4
end
end Go.Am
namespace Go.Am
theorem enc_list {α : Type} {e : Enc α} {W : α → Prop} : ∀ (D : List (List PV)), (∀ y ∈ D, ∃ x, y = e.enc x ∧ W x) → ∃ D' : List α, D'.length = D.length ∧ D.flatten = encL e D' ∧ ∀ x ∈ D', W x
  | [], _ => ⟨[], rfl, rfl, fun x hx => by cases hx⟩
  | y :: D, h => by
    obtain ⟨x, rfl, hx⟩ := h y (List.mem_cons_self ..)
    obtain ⟨D', h1, h2, h3⟩ := enc_list D fun z hz => h z (List.mem_cons_of_mem _ hz)
    refine ⟨x :: D', by simp [h1], by rw [List.flatten_cons, h2]; simp [encL], fun z hz => ?_⟩
    cases hz with
    | head => exact hx
    | tail _ hm => exact h3 z hm
end Go.Am
