import Derived.Test.YtaoagcdljmpllaaM4
import Derived.Test.YtaoagcdljmpllaaM2
import Derived.SizedLaws
/- LinFewer: an order stays one when a write is not answered, or a read was never made. No conditions. -/
namespace Go.Proofs.Ytaoagcdljmpllaa
open Go.Am
def unanswered (x : Op) : Op := Op.mk x.write x.value x.ver x.began 0
theorem over_zero (x : Op) : over (unanswered x) = 9223372036854775807 := rfl
theorem sol_unanswered {l : List Op} (hb : ∀ x ∈ l, x.began ≤ 9223372036854775807) {i : Nat} {x0 : Op} (h0 : l[i]? = some x0) (hw : x0.write = true) : ∀ (row : List Int) (p : Point), Sol l p row → Sol (l.set i (unanswered x0)) p row
  | [], p, h => by
    have h : allSO (sr l) p.done = true := h
    show allSO (sr (l.set i (unanswered x0))) p.done = true
    rw [allSO_iff] at h ⊢
    intro k y hy
    have hy : (l.set i (unanswered x0))[k]? = some y := hy
    rw [List.getElem?_set] at hy
    by_cases e : i = k
    · rw [if_pos e, if_pos (lt_of_get h0)] at hy
      injection hy with hy; subst hy; rfl
    · rw [if_neg e] at hy
      exact h k y hy
  | z :: row, p, h => by
    obtain ⟨k, x, rfl, hx, hc, hs⟩ := h
    have ih := sol_unanswered hb h0 hw row _ hs
    obtain ⟨c1, c2, c3⟩ := (cand_iff _ _ _ _).1 hc
    have hget : ∀ j, (l.set i (unanswered x0))[j]? = if i = j then some (unanswered x0) else l[j]? := fun j => by
      rw [List.getElem?_set]
      by_cases e : i = j
      · rw [if_pos e, if_pos e, if_pos (lt_of_get h0)]
      · rw [if_neg e, if_neg e]
    have key : ∀ x', (l.set i (unanswered x0))[k]? = some x' → x'.began = x.began → firstSO (sr (l.set i (unanswered x0))) (k : Int) p.done = true := fun x' hx' hbg => by
      rw [firstSO_iff] at c3 ⊢
      intro j y hy
      have hy : (l.set i (unanswered x0))[j]? = some y := hy
      show firstC' (l.set i (unanswered x0)) (k : Int) p.done j y = false
      unfold firstC'
      rw [Int.toNat_natCast, getI hx', hbg]
      rw [hget] at hy
      by_cases e : i = j
      · rw [if_pos e] at hy
        injection hy with hy; subst hy
        rw [over_zero, decide_eq_false (p := (9223372036854775807 : Int) < x.began) (by have := hb x (List.mem_of_getElem? hx); omega)]
        simp
      · rw [if_neg e] at hy
        have := c3 j y hy
        unfold firstC' at this
        have e2 : (sr l).l.D[((k : Nat) : Int).toNat]! = x := by rw [Int.toNat_natCast]; exact getI hx
        rw [e2] at this
        exact this
    by_cases e : i = k
    · subst e
      rw [h0] at hx; injection hx with hx; subst hx
      have hx' : (l.set i (unanswered x0))[i]? = some (unanswered x0) := by rw [hget, if_pos rfl]
      exact ⟨i, unanswered x0, rfl, hx', (cand_iff _ _ _ _).2 ⟨c1, .inl hw, key _ hx' rfl⟩, ih⟩
    · have hx' : (l.set i (unanswered x0))[k]? = some x := by rw [hget, if_neg e]; exact hx
      exact ⟨k, x, rfl, hx', (cand_iff _ _ _ _).2 ⟨c1, c2, key _ hx' rfl⟩, ih⟩
/-- Where a place of the shorter list stood. -/
def up (i j : Nat) : Nat := if j < i then j else j + 1
theorem up_ne (i j : Nat) : up i j ≠ i := by unfold up; split <;> omega
theorem up_inj {i j k : Nat} (h : up i j = up i k) : j = k := by unfold up at h; split at h <;> split at h <;> omega
theorem up_of {i k : Nat} (h : k ≠ i) : ∃ j, up i j = k := by
  by_cases h1 : k < i
  · exact ⟨k, by unfold up; rw [if_pos h1]⟩
  · exact ⟨k - 1, by unfold up; rw [if_neg (by omega)]; omega⟩
theorem get_erase {α : Type} (l : List α) (i j : Nat) : (l.eraseIdx i)[j]? = l[up i j]? := by
  rw [List.getElem?_eraseIdx]; unfold up; split <;> rfl
def RelE (l : List Op) (i : Nat) (done done' : Int) : Prop := ∀ j, up i j < l.length → mHas done' (j : Int) = mHas done ((up i j : Nat) : Int)
theorem up_le (i j : Nat) : j ≤ up i j := by unfold up; split <;> omega
theorem sol_erased {l : List Op} (h64 : l.length ≤ 64) {i : Nat} {x0 : Op} (h0 : l[i]? = some x0) (hw : x0.write = false) : ∀ (row : List Int) (done done' : Int) (v : ByteArray), okD done → okD done' → RelE l i done done' → Sol l ⟨done, v⟩ row → ∃ row', Sol (l.eraseIdx i) ⟨done', v⟩ row'
  | [], done, done', v, _, _, hr, h => by
    refine ⟨[], ?_⟩
    have h : allSO (sr l) done = true := h
    show allSO (sr (l.eraseIdx i)) done' = true
    rw [allSO_iff] at h ⊢
    intro k y hy
    have hy : (l.eraseIdx i)[k]? = some y := hy
    rw [get_erase] at hy
    rw [hr k (lt_of_get hy)]
    exact h (up i k) y hy
  | z :: row, done, done', v, hd, hd', hr, h => by
    obtain ⟨k, x, rfl, hx, hc, hs⟩ := h
    obtain ⟨c1, c2, c3⟩ := (cand_iff _ _ _ _).1 hc
    have hk := lt_of_get hx
    have hs : Sol l ⟨mWith done (k : Int), bif x.write then x.value else v⟩ row := hs
    by_cases e : k = i
    · subst e
      rw [h0] at hx; injection hx with hx; subst hx
      rw [hw] at hs
      refine sol_erased h64 h0 hw row (mWith done (k : Int)) done' v (with_okD hd (by omega)) hd' (fun j hj => ?_) hs
      rw [hr j hj, has_withD hd (by omega) (by omega), decide_eq_false (fun e => up_ne k j e.symm), Bool.or_false]
    · obtain ⟨m, hm⟩ := up_of e
      have hmle := up_le i m
      obtain ⟨row', hrow⟩ := sol_erased h64 h0 hw row (mWith done (k : Int)) (mWith done' (m : Int)) (bif x.write then x.value else v) (with_okD hd (by omega)) (with_okD hd' (by omega)) (fun j hj => by
        have hjle := up_le i j
        rw [has_withD hd (by omega) (by omega), has_withD hd' (by omega) (by omega), hr j hj]
        congr 1
        by_cases e2 : m = j
        · rw [decide_eq_true e2, decide_eq_true (by rw [← hm, e2])]
        · rw [decide_eq_false e2, decide_eq_false (fun e3 => e2 (up_inj (hm.trans e3)))]) hs
      have hx' : (l.eraseIdx i)[m]? = some x := by rw [get_erase, hm]; exact hx
      refine ⟨(m : Int) :: row', m, x, rfl, hx', (cand_iff _ _ _ _).2 ⟨?_, c2, ?_⟩, hrow⟩
      · show mHas done' (m : Int) = false
        rw [hr m (by rw [hm]; exact hk), hm]; exact c1
      · rw [firstSO_iff] at c3 ⊢
        intro j y hy
        have hy : (l.eraseIdx i)[j]? = some y := hy
        have hy2 := hy
        rw [get_erase] at hy2
        have := c3 (up i j) y hy2
        show firstC' (l.eraseIdx i) (m : Int) done' j y = false
        have this : firstC' l (k : Int) done (up i j) y = false := this
        unfold firstC' at this ⊢
        rw [Int.toNat_natCast, getI hx] at this
        rw [Int.toNat_natCast, getI hx', hr j (lt_of_get hy2)]
        by_cases e2 : j = m
        · subst e2; simp
        · have e3 : up i j ≠ k := fun e3 => e2 (up_inj (e3.trans hm.symm))
          have e4 : (((up i j : Nat) : Int) != (k : Int)) = true := by simp; omega
          have e5 : (((j : Nat) : Int) != (m : Int)) = true := by simp; omega
          rw [e4] at this
          rw [e5]; exact this
theorem order_ok {l : Sl Op} (h : (order l).2.1 = true) : (rightL l != 0) = false := by
  cases hr : (rightL l != 0)
  · rfl
  · unfold order at h; rw [hr] at h; cases h
theorem order_of {l : Sl Op} (hr : (rightL l != 0) = false) {row : List Int} (hs : Sol l.D ⟨0, ⟨#[]⟩⟩ row) : (order l).2.1 = true ∧ (order l).2.2 = 0 := by
  obtain ⟨_, h2, h3⟩ := order_spec hr
  refine ⟨?_, h3⟩
  cases hf : (order l).2.1
  · exact absurd hs ((h2 hf).2 row)
  · rfl
theorem lawFewer_true (l : Sl Op) (w : WT40 l) (i : Int) : lawFewer l i = true := by
  unfold lawFewer
  rw [awakeL_true]
  cases h7 : decide ((l.D.length : Int) > 7)
  · cases h0 : ((l.D.length : Int) == 0)
    · cases ho : (order l).2.1
      · rfl
      · obtain ⟨i1, i2⟩ := ix_ok i (l := l) h7 h0
        generalize IntKind.i64.wrap ((IntKind.u64.wrap i).tmod (IntKind.u64.wrap (l.D.length : Int))) = n at i1 i2
        have hr := order_ok ho
        have hs := (order_spec hr).1 ho
        obtain ⟨r1, r2⟩ := (rightL_iff l).1 hr
        have hn : n.toNat < l.D.length := by omega
        have hx := getO hn
        generalize l.D[n.toNat]! = x at hx
        cases hw : x.write
        · obtain ⟨row', hrow⟩ := sol_erased (by omega) hx hw (order l).1.D 0 0 _ okD0 okD0 (fun j hj => by
            have hjle := up_le n.toNat j
            have z : ∀ q : Nat, q < 64 → mHas 0 (q : Int) = false := fun q hq => by
              have := has_nat (S := 0) (n := q) (by decide) hq
              rw [Nat.zero_testBit] at this
              exact this
            rw [z j (by omega), z _ (by omega)]) hs
          obtain ⟨o1, o2⟩ := order_of (l := Sl.mk false (l.D.eraseIdx n.toNat)) ((rightL_iff _).2 ⟨Nat.le_trans (List.length_eraseIdx_le _ _) r1, fun y hy => r2 y (List.mem_of_mem_eraseIdx hy)⟩) hrow
          rw [o1, o2]; rfl
        · have hb : ∀ y ∈ l.D, y.began ≤ 9223372036854775807 := fun y hy => by
            have hb := (w.2.2 y hy).2.2.2.1
            simp [Lit.wf, IntKind.min, IntKind.max, IntKind.signed, IntKind.bits] at hb
            omega
          have hrow := sol_unanswered hb hx hw _ _ hs
          have e : Op.mk true x.value x.ver x.began 0 = unanswered x := by unfold unanswered; rw [hw]
          rw [e]
          obtain ⟨o1, o2⟩ := order_of (l := Sl.mk false (l.D.set n.toNat (unanswered x))) ((rightL_iff _).2 ⟨by show (l.D.set _ _).length ≤ _; rw [List.length_set]; exact r1, fun y hy => by
            rcases List.mem_or_eq_of_mem_set hy with hy | rfl
            · exact r2 y hy
            · obtain ⟨q1, _, q3, q4, q5⟩ := r2 x (List.mem_of_getElem? hx)
              exact ⟨q1, .inl rfl, q3, q4, q5⟩⟩) hrow
          rw [o1, o2]; rfl
    · rfl
  · rfl
theorem linFewer_calls (l : Sl Op) (w : WT40 l) (hl : l.D.length ≤ 2932031007317) (i : Int) (_ : (Lit.int .i64 i).wf = true) : PCalls Try.prog 10 [sS (some l.nil) eOp l.D, .pv (.lit (.int .i64 i))] (.pv (.bool true)) := by
  have r := lawFewer_calls l i w.2.1 hl
  rw [lawFewer_true l w i] at r
  exact r
end Go.Proofs.Ytaoagcdljmpllaa
/- An abstract machine over the kit's calls, part 34: three rows of three numbers that are handed in. No conditions. -/
namespace Go.Am
section
variable {H : Type} {enc : TypeId × Value → H} {P : Program} {w : World} {base : Nat} {spare : Nat → Bool} {held : Bool}
end
end Go.Am
/- An abstract machine over the kit's calls, part 44: a list that is handed in is no longer than memory reaches. No conditions. -/
namespace Go.Am
open Go.ChangeShapes Go.WideShapes Go.ChangeAt Go.RowKit
theorem sized_len {H : Type} {enc : TypeId × Value → H} {P : Program} {w : World} {base : Nat} {spare : Nat → Bool} {held : Bool} {ts : List TypeId} {ds : List (DataW H)} (hsz : (DataW.weightsEach P ts ds).all (· ≤ reachBytes) = true) {j : Nat} {t e : TypeId} (hu : P.underlying t = some (.slice e)) {d : DataW H} {ps : List MemPlace} {v : Value}
    (ht : ts[j]? = some t) (hd : ds[j]? = some d) (h : DataW.Trod enc P w base spare held t v d ps) (hv : v.cells = #[v]) {ι : Nat → Option (Nat × Nat)} {imm : Nat → Prop} {f : Bool} {n : Nat} {cs : List PV} (g : VH ι imm w (.pv (.sl (some f) n cs)) v) : n * P.bytesOf e ≤ reachBytes := by
  obtain ⟨fuel, hf⟩ := h
  rw [hv] at hf
  simp only [VH, PH] at g
  obtain ⟨A, cap, h1, _⟩ := g
  rcases DataW.trod_slice hu hf with ⟨h2, h3⟩ | ⟨a, len, cap', elems, rest, m, _, h2, h3, _, _, _, h4, _⟩
  · have h2 : [v] = [Value.slice none 0 0] := h2
    injection h2 with h2 _
    rw [h2] at h1
    injection h1 with _ h1 _
    rw [← h1]; simp
  · have h2 : [v] = [Value.slice (some a) len cap'] := h2
    injection h2 with h2 _
    rw [h2] at h1
    injection h1 with _ h1 _
    injection h3 with h3 _
    have := sized_slice hsz ht (by rw [hd, h3]) hu
    rw [List.length_map, h4, h1, Nat.add_mul] at this
    omega
end Go.Am
/- What all rows of this seat need: no knob is turned, the types are laid out. No conditions. -/
namespace Go.Proofs.Ytaoagcdljmpllaa
open Go.Am
theorem own : ownKnob Try.prog.godebug = none := by kernel_rfl
theorem laidOut : laidOutB Try.prog = true := by kernel_rfl
end Go.Proofs.Ytaoagcdljmpllaa
