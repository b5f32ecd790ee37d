/- What the checks of chains, and places in them, say, in plain words. No conditions. -/
import Derived.Test.YtjhphpoihadmkaaLay1
namespace Go.Proofs.Ytjhphpoihadmkaa
open Go.Am
theorem bif_const {a : Bool} {x y z : Int} (hx : x ≠ z) (h : (bif a then x else y) = z) : a = false ∧ y = z := by
  cases a
  · exact ⟨rfl, h⟩
  · exact absurd h hx
theorem check_len {c : Chain} (h : check c = 0) : 0 < c.members.D.length := by
  unfold check at h
  obtain ⟨_, h⟩ := bif_const (by decide) h
  obtain ⟨_, h⟩ := bif_const (by decide) h
  obtain ⟨h3, h⟩ := bif_const (by decide) h
  have := ne_of_beq_false h3
  omega
theorem check_pos {c : Chain} (h : (check c != 0) = false) : 0 < c.members.D.length := check_len (eq_of_bne_false h)
theorem check_r {c : Chain} (h : rCheck c = 0) : 0 < c.members.D.length := by
  unfold rCheck at h
  obtain ⟨_, h⟩ := bif_const (by decide) h
  obtain ⟨_, h⟩ := bif_const (by decide) h
  obtain ⟨h3, h⟩ := bif_const (by decide) h
  have := ne_of_beq_false h3
  omega
theorem indexFunc_l0_lt (f : Member → Bool) : ∀ (l : List Member) (i : Nat), indexFunc_l0 f l i < ((i + l.length : Nat) : Int) ∧ -1 ≤ indexFunc_l0 f l i
  | [], i => by simp only [indexFunc_l0, List.length_nil]; omega
  | x :: l, i => by
    have := indexFunc_l0_lt f l (i + 1)
    simp only [indexFunc_l0, List.length_cons]
    cases f x <;> simp only [cond_true, cond_false] <;> omega
theorem placeIn_lt (c : Chain) (n : Int) : placeIn c n < (c.members.D.length : Int) ∧ -1 ≤ placeIn c n := by
  have := indexFunc_l0_lt (fun x0 => placeF x0 n) c.members.D 0
  simp only [placeIn, indexFunc]; omega
theorem place0_lt (c : Chain) (n : Int) : place0 c n < (c.members.D.length : Int) ∧ -1 ≤ place0 c n ∧ (0 ≤ place0 c n → 0 < c.members.D.length) := by
  have := placeIn_lt c n
  unfold place0
  cases check c != 0 <;> simp only [cond_true, cond_false] <;> omega
theorem rPlace_l0_lt (n : Int) : ∀ (l : List Member) (i : Nat), rPlace_l0 n l i < ((i + l.length : Nat) : Int) ∧ -1 ≤ rPlace_l0 n l i
  | [], i => by simp only [rPlace_l0, List.length_nil]; omega
  | x :: l, i => by
    have := rPlace_l0_lt n l (i + 1)
    simp only [rPlace_l0, List.length_cons]
    cases x.node == n <;> simp only [cond_true, cond_false] <;> omega
theorem rPlace_lt (c : Chain) (n : Int) : rPlace c n < (c.members.D.length : Int) ∧ -1 ≤ rPlace c n := by
  have := rPlace_l0_lt n c.members.D 0
  unfold rPlace
  cases rCheck c != 0 <;> simp only [cond_true, cond_false] <;> omega
theorem nil_false {α : Type} {b : Bool} {D : List α} (h : b = true → D = []) (hl : 0 < D.length) : b = false := by
  cases b
  · rfl
  · rw [h rfl] at hl; simp at hl
theorem clone_hn (s : Sl Member) (h : (cloneMembers s).nil = true) : (cloneMembers s).D = [] := by
  unfold cloneMembers at h ⊢
  cases hs : s.nil
  · rw [hs] at h; cases h
  · rfl
theorem clone_len (s : Sl Member) : (cloneMembers s).D.length ≤ s.D.length := by
  unfold cloneMembers
  cases hs : s.nil
  · exact Nat.le_refl _
  · exact Nat.zero_le _
end Go.Proofs.Ytjhphpoihadmkaa
