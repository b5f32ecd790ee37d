import Derived.Test.YthnghkkbnhjlgaaDoorM1
import Derived.Test.YthnghkkbnhjlgaaDoorM2
import Derived.Test.YthnghkkbnhjlgaaDoorM3
import Derived.Test.YthnghkkbnhjlgaaDoorM4
/- A key as a number. No conditions. -/
namespace Go.Proofs.YthnghkkbnhjlgaaDoor
open Go.Am
def word_l0 (k : (Nat → Int)) : Nat → Nat → Int → Int
  | 0, _, w => w
  | k1 + 1, i, w => word_l0 k k1 (i + 1) (bitI .or .u64 (shlI .u64 w 8) (IntKind.u64.wrap (k i)))
def word (k : (Nat → Int)) : Int :=
  word_l0 k 8 0 0
theorem word_calls (k : (Nat → Int))  : PCalls Tryd.prog 53 [.agg [.pv (.lit (.int .u8 (k 0))), .pv (.lit (.int .u8 (k 1))), .pv (.lit (.int .u8 (k 2))), .pv (.lit (.int .u8 (k 3))), .pv (.lit (.int .u8 (k 4))), .pv (.lit (.int .u8 (k 5))), .pv (.lit (.int .u8 (k 6))), .pv (.lit (.int .u8 (k 7)))]] (.pv (.lit (.int .u64 (word k)))) := by
 generalize hR : word k = R
 refine PCalls.of_body tabOk Tryd.func53 rfl rfl rfl rfl rfl mixed fun E hP C hI => ?_
 refine Awp.consP C ?_
 refine rvc_un (rexec_prim C (δ := { v := .ptr 1 0, new := [(1, .cells [.pv (.lit (.int .u8 (k 0))), .pv (.lit (.int .u8 (k 1))), .pv (.lit (.int .u8 (k 2))), .pv (.lit (.int .u8 (k 3))), .pv (.lit (.int .u8 (k 4))), .pv (.lit (.int .u8 (k 5))), .pv (.lit (.int .u8 (k 6))), .pv (.lit (.int .u8 (k 7)))])] }) rfl rfl rfl rfl trivial rfl ?_)
 refine rvP C (.pv (.lit (.int .u64 0))) ?_
 refine rvc_nil ?_
 refine Awp.consP C ?_
 refine rvP C (.pv (.lit (.int .u64 0))) ?_
 refine rvc_nil ?_
 refine Awp.seq ?_
 refine Awp.consP C ?_
 refine rvP C (.agg [.pv (.lit (.int .u8 (k 0))), .pv (.lit (.int .u8 (k 1))), .pv (.lit (.int .u8 (k 2))), .pv (.lit (.int .u8 (k 3))), .pv (.lit (.int .u8 (k 4))), .pv (.lit (.int .u8 (k 5))), .pv (.lit (.int .u8 (k 6))), .pv (.lit (.int .u8 (k 7)))]) ?_
 refine rvP C (.pv (.lit (.int .i64 0))) ?_
 refine rvc_nil ?_
 refine Awp.block ?_
 refine Awp.forR (σ := Int) (8) (fun i v => [(3, .pv (.lit (.int .u64 v))), (6, .agg [.pv (.lit (.int .u8 (k 0))), .pv (.lit (.int .u8 (k 1))), .pv (.lit (.int .u8 (k 2))), .pv (.lit (.int .u8 (k 3))), .pv (.lit (.int .u8 (k 4))), .pv (.lit (.int .u8 (k 5))), .pv (.lit (.int .u8 (k 6))), .pv (.lit (.int .u8 (k 7)))]), (7, .pv (.lit (.int .i64 (i : Int))))]) (fun i v => []) [] (fun i v => word_l0 k (8 - i) i v = R) 0 ?_ ?_ (fun i w h1 hR => ?_)
 · exact hR
 · exact ⟨fun b => b, WeakerR.ofL (Ks := []) hI ⟨⟨rfl, rfl⟩, ⟨rfl, rfl⟩, ⟨rfl, rfl⟩, trivial⟩ (okH_nil) rfl⟩
 refine Awp.consP C ?_
 refine rvP C (.pv (.lit (.bool (decide ((i : Int) < 8))))) ?_
 refine rvc_nil ?_
 refine Awp.seq ?_
 refine Awp.cond (b := (decide ((i : Int) < 8))) rfl (fun h2 => ?_) (fun h2 => ?_)
 ·
  have h3 : i < 8 := by have := of_decide_eq_true h2; omega
  obtain ⟨k1, h4⟩ : ∃ k, 8 - i = k + 1 := ⟨8 - i - 1, by omega⟩
  rw [h4] at hR
  refine Awp.skip ?_
  refine Awp.seq ?_
  refine Awp.block ?_
  refine Awp.consP C ?_
  refine rvc_un (rexec_idxA C (fun j => .pv (.lit (.int .u8 (k j)))) (.pv (.lit (.int .u8 (k i)))) rfl rfl rfl rfl rfl rfl rfl rfl ⟨(by have := of_decide_eq_true h2; omega), (by have := of_decide_eq_true h2; omega)⟩ rfl ?_)
  refine rvP C (.pv (.lit (.int .u8 (k i)))) ?_
  refine rvc_nil ?_
  refine Awp.regionP C ?_
  refine rvP C (.pv (.lit (.int .u64 w))) ?_
  refine rvc_un (rexec_prim C (δ := { v := .pv (.lit (.int .u64 (shlI .u64 w 8))) }) rfl rfl rfl rfl (by first | decide | assumption | omega) rfl ?_)
  refine rvP C (.pv (.lit (.int .u8 (k i)))) ?_
  refine rvP C (.pv (.lit (.int .u64 (IntKind.u64.wrap (k i))))) ?_
  refine rvP C (.pv (.lit (.int .u64 (bitI .or .u64 (shlI .u64 w 8) (IntKind.u64.wrap (k i)))))) ?_
  refine rvP C (.pv (.lit (.int .u64 (bitI .or .u64 (shlI .u64 w 8) (IntKind.u64.wrap (k i)))))) ?_
  refine rvc_nil ?_
  refine Awp.regionP C ?_
  refine rvP C (.pv (.lit (.int .i64 (IntKind.i64.wrap ((i : Int) + 1))))) ?_
  refine rvP C (.pv (.lit (.int .i64 (IntKind.i64.wrap ((i : Int) + 1))))) ?_
  refine rvc_nil ?_
  refine ⟨h3, (bitI .or .u64 (shlI .u64 w 8) (IntKind.u64.wrap (k i))), ?_, ?_⟩
  · exact (by rw [show 8 - (i + 1) = k1 by omega]; exact hR)
  · exact ⟨fun b => b, WeakerR.ofL (Ks := []) hI ⟨⟨rfl, rfl⟩, ⟨rfl, rfl⟩, ⟨lit_cast (wrap_i64 (by omega) (by omega)), rfl⟩, trivial⟩ (okH_nil) rfl⟩
 ·
  rw [show 8 - i = 0 by have := of_decide_eq_false h2; omega] at hR
  refine Awp.exit ?_
  refine Awp.consP C ?_
  refine rvP C (.pv (.lit (.int .u64 w))) ?_
  refine rvP C (.pv (.lit (.int .u64 w))) ?_
  refine rvc_nil ?_
  refine Awp.ret ?_
  subst hR
  exact ⟨.inl rfl, rfl⟩
theorem word_l0_ok (k : Nat → Int) : ∀ (f i : Nat) (w : Int), 0 ≤ w ∧ w < 18446744073709551616 → 0 ≤ word_l0 k f i w ∧ word_l0 k f i w < 18446744073709551616
  | 0, _, _, h => h
  | f + 1, i, w, _ => by
    unfold word_l0
    exact word_l0_ok k f (i + 1) _ ⟨wrap_nn64 _, wrap_lt64 _⟩
theorem word_ok (k : Nat → Int) : 0 ≤ word k ∧ word k < 18446744073709551616 := word_l0_ok k _ _ _ (by decide)
def body_l0 : List Seen → Nat → (Sl Int) → (Sl Int)
  | [], _, b => b
  | x :: xs, i, b => body_l0 xs (i + 1) (wPut2 b (word x.key) (IntKind.u64.wrap x.ver))
def body (l : (Sl Seen)) : (Sl Int) :=
  body_l0 l.D 0 (wPut (Sl.mk true []) (IntKind.u64.wrap (l.D.length : Int)))
theorem sI_eq (f : Option Bool) (k : IntKind) (D : List Int) : sI f k D = sS f (eI k) D := by
  unfold sI sS
  rw [eI_L]
/-- A digest's bytes; by a key of another length there is none. -/
def digF (key b : Sl Int) : Nat → Int := if key.D.length = 16 then ofF key.D b.D else fun _ => 0
def digE (key : Sl Int) : Int := if key.D.length = 16 then 0 else 1
def tShort (key b : Sl Int) : Int × Int := (shN (digF key b) 8, digE key)
def rOf (key b : Sl Int) : (Nat → Int) × Int := (digF key b, digE key)
theorem tShort_calls (key b : Sl Int) (hl : b.D.length ≤ 1000000) : PCalls Tryd.prog 54 [sS (some key.nil) (eI .u8) key.D, sS (some b.nil) (eI .u8) b.D] (.tup [.pv (.lit (.int .u64 ((tShort key b).1))), .pv (.lit (.int .i64 ((tShort key b).2)))]) := by
  unfold tShort digF digE
  by_cases h : key.D.length = 16
  · rw [if_pos h, if_pos h]
    have r := short_calls (of_good (some key.nil) (some b.nil) key.D b.D h (by omega))
    rw [sI_eq, sI_eq] at r
    exact r
  · rw [if_neg h, if_neg h]
    have r := short_calls (of_bad (some key.nil) (some b.nil) key.D b.D h)
    rw [sI_eq, sI_eq] at r
    exact r
theorem rOf_calls (key b : Sl Int) (hk : R8l key.D) (hb : R8l b.D) (hl : b.D.length ≤ 1000000) : PCalls Tryd.prog 36 [sS (some key.nil) (eI .u8) key.D, sS (some b.nil) (eI .u8) b.D] (.tup [.agg (cI .u8 (tb 16 (rOf key b).1)), .pv (.lit (.int .i64 ((rOf key b).2)))]) := by
  unfold rOf digF digE
  by_cases h : key.D.length = 16
  · rw [if_pos h, if_pos h]
    have r := refOf_good (some key.nil) (some b.nil) key.D b.D h hk hb (by omega)
    rw [sI_eq, sI_eq] at r
    exact r
  · rw [if_neg h, if_neg h]
    have r := refOf_bad (some key.nil) (some b.nil) key.D b.D h
    rw [sI_eq, sI_eq] at r
    exact r
theorem digF_R8 (key b : Sl Int) (t : Nat) : R8 (digF key b t) := by
  unfold digF
  split
  · exact ofF_R8 _ _ t
  · exact ⟨Int.le_refl 0, (by decide : (0 : Int) < 256)⟩
def mark (key : (Sl Int)) (b : (Sl Int)) : (Sl Int) × Int :=
  ((Sl.mk false ((((((([(IntKind.u8.wrap (shrI .u64 ((tShort key b).1) 56))] ++ [(IntKind.u8.wrap (shrI .u64 ((tShort key b).1) 48))]) ++ [(IntKind.u8.wrap (shrI .u64 ((tShort key b).1) 40))]) ++ [(IntKind.u8.wrap (shrI .u64 ((tShort key b).1) 32))]) ++ [(IntKind.u8.wrap (shrI .u64 ((tShort key b).1) 24))]) ++ [(IntKind.u8.wrap (shrI .u64 ((tShort key b).1) 16))]) ++ [(IntKind.u8.wrap (shrI .u64 ((tShort key b).1) 8))]) ++ [(IntKind.u8.wrap (shrI .u64 ((tShort key b).1) 0))])), (tShort key b).2)
theorem mark_calls (key : (Sl Int)) (b : (Sl Int)) (hl1 : b.D.length ≤ 1000000) : PCalls Tryd.prog 34 [sS (some key.nil) (eI .u8) key.D, sS (some b.nil) (eI .u8) b.D] (.tup [sS (some (mark key b).1.nil) (eI .u8) ((mark key b).1.D), .pv (.lit (.int .i64 ((mark key b).2)))]) := by
 generalize hR : mark key b = R
 refine PCalls.of_body tabOk Tryd.func34 rfl rfl rfl rfl rfl mixed fun E hP C hI => ?_
 refine Awp.consP C ?_
 refine rvP C (sS (some true) (eI .u8) []) ?_
 refine rvP C (.pv (.lit (.int .i64 0))) ?_
 refine rvc_nil ?_
 refine Awp.consP C ?_
 refine rvP C (sS (some key.nil) (eI .u8) key.D) ?_
 refine rvP C (sS (some b.nil) (eI .u8) b.D) ?_
 refine rvc_un (rexec_call hP C rfl rfl rfl (tShort_calls key b hl1) ?_)
 refine rvP C (.tup [.pv (.lit (.int .u64 ((tShort key b).1))), .pv (.lit (.int .i64 ((tShort key b).2)))]) ?_
 refine rvP C (.pv (.lit (.int .u64 ((tShort key b).1)))) ?_
 refine rvP C (.pv (.lit (.int .i64 ((tShort key b).2)))) ?_
 refine rvP C (.pv (.lit (.int .u64 ((tShort key b).1)))) ?_
 refine rvP C (.pv (.lit (.int .i64 ((tShort key b).2)))) ?_
 refine rvc_nil ?_
 refine Awp.consP C ?_
 refine rvP C (sS (some true) (eI .u8) []) ?_
 refine rvc_nil ?_
 refine Awp.seq ?_
 refine Awp.consP C ?_
 refine rvP C (.pv (.lit (.int .i64 56))) ?_
 refine rvc_nil ?_
 refine Awp.block ?_
 refine Awp.rounds 9 ?_
 refine Arounds.succ ?_
 refine Awp.seq ?_
 refine Awp.consP C ?_
 refine rvP C (.pv (.lit (.int .i64 56))) ?_
 refine rvP C (.pv (.lit (.bool true))) ?_
 refine rvc_nil ?_
 refine Awp.condT (b := true) rfl rfl ?_
 refine Awp.skip ?_
 refine Awp.seq ?_
 refine Awp.block ?_
 refine Awp.regionP C ?_
 refine rvP C (sS (some true) (eI .u8) []) ?_
 refine rvP C (.pv (.lit (.int .u64 ((tShort key b).1)))) ?_
 refine rvP C (.pv (.lit (.int .i64 56))) ?_
 refine rvc_un (rexec_prim C (δ := { v := .pv (.lit (.int .u64 (shrI .u64 ((tShort key b).1) 56))) }) rfl rfl rfl rfl (by first | decide | assumption | omega) rfl ?_)
 refine rvP C (.pv (.lit (.int .u8 (IntKind.u8.wrap (shrI .u64 ((tShort key b).1) 56))))) ?_
 refine rvc_un (rexec_buildSliceF C (eI .u8) [(IntKind.u8.wrap (shrI .u64 ((tShort key b).1) 56))] rfl rfl rfl rfl rfl rfl rfl (by decide) rfl ?_)
 refine rvc_un (rexec_appendN C rfl rfl rfl rfl rfl rfl rfl rfl (fun _ h => by cases h) rfl (en := (eI .u8)) (D := [(IntKind.u8.wrap (shrI .u64 ((tShort key b).1) 56))]) rfl rfl (by simp) (by first | omega | (simp <;> omega)) (by decide) (nn := [(IntKind.u8.wrap (shrI .u64 ((tShort key b).1) 56))].length) rfl ?_)
 refine rvP C (.sl 26 0 ([(IntKind.u8.wrap (shrI .u64 ((tShort key b).1) 56))].length) 1 false) ?_
 refine rvc_nil ?_
 refine Awp.regionP C ?_
 refine rvP C (.pv (.lit (.int .i64 56))) ?_
 refine rvP C (.pv (.lit (.int .i64 48))) ?_
 refine rvP C (.pv (.lit (.int .i64 48))) ?_
 refine rvc_nil ?_
 refine Arounds.succ ?_
 refine Awp.weakenR (S := [(6, .pv (.lit (.int .u64 ((tShort key b).1)))), (7, .pv (.lit (.int .i64 ((tShort key b).2)))), (8, .sl 70026 0 ([(IntKind.u8.wrap (shrI .u64 ((tShort key b).1) 56))].length) 1 false), (9, .pv (.lit (.int .i64 48)))]) (H := [(70026, .cells (encC (eI .u8) [(IntKind.u8.wrap (shrI .u64 ((tShort key b).1) 56))]))]) (U := [70026]) (fun x => bif x == 70026 then 26 else x) (WeakerR.ofL (Ks := [70026]) hI ⟨⟨rfl, rfl⟩, ⟨rfl, rfl⟩, ⟨rfl, rfl⟩, ⟨rfl, rfl⟩, trivial⟩ (okH_list rfl rfl rfl (okH_nil)) rfl) ?_
 refine Awp.seq ?_
 refine Awp.consP C ?_
 refine rvP C (.pv (.lit (.int .i64 48))) ?_
 refine rvP C (.pv (.lit (.bool true))) ?_
 refine rvc_nil ?_
 refine Awp.condT (b := true) rfl rfl ?_
 refine Awp.skip ?_
 refine Awp.seq ?_
 refine Awp.block ?_
 refine Awp.regionP C ?_
 refine rvP C (.sl 70026 0 ([(IntKind.u8.wrap (shrI .u64 ((tShort key b).1) 56))].length) 1 false) ?_
 refine rvP C (.pv (.lit (.int .u64 ((tShort key b).1)))) ?_
 refine rvP C (.pv (.lit (.int .i64 48))) ?_
 refine rvc_un (rexec_prim C (δ := { v := .pv (.lit (.int .u64 (shrI .u64 ((tShort key b).1) 48))) }) rfl rfl rfl rfl (by first | decide | assumption | omega) rfl ?_)
 refine rvP C (.pv (.lit (.int .u8 (IntKind.u8.wrap (shrI .u64 ((tShort key b).1) 48))))) ?_
 refine rvc_un (rexec_buildSliceF C (eI .u8) [(IntKind.u8.wrap (shrI .u64 ((tShort key b).1) 48))] rfl rfl rfl rfl rfl rfl rfl (by decide) rfl ?_)
 refine rvc_un (rexec_append C rfl rfl rfl rfl rfl rfl rfl rfl (fun _ h => by cases h) rfl (en := (eI .u8)) (D0 := [(IntKind.u8.wrap (shrI .u64 ((tShort key b).1) 56))]) (D := [(IntKind.u8.wrap (shrI .u64 ((tShort key b).1) 48))]) rfl rfl rfl rfl (by first | omega | (simp <;> omega)) (by decide) (nn := ([(IntKind.u8.wrap (shrI .u64 ((tShort key b).1) 56))] ++ [(IntKind.u8.wrap (shrI .u64 ((tShort key b).1) 48))]).length) (by simp) ?_)
 refine rvP C (.sl 26 0 (([(IntKind.u8.wrap (shrI .u64 ((tShort key b).1) 56))] ++ [(IntKind.u8.wrap (shrI .u64 ((tShort key b).1) 48))]).length) 1 false) ?_
 refine rvc_nil ?_
 refine Awp.regionP C ?_
 refine rvP C (.pv (.lit (.int .i64 48))) ?_
 refine rvP C (.pv (.lit (.int .i64 40))) ?_
 refine rvP C (.pv (.lit (.int .i64 40))) ?_
 refine rvc_nil ?_
 refine Arounds.succ ?_
 refine Awp.weakenR (S := [(6, .pv (.lit (.int .u64 ((tShort key b).1)))), (7, .pv (.lit (.int .i64 ((tShort key b).2)))), (8, .sl 70026 0 (([(IntKind.u8.wrap (shrI .u64 ((tShort key b).1) 56))] ++ [(IntKind.u8.wrap (shrI .u64 ((tShort key b).1) 48))]).length) 1 false), (9, .pv (.lit (.int .i64 40)))]) (H := [(70026, .cells (encC (eI .u8) ([(IntKind.u8.wrap (shrI .u64 ((tShort key b).1) 56))] ++ [(IntKind.u8.wrap (shrI .u64 ((tShort key b).1) 48))])))]) (U := [70026]) (fun x => bif x == 70026 then 26 else x) (WeakerR.ofL (Ks := [70026]) hI ⟨⟨rfl, rfl⟩, ⟨rfl, rfl⟩, ⟨rfl, rfl⟩, ⟨rfl, rfl⟩, trivial⟩ (okH_list rfl rfl rfl (okH_nil)) rfl) ?_
 refine Awp.seq ?_
 refine Awp.consP C ?_
 refine rvP C (.pv (.lit (.int .i64 40))) ?_
 refine rvP C (.pv (.lit (.bool true))) ?_
 refine rvc_nil ?_
 refine Awp.condT (b := true) rfl rfl ?_
 refine Awp.skip ?_
 refine Awp.seq ?_
 refine Awp.block ?_
 refine Awp.regionP C ?_
 refine rvP C (.sl 70026 0 (([(IntKind.u8.wrap (shrI .u64 ((tShort key b).1) 56))] ++ [(IntKind.u8.wrap (shrI .u64 ((tShort key b).1) 48))]).length) 1 false) ?_
 refine rvP C (.pv (.lit (.int .u64 ((tShort key b).1)))) ?_
 refine rvP C (.pv (.lit (.int .i64 40))) ?_
 refine rvc_un (rexec_prim C (δ := { v := .pv (.lit (.int .u64 (shrI .u64 ((tShort key b).1) 40))) }) rfl rfl rfl rfl (by first | decide | assumption | omega) rfl ?_)
 refine rvP C (.pv (.lit (.int .u8 (IntKind.u8.wrap (shrI .u64 ((tShort key b).1) 40))))) ?_
 refine rvc_un (rexec_buildSliceF C (eI .u8) [(IntKind.u8.wrap (shrI .u64 ((tShort key b).1) 40))] rfl rfl rfl rfl rfl rfl rfl (by decide) rfl ?_)
 refine rvc_un (rexec_append C rfl rfl rfl rfl rfl rfl rfl rfl (fun _ h => by cases h) rfl (en := (eI .u8)) (D0 := ([(IntKind.u8.wrap (shrI .u64 ((tShort key b).1) 56))] ++ [(IntKind.u8.wrap (shrI .u64 ((tShort key b).1) 48))])) (D := [(IntKind.u8.wrap (shrI .u64 ((tShort key b).1) 40))]) rfl rfl rfl rfl (by first | omega | (simp <;> omega)) (by decide) (nn := (([(IntKind.u8.wrap (shrI .u64 ((tShort key b).1) 56))] ++ [(IntKind.u8.wrap (shrI .u64 ((tShort key b).1) 48))]) ++ [(IntKind.u8.wrap (shrI .u64 ((tShort key b).1) 40))]).length) (by simp) ?_)
 refine rvP C (.sl 26 0 ((([(IntKind.u8.wrap (shrI .u64 ((tShort key b).1) 56))] ++ [(IntKind.u8.wrap (shrI .u64 ((tShort key b).1) 48))]) ++ [(IntKind.u8.wrap (shrI .u64 ((tShort key b).1) 40))]).length) 1 false) ?_
 refine rvc_nil ?_
 refine Awp.regionP C ?_
 refine rvP C (.pv (.lit (.int .i64 40))) ?_
 refine rvP C (.pv (.lit (.int .i64 32))) ?_
 refine rvP C (.pv (.lit (.int .i64 32))) ?_
 refine rvc_nil ?_
 refine Arounds.succ ?_
 refine Awp.weakenR (S := [(6, .pv (.lit (.int .u64 ((tShort key b).1)))), (7, .pv (.lit (.int .i64 ((tShort key b).2)))), (8, .sl 70026 0 ((([(IntKind.u8.wrap (shrI .u64 ((tShort key b).1) 56))] ++ [(IntKind.u8.wrap (shrI .u64 ((tShort key b).1) 48))]) ++ [(IntKind.u8.wrap (shrI .u64 ((tShort key b).1) 40))]).length) 1 false), (9, .pv (.lit (.int .i64 32)))]) (H := [(70026, .cells (encC (eI .u8) (([(IntKind.u8.wrap (shrI .u64 ((tShort key b).1) 56))] ++ [(IntKind.u8.wrap (shrI .u64 ((tShort key b).1) 48))]) ++ [(IntKind.u8.wrap (shrI .u64 ((tShort key b).1) 40))])))]) (U := [70026]) (fun x => bif x == 70026 then 26 else x) (WeakerR.ofL (Ks := [70026]) hI ⟨⟨rfl, rfl⟩, ⟨rfl, rfl⟩, ⟨rfl, rfl⟩, ⟨rfl, rfl⟩, trivial⟩ (okH_list rfl rfl rfl (okH_nil)) rfl) ?_
 refine Awp.seq ?_
 refine Awp.consP C ?_
 refine rvP C (.pv (.lit (.int .i64 32))) ?_
 refine rvP C (.pv (.lit (.bool true))) ?_
 refine rvc_nil ?_
 refine Awp.condT (b := true) rfl rfl ?_
 refine Awp.skip ?_
 refine Awp.seq ?_
 refine Awp.block ?_
 refine Awp.regionP C ?_
 refine rvP C (.sl 70026 0 ((([(IntKind.u8.wrap (shrI .u64 ((tShort key b).1) 56))] ++ [(IntKind.u8.wrap (shrI .u64 ((tShort key b).1) 48))]) ++ [(IntKind.u8.wrap (shrI .u64 ((tShort key b).1) 40))]).length) 1 false) ?_
 refine rvP C (.pv (.lit (.int .u64 ((tShort key b).1)))) ?_
 refine rvP C (.pv (.lit (.int .i64 32))) ?_
 refine rvc_un (rexec_prim C (δ := { v := .pv (.lit (.int .u64 (shrI .u64 ((tShort key b).1) 32))) }) rfl rfl rfl rfl (by first | decide | assumption | omega) rfl ?_)
 refine rvP C (.pv (.lit (.int .u8 (IntKind.u8.wrap (shrI .u64 ((tShort key b).1) 32))))) ?_
 refine rvc_un (rexec_buildSliceF C (eI .u8) [(IntKind.u8.wrap (shrI .u64 ((tShort key b).1) 32))] rfl rfl rfl rfl rfl rfl rfl (by decide) rfl ?_)
 refine rvc_un (rexec_append C rfl rfl rfl rfl rfl rfl rfl rfl (fun _ h => by cases h) rfl (en := (eI .u8)) (D0 := (([(IntKind.u8.wrap (shrI .u64 ((tShort key b).1) 56))] ++ [(IntKind.u8.wrap (shrI .u64 ((tShort key b).1) 48))]) ++ [(IntKind.u8.wrap (shrI .u64 ((tShort key b).1) 40))])) (D := [(IntKind.u8.wrap (shrI .u64 ((tShort key b).1) 32))]) rfl rfl rfl rfl (by first | omega | (simp <;> omega)) (by decide) (nn := ((([(IntKind.u8.wrap (shrI .u64 ((tShort key b).1) 56))] ++ [(IntKind.u8.wrap (shrI .u64 ((tShort key b).1) 48))]) ++ [(IntKind.u8.wrap (shrI .u64 ((tShort key b).1) 40))]) ++ [(IntKind.u8.wrap (shrI .u64 ((tShort key b).1) 32))]).length) (by simp) ?_)
 refine rvP C (.sl 26 0 (((([(IntKind.u8.wrap (shrI .u64 ((tShort key b).1) 56))] ++ [(IntKind.u8.wrap (shrI .u64 ((tShort key b).1) 48))]) ++ [(IntKind.u8.wrap (shrI .u64 ((tShort key b).1) 40))]) ++ [(IntKind.u8.wrap (shrI .u64 ((tShort key b).1) 32))]).length) 1 false) ?_
 refine rvc_nil ?_
 refine Awp.regionP C ?_
 refine rvP C (.pv (.lit (.int .i64 32))) ?_
 refine rvP C (.pv (.lit (.int .i64 24))) ?_
 refine rvP C (.pv (.lit (.int .i64 24))) ?_
 refine rvc_nil ?_
 refine Arounds.succ ?_
 refine Awp.weakenR (S := [(6, .pv (.lit (.int .u64 ((tShort key b).1)))), (7, .pv (.lit (.int .i64 ((tShort key b).2)))), (8, .sl 70026 0 (((([(IntKind.u8.wrap (shrI .u64 ((tShort key b).1) 56))] ++ [(IntKind.u8.wrap (shrI .u64 ((tShort key b).1) 48))]) ++ [(IntKind.u8.wrap (shrI .u64 ((tShort key b).1) 40))]) ++ [(IntKind.u8.wrap (shrI .u64 ((tShort key b).1) 32))]).length) 1 false), (9, .pv (.lit (.int .i64 24)))]) (H := [(70026, .cells (encC (eI .u8) ((([(IntKind.u8.wrap (shrI .u64 ((tShort key b).1) 56))] ++ [(IntKind.u8.wrap (shrI .u64 ((tShort key b).1) 48))]) ++ [(IntKind.u8.wrap (shrI .u64 ((tShort key b).1) 40))]) ++ [(IntKind.u8.wrap (shrI .u64 ((tShort key b).1) 32))])))]) (U := [70026]) (fun x => bif x == 70026 then 26 else x) (WeakerR.ofL (Ks := [70026]) hI ⟨⟨rfl, rfl⟩, ⟨rfl, rfl⟩, ⟨rfl, rfl⟩, ⟨rfl, rfl⟩, trivial⟩ (okH_list rfl rfl rfl (okH_nil)) rfl) ?_
 refine Awp.seq ?_
 refine Awp.consP C ?_
 refine rvP C (.pv (.lit (.int .i64 24))) ?_
 refine rvP C (.pv (.lit (.bool true))) ?_
 refine rvc_nil ?_
 refine Awp.condT (b := true) rfl rfl ?_
 refine Awp.skip ?_
 refine Awp.seq ?_
 refine Awp.block ?_
 refine Awp.regionP C ?_
 refine rvP C (.sl 70026 0 (((([(IntKind.u8.wrap (shrI .u64 ((tShort key b).1) 56))] ++ [(IntKind.u8.wrap (shrI .u64 ((tShort key b).1) 48))]) ++ [(IntKind.u8.wrap (shrI .u64 ((tShort key b).1) 40))]) ++ [(IntKind.u8.wrap (shrI .u64 ((tShort key b).1) 32))]).length) 1 false) ?_
 refine rvP C (.pv (.lit (.int .u64 ((tShort key b).1)))) ?_
 refine rvP C (.pv (.lit (.int .i64 24))) ?_
 refine rvc_un (rexec_prim C (δ := { v := .pv (.lit (.int .u64 (shrI .u64 ((tShort key b).1) 24))) }) rfl rfl rfl rfl (by first | decide | assumption | omega) rfl ?_)
 refine rvP C (.pv (.lit (.int .u8 (IntKind.u8.wrap (shrI .u64 ((tShort key b).1) 24))))) ?_
 refine rvc_un (rexec_buildSliceF C (eI .u8) [(IntKind.u8.wrap (shrI .u64 ((tShort key b).1) 24))] rfl rfl rfl rfl rfl rfl rfl (by decide) rfl ?_)
 refine rvc_un (rexec_append C rfl rfl rfl rfl rfl rfl rfl rfl (fun _ h => by cases h) rfl (en := (eI .u8)) (D0 := ((([(IntKind.u8.wrap (shrI .u64 ((tShort key b).1) 56))] ++ [(IntKind.u8.wrap (shrI .u64 ((tShort key b).1) 48))]) ++ [(IntKind.u8.wrap (shrI .u64 ((tShort key b).1) 40))]) ++ [(IntKind.u8.wrap (shrI .u64 ((tShort key b).1) 32))])) (D := [(IntKind.u8.wrap (shrI .u64 ((tShort key b).1) 24))]) rfl rfl rfl rfl (by first | omega | (simp <;> omega)) (by decide) (nn := (((([(IntKind.u8.wrap (shrI .u64 ((tShort key b).1) 56))] ++ [(IntKind.u8.wrap (shrI .u64 ((tShort key b).1) 48))]) ++ [(IntKind.u8.wrap (shrI .u64 ((tShort key b).1) 40))]) ++ [(IntKind.u8.wrap (shrI .u64 ((tShort key b).1) 32))]) ++ [(IntKind.u8.wrap (shrI .u64 ((tShort key b).1) 24))]).length) (by simp) ?_)
 refine rvP C (.sl 26 0 ((((([(IntKind.u8.wrap (shrI .u64 ((tShort key b).1) 56))] ++ [(IntKind.u8.wrap (shrI .u64 ((tShort key b).1) 48))]) ++ [(IntKind.u8.wrap (shrI .u64 ((tShort key b).1) 40))]) ++ [(IntKind.u8.wrap (shrI .u64 ((tShort key b).1) 32))]) ++ [(IntKind.u8.wrap (shrI .u64 ((tShort key b).1) 24))]).length) 1 false) ?_
 refine rvc_nil ?_
 refine Awp.regionP C ?_
 refine rvP C (.pv (.lit (.int .i64 24))) ?_
 refine rvP C (.pv (.lit (.int .i64 16))) ?_
 refine rvP C (.pv (.lit (.int .i64 16))) ?_
 refine rvc_nil ?_
 refine Arounds.succ ?_
 refine Awp.weakenR (S := [(6, .pv (.lit (.int .u64 ((tShort key b).1)))), (7, .pv (.lit (.int .i64 ((tShort key b).2)))), (8, .sl 70026 0 ((((([(IntKind.u8.wrap (shrI .u64 ((tShort key b).1) 56))] ++ [(IntKind.u8.wrap (shrI .u64 ((tShort key b).1) 48))]) ++ [(IntKind.u8.wrap (shrI .u64 ((tShort key b).1) 40))]) ++ [(IntKind.u8.wrap (shrI .u64 ((tShort key b).1) 32))]) ++ [(IntKind.u8.wrap (shrI .u64 ((tShort key b).1) 24))]).length) 1 false), (9, .pv (.lit (.int .i64 16)))]) (H := [(70026, .cells (encC (eI .u8) (((([(IntKind.u8.wrap (shrI .u64 ((tShort key b).1) 56))] ++ [(IntKind.u8.wrap (shrI .u64 ((tShort key b).1) 48))]) ++ [(IntKind.u8.wrap (shrI .u64 ((tShort key b).1) 40))]) ++ [(IntKind.u8.wrap (shrI .u64 ((tShort key b).1) 32))]) ++ [(IntKind.u8.wrap (shrI .u64 ((tShort key b).1) 24))])))]) (U := [70026]) (fun x => bif x == 70026 then 26 else x) (WeakerR.ofL (Ks := [70026]) hI ⟨⟨rfl, rfl⟩, ⟨rfl, rfl⟩, ⟨rfl, rfl⟩, ⟨rfl, rfl⟩, trivial⟩ (okH_list rfl rfl rfl (okH_nil)) rfl) ?_
 refine Awp.seq ?_
 refine Awp.consP C ?_
 refine rvP C (.pv (.lit (.int .i64 16))) ?_
 refine rvP C (.pv (.lit (.bool true))) ?_
 refine rvc_nil ?_
 refine Awp.condT (b := true) rfl rfl ?_
 refine Awp.skip ?_
 refine Awp.seq ?_
 refine Awp.block ?_
 refine Awp.regionP C ?_
 refine rvP C (.sl 70026 0 ((((([(IntKind.u8.wrap (shrI .u64 ((tShort key b).1) 56))] ++ [(IntKind.u8.wrap (shrI .u64 ((tShort key b).1) 48))]) ++ [(IntKind.u8.wrap (shrI .u64 ((tShort key b).1) 40))]) ++ [(IntKind.u8.wrap (shrI .u64 ((tShort key b).1) 32))]) ++ [(IntKind.u8.wrap (shrI .u64 ((tShort key b).1) 24))]).length) 1 false) ?_
 refine rvP C (.pv (.lit (.int .u64 ((tShort key b).1)))) ?_
 refine rvP C (.pv (.lit (.int .i64 16))) ?_
 refine rvc_un (rexec_prim C (δ := { v := .pv (.lit (.int .u64 (shrI .u64 ((tShort key b).1) 16))) }) rfl rfl rfl rfl (by first | decide | assumption | omega) rfl ?_)
 refine rvP C (.pv (.lit (.int .u8 (IntKind.u8.wrap (shrI .u64 ((tShort key b).1) 16))))) ?_
 refine rvc_un (rexec_buildSliceF C (eI .u8) [(IntKind.u8.wrap (shrI .u64 ((tShort key b).1) 16))] rfl rfl rfl rfl rfl rfl rfl (by decide) rfl ?_)
 refine rvc_un (rexec_append C rfl rfl rfl rfl rfl rfl rfl rfl (fun _ h => by cases h) rfl (en := (eI .u8)) (D0 := (((([(IntKind.u8.wrap (shrI .u64 ((tShort key b).1) 56))] ++ [(IntKind.u8.wrap (shrI .u64 ((tShort key b).1) 48))]) ++ [(IntKind.u8.wrap (shrI .u64 ((tShort key b).1) 40))]) ++ [(IntKind.u8.wrap (shrI .u64 ((tShort key b).1) 32))]) ++ [(IntKind.u8.wrap (shrI .u64 ((tShort key b).1) 24))])) (D := [(IntKind.u8.wrap (shrI .u64 ((tShort key b).1) 16))]) rfl rfl rfl rfl (by first | omega | (simp <;> omega)) (by decide) (nn := ((((([(IntKind.u8.wrap (shrI .u64 ((tShort key b).1) 56))] ++ [(IntKind.u8.wrap (shrI .u64 ((tShort key b).1) 48))]) ++ [(IntKind.u8.wrap (shrI .u64 ((tShort key b).1) 40))]) ++ [(IntKind.u8.wrap (shrI .u64 ((tShort key b).1) 32))]) ++ [(IntKind.u8.wrap (shrI .u64 ((tShort key b).1) 24))]) ++ [(IntKind.u8.wrap (shrI .u64 ((tShort key b).1) 16))]).length) (by simp) ?_)
 refine rvP C (.sl 26 0 (((((([(IntKind.u8.wrap (shrI .u64 ((tShort key b).1) 56))] ++ [(IntKind.u8.wrap (shrI .u64 ((tShort key b).1) 48))]) ++ [(IntKind.u8.wrap (shrI .u64 ((tShort key b).1) 40))]) ++ [(IntKind.u8.wrap (shrI .u64 ((tShort key b).1) 32))]) ++ [(IntKind.u8.wrap (shrI .u64 ((tShort key b).1) 24))]) ++ [(IntKind.u8.wrap (shrI .u64 ((tShort key b).1) 16))]).length) 1 false) ?_
 refine rvc_nil ?_
 refine Awp.regionP C ?_
 refine rvP C (.pv (.lit (.int .i64 16))) ?_
 refine rvP C (.pv (.lit (.int .i64 8))) ?_
 refine rvP C (.pv (.lit (.int .i64 8))) ?_
 refine rvc_nil ?_
 refine Arounds.succ ?_
 refine Awp.weakenR (S := [(6, .pv (.lit (.int .u64 ((tShort key b).1)))), (7, .pv (.lit (.int .i64 ((tShort key b).2)))), (8, .sl 70026 0 (((((([(IntKind.u8.wrap (shrI .u64 ((tShort key b).1) 56))] ++ [(IntKind.u8.wrap (shrI .u64 ((tShort key b).1) 48))]) ++ [(IntKind.u8.wrap (shrI .u64 ((tShort key b).1) 40))]) ++ [(IntKind.u8.wrap (shrI .u64 ((tShort key b).1) 32))]) ++ [(IntKind.u8.wrap (shrI .u64 ((tShort key b).1) 24))]) ++ [(IntKind.u8.wrap (shrI .u64 ((tShort key b).1) 16))]).length) 1 false), (9, .pv (.lit (.int .i64 8)))]) (H := [(70026, .cells (encC (eI .u8) ((((([(IntKind.u8.wrap (shrI .u64 ((tShort key b).1) 56))] ++ [(IntKind.u8.wrap (shrI .u64 ((tShort key b).1) 48))]) ++ [(IntKind.u8.wrap (shrI .u64 ((tShort key b).1) 40))]) ++ [(IntKind.u8.wrap (shrI .u64 ((tShort key b).1) 32))]) ++ [(IntKind.u8.wrap (shrI .u64 ((tShort key b).1) 24))]) ++ [(IntKind.u8.wrap (shrI .u64 ((tShort key b).1) 16))])))]) (U := [70026]) (fun x => bif x == 70026 then 26 else x) (WeakerR.ofL (Ks := [70026]) hI ⟨⟨rfl, rfl⟩, ⟨rfl, rfl⟩, ⟨rfl, rfl⟩, ⟨rfl, rfl⟩, trivial⟩ (okH_list rfl rfl rfl (okH_nil)) rfl) ?_
 refine Awp.seq ?_
 refine Awp.consP C ?_
 refine rvP C (.pv (.lit (.int .i64 8))) ?_
 refine rvP C (.pv (.lit (.bool true))) ?_
 refine rvc_nil ?_
 refine Awp.condT (b := true) rfl rfl ?_
 refine Awp.skip ?_
 refine Awp.seq ?_
 refine Awp.block ?_
 refine Awp.regionP C ?_
 refine rvP C (.sl 70026 0 (((((([(IntKind.u8.wrap (shrI .u64 ((tShort key b).1) 56))] ++ [(IntKind.u8.wrap (shrI .u64 ((tShort key b).1) 48))]) ++ [(IntKind.u8.wrap (shrI .u64 ((tShort key b).1) 40))]) ++ [(IntKind.u8.wrap (shrI .u64 ((tShort key b).1) 32))]) ++ [(IntKind.u8.wrap (shrI .u64 ((tShort key b).1) 24))]) ++ [(IntKind.u8.wrap (shrI .u64 ((tShort key b).1) 16))]).length) 1 false) ?_
 refine rvP C (.pv (.lit (.int .u64 ((tShort key b).1)))) ?_
 refine rvP C (.pv (.lit (.int .i64 8))) ?_
 refine rvc_un (rexec_prim C (δ := { v := .pv (.lit (.int .u64 (shrI .u64 ((tShort key b).1) 8))) }) rfl rfl rfl rfl (by first | decide | assumption | omega) rfl ?_)
 refine rvP C (.pv (.lit (.int .u8 (IntKind.u8.wrap (shrI .u64 ((tShort key b).1) 8))))) ?_
 refine rvc_un (rexec_buildSliceF C (eI .u8) [(IntKind.u8.wrap (shrI .u64 ((tShort key b).1) 8))] rfl rfl rfl rfl rfl rfl rfl (by decide) rfl ?_)
 refine rvc_un (rexec_append C rfl rfl rfl rfl rfl rfl rfl rfl (fun _ h => by cases h) rfl (en := (eI .u8)) (D0 := ((((([(IntKind.u8.wrap (shrI .u64 ((tShort key b).1) 56))] ++ [(IntKind.u8.wrap (shrI .u64 ((tShort key b).1) 48))]) ++ [(IntKind.u8.wrap (shrI .u64 ((tShort key b).1) 40))]) ++ [(IntKind.u8.wrap (shrI .u64 ((tShort key b).1) 32))]) ++ [(IntKind.u8.wrap (shrI .u64 ((tShort key b).1) 24))]) ++ [(IntKind.u8.wrap (shrI .u64 ((tShort key b).1) 16))])) (D := [(IntKind.u8.wrap (shrI .u64 ((tShort key b).1) 8))]) rfl rfl rfl rfl (by first | omega | (simp <;> omega)) (by decide) (nn := (((((([(IntKind.u8.wrap (shrI .u64 ((tShort key b).1) 56))] ++ [(IntKind.u8.wrap (shrI .u64 ((tShort key b).1) 48))]) ++ [(IntKind.u8.wrap (shrI .u64 ((tShort key b).1) 40))]) ++ [(IntKind.u8.wrap (shrI .u64 ((tShort key b).1) 32))]) ++ [(IntKind.u8.wrap (shrI .u64 ((tShort key b).1) 24))]) ++ [(IntKind.u8.wrap (shrI .u64 ((tShort key b).1) 16))]) ++ [(IntKind.u8.wrap (shrI .u64 ((tShort key b).1) 8))]).length) (by simp) ?_)
 refine rvP C (.sl 26 0 ((((((([(IntKind.u8.wrap (shrI .u64 ((tShort key b).1) 56))] ++ [(IntKind.u8.wrap (shrI .u64 ((tShort key b).1) 48))]) ++ [(IntKind.u8.wrap (shrI .u64 ((tShort key b).1) 40))]) ++ [(IntKind.u8.wrap (shrI .u64 ((tShort key b).1) 32))]) ++ [(IntKind.u8.wrap (shrI .u64 ((tShort key b).1) 24))]) ++ [(IntKind.u8.wrap (shrI .u64 ((tShort key b).1) 16))]) ++ [(IntKind.u8.wrap (shrI .u64 ((tShort key b).1) 8))]).length) 1 false) ?_
 refine rvc_nil ?_
 refine Awp.regionP C ?_
 refine rvP C (.pv (.lit (.int .i64 8))) ?_
 refine rvP C (.pv (.lit (.int .i64 0))) ?_
 refine rvP C (.pv (.lit (.int .i64 0))) ?_
 refine rvc_nil ?_
 refine Arounds.succ ?_
 refine Awp.weakenR (S := [(6, .pv (.lit (.int .u64 ((tShort key b).1)))), (7, .pv (.lit (.int .i64 ((tShort key b).2)))), (8, .sl 70026 0 ((((((([(IntKind.u8.wrap (shrI .u64 ((tShort key b).1) 56))] ++ [(IntKind.u8.wrap (shrI .u64 ((tShort key b).1) 48))]) ++ [(IntKind.u8.wrap (shrI .u64 ((tShort key b).1) 40))]) ++ [(IntKind.u8.wrap (shrI .u64 ((tShort key b).1) 32))]) ++ [(IntKind.u8.wrap (shrI .u64 ((tShort key b).1) 24))]) ++ [(IntKind.u8.wrap (shrI .u64 ((tShort key b).1) 16))]) ++ [(IntKind.u8.wrap (shrI .u64 ((tShort key b).1) 8))]).length) 1 false), (9, .pv (.lit (.int .i64 0)))]) (H := [(70026, .cells (encC (eI .u8) (((((([(IntKind.u8.wrap (shrI .u64 ((tShort key b).1) 56))] ++ [(IntKind.u8.wrap (shrI .u64 ((tShort key b).1) 48))]) ++ [(IntKind.u8.wrap (shrI .u64 ((tShort key b).1) 40))]) ++ [(IntKind.u8.wrap (shrI .u64 ((tShort key b).1) 32))]) ++ [(IntKind.u8.wrap (shrI .u64 ((tShort key b).1) 24))]) ++ [(IntKind.u8.wrap (shrI .u64 ((tShort key b).1) 16))]) ++ [(IntKind.u8.wrap (shrI .u64 ((tShort key b).1) 8))])))]) (U := [70026]) (fun x => bif x == 70026 then 26 else x) (WeakerR.ofL (Ks := [70026]) hI ⟨⟨rfl, rfl⟩, ⟨rfl, rfl⟩, ⟨rfl, rfl⟩, ⟨rfl, rfl⟩, trivial⟩ (okH_list rfl rfl rfl (okH_nil)) rfl) ?_
 refine Awp.seq ?_
 refine Awp.consP C ?_
 refine rvP C (.pv (.lit (.int .i64 0))) ?_
 refine rvP C (.pv (.lit (.bool true))) ?_
 refine rvc_nil ?_
 refine Awp.condT (b := true) rfl rfl ?_
 refine Awp.skip ?_
 refine Awp.seq ?_
 refine Awp.block ?_
 refine Awp.regionP C ?_
 refine rvP C (.sl 70026 0 ((((((([(IntKind.u8.wrap (shrI .u64 ((tShort key b).1) 56))] ++ [(IntKind.u8.wrap (shrI .u64 ((tShort key b).1) 48))]) ++ [(IntKind.u8.wrap (shrI .u64 ((tShort key b).1) 40))]) ++ [(IntKind.u8.wrap (shrI .u64 ((tShort key b).1) 32))]) ++ [(IntKind.u8.wrap (shrI .u64 ((tShort key b).1) 24))]) ++ [(IntKind.u8.wrap (shrI .u64 ((tShort key b).1) 16))]) ++ [(IntKind.u8.wrap (shrI .u64 ((tShort key b).1) 8))]).length) 1 false) ?_
 refine rvP C (.pv (.lit (.int .u64 ((tShort key b).1)))) ?_
 refine rvP C (.pv (.lit (.int .i64 0))) ?_
 refine rvc_un (rexec_prim C (δ := { v := .pv (.lit (.int .u64 (shrI .u64 ((tShort key b).1) 0))) }) rfl rfl rfl rfl (by first | decide | assumption | omega) rfl ?_)
 refine rvP C (.pv (.lit (.int .u8 (IntKind.u8.wrap (shrI .u64 ((tShort key b).1) 0))))) ?_
 refine rvc_un (rexec_buildSliceF C (eI .u8) [(IntKind.u8.wrap (shrI .u64 ((tShort key b).1) 0))] rfl rfl rfl rfl rfl rfl rfl (by decide) rfl ?_)
 refine rvc_un (rexec_append C rfl rfl rfl rfl rfl rfl rfl rfl (fun _ h => by cases h) rfl (en := (eI .u8)) (D0 := (((((([(IntKind.u8.wrap (shrI .u64 ((tShort key b).1) 56))] ++ [(IntKind.u8.wrap (shrI .u64 ((tShort key b).1) 48))]) ++ [(IntKind.u8.wrap (shrI .u64 ((tShort key b).1) 40))]) ++ [(IntKind.u8.wrap (shrI .u64 ((tShort key b).1) 32))]) ++ [(IntKind.u8.wrap (shrI .u64 ((tShort key b).1) 24))]) ++ [(IntKind.u8.wrap (shrI .u64 ((tShort key b).1) 16))]) ++ [(IntKind.u8.wrap (shrI .u64 ((tShort key b).1) 8))])) (D := [(IntKind.u8.wrap (shrI .u64 ((tShort key b).1) 0))]) rfl rfl rfl rfl (by first | omega | (simp <;> omega)) (by decide) (nn := ((((((([(IntKind.u8.wrap (shrI .u64 ((tShort key b).1) 56))] ++ [(IntKind.u8.wrap (shrI .u64 ((tShort key b).1) 48))]) ++ [(IntKind.u8.wrap (shrI .u64 ((tShort key b).1) 40))]) ++ [(IntKind.u8.wrap (shrI .u64 ((tShort key b).1) 32))]) ++ [(IntKind.u8.wrap (shrI .u64 ((tShort key b).1) 24))]) ++ [(IntKind.u8.wrap (shrI .u64 ((tShort key b).1) 16))]) ++ [(IntKind.u8.wrap (shrI .u64 ((tShort key b).1) 8))]) ++ [(IntKind.u8.wrap (shrI .u64 ((tShort key b).1) 0))]).length) (by simp) ?_)
 refine rvP C (.sl 26 0 (((((((([(IntKind.u8.wrap (shrI .u64 ((tShort key b).1) 56))] ++ [(IntKind.u8.wrap (shrI .u64 ((tShort key b).1) 48))]) ++ [(IntKind.u8.wrap (shrI .u64 ((tShort key b).1) 40))]) ++ [(IntKind.u8.wrap (shrI .u64 ((tShort key b).1) 32))]) ++ [(IntKind.u8.wrap (shrI .u64 ((tShort key b).1) 24))]) ++ [(IntKind.u8.wrap (shrI .u64 ((tShort key b).1) 16))]) ++ [(IntKind.u8.wrap (shrI .u64 ((tShort key b).1) 8))]) ++ [(IntKind.u8.wrap (shrI .u64 ((tShort key b).1) 0))]).length) 1 false) ?_
 refine rvc_nil ?_
 refine Awp.regionP C ?_
 refine rvP C (.pv (.lit (.int .i64 0))) ?_
 refine rvP C (.pv (.lit (.int .i64 (-8)))) ?_
 refine rvP C (.pv (.lit (.int .i64 (-8)))) ?_
 refine rvc_nil ?_
 refine Arounds.succ ?_
 refine Awp.weakenR (S := [(6, .pv (.lit (.int .u64 ((tShort key b).1)))), (7, .pv (.lit (.int .i64 ((tShort key b).2)))), (8, .sl 70026 0 (((((((([(IntKind.u8.wrap (shrI .u64 ((tShort key b).1) 56))] ++ [(IntKind.u8.wrap (shrI .u64 ((tShort key b).1) 48))]) ++ [(IntKind.u8.wrap (shrI .u64 ((tShort key b).1) 40))]) ++ [(IntKind.u8.wrap (shrI .u64 ((tShort key b).1) 32))]) ++ [(IntKind.u8.wrap (shrI .u64 ((tShort key b).1) 24))]) ++ [(IntKind.u8.wrap (shrI .u64 ((tShort key b).1) 16))]) ++ [(IntKind.u8.wrap (shrI .u64 ((tShort key b).1) 8))]) ++ [(IntKind.u8.wrap (shrI .u64 ((tShort key b).1) 0))]).length) 1 false), (9, .pv (.lit (.int .i64 (-8))))]) (H := [(70026, .cells (encC (eI .u8) ((((((([(IntKind.u8.wrap (shrI .u64 ((tShort key b).1) 56))] ++ [(IntKind.u8.wrap (shrI .u64 ((tShort key b).1) 48))]) ++ [(IntKind.u8.wrap (shrI .u64 ((tShort key b).1) 40))]) ++ [(IntKind.u8.wrap (shrI .u64 ((tShort key b).1) 32))]) ++ [(IntKind.u8.wrap (shrI .u64 ((tShort key b).1) 24))]) ++ [(IntKind.u8.wrap (shrI .u64 ((tShort key b).1) 16))]) ++ [(IntKind.u8.wrap (shrI .u64 ((tShort key b).1) 8))]) ++ [(IntKind.u8.wrap (shrI .u64 ((tShort key b).1) 0))])))]) (U := [70026]) (fun x => bif x == 70026 then 26 else x) (WeakerR.ofL (Ks := [70026]) hI ⟨⟨rfl, rfl⟩, ⟨rfl, rfl⟩, ⟨rfl, rfl⟩, ⟨rfl, rfl⟩, trivial⟩ (okH_list rfl rfl rfl (okH_nil)) rfl) ?_
 refine Awp.seq ?_
 refine Awp.consP C ?_
 refine rvP C (.pv (.lit (.int .i64 (-8)))) ?_
 refine rvP C (.pv (.lit (.bool false))) ?_
 refine rvc_nil ?_
 refine Awp.condF (b := false) rfl rfl ?_
 refine Awp.exit ?_
 refine Awp.consP C ?_
 refine rvP C (.sl 70026 0 (((((((([(IntKind.u8.wrap (shrI .u64 ((tShort key b).1) 56))] ++ [(IntKind.u8.wrap (shrI .u64 ((tShort key b).1) 48))]) ++ [(IntKind.u8.wrap (shrI .u64 ((tShort key b).1) 40))]) ++ [(IntKind.u8.wrap (shrI .u64 ((tShort key b).1) 32))]) ++ [(IntKind.u8.wrap (shrI .u64 ((tShort key b).1) 24))]) ++ [(IntKind.u8.wrap (shrI .u64 ((tShort key b).1) 16))]) ++ [(IntKind.u8.wrap (shrI .u64 ((tShort key b).1) 8))]) ++ [(IntKind.u8.wrap (shrI .u64 ((tShort key b).1) 0))]).length) 1 false) ?_
 refine rvP C (.pv (.lit (.int .i64 ((tShort key b).2)))) ?_
 refine rvP C (.sl 70026 0 (((((((([(IntKind.u8.wrap (shrI .u64 ((tShort key b).1) 56))] ++ [(IntKind.u8.wrap (shrI .u64 ((tShort key b).1) 48))]) ++ [(IntKind.u8.wrap (shrI .u64 ((tShort key b).1) 40))]) ++ [(IntKind.u8.wrap (shrI .u64 ((tShort key b).1) 32))]) ++ [(IntKind.u8.wrap (shrI .u64 ((tShort key b).1) 24))]) ++ [(IntKind.u8.wrap (shrI .u64 ((tShort key b).1) 16))]) ++ [(IntKind.u8.wrap (shrI .u64 ((tShort key b).1) 8))]) ++ [(IntKind.u8.wrap (shrI .u64 ((tShort key b).1) 0))]).length) 1 false) ?_
 refine rvP C (.pv (.lit (.int .i64 ((tShort key b).2)))) ?_
 refine rvc_nil ?_
 refine Awp.freezeW 70026 (encL (eI .u8) ((((((([(IntKind.u8.wrap (shrI .u64 ((tShort key b).1) 56))] ++ [(IntKind.u8.wrap (shrI .u64 ((tShort key b).1) 48))]) ++ [(IntKind.u8.wrap (shrI .u64 ((tShort key b).1) 40))]) ++ [(IntKind.u8.wrap (shrI .u64 ((tShort key b).1) 32))]) ++ [(IntKind.u8.wrap (shrI .u64 ((tShort key b).1) 24))]) ++ [(IntKind.u8.wrap (shrI .u64 ((tShort key b).1) 16))]) ++ [(IntKind.u8.wrap (shrI .u64 ((tShort key b).1) 8))]) ++ [(IntKind.u8.wrap (shrI .u64 ((tShort key b).1) 0))])) ?_ [(4, sS (some false) (eI .u8) ((((((([(IntKind.u8.wrap (shrI .u64 ((tShort key b).1) 56))] ++ [(IntKind.u8.wrap (shrI .u64 ((tShort key b).1) 48))]) ++ [(IntKind.u8.wrap (shrI .u64 ((tShort key b).1) 40))]) ++ [(IntKind.u8.wrap (shrI .u64 ((tShort key b).1) 32))]) ++ [(IntKind.u8.wrap (shrI .u64 ((tShort key b).1) 24))]) ++ [(IntKind.u8.wrap (shrI .u64 ((tShort key b).1) 16))]) ++ [(IntKind.u8.wrap (shrI .u64 ((tShort key b).1) 8))]) ++ [(IntKind.u8.wrap (shrI .u64 ((tShort key b).1) 0))])), (5, .pv (.lit (.int .i64 ((tShort key b).2))))] [] ?_ ?_ ?_
 · rfl
 · exact ⟨⟨_, rfl, .inl (.inr ⟨_, _, _, rfl, rfl⟩)⟩, ⟨_, rfl, .inl (.inl rfl)⟩, trivial⟩
 · exact trivial
 refine Awp.ret ?_
 subst hR
 exact ⟨.inl rfl, rfl⟩
def wPutO_l1 (kk : (List Int) → Int → List Int) : Nat → (List Int) → Int → List Int
  | 0, _, _ => default
  | nn + 1, b1, n => (bif (decide (n ≥ 128)) then wPutO_l1 kk nn (b1 ++ [(bitI .or .u8 (IntKind.u8.wrap n) 128)]) (shrI .u64 n 7) else kk b1 n)
def wPutO (b : (Sl Int)) (x : Int) : List Int :=
  (bif (decide (x ≥ 128)) then wPutO_l1 (fun b1 n => (b1 ++ [(IntKind.u8.wrap n)])) ((shrI .u64 x 7).toNat + 1) (b.D ++ [(bitI .or .u8 (IntKind.u8.wrap x) 128)]) (shrI .u64 x 7) else (b.D ++ [(IntKind.u8.wrap x)]))
theorem wPutO_calls (b : (Sl Int)) (x : Int) (hx : x < 18446744073709551616) (hl1 : b.D.length ≤ 1000000) : OCalls Tryd.prog 52 [sS (some b.nil) (eI .u8) b.D, sS (some false) (eI .u64) [x]] (.sl 0 0 (wPutO b x).length 1 false) (.cells (encC (eI .u8) (wPutO b x))) := by
 generalize hR : wPutO b x = R
 refine OCalls.of_body tabOk Tryd.func52 rfl rfl rfl rfl rfl (encC_within _ _) mixed fun E hP C hI => ?_
 refine Awp.consP C ?_
 refine rvP C (sS (some true) (eI .u8) []) ?_
 refine rvc_nil ?_
 refine Awp.consP C ?_
 refine rvP C (sS (some b.nil) (eI .u8) b.D) ?_
 refine rvP C (sS (some b.nil) (eI .u8) b.D) ?_
 refine rvP C (.pv (.lit (.int .i64 (b.D.length : Int)))) ?_
 refine rvP C (sS (some b.nil) (eI .u8) b.D) ?_
 refine rvP C (.pv (.lit (.int .i64 (b.D.length : Int)))) ?_
 refine rvc_un (rexec_slice3 C (e := (eI .u8)) (D := b.D) rfl rfl rfl rfl rfl rfl ?_)
 refine rvP C (.tsl b.D.length (encL (eI .u8) b.D)) ?_
 refine rvc_nil ?_
 refine Awp.seq ?_
 refine Awp.consP C ?_
 refine rvP C (sS (some false) (eI .u64) [x]) ?_
 refine rvP C (.pv (.lit (.int .i64 1))) ?_
 refine rvP C (.pv (.lit (.int .i64 0))) ?_
 refine rvc_nil ?_
 refine Awp.block ?_
 refine Awp.rounds 2 ?_
 refine Arounds.succ ?_
 refine Awp.consP C ?_
 refine rvP C (.pv (.lit (.bool true))) ?_
 refine rvc_nil ?_
 refine Awp.seq ?_
 refine Awp.condT (b := true) rfl rfl ?_
 refine Awp.skip ?_
 refine Awp.seq ?_
 refine Awp.block ?_
 refine Awp.consP C ?_
 have h1 : [x][0]? = some x := rfl
 refine rvc_un (rexec_idxS C rfl rfl rfl rfl rfl rfl x (Int.natCast_nonneg _) h1 ?_)
 refine rvP C (.pv (.lit (.int .u64 x))) ?_
 refine rvP C (.pv (.lit (.int .u64 x))) ?_
 refine rvc_nil ?_
 refine Awp.seq ?_
 refine Awp.block ?_
 refine Awp.peelM (σ := ((List Int)) × Int) (fun v => [(0, .sl 900 0 v.1.length 1 false), (6, .pv (.lit (.int .u64 v.2))), (13, sS (some false) (eI .u64) [x]), (14, .pv (.lit (.int .i64 1))), (15, .pv (.lit (.int .i64 0)))]) (fun v => [(900, .cells (encC (eI .u8) v.1))]) [900] (fun n v => v.2.toNat ≤ n ∧ wPutO_l1 (fun b1 n => (b1 ++ [(IntKind.u8.wrap n)])) (n + 1) v.1 v.2 = R ∧ (putInv b.D.length x v.1 v.2)) (x.toNat + 1) ?_ (fun n_ v h2 => ?_)
 ·
  refine Awp.seq ?_
  refine Awp.consP C ?_
  refine rvP C (.pv (.lit (.int .u64 x))) ?_
  refine rvP C (.pv (.lit (.bool (decide (x ≥ 128))))) ?_
  refine rvc_nil ?_
  refine Awp.cond (b := (decide (x ≥ 128))) rfl (fun h6 => ?_) (fun h6 => ?_)
  ·
   replace hR := of_true h6 hR
   refine Awp.skip ?_
   refine Awp.block ?_
   refine Awp.consP C ?_
   refine rvP C (.tsl b.D.length (encL (eI .u8) b.D)) ?_
   refine rvP C (.pv (.lit (.int .u64 x))) ?_
   refine rvP C (.pv (.lit (.int .u8 (IntKind.u8.wrap x)))) ?_
   refine rvP C (.pv (.lit (.int .u8 (bitI .or .u8 (IntKind.u8.wrap x) 128)))) ?_
   refine rvc_un (rexec_buildSliceF C (eI .u8) [(bitI .or .u8 (IntKind.u8.wrap x) 128)] rfl rfl rfl rfl rfl rfl rfl (by decide) rfl ?_)
   refine rvc_un (rexec_appendT C rfl rfl rfl rfl rfl rfl rfl rfl (fun _ h => by cases h) rfl (en := (eI .u8)) (D0 := b.D) (D := [(bitI .or .u8 (IntKind.u8.wrap x) 128)]) rfl rfl (by simp) (by first | (have h_ := putInv_le hV hx; simp; omega) | (simp; omega)) (by decide) (nn := (b.D ++ [(bitI .or .u8 (IntKind.u8.wrap x) 128)]).length) (by simp) ?_)
   refine rvP C (.sl 26 0 ((b.D ++ [(bitI .or .u8 (IntKind.u8.wrap x) 128)]).length) 1 false) ?_
   refine rvc_nil ?_
   refine Awp.regionP C ?_
   refine rvP C (.pv (.lit (.int .u64 x))) ?_
   refine rvc_un (rexec_prim C (δ := { v := .pv (.lit (.int .u64 (shrI .u64 x 7))) }) rfl rfl rfl rfl (by first | decide | assumption | omega) rfl ?_)
   refine rvP C (.pv (.lit (.int .u64 (shrI .u64 x 7)))) ?_
   refine rvc_nil ?_
   refine ⟨(shrI .u64 x 7).toNat, ((b.D ++ [(bitI .or .u8 (IntKind.u8.wrap x) 128)]), (shrI .u64 x 7)), ?_, ⟨Nat.le_refl _, hR, putInv_start (of_decide_eq_true ‹decide (x ≥ 128) = true›)⟩, ?_⟩
   · show (shrI .u64 x 7).toNat < x.toNat + 1; have := of_decide_eq_true ‹decide (x ≥ 128) = true›; rw [shr7]; omega
   · exact ⟨fun b => bif b == 900 then 26 else (fun b => b) b, WeakerR.ofL (Ks := [900]) hI ⟨⟨rfl, rfl⟩, ⟨rfl, rfl⟩, ⟨rfl, rfl⟩, ⟨rfl, rfl⟩, ⟨rfl, rfl⟩, trivial⟩ (okH_list rfl rfl rfl (okH_nil)) rfl⟩
  ·
   replace hR := of_false h6 hR
   refine Awp.exit ?_
   refine Awp.regionP C ?_
   refine rvP C (.tsl b.D.length (encL (eI .u8) b.D)) ?_
   refine rvP C (.pv (.lit (.int .u64 x))) ?_
   refine rvP C (.pv (.lit (.int .u8 (IntKind.u8.wrap x)))) ?_
   refine rvc_un (rexec_buildSliceF C (eI .u8) [(IntKind.u8.wrap x)] rfl rfl rfl rfl rfl rfl rfl (by decide) rfl ?_)
   refine rvc_un (rexec_appendT C rfl rfl rfl rfl rfl rfl rfl rfl (fun _ h => by cases h) rfl (en := (eI .u8)) (D0 := b.D) (D := [(IntKind.u8.wrap x)]) rfl rfl (by simp) (by first | (have h_ := putInv_le hV hx; simp; omega) | (simp; omega)) (by decide) (nn := (b.D ++ [(IntKind.u8.wrap x)]).length) (by simp) ?_)
   refine rvP C (.sl 33 0 ((b.D ++ [(IntKind.u8.wrap x)]).length) 1 false) ?_
   refine rvc_nil ?_
   refine Awp.regionP C ?_
   refine rvP C (.pv (.lit (.int .i64 1))) ?_
   refine rvP C (.pv (.lit (.int .i64 1))) ?_
   refine rvc_nil ?_
   refine Arounds.succ ?_
   refine Awp.consP C ?_
   refine rvP C (.pv (.lit (.bool false))) ?_
   refine rvc_nil ?_
   refine Awp.seq ?_
   refine Awp.condF (b := false) rfl rfl ?_
   refine Awp.exit ?_
   refine Awp.consP C ?_
   refine rvP C (.sl 33 0 ((b.D ++ [(IntKind.u8.wrap x)]).length) 1 false) ?_
   refine rvP C (.sl 33 0 ((b.D ++ [(IntKind.u8.wrap x)]).length) 1 false) ?_
   refine rvc_nil ?_
   refine Awp.weakenR (S := [(4, .sl 0 0 (b.D ++ [(IntKind.u8.wrap x)]).length 1 false)]) (H := [(0, .cells (encC (eI .u8) (b.D ++ [(IntKind.u8.wrap x)])))]) (U := [0]) (fun x => bif x == 0 then 33 else x) (WeakerR.ofL (Ks := [0]) hI ⟨⟨rfl, rfl⟩, trivial⟩ (okH_list rfl rfl rfl okH_nil) rfl) ?_
   refine Awp.ret ?_
   subst hR
   exact ⟨.inl rfl, rfl, rfl⟩
 obtain ⟨b1, n⟩ := v
 obtain ⟨hm_, hR, hV⟩ := h2
 replace hm_ : n.toNat ≤ n_ := hm_
 replace hV : putInv b.D.length x b1 n := hV
 refine Awp.seq ?_
 refine Awp.consP C ?_
 refine rvP C (.pv (.lit (.int .u64 n))) ?_
 refine rvP C (.pv (.lit (.bool (decide (n ≥ 128))))) ?_
 refine rvc_nil ?_
 refine Awp.cond (b := (decide (n ≥ 128))) rfl (fun h4 => ?_) (fun h4 => ?_)
 ·
  replace hR := of_true h4 hR
  refine Awp.skip ?_
  refine Awp.block ?_
  refine Awp.consP C ?_
  refine rvP C (.sl 900 0 b1.length 1 false) ?_
  refine rvP C (.pv (.lit (.int .u64 n))) ?_
  refine rvP C (.pv (.lit (.int .u8 (IntKind.u8.wrap n)))) ?_
  refine rvP C (.pv (.lit (.int .u8 (bitI .or .u8 (IntKind.u8.wrap n) 128)))) ?_
  refine rvc_un (rexec_buildSliceF C (eI .u8) [(bitI .or .u8 (IntKind.u8.wrap n) 128)] rfl rfl rfl rfl rfl rfl rfl (by decide) rfl ?_)
  refine rvc_un (rexec_append C rfl rfl rfl rfl rfl rfl rfl rfl (fun _ h => by cases h) rfl (en := (eI .u8)) (D0 := b1) (D := [(bitI .or .u8 (IntKind.u8.wrap n) 128)]) rfl rfl rfl rfl (by first | (have h_ := putInv_le hV hx; simp; omega) | (simp; omega)) (by decide) (nn := (b1 ++ [(bitI .or .u8 (IntKind.u8.wrap n) 128)]).length) (by simp) ?_)
  refine rvP C (.sl 26 0 ((b1 ++ [(bitI .or .u8 (IntKind.u8.wrap n) 128)]).length) 1 false) ?_
  refine rvc_nil ?_
  refine Awp.regionP C ?_
  refine rvP C (.pv (.lit (.int .u64 n))) ?_
  refine rvc_un (rexec_prim C (δ := { v := .pv (.lit (.int .u64 (shrI .u64 n 7))) }) rfl rfl rfl rfl (by first | decide | assumption | omega) rfl ?_)
  refine rvP C (.pv (.lit (.int .u64 (shrI .u64 n 7)))) ?_
  refine rvc_nil ?_
  have h5 : (shrI .u64 n 7).toNat < n.toNat := by (have := of_decide_eq_true ‹decide (n ≥ 128) = true›; rw [shr7]; omega)
  obtain ⟨nn, rfl⟩ : ∃ nn, n_ = nn + 1 := ⟨n_ - 1, by omega⟩
  refine ⟨nn, ((b1 ++ [(bitI .or .u8 (IntKind.u8.wrap n) 128)]), (shrI .u64 n 7)), by omega, ⟨by show (shrI .u64 n 7).toNat ≤ nn; omega, hR, putInv_step hV (of_decide_eq_true ‹decide (n ≥ 128) = true›)⟩, ?_⟩
  · exact ⟨fun b => bif b == 900 then 26 else (fun b => b) b, WeakerR.ofL (Ks := [900]) hI ⟨⟨rfl, rfl⟩, ⟨rfl, rfl⟩, ⟨rfl, rfl⟩, ⟨rfl, rfl⟩, ⟨rfl, rfl⟩, trivial⟩ (okH_list rfl rfl rfl (okH_nil)) rfl⟩
 ·
  replace hR := of_false h4 hR
  refine Awp.exit ?_
  refine Awp.regionP C ?_
  refine rvP C (.sl 900 0 b1.length 1 false) ?_
  refine rvP C (.pv (.lit (.int .u64 n))) ?_
  refine rvP C (.pv (.lit (.int .u8 (IntKind.u8.wrap n)))) ?_
  refine rvc_un (rexec_buildSliceF C (eI .u8) [(IntKind.u8.wrap n)] rfl rfl rfl rfl rfl rfl rfl (by decide) rfl ?_)
  refine rvc_un (rexec_append C rfl rfl rfl rfl rfl rfl rfl rfl (fun _ h => by cases h) rfl (en := (eI .u8)) (D0 := b1) (D := [(IntKind.u8.wrap n)]) rfl rfl rfl rfl (by first | (have h_ := putInv_le hV hx; simp; omega) | (simp; omega)) (by decide) (nn := (b1 ++ [(IntKind.u8.wrap n)]).length) (by simp) ?_)
  refine rvP C (.sl 33 0 ((b1 ++ [(IntKind.u8.wrap n)]).length) 1 false) ?_
  refine rvc_nil ?_
  refine Awp.regionP C ?_
  refine rvP C (.pv (.lit (.int .i64 1))) ?_
  refine rvP C (.pv (.lit (.int .i64 1))) ?_
  refine rvc_nil ?_
  refine Arounds.succ ?_
  refine Awp.consP C ?_
  refine rvP C (.pv (.lit (.bool false))) ?_
  refine rvc_nil ?_
  refine Awp.seq ?_
  refine Awp.condF (b := false) rfl rfl ?_
  refine Awp.exit ?_
  refine Awp.consP C ?_
  refine rvP C (.sl 33 0 ((b1 ++ [(IntKind.u8.wrap n)]).length) 1 false) ?_
  refine rvP C (.sl 33 0 ((b1 ++ [(IntKind.u8.wrap n)]).length) 1 false) ?_
  refine rvc_nil ?_
  refine Awp.weakenR (S := [(4, .sl 0 0 (b1 ++ [(IntKind.u8.wrap n)]).length 1 false)]) (H := [(0, .cells (encC (eI .u8) (b1 ++ [(IntKind.u8.wrap n)])))]) (U := [0]) (fun x => bif x == 0 then 33 else x) (WeakerR.ofL (Ks := [0]) hI ⟨⟨rfl, rfl⟩, trivial⟩ (okH_list rfl rfl rfl okH_nil) rfl) ?_
  refine Awp.ret ?_
  subst hR
  exact ⟨.inl rfl, rfl, rfl⟩
def wPut2O_l1b (kk : (List Int) → Int → List Int) : Nat → (List Int) → Int → List Int
  | 0, _, _ => default
  | nn + 1, b3, n2 => (bif (decide (n2 ≥ 128)) then wPut2O_l1b kk nn (b3 ++ [(bitI .or .u8 (IntKind.u8.wrap n2) 128)]) (shrI .u64 n2 7) else kk b3 n2)
def wPut2O_l1 (kk : (List Int) → Int → List Int) : Nat → (List Int) → Int → List Int
  | 0, _, _ => default
  | nn + 1, b1, n => (bif (decide (n ≥ 128)) then wPut2O_l1 kk nn (b1 ++ [(bitI .or .u8 (IntKind.u8.wrap n) 128)]) (shrI .u64 n 7) else kk b1 n)
def wPut2O (b : (Sl Int)) (x : Int) (y : Int) : List Int :=
  (bif (decide (x ≥ 128)) then wPut2O_l1 (fun b1 n => wPut2O_l1b (fun b3 n2 => (b3 ++ [(IntKind.u8.wrap n2)])) (y.toNat + 1) (b1 ++ [(IntKind.u8.wrap n)]) y) ((shrI .u64 x 7).toNat + 1) (b.D ++ [(bitI .or .u8 (IntKind.u8.wrap x) 128)]) (shrI .u64 x 7) else wPut2O_l1b (fun b3 n2 => (b3 ++ [(IntKind.u8.wrap n2)])) (y.toNat + 1) (b.D ++ [(IntKind.u8.wrap x)]) y)
theorem wPut2O_calls (b : (Sl Int)) (x : Int) (y : Int) (hx : x < 18446744073709551616) (hy : y < 18446744073709551616) (hl1 : b.D.length ≤ 1000000) : OCalls Tryd.prog 52 [sS (some b.nil) (eI .u8) b.D, sS (some false) (eI .u64) [x, y]] (.sl 0 0 (wPut2O b x y).length 1 false) (.cells (encC (eI .u8) (wPut2O b x y))) := by
 generalize hR : wPut2O b x y = R
 refine OCalls.of_body tabOk Tryd.func52 rfl rfl rfl rfl rfl (encC_within _ _) mixed fun E hP C hI => ?_
 refine Awp.consP C ?_
 refine rvP C (sS (some true) (eI .u8) []) ?_
 refine rvc_nil ?_
 refine Awp.consP C ?_
 refine rvP C (sS (some b.nil) (eI .u8) b.D) ?_
 refine rvP C (sS (some b.nil) (eI .u8) b.D) ?_
 refine rvP C (.pv (.lit (.int .i64 (b.D.length : Int)))) ?_
 refine rvP C (sS (some b.nil) (eI .u8) b.D) ?_
 refine rvP C (.pv (.lit (.int .i64 (b.D.length : Int)))) ?_
 refine rvc_un (rexec_slice3 C (e := (eI .u8)) (D := b.D) rfl rfl rfl rfl rfl rfl ?_)
 refine rvP C (.tsl b.D.length (encL (eI .u8) b.D)) ?_
 refine rvc_nil ?_
 refine Awp.seq ?_
 refine Awp.consP C ?_
 refine rvP C (sS (some false) (eI .u64) [x, y]) ?_
 refine rvP C (.pv (.lit (.int .i64 2))) ?_
 refine rvP C (.pv (.lit (.int .i64 0))) ?_
 refine rvc_nil ?_
 refine Awp.block ?_
 refine Awp.rounds 3 ?_
 refine Arounds.succ ?_
 refine Awp.consP C ?_
 refine rvP C (.pv (.lit (.bool true))) ?_
 refine rvc_nil ?_
 refine Awp.seq ?_
 refine Awp.condT (b := true) rfl rfl ?_
 refine Awp.skip ?_
 refine Awp.seq ?_
 refine Awp.block ?_
 refine Awp.consP C ?_
 have h1 : [x, y][0]? = some x := rfl
 refine rvc_un (rexec_idxS C rfl rfl rfl rfl rfl rfl x (Int.natCast_nonneg _) h1 ?_)
 refine rvP C (.pv (.lit (.int .u64 x))) ?_
 refine rvP C (.pv (.lit (.int .u64 x))) ?_
 refine rvc_nil ?_
 refine Awp.seq ?_
 refine Awp.block ?_
 refine Awp.peelM (σ := ((List Int)) × Int) (fun v => [(0, .sl 900 0 v.1.length 1 false), (6, .pv (.lit (.int .u64 v.2))), (13, sS (some false) (eI .u64) [x, y]), (14, .pv (.lit (.int .i64 2))), (15, .pv (.lit (.int .i64 0)))]) (fun v => [(900, .cells (encC (eI .u8) v.1))]) [900] (fun n v => v.2.toNat ≤ n ∧ wPut2O_l1 (fun b1 n => wPut2O_l1b (fun b3 n2 => (b3 ++ [(IntKind.u8.wrap n2)])) (y.toNat + 1) (b1 ++ [(IntKind.u8.wrap n)]) y) (n + 1) v.1 v.2 = R ∧ (putInv b.D.length x v.1 v.2)) (x.toNat + 1) ?_ (fun n_ v h2 => ?_)
 ·
  refine Awp.seq ?_
  refine Awp.consP C ?_
  refine rvP C (.pv (.lit (.int .u64 x))) ?_
  refine rvP C (.pv (.lit (.bool (decide (x ≥ 128))))) ?_
  refine rvc_nil ?_
  refine Awp.cond (b := (decide (x ≥ 128))) rfl (fun h11 => ?_) (fun h11 => ?_)
  ·
   replace hR := of_true h11 hR
   refine Awp.skip ?_
   refine Awp.block ?_
   refine Awp.consP C ?_
   refine rvP C (.tsl b.D.length (encL (eI .u8) b.D)) ?_
   refine rvP C (.pv (.lit (.int .u64 x))) ?_
   refine rvP C (.pv (.lit (.int .u8 (IntKind.u8.wrap x)))) ?_
   refine rvP C (.pv (.lit (.int .u8 (bitI .or .u8 (IntKind.u8.wrap x) 128)))) ?_
   refine rvc_un (rexec_buildSliceF C (eI .u8) [(bitI .or .u8 (IntKind.u8.wrap x) 128)] rfl rfl rfl rfl rfl rfl rfl (by decide) rfl ?_)
   refine rvc_un (rexec_appendT C rfl rfl rfl rfl rfl rfl rfl rfl (fun _ h => by cases h) rfl (en := (eI .u8)) (D0 := b.D) (D := [(bitI .or .u8 (IntKind.u8.wrap x) 128)]) rfl rfl (by simp) (by first | (have h_ := putInv2_le hW hy; simp; omega) | (have h_ := putInv_le hV hx; simp; omega) | (simp; omega)) (by decide) (nn := (b.D ++ [(bitI .or .u8 (IntKind.u8.wrap x) 128)]).length) (by simp) ?_)
   refine rvP C (.sl 26 0 ((b.D ++ [(bitI .or .u8 (IntKind.u8.wrap x) 128)]).length) 1 false) ?_
   refine rvc_nil ?_
   refine Awp.regionP C ?_
   refine rvP C (.pv (.lit (.int .u64 x))) ?_
   refine rvc_un (rexec_prim C (δ := { v := .pv (.lit (.int .u64 (shrI .u64 x 7))) }) rfl rfl rfl rfl (by first | decide | assumption | omega) rfl ?_)
   refine rvP C (.pv (.lit (.int .u64 (shrI .u64 x 7)))) ?_
   refine rvc_nil ?_
   refine ⟨(shrI .u64 x 7).toNat, ((b.D ++ [(bitI .or .u8 (IntKind.u8.wrap x) 128)]), (shrI .u64 x 7)), ?_, ⟨Nat.le_refl _, hR, putInv_start (of_decide_eq_true ‹decide (x ≥ 128) = true›)⟩, ?_⟩
   · show (shrI .u64 x 7).toNat < x.toNat + 1; have := of_decide_eq_true ‹decide (x ≥ 128) = true›; rw [shr7]; omega
   · exact ⟨fun b => bif b == 900 then 26 else (fun b => b) b, WeakerR.ofL (Ks := [900]) hI ⟨⟨rfl, rfl⟩, ⟨rfl, rfl⟩, ⟨rfl, rfl⟩, ⟨rfl, rfl⟩, ⟨rfl, rfl⟩, trivial⟩ (okH_list rfl rfl rfl (okH_nil)) rfl⟩
  ·
   replace hR := of_false h11 hR
   refine Awp.exit ?_
   refine Awp.regionP C ?_
   refine rvP C (.tsl b.D.length (encL (eI .u8) b.D)) ?_
   refine rvP C (.pv (.lit (.int .u64 x))) ?_
   refine rvP C (.pv (.lit (.int .u8 (IntKind.u8.wrap x)))) ?_
   refine rvc_un (rexec_buildSliceF C (eI .u8) [(IntKind.u8.wrap x)] rfl rfl rfl rfl rfl rfl rfl (by decide) rfl ?_)
   refine rvc_un (rexec_appendT C rfl rfl rfl rfl rfl rfl rfl rfl (fun _ h => by cases h) rfl (en := (eI .u8)) (D0 := b.D) (D := [(IntKind.u8.wrap x)]) rfl rfl (by simp) (by first | (have h_ := putInv2_le hW hy; simp; omega) | (have h_ := putInv_le hV hx; simp; omega) | (simp; omega)) (by decide) (nn := (b.D ++ [(IntKind.u8.wrap x)]).length) (by simp) ?_)
   refine rvP C (.sl 33 0 ((b.D ++ [(IntKind.u8.wrap x)]).length) 1 false) ?_
   refine rvc_nil ?_
   refine Awp.regionP C ?_
   refine rvP C (.pv (.lit (.int .i64 1))) ?_
   refine rvP C (.pv (.lit (.int .i64 1))) ?_
   refine rvc_nil ?_
   refine Arounds.succ ?_
   refine Awp.consP C ?_
   refine rvP C (.pv (.lit (.bool true))) ?_
   refine rvc_nil ?_
   refine Awp.seq ?_
   refine Awp.condT (b := true) rfl rfl ?_
   refine Awp.skip ?_
   refine Awp.seq ?_
   refine Awp.block ?_
   refine Awp.consP C ?_
   have h12 : [x, y][1]? = some y := rfl
   refine rvc_un (rexec_idxS C rfl rfl rfl rfl rfl rfl y (Int.natCast_nonneg _) h12 ?_)
   refine rvP C (.pv (.lit (.int .u64 y))) ?_
   refine rvP C (.pv (.lit (.int .u64 y))) ?_
   refine rvc_nil ?_
   refine Awp.seq ?_
   refine Awp.block ?_
   refine Awp.forM (σ := ((List Int)) × Int) (fun v => [(0, .sl 902 0 v.1.length 1 false), (6, .pv (.lit (.int .u64 v.2))), (13, sS (some false) (eI .u64) [x, y]), (14, .pv (.lit (.int .i64 2))), (15, .pv (.lit (.int .i64 1)))]) (fun v => [(902, .cells (encC (eI .u8) v.1))]) [902] (fun n v => v.2.toNat ≤ n ∧ wPut2O_l1b (fun b3 n2 => (b3 ++ [(IntKind.u8.wrap n2)])) (n + 1) v.1 v.2 = R ∧ (putInv2 (b.D.length + 10) y v.1 v.2)) (y.toNat) ((b.D ++ [(IntKind.u8.wrap x)]), y) ?_ ?_ (fun n_ v h13 => ?_)
   · exact ⟨Nat.le_refl _, hR, ⟨0, (by first | (have h_ := putInv_le hV hx; simp; omega) | (simp; omega) | simp), (by simp)⟩⟩
   · exact ⟨fun b => bif b == 902 then 33 else (fun b => b) b, WeakerR.ofL (Ks := [902]) hI ⟨⟨rfl, rfl⟩, ⟨rfl, rfl⟩, ⟨rfl, rfl⟩, ⟨rfl, rfl⟩, ⟨rfl, rfl⟩, trivial⟩ (okH_list rfl rfl rfl (okH_nil)) rfl⟩
   obtain ⟨b3, n2⟩ := v
   obtain ⟨hm_, hR, hW⟩ := h13
   replace hm_ : n2.toNat ≤ n_ := hm_
   replace hW : putInv2 (b.D.length + 10) y b3 n2 := hW
   refine Awp.seq ?_
   refine Awp.consP C ?_
   refine rvP C (.pv (.lit (.int .u64 n2))) ?_
   refine rvP C (.pv (.lit (.bool (decide (n2 ≥ 128))))) ?_
   refine rvc_nil ?_
   refine Awp.cond (b := (decide (n2 ≥ 128))) rfl (fun h15 => ?_) (fun h15 => ?_)
   ·
    replace hR := of_true h15 hR
    refine Awp.skip ?_
    refine Awp.block ?_
    refine Awp.consP C ?_
    refine rvP C (.sl 902 0 b3.length 1 false) ?_
    refine rvP C (.pv (.lit (.int .u64 n2))) ?_
    refine rvP C (.pv (.lit (.int .u8 (IntKind.u8.wrap n2)))) ?_
    refine rvP C (.pv (.lit (.int .u8 (bitI .or .u8 (IntKind.u8.wrap n2) 128)))) ?_
    refine rvc_un (rexec_buildSliceF C (eI .u8) [(bitI .or .u8 (IntKind.u8.wrap n2) 128)] rfl rfl rfl rfl rfl rfl rfl (by decide) rfl ?_)
    refine rvc_un (rexec_append C rfl rfl rfl rfl rfl rfl rfl rfl (fun _ h => by cases h) rfl (en := (eI .u8)) (D0 := b3) (D := [(bitI .or .u8 (IntKind.u8.wrap n2) 128)]) rfl rfl rfl rfl (by first | (have h_ := putInv2_le hW hy; simp; omega) | (have h_ := putInv_le hV hx; simp; omega) | (simp; omega)) (by decide) (nn := (b3 ++ [(bitI .or .u8 (IntKind.u8.wrap n2) 128)]).length) (by simp) ?_)
    refine rvP C (.sl 26 0 ((b3 ++ [(bitI .or .u8 (IntKind.u8.wrap n2) 128)]).length) 1 false) ?_
    refine rvc_nil ?_
    refine Awp.regionP C ?_
    refine rvP C (.pv (.lit (.int .u64 n2))) ?_
    refine rvc_un (rexec_prim C (δ := { v := .pv (.lit (.int .u64 (shrI .u64 n2 7))) }) rfl rfl rfl rfl (by first | decide | assumption | omega) rfl ?_)
    refine rvP C (.pv (.lit (.int .u64 (shrI .u64 n2 7)))) ?_
    refine rvc_nil ?_
    have h16 : (shrI .u64 n2 7).toNat < n2.toNat := by (have := of_decide_eq_true ‹decide (n2 ≥ 128) = true›; rw [shr7]; omega)
    obtain ⟨nn, rfl⟩ : ∃ nn, n_ = nn + 1 := ⟨n_ - 1, by omega⟩
    refine ⟨nn, ((b3 ++ [(bitI .or .u8 (IntKind.u8.wrap n2) 128)]), (shrI .u64 n2 7)), by omega, ⟨by show (shrI .u64 n2 7).toNat ≤ nn; omega, hR, putInv2_step hW (of_decide_eq_true ‹decide (n2 ≥ 128) = true›)⟩, ?_⟩
    · exact ⟨fun b => bif b == 902 then 26 else (fun b => b) b, WeakerR.ofL (Ks := [902]) hI ⟨⟨rfl, rfl⟩, ⟨rfl, rfl⟩, ⟨rfl, rfl⟩, ⟨rfl, rfl⟩, ⟨rfl, rfl⟩, trivial⟩ (okH_list rfl rfl rfl (okH_nil)) rfl⟩
   ·
    replace hR := of_false h15 hR
    refine Awp.exit ?_
    refine Awp.regionP C ?_
    refine rvP C (.sl 902 0 b3.length 1 false) ?_
    refine rvP C (.pv (.lit (.int .u64 n2))) ?_
    refine rvP C (.pv (.lit (.int .u8 (IntKind.u8.wrap n2)))) ?_
    refine rvc_un (rexec_buildSliceF C (eI .u8) [(IntKind.u8.wrap n2)] rfl rfl rfl rfl rfl rfl rfl (by decide) rfl ?_)
    refine rvc_un (rexec_append C rfl rfl rfl rfl rfl rfl rfl rfl (fun _ h => by cases h) rfl (en := (eI .u8)) (D0 := b3) (D := [(IntKind.u8.wrap n2)]) rfl rfl rfl rfl (by first | (have h_ := putInv2_le hW hy; simp; omega) | (have h_ := putInv_le hV hx; simp; omega) | (simp; omega)) (by decide) (nn := (b3 ++ [(IntKind.u8.wrap n2)]).length) (by simp) ?_)
    refine rvP C (.sl 33 0 ((b3 ++ [(IntKind.u8.wrap n2)]).length) 1 false) ?_
    refine rvc_nil ?_
    refine Awp.regionP C ?_
    refine rvP C (.pv (.lit (.int .i64 2))) ?_
    refine rvP C (.pv (.lit (.int .i64 2))) ?_
    refine rvc_nil ?_
    refine Arounds.succ ?_
    refine Awp.consP C ?_
    refine rvP C (.pv (.lit (.bool false))) ?_
    refine rvc_nil ?_
    refine Awp.seq ?_
    refine Awp.condF (b := false) rfl rfl ?_
    refine Awp.exit ?_
    refine Awp.consP C ?_
    refine rvP C (.sl 33 0 ((b3 ++ [(IntKind.u8.wrap n2)]).length) 1 false) ?_
    refine rvP C (.sl 33 0 ((b3 ++ [(IntKind.u8.wrap n2)]).length) 1 false) ?_
    refine rvc_nil ?_
    refine Awp.weakenR (S := [(4, .sl 0 0 (b3 ++ [(IntKind.u8.wrap n2)]).length 1 false)]) (H := [(0, .cells (encC (eI .u8) (b3 ++ [(IntKind.u8.wrap n2)])))]) (U := [0]) (fun x => bif x == 0 then 33 else x) (WeakerR.ofL (Ks := [0]) hI ⟨⟨rfl, rfl⟩, trivial⟩ (okH_list rfl rfl rfl okH_nil) rfl) ?_
    refine Awp.ret ?_
    subst hR
    exact ⟨.inl rfl, rfl, rfl⟩
 obtain ⟨b1, n⟩ := v
 obtain ⟨hm_, hR, hV⟩ := h2
 replace hm_ : n.toNat ≤ n_ := hm_
 replace hV : putInv b.D.length x b1 n := hV
 refine Awp.seq ?_
 refine Awp.consP C ?_
 refine rvP C (.pv (.lit (.int .u64 n))) ?_
 refine rvP C (.pv (.lit (.bool (decide (n ≥ 128))))) ?_
 refine rvc_nil ?_
 refine Awp.cond (b := (decide (n ≥ 128))) rfl (fun h4 => ?_) (fun h4 => ?_)
 ·
  replace hR := of_true h4 hR
  refine Awp.skip ?_
  refine Awp.block ?_
  refine Awp.consP C ?_
  refine rvP C (.sl 900 0 b1.length 1 false) ?_
  refine rvP C (.pv (.lit (.int .u64 n))) ?_
  refine rvP C (.pv (.lit (.int .u8 (IntKind.u8.wrap n)))) ?_
  refine rvP C (.pv (.lit (.int .u8 (bitI .or .u8 (IntKind.u8.wrap n) 128)))) ?_
  refine rvc_un (rexec_buildSliceF C (eI .u8) [(bitI .or .u8 (IntKind.u8.wrap n) 128)] rfl rfl rfl rfl rfl rfl rfl (by decide) rfl ?_)
  refine rvc_un (rexec_append C rfl rfl rfl rfl rfl rfl rfl rfl (fun _ h => by cases h) rfl (en := (eI .u8)) (D0 := b1) (D := [(bitI .or .u8 (IntKind.u8.wrap n) 128)]) rfl rfl rfl rfl (by first | (have h_ := putInv2_le hW hy; simp; omega) | (have h_ := putInv_le hV hx; simp; omega) | (simp; omega)) (by decide) (nn := (b1 ++ [(bitI .or .u8 (IntKind.u8.wrap n) 128)]).length) (by simp) ?_)
  refine rvP C (.sl 26 0 ((b1 ++ [(bitI .or .u8 (IntKind.u8.wrap n) 128)]).length) 1 false) ?_
  refine rvc_nil ?_
  refine Awp.regionP C ?_
  refine rvP C (.pv (.lit (.int .u64 n))) ?_
  refine rvc_un (rexec_prim C (δ := { v := .pv (.lit (.int .u64 (shrI .u64 n 7))) }) rfl rfl rfl rfl (by first | decide | assumption | omega) rfl ?_)
  refine rvP C (.pv (.lit (.int .u64 (shrI .u64 n 7)))) ?_
  refine rvc_nil ?_
  have h5 : (shrI .u64 n 7).toNat < n.toNat := by (have := of_decide_eq_true ‹decide (n ≥ 128) = true›; rw [shr7]; omega)
  obtain ⟨nn, rfl⟩ : ∃ nn, n_ = nn + 1 := ⟨n_ - 1, by omega⟩
  refine ⟨nn, ((b1 ++ [(bitI .or .u8 (IntKind.u8.wrap n) 128)]), (shrI .u64 n 7)), by omega, ⟨by show (shrI .u64 n 7).toNat ≤ nn; omega, hR, putInv_step hV (of_decide_eq_true ‹decide (n ≥ 128) = true›)⟩, ?_⟩
  · exact ⟨fun b => bif b == 900 then 26 else (fun b => b) b, WeakerR.ofL (Ks := [900]) hI ⟨⟨rfl, rfl⟩, ⟨rfl, rfl⟩, ⟨rfl, rfl⟩, ⟨rfl, rfl⟩, ⟨rfl, rfl⟩, trivial⟩ (okH_list rfl rfl rfl (okH_nil)) rfl⟩
 ·
  replace hR := of_false h4 hR
  refine Awp.exit ?_
  refine Awp.regionP C ?_
  refine rvP C (.sl 900 0 b1.length 1 false) ?_
  refine rvP C (.pv (.lit (.int .u64 n))) ?_
  refine rvP C (.pv (.lit (.int .u8 (IntKind.u8.wrap n)))) ?_
  refine rvc_un (rexec_buildSliceF C (eI .u8) [(IntKind.u8.wrap n)] rfl rfl rfl rfl rfl rfl rfl (by decide) rfl ?_)
  refine rvc_un (rexec_append C rfl rfl rfl rfl rfl rfl rfl rfl (fun _ h => by cases h) rfl (en := (eI .u8)) (D0 := b1) (D := [(IntKind.u8.wrap n)]) rfl rfl rfl rfl (by first | (have h_ := putInv2_le hW hy; simp; omega) | (have h_ := putInv_le hV hx; simp; omega) | (simp; omega)) (by decide) (nn := (b1 ++ [(IntKind.u8.wrap n)]).length) (by simp) ?_)
  refine rvP C (.sl 33 0 ((b1 ++ [(IntKind.u8.wrap n)]).length) 1 false) ?_
  refine rvc_nil ?_
  refine Awp.regionP C ?_
  refine rvP C (.pv (.lit (.int .i64 1))) ?_
  refine rvP C (.pv (.lit (.int .i64 1))) ?_
  refine rvc_nil ?_
  refine Arounds.succ ?_
  refine Awp.consP C ?_
  refine rvP C (.pv (.lit (.bool true))) ?_
  refine rvc_nil ?_
  refine Awp.seq ?_
  refine Awp.condT (b := true) rfl rfl ?_
  refine Awp.skip ?_
  refine Awp.seq ?_
  refine Awp.block ?_
  refine Awp.consP C ?_
  have h6 : [x, y][1]? = some y := rfl
  refine rvc_un (rexec_idxS C rfl rfl rfl rfl rfl rfl y (Int.natCast_nonneg _) h6 ?_)
  refine rvP C (.pv (.lit (.int .u64 y))) ?_
  refine rvP C (.pv (.lit (.int .u64 y))) ?_
  refine rvc_nil ?_
  refine Awp.seq ?_
  refine Awp.block ?_
  refine Awp.forM (σ := ((List Int)) × Int) (fun v => [(0, .sl 901 0 v.1.length 1 false), (6, .pv (.lit (.int .u64 v.2))), (13, sS (some false) (eI .u64) [x, y]), (14, .pv (.lit (.int .i64 2))), (15, .pv (.lit (.int .i64 1)))]) (fun v => [(901, .cells (encC (eI .u8) v.1))]) [901] (fun n v => v.2.toNat ≤ n ∧ wPut2O_l1b (fun b2 n1 => (b2 ++ [(IntKind.u8.wrap n1)])) (n + 1) v.1 v.2 = R ∧ (putInv2 (b.D.length + 10) y v.1 v.2)) (y.toNat) ((b1 ++ [(IntKind.u8.wrap n)]), y) ?_ ?_ (fun n_ v h7 => ?_)
  · exact ⟨Nat.le_refl _, hR, ⟨0, (by first | (have h_ := putInv_le hV hx; simp; omega) | (simp; omega) | simp), (by simp)⟩⟩
  · exact ⟨fun b => bif b == 901 then 33 else (fun b => b) b, WeakerR.ofL (Ks := [901]) hI ⟨⟨rfl, rfl⟩, ⟨rfl, rfl⟩, ⟨rfl, rfl⟩, ⟨rfl, rfl⟩, ⟨rfl, rfl⟩, trivial⟩ (okH_list rfl rfl rfl (okH_nil)) rfl⟩
  obtain ⟨b2, n1⟩ := v
  obtain ⟨hm_, hR, hW⟩ := h7
  replace hm_ : n1.toNat ≤ n_ := hm_
  replace hW : putInv2 (b.D.length + 10) y b2 n1 := hW
  refine Awp.seq ?_
  refine Awp.consP C ?_
  refine rvP C (.pv (.lit (.int .u64 n1))) ?_
  refine rvP C (.pv (.lit (.bool (decide (n1 ≥ 128))))) ?_
  refine rvc_nil ?_
  refine Awp.cond (b := (decide (n1 ≥ 128))) rfl (fun h9 => ?_) (fun h9 => ?_)
  ·
   replace hR := of_true h9 hR
   refine Awp.skip ?_
   refine Awp.block ?_
   refine Awp.consP C ?_
   refine rvP C (.sl 901 0 b2.length 1 false) ?_
   refine rvP C (.pv (.lit (.int .u64 n1))) ?_
   refine rvP C (.pv (.lit (.int .u8 (IntKind.u8.wrap n1)))) ?_
   refine rvP C (.pv (.lit (.int .u8 (bitI .or .u8 (IntKind.u8.wrap n1) 128)))) ?_
   refine rvc_un (rexec_buildSliceF C (eI .u8) [(bitI .or .u8 (IntKind.u8.wrap n1) 128)] rfl rfl rfl rfl rfl rfl rfl (by decide) rfl ?_)
   refine rvc_un (rexec_append C rfl rfl rfl rfl rfl rfl rfl rfl (fun _ h => by cases h) rfl (en := (eI .u8)) (D0 := b2) (D := [(bitI .or .u8 (IntKind.u8.wrap n1) 128)]) rfl rfl rfl rfl (by first | (have h_ := putInv2_le hW hy; simp; omega) | (have h_ := putInv_le hV hx; simp; omega) | (simp; omega)) (by decide) (nn := (b2 ++ [(bitI .or .u8 (IntKind.u8.wrap n1) 128)]).length) (by simp) ?_)
   refine rvP C (.sl 26 0 ((b2 ++ [(bitI .or .u8 (IntKind.u8.wrap n1) 128)]).length) 1 false) ?_
   refine rvc_nil ?_
   refine Awp.regionP C ?_
   refine rvP C (.pv (.lit (.int .u64 n1))) ?_
   refine rvc_un (rexec_prim C (δ := { v := .pv (.lit (.int .u64 (shrI .u64 n1 7))) }) rfl rfl rfl rfl (by first | decide | assumption | omega) rfl ?_)
   refine rvP C (.pv (.lit (.int .u64 (shrI .u64 n1 7)))) ?_
   refine rvc_nil ?_
   have h10 : (shrI .u64 n1 7).toNat < n1.toNat := by (have := of_decide_eq_true ‹decide (n1 ≥ 128) = true›; rw [shr7]; omega)
   obtain ⟨nn, rfl⟩ : ∃ nn, n_ = nn + 1 := ⟨n_ - 1, by omega⟩
   refine ⟨nn, ((b2 ++ [(bitI .or .u8 (IntKind.u8.wrap n1) 128)]), (shrI .u64 n1 7)), by omega, ⟨by show (shrI .u64 n1 7).toNat ≤ nn; omega, hR, putInv2_step hW (of_decide_eq_true ‹decide (n1 ≥ 128) = true›)⟩, ?_⟩
   · exact ⟨fun b => bif b == 901 then 26 else (fun b => b) b, WeakerR.ofL (Ks := [901]) hI ⟨⟨rfl, rfl⟩, ⟨rfl, rfl⟩, ⟨rfl, rfl⟩, ⟨rfl, rfl⟩, ⟨rfl, rfl⟩, trivial⟩ (okH_list rfl rfl rfl (okH_nil)) rfl⟩
  ·
   replace hR := of_false h9 hR
   refine Awp.exit ?_
   refine Awp.regionP C ?_
   refine rvP C (.sl 901 0 b2.length 1 false) ?_
   refine rvP C (.pv (.lit (.int .u64 n1))) ?_
   refine rvP C (.pv (.lit (.int .u8 (IntKind.u8.wrap n1)))) ?_
   refine rvc_un (rexec_buildSliceF C (eI .u8) [(IntKind.u8.wrap n1)] rfl rfl rfl rfl rfl rfl rfl (by decide) rfl ?_)
   refine rvc_un (rexec_append C rfl rfl rfl rfl rfl rfl rfl rfl (fun _ h => by cases h) rfl (en := (eI .u8)) (D0 := b2) (D := [(IntKind.u8.wrap n1)]) rfl rfl rfl rfl (by first | (have h_ := putInv2_le hW hy; simp; omega) | (have h_ := putInv_le hV hx; simp; omega) | (simp; omega)) (by decide) (nn := (b2 ++ [(IntKind.u8.wrap n1)]).length) (by simp) ?_)
   refine rvP C (.sl 33 0 ((b2 ++ [(IntKind.u8.wrap n1)]).length) 1 false) ?_
   refine rvc_nil ?_
   refine Awp.regionP C ?_
   refine rvP C (.pv (.lit (.int .i64 2))) ?_
   refine rvP C (.pv (.lit (.int .i64 2))) ?_
   refine rvc_nil ?_
   refine Arounds.succ ?_
   refine Awp.consP C ?_
   refine rvP C (.pv (.lit (.bool false))) ?_
   refine rvc_nil ?_
   refine Awp.seq ?_
   refine Awp.condF (b := false) rfl rfl ?_
   refine Awp.exit ?_
   refine Awp.consP C ?_
   refine rvP C (.sl 33 0 ((b2 ++ [(IntKind.u8.wrap n1)]).length) 1 false) ?_
   refine rvP C (.sl 33 0 ((b2 ++ [(IntKind.u8.wrap n1)]).length) 1 false) ?_
   refine rvc_nil ?_
   refine Awp.weakenR (S := [(4, .sl 0 0 (b2 ++ [(IntKind.u8.wrap n1)]).length 1 false)]) (H := [(0, .cells (encC (eI .u8) (b2 ++ [(IntKind.u8.wrap n1)])))]) (U := [0]) (fun x => bif x == 0 then 33 else x) (WeakerR.ofL (Ks := [0]) hI ⟨⟨rfl, rfl⟩, trivial⟩ (okH_list rfl rfl rfl okH_nil) rfl) ?_
   refine Awp.ret ?_
   subst hR
   exact ⟨.inl rfl, rfl, rfl⟩
def rPutO_l1 (kk : (List Int) → Int → List Int) : Nat → Nat → (List Int) → Int → List Int
  | 0, _, out1, n => kk out1 n
  | k + 1, i1, out1, n => (bif (decide (n < 128)) then kk out1 n else rPutO_l1 kk k (i1 + 1) (out1 ++ [(IntKind.u8.wrap (IntKind.u64.wrap (128 + (n.tmod 128))))]) (IntKind.u64.wrap (n.tdiv 128)))
def rPutO_l0 : List Int → Nat → (List Int) → List Int
  | [], _, out => out
  | x :: xs, i, out => rPutO_l1 (fun out1 n => rPutO_l0 xs (i + 1) (out1 ++ [(IntKind.u8.wrap n)])) 10 0 out x
def rPutO (b : (Sl Int)) (l : (Sl Int)) : List Int :=
  rPutO_l0 l.D 0 b.D
theorem rPutO_calls (b : (Sl Int)) (l : (Sl Int)) (hl1 : b.D.length ≤ 1000000) (hl2 : l.D.length ≤ 1000000) : OCalls Tryd.prog 35 [sS (some b.nil) (eI .u8) b.D, sS (some l.nil) (eI .u64) l.D] (.sl 0 0 (rPutO b l).length 1 false) (.cells (encC (eI .u8) (rPutO b l))) := by
 generalize hR : rPutO b l = R
 refine OCalls.of_body tabOk Tryd.func35 rfl rfl rfl rfl rfl (encC_within _ _) mixed fun E hP C hI => ?_
 refine Awp.consP C ?_
 refine rvP C (sS (some true) (eI .u8) []) ?_
 refine rvc_nil ?_
 refine Awp.consP C ?_
 refine rvc_un (rexec_prim C (δ := { v := .sl 8 0 0 1 true, new := [(8, .cells (encC (eI .u8) []))] }) rfl rfl rfl rfl trivial rfl ?_)
 refine rvP C (sS (some b.nil) (eI .u8) b.D) ?_
 refine rvc_un (rexec_append C rfl rfl rfl rfl rfl rfl rfl rfl (fun _ h => by cases h) rfl (en := (eI .u8)) (D0 := []) (D := b.D) rfl rfl rfl rfl (by first | omega | (simp <;> omega)) (by decide) (nn := b.D.length) (by simp) ?_)
 refine rvP C (.sl 10 0 b.D.length 1 false) ?_
 refine rvc_nil ?_
 refine Awp.seq ?_
 refine Awp.consP C ?_
 refine rvP C (sS (some l.nil) (eI .u64) l.D) ?_
 refine rvP C (.pv (.lit (.int .i64 (l.D.length : Int)))) ?_
 refine rvP C (.pv (.lit (.int .i64 0))) ?_
 refine rvc_nil ?_
 refine Awp.block ?_
 refine Awp.forR (σ := ((List Int))) (l.D.length) (fun i v => [(5, .sl 900 0 v.length 1 false), (11, sS (some l.nil) (eI .u64) l.D), (12, .pv (.lit (.int .i64 (l.D.length : Int)))), (13, .pv (.lit (.int .i64 (i : Int))))]) (fun i v => [(900, .cells (encC (eI .u8) v))]) [900] (fun i v => (rPutO_l0 (l.D.drop i) i v = R) ∧ (v.length ≤ b.D.length + i * 1000000)) b.D ?_ ?_ (fun i out h1 hR => ?_)
 · exact ⟨hR, (by first | omega | (simp <;> omega))⟩
 · exact ⟨fun b => bif b == 900 then 10 else (fun b => b) b, WeakerR.ofL (Ks := [900]) hI ⟨⟨rfl, rfl⟩, ⟨rfl, rfl⟩, ⟨rfl, rfl⟩, ⟨rfl, rfl⟩, trivial⟩ (okH_list rfl rfl rfl (okH_nil)) rfl⟩
 obtain ⟨hR, hi_out⟩ := hR
 replace hi_out : out.length ≤ b.D.length + i * 1000000 := hi_out
 refine Awp.consP C ?_
 refine rvP C (.pv (.lit (.bool (decide ((i : Int) < (l.D.length : Int)))))) ?_
 refine rvc_nil ?_
 refine Awp.seq ?_
 refine Awp.cond (b := (decide ((i : Int) < (l.D.length : Int)))) rfl (fun h2 => ?_) (fun h2 => ?_)
 ·
  have h3 : i < l.D.length := by have := of_decide_eq_true h2; omega
  obtain ⟨x, h4⟩ := getX h3
  rw [drop_at h4] at hR
  refine Awp.skip ?_
  refine Awp.seq ?_
  refine Awp.block ?_
  refine Awp.consP C ?_
  refine rvc_un (rexec_idxS C rfl rfl rfl rfl rfl rfl x (Int.natCast_nonneg _) h4 ?_)
  refine rvP C (.pv (.lit (.int .u64 x))) ?_
  refine rvP C (.pv (.lit (.int .u64 x))) ?_
  refine rvc_nil ?_
  refine Awp.seq ?_
  refine Awp.consP C ?_
  refine rvP C (.pv (.lit (.int .i64 0))) ?_
  refine rvc_nil ?_
  refine Awp.block ?_
  refine Awp.forR (σ := ((List Int)) × Int) (10) (fun i1 v => [(5, .sl 901 0 v.1.length 1 false), (7, .pv (.lit (.int .u64 v.2))), (11, sS (some l.nil) (eI .u64) l.D), (12, .pv (.lit (.int .i64 (l.D.length : Int)))), (13, .pv (.lit (.int .i64 (i : Int)))), (17, .pv (.lit (.int .i64 (i1 : Int))))]) (fun i1 v => [(901, .cells (encC (eI .u8) v.1))]) [901] (fun i1 v => (rPutO_l1 (fun out1 n => rPutO_l0 (l.D.drop (i + 1)) (i + 1) (out1 ++ [(IntKind.u8.wrap n)])) (10 - i1) i1 v.1 v.2 = R) ∧ (v.1.length ≤ out.length + i1)) (out, x) ?_ ?_ (fun i1 v h5 hR => ?_)
  · exact ⟨hR, (by first | omega | (simp <;> omega))⟩
  · exact ⟨fun b => bif b == 901 then 900 else (fun b => b) b, WeakerR.ofL (Ks := [901]) hI ⟨⟨rfl, rfl⟩, ⟨rfl, rfl⟩, ⟨rfl, rfl⟩, ⟨rfl, rfl⟩, ⟨rfl, rfl⟩, ⟨rfl, rfl⟩, trivial⟩ (okH_list rfl rfl rfl (okH_nil)) rfl⟩
  obtain ⟨out1, n⟩ := v
  obtain ⟨hR, hi_out1⟩ := hR
  replace hi_out1 : out1.length ≤ out.length + i1 := hi_out1
  refine Awp.consP C ?_
  refine rvP C (.pv (.lit (.bool (decide ((i1 : Int) < 10))))) ?_
  refine rvc_nil ?_
  refine Awp.seq ?_
  refine Awp.cond (b := (decide ((i1 : Int) < 10))) rfl (fun h6 => ?_) (fun h6 => ?_)
  ·
   have h7 : i1 < 10 := by have := of_decide_eq_true h6; omega
   obtain ⟨k, h8⟩ : ∃ k, 10 - i1 = k + 1 := ⟨10 - i1 - 1, by omega⟩
   rw [h8] at hR
   refine Awp.skip ?_
   refine Awp.seq ?_
   refine Awp.block ?_
   refine Awp.seq ?_
   refine Awp.consP C ?_
   refine rvP C (.pv (.lit (.int .u64 n))) ?_
   refine rvP C (.pv (.lit (.bool (decide (n < 128))))) ?_
   refine rvc_nil ?_
   refine Awp.cond (b := (decide (n < 128))) rfl (fun h9 => ?_) (fun h9 => ?_)
   ·
    replace hR := of_true h9 hR
    refine Awp.exit ?_
    refine Awp.regionP C ?_
    refine rvP C (.sl 901 0 out1.length 1 false) ?_
    refine rvP C (.pv (.lit (.int .u64 n))) ?_
    refine rvP C (.pv (.lit (.int .u8 (IntKind.u8.wrap n)))) ?_
    refine rvc_un (rexec_buildSliceF C (eI .u8) [(IntKind.u8.wrap n)] rfl rfl rfl rfl rfl rfl rfl (by decide) rfl ?_)
    refine rvc_un (rexec_append C rfl rfl rfl rfl rfl rfl rfl rfl (fun _ h => by cases h) rfl (en := (eI .u8)) (D0 := out1) (D := [(IntKind.u8.wrap n)]) rfl rfl rfl rfl (by have := of_decide_eq_true h2; have := of_decide_eq_true h6; have := of_decide_eq_true h9; first | omega | (simp <;> omega)) (by decide) (nn := (out1 ++ [(IntKind.u8.wrap n)]).length) (by simp) ?_)
    refine rvP C (.sl 35 0 ((out1 ++ [(IntKind.u8.wrap n)]).length) 1 false) ?_
    refine rvc_nil ?_
    refine Awp.regionP C ?_
    refine rvP C (.pv (.lit (.int .i64 (IntKind.i64.wrap ((i : Int) + 1))))) ?_
    refine rvP C (.pv (.lit (.int .i64 (IntKind.i64.wrap ((i : Int) + 1))))) ?_
    refine rvc_nil ?_
    refine ⟨h3, (out1 ++ [(IntKind.u8.wrap n)]), ?_, ?_⟩
    · exact ⟨hR, (by first | omega | (simp <;> omega))⟩
    · exact ⟨fun b => bif b == 900 then 35 else (fun b => b) b, WeakerR.ofL (Ks := [900]) hI ⟨⟨rfl, rfl⟩, ⟨rfl, rfl⟩, ⟨rfl, rfl⟩, ⟨lit_cast (wrap_i64 (by omega) (by omega)), rfl⟩, trivial⟩ (okH_list rfl rfl rfl (okH_nil)) rfl⟩
   ·
    replace hR := of_false h9 hR
    refine Awp.skip ?_
    refine Awp.consP C ?_
    refine rvP C (.sl 901 0 out1.length 1 false) ?_
    refine rvP C (.pv (.lit (.int .u64 n))) ?_
    refine rvc_un (rexec_prim C (δ := { v := .pv (.lit (.int .u64 (n.tmod 128))) }) rfl rfl rfl rfl (by first | decide | omega) rfl ?_)
    refine rvP C (.pv (.lit (.int .u64 (IntKind.u64.wrap (128 + (n.tmod 128)))))) ?_
    refine rvP C (.pv (.lit (.int .u8 (IntKind.u8.wrap (IntKind.u64.wrap (128 + (n.tmod 128))))))) ?_
    refine rvc_un (rexec_buildSliceF C (eI .u8) [(IntKind.u8.wrap (IntKind.u64.wrap (128 + (n.tmod 128))))] rfl rfl rfl rfl rfl rfl rfl (by decide) rfl ?_)
    refine rvc_un (rexec_append C rfl rfl rfl rfl rfl rfl rfl rfl (fun _ h => by cases h) rfl (en := (eI .u8)) (D0 := out1) (D := [(IntKind.u8.wrap (IntKind.u64.wrap (128 + (n.tmod 128))))]) rfl rfl rfl rfl (by have := of_decide_eq_true h2; have := of_decide_eq_true h6; have := of_decide_eq_false h9; first | omega | (simp <;> omega)) (by decide) (nn := (out1 ++ [(IntKind.u8.wrap (IntKind.u64.wrap (128 + (n.tmod 128))))]).length) (by simp) ?_)
    refine rvP C (.sl 27 0 ((out1 ++ [(IntKind.u8.wrap (IntKind.u64.wrap (128 + (n.tmod 128))))]).length) 1 false) ?_
    refine rvc_nil ?_
    refine Awp.regionP C ?_
    refine rvP C (.pv (.lit (.int .u64 n))) ?_
    refine rvc_un (rexec_prim C (δ := { v := .pv (.lit (.int .u64 (IntKind.u64.wrap (n.tdiv 128)))) }) rfl rfl rfl rfl (by first | decide | omega) rfl ?_)
    refine rvP C (.pv (.lit (.int .u64 (IntKind.u64.wrap (n.tdiv 128))))) ?_
    refine rvc_nil ?_
    refine Awp.regionP C ?_
    refine rvP C (.pv (.lit (.int .i64 (IntKind.i64.wrap ((i1 : Int) + 1))))) ?_
    refine rvP C (.pv (.lit (.int .i64 (IntKind.i64.wrap ((i1 : Int) + 1))))) ?_
    refine rvc_nil ?_
    refine ⟨h7, ((out1 ++ [(IntKind.u8.wrap (IntKind.u64.wrap (128 + (n.tmod 128))))]), (IntKind.u64.wrap (n.tdiv 128))), ?_, ?_⟩
    · exact ⟨(by rw [show 10 - (i1 + 1) = k by omega]; exact hR), (by first | omega | (simp <;> omega))⟩
    · exact ⟨fun b => bif b == 901 then 27 else (fun b => b) b, WeakerR.ofL (Ks := [901]) hI ⟨⟨rfl, rfl⟩, ⟨rfl, rfl⟩, ⟨rfl, rfl⟩, ⟨rfl, rfl⟩, ⟨rfl, rfl⟩, ⟨lit_cast (wrap_i64 (by omega) (by omega)), rfl⟩, trivial⟩ (okH_list rfl rfl rfl (okH_nil)) rfl⟩
  ·
   rw [show 10 - i1 = 0 by have := of_decide_eq_false h6; omega] at hR
   refine Awp.exit ?_
   refine Awp.regionP C ?_
   refine rvP C (.sl 901 0 out1.length 1 false) ?_
   refine rvP C (.pv (.lit (.int .u64 n))) ?_
   refine rvP C (.pv (.lit (.int .u8 (IntKind.u8.wrap n)))) ?_
   refine rvc_un (rexec_buildSliceF C (eI .u8) [(IntKind.u8.wrap n)] rfl rfl rfl rfl rfl rfl rfl (by decide) rfl ?_)
   refine rvc_un (rexec_append C rfl rfl rfl rfl rfl rfl rfl rfl (fun _ h => by cases h) rfl (en := (eI .u8)) (D0 := out1) (D := [(IntKind.u8.wrap n)]) rfl rfl rfl rfl (by have := of_decide_eq_true h2; have := of_decide_eq_false h6; first | omega | (simp <;> omega)) (by decide) (nn := (out1 ++ [(IntKind.u8.wrap n)]).length) (by simp) ?_)
   refine rvP C (.sl 35 0 ((out1 ++ [(IntKind.u8.wrap n)]).length) 1 false) ?_
   refine rvc_nil ?_
   refine Awp.regionP C ?_
   refine rvP C (.pv (.lit (.int .i64 (IntKind.i64.wrap ((i : Int) + 1))))) ?_
   refine rvP C (.pv (.lit (.int .i64 (IntKind.i64.wrap ((i : Int) + 1))))) ?_
   refine rvc_nil ?_
   refine ⟨h3, (out1 ++ [(IntKind.u8.wrap n)]), ?_, ?_⟩
   · exact ⟨hR, (by first | omega | (simp <;> omega))⟩
   · exact ⟨fun b => bif b == 900 then 35 else (fun b => b) b, WeakerR.ofL (Ks := [900]) hI ⟨⟨rfl, rfl⟩, ⟨rfl, rfl⟩, ⟨rfl, rfl⟩, ⟨lit_cast (wrap_i64 (by omega) (by omega)), rfl⟩, trivial⟩ (okH_list rfl rfl rfl (okH_nil)) rfl⟩
 ·
  have h3 : ¬ i < l.D.length := by have := of_decide_eq_false h2; omega
  rw [drop_end h3] at hR
  refine Awp.exit ?_
  refine Awp.consP C ?_
  refine rvP C (.sl 900 0 out.length 1 false) ?_
  refine rvP C (.sl 900 0 out.length 1 false) ?_
  refine rvc_nil ?_
  refine Awp.weakenR (S := [(4, .sl 0 0 out.length 1 false)]) (H := [(0, .cells (encC (eI .u8) out))]) (U := [0]) (fun x => bif x == 0 then 900 else x) (WeakerR.ofL (Ks := [0]) hI ⟨⟨rfl, rfl⟩, trivial⟩ (okH_list rfl rfl rfl okH_nil) rfl) ?_
  refine Awp.ret ?_
  subst hR
  exact ⟨.inl rfl, rfl, rfl⟩
theorem rPutO_l1_eq (g : List Int → List Int) : ∀ (k i : Nat) (out : List Int) (n : Int), 0 ≤ n → n.toNat < 128 ^ (k + 1) → n < 18446744073709551616 → rPutO_l1 (fun out1 n => g (out1 ++ [(IntKind.u8.wrap n)])) k i out n = g (out ++ vb n.toNat)
  | 0, i, out, n, h0, h, h2 => by
    rw [vb_lt (by simpa using h)]
    show g (out ++ [IntKind.u8.wrap n]) = _
    have : n.toNat < 128 := by simpa using h
    rw [wrap8, show n % 256 = ((n.toNat : Nat) : Int) by omega]
  | k + 1, i, out, n, h0, h, h2 => by
    unfold rPutO_l1
    cases e1 : decide (n < 128)
    · have hn := of_decide_eq_false e1
      have e2 : IntKind.u64.wrap (n.tdiv 128) = n / 128 := by rw [wrapU, Int.tdiv_eq_ediv_of_nonneg h0]; omega
      have e3 : IntKind.u8.wrap (IntKind.u64.wrap (128 + (n.tmod 128))) = ((n.toNat % 128 + 128 : Nat) : Int) := by
        rw [wrapU, wrap8, Int.tmod_eq_emod_of_nonneg h0]; omega
      show rPutO_l1 _ k (i + 1) (out ++ [IntKind.u8.wrap (IntKind.u64.wrap (128 + (n.tmod 128)))]) (IntKind.u64.wrap (n.tdiv 128)) = _
      have h3 : n.toNat / 128 < 128 ^ (k + 1) := by
        rw [Nat.pow_succ] at h
        exact Nat.div_lt_of_lt_mul (by rw [Nat.mul_comm]; exact h)
      rw [e2, e3, rPutO_l1_eq g k (i + 1) _ _ (by omega) (by rw [show (n / 128).toNat = n.toNat / 128 by omega]; exact h3) (by omega), vb_ge (n := n.toNat) (by omega), show (n / 128).toNat = n.toNat / 128 by omega]
      simp
    · have hn := of_decide_eq_true e1
      rw [vb_lt (by omega)]
      show g (out ++ [IntKind.u8.wrap n]) = _
      rw [wrap8, show n % 256 = ((n.toNat : Nat) : Int) by omega]
theorem rPutO_l0_eq : ∀ (l : List Int) (i : Nat) (out : List Int), (∀ x ∈ l, 0 ≤ x ∧ x < 18446744073709551616) → rPutO_l0 l i out = out ++ vbs l
  | [], _, out, _ => by simp [rPutO_l0, vbs]
  | x :: l, i, out, h => by
    unfold rPutO_l0
    have hx := h x (List.mem_cons_self ..)
    have h11 : (128 : Nat) ^ (10 + 1) = 151115727451828646838272 := by decide
    rw [rPutO_l1_eq (fun o => rPutO_l0 l (i + 1) o) 10 0 out x hx.1 (by omega) hx.2]
    show rPutO_l0 l (i + 1) (out ++ vb x.toNat) = _
    rw [rPutO_l0_eq l (i + 1) _ fun y hy => h y (List.mem_cons_of_mem _ hy)]
    simp [vbs]
theorem wPut2O_l1_eq (K : List Int → List Int) : ∀ (f : Nat) (b1 : List Int) (n : Int), 0 ≤ n → n.toNat < f → wPut2O_l1 (fun b1 n => K (b1 ++ [(IntKind.u8.wrap n)])) f b1 n = K (b1 ++ vb n.toNat)
  | 0, _, _, _, h => by omega
  | f + 1, b1, n, h0, h => by
    unfold wPut2O_l1
    cases e1 : decide (n ≥ 128)
    · have := of_decide_eq_false e1
      rw [vb_lt (by omega)]
      show K (b1 ++ [IntKind.u8.wrap n]) = _
      rw [wrap8, show n % 256 = ((n.toNat : Nat) : Int) by omega]
    · have hn := of_decide_eq_true e1
      show wPut2O_l1 _ f (b1 ++ [bitI .or .u8 (IntKind.u8.wrap n) 128]) (shrI .u64 n 7) = _
      rw [wPut2O_l1_eq K f _ _ (by rw [shr7]; omega) (by rw [shr7]; omega), low_byte h0, vb_ge (n := n.toNat) (by omega), shr7, show (n / 128).toNat = n.toNat / 128 by omega]
      simp
theorem wPut2O_l1b_eq (K : List Int → List Int) : ∀ (f : Nat) (b1 : List Int) (n : Int), 0 ≤ n → n.toNat < f → wPut2O_l1b (fun b1 n => K (b1 ++ [(IntKind.u8.wrap n)])) f b1 n = K (b1 ++ vb n.toNat)
  | 0, _, _, _, h => by omega
  | f + 1, b1, n, h0, h => by
    unfold wPut2O_l1b
    cases e1 : decide (n ≥ 128)
    · have := of_decide_eq_false e1
      rw [vb_lt (by omega)]
      show K (b1 ++ [IntKind.u8.wrap n]) = _
      rw [wrap8, show n % 256 = ((n.toNat : Nat) : Int) by omega]
    · have hn := of_decide_eq_true e1
      show wPut2O_l1b _ f (b1 ++ [bitI .or .u8 (IntKind.u8.wrap n) 128]) (shrI .u64 n 7) = _
      rw [wPut2O_l1b_eq K f _ _ (by rw [shr7]; omega) (by rw [shr7]; omega), low_byte h0, vb_ge (n := n.toNat) (by omega), shr7, show (n / 128).toNat = n.toNat / 128 by omega]
      simp
theorem wPutO_l1_eq (K : List Int → List Int) : ∀ (f : Nat) (b1 : List Int) (n : Int), 0 ≤ n → n.toNat < f → wPutO_l1 (fun b1 n => K (b1 ++ [(IntKind.u8.wrap n)])) f b1 n = K (b1 ++ vb n.toNat)
  | 0, _, _, _, h => by omega
  | f + 1, b1, n, h0, h => by
    unfold wPutO_l1
    cases e1 : decide (n ≥ 128)
    · have := of_decide_eq_false e1
      rw [vb_lt (by omega)]
      show K (b1 ++ [IntKind.u8.wrap n]) = _
      rw [wrap8, show n % 256 = ((n.toNat : Nat) : Int) by omega]
    · have hn := of_decide_eq_true e1
      show wPutO_l1 _ f (b1 ++ [bitI .or .u8 (IntKind.u8.wrap n) 128]) (shrI .u64 n 7) = _
      rw [wPutO_l1_eq K f _ _ (by rw [shr7]; omega) (by rw [shr7]; omega), low_byte h0, vb_ge (n := n.toNat) (by omega), shr7, show (n / 128).toNat = n.toNat / 128 by omega]
      simp
theorem wPut2O_eq (b : Sl Int) (x y : Int) (h0 : 0 ≤ x) (h1 : 0 ≤ y) : wPut2O b x y = b.D ++ (vb x.toNat ++ vb y.toNat) := by
  have k2 := fun L : List Int => wPut2O_l1b_eq (fun L => L) (y.toNat + 1) L y h1 (Nat.lt_succ_self _)
  unfold wPut2O
  cases e1 : decide (x ≥ 128)
  · have := of_decide_eq_false e1
    rw [cond_false, k2, vb_lt (n := x.toNat) (by omega), wrap8, show x % 256 = ((x.toNat : Nat) : Int) by omega, List.append_assoc]
  · have hn := of_decide_eq_true e1
    rw [cond_true, wPut2O_l1_eq (fun L => wPut2O_l1b (fun b3 n2 => (b3 ++ [(IntKind.u8.wrap n2)])) (y.toNat + 1) L y) _ _ _ (by rw [shr7]; omega) (by rw [shr7]; omega), k2, low_byte h0, vb_ge (n := x.toNat) (by omega), shr7, show (x / 128).toNat = x.toNat / 128 by omega]
    simp
theorem wPutO_eq (b : Sl Int) (x : Int) (h0 : 0 ≤ x) : wPutO b x = b.D ++ vb x.toNat := by
  unfold wPutO
  cases e1 : decide (x ≥ 128)
  · have := of_decide_eq_false e1
    rw [vb_lt (by omega)]
    show b.D ++ [IntKind.u8.wrap x] = _
    rw [wrap8, show x % 256 = ((x.toNat : Nat) : Int) by omega]
  · have hn := of_decide_eq_true e1
    show wPutO_l1 _ _ (b.D ++ [bitI .or .u8 (IntKind.u8.wrap x) 128]) (shrI .u64 x 7) = _
    rw [wPutO_l1_eq (fun L => L) _ _ _ (by rw [shr7]; omega) (by omega), low_byte h0, vb_ge (n := x.toNat) (by omega), shr7, show (x / 128).toNat = x.toNat / 128 by omega]
    simp
theorem rPutO_eq (b l : Sl Int) (h : ∀ x ∈ l.D, 0 ≤ x ∧ x < 18446744073709551616) : rPutO b l = b.D ++ vbs l.D := rPutO_l0_eq l.D 0 b.D h
theorem wPutO_len (b : Sl Int) (x : Int) (h : 0 ≤ x ∧ x < 18446744073709551616) : (wPutO b x).length ≤ b.D.length + 10 := by
  rw [wPutO_eq b x h.1, List.length_append]
  have := vb_len (n := x.toNat) (by omega)
  omega
theorem wPut2O_len (b : Sl Int) (x y : Int) (h : (0 ≤ x ∧ x < 18446744073709551616) ∧ 0 ≤ y ∧ y < 18446744073709551616) : (wPut2O b x y).length ≤ b.D.length + 20 := by
  rw [wPut2O_eq b x y h.1.1 h.2.1]
  have h1 := vb_len (n := x.toNat) (by omega)
  have h2 := vb_len (n := y.toNat) (by omega)
  rw [List.length_append, List.length_append]; omega
theorem vbs_len : ∀ {l : List Int}, (∀ x ∈ l, 0 ≤ x ∧ x < 18446744073709551616) → (vbs l).length ≤ 10 * l.length
  | [], _ => Nat.le_refl _
  | x :: l, h => by
    have hx := h x (List.mem_cons_self ..)
    have h1 := vb_len (n := x.toNat) (by omega)
    have := vbs_len (l := l) fun y hy => h y (List.mem_cons_of_mem _ hy)
    show (vb x.toNat ++ vbs l).length ≤ _
    rw [List.length_append, List.length_cons]; omega
theorem rPutO_len (b l : Sl Int) (h : ∀ x ∈ l.D, 0 ≤ x ∧ x < 18446744073709551616) : (rPutO b l).length ≤ b.D.length + 10 * l.D.length := by
  rw [rPutO_eq b l h, List.length_append]
  have := vbs_len h
  omega
def U64 (x : Int) : Prop := 0 ≤ x ∧ x < 18446744073709551616
theorem rng1 {x : Int} (h : U64 x) : ∀ y ∈ [x], 0 ≤ y ∧ y < 18446744073709551616 := fun y hy => by rw [List.mem_singleton.1 hy]; exact h
theorem rng2 {x z : Int} (h : U64 x) (h' : U64 z) : ∀ y ∈ [x, z], 0 ≤ y ∧ y < 18446744073709551616 := fun y hy => by
  rcases List.mem_cons.1 hy with rfl | hy
  · exact h
  · exact rng1 h' y hy
theorem vb_B8 : ∀ n : Nat, ∀ x ∈ vb n, 0 ≤ x ∧ x < 256 := fun n => by
  induction n using Nat.strongRecOn with
  | ind n ih =>
    intro x hx
    rcases Nat.lt_or_ge n 128 with h | h
    · rw [vb_lt h, List.mem_singleton] at hx; omega
    · rw [vb_ge h] at hx
      rcases List.mem_cons.1 hx with rfl | hx
      · omega
      · exact ih _ (by omega) x hx
theorem vbs_B8 : ∀ l : List Int, ∀ x ∈ vbs l, 0 ≤ x ∧ x < 256
  | [], x, h => nomatch h
  | y :: l, x, h => by
    rcases List.mem_append.1 (show x ∈ vb y.toNat ++ vbs l from h) with h | h
    · exact vb_B8 _ x h
    · exact vbs_B8 l x h
theorem rPutO_B8 {b l : Sl Int} (hb : B8 b.D) (h : ∀ x ∈ l.D, 0 ≤ x ∧ x < 18446744073709551616) : B8 (rPutO b l) := by
  rw [rPutO_eq b l h]
  intro x hx
  rcases List.mem_append.1 hx with hx | hx
  · exact hb x hx
  · exact vbs_B8 _ x hx
theorem R8l_of {D : List Int} (h : B8 D) : R8l D := fun s => by
  rw [List.getD_eq_getElem?_getD]
  cases e : D[s]? with
  | none => exact ⟨Int.le_refl 0, (by decide : (0 : Int) < 256)⟩
  | some x => exact h x (List.mem_of_getElem? e)
theorem wrapU64 (x : Int) : U64 (IntKind.u64.wrap x) := ⟨wrap_nn64 _, wrap_lt64 _⟩
theorem tShortR_calls (key b : Sl Int) (n_ : Nat) (tt_ : Bool) (hn_ : n_ = b.D.length) (hl : b.D.length ≤ 1000000) : MCalls Tryd.prog 54 [sS (some key.nil) (eI .u8) key.D, .sl 0 0 n_ 1 tt_] (.cells (encC (eI .u8) b.D)) (.tup [.pv (.lit (.int .u64 ((tShort key b).1))), .pv (.lit (.int .i64 ((tShort key b).2)))]) (.cells (encC (eI .u8) b.D)) := by
  subst hn_
  exact MCalls.of_PCalls (ps := encL (eI .u8) b.D) (tShort_calls key (Sl.mk false b.D) hl) ⟨.inl rfl, .inr ⟨_, _, _, rfl, rfl⟩, trivial⟩ rfl rfl
theorem rOfR_calls (key b : Sl Int) (n_ : Nat) (tt_ : Bool) (hn_ : n_ = b.D.length) (hk : R8l key.D) (hb : R8l b.D) (hl : b.D.length ≤ 1000000) : MCalls Tryd.prog 36 [sS (some key.nil) (eI .u8) key.D, .sl 0 0 n_ 1 tt_] (.cells (encC (eI .u8) b.D)) (.tup [.agg (cI .u8 (tb 16 (rOf key b).1)), .pv (.lit (.int .i64 ((rOf key b).2)))]) (.cells (encC (eI .u8) b.D)) := by
  subst hn_
  exact MCalls.of_PCalls (ps := encL (eI .u8) b.D) (rOf_calls key (Sl.mk false b.D) hk hb hl) ⟨.inl rfl, .inr ⟨_, _, _, rfl, rfl⟩, trivial⟩ rfl rfl
def bodyO_l0 : List Seen → Nat → (List Int) → List Int
  | [], _, b => b
  | x :: xs, i, b => bodyO_l0 xs (i + 1) (wPut2O (Sl.mk false b) (word x.key) (IntKind.u64.wrap x.ver))
def bodyO (l : (Sl Seen)) : List Int :=
  bodyO_l0 l.D 0 (wPutO (Sl.mk true []) (IntKind.u64.wrap (l.D.length : Int)))
theorem bodyO_calls (l : (Sl Seen)) (hl1 : l.D.length ≤ 1000) : OCalls Tryd.prog 33 [sS (some l.nil) eSeen l.D] (.sl 0 0 (bodyO l).length 1 false) (.cells (encC (eI .u8) (bodyO l))) := by
 generalize hR : bodyO l = R
 refine OCalls.of_body tabOk Tryd.func33 rfl rfl rfl rfl rfl (encC_within _ _) mixed fun E hP C hI => ?_
 refine Awp.consP C ?_
 refine rvP C (sS (some true) (eI .u8) []) ?_
 refine rvc_nil ?_
 refine Awp.cons C (fun _ => .quiet) (by kernel_rfl) ?_
 refine rvP C (sS (some l.nil) eSeen l.D) ?_
 refine rvP C (.pv (.lit (.int .i64 (l.D.length : Int)))) ?_
 refine rvP C (.pv (.lit (.int .u64 (IntKind.u64.wrap (l.D.length : Int))))) ?_
 refine rvc_un (rexec_buildSliceF C (eI .u64) [(IntKind.u64.wrap (l.D.length : Int))] rfl rfl rfl rfl rfl rfl rfl (by decide) rfl ?_)
 refine rvc_un (rexec_callO hP C rfl rfl rfl rfl (wPutO_calls (Sl.mk true []) (IntKind.u64.wrap (l.D.length : Int)) (wrap_lt64 _) (by simp)) ?_)
 refine rvP C (.sl 10 0 ((wPutO (Sl.mk true []) (IntKind.u64.wrap (l.D.length : Int))).length) 1 false) ?_
 refine rvc_nil ?_
 refine Awp.seq ?_
 refine Awp.consP C ?_
 refine rvP C (sS (some l.nil) eSeen l.D) ?_
 refine rvP C (.pv (.lit (.int .i64 (l.D.length : Int)))) ?_
 refine rvP C (.pv (.lit (.int .i64 0))) ?_
 refine rvc_nil ?_
 refine Awp.block ?_
 refine Awp.forR (σ := ((List Int))) (l.D.length) (fun i v => [(3, .sl 900 0 v.length 1 false), (11, sS (some l.nil) eSeen l.D), (12, .pv (.lit (.int .i64 (l.D.length : Int)))), (13, .pv (.lit (.int .i64 (i : Int))))]) (fun i v => [(900, .cells (encC (eI .u8) v))]) [900] (fun i v => (bodyO_l0 (l.D.drop i) i v = R) ∧ (v.length ≤ (wPutO (Sl.mk true []) (IntKind.u64.wrap (l.D.length : Int))).length + i * 20)) (wPutO (Sl.mk true []) (IntKind.u64.wrap (l.D.length : Int))) ?_ ?_ (fun i b h1 hR => ?_)
 · exact ⟨hR, (by first | (simp only [Nat.zero_mul, Nat.add_zero, Nat.le_refl]; done) | (have := wPut2O_len (Sl.mk false b) (word x.key) (IntKind.u64.wrap x.ver) ⟨word_ok _, wrap_nn64 _, wrap_lt64 _⟩; dsimp only at this; omega) | omega)⟩
 · exact ⟨fun b => bif b == 900 then 10 else (fun b => b) b, WeakerR.ofL (Ks := [900]) hI ⟨⟨rfl, rfl⟩, ⟨rfl, rfl⟩, ⟨rfl, rfl⟩, ⟨rfl, rfl⟩, trivial⟩ (okH_list rfl rfl rfl (okH_nil)) rfl⟩
 obtain ⟨hR, hi_b⟩ := hR
 replace hi_b : b.length ≤ (wPutO (Sl.mk true []) (IntKind.u64.wrap (l.D.length : Int))).length + i * 20 := hi_b
 have hw0_ := wPutO_len (Sl.mk true []) (IntKind.u64.wrap (l.D.length : Int)) ⟨wrap_nn64 _, wrap_lt64 _⟩
 dsimp only [List.length_nil] at hw0_
 refine Awp.consP C ?_
 refine rvP C (.pv (.lit (.bool (decide ((i : Int) < (l.D.length : Int)))))) ?_
 refine rvc_nil ?_
 refine Awp.seq ?_
 refine Awp.cond (b := (decide ((i : Int) < (l.D.length : Int)))) rfl (fun h2 => ?_) (fun h2 => ?_)
 ·
  have h3 : i < l.D.length := by have := of_decide_eq_true h2; omega
  obtain ⟨x, h4⟩ := getX h3
  rw [drop_at h4] at hR
  refine Awp.skip ?_
  refine Awp.seq ?_
  refine Awp.block ?_
  refine Awp.consP C ?_
  refine rvc_un (rexec_idxS C rfl rfl rfl rfl rfl rfl x (Int.natCast_nonneg _) h4 ?_)
  refine rvP C (.agg [.pv (.lit (.int .u8 (x.key 0))), .pv (.lit (.int .u8 (x.key 1))), .pv (.lit (.int .u8 (x.key 2))), .pv (.lit (.int .u8 (x.key 3))), .pv (.lit (.int .u8 (x.key 4))), .pv (.lit (.int .u8 (x.key 5))), .pv (.lit (.int .u8 (x.key 6))), .pv (.lit (.int .u8 (x.key 7))), .pv (.lit (.int .i64 x.ver))]) ?_
  refine rvc_un (rexec_prim C (δ := { v := .ptr 5 0, new := [(5, .cells [.pv (.lit (.int .u8 0)), .pv (.lit (.int .u8 0)), .pv (.lit (.int .u8 0)), .pv (.lit (.int .u8 0)), .pv (.lit (.int .u8 0)), .pv (.lit (.int .u8 0)), .pv (.lit (.int .u8 0)), .pv (.lit (.int .u8 0)), .pv (.lit (.int .i64 0))])] }) rfl rfl rfl rfl trivial rfl ?_)
  refine rvc_un (rexec_prim C (δ := { v := .undef, wr := [(5, some (.cells [.pv (.lit (.int .u8 (x.key 0))), .pv (.lit (.int .u8 (x.key 1))), .pv (.lit (.int .u8 (x.key 2))), .pv (.lit (.int .u8 (x.key 3))), .pv (.lit (.int .u8 (x.key 4))), .pv (.lit (.int .u8 (x.key 5))), .pv (.lit (.int .u8 (x.key 6))), .pv (.lit (.int .u8 (x.key 7))), .pv (.lit (.int .i64 x.ver))]))] }) rfl rfl rfl rfl trivial rfl ?_)
  refine rvc_nil ?_
  refine Awp.freezeW 900 (encL (eI .u8) b) ?_ [(3, sS (some false) (eI .u8) b), (5, .ptr 5 0), (11, sS (some l.nil) eSeen l.D), (12, .pv (.lit (.int .i64 (l.D.length : Int)))), (13, .pv (.lit (.int .i64 (i : Int))))] [(5, .cells [.pv (.lit (.int .u8 (x.key 0))), .pv (.lit (.int .u8 (x.key 1))), .pv (.lit (.int .u8 (x.key 2))), .pv (.lit (.int .u8 (x.key 3))), .pv (.lit (.int .u8 (x.key 4))), .pv (.lit (.int .u8 (x.key 5))), .pv (.lit (.int .u8 (x.key 6))), .pv (.lit (.int .u8 (x.key 7))), .pv (.lit (.int .i64 x.ver))])] ?_ ?_ ?_
  · rfl
  · exact ⟨⟨_, rfl, .inl (.inr ⟨_, _, _, rfl, rfl⟩)⟩, ⟨_, rfl, .inl (.inl rfl)⟩, ⟨_, rfl, .inl (.inl rfl)⟩, ⟨_, rfl, .inl (.inl rfl)⟩, ⟨_, rfl, .inl (.inl rfl)⟩, trivial⟩
  · exact ⟨⟨(by show (5 : Nat) ≠ 900; decide), .inl rfl⟩, trivial⟩
  refine Awp.region C (fun _ => .quiet) (by kernel_rfl) ?_
  refine rvP C (sS (some false) (eI .u8) b) ?_
  refine rvP C (.ptr 5 0) ?_
  refine rvP C (.agg [.pv (.lit (.int .u8 (x.key 0))), .pv (.lit (.int .u8 (x.key 1))), .pv (.lit (.int .u8 (x.key 2))), .pv (.lit (.int .u8 (x.key 3))), .pv (.lit (.int .u8 (x.key 4))), .pv (.lit (.int .u8 (x.key 5))), .pv (.lit (.int .u8 (x.key 6))), .pv (.lit (.int .u8 (x.key 7)))]) ?_
  refine rvc_un (rexec_call hP C rfl rfl rfl (word_calls x.key) ?_)
  refine rvP C (.ptr 5 8) ?_
  refine rvP C (.pv (.lit (.int .i64 x.ver))) ?_
  refine rvP C (.pv (.lit (.int .u64 (IntKind.u64.wrap x.ver)))) ?_
  refine rvc_un (rexec_buildSliceF C (eI .u64) [(word x.key), (IntKind.u64.wrap x.ver)] rfl rfl rfl rfl rfl rfl rfl (by decide) rfl ?_)
  refine rvc_un (rexec_callO hP C rfl rfl rfl rfl (wPut2O_calls (Sl.mk false b) (word x.key) (IntKind.u64.wrap x.ver) (word_ok _).2 (wrap_lt64 _) (by show b.length ≤ 1000000; omega)) ?_)
  refine rvP C (.sl 25 0 ((wPut2O (Sl.mk false b) (word x.key) (IntKind.u64.wrap x.ver)).length) 1 false) ?_
  refine rvc_nil ?_
  refine Awp.regionP C ?_
  refine rvP C (.pv (.lit (.int .i64 (IntKind.i64.wrap ((i : Int) + 1))))) ?_
  refine rvP C (.pv (.lit (.int .i64 (IntKind.i64.wrap ((i : Int) + 1))))) ?_
  refine rvc_nil ?_
  refine ⟨h3, (wPut2O (Sl.mk false b) (word x.key) (IntKind.u64.wrap x.ver)), ?_, ?_⟩
  · exact ⟨hR, (by first | (simp only [Nat.zero_mul, Nat.add_zero, Nat.le_refl]; done) | (have := wPut2O_len (Sl.mk false b) (word x.key) (IntKind.u64.wrap x.ver) ⟨word_ok _, wrap_nn64 _, wrap_lt64 _⟩; dsimp only at this; omega) | omega)⟩
  · exact ⟨fun b => bif b == 900 then 25 else (fun b => b) b, WeakerR.ofL (Ks := [900]) hI ⟨⟨rfl, rfl⟩, ⟨rfl, rfl⟩, ⟨rfl, rfl⟩, ⟨lit_cast (wrap_i64 (by omega) (by omega)), rfl⟩, trivial⟩ (okH_list rfl rfl rfl (okH_nil)) rfl⟩
 ·
  have h3 : ¬ i < l.D.length := by have := of_decide_eq_false h2; omega
  rw [drop_end h3] at hR
  refine Awp.exit ?_
  refine Awp.consP C ?_
  refine rvP C (.sl 900 0 b.length 1 false) ?_
  refine rvP C (.sl 900 0 b.length 1 false) ?_
  refine rvc_nil ?_
  refine Awp.weakenR (S := [(2, .sl 0 0 b.length 1 false)]) (H := [(0, .cells (encC (eI .u8) b))]) (U := [0]) (fun x => bif x == 0 then 900 else x) (WeakerR.ofL (Ks := [0]) hI ⟨⟨rfl, rfl⟩, trivial⟩ (okH_list rfl rfl rfl okH_nil) rfl) ?_
  refine Awp.ret ?_
  subst hR
  exact ⟨.inl rfl, rfl, rfl⟩
def markR (key : (Sl Int)) (b : (Sl Int)) : (Sl Int) × Int :=
  ((Sl.mk false ((((((([(IntKind.u8.wrap (shrI .u64 ((tShort key (Sl.mk false b.D)).1) 56))] ++ [(IntKind.u8.wrap (shrI .u64 ((tShort key (Sl.mk false b.D)).1) 48))]) ++ [(IntKind.u8.wrap (shrI .u64 ((tShort key (Sl.mk false b.D)).1) 40))]) ++ [(IntKind.u8.wrap (shrI .u64 ((tShort key (Sl.mk false b.D)).1) 32))]) ++ [(IntKind.u8.wrap (shrI .u64 ((tShort key (Sl.mk false b.D)).1) 24))]) ++ [(IntKind.u8.wrap (shrI .u64 ((tShort key (Sl.mk false b.D)).1) 16))]) ++ [(IntKind.u8.wrap (shrI .u64 ((tShort key (Sl.mk false b.D)).1) 8))]) ++ [(IntKind.u8.wrap (shrI .u64 ((tShort key (Sl.mk false b.D)).1) 0))])), (tShort key (Sl.mk false b.D)).2)
theorem markR_calls (key : (Sl Int)) (b : (Sl Int)) (n_ : Nat) (tt_ : Bool) (hn_ : n_ = b.D.length) (hl1 : b.D.length ≤ 1000000) : MCalls Tryd.prog 34 [sS (some key.nil) (eI .u8) key.D, .sl 0 0 n_ 1 tt_] (.cells (encC (eI .u8) b.D)) (.tup [sS (some (markR key b).1.nil) (eI .u8) ((markR key b).1.D), .pv (.lit (.int .i64 ((markR key b).2)))]) (.cells (encC (eI .u8) b.D)) := by
 generalize hR : markR key b = R
 subst hn_
 refine MCalls.of_body tabOk Tryd.func34 rfl rfl rfl rfl rfl (encC_within _ _) (encC_within _ _) mixed fun E hP C hI => ?_
 refine Awp.consP C ?_
 refine rvP C (sS (some true) (eI .u8) []) ?_
 refine rvP C (.pv (.lit (.int .i64 0))) ?_
 refine rvc_nil ?_
 refine Awp.cons C (fun _ => .writer) (by kernel_rfl) ?_
 refine rvP C (sS (some key.nil) (eI .u8) key.D) ?_
 refine rvP C (.sl 0 0 b.D.length 1 tt_) ?_
 refine rvc_un (rexec_callM hP C (b := 0) rfl rfl rfl (tShortR_calls key (Sl.mk false b.D) b.D.length tt_ rfl hl1) rfl rfl ?_)
 refine rvP C (.tup [.pv (.lit (.int .u64 ((tShort key (Sl.mk false b.D)).1))), .pv (.lit (.int .i64 ((tShort key (Sl.mk false b.D)).2)))]) ?_
 refine rvP C (.pv (.lit (.int .u64 ((tShort key (Sl.mk false b.D)).1)))) ?_
 refine rvP C (.pv (.lit (.int .i64 ((tShort key (Sl.mk false b.D)).2)))) ?_
 refine rvP C (.pv (.lit (.int .u64 ((tShort key (Sl.mk false b.D)).1)))) ?_
 refine rvP C (.pv (.lit (.int .i64 ((tShort key (Sl.mk false b.D)).2)))) ?_
 refine rvc_nil ?_
 refine Awp.consP C ?_
 refine rvP C (sS (some true) (eI .u8) []) ?_
 refine rvc_nil ?_
 refine Awp.seq ?_
 refine Awp.consP C ?_
 refine rvP C (.pv (.lit (.int .i64 56))) ?_
 refine rvc_nil ?_
 refine Awp.block ?_
 refine Awp.rounds 9 ?_
 refine Arounds.succ ?_
 refine Awp.seq ?_
 refine Awp.consP C ?_
 refine rvP C (.pv (.lit (.int .i64 56))) ?_
 refine rvP C (.pv (.lit (.bool true))) ?_
 refine rvc_nil ?_
 refine Awp.condT (b := true) rfl rfl ?_
 refine Awp.skip ?_
 refine Awp.seq ?_
 refine Awp.block ?_
 refine Awp.regionP C ?_
 refine rvP C (sS (some true) (eI .u8) []) ?_
 refine rvP C (.pv (.lit (.int .u64 ((tShort key (Sl.mk false b.D)).1)))) ?_
 refine rvP C (.pv (.lit (.int .i64 56))) ?_
 refine rvc_un (rexec_prim C (δ := { v := .pv (.lit (.int .u64 (shrI .u64 ((tShort key (Sl.mk false b.D)).1) 56))) }) rfl rfl rfl rfl (by first | decide | assumption | omega) rfl ?_)
 refine rvP C (.pv (.lit (.int .u8 (IntKind.u8.wrap (shrI .u64 ((tShort key (Sl.mk false b.D)).1) 56))))) ?_
 refine rvc_un (rexec_buildSliceF C (eI .u8) [(IntKind.u8.wrap (shrI .u64 ((tShort key (Sl.mk false b.D)).1) 56))] rfl rfl rfl rfl rfl rfl rfl (by decide) rfl ?_)
 refine rvc_un (rexec_appendN C rfl rfl rfl rfl rfl rfl rfl rfl (fun _ h => by cases h) rfl (en := (eI .u8)) (D := [(IntKind.u8.wrap (shrI .u64 ((tShort key (Sl.mk false b.D)).1) 56))]) rfl rfl (by simp) (by first | omega | (simp <;> omega)) (by decide) (nn := [(IntKind.u8.wrap (shrI .u64 ((tShort key (Sl.mk false b.D)).1) 56))].length) rfl ?_)
 refine rvP C (.sl 26 0 ([(IntKind.u8.wrap (shrI .u64 ((tShort key (Sl.mk false b.D)).1) 56))].length) 1 false) ?_
 refine rvc_nil ?_
 refine Awp.regionP C ?_
 refine rvP C (.pv (.lit (.int .i64 56))) ?_
 refine rvP C (.pv (.lit (.int .i64 48))) ?_
 refine rvP C (.pv (.lit (.int .i64 48))) ?_
 refine rvc_nil ?_
 refine Arounds.succ ?_
 refine Awp.weakenR (S := [(1, .sl 0 0 b.D.length 1 tt_), (6, .pv (.lit (.int .u64 ((tShort key (Sl.mk false b.D)).1)))), (7, .pv (.lit (.int .i64 ((tShort key (Sl.mk false b.D)).2)))), (8, .sl 70026 0 ([(IntKind.u8.wrap (shrI .u64 ((tShort key (Sl.mk false b.D)).1) 56))].length) 1 false), (9, .pv (.lit (.int .i64 48)))]) (H := [(0, .cells (encC (eI .u8) b.D)), (70026, .cells (encC (eI .u8) [(IntKind.u8.wrap (shrI .u64 ((tShort key (Sl.mk false b.D)).1) 56))]))]) (U := [0, 70026]) (fun x => bif x == 70026 then 26 else x) (WeakerR.ofLI (I := [0]) (Ks := [0, 70026]) hI ⟨⟨rfl, rfl⟩, ⟨rfl, rfl⟩, ⟨rfl, rfl⟩, ⟨rfl, rfl⟩, ⟨rfl, rfl⟩, trivial⟩ (okH_list rfl rfl rfl (okH_list rfl rfl rfl (okH_nil))) rfl rfl) ?_
 refine Awp.seq ?_
 refine Awp.consP C ?_
 refine rvP C (.pv (.lit (.int .i64 48))) ?_
 refine rvP C (.pv (.lit (.bool true))) ?_
 refine rvc_nil ?_
 refine Awp.condT (b := true) rfl rfl ?_
 refine Awp.skip ?_
 refine Awp.seq ?_
 refine Awp.block ?_
 refine Awp.regionP C ?_
 refine rvP C (.sl 70026 0 ([(IntKind.u8.wrap (shrI .u64 ((tShort key (Sl.mk false b.D)).1) 56))].length) 1 false) ?_
 refine rvP C (.pv (.lit (.int .u64 ((tShort key (Sl.mk false b.D)).1)))) ?_
 refine rvP C (.pv (.lit (.int .i64 48))) ?_
 refine rvc_un (rexec_prim C (δ := { v := .pv (.lit (.int .u64 (shrI .u64 ((tShort key (Sl.mk false b.D)).1) 48))) }) rfl rfl rfl rfl (by first | decide | assumption | omega) rfl ?_)
 refine rvP C (.pv (.lit (.int .u8 (IntKind.u8.wrap (shrI .u64 ((tShort key (Sl.mk false b.D)).1) 48))))) ?_
 refine rvc_un (rexec_buildSliceF C (eI .u8) [(IntKind.u8.wrap (shrI .u64 ((tShort key (Sl.mk false b.D)).1) 48))] rfl rfl rfl rfl rfl rfl rfl (by decide) rfl ?_)
 refine rvc_un (rexec_append C rfl rfl rfl rfl rfl rfl rfl rfl (fun _ h => by cases h) rfl (en := (eI .u8)) (D0 := [(IntKind.u8.wrap (shrI .u64 ((tShort key (Sl.mk false b.D)).1) 56))]) (D := [(IntKind.u8.wrap (shrI .u64 ((tShort key (Sl.mk false b.D)).1) 48))]) rfl rfl rfl rfl (by first | omega | (simp <;> omega)) (by decide) (nn := ([(IntKind.u8.wrap (shrI .u64 ((tShort key (Sl.mk false b.D)).1) 56))] ++ [(IntKind.u8.wrap (shrI .u64 ((tShort key (Sl.mk false b.D)).1) 48))]).length) (by simp) ?_)
 refine rvP C (.sl 26 0 (([(IntKind.u8.wrap (shrI .u64 ((tShort key (Sl.mk false b.D)).1) 56))] ++ [(IntKind.u8.wrap (shrI .u64 ((tShort key (Sl.mk false b.D)).1) 48))]).length) 1 false) ?_
 refine rvc_nil ?_
 refine Awp.regionP C ?_
 refine rvP C (.pv (.lit (.int .i64 48))) ?_
 refine rvP C (.pv (.lit (.int .i64 40))) ?_
 refine rvP C (.pv (.lit (.int .i64 40))) ?_
 refine rvc_nil ?_
 refine Arounds.succ ?_
 refine Awp.weakenR (S := [(1, .sl 0 0 b.D.length 1 tt_), (6, .pv (.lit (.int .u64 ((tShort key (Sl.mk false b.D)).1)))), (7, .pv (.lit (.int .i64 ((tShort key (Sl.mk false b.D)).2)))), (8, .sl 70026 0 (([(IntKind.u8.wrap (shrI .u64 ((tShort key (Sl.mk false b.D)).1) 56))] ++ [(IntKind.u8.wrap (shrI .u64 ((tShort key (Sl.mk false b.D)).1) 48))]).length) 1 false), (9, .pv (.lit (.int .i64 40)))]) (H := [(0, .cells (encC (eI .u8) b.D)), (70026, .cells (encC (eI .u8) ([(IntKind.u8.wrap (shrI .u64 ((tShort key (Sl.mk false b.D)).1) 56))] ++ [(IntKind.u8.wrap (shrI .u64 ((tShort key (Sl.mk false b.D)).1) 48))])))]) (U := [0, 70026]) (fun x => bif x == 70026 then 26 else x) (WeakerR.ofLI (I := [0]) (Ks := [0, 70026]) hI ⟨⟨rfl, rfl⟩, ⟨rfl, rfl⟩, ⟨rfl, rfl⟩, ⟨rfl, rfl⟩, ⟨rfl, rfl⟩, trivial⟩ (okH_list rfl rfl rfl (okH_list rfl rfl rfl (okH_nil))) rfl rfl) ?_
 refine Awp.seq ?_
 refine Awp.consP C ?_
 refine rvP C (.pv (.lit (.int .i64 40))) ?_
 refine rvP C (.pv (.lit (.bool true))) ?_
 refine rvc_nil ?_
 refine Awp.condT (b := true) rfl rfl ?_
 refine Awp.skip ?_
 refine Awp.seq ?_
 refine Awp.block ?_
 refine Awp.regionP C ?_
 refine rvP C (.sl 70026 0 (([(IntKind.u8.wrap (shrI .u64 ((tShort key (Sl.mk false b.D)).1) 56))] ++ [(IntKind.u8.wrap (shrI .u64 ((tShort key (Sl.mk false b.D)).1) 48))]).length) 1 false) ?_
 refine rvP C (.pv (.lit (.int .u64 ((tShort key (Sl.mk false b.D)).1)))) ?_
 refine rvP C (.pv (.lit (.int .i64 40))) ?_
 refine rvc_un (rexec_prim C (δ := { v := .pv (.lit (.int .u64 (shrI .u64 ((tShort key (Sl.mk false b.D)).1) 40))) }) rfl rfl rfl rfl (by first | decide | assumption | omega) rfl ?_)
 refine rvP C (.pv (.lit (.int .u8 (IntKind.u8.wrap (shrI .u64 ((tShort key (Sl.mk false b.D)).1) 40))))) ?_
 refine rvc_un (rexec_buildSliceF C (eI .u8) [(IntKind.u8.wrap (shrI .u64 ((tShort key (Sl.mk false b.D)).1) 40))] rfl rfl rfl rfl rfl rfl rfl (by decide) rfl ?_)
 refine rvc_un (rexec_append C rfl rfl rfl rfl rfl rfl rfl rfl (fun _ h => by cases h) rfl (en := (eI .u8)) (D0 := ([(IntKind.u8.wrap (shrI .u64 ((tShort key (Sl.mk false b.D)).1) 56))] ++ [(IntKind.u8.wrap (shrI .u64 ((tShort key (Sl.mk false b.D)).1) 48))])) (D := [(IntKind.u8.wrap (shrI .u64 ((tShort key (Sl.mk false b.D)).1) 40))]) rfl rfl rfl rfl (by first | omega | (simp <;> omega)) (by decide) (nn := (([(IntKind.u8.wrap (shrI .u64 ((tShort key (Sl.mk false b.D)).1) 56))] ++ [(IntKind.u8.wrap (shrI .u64 ((tShort key (Sl.mk false b.D)).1) 48))]) ++ [(IntKind.u8.wrap (shrI .u64 ((tShort key (Sl.mk false b.D)).1) 40))]).length) (by simp) ?_)
 refine rvP C (.sl 26 0 ((([(IntKind.u8.wrap (shrI .u64 ((tShort key (Sl.mk false b.D)).1) 56))] ++ [(IntKind.u8.wrap (shrI .u64 ((tShort key (Sl.mk false b.D)).1) 48))]) ++ [(IntKind.u8.wrap (shrI .u64 ((tShort key (Sl.mk false b.D)).1) 40))]).length) 1 false) ?_
 refine rvc_nil ?_
 refine Awp.regionP C ?_
 refine rvP C (.pv (.lit (.int .i64 40))) ?_
 refine rvP C (.pv (.lit (.int .i64 32))) ?_
 refine rvP C (.pv (.lit (.int .i64 32))) ?_
 refine rvc_nil ?_
 refine Arounds.succ ?_
 refine Awp.weakenR (S := [(1, .sl 0 0 b.D.length 1 tt_), (6, .pv (.lit (.int .u64 ((tShort key (Sl.mk false b.D)).1)))), (7, .pv (.lit (.int .i64 ((tShort key (Sl.mk false b.D)).2)))), (8, .sl 70026 0 ((([(IntKind.u8.wrap (shrI .u64 ((tShort key (Sl.mk false b.D)).1) 56))] ++ [(IntKind.u8.wrap (shrI .u64 ((tShort key (Sl.mk false b.D)).1) 48))]) ++ [(IntKind.u8.wrap (shrI .u64 ((tShort key (Sl.mk false b.D)).1) 40))]).length) 1 false), (9, .pv (.lit (.int .i64 32)))]) (H := [(0, .cells (encC (eI .u8) b.D)), (70026, .cells (encC (eI .u8) (([(IntKind.u8.wrap (shrI .u64 ((tShort key (Sl.mk false b.D)).1) 56))] ++ [(IntKind.u8.wrap (shrI .u64 ((tShort key (Sl.mk false b.D)).1) 48))]) ++ [(IntKind.u8.wrap (shrI .u64 ((tShort key (Sl.mk false b.D)).1) 40))])))]) (U := [0, 70026]) (fun x => bif x == 70026 then 26 else x) (WeakerR.ofLI (I := [0]) (Ks := [0, 70026]) hI ⟨⟨rfl, rfl⟩, ⟨rfl, rfl⟩, ⟨rfl, rfl⟩, ⟨rfl, rfl⟩, ⟨rfl, rfl⟩, trivial⟩ (okH_list rfl rfl rfl (okH_list rfl rfl rfl (okH_nil))) rfl rfl) ?_
 refine Awp.seq ?_
 refine Awp.consP C ?_
 refine rvP C (.pv (.lit (.int .i64 32))) ?_
 refine rvP C (.pv (.lit (.bool true))) ?_
 refine rvc_nil ?_
 refine Awp.condT (b := true) rfl rfl ?_
 refine Awp.skip ?_
 refine Awp.seq ?_
 refine Awp.block ?_
 refine Awp.regionP C ?_
 refine rvP C (.sl 70026 0 ((([(IntKind.u8.wrap (shrI .u64 ((tShort key (Sl.mk false b.D)).1) 56))] ++ [(IntKind.u8.wrap (shrI .u64 ((tShort key (Sl.mk false b.D)).1) 48))]) ++ [(IntKind.u8.wrap (shrI .u64 ((tShort key (Sl.mk false b.D)).1) 40))]).length) 1 false) ?_
 refine rvP C (.pv (.lit (.int .u64 ((tShort key (Sl.mk false b.D)).1)))) ?_
 refine rvP C (.pv (.lit (.int .i64 32))) ?_
 refine rvc_un (rexec_prim C (δ := { v := .pv (.lit (.int .u64 (shrI .u64 ((tShort key (Sl.mk false b.D)).1) 32))) }) rfl rfl rfl rfl (by first | decide | assumption | omega) rfl ?_)
 refine rvP C (.pv (.lit (.int .u8 (IntKind.u8.wrap (shrI .u64 ((tShort key (Sl.mk false b.D)).1) 32))))) ?_
 refine rvc_un (rexec_buildSliceF C (eI .u8) [(IntKind.u8.wrap (shrI .u64 ((tShort key (Sl.mk false b.D)).1) 32))] rfl rfl rfl rfl rfl rfl rfl (by decide) rfl ?_)
 refine rvc_un (rexec_append C rfl rfl rfl rfl rfl rfl rfl rfl (fun _ h => by cases h) rfl (en := (eI .u8)) (D0 := (([(IntKind.u8.wrap (shrI .u64 ((tShort key (Sl.mk false b.D)).1) 56))] ++ [(IntKind.u8.wrap (shrI .u64 ((tShort key (Sl.mk false b.D)).1) 48))]) ++ [(IntKind.u8.wrap (shrI .u64 ((tShort key (Sl.mk false b.D)).1) 40))])) (D := [(IntKind.u8.wrap (shrI .u64 ((tShort key (Sl.mk false b.D)).1) 32))]) rfl rfl rfl rfl (by first | omega | (simp <;> omega)) (by decide) (nn := ((([(IntKind.u8.wrap (shrI .u64 ((tShort key (Sl.mk false b.D)).1) 56))] ++ [(IntKind.u8.wrap (shrI .u64 ((tShort key (Sl.mk false b.D)).1) 48))]) ++ [(IntKind.u8.wrap (shrI .u64 ((tShort key (Sl.mk false b.D)).1) 40))]) ++ [(IntKind.u8.wrap (shrI .u64 ((tShort key (Sl.mk false b.D)).1) 32))]).length) (by simp) ?_)
 refine rvP C (.sl 26 0 (((([(IntKind.u8.wrap (shrI .u64 ((tShort key (Sl.mk false b.D)).1) 56))] ++ [(IntKind.u8.wrap (shrI .u64 ((tShort key (Sl.mk false b.D)).1) 48))]) ++ [(IntKind.u8.wrap (shrI .u64 ((tShort key (Sl.mk false b.D)).1) 40))]) ++ [(IntKind.u8.wrap (shrI .u64 ((tShort key (Sl.mk false b.D)).1) 32))]).length) 1 false) ?_
 refine rvc_nil ?_
 refine Awp.regionP C ?_
 refine rvP C (.pv (.lit (.int .i64 32))) ?_
 refine rvP C (.pv (.lit (.int .i64 24))) ?_
 refine rvP C (.pv (.lit (.int .i64 24))) ?_
 refine rvc_nil ?_
 refine Arounds.succ ?_
 refine Awp.weakenR (S := [(1, .sl 0 0 b.D.length 1 tt_), (6, .pv (.lit (.int .u64 ((tShort key (Sl.mk false b.D)).1)))), (7, .pv (.lit (.int .i64 ((tShort key (Sl.mk false b.D)).2)))), (8, .sl 70026 0 (((([(IntKind.u8.wrap (shrI .u64 ((tShort key (Sl.mk false b.D)).1) 56))] ++ [(IntKind.u8.wrap (shrI .u64 ((tShort key (Sl.mk false b.D)).1) 48))]) ++ [(IntKind.u8.wrap (shrI .u64 ((tShort key (Sl.mk false b.D)).1) 40))]) ++ [(IntKind.u8.wrap (shrI .u64 ((tShort key (Sl.mk false b.D)).1) 32))]).length) 1 false), (9, .pv (.lit (.int .i64 24)))]) (H := [(0, .cells (encC (eI .u8) b.D)), (70026, .cells (encC (eI .u8) ((([(IntKind.u8.wrap (shrI .u64 ((tShort key (Sl.mk false b.D)).1) 56))] ++ [(IntKind.u8.wrap (shrI .u64 ((tShort key (Sl.mk false b.D)).1) 48))]) ++ [(IntKind.u8.wrap (shrI .u64 ((tShort key (Sl.mk false b.D)).1) 40))]) ++ [(IntKind.u8.wrap (shrI .u64 ((tShort key (Sl.mk false b.D)).1) 32))])))]) (U := [0, 70026]) (fun x => bif x == 70026 then 26 else x) (WeakerR.ofLI (I := [0]) (Ks := [0, 70026]) hI ⟨⟨rfl, rfl⟩, ⟨rfl, rfl⟩, ⟨rfl, rfl⟩, ⟨rfl, rfl⟩, ⟨rfl, rfl⟩, trivial⟩ (okH_list rfl rfl rfl (okH_list rfl rfl rfl (okH_nil))) rfl rfl) ?_
 refine Awp.seq ?_
 refine Awp.consP C ?_
 refine rvP C (.pv (.lit (.int .i64 24))) ?_
 refine rvP C (.pv (.lit (.bool true))) ?_
 refine rvc_nil ?_
 refine Awp.condT (b := true) rfl rfl ?_
 refine Awp.skip ?_
 refine Awp.seq ?_
 refine Awp.block ?_
 refine Awp.regionP C ?_
 refine rvP C (.sl 70026 0 (((([(IntKind.u8.wrap (shrI .u64 ((tShort key (Sl.mk false b.D)).1) 56))] ++ [(IntKind.u8.wrap (shrI .u64 ((tShort key (Sl.mk false b.D)).1) 48))]) ++ [(IntKind.u8.wrap (shrI .u64 ((tShort key (Sl.mk false b.D)).1) 40))]) ++ [(IntKind.u8.wrap (shrI .u64 ((tShort key (Sl.mk false b.D)).1) 32))]).length) 1 false) ?_
 refine rvP C (.pv (.lit (.int .u64 ((tShort key (Sl.mk false b.D)).1)))) ?_
 refine rvP C (.pv (.lit (.int .i64 24))) ?_
 refine rvc_un (rexec_prim C (δ := { v := .pv (.lit (.int .u64 (shrI .u64 ((tShort key (Sl.mk false b.D)).1) 24))) }) rfl rfl rfl rfl (by first | decide | assumption | omega) rfl ?_)
 refine rvP C (.pv (.lit (.int .u8 (IntKind.u8.wrap (shrI .u64 ((tShort key (Sl.mk false b.D)).1) 24))))) ?_
 refine rvc_un (rexec_buildSliceF C (eI .u8) [(IntKind.u8.wrap (shrI .u64 ((tShort key (Sl.mk false b.D)).1) 24))] rfl rfl rfl rfl rfl rfl rfl (by decide) rfl ?_)
 refine rvc_un (rexec_append C rfl rfl rfl rfl rfl rfl rfl rfl (fun _ h => by cases h) rfl (en := (eI .u8)) (D0 := ((([(IntKind.u8.wrap (shrI .u64 ((tShort key (Sl.mk false b.D)).1) 56))] ++ [(IntKind.u8.wrap (shrI .u64 ((tShort key (Sl.mk false b.D)).1) 48))]) ++ [(IntKind.u8.wrap (shrI .u64 ((tShort key (Sl.mk false b.D)).1) 40))]) ++ [(IntKind.u8.wrap (shrI .u64 ((tShort key (Sl.mk false b.D)).1) 32))])) (D := [(IntKind.u8.wrap (shrI .u64 ((tShort key (Sl.mk false b.D)).1) 24))]) rfl rfl rfl rfl (by first | omega | (simp <;> omega)) (by decide) (nn := (((([(IntKind.u8.wrap (shrI .u64 ((tShort key (Sl.mk false b.D)).1) 56))] ++ [(IntKind.u8.wrap (shrI .u64 ((tShort key (Sl.mk false b.D)).1) 48))]) ++ [(IntKind.u8.wrap (shrI .u64 ((tShort key (Sl.mk false b.D)).1) 40))]) ++ [(IntKind.u8.wrap (shrI .u64 ((tShort key (Sl.mk false b.D)).1) 32))]) ++ [(IntKind.u8.wrap (shrI .u64 ((tShort key (Sl.mk false b.D)).1) 24))]).length) (by simp) ?_)
 refine rvP C (.sl 26 0 ((((([(IntKind.u8.wrap (shrI .u64 ((tShort key (Sl.mk false b.D)).1) 56))] ++ [(IntKind.u8.wrap (shrI .u64 ((tShort key (Sl.mk false b.D)).1) 48))]) ++ [(IntKind.u8.wrap (shrI .u64 ((tShort key (Sl.mk false b.D)).1) 40))]) ++ [(IntKind.u8.wrap (shrI .u64 ((tShort key (Sl.mk false b.D)).1) 32))]) ++ [(IntKind.u8.wrap (shrI .u64 ((tShort key (Sl.mk false b.D)).1) 24))]).length) 1 false) ?_
 refine rvc_nil ?_
 refine Awp.regionP C ?_
 refine rvP C (.pv (.lit (.int .i64 24))) ?_
 refine rvP C (.pv (.lit (.int .i64 16))) ?_
 refine rvP C (.pv (.lit (.int .i64 16))) ?_
 refine rvc_nil ?_
 refine Arounds.succ ?_
 refine Awp.weakenR (S := [(1, .sl 0 0 b.D.length 1 tt_), (6, .pv (.lit (.int .u64 ((tShort key (Sl.mk false b.D)).1)))), (7, .pv (.lit (.int .i64 ((tShort key (Sl.mk false b.D)).2)))), (8, .sl 70026 0 ((((([(IntKind.u8.wrap (shrI .u64 ((tShort key (Sl.mk false b.D)).1) 56))] ++ [(IntKind.u8.wrap (shrI .u64 ((tShort key (Sl.mk false b.D)).1) 48))]) ++ [(IntKind.u8.wrap (shrI .u64 ((tShort key (Sl.mk false b.D)).1) 40))]) ++ [(IntKind.u8.wrap (shrI .u64 ((tShort key (Sl.mk false b.D)).1) 32))]) ++ [(IntKind.u8.wrap (shrI .u64 ((tShort key (Sl.mk false b.D)).1) 24))]).length) 1 false), (9, .pv (.lit (.int .i64 16)))]) (H := [(0, .cells (encC (eI .u8) b.D)), (70026, .cells (encC (eI .u8) (((([(IntKind.u8.wrap (shrI .u64 ((tShort key (Sl.mk false b.D)).1) 56))] ++ [(IntKind.u8.wrap (shrI .u64 ((tShort key (Sl.mk false b.D)).1) 48))]) ++ [(IntKind.u8.wrap (shrI .u64 ((tShort key (Sl.mk false b.D)).1) 40))]) ++ [(IntKind.u8.wrap (shrI .u64 ((tShort key (Sl.mk false b.D)).1) 32))]) ++ [(IntKind.u8.wrap (shrI .u64 ((tShort key (Sl.mk false b.D)).1) 24))])))]) (U := [0, 70026]) (fun x => bif x == 70026 then 26 else x) (WeakerR.ofLI (I := [0]) (Ks := [0, 70026]) hI ⟨⟨rfl, rfl⟩, ⟨rfl, rfl⟩, ⟨rfl, rfl⟩, ⟨rfl, rfl⟩, ⟨rfl, rfl⟩, trivial⟩ (okH_list rfl rfl rfl (okH_list rfl rfl rfl (okH_nil))) rfl rfl) ?_
 refine Awp.seq ?_
 refine Awp.consP C ?_
 refine rvP C (.pv (.lit (.int .i64 16))) ?_
 refine rvP C (.pv (.lit (.bool true))) ?_
 refine rvc_nil ?_
 refine Awp.condT (b := true) rfl rfl ?_
 refine Awp.skip ?_
 refine Awp.seq ?_
 refine Awp.block ?_
 refine Awp.regionP C ?_
 refine rvP C (.sl 70026 0 ((((([(IntKind.u8.wrap (shrI .u64 ((tShort key (Sl.mk false b.D)).1) 56))] ++ [(IntKind.u8.wrap (shrI .u64 ((tShort key (Sl.mk false b.D)).1) 48))]) ++ [(IntKind.u8.wrap (shrI .u64 ((tShort key (Sl.mk false b.D)).1) 40))]) ++ [(IntKind.u8.wrap (shrI .u64 ((tShort key (Sl.mk false b.D)).1) 32))]) ++ [(IntKind.u8.wrap (shrI .u64 ((tShort key (Sl.mk false b.D)).1) 24))]).length) 1 false) ?_
 refine rvP C (.pv (.lit (.int .u64 ((tShort key (Sl.mk false b.D)).1)))) ?_
 refine rvP C (.pv (.lit (.int .i64 16))) ?_
 refine rvc_un (rexec_prim C (δ := { v := .pv (.lit (.int .u64 (shrI .u64 ((tShort key (Sl.mk false b.D)).1) 16))) }) rfl rfl rfl rfl (by first | decide | assumption | omega) rfl ?_)
 refine rvP C (.pv (.lit (.int .u8 (IntKind.u8.wrap (shrI .u64 ((tShort key (Sl.mk false b.D)).1) 16))))) ?_
 refine rvc_un (rexec_buildSliceF C (eI .u8) [(IntKind.u8.wrap (shrI .u64 ((tShort key (Sl.mk false b.D)).1) 16))] rfl rfl rfl rfl rfl rfl rfl (by decide) rfl ?_)
 refine rvc_un (rexec_append C rfl rfl rfl rfl rfl rfl rfl rfl (fun _ h => by cases h) rfl (en := (eI .u8)) (D0 := (((([(IntKind.u8.wrap (shrI .u64 ((tShort key (Sl.mk false b.D)).1) 56))] ++ [(IntKind.u8.wrap (shrI .u64 ((tShort key (Sl.mk false b.D)).1) 48))]) ++ [(IntKind.u8.wrap (shrI .u64 ((tShort key (Sl.mk false b.D)).1) 40))]) ++ [(IntKind.u8.wrap (shrI .u64 ((tShort key (Sl.mk false b.D)).1) 32))]) ++ [(IntKind.u8.wrap (shrI .u64 ((tShort key (Sl.mk false b.D)).1) 24))])) (D := [(IntKind.u8.wrap (shrI .u64 ((tShort key (Sl.mk false b.D)).1) 16))]) rfl rfl rfl rfl (by first | omega | (simp <;> omega)) (by decide) (nn := ((((([(IntKind.u8.wrap (shrI .u64 ((tShort key (Sl.mk false b.D)).1) 56))] ++ [(IntKind.u8.wrap (shrI .u64 ((tShort key (Sl.mk false b.D)).1) 48))]) ++ [(IntKind.u8.wrap (shrI .u64 ((tShort key (Sl.mk false b.D)).1) 40))]) ++ [(IntKind.u8.wrap (shrI .u64 ((tShort key (Sl.mk false b.D)).1) 32))]) ++ [(IntKind.u8.wrap (shrI .u64 ((tShort key (Sl.mk false b.D)).1) 24))]) ++ [(IntKind.u8.wrap (shrI .u64 ((tShort key (Sl.mk false b.D)).1) 16))]).length) (by simp) ?_)
 refine rvP C (.sl 26 0 (((((([(IntKind.u8.wrap (shrI .u64 ((tShort key (Sl.mk false b.D)).1) 56))] ++ [(IntKind.u8.wrap (shrI .u64 ((tShort key (Sl.mk false b.D)).1) 48))]) ++ [(IntKind.u8.wrap (shrI .u64 ((tShort key (Sl.mk false b.D)).1) 40))]) ++ [(IntKind.u8.wrap (shrI .u64 ((tShort key (Sl.mk false b.D)).1) 32))]) ++ [(IntKind.u8.wrap (shrI .u64 ((tShort key (Sl.mk false b.D)).1) 24))]) ++ [(IntKind.u8.wrap (shrI .u64 ((tShort key (Sl.mk false b.D)).1) 16))]).length) 1 false) ?_
 refine rvc_nil ?_
 refine Awp.regionP C ?_
 refine rvP C (.pv (.lit (.int .i64 16))) ?_
 refine rvP C (.pv (.lit (.int .i64 8))) ?_
 refine rvP C (.pv (.lit (.int .i64 8))) ?_
 refine rvc_nil ?_
 refine Arounds.succ ?_
 refine Awp.weakenR (S := [(1, .sl 0 0 b.D.length 1 tt_), (6, .pv (.lit (.int .u64 ((tShort key (Sl.mk false b.D)).1)))), (7, .pv (.lit (.int .i64 ((tShort key (Sl.mk false b.D)).2)))), (8, .sl 70026 0 (((((([(IntKind.u8.wrap (shrI .u64 ((tShort key (Sl.mk false b.D)).1) 56))] ++ [(IntKind.u8.wrap (shrI .u64 ((tShort key (Sl.mk false b.D)).1) 48))]) ++ [(IntKind.u8.wrap (shrI .u64 ((tShort key (Sl.mk false b.D)).1) 40))]) ++ [(IntKind.u8.wrap (shrI .u64 ((tShort key (Sl.mk false b.D)).1) 32))]) ++ [(IntKind.u8.wrap (shrI .u64 ((tShort key (Sl.mk false b.D)).1) 24))]) ++ [(IntKind.u8.wrap (shrI .u64 ((tShort key (Sl.mk false b.D)).1) 16))]).length) 1 false), (9, .pv (.lit (.int .i64 8)))]) (H := [(0, .cells (encC (eI .u8) b.D)), (70026, .cells (encC (eI .u8) ((((([(IntKind.u8.wrap (shrI .u64 ((tShort key (Sl.mk false b.D)).1) 56))] ++ [(IntKind.u8.wrap (shrI .u64 ((tShort key (Sl.mk false b.D)).1) 48))]) ++ [(IntKind.u8.wrap (shrI .u64 ((tShort key (Sl.mk false b.D)).1) 40))]) ++ [(IntKind.u8.wrap (shrI .u64 ((tShort key (Sl.mk false b.D)).1) 32))]) ++ [(IntKind.u8.wrap (shrI .u64 ((tShort key (Sl.mk false b.D)).1) 24))]) ++ [(IntKind.u8.wrap (shrI .u64 ((tShort key (Sl.mk false b.D)).1) 16))])))]) (U := [0, 70026]) (fun x => bif x == 70026 then 26 else x) (WeakerR.ofLI (I := [0]) (Ks := [0, 70026]) hI ⟨⟨rfl, rfl⟩, ⟨rfl, rfl⟩, ⟨rfl, rfl⟩, ⟨rfl, rfl⟩, ⟨rfl, rfl⟩, trivial⟩ (okH_list rfl rfl rfl (okH_list rfl rfl rfl (okH_nil))) rfl rfl) ?_
 refine Awp.seq ?_
 refine Awp.consP C ?_
 refine rvP C (.pv (.lit (.int .i64 8))) ?_
 refine rvP C (.pv (.lit (.bool true))) ?_
 refine rvc_nil ?_
 refine Awp.condT (b := true) rfl rfl ?_
 refine Awp.skip ?_
 refine Awp.seq ?_
 refine Awp.block ?_
 refine Awp.regionP C ?_
 refine rvP C (.sl 70026 0 (((((([(IntKind.u8.wrap (shrI .u64 ((tShort key (Sl.mk false b.D)).1) 56))] ++ [(IntKind.u8.wrap (shrI .u64 ((tShort key (Sl.mk false b.D)).1) 48))]) ++ [(IntKind.u8.wrap (shrI .u64 ((tShort key (Sl.mk false b.D)).1) 40))]) ++ [(IntKind.u8.wrap (shrI .u64 ((tShort key (Sl.mk false b.D)).1) 32))]) ++ [(IntKind.u8.wrap (shrI .u64 ((tShort key (Sl.mk false b.D)).1) 24))]) ++ [(IntKind.u8.wrap (shrI .u64 ((tShort key (Sl.mk false b.D)).1) 16))]).length) 1 false) ?_
 refine rvP C (.pv (.lit (.int .u64 ((tShort key (Sl.mk false b.D)).1)))) ?_
 refine rvP C (.pv (.lit (.int .i64 8))) ?_
 refine rvc_un (rexec_prim C (δ := { v := .pv (.lit (.int .u64 (shrI .u64 ((tShort key (Sl.mk false b.D)).1) 8))) }) rfl rfl rfl rfl (by first | decide | assumption | omega) rfl ?_)
 refine rvP C (.pv (.lit (.int .u8 (IntKind.u8.wrap (shrI .u64 ((tShort key (Sl.mk false b.D)).1) 8))))) ?_
 refine rvc_un (rexec_buildSliceF C (eI .u8) [(IntKind.u8.wrap (shrI .u64 ((tShort key (Sl.mk false b.D)).1) 8))] rfl rfl rfl rfl rfl rfl rfl (by decide) rfl ?_)
 refine rvc_un (rexec_append C rfl rfl rfl rfl rfl rfl rfl rfl (fun _ h => by cases h) rfl (en := (eI .u8)) (D0 := ((((([(IntKind.u8.wrap (shrI .u64 ((tShort key (Sl.mk false b.D)).1) 56))] ++ [(IntKind.u8.wrap (shrI .u64 ((tShort key (Sl.mk false b.D)).1) 48))]) ++ [(IntKind.u8.wrap (shrI .u64 ((tShort key (Sl.mk false b.D)).1) 40))]) ++ [(IntKind.u8.wrap (shrI .u64 ((tShort key (Sl.mk false b.D)).1) 32))]) ++ [(IntKind.u8.wrap (shrI .u64 ((tShort key (Sl.mk false b.D)).1) 24))]) ++ [(IntKind.u8.wrap (shrI .u64 ((tShort key (Sl.mk false b.D)).1) 16))])) (D := [(IntKind.u8.wrap (shrI .u64 ((tShort key (Sl.mk false b.D)).1) 8))]) rfl rfl rfl rfl (by first | omega | (simp <;> omega)) (by decide) (nn := (((((([(IntKind.u8.wrap (shrI .u64 ((tShort key (Sl.mk false b.D)).1) 56))] ++ [(IntKind.u8.wrap (shrI .u64 ((tShort key (Sl.mk false b.D)).1) 48))]) ++ [(IntKind.u8.wrap (shrI .u64 ((tShort key (Sl.mk false b.D)).1) 40))]) ++ [(IntKind.u8.wrap (shrI .u64 ((tShort key (Sl.mk false b.D)).1) 32))]) ++ [(IntKind.u8.wrap (shrI .u64 ((tShort key (Sl.mk false b.D)).1) 24))]) ++ [(IntKind.u8.wrap (shrI .u64 ((tShort key (Sl.mk false b.D)).1) 16))]) ++ [(IntKind.u8.wrap (shrI .u64 ((tShort key (Sl.mk false b.D)).1) 8))]).length) (by simp) ?_)
 refine rvP C (.sl 26 0 ((((((([(IntKind.u8.wrap (shrI .u64 ((tShort key (Sl.mk false b.D)).1) 56))] ++ [(IntKind.u8.wrap (shrI .u64 ((tShort key (Sl.mk false b.D)).1) 48))]) ++ [(IntKind.u8.wrap (shrI .u64 ((tShort key (Sl.mk false b.D)).1) 40))]) ++ [(IntKind.u8.wrap (shrI .u64 ((tShort key (Sl.mk false b.D)).1) 32))]) ++ [(IntKind.u8.wrap (shrI .u64 ((tShort key (Sl.mk false b.D)).1) 24))]) ++ [(IntKind.u8.wrap (shrI .u64 ((tShort key (Sl.mk false b.D)).1) 16))]) ++ [(IntKind.u8.wrap (shrI .u64 ((tShort key (Sl.mk false b.D)).1) 8))]).length) 1 false) ?_
 refine rvc_nil ?_
 refine Awp.regionP C ?_
 refine rvP C (.pv (.lit (.int .i64 8))) ?_
 refine rvP C (.pv (.lit (.int .i64 0))) ?_
 refine rvP C (.pv (.lit (.int .i64 0))) ?_
 refine rvc_nil ?_
 refine Arounds.succ ?_
 refine Awp.weakenR (S := [(1, .sl 0 0 b.D.length 1 tt_), (6, .pv (.lit (.int .u64 ((tShort key (Sl.mk false b.D)).1)))), (7, .pv (.lit (.int .i64 ((tShort key (Sl.mk false b.D)).2)))), (8, .sl 70026 0 ((((((([(IntKind.u8.wrap (shrI .u64 ((tShort key (Sl.mk false b.D)).1) 56))] ++ [(IntKind.u8.wrap (shrI .u64 ((tShort key (Sl.mk false b.D)).1) 48))]) ++ [(IntKind.u8.wrap (shrI .u64 ((tShort key (Sl.mk false b.D)).1) 40))]) ++ [(IntKind.u8.wrap (shrI .u64 ((tShort key (Sl.mk false b.D)).1) 32))]) ++ [(IntKind.u8.wrap (shrI .u64 ((tShort key (Sl.mk false b.D)).1) 24))]) ++ [(IntKind.u8.wrap (shrI .u64 ((tShort key (Sl.mk false b.D)).1) 16))]) ++ [(IntKind.u8.wrap (shrI .u64 ((tShort key (Sl.mk false b.D)).1) 8))]).length) 1 false), (9, .pv (.lit (.int .i64 0)))]) (H := [(0, .cells (encC (eI .u8) b.D)), (70026, .cells (encC (eI .u8) (((((([(IntKind.u8.wrap (shrI .u64 ((tShort key (Sl.mk false b.D)).1) 56))] ++ [(IntKind.u8.wrap (shrI .u64 ((tShort key (Sl.mk false b.D)).1) 48))]) ++ [(IntKind.u8.wrap (shrI .u64 ((tShort key (Sl.mk false b.D)).1) 40))]) ++ [(IntKind.u8.wrap (shrI .u64 ((tShort key (Sl.mk false b.D)).1) 32))]) ++ [(IntKind.u8.wrap (shrI .u64 ((tShort key (Sl.mk false b.D)).1) 24))]) ++ [(IntKind.u8.wrap (shrI .u64 ((tShort key (Sl.mk false b.D)).1) 16))]) ++ [(IntKind.u8.wrap (shrI .u64 ((tShort key (Sl.mk false b.D)).1) 8))])))]) (U := [0, 70026]) (fun x => bif x == 70026 then 26 else x) (WeakerR.ofLI (I := [0]) (Ks := [0, 70026]) hI ⟨⟨rfl, rfl⟩, ⟨rfl, rfl⟩, ⟨rfl, rfl⟩, ⟨rfl, rfl⟩, ⟨rfl, rfl⟩, trivial⟩ (okH_list rfl rfl rfl (okH_list rfl rfl rfl (okH_nil))) rfl rfl) ?_
 refine Awp.seq ?_
 refine Awp.consP C ?_
 refine rvP C (.pv (.lit (.int .i64 0))) ?_
 refine rvP C (.pv (.lit (.bool true))) ?_
 refine rvc_nil ?_
 refine Awp.condT (b := true) rfl rfl ?_
 refine Awp.skip ?_
 refine Awp.seq ?_
 refine Awp.block ?_
 refine Awp.regionP C ?_
 refine rvP C (.sl 70026 0 ((((((([(IntKind.u8.wrap (shrI .u64 ((tShort key (Sl.mk false b.D)).1) 56))] ++ [(IntKind.u8.wrap (shrI .u64 ((tShort key (Sl.mk false b.D)).1) 48))]) ++ [(IntKind.u8.wrap (shrI .u64 ((tShort key (Sl.mk false b.D)).1) 40))]) ++ [(IntKind.u8.wrap (shrI .u64 ((tShort key (Sl.mk false b.D)).1) 32))]) ++ [(IntKind.u8.wrap (shrI .u64 ((tShort key (Sl.mk false b.D)).1) 24))]) ++ [(IntKind.u8.wrap (shrI .u64 ((tShort key (Sl.mk false b.D)).1) 16))]) ++ [(IntKind.u8.wrap (shrI .u64 ((tShort key (Sl.mk false b.D)).1) 8))]).length) 1 false) ?_
 refine rvP C (.pv (.lit (.int .u64 ((tShort key (Sl.mk false b.D)).1)))) ?_
 refine rvP C (.pv (.lit (.int .i64 0))) ?_
 refine rvc_un (rexec_prim C (δ := { v := .pv (.lit (.int .u64 (shrI .u64 ((tShort key (Sl.mk false b.D)).1) 0))) }) rfl rfl rfl rfl (by first | decide | assumption | omega) rfl ?_)
 refine rvP C (.pv (.lit (.int .u8 (IntKind.u8.wrap (shrI .u64 ((tShort key (Sl.mk false b.D)).1) 0))))) ?_
 refine rvc_un (rexec_buildSliceF C (eI .u8) [(IntKind.u8.wrap (shrI .u64 ((tShort key (Sl.mk false b.D)).1) 0))] rfl rfl rfl rfl rfl rfl rfl (by decide) rfl ?_)
 refine rvc_un (rexec_append C rfl rfl rfl rfl rfl rfl rfl rfl (fun _ h => by cases h) rfl (en := (eI .u8)) (D0 := (((((([(IntKind.u8.wrap (shrI .u64 ((tShort key (Sl.mk false b.D)).1) 56))] ++ [(IntKind.u8.wrap (shrI .u64 ((tShort key (Sl.mk false b.D)).1) 48))]) ++ [(IntKind.u8.wrap (shrI .u64 ((tShort key (Sl.mk false b.D)).1) 40))]) ++ [(IntKind.u8.wrap (shrI .u64 ((tShort key (Sl.mk false b.D)).1) 32))]) ++ [(IntKind.u8.wrap (shrI .u64 ((tShort key (Sl.mk false b.D)).1) 24))]) ++ [(IntKind.u8.wrap (shrI .u64 ((tShort key (Sl.mk false b.D)).1) 16))]) ++ [(IntKind.u8.wrap (shrI .u64 ((tShort key (Sl.mk false b.D)).1) 8))])) (D := [(IntKind.u8.wrap (shrI .u64 ((tShort key (Sl.mk false b.D)).1) 0))]) rfl rfl rfl rfl (by first | omega | (simp <;> omega)) (by decide) (nn := ((((((([(IntKind.u8.wrap (shrI .u64 ((tShort key (Sl.mk false b.D)).1) 56))] ++ [(IntKind.u8.wrap (shrI .u64 ((tShort key (Sl.mk false b.D)).1) 48))]) ++ [(IntKind.u8.wrap (shrI .u64 ((tShort key (Sl.mk false b.D)).1) 40))]) ++ [(IntKind.u8.wrap (shrI .u64 ((tShort key (Sl.mk false b.D)).1) 32))]) ++ [(IntKind.u8.wrap (shrI .u64 ((tShort key (Sl.mk false b.D)).1) 24))]) ++ [(IntKind.u8.wrap (shrI .u64 ((tShort key (Sl.mk false b.D)).1) 16))]) ++ [(IntKind.u8.wrap (shrI .u64 ((tShort key (Sl.mk false b.D)).1) 8))]) ++ [(IntKind.u8.wrap (shrI .u64 ((tShort key (Sl.mk false b.D)).1) 0))]).length) (by simp) ?_)
 refine rvP C (.sl 26 0 (((((((([(IntKind.u8.wrap (shrI .u64 ((tShort key (Sl.mk false b.D)).1) 56))] ++ [(IntKind.u8.wrap (shrI .u64 ((tShort key (Sl.mk false b.D)).1) 48))]) ++ [(IntKind.u8.wrap (shrI .u64 ((tShort key (Sl.mk false b.D)).1) 40))]) ++ [(IntKind.u8.wrap (shrI .u64 ((tShort key (Sl.mk false b.D)).1) 32))]) ++ [(IntKind.u8.wrap (shrI .u64 ((tShort key (Sl.mk false b.D)).1) 24))]) ++ [(IntKind.u8.wrap (shrI .u64 ((tShort key (Sl.mk false b.D)).1) 16))]) ++ [(IntKind.u8.wrap (shrI .u64 ((tShort key (Sl.mk false b.D)).1) 8))]) ++ [(IntKind.u8.wrap (shrI .u64 ((tShort key (Sl.mk false b.D)).1) 0))]).length) 1 false) ?_
 refine rvc_nil ?_
 refine Awp.regionP C ?_
 refine rvP C (.pv (.lit (.int .i64 0))) ?_
 refine rvP C (.pv (.lit (.int .i64 (-8)))) ?_
 refine rvP C (.pv (.lit (.int .i64 (-8)))) ?_
 refine rvc_nil ?_
 refine Arounds.succ ?_
 refine Awp.weakenR (S := [(1, .sl 0 0 b.D.length 1 tt_), (6, .pv (.lit (.int .u64 ((tShort key (Sl.mk false b.D)).1)))), (7, .pv (.lit (.int .i64 ((tShort key (Sl.mk false b.D)).2)))), (8, .sl 70026 0 (((((((([(IntKind.u8.wrap (shrI .u64 ((tShort key (Sl.mk false b.D)).1) 56))] ++ [(IntKind.u8.wrap (shrI .u64 ((tShort key (Sl.mk false b.D)).1) 48))]) ++ [(IntKind.u8.wrap (shrI .u64 ((tShort key (Sl.mk false b.D)).1) 40))]) ++ [(IntKind.u8.wrap (shrI .u64 ((tShort key (Sl.mk false b.D)).1) 32))]) ++ [(IntKind.u8.wrap (shrI .u64 ((tShort key (Sl.mk false b.D)).1) 24))]) ++ [(IntKind.u8.wrap (shrI .u64 ((tShort key (Sl.mk false b.D)).1) 16))]) ++ [(IntKind.u8.wrap (shrI .u64 ((tShort key (Sl.mk false b.D)).1) 8))]) ++ [(IntKind.u8.wrap (shrI .u64 ((tShort key (Sl.mk false b.D)).1) 0))]).length) 1 false), (9, .pv (.lit (.int .i64 (-8))))]) (H := [(0, .cells (encC (eI .u8) b.D)), (70026, .cells (encC (eI .u8) ((((((([(IntKind.u8.wrap (shrI .u64 ((tShort key (Sl.mk false b.D)).1) 56))] ++ [(IntKind.u8.wrap (shrI .u64 ((tShort key (Sl.mk false b.D)).1) 48))]) ++ [(IntKind.u8.wrap (shrI .u64 ((tShort key (Sl.mk false b.D)).1) 40))]) ++ [(IntKind.u8.wrap (shrI .u64 ((tShort key (Sl.mk false b.D)).1) 32))]) ++ [(IntKind.u8.wrap (shrI .u64 ((tShort key (Sl.mk false b.D)).1) 24))]) ++ [(IntKind.u8.wrap (shrI .u64 ((tShort key (Sl.mk false b.D)).1) 16))]) ++ [(IntKind.u8.wrap (shrI .u64 ((tShort key (Sl.mk false b.D)).1) 8))]) ++ [(IntKind.u8.wrap (shrI .u64 ((tShort key (Sl.mk false b.D)).1) 0))])))]) (U := [0, 70026]) (fun x => bif x == 70026 then 26 else x) (WeakerR.ofLI (I := [0]) (Ks := [0, 70026]) hI ⟨⟨rfl, rfl⟩, ⟨rfl, rfl⟩, ⟨rfl, rfl⟩, ⟨rfl, rfl⟩, ⟨rfl, rfl⟩, trivial⟩ (okH_list rfl rfl rfl (okH_list rfl rfl rfl (okH_nil))) rfl rfl) ?_
 refine Awp.seq ?_
 refine Awp.consP C ?_
 refine rvP C (.pv (.lit (.int .i64 (-8)))) ?_
 refine rvP C (.pv (.lit (.bool false))) ?_
 refine rvc_nil ?_
 refine Awp.condF (b := false) rfl rfl ?_
 refine Awp.exit ?_
 refine Awp.consP C ?_
 refine rvP C (.sl 70026 0 (((((((([(IntKind.u8.wrap (shrI .u64 ((tShort key (Sl.mk false b.D)).1) 56))] ++ [(IntKind.u8.wrap (shrI .u64 ((tShort key (Sl.mk false b.D)).1) 48))]) ++ [(IntKind.u8.wrap (shrI .u64 ((tShort key (Sl.mk false b.D)).1) 40))]) ++ [(IntKind.u8.wrap (shrI .u64 ((tShort key (Sl.mk false b.D)).1) 32))]) ++ [(IntKind.u8.wrap (shrI .u64 ((tShort key (Sl.mk false b.D)).1) 24))]) ++ [(IntKind.u8.wrap (shrI .u64 ((tShort key (Sl.mk false b.D)).1) 16))]) ++ [(IntKind.u8.wrap (shrI .u64 ((tShort key (Sl.mk false b.D)).1) 8))]) ++ [(IntKind.u8.wrap (shrI .u64 ((tShort key (Sl.mk false b.D)).1) 0))]).length) 1 false) ?_
 refine rvP C (.pv (.lit (.int .i64 ((tShort key (Sl.mk false b.D)).2)))) ?_
 refine rvP C (.sl 70026 0 (((((((([(IntKind.u8.wrap (shrI .u64 ((tShort key (Sl.mk false b.D)).1) 56))] ++ [(IntKind.u8.wrap (shrI .u64 ((tShort key (Sl.mk false b.D)).1) 48))]) ++ [(IntKind.u8.wrap (shrI .u64 ((tShort key (Sl.mk false b.D)).1) 40))]) ++ [(IntKind.u8.wrap (shrI .u64 ((tShort key (Sl.mk false b.D)).1) 32))]) ++ [(IntKind.u8.wrap (shrI .u64 ((tShort key (Sl.mk false b.D)).1) 24))]) ++ [(IntKind.u8.wrap (shrI .u64 ((tShort key (Sl.mk false b.D)).1) 16))]) ++ [(IntKind.u8.wrap (shrI .u64 ((tShort key (Sl.mk false b.D)).1) 8))]) ++ [(IntKind.u8.wrap (shrI .u64 ((tShort key (Sl.mk false b.D)).1) 0))]).length) 1 false) ?_
 refine rvP C (.pv (.lit (.int .i64 ((tShort key (Sl.mk false b.D)).2)))) ?_
 refine rvc_nil ?_
 refine Awp.freezeW 70026 (encL (eI .u8) ((((((([(IntKind.u8.wrap (shrI .u64 ((tShort key (Sl.mk false b.D)).1) 56))] ++ [(IntKind.u8.wrap (shrI .u64 ((tShort key (Sl.mk false b.D)).1) 48))]) ++ [(IntKind.u8.wrap (shrI .u64 ((tShort key (Sl.mk false b.D)).1) 40))]) ++ [(IntKind.u8.wrap (shrI .u64 ((tShort key (Sl.mk false b.D)).1) 32))]) ++ [(IntKind.u8.wrap (shrI .u64 ((tShort key (Sl.mk false b.D)).1) 24))]) ++ [(IntKind.u8.wrap (shrI .u64 ((tShort key (Sl.mk false b.D)).1) 16))]) ++ [(IntKind.u8.wrap (shrI .u64 ((tShort key (Sl.mk false b.D)).1) 8))]) ++ [(IntKind.u8.wrap (shrI .u64 ((tShort key (Sl.mk false b.D)).1) 0))])) ?_ [(4, sS (some false) (eI .u8) ((((((([(IntKind.u8.wrap (shrI .u64 ((tShort key (Sl.mk false b.D)).1) 56))] ++ [(IntKind.u8.wrap (shrI .u64 ((tShort key (Sl.mk false b.D)).1) 48))]) ++ [(IntKind.u8.wrap (shrI .u64 ((tShort key (Sl.mk false b.D)).1) 40))]) ++ [(IntKind.u8.wrap (shrI .u64 ((tShort key (Sl.mk false b.D)).1) 32))]) ++ [(IntKind.u8.wrap (shrI .u64 ((tShort key (Sl.mk false b.D)).1) 24))]) ++ [(IntKind.u8.wrap (shrI .u64 ((tShort key (Sl.mk false b.D)).1) 16))]) ++ [(IntKind.u8.wrap (shrI .u64 ((tShort key (Sl.mk false b.D)).1) 8))]) ++ [(IntKind.u8.wrap (shrI .u64 ((tShort key (Sl.mk false b.D)).1) 0))])), (5, .pv (.lit (.int .i64 ((tShort key (Sl.mk false b.D)).2))))] [(0, .cells (encC (eI .u8) b.D))] ?_ ?_ ?_
 · rfl
 · exact ⟨⟨_, rfl, .inl (.inr ⟨_, _, _, rfl, rfl⟩)⟩, ⟨_, rfl, .inl (.inl rfl)⟩, trivial⟩
 · exact ⟨⟨(by show (0 : Nat) ≠ 70026; decide), .inl rfl⟩, trivial⟩
 refine Awp.ret ?_
 subst hR
 exact ⟨.inl rfl, rfl, rfl⟩
def kL (k : Nat → Int) : List Int := tbF k 8 0
theorem kL_def (k : Nat → Int) : kL k = [k 0, k 1, k 2, k 3, k 4, k 5, k 6, k 7] := rfl
theorem KeyB.b8 {k : Nat → Int} (h : KeyB k) : B8 (kL k) := fun x hx => by
  obtain ⟨i, _, h2, rfl⟩ := mem_tbF hx
  exact h i (by omega)
theorem eq8 (j k : Nat → Int) : ((j 0 == k 0) && ((j 1 == k 1) && ((j 2 == k 2) && ((j 3 == k 3) && ((j 4 == k 4) && ((j 5 == k 5) && ((j 6 == k 6) && ((j 7 == k 7) && true)))))))) = decide (kL j = kL k) := by
  rw [Bool.eq_iff_iff, decide_eq_true_eq]
  simp only [kL_def, List.cons.injEq, Bool.and_eq_true, beq_iff_eq]
def Z8 : Nat → Int := ofL [(0 : Int), 0, 0, 0, 0, 0, 0, 0]
theorem r9Key_l0_eq (D : List Int) : ∀ (k i : Nat) (vc : Nat → Int), k + i = D.length → vc = (fun t => if t < i then D.getD t 0 else Z8 t) →
    r9Key_l0 D k i vc = if (D.drop i).any (· == 0) then (Z8, 91) else ((fun t => if t < D.length then D.getD t 0 else Z8 t), 0)
  | 0, i, vc, h, hv => by
    have : i = D.length := by omega
    subst this
    unfold r9Key_l0
    rw [List.drop_length, hv]; rfl
  | k + 1, i, vc, h, hv => by
    have hi : i < D.length := by omega
    unfold r9Key_l0
    have e : D[((i : Nat) : Int).toNat]! = D[i] := by rw [Int.toNat_natCast]; exact getElem!_pos D i hi
    rw [e, List.drop_eq_getElem_cons hi, List.any_cons]
    cases hz : D[i] == 0
    · rw [cond_false, Bool.false_or]
      refine r9Key_l0_eq D k (i + 1) _ (by omega) ?_
      funext t
      unfold updA
      by_cases ht : t = i
      · subst ht
        rw [show (t == t) = true from beq_self_eq_true t, cond_true, if_pos (Nat.lt_succ_self t), List.getD_eq_getElem?_getD, List.getElem?_eq_getElem hi]; rfl
      · rw [show (t == i) = false by simpa using ht, cond_false, hv]
        dsimp only
        by_cases h' : t < i
        · rw [if_pos h', if_pos (by omega)]
        · rw [if_neg h', if_neg (by omega)]
    · rw [cond_true, Bool.true_or, if_pos rfl]; rfl
theorem shKey_eq {D : List Int} (hD : B8 D) : shKey D = r9Key D := by
  unfold shKey r9Key
  cases h1 : decide ((D.length : Int) < 1)
  · rw [cond_false, cond_false]
    cases h2 : decide ((D.length : Int) > 8)
    · rw [cond_false, cond_false]
      have h8 := of_decide_eq_false h2
      rw [r9Key_l0_eq D _ 0 _ (by rw [Int.toNat_natCast]; rfl) (by funext t; rw [if_neg (Nat.not_lt_zero t)]; rfl), List.drop_zero]
      have e : decide (indexB (Sl.mk false D) 0 ≥ 0) = D.any (· == 0) := idxI_ge hD
      rw [e]
      cases D.any (· == 0)
      · rw [cond_false, if_neg (by decide)]
        congr 1
        funext t
        unfold cpF
        rw [Nat.min_eq_left (by omega)]; rfl
      · rfl
    · rfl
  · rfl
theorem r9Right_eq {k : Nat → Int} (hk : KeyB k) : r9Right k = shRight k := by
  unfold r9Right shRight
  rw [← shKey_eq (nameL_ok hk)]
theorem rKey_eq {k : Nat → Int} (hk : KeyB k) : rKey k = (shRight k == 0) := by
  unfold rKey
  rw [r9Right_eq hk]
theorem rLess_eq {a b : Nat → Int} (ha : KeyB a) (hb : KeyB b) : rLess a b = ll (kL a) (kL b) := bytesLess_strOf ha.b8 hb.b8
theorem cmpB_ge {a b : Nat → Int} (ha : KeyB a) (hb : KeyB b) : decide (cmpB (Sl.mk false (tbF a 8 0)) (Sl.mk false (tbF b 8 0)) ≥ 0) = !ll (kL a) (kL b) := by
  show decide (cmpI (kL a) (kL b) ≥ 0) = _
  rw [cmpI_eq ha.b8 hb.b8]
  cases ll (kL a) (kL b)
  · by_cases h : kL a = kL b
    · rw [if_neg (by decide), if_pos h]; rfl
    · rw [if_neg (by decide), if_neg h]; rfl
  · rfl
/-- One of what was seen may be. -/
def sOk (x : Seen) : Bool := (shRight x.key == 0) && (decide (1 ≤ x.ver) && decide (x.ver ≤ 1099511627776))
/-- What was seen may be, and its keys rise, from a key on. -/
def rt : Option (List Int) → List Seen → Bool
  | _, [] => true
  | none, x :: xs => sOk x && rt (some (kL x.key)) xs
  | some q, x :: xs => sOk x && (ll q (kL x.key) && rt (some (kL x.key)) xs)
theorem rt_c0 (x : Seen) (xs : List Seen) : rt none (x :: xs) = (sOk x && rt (some (kL x.key)) xs) := by rw [rt]
theorem rt_c1 (q : List Int) (x : Seen) (xs : List Seen) : rt (some q) (x :: xs) = (sOk x && (ll q (kL x.key) && rt (some (kL x.key)) xs)) := by rw [rt]
def KB (l : List Seen) : Prop := ∀ x ∈ l, KeyB x.key
theorem KB.cons {x : Seen} {l : List Seen} (h : KB (x :: l)) : KeyB x.key ∧ KB l := ⟨h x (by simp), fun y hy => h y (by simp [hy])⟩
theorem KB.at {l : List Seen} (h : KB l) {i : Nat} (hi : i < l.length) : KeyB l[i]!.key := by
  rw [getElem!_pos l i hi]; exact h _ (List.getElem_mem hi)
def prevK (l : List Seen) (i : Nat) : Option (List Int) := if i = 0 then none else some (kL l[i - 1]!.key)
theorem prevK_succ {l : List Seen} {i : Nat} {x : Seen} (h : l[i]? = some x) : prevK l (i + 1) = some (kL x.key) := by
  unfold prevK
  rw [if_neg (by omega), Nat.add_sub_cancel, getElem!_def, h]
theorem sOk_split {x : Seen} {S : Int} : (bif (shRight x.key) != 0 then (100 : Int) else bif decide (x.ver < 1) then 100 else bif decide (x.ver > 1099511627776) then 100 else S) = bif sOk x then S else 100 := by
  unfold sOk
  have e1 : (shRight x.key != 0) = !(shRight x.key == 0) := rfl
  have e2 : decide (x.ver < 1) = !decide (1 ≤ x.ver) := by rw [Bool.eq_iff_iff]; simp <;> omega
  have e3 : decide (x.ver > 1099511627776) = !decide (x.ver ≤ 1099511627776) := by rw [Bool.eq_iff_iff]; simp <;> omega
  rw [e1, e2, e3]
  cases shRight x.key == 0 <;> cases decide (1 ≤ x.ver) <;> cases decide (x.ver ≤ 1099511627776) <;> rfl
theorem pRight_l0_eq {l : Sl Seen} (hl : KB l.D) (h6 : l.D.length ≤ 1000000) : ∀ (xs : List Seen) (i : Nat), l.D.drop i = xs → pRight_l0 l xs i = bif rt (prevK l.D i) xs then 0 else 100
  | [], i, _ => by
    unfold pRight_l0
    cases prevK l.D i <;> rfl
  | x :: xs, i, h => by
    have hx : l.D[i]? = some x := by
      have := congrArg (fun q => q[0]?) h
      simpa using this
    have hi : i < l.D.length := (List.getElem?_eq_some_iff.1 hx).1
    have hd : l.D.drop (i + 1) = xs := by rw [List.drop_add_one_eq_tail_drop, h]; rfl
    have ih := pRight_l0_eq hl h6 xs (i + 1) hd
    rw [prevK_succ hx] at ih
    have hkx : KeyB x.key := hl x (List.mem_of_getElem? hx)
    unfold pRight_l0
    rw [sOk_split, ih]
    by_cases h0 : i = 0
    · subst h0
      rw [show decide (((0 : Nat) : Int) > 0) = false from rfl, cond_false]
      show _ = bif rt none (x :: xs) then 0 else 100
      rw [rt_c0]
      cases sOk x <;> rfl
    · have e1 : IntKind.i64.wrap ((i : Int) - 1) = ((i - 1 : Nat) : Int) := by rw [wrapP (by omega)]; omega
      rw [decide_eq_true (show (i : Int) > 0 by omega), cond_true, e1, Int.toNat_natCast]
      have hp : KeyB l.D[i - 1]!.key := hl.at (by omega)
      have ec : prevK l.D i = some (kL l.D[i - 1]!.key) := by unfold prevK; rw [if_neg h0]
      rw [ec]
      generalize hq : l.D[i - 1]! = q at hp
      have e2 := cmpB_ge hp hkx
      have e3 : tbF (ofL [q.key 0, q.key 1, q.key 2, q.key 3, q.key 4, q.key 5, q.key 6, q.key 7]) 8 0 = tbF q.key 8 0 := rfl
      rw [e3, e2]
      rw [rt_c1]
      cases sOk x <;> cases ll (kL q.key) (kL x.key) <;> rfl
theorem rpRight_l0_eq {l : Sl Seen} (hl : KB l.D) (h6 : l.D.length ≤ 1000000) : ∀ (xs : List Seen) (i : Nat), l.D.drop i = xs → rpRight_l0 l xs i = bif rt (prevK l.D i) xs then 0 else 100
  | [], i, _ => by
    unfold rpRight_l0
    cases prevK l.D i <;> rfl
  | x :: xs, i, h => by
    have hx : l.D[i]? = some x := by
      have := congrArg (fun q => q[0]?) h
      simpa using this
    have hi : i < l.D.length := (List.getElem?_eq_some_iff.1 hx).1
    have hd : l.D.drop (i + 1) = xs := by rw [List.drop_add_one_eq_tail_drop, h]; rfl
    have ih := rpRight_l0_eq hl h6 xs (i + 1) hd
    rw [prevK_succ hx] at ih
    have hkx : KeyB x.key := hl x (List.mem_of_getElem? hx)
    unfold rpRight_l0
    rw [rKey_eq hkx, show (!(shRight x.key == 0)) = (shRight x.key != 0) from rfl, sOk_split, ih]
    by_cases h0 : i = 0
    · subst h0
      rw [show decide (((0 : Nat) : Int) > 0) = false from rfl, cond_false]
      show _ = bif rt none (x :: xs) then 0 else 100
      rw [rt_c0]
      cases sOk x <;> rfl
    · have e1 : IntKind.i64.wrap ((i : Int) - 1) = ((i - 1 : Nat) : Int) := by rw [wrapP (by omega)]; omega
      rw [decide_eq_true (show (i : Int) > 0 by omega), cond_true, e1, Int.toNat_natCast]
      have hp : KeyB l.D[i - 1]!.key := hl.at (by omega)
      have ec : prevK l.D i = some (kL l.D[i - 1]!.key) := by unfold prevK; rw [if_neg h0]
      rw [ec]
      generalize hq : l.D[i - 1]! = q at hp
      have e2 : rLess (ofL [q.key 0, q.key 1, q.key 2, q.key 3, q.key 4, q.key 5, q.key 6, q.key 7]) x.key = ll (kL q.key) (kL x.key) := (rfl : _ = rLess q.key x.key).trans (rLess_eq hp hkx)
      rw [e2]
      rw [rt_c1]
      cases sOk x <;> cases ll (kL q.key) (kL x.key) <;> rfl
theorem pRight_eq {l : Sl Seen} (hl : KB l.D) (hn : l.D.length ≤ 1000000) : pRight l = bif decide (l.D.length ≤ 6) then (bif rt none l.D then 0 else 100) else 7 := by
  unfold pRight
  rw [pRight_l0_eq hl hn l.D 0 rfl, show decide ((l.D.length : Int) > 6) = !decide (l.D.length ≤ 6) by rw [Bool.eq_iff_iff]; simp <;> omega]
  show _ = bif _ then (bif rt (prevK l.D 0) l.D then 0 else 100) else 7
  cases decide (l.D.length ≤ 6) <;> rfl
theorem rpRight_eq {l : Sl Seen} (hl : KB l.D) (hn : l.D.length ≤ 1000000) : rpRight l = pRight l := by
  rw [pRight_eq hl hn]
  unfold rpRight
  rw [rpRight_l0_eq hl hn l.D 0 rfl, show decide ((l.D.length : Int) > 6) = !decide (l.D.length ≤ 6) by rw [Bool.eq_iff_iff]; simp <;> omega]
  show _ = bif _ then (bif rt (prevK l.D 0) l.D then 0 else 100) else 7
  cases decide (l.D.length ≤ 6) <;> rfl
/-- Rising. -/
theorem rt_some {q : List Int} : ∀ {xs : List Seen}, rt (some q) xs = true ↔ rt none xs = true ∧ ∀ x ∈ xs, ll q (kL x.key) = true
  | [] => by simp [rt]
  | x :: xs => by
    have ih := rt_some (q := kL x.key) (xs := xs)
    simp only [rt, Bool.and_eq_true, List.mem_cons, forall_eq_or_imp]
    rw [ih]
    refine ⟨fun ⟨h1, h2, h3, h4⟩ => ⟨⟨h1, h3, h4⟩, h2, fun y hy => ll_trans h2 (h4 y hy)⟩, fun ⟨⟨h1, h3, h4⟩, h2, _⟩ => ⟨h1, h2, h3, h4⟩⟩
theorem rt_cons {x : Seen} {xs : List Seen} : rt none (x :: xs) = true ↔ sOk x = true ∧ rt none xs = true ∧ ∀ y ∈ xs, ll (kL x.key) (kL y.key) = true := by
  simp only [rt, Bool.and_eq_true, rt_some]
theorem pRight_zero {l : Sl Seen} (hl : KB l.D) (hn : l.D.length ≤ 1000000) : pRight l = 0 ↔ l.D.length ≤ 6 ∧ rt none l.D = true := by
  rw [pRight_eq hl hn]
  cases h : decide (l.D.length ≤ 6)
  · simpa using fun q : l.D.length ≤ 6 => absurd q (of_decide_eq_false h)
  · have := of_decide_eq_true h
    cases rt none l.D <;> simp [this]
theorem bv64p (a : Nat) (h : a < 18446744073709551616) : (BitVec.ofInt 64 (a : Int)).toNat = a := by
  rw [BitVec.toNat_ofInt]
  have : ((2 ^ 64 : Nat) : Int) = 18446744073709551616 := by decide
  rw [this]; omega
theorem or64 {a b : Nat} (ha : a < 18446744073709551616) (hb : b < 18446744073709551616) : bitI .or .u64 a b = ((a ||| b : Nat) : Int) := by
  have : a ||| b < 18446744073709551616 := Nat.or_lt_two_pow (n := 64) ha hb
  show IntKind.u64.wrap (((BitVec.ofInt 64 (a : Int) ||| BitVec.ofInt 64 (b : Int) : BitVec 64).toNat : Nat) : Int) = _
  rw [BitVec.toNat_or, bv64p a ha, bv64p b hb, wrapU]; omega
theorem bif_num {α : Type} {a b c d e : Bool} {S5 S10 T : α} : (bif a then (bif b then S5 else (bif c then S5 else (bif d then (bif e then S10 else T) else T))) else (bif c then S5 else (bif d then (bif e then S10 else T) else T))) = (bif (a && b) || c then S5 else (bif d && e then S10 else T)) := by
  cases a <;> cases b <;> cases c <;> cases d <;> cases e <;> rfl
theorem bif_num2 {α : Type} {a b c d e : Bool} {S5 S10 T : α} : (bif c then S5 else (bif a then (bif b then S5 else (bif d then (bif e then S10 else T) else T)) else (bif d then (bif e then S10 else T) else T))) = (bif (a && b) || c then S5 else (bif d && e then S10 else T)) := by
  cases a <;> cases b <;> cases c <;> cases d <;> cases e <;> rfl
theorem and127 : ∀ y : Fin 256, (y.val &&& 127) = y.val % 128 := by decide +kernel
theorem low7 {x : Int} (h : 0 ≤ x ∧ x < 256) : IntKind.u64.wrap (bitI .and .u8 x 127) = ((x.toNat % 128 : Nat) : Int) := by
  have e : x = ((x.toNat : Nat) : Int) := by omega
  rw [e, show (127 : Int) = ((127 : Nat) : Int) from rfl, and8 (by omega) (by decide), and127 ⟨x.toNat, by omega⟩, wrapU]
  show ((x.toNat % 128 : Nat) : Int) % 18446744073709551616 = ((((x.toNat : Nat) : Int)).toNat % 128 : Nat)
  omega
theorem pow7 (i : Nat) : (2 : Nat) ^ (7 * i) = 128 ^ i := by rw [Nat.pow_mul]
theorem orshl {acc low i : Nat} (hi : i ≤ 9) (h1 : acc < 128 ^ i) (h2 : low * 128 ^ i < 18446744073709551616) : bitI .or .u64 (acc : Int) (shlI .u64 (low : Int) ((7 * i : Nat) : Int)) = ((acc + low * 128 ^ i : Nat) : Int) := by
  have hs : shlI .u64 (low : Int) ((7 * i : Nat) : Int) = ((low * 128 ^ i : Nat) : Int) := by
    show IntKind.u64.wrap ((low : Int) * 2 ^ (min (((7 * i : Nat) : Int).toNat) 64)) = _
    rw [Int.toNat_natCast, Nat.min_eq_left (by omega), wrapU, ← pow7]
    have : (low : Int) * 2 ^ (7 * i) = ((low * 2 ^ (7 * i) : Nat) : Int) := by simp
    rw [this]
    rw [← pow7] at h2
    omega
  have hp : 128 ^ i ≤ 9223372036854775808 := Nat.le_trans (Nat.pow_le_pow_right (by decide) hi) (by decide)
  rw [hs, or64 (by omega) h2]
  have := Nat.shiftLeft_add_eq_or_of_lt (b := acc) (i := 7 * i) (by rw [pow7]; exact h1) low
  rw [Nat.shiftLeft_eq, pow7] at this
  rw [Nat.or_comm, ← this, Nat.add_comm]
theorem getBang {D : List Int} {n : Nat} {x : Int} (h : D[n]? = some x) : D[n]! = x := by rw [getElem!_def, h]
theorem low_le {x i : Nat} (h : ¬ ((i = 9 ∧ 1 < x % 128) ∨ 9 < i)) : x % 128 * 128 ^ i < 18446744073709551616 := by
  rcases Nat.lt_or_ge i 9 with h9 | h9
  · have : 128 ^ i ≤ 72057594037927936 := Nat.le_trans (Nat.pow_le_pow_right (by decide) (show i ≤ 8 by omega)) (by decide)
    have h5 : x % 128 * 128 ^ i ≤ 127 * 72057594037927936 := Nat.mul_le_mul (by omega) this
    omega
  · have hi9 : i = 9 := by omega
    subst hi9
    have h6 : (128 : Nat) ^ 9 = 9223372036854775808 := by decide
    rw [h6]; omega
theorem acc_le {x i acc : Nat} (h1 : acc < 128 ^ i) : acc + x % 128 * 128 ^ i < 128 ^ (i + 1) := by
  rw [Nat.pow_succ, Nat.mul_comm (128 ^ i)]
  have h5 : x % 128 * 128 ^ i ≤ 127 * 128 ^ i := Nat.mul_le_mul_right _ (by omega)
  omega
theorem rdNum_l0_eq {D : List Int} (hD : ∀ x ∈ D, 0 ≤ x ∧ x < 256) (hl : D.length ≤ 1000000) (r : Reader) : ∀ (f i acc : Nat) (v : Reader), f = D.length - v.at_.toNat + 1 → v.b.D = D → 0 ≤ v.at_ → v.at_ ≤ (D.length : Int) → v.err = 0 → v.made = true → i ≤ 10 → acc < 128 ^ i →
    match vd i (D.drop v.at_.toNat) with
    | some (m, rest) => rdNum_l0 r f (acc : Int) ((7 * i : Nat) : Int) v = (Reader.mk v.b ((D.length : Int) - rest.length) 0 true, ((acc + m * 128 ^ i : Nat) : Int))
    | none => rdErr (rdNum_l0 r f (acc : Int) ((7 * i : Nat) : Int) v).1 ≠ 0
  | 0, _, _, _, hf, _, _, _, _, _, _, _ => by omega
  | f + 1, i, acc, v, hf, hb, h0, h1, he, hm, hi, hacc => by
    by_cases hat : v.at_ = (D.length : Int)
    · have e : (v.at_ == (v.b.D.length : Int)) = true := by rw [hb]; simpa using hat
      rw [List.drop_eq_nil_of_le (by omega), vd]
      unfold rdNum_l0
      rw [e]
      show rdErr (rdStop v r.at_ 2) ≠ 0
      unfold rdStop rdErr
      rw [he]
      show (bif !v.made then (6 : Int) else 2) ≠ 0
      rw [hm]; decide
    · have e : (v.at_ == (v.b.D.length : Int)) = false := by rw [hb]; simpa using hat
      obtain ⟨x, hx⟩ : ∃ x, D[v.at_.toNat]? = some x := ⟨_, List.getElem?_eq_getElem (by omega)⟩
      have hxb := hD x (List.mem_of_getElem? hx)
      have hw : IntKind.i64.wrap (v.at_ + 1) = v.at_ + 1 := by have := wrapI (v.at_ + 1); omega
      have hw2 : IntKind.i64.wrap (((7 * i : Nat) : Int) + 7) = ((7 * (i + 1) : Nat) : Int) := by have := wrapI (((7 * i : Nat) : Int) + 7); omega
      have hs : ∀ a q, q ≠ 0 → rdErr (rdStop (Reader.mk v.b (v.at_ + 1) v.err v.made) a q) ≠ 0 := fun a q hq => by
        unfold rdStop rdErr
        rw [he, hm]
        exact hq
      have hc : (((((7 * i : Nat) : Int) == 63) && decide (((x.toNat % 128 : Nat) : Int) > 1)) || decide (((7 * i : Nat) : Int) > 63)) = decide ((i = 9 ∧ 1 < x.toNat % 128) ∨ 9 < i) := by
        rw [Bool.eq_iff_iff]
        simp only [Bool.or_eq_true, Bool.and_eq_true, beq_iff_eq, decide_eq_true_eq]
        omega
      have hd : ((x == 0) && decide (((7 * i : Nat) : Int) > 0)) = decide (x = 0 ∧ 0 < i) := by
        rw [Bool.eq_iff_iff]
        simp only [Bool.and_eq_true, beq_iff_eq, decide_eq_true_eq]
        omega
      rw [drop_at hx, vd]
      unfold rdNum_l0
      rw [e, cond_false, hb, getBang hx, low7 hxb, hw, hw2, bif_num, hc, hd]
      by_cases c1 : (i = 9 ∧ 1 < x.toNat % 128) ∨ 9 < i
      · rw [if_pos c1, decide_eq_true c1]
        exact hs _ _ (by decide)
      · rw [if_neg c1, decide_eq_false c1, cond_false]
        by_cases c2 : x = 0 ∧ 0 < i
        · rw [if_pos c2, decide_eq_true c2]
          exact hs _ _ (by decide)
        · rw [if_neg c2, decide_eq_false c2, cond_false]
          have hor := orshl (acc := acc) (low := x.toNat % 128) (i := i) (by omega) hacc (low_le c1)
          rw [hor]
          by_cases c3 : x < 128
          · rw [if_pos c3, decide_eq_true c3, cond_true]
            have hx' : x.toNat % 128 = x.toNat := by omega
            show (Reader.mk v.b (v.at_ + 1) v.err v.made, _) = (Reader.mk v.b ((D.length : Int) - ((D.drop (v.at_.toNat + 1)).length : Int)) 0 true, _)
            rw [he, hm, hx', List.length_drop]
            have : v.at_ + 1 = (D.length : Int) - ((D.length - (v.at_.toNat + 1) : Nat) : Int) := by omega
            rw [this]
          · rw [if_neg c3, decide_eq_false c3, cond_false]
            have ih := rdNum_l0_eq hD hl r f (i + 1) (acc + x.toNat % 128 * 128 ^ i) (Reader.mk v.b (v.at_ + 1) v.err v.made) (by dsimp only; omega) hb (by dsimp only; omega) (by dsimp only; omega) he hm (by omega) (acc_le hacc)
            dsimp only at ih
            rw [show (v.at_ + 1).toNat = v.at_.toNat + 1 by omega] at ih
            cases hv : vd (i + 1) (D.drop (v.at_.toNat + 1)) with
            | none => rw [hv] at ih; exact ih
            | some q =>
              obtain ⟨m, rest⟩ := q
              rw [hv] at ih
              dsimp only at ih ⊢
              rw [ih]
              have : acc + x.toNat % 128 * 128 ^ i + m * 128 ^ (i + 1) = acc + (x.toNat % 128 + 128 * m) * 128 ^ i := by
                rw [Nat.pow_succ, Nat.add_mul, Nat.mul_comm (128 ^ i) 128, ← Nat.mul_assoc, Nat.mul_comm m 128]; omega
              rw [this]
/-- A reader of these bytes, with no error, ahead of those. -/
structure RdAt (r : Reader) (D l : List Int) : Prop where
  b : r.b.D = D
  made : r.made = true
  err : r.err = 0
  suf : l <:+ D
  at' : r.at_ = (D.length : Int) - l.length
theorem vd_suffix : ∀ (i : Nat) (l : List Int) (n : Nat) (r : List Int), vd i l = some (n, r) → r <:+ l
  | _, [], _, _, h => by simp [vd] at h
  | i, x :: l, n, r, h => by
    rw [vd] at h
    split at h
    · cases h
    · split at h
      · cases h
      · split at h
        · simp only [Option.some.injEq, Prod.mk.injEq] at h; rw [← h.2]; exact List.suffix_cons x l
        · split at h
          · rename_i m r' hm
            simp only [Option.some.injEq, Prod.mk.injEq] at h
            rw [← h.2]
            exact (vd_suffix (i + 1) l m r' hm).trans (List.suffix_cons x l)
          · cases h
theorem RdAt.drop {r : Reader} {D l : List Int} (h : RdAt r D l) : D.drop r.at_.toNat = l := by
  have h1 := List.suffix_iff_eq_drop.1 h.suf
  have h2 := h.suf.length_le
  have : r.at_.toNat = D.length - l.length := by have := h.at'; omega
  rw [this]; exact h1.symm
theorem RdAt.ok {r : Reader} {D l : List Int} (h : RdAt r D l) (hl : D.length ≤ 1000000) : okR r := by
  have h2 := h.suf.length_le
  have h3 := h.at'
  have h4 := h.b
  exact ⟨⟨by omega, by rw [h4]; omega⟩, by rw [h4]; exact hl⟩
theorem RdAt.err0 {r : Reader} {D l : List Int} (h : RdAt r D l) : rdErr r = 0 := by unfold rdErr; rw [h.made, h.err]; rfl
theorem rdNum_at {r : Reader} {D l : List Int} (h : RdAt r D l) (hD : ∀ x ∈ D, 0 ≤ x ∧ x < 256) (hl : D.length ≤ 1000000) :
    match vd 0 l with
    | some (m, rest) => RdAt (rdNum r).1 D rest ∧ (rdNum r).2 = (m : Int)
    | none => rdErr (rdNum r).1 ≠ 0 := by
  have hk := h.ok hl
  have hb := h.b
  have key := rdNum_l0_eq hD hl r (r.b.D.length - r.at_.toNat + 1) 0 0 r (by rw [hb]) hb hk.1.1 (by have := hk.1.2; rw [hb] at this; exact this) h.err h.made (by decide) (by decide)
  rw [h.drop] at key
  unfold rdNum
  rw [h.err0]
  simp only [bne_self_eq_false, cond_false]
  cases hv : vd 0 l with
  | none => rw [hv] at key; exact key
  | some q =>
    obtain ⟨m, rest⟩ := q
    rw [hv] at key
    dsimp only at key ⊢
    have key' : rdNum_l0 r (r.b.D.length - r.at_.toNat + 1) 0 0 r = _ := key
    rw [key']
    refine ⟨⟨hb, rfl, rfl, (vd_suffix 0 l m rest hv).trans h.suf, rfl⟩, ?_⟩
    simp
/-- A number within bounds. -/
def rin (lo hi : Int) (l : List Int) : Option (Nat × List Int) :=
  match vd 0 l with
  | some (n, r) => if (n : Int) ≤ 4611686018427387904 ∧ lo ≤ (n : Int) ∧ (n : Int) ≤ hi then some (n, r) else none
  | none => none
theorem bif3 {α : Type} {a b c : Bool} {S T : α} : (bif a then S else (bif b then S else (bif c then S else T))) = (bif a || b || c then S else T) := by cases a <;> cases b <;> cases c <;> rfl
theorem vd_lt {l : List Int} (hD : ∀ x ∈ l, 0 ≤ x ∧ x < 256) {n : Nat} {r : List Int} (h : vd 0 l = some (n, r)) : n < 18446744073709551616 := by
  have := (vd_vb 0 l n r hD h).2.2
  simpa using this
theorem rdIn_at {r : Reader} {D l : List Int} (lo hi : Int) (h : RdAt r D l) (hD : ∀ x ∈ D, 0 ≤ x ∧ x < 256) (hl : D.length ≤ 1000000) :
    match rin lo hi l with
    | some (m, rest) => RdAt (rdIn r lo hi).1 D rest ∧ (rdIn r lo hi).2 = (m : Int)
    | none => rdErr (rdIn r lo hi).1 ≠ 0 := by
  have h1 := rdNum_at h hD hl
  unfold rin rdIn
  cases hv : vd 0 l with
  | none =>
    rw [hv] at h1
    dsimp only at h1 ⊢
    have : (rdErr (rdNum r).1 != 0) = true := by simpa using h1
    rw [this]; exact h1
  | some q =>
    obtain ⟨m, rest⟩ := q
    rw [hv] at h1
    dsimp only at h1 ⊢
    obtain ⟨h2, h3⟩ := h1
    rw [h2.err0, h3]
    simp only [bne_self_eq_false, cond_false]
    have hml := vd_lt (fun x hx => hD x (h.suf.subset hx)) hv
    rw [bif3]
    by_cases hc : (m : Int) ≤ 4611686018427387904 ∧ lo ≤ (m : Int) ∧ (m : Int) ≤ hi
    · have hw : IntKind.i64.wrap (m : Int) = (m : Int) := by have := wrapI (m : Int); omega
      have : (decide ((m : Int) > 4611686018427387904) || decide (IntKind.i64.wrap (m : Int) < lo) || decide (IntKind.i64.wrap (m : Int) > hi)) = false := by
        rw [hw]; simp only [Bool.or_eq_false_iff, decide_eq_false_iff_not]; omega
      rw [if_pos hc, this]
      exact ⟨h2, hw⟩
    · have : (decide ((m : Int) > 4611686018427387904) || decide (IntKind.i64.wrap (m : Int) < lo) || decide (IntKind.i64.wrap (m : Int) > hi)) = true := by
        rcases Int.lt_or_le 4611686018427387904 (m : Int) with hgt | hle
        · simp [hgt]
        · have hw : IntKind.i64.wrap (m : Int) = (m : Int) := by have := wrapI (m : Int); omega
          rw [hw]; simp only [Bool.or_eq_true, decide_eq_true_eq]; omega
      rw [if_neg hc, this]
      show rdErr (rdStop (rdNum r).1 _ 5) ≠ 0
      unfold rdStop rdErr
      rw [h2.err]
      show (bif !(rdNum r).1.made then (6 : Int) else 5) ≠ 0
      rw [h2.made]; decide
theorem rdIn_err {r : Reader} (lo hi : Int) (h : rdErr r ≠ 0) : rdErr (rdIn r lo hi).1 ≠ 0 := by
  have e : (rdErr r != 0) = true := by simpa using h
  unfold rdIn
  rw [rdNum_err r e]
  dsimp only
  rw [e]
  exact h
theorem rdEnd_at {r : Reader} {D l : List Int} (h : RdAt r D l) : (rdEnd r != 0) = !l.isEmpty := by
  unfold rdEnd
  rw [h.err0]
  have h2 := h.suf.length_le
  have h3 := h.at'
  rw [h.b]
  cases l with
  | nil =>
    have : decide (r.at_ < (D.length : Int)) = false := decide_eq_false (by simp at h3; omega)
    rw [this]; rfl
  | cons x l =>
    have : decide (r.at_ < (D.length : Int)) = true := decide_eq_true (by simp at h3; omega)
    rw [this]; rfl
theorem rdEnd_err {r : Reader} (h : rdErr r ≠ 0) : (rdEnd r != 0) = true := by
  have e : (rdErr r != 0) = true := by simpa using h
  unfold rdEnd
  rw [e]; exact e
theorem step_add {acc low i : Nat} {step : Int} (hi : i ≤ 9) (hst : step = ((128 ^ i : Nat) : Int)) (hacc : acc < 128 ^ i) (h2 : low * 128 ^ i < 18446744073709551616) : IntKind.u64.wrap ((acc : Int) + IntKind.u64.wrap ((low : Int) * step)) = (((acc + low * 128 ^ i) % 18446744073709551616 : Nat) : Int) := by
  have e : (low : Int) * step = ((low * 128 ^ i : Nat) : Int) := by rw [hst]; simp
  rw [e, wrapU, wrapU]
  omega
theorem acc64 {x i acc : Nat} (hi : i ≤ 9) (h1 : acc < 128 ^ i) (h2 : ¬ ((i = 9 ∧ 1 < x % 128) ∨ 9 < i)) : acc + x % 128 * 128 ^ i < 18446744073709551616 := by
  rcases Nat.lt_or_ge i 9 with h9 | h9
  · have h3 := acc_le (x := x) h1
    have : 128 ^ (i + 1) ≤ 9223372036854775808 := Nat.le_trans (Nat.pow_le_pow_right (by decide) (show i + 1 ≤ 9 by omega)) (by decide)
    omega
  · have hi9 : i = 9 := by omega
    subst hi9
    have h6 : (128 : Nat) ^ 9 = 9223372036854775808 := by decide
    rw [h6] at h1 ⊢
    omega
theorem rrNum_l0_eq {D : List Int} (hD : ∀ x ∈ D, 0 ≤ x ∧ x < 256) (hl : D.length ≤ 1000000) (r : Reader69) (hb : r.b.D = D) (h0 : 0 ≤ r.at_) (h1 : r.at_ ≤ (D.length : Int)) (he : r.e_ = 0) : ∀ (k i acc : Nat) (step : Int), k + i = 10 → r.at_.toNat + i ≤ D.length → step = IntKind.u64.wrap ((128 ^ i : Nat) : Int) → acc < 128 ^ i →
    match vd i (D.drop (r.at_.toNat + i)) with
    | some (m, rest) => rrNum_l0 r (k + 1) i (acc : Int) step = (Reader69.mk r.b ((D.length : Int) - rest.length) 0, ((acc + m * 128 ^ i : Nat) : Int))
    | none => (rrNum_l0 r (k + 1) i (acc : Int) step).1.e_ ≠ 0
  | k, i, acc, step, hk, hle, hst, hacc => by
    have hwi := wrapI (r.at_ + (i : Int))
    have hw : IntKind.i64.wrap (r.at_ + (i : Int)) = r.at_ + (i : Int) := by omega
    unfold rrNum_l0
    rw [hw, hb]
    by_cases hat : r.at_.toNat + i = D.length
    · have e : decide (r.at_ + (i : Int) ≥ (D.length : Int)) = true := decide_eq_true (by omega)
      rw [List.drop_eq_nil_of_le (by omega), vd, e]
      exact (by decide : (2 : Int) ≠ 0)
    · have e : decide (r.at_ + (i : Int) ≥ (D.length : Int)) = false := decide_eq_false (by omega)
      obtain ⟨x, hx⟩ : ∃ x, D[r.at_.toNat + i]? = some x := ⟨_, List.getElem?_eq_getElem (by omega)⟩
      have hxb := hD x (List.mem_of_getElem? hx)
      have hx2 : D[(r.at_ + (i : Int)).toNat]! = x := by rw [show (r.at_ + (i : Int)).toNat = r.at_.toNat + i by omega]; exact getBang hx
      have hw2 : IntKind.i64.wrap (r.at_ + (i : Int) + 1) = r.at_ + (i : Int) + 1 := by have := wrapI (r.at_ + (i : Int) + 1); omega
      have hlow : IntKind.u64.wrap (x.tmod 128) = ((x.toNat % 128 : Nat) : Int) := by rw [wrapU, Int.tmod_eq_emod_of_nonneg hxb.1]; omega
      have hc : ((((i : Int) == 9) && decide (((x.toNat % 128 : Nat) : Int) > 1)) || ((i : Int) == 10)) = decide ((i = 9 ∧ 1 < x.toNat % 128) ∨ 9 < i) := by
        rw [Bool.eq_iff_iff]
        simp only [Bool.or_eq_true, Bool.and_eq_true, beq_iff_eq, decide_eq_true_eq]
        omega
      have hd : ((x == 0) && decide ((i : Int) > 0)) = decide (x = 0 ∧ 0 < i) := by
        rw [Bool.eq_iff_iff]
        simp only [Bool.and_eq_true, beq_iff_eq, decide_eq_true_eq]
        omega
      rw [drop_at hx, vd, e, cond_false, hx2, hlow, hw2, bif_num2, hc, hd]
      by_cases c1 : (i = 9 ∧ 1 < x.toNat % 128) ∨ 9 < i
      · rw [if_pos c1, decide_eq_true c1]
        exact (by decide : (5 : Int) ≠ 0)
      · rw [if_neg c1, decide_eq_false c1, cond_false]
        by_cases c2 : x = 0 ∧ 0 < i
        · rw [if_pos c2, decide_eq_true c2]
          exact (by decide : (10 : Int) ≠ 0)
        · rw [if_neg c2, decide_eq_false c2, cond_false]
          have hp : 128 ^ i ≤ 9223372036854775808 := Nat.le_trans (Nat.pow_le_pow_right (by decide) (show i ≤ 9 by omega)) (by decide)
          have hst' : step = ((128 ^ i : Nat) : Int) := by rw [hst, wrapU]; omega
          rw [step_add (by omega) hst' hacc (low_le c1), Nat.mod_eq_of_lt (acc64 (by omega) hacc c1)]
          by_cases c3 : x < 128
          · rw [if_pos c3, decide_eq_true c3, cond_true]
            have hx' : x.toNat % 128 = x.toNat := by omega
            show (Reader69.mk r.b (r.at_ + (i : Int) + 1) r.e_, _) = (Reader69.mk r.b ((D.length : Int) - ((D.drop (r.at_.toNat + i + 1)).length : Int)) 0, _)
            rw [he, hx', List.length_drop]
            have : r.at_ + (i : Int) + 1 = (D.length : Int) - ((D.length - (r.at_.toNat + i + 1) : Nat) : Int) := by omega
            rw [this]
          · rw [if_neg c3, decide_eq_false c3, cond_false]
            have hsw : IntKind.u64.wrap (step * 128) = IntKind.u64.wrap ((128 ^ (i + 1) : Nat) : Int) := by
              have : step * 128 = ((128 ^ (i + 1) : Nat) : Int) := by rw [hst', Nat.pow_succ]; simp
              rw [this]
            obtain ⟨k', rfl⟩ : ∃ k', k = k' + 1 := ⟨k - 1, by omega⟩
            have ih := rrNum_l0_eq hD hl r hb h0 h1 he k' (i + 1) (acc + x.toNat % 128 * 128 ^ i) (IntKind.u64.wrap (step * 128)) (by omega) (by omega) hsw (acc_le hacc)
            rw [show r.at_.toNat + (i + 1) = r.at_.toNat + i + 1 by omega] at ih
            cases hv : vd (i + 1) (D.drop (r.at_.toNat + i + 1)) with
            | none => rw [hv] at ih; exact ih
            | some q =>
              obtain ⟨m, rest⟩ := q
              rw [hv] at ih
              dsimp only at ih ⊢
              rw [ih]
              have : acc + x.toNat % 128 * 128 ^ i + m * 128 ^ (i + 1) = acc + (x.toNat % 128 + 128 * m) * 128 ^ i := by
                rw [Nat.pow_succ, Nat.add_mul, Nat.mul_comm (128 ^ i) 128, ← Nat.mul_assoc, Nat.mul_comm m 128]; omega
              rw [this]
termination_by k => k
/-- A reader of the reference, likewise. -/
structure RrAt (r : Reader69) (D l : List Int) : Prop where
  b : r.b.D = D
  err : r.e_ = 0
  suf : l <:+ D
  at' : r.at_ = (D.length : Int) - l.length
theorem RrAt.drop {r : Reader69} {D l : List Int} (h : RrAt r D l) : D.drop r.at_.toNat = l := by
  have h1 := List.suffix_iff_eq_drop.1 h.suf
  have h2 := h.suf.length_le
  have : r.at_.toNat = D.length - l.length := by have := h.at'; omega
  rw [this]; exact h1.symm
theorem rrNum_at {r : Reader69} {D l : List Int} (h : RrAt r D l) (hD : ∀ x ∈ D, 0 ≤ x ∧ x < 256) (hl : D.length ≤ 1000000) :
    match vd 0 l with
    | some (m, rest) => RrAt (rrNum r).1 D rest ∧ (rrNum r).2 = (m : Int)
    | none => (rrNum r).1.e_ ≠ 0 := by
  have h2 := h.suf.length_le
  have h3 := h.at'
  have key := rrNum_l0_eq hD hl r h.b (by omega) (by omega) h.err 10 0 0 1 (by decide) (by omega) (by decide) (by decide)
  rw [show r.at_.toNat + 0 = r.at_.toNat from rfl, h.drop] at key
  unfold rrNum
  rw [h.err]
  simp only [bne_self_eq_false, cond_false]
  cases hv : vd 0 l with
  | none => rw [hv] at key; exact key
  | some q =>
    obtain ⟨m, rest⟩ := q
    rw [hv] at key
    dsimp only at key ⊢
    have key' : rrNum_l0 r 11 0 0 1 = _ := key
    rw [key']
    refine ⟨⟨h.b, rfl, (vd_suffix 0 l m rest hv).trans h.suf, rfl⟩, ?_⟩
    simp
theorem rrIn_at {r : Reader69} {D l : List Int} (lo hi : Int) (h : RrAt r D l) (hD : ∀ x ∈ D, 0 ≤ x ∧ x < 256) (hl : D.length ≤ 1000000) :
    match rin lo hi l with
    | some (m, rest) => RrAt (rrIn r lo hi).1 D rest ∧ (rrIn r lo hi).2 = (m : Int)
    | none => (rrIn r lo hi).1.e_ ≠ 0 := by
  have h1 := rrNum_at h hD hl
  unfold rin rrIn
  cases hv : vd 0 l with
  | none =>
    rw [hv] at h1
    dsimp only at h1 ⊢
    have e1 : ((rrNum r).1.e_ == 0) = false := by simpa using h1
    have e2 : ((rrNum r).1.e_ != 0) = true := by simpa using h1
    rw [e1, e2]; exact h1
  | some q =>
    obtain ⟨m, rest⟩ := q
    rw [hv] at h1
    dsimp only at h1 ⊢
    obtain ⟨h2, h3⟩ := h1
    have e1 : ((rrNum r).1.e_ == 0) = true := by simpa using h2.err
    have e2 : ((rrNum r).1.e_ != 0) = false := by simpa using h2.err
    have e5 : ((5 : Int) != 0) = true := by decide
    rw [e1, e2, e5, h3]
    simp only [cond_true, cond_false]
    have hml := vd_lt (fun x hx => hD x (h.suf.subset hx)) hv
    rw [bif3]
    by_cases hc : (m : Int) ≤ 4611686018427387904 ∧ lo ≤ (m : Int) ∧ (m : Int) ≤ hi
    · have hw : IntKind.i64.wrap (m : Int) = (m : Int) := by have := wrapI (m : Int); omega
      have : (decide ((m : Int) > 4611686018427387904) || decide (IntKind.i64.wrap (m : Int) < lo) || decide (IntKind.i64.wrap (m : Int) > hi)) = false := by
        rw [hw]; simp only [Bool.or_eq_false_iff, decide_eq_false_iff_not]; omega
      rw [if_pos hc, this]
      exact ⟨h2, hw⟩
    · have : (decide ((m : Int) > 4611686018427387904) || decide (IntKind.i64.wrap (m : Int) < lo) || decide (IntKind.i64.wrap (m : Int) > hi)) = true := by
        rcases Int.lt_or_le 4611686018427387904 (m : Int) with hgt | hle
        · simp [hgt]
        · have hw : IntKind.i64.wrap (m : Int) = (m : Int) := by have := wrapI (m : Int); omega
          rw [hw]; simp only [Bool.or_eq_true, decide_eq_true_eq]; omega
      rw [if_neg hc, this]
      exact (by decide : (5 : Int) ≠ 0)
theorem rrIn_err {r : Reader69} (lo hi : Int) (h : r.e_ ≠ 0) : (rrIn r lo hi).1.e_ ≠ 0 := by
  have e : (r.e_ != 0) = true := by simpa using h
  have e1 : (r.e_ == 0) = false := by simpa using h
  unfold rrIn rrNum
  rw [e]
  dsimp only [cond_true]
  rw [e1, e]
  exact h
theorem rrEnd_at {r : Reader69} {D l : List Int} (h : RrAt r D l) : (rrEnd r != 0) = !l.isEmpty := by
  unfold rrEnd
  have e1 : (r.e_ == 0) = true := by simpa using h.err
  rw [e1, h.err]
  have h2 := h.suf.length_le
  have h3 := h.at'
  rw [h.b]
  cases l with
  | nil =>
    have : decide (r.at_ < (D.length : Int)) = false := decide_eq_false (by simp at h3; omega)
    rw [this]; rfl
  | cons x l =>
    have : decide (r.at_ < (D.length : Int)) = true := decide_eq_true (by simp at h3; omega)
    rw [this]; rfl
theorem rrEnd_err {r : Reader69} (h : r.e_ ≠ 0) : (rrEnd r != 0) = true := by
  have e : (r.e_ != 0) = true := by simpa using h
  have e1 : (r.e_ == 0) = false := by simpa using h
  unfold rrEnd
  rw [e1]; exact e
theorem word_l0_shN (k : Nat → Int) : ∀ (n i : Nat), word_l0 k n i (shN k i) = shN k (i + n)
  | 0, _ => rfl
  | n + 1, i => by
    unfold word_l0
    have := word_l0_shN k n (i + 1)
    rw [show i + (n + 1) = i + 1 + n by omega, ← this]; rfl
theorem word_shN (k : Nat → Int) : word k = shN k 8 := word_l0_shN k 8 0
def cut8 (k : Nat → Int) : Nat → Int := fun t => if t < 8 then k t else 0
theorem shN_congr {j k : Nat → Int} : ∀ n, (∀ t, t < n → j t = k t) → shN j n = shN k n
  | 0, _ => rfl
  | n + 1, h => by unfold shN; rw [shN_congr n fun t ht => h t (by omega), h n (by omega)]
theorem cut8_R8 {k : Nat → Int} (h : KeyB k) (t : Nat) : R8 (cut8 k t) := by
  unfold cut8
  by_cases ht : t < 8
  · rw [if_pos ht]; exact h t ht
  · rw [if_neg ht]; exact ⟨by decide, by decide⟩
theorem word_cut (k : Nat → Int) : word k = shN (cut8 k) 8 := by
  rw [word_shN]
  exact shN_congr 8 fun t ht => by unfold cut8; rw [if_pos ht]
theorem word_byte {k : Nat → Int} (h : KeyB k) {i : Nat} (hi : i < 8) : IntKind.u8.wrap (shrI .u64 (word k) ((56 - 8 * i : Nat) : Int)) = k i := by
  rw [word_cut, sh_byte (cut8_R8 h) i hi]
  unfold cut8; rw [if_pos hi]
/-- The key of a number. -/
def unw (w : Int) : Nat → Int := fun i => IntKind.u8.wrap (shrI .u64 w ((56 - 8 * i : Nat) : Int))
theorem unw_B (w : Int) : KeyB (unw w) := fun j _ => by unfold unw; rw [wrap_u8]; omega
theorem unw_word {k : Nat → Int} (h : KeyB k) : kL (unw (word k)) = kL k := by
  simp only [kL_def, List.cons.injEq, and_true]
  exact ⟨word_byte h (by decide), word_byte h (by decide), word_byte h (by decide), word_byte h (by decide), word_byte h (by decide), word_byte h (by decide), word_byte h (by decide), word_byte h (by decide)⟩
theorem word_congr {j k : Nat → Int} (h : kL j = kL k) : word j = word k := by
  rw [word_shN, word_shN]
  simp only [kL_def, List.cons.injEq, and_true] at h
  refine shN_congr 8 fun t ht => ?_
  rcases (by omega : t = 0 ∨ t = 1 ∨ t = 2 ∨ t = 3 ∨ t = 4 ∨ t = 5 ∨ t = 6 ∨ t = 7) with rfl | rfl | rfl | rfl | rfl | rfl | rfl | rfl
  · exact h.1
  · exact h.2.1
  · exact h.2.2.1
  · exact h.2.2.2.1
  · exact h.2.2.2.2.1
  · exact h.2.2.2.2.2.1
  · exact h.2.2.2.2.2.2.1
  · exact h.2.2.2.2.2.2.2
theorem word_unw {w : Int} (h0 : 0 ≤ w) (h1 : w < 18446744073709551616) : word (unw w) = w := by
  rw [word_cut, sh_val8 (cut8_R8 (unw_B w))]
  have e0 : cut8 (unw w) 0 = w / 72057594037927936 % 256 := by show IntKind.u8.wrap (w / 72057594037927936) = _; rw [wrap_u8]
  have e1 : cut8 (unw w) 1 = w / 281474976710656 % 256 := by show IntKind.u8.wrap (w / 281474976710656) = _; rw [wrap_u8]
  have e2 : cut8 (unw w) 2 = w / 1099511627776 % 256 := by show IntKind.u8.wrap (w / 1099511627776) = _; rw [wrap_u8]
  have e3 : cut8 (unw w) 3 = w / 4294967296 % 256 := by show IntKind.u8.wrap (w / 4294967296) = _; rw [wrap_u8]
  have e4 : cut8 (unw w) 4 = w / 16777216 % 256 := by show IntKind.u8.wrap (w / 16777216) = _; rw [wrap_u8]
  have e5 : cut8 (unw w) 5 = w / 65536 % 256 := by show IntKind.u8.wrap (w / 65536) = _; rw [wrap_u8]
  have e6 : cut8 (unw w) 6 = w / 256 % 256 := by show IntKind.u8.wrap (w / 256) = _; rw [wrap_u8]
  have e7 : cut8 (unw w) 7 = w % 256 := by show IntKind.u8.wrap (w / 1) = _; rw [wrap_u8]; omega
  rw [e0, e1, e2, e3, e4, e5, e6, e7]
  have d6 : w / 65536 = w / 256 / 256 := by omega
  have d5 : w / 16777216 = w / 65536 / 256 := by omega
  have d4 : w / 4294967296 = w / 16777216 / 256 := by omega
  have d3 : w / 1099511627776 = w / 4294967296 / 256 := by omega
  have d2 : w / 281474976710656 = w / 1099511627776 / 256 := by omega
  have d1 : w / 72057594037927936 = w / 281474976710656 / 256 := by omega
  have d0 : w / 72057594037927936 < 256 := by omega
  generalize hq6 : w / 256 = q6 at *
  generalize hq5 : w / 65536 = q5 at *
  generalize hq4 : w / 16777216 = q4 at *
  generalize hq3 : w / 4294967296 = q3 at *
  generalize hq2 : w / 1099511627776 = q2 at *
  generalize hq1 : w / 281474976710656 = q1 at *
  generalize hq0 : w / 72057594037927936 = q0 at *
  have p0 : q0 % 256 = q0 := by omega
  have p1 : q1 = 256 * q0 + q1 % 256 := by omega
  have p2 : q2 = 256 * q1 + q2 % 256 := by omega
  have p3 : q3 = 256 * q2 + q3 % 256 := by omega
  have p4 : q4 = 256 * q3 + q4 % 256 := by omega
  have p5 : q5 = 256 * q4 + q5 % 256 := by omega
  have p6 : q6 = 256 * q5 + q6 % 256 := by omega
  have p7 : w = 256 * q6 + w % 256 := by omega
  clear e0 e1 e2 e3 e4 e5 e6 e7 d0 d1 d2 d3 d4 d5 d6 hq0 hq1 hq2 hq3 hq4 hq5 hq6
  rw [p0]
  generalize q1 % 256 = r1 at *
  generalize q2 % 256 = r2 at *
  generalize q3 % 256 = r3 at *
  generalize q4 % 256 = r4 at *
  generalize q5 % 256 = r5 at *
  generalize q6 % 256 = r6 at *
  generalize w % 256 = r7 at *
  omega
/-- What was seen as bytes, one behind the other. -/
def encS : List Seen → List Int
  | [] => []
  | x :: xs => vb (word x.key).toNat ++ (vb (IntKind.u64.wrap x.ver).toNat ++ encS xs)
theorem encS_len : ∀ l : List Seen, (encS l).length ≤ 20 * l.length
  | [] => Nat.le_refl _
  | x :: xs => by
    have h1 := vb_len (n := (word x.key).toNat) (by have := (word_ok x.key); omega)
    have h2 := vb_len (n := (IntKind.u64.wrap x.ver).toNat) (by have := wrap_lt64 x.ver; have := wrap_nn64 x.ver; omega)
    have := encS_len xs
    unfold encS
    rw [List.length_append, List.length_append, List.length_cons]; omega
theorem bodyO_l0_eq : ∀ (xs : List Seen) (i : Nat) (b : List Int), bodyO_l0 xs i b = b ++ encS xs
  | [], _, b => by
    unfold bodyO_l0 encS
    rw [List.append_nil]
  | x :: xs, i, b => by
    unfold bodyO_l0 encS
    rw [bodyO_l0_eq xs, wPut2O_eq _ _ _ (word_ok _).1 (wrap_nn64 _), List.append_assoc, List.append_assoc]
/-- What was seen as bytes. -/
def encB (l : List Seen) : List Int := vb (IntKind.u64.wrap (l.length : Int)).toNat ++ encS l
theorem bodyO_eq (l : Sl Seen) : bodyO l = encB l.D := by
  unfold bodyO encB
  rw [bodyO_l0_eq, wPutO_eq _ _ (wrap_nn64 _)]; rfl
theorem encB_len (l : List Seen) : (encB l).length ≤ 10 + 20 * l.length := by
  have h2 := vb_len (n := (IntKind.u64.wrap (l.length : Int)).toNat) (by have := wrap_lt64 (l.length : Int); have := wrap_nn64 (l.length : Int); omega)
  have := encS_len l
  unfold encB
  rw [List.length_append]; omega
theorem bodyO_len (l : Sl Seen) : (bodyO l).length ≤ 10 + 20 * l.D.length := by
  rw [bodyO_eq]; exact encB_len l.D
theorem markR_len (key b : Sl Int) : (markR key b).1.D.length = 8 := rfl
theorem encS_B8 : ∀ l : List Seen, B8 (encS l)
  | [], x, h => nomatch h
  | y :: l, x, h => by
    rcases List.mem_append.1 (show x ∈ vb (word y.key).toNat ++ (vb (IntKind.u64.wrap y.ver).toNat ++ encS l) from h) with h | h
    · exact vb_B8 _ x h
    · rcases List.mem_append.1 h with h | h
      · exact vb_B8 _ x h
      · exact encS_B8 l x h
theorem encB_B8 (l : List Seen) : B8 (encB l) := fun x hx => by
  rcases List.mem_append.1 hx with h | h
  · exact vb_B8 _ x h
  · exact encS_B8 l x h
def pMake (key : (Sl Int)) (l : (Sl Seen)) : (Sl Int) × Int :=
  (bif ((pRight l) != 0) then ((Sl.mk true []), (pRight l)) else (bif (((markR key (Sl.mk false (bodyO l))).2) != 0) then ((Sl.mk true []), (markR key (Sl.mk false (bodyO l))).2) else (bif ((l.D.length : Int) == 0) then ((Sl.mk true []), (markR key (Sl.mk false (bodyO l))).2) else ((Sl.mk false ((bodyO l) ++ ((markR key (Sl.mk false (bodyO l))).1.D))), 0))))
theorem pMake_calls (key : (Sl Int)) (l : (Sl Seen)) (hl : ∀ x ∈ l.D, KeyB x.key) (hl1 : l.D.length ≤ 1000) : PCalls Tryd.prog 15 [sS (some key.nil) (eI .u8) key.D, sS (some l.nil) eSeen l.D] (.tup [sS (some (pMake key l).1.nil) (eI .u8) ((pMake key l).1.D), .pv (.lit (.int .i64 ((pMake key l).2)))]) := by
 generalize hR : pMake key l = R
 refine PCalls.of_body tabOk Tryd.func15 rfl rfl rfl rfl rfl mixed fun E hP C hI => ?_
 refine Awp.consP C ?_
 refine rvP C (sS (some true) (eI .u8) []) ?_
 refine rvP C (.pv (.lit (.int .i64 0))) ?_
 refine rvc_nil ?_
 refine Awp.seq ?_
 refine Awp.consP C ?_
 refine rvP C (sS (some l.nil) eSeen l.D) ?_
 refine rvc_un (rexec_call hP C rfl rfl rfl (pRight_calls l hl (Nat.le_trans hl1 (by decide))) ?_)
 refine rvP C (.pv (.lit (.int .i64 (pRight l)))) ?_
 refine rvc_nil ?_
 refine Awp.consP C ?_
 refine rvP C (.pv (.lit (.int .i64 (pRight l)))) ?_
 refine rvP C (.pv (.lit (.bool ((pRight l) != 0)))) ?_
 refine rvc_nil ?_
 refine Awp.cond (b := ((pRight l) != 0)) rfl (fun h1 => ?_) (fun h1 => ?_)
 ·
  replace hR := of_true h1 hR
  refine Awp.consP C ?_
  refine rvP C (.pv (.lit (.int .i64 (pRight l)))) ?_
  refine rvP C (sS (some true) (eI .u8) []) ?_
  refine rvP C (.pv (.lit (.int .i64 (pRight l)))) ?_
  refine rvc_nil ?_
  refine Awp.ret ?_
  subst hR
  exact ⟨.inl rfl, rfl⟩
 ·
  replace hR := of_false h1 hR
  refine Awp.skip ?_
  refine Awp.cons C (fun _ => .quiet) (by kernel_rfl) ?_
  refine rvP C (sS (some l.nil) eSeen l.D) ?_
  refine rvc_un (rexec_callO hP C rfl rfl rfl rfl (bodyO_calls l hl1) ?_)
  refine rvP C (.sl 16 0 ((bodyO l).length) 1 false) ?_
  refine rvc_nil ?_
  refine Awp.cons C (fun _ => .writer) (by kernel_rfl) ?_
  refine rvP C (sS (some key.nil) (eI .u8) key.D) ?_
  refine rvP C (.sl 16 0 ((bodyO l).length) 1 false) ?_
  refine rvc_un (rexec_callM hP C (b := 16) rfl rfl rfl (markR_calls key (Sl.mk false (bodyO l)) ((bodyO l).length) false rfl (by have := bodyO_len l; show (bodyO l).length ≤ 1000000; omega)) rfl rfl ?_)
  refine rvP C (.tup [sS (some (markR key (Sl.mk false (bodyO l))).1.nil) (eI .u8) ((markR key (Sl.mk false (bodyO l))).1.D), .pv (.lit (.int .i64 ((markR key (Sl.mk false (bodyO l))).2)))]) ?_
  refine rvP C (sS (some (markR key (Sl.mk false (bodyO l))).1.nil) (eI .u8) ((markR key (Sl.mk false (bodyO l))).1.D)) ?_
  refine rvP C (.pv (.lit (.int .i64 ((markR key (Sl.mk false (bodyO l))).2)))) ?_
  refine rvP C (sS (some (markR key (Sl.mk false (bodyO l))).1.nil) (eI .u8) ((markR key (Sl.mk false (bodyO l))).1.D)) ?_
  refine rvP C (.pv (.lit (.int .i64 ((markR key (Sl.mk false (bodyO l))).2)))) ?_
  refine rvc_nil ?_
  refine Awp.seq ?_
  refine Awp.consP C ?_
  refine rvP C (.pv (.lit (.int .i64 ((markR key (Sl.mk false (bodyO l))).2)))) ?_
  refine rvP C (.pv (.lit (.bool (((markR key (Sl.mk false (bodyO l))).2) != 0)))) ?_
  refine rvP C (.pv (.lit (.bool (((markR key (Sl.mk false (bodyO l))).2) != 0)))) ?_
  refine rvc_case 25 (((markR key (Sl.mk false (bodyO l))).2) != 0) rfl (fun h2 => ?_) (fun h2 => ?_)
  ·
   replace hR := of_true h2 hR
   refine rvS ?_
   refine rvS ?_
   refine rvS ?_
   refine rvP C (.pv (.lit (.bool true))) ?_
   refine rvc_nil ?_
   refine Awp.condT (b := true) rfl rfl ?_
   refine Awp.consP C ?_
   refine rvP C (.pv (.lit (.int .i64 ((markR key (Sl.mk false (bodyO l))).2)))) ?_
   refine rvP C (sS (some true) (eI .u8) []) ?_
   refine rvP C (.pv (.lit (.int .i64 ((markR key (Sl.mk false (bodyO l))).2)))) ?_
   refine rvc_nil ?_
   refine Awp.ret ?_
   subst hR
   exact ⟨.inl rfl, rfl⟩
  ·
   replace hR := of_false h2 hR
   refine rvO C (sS (some l.nil) eSeen l.D) ?_
   refine rvO C (.pv (.lit (.int .i64 (l.D.length : Int)))) ?_
   refine rvO C (.pv (.lit (.bool ((l.D.length : Int) == 0)))) ?_
   refine rvP C (.pv (.lit (.bool ((l.D.length : Int) == 0)))) ?_
   refine rvc_nil ?_
   refine Awp.cond (b := ((l.D.length : Int) == 0)) rfl (fun h3 => ?_) (fun h3 => ?_)
   ·
    replace hR := of_true h3 hR
    refine Awp.consP C ?_
    refine rvP C (.pv (.lit (.int .i64 ((markR key (Sl.mk false (bodyO l))).2)))) ?_
    refine rvP C (sS (some true) (eI .u8) []) ?_
    refine rvP C (.pv (.lit (.int .i64 ((markR key (Sl.mk false (bodyO l))).2)))) ?_
    refine rvc_nil ?_
    refine Awp.ret ?_
    subst hR
    exact ⟨.inl rfl, rfl⟩
   ·
    replace hR := of_false h3 hR
    refine Awp.skip ?_
    refine Awp.consP C ?_
    refine rvP C (.sl 16 0 ((bodyO l).length) 1 false) ?_
    refine rvP C (sS (some (markR key (Sl.mk false (bodyO l))).1.nil) (eI .u8) ((markR key (Sl.mk false (bodyO l))).1.D)) ?_
    refine rvc_un (rexec_append C rfl rfl rfl rfl rfl rfl rfl rfl (fun _ h => by cases h) rfl (en := (eI .u8)) (D0 := (bodyO l)) (D := ((markR key (Sl.mk false (bodyO l))).1.D)) rfl rfl rfl rfl (by have := bodyO_len l; rw [markR_len]; show (2 * ((bodyO l).length + 8) + 192) * 1 ≤ 281474976710656; omega) (by decide) (nn := ((bodyO l) ++ ((markR key (Sl.mk false (bodyO l))).1.D)).length) (by simp) ?_)
    refine rvP C (.sl 33 0 (((bodyO l) ++ ((markR key (Sl.mk false (bodyO l))).1.D)).length) 1 false) ?_
    refine rvP C (.pv (.lit (.int .i64 0))) ?_
    refine rvc_nil ?_
    refine Awp.freezeW 33 (encL (eI .u8) ((bodyO l) ++ ((markR key (Sl.mk false (bodyO l))).1.D))) ?_ [(4, sS (some false) (eI .u8) ((bodyO l) ++ ((markR key (Sl.mk false (bodyO l))).1.D))), (5, .pv (.lit (.int .i64 0)))] [] ?_ ?_ ?_
    · rfl
    · exact ⟨⟨_, rfl, .inl (.inr ⟨_, _, _, rfl, rfl⟩)⟩, ⟨_, rfl, .inl (.inl rfl)⟩, trivial⟩
    · exact trivial
    refine Awp.ret ?_
    subst hR
    exact ⟨.inl rfl, rfl⟩
def rpMake_l1 (x : Seen) (kk : Int → ((Sl Int) × Int)) : Nat → Nat → Int → (Sl Int) × Int
  | 0, _, w => kk w
  | k + 1, i1, w => rpMake_l1 x kk k (i1 + 1) (IntKind.u64.wrap ((IntKind.u64.wrap (256 * w)) + (IntKind.u64.wrap (x.key i1))))
def rpMake_l0 (secret : (Sl Int)) : List Seen → Nat → (List Int) → (Sl Int) × Int
  | [], _, b => ((Sl.mk false (b ++ ((tbF ((rOf secret (Sl.mk false b)).1) 16 0).take 8))), 0)
  | x :: xs, i, b => rpMake_l1 x (fun w => rpMake_l0 secret xs (i + 1) (rPutO (Sl.mk false b) (Sl.mk false [w, (IntKind.u64.wrap x.ver)]))) 8 0 0
def rpMake (secret : (Sl Int)) (l : (Sl Seen)) : (Sl Int) × Int :=
  (bif ((rpRight l) != 0) then ((Sl.mk true []), (rpRight l)) else (bif ((secret.D.length : Int) != 16) then ((Sl.mk true []), 1) else (bif ((l.D.length : Int) == 0) then ((Sl.mk true []), 0) else rpMake_l0 secret l.D 0 (rPutO (Sl.mk true []) (Sl.mk false [(IntKind.u64.wrap (l.D.length : Int))])))))
theorem rpMake_calls (secret : (Sl Int)) (l : (Sl Seen)) (hk : R8l secret.D) (hl : ∀ x ∈ l.D, KeyB x.key) (hl1 : l.D.length ≤ 1000) : PCalls Tryd.prog 16 [sS (some secret.nil) (eI .u8) secret.D, sS (some l.nil) eSeen l.D] (.tup [sS (some (rpMake secret l).1.nil) (eI .u8) ((rpMake secret l).1.D), .pv (.lit (.int .i64 ((rpMake secret l).2)))]) := by
 generalize hR : rpMake secret l = R
 refine PCalls.of_body tabOk Tryd.func16 rfl rfl rfl rfl rfl mixed fun E hP C hI => ?_
 refine Awp.consP C ?_
 refine rvP C (sS (some true) (eI .u8) []) ?_
 refine rvP C (.pv (.lit (.int .i64 0))) ?_
 refine rvc_nil ?_
 refine Awp.seq ?_
 refine Awp.consP C ?_
 refine rvP C (sS (some l.nil) eSeen l.D) ?_
 refine rvc_un (rexec_call hP C rfl rfl rfl (rpRight_calls l hl (Nat.le_trans hl1 (by decide))) ?_)
 refine rvP C (.pv (.lit (.int .i64 (rpRight l)))) ?_
 refine rvc_nil ?_
 refine Awp.consP C ?_
 refine rvP C (.pv (.lit (.int .i64 (rpRight l)))) ?_
 refine rvP C (.pv (.lit (.bool ((rpRight l) != 0)))) ?_
 refine rvc_nil ?_
 refine Awp.cond (b := ((rpRight l) != 0)) rfl (fun h1 => ?_) (fun h1 => ?_)
 ·
  replace hR := of_true h1 hR
  refine Awp.consP C ?_
  refine rvP C (.pv (.lit (.int .i64 (rpRight l)))) ?_
  refine rvP C (sS (some true) (eI .u8) []) ?_
  refine rvP C (.pv (.lit (.int .i64 (rpRight l)))) ?_
  refine rvc_nil ?_
  refine Awp.ret ?_
  subst hR
  exact ⟨.inl rfl, rfl⟩
 ·
  replace hR := of_false h1 hR
  refine Awp.skip ?_
  refine Awp.seq ?_
  refine Awp.consP C ?_
  refine rvP C (sS (some secret.nil) (eI .u8) secret.D) ?_
  refine rvP C (.pv (.lit (.int .i64 (secret.D.length : Int)))) ?_
  refine rvP C (.pv (.lit (.bool ((secret.D.length : Int) != 16)))) ?_
  refine rvc_nil ?_
  refine Awp.cond (b := ((secret.D.length : Int) != 16)) rfl (fun h2 => ?_) (fun h2 => ?_)
  ·
   replace hR := of_true h2 hR
   refine Awp.consP C ?_
   refine rvP C (sS (some true) (eI .u8) []) ?_
   refine rvP C (.pv (.lit (.int .i64 1))) ?_
   refine rvc_nil ?_
   refine Awp.ret ?_
   subst hR
   exact ⟨.inl rfl, rfl⟩
  ·
   replace hR := of_false h2 hR
   refine Awp.skip ?_
   refine Awp.seq ?_
   refine Awp.consP C ?_
   refine rvP C (sS (some l.nil) eSeen l.D) ?_
   refine rvP C (.pv (.lit (.int .i64 (l.D.length : Int)))) ?_
   refine rvP C (.pv (.lit (.bool ((l.D.length : Int) == 0)))) ?_
   refine rvc_nil ?_
   refine Awp.cond (b := ((l.D.length : Int) == 0)) rfl (fun h3 => ?_) (fun h3 => ?_)
   ·
    replace hR := of_true h3 hR
    refine Awp.consP C ?_
    refine rvP C (sS (some true) (eI .u8) []) ?_
    refine rvP C (.pv (.lit (.int .i64 0))) ?_
    refine rvc_nil ?_
    refine Awp.ret ?_
    subst hR
    exact ⟨.inl rfl, rfl⟩
   ·
    replace hR := of_false h3 hR
    refine Awp.skip ?_
    refine Awp.cons C (fun _ => .quiet) (by kernel_rfl) ?_
    refine rvP C (sS (some l.nil) eSeen l.D) ?_
    refine rvP C (.pv (.lit (.int .i64 (l.D.length : Int)))) ?_
    refine rvP C (.pv (.lit (.int .u64 (IntKind.u64.wrap (l.D.length : Int))))) ?_
    refine rvc_un (rexec_buildSliceF C (eI .u64) [(IntKind.u64.wrap (l.D.length : Int))] rfl rfl rfl rfl rfl rfl rfl (by decide) rfl ?_)
    refine rvc_un (rexec_callO hP C rfl rfl rfl rfl (rPutO_calls (Sl.mk true []) (Sl.mk false [(IntKind.u64.wrap (l.D.length : Int))]) (by simp) (by simp)) ?_)
    refine rvP C (.sl 30 0 ((rPutO (Sl.mk true []) (Sl.mk false [(IntKind.u64.wrap (l.D.length : Int))])).length) 1 false) ?_
    refine rvc_nil ?_
    refine Awp.seq ?_
    refine Awp.consP C ?_
    refine rvP C (sS (some l.nil) eSeen l.D) ?_
    refine rvP C (.pv (.lit (.int .i64 (l.D.length : Int)))) ?_
    refine rvP C (.pv (.lit (.int .i64 0))) ?_
    refine rvc_nil ?_
    refine Awp.block ?_
    refine Awp.forR (σ := ((List Int))) (l.D.length) (fun i v => [(0, sS (some secret.nil) (eI .u8) secret.D), (7, .sl 900 0 v.length 1 false), (31, sS (some l.nil) eSeen l.D), (32, .pv (.lit (.int .i64 (l.D.length : Int)))), (33, .pv (.lit (.int .i64 (i : Int))))]) (fun i v => [(900, .cells (encC (eI .u8) v))]) [900] (fun i v => (rpMake_l0 secret (l.D.drop i) i v = R) ∧ (B8 v) ∧ (v.length ≤ (rPutO (Sl.mk true []) (Sl.mk false [(IntKind.u64.wrap (l.D.length : Int))])).length + i * 20)) (rPutO (Sl.mk true []) (Sl.mk false [(IntKind.u64.wrap (l.D.length : Int))])) ?_ ?_ (fun i b h4 hR => ?_)
    · exact ⟨hR, (rPutO_B8 (fun _ h => nomatch h) (rng1 (wrapU64 _))), (by first | (simp only [Nat.zero_mul, Nat.add_zero, Nat.le_refl]; done) | (have := rPutO_len (Sl.mk false b) (Sl.mk false [w, IntKind.u64.wrap x.ver]) (rng2 hW (wrapU64 _)); simp only [List.length_cons, List.length_nil] at this; omega) | omega)⟩
    · exact ⟨fun b => bif b == 900 then 30 else (fun b => b) b, WeakerR.ofL (Ks := [900]) hI ⟨⟨rfl, rfl⟩, ⟨rfl, rfl⟩, ⟨rfl, rfl⟩, ⟨rfl, rfl⟩, ⟨rfl, rfl⟩, trivial⟩ (okH_list rfl rfl rfl (okH_nil)) rfl⟩
    obtain ⟨hR, hV, hi_b⟩ := hR
    replace hi_b : b.length ≤ (rPutO (Sl.mk true []) (Sl.mk false [(IntKind.u64.wrap (l.D.length : Int))])).length + i * 20 := hi_b
    have hw0_ := rPutO_len (Sl.mk true []) (Sl.mk false [IntKind.u64.wrap (l.D.length : Int)]) (rng1 (wrapU64 _))
    simp only [List.length_cons, List.length_nil] at hw0_
    refine Awp.consP C ?_
    refine rvP C (.pv (.lit (.bool (decide ((i : Int) < (l.D.length : Int)))))) ?_
    refine rvc_nil ?_
    refine Awp.seq ?_
    refine Awp.cond (b := (decide ((i : Int) < (l.D.length : Int)))) rfl (fun h5 => ?_) (fun h5 => ?_)
    ·
     have h6 : i < l.D.length := by have := of_decide_eq_true h5; omega
     obtain ⟨x, h7⟩ := getX h6
     rw [drop_at h7] at hR
     refine Awp.skip ?_
     refine Awp.seq ?_
     refine Awp.block ?_
     refine Awp.consP C ?_
     refine rvc_un (rexec_idxS C rfl rfl rfl rfl rfl rfl x (Int.natCast_nonneg _) h7 ?_)
     refine rvP C (.agg [.pv (.lit (.int .u8 (x.key 0))), .pv (.lit (.int .u8 (x.key 1))), .pv (.lit (.int .u8 (x.key 2))), .pv (.lit (.int .u8 (x.key 3))), .pv (.lit (.int .u8 (x.key 4))), .pv (.lit (.int .u8 (x.key 5))), .pv (.lit (.int .u8 (x.key 6))), .pv (.lit (.int .u8 (x.key 7))), .pv (.lit (.int .i64 x.ver))]) ?_
     refine rvc_un (rexec_prim C (δ := { v := .ptr 9 0, new := [(9, .cells [.pv (.lit (.int .u8 0)), .pv (.lit (.int .u8 0)), .pv (.lit (.int .u8 0)), .pv (.lit (.int .u8 0)), .pv (.lit (.int .u8 0)), .pv (.lit (.int .u8 0)), .pv (.lit (.int .u8 0)), .pv (.lit (.int .u8 0)), .pv (.lit (.int .i64 0))])] }) rfl rfl rfl rfl trivial rfl ?_)
     refine rvc_un (rexec_prim C (δ := { v := .undef, wr := [(9, some (.cells [.pv (.lit (.int .u8 (x.key 0))), .pv (.lit (.int .u8 (x.key 1))), .pv (.lit (.int .u8 (x.key 2))), .pv (.lit (.int .u8 (x.key 3))), .pv (.lit (.int .u8 (x.key 4))), .pv (.lit (.int .u8 (x.key 5))), .pv (.lit (.int .u8 (x.key 6))), .pv (.lit (.int .u8 (x.key 7))), .pv (.lit (.int .i64 x.ver))]))] }) rfl rfl rfl rfl trivial rfl ?_)
     refine rvc_nil ?_
     refine Awp.consP C ?_
     refine rvP C (.pv (.lit (.int .u64 0))) ?_
     refine rvc_nil ?_
     refine Awp.seq ?_
     refine Awp.consP C ?_
     refine rvP C (.ptr 9 0) ?_
     refine rvP C (.agg [.pv (.lit (.int .u8 (x.key 0))), .pv (.lit (.int .u8 (x.key 1))), .pv (.lit (.int .u8 (x.key 2))), .pv (.lit (.int .u8 (x.key 3))), .pv (.lit (.int .u8 (x.key 4))), .pv (.lit (.int .u8 (x.key 5))), .pv (.lit (.int .u8 (x.key 6))), .pv (.lit (.int .u8 (x.key 7)))]) ?_
     refine rvP C (.pv (.lit (.int .i64 0))) ?_
     refine rvc_nil ?_
     refine Awp.block ?_
     refine Awp.forR (σ := Int) (8) (fun i1 v => [(0, sS (some secret.nil) (eI .u8) secret.D), (7, .sl 900 0 b.length 1 false), (9, .ptr 9 0), (10, .pv (.lit (.int .u64 v))), (31, sS (some l.nil) eSeen l.D), (32, .pv (.lit (.int .i64 (l.D.length : Int)))), (33, .pv (.lit (.int .i64 (i : Int)))), (38, .agg [.pv (.lit (.int .u8 (x.key 0))), .pv (.lit (.int .u8 (x.key 1))), .pv (.lit (.int .u8 (x.key 2))), .pv (.lit (.int .u8 (x.key 3))), .pv (.lit (.int .u8 (x.key 4))), .pv (.lit (.int .u8 (x.key 5))), .pv (.lit (.int .u8 (x.key 6))), .pv (.lit (.int .u8 (x.key 7)))]), (39, .pv (.lit (.int .i64 (i1 : Int))))]) (fun i1 v => [(900, .cells (encC (eI .u8) b)), (9, .cells [.pv (.lit (.int .u8 (x.key 0))), .pv (.lit (.int .u8 (x.key 1))), .pv (.lit (.int .u8 (x.key 2))), .pv (.lit (.int .u8 (x.key 3))), .pv (.lit (.int .u8 (x.key 4))), .pv (.lit (.int .u8 (x.key 5))), .pv (.lit (.int .u8 (x.key 6))), .pv (.lit (.int .u8 (x.key 7))), .pv (.lit (.int .i64 x.ver))])]) [9, 900] (fun i1 v => (rpMake_l1 x (fun w => rpMake_l0 secret (l.D.drop (i + 1)) (i + 1) (rPutO (Sl.mk false b) (Sl.mk false [w, (IntKind.u64.wrap x.ver)]))) (8 - i1) i1 v = R) ∧ (U64 v)) 0 ?_ ?_ (fun i1 w h8 hR => ?_)
     · exact ⟨hR, (by exact ⟨by decide, by decide⟩)⟩
     · exact ⟨fun b => b, WeakerR.ofL (Ks := [9, 900]) hI ⟨⟨rfl, rfl⟩, ⟨rfl, rfl⟩, ⟨rfl, rfl⟩, ⟨rfl, rfl⟩, ⟨rfl, rfl⟩, ⟨rfl, rfl⟩, ⟨rfl, rfl⟩, ⟨rfl, rfl⟩, ⟨rfl, rfl⟩, trivial⟩ (okH_list rfl rfl rfl (okH_cons rfl rfl rfl rfl (okH_nil))) rfl⟩
     obtain ⟨hR, hW⟩ := hR
     refine Awp.consP C ?_
     refine rvP C (.pv (.lit (.bool (decide ((i1 : Int) < 8))))) ?_
     refine rvc_nil ?_
     refine Awp.seq ?_
     refine Awp.cond (b := (decide ((i1 : Int) < 8))) rfl (fun h9 => ?_) (fun h9 => ?_)
     ·
      have h10 : i1 < 8 := by have := of_decide_eq_true h9; omega
      obtain ⟨k, h11⟩ : ∃ k, 8 - i1 = k + 1 := ⟨8 - i1 - 1, by omega⟩
      rw [h11] at hR
      refine Awp.skip ?_
      refine Awp.seq ?_
      refine Awp.block ?_
      refine Awp.consP C ?_
      refine rvc_un (rexec_idxA C (fun j => .pv (.lit (.int .u8 (x.key j)))) (.pv (.lit (.int .u8 (x.key i1)))) rfl rfl rfl rfl rfl rfl rfl rfl ⟨(by have := eq_of_bne_false h1; have := eq_of_bne_false h2; have := ne_of_beq_false h3; have := of_decide_eq_true h5; have := of_decide_eq_true h9; omega), (by have := eq_of_bne_false h1; have := eq_of_bne_false h2; have := ne_of_beq_false h3; have := of_decide_eq_true h5; have := of_decide_eq_true h9; omega)⟩ rfl ?_)
      refine rvP C (.pv (.lit (.int .u8 (x.key i1)))) ?_
      refine rvc_nil ?_
      refine Awp.regionP C ?_
      refine rvP C (.pv (.lit (.int .u64 w))) ?_
      refine rvP C (.pv (.lit (.int .u64 (IntKind.u64.wrap (256 * w))))) ?_
      refine rvP C (.pv (.lit (.int .u8 (x.key i1)))) ?_
      refine rvP C (.pv (.lit (.int .u64 (IntKind.u64.wrap (x.key i1))))) ?_
      refine rvP C (.pv (.lit (.int .u64 (IntKind.u64.wrap ((IntKind.u64.wrap (256 * w)) + (IntKind.u64.wrap (x.key i1))))))) ?_
      refine rvP C (.pv (.lit (.int .u64 (IntKind.u64.wrap ((IntKind.u64.wrap (256 * w)) + (IntKind.u64.wrap (x.key i1))))))) ?_
      refine rvc_nil ?_
      refine Awp.regionP C ?_
      refine rvP C (.pv (.lit (.int .i64 (IntKind.i64.wrap ((i1 : Int) + 1))))) ?_
      refine rvP C (.pv (.lit (.int .i64 (IntKind.i64.wrap ((i1 : Int) + 1))))) ?_
      refine rvc_nil ?_
      refine ⟨h10, (IntKind.u64.wrap ((IntKind.u64.wrap (256 * w)) + (IntKind.u64.wrap (x.key i1)))), ?_, ?_⟩
      · exact ⟨(by rw [show 8 - (i1 + 1) = k by omega]; exact hR), (wrapU64 _)⟩
      · exact ⟨fun b => b, WeakerR.ofL (Ks := [9, 900]) hI ⟨⟨rfl, rfl⟩, ⟨rfl, rfl⟩, ⟨rfl, rfl⟩, ⟨rfl, rfl⟩, ⟨rfl, rfl⟩, ⟨rfl, rfl⟩, ⟨rfl, rfl⟩, ⟨rfl, rfl⟩, ⟨lit_cast (wrap_i64 (by omega) (by omega)), rfl⟩, trivial⟩ (okH_list rfl rfl rfl (okH_cons rfl rfl rfl rfl (okH_nil))) rfl⟩
     ·
      rw [show 8 - i1 = 0 by have := of_decide_eq_false h9; omega] at hR
      refine Awp.exit ?_
      refine Awp.freezeW 900 (encL (eI .u8) b) ?_ [(0, sS (some secret.nil) (eI .u8) secret.D), (7, sS (some false) (eI .u8) b), (9, .ptr 9 0), (10, .pv (.lit (.int .u64 w))), (31, sS (some l.nil) eSeen l.D), (32, .pv (.lit (.int .i64 (l.D.length : Int)))), (33, .pv (.lit (.int .i64 (i : Int))))] [(9, .cells [.pv (.lit (.int .u8 (x.key 0))), .pv (.lit (.int .u8 (x.key 1))), .pv (.lit (.int .u8 (x.key 2))), .pv (.lit (.int .u8 (x.key 3))), .pv (.lit (.int .u8 (x.key 4))), .pv (.lit (.int .u8 (x.key 5))), .pv (.lit (.int .u8 (x.key 6))), .pv (.lit (.int .u8 (x.key 7))), .pv (.lit (.int .i64 x.ver))])] ?_ ?_ ?_
      · rfl
      · exact ⟨⟨_, rfl, .inl (.inl rfl)⟩, ⟨_, rfl, .inl (.inr ⟨_, _, _, rfl, rfl⟩)⟩, ⟨_, rfl, .inl (.inl rfl)⟩, ⟨_, rfl, .inl (.inl rfl)⟩, ⟨_, rfl, .inl (.inl rfl)⟩, ⟨_, rfl, .inl (.inl rfl)⟩, ⟨_, rfl, .inl (.inl rfl)⟩, trivial⟩
      · exact ⟨⟨(by show (9 : Nat) ≠ 900; decide), .inl rfl⟩, trivial⟩
      refine Awp.region C (fun _ => .quiet) (by kernel_rfl) ?_
      refine rvP C (sS (some false) (eI .u8) b) ?_
      refine rvP C (.pv (.lit (.int .u64 w))) ?_
      refine rvP C (.ptr 9 8) ?_
      refine rvP C (.pv (.lit (.int .i64 x.ver))) ?_
      refine rvP C (.pv (.lit (.int .u64 (IntKind.u64.wrap x.ver)))) ?_
      refine rvc_un (rexec_buildSliceF C (eI .u64) [w, (IntKind.u64.wrap x.ver)] rfl rfl rfl rfl rfl rfl rfl (by decide) rfl ?_)
      refine rvc_un (rexec_callO hP C rfl rfl rfl rfl (rPutO_calls (Sl.mk false b) (Sl.mk false [w, (IntKind.u64.wrap x.ver)]) (by show b.length ≤ 1000000; omega) (by simp)) ?_)
      refine rvP C (.sl 54 0 ((rPutO (Sl.mk false b) (Sl.mk false [w, (IntKind.u64.wrap x.ver)])).length) 1 false) ?_
      refine rvc_nil ?_
      refine Awp.regionP C ?_
      refine rvP C (.pv (.lit (.int .i64 (IntKind.i64.wrap ((i : Int) + 1))))) ?_
      refine rvP C (.pv (.lit (.int .i64 (IntKind.i64.wrap ((i : Int) + 1))))) ?_
      refine rvc_nil ?_
      refine ⟨h6, (rPutO (Sl.mk false b) (Sl.mk false [w, (IntKind.u64.wrap x.ver)])), ?_, ?_⟩
      · exact ⟨hR, (rPutO_B8 hV (rng2 hW (wrapU64 _))), (by first | (simp only [Nat.zero_mul, Nat.add_zero, Nat.le_refl]; done) | (have := rPutO_len (Sl.mk false b) (Sl.mk false [w, IntKind.u64.wrap x.ver]) (rng2 hW (wrapU64 _)); simp only [List.length_cons, List.length_nil] at this; omega) | omega)⟩
      · exact ⟨fun b => bif b == 900 then 54 else (fun b => b) b, WeakerR.ofL (Ks := [900]) hI ⟨⟨rfl, rfl⟩, ⟨rfl, rfl⟩, ⟨rfl, rfl⟩, ⟨rfl, rfl⟩, ⟨lit_cast (wrap_i64 (by omega) (by omega)), rfl⟩, trivial⟩ (okH_list rfl rfl rfl (okH_nil)) rfl⟩
    ·
     have h6 : ¬ i < l.D.length := by have := of_decide_eq_false h5; omega
     rw [drop_end h6] at hR
     refine Awp.exit ?_
     refine Awp.cons C (fun _ => .writer) (by kernel_rfl) ?_
     refine rvP C (sS (some secret.nil) (eI .u8) secret.D) ?_
     refine rvP C (.sl 900 0 b.length 1 false) ?_
     refine rvc_un (rexec_callM hP C (b := 900) rfl rfl rfl (rOfR_calls secret (Sl.mk false b) b.length false rfl hk (R8l_of hV) (by show b.length ≤ 1000000; omega)) rfl rfl ?_)
     refine rvP C (.tup [.agg [.pv (.lit (.int .u8 ((rOf secret (Sl.mk false b)).1 0))), .pv (.lit (.int .u8 ((rOf secret (Sl.mk false b)).1 1))), .pv (.lit (.int .u8 ((rOf secret (Sl.mk false b)).1 2))), .pv (.lit (.int .u8 ((rOf secret (Sl.mk false b)).1 3))), .pv (.lit (.int .u8 ((rOf secret (Sl.mk false b)).1 4))), .pv (.lit (.int .u8 ((rOf secret (Sl.mk false b)).1 5))), .pv (.lit (.int .u8 ((rOf secret (Sl.mk false b)).1 6))), .pv (.lit (.int .u8 ((rOf secret (Sl.mk false b)).1 7))), .pv (.lit (.int .u8 ((rOf secret (Sl.mk false b)).1 8))), .pv (.lit (.int .u8 ((rOf secret (Sl.mk false b)).1 9))), .pv (.lit (.int .u8 ((rOf secret (Sl.mk false b)).1 10))), .pv (.lit (.int .u8 ((rOf secret (Sl.mk false b)).1 11))), .pv (.lit (.int .u8 ((rOf secret (Sl.mk false b)).1 12))), .pv (.lit (.int .u8 ((rOf secret (Sl.mk false b)).1 13))), .pv (.lit (.int .u8 ((rOf secret (Sl.mk false b)).1 14))), .pv (.lit (.int .u8 ((rOf secret (Sl.mk false b)).1 15)))], .pv (.lit (.int .i64 ((rOf secret (Sl.mk false b)).2)))]) ?_
     refine rvP C (.agg [.pv (.lit (.int .u8 ((rOf secret (Sl.mk false b)).1 0))), .pv (.lit (.int .u8 ((rOf secret (Sl.mk false b)).1 1))), .pv (.lit (.int .u8 ((rOf secret (Sl.mk false b)).1 2))), .pv (.lit (.int .u8 ((rOf secret (Sl.mk false b)).1 3))), .pv (.lit (.int .u8 ((rOf secret (Sl.mk false b)).1 4))), .pv (.lit (.int .u8 ((rOf secret (Sl.mk false b)).1 5))), .pv (.lit (.int .u8 ((rOf secret (Sl.mk false b)).1 6))), .pv (.lit (.int .u8 ((rOf secret (Sl.mk false b)).1 7))), .pv (.lit (.int .u8 ((rOf secret (Sl.mk false b)).1 8))), .pv (.lit (.int .u8 ((rOf secret (Sl.mk false b)).1 9))), .pv (.lit (.int .u8 ((rOf secret (Sl.mk false b)).1 10))), .pv (.lit (.int .u8 ((rOf secret (Sl.mk false b)).1 11))), .pv (.lit (.int .u8 ((rOf secret (Sl.mk false b)).1 12))), .pv (.lit (.int .u8 ((rOf secret (Sl.mk false b)).1 13))), .pv (.lit (.int .u8 ((rOf secret (Sl.mk false b)).1 14))), .pv (.lit (.int .u8 ((rOf secret (Sl.mk false b)).1 15)))]) ?_
     refine rvP C (.pv (.lit (.int .i64 ((rOf secret (Sl.mk false b)).2)))) ?_
     refine rvc_un (rexec_prim C (δ := { v := .ptr 13 0, new := [(13, .cells [.pv (.lit (.int .u8 0)), .pv (.lit (.int .u8 0)), .pv (.lit (.int .u8 0)), .pv (.lit (.int .u8 0)), .pv (.lit (.int .u8 0)), .pv (.lit (.int .u8 0)), .pv (.lit (.int .u8 0)), .pv (.lit (.int .u8 0)), .pv (.lit (.int .u8 0)), .pv (.lit (.int .u8 0)), .pv (.lit (.int .u8 0)), .pv (.lit (.int .u8 0)), .pv (.lit (.int .u8 0)), .pv (.lit (.int .u8 0)), .pv (.lit (.int .u8 0)), .pv (.lit (.int .u8 0))])] }) rfl rfl rfl rfl trivial rfl ?_)
     refine rvc_un (rexec_prim C (δ := { v := .undef, wr := [(13, some (.cells [.pv (.lit (.int .u8 ((rOf secret (Sl.mk false b)).1 0))), .pv (.lit (.int .u8 ((rOf secret (Sl.mk false b)).1 1))), .pv (.lit (.int .u8 ((rOf secret (Sl.mk false b)).1 2))), .pv (.lit (.int .u8 ((rOf secret (Sl.mk false b)).1 3))), .pv (.lit (.int .u8 ((rOf secret (Sl.mk false b)).1 4))), .pv (.lit (.int .u8 ((rOf secret (Sl.mk false b)).1 5))), .pv (.lit (.int .u8 ((rOf secret (Sl.mk false b)).1 6))), .pv (.lit (.int .u8 ((rOf secret (Sl.mk false b)).1 7))), .pv (.lit (.int .u8 ((rOf secret (Sl.mk false b)).1 8))), .pv (.lit (.int .u8 ((rOf secret (Sl.mk false b)).1 9))), .pv (.lit (.int .u8 ((rOf secret (Sl.mk false b)).1 10))), .pv (.lit (.int .u8 ((rOf secret (Sl.mk false b)).1 11))), .pv (.lit (.int .u8 ((rOf secret (Sl.mk false b)).1 12))), .pv (.lit (.int .u8 ((rOf secret (Sl.mk false b)).1 13))), .pv (.lit (.int .u8 ((rOf secret (Sl.mk false b)).1 14))), .pv (.lit (.int .u8 ((rOf secret (Sl.mk false b)).1 15)))]))] }) rfl rfl rfl rfl trivial rfl ?_)
     refine rvP C (.pv (.lit (.int .i64 ((rOf secret (Sl.mk false b)).2)))) ?_
     refine rvc_nil ?_
     refine Awp.freezeP 13 [.lit (.int .u8 ((rOf secret (Sl.mk false b)).1 0)), .lit (.int .u8 ((rOf secret (Sl.mk false b)).1 1)), .lit (.int .u8 ((rOf secret (Sl.mk false b)).1 2)), .lit (.int .u8 ((rOf secret (Sl.mk false b)).1 3)), .lit (.int .u8 ((rOf secret (Sl.mk false b)).1 4)), .lit (.int .u8 ((rOf secret (Sl.mk false b)).1 5)), .lit (.int .u8 ((rOf secret (Sl.mk false b)).1 6)), .lit (.int .u8 ((rOf secret (Sl.mk false b)).1 7)), .lit (.int .u8 ((rOf secret (Sl.mk false b)).1 8)), .lit (.int .u8 ((rOf secret (Sl.mk false b)).1 9)), .lit (.int .u8 ((rOf secret (Sl.mk false b)).1 10)), .lit (.int .u8 ((rOf secret (Sl.mk false b)).1 11)), .lit (.int .u8 ((rOf secret (Sl.mk false b)).1 12)), .lit (.int .u8 ((rOf secret (Sl.mk false b)).1 13)), .lit (.int .u8 ((rOf secret (Sl.mk false b)).1 14)), .lit (.int .u8 ((rOf secret (Sl.mk false b)).1 15))] rfl [(7, .sl 900 0 b.length 1 false), (13, .rp [.lit (.int .u8 ((rOf secret (Sl.mk false b)).1 0)), .lit (.int .u8 ((rOf secret (Sl.mk false b)).1 1)), .lit (.int .u8 ((rOf secret (Sl.mk false b)).1 2)), .lit (.int .u8 ((rOf secret (Sl.mk false b)).1 3)), .lit (.int .u8 ((rOf secret (Sl.mk false b)).1 4)), .lit (.int .u8 ((rOf secret (Sl.mk false b)).1 5)), .lit (.int .u8 ((rOf secret (Sl.mk false b)).1 6)), .lit (.int .u8 ((rOf secret (Sl.mk false b)).1 7)), .lit (.int .u8 ((rOf secret (Sl.mk false b)).1 8)), .lit (.int .u8 ((rOf secret (Sl.mk false b)).1 9)), .lit (.int .u8 ((rOf secret (Sl.mk false b)).1 10)), .lit (.int .u8 ((rOf secret (Sl.mk false b)).1 11)), .lit (.int .u8 ((rOf secret (Sl.mk false b)).1 12)), .lit (.int .u8 ((rOf secret (Sl.mk false b)).1 13)), .lit (.int .u8 ((rOf secret (Sl.mk false b)).1 14)), .lit (.int .u8 ((rOf secret (Sl.mk false b)).1 15))])] [(900, .cells (encC (eI .u8) b))] ⟨⟨_, rfl, .inl rfl⟩, ⟨_, rfl, .inr ⟨rfl, rfl⟩⟩, trivial⟩ ⟨⟨(by show (900 : Nat) ≠ 13; decide), rfl⟩, trivial⟩ ?_
     refine Awp.consP C ?_
     refine rvP C (.sl 900 0 b.length 1 false) ?_
     refine rvc_un (rexec_sliceRp C (tbF ((rOf secret (Sl.mk false b)).1) 16 0) 8 rfl rfl rfl rfl rfl rfl (by have := eq_of_bne_false h1; have := eq_of_bne_false h2; have := ne_of_beq_false h3; have := of_decide_eq_false h5; omega) (by have := eq_of_bne_false h1; have := eq_of_bne_false h2; have := ne_of_beq_false h3; have := of_decide_eq_false h5; omega) rfl ?_)
     refine rvc_un (rexec_append C rfl rfl rfl rfl rfl rfl rfl rfl (fun _ h => by cases h) rfl (en := (eI .u8)) (D0 := b) (D := ((tbF ((rOf secret (Sl.mk false b)).1) 16 0).take 8)) rfl rfl rfl rfl (by simp [tbF_len]; omega) (by decide) (nn := (b ++ ((tbF ((rOf secret (Sl.mk false b)).1) 16 0).take 8)).length) (by simp) ?_)
     refine rvP C (.sl 64 0 ((b ++ ((tbF ((rOf secret (Sl.mk false b)).1) 16 0).take 8)).length) 1 false) ?_
     refine rvP C (.pv (.lit (.int .i64 0))) ?_
     refine rvc_nil ?_
     refine Awp.freezeW 64 (encL (eI .u8) (b ++ ((tbF ((rOf secret (Sl.mk false b)).1) 16 0).take 8))) ?_ [(4, sS (some false) (eI .u8) (b ++ ((tbF ((rOf secret (Sl.mk false b)).1) 16 0).take 8))), (5, .pv (.lit (.int .i64 0)))] [] ?_ ?_ ?_
     · rfl
     · exact ⟨⟨_, rfl, .inl (.inr ⟨_, _, _, rfl, rfl⟩)⟩, ⟨_, rfl, .inl (.inl rfl)⟩, trivial⟩
     · exact trivial
     refine Awp.ret ?_
     subst hR
     exact ⟨.inl rfl, rfl⟩
def unword_l0 (w : Int) : Nat → Nat → (Nat → Int) → (Nat → Int)
  | 0, _, vc => vc
  | k + 1, i, vc => unword_l0 w k (i + 1) (updA vc i (IntKind.u8.wrap (shrI .u64 w (IntKind.i64.wrap (56 - (IntKind.i64.wrap (8 * (i : Int))))))))
def unword (w : Int) : (Nat → Int) :=
  unword_l0 w 8 0 (ofL [(0 : Int), 0, 0, 0, 0, 0, 0, 0])
theorem unword_calls (w : Int)  : PCalls Tryd.prog 39 [.pv (.lit (.int .u64 w))] (.agg [.pv (.lit (.int .u8 ((unword w) 0))), .pv (.lit (.int .u8 ((unword w) 1))), .pv (.lit (.int .u8 ((unword w) 2))), .pv (.lit (.int .u8 ((unword w) 3))), .pv (.lit (.int .u8 ((unword w) 4))), .pv (.lit (.int .u8 ((unword w) 5))), .pv (.lit (.int .u8 ((unword w) 6))), .pv (.lit (.int .u8 ((unword w) 7)))]) := by
 generalize hR : unword w = R
 refine PCalls.of_body tabOk Tryd.func39 rfl rfl rfl rfl rfl mixed fun E hP C hI => ?_
 refine Awp.consP C ?_
 refine rvc_un (rexec_prim C (δ := { v := .ptr 2 0, new := [(2, .cells [.pv (.lit (.int .u8 0)), .pv (.lit (.int .u8 0)), .pv (.lit (.int .u8 0)), .pv (.lit (.int .u8 0)), .pv (.lit (.int .u8 0)), .pv (.lit (.int .u8 0)), .pv (.lit (.int .u8 0)), .pv (.lit (.int .u8 0))])] }) rfl rfl rfl rfl trivial rfl ?_)
 refine rvc_nil ?_
 refine Awp.consP C ?_
 refine rvc_un (rexec_prim C (δ := { v := .ptr 3 0, new := [(3, .cells [.pv (.lit (.int .u8 0)), .pv (.lit (.int .u8 0)), .pv (.lit (.int .u8 0)), .pv (.lit (.int .u8 0)), .pv (.lit (.int .u8 0)), .pv (.lit (.int .u8 0)), .pv (.lit (.int .u8 0)), .pv (.lit (.int .u8 0))])] }) rfl rfl rfl rfl trivial rfl ?_)
 refine rvc_nil ?_
 refine Awp.seq ?_
 refine Awp.consP C ?_
 refine rvP C (.pv (.lit (.int .i64 0))) ?_
 refine rvc_nil ?_
 refine Awp.block ?_
 refine Awp.forR (σ := ((Nat → Int))) (8) (fun i v => [(0, .pv (.lit (.int .u64 w))), (2, .ptr 2 0), (3, .ptr 3 0), (5, .pv (.lit (.int .i64 (i : Int))))]) (fun i v => [(2, .cells [.pv (.lit (.int .u8 0)), .pv (.lit (.int .u8 0)), .pv (.lit (.int .u8 0)), .pv (.lit (.int .u8 0)), .pv (.lit (.int .u8 0)), .pv (.lit (.int .u8 0)), .pv (.lit (.int .u8 0)), .pv (.lit (.int .u8 0))]), (3, .cells [.pv (.lit (.int .u8 (v 0))), .pv (.lit (.int .u8 (v 1))), .pv (.lit (.int .u8 (v 2))), .pv (.lit (.int .u8 (v 3))), .pv (.lit (.int .u8 (v 4))), .pv (.lit (.int .u8 (v 5))), .pv (.lit (.int .u8 (v 6))), .pv (.lit (.int .u8 (v 7)))])]) [2, 3] (fun i v => unword_l0 w (8 - i) i v = R) (ofL [(0 : Int), 0, 0, 0, 0, 0, 0, 0]) ?_ ?_ (fun i vc h1 hR => ?_)
 · exact hR
 · exact ⟨fun b => b, WeakerR.ofL (Ks := [2, 3]) hI ⟨⟨rfl, rfl⟩, ⟨rfl, rfl⟩, ⟨rfl, rfl⟩, ⟨rfl, rfl⟩, trivial⟩ (okH_cons rfl rfl rfl rfl (okH_cons rfl rfl rfl rfl (okH_nil))) rfl⟩
 refine Awp.consP C ?_
 refine rvP C (.pv (.lit (.bool (decide ((i : Int) < 8))))) ?_
 refine rvc_nil ?_
 refine Awp.seq ?_
 refine Awp.cond (b := (decide ((i : Int) < 8))) rfl (fun h2 => ?_) (fun h2 => ?_)
 ·
  have h3 : i < 8 := by have := of_decide_eq_true h2; omega
  obtain ⟨k, h4⟩ : ∃ k, 8 - i = k + 1 := ⟨8 - i - 1, by omega⟩
  rw [h4] at hR
  refine Awp.skip ?_
  refine Awp.seq ?_
  refine Awp.block ?_
  refine Awp.consP C ?_
  refine rvP C (.pv (.lit (.int .i64 (i : Int)))) ?_
  refine rvP C (.pv (.lit (.int .i64 (i : Int)))) ?_
  refine rvc_nil ?_
  refine Awp.regionP C ?_
  refine rvP C (.pv (.lit (.int .i64 (i : Int)))) ?_
  refine rvP C (.pv (.lit (.int .u64 w))) ?_
  refine rvP C (.pv (.lit (.int .i64 (i : Int)))) ?_
  refine rvP C (.pv (.lit (.int .i64 (IntKind.i64.wrap (8 * (i : Int)))))) ?_
  refine rvP C (.pv (.lit (.int .i64 (IntKind.i64.wrap (56 - (IntKind.i64.wrap (8 * (i : Int)))))))) ?_
  refine rvc_un (rexec_prim C (δ := { v := .pv (.lit (.int .u64 (shrI .u64 w (IntKind.i64.wrap (56 - (IntKind.i64.wrap (8 * (i : Int)))))))) }) rfl rfl rfl rfl (by have := wrapI (8 * (i : Int)); have := wrapI (56 - IntKind.i64.wrap (8 * (i : Int))); omega) rfl ?_)
  refine rvP C (.pv (.lit (.int .u8 (IntKind.u8.wrap (shrI .u64 w (IntKind.i64.wrap (56 - (IntKind.i64.wrap (8 * (i : Int)))))))))) ?_
  refine rvc_un (rexec_prim C (δ := { v := .ptr 3 (0 + i * 1) }) rfl rfl rfl rfl ⟨(by have := of_decide_eq_true h2; omega), (by have := of_decide_eq_true h2; omega)⟩ rfl ?_)
  refine rvc_un (rexec_storeA C [] [] (fun z => .lit (.int .u8 z)) vc 8 i (IntKind.u8.wrap (shrI .u64 w (IntKind.i64.wrap (56 - (IntKind.i64.wrap (8 * (i : Int))))))) [.pv (.lit (.int .u8 ((updA vc i (IntKind.u8.wrap (shrI .u64 w (IntKind.i64.wrap (56 - (IntKind.i64.wrap (8 * (i : Int)))))))) 0))), .pv (.lit (.int .u8 ((updA vc i (IntKind.u8.wrap (shrI .u64 w (IntKind.i64.wrap (56 - (IntKind.i64.wrap (8 * (i : Int)))))))) 1))), .pv (.lit (.int .u8 ((updA vc i (IntKind.u8.wrap (shrI .u64 w (IntKind.i64.wrap (56 - (IntKind.i64.wrap (8 * (i : Int)))))))) 2))), .pv (.lit (.int .u8 ((updA vc i (IntKind.u8.wrap (shrI .u64 w (IntKind.i64.wrap (56 - (IntKind.i64.wrap (8 * (i : Int)))))))) 3))), .pv (.lit (.int .u8 ((updA vc i (IntKind.u8.wrap (shrI .u64 w (IntKind.i64.wrap (56 - (IntKind.i64.wrap (8 * (i : Int)))))))) 4))), .pv (.lit (.int .u8 ((updA vc i (IntKind.u8.wrap (shrI .u64 w (IntKind.i64.wrap (56 - (IntKind.i64.wrap (8 * (i : Int)))))))) 5))), .pv (.lit (.int .u8 ((updA vc i (IntKind.u8.wrap (shrI .u64 w (IntKind.i64.wrap (56 - (IntKind.i64.wrap (8 * (i : Int)))))))) 6))), .pv (.lit (.int .u8 ((updA vc i (IntKind.u8.wrap (shrI .u64 w (IntKind.i64.wrap (56 - (IntKind.i64.wrap (8 * (i : Int)))))))) 7)))] rfl rfl rfl rfl rfl rfl (by have := of_decide_eq_true h2; omega) rfl ?_)
  refine rvc_nil ?_
  refine Awp.regionP C ?_
  refine rvP C (.pv (.lit (.int .i64 (IntKind.i64.wrap ((i : Int) + 1))))) ?_
  refine rvP C (.pv (.lit (.int .i64 (IntKind.i64.wrap ((i : Int) + 1))))) ?_
  refine rvc_nil ?_
  refine ⟨h3, (updA vc i (IntKind.u8.wrap (shrI .u64 w (IntKind.i64.wrap (56 - (IntKind.i64.wrap (8 * (i : Int)))))))), ?_, ?_⟩
  · exact (by rw [show 8 - (i + 1) = k by omega]; exact hR)
  · exact ⟨fun b => b, WeakerR.ofL (Ks := [2, 3]) hI ⟨⟨rfl, rfl⟩, ⟨rfl, rfl⟩, ⟨rfl, rfl⟩, ⟨lit_cast (wrap_i64 (by omega) (by omega)), rfl⟩, trivial⟩ (okH_cons rfl rfl rfl rfl (okH_cons rfl rfl rfl rfl (okH_nil))) rfl⟩
 ·
  rw [show 8 - i = 0 by have := of_decide_eq_false h2; omega] at hR
  refine Awp.exit ?_
  refine Awp.consP C ?_
  refine rvP C (.agg [.pv (.lit (.int .u8 (vc 0))), .pv (.lit (.int .u8 (vc 1))), .pv (.lit (.int .u8 (vc 2))), .pv (.lit (.int .u8 (vc 3))), .pv (.lit (.int .u8 (vc 4))), .pv (.lit (.int .u8 (vc 5))), .pv (.lit (.int .u8 (vc 6))), .pv (.lit (.int .u8 (vc 7)))]) ?_
  refine rvc_un (rexec_prim C (δ := { v := .undef, wr := [(2, some (.cells [.pv (.lit (.int .u8 (vc 0))), .pv (.lit (.int .u8 (vc 1))), .pv (.lit (.int .u8 (vc 2))), .pv (.lit (.int .u8 (vc 3))), .pv (.lit (.int .u8 (vc 4))), .pv (.lit (.int .u8 (vc 5))), .pv (.lit (.int .u8 (vc 6))), .pv (.lit (.int .u8 (vc 7)))]))] }) rfl rfl rfl rfl trivial rfl ?_)
  refine rvc_nil ?_
  refine Awp.ret ?_
  subst hR
  exact ⟨.inl rfl, rfl⟩
/-- So many of what was seen, out of bytes; and what is left. -/
def decS : Nat → List Int → Option (List Seen × List Int)
  | 0, l => some ([], l)
  | n + 1, l => match vd 0 l with
    | none => none
    | some (w, r) => match rin 1 1099511627776 r with
      | none => none
      | some (v, r2) => match decS n r2 with
        | none => none
        | some (xs, r3) => some (Seen.mk (unw (w : Int)) (v : Int) :: xs, r3)
def back (x : Seen) : Seen := Seen.mk (unw (word x.key)) x.ver
theorem rin_some {lo hi : Int} {l : List Int} {n : Nat} {r : List Int} (h : rin lo hi l = some (n, r)) : vd 0 l = some (n, r) ∧ (n : Int) ≤ 4611686018427387904 ∧ lo ≤ (n : Int) ∧ (n : Int) ≤ hi := by
  unfold rin at h
  cases hv : vd 0 l with
  | none => rw [hv] at h; cases h
  | some q =>
    obtain ⟨m, s⟩ := q
    rw [hv] at h
    dsimp only at h
    by_cases hc : (m : Int) ≤ 4611686018427387904 ∧ lo ≤ (m : Int) ∧ (m : Int) ≤ hi
    · rw [if_pos hc] at h
      injection h with h; injection h with h1 h2
      subst h1; subst h2
      exact ⟨rfl, hc⟩
    · rw [if_neg hc] at h; cases h
theorem decS_enc : ∀ (xs : List Seen) (r : List Int), (∀ x ∈ xs, 1 ≤ x.ver ∧ x.ver ≤ 1099511627776) → decS xs.length (encS xs ++ r) = some (xs.map back, r)
  | [], r, _ => rfl
  | x :: xs, r, h => by
    have hx := h x (by simp)
    have hw := word_ok x.key
    have e1 : vd 0 (vb (word x.key).toNat ++ (vb (IntKind.u64.wrap x.ver).toNat ++ (encS xs ++ r))) = some ((word x.key).toNat, vb (IntKind.u64.wrap x.ver).toNat ++ (encS xs ++ r)) := vb_vd _ 0 _ (by omega) (fun q => absurd q (Nat.lt_irrefl 0))
    have hv : IntKind.u64.wrap x.ver = x.ver := by rw [wrapU]; omega
    have e2 : vd 0 (vb x.ver.toNat ++ (encS xs ++ r)) = some (x.ver.toNat, encS xs ++ r) := vb_vd _ 0 _ (by omega) (fun q => absurd q (Nat.lt_irrefl 0))
    have e3 : rin 1 1099511627776 (vb x.ver.toNat ++ (encS xs ++ r)) = some (x.ver.toNat, encS xs ++ r) := by
      unfold rin
      rw [e2]
      dsimp only
      rw [if_pos (by omega)]
    rw [hv] at e1
    show decS (xs.length + 1) (vb (word x.key).toNat ++ (vb (IntKind.u64.wrap x.ver).toNat ++ encS xs) ++ r) = _
    rw [hv, List.append_assoc, List.append_assoc]
    unfold decS
    rw [e1]
    dsimp only
    rw [e3]
    dsimp only
    rw [decS_enc xs r fun y hy => h y (by simp [hy])]
    dsimp only
    rw [Int.toNat_of_nonneg hw.1, Int.toNat_of_nonneg (by omega)]
    rfl
theorem enc_decS : ∀ (n : Nat) (l : List Int) (xs : List Seen) (r : List Int), (∀ x ∈ l, 0 ≤ x ∧ x < 256) → decS n l = some (xs, r) → l = encS xs ++ r ∧ xs.length = n ∧ KB xs ∧ (∀ x ∈ xs, 1 ≤ x.ver ∧ x.ver ≤ 1099511627776) ∧ xs.map back = xs
  | 0, l, xs, r, _, h => by
    unfold decS at h
    injection h with h; injection h with h1 h2
    subst h1; subst h2
    exact ⟨rfl, rfl, (fun x hx => nomatch hx), (fun x hx => nomatch hx), rfl⟩
  | n + 1, l, xs, r, hD, h => by
    unfold decS at h
    cases e1 : vd 0 l with
    | none => rw [e1] at h; cases h
    | some q =>
      obtain ⟨w, r1⟩ := q
      rw [e1] at h
      dsimp only at h
      obtain ⟨f1, _, f3⟩ := vd_vb 0 l w r1 hD e1
      have hD1 : ∀ x ∈ r1, 0 ≤ x ∧ x < 256 := fun x hx => hD x (by rw [f1]; simp [hx])
      cases e2 : rin 1 1099511627776 r1 with
      | none => rw [e2] at h; cases h
      | some q =>
        obtain ⟨v, r2⟩ := q
        rw [e2] at h
        dsimp only at h
        obtain ⟨g1, g2, g3, g4⟩ := rin_some e2
        obtain ⟨k1, _, _⟩ := vd_vb 0 r1 v r2 hD1 g1
        have hD2 : ∀ x ∈ r2, 0 ≤ x ∧ x < 256 := fun x hx => hD1 x (by rw [k1]; simp [hx])
        cases e3 : decS n r2 with
        | none => rw [e3] at h; cases h
        | some q =>
          obtain ⟨ys, r3⟩ := q
          rw [e3] at h
          dsimp only at h
          injection h with h; injection h with h1 h2
          subst h1; subst h2
          obtain ⟨i1, i2, i3, i4, i5⟩ := enc_decS n r2 ys r3 hD2 e3
          have hw : word (unw (w : Int)) = (w : Int) := word_unw (by omega) (by omega)
          refine ⟨?_, by rw [List.length_cons, i2], ?_, ?_, ?_⟩
          · unfold encS
            have hv : IntKind.u64.wrap (v : Int) = (v : Int) := by rw [wrapU]; omega
            dsimp only
            rw [hw, hv, Int.toNat_natCast, Int.toNat_natCast, List.append_assoc, List.append_assoc, ← i1, ← k1, ← f1]
          · intro x hx
            rcases List.mem_cons.1 hx with rfl | hx
            · exact unw_B _
            · exact i3 x hx
          · intro x hx
            rcases List.mem_cons.1 hx with rfl | hx
            · exact ⟨g3, g4⟩
            · exact i4 x hx
          · rw [List.map_cons, i5]
            unfold back
            dsimp only
            rw [hw]
theorem unword_l0_at (w : Int) : ∀ (k i : Nat) (vc : Nat → Int) (t : Nat), k + i = 8 → unword_l0 w k i vc t = if i ≤ t ∧ t < 8 then unw w t else vc t
  | 0, i, vc, t, h => by
    unfold unword_l0
    rw [if_neg (by omega)]
  | k + 1, i, vc, t, h => by
    unfold unword_l0
    rw [unword_l0_at w k (i + 1) _ t (by omega)]
    by_cases h1 : i + 1 ≤ t ∧ t < 8
    · rw [if_pos h1, if_pos ⟨by omega, h1.2⟩]
    · rw [if_neg h1]
      unfold updA
      by_cases h2 : t = i
      · subst h2
        have e : IntKind.i64.wrap (56 - (IntKind.i64.wrap (8 * (t : Int)))) = ((56 - 8 * t : Nat) : Int) := by
          have := wrapI (8 * (t : Int)); have := wrapI (56 - IntKind.i64.wrap (8 * (t : Int))); omega
        rw [show (t == t) = true from beq_self_eq_true t, cond_true, if_pos ⟨Nat.le_refl _, by omega⟩, e]; rfl
      · rw [show (t == i) = false by simpa using h2, cond_false, if_neg (by omega)]
theorem unword_at (w : Int) {t : Nat} (ht : t < 8) : unword w t = unw w t := by
  unfold unword
  rw [unword_l0_at w 8 0 _ t rfl, if_pos ⟨Nat.zero_le _, ht⟩]
theorem unword_B (w : Int) : KeyB (unword w) := fun j hj => by rw [unword_at w hj]; exact unw_B w j hj
theorem kL_unword (w : Int) : kL (unword w) = kL (unw w) := tbF_congr 8 0 fun t _ ht => unword_at w (by omega)
theorem KB_snoc {l : List Seen} {k : Nat → Int} {v : Int} (h : KB l) (hk : KeyB k) : KB (l ++ [Seen.mk k v]) := fun x hx => by
  rcases List.mem_append.1 hx with hx | hx
  · exact h x hx
  · rw [List.mem_singleton.1 hx]; exact hk
theorem KB_snoc2 {l : List Seen} {x : Seen} (h : KB l) (hk : KeyB x.key) : KB (l ++ [x]) := KB_snoc h hk
theorem Z8_B : KeyB Z8 := fun j hj => by
  rcases (by omega : j = 0 ∨ j = 1 ∨ j = 2 ∨ j = 3 ∨ j = 4 ∨ j = 5 ∨ j = 6 ∨ j = 7) with rfl | rfl | rfl | rfl | rfl | rfl | rfl | rfl <;> decide
theorem KB_upd {k : Nat → Int} {i : Nat} {x : Int} (h : KeyB k) : KeyB (updA k i (IntKind.u8.wrap x)) := fun j hj => by
  unfold updA
  cases (j == i)
  · exact h j hj
  · rw [cond_true, wrap_u8]; omega
theorem rdIn_hi (r : Reader) (lo hi : Int) (h : 0 ≤ hi) : (rdIn r lo hi).2 ≤ hi := by
  unfold rdIn
  cases (rdErr (rdNum r).1 != 0)
  · rw [cond_false]
    cases decide ((rdNum r).2 > 4611686018427387904)
    · rw [cond_false]
      cases decide (IntKind.i64.wrap (rdNum r).2 < lo)
      · rw [cond_false]
        cases e : decide (IntKind.i64.wrap (rdNum r).2 > hi)
        · rw [cond_false]
          have := of_decide_eq_false e
          dsimp only; omega
        · exact h
      · exact h
    · exact h
  · exact h
theorem rrIn_hi (r : Reader69) (lo hi : Int) (h : 0 ≤ hi) : (rrIn r lo hi).2 ≤ hi := by
  unfold rrIn
  cases e0 : ((rrNum r).1.e_ == 0)
  · have e1 : ((rrNum r).1.e_ != 0) = true := by simp [bne, e0]
    rw [cond_false, e1]; exact h
  · have e1 : ((rrNum r).1.e_ != 0) = false := by simp [bne, e0]
    rw [cond_true, e1]
    cases decide ((rrNum r).2 > 4611686018427387904)
    · rw [cond_false]
      cases decide (IntKind.i64.wrap (rrNum r).2 < lo)
      · rw [cond_false]
        cases e : decide (IntKind.i64.wrap (rrNum r).2 > hi)
        · rw [cond_false]
          have := of_decide_eq_false e
          show IntKind.i64.wrap (rrNum r).2 ≤ hi
          omega
        · exact h
      · exact h
    · exact h
theorem mid_eq {i j : Int} (h1 : 0 ≤ i) (h2 : i ≤ j) (h3 : j ≤ 1000000) : IntKind.i64.wrap (shrI .u64 (IntKind.u64.wrap (IntKind.i64.wrap (i + j))) 1) = (i + j) / 2 := by
  have e1 : IntKind.i64.wrap (i + j) = i + j := wrapP (by omega)
  have e2 : IntKind.u64.wrap (i + j) = i + j := by rw [wrapU]; omega
  have e3 : shrI .u64 (i + j) 1 = (i + j) / 2 := rfl
  rw [e1, e2, e3, wrapP (by omega)]
def bsearch_l0 (x : (Sl Seen)) (target : (Nat → Int)) (cmp : Seen → (Nat → Int) → Int) : Nat → Int → Int → Int × Bool
  | 0, _, _ => default
  | nn + 1, i, j => (bif (decide (i < j)) then (bif (decide ((cmp (Seen.mk (ofL [(x.D[(IntKind.i64.wrap (shrI .u64 (IntKind.u64.wrap (IntKind.i64.wrap (i + j))) 1)).toNat]!.key 0), (x.D[(IntKind.i64.wrap (shrI .u64 (IntKind.u64.wrap (IntKind.i64.wrap (i + j))) 1)).toNat]!.key 1), (x.D[(IntKind.i64.wrap (shrI .u64 (IntKind.u64.wrap (IntKind.i64.wrap (i + j))) 1)).toNat]!.key 2), (x.D[(IntKind.i64.wrap (shrI .u64 (IntKind.u64.wrap (IntKind.i64.wrap (i + j))) 1)).toNat]!.key 3), (x.D[(IntKind.i64.wrap (shrI .u64 (IntKind.u64.wrap (IntKind.i64.wrap (i + j))) 1)).toNat]!.key 4), (x.D[(IntKind.i64.wrap (shrI .u64 (IntKind.u64.wrap (IntKind.i64.wrap (i + j))) 1)).toNat]!.key 5), (x.D[(IntKind.i64.wrap (shrI .u64 (IntKind.u64.wrap (IntKind.i64.wrap (i + j))) 1)).toNat]!.key 6), (x.D[(IntKind.i64.wrap (shrI .u64 (IntKind.u64.wrap (IntKind.i64.wrap (i + j))) 1)).toNat]!.key 7)]) (x.D[(IntKind.i64.wrap (shrI .u64 (IntKind.u64.wrap (IntKind.i64.wrap (i + j))) 1)).toNat]!.ver)) target) < 0)) then bsearch_l0 x target cmp nn (IntKind.i64.wrap ((IntKind.i64.wrap (shrI .u64 (IntKind.u64.wrap (IntKind.i64.wrap (i + j))) 1)) + 1)) j else bsearch_l0 x target cmp nn i (IntKind.i64.wrap (shrI .u64 (IntKind.u64.wrap (IntKind.i64.wrap (i + j))) 1))) else (bif (decide (i < (x.D.length : Int))) then (i, ((cmp (Seen.mk (ofL [(x.D[i.toNat]!.key 0), (x.D[i.toNat]!.key 1), (x.D[i.toNat]!.key 2), (x.D[i.toNat]!.key 3), (x.D[i.toNat]!.key 4), (x.D[i.toNat]!.key 5), (x.D[i.toNat]!.key 6), (x.D[i.toNat]!.key 7)]) (x.D[i.toNat]!.ver)) target) == 0)) else (i, false)))
def bsearch (x : (Sl Seen)) (target : (Nat → Int)) (cmp : Seen → (Nat → Int) → Int) : Int × Bool :=
  bsearch_l0 x target cmp (((x.D.length : Int) - 0).toNat + 1) 0 (x.D.length : Int)
theorem bsearch_calls (x : (Sl Seen)) (target : (Nat → Int)) (cmp : Seen → (Nat → Int) → Int) (g2 : Nat) (caps2 : List AV) (hp2 : ∀ (x0 : Seen) (x1 : (Nat → Int)), PCalls Tryd.prog g2 ([.agg [.pv (.lit (.int .u8 (x0.key 0))), .pv (.lit (.int .u8 (x0.key 1))), .pv (.lit (.int .u8 (x0.key 2))), .pv (.lit (.int .u8 (x0.key 3))), .pv (.lit (.int .u8 (x0.key 4))), .pv (.lit (.int .u8 (x0.key 5))), .pv (.lit (.int .u8 (x0.key 6))), .pv (.lit (.int .u8 (x0.key 7))), .pv (.lit (.int .i64 x0.ver))], .agg [.pv (.lit (.int .u8 (x1 0))), .pv (.lit (.int .u8 (x1 1))), .pv (.lit (.int .u8 (x1 2))), .pv (.lit (.int .u8 (x1 3))), .pv (.lit (.int .u8 (x1 4))), .pv (.lit (.int .u8 (x1 5))), .pv (.lit (.int .u8 (x1 6))), .pv (.lit (.int .u8 (x1 7)))]] ++ caps2) (.pv (.lit (.int .i64 (cmp x0 x1))))) (hw2 : AV.withinL (fun _ => false) caps2 = true) (hn : x.D.length ≤ 1000000) : PCalls Tryd.prog 62 [sS (some x.nil) eSeen x.D, .agg [.pv (.lit (.int .u8 (target 0))), .pv (.lit (.int .u8 (target 1))), .pv (.lit (.int .u8 (target 2))), .pv (.lit (.int .u8 (target 3))), .pv (.lit (.int .u8 (target 4))), .pv (.lit (.int .u8 (target 5))), .pv (.lit (.int .u8 (target 6))), .pv (.lit (.int .u8 (target 7)))], .fn g2 [] caps2] (.tup [.pv (.lit (.int .i64 ((bsearch x target cmp).1))), .pv (.lit (.bool ((bsearch x target cmp).2)))]) := by
 generalize hR : bsearch x target cmp = R
 refine PCalls.of_body tabOk Tryd.func62 rfl rfl rfl (by simp [AV.withinL, AV.within, sS, hw2]) rfl mixed fun E hP C hI => ?_
 refine Awp.consP C ?_
 refine rvc_un (rexec_prim C (δ := { v := .ptr 4 0, new := [(4, .cells [.pv (.lit (.int .u8 (target 0))), .pv (.lit (.int .u8 (target 1))), .pv (.lit (.int .u8 (target 2))), .pv (.lit (.int .u8 (target 3))), .pv (.lit (.int .u8 (target 4))), .pv (.lit (.int .u8 (target 5))), .pv (.lit (.int .u8 (target 6))), .pv (.lit (.int .u8 (target 7)))])] }) rfl rfl rfl rfl trivial rfl ?_)
 refine rvP C (.pv (.lit (.int .i64 0))) ?_
 refine rvP C (.pv (.lit (.bool false))) ?_
 refine rvc_nil ?_
 refine Awp.consP C ?_
 refine rvP C (sS (some x.nil) eSeen x.D) ?_
 refine rvP C (.pv (.lit (.int .i64 (x.D.length : Int)))) ?_
 refine rvP C (.pv (.lit (.int .i64 (x.D.length : Int)))) ?_
 refine rvc_nil ?_
 refine Awp.consP C ?_
 refine rvP C (.pv (.lit (.int .i64 (x.D.length : Int)))) ?_
 refine rvP C (.pv (.lit (.int .i64 0))) ?_
 refine rvP C (.pv (.lit (.int .i64 (x.D.length : Int)))) ?_
 refine rvc_nil ?_
 refine Awp.seq ?_
 refine Awp.block ?_
 refine Awp.forM (σ := Int × Int) (fun v => [(0, sS (some x.nil) eSeen x.D), (2, .fn g2 [] caps2), (4, .ptr 4 0), (8, .pv (.lit (.int .i64 (x.D.length : Int)))), (9, .pv (.lit (.int .i64 v.1))), (10, .pv (.lit (.int .i64 v.2)))]) (fun v => [(4, .cells [.pv (.lit (.int .u8 (target 0))), .pv (.lit (.int .u8 (target 1))), .pv (.lit (.int .u8 (target 2))), .pv (.lit (.int .u8 (target 3))), .pv (.lit (.int .u8 (target 4))), .pv (.lit (.int .u8 (target 5))), .pv (.lit (.int .u8 (target 6))), .pv (.lit (.int .u8 (target 7)))])]) [4] (fun n v => (v.2 - v.1).toNat ≤ n ∧ bsearch_l0 x target cmp (n + 1) v.1 v.2 = R ∧ (0 ≤ v.1 ∧ v.1 ≤ v.2 ∧ v.2 ≤ (x.D.length : Int))) (((x.D.length : Int) - 0).toNat) (0, (x.D.length : Int)) ?_ ?_ (fun n_ v h1 => ?_)
 · exact ⟨Nat.le_refl _, hR, (by dsimp only; omega)⟩
 · exact ⟨fun b => b, WeakerR.ofL (Ks := [4]) hI ⟨⟨rfl, rfl⟩, ⟨fn_to rfl hw2, fn_win hw2⟩, ⟨rfl, rfl⟩, ⟨rfl, rfl⟩, ⟨rfl, rfl⟩, ⟨rfl, rfl⟩, trivial⟩ (okH_cons rfl rfl rfl rfl (okH_nil)) rfl⟩
 obtain ⟨i, j⟩ := v
 obtain ⟨hm_, hR, hV⟩ := h1
 replace hm_ : (j - i).toNat ≤ n_ := hm_
 replace hV : 0 ≤ i ∧ i ≤ j ∧ j ≤ (x.D.length : Int) := hV
 have hm_ := mid_eq hV.1 hV.2.1 (by omega)
 refine Awp.seq ?_
 refine Awp.consP C ?_
 refine rvP C (.pv (.lit (.int .i64 i))) ?_
 refine rvP C (.pv (.lit (.int .i64 j))) ?_
 refine rvP C (.pv (.lit (.bool (decide (i < j))))) ?_
 refine rvc_nil ?_
 refine Awp.cond (b := (decide (i < j))) rfl (fun h3 => ?_) (fun h3 => ?_)
 ·
  replace hR := of_true h3 hR
  refine Awp.skip ?_
  refine Awp.block ?_
  refine Awp.consP C ?_
  refine rvP C (.pv (.lit (.int .i64 i))) ?_
  refine rvP C (.pv (.lit (.int .i64 j))) ?_
  refine rvP C (.pv (.lit (.int .i64 (IntKind.i64.wrap (i + j))))) ?_
  refine rvP C (.pv (.lit (.int .u64 (IntKind.u64.wrap (IntKind.i64.wrap (i + j)))))) ?_
  refine rvc_un (rexec_prim C (δ := { v := .pv (.lit (.int .u64 (shrI .u64 (IntKind.u64.wrap (IntKind.i64.wrap (i + j))) 1))) }) rfl rfl rfl rfl (by first | decide | assumption | omega) rfl ?_)
  refine rvP C (.pv (.lit (.int .i64 (IntKind.i64.wrap (shrI .u64 (IntKind.u64.wrap (IntKind.i64.wrap (i + j))) 1))))) ?_
  refine rvP C (.pv (.lit (.int .i64 (IntKind.i64.wrap (shrI .u64 (IntKind.u64.wrap (IntKind.i64.wrap (i + j))) 1))))) ?_
  refine rvc_nil ?_
  refine Awp.consP C ?_
  refine rvP C (.fn g2 [] caps2) ?_
  refine rvP C (sS (some x.nil) eSeen x.D) ?_
  refine rvP C (.pv (.lit (.int .i64 (IntKind.i64.wrap (shrI .u64 (IntKind.u64.wrap (IntKind.i64.wrap (i + j))) 1))))) ?_
  have h4 : x.D[(IntKind.i64.wrap (shrI .u64 (IntKind.u64.wrap (IntKind.i64.wrap (i + j))) 1)).toNat]? = some x.D[(IntKind.i64.wrap (shrI .u64 (IntKind.u64.wrap (IntKind.i64.wrap (i + j))) 1)).toNat]! := getE (by have := wrapI (shrI .u64 (IntKind.u64.wrap (IntKind.i64.wrap (i + j))) 1); have := wrapI (i + j); have := of_decide_eq_true h3; omega)
  refine rvc_un (rexec_idxS C rfl rfl rfl rfl rfl rfl (x.D[(IntKind.i64.wrap (shrI .u64 (IntKind.u64.wrap (IntKind.i64.wrap (i + j))) 1)).toNat]!) (by have := wrapI (shrI .u64 (IntKind.u64.wrap (IntKind.i64.wrap (i + j))) 1); have := wrapI (i + j); have := of_decide_eq_true h3; omega) h4 ?_)
  refine rvP C (.agg [.pv (.lit (.int .u8 (x.D[(IntKind.i64.wrap (shrI .u64 (IntKind.u64.wrap (IntKind.i64.wrap (i + j))) 1)).toNat]!.key 0))), .pv (.lit (.int .u8 (x.D[(IntKind.i64.wrap (shrI .u64 (IntKind.u64.wrap (IntKind.i64.wrap (i + j))) 1)).toNat]!.key 1))), .pv (.lit (.int .u8 (x.D[(IntKind.i64.wrap (shrI .u64 (IntKind.u64.wrap (IntKind.i64.wrap (i + j))) 1)).toNat]!.key 2))), .pv (.lit (.int .u8 (x.D[(IntKind.i64.wrap (shrI .u64 (IntKind.u64.wrap (IntKind.i64.wrap (i + j))) 1)).toNat]!.key 3))), .pv (.lit (.int .u8 (x.D[(IntKind.i64.wrap (shrI .u64 (IntKind.u64.wrap (IntKind.i64.wrap (i + j))) 1)).toNat]!.key 4))), .pv (.lit (.int .u8 (x.D[(IntKind.i64.wrap (shrI .u64 (IntKind.u64.wrap (IntKind.i64.wrap (i + j))) 1)).toNat]!.key 5))), .pv (.lit (.int .u8 (x.D[(IntKind.i64.wrap (shrI .u64 (IntKind.u64.wrap (IntKind.i64.wrap (i + j))) 1)).toNat]!.key 6))), .pv (.lit (.int .u8 (x.D[(IntKind.i64.wrap (shrI .u64 (IntKind.u64.wrap (IntKind.i64.wrap (i + j))) 1)).toNat]!.key 7))), .pv (.lit (.int .i64 (x.D[(IntKind.i64.wrap (shrI .u64 (IntKind.u64.wrap (IntKind.i64.wrap (i + j))) 1)).toNat]!.ver)))]) ?_
  refine rvP C (.agg [.pv (.lit (.int .u8 (target 0))), .pv (.lit (.int .u8 (target 1))), .pv (.lit (.int .u8 (target 2))), .pv (.lit (.int .u8 (target 3))), .pv (.lit (.int .u8 (target 4))), .pv (.lit (.int .u8 (target 5))), .pv (.lit (.int .u8 (target 6))), .pv (.lit (.int .u8 (target 7)))]) ?_
  refine rvc_un (rexec_callV hP C rfl rfl rfl rfl (hp2 (Seen.mk (ofL [(x.D[(IntKind.i64.wrap (shrI .u64 (IntKind.u64.wrap (IntKind.i64.wrap (i + j))) 1)).toNat]!.key 0), (x.D[(IntKind.i64.wrap (shrI .u64 (IntKind.u64.wrap (IntKind.i64.wrap (i + j))) 1)).toNat]!.key 1), (x.D[(IntKind.i64.wrap (shrI .u64 (IntKind.u64.wrap (IntKind.i64.wrap (i + j))) 1)).toNat]!.key 2), (x.D[(IntKind.i64.wrap (shrI .u64 (IntKind.u64.wrap (IntKind.i64.wrap (i + j))) 1)).toNat]!.key 3), (x.D[(IntKind.i64.wrap (shrI .u64 (IntKind.u64.wrap (IntKind.i64.wrap (i + j))) 1)).toNat]!.key 4), (x.D[(IntKind.i64.wrap (shrI .u64 (IntKind.u64.wrap (IntKind.i64.wrap (i + j))) 1)).toNat]!.key 5), (x.D[(IntKind.i64.wrap (shrI .u64 (IntKind.u64.wrap (IntKind.i64.wrap (i + j))) 1)).toNat]!.key 6), (x.D[(IntKind.i64.wrap (shrI .u64 (IntKind.u64.wrap (IntKind.i64.wrap (i + j))) 1)).toNat]!.key 7)]) (x.D[(IntKind.i64.wrap (shrI .u64 (IntKind.u64.wrap (IntKind.i64.wrap (i + j))) 1)).toNat]!.ver)) target) rfl ?_)
  refine rvP C (.pv (.lit (.bool (decide ((cmp (Seen.mk (ofL [(x.D[(IntKind.i64.wrap (shrI .u64 (IntKind.u64.wrap (IntKind.i64.wrap (i + j))) 1)).toNat]!.key 0), (x.D[(IntKind.i64.wrap (shrI .u64 (IntKind.u64.wrap (IntKind.i64.wrap (i + j))) 1)).toNat]!.key 1), (x.D[(IntKind.i64.wrap (shrI .u64 (IntKind.u64.wrap (IntKind.i64.wrap (i + j))) 1)).toNat]!.key 2), (x.D[(IntKind.i64.wrap (shrI .u64 (IntKind.u64.wrap (IntKind.i64.wrap (i + j))) 1)).toNat]!.key 3), (x.D[(IntKind.i64.wrap (shrI .u64 (IntKind.u64.wrap (IntKind.i64.wrap (i + j))) 1)).toNat]!.key 4), (x.D[(IntKind.i64.wrap (shrI .u64 (IntKind.u64.wrap (IntKind.i64.wrap (i + j))) 1)).toNat]!.key 5), (x.D[(IntKind.i64.wrap (shrI .u64 (IntKind.u64.wrap (IntKind.i64.wrap (i + j))) 1)).toNat]!.key 6), (x.D[(IntKind.i64.wrap (shrI .u64 (IntKind.u64.wrap (IntKind.i64.wrap (i + j))) 1)).toNat]!.key 7)]) (x.D[(IntKind.i64.wrap (shrI .u64 (IntKind.u64.wrap (IntKind.i64.wrap (i + j))) 1)).toNat]!.ver)) target) < 0))))) ?_
  refine rvc_nil ?_
  refine Awp.cond (b := (decide ((cmp (Seen.mk (ofL [(x.D[(IntKind.i64.wrap (shrI .u64 (IntKind.u64.wrap (IntKind.i64.wrap (i + j))) 1)).toNat]!.key 0), (x.D[(IntKind.i64.wrap (shrI .u64 (IntKind.u64.wrap (IntKind.i64.wrap (i + j))) 1)).toNat]!.key 1), (x.D[(IntKind.i64.wrap (shrI .u64 (IntKind.u64.wrap (IntKind.i64.wrap (i + j))) 1)).toNat]!.key 2), (x.D[(IntKind.i64.wrap (shrI .u64 (IntKind.u64.wrap (IntKind.i64.wrap (i + j))) 1)).toNat]!.key 3), (x.D[(IntKind.i64.wrap (shrI .u64 (IntKind.u64.wrap (IntKind.i64.wrap (i + j))) 1)).toNat]!.key 4), (x.D[(IntKind.i64.wrap (shrI .u64 (IntKind.u64.wrap (IntKind.i64.wrap (i + j))) 1)).toNat]!.key 5), (x.D[(IntKind.i64.wrap (shrI .u64 (IntKind.u64.wrap (IntKind.i64.wrap (i + j))) 1)).toNat]!.key 6), (x.D[(IntKind.i64.wrap (shrI .u64 (IntKind.u64.wrap (IntKind.i64.wrap (i + j))) 1)).toNat]!.key 7)]) (x.D[(IntKind.i64.wrap (shrI .u64 (IntKind.u64.wrap (IntKind.i64.wrap (i + j))) 1)).toNat]!.ver)) target) < 0))) rfl (fun h5 => ?_) (fun h5 => ?_)
  ·
   replace hR := of_true h5 hR
   refine Awp.regionP C ?_
   refine rvP C (.pv (.lit (.int .i64 (IntKind.i64.wrap (shrI .u64 (IntKind.u64.wrap (IntKind.i64.wrap (i + j))) 1))))) ?_
   refine rvP C (.pv (.lit (.int .i64 (IntKind.i64.wrap ((IntKind.i64.wrap (shrI .u64 (IntKind.u64.wrap (IntKind.i64.wrap (i + j))) 1)) + 1))))) ?_
   refine rvP C (.pv (.lit (.int .i64 (IntKind.i64.wrap ((IntKind.i64.wrap (shrI .u64 (IntKind.u64.wrap (IntKind.i64.wrap (i + j))) 1)) + 1))))) ?_
   refine rvc_nil ?_
   have h6 : (j - (IntKind.i64.wrap ((IntKind.i64.wrap (shrI .u64 (IntKind.u64.wrap (IntKind.i64.wrap (i + j))) 1)) + 1))).toNat < (j - i).toNat := by have := wrapI ((IntKind.i64.wrap (shrI .u64 (IntKind.u64.wrap (IntKind.i64.wrap (i + j))) 1)) + 1); have := wrapI (shrI .u64 (IntKind.u64.wrap (IntKind.i64.wrap (i + j))) 1); have := wrapI (i + j); have := of_decide_eq_true h3; have := of_decide_eq_true h5; omega
   obtain ⟨nn, rfl⟩ : ∃ nn, n_ = nn + 1 := ⟨n_ - 1, by omega⟩
   refine ⟨nn, ((IntKind.i64.wrap ((IntKind.i64.wrap (shrI .u64 (IntKind.u64.wrap (IntKind.i64.wrap (i + j))) 1)) + 1)), j), by omega, ⟨by show (j - (IntKind.i64.wrap ((IntKind.i64.wrap (shrI .u64 (IntKind.u64.wrap (IntKind.i64.wrap (i + j))) 1)) + 1))).toNat ≤ nn; omega, hR, (by have := wrapI ((IntKind.i64.wrap (shrI .u64 (IntKind.u64.wrap (IntKind.i64.wrap (i + j))) 1)) + 1); have := wrapI (shrI .u64 (IntKind.u64.wrap (IntKind.i64.wrap (i + j))) 1); have := wrapI (i + j); have := of_decide_eq_true h3; have := of_decide_eq_true h5; omega)⟩, ?_⟩
   · exact ⟨fun b => b, WeakerR.ofL (Ks := [4]) hI ⟨⟨rfl, rfl⟩, ⟨fn_to rfl hw2, fn_win hw2⟩, ⟨rfl, rfl⟩, ⟨rfl, rfl⟩, ⟨rfl, rfl⟩, ⟨rfl, rfl⟩, trivial⟩ (okH_cons rfl rfl rfl rfl (okH_nil)) rfl⟩
  ·
   replace hR := of_false h5 hR
   refine Awp.regionP C ?_
   refine rvP C (.pv (.lit (.int .i64 (IntKind.i64.wrap (shrI .u64 (IntKind.u64.wrap (IntKind.i64.wrap (i + j))) 1))))) ?_
   refine rvP C (.pv (.lit (.int .i64 (IntKind.i64.wrap (shrI .u64 (IntKind.u64.wrap (IntKind.i64.wrap (i + j))) 1))))) ?_
   refine rvc_nil ?_
   have h7 : ((IntKind.i64.wrap (shrI .u64 (IntKind.u64.wrap (IntKind.i64.wrap (i + j))) 1)) - i).toNat < (j - i).toNat := by have := wrapI (shrI .u64 (IntKind.u64.wrap (IntKind.i64.wrap (i + j))) 1); have := wrapI (i + j); have := of_decide_eq_true h3; have := of_decide_eq_false h5; omega
   obtain ⟨nn, rfl⟩ : ∃ nn, n_ = nn + 1 := ⟨n_ - 1, by omega⟩
   refine ⟨nn, (i, (IntKind.i64.wrap (shrI .u64 (IntKind.u64.wrap (IntKind.i64.wrap (i + j))) 1))), by omega, ⟨by show ((IntKind.i64.wrap (shrI .u64 (IntKind.u64.wrap (IntKind.i64.wrap (i + j))) 1)) - i).toNat ≤ nn; omega, hR, (by have := wrapI (shrI .u64 (IntKind.u64.wrap (IntKind.i64.wrap (i + j))) 1); have := wrapI (i + j); have := of_decide_eq_true h3; have := of_decide_eq_false h5; omega)⟩, ?_⟩
   · exact ⟨fun b => b, WeakerR.ofL (Ks := [4]) hI ⟨⟨rfl, rfl⟩, ⟨fn_to rfl hw2, fn_win hw2⟩, ⟨rfl, rfl⟩, ⟨rfl, rfl⟩, ⟨rfl, rfl⟩, ⟨rfl, rfl⟩, trivial⟩ (okH_cons rfl rfl rfl rfl (okH_nil)) rfl⟩
 ·
  replace hR := of_false h3 hR
  refine Awp.exit ?_
  refine Awp.consP C ?_
  refine rvP C (.pv (.lit (.int .i64 i))) ?_
  refine rvP C (.pv (.lit (.int .i64 i))) ?_
  refine rvP C (.pv (.lit (.int .i64 (x.D.length : Int)))) ?_
  refine rvP C (.pv (.lit (.bool (decide (i < (x.D.length : Int)))))) ?_
  refine rvP C (.pv (.lit (.bool (decide (i < (x.D.length : Int)))))) ?_
  refine rvc_case 39 (decide (i < (x.D.length : Int))) rfl (fun h8 => ?_) (fun h8 => ?_)
  ·
   replace hR := of_true h8 hR
   refine rvO C (.fn g2 [] caps2) ?_
   refine rvO C (sS (some x.nil) eSeen x.D) ?_
   refine rvO C (.pv (.lit (.int .i64 i))) ?_
   have h9 : x.D[i.toNat]? = some x.D[i.toNat]! := getE (by have := of_decide_eq_false h3; have := of_decide_eq_true h8; omega)
   refine rvc_open rfl rfl rfl (rexec_idxS C rfl rfl rfl rfl rfl rfl (x.D[i.toNat]!) (by have := of_decide_eq_false h3; have := of_decide_eq_true h8; omega) h9 ?_)
   refine rvO C (.agg [.pv (.lit (.int .u8 (x.D[i.toNat]!.key 0))), .pv (.lit (.int .u8 (x.D[i.toNat]!.key 1))), .pv (.lit (.int .u8 (x.D[i.toNat]!.key 2))), .pv (.lit (.int .u8 (x.D[i.toNat]!.key 3))), .pv (.lit (.int .u8 (x.D[i.toNat]!.key 4))), .pv (.lit (.int .u8 (x.D[i.toNat]!.key 5))), .pv (.lit (.int .u8 (x.D[i.toNat]!.key 6))), .pv (.lit (.int .u8 (x.D[i.toNat]!.key 7))), .pv (.lit (.int .i64 (x.D[i.toNat]!.ver)))]) ?_
   refine rvO C (.agg [.pv (.lit (.int .u8 (target 0))), .pv (.lit (.int .u8 (target 1))), .pv (.lit (.int .u8 (target 2))), .pv (.lit (.int .u8 (target 3))), .pv (.lit (.int .u8 (target 4))), .pv (.lit (.int .u8 (target 5))), .pv (.lit (.int .u8 (target 6))), .pv (.lit (.int .u8 (target 7)))]) ?_
   refine rvc_open rfl rfl rfl (rexec_callV hP C rfl rfl rfl rfl (hp2 (Seen.mk (ofL [(x.D[i.toNat]!.key 0), (x.D[i.toNat]!.key 1), (x.D[i.toNat]!.key 2), (x.D[i.toNat]!.key 3), (x.D[i.toNat]!.key 4), (x.D[i.toNat]!.key 5), (x.D[i.toNat]!.key 6), (x.D[i.toNat]!.key 7)]) (x.D[i.toNat]!.ver)) target) rfl ?_)
   refine rvO C (.pv (.lit (.bool ((cmp (Seen.mk (ofL [(x.D[i.toNat]!.key 0), (x.D[i.toNat]!.key 1), (x.D[i.toNat]!.key 2), (x.D[i.toNat]!.key 3), (x.D[i.toNat]!.key 4), (x.D[i.toNat]!.key 5), (x.D[i.toNat]!.key 6), (x.D[i.toNat]!.key 7)]) (x.D[i.toNat]!.ver)) target) == 0)))) ?_
   refine rvP C (.pv (.lit (.bool ((cmp (Seen.mk (ofL [(x.D[i.toNat]!.key 0), (x.D[i.toNat]!.key 1), (x.D[i.toNat]!.key 2), (x.D[i.toNat]!.key 3), (x.D[i.toNat]!.key 4), (x.D[i.toNat]!.key 5), (x.D[i.toNat]!.key 6), (x.D[i.toNat]!.key 7)]) (x.D[i.toNat]!.ver)) target) == 0)))) ?_
   refine rvP C (.pv (.lit (.int .i64 i))) ?_
   refine rvP C (.pv (.lit (.bool ((cmp (Seen.mk (ofL [(x.D[i.toNat]!.key 0), (x.D[i.toNat]!.key 1), (x.D[i.toNat]!.key 2), (x.D[i.toNat]!.key 3), (x.D[i.toNat]!.key 4), (x.D[i.toNat]!.key 5), (x.D[i.toNat]!.key 6), (x.D[i.toNat]!.key 7)]) (x.D[i.toNat]!.ver)) target) == 0)))) ?_
   refine rvc_nil ?_
   refine Awp.ret ?_
   subst hR
   exact ⟨.inl rfl, rfl⟩
  ·
   replace hR := of_false h8 hR
   refine rvS ?_
   refine rvS ?_
   refine rvS ?_
   refine rvS ?_
   refine rvS ?_
   refine rvS ?_
   refine rvS ?_
   refine rvS ?_
   refine rvP C (.pv (.lit (.bool false))) ?_
   refine rvP C (.pv (.lit (.int .i64 i))) ?_
   refine rvP C (.pv (.lit (.bool false))) ?_
   refine rvc_nil ?_
   refine Awp.ret ?_
   subst hR
   exact ⟨.inl rfl, rfl⟩
def place (l : (Sl Seen)) (k : (Nat → Int)) : Int × Bool :=
  ((bsearch l k (fun x0 x1 => placeF x0 x1)).1, (bsearch l k (fun x0 x1 => placeF x0 x1)).2)
theorem place_calls (l : (Sl Seen)) (k : (Nat → Int)) (hn : l.D.length ≤ 1000000) : PCalls Tryd.prog 45 [sS (some l.nil) eSeen l.D, .agg [.pv (.lit (.int .u8 (k 0))), .pv (.lit (.int .u8 (k 1))), .pv (.lit (.int .u8 (k 2))), .pv (.lit (.int .u8 (k 3))), .pv (.lit (.int .u8 (k 4))), .pv (.lit (.int .u8 (k 5))), .pv (.lit (.int .u8 (k 6))), .pv (.lit (.int .u8 (k 7)))]] (.tup [.pv (.lit (.int .i64 ((place l k).1))), .pv (.lit (.bool ((place l k).2)))]) := by
 generalize hR : place l k = R
 refine PCalls.of_body tabOk Tryd.func45 rfl rfl rfl rfl rfl mixed fun E hP C hI => ?_
 refine Awp.consP C ?_
 refine rvc_un (rexec_prim C (δ := { v := .ptr 3 0, new := [(3, .cells [.pv (.lit (.int .u8 (k 0))), .pv (.lit (.int .u8 (k 1))), .pv (.lit (.int .u8 (k 2))), .pv (.lit (.int .u8 (k 3))), .pv (.lit (.int .u8 (k 4))), .pv (.lit (.int .u8 (k 5))), .pv (.lit (.int .u8 (k 6))), .pv (.lit (.int .u8 (k 7)))])] }) rfl rfl rfl rfl trivial rfl ?_)
 refine rvP C (.pv (.lit (.int .i64 0))) ?_
 refine rvP C (.pv (.lit (.bool false))) ?_
 refine rvc_nil ?_
 refine Awp.consP C ?_
 refine rvP C (sS (some l.nil) eSeen l.D) ?_
 refine rvP C (.agg [.pv (.lit (.int .u8 (k 0))), .pv (.lit (.int .u8 (k 1))), .pv (.lit (.int .u8 (k 2))), .pv (.lit (.int .u8 (k 3))), .pv (.lit (.int .u8 (k 4))), .pv (.lit (.int .u8 (k 5))), .pv (.lit (.int .u8 (k 6))), .pv (.lit (.int .u8 (k 7)))]) ?_
 refine rvc_un (rexec_call hP C rfl rfl rfl (bsearch_calls l k (fun x0 x1 => placeF x0 x1) 63 [] (fun x0 x1 => placeF_calls x0 x1) rfl hn) ?_)
 refine rvP C (.pv (.lit (.int .i64 ((bsearch l k (fun x0 x1 => placeF x0 x1)).1)))) ?_
 refine rvP C (.pv (.lit (.bool ((bsearch l k (fun x0 x1 => placeF x0 x1)).2)))) ?_
 refine rvP C (.pv (.lit (.int .i64 ((bsearch l k (fun x0 x1 => placeF x0 x1)).1)))) ?_
 refine rvP C (.pv (.lit (.bool ((bsearch l k (fun x0 x1 => placeF x0 x1)).2)))) ?_
 refine rvc_nil ?_
 refine Awp.ret ?_
 subst hR
 exact ⟨.inl rfl, rfl⟩
/-- What it reads as. -/
def rd (x : Seen) : List Int × Int := (kL x.key, x.ver)
theorem sOk_congr {x y : Seen} (h : rd x = rd y) : shRight x.key = shRight y.key := by
  have h1 : kL x.key = kL y.key := congrArg Prod.fst h
  have e := eq8 x.key y.key
  have hn : nameL x.key = nameL y.key := by
    have t : ∀ n, n ≤ 8 → trimN x.key n = trimN y.key n := fun n => by
      induction n with
      | zero => intro _; rfl
      | succ n ih =>
        intro hn
        have hk : x.key n = y.key n := by
          have := congrArg (fun q => q[n]?) h1
          have ex := tbF_get x.key 8 0 n (by omega)
          have ey := tbF_get y.key 8 0 n (by omega)
          simp only [kL] at this
          rw [ex, ey] at this
          simpa using this
        unfold trimN
        rw [hk, ih (by omega)]
    unfold nameL
    rw [t 8 (Nat.le_refl _)]
    show (kL x.key).take _ = (kL y.key).take _
    rw [h1]
  unfold shRight
  rw [eq8, eq8, hn, h1]
theorem ver_ok {x : Seen} (h : sOk x = true) : 1 ≤ x.ver ∧ x.ver ≤ 1099511627776 ∧ shRight x.key = 0 := by
  unfold sOk at h
  simp only [Bool.and_eq_true, beq_iff_eq, decide_eq_true_eq] at h
  exact ⟨h.2.1, h.2.2, h.1⟩
theorem rt_mem : ∀ {l : List Seen}, rt none l = true → ∀ x ∈ l, sOk x = true
  | [], _, _, h => nomatch h
  | y :: ys, h, x, hx => by
    obtain ⟨h1, h2, _⟩ := rt_cons.1 h
    rcases List.mem_cons.1 hx with rfl | hx
    · exact h1
    · exact rt_mem h2 x hx
theorem placeF_mk (e : Seen) (k : Nat → Int) : placeF (Seen.mk (ofL [e.key 0, e.key 1, e.key 2, e.key 3, e.key 4, e.key 5, e.key 6, e.key 7]) e.ver) k = placeF e k := rfl
theorem bs_spec (x : Sl Seen) (k : Nat → Int) (hn : x.D.length ≤ 1000000) : ∀ (f i j : Nat), j - i < f → i ≤ j → j ≤ x.D.length →
    ∃ p : Nat, (bsearch_l0 x k (fun x0 x1 => placeF x0 x1) f (i : Int) (j : Int)).1 = (p : Int) ∧ i ≤ p ∧ p ≤ j ∧
      (bsearch_l0 x k (fun x0 x1 => placeF x0 x1) f (i : Int) (j : Int)).2 = (decide (p < x.D.length) && (placeF x.D[p]! k == 0)) ∧
      ((∀ s t : Nat, s ≤ t → t < x.D.length → placeF x.D[t]! k < 0 → placeF x.D[s]! k < 0) → (∀ t, t < i → placeF x.D[t]! k < 0) → (∀ t, j ≤ t → t < x.D.length → ¬ placeF x.D[t]! k < 0) →
        (∀ t, t < p → placeF x.D[t]! k < 0) ∧ ∀ t, p ≤ t → t < x.D.length → ¬ placeF x.D[t]! k < 0)
  | 0, i, j, h, _, _ => by omega
  | f + 1, i, j, h, hij, hj => by
    have hm : IntKind.i64.wrap (shrI .u64 (IntKind.u64.wrap (IntKind.i64.wrap ((i : Int) + (j : Int)))) 1) = (((i + j) / 2 : Nat) : Int) := by
      rw [mid_eq (by omega) (by omega) (by omega)]; omega
    unfold bsearch_l0
    rw [hm, Int.toNat_natCast]
    by_cases hlt : i < j
    · rw [decide_eq_true (show (i : Int) < (j : Int) by omega), cond_true]
      rw [placeF_mk]
      generalize hmid : (i + j) / 2 = m
      have m1 : i ≤ m := by omega
      have m2 : m < j := by omega
      cases hc : decide (placeF x.D[m]! k < 0)
      · rw [cond_false]
        have hc' := of_decide_eq_false hc
        obtain ⟨p, p1, p2, p3, p4, p5⟩ := bs_spec x k hn f i m (by omega) m1 (by omega)
        refine ⟨p, p1, p2, by omega, p4, fun mono lo hi => p5 mono lo fun t ht htn hneg => ?_⟩
        exact hc' (mono m t ht htn hneg)
      · rw [cond_true]
        have hc' := of_decide_eq_true hc
        have e1 : IntKind.i64.wrap ((m : Int) + 1) = ((m + 1 : Nat) : Int) := by rw [wrapP (by omega)]; omega
        rw [e1]
        obtain ⟨p, p1, p2, p3, p4, p5⟩ := bs_spec x k hn f (m + 1) j (by omega) (by omega) hj
        refine ⟨p, p1, by omega, p3, p4, fun mono lo hi => p5 mono (fun t ht => ?_) hi⟩
        exact mono t m (by omega) (by omega) hc'
    · have hij' : i = j := by omega
      subst hij'
      rw [decide_eq_false (show ¬ (i : Int) < (i : Int) by omega), cond_false, Int.toNat_natCast]
      rw [placeF_mk]
      by_cases hin : i < x.D.length
      · rw [decide_eq_true (show (i : Int) < (x.D.length : Int) by omega), cond_true]
        exact ⟨i, rfl, Nat.le_refl _, Nat.le_refl _, by rw [decide_eq_true hin]; rfl, fun _ lo hi => ⟨lo, hi⟩⟩
      · rw [decide_eq_false (show ¬ (i : Int) < (x.D.length : Int) by omega), cond_false]
        exact ⟨i, rfl, Nat.le_refl _, Nat.le_refl _, by rw [decide_eq_false hin]; rfl, fun _ lo hi => ⟨lo, hi⟩⟩
theorem place_all (l : Sl Seen) (k : Nat → Int) (hn : l.D.length ≤ 1000000) : ∃ p : Nat, (place l k).1 = (p : Int) ∧ p ≤ l.D.length ∧ (place l k).2 = (decide (p < l.D.length) && (placeF l.D[p]! k == 0)) ∧
    ((∀ s t : Nat, s ≤ t → t < l.D.length → placeF l.D[t]! k < 0 → placeF l.D[s]! k < 0) → (∀ t, t < p → placeF l.D[t]! k < 0) ∧ ∀ t, p ≤ t → t < l.D.length → ¬ placeF l.D[t]! k < 0) := by
  obtain ⟨p, p1, p2, p3, p4, p5⟩ := bs_spec l k hn (l.D.length + 1) 0 l.D.length (by omega) (Nat.zero_le _) (Nat.le_refl _)
  have e : bsearch l k (fun x0 x1 => placeF x0 x1) = bsearch_l0 l k (fun x0 x1 => placeF x0 x1) (l.D.length + 1) ((0 : Nat) : Int) (l.D.length : Int) := by
    unfold bsearch
    rw [show ((l.D.length : Int) - 0).toNat + 1 = l.D.length + 1 by omega]; rfl
  refine ⟨p, ?_, p3, ?_, fun mono => p5 mono (fun t ht => absurd ht (Nat.not_lt_zero t)) (fun t ht h2 => by omega)⟩
  · show (bsearch l k _).1 = _
    rw [e]; exact p1
  · show (bsearch l k _).2 = _
    rw [e]; exact p4
theorem place_lt {l : Sl Seen} {k : Nat → Int} (hn : l.D.length ≤ 1000000) (h : (place l k).2 = true) : 0 ≤ (place l k).1 ∧ (place l k).1 < (l.D.length : Int) := by
  obtain ⟨p, p1, p2, p3, _⟩ := place_all l k hn
  rw [p3, Bool.and_eq_true, decide_eq_true_eq] at h
  omega
theorem place_le (l : Sl Seen) (k : Nat → Int) (hn : l.D.length ≤ 1000000) : 0 ≤ (place l k).1 ∧ (place l k).1 ≤ (l.D.length : Int) := by
  obtain ⟨p, p1, p2, p3, _⟩ := place_all l k hn
  omega
end Go.Proofs.YthnghkkbnhjlgaaDoor
