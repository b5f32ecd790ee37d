import Derived.Test.YthnghkkbnhjlgaaDoorM1
import Derived.Test.YthnghkkbnhjlgaaDoorM2
import Derived.Test.YthnghkkbnhjlgaaDoorM3
/- The text "x" is one: by the library, and by the document. No conditions. -/
namespace Go.Proofs.YthnghkkbnhjlgaaDoor
open Go.Am
theorem r9plain_x : PCalls Tryd.prog 70 [.pv (.lit (.string ⟨#[120]⟩))] (.pv (.lit (.bool true))) := by
  refine PCalls.of_body tabOk Tryd.func70 rfl rfl rfl rfl rfl mixed fun E hP C hI => ?_
  refine Awp.consP C ?_
  refine rvc_prim C rfl rfl rfl rfl trivial rfl ?_
  refine rvc_nil ?_
  refine Awp.seq ?_
  refine Awp.cons C (fun _ => .writer) (by kernel_rfl) ?_
  refine rvc_prim C rfl rfl rfl rfl trivial rfl ?_
  refine rvc_un (rexec_rangeStr C rfl rfl (s := ⟨#[120]⟩) rfl rfl rfl ?_)
  refine rvc_nil ?_
  refine Awp.block ?_
  refine Awp.rounds 2 ?_
  refine Arounds.succ ?_
  refine Awp.cons C (fun _ => .writer) (by kernel_rfl) ?_
  refine rvc_un (rexec_nextStr C rfl (s := ⟨#[120]⟩) (pos := 0) 120 1 rfl rfl (by decide) (by decide +kernel) ?_)
  refine rvc_prim C rfl rfl rfl rfl trivial rfl ?_
  refine rvc_nil ?_
  refine Awp.seq ?_
  refine Awp.condT (b := true) rfl rfl ?_
  refine Awp.skip ?_
  refine Awp.block ?_
  refine Awp.consP C ?_
  refine rvc_prim C rfl rfl rfl rfl trivial rfl ?_
  refine rvc_prim C rfl rfl rfl rfl trivial rfl ?_
  refine rvc_prim C rfl rfl rfl rfl trivial rfl ?_
  refine rvc_prim C rfl rfl rfl rfl trivial rfl ?_
  refine rvc_nil ?_
  refine Awp.consP C ?_
  refine rvc_prim C rfl rfl rfl rfl trivial rfl ?_
  refine rvP C (.pv (.lit (.bool false))) ?_
  refine rvc_prim C rfl rfl rfl rfl trivial rfl ?_
  iterate 6 refine rvc_shut rfl rfl rfl rfl ?_
  iterate 6 refine rvc_shutU rfl rfl rfl ?_
  refine rvS ?_
  refine rvP C (.pv (.lit (.bool false))) ?_
  refine rvc_nil ?_
  refine Awp.condF (b := false) rfl rfl ?_
  refine Awp.skip ?_
  refine Arounds.succ ?_
  refine Awp.cons C (fun _ => .writer) (by kernel_rfl) ?_
  refine rvc_un (rexec_nextEnd C rfl (s := ⟨#[120]⟩) (pos := 1) rfl rfl (by decide) ?_)
  refine rvc_prim C rfl rfl rfl rfl trivial rfl ?_
  refine rvc_nil ?_
  refine Awp.seq ?_
  refine Awp.condF (b := false) rfl rfl ?_
  refine Awp.exit ?_
  refine Awp.consP C ?_
  refine rvc_prim C rfl rfl rfl rfl trivial rfl ?_
  refine rvc_nil ?_
  refine Awp.ret ?_
  exact ⟨.inl rfl, rfl⟩
theorem valid_x : PCalls Tryd.prog 49 [.pv (.lit (.string ⟨#[120]⟩))] (.pv (.lit (.bool true))) := by
  refine PCalls.of_body tabOk Tryd.func49 rfl rfl rfl rfl rfl mixed fun E hP C hI => ?_
  refine Awp.consP C ?_
  refine rvc_prim C rfl rfl rfl rfl trivial rfl ?_
  refine rvc_nil ?_
  refine Awp.seq ?_
  refine Awp.block ?_
  refine Awp.rounds 2 ?_
  refine Arounds.succ ?_
  refine Awp.seq ?_
  refine Awp.consP C ?_
  refine rvc_prim C rfl rfl rfl rfl trivial rfl ?_
  refine rvP C (.pv (.lit (.int .i64 1))) ?_
  refine rvP C (.pv (.lit (.bool true))) ?_
  refine rvc_nil ?_
  refine Awp.condT (b := true) rfl rfl ?_
  refine Awp.skip ?_
  refine Awp.block ?_
  refine Awp.consP C ?_
  refine rvc_prim C rfl rfl rfl rfl trivial rfl ?_
  refine rvc_un (rexec_prim C (δ := { v := .pv (.lit (.int .u8 120)) }) rfl rfl rfl rfl (by decide) rfl ?_)
  refine rvc_prim C rfl rfl rfl rfl trivial rfl ?_
  refine rvc_nil ?_
  refine Awp.seq ?_
  refine Awp.consP C ?_
  refine rvc_prim C rfl rfl rfl rfl trivial rfl ?_
  refine rvP C (.pv (.lit (.bool true))) ?_
  refine rvc_nil ?_
  refine Awp.condT (b := true) rfl rfl ?_
  refine Awp.consP C ?_
  refine rvc_prim C rfl rfl rfl rfl trivial rfl ?_
  refine rvc_un (rexec_prim C (δ := { v := .pv (.lit (.string ⟨#[]⟩)) }) rfl rfl rfl rfl (by decide) rfl ?_)
  refine rvc_prim C rfl rfl rfl rfl trivial rfl ?_
  refine rvc_nil ?_
  refine Awp.seq ?_
  refine Awp.cons C (fun _ => .writer) (by kernel_rfl) ?_
  refine rvc_prim C rfl rfl rfl rfl trivial rfl ?_
  refine rvP C (.pv (.lit (.int .i64 0))) ?_
  refine rvP C (.pv (.lit (.bool false))) ?_
  refine rvc_prim C rfl rfl rfl rfl trivial rfl ?_
  iterate 4 refine rvc_shut rfl rfl rfl rfl ?_
  refine rvP C (.pv (.lit (.bool false))) ?_
  refine rvc_nil ?_
  refine Awp.condF (b := false) rfl rfl ?_
  refine Awp.skip ?_
  refine Awp.exit ?_
  refine Arounds.succ ?_
  refine Awp.seq ?_
  refine Awp.consP C ?_
  refine rvc_prim C rfl rfl rfl rfl trivial rfl ?_
  refine rvP C (.pv (.lit (.int .i64 0))) ?_
  refine rvP C (.pv (.lit (.bool false))) ?_
  refine rvc_nil ?_
  refine Awp.condF (b := false) rfl rfl ?_
  refine Awp.exit ?_
  refine Awp.consP C ?_
  refine rvc_prim C rfl rfl rfl rfl trivial rfl ?_
  refine rvc_nil ?_
  refine Awp.ret ?_
  exact ⟨.inl rfl, rfl⟩
/-- How long a key's text is, of its first n bytes. -/
def trimN (k : Nat → Int) : Nat → Nat
  | 0 => 0
  | n + 1 => if k n = 0 then trimN k n else n + 1
def nameL (k : Nat → Int) : List Int := (tbF k 8 0).take (trimN k 8)
def KeyB (k : Nat → Int) : Prop := ∀ j, j < 8 → 0 ≤ k j ∧ k j < 256
theorem mem_tbF {k : Nat → Int} : ∀ {m j : Nat} {x : Int}, x ∈ tbF k m j → ∃ i, j ≤ i ∧ i < j + m ∧ x = k i
  | 0, j, x, h => by cases h
  | m + 1, j, x, h => by
    rcases List.mem_cons.1 h with rfl | h
    · exact ⟨j, Nat.le_refl _, by omega, rfl⟩
    · obtain ⟨i, h1, h2, h3⟩ := mem_tbF h
      exact ⟨i, by omega, by omega, h3⟩
theorem nameL_ok {k : Nat → Int} (hk : KeyB k) : ∀ x ∈ nameL k, 0 ≤ x ∧ x < 256 := fun x hx => by
  obtain ⟨i, _, h2, rfl⟩ := mem_tbF (List.mem_of_mem_take hx)
  exact hk i (by omega)
theorem wrapP {z : Int} (h : -9223372036854775808 ≤ z ∧ z ≤ 9223372036854775807) : IntKind.i64.wrap z = z := wrapI _ h
theorem shName_l0_eq (k : Nat → Int) : ∀ (nn n : Nat), n < nn → n ≤ 8 → shName_l0 k nn (n : Int) = strOf ((tbF k 8 0).take (trimN k n))
  | 0, _, h, _ => by omega
  | nn + 1, 0, _, _ => by
    unfold shName_l0
    rfl
  | nn + 1, n + 1, h, h8 => by
    unfold shName_l0
    have e : IntKind.i64.wrap (((n + 1 : Nat) : Int) - 1) = (n : Int) := by rw [wrapP (by omega)]; omega
    rw [decide_eq_true (show ((n + 1 : Nat) : Int) > 0 by omega), cond_true, e, Int.toNat_natCast]
    unfold trimN
    by_cases hk : k n = 0
    · rw [hk, if_pos rfl, show ((0 : Int) == 0) = true from rfl, cond_true]
      exact shName_l0_eq k nn n (by omega) (by omega)
    · rw [if_neg hk, show (k n == 0) = false by simpa using hk, cond_false, Int.toNat_natCast]
theorem shName_eq (k : Nat → Int) : shName k = strOf (nameL k) := shName_l0_eq k 9 8 (by omega) (Nat.le_refl _)
theorem r9Name_l0_eq (k : Nat → Int) : ∀ (m i : Nat), m + i = 8 → r9Name_l0 k m i (trimN k i : Nat) = strOf ((tbF k 8 0).take (trimN k 8))
  | 0, i, h => by
    have : i = 8 := by omega
    subst this
    unfold r9Name_l0
    rw [Int.toNat_natCast]
  | m + 1, i, h => by
    unfold r9Name_l0
    have ih := r9Name_l0_eq k m (i + 1) (by omega)
    have e : IntKind.i64.wrap ((i : Int) + 1) = ((i + 1 : Nat) : Int) := by rw [wrapP (by omega)]; omega
    rw [e]
    unfold trimN at ih
    by_cases hk : k i = 0
    · rw [if_pos hk] at ih
      rw [show (k i != 0) = false by simpa using hk, cond_false]; exact ih
    · rw [if_neg hk] at ih
      rw [show (k i != 0) = true by simpa using hk, cond_true]; exact ih
theorem r9Name_eq (k : Nat → Int) : r9Name k = strOf (nameL k) := r9Name_l0_eq k 8 0 rfl
theorem shNameL_calls (k : Nat → Int) : PCalls Tryd.prog 48 [.agg [.pv (.lit (.int .u8 (k 0))), .pv (.lit (.int .u8 (k 1))), .pv (.lit (.int .u8 (k 2))), .pv (.lit (.int .u8 (k 3))), .pv (.lit (.int .u8 (k 4))), .pv (.lit (.int .u8 (k 5))), .pv (.lit (.int .u8 (k 6))), .pv (.lit (.int .u8 (k 7)))]] (.pv (.lit (.string (strOf (nameL k))))) := by
  rw [← shName_eq]; exact shName_calls k
theorem r9NameL_calls (k : Nat → Int) : PCalls Tryd.prog 69 [.agg [.pv (.lit (.int .u8 (k 0))), .pv (.lit (.int .u8 (k 1))), .pv (.lit (.int .u8 (k 2))), .pv (.lit (.int .u8 (k 3))), .pv (.lit (.int .u8 (k 4))), .pv (.lit (.int .u8 (k 5))), .pv (.lit (.int .u8 (k 6))), .pv (.lit (.int .u8 (k 7)))]] (.pv (.lit (.string (strOf (nameL k))))) := by
  rw [← r9Name_eq]; exact r9Name_calls k
def indexB (b : (Sl Int)) (c : Int) : Int :=
  (idxI b.D c)
theorem indexB_calls (b : (Sl Int)) (c : Int)  : PCalls Tryd.prog 66 [sS (some b.nil) (eI .u8) b.D, .pv (.lit (.int .u8 c))] (.pv (.lit (.int .i64 (indexB b c)))) := by
 generalize hR : indexB b c = R
 refine PCalls.of_body tabOk Tryd.func66 rfl rfl rfl rfl rfl mixed fun E hP C hI => ?_
 refine Awp.consP C ?_
 refine rvP C (.pv (.lit (.int .i64 0))) ?_
 refine rvc_nil ?_
 refine Awp.consP C ?_
 refine rvP C (sS (some b.nil) (eI .u8) b.D) ?_
 refine rvP C (.pv (.lit (.int .u8 c))) ?_
 refine rvc_un (rexec_idxB hP C (fn := Tryd.f75) rfl rfl Tryd.func75 rfl rfl rfl (by kernel_rfl) rfl ?_)
 refine rvP C (.pv (.lit (.int .i64 (idxI b.D c)))) ?_
 refine rvc_nil ?_
 refine Awp.ret ?_
 subst hR
 exact ⟨.inl rfl, rfl⟩
def cmpB (a : (Sl Int)) (b : (Sl Int)) : Int :=
  (cmpI a.D b.D)
theorem cmpB_calls (a : (Sl Int)) (b : (Sl Int))  : PCalls Tryd.prog 29 [sS (some a.nil) (eI .u8) a.D, sS (some b.nil) (eI .u8) b.D] (.pv (.lit (.int .i64 (cmpB a b)))) := by
 generalize hR : cmpB a b = R
 refine PCalls.of_body tabOk Tryd.func29 rfl rfl rfl rfl rfl mixed fun E hP C hI => ?_
 refine Awp.consP C ?_
 refine rvP C (.pv (.lit (.int .i64 0))) ?_
 refine rvc_nil ?_
 refine Awp.consP C ?_
 refine rvP C (sS (some a.nil) (eI .u8) a.D) ?_
 refine rvP C (sS (some b.nil) (eI .u8) b.D) ?_
 refine rvc_un (rexec_cmpB hP C (fn := Tryd.f50) rfl rfl Tryd.func50 rfl rfl rfl (by kernel_rfl) rfl ?_)
 refine rvP C (.pv (.lit (.int .i64 (cmpI a.D b.D)))) ?_
 refine rvc_nil ?_
 refine Awp.ret ?_
 subst hR
 exact ⟨.inl rfl, rfl⟩
def shKey (D : List Int) : (Nat → Int) × Int :=
  (bif (decide ((D.length : Int) < 1)) then ((ofL [(0 : Int), 0, 0, 0, 0, 0, 0, 0]), 91) else (bif (decide ((D.length : Int) > 8)) then ((ofL [(0 : Int), 0, 0, 0, 0, 0, 0, 0]), 91) else (bif (decide ((indexB (Sl.mk false D) 0) ≥ 0)) then ((ofL [(0 : Int), 0, 0, 0, 0, 0, 0, 0]), 91) else ((cpF D 8 (ofL [(0 : Int), 0, 0, 0, 0, 0, 0, 0])), 0))))
theorem shKey_calls (D : List Int) (hD : ∀ x ∈ D, 0 ≤ x ∧ x < 256) : PCalls Tryd.prog 47 [.pv (.lit (.string (strOf D)))] (.tup [.agg [.pv (.lit (.int .u8 ((shKey D).1 0))), .pv (.lit (.int .u8 ((shKey D).1 1))), .pv (.lit (.int .u8 ((shKey D).1 2))), .pv (.lit (.int .u8 ((shKey D).1 3))), .pv (.lit (.int .u8 ((shKey D).1 4))), .pv (.lit (.int .u8 ((shKey D).1 5))), .pv (.lit (.int .u8 ((shKey D).1 6))), .pv (.lit (.int .u8 ((shKey D).1 7)))], .pv (.lit (.int .i64 ((shKey D).2)))]) := by
 generalize hR : shKey D = R
 refine PCalls.of_body tabOk Tryd.func47 rfl rfl rfl rfl rfl mixed fun E hP C hI => ?_
 refine Awp.consP C ?_
 refine rvc_un (rexec_prim C (δ := { v := .ptr 2 0, new := [(2, .cells [.pv (.lit (.int .u8 0)), .pv (.lit (.int .u8 0)), .pv (.lit (.int .u8 0)), .pv (.lit (.int .u8 0)), .pv (.lit (.int .u8 0)), .pv (.lit (.int .u8 0)), .pv (.lit (.int .u8 0)), .pv (.lit (.int .u8 0))])] }) rfl rfl rfl rfl trivial rfl ?_)
 refine rvP C (.pv (.lit (.int .i64 0))) ?_
 refine rvc_nil ?_
 refine Awp.consP C ?_
 refine rvc_un (rexec_prim C (δ := { v := .ptr 4 0, new := [(4, .cells [.pv (.lit (.int .u8 0)), .pv (.lit (.int .u8 0)), .pv (.lit (.int .u8 0)), .pv (.lit (.int .u8 0)), .pv (.lit (.int .u8 0)), .pv (.lit (.int .u8 0)), .pv (.lit (.int .u8 0)), .pv (.lit (.int .u8 0))])] }) rfl rfl rfl rfl trivial rfl ?_)
 refine rvc_nil ?_
 refine Awp.seq ?_
 refine Awp.consP C ?_
 refine rvP C (.pv (.lit (.string (strOf D)))) ?_
 refine rvc_un (rexec_lenStr C rfl rfl rfl rfl rfl rfl ?_)
 refine rvP C (.pv (.lit (.bool (decide ((D.length : Int) < 1))))) ?_
 refine rvP C (.pv (.lit (.bool (decide ((D.length : Int) < 1))))) ?_
 refine rvc_case 8 (decide ((D.length : Int) < 1)) rfl (fun h1 => ?_) (fun h1 => ?_)
 ·
  replace hR := of_true h1 hR
  refine rvS ?_
  refine rvS ?_
  refine rvS ?_
  refine rvP C (.pv (.lit (.bool true))) ?_
  refine rvP C (.pv (.lit (.bool true))) ?_
  refine rvS ?_
  refine rvS ?_
  refine rvS ?_
  refine rvS ?_
  refine rvP C (.pv (.lit (.bool true))) ?_
  refine rvc_nil ?_
  refine Awp.condT (b := true) rfl rfl ?_
  refine Awp.consP C ?_
  refine rvP C (.agg [.pv (.lit (.int .u8 0)), .pv (.lit (.int .u8 0)), .pv (.lit (.int .u8 0)), .pv (.lit (.int .u8 0)), .pv (.lit (.int .u8 0)), .pv (.lit (.int .u8 0)), .pv (.lit (.int .u8 0)), .pv (.lit (.int .u8 0))]) ?_
  refine rvc_un (rexec_prim C (δ := { v := .undef, wr := [(2, some (.cells [.pv (.lit (.int .u8 0)), .pv (.lit (.int .u8 0)), .pv (.lit (.int .u8 0)), .pv (.lit (.int .u8 0)), .pv (.lit (.int .u8 0)), .pv (.lit (.int .u8 0)), .pv (.lit (.int .u8 0)), .pv (.lit (.int .u8 0))]))] }) rfl rfl rfl rfl trivial rfl ?_)
  refine rvP C (.pv (.lit (.int .i64 91))) ?_
  refine rvc_nil ?_
  refine Awp.ret ?_
  subst hR
  exact ⟨.inl rfl, rfl⟩
 ·
  replace hR := of_false h1 hR
  refine rvO C (.pv (.lit (.string (strOf D)))) ?_
  refine rvc_open rfl rfl rfl (rexec_lenStr C rfl rfl rfl rfl rfl rfl ?_)
  refine rvO C (.pv (.lit (.bool (decide ((D.length : Int) > 8))))) ?_
  refine rvP C (.pv (.lit (.bool (decide ((D.length : Int) > 8))))) ?_
  refine rvP C (.pv (.lit (.bool (decide ((D.length : Int) > 8))))) ?_
  refine rvc_case 13 (decide ((D.length : Int) > 8)) rfl (fun h2 => ?_) (fun h2 => ?_)
  ·
   replace hR := of_true h2 hR
   refine rvS ?_
   refine rvS ?_
   refine rvS ?_
   refine rvS ?_
   refine rvP C (.pv (.lit (.bool true))) ?_
   refine rvc_nil ?_
   refine Awp.condT (b := true) rfl rfl ?_
   refine Awp.consP C ?_
   refine rvP C (.agg [.pv (.lit (.int .u8 0)), .pv (.lit (.int .u8 0)), .pv (.lit (.int .u8 0)), .pv (.lit (.int .u8 0)), .pv (.lit (.int .u8 0)), .pv (.lit (.int .u8 0)), .pv (.lit (.int .u8 0)), .pv (.lit (.int .u8 0))]) ?_
   refine rvc_un (rexec_prim C (δ := { v := .undef, wr := [(2, some (.cells [.pv (.lit (.int .u8 0)), .pv (.lit (.int .u8 0)), .pv (.lit (.int .u8 0)), .pv (.lit (.int .u8 0)), .pv (.lit (.int .u8 0)), .pv (.lit (.int .u8 0)), .pv (.lit (.int .u8 0)), .pv (.lit (.int .u8 0))]))] }) rfl rfl rfl rfl trivial rfl ?_)
   refine rvP C (.pv (.lit (.int .i64 91))) ?_
   refine rvc_nil ?_
   refine Awp.ret ?_
   subst hR
   exact ⟨.inl rfl, rfl⟩
  ·
   replace hR := of_false h2 hR
   refine rvO C (.pv (.lit (.string (strOf D)))) ?_
   refine rvc_open rfl rfl rfl (rexec_strBytes C rfl rfl rfl rfl rfl rfl rfl hD rfl ?_)
   refine rvc_open rfl rfl rfl (rexec_call hP C rfl rfl rfl (indexB_calls (Sl.mk false D) 0) ?_)
   refine rvO C (.pv (.lit (.bool (decide ((indexB (Sl.mk false D) 0) ≥ 0))))) ?_
   refine rvP C (.pv (.lit (.bool (decide ((indexB (Sl.mk false D) 0) ≥ 0))))) ?_
   refine rvc_nil ?_
   refine Awp.cond (b := (decide ((indexB (Sl.mk false D) 0) ≥ 0))) rfl (fun h3 => ?_) (fun h3 => ?_)
   ·
    replace hR := of_true h3 hR
    refine Awp.consP C ?_
    refine rvP C (.agg [.pv (.lit (.int .u8 0)), .pv (.lit (.int .u8 0)), .pv (.lit (.int .u8 0)), .pv (.lit (.int .u8 0)), .pv (.lit (.int .u8 0)), .pv (.lit (.int .u8 0)), .pv (.lit (.int .u8 0)), .pv (.lit (.int .u8 0))]) ?_
    refine rvc_un (rexec_prim C (δ := { v := .undef, wr := [(2, some (.cells [.pv (.lit (.int .u8 0)), .pv (.lit (.int .u8 0)), .pv (.lit (.int .u8 0)), .pv (.lit (.int .u8 0)), .pv (.lit (.int .u8 0)), .pv (.lit (.int .u8 0)), .pv (.lit (.int .u8 0)), .pv (.lit (.int .u8 0))]))] }) rfl rfl rfl rfl trivial rfl ?_)
    refine rvP C (.pv (.lit (.int .i64 91))) ?_
    refine rvc_nil ?_
    refine Awp.ret ?_
    subst hR
    exact ⟨.inl rfl, rfl⟩
   ·
    replace hR := of_false h3 hR
    refine Awp.skip ?_
    refine Awp.consP C ?_
    refine rvc_un (rexec_prim C (δ := { v := .sl 4 0 8 1 true }) rfl rfl rfl rfl ⟨by decide, Nat.le_of_ble_eq_true rfl, .inl rfl⟩ rfl ?_)
    refine rvP C (.pv (.lit (.string (strOf D)))) ?_
    refine rvc_un (rexec_copyStr C rfl rfl rfl rfl rfl rfl rfl (f := (ofL [(0 : Int), 0, 0, 0, 0, 0, 0, 0])) (D := D) hD rfl rfl ?_)
    refine rvc_nil ?_
    refine Awp.consP C ?_
    refine rvP C (.agg [.pv (.lit (.int .u8 ((cpF D 8 (ofL [(0 : Int), 0, 0, 0, 0, 0, 0, 0])) 0))), .pv (.lit (.int .u8 ((cpF D 8 (ofL [(0 : Int), 0, 0, 0, 0, 0, 0, 0])) 1))), .pv (.lit (.int .u8 ((cpF D 8 (ofL [(0 : Int), 0, 0, 0, 0, 0, 0, 0])) 2))), .pv (.lit (.int .u8 ((cpF D 8 (ofL [(0 : Int), 0, 0, 0, 0, 0, 0, 0])) 3))), .pv (.lit (.int .u8 ((cpF D 8 (ofL [(0 : Int), 0, 0, 0, 0, 0, 0, 0])) 4))), .pv (.lit (.int .u8 ((cpF D 8 (ofL [(0 : Int), 0, 0, 0, 0, 0, 0, 0])) 5))), .pv (.lit (.int .u8 ((cpF D 8 (ofL [(0 : Int), 0, 0, 0, 0, 0, 0, 0])) 6))), .pv (.lit (.int .u8 ((cpF D 8 (ofL [(0 : Int), 0, 0, 0, 0, 0, 0, 0])) 7)))]) ?_
    refine rvc_un (rexec_prim C (δ := { v := .undef, wr := [(2, some (.cells [.pv (.lit (.int .u8 ((cpF D 8 (ofL [(0 : Int), 0, 0, 0, 0, 0, 0, 0])) 0))), .pv (.lit (.int .u8 ((cpF D 8 (ofL [(0 : Int), 0, 0, 0, 0, 0, 0, 0])) 1))), .pv (.lit (.int .u8 ((cpF D 8 (ofL [(0 : Int), 0, 0, 0, 0, 0, 0, 0])) 2))), .pv (.lit (.int .u8 ((cpF D 8 (ofL [(0 : Int), 0, 0, 0, 0, 0, 0, 0])) 3))), .pv (.lit (.int .u8 ((cpF D 8 (ofL [(0 : Int), 0, 0, 0, 0, 0, 0, 0])) 4))), .pv (.lit (.int .u8 ((cpF D 8 (ofL [(0 : Int), 0, 0, 0, 0, 0, 0, 0])) 5))), .pv (.lit (.int .u8 ((cpF D 8 (ofL [(0 : Int), 0, 0, 0, 0, 0, 0, 0])) 6))), .pv (.lit (.int .u8 ((cpF D 8 (ofL [(0 : Int), 0, 0, 0, 0, 0, 0, 0])) 7)))]))] }) rfl rfl rfl rfl trivial rfl ?_)
    refine rvP C (.pv (.lit (.int .i64 0))) ?_
    refine rvc_nil ?_
    refine Awp.ret ?_
    subst hR
    exact ⟨.inl rfl, rfl⟩
def r9Key_l0 (D : List Int) : Nat → Nat → (Nat → Int) → (Nat → Int) × Int
  | 0, _, vc => (vc, 0)
  | k + 1, i, vc => (bif ((D[(i : Int).toNat]!) == 0) then ((ofL [(0 : Int), 0, 0, 0, 0, 0, 0, 0]), 91) else r9Key_l0 D k (i + 1) (updA vc i (D[(i : Int).toNat]!)))
def r9Key (D : List Int) : (Nat → Int) × Int :=
  (bif (decide ((D.length : Int) < 1)) then ((ofL [(0 : Int), 0, 0, 0, 0, 0, 0, 0]), 91) else (bif (decide ((D.length : Int) > 8)) then ((ofL [(0 : Int), 0, 0, 0, 0, 0, 0, 0]), 91) else r9Key_l0 D (D.length : Int).toNat 0 (ofL [(0 : Int), 0, 0, 0, 0, 0, 0, 0])))
theorem r9Key_calls (D : List Int) (hD : ∀ x ∈ D, 0 ≤ x ∧ x < 256) : PCalls Tryd.prog 68 [.pv (.lit (.string (strOf D)))] (.tup [.agg [.pv (.lit (.int .u8 ((r9Key D).1 0))), .pv (.lit (.int .u8 ((r9Key D).1 1))), .pv (.lit (.int .u8 ((r9Key D).1 2))), .pv (.lit (.int .u8 ((r9Key D).1 3))), .pv (.lit (.int .u8 ((r9Key D).1 4))), .pv (.lit (.int .u8 ((r9Key D).1 5))), .pv (.lit (.int .u8 ((r9Key D).1 6))), .pv (.lit (.int .u8 ((r9Key D).1 7)))], .pv (.lit (.int .i64 ((r9Key D).2)))]) := by
 generalize hR : r9Key D = R
 refine PCalls.of_body tabOk Tryd.func68 rfl rfl rfl rfl rfl mixed fun E hP C hI => ?_
 refine Awp.consP C ?_
 refine rvc_un (rexec_prim C (δ := { v := .ptr 2 0, new := [(2, .cells [.pv (.lit (.int .u8 0)), .pv (.lit (.int .u8 0)), .pv (.lit (.int .u8 0)), .pv (.lit (.int .u8 0)), .pv (.lit (.int .u8 0)), .pv (.lit (.int .u8 0)), .pv (.lit (.int .u8 0)), .pv (.lit (.int .u8 0))])] }) rfl rfl rfl rfl trivial rfl ?_)
 refine rvP C (.pv (.lit (.int .i64 0))) ?_
 refine rvc_nil ?_
 refine Awp.consP C ?_
 refine rvc_un (rexec_prim C (δ := { v := .ptr 4 0, new := [(4, .cells [.pv (.lit (.int .u8 0)), .pv (.lit (.int .u8 0)), .pv (.lit (.int .u8 0)), .pv (.lit (.int .u8 0)), .pv (.lit (.int .u8 0)), .pv (.lit (.int .u8 0)), .pv (.lit (.int .u8 0)), .pv (.lit (.int .u8 0))])] }) rfl rfl rfl rfl trivial rfl ?_)
 refine rvc_nil ?_
 refine Awp.seq ?_
 refine Awp.consP C ?_
 refine rvP C (.pv (.lit (.string (strOf D)))) ?_
 refine rvc_un (rexec_lenStr C rfl rfl rfl rfl rfl rfl ?_)
 refine rvP C (.pv (.lit (.bool (decide ((D.length : Int) < 1))))) ?_
 refine rvP C (.pv (.lit (.bool (decide ((D.length : Int) < 1))))) ?_
 refine rvc_case 9 (decide ((D.length : Int) < 1)) rfl (fun h1 => ?_) (fun h1 => ?_)
 ·
  replace hR := of_true h1 hR
  refine rvS ?_
  refine rvS ?_
  refine rvS ?_
  refine rvP C (.pv (.lit (.bool true))) ?_
  refine rvc_nil ?_
  refine Awp.condT (b := true) rfl rfl ?_
  refine Awp.consP C ?_
  refine rvP C (.agg [.pv (.lit (.int .u8 0)), .pv (.lit (.int .u8 0)), .pv (.lit (.int .u8 0)), .pv (.lit (.int .u8 0)), .pv (.lit (.int .u8 0)), .pv (.lit (.int .u8 0)), .pv (.lit (.int .u8 0)), .pv (.lit (.int .u8 0))]) ?_
  refine rvc_un (rexec_prim C (δ := { v := .undef, wr := [(2, some (.cells [.pv (.lit (.int .u8 0)), .pv (.lit (.int .u8 0)), .pv (.lit (.int .u8 0)), .pv (.lit (.int .u8 0)), .pv (.lit (.int .u8 0)), .pv (.lit (.int .u8 0)), .pv (.lit (.int .u8 0)), .pv (.lit (.int .u8 0))]))] }) rfl rfl rfl rfl trivial rfl ?_)
  refine rvP C (.pv (.lit (.int .i64 91))) ?_
  refine rvc_nil ?_
  refine Awp.ret ?_
  subst hR
  exact ⟨.inl rfl, rfl⟩
 ·
  replace hR := of_false h1 hR
  refine rvO C (.pv (.lit (.string (strOf D)))) ?_
  refine rvc_open rfl rfl rfl (rexec_lenStr C rfl rfl rfl rfl rfl rfl ?_)
  refine rvO C (.pv (.lit (.bool (decide ((D.length : Int) > 8))))) ?_
  refine rvP C (.pv (.lit (.bool (decide ((D.length : Int) > 8))))) ?_
  refine rvc_nil ?_
  refine Awp.cond (b := (decide ((D.length : Int) > 8))) rfl (fun h2 => ?_) (fun h2 => ?_)
  ·
   replace hR := of_true h2 hR
   refine Awp.consP C ?_
   refine rvP C (.agg [.pv (.lit (.int .u8 0)), .pv (.lit (.int .u8 0)), .pv (.lit (.int .u8 0)), .pv (.lit (.int .u8 0)), .pv (.lit (.int .u8 0)), .pv (.lit (.int .u8 0)), .pv (.lit (.int .u8 0)), .pv (.lit (.int .u8 0))]) ?_
   refine rvc_un (rexec_prim C (δ := { v := .undef, wr := [(2, some (.cells [.pv (.lit (.int .u8 0)), .pv (.lit (.int .u8 0)), .pv (.lit (.int .u8 0)), .pv (.lit (.int .u8 0)), .pv (.lit (.int .u8 0)), .pv (.lit (.int .u8 0)), .pv (.lit (.int .u8 0)), .pv (.lit (.int .u8 0))]))] }) rfl rfl rfl rfl trivial rfl ?_)
   refine rvP C (.pv (.lit (.int .i64 91))) ?_
   refine rvc_nil ?_
   refine Awp.ret ?_
   subst hR
   exact ⟨.inl rfl, rfl⟩
  ·
   replace hR := of_false h2 hR
   refine Awp.skip ?_
   refine Awp.seq ?_
   refine Awp.consP C ?_
   refine rvP C (.pv (.lit (.string (strOf D)))) ?_
   refine rvc_un (rexec_lenStr C rfl rfl rfl rfl rfl rfl ?_)
   refine rvP C (.pv (.lit (.int .i64 0))) ?_
   refine rvc_nil ?_
   refine Awp.block ?_
   refine Awp.forR (σ := ((Nat → Int))) ((D.length : Int).toNat) (fun i v => [(0, .pv (.lit (.string (strOf D)))), (2, .ptr 2 0), (4, .ptr 4 0), (16, .pv (.lit (.int .i64 (D.length : Int)))), (17, .pv (.lit (.int .i64 (i : Int))))]) (fun i v => [(2, .cells [.pv (.lit (.int .u8 0)), .pv (.lit (.int .u8 0)), .pv (.lit (.int .u8 0)), .pv (.lit (.int .u8 0)), .pv (.lit (.int .u8 0)), .pv (.lit (.int .u8 0)), .pv (.lit (.int .u8 0)), .pv (.lit (.int .u8 0))]), (4, .cells [.pv (.lit (.int .u8 (v 0))), .pv (.lit (.int .u8 (v 1))), .pv (.lit (.int .u8 (v 2))), .pv (.lit (.int .u8 (v 3))), .pv (.lit (.int .u8 (v 4))), .pv (.lit (.int .u8 (v 5))), .pv (.lit (.int .u8 (v 6))), .pv (.lit (.int .u8 (v 7)))])]) [2, 4] (fun i v => r9Key_l0 D ((D.length : Int).toNat - i) i v = R) (ofL [(0 : Int), 0, 0, 0, 0, 0, 0, 0]) ?_ ?_ (fun i vc h3 hR => ?_)
   · exact hR
   · exact ⟨fun b => b, WeakerR.ofL (Ks := [2, 4]) hI ⟨⟨rfl, rfl⟩, ⟨rfl, rfl⟩, ⟨rfl, rfl⟩, ⟨rfl, rfl⟩, ⟨rfl, rfl⟩, trivial⟩ (okH_cons rfl rfl rfl rfl (okH_cons rfl rfl rfl rfl (okH_nil))) rfl⟩
   have hl8_ := of_decide_eq_false ‹decide ((D.length : Int) > 8) = false›
   refine Awp.consP C ?_
   refine rvP C (.pv (.lit (.bool (decide ((i : Int) < (D.length : Int)))))) ?_
   refine rvc_nil ?_
   refine Awp.seq ?_
   refine Awp.cond (b := (decide ((i : Int) < (D.length : Int)))) rfl (fun h4 => ?_) (fun h4 => ?_)
   ·
    have h5 : i < (D.length : Int).toNat := by have := of_decide_eq_true h4; omega
    obtain ⟨k, h6⟩ : ∃ k, (D.length : Int).toNat - i = k + 1 := ⟨(D.length : Int).toNat - i - 1, by omega⟩
    rw [h6] at hR
    refine Awp.skip ?_
    refine Awp.seq ?_
    refine Awp.block ?_
    refine Awp.consP C ?_
    refine rvP C (.pv (.lit (.int .i64 (i : Int)))) ?_
    refine rvP C (.pv (.lit (.int .i64 (i : Int)))) ?_
    refine rvc_nil ?_
    refine Awp.seq ?_
    refine Awp.consP C ?_
    refine rvP C (.pv (.lit (.string (strOf D)))) ?_
    refine rvP C (.pv (.lit (.int .i64 (i : Int)))) ?_
    refine rvc_un (rexec_idxStr C hD rfl rfl rfl rfl ⟨(by omega), (by omega)⟩ ?_)
    refine rvP C (.pv (.lit (.bool ((D[(i : Int).toNat]!) == 0)))) ?_
    refine rvc_nil ?_
    refine Awp.cond (b := ((D[(i : Int).toNat]!) == 0)) rfl (fun h7 => ?_) (fun h7 => ?_)
    ·
     replace hR := of_true h7 hR
     refine Awp.consP C ?_
     refine rvP C (.agg [.pv (.lit (.int .u8 0)), .pv (.lit (.int .u8 0)), .pv (.lit (.int .u8 0)), .pv (.lit (.int .u8 0)), .pv (.lit (.int .u8 0)), .pv (.lit (.int .u8 0)), .pv (.lit (.int .u8 0)), .pv (.lit (.int .u8 0))]) ?_
     refine rvc_un (rexec_prim C (δ := { v := .undef, wr := [(2, some (.cells [.pv (.lit (.int .u8 0)), .pv (.lit (.int .u8 0)), .pv (.lit (.int .u8 0)), .pv (.lit (.int .u8 0)), .pv (.lit (.int .u8 0)), .pv (.lit (.int .u8 0)), .pv (.lit (.int .u8 0)), .pv (.lit (.int .u8 0))]))] }) rfl rfl rfl rfl trivial rfl ?_)
     refine rvP C (.pv (.lit (.int .i64 91))) ?_
     refine rvc_nil ?_
     refine Awp.ret ?_
     subst hR
     exact ⟨.inl rfl, rfl⟩
    ·
     replace hR := of_false h7 hR
     refine Awp.skip ?_
     refine Awp.regionP C ?_
     refine rvP C (.pv (.lit (.int .i64 (i : Int)))) ?_
     refine rvP C (.pv (.lit (.string (strOf D)))) ?_
     refine rvP C (.pv (.lit (.int .i64 (i : Int)))) ?_
     refine rvc_un (rexec_idxStr C hD rfl rfl rfl rfl ⟨(by omega), (by omega)⟩ ?_)
     refine rvc_un (rexec_prim C (δ := { v := .ptr 4 (0 + i * 1) }) rfl rfl rfl rfl ⟨(by omega), (by omega)⟩ rfl ?_)
     refine rvc_un (rexec_storeA C [] [] (fun z => .lit (.int .u8 z)) vc 8 i (D[(i : Int).toNat]!) [.pv (.lit (.int .u8 ((updA vc i (D[(i : Int).toNat]!)) 0))), .pv (.lit (.int .u8 ((updA vc i (D[(i : Int).toNat]!)) 1))), .pv (.lit (.int .u8 ((updA vc i (D[(i : Int).toNat]!)) 2))), .pv (.lit (.int .u8 ((updA vc i (D[(i : Int).toNat]!)) 3))), .pv (.lit (.int .u8 ((updA vc i (D[(i : Int).toNat]!)) 4))), .pv (.lit (.int .u8 ((updA vc i (D[(i : Int).toNat]!)) 5))), .pv (.lit (.int .u8 ((updA vc i (D[(i : Int).toNat]!)) 6))), .pv (.lit (.int .u8 ((updA vc i (D[(i : Int).toNat]!)) 7)))] rfl rfl rfl rfl rfl rfl (by omega) rfl ?_)
     refine rvc_nil ?_
     refine Awp.regionP C ?_
     refine rvP C (.pv (.lit (.int .i64 (IntKind.i64.wrap ((i : Int) + 1))))) ?_
     refine rvP C (.pv (.lit (.int .i64 (IntKind.i64.wrap ((i : Int) + 1))))) ?_
     refine rvc_nil ?_
     refine ⟨h5, (updA vc i (D[(i : Int).toNat]!)), ?_, ?_⟩
     · exact (by rw [show (D.length : Int).toNat - (i + 1) = k by omega]; exact hR)
     · exact ⟨fun b => b, WeakerR.ofL (Ks := [2, 4]) hI ⟨⟨rfl, rfl⟩, ⟨rfl, rfl⟩, ⟨rfl, rfl⟩, ⟨rfl, rfl⟩, ⟨lit_cast (wrap_i64 (by omega) (by omega)), rfl⟩, trivial⟩ (okH_cons rfl rfl rfl rfl (okH_cons rfl rfl rfl rfl (okH_nil))) rfl⟩
   ·
    rw [show (D.length : Int).toNat - i = 0 by have := of_decide_eq_false h4; omega] at hR
    refine Awp.exit ?_
    refine Awp.consP C ?_
    refine rvP C (.agg [.pv (.lit (.int .u8 (vc 0))), .pv (.lit (.int .u8 (vc 1))), .pv (.lit (.int .u8 (vc 2))), .pv (.lit (.int .u8 (vc 3))), .pv (.lit (.int .u8 (vc 4))), .pv (.lit (.int .u8 (vc 5))), .pv (.lit (.int .u8 (vc 6))), .pv (.lit (.int .u8 (vc 7)))]) ?_
    refine rvc_un (rexec_prim C (δ := { v := .undef, wr := [(2, some (.cells [.pv (.lit (.int .u8 (vc 0))), .pv (.lit (.int .u8 (vc 1))), .pv (.lit (.int .u8 (vc 2))), .pv (.lit (.int .u8 (vc 3))), .pv (.lit (.int .u8 (vc 4))), .pv (.lit (.int .u8 (vc 5))), .pv (.lit (.int .u8 (vc 6))), .pv (.lit (.int .u8 (vc 7)))]))] }) rfl rfl rfl rfl trivial rfl ?_)
    refine rvP C (.pv (.lit (.int .i64 0))) ?_
    refine rvc_nil ?_
    refine Awp.ret ?_
    subst hR
    exact ⟨.inl rfl, rfl⟩
structure Seen where
  key : (Nat → Int)
  ver : Int
  deriving Inhabited
def eSeen : Enc Seen := ⟨9, fun x => [.lit (.int .u8 (x.key 0)), .lit (.int .u8 (x.key 1)), .lit (.int .u8 (x.key 2)), .lit (.int .u8 (x.key 3)), .lit (.int .u8 (x.key 4)), .lit (.int .u8 (x.key 5)), .lit (.int .u8 (x.key 6)), .lit (.int .u8 (x.key 7)), .lit (.int .i64 x.ver)], fun _ => rfl⟩
def shRight (k : (Nat → Int))  : Int :=
  (bif (((shKey (nameL k)).2) != 0) then 91 else (bif (!((((shKey (nameL k)).1 0) == (k 0)) && ((((shKey (nameL k)).1 1) == (k 1)) && ((((shKey (nameL k)).1 2) == (k 2)) && ((((shKey (nameL k)).1 3) == (k 3)) && ((((shKey (nameL k)).1 4) == (k 4)) && ((((shKey (nameL k)).1 5) == (k 5)) && ((((shKey (nameL k)).1 6) == (k 6)) && ((((shKey (nameL k)).1 7) == (k 7)) && true))))))))) then 91 else (bif (decide (((⟨#[120]⟩ : ByteArray).size : Int) < 1)) then 91 else (bif (decide (((⟨#[120]⟩ : ByteArray).size : Int) > 24)) then 91 else 0))))
theorem shRight_calls (k : (Nat → Int))  (hk : KeyB k) : PCalls Tryd.prog 28 [.agg [.pv (.lit (.int .u8 (k 0))), .pv (.lit (.int .u8 (k 1))), .pv (.lit (.int .u8 (k 2))), .pv (.lit (.int .u8 (k 3))), .pv (.lit (.int .u8 (k 4))), .pv (.lit (.int .u8 (k 5))), .pv (.lit (.int .u8 (k 6))), .pv (.lit (.int .u8 (k 7)))], .pv (.lit (.string (⟨#[120]⟩ : ByteArray)))] (.pv (.lit (.int .i64 (shRight k )))) := by
 generalize hR : shRight k  = R
 refine PCalls.of_body tabOk Tryd.func28 rfl rfl rfl rfl rfl mixed fun E hP C hI => ?_
 refine Awp.consP C ?_
 refine rvc_un (rexec_prim C (δ := { v := .ptr 2 0, new := [(2, .cells [.pv (.lit (.int .u8 (k 0))), .pv (.lit (.int .u8 (k 1))), .pv (.lit (.int .u8 (k 2))), .pv (.lit (.int .u8 (k 3))), .pv (.lit (.int .u8 (k 4))), .pv (.lit (.int .u8 (k 5))), .pv (.lit (.int .u8 (k 6))), .pv (.lit (.int .u8 (k 7)))])] }) rfl rfl rfl rfl trivial rfl ?_)
 refine rvP C (.pv (.lit (.int .i64 0))) ?_
 refine rvc_nil ?_
 refine Awp.seq ?_
 refine Awp.consP C ?_
 refine rvP C (.agg [.pv (.lit (.int .u8 (k 0))), .pv (.lit (.int .u8 (k 1))), .pv (.lit (.int .u8 (k 2))), .pv (.lit (.int .u8 (k 3))), .pv (.lit (.int .u8 (k 4))), .pv (.lit (.int .u8 (k 5))), .pv (.lit (.int .u8 (k 6))), .pv (.lit (.int .u8 (k 7)))]) ?_
 refine rvc_un (rexec_call hP C rfl rfl rfl (shNameL_calls k) ?_)
 refine rvc_un (rexec_call hP C rfl rfl rfl (shKey_calls (nameL k) (nameL_ok hk)) ?_)
 refine rvP C (.tup [.agg [.pv (.lit (.int .u8 ((shKey (nameL k)).1 0))), .pv (.lit (.int .u8 ((shKey (nameL k)).1 1))), .pv (.lit (.int .u8 ((shKey (nameL k)).1 2))), .pv (.lit (.int .u8 ((shKey (nameL k)).1 3))), .pv (.lit (.int .u8 ((shKey (nameL k)).1 4))), .pv (.lit (.int .u8 ((shKey (nameL k)).1 5))), .pv (.lit (.int .u8 ((shKey (nameL k)).1 6))), .pv (.lit (.int .u8 ((shKey (nameL k)).1 7)))], .pv (.lit (.int .i64 ((shKey (nameL k)).2)))]) ?_
 refine rvP C (.agg [.pv (.lit (.int .u8 ((shKey (nameL k)).1 0))), .pv (.lit (.int .u8 ((shKey (nameL k)).1 1))), .pv (.lit (.int .u8 ((shKey (nameL k)).1 2))), .pv (.lit (.int .u8 ((shKey (nameL k)).1 3))), .pv (.lit (.int .u8 ((shKey (nameL k)).1 4))), .pv (.lit (.int .u8 ((shKey (nameL k)).1 5))), .pv (.lit (.int .u8 ((shKey (nameL k)).1 6))), .pv (.lit (.int .u8 ((shKey (nameL k)).1 7)))]) ?_
 refine rvP C (.pv (.lit (.int .i64 ((shKey (nameL k)).2)))) ?_
 refine rvc_un (rexec_prim C (δ := { v := .ptr 5 0, new := [(5, .cells [.pv (.lit (.int .u8 0)), .pv (.lit (.int .u8 0)), .pv (.lit (.int .u8 0)), .pv (.lit (.int .u8 0)), .pv (.lit (.int .u8 0)), .pv (.lit (.int .u8 0)), .pv (.lit (.int .u8 0)), .pv (.lit (.int .u8 0))])] }) rfl rfl rfl rfl trivial rfl ?_)
 refine rvc_un (rexec_prim C (δ := { v := .undef, wr := [(5, some (.cells [.pv (.lit (.int .u8 ((shKey (nameL k)).1 0))), .pv (.lit (.int .u8 ((shKey (nameL k)).1 1))), .pv (.lit (.int .u8 ((shKey (nameL k)).1 2))), .pv (.lit (.int .u8 ((shKey (nameL k)).1 3))), .pv (.lit (.int .u8 ((shKey (nameL k)).1 4))), .pv (.lit (.int .u8 ((shKey (nameL k)).1 5))), .pv (.lit (.int .u8 ((shKey (nameL k)).1 6))), .pv (.lit (.int .u8 ((shKey (nameL k)).1 7)))]))] }) rfl rfl rfl rfl trivial rfl ?_)
 refine rvP C (.pv (.lit (.int .i64 ((shKey (nameL k)).2)))) ?_
 refine rvc_nil ?_
 refine Awp.consP C ?_
 refine rvP C (.pv (.lit (.int .i64 ((shKey (nameL k)).2)))) ?_
 refine rvP C (.pv (.lit (.bool (((shKey (nameL k)).2) != 0)))) ?_
 refine rvP C (.pv (.lit (.bool (((shKey (nameL k)).2) != 0)))) ?_
 refine rvc_case 15 (((shKey (nameL k)).2) != 0) rfl (fun h1 => ?_) (fun h1 => ?_)
 ·
  replace hR := of_true h1 hR
  refine rvS ?_
  refine rvS ?_
  refine rvS ?_
  refine rvP C (.pv (.lit (.bool true))) ?_
  refine rvc_nil ?_
  refine Awp.condT (b := true) rfl rfl ?_
  refine Awp.consP C ?_
  refine rvP C (.pv (.lit (.int .i64 91))) ?_
  refine rvc_nil ?_
  refine Awp.ret ?_
  subst hR
  exact ⟨.inl rfl, rfl⟩
 ·
  replace hR := of_false h1 hR
  refine rvO C (.agg [.pv (.lit (.int .u8 ((shKey (nameL k)).1 0))), .pv (.lit (.int .u8 ((shKey (nameL k)).1 1))), .pv (.lit (.int .u8 ((shKey (nameL k)).1 2))), .pv (.lit (.int .u8 ((shKey (nameL k)).1 3))), .pv (.lit (.int .u8 ((shKey (nameL k)).1 4))), .pv (.lit (.int .u8 ((shKey (nameL k)).1 5))), .pv (.lit (.int .u8 ((shKey (nameL k)).1 6))), .pv (.lit (.int .u8 ((shKey (nameL k)).1 7)))]) ?_
  refine rvO C (.agg [.pv (.lit (.int .u8 (k 0))), .pv (.lit (.int .u8 (k 1))), .pv (.lit (.int .u8 (k 2))), .pv (.lit (.int .u8 (k 3))), .pv (.lit (.int .u8 (k 4))), .pv (.lit (.int .u8 (k 5))), .pv (.lit (.int .u8 (k 6))), .pv (.lit (.int .u8 (k 7)))]) ?_
  refine rvO C (.pv (.lit (.bool (!((((shKey (nameL k)).1 0) == (k 0)) && ((((shKey (nameL k)).1 1) == (k 1)) && ((((shKey (nameL k)).1 2) == (k 2)) && ((((shKey (nameL k)).1 3) == (k 3)) && ((((shKey (nameL k)).1 4) == (k 4)) && ((((shKey (nameL k)).1 5) == (k 5)) && ((((shKey (nameL k)).1 6) == (k 6)) && ((((shKey (nameL k)).1 7) == (k 7)) && true)))))))))))) ?_
  refine rvP C (.pv (.lit (.bool (!((((shKey (nameL k)).1 0) == (k 0)) && ((((shKey (nameL k)).1 1) == (k 1)) && ((((shKey (nameL k)).1 2) == (k 2)) && ((((shKey (nameL k)).1 3) == (k 3)) && ((((shKey (nameL k)).1 4) == (k 4)) && ((((shKey (nameL k)).1 5) == (k 5)) && ((((shKey (nameL k)).1 6) == (k 6)) && ((((shKey (nameL k)).1 7) == (k 7)) && true)))))))))))) ?_
  refine rvc_nil ?_
  refine Awp.cond (b := (!((((shKey (nameL k)).1 0) == (k 0)) && ((((shKey (nameL k)).1 1) == (k 1)) && ((((shKey (nameL k)).1 2) == (k 2)) && ((((shKey (nameL k)).1 3) == (k 3)) && ((((shKey (nameL k)).1 4) == (k 4)) && ((((shKey (nameL k)).1 5) == (k 5)) && ((((shKey (nameL k)).1 6) == (k 6)) && ((((shKey (nameL k)).1 7) == (k 7)) && true)))))))))) rfl (fun h2 => ?_) (fun h2 => ?_)
  ·
   replace hR := of_true h2 hR
   refine Awp.consP C ?_
   refine rvP C (.pv (.lit (.int .i64 91))) ?_
   refine rvc_nil ?_
   refine Awp.ret ?_
   subst hR
   exact ⟨.inl rfl, rfl⟩
  ·
   replace hR := of_false h2 hR
   refine Awp.skip ?_
   refine Awp.seq ?_
   refine Awp.consP C ?_
   refine rvP C (.pv (.lit (.string (⟨#[120]⟩ : ByteArray)))) ?_
   refine rvP C (.pv (.lit (.int .i64 ((⟨#[120]⟩ : ByteArray).size : Int)))) ?_
   refine rvP C (.pv (.lit (.bool (decide (((⟨#[120]⟩ : ByteArray).size : Int) < 1))))) ?_
   refine rvP C (.pv (.lit (.bool (decide (((⟨#[120]⟩ : ByteArray).size : Int) < 1))))) ?_
   refine rvc_case 23 (decide (((⟨#[120]⟩ : ByteArray).size : Int) < 1)) rfl (fun h3 => ?_) (fun h3 => ?_)
   ·
    replace hR := of_true h3 hR
    refine rvS ?_
    refine rvS ?_
    refine rvS ?_
    refine rvP C (.pv (.lit (.bool true))) ?_
    refine rvP C (.pv (.lit (.bool true))) ?_
    refine rvS ?_
    refine rvS ?_
    refine rvS ?_
    refine rvP C (.pv (.lit (.bool true))) ?_
    refine rvc_nil ?_
    refine Awp.condT (b := true) rfl rfl ?_
    refine Awp.consP C ?_
    refine rvP C (.pv (.lit (.int .i64 91))) ?_
    refine rvc_nil ?_
    refine Awp.ret ?_
    subst hR
    exact ⟨.inl rfl, rfl⟩
   ·
    replace hR := of_false h3 hR
    refine rvO C (.pv (.lit (.string (⟨#[120]⟩ : ByteArray)))) ?_
    refine rvO C (.pv (.lit (.int .i64 ((⟨#[120]⟩ : ByteArray).size : Int)))) ?_
    refine rvO C (.pv (.lit (.bool (decide (((⟨#[120]⟩ : ByteArray).size : Int) > 24))))) ?_
    refine rvP C (.pv (.lit (.bool (decide (((⟨#[120]⟩ : ByteArray).size : Int) > 24))))) ?_
    refine rvP C (.pv (.lit (.bool (decide (((⟨#[120]⟩ : ByteArray).size : Int) > 24))))) ?_
    refine rvc_case 28 (decide (((⟨#[120]⟩ : ByteArray).size : Int) > 24)) rfl (fun h4 => ?_) (fun h4 => ?_)
    ·
     replace hR := of_true h4 hR
     refine rvS ?_
     refine rvS ?_
     refine rvS ?_
     refine rvP C (.pv (.lit (.bool true))) ?_
     refine rvc_nil ?_
     refine Awp.condT (b := true) rfl rfl ?_
     refine Awp.consP C ?_
     refine rvP C (.pv (.lit (.int .i64 91))) ?_
     refine rvc_nil ?_
     refine Awp.ret ?_
     subst hR
     exact ⟨.inl rfl, rfl⟩
    ·
     replace hR := of_false h4 hR
     refine rvO C (.pv (.lit (.string (⟨#[120]⟩ : ByteArray)))) ?_
     refine rvc_open rfl rfl rfl (rexec_call hP C rfl rfl rfl (valid_x ) ?_)
     refine rvO C (.pv (.lit (.bool false))) ?_
     refine rvP C (.pv (.lit (.bool false))) ?_
     refine rvc_nil ?_
     refine Awp.condF (b := false) rfl rfl ?_
     refine Awp.skip ?_
     refine Awp.consP C ?_
     refine rvP C (.pv (.lit (.int .i64 0))) ?_
     refine rvc_nil ?_
     refine Awp.ret ?_
     subst hR
     exact ⟨.inl rfl, rfl⟩
def r9Right (k : (Nat → Int))  : Int :=
  (bif (((r9Key (nameL k)).2) != 0) then 91 else (bif (!((((r9Key (nameL k)).1 0) == (k 0)) && ((((r9Key (nameL k)).1 1) == (k 1)) && ((((r9Key (nameL k)).1 2) == (k 2)) && ((((r9Key (nameL k)).1 3) == (k 3)) && ((((r9Key (nameL k)).1 4) == (k 4)) && ((((r9Key (nameL k)).1 5) == (k 5)) && ((((r9Key (nameL k)).1 6) == (k 6)) && ((((r9Key (nameL k)).1 7) == (k 7)) && true))))))))) then 91 else (bif (decide (((⟨#[120]⟩ : ByteArray).size : Int) < 1)) then 91 else (bif (decide (((⟨#[120]⟩ : ByteArray).size : Int) > 24)) then 91 else 0))))
theorem r9Right_calls (k : (Nat → Int))  (hk : KeyB k) : PCalls Tryd.prog 51 [.agg [.pv (.lit (.int .u8 (k 0))), .pv (.lit (.int .u8 (k 1))), .pv (.lit (.int .u8 (k 2))), .pv (.lit (.int .u8 (k 3))), .pv (.lit (.int .u8 (k 4))), .pv (.lit (.int .u8 (k 5))), .pv (.lit (.int .u8 (k 6))), .pv (.lit (.int .u8 (k 7)))], .pv (.lit (.string (⟨#[120]⟩ : ByteArray)))] (.pv (.lit (.int .i64 (r9Right k )))) := by
 generalize hR : r9Right k  = R
 refine PCalls.of_body tabOk Tryd.func51 rfl rfl rfl rfl rfl mixed fun E hP C hI => ?_
 refine Awp.consP C ?_
 refine rvc_un (rexec_prim C (δ := { v := .ptr 2 0, new := [(2, .cells [.pv (.lit (.int .u8 (k 0))), .pv (.lit (.int .u8 (k 1))), .pv (.lit (.int .u8 (k 2))), .pv (.lit (.int .u8 (k 3))), .pv (.lit (.int .u8 (k 4))), .pv (.lit (.int .u8 (k 5))), .pv (.lit (.int .u8 (k 6))), .pv (.lit (.int .u8 (k 7)))])] }) rfl rfl rfl rfl trivial rfl ?_)
 refine rvP C (.pv (.lit (.int .i64 0))) ?_
 refine rvc_nil ?_
 refine Awp.consP C ?_
 refine rvP C (.agg [.pv (.lit (.int .u8 (k 0))), .pv (.lit (.int .u8 (k 1))), .pv (.lit (.int .u8 (k 2))), .pv (.lit (.int .u8 (k 3))), .pv (.lit (.int .u8 (k 4))), .pv (.lit (.int .u8 (k 5))), .pv (.lit (.int .u8 (k 6))), .pv (.lit (.int .u8 (k 7)))]) ?_
 refine rvc_un (rexec_call hP C rfl rfl rfl (r9NameL_calls k) ?_)
 refine rvc_un (rexec_call hP C rfl rfl rfl (r9Key_calls (nameL k) (nameL_ok hk)) ?_)
 refine rvP C (.tup [.agg [.pv (.lit (.int .u8 ((r9Key (nameL k)).1 0))), .pv (.lit (.int .u8 ((r9Key (nameL k)).1 1))), .pv (.lit (.int .u8 ((r9Key (nameL k)).1 2))), .pv (.lit (.int .u8 ((r9Key (nameL k)).1 3))), .pv (.lit (.int .u8 ((r9Key (nameL k)).1 4))), .pv (.lit (.int .u8 ((r9Key (nameL k)).1 5))), .pv (.lit (.int .u8 ((r9Key (nameL k)).1 6))), .pv (.lit (.int .u8 ((r9Key (nameL k)).1 7)))], .pv (.lit (.int .i64 ((r9Key (nameL k)).2)))]) ?_
 refine rvP C (.agg [.pv (.lit (.int .u8 ((r9Key (nameL k)).1 0))), .pv (.lit (.int .u8 ((r9Key (nameL k)).1 1))), .pv (.lit (.int .u8 ((r9Key (nameL k)).1 2))), .pv (.lit (.int .u8 ((r9Key (nameL k)).1 3))), .pv (.lit (.int .u8 ((r9Key (nameL k)).1 4))), .pv (.lit (.int .u8 ((r9Key (nameL k)).1 5))), .pv (.lit (.int .u8 ((r9Key (nameL k)).1 6))), .pv (.lit (.int .u8 ((r9Key (nameL k)).1 7)))]) ?_
 refine rvP C (.pv (.lit (.int .i64 ((r9Key (nameL k)).2)))) ?_
 refine rvc_un (rexec_prim C (δ := { v := .ptr 5 0, new := [(5, .cells [.pv (.lit (.int .u8 0)), .pv (.lit (.int .u8 0)), .pv (.lit (.int .u8 0)), .pv (.lit (.int .u8 0)), .pv (.lit (.int .u8 0)), .pv (.lit (.int .u8 0)), .pv (.lit (.int .u8 0)), .pv (.lit (.int .u8 0))])] }) rfl rfl rfl rfl trivial rfl ?_)
 refine rvc_un (rexec_prim C (δ := { v := .undef, wr := [(5, some (.cells [.pv (.lit (.int .u8 ((r9Key (nameL k)).1 0))), .pv (.lit (.int .u8 ((r9Key (nameL k)).1 1))), .pv (.lit (.int .u8 ((r9Key (nameL k)).1 2))), .pv (.lit (.int .u8 ((r9Key (nameL k)).1 3))), .pv (.lit (.int .u8 ((r9Key (nameL k)).1 4))), .pv (.lit (.int .u8 ((r9Key (nameL k)).1 5))), .pv (.lit (.int .u8 ((r9Key (nameL k)).1 6))), .pv (.lit (.int .u8 ((r9Key (nameL k)).1 7)))]))] }) rfl rfl rfl rfl trivial rfl ?_)
 refine rvP C (.pv (.lit (.int .i64 ((r9Key (nameL k)).2)))) ?_
 refine rvc_nil ?_
 refine Awp.seq ?_
 refine Awp.consP C ?_
 refine rvP C (.pv (.lit (.int .i64 ((r9Key (nameL k)).2)))) ?_
 refine rvP C (.pv (.lit (.bool (((r9Key (nameL k)).2) != 0)))) ?_
 refine rvP C (.pv (.lit (.bool (((r9Key (nameL k)).2) != 0)))) ?_
 refine rvc_case 15 (((r9Key (nameL k)).2) != 0) rfl (fun h1 => ?_) (fun h1 => ?_)
 ·
  replace hR := of_true h1 hR
  refine rvS ?_
  refine rvS ?_
  refine rvS ?_
  refine rvP C (.pv (.lit (.bool true))) ?_
  refine rvP C (.pv (.lit (.bool true))) ?_
  refine rvS ?_
  refine rvS ?_
  refine rvS ?_
  refine rvP C (.pv (.lit (.bool true))) ?_
  refine rvP C (.pv (.lit (.bool true))) ?_
  refine rvS ?_
  refine rvS ?_
  refine rvS ?_
  refine rvP C (.pv (.lit (.bool true))) ?_
  refine rvP C (.pv (.lit (.bool true))) ?_
  refine rvS ?_
  refine rvS ?_
  refine rvS ?_
  refine rvP C (.pv (.lit (.bool true))) ?_
  refine rvc_nil ?_
  refine Awp.condT (b := true) rfl rfl ?_
  refine Awp.consP C ?_
  refine rvP C (.pv (.lit (.int .i64 91))) ?_
  refine rvc_nil ?_
  refine Awp.ret ?_
  subst hR
  exact ⟨.inl rfl, rfl⟩
 ·
  replace hR := of_false h1 hR
  refine rvO C (.agg [.pv (.lit (.int .u8 ((r9Key (nameL k)).1 0))), .pv (.lit (.int .u8 ((r9Key (nameL k)).1 1))), .pv (.lit (.int .u8 ((r9Key (nameL k)).1 2))), .pv (.lit (.int .u8 ((r9Key (nameL k)).1 3))), .pv (.lit (.int .u8 ((r9Key (nameL k)).1 4))), .pv (.lit (.int .u8 ((r9Key (nameL k)).1 5))), .pv (.lit (.int .u8 ((r9Key (nameL k)).1 6))), .pv (.lit (.int .u8 ((r9Key (nameL k)).1 7)))]) ?_
  refine rvO C (.agg [.pv (.lit (.int .u8 (k 0))), .pv (.lit (.int .u8 (k 1))), .pv (.lit (.int .u8 (k 2))), .pv (.lit (.int .u8 (k 3))), .pv (.lit (.int .u8 (k 4))), .pv (.lit (.int .u8 (k 5))), .pv (.lit (.int .u8 (k 6))), .pv (.lit (.int .u8 (k 7)))]) ?_
  refine rvO C (.pv (.lit (.bool (!((((r9Key (nameL k)).1 0) == (k 0)) && ((((r9Key (nameL k)).1 1) == (k 1)) && ((((r9Key (nameL k)).1 2) == (k 2)) && ((((r9Key (nameL k)).1 3) == (k 3)) && ((((r9Key (nameL k)).1 4) == (k 4)) && ((((r9Key (nameL k)).1 5) == (k 5)) && ((((r9Key (nameL k)).1 6) == (k 6)) && ((((r9Key (nameL k)).1 7) == (k 7)) && true)))))))))))) ?_
  refine rvP C (.pv (.lit (.bool (!((((r9Key (nameL k)).1 0) == (k 0)) && ((((r9Key (nameL k)).1 1) == (k 1)) && ((((r9Key (nameL k)).1 2) == (k 2)) && ((((r9Key (nameL k)).1 3) == (k 3)) && ((((r9Key (nameL k)).1 4) == (k 4)) && ((((r9Key (nameL k)).1 5) == (k 5)) && ((((r9Key (nameL k)).1 6) == (k 6)) && ((((r9Key (nameL k)).1 7) == (k 7)) && true)))))))))))) ?_
  refine rvP C (.pv (.lit (.bool (!((((r9Key (nameL k)).1 0) == (k 0)) && ((((r9Key (nameL k)).1 1) == (k 1)) && ((((r9Key (nameL k)).1 2) == (k 2)) && ((((r9Key (nameL k)).1 3) == (k 3)) && ((((r9Key (nameL k)).1 4) == (k 4)) && ((((r9Key (nameL k)).1 5) == (k 5)) && ((((r9Key (nameL k)).1 6) == (k 6)) && ((((r9Key (nameL k)).1 7) == (k 7)) && true)))))))))))) ?_
  refine rvc_case 20 (!((((r9Key (nameL k)).1 0) == (k 0)) && ((((r9Key (nameL k)).1 1) == (k 1)) && ((((r9Key (nameL k)).1 2) == (k 2)) && ((((r9Key (nameL k)).1 3) == (k 3)) && ((((r9Key (nameL k)).1 4) == (k 4)) && ((((r9Key (nameL k)).1 5) == (k 5)) && ((((r9Key (nameL k)).1 6) == (k 6)) && ((((r9Key (nameL k)).1 7) == (k 7)) && true))))))))) rfl (fun h2 => ?_) (fun h2 => ?_)
  ·
   replace hR := of_true h2 hR
   refine rvS ?_
   refine rvS ?_
   refine rvS ?_
   refine rvP C (.pv (.lit (.bool true))) ?_
   refine rvP C (.pv (.lit (.bool true))) ?_
   refine rvS ?_
   refine rvS ?_
   refine rvS ?_
   refine rvP C (.pv (.lit (.bool true))) ?_
   refine rvP C (.pv (.lit (.bool true))) ?_
   refine rvS ?_
   refine rvS ?_
   refine rvS ?_
   refine rvP C (.pv (.lit (.bool true))) ?_
   refine rvc_nil ?_
   refine Awp.condT (b := true) rfl rfl ?_
   refine Awp.consP C ?_
   refine rvP C (.pv (.lit (.int .i64 91))) ?_
   refine rvc_nil ?_
   refine Awp.ret ?_
   subst hR
   exact ⟨.inl rfl, rfl⟩
  ·
   replace hR := of_false h2 hR
   refine rvO C (.pv (.lit (.string (⟨#[120]⟩ : ByteArray)))) ?_
   refine rvO C (.pv (.lit (.int .i64 ((⟨#[120]⟩ : ByteArray).size : Int)))) ?_
   refine rvO C (.pv (.lit (.bool (decide (((⟨#[120]⟩ : ByteArray).size : Int) < 1))))) ?_
   refine rvP C (.pv (.lit (.bool (decide (((⟨#[120]⟩ : ByteArray).size : Int) < 1))))) ?_
   refine rvP C (.pv (.lit (.bool (decide (((⟨#[120]⟩ : ByteArray).size : Int) < 1))))) ?_
   refine rvc_case 25 (decide (((⟨#[120]⟩ : ByteArray).size : Int) < 1)) rfl (fun h3 => ?_) (fun h3 => ?_)
   ·
    replace hR := of_true h3 hR
    refine rvS ?_
    refine rvS ?_
    refine rvS ?_
    refine rvP C (.pv (.lit (.bool true))) ?_
    refine rvP C (.pv (.lit (.bool true))) ?_
    refine rvS ?_
    refine rvS ?_
    refine rvS ?_
    refine rvP C (.pv (.lit (.bool true))) ?_
    refine rvc_nil ?_
    refine Awp.condT (b := true) rfl rfl ?_
    refine Awp.consP C ?_
    refine rvP C (.pv (.lit (.int .i64 91))) ?_
    refine rvc_nil ?_
    refine Awp.ret ?_
    subst hR
    exact ⟨.inl rfl, rfl⟩
   ·
    replace hR := of_false h3 hR
    refine rvO C (.pv (.lit (.string (⟨#[120]⟩ : ByteArray)))) ?_
    refine rvO C (.pv (.lit (.int .i64 ((⟨#[120]⟩ : ByteArray).size : Int)))) ?_
    refine rvO C (.pv (.lit (.bool (decide (((⟨#[120]⟩ : ByteArray).size : Int) > 24))))) ?_
    refine rvP C (.pv (.lit (.bool (decide (((⟨#[120]⟩ : ByteArray).size : Int) > 24))))) ?_
    refine rvP C (.pv (.lit (.bool (decide (((⟨#[120]⟩ : ByteArray).size : Int) > 24))))) ?_
    refine rvc_case 30 (decide (((⟨#[120]⟩ : ByteArray).size : Int) > 24)) rfl (fun h4 => ?_) (fun h4 => ?_)
    ·
     replace hR := of_true h4 hR
     refine rvS ?_
     refine rvS ?_
     refine rvS ?_
     refine rvP C (.pv (.lit (.bool true))) ?_
     refine rvc_nil ?_
     refine Awp.condT (b := true) rfl rfl ?_
     refine Awp.consP C ?_
     refine rvP C (.pv (.lit (.int .i64 91))) ?_
     refine rvc_nil ?_
     refine Awp.ret ?_
     subst hR
     exact ⟨.inl rfl, rfl⟩
    ·
     replace hR := of_false h4 hR
     refine rvO C (.pv (.lit (.string (⟨#[120]⟩ : ByteArray)))) ?_
     refine rvc_open rfl rfl rfl (rexec_call hP C rfl rfl rfl (r9plain_x ) ?_)
     refine rvO C (.pv (.lit (.bool false))) ?_
     refine rvP C (.pv (.lit (.bool false))) ?_
     refine rvc_nil ?_
     refine Awp.condF (b := false) rfl rfl ?_
     refine Awp.skip ?_
     refine Awp.consP C ?_
     refine rvP C (.pv (.lit (.int .i64 0))) ?_
     refine rvc_nil ?_
     refine Awp.ret ?_
     subst hR
     exact ⟨.inl rfl, rfl⟩
def rKey (k : (Nat → Int)) : Bool :=
  ((r9Right k) == 0)
theorem rKey_calls (k : (Nat → Int)) (hk : KeyB k) : PCalls Tryd.prog 30 [.agg [.pv (.lit (.int .u8 (k 0))), .pv (.lit (.int .u8 (k 1))), .pv (.lit (.int .u8 (k 2))), .pv (.lit (.int .u8 (k 3))), .pv (.lit (.int .u8 (k 4))), .pv (.lit (.int .u8 (k 5))), .pv (.lit (.int .u8 (k 6))), .pv (.lit (.int .u8 (k 7)))]] (.pv (.lit (.bool (rKey k)))) := by
 generalize hR : rKey k = R
 refine PCalls.of_body tabOk Tryd.func30 rfl rfl rfl rfl rfl mixed fun E hP C hI => ?_
 refine Awp.consP C ?_
 refine rvc_un (rexec_prim C (δ := { v := .ptr 1 0, new := [(1, .cells [.pv (.lit (.int .u8 (k 0))), .pv (.lit (.int .u8 (k 1))), .pv (.lit (.int .u8 (k 2))), .pv (.lit (.int .u8 (k 3))), .pv (.lit (.int .u8 (k 4))), .pv (.lit (.int .u8 (k 5))), .pv (.lit (.int .u8 (k 6))), .pv (.lit (.int .u8 (k 7)))])] }) rfl rfl rfl rfl trivial rfl ?_)
 refine rvP C (.pv (.lit (.bool false))) ?_
 refine rvc_nil ?_
 refine Awp.consP C ?_
 refine rvP C (.agg [.pv (.lit (.int .u8 (k 0))), .pv (.lit (.int .u8 (k 1))), .pv (.lit (.int .u8 (k 2))), .pv (.lit (.int .u8 (k 3))), .pv (.lit (.int .u8 (k 4))), .pv (.lit (.int .u8 (k 5))), .pv (.lit (.int .u8 (k 6))), .pv (.lit (.int .u8 (k 7)))]) ?_
 refine rvc_un (rexec_call hP C rfl rfl rfl (r9Right_calls k hk) ?_)
 refine rvP C (.pv (.lit (.bool ((r9Right k) == 0)))) ?_
 refine rvP C (.pv (.lit (.bool ((r9Right k) == 0)))) ?_
 refine rvc_nil ?_
 refine Awp.ret ?_
 subst hR
 exact ⟨.inl rfl, rfl⟩
def placeF (s : Seen) (k : (Nat → Int)) : Int :=
  (cmpB (Sl.mk false (tbF s.key 8 0)) (Sl.mk false (tbF k 8 0)))
theorem placeF_calls (s : Seen) (k : (Nat → Int))  : PCalls Tryd.prog 63 [.agg [.pv (.lit (.int .u8 (s.key 0))), .pv (.lit (.int .u8 (s.key 1))), .pv (.lit (.int .u8 (s.key 2))), .pv (.lit (.int .u8 (s.key 3))), .pv (.lit (.int .u8 (s.key 4))), .pv (.lit (.int .u8 (s.key 5))), .pv (.lit (.int .u8 (s.key 6))), .pv (.lit (.int .u8 (s.key 7))), .pv (.lit (.int .i64 s.ver))], .agg [.pv (.lit (.int .u8 (k 0))), .pv (.lit (.int .u8 (k 1))), .pv (.lit (.int .u8 (k 2))), .pv (.lit (.int .u8 (k 3))), .pv (.lit (.int .u8 (k 4))), .pv (.lit (.int .u8 (k 5))), .pv (.lit (.int .u8 (k 6))), .pv (.lit (.int .u8 (k 7)))]] (.pv (.lit (.int .i64 (placeF s k)))) := by
 generalize hR : placeF s k = R
 refine PCalls.of_body tabOk Tryd.func63 rfl rfl rfl rfl rfl mixed fun E hP C hI => ?_
 refine Awp.consP C ?_
 refine rvc_un (rexec_boxF C [.lit (.int .u8 (s.key 0)), .lit (.int .u8 (s.key 1)), .lit (.int .u8 (s.key 2)), .lit (.int .u8 (s.key 3)), .lit (.int .u8 (s.key 4)), .lit (.int .u8 (s.key 5)), .lit (.int .u8 (s.key 6)), .lit (.int .u8 (s.key 7)), .lit (.int .i64 s.ver)] rfl rfl rfl rfl ?_)
 refine rvc_un (rexec_boxF C [.lit (.int .u8 (k 0)), .lit (.int .u8 (k 1)), .lit (.int .u8 (k 2)), .lit (.int .u8 (k 3)), .lit (.int .u8 (k 4)), .lit (.int .u8 (k 5)), .lit (.int .u8 (k 6)), .lit (.int .u8 (k 7))] rfl rfl rfl rfl ?_)
 refine rvP C (.pv (.lit (.int .i64 0))) ?_
 refine rvc_nil ?_
 refine Awp.consP C ?_
 refine rvP C (.rp [.lit (.int .u8 (s.key 0)), .lit (.int .u8 (s.key 1)), .lit (.int .u8 (s.key 2)), .lit (.int .u8 (s.key 3)), .lit (.int .u8 (s.key 4)), .lit (.int .u8 (s.key 5)), .lit (.int .u8 (s.key 6)), .lit (.int .u8 (s.key 7))]) ?_
 refine rvc_un (rexec_prim C (δ := { v := sS (some false) (eI .u8) (tbF s.key 8 0) }) rfl rfl rfl rfl (by decide) rfl ?_)
 refine rvc_un (rexec_prim C (δ := { v := sS (some false) (eI .u8) (tbF k 8 0) }) rfl rfl rfl rfl (by decide) rfl ?_)
 refine rvc_un (rexec_call hP C rfl rfl rfl (cmpB_calls (Sl.mk false (tbF s.key 8 0)) (Sl.mk false (tbF k 8 0))) ?_)
 refine rvP C (.pv (.lit (.int .i64 (cmpB (Sl.mk false (tbF s.key 8 0)) (Sl.mk false (tbF k 8 0)))))) ?_
 refine rvc_nil ?_
 refine Awp.ret ?_
 subst hR
 exact ⟨.inl rfl, rfl⟩
def pRight_l0 (l : (Sl Seen)) : List Seen → Nat → Int
  | [], _ => 0
  | x :: xs, i => (bif ((shRight x.key) != 0) then 100 else (bif (decide (x.ver < 1)) then 100 else (bif (decide (x.ver > 1099511627776)) then 100 else (bif (decide ((i : Int) > 0)) then (bif (decide ((cmpB (Sl.mk false (tbF (ofL [(l.D[(IntKind.i64.wrap ((i : Int) - 1)).toNat]!.key 0), (l.D[(IntKind.i64.wrap ((i : Int) - 1)).toNat]!.key 1), (l.D[(IntKind.i64.wrap ((i : Int) - 1)).toNat]!.key 2), (l.D[(IntKind.i64.wrap ((i : Int) - 1)).toNat]!.key 3), (l.D[(IntKind.i64.wrap ((i : Int) - 1)).toNat]!.key 4), (l.D[(IntKind.i64.wrap ((i : Int) - 1)).toNat]!.key 5), (l.D[(IntKind.i64.wrap ((i : Int) - 1)).toNat]!.key 6), (l.D[(IntKind.i64.wrap ((i : Int) - 1)).toNat]!.key 7)]) 8 0)) (Sl.mk false (tbF x.key 8 0))) ≥ 0)) then 100 else pRight_l0 l xs (i + 1) ) else pRight_l0 l xs (i + 1) ))))
def pRight (l : (Sl Seen)) : Int :=
  (bif (decide ((l.D.length : Int) > 6)) then 7 else pRight_l0 l l.D 0 )
theorem pRight_calls (l : (Sl Seen)) (hl : ∀ x ∈ l.D, KeyB x.key) (hl1 : l.D.length ≤ 1000000) : PCalls Tryd.prog 11 [sS (some l.nil) eSeen l.D] (.pv (.lit (.int .i64 (pRight l)))) := by
 generalize hR : pRight l = R
 refine PCalls.of_body tabOk Tryd.func11 rfl rfl rfl rfl rfl mixed fun E hP C hI => ?_
 refine Awp.consP C ?_
 refine rvP C (.pv (.lit (.int .i64 0))) ?_
 refine rvc_nil ?_
 refine Awp.seq ?_
 refine Awp.consP C ?_
 refine rvP C (sS (some l.nil) eSeen l.D) ?_
 refine rvP C (.pv (.lit (.int .i64 (l.D.length : Int)))) ?_
 refine rvP C (.pv (.lit (.bool (decide ((l.D.length : Int) > 6))))) ?_
 refine rvc_nil ?_
 refine Awp.cond (b := (decide ((l.D.length : Int) > 6))) rfl (fun h1 => ?_) (fun h1 => ?_)
 ·
  replace hR := of_true h1 hR
  refine Awp.consP C ?_
  refine rvP C (.pv (.lit (.int .i64 7))) ?_
  refine rvc_nil ?_
  refine Awp.ret ?_
  subst hR
  exact ⟨.inl rfl, rfl⟩
 ·
  replace hR := of_false h1 hR
  refine Awp.skip ?_
  refine Awp.seq ?_
  refine Awp.consP C ?_
  refine rvP C (sS (some l.nil) eSeen l.D) ?_
  refine rvP C (.pv (.lit (.int .i64 (l.D.length : Int)))) ?_
  refine rvP C (.pv (.lit (.int .i64 0))) ?_
  refine rvc_nil ?_
  refine Awp.block ?_
  refine Awp.forR (σ := Unit) (l.D.length) (fun i _v => [(0, sS (some l.nil) eSeen l.D), (8, sS (some l.nil) eSeen l.D), (9, .pv (.lit (.int .i64 (l.D.length : Int)))), (10, .pv (.lit (.int .i64 (i : Int))))]) (fun i _v => []) [] (fun i _v => pRight_l0 l (l.D.drop i) i  = R) () ?_ ?_ (fun i _v h2 hR => ?_)
  · exact hR
  · exact ⟨fun b => b, WeakerR.ofL (Ks := []) hI ⟨⟨rfl, rfl⟩, ⟨rfl, rfl⟩, ⟨rfl, rfl⟩, ⟨rfl, rfl⟩, trivial⟩ (okH_nil) rfl⟩
  refine Awp.consP C ?_
  refine rvP C (.pv (.lit (.bool (decide ((i : Int) < (l.D.length : Int)))))) ?_
  refine rvc_nil ?_
  refine Awp.seq ?_
  refine Awp.cond (b := (decide ((i : Int) < (l.D.length : Int)))) rfl (fun h3 => ?_) (fun h3 => ?_)
  ·
   have h4 : i < l.D.length := by have := of_decide_eq_true h3; omega
   obtain ⟨x, h5⟩ := getX h4
   rw [drop_at h5] at hR
   refine Awp.skip ?_
   refine Awp.seq ?_
   refine Awp.block ?_
   refine Awp.consP C ?_
   refine rvP C (.pv (.lit (.int .i64 (i : Int)))) ?_
   refine rvc_un (rexec_idxS C rfl rfl rfl rfl rfl rfl x (Int.natCast_nonneg _) h5 ?_)
   refine rvP C (.agg [.pv (.lit (.int .u8 (x.key 0))), .pv (.lit (.int .u8 (x.key 1))), .pv (.lit (.int .u8 (x.key 2))), .pv (.lit (.int .u8 (x.key 3))), .pv (.lit (.int .u8 (x.key 4))), .pv (.lit (.int .u8 (x.key 5))), .pv (.lit (.int .u8 (x.key 6))), .pv (.lit (.int .u8 (x.key 7))), .pv (.lit (.int .i64 x.ver))]) ?_
   refine rvc_un (rexec_prim C (δ := { v := .ptr 4 0, new := [(4, .cells [.pv (.lit (.int .u8 0)), .pv (.lit (.int .u8 0)), .pv (.lit (.int .u8 0)), .pv (.lit (.int .u8 0)), .pv (.lit (.int .u8 0)), .pv (.lit (.int .u8 0)), .pv (.lit (.int .u8 0)), .pv (.lit (.int .u8 0)), .pv (.lit (.int .i64 0))])] }) rfl rfl rfl rfl trivial rfl ?_)
   refine rvP C (.pv (.lit (.int .i64 (i : Int)))) ?_
   refine rvc_un (rexec_prim C (δ := { v := .undef, wr := [(4, some (.cells [.pv (.lit (.int .u8 (x.key 0))), .pv (.lit (.int .u8 (x.key 1))), .pv (.lit (.int .u8 (x.key 2))), .pv (.lit (.int .u8 (x.key 3))), .pv (.lit (.int .u8 (x.key 4))), .pv (.lit (.int .u8 (x.key 5))), .pv (.lit (.int .u8 (x.key 6))), .pv (.lit (.int .u8 (x.key 7))), .pv (.lit (.int .i64 x.ver))]))] }) rfl rfl rfl rfl trivial rfl ?_)
   refine rvc_nil ?_
   refine Awp.seq ?_
   refine Awp.consP C ?_
   refine rvP C (.ptr 4 0) ?_
   refine rvP C (.agg [.pv (.lit (.int .u8 (x.key 0))), .pv (.lit (.int .u8 (x.key 1))), .pv (.lit (.int .u8 (x.key 2))), .pv (.lit (.int .u8 (x.key 3))), .pv (.lit (.int .u8 (x.key 4))), .pv (.lit (.int .u8 (x.key 5))), .pv (.lit (.int .u8 (x.key 6))), .pv (.lit (.int .u8 (x.key 7)))]) ?_
   refine rvc_un (rexec_call hP C rfl rfl rfl (shRight_calls x.key (hl _ (List.mem_of_getElem? (by assumption)))) ?_)
   refine rvP C (.pv (.lit (.bool ((shRight x.key) != 0)))) ?_
   refine rvP C (.pv (.lit (.bool ((shRight x.key) != 0)))) ?_
   refine rvc_case 19 ((shRight x.key) != 0) rfl (fun h6 => ?_) (fun h6 => ?_)
   ·
    replace hR := of_true h6 hR
    refine rvS ?_
    refine rvS ?_
    refine rvS ?_
    refine rvP C (.pv (.lit (.bool true))) ?_
    refine rvP C (.pv (.lit (.bool true))) ?_
    refine rvS ?_
    refine rvS ?_
    refine rvS ?_
    refine rvP C (.pv (.lit (.bool true))) ?_
    refine rvc_nil ?_
    refine Awp.condT (b := true) rfl rfl ?_
    refine Awp.consP C ?_
    refine rvP C (.pv (.lit (.int .i64 100))) ?_
    refine rvc_nil ?_
    refine Awp.ret ?_
    subst hR
    exact ⟨.inl rfl, rfl⟩
   ·
    replace hR := of_false h6 hR
    refine rvO C (.ptr 4 8) ?_
    refine rvO C (.pv (.lit (.int .i64 x.ver))) ?_
    refine rvO C (.pv (.lit (.bool (decide (x.ver < 1))))) ?_
    refine rvP C (.pv (.lit (.bool (decide (x.ver < 1))))) ?_
    refine rvP C (.pv (.lit (.bool (decide (x.ver < 1))))) ?_
    refine rvc_case 24 (decide (x.ver < 1)) rfl (fun h7 => ?_) (fun h7 => ?_)
    ·
     replace hR := of_true h7 hR
     refine rvS ?_
     refine rvS ?_
     refine rvS ?_
     refine rvP C (.pv (.lit (.bool true))) ?_
     refine rvc_nil ?_
     refine Awp.condT (b := true) rfl rfl ?_
     refine Awp.consP C ?_
     refine rvP C (.pv (.lit (.int .i64 100))) ?_
     refine rvc_nil ?_
     refine Awp.ret ?_
     subst hR
     exact ⟨.inl rfl, rfl⟩
    ·
     replace hR := of_false h7 hR
     refine rvO C (.ptr 4 8) ?_
     refine rvO C (.pv (.lit (.int .i64 x.ver))) ?_
     refine rvO C (.pv (.lit (.bool (decide (x.ver > 1099511627776))))) ?_
     refine rvP C (.pv (.lit (.bool (decide (x.ver > 1099511627776))))) ?_
     refine rvc_nil ?_
     refine Awp.cond (b := (decide (x.ver > 1099511627776))) rfl (fun h8 => ?_) (fun h8 => ?_)
     ·
      replace hR := of_true h8 hR
      refine Awp.consP C ?_
      refine rvP C (.pv (.lit (.int .i64 100))) ?_
      refine rvc_nil ?_
      refine Awp.ret ?_
      subst hR
      exact ⟨.inl rfl, rfl⟩
     ·
      replace hR := of_false h8 hR
      refine Awp.skip ?_
      refine Awp.freezeP 4 [.lit (.int .u8 (x.key 0)), .lit (.int .u8 (x.key 1)), .lit (.int .u8 (x.key 2)), .lit (.int .u8 (x.key 3)), .lit (.int .u8 (x.key 4)), .lit (.int .u8 (x.key 5)), .lit (.int .u8 (x.key 6)), .lit (.int .u8 (x.key 7)), .lit (.int .i64 x.ver)] rfl [(0, sS (some l.nil) eSeen l.D), (3, .pv (.lit (.int .i64 (i : Int)))), (4, .rp [.lit (.int .u8 (x.key 0)), .lit (.int .u8 (x.key 1)), .lit (.int .u8 (x.key 2)), .lit (.int .u8 (x.key 3)), .lit (.int .u8 (x.key 4)), .lit (.int .u8 (x.key 5)), .lit (.int .u8 (x.key 6)), .lit (.int .u8 (x.key 7)), .lit (.int .i64 x.ver)]), (8, sS (some l.nil) eSeen l.D), (9, .pv (.lit (.int .i64 (l.D.length : Int)))), (10, .pv (.lit (.int .i64 (i : Int)))), (21, .pv (.lit (.int .i64 x.ver))), (22, .pv (.lit (.bool (decide (x.ver < 1))))), (26, .pv (.lit (.int .i64 x.ver))), (27, .pv (.lit (.bool (decide (x.ver > 1099511627776)))))] [] ⟨⟨_, rfl, .inl rfl⟩, ⟨_, rfl, .inl rfl⟩, ⟨_, rfl, .inr ⟨rfl, rfl⟩⟩, ⟨_, rfl, .inl rfl⟩, ⟨_, rfl, .inl rfl⟩, ⟨_, rfl, .inl rfl⟩, ⟨_, rfl, .inl rfl⟩, ⟨_, rfl, .inl rfl⟩, ⟨_, rfl, .inl rfl⟩, ⟨_, rfl, .inl rfl⟩, trivial⟩ trivial ?_
      refine Awp.consP C ?_
      refine rvP C (.pv (.lit (.int .i64 (i : Int)))) ?_
      refine rvP C (.pv (.lit (.bool (decide ((i : Int) > 0))))) ?_
      refine rvP C (.pv (.lit (.bool (decide ((i : Int) > 0))))) ?_
      refine rvc_case 31 (decide ((i : Int) > 0)) rfl (fun h9 => ?_) (fun h9 => ?_)
      ·
       replace hR := of_true h9 hR
       refine rvO C (sS (some l.nil) eSeen l.D) ?_
       refine rvO C (.pv (.lit (.int .i64 (i : Int)))) ?_
       refine rvO C (.pv (.lit (.int .i64 (IntKind.i64.wrap ((i : Int) - 1))))) ?_
       have h10 : l.D[(IntKind.i64.wrap ((i : Int) - 1)).toNat]? = some l.D[(IntKind.i64.wrap ((i : Int) - 1)).toNat]! := getE (by have := wrapI ((i : Int) - 1); have := of_decide_eq_true ‹decide ((i : Int) > 0) = true›; omega)
       refine rvc_open rfl rfl rfl (rexec_idxS C rfl rfl rfl rfl rfl rfl (l.D[(IntKind.i64.wrap ((i : Int) - 1)).toNat]!) (by have := wrapI ((i : Int) - 1); have := of_decide_eq_false h1; have := of_decide_eq_true h3; have := eq_of_bne_false h6; have := of_decide_eq_false h7; have := of_decide_eq_false h8; have := of_decide_eq_true h9; omega) h10 ?_)
       refine rvO C (.rp [.lit (.int .u8 (l.D[(IntKind.i64.wrap ((i : Int) - 1)).toNat]!.key 0)), .lit (.int .u8 (l.D[(IntKind.i64.wrap ((i : Int) - 1)).toNat]!.key 1)), .lit (.int .u8 (l.D[(IntKind.i64.wrap ((i : Int) - 1)).toNat]!.key 2)), .lit (.int .u8 (l.D[(IntKind.i64.wrap ((i : Int) - 1)).toNat]!.key 3)), .lit (.int .u8 (l.D[(IntKind.i64.wrap ((i : Int) - 1)).toNat]!.key 4)), .lit (.int .u8 (l.D[(IntKind.i64.wrap ((i : Int) - 1)).toNat]!.key 5)), .lit (.int .u8 (l.D[(IntKind.i64.wrap ((i : Int) - 1)).toNat]!.key 6)), .lit (.int .u8 (l.D[(IntKind.i64.wrap ((i : Int) - 1)).toNat]!.key 7))]) ?_
       refine rvc_open rfl rfl rfl (rexec_prim C (δ := { v := sS (some false) (eI .u8) (tbF (ofL [(l.D[(IntKind.i64.wrap ((i : Int) - 1)).toNat]!.key 0), (l.D[(IntKind.i64.wrap ((i : Int) - 1)).toNat]!.key 1), (l.D[(IntKind.i64.wrap ((i : Int) - 1)).toNat]!.key 2), (l.D[(IntKind.i64.wrap ((i : Int) - 1)).toNat]!.key 3), (l.D[(IntKind.i64.wrap ((i : Int) - 1)).toNat]!.key 4), (l.D[(IntKind.i64.wrap ((i : Int) - 1)).toNat]!.key 5), (l.D[(IntKind.i64.wrap ((i : Int) - 1)).toNat]!.key 6), (l.D[(IntKind.i64.wrap ((i : Int) - 1)).toNat]!.key 7)]) 8 0) }) rfl rfl rfl rfl (by decide) rfl ?_)
       refine rvO C (.rp [.lit (.int .u8 (x.key 0)), .lit (.int .u8 (x.key 1)), .lit (.int .u8 (x.key 2)), .lit (.int .u8 (x.key 3)), .lit (.int .u8 (x.key 4)), .lit (.int .u8 (x.key 5)), .lit (.int .u8 (x.key 6)), .lit (.int .u8 (x.key 7))]) ?_
       refine rvc_open rfl rfl rfl (rexec_prim C (δ := { v := sS (some false) (eI .u8) (tbF x.key 8 0) }) rfl rfl rfl rfl (by decide) rfl ?_)
       refine rvc_open rfl rfl rfl (rexec_call hP C rfl rfl rfl (cmpB_calls (Sl.mk false (tbF (ofL [(l.D[(IntKind.i64.wrap ((i : Int) - 1)).toNat]!.key 0), (l.D[(IntKind.i64.wrap ((i : Int) - 1)).toNat]!.key 1), (l.D[(IntKind.i64.wrap ((i : Int) - 1)).toNat]!.key 2), (l.D[(IntKind.i64.wrap ((i : Int) - 1)).toNat]!.key 3), (l.D[(IntKind.i64.wrap ((i : Int) - 1)).toNat]!.key 4), (l.D[(IntKind.i64.wrap ((i : Int) - 1)).toNat]!.key 5), (l.D[(IntKind.i64.wrap ((i : Int) - 1)).toNat]!.key 6), (l.D[(IntKind.i64.wrap ((i : Int) - 1)).toNat]!.key 7)]) 8 0)) (Sl.mk false (tbF x.key 8 0))) ?_)
       refine rvO C (.pv (.lit (.bool (decide ((cmpB (Sl.mk false (tbF (ofL [(l.D[(IntKind.i64.wrap ((i : Int) - 1)).toNat]!.key 0), (l.D[(IntKind.i64.wrap ((i : Int) - 1)).toNat]!.key 1), (l.D[(IntKind.i64.wrap ((i : Int) - 1)).toNat]!.key 2), (l.D[(IntKind.i64.wrap ((i : Int) - 1)).toNat]!.key 3), (l.D[(IntKind.i64.wrap ((i : Int) - 1)).toNat]!.key 4), (l.D[(IntKind.i64.wrap ((i : Int) - 1)).toNat]!.key 5), (l.D[(IntKind.i64.wrap ((i : Int) - 1)).toNat]!.key 6), (l.D[(IntKind.i64.wrap ((i : Int) - 1)).toNat]!.key 7)]) 8 0)) (Sl.mk false (tbF x.key 8 0))) ≥ 0))))) ?_
       refine rvP C (.pv (.lit (.bool (decide ((cmpB (Sl.mk false (tbF (ofL [(l.D[(IntKind.i64.wrap ((i : Int) - 1)).toNat]!.key 0), (l.D[(IntKind.i64.wrap ((i : Int) - 1)).toNat]!.key 1), (l.D[(IntKind.i64.wrap ((i : Int) - 1)).toNat]!.key 2), (l.D[(IntKind.i64.wrap ((i : Int) - 1)).toNat]!.key 3), (l.D[(IntKind.i64.wrap ((i : Int) - 1)).toNat]!.key 4), (l.D[(IntKind.i64.wrap ((i : Int) - 1)).toNat]!.key 5), (l.D[(IntKind.i64.wrap ((i : Int) - 1)).toNat]!.key 6), (l.D[(IntKind.i64.wrap ((i : Int) - 1)).toNat]!.key 7)]) 8 0)) (Sl.mk false (tbF x.key 8 0))) ≥ 0))))) ?_
       refine rvc_nil ?_
       refine Awp.cond (b := (decide ((cmpB (Sl.mk false (tbF (ofL [(l.D[(IntKind.i64.wrap ((i : Int) - 1)).toNat]!.key 0), (l.D[(IntKind.i64.wrap ((i : Int) - 1)).toNat]!.key 1), (l.D[(IntKind.i64.wrap ((i : Int) - 1)).toNat]!.key 2), (l.D[(IntKind.i64.wrap ((i : Int) - 1)).toNat]!.key 3), (l.D[(IntKind.i64.wrap ((i : Int) - 1)).toNat]!.key 4), (l.D[(IntKind.i64.wrap ((i : Int) - 1)).toNat]!.key 5), (l.D[(IntKind.i64.wrap ((i : Int) - 1)).toNat]!.key 6), (l.D[(IntKind.i64.wrap ((i : Int) - 1)).toNat]!.key 7)]) 8 0)) (Sl.mk false (tbF x.key 8 0))) ≥ 0))) rfl (fun h11 => ?_) (fun h11 => ?_)
       ·
        replace hR := of_true h11 hR
        refine Awp.consP C ?_
        refine rvP C (.pv (.lit (.int .i64 100))) ?_
        refine rvc_nil ?_
        refine Awp.ret ?_
        subst hR
        exact ⟨.inl rfl, rfl⟩
       ·
        replace hR := of_false h11 hR
        refine Awp.skip ?_
        refine Awp.regionP C ?_
        refine rvP C (.pv (.lit (.int .i64 (IntKind.i64.wrap ((i : Int) + 1))))) ?_
        refine rvP C (.pv (.lit (.int .i64 (IntKind.i64.wrap ((i : Int) + 1))))) ?_
        refine rvc_nil ?_
        refine ⟨h4, (), ?_, ?_⟩
        · exact hR
        · exact ⟨fun b => b, WeakerR.ofL (Ks := []) hI ⟨⟨rfl, rfl⟩, ⟨rfl, rfl⟩, ⟨rfl, rfl⟩, ⟨lit_cast (wrap_i64 (by omega) (by omega)), rfl⟩, trivial⟩ (okH_nil) rfl⟩
      ·
       replace hR := of_false h9 hR
       refine rvS ?_
       refine rvS ?_
       refine rvS ?_
       refine rvS ?_
       refine rvS ?_
       refine rvS ?_
       refine rvS ?_
       refine rvS ?_
       refine rvS ?_
       refine rvS ?_
       refine rvP C (.pv (.lit (.bool false))) ?_
       refine rvc_nil ?_
       refine Awp.condF (b := false) rfl rfl ?_
       refine Awp.skip ?_
       refine Awp.regionP C ?_
       refine rvP C (.pv (.lit (.int .i64 (IntKind.i64.wrap ((i : Int) + 1))))) ?_
       refine rvP C (.pv (.lit (.int .i64 (IntKind.i64.wrap ((i : Int) + 1))))) ?_
       refine rvc_nil ?_
       refine ⟨h4, (), ?_, ?_⟩
       · exact hR
       · exact ⟨fun b => b, WeakerR.ofL (Ks := []) hI ⟨⟨rfl, rfl⟩, ⟨rfl, rfl⟩, ⟨rfl, rfl⟩, ⟨lit_cast (wrap_i64 (by omega) (by omega)), rfl⟩, trivial⟩ (okH_nil) rfl⟩
  ·
   have h4 : ¬ i < l.D.length := by have := of_decide_eq_false h3; omega
   rw [drop_end h4] at hR
   refine Awp.exit ?_
   refine Awp.consP C ?_
   refine rvP C (.pv (.lit (.int .i64 0))) ?_
   refine rvc_nil ?_
   refine Awp.ret ?_
   subst hR
   exact ⟨.inl rfl, rfl⟩
def rpRight_l0 (l : (Sl Seen)) : List Seen → Nat → Int
  | [], _ => 0
  | x :: xs, i => (bif (!(rKey x.key)) then 100 else (bif (decide (x.ver < 1)) then 100 else (bif (decide (x.ver > 1099511627776)) then 100 else (bif (decide ((i : Int) > 0)) then (bif (!(rLess (ofL [(l.D[(IntKind.i64.wrap ((i : Int) - 1)).toNat]!.key 0), (l.D[(IntKind.i64.wrap ((i : Int) - 1)).toNat]!.key 1), (l.D[(IntKind.i64.wrap ((i : Int) - 1)).toNat]!.key 2), (l.D[(IntKind.i64.wrap ((i : Int) - 1)).toNat]!.key 3), (l.D[(IntKind.i64.wrap ((i : Int) - 1)).toNat]!.key 4), (l.D[(IntKind.i64.wrap ((i : Int) - 1)).toNat]!.key 5), (l.D[(IntKind.i64.wrap ((i : Int) - 1)).toNat]!.key 6), (l.D[(IntKind.i64.wrap ((i : Int) - 1)).toNat]!.key 7)]) x.key)) then 100 else rpRight_l0 l xs (i + 1) ) else rpRight_l0 l xs (i + 1) ))))
def rpRight (l : (Sl Seen)) : Int :=
  (bif (decide ((l.D.length : Int) > 6)) then 7 else rpRight_l0 l l.D 0 )
theorem rpRight_calls (l : (Sl Seen)) (hl : ∀ x ∈ l.D, KeyB x.key) (hl1 : l.D.length ≤ 1000000) : PCalls Tryd.prog 12 [sS (some l.nil) eSeen l.D] (.pv (.lit (.int .i64 (rpRight l)))) := by
 generalize hR : rpRight l = R
 refine PCalls.of_body tabOk Tryd.func12 rfl rfl rfl rfl rfl mixed fun E hP C hI => ?_
 refine Awp.consP C ?_
 refine rvP C (.pv (.lit (.int .i64 0))) ?_
 refine rvc_nil ?_
 refine Awp.seq ?_
 refine Awp.consP C ?_
 refine rvP C (sS (some l.nil) eSeen l.D) ?_
 refine rvP C (.pv (.lit (.int .i64 (l.D.length : Int)))) ?_
 refine rvP C (.pv (.lit (.bool (decide ((l.D.length : Int) > 6))))) ?_
 refine rvc_nil ?_
 refine Awp.cond (b := (decide ((l.D.length : Int) > 6))) rfl (fun h1 => ?_) (fun h1 => ?_)
 ·
  replace hR := of_true h1 hR
  refine Awp.consP C ?_
  refine rvP C (.pv (.lit (.int .i64 7))) ?_
  refine rvc_nil ?_
  refine Awp.ret ?_
  subst hR
  exact ⟨.inl rfl, rfl⟩
 ·
  replace hR := of_false h1 hR
  refine Awp.skip ?_
  refine Awp.seq ?_
  refine Awp.consP C ?_
  refine rvP C (sS (some l.nil) eSeen l.D) ?_
  refine rvP C (.pv (.lit (.int .i64 (l.D.length : Int)))) ?_
  refine rvP C (.pv (.lit (.int .i64 0))) ?_
  refine rvc_nil ?_
  refine Awp.block ?_
  refine Awp.forR (σ := Unit) (l.D.length) (fun i _v => [(0, sS (some l.nil) eSeen l.D), (8, sS (some l.nil) eSeen l.D), (9, .pv (.lit (.int .i64 (l.D.length : Int)))), (10, .pv (.lit (.int .i64 (i : Int))))]) (fun i _v => []) [] (fun i _v => rpRight_l0 l (l.D.drop i) i  = R) () ?_ ?_ (fun i _v h2 hR => ?_)
  · exact hR
  · exact ⟨fun b => b, WeakerR.ofL (Ks := []) hI ⟨⟨rfl, rfl⟩, ⟨rfl, rfl⟩, ⟨rfl, rfl⟩, ⟨rfl, rfl⟩, trivial⟩ (okH_nil) rfl⟩
  refine Awp.consP C ?_
  refine rvP C (.pv (.lit (.bool (decide ((i : Int) < (l.D.length : Int)))))) ?_
  refine rvc_nil ?_
  refine Awp.seq ?_
  refine Awp.cond (b := (decide ((i : Int) < (l.D.length : Int)))) rfl (fun h3 => ?_) (fun h3 => ?_)
  ·
   have h4 : i < l.D.length := by have := of_decide_eq_true h3; omega
   obtain ⟨x, h5⟩ := getX h4
   rw [drop_at h5] at hR
   refine Awp.skip ?_
   refine Awp.seq ?_
   refine Awp.block ?_
   refine Awp.consP C ?_
   refine rvP C (.pv (.lit (.int .i64 (i : Int)))) ?_
   refine rvc_un (rexec_idxS C rfl rfl rfl rfl rfl rfl x (Int.natCast_nonneg _) h5 ?_)
   refine rvP C (.agg [.pv (.lit (.int .u8 (x.key 0))), .pv (.lit (.int .u8 (x.key 1))), .pv (.lit (.int .u8 (x.key 2))), .pv (.lit (.int .u8 (x.key 3))), .pv (.lit (.int .u8 (x.key 4))), .pv (.lit (.int .u8 (x.key 5))), .pv (.lit (.int .u8 (x.key 6))), .pv (.lit (.int .u8 (x.key 7))), .pv (.lit (.int .i64 x.ver))]) ?_
   refine rvc_un (rexec_prim C (δ := { v := .ptr 4 0, new := [(4, .cells [.pv (.lit (.int .u8 0)), .pv (.lit (.int .u8 0)), .pv (.lit (.int .u8 0)), .pv (.lit (.int .u8 0)), .pv (.lit (.int .u8 0)), .pv (.lit (.int .u8 0)), .pv (.lit (.int .u8 0)), .pv (.lit (.int .u8 0)), .pv (.lit (.int .i64 0))])] }) rfl rfl rfl rfl trivial rfl ?_)
   refine rvP C (.pv (.lit (.int .i64 (i : Int)))) ?_
   refine rvc_un (rexec_prim C (δ := { v := .undef, wr := [(4, some (.cells [.pv (.lit (.int .u8 (x.key 0))), .pv (.lit (.int .u8 (x.key 1))), .pv (.lit (.int .u8 (x.key 2))), .pv (.lit (.int .u8 (x.key 3))), .pv (.lit (.int .u8 (x.key 4))), .pv (.lit (.int .u8 (x.key 5))), .pv (.lit (.int .u8 (x.key 6))), .pv (.lit (.int .u8 (x.key 7))), .pv (.lit (.int .i64 x.ver))]))] }) rfl rfl rfl rfl trivial rfl ?_)
   refine rvc_nil ?_
   refine Awp.consP C ?_
   refine rvP C (.ptr 4 0) ?_
   refine rvP C (.agg [.pv (.lit (.int .u8 (x.key 0))), .pv (.lit (.int .u8 (x.key 1))), .pv (.lit (.int .u8 (x.key 2))), .pv (.lit (.int .u8 (x.key 3))), .pv (.lit (.int .u8 (x.key 4))), .pv (.lit (.int .u8 (x.key 5))), .pv (.lit (.int .u8 (x.key 6))), .pv (.lit (.int .u8 (x.key 7)))]) ?_
   refine rvc_un (rexec_call hP C rfl rfl rfl (rKey_calls x.key (hl _ (List.mem_of_getElem? (by assumption)))) ?_)
   refine rvP C (.pv (.lit (.bool (!(rKey x.key))))) ?_
   refine rvP C (.pv (.lit (.bool (!(rKey x.key))))) ?_
   refine rvc_case 19 (!(rKey x.key)) rfl (fun h6 => ?_) (fun h6 => ?_)
   ·
    replace hR := of_true h6 hR
    refine rvS ?_
    refine rvS ?_
    refine rvS ?_
    refine rvP C (.pv (.lit (.bool true))) ?_
    refine rvP C (.pv (.lit (.bool true))) ?_
    refine rvS ?_
    refine rvS ?_
    refine rvS ?_
    refine rvP C (.pv (.lit (.bool true))) ?_
    refine rvP C (.pv (.lit (.bool true))) ?_
    refine rvS ?_
    refine rvS ?_
    refine rvS ?_
    refine rvc_shutU rfl rfl rfl ?_
    refine rvc_shutU rfl rfl rfl ?_
    refine rvc_shutU rfl rfl rfl ?_
    refine rvc_shutU rfl rfl rfl ?_
    refine rvc_shutU rfl rfl rfl ?_
    refine rvc_shutU rfl rfl rfl ?_
    refine rvc_shutU rfl rfl rfl ?_
    refine rvc_shutU rfl rfl rfl ?_
    refine rvc_shutU rfl rfl rfl ?_
    refine rvc_shutU rfl rfl rfl ?_
    refine rvS ?_
    refine rvP C (.pv (.lit (.bool true))) ?_
    refine rvc_nil ?_
    refine Awp.condT (b := true) rfl rfl ?_
    refine Awp.consP C ?_
    refine rvP C (.pv (.lit (.int .i64 100))) ?_
    refine rvc_nil ?_
    refine Awp.ret ?_
    subst hR
    exact ⟨.inl rfl, rfl⟩
   ·
    replace hR := of_false h6 hR
    refine rvO C (.ptr 4 8) ?_
    refine rvO C (.pv (.lit (.int .i64 x.ver))) ?_
    refine rvO C (.pv (.lit (.bool (decide (x.ver < 1))))) ?_
    refine rvP C (.pv (.lit (.bool (decide (x.ver < 1))))) ?_
    refine rvP C (.pv (.lit (.bool (decide (x.ver < 1))))) ?_
    refine rvc_case 24 (decide (x.ver < 1)) rfl (fun h7 => ?_) (fun h7 => ?_)
    ·
     replace hR := of_true h7 hR
     refine rvS ?_
     refine rvS ?_
     refine rvS ?_
     refine rvP C (.pv (.lit (.bool true))) ?_
     refine rvP C (.pv (.lit (.bool true))) ?_
     refine rvS ?_
     refine rvS ?_
     refine rvS ?_
     refine rvc_shutU rfl rfl rfl ?_
     refine rvc_shutU rfl rfl rfl ?_
     refine rvc_shutU rfl rfl rfl ?_
     refine rvc_shutU rfl rfl rfl ?_
     refine rvc_shutU rfl rfl rfl ?_
     refine rvc_shutU rfl rfl rfl ?_
     refine rvc_shutU rfl rfl rfl ?_
     refine rvc_shutU rfl rfl rfl ?_
     refine rvc_shutU rfl rfl rfl ?_
     refine rvc_shutU rfl rfl rfl ?_
     refine rvS ?_
     refine rvP C (.pv (.lit (.bool true))) ?_
     refine rvc_nil ?_
     refine Awp.condT (b := true) rfl rfl ?_
     refine Awp.consP C ?_
     refine rvP C (.pv (.lit (.int .i64 100))) ?_
     refine rvc_nil ?_
     refine Awp.ret ?_
     subst hR
     exact ⟨.inl rfl, rfl⟩
    ·
     replace hR := of_false h7 hR
     refine rvO C (.ptr 4 8) ?_
     refine rvO C (.pv (.lit (.int .i64 x.ver))) ?_
     refine rvO C (.pv (.lit (.bool (decide (x.ver > 1099511627776))))) ?_
     refine rvP C (.pv (.lit (.bool (decide (x.ver > 1099511627776))))) ?_
     refine rvP C (.pv (.lit (.bool (decide (x.ver > 1099511627776))))) ?_
     refine rvc_case 29 (decide (x.ver > 1099511627776)) rfl (fun h8 => ?_) (fun h8 => ?_)
     ·
      replace hR := of_true h8 hR
      refine rvS ?_
      refine rvS ?_
      refine rvS ?_
      refine rvc_shutU rfl rfl rfl ?_
      refine rvc_shutU rfl rfl rfl ?_
      refine rvc_shutU rfl rfl rfl ?_
      refine rvc_shutU rfl rfl rfl ?_
      refine rvc_shutU rfl rfl rfl ?_
      refine rvc_shutU rfl rfl rfl ?_
      refine rvc_shutU rfl rfl rfl ?_
      refine rvc_shutU rfl rfl rfl ?_
      refine rvc_shutU rfl rfl rfl ?_
      refine rvc_shutU rfl rfl rfl ?_
      refine rvS ?_
      refine rvP C (.pv (.lit (.bool true))) ?_
      refine rvc_nil ?_
      refine Awp.condT (b := true) rfl rfl ?_
      refine Awp.consP C ?_
      refine rvP C (.pv (.lit (.int .i64 100))) ?_
      refine rvc_nil ?_
      refine Awp.ret ?_
      subst hR
      exact ⟨.inl rfl, rfl⟩
     ·
      replace hR := of_false h8 hR
      refine rvO C (.pv (.lit (.int .i64 (i : Int)))) ?_
      refine rvO C (.pv (.lit (.bool (decide ((i : Int) > 0))))) ?_
      refine rvO C (.pv (.lit (.bool (decide ((i : Int) > 0))))) ?_
      refine rvc_case 32 (decide ((i : Int) > 0)) rfl (fun h9 => ?_) (fun h9 => ?_)
      ·
       replace hR := of_true h9 hR
       refine rvO C (sS (some l.nil) eSeen l.D) ?_
       refine rvO C (.pv (.lit (.int .i64 (i : Int)))) ?_
       refine rvO C (.pv (.lit (.int .i64 (IntKind.i64.wrap ((i : Int) - 1))))) ?_
       have h10 : l.D[(IntKind.i64.wrap ((i : Int) - 1)).toNat]? = some l.D[(IntKind.i64.wrap ((i : Int) - 1)).toNat]! := getE (by have := wrapI ((i : Int) - 1); have := of_decide_eq_true ‹decide ((i : Int) > 0) = true›; omega)
       refine rvc_open rfl rfl rfl (rexec_idxS C rfl rfl rfl rfl rfl rfl (l.D[(IntKind.i64.wrap ((i : Int) - 1)).toNat]!) (by have := wrapI ((i : Int) - 1); have := of_decide_eq_false h1; have := of_decide_eq_true h3; have := of_decide_eq_false h7; have := of_decide_eq_false h8; have := of_decide_eq_true h9; omega) h10 ?_)
       refine rvO C (.rp [.lit (.int .u8 (l.D[(IntKind.i64.wrap ((i : Int) - 1)).toNat]!.key 0)), .lit (.int .u8 (l.D[(IntKind.i64.wrap ((i : Int) - 1)).toNat]!.key 1)), .lit (.int .u8 (l.D[(IntKind.i64.wrap ((i : Int) - 1)).toNat]!.key 2)), .lit (.int .u8 (l.D[(IntKind.i64.wrap ((i : Int) - 1)).toNat]!.key 3)), .lit (.int .u8 (l.D[(IntKind.i64.wrap ((i : Int) - 1)).toNat]!.key 4)), .lit (.int .u8 (l.D[(IntKind.i64.wrap ((i : Int) - 1)).toNat]!.key 5)), .lit (.int .u8 (l.D[(IntKind.i64.wrap ((i : Int) - 1)).toNat]!.key 6)), .lit (.int .u8 (l.D[(IntKind.i64.wrap ((i : Int) - 1)).toNat]!.key 7))]) ?_
       refine rvO C (.agg [.pv (.lit (.int .u8 (l.D[(IntKind.i64.wrap ((i : Int) - 1)).toNat]!.key 0))), .pv (.lit (.int .u8 (l.D[(IntKind.i64.wrap ((i : Int) - 1)).toNat]!.key 1))), .pv (.lit (.int .u8 (l.D[(IntKind.i64.wrap ((i : Int) - 1)).toNat]!.key 2))), .pv (.lit (.int .u8 (l.D[(IntKind.i64.wrap ((i : Int) - 1)).toNat]!.key 3))), .pv (.lit (.int .u8 (l.D[(IntKind.i64.wrap ((i : Int) - 1)).toNat]!.key 4))), .pv (.lit (.int .u8 (l.D[(IntKind.i64.wrap ((i : Int) - 1)).toNat]!.key 5))), .pv (.lit (.int .u8 (l.D[(IntKind.i64.wrap ((i : Int) - 1)).toNat]!.key 6))), .pv (.lit (.int .u8 (l.D[(IntKind.i64.wrap ((i : Int) - 1)).toNat]!.key 7)))]) ?_
       refine rvO C (.ptr 4 0) ?_
       refine rvO C (.agg [.pv (.lit (.int .u8 (x.key 0))), .pv (.lit (.int .u8 (x.key 1))), .pv (.lit (.int .u8 (x.key 2))), .pv (.lit (.int .u8 (x.key 3))), .pv (.lit (.int .u8 (x.key 4))), .pv (.lit (.int .u8 (x.key 5))), .pv (.lit (.int .u8 (x.key 6))), .pv (.lit (.int .u8 (x.key 7)))]) ?_
       refine rvc_open rfl rfl rfl (rexec_call hP C rfl rfl rfl (rLess_calls (ofL [(l.D[(IntKind.i64.wrap ((i : Int) - 1)).toNat]!.key 0), (l.D[(IntKind.i64.wrap ((i : Int) - 1)).toNat]!.key 1), (l.D[(IntKind.i64.wrap ((i : Int) - 1)).toNat]!.key 2), (l.D[(IntKind.i64.wrap ((i : Int) - 1)).toNat]!.key 3), (l.D[(IntKind.i64.wrap ((i : Int) - 1)).toNat]!.key 4), (l.D[(IntKind.i64.wrap ((i : Int) - 1)).toNat]!.key 5), (l.D[(IntKind.i64.wrap ((i : Int) - 1)).toNat]!.key 6), (l.D[(IntKind.i64.wrap ((i : Int) - 1)).toNat]!.key 7)]) x.key) ?_)
       refine rvO C (.pv (.lit (.bool (!(rLess (ofL [(l.D[(IntKind.i64.wrap ((i : Int) - 1)).toNat]!.key 0), (l.D[(IntKind.i64.wrap ((i : Int) - 1)).toNat]!.key 1), (l.D[(IntKind.i64.wrap ((i : Int) - 1)).toNat]!.key 2), (l.D[(IntKind.i64.wrap ((i : Int) - 1)).toNat]!.key 3), (l.D[(IntKind.i64.wrap ((i : Int) - 1)).toNat]!.key 4), (l.D[(IntKind.i64.wrap ((i : Int) - 1)).toNat]!.key 5), (l.D[(IntKind.i64.wrap ((i : Int) - 1)).toNat]!.key 6), (l.D[(IntKind.i64.wrap ((i : Int) - 1)).toNat]!.key 7)]) x.key))))) ?_
       refine rvO C (.pv (.lit (.bool (!(rLess (ofL [(l.D[(IntKind.i64.wrap ((i : Int) - 1)).toNat]!.key 0), (l.D[(IntKind.i64.wrap ((i : Int) - 1)).toNat]!.key 1), (l.D[(IntKind.i64.wrap ((i : Int) - 1)).toNat]!.key 2), (l.D[(IntKind.i64.wrap ((i : Int) - 1)).toNat]!.key 3), (l.D[(IntKind.i64.wrap ((i : Int) - 1)).toNat]!.key 4), (l.D[(IntKind.i64.wrap ((i : Int) - 1)).toNat]!.key 5), (l.D[(IntKind.i64.wrap ((i : Int) - 1)).toNat]!.key 6), (l.D[(IntKind.i64.wrap ((i : Int) - 1)).toNat]!.key 7)]) x.key))))) ?_
       refine rvP C (.pv (.lit (.bool (!(rLess (ofL [(l.D[(IntKind.i64.wrap ((i : Int) - 1)).toNat]!.key 0), (l.D[(IntKind.i64.wrap ((i : Int) - 1)).toNat]!.key 1), (l.D[(IntKind.i64.wrap ((i : Int) - 1)).toNat]!.key 2), (l.D[(IntKind.i64.wrap ((i : Int) - 1)).toNat]!.key 3), (l.D[(IntKind.i64.wrap ((i : Int) - 1)).toNat]!.key 4), (l.D[(IntKind.i64.wrap ((i : Int) - 1)).toNat]!.key 5), (l.D[(IntKind.i64.wrap ((i : Int) - 1)).toNat]!.key 6), (l.D[(IntKind.i64.wrap ((i : Int) - 1)).toNat]!.key 7)]) x.key))))) ?_
       refine rvc_nil ?_
       refine Awp.cond (b := (!(rLess (ofL [(l.D[(IntKind.i64.wrap ((i : Int) - 1)).toNat]!.key 0), (l.D[(IntKind.i64.wrap ((i : Int) - 1)).toNat]!.key 1), (l.D[(IntKind.i64.wrap ((i : Int) - 1)).toNat]!.key 2), (l.D[(IntKind.i64.wrap ((i : Int) - 1)).toNat]!.key 3), (l.D[(IntKind.i64.wrap ((i : Int) - 1)).toNat]!.key 4), (l.D[(IntKind.i64.wrap ((i : Int) - 1)).toNat]!.key 5), (l.D[(IntKind.i64.wrap ((i : Int) - 1)).toNat]!.key 6), (l.D[(IntKind.i64.wrap ((i : Int) - 1)).toNat]!.key 7)]) x.key))) rfl (fun h11 => ?_) (fun h11 => ?_)
       ·
        replace hR := of_true h11 hR
        refine Awp.consP C ?_
        refine rvP C (.pv (.lit (.int .i64 100))) ?_
        refine rvc_nil ?_
        refine Awp.ret ?_
        subst hR
        exact ⟨.inl rfl, rfl⟩
       ·
        replace hR := of_false h11 hR
        refine Awp.skip ?_
        refine Awp.regionP C ?_
        refine rvP C (.pv (.lit (.int .i64 (IntKind.i64.wrap ((i : Int) + 1))))) ?_
        refine rvP C (.pv (.lit (.int .i64 (IntKind.i64.wrap ((i : Int) + 1))))) ?_
        refine rvc_nil ?_
        refine ⟨h4, (), ?_, ?_⟩
        · exact hR
        · exact ⟨fun b => b, WeakerR.ofL (Ks := []) hI ⟨⟨rfl, rfl⟩, ⟨rfl, rfl⟩, ⟨rfl, rfl⟩, ⟨lit_cast (wrap_i64 (by omega) (by omega)), rfl⟩, trivial⟩ (okH_nil) rfl⟩
      ·
       replace hR := of_false h9 hR
       refine rvS ?_
       refine rvS ?_
       refine rvS ?_
       refine rvS ?_
       refine rvS ?_
       refine rvS ?_
       refine rvS ?_
       refine rvS ?_
       refine rvS ?_
       refine rvS ?_
       refine rvO C (.pv (.lit (.bool false))) ?_
       refine rvP C (.pv (.lit (.bool false))) ?_
       refine rvc_nil ?_
       refine Awp.condF (b := false) rfl rfl ?_
       refine Awp.skip ?_
       refine Awp.regionP C ?_
       refine rvP C (.pv (.lit (.int .i64 (IntKind.i64.wrap ((i : Int) + 1))))) ?_
       refine rvP C (.pv (.lit (.int .i64 (IntKind.i64.wrap ((i : Int) + 1))))) ?_
       refine rvc_nil ?_
       refine ⟨h4, (), ?_, ?_⟩
       · exact hR
       · exact ⟨fun b => b, WeakerR.ofL (Ks := []) hI ⟨⟨rfl, rfl⟩, ⟨rfl, rfl⟩, ⟨rfl, rfl⟩, ⟨lit_cast (wrap_i64 (by omega) (by omega)), rfl⟩, trivial⟩ (okH_nil) rfl⟩
  ·
   have h4 : ¬ i < l.D.length := by have := of_decide_eq_false h3; omega
   rw [drop_end h4] at hR
   refine Awp.exit ?_
   refine Awp.consP C ?_
   refine rvP C (.pv (.lit (.int .i64 0))) ?_
   refine rvc_nil ?_
   refine Awp.ret ?_
   subst hR
   exact ⟨.inl rfl, rfl⟩
def putInv2 (L : Nat) (y : Int) (b1 : List Int) (n : Int) : Prop := ∃ k : Nat, b1.length ≤ L + k ∧ n.toNat * 128 ^ k ≤ y.toNat ∧ (k ≠ 0 → 1 ≤ n)
theorem putInv2_step {L : Nat} {x y n : Int} {b1 : List Int} (h : putInv2 L x b1 n) (hn : 128 ≤ n) : putInv2 L x (b1 ++ [y]) (shrI .u64 n 7) := by
  obtain ⟨k, h1, h2, _⟩ := h
  rw [shr7]
  refine ⟨k + 1, by rw [List.length_append, List.length_singleton]; omega, Nat.le_trans ?_ h2, fun _ => by omega⟩
  rw [Nat.pow_succ, Nat.mul_comm (128 ^ k), ← Nat.mul_assoc]
  exact Nat.mul_le_mul_right _ (by omega)
theorem putInv2_le {L : Nat} {x n : Int} {b1 : List Int} (h : putInv2 L x b1 n) (hx : x < 18446744073709551616) : b1.length ≤ L + 9 := by
  obtain ⟨k, h1, h2, h3⟩ := h
  rcases Nat.lt_or_ge k 10 with hk | hk
  · omega
  · have h4 : 128 ^ 10 ≤ 128 ^ k := Nat.pow_le_pow_right (by decide) hk
    have h3' := h3 (by omega)
    have h5 : 1 * 128 ^ k ≤ n.toNat * 128 ^ k := Nat.mul_le_mul_right _ (by omega)
    have h6 : (128 : Nat) ^ 10 = 1180591620717411303424 := by decide
    omega
def wPut2_l1b (kk : (List Int) → Int → (Sl Int)) : Nat → (List Int) → Int → (Sl Int)
  | 0, _, _ => default
  | nn + 1, b3, n2 => (bif (decide (n2 ≥ 128)) then wPut2_l1b kk nn (b3 ++ [(bitI .or .u8 (IntKind.u8.wrap n2) 128)]) (shrI .u64 n2 7) else kk b3 n2)
def wPut2_l1 (kk : (List Int) → Int → (Sl Int)) : Nat → (List Int) → Int → (Sl Int)
  | 0, _, _ => default
  | nn + 1, b1, n => (bif (decide (n ≥ 128)) then wPut2_l1 kk nn (b1 ++ [(bitI .or .u8 (IntKind.u8.wrap n) 128)]) (shrI .u64 n 7) else kk b1 n)
def wPut2 (b : (Sl Int)) (x : Int) (y : Int) : (Sl Int) :=
  (bif (decide (x ≥ 128)) then wPut2_l1 (fun b1 n => wPut2_l1b (fun b3 n2 => (Sl.mk false (b3 ++ [(IntKind.u8.wrap n2)]))) (y.toNat + 1) (b1 ++ [(IntKind.u8.wrap n)]) y) ((shrI .u64 x 7).toNat + 1) (b.D ++ [(bitI .or .u8 (IntKind.u8.wrap x) 128)]) (shrI .u64 x 7) else wPut2_l1b (fun b3 n2 => (Sl.mk false (b3 ++ [(IntKind.u8.wrap n2)]))) (y.toNat + 1) (b.D ++ [(IntKind.u8.wrap x)]) y)
def okR (r : Reader) : Prop := (0 ≤ r.at_ ∧ r.at_ ≤ (r.b.D.length : Int)) ∧ r.b.D.length ≤ 1000000
theorem rdNew_ok (b : Sl Int) (h : b.D.length ≤ 1000000) : okR (rdNew b) := ⟨⟨Int.le_refl _, Int.natCast_nonneg _⟩, h⟩
theorem rdStop_ok {r : Reader} {a e : Int} (h : okR r) (ha : 0 ≤ a ∧ a ≤ (r.b.D.length : Int)) : okR (rdStop r a e) := by
  unfold rdStop
  cases r.err == 0
  · exact h
  · exact ⟨ha, h.2⟩
theorem bif_pair {P : Reader → Prop} {a : Bool} {x y : Reader × Int} (hx : P x.1) (hy : P y.1) : P (bif a then x else y).1 := by cases a <;> assumption
theorem rdNum_l0_ok (r : Reader) (h : okR r) : ∀ (f : Nat) (n s : Int) (v : Reader), f = v.b.D.length - v.at_.toNat + 1 → v.b = r.b → okR v → okR (rdNum_l0 r f n s v).1
  | 0, _, _, _, hf, _, _ => by omega
  | f + 1, n, s, v, hf, hb, hv => by
    have hw : 0 ≤ r.at_ ∧ r.at_ ≤ (v.b.D.length : Int) := by rw [hb]; exact h.1
    have h1 := hv.1
    have h2 := hv.2
    unfold rdNum_l0
    cases e1 : v.at_ == (v.b.D.length : Int)
    · have hne := ne_of_beq_false e1
      have hv' : okR (Reader.mk v.b (IntKind.i64.wrap (v.at_ + 1)) v.err v.made) := by
        have := wrapI (v.at_ + 1)
        refine ⟨⟨?_, ?_⟩, hv.2⟩ <;> (dsimp only; omega)
      have ih : ∀ n s, okR (rdNum_l0 r f n s (Reader.mk v.b (IntKind.i64.wrap (v.at_ + 1)) v.err v.made)).1 := fun n s => by
        refine rdNum_l0_ok r h f n s _ ?_ hb hv'
        have := wrapI (v.at_ + 1)
        dsimp only
        omega
      simp only [cond_false]
      repeat' (first | exact ih _ _ | exact rdStop_ok hv' hw | exact hv' | (apply bif_pair))
    · exact rdStop_ok hv hw
theorem rdNum_ok (r : Reader) (h : okR r) : okR (rdNum r).1 := by
  unfold rdNum
  refine bif_pair (P := okR) h ?_
  exact rdNum_l0_ok r h _ _ _ _ rfl rfl h
theorem rdNum_b_l0 (r : Reader) : ∀ (f : Nat) (n s : Int) (v : Reader), f = v.b.D.length - v.at_.toNat + 1 → okR v → v.b = r.b → (rdNum_l0 r f n s v).1.b = r.b
  | 0, _, _, _, hf, _, _ => by omega
  | f + 1, n, s, v, hf, hv, hb => by
    have st : ∀ {x : Reader} {a e : Int}, x.b = r.b → (rdStop x a e).b = r.b := fun {x a e} hx => by
      unfold rdStop; cases x.err == 0 <;> exact hx
    have h1 := hv.1
    have h2 := hv.2
    unfold rdNum_l0
    cases e1 : v.at_ == (v.b.D.length : Int)
    · have hne := ne_of_beq_false e1
      have hv' : okR (Reader.mk v.b (IntKind.i64.wrap (v.at_ + 1)) v.err v.made) := by
        have := wrapI (v.at_ + 1)
        refine ⟨⟨?_, ?_⟩, hv.2⟩ <;> (dsimp only; omega)
      have ih : ∀ n s, (rdNum_l0 r f n s (Reader.mk v.b (IntKind.i64.wrap (v.at_ + 1)) v.err v.made)).1.b = r.b := fun n s => by
        refine rdNum_b_l0 r f n s _ ?_ hv' hb
        have := wrapI (v.at_ + 1)
        dsimp only
        omega
      simp only [cond_false]
      repeat' (first | exact ih _ _ | exact st hb | exact hb | (apply bif_pair (P := fun x => x.b = r.b)))
    · exact st hb
theorem rdNum_b (r : Reader) (h : okR r) : (rdNum r).1.b = r.b := by
  unfold rdNum
  refine bif_pair (P := fun x => x.b = r.b) rfl ?_
  exact rdNum_b_l0 r _ _ _ _ rfl h rfl
theorem rdNum_err (r : Reader) (h : (rdErr r != 0) = true) : rdNum r = (r, 0) := by unfold rdNum; rw [h]; rfl
theorem rdLeft_eq (r : Reader) (h : okR r) (e : rdErr r = 0) : rdLeft r = (r.b.D.length : Int) - r.at_ := by
  unfold rdLeft
  rw [e]
  have := wrapI ((r.b.D.length : Int) - r.at_)
  have h1 := h.1
  have h2 := h.2
  show IntKind.i64.wrap _ = _
  omega
theorem rdIn_back (r : Reader) (h : okR r) (e : rdErr r = 0) : IntKind.i64.wrap (((rdNum r).1.b.D.length : Int) - rdLeft r) = r.at_ := by
  rw [rdLeft_eq r h e, rdNum_b r h]
  have := wrapI ((r.b.D.length : Int) - ((r.b.D.length : Int) - r.at_))
  have h1 := h.1
  have h2 := h.2
  omega
theorem rdIn_ok (r : Reader) (lo hi : Int) (h : okR r) : okR (rdIn r lo hi).1 := by
  have h1 := rdNum_ok r h
  cases e0 : rdErr r != 0
  · have hs : okR (rdStop (rdNum r).1 (IntKind.i64.wrap (((rdNum r).1.b.D.length : Int) - rdLeft r)) 5) := by
      rw [rdIn_back r h (eq_of_bne_false e0)]
      exact rdStop_ok h1 (by rw [rdNum_b r h]; exact h.1)
    unfold rdIn
    repeat' (first | exact h1 | exact hs | (apply bif_pair))
  · unfold rdIn
    rw [rdNum_err r e0]
    dsimp only
    rw [e0]
    exact h
theorem wrapU (n : Int) : IntKind.u64.wrap n = n % 18446744073709551616 := by
  simp [IntKind.wrap, IntKind.bits, IntKind.signed]
theorem wrap_lt64 (n : Int) : IntKind.u64.wrap n < 18446744073709551616 := by rw [wrapU]; omega
theorem wrap_nn64 (n : Int) : 0 ≤ IntKind.u64.wrap n := by rw [wrapU]; omega
theorem wPut_l1_len {b : Nat} {x : Int} (hx : x < 18446744073709551616) : ∀ (f : Nat) (b1 : List Int) (n : Int), n.toNat < f → putInv b x b1 n → (wPut_l1 (fun b1 n => (Sl.mk false (b1 ++ [(IntKind.u8.wrap n)]))) f b1 n).D.length ≤ b + 10
  | 0, _, _, h, _ => by omega
  | f + 1, b1, n, h, hI => by
    unfold wPut_l1
    cases e1 : decide (n ≥ 128)
    · have := putInv_le hI hx
      show (b1 ++ [_]).length ≤ _
      rw [List.length_append, List.length_singleton]; omega
    · have hn := of_decide_eq_true e1
      exact wPut_l1_len hx f _ _ (by rw [shr7]; omega) (putInv_step hI hn)
theorem wPut_len (b : Sl Int) (x : Int) (hx : x < 18446744073709551616) : (wPut b x).D.length ≤ b.D.length + 10 := by
  unfold wPut
  cases e1 : decide (x ≥ 128)
  · show (b.D ++ [_]).length ≤ _
    rw [List.length_append, List.length_singleton]; omega
  · exact wPut_l1_len hx _ _ _ (by rw [shr7]; omega) (putInv_start (of_decide_eq_true e1))
/-- A number's bytes. -/
def vb (n : Nat) : List Int := if n < 128 then [(n : Int)] else ((n % 128 + 128 : Nat) : Int) :: vb (n / 128)
theorem vb_lt {n : Nat} (h : n < 128) : vb n = [(n : Int)] := by rw [vb, if_pos h]
theorem vb_ge {n : Nat} (h : 128 ≤ n) : vb n = ((n % 128 + 128 : Nat) : Int) :: vb (n / 128) := by rw [vb, if_neg (by omega)]
theorem wrap8 (n : Int) : IntKind.u8.wrap n = n % 256 := by simp [IntKind.wrap, IntKind.bits, IntKind.signed]
theorem bv8 (a : Nat) (h : a < 256) : (BitVec.ofInt 8 (a : Int)).toNat = a := by
  rw [BitVec.toNat_ofInt]
  show (((a : Int) % 256)).toNat = a
  omega
theorem or8 {a b : Nat} (ha : a < 256) (hb : b < 256) : bitI .or .u8 (a : Int) (b : Int) = ((a ||| b : Nat) : Int) := by
  unfold bitI
  show IntKind.u8.wrap ((BitVec.ofInt 8 (a : Int) ||| BitVec.ofInt 8 (b : Int)).toNat : Int) = _
  rw [BitVec.toNat_or, bv8 a ha, bv8 b hb, wrap8]
  have : a ||| b < 2 ^ 8 := Nat.or_lt_two_pow ha hb
  omega
theorem and8 {a b : Nat} (ha : a < 256) (hb : b < 256) : bitI .and .u8 (a : Int) (b : Int) = ((a &&& b : Nat) : Int) := by
  unfold bitI
  show IntKind.u8.wrap ((BitVec.ofInt 8 (a : Int) &&& BitVec.ofInt 8 (b : Int)).toNat : Int) = _
  rw [BitVec.toNat_and, bv8 a ha, bv8 b hb, wrap8]
  have : a &&& b ≤ a := Nat.and_le_left
  omega
theorem or128 : ∀ y : Fin 256, (y.val ||| 128) = y.val % 128 + 128 := by decide +kernel
theorem low_byte {n : Int} (h : 0 ≤ n) : bitI .or .u8 (IntKind.u8.wrap n) 128 = ((n.toNat % 128 + 128 : Nat) : Int) := by
  have e : IntKind.u8.wrap n = ((n.toNat % 256 : Nat) : Int) := by rw [wrap8]; omega
  rw [e, show (128 : Int) = ((128 : Nat) : Int) from rfl, or8 (by omega) (by decide), or128 ⟨n.toNat % 256, by omega⟩]
  show ((n.toNat % 256 % 128 + 128 : Nat) : Int) = _
  omega
theorem wPut_l1_eq : ∀ (f : Nat) (b1 : List Int) (n : Int), 0 ≤ n → n.toNat < f → wPut_l1 (fun b1 n => (Sl.mk false (b1 ++ [(IntKind.u8.wrap n)]))) f b1 n = Sl.mk false (b1 ++ vb n.toNat)
  | 0, _, _, _, h => by omega
  | f + 1, b1, n, h0, h => by
    unfold wPut_l1
    cases e1 : decide (n ≥ 128)
    · have := of_decide_eq_false e1
      rw [vb_lt (by omega)]
      show Sl.mk false (b1 ++ [IntKind.u8.wrap n]) = _
      rw [wrap8, show n % 256 = ((n.toNat : Nat) : Int) by omega]
    · have hn := of_decide_eq_true e1
      show wPut_l1 _ f (b1 ++ [bitI .or .u8 (IntKind.u8.wrap n) 128]) (shrI .u64 n 7) = _
      rw [wPut_l1_eq f _ _ (by rw [shr7]; omega) (by rw [shr7]; omega), low_byte h0, vb_ge (n := n.toNat) (by omega), shr7, show (n / 128).toNat = n.toNat / 128 by omega]
      simp
theorem wPut_eq (b : Sl Int) (x : Int) (h0 : 0 ≤ x) : wPut b x = Sl.mk false (b.D ++ vb x.toNat) := by
  unfold wPut
  cases e1 : decide (x ≥ 128)
  · have := of_decide_eq_false e1
    rw [vb_lt (by omega)]
    show Sl.mk false (b.D ++ [IntKind.u8.wrap x]) = _
    rw [wrap8, show x % 256 = ((x.toNat : Nat) : Int) by omega]
  · have hn := of_decide_eq_true e1
    show wPut_l1 _ _ (b.D ++ [bitI .or .u8 (IntKind.u8.wrap x) 128]) (shrI .u64 x 7) = _
    rw [wPut_l1_eq _ _ _ (by rw [shr7]; omega) (by omega), low_byte h0, vb_ge (n := x.toNat) (by omega), shr7, show (x / 128).toNat = x.toNat / 128 by omega]
    simp
/-- The number that bytes begin with, and what follows. -/
def vd : Nat → List Int → Option (Nat × List Int)
  | _, [] => none
  | i, x :: l => if (i = 9 ∧ 1 < x.toNat % 128) ∨ 9 < i then none else if x = 0 ∧ 0 < i then none else if x < 128 then some (x.toNat, l) else
    match vd (i + 1) l with
    | some (n, r) => some (x.toNat % 128 + 128 * n, r)
    | none => none
/-- What is read is put so. -/
theorem vd_vb : ∀ (i : Nat) (l : List Int) (n : Nat) (r : List Int), (∀ x ∈ l, 0 ≤ x ∧ x < 256) → vd i l = some (n, r) → l = vb n ++ r ∧ (0 < i → 0 < n) ∧ n * 128 ^ i < 18446744073709551616
  | _, [], _, _, _, h => by simp [vd] at h
  | i, x :: l, n, r, hb, h => by
    have hx := hb x (List.mem_cons_self ..)
    have hl : ∀ y ∈ l, 0 ≤ y ∧ y < 256 := fun y hy => hb y (List.mem_cons_of_mem _ hy)
    rw [vd] at h
    split at h
    · cases h
    · rename_i h1
      have hi : i ≤ 9 := by omega
      have hp : 128 ^ i ≤ 9223372036854775808 := Nat.le_trans (Nat.pow_le_pow_right (by decide) hi) (by decide)
      split at h
      · cases h
      · rename_i h2
        split at h
        · rename_i h3
          simp only [Option.some.injEq, Prod.mk.injEq] at h
          obtain ⟨rfl, rfl⟩ := h
          refine ⟨?_, fun hi => by omega, ?_⟩
          · rw [vb_lt (by omega), show ((x.toNat : Nat) : Int) = x by omega]; rfl
          · rcases Nat.lt_or_ge i 9 with h9 | h9
            · have : 128 ^ i ≤ 72057594037927936 := Nat.le_trans (Nat.pow_le_pow_right (by decide) (show i ≤ 8 by omega)) (by decide)
              have h5 : x.toNat * 128 ^ i ≤ 127 * 72057594037927936 := Nat.mul_le_mul (by omega) this
              omega
            · have h5 : x.toNat * 128 ^ i ≤ 1 * 9223372036854775808 := Nat.mul_le_mul (by omega) hp
              omega
        · rename_i h3
          split at h
          · rename_i m r' hm
            simp only [Option.some.injEq, Prod.mk.injEq] at h
            obtain ⟨rfl, rfl⟩ := h
            obtain ⟨e1, e2, e3⟩ := vd_vb (i + 1) l m r' hl hm
            have hm0 := e2 (by omega)
            refine ⟨?_, fun _ => by omega, ?_⟩
            · rw [vb_ge (by omega), show (x.toNat % 128 + 128 * m) / 128 = m by omega, show (((x.toNat % 128 + 128 * m) % 128 + 128 : Nat) : Int) = x by omega, e1]; rfl
            · rw [Nat.pow_succ] at e3
              have h4 : (x.toNat % 128 + 128 * m) * 128 ^ i = x.toNat % 128 * 128 ^ i + m * (128 ^ i * 128) := by
                rw [Nat.add_mul, Nat.mul_comm (128 ^ i) 128, ← Nat.mul_assoc, Nat.mul_comm 128 m]
              have hlt : x.toNat % 128 * 128 ^ i < 128 ^ i * 128 := by
                rw [Nat.mul_comm (128 ^ i)]
                exact Nat.mul_lt_mul_of_pos_right (Nat.mod_lt _ (by decide)) (Nat.pow_pos (by decide))
              have hdiv : 128 ^ i * 128 ∣ 18446744073709551616 ∨ 9 ≤ i := by
                rcases Nat.lt_or_ge i 9 with h9 | h9
                · left
                  rw [← Nat.pow_succ]
                  have : (18446744073709551616 : Nat) = 2 ^ 64 := by decide
                  rw [this, show (128 : Nat) = 2 ^ 7 from rfl, ← Nat.pow_mul]
                  exact Nat.pow_dvd_pow 2 (by omega)
                · exact .inr h9
              rcases hdiv with ⟨q, hq⟩ | h9
              · rw [h4]
                have hmq : m < q := by
                  have h5 : m * (128 ^ i * 128) < (128 ^ i * 128) * q := by rw [← hq]; exact e3
                  rw [Nat.mul_comm m] at h5
                  exact Nat.lt_of_mul_lt_mul_left h5
                have h6 : (m + 1) * (128 ^ i * 128) ≤ q * (128 ^ i * 128) := Nat.mul_le_mul_right _ hmq
                rw [Nat.mul_comm q, ← hq, Nat.add_mul, Nat.one_mul] at h6
                omega
              · exfalso
                -- a tenth byte is the last one
                have hi9 : i = 9 := by omega
                subst hi9
                cases l with
                | nil => simp [vd] at hm
                | cons y l => rw [vd, if_pos (.inr (by decide))] at hm; cases hm
          · cases h
/-- What is put is read so. -/
theorem vb_vd : ∀ (n i : Nat) (r : List Int), n * 128 ^ i < 18446744073709551616 → (0 < i → 0 < n) → vd i (vb n ++ r) = some (n, r) := by
  intro n
  induction n using Nat.strongRecOn with
  | _ n ih =>
    intro i r h h0
    have hi : 0 < n → i ≤ 9 := fun hn => by
      rcases Nat.lt_or_ge i 10 with h9 | h9
      · omega
      · have h4 : 128 ^ 10 ≤ 128 ^ i := Nat.pow_le_pow_right (by decide) h9
        have h5 : 1 * 128 ^ i ≤ n * 128 ^ i := Nat.mul_le_mul_right _ hn
        have h6 : (128 : Nat) ^ 10 = 1180591620717411303424 := by decide
        omega
    have hi' : i ≤ 9 := by
      rcases Nat.eq_zero_or_pos i with e | e
      · omega
      · exact hi (h0 e)
    have hc : i = 9 → n ≤ 1 := fun e => by
      subst e
      have h6 : (128 : Nat) ^ 9 = 9223372036854775808 := by decide
      rw [h6] at h
      omega
    rcases Nat.lt_or_ge n 128 with hn | hn
    · rw [vb_lt hn]
      show vd i ((n : Int) :: r) = _
      rw [vd, if_neg (by omega), if_neg (by omega), if_pos (by omega), show ((n : Int)).toNat = n by omega]
    · rw [vb_ge hn]
      show vd i (((n % 128 + 128 : Nat) : Int) :: (vb (n / 128) ++ r)) = _
      have hne : i ≠ 9 := fun e => by have := hc e; omega
      have hstep : n / 128 * 128 ^ (i + 1) < 18446744073709551616 := by
        refine Nat.lt_of_le_of_lt ?_ h
        rw [Nat.pow_succ, Nat.mul_comm (128 ^ i), ← Nat.mul_assoc]
        exact Nat.mul_le_mul_right _ (Nat.div_mul_le_self n 128)
      rw [vd, if_neg (by omega), if_neg (by omega), if_neg (by omega), ih (n / 128) (by omega) (i + 1) r hstep (fun _ => by omega)]
      simp only [Option.some.injEq, Prod.mk.injEq, and_true]
      omega
theorem vb_len {n : Nat} (h : n < 18446744073709551616) : (vb n).length ≤ 10 := by
  have h1 := wPut_len (Sl.mk true []) (n : Int) (by omega)
  rw [wPut_eq _ _ (by omega)] at h1
  simpa using h1
def word_l0 (k : (Nat → Int)) : Nat → Nat → Int → Int
  | 0, _, w => w
  | k1 + 1, i, w => word_l0 k k1 (i + 1) (bitI .or .u64 (shlI .u64 w 8) (IntKind.u64.wrap (k i)))
def word (k : (Nat → Int)) : Int :=
  word_l0 k 8 0 0
theorem word_calls (k : (Nat → Int))  : PCalls Tryd.prog 53 [.agg [.pv (.lit (.int .u8 (k 0))), .pv (.lit (.int .u8 (k 1))), .pv (.lit (.int .u8 (k 2))), .pv (.lit (.int .u8 (k 3))), .pv (.lit (.int .u8 (k 4))), .pv (.lit (.int .u8 (k 5))), .pv (.lit (.int .u8 (k 6))), .pv (.lit (.int .u8 (k 7)))]] (.pv (.lit (.int .u64 (word k)))) := by
 generalize hR : word k = R
 refine PCalls.of_body tabOk Tryd.func53 rfl rfl rfl rfl rfl mixed fun E hP C hI => ?_
 refine Awp.consP C ?_
 refine rvc_un (rexec_prim C (δ := { v := .ptr 1 0, new := [(1, .cells [.pv (.lit (.int .u8 (k 0))), .pv (.lit (.int .u8 (k 1))), .pv (.lit (.int .u8 (k 2))), .pv (.lit (.int .u8 (k 3))), .pv (.lit (.int .u8 (k 4))), .pv (.lit (.int .u8 (k 5))), .pv (.lit (.int .u8 (k 6))), .pv (.lit (.int .u8 (k 7)))])] }) rfl rfl rfl rfl trivial rfl ?_)
 refine rvP C (.pv (.lit (.int .u64 0))) ?_
 refine rvc_nil ?_
 refine Awp.consP C ?_
 refine rvP C (.pv (.lit (.int .u64 0))) ?_
 refine rvc_nil ?_
 refine Awp.seq ?_
 refine Awp.consP C ?_
 refine rvP C (.agg [.pv (.lit (.int .u8 (k 0))), .pv (.lit (.int .u8 (k 1))), .pv (.lit (.int .u8 (k 2))), .pv (.lit (.int .u8 (k 3))), .pv (.lit (.int .u8 (k 4))), .pv (.lit (.int .u8 (k 5))), .pv (.lit (.int .u8 (k 6))), .pv (.lit (.int .u8 (k 7)))]) ?_
 refine rvP C (.pv (.lit (.int .i64 0))) ?_
 refine rvc_nil ?_
 refine Awp.block ?_
 refine Awp.forR (σ := Int) (8) (fun i v => [(3, .pv (.lit (.int .u64 v))), (6, .agg [.pv (.lit (.int .u8 (k 0))), .pv (.lit (.int .u8 (k 1))), .pv (.lit (.int .u8 (k 2))), .pv (.lit (.int .u8 (k 3))), .pv (.lit (.int .u8 (k 4))), .pv (.lit (.int .u8 (k 5))), .pv (.lit (.int .u8 (k 6))), .pv (.lit (.int .u8 (k 7)))]), (7, .pv (.lit (.int .i64 (i : Int))))]) (fun i v => []) [] (fun i v => word_l0 k (8 - i) i v = R) 0 ?_ ?_ (fun i w h1 hR => ?_)
 · exact hR
 · exact ⟨fun b => b, WeakerR.ofL (Ks := []) hI ⟨⟨rfl, rfl⟩, ⟨rfl, rfl⟩, ⟨rfl, rfl⟩, trivial⟩ (okH_nil) rfl⟩
 refine Awp.consP C ?_
 refine rvP C (.pv (.lit (.bool (decide ((i : Int) < 8))))) ?_
 refine rvc_nil ?_
 refine Awp.seq ?_
 refine Awp.cond (b := (decide ((i : Int) < 8))) rfl (fun h2 => ?_) (fun h2 => ?_)
 ·
  have h3 : i < 8 := by have := of_decide_eq_true h2; omega
  obtain ⟨k1, h4⟩ : ∃ k, 8 - i = k + 1 := ⟨8 - i - 1, by omega⟩
  rw [h4] at hR
  refine Awp.skip ?_
  refine Awp.seq ?_
  refine Awp.block ?_
  refine Awp.consP C ?_
  refine rvc_un (rexec_idxA C (fun j => .pv (.lit (.int .u8 (k j)))) (.pv (.lit (.int .u8 (k i)))) rfl rfl rfl rfl rfl rfl rfl rfl ⟨(by have := of_decide_eq_true h2; omega), (by have := of_decide_eq_true h2; omega)⟩ rfl ?_)
  refine rvP C (.pv (.lit (.int .u8 (k i)))) ?_
  refine rvc_nil ?_
  refine Awp.regionP C ?_
  refine rvP C (.pv (.lit (.int .u64 w))) ?_
  refine rvc_un (rexec_prim C (δ := { v := .pv (.lit (.int .u64 (shlI .u64 w 8))) }) rfl rfl rfl rfl (by first | decide | assumption | omega) rfl ?_)
  refine rvP C (.pv (.lit (.int .u8 (k i)))) ?_
  refine rvP C (.pv (.lit (.int .u64 (IntKind.u64.wrap (k i))))) ?_
  refine rvP C (.pv (.lit (.int .u64 (bitI .or .u64 (shlI .u64 w 8) (IntKind.u64.wrap (k i)))))) ?_
  refine rvP C (.pv (.lit (.int .u64 (bitI .or .u64 (shlI .u64 w 8) (IntKind.u64.wrap (k i)))))) ?_
  refine rvc_nil ?_
  refine Awp.regionP C ?_
  refine rvP C (.pv (.lit (.int .i64 (IntKind.i64.wrap ((i : Int) + 1))))) ?_
  refine rvP C (.pv (.lit (.int .i64 (IntKind.i64.wrap ((i : Int) + 1))))) ?_
  refine rvc_nil ?_
  refine ⟨h3, (bitI .or .u64 (shlI .u64 w 8) (IntKind.u64.wrap (k i))), ?_, ?_⟩
  · exact (by rw [show 8 - (i + 1) = k1 by omega]; exact hR)
  · exact ⟨fun b => b, WeakerR.ofL (Ks := []) hI ⟨⟨rfl, rfl⟩, ⟨rfl, rfl⟩, ⟨lit_cast (wrap_i64 (by omega) (by omega)), rfl⟩, trivial⟩ (okH_nil) rfl⟩
 ·
  rw [show 8 - i = 0 by have := of_decide_eq_false h2; omega] at hR
  refine Awp.exit ?_
  refine Awp.consP C ?_
  refine rvP C (.pv (.lit (.int .u64 w))) ?_
  refine rvP C (.pv (.lit (.int .u64 w))) ?_
  refine rvc_nil ?_
  refine Awp.ret ?_
  subst hR
  exact ⟨.inl rfl, rfl⟩
theorem word_l0_ok (k : Nat → Int) : ∀ (f i : Nat) (w : Int), 0 ≤ w ∧ w < 18446744073709551616 → 0 ≤ word_l0 k f i w ∧ word_l0 k f i w < 18446744073709551616
  | 0, _, _, h => h
  | f + 1, i, w, _ => by
    unfold word_l0
    exact word_l0_ok k f (i + 1) _ ⟨wrap_nn64 _, wrap_lt64 _⟩
theorem word_ok (k : Nat → Int) : 0 ≤ word k ∧ word k < 18446744073709551616 := word_l0_ok k _ _ _ (by decide)
def body_l0 : List Seen → Nat → (Sl Int) → (Sl Int)
  | [], _, b => b
  | x :: xs, i, b => body_l0 xs (i + 1) (wPut2 b (word x.key) (IntKind.u64.wrap x.ver))
def body (l : (Sl Seen)) : (Sl Int) :=
  body_l0 l.D 0 (wPut (Sl.mk true []) (IntKind.u64.wrap (l.D.length : Int)))
theorem sI_eq (f : Option Bool) (k : IntKind) (D : List Int) : sI f k D = sS f (eI k) D := by
  unfold sI sS
  rw [eI_L]
/-- A digest's bytes; by a key of another length there is none. -/
def digF (key b : Sl Int) : Nat → Int := if key.D.length = 16 then ofF key.D b.D else fun _ => 0
def digE (key : Sl Int) : Int := if key.D.length = 16 then 0 else 1
def tShort (key b : Sl Int) : Int × Int := (shN (digF key b) 8, digE key)
theorem tShort_calls (key b : Sl Int) (hl : b.D.length ≤ 1000000) : PCalls Tryd.prog 54 [sS (some key.nil) (eI .u8) key.D, sS (some b.nil) (eI .u8) b.D] (.tup [.pv (.lit (.int .u64 ((tShort key b).1))), .pv (.lit (.int .i64 ((tShort key b).2)))]) := by
  unfold tShort digF digE
  by_cases h : key.D.length = 16
  · rw [if_pos h, if_pos h]
    have r := short_calls (of_good (some key.nil) (some b.nil) key.D b.D h (by omega))
    rw [sI_eq, sI_eq] at r
    exact r
  · rw [if_neg h, if_neg h]
    have r := short_calls (of_bad (some key.nil) (some b.nil) key.D b.D h)
    rw [sI_eq, sI_eq] at r
    exact r
theorem digF_R8 (key b : Sl Int) (t : Nat) : R8 (digF key b t) := by
  unfold digF
  split
  · exact ofF_R8 _ _ t
  · exact ⟨Int.le_refl 0, (by decide : (0 : Int) < 256)⟩
def mark (key : (Sl Int)) (b : (Sl Int)) : (Sl Int) × Int :=
  ((Sl.mk false ((((((([(IntKind.u8.wrap (shrI .u64 ((tShort key b).1) 56))] ++ [(IntKind.u8.wrap (shrI .u64 ((tShort key b).1) 48))]) ++ [(IntKind.u8.wrap (shrI .u64 ((tShort key b).1) 40))]) ++ [(IntKind.u8.wrap (shrI .u64 ((tShort key b).1) 32))]) ++ [(IntKind.u8.wrap (shrI .u64 ((tShort key b).1) 24))]) ++ [(IntKind.u8.wrap (shrI .u64 ((tShort key b).1) 16))]) ++ [(IntKind.u8.wrap (shrI .u64 ((tShort key b).1) 8))]) ++ [(IntKind.u8.wrap (shrI .u64 ((tShort key b).1) 0))])), (tShort key b).2)
theorem mark_calls (key : (Sl Int)) (b : (Sl Int)) (hl1 : b.D.length ≤ 1000000) : PCalls Tryd.prog 34 [sS (some key.nil) (eI .u8) key.D, sS (some b.nil) (eI .u8) b.D] (.tup [sS (some (mark key b).1.nil) (eI .u8) ((mark key b).1.D), .pv (.lit (.int .i64 ((mark key b).2)))]) := by
 generalize hR : mark key b = R
 refine PCalls.of_body tabOk Tryd.func34 rfl rfl rfl rfl rfl mixed fun E hP C hI => ?_
 refine Awp.consP C ?_
 refine rvP C (sS (some true) (eI .u8) []) ?_
 refine rvP C (.pv (.lit (.int .i64 0))) ?_
 refine rvc_nil ?_
 refine Awp.consP C ?_
 refine rvP C (sS (some key.nil) (eI .u8) key.D) ?_
 refine rvP C (sS (some b.nil) (eI .u8) b.D) ?_
 refine rvc_un (rexec_call hP C rfl rfl rfl (tShort_calls key b hl1) ?_)
 refine rvP C (.tup [.pv (.lit (.int .u64 ((tShort key b).1))), .pv (.lit (.int .i64 ((tShort key b).2)))]) ?_
 refine rvP C (.pv (.lit (.int .u64 ((tShort key b).1)))) ?_
 refine rvP C (.pv (.lit (.int .i64 ((tShort key b).2)))) ?_
 refine rvP C (.pv (.lit (.int .u64 ((tShort key b).1)))) ?_
 refine rvP C (.pv (.lit (.int .i64 ((tShort key b).2)))) ?_
 refine rvc_nil ?_
 refine Awp.consP C ?_
 refine rvP C (sS (some true) (eI .u8) []) ?_
 refine rvc_nil ?_
 refine Awp.seq ?_
 refine Awp.consP C ?_
 refine rvP C (.pv (.lit (.int .i64 56))) ?_
 refine rvc_nil ?_
 refine Awp.block ?_
 refine Awp.rounds 9 ?_
 refine Arounds.succ ?_
 refine Awp.seq ?_
 refine Awp.consP C ?_
 refine rvP C (.pv (.lit (.int .i64 56))) ?_
 refine rvP C (.pv (.lit (.bool true))) ?_
 refine rvc_nil ?_
 refine Awp.condT (b := true) rfl rfl ?_
 refine Awp.skip ?_
 refine Awp.seq ?_
 refine Awp.block ?_
 refine Awp.regionP C ?_
 refine rvP C (sS (some true) (eI .u8) []) ?_
 refine rvP C (.pv (.lit (.int .u64 ((tShort key b).1)))) ?_
 refine rvP C (.pv (.lit (.int .i64 56))) ?_
 refine rvc_un (rexec_prim C (δ := { v := .pv (.lit (.int .u64 (shrI .u64 ((tShort key b).1) 56))) }) rfl rfl rfl rfl (by first | decide | assumption | omega) rfl ?_)
 refine rvP C (.pv (.lit (.int .u8 (IntKind.u8.wrap (shrI .u64 ((tShort key b).1) 56))))) ?_
 refine rvc_un (rexec_buildSliceF C (eI .u8) [(IntKind.u8.wrap (shrI .u64 ((tShort key b).1) 56))] rfl rfl rfl rfl rfl rfl rfl (by decide) rfl ?_)
 refine rvc_un (rexec_appendN C rfl rfl rfl rfl rfl rfl rfl rfl (fun _ h => by cases h) rfl (en := (eI .u8)) (D := [(IntKind.u8.wrap (shrI .u64 ((tShort key b).1) 56))]) rfl rfl (by simp) (by first | omega | (simp <;> omega)) (by decide) (nn := [(IntKind.u8.wrap (shrI .u64 ((tShort key b).1) 56))].length) rfl ?_)
 refine rvP C (.sl 26 0 ([(IntKind.u8.wrap (shrI .u64 ((tShort key b).1) 56))].length) 1 false) ?_
 refine rvc_nil ?_
 refine Awp.regionP C ?_
 refine rvP C (.pv (.lit (.int .i64 56))) ?_
 refine rvP C (.pv (.lit (.int .i64 48))) ?_
 refine rvP C (.pv (.lit (.int .i64 48))) ?_
 refine rvc_nil ?_
 refine Arounds.succ ?_
 refine Awp.weakenR (S := [(6, .pv (.lit (.int .u64 ((tShort key b).1)))), (7, .pv (.lit (.int .i64 ((tShort key b).2)))), (8, .sl 70026 0 ([(IntKind.u8.wrap (shrI .u64 ((tShort key b).1) 56))].length) 1 false), (9, .pv (.lit (.int .i64 48)))]) (H := [(70026, .cells (encC (eI .u8) [(IntKind.u8.wrap (shrI .u64 ((tShort key b).1) 56))]))]) (U := [70026]) (fun x => bif x == 70026 then 26 else x) (WeakerR.ofL (Ks := [70026]) hI ⟨⟨rfl, rfl⟩, ⟨rfl, rfl⟩, ⟨rfl, rfl⟩, ⟨rfl, rfl⟩, trivial⟩ (okH_list rfl rfl rfl (okH_nil)) rfl) ?_
 refine Awp.seq ?_
 refine Awp.consP C ?_
 refine rvP C (.pv (.lit (.int .i64 48))) ?_
 refine rvP C (.pv (.lit (.bool true))) ?_
 refine rvc_nil ?_
 refine Awp.condT (b := true) rfl rfl ?_
 refine Awp.skip ?_
 refine Awp.seq ?_
 refine Awp.block ?_
 refine Awp.regionP C ?_
 refine rvP C (.sl 70026 0 ([(IntKind.u8.wrap (shrI .u64 ((tShort key b).1) 56))].length) 1 false) ?_
 refine rvP C (.pv (.lit (.int .u64 ((tShort key b).1)))) ?_
 refine rvP C (.pv (.lit (.int .i64 48))) ?_
 refine rvc_un (rexec_prim C (δ := { v := .pv (.lit (.int .u64 (shrI .u64 ((tShort key b).1) 48))) }) rfl rfl rfl rfl (by first | decide | assumption | omega) rfl ?_)
 refine rvP C (.pv (.lit (.int .u8 (IntKind.u8.wrap (shrI .u64 ((tShort key b).1) 48))))) ?_
 refine rvc_un (rexec_buildSliceF C (eI .u8) [(IntKind.u8.wrap (shrI .u64 ((tShort key b).1) 48))] rfl rfl rfl rfl rfl rfl rfl (by decide) rfl ?_)
 refine rvc_un (rexec_append C rfl rfl rfl rfl rfl rfl rfl rfl (fun _ h => by cases h) rfl (en := (eI .u8)) (D0 := [(IntKind.u8.wrap (shrI .u64 ((tShort key b).1) 56))]) (D := [(IntKind.u8.wrap (shrI .u64 ((tShort key b).1) 48))]) rfl rfl rfl rfl (by first | omega | (simp <;> omega)) (by decide) (nn := ([(IntKind.u8.wrap (shrI .u64 ((tShort key b).1) 56))] ++ [(IntKind.u8.wrap (shrI .u64 ((tShort key b).1) 48))]).length) (by simp) ?_)
 refine rvP C (.sl 26 0 (([(IntKind.u8.wrap (shrI .u64 ((tShort key b).1) 56))] ++ [(IntKind.u8.wrap (shrI .u64 ((tShort key b).1) 48))]).length) 1 false) ?_
 refine rvc_nil ?_
 refine Awp.regionP C ?_
 refine rvP C (.pv (.lit (.int .i64 48))) ?_
 refine rvP C (.pv (.lit (.int .i64 40))) ?_
 refine rvP C (.pv (.lit (.int .i64 40))) ?_
 refine rvc_nil ?_
 refine Arounds.succ ?_
 refine Awp.weakenR (S := [(6, .pv (.lit (.int .u64 ((tShort key b).1)))), (7, .pv (.lit (.int .i64 ((tShort key b).2)))), (8, .sl 70026 0 (([(IntKind.u8.wrap (shrI .u64 ((tShort key b).1) 56))] ++ [(IntKind.u8.wrap (shrI .u64 ((tShort key b).1) 48))]).length) 1 false), (9, .pv (.lit (.int .i64 40)))]) (H := [(70026, .cells (encC (eI .u8) ([(IntKind.u8.wrap (shrI .u64 ((tShort key b).1) 56))] ++ [(IntKind.u8.wrap (shrI .u64 ((tShort key b).1) 48))])))]) (U := [70026]) (fun x => bif x == 70026 then 26 else x) (WeakerR.ofL (Ks := [70026]) hI ⟨⟨rfl, rfl⟩, ⟨rfl, rfl⟩, ⟨rfl, rfl⟩, ⟨rfl, rfl⟩, trivial⟩ (okH_list rfl rfl rfl (okH_nil)) rfl) ?_
 refine Awp.seq ?_
 refine Awp.consP C ?_
 refine rvP C (.pv (.lit (.int .i64 40))) ?_
 refine rvP C (.pv (.lit (.bool true))) ?_
 refine rvc_nil ?_
 refine Awp.condT (b := true) rfl rfl ?_
 refine Awp.skip ?_
 refine Awp.seq ?_
 refine Awp.block ?_
 refine Awp.regionP C ?_
 refine rvP C (.sl 70026 0 (([(IntKind.u8.wrap (shrI .u64 ((tShort key b).1) 56))] ++ [(IntKind.u8.wrap (shrI .u64 ((tShort key b).1) 48))]).length) 1 false) ?_
 refine rvP C (.pv (.lit (.int .u64 ((tShort key b).1)))) ?_
 refine rvP C (.pv (.lit (.int .i64 40))) ?_
 refine rvc_un (rexec_prim C (δ := { v := .pv (.lit (.int .u64 (shrI .u64 ((tShort key b).1) 40))) }) rfl rfl rfl rfl (by first | decide | assumption | omega) rfl ?_)
 refine rvP C (.pv (.lit (.int .u8 (IntKind.u8.wrap (shrI .u64 ((tShort key b).1) 40))))) ?_
 refine rvc_un (rexec_buildSliceF C (eI .u8) [(IntKind.u8.wrap (shrI .u64 ((tShort key b).1) 40))] rfl rfl rfl rfl rfl rfl rfl (by decide) rfl ?_)
 refine rvc_un (rexec_append C rfl rfl rfl rfl rfl rfl rfl rfl (fun _ h => by cases h) rfl (en := (eI .u8)) (D0 := ([(IntKind.u8.wrap (shrI .u64 ((tShort key b).1) 56))] ++ [(IntKind.u8.wrap (shrI .u64 ((tShort key b).1) 48))])) (D := [(IntKind.u8.wrap (shrI .u64 ((tShort key b).1) 40))]) rfl rfl rfl rfl (by first | omega | (simp <;> omega)) (by decide) (nn := (([(IntKind.u8.wrap (shrI .u64 ((tShort key b).1) 56))] ++ [(IntKind.u8.wrap (shrI .u64 ((tShort key b).1) 48))]) ++ [(IntKind.u8.wrap (shrI .u64 ((tShort key b).1) 40))]).length) (by simp) ?_)
 refine rvP C (.sl 26 0 ((([(IntKind.u8.wrap (shrI .u64 ((tShort key b).1) 56))] ++ [(IntKind.u8.wrap (shrI .u64 ((tShort key b).1) 48))]) ++ [(IntKind.u8.wrap (shrI .u64 ((tShort key b).1) 40))]).length) 1 false) ?_
 refine rvc_nil ?_
 refine Awp.regionP C ?_
 refine rvP C (.pv (.lit (.int .i64 40))) ?_
 refine rvP C (.pv (.lit (.int .i64 32))) ?_
 refine rvP C (.pv (.lit (.int .i64 32))) ?_
 refine rvc_nil ?_
 refine Arounds.succ ?_
 refine Awp.weakenR (S := [(6, .pv (.lit (.int .u64 ((tShort key b).1)))), (7, .pv (.lit (.int .i64 ((tShort key b).2)))), (8, .sl 70026 0 ((([(IntKind.u8.wrap (shrI .u64 ((tShort key b).1) 56))] ++ [(IntKind.u8.wrap (shrI .u64 ((tShort key b).1) 48))]) ++ [(IntKind.u8.wrap (shrI .u64 ((tShort key b).1) 40))]).length) 1 false), (9, .pv (.lit (.int .i64 32)))]) (H := [(70026, .cells (encC (eI .u8) (([(IntKind.u8.wrap (shrI .u64 ((tShort key b).1) 56))] ++ [(IntKind.u8.wrap (shrI .u64 ((tShort key b).1) 48))]) ++ [(IntKind.u8.wrap (shrI .u64 ((tShort key b).1) 40))])))]) (U := [70026]) (fun x => bif x == 70026 then 26 else x) (WeakerR.ofL (Ks := [70026]) hI ⟨⟨rfl, rfl⟩, ⟨rfl, rfl⟩, ⟨rfl, rfl⟩, ⟨rfl, rfl⟩, trivial⟩ (okH_list rfl rfl rfl (okH_nil)) rfl) ?_
 refine Awp.seq ?_
 refine Awp.consP C ?_
 refine rvP C (.pv (.lit (.int .i64 32))) ?_
 refine rvP C (.pv (.lit (.bool true))) ?_
 refine rvc_nil ?_
 refine Awp.condT (b := true) rfl rfl ?_
 refine Awp.skip ?_
 refine Awp.seq ?_
 refine Awp.block ?_
 refine Awp.regionP C ?_
 refine rvP C (.sl 70026 0 ((([(IntKind.u8.wrap (shrI .u64 ((tShort key b).1) 56))] ++ [(IntKind.u8.wrap (shrI .u64 ((tShort key b).1) 48))]) ++ [(IntKind.u8.wrap (shrI .u64 ((tShort key b).1) 40))]).length) 1 false) ?_
 refine rvP C (.pv (.lit (.int .u64 ((tShort key b).1)))) ?_
 refine rvP C (.pv (.lit (.int .i64 32))) ?_
 refine rvc_un (rexec_prim C (δ := { v := .pv (.lit (.int .u64 (shrI .u64 ((tShort key b).1) 32))) }) rfl rfl rfl rfl (by first | decide | assumption | omega) rfl ?_)
 refine rvP C (.pv (.lit (.int .u8 (IntKind.u8.wrap (shrI .u64 ((tShort key b).1) 32))))) ?_
 refine rvc_un (rexec_buildSliceF C (eI .u8) [(IntKind.u8.wrap (shrI .u64 ((tShort key b).1) 32))] rfl rfl rfl rfl rfl rfl rfl (by decide) rfl ?_)
 refine rvc_un (rexec_append C rfl rfl rfl rfl rfl rfl rfl rfl (fun _ h => by cases h) rfl (en := (eI .u8)) (D0 := (([(IntKind.u8.wrap (shrI .u64 ((tShort key b).1) 56))] ++ [(IntKind.u8.wrap (shrI .u64 ((tShort key b).1) 48))]) ++ [(IntKind.u8.wrap (shrI .u64 ((tShort key b).1) 40))])) (D := [(IntKind.u8.wrap (shrI .u64 ((tShort key b).1) 32))]) rfl rfl rfl rfl (by first | omega | (simp <;> omega)) (by decide) (nn := ((([(IntKind.u8.wrap (shrI .u64 ((tShort key b).1) 56))] ++ [(IntKind.u8.wrap (shrI .u64 ((tShort key b).1) 48))]) ++ [(IntKind.u8.wrap (shrI .u64 ((tShort key b).1) 40))]) ++ [(IntKind.u8.wrap (shrI .u64 ((tShort key b).1) 32))]).length) (by simp) ?_)
 refine rvP C (.sl 26 0 (((([(IntKind.u8.wrap (shrI .u64 ((tShort key b).1) 56))] ++ [(IntKind.u8.wrap (shrI .u64 ((tShort key b).1) 48))]) ++ [(IntKind.u8.wrap (shrI .u64 ((tShort key b).1) 40))]) ++ [(IntKind.u8.wrap (shrI .u64 ((tShort key b).1) 32))]).length) 1 false) ?_
 refine rvc_nil ?_
 refine Awp.regionP C ?_
 refine rvP C (.pv (.lit (.int .i64 32))) ?_
 refine rvP C (.pv (.lit (.int .i64 24))) ?_
 refine rvP C (.pv (.lit (.int .i64 24))) ?_
 refine rvc_nil ?_
 refine Arounds.succ ?_
 refine Awp.weakenR (S := [(6, .pv (.lit (.int .u64 ((tShort key b).1)))), (7, .pv (.lit (.int .i64 ((tShort key b).2)))), (8, .sl 70026 0 (((([(IntKind.u8.wrap (shrI .u64 ((tShort key b).1) 56))] ++ [(IntKind.u8.wrap (shrI .u64 ((tShort key b).1) 48))]) ++ [(IntKind.u8.wrap (shrI .u64 ((tShort key b).1) 40))]) ++ [(IntKind.u8.wrap (shrI .u64 ((tShort key b).1) 32))]).length) 1 false), (9, .pv (.lit (.int .i64 24)))]) (H := [(70026, .cells (encC (eI .u8) ((([(IntKind.u8.wrap (shrI .u64 ((tShort key b).1) 56))] ++ [(IntKind.u8.wrap (shrI .u64 ((tShort key b).1) 48))]) ++ [(IntKind.u8.wrap (shrI .u64 ((tShort key b).1) 40))]) ++ [(IntKind.u8.wrap (shrI .u64 ((tShort key b).1) 32))])))]) (U := [70026]) (fun x => bif x == 70026 then 26 else x) (WeakerR.ofL (Ks := [70026]) hI ⟨⟨rfl, rfl⟩, ⟨rfl, rfl⟩, ⟨rfl, rfl⟩, ⟨rfl, rfl⟩, trivial⟩ (okH_list rfl rfl rfl (okH_nil)) rfl) ?_
 refine Awp.seq ?_
 refine Awp.consP C ?_
 refine rvP C (.pv (.lit (.int .i64 24))) ?_
 refine rvP C (.pv (.lit (.bool true))) ?_
 refine rvc_nil ?_
 refine Awp.condT (b := true) rfl rfl ?_
 refine Awp.skip ?_
 refine Awp.seq ?_
 refine Awp.block ?_
 refine Awp.regionP C ?_
 refine rvP C (.sl 70026 0 (((([(IntKind.u8.wrap (shrI .u64 ((tShort key b).1) 56))] ++ [(IntKind.u8.wrap (shrI .u64 ((tShort key b).1) 48))]) ++ [(IntKind.u8.wrap (shrI .u64 ((tShort key b).1) 40))]) ++ [(IntKind.u8.wrap (shrI .u64 ((tShort key b).1) 32))]).length) 1 false) ?_
 refine rvP C (.pv (.lit (.int .u64 ((tShort key b).1)))) ?_
 refine rvP C (.pv (.lit (.int .i64 24))) ?_
 refine rvc_un (rexec_prim C (δ := { v := .pv (.lit (.int .u64 (shrI .u64 ((tShort key b).1) 24))) }) rfl rfl rfl rfl (by first | decide | assumption | omega) rfl ?_)
 refine rvP C (.pv (.lit (.int .u8 (IntKind.u8.wrap (shrI .u64 ((tShort key b).1) 24))))) ?_
 refine rvc_un (rexec_buildSliceF C (eI .u8) [(IntKind.u8.wrap (shrI .u64 ((tShort key b).1) 24))] rfl rfl rfl rfl rfl rfl rfl (by decide) rfl ?_)
 refine rvc_un (rexec_append C rfl rfl rfl rfl rfl rfl rfl rfl (fun _ h => by cases h) rfl (en := (eI .u8)) (D0 := ((([(IntKind.u8.wrap (shrI .u64 ((tShort key b).1) 56))] ++ [(IntKind.u8.wrap (shrI .u64 ((tShort key b).1) 48))]) ++ [(IntKind.u8.wrap (shrI .u64 ((tShort key b).1) 40))]) ++ [(IntKind.u8.wrap (shrI .u64 ((tShort key b).1) 32))])) (D := [(IntKind.u8.wrap (shrI .u64 ((tShort key b).1) 24))]) rfl rfl rfl rfl (by first | omega | (simp <;> omega)) (by decide) (nn := (((([(IntKind.u8.wrap (shrI .u64 ((tShort key b).1) 56))] ++ [(IntKind.u8.wrap (shrI .u64 ((tShort key b).1) 48))]) ++ [(IntKind.u8.wrap (shrI .u64 ((tShort key b).1) 40))]) ++ [(IntKind.u8.wrap (shrI .u64 ((tShort key b).1) 32))]) ++ [(IntKind.u8.wrap (shrI .u64 ((tShort key b).1) 24))]).length) (by simp) ?_)
 refine rvP C (.sl 26 0 ((((([(IntKind.u8.wrap (shrI .u64 ((tShort key b).1) 56))] ++ [(IntKind.u8.wrap (shrI .u64 ((tShort key b).1) 48))]) ++ [(IntKind.u8.wrap (shrI .u64 ((tShort key b).1) 40))]) ++ [(IntKind.u8.wrap (shrI .u64 ((tShort key b).1) 32))]) ++ [(IntKind.u8.wrap (shrI .u64 ((tShort key b).1) 24))]).length) 1 false) ?_
 refine rvc_nil ?_
 refine Awp.regionP C ?_
 refine rvP C (.pv (.lit (.int .i64 24))) ?_
 refine rvP C (.pv (.lit (.int .i64 16))) ?_
 refine rvP C (.pv (.lit (.int .i64 16))) ?_
 refine rvc_nil ?_
 refine Arounds.succ ?_
 refine Awp.weakenR (S := [(6, .pv (.lit (.int .u64 ((tShort key b).1)))), (7, .pv (.lit (.int .i64 ((tShort key b).2)))), (8, .sl 70026 0 ((((([(IntKind.u8.wrap (shrI .u64 ((tShort key b).1) 56))] ++ [(IntKind.u8.wrap (shrI .u64 ((tShort key b).1) 48))]) ++ [(IntKind.u8.wrap (shrI .u64 ((tShort key b).1) 40))]) ++ [(IntKind.u8.wrap (shrI .u64 ((tShort key b).1) 32))]) ++ [(IntKind.u8.wrap (shrI .u64 ((tShort key b).1) 24))]).length) 1 false), (9, .pv (.lit (.int .i64 16)))]) (H := [(70026, .cells (encC (eI .u8) (((([(IntKind.u8.wrap (shrI .u64 ((tShort key b).1) 56))] ++ [(IntKind.u8.wrap (shrI .u64 ((tShort key b).1) 48))]) ++ [(IntKind.u8.wrap (shrI .u64 ((tShort key b).1) 40))]) ++ [(IntKind.u8.wrap (shrI .u64 ((tShort key b).1) 32))]) ++ [(IntKind.u8.wrap (shrI .u64 ((tShort key b).1) 24))])))]) (U := [70026]) (fun x => bif x == 70026 then 26 else x) (WeakerR.ofL (Ks := [70026]) hI ⟨⟨rfl, rfl⟩, ⟨rfl, rfl⟩, ⟨rfl, rfl⟩, ⟨rfl, rfl⟩, trivial⟩ (okH_list rfl rfl rfl (okH_nil)) rfl) ?_
 refine Awp.seq ?_
 refine Awp.consP C ?_
 refine rvP C (.pv (.lit (.int .i64 16))) ?_
 refine rvP C (.pv (.lit (.bool true))) ?_
 refine rvc_nil ?_
 refine Awp.condT (b := true) rfl rfl ?_
 refine Awp.skip ?_
 refine Awp.seq ?_
 refine Awp.block ?_
 refine Awp.regionP C ?_
 refine rvP C (.sl 70026 0 ((((([(IntKind.u8.wrap (shrI .u64 ((tShort key b).1) 56))] ++ [(IntKind.u8.wrap (shrI .u64 ((tShort key b).1) 48))]) ++ [(IntKind.u8.wrap (shrI .u64 ((tShort key b).1) 40))]) ++ [(IntKind.u8.wrap (shrI .u64 ((tShort key b).1) 32))]) ++ [(IntKind.u8.wrap (shrI .u64 ((tShort key b).1) 24))]).length) 1 false) ?_
 refine rvP C (.pv (.lit (.int .u64 ((tShort key b).1)))) ?_
 refine rvP C (.pv (.lit (.int .i64 16))) ?_
 refine rvc_un (rexec_prim C (δ := { v := .pv (.lit (.int .u64 (shrI .u64 ((tShort key b).1) 16))) }) rfl rfl rfl rfl (by first | decide | assumption | omega) rfl ?_)
 refine rvP C (.pv (.lit (.int .u8 (IntKind.u8.wrap (shrI .u64 ((tShort key b).1) 16))))) ?_
 refine rvc_un (rexec_buildSliceF C (eI .u8) [(IntKind.u8.wrap (shrI .u64 ((tShort key b).1) 16))] rfl rfl rfl rfl rfl rfl rfl (by decide) rfl ?_)
 refine rvc_un (rexec_append C rfl rfl rfl rfl rfl rfl rfl rfl (fun _ h => by cases h) rfl (en := (eI .u8)) (D0 := (((([(IntKind.u8.wrap (shrI .u64 ((tShort key b).1) 56))] ++ [(IntKind.u8.wrap (shrI .u64 ((tShort key b).1) 48))]) ++ [(IntKind.u8.wrap (shrI .u64 ((tShort key b).1) 40))]) ++ [(IntKind.u8.wrap (shrI .u64 ((tShort key b).1) 32))]) ++ [(IntKind.u8.wrap (shrI .u64 ((tShort key b).1) 24))])) (D := [(IntKind.u8.wrap (shrI .u64 ((tShort key b).1) 16))]) rfl rfl rfl rfl (by first | omega | (simp <;> omega)) (by decide) (nn := ((((([(IntKind.u8.wrap (shrI .u64 ((tShort key b).1) 56))] ++ [(IntKind.u8.wrap (shrI .u64 ((tShort key b).1) 48))]) ++ [(IntKind.u8.wrap (shrI .u64 ((tShort key b).1) 40))]) ++ [(IntKind.u8.wrap (shrI .u64 ((tShort key b).1) 32))]) ++ [(IntKind.u8.wrap (shrI .u64 ((tShort key b).1) 24))]) ++ [(IntKind.u8.wrap (shrI .u64 ((tShort key b).1) 16))]).length) (by simp) ?_)
 refine rvP C (.sl 26 0 (((((([(IntKind.u8.wrap (shrI .u64 ((tShort key b).1) 56))] ++ [(IntKind.u8.wrap (shrI .u64 ((tShort key b).1) 48))]) ++ [(IntKind.u8.wrap (shrI .u64 ((tShort key b).1) 40))]) ++ [(IntKind.u8.wrap (shrI .u64 ((tShort key b).1) 32))]) ++ [(IntKind.u8.wrap (shrI .u64 ((tShort key b).1) 24))]) ++ [(IntKind.u8.wrap (shrI .u64 ((tShort key b).1) 16))]).length) 1 false) ?_
 refine rvc_nil ?_
 refine Awp.regionP C ?_
 refine rvP C (.pv (.lit (.int .i64 16))) ?_
 refine rvP C (.pv (.lit (.int .i64 8))) ?_
 refine rvP C (.pv (.lit (.int .i64 8))) ?_
 refine rvc_nil ?_
 refine Arounds.succ ?_
 refine Awp.weakenR (S := [(6, .pv (.lit (.int .u64 ((tShort key b).1)))), (7, .pv (.lit (.int .i64 ((tShort key b).2)))), (8, .sl 70026 0 (((((([(IntKind.u8.wrap (shrI .u64 ((tShort key b).1) 56))] ++ [(IntKind.u8.wrap (shrI .u64 ((tShort key b).1) 48))]) ++ [(IntKind.u8.wrap (shrI .u64 ((tShort key b).1) 40))]) ++ [(IntKind.u8.wrap (shrI .u64 ((tShort key b).1) 32))]) ++ [(IntKind.u8.wrap (shrI .u64 ((tShort key b).1) 24))]) ++ [(IntKind.u8.wrap (shrI .u64 ((tShort key b).1) 16))]).length) 1 false), (9, .pv (.lit (.int .i64 8)))]) (H := [(70026, .cells (encC (eI .u8) ((((([(IntKind.u8.wrap (shrI .u64 ((tShort key b).1) 56))] ++ [(IntKind.u8.wrap (shrI .u64 ((tShort key b).1) 48))]) ++ [(IntKind.u8.wrap (shrI .u64 ((tShort key b).1) 40))]) ++ [(IntKind.u8.wrap (shrI .u64 ((tShort key b).1) 32))]) ++ [(IntKind.u8.wrap (shrI .u64 ((tShort key b).1) 24))]) ++ [(IntKind.u8.wrap (shrI .u64 ((tShort key b).1) 16))])))]) (U := [70026]) (fun x => bif x == 70026 then 26 else x) (WeakerR.ofL (Ks := [70026]) hI ⟨⟨rfl, rfl⟩, ⟨rfl, rfl⟩, ⟨rfl, rfl⟩, ⟨rfl, rfl⟩, trivial⟩ (okH_list rfl rfl rfl (okH_nil)) rfl) ?_
 refine Awp.seq ?_
 refine Awp.consP C ?_
 refine rvP C (.pv (.lit (.int .i64 8))) ?_
 refine rvP C (.pv (.lit (.bool true))) ?_
 refine rvc_nil ?_
 refine Awp.condT (b := true) rfl rfl ?_
 refine Awp.skip ?_
 refine Awp.seq ?_
 refine Awp.block ?_
 refine Awp.regionP C ?_
 refine rvP C (.sl 70026 0 (((((([(IntKind.u8.wrap (shrI .u64 ((tShort key b).1) 56))] ++ [(IntKind.u8.wrap (shrI .u64 ((tShort key b).1) 48))]) ++ [(IntKind.u8.wrap (shrI .u64 ((tShort key b).1) 40))]) ++ [(IntKind.u8.wrap (shrI .u64 ((tShort key b).1) 32))]) ++ [(IntKind.u8.wrap (shrI .u64 ((tShort key b).1) 24))]) ++ [(IntKind.u8.wrap (shrI .u64 ((tShort key b).1) 16))]).length) 1 false) ?_
 refine rvP C (.pv (.lit (.int .u64 ((tShort key b).1)))) ?_
 refine rvP C (.pv (.lit (.int .i64 8))) ?_
 refine rvc_un (rexec_prim C (δ := { v := .pv (.lit (.int .u64 (shrI .u64 ((tShort key b).1) 8))) }) rfl rfl rfl rfl (by first | decide | assumption | omega) rfl ?_)
 refine rvP C (.pv (.lit (.int .u8 (IntKind.u8.wrap (shrI .u64 ((tShort key b).1) 8))))) ?_
 refine rvc_un (rexec_buildSliceF C (eI .u8) [(IntKind.u8.wrap (shrI .u64 ((tShort key b).1) 8))] rfl rfl rfl rfl rfl rfl rfl (by decide) rfl ?_)
 refine rvc_un (rexec_append C rfl rfl rfl rfl rfl rfl rfl rfl (fun _ h => by cases h) rfl (en := (eI .u8)) (D0 := ((((([(IntKind.u8.wrap (shrI .u64 ((tShort key b).1) 56))] ++ [(IntKind.u8.wrap (shrI .u64 ((tShort key b).1) 48))]) ++ [(IntKind.u8.wrap (shrI .u64 ((tShort key b).1) 40))]) ++ [(IntKind.u8.wrap (shrI .u64 ((tShort key b).1) 32))]) ++ [(IntKind.u8.wrap (shrI .u64 ((tShort key b).1) 24))]) ++ [(IntKind.u8.wrap (shrI .u64 ((tShort key b).1) 16))])) (D := [(IntKind.u8.wrap (shrI .u64 ((tShort key b).1) 8))]) rfl rfl rfl rfl (by first | omega | (simp <;> omega)) (by decide) (nn := (((((([(IntKind.u8.wrap (shrI .u64 ((tShort key b).1) 56))] ++ [(IntKind.u8.wrap (shrI .u64 ((tShort key b).1) 48))]) ++ [(IntKind.u8.wrap (shrI .u64 ((tShort key b).1) 40))]) ++ [(IntKind.u8.wrap (shrI .u64 ((tShort key b).1) 32))]) ++ [(IntKind.u8.wrap (shrI .u64 ((tShort key b).1) 24))]) ++ [(IntKind.u8.wrap (shrI .u64 ((tShort key b).1) 16))]) ++ [(IntKind.u8.wrap (shrI .u64 ((tShort key b).1) 8))]).length) (by simp) ?_)
 refine rvP C (.sl 26 0 ((((((([(IntKind.u8.wrap (shrI .u64 ((tShort key b).1) 56))] ++ [(IntKind.u8.wrap (shrI .u64 ((tShort key b).1) 48))]) ++ [(IntKind.u8.wrap (shrI .u64 ((tShort key b).1) 40))]) ++ [(IntKind.u8.wrap (shrI .u64 ((tShort key b).1) 32))]) ++ [(IntKind.u8.wrap (shrI .u64 ((tShort key b).1) 24))]) ++ [(IntKind.u8.wrap (shrI .u64 ((tShort key b).1) 16))]) ++ [(IntKind.u8.wrap (shrI .u64 ((tShort key b).1) 8))]).length) 1 false) ?_
 refine rvc_nil ?_
 refine Awp.regionP C ?_
 refine rvP C (.pv (.lit (.int .i64 8))) ?_
 refine rvP C (.pv (.lit (.int .i64 0))) ?_
 refine rvP C (.pv (.lit (.int .i64 0))) ?_
 refine rvc_nil ?_
 refine Arounds.succ ?_
 refine Awp.weakenR (S := [(6, .pv (.lit (.int .u64 ((tShort key b).1)))), (7, .pv (.lit (.int .i64 ((tShort key b).2)))), (8, .sl 70026 0 ((((((([(IntKind.u8.wrap (shrI .u64 ((tShort key b).1) 56))] ++ [(IntKind.u8.wrap (shrI .u64 ((tShort key b).1) 48))]) ++ [(IntKind.u8.wrap (shrI .u64 ((tShort key b).1) 40))]) ++ [(IntKind.u8.wrap (shrI .u64 ((tShort key b).1) 32))]) ++ [(IntKind.u8.wrap (shrI .u64 ((tShort key b).1) 24))]) ++ [(IntKind.u8.wrap (shrI .u64 ((tShort key b).1) 16))]) ++ [(IntKind.u8.wrap (shrI .u64 ((tShort key b).1) 8))]).length) 1 false), (9, .pv (.lit (.int .i64 0)))]) (H := [(70026, .cells (encC (eI .u8) (((((([(IntKind.u8.wrap (shrI .u64 ((tShort key b).1) 56))] ++ [(IntKind.u8.wrap (shrI .u64 ((tShort key b).1) 48))]) ++ [(IntKind.u8.wrap (shrI .u64 ((tShort key b).1) 40))]) ++ [(IntKind.u8.wrap (shrI .u64 ((tShort key b).1) 32))]) ++ [(IntKind.u8.wrap (shrI .u64 ((tShort key b).1) 24))]) ++ [(IntKind.u8.wrap (shrI .u64 ((tShort key b).1) 16))]) ++ [(IntKind.u8.wrap (shrI .u64 ((tShort key b).1) 8))])))]) (U := [70026]) (fun x => bif x == 70026 then 26 else x) (WeakerR.ofL (Ks := [70026]) hI ⟨⟨rfl, rfl⟩, ⟨rfl, rfl⟩, ⟨rfl, rfl⟩, ⟨rfl, rfl⟩, trivial⟩ (okH_list rfl rfl rfl (okH_nil)) rfl) ?_
 refine Awp.seq ?_
 refine Awp.consP C ?_
 refine rvP C (.pv (.lit (.int .i64 0))) ?_
 refine rvP C (.pv (.lit (.bool true))) ?_
 refine rvc_nil ?_
 refine Awp.condT (b := true) rfl rfl ?_
 refine Awp.skip ?_
 refine Awp.seq ?_
 refine Awp.block ?_
 refine Awp.regionP C ?_
 refine rvP C (.sl 70026 0 ((((((([(IntKind.u8.wrap (shrI .u64 ((tShort key b).1) 56))] ++ [(IntKind.u8.wrap (shrI .u64 ((tShort key b).1) 48))]) ++ [(IntKind.u8.wrap (shrI .u64 ((tShort key b).1) 40))]) ++ [(IntKind.u8.wrap (shrI .u64 ((tShort key b).1) 32))]) ++ [(IntKind.u8.wrap (shrI .u64 ((tShort key b).1) 24))]) ++ [(IntKind.u8.wrap (shrI .u64 ((tShort key b).1) 16))]) ++ [(IntKind.u8.wrap (shrI .u64 ((tShort key b).1) 8))]).length) 1 false) ?_
 refine rvP C (.pv (.lit (.int .u64 ((tShort key b).1)))) ?_
 refine rvP C (.pv (.lit (.int .i64 0))) ?_
 refine rvc_un (rexec_prim C (δ := { v := .pv (.lit (.int .u64 (shrI .u64 ((tShort key b).1) 0))) }) rfl rfl rfl rfl (by first | decide | assumption | omega) rfl ?_)
 refine rvP C (.pv (.lit (.int .u8 (IntKind.u8.wrap (shrI .u64 ((tShort key b).1) 0))))) ?_
 refine rvc_un (rexec_buildSliceF C (eI .u8) [(IntKind.u8.wrap (shrI .u64 ((tShort key b).1) 0))] rfl rfl rfl rfl rfl rfl rfl (by decide) rfl ?_)
 refine rvc_un (rexec_append C rfl rfl rfl rfl rfl rfl rfl rfl (fun _ h => by cases h) rfl (en := (eI .u8)) (D0 := (((((([(IntKind.u8.wrap (shrI .u64 ((tShort key b).1) 56))] ++ [(IntKind.u8.wrap (shrI .u64 ((tShort key b).1) 48))]) ++ [(IntKind.u8.wrap (shrI .u64 ((tShort key b).1) 40))]) ++ [(IntKind.u8.wrap (shrI .u64 ((tShort key b).1) 32))]) ++ [(IntKind.u8.wrap (shrI .u64 ((tShort key b).1) 24))]) ++ [(IntKind.u8.wrap (shrI .u64 ((tShort key b).1) 16))]) ++ [(IntKind.u8.wrap (shrI .u64 ((tShort key b).1) 8))])) (D := [(IntKind.u8.wrap (shrI .u64 ((tShort key b).1) 0))]) rfl rfl rfl rfl (by first | omega | (simp <;> omega)) (by decide) (nn := ((((((([(IntKind.u8.wrap (shrI .u64 ((tShort key b).1) 56))] ++ [(IntKind.u8.wrap (shrI .u64 ((tShort key b).1) 48))]) ++ [(IntKind.u8.wrap (shrI .u64 ((tShort key b).1) 40))]) ++ [(IntKind.u8.wrap (shrI .u64 ((tShort key b).1) 32))]) ++ [(IntKind.u8.wrap (shrI .u64 ((tShort key b).1) 24))]) ++ [(IntKind.u8.wrap (shrI .u64 ((tShort key b).1) 16))]) ++ [(IntKind.u8.wrap (shrI .u64 ((tShort key b).1) 8))]) ++ [(IntKind.u8.wrap (shrI .u64 ((tShort key b).1) 0))]).length) (by simp) ?_)
 refine rvP C (.sl 26 0 (((((((([(IntKind.u8.wrap (shrI .u64 ((tShort key b).1) 56))] ++ [(IntKind.u8.wrap (shrI .u64 ((tShort key b).1) 48))]) ++ [(IntKind.u8.wrap (shrI .u64 ((tShort key b).1) 40))]) ++ [(IntKind.u8.wrap (shrI .u64 ((tShort key b).1) 32))]) ++ [(IntKind.u8.wrap (shrI .u64 ((tShort key b).1) 24))]) ++ [(IntKind.u8.wrap (shrI .u64 ((tShort key b).1) 16))]) ++ [(IntKind.u8.wrap (shrI .u64 ((tShort key b).1) 8))]) ++ [(IntKind.u8.wrap (shrI .u64 ((tShort key b).1) 0))]).length) 1 false) ?_
 refine rvc_nil ?_
 refine Awp.regionP C ?_
 refine rvP C (.pv (.lit (.int .i64 0))) ?_
 refine rvP C (.pv (.lit (.int .i64 (-8)))) ?_
 refine rvP C (.pv (.lit (.int .i64 (-8)))) ?_
 refine rvc_nil ?_
 refine Arounds.succ ?_
 refine Awp.weakenR (S := [(6, .pv (.lit (.int .u64 ((tShort key b).1)))), (7, .pv (.lit (.int .i64 ((tShort key b).2)))), (8, .sl 70026 0 (((((((([(IntKind.u8.wrap (shrI .u64 ((tShort key b).1) 56))] ++ [(IntKind.u8.wrap (shrI .u64 ((tShort key b).1) 48))]) ++ [(IntKind.u8.wrap (shrI .u64 ((tShort key b).1) 40))]) ++ [(IntKind.u8.wrap (shrI .u64 ((tShort key b).1) 32))]) ++ [(IntKind.u8.wrap (shrI .u64 ((tShort key b).1) 24))]) ++ [(IntKind.u8.wrap (shrI .u64 ((tShort key b).1) 16))]) ++ [(IntKind.u8.wrap (shrI .u64 ((tShort key b).1) 8))]) ++ [(IntKind.u8.wrap (shrI .u64 ((tShort key b).1) 0))]).length) 1 false), (9, .pv (.lit (.int .i64 (-8))))]) (H := [(70026, .cells (encC (eI .u8) ((((((([(IntKind.u8.wrap (shrI .u64 ((tShort key b).1) 56))] ++ [(IntKind.u8.wrap (shrI .u64 ((tShort key b).1) 48))]) ++ [(IntKind.u8.wrap (shrI .u64 ((tShort key b).1) 40))]) ++ [(IntKind.u8.wrap (shrI .u64 ((tShort key b).1) 32))]) ++ [(IntKind.u8.wrap (shrI .u64 ((tShort key b).1) 24))]) ++ [(IntKind.u8.wrap (shrI .u64 ((tShort key b).1) 16))]) ++ [(IntKind.u8.wrap (shrI .u64 ((tShort key b).1) 8))]) ++ [(IntKind.u8.wrap (shrI .u64 ((tShort key b).1) 0))])))]) (U := [70026]) (fun x => bif x == 70026 then 26 else x) (WeakerR.ofL (Ks := [70026]) hI ⟨⟨rfl, rfl⟩, ⟨rfl, rfl⟩, ⟨rfl, rfl⟩, ⟨rfl, rfl⟩, trivial⟩ (okH_list rfl rfl rfl (okH_nil)) rfl) ?_
 refine Awp.seq ?_
 refine Awp.consP C ?_
 refine rvP C (.pv (.lit (.int .i64 (-8)))) ?_
 refine rvP C (.pv (.lit (.bool false))) ?_
 refine rvc_nil ?_
 refine Awp.condF (b := false) rfl rfl ?_
 refine Awp.exit ?_
 refine Awp.consP C ?_
 refine rvP C (.sl 70026 0 (((((((([(IntKind.u8.wrap (shrI .u64 ((tShort key b).1) 56))] ++ [(IntKind.u8.wrap (shrI .u64 ((tShort key b).1) 48))]) ++ [(IntKind.u8.wrap (shrI .u64 ((tShort key b).1) 40))]) ++ [(IntKind.u8.wrap (shrI .u64 ((tShort key b).1) 32))]) ++ [(IntKind.u8.wrap (shrI .u64 ((tShort key b).1) 24))]) ++ [(IntKind.u8.wrap (shrI .u64 ((tShort key b).1) 16))]) ++ [(IntKind.u8.wrap (shrI .u64 ((tShort key b).1) 8))]) ++ [(IntKind.u8.wrap (shrI .u64 ((tShort key b).1) 0))]).length) 1 false) ?_
 refine rvP C (.pv (.lit (.int .i64 ((tShort key b).2)))) ?_
 refine rvP C (.sl 70026 0 (((((((([(IntKind.u8.wrap (shrI .u64 ((tShort key b).1) 56))] ++ [(IntKind.u8.wrap (shrI .u64 ((tShort key b).1) 48))]) ++ [(IntKind.u8.wrap (shrI .u64 ((tShort key b).1) 40))]) ++ [(IntKind.u8.wrap (shrI .u64 ((tShort key b).1) 32))]) ++ [(IntKind.u8.wrap (shrI .u64 ((tShort key b).1) 24))]) ++ [(IntKind.u8.wrap (shrI .u64 ((tShort key b).1) 16))]) ++ [(IntKind.u8.wrap (shrI .u64 ((tShort key b).1) 8))]) ++ [(IntKind.u8.wrap (shrI .u64 ((tShort key b).1) 0))]).length) 1 false) ?_
 refine rvP C (.pv (.lit (.int .i64 ((tShort key b).2)))) ?_
 refine rvc_nil ?_
 refine Awp.freezeW 70026 (encL (eI .u8) ((((((([(IntKind.u8.wrap (shrI .u64 ((tShort key b).1) 56))] ++ [(IntKind.u8.wrap (shrI .u64 ((tShort key b).1) 48))]) ++ [(IntKind.u8.wrap (shrI .u64 ((tShort key b).1) 40))]) ++ [(IntKind.u8.wrap (shrI .u64 ((tShort key b).1) 32))]) ++ [(IntKind.u8.wrap (shrI .u64 ((tShort key b).1) 24))]) ++ [(IntKind.u8.wrap (shrI .u64 ((tShort key b).1) 16))]) ++ [(IntKind.u8.wrap (shrI .u64 ((tShort key b).1) 8))]) ++ [(IntKind.u8.wrap (shrI .u64 ((tShort key b).1) 0))])) ?_ [(4, sS (some false) (eI .u8) ((((((([(IntKind.u8.wrap (shrI .u64 ((tShort key b).1) 56))] ++ [(IntKind.u8.wrap (shrI .u64 ((tShort key b).1) 48))]) ++ [(IntKind.u8.wrap (shrI .u64 ((tShort key b).1) 40))]) ++ [(IntKind.u8.wrap (shrI .u64 ((tShort key b).1) 32))]) ++ [(IntKind.u8.wrap (shrI .u64 ((tShort key b).1) 24))]) ++ [(IntKind.u8.wrap (shrI .u64 ((tShort key b).1) 16))]) ++ [(IntKind.u8.wrap (shrI .u64 ((tShort key b).1) 8))]) ++ [(IntKind.u8.wrap (shrI .u64 ((tShort key b).1) 0))])), (5, .pv (.lit (.int .i64 ((tShort key b).2))))] [] ?_ ?_ ?_
 · rfl
 · exact ⟨⟨_, rfl, .inl (.inr ⟨_, _, _, rfl, rfl⟩)⟩, ⟨_, rfl, .inl (.inl rfl)⟩, trivial⟩
 · exact trivial
 refine Awp.ret ?_
 subst hR
 exact ⟨.inl rfl, rfl⟩
def wPutO_l1 (kk : (List Int) → Int → List Int) : Nat → (List Int) → Int → List Int
  | 0, _, _ => default
  | nn + 1, b1, n => (bif (decide (n ≥ 128)) then wPutO_l1 kk nn (b1 ++ [(bitI .or .u8 (IntKind.u8.wrap n) 128)]) (shrI .u64 n 7) else kk b1 n)
def wPutO (b : (Sl Int)) (x : Int) : List Int :=
  (bif (decide (x ≥ 128)) then wPutO_l1 (fun b1 n => (b1 ++ [(IntKind.u8.wrap n)])) ((shrI .u64 x 7).toNat + 1) (b.D ++ [(bitI .or .u8 (IntKind.u8.wrap x) 128)]) (shrI .u64 x 7) else (b.D ++ [(IntKind.u8.wrap x)]))
theorem wPutO_calls (b : (Sl Int)) (x : Int) (hx : x < 18446744073709551616) (hl1 : b.D.length ≤ 1000000) : OCalls Tryd.prog 52 [sS (some b.nil) (eI .u8) b.D, sS (some false) (eI .u64) [x]] (.sl 0 0 (wPutO b x).length 1 false) (.cells (encC (eI .u8) (wPutO b x))) := by
 generalize hR : wPutO b x = R
 refine OCalls.of_body tabOk Tryd.func52 rfl rfl rfl rfl rfl (encC_within _ _) mixed fun E hP C hI => ?_
 refine Awp.consP C ?_
 refine rvP C (sS (some true) (eI .u8) []) ?_
 refine rvc_nil ?_
 refine Awp.consP C ?_
 refine rvP C (sS (some b.nil) (eI .u8) b.D) ?_
 refine rvP C (sS (some b.nil) (eI .u8) b.D) ?_
 refine rvP C (.pv (.lit (.int .i64 (b.D.length : Int)))) ?_
 refine rvP C (sS (some b.nil) (eI .u8) b.D) ?_
 refine rvP C (.pv (.lit (.int .i64 (b.D.length : Int)))) ?_
 refine rvc_un (rexec_slice3 C (e := (eI .u8)) (D := b.D) rfl rfl rfl rfl rfl rfl ?_)
 refine rvP C (.tsl b.D.length (encL (eI .u8) b.D)) ?_
 refine rvc_nil ?_
 refine Awp.seq ?_
 refine Awp.consP C ?_
 refine rvP C (sS (some false) (eI .u64) [x]) ?_
 refine rvP C (.pv (.lit (.int .i64 1))) ?_
 refine rvP C (.pv (.lit (.int .i64 0))) ?_
 refine rvc_nil ?_
 refine Awp.block ?_
 refine Awp.rounds 2 ?_
 refine Arounds.succ ?_
 refine Awp.consP C ?_
 refine rvP C (.pv (.lit (.bool true))) ?_
 refine rvc_nil ?_
 refine Awp.seq ?_
 refine Awp.condT (b := true) rfl rfl ?_
 refine Awp.skip ?_
 refine Awp.seq ?_
 refine Awp.block ?_
 refine Awp.consP C ?_
 have h1 : [x][0]? = some x := rfl
 refine rvc_un (rexec_idxS C rfl rfl rfl rfl rfl rfl x (Int.natCast_nonneg _) h1 ?_)
 refine rvP C (.pv (.lit (.int .u64 x))) ?_
 refine rvP C (.pv (.lit (.int .u64 x))) ?_
 refine rvc_nil ?_
 refine Awp.seq ?_
 refine Awp.block ?_
 refine Awp.peelM (σ := ((List Int)) × Int) (fun v => [(0, .sl 900 0 v.1.length 1 false), (6, .pv (.lit (.int .u64 v.2))), (13, sS (some false) (eI .u64) [x]), (14, .pv (.lit (.int .i64 1))), (15, .pv (.lit (.int .i64 0)))]) (fun v => [(900, .cells (encC (eI .u8) v.1))]) [900] (fun n v => v.2.toNat ≤ n ∧ wPutO_l1 (fun b1 n => (b1 ++ [(IntKind.u8.wrap n)])) (n + 1) v.1 v.2 = R ∧ (putInv b.D.length x v.1 v.2)) (x.toNat + 1) ?_ (fun n_ v h2 => ?_)
 ·
  refine Awp.seq ?_
  refine Awp.consP C ?_
  refine rvP C (.pv (.lit (.int .u64 x))) ?_
  refine rvP C (.pv (.lit (.bool (decide (x ≥ 128))))) ?_
  refine rvc_nil ?_
  refine Awp.cond (b := (decide (x ≥ 128))) rfl (fun h6 => ?_) (fun h6 => ?_)
  ·
   replace hR := of_true h6 hR
   refine Awp.skip ?_
   refine Awp.block ?_
   refine Awp.consP C ?_
   refine rvP C (.tsl b.D.length (encL (eI .u8) b.D)) ?_
   refine rvP C (.pv (.lit (.int .u64 x))) ?_
   refine rvP C (.pv (.lit (.int .u8 (IntKind.u8.wrap x)))) ?_
   refine rvP C (.pv (.lit (.int .u8 (bitI .or .u8 (IntKind.u8.wrap x) 128)))) ?_
   refine rvc_un (rexec_buildSliceF C (eI .u8) [(bitI .or .u8 (IntKind.u8.wrap x) 128)] rfl rfl rfl rfl rfl rfl rfl (by decide) rfl ?_)
   refine rvc_un (rexec_appendT C rfl rfl rfl rfl rfl rfl rfl rfl (fun _ h => by cases h) rfl (en := (eI .u8)) (D0 := b.D) (D := [(bitI .or .u8 (IntKind.u8.wrap x) 128)]) rfl rfl (by simp) (by first | (have h_ := putInv_le hV hx; simp; omega) | (simp; omega)) (by decide) (nn := (b.D ++ [(bitI .or .u8 (IntKind.u8.wrap x) 128)]).length) (by simp) ?_)
   refine rvP C (.sl 26 0 ((b.D ++ [(bitI .or .u8 (IntKind.u8.wrap x) 128)]).length) 1 false) ?_
   refine rvc_nil ?_
   refine Awp.regionP C ?_
   refine rvP C (.pv (.lit (.int .u64 x))) ?_
   refine rvc_un (rexec_prim C (δ := { v := .pv (.lit (.int .u64 (shrI .u64 x 7))) }) rfl rfl rfl rfl (by first | decide | assumption | omega) rfl ?_)
   refine rvP C (.pv (.lit (.int .u64 (shrI .u64 x 7)))) ?_
   refine rvc_nil ?_
   refine ⟨(shrI .u64 x 7).toNat, ((b.D ++ [(bitI .or .u8 (IntKind.u8.wrap x) 128)]), (shrI .u64 x 7)), ?_, ⟨Nat.le_refl _, hR, putInv_start (of_decide_eq_true ‹decide (x ≥ 128) = true›)⟩, ?_⟩
   · show (shrI .u64 x 7).toNat < x.toNat + 1; have := of_decide_eq_true ‹decide (x ≥ 128) = true›; rw [shr7]; omega
   · exact ⟨fun b => bif b == 900 then 26 else (fun b => b) b, WeakerR.ofL (Ks := [900]) hI ⟨⟨rfl, rfl⟩, ⟨rfl, rfl⟩, ⟨rfl, rfl⟩, ⟨rfl, rfl⟩, ⟨rfl, rfl⟩, trivial⟩ (okH_list rfl rfl rfl (okH_nil)) rfl⟩
  ·
   replace hR := of_false h6 hR
   refine Awp.exit ?_
   refine Awp.regionP C ?_
   refine rvP C (.tsl b.D.length (encL (eI .u8) b.D)) ?_
   refine rvP C (.pv (.lit (.int .u64 x))) ?_
   refine rvP C (.pv (.lit (.int .u8 (IntKind.u8.wrap x)))) ?_
   refine rvc_un (rexec_buildSliceF C (eI .u8) [(IntKind.u8.wrap x)] rfl rfl rfl rfl rfl rfl rfl (by decide) rfl ?_)
   refine rvc_un (rexec_appendT C rfl rfl rfl rfl rfl rfl rfl rfl (fun _ h => by cases h) rfl (en := (eI .u8)) (D0 := b.D) (D := [(IntKind.u8.wrap x)]) rfl rfl (by simp) (by first | (have h_ := putInv_le hV hx; simp; omega) | (simp; omega)) (by decide) (nn := (b.D ++ [(IntKind.u8.wrap x)]).length) (by simp) ?_)
   refine rvP C (.sl 33 0 ((b.D ++ [(IntKind.u8.wrap x)]).length) 1 false) ?_
   refine rvc_nil ?_
   refine Awp.regionP C ?_
   refine rvP C (.pv (.lit (.int .i64 1))) ?_
   refine rvP C (.pv (.lit (.int .i64 1))) ?_
   refine rvc_nil ?_
   refine Arounds.succ ?_
   refine Awp.consP C ?_
   refine rvP C (.pv (.lit (.bool false))) ?_
   refine rvc_nil ?_
   refine Awp.seq ?_
   refine Awp.condF (b := false) rfl rfl ?_
   refine Awp.exit ?_
   refine Awp.consP C ?_
   refine rvP C (.sl 33 0 ((b.D ++ [(IntKind.u8.wrap x)]).length) 1 false) ?_
   refine rvP C (.sl 33 0 ((b.D ++ [(IntKind.u8.wrap x)]).length) 1 false) ?_
   refine rvc_nil ?_
   refine Awp.weakenR (S := [(4, .sl 0 0 (b.D ++ [(IntKind.u8.wrap x)]).length 1 false)]) (H := [(0, .cells (encC (eI .u8) (b.D ++ [(IntKind.u8.wrap x)])))]) (U := [0]) (fun x => bif x == 0 then 33 else x) (WeakerR.ofL (Ks := [0]) hI ⟨⟨rfl, rfl⟩, trivial⟩ (okH_list rfl rfl rfl okH_nil) rfl) ?_
   refine Awp.ret ?_
   subst hR
   exact ⟨.inl rfl, rfl, rfl⟩
 obtain ⟨b1, n⟩ := v
 obtain ⟨hm_, hR, hV⟩ := h2
 replace hm_ : n.toNat ≤ n_ := hm_
 replace hV : putInv b.D.length x b1 n := hV
 refine Awp.seq ?_
 refine Awp.consP C ?_
 refine rvP C (.pv (.lit (.int .u64 n))) ?_
 refine rvP C (.pv (.lit (.bool (decide (n ≥ 128))))) ?_
 refine rvc_nil ?_
 refine Awp.cond (b := (decide (n ≥ 128))) rfl (fun h4 => ?_) (fun h4 => ?_)
 ·
  replace hR := of_true h4 hR
  refine Awp.skip ?_
  refine Awp.block ?_
  refine Awp.consP C ?_
  refine rvP C (.sl 900 0 b1.length 1 false) ?_
  refine rvP C (.pv (.lit (.int .u64 n))) ?_
  refine rvP C (.pv (.lit (.int .u8 (IntKind.u8.wrap n)))) ?_
  refine rvP C (.pv (.lit (.int .u8 (bitI .or .u8 (IntKind.u8.wrap n) 128)))) ?_
  refine rvc_un (rexec_buildSliceF C (eI .u8) [(bitI .or .u8 (IntKind.u8.wrap n) 128)] rfl rfl rfl rfl rfl rfl rfl (by decide) rfl ?_)
  refine rvc_un (rexec_append C rfl rfl rfl rfl rfl rfl rfl rfl (fun _ h => by cases h) rfl (en := (eI .u8)) (D0 := b1) (D := [(bitI .or .u8 (IntKind.u8.wrap n) 128)]) rfl rfl rfl rfl (by first | (have h_ := putInv_le hV hx; simp; omega) | (simp; omega)) (by decide) (nn := (b1 ++ [(bitI .or .u8 (IntKind.u8.wrap n) 128)]).length) (by simp) ?_)
  refine rvP C (.sl 26 0 ((b1 ++ [(bitI .or .u8 (IntKind.u8.wrap n) 128)]).length) 1 false) ?_
  refine rvc_nil ?_
  refine Awp.regionP C ?_
  refine rvP C (.pv (.lit (.int .u64 n))) ?_
  refine rvc_un (rexec_prim C (δ := { v := .pv (.lit (.int .u64 (shrI .u64 n 7))) }) rfl rfl rfl rfl (by first | decide | assumption | omega) rfl ?_)
  refine rvP C (.pv (.lit (.int .u64 (shrI .u64 n 7)))) ?_
  refine rvc_nil ?_
  have h5 : (shrI .u64 n 7).toNat < n.toNat := by (have := of_decide_eq_true ‹decide (n ≥ 128) = true›; rw [shr7]; omega)
  obtain ⟨nn, rfl⟩ : ∃ nn, n_ = nn + 1 := ⟨n_ - 1, by omega⟩
  refine ⟨nn, ((b1 ++ [(bitI .or .u8 (IntKind.u8.wrap n) 128)]), (shrI .u64 n 7)), by omega, ⟨by show (shrI .u64 n 7).toNat ≤ nn; omega, hR, putInv_step hV (of_decide_eq_true ‹decide (n ≥ 128) = true›)⟩, ?_⟩
  · exact ⟨fun b => bif b == 900 then 26 else (fun b => b) b, WeakerR.ofL (Ks := [900]) hI ⟨⟨rfl, rfl⟩, ⟨rfl, rfl⟩, ⟨rfl, rfl⟩, ⟨rfl, rfl⟩, ⟨rfl, rfl⟩, trivial⟩ (okH_list rfl rfl rfl (okH_nil)) rfl⟩
 ·
  replace hR := of_false h4 hR
  refine Awp.exit ?_
  refine Awp.regionP C ?_
  refine rvP C (.sl 900 0 b1.length 1 false) ?_
  refine rvP C (.pv (.lit (.int .u64 n))) ?_
  refine rvP C (.pv (.lit (.int .u8 (IntKind.u8.wrap n)))) ?_
  refine rvc_un (rexec_buildSliceF C (eI .u8) [(IntKind.u8.wrap n)] rfl rfl rfl rfl rfl rfl rfl (by decide) rfl ?_)
  refine rvc_un (rexec_append C rfl rfl rfl rfl rfl rfl rfl rfl (fun _ h => by cases h) rfl (en := (eI .u8)) (D0 := b1) (D := [(IntKind.u8.wrap n)]) rfl rfl rfl rfl (by first | (have h_ := putInv_le hV hx; simp; omega) | (simp; omega)) (by decide) (nn := (b1 ++ [(IntKind.u8.wrap n)]).length) (by simp) ?_)
  refine rvP C (.sl 33 0 ((b1 ++ [(IntKind.u8.wrap n)]).length) 1 false) ?_
  refine rvc_nil ?_
  refine Awp.regionP C ?_
  refine rvP C (.pv (.lit (.int .i64 1))) ?_
  refine rvP C (.pv (.lit (.int .i64 1))) ?_
  refine rvc_nil ?_
  refine Arounds.succ ?_
  refine Awp.consP C ?_
  refine rvP C (.pv (.lit (.bool false))) ?_
  refine rvc_nil ?_
  refine Awp.seq ?_
  refine Awp.condF (b := false) rfl rfl ?_
  refine Awp.exit ?_
  refine Awp.consP C ?_
  refine rvP C (.sl 33 0 ((b1 ++ [(IntKind.u8.wrap n)]).length) 1 false) ?_
  refine rvP C (.sl 33 0 ((b1 ++ [(IntKind.u8.wrap n)]).length) 1 false) ?_
  refine rvc_nil ?_
  refine Awp.weakenR (S := [(4, .sl 0 0 (b1 ++ [(IntKind.u8.wrap n)]).length 1 false)]) (H := [(0, .cells (encC (eI .u8) (b1 ++ [(IntKind.u8.wrap n)])))]) (U := [0]) (fun x => bif x == 0 then 33 else x) (WeakerR.ofL (Ks := [0]) hI ⟨⟨rfl, rfl⟩, trivial⟩ (okH_list rfl rfl rfl okH_nil) rfl) ?_
  refine Awp.ret ?_
  subst hR
  exact ⟨.inl rfl, rfl, rfl⟩
def wPut2O_l1b (kk : (List Int) → Int → List Int) : Nat → (List Int) → Int → List Int
  | 0, _, _ => default
  | nn + 1, b3, n2 => (bif (decide (n2 ≥ 128)) then wPut2O_l1b kk nn (b3 ++ [(bitI .or .u8 (IntKind.u8.wrap n2) 128)]) (shrI .u64 n2 7) else kk b3 n2)
def wPut2O_l1 (kk : (List Int) → Int → List Int) : Nat → (List Int) → Int → List Int
  | 0, _, _ => default
  | nn + 1, b1, n => (bif (decide (n ≥ 128)) then wPut2O_l1 kk nn (b1 ++ [(bitI .or .u8 (IntKind.u8.wrap n) 128)]) (shrI .u64 n 7) else kk b1 n)
def wPut2O (b : (Sl Int)) (x : Int) (y : Int) : List Int :=
  (bif (decide (x ≥ 128)) then wPut2O_l1 (fun b1 n => wPut2O_l1b (fun b3 n2 => (b3 ++ [(IntKind.u8.wrap n2)])) (y.toNat + 1) (b1 ++ [(IntKind.u8.wrap n)]) y) ((shrI .u64 x 7).toNat + 1) (b.D ++ [(bitI .or .u8 (IntKind.u8.wrap x) 128)]) (shrI .u64 x 7) else wPut2O_l1b (fun b3 n2 => (b3 ++ [(IntKind.u8.wrap n2)])) (y.toNat + 1) (b.D ++ [(IntKind.u8.wrap x)]) y)
theorem wPut2O_calls (b : (Sl Int)) (x : Int) (y : Int) (hx : x < 18446744073709551616) (hy : y < 18446744073709551616) (hl1 : b.D.length ≤ 1000000) : OCalls Tryd.prog 52 [sS (some b.nil) (eI .u8) b.D, sS (some false) (eI .u64) [x, y]] (.sl 0 0 (wPut2O b x y).length 1 false) (.cells (encC (eI .u8) (wPut2O b x y))) := by
 generalize hR : wPut2O b x y = R
 refine OCalls.of_body tabOk Tryd.func52 rfl rfl rfl rfl rfl (encC_within _ _) mixed fun E hP C hI => ?_
 refine Awp.consP C ?_
 refine rvP C (sS (some true) (eI .u8) []) ?_
 refine rvc_nil ?_
 refine Awp.consP C ?_
 refine rvP C (sS (some b.nil) (eI .u8) b.D) ?_
 refine rvP C (sS (some b.nil) (eI .u8) b.D) ?_
 refine rvP C (.pv (.lit (.int .i64 (b.D.length : Int)))) ?_
 refine rvP C (sS (some b.nil) (eI .u8) b.D) ?_
 refine rvP C (.pv (.lit (.int .i64 (b.D.length : Int)))) ?_
 refine rvc_un (rexec_slice3 C (e := (eI .u8)) (D := b.D) rfl rfl rfl rfl rfl rfl ?_)
 refine rvP C (.tsl b.D.length (encL (eI .u8) b.D)) ?_
 refine rvc_nil ?_
 refine Awp.seq ?_
 refine Awp.consP C ?_
 refine rvP C (sS (some false) (eI .u64) [x, y]) ?_
 refine rvP C (.pv (.lit (.int .i64 2))) ?_
 refine rvP C (.pv (.lit (.int .i64 0))) ?_
 refine rvc_nil ?_
 refine Awp.block ?_
 refine Awp.rounds 3 ?_
 refine Arounds.succ ?_
 refine Awp.consP C ?_
 refine rvP C (.pv (.lit (.bool true))) ?_
 refine rvc_nil ?_
 refine Awp.seq ?_
 refine Awp.condT (b := true) rfl rfl ?_
 refine Awp.skip ?_
 refine Awp.seq ?_
 refine Awp.block ?_
 refine Awp.consP C ?_
 have h1 : [x, y][0]? = some x := rfl
 refine rvc_un (rexec_idxS C rfl rfl rfl rfl rfl rfl x (Int.natCast_nonneg _) h1 ?_)
 refine rvP C (.pv (.lit (.int .u64 x))) ?_
 refine rvP C (.pv (.lit (.int .u64 x))) ?_
 refine rvc_nil ?_
 refine Awp.seq ?_
 refine Awp.block ?_
 refine Awp.peelM (σ := ((List Int)) × Int) (fun v => [(0, .sl 900 0 v.1.length 1 false), (6, .pv (.lit (.int .u64 v.2))), (13, sS (some false) (eI .u64) [x, y]), (14, .pv (.lit (.int .i64 2))), (15, .pv (.lit (.int .i64 0)))]) (fun v => [(900, .cells (encC (eI .u8) v.1))]) [900] (fun n v => v.2.toNat ≤ n ∧ wPut2O_l1 (fun b1 n => wPut2O_l1b (fun b3 n2 => (b3 ++ [(IntKind.u8.wrap n2)])) (y.toNat + 1) (b1 ++ [(IntKind.u8.wrap n)]) y) (n + 1) v.1 v.2 = R ∧ (putInv b.D.length x v.1 v.2)) (x.toNat + 1) ?_ (fun n_ v h2 => ?_)
 ·
  refine Awp.seq ?_
  refine Awp.consP C ?_
  refine rvP C (.pv (.lit (.int .u64 x))) ?_
  refine rvP C (.pv (.lit (.bool (decide (x ≥ 128))))) ?_
  refine rvc_nil ?_
  refine Awp.cond (b := (decide (x ≥ 128))) rfl (fun h11 => ?_) (fun h11 => ?_)
  ·
   replace hR := of_true h11 hR
   refine Awp.skip ?_
   refine Awp.block ?_
   refine Awp.consP C ?_
   refine rvP C (.tsl b.D.length (encL (eI .u8) b.D)) ?_
   refine rvP C (.pv (.lit (.int .u64 x))) ?_
   refine rvP C (.pv (.lit (.int .u8 (IntKind.u8.wrap x)))) ?_
   refine rvP C (.pv (.lit (.int .u8 (bitI .or .u8 (IntKind.u8.wrap x) 128)))) ?_
   refine rvc_un (rexec_buildSliceF C (eI .u8) [(bitI .or .u8 (IntKind.u8.wrap x) 128)] rfl rfl rfl rfl rfl rfl rfl (by decide) rfl ?_)
   refine rvc_un (rexec_appendT C rfl rfl rfl rfl rfl rfl rfl rfl (fun _ h => by cases h) rfl (en := (eI .u8)) (D0 := b.D) (D := [(bitI .or .u8 (IntKind.u8.wrap x) 128)]) rfl rfl (by simp) (by first | (have h_ := putInv2_le hW hy; simp; omega) | (have h_ := putInv_le hV hx; simp; omega) | (simp; omega)) (by decide) (nn := (b.D ++ [(bitI .or .u8 (IntKind.u8.wrap x) 128)]).length) (by simp) ?_)
   refine rvP C (.sl 26 0 ((b.D ++ [(bitI .or .u8 (IntKind.u8.wrap x) 128)]).length) 1 false) ?_
   refine rvc_nil ?_
   refine Awp.regionP C ?_
   refine rvP C (.pv (.lit (.int .u64 x))) ?_
   refine rvc_un (rexec_prim C (δ := { v := .pv (.lit (.int .u64 (shrI .u64 x 7))) }) rfl rfl rfl rfl (by first | decide | assumption | omega) rfl ?_)
   refine rvP C (.pv (.lit (.int .u64 (shrI .u64 x 7)))) ?_
   refine rvc_nil ?_
   refine ⟨(shrI .u64 x 7).toNat, ((b.D ++ [(bitI .or .u8 (IntKind.u8.wrap x) 128)]), (shrI .u64 x 7)), ?_, ⟨Nat.le_refl _, hR, putInv_start (of_decide_eq_true ‹decide (x ≥ 128) = true›)⟩, ?_⟩
   · show (shrI .u64 x 7).toNat < x.toNat + 1; have := of_decide_eq_true ‹decide (x ≥ 128) = true›; rw [shr7]; omega
   · exact ⟨fun b => bif b == 900 then 26 else (fun b => b) b, WeakerR.ofL (Ks := [900]) hI ⟨⟨rfl, rfl⟩, ⟨rfl, rfl⟩, ⟨rfl, rfl⟩, ⟨rfl, rfl⟩, ⟨rfl, rfl⟩, trivial⟩ (okH_list rfl rfl rfl (okH_nil)) rfl⟩
  ·
   replace hR := of_false h11 hR
   refine Awp.exit ?_
   refine Awp.regionP C ?_
   refine rvP C (.tsl b.D.length (encL (eI .u8) b.D)) ?_
   refine rvP C (.pv (.lit (.int .u64 x))) ?_
   refine rvP C (.pv (.lit (.int .u8 (IntKind.u8.wrap x)))) ?_
   refine rvc_un (rexec_buildSliceF C (eI .u8) [(IntKind.u8.wrap x)] rfl rfl rfl rfl rfl rfl rfl (by decide) rfl ?_)
   refine rvc_un (rexec_appendT C rfl rfl rfl rfl rfl rfl rfl rfl (fun _ h => by cases h) rfl (en := (eI .u8)) (D0 := b.D) (D := [(IntKind.u8.wrap x)]) rfl rfl (by simp) (by first | (have h_ := putInv2_le hW hy; simp; omega) | (have h_ := putInv_le hV hx; simp; omega) | (simp; omega)) (by decide) (nn := (b.D ++ [(IntKind.u8.wrap x)]).length) (by simp) ?_)
   refine rvP C (.sl 33 0 ((b.D ++ [(IntKind.u8.wrap x)]).length) 1 false) ?_
   refine rvc_nil ?_
   refine Awp.regionP C ?_
   refine rvP C (.pv (.lit (.int .i64 1))) ?_
   refine rvP C (.pv (.lit (.int .i64 1))) ?_
   refine rvc_nil ?_
   refine Arounds.succ ?_
   refine Awp.consP C ?_
   refine rvP C (.pv (.lit (.bool true))) ?_
   refine rvc_nil ?_
   refine Awp.seq ?_
   refine Awp.condT (b := true) rfl rfl ?_
   refine Awp.skip ?_
   refine Awp.seq ?_
   refine Awp.block ?_
   refine Awp.consP C ?_
   have h12 : [x, y][1]? = some y := rfl
   refine rvc_un (rexec_idxS C rfl rfl rfl rfl rfl rfl y (Int.natCast_nonneg _) h12 ?_)
   refine rvP C (.pv (.lit (.int .u64 y))) ?_
   refine rvP C (.pv (.lit (.int .u64 y))) ?_
   refine rvc_nil ?_
   refine Awp.seq ?_
   refine Awp.block ?_
   refine Awp.forM (σ := ((List Int)) × Int) (fun v => [(0, .sl 902 0 v.1.length 1 false), (6, .pv (.lit (.int .u64 v.2))), (13, sS (some false) (eI .u64) [x, y]), (14, .pv (.lit (.int .i64 2))), (15, .pv (.lit (.int .i64 1)))]) (fun v => [(902, .cells (encC (eI .u8) v.1))]) [902] (fun n v => v.2.toNat ≤ n ∧ wPut2O_l1b (fun b3 n2 => (b3 ++ [(IntKind.u8.wrap n2)])) (n + 1) v.1 v.2 = R ∧ (putInv2 (b.D.length + 10) y v.1 v.2)) (y.toNat) ((b.D ++ [(IntKind.u8.wrap x)]), y) ?_ ?_ (fun n_ v h13 => ?_)
   · exact ⟨Nat.le_refl _, hR, ⟨0, (by first | (have h_ := putInv_le hV hx; simp; omega) | (simp; omega) | simp), (by simp)⟩⟩
   · exact ⟨fun b => bif b == 902 then 33 else (fun b => b) b, WeakerR.ofL (Ks := [902]) hI ⟨⟨rfl, rfl⟩, ⟨rfl, rfl⟩, ⟨rfl, rfl⟩, ⟨rfl, rfl⟩, ⟨rfl, rfl⟩, trivial⟩ (okH_list rfl rfl rfl (okH_nil)) rfl⟩
   obtain ⟨b3, n2⟩ := v
   obtain ⟨hm_, hR, hW⟩ := h13
   replace hm_ : n2.toNat ≤ n_ := hm_
   replace hW : putInv2 (b.D.length + 10) y b3 n2 := hW
   refine Awp.seq ?_
   refine Awp.consP C ?_
   refine rvP C (.pv (.lit (.int .u64 n2))) ?_
   refine rvP C (.pv (.lit (.bool (decide (n2 ≥ 128))))) ?_
   refine rvc_nil ?_
   refine Awp.cond (b := (decide (n2 ≥ 128))) rfl (fun h15 => ?_) (fun h15 => ?_)
   ·
    replace hR := of_true h15 hR
    refine Awp.skip ?_
    refine Awp.block ?_
    refine Awp.consP C ?_
    refine rvP C (.sl 902 0 b3.length 1 false) ?_
    refine rvP C (.pv (.lit (.int .u64 n2))) ?_
    refine rvP C (.pv (.lit (.int .u8 (IntKind.u8.wrap n2)))) ?_
    refine rvP C (.pv (.lit (.int .u8 (bitI .or .u8 (IntKind.u8.wrap n2) 128)))) ?_
    refine rvc_un (rexec_buildSliceF C (eI .u8) [(bitI .or .u8 (IntKind.u8.wrap n2) 128)] rfl rfl rfl rfl rfl rfl rfl (by decide) rfl ?_)
    refine rvc_un (rexec_append C rfl rfl rfl rfl rfl rfl rfl rfl (fun _ h => by cases h) rfl (en := (eI .u8)) (D0 := b3) (D := [(bitI .or .u8 (IntKind.u8.wrap n2) 128)]) rfl rfl rfl rfl (by first | (have h_ := putInv2_le hW hy; simp; omega) | (have h_ := putInv_le hV hx; simp; omega) | (simp; omega)) (by decide) (nn := (b3 ++ [(bitI .or .u8 (IntKind.u8.wrap n2) 128)]).length) (by simp) ?_)
    refine rvP C (.sl 26 0 ((b3 ++ [(bitI .or .u8 (IntKind.u8.wrap n2) 128)]).length) 1 false) ?_
    refine rvc_nil ?_
    refine Awp.regionP C ?_
    refine rvP C (.pv (.lit (.int .u64 n2))) ?_
    refine rvc_un (rexec_prim C (δ := { v := .pv (.lit (.int .u64 (shrI .u64 n2 7))) }) rfl rfl rfl rfl (by first | decide | assumption | omega) rfl ?_)
    refine rvP C (.pv (.lit (.int .u64 (shrI .u64 n2 7)))) ?_
    refine rvc_nil ?_
    have h16 : (shrI .u64 n2 7).toNat < n2.toNat := by (have := of_decide_eq_true ‹decide (n2 ≥ 128) = true›; rw [shr7]; omega)
    obtain ⟨nn, rfl⟩ : ∃ nn, n_ = nn + 1 := ⟨n_ - 1, by omega⟩
    refine ⟨nn, ((b3 ++ [(bitI .or .u8 (IntKind.u8.wrap n2) 128)]), (shrI .u64 n2 7)), by omega, ⟨by show (shrI .u64 n2 7).toNat ≤ nn; omega, hR, putInv2_step hW (of_decide_eq_true ‹decide (n2 ≥ 128) = true›)⟩, ?_⟩
    · exact ⟨fun b => bif b == 902 then 26 else (fun b => b) b, WeakerR.ofL (Ks := [902]) hI ⟨⟨rfl, rfl⟩, ⟨rfl, rfl⟩, ⟨rfl, rfl⟩, ⟨rfl, rfl⟩, ⟨rfl, rfl⟩, trivial⟩ (okH_list rfl rfl rfl (okH_nil)) rfl⟩
   ·
    replace hR := of_false h15 hR
    refine Awp.exit ?_
    refine Awp.regionP C ?_
    refine rvP C (.sl 902 0 b3.length 1 false) ?_
    refine rvP C (.pv (.lit (.int .u64 n2))) ?_
    refine rvP C (.pv (.lit (.int .u8 (IntKind.u8.wrap n2)))) ?_
    refine rvc_un (rexec_buildSliceF C (eI .u8) [(IntKind.u8.wrap n2)] rfl rfl rfl rfl rfl rfl rfl (by decide) rfl ?_)
    refine rvc_un (rexec_append C rfl rfl rfl rfl rfl rfl rfl rfl (fun _ h => by cases h) rfl (en := (eI .u8)) (D0 := b3) (D := [(IntKind.u8.wrap n2)]) rfl rfl rfl rfl (by first | (have h_ := putInv2_le hW hy; simp; omega) | (have h_ := putInv_le hV hx; simp; omega) | (simp; omega)) (by decide) (nn := (b3 ++ [(IntKind.u8.wrap n2)]).length) (by simp) ?_)
    refine rvP C (.sl 33 0 ((b3 ++ [(IntKind.u8.wrap n2)]).length) 1 false) ?_
    refine rvc_nil ?_
    refine Awp.regionP C ?_
    refine rvP C (.pv (.lit (.int .i64 2))) ?_
    refine rvP C (.pv (.lit (.int .i64 2))) ?_
    refine rvc_nil ?_
    refine Arounds.succ ?_
    refine Awp.consP C ?_
    refine rvP C (.pv (.lit (.bool false))) ?_
    refine rvc_nil ?_
    refine Awp.seq ?_
    refine Awp.condF (b := false) rfl rfl ?_
    refine Awp.exit ?_
    refine Awp.consP C ?_
    refine rvP C (.sl 33 0 ((b3 ++ [(IntKind.u8.wrap n2)]).length) 1 false) ?_
    refine rvP C (.sl 33 0 ((b3 ++ [(IntKind.u8.wrap n2)]).length) 1 false) ?_
    refine rvc_nil ?_
    refine Awp.weakenR (S := [(4, .sl 0 0 (b3 ++ [(IntKind.u8.wrap n2)]).length 1 false)]) (H := [(0, .cells (encC (eI .u8) (b3 ++ [(IntKind.u8.wrap n2)])))]) (U := [0]) (fun x => bif x == 0 then 33 else x) (WeakerR.ofL (Ks := [0]) hI ⟨⟨rfl, rfl⟩, trivial⟩ (okH_list rfl rfl rfl okH_nil) rfl) ?_
    refine Awp.ret ?_
    subst hR
    exact ⟨.inl rfl, rfl, rfl⟩
 obtain ⟨b1, n⟩ := v
 obtain ⟨hm_, hR, hV⟩ := h2
 replace hm_ : n.toNat ≤ n_ := hm_
 replace hV : putInv b.D.length x b1 n := hV
 refine Awp.seq ?_
 refine Awp.consP C ?_
 refine rvP C (.pv (.lit (.int .u64 n))) ?_
 refine rvP C (.pv (.lit (.bool (decide (n ≥ 128))))) ?_
 refine rvc_nil ?_
 refine Awp.cond (b := (decide (n ≥ 128))) rfl (fun h4 => ?_) (fun h4 => ?_)
 ·
  replace hR := of_true h4 hR
  refine Awp.skip ?_
  refine Awp.block ?_
  refine Awp.consP C ?_
  refine rvP C (.sl 900 0 b1.length 1 false) ?_
  refine rvP C (.pv (.lit (.int .u64 n))) ?_
  refine rvP C (.pv (.lit (.int .u8 (IntKind.u8.wrap n)))) ?_
  refine rvP C (.pv (.lit (.int .u8 (bitI .or .u8 (IntKind.u8.wrap n) 128)))) ?_
  refine rvc_un (rexec_buildSliceF C (eI .u8) [(bitI .or .u8 (IntKind.u8.wrap n) 128)] rfl rfl rfl rfl rfl rfl rfl (by decide) rfl ?_)
  refine rvc_un (rexec_append C rfl rfl rfl rfl rfl rfl rfl rfl (fun _ h => by cases h) rfl (en := (eI .u8)) (D0 := b1) (D := [(bitI .or .u8 (IntKind.u8.wrap n) 128)]) rfl rfl rfl rfl (by first | (have h_ := putInv2_le hW hy; simp; omega) | (have h_ := putInv_le hV hx; simp; omega) | (simp; omega)) (by decide) (nn := (b1 ++ [(bitI .or .u8 (IntKind.u8.wrap n) 128)]).length) (by simp) ?_)
  refine rvP C (.sl 26 0 ((b1 ++ [(bitI .or .u8 (IntKind.u8.wrap n) 128)]).length) 1 false) ?_
  refine rvc_nil ?_
  refine Awp.regionP C ?_
  refine rvP C (.pv (.lit (.int .u64 n))) ?_
  refine rvc_un (rexec_prim C (δ := { v := .pv (.lit (.int .u64 (shrI .u64 n 7))) }) rfl rfl rfl rfl (by first | decide | assumption | omega) rfl ?_)
  refine rvP C (.pv (.lit (.int .u64 (shrI .u64 n 7)))) ?_
  refine rvc_nil ?_
  have h5 : (shrI .u64 n 7).toNat < n.toNat := by (have := of_decide_eq_true ‹decide (n ≥ 128) = true›; rw [shr7]; omega)
  obtain ⟨nn, rfl⟩ : ∃ nn, n_ = nn + 1 := ⟨n_ - 1, by omega⟩
  refine ⟨nn, ((b1 ++ [(bitI .or .u8 (IntKind.u8.wrap n) 128)]), (shrI .u64 n 7)), by omega, ⟨by show (shrI .u64 n 7).toNat ≤ nn; omega, hR, putInv_step hV (of_decide_eq_true ‹decide (n ≥ 128) = true›)⟩, ?_⟩
  · exact ⟨fun b => bif b == 900 then 26 else (fun b => b) b, WeakerR.ofL (Ks := [900]) hI ⟨⟨rfl, rfl⟩, ⟨rfl, rfl⟩, ⟨rfl, rfl⟩, ⟨rfl, rfl⟩, ⟨rfl, rfl⟩, trivial⟩ (okH_list rfl rfl rfl (okH_nil)) rfl⟩
 ·
  replace hR := of_false h4 hR
  refine Awp.exit ?_
  refine Awp.regionP C ?_
  refine rvP C (.sl 900 0 b1.length 1 false) ?_
  refine rvP C (.pv (.lit (.int .u64 n))) ?_
  refine rvP C (.pv (.lit (.int .u8 (IntKind.u8.wrap n)))) ?_
  refine rvc_un (rexec_buildSliceF C (eI .u8) [(IntKind.u8.wrap n)] rfl rfl rfl rfl rfl rfl rfl (by decide) rfl ?_)
  refine rvc_un (rexec_append C rfl rfl rfl rfl rfl rfl rfl rfl (fun _ h => by cases h) rfl (en := (eI .u8)) (D0 := b1) (D := [(IntKind.u8.wrap n)]) rfl rfl rfl rfl (by first | (have h_ := putInv2_le hW hy; simp; omega) | (have h_ := putInv_le hV hx; simp; omega) | (simp; omega)) (by decide) (nn := (b1 ++ [(IntKind.u8.wrap n)]).length) (by simp) ?_)
  refine rvP C (.sl 33 0 ((b1 ++ [(IntKind.u8.wrap n)]).length) 1 false) ?_
  refine rvc_nil ?_
  refine Awp.regionP C ?_
  refine rvP C (.pv (.lit (.int .i64 1))) ?_
  refine rvP C (.pv (.lit (.int .i64 1))) ?_
  refine rvc_nil ?_
  refine Arounds.succ ?_
  refine Awp.consP C ?_
  refine rvP C (.pv (.lit (.bool true))) ?_
  refine rvc_nil ?_
  refine Awp.seq ?_
  refine Awp.condT (b := true) rfl rfl ?_
  refine Awp.skip ?_
  refine Awp.seq ?_
  refine Awp.block ?_
  refine Awp.consP C ?_
  have h6 : [x, y][1]? = some y := rfl
  refine rvc_un (rexec_idxS C rfl rfl rfl rfl rfl rfl y (Int.natCast_nonneg _) h6 ?_)
  refine rvP C (.pv (.lit (.int .u64 y))) ?_
  refine rvP C (.pv (.lit (.int .u64 y))) ?_
  refine rvc_nil ?_
  refine Awp.seq ?_
  refine Awp.block ?_
  refine Awp.forM (σ := ((List Int)) × Int) (fun v => [(0, .sl 901 0 v.1.length 1 false), (6, .pv (.lit (.int .u64 v.2))), (13, sS (some false) (eI .u64) [x, y]), (14, .pv (.lit (.int .i64 2))), (15, .pv (.lit (.int .i64 1)))]) (fun v => [(901, .cells (encC (eI .u8) v.1))]) [901] (fun n v => v.2.toNat ≤ n ∧ wPut2O_l1b (fun b2 n1 => (b2 ++ [(IntKind.u8.wrap n1)])) (n + 1) v.1 v.2 = R ∧ (putInv2 (b.D.length + 10) y v.1 v.2)) (y.toNat) ((b1 ++ [(IntKind.u8.wrap n)]), y) ?_ ?_ (fun n_ v h7 => ?_)
  · exact ⟨Nat.le_refl _, hR, ⟨0, (by first | (have h_ := putInv_le hV hx; simp; omega) | (simp; omega) | simp), (by simp)⟩⟩
  · exact ⟨fun b => bif b == 901 then 33 else (fun b => b) b, WeakerR.ofL (Ks := [901]) hI ⟨⟨rfl, rfl⟩, ⟨rfl, rfl⟩, ⟨rfl, rfl⟩, ⟨rfl, rfl⟩, ⟨rfl, rfl⟩, trivial⟩ (okH_list rfl rfl rfl (okH_nil)) rfl⟩
  obtain ⟨b2, n1⟩ := v
  obtain ⟨hm_, hR, hW⟩ := h7
  replace hm_ : n1.toNat ≤ n_ := hm_
  replace hW : putInv2 (b.D.length + 10) y b2 n1 := hW
  refine Awp.seq ?_
  refine Awp.consP C ?_
  refine rvP C (.pv (.lit (.int .u64 n1))) ?_
  refine rvP C (.pv (.lit (.bool (decide (n1 ≥ 128))))) ?_
  refine rvc_nil ?_
  refine Awp.cond (b := (decide (n1 ≥ 128))) rfl (fun h9 => ?_) (fun h9 => ?_)
  ·
   replace hR := of_true h9 hR
   refine Awp.skip ?_
   refine Awp.block ?_
   refine Awp.consP C ?_
   refine rvP C (.sl 901 0 b2.length 1 false) ?_
   refine rvP C (.pv (.lit (.int .u64 n1))) ?_
   refine rvP C (.pv (.lit (.int .u8 (IntKind.u8.wrap n1)))) ?_
   refine rvP C (.pv (.lit (.int .u8 (bitI .or .u8 (IntKind.u8.wrap n1) 128)))) ?_
   refine rvc_un (rexec_buildSliceF C (eI .u8) [(bitI .or .u8 (IntKind.u8.wrap n1) 128)] rfl rfl rfl rfl rfl rfl rfl (by decide) rfl ?_)
   refine rvc_un (rexec_append C rfl rfl rfl rfl rfl rfl rfl rfl (fun _ h => by cases h) rfl (en := (eI .u8)) (D0 := b2) (D := [(bitI .or .u8 (IntKind.u8.wrap n1) 128)]) rfl rfl rfl rfl (by first | (have h_ := putInv2_le hW hy; simp; omega) | (have h_ := putInv_le hV hx; simp; omega) | (simp; omega)) (by decide) (nn := (b2 ++ [(bitI .or .u8 (IntKind.u8.wrap n1) 128)]).length) (by simp) ?_)
   refine rvP C (.sl 26 0 ((b2 ++ [(bitI .or .u8 (IntKind.u8.wrap n1) 128)]).length) 1 false) ?_
   refine rvc_nil ?_
   refine Awp.regionP C ?_
   refine rvP C (.pv (.lit (.int .u64 n1))) ?_
   refine rvc_un (rexec_prim C (δ := { v := .pv (.lit (.int .u64 (shrI .u64 n1 7))) }) rfl rfl rfl rfl (by first | decide | assumption | omega) rfl ?_)
   refine rvP C (.pv (.lit (.int .u64 (shrI .u64 n1 7)))) ?_
   refine rvc_nil ?_
   have h10 : (shrI .u64 n1 7).toNat < n1.toNat := by (have := of_decide_eq_true ‹decide (n1 ≥ 128) = true›; rw [shr7]; omega)
   obtain ⟨nn, rfl⟩ : ∃ nn, n_ = nn + 1 := ⟨n_ - 1, by omega⟩
   refine ⟨nn, ((b2 ++ [(bitI .or .u8 (IntKind.u8.wrap n1) 128)]), (shrI .u64 n1 7)), by omega, ⟨by show (shrI .u64 n1 7).toNat ≤ nn; omega, hR, putInv2_step hW (of_decide_eq_true ‹decide (n1 ≥ 128) = true›)⟩, ?_⟩
   · exact ⟨fun b => bif b == 901 then 26 else (fun b => b) b, WeakerR.ofL (Ks := [901]) hI ⟨⟨rfl, rfl⟩, ⟨rfl, rfl⟩, ⟨rfl, rfl⟩, ⟨rfl, rfl⟩, ⟨rfl, rfl⟩, trivial⟩ (okH_list rfl rfl rfl (okH_nil)) rfl⟩
  ·
   replace hR := of_false h9 hR
   refine Awp.exit ?_
   refine Awp.regionP C ?_
   refine rvP C (.sl 901 0 b2.length 1 false) ?_
   refine rvP C (.pv (.lit (.int .u64 n1))) ?_
   refine rvP C (.pv (.lit (.int .u8 (IntKind.u8.wrap n1)))) ?_
   refine rvc_un (rexec_buildSliceF C (eI .u8) [(IntKind.u8.wrap n1)] rfl rfl rfl rfl rfl rfl rfl (by decide) rfl ?_)
   refine rvc_un (rexec_append C rfl rfl rfl rfl rfl rfl rfl rfl (fun _ h => by cases h) rfl (en := (eI .u8)) (D0 := b2) (D := [(IntKind.u8.wrap n1)]) rfl rfl rfl rfl (by first | (have h_ := putInv2_le hW hy; simp; omega) | (have h_ := putInv_le hV hx; simp; omega) | (simp; omega)) (by decide) (nn := (b2 ++ [(IntKind.u8.wrap n1)]).length) (by simp) ?_)
   refine rvP C (.sl 33 0 ((b2 ++ [(IntKind.u8.wrap n1)]).length) 1 false) ?_
   refine rvc_nil ?_
   refine Awp.regionP C ?_
   refine rvP C (.pv (.lit (.int .i64 2))) ?_
   refine rvP C (.pv (.lit (.int .i64 2))) ?_
   refine rvc_nil ?_
   refine Arounds.succ ?_
   refine Awp.consP C ?_
   refine rvP C (.pv (.lit (.bool false))) ?_
   refine rvc_nil ?_
   refine Awp.seq ?_
   refine Awp.condF (b := false) rfl rfl ?_
   refine Awp.exit ?_
   refine Awp.consP C ?_
   refine rvP C (.sl 33 0 ((b2 ++ [(IntKind.u8.wrap n1)]).length) 1 false) ?_
   refine rvP C (.sl 33 0 ((b2 ++ [(IntKind.u8.wrap n1)]).length) 1 false) ?_
   refine rvc_nil ?_
   refine Awp.weakenR (S := [(4, .sl 0 0 (b2 ++ [(IntKind.u8.wrap n1)]).length 1 false)]) (H := [(0, .cells (encC (eI .u8) (b2 ++ [(IntKind.u8.wrap n1)])))]) (U := [0]) (fun x => bif x == 0 then 33 else x) (WeakerR.ofL (Ks := [0]) hI ⟨⟨rfl, rfl⟩, trivial⟩ (okH_list rfl rfl rfl okH_nil) rfl) ?_
   refine Awp.ret ?_
   subst hR
   exact ⟨.inl rfl, rfl, rfl⟩
theorem wPut2O_l1_eq (K : List Int → List Int) : ∀ (f : Nat) (b1 : List Int) (n : Int), 0 ≤ n → n.toNat < f → wPut2O_l1 (fun b1 n => K (b1 ++ [(IntKind.u8.wrap n)])) f b1 n = K (b1 ++ vb n.toNat)
  | 0, _, _, _, h => by omega
  | f + 1, b1, n, h0, h => by
    unfold wPut2O_l1
    cases e1 : decide (n ≥ 128)
    · have := of_decide_eq_false e1
      rw [vb_lt (by omega)]
      show K (b1 ++ [IntKind.u8.wrap n]) = _
      rw [wrap8, show n % 256 = ((n.toNat : Nat) : Int) by omega]
    · have hn := of_decide_eq_true e1
      show wPut2O_l1 _ f (b1 ++ [bitI .or .u8 (IntKind.u8.wrap n) 128]) (shrI .u64 n 7) = _
      rw [wPut2O_l1_eq K f _ _ (by rw [shr7]; omega) (by rw [shr7]; omega), low_byte h0, vb_ge (n := n.toNat) (by omega), shr7, show (n / 128).toNat = n.toNat / 128 by omega]
      simp
theorem wPut2O_l1b_eq (K : List Int → List Int) : ∀ (f : Nat) (b1 : List Int) (n : Int), 0 ≤ n → n.toNat < f → wPut2O_l1b (fun b1 n => K (b1 ++ [(IntKind.u8.wrap n)])) f b1 n = K (b1 ++ vb n.toNat)
  | 0, _, _, _, h => by omega
  | f + 1, b1, n, h0, h => by
    unfold wPut2O_l1b
    cases e1 : decide (n ≥ 128)
    · have := of_decide_eq_false e1
      rw [vb_lt (by omega)]
      show K (b1 ++ [IntKind.u8.wrap n]) = _
      rw [wrap8, show n % 256 = ((n.toNat : Nat) : Int) by omega]
    · have hn := of_decide_eq_true e1
      show wPut2O_l1b _ f (b1 ++ [bitI .or .u8 (IntKind.u8.wrap n) 128]) (shrI .u64 n 7) = _
      rw [wPut2O_l1b_eq K f _ _ (by rw [shr7]; omega) (by rw [shr7]; omega), low_byte h0, vb_ge (n := n.toNat) (by omega), shr7, show (n / 128).toNat = n.toNat / 128 by omega]
      simp
theorem wPutO_l1_eq (K : List Int → List Int) : ∀ (f : Nat) (b1 : List Int) (n : Int), 0 ≤ n → n.toNat < f → wPutO_l1 (fun b1 n => K (b1 ++ [(IntKind.u8.wrap n)])) f b1 n = K (b1 ++ vb n.toNat)
  | 0, _, _, _, h => by omega
  | f + 1, b1, n, h0, h => by
    unfold wPutO_l1
    cases e1 : decide (n ≥ 128)
    · have := of_decide_eq_false e1
      rw [vb_lt (by omega)]
      show K (b1 ++ [IntKind.u8.wrap n]) = _
      rw [wrap8, show n % 256 = ((n.toNat : Nat) : Int) by omega]
    · have hn := of_decide_eq_true e1
      show wPutO_l1 _ f (b1 ++ [bitI .or .u8 (IntKind.u8.wrap n) 128]) (shrI .u64 n 7) = _
      rw [wPutO_l1_eq K f _ _ (by rw [shr7]; omega) (by rw [shr7]; omega), low_byte h0, vb_ge (n := n.toNat) (by omega), shr7, show (n / 128).toNat = n.toNat / 128 by omega]
      simp
theorem wPut2O_eq (b : Sl Int) (x y : Int) (h0 : 0 ≤ x) (h1 : 0 ≤ y) : wPut2O b x y = b.D ++ (vb x.toNat ++ vb y.toNat) := by
  have k2 := fun L : List Int => wPut2O_l1b_eq (fun L => L) (y.toNat + 1) L y h1 (Nat.lt_succ_self _)
  unfold wPut2O
  cases e1 : decide (x ≥ 128)
  · have := of_decide_eq_false e1
    rw [cond_false, k2, vb_lt (n := x.toNat) (by omega), wrap8, show x % 256 = ((x.toNat : Nat) : Int) by omega, List.append_assoc]
  · have hn := of_decide_eq_true e1
    rw [cond_true, wPut2O_l1_eq (fun L => wPut2O_l1b (fun b3 n2 => (b3 ++ [(IntKind.u8.wrap n2)])) (y.toNat + 1) L y) _ _ _ (by rw [shr7]; omega) (by rw [shr7]; omega), k2, low_byte h0, vb_ge (n := x.toNat) (by omega), shr7, show (x / 128).toNat = x.toNat / 128 by omega]
    simp
theorem wPutO_eq (b : Sl Int) (x : Int) (h0 : 0 ≤ x) : wPutO b x = b.D ++ vb x.toNat := by
  unfold wPutO
  cases e1 : decide (x ≥ 128)
  · have := of_decide_eq_false e1
    rw [vb_lt (by omega)]
    show b.D ++ [IntKind.u8.wrap x] = _
    rw [wrap8, show x % 256 = ((x.toNat : Nat) : Int) by omega]
  · have hn := of_decide_eq_true e1
    show wPutO_l1 _ _ (b.D ++ [bitI .or .u8 (IntKind.u8.wrap x) 128]) (shrI .u64 x 7) = _
    rw [wPutO_l1_eq (fun L => L) _ _ _ (by rw [shr7]; omega) (by omega), low_byte h0, vb_ge (n := x.toNat) (by omega), shr7, show (x / 128).toNat = x.toNat / 128 by omega]
    simp
theorem wPutO_len (b : Sl Int) (x : Int) (h : 0 ≤ x ∧ x < 18446744073709551616) : (wPutO b x).length ≤ b.D.length + 10 := by
  rw [wPutO_eq b x h.1, List.length_append]
  have := vb_len (n := x.toNat) (by omega)
  omega
theorem wPut2O_len (b : Sl Int) (x y : Int) (h : (0 ≤ x ∧ x < 18446744073709551616) ∧ 0 ≤ y ∧ y < 18446744073709551616) : (wPut2O b x y).length ≤ b.D.length + 20 := by
  rw [wPut2O_eq b x y h.1.1 h.2.1]
  have h1 := vb_len (n := x.toNat) (by omega)
  have h2 := vb_len (n := y.toNat) (by omega)
  rw [List.length_append, List.length_append]; omega
theorem vb_B8 : ∀ n : Nat, ∀ x ∈ vb n, 0 ≤ x ∧ x < 256 := fun n => by
  induction n using Nat.strongRecOn with
  | ind n ih =>
    intro x hx
    rcases Nat.lt_or_ge n 128 with h | h
    · rw [vb_lt h, List.mem_singleton] at hx; omega
    · rw [vb_ge h] at hx
      rcases List.mem_cons.1 hx with rfl | hx
      · omega
      · exact ih _ (by omega) x hx
theorem tShortR_calls (key b : Sl Int) (n_ : Nat) (tt_ : Bool) (hn_ : n_ = b.D.length) (hl : b.D.length ≤ 1000000) : MCalls Tryd.prog 54 [sS (some key.nil) (eI .u8) key.D, .sl 0 0 n_ 1 tt_] (.cells (encC (eI .u8) b.D)) (.tup [.pv (.lit (.int .u64 ((tShort key b).1))), .pv (.lit (.int .i64 ((tShort key b).2)))]) (.cells (encC (eI .u8) b.D)) := by
  subst hn_
  exact MCalls.of_PCalls (ps := encL (eI .u8) b.D) (tShort_calls key (Sl.mk false b.D) hl) ⟨.inl rfl, .inr ⟨_, _, _, rfl, rfl⟩, trivial⟩ rfl rfl
def bodyO_l0 : List Seen → Nat → (List Int) → List Int
  | [], _, b => b
  | x :: xs, i, b => bodyO_l0 xs (i + 1) (wPut2O (Sl.mk false b) (word x.key) (IntKind.u64.wrap x.ver))
def bodyO (l : (Sl Seen)) : List Int :=
  bodyO_l0 l.D 0 (wPutO (Sl.mk true []) (IntKind.u64.wrap (l.D.length : Int)))
theorem bodyO_calls (l : (Sl Seen)) (hl1 : l.D.length ≤ 1000) : OCalls Tryd.prog 33 [sS (some l.nil) eSeen l.D] (.sl 0 0 (bodyO l).length 1 false) (.cells (encC (eI .u8) (bodyO l))) := by
 generalize hR : bodyO l = R
 refine OCalls.of_body tabOk Tryd.func33 rfl rfl rfl rfl rfl (encC_within _ _) mixed fun E hP C hI => ?_
 refine Awp.consP C ?_
 refine rvP C (sS (some true) (eI .u8) []) ?_
 refine rvc_nil ?_
 refine Awp.cons C (fun _ => .quiet) (by kernel_rfl) ?_
 refine rvP C (sS (some l.nil) eSeen l.D) ?_
 refine rvP C (.pv (.lit (.int .i64 (l.D.length : Int)))) ?_
 refine rvP C (.pv (.lit (.int .u64 (IntKind.u64.wrap (l.D.length : Int))))) ?_
 refine rvc_un (rexec_buildSliceF C (eI .u64) [(IntKind.u64.wrap (l.D.length : Int))] rfl rfl rfl rfl rfl rfl rfl (by decide) rfl ?_)
 refine rvc_un (rexec_callO hP C rfl rfl rfl rfl (wPutO_calls (Sl.mk true []) (IntKind.u64.wrap (l.D.length : Int)) (wrap_lt64 _) (by simp)) ?_)
 refine rvP C (.sl 10 0 ((wPutO (Sl.mk true []) (IntKind.u64.wrap (l.D.length : Int))).length) 1 false) ?_
 refine rvc_nil ?_
 refine Awp.seq ?_
 refine Awp.consP C ?_
 refine rvP C (sS (some l.nil) eSeen l.D) ?_
 refine rvP C (.pv (.lit (.int .i64 (l.D.length : Int)))) ?_
 refine rvP C (.pv (.lit (.int .i64 0))) ?_
 refine rvc_nil ?_
 refine Awp.block ?_
 refine Awp.forR (σ := ((List Int))) (l.D.length) (fun i v => [(3, .sl 900 0 v.length 1 false), (11, sS (some l.nil) eSeen l.D), (12, .pv (.lit (.int .i64 (l.D.length : Int)))), (13, .pv (.lit (.int .i64 (i : Int))))]) (fun i v => [(900, .cells (encC (eI .u8) v))]) [900] (fun i v => (bodyO_l0 (l.D.drop i) i v = R) ∧ (v.length ≤ (wPutO (Sl.mk true []) (IntKind.u64.wrap (l.D.length : Int))).length + i * 20)) (wPutO (Sl.mk true []) (IntKind.u64.wrap (l.D.length : Int))) ?_ ?_ (fun i b h1 hR => ?_)
 · exact ⟨hR, (by first | (simp only [Nat.zero_mul, Nat.add_zero, Nat.le_refl]; done) | (have := wPut2O_len (Sl.mk false b) (word x.key) (IntKind.u64.wrap x.ver) ⟨word_ok _, wrap_nn64 _, wrap_lt64 _⟩; dsimp only at this; omega) | omega)⟩
 · exact ⟨fun b => bif b == 900 then 10 else (fun b => b) b, WeakerR.ofL (Ks := [900]) hI ⟨⟨rfl, rfl⟩, ⟨rfl, rfl⟩, ⟨rfl, rfl⟩, ⟨rfl, rfl⟩, trivial⟩ (okH_list rfl rfl rfl (okH_nil)) rfl⟩
 obtain ⟨hR, hi_b⟩ := hR
 replace hi_b : b.length ≤ (wPutO (Sl.mk true []) (IntKind.u64.wrap (l.D.length : Int))).length + i * 20 := hi_b
 have hw0_ := wPutO_len (Sl.mk true []) (IntKind.u64.wrap (l.D.length : Int)) ⟨wrap_nn64 _, wrap_lt64 _⟩
 dsimp only [List.length_nil] at hw0_
 refine Awp.consP C ?_
 refine rvP C (.pv (.lit (.bool (decide ((i : Int) < (l.D.length : Int)))))) ?_
 refine rvc_nil ?_
 refine Awp.seq ?_
 refine Awp.cond (b := (decide ((i : Int) < (l.D.length : Int)))) rfl (fun h2 => ?_) (fun h2 => ?_)
 ·
  have h3 : i < l.D.length := by have := of_decide_eq_true h2; omega
  obtain ⟨x, h4⟩ := getX h3
  rw [drop_at h4] at hR
  refine Awp.skip ?_
  refine Awp.seq ?_
  refine Awp.block ?_
  refine Awp.consP C ?_
  refine rvc_un (rexec_idxS C rfl rfl rfl rfl rfl rfl x (Int.natCast_nonneg _) h4 ?_)
  refine rvP C (.agg [.pv (.lit (.int .u8 (x.key 0))), .pv (.lit (.int .u8 (x.key 1))), .pv (.lit (.int .u8 (x.key 2))), .pv (.lit (.int .u8 (x.key 3))), .pv (.lit (.int .u8 (x.key 4))), .pv (.lit (.int .u8 (x.key 5))), .pv (.lit (.int .u8 (x.key 6))), .pv (.lit (.int .u8 (x.key 7))), .pv (.lit (.int .i64 x.ver))]) ?_
  refine rvc_un (rexec_prim C (δ := { v := .ptr 5 0, new := [(5, .cells [.pv (.lit (.int .u8 0)), .pv (.lit (.int .u8 0)), .pv (.lit (.int .u8 0)), .pv (.lit (.int .u8 0)), .pv (.lit (.int .u8 0)), .pv (.lit (.int .u8 0)), .pv (.lit (.int .u8 0)), .pv (.lit (.int .u8 0)), .pv (.lit (.int .i64 0))])] }) rfl rfl rfl rfl trivial rfl ?_)
  refine rvc_un (rexec_prim C (δ := { v := .undef, wr := [(5, some (.cells [.pv (.lit (.int .u8 (x.key 0))), .pv (.lit (.int .u8 (x.key 1))), .pv (.lit (.int .u8 (x.key 2))), .pv (.lit (.int .u8 (x.key 3))), .pv (.lit (.int .u8 (x.key 4))), .pv (.lit (.int .u8 (x.key 5))), .pv (.lit (.int .u8 (x.key 6))), .pv (.lit (.int .u8 (x.key 7))), .pv (.lit (.int .i64 x.ver))]))] }) rfl rfl rfl rfl trivial rfl ?_)
  refine rvc_nil ?_
  refine Awp.freezeW 900 (encL (eI .u8) b) ?_ [(3, sS (some false) (eI .u8) b), (5, .ptr 5 0), (11, sS (some l.nil) eSeen l.D), (12, .pv (.lit (.int .i64 (l.D.length : Int)))), (13, .pv (.lit (.int .i64 (i : Int))))] [(5, .cells [.pv (.lit (.int .u8 (x.key 0))), .pv (.lit (.int .u8 (x.key 1))), .pv (.lit (.int .u8 (x.key 2))), .pv (.lit (.int .u8 (x.key 3))), .pv (.lit (.int .u8 (x.key 4))), .pv (.lit (.int .u8 (x.key 5))), .pv (.lit (.int .u8 (x.key 6))), .pv (.lit (.int .u8 (x.key 7))), .pv (.lit (.int .i64 x.ver))])] ?_ ?_ ?_
  · rfl
  · exact ⟨⟨_, rfl, .inl (.inr ⟨_, _, _, rfl, rfl⟩)⟩, ⟨_, rfl, .inl (.inl rfl)⟩, ⟨_, rfl, .inl (.inl rfl)⟩, ⟨_, rfl, .inl (.inl rfl)⟩, ⟨_, rfl, .inl (.inl rfl)⟩, trivial⟩
  · exact ⟨⟨(by show (5 : Nat) ≠ 900; decide), .inl rfl⟩, trivial⟩
  refine Awp.region C (fun _ => .quiet) (by kernel_rfl) ?_
  refine rvP C (sS (some false) (eI .u8) b) ?_
  refine rvP C (.ptr 5 0) ?_
  refine rvP C (.agg [.pv (.lit (.int .u8 (x.key 0))), .pv (.lit (.int .u8 (x.key 1))), .pv (.lit (.int .u8 (x.key 2))), .pv (.lit (.int .u8 (x.key 3))), .pv (.lit (.int .u8 (x.key 4))), .pv (.lit (.int .u8 (x.key 5))), .pv (.lit (.int .u8 (x.key 6))), .pv (.lit (.int .u8 (x.key 7)))]) ?_
  refine rvc_un (rexec_call hP C rfl rfl rfl (word_calls x.key) ?_)
  refine rvP C (.ptr 5 8) ?_
  refine rvP C (.pv (.lit (.int .i64 x.ver))) ?_
  refine rvP C (.pv (.lit (.int .u64 (IntKind.u64.wrap x.ver)))) ?_
  refine rvc_un (rexec_buildSliceF C (eI .u64) [(word x.key), (IntKind.u64.wrap x.ver)] rfl rfl rfl rfl rfl rfl rfl (by decide) rfl ?_)
  refine rvc_un (rexec_callO hP C rfl rfl rfl rfl (wPut2O_calls (Sl.mk false b) (word x.key) (IntKind.u64.wrap x.ver) (word_ok _).2 (wrap_lt64 _) (by show b.length ≤ 1000000; omega)) ?_)
  refine rvP C (.sl 25 0 ((wPut2O (Sl.mk false b) (word x.key) (IntKind.u64.wrap x.ver)).length) 1 false) ?_
  refine rvc_nil ?_
  refine Awp.regionP C ?_
  refine rvP C (.pv (.lit (.int .i64 (IntKind.i64.wrap ((i : Int) + 1))))) ?_
  refine rvP C (.pv (.lit (.int .i64 (IntKind.i64.wrap ((i : Int) + 1))))) ?_
  refine rvc_nil ?_
  refine ⟨h3, (wPut2O (Sl.mk false b) (word x.key) (IntKind.u64.wrap x.ver)), ?_, ?_⟩
  · exact ⟨hR, (by first | (simp only [Nat.zero_mul, Nat.add_zero, Nat.le_refl]; done) | (have := wPut2O_len (Sl.mk false b) (word x.key) (IntKind.u64.wrap x.ver) ⟨word_ok _, wrap_nn64 _, wrap_lt64 _⟩; dsimp only at this; omega) | omega)⟩
  · exact ⟨fun b => bif b == 900 then 25 else (fun b => b) b, WeakerR.ofL (Ks := [900]) hI ⟨⟨rfl, rfl⟩, ⟨rfl, rfl⟩, ⟨rfl, rfl⟩, ⟨lit_cast (wrap_i64 (by omega) (by omega)), rfl⟩, trivial⟩ (okH_list rfl rfl rfl (okH_nil)) rfl⟩
 ·
  have h3 : ¬ i < l.D.length := by have := of_decide_eq_false h2; omega
  rw [drop_end h3] at hR
  refine Awp.exit ?_
  refine Awp.consP C ?_
  refine rvP C (.sl 900 0 b.length 1 false) ?_
  refine rvP C (.sl 900 0 b.length 1 false) ?_
  refine rvc_nil ?_
  refine Awp.weakenR (S := [(2, .sl 0 0 b.length 1 false)]) (H := [(0, .cells (encC (eI .u8) b))]) (U := [0]) (fun x => bif x == 0 then 900 else x) (WeakerR.ofL (Ks := [0]) hI ⟨⟨rfl, rfl⟩, trivial⟩ (okH_list rfl rfl rfl okH_nil) rfl) ?_
  refine Awp.ret ?_
  subst hR
  exact ⟨.inl rfl, rfl, rfl⟩
def markR (key : (Sl Int)) (b : (Sl Int)) : (Sl Int) × Int :=
  ((Sl.mk false ((((((([(IntKind.u8.wrap (shrI .u64 ((tShort key (Sl.mk false b.D)).1) 56))] ++ [(IntKind.u8.wrap (shrI .u64 ((tShort key (Sl.mk false b.D)).1) 48))]) ++ [(IntKind.u8.wrap (shrI .u64 ((tShort key (Sl.mk false b.D)).1) 40))]) ++ [(IntKind.u8.wrap (shrI .u64 ((tShort key (Sl.mk false b.D)).1) 32))]) ++ [(IntKind.u8.wrap (shrI .u64 ((tShort key (Sl.mk false b.D)).1) 24))]) ++ [(IntKind.u8.wrap (shrI .u64 ((tShort key (Sl.mk false b.D)).1) 16))]) ++ [(IntKind.u8.wrap (shrI .u64 ((tShort key (Sl.mk false b.D)).1) 8))]) ++ [(IntKind.u8.wrap (shrI .u64 ((tShort key (Sl.mk false b.D)).1) 0))])), (tShort key (Sl.mk false b.D)).2)
theorem markR_calls (key : (Sl Int)) (b : (Sl Int)) (n_ : Nat) (tt_ : Bool) (hn_ : n_ = b.D.length) (hl1 : b.D.length ≤ 1000000) : MCalls Tryd.prog 34 [sS (some key.nil) (eI .u8) key.D, .sl 0 0 n_ 1 tt_] (.cells (encC (eI .u8) b.D)) (.tup [sS (some (markR key b).1.nil) (eI .u8) ((markR key b).1.D), .pv (.lit (.int .i64 ((markR key b).2)))]) (.cells (encC (eI .u8) b.D)) := by
 generalize hR : markR key b = R
 subst hn_
 refine MCalls.of_body tabOk Tryd.func34 rfl rfl rfl rfl rfl (encC_within _ _) (encC_within _ _) mixed fun E hP C hI => ?_
 refine Awp.consP C ?_
 refine rvP C (sS (some true) (eI .u8) []) ?_
 refine rvP C (.pv (.lit (.int .i64 0))) ?_
 refine rvc_nil ?_
 refine Awp.cons C (fun _ => .writer) (by kernel_rfl) ?_
 refine rvP C (sS (some key.nil) (eI .u8) key.D) ?_
 refine rvP C (.sl 0 0 b.D.length 1 tt_) ?_
 refine rvc_un (rexec_callM hP C (b := 0) rfl rfl rfl (tShortR_calls key (Sl.mk false b.D) b.D.length tt_ rfl hl1) rfl rfl ?_)
 refine rvP C (.tup [.pv (.lit (.int .u64 ((tShort key (Sl.mk false b.D)).1))), .pv (.lit (.int .i64 ((tShort key (Sl.mk false b.D)).2)))]) ?_
 refine rvP C (.pv (.lit (.int .u64 ((tShort key (Sl.mk false b.D)).1)))) ?_
 refine rvP C (.pv (.lit (.int .i64 ((tShort key (Sl.mk false b.D)).2)))) ?_
 refine rvP C (.pv (.lit (.int .u64 ((tShort key (Sl.mk false b.D)).1)))) ?_
 refine rvP C (.pv (.lit (.int .i64 ((tShort key (Sl.mk false b.D)).2)))) ?_
 refine rvc_nil ?_
 refine Awp.consP C ?_
 refine rvP C (sS (some true) (eI .u8) []) ?_
 refine rvc_nil ?_
 refine Awp.seq ?_
 refine Awp.consP C ?_
 refine rvP C (.pv (.lit (.int .i64 56))) ?_
 refine rvc_nil ?_
 refine Awp.block ?_
 refine Awp.rounds 9 ?_
 refine Arounds.succ ?_
 refine Awp.seq ?_
 refine Awp.consP C ?_
 refine rvP C (.pv (.lit (.int .i64 56))) ?_
 refine rvP C (.pv (.lit (.bool true))) ?_
 refine rvc_nil ?_
 refine Awp.condT (b := true) rfl rfl ?_
 refine Awp.skip ?_
 refine Awp.seq ?_
 refine Awp.block ?_
 refine Awp.regionP C ?_
 refine rvP C (sS (some true) (eI .u8) []) ?_
 refine rvP C (.pv (.lit (.int .u64 ((tShort key (Sl.mk false b.D)).1)))) ?_
 refine rvP C (.pv (.lit (.int .i64 56))) ?_
 refine rvc_un (rexec_prim C (δ := { v := .pv (.lit (.int .u64 (shrI .u64 ((tShort key (Sl.mk false b.D)).1) 56))) }) rfl rfl rfl rfl (by first | decide | assumption | omega) rfl ?_)
 refine rvP C (.pv (.lit (.int .u8 (IntKind.u8.wrap (shrI .u64 ((tShort key (Sl.mk false b.D)).1) 56))))) ?_
 refine rvc_un (rexec_buildSliceF C (eI .u8) [(IntKind.u8.wrap (shrI .u64 ((tShort key (Sl.mk false b.D)).1) 56))] rfl rfl rfl rfl rfl rfl rfl (by decide) rfl ?_)
 refine rvc_un (rexec_appendN C rfl rfl rfl rfl rfl rfl rfl rfl (fun _ h => by cases h) rfl (en := (eI .u8)) (D := [(IntKind.u8.wrap (shrI .u64 ((tShort key (Sl.mk false b.D)).1) 56))]) rfl rfl (by simp) (by first | omega | (simp <;> omega)) (by decide) (nn := [(IntKind.u8.wrap (shrI .u64 ((tShort key (Sl.mk false b.D)).1) 56))].length) rfl ?_)
 refine rvP C (.sl 26 0 ([(IntKind.u8.wrap (shrI .u64 ((tShort key (Sl.mk false b.D)).1) 56))].length) 1 false) ?_
 refine rvc_nil ?_
 refine Awp.regionP C ?_
 refine rvP C (.pv (.lit (.int .i64 56))) ?_
 refine rvP C (.pv (.lit (.int .i64 48))) ?_
 refine rvP C (.pv (.lit (.int .i64 48))) ?_
 refine rvc_nil ?_
 refine Arounds.succ ?_
 refine Awp.weakenR (S := [(1, .sl 0 0 b.D.length 1 tt_), (6, .pv (.lit (.int .u64 ((tShort key (Sl.mk false b.D)).1)))), (7, .pv (.lit (.int .i64 ((tShort key (Sl.mk false b.D)).2)))), (8, .sl 70026 0 ([(IntKind.u8.wrap (shrI .u64 ((tShort key (Sl.mk false b.D)).1) 56))].length) 1 false), (9, .pv (.lit (.int .i64 48)))]) (H := [(0, .cells (encC (eI .u8) b.D)), (70026, .cells (encC (eI .u8) [(IntKind.u8.wrap (shrI .u64 ((tShort key (Sl.mk false b.D)).1) 56))]))]) (U := [0, 70026]) (fun x => bif x == 70026 then 26 else x) (WeakerR.ofLI (I := [0]) (Ks := [0, 70026]) hI ⟨⟨rfl, rfl⟩, ⟨rfl, rfl⟩, ⟨rfl, rfl⟩, ⟨rfl, rfl⟩, ⟨rfl, rfl⟩, trivial⟩ (okH_list rfl rfl rfl (okH_list rfl rfl rfl (okH_nil))) rfl rfl) ?_
 refine Awp.seq ?_
 refine Awp.consP C ?_
 refine rvP C (.pv (.lit (.int .i64 48))) ?_
 refine rvP C (.pv (.lit (.bool true))) ?_
 refine rvc_nil ?_
 refine Awp.condT (b := true) rfl rfl ?_
 refine Awp.skip ?_
 refine Awp.seq ?_
 refine Awp.block ?_
 refine Awp.regionP C ?_
 refine rvP C (.sl 70026 0 ([(IntKind.u8.wrap (shrI .u64 ((tShort key (Sl.mk false b.D)).1) 56))].length) 1 false) ?_
 refine rvP C (.pv (.lit (.int .u64 ((tShort key (Sl.mk false b.D)).1)))) ?_
 refine rvP C (.pv (.lit (.int .i64 48))) ?_
 refine rvc_un (rexec_prim C (δ := { v := .pv (.lit (.int .u64 (shrI .u64 ((tShort key (Sl.mk false b.D)).1) 48))) }) rfl rfl rfl rfl (by first | decide | assumption | omega) rfl ?_)
 refine rvP C (.pv (.lit (.int .u8 (IntKind.u8.wrap (shrI .u64 ((tShort key (Sl.mk false b.D)).1) 48))))) ?_
 refine rvc_un (rexec_buildSliceF C (eI .u8) [(IntKind.u8.wrap (shrI .u64 ((tShort key (Sl.mk false b.D)).1) 48))] rfl rfl rfl rfl rfl rfl rfl (by decide) rfl ?_)
 refine rvc_un (rexec_append C rfl rfl rfl rfl rfl rfl rfl rfl (fun _ h => by cases h) rfl (en := (eI .u8)) (D0 := [(IntKind.u8.wrap (shrI .u64 ((tShort key (Sl.mk false b.D)).1) 56))]) (D := [(IntKind.u8.wrap (shrI .u64 ((tShort key (Sl.mk false b.D)).1) 48))]) rfl rfl rfl rfl (by first | omega | (simp <;> omega)) (by decide) (nn := ([(IntKind.u8.wrap (shrI .u64 ((tShort key (Sl.mk false b.D)).1) 56))] ++ [(IntKind.u8.wrap (shrI .u64 ((tShort key (Sl.mk false b.D)).1) 48))]).length) (by simp) ?_)
 refine rvP C (.sl 26 0 (([(IntKind.u8.wrap (shrI .u64 ((tShort key (Sl.mk false b.D)).1) 56))] ++ [(IntKind.u8.wrap (shrI .u64 ((tShort key (Sl.mk false b.D)).1) 48))]).length) 1 false) ?_
 refine rvc_nil ?_
 refine Awp.regionP C ?_
 refine rvP C (.pv (.lit (.int .i64 48))) ?_
 refine rvP C (.pv (.lit (.int .i64 40))) ?_
 refine rvP C (.pv (.lit (.int .i64 40))) ?_
 refine rvc_nil ?_
 refine Arounds.succ ?_
 refine Awp.weakenR (S := [(1, .sl 0 0 b.D.length 1 tt_), (6, .pv (.lit (.int .u64 ((tShort key (Sl.mk false b.D)).1)))), (7, .pv (.lit (.int .i64 ((tShort key (Sl.mk false b.D)).2)))), (8, .sl 70026 0 (([(IntKind.u8.wrap (shrI .u64 ((tShort key (Sl.mk false b.D)).1) 56))] ++ [(IntKind.u8.wrap (shrI .u64 ((tShort key (Sl.mk false b.D)).1) 48))]).length) 1 false), (9, .pv (.lit (.int .i64 40)))]) (H := [(0, .cells (encC (eI .u8) b.D)), (70026, .cells (encC (eI .u8) ([(IntKind.u8.wrap (shrI .u64 ((tShort key (Sl.mk false b.D)).1) 56))] ++ [(IntKind.u8.wrap (shrI .u64 ((tShort key (Sl.mk false b.D)).1) 48))])))]) (U := [0, 70026]) (fun x => bif x == 70026 then 26 else x) (WeakerR.ofLI (I := [0]) (Ks := [0, 70026]) hI ⟨⟨rfl, rfl⟩, ⟨rfl, rfl⟩, ⟨rfl, rfl⟩, ⟨rfl, rfl⟩, ⟨rfl, rfl⟩, trivial⟩ (okH_list rfl rfl rfl (okH_list rfl rfl rfl (okH_nil))) rfl rfl) ?_
 refine Awp.seq ?_
 refine Awp.consP C ?_
 refine rvP C (.pv (.lit (.int .i64 40))) ?_
 refine rvP C (.pv (.lit (.bool true))) ?_
 refine rvc_nil ?_
 refine Awp.condT (b := true) rfl rfl ?_
 refine Awp.skip ?_
 refine Awp.seq ?_
 refine Awp.block ?_
 refine Awp.regionP C ?_
 refine rvP C (.sl 70026 0 (([(IntKind.u8.wrap (shrI .u64 ((tShort key (Sl.mk false b.D)).1) 56))] ++ [(IntKind.u8.wrap (shrI .u64 ((tShort key (Sl.mk false b.D)).1) 48))]).length) 1 false) ?_
 refine rvP C (.pv (.lit (.int .u64 ((tShort key (Sl.mk false b.D)).1)))) ?_
 refine rvP C (.pv (.lit (.int .i64 40))) ?_
 refine rvc_un (rexec_prim C (δ := { v := .pv (.lit (.int .u64 (shrI .u64 ((tShort key (Sl.mk false b.D)).1) 40))) }) rfl rfl rfl rfl (by first | decide | assumption | omega) rfl ?_)
 refine rvP C (.pv (.lit (.int .u8 (IntKind.u8.wrap (shrI .u64 ((tShort key (Sl.mk false b.D)).1) 40))))) ?_
 refine rvc_un (rexec_buildSliceF C (eI .u8) [(IntKind.u8.wrap (shrI .u64 ((tShort key (Sl.mk false b.D)).1) 40))] rfl rfl rfl rfl rfl rfl rfl (by decide) rfl ?_)
 refine rvc_un (rexec_append C rfl rfl rfl rfl rfl rfl rfl rfl (fun _ h => by cases h) rfl (en := (eI .u8)) (D0 := ([(IntKind.u8.wrap (shrI .u64 ((tShort key (Sl.mk false b.D)).1) 56))] ++ [(IntKind.u8.wrap (shrI .u64 ((tShort key (Sl.mk false b.D)).1) 48))])) (D := [(IntKind.u8.wrap (shrI .u64 ((tShort key (Sl.mk false b.D)).1) 40))]) rfl rfl rfl rfl (by first | omega | (simp <;> omega)) (by decide) (nn := (([(IntKind.u8.wrap (shrI .u64 ((tShort key (Sl.mk false b.D)).1) 56))] ++ [(IntKind.u8.wrap (shrI .u64 ((tShort key (Sl.mk false b.D)).1) 48))]) ++ [(IntKind.u8.wrap (shrI .u64 ((tShort key (Sl.mk false b.D)).1) 40))]).length) (by simp) ?_)
 refine rvP C (.sl 26 0 ((([(IntKind.u8.wrap (shrI .u64 ((tShort key (Sl.mk false b.D)).1) 56))] ++ [(IntKind.u8.wrap (shrI .u64 ((tShort key (Sl.mk false b.D)).1) 48))]) ++ [(IntKind.u8.wrap (shrI .u64 ((tShort key (Sl.mk false b.D)).1) 40))]).length) 1 false) ?_
 refine rvc_nil ?_
 refine Awp.regionP C ?_
 refine rvP C (.pv (.lit (.int .i64 40))) ?_
 refine rvP C (.pv (.lit (.int .i64 32))) ?_
 refine rvP C (.pv (.lit (.int .i64 32))) ?_
 refine rvc_nil ?_
 refine Arounds.succ ?_
 refine Awp.weakenR (S := [(1, .sl 0 0 b.D.length 1 tt_), (6, .pv (.lit (.int .u64 ((tShort key (Sl.mk false b.D)).1)))), (7, .pv (.lit (.int .i64 ((tShort key (Sl.mk false b.D)).2)))), (8, .sl 70026 0 ((([(IntKind.u8.wrap (shrI .u64 ((tShort key (Sl.mk false b.D)).1) 56))] ++ [(IntKind.u8.wrap (shrI .u64 ((tShort key (Sl.mk false b.D)).1) 48))]) ++ [(IntKind.u8.wrap (shrI .u64 ((tShort key (Sl.mk false b.D)).1) 40))]).length) 1 false), (9, .pv (.lit (.int .i64 32)))]) (H := [(0, .cells (encC (eI .u8) b.D)), (70026, .cells (encC (eI .u8) (([(IntKind.u8.wrap (shrI .u64 ((tShort key (Sl.mk false b.D)).1) 56))] ++ [(IntKind.u8.wrap (shrI .u64 ((tShort key (Sl.mk false b.D)).1) 48))]) ++ [(IntKind.u8.wrap (shrI .u64 ((tShort key (Sl.mk false b.D)).1) 40))])))]) (U := [0, 70026]) (fun x => bif x == 70026 then 26 else x) (WeakerR.ofLI (I := [0]) (Ks := [0, 70026]) hI ⟨⟨rfl, rfl⟩, ⟨rfl, rfl⟩, ⟨rfl, rfl⟩, ⟨rfl, rfl⟩, ⟨rfl, rfl⟩, trivial⟩ (okH_list rfl rfl rfl (okH_list rfl rfl rfl (okH_nil))) rfl rfl) ?_
 refine Awp.seq ?_
 refine Awp.consP C ?_
 refine rvP C (.pv (.lit (.int .i64 32))) ?_
 refine rvP C (.pv (.lit (.bool true))) ?_
 refine rvc_nil ?_
 refine Awp.condT (b := true) rfl rfl ?_
 refine Awp.skip ?_
 refine Awp.seq ?_
 refine Awp.block ?_
 refine Awp.regionP C ?_
 refine rvP C (.sl 70026 0 ((([(IntKind.u8.wrap (shrI .u64 ((tShort key (Sl.mk false b.D)).1) 56))] ++ [(IntKind.u8.wrap (shrI .u64 ((tShort key (Sl.mk false b.D)).1) 48))]) ++ [(IntKind.u8.wrap (shrI .u64 ((tShort key (Sl.mk false b.D)).1) 40))]).length) 1 false) ?_
 refine rvP C (.pv (.lit (.int .u64 ((tShort key (Sl.mk false b.D)).1)))) ?_
 refine rvP C (.pv (.lit (.int .i64 32))) ?_
 refine rvc_un (rexec_prim C (δ := { v := .pv (.lit (.int .u64 (shrI .u64 ((tShort key (Sl.mk false b.D)).1) 32))) }) rfl rfl rfl rfl (by first | decide | assumption | omega) rfl ?_)
 refine rvP C (.pv (.lit (.int .u8 (IntKind.u8.wrap (shrI .u64 ((tShort key (Sl.mk false b.D)).1) 32))))) ?_
 refine rvc_un (rexec_buildSliceF C (eI .u8) [(IntKind.u8.wrap (shrI .u64 ((tShort key (Sl.mk false b.D)).1) 32))] rfl rfl rfl rfl rfl rfl rfl (by decide) rfl ?_)
 refine rvc_un (rexec_append C rfl rfl rfl rfl rfl rfl rfl rfl (fun _ h => by cases h) rfl (en := (eI .u8)) (D0 := (([(IntKind.u8.wrap (shrI .u64 ((tShort key (Sl.mk false b.D)).1) 56))] ++ [(IntKind.u8.wrap (shrI .u64 ((tShort key (Sl.mk false b.D)).1) 48))]) ++ [(IntKind.u8.wrap (shrI .u64 ((tShort key (Sl.mk false b.D)).1) 40))])) (D := [(IntKind.u8.wrap (shrI .u64 ((tShort key (Sl.mk false b.D)).1) 32))]) rfl rfl rfl rfl (by first | omega | (simp <;> omega)) (by decide) (nn := ((([(IntKind.u8.wrap (shrI .u64 ((tShort key (Sl.mk false b.D)).1) 56))] ++ [(IntKind.u8.wrap (shrI .u64 ((tShort key (Sl.mk false b.D)).1) 48))]) ++ [(IntKind.u8.wrap (shrI .u64 ((tShort key (Sl.mk false b.D)).1) 40))]) ++ [(IntKind.u8.wrap (shrI .u64 ((tShort key (Sl.mk false b.D)).1) 32))]).length) (by simp) ?_)
 refine rvP C (.sl 26 0 (((([(IntKind.u8.wrap (shrI .u64 ((tShort key (Sl.mk false b.D)).1) 56))] ++ [(IntKind.u8.wrap (shrI .u64 ((tShort key (Sl.mk false b.D)).1) 48))]) ++ [(IntKind.u8.wrap (shrI .u64 ((tShort key (Sl.mk false b.D)).1) 40))]) ++ [(IntKind.u8.wrap (shrI .u64 ((tShort key (Sl.mk false b.D)).1) 32))]).length) 1 false) ?_
 refine rvc_nil ?_
 refine Awp.regionP C ?_
 refine rvP C (.pv (.lit (.int .i64 32))) ?_
 refine rvP C (.pv (.lit (.int .i64 24))) ?_
 refine rvP C (.pv (.lit (.int .i64 24))) ?_
 refine rvc_nil ?_
 refine Arounds.succ ?_
 refine Awp.weakenR (S := [(1, .sl 0 0 b.D.length 1 tt_), (6, .pv (.lit (.int .u64 ((tShort key (Sl.mk false b.D)).1)))), (7, .pv (.lit (.int .i64 ((tShort key (Sl.mk false b.D)).2)))), (8, .sl 70026 0 (((([(IntKind.u8.wrap (shrI .u64 ((tShort key (Sl.mk false b.D)).1) 56))] ++ [(IntKind.u8.wrap (shrI .u64 ((tShort key (Sl.mk false b.D)).1) 48))]) ++ [(IntKind.u8.wrap (shrI .u64 ((tShort key (Sl.mk false b.D)).1) 40))]) ++ [(IntKind.u8.wrap (shrI .u64 ((tShort key (Sl.mk false b.D)).1) 32))]).length) 1 false), (9, .pv (.lit (.int .i64 24)))]) (H := [(0, .cells (encC (eI .u8) b.D)), (70026, .cells (encC (eI .u8) ((([(IntKind.u8.wrap (shrI .u64 ((tShort key (Sl.mk false b.D)).1) 56))] ++ [(IntKind.u8.wrap (shrI .u64 ((tShort key (Sl.mk false b.D)).1) 48))]) ++ [(IntKind.u8.wrap (shrI .u64 ((tShort key (Sl.mk false b.D)).1) 40))]) ++ [(IntKind.u8.wrap (shrI .u64 ((tShort key (Sl.mk false b.D)).1) 32))])))]) (U := [0, 70026]) (fun x => bif x == 70026 then 26 else x) (WeakerR.ofLI (I := [0]) (Ks := [0, 70026]) hI ⟨⟨rfl, rfl⟩, ⟨rfl, rfl⟩, ⟨rfl, rfl⟩, ⟨rfl, rfl⟩, ⟨rfl, rfl⟩, trivial⟩ (okH_list rfl rfl rfl (okH_list rfl rfl rfl (okH_nil))) rfl rfl) ?_
 refine Awp.seq ?_
 refine Awp.consP C ?_
 refine rvP C (.pv (.lit (.int .i64 24))) ?_
 refine rvP C (.pv (.lit (.bool true))) ?_
 refine rvc_nil ?_
 refine Awp.condT (b := true) rfl rfl ?_
 refine Awp.skip ?_
 refine Awp.seq ?_
 refine Awp.block ?_
 refine Awp.regionP C ?_
 refine rvP C (.sl 70026 0 (((([(IntKind.u8.wrap (shrI .u64 ((tShort key (Sl.mk false b.D)).1) 56))] ++ [(IntKind.u8.wrap (shrI .u64 ((tShort key (Sl.mk false b.D)).1) 48))]) ++ [(IntKind.u8.wrap (shrI .u64 ((tShort key (Sl.mk false b.D)).1) 40))]) ++ [(IntKind.u8.wrap (shrI .u64 ((tShort key (Sl.mk false b.D)).1) 32))]).length) 1 false) ?_
 refine rvP C (.pv (.lit (.int .u64 ((tShort key (Sl.mk false b.D)).1)))) ?_
 refine rvP C (.pv (.lit (.int .i64 24))) ?_
 refine rvc_un (rexec_prim C (δ := { v := .pv (.lit (.int .u64 (shrI .u64 ((tShort key (Sl.mk false b.D)).1) 24))) }) rfl rfl rfl rfl (by first | decide | assumption | omega) rfl ?_)
 refine rvP C (.pv (.lit (.int .u8 (IntKind.u8.wrap (shrI .u64 ((tShort key (Sl.mk false b.D)).1) 24))))) ?_
 refine rvc_un (rexec_buildSliceF C (eI .u8) [(IntKind.u8.wrap (shrI .u64 ((tShort key (Sl.mk false b.D)).1) 24))] rfl rfl rfl rfl rfl rfl rfl (by decide) rfl ?_)
 refine rvc_un (rexec_append C rfl rfl rfl rfl rfl rfl rfl rfl (fun _ h => by cases h) rfl (en := (eI .u8)) (D0 := ((([(IntKind.u8.wrap (shrI .u64 ((tShort key (Sl.mk false b.D)).1) 56))] ++ [(IntKind.u8.wrap (shrI .u64 ((tShort key (Sl.mk false b.D)).1) 48))]) ++ [(IntKind.u8.wrap (shrI .u64 ((tShort key (Sl.mk false b.D)).1) 40))]) ++ [(IntKind.u8.wrap (shrI .u64 ((tShort key (Sl.mk false b.D)).1) 32))])) (D := [(IntKind.u8.wrap (shrI .u64 ((tShort key (Sl.mk false b.D)).1) 24))]) rfl rfl rfl rfl (by first | omega | (simp <;> omega)) (by decide) (nn := (((([(IntKind.u8.wrap (shrI .u64 ((tShort key (Sl.mk false b.D)).1) 56))] ++ [(IntKind.u8.wrap (shrI .u64 ((tShort key (Sl.mk false b.D)).1) 48))]) ++ [(IntKind.u8.wrap (shrI .u64 ((tShort key (Sl.mk false b.D)).1) 40))]) ++ [(IntKind.u8.wrap (shrI .u64 ((tShort key (Sl.mk false b.D)).1) 32))]) ++ [(IntKind.u8.wrap (shrI .u64 ((tShort key (Sl.mk false b.D)).1) 24))]).length) (by simp) ?_)
 refine rvP C (.sl 26 0 ((((([(IntKind.u8.wrap (shrI .u64 ((tShort key (Sl.mk false b.D)).1) 56))] ++ [(IntKind.u8.wrap (shrI .u64 ((tShort key (Sl.mk false b.D)).1) 48))]) ++ [(IntKind.u8.wrap (shrI .u64 ((tShort key (Sl.mk false b.D)).1) 40))]) ++ [(IntKind.u8.wrap (shrI .u64 ((tShort key (Sl.mk false b.D)).1) 32))]) ++ [(IntKind.u8.wrap (shrI .u64 ((tShort key (Sl.mk false b.D)).1) 24))]).length) 1 false) ?_
 refine rvc_nil ?_
 refine Awp.regionP C ?_
 refine rvP C (.pv (.lit (.int .i64 24))) ?_
 refine rvP C (.pv (.lit (.int .i64 16))) ?_
 refine rvP C (.pv (.lit (.int .i64 16))) ?_
 refine rvc_nil ?_
 refine Arounds.succ ?_
 refine Awp.weakenR (S := [(1, .sl 0 0 b.D.length 1 tt_), (6, .pv (.lit (.int .u64 ((tShort key (Sl.mk false b.D)).1)))), (7, .pv (.lit (.int .i64 ((tShort key (Sl.mk false b.D)).2)))), (8, .sl 70026 0 ((((([(IntKind.u8.wrap (shrI .u64 ((tShort key (Sl.mk false b.D)).1) 56))] ++ [(IntKind.u8.wrap (shrI .u64 ((tShort key (Sl.mk false b.D)).1) 48))]) ++ [(IntKind.u8.wrap (shrI .u64 ((tShort key (Sl.mk false b.D)).1) 40))]) ++ [(IntKind.u8.wrap (shrI .u64 ((tShort key (Sl.mk false b.D)).1) 32))]) ++ [(IntKind.u8.wrap (shrI .u64 ((tShort key (Sl.mk false b.D)).1) 24))]).length) 1 false), (9, .pv (.lit (.int .i64 16)))]) (H := [(0, .cells (encC (eI .u8) b.D)), (70026, .cells (encC (eI .u8) (((([(IntKind.u8.wrap (shrI .u64 ((tShort key (Sl.mk false b.D)).1) 56))] ++ [(IntKind.u8.wrap (shrI .u64 ((tShort key (Sl.mk false b.D)).1) 48))]) ++ [(IntKind.u8.wrap (shrI .u64 ((tShort key (Sl.mk false b.D)).1) 40))]) ++ [(IntKind.u8.wrap (shrI .u64 ((tShort key (Sl.mk false b.D)).1) 32))]) ++ [(IntKind.u8.wrap (shrI .u64 ((tShort key (Sl.mk false b.D)).1) 24))])))]) (U := [0, 70026]) (fun x => bif x == 70026 then 26 else x) (WeakerR.ofLI (I := [0]) (Ks := [0, 70026]) hI ⟨⟨rfl, rfl⟩, ⟨rfl, rfl⟩, ⟨rfl, rfl⟩, ⟨rfl, rfl⟩, ⟨rfl, rfl⟩, trivial⟩ (okH_list rfl rfl rfl (okH_list rfl rfl rfl (okH_nil))) rfl rfl) ?_
 refine Awp.seq ?_
 refine Awp.consP C ?_
 refine rvP C (.pv (.lit (.int .i64 16))) ?_
 refine rvP C (.pv (.lit (.bool true))) ?_
 refine rvc_nil ?_
 refine Awp.condT (b := true) rfl rfl ?_
 refine Awp.skip ?_
 refine Awp.seq ?_
 refine Awp.block ?_
 refine Awp.regionP C ?_
 refine rvP C (.sl 70026 0 ((((([(IntKind.u8.wrap (shrI .u64 ((tShort key (Sl.mk false b.D)).1) 56))] ++ [(IntKind.u8.wrap (shrI .u64 ((tShort key (Sl.mk false b.D)).1) 48))]) ++ [(IntKind.u8.wrap (shrI .u64 ((tShort key (Sl.mk false b.D)).1) 40))]) ++ [(IntKind.u8.wrap (shrI .u64 ((tShort key (Sl.mk false b.D)).1) 32))]) ++ [(IntKind.u8.wrap (shrI .u64 ((tShort key (Sl.mk false b.D)).1) 24))]).length) 1 false) ?_
 refine rvP C (.pv (.lit (.int .u64 ((tShort key (Sl.mk false b.D)).1)))) ?_
 refine rvP C (.pv (.lit (.int .i64 16))) ?_
 refine rvc_un (rexec_prim C (δ := { v := .pv (.lit (.int .u64 (shrI .u64 ((tShort key (Sl.mk false b.D)).1) 16))) }) rfl rfl rfl rfl (by first | decide | assumption | omega) rfl ?_)
 refine rvP C (.pv (.lit (.int .u8 (IntKind.u8.wrap (shrI .u64 ((tShort key (Sl.mk false b.D)).1) 16))))) ?_
 refine rvc_un (rexec_buildSliceF C (eI .u8) [(IntKind.u8.wrap (shrI .u64 ((tShort key (Sl.mk false b.D)).1) 16))] rfl rfl rfl rfl rfl rfl rfl (by decide) rfl ?_)
 refine rvc_un (rexec_append C rfl rfl rfl rfl rfl rfl rfl rfl (fun _ h => by cases h) rfl (en := (eI .u8)) (D0 := (((([(IntKind.u8.wrap (shrI .u64 ((tShort key (Sl.mk false b.D)).1) 56))] ++ [(IntKind.u8.wrap (shrI .u64 ((tShort key (Sl.mk false b.D)).1) 48))]) ++ [(IntKind.u8.wrap (shrI .u64 ((tShort key (Sl.mk false b.D)).1) 40))]) ++ [(IntKind.u8.wrap (shrI .u64 ((tShort key (Sl.mk false b.D)).1) 32))]) ++ [(IntKind.u8.wrap (shrI .u64 ((tShort key (Sl.mk false b.D)).1) 24))])) (D := [(IntKind.u8.wrap (shrI .u64 ((tShort key (Sl.mk false b.D)).1) 16))]) rfl rfl rfl rfl (by first | omega | (simp <;> omega)) (by decide) (nn := ((((([(IntKind.u8.wrap (shrI .u64 ((tShort key (Sl.mk false b.D)).1) 56))] ++ [(IntKind.u8.wrap (shrI .u64 ((tShort key (Sl.mk false b.D)).1) 48))]) ++ [(IntKind.u8.wrap (shrI .u64 ((tShort key (Sl.mk false b.D)).1) 40))]) ++ [(IntKind.u8.wrap (shrI .u64 ((tShort key (Sl.mk false b.D)).1) 32))]) ++ [(IntKind.u8.wrap (shrI .u64 ((tShort key (Sl.mk false b.D)).1) 24))]) ++ [(IntKind.u8.wrap (shrI .u64 ((tShort key (Sl.mk false b.D)).1) 16))]).length) (by simp) ?_)
 refine rvP C (.sl 26 0 (((((([(IntKind.u8.wrap (shrI .u64 ((tShort key (Sl.mk false b.D)).1) 56))] ++ [(IntKind.u8.wrap (shrI .u64 ((tShort key (Sl.mk false b.D)).1) 48))]) ++ [(IntKind.u8.wrap (shrI .u64 ((tShort key (Sl.mk false b.D)).1) 40))]) ++ [(IntKind.u8.wrap (shrI .u64 ((tShort key (Sl.mk false b.D)).1) 32))]) ++ [(IntKind.u8.wrap (shrI .u64 ((tShort key (Sl.mk false b.D)).1) 24))]) ++ [(IntKind.u8.wrap (shrI .u64 ((tShort key (Sl.mk false b.D)).1) 16))]).length) 1 false) ?_
 refine rvc_nil ?_
 refine Awp.regionP C ?_
 refine rvP C (.pv (.lit (.int .i64 16))) ?_
 refine rvP C (.pv (.lit (.int .i64 8))) ?_
 refine rvP C (.pv (.lit (.int .i64 8))) ?_
 refine rvc_nil ?_
 refine Arounds.succ ?_
 refine Awp.weakenR (S := [(1, .sl 0 0 b.D.length 1 tt_), (6, .pv (.lit (.int .u64 ((tShort key (Sl.mk false b.D)).1)))), (7, .pv (.lit (.int .i64 ((tShort key (Sl.mk false b.D)).2)))), (8, .sl 70026 0 (((((([(IntKind.u8.wrap (shrI .u64 ((tShort key (Sl.mk false b.D)).1) 56))] ++ [(IntKind.u8.wrap (shrI .u64 ((tShort key (Sl.mk false b.D)).1) 48))]) ++ [(IntKind.u8.wrap (shrI .u64 ((tShort key (Sl.mk false b.D)).1) 40))]) ++ [(IntKind.u8.wrap (shrI .u64 ((tShort key (Sl.mk false b.D)).1) 32))]) ++ [(IntKind.u8.wrap (shrI .u64 ((tShort key (Sl.mk false b.D)).1) 24))]) ++ [(IntKind.u8.wrap (shrI .u64 ((tShort key (Sl.mk false b.D)).1) 16))]).length) 1 false), (9, .pv (.lit (.int .i64 8)))]) (H := [(0, .cells (encC (eI .u8) b.D)), (70026, .cells (encC (eI .u8) ((((([(IntKind.u8.wrap (shrI .u64 ((tShort key (Sl.mk false b.D)).1) 56))] ++ [(IntKind.u8.wrap (shrI .u64 ((tShort key (Sl.mk false b.D)).1) 48))]) ++ [(IntKind.u8.wrap (shrI .u64 ((tShort key (Sl.mk false b.D)).1) 40))]) ++ [(IntKind.u8.wrap (shrI .u64 ((tShort key (Sl.mk false b.D)).1) 32))]) ++ [(IntKind.u8.wrap (shrI .u64 ((tShort key (Sl.mk false b.D)).1) 24))]) ++ [(IntKind.u8.wrap (shrI .u64 ((tShort key (Sl.mk false b.D)).1) 16))])))]) (U := [0, 70026]) (fun x => bif x == 70026 then 26 else x) (WeakerR.ofLI (I := [0]) (Ks := [0, 70026]) hI ⟨⟨rfl, rfl⟩, ⟨rfl, rfl⟩, ⟨rfl, rfl⟩, ⟨rfl, rfl⟩, ⟨rfl, rfl⟩, trivial⟩ (okH_list rfl rfl rfl (okH_list rfl rfl rfl (okH_nil))) rfl rfl) ?_
 refine Awp.seq ?_
 refine Awp.consP C ?_
 refine rvP C (.pv (.lit (.int .i64 8))) ?_
 refine rvP C (.pv (.lit (.bool true))) ?_
 refine rvc_nil ?_
 refine Awp.condT (b := true) rfl rfl ?_
 refine Awp.skip ?_
 refine Awp.seq ?_
 refine Awp.block ?_
 refine Awp.regionP C ?_
 refine rvP C (.sl 70026 0 (((((([(IntKind.u8.wrap (shrI .u64 ((tShort key (Sl.mk false b.D)).1) 56))] ++ [(IntKind.u8.wrap (shrI .u64 ((tShort key (Sl.mk false b.D)).1) 48))]) ++ [(IntKind.u8.wrap (shrI .u64 ((tShort key (Sl.mk false b.D)).1) 40))]) ++ [(IntKind.u8.wrap (shrI .u64 ((tShort key (Sl.mk false b.D)).1) 32))]) ++ [(IntKind.u8.wrap (shrI .u64 ((tShort key (Sl.mk false b.D)).1) 24))]) ++ [(IntKind.u8.wrap (shrI .u64 ((tShort key (Sl.mk false b.D)).1) 16))]).length) 1 false) ?_
 refine rvP C (.pv (.lit (.int .u64 ((tShort key (Sl.mk false b.D)).1)))) ?_
 refine rvP C (.pv (.lit (.int .i64 8))) ?_
 refine rvc_un (rexec_prim C (δ := { v := .pv (.lit (.int .u64 (shrI .u64 ((tShort key (Sl.mk false b.D)).1) 8))) }) rfl rfl rfl rfl (by first | decide | assumption | omega) rfl ?_)
 refine rvP C (.pv (.lit (.int .u8 (IntKind.u8.wrap (shrI .u64 ((tShort key (Sl.mk false b.D)).1) 8))))) ?_
 refine rvc_un (rexec_buildSliceF C (eI .u8) [(IntKind.u8.wrap (shrI .u64 ((tShort key (Sl.mk false b.D)).1) 8))] rfl rfl rfl rfl rfl rfl rfl (by decide) rfl ?_)
 refine rvc_un (rexec_append C rfl rfl rfl rfl rfl rfl rfl rfl (fun _ h => by cases h) rfl (en := (eI .u8)) (D0 := ((((([(IntKind.u8.wrap (shrI .u64 ((tShort key (Sl.mk false b.D)).1) 56))] ++ [(IntKind.u8.wrap (shrI .u64 ((tShort key (Sl.mk false b.D)).1) 48))]) ++ [(IntKind.u8.wrap (shrI .u64 ((tShort key (Sl.mk false b.D)).1) 40))]) ++ [(IntKind.u8.wrap (shrI .u64 ((tShort key (Sl.mk false b.D)).1) 32))]) ++ [(IntKind.u8.wrap (shrI .u64 ((tShort key (Sl.mk false b.D)).1) 24))]) ++ [(IntKind.u8.wrap (shrI .u64 ((tShort key (Sl.mk false b.D)).1) 16))])) (D := [(IntKind.u8.wrap (shrI .u64 ((tShort key (Sl.mk false b.D)).1) 8))]) rfl rfl rfl rfl (by first | omega | (simp <;> omega)) (by decide) (nn := (((((([(IntKind.u8.wrap (shrI .u64 ((tShort key (Sl.mk false b.D)).1) 56))] ++ [(IntKind.u8.wrap (shrI .u64 ((tShort key (Sl.mk false b.D)).1) 48))]) ++ [(IntKind.u8.wrap (shrI .u64 ((tShort key (Sl.mk false b.D)).1) 40))]) ++ [(IntKind.u8.wrap (shrI .u64 ((tShort key (Sl.mk false b.D)).1) 32))]) ++ [(IntKind.u8.wrap (shrI .u64 ((tShort key (Sl.mk false b.D)).1) 24))]) ++ [(IntKind.u8.wrap (shrI .u64 ((tShort key (Sl.mk false b.D)).1) 16))]) ++ [(IntKind.u8.wrap (shrI .u64 ((tShort key (Sl.mk false b.D)).1) 8))]).length) (by simp) ?_)
 refine rvP C (.sl 26 0 ((((((([(IntKind.u8.wrap (shrI .u64 ((tShort key (Sl.mk false b.D)).1) 56))] ++ [(IntKind.u8.wrap (shrI .u64 ((tShort key (Sl.mk false b.D)).1) 48))]) ++ [(IntKind.u8.wrap (shrI .u64 ((tShort key (Sl.mk false b.D)).1) 40))]) ++ [(IntKind.u8.wrap (shrI .u64 ((tShort key (Sl.mk false b.D)).1) 32))]) ++ [(IntKind.u8.wrap (shrI .u64 ((tShort key (Sl.mk false b.D)).1) 24))]) ++ [(IntKind.u8.wrap (shrI .u64 ((tShort key (Sl.mk false b.D)).1) 16))]) ++ [(IntKind.u8.wrap (shrI .u64 ((tShort key (Sl.mk false b.D)).1) 8))]).length) 1 false) ?_
 refine rvc_nil ?_
 refine Awp.regionP C ?_
 refine rvP C (.pv (.lit (.int .i64 8))) ?_
 refine rvP C (.pv (.lit (.int .i64 0))) ?_
 refine rvP C (.pv (.lit (.int .i64 0))) ?_
 refine rvc_nil ?_
 refine Arounds.succ ?_
 refine Awp.weakenR (S := [(1, .sl 0 0 b.D.length 1 tt_), (6, .pv (.lit (.int .u64 ((tShort key (Sl.mk false b.D)).1)))), (7, .pv (.lit (.int .i64 ((tShort key (Sl.mk false b.D)).2)))), (8, .sl 70026 0 ((((((([(IntKind.u8.wrap (shrI .u64 ((tShort key (Sl.mk false b.D)).1) 56))] ++ [(IntKind.u8.wrap (shrI .u64 ((tShort key (Sl.mk false b.D)).1) 48))]) ++ [(IntKind.u8.wrap (shrI .u64 ((tShort key (Sl.mk false b.D)).1) 40))]) ++ [(IntKind.u8.wrap (shrI .u64 ((tShort key (Sl.mk false b.D)).1) 32))]) ++ [(IntKind.u8.wrap (shrI .u64 ((tShort key (Sl.mk false b.D)).1) 24))]) ++ [(IntKind.u8.wrap (shrI .u64 ((tShort key (Sl.mk false b.D)).1) 16))]) ++ [(IntKind.u8.wrap (shrI .u64 ((tShort key (Sl.mk false b.D)).1) 8))]).length) 1 false), (9, .pv (.lit (.int .i64 0)))]) (H := [(0, .cells (encC (eI .u8) b.D)), (70026, .cells (encC (eI .u8) (((((([(IntKind.u8.wrap (shrI .u64 ((tShort key (Sl.mk false b.D)).1) 56))] ++ [(IntKind.u8.wrap (shrI .u64 ((tShort key (Sl.mk false b.D)).1) 48))]) ++ [(IntKind.u8.wrap (shrI .u64 ((tShort key (Sl.mk false b.D)).1) 40))]) ++ [(IntKind.u8.wrap (shrI .u64 ((tShort key (Sl.mk false b.D)).1) 32))]) ++ [(IntKind.u8.wrap (shrI .u64 ((tShort key (Sl.mk false b.D)).1) 24))]) ++ [(IntKind.u8.wrap (shrI .u64 ((tShort key (Sl.mk false b.D)).1) 16))]) ++ [(IntKind.u8.wrap (shrI .u64 ((tShort key (Sl.mk false b.D)).1) 8))])))]) (U := [0, 70026]) (fun x => bif x == 70026 then 26 else x) (WeakerR.ofLI (I := [0]) (Ks := [0, 70026]) hI ⟨⟨rfl, rfl⟩, ⟨rfl, rfl⟩, ⟨rfl, rfl⟩, ⟨rfl, rfl⟩, ⟨rfl, rfl⟩, trivial⟩ (okH_list rfl rfl rfl (okH_list rfl rfl rfl (okH_nil))) rfl rfl) ?_
 refine Awp.seq ?_
 refine Awp.consP C ?_
 refine rvP C (.pv (.lit (.int .i64 0))) ?_
 refine rvP C (.pv (.lit (.bool true))) ?_
 refine rvc_nil ?_
 refine Awp.condT (b := true) rfl rfl ?_
 refine Awp.skip ?_
 refine Awp.seq ?_
 refine Awp.block ?_
 refine Awp.regionP C ?_
 refine rvP C (.sl 70026 0 ((((((([(IntKind.u8.wrap (shrI .u64 ((tShort key (Sl.mk false b.D)).1) 56))] ++ [(IntKind.u8.wrap (shrI .u64 ((tShort key (Sl.mk false b.D)).1) 48))]) ++ [(IntKind.u8.wrap (shrI .u64 ((tShort key (Sl.mk false b.D)).1) 40))]) ++ [(IntKind.u8.wrap (shrI .u64 ((tShort key (Sl.mk false b.D)).1) 32))]) ++ [(IntKind.u8.wrap (shrI .u64 ((tShort key (Sl.mk false b.D)).1) 24))]) ++ [(IntKind.u8.wrap (shrI .u64 ((tShort key (Sl.mk false b.D)).1) 16))]) ++ [(IntKind.u8.wrap (shrI .u64 ((tShort key (Sl.mk false b.D)).1) 8))]).length) 1 false) ?_
 refine rvP C (.pv (.lit (.int .u64 ((tShort key (Sl.mk false b.D)).1)))) ?_
 refine rvP C (.pv (.lit (.int .i64 0))) ?_
 refine rvc_un (rexec_prim C (δ := { v := .pv (.lit (.int .u64 (shrI .u64 ((tShort key (Sl.mk false b.D)).1) 0))) }) rfl rfl rfl rfl (by first | decide | assumption | omega) rfl ?_)
 refine rvP C (.pv (.lit (.int .u8 (IntKind.u8.wrap (shrI .u64 ((tShort key (Sl.mk false b.D)).1) 0))))) ?_
 refine rvc_un (rexec_buildSliceF C (eI .u8) [(IntKind.u8.wrap (shrI .u64 ((tShort key (Sl.mk false b.D)).1) 0))] rfl rfl rfl rfl rfl rfl rfl (by decide) rfl ?_)
 refine rvc_un (rexec_append C rfl rfl rfl rfl rfl rfl rfl rfl (fun _ h => by cases h) rfl (en := (eI .u8)) (D0 := (((((([(IntKind.u8.wrap (shrI .u64 ((tShort key (Sl.mk false b.D)).1) 56))] ++ [(IntKind.u8.wrap (shrI .u64 ((tShort key (Sl.mk false b.D)).1) 48))]) ++ [(IntKind.u8.wrap (shrI .u64 ((tShort key (Sl.mk false b.D)).1) 40))]) ++ [(IntKind.u8.wrap (shrI .u64 ((tShort key (Sl.mk false b.D)).1) 32))]) ++ [(IntKind.u8.wrap (shrI .u64 ((tShort key (Sl.mk false b.D)).1) 24))]) ++ [(IntKind.u8.wrap (shrI .u64 ((tShort key (Sl.mk false b.D)).1) 16))]) ++ [(IntKind.u8.wrap (shrI .u64 ((tShort key (Sl.mk false b.D)).1) 8))])) (D := [(IntKind.u8.wrap (shrI .u64 ((tShort key (Sl.mk false b.D)).1) 0))]) rfl rfl rfl rfl (by first | omega | (simp <;> omega)) (by decide) (nn := ((((((([(IntKind.u8.wrap (shrI .u64 ((tShort key (Sl.mk false b.D)).1) 56))] ++ [(IntKind.u8.wrap (shrI .u64 ((tShort key (Sl.mk false b.D)).1) 48))]) ++ [(IntKind.u8.wrap (shrI .u64 ((tShort key (Sl.mk false b.D)).1) 40))]) ++ [(IntKind.u8.wrap (shrI .u64 ((tShort key (Sl.mk false b.D)).1) 32))]) ++ [(IntKind.u8.wrap (shrI .u64 ((tShort key (Sl.mk false b.D)).1) 24))]) ++ [(IntKind.u8.wrap (shrI .u64 ((tShort key (Sl.mk false b.D)).1) 16))]) ++ [(IntKind.u8.wrap (shrI .u64 ((tShort key (Sl.mk false b.D)).1) 8))]) ++ [(IntKind.u8.wrap (shrI .u64 ((tShort key (Sl.mk false b.D)).1) 0))]).length) (by simp) ?_)
 refine rvP C (.sl 26 0 (((((((([(IntKind.u8.wrap (shrI .u64 ((tShort key (Sl.mk false b.D)).1) 56))] ++ [(IntKind.u8.wrap (shrI .u64 ((tShort key (Sl.mk false b.D)).1) 48))]) ++ [(IntKind.u8.wrap (shrI .u64 ((tShort key (Sl.mk false b.D)).1) 40))]) ++ [(IntKind.u8.wrap (shrI .u64 ((tShort key (Sl.mk false b.D)).1) 32))]) ++ [(IntKind.u8.wrap (shrI .u64 ((tShort key (Sl.mk false b.D)).1) 24))]) ++ [(IntKind.u8.wrap (shrI .u64 ((tShort key (Sl.mk false b.D)).1) 16))]) ++ [(IntKind.u8.wrap (shrI .u64 ((tShort key (Sl.mk false b.D)).1) 8))]) ++ [(IntKind.u8.wrap (shrI .u64 ((tShort key (Sl.mk false b.D)).1) 0))]).length) 1 false) ?_
 refine rvc_nil ?_
 refine Awp.regionP C ?_
 refine rvP C (.pv (.lit (.int .i64 0))) ?_
 refine rvP C (.pv (.lit (.int .i64 (-8)))) ?_
 refine rvP C (.pv (.lit (.int .i64 (-8)))) ?_
 refine rvc_nil ?_
 refine Arounds.succ ?_
 refine Awp.weakenR (S := [(1, .sl 0 0 b.D.length 1 tt_), (6, .pv (.lit (.int .u64 ((tShort key (Sl.mk false b.D)).1)))), (7, .pv (.lit (.int .i64 ((tShort key (Sl.mk false b.D)).2)))), (8, .sl 70026 0 (((((((([(IntKind.u8.wrap (shrI .u64 ((tShort key (Sl.mk false b.D)).1) 56))] ++ [(IntKind.u8.wrap (shrI .u64 ((tShort key (Sl.mk false b.D)).1) 48))]) ++ [(IntKind.u8.wrap (shrI .u64 ((tShort key (Sl.mk false b.D)).1) 40))]) ++ [(IntKind.u8.wrap (shrI .u64 ((tShort key (Sl.mk false b.D)).1) 32))]) ++ [(IntKind.u8.wrap (shrI .u64 ((tShort key (Sl.mk false b.D)).1) 24))]) ++ [(IntKind.u8.wrap (shrI .u64 ((tShort key (Sl.mk false b.D)).1) 16))]) ++ [(IntKind.u8.wrap (shrI .u64 ((tShort key (Sl.mk false b.D)).1) 8))]) ++ [(IntKind.u8.wrap (shrI .u64 ((tShort key (Sl.mk false b.D)).1) 0))]).length) 1 false), (9, .pv (.lit (.int .i64 (-8))))]) (H := [(0, .cells (encC (eI .u8) b.D)), (70026, .cells (encC (eI .u8) ((((((([(IntKind.u8.wrap (shrI .u64 ((tShort key (Sl.mk false b.D)).1) 56))] ++ [(IntKind.u8.wrap (shrI .u64 ((tShort key (Sl.mk false b.D)).1) 48))]) ++ [(IntKind.u8.wrap (shrI .u64 ((tShort key (Sl.mk false b.D)).1) 40))]) ++ [(IntKind.u8.wrap (shrI .u64 ((tShort key (Sl.mk false b.D)).1) 32))]) ++ [(IntKind.u8.wrap (shrI .u64 ((tShort key (Sl.mk false b.D)).1) 24))]) ++ [(IntKind.u8.wrap (shrI .u64 ((tShort key (Sl.mk false b.D)).1) 16))]) ++ [(IntKind.u8.wrap (shrI .u64 ((tShort key (Sl.mk false b.D)).1) 8))]) ++ [(IntKind.u8.wrap (shrI .u64 ((tShort key (Sl.mk false b.D)).1) 0))])))]) (U := [0, 70026]) (fun x => bif x == 70026 then 26 else x) (WeakerR.ofLI (I := [0]) (Ks := [0, 70026]) hI ⟨⟨rfl, rfl⟩, ⟨rfl, rfl⟩, ⟨rfl, rfl⟩, ⟨rfl, rfl⟩, ⟨rfl, rfl⟩, trivial⟩ (okH_list rfl rfl rfl (okH_list rfl rfl rfl (okH_nil))) rfl rfl) ?_
 refine Awp.seq ?_
 refine Awp.consP C ?_
 refine rvP C (.pv (.lit (.int .i64 (-8)))) ?_
 refine rvP C (.pv (.lit (.bool false))) ?_
 refine rvc_nil ?_
 refine Awp.condF (b := false) rfl rfl ?_
 refine Awp.exit ?_
 refine Awp.consP C ?_
 refine rvP C (.sl 70026 0 (((((((([(IntKind.u8.wrap (shrI .u64 ((tShort key (Sl.mk false b.D)).1) 56))] ++ [(IntKind.u8.wrap (shrI .u64 ((tShort key (Sl.mk false b.D)).1) 48))]) ++ [(IntKind.u8.wrap (shrI .u64 ((tShort key (Sl.mk false b.D)).1) 40))]) ++ [(IntKind.u8.wrap (shrI .u64 ((tShort key (Sl.mk false b.D)).1) 32))]) ++ [(IntKind.u8.wrap (shrI .u64 ((tShort key (Sl.mk false b.D)).1) 24))]) ++ [(IntKind.u8.wrap (shrI .u64 ((tShort key (Sl.mk false b.D)).1) 16))]) ++ [(IntKind.u8.wrap (shrI .u64 ((tShort key (Sl.mk false b.D)).1) 8))]) ++ [(IntKind.u8.wrap (shrI .u64 ((tShort key (Sl.mk false b.D)).1) 0))]).length) 1 false) ?_
 refine rvP C (.pv (.lit (.int .i64 ((tShort key (Sl.mk false b.D)).2)))) ?_
 refine rvP C (.sl 70026 0 (((((((([(IntKind.u8.wrap (shrI .u64 ((tShort key (Sl.mk false b.D)).1) 56))] ++ [(IntKind.u8.wrap (shrI .u64 ((tShort key (Sl.mk false b.D)).1) 48))]) ++ [(IntKind.u8.wrap (shrI .u64 ((tShort key (Sl.mk false b.D)).1) 40))]) ++ [(IntKind.u8.wrap (shrI .u64 ((tShort key (Sl.mk false b.D)).1) 32))]) ++ [(IntKind.u8.wrap (shrI .u64 ((tShort key (Sl.mk false b.D)).1) 24))]) ++ [(IntKind.u8.wrap (shrI .u64 ((tShort key (Sl.mk false b.D)).1) 16))]) ++ [(IntKind.u8.wrap (shrI .u64 ((tShort key (Sl.mk false b.D)).1) 8))]) ++ [(IntKind.u8.wrap (shrI .u64 ((tShort key (Sl.mk false b.D)).1) 0))]).length) 1 false) ?_
 refine rvP C (.pv (.lit (.int .i64 ((tShort key (Sl.mk false b.D)).2)))) ?_
 refine rvc_nil ?_
 refine Awp.freezeW 70026 (encL (eI .u8) ((((((([(IntKind.u8.wrap (shrI .u64 ((tShort key (Sl.mk false b.D)).1) 56))] ++ [(IntKind.u8.wrap (shrI .u64 ((tShort key (Sl.mk false b.D)).1) 48))]) ++ [(IntKind.u8.wrap (shrI .u64 ((tShort key (Sl.mk false b.D)).1) 40))]) ++ [(IntKind.u8.wrap (shrI .u64 ((tShort key (Sl.mk false b.D)).1) 32))]) ++ [(IntKind.u8.wrap (shrI .u64 ((tShort key (Sl.mk false b.D)).1) 24))]) ++ [(IntKind.u8.wrap (shrI .u64 ((tShort key (Sl.mk false b.D)).1) 16))]) ++ [(IntKind.u8.wrap (shrI .u64 ((tShort key (Sl.mk false b.D)).1) 8))]) ++ [(IntKind.u8.wrap (shrI .u64 ((tShort key (Sl.mk false b.D)).1) 0))])) ?_ [(4, sS (some false) (eI .u8) ((((((([(IntKind.u8.wrap (shrI .u64 ((tShort key (Sl.mk false b.D)).1) 56))] ++ [(IntKind.u8.wrap (shrI .u64 ((tShort key (Sl.mk false b.D)).1) 48))]) ++ [(IntKind.u8.wrap (shrI .u64 ((tShort key (Sl.mk false b.D)).1) 40))]) ++ [(IntKind.u8.wrap (shrI .u64 ((tShort key (Sl.mk false b.D)).1) 32))]) ++ [(IntKind.u8.wrap (shrI .u64 ((tShort key (Sl.mk false b.D)).1) 24))]) ++ [(IntKind.u8.wrap (shrI .u64 ((tShort key (Sl.mk false b.D)).1) 16))]) ++ [(IntKind.u8.wrap (shrI .u64 ((tShort key (Sl.mk false b.D)).1) 8))]) ++ [(IntKind.u8.wrap (shrI .u64 ((tShort key (Sl.mk false b.D)).1) 0))])), (5, .pv (.lit (.int .i64 ((tShort key (Sl.mk false b.D)).2))))] [(0, .cells (encC (eI .u8) b.D))] ?_ ?_ ?_
 · rfl
 · exact ⟨⟨_, rfl, .inl (.inr ⟨_, _, _, rfl, rfl⟩)⟩, ⟨_, rfl, .inl (.inl rfl)⟩, trivial⟩
 · exact ⟨⟨(by show (0 : Nat) ≠ 70026; decide), .inl rfl⟩, trivial⟩
 refine Awp.ret ?_
 subst hR
 exact ⟨.inl rfl, rfl, rfl⟩
def kL (k : Nat → Int) : List Int := tbF k 8 0
theorem kL_def (k : Nat → Int) : kL k = [k 0, k 1, k 2, k 3, k 4, k 5, k 6, k 7] := rfl
theorem KeyB.b8 {k : Nat → Int} (h : KeyB k) : B8 (kL k) := fun x hx => by
  obtain ⟨i, _, h2, rfl⟩ := mem_tbF hx
  exact h i (by omega)
theorem eq8 (j k : Nat → Int) : ((j 0 == k 0) && ((j 1 == k 1) && ((j 2 == k 2) && ((j 3 == k 3) && ((j 4 == k 4) && ((j 5 == k 5) && ((j 6 == k 6) && ((j 7 == k 7) && true)))))))) = decide (kL j = kL k) := by
  rw [Bool.eq_iff_iff, decide_eq_true_eq]
  simp only [kL_def, List.cons.injEq, Bool.and_eq_true, beq_iff_eq]
def Z8 : Nat → Int := ofL [(0 : Int), 0, 0, 0, 0, 0, 0, 0]
theorem r9Key_l0_eq (D : List Int) : ∀ (k i : Nat) (vc : Nat → Int), k + i = D.length → vc = (fun t => if t < i then D.getD t 0 else Z8 t) →
    r9Key_l0 D k i vc = if (D.drop i).any (· == 0) then (Z8, 91) else ((fun t => if t < D.length then D.getD t 0 else Z8 t), 0)
  | 0, i, vc, h, hv => by
    have : i = D.length := by omega
    subst this
    unfold r9Key_l0
    rw [List.drop_length, hv]; rfl
  | k + 1, i, vc, h, hv => by
    have hi : i < D.length := by omega
    unfold r9Key_l0
    have e : D[((i : Nat) : Int).toNat]! = D[i] := by rw [Int.toNat_natCast]; exact getElem!_pos D i hi
    rw [e, List.drop_eq_getElem_cons hi, List.any_cons]
    cases hz : D[i] == 0
    · rw [cond_false, Bool.false_or]
      refine r9Key_l0_eq D k (i + 1) _ (by omega) ?_
      funext t
      unfold updA
      by_cases ht : t = i
      · subst ht
        rw [show (t == t) = true from beq_self_eq_true t, cond_true, if_pos (Nat.lt_succ_self t), List.getD_eq_getElem?_getD, List.getElem?_eq_getElem hi]; rfl
      · rw [show (t == i) = false by simpa using ht, cond_false, hv]
        dsimp only
        by_cases h' : t < i
        · rw [if_pos h', if_pos (by omega)]
        · rw [if_neg h', if_neg (by omega)]
    · rw [cond_true, Bool.true_or, if_pos rfl]; rfl
theorem shKey_eq {D : List Int} (hD : B8 D) : shKey D = r9Key D := by
  unfold shKey r9Key
  cases h1 : decide ((D.length : Int) < 1)
  · rw [cond_false, cond_false]
    cases h2 : decide ((D.length : Int) > 8)
    · rw [cond_false, cond_false]
      have h8 := of_decide_eq_false h2
      rw [r9Key_l0_eq D _ 0 _ (by rw [Int.toNat_natCast]; rfl) (by funext t; rw [if_neg (Nat.not_lt_zero t)]; rfl), List.drop_zero]
      have e : decide (indexB (Sl.mk false D) 0 ≥ 0) = D.any (· == 0) := idxI_ge hD
      rw [e]
      cases D.any (· == 0)
      · rw [cond_false, if_neg (by decide)]
        congr 1
        funext t
        unfold cpF
        rw [Nat.min_eq_left (by omega)]; rfl
      · rfl
    · rfl
  · rfl
theorem r9Right_eq {k : Nat → Int} (hk : KeyB k) : r9Right k = shRight k := by
  unfold r9Right shRight
  rw [← shKey_eq (nameL_ok hk)]
theorem rKey_eq {k : Nat → Int} (hk : KeyB k) : rKey k = (shRight k == 0) := by
  unfold rKey
  rw [r9Right_eq hk]
theorem rLess_eq {a b : Nat → Int} (ha : KeyB a) (hb : KeyB b) : rLess a b = ll (kL a) (kL b) := bytesLess_strOf ha.b8 hb.b8
theorem cmpB_ge {a b : Nat → Int} (ha : KeyB a) (hb : KeyB b) : decide (cmpB (Sl.mk false (tbF a 8 0)) (Sl.mk false (tbF b 8 0)) ≥ 0) = !ll (kL a) (kL b) := by
  show decide (cmpI (kL a) (kL b) ≥ 0) = _
  rw [cmpI_eq ha.b8 hb.b8]
  cases ll (kL a) (kL b)
  · by_cases h : kL a = kL b
    · rw [if_neg (by decide), if_pos h]; rfl
    · rw [if_neg (by decide), if_neg h]; rfl
  · rfl
/-- One of what was seen may be. -/
def sOk (x : Seen) : Bool := (shRight x.key == 0) && (decide (1 ≤ x.ver) && decide (x.ver ≤ 1099511627776))
/-- What was seen may be, and its keys rise, from a key on. -/
def rt : Option (List Int) → List Seen → Bool
  | _, [] => true
  | none, x :: xs => sOk x && rt (some (kL x.key)) xs
  | some q, x :: xs => sOk x && (ll q (kL x.key) && rt (some (kL x.key)) xs)
theorem rt_c0 (x : Seen) (xs : List Seen) : rt none (x :: xs) = (sOk x && rt (some (kL x.key)) xs) := by rw [rt]
theorem rt_c1 (q : List Int) (x : Seen) (xs : List Seen) : rt (some q) (x :: xs) = (sOk x && (ll q (kL x.key) && rt (some (kL x.key)) xs)) := by rw [rt]
def KB (l : List Seen) : Prop := ∀ x ∈ l, KeyB x.key
theorem KB.cons {x : Seen} {l : List Seen} (h : KB (x :: l)) : KeyB x.key ∧ KB l := ⟨h x (by simp), fun y hy => h y (by simp [hy])⟩
theorem KB.at {l : List Seen} (h : KB l) {i : Nat} (hi : i < l.length) : KeyB l[i]!.key := by
  rw [getElem!_pos l i hi]; exact h _ (List.getElem_mem hi)
def prevK (l : List Seen) (i : Nat) : Option (List Int) := if i = 0 then none else some (kL l[i - 1]!.key)
theorem prevK_succ {l : List Seen} {i : Nat} {x : Seen} (h : l[i]? = some x) : prevK l (i + 1) = some (kL x.key) := by
  unfold prevK
  rw [if_neg (by omega), Nat.add_sub_cancel, getElem!_def, h]
theorem sOk_split {x : Seen} {S : Int} : (bif (shRight x.key) != 0 then (100 : Int) else bif decide (x.ver < 1) then 100 else bif decide (x.ver > 1099511627776) then 100 else S) = bif sOk x then S else 100 := by
  unfold sOk
  have e1 : (shRight x.key != 0) = !(shRight x.key == 0) := rfl
  have e2 : decide (x.ver < 1) = !decide (1 ≤ x.ver) := by rw [Bool.eq_iff_iff]; simp <;> omega
  have e3 : decide (x.ver > 1099511627776) = !decide (x.ver ≤ 1099511627776) := by rw [Bool.eq_iff_iff]; simp <;> omega
  rw [e1, e2, e3]
  cases shRight x.key == 0 <;> cases decide (1 ≤ x.ver) <;> cases decide (x.ver ≤ 1099511627776) <;> rfl
theorem pRight_l0_eq {l : Sl Seen} (hl : KB l.D) (h6 : l.D.length ≤ 1000000) : ∀ (xs : List Seen) (i : Nat), l.D.drop i = xs → pRight_l0 l xs i = bif rt (prevK l.D i) xs then 0 else 100
  | [], i, _ => by
    unfold pRight_l0
    cases prevK l.D i <;> rfl
  | x :: xs, i, h => by
    have hx : l.D[i]? = some x := by
      have := congrArg (fun q => q[0]?) h
      simpa using this
    have hi : i < l.D.length := (List.getElem?_eq_some_iff.1 hx).1
    have hd : l.D.drop (i + 1) = xs := by rw [List.drop_add_one_eq_tail_drop, h]; rfl
    have ih := pRight_l0_eq hl h6 xs (i + 1) hd
    rw [prevK_succ hx] at ih
    have hkx : KeyB x.key := hl x (List.mem_of_getElem? hx)
    unfold pRight_l0
    rw [sOk_split, ih]
    by_cases h0 : i = 0
    · subst h0
      rw [show decide (((0 : Nat) : Int) > 0) = false from rfl, cond_false]
      show _ = bif rt none (x :: xs) then 0 else 100
      rw [rt_c0]
      cases sOk x <;> rfl
    · have e1 : IntKind.i64.wrap ((i : Int) - 1) = ((i - 1 : Nat) : Int) := by rw [wrapP (by omega)]; omega
      rw [decide_eq_true (show (i : Int) > 0 by omega), cond_true, e1, Int.toNat_natCast]
      have hp : KeyB l.D[i - 1]!.key := hl.at (by omega)
      have ec : prevK l.D i = some (kL l.D[i - 1]!.key) := by unfold prevK; rw [if_neg h0]
      rw [ec]
      generalize hq : l.D[i - 1]! = q at hp
      have e2 := cmpB_ge hp hkx
      have e3 : tbF (ofL [q.key 0, q.key 1, q.key 2, q.key 3, q.key 4, q.key 5, q.key 6, q.key 7]) 8 0 = tbF q.key 8 0 := rfl
      rw [e3, e2]
      rw [rt_c1]
      cases sOk x <;> cases ll (kL q.key) (kL x.key) <;> rfl
theorem rpRight_l0_eq {l : Sl Seen} (hl : KB l.D) (h6 : l.D.length ≤ 1000000) : ∀ (xs : List Seen) (i : Nat), l.D.drop i = xs → rpRight_l0 l xs i = bif rt (prevK l.D i) xs then 0 else 100
  | [], i, _ => by
    unfold rpRight_l0
    cases prevK l.D i <;> rfl
  | x :: xs, i, h => by
    have hx : l.D[i]? = some x := by
      have := congrArg (fun q => q[0]?) h
      simpa using this
    have hi : i < l.D.length := (List.getElem?_eq_some_iff.1 hx).1
    have hd : l.D.drop (i + 1) = xs := by rw [List.drop_add_one_eq_tail_drop, h]; rfl
    have ih := rpRight_l0_eq hl h6 xs (i + 1) hd
    rw [prevK_succ hx] at ih
    have hkx : KeyB x.key := hl x (List.mem_of_getElem? hx)
    unfold rpRight_l0
    rw [rKey_eq hkx, show (!(shRight x.key == 0)) = (shRight x.key != 0) from rfl, sOk_split, ih]
    by_cases h0 : i = 0
    · subst h0
      rw [show decide (((0 : Nat) : Int) > 0) = false from rfl, cond_false]
      show _ = bif rt none (x :: xs) then 0 else 100
      rw [rt_c0]
      cases sOk x <;> rfl
    · have e1 : IntKind.i64.wrap ((i : Int) - 1) = ((i - 1 : Nat) : Int) := by rw [wrapP (by omega)]; omega
      rw [decide_eq_true (show (i : Int) > 0 by omega), cond_true, e1, Int.toNat_natCast]
      have hp : KeyB l.D[i - 1]!.key := hl.at (by omega)
      have ec : prevK l.D i = some (kL l.D[i - 1]!.key) := by unfold prevK; rw [if_neg h0]
      rw [ec]
      generalize hq : l.D[i - 1]! = q at hp
      have e2 : rLess (ofL [q.key 0, q.key 1, q.key 2, q.key 3, q.key 4, q.key 5, q.key 6, q.key 7]) x.key = ll (kL q.key) (kL x.key) := (rfl : _ = rLess q.key x.key).trans (rLess_eq hp hkx)
      rw [e2]
      rw [rt_c1]
      cases sOk x <;> cases ll (kL q.key) (kL x.key) <;> rfl
theorem pRight_eq {l : Sl Seen} (hl : KB l.D) (hn : l.D.length ≤ 1000000) : pRight l = bif decide (l.D.length ≤ 6) then (bif rt none l.D then 0 else 100) else 7 := by
  unfold pRight
  rw [pRight_l0_eq hl hn l.D 0 rfl, show decide ((l.D.length : Int) > 6) = !decide (l.D.length ≤ 6) by rw [Bool.eq_iff_iff]; simp <;> omega]
  show _ = bif _ then (bif rt (prevK l.D 0) l.D then 0 else 100) else 7
  cases decide (l.D.length ≤ 6) <;> rfl
theorem rpRight_eq {l : Sl Seen} (hl : KB l.D) (hn : l.D.length ≤ 1000000) : rpRight l = pRight l := by
  rw [pRight_eq hl hn]
  unfold rpRight
  rw [rpRight_l0_eq hl hn l.D 0 rfl, show decide ((l.D.length : Int) > 6) = !decide (l.D.length ≤ 6) by rw [Bool.eq_iff_iff]; simp <;> omega]
  show _ = bif _ then (bif rt (prevK l.D 0) l.D then 0 else 100) else 7
  cases decide (l.D.length ≤ 6) <;> rfl
/-- Rising. -/
theorem rt_some {q : List Int} : ∀ {xs : List Seen}, rt (some q) xs = true ↔ rt none xs = true ∧ ∀ x ∈ xs, ll q (kL x.key) = true
  | [] => by simp [rt]
  | x :: xs => by
    have ih := rt_some (q := kL x.key) (xs := xs)
    simp only [rt, Bool.and_eq_true, List.mem_cons, forall_eq_or_imp]
    rw [ih]
    refine ⟨fun ⟨h1, h2, h3, h4⟩ => ⟨⟨h1, h3, h4⟩, h2, fun y hy => ll_trans h2 (h4 y hy)⟩, fun ⟨⟨h1, h3, h4⟩, h2, _⟩ => ⟨h1, h2, h3, h4⟩⟩
theorem rt_cons {x : Seen} {xs : List Seen} : rt none (x :: xs) = true ↔ sOk x = true ∧ rt none xs = true ∧ ∀ y ∈ xs, ll (kL x.key) (kL y.key) = true := by
  simp only [rt, Bool.and_eq_true, rt_some]
theorem pRight_zero {l : Sl Seen} (hl : KB l.D) (hn : l.D.length ≤ 1000000) : pRight l = 0 ↔ l.D.length ≤ 6 ∧ rt none l.D = true := by
  rw [pRight_eq hl hn]
  cases h : decide (l.D.length ≤ 6)
  · simpa using fun q : l.D.length ≤ 6 => absurd q (of_decide_eq_false h)
  · have := of_decide_eq_true h
    cases rt none l.D <;> simp [this]
theorem bv64p (a : Nat) (h : a < 18446744073709551616) : (BitVec.ofInt 64 (a : Int)).toNat = a := by
  rw [BitVec.toNat_ofInt]
  have : ((2 ^ 64 : Nat) : Int) = 18446744073709551616 := by decide
  rw [this]; omega
theorem or64 {a b : Nat} (ha : a < 18446744073709551616) (hb : b < 18446744073709551616) : bitI .or .u64 a b = ((a ||| b : Nat) : Int) := by
  have : a ||| b < 18446744073709551616 := Nat.or_lt_two_pow (n := 64) ha hb
  show IntKind.u64.wrap (((BitVec.ofInt 64 (a : Int) ||| BitVec.ofInt 64 (b : Int) : BitVec 64).toNat : Nat) : Int) = _
  rw [BitVec.toNat_or, bv64p a ha, bv64p b hb, wrapU]; omega
theorem bif_num {α : Type} {a b c d e : Bool} {S5 S10 T : α} : (bif a then (bif b then S5 else (bif c then S5 else (bif d then (bif e then S10 else T) else T))) else (bif c then S5 else (bif d then (bif e then S10 else T) else T))) = (bif (a && b) || c then S5 else (bif d && e then S10 else T)) := by
  cases a <;> cases b <;> cases c <;> cases d <;> cases e <;> rfl
theorem and127 : ∀ y : Fin 256, (y.val &&& 127) = y.val % 128 := by decide +kernel
theorem low7 {x : Int} (h : 0 ≤ x ∧ x < 256) : IntKind.u64.wrap (bitI .and .u8 x 127) = ((x.toNat % 128 : Nat) : Int) := by
  have e : x = ((x.toNat : Nat) : Int) := by omega
  rw [e, show (127 : Int) = ((127 : Nat) : Int) from rfl, and8 (by omega) (by decide), and127 ⟨x.toNat, by omega⟩, wrapU]
  show ((x.toNat % 128 : Nat) : Int) % 18446744073709551616 = ((((x.toNat : Nat) : Int)).toNat % 128 : Nat)
  omega
theorem pow7 (i : Nat) : (2 : Nat) ^ (7 * i) = 128 ^ i := by rw [Nat.pow_mul]
theorem orshl {acc low i : Nat} (hi : i ≤ 9) (h1 : acc < 128 ^ i) (h2 : low * 128 ^ i < 18446744073709551616) : bitI .or .u64 (acc : Int) (shlI .u64 (low : Int) ((7 * i : Nat) : Int)) = ((acc + low * 128 ^ i : Nat) : Int) := by
  have hs : shlI .u64 (low : Int) ((7 * i : Nat) : Int) = ((low * 128 ^ i : Nat) : Int) := by
    show IntKind.u64.wrap ((low : Int) * 2 ^ (min (((7 * i : Nat) : Int).toNat) 64)) = _
    rw [Int.toNat_natCast, Nat.min_eq_left (by omega), wrapU, ← pow7]
    have : (low : Int) * 2 ^ (7 * i) = ((low * 2 ^ (7 * i) : Nat) : Int) := by simp
    rw [this]
    rw [← pow7] at h2
    omega
  have hp : 128 ^ i ≤ 9223372036854775808 := Nat.le_trans (Nat.pow_le_pow_right (by decide) hi) (by decide)
  rw [hs, or64 (by omega) h2]
  have := Nat.shiftLeft_add_eq_or_of_lt (b := acc) (i := 7 * i) (by rw [pow7]; exact h1) low
  rw [Nat.shiftLeft_eq, pow7] at this
  rw [Nat.or_comm, ← this, Nat.add_comm]
theorem getBang {D : List Int} {n : Nat} {x : Int} (h : D[n]? = some x) : D[n]! = x := by rw [getElem!_def, h]
theorem low_le {x i : Nat} (h : ¬ ((i = 9 ∧ 1 < x % 128) ∨ 9 < i)) : x % 128 * 128 ^ i < 18446744073709551616 := by
  rcases Nat.lt_or_ge i 9 with h9 | h9
  · have : 128 ^ i ≤ 72057594037927936 := Nat.le_trans (Nat.pow_le_pow_right (by decide) (show i ≤ 8 by omega)) (by decide)
    have h5 : x % 128 * 128 ^ i ≤ 127 * 72057594037927936 := Nat.mul_le_mul (by omega) this
    omega
  · have hi9 : i = 9 := by omega
    subst hi9
    have h6 : (128 : Nat) ^ 9 = 9223372036854775808 := by decide
    rw [h6]; omega
theorem acc_le {x i acc : Nat} (h1 : acc < 128 ^ i) : acc + x % 128 * 128 ^ i < 128 ^ (i + 1) := by
  rw [Nat.pow_succ, Nat.mul_comm (128 ^ i)]
  have h5 : x % 128 * 128 ^ i ≤ 127 * 128 ^ i := Nat.mul_le_mul_right _ (by omega)
  omega
theorem rdNum_l0_eq {D : List Int} (hD : ∀ x ∈ D, 0 ≤ x ∧ x < 256) (hl : D.length ≤ 1000000) (r : Reader) : ∀ (f i acc : Nat) (v : Reader), f = D.length - v.at_.toNat + 1 → v.b.D = D → 0 ≤ v.at_ → v.at_ ≤ (D.length : Int) → v.err = 0 → v.made = true → i ≤ 10 → acc < 128 ^ i →
    match vd i (D.drop v.at_.toNat) with
    | some (m, rest) => rdNum_l0 r f (acc : Int) ((7 * i : Nat) : Int) v = (Reader.mk v.b ((D.length : Int) - rest.length) 0 true, ((acc + m * 128 ^ i : Nat) : Int))
    | none => rdErr (rdNum_l0 r f (acc : Int) ((7 * i : Nat) : Int) v).1 ≠ 0
  | 0, _, _, _, hf, _, _, _, _, _, _, _ => by omega
  | f + 1, i, acc, v, hf, hb, h0, h1, he, hm, hi, hacc => by
    by_cases hat : v.at_ = (D.length : Int)
    · have e : (v.at_ == (v.b.D.length : Int)) = true := by rw [hb]; simpa using hat
      rw [List.drop_eq_nil_of_le (by omega), vd]
      unfold rdNum_l0
      rw [e]
      show rdErr (rdStop v r.at_ 2) ≠ 0
      unfold rdStop rdErr
      rw [he]
      show (bif !v.made then (6 : Int) else 2) ≠ 0
      rw [hm]; decide
    · have e : (v.at_ == (v.b.D.length : Int)) = false := by rw [hb]; simpa using hat
      obtain ⟨x, hx⟩ : ∃ x, D[v.at_.toNat]? = some x := ⟨_, List.getElem?_eq_getElem (by omega)⟩
      have hxb := hD x (List.mem_of_getElem? hx)
      have hw : IntKind.i64.wrap (v.at_ + 1) = v.at_ + 1 := by have := wrapI (v.at_ + 1); omega
      have hw2 : IntKind.i64.wrap (((7 * i : Nat) : Int) + 7) = ((7 * (i + 1) : Nat) : Int) := by have := wrapI (((7 * i : Nat) : Int) + 7); omega
      have hs : ∀ a q, q ≠ 0 → rdErr (rdStop (Reader.mk v.b (v.at_ + 1) v.err v.made) a q) ≠ 0 := fun a q hq => by
        unfold rdStop rdErr
        rw [he, hm]
        exact hq
      have hc : (((((7 * i : Nat) : Int) == 63) && decide (((x.toNat % 128 : Nat) : Int) > 1)) || decide (((7 * i : Nat) : Int) > 63)) = decide ((i = 9 ∧ 1 < x.toNat % 128) ∨ 9 < i) := by
        rw [Bool.eq_iff_iff]
        simp only [Bool.or_eq_true, Bool.and_eq_true, beq_iff_eq, decide_eq_true_eq]
        omega
      have hd : ((x == 0) && decide (((7 * i : Nat) : Int) > 0)) = decide (x = 0 ∧ 0 < i) := by
        rw [Bool.eq_iff_iff]
        simp only [Bool.and_eq_true, beq_iff_eq, decide_eq_true_eq]
        omega
      rw [drop_at hx, vd]
      unfold rdNum_l0
      rw [e, cond_false, hb, getBang hx, low7 hxb, hw, hw2, bif_num, hc, hd]
      by_cases c1 : (i = 9 ∧ 1 < x.toNat % 128) ∨ 9 < i
      · rw [if_pos c1, decide_eq_true c1]
        exact hs _ _ (by decide)
      · rw [if_neg c1, decide_eq_false c1, cond_false]
        by_cases c2 : x = 0 ∧ 0 < i
        · rw [if_pos c2, decide_eq_true c2]
          exact hs _ _ (by decide)
        · rw [if_neg c2, decide_eq_false c2, cond_false]
          have hor := orshl (acc := acc) (low := x.toNat % 128) (i := i) (by omega) hacc (low_le c1)
          rw [hor]
          by_cases c3 : x < 128
          · rw [if_pos c3, decide_eq_true c3, cond_true]
            have hx' : x.toNat % 128 = x.toNat := by omega
            show (Reader.mk v.b (v.at_ + 1) v.err v.made, _) = (Reader.mk v.b ((D.length : Int) - ((D.drop (v.at_.toNat + 1)).length : Int)) 0 true, _)
            rw [he, hm, hx', List.length_drop]
            have : v.at_ + 1 = (D.length : Int) - ((D.length - (v.at_.toNat + 1) : Nat) : Int) := by omega
            rw [this]
          · rw [if_neg c3, decide_eq_false c3, cond_false]
            have ih := rdNum_l0_eq hD hl r f (i + 1) (acc + x.toNat % 128 * 128 ^ i) (Reader.mk v.b (v.at_ + 1) v.err v.made) (by dsimp only; omega) hb (by dsimp only; omega) (by dsimp only; omega) he hm (by omega) (acc_le hacc)
            dsimp only at ih
            rw [show (v.at_ + 1).toNat = v.at_.toNat + 1 by omega] at ih
            cases hv : vd (i + 1) (D.drop (v.at_.toNat + 1)) with
            | none => rw [hv] at ih; exact ih
            | some q =>
              obtain ⟨m, rest⟩ := q
              rw [hv] at ih
              dsimp only at ih ⊢
              rw [ih]
              have : acc + x.toNat % 128 * 128 ^ i + m * 128 ^ (i + 1) = acc + (x.toNat % 128 + 128 * m) * 128 ^ i := by
                rw [Nat.pow_succ, Nat.add_mul, Nat.mul_comm (128 ^ i) 128, ← Nat.mul_assoc, Nat.mul_comm m 128]; omega
              rw [this]
/-- A reader of these bytes, with no error, ahead of those. -/
structure RdAt (r : Reader) (D l : List Int) : Prop where
  b : r.b.D = D
  made : r.made = true
  err : r.err = 0
  suf : l <:+ D
  at' : r.at_ = (D.length : Int) - l.length
theorem vd_suffix : ∀ (i : Nat) (l : List Int) (n : Nat) (r : List Int), vd i l = some (n, r) → r <:+ l
  | _, [], _, _, h => by simp [vd] at h
  | i, x :: l, n, r, h => by
    rw [vd] at h
    split at h
    · cases h
    · split at h
      · cases h
      · split at h
        · simp only [Option.some.injEq, Prod.mk.injEq] at h; rw [← h.2]; exact List.suffix_cons x l
        · split at h
          · rename_i m r' hm
            simp only [Option.some.injEq, Prod.mk.injEq] at h
            rw [← h.2]
            exact (vd_suffix (i + 1) l m r' hm).trans (List.suffix_cons x l)
          · cases h
theorem RdAt.drop {r : Reader} {D l : List Int} (h : RdAt r D l) : D.drop r.at_.toNat = l := by
  have h1 := List.suffix_iff_eq_drop.1 h.suf
  have h2 := h.suf.length_le
  have : r.at_.toNat = D.length - l.length := by have := h.at'; omega
  rw [this]; exact h1.symm
theorem RdAt.ok {r : Reader} {D l : List Int} (h : RdAt r D l) (hl : D.length ≤ 1000000) : okR r := by
  have h2 := h.suf.length_le
  have h3 := h.at'
  have h4 := h.b
  exact ⟨⟨by omega, by rw [h4]; omega⟩, by rw [h4]; exact hl⟩
theorem RdAt.err0 {r : Reader} {D l : List Int} (h : RdAt r D l) : rdErr r = 0 := by unfold rdErr; rw [h.made, h.err]; rfl
theorem rdNum_at {r : Reader} {D l : List Int} (h : RdAt r D l) (hD : ∀ x ∈ D, 0 ≤ x ∧ x < 256) (hl : D.length ≤ 1000000) :
    match vd 0 l with
    | some (m, rest) => RdAt (rdNum r).1 D rest ∧ (rdNum r).2 = (m : Int)
    | none => rdErr (rdNum r).1 ≠ 0 := by
  have hk := h.ok hl
  have hb := h.b
  have key := rdNum_l0_eq hD hl r (r.b.D.length - r.at_.toNat + 1) 0 0 r (by rw [hb]) hb hk.1.1 (by have := hk.1.2; rw [hb] at this; exact this) h.err h.made (by decide) (by decide)
  rw [h.drop] at key
  unfold rdNum
  rw [h.err0]
  simp only [bne_self_eq_false, cond_false]
  cases hv : vd 0 l with
  | none => rw [hv] at key; exact key
  | some q =>
    obtain ⟨m, rest⟩ := q
    rw [hv] at key
    dsimp only at key ⊢
    have key' : rdNum_l0 r (r.b.D.length - r.at_.toNat + 1) 0 0 r = _ := key
    rw [key']
    refine ⟨⟨hb, rfl, rfl, (vd_suffix 0 l m rest hv).trans h.suf, rfl⟩, ?_⟩
    simp
/-- A number within bounds. -/
def rin (lo hi : Int) (l : List Int) : Option (Nat × List Int) :=
  match vd 0 l with
  | some (n, r) => if (n : Int) ≤ 4611686018427387904 ∧ lo ≤ (n : Int) ∧ (n : Int) ≤ hi then some (n, r) else none
  | none => none
theorem bif3 {α : Type} {a b c : Bool} {S T : α} : (bif a then S else (bif b then S else (bif c then S else T))) = (bif a || b || c then S else T) := by cases a <;> cases b <;> cases c <;> rfl
theorem vd_lt {l : List Int} (hD : ∀ x ∈ l, 0 ≤ x ∧ x < 256) {n : Nat} {r : List Int} (h : vd 0 l = some (n, r)) : n < 18446744073709551616 := by
  have := (vd_vb 0 l n r hD h).2.2
  simpa using this
theorem rdIn_at {r : Reader} {D l : List Int} (lo hi : Int) (h : RdAt r D l) (hD : ∀ x ∈ D, 0 ≤ x ∧ x < 256) (hl : D.length ≤ 1000000) :
    match rin lo hi l with
    | some (m, rest) => RdAt (rdIn r lo hi).1 D rest ∧ (rdIn r lo hi).2 = (m : Int)
    | none => rdErr (rdIn r lo hi).1 ≠ 0 := by
  have h1 := rdNum_at h hD hl
  unfold rin rdIn
  cases hv : vd 0 l with
  | none =>
    rw [hv] at h1
    dsimp only at h1 ⊢
    have : (rdErr (rdNum r).1 != 0) = true := by simpa using h1
    rw [this]; exact h1
  | some q =>
    obtain ⟨m, rest⟩ := q
    rw [hv] at h1
    dsimp only at h1 ⊢
    obtain ⟨h2, h3⟩ := h1
    rw [h2.err0, h3]
    simp only [bne_self_eq_false, cond_false]
    have hml := vd_lt (fun x hx => hD x (h.suf.subset hx)) hv
    rw [bif3]
    by_cases hc : (m : Int) ≤ 4611686018427387904 ∧ lo ≤ (m : Int) ∧ (m : Int) ≤ hi
    · have hw : IntKind.i64.wrap (m : Int) = (m : Int) := by have := wrapI (m : Int); omega
      have : (decide ((m : Int) > 4611686018427387904) || decide (IntKind.i64.wrap (m : Int) < lo) || decide (IntKind.i64.wrap (m : Int) > hi)) = false := by
        rw [hw]; simp only [Bool.or_eq_false_iff, decide_eq_false_iff_not]; omega
      rw [if_pos hc, this]
      exact ⟨h2, hw⟩
    · have : (decide ((m : Int) > 4611686018427387904) || decide (IntKind.i64.wrap (m : Int) < lo) || decide (IntKind.i64.wrap (m : Int) > hi)) = true := by
        rcases Int.lt_or_le 4611686018427387904 (m : Int) with hgt | hle
        · simp [hgt]
        · have hw : IntKind.i64.wrap (m : Int) = (m : Int) := by have := wrapI (m : Int); omega
          rw [hw]; simp only [Bool.or_eq_true, decide_eq_true_eq]; omega
      rw [if_neg hc, this]
      show rdErr (rdStop (rdNum r).1 _ 5) ≠ 0
      unfold rdStop rdErr
      rw [h2.err]
      show (bif !(rdNum r).1.made then (6 : Int) else 5) ≠ 0
      rw [h2.made]; decide
theorem rdIn_err {r : Reader} (lo hi : Int) (h : rdErr r ≠ 0) : rdErr (rdIn r lo hi).1 ≠ 0 := by
  have e : (rdErr r != 0) = true := by simpa using h
  unfold rdIn
  rw [rdNum_err r e]
  dsimp only
  rw [e]
  exact h
theorem rdEnd_at {r : Reader} {D l : List Int} (h : RdAt r D l) : (rdEnd r != 0) = !l.isEmpty := by
  unfold rdEnd
  rw [h.err0]
  have h2 := h.suf.length_le
  have h3 := h.at'
  rw [h.b]
  cases l with
  | nil =>
    have : decide (r.at_ < (D.length : Int)) = false := decide_eq_false (by simp at h3; omega)
    rw [this]; rfl
  | cons x l =>
    have : decide (r.at_ < (D.length : Int)) = true := decide_eq_true (by simp at h3; omega)
    rw [this]; rfl
theorem rdEnd_err {r : Reader} (h : rdErr r ≠ 0) : (rdEnd r != 0) = true := by
  have e : (rdErr r != 0) = true := by simpa using h
  unfold rdEnd
  rw [e]; exact e
theorem word_l0_shN (k : Nat → Int) : ∀ (n i : Nat), word_l0 k n i (shN k i) = shN k (i + n)
  | 0, _ => rfl
  | n + 1, i => by
    unfold word_l0
    have := word_l0_shN k n (i + 1)
    rw [show i + (n + 1) = i + 1 + n by omega, ← this]; rfl
theorem word_shN (k : Nat → Int) : word k = shN k 8 := word_l0_shN k 8 0
def cut8 (k : Nat → Int) : Nat → Int := fun t => if t < 8 then k t else 0
theorem shN_congr {j k : Nat → Int} : ∀ n, (∀ t, t < n → j t = k t) → shN j n = shN k n
  | 0, _ => rfl
  | n + 1, h => by unfold shN; rw [shN_congr n fun t ht => h t (by omega), h n (by omega)]
theorem cut8_R8 {k : Nat → Int} (h : KeyB k) (t : Nat) : R8 (cut8 k t) := by
  unfold cut8
  by_cases ht : t < 8
  · rw [if_pos ht]; exact h t ht
  · rw [if_neg ht]; exact ⟨by decide, by decide⟩
theorem word_cut (k : Nat → Int) : word k = shN (cut8 k) 8 := by
  rw [word_shN]
  exact shN_congr 8 fun t ht => by unfold cut8; rw [if_pos ht]
theorem word_byte {k : Nat → Int} (h : KeyB k) {i : Nat} (hi : i < 8) : IntKind.u8.wrap (shrI .u64 (word k) ((56 - 8 * i : Nat) : Int)) = k i := by
  rw [word_cut, sh_byte (cut8_R8 h) i hi]
  unfold cut8; rw [if_pos hi]
/-- The key of a number. -/
def unw (w : Int) : Nat → Int := fun i => IntKind.u8.wrap (shrI .u64 w ((56 - 8 * i : Nat) : Int))
theorem unw_B (w : Int) : KeyB (unw w) := fun j _ => by unfold unw; rw [wrap_u8]; omega
theorem unw_word {k : Nat → Int} (h : KeyB k) : kL (unw (word k)) = kL k := by
  simp only [kL_def, List.cons.injEq, and_true]
  exact ⟨word_byte h (by decide), word_byte h (by decide), word_byte h (by decide), word_byte h (by decide), word_byte h (by decide), word_byte h (by decide), word_byte h (by decide), word_byte h (by decide)⟩
theorem word_unw {w : Int} (h0 : 0 ≤ w) (h1 : w < 18446744073709551616) : word (unw w) = w := by
  rw [word_cut, sh_val8 (cut8_R8 (unw_B w))]
  have e0 : cut8 (unw w) 0 = w / 72057594037927936 % 256 := by show IntKind.u8.wrap (w / 72057594037927936) = _; rw [wrap_u8]
  have e1 : cut8 (unw w) 1 = w / 281474976710656 % 256 := by show IntKind.u8.wrap (w / 281474976710656) = _; rw [wrap_u8]
  have e2 : cut8 (unw w) 2 = w / 1099511627776 % 256 := by show IntKind.u8.wrap (w / 1099511627776) = _; rw [wrap_u8]
  have e3 : cut8 (unw w) 3 = w / 4294967296 % 256 := by show IntKind.u8.wrap (w / 4294967296) = _; rw [wrap_u8]
  have e4 : cut8 (unw w) 4 = w / 16777216 % 256 := by show IntKind.u8.wrap (w / 16777216) = _; rw [wrap_u8]
  have e5 : cut8 (unw w) 5 = w / 65536 % 256 := by show IntKind.u8.wrap (w / 65536) = _; rw [wrap_u8]
  have e6 : cut8 (unw w) 6 = w / 256 % 256 := by show IntKind.u8.wrap (w / 256) = _; rw [wrap_u8]
  have e7 : cut8 (unw w) 7 = w % 256 := by show IntKind.u8.wrap (w / 1) = _; rw [wrap_u8]; omega
  rw [e0, e1, e2, e3, e4, e5, e6, e7]
  have d6 : w / 65536 = w / 256 / 256 := by omega
  have d5 : w / 16777216 = w / 65536 / 256 := by omega
  have d4 : w / 4294967296 = w / 16777216 / 256 := by omega
  have d3 : w / 1099511627776 = w / 4294967296 / 256 := by omega
  have d2 : w / 281474976710656 = w / 1099511627776 / 256 := by omega
  have d1 : w / 72057594037927936 = w / 281474976710656 / 256 := by omega
  have d0 : w / 72057594037927936 < 256 := by omega
  generalize hq6 : w / 256 = q6 at *
  generalize hq5 : w / 65536 = q5 at *
  generalize hq4 : w / 16777216 = q4 at *
  generalize hq3 : w / 4294967296 = q3 at *
  generalize hq2 : w / 1099511627776 = q2 at *
  generalize hq1 : w / 281474976710656 = q1 at *
  generalize hq0 : w / 72057594037927936 = q0 at *
  have p0 : q0 % 256 = q0 := by omega
  have p1 : q1 = 256 * q0 + q1 % 256 := by omega
  have p2 : q2 = 256 * q1 + q2 % 256 := by omega
  have p3 : q3 = 256 * q2 + q3 % 256 := by omega
  have p4 : q4 = 256 * q3 + q4 % 256 := by omega
  have p5 : q5 = 256 * q4 + q5 % 256 := by omega
  have p6 : q6 = 256 * q5 + q6 % 256 := by omega
  have p7 : w = 256 * q6 + w % 256 := by omega
  clear e0 e1 e2 e3 e4 e5 e6 e7 d0 d1 d2 d3 d4 d5 d6 hq0 hq1 hq2 hq3 hq4 hq5 hq6
  rw [p0]
  generalize q1 % 256 = r1 at *
  generalize q2 % 256 = r2 at *
  generalize q3 % 256 = r3 at *
  generalize q4 % 256 = r4 at *
  generalize q5 % 256 = r5 at *
  generalize q6 % 256 = r6 at *
  generalize w % 256 = r7 at *
  omega
/-- What was seen as bytes, one behind the other. -/
def encS : List Seen → List Int
  | [] => []
  | x :: xs => vb (word x.key).toNat ++ (vb (IntKind.u64.wrap x.ver).toNat ++ encS xs)
theorem encS_len : ∀ l : List Seen, (encS l).length ≤ 20 * l.length
  | [] => Nat.le_refl _
  | x :: xs => by
    have h1 := vb_len (n := (word x.key).toNat) (by have := (word_ok x.key); omega)
    have h2 := vb_len (n := (IntKind.u64.wrap x.ver).toNat) (by have := wrap_lt64 x.ver; have := wrap_nn64 x.ver; omega)
    have := encS_len xs
    unfold encS
    rw [List.length_append, List.length_append, List.length_cons]; omega
theorem bodyO_l0_eq : ∀ (xs : List Seen) (i : Nat) (b : List Int), bodyO_l0 xs i b = b ++ encS xs
  | [], _, b => by
    unfold bodyO_l0 encS
    rw [List.append_nil]
  | x :: xs, i, b => by
    unfold bodyO_l0 encS
    rw [bodyO_l0_eq xs, wPut2O_eq _ _ _ (word_ok _).1 (wrap_nn64 _), List.append_assoc, List.append_assoc]
/-- What was seen as bytes. -/
def encB (l : List Seen) : List Int := vb (IntKind.u64.wrap (l.length : Int)).toNat ++ encS l
theorem bodyO_eq (l : Sl Seen) : bodyO l = encB l.D := by
  unfold bodyO encB
  rw [bodyO_l0_eq, wPutO_eq _ _ (wrap_nn64 _)]; rfl
theorem encB_len (l : List Seen) : (encB l).length ≤ 10 + 20 * l.length := by
  have h2 := vb_len (n := (IntKind.u64.wrap (l.length : Int)).toNat) (by have := wrap_lt64 (l.length : Int); have := wrap_nn64 (l.length : Int); omega)
  have := encS_len l
  unfold encB
  rw [List.length_append]; omega
theorem bodyO_len (l : Sl Seen) : (bodyO l).length ≤ 10 + 20 * l.D.length := by
  rw [bodyO_eq]; exact encB_len l.D
theorem markR_len (key b : Sl Int) : (markR key b).1.D.length = 8 := rfl
theorem encS_B8 : ∀ l : List Seen, B8 (encS l)
  | [], x, h => nomatch h
  | y :: l, x, h => by
    rcases List.mem_append.1 (show x ∈ vb (word y.key).toNat ++ (vb (IntKind.u64.wrap y.ver).toNat ++ encS l) from h) with h | h
    · exact vb_B8 _ x h
    · rcases List.mem_append.1 h with h | h
      · exact vb_B8 _ x h
      · exact encS_B8 l x h
theorem encB_B8 (l : List Seen) : B8 (encB l) := fun x hx => by
  rcases List.mem_append.1 hx with h | h
  · exact vb_B8 _ x h
  · exact encS_B8 l x h
end Go.Proofs.YthnghkkbnhjlgaaDoor
