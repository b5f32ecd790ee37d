/- The contract of the law TagDigests: it is true, whatever the input. No conditions. -/
import Derived.Test.YtaoagcdljmpllaaTagS
import Derived.Test.YtaoagcdljmpllaaAm27
namespace Go.Proofs.Ytaoagcdljmpllaa
open Go.Am

def cloneB (s : (Sl Int)) : (Sl Int) :=
  (bif s.nil then (Sl.mk true []) else (Sl.mk false s.D))
theorem cloneB_calls (s : (Sl Int)) (hl1 : s.D.length ≤ 1000000) : PCalls Try.prog 22 [sS (some s.nil) (eI .u8) s.D] (sS (some (cloneB s).nil) (eI .u8) ((cloneB s).D)) := by
  generalize hR : cloneB s = R
  refine PCalls.of_body tabOk Try.func22 rfl rfl rfl rfl rfl mixed fun E hP C hI => ?_
  refine Awp.cons C (fun _ => .pure) (by kernel_rfl) ?_ -- region 0
  refine rvc_un (rexec_prim C (δ := { v := sS (some true) (eI .u8) [] }) rfl rfl rfl rfl trivial rfl ?_) -- t2 assign
  refine rvc_nil ?_
  refine Awp.seq ?_
  refine Awp.cons C (fun _ => .pure) (by kernel_rfl) ?_ -- region 1
  refine rvc_un (rexec_prim C (δ := { v := sS (some s.nil) (eI .u8) s.D }) rfl rfl rfl rfl trivial rfl ?_) -- t3 move
  refine rvc_un (rexec_eqNil C (f := s.nil) rfl rfl rfl rfl ?_) -- t4 binOp
  refine rvc_nil ?_
  refine Awp.cond (b := s.nil) rfl (fun h1 => ?_) (fun h1 => ?_)
  ·
    replace hR := of_true h1 hR
    refine Awp.cons C (fun _ => .pure) (by kernel_rfl) ?_ -- region 2
    refine rvc_un (rexec_prim C (δ := { v := sS (some true) (eI .u8) [] }) rfl rfl rfl rfl trivial rfl ?_) -- t2 assign
    refine rvc_nil ?_
    refine Awp.ret ?_
    subst hR
    exact ⟨.inl rfl, rfl⟩
  ·
    replace hR := of_false h1 hR
    refine Awp.skip ?_
    refine Awp.cons C (fun _ => .pure) (by kernel_rfl) ?_ -- region 3
    refine rvc_un (rexec_prim C (δ := { v := .sl 5 0 0 1 true, new := [(5, .cells (encC (eI .u8) []))] }) rfl rfl rfl rfl trivial rfl ?_) -- t5 buildSlice
    refine rvc_un (rexec_prim C (δ := { v := sS (some s.nil) (eI .u8) s.D }) rfl rfl rfl rfl trivial rfl ?_) -- t6 move
    refine rvc_un (rexec_append C rfl rfl rfl rfl rfl rfl rfl rfl (fun _ h => by cases h) rfl (en := (eI .u8)) (D0 := []) (D := s.D) rfl rfl rfl rfl (by first | omega | (simp <;> omega)) (by decide) (nn := s.D.length) (by simp) ?_) -- t7 call
    refine rvc_un (rexec_prim C (δ := { v := .sl 7 0 s.D.length 1 false }) rfl rfl rfl rfl trivial rfl ?_) -- t2 assign
    refine rvc_nil ?_
    refine Awp.freezeW 7 (encL (eI .u8) s.D) ?_ [(2, sS (some false) (eI .u8) s.D)] [] ?_ ?_ ?_
    · rfl
    · exact ⟨⟨_, rfl, .inl (.inr ⟨_, _, _, rfl, rfl⟩)⟩, trivial⟩
    · exact trivial
    refine Awp.ret ?_
    subst hR
    exact ⟨.inl rfl, rfl⟩
def eqB (a : (Sl Int)) (b : (Sl Int)) : Bool :=
  ((strOf a.D).toList == (strOf b.D).toList)
theorem eqB_calls (a : (Sl Int)) (b : (Sl Int))  : PCalls Try.prog 24 [sS (some a.nil) (eI .u8) a.D, sS (some b.nil) (eI .u8) b.D] (.pv (.lit (.bool (eqB a b)))) := by
  generalize hR : eqB a b = R
  refine PCalls.of_body tabOk Try.func24 rfl rfl rfl rfl rfl mixed fun E hP C hI => ?_
  refine Awp.cons C (fun _ => .pure) (by kernel_rfl) ?_ -- region 0
  refine rvc_un (rexec_prim C (δ := { v := .pv (.lit (.bool false)) }) rfl rfl rfl rfl trivial rfl ?_) -- t4 assign
  refine rvc_nil ?_
  refine Awp.cons C (fun _ => .pure) (by kernel_rfl) ?_ -- region 1
  refine rvc_un (rexec_prim C (δ := { v := sS (some a.nil) (eI .u8) a.D }) rfl rfl rfl rfl trivial rfl ?_) -- t5 move
  refine rvc_un (rexec_convS C rfl rfl rfl rfl rfl rfl rfl rfl ?_) -- t6 convert
  refine rvc_un (rexec_prim C (δ := { v := sS (some b.nil) (eI .u8) b.D }) rfl rfl rfl rfl trivial rfl ?_) -- t7 move
  refine rvc_un (rexec_convS C rfl rfl rfl rfl rfl rfl rfl rfl ?_) -- t8 convert
  refine rvc_un (rexec_prim C (δ := { v := .pv (.lit (.bool ((strOf a.D).toList == (strOf b.D).toList))) }) rfl rfl rfl rfl trivial rfl ?_) -- t9 binOp
  refine rvc_un (rexec_prim C (δ := { v := .pv (.lit (.bool ((strOf a.D).toList == (strOf b.D).toList))) }) rfl rfl rfl rfl trivial rfl ?_) -- t4 assign
  refine rvc_nil ?_
  refine Awp.ret ?_
  subst hR
  exact ⟨.inl rfl, rfl⟩
theorem cloneI (f : Bool) (D : List Int) (hn : f = true → D = []) (hl : D.length ≤ 1000000) : PCalls Try.prog 22 [sI (some f) .u8 D] (sI (some f) .u8 D) := by
  have h := cloneB_calls ⟨f, D⟩ hl
  simp only [sS_I] at h
  cases f
  · exact h
  · rw [hn rfl] at h ⊢; exact h
theorem eqI_calls (f g : Bool) (D : List Int) : PCalls Try.prog 24 [sI (some f) .u8 D, sI (some g) .u8 D] (.pv (.bool true)) := by
  have h := eqB_calls ⟨f, D⟩ ⟨g, D⟩
  have e : eqB ⟨f, D⟩ ⟨g, D⟩ = true := by simp [eqB]
  rw [e] at h
  simp only [sS_I] at h
  exact h
theorem tagDigests_calls' {fK fD : Bool} {K D : List Int} (nK : fK = true → K = []) (nD : fD = true → D = []) {d : Nat → Int} {e : Int} (hK : K.length ≤ 4096) (hD : D.length ≤ 4096) (h14 : PCalls Try.prog 14 [sI (some fK) .u8 K, sI (some fD) .u8 D] (.tup [.agg (cI .u8 (tb 16 d)), .pv (.int .i64 e)])) (h23 : PCalls Try.prog 23 [sI (some fK) .u8 K, sI (some fD) .u8 D] (.tup [.agg (cI .u8 (tb 16 d)), .pv (.int .i64 e)])) : PCalls Try.prog 7 [sI (some fK) .u8 K, sI (some fD) .u8 D] (.pv (.bool true)) := by
  refine PCalls.of_body tabOk Try.func7 rfl rfl rfl rfl rfl mixed fun E hP C hI => ?_
  have gK : decide ((K.length : Int) > 4096) = false := by simp; omega
  refine Awp.cons C (fun _ => .pure) (by kernel_rfl) ?_ -- region 0 false
  refine rvc_prim C rfl rfl rfl rfl (trivial) rfl ?_ -- t4 assign
  refine rvc_nil ?_
  refine Awp.seq ?_
  refine Awp.cons C (fun _ => .pure) (by kernel_rfl) ?_ -- region 1 false
  refine rvc_prim C rfl rfl rfl rfl (trivial) rfl ?_ -- t11 move
  refine rvc_prim C rfl rfl rfl rfl (trivial) rfl ?_ -- t12 call
  refine rvc_prim C rfl rfl rfl rfl trivial rfl ?_
  rw [gK]
  refine rvc_prim C rfl rfl rfl rfl (trivial) rfl ?_ -- t14 move
  refine rvc_open rfl rfl rfl (rexec_prim C rfl rfl rfl rfl (trivial) rfl ?_) -- t15 move
  refine rvc_open rfl rfl rfl (rexec_prim C rfl rfl rfl rfl (trivial) rfl ?_) -- t16 call
  refine rvc_open rfl rfl rfl (rexec_prim C rfl rfl rfl rfl (trivial) rfl ?_) -- t17 binOp
  refine rvc_prim C rfl rfl rfl rfl (trivial) rfl ?_ -- t18 pick
  refine rvc_nil ?_
  refine Awp.condF rfl (by simp; omega) ?_
  refine Awp.skip ?_
  refine Awp.cons C (fun _ => .pure) (by kernel_rfl) ?_ -- region 3 false
  refine rvc_prim C rfl rfl rfl rfl (trivial) rfl ?_ -- t20 move
  refine rvc_call hP C rfl rfl rfl (cloneI fK K nK (by omega)) ?_
  refine rvc_prim C rfl rfl rfl rfl (trivial) rfl ?_ -- t22 move
  refine rvc_call hP C rfl rfl rfl (cloneI fD D nD (by omega)) ?_
  refine rvc_prim C rfl rfl rfl rfl (trivial) rfl ?_ -- t5 assign
  refine rvc_prim C rfl rfl rfl rfl (trivial) rfl ?_ -- t6 assign
  refine rvc_nil ?_
  refine Awp.cons C (fun _ => .pure) (by kernel_rfl) ?_ -- region 4 false
  refine rvc_prim C rfl rfl rfl rfl (trivial) rfl ?_ -- t25 move
  refine rvc_prim C rfl rfl rfl rfl (trivial) rfl ?_ -- t26 move
  refine rvc_call hP C rfl rfl rfl (h14) ?_ -- t27 call
  refine rvc_prim C rfl rfl rfl rfl (trivial) rfl ?_ -- t24 move
  refine rvc_prim C rfl rfl rfl rfl (trivial) rfl ?_ -- t28 extract
  refine rvc_prim C rfl rfl rfl rfl (trivial) rfl ?_ -- t29 extract
  refine rvc_prim C rfl rfl rfl rfl (trivial) rfl ?_ -- t7 alloc
  refine rvc_prim C rfl rfl rfl rfl (trivial) rfl ?_ -- s0 store
  refine rvc_prim C rfl rfl rfl rfl (trivial) rfl ?_ -- t8 assign
  refine rvc_nil ?_
  refine Awp.cons C (fun _ => .pure) (by kernel_rfl) ?_ -- region 5 false
  refine rvc_prim C rfl rfl rfl rfl (trivial) rfl ?_ -- t31 move
  refine rvc_prim C rfl rfl rfl rfl (trivial) rfl ?_ -- t32 move
  refine rvc_call hP C rfl rfl rfl (h23) ?_ -- t33 call
  refine rvc_prim C rfl rfl rfl rfl (trivial) rfl ?_ -- t30 move
  refine rvc_prim C rfl rfl rfl rfl (trivial) rfl ?_ -- t34 extract
  refine rvc_prim C rfl rfl rfl rfl (trivial) rfl ?_ -- t35 extract
  refine rvc_prim C rfl rfl rfl rfl (trivial) rfl ?_ -- t9 alloc
  refine rvc_prim C rfl rfl rfl rfl (trivial) rfl ?_ -- s1 store
  refine rvc_prim C rfl rfl rfl rfl (trivial) rfl ?_ -- t10 assign
  refine rvc_nil ?_
  refine Awp.cons C (fun _ => .pure) (by kernel_rfl) ?_ -- region 6 false
  refine rvc_prim C rfl rfl rfl rfl (trivial) rfl ?_ -- t36 load
  refine rvc_prim C rfl rfl rfl rfl (trivial) rfl ?_ -- t37 load
  refine rvc_prim C rfl rfl rfl (prim_eqI (k := .u8) (m := 16) (f := d) (h := d) rfl rfl rfl rfl rfl rfl) trivial rfl ?_
  rw [show eqI 16 d d = true from eqI_iff.2 rfl]
  refine rvc_prim C rfl rfl rfl rfl (trivial) rfl ?_ -- t39 move
  refine rvc_open rfl rfl rfl (rexec_prim C rfl rfl rfl rfl (trivial) rfl ?_) -- t40 move
  refine rvc_open rfl rfl rfl (rexec_prim C rfl rfl rfl rfl (trivial) rfl ?_) -- t41 move
  refine rvc_open rfl rfl rfl (rexec_prim C rfl rfl rfl rfl trivial rfl ?_)
  rw [beq_self_eq_true]
  refine rvc_prim C rfl rfl rfl rfl (trivial) rfl ?_ -- t43 pick
  refine rvc_prim C rfl rfl rfl rfl (trivial) rfl ?_ -- t44 move
  refine rvc_open rfl rfl rfl (rexec_prim C rfl rfl rfl rfl (trivial) rfl ?_) -- t45 move
  refine rvc_open rfl rfl rfl (rexec_prim C rfl rfl rfl rfl (trivial) rfl ?_) -- t46 move
  refine rvc_open rfl rfl rfl (rexec_call hP C rfl rfl rfl (eqI_calls _ _ _) ?_) -- t47 call
  refine rvc_prim C rfl rfl rfl rfl (trivial) rfl ?_ -- t48 pick
  refine rvc_prim C rfl rfl rfl rfl (trivial) rfl ?_ -- t49 move
  refine rvc_open rfl rfl rfl (rexec_prim C rfl rfl rfl rfl (trivial) rfl ?_) -- t50 move
  refine rvc_open rfl rfl rfl (rexec_prim C rfl rfl rfl rfl (trivial) rfl ?_) -- t51 move
  refine rvc_open rfl rfl rfl (rexec_call hP C rfl rfl rfl (eqI_calls _ _ _) ?_) -- t52 call
  refine rvc_prim C rfl rfl rfl rfl (trivial) rfl ?_ -- t53 pick
  refine rvc_prim C rfl rfl rfl rfl (trivial) rfl ?_ -- t54 move
  refine rvc_open rfl rfl rfl (rexec_call hP C rfl rfl rfl (awake_calls) ?_) -- t55 call
  refine rvc_prim C rfl rfl rfl rfl (trivial) rfl ?_ -- t56 pick
  refine rvc_prim C rfl rfl rfl rfl (trivial) rfl ?_ -- t4 assign
  refine rvc_nil ?_
  refine Awp.ret ?_
  exact ⟨.inl rfl, rfl⟩
theorem tagDigests_calls (fK : Bool) (K : List Int) (nK : fK = true → K = []) (wfK : ∀ n ∈ K, (Lit.int .u8 n).wf = true) (_ : K.length ≤ maxLen) (fD : Bool) (D : List Int) (nD : fD = true → D = []) (wfD : ∀ n ∈ D, (Lit.int .u8 n).wf = true) (_ : D.length ≤ maxLen) : PCalls Try.prog 7 [sI (some fK) .u8 K, sI (some fD) .u8 D] (.pv (.bool true)) := by
  by_cases hK : 4096 < K.length
  · refine PCalls.of_body tabOk Try.func7 rfl rfl rfl rfl rfl mixed fun E hP C hI => ?_
    have gK : decide ((K.length : Int) > 4096) = true := by simp; omega
    refine Awp.cons C (fun _ => .pure) (by kernel_rfl) ?_ -- region 0 false
    refine rvc_prim C rfl rfl rfl rfl (trivial) rfl ?_ -- t4 assign
    refine rvc_nil ?_
    refine Awp.seq ?_
    refine Awp.cons C (fun _ => .pure) (by kernel_rfl) ?_ -- region 1 false
    refine rvc_prim C rfl rfl rfl rfl (trivial) rfl ?_ -- t11 move
    refine rvc_prim C rfl rfl rfl rfl (trivial) rfl ?_ -- t12 call
    refine rvc_prim C rfl rfl rfl rfl trivial rfl ?_
    rw [gK]
    refine rvc_prim C rfl rfl rfl rfl (trivial) rfl ?_ -- t14 move
    refine rvc_shut rfl rfl rfl rfl ?_
    refine rvc_shut rfl rfl rfl rfl ?_
    refine rvc_shut rfl rfl rfl rfl ?_
    refine rvc_prim C rfl rfl rfl rfl (trivial) rfl ?_ -- t18 pick
    refine rvc_nil ?_
    refine Awp.condT rfl (rfl) ?_
    refine Awp.cons C (fun _ => .pure) (by kernel_rfl) ?_ -- region 2 false
    refine rvc_call hP C rfl rfl rfl (awake_calls) ?_ -- t19 call
    refine rvc_prim C rfl rfl rfl rfl (trivial) rfl ?_ -- t4 assign
    refine rvc_nil ?_
    refine Awp.ret ?_
    exact ⟨.inl rfl, rfl⟩
  by_cases hD : 4096 < D.length
  · refine PCalls.of_body tabOk Try.func7 rfl rfl rfl rfl rfl mixed fun E hP C hI => ?_
    have gK : decide ((K.length : Int) > 4096) = false := by simp; omega
    refine Awp.cons C (fun _ => .pure) (by kernel_rfl) ?_ -- region 0 false
    refine rvc_prim C rfl rfl rfl rfl (trivial) rfl ?_ -- t4 assign
    refine rvc_nil ?_
    refine Awp.seq ?_
    refine Awp.cons C (fun _ => .pure) (by kernel_rfl) ?_ -- region 1 false
    refine rvc_prim C rfl rfl rfl rfl (trivial) rfl ?_ -- t11 move
    refine rvc_prim C rfl rfl rfl rfl (trivial) rfl ?_ -- t12 call
    refine rvc_prim C rfl rfl rfl rfl trivial rfl ?_
    rw [gK]
    refine rvc_prim C rfl rfl rfl rfl (trivial) rfl ?_ -- t14 move
    refine rvc_open rfl rfl rfl (rexec_prim C rfl rfl rfl rfl (trivial) rfl ?_) -- t15 move
    refine rvc_open rfl rfl rfl (rexec_prim C rfl rfl rfl rfl (trivial) rfl ?_) -- t16 call
    refine rvc_open rfl rfl rfl (rexec_prim C rfl rfl rfl rfl (trivial) rfl ?_) -- t17 binOp
    refine rvc_prim C rfl rfl rfl rfl (trivial) rfl ?_ -- t18 pick
    refine rvc_nil ?_
    refine Awp.condT rfl (by simp; omega) ?_
    refine Awp.cons C (fun _ => .pure) (by kernel_rfl) ?_ -- region 2 false
    refine rvc_call hP C rfl rfl rfl (awake_calls) ?_ -- t19 call
    refine rvc_prim C rfl rfl rfl rfl (trivial) rfl ?_ -- t4 assign
    refine rvc_nil ?_
    refine Awp.ret ?_
    exact ⟨.inl rfl, rfl⟩
  by_cases h16 : K.length = 16
  · exact tagDigests_calls' nK nD (by omega) (by omega) (of_good _ _ K D h16 (by omega)) (refOf_good _ _ K D h16 (R8l.of_wf wfK) (R8l.of_wf wfD) (by omega))
  · exact tagDigests_calls' nK nD (by omega) (by omega) (of_bad _ _ K D h16) (refOf_bad _ _ K D h16)
end Go.Proofs.Ytaoagcdljmpllaa
