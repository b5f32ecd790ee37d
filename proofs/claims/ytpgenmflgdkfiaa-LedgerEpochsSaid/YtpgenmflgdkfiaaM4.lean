import Derived.Test.YtpgenmflgdkfiaaM3
import Derived.Test.YtpgenmflgdkfiaaM2
/- Small functions of layout. No conditions. -/
namespace Go.Proofs.Ytpgenmflgdkfiaa
open Go.Am
structure Member where
  node : Int
  site : Int
  fresh : Bool
  deriving Inhabited
def eMember : Enc Member := ⟨3, fun x => [.lit (.int .i64 x.node), .lit (.int .i64 x.site), .lit (.bool x.fresh)], fun _ => rfl⟩
structure Chain where
  epoch : Int
  members : (Sl Member)
  deriving Inhabited
def eChain : Enc Chain := ⟨2, fun x => [.lit (.int .i64 x.epoch), .sl (some x.members.nil) x.members.D.length (encL eMember x.members.D)], fun _ => rfl⟩
def mIn (n : Int) : Bool :=
  (bif (decide (n ≥ 0)) then (decide (n < 64)) else false)
theorem mIn_calls (n : Int)  : PCalls Try.prog 77 [.pv (.lit (.int .i64 n))] (.pv (.lit (.bool (mIn n)))) := by
 generalize hR : mIn n = R
 refine PCalls.of_body tabOk Try.func77 rfl rfl rfl rfl rfl mixed fun E hP C hI => ?_
 refine Awp.consP C ?_
 refine rvP C (.pv (.lit (.bool false))) ?_
 refine rvc_nil ?_
 refine Awp.consP C ?_
 refine rvP C (.pv (.lit (.int .i64 n))) ?_
 refine rvP C (.pv (.lit (.bool (decide (n ≥ 0))))) ?_
 refine rvP C (.pv (.lit (.bool (decide (n ≥ 0))))) ?_
 refine rvc_case 5 (decide (n ≥ 0)) rfl (fun h1 => ?_) (fun h1 => ?_)
 ·
  replace hR := of_true h1 hR
  refine rvO C (.pv (.lit (.int .i64 n))) ?_
  refine rvO C (.pv (.lit (.bool (decide (n < 64))))) ?_
  refine rvP C (.pv (.lit (.bool (decide (n < 64))))) ?_
  refine rvP C (.pv (.lit (.bool (decide (n < 64))))) ?_
  refine rvc_nil ?_
  refine Awp.ret ?_
  subst hR
  exact ⟨.inl rfl, rfl⟩
 ·
  replace hR := of_false h1 hR
  refine rvS ?_
  refine rvS ?_
  refine rvP C (.pv (.lit (.bool false))) ?_
  refine rvP C (.pv (.lit (.bool false))) ?_
  refine rvc_nil ?_
  refine Awp.ret ?_
  subst hR
  exact ⟨.inl rfl, rfl⟩
def mHas (s : Int) (n : Int) : Bool :=
  (bif (mIn n) then ((bitI .and .u64 (shrI .u64 s n) 1) == 1) else false)
theorem mHas_calls (s : Int) (n : Int)  : PCalls Try.prog 56 [.pv (.lit (.int .u64 s)), .pv (.lit (.int .i64 n))] (.pv (.lit (.bool (mHas s n)))) := by
 generalize hR : mHas s n = R
 refine PCalls.of_body tabOk Try.func56 rfl rfl rfl rfl rfl mixed fun E hP C hI => ?_
 refine Awp.consP C ?_
 refine rvP C (.pv (.lit (.bool false))) ?_
 refine rvc_nil ?_
 refine Awp.consP C ?_
 refine rvP C (.pv (.lit (.int .i64 n))) ?_
 refine rvc_un (rexec_call hP C rfl rfl rfl (mIn_calls n) ?_)
 refine rvP C (.pv (.lit (.bool (mIn n)))) ?_
 refine rvc_case 7 (mIn n) rfl (fun h1 => ?_) (fun h1 => ?_)
 ·
  replace hR := of_true h1 hR
  refine rvO C (.pv (.lit (.int .u64 s))) ?_
  refine rvO C (.pv (.lit (.int .i64 n))) ?_
  refine rvc_open rfl rfl rfl (rexec_prim C (δ := { v := .pv (.lit (.int .u64 (shrI .u64 s n))) }) rfl rfl rfl rfl (by simp [mIn] at h1; omega) rfl ?_)
  refine rvO C (.pv (.lit (.int .u64 (bitI .and .u64 (shrI .u64 s n) 1)))) ?_
  refine rvO C (.pv (.lit (.bool ((bitI .and .u64 (shrI .u64 s n) 1) == 1)))) ?_
  refine rvP C (.pv (.lit (.bool ((bitI .and .u64 (shrI .u64 s n) 1) == 1)))) ?_
  refine rvP C (.pv (.lit (.bool ((bitI .and .u64 (shrI .u64 s n) 1) == 1)))) ?_
  refine rvc_nil ?_
  refine Awp.ret ?_
  subst hR
  exact ⟨.inl rfl, rfl⟩
 ·
  replace hR := of_false h1 hR
  refine rvS ?_
  refine rvS ?_
  refine rvS ?_
  refine rvS ?_
  refine rvS ?_
  refine rvP C (.pv (.lit (.bool false))) ?_
  refine rvP C (.pv (.lit (.bool false))) ?_
  refine rvc_nil ?_
  refine Awp.ret ?_
  subst hR
  exact ⟨.inl rfl, rfl⟩
def mWith (s : Int) (n : Int) : Int :=
  (bif (!(mIn n)) then s else (bitI .or .u64 s (shlI .u64 1 n)))
theorem mWith_calls (s : Int) (n : Int)  : PCalls Try.prog 57 [.pv (.lit (.int .u64 s)), .pv (.lit (.int .i64 n))] (.pv (.lit (.int .u64 (mWith s n)))) := by
 generalize hR : mWith s n = R
 refine PCalls.of_body tabOk Try.func57 rfl rfl rfl rfl rfl mixed fun E hP C hI => ?_
 refine Awp.consP C ?_
 refine rvP C (.pv (.lit (.int .u64 0))) ?_
 refine rvc_nil ?_
 refine Awp.seq ?_
 refine Awp.consP C ?_
 refine rvP C (.pv (.lit (.int .i64 n))) ?_
 refine rvc_un (rexec_call hP C rfl rfl rfl (mIn_calls n) ?_)
 refine rvP C (.pv (.lit (.bool (!(mIn n))))) ?_
 refine rvc_nil ?_
 refine Awp.cond (b := (!(mIn n))) rfl (fun h1 => ?_) (fun h1 => ?_)
 ·
  replace hR := of_true h1 hR
  refine Awp.consP C ?_
  refine rvP C (.pv (.lit (.int .u64 s))) ?_
  refine rvP C (.pv (.lit (.int .u64 s))) ?_
  refine rvc_nil ?_
  refine Awp.ret ?_
  subst hR
  exact ⟨.inl rfl, rfl⟩
 ·
  replace hR := of_false h1 hR
  refine Awp.skip ?_
  refine Awp.consP C ?_
  refine rvP C (.pv (.lit (.int .u64 s))) ?_
  refine rvP C (.pv (.lit (.int .i64 n))) ?_
  refine rvc_un (rexec_prim C (δ := { v := .pv (.lit (.int .u64 (shlI .u64 1 n))) }) rfl rfl rfl rfl (by simp [mIn] at h1; omega) rfl ?_)
  refine rvP C (.pv (.lit (.int .u64 (bitI .or .u64 s (shlI .u64 1 n))))) ?_
  refine rvP C (.pv (.lit (.int .u64 (bitI .or .u64 s (shlI .u64 1 n))))) ?_
  refine rvc_nil ?_
  refine Awp.ret ?_
  subst hR
  exact ⟨.inl rfl, rfl⟩
def mLen (s : Int) : Int :=
  (IntKind.i64.wrap (shrI .u64 (IntKind.u64.wrap ((bitI .and .u64 (IntKind.u64.wrap ((IntKind.u64.wrap ((bitI .and .u64 (IntKind.u64.wrap (s - (bitI .and .u64 (shrI .u64 s 1) 6148914691236517205))) 3689348814741910323) + (bitI .and .u64 (shrI .u64 (IntKind.u64.wrap (s - (bitI .and .u64 (shrI .u64 s 1) 6148914691236517205))) 2) 3689348814741910323))) + (shrI .u64 (IntKind.u64.wrap ((bitI .and .u64 (IntKind.u64.wrap (s - (bitI .and .u64 (shrI .u64 s 1) 6148914691236517205))) 3689348814741910323) + (bitI .and .u64 (shrI .u64 (IntKind.u64.wrap (s - (bitI .and .u64 (shrI .u64 s 1) 6148914691236517205))) 2) 3689348814741910323))) 4))) 1085102592571150095) * 72340172838076673)) 56))
theorem mLen_calls (s : Int)  : PCalls Try.prog 39 [.pv (.lit (.int .u64 s))] (.pv (.lit (.int .i64 (mLen s)))) := by
 generalize hR : mLen s = R
 refine PCalls.of_body tabOk Try.func39 rfl rfl rfl rfl rfl mixed fun E hP C hI => ?_
 refine Awp.consP C ?_
 refine rvP C (.pv (.lit (.int .i64 0))) ?_
 refine rvc_nil ?_
 refine Awp.consP C ?_
 refine rvP C (.pv (.lit (.int .u64 s))) ?_
 refine rvP C (.pv (.lit (.int .u64 s))) ?_
 refine rvc_nil ?_
 refine Awp.consP C ?_
 refine rvP C (.pv (.lit (.int .u64 s))) ?_
 refine rvP C (.pv (.lit (.int .u64 s))) ?_
 refine rvc_un (rexec_prim C (δ := { v := .pv (.lit (.int .u64 (shrI .u64 s 1))) }) rfl rfl rfl rfl (by first | decide | assumption | omega) rfl ?_)
 refine rvP C (.pv (.lit (.int .u64 (bitI .and .u64 (shrI .u64 s 1) 6148914691236517205)))) ?_
 refine rvP C (.pv (.lit (.int .u64 (IntKind.u64.wrap (s - (bitI .and .u64 (shrI .u64 s 1) 6148914691236517205)))))) ?_
 refine rvP C (.pv (.lit (.int .u64 (IntKind.u64.wrap (s - (bitI .and .u64 (shrI .u64 s 1) 6148914691236517205)))))) ?_
 refine rvc_nil ?_
 refine Awp.consP C ?_
 refine rvP C (.pv (.lit (.int .u64 (IntKind.u64.wrap (s - (bitI .and .u64 (shrI .u64 s 1) 6148914691236517205)))))) ?_
 refine rvP C (.pv (.lit (.int .u64 (bitI .and .u64 (IntKind.u64.wrap (s - (bitI .and .u64 (shrI .u64 s 1) 6148914691236517205))) 3689348814741910323)))) ?_
 refine rvP C (.pv (.lit (.int .u64 (IntKind.u64.wrap (s - (bitI .and .u64 (shrI .u64 s 1) 6148914691236517205)))))) ?_
 refine rvc_un (rexec_prim C (δ := { v := .pv (.lit (.int .u64 (shrI .u64 (IntKind.u64.wrap (s - (bitI .and .u64 (shrI .u64 s 1) 6148914691236517205))) 2))) }) rfl rfl rfl rfl (by first | decide | assumption | omega) rfl ?_)
 refine rvP C (.pv (.lit (.int .u64 (bitI .and .u64 (shrI .u64 (IntKind.u64.wrap (s - (bitI .and .u64 (shrI .u64 s 1) 6148914691236517205))) 2) 3689348814741910323)))) ?_
 refine rvP C (.pv (.lit (.int .u64 (IntKind.u64.wrap ((bitI .and .u64 (IntKind.u64.wrap (s - (bitI .and .u64 (shrI .u64 s 1) 6148914691236517205))) 3689348814741910323) + (bitI .and .u64 (shrI .u64 (IntKind.u64.wrap (s - (bitI .and .u64 (shrI .u64 s 1) 6148914691236517205))) 2) 3689348814741910323)))))) ?_
 refine rvP C (.pv (.lit (.int .u64 (IntKind.u64.wrap ((bitI .and .u64 (IntKind.u64.wrap (s - (bitI .and .u64 (shrI .u64 s 1) 6148914691236517205))) 3689348814741910323) + (bitI .and .u64 (shrI .u64 (IntKind.u64.wrap (s - (bitI .and .u64 (shrI .u64 s 1) 6148914691236517205))) 2) 3689348814741910323)))))) ?_
 refine rvc_nil ?_
 refine Awp.consP C ?_
 refine rvP C (.pv (.lit (.int .u64 (IntKind.u64.wrap ((bitI .and .u64 (IntKind.u64.wrap (s - (bitI .and .u64 (shrI .u64 s 1) 6148914691236517205))) 3689348814741910323) + (bitI .and .u64 (shrI .u64 (IntKind.u64.wrap (s - (bitI .and .u64 (shrI .u64 s 1) 6148914691236517205))) 2) 3689348814741910323)))))) ?_
 refine rvP C (.pv (.lit (.int .u64 (IntKind.u64.wrap ((bitI .and .u64 (IntKind.u64.wrap (s - (bitI .and .u64 (shrI .u64 s 1) 6148914691236517205))) 3689348814741910323) + (bitI .and .u64 (shrI .u64 (IntKind.u64.wrap (s - (bitI .and .u64 (shrI .u64 s 1) 6148914691236517205))) 2) 3689348814741910323)))))) ?_
 refine rvc_un (rexec_prim C (δ := { v := .pv (.lit (.int .u64 (shrI .u64 (IntKind.u64.wrap ((bitI .and .u64 (IntKind.u64.wrap (s - (bitI .and .u64 (shrI .u64 s 1) 6148914691236517205))) 3689348814741910323) + (bitI .and .u64 (shrI .u64 (IntKind.u64.wrap (s - (bitI .and .u64 (shrI .u64 s 1) 6148914691236517205))) 2) 3689348814741910323))) 4))) }) rfl rfl rfl rfl (by first | decide | assumption | omega) rfl ?_)
 refine rvP C (.pv (.lit (.int .u64 (IntKind.u64.wrap ((IntKind.u64.wrap ((bitI .and .u64 (IntKind.u64.wrap (s - (bitI .and .u64 (shrI .u64 s 1) 6148914691236517205))) 3689348814741910323) + (bitI .and .u64 (shrI .u64 (IntKind.u64.wrap (s - (bitI .and .u64 (shrI .u64 s 1) 6148914691236517205))) 2) 3689348814741910323))) + (shrI .u64 (IntKind.u64.wrap ((bitI .and .u64 (IntKind.u64.wrap (s - (bitI .and .u64 (shrI .u64 s 1) 6148914691236517205))) 3689348814741910323) + (bitI .and .u64 (shrI .u64 (IntKind.u64.wrap (s - (bitI .and .u64 (shrI .u64 s 1) 6148914691236517205))) 2) 3689348814741910323))) 4)))))) ?_
 refine rvP C (.pv (.lit (.int .u64 (bitI .and .u64 (IntKind.u64.wrap ((IntKind.u64.wrap ((bitI .and .u64 (IntKind.u64.wrap (s - (bitI .and .u64 (shrI .u64 s 1) 6148914691236517205))) 3689348814741910323) + (bitI .and .u64 (shrI .u64 (IntKind.u64.wrap (s - (bitI .and .u64 (shrI .u64 s 1) 6148914691236517205))) 2) 3689348814741910323))) + (shrI .u64 (IntKind.u64.wrap ((bitI .and .u64 (IntKind.u64.wrap (s - (bitI .and .u64 (shrI .u64 s 1) 6148914691236517205))) 3689348814741910323) + (bitI .and .u64 (shrI .u64 (IntKind.u64.wrap (s - (bitI .and .u64 (shrI .u64 s 1) 6148914691236517205))) 2) 3689348814741910323))) 4))) 1085102592571150095)))) ?_
 refine rvP C (.pv (.lit (.int .u64 (bitI .and .u64 (IntKind.u64.wrap ((IntKind.u64.wrap ((bitI .and .u64 (IntKind.u64.wrap (s - (bitI .and .u64 (shrI .u64 s 1) 6148914691236517205))) 3689348814741910323) + (bitI .and .u64 (shrI .u64 (IntKind.u64.wrap (s - (bitI .and .u64 (shrI .u64 s 1) 6148914691236517205))) 2) 3689348814741910323))) + (shrI .u64 (IntKind.u64.wrap ((bitI .and .u64 (IntKind.u64.wrap (s - (bitI .and .u64 (shrI .u64 s 1) 6148914691236517205))) 3689348814741910323) + (bitI .and .u64 (shrI .u64 (IntKind.u64.wrap (s - (bitI .and .u64 (shrI .u64 s 1) 6148914691236517205))) 2) 3689348814741910323))) 4))) 1085102592571150095)))) ?_
 refine rvc_nil ?_
 refine Awp.consP C ?_
 refine rvP C (.pv (.lit (.int .u64 (bitI .and .u64 (IntKind.u64.wrap ((IntKind.u64.wrap ((bitI .and .u64 (IntKind.u64.wrap (s - (bitI .and .u64 (shrI .u64 s 1) 6148914691236517205))) 3689348814741910323) + (bitI .and .u64 (shrI .u64 (IntKind.u64.wrap (s - (bitI .and .u64 (shrI .u64 s 1) 6148914691236517205))) 2) 3689348814741910323))) + (shrI .u64 (IntKind.u64.wrap ((bitI .and .u64 (IntKind.u64.wrap (s - (bitI .and .u64 (shrI .u64 s 1) 6148914691236517205))) 3689348814741910323) + (bitI .and .u64 (shrI .u64 (IntKind.u64.wrap (s - (bitI .and .u64 (shrI .u64 s 1) 6148914691236517205))) 2) 3689348814741910323))) 4))) 1085102592571150095)))) ?_
 refine rvP C (.pv (.lit (.int .u64 (IntKind.u64.wrap ((bitI .and .u64 (IntKind.u64.wrap ((IntKind.u64.wrap ((bitI .and .u64 (IntKind.u64.wrap (s - (bitI .and .u64 (shrI .u64 s 1) 6148914691236517205))) 3689348814741910323) + (bitI .and .u64 (shrI .u64 (IntKind.u64.wrap (s - (bitI .and .u64 (shrI .u64 s 1) 6148914691236517205))) 2) 3689348814741910323))) + (shrI .u64 (IntKind.u64.wrap ((bitI .and .u64 (IntKind.u64.wrap (s - (bitI .and .u64 (shrI .u64 s 1) 6148914691236517205))) 3689348814741910323) + (bitI .and .u64 (shrI .u64 (IntKind.u64.wrap (s - (bitI .and .u64 (shrI .u64 s 1) 6148914691236517205))) 2) 3689348814741910323))) 4))) 1085102592571150095) * 72340172838076673))))) ?_
 refine rvc_un (rexec_prim C (δ := { v := .pv (.lit (.int .u64 (shrI .u64 (IntKind.u64.wrap ((bitI .and .u64 (IntKind.u64.wrap ((IntKind.u64.wrap ((bitI .and .u64 (IntKind.u64.wrap (s - (bitI .and .u64 (shrI .u64 s 1) 6148914691236517205))) 3689348814741910323) + (bitI .and .u64 (shrI .u64 (IntKind.u64.wrap (s - (bitI .and .u64 (shrI .u64 s 1) 6148914691236517205))) 2) 3689348814741910323))) + (shrI .u64 (IntKind.u64.wrap ((bitI .and .u64 (IntKind.u64.wrap (s - (bitI .and .u64 (shrI .u64 s 1) 6148914691236517205))) 3689348814741910323) + (bitI .and .u64 (shrI .u64 (IntKind.u64.wrap (s - (bitI .and .u64 (shrI .u64 s 1) 6148914691236517205))) 2) 3689348814741910323))) 4))) 1085102592571150095) * 72340172838076673)) 56))) }) rfl rfl rfl rfl (by first | decide | assumption | omega) rfl ?_)
 refine rvP C (.pv (.lit (.int .i64 (IntKind.i64.wrap (shrI .u64 (IntKind.u64.wrap ((bitI .and .u64 (IntKind.u64.wrap ((IntKind.u64.wrap ((bitI .and .u64 (IntKind.u64.wrap (s - (bitI .and .u64 (shrI .u64 s 1) 6148914691236517205))) 3689348814741910323) + (bitI .and .u64 (shrI .u64 (IntKind.u64.wrap (s - (bitI .and .u64 (shrI .u64 s 1) 6148914691236517205))) 2) 3689348814741910323))) + (shrI .u64 (IntKind.u64.wrap ((bitI .and .u64 (IntKind.u64.wrap (s - (bitI .and .u64 (shrI .u64 s 1) 6148914691236517205))) 3689348814741910323) + (bitI .and .u64 (shrI .u64 (IntKind.u64.wrap (s - (bitI .and .u64 (shrI .u64 s 1) 6148914691236517205))) 2) 3689348814741910323))) 4))) 1085102592571150095) * 72340172838076673)) 56))))) ?_
 refine rvP C (.pv (.lit (.int .i64 (IntKind.i64.wrap (shrI .u64 (IntKind.u64.wrap ((bitI .and .u64 (IntKind.u64.wrap ((IntKind.u64.wrap ((bitI .and .u64 (IntKind.u64.wrap (s - (bitI .and .u64 (shrI .u64 s 1) 6148914691236517205))) 3689348814741910323) + (bitI .and .u64 (shrI .u64 (IntKind.u64.wrap (s - (bitI .and .u64 (shrI .u64 s 1) 6148914691236517205))) 2) 3689348814741910323))) + (shrI .u64 (IntKind.u64.wrap ((bitI .and .u64 (IntKind.u64.wrap (s - (bitI .and .u64 (shrI .u64 s 1) 6148914691236517205))) 3689348814741910323) + (bitI .and .u64 (shrI .u64 (IntKind.u64.wrap (s - (bitI .and .u64 (shrI .u64 s 1) 6148914691236517205))) 2) 3689348814741910323))) 4))) 1085102592571150095) * 72340172838076673)) 56))))) ?_
 refine rvc_nil ?_
 refine Awp.ret ?_
 subst hR
 exact ⟨.inl rfl, rfl⟩
def member (m : Member) : Bool :=
  (bif (decide (m.node ≥ 0)) then (bif (decide (m.node < 6)) then (bif (decide (m.site ≥ 0)) then (decide (m.site < 3)) else false) else false) else false)
theorem member_calls (m : Member)  : PCalls Try.prog 55 [.agg [.pv (.lit (.int .i64 m.node)), .pv (.lit (.int .i64 m.site)), .pv (.lit (.bool m.fresh))]] (.pv (.lit (.bool (member m)))) := by
 generalize hR : member m = R
 refine PCalls.of_body tabOk Try.func55 rfl rfl rfl rfl rfl mixed fun E hP C hI => ?_
 refine Awp.consP C ?_
 refine rvc_un (rexec_prim C (δ := { v := .ptr 1 0, new := [(1, .cells [.pv (.lit (.int .i64 m.node)), .pv (.lit (.int .i64 m.site)), .pv (.lit (.bool m.fresh))])] }) rfl rfl rfl rfl trivial rfl ?_)
 refine rvP C (.pv (.lit (.bool false))) ?_
 refine rvc_nil ?_
 refine Awp.consP C ?_
 refine rvP C (.ptr 1 0) ?_
 refine rvP C (.pv (.lit (.int .i64 m.node))) ?_
 refine rvP C (.pv (.lit (.bool (decide (m.node ≥ 0))))) ?_
 refine rvP C (.pv (.lit (.bool (decide (m.node ≥ 0))))) ?_
 refine rvc_case 6 (decide (m.node ≥ 0)) rfl (fun h1 => ?_) (fun h1 => ?_)
 ·
  replace hR := of_true h1 hR
  refine rvO C (.ptr 1 0) ?_
  refine rvO C (.pv (.lit (.int .i64 m.node))) ?_
  refine rvO C (.pv (.lit (.bool (decide (m.node < 6))))) ?_
  refine rvP C (.pv (.lit (.bool (decide (m.node < 6))))) ?_
  refine rvP C (.pv (.lit (.bool (decide (m.node < 6))))) ?_
  refine rvc_case 11 (decide (m.node < 6)) rfl (fun h2 => ?_) (fun h2 => ?_)
  ·
   replace hR := of_true h2 hR
   refine rvO C (.ptr 1 1) ?_
   refine rvO C (.pv (.lit (.int .i64 m.site))) ?_
   refine rvO C (.pv (.lit (.bool (decide (m.site ≥ 0))))) ?_
   refine rvP C (.pv (.lit (.bool (decide (m.site ≥ 0))))) ?_
   refine rvP C (.pv (.lit (.bool (decide (m.site ≥ 0))))) ?_
   refine rvc_case 16 (decide (m.site ≥ 0)) rfl (fun h3 => ?_) (fun h3 => ?_)
   ·
    replace hR := of_true h3 hR
    refine rvO C (.ptr 1 1) ?_
    refine rvO C (.pv (.lit (.int .i64 m.site))) ?_
    refine rvO C (.pv (.lit (.bool (decide (m.site < 3))))) ?_
    refine rvP C (.pv (.lit (.bool (decide (m.site < 3))))) ?_
    refine rvP C (.pv (.lit (.bool (decide (m.site < 3))))) ?_
    refine rvc_nil ?_
    refine Awp.ret ?_
    subst hR
    exact ⟨.inl rfl, rfl⟩
   ·
    replace hR := of_false h3 hR
    refine rvS ?_
    refine rvS ?_
    refine rvS ?_
    refine rvP C (.pv (.lit (.bool false))) ?_
    refine rvP C (.pv (.lit (.bool false))) ?_
    refine rvc_nil ?_
    refine Awp.ret ?_
    subst hR
    exact ⟨.inl rfl, rfl⟩
  ·
   replace hR := of_false h2 hR
   refine rvS ?_
   refine rvS ?_
   refine rvS ?_
   refine rvP C (.pv (.lit (.bool false))) ?_
   refine rvP C (.pv (.lit (.bool false))) ?_
   refine rvS ?_
   refine rvS ?_
   refine rvS ?_
   refine rvP C (.pv (.lit (.bool false))) ?_
   refine rvP C (.pv (.lit (.bool false))) ?_
   refine rvc_nil ?_
   refine Awp.ret ?_
   subst hR
   exact ⟨.inl rfl, rfl⟩
 ·
  replace hR := of_false h1 hR
  refine rvS ?_
  refine rvS ?_
  refine rvS ?_
  refine rvP C (.pv (.lit (.bool false))) ?_
  refine rvP C (.pv (.lit (.bool false))) ?_
  refine rvS ?_
  refine rvS ?_
  refine rvS ?_
  refine rvP C (.pv (.lit (.bool false))) ?_
  refine rvP C (.pv (.lit (.bool false))) ?_
  refine rvS ?_
  refine rvS ?_
  refine rvS ?_
  refine rvP C (.pv (.lit (.bool false))) ?_
  refine rvP C (.pv (.lit (.bool false))) ?_
  refine rvc_nil ?_
  refine Awp.ret ?_
  subst hR
  exact ⟨.inl rfl, rfl⟩
def after (c : Chain) (l : (Sl Member)) : Chain :=
  (Chain.mk (IntKind.i64.wrap (c.epoch + 1)) l)
theorem after_calls (c : Chain) (l : (Sl Member))  : PCalls Try.prog 82 [.agg [.pv (.lit (.int .i64 c.epoch)), sS (some c.members.nil) eMember c.members.D], sS (some l.nil) eMember l.D] (.agg [.pv (.lit (.int .i64 ((after c l).epoch))), sS (some (after c l).members.nil) eMember ((after c l).members.D)]) := by
 generalize hR : after c l = R
 refine PCalls.of_body tabOk Try.func82 rfl rfl rfl rfl rfl mixed fun E hP C hI => ?_
 refine Awp.consP C ?_
 refine rvc_un (rexec_prim C (δ := { v := .ptr 2 0, new := [(2, .cells [.pv (.lit (.int .i64 c.epoch)), sS (some c.members.nil) eMember c.members.D])] }) rfl rfl rfl rfl trivial rfl ?_)
 refine rvc_un (rexec_prim C (δ := { v := .ptr 4 0, new := [(4, .cells [.pv (.lit (.int .i64 0)), sS (some true) eMember []])] }) rfl rfl rfl rfl trivial rfl ?_)
 refine rvc_nil ?_
 refine Awp.consP C ?_
 refine rvP C (.ptr 2 0) ?_
 refine rvP C (.pv (.lit (.int .i64 c.epoch))) ?_
 refine rvP C (.pv (.lit (.int .i64 (IntKind.i64.wrap (c.epoch + 1))))) ?_
 refine rvP C (sS (some l.nil) eMember l.D) ?_
 refine rvP C (.agg [.pv (.lit (.int .i64 (IntKind.i64.wrap (c.epoch + 1)))), sS (some l.nil) eMember l.D]) ?_
 refine rvc_un (rexec_prim C (δ := { v := .undef, wr := [(4, some (.cells [.pv (.lit (.int .i64 (IntKind.i64.wrap (c.epoch + 1)))), sS (some l.nil) eMember l.D]))] }) rfl rfl rfl rfl trivial rfl ?_)
 refine rvc_nil ?_
 refine Awp.ret ?_
 subst hR
 exact ⟨.inl rfl, rfl⟩
def check_l0 : List Member → Nat → Int → Int → Int
  | [], _, _, _ => 0
  | x :: xs, i, seen, site => (bif (!(member x)) then 80 else (bif (mHas seen x.node) then 80 else (bif (decide (x.site < site)) then 80 else check_l0 xs (i + 1) (mWith seen x.node) x.site)))
def check (c : Chain) : Int :=
  (bif (decide (c.epoch < 1)) then 80 else (bif (decide (c.epoch > 1099511627776)) then 80 else (bif ((c.members.D.length : Int) == 0) then 80 else (bif c.members.D[0]!.fresh then 80 else check_l0 c.members.D 0 0 0))))
theorem check_calls (c : Chain) (hl1 : c.members.D.length ≤ 9223372036854775807) : PCalls Try.prog 35 [.agg [.pv (.lit (.int .i64 c.epoch)), sS (some c.members.nil) eMember c.members.D]] (.pv (.lit (.int .i64 (check c)))) := by
 generalize hR : check c = R
 refine PCalls.of_body tabOk Try.func35 rfl rfl rfl rfl rfl mixed fun E hP C hI => ?_
 refine Awp.consP C ?_
 refine rvc_un (rexec_prim C (δ := { v := .ptr 1 0, new := [(1, .cells [.pv (.lit (.int .i64 c.epoch)), sS (some c.members.nil) eMember c.members.D])] }) rfl rfl rfl rfl trivial rfl ?_)
 refine rvP C (.pv (.lit (.int .i64 0))) ?_
 refine rvc_nil ?_
 refine Awp.seq ?_
 refine Awp.consP C ?_
 refine rvP C (.ptr 1 0) ?_
 refine rvP C (.pv (.lit (.int .i64 c.epoch))) ?_
 refine rvP C (.pv (.lit (.bool (decide (c.epoch < 1))))) ?_
 refine rvP C (.pv (.lit (.bool (decide (c.epoch < 1))))) ?_
 refine rvc_case 10 (decide (c.epoch < 1)) rfl (fun h1 => ?_) (fun h1 => ?_)
 ·
  replace hR := of_true h1 hR
  refine rvS ?_
  refine rvS ?_
  refine rvS ?_
  refine rvP C (.pv (.lit (.bool true))) ?_
  refine rvP C (.pv (.lit (.bool true))) ?_
  refine rvS ?_
  refine rvS ?_
  refine rvS ?_
  refine rvS ?_
  refine rvP C (.pv (.lit (.bool true))) ?_
  refine rvP C (.pv (.lit (.bool true))) ?_
  refine rvS ?_
  refine rvS ?_
  refine rvS ?_
  refine rvS ?_
  refine rvS ?_
  refine rvP C (.pv (.lit (.bool true))) ?_
  refine rvc_nil ?_
  refine Awp.condT (b := true) rfl rfl ?_
  refine Awp.consP C ?_
  refine rvP C (.pv (.lit (.int .i64 80))) ?_
  refine rvc_nil ?_
  refine Awp.ret ?_
  subst hR
  exact ⟨.inl rfl, rfl⟩
 ·
  replace hR := of_false h1 hR
  refine rvO C (.ptr 1 0) ?_
  refine rvO C (.pv (.lit (.int .i64 c.epoch))) ?_
  refine rvO C (.pv (.lit (.bool (decide (c.epoch > 1099511627776))))) ?_
  refine rvP C (.pv (.lit (.bool (decide (c.epoch > 1099511627776))))) ?_
  refine rvP C (.pv (.lit (.bool (decide (c.epoch > 1099511627776))))) ?_
  refine rvc_case 15 (decide (c.epoch > 1099511627776)) rfl (fun h2 => ?_) (fun h2 => ?_)
  ·
   replace hR := of_true h2 hR
   refine rvS ?_
   refine rvS ?_
   refine rvS ?_
   refine rvS ?_
   refine rvP C (.pv (.lit (.bool true))) ?_
   refine rvP C (.pv (.lit (.bool true))) ?_
   refine rvS ?_
   refine rvS ?_
   refine rvS ?_
   refine rvS ?_
   refine rvS ?_
   refine rvP C (.pv (.lit (.bool true))) ?_
   refine rvc_nil ?_
   refine Awp.condT (b := true) rfl rfl ?_
   refine Awp.consP C ?_
   refine rvP C (.pv (.lit (.int .i64 80))) ?_
   refine rvc_nil ?_
   refine Awp.ret ?_
   subst hR
   exact ⟨.inl rfl, rfl⟩
  ·
   replace hR := of_false h2 hR
   refine rvO C (.ptr 1 1) ?_
   refine rvO C (sS (some c.members.nil) eMember c.members.D) ?_
   refine rvO C (.pv (.lit (.int .i64 (c.members.D.length : Int)))) ?_
   refine rvO C (.pv (.lit (.bool ((c.members.D.length : Int) == 0)))) ?_
   refine rvP C (.pv (.lit (.bool ((c.members.D.length : Int) == 0)))) ?_
   refine rvP C (.pv (.lit (.bool ((c.members.D.length : Int) == 0)))) ?_
   refine rvc_case 21 ((c.members.D.length : Int) == 0) rfl (fun h3 => ?_) (fun h3 => ?_)
   ·
    replace hR := of_true h3 hR
    refine rvS ?_
    refine rvS ?_
    refine rvS ?_
    refine rvS ?_
    refine rvS ?_
    refine rvP C (.pv (.lit (.bool true))) ?_
    refine rvc_nil ?_
    refine Awp.condT (b := true) rfl rfl ?_
    refine Awp.consP C ?_
    refine rvP C (.pv (.lit (.int .i64 80))) ?_
    refine rvc_nil ?_
    refine Awp.ret ?_
    subst hR
    exact ⟨.inl rfl, rfl⟩
   ·
    replace hR := of_false h3 hR
    refine rvO C (.ptr 1 1) ?_
    refine rvO C (sS (some c.members.nil) eMember c.members.D) ?_
    have h4 : c.members.D[0]? = some c.members.D[0]! := getE (by have := of_decide_eq_false h1; have := of_decide_eq_false h2; have := ne_of_beq_false h3; omega)
    refine rvc_open rfl rfl rfl (rexec_idxS C rfl rfl rfl rfl rfl rfl (c.members.D[0]!) (Int.natCast_nonneg _) h4 ?_)
    refine rvO C (.rp [.lit (.bool (c.members.D[0]!.fresh))]) ?_
    refine rvO C (.pv (.lit (.bool (c.members.D[0]!.fresh)))) ?_
    refine rvP C (.pv (.lit (.bool (c.members.D[0]!.fresh)))) ?_
    refine rvc_nil ?_
    refine Awp.cond (b := c.members.D[0]!.fresh) rfl (fun h5 => ?_) (fun h5 => ?_)
    ·
     replace hR := of_true h5 hR
     refine Awp.consP C ?_
     refine rvP C (.pv (.lit (.int .i64 80))) ?_
     refine rvc_nil ?_
     refine Awp.ret ?_
     subst hR
     exact ⟨.inl rfl, rfl⟩
    ·
     replace hR := of_false h5 hR
     refine Awp.skip ?_
     refine Awp.consP C ?_
     refine rvP C (.pv (.lit (.int .u64 0))) ?_
     refine rvc_nil ?_
     refine Awp.consP C ?_
     refine rvP C (.pv (.lit (.int .i64 0))) ?_
     refine rvc_nil ?_
     refine Awp.seq ?_
     refine Awp.consP C ?_
     refine rvP C (.ptr 1 1) ?_
     refine rvP C (sS (some c.members.nil) eMember c.members.D) ?_
     refine rvP C (.pv (.lit (.int .i64 (c.members.D.length : Int)))) ?_
     refine rvP C (.pv (.lit (.int .i64 0))) ?_
     refine rvc_nil ?_
     refine Awp.block ?_
     refine Awp.forR (σ := Int × Int) (c.members.D.length) (fun i v => [(3, .pv (.lit (.int .u64 v.1))), (4, .pv (.lit (.int .i64 v.2))), (29, sS (some c.members.nil) eMember c.members.D), (30, .pv (.lit (.int .i64 (c.members.D.length : Int)))), (31, .pv (.lit (.int .i64 (i : Int))))]) (fun i v => []) [] (fun i v => check_l0 (c.members.D.drop i) i v.1 v.2 = R) (0, 0) ?_ ?_ (fun i v h6 hR => ?_)
     · exact hR
     · exact ⟨fun b => b, WeakerR.ofL (Ks := []) hI ⟨⟨rfl, rfl⟩, ⟨rfl, rfl⟩, ⟨rfl, rfl⟩, ⟨rfl, rfl⟩, ⟨rfl, rfl⟩, trivial⟩ (okH_nil) rfl⟩
     obtain ⟨seen, site⟩ := v
     refine Awp.consP C ?_
     refine rvP C (.pv (.lit (.bool (decide ((i : Int) < (c.members.D.length : Int)))))) ?_
     refine rvc_nil ?_
     refine Awp.seq ?_
     refine Awp.cond (b := (decide ((i : Int) < (c.members.D.length : Int)))) rfl (fun h7 => ?_) (fun h7 => ?_)
     ·
      have h8 : i < c.members.D.length := by have := of_decide_eq_true h7; omega
      obtain ⟨x, h9⟩ := getX h8
      rw [drop_at h9] at hR
      refine Awp.skip ?_
      refine Awp.seq ?_
      refine Awp.block ?_
      refine Awp.consP C ?_
      refine rvc_un (rexec_idxS C rfl rfl rfl rfl rfl rfl x (Int.natCast_nonneg _) h9 ?_)
      refine rvP C (.agg [.pv (.lit (.int .i64 x.node)), .pv (.lit (.int .i64 x.site)), .pv (.lit (.bool x.fresh))]) ?_
      refine rvc_un (rexec_prim C (δ := { v := .ptr 6 0, new := [(6, .cells [.pv (.lit (.int .i64 0)), .pv (.lit (.int .i64 0)), .pv (.lit (.bool false))])] }) rfl rfl rfl rfl trivial rfl ?_)
      refine rvc_un (rexec_prim C (δ := { v := .undef, wr := [(6, some (.cells [.pv (.lit (.int .i64 x.node)), .pv (.lit (.int .i64 x.site)), .pv (.lit (.bool x.fresh))]))] }) rfl rfl rfl rfl trivial rfl ?_)
      refine rvc_nil ?_
      refine Awp.seq ?_
      refine Awp.consP C ?_
      refine rvP C (.agg [.pv (.lit (.int .i64 x.node)), .pv (.lit (.int .i64 x.site)), .pv (.lit (.bool x.fresh))]) ?_
      refine rvc_un (rexec_call hP C rfl rfl rfl (member_calls x) ?_)
      refine rvP C (.pv (.lit (.bool (!(member x))))) ?_
      refine rvP C (.pv (.lit (.bool (!(member x))))) ?_
      refine rvc_case 38 (!(member x)) rfl (fun h10 => ?_) (fun h10 => ?_)
      ·
       replace hR := of_true h10 hR
       refine rvS ?_
       refine rvS ?_
       refine rvS ?_
       refine rvS ?_
       refine rvP C (.pv (.lit (.bool true))) ?_
       refine rvP C (.pv (.lit (.bool true))) ?_
       refine rvS ?_
       refine rvS ?_
       refine rvS ?_
       refine rvS ?_
       refine rvP C (.pv (.lit (.bool true))) ?_
       refine rvc_nil ?_
       refine Awp.condT (b := true) rfl rfl ?_
       refine Awp.consP C ?_
       refine rvP C (.pv (.lit (.int .i64 80))) ?_
       refine rvc_nil ?_
       refine Awp.ret ?_
       subst hR
       exact ⟨.inl rfl, rfl⟩
      ·
       replace hR := of_false h10 hR
       refine rvO C (.pv (.lit (.int .u64 seen))) ?_
       refine rvO C (.ptr 6 0) ?_
       refine rvO C (.pv (.lit (.int .i64 x.node))) ?_
       refine rvc_open rfl rfl rfl (rexec_call hP C rfl rfl rfl (mHas_calls seen x.node) ?_)
       refine rvP C (.pv (.lit (.bool (mHas seen x.node)))) ?_
       refine rvP C (.pv (.lit (.bool (mHas seen x.node)))) ?_
       refine rvc_case 44 (mHas seen x.node) rfl (fun h11 => ?_) (fun h11 => ?_)
       ·
        replace hR := of_true h11 hR
        refine rvS ?_
        refine rvS ?_
        refine rvS ?_
        refine rvS ?_
        refine rvP C (.pv (.lit (.bool true))) ?_
        refine rvc_nil ?_
        refine Awp.condT (b := true) rfl rfl ?_
        refine Awp.consP C ?_
        refine rvP C (.pv (.lit (.int .i64 80))) ?_
        refine rvc_nil ?_
        refine Awp.ret ?_
        subst hR
        exact ⟨.inl rfl, rfl⟩
       ·
        replace hR := of_false h11 hR
        refine rvO C (.ptr 6 1) ?_
        refine rvO C (.pv (.lit (.int .i64 x.site))) ?_
        refine rvO C (.pv (.lit (.int .i64 site))) ?_
        refine rvO C (.pv (.lit (.bool (decide (x.site < site))))) ?_
        refine rvP C (.pv (.lit (.bool (decide (x.site < site))))) ?_
        refine rvc_nil ?_
        refine Awp.cond (b := (decide (x.site < site))) rfl (fun h12 => ?_) (fun h12 => ?_)
        ·
         replace hR := of_true h12 hR
         refine Awp.consP C ?_
         refine rvP C (.pv (.lit (.int .i64 80))) ?_
         refine rvc_nil ?_
         refine Awp.ret ?_
         subst hR
         exact ⟨.inl rfl, rfl⟩
        ·
         replace hR := of_false h12 hR
         refine Awp.skip ?_
         refine Awp.regionP C ?_
         refine rvP C (.pv (.lit (.int .u64 seen))) ?_
         refine rvP C (.ptr 6 0) ?_
         refine rvP C (.pv (.lit (.int .i64 x.node))) ?_
         refine rvc_un (rexec_call hP C rfl rfl rfl (mWith_calls seen x.node) ?_)
         refine rvP C (.ptr 6 1) ?_
         refine rvP C (.pv (.lit (.int .i64 x.site))) ?_
         refine rvP C (.pv (.lit (.int .u64 (mWith seen x.node)))) ?_
         refine rvP C (.pv (.lit (.int .i64 x.site))) ?_
         refine rvc_nil ?_
         refine Awp.regionP C ?_
         refine rvP C (.pv (.lit (.int .i64 (IntKind.i64.wrap ((i : Int) + 1))))) ?_
         refine rvP C (.pv (.lit (.int .i64 (IntKind.i64.wrap ((i : Int) + 1))))) ?_
         refine rvc_nil ?_
         refine ⟨h8, ((mWith seen x.node), x.site), ?_, ?_⟩
         · exact hR
         · exact ⟨fun b => b, WeakerR.ofL (Ks := []) hI ⟨⟨rfl, rfl⟩, ⟨rfl, rfl⟩, ⟨rfl, rfl⟩, ⟨rfl, rfl⟩, ⟨lit_cast (wrap_i64 (by omega) (by omega)), rfl⟩, trivial⟩ (okH_nil) rfl⟩
     ·
      have h8 : ¬ i < c.members.D.length := by have := of_decide_eq_false h7; omega
      rw [drop_end h8] at hR
      refine Awp.exit ?_
      refine Awp.consP C ?_
      refine rvP C (.pv (.lit (.int .i64 0))) ?_
      refine rvc_nil ?_
      refine Awp.ret ?_
      subst hR
      exact ⟨.inl rfl, rfl⟩
def eqMembers_l0 (s2 : (Sl Member)) : List Member → Nat → Bool
  | [], _ => true
  | x :: xs, i => (bif (!((x.node == (s2.D[(i : Int).toNat]!.node)) && ((x.site == (s2.D[(i : Int).toNat]!.site)) && ((x.fresh == (s2.D[(i : Int).toNat]!.fresh)) && true)))) then false else eqMembers_l0 s2 xs (i + 1) )
def eqMembers (s1 : (Sl Member)) (s2 : (Sl Member)) : Bool :=
  (bif ((s1.D.length : Int) != (s2.D.length : Int)) then false else eqMembers_l0 s2 s1.D 0 )
theorem eqMembers_calls (s1 : (Sl Member)) (s2 : (Sl Member)) (hl1 : s1.D.length ≤ 9223372036854775807) : PCalls Try.prog 44 [sS (some s1.nil) eMember s1.D, sS (some s2.nil) eMember s2.D] (.pv (.lit (.bool (eqMembers s1 s2)))) := by
 generalize hR : eqMembers s1 s2 = R
 refine PCalls.of_body tabOk Try.func44 rfl rfl rfl rfl rfl mixed fun E hP C hI => ?_
 refine Awp.consP C ?_
 refine rvP C (.pv (.lit (.bool false))) ?_
 refine rvc_nil ?_
 refine Awp.seq ?_
 refine Awp.consP C ?_
 refine rvP C (sS (some s1.nil) eMember s1.D) ?_
 refine rvP C (.pv (.lit (.int .i64 (s1.D.length : Int)))) ?_
 refine rvP C (sS (some s2.nil) eMember s2.D) ?_
 refine rvP C (.pv (.lit (.int .i64 (s2.D.length : Int)))) ?_
 refine rvP C (.pv (.lit (.bool ((s1.D.length : Int) != (s2.D.length : Int))))) ?_
 refine rvc_nil ?_
 refine Awp.cond (b := ((s1.D.length : Int) != (s2.D.length : Int))) rfl (fun h1 => ?_) (fun h1 => ?_)
 ·
  replace hR := of_true h1 hR
  refine Awp.consP C ?_
  refine rvP C (.pv (.lit (.bool false))) ?_
  refine rvc_nil ?_
  refine Awp.ret ?_
  subst hR
  exact ⟨.inl rfl, rfl⟩
 ·
  replace hR := of_false h1 hR
  refine Awp.skip ?_
  refine Awp.seq ?_
  refine Awp.consP C ?_
  refine rvP C (sS (some s1.nil) eMember s1.D) ?_
  refine rvP C (.pv (.lit (.int .i64 (s1.D.length : Int)))) ?_
  refine rvP C (.pv (.lit (.int .i64 0))) ?_
  refine rvc_nil ?_
  refine Awp.block ?_
  refine Awp.forR (σ := Unit) (s1.D.length) (fun i _v => [(0, sS (some s1.nil) eMember s1.D), (1, sS (some s2.nil) eMember s2.D), (12, .pv (.lit (.int .i64 (s1.D.length : Int)))), (13, .pv (.lit (.int .i64 (i : Int))))]) (fun i _v => []) [] (fun i _v => eqMembers_l0 s2 (s1.D.drop i) i  = R) () ?_ ?_ (fun i _v h2 hR => ?_)
  · exact hR
  · exact ⟨fun b => b, WeakerR.ofL (Ks := []) hI ⟨⟨rfl, rfl⟩, ⟨rfl, rfl⟩, ⟨rfl, rfl⟩, ⟨rfl, rfl⟩, trivial⟩ (okH_nil) rfl⟩
  refine Awp.consP C ?_
  refine rvP C (.pv (.lit (.bool (decide ((i : Int) < (s1.D.length : Int)))))) ?_
  refine rvc_nil ?_
  refine Awp.seq ?_
  refine Awp.cond (b := (decide ((i : Int) < (s1.D.length : Int)))) rfl (fun h3 => ?_) (fun h3 => ?_)
  ·
   have h4 : i < s1.D.length := by have := of_decide_eq_true h3; omega
   obtain ⟨x, h5⟩ := getX h4
   rw [drop_at h5] at hR
   refine Awp.skip ?_
   refine Awp.seq ?_
   refine Awp.block ?_
   refine Awp.consP C ?_
   refine rvP C (.pv (.lit (.int .i64 (i : Int)))) ?_
   refine rvP C (.pv (.lit (.int .i64 (i : Int)))) ?_
   refine rvc_nil ?_
   refine Awp.consP C ?_
   refine rvP C (sS (some s1.nil) eMember s1.D) ?_
   refine rvP C (.pv (.lit (.int .i64 (i : Int)))) ?_
   refine rvc_un (rexec_idxS C rfl rfl rfl rfl rfl rfl x (Int.natCast_nonneg _) h5 ?_)
   refine rvP C (.agg [.pv (.lit (.int .i64 x.node)), .pv (.lit (.int .i64 x.site)), .pv (.lit (.bool x.fresh))]) ?_
   refine rvP C (sS (some s2.nil) eMember s2.D) ?_
   refine rvP C (.pv (.lit (.int .i64 (i : Int)))) ?_
   have h6 : s2.D[(i : Int).toNat]? = some s2.D[(i : Int).toNat]! := getE (by have := eq_of_bne_false h1; have := of_decide_eq_true h3; omega)
   refine rvc_un (rexec_idxS C rfl rfl rfl rfl rfl rfl (s2.D[(i : Int).toNat]!) (Int.natCast_nonneg _) h6 ?_)
   refine rvP C (.agg [.pv (.lit (.int .i64 (s2.D[(i : Int).toNat]!.node))), .pv (.lit (.int .i64 (s2.D[(i : Int).toNat]!.site))), .pv (.lit (.bool (s2.D[(i : Int).toNat]!.fresh)))]) ?_
   refine rvP C (.pv (.lit (.bool (!((x.node == (s2.D[(i : Int).toNat]!.node)) && ((x.site == (s2.D[(i : Int).toNat]!.site)) && ((x.fresh == (s2.D[(i : Int).toNat]!.fresh)) && true))))))) ?_
   refine rvc_nil ?_
   refine Awp.cond (b := (!((x.node == (s2.D[(i : Int).toNat]!.node)) && ((x.site == (s2.D[(i : Int).toNat]!.site)) && ((x.fresh == (s2.D[(i : Int).toNat]!.fresh)) && true))))) rfl (fun h7 => ?_) (fun h7 => ?_)
   ·
    replace hR := of_true h7 hR
    refine Awp.consP C ?_
    refine rvP C (.pv (.lit (.bool false))) ?_
    refine rvc_nil ?_
    refine Awp.ret ?_
    subst hR
    exact ⟨.inl rfl, rfl⟩
   ·
    replace hR := of_false h7 hR
    refine Awp.skip ?_
    refine Awp.regionP C ?_
    refine rvP C (.pv (.lit (.int .i64 (IntKind.i64.wrap ((i : Int) + 1))))) ?_
    refine rvP C (.pv (.lit (.int .i64 (IntKind.i64.wrap ((i : Int) + 1))))) ?_
    refine rvc_nil ?_
    refine ⟨h4, (), ?_, ?_⟩
    · exact hR
    · exact ⟨fun b => b, WeakerR.ofL (Ks := []) hI ⟨⟨rfl, rfl⟩, ⟨rfl, rfl⟩, ⟨rfl, rfl⟩, ⟨lit_cast (wrap_i64 (by omega) (by omega)), rfl⟩, trivial⟩ (okH_nil) rfl⟩
  ·
   have h4 : ¬ i < s1.D.length := by have := of_decide_eq_false h3; omega
   rw [drop_end h4] at hR
   refine Awp.exit ?_
   refine Awp.consP C ?_
   refine rvP C (.pv (.lit (.bool true))) ?_
   refine rvc_nil ?_
   refine Awp.ret ?_
   subst hR
   exact ⟨.inl rfl, rfl⟩
def same (a : Chain) (b : Chain) : Bool :=
  (bif (a.epoch == b.epoch) then (eqMembers a.members b.members) else false)
theorem same_calls (a : Chain) (b : Chain) (hl1 : a.members.D.length ≤ 9223372036854775807) : PCalls Try.prog 19 [.agg [.pv (.lit (.int .i64 a.epoch)), sS (some a.members.nil) eMember a.members.D], .agg [.pv (.lit (.int .i64 b.epoch)), sS (some b.members.nil) eMember b.members.D]] (.pv (.lit (.bool (same a b)))) := by
 generalize hR : same a b = R
 refine PCalls.of_body tabOk Try.func19 rfl rfl rfl rfl rfl mixed fun E hP C hI => ?_
 refine Awp.consP C ?_
 refine rvc_un (rexec_prim C (δ := { v := .ptr 2 0, new := [(2, .cells [.pv (.lit (.int .i64 a.epoch)), sS (some a.members.nil) eMember a.members.D])] }) rfl rfl rfl rfl trivial rfl ?_)
 refine rvc_un (rexec_prim C (δ := { v := .ptr 3 0, new := [(3, .cells [.pv (.lit (.int .i64 b.epoch)), sS (some b.members.nil) eMember b.members.D])] }) rfl rfl rfl rfl trivial rfl ?_)
 refine rvP C (.pv (.lit (.bool false))) ?_
 refine rvc_nil ?_
 refine Awp.consP C ?_
 refine rvP C (.ptr 2 0) ?_
 refine rvP C (.pv (.lit (.int .i64 a.epoch))) ?_
 refine rvP C (.ptr 3 0) ?_
 refine rvP C (.pv (.lit (.int .i64 b.epoch))) ?_
 refine rvP C (.pv (.lit (.bool (a.epoch == b.epoch)))) ?_
 refine rvP C (.pv (.lit (.bool (a.epoch == b.epoch)))) ?_
 refine rvc_case 10 (a.epoch == b.epoch) rfl (fun h1 => ?_) (fun h1 => ?_)
 ·
  replace hR := of_true h1 hR
  refine rvO C (.ptr 2 1) ?_
  refine rvO C (sS (some a.members.nil) eMember a.members.D) ?_
  refine rvO C (.ptr 3 1) ?_
  refine rvO C (sS (some b.members.nil) eMember b.members.D) ?_
  refine rvc_open rfl rfl rfl (rexec_call hP C rfl rfl rfl (eqMembers_calls a.members b.members hl1) ?_)
  refine rvP C (.pv (.lit (.bool (eqMembers a.members b.members)))) ?_
  refine rvP C (.pv (.lit (.bool (eqMembers a.members b.members)))) ?_
  refine rvc_nil ?_
  refine Awp.ret ?_
  subst hR
  exact ⟨.inl rfl, rfl⟩
 ·
  replace hR := of_false h1 hR
  refine rvS ?_
  refine rvS ?_
  refine rvS ?_
  refine rvS ?_
  refine rvS ?_
  refine rvP C (.pv (.lit (.bool false))) ?_
  refine rvP C (.pv (.lit (.bool false))) ?_
  refine rvc_nil ?_
  refine Awp.ret ?_
  subst hR
  exact ⟨.inl rfl, rfl⟩
def rCheck_l1 (x : Member) (kk : Int) : List Member → Nat → Int
  | [], _ => kk 
  | x1 :: x1s, i1 => (bif (x1.node == x.node) then 80 else (bif (decide (x1.site > x.site)) then 80 else rCheck_l1 x kk x1s (i1 + 1) ))
def rCheck_l0 (c : Chain) : List Member → Nat → Int
  | [], _ => 0
  | x :: xs, i => (bif (decide (x.node < 0)) then 80 else (bif (decide (x.node > 5)) then 80 else (bif (decide (x.site < 0)) then 80 else (bif (decide (x.site > 2)) then 80 else rCheck_l1 x (rCheck_l0 c xs (i + 1) ) (c.members.D.take i) 0 ))))
def rCheck (c : Chain) : Int :=
  (bif (decide (c.epoch < 1)) then 80 else (bif (decide (c.epoch > 1099511627776)) then 80 else (bif ((c.members.D.length : Int) == 0) then 80 else (bif (decide ((c.members.D.length : Int) > 6)) then 80 else (bif c.members.D[0]!.fresh then 80 else rCheck_l0 c c.members.D 0 )))))
def cloneMembers (s : (Sl Member)) : (Sl Member) :=
  (bif s.nil then (Sl.mk true []) else (Sl.mk false s.D))
theorem cloneMembers_calls (s : (Sl Member)) (hl1 : s.D.length ≤ 1000000) : PCalls Try.prog 59 [sS (some s.nil) eMember s.D] (sS (some (cloneMembers s).nil) eMember ((cloneMembers s).D)) := by
 generalize hR : cloneMembers s = R
 refine PCalls.of_body tabOk Try.func59 rfl rfl rfl rfl rfl mixed fun E hP C hI => ?_
 refine Awp.consP C ?_
 refine rvP C (sS (some true) eMember []) ?_
 refine rvc_nil ?_
 refine Awp.seq ?_
 refine Awp.consP C ?_
 refine rvP C (sS (some s.nil) eMember s.D) ?_
 refine rvc_un (rexec_eqNil C (f := s.nil) rfl rfl rfl rfl ?_)
 refine rvc_nil ?_
 refine Awp.cond (b := s.nil) rfl (fun h1 => ?_) (fun h1 => ?_)
 ·
  replace hR := of_true h1 hR
  refine Awp.consP C ?_
  refine rvP C (sS (some true) eMember []) ?_
  refine rvc_nil ?_
  refine Awp.ret ?_
  subst hR
  exact ⟨.inl rfl, rfl⟩
 ·
  replace hR := of_false h1 hR
  refine Awp.skip ?_
  refine Awp.consP C ?_
  refine rvc_un (rexec_prim C (δ := { v := .sl 5 0 0 3 true, new := [(5, .cells (encC eMember []))] }) rfl rfl rfl rfl trivial rfl ?_)
  refine rvP C (sS (some s.nil) eMember s.D) ?_
  refine rvc_un (rexec_append C rfl rfl rfl rfl rfl rfl rfl rfl (fun _ h => by cases h) rfl (en := eMember) (D0 := []) (D := s.D) rfl rfl rfl rfl (by first | omega | (simp <;> omega)) (by decide) (nn := s.D.length) (by simp) ?_)
  refine rvP C (.sl 7 0 s.D.length 3 false) ?_
  refine rvc_nil ?_
  refine Awp.freezeW 7 (encL eMember s.D) ?_ [(2, sS (some false) eMember s.D)] [] ?_ ?_ ?_
  · rfl
  · exact ⟨⟨_, rfl, .inl (.inr ⟨_, _, _, rfl, rfl⟩)⟩, trivial⟩
  · exact trivial
  refine Awp.ret ?_
  subst hR
  exact ⟨.inl rfl, rfl⟩
def nodes_l0 : List Member → Nat → Int → Int
  | [], _, s => s
  | x :: xs, i, s => nodes_l0 xs (i + 1) (mWith s x.node)
def nodes (c : Chain) : Int :=
  nodes_l0 c.members.D 0 0
theorem nodes_calls (c : Chain) (hl1 : c.members.D.length ≤ 9223372036854775807) : PCalls Try.prog 37 [.agg [.pv (.lit (.int .i64 c.epoch)), sS (some c.members.nil) eMember c.members.D]] (.pv (.lit (.int .u64 (nodes c)))) := by
 generalize hR : nodes c = R
 refine PCalls.of_body tabOk Try.func37 rfl rfl rfl rfl rfl mixed fun E hP C hI => ?_
 refine Awp.consP C ?_
 refine rvc_un (rexec_prim C (δ := { v := .ptr 1 0, new := [(1, .cells [.pv (.lit (.int .i64 c.epoch)), sS (some c.members.nil) eMember c.members.D])] }) rfl rfl rfl rfl trivial rfl ?_)
 refine rvP C (.pv (.lit (.int .u64 0))) ?_
 refine rvc_nil ?_
 refine Awp.consP C ?_
 refine rvP C (.pv (.lit (.int .u64 0))) ?_
 refine rvc_nil ?_
 refine Awp.seq ?_
 refine Awp.consP C ?_
 refine rvP C (.ptr 1 1) ?_
 refine rvP C (sS (some c.members.nil) eMember c.members.D) ?_
 refine rvP C (.pv (.lit (.int .i64 (c.members.D.length : Int)))) ?_
 refine rvP C (.pv (.lit (.int .i64 0))) ?_
 refine rvc_nil ?_
 refine Awp.block ?_
 refine Awp.forR (σ := Int) (c.members.D.length) (fun i v => [(3, .pv (.lit (.int .u64 v))), (7, sS (some c.members.nil) eMember c.members.D), (8, .pv (.lit (.int .i64 (c.members.D.length : Int)))), (9, .pv (.lit (.int .i64 (i : Int))))]) (fun i v => []) [] (fun i v => nodes_l0 (c.members.D.drop i) i v = R) 0 ?_ ?_ (fun i s h1 hR => ?_)
 · exact hR
 · exact ⟨fun b => b, WeakerR.ofL (Ks := []) hI ⟨⟨rfl, rfl⟩, ⟨rfl, rfl⟩, ⟨rfl, rfl⟩, ⟨rfl, rfl⟩, trivial⟩ (okH_nil) rfl⟩
 refine Awp.consP C ?_
 refine rvP C (.pv (.lit (.bool (decide ((i : Int) < (c.members.D.length : Int)))))) ?_
 refine rvc_nil ?_
 refine Awp.seq ?_
 refine Awp.cond (b := (decide ((i : Int) < (c.members.D.length : Int)))) rfl (fun h2 => ?_) (fun h2 => ?_)
 ·
  have h3 : i < c.members.D.length := by have := of_decide_eq_true h2; omega
  obtain ⟨x, h4⟩ := getX h3
  rw [drop_at h4] at hR
  refine Awp.skip ?_
  refine Awp.seq ?_
  refine Awp.block ?_
  refine Awp.consP C ?_
  refine rvc_un (rexec_idxS C rfl rfl rfl rfl rfl rfl x (Int.natCast_nonneg _) h4 ?_)
  refine rvP C (.agg [.pv (.lit (.int .i64 x.node)), .pv (.lit (.int .i64 x.site)), .pv (.lit (.bool x.fresh))]) ?_
  refine rvc_un (rexec_prim C (δ := { v := .ptr 5 0, new := [(5, .cells [.pv (.lit (.int .i64 0)), .pv (.lit (.int .i64 0)), .pv (.lit (.bool false))])] }) rfl rfl rfl rfl trivial rfl ?_)
  refine rvc_un (rexec_prim C (δ := { v := .undef, wr := [(5, some (.cells [.pv (.lit (.int .i64 x.node)), .pv (.lit (.int .i64 x.site)), .pv (.lit (.bool x.fresh))]))] }) rfl rfl rfl rfl trivial rfl ?_)
  refine rvc_nil ?_
  refine Awp.regionP C ?_
  refine rvP C (.pv (.lit (.int .u64 s))) ?_
  refine rvP C (.ptr 5 0) ?_
  refine rvP C (.pv (.lit (.int .i64 x.node))) ?_
  refine rvc_un (rexec_call hP C rfl rfl rfl (mWith_calls s x.node) ?_)
  refine rvP C (.pv (.lit (.int .u64 (mWith s x.node)))) ?_
  refine rvc_nil ?_
  refine Awp.regionP C ?_
  refine rvP C (.pv (.lit (.int .i64 (IntKind.i64.wrap ((i : Int) + 1))))) ?_
  refine rvP C (.pv (.lit (.int .i64 (IntKind.i64.wrap ((i : Int) + 1))))) ?_
  refine rvc_nil ?_
  refine ⟨h3, (mWith s x.node), ?_, ?_⟩
  · exact hR
  · exact ⟨fun b => b, WeakerR.ofL (Ks := []) hI ⟨⟨rfl, rfl⟩, ⟨rfl, rfl⟩, ⟨rfl, rfl⟩, ⟨lit_cast (wrap_i64 (by omega) (by omega)), rfl⟩, trivial⟩ (okH_nil) rfl⟩
 ·
  have h3 : ¬ i < c.members.D.length := by have := of_decide_eq_false h2; omega
  rw [drop_end h3] at hR
  refine Awp.exit ?_
  refine Awp.consP C ?_
  refine rvP C (.pv (.lit (.int .u64 s))) ?_
  refine rvP C (.pv (.lit (.int .u64 s))) ?_
  refine rvc_nil ?_
  refine Awp.ret ?_
  subst hR
  exact ⟨.inl rfl, rfl⟩
def maskOf_l0 : List Int → Nat → Int → Int
  | [], _, s => s
  | x :: xs, i, s => maskOf_l0 xs (i + 1) (mWith s x)
def maskOf (l : (Sl Int)) : Int :=
  maskOf_l0 l.D 0 0
theorem maskOf_calls (l : (Sl Int)) (hl1 : l.D.length ≤ 1000000) : PCalls Try.prog 81 [sS (some l.nil) (eI .i64) l.D] (.pv (.lit (.int .u64 (maskOf l)))) := by
 generalize hR : maskOf l = R
 refine PCalls.of_body tabOk Try.func81 rfl rfl rfl rfl rfl mixed fun E hP C hI => ?_
 refine Awp.consP C ?_
 refine rvP C (.pv (.lit (.int .u64 0))) ?_
 refine rvc_nil ?_
 refine Awp.consP C ?_
 refine rvP C (.pv (.lit (.int .u64 0))) ?_
 refine rvc_nil ?_
 refine Awp.seq ?_
 refine Awp.consP C ?_
 refine rvP C (sS (some l.nil) (eI .i64) l.D) ?_
 refine rvP C (.pv (.lit (.int .i64 (l.D.length : Int)))) ?_
 refine rvP C (.pv (.lit (.int .i64 0))) ?_
 refine rvc_nil ?_
 refine Awp.block ?_
 refine Awp.forR (σ := Int) (l.D.length) (fun i v => [(3, .pv (.lit (.int .u64 v))), (6, sS (some l.nil) (eI .i64) l.D), (7, .pv (.lit (.int .i64 (l.D.length : Int)))), (8, .pv (.lit (.int .i64 (i : Int))))]) (fun i v => []) [] (fun i v => maskOf_l0 (l.D.drop i) i v = R) 0 ?_ ?_ (fun i s h1 hR => ?_)
 · exact hR
 · exact ⟨fun b => b, WeakerR.ofL (Ks := []) hI ⟨⟨rfl, rfl⟩, ⟨rfl, rfl⟩, ⟨rfl, rfl⟩, ⟨rfl, rfl⟩, trivial⟩ (okH_nil) rfl⟩
 refine Awp.consP C ?_
 refine rvP C (.pv (.lit (.bool (decide ((i : Int) < (l.D.length : Int)))))) ?_
 refine rvc_nil ?_
 refine Awp.seq ?_
 refine Awp.cond (b := (decide ((i : Int) < (l.D.length : Int)))) rfl (fun h2 => ?_) (fun h2 => ?_)
 ·
  have h3 : i < l.D.length := by have := of_decide_eq_true h2; omega
  obtain ⟨x, h4⟩ := getX h3
  rw [drop_at h4] at hR
  refine Awp.skip ?_
  refine Awp.seq ?_
  refine Awp.block ?_
  refine Awp.consP C ?_
  refine rvc_un (rexec_idxS C rfl rfl rfl rfl rfl rfl x (Int.natCast_nonneg _) h4 ?_)
  refine rvP C (.pv (.lit (.int .i64 x))) ?_
  refine rvP C (.pv (.lit (.int .i64 x))) ?_
  refine rvc_nil ?_
  refine Awp.regionP C ?_
  refine rvP C (.pv (.lit (.int .u64 s))) ?_
  refine rvP C (.pv (.lit (.int .i64 x))) ?_
  refine rvc_un (rexec_call hP C rfl rfl rfl (mWith_calls s x) ?_)
  refine rvP C (.pv (.lit (.int .u64 (mWith s x)))) ?_
  refine rvc_nil ?_
  refine Awp.regionP C ?_
  refine rvP C (.pv (.lit (.int .i64 (IntKind.i64.wrap ((i : Int) + 1))))) ?_
  refine rvP C (.pv (.lit (.int .i64 (IntKind.i64.wrap ((i : Int) + 1))))) ?_
  refine rvc_nil ?_
  refine ⟨h3, (mWith s x), ?_, ?_⟩
  · exact hR
  · exact ⟨fun b => b, WeakerR.ofL (Ks := []) hI ⟨⟨rfl, rfl⟩, ⟨rfl, rfl⟩, ⟨rfl, rfl⟩, ⟨lit_cast (wrap_i64 (by omega) (by omega)), rfl⟩, trivial⟩ (okH_nil) rfl⟩
 ·
  have h3 : ¬ i < l.D.length := by have := of_decide_eq_false h2; omega
  rw [drop_end h3] at hR
  refine Awp.exit ?_
  refine Awp.consP C ?_
  refine rvP C (.pv (.lit (.int .u64 s))) ?_
  refine rvP C (.pv (.lit (.int .u64 s))) ?_
  refine rvc_nil ?_
  refine Awp.ret ?_
  subst hR
  exact ⟨.inl rfl, rfl⟩
def without_l0 (c : Chain) (gone : Int) : List Member → Nat → (List Member) → Chain × Int
  | [], _, l => (bif (decide (c.epoch ≥ 1099511627776)) then ((Chain.mk 0 (Sl.mk true [])), 5) else (bif ((l.length : Int) == (c.members.D.length : Int)) then ((Chain.mk 0 (Sl.mk true [])), 81) else (bif ((l.length : Int) == 0) then ((Chain.mk 0 (Sl.mk true [])), 83) else ((after c (Sl.mk l.isEmpty l)), 0))))
  | x :: xs, i, l => (bif (!(mHas gone x.node)) then (bif (decide ((l.length : Int) > 0)) then without_l0 c gone xs (i + 1) (l ++ [x]) else (bif (!x.fresh) then without_l0 c gone xs (i + 1) (l ++ [x]) else without_l0 c gone xs (i + 1) l)) else without_l0 c gone xs (i + 1) l)
def without (c : Chain) (gone : Int) : Chain × Int :=
  without_l0 c gone c.members.D 0 []
theorem without_calls (c : Chain) (gone : Int) (hl1 : c.members.D.length ≤ 1000000) : PCalls Try.prog 80 [.agg [.pv (.lit (.int .i64 c.epoch)), sS (some c.members.nil) eMember c.members.D], .pv (.lit (.int .u64 gone))] (.tup [.agg [.pv (.lit (.int .i64 ((without c gone).1.epoch))), sS (some (without c gone).1.members.nil) eMember ((without c gone).1.members.D)], .pv (.lit (.int .i64 ((without c gone).2)))]) := by
 generalize hR : without c gone = R
 refine PCalls.of_body tabOk Try.func80 rfl rfl rfl rfl rfl mixed fun E hP C hI => ?_
 refine Awp.consP C ?_
 refine rvc_un (rexec_prim C (δ := { v := .ptr 2 0, new := [(2, .cells [.pv (.lit (.int .i64 c.epoch)), sS (some c.members.nil) eMember c.members.D])] }) rfl rfl rfl rfl trivial rfl ?_)
 refine rvc_un (rexec_prim C (δ := { v := .ptr 4 0, new := [(4, .cells [.pv (.lit (.int .i64 0)), sS (some true) eMember []])] }) rfl rfl rfl rfl trivial rfl ?_)
 refine rvP C (.pv (.lit (.int .i64 0))) ?_
 refine rvc_nil ?_
 refine Awp.consP C ?_
 refine rvP C (sS (some true) eMember []) ?_
 refine rvc_nil ?_
 refine Awp.seq ?_
 refine Awp.consP C ?_
 refine rvP C (.ptr 2 1) ?_
 refine rvP C (sS (some c.members.nil) eMember c.members.D) ?_
 refine rvP C (.pv (.lit (.int .i64 (c.members.D.length : Int)))) ?_
 refine rvP C (.pv (.lit (.int .i64 0))) ?_
 refine rvc_nil ?_
 refine Awp.block ?_
 refine Awp.forR (σ := ((List Member))) (c.members.D.length) (fun i v => [(1, .pv (.lit (.int .u64 gone))), (2, .ptr 2 0), (4, .ptr 4 0), (6, grow 900 eMember v), (10, sS (some c.members.nil) eMember c.members.D), (11, .pv (.lit (.int .i64 (c.members.D.length : Int)))), (12, .pv (.lit (.int .i64 (i : Int))))]) (fun i v => (growH 900 eMember v ++ ([(2, .cells [.pv (.lit (.int .i64 c.epoch)), sS (some c.members.nil) eMember c.members.D]), (4, .cells [.pv (.lit (.int .i64 0)), sS (some true) eMember []])]))) [2, 4, 900] (fun i v => (without_l0 c gone (c.members.D.drop i) i v = R) ∧ (v.length ≤ i)) [] ?_ ?_ (fun i l h1 hR => ?_)
 · exact ⟨hR, (by first | omega | (simp <;> omega))⟩
 · exact ⟨fun b => b, WeakerR.ofL (Ks := [2, 4, 900]) hI ⟨⟨rfl, rfl⟩, ⟨rfl, rfl⟩, ⟨rfl, rfl⟩, ⟨rfl, rfl⟩, ⟨rfl, rfl⟩, ⟨rfl, rfl⟩, ⟨rfl, rfl⟩, trivial⟩ (okH_grow (fun hne => absurd rfl hne) rfl rfl (okH_cons rfl rfl rfl rfl (okH_cons rfl rfl rfl rfl (okH_nil)))) rfl⟩
 obtain ⟨hR, hi_l⟩ := hR
 replace hi_l : l.length ≤ i := hi_l
 by_cases h2 : l = []
 ·
  refine Awp.wordsR [(1, .pv (.lit (.int .u64 gone))), (2, .ptr 2 0), (4, .ptr 4 0), (6, sS (some l.isEmpty) eMember l), (10, sS (some c.members.nil) eMember c.members.D), (11, .pv (.lit (.int .i64 (c.members.D.length : Int)))), (12, .pv (.lit (.int .i64 (i : Int))))] [(2, .cells [.pv (.lit (.int .i64 c.epoch)), sS (some c.members.nil) eMember c.members.D]), (4, .cells [.pv (.lit (.int .i64 0)), sS (some true) eMember []])] [2, 4] (WeakerR.ofL (Ks := [2, 4]) hI ⟨⟨rfl, rfl⟩, ⟨rfl, rfl⟩, ⟨rfl, rfl⟩, ⟨(by exact grow_at_nil (b := 900) (e := eMember) (l := l) rfl h2), rfl⟩, ⟨rfl, rfl⟩, ⟨rfl, rfl⟩, ⟨rfl, rfl⟩, trivial⟩ (okH_cons (look_nil h2 rfl) rfl rfl rfl (okH_cons (look_nil h2 rfl) rfl rfl rfl (okH_nil))) rfl) ?_
  refine Awp.consP C ?_
  refine rvP C (.pv (.lit (.bool (decide ((i : Int) < (c.members.D.length : Int)))))) ?_
  refine rvc_nil ?_
  refine Awp.seq ?_
  refine Awp.cond (b := (decide ((i : Int) < (c.members.D.length : Int)))) rfl (fun h3 => ?_) (fun h3 => ?_)
  ·
   have h4 : i < c.members.D.length := by have := of_decide_eq_true h3; omega
   obtain ⟨x, h5⟩ := getX h4
   rw [drop_at h5] at hR
   refine Awp.skip ?_
   refine Awp.seq ?_
   refine Awp.block ?_
   refine Awp.consP C ?_
   refine rvc_un (rexec_idxS C rfl rfl rfl rfl rfl rfl x (Int.natCast_nonneg _) h5 ?_)
   refine rvP C (.agg [.pv (.lit (.int .i64 x.node)), .pv (.lit (.int .i64 x.site)), .pv (.lit (.bool x.fresh))]) ?_
   refine rvc_un (rexec_prim C (δ := { v := .ptr 8 0, new := [(8, .cells [.pv (.lit (.int .i64 0)), .pv (.lit (.int .i64 0)), .pv (.lit (.bool false))])] }) rfl rfl rfl rfl trivial rfl ?_)
   refine rvc_un (rexec_prim C (δ := { v := .undef, wr := [(8, some (.cells [.pv (.lit (.int .i64 x.node)), .pv (.lit (.int .i64 x.site)), .pv (.lit (.bool x.fresh))]))] }) rfl rfl rfl rfl trivial rfl ?_)
   refine rvc_nil ?_
   refine Awp.consP C ?_
   refine rvP C (.pv (.lit (.int .u64 gone))) ?_
   refine rvP C (.ptr 8 0) ?_
   refine rvP C (.pv (.lit (.int .i64 x.node))) ?_
   refine rvc_un (rexec_call hP C rfl rfl rfl (mHas_calls gone x.node) ?_)
   refine rvP C (.pv (.lit (.bool (!(mHas gone x.node))))) ?_
   refine rvP C (.pv (.lit (.bool (!(mHas gone x.node))))) ?_
   refine rvc_case 21 (!(mHas gone x.node)) rfl (fun h6 => ?_) (fun h6 => ?_)
   ·
    replace hR := of_true h6 hR
    refine rvO C (sS (some l.isEmpty) eMember l) ?_
    refine rvO C (.pv (.lit (.int .i64 (l.length : Int)))) ?_
    refine rvO C (.pv (.lit (.bool (decide ((l.length : Int) > 0))))) ?_
    refine rvO C (.pv (.lit (.bool (decide ((l.length : Int) > 0))))) ?_
    refine rvc_case 25 (decide ((l.length : Int) > 0)) rfl (fun h7 => ?_) (fun h7 => ?_)
    ·
     replace hR := of_true h7 hR
     refine rvS ?_
     refine rvS ?_
     refine rvS ?_
     refine rvO C (.pv (.lit (.bool true))) ?_
     refine rvP C (.pv (.lit (.bool true))) ?_
     refine rvc_nil ?_
     refine Awp.condT (b := true) rfl rfl ?_
     refine Awp.regionP C ?_
     refine rvP C (sS (some l.isEmpty) eMember l) ?_
     refine rvP C (.agg [.pv (.lit (.int .i64 x.node)), .pv (.lit (.int .i64 x.site)), .pv (.lit (.bool x.fresh))]) ?_
     refine rvc_un (rexec_buildSliceF C eMember [x] rfl rfl rfl rfl rfl rfl rfl (by decide) rfl ?_)
     refine rvc_un (rexec_appendG C rfl rfl rfl rfl rfl rfl rfl rfl (fun _ h => by cases h) rfl (en := eMember) (l := l) (D := [x]) rfl rfl h2 (by rw [h2]; rfl) (by simp) (by have := of_decide_eq_true h3; have := of_decide_eq_true h7; first | omega | (simp <;> omega)) (by decide) (nn := (l ++ [x]).length) (by simp) ?_)
     refine rvP C (.sl 34 0 ((l ++ [x]).length) 3 false) ?_
     refine rvc_nil ?_
     refine Awp.regionP C ?_
     refine rvP C (.pv (.lit (.int .i64 (IntKind.i64.wrap ((i : Int) + 1))))) ?_
     refine rvP C (.pv (.lit (.int .i64 (IntKind.i64.wrap ((i : Int) + 1))))) ?_
     refine rvc_nil ?_
     refine ⟨h4, (l ++ [x]), ?_, ?_⟩
     · exact ⟨hR, (by first | omega | (simp <;> omega))⟩
     · exact ⟨fun b => bif b == 900 then 34 else (fun b => b) b, WeakerR.ofL (Ks := [2, 4, 900]) hI ⟨⟨rfl, rfl⟩, ⟨rfl, rfl⟩, ⟨rfl, rfl⟩, ⟨grow_to rfl rfl app_ne rfl rfl, grow_within rfl⟩, ⟨rfl, rfl⟩, ⟨rfl, rfl⟩, ⟨lit_cast (wrap_i64 (by omega) (by omega)), rfl⟩, trivial⟩ (okH_grow (fun _ => rfl) rfl rfl (okH_cons rfl rfl rfl rfl (okH_cons rfl rfl rfl rfl (okH_nil)))) rfl⟩
    ·
     replace hR := of_false h7 hR
     refine rvO C (.ptr 8 2) ?_
     refine rvO C (.pv (.lit (.bool x.fresh))) ?_
     refine rvO C (.pv (.lit (.bool (!x.fresh)))) ?_
     refine rvO C (.pv (.lit (.bool (!x.fresh)))) ?_
     refine rvP C (.pv (.lit (.bool (!x.fresh)))) ?_
     refine rvc_nil ?_
     refine Awp.cond (b := (!x.fresh)) rfl (fun h8 => ?_) (fun h8 => ?_)
     ·
      replace hR := of_true h8 hR
      refine Awp.regionP C ?_
      refine rvP C (sS (some l.isEmpty) eMember l) ?_
      refine rvP C (.agg [.pv (.lit (.int .i64 x.node)), .pv (.lit (.int .i64 x.site)), .pv (.lit (.bool x.fresh))]) ?_
      refine rvc_un (rexec_buildSliceF C eMember [x] rfl rfl rfl rfl rfl rfl rfl (by decide) rfl ?_)
      refine rvc_un (rexec_appendG C rfl rfl rfl rfl rfl rfl rfl rfl (fun _ h => by cases h) rfl (en := eMember) (l := l) (D := [x]) rfl rfl h2 (by rw [h2]; rfl) (by simp) (by have := of_decide_eq_true h3; have := of_decide_eq_false h7; first | omega | (simp <;> omega)) (by decide) (nn := (l ++ [x]).length) (by simp) ?_)
      refine rvP C (.sl 34 0 ((l ++ [x]).length) 3 false) ?_
      refine rvc_nil ?_
      refine Awp.regionP C ?_
      refine rvP C (.pv (.lit (.int .i64 (IntKind.i64.wrap ((i : Int) + 1))))) ?_
      refine rvP C (.pv (.lit (.int .i64 (IntKind.i64.wrap ((i : Int) + 1))))) ?_
      refine rvc_nil ?_
      refine ⟨h4, (l ++ [x]), ?_, ?_⟩
      · exact ⟨hR, (by first | omega | (simp <;> omega))⟩
      · exact ⟨fun b => bif b == 900 then 34 else (fun b => b) b, WeakerR.ofL (Ks := [2, 4, 900]) hI ⟨⟨rfl, rfl⟩, ⟨rfl, rfl⟩, ⟨rfl, rfl⟩, ⟨grow_to rfl rfl app_ne rfl rfl, grow_within rfl⟩, ⟨rfl, rfl⟩, ⟨rfl, rfl⟩, ⟨lit_cast (wrap_i64 (by omega) (by omega)), rfl⟩, trivial⟩ (okH_grow (fun _ => rfl) rfl rfl (okH_cons rfl rfl rfl rfl (okH_cons rfl rfl rfl rfl (okH_nil)))) rfl⟩
     ·
      replace hR := of_false h8 hR
      refine Awp.skip ?_
      refine Awp.regionP C ?_
      refine rvP C (.pv (.lit (.int .i64 (IntKind.i64.wrap ((i : Int) + 1))))) ?_
      refine rvP C (.pv (.lit (.int .i64 (IntKind.i64.wrap ((i : Int) + 1))))) ?_
      refine rvc_nil ?_
      refine ⟨h4, l, ?_, ?_⟩
      · exact ⟨hR, (by first | omega | (simp <;> omega))⟩
      · exact ⟨fun b => b, WeakerR.ofL (Ks := [2, 4, 900]) hI ⟨⟨rfl, rfl⟩, ⟨rfl, rfl⟩, ⟨rfl, rfl⟩, ⟨grow_to_nil rfl h2 (.inr rfl), grow_within rfl⟩, ⟨rfl, rfl⟩, ⟨rfl, rfl⟩, ⟨lit_cast (wrap_i64 (by omega) (by omega)), rfl⟩, trivial⟩ (okH_grow (fun hne => absurd h2 hne) rfl rfl (okH_cons rfl rfl rfl rfl (okH_cons rfl rfl rfl rfl (okH_nil)))) rfl⟩
   ·
    replace hR := of_false h6 hR
    refine rvS ?_
    refine rvS ?_
    refine rvS ?_
    refine rvS ?_
    refine rvc_shutU rfl rfl rfl ?_
    refine rvc_shutU rfl rfl rfl ?_
    refine rvc_shutU rfl rfl rfl ?_
    refine rvS ?_
    refine rvP C (.pv (.lit (.bool false))) ?_
    refine rvc_nil ?_
    refine Awp.condF (b := false) rfl rfl ?_
    refine Awp.skip ?_
    refine Awp.regionP C ?_
    refine rvP C (.pv (.lit (.int .i64 (IntKind.i64.wrap ((i : Int) + 1))))) ?_
    refine rvP C (.pv (.lit (.int .i64 (IntKind.i64.wrap ((i : Int) + 1))))) ?_
    refine rvc_nil ?_
    refine ⟨h4, l, ?_, ?_⟩
    · exact ⟨hR, (by first | omega | (simp <;> omega))⟩
    · exact ⟨fun b => b, WeakerR.ofL (Ks := [2, 4, 900]) hI ⟨⟨rfl, rfl⟩, ⟨rfl, rfl⟩, ⟨rfl, rfl⟩, ⟨grow_to_nil rfl h2 (.inr rfl), grow_within rfl⟩, ⟨rfl, rfl⟩, ⟨rfl, rfl⟩, ⟨lit_cast (wrap_i64 (by omega) (by omega)), rfl⟩, trivial⟩ (okH_grow (fun hne => absurd h2 hne) rfl rfl (okH_cons rfl rfl rfl rfl (okH_cons rfl rfl rfl rfl (okH_nil)))) rfl⟩
  ·
   have h4 : ¬ i < c.members.D.length := by have := of_decide_eq_false h3; omega
   rw [drop_end h4] at hR
   refine Awp.exit ?_
   refine Awp.seq ?_
   refine Awp.block ?_
   refine Awp.consP C ?_
   refine rvP C (.ptr 2 0) ?_
   refine rvP C (.pv (.lit (.int .i64 c.epoch))) ?_
   refine rvP C (.pv (.lit (.bool (decide (c.epoch ≥ 1099511627776))))) ?_
   refine rvP C (.pv (.lit (.bool (decide (c.epoch ≥ 1099511627776))))) ?_
   refine rvc_nil ?_
   refine Awp.cond (b := (decide (c.epoch ≥ 1099511627776))) rfl (fun h9 => ?_) (fun h9 => ?_)
   ·
    replace hR := of_true h9 hR
    refine Awp.consP C ?_
    refine rvP C (.agg [.pv (.lit (.int .i64 0)), sS (some true) eMember []]) ?_
    refine rvc_un (rexec_prim C (δ := { v := .undef, wr := [(4, some (.cells [.pv (.lit (.int .i64 0)), sS (some true) eMember []]))] }) rfl rfl rfl rfl trivial rfl ?_)
    refine rvP C (.pv (.lit (.int .i64 5))) ?_
    refine rvc_nil ?_
    refine Awp.ret ?_
    subst hR
    exact ⟨.inl rfl, rfl⟩
   ·
    replace hR := of_false h9 hR
    refine Awp.consP C ?_
    refine rvP C (sS (some l.isEmpty) eMember l) ?_
    refine rvP C (.pv (.lit (.int .i64 (l.length : Int)))) ?_
    refine rvP C (.ptr 2 1) ?_
    refine rvP C (sS (some c.members.nil) eMember c.members.D) ?_
    refine rvP C (.pv (.lit (.int .i64 (c.members.D.length : Int)))) ?_
    refine rvP C (.pv (.lit (.bool ((l.length : Int) == (c.members.D.length : Int))))) ?_
    refine rvP C (.pv (.lit (.bool ((l.length : Int) == (c.members.D.length : Int))))) ?_
    refine rvc_nil ?_
    refine Awp.cond (b := ((l.length : Int) == (c.members.D.length : Int))) rfl (fun h10 => ?_) (fun h10 => ?_)
    ·
     replace hR := of_true h10 hR
     refine Awp.consP C ?_
     refine rvP C (.agg [.pv (.lit (.int .i64 0)), sS (some true) eMember []]) ?_
     refine rvc_un (rexec_prim C (δ := { v := .undef, wr := [(4, some (.cells [.pv (.lit (.int .i64 0)), sS (some true) eMember []]))] }) rfl rfl rfl rfl trivial rfl ?_)
     refine rvP C (.pv (.lit (.int .i64 81))) ?_
     refine rvc_nil ?_
     refine Awp.ret ?_
     subst hR
     exact ⟨.inl rfl, rfl⟩
    ·
     replace hR := of_false h10 hR
     refine Awp.consP C ?_
     refine rvP C (sS (some l.isEmpty) eMember l) ?_
     refine rvP C (.pv (.lit (.int .i64 (l.length : Int)))) ?_
     refine rvP C (.pv (.lit (.bool ((l.length : Int) == 0)))) ?_
     refine rvP C (.pv (.lit (.bool ((l.length : Int) == 0)))) ?_
     refine rvc_nil ?_
     refine Awp.cond (b := ((l.length : Int) == 0)) rfl (fun h11 => ?_) (fun h11 => ?_)
     ·
      replace hR := of_true h11 hR
      refine Awp.consP C ?_
      refine rvP C (.agg [.pv (.lit (.int .i64 0)), sS (some true) eMember []]) ?_
      refine rvc_un (rexec_prim C (δ := { v := .undef, wr := [(4, some (.cells [.pv (.lit (.int .i64 0)), sS (some true) eMember []]))] }) rfl rfl rfl rfl trivial rfl ?_)
      refine rvP C (.pv (.lit (.int .i64 83))) ?_
      refine rvc_nil ?_
      refine Awp.ret ?_
      subst hR
      exact ⟨.inl rfl, rfl⟩
     ·
      replace hR := of_false h11 hR
      refine Awp.skip ?_
      refine Awp.consP C ?_
      refine rvP C (.agg [.pv (.lit (.int .i64 c.epoch)), sS (some c.members.nil) eMember c.members.D]) ?_
      refine rvP C (sS (some l.isEmpty) eMember l) ?_
      refine rvc_un (rexec_call hP C rfl rfl rfl (after_calls c (Sl.mk l.isEmpty l)) ?_)
      refine rvc_un (rexec_prim C (δ := { v := .undef, wr := [(4, some (.cells [.pv (.lit (.int .i64 ((after c (Sl.mk l.isEmpty l)).epoch))), sS (some (after c (Sl.mk l.isEmpty l)).members.nil) eMember ((after c (Sl.mk l.isEmpty l)).members.D)]))] }) rfl rfl rfl rfl trivial rfl ?_)
      refine rvP C (.pv (.lit (.int .i64 0))) ?_
      refine rvc_nil ?_
      refine Awp.ret ?_
      subst hR
      exact ⟨.inl rfl, rfl⟩
 ·
  refine Awp.wordsR [(1, .pv (.lit (.int .u64 gone))), (2, .ptr 2 0), (4, .ptr 4 0), (6, .sl 900 0 l.length 3 false), (10, sS (some c.members.nil) eMember c.members.D), (11, .pv (.lit (.int .i64 (c.members.D.length : Int)))), (12, .pv (.lit (.int .i64 (i : Int))))] [(900, .cells (encC eMember l)), (2, .cells [.pv (.lit (.int .i64 c.epoch)), sS (some c.members.nil) eMember c.members.D]), (4, .cells [.pv (.lit (.int .i64 0)), sS (some true) eMember []])] [2, 4, 900] (WeakerR.ofL (Ks := [2, 4, 900]) hI ⟨⟨rfl, rfl⟩, ⟨rfl, rfl⟩, ⟨rfl, rfl⟩, ⟨(by exact grow_at_cons (b := 900) (b' := 900) (e := eMember) (l := l) rfl h2 rfl rfl rfl), rfl⟩, ⟨rfl, rfl⟩, ⟨rfl, rfl⟩, ⟨rfl, rfl⟩, trivial⟩ (okH_list (look_cons h2 rfl) rfl rfl (okH_cons (look_cons h2 rfl) rfl rfl rfl (okH_cons (look_cons h2 rfl) rfl rfl rfl (okH_nil)))) rfl) ?_
  refine Awp.consP C ?_
  refine rvP C (.pv (.lit (.bool (decide ((i : Int) < (c.members.D.length : Int)))))) ?_
  refine rvc_nil ?_
  refine Awp.seq ?_
  refine Awp.cond (b := (decide ((i : Int) < (c.members.D.length : Int)))) rfl (fun h12 => ?_) (fun h12 => ?_)
  ·
   have h13 : i < c.members.D.length := by have := of_decide_eq_true h12; omega
   obtain ⟨x, h14⟩ := getX h13
   rw [drop_at h14] at hR
   refine Awp.skip ?_
   refine Awp.seq ?_
   refine Awp.block ?_
   refine Awp.consP C ?_
   refine rvc_un (rexec_idxS C rfl rfl rfl rfl rfl rfl x (Int.natCast_nonneg _) h14 ?_)
   refine rvP C (.agg [.pv (.lit (.int .i64 x.node)), .pv (.lit (.int .i64 x.site)), .pv (.lit (.bool x.fresh))]) ?_
   refine rvc_un (rexec_prim C (δ := { v := .ptr 8 0, new := [(8, .cells [.pv (.lit (.int .i64 0)), .pv (.lit (.int .i64 0)), .pv (.lit (.bool false))])] }) rfl rfl rfl rfl trivial rfl ?_)
   refine rvc_un (rexec_prim C (δ := { v := .undef, wr := [(8, some (.cells [.pv (.lit (.int .i64 x.node)), .pv (.lit (.int .i64 x.site)), .pv (.lit (.bool x.fresh))]))] }) rfl rfl rfl rfl trivial rfl ?_)
   refine rvc_nil ?_
   refine Awp.consP C ?_
   refine rvP C (.pv (.lit (.int .u64 gone))) ?_
   refine rvP C (.ptr 8 0) ?_
   refine rvP C (.pv (.lit (.int .i64 x.node))) ?_
   refine rvc_un (rexec_call hP C rfl rfl rfl (mHas_calls gone x.node) ?_)
   refine rvP C (.pv (.lit (.bool (!(mHas gone x.node))))) ?_
   refine rvP C (.pv (.lit (.bool (!(mHas gone x.node))))) ?_
   refine rvc_case 21 (!(mHas gone x.node)) rfl (fun h15 => ?_) (fun h15 => ?_)
   ·
    replace hR := of_true h15 hR
    refine rvO C (.sl 900 0 l.length 3 false) ?_
    refine rvO C (.pv (.lit (.int .i64 (l.length : Int)))) ?_
    refine rvO C (.pv (.lit (.bool (decide ((l.length : Int) > 0))))) ?_
    refine rvO C (.pv (.lit (.bool (decide ((l.length : Int) > 0))))) ?_
    refine rvc_case 25 (decide ((l.length : Int) > 0)) rfl (fun h16 => ?_) (fun h16 => ?_)
    ·
     replace hR := of_true h16 hR
     refine rvS ?_
     refine rvS ?_
     refine rvS ?_
     refine rvO C (.pv (.lit (.bool true))) ?_
     refine rvP C (.pv (.lit (.bool true))) ?_
     refine rvc_nil ?_
     refine Awp.condT (b := true) rfl rfl ?_
     refine Awp.regionP C ?_
     refine rvP C (.sl 900 0 l.length 3 false) ?_
     refine rvP C (.agg [.pv (.lit (.int .i64 x.node)), .pv (.lit (.int .i64 x.site)), .pv (.lit (.bool x.fresh))]) ?_
     refine rvc_un (rexec_buildSliceF C eMember [x] rfl rfl rfl rfl rfl rfl rfl (by decide) rfl ?_)
     refine rvc_un (rexec_append C rfl rfl rfl rfl rfl rfl rfl rfl (fun _ h => by cases h) rfl (en := eMember) (D0 := l) (D := [x]) rfl rfl rfl rfl (by have := of_decide_eq_true h12; have := of_decide_eq_true h16; first | omega | (simp <;> omega)) (by decide) (nn := (l ++ [x]).length) (by simp) ?_)
     refine rvP C (.sl 34 0 ((l ++ [x]).length) 3 false) ?_
     refine rvc_nil ?_
     refine Awp.regionP C ?_
     refine rvP C (.pv (.lit (.int .i64 (IntKind.i64.wrap ((i : Int) + 1))))) ?_
     refine rvP C (.pv (.lit (.int .i64 (IntKind.i64.wrap ((i : Int) + 1))))) ?_
     refine rvc_nil ?_
     refine ⟨h13, (l ++ [x]), ?_, ?_⟩
     · exact ⟨hR, (by first | omega | (simp <;> omega))⟩
     · exact ⟨fun b => bif b == 900 then 34 else (fun b => b) b, WeakerR.ofL (Ks := [2, 4, 900]) hI ⟨⟨rfl, rfl⟩, ⟨rfl, rfl⟩, ⟨rfl, rfl⟩, ⟨grow_to rfl rfl app_ne rfl rfl, grow_within rfl⟩, ⟨rfl, rfl⟩, ⟨rfl, rfl⟩, ⟨lit_cast (wrap_i64 (by omega) (by omega)), rfl⟩, trivial⟩ (okH_grow (fun _ => rfl) rfl rfl (okH_cons rfl rfl rfl rfl (okH_cons rfl rfl rfl rfl (okH_nil)))) rfl⟩
    ·
     replace hR := of_false h16 hR
     refine rvO C (.ptr 8 2) ?_
     refine rvO C (.pv (.lit (.bool x.fresh))) ?_
     refine rvO C (.pv (.lit (.bool (!x.fresh)))) ?_
     refine rvO C (.pv (.lit (.bool (!x.fresh)))) ?_
     refine rvP C (.pv (.lit (.bool (!x.fresh)))) ?_
     refine rvc_nil ?_
     refine Awp.cond (b := (!x.fresh)) rfl (fun h17 => ?_) (fun h17 => ?_)
     ·
      replace hR := of_true h17 hR
      refine Awp.regionP C ?_
      refine rvP C (.sl 900 0 l.length 3 false) ?_
      refine rvP C (.agg [.pv (.lit (.int .i64 x.node)), .pv (.lit (.int .i64 x.site)), .pv (.lit (.bool x.fresh))]) ?_
      refine rvc_un (rexec_buildSliceF C eMember [x] rfl rfl rfl rfl rfl rfl rfl (by decide) rfl ?_)
      refine rvc_un (rexec_append C rfl rfl rfl rfl rfl rfl rfl rfl (fun _ h => by cases h) rfl (en := eMember) (D0 := l) (D := [x]) rfl rfl rfl rfl (by have := of_decide_eq_true h12; have := of_decide_eq_false h16; first | omega | (simp <;> omega)) (by decide) (nn := (l ++ [x]).length) (by simp) ?_)
      refine rvP C (.sl 34 0 ((l ++ [x]).length) 3 false) ?_
      refine rvc_nil ?_
      refine Awp.regionP C ?_
      refine rvP C (.pv (.lit (.int .i64 (IntKind.i64.wrap ((i : Int) + 1))))) ?_
      refine rvP C (.pv (.lit (.int .i64 (IntKind.i64.wrap ((i : Int) + 1))))) ?_
      refine rvc_nil ?_
      refine ⟨h13, (l ++ [x]), ?_, ?_⟩
      · exact ⟨hR, (by first | omega | (simp <;> omega))⟩
      · exact ⟨fun b => bif b == 900 then 34 else (fun b => b) b, WeakerR.ofL (Ks := [2, 4, 900]) hI ⟨⟨rfl, rfl⟩, ⟨rfl, rfl⟩, ⟨rfl, rfl⟩, ⟨grow_to rfl rfl app_ne rfl rfl, grow_within rfl⟩, ⟨rfl, rfl⟩, ⟨rfl, rfl⟩, ⟨lit_cast (wrap_i64 (by omega) (by omega)), rfl⟩, trivial⟩ (okH_grow (fun _ => rfl) rfl rfl (okH_cons rfl rfl rfl rfl (okH_cons rfl rfl rfl rfl (okH_nil)))) rfl⟩
     ·
      replace hR := of_false h17 hR
      refine Awp.skip ?_
      refine Awp.regionP C ?_
      refine rvP C (.pv (.lit (.int .i64 (IntKind.i64.wrap ((i : Int) + 1))))) ?_
      refine rvP C (.pv (.lit (.int .i64 (IntKind.i64.wrap ((i : Int) + 1))))) ?_
      refine rvc_nil ?_
      refine ⟨h13, l, ?_, ?_⟩
      · exact ⟨hR, (by first | omega | (simp <;> omega))⟩
      · exact ⟨fun b => b, WeakerR.ofL (Ks := [2, 4, 900]) hI ⟨⟨rfl, rfl⟩, ⟨rfl, rfl⟩, ⟨rfl, rfl⟩, ⟨grow_to rfl rfl h2 rfl rfl, grow_within rfl⟩, ⟨rfl, rfl⟩, ⟨rfl, rfl⟩, ⟨lit_cast (wrap_i64 (by omega) (by omega)), rfl⟩, trivial⟩ (okH_grow (fun _ => rfl) rfl rfl (okH_cons rfl rfl rfl rfl (okH_cons rfl rfl rfl rfl (okH_nil)))) rfl⟩
   ·
    replace hR := of_false h15 hR
    refine rvS ?_
    refine rvS ?_
    refine rvS ?_
    refine rvS ?_
    refine rvc_shutU rfl rfl rfl ?_
    refine rvc_shutU rfl rfl rfl ?_
    refine rvc_shutU rfl rfl rfl ?_
    refine rvS ?_
    refine rvP C (.pv (.lit (.bool false))) ?_
    refine rvc_nil ?_
    refine Awp.condF (b := false) rfl rfl ?_
    refine Awp.skip ?_
    refine Awp.regionP C ?_
    refine rvP C (.pv (.lit (.int .i64 (IntKind.i64.wrap ((i : Int) + 1))))) ?_
    refine rvP C (.pv (.lit (.int .i64 (IntKind.i64.wrap ((i : Int) + 1))))) ?_
    refine rvc_nil ?_
    refine ⟨h13, l, ?_, ?_⟩
    · exact ⟨hR, (by first | omega | (simp <;> omega))⟩
    · exact ⟨fun b => b, WeakerR.ofL (Ks := [2, 4, 900]) hI ⟨⟨rfl, rfl⟩, ⟨rfl, rfl⟩, ⟨rfl, rfl⟩, ⟨grow_to rfl rfl h2 rfl rfl, grow_within rfl⟩, ⟨rfl, rfl⟩, ⟨rfl, rfl⟩, ⟨lit_cast (wrap_i64 (by omega) (by omega)), rfl⟩, trivial⟩ (okH_grow (fun _ => rfl) rfl rfl (okH_cons rfl rfl rfl rfl (okH_cons rfl rfl rfl rfl (okH_nil)))) rfl⟩
  ·
   have h13 : ¬ i < c.members.D.length := by have := of_decide_eq_false h12; omega
   rw [drop_end h13] at hR
   refine Awp.exit ?_
   refine Awp.seq ?_
   refine Awp.block ?_
   refine Awp.consP C ?_
   refine rvP C (.ptr 2 0) ?_
   refine rvP C (.pv (.lit (.int .i64 c.epoch))) ?_
   refine rvP C (.pv (.lit (.bool (decide (c.epoch ≥ 1099511627776))))) ?_
   refine rvP C (.pv (.lit (.bool (decide (c.epoch ≥ 1099511627776))))) ?_
   refine rvc_nil ?_
   refine Awp.cond (b := (decide (c.epoch ≥ 1099511627776))) rfl (fun h18 => ?_) (fun h18 => ?_)
   ·
    replace hR := of_true h18 hR
    refine Awp.consP C ?_
    refine rvP C (.agg [.pv (.lit (.int .i64 0)), sS (some true) eMember []]) ?_
    refine rvc_un (rexec_prim C (δ := { v := .undef, wr := [(4, some (.cells [.pv (.lit (.int .i64 0)), sS (some true) eMember []]))] }) rfl rfl rfl rfl trivial rfl ?_)
    refine rvP C (.pv (.lit (.int .i64 5))) ?_
    refine rvc_nil ?_
    refine Awp.ret ?_
    subst hR
    exact ⟨.inl rfl, rfl⟩
   ·
    replace hR := of_false h18 hR
    refine Awp.consP C ?_
    refine rvP C (.sl 900 0 l.length 3 false) ?_
    refine rvP C (.pv (.lit (.int .i64 (l.length : Int)))) ?_
    refine rvP C (.ptr 2 1) ?_
    refine rvP C (sS (some c.members.nil) eMember c.members.D) ?_
    refine rvP C (.pv (.lit (.int .i64 (c.members.D.length : Int)))) ?_
    refine rvP C (.pv (.lit (.bool ((l.length : Int) == (c.members.D.length : Int))))) ?_
    refine rvP C (.pv (.lit (.bool ((l.length : Int) == (c.members.D.length : Int))))) ?_
    refine rvc_nil ?_
    refine Awp.cond (b := ((l.length : Int) == (c.members.D.length : Int))) rfl (fun h19 => ?_) (fun h19 => ?_)
    ·
     replace hR := of_true h19 hR
     refine Awp.consP C ?_
     refine rvP C (.agg [.pv (.lit (.int .i64 0)), sS (some true) eMember []]) ?_
     refine rvc_un (rexec_prim C (δ := { v := .undef, wr := [(4, some (.cells [.pv (.lit (.int .i64 0)), sS (some true) eMember []]))] }) rfl rfl rfl rfl trivial rfl ?_)
     refine rvP C (.pv (.lit (.int .i64 81))) ?_
     refine rvc_nil ?_
     refine Awp.ret ?_
     subst hR
     exact ⟨.inl rfl, rfl⟩
    ·
     replace hR := of_false h19 hR
     refine Awp.consP C ?_
     refine rvP C (.sl 900 0 l.length 3 false) ?_
     refine rvP C (.pv (.lit (.int .i64 (l.length : Int)))) ?_
     refine rvP C (.pv (.lit (.bool ((l.length : Int) == 0)))) ?_
     refine rvP C (.pv (.lit (.bool ((l.length : Int) == 0)))) ?_
     refine rvc_nil ?_
     refine Awp.cond (b := ((l.length : Int) == 0)) rfl (fun h20 => ?_) (fun h20 => ?_)
     ·
      replace hR := of_true h20 hR
      refine Awp.consP C ?_
      refine rvP C (.agg [.pv (.lit (.int .i64 0)), sS (some true) eMember []]) ?_
      refine rvc_un (rexec_prim C (δ := { v := .undef, wr := [(4, some (.cells [.pv (.lit (.int .i64 0)), sS (some true) eMember []]))] }) rfl rfl rfl rfl trivial rfl ?_)
      refine rvP C (.pv (.lit (.int .i64 83))) ?_
      refine rvc_nil ?_
      refine Awp.ret ?_
      subst hR
      exact ⟨.inl rfl, rfl⟩
     ·
      replace hR := of_false h20 hR
      refine Awp.skip ?_
      refine Awp.freezeW 900 (encL eMember l) ?_ [(2, .ptr 2 0), (4, .ptr 4 0), (6, sS (some l.isEmpty) eMember l)] [(2, .cells [.pv (.lit (.int .i64 c.epoch)), sS (some c.members.nil) eMember c.members.D]), (4, .cells [.pv (.lit (.int .i64 0)), sS (some true) eMember []])] ?_ ?_ ?_
      · rfl
      · exact ⟨⟨_, rfl, .inl (.inl rfl)⟩, ⟨_, rfl, .inl (.inl rfl)⟩, ⟨_, rfl, .inl (.inr ⟨_, _, _, rfl, by rw [ne_isEmpty h2]; rfl⟩)⟩, trivial⟩
      · exact ⟨⟨(by show (2 : Nat) ≠ 900; decide), .inl rfl⟩, ⟨(by show (4 : Nat) ≠ 900; decide), .inl rfl⟩, trivial⟩
      refine Awp.consP C ?_
      refine rvP C (.agg [.pv (.lit (.int .i64 c.epoch)), sS (some c.members.nil) eMember c.members.D]) ?_
      refine rvP C (sS (some l.isEmpty) eMember l) ?_
      refine rvc_un (rexec_call hP C rfl rfl rfl (after_calls c (Sl.mk l.isEmpty l)) ?_)
      refine rvc_un (rexec_prim C (δ := { v := .undef, wr := [(4, some (.cells [.pv (.lit (.int .i64 ((after c (Sl.mk l.isEmpty l)).epoch))), sS (some (after c (Sl.mk l.isEmpty l)).members.nil) eMember ((after c (Sl.mk l.isEmpty l)).members.D)]))] }) rfl rfl rfl rfl trivial rfl ?_)
      refine rvP C (.pv (.lit (.int .i64 0))) ?_
      refine rvc_nil ?_
      refine Awp.ret ?_
      subst hR
      exact ⟨.inl rfl, rfl⟩
def firstC_l1 (i : Nat) (kk : (List Member) → (Chain × Int)) : List Member → Nat → (List Member) → Chain × Int
  | [], _, vc1 => kk vc1
  | x :: xs, i1, vc1 => (bif (x.site == (i : Int)) then firstC_l1 i kk xs (i1 + 1) (vc1 ++ [(Member.mk x.node x.site false)]) else firstC_l1 i kk xs (i1 + 1) vc1)
def firstC_l0 (l : (Sl Member)) : Nat → Nat → (List Member) → Chain × Int
  | 0, _, vc => (bif ((vc.length : Int) != (l.D.length : Int)) then ((Chain.mk 0 (Sl.mk true [])), 80) else (bif ((check (Chain.mk 1 (Sl.mk vc.isEmpty vc))) != 0) then ((Chain.mk 0 (Sl.mk true [])), 80) else ((Chain.mk 1 (Sl.mk vc.isEmpty vc)), 0)))
  | k + 1, i, vc => firstC_l1 i (fun vc2 => firstC_l0 l k (i + 1) vc2) l.D 0 vc
def firstC (l : (Sl Member)) : Chain × Int :=
  firstC_l0 l 3 0 []
theorem firstC_calls (l : (Sl Member)) (hl1 : l.D.length ≤ 1000000) : PCalls Try.prog 40 [sS (some l.nil) eMember l.D] (.tup [.agg [.pv (.lit (.int .i64 ((firstC l).1.epoch))), sS (some (firstC l).1.members.nil) eMember ((firstC l).1.members.D)], .pv (.lit (.int .i64 ((firstC l).2)))]) := by
 generalize hR : firstC l = R
 refine PCalls.of_body tabOk Try.func40 rfl rfl rfl rfl rfl mixed fun E hP C hI => ?_
 refine Awp.consP C ?_
 refine rvc_un (rexec_prim C (δ := { v := .ptr 2 0, new := [(2, .cells [.pv (.lit (.int .i64 0)), sS (some true) eMember []])] }) rfl rfl rfl rfl trivial rfl ?_)
 refine rvP C (.pv (.lit (.int .i64 0))) ?_
 refine rvc_nil ?_
 refine Awp.consP C ?_
 refine rvP C (.agg [.pv (.lit (.int .i64 1)), sS (some true) eMember []]) ?_
 refine rvc_un (rexec_prim C (δ := { v := .ptr 4 0, new := [(4, .cells [.pv (.lit (.int .i64 0)), sS (some true) eMember []])] }) rfl rfl rfl rfl trivial rfl ?_)
 refine rvc_un (rexec_prim C (δ := { v := .undef, wr := [(4, some (.cells [.pv (.lit (.int .i64 1)), sS (some true) eMember []]))] }) rfl rfl rfl rfl trivial rfl ?_)
 refine rvc_nil ?_
 refine Awp.seq ?_
 refine Awp.consP C ?_
 refine rvP C (.pv (.lit (.int .i64 0))) ?_
 refine rvc_nil ?_
 refine Awp.block ?_
 refine Awp.forR (σ := ((List Member))) (3) (fun i v => [(0, sS (some l.nil) eMember l.D), (2, .ptr 2 0), (4, .ptr 4 0), (9, .pv (.lit (.int .i64 (i : Int))))]) (fun i v => (growH 900 eMember v ++ ([(2, .cells [.pv (.lit (.int .i64 0)), sS (some true) eMember []]), (4, .cells [.pv (.lit (.int .i64 1)), grow 900 eMember v])]))) [2, 4, 900] (fun i v => (firstC_l0 l (3 - i) i v = R) ∧ (v.length ≤ i * 1000000)) [] ?_ ?_ (fun i vc h1 hR => ?_)
 · exact ⟨hR, (by first | omega | (simp <;> omega))⟩
 · exact ⟨fun b => b, WeakerR.ofL (Ks := [2, 4, 900]) hI ⟨⟨rfl, rfl⟩, ⟨rfl, rfl⟩, ⟨rfl, rfl⟩, ⟨rfl, rfl⟩, trivial⟩ (okH_grow (fun hne => absurd rfl hne) rfl rfl (okH_cons rfl rfl rfl rfl (okH_cons (cellsTo rfl (by exact ⟨rfl, grow_to_nil rfl rfl (.inl rfl), trivial⟩)) rfl rfl (win_cells (by exact ⟨rfl, grow_within rfl, trivial⟩)) (okH_nil)))) rfl⟩
 obtain ⟨hR, hi_vc⟩ := hR
 replace hi_vc : vc.length ≤ i * 1000000 := hi_vc
 by_cases h2 : vc = []
 ·
  refine Awp.wordsR [(0, sS (some l.nil) eMember l.D), (2, .ptr 2 0), (4, .ptr 4 0), (9, .pv (.lit (.int .i64 (i : Int))))] [(2, .cells [.pv (.lit (.int .i64 0)), sS (some true) eMember []]), (4, .cells [.pv (.lit (.int .i64 1)), sS (some vc.isEmpty) eMember vc])] [2, 4] (WeakerR.ofL (Ks := [2, 4]) hI ⟨⟨rfl, rfl⟩, ⟨rfl, rfl⟩, ⟨rfl, rfl⟩, ⟨rfl, rfl⟩, trivial⟩ (okH_cons (look_nil h2 rfl) rfl rfl rfl (okH_cons (cellsTo (look_nil h2 rfl) (by exact ⟨rfl, (by exact grow_at_nil (b := 900) (e := eMember) (l := vc) rfl h2), trivial⟩)) rfl rfl (win_cells (by exact ⟨rfl, rfl, trivial⟩)) (okH_nil))) rfl) ?_
  refine Awp.consP C ?_
  refine rvP C (.pv (.lit (.bool (decide ((i : Int) < 3))))) ?_
  refine rvc_nil ?_
  refine Awp.seq ?_
  refine Awp.cond (b := (decide ((i : Int) < 3))) rfl (fun h3 => ?_) (fun h3 => ?_)
  ·
   have h4 : i < 3 := by have := of_decide_eq_true h3; omega
   obtain ⟨k, h5⟩ : ∃ k, 3 - i = k + 1 := ⟨3 - i - 1, by omega⟩
   rw [h5] at hR
   refine Awp.skip ?_
   refine Awp.seq ?_
   refine Awp.block ?_
   refine Awp.consP C ?_
   refine rvP C (.pv (.lit (.int .i64 (i : Int)))) ?_
   refine rvP C (.pv (.lit (.int .i64 (i : Int)))) ?_
   refine rvc_nil ?_
   refine Awp.consP C ?_
   refine rvP C (sS (some l.nil) eMember l.D) ?_
   refine rvP C (.pv (.lit (.int .i64 (l.D.length : Int)))) ?_
   refine rvP C (.pv (.lit (.int .i64 0))) ?_
   refine rvc_nil ?_
   refine Awp.block ?_
   refine Awp.forR (σ := ((List Member))) (l.D.length) (fun i1 v => [(0, sS (some l.nil) eMember l.D), (2, .ptr 2 0), (4, .ptr 4 0), (5, .pv (.lit (.int .i64 (i : Int)))), (9, .pv (.lit (.int .i64 (i : Int)))), (12, sS (some l.nil) eMember l.D), (13, .pv (.lit (.int .i64 (l.D.length : Int)))), (14, .pv (.lit (.int .i64 (i1 : Int))))]) (fun i1 v => (growH 901 eMember v ++ ([(2, .cells [.pv (.lit (.int .i64 0)), sS (some true) eMember []]), (4, .cells [.pv (.lit (.int .i64 1)), grow 901 eMember v])]))) [2, 4, 901] (fun i1 v => (firstC_l1 i (fun vc1 => firstC_l0 l k (i + 1) vc1) (l.D.drop i1) i1 v = R) ∧ (v.length ≤ vc.length + i1)) vc ?_ ?_ (fun i1 vc1 h6 hR => ?_)
   · exact ⟨hR, (by first | omega | (simp <;> omega))⟩
   · exact ⟨fun b => b, WeakerR.ofL (Ks := [2, 4, 901]) hI ⟨⟨rfl, rfl⟩, ⟨rfl, rfl⟩, ⟨rfl, rfl⟩, ⟨rfl, rfl⟩, ⟨rfl, rfl⟩, ⟨rfl, rfl⟩, ⟨rfl, rfl⟩, ⟨rfl, rfl⟩, trivial⟩ (okH_grow (fun hne => absurd h2 hne) rfl rfl (okH_cons rfl rfl rfl rfl (okH_cons (cellsTo rfl (by exact ⟨rfl, grow_to_nil rfl h2 (.inr rfl), trivial⟩)) rfl rfl (win_cells (by exact ⟨rfl, grow_within rfl, trivial⟩)) (okH_nil)))) rfl⟩
   obtain ⟨hR, hi_vc1⟩ := hR
   replace hi_vc1 : vc1.length ≤ vc.length + i1 := hi_vc1
   by_cases h7 : vc1 = []
   ·
    refine Awp.wordsR [(0, sS (some l.nil) eMember l.D), (2, .ptr 2 0), (4, .ptr 4 0), (5, .pv (.lit (.int .i64 (i : Int)))), (9, .pv (.lit (.int .i64 (i : Int)))), (12, sS (some l.nil) eMember l.D), (13, .pv (.lit (.int .i64 (l.D.length : Int)))), (14, .pv (.lit (.int .i64 (i1 : Int))))] [(2, .cells [.pv (.lit (.int .i64 0)), sS (some true) eMember []]), (4, .cells [.pv (.lit (.int .i64 1)), sS (some vc1.isEmpty) eMember vc1])] [2, 4] (WeakerR.ofL (Ks := [2, 4]) hI ⟨⟨rfl, rfl⟩, ⟨rfl, rfl⟩, ⟨rfl, rfl⟩, ⟨rfl, rfl⟩, ⟨rfl, rfl⟩, ⟨rfl, rfl⟩, ⟨rfl, rfl⟩, ⟨rfl, rfl⟩, trivial⟩ (okH_cons (look_nil h7 rfl) rfl rfl rfl (okH_cons (cellsTo (look_nil h7 rfl) (by exact ⟨rfl, (by exact grow_at_nil (b := 901) (e := eMember) (l := vc1) rfl h7), trivial⟩)) rfl rfl (win_cells (by exact ⟨rfl, rfl, trivial⟩)) (okH_nil))) rfl) ?_
    refine Awp.consP C ?_
    refine rvP C (.pv (.lit (.bool (decide ((i1 : Int) < (l.D.length : Int)))))) ?_
    refine rvc_nil ?_
    refine Awp.seq ?_
    refine Awp.cond (b := (decide ((i1 : Int) < (l.D.length : Int)))) rfl (fun h8 => ?_) (fun h8 => ?_)
    ·
     have h9 : i1 < l.D.length := by have := of_decide_eq_true h8; omega
     obtain ⟨x, h10⟩ := getX h9
     rw [drop_at h10] at hR
     refine Awp.skip ?_
     refine Awp.seq ?_
     refine Awp.block ?_
     refine Awp.consP C ?_
     refine rvc_un (rexec_idxS C rfl rfl rfl rfl rfl rfl x (Int.natCast_nonneg _) h10 ?_)
     refine rvP C (.agg [.pv (.lit (.int .i64 x.node)), .pv (.lit (.int .i64 x.site)), .pv (.lit (.bool x.fresh))]) ?_
     refine rvc_un (rexec_prim C (δ := { v := .ptr 7 0, new := [(7, .cells [.pv (.lit (.int .i64 0)), .pv (.lit (.int .i64 0)), .pv (.lit (.bool false))])] }) rfl rfl rfl rfl trivial rfl ?_)
     refine rvc_un (rexec_prim C (δ := { v := .undef, wr := [(7, some (.cells [.pv (.lit (.int .i64 x.node)), .pv (.lit (.int .i64 x.site)), .pv (.lit (.bool x.fresh))]))] }) rfl rfl rfl rfl trivial rfl ?_)
     refine rvc_nil ?_
     refine Awp.consP C ?_
     refine rvP C (.ptr 7 1) ?_
     refine rvP C (.pv (.lit (.int .i64 x.site))) ?_
     refine rvP C (.pv (.lit (.int .i64 (i : Int)))) ?_
     refine rvP C (.pv (.lit (.bool (x.site == (i : Int))))) ?_
     refine rvc_nil ?_
     refine Awp.cond (b := (x.site == (i : Int))) rfl (fun h11 => ?_) (fun h11 => ?_)
     ·
      replace hR := of_true h11 hR
      refine Awp.consP C ?_
      refine rvP C (.ptr 7 2) ?_
      refine rvc_un (rexec_prim C (δ := { v := .undef, wr := [(7, some (.cells [.pv (.lit (.int .i64 x.node)), .pv (.lit (.int .i64 x.site)), .pv (.lit (.bool false))]))] }) rfl rfl rfl rfl trivial rfl ?_)
      refine rvc_nil ?_
      refine Awp.regionP C ?_
      refine rvP C (.ptr 4 1) ?_
      refine rvP C (sS (some vc1.isEmpty) eMember vc1) ?_
      refine rvP C (.agg [.pv (.lit (.int .i64 x.node)), .pv (.lit (.int .i64 x.site)), .pv (.lit (.bool false))]) ?_
      refine rvc_un (rexec_buildSliceF C eMember [(Member.mk x.node x.site false)] rfl rfl rfl rfl rfl rfl rfl (by decide) rfl ?_)
      refine rvc_un (rexec_appendG C rfl rfl rfl rfl rfl rfl rfl rfl (fun _ h => by cases h) rfl (en := eMember) (l := vc1) (D := [(Member.mk x.node x.site false)]) rfl rfl h7 (by rw [h7]; rfl) (by simp) (by have := of_decide_eq_true h3; have := of_decide_eq_true h8; have := beq_iff_eq.1 h11; first | omega | (simp <;> omega)) (by decide) (nn := (vc1 ++ [(Member.mk x.node x.site false)]).length) (by simp) ?_)
      refine rvP C (.ptr 4 1) ?_
      refine rvc_un (rexec_prim C (δ := { v := .undef, wr := [(4, some (.cells [.pv (.lit (.int .i64 1)), .sl 27 0 ((vc1 ++ [(Member.mk x.node x.site false)]).length) 3 false]))] }) rfl rfl rfl rfl trivial rfl ?_)
      refine rvc_nil ?_
      refine Awp.regionP C ?_
      refine rvP C (.pv (.lit (.int .i64 (IntKind.i64.wrap ((i1 : Int) + 1))))) ?_
      refine rvP C (.pv (.lit (.int .i64 (IntKind.i64.wrap ((i1 : Int) + 1))))) ?_
      refine rvc_nil ?_
      refine ⟨h9, (vc1 ++ [(Member.mk x.node x.site false)]), ?_, ?_⟩
      · exact ⟨hR, (by first | omega | (simp <;> omega))⟩
      · exact ⟨fun b => bif b == 901 then 27 else (fun b => b) b, WeakerR.ofL (Ks := [2, 4, 901]) hI ⟨⟨rfl, rfl⟩, ⟨rfl, rfl⟩, ⟨rfl, rfl⟩, ⟨rfl, rfl⟩, ⟨rfl, rfl⟩, ⟨rfl, rfl⟩, ⟨rfl, rfl⟩, ⟨lit_cast (wrap_i64 (by omega) (by omega)), rfl⟩, trivial⟩ (okH_grow (fun _ => rfl) rfl rfl (okH_cons rfl rfl rfl rfl (okH_cons (cellsTo rfl (by exact ⟨rfl, grow_to rfl rfl app_ne rfl rfl, trivial⟩)) rfl rfl (win_cells (by exact ⟨rfl, grow_within rfl, trivial⟩)) (okH_nil)))) rfl⟩
     ·
      replace hR := of_false h11 hR
      refine Awp.skip ?_
      refine Awp.regionP C ?_
      refine rvP C (.pv (.lit (.int .i64 (IntKind.i64.wrap ((i1 : Int) + 1))))) ?_
      refine rvP C (.pv (.lit (.int .i64 (IntKind.i64.wrap ((i1 : Int) + 1))))) ?_
      refine rvc_nil ?_
      refine ⟨h9, vc1, ?_, ?_⟩
      · exact ⟨hR, (by first | omega | (simp <;> omega))⟩
      · exact ⟨fun b => b, WeakerR.ofL (Ks := [2, 4, 901]) hI ⟨⟨rfl, rfl⟩, ⟨rfl, rfl⟩, ⟨rfl, rfl⟩, ⟨rfl, rfl⟩, ⟨rfl, rfl⟩, ⟨rfl, rfl⟩, ⟨rfl, rfl⟩, ⟨lit_cast (wrap_i64 (by omega) (by omega)), rfl⟩, trivial⟩ (okH_grow (fun hne => absurd h7 hne) rfl rfl (okH_cons rfl rfl rfl rfl (okH_cons (cellsTo rfl (by exact ⟨rfl, grow_to_nil rfl h7 (.inr rfl), trivial⟩)) rfl rfl (win_cells (by exact ⟨rfl, grow_within rfl, trivial⟩)) (okH_nil)))) rfl⟩
    ·
     have h9 : ¬ i1 < l.D.length := by have := of_decide_eq_false h8; omega
     rw [drop_end h9] at hR
     refine Awp.exit ?_
     refine Awp.regionP C ?_
     refine rvP C (.pv (.lit (.int .i64 (IntKind.i64.wrap ((i : Int) + 1))))) ?_
     refine rvP C (.pv (.lit (.int .i64 (IntKind.i64.wrap ((i : Int) + 1))))) ?_
     refine rvc_nil ?_
     refine ⟨h4, vc1, ?_, ?_⟩
     · exact ⟨(by rw [show 3 - (i + 1) = k by omega]; exact hR), (by first | omega | (simp <;> omega))⟩
     · exact ⟨fun b => b, WeakerR.ofL (Ks := [2, 4, 900]) hI ⟨⟨rfl, rfl⟩, ⟨rfl, rfl⟩, ⟨rfl, rfl⟩, ⟨lit_cast (wrap_i64 (by omega) (by omega)), rfl⟩, trivial⟩ (okH_grow (fun hne => absurd h7 hne) rfl rfl (okH_cons rfl rfl rfl rfl (okH_cons (cellsTo rfl (by exact ⟨rfl, grow_to_nil rfl h7 (.inr rfl), trivial⟩)) rfl rfl (win_cells (by exact ⟨rfl, grow_within rfl, trivial⟩)) (okH_nil)))) rfl⟩
   ·
    refine Awp.wordsR [(0, sS (some l.nil) eMember l.D), (2, .ptr 2 0), (4, .ptr 4 0), (5, .pv (.lit (.int .i64 (i : Int)))), (9, .pv (.lit (.int .i64 (i : Int)))), (12, sS (some l.nil) eMember l.D), (13, .pv (.lit (.int .i64 (l.D.length : Int)))), (14, .pv (.lit (.int .i64 (i1 : Int))))] [(901, .cells (encC eMember vc1)), (2, .cells [.pv (.lit (.int .i64 0)), sS (some true) eMember []]), (4, .cells [.pv (.lit (.int .i64 1)), .sl 901 0 vc1.length 3 false])] [2, 4, 901] (WeakerR.ofL (Ks := [2, 4, 901]) hI ⟨⟨rfl, rfl⟩, ⟨rfl, rfl⟩, ⟨rfl, rfl⟩, ⟨rfl, rfl⟩, ⟨rfl, rfl⟩, ⟨rfl, rfl⟩, ⟨rfl, rfl⟩, ⟨rfl, rfl⟩, trivial⟩ (okH_list (look_cons h7 rfl) rfl rfl (okH_cons (look_cons h7 rfl) rfl rfl rfl (okH_cons (cellsTo (look_cons h7 rfl) (by exact ⟨rfl, (by exact grow_at_cons (b := 901) (b' := 901) (e := eMember) (l := vc1) rfl h7 rfl rfl rfl), trivial⟩)) rfl rfl (win_cells (by exact ⟨rfl, rfl, trivial⟩)) (okH_nil)))) rfl) ?_
    refine Awp.consP C ?_
    refine rvP C (.pv (.lit (.bool (decide ((i1 : Int) < (l.D.length : Int)))))) ?_
    refine rvc_nil ?_
    refine Awp.seq ?_
    refine Awp.cond (b := (decide ((i1 : Int) < (l.D.length : Int)))) rfl (fun h12 => ?_) (fun h12 => ?_)
    ·
     have h13 : i1 < l.D.length := by have := of_decide_eq_true h12; omega
     obtain ⟨x, h14⟩ := getX h13
     rw [drop_at h14] at hR
     refine Awp.skip ?_
     refine Awp.seq ?_
     refine Awp.block ?_
     refine Awp.consP C ?_
     refine rvc_un (rexec_idxS C rfl rfl rfl rfl rfl rfl x (Int.natCast_nonneg _) h14 ?_)
     refine rvP C (.agg [.pv (.lit (.int .i64 x.node)), .pv (.lit (.int .i64 x.site)), .pv (.lit (.bool x.fresh))]) ?_
     refine rvc_un (rexec_prim C (δ := { v := .ptr 7 0, new := [(7, .cells [.pv (.lit (.int .i64 0)), .pv (.lit (.int .i64 0)), .pv (.lit (.bool false))])] }) rfl rfl rfl rfl trivial rfl ?_)
     refine rvc_un (rexec_prim C (δ := { v := .undef, wr := [(7, some (.cells [.pv (.lit (.int .i64 x.node)), .pv (.lit (.int .i64 x.site)), .pv (.lit (.bool x.fresh))]))] }) rfl rfl rfl rfl trivial rfl ?_)
     refine rvc_nil ?_
     refine Awp.consP C ?_
     refine rvP C (.ptr 7 1) ?_
     refine rvP C (.pv (.lit (.int .i64 x.site))) ?_
     refine rvP C (.pv (.lit (.int .i64 (i : Int)))) ?_
     refine rvP C (.pv (.lit (.bool (x.site == (i : Int))))) ?_
     refine rvc_nil ?_
     refine Awp.cond (b := (x.site == (i : Int))) rfl (fun h15 => ?_) (fun h15 => ?_)
     ·
      replace hR := of_true h15 hR
      refine Awp.consP C ?_
      refine rvP C (.ptr 7 2) ?_
      refine rvc_un (rexec_prim C (δ := { v := .undef, wr := [(7, some (.cells [.pv (.lit (.int .i64 x.node)), .pv (.lit (.int .i64 x.site)), .pv (.lit (.bool false))]))] }) rfl rfl rfl rfl trivial rfl ?_)
      refine rvc_nil ?_
      refine Awp.regionP C ?_
      refine rvP C (.ptr 4 1) ?_
      refine rvP C (.sl 901 0 vc1.length 3 false) ?_
      refine rvP C (.agg [.pv (.lit (.int .i64 x.node)), .pv (.lit (.int .i64 x.site)), .pv (.lit (.bool false))]) ?_
      refine rvc_un (rexec_buildSliceF C eMember [(Member.mk x.node x.site false)] rfl rfl rfl rfl rfl rfl rfl (by decide) rfl ?_)
      refine rvc_un (rexec_append C rfl rfl rfl rfl rfl rfl rfl rfl (fun _ h => by cases h) rfl (en := eMember) (D0 := vc1) (D := [(Member.mk x.node x.site false)]) rfl rfl rfl rfl (by have := of_decide_eq_true h3; have := of_decide_eq_true h12; have := beq_iff_eq.1 h15; first | omega | (simp <;> omega)) (by decide) (nn := (vc1 ++ [(Member.mk x.node x.site false)]).length) (by simp) ?_)
      refine rvP C (.ptr 4 1) ?_
      refine rvc_un (rexec_prim C (δ := { v := .undef, wr := [(4, some (.cells [.pv (.lit (.int .i64 1)), .sl 27 0 ((vc1 ++ [(Member.mk x.node x.site false)]).length) 3 false]))] }) rfl rfl rfl rfl trivial rfl ?_)
      refine rvc_nil ?_
      refine Awp.regionP C ?_
      refine rvP C (.pv (.lit (.int .i64 (IntKind.i64.wrap ((i1 : Int) + 1))))) ?_
      refine rvP C (.pv (.lit (.int .i64 (IntKind.i64.wrap ((i1 : Int) + 1))))) ?_
      refine rvc_nil ?_
      refine ⟨h13, (vc1 ++ [(Member.mk x.node x.site false)]), ?_, ?_⟩
      · exact ⟨hR, (by first | omega | (simp <;> omega))⟩
      · exact ⟨fun b => bif b == 901 then 27 else (fun b => b) b, WeakerR.ofL (Ks := [2, 4, 901]) hI ⟨⟨rfl, rfl⟩, ⟨rfl, rfl⟩, ⟨rfl, rfl⟩, ⟨rfl, rfl⟩, ⟨rfl, rfl⟩, ⟨rfl, rfl⟩, ⟨rfl, rfl⟩, ⟨lit_cast (wrap_i64 (by omega) (by omega)), rfl⟩, trivial⟩ (okH_grow (fun _ => rfl) rfl rfl (okH_cons rfl rfl rfl rfl (okH_cons (cellsTo rfl (by exact ⟨rfl, grow_to rfl rfl app_ne rfl rfl, trivial⟩)) rfl rfl (win_cells (by exact ⟨rfl, grow_within rfl, trivial⟩)) (okH_nil)))) rfl⟩
     ·
      replace hR := of_false h15 hR
      refine Awp.skip ?_
      refine Awp.regionP C ?_
      refine rvP C (.pv (.lit (.int .i64 (IntKind.i64.wrap ((i1 : Int) + 1))))) ?_
      refine rvP C (.pv (.lit (.int .i64 (IntKind.i64.wrap ((i1 : Int) + 1))))) ?_
      refine rvc_nil ?_
      refine ⟨h13, vc1, ?_, ?_⟩
      · exact ⟨hR, (by first | omega | (simp <;> omega))⟩
      · exact ⟨fun b => b, WeakerR.ofL (Ks := [2, 4, 901]) hI ⟨⟨rfl, rfl⟩, ⟨rfl, rfl⟩, ⟨rfl, rfl⟩, ⟨rfl, rfl⟩, ⟨rfl, rfl⟩, ⟨rfl, rfl⟩, ⟨rfl, rfl⟩, ⟨lit_cast (wrap_i64 (by omega) (by omega)), rfl⟩, trivial⟩ (okH_grow (fun _ => rfl) rfl rfl (okH_cons rfl rfl rfl rfl (okH_cons (cellsTo rfl (by exact ⟨rfl, grow_to rfl rfl h7 rfl rfl, trivial⟩)) rfl rfl (win_cells (by exact ⟨rfl, grow_within rfl, trivial⟩)) (okH_nil)))) rfl⟩
    ·
     have h13 : ¬ i1 < l.D.length := by have := of_decide_eq_false h12; omega
     rw [drop_end h13] at hR
     refine Awp.exit ?_
     refine Awp.regionP C ?_
     refine rvP C (.pv (.lit (.int .i64 (IntKind.i64.wrap ((i : Int) + 1))))) ?_
     refine rvP C (.pv (.lit (.int .i64 (IntKind.i64.wrap ((i : Int) + 1))))) ?_
     refine rvc_nil ?_
     refine ⟨h4, vc1, ?_, ?_⟩
     · exact ⟨(by rw [show 3 - (i + 1) = k by omega]; exact hR), (by first | omega | (simp <;> omega))⟩
     · exact ⟨fun b => bif b == 900 then 901 else (fun b => b) b, WeakerR.ofL (Ks := [2, 4, 900]) hI ⟨⟨rfl, rfl⟩, ⟨rfl, rfl⟩, ⟨rfl, rfl⟩, ⟨lit_cast (wrap_i64 (by omega) (by omega)), rfl⟩, trivial⟩ (okH_grow (fun _ => rfl) rfl rfl (okH_cons rfl rfl rfl rfl (okH_cons (cellsTo rfl (by exact ⟨rfl, grow_to rfl rfl h7 rfl rfl, trivial⟩)) rfl rfl (win_cells (by exact ⟨rfl, grow_within rfl, trivial⟩)) (okH_nil)))) rfl⟩
  ·
   rw [show 3 - i = 0 by have := of_decide_eq_false h3; omega] at hR
   refine Awp.exit ?_
   refine Awp.seq ?_
   refine Awp.consP C ?_
   refine rvP C (.ptr 4 1) ?_
   refine rvP C (sS (some vc.isEmpty) eMember vc) ?_
   refine rvP C (.pv (.lit (.int .i64 (vc.length : Int)))) ?_
   refine rvP C (sS (some l.nil) eMember l.D) ?_
   refine rvP C (.pv (.lit (.int .i64 (l.D.length : Int)))) ?_
   refine rvP C (.pv (.lit (.bool ((vc.length : Int) != (l.D.length : Int))))) ?_
   refine rvP C (.pv (.lit (.bool ((vc.length : Int) != (l.D.length : Int))))) ?_
   refine rvc_case 37 ((vc.length : Int) != (l.D.length : Int)) rfl (fun h16 => ?_) (fun h16 => ?_)
   ·
    replace hR := of_true h16 hR
    refine rvS ?_
    refine rvS ?_
    refine rvS ?_
    refine rvP C (.pv (.lit (.bool true))) ?_
    refine rvc_nil ?_
    refine Awp.condT (b := true) rfl rfl ?_
    refine Awp.consP C ?_
    refine rvP C (.agg [.pv (.lit (.int .i64 0)), sS (some true) eMember []]) ?_
    refine rvc_un (rexec_prim C (δ := { v := .undef, wr := [(2, some (.cells [.pv (.lit (.int .i64 0)), sS (some true) eMember []]))] }) rfl rfl rfl rfl trivial rfl ?_)
    refine rvP C (.pv (.lit (.int .i64 80))) ?_
    refine rvc_nil ?_
    refine Awp.ret ?_
    subst hR
    exact ⟨.inl rfl, rfl⟩
   ·
    replace hR := of_false h16 hR
    refine rvO C (.agg [.pv (.lit (.int .i64 1)), sS (some vc.isEmpty) eMember vc]) ?_
    refine rvc_open rfl rfl rfl (rexec_call hP C rfl rfl rfl (check_calls (Chain.mk 1 (Sl.mk vc.isEmpty vc)) (by show vc.length ≤ 9223372036854775807; have := of_decide_eq_false h3; have := eq_of_bne_false h16; omega)) ?_)
    refine rvO C (.pv (.lit (.bool ((check (Chain.mk 1 (Sl.mk vc.isEmpty vc))) != 0)))) ?_
    refine rvP C (.pv (.lit (.bool ((check (Chain.mk 1 (Sl.mk vc.isEmpty vc))) != 0)))) ?_
    refine rvc_nil ?_
    refine Awp.cond (b := ((check (Chain.mk 1 (Sl.mk vc.isEmpty vc))) != 0)) rfl (fun h17 => ?_) (fun h17 => ?_)
    ·
     replace hR := of_true h17 hR
     refine Awp.consP C ?_
     refine rvP C (.agg [.pv (.lit (.int .i64 0)), sS (some true) eMember []]) ?_
     refine rvc_un (rexec_prim C (δ := { v := .undef, wr := [(2, some (.cells [.pv (.lit (.int .i64 0)), sS (some true) eMember []]))] }) rfl rfl rfl rfl trivial rfl ?_)
     refine rvP C (.pv (.lit (.int .i64 80))) ?_
     refine rvc_nil ?_
     refine Awp.ret ?_
     subst hR
     exact ⟨.inl rfl, rfl⟩
    ·
     replace hR := of_false h17 hR
     refine Awp.skip ?_
     refine Awp.consP C ?_
     refine rvP C (.agg [.pv (.lit (.int .i64 1)), sS (some vc.isEmpty) eMember vc]) ?_
     refine rvc_un (rexec_prim C (δ := { v := .undef, wr := [(2, some (.cells [.pv (.lit (.int .i64 1)), sS (some vc.isEmpty) eMember vc]))] }) rfl rfl rfl rfl trivial rfl ?_)
     refine rvP C (.pv (.lit (.int .i64 0))) ?_
     refine rvc_nil ?_
     refine Awp.ret ?_
     subst hR
     exact ⟨.inl rfl, rfl⟩
 ·
  refine Awp.wordsR [(0, sS (some l.nil) eMember l.D), (2, .ptr 2 0), (4, .ptr 4 0), (9, .pv (.lit (.int .i64 (i : Int))))] [(900, .cells (encC eMember vc)), (2, .cells [.pv (.lit (.int .i64 0)), sS (some true) eMember []]), (4, .cells [.pv (.lit (.int .i64 1)), .sl 900 0 vc.length 3 false])] [2, 4, 900] (WeakerR.ofL (Ks := [2, 4, 900]) hI ⟨⟨rfl, rfl⟩, ⟨rfl, rfl⟩, ⟨rfl, rfl⟩, ⟨rfl, rfl⟩, trivial⟩ (okH_list (look_cons h2 rfl) rfl rfl (okH_cons (look_cons h2 rfl) rfl rfl rfl (okH_cons (cellsTo (look_cons h2 rfl) (by exact ⟨rfl, (by exact grow_at_cons (b := 900) (b' := 900) (e := eMember) (l := vc) rfl h2 rfl rfl rfl), trivial⟩)) rfl rfl (win_cells (by exact ⟨rfl, rfl, trivial⟩)) (okH_nil)))) rfl) ?_
  refine Awp.consP C ?_
  refine rvP C (.pv (.lit (.bool (decide ((i : Int) < 3))))) ?_
  refine rvc_nil ?_
  refine Awp.seq ?_
  refine Awp.cond (b := (decide ((i : Int) < 3))) rfl (fun h18 => ?_) (fun h18 => ?_)
  ·
   have h19 : i < 3 := by have := of_decide_eq_true h18; omega
   obtain ⟨k, h20⟩ : ∃ k, 3 - i = k + 1 := ⟨3 - i - 1, by omega⟩
   rw [h20] at hR
   refine Awp.skip ?_
   refine Awp.seq ?_
   refine Awp.block ?_
   refine Awp.consP C ?_
   refine rvP C (.pv (.lit (.int .i64 (i : Int)))) ?_
   refine rvP C (.pv (.lit (.int .i64 (i : Int)))) ?_
   refine rvc_nil ?_
   refine Awp.consP C ?_
   refine rvP C (sS (some l.nil) eMember l.D) ?_
   refine rvP C (.pv (.lit (.int .i64 (l.D.length : Int)))) ?_
   refine rvP C (.pv (.lit (.int .i64 0))) ?_
   refine rvc_nil ?_
   refine Awp.block ?_
   refine Awp.forR (σ := ((List Member))) (l.D.length) (fun i2 v => [(0, sS (some l.nil) eMember l.D), (2, .ptr 2 0), (4, .ptr 4 0), (5, .pv (.lit (.int .i64 (i : Int)))), (9, .pv (.lit (.int .i64 (i : Int)))), (12, sS (some l.nil) eMember l.D), (13, .pv (.lit (.int .i64 (l.D.length : Int)))), (14, .pv (.lit (.int .i64 (i2 : Int))))]) (fun i2 v => [(2, .cells [.pv (.lit (.int .i64 0)), sS (some true) eMember []]), (4, .cells [.pv (.lit (.int .i64 1)), .sl 902 0 v.length 3 false]), (902, .cells (encC eMember v))]) [2, 4, 902] (fun i2 v => (firstC_l1 i (fun vc2 => firstC_l0 l k (i + 1) vc2) (l.D.drop i2) i2 v = R) ∧ (v ≠ [] ∧ v.length ≤ vc.length + i2)) vc ?_ ?_ (fun i2 vc2 h21 hR => ?_)
   · exact ⟨hR, ⟨h2, (by first | omega | (simp <;> omega))⟩⟩
   · exact ⟨fun b => bif b == 902 then 900 else (fun b => b) b, WeakerR.ofL (Ks := [2, 4, 902]) hI ⟨⟨rfl, rfl⟩, ⟨rfl, rfl⟩, ⟨rfl, rfl⟩, ⟨rfl, rfl⟩, ⟨rfl, rfl⟩, ⟨rfl, rfl⟩, ⟨rfl, rfl⟩, ⟨rfl, rfl⟩, trivial⟩ (okH_cons rfl rfl rfl rfl (okH_cons rfl rfl rfl rfl (okH_list rfl rfl rfl (okH_nil)))) rfl⟩
   obtain ⟨hR, ⟨hn_vc2, hi_vc2⟩⟩ := hR
   replace hi_vc2 : vc2.length ≤ vc.length + i2 := hi_vc2
   refine Awp.consP C ?_
   refine rvP C (.pv (.lit (.bool (decide ((i2 : Int) < (l.D.length : Int)))))) ?_
   refine rvc_nil ?_
   refine Awp.seq ?_
   refine Awp.cond (b := (decide ((i2 : Int) < (l.D.length : Int)))) rfl (fun h22 => ?_) (fun h22 => ?_)
   ·
    have h23 : i2 < l.D.length := by have := of_decide_eq_true h22; omega
    obtain ⟨x1, h24⟩ := getX h23
    rw [drop_at h24] at hR
    refine Awp.skip ?_
    refine Awp.seq ?_
    refine Awp.block ?_
    refine Awp.consP C ?_
    refine rvc_un (rexec_idxS C rfl rfl rfl rfl rfl rfl x1 (Int.natCast_nonneg _) h24 ?_)
    refine rvP C (.agg [.pv (.lit (.int .i64 x1.node)), .pv (.lit (.int .i64 x1.site)), .pv (.lit (.bool x1.fresh))]) ?_
    refine rvc_un (rexec_prim C (δ := { v := .ptr 7 0, new := [(7, .cells [.pv (.lit (.int .i64 0)), .pv (.lit (.int .i64 0)), .pv (.lit (.bool false))])] }) rfl rfl rfl rfl trivial rfl ?_)
    refine rvc_un (rexec_prim C (δ := { v := .undef, wr := [(7, some (.cells [.pv (.lit (.int .i64 x1.node)), .pv (.lit (.int .i64 x1.site)), .pv (.lit (.bool x1.fresh))]))] }) rfl rfl rfl rfl trivial rfl ?_)
    refine rvc_nil ?_
    refine Awp.consP C ?_
    refine rvP C (.ptr 7 1) ?_
    refine rvP C (.pv (.lit (.int .i64 x1.site))) ?_
    refine rvP C (.pv (.lit (.int .i64 (i : Int)))) ?_
    refine rvP C (.pv (.lit (.bool (x1.site == (i : Int))))) ?_
    refine rvc_nil ?_
    refine Awp.cond (b := (x1.site == (i : Int))) rfl (fun h25 => ?_) (fun h25 => ?_)
    ·
     replace hR := of_true h25 hR
     refine Awp.consP C ?_
     refine rvP C (.ptr 7 2) ?_
     refine rvc_un (rexec_prim C (δ := { v := .undef, wr := [(7, some (.cells [.pv (.lit (.int .i64 x1.node)), .pv (.lit (.int .i64 x1.site)), .pv (.lit (.bool false))]))] }) rfl rfl rfl rfl trivial rfl ?_)
     refine rvc_nil ?_
     refine Awp.regionP C ?_
     refine rvP C (.ptr 4 1) ?_
     refine rvP C (.sl 902 0 vc2.length 3 false) ?_
     refine rvP C (.agg [.pv (.lit (.int .i64 x1.node)), .pv (.lit (.int .i64 x1.site)), .pv (.lit (.bool false))]) ?_
     refine rvc_un (rexec_buildSliceF C eMember [(Member.mk x1.node x1.site false)] rfl rfl rfl rfl rfl rfl rfl (by decide) rfl ?_)
     refine rvc_un (rexec_append C rfl rfl rfl rfl rfl rfl rfl rfl (fun _ h => by cases h) rfl (en := eMember) (D0 := vc2) (D := [(Member.mk x1.node x1.site false)]) rfl rfl rfl rfl (by have := of_decide_eq_true h18; have := of_decide_eq_true h22; have := beq_iff_eq.1 h25; first | omega | (simp <;> omega)) (by decide) (nn := (vc2 ++ [(Member.mk x1.node x1.site false)]).length) (by simp) ?_)
     refine rvP C (.ptr 4 1) ?_
     refine rvc_un (rexec_prim C (δ := { v := .undef, wr := [(4, some (.cells [.pv (.lit (.int .i64 1)), .sl 27 0 ((vc2 ++ [(Member.mk x1.node x1.site false)]).length) 3 false]))] }) rfl rfl rfl rfl trivial rfl ?_)
     refine rvc_nil ?_
     refine Awp.regionP C ?_
     refine rvP C (.pv (.lit (.int .i64 (IntKind.i64.wrap ((i2 : Int) + 1))))) ?_
     refine rvP C (.pv (.lit (.int .i64 (IntKind.i64.wrap ((i2 : Int) + 1))))) ?_
     refine rvc_nil ?_
     refine ⟨h23, (vc2 ++ [(Member.mk x1.node x1.site false)]), ?_, ?_⟩
     · exact ⟨hR, ⟨app_ne, (by first | omega | (simp <;> omega))⟩⟩
     · exact ⟨fun b => bif b == 902 then 27 else (fun b => b) b, WeakerR.ofL (Ks := [2, 4, 902]) hI ⟨⟨rfl, rfl⟩, ⟨rfl, rfl⟩, ⟨rfl, rfl⟩, ⟨rfl, rfl⟩, ⟨rfl, rfl⟩, ⟨rfl, rfl⟩, ⟨rfl, rfl⟩, ⟨lit_cast (wrap_i64 (by omega) (by omega)), rfl⟩, trivial⟩ (okH_cons rfl rfl rfl rfl (okH_cons rfl rfl rfl rfl (okH_list rfl rfl rfl (okH_nil)))) rfl⟩
    ·
     replace hR := of_false h25 hR
     refine Awp.skip ?_
     refine Awp.regionP C ?_
     refine rvP C (.pv (.lit (.int .i64 (IntKind.i64.wrap ((i2 : Int) + 1))))) ?_
     refine rvP C (.pv (.lit (.int .i64 (IntKind.i64.wrap ((i2 : Int) + 1))))) ?_
     refine rvc_nil ?_
     refine ⟨h23, vc2, ?_, ?_⟩
     · exact ⟨hR, ⟨hn_vc2, (by first | omega | (simp <;> omega))⟩⟩
     · exact ⟨fun b => b, WeakerR.ofL (Ks := [2, 4, 902]) hI ⟨⟨rfl, rfl⟩, ⟨rfl, rfl⟩, ⟨rfl, rfl⟩, ⟨rfl, rfl⟩, ⟨rfl, rfl⟩, ⟨rfl, rfl⟩, ⟨rfl, rfl⟩, ⟨lit_cast (wrap_i64 (by omega) (by omega)), rfl⟩, trivial⟩ (okH_cons rfl rfl rfl rfl (okH_cons rfl rfl rfl rfl (okH_list rfl rfl rfl (okH_nil)))) rfl⟩
   ·
    have h23 : ¬ i2 < l.D.length := by have := of_decide_eq_false h22; omega
    rw [drop_end h23] at hR
    refine Awp.exit ?_
    refine Awp.regionP C ?_
    refine rvP C (.pv (.lit (.int .i64 (IntKind.i64.wrap ((i : Int) + 1))))) ?_
    refine rvP C (.pv (.lit (.int .i64 (IntKind.i64.wrap ((i : Int) + 1))))) ?_
    refine rvc_nil ?_
    refine ⟨h19, vc2, ?_, ?_⟩
    · exact ⟨(by rw [show 3 - (i + 1) = k by omega]; exact hR), (by first | omega | (simp <;> omega))⟩
    · exact ⟨fun b => bif b == 900 then 902 else (fun b => b) b, WeakerR.ofL (Ks := [2, 4, 900]) hI ⟨⟨rfl, rfl⟩, ⟨rfl, rfl⟩, ⟨rfl, rfl⟩, ⟨lit_cast (wrap_i64 (by omega) (by omega)), rfl⟩, trivial⟩ (okH_grow (fun _ => rfl) rfl rfl (okH_cons rfl rfl rfl rfl (okH_cons (cellsTo rfl (by exact ⟨rfl, grow_to rfl rfl hn_vc2 rfl rfl, trivial⟩)) rfl rfl (win_cells (by exact ⟨rfl, grow_within rfl, trivial⟩)) (okH_nil)))) rfl⟩
  ·
   rw [show 3 - i = 0 by have := of_decide_eq_false h18; omega] at hR
   refine Awp.exit ?_
   refine Awp.seq ?_
   refine Awp.freezeW 900 (encL eMember vc) ?_ [(0, sS (some l.nil) eMember l.D), (2, .ptr 2 0), (4, .ptr 4 0)] [(2, .cells [.pv (.lit (.int .i64 0)), sS (some true) eMember []]), (4, .cells [.pv (.lit (.int .i64 1)), sS (some vc.isEmpty) eMember vc])] ?_ ?_ ?_
   · rfl
   · exact ⟨⟨_, rfl, .inl (.inl rfl)⟩, ⟨_, rfl, .inl (.inl rfl)⟩, ⟨_, rfl, .inl (.inl rfl)⟩, trivial⟩
   · exact ⟨⟨(by show (2 : Nat) ≠ 900; decide), .inl rfl⟩, ⟨(by show (4 : Nat) ≠ 900; decide), .inr ⟨_, _, rfl, rfl, ⟨.inl rfl, .inr ⟨_, _, _, rfl, by rw [ne_isEmpty h2]; rfl⟩, trivial⟩⟩⟩, trivial⟩
   refine Awp.consP C ?_
   refine rvP C (.ptr 4 1) ?_
   refine rvP C (sS (some vc.isEmpty) eMember vc) ?_
   refine rvP C (.pv (.lit (.int .i64 (vc.length : Int)))) ?_
   refine rvP C (sS (some l.nil) eMember l.D) ?_
   refine rvP C (.pv (.lit (.int .i64 (l.D.length : Int)))) ?_
   refine rvP C (.pv (.lit (.bool ((vc.length : Int) != (l.D.length : Int))))) ?_
   refine rvP C (.pv (.lit (.bool ((vc.length : Int) != (l.D.length : Int))))) ?_
   refine rvc_case 37 ((vc.length : Int) != (l.D.length : Int)) rfl (fun h26 => ?_) (fun h26 => ?_)
   ·
    replace hR := of_true h26 hR
    refine rvS ?_
    refine rvS ?_
    refine rvS ?_
    refine rvP C (.pv (.lit (.bool true))) ?_
    refine rvc_nil ?_
    refine Awp.condT (b := true) rfl rfl ?_
    refine Awp.consP C ?_
    refine rvP C (.agg [.pv (.lit (.int .i64 0)), sS (some true) eMember []]) ?_
    refine rvc_un (rexec_prim C (δ := { v := .undef, wr := [(2, some (.cells [.pv (.lit (.int .i64 0)), sS (some true) eMember []]))] }) rfl rfl rfl rfl trivial rfl ?_)
    refine rvP C (.pv (.lit (.int .i64 80))) ?_
    refine rvc_nil ?_
    refine Awp.ret ?_
    subst hR
    exact ⟨.inl rfl, rfl⟩
   ·
    replace hR := of_false h26 hR
    refine rvO C (.agg [.pv (.lit (.int .i64 1)), sS (some vc.isEmpty) eMember vc]) ?_
    refine rvc_open rfl rfl rfl (rexec_call hP C rfl rfl rfl (check_calls (Chain.mk 1 (Sl.mk vc.isEmpty vc)) (by show vc.length ≤ 9223372036854775807; have := of_decide_eq_false h18; have := eq_of_bne_false h26; omega)) ?_)
    refine rvO C (.pv (.lit (.bool ((check (Chain.mk 1 (Sl.mk vc.isEmpty vc))) != 0)))) ?_
    refine rvP C (.pv (.lit (.bool ((check (Chain.mk 1 (Sl.mk vc.isEmpty vc))) != 0)))) ?_
    refine rvc_nil ?_
    refine Awp.cond (b := ((check (Chain.mk 1 (Sl.mk vc.isEmpty vc))) != 0)) rfl (fun h27 => ?_) (fun h27 => ?_)
    ·
     replace hR := of_true h27 hR
     refine Awp.consP C ?_
     refine rvP C (.agg [.pv (.lit (.int .i64 0)), sS (some true) eMember []]) ?_
     refine rvc_un (rexec_prim C (δ := { v := .undef, wr := [(2, some (.cells [.pv (.lit (.int .i64 0)), sS (some true) eMember []]))] }) rfl rfl rfl rfl trivial rfl ?_)
     refine rvP C (.pv (.lit (.int .i64 80))) ?_
     refine rvc_nil ?_
     refine Awp.ret ?_
     subst hR
     exact ⟨.inl rfl, rfl⟩
    ·
     replace hR := of_false h27 hR
     refine Awp.skip ?_
     refine Awp.consP C ?_
     refine rvP C (.agg [.pv (.lit (.int .i64 1)), sS (some vc.isEmpty) eMember vc]) ?_
     refine rvc_un (rexec_prim C (δ := { v := .undef, wr := [(2, some (.cells [.pv (.lit (.int .i64 1)), sS (some vc.isEmpty) eMember vc]))] }) rfl rfl rfl rfl trivial rfl ?_)
     refine rvP C (.pv (.lit (.int .i64 0))) ?_
     refine rvc_nil ?_
     refine Awp.ret ?_
     subst hR
     exact ⟨.inl rfl, rfl⟩
 -- !! two models: ('(bif ((vc.length : Int) != (l.D.length : Int)) then ((Chain.mk 0 (Sl.mk true [])), 80) else (bif ((check (Chain.mk 1 (Sl.mk vc.isEmpty vc))) != 0) then ((Chain.mk 0 (Sl.mk true [])), 80) else ((Chain.mk 1 (Sl.mk vc.isEmpty vc)), 0)))', 'firstC_l1 i (fun vc1 => firstC_l0 l k (i + 1) vc1) l.D 0 vc') ||| ('(bif ((vc.length : Int) != (l.D.length : Int)) then ((Chain.mk 0 (Sl.mk true [])), 80) else (bif ((check (Chain.mk 1 (Sl.mk vc.isEmpty vc))) != 0) then ((Chain.mk 0 (Sl.mk true [])), 80) else ((Chain.mk 1 (Sl.mk vc.isEmpty vc)), 0)))', 'firstC_l1 i (fun vc2 => firstC_l0 l k (i + 1) vc2) l.D 0 vc')
def indexFunc_l0 (f : Member → Bool) : List Member → Nat → Int
  | [], _ => (-1)
  | x :: xs, i => (bif (f x) then (i : Int) else indexFunc_l0 f xs (i + 1) )
def indexFunc (s : (Sl Member)) (f : Member → Bool) : Int :=
  indexFunc_l0 f s.D 0
theorem indexFunc_calls (s : (Sl Member)) (f : Member → Bool) (g1 : Nat) (caps1 : List AV) (hp1 : ∀ (x0 : Member), PCalls Try.prog g1 ([.agg [.pv (.lit (.int .i64 x0.node)), .pv (.lit (.int .i64 x0.site)), .pv (.lit (.bool x0.fresh))]] ++ caps1) (.pv (.lit (.bool (f x0))))) (hw1 : AV.withinL (fun _ => false) caps1 = true) (hl1 : s.D.length ≤ 9223372036854775807) : PCalls Try.prog 78 [sS (some s.nil) eMember s.D, .fn g1 [] caps1] (.pv (.lit (.int .i64 (indexFunc s f)))) := by
 generalize hR : indexFunc s f = R
 refine PCalls.of_body tabOk Try.func78 rfl rfl rfl (by simp [AV.withinL, AV.within, sS, hw1]) rfl mixed fun E hP C hI => ?_
 refine Awp.consP C ?_
 refine rvP C (.pv (.lit (.int .i64 0))) ?_
 refine rvc_nil ?_
 refine Awp.seq ?_
 refine Awp.consP C ?_
 refine rvP C (sS (some s.nil) eMember s.D) ?_
 refine rvP C (.pv (.lit (.int .i64 (s.D.length : Int)))) ?_
 refine rvP C (.pv (.lit (.int .i64 0))) ?_
 refine rvc_nil ?_
 refine Awp.block ?_
 refine Awp.forR (σ := Unit) (s.D.length) (fun i _v => [(0, sS (some s.nil) eMember s.D), (1, .fn g1 [] caps1), (7, .pv (.lit (.int .i64 (s.D.length : Int)))), (8, .pv (.lit (.int .i64 (i : Int))))]) (fun i _v => []) [] (fun i _v => indexFunc_l0 f (s.D.drop i) i  = R) () ?_ ?_ (fun i _v h1 hR => ?_)
 · exact hR
 · exact ⟨fun b => b, WeakerR.ofL (Ks := []) hI ⟨⟨rfl, rfl⟩, ⟨fn_to rfl hw1, fn_win hw1⟩, ⟨rfl, rfl⟩, ⟨rfl, rfl⟩, trivial⟩ (okH_nil) rfl⟩
 refine Awp.consP C ?_
 refine rvP C (.pv (.lit (.bool (decide ((i : Int) < (s.D.length : Int)))))) ?_
 refine rvc_nil ?_
 refine Awp.seq ?_
 refine Awp.cond (b := (decide ((i : Int) < (s.D.length : Int)))) rfl (fun h2 => ?_) (fun h2 => ?_)
 ·
  have h3 : i < s.D.length := by have := of_decide_eq_true h2; omega
  obtain ⟨x, h4⟩ := getX h3
  rw [drop_at h4] at hR
  refine Awp.skip ?_
  refine Awp.seq ?_
  refine Awp.block ?_
  refine Awp.consP C ?_
  refine rvP C (.pv (.lit (.int .i64 (i : Int)))) ?_
  refine rvP C (.pv (.lit (.int .i64 (i : Int)))) ?_
  refine rvc_nil ?_
  refine Awp.consP C ?_
  refine rvP C (.fn g1 [] caps1) ?_
  refine rvP C (sS (some s.nil) eMember s.D) ?_
  refine rvP C (.pv (.lit (.int .i64 (i : Int)))) ?_
  refine rvc_un (rexec_idxS C rfl rfl rfl rfl rfl rfl x (Int.natCast_nonneg _) h4 ?_)
  refine rvP C (.agg [.pv (.lit (.int .i64 x.node)), .pv (.lit (.int .i64 x.site)), .pv (.lit (.bool x.fresh))]) ?_
  refine rvc_un (rexec_callV hP C rfl rfl rfl rfl (hp1 x) rfl ?_)
  refine rvc_nil ?_
  refine Awp.cond (b := (f x)) rfl (fun h5 => ?_) (fun h5 => ?_)
  ·
   replace hR := of_true h5 hR
   refine Awp.consP C ?_
   refine rvP C (.pv (.lit (.int .i64 (i : Int)))) ?_
   refine rvP C (.pv (.lit (.int .i64 (i : Int)))) ?_
   refine rvc_nil ?_
   refine Awp.ret ?_
   subst hR
   exact ⟨.inl rfl, rfl⟩
  ·
   replace hR := of_false h5 hR
   refine Awp.skip ?_
   refine Awp.regionP C ?_
   refine rvP C (.pv (.lit (.int .i64 (IntKind.i64.wrap ((i : Int) + 1))))) ?_
   refine rvP C (.pv (.lit (.int .i64 (IntKind.i64.wrap ((i : Int) + 1))))) ?_
   refine rvc_nil ?_
   refine ⟨h3, (), ?_, ?_⟩
   · exact hR
   · exact ⟨fun b => b, WeakerR.ofL (Ks := []) hI ⟨⟨rfl, rfl⟩, ⟨fn_to rfl hw1, fn_win hw1⟩, ⟨rfl, rfl⟩, ⟨lit_cast (wrap_i64 (by omega) (by omega)), rfl⟩, trivial⟩ (okH_nil) rfl⟩
 ·
  have h3 : ¬ i < s.D.length := by have := of_decide_eq_false h2; omega
  rw [drop_end h3] at hR
  refine Awp.exit ?_
  refine Awp.consP C ?_
  refine rvP C (.pv (.lit (.int .i64 (-1)))) ?_
  refine rvc_nil ?_
  refine Awp.ret ?_
  subst hR
  exact ⟨.inl rfl, rfl⟩
def placeF (m : Member) (c0 : Int) : Bool :=
  (m.node == c0)
theorem placeF_calls (m : Member) (c0 : Int)  : PCalls Try.prog 79 [.agg [.pv (.lit (.int .i64 m.node)), .pv (.lit (.int .i64 m.site)), .pv (.lit (.bool m.fresh))], .rp [.lit (.int .i64 c0)]] (.pv (.lit (.bool (placeF m c0)))) := by
 generalize hR : placeF m c0 = R
 refine PCalls.of_body tabOk Try.func79 rfl rfl rfl rfl rfl mixed fun E hP C hI => ?_
 refine Awp.consP C ?_
 refine rvc_un (rexec_prim C (δ := { v := .ptr 2 0, new := [(2, .cells [.pv (.lit (.int .i64 m.node)), .pv (.lit (.int .i64 m.site)), .pv (.lit (.bool m.fresh))])] }) rfl rfl rfl rfl trivial rfl ?_)
 refine rvP C (.pv (.lit (.bool false))) ?_
 refine rvc_nil ?_
 refine Awp.consP C ?_
 refine rvP C (.ptr 2 0) ?_
 refine rvP C (.pv (.lit (.int .i64 m.node))) ?_
 refine rvP C (.pv (.lit (.int .i64 c0))) ?_
 refine rvP C (.pv (.lit (.bool (m.node == c0)))) ?_
 refine rvP C (.pv (.lit (.bool (m.node == c0)))) ?_
 refine rvc_nil ?_
 refine Awp.ret ?_
 subst hR
 exact ⟨.inl rfl, rfl⟩
def placeIn (c : Chain) (node : Int) : Int :=
  (indexFunc c.members (fun x0 => placeF x0 node))
theorem placeIn_calls (c : Chain) (node : Int) (hl1 : c.members.D.length ≤ 9223372036854775807) : PCalls Try.prog 58 [.agg [.pv (.lit (.int .i64 c.epoch)), sS (some c.members.nil) eMember c.members.D], .pv (.lit (.int .i64 node))] (.pv (.lit (.int .i64 (placeIn c node)))) := by
 generalize hR : placeIn c node = R
 refine PCalls.of_body tabOk Try.func58 rfl rfl rfl rfl rfl mixed fun E hP C hI => ?_
 refine Awp.consP C ?_
 refine rvc_un (rexec_prim C (δ := { v := .ptr 2 0, new := [(2, .cells [.pv (.lit (.int .i64 c.epoch)), sS (some c.members.nil) eMember c.members.D])] }) rfl rfl rfl rfl trivial rfl ?_)
 refine rvc_un (rexec_boxF C [.lit (.int .i64 node)] rfl rfl rfl rfl ?_)
 refine rvP C (.pv (.lit (.int .i64 0))) ?_
 refine rvc_nil ?_
 refine Awp.consP C ?_
 refine rvP C (.ptr 2 1) ?_
 refine rvP C (sS (some c.members.nil) eMember c.members.D) ?_
 refine rvP C (.fn 79 [] [.rp [.lit (.int .i64 node)]]) ?_
 refine rvc_un (rexec_call hP C rfl rfl rfl (indexFunc_calls c.members (fun x0 => placeF x0 node) 79 [.rp [.lit (.int .i64 node)]] (fun x0 => placeF_calls x0 node) rfl hl1) ?_)
 refine rvP C (.pv (.lit (.int .i64 (indexFunc c.members (fun x0 => placeF x0 node))))) ?_
 refine rvc_nil ?_
 refine Awp.ret ?_
 subst hR
 exact ⟨.inl rfl, rfl⟩
def place0 (c : Chain) (node : Int) : Int :=
  (bif ((check c) != 0) then (-1) else (placeIn c node))
theorem place0_calls (c : Chain) (node : Int) (hl1 : c.members.D.length ≤ 9223372036854775807) : PCalls Try.prog 36 [.agg [.pv (.lit (.int .i64 c.epoch)), sS (some c.members.nil) eMember c.members.D], .pv (.lit (.int .i64 node))] (.pv (.lit (.int .i64 (place0 c node)))) := by
 generalize hR : place0 c node = R
 refine PCalls.of_body tabOk Try.func36 rfl rfl rfl rfl rfl mixed fun E hP C hI => ?_
 refine Awp.consP C ?_
 refine rvc_un (rexec_prim C (δ := { v := .ptr 2 0, new := [(2, .cells [.pv (.lit (.int .i64 c.epoch)), sS (some c.members.nil) eMember c.members.D])] }) rfl rfl rfl rfl trivial rfl ?_)
 refine rvP C (.pv (.lit (.int .i64 0))) ?_
 refine rvc_nil ?_
 refine Awp.seq ?_
 refine Awp.consP C ?_
 refine rvP C (.agg [.pv (.lit (.int .i64 c.epoch)), sS (some c.members.nil) eMember c.members.D]) ?_
 refine rvc_un (rexec_call hP C rfl rfl rfl (check_calls c hl1) ?_)
 refine rvP C (.pv (.lit (.bool ((check c) != 0)))) ?_
 refine rvc_nil ?_
 refine Awp.cond (b := ((check c) != 0)) rfl (fun h1 => ?_) (fun h1 => ?_)
 ·
  replace hR := of_true h1 hR
  refine Awp.consP C ?_
  refine rvP C (.pv (.lit (.int .i64 (-1)))) ?_
  refine rvc_nil ?_
  refine Awp.ret ?_
  subst hR
  exact ⟨.inl rfl, rfl⟩
 ·
  replace hR := of_false h1 hR
  refine Awp.skip ?_
  refine Awp.consP C ?_
  refine rvP C (.agg [.pv (.lit (.int .i64 c.epoch)), sS (some c.members.nil) eMember c.members.D]) ?_
  refine rvP C (.pv (.lit (.int .i64 node))) ?_
  refine rvc_un (rexec_call hP C rfl rfl rfl (placeIn_calls c node hl1) ?_)
  refine rvP C (.pv (.lit (.int .i64 (placeIn c node)))) ?_
  refine rvc_nil ?_
  refine Awp.ret ?_
  subst hR
  exact ⟨.inl rfl, rfl⟩
def rPlace_l0 (node : Int) : List Member → Nat → Int
  | [], _ => (-1)
  | x :: xs, i => (bif (x.node == node) then (i : Int) else rPlace_l0 node xs (i + 1) )
def rPlace (c : Chain) (node : Int) : Int :=
  (bif ((rCheck c) != 0) then (-1) else rPlace_l0 node c.members.D 0 )
def mAnd (s : Int) (t : Int) : Int :=
  (bitI .and .u64 s t)
theorem mAnd_calls (s : Int) (t : Int)  : PCalls Try.prog 38 [.pv (.lit (.int .u64 s)), .pv (.lit (.int .u64 t))] (.pv (.lit (.int .u64 (mAnd s t)))) := by
 generalize hR : mAnd s t = R
 refine PCalls.of_body tabOk Try.func38 rfl rfl rfl rfl rfl mixed fun E hP C hI => ?_
 refine Awp.consP C ?_
 refine rvP C (.pv (.lit (.int .u64 0))) ?_
 refine rvc_nil ?_
 refine Awp.consP C ?_
 refine rvP C (.pv (.lit (.int .u64 s))) ?_
 refine rvP C (.pv (.lit (.int .u64 t))) ?_
 refine rvP C (.pv (.lit (.int .u64 (bitI .and .u64 s t)))) ?_
 refine rvP C (.pv (.lit (.int .u64 (bitI .and .u64 s t)))) ?_
 refine rvc_nil ?_
 refine Awp.ret ?_
 subst hR
 exact ⟨.inl rfl, rfl⟩
end Go.Proofs.Ytpgenmflgdkfiaa
/- Sets of small numbers as bits, in plain words. No conditions. -/
namespace Go.Proofs.Ytpgenmflgdkfiaa
open Go.Am
theorem wrap64 (n : Int) : IntKind.u64.wrap n = n % 18446744073709551616 := by
  simp [IntKind.wrap, IntKind.bits, IntKind.signed]
theorem bv64 (a : Nat) (h : a < 18446744073709551616) : (BitVec.ofInt 64 (a : Int)).toNat = a := by
  rw [BitVec.toNat_ofInt]
  have : ((2 ^ 64 : Nat) : Int) = 18446744073709551616 := by decide
  rw [this]; omega
theorem or64 {a b : Nat} (ha : a < 18446744073709551616) (hb : b < 18446744073709551616) : bitI .or .u64 a b = ((a ||| b : Nat) : Int) := by
  have : a ||| b < 18446744073709551616 := Nat.or_lt_two_pow (n := 64) ha hb
  show IntKind.u64.wrap (((BitVec.ofInt 64 (a : Int) ||| BitVec.ofInt 64 (b : Int) : BitVec 64).toNat : Nat) : Int) = _
  rw [BitVec.toNat_or, bv64 a ha, bv64 b hb, wrap64]; omega
theorem and64 {a b : Nat} (ha : a < 18446744073709551616) (hb : b < 18446744073709551616) : bitI .and .u64 a b = ((a &&& b : Nat) : Int) := by
  have : a &&& b < 18446744073709551616 := Nat.lt_of_le_of_lt Nat.and_le_left ha
  show IntKind.u64.wrap (((BitVec.ofInt 64 (a : Int) &&& BitVec.ofInt 64 (b : Int) : BitVec 64).toNat : Nat) : Int) = _
  rw [BitVec.toNat_and, bv64 a ha, bv64 b hb, wrap64]; omega
theorem shr64 {a n : Nat} (hn : n < 64) : shrI .u64 (a : Int) (n : Int) = ((a >>> n : Nat) : Int) := by
  show (a : Int) / 2 ^ (min ((n : Int).toNat) 64) = _
  rw [Int.toNat_natCast, Nat.min_eq_left (by omega), Nat.shiftRight_eq_div_pow]
  simp
theorem shl64 {n : Nat} (hn : n < 64) : shlI .u64 1 (n : Int) = ((2 ^ n : Nat) : Int) := by
  show IntKind.u64.wrap (1 * 2 ^ (min ((n : Int).toNat) 64)) = _
  have h : 2 ^ n < 2 ^ 64 := Nat.pow_lt_pow_right (by decide) hn
  have h' : (2 : Nat) ^ 64 = 18446744073709551616 := by decide
  rw [Int.toNat_natCast, Nat.min_eq_left (by omega), wrap64, Int.one_mul]
  have e : (2 : Int) ^ n = ((2 ^ n : Nat) : Int) := by simp
  rw [e]
  rw [h'] at h
  clear e h'
  generalize (2 : Nat) ^ n = p at h ⊢
  omega
theorem in_nat {n : Nat} : mIn (n : Int) = decide (n < 64) := by
  unfold mIn
  have h0 : decide ((n : Int) ≥ 0) = true := by simp
  rw [h0]
  simp only [cond_true]
  congr 1
  exact propext ⟨fun h => by omega, fun h => by omega⟩
theorem has_nat {S n : Nat} (hS : S < 18446744073709551616) (hn : n < 64) : mHas (S : Int) (n : Int) = S.testBit n := by
  unfold mHas
  have hlt : S >>> n < 18446744073709551616 := Nat.lt_of_le_of_lt (Nat.shiftRight_le _ _) hS
  have h1 : (1 : Int) = ((1 : Nat) : Int) := rfl
  rw [in_nat, decide_eq_true hn, cond_true, shr64 hn, h1, and64 hlt (by decide)]
  rw [Nat.testBit_eq_decide_div_mod_eq, Nat.and_one_is_mod, Nat.shiftRight_eq_div_pow]
  by_cases h : S / 2 ^ n % 2 = 1
  · simp [h]
  · have : S / 2 ^ n % 2 = 0 := by omega
    simp [this]
theorem with_nat {S n : Nat} (hS : S < 18446744073709551616) (hn : n < 64) : mWith (S : Int) (n : Int) = ((S ||| 2 ^ n : Nat) : Int) := by
  unfold mWith
  have h : 2 ^ n < 2 ^ 64 := Nat.pow_lt_pow_right (by decide) hn
  have h' : (2 : Nat) ^ 64 = 18446744073709551616 := by decide
  rw [in_nat, decide_eq_true hn, Bool.not_true, cond_false, shl64 hn, or64 hS (by omega)]
theorem with_lt {S n : Nat} (hS : S < 18446744073709551616) (hn : n < 64) : S ||| 2 ^ n < 18446744073709551616 :=
  Nat.or_lt_two_pow (n := 64) hS (Nat.pow_lt_pow_right (by decide) hn)
theorem with_out {s n : Int} (h : mIn n = false) : mWith s n = s := by unfold mWith; rw [h]; rfl
theorem has_with {S n m : Nat} (hS : S < 18446744073709551616) (hn : n < 64) (hm : m < 64) : mHas (mWith (S : Int) (n : Int)) (m : Int) = (mHas (S : Int) (m : Int) || decide (n = m)) := by
  rw [with_nat hS hn, has_nat (with_lt hS hn) hm, has_nat hS hm, Nat.testBit_or, Nat.testBit_two_pow]
end Go.Proofs.Ytpgenmflgdkfiaa
/- What the checks of chains, and places in them, say, in plain words. No conditions. -/
namespace Go.Proofs.Ytpgenmflgdkfiaa
open Go.Am
theorem bif_const {a : Bool} {x y z : Int} (hx : x ≠ z) (h : (bif a then x else y) = z) : a = false ∧ y = z := by
  cases a
  · exact ⟨rfl, h⟩
  · exact absurd h hx
theorem check_len {c : Chain} (h : check c = 0) : 0 < c.members.D.length := by
  unfold check at h
  obtain ⟨_, h⟩ := bif_const (by decide) h
  obtain ⟨_, h⟩ := bif_const (by decide) h
  obtain ⟨h3, h⟩ := bif_const (by decide) h
  have := ne_of_beq_false h3
  omega
theorem indexFunc_l0_lt (f : Member → Bool) : ∀ (l : List Member) (i : Nat), indexFunc_l0 f l i < ((i + l.length : Nat) : Int) ∧ -1 ≤ indexFunc_l0 f l i
  | [], i => by simp only [indexFunc_l0, List.length_nil]; omega
  | x :: l, i => by
    have := indexFunc_l0_lt f l (i + 1)
    simp only [indexFunc_l0, List.length_cons]
    cases f x <;> simp only [cond_true, cond_false] <;> omega
theorem placeIn_lt (c : Chain) (n : Int) : placeIn c n < (c.members.D.length : Int) ∧ -1 ≤ placeIn c n := by
  have := indexFunc_l0_lt (fun x0 => placeF x0 n) c.members.D 0
  simp only [placeIn, indexFunc]; omega
theorem place0_lt (c : Chain) (n : Int) : place0 c n < (c.members.D.length : Int) ∧ -1 ≤ place0 c n ∧ (0 ≤ place0 c n → 0 < c.members.D.length) := by
  have := placeIn_lt c n
  unfold place0
  cases check c != 0 <;> simp only [cond_true, cond_false] <;> omega
theorem rPlace_l0_lt (n : Int) : ∀ (l : List Member) (i : Nat), rPlace_l0 n l i < ((i + l.length : Nat) : Int) ∧ -1 ≤ rPlace_l0 n l i
  | [], i => by simp only [rPlace_l0, List.length_nil]; omega
  | x :: l, i => by
    have := rPlace_l0_lt n l (i + 1)
    simp only [rPlace_l0, List.length_cons]
    cases x.node == n <;> simp only [cond_true, cond_false] <;> omega
theorem rPlace_lt (c : Chain) (n : Int) : rPlace c n < (c.members.D.length : Int) ∧ -1 ≤ rPlace c n := by
  have := rPlace_l0_lt n c.members.D 0
  unfold rPlace
  cases rCheck c != 0 <;> simp only [cond_true, cond_false] <;> omega
theorem nil_false {α : Type} {b : Bool} {D : List α} (h : b = true → D = []) (hl : 0 < D.length) : b = false := by
  cases b
  · rfl
  · rw [h rfl] at hl; simp at hl
theorem clone_hn (s : Sl Member) (h : (cloneMembers s).nil = true) : (cloneMembers s).D = [] := by
  unfold cloneMembers at h ⊢
  cases hs : s.nil
  · rw [hs] at h; cases h
  · rfl
theorem clone_len (s : Sl Member) : (cloneMembers s).D.length ≤ s.D.length := by
  unfold cloneMembers
  cases hs : s.nil
  · exact Nat.le_refl _
  · exact Nat.zero_le _
end Go.Proofs.Ytpgenmflgdkfiaa
/- The program's check of chains is the document's; so is whether two are the same. No conditions. -/
namespace Go.Proofs.Ytpgenmflgdkfiaa
open Go.Am
/-- May members stand behind others? -/
def okFrom (pre : List Member) : List Member → Bool
  | [] => true
  | x :: xs => member x && pre.all (fun y => !(y.node == x.node) && !(decide (y.site > x.site))) && okFrom (pre ++ [x]) xs
theorem member_iff (m : Member) : member m = true ↔ 0 ≤ m.node ∧ m.node ≤ 5 ∧ 0 ≤ m.site ∧ m.site ≤ 2 := by
  unfold member
  by_cases h1 : m.node ≥ 0 <;> by_cases h2 : m.node < 6 <;> by_cases h3 : m.site ≥ 0 <;> by_cases h4 : m.site < 3 <;> simp [h1, h2, h3, h4] <;> omega
theorem rCheck_l1_eq (x : Member) (kk : Int) : ∀ (l : List Member) (i : Nat), rCheck_l1 x kk l i = bif l.all (fun y => !(y.node == x.node) && !(decide (y.site > x.site))) then kk else 80
  | [], _ => rfl
  | y :: l, i => by
    simp only [rCheck_l1, List.all_cons]
    cases h1 : y.node == x.node
    · cases h2 : decide (y.site > x.site)
      · simp [rCheck_l1_eq x kk l (i + 1)]
      · simp
    · simp
theorem rCheck_l0_eq (c : Chain) : ∀ (xs : List Member) (i : Nat), xs = c.members.D.drop i → rCheck_l0 c xs i = bif okFrom (c.members.D.take i) xs then 0 else 80
  | [], i, _ => rfl
  | x :: xs, i, h => by
    have hi : c.members.D[i]? = some x := by
      have := congrArg (fun l => l[0]?) h
      simpa using this.symm
    have hx : xs = c.members.D.drop (i + 1) := by
      have := drop_at hi
      rw [← h] at this
      simpa using this
    have ht : c.members.D.take i ++ [x] = c.members.D.take (i + 1) := by
      rw [List.take_add_one, hi]; rfl
    have ih := rCheck_l0_eq c xs (i + 1) hx
    simp only [rCheck_l0, okFrom, ht, rCheck_l1_eq, ih]
    by_cases hm : member x = true
    · have := (member_iff x).1 hm
      rw [hm]
      have e1 : decide (x.node < 0) = false := by simp; omega
      have e2 : decide (x.node > 5) = false := by simp; omega
      have e3 : decide (x.site < 0) = false := by simp; omega
      have e4 : decide (x.site > 2) = false := by simp; omega
      rw [e1, e2, e3, e4]
      simp only [cond_false, Bool.true_and]
      cases (c.members.D.take i).all (fun y => !(y.node == x.node) && !(decide (y.site > x.site))) <;> simp
    · have hm' : member x = false := by simpa using hm
      rw [hm']
      have : x.node < 0 ∨ x.node > 5 ∨ x.site < 0 ∨ x.site > 2 := by
        have := mt (member_iff x).2 hm
        omega
      simp only [Bool.false_and, cond_false]
      by_cases e1 : x.node < 0
      · simp [e1]
      · by_cases e2 : x.node > 5
        · simp [e1, e2]
        · by_cases e3 : x.site < 0
          · simp [e1, e2, e3]
          · have e4 : x.site > 2 := by omega
            simp [e1, e2, e3, e4]
/-- What the program's loop knows of those ahead. -/
structure Inv (pre : List Member) (S : Nat) (site : Int) : Prop where
  lt : S < 18446744073709551616
  has : ∀ n : Nat, n < 6 → mHas (S : Int) (n : Int) = pre.any (fun y => y.node == (n : Int))
  le : ∀ y ∈ pre, y.site ≤ site
  at_ : site = 0 ∨ ∃ y ∈ pre, y.site = site
theorem check_l0_eq : ∀ (xs pre : List Member) (i S : Nat) (site : Int), Inv pre S site → check_l0 xs i (S : Int) site = bif okFrom pre xs then 0 else 80
  | [], _, _, _, _, _ => rfl
  | x :: xs, pre, i, S, site, inv => by
    simp only [check_l0, okFrom]
    by_cases hm : member x = true
    · obtain ⟨m1, m2, m3, m4⟩ := (member_iff x).1 hm
      rw [hm]
      simp only [Bool.not_true, cond_false, Bool.true_and]
      obtain ⟨k, hk⟩ : ∃ k : Nat, x.node = (k : Int) := ⟨x.node.toNat, by omega⟩
      have hk6 : k < 6 := by omega
      have hh := inv.has k hk6
      rw [hk, hh]
      cases ha : pre.any (fun y => y.node == (k : Int))
      · simp only [cond_false]
        by_cases hs : x.site < site
        · have : pre.all (fun y => !(y.node == (k : Int)) && !(decide (y.site > x.site))) = false := by
            rcases inv.at_ with h0 | ⟨y, hy, he⟩
            · omega
            · rw [Bool.eq_false_iff]
              intro hall
              have := List.all_eq_true.1 hall y hy
              simp at this
              omega
          simp [hs, this]
        · have hall : pre.all (fun y => !(y.node == (k : Int)) && !(decide (y.site > x.site))) = true := by
            rw [List.all_eq_true]
            intro y hy
            have h1 : (y.node == (k : Int)) = false := by
              rw [Bool.eq_false_iff]
              intro he
              rw [Bool.eq_false_iff] at ha
              exact ha (List.any_eq_true.2 ⟨y, hy, he⟩)
            have := inv.le y hy
            simp [h1]; omega
          have hs' : decide (x.site < site) = false := by simp; omega
          rw [hall, hs', with_nat inv.lt (by omega)]
          simp only [cond_false, Bool.true_and]
          refine check_l0_eq xs (pre ++ [x]) (i + 1) _ _ ⟨with_lt inv.lt (by omega), fun n hn => ?_, fun y hy => ?_, .inr ⟨x, by simp, rfl⟩⟩
          · rw [← with_nat inv.lt (by omega), has_with inv.lt (by omega) (by omega), inv.has n hn, List.any_append]
            congr 1
            simp only [List.any_cons, List.any_nil, Bool.or_false, hk]
            by_cases h : k = n
            · subst h; simp
            · have : ¬ ((k : Int) = (n : Int)) := by omega
              simp [h, this]
          · rcases List.mem_append.1 hy with hy | hy
            · have := inv.le y hy; omega
            · simp only [List.mem_singleton] at hy; subst hy; exact Int.le_refl _
      · simp only [cond_true]
        have : pre.all (fun y => !(y.node == (k : Int)) && !(decide (y.site > x.site))) = false := by
          obtain ⟨y, hy, he⟩ := List.any_eq_true.1 ha
          rw [Bool.eq_false_iff]
          intro hall
          have := List.all_eq_true.1 hall y hy
          simp at this he
          exact this.1 he
        simp [this]
    · have hm' : member x = false := by simpa using hm
      rw [hm']; rfl
def hasN (pre : List Member) (n : Int) : Nat := (pre.any fun y => y.node == n).toNat
def cnt (pre : List Member) : Nat := hasN pre 0 + hasN pre 1 + hasN pre 2 + hasN pre 3 + hasN pre 4 + hasN pre 5
theorem hasN_le (pre : List Member) (n : Int) : hasN pre n ≤ 1 := by unfold hasN; cases pre.any fun y => y.node == n <;> simp
theorem cnt_step {pre : List Member} {x : Member} (h0 : 0 ≤ x.node) (h5 : x.node ≤ 5) (ha : pre.any (fun y => y.node == x.node) = false) : cnt (pre ++ [x]) = cnt pre + 1 := by
  have key : ∀ n : Int, hasN (pre ++ [x]) n = if x.node = n then 1 else hasN pre n := fun n => by
    unfold hasN
    rw [List.any_append]
    simp only [List.any_cons, List.any_nil, Bool.or_false]
    by_cases h : x.node = n
    · subst h; simp
    · have : (x.node == n) = false := by simpa using h
      rw [this]; simp [h]
  have hz : hasN pre x.node = 0 := by unfold hasN; rw [ha]; rfl
  simp only [cnt, key]
  rcases (by omega : x.node = 0 ∨ x.node = 1 ∨ x.node = 2 ∨ x.node = 3 ∨ x.node = 4 ∨ x.node = 5) with h | h | h | h | h | h <;> rw [h] at hz ⊢ <;> simp [hz] <;> omega
theorem ok_len : ∀ (xs pre : List Member), okFrom pre xs = true → pre.length = cnt pre → pre.length + xs.length ≤ 6
  | [], pre, _, hc => by
    have := hasN_le pre 0; have := hasN_le pre 1; have := hasN_le pre 2; have := hasN_le pre 3; have := hasN_le pre 4; have := hasN_le pre 5
    simp only [List.length_nil, hc, cnt]; omega
  | x :: xs, pre, h, hc => by
    simp only [okFrom, Bool.and_eq_true] at h
    obtain ⟨⟨h1, h2⟩, h3⟩ := h
    obtain ⟨m1, m2, _, _⟩ := (member_iff x).1 h1
    have ha : pre.any (fun y => y.node == x.node) = false := by
      rw [Bool.eq_false_iff]
      intro he
      obtain ⟨y, hy, he⟩ := List.any_eq_true.1 he
      have := List.all_eq_true.1 h2 y hy
      rw [he] at this
      simp at this
    have := ok_len xs (pre ++ [x]) h3 (by rw [cnt_step m1 m2 ha, List.length_append, hc]; rfl)
    simp only [List.length_append, List.length_cons, List.length_nil] at this ⊢
    omega
theorem check_eq (c : Chain) : check c = rCheck c := by
  unfold check rCheck
  have h1 : check_l0 c.members.D 0 0 0 = bif okFrom [] c.members.D then 0 else 80 := check_l0_eq c.members.D [] 0 0 0 ⟨by decide, fun n hn => by
    have := has_nat (S := 0) (n := n) (by decide) (by omega)
    rw [this]; simp, fun y hy => (by cases hy), .inl rfl⟩
  have h2 : rCheck_l0 c c.members.D 0 = bif okFrom [] c.members.D then 0 else 80 := rCheck_l0_eq c c.members.D 0 rfl
  rw [h1, h2]
  cases decide (c.epoch < 1) <;> cases decide (c.epoch > 1099511627776) <;> cases ((c.members.D.length : Int) == 0) <;> simp only [cond_true, cond_false]
  cases hd : decide ((c.members.D.length : Int) > 6)
  · rfl
  · have hl : c.members.D.length > 6 := by have := of_decide_eq_true hd; omega
    cases ho : okFrom [] c.members.D
    · simp
    · have := ok_len c.members.D [] ho rfl
      simp at this; omega
theorem rCheck_le6 {c : Chain} (h : rCheck c = 0) : c.members.D.length ≤ 6 := by
  unfold rCheck at h
  obtain ⟨_, h⟩ := bif_const (by decide) h
  obtain ⟨_, h⟩ := bif_const (by decide) h
  obtain ⟨_, h⟩ := bif_const (by decide) h
  obtain ⟨h4, h⟩ := bif_const (by decide) h
  have := of_decide_eq_false h4
  omega
theorem check_le6 {c : Chain} (h : check c = 0) : c.members.D.length ≤ 6 := rCheck_le6 (by rw [← check_eq]; exact h)
end Go.Proofs.Ytpgenmflgdkfiaa
/- slices.Clone, once more. No conditions. -/
namespace Go.Proofs.Ytpgenmflgdkfiaa
open Go.Am
def cloneO (s : (Sl Member)) : List Member :=
  s.D
theorem cloneO_calls (s : (Sl Member)) (hn : s.nil = false) (hl1 : s.D.length ≤ 1000000) : OCalls Try.prog 59 [sS (some s.nil) eMember s.D] (.sl 0 0 (cloneO s).length 3 false) (.cells (encC eMember (cloneO s))) := by
 generalize hR : cloneO s = R
 refine OCalls.of_body tabOk Try.func59 rfl rfl rfl rfl rfl (encC_within _ _) mixed fun E hP C hI => ?_
 refine Awp.consP C ?_
 refine rvP C (sS (some true) eMember []) ?_
 refine rvc_nil ?_
 refine Awp.seq ?_
 refine Awp.consP C ?_
 refine rvP C (sS (some s.nil) eMember s.D) ?_
 refine rvc_un (rexec_eqNil C (f := s.nil) rfl rfl rfl rfl ?_)
 refine rvc_nil ?_
 refine Awp.condF (b := s.nil) rfl hn ?_
 refine Awp.skip ?_
 refine Awp.consP C ?_
 refine rvc_un (rexec_prim C (δ := { v := .sl 5 0 0 3 true, new := [(5, .cells (encC eMember []))] }) rfl rfl rfl rfl trivial rfl ?_)
 refine rvP C (sS (some s.nil) eMember s.D) ?_
 refine rvc_un (rexec_append C rfl rfl rfl rfl rfl rfl rfl rfl (fun _ h => by cases h) rfl (en := eMember) (D0 := []) (D := s.D) rfl rfl rfl rfl (by first | omega | (simp <;> omega)) (by decide) (nn := s.D.length) (by simp) ?_)
 refine rvP C (.sl 7 0 s.D.length 3 false) ?_
 refine rvc_nil ?_
 refine Awp.weakenR (S := [(2, .sl 0 0 s.D.length 3 false)]) (H := [(0, .cells (encC eMember s.D))]) (U := [0]) (fun x => bif x == 0 then 7 else x) (WeakerR.ofL (Ks := [0]) hI ⟨⟨rfl, rfl⟩, trivial⟩ (okH_list rfl rfl rfl okH_nil) rfl) ?_
 refine Awp.ret ?_
 subst hR
 exact ⟨.inl rfl, rfl, rfl⟩
end Go.Proofs.Ytpgenmflgdkfiaa
/- slices.Insert over a row of one's own: its contract. No conditions. -/
namespace Go.Proofs.Ytpgenmflgdkfiaa
open Go.Am
theorem insertM_calls (D : List Member) (i : Nat) (v : Sl Member) (hi : i ≤ D.length) (hv : 0 < v.D.length) (hl1 : D.length ≤ 1000000) (hl2 : v.D.length ≤ 1000000) : XCalls Try.prog 83 [.sl 0 0 D.length 3 false, .pv (.lit (.int .i64 (i : Int))), sS (some v.nil) eMember v.D] (.cells (encC eMember D)) (sS (some false) eMember (insertL D i v.D)) := by
 have hm0 : ((v.D.length : Int) == 0) = false := by simp; intro h; rw [h] at hv; simp at hv
 have hrep : D.take i ++ List.replicate (D.length + v.D.length - i) (Member.mk 0 0 false) = D.take i ++ List.replicate v.D.length (Member.mk 0 0 false) ++ List.replicate (D.length - i) (Member.mk 0 0 false) := by
  rw [List.append_assoc, List.replicate_append_replicate]; congr 2; omega
 refine XCalls.of_body tabOk Try.func83 rfl rfl rfl rfl rfl (encC_within _ _) mixed fun E hP C hI => ?_
 refine Awp.capOf 0 0 D.length 3 false (encC eMember D) rfl rfl (by rw [encC_len]; rfl) fun c hc0 => ?_
 refine Awp.cons C (fun _ => .pure) (by kernel_rfl) ?_ -- region 0 false
 refine rvc_prim C rfl rfl rfl rfl (trivial) rfl ?_
 refine rvc_nil ?_
 refine Awp.cons C (fun _ => .pure) (by kernel_rfl) ?_ -- region 1 false
 refine rvc_prim C rfl rfl rfl rfl (trivial) rfl ?_
 refine rvc_prim C rfl rfl rfl rfl (trivial) rfl ?_
 refine rvc_un (rexec_sliceLoC C rfl rfl rfl rfl rfl rfl hi ?_)
 refine rvc_nil ?_
 refine Awp.cons C (fun _ => .pure) (by kernel_rfl) ?_ -- region 2 false
 refine rvc_prim C rfl rfl rfl rfl (trivial) rfl ?_
 refine rvc_prim C rfl rfl rfl rfl (trivial) rfl ?_
 refine rvc_prim C rfl rfl rfl rfl (trivial) rfl ?_
 refine rvc_nil ?_
 refine Awp.seq ?_
 refine Awp.cons C (fun _ => .pure) (by kernel_rfl) ?_ -- region 3 false
 refine rvc_prim C rfl rfl rfl rfl (trivial) rfl ?_
 refine rvc_prim C rfl rfl rfl rfl (trivial) rfl ?_
 refine rvc_nil ?_
 refine Awp.condF rfl (hm0) ?_
 refine Awp.skip ?_
 refine Awp.cons C (fun _ => .pure) (by kernel_rfl) ?_ -- region 5 false
 refine rvc_prim C rfl rfl rfl rfl (trivial) rfl ?_
 refine rvc_un (rexec_lenC C rfl rfl rfl rfl rfl rfl ?_)
 refine rvc_prim C rfl rfl rfl rfl (trivial) rfl ?_
 refine rvc_nil ?_
 refine Awp.seq ?_
 refine Awp.cons C (fun _ => .pure) (by kernel_rfl) ?_ -- region 6 false
 refine rvc_prim C rfl rfl rfl rfl (trivial) rfl ?_
 refine rvc_prim C rfl rfl rfl rfl (trivial) rfl ?_
 refine rvc_prim C rfl rfl rfl rfl (trivial) rfl ?_
 refine rvc_nil ?_
 refine Awp.cond rfl (fun hc => ?_) (fun hc => ?_)
 ·
  refine Awp.dropCap 0 0 0 D.length 3 c rfl ?_
  have hin : i = D.length := by have := beq_iff_eq.1 hc; omega
  refine Awp.cons C (fun _ => .pure) (by kernel_rfl) ?_ -- region 7 false
  refine rvc_prim C rfl rfl rfl rfl (trivial) rfl ?_
  refine rvc_prim C rfl rfl rfl rfl (trivial) rfl ?_
  refine rvc_un (rexec_append C rfl rfl rfl rfl rfl rfl rfl rfl (fun _ h => by cases h) rfl (en := eMember) (D0 := D) (D := v.D) rfl rfl rfl rfl (by show (2 * (D.length + v.D.length) + 192) * 24 ≤ _; omega) (by decide) (nn := (D ++ v.D).length) (by simp) ?_)
  refine rvc_prim C rfl rfl rfl rfl (trivial) rfl ?_
  refine rvc_nil ?_
  refine Awp.freezeW 25 (encL eMember (insertL D i v.D)) ?_ [(6, sS (some false) eMember (insertL D i v.D))] [] ?_ ?_ ?_
  · rw [show insertL D i v.D = D ++ v.D by subst hin; simp [insertL]]; rfl
  · exact ⟨⟨_, rfl, .inl (.inr ⟨_, _, _, rfl, by simp only [sS]; congr 2; rw [insertL_len (D := D) (M := v.D) hi]; simp⟩)⟩, trivial⟩
  · exact trivial
  refine Awp.ret ?_
  exact ⟨.inl rfl, rfl⟩
 ·
  have hne : i ≠ D.length := by have := ne_of_beq_false hc; omega
  refine Awp.skip ?_
  refine Awp.seq ?_
  refine Awp.cons C (fun _ => .pure) (by kernel_rfl) ?_ -- region 8 false
  refine rvc_prim C rfl rfl rfl rfl (trivial) rfl ?_
  refine rvc_prim C rfl rfl rfl rfl (trivial) rfl ?_
  refine rvc_un (rexec_primv C { v := .pv (.lit (.int .i64 ((D.length + v.D.length : Nat) : Int))) } rfl rfl rfl rfl trivial (delta_int (by rw [wrapI _ (by omega)]; omega)) rfl ?_)
  refine rvc_prim C rfl rfl rfl rfl (trivial) rfl ?_
  refine rvc_un (rexec_capC C rfl rfl rfl rfl rfl rfl ?_)
  refine rvc_prim C rfl rfl rfl rfl (trivial) rfl ?_
  refine rvc_nil ?_
  refine Awp.cond rfl (fun hc => ?_) (fun hc => ?_)
  ·
   have hgt : c < D.length + v.D.length := by have := of_decide_eq_true hc; omega
   refine Awp.cons C (fun _ => .pure) (by kernel_rfl) ?_ -- region 9 false
   refine rvc_prim C rfl rfl rfl rfl (trivial) rfl ?_
   refine rvc_prim C rfl rfl rfl rfl (trivial) rfl ?_
   refine rvc_un (rexec_sliceHiC C i rfl rfl rfl rfl rfl rfl (by omega) ?_)
   refine rvc_prim C rfl rfl rfl rfl (trivial) rfl ?_
   refine rvc_prim C rfl rfl rfl rfl (trivial) rfl ?_
   refine rvc_un (rexec_primv C { v := .pv (.lit (.int .i64 ((D.length + v.D.length : Nat) : Int))) } rfl rfl rfl rfl trivial (delta_int (by rw [wrapI _ (by omega)]; omega)) rfl ?_)
   refine rvc_prim C rfl rfl rfl rfl (trivial) rfl ?_
   refine rvc_un (rexec_primv C { v := .pv (.lit (.int .i64 ((D.length + v.D.length - i : Nat) : Int))) } rfl rfl rfl rfl trivial (delta_int (by rw [wrapI _ (by omega)]; omega)) rfl ?_)
   refine rvc_un (rexec_appendZ C rfl rfl rfl rfl rfl rfl rfl rfl rfl (Member.mk 0 0 false) D i (D.length + v.D.length - i) rfl rfl rfl hi (by omega) (by omega) (by show (2 * (i + (D.length + v.D.length - i)) + 192) * 24 ≤ _; omega) (by decide) (by decide) rfl rfl ?_)
   refine rvc_prim C rfl rfl rfl rfl (trivial) rfl ?_
   refine rvc_nil ?_
   refine Awp.cons C (fun _ => .pure) (by kernel_rfl) ?_ -- region 10 false
   refine rvc_prim C rfl rfl rfl rfl (trivial) rfl ?_
   refine rvc_prim C rfl rfl rfl rfl (trivial) rfl ?_
   refine rvc_un (rexec_sliceOwn C (l := i) rfl rfl rfl rfl rfl rfl (by omega) ?_)
   refine rvc_prim C rfl rfl rfl rfl (trivial) rfl ?_
   refine rvc_un (rexec_copyS C rfl rfl rfl rfl rfl rfl (e := eMember) v.D (encC eMember (D.take i ++ v.D ++ List.replicate (D.length - i) (Member.mk 0 0 false))) rfl rfl rfl (by omega) (by rw [encC_len]; simp [eMember]; omega) (by rw [hrep]; exact set_mid (by simp) (by simp [eMember]; omega)) ?_)
   refine rvc_nil ?_
   refine Awp.dropCap 0 0 0 D.length 3 c rfl ?_
   refine Awp.consP C ?_
   refine rvc_prim C rfl rfl rfl rfl (trivial) rfl ?_
   refine rvc_prim C rfl rfl rfl rfl (trivial) rfl ?_
   refine rvc_prim C rfl rfl rfl rfl (trivial) rfl ?_
   refine rvc_un (rexec_primv C { v := .pv (.lit (.int .i64 ((i + v.D.length : Nat) : Int))) } rfl rfl rfl rfl trivial (delta_int (by rw [wrapI _ (by omega)]; omega)) rfl ?_)
   refine rvc_un (rexec_sliceOwn C (l := i + v.D.length) rfl rfl rfl rfl rfl rfl (by omega) ?_)
   refine rvc_prim C rfl rfl rfl rfl (trivial) rfl ?_
   refine rvc_prim C rfl rfl rfl rfl (trivial) rfl ?_
   refine rvc_un (rexec_sliceOwn C (l := i) rfl rfl rfl rfl rfl rfl (by omega) ?_)
   refine rvc_un (rexec_copyO C rfl rfl rfl rfl rfl rfl (e := eMember) (D.drop i) (encC eMember (insertL D i v.D)) rfl rfl rfl rfl (by rw [encC_len]; simp [eMember]; omega) (by have := tail_of (e := eMember) (D := D) (Z := []) (i := i) (k := D.length - i) (j := (D.drop i).length * 3) hi (Nat.le_refl _) (by simp [eMember]); simpa [eMember] using this) (by simp; omega) (by rw [encC_len]; simp [eMember]; omega) (by have := set_mid (e := eMember) (A := D.take i ++ v.D) (B := List.replicate (D.length - i) (Member.mk 0 0 false)) (B' := D.drop i) (C := []) (k := (i + v.D.length) * 3) (by simp) (by simp [eMember]; omega); simpa [insertL] using this) ?_ rfl)
   refine rvc_nil ?_
   refine Awp.cons C (fun _ => .pure) (by kernel_rfl) ?_ -- region 12 false
   refine rvc_prim C rfl rfl rfl rfl (trivial) rfl ?_
   refine rvc_prim C rfl rfl rfl rfl (trivial) rfl ?_
   refine rvc_nil ?_
   refine Awp.freezeW 40 (encL eMember (insertL D i v.D)) ?_ [(6, sS (some false) eMember (insertL D i v.D))] [] ?_ ?_ ?_
   · rfl
   · exact ⟨⟨_, rfl, .inl (.inr ⟨_, _, _, rfl, by simp only [sS]; congr 2; rw [insertL_len (D := D) (M := v.D) hi]; omega⟩)⟩, trivial⟩
   · exact trivial
   refine Awp.ret ?_
   exact ⟨.inl rfl, rfl⟩
  ·
   have hle : D.length + v.D.length ≤ c := by have := of_decide_eq_false hc; omega
   refine Awp.skip ?_
   refine Awp.cons C (fun _ => .pure) (by kernel_rfl) ?_ -- region 13 false
   refine rvc_prim C rfl rfl rfl rfl (trivial) rfl ?_
   refine rvc_prim C rfl rfl rfl rfl (trivial) rfl ?_
   refine rvc_prim C rfl rfl rfl rfl (trivial) rfl ?_
   refine rvc_un (rexec_primv C { v := .pv (.lit (.int .i64 ((D.length + v.D.length : Nat) : Int))) } rfl rfl rfl rfl trivial (delta_int (by rw [wrapI _ (by omega)]; omega)) rfl ?_)
   refine rvc_un (rexec_sliceHiC C (D.length + v.D.length) rfl rfl rfl rfl rfl rfl (by omega) ?_)
   refine rvc_prim C rfl rfl rfl rfl (trivial) rfl ?_
   refine rvc_nil ?_
   refine Awp.seq ?_
   refine Awp.extend 0 0 (D.length + v.D.length) 3 c (encC eMember D) rfl rfl (by rw [encC_len]; simp [eMember]; omega) ?_
   refine Awp.dropCap 0 0 0 (D.length + v.D.length) 3 c rfl ?_
   refine Awp.cons C (fun _ => .writer) (by kernel_rfl) ?_ -- region 14 false
   refine rvc_prim C rfl rfl rfl rfl (trivial) rfl ?_
   refine rvc_prim C rfl rfl rfl rfl (trivial) rfl ?_
   refine rvc_prim C rfl rfl rfl rfl (trivial) rfl ?_
   refine rvc_prim C rfl rfl rfl rfl (trivial) rfl ?_
   refine rvc_un (rexec_primv C { v := .pv (.lit (.int .i64 ((i + v.D.length : Nat) : Int))) } rfl rfl rfl rfl trivial (delta_int (by rw [wrapI _ (by omega)]; omega)) rfl ?_)
   refine rvc_un (rexec_sliceOwn C (l := i + v.D.length) rfl rfl rfl rfl rfl rfl (by omega) ?_)
   refine rvc_un (rexec_overlaps C (fn := Try.f85) (t := 22) (tR := 4) rfl rfl (by rw [hP]; exact Try.func85) rfl rfl rfl (by kernel_rfl) rfl rfl rfl (fl := some v.nil) (m := v.D.length) (ps := encL eMember v.D) rfl rfl (encL_ne hv (by decide)) (encC_ne (by omega) (by decide)) ?_)
   refine rvc_prim C rfl rfl rfl rfl (trivial) rfl ?_
   refine rvc_nil ?_
   refine Awp.condT rfl (rfl) ?_
   refine Awp.consP C ?_
   refine rvc_prim C rfl rfl rfl rfl (trivial) rfl ?_
   refine rvc_prim C rfl rfl rfl rfl (trivial) rfl ?_
   refine rvc_prim C rfl rfl rfl rfl (trivial) rfl ?_
   refine rvc_un (rexec_primv C { v := .pv (.lit (.int .i64 ((i + v.D.length : Nat) : Int))) } rfl rfl rfl rfl trivial (delta_int (by rw [wrapI _ (by omega)]; omega)) rfl ?_)
   refine rvc_un (rexec_sliceOwn C (l := i + v.D.length) rfl rfl rfl rfl rfl rfl (by omega) ?_)
   refine rvc_prim C rfl rfl rfl rfl (trivial) rfl ?_
   refine rvc_prim C rfl rfl rfl rfl (trivial) rfl ?_
   refine rvc_un (rexec_sliceOwn C (l := i) rfl rfl rfl rfl rfl rfl (by omega) ?_)
   refine rvc_un (rexec_copyO C rfl rfl rfl rfl rfl rfl (e := eMember) (D.drop i) (setRange (encC eMember D ++ List.replicate (c * 3 - (encC eMember D).length) AV.undef) ((i + v.D.length) * 3) (encC eMember (D.drop i))) rfl rfl rfl rfl (by rw [List.length_append, encC_len, List.length_replicate]; simp [eMember]; omega) (by have := tail_of (e := eMember) (D := D) (Z := List.replicate (c * 3 - (encC eMember D).length) AV.undef) (i := i) (k := D.length + v.D.length - i) (j := (D.drop i).length * 3) hi (by omega) (by simp [eMember]); simpa [eMember] using this) (by simp; omega) (by rw [List.length_append, encC_len, List.length_replicate]; simp [eMember]; omega) (by congr 1; simp) ?_ rfl)
   refine rvc_nil ?_
   refine Awp.cons C (fun _ => .pure) (by kernel_rfl) ?_ -- region 16 false
   refine rvc_prim C rfl rfl rfl rfl (trivial) rfl ?_
   refine rvc_prim C rfl rfl rfl rfl (trivial) rfl ?_
   refine rvc_un (rexec_sliceOwn C (l := i) rfl rfl rfl rfl rfl rfl (by omega) ?_)
   refine rvc_prim C rfl rfl rfl rfl (trivial) rfl ?_
   refine rvc_un (rexec_copyS C rfl rfl rfl rfl rfl rfl (e := eMember) v.D (encC eMember (insertL D i v.D) ++ (List.replicate (c * 3 - (encC eMember D).length) AV.undef).drop (v.D.length * 3)) rfl rfl rfl (by omega) (by rw [setRange_length (by simp only [encC_len, List.length_append, List.length_replicate, List.length_drop, show eMember.sz = 3 from rfl]; omega)]; simp only [encC_len, List.length_append, List.length_replicate, show eMember.sz = 3 from rfl]; omega) (by have := insert_inplace (e := eMember) (D := D) (M := v.D) (Z := List.replicate (c * 3 - (encC eMember D).length) AV.undef) (i := i) hi (by rw [List.length_replicate, encC_len]; simp [eMember]; omega); simpa [eMember] using this) ?_)
   refine rvc_nil ?_
   refine Awp.cons C (fun _ => .pure) (by kernel_rfl) ?_ -- region 17 false
   refine rvc_prim C rfl rfl rfl rfl (trivial) rfl ?_
   refine rvc_prim C rfl rfl rfl rfl (trivial) rfl ?_
   refine rvc_nil ?_
   refine Awp.trim 0 (encC eMember (insertL D i v.D)) ((List.replicate (c * 3 - (encC eMember D).length) AV.undef).drop (v.D.length * 3)) rfl ?_
   refine Awp.freezeW 0 (encL eMember (insertL D i v.D)) ?_ [(6, sS (some false) eMember (insertL D i v.D))] [] ?_ ?_ ?_
   · rfl
   · exact ⟨⟨_, rfl, .inl (.inr ⟨_, _, _, rfl, by simp only [sS]; congr 2; rw [insertL_len (D := D) (M := v.D) hi]⟩)⟩, trivial⟩
   · exact trivial
   refine Awp.ret ?_
   exact ⟨.inl rfl, rfl⟩
end Go.Proofs.Ytpgenmflgdkfiaa
/- Changes of chains. No conditions. -/
namespace Go.Proofs.Ytpgenmflgdkfiaa
open Go.Am
def join_l0 (c : Chain) (m : Member) : Nat → Int → Chain × Int
  | 0, _ => default
  | nn + 1, i => (bif (decide (i < (c.members.D.length : Int))) then (bif (decide ((c.members.D[i.toNat]!.site) ≤ m.site)) then join_l0 c m nn (IntKind.i64.wrap (i + 1)) else (bif (i == 0) then ((Chain.mk 0 (Sl.mk true [])), 152) else ((after c (Sl.mk false (insertL c.members.D i.toNat [(Member.mk m.node m.site true)]))), 0))) else (bif (i == 0) then ((Chain.mk 0 (Sl.mk true [])), 152) else ((after c (Sl.mk false (insertL c.members.D i.toNat [(Member.mk m.node m.site true)]))), 0)))
def join (c : Chain) (m : Member) : Chain × Int :=
  (bif ((check c) != 0) then ((Chain.mk 0 (Sl.mk true [])), (check c)) else (bif (!(member (Member.mk m.node m.site true))) then ((Chain.mk 0 (Sl.mk true [])), 81) else (bif (decide ((placeIn c m.node) ≥ 0)) then ((Chain.mk 0 (Sl.mk true [])), 82) else (bif (decide (c.epoch ≥ 1099511627776)) then ((Chain.mk 0 (Sl.mk true [])), 5) else join_l0 c m ((c.members.D.length - (0 : Int).toNat) + 1) 0))))
theorem join_calls (c : Chain) (m : Member) (hn : c.members.nil = true → c.members.D = []) (hl1 : c.members.D.length ≤ 1000000) : PCalls Try.prog 62 [.agg [.pv (.lit (.int .i64 c.epoch)), sS (some c.members.nil) eMember c.members.D], .agg [.pv (.lit (.int .i64 m.node)), .pv (.lit (.int .i64 m.site)), .pv (.lit (.bool m.fresh))]] (.tup [.agg [.pv (.lit (.int .i64 ((join c m).1.epoch))), sS (some (join c m).1.members.nil) eMember ((join c m).1.members.D)], .pv (.lit (.int .i64 ((join c m).2)))]) := by
 generalize hR : join c m = R
 refine PCalls.of_body tabOk Try.func62 rfl rfl rfl rfl rfl mixed fun E hP C hI => ?_
 refine Awp.consP C ?_
 refine rvc_un (rexec_prim C (δ := { v := .ptr 2 0, new := [(2, .cells [.pv (.lit (.int .i64 c.epoch)), sS (some c.members.nil) eMember c.members.D])] }) rfl rfl rfl rfl trivial rfl ?_)
 refine rvc_un (rexec_prim C (δ := { v := .ptr 3 0, new := [(3, .cells [.pv (.lit (.int .i64 m.node)), .pv (.lit (.int .i64 m.site)), .pv (.lit (.bool m.fresh))])] }) rfl rfl rfl rfl trivial rfl ?_)
 refine rvc_un (rexec_prim C (δ := { v := .ptr 4 0, new := [(4, .cells [.pv (.lit (.int .i64 0)), sS (some true) eMember []])] }) rfl rfl rfl rfl trivial rfl ?_)
 refine rvP C (.pv (.lit (.int .i64 0))) ?_
 refine rvc_nil ?_
 refine Awp.seq ?_
 refine Awp.consP C ?_
 refine rvP C (.agg [.pv (.lit (.int .i64 c.epoch)), sS (some c.members.nil) eMember c.members.D]) ?_
 refine rvc_un (rexec_call hP C rfl rfl rfl (check_calls c (Nat.le_trans hl1 (by decide))) ?_)
 refine rvP C (.pv (.lit (.int .i64 (check c)))) ?_
 refine rvc_nil ?_
 refine Awp.consP C ?_
 refine rvP C (.pv (.lit (.int .i64 (check c)))) ?_
 refine rvP C (.pv (.lit (.bool ((check c) != 0)))) ?_
 refine rvc_nil ?_
 refine Awp.cond (b := ((check c) != 0)) rfl (fun h1 => ?_) (fun h1 => ?_)
 ·
  replace hR := of_true h1 hR
  refine Awp.consP C ?_
  refine rvP C (.agg [.pv (.lit (.int .i64 0)), sS (some true) eMember []]) ?_
  refine rvP C (.pv (.lit (.int .i64 (check c)))) ?_
  refine rvc_un (rexec_prim C (δ := { v := .undef, wr := [(4, some (.cells [.pv (.lit (.int .i64 0)), sS (some true) eMember []]))] }) rfl rfl rfl rfl trivial rfl ?_)
  refine rvP C (.pv (.lit (.int .i64 (check c)))) ?_
  refine rvc_nil ?_
  refine Awp.ret ?_
  subst hR
  exact ⟨.inl rfl, rfl⟩
 ·
  replace hR := of_false h1 hR
  refine Awp.skip ?_
  refine Awp.consP C ?_
  refine rvP C (.ptr 3 2) ?_
  refine rvc_un (rexec_prim C (δ := { v := .undef, wr := [(3, some (.cells [.pv (.lit (.int .i64 m.node)), .pv (.lit (.int .i64 m.site)), .pv (.lit (.bool true))]))] }) rfl rfl rfl rfl trivial rfl ?_)
  refine rvc_nil ?_
  refine Awp.seq ?_
  refine Awp.block ?_
  refine Awp.consP C ?_
  refine rvP C (.agg [.pv (.lit (.int .i64 m.node)), .pv (.lit (.int .i64 m.site)), .pv (.lit (.bool true))]) ?_
  refine rvc_un (rexec_call hP C rfl rfl rfl (member_calls (Member.mk m.node m.site true)) ?_)
  refine rvP C (.pv (.lit (.bool (!(member (Member.mk m.node m.site true)))))) ?_
  refine rvP C (.pv (.lit (.bool (!(member (Member.mk m.node m.site true)))))) ?_
  refine rvc_nil ?_
  refine Awp.cond (b := (!(member (Member.mk m.node m.site true)))) rfl (fun h2 => ?_) (fun h2 => ?_)
  ·
   replace hR := of_true h2 hR
   refine Awp.consP C ?_
   refine rvP C (.agg [.pv (.lit (.int .i64 0)), sS (some true) eMember []]) ?_
   refine rvc_un (rexec_prim C (δ := { v := .undef, wr := [(4, some (.cells [.pv (.lit (.int .i64 0)), sS (some true) eMember []]))] }) rfl rfl rfl rfl trivial rfl ?_)
   refine rvP C (.pv (.lit (.int .i64 81))) ?_
   refine rvc_nil ?_
   refine Awp.ret ?_
   subst hR
   exact ⟨.inl rfl, rfl⟩
  ·
   replace hR := of_false h2 hR
   refine Awp.consP C ?_
   refine rvP C (.agg [.pv (.lit (.int .i64 c.epoch)), sS (some c.members.nil) eMember c.members.D]) ?_
   refine rvP C (.ptr 3 0) ?_
   refine rvP C (.pv (.lit (.int .i64 m.node))) ?_
   refine rvc_un (rexec_call hP C rfl rfl rfl (placeIn_calls c m.node (Nat.le_trans hl1 (by decide))) ?_)
   refine rvP C (.pv (.lit (.bool (decide ((placeIn c m.node) ≥ 0))))) ?_
   refine rvP C (.pv (.lit (.bool (decide ((placeIn c m.node) ≥ 0))))) ?_
   refine rvc_nil ?_
   refine Awp.cond (b := (decide ((placeIn c m.node) ≥ 0))) rfl (fun h3 => ?_) (fun h3 => ?_)
   ·
    replace hR := of_true h3 hR
    refine Awp.consP C ?_
    refine rvP C (.agg [.pv (.lit (.int .i64 0)), sS (some true) eMember []]) ?_
    refine rvc_un (rexec_prim C (δ := { v := .undef, wr := [(4, some (.cells [.pv (.lit (.int .i64 0)), sS (some true) eMember []]))] }) rfl rfl rfl rfl trivial rfl ?_)
    refine rvP C (.pv (.lit (.int .i64 82))) ?_
    refine rvc_nil ?_
    refine Awp.ret ?_
    subst hR
    exact ⟨.inl rfl, rfl⟩
   ·
    replace hR := of_false h3 hR
    refine Awp.consP C ?_
    refine rvP C (.ptr 2 0) ?_
    refine rvP C (.pv (.lit (.int .i64 c.epoch))) ?_
    refine rvP C (.pv (.lit (.bool (decide (c.epoch ≥ 1099511627776))))) ?_
    refine rvP C (.pv (.lit (.bool (decide (c.epoch ≥ 1099511627776))))) ?_
    refine rvc_nil ?_
    refine Awp.cond (b := (decide (c.epoch ≥ 1099511627776))) rfl (fun h4 => ?_) (fun h4 => ?_)
    ·
     replace hR := of_true h4 hR
     refine Awp.consP C ?_
     refine rvP C (.agg [.pv (.lit (.int .i64 0)), sS (some true) eMember []]) ?_
     refine rvc_un (rexec_prim C (δ := { v := .undef, wr := [(4, some (.cells [.pv (.lit (.int .i64 0)), sS (some true) eMember []]))] }) rfl rfl rfl rfl trivial rfl ?_)
     refine rvP C (.pv (.lit (.int .i64 5))) ?_
     refine rvc_nil ?_
     refine Awp.ret ?_
     subst hR
     exact ⟨.inl rfl, rfl⟩
    ·
     replace hR := of_false h4 hR
     refine Awp.skip ?_
     refine Awp.consP C ?_
     refine rvP C (.pv (.lit (.int .i64 0))) ?_
     refine rvc_nil ?_
     refine Awp.seq ?_
     refine Awp.block ?_
     refine Awp.forM (σ := Int) (fun v => [(2, .ptr 2 0), (3, .ptr 3 0), (4, .ptr 4 0), (7, .pv (.lit (.int .i64 v)))]) (fun v => [(2, .cells [.pv (.lit (.int .i64 c.epoch)), sS (some c.members.nil) eMember c.members.D]), (3, .cells [.pv (.lit (.int .i64 m.node)), .pv (.lit (.int .i64 m.site)), .pv (.lit (.bool true))]), (4, .cells [.pv (.lit (.int .i64 0)), sS (some true) eMember []])]) [2, 3, 4] (fun n v => n = (c.members.D.length - (v : Int).toNat) ∧ join_l0 c m ((c.members.D.length - (v : Int).toNat) + 1) v = R ∧ (0 ≤ v ∧ v ≤ (c.members.D.length : Int))) ((c.members.D.length - (0 : Int).toNat)) 0 ?_ ?_ (fun _ i h5 => ?_)
     · exact ⟨rfl, hR, by simp⟩
     · exact ⟨fun b => b, WeakerR.ofL (Ks := [2, 3, 4]) hI ⟨⟨rfl, rfl⟩, ⟨rfl, rfl⟩, ⟨rfl, rfl⟩, ⟨rfl, rfl⟩, trivial⟩ (okH_cons rfl rfl rfl rfl (okH_cons rfl rfl rfl rfl (okH_cons rfl rfl rfl rfl (okH_nil)))) rfl⟩
     obtain ⟨rfl, hR, hV⟩ := h5
     refine Awp.seq ?_
     refine Awp.consP C ?_
     refine rvP C (.pv (.lit (.int .i64 i))) ?_
     refine rvP C (.ptr 2 1) ?_
     refine rvP C (sS (some c.members.nil) eMember c.members.D) ?_
     refine rvP C (.pv (.lit (.int .i64 (c.members.D.length : Int)))) ?_
     refine rvP C (.pv (.lit (.bool (decide (i < (c.members.D.length : Int)))))) ?_
     refine rvP C (.pv (.lit (.bool (decide (i < (c.members.D.length : Int)))))) ?_
     refine rvc_case 37 (decide (i < (c.members.D.length : Int))) rfl (fun h7 => ?_) (fun h7 => ?_)
     ·
      replace hR := of_true h7 hR
      refine rvO C (.ptr 2 1) ?_
      refine rvO C (sS (some c.members.nil) eMember c.members.D) ?_
      refine rvO C (.pv (.lit (.int .i64 i))) ?_
      have h8 : c.members.D[i.toNat]? = some c.members.D[i.toNat]! := getE (by have := check_len (c := c); have := check_le6 (c := c); have := placeIn_lt c m.node; have := eq_of_bne_false h1; have := of_decide_eq_false h3; have := of_decide_eq_false h4; have := of_decide_eq_true h7; omega)
      refine rvc_open rfl rfl rfl (rexec_idxS C rfl rfl rfl rfl rfl rfl (c.members.D[i.toNat]!) (by have := check_len (c := c); have := check_le6 (c := c); have := placeIn_lt c m.node; have := eq_of_bne_false h1; have := of_decide_eq_false h3; have := of_decide_eq_false h4; have := of_decide_eq_true h7; omega) h8 ?_)
      refine rvO C (.rp [.lit (.int .i64 (c.members.D[i.toNat]!.site))]) ?_
      refine rvO C (.pv (.lit (.int .i64 (c.members.D[i.toNat]!.site)))) ?_
      refine rvO C (.ptr 3 1) ?_
      refine rvO C (.pv (.lit (.int .i64 m.site))) ?_
      refine rvO C (.pv (.lit (.bool (decide ((c.members.D[i.toNat]!.site) ≤ m.site))))) ?_
      refine rvP C (.pv (.lit (.bool (decide ((c.members.D[i.toNat]!.site) ≤ m.site))))) ?_
      refine rvc_nil ?_
      refine Awp.cond (b := (decide ((c.members.D[i.toNat]!.site) ≤ m.site))) rfl (fun h9 => ?_) (fun h9 => ?_)
      ·
       replace hR := of_true h9 hR
       refine Awp.skip ?_
       refine Awp.block ?_
       refine Awp.regionP C ?_
       refine rvP C (.pv (.lit (.int .i64 i))) ?_
       refine rvP C (.pv (.lit (.int .i64 (IntKind.i64.wrap (i + 1))))) ?_
       refine rvP C (.pv (.lit (.int .i64 (IntKind.i64.wrap (i + 1))))) ?_
       refine rvc_nil ?_
       refine ⟨_, (IntKind.i64.wrap (i + 1)), ?_, ⟨rfl, (by rw [show (c.members.D.length - ((IntKind.i64.wrap (i + 1)) : Int).toNat) + 1 = (c.members.D.length - (i : Int).toNat) by have := wrapI (i + 1); have := check_len (c := c); have := check_le6 (c := c); have := placeIn_lt c m.node; have := eq_of_bne_false h1; have := of_decide_eq_false h3; have := of_decide_eq_false h4; have := of_decide_eq_true h7; have := of_decide_eq_true h9; first | omega | (simp only [List.length_drop]; omega)]; exact hR), (by have := wrapI (i + 1); have := check_len (c := c); have := check_le6 (c := c); have := placeIn_lt c m.node; have := eq_of_bne_false h1; have := of_decide_eq_false h3; have := of_decide_eq_false h4; have := of_decide_eq_true h7; have := of_decide_eq_true h9; omega)⟩, ?_⟩
       · show (c.members.D.length - ((IntKind.i64.wrap (i + 1)) : Int).toNat) < (c.members.D.length - (i : Int).toNat); have := wrapI (i + 1); have := check_len (c := c); have := check_le6 (c := c); have := placeIn_lt c m.node; have := eq_of_bne_false h1; have := of_decide_eq_false h3; have := of_decide_eq_false h4; have := of_decide_eq_true h7; have := of_decide_eq_true h9; first | omega | (simp only [List.length_drop]; omega)
       · exact ⟨fun b => b, WeakerR.ofL (Ks := [2, 3, 4]) hI ⟨⟨rfl, rfl⟩, ⟨rfl, rfl⟩, ⟨rfl, rfl⟩, ⟨rfl, rfl⟩, trivial⟩ (okH_cons rfl rfl rfl rfl (okH_cons rfl rfl rfl rfl (okH_cons rfl rfl rfl rfl (okH_nil)))) rfl⟩
      ·
       replace hR := of_false h9 hR
       refine Awp.exit ?_
       refine Awp.seq ?_
       refine Awp.consP C ?_
       refine rvP C (.pv (.lit (.int .i64 i))) ?_
       refine rvP C (.pv (.lit (.bool (i == 0)))) ?_
       refine rvc_nil ?_
       refine Awp.cond (b := (i == 0)) rfl (fun h10 => ?_) (fun h10 => ?_)
       ·
        replace hR := of_true h10 hR
        refine Awp.consP C ?_
        refine rvP C (.agg [.pv (.lit (.int .i64 0)), sS (some true) eMember []]) ?_
        refine rvc_un (rexec_prim C (δ := { v := .undef, wr := [(4, some (.cells [.pv (.lit (.int .i64 0)), sS (some true) eMember []]))] }) rfl rfl rfl rfl trivial rfl ?_)
        refine rvP C (.pv (.lit (.int .i64 152))) ?_
        refine rvc_nil ?_
        refine Awp.ret ?_
        subst hR
        exact ⟨.inl rfl, rfl⟩
       ·
        replace hR := of_false h10 hR
        refine Awp.skip ?_
        refine Awp.cons C (fun o => match o.dst with | some 53 => .reads [2] | some 55 => .reads [2] | some 58 => .reads [3] | some 60 => .writes [56] | some 56 => .quiet | _ => .pure) (by kernel_rfl) ?_
        refine rvP C (.agg [.pv (.lit (.int .i64 c.epoch)), sS (some c.members.nil) eMember c.members.D]) ?_
        refine rvP C (.ptr 2 1) ?_
        refine rvP C (sS (some c.members.nil) eMember c.members.D) ?_
        refine rvc_un (rexec_callO hP C rfl rfl rfl rfl (cloneO_calls c.members (nil_false hn (by have := check_len (c := c); have := check_le6 (c := c); have := placeIn_lt c m.node; have := eq_of_bne_false h1; have := of_decide_eq_false h3; have := of_decide_eq_false h4; have := of_decide_eq_true h7; have := of_decide_eq_false h9; have := ne_of_beq_false h10; omega)) hl1) ?_)
        refine rvP C (.pv (.lit (.int .i64 i))) ?_
        refine rvP C (.agg [.pv (.lit (.int .i64 m.node)), .pv (.lit (.int .i64 m.site)), .pv (.lit (.bool true))]) ?_
        refine rvc_un (rexec_buildSliceF C eMember [(Member.mk m.node m.site true)] rfl rfl rfl rfl rfl rfl rfl (by decide) rfl ?_)
        refine rvc_slot 57 (.pv (.lit (.int .i64 ((i.toNat : Nat) : Int)))) (by rw [show ((i.toNat : Nat) : Int) = i by omega]; rfl) ?_
        refine rvc_un (rexec_callX hP C (b := 56) rfl rfl rfl (insertM_calls c.members.D i.toNat (Sl.mk false [(Member.mk m.node m.site true)]) (by have := check_len (c := c); have := check_le6 (c := c); have := placeIn_lt c m.node; have := eq_of_bne_false h1; have := of_decide_eq_false h3; have := of_decide_eq_false h4; have := of_decide_eq_true h7; have := of_decide_eq_false h9; have := ne_of_beq_false h10; omega) (by simp) hl1 (by simp)) rfl rfl ?_)
        refine rvc_un (rexec_call hP C rfl rfl rfl (after_calls c (Sl.mk false (insertL c.members.D i.toNat [(Member.mk m.node m.site true)]))) ?_)
        refine rvc_un (rexec_prim C (δ := { v := .undef, wr := [(4, some (.cells [.pv (.lit (.int .i64 ((after c (Sl.mk false (insertL c.members.D i.toNat [(Member.mk m.node m.site true)]))).epoch))), sS (some (after c (Sl.mk false (insertL c.members.D i.toNat [(Member.mk m.node m.site true)]))).members.nil) eMember ((after c (Sl.mk false (insertL c.members.D i.toNat [(Member.mk m.node m.site true)]))).members.D)]))] }) rfl rfl rfl rfl trivial rfl ?_)
        refine rvP C (.pv (.lit (.int .i64 0))) ?_
        refine rvc_nil ?_
        refine Awp.ret ?_
        subst hR
        exact ⟨.inl rfl, rfl⟩
     ·
      replace hR := of_false h7 hR
      refine rvS ?_
      refine rvS ?_
      refine rvS ?_
      refine rvS ?_
      refine rvS ?_
      refine rvS ?_
      refine rvS ?_
      refine rvS ?_
      refine rvS ?_
      refine rvP C (.pv (.lit (.bool false))) ?_
      refine rvc_nil ?_
      refine Awp.condF (b := false) rfl rfl ?_
      refine Awp.exit ?_
      refine Awp.seq ?_
      refine Awp.consP C ?_
      refine rvP C (.pv (.lit (.int .i64 i))) ?_
      refine rvP C (.pv (.lit (.bool (i == 0)))) ?_
      refine rvc_nil ?_
      refine Awp.cond (b := (i == 0)) rfl (fun h11 => ?_) (fun h11 => ?_)
      ·
       replace hR := of_true h11 hR
       refine Awp.consP C ?_
       refine rvP C (.agg [.pv (.lit (.int .i64 0)), sS (some true) eMember []]) ?_
       refine rvc_un (rexec_prim C (δ := { v := .undef, wr := [(4, some (.cells [.pv (.lit (.int .i64 0)), sS (some true) eMember []]))] }) rfl rfl rfl rfl trivial rfl ?_)
       refine rvP C (.pv (.lit (.int .i64 152))) ?_
       refine rvc_nil ?_
       refine Awp.ret ?_
       subst hR
       exact ⟨.inl rfl, rfl⟩
      ·
       replace hR := of_false h11 hR
       refine Awp.skip ?_
       refine Awp.cons C (fun o => match o.dst with | some 53 => .reads [2] | some 55 => .reads [2] | some 58 => .reads [3] | some 60 => .writes [56] | some 56 => .quiet | _ => .pure) (by kernel_rfl) ?_
       refine rvP C (.agg [.pv (.lit (.int .i64 c.epoch)), sS (some c.members.nil) eMember c.members.D]) ?_
       refine rvP C (.ptr 2 1) ?_
       refine rvP C (sS (some c.members.nil) eMember c.members.D) ?_
       refine rvc_un (rexec_callO hP C rfl rfl rfl rfl (cloneO_calls c.members (nil_false hn (by have := check_len (c := c); have := check_le6 (c := c); have := placeIn_lt c m.node; have := eq_of_bne_false h1; have := of_decide_eq_false h3; have := of_decide_eq_false h4; have := of_decide_eq_false h7; have := ne_of_beq_false h11; omega)) hl1) ?_)
       refine rvP C (.pv (.lit (.int .i64 i))) ?_
       refine rvP C (.agg [.pv (.lit (.int .i64 m.node)), .pv (.lit (.int .i64 m.site)), .pv (.lit (.bool true))]) ?_
       refine rvc_un (rexec_buildSliceF C eMember [(Member.mk m.node m.site true)] rfl rfl rfl rfl rfl rfl rfl (by decide) rfl ?_)
       refine rvc_slot 57 (.pv (.lit (.int .i64 ((i.toNat : Nat) : Int)))) (by rw [show ((i.toNat : Nat) : Int) = i by omega]; rfl) ?_
       refine rvc_un (rexec_callX hP C (b := 56) rfl rfl rfl (insertM_calls c.members.D i.toNat (Sl.mk false [(Member.mk m.node m.site true)]) (by have := check_len (c := c); have := check_le6 (c := c); have := placeIn_lt c m.node; have := eq_of_bne_false h1; have := of_decide_eq_false h3; have := of_decide_eq_false h4; have := of_decide_eq_false h7; have := ne_of_beq_false h11; omega) (by simp) hl1 (by simp)) rfl rfl ?_)
       refine rvc_un (rexec_call hP C rfl rfl rfl (after_calls c (Sl.mk false (insertL c.members.D i.toNat [(Member.mk m.node m.site true)]))) ?_)
       refine rvc_un (rexec_prim C (δ := { v := .undef, wr := [(4, some (.cells [.pv (.lit (.int .i64 ((after c (Sl.mk false (insertL c.members.D i.toNat [(Member.mk m.node m.site true)]))).epoch))), sS (some (after c (Sl.mk false (insertL c.members.D i.toNat [(Member.mk m.node m.site true)]))).members.nil) eMember ((after c (Sl.mk false (insertL c.members.D i.toNat [(Member.mk m.node m.site true)]))).members.D)]))] }) rfl rfl rfl rfl trivial rfl ?_)
       refine rvP C (.pv (.lit (.int .i64 0))) ?_
       refine rvc_nil ?_
       refine Awp.ret ?_
       subst hR
       exact ⟨.inl rfl, rfl⟩
def drop (c : Chain) (node : Int) : Chain × Int :=
  (bif ((check c) != 0) then ((Chain.mk 0 (Sl.mk true [])), (check c)) else ((without c (maskOf (Sl.mk false [node]))).1, (without c (maskOf (Sl.mk false [node]))).2))
theorem drop_calls (c : Chain) (node : Int) (hl1 : c.members.D.length ≤ 1000000) : PCalls Try.prog 60 [.agg [.pv (.lit (.int .i64 c.epoch)), sS (some c.members.nil) eMember c.members.D], .pv (.lit (.int .i64 node))] (.tup [.agg [.pv (.lit (.int .i64 ((drop c node).1.epoch))), sS (some (drop c node).1.members.nil) eMember ((drop c node).1.members.D)], .pv (.lit (.int .i64 ((drop c node).2)))]) := by
 generalize hR : drop c node = R
 refine PCalls.of_body tabOk Try.func60 rfl rfl rfl rfl rfl mixed fun E hP C hI => ?_
 refine Awp.consP C ?_
 refine rvc_un (rexec_prim C (δ := { v := .ptr 2 0, new := [(2, .cells [.pv (.lit (.int .i64 c.epoch)), sS (some c.members.nil) eMember c.members.D])] }) rfl rfl rfl rfl trivial rfl ?_)
 refine rvc_un (rexec_prim C (δ := { v := .ptr 4 0, new := [(4, .cells [.pv (.lit (.int .i64 0)), sS (some true) eMember []])] }) rfl rfl rfl rfl trivial rfl ?_)
 refine rvP C (.pv (.lit (.int .i64 0))) ?_
 refine rvc_nil ?_
 refine Awp.seq ?_
 refine Awp.consP C ?_
 refine rvP C (.agg [.pv (.lit (.int .i64 c.epoch)), sS (some c.members.nil) eMember c.members.D]) ?_
 refine rvc_un (rexec_call hP C rfl rfl rfl (check_calls c (Nat.le_trans hl1 (by decide))) ?_)
 refine rvP C (.pv (.lit (.int .i64 (check c)))) ?_
 refine rvc_nil ?_
 refine Awp.consP C ?_
 refine rvP C (.pv (.lit (.int .i64 (check c)))) ?_
 refine rvP C (.pv (.lit (.bool ((check c) != 0)))) ?_
 refine rvc_nil ?_
 refine Awp.cond (b := ((check c) != 0)) rfl (fun h1 => ?_) (fun h1 => ?_)
 ·
  replace hR := of_true h1 hR
  refine Awp.consP C ?_
  refine rvP C (.agg [.pv (.lit (.int .i64 0)), sS (some true) eMember []]) ?_
  refine rvP C (.pv (.lit (.int .i64 (check c)))) ?_
  refine rvc_un (rexec_prim C (δ := { v := .undef, wr := [(4, some (.cells [.pv (.lit (.int .i64 0)), sS (some true) eMember []]))] }) rfl rfl rfl rfl trivial rfl ?_)
  refine rvP C (.pv (.lit (.int .i64 (check c)))) ?_
  refine rvc_nil ?_
  refine Awp.ret ?_
  subst hR
  exact ⟨.inl rfl, rfl⟩
 ·
  replace hR := of_false h1 hR
  refine Awp.skip ?_
  refine Awp.consP C ?_
  refine rvP C (.agg [.pv (.lit (.int .i64 c.epoch)), sS (some c.members.nil) eMember c.members.D]) ?_
  refine rvP C (.pv (.lit (.int .i64 node))) ?_
  refine rvc_un (rexec_buildSliceF C (eI .i64) [node] rfl rfl rfl rfl rfl rfl rfl (by decide) rfl ?_)
  refine rvc_un (rexec_call hP C rfl rfl rfl (maskOf_calls (Sl.mk false [node]) (by simp)) ?_)
  refine rvc_un (rexec_call hP C rfl rfl rfl (without_calls c (maskOf (Sl.mk false [node])) hl1) ?_)
  refine rvP C (.agg [.pv (.lit (.int .i64 ((without c (maskOf (Sl.mk false [node]))).1.epoch))), sS (some (without c (maskOf (Sl.mk false [node]))).1.members.nil) eMember ((without c (maskOf (Sl.mk false [node]))).1.members.D)]) ?_
  refine rvP C (.pv (.lit (.int .i64 ((without c (maskOf (Sl.mk false [node]))).2)))) ?_
  refine rvc_un (rexec_prim C (δ := { v := .undef, wr := [(4, some (.cells [.pv (.lit (.int .i64 ((without c (maskOf (Sl.mk false [node]))).1.epoch))), sS (some (without c (maskOf (Sl.mk false [node]))).1.members.nil) eMember ((without c (maskOf (Sl.mk false [node]))).1.members.D)]))] }) rfl rfl rfl rfl trivial rfl ?_)
  refine rvP C (.pv (.lit (.int .i64 ((without c (maskOf (Sl.mk false [node]))).2)))) ?_
  refine rvc_nil ?_
  refine Awp.ret ?_
  subst hR
  exact ⟨.inl rfl, rfl⟩
def dropSite_l0 (c : Chain) (site : Int) : List Member → Nat → Int → Chain × Int
  | [], _, gone => ((without c gone).1, (without c gone).2)
  | x :: xs, i, gone => (bif (x.site == site) then dropSite_l0 c site xs (i + 1) (mWith gone x.node) else dropSite_l0 c site xs (i + 1) gone)
def dropSite (c : Chain) (site : Int) : Chain × Int :=
  (bif ((check c) != 0) then ((Chain.mk 0 (Sl.mk true [])), (check c)) else dropSite_l0 c site c.members.D 0 0)
theorem dropSite_calls (c : Chain) (site : Int) (hl1 : c.members.D.length ≤ 1000000) : PCalls Try.prog 61 [.agg [.pv (.lit (.int .i64 c.epoch)), sS (some c.members.nil) eMember c.members.D], .pv (.lit (.int .i64 site))] (.tup [.agg [.pv (.lit (.int .i64 ((dropSite c site).1.epoch))), sS (some (dropSite c site).1.members.nil) eMember ((dropSite c site).1.members.D)], .pv (.lit (.int .i64 ((dropSite c site).2)))]) := by
 generalize hR : dropSite c site = R
 refine PCalls.of_body tabOk Try.func61 rfl rfl rfl rfl rfl mixed fun E hP C hI => ?_
 refine Awp.consP C ?_
 refine rvc_un (rexec_prim C (δ := { v := .ptr 2 0, new := [(2, .cells [.pv (.lit (.int .i64 c.epoch)), sS (some c.members.nil) eMember c.members.D])] }) rfl rfl rfl rfl trivial rfl ?_)
 refine rvc_un (rexec_prim C (δ := { v := .ptr 4 0, new := [(4, .cells [.pv (.lit (.int .i64 0)), sS (some true) eMember []])] }) rfl rfl rfl rfl trivial rfl ?_)
 refine rvP C (.pv (.lit (.int .i64 0))) ?_
 refine rvc_nil ?_
 refine Awp.seq ?_
 refine Awp.consP C ?_
 refine rvP C (.agg [.pv (.lit (.int .i64 c.epoch)), sS (some c.members.nil) eMember c.members.D]) ?_
 refine rvc_un (rexec_call hP C rfl rfl rfl (check_calls c (Nat.le_trans hl1 (by decide))) ?_)
 refine rvP C (.pv (.lit (.int .i64 (check c)))) ?_
 refine rvc_nil ?_
 refine Awp.consP C ?_
 refine rvP C (.pv (.lit (.int .i64 (check c)))) ?_
 refine rvP C (.pv (.lit (.bool ((check c) != 0)))) ?_
 refine rvc_nil ?_
 refine Awp.cond (b := ((check c) != 0)) rfl (fun h1 => ?_) (fun h1 => ?_)
 ·
  replace hR := of_true h1 hR
  refine Awp.consP C ?_
  refine rvP C (.agg [.pv (.lit (.int .i64 0)), sS (some true) eMember []]) ?_
  refine rvP C (.pv (.lit (.int .i64 (check c)))) ?_
  refine rvc_un (rexec_prim C (δ := { v := .undef, wr := [(4, some (.cells [.pv (.lit (.int .i64 0)), sS (some true) eMember []]))] }) rfl rfl rfl rfl trivial rfl ?_)
  refine rvP C (.pv (.lit (.int .i64 (check c)))) ?_
  refine rvc_nil ?_
  refine Awp.ret ?_
  subst hR
  exact ⟨.inl rfl, rfl⟩
 ·
  replace hR := of_false h1 hR
  refine Awp.skip ?_
  refine Awp.consP C ?_
  refine rvP C (.pv (.lit (.int .u64 0))) ?_
  refine rvc_nil ?_
  refine Awp.seq ?_
  refine Awp.consP C ?_
  refine rvP C (.ptr 2 1) ?_
  refine rvP C (sS (some c.members.nil) eMember c.members.D) ?_
  refine rvP C (.pv (.lit (.int .i64 (c.members.D.length : Int)))) ?_
  refine rvP C (.pv (.lit (.int .i64 0))) ?_
  refine rvc_nil ?_
  refine Awp.block ?_
  refine Awp.forR (σ := Int) (c.members.D.length) (fun i v => [(1, .pv (.lit (.int .i64 site))), (2, .ptr 2 0), (4, .ptr 4 0), (7, .pv (.lit (.int .u64 v))), (17, sS (some c.members.nil) eMember c.members.D), (18, .pv (.lit (.int .i64 (c.members.D.length : Int)))), (19, .pv (.lit (.int .i64 (i : Int))))]) (fun i v => [(2, .cells [.pv (.lit (.int .i64 c.epoch)), sS (some c.members.nil) eMember c.members.D]), (4, .cells [.pv (.lit (.int .i64 0)), sS (some true) eMember []])]) [2, 4] (fun i v => dropSite_l0 c site (c.members.D.drop i) i v = R) 0 ?_ ?_ (fun i gone h2 hR => ?_)
  · exact hR
  · exact ⟨fun b => b, WeakerR.ofL (Ks := [2, 4]) hI ⟨⟨rfl, rfl⟩, ⟨rfl, rfl⟩, ⟨rfl, rfl⟩, ⟨rfl, rfl⟩, ⟨rfl, rfl⟩, ⟨rfl, rfl⟩, ⟨rfl, rfl⟩, trivial⟩ (okH_cons rfl rfl rfl rfl (okH_cons rfl rfl rfl rfl (okH_nil))) rfl⟩
  refine Awp.consP C ?_
  refine rvP C (.pv (.lit (.bool (decide ((i : Int) < (c.members.D.length : Int)))))) ?_
  refine rvc_nil ?_
  refine Awp.seq ?_
  refine Awp.cond (b := (decide ((i : Int) < (c.members.D.length : Int)))) rfl (fun h3 => ?_) (fun h3 => ?_)
  ·
   have h4 : i < c.members.D.length := by have := of_decide_eq_true h3; omega
   obtain ⟨x, h5⟩ := getX h4
   rw [drop_at h5] at hR
   refine Awp.skip ?_
   refine Awp.seq ?_
   refine Awp.block ?_
   refine Awp.consP C ?_
   refine rvc_un (rexec_idxS C rfl rfl rfl rfl rfl rfl x (Int.natCast_nonneg _) h5 ?_)
   refine rvP C (.agg [.pv (.lit (.int .i64 x.node)), .pv (.lit (.int .i64 x.site)), .pv (.lit (.bool x.fresh))]) ?_
   refine rvc_un (rexec_prim C (δ := { v := .ptr 9 0, new := [(9, .cells [.pv (.lit (.int .i64 0)), .pv (.lit (.int .i64 0)), .pv (.lit (.bool false))])] }) rfl rfl rfl rfl trivial rfl ?_)
   refine rvc_un (rexec_prim C (δ := { v := .undef, wr := [(9, some (.cells [.pv (.lit (.int .i64 x.node)), .pv (.lit (.int .i64 x.site)), .pv (.lit (.bool x.fresh))]))] }) rfl rfl rfl rfl trivial rfl ?_)
   refine rvc_nil ?_
   refine Awp.consP C ?_
   refine rvP C (.ptr 9 1) ?_
   refine rvP C (.pv (.lit (.int .i64 x.site))) ?_
   refine rvP C (.pv (.lit (.int .i64 site))) ?_
   refine rvP C (.pv (.lit (.bool (x.site == site)))) ?_
   refine rvc_nil ?_
   refine Awp.cond (b := (x.site == site)) rfl (fun h6 => ?_) (fun h6 => ?_)
   ·
    replace hR := of_true h6 hR
    refine Awp.regionP C ?_
    refine rvP C (.pv (.lit (.int .u64 gone))) ?_
    refine rvP C (.ptr 9 0) ?_
    refine rvP C (.pv (.lit (.int .i64 x.node))) ?_
    refine rvc_un (rexec_call hP C rfl rfl rfl (mWith_calls gone x.node) ?_)
    refine rvP C (.pv (.lit (.int .u64 (mWith gone x.node)))) ?_
    refine rvc_nil ?_
    refine Awp.regionP C ?_
    refine rvP C (.pv (.lit (.int .i64 (IntKind.i64.wrap ((i : Int) + 1))))) ?_
    refine rvP C (.pv (.lit (.int .i64 (IntKind.i64.wrap ((i : Int) + 1))))) ?_
    refine rvc_nil ?_
    refine ⟨h4, (mWith gone x.node), ?_, ?_⟩
    · exact hR
    · exact ⟨fun b => b, WeakerR.ofL (Ks := [2, 4]) hI ⟨⟨rfl, rfl⟩, ⟨rfl, rfl⟩, ⟨rfl, rfl⟩, ⟨rfl, rfl⟩, ⟨rfl, rfl⟩, ⟨rfl, rfl⟩, ⟨lit_cast (wrap_i64 (by omega) (by omega)), rfl⟩, trivial⟩ (okH_cons rfl rfl rfl rfl (okH_cons rfl rfl rfl rfl (okH_nil))) rfl⟩
   ·
    replace hR := of_false h6 hR
    refine Awp.skip ?_
    refine Awp.regionP C ?_
    refine rvP C (.pv (.lit (.int .i64 (IntKind.i64.wrap ((i : Int) + 1))))) ?_
    refine rvP C (.pv (.lit (.int .i64 (IntKind.i64.wrap ((i : Int) + 1))))) ?_
    refine rvc_nil ?_
    refine ⟨h4, gone, ?_, ?_⟩
    · exact hR
    · exact ⟨fun b => b, WeakerR.ofL (Ks := [2, 4]) hI ⟨⟨rfl, rfl⟩, ⟨rfl, rfl⟩, ⟨rfl, rfl⟩, ⟨rfl, rfl⟩, ⟨rfl, rfl⟩, ⟨rfl, rfl⟩, ⟨lit_cast (wrap_i64 (by omega) (by omega)), rfl⟩, trivial⟩ (okH_cons rfl rfl rfl rfl (okH_cons rfl rfl rfl rfl (okH_nil))) rfl⟩
  ·
   have h4 : ¬ i < c.members.D.length := by have := of_decide_eq_false h3; omega
   rw [drop_end h4] at hR
   refine Awp.exit ?_
   refine Awp.consP C ?_
   refine rvP C (.agg [.pv (.lit (.int .i64 c.epoch)), sS (some c.members.nil) eMember c.members.D]) ?_
   refine rvP C (.pv (.lit (.int .u64 gone))) ?_
   refine rvc_un (rexec_call hP C rfl rfl rfl (without_calls c gone hl1) ?_)
   refine rvP C (.agg [.pv (.lit (.int .i64 ((without c gone).1.epoch))), sS (some (without c gone).1.members.nil) eMember ((without c gone).1.members.D)]) ?_
   refine rvP C (.pv (.lit (.int .i64 ((without c gone).2)))) ?_
   refine rvc_un (rexec_prim C (δ := { v := .undef, wr := [(4, some (.cells [.pv (.lit (.int .i64 ((without c gone).1.epoch))), sS (some (without c gone).1.members.nil) eMember ((without c gone).1.members.D)]))] }) rfl rfl rfl rfl trivial rfl ?_)
   refine rvP C (.pv (.lit (.int .i64 ((without c gone).2)))) ?_
   refine rvc_nil ?_
   refine Awp.ret ?_
   subst hR
   exact ⟨.inl rfl, rfl⟩
def again (c : Chain) (node : Int) : Chain × Int :=
  (bif ((check c) != 0) then ((Chain.mk 0 (Sl.mk true [])), (check c)) else (bif (decide ((placeIn c node) < 0)) then ((Chain.mk 0 (Sl.mk true [])), 81) else (bif (decide (c.epoch ≥ 1099511627776)) then ((Chain.mk 0 (Sl.mk true [])), 5) else ((after c (cloneMembers c.members)), 0))))
theorem again_calls (c : Chain) (node : Int) (hl1 : c.members.D.length ≤ 1000000) : PCalls Try.prog 63 [.agg [.pv (.lit (.int .i64 c.epoch)), sS (some c.members.nil) eMember c.members.D], .pv (.lit (.int .i64 node))] (.tup [.agg [.pv (.lit (.int .i64 ((again c node).1.epoch))), sS (some (again c node).1.members.nil) eMember ((again c node).1.members.D)], .pv (.lit (.int .i64 ((again c node).2)))]) := by
 generalize hR : again c node = R
 refine PCalls.of_body tabOk Try.func63 rfl rfl rfl rfl rfl mixed fun E hP C hI => ?_
 refine Awp.consP C ?_
 refine rvc_un (rexec_prim C (δ := { v := .ptr 2 0, new := [(2, .cells [.pv (.lit (.int .i64 c.epoch)), sS (some c.members.nil) eMember c.members.D])] }) rfl rfl rfl rfl trivial rfl ?_)
 refine rvc_un (rexec_prim C (δ := { v := .ptr 4 0, new := [(4, .cells [.pv (.lit (.int .i64 0)), sS (some true) eMember []])] }) rfl rfl rfl rfl trivial rfl ?_)
 refine rvP C (.pv (.lit (.int .i64 0))) ?_
 refine rvc_nil ?_
 refine Awp.seq ?_
 refine Awp.consP C ?_
 refine rvP C (.agg [.pv (.lit (.int .i64 c.epoch)), sS (some c.members.nil) eMember c.members.D]) ?_
 refine rvc_un (rexec_call hP C rfl rfl rfl (check_calls c (Nat.le_trans hl1 (by decide))) ?_)
 refine rvP C (.pv (.lit (.int .i64 (check c)))) ?_
 refine rvc_nil ?_
 refine Awp.consP C ?_
 refine rvP C (.pv (.lit (.int .i64 (check c)))) ?_
 refine rvP C (.pv (.lit (.bool ((check c) != 0)))) ?_
 refine rvc_nil ?_
 refine Awp.cond (b := ((check c) != 0)) rfl (fun h1 => ?_) (fun h1 => ?_)
 ·
  replace hR := of_true h1 hR
  refine Awp.consP C ?_
  refine rvP C (.agg [.pv (.lit (.int .i64 0)), sS (some true) eMember []]) ?_
  refine rvP C (.pv (.lit (.int .i64 (check c)))) ?_
  refine rvc_un (rexec_prim C (δ := { v := .undef, wr := [(4, some (.cells [.pv (.lit (.int .i64 0)), sS (some true) eMember []]))] }) rfl rfl rfl rfl trivial rfl ?_)
  refine rvP C (.pv (.lit (.int .i64 (check c)))) ?_
  refine rvc_nil ?_
  refine Awp.ret ?_
  subst hR
  exact ⟨.inl rfl, rfl⟩
 ·
  replace hR := of_false h1 hR
  refine Awp.skip ?_
  refine Awp.seq ?_
  refine Awp.block ?_
  refine Awp.consP C ?_
  refine rvP C (.agg [.pv (.lit (.int .i64 c.epoch)), sS (some c.members.nil) eMember c.members.D]) ?_
  refine rvP C (.pv (.lit (.int .i64 node))) ?_
  refine rvc_un (rexec_call hP C rfl rfl rfl (placeIn_calls c node (Nat.le_trans hl1 (by decide))) ?_)
  refine rvP C (.pv (.lit (.bool (decide ((placeIn c node) < 0))))) ?_
  refine rvP C (.pv (.lit (.bool (decide ((placeIn c node) < 0))))) ?_
  refine rvc_nil ?_
  refine Awp.cond (b := (decide ((placeIn c node) < 0))) rfl (fun h2 => ?_) (fun h2 => ?_)
  ·
   replace hR := of_true h2 hR
   refine Awp.consP C ?_
   refine rvP C (.agg [.pv (.lit (.int .i64 0)), sS (some true) eMember []]) ?_
   refine rvc_un (rexec_prim C (δ := { v := .undef, wr := [(4, some (.cells [.pv (.lit (.int .i64 0)), sS (some true) eMember []]))] }) rfl rfl rfl rfl trivial rfl ?_)
   refine rvP C (.pv (.lit (.int .i64 81))) ?_
   refine rvc_nil ?_
   refine Awp.ret ?_
   subst hR
   exact ⟨.inl rfl, rfl⟩
  ·
   replace hR := of_false h2 hR
   refine Awp.consP C ?_
   refine rvP C (.ptr 2 0) ?_
   refine rvP C (.pv (.lit (.int .i64 c.epoch))) ?_
   refine rvP C (.pv (.lit (.bool (decide (c.epoch ≥ 1099511627776))))) ?_
   refine rvP C (.pv (.lit (.bool (decide (c.epoch ≥ 1099511627776))))) ?_
   refine rvc_nil ?_
   refine Awp.cond (b := (decide (c.epoch ≥ 1099511627776))) rfl (fun h3 => ?_) (fun h3 => ?_)
   ·
    replace hR := of_true h3 hR
    refine Awp.consP C ?_
    refine rvP C (.agg [.pv (.lit (.int .i64 0)), sS (some true) eMember []]) ?_
    refine rvc_un (rexec_prim C (δ := { v := .undef, wr := [(4, some (.cells [.pv (.lit (.int .i64 0)), sS (some true) eMember []]))] }) rfl rfl rfl rfl trivial rfl ?_)
    refine rvP C (.pv (.lit (.int .i64 5))) ?_
    refine rvc_nil ?_
    refine Awp.ret ?_
    subst hR
    exact ⟨.inl rfl, rfl⟩
   ·
    replace hR := of_false h3 hR
    refine Awp.skip ?_
    refine Awp.consP C ?_
    refine rvP C (.agg [.pv (.lit (.int .i64 c.epoch)), sS (some c.members.nil) eMember c.members.D]) ?_
    refine rvP C (.ptr 2 1) ?_
    refine rvP C (sS (some c.members.nil) eMember c.members.D) ?_
    refine rvc_un (rexec_call hP C rfl rfl rfl (cloneMembers_calls c.members hl1) ?_)
    refine rvc_un (rexec_call hP C rfl rfl rfl (after_calls c (cloneMembers c.members)) ?_)
    refine rvc_un (rexec_prim C (δ := { v := .undef, wr := [(4, some (.cells [.pv (.lit (.int .i64 ((after c (cloneMembers c.members)).epoch))), sS (some (after c (cloneMembers c.members)).members.nil) eMember ((after c (cloneMembers c.members)).members.D)]))] }) rfl rfl rfl rfl trivial rfl ?_)
    refine rvP C (.pv (.lit (.int .i64 0))) ?_
    refine rvc_nil ?_
    refine Awp.ret ?_
    subst hR
    exact ⟨.inl rfl, rfl⟩
end Go.Proofs.Ytpgenmflgdkfiaa
/- More changes of chains. No conditions. -/
namespace Go.Proofs.Ytpgenmflgdkfiaa
open Go.Am
def ready (c : Chain) (node : Int) : Chain × Int :=
  (bif ((check c) != 0) then ((Chain.mk 0 (Sl.mk true [])), (check c)) else (bif (decide ((placeIn c node) < 0)) then ((Chain.mk 0 (Sl.mk true [])), 81) else (bif (!(c.members.D[(placeIn c node).toNat]!.fresh)) then ((Chain.mk 0 (Sl.mk true [])), 81) else ((Chain.mk c.epoch (Sl.mk false (c.members.D.set ((placeIn c node).toNat) (Member.mk (c.members.D[(placeIn c node).toNat]!.node) (c.members.D[(placeIn c node).toNat]!.site) false)))), 0))))
theorem ready_calls (c : Chain) (node : Int) (hn : c.members.nil = true → c.members.D = []) (hl1 : c.members.D.length ≤ 1000000) : PCalls Try.prog 64 [.agg [.pv (.lit (.int .i64 c.epoch)), sS (some c.members.nil) eMember c.members.D], .pv (.lit (.int .i64 node))] (.tup [.agg [.pv (.lit (.int .i64 ((ready c node).1.epoch))), sS (some (ready c node).1.members.nil) eMember ((ready c node).1.members.D)], .pv (.lit (.int .i64 ((ready c node).2)))]) := by
 generalize hR : ready c node = R
 refine PCalls.of_body tabOk Try.func64 rfl rfl rfl rfl rfl mixed fun E hP C hI => ?_
 refine Awp.consP C ?_
 refine rvc_un (rexec_prim C (δ := { v := .ptr 2 0, new := [(2, .cells [.pv (.lit (.int .i64 c.epoch)), sS (some c.members.nil) eMember c.members.D])] }) rfl rfl rfl rfl trivial rfl ?_)
 refine rvc_un (rexec_prim C (δ := { v := .ptr 4 0, new := [(4, .cells [.pv (.lit (.int .i64 0)), sS (some true) eMember []])] }) rfl rfl rfl rfl trivial rfl ?_)
 refine rvP C (.pv (.lit (.int .i64 0))) ?_
 refine rvc_nil ?_
 refine Awp.seq ?_
 refine Awp.consP C ?_
 refine rvP C (.agg [.pv (.lit (.int .i64 c.epoch)), sS (some c.members.nil) eMember c.members.D]) ?_
 refine rvc_un (rexec_call hP C rfl rfl rfl (check_calls c (Nat.le_trans hl1 (by decide))) ?_)
 refine rvP C (.pv (.lit (.int .i64 (check c)))) ?_
 refine rvc_nil ?_
 refine Awp.consP C ?_
 refine rvP C (.pv (.lit (.int .i64 (check c)))) ?_
 refine rvP C (.pv (.lit (.bool ((check c) != 0)))) ?_
 refine rvc_nil ?_
 refine Awp.cond (b := ((check c) != 0)) rfl (fun h1 => ?_) (fun h1 => ?_)
 ·
  replace hR := of_true h1 hR
  refine Awp.consP C ?_
  refine rvP C (.agg [.pv (.lit (.int .i64 0)), sS (some true) eMember []]) ?_
  refine rvP C (.pv (.lit (.int .i64 (check c)))) ?_
  refine rvc_un (rexec_prim C (δ := { v := .undef, wr := [(4, some (.cells [.pv (.lit (.int .i64 0)), sS (some true) eMember []]))] }) rfl rfl rfl rfl trivial rfl ?_)
  refine rvP C (.pv (.lit (.int .i64 (check c)))) ?_
  refine rvc_nil ?_
  refine Awp.ret ?_
  subst hR
  exact ⟨.inl rfl, rfl⟩
 ·
  replace hR := of_false h1 hR
  refine Awp.skip ?_
  refine Awp.consP C ?_
  refine rvP C (.agg [.pv (.lit (.int .i64 c.epoch)), sS (some c.members.nil) eMember c.members.D]) ?_
  refine rvP C (.pv (.lit (.int .i64 node))) ?_
  refine rvc_un (rexec_call hP C rfl rfl rfl (placeIn_calls c node (Nat.le_trans hl1 (by decide))) ?_)
  refine rvP C (.pv (.lit (.int .i64 (placeIn c node)))) ?_
  refine rvc_nil ?_
  refine Awp.seq ?_
  refine Awp.consP C ?_
  refine rvP C (.pv (.lit (.int .i64 (placeIn c node)))) ?_
  refine rvP C (.pv (.lit (.bool (decide ((placeIn c node) < 0))))) ?_
  refine rvP C (.pv (.lit (.bool (decide ((placeIn c node) < 0))))) ?_
  refine rvc_case 20 (decide ((placeIn c node) < 0)) rfl (fun h2 => ?_) (fun h2 => ?_)
  ·
   replace hR := of_true h2 hR
   refine rvS ?_
   refine rvS ?_
   refine rvS ?_
   refine rvS ?_
   refine rvS ?_
   refine rvS ?_
   refine rvS ?_
   refine rvP C (.pv (.lit (.bool true))) ?_
   refine rvc_nil ?_
   refine Awp.condT (b := true) rfl rfl ?_
   refine Awp.consP C ?_
   refine rvP C (.agg [.pv (.lit (.int .i64 0)), sS (some true) eMember []]) ?_
   refine rvc_un (rexec_prim C (δ := { v := .undef, wr := [(4, some (.cells [.pv (.lit (.int .i64 0)), sS (some true) eMember []]))] }) rfl rfl rfl rfl trivial rfl ?_)
   refine rvP C (.pv (.lit (.int .i64 81))) ?_
   refine rvc_nil ?_
   refine Awp.ret ?_
   subst hR
   exact ⟨.inl rfl, rfl⟩
  ·
   replace hR := of_false h2 hR
   refine rvO C (.ptr 2 1) ?_
   refine rvO C (sS (some c.members.nil) eMember c.members.D) ?_
   refine rvO C (.pv (.lit (.int .i64 (placeIn c node)))) ?_
   have h3 : c.members.D[(placeIn c node).toNat]? = some c.members.D[(placeIn c node).toNat]! := getE (by have := check_len (c := c); have := check_le6 (c := c); have := placeIn_lt c node; have := eq_of_bne_false h1; have := of_decide_eq_false h2; omega)
   refine rvc_open rfl rfl rfl (rexec_idxS C rfl rfl rfl rfl rfl rfl (c.members.D[(placeIn c node).toNat]!) (by have := check_len (c := c); have := check_le6 (c := c); have := placeIn_lt c node; have := eq_of_bne_false h1; have := of_decide_eq_false h2; omega) h3 ?_)
   refine rvO C (.rp [.lit (.bool (c.members.D[(placeIn c node).toNat]!.fresh))]) ?_
   refine rvO C (.pv (.lit (.bool (c.members.D[(placeIn c node).toNat]!.fresh)))) ?_
   refine rvO C (.pv (.lit (.bool (!(c.members.D[(placeIn c node).toNat]!.fresh))))) ?_
   refine rvP C (.pv (.lit (.bool (!(c.members.D[(placeIn c node).toNat]!.fresh))))) ?_
   refine rvc_nil ?_
   refine Awp.cond (b := (!(c.members.D[(placeIn c node).toNat]!.fresh))) rfl (fun h4 => ?_) (fun h4 => ?_)
   ·
    replace hR := of_true h4 hR
    refine Awp.consP C ?_
    refine rvP C (.agg [.pv (.lit (.int .i64 0)), sS (some true) eMember []]) ?_
    refine rvc_un (rexec_prim C (δ := { v := .undef, wr := [(4, some (.cells [.pv (.lit (.int .i64 0)), sS (some true) eMember []]))] }) rfl rfl rfl rfl trivial rfl ?_)
    refine rvP C (.pv (.lit (.int .i64 81))) ?_
    refine rvc_nil ?_
    refine Awp.ret ?_
    subst hR
    exact ⟨.inl rfl, rfl⟩
   ·
    replace hR := of_false h4 hR
    refine Awp.skip ?_
    refine Awp.cons C (fun _ => .quiet) (by kernel_rfl) ?_
    refine rvP C (.ptr 2 1) ?_
    refine rvP C (sS (some c.members.nil) eMember c.members.D) ?_
    refine rvc_un (rexec_callO hP C rfl rfl rfl rfl (cloneO_calls c.members (nil_false hn (by have := check_len (c := c); have := check_le6 (c := c); have := placeIn_lt c node; have := eq_of_bne_false h1; have := of_decide_eq_false h2; omega)) hl1) ?_)
    refine rvP C (.sl 32 0 c.members.D.length 3 false) ?_
    refine rvc_nil ?_
    refine Awp.consP C ?_
    refine rvP C (.sl 32 0 c.members.D.length 3 false) ?_
    refine rvP C (.pv (.lit (.int .i64 (placeIn c node)))) ?_
    refine rvc_un (rexec_prim C (δ := { v := .ptr 32 (0 + (placeIn c node).toNat * 3) }) rfl rfl rfl rfl ⟨(by have := check_len (c := c); have := check_le6 (c := c); have := placeIn_lt c node; have := eq_of_bne_false h1; have := of_decide_eq_false h2; omega), getlt h3 (by first | rfl | omega | (have := check_len (c := c); have := check_le6 (c := c); have := placeIn_lt c node; have := eq_of_bne_false h1; have := of_decide_eq_false h2; omega)) (by first | rfl | omega | simp)⟩ rfl ?_)
    refine rvP C (.ptr 32 (0 + (placeIn c node).toNat * 3 + 2)) ?_
    refine rvc_un (rexec_storeE C (e := eMember) ((placeIn c node).toNat) 2 (c.members.D[(placeIn c node).toNat]!) (Member.mk (c.members.D[(placeIn c node).toNat]!.node) (c.members.D[(placeIn c node).toNat]!.site) false) rfl rfl rfl rfl h3 (by simp [eMember]) rfl rfl rfl (of_decide_eq_true rfl) rfl ?_)
    refine rvc_nil ?_
    refine Awp.consP C ?_
    refine rvP C (.ptr 2 0) ?_
    refine rvP C (.pv (.lit (.int .i64 c.epoch))) ?_
    refine rvP C (.sl 32 0 c.members.D.length 3 false) ?_
    refine rvP C (.agg [.pv (.lit (.int .i64 c.epoch)), .sl 32 0 c.members.D.length 3 false]) ?_
    refine rvc_un (rexec_prim C (δ := { v := .undef, wr := [(4, some (.cells [.pv (.lit (.int .i64 c.epoch)), .sl 32 0 c.members.D.length 3 false]))] }) rfl rfl rfl rfl trivial rfl ?_)
    refine rvP C (.pv (.lit (.int .i64 0))) ?_
    refine rvc_nil ?_
    refine Awp.freezeW 32 (encL eMember (c.members.D.set ((placeIn c node).toNat) (Member.mk (c.members.D[(placeIn c node).toNat]!.node) (c.members.D[(placeIn c node).toNat]!.site) false))) ?_ [(4, .ptr 4 0), (5, .pv (.lit (.int .i64 0)))] [(2, .cells [.pv (.lit (.int .i64 c.epoch)), sS (some c.members.nil) eMember c.members.D]), (4, .cells [.pv (.lit (.int .i64 c.epoch)), sS (some false) eMember (c.members.D.set ((placeIn c node).toNat) (Member.mk (c.members.D[(placeIn c node).toNat]!.node) (c.members.D[(placeIn c node).toNat]!.site) false))])] ?_ ?_ ?_
    · rfl
    · exact ⟨⟨_, rfl, .inl (.inl rfl)⟩, ⟨_, rfl, .inl (.inl rfl)⟩, trivial⟩
    · exact ⟨⟨(by show (2 : Nat) ≠ 32; decide), .inl rfl⟩, ⟨(by show (4 : Nat) ≠ 32; decide), .inr ⟨_, _, rfl, rfl, ⟨.inl rfl, .inr ⟨_, _, _, rfl, by simp [sS]⟩, trivial⟩⟩⟩, trivial⟩
    refine Awp.ret ?_
    subst hR
    exact ⟨.inl rfl, rfl⟩
end Go.Proofs.Ytpgenmflgdkfiaa
/- The ledger: small functions. No conditions. -/
namespace Go.Proofs.Ytpgenmflgdkfiaa
open Go.Am
structure Past where
  all : (Sl Chain)
  deriving Inhabited
structure Ledger where
  past : Past
  chain : Chain
  at_ : Int
  deriving Inhabited
def copied (c : Chain) : Chain :=
  (Chain.mk c.epoch (cloneMembers c.members))
theorem copied_calls (c : Chain) (hl1 : c.members.D.length ≤ 1000000) : PCalls Try.prog 42 [.agg [.pv (.lit (.int .i64 c.epoch)), sS (some c.members.nil) eMember c.members.D]] (.agg [.pv (.lit (.int .i64 ((copied c).epoch))), sS (some (copied c).members.nil) eMember ((copied c).members.D)]) := by
 generalize hR : copied c = R
 refine PCalls.of_body tabOk Try.func42 rfl rfl rfl rfl rfl mixed fun E hP C hI => ?_
 refine Awp.consP C ?_
 refine rvc_un (rexec_prim C (δ := { v := .ptr 1 0, new := [(1, .cells [.pv (.lit (.int .i64 c.epoch)), sS (some c.members.nil) eMember c.members.D])] }) rfl rfl rfl rfl trivial rfl ?_)
 refine rvc_un (rexec_prim C (δ := { v := .ptr 2 0, new := [(2, .cells [.pv (.lit (.int .i64 0)), sS (some true) eMember []])] }) rfl rfl rfl rfl trivial rfl ?_)
 refine rvc_nil ?_
 refine Awp.consP C ?_
 refine rvP C (.ptr 1 1) ?_
 refine rvP C (sS (some c.members.nil) eMember c.members.D) ?_
 refine rvc_un (rexec_call hP C rfl rfl rfl (cloneMembers_calls c.members hl1) ?_)
 refine rvP C (.ptr 1 1) ?_
 refine rvc_un (rexec_prim C (δ := { v := .undef, wr := [(1, some (.cells [.pv (.lit (.int .i64 c.epoch)), sS (some (cloneMembers c.members).nil) eMember ((cloneMembers c.members).D)]))] }) rfl rfl rfl rfl trivial rfl ?_)
 refine rvc_nil ?_
 refine Awp.consP C ?_
 refine rvP C (.agg [.pv (.lit (.int .i64 c.epoch)), sS (some (cloneMembers c.members).nil) eMember ((cloneMembers c.members).D)]) ?_
 refine rvc_un (rexec_prim C (δ := { v := .undef, wr := [(2, some (.cells [.pv (.lit (.int .i64 c.epoch)), sS (some (cloneMembers c.members).nil) eMember ((cloneMembers c.members).D)]))] }) rfl rfl rfl rfl trivial rfl ?_)
 refine rvc_nil ?_
 refine Awp.ret ?_
 subst hR
 exact ⟨.inl rfl, rfl⟩
def nextL (c : Chain) (k : Command) : Chain × Int :=
  (bif (k.epoch != c.epoch) then ((Chain.mk 0 (Sl.mk true [])), 150) else (bif (k.kind == 1) then ((drop c k.node).1, (drop c k.node).2) else (bif (k.kind == 5) then ((dropSite c k.site).1, (dropSite c k.site).2) else (bif (k.kind == 2) then ((join c (Member.mk k.node k.site false)).1, (join c (Member.mk k.node k.site false)).2) else (bif (k.kind == 3) then ((again c k.node).1, (again c k.node).2) else ((ready c k.node).1, (ready c k.node).2))))))
theorem nextL_calls (c : Chain) (k : Command) (hn : c.members.nil = true → c.members.D = []) (hl1 : c.members.D.length ≤ 1000000) : PCalls Try.prog 43 [.agg [.pv (.lit (.int .i64 c.epoch)), sS (some c.members.nil) eMember c.members.D], .agg [.pv (.lit (.int .i64 k.kind)), .pv (.lit (.int .i64 k.node)), .pv (.lit (.int .i64 k.site)), .pv (.lit (.int .i64 k.epoch))]] (.tup [.agg [.pv (.lit (.int .i64 ((nextL c k).1.epoch))), sS (some (nextL c k).1.members.nil) eMember ((nextL c k).1.members.D)], .pv (.lit (.int .i64 ((nextL c k).2)))]) := by
 generalize hR : nextL c k = R
 refine PCalls.of_body tabOk Try.func43 rfl rfl rfl rfl rfl mixed fun E hP C hI => ?_
 refine Awp.consP C ?_
 refine rvc_un (rexec_prim C (δ := { v := .ptr 2 0, new := [(2, .cells [.pv (.lit (.int .i64 c.epoch)), sS (some c.members.nil) eMember c.members.D])] }) rfl rfl rfl rfl trivial rfl ?_)
 refine rvc_un (rexec_prim C (δ := { v := .ptr 3 0, new := [(3, .cells [.pv (.lit (.int .i64 k.kind)), .pv (.lit (.int .i64 k.node)), .pv (.lit (.int .i64 k.site)), .pv (.lit (.int .i64 k.epoch))])] }) rfl rfl rfl rfl trivial rfl ?_)
 refine rvc_un (rexec_prim C (δ := { v := .ptr 4 0, new := [(4, .cells [.pv (.lit (.int .i64 0)), sS (some true) eMember []])] }) rfl rfl rfl rfl trivial rfl ?_)
 refine rvP C (.pv (.lit (.int .i64 0))) ?_
 refine rvc_nil ?_
 refine Awp.seq ?_
 refine Awp.consP C ?_
 refine rvP C (.ptr 3 3) ?_
 refine rvP C (.pv (.lit (.int .i64 k.epoch))) ?_
 refine rvP C (.ptr 2 0) ?_
 refine rvP C (.pv (.lit (.int .i64 c.epoch))) ?_
 refine rvP C (.pv (.lit (.bool (k.epoch != c.epoch)))) ?_
 refine rvc_nil ?_
 refine Awp.cond (b := (k.epoch != c.epoch)) rfl (fun h1 => ?_) (fun h1 => ?_)
 ·
  replace hR := of_true h1 hR
  refine Awp.consP C ?_
  refine rvP C (.agg [.pv (.lit (.int .i64 0)), sS (some true) eMember []]) ?_
  refine rvc_un (rexec_prim C (δ := { v := .undef, wr := [(4, some (.cells [.pv (.lit (.int .i64 0)), sS (some true) eMember []]))] }) rfl rfl rfl rfl trivial rfl ?_)
  refine rvP C (.pv (.lit (.int .i64 150))) ?_
  refine rvc_nil ?_
  refine Awp.ret ?_
  subst hR
  exact ⟨.inl rfl, rfl⟩
 ·
  replace hR := of_false h1 hR
  refine Awp.skip ?_
  refine Awp.seq ?_
  refine Awp.consP C ?_
  refine rvP C (.ptr 3 0) ?_
  refine rvP C (.pv (.lit (.int .i64 k.kind))) ?_
  refine rvc_nil ?_
  refine Awp.block ?_
  refine Awp.consP C ?_
  refine rvP C (.pv (.lit (.bool (k.kind == 1)))) ?_
  refine rvP C (.pv (.lit (.bool (k.kind == 1)))) ?_
  refine rvc_nil ?_
  refine Awp.cond (b := (k.kind == 1)) rfl (fun h2 => ?_) (fun h2 => ?_)
  ·
   replace hR := of_true h2 hR
   refine Awp.consP C ?_
   refine rvP C (.agg [.pv (.lit (.int .i64 c.epoch)), sS (some c.members.nil) eMember c.members.D]) ?_
   refine rvP C (.ptr 3 1) ?_
   refine rvP C (.pv (.lit (.int .i64 k.node))) ?_
   refine rvc_un (rexec_call hP C rfl rfl rfl (drop_calls c k.node hl1) ?_)
   refine rvP C (.agg [.pv (.lit (.int .i64 ((drop c k.node).1.epoch))), sS (some (drop c k.node).1.members.nil) eMember ((drop c k.node).1.members.D)]) ?_
   refine rvP C (.pv (.lit (.int .i64 ((drop c k.node).2)))) ?_
   refine rvc_un (rexec_prim C (δ := { v := .undef, wr := [(4, some (.cells [.pv (.lit (.int .i64 ((drop c k.node).1.epoch))), sS (some (drop c k.node).1.members.nil) eMember ((drop c k.node).1.members.D)]))] }) rfl rfl rfl rfl trivial rfl ?_)
   refine rvP C (.pv (.lit (.int .i64 ((drop c k.node).2)))) ?_
   refine rvc_nil ?_
   refine Awp.ret ?_
   subst hR
   exact ⟨.inl rfl, rfl⟩
  ·
   replace hR := of_false h2 hR
   refine Awp.consP C ?_
   refine rvP C (.pv (.lit (.bool (k.kind == 5)))) ?_
   refine rvP C (.pv (.lit (.bool (k.kind == 5)))) ?_
   refine rvc_nil ?_
   refine Awp.cond (b := (k.kind == 5)) rfl (fun h3 => ?_) (fun h3 => ?_)
   ·
    replace hR := of_true h3 hR
    refine Awp.consP C ?_
    refine rvP C (.agg [.pv (.lit (.int .i64 c.epoch)), sS (some c.members.nil) eMember c.members.D]) ?_
    refine rvP C (.ptr 3 2) ?_
    refine rvP C (.pv (.lit (.int .i64 k.site))) ?_
    refine rvc_un (rexec_call hP C rfl rfl rfl (dropSite_calls c k.site hl1) ?_)
    refine rvP C (.agg [.pv (.lit (.int .i64 ((dropSite c k.site).1.epoch))), sS (some (dropSite c k.site).1.members.nil) eMember ((dropSite c k.site).1.members.D)]) ?_
    refine rvP C (.pv (.lit (.int .i64 ((dropSite c k.site).2)))) ?_
    refine rvc_un (rexec_prim C (δ := { v := .undef, wr := [(4, some (.cells [.pv (.lit (.int .i64 ((dropSite c k.site).1.epoch))), sS (some (dropSite c k.site).1.members.nil) eMember ((dropSite c k.site).1.members.D)]))] }) rfl rfl rfl rfl trivial rfl ?_)
    refine rvP C (.pv (.lit (.int .i64 ((dropSite c k.site).2)))) ?_
    refine rvc_nil ?_
    refine Awp.ret ?_
    subst hR
    exact ⟨.inl rfl, rfl⟩
   ·
    replace hR := of_false h3 hR
    refine Awp.consP C ?_
    refine rvP C (.pv (.lit (.bool (k.kind == 2)))) ?_
    refine rvP C (.pv (.lit (.bool (k.kind == 2)))) ?_
    refine rvc_nil ?_
    refine Awp.cond (b := (k.kind == 2)) rfl (fun h4 => ?_) (fun h4 => ?_)
    ·
     replace hR := of_true h4 hR
     refine Awp.consP C ?_
     refine rvP C (.agg [.pv (.lit (.int .i64 c.epoch)), sS (some c.members.nil) eMember c.members.D]) ?_
     refine rvP C (.ptr 3 1) ?_
     refine rvP C (.pv (.lit (.int .i64 k.node))) ?_
     refine rvP C (.ptr 3 2) ?_
     refine rvP C (.pv (.lit (.int .i64 k.site))) ?_
     refine rvP C (.agg [.pv (.lit (.int .i64 k.node)), .pv (.lit (.int .i64 k.site)), .pv (.lit (.bool false))]) ?_
     refine rvc_un (rexec_call hP C rfl rfl rfl (join_calls c (Member.mk k.node k.site false) hn hl1) ?_)
     refine rvP C (.agg [.pv (.lit (.int .i64 ((join c (Member.mk k.node k.site false)).1.epoch))), sS (some (join c (Member.mk k.node k.site false)).1.members.nil) eMember ((join c (Member.mk k.node k.site false)).1.members.D)]) ?_
     refine rvP C (.pv (.lit (.int .i64 ((join c (Member.mk k.node k.site false)).2)))) ?_
     refine rvc_un (rexec_prim C (δ := { v := .undef, wr := [(4, some (.cells [.pv (.lit (.int .i64 ((join c (Member.mk k.node k.site false)).1.epoch))), sS (some (join c (Member.mk k.node k.site false)).1.members.nil) eMember ((join c (Member.mk k.node k.site false)).1.members.D)]))] }) rfl rfl rfl rfl trivial rfl ?_)
     refine rvP C (.pv (.lit (.int .i64 ((join c (Member.mk k.node k.site false)).2)))) ?_
     refine rvc_nil ?_
     refine Awp.ret ?_
     subst hR
     exact ⟨.inl rfl, rfl⟩
    ·
     replace hR := of_false h4 hR
     refine Awp.consP C ?_
     refine rvP C (.pv (.lit (.bool (k.kind == 3)))) ?_
     refine rvP C (.pv (.lit (.bool (k.kind == 3)))) ?_
     refine rvc_nil ?_
     refine Awp.cond (b := (k.kind == 3)) rfl (fun h5 => ?_) (fun h5 => ?_)
     ·
      replace hR := of_true h5 hR
      refine Awp.consP C ?_
      refine rvP C (.agg [.pv (.lit (.int .i64 c.epoch)), sS (some c.members.nil) eMember c.members.D]) ?_
      refine rvP C (.ptr 3 1) ?_
      refine rvP C (.pv (.lit (.int .i64 k.node))) ?_
      refine rvc_un (rexec_call hP C rfl rfl rfl (again_calls c k.node hl1) ?_)
      refine rvP C (.agg [.pv (.lit (.int .i64 ((again c k.node).1.epoch))), sS (some (again c k.node).1.members.nil) eMember ((again c k.node).1.members.D)]) ?_
      refine rvP C (.pv (.lit (.int .i64 ((again c k.node).2)))) ?_
      refine rvc_un (rexec_prim C (δ := { v := .undef, wr := [(4, some (.cells [.pv (.lit (.int .i64 ((again c k.node).1.epoch))), sS (some (again c k.node).1.members.nil) eMember ((again c k.node).1.members.D)]))] }) rfl rfl rfl rfl trivial rfl ?_)
      refine rvP C (.pv (.lit (.int .i64 ((again c k.node).2)))) ?_
      refine rvc_nil ?_
      refine Awp.ret ?_
      subst hR
      exact ⟨.inl rfl, rfl⟩
     ·
      replace hR := of_false h5 hR
      refine Awp.skip ?_
      refine Awp.consP C ?_
      refine rvP C (.agg [.pv (.lit (.int .i64 c.epoch)), sS (some c.members.nil) eMember c.members.D]) ?_
      refine rvP C (.ptr 3 1) ?_
      refine rvP C (.pv (.lit (.int .i64 k.node))) ?_
      refine rvc_un (rexec_call hP C rfl rfl rfl (ready_calls c k.node hn hl1) ?_)
      refine rvP C (.agg [.pv (.lit (.int .i64 ((ready c k.node).1.epoch))), sS (some (ready c k.node).1.members.nil) eMember ((ready c k.node).1.members.D)]) ?_
      refine rvP C (.pv (.lit (.int .i64 ((ready c k.node).2)))) ?_
      refine rvc_un (rexec_prim C (δ := { v := .undef, wr := [(4, some (.cells [.pv (.lit (.int .i64 ((ready c k.node).1.epoch))), sS (some (ready c k.node).1.members.nil) eMember ((ready c k.node).1.members.D)]))] }) rfl rfl rfl rfl trivial rfl ?_)
      refine rvP C (.pv (.lit (.int .i64 ((ready c k.node).2)))) ?_
      refine rvc_nil ?_
      refine Awp.ret ?_
      subst hR
      exact ⟨.inl rfl, rfl⟩
def indexFuncC_l0 (f : Chain → Bool) : List Chain → Nat → Int
  | [], _ => (-1)
  | x :: xs, i => (bif (f x) then (i : Int) else indexFuncC_l0 f xs (i + 1) )
def indexFuncC (s : (Sl Chain)) (f : Chain → Bool) : Int :=
  indexFuncC_l0 f s.D 0
theorem indexFuncC_calls (s : (Sl Chain)) (f : Chain → Bool) (g1 : Nat) (caps1 : List AV) (hp1 : ∀ (x0 : Chain), PCalls Try.prog g1 ([.agg [.pv (.lit (.int .i64 x0.epoch)), sS (some x0.members.nil) eMember x0.members.D]] ++ caps1) (.pv (.lit (.bool (f x0))))) (hw1 : AV.withinL (fun _ => false) caps1 = true) (hl1 : s.D.length ≤ 1000000) : PCalls Try.prog 75 [sS (some s.nil) eChain s.D, .fn g1 [] caps1] (.pv (.lit (.int .i64 (indexFuncC s f)))) := by
 generalize hR : indexFuncC s f = R
 refine PCalls.of_body tabOk Try.func75 rfl rfl rfl (by simp [AV.withinL, AV.within, sS, hw1]) rfl mixed fun E hP C hI => ?_
 refine Awp.consP C ?_
 refine rvP C (.pv (.lit (.int .i64 0))) ?_
 refine rvc_nil ?_
 refine Awp.seq ?_
 refine Awp.consP C ?_
 refine rvP C (sS (some s.nil) eChain s.D) ?_
 refine rvP C (.pv (.lit (.int .i64 (s.D.length : Int)))) ?_
 refine rvP C (.pv (.lit (.int .i64 0))) ?_
 refine rvc_nil ?_
 refine Awp.block ?_
 refine Awp.forR (σ := Unit) (s.D.length) (fun i _v => [(0, sS (some s.nil) eChain s.D), (1, .fn g1 [] caps1), (7, .pv (.lit (.int .i64 (s.D.length : Int)))), (8, .pv (.lit (.int .i64 (i : Int))))]) (fun i _v => []) [] (fun i _v => indexFuncC_l0 f (s.D.drop i) i  = R) () ?_ ?_ (fun i _v h1 hR => ?_)
 · exact hR
 · exact ⟨fun b => b, WeakerR.ofL (Ks := []) hI ⟨⟨rfl, rfl⟩, ⟨fn_to rfl hw1, fn_win hw1⟩, ⟨rfl, rfl⟩, ⟨rfl, rfl⟩, trivial⟩ (okH_nil) rfl⟩
 refine Awp.consP C ?_
 refine rvP C (.pv (.lit (.bool (decide ((i : Int) < (s.D.length : Int)))))) ?_
 refine rvc_nil ?_
 refine Awp.seq ?_
 refine Awp.cond (b := (decide ((i : Int) < (s.D.length : Int)))) rfl (fun h2 => ?_) (fun h2 => ?_)
 ·
  have h3 : i < s.D.length := by have := of_decide_eq_true h2; omega
  obtain ⟨x, h4⟩ := getX h3
  rw [drop_at h4] at hR
  refine Awp.skip ?_
  refine Awp.seq ?_
  refine Awp.block ?_
  refine Awp.consP C ?_
  refine rvP C (.pv (.lit (.int .i64 (i : Int)))) ?_
  refine rvP C (.pv (.lit (.int .i64 (i : Int)))) ?_
  refine rvc_nil ?_
  refine Awp.consP C ?_
  refine rvP C (.fn g1 [] caps1) ?_
  refine rvP C (sS (some s.nil) eChain s.D) ?_
  refine rvP C (.pv (.lit (.int .i64 (i : Int)))) ?_
  refine rvc_un (rexec_idxS C rfl rfl rfl rfl rfl rfl x (Int.natCast_nonneg _) h4 ?_)
  refine rvP C (.agg [.pv (.lit (.int .i64 x.epoch)), sS (some x.members.nil) eMember x.members.D]) ?_
  refine rvc_un (rexec_callV hP C rfl rfl rfl rfl (hp1 x) rfl ?_)
  refine rvc_nil ?_
  refine Awp.cond (b := (f x)) rfl (fun h5 => ?_) (fun h5 => ?_)
  ·
   replace hR := of_true h5 hR
   refine Awp.consP C ?_
   refine rvP C (.pv (.lit (.int .i64 (i : Int)))) ?_
   refine rvP C (.pv (.lit (.int .i64 (i : Int)))) ?_
   refine rvc_nil ?_
   refine Awp.ret ?_
   subst hR
   exact ⟨.inl rfl, rfl⟩
  ·
   replace hR := of_false h5 hR
   refine Awp.skip ?_
   refine Awp.regionP C ?_
   refine rvP C (.pv (.lit (.int .i64 (IntKind.i64.wrap ((i : Int) + 1))))) ?_
   refine rvP C (.pv (.lit (.int .i64 (IntKind.i64.wrap ((i : Int) + 1))))) ?_
   refine rvc_nil ?_
   refine ⟨h3, (), ?_, ?_⟩
   · exact hR
   · exact ⟨fun b => b, WeakerR.ofL (Ks := []) hI ⟨⟨rfl, rfl⟩, ⟨fn_to rfl hw1, fn_win hw1⟩, ⟨rfl, rfl⟩, ⟨lit_cast (wrap_i64 (by omega) (by omega)), rfl⟩, trivial⟩ (okH_nil) rfl⟩
 ·
  have h3 : ¬ i < s.D.length := by have := of_decide_eq_false h2; omega
  rw [drop_end h3] at hR
  refine Awp.exit ?_
  refine Awp.consP C ?_
  refine rvP C (.pv (.lit (.int .i64 (-1)))) ?_
  refine rvc_nil ?_
  refine Awp.ret ?_
  subst hR
  exact ⟨.inl rfl, rfl⟩
def pastF (c : Chain) (c0 : Int) : Bool :=
  (c.epoch == c0)
theorem pastF_calls (c : Chain) (c0 : Int)  : PCalls Try.prog 76 [.agg [.pv (.lit (.int .i64 c.epoch)), sS (some c.members.nil) eMember c.members.D], .rp [.lit (.int .i64 c0)]] (.pv (.lit (.bool (pastF c c0)))) := by
 generalize hR : pastF c c0 = R
 refine PCalls.of_body tabOk Try.func76 rfl rfl rfl rfl rfl mixed fun E hP C hI => ?_
 refine Awp.consP C ?_
 refine rvc_un (rexec_prim C (δ := { v := .ptr 2 0, new := [(2, .cells [.pv (.lit (.int .i64 c.epoch)), sS (some c.members.nil) eMember c.members.D])] }) rfl rfl rfl rfl trivial rfl ?_)
 refine rvP C (.pv (.lit (.bool false))) ?_
 refine rvc_nil ?_
 refine Awp.consP C ?_
 refine rvP C (.ptr 2 0) ?_
 refine rvP C (.pv (.lit (.int .i64 c.epoch))) ?_
 refine rvP C (.pv (.lit (.int .i64 c0))) ?_
 refine rvP C (.pv (.lit (.bool (c.epoch == c0)))) ?_
 refine rvP C (.pv (.lit (.bool (c.epoch == c0)))) ?_
 refine rvc_nil ?_
 refine Awp.ret ?_
 subst hR
 exact ⟨.inl rfl, rfl⟩
def lDead (l : Ledger) : Bool :=
  (l.chain.epoch == 0)
theorem lDead_calls (l : Ledger)  : MCalls Try.prog 41 [.ptr 0 0] (.cells [sS (some l.past.all.nil) eChain l.past.all.D, .pv (.lit (.int .i64 l.chain.epoch)), sS (some l.chain.members.nil) eMember l.chain.members.D, .pv (.lit (.int .i64 l.at_))]) (.pv (.lit (.bool (lDead l)))) (.cells [sS (some l.past.all.nil) eChain l.past.all.D, .pv (.lit (.int .i64 l.chain.epoch)), sS (some l.chain.members.nil) eMember l.chain.members.D, .pv (.lit (.int .i64 l.at_))]) := by
 generalize hR : lDead l = R
 refine MCalls.of_body tabOk Try.func41 rfl rfl rfl rfl rfl rfl rfl mixed fun E hP C hI => ?_
 refine Awp.consP C ?_
 refine rvP C (.pv (.lit (.bool false))) ?_
 refine rvc_nil ?_
 refine Awp.consP C ?_
 refine rvP C (.ptr 0 0) ?_
 refine rvc_un (rexec_eqPtr C false true (z := .pv (.lit (.bool false))) rfl rfl rfl rfl rfl rfl rfl rfl rfl ?_)
 refine rvP C (.pv (.lit (.bool false))) ?_
 refine rvO C (.ptr 0 0) ?_
 refine rvO C (.ptr 0 0) ?_
 refine rvO C (.ptr 0 1) ?_
 refine rvO C (.ptr 0 1) ?_
 refine rvO C (.pv (.lit (.int .i64 l.chain.epoch))) ?_
 refine rvO C (.pv (.lit (.bool (l.chain.epoch == 0)))) ?_
 refine rvP C (.pv (.lit (.bool (l.chain.epoch == 0)))) ?_
 refine rvP C (.pv (.lit (.bool (l.chain.epoch == 0)))) ?_
 refine rvc_nil ?_
 refine Awp.ret ?_
 subst hR
 exact ⟨.inl rfl, rfl, rfl⟩
def lAt (l : Ledger) : Int :=
  (bif (lDead l) then 0 else l.at_)
theorem lAt_calls (l : Ledger)  : MCalls Try.prog 17 [.ptr 0 0] (.cells [sS (some l.past.all.nil) eChain l.past.all.D, .pv (.lit (.int .i64 l.chain.epoch)), sS (some l.chain.members.nil) eMember l.chain.members.D, .pv (.lit (.int .i64 l.at_))]) (.pv (.lit (.int .i64 (lAt l)))) (.cells [sS (some l.past.all.nil) eChain l.past.all.D, .pv (.lit (.int .i64 l.chain.epoch)), sS (some l.chain.members.nil) eMember l.chain.members.D, .pv (.lit (.int .i64 l.at_))]) := by
 generalize hR : lAt l = R
 refine MCalls.of_body tabOk Try.func17 rfl rfl rfl rfl rfl rfl rfl mixed fun E hP C hI => ?_
 refine Awp.consP C ?_
 refine rvP C (.pv (.lit (.int .i64 0))) ?_
 refine rvc_nil ?_
 refine Awp.seq ?_
 refine Awp.cons C (fun _ => .writer) (by kernel_rfl) ?_
 refine rvP C (.ptr 0 0) ?_
 refine rvc_un (rexec_callM hP C (b := 0) rfl rfl rfl (lDead_calls l) rfl rfl ?_)
 refine rvc_nil ?_
 refine Awp.cond (b := (lDead l)) rfl (fun h1 => ?_) (fun h1 => ?_)
 ·
  replace hR := of_true h1 hR
  refine Awp.consP C ?_
  refine rvP C (.pv (.lit (.int .i64 0))) ?_
  refine rvc_nil ?_
  refine Awp.ret ?_
  subst hR
  exact ⟨.inl rfl, rfl, rfl⟩
 ·
  replace hR := of_false h1 hR
  refine Awp.skip ?_
  refine Awp.consP C ?_
  refine rvP C (.ptr 0 0) ?_
  refine rvP C (.ptr 0 0) ?_
  refine rvP C (.ptr 0 3) ?_
  refine rvP C (.pv (.lit (.int .i64 l.at_))) ?_
  refine rvP C (.pv (.lit (.int .i64 l.at_))) ?_
  refine rvc_nil ?_
  refine Awp.ret ?_
  subst hR
  exact ⟨.inl rfl, rfl, rfl⟩
def lChain (l : Ledger) : Chain :=
  (bif (lDead l) then (Chain.mk 0 (Sl.mk true [])) else (copied l.chain))
theorem lChain_calls (l : Ledger) (hl1 : l.chain.members.D.length ≤ 1000000) : MCalls Try.prog 14 [.ptr 0 0] (.cells [sS (some l.past.all.nil) eChain l.past.all.D, .pv (.lit (.int .i64 l.chain.epoch)), sS (some l.chain.members.nil) eMember l.chain.members.D, .pv (.lit (.int .i64 l.at_))]) (.agg [.pv (.lit (.int .i64 ((lChain l).epoch))), sS (some (lChain l).members.nil) eMember ((lChain l).members.D)]) (.cells [sS (some l.past.all.nil) eChain l.past.all.D, .pv (.lit (.int .i64 l.chain.epoch)), sS (some l.chain.members.nil) eMember l.chain.members.D, .pv (.lit (.int .i64 l.at_))]) := by
 generalize hR : lChain l = R
 refine MCalls.of_body tabOk Try.func14 rfl rfl rfl rfl rfl rfl rfl mixed fun E hP C hI => ?_
 refine Awp.consP C ?_
 refine rvc_un (rexec_prim C (δ := { v := .ptr 2 0, new := [(2, .cells [.pv (.lit (.int .i64 0)), sS (some true) eMember []])] }) rfl rfl rfl rfl trivial rfl ?_)
 refine rvc_nil ?_
 refine Awp.seq ?_
 refine Awp.cons C (fun _ => .writer) (by kernel_rfl) ?_
 refine rvP C (.ptr 0 0) ?_
 refine rvc_un (rexec_callM hP C (b := 0) rfl rfl rfl (lDead_calls l) rfl rfl ?_)
 refine rvc_nil ?_
 refine Awp.cond (b := (lDead l)) rfl (fun h1 => ?_) (fun h1 => ?_)
 ·
  replace hR := of_true h1 hR
  refine Awp.consP C ?_
  refine rvP C (.agg [.pv (.lit (.int .i64 0)), sS (some true) eMember []]) ?_
  refine rvc_un (rexec_prim C (δ := { v := .undef, wr := [(2, some (.cells [.pv (.lit (.int .i64 0)), sS (some true) eMember []]))] }) rfl rfl rfl rfl trivial rfl ?_)
  refine rvc_nil ?_
  refine Awp.ret ?_
  subst hR
  exact ⟨.inl rfl, rfl, rfl⟩
 ·
  replace hR := of_false h1 hR
  refine Awp.skip ?_
  refine Awp.consP C ?_
  refine rvP C (.ptr 0 0) ?_
  refine rvP C (.ptr 0 0) ?_
  refine rvP C (.ptr 0 1) ?_
  refine rvP C (.agg [.pv (.lit (.int .i64 l.chain.epoch)), sS (some l.chain.members.nil) eMember l.chain.members.D]) ?_
  refine rvc_un (rexec_call hP C rfl rfl rfl (copied_calls l.chain hl1) ?_)
  refine rvc_un (rexec_prim C (δ := { v := .undef, wr := [(2, some (.cells [.pv (.lit (.int .i64 ((copied l.chain).epoch))), sS (some (copied l.chain).members.nil) eMember ((copied l.chain).members.D)]))] }) rfl rfl rfl rfl trivial rfl ?_)
  refine rvc_nil ?_
  refine Awp.ret ?_
  subst hR
  exact ⟨.inl rfl, rfl, rfl⟩
end Go.Proofs.Ytpgenmflgdkfiaa
/- Chains in plain Lean: what chapter 8 shows of them. No conditions. -/
namespace Go.Proofs.Ytpgenmflgdkfiaa
open Go.Am
theorem indexFunc_l0_eq (n : Int) : ∀ (l : List Member) (i : Nat), indexFunc_l0 (fun x0 => placeF x0 n) l i = rPlace_l0 n l i
  | [], _ => rfl
  | x :: l, i => by
    show (bif x.node == n then (i : Int) else indexFunc_l0 (fun x0 => placeF x0 n) l (i + 1)) = _
    rw [indexFunc_l0_eq n l (i + 1)]; rfl
theorem place_eq (c : Chain) (n : Int) : place0 c n = rPlace c n := by
  unfold place0 rPlace placeIn indexFunc
  rw [check_eq, indexFunc_l0_eq]
def bitsOf (p : Member → Bool) (l : List Member) (S : Nat) : Nat := l.foldl (fun S x => if p x && mIn x.node then S ||| 2 ^ x.node.toNat else S) S
theorem in_iff (n : Int) : mIn n = true ↔ 0 ≤ n ∧ n < 64 := by
  unfold mIn
  by_cases h1 : n ≥ 0 <;> by_cases h2 : n < 64 <;> simp [h1, h2] <;> omega
theorem with_cast {S : Nat} (hS : S < 18446744073709551616) (n : Int) : mWith (S : Int) n = ((if mIn n then S ||| 2 ^ n.toNat else S : Nat) : Int) := by
  cases h : mIn n
  · rw [with_out h]; simp
  · obtain ⟨h1, h2⟩ := (in_iff n).1 h
    obtain ⟨k, rfl⟩ : ∃ k : Nat, n = (k : Int) := ⟨n.toNat, by omega⟩
    rw [with_nat hS (by omega)]; simp
theorem with_cast_lt {S : Nat} (hS : S < 18446744073709551616) (n : Int) : (if mIn n then S ||| 2 ^ n.toNat else S : Nat) < 18446744073709551616 := by
  cases h : mIn n
  · simpa using hS
  · obtain ⟨h1, h2⟩ := (in_iff n).1 h
    simp only [if_true]
    exact with_lt hS (by omega)
theorem nodes_l0_eq : ∀ (l : List Member) (i S : Nat), S < 18446744073709551616 → nodes_l0 l i (S : Int) = (bitsOf (fun _ => true) l S : Nat) ∧ bitsOf (fun _ => true) l S < 18446744073709551616
  | [], _, S, hS => ⟨rfl, hS⟩
  | x :: l, i, S, hS => by
    have := nodes_l0_eq l (i + 1) _ (with_cast_lt hS x.node)
    simp only [nodes_l0, with_cast hS, this.1]
    simp only [bitsOf, List.foldl_cons, Bool.true_and] at this ⊢
    exact ⟨trivial, this.2⟩
theorem bits_test (p : Member → Bool) {n : Nat} (hn : n < 64) : ∀ (l : List Member) (S : Nat), (bitsOf p l S).testBit n = (S.testBit n || l.any fun x => x.node == (n : Int) && p x)
  | [], S => by simp [bitsOf]
  | x :: l, S => by
    have h : bitsOf p (x :: l) S = bitsOf p l (if p x && mIn x.node then S ||| 2 ^ x.node.toNat else S) := rfl
    rw [h, bits_test p hn l, List.any_cons]
    by_cases hx : x.node = (n : Int)
    · have hin : mIn x.node = true := (in_iff _).2 (by omega)
      rw [hin, hx]
      cases p x <;> simp [Nat.testBit_or]
    · have e : (x.node == (n : Int)) = false := by simpa using hx
      rw [e]
      cases hp : p x && mIn x.node
      · simp
      · have hin : mIn x.node = true := by simp only [Bool.and_eq_true] at hp; exact hp.2
        obtain ⟨h1, h2⟩ := (in_iff _).1 hin
        have : x.node.toNat ≠ n := by omega
        simp [Nat.testBit_or, this]
theorem ok_apart : ∀ (l pre : List Member), okFrom pre l = true → ∀ y ∈ l, ∀ z ∈ pre, z.node ≠ y.node
  | [], _, _, y, hy, _, _ => by cases hy
  | x :: l, pre, h, y, hy, z, hz => by
    simp only [okFrom, Bool.and_eq_true] at h
    obtain ⟨⟨_, h2⟩, h3⟩ := h
    cases hy with
    | head =>
      have := List.all_eq_true.1 h2 z hz
      simp at this
      exact this.1
    | tail _ hm => exact ok_apart l (pre ++ [x]) h3 y hm z (by simp [hz])
theorem ok_of_check {c : Chain} (h : check c = 0) : okFrom [] c.members.D = true := by
  unfold check at h
  obtain ⟨_, h⟩ := bif_const (by decide) h
  obtain ⟨_, h⟩ := bif_const (by decide) h
  obtain ⟨_, h⟩ := bif_const (by decide) h
  obtain ⟨_, h⟩ := bif_const (by decide) h
  have h1 : check_l0 c.members.D 0 0 0 = bif okFrom [] c.members.D then 0 else 80 := check_l0_eq c.members.D [] 0 0 0 ⟨by decide, fun n hn => by
    have := has_nat (S := 0) (n := n) (by decide) (by omega)
    rw [this]; simp, fun y hy => (by cases hy), .inl rfl⟩
  rw [h1] at h
  cases ho : okFrom [] c.members.D
  · rw [ho] at h; cases h
  · rfl
theorem ok_member : ∀ (l pre : List Member), okFrom pre l = true → ∀ y ∈ l, member y = true
  | [], _, _, y, hy => by cases hy
  | x :: l, pre, h, y, hy => by
    simp only [okFrom, Bool.and_eq_true] at h
    cases hy with
    | head => exact h.1.1
    | tail _ hm => exact ok_member l (pre ++ [x]) h.2 y hm
theorem clone_eq {s : Sl Member} (h : s.nil = true → s.D = []) : cloneMembers s = s := by
  unfold cloneMembers
  cases s with
  | mk f D =>
    cases f
    · rfl
    · have h : D = [] := h rfl
      rw [h]; rfl
def finW (c : Chain) (l : List Member) : Chain × Int :=
  bif decide (c.epoch ≥ 1099511627776) then (Chain.mk 0 (Sl.mk true []), 5) else bif ((l.length : Int) == (c.members.D.length : Int)) then (Chain.mk 0 (Sl.mk true []), 81) else bif ((l.length : Int) == 0) then (Chain.mk 0 (Sl.mk true []), 83) else (after c (Sl.mk l.isEmpty l), 0)
theorem without_l0_eq (c : Chain) (gone : Int) : ∀ (xs : List Member) (i : Nat) (l : List Member), without_l0 c gone xs i l = finW c (if l = [] then (xs.filter fun x => !mHas gone x.node).dropWhile (·.fresh) else l ++ xs.filter fun x => !mHas gone x.node)
  | [], _, l => by
    unfold without_l0 finW
    cases l <;> simp
  | x :: xs, i, l => by
    unfold without_l0
    cases hk : mHas gone x.node
    · cases l with
      | nil =>
        cases hf : x.fresh
        · simp [without_l0_eq c gone xs, hk, hf]
        · simp [without_l0_eq c gone xs, hk, hf]
      | cons y l =>
        have : decide ((((y :: l).length : Nat) : Int) > 0) = true := by simp
        rw [this]
        simp [without_l0_eq c gone xs, hk]
    · simp [without_l0_eq c gone xs, hk]
theorem without_eq (c : Chain) (gone : Int) : without c gone = finW c ((c.members.D.filter fun x => !mHas gone x.node).dropWhile (·.fresh)) := by
  unfold without; rw [without_l0_eq]; rfl
theorem epoch_of {c : Chain} (h : check c = 0) : 1 ≤ c.epoch ∧ c.epoch ≤ 1099511627776 := by
  unfold check at h
  obtain ⟨h1, h⟩ := bif_const (by decide) h
  obtain ⟨h2, h⟩ := bif_const (by decide) h
  have := of_decide_eq_false h1
  have := of_decide_eq_false h2
  omega
theorem mem_ok {c : Chain} (hc : check c = 0) {x : Member} (hx : x ∈ c.members.D) : 0 ≤ x.node ∧ x.node ≤ 5 ∧ 0 ≤ x.site ∧ x.site ≤ 2 :=
  (member_iff x).1 (ok_member _ _ (ok_of_check hc) x hx)
theorem has_mask (n m : Int) (h : 0 ≤ m ∧ m ≤ 5) : mHas (maskOf ⟨false, [n]⟩) m = (m == n) := by
  obtain ⟨k, rfl⟩ : ∃ k : Nat, m = (k : Int) := ⟨m.toNat, by omega⟩
  show mHas (mWith ((0 : Nat) : Int) n) (k : Int) = _
  cases hn : mIn n
  · rw [with_out hn, has_nat (by decide) (by omega)]
    have : (((k : Nat) : Int) == n) = false := by
      rw [beq_eq_false_iff_ne]
      intro e; subst e
      rw [in_nat] at hn
      have := of_decide_eq_false hn
      omega
    rw [this]; simp
  · obtain ⟨h1, h2⟩ := (in_iff n).1 hn
    obtain ⟨j, rfl⟩ : ∃ j : Nat, n = (j : Int) := ⟨n.toNat, by omega⟩
    rw [has_with (by decide) (by omega) (by omega), has_nat (by decide) (by omega)]
    by_cases e : j = k
    · simp [e]
    · have : ((k : Int) == (j : Int)) = false := by simp; omega
      rw [this]; simp [e]
theorem check_80 (c : Chain) : check c = 0 ∨ check c = 80 := by
  unfold check
  have h1 : check_l0 c.members.D 0 0 0 = bif okFrom [] c.members.D then 0 else 80 := check_l0_eq c.members.D [] 0 0 0 ⟨by decide, fun n hn => by
    have := has_nat (S := 0) (n := n) (by decide) (by omega)
    rw [this]; simp, fun y hy => (by cases hy), .inl rfl⟩
  rw [h1]
  cases decide (c.epoch < 1) <;> cases decide (c.epoch > 1099511627776) <;> cases ((c.members.D.length : Int) == 0) <;> cases c.members.D[0]!.fresh <;> cases okFrom [] c.members.D <;> simp
theorem ok_inj : ∀ (l pre : List Member), okFrom pre l = true → ∀ x ∈ l, ∀ y ∈ l, x.node = y.node → x = y
  | [], _, _, x, hx, _, _, _ => by cases hx
  | z :: l, pre, h, x, hx, y, hy, e => by
    simp only [okFrom, Bool.and_eq_true] at h
    obtain ⟨_, h3⟩ := h
    cases hx with
    | head => cases hy with
      | head => rfl
      | tail _ hy => exact absurd e (ok_apart l _ h3 y hy z (by simp))
    | tail _ hx => cases hy with
      | head => exact absurd e.symm (ok_apart l _ h3 x hx _ (List.mem_append_right _ (List.mem_cons_self ..)))
      | tail _ hy => exact ok_inj l _ h3 x hx y hy e
theorem dropSite_l0_eq (c : Chain) (site : Int) : ∀ (l : List Member) (i S : Nat), S < 18446744073709551616 → dropSite_l0 c site l i (S : Int) = without c ((bitsOf (fun x => x.site == site) l S : Nat) : Int) ∧ bitsOf (fun x => x.site == site) l S < 18446744073709551616
  | [], _, S, h => ⟨rfl, h⟩
  | x :: l, i, S, h => by
    have hb : bitsOf (fun x => x.site == site) (x :: l) S = bitsOf (fun x => x.site == site) l (if (x.site == site) && mIn x.node then S ||| 2 ^ x.node.toNat else S) := rfl
    rw [hb]
    unfold dropSite_l0
    cases hs : x.site == site
    · exact dropSite_l0_eq c site l (i + 1) S h
    · rw [with_cast h]
      exact dropSite_l0_eq c site l (i + 1) _ (with_cast_lt h x.node)
theorem join_l0_eq (c : Chain) (m : Member) (hl : c.members.D.length ≤ 1000000) : ∀ (nn i : Nat), i ≤ c.members.D.length → c.members.D.length - i < nn → join_l0 c m nn (i : Int) = bif (i + ((c.members.D.drop i).takeWhile fun x => decide (x.site ≤ m.site)).length == 0) then (Chain.mk 0 (Sl.mk true []), 152) else (after c (Sl.mk false (insertL c.members.D (i + ((c.members.D.drop i).takeWhile fun x => decide (x.site ≤ m.site)).length) [Member.mk m.node m.site true])), 0)
  | 0, i, _, h => by omega
  | nn + 1, i, hi, h => by
    unfold join_l0
    have eI : (((i : Nat) : Int) == 0) = (i == 0) := by cases i <;> simp; omega
    by_cases hlt : i < c.members.D.length
    · have e1 : decide ((i : Int) < (c.members.D.length : Int)) = true := by simp; omega
      have hd : c.members.D.drop i = c.members.D[i] :: c.members.D.drop (i + 1) := List.drop_eq_getElem_cons hlt
      have hg : c.members.D[(i : Int).toNat]! = c.members.D[i] := by simp [hlt]
      rw [e1, cond_true, hg, hd, List.takeWhile_cons]
      cases hs : decide (c.members.D[i].site ≤ m.site)
      · simp [eI]
      · have e2 : IntKind.i64.wrap ((i : Int) + 1) = ((i + 1 : Nat) : Int) := by rw [wrapI _ (by omega)]; omega
        rw [e2, cond_true, join_l0_eq c m hl nn (i + 1) (by omega) (by omega)]
        simp [Nat.add_assoc, Nat.add_comm 1]
    · have e1 : decide ((i : Int) < (c.members.D.length : Int)) = false := by simp; omega
      rw [e1, cond_false, List.drop_eq_nil_of_le (by omega)]
      simp [eI]
theorem finW_len (c : Chain) (l : List Member) : (finW c l).1.members.D.length ≤ l.length := by
  unfold finW
  cases decide (c.epoch ≥ 1099511627776)
  · cases ((l.length : Int) == (c.members.D.length : Int))
    · cases ((l.length : Int) == 0)
      · exact Nat.le_refl _
      · exact Nat.zero_le _
    · exact Nat.zero_le _
  · exact Nat.zero_le _
theorem without_len (c : Chain) (gone : Int) : (without c gone).1.members.D.length ≤ c.members.D.length + 1 := by
  rw [without_eq]
  have h1 := finW_len c ((c.members.D.filter fun x => !mHas gone x.node).dropWhile (·.fresh))
  have h2 := (List.dropWhile_sublist (p := fun x : Member => x.fresh) (l := c.members.D.filter fun x => !mHas gone x.node)).length_le
  have h3 := List.length_filter_le (fun x : Member => !mHas gone x.node) c.members.D
  omega
theorem finW_hn (c : Chain) (l : List Member) : (finW c l).1.members.nil = true → (finW c l).1.members.D = [] := by
  unfold finW
  cases decide (c.epoch ≥ 1099511627776)
  · cases ((l.length : Int) == (c.members.D.length : Int))
    · cases ((l.length : Int) == 0)
      · intro h
        exact List.isEmpty_iff.1 (show l.isEmpty = true from h)
      · exact fun _ => rfl
    · exact fun _ => rfl
  · exact fun _ => rfl
theorem without_hn (c : Chain) (gone : Int) : (without c gone).1.members.nil = true → (without c gone).1.members.D = [] := by
  rw [without_eq]; exact finW_hn c _
def unf (m : Member) : Member := ⟨m.node, m.site, false⟩
theorem firstC_l1_eq (i : Nat) (kk : List Member → Chain × Int) : ∀ (xs : List Member) (j : Nat) (vc : List Member), firstC_l1 i kk xs j vc = kk (vc ++ (xs.filter fun x => x.site == (i : Int)).map unf)
  | [], _, vc => by simp [firstC_l1]
  | x :: xs, j, vc => by
    unfold firstC_l1
    cases h : x.site == (i : Int)
    · simp [firstC_l1_eq i kk xs, h]
    · simp [firstC_l1_eq i kk xs, h, unf]
def bySite (l : List Member) (i : Nat) : List Member := (l.filter fun x => x.site == (i : Int)).map unf
def finF (l : Sl Member) (vc : List Member) : Chain × Int :=
  bif ((vc.length : Int) != (l.D.length : Int)) then (Chain.mk 0 (Sl.mk true []), 80) else bif check (Chain.mk 1 (Sl.mk vc.isEmpty vc)) != 0 then (Chain.mk 0 (Sl.mk true []), 80) else (Chain.mk 1 (Sl.mk vc.isEmpty vc), 0)
theorem firstC_eq (l : Sl Member) : firstC l = finF l (bySite l.D 0 ++ bySite l.D 1 ++ bySite l.D 2) := by
  unfold firstC
  unfold firstC_l0
  rw [firstC_l1_eq]
  unfold firstC_l0
  rw [firstC_l1_eq]
  unfold firstC_l0
  rw [firstC_l1_eq]
  unfold firstC_l0
  rfl
theorem firstC_len (l : Sl Member) : (firstC l).1.members.D.length ≤ l.D.length := by
  rw [firstC_eq]
  generalize bySite l.D 0 ++ bySite l.D 1 ++ bySite l.D 2 = vc
  unfold finF
  cases h : ((vc.length : Int) != (l.D.length : Int))
  · have h := eq_of_bne_false h
    cases check (Chain.mk 1 (Sl.mk vc.isEmpty vc)) != 0
    · show vc.length ≤ _; omega
    · exact Nat.zero_le _
  · exact Nat.zero_le _
theorem firstC_hn (l : Sl Member) : (firstC l).1.members.nil = true → (firstC l).1.members.D = [] := by
  rw [firstC_eq]
  generalize bySite l.D 0 ++ bySite l.D 1 ++ bySite l.D 2 = vc
  unfold finF
  cases ((vc.length : Int) != (l.D.length : Int))
  · cases check (Chain.mk 1 (Sl.mk vc.isEmpty vc)) != 0
    · intro h
      exact List.isEmpty_iff.1 (show vc.isEmpty = true from h)
    · exact fun _ => rfl
  · exact fun _ => rfl
theorem firstC_ok {l : Sl Member} (h : (firstC l).2 = 0) : check (firstC l).1 = 0 := by
  rw [firstC_eq] at h ⊢
  generalize bySite l.D 0 ++ bySite l.D 1 ++ bySite l.D 2 = vc at h ⊢
  unfold finF at h ⊢
  cases h1 : ((vc.length : Int) != (l.D.length : Int))
  · rw [h1] at h
    cases h2 : check (Chain.mk 1 (Sl.mk vc.isEmpty vc)) != 0
    · exact eq_of_bne_false h2
    · rw [h2] at h; cases h
  · rw [h1] at h; cases h
theorem rPlace_at : ∀ (l pre : List Member) (i p : Nat), okFrom pre l = true → p < l.length → rPlace_l0 l[p]!.node l i = ((i + p : Nat) : Int)
  | [], _, _, _, _, hp => by simp at hp
  | x :: l, pre, i, p, h, hp => by
    unfold rPlace_l0
    cases p with
    | zero => simp
    | succ p =>
      have h' := h
      simp only [okFrom, Bool.and_eq_true] at h
      obtain ⟨_, h3⟩ := h
      have hp' : p < l.length := by simpa using hp
      have e : (x :: l)[p + 1]! = l[p]! := by simp
      have hm : l[p]! ∈ l := by rw [getElem!_pos l p hp']; exact List.getElem_mem hp'
      have hne := ok_apart l (pre ++ [x]) h3 _ hm x (by simp)
      have : (x.node == l[p]!.node) = false := by rw [beq_eq_false_iff_ne]; exact hne
      rw [e, this, cond_false, rPlace_at l (pre ++ [x]) (i + 1) p h3 hp']
      rw [show i + 1 + p = i + (p + 1) by omega]
theorem place_at {c : Chain} (hc : check c = 0) {p : Nat} (hp : p < c.members.D.length) : place0 c c.members.D[p]!.node = (p : Int) := by
  rw [place_eq]; unfold rPlace
  rw [← check_eq, hc]
  have := rPlace_at c.members.D [] 0 p (ok_of_check hc) hp
  rw [Nat.zero_add] at this
  exact this
def Apart (a b : Member) : Prop := a.node ≠ b.node ∧ a.site ≤ b.site
theorem ok_iff : ∀ (l pre : List Member), okFrom pre l = true ↔ (∀ x ∈ l, member x = true) ∧ (∀ x ∈ l, ∀ y ∈ pre, Apart y x) ∧ l.Pairwise Apart
  | [], pre => by simp [okFrom]
  | x :: l, pre => by
    have ih := ok_iff l (pre ++ [x])
    have hp : (pre.all fun y => !(y.node == x.node) && !(decide (y.site > x.site))) = true ↔ ∀ y ∈ pre, Apart y x := by
      rw [List.all_eq_true]
      constructor
      · intro h y hy
        have := h y hy
        simp only [Bool.and_eq_true, Bool.not_eq_true', beq_eq_false_iff_ne, decide_eq_false_iff_not] at this
        exact ⟨this.1, by omega⟩
      · intro h y hy
        obtain ⟨h1, h2⟩ := h y hy
        simp only [Bool.and_eq_true, Bool.not_eq_true', beq_eq_false_iff_ne, decide_eq_false_iff_not]
        exact ⟨h1, by omega⟩
    simp only [okFrom, Bool.and_eq_true, hp, ih, List.mem_cons, List.pairwise_cons, List.mem_append, List.mem_nil_iff, or_false]
    constructor
    · rintro ⟨⟨h1, h2⟩, h3, h4, h5⟩
      refine ⟨fun z hz => ?_, fun z hz y hy => ?_, fun z hz => h4 z hz x (.inr rfl), h5⟩
      · rcases hz with rfl | hz
        · exact h1
        · exact h3 z hz
      · rcases hz with rfl | hz
        · exact h2 y hy
        · exact h4 z hz y (.inl hy)
    · rintro ⟨h1, h2, h3, h4⟩
      refine ⟨⟨h1 x (.inl rfl), fun y hy => h2 x (.inl rfl) y hy⟩, fun z hz => h1 z (.inr hz), fun z hz y hy => ?_, h4⟩
      rcases hy with hy | rfl
      · exact h2 z (.inr hz) y hy
      · exact h3 z hz
theorem check_iff (c : Chain) : check c = 0 ↔ (1 ≤ c.epoch ∧ c.epoch ≤ 1099511627776) ∧ c.members.D ≠ [] ∧ c.members.D[0]!.fresh = false ∧ (∀ x ∈ c.members.D, member x = true) ∧ c.members.D.Pairwise Apart := by
  have h1 : check_l0 c.members.D 0 0 0 = bif okFrom [] c.members.D then 0 else 80 := check_l0_eq c.members.D [] 0 0 0 ⟨by decide, fun n hn => by
    have := has_nat (S := 0) (n := n) (by decide) (by omega)
    rw [this]; simp, fun y hy => (by cases hy), .inl rfl⟩
  have h2 := ok_iff c.members.D []
  constructor
  · intro h
    have ho := h2.1 (ok_of_check h)
    refine ⟨epoch_of h, fun e => ?_, ?_, ho.1, ho.2.2⟩
    · have := check_len h; rw [e] at this; simp at this
    · unfold check at h
      obtain ⟨_, h⟩ := bif_const (by decide) h
      obtain ⟨_, h⟩ := bif_const (by decide) h
      obtain ⟨_, h⟩ := bif_const (by decide) h
      exact (bif_const (by decide) h).1
  · rintro ⟨⟨e1, e2⟩, hne, hf, hm, hp⟩
    unfold check
    have d1 : decide (c.epoch < 1) = false := by simp; omega
    have d2 : decide (c.epoch > 1099511627776) = false := by simp; omega
    have d3 : ((c.members.D.length : Int) == 0) = false := by
      rw [beq_eq_false_iff_ne]
      intro e
      exact hne (List.eq_nil_of_length_eq_zero (by omega))
    rw [d1, d2, d3, hf, h1, h2.2 ⟨hm, fun _ _ _ hy => (by cases hy), hp⟩]
    rfl
theorem wrap_epoch {c : Chain} (h : check c = 0) : IntKind.i64.wrap (c.epoch + 1) = c.epoch + 1 := by
  have := epoch_of h
  exact wrapI _ (by omega)
theorem drop_head {l : List Member} (h : l.dropWhile (·.fresh) ≠ []) : (l.dropWhile (·.fresh))[0]!.fresh = false := by
  induction l with
  | nil => exact absurd rfl h
  | cons x l ih =>
    rw [List.dropWhile_cons] at h ⊢
    cases hf : x.fresh
    · simp [hf]
    · rw [hf] at h
      simp only [if_true] at h ⊢
      exact ih h
theorem place_none {c : Chain} (hc : check c = 0) {n : Int} (h : rPlace c n < 0) : ∀ x ∈ c.members.D, x.node ≠ n := fun x hx e => by
  obtain ⟨j, hj, ej⟩ := List.getElem_of_mem hx
  have hp := place_at hc hj
  rw [getElem!_pos _ j hj, ej, place_eq, e] at hp
  omega
theorem mem_split {c : Chain} (p : Member → Bool) {x : Member} (h : x ∈ c.members.D.takeWhile p ∨ x ∈ c.members.D.dropWhile p) : x ∈ c.members.D := by
  have := List.takeWhile_append_dropWhile (p := p) (l := c.members.D)
  rw [← this]
  exact List.mem_append.2 h
theorem takeWhile_true {α : Type} (p : α → Bool) : ∀ (l : List α), ∀ x ∈ l.takeWhile p, p x = true
  | [], x, h => by cases h
  | y :: l, x, h => by
    rw [List.takeWhile_cons] at h
    cases hy : p y
    · rw [hy] at h; cases h
    · rw [hy] at h
      simp only [if_true] at h
      cases h with
      | head => exact hy
      | tail _ h => exact takeWhile_true p l x h
theorem dropWhile_sites (s : Int) : ∀ (l : List Member), l.Pairwise Apart → ∀ x ∈ l.dropWhile (fun x => decide (x.site ≤ s)), s ≤ x.site
  | [], _, x, h => by cases h
  | y :: l, hp, x, h => by
    rw [List.dropWhile_cons] at h
    rw [List.pairwise_cons] at hp
    by_cases hy : y.site ≤ s
    · rw [decide_eq_true hy] at h
      exact dropWhile_sites s l hp.2 x h
    · rw [decide_eq_false hy] at h
      cases h with
      | head => omega
      | tail _ h => have := (hp.1 x h).2; omega
theorem nodes_map : ∀ (l m : List Member) (i j : Nat) (s : Int), l.map (·.node) = m.map (·.node) → nodes_l0 l i s = nodes_l0 m j s
  | [], [], _, _, _, _ => rfl
  | [], _ :: _, _, _, _, h => by simp at h
  | _ :: _, [], _, _, _, h => by simp at h
  | x :: l, y :: m, i, j, s, h => by
    simp only [List.map_cons, List.cons.injEq] at h
    unfold nodes_l0
    rw [h.1, nodes_map l m (i + 1) (j + 1) _ h.2]
theorem set_map {β : Type} (g : Member → β) {l : List Member} {p : Nat} (hp : p < l.length) {y : Member} (h : g y = g l[p]) : (l.set p y).map g = l.map g := by
  rw [List.map_set, h]
  apply List.ext_getElem
  · simp
  · intro i h1 h2
    rw [List.getElem_set]
    split
    · rename_i e; subst e; simp
    · rfl
theorem drop_form {c : Chain} (hc : check c = 0) (n : Int) : drop c n = finW c ((c.members.D.filter fun x => x.node != n).dropWhile (·.fresh)) := by
  unfold drop
  rw [hc, show ((0 : Int) != 0) = false from rfl, cond_false]
  show without c (maskOf ⟨false, [n]⟩) = _
  rw [without_eq, List.filter_congr fun x hx => by
    have := mem_ok hc hx
    rw [has_mask n x.node ⟨this.1, this.2.1⟩, ← bne]]
theorem drop_bad {c : Chain} (hc : check c ≠ 0) (n : Int) : drop c n = (⟨0, ⟨true, []⟩⟩, check c) := by
  unfold drop
  rw [show (check c != 0) = true by simpa using hc, cond_true]
theorem drop_hn (c : Chain) (n : Int) : (drop c n).1.members.nil = true → (drop c n).1.members.D = [] := by
  by_cases hc : check c = 0
  · rw [drop_form hc]; exact finW_hn c _
  · rw [drop_bad hc]; exact fun _ => rfl
theorem drop_len (c : Chain) (n : Int) : (drop c n).1.members.D.length ≤ c.members.D.length := by
  by_cases hc : check c = 0
  · rw [drop_form hc]
    refine Nat.le_trans (finW_len c _) ?_
    exact Nat.le_trans (List.dropWhile_sublist _).length_le (List.length_filter_le _ _)
  · rw [drop_bad hc]; exact Nat.zero_le _
def putIn (l : List Member) (n s : Int) : List Member := insertL l (l.takeWhile fun x => decide (x.site ≤ s)).length [⟨n, s, true⟩]
theorem join_some {c : Chain} {n s : Int} {f : Bool} (hc : check c = 0) (h : (join c ⟨n, s, f⟩).2 = 0) : (join c ⟨n, s, f⟩).1 = ⟨c.epoch + 1, ⟨false, putIn c.members.D n s⟩⟩ ∧ c.epoch < 1099511627776 ∧ member ⟨n, s, true⟩ = true ∧ placeIn c n < 0 ∧ (c.members.D.takeWhile fun x => decide (x.site ≤ s)).length ≠ 0 := by
  unfold join at h ⊢
  rw [hc, show ((0 : Int) != 0) = false from rfl, cond_false] at h ⊢
  cases h1 : member ⟨n, s, true⟩
  case false => simp only [h1] at h; exact absurd h (by simp)
  simp only [h1, Bool.not_true, cond_false] at h ⊢
  cases h2 : decide (placeIn c n ≥ 0)
  case true => rw [h2] at h; exact absurd h (by simp)
  rw [h2, cond_false] at h
  rw [cond_false]
  cases h3 : decide (c.epoch ≥ 1099511627776)
  case true => rw [h3] at h; exact absurd h (by simp)
  rw [h3, cond_false] at h
  rw [cond_false]
  have hl := check_le6 hc
  have e := join_l0_eq c ⟨n, s, f⟩ (by omega) (c.members.D.length - (0 : Int).toNat + 1) 0 (Nat.zero_le _) (by simp)
  rw [show ((0 : Nat) : Int) = 0 from rfl, List.drop_zero, Nat.zero_add] at e
  rw [e] at h ⊢
  cases h4 : (c.members.D.takeWhile fun x => decide (x.site ≤ s)).length == 0
  case true => simp only [h4] at h; exact absurd h (by simp)
  refine ⟨?_, by have := of_decide_eq_false h3; omega, trivial, by have := of_decide_eq_false h2; omega, by simpa using h4⟩
  simp only [cond_false]
  unfold after
  rw [wrap_epoch hc]; rfl
theorem join_bad {c : Chain} (hc : check c ≠ 0) (m : Member) : join c m = (⟨0, ⟨true, []⟩⟩, check c) := by
  unfold join
  rw [show (check c != 0) = true by simpa using hc, cond_true]
theorem join_l0_hn (c : Chain) (m : Member) : ∀ (nn : Nat) (i : Int), (join_l0 c m nn i).1.members.nil = true → (join_l0 c m nn i).1.members.D = []
  | 0, _ => fun _ => rfl
  | nn + 1, i => by
    have ih := join_l0_hn c m nn (IntKind.i64.wrap (i + 1))
    unfold join_l0
    cases decide (i < (c.members.D.length : Int))
    · cases i == 0
      · intro h; cases h
      · exact fun _ => rfl
    · cases decide (c.members.D[i.toNat]!.site ≤ m.site)
      · cases i == 0
        · intro h; cases h
        · exact fun _ => rfl
      · exact ih
theorem join_hn (c : Chain) (m : Member) : (join c m).1.members.nil = true → (join c m).1.members.D = [] := by
  unfold join
  cases check c != 0
  case true => exact fun _ => rfl
  cases !member ⟨m.node, m.site, true⟩
  case true => exact fun _ => rfl
  cases decide (placeIn c m.node ≥ 0)
  case true => exact fun _ => rfl
  cases decide (c.epoch ≥ 1099511627776)
  case true => exact fun _ => rfl
  exact join_l0_hn c m _ _
theorem putIn_len (l : List Member) (n s : Int) : (putIn l n s).length = l.length + 1 := by
  unfold putIn
  rw [insertL_len (List.takeWhile_sublist _).length_le]; rfl
theorem join_none {c : Chain} {m : Member} (hc : check c = 0) (h : (join c m).2 ≠ 0) : (join c m).1 = ⟨0, ⟨true, []⟩⟩ := by
  obtain ⟨n, s, f⟩ := m
  unfold join at h ⊢
  rw [hc, show ((0 : Int) != 0) = false from rfl, cond_false] at h ⊢
  cases h1 : member ⟨n, s, true⟩
  case false => simp only [Bool.not_false, cond_true]
  simp only [h1, Bool.not_true, cond_false] at h ⊢
  cases h2 : decide (placeIn c n ≥ 0)
  case true => rfl
  rw [h2, cond_false] at h
  rw [cond_false]
  cases h3 : decide (c.epoch ≥ 1099511627776)
  case true => rfl
  rw [h3, cond_false] at h
  rw [cond_false]
  have hl := check_le6 hc
  have e := join_l0_eq c ⟨n, s, f⟩ (by omega) (c.members.D.length - (0 : Int).toNat + 1) 0 (Nat.zero_le _) (by simp)
  rw [show ((0 : Nat) : Int) = 0 from rfl, List.drop_zero, Nat.zero_add] at e
  rw [e] at h ⊢
  cases h4 : (c.members.D.takeWhile fun x => decide (x.site ≤ s)).length == 0
  case true => simp only [cond_true]
  simp only [h4, cond_false] at h
  exact absurd rfl h
theorem join_len (c : Chain) (m : Member) : (join c m).1.members.D.length ≤ c.members.D.length + 1 := by
  obtain ⟨n, s, f⟩ := m
  by_cases hc : check c = 0
  · by_cases h : (join c ⟨n, s, f⟩).2 = 0
    · rw [(join_some hc h).1]
      show (putIn c.members.D n s).length ≤ _
      rw [putIn_len]; omega
    · rw [join_none hc h]; exact Nat.zero_le _
  · rw [join_bad hc]; exact Nat.zero_le _
theorem ready_hn (c : Chain) (n : Int) : (ready c n).1.members.nil = true → (ready c n).1.members.D = [] := by
  unfold ready
  cases check c != 0
  case true => exact fun _ => rfl
  cases decide (placeIn c n < 0)
  case true => exact fun _ => rfl
  cases !(c.members.D[(placeIn c n).toNat]!.fresh)
  case true => exact fun _ => rfl
  intro h; cases h
theorem ready_len (c : Chain) (n : Int) : (ready c n).1.members.D.length ≤ c.members.D.length := by
  unfold ready
  cases check c != 0
  case true => exact Nat.zero_le _
  cases decide (placeIn c n < 0)
  case true => exact Nat.zero_le _
  cases !(c.members.D[(placeIn c n).toNat]!.fresh)
  case true => exact Nat.zero_le _
  show (List.set _ _ _).length ≤ _
  rw [List.length_set]; omega
end Go.Proofs.Ytpgenmflgdkfiaa
/- The ledger: where an epoch's chain stands; how long chains are. No conditions. -/
namespace Go.Proofs.Ytpgenmflgdkfiaa
open Go.Am
theorem indexFuncC_l0_lt (f : Chain → Bool) : ∀ (l : List Chain) (i : Nat), indexFuncC_l0 f l i < ((i + l.length : Nat) : Int) ∧ -1 ≤ indexFuncC_l0 f l i
  | [], i => by simp only [indexFuncC_l0, List.length_nil]; omega
  | x :: l, i => by
    have := indexFuncC_l0_lt f l (i + 1)
    simp only [indexFuncC_l0, List.length_cons]
    cases f x <;> simp only [cond_true, cond_false] <;> omega
theorem indexFuncC_lt (s : Sl Chain) (f : Chain → Bool) : indexFuncC s f < (s.D.length : Int) ∧ -1 ≤ indexFuncC s f := by
  have := indexFuncC_l0_lt f s.D 0
  simp only [indexFuncC]; omega
end Go.Proofs.Ytpgenmflgdkfiaa
/- The ledger: the chain of an epoch. No conditions. -/
namespace Go.Proofs.Ytpgenmflgdkfiaa
open Go.Am
def pastOf (p : Past) (epoch : Int) : Chain × Bool :=
  (bif (decide ((indexFuncC p.all (fun x0 => pastF x0 epoch)) < 0)) then ((Chain.mk 0 (Sl.mk true [])), false) else ((copied (p.all.D[(indexFuncC p.all (fun x0 => pastF x0 epoch)).toNat]!)), true))
theorem pastOf_calls (p : Past) (epoch : Int) (hA : ∀ x ∈ p.all.D, x.members.D.length ≤ 1000000) (hl1 : p.all.D.length ≤ 1000000) : PCalls Try.prog 54 [.agg [sS (some p.all.nil) eChain p.all.D], .pv (.lit (.int .i64 epoch))] (.tup [.agg [.pv (.lit (.int .i64 ((pastOf p epoch).1.epoch))), sS (some (pastOf p epoch).1.members.nil) eMember ((pastOf p epoch).1.members.D)], .pv (.lit (.bool ((pastOf p epoch).2)))]) := by
 generalize hR : pastOf p epoch = R
 refine PCalls.of_body tabOk Try.func54 rfl rfl rfl rfl rfl mixed fun E hP C hI => ?_
 refine Awp.consP C ?_
 refine rvc_un (rexec_prim C (δ := { v := .ptr 2 0, new := [(2, .cells [sS (some p.all.nil) eChain p.all.D])] }) rfl rfl rfl rfl trivial rfl ?_)
 refine rvc_un (rexec_boxF C [.lit (.int .i64 epoch)] rfl rfl rfl rfl ?_)
 refine rvc_un (rexec_prim C (δ := { v := .ptr 4 0, new := [(4, .cells [.pv (.lit (.int .i64 0)), sS (some true) eMember []])] }) rfl rfl rfl rfl trivial rfl ?_)
 refine rvP C (.pv (.lit (.bool false))) ?_
 refine rvc_nil ?_
 refine Awp.consP C ?_
 refine rvP C (.ptr 2 0) ?_
 refine rvP C (sS (some p.all.nil) eChain p.all.D) ?_
 refine rvP C (.fn 76 [] [.rp [.lit (.int .i64 epoch)]]) ?_
 refine rvc_un (rexec_call hP C rfl rfl rfl (indexFuncC_calls p.all (fun x0 => pastF x0 epoch) 76 [.rp [.lit (.int .i64 epoch)]] (fun x0 => pastF_calls x0 epoch) rfl hl1) ?_)
 refine rvP C (.pv (.lit (.int .i64 (indexFuncC p.all (fun x0 => pastF x0 epoch))))) ?_
 refine rvc_nil ?_
 refine Awp.seq ?_
 refine Awp.consP C ?_
 refine rvP C (.pv (.lit (.int .i64 (indexFuncC p.all (fun x0 => pastF x0 epoch))))) ?_
 refine rvP C (.pv (.lit (.bool (decide ((indexFuncC p.all (fun x0 => pastF x0 epoch)) < 0))))) ?_
 refine rvc_nil ?_
 refine Awp.cond (b := (decide ((indexFuncC p.all (fun x0 => pastF x0 epoch)) < 0))) rfl (fun h1 => ?_) (fun h1 => ?_)
 ·
  replace hR := of_true h1 hR
  refine Awp.consP C ?_
  refine rvP C (.agg [.pv (.lit (.int .i64 0)), sS (some true) eMember []]) ?_
  refine rvc_un (rexec_prim C (δ := { v := .undef, wr := [(4, some (.cells [.pv (.lit (.int .i64 0)), sS (some true) eMember []]))] }) rfl rfl rfl rfl trivial rfl ?_)
  refine rvP C (.pv (.lit (.bool false))) ?_
  refine rvc_nil ?_
  refine Awp.ret ?_
  subst hR
  exact ⟨.inl rfl, rfl⟩
 ·
  replace hR := of_false h1 hR
  refine Awp.skip ?_
  refine Awp.consP C ?_
  refine rvP C (.ptr 2 0) ?_
  refine rvP C (sS (some p.all.nil) eChain p.all.D) ?_
  refine rvP C (.pv (.lit (.int .i64 (indexFuncC p.all (fun x0 => pastF x0 epoch))))) ?_
  have h2 : p.all.D[(indexFuncC p.all (fun x0 => pastF x0 epoch)).toNat]? = some p.all.D[(indexFuncC p.all (fun x0 => pastF x0 epoch)).toNat]! := getE (by have := indexFuncC_lt p.all (fun x0 => pastF x0 epoch); have := of_decide_eq_false h1; omega)
  refine rvc_un (rexec_idxS C rfl rfl rfl rfl rfl rfl (p.all.D[(indexFuncC p.all (fun x0 => pastF x0 epoch)).toNat]!) (by have := indexFuncC_lt p.all (fun x0 => pastF x0 epoch); have := of_decide_eq_false h1; omega) h2 ?_)
  refine rvP C (.agg [.pv (.lit (.int .i64 (p.all.D[(indexFuncC p.all (fun x0 => pastF x0 epoch)).toNat]!.epoch))), sS (some p.all.D[(indexFuncC p.all (fun x0 => pastF x0 epoch)).toNat]!.members.nil) eMember (p.all.D[(indexFuncC p.all (fun x0 => pastF x0 epoch)).toNat]!.members.D)]) ?_
  refine rvc_un (rexec_call hP C rfl rfl rfl (copied_calls (p.all.D[(indexFuncC p.all (fun x0 => pastF x0 epoch)).toNat]!) (hA _ (List.mem_of_getElem? (by assumption)))) ?_)
  refine rvc_un (rexec_prim C (δ := { v := .undef, wr := [(4, some (.cells [.pv (.lit (.int .i64 ((copied (p.all.D[(indexFuncC p.all (fun x0 => pastF x0 epoch)).toNat]!)).epoch))), sS (some (copied (p.all.D[(indexFuncC p.all (fun x0 => pastF x0 epoch)).toNat]!)).members.nil) eMember ((copied (p.all.D[(indexFuncC p.all (fun x0 => pastF x0 epoch)).toNat]!)).members.D)]))] }) rfl rfl rfl rfl trivial rfl ?_)
  refine rvP C (.pv (.lit (.bool true))) ?_
  refine rvc_nil ?_
  refine Awp.ret ?_
  subst hR
  exact ⟨.inl rfl, rfl⟩
def lOf (l : Ledger) (epoch : Int) : Chain × Bool :=
  (bif (lDead l) then ((Chain.mk 0 (Sl.mk true [])), false) else ((pastOf l.past epoch).1, (pastOf l.past epoch).2))
theorem lOf_calls (l : Ledger) (epoch : Int) (hA : ∀ x ∈ l.past.all.D, x.members.D.length ≤ 1000000) (hl1 : l.past.all.D.length ≤ 1000000) : MCalls Try.prog 33 [.ptr 0 0, .pv (.lit (.int .i64 epoch))] (.cells [sS (some l.past.all.nil) eChain l.past.all.D, .pv (.lit (.int .i64 l.chain.epoch)), sS (some l.chain.members.nil) eMember l.chain.members.D, .pv (.lit (.int .i64 l.at_))]) (.tup [.agg [.pv (.lit (.int .i64 ((lOf l epoch).1.epoch))), sS (some (lOf l epoch).1.members.nil) eMember ((lOf l epoch).1.members.D)], .pv (.lit (.bool ((lOf l epoch).2)))]) (.cells [sS (some l.past.all.nil) eChain l.past.all.D, .pv (.lit (.int .i64 l.chain.epoch)), sS (some l.chain.members.nil) eMember l.chain.members.D, .pv (.lit (.int .i64 l.at_))]) := by
 generalize hR : lOf l epoch = R
 refine MCalls.of_body tabOk Try.func33 rfl rfl rfl rfl rfl rfl rfl mixed fun E hP C hI => ?_
 refine Awp.consP C ?_
 refine rvc_un (rexec_prim C (δ := { v := .ptr 4 0, new := [(4, .cells [.pv (.lit (.int .i64 0)), sS (some true) eMember []])] }) rfl rfl rfl rfl trivial rfl ?_)
 refine rvP C (.pv (.lit (.bool false))) ?_
 refine rvc_nil ?_
 refine Awp.seq ?_
 refine Awp.cons C (fun _ => .writer) (by kernel_rfl) ?_
 refine rvP C (.ptr 0 0) ?_
 refine rvc_un (rexec_callM hP C (b := 0) rfl rfl rfl (lDead_calls l) rfl rfl ?_)
 refine rvc_nil ?_
 refine Awp.cond (b := (lDead l)) rfl (fun h1 => ?_) (fun h1 => ?_)
 ·
  replace hR := of_true h1 hR
  refine Awp.consP C ?_
  refine rvP C (.agg [.pv (.lit (.int .i64 0)), sS (some true) eMember []]) ?_
  refine rvc_un (rexec_prim C (δ := { v := .undef, wr := [(4, some (.cells [.pv (.lit (.int .i64 0)), sS (some true) eMember []]))] }) rfl rfl rfl rfl trivial rfl ?_)
  refine rvP C (.pv (.lit (.bool false))) ?_
  refine rvc_nil ?_
  refine Awp.ret ?_
  subst hR
  exact ⟨.inl rfl, rfl, rfl⟩
 ·
  replace hR := of_false h1 hR
  refine Awp.skip ?_
  refine Awp.consP C ?_
  refine rvP C (.ptr 0 0) ?_
  refine rvP C (.ptr 0 0) ?_
  refine rvP C (.ptr 0 0) ?_
  refine rvP C (.agg [sS (some l.past.all.nil) eChain l.past.all.D]) ?_
  refine rvP C (.pv (.lit (.int .i64 epoch))) ?_
  refine rvc_un (rexec_call hP C rfl rfl rfl (pastOf_calls l.past epoch hA hl1) ?_)
  refine rvP C (.agg [.pv (.lit (.int .i64 ((pastOf l.past epoch).1.epoch))), sS (some (pastOf l.past epoch).1.members.nil) eMember ((pastOf l.past epoch).1.members.D)]) ?_
  refine rvP C (.pv (.lit (.bool ((pastOf l.past epoch).2)))) ?_
  refine rvc_un (rexec_prim C (δ := { v := .undef, wr := [(4, some (.cells [.pv (.lit (.int .i64 ((pastOf l.past epoch).1.epoch))), sS (some (pastOf l.past epoch).1.members.nil) eMember ((pastOf l.past epoch).1.members.D)]))] }) rfl rfl rfl rfl trivial rfl ?_)
  refine rvP C (.pv (.lit (.bool ((pastOf l.past epoch).2)))) ?_
  refine rvc_nil ?_
  refine Awp.ret ?_
  subst hR
  exact ⟨.inl rfl, rfl, rfl⟩
end Go.Proofs.Ytpgenmflgdkfiaa
