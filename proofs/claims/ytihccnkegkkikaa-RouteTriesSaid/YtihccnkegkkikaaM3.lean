import Derived.Test.YtihccnkegkkikaaM2
/- Small functions of layout. No conditions. -/
namespace Go.Proofs.Ytihccnkegkkikaa
open Go.Am
structure Member where
  node : Int
  site : Int
  fresh : Bool
  deriving Inhabited
def eMember : Enc Member := ⟨3, fun x => [.lit (.int .i64 x.node), .lit (.int .i64 x.site), .lit (.bool x.fresh)], fun _ => rfl⟩
structure Chain where
  epoch : Int
  members : (Sl Member)
  deriving Inhabited
def eChain : Enc Chain := ⟨2, fun x => [.lit (.int .i64 x.epoch), .sl (some x.members.nil) x.members.D.length (encL eMember x.members.D)], fun _ => rfl⟩
def mIn (n : Int) : Bool :=
  (bif (decide (n ≥ 0)) then (decide (n < 64)) else false)
theorem mIn_calls (n : Int)  : PCalls Try.prog 46 [.pv (.lit (.int .i64 n))] (.pv (.lit (.bool (mIn n)))) := by
 generalize hR : mIn n = R
 refine PCalls.of_body tabOk Try.func46 rfl rfl rfl rfl rfl mixed fun E hP C hI => ?_
 refine Awp.consP C ?_
 refine rvP C (.pv (.lit (.bool false))) ?_
 refine rvc_nil ?_
 refine Awp.consP C ?_
 refine rvP C (.pv (.lit (.int .i64 n))) ?_
 refine rvP C (.pv (.lit (.bool (decide (n ≥ 0))))) ?_
 refine rvP C (.pv (.lit (.bool (decide (n ≥ 0))))) ?_
 refine rvc_case 5 (decide (n ≥ 0)) rfl (fun h1 => ?_) (fun h1 => ?_)
 ·
  replace hR := of_true h1 hR
  refine rvO C (.pv (.lit (.int .i64 n))) ?_
  refine rvO C (.pv (.lit (.bool (decide (n < 64))))) ?_
  refine rvP C (.pv (.lit (.bool (decide (n < 64))))) ?_
  refine rvP C (.pv (.lit (.bool (decide (n < 64))))) ?_
  refine rvc_nil ?_
  refine Awp.ret ?_
  subst hR
  exact ⟨.inl rfl, rfl⟩
 ·
  replace hR := of_false h1 hR
  refine rvS ?_
  refine rvS ?_
  refine rvP C (.pv (.lit (.bool false))) ?_
  refine rvP C (.pv (.lit (.bool false))) ?_
  refine rvc_nil ?_
  refine Awp.ret ?_
  subst hR
  exact ⟨.inl rfl, rfl⟩
def mHas (s : Int) (n : Int) : Bool :=
  (bif (mIn n) then ((bitI .and .u64 (shrI .u64 s n) 1) == 1) else false)
theorem mHas_calls (s : Int) (n : Int)  : PCalls Try.prog 24 [.pv (.lit (.int .u64 s)), .pv (.lit (.int .i64 n))] (.pv (.lit (.bool (mHas s n)))) := by
 generalize hR : mHas s n = R
 refine PCalls.of_body tabOk Try.func24 rfl rfl rfl rfl rfl mixed fun E hP C hI => ?_
 refine Awp.consP C ?_
 refine rvP C (.pv (.lit (.bool false))) ?_
 refine rvc_nil ?_
 refine Awp.consP C ?_
 refine rvP C (.pv (.lit (.int .i64 n))) ?_
 refine rvc_un (rexec_call hP C rfl rfl rfl (mIn_calls n) ?_)
 refine rvP C (.pv (.lit (.bool (mIn n)))) ?_
 refine rvc_case 7 (mIn n) rfl (fun h1 => ?_) (fun h1 => ?_)
 ·
  replace hR := of_true h1 hR
  refine rvO C (.pv (.lit (.int .u64 s))) ?_
  refine rvO C (.pv (.lit (.int .i64 n))) ?_
  refine rvc_open rfl rfl rfl (rexec_prim C (δ := { v := .pv (.lit (.int .u64 (shrI .u64 s n))) }) rfl rfl rfl rfl (by simp [mIn] at h1; omega) rfl ?_)
  refine rvO C (.pv (.lit (.int .u64 (bitI .and .u64 (shrI .u64 s n) 1)))) ?_
  refine rvO C (.pv (.lit (.bool ((bitI .and .u64 (shrI .u64 s n) 1) == 1)))) ?_
  refine rvP C (.pv (.lit (.bool ((bitI .and .u64 (shrI .u64 s n) 1) == 1)))) ?_
  refine rvP C (.pv (.lit (.bool ((bitI .and .u64 (shrI .u64 s n) 1) == 1)))) ?_
  refine rvc_nil ?_
  refine Awp.ret ?_
  subst hR
  exact ⟨.inl rfl, rfl⟩
 ·
  replace hR := of_false h1 hR
  refine rvS ?_
  refine rvS ?_
  refine rvS ?_
  refine rvS ?_
  refine rvS ?_
  refine rvP C (.pv (.lit (.bool false))) ?_
  refine rvP C (.pv (.lit (.bool false))) ?_
  refine rvc_nil ?_
  refine Awp.ret ?_
  subst hR
  exact ⟨.inl rfl, rfl⟩
def mWith (s : Int) (n : Int) : Int :=
  (bif (!(mIn n)) then s else (bitI .or .u64 s (shlI .u64 1 n)))
theorem mWith_calls (s : Int) (n : Int)  : PCalls Try.prog 25 [.pv (.lit (.int .u64 s)), .pv (.lit (.int .i64 n))] (.pv (.lit (.int .u64 (mWith s n)))) := by
 generalize hR : mWith s n = R
 refine PCalls.of_body tabOk Try.func25 rfl rfl rfl rfl rfl mixed fun E hP C hI => ?_
 refine Awp.consP C ?_
 refine rvP C (.pv (.lit (.int .u64 0))) ?_
 refine rvc_nil ?_
 refine Awp.seq ?_
 refine Awp.consP C ?_
 refine rvP C (.pv (.lit (.int .i64 n))) ?_
 refine rvc_un (rexec_call hP C rfl rfl rfl (mIn_calls n) ?_)
 refine rvP C (.pv (.lit (.bool (!(mIn n))))) ?_
 refine rvc_nil ?_
 refine Awp.cond (b := (!(mIn n))) rfl (fun h1 => ?_) (fun h1 => ?_)
 ·
  replace hR := of_true h1 hR
  refine Awp.consP C ?_
  refine rvP C (.pv (.lit (.int .u64 s))) ?_
  refine rvP C (.pv (.lit (.int .u64 s))) ?_
  refine rvc_nil ?_
  refine Awp.ret ?_
  subst hR
  exact ⟨.inl rfl, rfl⟩
 ·
  replace hR := of_false h1 hR
  refine Awp.skip ?_
  refine Awp.consP C ?_
  refine rvP C (.pv (.lit (.int .u64 s))) ?_
  refine rvP C (.pv (.lit (.int .i64 n))) ?_
  refine rvc_un (rexec_prim C (δ := { v := .pv (.lit (.int .u64 (shlI .u64 1 n))) }) rfl rfl rfl rfl (by simp [mIn] at h1; omega) rfl ?_)
  refine rvP C (.pv (.lit (.int .u64 (bitI .or .u64 s (shlI .u64 1 n))))) ?_
  refine rvP C (.pv (.lit (.int .u64 (bitI .or .u64 s (shlI .u64 1 n))))) ?_
  refine rvc_nil ?_
  refine Awp.ret ?_
  subst hR
  exact ⟨.inl rfl, rfl⟩
def mLen (s : Int) : Int :=
  (IntKind.i64.wrap (shrI .u64 (IntKind.u64.wrap ((bitI .and .u64 (IntKind.u64.wrap ((IntKind.u64.wrap ((bitI .and .u64 (IntKind.u64.wrap (s - (bitI .and .u64 (shrI .u64 s 1) 6148914691236517205))) 3689348814741910323) + (bitI .and .u64 (shrI .u64 (IntKind.u64.wrap (s - (bitI .and .u64 (shrI .u64 s 1) 6148914691236517205))) 2) 3689348814741910323))) + (shrI .u64 (IntKind.u64.wrap ((bitI .and .u64 (IntKind.u64.wrap (s - (bitI .and .u64 (shrI .u64 s 1) 6148914691236517205))) 3689348814741910323) + (bitI .and .u64 (shrI .u64 (IntKind.u64.wrap (s - (bitI .and .u64 (shrI .u64 s 1) 6148914691236517205))) 2) 3689348814741910323))) 4))) 1085102592571150095) * 72340172838076673)) 56))
theorem mLen_calls (s : Int)  : PCalls Try.prog 61 [.pv (.lit (.int .u64 s))] (.pv (.lit (.int .i64 (mLen s)))) := by
 generalize hR : mLen s = R
 refine PCalls.of_body tabOk Try.func61 rfl rfl rfl rfl rfl mixed fun E hP C hI => ?_
 refine Awp.consP C ?_
 refine rvP C (.pv (.lit (.int .i64 0))) ?_
 refine rvc_nil ?_
 refine Awp.consP C ?_
 refine rvP C (.pv (.lit (.int .u64 s))) ?_
 refine rvP C (.pv (.lit (.int .u64 s))) ?_
 refine rvc_nil ?_
 refine Awp.consP C ?_
 refine rvP C (.pv (.lit (.int .u64 s))) ?_
 refine rvP C (.pv (.lit (.int .u64 s))) ?_
 refine rvc_un (rexec_prim C (δ := { v := .pv (.lit (.int .u64 (shrI .u64 s 1))) }) rfl rfl rfl rfl (by first | decide | assumption | omega) rfl ?_)
 refine rvP C (.pv (.lit (.int .u64 (bitI .and .u64 (shrI .u64 s 1) 6148914691236517205)))) ?_
 refine rvP C (.pv (.lit (.int .u64 (IntKind.u64.wrap (s - (bitI .and .u64 (shrI .u64 s 1) 6148914691236517205)))))) ?_
 refine rvP C (.pv (.lit (.int .u64 (IntKind.u64.wrap (s - (bitI .and .u64 (shrI .u64 s 1) 6148914691236517205)))))) ?_
 refine rvc_nil ?_
 refine Awp.consP C ?_
 refine rvP C (.pv (.lit (.int .u64 (IntKind.u64.wrap (s - (bitI .and .u64 (shrI .u64 s 1) 6148914691236517205)))))) ?_
 refine rvP C (.pv (.lit (.int .u64 (bitI .and .u64 (IntKind.u64.wrap (s - (bitI .and .u64 (shrI .u64 s 1) 6148914691236517205))) 3689348814741910323)))) ?_
 refine rvP C (.pv (.lit (.int .u64 (IntKind.u64.wrap (s - (bitI .and .u64 (shrI .u64 s 1) 6148914691236517205)))))) ?_
 refine rvc_un (rexec_prim C (δ := { v := .pv (.lit (.int .u64 (shrI .u64 (IntKind.u64.wrap (s - (bitI .and .u64 (shrI .u64 s 1) 6148914691236517205))) 2))) }) rfl rfl rfl rfl (by first | decide | assumption | omega) rfl ?_)
 refine rvP C (.pv (.lit (.int .u64 (bitI .and .u64 (shrI .u64 (IntKind.u64.wrap (s - (bitI .and .u64 (shrI .u64 s 1) 6148914691236517205))) 2) 3689348814741910323)))) ?_
 refine rvP C (.pv (.lit (.int .u64 (IntKind.u64.wrap ((bitI .and .u64 (IntKind.u64.wrap (s - (bitI .and .u64 (shrI .u64 s 1) 6148914691236517205))) 3689348814741910323) + (bitI .and .u64 (shrI .u64 (IntKind.u64.wrap (s - (bitI .and .u64 (shrI .u64 s 1) 6148914691236517205))) 2) 3689348814741910323)))))) ?_
 refine rvP C (.pv (.lit (.int .u64 (IntKind.u64.wrap ((bitI .and .u64 (IntKind.u64.wrap (s - (bitI .and .u64 (shrI .u64 s 1) 6148914691236517205))) 3689348814741910323) + (bitI .and .u64 (shrI .u64 (IntKind.u64.wrap (s - (bitI .and .u64 (shrI .u64 s 1) 6148914691236517205))) 2) 3689348814741910323)))))) ?_
 refine rvc_nil ?_
 refine Awp.consP C ?_
 refine rvP C (.pv (.lit (.int .u64 (IntKind.u64.wrap ((bitI .and .u64 (IntKind.u64.wrap (s - (bitI .and .u64 (shrI .u64 s 1) 6148914691236517205))) 3689348814741910323) + (bitI .and .u64 (shrI .u64 (IntKind.u64.wrap (s - (bitI .and .u64 (shrI .u64 s 1) 6148914691236517205))) 2) 3689348814741910323)))))) ?_
 refine rvP C (.pv (.lit (.int .u64 (IntKind.u64.wrap ((bitI .and .u64 (IntKind.u64.wrap (s - (bitI .and .u64 (shrI .u64 s 1) 6148914691236517205))) 3689348814741910323) + (bitI .and .u64 (shrI .u64 (IntKind.u64.wrap (s - (bitI .and .u64 (shrI .u64 s 1) 6148914691236517205))) 2) 3689348814741910323)))))) ?_
 refine rvc_un (rexec_prim C (δ := { v := .pv (.lit (.int .u64 (shrI .u64 (IntKind.u64.wrap ((bitI .and .u64 (IntKind.u64.wrap (s - (bitI .and .u64 (shrI .u64 s 1) 6148914691236517205))) 3689348814741910323) + (bitI .and .u64 (shrI .u64 (IntKind.u64.wrap (s - (bitI .and .u64 (shrI .u64 s 1) 6148914691236517205))) 2) 3689348814741910323))) 4))) }) rfl rfl rfl rfl (by first | decide | assumption | omega) rfl ?_)
 refine rvP C (.pv (.lit (.int .u64 (IntKind.u64.wrap ((IntKind.u64.wrap ((bitI .and .u64 (IntKind.u64.wrap (s - (bitI .and .u64 (shrI .u64 s 1) 6148914691236517205))) 3689348814741910323) + (bitI .and .u64 (shrI .u64 (IntKind.u64.wrap (s - (bitI .and .u64 (shrI .u64 s 1) 6148914691236517205))) 2) 3689348814741910323))) + (shrI .u64 (IntKind.u64.wrap ((bitI .and .u64 (IntKind.u64.wrap (s - (bitI .and .u64 (shrI .u64 s 1) 6148914691236517205))) 3689348814741910323) + (bitI .and .u64 (shrI .u64 (IntKind.u64.wrap (s - (bitI .and .u64 (shrI .u64 s 1) 6148914691236517205))) 2) 3689348814741910323))) 4)))))) ?_
 refine rvP C (.pv (.lit (.int .u64 (bitI .and .u64 (IntKind.u64.wrap ((IntKind.u64.wrap ((bitI .and .u64 (IntKind.u64.wrap (s - (bitI .and .u64 (shrI .u64 s 1) 6148914691236517205))) 3689348814741910323) + (bitI .and .u64 (shrI .u64 (IntKind.u64.wrap (s - (bitI .and .u64 (shrI .u64 s 1) 6148914691236517205))) 2) 3689348814741910323))) + (shrI .u64 (IntKind.u64.wrap ((bitI .and .u64 (IntKind.u64.wrap (s - (bitI .and .u64 (shrI .u64 s 1) 6148914691236517205))) 3689348814741910323) + (bitI .and .u64 (shrI .u64 (IntKind.u64.wrap (s - (bitI .and .u64 (shrI .u64 s 1) 6148914691236517205))) 2) 3689348814741910323))) 4))) 1085102592571150095)))) ?_
 refine rvP C (.pv (.lit (.int .u64 (bitI .and .u64 (IntKind.u64.wrap ((IntKind.u64.wrap ((bitI .and .u64 (IntKind.u64.wrap (s - (bitI .and .u64 (shrI .u64 s 1) 6148914691236517205))) 3689348814741910323) + (bitI .and .u64 (shrI .u64 (IntKind.u64.wrap (s - (bitI .and .u64 (shrI .u64 s 1) 6148914691236517205))) 2) 3689348814741910323))) + (shrI .u64 (IntKind.u64.wrap ((bitI .and .u64 (IntKind.u64.wrap (s - (bitI .and .u64 (shrI .u64 s 1) 6148914691236517205))) 3689348814741910323) + (bitI .and .u64 (shrI .u64 (IntKind.u64.wrap (s - (bitI .and .u64 (shrI .u64 s 1) 6148914691236517205))) 2) 3689348814741910323))) 4))) 1085102592571150095)))) ?_
 refine rvc_nil ?_
 refine Awp.consP C ?_
 refine rvP C (.pv (.lit (.int .u64 (bitI .and .u64 (IntKind.u64.wrap ((IntKind.u64.wrap ((bitI .and .u64 (IntKind.u64.wrap (s - (bitI .and .u64 (shrI .u64 s 1) 6148914691236517205))) 3689348814741910323) + (bitI .and .u64 (shrI .u64 (IntKind.u64.wrap (s - (bitI .and .u64 (shrI .u64 s 1) 6148914691236517205))) 2) 3689348814741910323))) + (shrI .u64 (IntKind.u64.wrap ((bitI .and .u64 (IntKind.u64.wrap (s - (bitI .and .u64 (shrI .u64 s 1) 6148914691236517205))) 3689348814741910323) + (bitI .and .u64 (shrI .u64 (IntKind.u64.wrap (s - (bitI .and .u64 (shrI .u64 s 1) 6148914691236517205))) 2) 3689348814741910323))) 4))) 1085102592571150095)))) ?_
 refine rvP C (.pv (.lit (.int .u64 (IntKind.u64.wrap ((bitI .and .u64 (IntKind.u64.wrap ((IntKind.u64.wrap ((bitI .and .u64 (IntKind.u64.wrap (s - (bitI .and .u64 (shrI .u64 s 1) 6148914691236517205))) 3689348814741910323) + (bitI .and .u64 (shrI .u64 (IntKind.u64.wrap (s - (bitI .and .u64 (shrI .u64 s 1) 6148914691236517205))) 2) 3689348814741910323))) + (shrI .u64 (IntKind.u64.wrap ((bitI .and .u64 (IntKind.u64.wrap (s - (bitI .and .u64 (shrI .u64 s 1) 6148914691236517205))) 3689348814741910323) + (bitI .and .u64 (shrI .u64 (IntKind.u64.wrap (s - (bitI .and .u64 (shrI .u64 s 1) 6148914691236517205))) 2) 3689348814741910323))) 4))) 1085102592571150095) * 72340172838076673))))) ?_
 refine rvc_un (rexec_prim C (δ := { v := .pv (.lit (.int .u64 (shrI .u64 (IntKind.u64.wrap ((bitI .and .u64 (IntKind.u64.wrap ((IntKind.u64.wrap ((bitI .and .u64 (IntKind.u64.wrap (s - (bitI .and .u64 (shrI .u64 s 1) 6148914691236517205))) 3689348814741910323) + (bitI .and .u64 (shrI .u64 (IntKind.u64.wrap (s - (bitI .and .u64 (shrI .u64 s 1) 6148914691236517205))) 2) 3689348814741910323))) + (shrI .u64 (IntKind.u64.wrap ((bitI .and .u64 (IntKind.u64.wrap (s - (bitI .and .u64 (shrI .u64 s 1) 6148914691236517205))) 3689348814741910323) + (bitI .and .u64 (shrI .u64 (IntKind.u64.wrap (s - (bitI .and .u64 (shrI .u64 s 1) 6148914691236517205))) 2) 3689348814741910323))) 4))) 1085102592571150095) * 72340172838076673)) 56))) }) rfl rfl rfl rfl (by first | decide | assumption | omega) rfl ?_)
 refine rvP C (.pv (.lit (.int .i64 (IntKind.i64.wrap (shrI .u64 (IntKind.u64.wrap ((bitI .and .u64 (IntKind.u64.wrap ((IntKind.u64.wrap ((bitI .and .u64 (IntKind.u64.wrap (s - (bitI .and .u64 (shrI .u64 s 1) 6148914691236517205))) 3689348814741910323) + (bitI .and .u64 (shrI .u64 (IntKind.u64.wrap (s - (bitI .and .u64 (shrI .u64 s 1) 6148914691236517205))) 2) 3689348814741910323))) + (shrI .u64 (IntKind.u64.wrap ((bitI .and .u64 (IntKind.u64.wrap (s - (bitI .and .u64 (shrI .u64 s 1) 6148914691236517205))) 3689348814741910323) + (bitI .and .u64 (shrI .u64 (IntKind.u64.wrap (s - (bitI .and .u64 (shrI .u64 s 1) 6148914691236517205))) 2) 3689348814741910323))) 4))) 1085102592571150095) * 72340172838076673)) 56))))) ?_
 refine rvP C (.pv (.lit (.int .i64 (IntKind.i64.wrap (shrI .u64 (IntKind.u64.wrap ((bitI .and .u64 (IntKind.u64.wrap ((IntKind.u64.wrap ((bitI .and .u64 (IntKind.u64.wrap (s - (bitI .and .u64 (shrI .u64 s 1) 6148914691236517205))) 3689348814741910323) + (bitI .and .u64 (shrI .u64 (IntKind.u64.wrap (s - (bitI .and .u64 (shrI .u64 s 1) 6148914691236517205))) 2) 3689348814741910323))) + (shrI .u64 (IntKind.u64.wrap ((bitI .and .u64 (IntKind.u64.wrap (s - (bitI .and .u64 (shrI .u64 s 1) 6148914691236517205))) 3689348814741910323) + (bitI .and .u64 (shrI .u64 (IntKind.u64.wrap (s - (bitI .and .u64 (shrI .u64 s 1) 6148914691236517205))) 2) 3689348814741910323))) 4))) 1085102592571150095) * 72340172838076673)) 56))))) ?_
 refine rvc_nil ?_
 refine Awp.ret ?_
 subst hR
 exact ⟨.inl rfl, rfl⟩
def member (m : Member) : Bool :=
  (bif (decide (m.node ≥ 0)) then (bif (decide (m.node < 6)) then (bif (decide (m.site ≥ 0)) then (decide (m.site < 3)) else false) else false) else false)
theorem member_calls (m : Member)  : PCalls Try.prog 44 [.agg [.pv (.lit (.int .i64 m.node)), .pv (.lit (.int .i64 m.site)), .pv (.lit (.bool m.fresh))]] (.pv (.lit (.bool (member m)))) := by
 generalize hR : member m = R
 refine PCalls.of_body tabOk Try.func44 rfl rfl rfl rfl rfl mixed fun E hP C hI => ?_
 refine Awp.consP C ?_
 refine rvc_un (rexec_prim C (δ := { v := .ptr 1 0, new := [(1, .cells [.pv (.lit (.int .i64 m.node)), .pv (.lit (.int .i64 m.site)), .pv (.lit (.bool m.fresh))])] }) rfl rfl rfl rfl trivial rfl ?_)
 refine rvP C (.pv (.lit (.bool false))) ?_
 refine rvc_nil ?_
 refine Awp.consP C ?_
 refine rvP C (.ptr 1 0) ?_
 refine rvP C (.pv (.lit (.int .i64 m.node))) ?_
 refine rvP C (.pv (.lit (.bool (decide (m.node ≥ 0))))) ?_
 refine rvP C (.pv (.lit (.bool (decide (m.node ≥ 0))))) ?_
 refine rvc_case 6 (decide (m.node ≥ 0)) rfl (fun h1 => ?_) (fun h1 => ?_)
 ·
  replace hR := of_true h1 hR
  refine rvO C (.ptr 1 0) ?_
  refine rvO C (.pv (.lit (.int .i64 m.node))) ?_
  refine rvO C (.pv (.lit (.bool (decide (m.node < 6))))) ?_
  refine rvP C (.pv (.lit (.bool (decide (m.node < 6))))) ?_
  refine rvP C (.pv (.lit (.bool (decide (m.node < 6))))) ?_
  refine rvc_case 11 (decide (m.node < 6)) rfl (fun h2 => ?_) (fun h2 => ?_)
  ·
   replace hR := of_true h2 hR
   refine rvO C (.ptr 1 1) ?_
   refine rvO C (.pv (.lit (.int .i64 m.site))) ?_
   refine rvO C (.pv (.lit (.bool (decide (m.site ≥ 0))))) ?_
   refine rvP C (.pv (.lit (.bool (decide (m.site ≥ 0))))) ?_
   refine rvP C (.pv (.lit (.bool (decide (m.site ≥ 0))))) ?_
   refine rvc_case 16 (decide (m.site ≥ 0)) rfl (fun h3 => ?_) (fun h3 => ?_)
   ·
    replace hR := of_true h3 hR
    refine rvO C (.ptr 1 1) ?_
    refine rvO C (.pv (.lit (.int .i64 m.site))) ?_
    refine rvO C (.pv (.lit (.bool (decide (m.site < 3))))) ?_
    refine rvP C (.pv (.lit (.bool (decide (m.site < 3))))) ?_
    refine rvP C (.pv (.lit (.bool (decide (m.site < 3))))) ?_
    refine rvc_nil ?_
    refine Awp.ret ?_
    subst hR
    exact ⟨.inl rfl, rfl⟩
   ·
    replace hR := of_false h3 hR
    refine rvS ?_
    refine rvS ?_
    refine rvS ?_
    refine rvP C (.pv (.lit (.bool false))) ?_
    refine rvP C (.pv (.lit (.bool false))) ?_
    refine rvc_nil ?_
    refine Awp.ret ?_
    subst hR
    exact ⟨.inl rfl, rfl⟩
  ·
   replace hR := of_false h2 hR
   refine rvS ?_
   refine rvS ?_
   refine rvS ?_
   refine rvP C (.pv (.lit (.bool false))) ?_
   refine rvP C (.pv (.lit (.bool false))) ?_
   refine rvS ?_
   refine rvS ?_
   refine rvS ?_
   refine rvP C (.pv (.lit (.bool false))) ?_
   refine rvP C (.pv (.lit (.bool false))) ?_
   refine rvc_nil ?_
   refine Awp.ret ?_
   subst hR
   exact ⟨.inl rfl, rfl⟩
 ·
  replace hR := of_false h1 hR
  refine rvS ?_
  refine rvS ?_
  refine rvS ?_
  refine rvP C (.pv (.lit (.bool false))) ?_
  refine rvP C (.pv (.lit (.bool false))) ?_
  refine rvS ?_
  refine rvS ?_
  refine rvS ?_
  refine rvP C (.pv (.lit (.bool false))) ?_
  refine rvP C (.pv (.lit (.bool false))) ?_
  refine rvS ?_
  refine rvS ?_
  refine rvS ?_
  refine rvP C (.pv (.lit (.bool false))) ?_
  refine rvP C (.pv (.lit (.bool false))) ?_
  refine rvc_nil ?_
  refine Awp.ret ?_
  subst hR
  exact ⟨.inl rfl, rfl⟩
def check_l0 : List Member → Nat → Int → Int → Int
  | [], _, _, _ => 0
  | x :: xs, i, seen, site => (bif (!(member x)) then 80 else (bif (mHas seen x.node) then 80 else (bif (decide (x.site < site)) then 80 else check_l0 xs (i + 1) (mWith seen x.node) x.site)))
def check (c : Chain) : Int :=
  (bif (decide (c.epoch < 1)) then 80 else (bif (decide (c.epoch > 1099511627776)) then 80 else (bif ((c.members.D.length : Int) == 0) then 80 else (bif c.members.D[0]!.fresh then 80 else check_l0 c.members.D 0 0 0))))
theorem check_calls (c : Chain) (hl1 : c.members.D.length ≤ 9223372036854775807) : PCalls Try.prog 21 [.agg [.pv (.lit (.int .i64 c.epoch)), sS (some c.members.nil) eMember c.members.D]] (.pv (.lit (.int .i64 (check c)))) := by
 generalize hR : check c = R
 refine PCalls.of_body tabOk Try.func21 rfl rfl rfl rfl rfl mixed fun E hP C hI => ?_
 refine Awp.consP C ?_
 refine rvc_un (rexec_prim C (δ := { v := .ptr 1 0, new := [(1, .cells [.pv (.lit (.int .i64 c.epoch)), sS (some c.members.nil) eMember c.members.D])] }) rfl rfl rfl rfl trivial rfl ?_)
 refine rvP C (.pv (.lit (.int .i64 0))) ?_
 refine rvc_nil ?_
 refine Awp.seq ?_
 refine Awp.consP C ?_
 refine rvP C (.ptr 1 0) ?_
 refine rvP C (.pv (.lit (.int .i64 c.epoch))) ?_
 refine rvP C (.pv (.lit (.bool (decide (c.epoch < 1))))) ?_
 refine rvP C (.pv (.lit (.bool (decide (c.epoch < 1))))) ?_
 refine rvc_case 10 (decide (c.epoch < 1)) rfl (fun h1 => ?_) (fun h1 => ?_)
 ·
  replace hR := of_true h1 hR
  refine rvS ?_
  refine rvS ?_
  refine rvS ?_
  refine rvP C (.pv (.lit (.bool true))) ?_
  refine rvP C (.pv (.lit (.bool true))) ?_
  refine rvS ?_
  refine rvS ?_
  refine rvS ?_
  refine rvS ?_
  refine rvP C (.pv (.lit (.bool true))) ?_
  refine rvP C (.pv (.lit (.bool true))) ?_
  refine rvS ?_
  refine rvS ?_
  refine rvS ?_
  refine rvS ?_
  refine rvS ?_
  refine rvP C (.pv (.lit (.bool true))) ?_
  refine rvc_nil ?_
  refine Awp.condT (b := true) rfl rfl ?_
  refine Awp.consP C ?_
  refine rvP C (.pv (.lit (.int .i64 80))) ?_
  refine rvc_nil ?_
  refine Awp.ret ?_
  subst hR
  exact ⟨.inl rfl, rfl⟩
 ·
  replace hR := of_false h1 hR
  refine rvO C (.ptr 1 0) ?_
  refine rvO C (.pv (.lit (.int .i64 c.epoch))) ?_
  refine rvO C (.pv (.lit (.bool (decide (c.epoch > 1099511627776))))) ?_
  refine rvP C (.pv (.lit (.bool (decide (c.epoch > 1099511627776))))) ?_
  refine rvP C (.pv (.lit (.bool (decide (c.epoch > 1099511627776))))) ?_
  refine rvc_case 15 (decide (c.epoch > 1099511627776)) rfl (fun h2 => ?_) (fun h2 => ?_)
  ·
   replace hR := of_true h2 hR
   refine rvS ?_
   refine rvS ?_
   refine rvS ?_
   refine rvS ?_
   refine rvP C (.pv (.lit (.bool true))) ?_
   refine rvP C (.pv (.lit (.bool true))) ?_
   refine rvS ?_
   refine rvS ?_
   refine rvS ?_
   refine rvS ?_
   refine rvS ?_
   refine rvP C (.pv (.lit (.bool true))) ?_
   refine rvc_nil ?_
   refine Awp.condT (b := true) rfl rfl ?_
   refine Awp.consP C ?_
   refine rvP C (.pv (.lit (.int .i64 80))) ?_
   refine rvc_nil ?_
   refine Awp.ret ?_
   subst hR
   exact ⟨.inl rfl, rfl⟩
  ·
   replace hR := of_false h2 hR
   refine rvO C (.ptr 1 1) ?_
   refine rvO C (sS (some c.members.nil) eMember c.members.D) ?_
   refine rvO C (.pv (.lit (.int .i64 (c.members.D.length : Int)))) ?_
   refine rvO C (.pv (.lit (.bool ((c.members.D.length : Int) == 0)))) ?_
   refine rvP C (.pv (.lit (.bool ((c.members.D.length : Int) == 0)))) ?_
   refine rvP C (.pv (.lit (.bool ((c.members.D.length : Int) == 0)))) ?_
   refine rvc_case 21 ((c.members.D.length : Int) == 0) rfl (fun h3 => ?_) (fun h3 => ?_)
   ·
    replace hR := of_true h3 hR
    refine rvS ?_
    refine rvS ?_
    refine rvS ?_
    refine rvS ?_
    refine rvS ?_
    refine rvP C (.pv (.lit (.bool true))) ?_
    refine rvc_nil ?_
    refine Awp.condT (b := true) rfl rfl ?_
    refine Awp.consP C ?_
    refine rvP C (.pv (.lit (.int .i64 80))) ?_
    refine rvc_nil ?_
    refine Awp.ret ?_
    subst hR
    exact ⟨.inl rfl, rfl⟩
   ·
    replace hR := of_false h3 hR
    refine rvO C (.ptr 1 1) ?_
    refine rvO C (sS (some c.members.nil) eMember c.members.D) ?_
    have h4 : c.members.D[0]? = some c.members.D[0]! := getE (by have := of_decide_eq_false h1; have := of_decide_eq_false h2; have := ne_of_beq_false h3; omega)
    refine rvc_open rfl rfl rfl (rexec_idxS C rfl rfl rfl rfl rfl rfl (c.members.D[0]!) (Int.natCast_nonneg _) h4 ?_)
    refine rvO C (.rp [.lit (.bool (c.members.D[0]!.fresh))]) ?_
    refine rvO C (.pv (.lit (.bool (c.members.D[0]!.fresh)))) ?_
    refine rvP C (.pv (.lit (.bool (c.members.D[0]!.fresh)))) ?_
    refine rvc_nil ?_
    refine Awp.cond (b := c.members.D[0]!.fresh) rfl (fun h5 => ?_) (fun h5 => ?_)
    ·
     replace hR := of_true h5 hR
     refine Awp.consP C ?_
     refine rvP C (.pv (.lit (.int .i64 80))) ?_
     refine rvc_nil ?_
     refine Awp.ret ?_
     subst hR
     exact ⟨.inl rfl, rfl⟩
    ·
     replace hR := of_false h5 hR
     refine Awp.skip ?_
     refine Awp.consP C ?_
     refine rvP C (.pv (.lit (.int .u64 0))) ?_
     refine rvc_nil ?_
     refine Awp.consP C ?_
     refine rvP C (.pv (.lit (.int .i64 0))) ?_
     refine rvc_nil ?_
     refine Awp.seq ?_
     refine Awp.consP C ?_
     refine rvP C (.ptr 1 1) ?_
     refine rvP C (sS (some c.members.nil) eMember c.members.D) ?_
     refine rvP C (.pv (.lit (.int .i64 (c.members.D.length : Int)))) ?_
     refine rvP C (.pv (.lit (.int .i64 0))) ?_
     refine rvc_nil ?_
     refine Awp.block ?_
     refine Awp.forR (σ := Int × Int) (c.members.D.length) (fun i v => [(3, .pv (.lit (.int .u64 v.1))), (4, .pv (.lit (.int .i64 v.2))), (29, sS (some c.members.nil) eMember c.members.D), (30, .pv (.lit (.int .i64 (c.members.D.length : Int)))), (31, .pv (.lit (.int .i64 (i : Int))))]) (fun i v => []) [] (fun i v => check_l0 (c.members.D.drop i) i v.1 v.2 = R) (0, 0) ?_ ?_ (fun i v h6 hR => ?_)
     · exact hR
     · exact ⟨fun b => b, WeakerR.ofL (Ks := []) hI ⟨⟨rfl, rfl⟩, ⟨rfl, rfl⟩, ⟨rfl, rfl⟩, ⟨rfl, rfl⟩, ⟨rfl, rfl⟩, trivial⟩ (okH_nil) rfl⟩
     obtain ⟨seen, site⟩ := v
     refine Awp.consP C ?_
     refine rvP C (.pv (.lit (.bool (decide ((i : Int) < (c.members.D.length : Int)))))) ?_
     refine rvc_nil ?_
     refine Awp.seq ?_
     refine Awp.cond (b := (decide ((i : Int) < (c.members.D.length : Int)))) rfl (fun h7 => ?_) (fun h7 => ?_)
     ·
      have h8 : i < c.members.D.length := by have := of_decide_eq_true h7; omega
      obtain ⟨x, h9⟩ := getX h8
      rw [drop_at h9] at hR
      refine Awp.skip ?_
      refine Awp.seq ?_
      refine Awp.block ?_
      refine Awp.consP C ?_
      refine rvc_un (rexec_idxS C rfl rfl rfl rfl rfl rfl x (Int.natCast_nonneg _) h9 ?_)
      refine rvP C (.agg [.pv (.lit (.int .i64 x.node)), .pv (.lit (.int .i64 x.site)), .pv (.lit (.bool x.fresh))]) ?_
      refine rvc_un (rexec_prim C (δ := { v := .ptr 6 0, new := [(6, .cells [.pv (.lit (.int .i64 0)), .pv (.lit (.int .i64 0)), .pv (.lit (.bool false))])] }) rfl rfl rfl rfl trivial rfl ?_)
      refine rvc_un (rexec_prim C (δ := { v := .undef, wr := [(6, some (.cells [.pv (.lit (.int .i64 x.node)), .pv (.lit (.int .i64 x.site)), .pv (.lit (.bool x.fresh))]))] }) rfl rfl rfl rfl trivial rfl ?_)
      refine rvc_nil ?_
      refine Awp.seq ?_
      refine Awp.consP C ?_
      refine rvP C (.agg [.pv (.lit (.int .i64 x.node)), .pv (.lit (.int .i64 x.site)), .pv (.lit (.bool x.fresh))]) ?_
      refine rvc_un (rexec_call hP C rfl rfl rfl (member_calls x) ?_)
      refine rvP C (.pv (.lit (.bool (!(member x))))) ?_
      refine rvP C (.pv (.lit (.bool (!(member x))))) ?_
      refine rvc_case 38 (!(member x)) rfl (fun h10 => ?_) (fun h10 => ?_)
      ·
       replace hR := of_true h10 hR
       refine rvS ?_
       refine rvS ?_
       refine rvS ?_
       refine rvS ?_
       refine rvP C (.pv (.lit (.bool true))) ?_
       refine rvP C (.pv (.lit (.bool true))) ?_
       refine rvS ?_
       refine rvS ?_
       refine rvS ?_
       refine rvS ?_
       refine rvP C (.pv (.lit (.bool true))) ?_
       refine rvc_nil ?_
       refine Awp.condT (b := true) rfl rfl ?_
       refine Awp.consP C ?_
       refine rvP C (.pv (.lit (.int .i64 80))) ?_
       refine rvc_nil ?_
       refine Awp.ret ?_
       subst hR
       exact ⟨.inl rfl, rfl⟩
      ·
       replace hR := of_false h10 hR
       refine rvO C (.pv (.lit (.int .u64 seen))) ?_
       refine rvO C (.ptr 6 0) ?_
       refine rvO C (.pv (.lit (.int .i64 x.node))) ?_
       refine rvc_open rfl rfl rfl (rexec_call hP C rfl rfl rfl (mHas_calls seen x.node) ?_)
       refine rvP C (.pv (.lit (.bool (mHas seen x.node)))) ?_
       refine rvP C (.pv (.lit (.bool (mHas seen x.node)))) ?_
       refine rvc_case 44 (mHas seen x.node) rfl (fun h11 => ?_) (fun h11 => ?_)
       ·
        replace hR := of_true h11 hR
        refine rvS ?_
        refine rvS ?_
        refine rvS ?_
        refine rvS ?_
        refine rvP C (.pv (.lit (.bool true))) ?_
        refine rvc_nil ?_
        refine Awp.condT (b := true) rfl rfl ?_
        refine Awp.consP C ?_
        refine rvP C (.pv (.lit (.int .i64 80))) ?_
        refine rvc_nil ?_
        refine Awp.ret ?_
        subst hR
        exact ⟨.inl rfl, rfl⟩
       ·
        replace hR := of_false h11 hR
        refine rvO C (.ptr 6 1) ?_
        refine rvO C (.pv (.lit (.int .i64 x.site))) ?_
        refine rvO C (.pv (.lit (.int .i64 site))) ?_
        refine rvO C (.pv (.lit (.bool (decide (x.site < site))))) ?_
        refine rvP C (.pv (.lit (.bool (decide (x.site < site))))) ?_
        refine rvc_nil ?_
        refine Awp.cond (b := (decide (x.site < site))) rfl (fun h12 => ?_) (fun h12 => ?_)
        ·
         replace hR := of_true h12 hR
         refine Awp.consP C ?_
         refine rvP C (.pv (.lit (.int .i64 80))) ?_
         refine rvc_nil ?_
         refine Awp.ret ?_
         subst hR
         exact ⟨.inl rfl, rfl⟩
        ·
         replace hR := of_false h12 hR
         refine Awp.skip ?_
         refine Awp.regionP C ?_
         refine rvP C (.pv (.lit (.int .u64 seen))) ?_
         refine rvP C (.ptr 6 0) ?_
         refine rvP C (.pv (.lit (.int .i64 x.node))) ?_
         refine rvc_un (rexec_call hP C rfl rfl rfl (mWith_calls seen x.node) ?_)
         refine rvP C (.ptr 6 1) ?_
         refine rvP C (.pv (.lit (.int .i64 x.site))) ?_
         refine rvP C (.pv (.lit (.int .u64 (mWith seen x.node)))) ?_
         refine rvP C (.pv (.lit (.int .i64 x.site))) ?_
         refine rvc_nil ?_
         refine Awp.regionP C ?_
         refine rvP C (.pv (.lit (.int .i64 (IntKind.i64.wrap ((i : Int) + 1))))) ?_
         refine rvP C (.pv (.lit (.int .i64 (IntKind.i64.wrap ((i : Int) + 1))))) ?_
         refine rvc_nil ?_
         refine ⟨h8, ((mWith seen x.node), x.site), ?_, ?_⟩
         · exact hR
         · exact ⟨fun b => b, WeakerR.ofL (Ks := []) hI ⟨⟨rfl, rfl⟩, ⟨rfl, rfl⟩, ⟨rfl, rfl⟩, ⟨rfl, rfl⟩, ⟨lit_cast (wrap_i64 (by omega) (by omega)), rfl⟩, trivial⟩ (okH_nil) rfl⟩
     ·
      have h8 : ¬ i < c.members.D.length := by have := of_decide_eq_false h7; omega
      rw [drop_end h8] at hR
      refine Awp.exit ?_
      refine Awp.consP C ?_
      refine rvP C (.pv (.lit (.int .i64 0))) ?_
      refine rvc_nil ?_
      refine Awp.ret ?_
      subst hR
      exact ⟨.inl rfl, rfl⟩
def eqMembers_l0 (s2 : (Sl Member)) : List Member → Nat → Bool
  | [], _ => true
  | x :: xs, i => (bif (!((x.node == (s2.D[(i : Int).toNat]!.node)) && ((x.site == (s2.D[(i : Int).toNat]!.site)) && ((x.fresh == (s2.D[(i : Int).toNat]!.fresh)) && true)))) then false else eqMembers_l0 s2 xs (i + 1) )
def eqMembers (s1 : (Sl Member)) (s2 : (Sl Member)) : Bool :=
  (bif ((s1.D.length : Int) != (s2.D.length : Int)) then false else eqMembers_l0 s2 s1.D 0 )
def same (a : Chain) (b : Chain) : Bool :=
  (bif (a.epoch == b.epoch) then (eqMembers a.members b.members) else false)
def rCheck_l1 (x : Member) (kk : Int) : List Member → Nat → Int
  | [], _ => kk 
  | x1 :: x1s, i1 => (bif (x1.node == x.node) then 80 else (bif (decide (x1.site > x.site)) then 80 else rCheck_l1 x kk x1s (i1 + 1) ))
def rCheck_l0 (c : Chain) : List Member → Nat → Int
  | [], _ => 0
  | x :: xs, i => (bif (decide (x.node < 0)) then 80 else (bif (decide (x.node > 5)) then 80 else (bif (decide (x.site < 0)) then 80 else (bif (decide (x.site > 2)) then 80 else rCheck_l1 x (rCheck_l0 c xs (i + 1) ) (c.members.D.take i) 0 ))))
def rCheck (c : Chain) : Int :=
  (bif (decide (c.epoch < 1)) then 80 else (bif (decide (c.epoch > 1099511627776)) then 80 else (bif ((c.members.D.length : Int) == 0) then 80 else (bif (decide ((c.members.D.length : Int) > 6)) then 80 else (bif c.members.D[0]!.fresh then 80 else rCheck_l0 c c.members.D 0 )))))
theorem rCheck_calls (c : Chain) (hl1 : c.members.D.length ≤ 9223372036854775807) : PCalls Try.prog 52 [.agg [.pv (.lit (.int .i64 c.epoch)), sS (some c.members.nil) eMember c.members.D]] (.pv (.lit (.int .i64 (rCheck c)))) := by
 generalize hR : rCheck c = R
 refine PCalls.of_body tabOk Try.func52 rfl rfl rfl rfl rfl mixed fun E hP C hI => ?_
 refine Awp.consP C ?_
 refine rvc_un (rexec_prim C (δ := { v := .ptr 1 0, new := [(1, .cells [.pv (.lit (.int .i64 c.epoch)), sS (some c.members.nil) eMember c.members.D])] }) rfl rfl rfl rfl trivial rfl ?_)
 refine rvP C (.pv (.lit (.int .i64 0))) ?_
 refine rvc_nil ?_
 refine Awp.seq ?_
 refine Awp.consP C ?_
 refine rvP C (.ptr 1 0) ?_
 refine rvP C (.pv (.lit (.int .i64 c.epoch))) ?_
 refine rvP C (.pv (.lit (.bool (decide (c.epoch < 1))))) ?_
 refine rvP C (.pv (.lit (.bool (decide (c.epoch < 1))))) ?_
 refine rvc_case 10 (decide (c.epoch < 1)) rfl (fun h1 => ?_) (fun h1 => ?_)
 ·
  replace hR := of_true h1 hR
  refine rvS ?_
  refine rvS ?_
  refine rvS ?_
  refine rvP C (.pv (.lit (.bool true))) ?_
  refine rvP C (.pv (.lit (.bool true))) ?_
  refine rvS ?_
  refine rvS ?_
  refine rvS ?_
  refine rvS ?_
  refine rvP C (.pv (.lit (.bool true))) ?_
  refine rvP C (.pv (.lit (.bool true))) ?_
  refine rvS ?_
  refine rvS ?_
  refine rvS ?_
  refine rvS ?_
  refine rvP C (.pv (.lit (.bool true))) ?_
  refine rvc_nil ?_
  refine Awp.condT (b := true) rfl rfl ?_
  refine Awp.consP C ?_
  refine rvP C (.pv (.lit (.int .i64 80))) ?_
  refine rvc_nil ?_
  refine Awp.ret ?_
  subst hR
  exact ⟨.inl rfl, rfl⟩
 ·
  replace hR := of_false h1 hR
  refine rvO C (.ptr 1 0) ?_
  refine rvO C (.pv (.lit (.int .i64 c.epoch))) ?_
  refine rvO C (.pv (.lit (.bool (decide (c.epoch > 1099511627776))))) ?_
  refine rvP C (.pv (.lit (.bool (decide (c.epoch > 1099511627776))))) ?_
  refine rvP C (.pv (.lit (.bool (decide (c.epoch > 1099511627776))))) ?_
  refine rvc_case 15 (decide (c.epoch > 1099511627776)) rfl (fun h2 => ?_) (fun h2 => ?_)
  ·
   replace hR := of_true h2 hR
   refine rvS ?_
   refine rvS ?_
   refine rvS ?_
   refine rvS ?_
   refine rvP C (.pv (.lit (.bool true))) ?_
   refine rvP C (.pv (.lit (.bool true))) ?_
   refine rvS ?_
   refine rvS ?_
   refine rvS ?_
   refine rvS ?_
   refine rvP C (.pv (.lit (.bool true))) ?_
   refine rvc_nil ?_
   refine Awp.condT (b := true) rfl rfl ?_
   refine Awp.consP C ?_
   refine rvP C (.pv (.lit (.int .i64 80))) ?_
   refine rvc_nil ?_
   refine Awp.ret ?_
   subst hR
   exact ⟨.inl rfl, rfl⟩
  ·
   replace hR := of_false h2 hR
   refine rvO C (.ptr 1 1) ?_
   refine rvO C (sS (some c.members.nil) eMember c.members.D) ?_
   refine rvO C (.pv (.lit (.int .i64 (c.members.D.length : Int)))) ?_
   refine rvO C (.pv (.lit (.bool ((c.members.D.length : Int) == 0)))) ?_
   refine rvP C (.pv (.lit (.bool ((c.members.D.length : Int) == 0)))) ?_
   refine rvP C (.pv (.lit (.bool ((c.members.D.length : Int) == 0)))) ?_
   refine rvc_case 21 ((c.members.D.length : Int) == 0) rfl (fun h3 => ?_) (fun h3 => ?_)
   ·
    replace hR := of_true h3 hR
    refine rvS ?_
    refine rvS ?_
    refine rvS ?_
    refine rvS ?_
    refine rvP C (.pv (.lit (.bool true))) ?_
    refine rvc_nil ?_
    refine Awp.condT (b := true) rfl rfl ?_
    refine Awp.consP C ?_
    refine rvP C (.pv (.lit (.int .i64 80))) ?_
    refine rvc_nil ?_
    refine Awp.ret ?_
    subst hR
    exact ⟨.inl rfl, rfl⟩
   ·
    replace hR := of_false h3 hR
    refine rvO C (.ptr 1 1) ?_
    refine rvO C (sS (some c.members.nil) eMember c.members.D) ?_
    refine rvO C (.pv (.lit (.int .i64 (c.members.D.length : Int)))) ?_
    refine rvO C (.pv (.lit (.bool (decide ((c.members.D.length : Int) > 6))))) ?_
    refine rvP C (.pv (.lit (.bool (decide ((c.members.D.length : Int) > 6))))) ?_
    refine rvc_nil ?_
    refine Awp.cond (b := (decide ((c.members.D.length : Int) > 6))) rfl (fun h4 => ?_) (fun h4 => ?_)
    ·
     replace hR := of_true h4 hR
     refine Awp.consP C ?_
     refine rvP C (.pv (.lit (.int .i64 80))) ?_
     refine rvc_nil ?_
     refine Awp.ret ?_
     subst hR
     exact ⟨.inl rfl, rfl⟩
    ·
     replace hR := of_false h4 hR
     refine Awp.skip ?_
     refine Awp.seq ?_
     refine Awp.consP C ?_
     refine rvP C (.ptr 1 1) ?_
     refine rvP C (sS (some c.members.nil) eMember c.members.D) ?_
     have h5 : c.members.D[0]? = some c.members.D[0]! := getE (by have := of_decide_eq_false h1; have := of_decide_eq_false h2; have := ne_of_beq_false h3; have := of_decide_eq_false h4; omega)
     refine rvc_un (rexec_idxS C rfl rfl rfl rfl rfl rfl (c.members.D[0]!) (Int.natCast_nonneg _) h5 ?_)
     refine rvP C (.rp [.lit (.bool (c.members.D[0]!.fresh))]) ?_
     refine rvP C (.pv (.lit (.bool (c.members.D[0]!.fresh)))) ?_
     refine rvc_nil ?_
     refine Awp.cond (b := c.members.D[0]!.fresh) rfl (fun h6 => ?_) (fun h6 => ?_)
     ·
      replace hR := of_true h6 hR
      refine Awp.consP C ?_
      refine rvP C (.pv (.lit (.int .i64 80))) ?_
      refine rvc_nil ?_
      refine Awp.ret ?_
      subst hR
      exact ⟨.inl rfl, rfl⟩
     ·
      replace hR := of_false h6 hR
      refine Awp.skip ?_
      refine Awp.seq ?_
      refine Awp.consP C ?_
      refine rvP C (.ptr 1 1) ?_
      refine rvP C (sS (some c.members.nil) eMember c.members.D) ?_
      refine rvP C (.pv (.lit (.int .i64 (c.members.D.length : Int)))) ?_
      refine rvP C (.pv (.lit (.int .i64 0))) ?_
      refine rvc_nil ?_
      refine Awp.block ?_
      refine Awp.forR (σ := Unit) (c.members.D.length) (fun i _v => [(1, .ptr 1 0), (33, sS (some c.members.nil) eMember c.members.D), (34, .pv (.lit (.int .i64 (c.members.D.length : Int)))), (35, .pv (.lit (.int .i64 (i : Int))))]) (fun i _v => [(1, .cells [.pv (.lit (.int .i64 c.epoch)), sS (some c.members.nil) eMember c.members.D])]) [1] (fun i _v => rCheck_l0 c (c.members.D.drop i) i  = R) () ?_ ?_ (fun i _v h7 hR => ?_)
      · exact hR
      · exact ⟨fun b => b, WeakerR.ofL (Ks := [1]) hI ⟨⟨rfl, rfl⟩, ⟨rfl, rfl⟩, ⟨rfl, rfl⟩, ⟨rfl, rfl⟩, trivial⟩ (okH_cons rfl rfl rfl rfl (okH_nil)) rfl⟩
      refine Awp.consP C ?_
      refine rvP C (.pv (.lit (.bool (decide ((i : Int) < (c.members.D.length : Int)))))) ?_
      refine rvc_nil ?_
      refine Awp.seq ?_
      refine Awp.cond (b := (decide ((i : Int) < (c.members.D.length : Int)))) rfl (fun h8 => ?_) (fun h8 => ?_)
      ·
       have h9 : i < c.members.D.length := by have := of_decide_eq_true h8; omega
       obtain ⟨x, h10⟩ := getX h9
       rw [drop_at h10] at hR
       refine Awp.skip ?_
       refine Awp.seq ?_
       refine Awp.block ?_
       refine Awp.consP C ?_
       refine rvP C (.pv (.lit (.int .i64 (i : Int)))) ?_
       refine rvc_un (rexec_idxS C rfl rfl rfl rfl rfl rfl x (Int.natCast_nonneg _) h10 ?_)
       refine rvP C (.agg [.pv (.lit (.int .i64 x.node)), .pv (.lit (.int .i64 x.site)), .pv (.lit (.bool x.fresh))]) ?_
       refine rvc_un (rexec_prim C (δ := { v := .ptr 4 0, new := [(4, .cells [.pv (.lit (.int .i64 0)), .pv (.lit (.int .i64 0)), .pv (.lit (.bool false))])] }) rfl rfl rfl rfl trivial rfl ?_)
       refine rvP C (.pv (.lit (.int .i64 (i : Int)))) ?_
       refine rvc_un (rexec_prim C (δ := { v := .undef, wr := [(4, some (.cells [.pv (.lit (.int .i64 x.node)), .pv (.lit (.int .i64 x.site)), .pv (.lit (.bool x.fresh))]))] }) rfl rfl rfl rfl trivial rfl ?_)
       refine rvc_nil ?_
       refine Awp.seq ?_
       refine Awp.consP C ?_
       refine rvP C (.ptr 4 0) ?_
       refine rvP C (.pv (.lit (.int .i64 x.node))) ?_
       refine rvP C (.pv (.lit (.bool (decide (x.node < 0))))) ?_
       refine rvP C (.pv (.lit (.bool (decide (x.node < 0))))) ?_
       refine rvc_case 43 (decide (x.node < 0)) rfl (fun h11 => ?_) (fun h11 => ?_)
       ·
        replace hR := of_true h11 hR
        refine rvS ?_
        refine rvS ?_
        refine rvS ?_
        refine rvP C (.pv (.lit (.bool true))) ?_
        refine rvP C (.pv (.lit (.bool true))) ?_
        refine rvS ?_
        refine rvS ?_
        refine rvS ?_
        refine rvP C (.pv (.lit (.bool true))) ?_
        refine rvP C (.pv (.lit (.bool true))) ?_
        refine rvS ?_
        refine rvS ?_
        refine rvS ?_
        refine rvP C (.pv (.lit (.bool true))) ?_
        refine rvc_nil ?_
        refine Awp.condT (b := true) rfl rfl ?_
        refine Awp.consP C ?_
        refine rvP C (.pv (.lit (.int .i64 80))) ?_
        refine rvc_nil ?_
        refine Awp.ret ?_
        subst hR
        exact ⟨.inl rfl, rfl⟩
       ·
        replace hR := of_false h11 hR
        refine rvO C (.ptr 4 0) ?_
        refine rvO C (.pv (.lit (.int .i64 x.node))) ?_
        refine rvO C (.pv (.lit (.bool (decide (x.node > 5))))) ?_
        refine rvP C (.pv (.lit (.bool (decide (x.node > 5))))) ?_
        refine rvP C (.pv (.lit (.bool (decide (x.node > 5))))) ?_
        refine rvc_case 48 (decide (x.node > 5)) rfl (fun h12 => ?_) (fun h12 => ?_)
        ·
         replace hR := of_true h12 hR
         refine rvS ?_
         refine rvS ?_
         refine rvS ?_
         refine rvP C (.pv (.lit (.bool true))) ?_
         refine rvP C (.pv (.lit (.bool true))) ?_
         refine rvS ?_
         refine rvS ?_
         refine rvS ?_
         refine rvP C (.pv (.lit (.bool true))) ?_
         refine rvc_nil ?_
         refine Awp.condT (b := true) rfl rfl ?_
         refine Awp.consP C ?_
         refine rvP C (.pv (.lit (.int .i64 80))) ?_
         refine rvc_nil ?_
         refine Awp.ret ?_
         subst hR
         exact ⟨.inl rfl, rfl⟩
        ·
         replace hR := of_false h12 hR
         refine rvO C (.ptr 4 1) ?_
         refine rvO C (.pv (.lit (.int .i64 x.site))) ?_
         refine rvO C (.pv (.lit (.bool (decide (x.site < 0))))) ?_
         refine rvP C (.pv (.lit (.bool (decide (x.site < 0))))) ?_
         refine rvP C (.pv (.lit (.bool (decide (x.site < 0))))) ?_
         refine rvc_case 53 (decide (x.site < 0)) rfl (fun h13 => ?_) (fun h13 => ?_)
         ·
          replace hR := of_true h13 hR
          refine rvS ?_
          refine rvS ?_
          refine rvS ?_
          refine rvP C (.pv (.lit (.bool true))) ?_
          refine rvc_nil ?_
          refine Awp.condT (b := true) rfl rfl ?_
          refine Awp.consP C ?_
          refine rvP C (.pv (.lit (.int .i64 80))) ?_
          refine rvc_nil ?_
          refine Awp.ret ?_
          subst hR
          exact ⟨.inl rfl, rfl⟩
         ·
          replace hR := of_false h13 hR
          refine rvO C (.ptr 4 1) ?_
          refine rvO C (.pv (.lit (.int .i64 x.site))) ?_
          refine rvO C (.pv (.lit (.bool (decide (x.site > 2))))) ?_
          refine rvP C (.pv (.lit (.bool (decide (x.site > 2))))) ?_
          refine rvc_nil ?_
          refine Awp.cond (b := (decide (x.site > 2))) rfl (fun h14 => ?_) (fun h14 => ?_)
          ·
           replace hR := of_true h14 hR
           refine Awp.consP C ?_
           refine rvP C (.pv (.lit (.int .i64 80))) ?_
           refine rvc_nil ?_
           refine Awp.ret ?_
           subst hR
           exact ⟨.inl rfl, rfl⟩
          ·
           replace hR := of_false h14 hR
           refine Awp.skip ?_
           refine Awp.consP C ?_
           refine rvP C (.ptr 1 1) ?_
           refine rvP C (sS (some c.members.nil) eMember c.members.D) ?_
           refine rvP C (.pv (.lit (.int .i64 (i : Int)))) ?_
           refine rvc_un (rexec_sliceS C (e := eMember) (D := c.members.D) 0 i rfl rfl rfl rfl rfl rfl rfl rfl rfl rfl (by have := of_decide_eq_false h1; have := of_decide_eq_false h2; have := ne_of_beq_false h3; have := of_decide_eq_false h4; have := of_decide_eq_true h8; have := of_decide_eq_false h11; have := of_decide_eq_false h12; have := of_decide_eq_false h13; have := of_decide_eq_false h14; omega) (by have := of_decide_eq_false h1; have := of_decide_eq_false h2; have := ne_of_beq_false h3; have := of_decide_eq_false h4; have := of_decide_eq_true h8; have := of_decide_eq_false h11; have := of_decide_eq_false h12; have := of_decide_eq_false h13; have := of_decide_eq_false h14; omega) (c.members.D.take i) (by simp) ?_)
           refine rvP C (.pv (.lit (.int .i64 ((c.members.D.take i).length : Int)))) ?_
           refine rvP C (.pv (.lit (.int .i64 0))) ?_
           refine rvc_nil ?_
           refine Awp.block ?_
           refine Awp.forR (σ := Unit) ((c.members.D.take i).length) (fun i1 _v => [(1, .ptr 1 0), (4, .ptr 4 0), (33, sS (some c.members.nil) eMember c.members.D), (34, .pv (.lit (.int .i64 (c.members.D.length : Int)))), (35, .pv (.lit (.int .i64 (i : Int)))), (44, .ptr 4 0), (45, .pv (.lit (.int .i64 x.node))), (46, .pv (.lit (.bool (decide (x.node > 5))))), (49, .ptr 4 1), (50, .pv (.lit (.int .i64 x.site))), (51, .pv (.lit (.bool (decide (x.site < 0))))), (54, .ptr 4 1), (55, .pv (.lit (.int .i64 x.site))), (56, .pv (.lit (.bool (decide (x.site > 2))))), (61, sS (some c.members.nil) eMember (c.members.D.take i)), (62, .pv (.lit (.int .i64 ((c.members.D.take i).length : Int)))), (63, .pv (.lit (.int .i64 (i1 : Int))))]) (fun i1 _v => [(1, .cells [.pv (.lit (.int .i64 c.epoch)), sS (some c.members.nil) eMember c.members.D]), (4, .cells [.pv (.lit (.int .i64 x.node)), .pv (.lit (.int .i64 x.site)), .pv (.lit (.bool x.fresh))])]) [1, 4] (fun i1 _v => rCheck_l1 x (rCheck_l0 c (c.members.D.drop (i + 1)) (i + 1) ) ((c.members.D.take i).drop i1) i1  = R) () ?_ ?_ (fun i1 _v h15 hR => ?_)
           · exact hR
           · exact ⟨fun b => b, WeakerR.ofL (Ks := [1, 4]) hI ⟨⟨rfl, rfl⟩, ⟨rfl, rfl⟩, ⟨rfl, rfl⟩, ⟨rfl, rfl⟩, ⟨rfl, rfl⟩, ⟨rfl, rfl⟩, ⟨rfl, rfl⟩, ⟨rfl, rfl⟩, ⟨rfl, rfl⟩, ⟨rfl, rfl⟩, ⟨rfl, rfl⟩, ⟨rfl, rfl⟩, ⟨rfl, rfl⟩, ⟨rfl, rfl⟩, ⟨rfl, rfl⟩, ⟨rfl, rfl⟩, ⟨rfl, rfl⟩, trivial⟩ (okH_cons rfl rfl rfl rfl (okH_cons rfl rfl rfl rfl (okH_nil))) rfl⟩
           have := List.length_take_le i c.members.D
           refine Awp.consP C ?_
           refine rvP C (.pv (.lit (.bool (decide ((i1 : Int) < ((c.members.D.take i).length : Int)))))) ?_
           refine rvc_nil ?_
           refine Awp.seq ?_
           refine Awp.cond (b := (decide ((i1 : Int) < ((c.members.D.take i).length : Int)))) rfl (fun h16 => ?_) (fun h16 => ?_)
           ·
            have h17 : i1 < (c.members.D.take i).length := by have := of_decide_eq_true h16; omega
            obtain ⟨x1, h18⟩ := getX h17
            rw [drop_at h18] at hR
            refine Awp.skip ?_
            refine Awp.seq ?_
            refine Awp.block ?_
            refine Awp.consP C ?_
            refine rvc_un (rexec_idxS C rfl rfl rfl rfl rfl rfl x1 (Int.natCast_nonneg _) h18 ?_)
            refine rvP C (.agg [.pv (.lit (.int .i64 x1.node)), .pv (.lit (.int .i64 x1.site)), .pv (.lit (.bool x1.fresh))]) ?_
            refine rvc_un (rexec_prim C (δ := { v := .ptr 6 0, new := [(6, .cells [.pv (.lit (.int .i64 0)), .pv (.lit (.int .i64 0)), .pv (.lit (.bool false))])] }) rfl rfl rfl rfl trivial rfl ?_)
            refine rvc_un (rexec_prim C (δ := { v := .undef, wr := [(6, some (.cells [.pv (.lit (.int .i64 x1.node)), .pv (.lit (.int .i64 x1.site)), .pv (.lit (.bool x1.fresh))]))] }) rfl rfl rfl rfl trivial rfl ?_)
            refine rvc_nil ?_
            refine Awp.consP C ?_
            refine rvP C (.ptr 6 0) ?_
            refine rvP C (.pv (.lit (.int .i64 x1.node))) ?_
            refine rvP C (.ptr 4 0) ?_
            refine rvP C (.pv (.lit (.int .i64 x.node))) ?_
            refine rvP C (.pv (.lit (.bool (x1.node == x.node)))) ?_
            refine rvP C (.pv (.lit (.bool (x1.node == x.node)))) ?_
            refine rvc_case 72 (x1.node == x.node) rfl (fun h19 => ?_) (fun h19 => ?_)
            ·
             replace hR := of_true h19 hR
             refine rvS ?_
             refine rvS ?_
             refine rvS ?_
             refine rvS ?_
             refine rvS ?_
             refine rvP C (.pv (.lit (.bool true))) ?_
             refine rvc_nil ?_
             refine Awp.condT (b := true) rfl rfl ?_
             refine Awp.consP C ?_
             refine rvP C (.pv (.lit (.int .i64 80))) ?_
             refine rvc_nil ?_
             refine Awp.ret ?_
             subst hR
             exact ⟨.inl rfl, rfl⟩
            ·
             replace hR := of_false h19 hR
             refine rvO C (.ptr 6 1) ?_
             refine rvO C (.pv (.lit (.int .i64 x1.site))) ?_
             refine rvO C (.ptr 4 1) ?_
             refine rvO C (.pv (.lit (.int .i64 x.site))) ?_
             refine rvO C (.pv (.lit (.bool (decide (x1.site > x.site))))) ?_
             refine rvP C (.pv (.lit (.bool (decide (x1.site > x.site))))) ?_
             refine rvc_nil ?_
             refine Awp.cond (b := (decide (x1.site > x.site))) rfl (fun h20 => ?_) (fun h20 => ?_)
             ·
              replace hR := of_true h20 hR
              refine Awp.consP C ?_
              refine rvP C (.pv (.lit (.int .i64 80))) ?_
              refine rvc_nil ?_
              refine Awp.ret ?_
              subst hR
              exact ⟨.inl rfl, rfl⟩
             ·
              replace hR := of_false h20 hR
              refine Awp.skip ?_
              refine Awp.regionP C ?_
              refine rvP C (.pv (.lit (.int .i64 (IntKind.i64.wrap ((i1 : Int) + 1))))) ?_
              refine rvP C (.pv (.lit (.int .i64 (IntKind.i64.wrap ((i1 : Int) + 1))))) ?_
              refine rvc_nil ?_
              refine ⟨h17, (), ?_, ?_⟩
              · exact hR
              · exact ⟨fun b => b, WeakerR.ofL (Ks := [1, 4]) hI ⟨⟨rfl, rfl⟩, ⟨rfl, rfl⟩, ⟨rfl, rfl⟩, ⟨rfl, rfl⟩, ⟨rfl, rfl⟩, ⟨rfl, rfl⟩, ⟨rfl, rfl⟩, ⟨rfl, rfl⟩, ⟨rfl, rfl⟩, ⟨rfl, rfl⟩, ⟨rfl, rfl⟩, ⟨rfl, rfl⟩, ⟨rfl, rfl⟩, ⟨rfl, rfl⟩, ⟨rfl, rfl⟩, ⟨rfl, rfl⟩, ⟨lit_cast (wrap_i64 (by omega) (by omega)), rfl⟩, trivial⟩ (okH_cons rfl rfl rfl rfl (okH_cons rfl rfl rfl rfl (okH_nil))) rfl⟩
           ·
            have h17 : ¬ i1 < (c.members.D.take i).length := by have := of_decide_eq_false h16; omega
            rw [drop_end h17] at hR
            refine Awp.exit ?_
            refine Awp.regionP C ?_
            refine rvP C (.pv (.lit (.int .i64 (IntKind.i64.wrap ((i : Int) + 1))))) ?_
            refine rvP C (.pv (.lit (.int .i64 (IntKind.i64.wrap ((i : Int) + 1))))) ?_
            refine rvc_nil ?_
            refine ⟨h9, (), ?_, ?_⟩
            · exact hR
            · exact ⟨fun b => b, WeakerR.ofL (Ks := [1]) hI ⟨⟨rfl, rfl⟩, ⟨rfl, rfl⟩, ⟨rfl, rfl⟩, ⟨lit_cast (wrap_i64 (by omega) (by omega)), rfl⟩, trivial⟩ (okH_cons rfl rfl rfl rfl (okH_nil)) rfl⟩
      ·
       have h9 : ¬ i < c.members.D.length := by have := of_decide_eq_false h8; omega
       rw [drop_end h9] at hR
       refine Awp.exit ?_
       refine Awp.consP C ?_
       refine rvP C (.pv (.lit (.int .i64 0))) ?_
       refine rvc_nil ?_
       refine Awp.ret ?_
       subst hR
       exact ⟨.inl rfl, rfl⟩
def nodes_l0 : List Member → Nat → Int → Int
  | [], _, s => s
  | x :: xs, i, s => nodes_l0 xs (i + 1) (mWith s x.node)
def nodes (c : Chain) : Int :=
  nodes_l0 c.members.D 0 0
theorem nodes_calls (c : Chain) (hl1 : c.members.D.length ≤ 9223372036854775807) : PCalls Try.prog 22 [.agg [.pv (.lit (.int .i64 c.epoch)), sS (some c.members.nil) eMember c.members.D]] (.pv (.lit (.int .u64 (nodes c)))) := by
 generalize hR : nodes c = R
 refine PCalls.of_body tabOk Try.func22 rfl rfl rfl rfl rfl mixed fun E hP C hI => ?_
 refine Awp.consP C ?_
 refine rvc_un (rexec_prim C (δ := { v := .ptr 1 0, new := [(1, .cells [.pv (.lit (.int .i64 c.epoch)), sS (some c.members.nil) eMember c.members.D])] }) rfl rfl rfl rfl trivial rfl ?_)
 refine rvP C (.pv (.lit (.int .u64 0))) ?_
 refine rvc_nil ?_
 refine Awp.consP C ?_
 refine rvP C (.pv (.lit (.int .u64 0))) ?_
 refine rvc_nil ?_
 refine Awp.seq ?_
 refine Awp.consP C ?_
 refine rvP C (.ptr 1 1) ?_
 refine rvP C (sS (some c.members.nil) eMember c.members.D) ?_
 refine rvP C (.pv (.lit (.int .i64 (c.members.D.length : Int)))) ?_
 refine rvP C (.pv (.lit (.int .i64 0))) ?_
 refine rvc_nil ?_
 refine Awp.block ?_
 refine Awp.forR (σ := Int) (c.members.D.length) (fun i v => [(3, .pv (.lit (.int .u64 v))), (7, sS (some c.members.nil) eMember c.members.D), (8, .pv (.lit (.int .i64 (c.members.D.length : Int)))), (9, .pv (.lit (.int .i64 (i : Int))))]) (fun i v => []) [] (fun i v => nodes_l0 (c.members.D.drop i) i v = R) 0 ?_ ?_ (fun i s h1 hR => ?_)
 · exact hR
 · exact ⟨fun b => b, WeakerR.ofL (Ks := []) hI ⟨⟨rfl, rfl⟩, ⟨rfl, rfl⟩, ⟨rfl, rfl⟩, ⟨rfl, rfl⟩, trivial⟩ (okH_nil) rfl⟩
 refine Awp.consP C ?_
 refine rvP C (.pv (.lit (.bool (decide ((i : Int) < (c.members.D.length : Int)))))) ?_
 refine rvc_nil ?_
 refine Awp.seq ?_
 refine Awp.cond (b := (decide ((i : Int) < (c.members.D.length : Int)))) rfl (fun h2 => ?_) (fun h2 => ?_)
 ·
  have h3 : i < c.members.D.length := by have := of_decide_eq_true h2; omega
  obtain ⟨x, h4⟩ := getX h3
  rw [drop_at h4] at hR
  refine Awp.skip ?_
  refine Awp.seq ?_
  refine Awp.block ?_
  refine Awp.consP C ?_
  refine rvc_un (rexec_idxS C rfl rfl rfl rfl rfl rfl x (Int.natCast_nonneg _) h4 ?_)
  refine rvP C (.agg [.pv (.lit (.int .i64 x.node)), .pv (.lit (.int .i64 x.site)), .pv (.lit (.bool x.fresh))]) ?_
  refine rvc_un (rexec_prim C (δ := { v := .ptr 5 0, new := [(5, .cells [.pv (.lit (.int .i64 0)), .pv (.lit (.int .i64 0)), .pv (.lit (.bool false))])] }) rfl rfl rfl rfl trivial rfl ?_)
  refine rvc_un (rexec_prim C (δ := { v := .undef, wr := [(5, some (.cells [.pv (.lit (.int .i64 x.node)), .pv (.lit (.int .i64 x.site)), .pv (.lit (.bool x.fresh))]))] }) rfl rfl rfl rfl trivial rfl ?_)
  refine rvc_nil ?_
  refine Awp.regionP C ?_
  refine rvP C (.pv (.lit (.int .u64 s))) ?_
  refine rvP C (.ptr 5 0) ?_
  refine rvP C (.pv (.lit (.int .i64 x.node))) ?_
  refine rvc_un (rexec_call hP C rfl rfl rfl (mWith_calls s x.node) ?_)
  refine rvP C (.pv (.lit (.int .u64 (mWith s x.node)))) ?_
  refine rvc_nil ?_
  refine Awp.regionP C ?_
  refine rvP C (.pv (.lit (.int .i64 (IntKind.i64.wrap ((i : Int) + 1))))) ?_
  refine rvP C (.pv (.lit (.int .i64 (IntKind.i64.wrap ((i : Int) + 1))))) ?_
  refine rvc_nil ?_
  refine ⟨h3, (mWith s x.node), ?_, ?_⟩
  · exact hR
  · exact ⟨fun b => b, WeakerR.ofL (Ks := []) hI ⟨⟨rfl, rfl⟩, ⟨rfl, rfl⟩, ⟨rfl, rfl⟩, ⟨lit_cast (wrap_i64 (by omega) (by omega)), rfl⟩, trivial⟩ (okH_nil) rfl⟩
 ·
  have h3 : ¬ i < c.members.D.length := by have := of_decide_eq_false h2; omega
  rw [drop_end h3] at hR
  refine Awp.exit ?_
  refine Awp.consP C ?_
  refine rvP C (.pv (.lit (.int .u64 s))) ?_
  refine rvP C (.pv (.lit (.int .u64 s))) ?_
  refine rvc_nil ?_
  refine Awp.ret ?_
  subst hR
  exact ⟨.inl rfl, rfl⟩
def whole_l0 : List Member → Nat → Int → Int
  | [], _, s => s
  | x :: xs, i, s => (bif (!x.fresh) then whole_l0 xs (i + 1) (mWith s x.node) else whole_l0 xs (i + 1) s)
def whole (c : Chain) : Int :=
  whole_l0 c.members.D 0 0
theorem whole_calls (c : Chain) (hl1 : c.members.D.length ≤ 9223372036854775807) : PCalls Try.prog 48 [.agg [.pv (.lit (.int .i64 c.epoch)), sS (some c.members.nil) eMember c.members.D]] (.pv (.lit (.int .u64 (whole c)))) := by
 generalize hR : whole c = R
 refine PCalls.of_body tabOk Try.func48 rfl rfl rfl rfl rfl mixed fun E hP C hI => ?_
 refine Awp.consP C ?_
 refine rvc_un (rexec_prim C (δ := { v := .ptr 1 0, new := [(1, .cells [.pv (.lit (.int .i64 c.epoch)), sS (some c.members.nil) eMember c.members.D])] }) rfl rfl rfl rfl trivial rfl ?_)
 refine rvP C (.pv (.lit (.int .u64 0))) ?_
 refine rvc_nil ?_
 refine Awp.consP C ?_
 refine rvP C (.pv (.lit (.int .u64 0))) ?_
 refine rvc_nil ?_
 refine Awp.seq ?_
 refine Awp.consP C ?_
 refine rvP C (.ptr 1 1) ?_
 refine rvP C (sS (some c.members.nil) eMember c.members.D) ?_
 refine rvP C (.pv (.lit (.int .i64 (c.members.D.length : Int)))) ?_
 refine rvP C (.pv (.lit (.int .i64 0))) ?_
 refine rvc_nil ?_
 refine Awp.block ?_
 refine Awp.forR (σ := Int) (c.members.D.length) (fun i v => [(3, .pv (.lit (.int .u64 v))), (7, sS (some c.members.nil) eMember c.members.D), (8, .pv (.lit (.int .i64 (c.members.D.length : Int)))), (9, .pv (.lit (.int .i64 (i : Int))))]) (fun i v => []) [] (fun i v => whole_l0 (c.members.D.drop i) i v = R) 0 ?_ ?_ (fun i s h1 hR => ?_)
 · exact hR
 · exact ⟨fun b => b, WeakerR.ofL (Ks := []) hI ⟨⟨rfl, rfl⟩, ⟨rfl, rfl⟩, ⟨rfl, rfl⟩, ⟨rfl, rfl⟩, trivial⟩ (okH_nil) rfl⟩
 refine Awp.consP C ?_
 refine rvP C (.pv (.lit (.bool (decide ((i : Int) < (c.members.D.length : Int)))))) ?_
 refine rvc_nil ?_
 refine Awp.seq ?_
 refine Awp.cond (b := (decide ((i : Int) < (c.members.D.length : Int)))) rfl (fun h2 => ?_) (fun h2 => ?_)
 ·
  have h3 : i < c.members.D.length := by have := of_decide_eq_true h2; omega
  obtain ⟨x, h4⟩ := getX h3
  rw [drop_at h4] at hR
  refine Awp.skip ?_
  refine Awp.seq ?_
  refine Awp.block ?_
  refine Awp.consP C ?_
  refine rvc_un (rexec_idxS C rfl rfl rfl rfl rfl rfl x (Int.natCast_nonneg _) h4 ?_)
  refine rvP C (.agg [.pv (.lit (.int .i64 x.node)), .pv (.lit (.int .i64 x.site)), .pv (.lit (.bool x.fresh))]) ?_
  refine rvc_un (rexec_prim C (δ := { v := .ptr 5 0, new := [(5, .cells [.pv (.lit (.int .i64 0)), .pv (.lit (.int .i64 0)), .pv (.lit (.bool false))])] }) rfl rfl rfl rfl trivial rfl ?_)
  refine rvc_un (rexec_prim C (δ := { v := .undef, wr := [(5, some (.cells [.pv (.lit (.int .i64 x.node)), .pv (.lit (.int .i64 x.site)), .pv (.lit (.bool x.fresh))]))] }) rfl rfl rfl rfl trivial rfl ?_)
  refine rvc_nil ?_
  refine Awp.consP C ?_
  refine rvP C (.ptr 5 2) ?_
  refine rvP C (.pv (.lit (.bool x.fresh))) ?_
  refine rvP C (.pv (.lit (.bool (!x.fresh)))) ?_
  refine rvc_nil ?_
  refine Awp.cond (b := (!x.fresh)) rfl (fun h5 => ?_) (fun h5 => ?_)
  ·
   replace hR := of_true h5 hR
   refine Awp.regionP C ?_
   refine rvP C (.pv (.lit (.int .u64 s))) ?_
   refine rvP C (.ptr 5 0) ?_
   refine rvP C (.pv (.lit (.int .i64 x.node))) ?_
   refine rvc_un (rexec_call hP C rfl rfl rfl (mWith_calls s x.node) ?_)
   refine rvP C (.pv (.lit (.int .u64 (mWith s x.node)))) ?_
   refine rvc_nil ?_
   refine Awp.regionP C ?_
   refine rvP C (.pv (.lit (.int .i64 (IntKind.i64.wrap ((i : Int) + 1))))) ?_
   refine rvP C (.pv (.lit (.int .i64 (IntKind.i64.wrap ((i : Int) + 1))))) ?_
   refine rvc_nil ?_
   refine ⟨h3, (mWith s x.node), ?_, ?_⟩
   · exact hR
   · exact ⟨fun b => b, WeakerR.ofL (Ks := []) hI ⟨⟨rfl, rfl⟩, ⟨rfl, rfl⟩, ⟨rfl, rfl⟩, ⟨lit_cast (wrap_i64 (by omega) (by omega)), rfl⟩, trivial⟩ (okH_nil) rfl⟩
  ·
   replace hR := of_false h5 hR
   refine Awp.skip ?_
   refine Awp.regionP C ?_
   refine rvP C (.pv (.lit (.int .i64 (IntKind.i64.wrap ((i : Int) + 1))))) ?_
   refine rvP C (.pv (.lit (.int .i64 (IntKind.i64.wrap ((i : Int) + 1))))) ?_
   refine rvc_nil ?_
   refine ⟨h3, s, ?_, ?_⟩
   · exact hR
   · exact ⟨fun b => b, WeakerR.ofL (Ks := []) hI ⟨⟨rfl, rfl⟩, ⟨rfl, rfl⟩, ⟨rfl, rfl⟩, ⟨lit_cast (wrap_i64 (by omega) (by omega)), rfl⟩, trivial⟩ (okH_nil) rfl⟩
 ·
  have h3 : ¬ i < c.members.D.length := by have := of_decide_eq_false h2; omega
  rw [drop_end h3] at hR
  refine Awp.exit ?_
  refine Awp.consP C ?_
  refine rvP C (.pv (.lit (.int .u64 s))) ?_
  refine rvP C (.pv (.lit (.int .u64 s))) ?_
  refine rvc_nil ?_
  refine Awp.ret ?_
  subst hR
  exact ⟨.inl rfl, rfl⟩
def indexFunc_l0 (f : Member → Bool) : List Member → Nat → Int
  | [], _ => (-1)
  | x :: xs, i => (bif (f x) then (i : Int) else indexFunc_l0 f xs (i + 1) )
def indexFunc (s : (Sl Member)) (f : Member → Bool) : Int :=
  indexFunc_l0 f s.D 0
theorem indexFunc_calls (s : (Sl Member)) (f : Member → Bool) (g1 : Nat) (caps1 : List AV) (hp1 : ∀ (x0 : Member), PCalls Try.prog g1 ([.agg [.pv (.lit (.int .i64 x0.node)), .pv (.lit (.int .i64 x0.site)), .pv (.lit (.bool x0.fresh))]] ++ caps1) (.pv (.lit (.bool (f x0))))) (hw1 : AV.withinL (fun _ => false) caps1 = true) (hl1 : s.D.length ≤ 9223372036854775807) : PCalls Try.prog 54 [sS (some s.nil) eMember s.D, .fn g1 [] caps1] (.pv (.lit (.int .i64 (indexFunc s f)))) := by
 generalize hR : indexFunc s f = R
 refine PCalls.of_body tabOk Try.func54 rfl rfl rfl (by simp [AV.withinL, AV.within, sS, hw1]) rfl mixed fun E hP C hI => ?_
 refine Awp.consP C ?_
 refine rvP C (.pv (.lit (.int .i64 0))) ?_
 refine rvc_nil ?_
 refine Awp.seq ?_
 refine Awp.consP C ?_
 refine rvP C (sS (some s.nil) eMember s.D) ?_
 refine rvP C (.pv (.lit (.int .i64 (s.D.length : Int)))) ?_
 refine rvP C (.pv (.lit (.int .i64 0))) ?_
 refine rvc_nil ?_
 refine Awp.block ?_
 refine Awp.forR (σ := Unit) (s.D.length) (fun i _v => [(0, sS (some s.nil) eMember s.D), (1, .fn g1 [] caps1), (7, .pv (.lit (.int .i64 (s.D.length : Int)))), (8, .pv (.lit (.int .i64 (i : Int))))]) (fun i _v => []) [] (fun i _v => indexFunc_l0 f (s.D.drop i) i  = R) () ?_ ?_ (fun i _v h1 hR => ?_)
 · exact hR
 · exact ⟨fun b => b, WeakerR.ofL (Ks := []) hI ⟨⟨rfl, rfl⟩, ⟨fn_to rfl hw1, fn_win hw1⟩, ⟨rfl, rfl⟩, ⟨rfl, rfl⟩, trivial⟩ (okH_nil) rfl⟩
 refine Awp.consP C ?_
 refine rvP C (.pv (.lit (.bool (decide ((i : Int) < (s.D.length : Int)))))) ?_
 refine rvc_nil ?_
 refine Awp.seq ?_
 refine Awp.cond (b := (decide ((i : Int) < (s.D.length : Int)))) rfl (fun h2 => ?_) (fun h2 => ?_)
 ·
  have h3 : i < s.D.length := by have := of_decide_eq_true h2; omega
  obtain ⟨x, h4⟩ := getX h3
  rw [drop_at h4] at hR
  refine Awp.skip ?_
  refine Awp.seq ?_
  refine Awp.block ?_
  refine Awp.consP C ?_
  refine rvP C (.pv (.lit (.int .i64 (i : Int)))) ?_
  refine rvP C (.pv (.lit (.int .i64 (i : Int)))) ?_
  refine rvc_nil ?_
  refine Awp.consP C ?_
  refine rvP C (.fn g1 [] caps1) ?_
  refine rvP C (sS (some s.nil) eMember s.D) ?_
  refine rvP C (.pv (.lit (.int .i64 (i : Int)))) ?_
  refine rvc_un (rexec_idxS C rfl rfl rfl rfl rfl rfl x (Int.natCast_nonneg _) h4 ?_)
  refine rvP C (.agg [.pv (.lit (.int .i64 x.node)), .pv (.lit (.int .i64 x.site)), .pv (.lit (.bool x.fresh))]) ?_
  refine rvc_un (rexec_callV hP C rfl rfl rfl rfl (hp1 x) rfl ?_)
  refine rvc_nil ?_
  refine Awp.cond (b := (f x)) rfl (fun h5 => ?_) (fun h5 => ?_)
  ·
   replace hR := of_true h5 hR
   refine Awp.consP C ?_
   refine rvP C (.pv (.lit (.int .i64 (i : Int)))) ?_
   refine rvP C (.pv (.lit (.int .i64 (i : Int)))) ?_
   refine rvc_nil ?_
   refine Awp.ret ?_
   subst hR
   exact ⟨.inl rfl, rfl⟩
  ·
   replace hR := of_false h5 hR
   refine Awp.skip ?_
   refine Awp.regionP C ?_
   refine rvP C (.pv (.lit (.int .i64 (IntKind.i64.wrap ((i : Int) + 1))))) ?_
   refine rvP C (.pv (.lit (.int .i64 (IntKind.i64.wrap ((i : Int) + 1))))) ?_
   refine rvc_nil ?_
   refine ⟨h3, (), ?_, ?_⟩
   · exact hR
   · exact ⟨fun b => b, WeakerR.ofL (Ks := []) hI ⟨⟨rfl, rfl⟩, ⟨fn_to rfl hw1, fn_win hw1⟩, ⟨rfl, rfl⟩, ⟨lit_cast (wrap_i64 (by omega) (by omega)), rfl⟩, trivial⟩ (okH_nil) rfl⟩
 ·
  have h3 : ¬ i < s.D.length := by have := of_decide_eq_false h2; omega
  rw [drop_end h3] at hR
  refine Awp.exit ?_
  refine Awp.consP C ?_
  refine rvP C (.pv (.lit (.int .i64 (-1)))) ?_
  refine rvc_nil ?_
  refine Awp.ret ?_
  subst hR
  exact ⟨.inl rfl, rfl⟩
def placeF (m : Member) (c0 : Int) : Bool :=
  (m.node == c0)
theorem placeF_calls (m : Member) (c0 : Int)  : PCalls Try.prog 55 [.agg [.pv (.lit (.int .i64 m.node)), .pv (.lit (.int .i64 m.site)), .pv (.lit (.bool m.fresh))], .rp [.lit (.int .i64 c0)]] (.pv (.lit (.bool (placeF m c0)))) := by
 generalize hR : placeF m c0 = R
 refine PCalls.of_body tabOk Try.func55 rfl rfl rfl rfl rfl mixed fun E hP C hI => ?_
 refine Awp.consP C ?_
 refine rvc_un (rexec_prim C (δ := { v := .ptr 2 0, new := [(2, .cells [.pv (.lit (.int .i64 m.node)), .pv (.lit (.int .i64 m.site)), .pv (.lit (.bool m.fresh))])] }) rfl rfl rfl rfl trivial rfl ?_)
 refine rvP C (.pv (.lit (.bool false))) ?_
 refine rvc_nil ?_
 refine Awp.consP C ?_
 refine rvP C (.ptr 2 0) ?_
 refine rvP C (.pv (.lit (.int .i64 m.node))) ?_
 refine rvP C (.pv (.lit (.int .i64 c0))) ?_
 refine rvP C (.pv (.lit (.bool (m.node == c0)))) ?_
 refine rvP C (.pv (.lit (.bool (m.node == c0)))) ?_
 refine rvc_nil ?_
 refine Awp.ret ?_
 subst hR
 exact ⟨.inl rfl, rfl⟩
def placeIn (c : Chain) (node : Int) : Int :=
  (indexFunc c.members (fun x0 => placeF x0 node))
theorem placeIn_calls (c : Chain) (node : Int) (hl1 : c.members.D.length ≤ 9223372036854775807) : PCalls Try.prog 45 [.agg [.pv (.lit (.int .i64 c.epoch)), sS (some c.members.nil) eMember c.members.D], .pv (.lit (.int .i64 node))] (.pv (.lit (.int .i64 (placeIn c node)))) := by
 generalize hR : placeIn c node = R
 refine PCalls.of_body tabOk Try.func45 rfl rfl rfl rfl rfl mixed fun E hP C hI => ?_
 refine Awp.consP C ?_
 refine rvc_un (rexec_prim C (δ := { v := .ptr 2 0, new := [(2, .cells [.pv (.lit (.int .i64 c.epoch)), sS (some c.members.nil) eMember c.members.D])] }) rfl rfl rfl rfl trivial rfl ?_)
 refine rvc_un (rexec_boxF C [.lit (.int .i64 node)] rfl rfl rfl rfl ?_)
 refine rvP C (.pv (.lit (.int .i64 0))) ?_
 refine rvc_nil ?_
 refine Awp.consP C ?_
 refine rvP C (.ptr 2 1) ?_
 refine rvP C (sS (some c.members.nil) eMember c.members.D) ?_
 refine rvP C (.fn 55 [] [.rp [.lit (.int .i64 node)]]) ?_
 refine rvc_un (rexec_call hP C rfl rfl rfl (indexFunc_calls c.members (fun x0 => placeF x0 node) 55 [.rp [.lit (.int .i64 node)]] (fun x0 => placeF_calls x0 node) rfl hl1) ?_)
 refine rvP C (.pv (.lit (.int .i64 (indexFunc c.members (fun x0 => placeF x0 node))))) ?_
 refine rvc_nil ?_
 refine Awp.ret ?_
 subst hR
 exact ⟨.inl rfl, rfl⟩
end Go.Proofs.Ytihccnkegkkikaa
/- Small things of lists. No conditions. -/
namespace Go.Proofs.Ytihccnkegkkikaa
open Go.Am
theorem at_mem {α : Type} [Inhabited α] {D : List α} {n : Nat} (h : n < D.length) : D[n]! ∈ D := by
  rw [getElem!_pos D n h]; exact List.getElem_mem h
theorem swap_mem {α : Type} {P : α → Prop} {D : List α} (h : ∀ x ∈ D, P x) {i j : Nat} {x y : α} (hx : x ∈ D) (hy : y ∈ D) : ∀ z ∈ (D.set i x).set j y, P z := fun z hz => by
  rcases List.mem_or_eq_of_mem_set hz with hz | rfl
  · rcases List.mem_or_eq_of_mem_set hz with hz | rfl
    · exact h z hz
    · exact h _ hx
  · exact h _ hy
end Go.Proofs.Ytihccnkegkkikaa
/- Ways. No conditions. -/
namespace Go.Proofs.Ytihccnkegkkikaa
open Go.Am
def wayCheck_l1 (w : (Nat → (Nat → Int))) (i : Nat) (kk : Int) : Nat → Nat → Int
  | 0, _ => kk 
  | k1 + 1, i1 => (bif (decide (((w i) i1) < 0)) then 1 else (bif (decide (((w i) i1) > 1000)) then 1 else (bif (((w i) i1) != ((w i1) i)) then 1 else (bif ((i : Int) == (i1 : Int)) then (bif (((w i) i1) != 0) then 1 else wayCheck_l1 w i kk k1 (i1 + 1) ) else wayCheck_l1 w i kk k1 (i1 + 1) ))))
def wayCheck_l0 (w : (Nat → (Nat → Int))) : Nat → Nat → Int
  | 0, _ => 0
  | k + 1, i => wayCheck_l1 w i (wayCheck_l0 w k (i + 1) ) 3 0
def wayCheck (w : (Nat → (Nat → Int))) : Int :=
  wayCheck_l0 w 3 0
theorem wayCheck_calls (w : (Nat → (Nat → Int)))  : PCalls Try.prog 28 [.agg [.pv (.lit (.int .i64 ((w 0) 0))), .pv (.lit (.int .i64 ((w 0) 1))), .pv (.lit (.int .i64 ((w 0) 2))), .pv (.lit (.int .i64 ((w 1) 0))), .pv (.lit (.int .i64 ((w 1) 1))), .pv (.lit (.int .i64 ((w 1) 2))), .pv (.lit (.int .i64 ((w 2) 0))), .pv (.lit (.int .i64 ((w 2) 1))), .pv (.lit (.int .i64 ((w 2) 2)))]] (.pv (.lit (.int .i64 (wayCheck w)))) := by
 generalize hR : wayCheck w = R
 refine PCalls.of_body tabOk Try.func28 rfl rfl rfl rfl rfl mixed fun E hP C hI => ?_
 refine Awp.consP C ?_
 refine rvc_un (rexec_prim C (δ := { v := .ptr 1 0, new := [(1, .cells [.pv (.lit (.int .i64 ((w 0) 0))), .pv (.lit (.int .i64 ((w 0) 1))), .pv (.lit (.int .i64 ((w 0) 2))), .pv (.lit (.int .i64 ((w 1) 0))), .pv (.lit (.int .i64 ((w 1) 1))), .pv (.lit (.int .i64 ((w 1) 2))), .pv (.lit (.int .i64 ((w 2) 0))), .pv (.lit (.int .i64 ((w 2) 1))), .pv (.lit (.int .i64 ((w 2) 2)))])] }) rfl rfl rfl rfl trivial rfl ?_)
 refine rvP C (.pv (.lit (.int .i64 0))) ?_
 refine rvc_nil ?_
 refine Awp.seq ?_
 refine Awp.consP C ?_
 refine rvP C (.agg [.pv (.lit (.int .i64 ((w 0) 0))), .pv (.lit (.int .i64 ((w 0) 1))), .pv (.lit (.int .i64 ((w 0) 2))), .pv (.lit (.int .i64 ((w 1) 0))), .pv (.lit (.int .i64 ((w 1) 1))), .pv (.lit (.int .i64 ((w 1) 2))), .pv (.lit (.int .i64 ((w 2) 0))), .pv (.lit (.int .i64 ((w 2) 1))), .pv (.lit (.int .i64 ((w 2) 2)))]) ?_
 refine rvP C (.pv (.lit (.int .i64 0))) ?_
 refine rvc_nil ?_
 refine Awp.block ?_
 refine Awp.forR (σ := Unit) (3) (fun i _v => [(1, .ptr 1 0), (7, .agg [.pv (.lit (.int .i64 ((w 0) 0))), .pv (.lit (.int .i64 ((w 0) 1))), .pv (.lit (.int .i64 ((w 0) 2))), .pv (.lit (.int .i64 ((w 1) 0))), .pv (.lit (.int .i64 ((w 1) 1))), .pv (.lit (.int .i64 ((w 1) 2))), .pv (.lit (.int .i64 ((w 2) 0))), .pv (.lit (.int .i64 ((w 2) 1))), .pv (.lit (.int .i64 ((w 2) 2)))]), (8, .pv (.lit (.int .i64 (i : Int))))]) (fun i _v => [(1, .cells [.pv (.lit (.int .i64 ((w 0) 0))), .pv (.lit (.int .i64 ((w 0) 1))), .pv (.lit (.int .i64 ((w 0) 2))), .pv (.lit (.int .i64 ((w 1) 0))), .pv (.lit (.int .i64 ((w 1) 1))), .pv (.lit (.int .i64 ((w 1) 2))), .pv (.lit (.int .i64 ((w 2) 0))), .pv (.lit (.int .i64 ((w 2) 1))), .pv (.lit (.int .i64 ((w 2) 2)))])]) [1] (fun i _v => wayCheck_l0 w (3 - i) i  = R) () ?_ ?_ (fun i _v h1 hR => ?_)
 · exact hR
 · exact ⟨fun b => b, WeakerR.ofL (Ks := [1]) hI ⟨⟨rfl, rfl⟩, ⟨rfl, rfl⟩, ⟨rfl, rfl⟩, trivial⟩ (okH_cons rfl rfl rfl rfl (okH_nil)) rfl⟩
 refine Awp.consP C ?_
 refine rvP C (.pv (.lit (.bool (decide ((i : Int) < 3))))) ?_
 refine rvc_nil ?_
 refine Awp.seq ?_
 refine Awp.cond (b := (decide ((i : Int) < 3))) rfl (fun h2 => ?_) (fun h2 => ?_)
 ·
  have h3 : i < 3 := by have := of_decide_eq_true h2; omega
  obtain ⟨k, h4⟩ : ∃ k, 3 - i = k + 1 := ⟨3 - i - 1, by omega⟩
  rw [h4] at hR
  refine Awp.skip ?_
  refine Awp.seq ?_
  refine Awp.block ?_
  refine Awp.consP C ?_
  refine rvP C (.pv (.lit (.int .i64 (i : Int)))) ?_
  refine rvc_un (rexec_idxRow C (fun p q => .pv (.lit (.int .i64 ((w p) q)))) (.agg [.pv (.lit (.int .i64 ((w i) 0))), .pv (.lit (.int .i64 ((w i) 1))), .pv (.lit (.int .i64 ((w i) 2)))]) rfl rfl rfl rfl rfl rfl rfl rfl ⟨(by have := of_decide_eq_true h2; omega), (by have := of_decide_eq_true h2; omega)⟩ rfl ?_)
  refine rvc_un (rexec_prim C (δ := { v := .ptr 4 0, new := [(4, .cells [.pv (.lit (.int .i64 0)), .pv (.lit (.int .i64 0)), .pv (.lit (.int .i64 0))])] }) rfl rfl rfl rfl trivial rfl ?_)
  refine rvP C (.pv (.lit (.int .i64 (i : Int)))) ?_
  refine rvc_un (rexec_prim C (δ := { v := .undef, wr := [(4, some (.cells [.pv (.lit (.int .i64 ((w i) 0))), .pv (.lit (.int .i64 ((w i) 1))), .pv (.lit (.int .i64 ((w i) 2)))]))] }) rfl rfl rfl rfl trivial rfl ?_)
  refine rvc_nil ?_
  refine Awp.consP C ?_
  refine rvP C (.agg [.pv (.lit (.int .i64 ((w i) 0))), .pv (.lit (.int .i64 ((w i) 1))), .pv (.lit (.int .i64 ((w i) 2)))]) ?_
  refine rvP C (.pv (.lit (.int .i64 0))) ?_
  refine rvc_nil ?_
  refine Awp.block ?_
  refine Awp.forR (σ := Unit) (3) (fun i1 _v => [(1, .ptr 1 0), (3, .pv (.lit (.int .i64 (i : Int)))), (7, .agg [.pv (.lit (.int .i64 ((w 0) 0))), .pv (.lit (.int .i64 ((w 0) 1))), .pv (.lit (.int .i64 ((w 0) 2))), .pv (.lit (.int .i64 ((w 1) 0))), .pv (.lit (.int .i64 ((w 1) 1))), .pv (.lit (.int .i64 ((w 1) 2))), .pv (.lit (.int .i64 ((w 2) 0))), .pv (.lit (.int .i64 ((w 2) 1))), .pv (.lit (.int .i64 ((w 2) 2)))]), (8, .pv (.lit (.int .i64 (i : Int)))), (12, .agg [.pv (.lit (.int .i64 ((w i) 0))), .pv (.lit (.int .i64 ((w i) 1))), .pv (.lit (.int .i64 ((w i) 2)))]), (13, .pv (.lit (.int .i64 (i1 : Int))))]) (fun i1 _v => [(1, .cells [.pv (.lit (.int .i64 ((w 0) 0))), .pv (.lit (.int .i64 ((w 0) 1))), .pv (.lit (.int .i64 ((w 0) 2))), .pv (.lit (.int .i64 ((w 1) 0))), .pv (.lit (.int .i64 ((w 1) 1))), .pv (.lit (.int .i64 ((w 1) 2))), .pv (.lit (.int .i64 ((w 2) 0))), .pv (.lit (.int .i64 ((w 2) 1))), .pv (.lit (.int .i64 ((w 2) 2)))])]) [1] (fun i1 _v => wayCheck_l1 w i (wayCheck_l0 w k (i + 1) ) (3 - i1) i1  = R) () ?_ ?_ (fun i1 _v h5 hR => ?_)
  · exact hR
  · exact ⟨fun b => b, WeakerR.ofL (Ks := [1]) hI ⟨⟨rfl, rfl⟩, ⟨rfl, rfl⟩, ⟨rfl, rfl⟩, ⟨rfl, rfl⟩, ⟨rfl, rfl⟩, ⟨rfl, rfl⟩, trivial⟩ (okH_cons rfl rfl rfl rfl (okH_nil)) rfl⟩
  refine Awp.consP C ?_
  refine rvP C (.pv (.lit (.bool (decide ((i1 : Int) < 3))))) ?_
  refine rvc_nil ?_
  refine Awp.seq ?_
  refine Awp.cond (b := (decide ((i1 : Int) < 3))) rfl (fun h6 => ?_) (fun h6 => ?_)
  ·
   have h7 : i1 < 3 := by have := of_decide_eq_true h6; omega
   obtain ⟨k1, h8⟩ : ∃ k, 3 - i1 = k + 1 := ⟨3 - i1 - 1, by omega⟩
   rw [h8] at hR
   refine Awp.skip ?_
   refine Awp.seq ?_
   refine Awp.block ?_
   refine Awp.consP C ?_
   refine rvP C (.pv (.lit (.int .i64 (i1 : Int)))) ?_
   refine rvc_un (rexec_idxA C (fun j => .pv (.lit (.int .i64 ((w i) j)))) (.pv (.lit (.int .i64 ((w i) i1)))) rfl rfl rfl rfl rfl rfl rfl rfl ⟨(by have := of_decide_eq_true h2; have := of_decide_eq_true h6; omega), (by have := of_decide_eq_true h2; have := of_decide_eq_true h6; omega)⟩ rfl ?_)
   refine rvP C (.pv (.lit (.int .i64 (i1 : Int)))) ?_
   refine rvP C (.pv (.lit (.int .i64 ((w i) i1)))) ?_
   refine rvc_nil ?_
   refine Awp.consP C ?_
   refine rvP C (.pv (.lit (.int .i64 ((w i) i1)))) ?_
   refine rvP C (.pv (.lit (.bool (decide (((w i) i1) < 0))))) ?_
   refine rvP C (.pv (.lit (.bool (decide (((w i) i1) < 0))))) ?_
   refine rvc_case 19 (decide (((w i) i1) < 0)) rfl (fun h9 => ?_) (fun h9 => ?_)
   ·
    replace hR := of_true h9 hR
    refine rvS ?_
    refine rvS ?_
    refine rvP C (.pv (.lit (.bool true))) ?_
    refine rvP C (.pv (.lit (.bool true))) ?_
    refine rvS ?_
    refine rvS ?_
    refine rvS ?_
    refine rvS ?_
    refine rvS ?_
    refine rvS ?_
    refine rvS ?_
    refine rvP C (.pv (.lit (.bool true))) ?_
    refine rvP C (.pv (.lit (.bool true))) ?_
    refine rvS ?_
    refine rvS ?_
    refine rvS ?_
    refine rvS ?_
    refine rvc_shutU rfl rfl rfl ?_
    refine rvc_shutU rfl rfl rfl ?_
    refine rvS ?_
    refine rvP C (.pv (.lit (.bool true))) ?_
    refine rvc_nil ?_
    refine Awp.condT (b := true) rfl rfl ?_
    refine Awp.consP C ?_
    refine rvP C (.pv (.lit (.int .i64 1))) ?_
    refine rvc_nil ?_
    refine Awp.ret ?_
    subst hR
    exact ⟨.inl rfl, rfl⟩
   ·
    replace hR := of_false h9 hR
    refine rvO C (.pv (.lit (.int .i64 ((w i) i1)))) ?_
    refine rvO C (.pv (.lit (.bool (decide (((w i) i1) > 1000))))) ?_
    refine rvP C (.pv (.lit (.bool (decide (((w i) i1) > 1000))))) ?_
    refine rvP C (.pv (.lit (.bool (decide (((w i) i1) > 1000))))) ?_
    refine rvc_case 23 (decide (((w i) i1) > 1000)) rfl (fun h10 => ?_) (fun h10 => ?_)
    ·
     replace hR := of_true h10 hR
     refine rvS ?_
     refine rvS ?_
     refine rvS ?_
     refine rvS ?_
     refine rvS ?_
     refine rvS ?_
     refine rvS ?_
     refine rvP C (.pv (.lit (.bool true))) ?_
     refine rvP C (.pv (.lit (.bool true))) ?_
     refine rvS ?_
     refine rvS ?_
     refine rvS ?_
     refine rvS ?_
     refine rvc_shutU rfl rfl rfl ?_
     refine rvc_shutU rfl rfl rfl ?_
     refine rvS ?_
     refine rvP C (.pv (.lit (.bool true))) ?_
     refine rvc_nil ?_
     refine Awp.condT (b := true) rfl rfl ?_
     refine Awp.consP C ?_
     refine rvP C (.pv (.lit (.int .i64 1))) ?_
     refine rvc_nil ?_
     refine Awp.ret ?_
     subst hR
     exact ⟨.inl rfl, rfl⟩
    ·
     replace hR := of_false h10 hR
     refine rvO C (.pv (.lit (.int .i64 ((w i) i1)))) ?_
     refine rvO C (.pv (.lit (.int .i64 (i1 : Int)))) ?_
     refine rvO C (.pv (.lit (.int .i64 (i : Int)))) ?_
     refine rvc_open rfl rfl rfl (rexec_prim C (δ := { v := .ptr 1 (0 + i1 * 3) }) rfl rfl rfl rfl ⟨(by have := of_decide_eq_true h2; have := of_decide_eq_true h6; have := of_decide_eq_false h9; have := of_decide_eq_false h10; omega), (by have := of_decide_eq_true h2; have := of_decide_eq_true h6; have := of_decide_eq_false h9; have := of_decide_eq_false h10; omega)⟩ rfl ?_)
     refine rvc_open rfl rfl rfl (rexec_prim C (δ := { v := .ptr 1 (0 + i1 * 3 + i * 1) }) rfl rfl rfl rfl ⟨(by have := of_decide_eq_true h2; have := of_decide_eq_true h6; have := of_decide_eq_false h9; have := of_decide_eq_false h10; omega), (by have := of_decide_eq_true h2; have := of_decide_eq_true h6; have := of_decide_eq_false h9; have := of_decide_eq_false h10; omega)⟩ rfl ?_)
     refine rvc_open rfl rfl rfl (rexec_load33 C (fun p q => .pv (.lit (.int .i64 ((w p) q)))) i1 i (.pv (.lit (.int .i64 ((w i1) i)))) rfl rfl rfl rfl rfl rfl rfl (by have := of_decide_eq_true h2; have := of_decide_eq_true h6; have := of_decide_eq_false h9; have := of_decide_eq_false h10; omega) (by have := of_decide_eq_true h2; have := of_decide_eq_true h6; have := of_decide_eq_false h9; have := of_decide_eq_false h10; omega) rfl ?_)
     refine rvO C (.pv (.lit (.bool (((w i) i1) != ((w i1) i))))) ?_
     refine rvP C (.pv (.lit (.bool (((w i) i1) != ((w i1) i))))) ?_
     refine rvP C (.pv (.lit (.bool (((w i) i1) != ((w i1) i))))) ?_
     refine rvc_case 32 (((w i) i1) != ((w i1) i)) rfl (fun h11 => ?_) (fun h11 => ?_)
     ·
      replace hR := of_true h11 hR
      refine rvS ?_
      refine rvS ?_
      refine rvS ?_
      refine rvS ?_
      refine rvc_shutU rfl rfl rfl ?_
      refine rvc_shutU rfl rfl rfl ?_
      refine rvS ?_
      refine rvP C (.pv (.lit (.bool true))) ?_
      refine rvc_nil ?_
      refine Awp.condT (b := true) rfl rfl ?_
      refine Awp.consP C ?_
      refine rvP C (.pv (.lit (.int .i64 1))) ?_
      refine rvc_nil ?_
      refine Awp.ret ?_
      subst hR
      exact ⟨.inl rfl, rfl⟩
     ·
      replace hR := of_false h11 hR
      refine rvO C (.pv (.lit (.int .i64 (i : Int)))) ?_
      refine rvO C (.pv (.lit (.int .i64 (i1 : Int)))) ?_
      refine rvO C (.pv (.lit (.bool ((i : Int) == (i1 : Int))))) ?_
      refine rvO C (.pv (.lit (.bool ((i : Int) == (i1 : Int))))) ?_
      refine rvc_case 36 ((i : Int) == (i1 : Int)) rfl (fun h12 => ?_) (fun h12 => ?_)
      ·
       replace hR := of_true h12 hR
       refine rvO C (.pv (.lit (.int .i64 ((w i) i1)))) ?_
       refine rvO C (.pv (.lit (.bool (((w i) i1) != 0)))) ?_
       refine rvO C (.pv (.lit (.bool (((w i) i1) != 0)))) ?_
       refine rvP C (.pv (.lit (.bool (((w i) i1) != 0)))) ?_
       refine rvc_nil ?_
       refine Awp.cond (b := (((w i) i1) != 0)) rfl (fun h13 => ?_) (fun h13 => ?_)
       ·
        replace hR := of_true h13 hR
        refine Awp.consP C ?_
        refine rvP C (.pv (.lit (.int .i64 1))) ?_
        refine rvc_nil ?_
        refine Awp.ret ?_
        subst hR
        exact ⟨.inl rfl, rfl⟩
       ·
        replace hR := of_false h13 hR
        refine Awp.skip ?_
        refine Awp.regionP C ?_
        refine rvP C (.pv (.lit (.int .i64 (IntKind.i64.wrap ((i1 : Int) + 1))))) ?_
        refine rvP C (.pv (.lit (.int .i64 (IntKind.i64.wrap ((i1 : Int) + 1))))) ?_
        refine rvc_nil ?_
        refine ⟨h7, (), ?_, ?_⟩
        · exact (by rw [show 3 - (i1 + 1) = k1 by omega]; exact hR)
        · exact ⟨fun b => b, WeakerR.ofL (Ks := [1]) hI ⟨⟨rfl, rfl⟩, ⟨rfl, rfl⟩, ⟨rfl, rfl⟩, ⟨rfl, rfl⟩, ⟨rfl, rfl⟩, ⟨lit_cast (wrap_i64 (by omega) (by omega)), rfl⟩, trivial⟩ (okH_cons rfl rfl rfl rfl (okH_nil)) rfl⟩
      ·
       replace hR := of_false h12 hR
       refine rvS ?_
       refine rvS ?_
       refine rvO C (.pv (.lit (.bool false))) ?_
       refine rvP C (.pv (.lit (.bool false))) ?_
       refine rvc_nil ?_
       refine Awp.condF (b := false) rfl rfl ?_
       refine Awp.skip ?_
       refine Awp.regionP C ?_
       refine rvP C (.pv (.lit (.int .i64 (IntKind.i64.wrap ((i1 : Int) + 1))))) ?_
       refine rvP C (.pv (.lit (.int .i64 (IntKind.i64.wrap ((i1 : Int) + 1))))) ?_
       refine rvc_nil ?_
       refine ⟨h7, (), ?_, ?_⟩
       · exact (by rw [show 3 - (i1 + 1) = k1 by omega]; exact hR)
       · exact ⟨fun b => b, WeakerR.ofL (Ks := [1]) hI ⟨⟨rfl, rfl⟩, ⟨rfl, rfl⟩, ⟨rfl, rfl⟩, ⟨rfl, rfl⟩, ⟨rfl, rfl⟩, ⟨lit_cast (wrap_i64 (by omega) (by omega)), rfl⟩, trivial⟩ (okH_cons rfl rfl rfl rfl (okH_nil)) rfl⟩
  ·
   rw [show 3 - i1 = 0 by have := of_decide_eq_false h6; omega] at hR
   refine Awp.exit ?_
   refine Awp.regionP C ?_
   refine rvP C (.pv (.lit (.int .i64 (IntKind.i64.wrap ((i : Int) + 1))))) ?_
   refine rvP C (.pv (.lit (.int .i64 (IntKind.i64.wrap ((i : Int) + 1))))) ?_
   refine rvc_nil ?_
   refine ⟨h3, (), ?_, ?_⟩
   · exact (by rw [show 3 - (i + 1) = k by omega]; exact hR)
   · exact ⟨fun b => b, WeakerR.ofL (Ks := [1]) hI ⟨⟨rfl, rfl⟩, ⟨rfl, rfl⟩, ⟨lit_cast (wrap_i64 (by omega) (by omega)), rfl⟩, trivial⟩ (okH_cons rfl rfl rfl rfl (okH_nil)) rfl⟩
 ·
  rw [show 3 - i = 0 by have := of_decide_eq_false h2; omega] at hR
  refine Awp.exit ?_
  refine Awp.consP C ?_
  refine rvP C (.pv (.lit (.int .i64 0))) ?_
  refine rvc_nil ?_
  refine Awp.ret ?_
  subst hR
  exact ⟨.inl rfl, rfl⟩
def rWayCheck_l1 (w : (Nat → (Nat → Int))) (i : Nat) (kk : Int) : Nat → Nat → Int
  | 0, _ => kk 
  | k1 + 1, i1 => (bif (decide (((w i) i1) < 0)) then 1 else (bif (decide (((w i) i1) > 1000)) then 1 else (bif (((w i) i1) != ((w i1) i)) then 1 else (bif (((w i) i) != 0) then 1 else rWayCheck_l1 w i kk k1 (i1 + 1) ))))
def rWayCheck_l0 (w : (Nat → (Nat → Int))) : Nat → Nat → Int
  | 0, _ => 0
  | k + 1, i => rWayCheck_l1 w i (rWayCheck_l0 w k (i + 1) ) 3 0
def rWayCheck (w : (Nat → (Nat → Int))) : Int :=
  rWayCheck_l0 w 3 0
theorem rWayCheck_calls (w : (Nat → (Nat → Int)))  : PCalls Try.prog 29 [.agg [.pv (.lit (.int .i64 ((w 0) 0))), .pv (.lit (.int .i64 ((w 0) 1))), .pv (.lit (.int .i64 ((w 0) 2))), .pv (.lit (.int .i64 ((w 1) 0))), .pv (.lit (.int .i64 ((w 1) 1))), .pv (.lit (.int .i64 ((w 1) 2))), .pv (.lit (.int .i64 ((w 2) 0))), .pv (.lit (.int .i64 ((w 2) 1))), .pv (.lit (.int .i64 ((w 2) 2)))]] (.pv (.lit (.int .i64 (rWayCheck w)))) := by
 generalize hR : rWayCheck w = R
 refine PCalls.of_body tabOk Try.func29 rfl rfl rfl rfl rfl mixed fun E hP C hI => ?_
 refine Awp.consP C ?_
 refine rvc_un (rexec_prim C (δ := { v := .ptr 1 0, new := [(1, .cells [.pv (.lit (.int .i64 ((w 0) 0))), .pv (.lit (.int .i64 ((w 0) 1))), .pv (.lit (.int .i64 ((w 0) 2))), .pv (.lit (.int .i64 ((w 1) 0))), .pv (.lit (.int .i64 ((w 1) 1))), .pv (.lit (.int .i64 ((w 1) 2))), .pv (.lit (.int .i64 ((w 2) 0))), .pv (.lit (.int .i64 ((w 2) 1))), .pv (.lit (.int .i64 ((w 2) 2)))])] }) rfl rfl rfl rfl trivial rfl ?_)
 refine rvP C (.pv (.lit (.int .i64 0))) ?_
 refine rvc_nil ?_
 refine Awp.seq ?_
 refine Awp.consP C ?_
 refine rvP C (.pv (.lit (.int .i64 0))) ?_
 refine rvc_nil ?_
 refine Awp.block ?_
 refine Awp.forR (σ := Unit) (3) (fun i _v => [(1, .ptr 1 0), (5, .pv (.lit (.int .i64 (i : Int))))]) (fun i _v => [(1, .cells [.pv (.lit (.int .i64 ((w 0) 0))), .pv (.lit (.int .i64 ((w 0) 1))), .pv (.lit (.int .i64 ((w 0) 2))), .pv (.lit (.int .i64 ((w 1) 0))), .pv (.lit (.int .i64 ((w 1) 1))), .pv (.lit (.int .i64 ((w 1) 2))), .pv (.lit (.int .i64 ((w 2) 0))), .pv (.lit (.int .i64 ((w 2) 1))), .pv (.lit (.int .i64 ((w 2) 2)))])]) [1] (fun i _v => rWayCheck_l0 w (3 - i) i  = R) () ?_ ?_ (fun i _v h1 hR => ?_)
 · exact hR
 · exact ⟨fun b => b, WeakerR.ofL (Ks := [1]) hI ⟨⟨rfl, rfl⟩, ⟨rfl, rfl⟩, trivial⟩ (okH_cons rfl rfl rfl rfl (okH_nil)) rfl⟩
 refine Awp.consP C ?_
 refine rvP C (.pv (.lit (.bool (decide ((i : Int) < 3))))) ?_
 refine rvc_nil ?_
 refine Awp.seq ?_
 refine Awp.cond (b := (decide ((i : Int) < 3))) rfl (fun h2 => ?_) (fun h2 => ?_)
 ·
  have h3 : i < 3 := by have := of_decide_eq_true h2; omega
  obtain ⟨k, h4⟩ : ∃ k, 3 - i = k + 1 := ⟨3 - i - 1, by omega⟩
  rw [h4] at hR
  refine Awp.skip ?_
  refine Awp.seq ?_
  refine Awp.block ?_
  refine Awp.consP C ?_
  refine rvP C (.pv (.lit (.int .i64 (i : Int)))) ?_
  refine rvP C (.pv (.lit (.int .i64 (i : Int)))) ?_
  refine rvc_nil ?_
  refine Awp.consP C ?_
  refine rvP C (.pv (.lit (.int .i64 0))) ?_
  refine rvc_nil ?_
  refine Awp.block ?_
  refine Awp.forR (σ := Unit) (3) (fun i1 _v => [(1, .ptr 1 0), (3, .pv (.lit (.int .i64 (i : Int)))), (5, .pv (.lit (.int .i64 (i : Int)))), (8, .pv (.lit (.int .i64 (i1 : Int))))]) (fun i1 _v => [(1, .cells [.pv (.lit (.int .i64 ((w 0) 0))), .pv (.lit (.int .i64 ((w 0) 1))), .pv (.lit (.int .i64 ((w 0) 2))), .pv (.lit (.int .i64 ((w 1) 0))), .pv (.lit (.int .i64 ((w 1) 1))), .pv (.lit (.int .i64 ((w 1) 2))), .pv (.lit (.int .i64 ((w 2) 0))), .pv (.lit (.int .i64 ((w 2) 1))), .pv (.lit (.int .i64 ((w 2) 2)))])]) [1] (fun i1 _v => rWayCheck_l1 w i (rWayCheck_l0 w k (i + 1) ) (3 - i1) i1  = R) () ?_ ?_ (fun i1 _v h5 hR => ?_)
  · exact hR
  · exact ⟨fun b => b, WeakerR.ofL (Ks := [1]) hI ⟨⟨rfl, rfl⟩, ⟨rfl, rfl⟩, ⟨rfl, rfl⟩, ⟨rfl, rfl⟩, trivial⟩ (okH_cons rfl rfl rfl rfl (okH_nil)) rfl⟩
  refine Awp.consP C ?_
  refine rvP C (.pv (.lit (.bool (decide ((i1 : Int) < 3))))) ?_
  refine rvc_nil ?_
  refine Awp.seq ?_
  refine Awp.cond (b := (decide ((i1 : Int) < 3))) rfl (fun h6 => ?_) (fun h6 => ?_)
  ·
   have h7 : i1 < 3 := by have := of_decide_eq_true h6; omega
   obtain ⟨k1, h8⟩ : ∃ k, 3 - i1 = k + 1 := ⟨3 - i1 - 1, by omega⟩
   rw [h8] at hR
   refine Awp.skip ?_
   refine Awp.seq ?_
   refine Awp.block ?_
   refine Awp.consP C ?_
   refine rvP C (.pv (.lit (.int .i64 (i1 : Int)))) ?_
   refine rvP C (.pv (.lit (.int .i64 (i1 : Int)))) ?_
   refine rvc_nil ?_
   refine Awp.consP C ?_
   refine rvP C (.pv (.lit (.int .i64 (i : Int)))) ?_
   refine rvP C (.pv (.lit (.int .i64 (i1 : Int)))) ?_
   refine rvc_un (rexec_prim C (δ := { v := .ptr 1 (0 + i * 3) }) rfl rfl rfl rfl ⟨(by have := of_decide_eq_true h2; have := of_decide_eq_true h6; omega), (by have := of_decide_eq_true h2; have := of_decide_eq_true h6; omega)⟩ rfl ?_)
   refine rvc_un (rexec_prim C (δ := { v := .ptr 1 (0 + i * 3 + i1 * 1) }) rfl rfl rfl rfl ⟨(by have := of_decide_eq_true h2; have := of_decide_eq_true h6; omega), (by have := of_decide_eq_true h2; have := of_decide_eq_true h6; omega)⟩ rfl ?_)
   refine rvc_un (rexec_load33 C (fun p q => .pv (.lit (.int .i64 ((w p) q)))) i i1 (.pv (.lit (.int .i64 ((w i) i1)))) rfl rfl rfl rfl rfl rfl rfl (by have := of_decide_eq_true h2; have := of_decide_eq_true h6; omega) (by have := of_decide_eq_true h2; have := of_decide_eq_true h6; omega) rfl ?_)
   refine rvP C (.pv (.lit (.bool (decide (((w i) i1) < 0))))) ?_
   refine rvP C (.pv (.lit (.bool (decide (((w i) i1) < 0))))) ?_
   refine rvc_case 17 (decide (((w i) i1) < 0)) rfl (fun h9 => ?_) (fun h9 => ?_)
   ·
    replace hR := of_true h9 hR
    refine rvS ?_
    refine rvS ?_
    refine rvS ?_
    refine rvS ?_
    refine rvS ?_
    refine rvS ?_
    refine rvP C (.pv (.lit (.bool true))) ?_
    refine rvP C (.pv (.lit (.bool true))) ?_
    refine rvS ?_
    refine rvS ?_
    refine rvS ?_
    refine rvS ?_
    refine rvS ?_
    refine rvS ?_
    refine rvS ?_
    refine rvS ?_
    refine rvS ?_
    refine rvS ?_
    refine rvS ?_
    refine rvP C (.pv (.lit (.bool true))) ?_
    refine rvP C (.pv (.lit (.bool true))) ?_
    refine rvS ?_
    refine rvS ?_
    refine rvS ?_
    refine rvS ?_
    refine rvS ?_
    refine rvS ?_
    refine rvP C (.pv (.lit (.bool true))) ?_
    refine rvc_nil ?_
    refine Awp.condT (b := true) rfl rfl ?_
    refine Awp.consP C ?_
    refine rvP C (.pv (.lit (.int .i64 1))) ?_
    refine rvc_nil ?_
    refine Awp.ret ?_
    subst hR
    exact ⟨.inl rfl, rfl⟩
   ·
    replace hR := of_false h9 hR
    refine rvO C (.pv (.lit (.int .i64 (i : Int)))) ?_
    refine rvO C (.pv (.lit (.int .i64 (i1 : Int)))) ?_
    refine rvc_open rfl rfl rfl (rexec_prim C (δ := { v := .ptr 1 (0 + i * 3) }) rfl rfl rfl rfl ⟨(by have := of_decide_eq_true h2; have := of_decide_eq_true h6; have := of_decide_eq_false h9; omega), (by have := of_decide_eq_true h2; have := of_decide_eq_true h6; have := of_decide_eq_false h9; omega)⟩ rfl ?_)
    refine rvc_open rfl rfl rfl (rexec_prim C (δ := { v := .ptr 1 (0 + i * 3 + i1 * 1) }) rfl rfl rfl rfl ⟨(by have := of_decide_eq_true h2; have := of_decide_eq_true h6; have := of_decide_eq_false h9; omega), (by have := of_decide_eq_true h2; have := of_decide_eq_true h6; have := of_decide_eq_false h9; omega)⟩ rfl ?_)
    refine rvc_open rfl rfl rfl (rexec_load33 C (fun p q => .pv (.lit (.int .i64 ((w p) q)))) i i1 (.pv (.lit (.int .i64 ((w i) i1)))) rfl rfl rfl rfl rfl rfl rfl (by have := of_decide_eq_true h2; have := of_decide_eq_true h6; have := of_decide_eq_false h9; omega) (by have := of_decide_eq_true h2; have := of_decide_eq_true h6; have := of_decide_eq_false h9; omega) rfl ?_)
    refine rvO C (.pv (.lit (.bool (decide (((w i) i1) > 1000))))) ?_
    refine rvP C (.pv (.lit (.bool (decide (((w i) i1) > 1000))))) ?_
    refine rvP C (.pv (.lit (.bool (decide (((w i) i1) > 1000))))) ?_
    refine rvc_case 25 (decide (((w i) i1) > 1000)) rfl (fun h10 => ?_) (fun h10 => ?_)
    ·
     replace hR := of_true h10 hR
     refine rvS ?_
     refine rvS ?_
     refine rvS ?_
     refine rvS ?_
     refine rvS ?_
     refine rvS ?_
     refine rvS ?_
     refine rvS ?_
     refine rvS ?_
     refine rvS ?_
     refine rvS ?_
     refine rvP C (.pv (.lit (.bool true))) ?_
     refine rvP C (.pv (.lit (.bool true))) ?_
     refine rvS ?_
     refine rvS ?_
     refine rvS ?_
     refine rvS ?_
     refine rvS ?_
     refine rvS ?_
     refine rvP C (.pv (.lit (.bool true))) ?_
     refine rvc_nil ?_
     refine Awp.condT (b := true) rfl rfl ?_
     refine Awp.consP C ?_
     refine rvP C (.pv (.lit (.int .i64 1))) ?_
     refine rvc_nil ?_
     refine Awp.ret ?_
     subst hR
     exact ⟨.inl rfl, rfl⟩
    ·
     replace hR := of_false h10 hR
     refine rvO C (.pv (.lit (.int .i64 (i : Int)))) ?_
     refine rvO C (.pv (.lit (.int .i64 (i1 : Int)))) ?_
     refine rvc_open rfl rfl rfl (rexec_prim C (δ := { v := .ptr 1 (0 + i * 3) }) rfl rfl rfl rfl ⟨(by have := of_decide_eq_true h2; have := of_decide_eq_true h6; have := of_decide_eq_false h9; have := of_decide_eq_false h10; omega), (by have := of_decide_eq_true h2; have := of_decide_eq_true h6; have := of_decide_eq_false h9; have := of_decide_eq_false h10; omega)⟩ rfl ?_)
     refine rvc_open rfl rfl rfl (rexec_prim C (δ := { v := .ptr 1 (0 + i * 3 + i1 * 1) }) rfl rfl rfl rfl ⟨(by have := of_decide_eq_true h2; have := of_decide_eq_true h6; have := of_decide_eq_false h9; have := of_decide_eq_false h10; omega), (by have := of_decide_eq_true h2; have := of_decide_eq_true h6; have := of_decide_eq_false h9; have := of_decide_eq_false h10; omega)⟩ rfl ?_)
     refine rvc_open rfl rfl rfl (rexec_load33 C (fun p q => .pv (.lit (.int .i64 ((w p) q)))) i i1 (.pv (.lit (.int .i64 ((w i) i1)))) rfl rfl rfl rfl rfl rfl rfl (by have := of_decide_eq_true h2; have := of_decide_eq_true h6; have := of_decide_eq_false h9; have := of_decide_eq_false h10; omega) (by have := of_decide_eq_true h2; have := of_decide_eq_true h6; have := of_decide_eq_false h9; have := of_decide_eq_false h10; omega) rfl ?_)
     refine rvO C (.pv (.lit (.int .i64 (i1 : Int)))) ?_
     refine rvO C (.pv (.lit (.int .i64 (i : Int)))) ?_
     refine rvc_open rfl rfl rfl (rexec_prim C (δ := { v := .ptr 1 (0 + i1 * 3) }) rfl rfl rfl rfl ⟨(by have := of_decide_eq_true h2; have := of_decide_eq_true h6; have := of_decide_eq_false h9; have := of_decide_eq_false h10; omega), (by have := of_decide_eq_true h2; have := of_decide_eq_true h6; have := of_decide_eq_false h9; have := of_decide_eq_false h10; omega)⟩ rfl ?_)
     refine rvc_open rfl rfl rfl (rexec_prim C (δ := { v := .ptr 1 (0 + i1 * 3 + i * 1) }) rfl rfl rfl rfl ⟨(by have := of_decide_eq_true h2; have := of_decide_eq_true h6; have := of_decide_eq_false h9; have := of_decide_eq_false h10; omega), (by have := of_decide_eq_true h2; have := of_decide_eq_true h6; have := of_decide_eq_false h9; have := of_decide_eq_false h10; omega)⟩ rfl ?_)
     refine rvc_open rfl rfl rfl (rexec_load33 C (fun p q => .pv (.lit (.int .i64 ((w p) q)))) i1 i (.pv (.lit (.int .i64 ((w i1) i)))) rfl rfl rfl rfl rfl rfl rfl (by have := of_decide_eq_true h2; have := of_decide_eq_true h6; have := of_decide_eq_false h9; have := of_decide_eq_false h10; omega) (by have := of_decide_eq_true h2; have := of_decide_eq_true h6; have := of_decide_eq_false h9; have := of_decide_eq_false h10; omega) rfl ?_)
     refine rvO C (.pv (.lit (.bool (((w i) i1) != ((w i1) i))))) ?_
     refine rvP C (.pv (.lit (.bool (((w i) i1) != ((w i1) i))))) ?_
     refine rvP C (.pv (.lit (.bool (((w i) i1) != ((w i1) i))))) ?_
     refine rvc_case 38 (((w i) i1) != ((w i1) i)) rfl (fun h11 => ?_) (fun h11 => ?_)
     ·
      replace hR := of_true h11 hR
      refine rvS ?_
      refine rvS ?_
      refine rvS ?_
      refine rvS ?_
      refine rvS ?_
      refine rvS ?_
      refine rvP C (.pv (.lit (.bool true))) ?_
      refine rvc_nil ?_
      refine Awp.condT (b := true) rfl rfl ?_
      refine Awp.consP C ?_
      refine rvP C (.pv (.lit (.int .i64 1))) ?_
      refine rvc_nil ?_
      refine Awp.ret ?_
      subst hR
      exact ⟨.inl rfl, rfl⟩
     ·
      replace hR := of_false h11 hR
      refine rvO C (.pv (.lit (.int .i64 (i : Int)))) ?_
      refine rvO C (.pv (.lit (.int .i64 (i : Int)))) ?_
      refine rvc_open rfl rfl rfl (rexec_prim C (δ := { v := .ptr 1 (0 + i * 3) }) rfl rfl rfl rfl ⟨(by have := of_decide_eq_true h2; have := of_decide_eq_true h6; have := of_decide_eq_false h9; have := of_decide_eq_false h10; have := eq_of_bne_false h11; omega), (by have := of_decide_eq_true h2; have := of_decide_eq_true h6; have := of_decide_eq_false h9; have := of_decide_eq_false h10; have := eq_of_bne_false h11; omega)⟩ rfl ?_)
      refine rvc_open rfl rfl rfl (rexec_prim C (δ := { v := .ptr 1 (0 + i * 3 + i * 1) }) rfl rfl rfl rfl ⟨(by have := of_decide_eq_true h2; have := of_decide_eq_true h6; have := of_decide_eq_false h9; have := of_decide_eq_false h10; have := eq_of_bne_false h11; omega), (by have := of_decide_eq_true h2; have := of_decide_eq_true h6; have := of_decide_eq_false h9; have := of_decide_eq_false h10; have := eq_of_bne_false h11; omega)⟩ rfl ?_)
      refine rvc_open rfl rfl rfl (rexec_load33 C (fun p q => .pv (.lit (.int .i64 ((w p) q)))) i i (.pv (.lit (.int .i64 ((w i) i)))) rfl rfl rfl rfl rfl rfl rfl (by have := of_decide_eq_true h2; have := of_decide_eq_true h6; have := of_decide_eq_false h9; have := of_decide_eq_false h10; have := eq_of_bne_false h11; omega) (by have := of_decide_eq_true h2; have := of_decide_eq_true h6; have := of_decide_eq_false h9; have := of_decide_eq_false h10; have := eq_of_bne_false h11; omega) rfl ?_)
      refine rvO C (.pv (.lit (.bool (((w i) i) != 0)))) ?_
      refine rvP C (.pv (.lit (.bool (((w i) i) != 0)))) ?_
      refine rvc_nil ?_
      refine Awp.cond (b := (((w i) i) != 0)) rfl (fun h12 => ?_) (fun h12 => ?_)
      ·
       replace hR := of_true h12 hR
       refine Awp.consP C ?_
       refine rvP C (.pv (.lit (.int .i64 1))) ?_
       refine rvc_nil ?_
       refine Awp.ret ?_
       subst hR
       exact ⟨.inl rfl, rfl⟩
      ·
       replace hR := of_false h12 hR
       refine Awp.skip ?_
       refine Awp.regionP C ?_
       refine rvP C (.pv (.lit (.int .i64 (IntKind.i64.wrap ((i1 : Int) + 1))))) ?_
       refine rvP C (.pv (.lit (.int .i64 (IntKind.i64.wrap ((i1 : Int) + 1))))) ?_
       refine rvc_nil ?_
       refine ⟨h7, (), ?_, ?_⟩
       · exact (by rw [show 3 - (i1 + 1) = k1 by omega]; exact hR)
       · exact ⟨fun b => b, WeakerR.ofL (Ks := [1]) hI ⟨⟨rfl, rfl⟩, ⟨rfl, rfl⟩, ⟨rfl, rfl⟩, ⟨lit_cast (wrap_i64 (by omega) (by omega)), rfl⟩, trivial⟩ (okH_cons rfl rfl rfl rfl (okH_nil)) rfl⟩
  ·
   rw [show 3 - i1 = 0 by have := of_decide_eq_false h6; omega] at hR
   refine Awp.exit ?_
   refine Awp.regionP C ?_
   refine rvP C (.pv (.lit (.int .i64 (IntKind.i64.wrap ((i : Int) + 1))))) ?_
   refine rvP C (.pv (.lit (.int .i64 (IntKind.i64.wrap ((i : Int) + 1))))) ?_
   refine rvc_nil ?_
   refine ⟨h3, (), ?_, ?_⟩
   · exact (by rw [show 3 - (i + 1) = k by omega]; exact hR)
   · exact ⟨fun b => b, WeakerR.ofL (Ks := [1]) hI ⟨⟨rfl, rfl⟩, ⟨lit_cast (wrap_i64 (by omega) (by omega)), rfl⟩, trivial⟩ (okH_cons rfl rfl rfl rfl (okH_nil)) rfl⟩
 ·
  rw [show 3 - i = 0 by have := of_decide_eq_false h2; omega] at hR
  refine Awp.exit ?_
  refine Awp.consP C ?_
  refine rvP C (.pv (.lit (.int .i64 0))) ?_
  refine rvc_nil ?_
  refine Awp.ret ?_
  subst hR
  exact ⟨.inl rfl, rfl⟩
def siteOk (n : Int) : Bool :=
  (bif (decide (n ≥ 0)) then (decide (n < 3)) else false)
theorem siteOk_calls (n : Int)  : PCalls Try.prog 38 [.pv (.lit (.int .i64 n))] (.pv (.lit (.bool (siteOk n)))) := by
 generalize hR : siteOk n = R
 refine PCalls.of_body tabOk Try.func38 rfl rfl rfl rfl rfl mixed fun E hP C hI => ?_
 refine Awp.consP C ?_
 refine rvP C (.pv (.lit (.bool false))) ?_
 refine rvc_nil ?_
 refine Awp.consP C ?_
 refine rvP C (.pv (.lit (.int .i64 n))) ?_
 refine rvP C (.pv (.lit (.bool (decide (n ≥ 0))))) ?_
 refine rvP C (.pv (.lit (.bool (decide (n ≥ 0))))) ?_
 refine rvc_case 5 (decide (n ≥ 0)) rfl (fun h1 => ?_) (fun h1 => ?_)
 ·
  replace hR := of_true h1 hR
  refine rvO C (.pv (.lit (.int .i64 n))) ?_
  refine rvO C (.pv (.lit (.bool (decide (n < 3))))) ?_
  refine rvP C (.pv (.lit (.bool (decide (n < 3))))) ?_
  refine rvP C (.pv (.lit (.bool (decide (n < 3))))) ?_
  refine rvc_nil ?_
  refine Awp.ret ?_
  subst hR
  exact ⟨.inl rfl, rfl⟩
 ·
  replace hR := of_false h1 hR
  refine rvS ?_
  refine rvS ?_
  refine rvP C (.pv (.lit (.bool false))) ?_
  refine rvP C (.pv (.lit (.bool false))) ?_
  refine rvc_nil ?_
  refine Awp.ret ?_
  subst hR
  exact ⟨.inl rfl, rfl⟩
def down_l0 (c : Chain) (w : (Nat → (Nat → Int))) : List Member → Nat → Int → Int
  | [], _, n => n
  | x :: xs, i, n => down_l0 c w xs (i + 1) (IntKind.i64.wrap (n + ((w (c.members.D[(i : Int).toNat]!.site).toNat) x.site.toNat)))
def down (c : Chain) (w : (Nat → (Nat → Int))) : Int :=
  down_l0 c w (c.members.D.drop 1) 0 0
theorem down_calls (c : Chain) (w : (Nat → (Nat → Int))) (h0 : 0 < c.members.D.length) (hL : c.members.D.length ≤ 1000000) (hs : ∀ x ∈ c.members.D, 0 ≤ x.site ∧ x.site < 3) : PCalls Try.prog 43 [.agg [.pv (.lit (.int .i64 c.epoch)), sS (some c.members.nil) eMember c.members.D], .agg [.pv (.lit (.int .i64 ((w 0) 0))), .pv (.lit (.int .i64 ((w 0) 1))), .pv (.lit (.int .i64 ((w 0) 2))), .pv (.lit (.int .i64 ((w 1) 0))), .pv (.lit (.int .i64 ((w 1) 1))), .pv (.lit (.int .i64 ((w 1) 2))), .pv (.lit (.int .i64 ((w 2) 0))), .pv (.lit (.int .i64 ((w 2) 1))), .pv (.lit (.int .i64 ((w 2) 2)))]] (.pv (.lit (.int .i64 (down c w)))) := by
 generalize hR : down c w = R
 refine PCalls.of_body tabOk Try.func43 rfl rfl rfl rfl rfl mixed fun E hP C hI => ?_
 refine Awp.consP C ?_
 refine rvc_un (rexec_prim C (δ := { v := .ptr 2 0, new := [(2, .cells [.pv (.lit (.int .i64 c.epoch)), sS (some c.members.nil) eMember c.members.D])] }) rfl rfl rfl rfl trivial rfl ?_)
 refine rvc_un (rexec_prim C (δ := { v := .ptr 3 0, new := [(3, .cells [.pv (.lit (.int .i64 ((w 0) 0))), .pv (.lit (.int .i64 ((w 0) 1))), .pv (.lit (.int .i64 ((w 0) 2))), .pv (.lit (.int .i64 ((w 1) 0))), .pv (.lit (.int .i64 ((w 1) 1))), .pv (.lit (.int .i64 ((w 1) 2))), .pv (.lit (.int .i64 ((w 2) 0))), .pv (.lit (.int .i64 ((w 2) 1))), .pv (.lit (.int .i64 ((w 2) 2)))])] }) rfl rfl rfl rfl trivial rfl ?_)
 refine rvP C (.pv (.lit (.int .i64 0))) ?_
 refine rvc_nil ?_
 refine Awp.consP C ?_
 refine rvP C (.pv (.lit (.int .i64 0))) ?_
 refine rvc_nil ?_
 refine Awp.seq ?_
 refine Awp.consP C ?_
 refine rvP C (.ptr 2 1) ?_
 refine rvP C (sS (some c.members.nil) eMember c.members.D) ?_
 refine rvc_un (rexec_sliceS C (e := eMember) (D := c.members.D) 1 c.members.D.length rfl rfl rfl rfl rfl rfl rfl rfl rfl rfl (by omega) (by omega) (c.members.D.drop 1) (by rw [List.take_of_length_le (by simp)]) ?_)
 refine rvP C (.pv (.lit (.int .i64 ((c.members.D.drop 1).length : Int)))) ?_
 refine rvP C (.pv (.lit (.int .i64 0))) ?_
 refine rvc_nil ?_
 refine Awp.block ?_
 refine Awp.forR (σ := Int) ((c.members.D.drop 1).length) (fun i v => [(2, .ptr 2 0), (3, .ptr 3 0), (5, .pv (.lit (.int .i64 v))), (10, sS (some c.members.nil) eMember (c.members.D.drop 1)), (11, .pv (.lit (.int .i64 ((c.members.D.drop 1).length : Int)))), (12, .pv (.lit (.int .i64 (i : Int))))]) (fun i v => [(2, .cells [.pv (.lit (.int .i64 c.epoch)), sS (some c.members.nil) eMember c.members.D]), (3, .cells [.pv (.lit (.int .i64 ((w 0) 0))), .pv (.lit (.int .i64 ((w 0) 1))), .pv (.lit (.int .i64 ((w 0) 2))), .pv (.lit (.int .i64 ((w 1) 0))), .pv (.lit (.int .i64 ((w 1) 1))), .pv (.lit (.int .i64 ((w 1) 2))), .pv (.lit (.int .i64 ((w 2) 0))), .pv (.lit (.int .i64 ((w 2) 1))), .pv (.lit (.int .i64 ((w 2) 2)))])]) [2, 3] (fun i v => down_l0 c w ((c.members.D.drop 1).drop i) i v = R) 0 ?_ ?_ (fun i n h1 hR => ?_)
 · exact hR
 · exact ⟨fun b => b, WeakerR.ofL (Ks := [2, 3]) hI ⟨⟨rfl, rfl⟩, ⟨rfl, rfl⟩, ⟨rfl, rfl⟩, ⟨rfl, rfl⟩, ⟨rfl, rfl⟩, ⟨rfl, rfl⟩, trivial⟩ (okH_cons rfl rfl rfl rfl (okH_cons rfl rfl rfl rfl (okH_nil))) rfl⟩
 have hdl_ : (List.drop 1 c.members.D).length = c.members.D.length - 1 := List.length_drop ..
 refine Awp.consP C ?_
 refine rvP C (.pv (.lit (.bool (decide ((i : Int) < ((c.members.D.drop 1).length : Int)))))) ?_
 refine rvc_nil ?_
 refine Awp.seq ?_
 refine Awp.cond (b := (decide ((i : Int) < ((c.members.D.drop 1).length : Int)))) rfl (fun h2 => ?_) (fun h2 => ?_)
 ·
  have h3 : i < (c.members.D.drop 1).length := by have := of_decide_eq_true h2; omega
  obtain ⟨x, h4⟩ := getX h3
  rw [drop_at h4] at hR
  refine Awp.skip ?_
  refine Awp.seq ?_
  refine Awp.block ?_
  refine Awp.consP C ?_
  refine rvP C (.pv (.lit (.int .i64 (i : Int)))) ?_
  refine rvc_un (rexec_idxS C rfl rfl rfl rfl rfl rfl x (Int.natCast_nonneg _) h4 ?_)
  refine rvP C (.agg [.pv (.lit (.int .i64 x.node)), .pv (.lit (.int .i64 x.site)), .pv (.lit (.bool x.fresh))]) ?_
  refine rvc_un (rexec_prim C (δ := { v := .ptr 7 0, new := [(7, .cells [.pv (.lit (.int .i64 0)), .pv (.lit (.int .i64 0)), .pv (.lit (.bool false))])] }) rfl rfl rfl rfl trivial rfl ?_)
  refine rvP C (.pv (.lit (.int .i64 (i : Int)))) ?_
  refine rvc_un (rexec_prim C (δ := { v := .undef, wr := [(7, some (.cells [.pv (.lit (.int .i64 x.node)), .pv (.lit (.int .i64 x.site)), .pv (.lit (.bool x.fresh))]))] }) rfl rfl rfl rfl trivial rfl ?_)
  refine rvc_nil ?_
  refine Awp.regionP C ?_
  refine rvP C (.pv (.lit (.int .i64 n))) ?_
  refine rvP C (.ptr 2 1) ?_
  refine rvP C (sS (some c.members.nil) eMember c.members.D) ?_
  refine rvP C (.pv (.lit (.int .i64 (i : Int)))) ?_
  have h5 : c.members.D[(i : Int).toNat]? = some c.members.D[(i : Int).toNat]! := getE (by have := of_decide_eq_true h2; omega)
  refine rvc_un (rexec_idxS C rfl rfl rfl rfl rfl rfl (c.members.D[(i : Int).toNat]!) (Int.natCast_nonneg _) h5 ?_)
  refine rvP C (.rp [.lit (.int .i64 (c.members.D[(i : Int).toNat]!.site))]) ?_
  refine rvP C (.pv (.lit (.int .i64 (c.members.D[(i : Int).toNat]!.site)))) ?_
  refine rvP C (.ptr 7 1) ?_
  refine rvP C (.pv (.lit (.int .i64 x.site))) ?_
  refine rvc_un (rexec_prim C (δ := { v := .ptr 3 (0 + (c.members.D[(i : Int).toNat]!.site).toNat * 3) }) rfl rfl rfl rfl ⟨(by have q_ := hs _ (at_mem (D := c.members.D) (n := (i : Int).toNat) (by omega)); omega), (by have q_ := hs _ (at_mem (D := c.members.D) (n := (i : Int).toNat) (by omega)); omega)⟩ rfl ?_)
  refine rvc_un (rexec_prim C (δ := { v := .ptr 3 (0 + (c.members.D[(i : Int).toNat]!.site).toNat * 3 + x.site.toNat * 1) }) rfl rfl rfl rfl ⟨(by have q_ := hs x (List.mem_of_mem_drop (List.mem_of_getElem? (by assumption))); omega), (by have q_ := hs x (List.mem_of_mem_drop (List.mem_of_getElem? (by assumption))); omega)⟩ rfl ?_)
  refine rvc_un (rexec_load33 C (fun p q => .pv (.lit (.int .i64 ((w p) q)))) (c.members.D[(i : Int).toNat]!.site).toNat x.site.toNat (.pv (.lit (.int .i64 ((w (c.members.D[(i : Int).toNat]!.site).toNat) x.site.toNat)))) rfl rfl rfl rfl rfl rfl rfl (by have q_ := hs _ (at_mem (D := c.members.D) (n := (i : Int).toNat) (by omega)); omega) (by have q_ := hs x (List.mem_of_mem_drop (List.mem_of_getElem? (by assumption))); omega) rfl ?_)
  refine rvP C (.pv (.lit (.int .i64 (IntKind.i64.wrap (n + ((w (c.members.D[(i : Int).toNat]!.site).toNat) x.site.toNat)))))) ?_
  refine rvP C (.pv (.lit (.int .i64 (IntKind.i64.wrap (n + ((w (c.members.D[(i : Int).toNat]!.site).toNat) x.site.toNat)))))) ?_
  refine rvc_nil ?_
  refine Awp.regionP C ?_
  refine rvP C (.pv (.lit (.int .i64 (IntKind.i64.wrap ((i : Int) + 1))))) ?_
  refine rvP C (.pv (.lit (.int .i64 (IntKind.i64.wrap ((i : Int) + 1))))) ?_
  refine rvc_nil ?_
  refine ⟨h3, (IntKind.i64.wrap (n + ((w (c.members.D[(i : Int).toNat]!.site).toNat) x.site.toNat))), ?_, ?_⟩
  · exact hR
  · exact ⟨fun b => b, WeakerR.ofL (Ks := [2, 3]) hI ⟨⟨rfl, rfl⟩, ⟨rfl, rfl⟩, ⟨rfl, rfl⟩, ⟨rfl, rfl⟩, ⟨rfl, rfl⟩, ⟨lit_cast (wrap_i64 (by omega) (by omega)), rfl⟩, trivial⟩ (okH_cons rfl rfl rfl rfl (okH_cons rfl rfl rfl rfl (okH_nil))) rfl⟩
 ·
  have h3 : ¬ i < (c.members.D.drop 1).length := by have := of_decide_eq_false h2; omega
  rw [drop_end h3] at hR
  refine Awp.exit ?_
  refine Awp.consP C ?_
  refine rvP C (.pv (.lit (.int .i64 n))) ?_
  refine rvP C (.pv (.lit (.int .i64 n))) ?_
  refine rvc_nil ?_
  refine Awp.ret ?_
  subst hR
  exact ⟨.inl rfl, rfl⟩
def eqInts_l0 (s2 : (Sl Int)) : List Int → Nat → Bool
  | [], _ => true
  | x :: xs, i => (bif (x != (s2.D[(i : Int).toNat]!)) then false else eqInts_l0 s2 xs (i + 1) )
def eqInts (s1 : (Sl Int)) (s2 : (Sl Int)) : Bool :=
  (bif ((s1.D.length : Int) != (s2.D.length : Int)) then false else eqInts_l0 s2 s1.D 0 )
theorem eqInts_calls (s1 : (Sl Int)) (s2 : (Sl Int)) (hl1 : s1.D.length ≤ 1000000) : PCalls Try.prog 19 [sS (some s1.nil) (eI .i64) s1.D, sS (some s2.nil) (eI .i64) s2.D] (.pv (.lit (.bool (eqInts s1 s2)))) := by
 generalize hR : eqInts s1 s2 = R
 refine PCalls.of_body tabOk Try.func19 rfl rfl rfl rfl rfl mixed fun E hP C hI => ?_
 refine Awp.consP C ?_
 refine rvP C (.pv (.lit (.bool false))) ?_
 refine rvc_nil ?_
 refine Awp.seq ?_
 refine Awp.consP C ?_
 refine rvP C (sS (some s1.nil) (eI .i64) s1.D) ?_
 refine rvP C (.pv (.lit (.int .i64 (s1.D.length : Int)))) ?_
 refine rvP C (sS (some s2.nil) (eI .i64) s2.D) ?_
 refine rvP C (.pv (.lit (.int .i64 (s2.D.length : Int)))) ?_
 refine rvP C (.pv (.lit (.bool ((s1.D.length : Int) != (s2.D.length : Int))))) ?_
 refine rvc_nil ?_
 refine Awp.cond (b := ((s1.D.length : Int) != (s2.D.length : Int))) rfl (fun h1 => ?_) (fun h1 => ?_)
 ·
  replace hR := of_true h1 hR
  refine Awp.consP C ?_
  refine rvP C (.pv (.lit (.bool false))) ?_
  refine rvc_nil ?_
  refine Awp.ret ?_
  subst hR
  exact ⟨.inl rfl, rfl⟩
 ·
  replace hR := of_false h1 hR
  refine Awp.skip ?_
  refine Awp.seq ?_
  refine Awp.consP C ?_
  refine rvP C (sS (some s1.nil) (eI .i64) s1.D) ?_
  refine rvP C (.pv (.lit (.int .i64 (s1.D.length : Int)))) ?_
  refine rvP C (.pv (.lit (.int .i64 0))) ?_
  refine rvc_nil ?_
  refine Awp.block ?_
  refine Awp.forR (σ := Unit) (s1.D.length) (fun i _v => [(0, sS (some s1.nil) (eI .i64) s1.D), (1, sS (some s2.nil) (eI .i64) s2.D), (12, .pv (.lit (.int .i64 (s1.D.length : Int)))), (13, .pv (.lit (.int .i64 (i : Int))))]) (fun i _v => []) [] (fun i _v => eqInts_l0 s2 (s1.D.drop i) i  = R) () ?_ ?_ (fun i _v h2 hR => ?_)
  · exact hR
  · exact ⟨fun b => b, WeakerR.ofL (Ks := []) hI ⟨⟨rfl, rfl⟩, ⟨rfl, rfl⟩, ⟨rfl, rfl⟩, ⟨rfl, rfl⟩, trivial⟩ (okH_nil) rfl⟩
  refine Awp.consP C ?_
  refine rvP C (.pv (.lit (.bool (decide ((i : Int) < (s1.D.length : Int)))))) ?_
  refine rvc_nil ?_
  refine Awp.seq ?_
  refine Awp.cond (b := (decide ((i : Int) < (s1.D.length : Int)))) rfl (fun h3 => ?_) (fun h3 => ?_)
  ·
   have h4 : i < s1.D.length := by have := of_decide_eq_true h3; omega
   obtain ⟨x, h5⟩ := getX h4
   rw [drop_at h5] at hR
   refine Awp.skip ?_
   refine Awp.seq ?_
   refine Awp.block ?_
   refine Awp.consP C ?_
   refine rvP C (.pv (.lit (.int .i64 (i : Int)))) ?_
   refine rvP C (.pv (.lit (.int .i64 (i : Int)))) ?_
   refine rvc_nil ?_
   refine Awp.consP C ?_
   refine rvP C (sS (some s1.nil) (eI .i64) s1.D) ?_
   refine rvP C (.pv (.lit (.int .i64 (i : Int)))) ?_
   refine rvc_un (rexec_idxS C rfl rfl rfl rfl rfl rfl x (Int.natCast_nonneg _) h5 ?_)
   refine rvP C (.pv (.lit (.int .i64 x))) ?_
   refine rvP C (sS (some s2.nil) (eI .i64) s2.D) ?_
   refine rvP C (.pv (.lit (.int .i64 (i : Int)))) ?_
   have h6 : s2.D[(i : Int).toNat]? = some s2.D[(i : Int).toNat]! := getE (by have := eq_of_bne_false h1; have := of_decide_eq_true h3; omega)
   refine rvc_un (rexec_idxS C rfl rfl rfl rfl rfl rfl (s2.D[(i : Int).toNat]!) (Int.natCast_nonneg _) h6 ?_)
   refine rvP C (.pv (.lit (.int .i64 (s2.D[(i : Int).toNat]!)))) ?_
   refine rvP C (.pv (.lit (.bool (x != (s2.D[(i : Int).toNat]!))))) ?_
   refine rvc_nil ?_
   refine Awp.cond (b := (x != (s2.D[(i : Int).toNat]!))) rfl (fun h7 => ?_) (fun h7 => ?_)
   ·
    replace hR := of_true h7 hR
    refine Awp.consP C ?_
    refine rvP C (.pv (.lit (.bool false))) ?_
    refine rvc_nil ?_
    refine Awp.ret ?_
    subst hR
    exact ⟨.inl rfl, rfl⟩
   ·
    replace hR := of_false h7 hR
    refine Awp.skip ?_
    refine Awp.regionP C ?_
    refine rvP C (.pv (.lit (.int .i64 (IntKind.i64.wrap ((i : Int) + 1))))) ?_
    refine rvP C (.pv (.lit (.int .i64 (IntKind.i64.wrap ((i : Int) + 1))))) ?_
    refine rvc_nil ?_
    refine ⟨h4, (), ?_, ?_⟩
    · exact hR
    · exact ⟨fun b => b, WeakerR.ofL (Ks := []) hI ⟨⟨rfl, rfl⟩, ⟨rfl, rfl⟩, ⟨rfl, rfl⟩, ⟨lit_cast (wrap_i64 (by omega) (by omega)), rfl⟩, trivial⟩ (okH_nil) rfl⟩
  ·
   have h4 : ¬ i < s1.D.length := by have := of_decide_eq_false h3; omega
   rw [drop_end h4] at hR
   refine Awp.exit ?_
   refine Awp.consP C ?_
   refine rvP C (.pv (.lit (.bool true))) ?_
   refine rvc_nil ?_
   refine Awp.ret ?_
   subst hR
   exact ⟨.inl rfl, rfl⟩
end Go.Proofs.Ytihccnkegkkikaa
/- Chains in plain Lean: what chapter 8 shows of them. No conditions. -/
namespace Go.Proofs.Ytihccnkegkkikaa
open Go.Am
theorem bif_const {a : Bool} {x y z : Int} (hx : x ≠ z) (h : (bif a then x else y) = z) : a = false ∧ y = z := by
  cases a
  · exact ⟨rfl, h⟩
  · exact absurd h hx
theorem check_len {c : Chain} (h : check c = 0) : 0 < c.members.D.length := by
  unfold check at h
  obtain ⟨_, h⟩ := bif_const (by decide) h
  obtain ⟨_, h⟩ := bif_const (by decide) h
  obtain ⟨h3, h⟩ := bif_const (by decide) h
  have := ne_of_beq_false h3
  omega
theorem indexFunc_l0_lt (f : Member → Bool) : ∀ (l : List Member) (i : Nat), indexFunc_l0 f l i < ((i + l.length : Nat) : Int) ∧ -1 ≤ indexFunc_l0 f l i
  | [], i => by simp only [indexFunc_l0, List.length_nil]; omega
  | x :: l, i => by
    have := indexFunc_l0_lt f l (i + 1)
    simp only [indexFunc_l0, List.length_cons]
    cases f x <;> simp only [cond_true, cond_false] <;> omega
theorem placeIn_lt (c : Chain) (n : Int) : placeIn c n < (c.members.D.length : Int) ∧ -1 ≤ placeIn c n := by
  have := indexFunc_l0_lt (fun x0 => placeF x0 n) c.members.D 0
  simp only [placeIn, indexFunc]; omega
theorem nil_false {α : Type} {b : Bool} {D : List α} (h : b = true → D = []) (hl : 0 < D.length) : b = false := by
  cases b
  · rfl
  · rw [h rfl] at hl; simp at hl
theorem wrap64 (n : Int) : IntKind.u64.wrap n = n % 18446744073709551616 := by
  simp [IntKind.wrap, IntKind.bits, IntKind.signed]
theorem bv64 (a : Nat) (h : a < 18446744073709551616) : (BitVec.ofInt 64 (a : Int)).toNat = a := by
  rw [BitVec.toNat_ofInt]
  have : ((2 ^ 64 : Nat) : Int) = 18446744073709551616 := by decide
  rw [this]; omega
theorem or64 {a b : Nat} (ha : a < 18446744073709551616) (hb : b < 18446744073709551616) : bitI .or .u64 a b = ((a ||| b : Nat) : Int) := by
  have : a ||| b < 18446744073709551616 := Nat.or_lt_two_pow (n := 64) ha hb
  show IntKind.u64.wrap (((BitVec.ofInt 64 (a : Int) ||| BitVec.ofInt 64 (b : Int) : BitVec 64).toNat : Nat) : Int) = _
  rw [BitVec.toNat_or, bv64 a ha, bv64 b hb, wrap64]; omega
theorem and64 {a b : Nat} (ha : a < 18446744073709551616) (hb : b < 18446744073709551616) : bitI .and .u64 a b = ((a &&& b : Nat) : Int) := by
  have : a &&& b < 18446744073709551616 := Nat.lt_of_le_of_lt Nat.and_le_left ha
  show IntKind.u64.wrap (((BitVec.ofInt 64 (a : Int) &&& BitVec.ofInt 64 (b : Int) : BitVec 64).toNat : Nat) : Int) = _
  rw [BitVec.toNat_and, bv64 a ha, bv64 b hb, wrap64]; omega
theorem shr64 {a n : Nat} (hn : n < 64) : shrI .u64 (a : Int) (n : Int) = ((a >>> n : Nat) : Int) := by
  show (a : Int) / 2 ^ (min ((n : Int).toNat) 64) = _
  rw [Int.toNat_natCast, Nat.min_eq_left (by omega), Nat.shiftRight_eq_div_pow]
  simp
theorem shl64 {n : Nat} (hn : n < 64) : shlI .u64 1 (n : Int) = ((2 ^ n : Nat) : Int) := by
  show IntKind.u64.wrap (1 * 2 ^ (min ((n : Int).toNat) 64)) = _
  have h : 2 ^ n < 2 ^ 64 := Nat.pow_lt_pow_right (by decide) hn
  have h' : (2 : Nat) ^ 64 = 18446744073709551616 := by decide
  rw [Int.toNat_natCast, Nat.min_eq_left (by omega), wrap64, Int.one_mul]
  have e : (2 : Int) ^ n = ((2 ^ n : Nat) : Int) := by simp
  rw [e]
  rw [h'] at h
  clear e h'
  generalize (2 : Nat) ^ n = p at h ⊢
  omega
theorem in_nat {n : Nat} : mIn (n : Int) = decide (n < 64) := by
  unfold mIn
  have h0 : decide ((n : Int) ≥ 0) = true := by simp
  rw [h0]
  simp only [cond_true]
  congr 1
  exact propext ⟨fun h => by omega, fun h => by omega⟩
theorem has_nat {S n : Nat} (hS : S < 18446744073709551616) (hn : n < 64) : mHas (S : Int) (n : Int) = S.testBit n := by
  unfold mHas
  have hlt : S >>> n < 18446744073709551616 := Nat.lt_of_le_of_lt (Nat.shiftRight_le _ _) hS
  have h1 : (1 : Int) = ((1 : Nat) : Int) := rfl
  rw [in_nat, decide_eq_true hn, cond_true, shr64 hn, h1, and64 hlt (by decide)]
  rw [Nat.testBit_eq_decide_div_mod_eq, Nat.and_one_is_mod, Nat.shiftRight_eq_div_pow]
  by_cases h : S / 2 ^ n % 2 = 1
  · simp [h]
  · have : S / 2 ^ n % 2 = 0 := by omega
    simp [this]
theorem with_nat {S n : Nat} (hS : S < 18446744073709551616) (hn : n < 64) : mWith (S : Int) (n : Int) = ((S ||| 2 ^ n : Nat) : Int) := by
  unfold mWith
  have h : 2 ^ n < 2 ^ 64 := Nat.pow_lt_pow_right (by decide) hn
  have h' : (2 : Nat) ^ 64 = 18446744073709551616 := by decide
  rw [in_nat, decide_eq_true hn, Bool.not_true, cond_false, shl64 hn, or64 hS (by omega)]
theorem with_lt {S n : Nat} (hS : S < 18446744073709551616) (hn : n < 64) : S ||| 2 ^ n < 18446744073709551616 :=
  Nat.or_lt_two_pow (n := 64) hS (Nat.pow_lt_pow_right (by decide) hn)
theorem with_out {s n : Int} (h : mIn n = false) : mWith s n = s := by unfold mWith; rw [h]; rfl
theorem has_with {S n m : Nat} (hS : S < 18446744073709551616) (hn : n < 64) (hm : m < 64) : mHas (mWith (S : Int) (n : Int)) (m : Int) = (mHas (S : Int) (m : Int) || decide (n = m)) := by
  rw [with_nat hS hn, has_nat (with_lt hS hn) hm, has_nat hS hm, Nat.testBit_or, Nat.testBit_two_pow]
/-- May members stand behind others? -/
def okFrom (pre : List Member) : List Member → Bool
  | [] => true
  | x :: xs => member x && pre.all (fun y => !(y.node == x.node) && !(decide (y.site > x.site))) && okFrom (pre ++ [x]) xs
theorem member_iff (m : Member) : member m = true ↔ 0 ≤ m.node ∧ m.node ≤ 5 ∧ 0 ≤ m.site ∧ m.site ≤ 2 := by
  unfold member
  by_cases h1 : m.node ≥ 0 <;> by_cases h2 : m.node < 6 <;> by_cases h3 : m.site ≥ 0 <;> by_cases h4 : m.site < 3 <;> simp [h1, h2, h3, h4] <;> omega
theorem rCheck_l1_eq (x : Member) (kk : Int) : ∀ (l : List Member) (i : Nat), rCheck_l1 x kk l i = bif l.all (fun y => !(y.node == x.node) && !(decide (y.site > x.site))) then kk else 80
  | [], _ => rfl
  | y :: l, i => by
    simp only [rCheck_l1, List.all_cons]
    cases h1 : y.node == x.node
    · cases h2 : decide (y.site > x.site)
      · simp [rCheck_l1_eq x kk l (i + 1)]
      · simp
    · simp
theorem rCheck_l0_eq (c : Chain) : ∀ (xs : List Member) (i : Nat), xs = c.members.D.drop i → rCheck_l0 c xs i = bif okFrom (c.members.D.take i) xs then 0 else 80
  | [], i, _ => rfl
  | x :: xs, i, h => by
    have hi : c.members.D[i]? = some x := by
      have := congrArg (fun l => l[0]?) h
      simpa using this.symm
    have hx : xs = c.members.D.drop (i + 1) := by
      have := drop_at hi
      rw [← h] at this
      simpa using this
    have ht : c.members.D.take i ++ [x] = c.members.D.take (i + 1) := by
      rw [List.take_add_one, hi]; rfl
    have ih := rCheck_l0_eq c xs (i + 1) hx
    simp only [rCheck_l0, okFrom, ht, rCheck_l1_eq, ih]
    by_cases hm : member x = true
    · have := (member_iff x).1 hm
      rw [hm]
      have e1 : decide (x.node < 0) = false := by simp; omega
      have e2 : decide (x.node > 5) = false := by simp; omega
      have e3 : decide (x.site < 0) = false := by simp; omega
      have e4 : decide (x.site > 2) = false := by simp; omega
      rw [e1, e2, e3, e4]
      simp only [cond_false, Bool.true_and]
      cases (c.members.D.take i).all (fun y => !(y.node == x.node) && !(decide (y.site > x.site))) <;> simp
    · have hm' : member x = false := by simpa using hm
      rw [hm']
      have : x.node < 0 ∨ x.node > 5 ∨ x.site < 0 ∨ x.site > 2 := by
        have := mt (member_iff x).2 hm
        omega
      simp only [Bool.false_and, cond_false]
      by_cases e1 : x.node < 0
      · simp [e1]
      · by_cases e2 : x.node > 5
        · simp [e1, e2]
        · by_cases e3 : x.site < 0
          · simp [e1, e2, e3]
          · have e4 : x.site > 2 := by omega
            simp [e1, e2, e3, e4]
/-- What the program's loop knows of those ahead. -/
structure Inv (pre : List Member) (S : Nat) (site : Int) : Prop where
  lt : S < 18446744073709551616
  has : ∀ n : Nat, n < 6 → mHas (S : Int) (n : Int) = pre.any (fun y => y.node == (n : Int))
  le : ∀ y ∈ pre, y.site ≤ site
  at_ : site = 0 ∨ ∃ y ∈ pre, y.site = site
theorem check_l0_eq : ∀ (xs pre : List Member) (i S : Nat) (site : Int), Inv pre S site → check_l0 xs i (S : Int) site = bif okFrom pre xs then 0 else 80
  | [], _, _, _, _, _ => rfl
  | x :: xs, pre, i, S, site, inv => by
    simp only [check_l0, okFrom]
    by_cases hm : member x = true
    · obtain ⟨m1, m2, m3, m4⟩ := (member_iff x).1 hm
      rw [hm]
      simp only [Bool.not_true, cond_false, Bool.true_and]
      obtain ⟨k, hk⟩ : ∃ k : Nat, x.node = (k : Int) := ⟨x.node.toNat, by omega⟩
      have hk6 : k < 6 := by omega
      have hh := inv.has k hk6
      rw [hk, hh]
      cases ha : pre.any (fun y => y.node == (k : Int))
      · simp only [cond_false]
        by_cases hs : x.site < site
        · have : pre.all (fun y => !(y.node == (k : Int)) && !(decide (y.site > x.site))) = false := by
            rcases inv.at_ with h0 | ⟨y, hy, he⟩
            · omega
            · rw [Bool.eq_false_iff]
              intro hall
              have := List.all_eq_true.1 hall y hy
              simp at this
              omega
          simp [hs, this]
        · have hall : pre.all (fun y => !(y.node == (k : Int)) && !(decide (y.site > x.site))) = true := by
            rw [List.all_eq_true]
            intro y hy
            have h1 : (y.node == (k : Int)) = false := by
              rw [Bool.eq_false_iff]
              intro he
              rw [Bool.eq_false_iff] at ha
              exact ha (List.any_eq_true.2 ⟨y, hy, he⟩)
            have := inv.le y hy
            simp [h1]; omega
          have hs' : decide (x.site < site) = false := by simp; omega
          rw [hall, hs', with_nat inv.lt (by omega)]
          simp only [cond_false, Bool.true_and]
          refine check_l0_eq xs (pre ++ [x]) (i + 1) _ _ ⟨with_lt inv.lt (by omega), fun n hn => ?_, fun y hy => ?_, .inr ⟨x, by simp, rfl⟩⟩
          · rw [← with_nat inv.lt (by omega), has_with inv.lt (by omega) (by omega), inv.has n hn, List.any_append]
            congr 1
            simp only [List.any_cons, List.any_nil, Bool.or_false, hk]
            by_cases h : k = n
            · subst h; simp
            · have : ¬ ((k : Int) = (n : Int)) := by omega
              simp [h, this]
          · rcases List.mem_append.1 hy with hy | hy
            · have := inv.le y hy; omega
            · simp only [List.mem_singleton] at hy; subst hy; exact Int.le_refl _
      · simp only [cond_true]
        have : pre.all (fun y => !(y.node == (k : Int)) && !(decide (y.site > x.site))) = false := by
          obtain ⟨y, hy, he⟩ := List.any_eq_true.1 ha
          rw [Bool.eq_false_iff]
          intro hall
          have := List.all_eq_true.1 hall y hy
          simp at this he
          exact this.1 he
        simp [this]
    · have hm' : member x = false := by simpa using hm
      rw [hm']; rfl
def hasN (pre : List Member) (n : Int) : Nat := (pre.any fun y => y.node == n).toNat
def cnt (pre : List Member) : Nat := hasN pre 0 + hasN pre 1 + hasN pre 2 + hasN pre 3 + hasN pre 4 + hasN pre 5
theorem hasN_le (pre : List Member) (n : Int) : hasN pre n ≤ 1 := by unfold hasN; cases pre.any fun y => y.node == n <;> simp
theorem cnt_step {pre : List Member} {x : Member} (h0 : 0 ≤ x.node) (h5 : x.node ≤ 5) (ha : pre.any (fun y => y.node == x.node) = false) : cnt (pre ++ [x]) = cnt pre + 1 := by
  have key : ∀ n : Int, hasN (pre ++ [x]) n = if x.node = n then 1 else hasN pre n := fun n => by
    unfold hasN
    rw [List.any_append]
    simp only [List.any_cons, List.any_nil, Bool.or_false]
    by_cases h : x.node = n
    · subst h; simp
    · have : (x.node == n) = false := by simpa using h
      rw [this]; simp [h]
  have hz : hasN pre x.node = 0 := by unfold hasN; rw [ha]; rfl
  simp only [cnt, key]
  rcases (by omega : x.node = 0 ∨ x.node = 1 ∨ x.node = 2 ∨ x.node = 3 ∨ x.node = 4 ∨ x.node = 5) with h | h | h | h | h | h <;> rw [h] at hz ⊢ <;> simp [hz] <;> omega
theorem ok_len : ∀ (xs pre : List Member), okFrom pre xs = true → pre.length = cnt pre → pre.length + xs.length ≤ 6
  | [], pre, _, hc => by
    have := hasN_le pre 0; have := hasN_le pre 1; have := hasN_le pre 2; have := hasN_le pre 3; have := hasN_le pre 4; have := hasN_le pre 5
    simp only [List.length_nil, hc, cnt]; omega
  | x :: xs, pre, h, hc => by
    simp only [okFrom, Bool.and_eq_true] at h
    obtain ⟨⟨h1, h2⟩, h3⟩ := h
    obtain ⟨m1, m2, _, _⟩ := (member_iff x).1 h1
    have ha : pre.any (fun y => y.node == x.node) = false := by
      rw [Bool.eq_false_iff]
      intro he
      obtain ⟨y, hy, he⟩ := List.any_eq_true.1 he
      have := List.all_eq_true.1 h2 y hy
      rw [he] at this
      simp at this
    have := ok_len xs (pre ++ [x]) h3 (by rw [cnt_step m1 m2 ha, List.length_append, hc]; rfl)
    simp only [List.length_append, List.length_cons, List.length_nil] at this ⊢
    omega
theorem check_eq (c : Chain) : check c = rCheck c := by
  unfold check rCheck
  have h1 : check_l0 c.members.D 0 0 0 = bif okFrom [] c.members.D then 0 else 80 := check_l0_eq c.members.D [] 0 0 0 ⟨by decide, fun n hn => by
    have := has_nat (S := 0) (n := n) (by decide) (by omega)
    rw [this]; simp, fun y hy => (by cases hy), .inl rfl⟩
  have h2 : rCheck_l0 c c.members.D 0 = bif okFrom [] c.members.D then 0 else 80 := rCheck_l0_eq c c.members.D 0 rfl
  rw [h1, h2]
  cases decide (c.epoch < 1) <;> cases decide (c.epoch > 1099511627776) <;> cases ((c.members.D.length : Int) == 0) <;> simp only [cond_true, cond_false]
  cases hd : decide ((c.members.D.length : Int) > 6)
  · rfl
  · have hl : c.members.D.length > 6 := by have := of_decide_eq_true hd; omega
    cases ho : okFrom [] c.members.D
    · simp
    · have := ok_len c.members.D [] ho rfl
      simp at this; omega
theorem rCheck_le6 {c : Chain} (h : rCheck c = 0) : c.members.D.length ≤ 6 := by
  unfold rCheck at h
  obtain ⟨_, h⟩ := bif_const (by decide) h
  obtain ⟨_, h⟩ := bif_const (by decide) h
  obtain ⟨_, h⟩ := bif_const (by decide) h
  obtain ⟨h4, h⟩ := bif_const (by decide) h
  have := of_decide_eq_false h4
  omega
theorem check_le6 {c : Chain} (h : check c = 0) : c.members.D.length ≤ 6 := rCheck_le6 (by rw [← check_eq]; exact h)
def bitsOf (p : Member → Bool) (l : List Member) (S : Nat) : Nat := l.foldl (fun S x => if p x && mIn x.node then S ||| 2 ^ x.node.toNat else S) S
theorem in_iff (n : Int) : mIn n = true ↔ 0 ≤ n ∧ n < 64 := by
  unfold mIn
  by_cases h1 : n ≥ 0 <;> by_cases h2 : n < 64 <;> simp [h1, h2] <;> omega
theorem with_cast {S : Nat} (hS : S < 18446744073709551616) (n : Int) : mWith (S : Int) n = ((if mIn n then S ||| 2 ^ n.toNat else S : Nat) : Int) := by
  cases h : mIn n
  · rw [with_out h]; simp
  · obtain ⟨h1, h2⟩ := (in_iff n).1 h
    obtain ⟨k, rfl⟩ : ∃ k : Nat, n = (k : Int) := ⟨n.toNat, by omega⟩
    rw [with_nat hS (by omega)]; simp
theorem with_cast_lt {S : Nat} (hS : S < 18446744073709551616) (n : Int) : (if mIn n then S ||| 2 ^ n.toNat else S : Nat) < 18446744073709551616 := by
  cases h : mIn n
  · simpa using hS
  · obtain ⟨h1, h2⟩ := (in_iff n).1 h
    simp only [if_true]
    exact with_lt hS (by omega)
theorem nodes_l0_eq : ∀ (l : List Member) (i S : Nat), S < 18446744073709551616 → nodes_l0 l i (S : Int) = (bitsOf (fun _ => true) l S : Nat) ∧ bitsOf (fun _ => true) l S < 18446744073709551616
  | [], _, S, hS => ⟨rfl, hS⟩
  | x :: l, i, S, hS => by
    have := nodes_l0_eq l (i + 1) _ (with_cast_lt hS x.node)
    simp only [nodes_l0, with_cast hS, this.1]
    simp only [bitsOf, List.foldl_cons, Bool.true_and] at this ⊢
    exact ⟨trivial, this.2⟩
theorem whole_l0_eq : ∀ (l : List Member) (i S : Nat), S < 18446744073709551616 → whole_l0 l i (S : Int) = (bitsOf (fun x => !x.fresh) l S : Nat) ∧ bitsOf (fun x => !x.fresh) l S < 18446744073709551616
  | [], _, S, hS => ⟨rfl, hS⟩
  | x :: l, i, S, hS => by
    simp only [whole_l0]
    cases hf : x.fresh
    · have := whole_l0_eq l (i + 1) _ (with_cast_lt hS x.node)
      simp only [Bool.not_false, cond_true, with_cast hS, this.1]
      simp only [bitsOf, List.foldl_cons, hf, Bool.not_false, Bool.true_and] at this ⊢
      exact ⟨trivial, this.2⟩
    · have := whole_l0_eq l (i + 1) S hS
      simp only [Bool.not_true, cond_false, this.1]
      simp only [bitsOf, List.foldl_cons, hf, Bool.not_true, Bool.false_and] at this ⊢
      exact ⟨by simp, by simpa using this.2⟩
theorem bits_test (p : Member → Bool) {n : Nat} (hn : n < 64) : ∀ (l : List Member) (S : Nat), (bitsOf p l S).testBit n = (S.testBit n || l.any fun x => x.node == (n : Int) && p x)
  | [], S => by simp [bitsOf]
  | x :: l, S => by
    have h : bitsOf p (x :: l) S = bitsOf p l (if p x && mIn x.node then S ||| 2 ^ x.node.toNat else S) := rfl
    rw [h, bits_test p hn l, List.any_cons]
    by_cases hx : x.node = (n : Int)
    · have hin : mIn x.node = true := (in_iff _).2 (by omega)
      rw [hin, hx]
      cases p x <;> simp [Nat.testBit_or]
    · have e : (x.node == (n : Int)) = false := by simpa using hx
      rw [e]
      cases hp : p x && mIn x.node
      · simp
      · have hin : mIn x.node = true := by simp only [Bool.and_eq_true] at hp; exact hp.2
        obtain ⟨h1, h2⟩ := (in_iff _).1 hin
        have : x.node.toNat ≠ n := by omega
        simp [Nat.testBit_or, this]
theorem ok_of_check {c : Chain} (h : check c = 0) : okFrom [] c.members.D = true := by
  unfold check at h
  obtain ⟨_, h⟩ := bif_const (by decide) h
  obtain ⟨_, h⟩ := bif_const (by decide) h
  obtain ⟨_, h⟩ := bif_const (by decide) h
  obtain ⟨_, h⟩ := bif_const (by decide) h
  have h1 : check_l0 c.members.D 0 0 0 = bif okFrom [] c.members.D then 0 else 80 := check_l0_eq c.members.D [] 0 0 0 ⟨by decide, fun n hn => by
    have := has_nat (S := 0) (n := n) (by decide) (by omega)
    rw [this]; simp, fun y hy => (by cases hy), .inl rfl⟩
  rw [h1] at h
  cases ho : okFrom [] c.members.D
  · rw [ho] at h; cases h
  · rfl
theorem ok_member : ∀ (l pre : List Member), okFrom pre l = true → ∀ y ∈ l, member y = true
  | [], _, _, y, hy => by cases hy
  | x :: l, pre, h, y, hy => by
    simp only [okFrom, Bool.and_eq_true] at h
    cases hy with
    | head => exact h.1.1
    | tail _ hm => exact ok_member l (pre ++ [x]) h.2 y hm
theorem mem_ok {c : Chain} (hc : check c = 0) {x : Member} (hx : x ∈ c.members.D) : 0 ≤ x.node ∧ x.node ≤ 5 ∧ 0 ≤ x.site ∧ x.site ≤ 2 :=
  (member_iff x).1 (ok_member _ _ (ok_of_check hc) x hx)
theorem check_80 (c : Chain) : check c = 0 ∨ check c = 80 := by
  unfold check
  have h1 : check_l0 c.members.D 0 0 0 = bif okFrom [] c.members.D then 0 else 80 := check_l0_eq c.members.D [] 0 0 0 ⟨by decide, fun n hn => by
    have := has_nat (S := 0) (n := n) (by decide) (by omega)
    rw [this]; simp, fun y hy => (by cases hy), .inl rfl⟩
  rw [h1]
  cases decide (c.epoch < 1) <;> cases decide (c.epoch > 1099511627776) <;> cases ((c.members.D.length : Int) == 0) <;> cases c.members.D[0]!.fresh <;> cases okFrom [] c.members.D <;> simp
theorem check_bad {c : Chain} (h : (check c != 0) = true) : check c = 80 := by
  rcases check_80 c with h' | h'
  · rw [h'] at h; cases h
  · exact h'
end Go.Proofs.Ytihccnkegkkikaa
/- Places. No conditions. -/
namespace Go.Proofs.Ytihccnkegkkikaa
open Go.Am
def place0 (c : Chain) (node : Int) : Int :=
  (bif ((check c) != 0) then (-1) else (placeIn c node))
theorem place0_calls (c : Chain) (node : Int) (hl1 : c.members.D.length ≤ 9223372036854775807) : PCalls Try.prog 23 [.agg [.pv (.lit (.int .i64 c.epoch)), sS (some c.members.nil) eMember c.members.D], .pv (.lit (.int .i64 node))] (.pv (.lit (.int .i64 (place0 c node)))) := by
 generalize hR : place0 c node = R
 refine PCalls.of_body tabOk Try.func23 rfl rfl rfl rfl rfl mixed fun E hP C hI => ?_
 refine Awp.consP C ?_
 refine rvc_un (rexec_prim C (δ := { v := .ptr 2 0, new := [(2, .cells [.pv (.lit (.int .i64 c.epoch)), sS (some c.members.nil) eMember c.members.D])] }) rfl rfl rfl rfl trivial rfl ?_)
 refine rvP C (.pv (.lit (.int .i64 0))) ?_
 refine rvc_nil ?_
 refine Awp.seq ?_
 refine Awp.consP C ?_
 refine rvP C (.agg [.pv (.lit (.int .i64 c.epoch)), sS (some c.members.nil) eMember c.members.D]) ?_
 refine rvc_un (rexec_call hP C rfl rfl rfl (check_calls c hl1) ?_)
 refine rvP C (.pv (.lit (.bool ((check c) != 0)))) ?_
 refine rvc_nil ?_
 refine Awp.cond (b := ((check c) != 0)) rfl (fun h1 => ?_) (fun h1 => ?_)
 ·
  replace hR := of_true h1 hR
  refine Awp.consP C ?_
  refine rvP C (.pv (.lit (.int .i64 (-1)))) ?_
  refine rvc_nil ?_
  refine Awp.ret ?_
  subst hR
  exact ⟨.inl rfl, rfl⟩
 ·
  replace hR := of_false h1 hR
  refine Awp.skip ?_
  refine Awp.consP C ?_
  refine rvP C (.agg [.pv (.lit (.int .i64 c.epoch)), sS (some c.members.nil) eMember c.members.D]) ?_
  refine rvP C (.pv (.lit (.int .i64 node))) ?_
  refine rvc_un (rexec_call hP C rfl rfl rfl (placeIn_calls c node hl1) ?_)
  refine rvP C (.pv (.lit (.int .i64 (placeIn c node)))) ?_
  refine rvc_nil ?_
  refine Awp.ret ?_
  subst hR
  exact ⟨.inl rfl, rfl⟩
end Go.Proofs.Ytihccnkegkkikaa
/- An abstract machine over the kit's calls, part 29: calls that take a row of one's own and give one; contents of rows that are copied about in. No conditions. -/
namespace Go.Am
section lists
variable {α : Type} {e : Enc α}
end lists
section steps
variable {E : Env} {T : Tab} {cq : Oper → Cls} {n : Nat} {ops : Array Oper}
theorem CellsH.left {ι : Nat → Option (Nat × Nat)} {imm : Nat → Prop} {w : World} {c : Array Value} : ∀ {xs ys : List AV} {o : Nat}, CellsH ι imm w c (xs ++ ys) o → CellsH ι imm w c xs o
  | [], _, _, _ => trivial
  | _ :: _, _, _, h => ⟨h.1, CellsH.left h.2⟩
theorem WeakerR.ofLI {E : Env} {st : St} {τ : Nat → Nat} {S : List (Nat × AV)} {H : List (Nat × Blk)} {U Ks I : List Nat} (hI : E.I = I) (h1 : okS st.S τ U S) (h2 : okH st.H τ U Ks H) (h5 : (Ks.all fun x => Ks.all fun y => !(τ x == τ y) || x == y) = true) (h6 : (I.all fun b => U.contains b && τ b == b) = true) : WeakerR st τ S H U E.I :=
  ⟨fun x hx => (okS_mem h1 x hx).1, fun x hx => (h2 x hx).1, List.all_eq_true.2 fun x hx => (okS_mem h1 x hx).2, List.all_eq_true.2 fun x hx => by rw [Bool.and_eq_true]; exact ⟨(h2 x hx).2.2.1, (h2 x hx).2.2.2⟩, fun x hx y hy e => by
    have := List.all_eq_true.1 (List.all_eq_true.1 h5 x.1 (by simpa using (h2 x hx).2.1)) y.1 (by simpa using (h2 y hy).2.1)
    simpa [e] using this, by rw [hI]; exact h6⟩
/-- A call that takes a row (block 0) and gives one (block 1). -/
structure TCalls (P : Program) (f : FuncId) (avs : List AV) (k : Blk) (av : AV) (k' : Blk) : Prop where
  fn : ∃ fn, P.funcs[f]? = some fn ∧ (fn.name == "runtime.NumGoroutine") = false ∧ fn.body.isNone = false
  args : AV.withinL (fun b => b == 0) avs = true
  res : av.within (fun b => b == 1) = true
  blk : k.within (fun _ => false) = true
  blk' : k'.within (fun _ => false) = true
  calls : ACalls P f [0] avs [(0, k)] av [(1, k')]
/-- A call that takes a row (block 0) and gives what does not change. -/
structure XCalls (P : Program) (f : FuncId) (avs : List AV) (k : Blk) (av : AV) : Prop where
  fn : ∃ fn, P.funcs[f]? = some fn ∧ (fn.name == "runtime.NumGoroutine") = false ∧ fn.body.isNone = false
  args : AV.withinL (fun b => b == 0) avs = true
  res : av.within (fun _ => false) = true
  blk : k.within (fun _ => false) = true
  calls : ACalls P f [0] avs [(0, k)] av []
end steps
end Go.Am
/- An abstract machine over the kit's calls, part 33: calls that change a row of one's own in place. No conditions. -/
namespace Go.Am
theorem withinL0 {xs : List AV} (h : AV.withinL (fun _ => false) xs = true) : AV.withinL (fun b => b == 0) xs = true := AV.withinL_mono (fun _ hb => by cases hb) xs h
section steps
variable {E : Env} {T : Tab} {cq : Oper → Cls} {n : Nat} {ops : Array Oper}
/-- A call that takes a row (block 0), changes it in place, and gives what does not change. -/
structure MCalls (P : Program) (f : FuncId) (avs : List AV) (k : Blk) (av : AV) (k' : Blk) : Prop where
  fn : ∃ fn, P.funcs[f]? = some fn ∧ (fn.name == "runtime.NumGoroutine") = false ∧ fn.body.isNone = false
  args : AV.withinL (fun b => b == 0) avs = true
  res : av.within (fun _ => false) = true
  blk : k.within (fun _ => false) = true
  blk' : k'.within (fun _ => false) = true
  calls : ACalls P f [0] avs [(0, k)] av [(0, k')]
theorem MCalls.of_body {P : Program} {T : Tab} (hT : TabOk P T) {f : FuncId} {fn : Func} {body : Code} (hf : P.funcs[f]? = some fn) (hb : fn.body = some body) (hn : (fn.name == "runtime.NumGoroutine") = false) {avs : List AV} {k k' : Blk} {av : AV} (hl : decide (avs.length ≤ fn.ntmps) = true) (ha : AV.withinL (fun b => b == 0) avs = true) (hr : av.within (fun _ => false) = true) (hk : k.within (fun _ => false) = true) (hk' : k'.within (fun _ => false) = true) (hm : P.follows .mixedOrders = true)
    (h : ∀ E : Env, E.P = P → Cx E T fn.ntmps → E.I = [0] → Awp E body (entry avs [(0, k)] [0]) fun e st => (e = .ret ∨ e = .normal) ∧ resAV T st fn.results.toList = some av ∧ st.H 0 = some k') : MCalls P f avs k av k' where
  fn := ⟨fn, hf, hn, by simp [hb]⟩
  args := ha
  res := hr
  blk := hk
  blk' := hk'
  calls := ACalls.of_body hT hf hb (by simpa using hl) fun E hP hE hI => (h E hP ⟨hP ▸ hT, hE, hP ▸ hm⟩ hI).mono fun e st ⟨h1, h2, h3⟩ => ⟨h1, h2, fun x hx => by simp only [List.mem_singleton] at hx; subst hx; exact h3⟩
theorem rexec_callM {P : Program} (hP : E.P = P) (C : Cx E T n) {f : FuncId} {avs args : List AV} {av : AV} {k k' : Blk} {d : Option Nat} {b : Nat} {c : Call} {ty : TypeId} {pos : String} {af : Array Edge} {g : Option (Nat × Bool)} {st : St} {K : St → Prop} (h1 : dstB n ⟨d, .call c, ty, pos, af, g⟩ = true) (hc : c.callee = .value (.func f)) (hv : evls st.S c.args.toList = some args)
    (F : MCalls P f avs k av k') (ha : AV.renL (fun _ => b) avs = args) (hb : st.H b = some k) (h7 : K (st.after d { v := av, wr := [(b, some k')] })) (hreach : reachB (.fn f [] [] :: args) [] [(b, k)] = true := by rfl) (hbr : refs (.fn f [] [] :: args) [(b, k)] b = true := by rfl) (hp : clsOf cq ⟨d, .call c, ty, pos, af, g⟩ ≠ .pure := by decide) (hq : clsOf cq ⟨d, .call c, ty, pos, af, g⟩ ≠ .quiet := by decide) (hft : footB (clsOf cq ⟨d, .call c, ty, pos, af, g⟩) [(b, k)] { v := av, wr := [(b, some k')] } = true := by rfl) : rexec E cq n ⟨d, .call c, ty, pos, af, g⟩ st K := by
  subst hP
  obtain ⟨fn, q1, q2, q3⟩ := F.fn
  have hd : ∀ x, d = some x → x < E.n := fun x e => by
    simp only [dstB, e, decide_eq_true_eq] at h1
    exact C.n ▸ h1
  have hin : inI [0] = fun b => b == 0 := funext fun b => by cases b <;> rfl
  have hk0 : Names.knows ⟨fun _ => b, []⟩ [0] 0 = true := by simp [Names.knows, inI]
  have ok : CallOk ⟨fun _ => b, []⟩ [0] avs [(0, k)] [(0, k')] av := by
    refine { args := by rw [hin]; exact F.args, ids := ?_, blks := ?_, nodup := by simp, inj := ?_, nodupL := by simp, nodupR := by simp, fresh := ?_, res := ?_, res' := ?_, kept := ?_, all := ?_, used := ?_ }
    · intro x hx; simp only [List.mem_singleton] at hx; subst hx; rfl
    · intro x hx; simp only [List.mem_singleton] at hx; subst hx; exact Blk.within_mono (fun b hb => by cases hb) k F.blk
    · intro x y hx hy _; simp [inI] at hx hy; omega
    · intro x hx; cases hx
    · exact AV.within_mono (fun x hx => by cases hx) av F.res
    · intro x hx
      simp only [List.mem_singleton] at hx
      subst hx
      exact ⟨hk0, Blk.within_mono (fun b hb => by cases hb) k' F.blk'⟩
    · intro x hx _; simp only [List.mem_singleton] at hx; subst hx; exact ⟨k, List.mem_singleton.2 rfl⟩
    · intro x hx; cases hx
    · intro x hx
      have : x = 0 := by simpa [inI] using hx
      subst this; exact .inr rfl
  have hdo := does_call (E := E) (o := ⟨d, .call c, ty, pos, af, g⟩) (c := c) rfl hc hd q1 q2 q3 F.calls ok (args := args) (caps := []) (by simpa using ha)
  have he : Names.delta ⟨fun _ => b, []⟩ [0] [(0, k)] [(0, k')] av = { v := av, wr := [(b, some k')] } := by
    have e2 : heapOf [(0, k')] 0 = some k' := rfl
    simp only [Names.delta, List.map_nil, List.map_cons, AV.ren_none av F.res, e2, Option.map_some, Blk.ren_none F.blk']
  have hH : ([(0, k)] : List (Nat × Blk)).map (fun x => ((fun _ => b) x.1, x.2.ren (fun _ => b))) = [(b, k)] := by
    simp only [List.map_cons, List.map_nil, Blk.ren_none F.blk]
  rw [he] at hdo
  have hdo' : Does E ⟨d, .call c, ty, pos, af, g⟩ (.fn f [] [] :: args) [(b, k)] { v := av, wr := [(b, some k')] } := by
    rw [← hH]; exact hdo
  have hops : (Op.operands (.call c)).toList = .func f :: c.args.toList := by simp [Op.operands, Call.operands, hc]
  refine ⟨h1, .fn f [] [] :: args, [(b, k)], _, { vals := ?_, deps := ?_, fresh := fun _ h => (by cases h), does := hdo', reach := hreach, inV := ?_, inN := fun _ h => (by cases h), inW := ?_, wr := ?_, pure := fun h => ?_, quiet := fun h => ?_, foot := hft }, h7⟩
  · show evls st.S (Op.operands (.call c)).toList = _
    rw [hops]; simp only [evls, evl, hv]
  · intro x hx; simp only [List.mem_singleton] at hx; subst hx; exact hb
  · exact AV.within_mono (fun x hx => by cases hx) av F.res
  · intro x hx q hq
    simp only [List.mem_singleton] at hx
    subst hx
    obtain rfl := Option.some.inj hq
    exact Blk.within_mono (fun b hb => by cases hb) k' F.blk'
  · intro x hx
    simp only [List.mem_singleton] at hx
    subst hx
    rw [hbr]; simp
  · exact absurd h hp
  · exact absurd h hq
/-- A loop that is left in its first round. -/
theorem Awp.once {c : Code} {st : St} {Q : Exit → St → Prop} (h : Awp E c st fun e st' => match e with | .normal => False | e => Q e st') : Awp E (.loop c) st Q := by
  intro a w hat
  refine wp_loop_ghost (fun _ a w => At E st a w) 0 hat fun m a w hat => ?_
  refine wp_mono (h a w hat) ?_
  rintro e a' w' ⟨st', h1, h2⟩
  cases e <;> simp only [Exit.then]
  case normal => exact h1.elim
  all_goals exact ⟨st', h1, h2⟩
end steps
end Go.Am
/- Sorting by insertion, in place. No conditions. -/
namespace Go.Proofs.Ytihccnkegkkikaa
open Go.Am
def insSort_l1 (a : Int) (cmp : Member → Member → Int) (kk : Int → (List Member) → List Member) : Nat → Int → (List Member) → List Member
  | 0, _, _ => default
  | nn + 1, j, vc1 => (bif (decide (j > a)) then (bif (decide ((cmp (vc1[j.toNat]!) (vc1[(IntKind.i64.wrap (j - 1)).toNat]!)) < 0)) then insSort_l1 a cmp kk nn (IntKind.i64.wrap (j - 1)) ((vc1.set j.toNat (vc1[(IntKind.i64.wrap (j - 1)).toNat]!)).set ((IntKind.i64.wrap (j - 1)).toNat) (vc1[j.toNat]!)) else kk j vc1) else kk j vc1)
def insSort_l0 (a : Int) (b : Int) (cmp : Member → Member → Int) : Nat → Int → (List Member) → List Member
  | 0, _, _ => default
  | nn + 1, i, vc => (bif (decide (i < b)) then insSort_l1 a cmp (fun _ vc1 => insSort_l0 a b cmp nn (IntKind.i64.wrap (i + 1)) vc1) ((i - a).toNat + 1) i vc else vc)
def insSort (data : List Member) (a : Int) (b : Int) (cmp : Member → Member → Int) : List Member :=
  insSort_l0 a b cmp ((b - (IntKind.i64.wrap (a + 1))).toNat + 1) (IntKind.i64.wrap (a + 1)) data
theorem insSort_calls (data : List Member) (a : Int) (b : Int) (cmp : Member → Member → Int) (g3 : Nat) (caps3 : List AV) (hp3 : ∀ (x0 : Member) (x1 : Member), (0 ≤ x0.site ∧ x0.site < 3) → (0 ≤ x1.site ∧ x1.site < 3) → PCalls Try.prog g3 ([.agg [.pv (.lit (.int .i64 x0.node)), .pv (.lit (.int .i64 x0.site)), .pv (.lit (.bool x0.fresh))], .agg [.pv (.lit (.int .i64 x1.node)), .pv (.lit (.int .i64 x1.site)), .pv (.lit (.bool x1.fresh))]] ++ caps3) (.pv (.lit (.int .i64 (cmp x0 x1))))) (hw3 : AV.withinL (fun _ => false) caps3 = true) (hab : 0 ≤ a ∧ a ≤ b ∧ b ≤ (data.length : Int)) (hL : data.length ≤ 1000000) (hs : ∀ x ∈ data, 0 ≤ x.site ∧ x.site < 3) : MCalls Try.prog 59 [.sl 0 0 data.length 3 false, .pv (.lit (.int .i64 a)), .pv (.lit (.int .i64 b)), .fn g3 [] caps3] (.cells (encC eMember data)) (.tup []) (.cells (encC eMember (insSort data a b cmp))) := by
 generalize hR : insSort data a b cmp = R
 refine MCalls.of_body tabOk Try.func59 rfl rfl rfl (by simp [AV.withinL, AV.within, withinL0 hw3]) rfl (encC_within _ _) (encC_within _ _) mixed fun E hP C hI => ?_
 refine Awp.consP C ?_
 refine rvP C (.pv (.lit (.int .i64 a))) ?_
 refine rvP C (.pv (.lit (.int .i64 (IntKind.i64.wrap (a + 1))))) ?_
 refine rvP C (.pv (.lit (.int .i64 (IntKind.i64.wrap (a + 1))))) ?_
 refine rvc_nil ?_
 refine Awp.block ?_
 refine Awp.forM (σ := Int × ((List Member))) (fun v => [(0, .sl 0 0 data.length 3 false), (1, .pv (.lit (.int .i64 a))), (2, .pv (.lit (.int .i64 b))), (3, .fn g3 [] caps3), (8, .pv (.lit (.int .i64 v.1)))]) (fun v => [(0, .cells (encC eMember v.2))]) [0] (fun n v => n = (b - v.1).toNat ∧ insSort_l0 a b cmp ((b - v.1).toNat + 1) v.1 v.2 = R ∧ (a + 1 ≤ v.1 ∧ v.2.length = data.length ∧ ∀ x ∈ v.2, 0 ≤ x.site ∧ x.site < 3)) ((b - (IntKind.i64.wrap (a + 1))).toNat) ((IntKind.i64.wrap (a + 1)), data) ?_ ?_ (fun _ v h1 => ?_)
 · exact ⟨rfl, hR, ⟨(by show a + 1 ≤ IntKind.i64.wrap (a + 1); have := wrapI (a + 1); omega), rfl, hs⟩⟩
 · exact ⟨fun b => b, WeakerR.ofLI (I := [0]) (Ks := [0]) hI ⟨⟨rfl, rfl⟩, ⟨rfl, rfl⟩, ⟨rfl, rfl⟩, ⟨fn_to rfl hw3, fn_win hw3⟩, ⟨rfl, rfl⟩, trivial⟩ (okH_list rfl rfl rfl (okH_nil)) rfl rfl⟩
 obtain ⟨i, vc⟩ := v
 obtain ⟨rfl, hR, ⟨hVa, hVn, hVs⟩⟩ := h1
 replace hVa : a + 1 ≤ i := hVa
 replace hVn : vc.length = data.length := hVn
 replace hVs : ∀ x ∈ vc, 0 ≤ x.site ∧ x.site < 3 := hVs
 refine Awp.seq ?_
 refine Awp.consP C ?_
 refine rvP C (.pv (.lit (.int .i64 i))) ?_
 refine rvP C (.pv (.lit (.int .i64 b))) ?_
 refine rvP C (.pv (.lit (.bool (decide (i < b))))) ?_
 refine rvc_nil ?_
 refine Awp.cond (b := (decide (i < b))) rfl (fun h3 => ?_) (fun h3 => ?_)
 ·
  replace hR := of_true h3 hR
  refine Awp.skip ?_
  refine Awp.seq ?_
  refine Awp.block ?_
  refine Awp.consP C ?_
  refine rvP C (.pv (.lit (.int .i64 i))) ?_
  refine rvP C (.pv (.lit (.int .i64 i))) ?_
  refine rvc_nil ?_
  refine Awp.block ?_
  refine Awp.forM (σ := Int × ((List Member))) (fun v => [(0, .sl 0 0 data.length 3 false), (1, .pv (.lit (.int .i64 a))), (2, .pv (.lit (.int .i64 b))), (3, .fn g3 [] caps3), (8, .pv (.lit (.int .i64 i))), (9, .pv (.lit (.int .i64 v.1)))]) (fun v => [(0, .cells (encC eMember v.2))]) [0] (fun n v => n = (v.1 - a).toNat ∧ insSort_l1 a cmp (fun _ vc1 => insSort_l0 a b cmp ((b - i).toNat) (IntKind.i64.wrap (i + 1)) vc1) ((v.1 - a).toNat + 1) v.1 v.2 = R ∧ ((a ≤ v.1 ∧ v.1 < (data.length : Int)) ∧ v.2.length = data.length ∧ ∀ x ∈ v.2, 0 ≤ x.site ∧ x.site < 3)) ((i - a).toNat) (i, vc) ?_ ?_ (fun _ v h4 => ?_)
  · exact ⟨rfl, hR, ⟨(by have := of_decide_eq_true ‹decide (i < b) = true›; dsimp only; omega), hVn, hVs⟩⟩
  · exact ⟨fun b => b, WeakerR.ofLI (I := [0]) (Ks := [0]) hI ⟨⟨rfl, rfl⟩, ⟨rfl, rfl⟩, ⟨rfl, rfl⟩, ⟨fn_to rfl hw3, fn_win hw3⟩, ⟨rfl, rfl⟩, ⟨rfl, rfl⟩, trivial⟩ (okH_list rfl rfl rfl (okH_nil)) rfl rfl⟩
  obtain ⟨j, vc1⟩ := v
  obtain ⟨rfl, hR, ⟨hWa, hWn, hWs⟩⟩ := h4
  replace hWa : a ≤ j ∧ j < (data.length : Int) := hWa
  replace hWn : vc1.length = data.length := hWn
  replace hWs : ∀ x ∈ vc1, 0 ≤ x.site ∧ x.site < 3 := hWs
  refine Awp.seq ?_
  refine Awp.consP C ?_
  refine rvP C (.pv (.lit (.int .i64 j))) ?_
  refine rvP C (.pv (.lit (.int .i64 a))) ?_
  refine rvP C (.pv (.lit (.bool (decide (j > a))))) ?_
  refine rvP C (.pv (.lit (.bool (decide (j > a))))) ?_
  refine rvc_case 21 (decide (j > a)) rfl (fun h6 => ?_) (fun h6 => ?_)
  ·
   replace hR := of_true h6 hR
   refine rvO C (.fn g3 [] caps3) ?_
   refine rvO C (.sl 0 0 data.length 3 false) ?_
   refine rvO C (.pv (.lit (.int .i64 j))) ?_
   have h7 : vc1[j.toNat]? = some vc1[j.toNat]! := getE (by omega)
   refine rvc_open rfl rfl rfl (rexec_prim C (δ := { v := .ptr 0 (0 + j.toNat * 3) }) rfl rfl rfl rfl ⟨(by omega), (by omega)⟩ rfl ?_)
   refine rvc_open rfl rfl rfl (rexec_loadE C (e := eMember) j.toNat 0 (vc1[j.toNat]!) (.agg [.pv (.lit (.int .i64 (vc1[j.toNat]!.node))), .pv (.lit (.int .i64 (vc1[j.toNat]!.site))), .pv (.lit (.bool (vc1[j.toNat]!.fresh)))]) rfl rfl rfl rfl h7 (by simp [eMember]) (by decide) (by decide) rfl ?_)
   refine rvO C (.sl 0 0 data.length 3 false) ?_
   refine rvO C (.pv (.lit (.int .i64 j))) ?_
   refine rvO C (.pv (.lit (.int .i64 (IntKind.i64.wrap (j - 1))))) ?_
   have h8 : vc1[(IntKind.i64.wrap (j - 1)).toNat]? = some vc1[(IntKind.i64.wrap (j - 1)).toNat]! := getE (by have := wrapI (j - 1); have := of_decide_eq_true ‹decide (j > a) = true›; omega)
   refine rvc_open rfl rfl rfl (rexec_prim C (δ := { v := .ptr 0 (0 + (IntKind.i64.wrap (j - 1)).toNat * 3) }) rfl rfl rfl rfl ⟨(by have := wrapI (j - 1); have := of_decide_eq_true ‹decide (j > a) = true›; omega), (by have := wrapI (j - 1); have := of_decide_eq_true ‹decide (j > a) = true›; omega)⟩ rfl ?_)
   refine rvc_open rfl rfl rfl (rexec_loadE C (e := eMember) ((IntKind.i64.wrap (j - 1)).toNat) 0 (vc1[(IntKind.i64.wrap (j - 1)).toNat]!) (.agg [.pv (.lit (.int .i64 (vc1[(IntKind.i64.wrap (j - 1)).toNat]!.node))), .pv (.lit (.int .i64 (vc1[(IntKind.i64.wrap (j - 1)).toNat]!.site))), .pv (.lit (.bool (vc1[(IntKind.i64.wrap (j - 1)).toNat]!.fresh)))]) rfl rfl rfl rfl h8 (by simp [eMember]) (by decide) (by decide) rfl ?_)
   refine rvc_open rfl rfl rfl (rexec_callV hP C rfl rfl rfl rfl (hp3 (vc1[j.toNat]!) (vc1[(IntKind.i64.wrap (j - 1)).toNat]!) (hWs _ (at_mem (by omega))) (hWs _ (at_mem (by have := wrapI (j - 1); have := of_decide_eq_true ‹decide (j > a) = true›; omega)))) rfl ?_)
   refine rvO C (.pv (.lit (.bool (decide ((cmp (vc1[j.toNat]!) (vc1[(IntKind.i64.wrap (j - 1)).toNat]!)) < 0))))) ?_
   refine rvP C (.pv (.lit (.bool (decide ((cmp (vc1[j.toNat]!) (vc1[(IntKind.i64.wrap (j - 1)).toNat]!)) < 0))))) ?_
   refine rvc_nil ?_
   refine Awp.cond (b := (decide ((cmp (vc1[j.toNat]!) (vc1[(IntKind.i64.wrap (j - 1)).toNat]!)) < 0))) rfl (fun h9 => ?_) (fun h9 => ?_)
   ·
    replace hR := of_true h9 hR
    refine Awp.skip ?_
    refine Awp.seq ?_
    refine Awp.block ?_
    refine Awp.regionP C ?_
    refine rvP C (.sl 0 0 data.length 3 false) ?_
    refine rvP C (.pv (.lit (.int .i64 j))) ?_
    refine rvP C (.sl 0 0 data.length 3 false) ?_
    refine rvP C (.pv (.lit (.int .i64 j))) ?_
    refine rvP C (.pv (.lit (.int .i64 (IntKind.i64.wrap (j - 1))))) ?_
    refine rvP C (.sl 0 0 data.length 3 false) ?_
    refine rvP C (.pv (.lit (.int .i64 j))) ?_
    refine rvP C (.pv (.lit (.int .i64 (IntKind.i64.wrap (j - 1))))) ?_
    refine rvc_un (rexec_prim C (δ := { v := .ptr 0 (0 + (IntKind.i64.wrap (j - 1)).toNat * 3) }) rfl rfl rfl rfl ⟨(by have := wrapI (j - 1); have := of_decide_eq_true ‹decide (j > a) = true›; omega), (by have := wrapI (j - 1); have := of_decide_eq_true ‹decide (j > a) = true›; omega)⟩ rfl ?_)
    refine rvc_un (rexec_loadE C (e := eMember) ((IntKind.i64.wrap (j - 1)).toNat) 0 (vc1[(IntKind.i64.wrap (j - 1)).toNat]!) (.agg [.pv (.lit (.int .i64 (vc1[(IntKind.i64.wrap (j - 1)).toNat]!.node))), .pv (.lit (.int .i64 (vc1[(IntKind.i64.wrap (j - 1)).toNat]!.site))), .pv (.lit (.bool (vc1[(IntKind.i64.wrap (j - 1)).toNat]!.fresh)))]) rfl rfl rfl rfl h8 (by simp [eMember]) (by decide) (by decide) rfl ?_)
    refine rvP C (.sl 0 0 data.length 3 false) ?_
    refine rvP C (.pv (.lit (.int .i64 j))) ?_
    refine rvc_un (rexec_prim C (δ := { v := .ptr 0 (0 + j.toNat * 3) }) rfl rfl rfl rfl ⟨(by omega), (by omega)⟩ rfl ?_)
    refine rvc_un (rexec_loadE C (e := eMember) j.toNat 0 (vc1[j.toNat]!) (.agg [.pv (.lit (.int .i64 (vc1[j.toNat]!.node))), .pv (.lit (.int .i64 (vc1[j.toNat]!.site))), .pv (.lit (.bool (vc1[j.toNat]!.fresh)))]) rfl rfl rfl rfl h7 (by simp [eMember]) (by decide) (by decide) rfl ?_)
    refine rvc_un (rexec_prim C (δ := { v := .ptr 0 (0 + j.toNat * 3) }) rfl rfl rfl rfl ⟨(by omega), (by omega)⟩ rfl ?_)
    refine rvc_un (rexec_storeE C (e := eMember) j.toNat 0 (vc1[j.toNat]!) (vc1[(IntKind.i64.wrap (j - 1)).toNat]!) rfl rfl rfl rfl h7 (by simp [eMember]) rfl rfl rfl (of_decide_eq_true rfl) rfl ?_)
    have h10 : (vc1.set j.toNat (vc1[(IntKind.i64.wrap (j - 1)).toNat]!))[(IntKind.i64.wrap (j - 1)).toNat]? = some (vc1.set j.toNat (vc1[(IntKind.i64.wrap (j - 1)).toNat]!))[(IntKind.i64.wrap (j - 1)).toNat]! := getE (by rw [List.length_set]; have := wrapI (j - 1); have := of_decide_eq_true ‹decide (j > a) = true›; omega)
    refine rvc_un (rexec_prim C (δ := { v := .ptr 0 (0 + (IntKind.i64.wrap (j - 1)).toNat * 3) }) rfl rfl rfl rfl ⟨(by have := wrapI (j - 1); have := of_decide_eq_true ‹decide (j > a) = true›; omega), (by have := wrapI (j - 1); have := of_decide_eq_true ‹decide (j > a) = true›; omega)⟩ rfl ?_)
    refine rvc_un (rexec_storeE C (e := eMember) ((IntKind.i64.wrap (j - 1)).toNat) 0 ((vc1.set j.toNat (vc1[(IntKind.i64.wrap (j - 1)).toNat]!))[(IntKind.i64.wrap (j - 1)).toNat]!) (vc1[j.toNat]!) rfl rfl rfl rfl h10 (by simp [eMember]) rfl rfl rfl (of_decide_eq_true rfl) rfl ?_)
    refine rvc_nil ?_
    refine Awp.regionP C ?_
    refine rvP C (.pv (.lit (.int .i64 j))) ?_
    refine rvP C (.pv (.lit (.int .i64 (IntKind.i64.wrap (j - 1))))) ?_
    refine rvP C (.pv (.lit (.int .i64 (IntKind.i64.wrap (j - 1))))) ?_
    refine rvc_nil ?_
    refine ⟨_, ((IntKind.i64.wrap (j - 1)), ((vc1.set j.toNat (vc1[(IntKind.i64.wrap (j - 1)).toNat]!)).set ((IntKind.i64.wrap (j - 1)).toNat) (vc1[j.toNat]!))), ?_, ⟨rfl, (by rw [show (((IntKind.i64.wrap (j - 1)) - a).toNat) + 1 = ((j - a).toNat) by (have := wrapI (j - 1); have := of_decide_eq_true ‹decide (j > a) = true›; omega)]; exact hR), ⟨(by dsimp only; have := wrapI (j - 1); have := of_decide_eq_true ‹decide (j > a) = true›; omega), (by simpa using hWn), (swap_mem hWs (at_mem (by have := wrapI (j - 1); have := of_decide_eq_true ‹decide (j > a) = true›; omega)) (at_mem (by omega)))⟩⟩, ?_⟩
    · show ((IntKind.i64.wrap (j - 1)) - a).toNat < (j - a).toNat; (have := wrapI (j - 1); have := of_decide_eq_true ‹decide (j > a) = true›; omega)
    · exact ⟨fun b => b, WeakerR.ofLI (I := [0]) (Ks := [0]) hI ⟨⟨rfl, rfl⟩, ⟨rfl, rfl⟩, ⟨rfl, rfl⟩, ⟨fn_to rfl hw3, fn_win hw3⟩, ⟨rfl, rfl⟩, ⟨rfl, rfl⟩, trivial⟩ (okH_list rfl rfl rfl (okH_nil)) rfl rfl⟩
   ·
    replace hR := of_false h9 hR
    refine Awp.exit ?_
    refine Awp.regionP C ?_
    refine rvP C (.pv (.lit (.int .i64 i))) ?_
    refine rvP C (.pv (.lit (.int .i64 (IntKind.i64.wrap (i + 1))))) ?_
    refine rvP C (.pv (.lit (.int .i64 (IntKind.i64.wrap (i + 1))))) ?_
    refine rvc_nil ?_
    refine ⟨_, ((IntKind.i64.wrap (i + 1)), vc1), ?_, ⟨rfl, (by rw [show ((b - (IntKind.i64.wrap (i + 1))).toNat) + 1 = ((b - i).toNat) by (have := wrapI (i + 1); have := of_decide_eq_true ‹decide (i < b) = true›; omega)]; exact hR), ⟨(by dsimp only; have := wrapI (i + 1); have := of_decide_eq_true ‹decide (i < b) = true›; omega), hWn, hWs⟩⟩, ?_⟩
    · show (b - (IntKind.i64.wrap (i + 1))).toNat < (b - i).toNat; (have := wrapI (i + 1); have := of_decide_eq_true ‹decide (i < b) = true›; omega)
    · exact ⟨fun b => b, WeakerR.ofLI (I := [0]) (Ks := [0]) hI ⟨⟨rfl, rfl⟩, ⟨rfl, rfl⟩, ⟨rfl, rfl⟩, ⟨fn_to rfl hw3, fn_win hw3⟩, ⟨rfl, rfl⟩, trivial⟩ (okH_list rfl rfl rfl (okH_nil)) rfl rfl⟩
  ·
   replace hR := of_false h6 hR
   refine rvS ?_
   refine rvS ?_
   refine rvS ?_
   refine rvS ?_
   refine rvS ?_
   refine rvS ?_
   refine rvS ?_
   refine rvS ?_
   refine rvS ?_
   refine rvS ?_
   refine rvS ?_
   refine rvS ?_
   refine rvP C (.pv (.lit (.bool false))) ?_
   refine rvc_nil ?_
   refine Awp.condF (b := false) rfl rfl ?_
   refine Awp.exit ?_
   refine Awp.regionP C ?_
   refine rvP C (.pv (.lit (.int .i64 i))) ?_
   refine rvP C (.pv (.lit (.int .i64 (IntKind.i64.wrap (i + 1))))) ?_
   refine rvP C (.pv (.lit (.int .i64 (IntKind.i64.wrap (i + 1))))) ?_
   refine rvc_nil ?_
   refine ⟨_, ((IntKind.i64.wrap (i + 1)), vc1), ?_, ⟨rfl, (by rw [show ((b - (IntKind.i64.wrap (i + 1))).toNat) + 1 = ((b - i).toNat) by (have := wrapI (i + 1); have := of_decide_eq_true ‹decide (i < b) = true›; omega)]; exact hR), ⟨(by dsimp only; have := wrapI (i + 1); have := of_decide_eq_true ‹decide (i < b) = true›; omega), hWn, hWs⟩⟩, ?_⟩
   · show (b - (IntKind.i64.wrap (i + 1))).toNat < (b - i).toNat; (have := wrapI (i + 1); have := of_decide_eq_true ‹decide (i < b) = true›; omega)
   · exact ⟨fun b => b, WeakerR.ofLI (I := [0]) (Ks := [0]) hI ⟨⟨rfl, rfl⟩, ⟨rfl, rfl⟩, ⟨rfl, rfl⟩, ⟨fn_to rfl hw3, fn_win hw3⟩, ⟨rfl, rfl⟩, trivial⟩ (okH_list rfl rfl rfl (okH_nil)) rfl rfl⟩
 ·
  replace hR := of_false h3 hR
  refine Awp.exit ?_
  subst hR
  exact ⟨.inr rfl, rfl, rfl⟩
end Go.Proofs.Ytihccnkegkkikaa
/- Sorting; what is asked ahead. No conditions. -/
namespace Go.Proofs.Ytihccnkegkkikaa
open Go.Am
def stable (data : List Member) (n : Int) (cmp : Member → Member → Int) : List Member :=
  (insSort data 0 n cmp)
theorem stable_calls (data : List Member) (n : Int) (cmp : Member → Member → Int) (g2 : Nat) (caps2 : List AV) (hp2 : ∀ (x0 : Member) (x1 : Member), (0 ≤ x0.site ∧ x0.site < 3) → (0 ≤ x1.site ∧ x1.site < 3) → PCalls Try.prog g2 ([.agg [.pv (.lit (.int .i64 x0.node)), .pv (.lit (.int .i64 x0.site)), .pv (.lit (.bool x0.fresh))], .agg [.pv (.lit (.int .i64 x1.node)), .pv (.lit (.int .i64 x1.site)), .pv (.lit (.bool x1.fresh))]] ++ caps2) (.pv (.lit (.int .i64 (cmp x0 x1))))) (hw2 : AV.withinL (fun _ => false) caps2 = true) (hn : n = (data.length : Int)) (h20 : (decide ((20 : Int) ≤ n)) = false) (h21 : (decide ((20 : Int) < n)) = false) (hs : ∀ x ∈ data, 0 ≤ x.site ∧ x.site < 3) : MCalls Try.prog 53 [.sl 0 0 data.length 3 false, .pv (.lit (.int .i64 n)), .fn g2 [] caps2] (.cells (encC eMember data)) (.tup []) (.cells (encC eMember (stable data n cmp))) := by
 generalize hR : stable data n cmp = R
 refine MCalls.of_body tabOk Try.func53 rfl rfl rfl (by simp [AV.withinL, AV.within, withinL0 hw2]) rfl (encC_within _ _) (encC_within _ _) mixed fun E hP C hI => ?_
 refine Awp.consP C ?_
 refine rvP C (.pv (.lit (.int .i64 20))) ?_
 refine rvc_nil ?_
 refine Awp.consP C ?_
 refine rvP C (.pv (.lit (.int .i64 20))) ?_
 refine rvP C (.pv (.lit (.int .i64 0))) ?_
 refine rvP C (.pv (.lit (.int .i64 20))) ?_
 refine rvc_nil ?_
 refine Awp.seq ?_
 refine Awp.block ?_
 refine Awp.once ?_
 refine Awp.seq ?_
 refine Awp.consP C ?_
 refine rvP C (.pv (.lit (.int .i64 20))) ?_
 refine rvP C (.pv (.lit (.int .i64 n))) ?_
 refine rvP C (.pv (.lit (.bool (decide ((20 : Int) ≤ n))))) ?_
 refine rvc_nil ?_
 refine Awp.condF (b := (decide ((20 : Int) ≤ n))) rfl h20 ?_
 refine Awp.exit ?_
 refine Awp.cons C (fun _ => .writer) (by kernel_rfl) ?_
 refine rvP C (.sl 0 0 data.length 3 false) ?_
 refine rvP C (.pv (.lit (.int .i64 0))) ?_
 refine rvP C (.pv (.lit (.int .i64 n))) ?_
 refine rvP C (.fn g2 [] caps2) ?_
 refine rvc_un (rexec_callM hP C (b := 0) rfl rfl rfl (insSort_calls data 0 n cmp g2 caps2 hp2 hw2 ⟨Int.le_refl _, (by omega), (by omega)⟩ (by have := of_decide_eq_false h20; omega) hs) (by simp only [AV.renL, AV.ren, AV.renL_none _ hw2]) rfl ?_)
 refine rvc_nil ?_
 refine Awp.block ?_
 refine Awp.once ?_
 refine Awp.seq ?_
 refine Awp.consP C ?_
 refine rvP C (.pv (.lit (.int .i64 20))) ?_
 refine rvP C (.pv (.lit (.int .i64 n))) ?_
 refine rvP C (.pv (.lit (.bool (decide ((20 : Int) < n))))) ?_
 refine rvc_nil ?_
 refine Awp.condF (b := (decide ((20 : Int) < n))) rfl h21 ?_
 refine Awp.exit ?_
 subst hR
 exact ⟨.inr rfl, rfl, rfl⟩
def sortSF (x : List Member) (cmp : Member → Member → Int) : List Member :=
  (stable x (x.length : Int) cmp)
theorem sortSF_calls (x : List Member) (cmp : Member → Member → Int) (g1 : Nat) (caps1 : List AV) (hp1 : ∀ (x0 : Member) (x1 : Member), (0 ≤ x0.site ∧ x0.site < 3) → (0 ≤ x1.site ∧ x1.site < 3) → PCalls Try.prog g1 ([.agg [.pv (.lit (.int .i64 x0.node)), .pv (.lit (.int .i64 x0.site)), .pv (.lit (.bool x0.fresh))], .agg [.pv (.lit (.int .i64 x1.node)), .pv (.lit (.int .i64 x1.site)), .pv (.lit (.bool x1.fresh))]] ++ caps1) (.pv (.lit (.int .i64 (cmp x0 x1))))) (hw1 : AV.withinL (fun _ => false) caps1 = true) (h6 : x.length ≤ 6) (hs : ∀ y ∈ x, 0 ≤ y.site ∧ y.site < 3) : MCalls Try.prog 41 [.sl 0 0 x.length 3 false, .fn g1 [] caps1] (.cells (encC eMember x)) (.tup []) (.cells (encC eMember (sortSF x cmp))) := by
 generalize hR : sortSF x cmp = R
 refine MCalls.of_body tabOk Try.func41 rfl rfl rfl (by simp [AV.withinL, AV.within, withinL0 hw1]) rfl (encC_within _ _) (encC_within _ _) mixed fun E hP C hI => ?_
 refine Awp.region C (fun _ => .writer) (by kernel_rfl) ?_
 refine rvP C (.sl 0 0 x.length 3 false) ?_
 refine rvP C (.sl 0 0 x.length 3 false) ?_
 refine rvP C (.pv (.lit (.int .i64 (x.length : Int)))) ?_
 refine rvP C (.fn g1 [] caps1) ?_
 refine rvc_un (rexec_callM hP C (b := 0) rfl rfl rfl (stable_calls x (x.length : Int) cmp g1 caps1 hp1 hw1 rfl (decide_eq_false (by omega)) (decide_eq_false (by omega)) hs) (by simp only [AV.renL, AV.ren, AV.renL_none _ hw1]) rfl ?_)
 refine rvc_nil ?_
 subst hR
 exact ⟨.inr rfl, rfl, rfl⟩
def nearF (a : Member) (b : Member) (c0 : (Nat → (Nat → Int))) (c1 : Int) : Int :=
  (bif (!(a.fresh == b.fresh)) then (bif b.fresh then (-1) else 1) else (IntKind.i64.wrap (((c0 c1.toNat) a.site.toNat) - ((c0 c1.toNat) b.site.toNat))))
theorem nearF_calls (a : Member) (b : Member) (c0 : (Nat → (Nat → Int))) (c1 : Int) (ha : 0 ≤ a.site ∧ a.site < 3) (hb : 0 ≤ b.site ∧ b.site < 3) (hf : 0 ≤ c1 ∧ c1 < 3) : PCalls Try.prog 42 [.agg [.pv (.lit (.int .i64 a.node)), .pv (.lit (.int .i64 a.site)), .pv (.lit (.bool a.fresh))], .agg [.pv (.lit (.int .i64 b.node)), .pv (.lit (.int .i64 b.site)), .pv (.lit (.bool b.fresh))], .rp [.lit (.int .i64 ((c0 0) 0)), .lit (.int .i64 ((c0 0) 1)), .lit (.int .i64 ((c0 0) 2)), .lit (.int .i64 ((c0 1) 0)), .lit (.int .i64 ((c0 1) 1)), .lit (.int .i64 ((c0 1) 2)), .lit (.int .i64 ((c0 2) 0)), .lit (.int .i64 ((c0 2) 1)), .lit (.int .i64 ((c0 2) 2))], .rp [.lit (.int .i64 c1)]] (.pv (.lit (.int .i64 (nearF a b c0 c1)))) := by
 generalize hR : nearF a b c0 c1 = R
 refine PCalls.of_body tabOk Try.func42 rfl rfl rfl rfl rfl mixed fun E hP C hI => ?_
 refine Awp.consP C ?_
 refine rvc_un (rexec_prim C (δ := { v := .ptr 4 0, new := [(4, .cells [.pv (.lit (.int .i64 a.node)), .pv (.lit (.int .i64 a.site)), .pv (.lit (.bool a.fresh))])] }) rfl rfl rfl rfl trivial rfl ?_)
 refine rvc_un (rexec_prim C (δ := { v := .ptr 5 0, new := [(5, .cells [.pv (.lit (.int .i64 b.node)), .pv (.lit (.int .i64 b.site)), .pv (.lit (.bool b.fresh))])] }) rfl rfl rfl rfl trivial rfl ?_)
 refine rvP C (.pv (.lit (.int .i64 0))) ?_
 refine rvc_nil ?_
 refine Awp.seq ?_
 refine Awp.block ?_
 refine Awp.consP C ?_
 refine rvP C (.ptr 4 2) ?_
 refine rvP C (.pv (.lit (.bool a.fresh))) ?_
 refine rvP C (.ptr 5 2) ?_
 refine rvP C (.pv (.lit (.bool b.fresh))) ?_
 refine rvP C (.pv (.lit (.bool (!(a.fresh == b.fresh))))) ?_
 refine rvP C (.pv (.lit (.bool (!(a.fresh == b.fresh))))) ?_
 refine rvc_case 13 (!(a.fresh == b.fresh)) rfl (fun h1 => ?_) (fun h1 => ?_)
 ·
  replace hR := of_true h1 hR
  refine rvO C (.ptr 5 2) ?_
  refine rvO C (.pv (.lit (.bool b.fresh))) ?_
  refine rvP C (.pv (.lit (.bool b.fresh))) ?_
  refine rvP C (.pv (.lit (.bool b.fresh))) ?_
  refine rvc_nil ?_
  refine Awp.cond (b := b.fresh) rfl (fun h2 => ?_) (fun h2 => ?_)
  ·
   replace hR := of_true h2 hR
   refine Awp.consP C ?_
   refine rvP C (.pv (.lit (.int .i64 (-1)))) ?_
   refine rvc_nil ?_
   refine Awp.ret ?_
   subst hR
   exact ⟨.inl rfl, rfl⟩
  ·
   replace hR := of_false h2 hR
   refine Awp.consP C ?_
   refine rvP C (.ptr 4 2) ?_
   refine rvP C (.pv (.lit (.bool a.fresh))) ?_
   refine rvP C (.ptr 5 2) ?_
   refine rvP C (.pv (.lit (.bool b.fresh))) ?_
   refine rvP C (.pv (.lit (.bool (!(a.fresh == b.fresh))))) ?_
   refine rvP C (.pv (.lit (.bool (!(a.fresh == b.fresh))))) ?_
   refine rvc_nil ?_
   refine Awp.condT (b := (!(a.fresh == b.fresh))) rfl h1 ?_
   refine Awp.consP C ?_
   refine rvP C (.pv (.lit (.int .i64 1))) ?_
   refine rvc_nil ?_
   refine Awp.ret ?_
   subst hR
   exact ⟨.inl rfl, rfl⟩
 ·
  replace hR := of_false h1 hR
  refine rvS ?_
  refine rvS ?_
  refine rvP C (.pv (.lit (.bool false))) ?_
  refine rvP C (.pv (.lit (.bool false))) ?_
  refine rvc_nil ?_
  refine Awp.condF (b := false) rfl rfl ?_
  refine Awp.consP C ?_
  refine rvP C (.ptr 4 2) ?_
  refine rvP C (.pv (.lit (.bool a.fresh))) ?_
  refine rvP C (.ptr 5 2) ?_
  refine rvP C (.pv (.lit (.bool b.fresh))) ?_
  refine rvP C (.pv (.lit (.bool (!(a.fresh == b.fresh))))) ?_
  refine rvP C (.pv (.lit (.bool (!(a.fresh == b.fresh))))) ?_
  refine rvc_nil ?_
  refine Awp.condF (b := (!(a.fresh == b.fresh))) rfl h1 ?_
  refine Awp.skip ?_
  refine Awp.consP C ?_
  refine rvP C (.pv (.lit (.int .i64 c1))) ?_
  refine rvP C (.ptr 4 1) ?_
  refine rvP C (.pv (.lit (.int .i64 a.site))) ?_
  refine rvc_un (rexec_idxRp C (fun p q => .lit (.int .i64 ((c0 p) q))) [.lit (.int .i64 ((c0 c1.toNat) 0)), .lit (.int .i64 ((c0 c1.toNat) 1)), .lit (.int .i64 ((c0 c1.toNat) 2))] rfl rfl rfl rfl rfl rfl rfl ⟨(by omega), (by omega)⟩ rfl ?_)
  refine rvc_un (rexec_idxRp1 C (fun p => .lit (.int .i64 ((c0 c1.toNat) p))) (.lit (.int .i64 ((c0 c1.toNat) a.site.toNat))) rfl rfl rfl rfl rfl rfl rfl ⟨(by omega), (by omega)⟩ rfl ?_)
  refine rvP C (.pv (.lit (.int .i64 ((c0 c1.toNat) a.site.toNat)))) ?_
  refine rvP C (.pv (.lit (.int .i64 c1))) ?_
  refine rvP C (.ptr 5 1) ?_
  refine rvP C (.pv (.lit (.int .i64 b.site))) ?_
  refine rvc_un (rexec_idxRp C (fun p q => .lit (.int .i64 ((c0 p) q))) [.lit (.int .i64 ((c0 c1.toNat) 0)), .lit (.int .i64 ((c0 c1.toNat) 1)), .lit (.int .i64 ((c0 c1.toNat) 2))] rfl rfl rfl rfl rfl rfl rfl ⟨(by omega), (by omega)⟩ rfl ?_)
  refine rvc_un (rexec_idxRp1 C (fun p => .lit (.int .i64 ((c0 c1.toNat) p))) (.lit (.int .i64 ((c0 c1.toNat) b.site.toNat))) rfl rfl rfl rfl rfl rfl rfl ⟨(by omega), (by omega)⟩ rfl ?_)
  refine rvP C (.pv (.lit (.int .i64 ((c0 c1.toNat) b.site.toNat)))) ?_
  refine rvP C (.pv (.lit (.int .i64 (IntKind.i64.wrap (((c0 c1.toNat) a.site.toNat) - ((c0 c1.toNat) b.site.toNat)))))) ?_
  refine rvP C (.pv (.lit (.int .i64 (IntKind.i64.wrap (((c0 c1.toNat) a.site.toNat) - ((c0 c1.toNat) b.site.toNat)))))) ?_
  refine rvc_nil ?_
  refine Awp.ret ?_
  subst hR
  exact ⟨.inl rfl, rfl⟩
def able (c : Chain) (w : (Nat → (Nat → Int))) (from_ : Int) : Int :=
  (bif ((check c) != 0) then (check c) else (bif ((wayCheck w) != 0) then 1 else (bif (!(siteOk from_)) then 1 else 0)))
theorem able_calls (c : Chain) (w : (Nat → (Nat → Int))) (from_ : Int) (hl1 : c.members.D.length ≤ 1000000) : PCalls Try.prog 37 [.agg [.pv (.lit (.int .i64 c.epoch)), sS (some c.members.nil) eMember c.members.D], .agg [.pv (.lit (.int .i64 ((w 0) 0))), .pv (.lit (.int .i64 ((w 0) 1))), .pv (.lit (.int .i64 ((w 0) 2))), .pv (.lit (.int .i64 ((w 1) 0))), .pv (.lit (.int .i64 ((w 1) 1))), .pv (.lit (.int .i64 ((w 1) 2))), .pv (.lit (.int .i64 ((w 2) 0))), .pv (.lit (.int .i64 ((w 2) 1))), .pv (.lit (.int .i64 ((w 2) 2)))], .pv (.lit (.int .i64 from_))] (.pv (.lit (.int .i64 (able c w from_)))) := by
 generalize hR : able c w from_ = R
 refine PCalls.of_body tabOk Try.func37 rfl rfl rfl rfl rfl mixed fun E hP C hI => ?_
 refine Awp.consP C ?_
 refine rvc_un (rexec_prim C (δ := { v := .ptr 3 0, new := [(3, .cells [.pv (.lit (.int .i64 c.epoch)), sS (some c.members.nil) eMember c.members.D])] }) rfl rfl rfl rfl trivial rfl ?_)
 refine rvc_un (rexec_prim C (δ := { v := .ptr 4 0, new := [(4, .cells [.pv (.lit (.int .i64 ((w 0) 0))), .pv (.lit (.int .i64 ((w 0) 1))), .pv (.lit (.int .i64 ((w 0) 2))), .pv (.lit (.int .i64 ((w 1) 0))), .pv (.lit (.int .i64 ((w 1) 1))), .pv (.lit (.int .i64 ((w 1) 2))), .pv (.lit (.int .i64 ((w 2) 0))), .pv (.lit (.int .i64 ((w 2) 1))), .pv (.lit (.int .i64 ((w 2) 2)))])] }) rfl rfl rfl rfl trivial rfl ?_)
 refine rvP C (.pv (.lit (.int .i64 0))) ?_
 refine rvc_nil ?_
 refine Awp.seq ?_
 refine Awp.consP C ?_
 refine rvP C (.agg [.pv (.lit (.int .i64 c.epoch)), sS (some c.members.nil) eMember c.members.D]) ?_
 refine rvc_un (rexec_call hP C rfl rfl rfl (check_calls c (Nat.le_trans hl1 (by decide))) ?_)
 refine rvP C (.pv (.lit (.int .i64 (check c)))) ?_
 refine rvc_nil ?_
 refine Awp.consP C ?_
 refine rvP C (.pv (.lit (.int .i64 (check c)))) ?_
 refine rvP C (.pv (.lit (.bool ((check c) != 0)))) ?_
 refine rvc_nil ?_
 refine Awp.cond (b := ((check c) != 0)) rfl (fun h1 => ?_) (fun h1 => ?_)
 ·
  replace hR := of_true h1 hR
  refine Awp.consP C ?_
  refine rvP C (.pv (.lit (.int .i64 (check c)))) ?_
  refine rvP C (.pv (.lit (.int .i64 (check c)))) ?_
  refine rvc_nil ?_
  refine Awp.ret ?_
  subst hR
  exact ⟨.inl rfl, rfl⟩
 ·
  replace hR := of_false h1 hR
  refine Awp.skip ?_
  refine Awp.seq ?_
  refine Awp.consP C ?_
  refine rvP C (.agg [.pv (.lit (.int .i64 ((w 0) 0))), .pv (.lit (.int .i64 ((w 0) 1))), .pv (.lit (.int .i64 ((w 0) 2))), .pv (.lit (.int .i64 ((w 1) 0))), .pv (.lit (.int .i64 ((w 1) 1))), .pv (.lit (.int .i64 ((w 1) 2))), .pv (.lit (.int .i64 ((w 2) 0))), .pv (.lit (.int .i64 ((w 2) 1))), .pv (.lit (.int .i64 ((w 2) 2)))]) ?_
  refine rvc_un (rexec_call hP C rfl rfl rfl (wayCheck_calls w) ?_)
  refine rvP C (.pv (.lit (.bool ((wayCheck w) != 0)))) ?_
  refine rvP C (.pv (.lit (.bool ((wayCheck w) != 0)))) ?_
  refine rvc_case 16 ((wayCheck w) != 0) rfl (fun h2 => ?_) (fun h2 => ?_)
  ·
   replace hR := of_true h2 hR
   refine rvS ?_
   refine rvS ?_
   refine rvS ?_
   refine rvP C (.pv (.lit (.bool true))) ?_
   refine rvc_nil ?_
   refine Awp.condT (b := true) rfl rfl ?_
   refine Awp.consP C ?_
   refine rvP C (.pv (.lit (.int .i64 1))) ?_
   refine rvc_nil ?_
   refine Awp.ret ?_
   subst hR
   exact ⟨.inl rfl, rfl⟩
  ·
   replace hR := of_false h2 hR
   refine rvO C (.pv (.lit (.int .i64 from_))) ?_
   refine rvc_open rfl rfl rfl (rexec_call hP C rfl rfl rfl (siteOk_calls from_) ?_)
   refine rvO C (.pv (.lit (.bool (!(siteOk from_))))) ?_
   refine rvP C (.pv (.lit (.bool (!(siteOk from_))))) ?_
   refine rvc_nil ?_
   refine Awp.cond (b := (!(siteOk from_))) rfl (fun h3 => ?_) (fun h3 => ?_)
   ·
    replace hR := of_true h3 hR
    refine Awp.consP C ?_
    refine rvP C (.pv (.lit (.int .i64 1))) ?_
    refine rvc_nil ?_
    refine Awp.ret ?_
    subst hR
    exact ⟨.inl rfl, rfl⟩
   ·
    replace hR := of_false h3 hR
    refine Awp.skip ?_
    refine Awp.consP C ?_
    refine rvP C (.pv (.lit (.int .i64 0))) ?_
    refine rvc_nil ?_
    refine Awp.ret ?_
    subst hR
    exact ⟨.inl rfl, rfl⟩
def rMay (c : Chain) (w : (Nat → (Nat → Int))) (from_ : Int) : Int :=
  (bif ((rCheck c) != 0) then 80 else (bif ((rWayCheck w) != 0) then 1 else (bif (decide (from_ < 0)) then 1 else (bif (decide (from_ > 2)) then 1 else 0))))
theorem rMay_calls (c : Chain) (w : (Nat → (Nat → Int))) (from_ : Int) (hl1 : c.members.D.length ≤ 1000000) : PCalls Try.prog 39 [.agg [.pv (.lit (.int .i64 c.epoch)), sS (some c.members.nil) eMember c.members.D], .agg [.pv (.lit (.int .i64 ((w 0) 0))), .pv (.lit (.int .i64 ((w 0) 1))), .pv (.lit (.int .i64 ((w 0) 2))), .pv (.lit (.int .i64 ((w 1) 0))), .pv (.lit (.int .i64 ((w 1) 1))), .pv (.lit (.int .i64 ((w 1) 2))), .pv (.lit (.int .i64 ((w 2) 0))), .pv (.lit (.int .i64 ((w 2) 1))), .pv (.lit (.int .i64 ((w 2) 2)))], .pv (.lit (.int .i64 from_))] (.pv (.lit (.int .i64 (rMay c w from_)))) := by
 generalize hR : rMay c w from_ = R
 refine PCalls.of_body tabOk Try.func39 rfl rfl rfl rfl rfl mixed fun E hP C hI => ?_
 refine Awp.consP C ?_
 refine rvc_un (rexec_prim C (δ := { v := .ptr 3 0, new := [(3, .cells [.pv (.lit (.int .i64 c.epoch)), sS (some c.members.nil) eMember c.members.D])] }) rfl rfl rfl rfl trivial rfl ?_)
 refine rvc_un (rexec_prim C (δ := { v := .ptr 4 0, new := [(4, .cells [.pv (.lit (.int .i64 ((w 0) 0))), .pv (.lit (.int .i64 ((w 0) 1))), .pv (.lit (.int .i64 ((w 0) 2))), .pv (.lit (.int .i64 ((w 1) 0))), .pv (.lit (.int .i64 ((w 1) 1))), .pv (.lit (.int .i64 ((w 1) 2))), .pv (.lit (.int .i64 ((w 2) 0))), .pv (.lit (.int .i64 ((w 2) 1))), .pv (.lit (.int .i64 ((w 2) 2)))])] }) rfl rfl rfl rfl trivial rfl ?_)
 refine rvP C (.pv (.lit (.int .i64 0))) ?_
 refine rvc_nil ?_
 refine Awp.seq ?_
 refine Awp.consP C ?_
 refine rvP C (.agg [.pv (.lit (.int .i64 c.epoch)), sS (some c.members.nil) eMember c.members.D]) ?_
 refine rvc_un (rexec_call hP C rfl rfl rfl (rCheck_calls c (Nat.le_trans hl1 (by decide))) ?_)
 refine rvP C (.pv (.lit (.bool ((rCheck c) != 0)))) ?_
 refine rvc_nil ?_
 refine Awp.cond (b := ((rCheck c) != 0)) rfl (fun h1 => ?_) (fun h1 => ?_)
 ·
  replace hR := of_true h1 hR
  refine Awp.consP C ?_
  refine rvP C (.pv (.lit (.int .i64 80))) ?_
  refine rvc_nil ?_
  refine Awp.ret ?_
  subst hR
  exact ⟨.inl rfl, rfl⟩
 ·
  replace hR := of_false h1 hR
  refine Awp.skip ?_
  refine Awp.seq ?_
  refine Awp.consP C ?_
  refine rvP C (.agg [.pv (.lit (.int .i64 ((w 0) 0))), .pv (.lit (.int .i64 ((w 0) 1))), .pv (.lit (.int .i64 ((w 0) 2))), .pv (.lit (.int .i64 ((w 1) 0))), .pv (.lit (.int .i64 ((w 1) 1))), .pv (.lit (.int .i64 ((w 1) 2))), .pv (.lit (.int .i64 ((w 2) 0))), .pv (.lit (.int .i64 ((w 2) 1))), .pv (.lit (.int .i64 ((w 2) 2)))]) ?_
  refine rvc_un (rexec_call hP C rfl rfl rfl (rWayCheck_calls w) ?_)
  refine rvP C (.pv (.lit (.bool ((rWayCheck w) != 0)))) ?_
  refine rvP C (.pv (.lit (.bool ((rWayCheck w) != 0)))) ?_
  refine rvc_case 13 ((rWayCheck w) != 0) rfl (fun h2 => ?_) (fun h2 => ?_)
  ·
   replace hR := of_true h2 hR
   refine rvS ?_
   refine rvS ?_
   refine rvP C (.pv (.lit (.bool true))) ?_
   refine rvP C (.pv (.lit (.bool true))) ?_
   refine rvS ?_
   refine rvS ?_
   refine rvP C (.pv (.lit (.bool true))) ?_
   refine rvc_nil ?_
   refine Awp.condT (b := true) rfl rfl ?_
   refine Awp.consP C ?_
   refine rvP C (.pv (.lit (.int .i64 1))) ?_
   refine rvc_nil ?_
   refine Awp.ret ?_
   subst hR
   exact ⟨.inl rfl, rfl⟩
  ·
   replace hR := of_false h2 hR
   refine rvO C (.pv (.lit (.int .i64 from_))) ?_
   refine rvO C (.pv (.lit (.bool (decide (from_ < 0))))) ?_
   refine rvP C (.pv (.lit (.bool (decide (from_ < 0))))) ?_
   refine rvP C (.pv (.lit (.bool (decide (from_ < 0))))) ?_
   refine rvc_case 17 (decide (from_ < 0)) rfl (fun h3 => ?_) (fun h3 => ?_)
   ·
    replace hR := of_true h3 hR
    refine rvS ?_
    refine rvS ?_
    refine rvP C (.pv (.lit (.bool true))) ?_
    refine rvc_nil ?_
    refine Awp.condT (b := true) rfl rfl ?_
    refine Awp.consP C ?_
    refine rvP C (.pv (.lit (.int .i64 1))) ?_
    refine rvc_nil ?_
    refine Awp.ret ?_
    subst hR
    exact ⟨.inl rfl, rfl⟩
   ·
    replace hR := of_false h3 hR
    refine rvO C (.pv (.lit (.int .i64 from_))) ?_
    refine rvO C (.pv (.lit (.bool (decide (from_ > 2))))) ?_
    refine rvP C (.pv (.lit (.bool (decide (from_ > 2))))) ?_
    refine rvc_nil ?_
    refine Awp.cond (b := (decide (from_ > 2))) rfl (fun h4 => ?_) (fun h4 => ?_)
    ·
     replace hR := of_true h4 hR
     refine Awp.consP C ?_
     refine rvP C (.pv (.lit (.int .i64 1))) ?_
     refine rvc_nil ?_
     refine Awp.ret ?_
     subst hR
     exact ⟨.inl rfl, rfl⟩
    ·
     replace hR := of_false h4 hR
     refine Awp.skip ?_
     refine Awp.consP C ?_
     refine rvP C (.pv (.lit (.int .i64 0))) ?_
     refine rvc_nil ?_
     refine Awp.ret ?_
     subst hR
     exact ⟨.inl rfl, rfl⟩
end Go.Proofs.Ytihccnkegkkikaa
/- What is asked ahead of ways. No conditions. -/
namespace Go.Proofs.Ytihccnkegkkikaa
open Go.Am
theorem bif0 {a : Bool} {x y : Int} (hx : x ≠ 0) (h : (bif a then x else y) = 0) : a = false ∧ y = 0 := bif_const hx h
theorem site_ok {n : Int} (h : siteOk n = true) : 0 ≤ n ∧ n < 3 := by
  unfold siteOk at h
  cases h1 : decide (n ≥ 0)
  · rw [h1] at h; cases h
  · rw [h1] at h
    have h2 : decide (n < 3) = true := h
    exact ⟨of_decide_eq_true h1, of_decide_eq_true h2⟩
theorem able_ok {c : Chain} {w : Nat → Nat → Int} {f : Int} (h : able c w f = 0) : check c = 0 ∧ wayCheck w = 0 ∧ 0 ≤ f ∧ f < 3 := by
  unfold able at h
  cases hc : check c != 0
  · rw [hc, cond_false] at h
    obtain ⟨h1, h⟩ := bif0 (by decide) h
    cases hs : siteOk f
    · rw [hs] at h; cases h
    · exact ⟨eq_of_bne_false hc, eq_of_bne_false h1, site_ok hs⟩
  · rw [hc, cond_true] at h
    rw [h] at hc; cases hc
theorem may_ok {c : Chain} {w : Nat → Nat → Int} {f : Int} (h : rMay c w f = 0) : check c = 0 ∧ rWayCheck w = 0 ∧ 0 ≤ f ∧ f < 3 := by
  unfold rMay at h
  obtain ⟨h1, h⟩ := bif0 (by decide) h
  obtain ⟨h2, h⟩ := bif0 (by decide) h
  obtain ⟨h3, h⟩ := bif0 (by decide) h
  obtain ⟨h4, _⟩ := bif0 (by decide) h
  have h3 := of_decide_eq_false h3
  have h4 := of_decide_eq_false h4
  exact ⟨by rw [check_eq]; exact eq_of_bne_false h1, eq_of_bne_false h2, by omega, by omega⟩
theorem sites_ok {c : Chain} (h : check c = 0) : ∀ x ∈ c.members.D, 0 ≤ x.site ∧ x.site < 3 := fun x hx => by
  have := mem_ok h hx
  omega
end Go.Proofs.Ytihccnkegkkikaa
/- Sorting by insertion, in plain Lean: what the code's way gives is each key's members, one behind the other. No conditions. -/
namespace Go.Proofs.Ytihccnkegkkikaa
open Go.Am
section ins
variable {α : Type} (lt : α → α → Bool)
/-- An element is put ahead of all those at the end that are greater. -/
def ins (l : List α) (x : α) : List α := (l.reverse.dropWhile (lt x)).reverse ++ x :: (l.reverse.takeWhile (lt x)).reverse
theorem ins_len (l : List α) (x : α) : (ins lt l x).length = l.length + 1 := by
  unfold ins
  have : (l.reverse.takeWhile (lt x)).length + (l.reverse.dropWhile (lt x)).length = l.length := by
    rw [← List.length_append, List.takeWhile_append_dropWhile, List.length_reverse]
  simp only [List.length_append, List.length_cons, List.length_reverse]
  omega
theorem ins_nil (x : α) : ins lt [] x = [x] := rfl
theorem ins_snoc (l : List α) (y x : α) : ins lt (l ++ [y]) x = if lt x y then ins lt l x ++ [y] else l ++ [y] ++ [x] := by
  unfold ins
  rw [List.reverse_append]
  show ((y :: l.reverse).dropWhile (lt x)).reverse ++ x :: ((y :: l.reverse).takeWhile (lt x)).reverse = _
  rw [List.dropWhile_cons, List.takeWhile_cons]
  cases lt x y
  · simp
  · simp
end ins
def ltI (cmp : Member → Member → Int) (x y : Member) : Bool := decide (cmp x y < 0)
theorem get_mid {P T : List Member} {x : Member} {z : Nat} (h : z = P.length) : (P ++ x :: T)[z]! = x := by subst h; simp
theorem set_mid2 {P T : List Member} {x y : Member} {z : Nat} (h : z = P.length) : (P ++ x :: T).set z y = P ++ y :: T := by subst h; simp
theorem insSort_l1_eq (cmp : Member → Member → Int) (kk : Int → List Member → List Member) : ∀ (P : List Member) (x : Member) (T : List Member) (n : Nat), P.length < 1000000 → P.length < n → ∃ j, insSort_l1 0 cmp kk n (P.length : Int) (P ++ x :: T) = kk j (ins (ltI cmp) P x ++ T) := by
  intro P
  induction hm : P.length generalizing P with
  | zero =>
    intro x T n _ hn
    obtain rfl := List.eq_nil_of_length_eq_zero hm
    obtain ⟨m, rfl⟩ : ∃ m, n = m + 1 := ⟨n - 1, by omega⟩
    exact ⟨0, rfl⟩
  | succ q ih =>
    intro x T n hP hn
    obtain ⟨P', y, rfl⟩ : ∃ P' y, P = P' ++ [y] := by
      rcases List.eq_nil_or_concat P with h | ⟨L, b, h⟩
      · rw [h] at hm; cases hm
      · exact ⟨L, b, by simpa using h⟩
    have hq : P'.length = q := by simpa using hm
    subst hq
    have ih := ih P' rfl
    revert ih hP hn
    generalize P' = P
    intro hP hn ih
    obtain ⟨m, rfl⟩ : ∃ m, n = m + 1 := ⟨n - 1, by omega⟩
    have hw : IntKind.i64.wrap (((P.length + 1 : Nat) : Int) - 1) = (P.length : Int) := by rw [wrapI _ (by omega)]; omega
    unfold insSort_l1
    rw [decide_eq_true (show ((P.length + 1 : Nat) : Int) > 0 by omega), cond_true, hw, Int.toNat_natCast, Int.toNat_natCast]
    have g1 : (P ++ [y] ++ x :: T)[P.length + 1]! = x := get_mid (P := P ++ [y]) (by simp)
    have g2 : (P ++ [y] ++ x :: T)[P.length]! = y := by rw [List.append_assoc]; exact get_mid rfl
    have s1 : ((P ++ [y] ++ x :: T).set (P.length + 1) y).set P.length x = P ++ x :: (y :: T) := by
      rw [set_mid2 (P := P ++ [y]) (by simp), List.append_assoc]
      exact set_mid2 rfl
    rw [g1, g2, s1]
    have e : ins (ltI cmp) (P ++ [y]) x = if ltI cmp x y then ins (ltI cmp) P x ++ [y] else P ++ [y] ++ [x] := ins_snoc _ _ _ _
    rw [e]
    cases hc : decide (cmp x y < 0)
    · rw [cond_false, show ltI cmp x y = false from hc]
      refine ⟨((P.length + 1 : Nat) : Int), ?_⟩
      congr 1
      simp
    · rw [cond_true, show ltI cmp x y = true from hc]
      obtain ⟨j, hj⟩ := ih x (y :: T) m (by omega) (by omega)
      refine ⟨j, ?_⟩
      rw [hj]
      congr 1
      simp
theorem insSort_l0_eq (cmp : Member → Member → Int) : ∀ (R Q : List Member) (n : Nat), Q ≠ [] → Q.length + R.length < 1000000 → R.length < n → insSort_l0 0 ((Q.length + R.length : Nat) : Int) cmp n (Q.length : Int) (Q ++ R) = R.foldl (ins (ltI cmp)) Q
  | [], Q, n, _, _, hn => by
    obtain ⟨m, rfl⟩ : ∃ m, n = m + 1 := ⟨n - 1, by simp at hn; omega⟩
    unfold insSort_l0
    rw [decide_eq_false (by simp), cond_false, List.append_nil]; rfl
  | x :: R, Q, n, hQ, hl, hn => by
    obtain ⟨m, rfl⟩ : ∃ m, n = m + 1 := ⟨n - 1, by simp at hn; omega⟩
    rw [List.length_cons] at hl hn ⊢
    unfold insSort_l0
    rw [decide_eq_true (by omega), cond_true]
    obtain ⟨j, hj⟩ := insSort_l1_eq cmp (fun _ vc1 => insSort_l0 0 ((Q.length + (R.length + 1) : Nat) : Int) cmp m (IntKind.i64.wrap ((Q.length : Int) + 1)) vc1) Q x R (((Q.length : Int) - 0).toNat + 1) (by omega) (by omega)
    rw [hj]
    have hlen := ins_len (ltI cmp) Q x
    have hw : IntKind.i64.wrap ((Q.length : Int) + 1) = ((ins (ltI cmp) Q x).length : Int) := by rw [wrapI _ (by omega), hlen]; omega
    have ih := insSort_l0_eq cmp R (ins (ltI cmp) Q x) m (fun h => by rw [h] at hlen; simp at hlen) (by omega) (by omega)
    rw [hw, List.foldl_cons, ← ih]
    congr 2
    omega
theorem insSort_eq (cmp : Member → Member → Int) (D : List Member) (h : D.length < 1000000) : insSort D 0 (D.length : Int) cmp = D.foldl (ins (ltI cmp)) [] := by
  unfold insSort
  cases D with
  | nil => rfl
  | cons x R =>
    have hw : IntKind.i64.wrap (0 + 1) = (([x] : List Member).length : Int) := by rw [List.length_singleton]; decide
    rw [List.length_cons] at h ⊢
    have := insSort_l0_eq cmp R [x] ((((R.length + 1 : Nat) : Int) - (([x] : List Member).length : Int)).toNat + 1) (by simp) (by simp; omega) (by simp)
    rw [hw, List.foldl_cons, ins_nil, ← this]
    congr 2
    simp; omega
theorem foldl_ins_len (lt : Member → Member → Bool) : ∀ (l Q : List Member), (l.foldl (ins lt) Q).length = Q.length + l.length
  | [], _ => rfl
  | x :: l, Q => by rw [List.foldl_cons, foldl_ins_len lt l, ins_len, List.length_cons]; omega
theorem sortSF_eq (cmp : Member → Member → Int) (D : List Member) (h : D.length < 1000000) : sortSF D cmp = D.foldl (ins (ltI cmp)) [] := by
  unfold sortSF stable
  exact insSort_eq cmp D h
theorem sortSF_len (D : List Member) (cmp : Member → Member → Int) (h : D.length < 1000000) : (sortSF D cmp).length = D.length := by
  rw [sortSF_eq cmp D h, foldl_ins_len]; simp
def bucket (key : Member → Nat) (K : Nat) (D : List Member) : List Member := (List.range K).flatMap fun k => D.filter fun x => key x == k
theorem range_cut {k K : Nat} (h : k < K) : List.range K = List.range (k + 1) ++ List.range' (k + 1) (K - (k + 1)) := by
  rw [List.range_eq_range', List.range_eq_range']
  have := List.range'_append_1 (s := 0) (m := k + 1) (n := K - (k + 1))
  rw [Nat.zero_add] at this
  rw [this]
  congr 1; omega
theorem flatMap_congr' {α β : Type} {f g : α → List β} : ∀ {l : List α}, (∀ x ∈ l, f x = g x) → l.flatMap f = l.flatMap g
  | [], _ => rfl
  | x :: l, h => by rw [List.flatMap_cons, List.flatMap_cons, h x (List.mem_cons_self ..), flatMap_congr' fun y hy => h y (List.mem_cons_of_mem _ hy)]
theorem bucket_snoc (key : Member → Nat) {K : Nat} (D : List Member) {x : Member} (hx : key x < K) : bucket key K (D ++ [x]) = ((List.range (key x + 1)).flatMap fun k => D.filter fun y => key y == k) ++ x :: ((List.range' (key x + 1) (K - (key x + 1))).flatMap fun k => D.filter fun y => key y == k) := by
  unfold bucket
  rw [range_cut hx, List.flatMap_append]
  have h2 : (List.range' (key x + 1) (K - (key x + 1))).flatMap (fun k => (D ++ [x]).filter fun y => key y == k) = (List.range' (key x + 1) (K - (key x + 1))).flatMap fun k => D.filter fun y => key y == k := by
    refine flatMap_congr' fun k hk => ?_
    have := (List.mem_range'_1.1 hk).1
    rw [List.filter_append, List.filter_cons_of_neg (by simp; omega)]; simp
  have h1 : (List.range (key x + 1)).flatMap (fun k => (D ++ [x]).filter fun y => key y == k) = ((List.range (key x + 1)).flatMap fun k => D.filter fun y => key y == k) ++ [x] := by
    rw [List.range_succ, List.flatMap_append, List.flatMap_append, List.append_assoc]
    congr 1
    · refine flatMap_congr' fun k hk => ?_
      have := List.mem_range.1 hk
      rw [List.filter_append, List.filter_cons_of_neg (by simp; omega)]; simp
    · simp
  rw [h1, h2, List.append_assoc]; rfl
theorem ins_split (lt : Member → Member → Bool) {A B : List Member} {x : Member} (hB : ∀ y ∈ B, lt x y = true) (hA : ∀ y ∈ A, lt x y = false) : ins lt (A ++ B) x = A ++ x :: B := by
  unfold ins
  have h1 : (A ++ B).reverse.dropWhile (lt x) = A.reverse := by
    rw [List.reverse_append, List.dropWhile_append_of_pos (fun y hy => hB y (List.mem_reverse.1 hy))]
    cases hr : A.reverse with
    | nil => rfl
    | cons z zs => rw [List.dropWhile_cons_of_neg]; rw [hA z (List.mem_reverse.1 (by rw [hr]; exact List.mem_cons_self ..))]; decide
  have h2 : (A ++ B).reverse.takeWhile (lt x) = B.reverse := by
    rw [List.reverse_append, List.takeWhile_append_of_pos (fun y hy => hB y (List.mem_reverse.1 hy))]
    cases hr : A.reverse with
    | nil => simp
    | cons z zs => rw [List.takeWhile_cons_of_neg]; simp; rw [hA z (List.mem_reverse.1 (by rw [hr]; exact List.mem_cons_self ..))]; decide
  rw [h1, h2, List.reverse_reverse, List.reverse_reverse]
theorem ins_bucket (lt : Member → Member → Bool) (key : Member → Nat) {K : Nat} (D : List Member) {x : Member} (hlt : ∀ y ∈ D, lt x y = decide (key x < key y)) (hx : key x < K) : ins lt (bucket key K D) x = bucket key K (D ++ [x]) := by
  rw [bucket_snoc key D hx]
  unfold bucket
  rw [range_cut hx, List.flatMap_append]
  refine ins_split lt (fun y hy => ?_) (fun y hy => ?_)
  · obtain ⟨k, hk, hm⟩ := List.mem_flatMap.1 hy
    rw [List.mem_filter] at hm
    have := (List.mem_range'_1.1 hk).1
    have h2 : key y = k := by simpa using hm.2
    rw [hlt y hm.1]; exact decide_eq_true (by omega)
  · obtain ⟨k, hk, hm⟩ := List.mem_flatMap.1 hy
    rw [List.mem_filter] at hm
    have := List.mem_range.1 hk
    have h2 : key y = k := by simpa using hm.2
    rw [hlt y hm.1]; exact decide_eq_false (by omega)
theorem foldl_bucket (lt : Member → Member → Bool) (key : Member → Nat) {K : Nat} : ∀ (l D : List Member), (∀ x ∈ l, ∀ y ∈ D ++ l, lt x y = decide (key x < key y)) → (∀ x ∈ l, key x < K) → l.foldl (ins lt) (bucket key K D) = bucket key K (D ++ l)
  | [], D, _, _ => by simp
  | x :: l, D, h1, h2 => by
    rw [List.foldl_cons, ins_bucket lt key D (fun y hy => h1 x (List.mem_cons_self ..) y (List.mem_append_left _ hy)) (h2 x (List.mem_cons_self ..)), foldl_bucket lt key l (D ++ [x]) (fun z hz y hy => h1 z (List.mem_cons_of_mem _ hz) y (by simpa using hy)) (fun z hz => h2 z (List.mem_cons_of_mem _ hz)), List.append_assoc]; rfl
theorem sort_bucket (cmp : Member → Member → Int) (key : Member → Nat) {K : Nat} (D : List Member) (hD : D.length < 1000000) (h1 : ∀ x ∈ D, ∀ y ∈ D, decide (cmp x y < 0) = decide (key x < key y)) (h2 : ∀ x ∈ D, key x < K) : sortSF D cmp = bucket key K D := by
  rw [sortSF_eq cmp D hD]
  have hb : bucket key K [] = [] := by unfold bucket; simp
  have := foldl_bucket (ltI cmp) key D [] (fun x hx y hy => h1 x hx y hy) h2
  rw [hb] at this
  exact this
end Go.Proofs.Ytihccnkegkkikaa
/- Who is near; how far a write goes. No conditions. -/
namespace Go.Proofs.Ytihccnkegkkikaa
open Go.Am
def cloneO (s : (Sl Member)) : List Member :=
  s.D
theorem cloneO_calls (s : (Sl Member)) (hn : s.nil = false) (hl1 : s.D.length ≤ 1000000) : OCalls Try.prog 14 [sS (some s.nil) eMember s.D] (.sl 0 0 (cloneO s).length 3 false) (.cells (encC eMember (cloneO s))) := by
 generalize hR : cloneO s = R
 refine OCalls.of_body tabOk Try.func14 rfl rfl rfl rfl rfl (encC_within _ _) mixed fun E hP C hI => ?_
 refine Awp.consP C ?_
 refine rvP C (sS (some true) eMember []) ?_
 refine rvc_nil ?_
 refine Awp.seq ?_
 refine Awp.consP C ?_
 refine rvP C (sS (some s.nil) eMember s.D) ?_
 refine rvc_un (rexec_eqNil C (f := s.nil) rfl rfl rfl rfl ?_)
 refine rvc_nil ?_
 refine Awp.condF (b := s.nil) rfl hn ?_
 refine Awp.skip ?_
 refine Awp.consP C ?_
 refine rvc_un (rexec_prim C (δ := { v := .sl 5 0 0 3 true, new := [(5, .cells (encC eMember []))] }) rfl rfl rfl rfl trivial rfl ?_)
 refine rvP C (sS (some s.nil) eMember s.D) ?_
 refine rvc_un (rexec_append C rfl rfl rfl rfl rfl rfl rfl rfl (fun _ h => by cases h) rfl (en := eMember) (D0 := []) (D := s.D) rfl rfl rfl rfl (by first | omega | (simp <;> omega)) (by decide) (nn := s.D.length) (by simp) ?_)
 refine rvP C (.sl 7 0 s.D.length 3 false) ?_
 refine rvc_nil ?_
 refine Awp.weakenR (S := [(2, .sl 0 0 s.D.length 3 false)]) (H := [(0, .cells (encC eMember s.D))]) (U := [0]) (fun x => bif x == 0 then 7 else x) (WeakerR.ofL (Ks := [0]) hI ⟨⟨rfl, rfl⟩, trivial⟩ (okH_list rfl rfl rfl okH_nil) rfl) ?_
 refine Awp.ret ?_
 subst hR
 exact ⟨.inl rfl, rfl, rfl⟩
def near_l0 : List Member → Nat → (List Int) → (Sl Int) × Int
  | [], _, out => ((Sl.mk out.isEmpty out), 0)
  | x :: xs, i, out => near_l0 xs (i + 1) (out ++ [x.node])
def near (c : Chain) (w : (Nat → (Nat → Int))) (from_ : Int) : (Sl Int) × Int :=
  (bif ((able c w from_) != 0) then ((Sl.mk true []), (able c w from_)) else near_l0 (sortSF c.members.D (fun x0 x1 => nearF x0 x1 w from_)) 0 [])
theorem near_calls (c : Chain) (w : (Nat → (Nat → Int))) (from_ : Int) (hn : c.members.nil = true → c.members.D = []) (hl1 : c.members.D.length ≤ 1000000) : PCalls Try.prog 15 [.agg [.pv (.lit (.int .i64 c.epoch)), sS (some c.members.nil) eMember c.members.D], .agg [.pv (.lit (.int .i64 ((w 0) 0))), .pv (.lit (.int .i64 ((w 0) 1))), .pv (.lit (.int .i64 ((w 0) 2))), .pv (.lit (.int .i64 ((w 1) 0))), .pv (.lit (.int .i64 ((w 1) 1))), .pv (.lit (.int .i64 ((w 1) 2))), .pv (.lit (.int .i64 ((w 2) 0))), .pv (.lit (.int .i64 ((w 2) 1))), .pv (.lit (.int .i64 ((w 2) 2)))], .pv (.lit (.int .i64 from_))] (.tup [sS (some (near c w from_).1.nil) (eI .i64) ((near c w from_).1.D), .pv (.lit (.int .i64 ((near c w from_).2)))]) := by
 generalize hR : near c w from_ = R
 refine PCalls.of_body tabOk Try.func15 rfl rfl rfl rfl rfl mixed fun E hP C hI => ?_
 refine Awp.consP C ?_
 refine rvc_un (rexec_prim C (δ := { v := .ptr 3 0, new := [(3, .cells [.pv (.lit (.int .i64 c.epoch)), sS (some c.members.nil) eMember c.members.D])] }) rfl rfl rfl rfl trivial rfl ?_)
 refine rvc_un (rexec_boxF C [.lit (.int .i64 ((w 0) 0)), .lit (.int .i64 ((w 0) 1)), .lit (.int .i64 ((w 0) 2)), .lit (.int .i64 ((w 1) 0)), .lit (.int .i64 ((w 1) 1)), .lit (.int .i64 ((w 1) 2)), .lit (.int .i64 ((w 2) 0)), .lit (.int .i64 ((w 2) 1)), .lit (.int .i64 ((w 2) 2))] rfl rfl rfl rfl ?_)
 refine rvc_un (rexec_boxF C [.lit (.int .i64 from_)] rfl rfl rfl rfl ?_)
 refine rvP C (sS (some true) (eI .i64) []) ?_
 refine rvP C (.pv (.lit (.int .i64 0))) ?_
 refine rvc_nil ?_
 refine Awp.seq ?_
 refine Awp.consP C ?_
 refine rvP C (.agg [.pv (.lit (.int .i64 c.epoch)), sS (some c.members.nil) eMember c.members.D]) ?_
 refine rvP C (.agg [.pv (.lit (.int .i64 ((w 0) 0))), .pv (.lit (.int .i64 ((w 0) 1))), .pv (.lit (.int .i64 ((w 0) 2))), .pv (.lit (.int .i64 ((w 1) 0))), .pv (.lit (.int .i64 ((w 1) 1))), .pv (.lit (.int .i64 ((w 1) 2))), .pv (.lit (.int .i64 ((w 2) 0))), .pv (.lit (.int .i64 ((w 2) 1))), .pv (.lit (.int .i64 ((w 2) 2)))]) ?_
 refine rvP C (.pv (.lit (.int .i64 from_))) ?_
 refine rvc_un (rexec_call hP C rfl rfl rfl (able_calls c w from_ hl1) ?_)
 refine rvP C (.pv (.lit (.int .i64 (able c w from_)))) ?_
 refine rvc_nil ?_
 refine Awp.consP C ?_
 refine rvP C (.pv (.lit (.int .i64 (able c w from_)))) ?_
 refine rvP C (.pv (.lit (.bool ((able c w from_) != 0)))) ?_
 refine rvc_nil ?_
 refine Awp.cond (b := ((able c w from_) != 0)) rfl (fun h1 => ?_) (fun h1 => ?_)
 ·
  replace hR := of_true h1 hR
  refine Awp.consP C ?_
  refine rvP C (.pv (.lit (.int .i64 (able c w from_)))) ?_
  refine rvP C (sS (some true) (eI .i64) []) ?_
  refine rvP C (.pv (.lit (.int .i64 (able c w from_)))) ?_
  refine rvc_nil ?_
  refine Awp.ret ?_
  subst hR
  exact ⟨.inl rfl, rfl⟩
 ·
  replace hR := of_false h1 hR
  refine Awp.skip ?_
  refine Awp.cons C (fun _ => .quiet) (by kernel_rfl) ?_
  refine rvP C (.ptr 3 1) ?_
  refine rvP C (sS (some c.members.nil) eMember c.members.D) ?_
  refine rvc_un (rexec_callO hP C rfl rfl rfl rfl (cloneO_calls c.members (nil_false hn (check_len (able_ok (eq_of_bne_false h1)).1)) hl1) ?_)
  refine rvP C (.sl 22 0 c.members.D.length 3 false) ?_
  refine rvc_nil ?_
  refine Awp.cons C (fun _ => .writer) (by kernel_rfl) ?_
  refine rvP C (.sl 22 0 c.members.D.length 3 false) ?_
  refine rvP C (.fn 42 [] [.rp [.lit (.int .i64 ((w 0) 0)), .lit (.int .i64 ((w 0) 1)), .lit (.int .i64 ((w 0) 2)), .lit (.int .i64 ((w 1) 0)), .lit (.int .i64 ((w 1) 1)), .lit (.int .i64 ((w 1) 2)), .lit (.int .i64 ((w 2) 0)), .lit (.int .i64 ((w 2) 1)), .lit (.int .i64 ((w 2) 2))], .rp [.lit (.int .i64 from_)]]) ?_
  have hsl_ := sortSF_len c.members.D (fun x0 x1 => nearF x0 x1 w from_) (by have := check_le6 (able_ok (eq_of_bne_false h1)).1; omega)
  refine rvc_un (rexec_callM hP C (b := 22) rfl rfl rfl (sortSF_calls c.members.D (fun x0 x1 => nearF x0 x1 w from_) 42 [.rp [.lit (.int .i64 ((w 0) 0)), .lit (.int .i64 ((w 0) 1)), .lit (.int .i64 ((w 0) 2)), .lit (.int .i64 ((w 1) 0)), .lit (.int .i64 ((w 1) 1)), .lit (.int .i64 ((w 1) 2)), .lit (.int .i64 ((w 2) 0)), .lit (.int .i64 ((w 2) 1)), .lit (.int .i64 ((w 2) 2))], .rp [.lit (.int .i64 from_)]] (fun x0 x1 h0_ h1_ => nearF_calls x0 x1 w from_ h0_ h1_ (able_ok (eq_of_bne_false h1)).2.2) rfl (check_le6 (able_ok (eq_of_bne_false h1)).1) (sites_ok (able_ok (eq_of_bne_false h1)).1)) rfl rfl ?_)
  refine rvc_nil ?_
  refine Awp.consP C ?_
  refine rvP C (sS (some true) (eI .i64) []) ?_
  refine rvc_nil ?_
  refine Awp.seq ?_
  refine Awp.consP C ?_
  refine rvP C (.sl 22 0 c.members.D.length 3 false) ?_
  refine rvP C (.pv (.lit (.int .i64 (c.members.D.length : Int)))) ?_
  refine rvP C (.pv (.lit (.int .i64 0))) ?_
  refine rvc_nil ?_
  refine Awp.block ?_
  refine Awp.forR (σ := ((List Int))) ((sortSF c.members.D (fun x0 x1 => nearF x0 x1 w from_)).length) (fun i v => [(10, grow 900 (eI .i64) v), (26, .sl 22 0 c.members.D.length 3 false), (27, .pv (.lit (.int .i64 (c.members.D.length : Int)))), (28, .pv (.lit (.int .i64 (i : Int))))]) (fun i v => (growH 900 (eI .i64) v ++ ([(22, .cells (encC eMember (sortSF c.members.D (fun x0 x1 => nearF x0 x1 w from_))))]))) [22, 900] (fun i v => (near_l0 ((sortSF c.members.D (fun x0 x1 => nearF x0 x1 w from_)).drop i) i v = R) ∧ (v.length ≤ i)) [] ?_ ?_ (fun i out h2 hR => ?_)
  · exact ⟨hR, (by first | omega | (simp <;> omega))⟩
  · exact ⟨fun b => b, WeakerR.ofL (Ks := [22, 900]) hI ⟨⟨rfl, rfl⟩, ⟨rfl, rfl⟩, ⟨rfl, rfl⟩, ⟨rfl, rfl⟩, trivial⟩ (okH_grow (fun hne => absurd rfl hne) rfl rfl (okH_list rfl rfl rfl (okH_nil))) rfl⟩
  obtain ⟨hR, hi_out⟩ := hR
  replace hi_out : out.length ≤ i := hi_out
  by_cases h3 : out = []
  ·
   refine Awp.wordsR [(10, sS (some out.isEmpty) (eI .i64) out), (26, .sl 22 0 c.members.D.length 3 false), (27, .pv (.lit (.int .i64 (c.members.D.length : Int)))), (28, .pv (.lit (.int .i64 (i : Int))))] [(22, .cells (encC eMember (sortSF c.members.D (fun x0 x1 => nearF x0 x1 w from_))))] [22] (WeakerR.ofL (Ks := [22]) hI ⟨⟨(by exact grow_at_nil (b := 900) (e := (eI .i64)) (l := out) rfl h3), rfl⟩, ⟨rfl, rfl⟩, ⟨rfl, rfl⟩, ⟨rfl, rfl⟩, trivial⟩ (okH_list (look_nil h3 rfl) rfl rfl (okH_nil)) rfl) ?_
   refine Awp.consP C ?_
   refine rvP C (.pv (.lit (.bool (decide ((i : Int) < (c.members.D.length : Int)))))) ?_
   refine rvc_nil ?_
   refine Awp.seq ?_
   refine Awp.cond (b := (decide ((i : Int) < (c.members.D.length : Int)))) rfl (fun h4 => ?_) (fun h4 => ?_)
   ·
    have h5 : i < (sortSF c.members.D (fun x0 x1 => nearF x0 x1 w from_)).length := by have := of_decide_eq_true h4; omega
    obtain ⟨x, h6⟩ := getX h5
    rw [drop_at h6] at hR
    refine Awp.skip ?_
    refine Awp.seq ?_
    refine Awp.block ?_
    refine Awp.consP C ?_
    refine rvc_un (rexec_prim C (δ := { v := .ptr 22 (0 + i * 3) }) rfl rfl rfl rfl ⟨(by have := eq_of_bne_false h1; have := of_decide_eq_true h4; omega), getlt h6 (by first | rfl | omega | (have := eq_of_bne_false h1; have := of_decide_eq_true h4; omega)) (by first | rfl | omega | simp)⟩ rfl ?_)
    refine rvc_un (rexec_loadE C (e := eMember) i 0 x (.agg [.pv (.lit (.int .i64 x.node)), .pv (.lit (.int .i64 x.site)), .pv (.lit (.bool x.fresh))]) rfl rfl rfl rfl h6 (by simp [eMember]) (by decide) (by decide) rfl ?_)
    refine rvc_un (rexec_prim C (δ := { v := .ptr 12 0, new := [(12, .cells [.pv (.lit (.int .i64 0)), .pv (.lit (.int .i64 0)), .pv (.lit (.bool false))])] }) rfl rfl rfl rfl trivial rfl ?_)
    refine rvc_un (rexec_prim C (δ := { v := .undef, wr := [(12, some (.cells [.pv (.lit (.int .i64 x.node)), .pv (.lit (.int .i64 x.site)), .pv (.lit (.bool x.fresh))]))] }) rfl rfl rfl rfl trivial rfl ?_)
    refine rvc_nil ?_
    refine Awp.regionP C ?_
    refine rvP C (sS (some out.isEmpty) (eI .i64) out) ?_
    refine rvP C (.ptr 12 0) ?_
    refine rvP C (.pv (.lit (.int .i64 x.node))) ?_
    refine rvc_un (rexec_buildSliceF C (eI .i64) [x.node] rfl rfl rfl rfl rfl rfl rfl (by decide) rfl ?_)
    refine rvc_un (rexec_appendG C rfl rfl rfl rfl rfl rfl rfl rfl (fun _ h => by cases h) rfl (en := (eI .i64)) (l := out) (D := [x.node]) rfl rfl h3 (by rw [h3]; rfl) (by simp) (by have := eq_of_bne_false h1; have := of_decide_eq_true h4; first | omega | (simp <;> omega)) (by decide) (nn := (out ++ [x.node]).length) (by simp) ?_)
    refine rvP C (.sl 36 0 ((out ++ [x.node]).length) 1 false) ?_
    refine rvc_nil ?_
    refine Awp.regionP C ?_
    refine rvP C (.pv (.lit (.int .i64 (IntKind.i64.wrap ((i : Int) + 1))))) ?_
    refine rvP C (.pv (.lit (.int .i64 (IntKind.i64.wrap ((i : Int) + 1))))) ?_
    refine rvc_nil ?_
    refine ⟨h5, (out ++ [x.node]), ?_, ?_⟩
    · exact ⟨hR, (by first | omega | (simp <;> omega))⟩
    · exact ⟨fun b => bif b == 900 then 36 else (fun b => b) b, WeakerR.ofL (Ks := [22, 900]) hI ⟨⟨grow_to rfl rfl app_ne rfl rfl, grow_within rfl⟩, ⟨rfl, rfl⟩, ⟨rfl, rfl⟩, ⟨lit_cast (wrap_i64 (by omega) (by omega)), rfl⟩, trivial⟩ (okH_grow (fun _ => rfl) rfl rfl (okH_list rfl rfl rfl (okH_nil))) rfl⟩
   ·
    have h5 : ¬ i < (sortSF c.members.D (fun x0 x1 => nearF x0 x1 w from_)).length := by have := of_decide_eq_false h4; omega
    rw [drop_end h5] at hR
    refine Awp.exit ?_
    refine Awp.consP C ?_
    refine rvP C (sS (some out.isEmpty) (eI .i64) out) ?_
    refine rvP C (sS (some out.isEmpty) (eI .i64) out) ?_
    refine rvP C (.pv (.lit (.int .i64 0))) ?_
    refine rvc_nil ?_
    refine Awp.ret ?_
    subst hR
    exact ⟨.inl rfl, rfl⟩
  ·
   refine Awp.wordsR [(10, .sl 900 0 out.length 1 false), (26, .sl 22 0 c.members.D.length 3 false), (27, .pv (.lit (.int .i64 (c.members.D.length : Int)))), (28, .pv (.lit (.int .i64 (i : Int))))] [(900, .cells (encC (eI .i64) out)), (22, .cells (encC eMember (sortSF c.members.D (fun x0 x1 => nearF x0 x1 w from_))))] [22, 900] (WeakerR.ofL (Ks := [22, 900]) hI ⟨⟨(by exact grow_at_cons (b := 900) (b' := 900) (e := (eI .i64)) (l := out) rfl h3 rfl rfl rfl), rfl⟩, ⟨rfl, rfl⟩, ⟨rfl, rfl⟩, ⟨rfl, rfl⟩, trivial⟩ (okH_list (look_cons h3 rfl) rfl rfl (okH_list (look_cons h3 rfl) rfl rfl (okH_nil))) rfl) ?_
   refine Awp.consP C ?_
   refine rvP C (.pv (.lit (.bool (decide ((i : Int) < (c.members.D.length : Int)))))) ?_
   refine rvc_nil ?_
   refine Awp.seq ?_
   refine Awp.cond (b := (decide ((i : Int) < (c.members.D.length : Int)))) rfl (fun h7 => ?_) (fun h7 => ?_)
   ·
    have h8 : i < (sortSF c.members.D (fun x0 x1 => nearF x0 x1 w from_)).length := by have := of_decide_eq_true h7; omega
    obtain ⟨x, h9⟩ := getX h8
    rw [drop_at h9] at hR
    refine Awp.skip ?_
    refine Awp.seq ?_
    refine Awp.block ?_
    refine Awp.consP C ?_
    refine rvc_un (rexec_prim C (δ := { v := .ptr 22 (0 + i * 3) }) rfl rfl rfl rfl ⟨(by have := eq_of_bne_false h1; have := of_decide_eq_true h7; omega), getlt h9 (by first | rfl | omega | (have := eq_of_bne_false h1; have := of_decide_eq_true h7; omega)) (by first | rfl | omega | simp)⟩ rfl ?_)
    refine rvc_un (rexec_loadE C (e := eMember) i 0 x (.agg [.pv (.lit (.int .i64 x.node)), .pv (.lit (.int .i64 x.site)), .pv (.lit (.bool x.fresh))]) rfl rfl rfl rfl h9 (by simp [eMember]) (by decide) (by decide) rfl ?_)
    refine rvc_un (rexec_prim C (δ := { v := .ptr 12 0, new := [(12, .cells [.pv (.lit (.int .i64 0)), .pv (.lit (.int .i64 0)), .pv (.lit (.bool false))])] }) rfl rfl rfl rfl trivial rfl ?_)
    refine rvc_un (rexec_prim C (δ := { v := .undef, wr := [(12, some (.cells [.pv (.lit (.int .i64 x.node)), .pv (.lit (.int .i64 x.site)), .pv (.lit (.bool x.fresh))]))] }) rfl rfl rfl rfl trivial rfl ?_)
    refine rvc_nil ?_
    refine Awp.regionP C ?_
    refine rvP C (.sl 900 0 out.length 1 false) ?_
    refine rvP C (.ptr 12 0) ?_
    refine rvP C (.pv (.lit (.int .i64 x.node))) ?_
    refine rvc_un (rexec_buildSliceF C (eI .i64) [x.node] rfl rfl rfl rfl rfl rfl rfl (by decide) rfl ?_)
    refine rvc_un (rexec_append C rfl rfl rfl rfl rfl rfl rfl rfl (fun _ h => by cases h) rfl (en := (eI .i64)) (D0 := out) (D := [x.node]) rfl rfl rfl rfl (by have := eq_of_bne_false h1; have := of_decide_eq_true h7; first | omega | (simp <;> omega)) (by decide) (nn := (out ++ [x.node]).length) (by simp) ?_)
    refine rvP C (.sl 36 0 ((out ++ [x.node]).length) 1 false) ?_
    refine rvc_nil ?_
    refine Awp.regionP C ?_
    refine rvP C (.pv (.lit (.int .i64 (IntKind.i64.wrap ((i : Int) + 1))))) ?_
    refine rvP C (.pv (.lit (.int .i64 (IntKind.i64.wrap ((i : Int) + 1))))) ?_
    refine rvc_nil ?_
    refine ⟨h8, (out ++ [x.node]), ?_, ?_⟩
    · exact ⟨hR, (by first | omega | (simp <;> omega))⟩
    · exact ⟨fun b => bif b == 900 then 36 else (fun b => b) b, WeakerR.ofL (Ks := [22, 900]) hI ⟨⟨grow_to rfl rfl app_ne rfl rfl, grow_within rfl⟩, ⟨rfl, rfl⟩, ⟨rfl, rfl⟩, ⟨lit_cast (wrap_i64 (by omega) (by omega)), rfl⟩, trivial⟩ (okH_grow (fun _ => rfl) rfl rfl (okH_list rfl rfl rfl (okH_nil))) rfl⟩
   ·
    have h8 : ¬ i < (sortSF c.members.D (fun x0 x1 => nearF x0 x1 w from_)).length := by have := of_decide_eq_false h7; omega
    rw [drop_end h8] at hR
    refine Awp.exit ?_
    refine Awp.consP C ?_
    refine rvP C (.sl 900 0 out.length 1 false) ?_
    refine rvP C (.sl 900 0 out.length 1 false) ?_
    refine rvP C (.pv (.lit (.int .i64 0))) ?_
    refine rvc_nil ?_
    refine Awp.freezeW 900 (encL (eI .i64) out) ?_ [(6, sS (some out.isEmpty) (eI .i64) out), (7, .pv (.lit (.int .i64 0)))] [(22, .cells (encC eMember (sortSF c.members.D (fun x0 x1 => nearF x0 x1 w from_))))] ?_ ?_ ?_
    · rfl
    · exact ⟨⟨_, rfl, .inl (.inr ⟨_, _, _, rfl, by rw [ne_isEmpty h3]; rfl⟩)⟩, ⟨_, rfl, .inl (.inl rfl)⟩, trivial⟩
    · exact ⟨⟨(by show (22 : Nat) ≠ 900; decide), .inl rfl⟩, trivial⟩
    refine Awp.ret ?_
    subst hR
    exact ⟨.inl rfl, rfl⟩
def writeW (c : Chain) (w : (Nat → (Nat → Int))) (from_ : Int) : Int × Int :=
  (bif ((able c w from_) != 0) then (0, (able c w from_)) else ((IntKind.i64.wrap ((IntKind.i64.wrap (2 * ((w from_.toNat) (c.members.D[0]!.site).toNat))) + (IntKind.i64.wrap (2 * (down c w))))), 0))
theorem writeW_calls (c : Chain) (w : (Nat → (Nat → Int))) (from_ : Int) (hl1 : c.members.D.length ≤ 1000000) : PCalls Try.prog 17 [.agg [.pv (.lit (.int .i64 c.epoch)), sS (some c.members.nil) eMember c.members.D], .agg [.pv (.lit (.int .i64 ((w 0) 0))), .pv (.lit (.int .i64 ((w 0) 1))), .pv (.lit (.int .i64 ((w 0) 2))), .pv (.lit (.int .i64 ((w 1) 0))), .pv (.lit (.int .i64 ((w 1) 1))), .pv (.lit (.int .i64 ((w 1) 2))), .pv (.lit (.int .i64 ((w 2) 0))), .pv (.lit (.int .i64 ((w 2) 1))), .pv (.lit (.int .i64 ((w 2) 2)))], .pv (.lit (.int .i64 from_))] (.tup [.pv (.lit (.int .i64 ((writeW c w from_).1))), .pv (.lit (.int .i64 ((writeW c w from_).2)))]) := by
 generalize hR : writeW c w from_ = R
 refine PCalls.of_body tabOk Try.func17 rfl rfl rfl rfl rfl mixed fun E hP C hI => ?_
 refine Awp.consP C ?_
 refine rvc_un (rexec_prim C (δ := { v := .ptr 3 0, new := [(3, .cells [.pv (.lit (.int .i64 c.epoch)), sS (some c.members.nil) eMember c.members.D])] }) rfl rfl rfl rfl trivial rfl ?_)
 refine rvc_un (rexec_prim C (δ := { v := .ptr 4 0, new := [(4, .cells [.pv (.lit (.int .i64 ((w 0) 0))), .pv (.lit (.int .i64 ((w 0) 1))), .pv (.lit (.int .i64 ((w 0) 2))), .pv (.lit (.int .i64 ((w 1) 0))), .pv (.lit (.int .i64 ((w 1) 1))), .pv (.lit (.int .i64 ((w 1) 2))), .pv (.lit (.int .i64 ((w 2) 0))), .pv (.lit (.int .i64 ((w 2) 1))), .pv (.lit (.int .i64 ((w 2) 2)))])] }) rfl rfl rfl rfl trivial rfl ?_)
 refine rvP C (.pv (.lit (.int .i64 0))) ?_
 refine rvP C (.pv (.lit (.int .i64 0))) ?_
 refine rvc_nil ?_
 refine Awp.seq ?_
 refine Awp.consP C ?_
 refine rvP C (.agg [.pv (.lit (.int .i64 c.epoch)), sS (some c.members.nil) eMember c.members.D]) ?_
 refine rvP C (.agg [.pv (.lit (.int .i64 ((w 0) 0))), .pv (.lit (.int .i64 ((w 0) 1))), .pv (.lit (.int .i64 ((w 0) 2))), .pv (.lit (.int .i64 ((w 1) 0))), .pv (.lit (.int .i64 ((w 1) 1))), .pv (.lit (.int .i64 ((w 1) 2))), .pv (.lit (.int .i64 ((w 2) 0))), .pv (.lit (.int .i64 ((w 2) 1))), .pv (.lit (.int .i64 ((w 2) 2)))]) ?_
 refine rvP C (.pv (.lit (.int .i64 from_))) ?_
 refine rvc_un (rexec_call hP C rfl rfl rfl (able_calls c w from_ hl1) ?_)
 refine rvP C (.pv (.lit (.int .i64 (able c w from_)))) ?_
 refine rvc_nil ?_
 refine Awp.consP C ?_
 refine rvP C (.pv (.lit (.int .i64 (able c w from_)))) ?_
 refine rvP C (.pv (.lit (.bool ((able c w from_) != 0)))) ?_
 refine rvc_nil ?_
 refine Awp.cond (b := ((able c w from_) != 0)) rfl (fun h1 => ?_) (fun h1 => ?_)
 ·
  replace hR := of_true h1 hR
  refine Awp.consP C ?_
  refine rvP C (.pv (.lit (.int .i64 (able c w from_)))) ?_
  refine rvP C (.pv (.lit (.int .i64 0))) ?_
  refine rvP C (.pv (.lit (.int .i64 (able c w from_)))) ?_
  refine rvc_nil ?_
  refine Awp.ret ?_
  subst hR
  exact ⟨.inl rfl, rfl⟩
 ·
  replace hR := of_false h1 hR
  refine Awp.skip ?_
  refine Awp.consP C ?_
  refine rvP C (.pv (.lit (.int .i64 from_))) ?_
  refine rvP C (.ptr 3 1) ?_
  refine rvP C (sS (some c.members.nil) eMember c.members.D) ?_
  have h2 : c.members.D[0]? = some c.members.D[0]! := getE (check_len (able_ok (eq_of_bne_false h1)).1)
  refine rvc_un (rexec_idxS C rfl rfl rfl rfl rfl rfl (c.members.D[0]!) (Int.natCast_nonneg _) h2 ?_)
  refine rvP C (.rp [.lit (.int .i64 (c.members.D[0]!.site))]) ?_
  refine rvP C (.pv (.lit (.int .i64 (c.members.D[0]!.site)))) ?_
  refine rvc_un (rexec_prim C (δ := { v := .ptr 4 (0 + from_.toNat * 3) }) rfl rfl rfl rfl ⟨(by have := (able_ok (eq_of_bne_false h1)).2.2; omega), (by have := (able_ok (eq_of_bne_false h1)).2.2; omega)⟩ rfl ?_)
  refine rvc_un (rexec_prim C (δ := { v := .ptr 4 (0 + from_.toNat * 3 + (c.members.D[0]!.site).toNat * 1) }) rfl rfl rfl rfl ⟨(by have := sites_ok (able_ok (eq_of_bne_false h1)).1 _ (at_mem (D := c.members.D) (n := 0) (check_len (able_ok (eq_of_bne_false h1)).1)); omega), (by have := sites_ok (able_ok (eq_of_bne_false h1)).1 _ (at_mem (D := c.members.D) (n := 0) (check_len (able_ok (eq_of_bne_false h1)).1)); omega)⟩ rfl ?_)
  refine rvc_un (rexec_load33 C (fun p q => .pv (.lit (.int .i64 ((w p) q)))) from_.toNat (c.members.D[0]!.site).toNat (.pv (.lit (.int .i64 ((w from_.toNat) (c.members.D[0]!.site).toNat)))) rfl rfl rfl rfl rfl rfl rfl (by have := (able_ok (eq_of_bne_false h1)).2.2; omega) (by have := sites_ok (able_ok (eq_of_bne_false h1)).1 _ (at_mem (D := c.members.D) (n := 0) (check_len (able_ok (eq_of_bne_false h1)).1)); omega) rfl ?_)
  refine rvP C (.pv (.lit (.int .i64 (IntKind.i64.wrap (2 * ((w from_.toNat) (c.members.D[0]!.site).toNat)))))) ?_
  refine rvP C (.agg [.pv (.lit (.int .i64 c.epoch)), sS (some c.members.nil) eMember c.members.D]) ?_
  refine rvP C (.agg [.pv (.lit (.int .i64 ((w 0) 0))), .pv (.lit (.int .i64 ((w 0) 1))), .pv (.lit (.int .i64 ((w 0) 2))), .pv (.lit (.int .i64 ((w 1) 0))), .pv (.lit (.int .i64 ((w 1) 1))), .pv (.lit (.int .i64 ((w 1) 2))), .pv (.lit (.int .i64 ((w 2) 0))), .pv (.lit (.int .i64 ((w 2) 1))), .pv (.lit (.int .i64 ((w 2) 2)))]) ?_
  refine rvc_un (rexec_call hP C rfl rfl rfl (down_calls c w (check_len (able_ok (eq_of_bne_false h1)).1) (by have := check_le6 (able_ok (eq_of_bne_false h1)).1; omega) (sites_ok (able_ok (eq_of_bne_false h1)).1)) ?_)
  refine rvP C (.pv (.lit (.int .i64 (IntKind.i64.wrap (2 * (down c w)))))) ?_
  refine rvP C (.pv (.lit (.int .i64 (IntKind.i64.wrap ((IntKind.i64.wrap (2 * ((w from_.toNat) (c.members.D[0]!.site).toNat))) + (IntKind.i64.wrap (2 * (down c w)))))))) ?_
  refine rvP C (.pv (.lit (.int .i64 (IntKind.i64.wrap ((IntKind.i64.wrap (2 * ((w from_.toNat) (c.members.D[0]!.site).toNat))) + (IntKind.i64.wrap (2 * (down c w)))))))) ?_
  refine rvP C (.pv (.lit (.int .i64 0))) ?_
  refine rvc_nil ?_
  refine Awp.ret ?_
  subst hR
  exact ⟨.inl rfl, rfl⟩
end Go.Proofs.Ytihccnkegkkikaa
/- Chains in plain Lean: what chapter 8 shows of them. No conditions. -/
namespace Go.Proofs.Ytihccnkegkkikaa
open Go.Am
theorem place0_lt (c : Chain) (n : Int) : place0 c n < (c.members.D.length : Int) ∧ -1 ≤ place0 c n ∧ (0 ≤ place0 c n → 0 < c.members.D.length) := by
  have := placeIn_lt c n
  unfold place0
  cases check c != 0 <;> simp only [cond_true, cond_false] <;> omega
theorem epoch_of {c : Chain} (h : check c = 0) : 1 ≤ c.epoch ∧ c.epoch ≤ 1099511627776 := by
  unfold check at h
  obtain ⟨h1, h⟩ := bif_const (by decide) h
  obtain ⟨h2, h⟩ := bif_const (by decide) h
  have := of_decide_eq_false h1
  have := of_decide_eq_false h2
  omega
def Apart (a b : Member) : Prop := a.node ≠ b.node ∧ a.site ≤ b.site
theorem ok_iff : ∀ (l pre : List Member), okFrom pre l = true ↔ (∀ x ∈ l, member x = true) ∧ (∀ x ∈ l, ∀ y ∈ pre, Apart y x) ∧ l.Pairwise Apart
  | [], pre => by simp [okFrom]
  | x :: l, pre => by
    have ih := ok_iff l (pre ++ [x])
    have hp : (pre.all fun y => !(y.node == x.node) && !(decide (y.site > x.site))) = true ↔ ∀ y ∈ pre, Apart y x := by
      rw [List.all_eq_true]
      constructor
      · intro h y hy
        have := h y hy
        simp only [Bool.and_eq_true, Bool.not_eq_true', beq_eq_false_iff_ne, decide_eq_false_iff_not] at this
        exact ⟨this.1, by omega⟩
      · intro h y hy
        obtain ⟨h1, h2⟩ := h y hy
        simp only [Bool.and_eq_true, Bool.not_eq_true', beq_eq_false_iff_ne, decide_eq_false_iff_not]
        exact ⟨h1, by omega⟩
    simp only [okFrom, Bool.and_eq_true, hp, ih, List.mem_cons, List.pairwise_cons, List.mem_append, List.mem_nil_iff, or_false]
    constructor
    · rintro ⟨⟨h1, h2⟩, h3, h4, h5⟩
      refine ⟨fun z hz => ?_, fun z hz y hy => ?_, fun z hz => h4 z hz x (.inr rfl), h5⟩
      · rcases hz with rfl | hz
        · exact h1
        · exact h3 z hz
      · rcases hz with rfl | hz
        · exact h2 y hy
        · exact h4 z hz y (.inl hy)
    · rintro ⟨h1, h2, h3, h4⟩
      refine ⟨⟨h1 x (.inl rfl), fun y hy => h2 x (.inl rfl) y hy⟩, fun z hz => h1 z (.inr hz), fun z hz y hy => ?_, h4⟩
      rcases hy with hy | rfl
      · exact h2 z (.inr hz) y hy
      · exact h3 z hz
theorem check_iff (c : Chain) : check c = 0 ↔ (1 ≤ c.epoch ∧ c.epoch ≤ 1099511627776) ∧ c.members.D ≠ [] ∧ c.members.D[0]!.fresh = false ∧ (∀ x ∈ c.members.D, member x = true) ∧ c.members.D.Pairwise Apart := by
  have h1 : check_l0 c.members.D 0 0 0 = bif okFrom [] c.members.D then 0 else 80 := check_l0_eq c.members.D [] 0 0 0 ⟨by decide, fun n hn => by
    have := has_nat (S := 0) (n := n) (by decide) (by omega)
    rw [this]; simp, fun y hy => (by cases hy), .inl rfl⟩
  have h2 := ok_iff c.members.D []
  constructor
  · intro h
    have ho := h2.1 (ok_of_check h)
    refine ⟨epoch_of h, fun e => ?_, ?_, ho.1, ho.2.2⟩
    · have := check_len h; rw [e] at this; simp at this
    · unfold check at h
      obtain ⟨_, h⟩ := bif_const (by decide) h
      obtain ⟨_, h⟩ := bif_const (by decide) h
      obtain ⟨_, h⟩ := bif_const (by decide) h
      exact (bif_const (by decide) h).1
  · rintro ⟨⟨e1, e2⟩, hne, hf, hm, hp⟩
    unfold check
    have d1 : decide (c.epoch < 1) = false := by simp; omega
    have d2 : decide (c.epoch > 1099511627776) = false := by simp; omega
    have d3 : ((c.members.D.length : Int) == 0) = false := by
      rw [beq_eq_false_iff_ne]
      intro e
      exact hne (List.eq_nil_of_length_eq_zero (by omega))
    rw [d1, d2, d3, hf, h1, h2.2 ⟨hm, fun _ _ _ hy => (by cases hy), hp⟩]
    rfl
end Go.Proofs.Ytihccnkegkkikaa
/- How far a read goes; direct ways. No conditions. -/
namespace Go.Proofs.Ytihccnkegkkikaa
open Go.Am
def readW (c : Chain) (w : (Nat → (Nat → Int))) (from_ : Int) (node : Int) (tail : Bool) (masters : Int) : Int × Int :=
  (bif ((able c w from_) != 0) then (0, (able c w from_)) else (bif (decide ((place0 c node) < 0)) then (0, 81) else (bif (!(siteOk masters)) then (0, 81) else (bif tail then ((IntKind.i64.wrap ((IntKind.i64.wrap ((IntKind.i64.wrap (2 * ((w from_.toNat) (c.members.D[(place0 c node).toNat]!.site).toNat))) + (IntKind.i64.wrap (2 * ((w (c.members.D[(place0 c node).toNat]!.site).toNat) masters.toNat))))) + (IntKind.i64.wrap (2 * ((w (c.members.D[(place0 c node).toNat]!.site).toNat) (c.members.D[(IntKind.i64.wrap ((c.members.D.length : Int) - 1)).toNat]!.site).toNat))))), 0) else ((IntKind.i64.wrap ((IntKind.i64.wrap (2 * ((w from_.toNat) (c.members.D[(place0 c node).toNat]!.site).toNat))) + (IntKind.i64.wrap (2 * ((w (c.members.D[(place0 c node).toNat]!.site).toNat) masters.toNat))))), 0)))))
theorem readW_calls (c : Chain) (w : (Nat → (Nat → Int))) (from_ : Int) (node : Int) (tail : Bool) (masters : Int) (hl1 : c.members.D.length ≤ 1000000) : PCalls Try.prog 12 [.agg [.pv (.lit (.int .i64 c.epoch)), sS (some c.members.nil) eMember c.members.D], .agg [.pv (.lit (.int .i64 ((w 0) 0))), .pv (.lit (.int .i64 ((w 0) 1))), .pv (.lit (.int .i64 ((w 0) 2))), .pv (.lit (.int .i64 ((w 1) 0))), .pv (.lit (.int .i64 ((w 1) 1))), .pv (.lit (.int .i64 ((w 1) 2))), .pv (.lit (.int .i64 ((w 2) 0))), .pv (.lit (.int .i64 ((w 2) 1))), .pv (.lit (.int .i64 ((w 2) 2)))], .pv (.lit (.int .i64 from_)), .pv (.lit (.int .i64 node)), .pv (.lit (.bool tail)), .pv (.lit (.int .i64 masters))] (.tup [.pv (.lit (.int .i64 ((readW c w from_ node tail masters).1))), .pv (.lit (.int .i64 ((readW c w from_ node tail masters).2)))]) := by
 generalize hR : readW c w from_ node tail masters = R
 refine PCalls.of_body tabOk Try.func12 rfl rfl rfl rfl rfl mixed fun E hP C hI => ?_
 refine Awp.consP C ?_
 refine rvc_un (rexec_prim C (δ := { v := .ptr 6 0, new := [(6, .cells [.pv (.lit (.int .i64 c.epoch)), sS (some c.members.nil) eMember c.members.D])] }) rfl rfl rfl rfl trivial rfl ?_)
 refine rvc_un (rexec_prim C (δ := { v := .ptr 7 0, new := [(7, .cells [.pv (.lit (.int .i64 ((w 0) 0))), .pv (.lit (.int .i64 ((w 0) 1))), .pv (.lit (.int .i64 ((w 0) 2))), .pv (.lit (.int .i64 ((w 1) 0))), .pv (.lit (.int .i64 ((w 1) 1))), .pv (.lit (.int .i64 ((w 1) 2))), .pv (.lit (.int .i64 ((w 2) 0))), .pv (.lit (.int .i64 ((w 2) 1))), .pv (.lit (.int .i64 ((w 2) 2)))])] }) rfl rfl rfl rfl trivial rfl ?_)
 refine rvP C (.pv (.lit (.int .i64 0))) ?_
 refine rvP C (.pv (.lit (.int .i64 0))) ?_
 refine rvc_nil ?_
 refine Awp.seq ?_
 refine Awp.consP C ?_
 refine rvP C (.agg [.pv (.lit (.int .i64 c.epoch)), sS (some c.members.nil) eMember c.members.D]) ?_
 refine rvP C (.agg [.pv (.lit (.int .i64 ((w 0) 0))), .pv (.lit (.int .i64 ((w 0) 1))), .pv (.lit (.int .i64 ((w 0) 2))), .pv (.lit (.int .i64 ((w 1) 0))), .pv (.lit (.int .i64 ((w 1) 1))), .pv (.lit (.int .i64 ((w 1) 2))), .pv (.lit (.int .i64 ((w 2) 0))), .pv (.lit (.int .i64 ((w 2) 1))), .pv (.lit (.int .i64 ((w 2) 2)))]) ?_
 refine rvP C (.pv (.lit (.int .i64 from_))) ?_
 refine rvc_un (rexec_call hP C rfl rfl rfl (able_calls c w from_ hl1) ?_)
 refine rvP C (.pv (.lit (.int .i64 (able c w from_)))) ?_
 refine rvc_nil ?_
 refine Awp.consP C ?_
 refine rvP C (.pv (.lit (.int .i64 (able c w from_)))) ?_
 refine rvP C (.pv (.lit (.bool ((able c w from_) != 0)))) ?_
 refine rvc_nil ?_
 refine Awp.cond (b := ((able c w from_) != 0)) rfl (fun h1 => ?_) (fun h1 => ?_)
 ·
  replace hR := of_true h1 hR
  refine Awp.consP C ?_
  refine rvP C (.pv (.lit (.int .i64 (able c w from_)))) ?_
  refine rvP C (.pv (.lit (.int .i64 0))) ?_
  refine rvP C (.pv (.lit (.int .i64 (able c w from_)))) ?_
  refine rvc_nil ?_
  refine Awp.ret ?_
  subst hR
  exact ⟨.inl rfl, rfl⟩
 ·
  replace hR := of_false h1 hR
  refine Awp.skip ?_
  refine Awp.consP C ?_
  refine rvP C (.agg [.pv (.lit (.int .i64 c.epoch)), sS (some c.members.nil) eMember c.members.D]) ?_
  refine rvP C (.pv (.lit (.int .i64 node))) ?_
  refine rvc_un (rexec_call hP C rfl rfl rfl (place0_calls c node (Nat.le_trans hl1 (by decide))) ?_)
  refine rvP C (.pv (.lit (.int .i64 (place0 c node)))) ?_
  refine rvc_nil ?_
  refine Awp.seq ?_
  refine Awp.consP C ?_
  refine rvP C (.pv (.lit (.int .i64 (place0 c node)))) ?_
  refine rvP C (.pv (.lit (.bool (decide ((place0 c node) < 0))))) ?_
  refine rvP C (.pv (.lit (.bool (decide ((place0 c node) < 0))))) ?_
  refine rvc_case 30 (decide ((place0 c node) < 0)) rfl (fun h2 => ?_) (fun h2 => ?_)
  ·
   replace hR := of_true h2 hR
   refine rvS ?_
   refine rvS ?_
   refine rvS ?_
   refine rvP C (.pv (.lit (.bool true))) ?_
   refine rvc_nil ?_
   refine Awp.condT (b := true) rfl rfl ?_
   refine Awp.consP C ?_
   refine rvP C (.pv (.lit (.int .i64 0))) ?_
   refine rvP C (.pv (.lit (.int .i64 81))) ?_
   refine rvc_nil ?_
   refine Awp.ret ?_
   subst hR
   exact ⟨.inl rfl, rfl⟩
  ·
   replace hR := of_false h2 hR
   refine rvO C (.pv (.lit (.int .i64 masters))) ?_
   refine rvc_open rfl rfl rfl (rexec_call hP C rfl rfl rfl (siteOk_calls masters) ?_)
   refine rvO C (.pv (.lit (.bool (!(siteOk masters))))) ?_
   refine rvP C (.pv (.lit (.bool (!(siteOk masters))))) ?_
   refine rvc_nil ?_
   refine Awp.cond (b := (!(siteOk masters))) rfl (fun h3 => ?_) (fun h3 => ?_)
   ·
    replace hR := of_true h3 hR
    refine Awp.consP C ?_
    refine rvP C (.pv (.lit (.int .i64 0))) ?_
    refine rvP C (.pv (.lit (.int .i64 81))) ?_
    refine rvc_nil ?_
    refine Awp.ret ?_
    subst hR
    exact ⟨.inl rfl, rfl⟩
   ·
    replace hR := of_false h3 hR
    refine Awp.skip ?_
    refine Awp.consP C ?_
    refine rvP C (.ptr 6 1) ?_
    refine rvP C (sS (some c.members.nil) eMember c.members.D) ?_
    refine rvP C (.pv (.lit (.int .i64 (place0 c node)))) ?_
    have h4 : c.members.D[(place0 c node).toNat]? = some c.members.D[(place0 c node).toNat]! := getE (by have hAB_ := (able_ok (eq_of_bne_false h1)); have hp_ := place0_lt c node; have hl_ := check_len hAB_.1; have h6_ := check_le6 hAB_.1; have hq_ := of_decide_eq_false ‹decide (place0 c node < 0) = false›; have hw_ := wrapI ((c.members.D.length : Int) - 1); have hs1_ := sites_ok hAB_.1 _ (at_mem (D := c.members.D) (n := (place0 c node).toNat) (by omega)); have hs2_ := sites_ok hAB_.1 _ (at_mem (D := c.members.D) (n := (IntKind.i64.wrap ((c.members.D.length : Int) - 1)).toNat) (by omega)); have hm_ := site_ok (n := masters) (by simpa using ‹(!siteOk masters) = false›); omega)
    refine rvc_un (rexec_idxS C rfl rfl rfl rfl rfl rfl (c.members.D[(place0 c node).toNat]!) (by have hAB_ := (able_ok (eq_of_bne_false h1)); have hp_ := place0_lt c node; have hl_ := check_len hAB_.1; have h6_ := check_le6 hAB_.1; have hq_ := of_decide_eq_false ‹decide (place0 c node < 0) = false›; have hw_ := wrapI ((c.members.D.length : Int) - 1); have hs1_ := sites_ok hAB_.1 _ (at_mem (D := c.members.D) (n := (place0 c node).toNat) (by omega)); have hs2_ := sites_ok hAB_.1 _ (at_mem (D := c.members.D) (n := (IntKind.i64.wrap ((c.members.D.length : Int) - 1)).toNat) (by omega)); have hm_ := site_ok (n := masters) (by simpa using ‹(!siteOk masters) = false›); omega) h4 ?_)
    refine rvP C (.rp [.lit (.int .i64 (c.members.D[(place0 c node).toNat]!.site))]) ?_
    refine rvP C (.pv (.lit (.int .i64 (c.members.D[(place0 c node).toNat]!.site)))) ?_
    refine rvP C (.pv (.lit (.int .i64 (c.members.D[(place0 c node).toNat]!.site)))) ?_
    refine rvc_nil ?_
    refine Awp.consP C ?_
    refine rvP C (.pv (.lit (.int .i64 from_))) ?_
    refine rvP C (.pv (.lit (.int .i64 (c.members.D[(place0 c node).toNat]!.site)))) ?_
    refine rvc_un (rexec_prim C (δ := { v := .ptr 7 (0 + from_.toNat * 3) }) rfl rfl rfl rfl ⟨(by have hAB_ := (able_ok (eq_of_bne_false h1)); have hp_ := place0_lt c node; have hl_ := check_len hAB_.1; have h6_ := check_le6 hAB_.1; have hq_ := of_decide_eq_false ‹decide (place0 c node < 0) = false›; have hw_ := wrapI ((c.members.D.length : Int) - 1); have hs1_ := sites_ok hAB_.1 _ (at_mem (D := c.members.D) (n := (place0 c node).toNat) (by omega)); have hs2_ := sites_ok hAB_.1 _ (at_mem (D := c.members.D) (n := (IntKind.i64.wrap ((c.members.D.length : Int) - 1)).toNat) (by omega)); have hm_ := site_ok (n := masters) (by simpa using ‹(!siteOk masters) = false›); omega), (by have hAB_ := (able_ok (eq_of_bne_false h1)); have hp_ := place0_lt c node; have hl_ := check_len hAB_.1; have h6_ := check_le6 hAB_.1; have hq_ := of_decide_eq_false ‹decide (place0 c node < 0) = false›; have hw_ := wrapI ((c.members.D.length : Int) - 1); have hs1_ := sites_ok hAB_.1 _ (at_mem (D := c.members.D) (n := (place0 c node).toNat) (by omega)); have hs2_ := sites_ok hAB_.1 _ (at_mem (D := c.members.D) (n := (IntKind.i64.wrap ((c.members.D.length : Int) - 1)).toNat) (by omega)); have hm_ := site_ok (n := masters) (by simpa using ‹(!siteOk masters) = false›); omega)⟩ rfl ?_)
    refine rvc_un (rexec_prim C (δ := { v := .ptr 7 (0 + from_.toNat * 3 + (c.members.D[(place0 c node).toNat]!.site).toNat * 1) }) rfl rfl rfl rfl ⟨(by have hAB_ := (able_ok (eq_of_bne_false h1)); have hp_ := place0_lt c node; have hl_ := check_len hAB_.1; have h6_ := check_le6 hAB_.1; have hq_ := of_decide_eq_false ‹decide (place0 c node < 0) = false›; have hw_ := wrapI ((c.members.D.length : Int) - 1); have hs1_ := sites_ok hAB_.1 _ (at_mem (D := c.members.D) (n := (place0 c node).toNat) (by omega)); have hs2_ := sites_ok hAB_.1 _ (at_mem (D := c.members.D) (n := (IntKind.i64.wrap ((c.members.D.length : Int) - 1)).toNat) (by omega)); have hm_ := site_ok (n := masters) (by simpa using ‹(!siteOk masters) = false›); omega), (by have hAB_ := (able_ok (eq_of_bne_false h1)); have hp_ := place0_lt c node; have hl_ := check_len hAB_.1; have h6_ := check_le6 hAB_.1; have hq_ := of_decide_eq_false ‹decide (place0 c node < 0) = false›; have hw_ := wrapI ((c.members.D.length : Int) - 1); have hs1_ := sites_ok hAB_.1 _ (at_mem (D := c.members.D) (n := (place0 c node).toNat) (by omega)); have hs2_ := sites_ok hAB_.1 _ (at_mem (D := c.members.D) (n := (IntKind.i64.wrap ((c.members.D.length : Int) - 1)).toNat) (by omega)); have hm_ := site_ok (n := masters) (by simpa using ‹(!siteOk masters) = false›); omega)⟩ rfl ?_)
    refine rvc_un (rexec_load33 C (fun p q => .pv (.lit (.int .i64 ((w p) q)))) from_.toNat (c.members.D[(place0 c node).toNat]!.site).toNat (.pv (.lit (.int .i64 ((w from_.toNat) (c.members.D[(place0 c node).toNat]!.site).toNat)))) rfl rfl rfl rfl rfl rfl rfl (by have hAB_ := (able_ok (eq_of_bne_false h1)); have hp_ := place0_lt c node; have hl_ := check_len hAB_.1; have h6_ := check_le6 hAB_.1; have hq_ := of_decide_eq_false ‹decide (place0 c node < 0) = false›; have hw_ := wrapI ((c.members.D.length : Int) - 1); have hs1_ := sites_ok hAB_.1 _ (at_mem (D := c.members.D) (n := (place0 c node).toNat) (by omega)); have hs2_ := sites_ok hAB_.1 _ (at_mem (D := c.members.D) (n := (IntKind.i64.wrap ((c.members.D.length : Int) - 1)).toNat) (by omega)); have hm_ := site_ok (n := masters) (by simpa using ‹(!siteOk masters) = false›); omega) (by have hAB_ := (able_ok (eq_of_bne_false h1)); have hp_ := place0_lt c node; have hl_ := check_len hAB_.1; have h6_ := check_le6 hAB_.1; have hq_ := of_decide_eq_false ‹decide (place0 c node < 0) = false›; have hw_ := wrapI ((c.members.D.length : Int) - 1); have hs1_ := sites_ok hAB_.1 _ (at_mem (D := c.members.D) (n := (place0 c node).toNat) (by omega)); have hs2_ := sites_ok hAB_.1 _ (at_mem (D := c.members.D) (n := (IntKind.i64.wrap ((c.members.D.length : Int) - 1)).toNat) (by omega)); have hm_ := site_ok (n := masters) (by simpa using ‹(!siteOk masters) = false›); omega) rfl ?_)
    refine rvP C (.pv (.lit (.int .i64 (IntKind.i64.wrap (2 * ((w from_.toNat) (c.members.D[(place0 c node).toNat]!.site).toNat)))))) ?_
    refine rvP C (.pv (.lit (.int .i64 (c.members.D[(place0 c node).toNat]!.site)))) ?_
    refine rvP C (.pv (.lit (.int .i64 masters))) ?_
    refine rvc_un (rexec_prim C (δ := { v := .ptr 7 (0 + (c.members.D[(place0 c node).toNat]!.site).toNat * 3) }) rfl rfl rfl rfl ⟨(by have hAB_ := (able_ok (eq_of_bne_false h1)); have hp_ := place0_lt c node; have hl_ := check_len hAB_.1; have h6_ := check_le6 hAB_.1; have hq_ := of_decide_eq_false ‹decide (place0 c node < 0) = false›; have hw_ := wrapI ((c.members.D.length : Int) - 1); have hs1_ := sites_ok hAB_.1 _ (at_mem (D := c.members.D) (n := (place0 c node).toNat) (by omega)); have hs2_ := sites_ok hAB_.1 _ (at_mem (D := c.members.D) (n := (IntKind.i64.wrap ((c.members.D.length : Int) - 1)).toNat) (by omega)); have hm_ := site_ok (n := masters) (by simpa using ‹(!siteOk masters) = false›); omega), (by have hAB_ := (able_ok (eq_of_bne_false h1)); have hp_ := place0_lt c node; have hl_ := check_len hAB_.1; have h6_ := check_le6 hAB_.1; have hq_ := of_decide_eq_false ‹decide (place0 c node < 0) = false›; have hw_ := wrapI ((c.members.D.length : Int) - 1); have hs1_ := sites_ok hAB_.1 _ (at_mem (D := c.members.D) (n := (place0 c node).toNat) (by omega)); have hs2_ := sites_ok hAB_.1 _ (at_mem (D := c.members.D) (n := (IntKind.i64.wrap ((c.members.D.length : Int) - 1)).toNat) (by omega)); have hm_ := site_ok (n := masters) (by simpa using ‹(!siteOk masters) = false›); omega)⟩ rfl ?_)
    refine rvc_un (rexec_prim C (δ := { v := .ptr 7 (0 + (c.members.D[(place0 c node).toNat]!.site).toNat * 3 + masters.toNat * 1) }) rfl rfl rfl rfl ⟨(by have hAB_ := (able_ok (eq_of_bne_false h1)); have hp_ := place0_lt c node; have hl_ := check_len hAB_.1; have h6_ := check_le6 hAB_.1; have hq_ := of_decide_eq_false ‹decide (place0 c node < 0) = false›; have hw_ := wrapI ((c.members.D.length : Int) - 1); have hs1_ := sites_ok hAB_.1 _ (at_mem (D := c.members.D) (n := (place0 c node).toNat) (by omega)); have hs2_ := sites_ok hAB_.1 _ (at_mem (D := c.members.D) (n := (IntKind.i64.wrap ((c.members.D.length : Int) - 1)).toNat) (by omega)); have hm_ := site_ok (n := masters) (by simpa using ‹(!siteOk masters) = false›); omega), (by have hAB_ := (able_ok (eq_of_bne_false h1)); have hp_ := place0_lt c node; have hl_ := check_len hAB_.1; have h6_ := check_le6 hAB_.1; have hq_ := of_decide_eq_false ‹decide (place0 c node < 0) = false›; have hw_ := wrapI ((c.members.D.length : Int) - 1); have hs1_ := sites_ok hAB_.1 _ (at_mem (D := c.members.D) (n := (place0 c node).toNat) (by omega)); have hs2_ := sites_ok hAB_.1 _ (at_mem (D := c.members.D) (n := (IntKind.i64.wrap ((c.members.D.length : Int) - 1)).toNat) (by omega)); have hm_ := site_ok (n := masters) (by simpa using ‹(!siteOk masters) = false›); omega)⟩ rfl ?_)
    refine rvc_un (rexec_load33 C (fun p q => .pv (.lit (.int .i64 ((w p) q)))) (c.members.D[(place0 c node).toNat]!.site).toNat masters.toNat (.pv (.lit (.int .i64 ((w (c.members.D[(place0 c node).toNat]!.site).toNat) masters.toNat)))) rfl rfl rfl rfl rfl rfl rfl (by have hAB_ := (able_ok (eq_of_bne_false h1)); have hp_ := place0_lt c node; have hl_ := check_len hAB_.1; have h6_ := check_le6 hAB_.1; have hq_ := of_decide_eq_false ‹decide (place0 c node < 0) = false›; have hw_ := wrapI ((c.members.D.length : Int) - 1); have hs1_ := sites_ok hAB_.1 _ (at_mem (D := c.members.D) (n := (place0 c node).toNat) (by omega)); have hs2_ := sites_ok hAB_.1 _ (at_mem (D := c.members.D) (n := (IntKind.i64.wrap ((c.members.D.length : Int) - 1)).toNat) (by omega)); have hm_ := site_ok (n := masters) (by simpa using ‹(!siteOk masters) = false›); omega) (by have hAB_ := (able_ok (eq_of_bne_false h1)); have hp_ := place0_lt c node; have hl_ := check_len hAB_.1; have h6_ := check_le6 hAB_.1; have hq_ := of_decide_eq_false ‹decide (place0 c node < 0) = false›; have hw_ := wrapI ((c.members.D.length : Int) - 1); have hs1_ := sites_ok hAB_.1 _ (at_mem (D := c.members.D) (n := (place0 c node).toNat) (by omega)); have hs2_ := sites_ok hAB_.1 _ (at_mem (D := c.members.D) (n := (IntKind.i64.wrap ((c.members.D.length : Int) - 1)).toNat) (by omega)); have hm_ := site_ok (n := masters) (by simpa using ‹(!siteOk masters) = false›); omega) rfl ?_)
    refine rvP C (.pv (.lit (.int .i64 (IntKind.i64.wrap (2 * ((w (c.members.D[(place0 c node).toNat]!.site).toNat) masters.toNat)))))) ?_
    refine rvP C (.pv (.lit (.int .i64 (IntKind.i64.wrap ((IntKind.i64.wrap (2 * ((w from_.toNat) (c.members.D[(place0 c node).toNat]!.site).toNat))) + (IntKind.i64.wrap (2 * ((w (c.members.D[(place0 c node).toNat]!.site).toNat) masters.toNat)))))))) ?_
    refine rvP C (.pv (.lit (.int .i64 (IntKind.i64.wrap ((IntKind.i64.wrap (2 * ((w from_.toNat) (c.members.D[(place0 c node).toNat]!.site).toNat))) + (IntKind.i64.wrap (2 * ((w (c.members.D[(place0 c node).toNat]!.site).toNat) masters.toNat)))))))) ?_
    refine rvc_nil ?_
    refine Awp.seq ?_
    refine Awp.consP C ?_
    refine rvP C (.pv (.lit (.bool tail))) ?_
    refine rvc_nil ?_
    refine Awp.cond (b := tail) rfl (fun h5 => ?_) (fun h5 => ?_)
    ·
     replace hR := of_true h5 hR
     refine Awp.regionP C ?_
     refine rvP C (.pv (.lit (.int .i64 (IntKind.i64.wrap ((IntKind.i64.wrap (2 * ((w from_.toNat) (c.members.D[(place0 c node).toNat]!.site).toNat))) + (IntKind.i64.wrap (2 * ((w (c.members.D[(place0 c node).toNat]!.site).toNat) masters.toNat)))))))) ?_
     refine rvP C (.pv (.lit (.int .i64 (c.members.D[(place0 c node).toNat]!.site)))) ?_
     refine rvP C (.ptr 6 1) ?_
     refine rvP C (sS (some c.members.nil) eMember c.members.D) ?_
     refine rvP C (.ptr 6 1) ?_
     refine rvP C (sS (some c.members.nil) eMember c.members.D) ?_
     refine rvP C (.pv (.lit (.int .i64 (c.members.D.length : Int)))) ?_
     refine rvP C (.pv (.lit (.int .i64 (IntKind.i64.wrap ((c.members.D.length : Int) - 1))))) ?_
     have h6 : c.members.D[(IntKind.i64.wrap ((c.members.D.length : Int) - 1)).toNat]? = some c.members.D[(IntKind.i64.wrap ((c.members.D.length : Int) - 1)).toNat]! := getE (by have hAB_ := (able_ok (eq_of_bne_false h1)); have hp_ := place0_lt c node; have hl_ := check_len hAB_.1; have h6_ := check_le6 hAB_.1; have hq_ := of_decide_eq_false ‹decide (place0 c node < 0) = false›; have hw_ := wrapI ((c.members.D.length : Int) - 1); have hs1_ := sites_ok hAB_.1 _ (at_mem (D := c.members.D) (n := (place0 c node).toNat) (by omega)); have hs2_ := sites_ok hAB_.1 _ (at_mem (D := c.members.D) (n := (IntKind.i64.wrap ((c.members.D.length : Int) - 1)).toNat) (by omega)); have hm_ := site_ok (n := masters) (by simpa using ‹(!siteOk masters) = false›); omega)
     refine rvc_un (rexec_idxS C rfl rfl rfl rfl rfl rfl (c.members.D[(IntKind.i64.wrap ((c.members.D.length : Int) - 1)).toNat]!) (by have hAB_ := (able_ok (eq_of_bne_false h1)); have hp_ := place0_lt c node; have hl_ := check_len hAB_.1; have h6_ := check_le6 hAB_.1; have hq_ := of_decide_eq_false ‹decide (place0 c node < 0) = false›; have hw_ := wrapI ((c.members.D.length : Int) - 1); have hs1_ := sites_ok hAB_.1 _ (at_mem (D := c.members.D) (n := (place0 c node).toNat) (by omega)); have hs2_ := sites_ok hAB_.1 _ (at_mem (D := c.members.D) (n := (IntKind.i64.wrap ((c.members.D.length : Int) - 1)).toNat) (by omega)); have hm_ := site_ok (n := masters) (by simpa using ‹(!siteOk masters) = false›); omega) h6 ?_)
     refine rvP C (.rp [.lit (.int .i64 (c.members.D[(IntKind.i64.wrap ((c.members.D.length : Int) - 1)).toNat]!.site))]) ?_
     refine rvP C (.pv (.lit (.int .i64 (c.members.D[(IntKind.i64.wrap ((c.members.D.length : Int) - 1)).toNat]!.site)))) ?_
     refine rvc_un (rexec_prim C (δ := { v := .ptr 7 (0 + (c.members.D[(place0 c node).toNat]!.site).toNat * 3) }) rfl rfl rfl rfl ⟨(by have hAB_ := (able_ok (eq_of_bne_false h1)); have hp_ := place0_lt c node; have hl_ := check_len hAB_.1; have h6_ := check_le6 hAB_.1; have hq_ := of_decide_eq_false ‹decide (place0 c node < 0) = false›; have hw_ := wrapI ((c.members.D.length : Int) - 1); have hs1_ := sites_ok hAB_.1 _ (at_mem (D := c.members.D) (n := (place0 c node).toNat) (by omega)); have hs2_ := sites_ok hAB_.1 _ (at_mem (D := c.members.D) (n := (IntKind.i64.wrap ((c.members.D.length : Int) - 1)).toNat) (by omega)); have hm_ := site_ok (n := masters) (by simpa using ‹(!siteOk masters) = false›); omega), (by have hAB_ := (able_ok (eq_of_bne_false h1)); have hp_ := place0_lt c node; have hl_ := check_len hAB_.1; have h6_ := check_le6 hAB_.1; have hq_ := of_decide_eq_false ‹decide (place0 c node < 0) = false›; have hw_ := wrapI ((c.members.D.length : Int) - 1); have hs1_ := sites_ok hAB_.1 _ (at_mem (D := c.members.D) (n := (place0 c node).toNat) (by omega)); have hs2_ := sites_ok hAB_.1 _ (at_mem (D := c.members.D) (n := (IntKind.i64.wrap ((c.members.D.length : Int) - 1)).toNat) (by omega)); have hm_ := site_ok (n := masters) (by simpa using ‹(!siteOk masters) = false›); omega)⟩ rfl ?_)
     refine rvc_un (rexec_prim C (δ := { v := .ptr 7 (0 + (c.members.D[(place0 c node).toNat]!.site).toNat * 3 + (c.members.D[(IntKind.i64.wrap ((c.members.D.length : Int) - 1)).toNat]!.site).toNat * 1) }) rfl rfl rfl rfl ⟨(by have hAB_ := (able_ok (eq_of_bne_false h1)); have hp_ := place0_lt c node; have hl_ := check_len hAB_.1; have h6_ := check_le6 hAB_.1; have hq_ := of_decide_eq_false ‹decide (place0 c node < 0) = false›; have hw_ := wrapI ((c.members.D.length : Int) - 1); have hs1_ := sites_ok hAB_.1 _ (at_mem (D := c.members.D) (n := (place0 c node).toNat) (by omega)); have hs2_ := sites_ok hAB_.1 _ (at_mem (D := c.members.D) (n := (IntKind.i64.wrap ((c.members.D.length : Int) - 1)).toNat) (by omega)); have hm_ := site_ok (n := masters) (by simpa using ‹(!siteOk masters) = false›); omega), (by have hAB_ := (able_ok (eq_of_bne_false h1)); have hp_ := place0_lt c node; have hl_ := check_len hAB_.1; have h6_ := check_le6 hAB_.1; have hq_ := of_decide_eq_false ‹decide (place0 c node < 0) = false›; have hw_ := wrapI ((c.members.D.length : Int) - 1); have hs1_ := sites_ok hAB_.1 _ (at_mem (D := c.members.D) (n := (place0 c node).toNat) (by omega)); have hs2_ := sites_ok hAB_.1 _ (at_mem (D := c.members.D) (n := (IntKind.i64.wrap ((c.members.D.length : Int) - 1)).toNat) (by omega)); have hm_ := site_ok (n := masters) (by simpa using ‹(!siteOk masters) = false›); omega)⟩ rfl ?_)
     refine rvc_un (rexec_load33 C (fun p q => .pv (.lit (.int .i64 ((w p) q)))) (c.members.D[(place0 c node).toNat]!.site).toNat (c.members.D[(IntKind.i64.wrap ((c.members.D.length : Int) - 1)).toNat]!.site).toNat (.pv (.lit (.int .i64 ((w (c.members.D[(place0 c node).toNat]!.site).toNat) (c.members.D[(IntKind.i64.wrap ((c.members.D.length : Int) - 1)).toNat]!.site).toNat)))) rfl rfl rfl rfl rfl rfl rfl (by have hAB_ := (able_ok (eq_of_bne_false h1)); have hp_ := place0_lt c node; have hl_ := check_len hAB_.1; have h6_ := check_le6 hAB_.1; have hq_ := of_decide_eq_false ‹decide (place0 c node < 0) = false›; have hw_ := wrapI ((c.members.D.length : Int) - 1); have hs1_ := sites_ok hAB_.1 _ (at_mem (D := c.members.D) (n := (place0 c node).toNat) (by omega)); have hs2_ := sites_ok hAB_.1 _ (at_mem (D := c.members.D) (n := (IntKind.i64.wrap ((c.members.D.length : Int) - 1)).toNat) (by omega)); have hm_ := site_ok (n := masters) (by simpa using ‹(!siteOk masters) = false›); omega) (by have hAB_ := (able_ok (eq_of_bne_false h1)); have hp_ := place0_lt c node; have hl_ := check_len hAB_.1; have h6_ := check_le6 hAB_.1; have hq_ := of_decide_eq_false ‹decide (place0 c node < 0) = false›; have hw_ := wrapI ((c.members.D.length : Int) - 1); have hs1_ := sites_ok hAB_.1 _ (at_mem (D := c.members.D) (n := (place0 c node).toNat) (by omega)); have hs2_ := sites_ok hAB_.1 _ (at_mem (D := c.members.D) (n := (IntKind.i64.wrap ((c.members.D.length : Int) - 1)).toNat) (by omega)); have hm_ := site_ok (n := masters) (by simpa using ‹(!siteOk masters) = false›); omega) rfl ?_)
     refine rvP C (.pv (.lit (.int .i64 (IntKind.i64.wrap (2 * ((w (c.members.D[(place0 c node).toNat]!.site).toNat) (c.members.D[(IntKind.i64.wrap ((c.members.D.length : Int) - 1)).toNat]!.site).toNat)))))) ?_
     refine rvP C (.pv (.lit (.int .i64 (IntKind.i64.wrap ((IntKind.i64.wrap ((IntKind.i64.wrap (2 * ((w from_.toNat) (c.members.D[(place0 c node).toNat]!.site).toNat))) + (IntKind.i64.wrap (2 * ((w (c.members.D[(place0 c node).toNat]!.site).toNat) masters.toNat))))) + (IntKind.i64.wrap (2 * ((w (c.members.D[(place0 c node).toNat]!.site).toNat) (c.members.D[(IntKind.i64.wrap ((c.members.D.length : Int) - 1)).toNat]!.site).toNat)))))))) ?_
     refine rvP C (.pv (.lit (.int .i64 (IntKind.i64.wrap ((IntKind.i64.wrap ((IntKind.i64.wrap (2 * ((w from_.toNat) (c.members.D[(place0 c node).toNat]!.site).toNat))) + (IntKind.i64.wrap (2 * ((w (c.members.D[(place0 c node).toNat]!.site).toNat) masters.toNat))))) + (IntKind.i64.wrap (2 * ((w (c.members.D[(place0 c node).toNat]!.site).toNat) (c.members.D[(IntKind.i64.wrap ((c.members.D.length : Int) - 1)).toNat]!.site).toNat)))))))) ?_
     refine rvc_nil ?_
     refine Awp.consP C ?_
     refine rvP C (.pv (.lit (.int .i64 (IntKind.i64.wrap ((IntKind.i64.wrap ((IntKind.i64.wrap (2 * ((w from_.toNat) (c.members.D[(place0 c node).toNat]!.site).toNat))) + (IntKind.i64.wrap (2 * ((w (c.members.D[(place0 c node).toNat]!.site).toNat) masters.toNat))))) + (IntKind.i64.wrap (2 * ((w (c.members.D[(place0 c node).toNat]!.site).toNat) (c.members.D[(IntKind.i64.wrap ((c.members.D.length : Int) - 1)).toNat]!.site).toNat)))))))) ?_
     refine rvP C (.pv (.lit (.int .i64 (IntKind.i64.wrap ((IntKind.i64.wrap ((IntKind.i64.wrap (2 * ((w from_.toNat) (c.members.D[(place0 c node).toNat]!.site).toNat))) + (IntKind.i64.wrap (2 * ((w (c.members.D[(place0 c node).toNat]!.site).toNat) masters.toNat))))) + (IntKind.i64.wrap (2 * ((w (c.members.D[(place0 c node).toNat]!.site).toNat) (c.members.D[(IntKind.i64.wrap ((c.members.D.length : Int) - 1)).toNat]!.site).toNat)))))))) ?_
     refine rvP C (.pv (.lit (.int .i64 0))) ?_
     refine rvc_nil ?_
     refine Awp.ret ?_
     subst hR
     exact ⟨.inl rfl, rfl⟩
    ·
     replace hR := of_false h5 hR
     refine Awp.skip ?_
     refine Awp.consP C ?_
     refine rvP C (.pv (.lit (.int .i64 (IntKind.i64.wrap ((IntKind.i64.wrap (2 * ((w from_.toNat) (c.members.D[(place0 c node).toNat]!.site).toNat))) + (IntKind.i64.wrap (2 * ((w (c.members.D[(place0 c node).toNat]!.site).toNat) masters.toNat)))))))) ?_
     refine rvP C (.pv (.lit (.int .i64 (IntKind.i64.wrap ((IntKind.i64.wrap (2 * ((w from_.toNat) (c.members.D[(place0 c node).toNat]!.site).toNat))) + (IntKind.i64.wrap (2 * ((w (c.members.D[(place0 c node).toNat]!.site).toNat) masters.toNat)))))))) ?_
     refine rvP C (.pv (.lit (.int .i64 0))) ?_
     refine rvc_nil ?_
     refine Awp.ret ?_
     subst hR
     exact ⟨.inl rfl, rfl⟩
end Go.Proofs.Ytihccnkegkkikaa
