import Derived.Test.YtaffaalpgpepeaaM2
import Derived.Lib.Overlaps
import Derived.Lib.AppendZerosOnto
/- Small functions of layout. No conditions. -/
namespace Go.Proofs.Ytaffaalpgpepeaa
open Go.Am
structure Member where
  node : Int
  site : Int
  fresh : Bool
  deriving Inhabited
def eMember : Enc Member := ⟨3, fun x => [.lit (.int .i64 x.node), .lit (.int .i64 x.site), .lit (.bool x.fresh)], fun _ => rfl⟩
structure Chain where
  epoch : Int
  members : (Sl Member)
  deriving Inhabited
def eChain : Enc Chain := ⟨2, fun x => [.lit (.int .i64 x.epoch), .sl (some x.members.nil) x.members.D.length (encL eMember x.members.D)], fun _ => rfl⟩
def mIn (n : Int) : Bool :=
  (bif (decide (n ≥ 0)) then (decide (n < 64)) else false)
theorem mIn_calls (n : Int)  : PCalls Try.prog 52 [.pv (.lit (.int .i64 n))] (.pv (.lit (.bool (mIn n)))) := by
 generalize hR : mIn n = R
 refine PCalls.of_body tabOk Try.func52 rfl rfl rfl rfl rfl mixed fun E hP C hI => ?_
 refine Awp.consP C ?_
 refine rvP C (.pv (.lit (.bool false))) ?_
 refine rvc_nil ?_
 refine Awp.consP C ?_
 refine rvP C (.pv (.lit (.int .i64 n))) ?_
 refine rvP C (.pv (.lit (.bool (decide (n ≥ 0))))) ?_
 refine rvP C (.pv (.lit (.bool (decide (n ≥ 0))))) ?_
 refine rvc_case 5 (decide (n ≥ 0)) rfl (fun h1 => ?_) (fun h1 => ?_)
 ·
  replace hR := of_true h1 hR
  refine rvO C (.pv (.lit (.int .i64 n))) ?_
  refine rvO C (.pv (.lit (.bool (decide (n < 64))))) ?_
  refine rvP C (.pv (.lit (.bool (decide (n < 64))))) ?_
  refine rvP C (.pv (.lit (.bool (decide (n < 64))))) ?_
  refine rvc_nil ?_
  refine Awp.ret ?_
  subst hR
  exact ⟨.inl rfl, rfl⟩
 ·
  replace hR := of_false h1 hR
  refine rvS ?_
  refine rvS ?_
  refine rvP C (.pv (.lit (.bool false))) ?_
  refine rvP C (.pv (.lit (.bool false))) ?_
  refine rvc_nil ?_
  refine Awp.ret ?_
  subst hR
  exact ⟨.inl rfl, rfl⟩
def mHas (s : Int) (n : Int) : Bool :=
  (bif (mIn n) then ((bitI .and .u64 (shrI .u64 s n) 1) == 1) else false)
theorem mHas_calls (s : Int) (n : Int)  : PCalls Try.prog 24 [.pv (.lit (.int .u64 s)), .pv (.lit (.int .i64 n))] (.pv (.lit (.bool (mHas s n)))) := by
 generalize hR : mHas s n = R
 refine PCalls.of_body tabOk Try.func24 rfl rfl rfl rfl rfl mixed fun E hP C hI => ?_
 refine Awp.consP C ?_
 refine rvP C (.pv (.lit (.bool false))) ?_
 refine rvc_nil ?_
 refine Awp.consP C ?_
 refine rvP C (.pv (.lit (.int .i64 n))) ?_
 refine rvc_un (rexec_call hP C rfl rfl rfl (mIn_calls n) ?_)
 refine rvP C (.pv (.lit (.bool (mIn n)))) ?_
 refine rvc_case 7 (mIn n) rfl (fun h1 => ?_) (fun h1 => ?_)
 ·
  replace hR := of_true h1 hR
  refine rvO C (.pv (.lit (.int .u64 s))) ?_
  refine rvO C (.pv (.lit (.int .i64 n))) ?_
  refine rvc_open rfl rfl rfl (rexec_prim C (δ := { v := .pv (.lit (.int .u64 (shrI .u64 s n))) }) rfl rfl rfl rfl (by simp [mIn] at h1; omega) rfl ?_)
  refine rvO C (.pv (.lit (.int .u64 (bitI .and .u64 (shrI .u64 s n) 1)))) ?_
  refine rvO C (.pv (.lit (.bool ((bitI .and .u64 (shrI .u64 s n) 1) == 1)))) ?_
  refine rvP C (.pv (.lit (.bool ((bitI .and .u64 (shrI .u64 s n) 1) == 1)))) ?_
  refine rvP C (.pv (.lit (.bool ((bitI .and .u64 (shrI .u64 s n) 1) == 1)))) ?_
  refine rvc_nil ?_
  refine Awp.ret ?_
  subst hR
  exact ⟨.inl rfl, rfl⟩
 ·
  replace hR := of_false h1 hR
  refine rvS ?_
  refine rvS ?_
  refine rvS ?_
  refine rvS ?_
  refine rvS ?_
  refine rvP C (.pv (.lit (.bool false))) ?_
  refine rvP C (.pv (.lit (.bool false))) ?_
  refine rvc_nil ?_
  refine Awp.ret ?_
  subst hR
  exact ⟨.inl rfl, rfl⟩
def mWith (s : Int) (n : Int) : Int :=
  (bif (!(mIn n)) then s else (bitI .or .u64 s (shlI .u64 1 n)))
theorem mWith_calls (s : Int) (n : Int)  : PCalls Try.prog 50 [.pv (.lit (.int .u64 s)), .pv (.lit (.int .i64 n))] (.pv (.lit (.int .u64 (mWith s n)))) := by
 generalize hR : mWith s n = R
 refine PCalls.of_body tabOk Try.func50 rfl rfl rfl rfl rfl mixed fun E hP C hI => ?_
 refine Awp.consP C ?_
 refine rvP C (.pv (.lit (.int .u64 0))) ?_
 refine rvc_nil ?_
 refine Awp.seq ?_
 refine Awp.consP C ?_
 refine rvP C (.pv (.lit (.int .i64 n))) ?_
 refine rvc_un (rexec_call hP C rfl rfl rfl (mIn_calls n) ?_)
 refine rvP C (.pv (.lit (.bool (!(mIn n))))) ?_
 refine rvc_nil ?_
 refine Awp.cond (b := (!(mIn n))) rfl (fun h1 => ?_) (fun h1 => ?_)
 ·
  replace hR := of_true h1 hR
  refine Awp.consP C ?_
  refine rvP C (.pv (.lit (.int .u64 s))) ?_
  refine rvP C (.pv (.lit (.int .u64 s))) ?_
  refine rvc_nil ?_
  refine Awp.ret ?_
  subst hR
  exact ⟨.inl rfl, rfl⟩
 ·
  replace hR := of_false h1 hR
  refine Awp.skip ?_
  refine Awp.consP C ?_
  refine rvP C (.pv (.lit (.int .u64 s))) ?_
  refine rvP C (.pv (.lit (.int .i64 n))) ?_
  refine rvc_un (rexec_prim C (δ := { v := .pv (.lit (.int .u64 (shlI .u64 1 n))) }) rfl rfl rfl rfl (by simp [mIn] at h1; omega) rfl ?_)
  refine rvP C (.pv (.lit (.int .u64 (bitI .or .u64 s (shlI .u64 1 n))))) ?_
  refine rvP C (.pv (.lit (.int .u64 (bitI .or .u64 s (shlI .u64 1 n))))) ?_
  refine rvc_nil ?_
  refine Awp.ret ?_
  subst hR
  exact ⟨.inl rfl, rfl⟩
def mLen (s : Int) : Int :=
  (IntKind.i64.wrap (shrI .u64 (IntKind.u64.wrap ((bitI .and .u64 (IntKind.u64.wrap ((IntKind.u64.wrap ((bitI .and .u64 (IntKind.u64.wrap (s - (bitI .and .u64 (shrI .u64 s 1) 6148914691236517205))) 3689348814741910323) + (bitI .and .u64 (shrI .u64 (IntKind.u64.wrap (s - (bitI .and .u64 (shrI .u64 s 1) 6148914691236517205))) 2) 3689348814741910323))) + (shrI .u64 (IntKind.u64.wrap ((bitI .and .u64 (IntKind.u64.wrap (s - (bitI .and .u64 (shrI .u64 s 1) 6148914691236517205))) 3689348814741910323) + (bitI .and .u64 (shrI .u64 (IntKind.u64.wrap (s - (bitI .and .u64 (shrI .u64 s 1) 6148914691236517205))) 2) 3689348814741910323))) 4))) 1085102592571150095) * 72340172838076673)) 56))
theorem mLen_calls (s : Int)  : PCalls Try.prog 26 [.pv (.lit (.int .u64 s))] (.pv (.lit (.int .i64 (mLen s)))) := by
 generalize hR : mLen s = R
 refine PCalls.of_body tabOk Try.func26 rfl rfl rfl rfl rfl mixed fun E hP C hI => ?_
 refine Awp.consP C ?_
 refine rvP C (.pv (.lit (.int .i64 0))) ?_
 refine rvc_nil ?_
 refine Awp.consP C ?_
 refine rvP C (.pv (.lit (.int .u64 s))) ?_
 refine rvP C (.pv (.lit (.int .u64 s))) ?_
 refine rvc_nil ?_
 refine Awp.consP C ?_
 refine rvP C (.pv (.lit (.int .u64 s))) ?_
 refine rvP C (.pv (.lit (.int .u64 s))) ?_
 refine rvc_un (rexec_prim C (δ := { v := .pv (.lit (.int .u64 (shrI .u64 s 1))) }) rfl rfl rfl rfl (by first | decide | assumption | omega) rfl ?_)
 refine rvP C (.pv (.lit (.int .u64 (bitI .and .u64 (shrI .u64 s 1) 6148914691236517205)))) ?_
 refine rvP C (.pv (.lit (.int .u64 (IntKind.u64.wrap (s - (bitI .and .u64 (shrI .u64 s 1) 6148914691236517205)))))) ?_
 refine rvP C (.pv (.lit (.int .u64 (IntKind.u64.wrap (s - (bitI .and .u64 (shrI .u64 s 1) 6148914691236517205)))))) ?_
 refine rvc_nil ?_
 refine Awp.consP C ?_
 refine rvP C (.pv (.lit (.int .u64 (IntKind.u64.wrap (s - (bitI .and .u64 (shrI .u64 s 1) 6148914691236517205)))))) ?_
 refine rvP C (.pv (.lit (.int .u64 (bitI .and .u64 (IntKind.u64.wrap (s - (bitI .and .u64 (shrI .u64 s 1) 6148914691236517205))) 3689348814741910323)))) ?_
 refine rvP C (.pv (.lit (.int .u64 (IntKind.u64.wrap (s - (bitI .and .u64 (shrI .u64 s 1) 6148914691236517205)))))) ?_
 refine rvc_un (rexec_prim C (δ := { v := .pv (.lit (.int .u64 (shrI .u64 (IntKind.u64.wrap (s - (bitI .and .u64 (shrI .u64 s 1) 6148914691236517205))) 2))) }) rfl rfl rfl rfl (by first | decide | assumption | omega) rfl ?_)
 refine rvP C (.pv (.lit (.int .u64 (bitI .and .u64 (shrI .u64 (IntKind.u64.wrap (s - (bitI .and .u64 (shrI .u64 s 1) 6148914691236517205))) 2) 3689348814741910323)))) ?_
 refine rvP C (.pv (.lit (.int .u64 (IntKind.u64.wrap ((bitI .and .u64 (IntKind.u64.wrap (s - (bitI .and .u64 (shrI .u64 s 1) 6148914691236517205))) 3689348814741910323) + (bitI .and .u64 (shrI .u64 (IntKind.u64.wrap (s - (bitI .and .u64 (shrI .u64 s 1) 6148914691236517205))) 2) 3689348814741910323)))))) ?_
 refine rvP C (.pv (.lit (.int .u64 (IntKind.u64.wrap ((bitI .and .u64 (IntKind.u64.wrap (s - (bitI .and .u64 (shrI .u64 s 1) 6148914691236517205))) 3689348814741910323) + (bitI .and .u64 (shrI .u64 (IntKind.u64.wrap (s - (bitI .and .u64 (shrI .u64 s 1) 6148914691236517205))) 2) 3689348814741910323)))))) ?_
 refine rvc_nil ?_
 refine Awp.consP C ?_
 refine rvP C (.pv (.lit (.int .u64 (IntKind.u64.wrap ((bitI .and .u64 (IntKind.u64.wrap (s - (bitI .and .u64 (shrI .u64 s 1) 6148914691236517205))) 3689348814741910323) + (bitI .and .u64 (shrI .u64 (IntKind.u64.wrap (s - (bitI .and .u64 (shrI .u64 s 1) 6148914691236517205))) 2) 3689348814741910323)))))) ?_
 refine rvP C (.pv (.lit (.int .u64 (IntKind.u64.wrap ((bitI .and .u64 (IntKind.u64.wrap (s - (bitI .and .u64 (shrI .u64 s 1) 6148914691236517205))) 3689348814741910323) + (bitI .and .u64 (shrI .u64 (IntKind.u64.wrap (s - (bitI .and .u64 (shrI .u64 s 1) 6148914691236517205))) 2) 3689348814741910323)))))) ?_
 refine rvc_un (rexec_prim C (δ := { v := .pv (.lit (.int .u64 (shrI .u64 (IntKind.u64.wrap ((bitI .and .u64 (IntKind.u64.wrap (s - (bitI .and .u64 (shrI .u64 s 1) 6148914691236517205))) 3689348814741910323) + (bitI .and .u64 (shrI .u64 (IntKind.u64.wrap (s - (bitI .and .u64 (shrI .u64 s 1) 6148914691236517205))) 2) 3689348814741910323))) 4))) }) rfl rfl rfl rfl (by first | decide | assumption | omega) rfl ?_)
 refine rvP C (.pv (.lit (.int .u64 (IntKind.u64.wrap ((IntKind.u64.wrap ((bitI .and .u64 (IntKind.u64.wrap (s - (bitI .and .u64 (shrI .u64 s 1) 6148914691236517205))) 3689348814741910323) + (bitI .and .u64 (shrI .u64 (IntKind.u64.wrap (s - (bitI .and .u64 (shrI .u64 s 1) 6148914691236517205))) 2) 3689348814741910323))) + (shrI .u64 (IntKind.u64.wrap ((bitI .and .u64 (IntKind.u64.wrap (s - (bitI .and .u64 (shrI .u64 s 1) 6148914691236517205))) 3689348814741910323) + (bitI .and .u64 (shrI .u64 (IntKind.u64.wrap (s - (bitI .and .u64 (shrI .u64 s 1) 6148914691236517205))) 2) 3689348814741910323))) 4)))))) ?_
 refine rvP C (.pv (.lit (.int .u64 (bitI .and .u64 (IntKind.u64.wrap ((IntKind.u64.wrap ((bitI .and .u64 (IntKind.u64.wrap (s - (bitI .and .u64 (shrI .u64 s 1) 6148914691236517205))) 3689348814741910323) + (bitI .and .u64 (shrI .u64 (IntKind.u64.wrap (s - (bitI .and .u64 (shrI .u64 s 1) 6148914691236517205))) 2) 3689348814741910323))) + (shrI .u64 (IntKind.u64.wrap ((bitI .and .u64 (IntKind.u64.wrap (s - (bitI .and .u64 (shrI .u64 s 1) 6148914691236517205))) 3689348814741910323) + (bitI .and .u64 (shrI .u64 (IntKind.u64.wrap (s - (bitI .and .u64 (shrI .u64 s 1) 6148914691236517205))) 2) 3689348814741910323))) 4))) 1085102592571150095)))) ?_
 refine rvP C (.pv (.lit (.int .u64 (bitI .and .u64 (IntKind.u64.wrap ((IntKind.u64.wrap ((bitI .and .u64 (IntKind.u64.wrap (s - (bitI .and .u64 (shrI .u64 s 1) 6148914691236517205))) 3689348814741910323) + (bitI .and .u64 (shrI .u64 (IntKind.u64.wrap (s - (bitI .and .u64 (shrI .u64 s 1) 6148914691236517205))) 2) 3689348814741910323))) + (shrI .u64 (IntKind.u64.wrap ((bitI .and .u64 (IntKind.u64.wrap (s - (bitI .and .u64 (shrI .u64 s 1) 6148914691236517205))) 3689348814741910323) + (bitI .and .u64 (shrI .u64 (IntKind.u64.wrap (s - (bitI .and .u64 (shrI .u64 s 1) 6148914691236517205))) 2) 3689348814741910323))) 4))) 1085102592571150095)))) ?_
 refine rvc_nil ?_
 refine Awp.consP C ?_
 refine rvP C (.pv (.lit (.int .u64 (bitI .and .u64 (IntKind.u64.wrap ((IntKind.u64.wrap ((bitI .and .u64 (IntKind.u64.wrap (s - (bitI .and .u64 (shrI .u64 s 1) 6148914691236517205))) 3689348814741910323) + (bitI .and .u64 (shrI .u64 (IntKind.u64.wrap (s - (bitI .and .u64 (shrI .u64 s 1) 6148914691236517205))) 2) 3689348814741910323))) + (shrI .u64 (IntKind.u64.wrap ((bitI .and .u64 (IntKind.u64.wrap (s - (bitI .and .u64 (shrI .u64 s 1) 6148914691236517205))) 3689348814741910323) + (bitI .and .u64 (shrI .u64 (IntKind.u64.wrap (s - (bitI .and .u64 (shrI .u64 s 1) 6148914691236517205))) 2) 3689348814741910323))) 4))) 1085102592571150095)))) ?_
 refine rvP C (.pv (.lit (.int .u64 (IntKind.u64.wrap ((bitI .and .u64 (IntKind.u64.wrap ((IntKind.u64.wrap ((bitI .and .u64 (IntKind.u64.wrap (s - (bitI .and .u64 (shrI .u64 s 1) 6148914691236517205))) 3689348814741910323) + (bitI .and .u64 (shrI .u64 (IntKind.u64.wrap (s - (bitI .and .u64 (shrI .u64 s 1) 6148914691236517205))) 2) 3689348814741910323))) + (shrI .u64 (IntKind.u64.wrap ((bitI .and .u64 (IntKind.u64.wrap (s - (bitI .and .u64 (shrI .u64 s 1) 6148914691236517205))) 3689348814741910323) + (bitI .and .u64 (shrI .u64 (IntKind.u64.wrap (s - (bitI .and .u64 (shrI .u64 s 1) 6148914691236517205))) 2) 3689348814741910323))) 4))) 1085102592571150095) * 72340172838076673))))) ?_
 refine rvc_un (rexec_prim C (δ := { v := .pv (.lit (.int .u64 (shrI .u64 (IntKind.u64.wrap ((bitI .and .u64 (IntKind.u64.wrap ((IntKind.u64.wrap ((bitI .and .u64 (IntKind.u64.wrap (s - (bitI .and .u64 (shrI .u64 s 1) 6148914691236517205))) 3689348814741910323) + (bitI .and .u64 (shrI .u64 (IntKind.u64.wrap (s - (bitI .and .u64 (shrI .u64 s 1) 6148914691236517205))) 2) 3689348814741910323))) + (shrI .u64 (IntKind.u64.wrap ((bitI .and .u64 (IntKind.u64.wrap (s - (bitI .and .u64 (shrI .u64 s 1) 6148914691236517205))) 3689348814741910323) + (bitI .and .u64 (shrI .u64 (IntKind.u64.wrap (s - (bitI .and .u64 (shrI .u64 s 1) 6148914691236517205))) 2) 3689348814741910323))) 4))) 1085102592571150095) * 72340172838076673)) 56))) }) rfl rfl rfl rfl (by first | decide | assumption | omega) rfl ?_)
 refine rvP C (.pv (.lit (.int .i64 (IntKind.i64.wrap (shrI .u64 (IntKind.u64.wrap ((bitI .and .u64 (IntKind.u64.wrap ((IntKind.u64.wrap ((bitI .and .u64 (IntKind.u64.wrap (s - (bitI .and .u64 (shrI .u64 s 1) 6148914691236517205))) 3689348814741910323) + (bitI .and .u64 (shrI .u64 (IntKind.u64.wrap (s - (bitI .and .u64 (shrI .u64 s 1) 6148914691236517205))) 2) 3689348814741910323))) + (shrI .u64 (IntKind.u64.wrap ((bitI .and .u64 (IntKind.u64.wrap (s - (bitI .and .u64 (shrI .u64 s 1) 6148914691236517205))) 3689348814741910323) + (bitI .and .u64 (shrI .u64 (IntKind.u64.wrap (s - (bitI .and .u64 (shrI .u64 s 1) 6148914691236517205))) 2) 3689348814741910323))) 4))) 1085102592571150095) * 72340172838076673)) 56))))) ?_
 refine rvP C (.pv (.lit (.int .i64 (IntKind.i64.wrap (shrI .u64 (IntKind.u64.wrap ((bitI .and .u64 (IntKind.u64.wrap ((IntKind.u64.wrap ((bitI .and .u64 (IntKind.u64.wrap (s - (bitI .and .u64 (shrI .u64 s 1) 6148914691236517205))) 3689348814741910323) + (bitI .and .u64 (shrI .u64 (IntKind.u64.wrap (s - (bitI .and .u64 (shrI .u64 s 1) 6148914691236517205))) 2) 3689348814741910323))) + (shrI .u64 (IntKind.u64.wrap ((bitI .and .u64 (IntKind.u64.wrap (s - (bitI .and .u64 (shrI .u64 s 1) 6148914691236517205))) 3689348814741910323) + (bitI .and .u64 (shrI .u64 (IntKind.u64.wrap (s - (bitI .and .u64 (shrI .u64 s 1) 6148914691236517205))) 2) 3689348814741910323))) 4))) 1085102592571150095) * 72340172838076673)) 56))))) ?_
 refine rvc_nil ?_
 refine Awp.ret ?_
 subst hR
 exact ⟨.inl rfl, rfl⟩
def mBut (s : Int) (t : Int) : Int :=
  (bitI .andNot .u64 s t)
theorem mBut_calls (s : Int) (t : Int)  : PCalls Try.prog 73 [.pv (.lit (.int .u64 s)), .pv (.lit (.int .u64 t))] (.pv (.lit (.int .u64 (mBut s t)))) := by
 generalize hR : mBut s t = R
 refine PCalls.of_body tabOk Try.func73 rfl rfl rfl rfl rfl mixed fun E hP C hI => ?_
 refine Awp.consP C ?_
 refine rvP C (.pv (.lit (.int .u64 0))) ?_
 refine rvc_nil ?_
 refine Awp.consP C ?_
 refine rvP C (.pv (.lit (.int .u64 s))) ?_
 refine rvP C (.pv (.lit (.int .u64 t))) ?_
 refine rvP C (.pv (.lit (.int .u64 (bitI .andNot .u64 s t)))) ?_
 refine rvP C (.pv (.lit (.int .u64 (bitI .andNot .u64 s t)))) ?_
 refine rvc_nil ?_
 refine Awp.ret ?_
 subst hR
 exact ⟨.inl rfl, rfl⟩
def member (m : Member) : Bool :=
  (bif (decide (m.node ≥ 0)) then (bif (decide (m.node < 6)) then (bif (decide (m.site ≥ 0)) then (decide (m.site < 3)) else false) else false) else false)
theorem member_calls (m : Member)  : PCalls Try.prog 49 [.agg [.pv (.lit (.int .i64 m.node)), .pv (.lit (.int .i64 m.site)), .pv (.lit (.bool m.fresh))]] (.pv (.lit (.bool (member m)))) := by
 generalize hR : member m = R
 refine PCalls.of_body tabOk Try.func49 rfl rfl rfl rfl rfl mixed fun E hP C hI => ?_
 refine Awp.consP C ?_
 refine rvc_un (rexec_prim C (δ := { v := .ptr 1 0, new := [(1, .cells [.pv (.lit (.int .i64 m.node)), .pv (.lit (.int .i64 m.site)), .pv (.lit (.bool m.fresh))])] }) rfl rfl rfl rfl trivial rfl ?_)
 refine rvP C (.pv (.lit (.bool false))) ?_
 refine rvc_nil ?_
 refine Awp.consP C ?_
 refine rvP C (.ptr 1 0) ?_
 refine rvP C (.pv (.lit (.int .i64 m.node))) ?_
 refine rvP C (.pv (.lit (.bool (decide (m.node ≥ 0))))) ?_
 refine rvP C (.pv (.lit (.bool (decide (m.node ≥ 0))))) ?_
 refine rvc_case 6 (decide (m.node ≥ 0)) rfl (fun h1 => ?_) (fun h1 => ?_)
 ·
  replace hR := of_true h1 hR
  refine rvO C (.ptr 1 0) ?_
  refine rvO C (.pv (.lit (.int .i64 m.node))) ?_
  refine rvO C (.pv (.lit (.bool (decide (m.node < 6))))) ?_
  refine rvP C (.pv (.lit (.bool (decide (m.node < 6))))) ?_
  refine rvP C (.pv (.lit (.bool (decide (m.node < 6))))) ?_
  refine rvc_case 11 (decide (m.node < 6)) rfl (fun h2 => ?_) (fun h2 => ?_)
  ·
   replace hR := of_true h2 hR
   refine rvO C (.ptr 1 1) ?_
   refine rvO C (.pv (.lit (.int .i64 m.site))) ?_
   refine rvO C (.pv (.lit (.bool (decide (m.site ≥ 0))))) ?_
   refine rvP C (.pv (.lit (.bool (decide (m.site ≥ 0))))) ?_
   refine rvP C (.pv (.lit (.bool (decide (m.site ≥ 0))))) ?_
   refine rvc_case 16 (decide (m.site ≥ 0)) rfl (fun h3 => ?_) (fun h3 => ?_)
   ·
    replace hR := of_true h3 hR
    refine rvO C (.ptr 1 1) ?_
    refine rvO C (.pv (.lit (.int .i64 m.site))) ?_
    refine rvO C (.pv (.lit (.bool (decide (m.site < 3))))) ?_
    refine rvP C (.pv (.lit (.bool (decide (m.site < 3))))) ?_
    refine rvP C (.pv (.lit (.bool (decide (m.site < 3))))) ?_
    refine rvc_nil ?_
    refine Awp.ret ?_
    subst hR
    exact ⟨.inl rfl, rfl⟩
   ·
    replace hR := of_false h3 hR
    refine rvS ?_
    refine rvS ?_
    refine rvS ?_
    refine rvP C (.pv (.lit (.bool false))) ?_
    refine rvP C (.pv (.lit (.bool false))) ?_
    refine rvc_nil ?_
    refine Awp.ret ?_
    subst hR
    exact ⟨.inl rfl, rfl⟩
  ·
   replace hR := of_false h2 hR
   refine rvS ?_
   refine rvS ?_
   refine rvS ?_
   refine rvP C (.pv (.lit (.bool false))) ?_
   refine rvP C (.pv (.lit (.bool false))) ?_
   refine rvS ?_
   refine rvS ?_
   refine rvS ?_
   refine rvP C (.pv (.lit (.bool false))) ?_
   refine rvP C (.pv (.lit (.bool false))) ?_
   refine rvc_nil ?_
   refine Awp.ret ?_
   subst hR
   exact ⟨.inl rfl, rfl⟩
 ·
  replace hR := of_false h1 hR
  refine rvS ?_
  refine rvS ?_
  refine rvS ?_
  refine rvP C (.pv (.lit (.bool false))) ?_
  refine rvP C (.pv (.lit (.bool false))) ?_
  refine rvS ?_
  refine rvS ?_
  refine rvS ?_
  refine rvP C (.pv (.lit (.bool false))) ?_
  refine rvP C (.pv (.lit (.bool false))) ?_
  refine rvS ?_
  refine rvS ?_
  refine rvS ?_
  refine rvP C (.pv (.lit (.bool false))) ?_
  refine rvP C (.pv (.lit (.bool false))) ?_
  refine rvc_nil ?_
  refine Awp.ret ?_
  subst hR
  exact ⟨.inl rfl, rfl⟩
def after (c : Chain) (l : (Sl Member)) : Chain :=
  (Chain.mk (IntKind.i64.wrap (c.epoch + 1)) l)
theorem after_calls (c : Chain) (l : (Sl Member))  : PCalls Try.prog 66 [.agg [.pv (.lit (.int .i64 c.epoch)), sS (some c.members.nil) eMember c.members.D], sS (some l.nil) eMember l.D] (.agg [.pv (.lit (.int .i64 ((after c l).epoch))), sS (some (after c l).members.nil) eMember ((after c l).members.D)]) := by
 generalize hR : after c l = R
 refine PCalls.of_body tabOk Try.func66 rfl rfl rfl rfl rfl mixed fun E hP C hI => ?_
 refine Awp.consP C ?_
 refine rvc_un (rexec_prim C (δ := { v := .ptr 2 0, new := [(2, .cells [.pv (.lit (.int .i64 c.epoch)), sS (some c.members.nil) eMember c.members.D])] }) rfl rfl rfl rfl trivial rfl ?_)
 refine rvc_un (rexec_prim C (δ := { v := .ptr 4 0, new := [(4, .cells [.pv (.lit (.int .i64 0)), sS (some true) eMember []])] }) rfl rfl rfl rfl trivial rfl ?_)
 refine rvc_nil ?_
 refine Awp.consP C ?_
 refine rvP C (.ptr 2 0) ?_
 refine rvP C (.pv (.lit (.int .i64 c.epoch))) ?_
 refine rvP C (.pv (.lit (.int .i64 (IntKind.i64.wrap (c.epoch + 1))))) ?_
 refine rvP C (sS (some l.nil) eMember l.D) ?_
 refine rvP C (.agg [.pv (.lit (.int .i64 (IntKind.i64.wrap (c.epoch + 1)))), sS (some l.nil) eMember l.D]) ?_
 refine rvc_un (rexec_prim C (δ := { v := .undef, wr := [(4, some (.cells [.pv (.lit (.int .i64 (IntKind.i64.wrap (c.epoch + 1)))), sS (some l.nil) eMember l.D]))] }) rfl rfl rfl rfl trivial rfl ?_)
 refine rvc_nil ?_
 refine Awp.ret ?_
 subst hR
 exact ⟨.inl rfl, rfl⟩
def check_l0 : List Member → Nat → Int → Int → Int
  | [], _, _, _ => 0
  | x :: xs, i, seen, site => (bif (!(member x)) then 80 else (bif (mHas seen x.node) then 80 else (bif (decide (x.site < site)) then 80 else check_l0 xs (i + 1) (mWith seen x.node) x.site)))
def check (c : Chain) : Int :=
  (bif (decide (c.epoch < 1)) then 80 else (bif (decide (c.epoch > 1099511627776)) then 80 else (bif ((c.members.D.length : Int) == 0) then 80 else (bif c.members.D[0]!.fresh then 80 else check_l0 c.members.D 0 0 0))))
theorem check_calls (c : Chain) (hl1 : c.members.D.length ≤ 9223372036854775807) : PCalls Try.prog 18 [.agg [.pv (.lit (.int .i64 c.epoch)), sS (some c.members.nil) eMember c.members.D]] (.pv (.lit (.int .i64 (check c)))) := by
 generalize hR : check c = R
 refine PCalls.of_body tabOk Try.func18 rfl rfl rfl rfl rfl mixed fun E hP C hI => ?_
 refine Awp.consP C ?_
 refine rvc_un (rexec_prim C (δ := { v := .ptr 1 0, new := [(1, .cells [.pv (.lit (.int .i64 c.epoch)), sS (some c.members.nil) eMember c.members.D])] }) rfl rfl rfl rfl trivial rfl ?_)
 refine rvP C (.pv (.lit (.int .i64 0))) ?_
 refine rvc_nil ?_
 refine Awp.seq ?_
 refine Awp.consP C ?_
 refine rvP C (.ptr 1 0) ?_
 refine rvP C (.pv (.lit (.int .i64 c.epoch))) ?_
 refine rvP C (.pv (.lit (.bool (decide (c.epoch < 1))))) ?_
 refine rvP C (.pv (.lit (.bool (decide (c.epoch < 1))))) ?_
 refine rvc_case 10 (decide (c.epoch < 1)) rfl (fun h1 => ?_) (fun h1 => ?_)
 ·
  replace hR := of_true h1 hR
  refine rvS ?_
  refine rvS ?_
  refine rvS ?_
  refine rvP C (.pv (.lit (.bool true))) ?_
  refine rvP C (.pv (.lit (.bool true))) ?_
  refine rvS ?_
  refine rvS ?_
  refine rvS ?_
  refine rvS ?_
  refine rvP C (.pv (.lit (.bool true))) ?_
  refine rvP C (.pv (.lit (.bool true))) ?_
  refine rvS ?_
  refine rvS ?_
  refine rvS ?_
  refine rvS ?_
  refine rvS ?_
  refine rvP C (.pv (.lit (.bool true))) ?_
  refine rvc_nil ?_
  refine Awp.condT (b := true) rfl rfl ?_
  refine Awp.consP C ?_
  refine rvP C (.pv (.lit (.int .i64 80))) ?_
  refine rvc_nil ?_
  refine Awp.ret ?_
  subst hR
  exact ⟨.inl rfl, rfl⟩
 ·
  replace hR := of_false h1 hR
  refine rvO C (.ptr 1 0) ?_
  refine rvO C (.pv (.lit (.int .i64 c.epoch))) ?_
  refine rvO C (.pv (.lit (.bool (decide (c.epoch > 1099511627776))))) ?_
  refine rvP C (.pv (.lit (.bool (decide (c.epoch > 1099511627776))))) ?_
  refine rvP C (.pv (.lit (.bool (decide (c.epoch > 1099511627776))))) ?_
  refine rvc_case 15 (decide (c.epoch > 1099511627776)) rfl (fun h2 => ?_) (fun h2 => ?_)
  ·
   replace hR := of_true h2 hR
   refine rvS ?_
   refine rvS ?_
   refine rvS ?_
   refine rvS ?_
   refine rvP C (.pv (.lit (.bool true))) ?_
   refine rvP C (.pv (.lit (.bool true))) ?_
   refine rvS ?_
   refine rvS ?_
   refine rvS ?_
   refine rvS ?_
   refine rvS ?_
   refine rvP C (.pv (.lit (.bool true))) ?_
   refine rvc_nil ?_
   refine Awp.condT (b := true) rfl rfl ?_
   refine Awp.consP C ?_
   refine rvP C (.pv (.lit (.int .i64 80))) ?_
   refine rvc_nil ?_
   refine Awp.ret ?_
   subst hR
   exact ⟨.inl rfl, rfl⟩
  ·
   replace hR := of_false h2 hR
   refine rvO C (.ptr 1 1) ?_
   refine rvO C (sS (some c.members.nil) eMember c.members.D) ?_
   refine rvO C (.pv (.lit (.int .i64 (c.members.D.length : Int)))) ?_
   refine rvO C (.pv (.lit (.bool ((c.members.D.length : Int) == 0)))) ?_
   refine rvP C (.pv (.lit (.bool ((c.members.D.length : Int) == 0)))) ?_
   refine rvP C (.pv (.lit (.bool ((c.members.D.length : Int) == 0)))) ?_
   refine rvc_case 21 ((c.members.D.length : Int) == 0) rfl (fun h3 => ?_) (fun h3 => ?_)
   ·
    replace hR := of_true h3 hR
    refine rvS ?_
    refine rvS ?_
    refine rvS ?_
    refine rvS ?_
    refine rvS ?_
    refine rvP C (.pv (.lit (.bool true))) ?_
    refine rvc_nil ?_
    refine Awp.condT (b := true) rfl rfl ?_
    refine Awp.consP C ?_
    refine rvP C (.pv (.lit (.int .i64 80))) ?_
    refine rvc_nil ?_
    refine Awp.ret ?_
    subst hR
    exact ⟨.inl rfl, rfl⟩
   ·
    replace hR := of_false h3 hR
    refine rvO C (.ptr 1 1) ?_
    refine rvO C (sS (some c.members.nil) eMember c.members.D) ?_
    have h4 : c.members.D[0]? = some c.members.D[0]! := getE (by have := of_decide_eq_false h1; have := of_decide_eq_false h2; have := ne_of_beq_false h3; omega)
    refine rvc_open rfl rfl rfl (rexec_idxS C rfl rfl rfl rfl rfl rfl (c.members.D[0]!) (Int.natCast_nonneg _) h4 ?_)
    refine rvO C (.rp [.lit (.bool (c.members.D[0]!.fresh))]) ?_
    refine rvO C (.pv (.lit (.bool (c.members.D[0]!.fresh)))) ?_
    refine rvP C (.pv (.lit (.bool (c.members.D[0]!.fresh)))) ?_
    refine rvc_nil ?_
    refine Awp.cond (b := c.members.D[0]!.fresh) rfl (fun h5 => ?_) (fun h5 => ?_)
    ·
     replace hR := of_true h5 hR
     refine Awp.consP C ?_
     refine rvP C (.pv (.lit (.int .i64 80))) ?_
     refine rvc_nil ?_
     refine Awp.ret ?_
     subst hR
     exact ⟨.inl rfl, rfl⟩
    ·
     replace hR := of_false h5 hR
     refine Awp.skip ?_
     refine Awp.consP C ?_
     refine rvP C (.pv (.lit (.int .u64 0))) ?_
     refine rvc_nil ?_
     refine Awp.consP C ?_
     refine rvP C (.pv (.lit (.int .i64 0))) ?_
     refine rvc_nil ?_
     refine Awp.seq ?_
     refine Awp.consP C ?_
     refine rvP C (.ptr 1 1) ?_
     refine rvP C (sS (some c.members.nil) eMember c.members.D) ?_
     refine rvP C (.pv (.lit (.int .i64 (c.members.D.length : Int)))) ?_
     refine rvP C (.pv (.lit (.int .i64 0))) ?_
     refine rvc_nil ?_
     refine Awp.block ?_
     refine Awp.forR (σ := Int × Int) (c.members.D.length) (fun i v => [(3, .pv (.lit (.int .u64 v.1))), (4, .pv (.lit (.int .i64 v.2))), (29, sS (some c.members.nil) eMember c.members.D), (30, .pv (.lit (.int .i64 (c.members.D.length : Int)))), (31, .pv (.lit (.int .i64 (i : Int))))]) (fun i v => []) [] (fun i v => check_l0 (c.members.D.drop i) i v.1 v.2 = R) (0, 0) ?_ ?_ (fun i v h6 hR => ?_)
     · exact hR
     · exact ⟨fun b => b, WeakerR.ofL (Ks := []) hI ⟨⟨rfl, rfl⟩, ⟨rfl, rfl⟩, ⟨rfl, rfl⟩, ⟨rfl, rfl⟩, ⟨rfl, rfl⟩, trivial⟩ (okH_nil) rfl⟩
     obtain ⟨seen, site⟩ := v
     refine Awp.consP C ?_
     refine rvP C (.pv (.lit (.bool (decide ((i : Int) < (c.members.D.length : Int)))))) ?_
     refine rvc_nil ?_
     refine Awp.seq ?_
     refine Awp.cond (b := (decide ((i : Int) < (c.members.D.length : Int)))) rfl (fun h7 => ?_) (fun h7 => ?_)
     ·
      have h8 : i < c.members.D.length := by have := of_decide_eq_true h7; omega
      obtain ⟨x, h9⟩ := getX h8
      rw [drop_at h9] at hR
      refine Awp.skip ?_
      refine Awp.seq ?_
      refine Awp.block ?_
      refine Awp.consP C ?_
      refine rvc_un (rexec_idxS C rfl rfl rfl rfl rfl rfl x (Int.natCast_nonneg _) h9 ?_)
      refine rvP C (.agg [.pv (.lit (.int .i64 x.node)), .pv (.lit (.int .i64 x.site)), .pv (.lit (.bool x.fresh))]) ?_
      refine rvc_un (rexec_prim C (δ := { v := .ptr 6 0, new := [(6, .cells [.pv (.lit (.int .i64 0)), .pv (.lit (.int .i64 0)), .pv (.lit (.bool false))])] }) rfl rfl rfl rfl trivial rfl ?_)
      refine rvc_un (rexec_prim C (δ := { v := .undef, wr := [(6, some (.cells [.pv (.lit (.int .i64 x.node)), .pv (.lit (.int .i64 x.site)), .pv (.lit (.bool x.fresh))]))] }) rfl rfl rfl rfl trivial rfl ?_)
      refine rvc_nil ?_
      refine Awp.seq ?_
      refine Awp.consP C ?_
      refine rvP C (.agg [.pv (.lit (.int .i64 x.node)), .pv (.lit (.int .i64 x.site)), .pv (.lit (.bool x.fresh))]) ?_
      refine rvc_un (rexec_call hP C rfl rfl rfl (member_calls x) ?_)
      refine rvP C (.pv (.lit (.bool (!(member x))))) ?_
      refine rvP C (.pv (.lit (.bool (!(member x))))) ?_
      refine rvc_case 38 (!(member x)) rfl (fun h10 => ?_) (fun h10 => ?_)
      ·
       replace hR := of_true h10 hR
       refine rvS ?_
       refine rvS ?_
       refine rvS ?_
       refine rvS ?_
       refine rvP C (.pv (.lit (.bool true))) ?_
       refine rvP C (.pv (.lit (.bool true))) ?_
       refine rvS ?_
       refine rvS ?_
       refine rvS ?_
       refine rvS ?_
       refine rvP C (.pv (.lit (.bool true))) ?_
       refine rvc_nil ?_
       refine Awp.condT (b := true) rfl rfl ?_
       refine Awp.consP C ?_
       refine rvP C (.pv (.lit (.int .i64 80))) ?_
       refine rvc_nil ?_
       refine Awp.ret ?_
       subst hR
       exact ⟨.inl rfl, rfl⟩
      ·
       replace hR := of_false h10 hR
       refine rvO C (.pv (.lit (.int .u64 seen))) ?_
       refine rvO C (.ptr 6 0) ?_
       refine rvO C (.pv (.lit (.int .i64 x.node))) ?_
       refine rvc_open rfl rfl rfl (rexec_call hP C rfl rfl rfl (mHas_calls seen x.node) ?_)
       refine rvP C (.pv (.lit (.bool (mHas seen x.node)))) ?_
       refine rvP C (.pv (.lit (.bool (mHas seen x.node)))) ?_
       refine rvc_case 44 (mHas seen x.node) rfl (fun h11 => ?_) (fun h11 => ?_)
       ·
        replace hR := of_true h11 hR
        refine rvS ?_
        refine rvS ?_
        refine rvS ?_
        refine rvS ?_
        refine rvP C (.pv (.lit (.bool true))) ?_
        refine rvc_nil ?_
        refine Awp.condT (b := true) rfl rfl ?_
        refine Awp.consP C ?_
        refine rvP C (.pv (.lit (.int .i64 80))) ?_
        refine rvc_nil ?_
        refine Awp.ret ?_
        subst hR
        exact ⟨.inl rfl, rfl⟩
       ·
        replace hR := of_false h11 hR
        refine rvO C (.ptr 6 1) ?_
        refine rvO C (.pv (.lit (.int .i64 x.site))) ?_
        refine rvO C (.pv (.lit (.int .i64 site))) ?_
        refine rvO C (.pv (.lit (.bool (decide (x.site < site))))) ?_
        refine rvP C (.pv (.lit (.bool (decide (x.site < site))))) ?_
        refine rvc_nil ?_
        refine Awp.cond (b := (decide (x.site < site))) rfl (fun h12 => ?_) (fun h12 => ?_)
        ·
         replace hR := of_true h12 hR
         refine Awp.consP C ?_
         refine rvP C (.pv (.lit (.int .i64 80))) ?_
         refine rvc_nil ?_
         refine Awp.ret ?_
         subst hR
         exact ⟨.inl rfl, rfl⟩
        ·
         replace hR := of_false h12 hR
         refine Awp.skip ?_
         refine Awp.regionP C ?_
         refine rvP C (.pv (.lit (.int .u64 seen))) ?_
         refine rvP C (.ptr 6 0) ?_
         refine rvP C (.pv (.lit (.int .i64 x.node))) ?_
         refine rvc_un (rexec_call hP C rfl rfl rfl (mWith_calls seen x.node) ?_)
         refine rvP C (.ptr 6 1) ?_
         refine rvP C (.pv (.lit (.int .i64 x.site))) ?_
         refine rvP C (.pv (.lit (.int .u64 (mWith seen x.node)))) ?_
         refine rvP C (.pv (.lit (.int .i64 x.site))) ?_
         refine rvc_nil ?_
         refine Awp.regionP C ?_
         refine rvP C (.pv (.lit (.int .i64 (IntKind.i64.wrap ((i : Int) + 1))))) ?_
         refine rvP C (.pv (.lit (.int .i64 (IntKind.i64.wrap ((i : Int) + 1))))) ?_
         refine rvc_nil ?_
         refine ⟨h8, ((mWith seen x.node), x.site), ?_, ?_⟩
         · exact hR
         · exact ⟨fun b => b, WeakerR.ofL (Ks := []) hI ⟨⟨rfl, rfl⟩, ⟨rfl, rfl⟩, ⟨rfl, rfl⟩, ⟨rfl, rfl⟩, ⟨lit_cast (wrap_i64 (by omega) (by omega)), rfl⟩, trivial⟩ (okH_nil) rfl⟩
     ·
      have h8 : ¬ i < c.members.D.length := by have := of_decide_eq_false h7; omega
      rw [drop_end h8] at hR
      refine Awp.exit ?_
      refine Awp.consP C ?_
      refine rvP C (.pv (.lit (.int .i64 0))) ?_
      refine rvc_nil ?_
      refine Awp.ret ?_
      subst hR
      exact ⟨.inl rfl, rfl⟩
def eqMembers_l0 (s2 : (Sl Member)) : List Member → Nat → Bool
  | [], _ => true
  | x :: xs, i => (bif (!((x.node == (s2.D[(i : Int).toNat]!.node)) && ((x.site == (s2.D[(i : Int).toNat]!.site)) && ((x.fresh == (s2.D[(i : Int).toNat]!.fresh)) && true)))) then false else eqMembers_l0 s2 xs (i + 1) )
def eqMembers (s1 : (Sl Member)) (s2 : (Sl Member)) : Bool :=
  (bif ((s1.D.length : Int) != (s2.D.length : Int)) then false else eqMembers_l0 s2 s1.D 0 )
theorem eqMembers_calls (s1 : (Sl Member)) (s2 : (Sl Member)) (hl1 : s1.D.length ≤ 9223372036854775807) : PCalls Try.prog 48 [sS (some s1.nil) eMember s1.D, sS (some s2.nil) eMember s2.D] (.pv (.lit (.bool (eqMembers s1 s2)))) := by
 generalize hR : eqMembers s1 s2 = R
 refine PCalls.of_body tabOk Try.func48 rfl rfl rfl rfl rfl mixed fun E hP C hI => ?_
 refine Awp.consP C ?_
 refine rvP C (.pv (.lit (.bool false))) ?_
 refine rvc_nil ?_
 refine Awp.seq ?_
 refine Awp.consP C ?_
 refine rvP C (sS (some s1.nil) eMember s1.D) ?_
 refine rvP C (.pv (.lit (.int .i64 (s1.D.length : Int)))) ?_
 refine rvP C (sS (some s2.nil) eMember s2.D) ?_
 refine rvP C (.pv (.lit (.int .i64 (s2.D.length : Int)))) ?_
 refine rvP C (.pv (.lit (.bool ((s1.D.length : Int) != (s2.D.length : Int))))) ?_
 refine rvc_nil ?_
 refine Awp.cond (b := ((s1.D.length : Int) != (s2.D.length : Int))) rfl (fun h1 => ?_) (fun h1 => ?_)
 ·
  replace hR := of_true h1 hR
  refine Awp.consP C ?_
  refine rvP C (.pv (.lit (.bool false))) ?_
  refine rvc_nil ?_
  refine Awp.ret ?_
  subst hR
  exact ⟨.inl rfl, rfl⟩
 ·
  replace hR := of_false h1 hR
  refine Awp.skip ?_
  refine Awp.seq ?_
  refine Awp.consP C ?_
  refine rvP C (sS (some s1.nil) eMember s1.D) ?_
  refine rvP C (.pv (.lit (.int .i64 (s1.D.length : Int)))) ?_
  refine rvP C (.pv (.lit (.int .i64 0))) ?_
  refine rvc_nil ?_
  refine Awp.block ?_
  refine Awp.forR (σ := Unit) (s1.D.length) (fun i _v => [(0, sS (some s1.nil) eMember s1.D), (1, sS (some s2.nil) eMember s2.D), (12, .pv (.lit (.int .i64 (s1.D.length : Int)))), (13, .pv (.lit (.int .i64 (i : Int))))]) (fun i _v => []) [] (fun i _v => eqMembers_l0 s2 (s1.D.drop i) i  = R) () ?_ ?_ (fun i _v h2 hR => ?_)
  · exact hR
  · exact ⟨fun b => b, WeakerR.ofL (Ks := []) hI ⟨⟨rfl, rfl⟩, ⟨rfl, rfl⟩, ⟨rfl, rfl⟩, ⟨rfl, rfl⟩, trivial⟩ (okH_nil) rfl⟩
  refine Awp.consP C ?_
  refine rvP C (.pv (.lit (.bool (decide ((i : Int) < (s1.D.length : Int)))))) ?_
  refine rvc_nil ?_
  refine Awp.seq ?_
  refine Awp.cond (b := (decide ((i : Int) < (s1.D.length : Int)))) rfl (fun h3 => ?_) (fun h3 => ?_)
  ·
   have h4 : i < s1.D.length := by have := of_decide_eq_true h3; omega
   obtain ⟨x, h5⟩ := getX h4
   rw [drop_at h5] at hR
   refine Awp.skip ?_
   refine Awp.seq ?_
   refine Awp.block ?_
   refine Awp.consP C ?_
   refine rvP C (.pv (.lit (.int .i64 (i : Int)))) ?_
   refine rvP C (.pv (.lit (.int .i64 (i : Int)))) ?_
   refine rvc_nil ?_
   refine Awp.consP C ?_
   refine rvP C (sS (some s1.nil) eMember s1.D) ?_
   refine rvP C (.pv (.lit (.int .i64 (i : Int)))) ?_
   refine rvc_un (rexec_idxS C rfl rfl rfl rfl rfl rfl x (Int.natCast_nonneg _) h5 ?_)
   refine rvP C (.agg [.pv (.lit (.int .i64 x.node)), .pv (.lit (.int .i64 x.site)), .pv (.lit (.bool x.fresh))]) ?_
   refine rvP C (sS (some s2.nil) eMember s2.D) ?_
   refine rvP C (.pv (.lit (.int .i64 (i : Int)))) ?_
   have h6 : s2.D[(i : Int).toNat]? = some s2.D[(i : Int).toNat]! := getE (by have := eq_of_bne_false h1; have := of_decide_eq_true h3; omega)
   refine rvc_un (rexec_idxS C rfl rfl rfl rfl rfl rfl (s2.D[(i : Int).toNat]!) (Int.natCast_nonneg _) h6 ?_)
   refine rvP C (.agg [.pv (.lit (.int .i64 (s2.D[(i : Int).toNat]!.node))), .pv (.lit (.int .i64 (s2.D[(i : Int).toNat]!.site))), .pv (.lit (.bool (s2.D[(i : Int).toNat]!.fresh)))]) ?_
   refine rvP C (.pv (.lit (.bool (!((x.node == (s2.D[(i : Int).toNat]!.node)) && ((x.site == (s2.D[(i : Int).toNat]!.site)) && ((x.fresh == (s2.D[(i : Int).toNat]!.fresh)) && true))))))) ?_
   refine rvc_nil ?_
   refine Awp.cond (b := (!((x.node == (s2.D[(i : Int).toNat]!.node)) && ((x.site == (s2.D[(i : Int).toNat]!.site)) && ((x.fresh == (s2.D[(i : Int).toNat]!.fresh)) && true))))) rfl (fun h7 => ?_) (fun h7 => ?_)
   ·
    replace hR := of_true h7 hR
    refine Awp.consP C ?_
    refine rvP C (.pv (.lit (.bool false))) ?_
    refine rvc_nil ?_
    refine Awp.ret ?_
    subst hR
    exact ⟨.inl rfl, rfl⟩
   ·
    replace hR := of_false h7 hR
    refine Awp.skip ?_
    refine Awp.regionP C ?_
    refine rvP C (.pv (.lit (.int .i64 (IntKind.i64.wrap ((i : Int) + 1))))) ?_
    refine rvP C (.pv (.lit (.int .i64 (IntKind.i64.wrap ((i : Int) + 1))))) ?_
    refine rvc_nil ?_
    refine ⟨h4, (), ?_, ?_⟩
    · exact hR
    · exact ⟨fun b => b, WeakerR.ofL (Ks := []) hI ⟨⟨rfl, rfl⟩, ⟨rfl, rfl⟩, ⟨rfl, rfl⟩, ⟨lit_cast (wrap_i64 (by omega) (by omega)), rfl⟩, trivial⟩ (okH_nil) rfl⟩
  ·
   have h4 : ¬ i < s1.D.length := by have := of_decide_eq_false h3; omega
   rw [drop_end h4] at hR
   refine Awp.exit ?_
   refine Awp.consP C ?_
   refine rvP C (.pv (.lit (.bool true))) ?_
   refine rvc_nil ?_
   refine Awp.ret ?_
   subst hR
   exact ⟨.inl rfl, rfl⟩
def same (a : Chain) (b : Chain) : Bool :=
  (bif (a.epoch == b.epoch) then (eqMembers a.members b.members) else false)
theorem same_calls (a : Chain) (b : Chain) (hl1 : a.members.D.length ≤ 9223372036854775807) : PCalls Try.prog 17 [.agg [.pv (.lit (.int .i64 a.epoch)), sS (some a.members.nil) eMember a.members.D], .agg [.pv (.lit (.int .i64 b.epoch)), sS (some b.members.nil) eMember b.members.D]] (.pv (.lit (.bool (same a b)))) := by
 generalize hR : same a b = R
 refine PCalls.of_body tabOk Try.func17 rfl rfl rfl rfl rfl mixed fun E hP C hI => ?_
 refine Awp.consP C ?_
 refine rvc_un (rexec_prim C (δ := { v := .ptr 2 0, new := [(2, .cells [.pv (.lit (.int .i64 a.epoch)), sS (some a.members.nil) eMember a.members.D])] }) rfl rfl rfl rfl trivial rfl ?_)
 refine rvc_un (rexec_prim C (δ := { v := .ptr 3 0, new := [(3, .cells [.pv (.lit (.int .i64 b.epoch)), sS (some b.members.nil) eMember b.members.D])] }) rfl rfl rfl rfl trivial rfl ?_)
 refine rvP C (.pv (.lit (.bool false))) ?_
 refine rvc_nil ?_
 refine Awp.consP C ?_
 refine rvP C (.ptr 2 0) ?_
 refine rvP C (.pv (.lit (.int .i64 a.epoch))) ?_
 refine rvP C (.ptr 3 0) ?_
 refine rvP C (.pv (.lit (.int .i64 b.epoch))) ?_
 refine rvP C (.pv (.lit (.bool (a.epoch == b.epoch)))) ?_
 refine rvP C (.pv (.lit (.bool (a.epoch == b.epoch)))) ?_
 refine rvc_case 10 (a.epoch == b.epoch) rfl (fun h1 => ?_) (fun h1 => ?_)
 ·
  replace hR := of_true h1 hR
  refine rvO C (.ptr 2 1) ?_
  refine rvO C (sS (some a.members.nil) eMember a.members.D) ?_
  refine rvO C (.ptr 3 1) ?_
  refine rvO C (sS (some b.members.nil) eMember b.members.D) ?_
  refine rvc_open rfl rfl rfl (rexec_call hP C rfl rfl rfl (eqMembers_calls a.members b.members hl1) ?_)
  refine rvP C (.pv (.lit (.bool (eqMembers a.members b.members)))) ?_
  refine rvP C (.pv (.lit (.bool (eqMembers a.members b.members)))) ?_
  refine rvc_nil ?_
  refine Awp.ret ?_
  subst hR
  exact ⟨.inl rfl, rfl⟩
 ·
  replace hR := of_false h1 hR
  refine rvS ?_
  refine rvS ?_
  refine rvS ?_
  refine rvS ?_
  refine rvS ?_
  refine rvP C (.pv (.lit (.bool false))) ?_
  refine rvP C (.pv (.lit (.bool false))) ?_
  refine rvc_nil ?_
  refine Awp.ret ?_
  subst hR
  exact ⟨.inl rfl, rfl⟩
def rCheck_l1 (x : Member) (kk : Int) : List Member → Nat → Int
  | [], _ => kk 
  | x1 :: x1s, i1 => (bif (x1.node == x.node) then 80 else (bif (decide (x1.site > x.site)) then 80 else rCheck_l1 x kk x1s (i1 + 1) ))
def rCheck_l0 (c : Chain) : List Member → Nat → Int
  | [], _ => 0
  | x :: xs, i => (bif (decide (x.node < 0)) then 80 else (bif (decide (x.node > 5)) then 80 else (bif (decide (x.site < 0)) then 80 else (bif (decide (x.site > 2)) then 80 else rCheck_l1 x (rCheck_l0 c xs (i + 1) ) (c.members.D.take i) 0 ))))
def rCheck (c : Chain) : Int :=
  (bif (decide (c.epoch < 1)) then 80 else (bif (decide (c.epoch > 1099511627776)) then 80 else (bif ((c.members.D.length : Int) == 0) then 80 else (bif (decide ((c.members.D.length : Int) > 6)) then 80 else (bif c.members.D[0]!.fresh then 80 else rCheck_l0 c c.members.D 0 )))))
theorem rCheck_calls (c : Chain) (hl1 : c.members.D.length ≤ 9223372036854775807) : PCalls Try.prog 40 [.agg [.pv (.lit (.int .i64 c.epoch)), sS (some c.members.nil) eMember c.members.D]] (.pv (.lit (.int .i64 (rCheck c)))) := by
 generalize hR : rCheck c = R
 refine PCalls.of_body tabOk Try.func40 rfl rfl rfl rfl rfl mixed fun E hP C hI => ?_
 refine Awp.consP C ?_
 refine rvc_un (rexec_prim C (δ := { v := .ptr 1 0, new := [(1, .cells [.pv (.lit (.int .i64 c.epoch)), sS (some c.members.nil) eMember c.members.D])] }) rfl rfl rfl rfl trivial rfl ?_)
 refine rvP C (.pv (.lit (.int .i64 0))) ?_
 refine rvc_nil ?_
 refine Awp.seq ?_
 refine Awp.consP C ?_
 refine rvP C (.ptr 1 0) ?_
 refine rvP C (.pv (.lit (.int .i64 c.epoch))) ?_
 refine rvP C (.pv (.lit (.bool (decide (c.epoch < 1))))) ?_
 refine rvP C (.pv (.lit (.bool (decide (c.epoch < 1))))) ?_
 refine rvc_case 10 (decide (c.epoch < 1)) rfl (fun h1 => ?_) (fun h1 => ?_)
 ·
  replace hR := of_true h1 hR
  refine rvS ?_
  refine rvS ?_
  refine rvS ?_
  refine rvP C (.pv (.lit (.bool true))) ?_
  refine rvP C (.pv (.lit (.bool true))) ?_
  refine rvS ?_
  refine rvS ?_
  refine rvS ?_
  refine rvS ?_
  refine rvP C (.pv (.lit (.bool true))) ?_
  refine rvP C (.pv (.lit (.bool true))) ?_
  refine rvS ?_
  refine rvS ?_
  refine rvS ?_
  refine rvS ?_
  refine rvP C (.pv (.lit (.bool true))) ?_
  refine rvc_nil ?_
  refine Awp.condT (b := true) rfl rfl ?_
  refine Awp.consP C ?_
  refine rvP C (.pv (.lit (.int .i64 80))) ?_
  refine rvc_nil ?_
  refine Awp.ret ?_
  subst hR
  exact ⟨.inl rfl, rfl⟩
 ·
  replace hR := of_false h1 hR
  refine rvO C (.ptr 1 0) ?_
  refine rvO C (.pv (.lit (.int .i64 c.epoch))) ?_
  refine rvO C (.pv (.lit (.bool (decide (c.epoch > 1099511627776))))) ?_
  refine rvP C (.pv (.lit (.bool (decide (c.epoch > 1099511627776))))) ?_
  refine rvP C (.pv (.lit (.bool (decide (c.epoch > 1099511627776))))) ?_
  refine rvc_case 15 (decide (c.epoch > 1099511627776)) rfl (fun h2 => ?_) (fun h2 => ?_)
  ·
   replace hR := of_true h2 hR
   refine rvS ?_
   refine rvS ?_
   refine rvS ?_
   refine rvS ?_
   refine rvP C (.pv (.lit (.bool true))) ?_
   refine rvP C (.pv (.lit (.bool true))) ?_
   refine rvS ?_
   refine rvS ?_
   refine rvS ?_
   refine rvS ?_
   refine rvP C (.pv (.lit (.bool true))) ?_
   refine rvc_nil ?_
   refine Awp.condT (b := true) rfl rfl ?_
   refine Awp.consP C ?_
   refine rvP C (.pv (.lit (.int .i64 80))) ?_
   refine rvc_nil ?_
   refine Awp.ret ?_
   subst hR
   exact ⟨.inl rfl, rfl⟩
  ·
   replace hR := of_false h2 hR
   refine rvO C (.ptr 1 1) ?_
   refine rvO C (sS (some c.members.nil) eMember c.members.D) ?_
   refine rvO C (.pv (.lit (.int .i64 (c.members.D.length : Int)))) ?_
   refine rvO C (.pv (.lit (.bool ((c.members.D.length : Int) == 0)))) ?_
   refine rvP C (.pv (.lit (.bool ((c.members.D.length : Int) == 0)))) ?_
   refine rvP C (.pv (.lit (.bool ((c.members.D.length : Int) == 0)))) ?_
   refine rvc_case 21 ((c.members.D.length : Int) == 0) rfl (fun h3 => ?_) (fun h3 => ?_)
   ·
    replace hR := of_true h3 hR
    refine rvS ?_
    refine rvS ?_
    refine rvS ?_
    refine rvS ?_
    refine rvP C (.pv (.lit (.bool true))) ?_
    refine rvc_nil ?_
    refine Awp.condT (b := true) rfl rfl ?_
    refine Awp.consP C ?_
    refine rvP C (.pv (.lit (.int .i64 80))) ?_
    refine rvc_nil ?_
    refine Awp.ret ?_
    subst hR
    exact ⟨.inl rfl, rfl⟩
   ·
    replace hR := of_false h3 hR
    refine rvO C (.ptr 1 1) ?_
    refine rvO C (sS (some c.members.nil) eMember c.members.D) ?_
    refine rvO C (.pv (.lit (.int .i64 (c.members.D.length : Int)))) ?_
    refine rvO C (.pv (.lit (.bool (decide ((c.members.D.length : Int) > 6))))) ?_
    refine rvP C (.pv (.lit (.bool (decide ((c.members.D.length : Int) > 6))))) ?_
    refine rvc_nil ?_
    refine Awp.cond (b := (decide ((c.members.D.length : Int) > 6))) rfl (fun h4 => ?_) (fun h4 => ?_)
    ·
     replace hR := of_true h4 hR
     refine Awp.consP C ?_
     refine rvP C (.pv (.lit (.int .i64 80))) ?_
     refine rvc_nil ?_
     refine Awp.ret ?_
     subst hR
     exact ⟨.inl rfl, rfl⟩
    ·
     replace hR := of_false h4 hR
     refine Awp.skip ?_
     refine Awp.seq ?_
     refine Awp.consP C ?_
     refine rvP C (.ptr 1 1) ?_
     refine rvP C (sS (some c.members.nil) eMember c.members.D) ?_
     have h5 : c.members.D[0]? = some c.members.D[0]! := getE (by have := of_decide_eq_false h1; have := of_decide_eq_false h2; have := ne_of_beq_false h3; have := of_decide_eq_false h4; omega)
     refine rvc_un (rexec_idxS C rfl rfl rfl rfl rfl rfl (c.members.D[0]!) (Int.natCast_nonneg _) h5 ?_)
     refine rvP C (.rp [.lit (.bool (c.members.D[0]!.fresh))]) ?_
     refine rvP C (.pv (.lit (.bool (c.members.D[0]!.fresh)))) ?_
     refine rvc_nil ?_
     refine Awp.cond (b := c.members.D[0]!.fresh) rfl (fun h6 => ?_) (fun h6 => ?_)
     ·
      replace hR := of_true h6 hR
      refine Awp.consP C ?_
      refine rvP C (.pv (.lit (.int .i64 80))) ?_
      refine rvc_nil ?_
      refine Awp.ret ?_
      subst hR
      exact ⟨.inl rfl, rfl⟩
     ·
      replace hR := of_false h6 hR
      refine Awp.skip ?_
      refine Awp.seq ?_
      refine Awp.consP C ?_
      refine rvP C (.ptr 1 1) ?_
      refine rvP C (sS (some c.members.nil) eMember c.members.D) ?_
      refine rvP C (.pv (.lit (.int .i64 (c.members.D.length : Int)))) ?_
      refine rvP C (.pv (.lit (.int .i64 0))) ?_
      refine rvc_nil ?_
      refine Awp.block ?_
      refine Awp.forR (σ := Unit) (c.members.D.length) (fun i _v => [(1, .ptr 1 0), (33, sS (some c.members.nil) eMember c.members.D), (34, .pv (.lit (.int .i64 (c.members.D.length : Int)))), (35, .pv (.lit (.int .i64 (i : Int))))]) (fun i _v => [(1, .cells [.pv (.lit (.int .i64 c.epoch)), sS (some c.members.nil) eMember c.members.D])]) [1] (fun i _v => rCheck_l0 c (c.members.D.drop i) i  = R) () ?_ ?_ (fun i _v h7 hR => ?_)
      · exact hR
      · exact ⟨fun b => b, WeakerR.ofL (Ks := [1]) hI ⟨⟨rfl, rfl⟩, ⟨rfl, rfl⟩, ⟨rfl, rfl⟩, ⟨rfl, rfl⟩, trivial⟩ (okH_cons rfl rfl rfl rfl (okH_nil)) rfl⟩
      refine Awp.consP C ?_
      refine rvP C (.pv (.lit (.bool (decide ((i : Int) < (c.members.D.length : Int)))))) ?_
      refine rvc_nil ?_
      refine Awp.seq ?_
      refine Awp.cond (b := (decide ((i : Int) < (c.members.D.length : Int)))) rfl (fun h8 => ?_) (fun h8 => ?_)
      ·
       have h9 : i < c.members.D.length := by have := of_decide_eq_true h8; omega
       obtain ⟨x, h10⟩ := getX h9
       rw [drop_at h10] at hR
       refine Awp.skip ?_
       refine Awp.seq ?_
       refine Awp.block ?_
       refine Awp.consP C ?_
       refine rvP C (.pv (.lit (.int .i64 (i : Int)))) ?_
       refine rvc_un (rexec_idxS C rfl rfl rfl rfl rfl rfl x (Int.natCast_nonneg _) h10 ?_)
       refine rvP C (.agg [.pv (.lit (.int .i64 x.node)), .pv (.lit (.int .i64 x.site)), .pv (.lit (.bool x.fresh))]) ?_
       refine rvc_un (rexec_prim C (δ := { v := .ptr 4 0, new := [(4, .cells [.pv (.lit (.int .i64 0)), .pv (.lit (.int .i64 0)), .pv (.lit (.bool false))])] }) rfl rfl rfl rfl trivial rfl ?_)
       refine rvP C (.pv (.lit (.int .i64 (i : Int)))) ?_
       refine rvc_un (rexec_prim C (δ := { v := .undef, wr := [(4, some (.cells [.pv (.lit (.int .i64 x.node)), .pv (.lit (.int .i64 x.site)), .pv (.lit (.bool x.fresh))]))] }) rfl rfl rfl rfl trivial rfl ?_)
       refine rvc_nil ?_
       refine Awp.seq ?_
       refine Awp.consP C ?_
       refine rvP C (.ptr 4 0) ?_
       refine rvP C (.pv (.lit (.int .i64 x.node))) ?_
       refine rvP C (.pv (.lit (.bool (decide (x.node < 0))))) ?_
       refine rvP C (.pv (.lit (.bool (decide (x.node < 0))))) ?_
       refine rvc_case 43 (decide (x.node < 0)) rfl (fun h11 => ?_) (fun h11 => ?_)
       ·
        replace hR := of_true h11 hR
        refine rvS ?_
        refine rvS ?_
        refine rvS ?_
        refine rvP C (.pv (.lit (.bool true))) ?_
        refine rvP C (.pv (.lit (.bool true))) ?_
        refine rvS ?_
        refine rvS ?_
        refine rvS ?_
        refine rvP C (.pv (.lit (.bool true))) ?_
        refine rvP C (.pv (.lit (.bool true))) ?_
        refine rvS ?_
        refine rvS ?_
        refine rvS ?_
        refine rvP C (.pv (.lit (.bool true))) ?_
        refine rvc_nil ?_
        refine Awp.condT (b := true) rfl rfl ?_
        refine Awp.consP C ?_
        refine rvP C (.pv (.lit (.int .i64 80))) ?_
        refine rvc_nil ?_
        refine Awp.ret ?_
        subst hR
        exact ⟨.inl rfl, rfl⟩
       ·
        replace hR := of_false h11 hR
        refine rvO C (.ptr 4 0) ?_
        refine rvO C (.pv (.lit (.int .i64 x.node))) ?_
        refine rvO C (.pv (.lit (.bool (decide (x.node > 5))))) ?_
        refine rvP C (.pv (.lit (.bool (decide (x.node > 5))))) ?_
        refine rvP C (.pv (.lit (.bool (decide (x.node > 5))))) ?_
        refine rvc_case 48 (decide (x.node > 5)) rfl (fun h12 => ?_) (fun h12 => ?_)
        ·
         replace hR := of_true h12 hR
         refine rvS ?_
         refine rvS ?_
         refine rvS ?_
         refine rvP C (.pv (.lit (.bool true))) ?_
         refine rvP C (.pv (.lit (.bool true))) ?_
         refine rvS ?_
         refine rvS ?_
         refine rvS ?_
         refine rvP C (.pv (.lit (.bool true))) ?_
         refine rvc_nil ?_
         refine Awp.condT (b := true) rfl rfl ?_
         refine Awp.consP C ?_
         refine rvP C (.pv (.lit (.int .i64 80))) ?_
         refine rvc_nil ?_
         refine Awp.ret ?_
         subst hR
         exact ⟨.inl rfl, rfl⟩
        ·
         replace hR := of_false h12 hR
         refine rvO C (.ptr 4 1) ?_
         refine rvO C (.pv (.lit (.int .i64 x.site))) ?_
         refine rvO C (.pv (.lit (.bool (decide (x.site < 0))))) ?_
         refine rvP C (.pv (.lit (.bool (decide (x.site < 0))))) ?_
         refine rvP C (.pv (.lit (.bool (decide (x.site < 0))))) ?_
         refine rvc_case 53 (decide (x.site < 0)) rfl (fun h13 => ?_) (fun h13 => ?_)
         ·
          replace hR := of_true h13 hR
          refine rvS ?_
          refine rvS ?_
          refine rvS ?_
          refine rvP C (.pv (.lit (.bool true))) ?_
          refine rvc_nil ?_
          refine Awp.condT (b := true) rfl rfl ?_
          refine Awp.consP C ?_
          refine rvP C (.pv (.lit (.int .i64 80))) ?_
          refine rvc_nil ?_
          refine Awp.ret ?_
          subst hR
          exact ⟨.inl rfl, rfl⟩
         ·
          replace hR := of_false h13 hR
          refine rvO C (.ptr 4 1) ?_
          refine rvO C (.pv (.lit (.int .i64 x.site))) ?_
          refine rvO C (.pv (.lit (.bool (decide (x.site > 2))))) ?_
          refine rvP C (.pv (.lit (.bool (decide (x.site > 2))))) ?_
          refine rvc_nil ?_
          refine Awp.cond (b := (decide (x.site > 2))) rfl (fun h14 => ?_) (fun h14 => ?_)
          ·
           replace hR := of_true h14 hR
           refine Awp.consP C ?_
           refine rvP C (.pv (.lit (.int .i64 80))) ?_
           refine rvc_nil ?_
           refine Awp.ret ?_
           subst hR
           exact ⟨.inl rfl, rfl⟩
          ·
           replace hR := of_false h14 hR
           refine Awp.skip ?_
           refine Awp.consP C ?_
           refine rvP C (.ptr 1 1) ?_
           refine rvP C (sS (some c.members.nil) eMember c.members.D) ?_
           refine rvP C (.pv (.lit (.int .i64 (i : Int)))) ?_
           refine rvc_un (rexec_sliceS C (e := eMember) (D := c.members.D) 0 i rfl rfl rfl rfl rfl rfl rfl rfl rfl rfl (by have := of_decide_eq_false h1; have := of_decide_eq_false h2; have := ne_of_beq_false h3; have := of_decide_eq_false h4; have := of_decide_eq_true h8; have := of_decide_eq_false h11; have := of_decide_eq_false h12; have := of_decide_eq_false h13; have := of_decide_eq_false h14; omega) (by have := of_decide_eq_false h1; have := of_decide_eq_false h2; have := ne_of_beq_false h3; have := of_decide_eq_false h4; have := of_decide_eq_true h8; have := of_decide_eq_false h11; have := of_decide_eq_false h12; have := of_decide_eq_false h13; have := of_decide_eq_false h14; omega) (c.members.D.take i) (by simp) ?_)
           refine rvP C (.pv (.lit (.int .i64 ((c.members.D.take i).length : Int)))) ?_
           refine rvP C (.pv (.lit (.int .i64 0))) ?_
           refine rvc_nil ?_
           refine Awp.block ?_
           refine Awp.forR (σ := Unit) ((c.members.D.take i).length) (fun i1 _v => [(1, .ptr 1 0), (4, .ptr 4 0), (33, sS (some c.members.nil) eMember c.members.D), (34, .pv (.lit (.int .i64 (c.members.D.length : Int)))), (35, .pv (.lit (.int .i64 (i : Int)))), (44, .ptr 4 0), (45, .pv (.lit (.int .i64 x.node))), (46, .pv (.lit (.bool (decide (x.node > 5))))), (49, .ptr 4 1), (50, .pv (.lit (.int .i64 x.site))), (51, .pv (.lit (.bool (decide (x.site < 0))))), (54, .ptr 4 1), (55, .pv (.lit (.int .i64 x.site))), (56, .pv (.lit (.bool (decide (x.site > 2))))), (61, sS (some c.members.nil) eMember (c.members.D.take i)), (62, .pv (.lit (.int .i64 ((c.members.D.take i).length : Int)))), (63, .pv (.lit (.int .i64 (i1 : Int))))]) (fun i1 _v => [(1, .cells [.pv (.lit (.int .i64 c.epoch)), sS (some c.members.nil) eMember c.members.D]), (4, .cells [.pv (.lit (.int .i64 x.node)), .pv (.lit (.int .i64 x.site)), .pv (.lit (.bool x.fresh))])]) [1, 4] (fun i1 _v => rCheck_l1 x (rCheck_l0 c (c.members.D.drop (i + 1)) (i + 1) ) ((c.members.D.take i).drop i1) i1  = R) () ?_ ?_ (fun i1 _v h15 hR => ?_)
           · exact hR
           · exact ⟨fun b => b, WeakerR.ofL (Ks := [1, 4]) hI ⟨⟨rfl, rfl⟩, ⟨rfl, rfl⟩, ⟨rfl, rfl⟩, ⟨rfl, rfl⟩, ⟨rfl, rfl⟩, ⟨rfl, rfl⟩, ⟨rfl, rfl⟩, ⟨rfl, rfl⟩, ⟨rfl, rfl⟩, ⟨rfl, rfl⟩, ⟨rfl, rfl⟩, ⟨rfl, rfl⟩, ⟨rfl, rfl⟩, ⟨rfl, rfl⟩, ⟨rfl, rfl⟩, ⟨rfl, rfl⟩, ⟨rfl, rfl⟩, trivial⟩ (okH_cons rfl rfl rfl rfl (okH_cons rfl rfl rfl rfl (okH_nil))) rfl⟩
           have := List.length_take_le i c.members.D
           refine Awp.consP C ?_
           refine rvP C (.pv (.lit (.bool (decide ((i1 : Int) < ((c.members.D.take i).length : Int)))))) ?_
           refine rvc_nil ?_
           refine Awp.seq ?_
           refine Awp.cond (b := (decide ((i1 : Int) < ((c.members.D.take i).length : Int)))) rfl (fun h16 => ?_) (fun h16 => ?_)
           ·
            have h17 : i1 < (c.members.D.take i).length := by have := of_decide_eq_true h16; omega
            obtain ⟨x1, h18⟩ := getX h17
            rw [drop_at h18] at hR
            refine Awp.skip ?_
            refine Awp.seq ?_
            refine Awp.block ?_
            refine Awp.consP C ?_
            refine rvc_un (rexec_idxS C rfl rfl rfl rfl rfl rfl x1 (Int.natCast_nonneg _) h18 ?_)
            refine rvP C (.agg [.pv (.lit (.int .i64 x1.node)), .pv (.lit (.int .i64 x1.site)), .pv (.lit (.bool x1.fresh))]) ?_
            refine rvc_un (rexec_prim C (δ := { v := .ptr 6 0, new := [(6, .cells [.pv (.lit (.int .i64 0)), .pv (.lit (.int .i64 0)), .pv (.lit (.bool false))])] }) rfl rfl rfl rfl trivial rfl ?_)
            refine rvc_un (rexec_prim C (δ := { v := .undef, wr := [(6, some (.cells [.pv (.lit (.int .i64 x1.node)), .pv (.lit (.int .i64 x1.site)), .pv (.lit (.bool x1.fresh))]))] }) rfl rfl rfl rfl trivial rfl ?_)
            refine rvc_nil ?_
            refine Awp.consP C ?_
            refine rvP C (.ptr 6 0) ?_
            refine rvP C (.pv (.lit (.int .i64 x1.node))) ?_
            refine rvP C (.ptr 4 0) ?_
            refine rvP C (.pv (.lit (.int .i64 x.node))) ?_
            refine rvP C (.pv (.lit (.bool (x1.node == x.node)))) ?_
            refine rvP C (.pv (.lit (.bool (x1.node == x.node)))) ?_
            refine rvc_case 72 (x1.node == x.node) rfl (fun h19 => ?_) (fun h19 => ?_)
            ·
             replace hR := of_true h19 hR
             refine rvS ?_
             refine rvS ?_
             refine rvS ?_
             refine rvS ?_
             refine rvS ?_
             refine rvP C (.pv (.lit (.bool true))) ?_
             refine rvc_nil ?_
             refine Awp.condT (b := true) rfl rfl ?_
             refine Awp.consP C ?_
             refine rvP C (.pv (.lit (.int .i64 80))) ?_
             refine rvc_nil ?_
             refine Awp.ret ?_
             subst hR
             exact ⟨.inl rfl, rfl⟩
            ·
             replace hR := of_false h19 hR
             refine rvO C (.ptr 6 1) ?_
             refine rvO C (.pv (.lit (.int .i64 x1.site))) ?_
             refine rvO C (.ptr 4 1) ?_
             refine rvO C (.pv (.lit (.int .i64 x.site))) ?_
             refine rvO C (.pv (.lit (.bool (decide (x1.site > x.site))))) ?_
             refine rvP C (.pv (.lit (.bool (decide (x1.site > x.site))))) ?_
             refine rvc_nil ?_
             refine Awp.cond (b := (decide (x1.site > x.site))) rfl (fun h20 => ?_) (fun h20 => ?_)
             ·
              replace hR := of_true h20 hR
              refine Awp.consP C ?_
              refine rvP C (.pv (.lit (.int .i64 80))) ?_
              refine rvc_nil ?_
              refine Awp.ret ?_
              subst hR
              exact ⟨.inl rfl, rfl⟩
             ·
              replace hR := of_false h20 hR
              refine Awp.skip ?_
              refine Awp.regionP C ?_
              refine rvP C (.pv (.lit (.int .i64 (IntKind.i64.wrap ((i1 : Int) + 1))))) ?_
              refine rvP C (.pv (.lit (.int .i64 (IntKind.i64.wrap ((i1 : Int) + 1))))) ?_
              refine rvc_nil ?_
              refine ⟨h17, (), ?_, ?_⟩
              · exact hR
              · exact ⟨fun b => b, WeakerR.ofL (Ks := [1, 4]) hI ⟨⟨rfl, rfl⟩, ⟨rfl, rfl⟩, ⟨rfl, rfl⟩, ⟨rfl, rfl⟩, ⟨rfl, rfl⟩, ⟨rfl, rfl⟩, ⟨rfl, rfl⟩, ⟨rfl, rfl⟩, ⟨rfl, rfl⟩, ⟨rfl, rfl⟩, ⟨rfl, rfl⟩, ⟨rfl, rfl⟩, ⟨rfl, rfl⟩, ⟨rfl, rfl⟩, ⟨rfl, rfl⟩, ⟨rfl, rfl⟩, ⟨lit_cast (wrap_i64 (by omega) (by omega)), rfl⟩, trivial⟩ (okH_cons rfl rfl rfl rfl (okH_cons rfl rfl rfl rfl (okH_nil))) rfl⟩
           ·
            have h17 : ¬ i1 < (c.members.D.take i).length := by have := of_decide_eq_false h16; omega
            rw [drop_end h17] at hR
            refine Awp.exit ?_
            refine Awp.regionP C ?_
            refine rvP C (.pv (.lit (.int .i64 (IntKind.i64.wrap ((i : Int) + 1))))) ?_
            refine rvP C (.pv (.lit (.int .i64 (IntKind.i64.wrap ((i : Int) + 1))))) ?_
            refine rvc_nil ?_
            refine ⟨h9, (), ?_, ?_⟩
            · exact hR
            · exact ⟨fun b => b, WeakerR.ofL (Ks := [1]) hI ⟨⟨rfl, rfl⟩, ⟨rfl, rfl⟩, ⟨rfl, rfl⟩, ⟨lit_cast (wrap_i64 (by omega) (by omega)), rfl⟩, trivial⟩ (okH_cons rfl rfl rfl rfl (okH_nil)) rfl⟩
      ·
       have h9 : ¬ i < c.members.D.length := by have := of_decide_eq_false h8; omega
       rw [drop_end h9] at hR
       refine Awp.exit ?_
       refine Awp.consP C ?_
       refine rvP C (.pv (.lit (.int .i64 0))) ?_
       refine rvc_nil ?_
       refine Awp.ret ?_
       subst hR
       exact ⟨.inl rfl, rfl⟩
def nodes_l0 : List Member → Nat → Int → Int
  | [], _, s => s
  | x :: xs, i, s => nodes_l0 xs (i + 1) (mWith s x.node)
def nodes (c : Chain) : Int :=
  nodes_l0 c.members.D 0 0
theorem nodes_calls (c : Chain) (hl1 : c.members.D.length ≤ 9223372036854775807) : PCalls Try.prog 27 [.agg [.pv (.lit (.int .i64 c.epoch)), sS (some c.members.nil) eMember c.members.D]] (.pv (.lit (.int .u64 (nodes c)))) := by
 generalize hR : nodes c = R
 refine PCalls.of_body tabOk Try.func27 rfl rfl rfl rfl rfl mixed fun E hP C hI => ?_
 refine Awp.consP C ?_
 refine rvc_un (rexec_prim C (δ := { v := .ptr 1 0, new := [(1, .cells [.pv (.lit (.int .i64 c.epoch)), sS (some c.members.nil) eMember c.members.D])] }) rfl rfl rfl rfl trivial rfl ?_)
 refine rvP C (.pv (.lit (.int .u64 0))) ?_
 refine rvc_nil ?_
 refine Awp.consP C ?_
 refine rvP C (.pv (.lit (.int .u64 0))) ?_
 refine rvc_nil ?_
 refine Awp.seq ?_
 refine Awp.consP C ?_
 refine rvP C (.ptr 1 1) ?_
 refine rvP C (sS (some c.members.nil) eMember c.members.D) ?_
 refine rvP C (.pv (.lit (.int .i64 (c.members.D.length : Int)))) ?_
 refine rvP C (.pv (.lit (.int .i64 0))) ?_
 refine rvc_nil ?_
 refine Awp.block ?_
 refine Awp.forR (σ := Int) (c.members.D.length) (fun i v => [(3, .pv (.lit (.int .u64 v))), (7, sS (some c.members.nil) eMember c.members.D), (8, .pv (.lit (.int .i64 (c.members.D.length : Int)))), (9, .pv (.lit (.int .i64 (i : Int))))]) (fun i v => []) [] (fun i v => nodes_l0 (c.members.D.drop i) i v = R) 0 ?_ ?_ (fun i s h1 hR => ?_)
 · exact hR
 · exact ⟨fun b => b, WeakerR.ofL (Ks := []) hI ⟨⟨rfl, rfl⟩, ⟨rfl, rfl⟩, ⟨rfl, rfl⟩, ⟨rfl, rfl⟩, trivial⟩ (okH_nil) rfl⟩
 refine Awp.consP C ?_
 refine rvP C (.pv (.lit (.bool (decide ((i : Int) < (c.members.D.length : Int)))))) ?_
 refine rvc_nil ?_
 refine Awp.seq ?_
 refine Awp.cond (b := (decide ((i : Int) < (c.members.D.length : Int)))) rfl (fun h2 => ?_) (fun h2 => ?_)
 ·
  have h3 : i < c.members.D.length := by have := of_decide_eq_true h2; omega
  obtain ⟨x, h4⟩ := getX h3
  rw [drop_at h4] at hR
  refine Awp.skip ?_
  refine Awp.seq ?_
  refine Awp.block ?_
  refine Awp.consP C ?_
  refine rvc_un (rexec_idxS C rfl rfl rfl rfl rfl rfl x (Int.natCast_nonneg _) h4 ?_)
  refine rvP C (.agg [.pv (.lit (.int .i64 x.node)), .pv (.lit (.int .i64 x.site)), .pv (.lit (.bool x.fresh))]) ?_
  refine rvc_un (rexec_prim C (δ := { v := .ptr 5 0, new := [(5, .cells [.pv (.lit (.int .i64 0)), .pv (.lit (.int .i64 0)), .pv (.lit (.bool false))])] }) rfl rfl rfl rfl trivial rfl ?_)
  refine rvc_un (rexec_prim C (δ := { v := .undef, wr := [(5, some (.cells [.pv (.lit (.int .i64 x.node)), .pv (.lit (.int .i64 x.site)), .pv (.lit (.bool x.fresh))]))] }) rfl rfl rfl rfl trivial rfl ?_)
  refine rvc_nil ?_
  refine Awp.regionP C ?_
  refine rvP C (.pv (.lit (.int .u64 s))) ?_
  refine rvP C (.ptr 5 0) ?_
  refine rvP C (.pv (.lit (.int .i64 x.node))) ?_
  refine rvc_un (rexec_call hP C rfl rfl rfl (mWith_calls s x.node) ?_)
  refine rvP C (.pv (.lit (.int .u64 (mWith s x.node)))) ?_
  refine rvc_nil ?_
  refine Awp.regionP C ?_
  refine rvP C (.pv (.lit (.int .i64 (IntKind.i64.wrap ((i : Int) + 1))))) ?_
  refine rvP C (.pv (.lit (.int .i64 (IntKind.i64.wrap ((i : Int) + 1))))) ?_
  refine rvc_nil ?_
  refine ⟨h3, (mWith s x.node), ?_, ?_⟩
  · exact hR
  · exact ⟨fun b => b, WeakerR.ofL (Ks := []) hI ⟨⟨rfl, rfl⟩, ⟨rfl, rfl⟩, ⟨rfl, rfl⟩, ⟨lit_cast (wrap_i64 (by omega) (by omega)), rfl⟩, trivial⟩ (okH_nil) rfl⟩
 ·
  have h3 : ¬ i < c.members.D.length := by have := of_decide_eq_false h2; omega
  rw [drop_end h3] at hR
  refine Awp.exit ?_
  refine Awp.consP C ?_
  refine rvP C (.pv (.lit (.int .u64 s))) ?_
  refine rvP C (.pv (.lit (.int .u64 s))) ?_
  refine rvc_nil ?_
  refine Awp.ret ?_
  subst hR
  exact ⟨.inl rfl, rfl⟩
def whole_l0 : List Member → Nat → Int → Int
  | [], _, s => s
  | x :: xs, i, s => (bif (!x.fresh) then whole_l0 xs (i + 1) (mWith s x.node) else whole_l0 xs (i + 1) s)
def whole (c : Chain) : Int :=
  whole_l0 c.members.D 0 0
theorem whole_calls (c : Chain) (hl1 : c.members.D.length ≤ 9223372036854775807) : PCalls Try.prog 23 [.agg [.pv (.lit (.int .i64 c.epoch)), sS (some c.members.nil) eMember c.members.D]] (.pv (.lit (.int .u64 (whole c)))) := by
 generalize hR : whole c = R
 refine PCalls.of_body tabOk Try.func23 rfl rfl rfl rfl rfl mixed fun E hP C hI => ?_
 refine Awp.consP C ?_
 refine rvc_un (rexec_prim C (δ := { v := .ptr 1 0, new := [(1, .cells [.pv (.lit (.int .i64 c.epoch)), sS (some c.members.nil) eMember c.members.D])] }) rfl rfl rfl rfl trivial rfl ?_)
 refine rvP C (.pv (.lit (.int .u64 0))) ?_
 refine rvc_nil ?_
 refine Awp.consP C ?_
 refine rvP C (.pv (.lit (.int .u64 0))) ?_
 refine rvc_nil ?_
 refine Awp.seq ?_
 refine Awp.consP C ?_
 refine rvP C (.ptr 1 1) ?_
 refine rvP C (sS (some c.members.nil) eMember c.members.D) ?_
 refine rvP C (.pv (.lit (.int .i64 (c.members.D.length : Int)))) ?_
 refine rvP C (.pv (.lit (.int .i64 0))) ?_
 refine rvc_nil ?_
 refine Awp.block ?_
 refine Awp.forR (σ := Int) (c.members.D.length) (fun i v => [(3, .pv (.lit (.int .u64 v))), (7, sS (some c.members.nil) eMember c.members.D), (8, .pv (.lit (.int .i64 (c.members.D.length : Int)))), (9, .pv (.lit (.int .i64 (i : Int))))]) (fun i v => []) [] (fun i v => whole_l0 (c.members.D.drop i) i v = R) 0 ?_ ?_ (fun i s h1 hR => ?_)
 · exact hR
 · exact ⟨fun b => b, WeakerR.ofL (Ks := []) hI ⟨⟨rfl, rfl⟩, ⟨rfl, rfl⟩, ⟨rfl, rfl⟩, ⟨rfl, rfl⟩, trivial⟩ (okH_nil) rfl⟩
 refine Awp.consP C ?_
 refine rvP C (.pv (.lit (.bool (decide ((i : Int) < (c.members.D.length : Int)))))) ?_
 refine rvc_nil ?_
 refine Awp.seq ?_
 refine Awp.cond (b := (decide ((i : Int) < (c.members.D.length : Int)))) rfl (fun h2 => ?_) (fun h2 => ?_)
 ·
  have h3 : i < c.members.D.length := by have := of_decide_eq_true h2; omega
  obtain ⟨x, h4⟩ := getX h3
  rw [drop_at h4] at hR
  refine Awp.skip ?_
  refine Awp.seq ?_
  refine Awp.block ?_
  refine Awp.consP C ?_
  refine rvc_un (rexec_idxS C rfl rfl rfl rfl rfl rfl x (Int.natCast_nonneg _) h4 ?_)
  refine rvP C (.agg [.pv (.lit (.int .i64 x.node)), .pv (.lit (.int .i64 x.site)), .pv (.lit (.bool x.fresh))]) ?_
  refine rvc_un (rexec_prim C (δ := { v := .ptr 5 0, new := [(5, .cells [.pv (.lit (.int .i64 0)), .pv (.lit (.int .i64 0)), .pv (.lit (.bool false))])] }) rfl rfl rfl rfl trivial rfl ?_)
  refine rvc_un (rexec_prim C (δ := { v := .undef, wr := [(5, some (.cells [.pv (.lit (.int .i64 x.node)), .pv (.lit (.int .i64 x.site)), .pv (.lit (.bool x.fresh))]))] }) rfl rfl rfl rfl trivial rfl ?_)
  refine rvc_nil ?_
  refine Awp.consP C ?_
  refine rvP C (.ptr 5 2) ?_
  refine rvP C (.pv (.lit (.bool x.fresh))) ?_
  refine rvP C (.pv (.lit (.bool (!x.fresh)))) ?_
  refine rvc_nil ?_
  refine Awp.cond (b := (!x.fresh)) rfl (fun h5 => ?_) (fun h5 => ?_)
  ·
   replace hR := of_true h5 hR
   refine Awp.regionP C ?_
   refine rvP C (.pv (.lit (.int .u64 s))) ?_
   refine rvP C (.ptr 5 0) ?_
   refine rvP C (.pv (.lit (.int .i64 x.node))) ?_
   refine rvc_un (rexec_call hP C rfl rfl rfl (mWith_calls s x.node) ?_)
   refine rvP C (.pv (.lit (.int .u64 (mWith s x.node)))) ?_
   refine rvc_nil ?_
   refine Awp.regionP C ?_
   refine rvP C (.pv (.lit (.int .i64 (IntKind.i64.wrap ((i : Int) + 1))))) ?_
   refine rvP C (.pv (.lit (.int .i64 (IntKind.i64.wrap ((i : Int) + 1))))) ?_
   refine rvc_nil ?_
   refine ⟨h3, (mWith s x.node), ?_, ?_⟩
   · exact hR
   · exact ⟨fun b => b, WeakerR.ofL (Ks := []) hI ⟨⟨rfl, rfl⟩, ⟨rfl, rfl⟩, ⟨rfl, rfl⟩, ⟨lit_cast (wrap_i64 (by omega) (by omega)), rfl⟩, trivial⟩ (okH_nil) rfl⟩
  ·
   replace hR := of_false h5 hR
   refine Awp.skip ?_
   refine Awp.regionP C ?_
   refine rvP C (.pv (.lit (.int .i64 (IntKind.i64.wrap ((i : Int) + 1))))) ?_
   refine rvP C (.pv (.lit (.int .i64 (IntKind.i64.wrap ((i : Int) + 1))))) ?_
   refine rvc_nil ?_
   refine ⟨h3, s, ?_, ?_⟩
   · exact hR
   · exact ⟨fun b => b, WeakerR.ofL (Ks := []) hI ⟨⟨rfl, rfl⟩, ⟨rfl, rfl⟩, ⟨rfl, rfl⟩, ⟨lit_cast (wrap_i64 (by omega) (by omega)), rfl⟩, trivial⟩ (okH_nil) rfl⟩
 ·
  have h3 : ¬ i < c.members.D.length := by have := of_decide_eq_false h2; omega
  rw [drop_end h3] at hR
  refine Awp.exit ?_
  refine Awp.consP C ?_
  refine rvP C (.pv (.lit (.int .u64 s))) ?_
  refine rvP C (.pv (.lit (.int .u64 s))) ?_
  refine rvc_nil ?_
  refine Awp.ret ?_
  subst hR
  exact ⟨.inl rfl, rfl⟩
def maskOf_l0 : List Int → Nat → Int → Int
  | [], _, s => s
  | x :: xs, i, s => maskOf_l0 xs (i + 1) (mWith s x)
def maskOf (l : (Sl Int)) : Int :=
  maskOf_l0 l.D 0 0
theorem maskOf_calls (l : (Sl Int)) (hl1 : l.D.length ≤ 1000000) : PCalls Try.prog 37 [sS (some l.nil) (eI .i64) l.D] (.pv (.lit (.int .u64 (maskOf l)))) := by
 generalize hR : maskOf l = R
 refine PCalls.of_body tabOk Try.func37 rfl rfl rfl rfl rfl mixed fun E hP C hI => ?_
 refine Awp.consP C ?_
 refine rvP C (.pv (.lit (.int .u64 0))) ?_
 refine rvc_nil ?_
 refine Awp.consP C ?_
 refine rvP C (.pv (.lit (.int .u64 0))) ?_
 refine rvc_nil ?_
 refine Awp.seq ?_
 refine Awp.consP C ?_
 refine rvP C (sS (some l.nil) (eI .i64) l.D) ?_
 refine rvP C (.pv (.lit (.int .i64 (l.D.length : Int)))) ?_
 refine rvP C (.pv (.lit (.int .i64 0))) ?_
 refine rvc_nil ?_
 refine Awp.block ?_
 refine Awp.forR (σ := Int) (l.D.length) (fun i v => [(3, .pv (.lit (.int .u64 v))), (6, sS (some l.nil) (eI .i64) l.D), (7, .pv (.lit (.int .i64 (l.D.length : Int)))), (8, .pv (.lit (.int .i64 (i : Int))))]) (fun i v => []) [] (fun i v => maskOf_l0 (l.D.drop i) i v = R) 0 ?_ ?_ (fun i s h1 hR => ?_)
 · exact hR
 · exact ⟨fun b => b, WeakerR.ofL (Ks := []) hI ⟨⟨rfl, rfl⟩, ⟨rfl, rfl⟩, ⟨rfl, rfl⟩, ⟨rfl, rfl⟩, trivial⟩ (okH_nil) rfl⟩
 refine Awp.consP C ?_
 refine rvP C (.pv (.lit (.bool (decide ((i : Int) < (l.D.length : Int)))))) ?_
 refine rvc_nil ?_
 refine Awp.seq ?_
 refine Awp.cond (b := (decide ((i : Int) < (l.D.length : Int)))) rfl (fun h2 => ?_) (fun h2 => ?_)
 ·
  have h3 : i < l.D.length := by have := of_decide_eq_true h2; omega
  obtain ⟨x, h4⟩ := getX h3
  rw [drop_at h4] at hR
  refine Awp.skip ?_
  refine Awp.seq ?_
  refine Awp.block ?_
  refine Awp.consP C ?_
  refine rvc_un (rexec_idxS C rfl rfl rfl rfl rfl rfl x (Int.natCast_nonneg _) h4 ?_)
  refine rvP C (.pv (.lit (.int .i64 x))) ?_
  refine rvP C (.pv (.lit (.int .i64 x))) ?_
  refine rvc_nil ?_
  refine Awp.regionP C ?_
  refine rvP C (.pv (.lit (.int .u64 s))) ?_
  refine rvP C (.pv (.lit (.int .i64 x))) ?_
  refine rvc_un (rexec_call hP C rfl rfl rfl (mWith_calls s x) ?_)
  refine rvP C (.pv (.lit (.int .u64 (mWith s x)))) ?_
  refine rvc_nil ?_
  refine Awp.regionP C ?_
  refine rvP C (.pv (.lit (.int .i64 (IntKind.i64.wrap ((i : Int) + 1))))) ?_
  refine rvP C (.pv (.lit (.int .i64 (IntKind.i64.wrap ((i : Int) + 1))))) ?_
  refine rvc_nil ?_
  refine ⟨h3, (mWith s x), ?_, ?_⟩
  · exact hR
  · exact ⟨fun b => b, WeakerR.ofL (Ks := []) hI ⟨⟨rfl, rfl⟩, ⟨rfl, rfl⟩, ⟨rfl, rfl⟩, ⟨lit_cast (wrap_i64 (by omega) (by omega)), rfl⟩, trivial⟩ (okH_nil) rfl⟩
 ·
  have h3 : ¬ i < l.D.length := by have := of_decide_eq_false h2; omega
  rw [drop_end h3] at hR
  refine Awp.exit ?_
  refine Awp.consP C ?_
  refine rvP C (.pv (.lit (.int .u64 s))) ?_
  refine rvP C (.pv (.lit (.int .u64 s))) ?_
  refine rvc_nil ?_
  refine Awp.ret ?_
  subst hR
  exact ⟨.inl rfl, rfl⟩
def without_l0 (c : Chain) (gone : Int) : List Member → Nat → (List Member) → Chain × Int
  | [], _, l => (bif (decide (c.epoch ≥ 1099511627776)) then ((Chain.mk 0 (Sl.mk true [])), 5) else (bif ((l.length : Int) == (c.members.D.length : Int)) then ((Chain.mk 0 (Sl.mk true [])), 81) else (bif ((l.length : Int) == 0) then ((Chain.mk 0 (Sl.mk true [])), 83) else ((after c (Sl.mk l.isEmpty l)), 0))))
  | x :: xs, i, l => (bif (!(mHas gone x.node)) then (bif (decide ((l.length : Int) > 0)) then without_l0 c gone xs (i + 1) (l ++ [x]) else (bif (!x.fresh) then without_l0 c gone xs (i + 1) (l ++ [x]) else without_l0 c gone xs (i + 1) l)) else without_l0 c gone xs (i + 1) l)
def without (c : Chain) (gone : Int) : Chain × Int :=
  without_l0 c gone c.members.D 0 []
theorem without_calls (c : Chain) (gone : Int) (hl1 : c.members.D.length ≤ 1000000) : PCalls Try.prog 64 [.agg [.pv (.lit (.int .i64 c.epoch)), sS (some c.members.nil) eMember c.members.D], .pv (.lit (.int .u64 gone))] (.tup [.agg [.pv (.lit (.int .i64 ((without c gone).1.epoch))), sS (some (without c gone).1.members.nil) eMember ((without c gone).1.members.D)], .pv (.lit (.int .i64 ((without c gone).2)))]) := by
 generalize hR : without c gone = R
 refine PCalls.of_body tabOk Try.func64 rfl rfl rfl rfl rfl mixed fun E hP C hI => ?_
 refine Awp.consP C ?_
 refine rvc_un (rexec_prim C (δ := { v := .ptr 2 0, new := [(2, .cells [.pv (.lit (.int .i64 c.epoch)), sS (some c.members.nil) eMember c.members.D])] }) rfl rfl rfl rfl trivial rfl ?_)
 refine rvc_un (rexec_prim C (δ := { v := .ptr 4 0, new := [(4, .cells [.pv (.lit (.int .i64 0)), sS (some true) eMember []])] }) rfl rfl rfl rfl trivial rfl ?_)
 refine rvP C (.pv (.lit (.int .i64 0))) ?_
 refine rvc_nil ?_
 refine Awp.consP C ?_
 refine rvP C (sS (some true) eMember []) ?_
 refine rvc_nil ?_
 refine Awp.seq ?_
 refine Awp.consP C ?_
 refine rvP C (.ptr 2 1) ?_
 refine rvP C (sS (some c.members.nil) eMember c.members.D) ?_
 refine rvP C (.pv (.lit (.int .i64 (c.members.D.length : Int)))) ?_
 refine rvP C (.pv (.lit (.int .i64 0))) ?_
 refine rvc_nil ?_
 refine Awp.block ?_
 refine Awp.forR (σ := ((List Member))) (c.members.D.length) (fun i v => [(1, .pv (.lit (.int .u64 gone))), (2, .ptr 2 0), (4, .ptr 4 0), (6, grow 900 eMember v), (10, sS (some c.members.nil) eMember c.members.D), (11, .pv (.lit (.int .i64 (c.members.D.length : Int)))), (12, .pv (.lit (.int .i64 (i : Int))))]) (fun i v => (growH 900 eMember v ++ ([(2, .cells [.pv (.lit (.int .i64 c.epoch)), sS (some c.members.nil) eMember c.members.D]), (4, .cells [.pv (.lit (.int .i64 0)), sS (some true) eMember []])]))) [2, 4, 900] (fun i v => (without_l0 c gone (c.members.D.drop i) i v = R) ∧ (v.length ≤ i)) [] ?_ ?_ (fun i l h1 hR => ?_)
 · exact ⟨hR, (by first | omega | (simp <;> omega))⟩
 · exact ⟨fun b => b, WeakerR.ofL (Ks := [2, 4, 900]) hI ⟨⟨rfl, rfl⟩, ⟨rfl, rfl⟩, ⟨rfl, rfl⟩, ⟨rfl, rfl⟩, ⟨rfl, rfl⟩, ⟨rfl, rfl⟩, ⟨rfl, rfl⟩, trivial⟩ (okH_grow (fun hne => absurd rfl hne) rfl rfl (okH_cons rfl rfl rfl rfl (okH_cons rfl rfl rfl rfl (okH_nil)))) rfl⟩
 obtain ⟨hR, hi_l⟩ := hR
 replace hi_l : l.length ≤ i := hi_l
 by_cases h2 : l = []
 ·
  refine Awp.wordsR [(1, .pv (.lit (.int .u64 gone))), (2, .ptr 2 0), (4, .ptr 4 0), (6, sS (some l.isEmpty) eMember l), (10, sS (some c.members.nil) eMember c.members.D), (11, .pv (.lit (.int .i64 (c.members.D.length : Int)))), (12, .pv (.lit (.int .i64 (i : Int))))] [(2, .cells [.pv (.lit (.int .i64 c.epoch)), sS (some c.members.nil) eMember c.members.D]), (4, .cells [.pv (.lit (.int .i64 0)), sS (some true) eMember []])] [2, 4] (WeakerR.ofL (Ks := [2, 4]) hI ⟨⟨rfl, rfl⟩, ⟨rfl, rfl⟩, ⟨rfl, rfl⟩, ⟨(by exact grow_at_nil (b := 900) (e := eMember) (l := l) rfl h2), rfl⟩, ⟨rfl, rfl⟩, ⟨rfl, rfl⟩, ⟨rfl, rfl⟩, trivial⟩ (okH_cons (look_nil h2 rfl) rfl rfl rfl (okH_cons (look_nil h2 rfl) rfl rfl rfl (okH_nil))) rfl) ?_
  refine Awp.consP C ?_
  refine rvP C (.pv (.lit (.bool (decide ((i : Int) < (c.members.D.length : Int)))))) ?_
  refine rvc_nil ?_
  refine Awp.seq ?_
  refine Awp.cond (b := (decide ((i : Int) < (c.members.D.length : Int)))) rfl (fun h3 => ?_) (fun h3 => ?_)
  ·
   have h4 : i < c.members.D.length := by have := of_decide_eq_true h3; omega
   obtain ⟨x, h5⟩ := getX h4
   rw [drop_at h5] at hR
   refine Awp.skip ?_
   refine Awp.seq ?_
   refine Awp.block ?_
   refine Awp.consP C ?_
   refine rvc_un (rexec_idxS C rfl rfl rfl rfl rfl rfl x (Int.natCast_nonneg _) h5 ?_)
   refine rvP C (.agg [.pv (.lit (.int .i64 x.node)), .pv (.lit (.int .i64 x.site)), .pv (.lit (.bool x.fresh))]) ?_
   refine rvc_un (rexec_prim C (δ := { v := .ptr 8 0, new := [(8, .cells [.pv (.lit (.int .i64 0)), .pv (.lit (.int .i64 0)), .pv (.lit (.bool false))])] }) rfl rfl rfl rfl trivial rfl ?_)
   refine rvc_un (rexec_prim C (δ := { v := .undef, wr := [(8, some (.cells [.pv (.lit (.int .i64 x.node)), .pv (.lit (.int .i64 x.site)), .pv (.lit (.bool x.fresh))]))] }) rfl rfl rfl rfl trivial rfl ?_)
   refine rvc_nil ?_
   refine Awp.consP C ?_
   refine rvP C (.pv (.lit (.int .u64 gone))) ?_
   refine rvP C (.ptr 8 0) ?_
   refine rvP C (.pv (.lit (.int .i64 x.node))) ?_
   refine rvc_un (rexec_call hP C rfl rfl rfl (mHas_calls gone x.node) ?_)
   refine rvP C (.pv (.lit (.bool (!(mHas gone x.node))))) ?_
   refine rvP C (.pv (.lit (.bool (!(mHas gone x.node))))) ?_
   refine rvc_case 21 (!(mHas gone x.node)) rfl (fun h6 => ?_) (fun h6 => ?_)
   ·
    replace hR := of_true h6 hR
    refine rvO C (sS (some l.isEmpty) eMember l) ?_
    refine rvO C (.pv (.lit (.int .i64 (l.length : Int)))) ?_
    refine rvO C (.pv (.lit (.bool (decide ((l.length : Int) > 0))))) ?_
    refine rvO C (.pv (.lit (.bool (decide ((l.length : Int) > 0))))) ?_
    refine rvc_case 25 (decide ((l.length : Int) > 0)) rfl (fun h7 => ?_) (fun h7 => ?_)
    ·
     replace hR := of_true h7 hR
     refine rvS ?_
     refine rvS ?_
     refine rvS ?_
     refine rvO C (.pv (.lit (.bool true))) ?_
     refine rvP C (.pv (.lit (.bool true))) ?_
     refine rvc_nil ?_
     refine Awp.condT (b := true) rfl rfl ?_
     refine Awp.regionP C ?_
     refine rvP C (sS (some l.isEmpty) eMember l) ?_
     refine rvP C (.agg [.pv (.lit (.int .i64 x.node)), .pv (.lit (.int .i64 x.site)), .pv (.lit (.bool x.fresh))]) ?_
     refine rvc_un (rexec_buildSliceF C eMember [x] rfl rfl rfl rfl rfl rfl rfl (by decide) rfl ?_)
     refine rvc_un (rexec_appendG C rfl rfl rfl rfl rfl rfl rfl rfl (fun _ h => by cases h) rfl (en := eMember) (l := l) (D := [x]) rfl rfl h2 (by rw [h2]; rfl) (by simp) (by have := of_decide_eq_true h3; have := of_decide_eq_true h7; first | omega | (simp <;> omega)) (by decide) (nn := (l ++ [x]).length) (by simp) ?_)
     refine rvP C (.sl 34 0 ((l ++ [x]).length) 3 false) ?_
     refine rvc_nil ?_
     refine Awp.regionP C ?_
     refine rvP C (.pv (.lit (.int .i64 (IntKind.i64.wrap ((i : Int) + 1))))) ?_
     refine rvP C (.pv (.lit (.int .i64 (IntKind.i64.wrap ((i : Int) + 1))))) ?_
     refine rvc_nil ?_
     refine ⟨h4, (l ++ [x]), ?_, ?_⟩
     · exact ⟨hR, (by first | omega | (simp <;> omega))⟩
     · exact ⟨fun b => bif b == 900 then 34 else (fun b => b) b, WeakerR.ofL (Ks := [2, 4, 900]) hI ⟨⟨rfl, rfl⟩, ⟨rfl, rfl⟩, ⟨rfl, rfl⟩, ⟨grow_to rfl rfl app_ne rfl rfl, grow_within rfl⟩, ⟨rfl, rfl⟩, ⟨rfl, rfl⟩, ⟨lit_cast (wrap_i64 (by omega) (by omega)), rfl⟩, trivial⟩ (okH_grow (fun _ => rfl) rfl rfl (okH_cons rfl rfl rfl rfl (okH_cons rfl rfl rfl rfl (okH_nil)))) rfl⟩
    ·
     replace hR := of_false h7 hR
     refine rvO C (.ptr 8 2) ?_
     refine rvO C (.pv (.lit (.bool x.fresh))) ?_
     refine rvO C (.pv (.lit (.bool (!x.fresh)))) ?_
     refine rvO C (.pv (.lit (.bool (!x.fresh)))) ?_
     refine rvP C (.pv (.lit (.bool (!x.fresh)))) ?_
     refine rvc_nil ?_
     refine Awp.cond (b := (!x.fresh)) rfl (fun h8 => ?_) (fun h8 => ?_)
     ·
      replace hR := of_true h8 hR
      refine Awp.regionP C ?_
      refine rvP C (sS (some l.isEmpty) eMember l) ?_
      refine rvP C (.agg [.pv (.lit (.int .i64 x.node)), .pv (.lit (.int .i64 x.site)), .pv (.lit (.bool x.fresh))]) ?_
      refine rvc_un (rexec_buildSliceF C eMember [x] rfl rfl rfl rfl rfl rfl rfl (by decide) rfl ?_)
      refine rvc_un (rexec_appendG C rfl rfl rfl rfl rfl rfl rfl rfl (fun _ h => by cases h) rfl (en := eMember) (l := l) (D := [x]) rfl rfl h2 (by rw [h2]; rfl) (by simp) (by have := of_decide_eq_true h3; have := of_decide_eq_false h7; first | omega | (simp <;> omega)) (by decide) (nn := (l ++ [x]).length) (by simp) ?_)
      refine rvP C (.sl 34 0 ((l ++ [x]).length) 3 false) ?_
      refine rvc_nil ?_
      refine Awp.regionP C ?_
      refine rvP C (.pv (.lit (.int .i64 (IntKind.i64.wrap ((i : Int) + 1))))) ?_
      refine rvP C (.pv (.lit (.int .i64 (IntKind.i64.wrap ((i : Int) + 1))))) ?_
      refine rvc_nil ?_
      refine ⟨h4, (l ++ [x]), ?_, ?_⟩
      · exact ⟨hR, (by first | omega | (simp <;> omega))⟩
      · exact ⟨fun b => bif b == 900 then 34 else (fun b => b) b, WeakerR.ofL (Ks := [2, 4, 900]) hI ⟨⟨rfl, rfl⟩, ⟨rfl, rfl⟩, ⟨rfl, rfl⟩, ⟨grow_to rfl rfl app_ne rfl rfl, grow_within rfl⟩, ⟨rfl, rfl⟩, ⟨rfl, rfl⟩, ⟨lit_cast (wrap_i64 (by omega) (by omega)), rfl⟩, trivial⟩ (okH_grow (fun _ => rfl) rfl rfl (okH_cons rfl rfl rfl rfl (okH_cons rfl rfl rfl rfl (okH_nil)))) rfl⟩
     ·
      replace hR := of_false h8 hR
      refine Awp.skip ?_
      refine Awp.regionP C ?_
      refine rvP C (.pv (.lit (.int .i64 (IntKind.i64.wrap ((i : Int) + 1))))) ?_
      refine rvP C (.pv (.lit (.int .i64 (IntKind.i64.wrap ((i : Int) + 1))))) ?_
      refine rvc_nil ?_
      refine ⟨h4, l, ?_, ?_⟩
      · exact ⟨hR, (by first | omega | (simp <;> omega))⟩
      · exact ⟨fun b => b, WeakerR.ofL (Ks := [2, 4, 900]) hI ⟨⟨rfl, rfl⟩, ⟨rfl, rfl⟩, ⟨rfl, rfl⟩, ⟨grow_to_nil rfl h2 (.inr rfl), grow_within rfl⟩, ⟨rfl, rfl⟩, ⟨rfl, rfl⟩, ⟨lit_cast (wrap_i64 (by omega) (by omega)), rfl⟩, trivial⟩ (okH_grow (fun hne => absurd h2 hne) rfl rfl (okH_cons rfl rfl rfl rfl (okH_cons rfl rfl rfl rfl (okH_nil)))) rfl⟩
   ·
    replace hR := of_false h6 hR
    refine rvS ?_
    refine rvS ?_
    refine rvS ?_
    refine rvS ?_
    refine rvc_shutU rfl rfl rfl ?_
    refine rvc_shutU rfl rfl rfl ?_
    refine rvc_shutU rfl rfl rfl ?_
    refine rvS ?_
    refine rvP C (.pv (.lit (.bool false))) ?_
    refine rvc_nil ?_
    refine Awp.condF (b := false) rfl rfl ?_
    refine Awp.skip ?_
    refine Awp.regionP C ?_
    refine rvP C (.pv (.lit (.int .i64 (IntKind.i64.wrap ((i : Int) + 1))))) ?_
    refine rvP C (.pv (.lit (.int .i64 (IntKind.i64.wrap ((i : Int) + 1))))) ?_
    refine rvc_nil ?_
    refine ⟨h4, l, ?_, ?_⟩
    · exact ⟨hR, (by first | omega | (simp <;> omega))⟩
    · exact ⟨fun b => b, WeakerR.ofL (Ks := [2, 4, 900]) hI ⟨⟨rfl, rfl⟩, ⟨rfl, rfl⟩, ⟨rfl, rfl⟩, ⟨grow_to_nil rfl h2 (.inr rfl), grow_within rfl⟩, ⟨rfl, rfl⟩, ⟨rfl, rfl⟩, ⟨lit_cast (wrap_i64 (by omega) (by omega)), rfl⟩, trivial⟩ (okH_grow (fun hne => absurd h2 hne) rfl rfl (okH_cons rfl rfl rfl rfl (okH_cons rfl rfl rfl rfl (okH_nil)))) rfl⟩
  ·
   have h4 : ¬ i < c.members.D.length := by have := of_decide_eq_false h3; omega
   rw [drop_end h4] at hR
   refine Awp.exit ?_
   refine Awp.seq ?_
   refine Awp.block ?_
   refine Awp.consP C ?_
   refine rvP C (.ptr 2 0) ?_
   refine rvP C (.pv (.lit (.int .i64 c.epoch))) ?_
   refine rvP C (.pv (.lit (.bool (decide (c.epoch ≥ 1099511627776))))) ?_
   refine rvP C (.pv (.lit (.bool (decide (c.epoch ≥ 1099511627776))))) ?_
   refine rvc_nil ?_
   refine Awp.cond (b := (decide (c.epoch ≥ 1099511627776))) rfl (fun h9 => ?_) (fun h9 => ?_)
   ·
    replace hR := of_true h9 hR
    refine Awp.consP C ?_
    refine rvP C (.agg [.pv (.lit (.int .i64 0)), sS (some true) eMember []]) ?_
    refine rvc_un (rexec_prim C (δ := { v := .undef, wr := [(4, some (.cells [.pv (.lit (.int .i64 0)), sS (some true) eMember []]))] }) rfl rfl rfl rfl trivial rfl ?_)
    refine rvP C (.pv (.lit (.int .i64 5))) ?_
    refine rvc_nil ?_
    refine Awp.ret ?_
    subst hR
    exact ⟨.inl rfl, rfl⟩
   ·
    replace hR := of_false h9 hR
    refine Awp.consP C ?_
    refine rvP C (sS (some l.isEmpty) eMember l) ?_
    refine rvP C (.pv (.lit (.int .i64 (l.length : Int)))) ?_
    refine rvP C (.ptr 2 1) ?_
    refine rvP C (sS (some c.members.nil) eMember c.members.D) ?_
    refine rvP C (.pv (.lit (.int .i64 (c.members.D.length : Int)))) ?_
    refine rvP C (.pv (.lit (.bool ((l.length : Int) == (c.members.D.length : Int))))) ?_
    refine rvP C (.pv (.lit (.bool ((l.length : Int) == (c.members.D.length : Int))))) ?_
    refine rvc_nil ?_
    refine Awp.cond (b := ((l.length : Int) == (c.members.D.length : Int))) rfl (fun h10 => ?_) (fun h10 => ?_)
    ·
     replace hR := of_true h10 hR
     refine Awp.consP C ?_
     refine rvP C (.agg [.pv (.lit (.int .i64 0)), sS (some true) eMember []]) ?_
     refine rvc_un (rexec_prim C (δ := { v := .undef, wr := [(4, some (.cells [.pv (.lit (.int .i64 0)), sS (some true) eMember []]))] }) rfl rfl rfl rfl trivial rfl ?_)
     refine rvP C (.pv (.lit (.int .i64 81))) ?_
     refine rvc_nil ?_
     refine Awp.ret ?_
     subst hR
     exact ⟨.inl rfl, rfl⟩
    ·
     replace hR := of_false h10 hR
     refine Awp.consP C ?_
     refine rvP C (sS (some l.isEmpty) eMember l) ?_
     refine rvP C (.pv (.lit (.int .i64 (l.length : Int)))) ?_
     refine rvP C (.pv (.lit (.bool ((l.length : Int) == 0)))) ?_
     refine rvP C (.pv (.lit (.bool ((l.length : Int) == 0)))) ?_
     refine rvc_nil ?_
     refine Awp.cond (b := ((l.length : Int) == 0)) rfl (fun h11 => ?_) (fun h11 => ?_)
     ·
      replace hR := of_true h11 hR
      refine Awp.consP C ?_
      refine rvP C (.agg [.pv (.lit (.int .i64 0)), sS (some true) eMember []]) ?_
      refine rvc_un (rexec_prim C (δ := { v := .undef, wr := [(4, some (.cells [.pv (.lit (.int .i64 0)), sS (some true) eMember []]))] }) rfl rfl rfl rfl trivial rfl ?_)
      refine rvP C (.pv (.lit (.int .i64 83))) ?_
      refine rvc_nil ?_
      refine Awp.ret ?_
      subst hR
      exact ⟨.inl rfl, rfl⟩
     ·
      replace hR := of_false h11 hR
      refine Awp.skip ?_
      refine Awp.consP C ?_
      refine rvP C (.agg [.pv (.lit (.int .i64 c.epoch)), sS (some c.members.nil) eMember c.members.D]) ?_
      refine rvP C (sS (some l.isEmpty) eMember l) ?_
      refine rvc_un (rexec_call hP C rfl rfl rfl (after_calls c (Sl.mk l.isEmpty l)) ?_)
      refine rvc_un (rexec_prim C (δ := { v := .undef, wr := [(4, some (.cells [.pv (.lit (.int .i64 ((after c (Sl.mk l.isEmpty l)).epoch))), sS (some (after c (Sl.mk l.isEmpty l)).members.nil) eMember ((after c (Sl.mk l.isEmpty l)).members.D)]))] }) rfl rfl rfl rfl trivial rfl ?_)
      refine rvP C (.pv (.lit (.int .i64 0))) ?_
      refine rvc_nil ?_
      refine Awp.ret ?_
      subst hR
      exact ⟨.inl rfl, rfl⟩
 ·
  refine Awp.wordsR [(1, .pv (.lit (.int .u64 gone))), (2, .ptr 2 0), (4, .ptr 4 0), (6, .sl 900 0 l.length 3 false), (10, sS (some c.members.nil) eMember c.members.D), (11, .pv (.lit (.int .i64 (c.members.D.length : Int)))), (12, .pv (.lit (.int .i64 (i : Int))))] [(900, .cells (encC eMember l)), (2, .cells [.pv (.lit (.int .i64 c.epoch)), sS (some c.members.nil) eMember c.members.D]), (4, .cells [.pv (.lit (.int .i64 0)), sS (some true) eMember []])] [2, 4, 900] (WeakerR.ofL (Ks := [2, 4, 900]) hI ⟨⟨rfl, rfl⟩, ⟨rfl, rfl⟩, ⟨rfl, rfl⟩, ⟨(by exact grow_at_cons (b := 900) (b' := 900) (e := eMember) (l := l) rfl h2 rfl rfl rfl), rfl⟩, ⟨rfl, rfl⟩, ⟨rfl, rfl⟩, ⟨rfl, rfl⟩, trivial⟩ (okH_list (look_cons h2 rfl) rfl rfl (okH_cons (look_cons h2 rfl) rfl rfl rfl (okH_cons (look_cons h2 rfl) rfl rfl rfl (okH_nil)))) rfl) ?_
  refine Awp.consP C ?_
  refine rvP C (.pv (.lit (.bool (decide ((i : Int) < (c.members.D.length : Int)))))) ?_
  refine rvc_nil ?_
  refine Awp.seq ?_
  refine Awp.cond (b := (decide ((i : Int) < (c.members.D.length : Int)))) rfl (fun h12 => ?_) (fun h12 => ?_)
  ·
   have h13 : i < c.members.D.length := by have := of_decide_eq_true h12; omega
   obtain ⟨x, h14⟩ := getX h13
   rw [drop_at h14] at hR
   refine Awp.skip ?_
   refine Awp.seq ?_
   refine Awp.block ?_
   refine Awp.consP C ?_
   refine rvc_un (rexec_idxS C rfl rfl rfl rfl rfl rfl x (Int.natCast_nonneg _) h14 ?_)
   refine rvP C (.agg [.pv (.lit (.int .i64 x.node)), .pv (.lit (.int .i64 x.site)), .pv (.lit (.bool x.fresh))]) ?_
   refine rvc_un (rexec_prim C (δ := { v := .ptr 8 0, new := [(8, .cells [.pv (.lit (.int .i64 0)), .pv (.lit (.int .i64 0)), .pv (.lit (.bool false))])] }) rfl rfl rfl rfl trivial rfl ?_)
   refine rvc_un (rexec_prim C (δ := { v := .undef, wr := [(8, some (.cells [.pv (.lit (.int .i64 x.node)), .pv (.lit (.int .i64 x.site)), .pv (.lit (.bool x.fresh))]))] }) rfl rfl rfl rfl trivial rfl ?_)
   refine rvc_nil ?_
   refine Awp.consP C ?_
   refine rvP C (.pv (.lit (.int .u64 gone))) ?_
   refine rvP C (.ptr 8 0) ?_
   refine rvP C (.pv (.lit (.int .i64 x.node))) ?_
   refine rvc_un (rexec_call hP C rfl rfl rfl (mHas_calls gone x.node) ?_)
   refine rvP C (.pv (.lit (.bool (!(mHas gone x.node))))) ?_
   refine rvP C (.pv (.lit (.bool (!(mHas gone x.node))))) ?_
   refine rvc_case 21 (!(mHas gone x.node)) rfl (fun h15 => ?_) (fun h15 => ?_)
   ·
    replace hR := of_true h15 hR
    refine rvO C (.sl 900 0 l.length 3 false) ?_
    refine rvO C (.pv (.lit (.int .i64 (l.length : Int)))) ?_
    refine rvO C (.pv (.lit (.bool (decide ((l.length : Int) > 0))))) ?_
    refine rvO C (.pv (.lit (.bool (decide ((l.length : Int) > 0))))) ?_
    refine rvc_case 25 (decide ((l.length : Int) > 0)) rfl (fun h16 => ?_) (fun h16 => ?_)
    ·
     replace hR := of_true h16 hR
     refine rvS ?_
     refine rvS ?_
     refine rvS ?_
     refine rvO C (.pv (.lit (.bool true))) ?_
     refine rvP C (.pv (.lit (.bool true))) ?_
     refine rvc_nil ?_
     refine Awp.condT (b := true) rfl rfl ?_
     refine Awp.regionP C ?_
     refine rvP C (.sl 900 0 l.length 3 false) ?_
     refine rvP C (.agg [.pv (.lit (.int .i64 x.node)), .pv (.lit (.int .i64 x.site)), .pv (.lit (.bool x.fresh))]) ?_
     refine rvc_un (rexec_buildSliceF C eMember [x] rfl rfl rfl rfl rfl rfl rfl (by decide) rfl ?_)
     refine rvc_un (rexec_append C rfl rfl rfl rfl rfl rfl rfl rfl (fun _ h => by cases h) rfl (en := eMember) (D0 := l) (D := [x]) rfl rfl rfl rfl (by have := of_decide_eq_true h12; have := of_decide_eq_true h16; first | omega | (simp <;> omega)) (by decide) (nn := (l ++ [x]).length) (by simp) ?_)
     refine rvP C (.sl 34 0 ((l ++ [x]).length) 3 false) ?_
     refine rvc_nil ?_
     refine Awp.regionP C ?_
     refine rvP C (.pv (.lit (.int .i64 (IntKind.i64.wrap ((i : Int) + 1))))) ?_
     refine rvP C (.pv (.lit (.int .i64 (IntKind.i64.wrap ((i : Int) + 1))))) ?_
     refine rvc_nil ?_
     refine ⟨h13, (l ++ [x]), ?_, ?_⟩
     · exact ⟨hR, (by first | omega | (simp <;> omega))⟩
     · exact ⟨fun b => bif b == 900 then 34 else (fun b => b) b, WeakerR.ofL (Ks := [2, 4, 900]) hI ⟨⟨rfl, rfl⟩, ⟨rfl, rfl⟩, ⟨rfl, rfl⟩, ⟨grow_to rfl rfl app_ne rfl rfl, grow_within rfl⟩, ⟨rfl, rfl⟩, ⟨rfl, rfl⟩, ⟨lit_cast (wrap_i64 (by omega) (by omega)), rfl⟩, trivial⟩ (okH_grow (fun _ => rfl) rfl rfl (okH_cons rfl rfl rfl rfl (okH_cons rfl rfl rfl rfl (okH_nil)))) rfl⟩
    ·
     replace hR := of_false h16 hR
     refine rvO C (.ptr 8 2) ?_
     refine rvO C (.pv (.lit (.bool x.fresh))) ?_
     refine rvO C (.pv (.lit (.bool (!x.fresh)))) ?_
     refine rvO C (.pv (.lit (.bool (!x.fresh)))) ?_
     refine rvP C (.pv (.lit (.bool (!x.fresh)))) ?_
     refine rvc_nil ?_
     refine Awp.cond (b := (!x.fresh)) rfl (fun h17 => ?_) (fun h17 => ?_)
     ·
      replace hR := of_true h17 hR
      refine Awp.regionP C ?_
      refine rvP C (.sl 900 0 l.length 3 false) ?_
      refine rvP C (.agg [.pv (.lit (.int .i64 x.node)), .pv (.lit (.int .i64 x.site)), .pv (.lit (.bool x.fresh))]) ?_
      refine rvc_un (rexec_buildSliceF C eMember [x] rfl rfl rfl rfl rfl rfl rfl (by decide) rfl ?_)
      refine rvc_un (rexec_append C rfl rfl rfl rfl rfl rfl rfl rfl (fun _ h => by cases h) rfl (en := eMember) (D0 := l) (D := [x]) rfl rfl rfl rfl (by have := of_decide_eq_true h12; have := of_decide_eq_false h16; first | omega | (simp <;> omega)) (by decide) (nn := (l ++ [x]).length) (by simp) ?_)
      refine rvP C (.sl 34 0 ((l ++ [x]).length) 3 false) ?_
      refine rvc_nil ?_
      refine Awp.regionP C ?_
      refine rvP C (.pv (.lit (.int .i64 (IntKind.i64.wrap ((i : Int) + 1))))) ?_
      refine rvP C (.pv (.lit (.int .i64 (IntKind.i64.wrap ((i : Int) + 1))))) ?_
      refine rvc_nil ?_
      refine ⟨h13, (l ++ [x]), ?_, ?_⟩
      · exact ⟨hR, (by first | omega | (simp <;> omega))⟩
      · exact ⟨fun b => bif b == 900 then 34 else (fun b => b) b, WeakerR.ofL (Ks := [2, 4, 900]) hI ⟨⟨rfl, rfl⟩, ⟨rfl, rfl⟩, ⟨rfl, rfl⟩, ⟨grow_to rfl rfl app_ne rfl rfl, grow_within rfl⟩, ⟨rfl, rfl⟩, ⟨rfl, rfl⟩, ⟨lit_cast (wrap_i64 (by omega) (by omega)), rfl⟩, trivial⟩ (okH_grow (fun _ => rfl) rfl rfl (okH_cons rfl rfl rfl rfl (okH_cons rfl rfl rfl rfl (okH_nil)))) rfl⟩
     ·
      replace hR := of_false h17 hR
      refine Awp.skip ?_
      refine Awp.regionP C ?_
      refine rvP C (.pv (.lit (.int .i64 (IntKind.i64.wrap ((i : Int) + 1))))) ?_
      refine rvP C (.pv (.lit (.int .i64 (IntKind.i64.wrap ((i : Int) + 1))))) ?_
      refine rvc_nil ?_
      refine ⟨h13, l, ?_, ?_⟩
      · exact ⟨hR, (by first | omega | (simp <;> omega))⟩
      · exact ⟨fun b => b, WeakerR.ofL (Ks := [2, 4, 900]) hI ⟨⟨rfl, rfl⟩, ⟨rfl, rfl⟩, ⟨rfl, rfl⟩, ⟨grow_to rfl rfl h2 rfl rfl, grow_within rfl⟩, ⟨rfl, rfl⟩, ⟨rfl, rfl⟩, ⟨lit_cast (wrap_i64 (by omega) (by omega)), rfl⟩, trivial⟩ (okH_grow (fun _ => rfl) rfl rfl (okH_cons rfl rfl rfl rfl (okH_cons rfl rfl rfl rfl (okH_nil)))) rfl⟩
   ·
    replace hR := of_false h15 hR
    refine rvS ?_
    refine rvS ?_
    refine rvS ?_
    refine rvS ?_
    refine rvc_shutU rfl rfl rfl ?_
    refine rvc_shutU rfl rfl rfl ?_
    refine rvc_shutU rfl rfl rfl ?_
    refine rvS ?_
    refine rvP C (.pv (.lit (.bool false))) ?_
    refine rvc_nil ?_
    refine Awp.condF (b := false) rfl rfl ?_
    refine Awp.skip ?_
    refine Awp.regionP C ?_
    refine rvP C (.pv (.lit (.int .i64 (IntKind.i64.wrap ((i : Int) + 1))))) ?_
    refine rvP C (.pv (.lit (.int .i64 (IntKind.i64.wrap ((i : Int) + 1))))) ?_
    refine rvc_nil ?_
    refine ⟨h13, l, ?_, ?_⟩
    · exact ⟨hR, (by first | omega | (simp <;> omega))⟩
    · exact ⟨fun b => b, WeakerR.ofL (Ks := [2, 4, 900]) hI ⟨⟨rfl, rfl⟩, ⟨rfl, rfl⟩, ⟨rfl, rfl⟩, ⟨grow_to rfl rfl h2 rfl rfl, grow_within rfl⟩, ⟨rfl, rfl⟩, ⟨rfl, rfl⟩, ⟨lit_cast (wrap_i64 (by omega) (by omega)), rfl⟩, trivial⟩ (okH_grow (fun _ => rfl) rfl rfl (okH_cons rfl rfl rfl rfl (okH_cons rfl rfl rfl rfl (okH_nil)))) rfl⟩
  ·
   have h13 : ¬ i < c.members.D.length := by have := of_decide_eq_false h12; omega
   rw [drop_end h13] at hR
   refine Awp.exit ?_
   refine Awp.seq ?_
   refine Awp.block ?_
   refine Awp.consP C ?_
   refine rvP C (.ptr 2 0) ?_
   refine rvP C (.pv (.lit (.int .i64 c.epoch))) ?_
   refine rvP C (.pv (.lit (.bool (decide (c.epoch ≥ 1099511627776))))) ?_
   refine rvP C (.pv (.lit (.bool (decide (c.epoch ≥ 1099511627776))))) ?_
   refine rvc_nil ?_
   refine Awp.cond (b := (decide (c.epoch ≥ 1099511627776))) rfl (fun h18 => ?_) (fun h18 => ?_)
   ·
    replace hR := of_true h18 hR
    refine Awp.consP C ?_
    refine rvP C (.agg [.pv (.lit (.int .i64 0)), sS (some true) eMember []]) ?_
    refine rvc_un (rexec_prim C (δ := { v := .undef, wr := [(4, some (.cells [.pv (.lit (.int .i64 0)), sS (some true) eMember []]))] }) rfl rfl rfl rfl trivial rfl ?_)
    refine rvP C (.pv (.lit (.int .i64 5))) ?_
    refine rvc_nil ?_
    refine Awp.ret ?_
    subst hR
    exact ⟨.inl rfl, rfl⟩
   ·
    replace hR := of_false h18 hR
    refine Awp.consP C ?_
    refine rvP C (.sl 900 0 l.length 3 false) ?_
    refine rvP C (.pv (.lit (.int .i64 (l.length : Int)))) ?_
    refine rvP C (.ptr 2 1) ?_
    refine rvP C (sS (some c.members.nil) eMember c.members.D) ?_
    refine rvP C (.pv (.lit (.int .i64 (c.members.D.length : Int)))) ?_
    refine rvP C (.pv (.lit (.bool ((l.length : Int) == (c.members.D.length : Int))))) ?_
    refine rvP C (.pv (.lit (.bool ((l.length : Int) == (c.members.D.length : Int))))) ?_
    refine rvc_nil ?_
    refine Awp.cond (b := ((l.length : Int) == (c.members.D.length : Int))) rfl (fun h19 => ?_) (fun h19 => ?_)
    ·
     replace hR := of_true h19 hR
     refine Awp.consP C ?_
     refine rvP C (.agg [.pv (.lit (.int .i64 0)), sS (some true) eMember []]) ?_
     refine rvc_un (rexec_prim C (δ := { v := .undef, wr := [(4, some (.cells [.pv (.lit (.int .i64 0)), sS (some true) eMember []]))] }) rfl rfl rfl rfl trivial rfl ?_)
     refine rvP C (.pv (.lit (.int .i64 81))) ?_
     refine rvc_nil ?_
     refine Awp.ret ?_
     subst hR
     exact ⟨.inl rfl, rfl⟩
    ·
     replace hR := of_false h19 hR
     refine Awp.consP C ?_
     refine rvP C (.sl 900 0 l.length 3 false) ?_
     refine rvP C (.pv (.lit (.int .i64 (l.length : Int)))) ?_
     refine rvP C (.pv (.lit (.bool ((l.length : Int) == 0)))) ?_
     refine rvP C (.pv (.lit (.bool ((l.length : Int) == 0)))) ?_
     refine rvc_nil ?_
     refine Awp.cond (b := ((l.length : Int) == 0)) rfl (fun h20 => ?_) (fun h20 => ?_)
     ·
      replace hR := of_true h20 hR
      refine Awp.consP C ?_
      refine rvP C (.agg [.pv (.lit (.int .i64 0)), sS (some true) eMember []]) ?_
      refine rvc_un (rexec_prim C (δ := { v := .undef, wr := [(4, some (.cells [.pv (.lit (.int .i64 0)), sS (some true) eMember []]))] }) rfl rfl rfl rfl trivial rfl ?_)
      refine rvP C (.pv (.lit (.int .i64 83))) ?_
      refine rvc_nil ?_
      refine Awp.ret ?_
      subst hR
      exact ⟨.inl rfl, rfl⟩
     ·
      replace hR := of_false h20 hR
      refine Awp.skip ?_
      refine Awp.freezeW 900 (encL eMember l) ?_ [(2, .ptr 2 0), (4, .ptr 4 0), (6, sS (some l.isEmpty) eMember l)] [(2, .cells [.pv (.lit (.int .i64 c.epoch)), sS (some c.members.nil) eMember c.members.D]), (4, .cells [.pv (.lit (.int .i64 0)), sS (some true) eMember []])] ?_ ?_ ?_
      · rfl
      · exact ⟨⟨_, rfl, .inl (.inl rfl)⟩, ⟨_, rfl, .inl (.inl rfl)⟩, ⟨_, rfl, .inl (.inr ⟨_, _, _, rfl, by rw [ne_isEmpty h2]; rfl⟩)⟩, trivial⟩
      · exact ⟨⟨(by show (2 : Nat) ≠ 900; decide), .inl rfl⟩, ⟨(by show (4 : Nat) ≠ 900; decide), .inl rfl⟩, trivial⟩
      refine Awp.consP C ?_
      refine rvP C (.agg [.pv (.lit (.int .i64 c.epoch)), sS (some c.members.nil) eMember c.members.D]) ?_
      refine rvP C (sS (some l.isEmpty) eMember l) ?_
      refine rvc_un (rexec_call hP C rfl rfl rfl (after_calls c (Sl.mk l.isEmpty l)) ?_)
      refine rvc_un (rexec_prim C (δ := { v := .undef, wr := [(4, some (.cells [.pv (.lit (.int .i64 ((after c (Sl.mk l.isEmpty l)).epoch))), sS (some (after c (Sl.mk l.isEmpty l)).members.nil) eMember ((after c (Sl.mk l.isEmpty l)).members.D)]))] }) rfl rfl rfl rfl trivial rfl ?_)
      refine rvP C (.pv (.lit (.int .i64 0))) ?_
      refine rvc_nil ?_
      refine Awp.ret ?_
      subst hR
      exact ⟨.inl rfl, rfl⟩
def indexFunc_l0 (f : Member → Bool) : List Member → Nat → Int
  | [], _ => (-1)
  | x :: xs, i => (bif (f x) then (i : Int) else indexFunc_l0 f xs (i + 1) )
def indexFunc (s : (Sl Member)) (f : Member → Bool) : Int :=
  indexFunc_l0 f s.D 0
theorem indexFunc_calls (s : (Sl Member)) (f : Member → Bool) (g1 : Nat) (caps1 : List AV) (hp1 : ∀ (x0 : Member), PCalls Try.prog g1 ([.agg [.pv (.lit (.int .i64 x0.node)), .pv (.lit (.int .i64 x0.site)), .pv (.lit (.bool x0.fresh))]] ++ caps1) (.pv (.lit (.bool (f x0))))) (hw1 : AV.withinL (fun _ => false) caps1 = true) (hl1 : s.D.length ≤ 9223372036854775807) : PCalls Try.prog 74 [sS (some s.nil) eMember s.D, .fn g1 [] caps1] (.pv (.lit (.int .i64 (indexFunc s f)))) := by
 generalize hR : indexFunc s f = R
 refine PCalls.of_body tabOk Try.func74 rfl rfl rfl (by simp [AV.withinL, AV.within, sS, hw1]) rfl mixed fun E hP C hI => ?_
 refine Awp.consP C ?_
 refine rvP C (.pv (.lit (.int .i64 0))) ?_
 refine rvc_nil ?_
 refine Awp.seq ?_
 refine Awp.consP C ?_
 refine rvP C (sS (some s.nil) eMember s.D) ?_
 refine rvP C (.pv (.lit (.int .i64 (s.D.length : Int)))) ?_
 refine rvP C (.pv (.lit (.int .i64 0))) ?_
 refine rvc_nil ?_
 refine Awp.block ?_
 refine Awp.forR (σ := Unit) (s.D.length) (fun i _v => [(0, sS (some s.nil) eMember s.D), (1, .fn g1 [] caps1), (7, .pv (.lit (.int .i64 (s.D.length : Int)))), (8, .pv (.lit (.int .i64 (i : Int))))]) (fun i _v => []) [] (fun i _v => indexFunc_l0 f (s.D.drop i) i  = R) () ?_ ?_ (fun i _v h1 hR => ?_)
 · exact hR
 · exact ⟨fun b => b, WeakerR.ofL (Ks := []) hI ⟨⟨rfl, rfl⟩, ⟨fn_to rfl hw1, fn_win hw1⟩, ⟨rfl, rfl⟩, ⟨rfl, rfl⟩, trivial⟩ (okH_nil) rfl⟩
 refine Awp.consP C ?_
 refine rvP C (.pv (.lit (.bool (decide ((i : Int) < (s.D.length : Int)))))) ?_
 refine rvc_nil ?_
 refine Awp.seq ?_
 refine Awp.cond (b := (decide ((i : Int) < (s.D.length : Int)))) rfl (fun h2 => ?_) (fun h2 => ?_)
 ·
  have h3 : i < s.D.length := by have := of_decide_eq_true h2; omega
  obtain ⟨x, h4⟩ := getX h3
  rw [drop_at h4] at hR
  refine Awp.skip ?_
  refine Awp.seq ?_
  refine Awp.block ?_
  refine Awp.consP C ?_
  refine rvP C (.pv (.lit (.int .i64 (i : Int)))) ?_
  refine rvP C (.pv (.lit (.int .i64 (i : Int)))) ?_
  refine rvc_nil ?_
  refine Awp.consP C ?_
  refine rvP C (.fn g1 [] caps1) ?_
  refine rvP C (sS (some s.nil) eMember s.D) ?_
  refine rvP C (.pv (.lit (.int .i64 (i : Int)))) ?_
  refine rvc_un (rexec_idxS C rfl rfl rfl rfl rfl rfl x (Int.natCast_nonneg _) h4 ?_)
  refine rvP C (.agg [.pv (.lit (.int .i64 x.node)), .pv (.lit (.int .i64 x.site)), .pv (.lit (.bool x.fresh))]) ?_
  refine rvc_un (rexec_callV hP C rfl rfl rfl rfl (hp1 x) rfl ?_)
  refine rvc_nil ?_
  refine Awp.cond (b := (f x)) rfl (fun h5 => ?_) (fun h5 => ?_)
  ·
   replace hR := of_true h5 hR
   refine Awp.consP C ?_
   refine rvP C (.pv (.lit (.int .i64 (i : Int)))) ?_
   refine rvP C (.pv (.lit (.int .i64 (i : Int)))) ?_
   refine rvc_nil ?_
   refine Awp.ret ?_
   subst hR
   exact ⟨.inl rfl, rfl⟩
  ·
   replace hR := of_false h5 hR
   refine Awp.skip ?_
   refine Awp.regionP C ?_
   refine rvP C (.pv (.lit (.int .i64 (IntKind.i64.wrap ((i : Int) + 1))))) ?_
   refine rvP C (.pv (.lit (.int .i64 (IntKind.i64.wrap ((i : Int) + 1))))) ?_
   refine rvc_nil ?_
   refine ⟨h3, (), ?_, ?_⟩
   · exact hR
   · exact ⟨fun b => b, WeakerR.ofL (Ks := []) hI ⟨⟨rfl, rfl⟩, ⟨fn_to rfl hw1, fn_win hw1⟩, ⟨rfl, rfl⟩, ⟨lit_cast (wrap_i64 (by omega) (by omega)), rfl⟩, trivial⟩ (okH_nil) rfl⟩
 ·
  have h3 : ¬ i < s.D.length := by have := of_decide_eq_false h2; omega
  rw [drop_end h3] at hR
  refine Awp.exit ?_
  refine Awp.consP C ?_
  refine rvP C (.pv (.lit (.int .i64 (-1)))) ?_
  refine rvc_nil ?_
  refine Awp.ret ?_
  subst hR
  exact ⟨.inl rfl, rfl⟩
def placeF (m : Member) (c0 : Int) : Bool :=
  (m.node == c0)
theorem placeF_calls (m : Member) (c0 : Int)  : PCalls Try.prog 75 [.agg [.pv (.lit (.int .i64 m.node)), .pv (.lit (.int .i64 m.site)), .pv (.lit (.bool m.fresh))], .rp [.lit (.int .i64 c0)]] (.pv (.lit (.bool (placeF m c0)))) := by
 generalize hR : placeF m c0 = R
 refine PCalls.of_body tabOk Try.func75 rfl rfl rfl rfl rfl mixed fun E hP C hI => ?_
 refine Awp.consP C ?_
 refine rvc_un (rexec_prim C (δ := { v := .ptr 2 0, new := [(2, .cells [.pv (.lit (.int .i64 m.node)), .pv (.lit (.int .i64 m.site)), .pv (.lit (.bool m.fresh))])] }) rfl rfl rfl rfl trivial rfl ?_)
 refine rvP C (.pv (.lit (.bool false))) ?_
 refine rvc_nil ?_
 refine Awp.consP C ?_
 refine rvP C (.ptr 2 0) ?_
 refine rvP C (.pv (.lit (.int .i64 m.node))) ?_
 refine rvP C (.pv (.lit (.int .i64 c0))) ?_
 refine rvP C (.pv (.lit (.bool (m.node == c0)))) ?_
 refine rvP C (.pv (.lit (.bool (m.node == c0)))) ?_
 refine rvc_nil ?_
 refine Awp.ret ?_
 subst hR
 exact ⟨.inl rfl, rfl⟩
def placeIn (c : Chain) (node : Int) : Int :=
  (indexFunc c.members (fun x0 => placeF x0 node))
theorem placeIn_calls (c : Chain) (node : Int) (hl1 : c.members.D.length ≤ 9223372036854775807) : PCalls Try.prog 65 [.agg [.pv (.lit (.int .i64 c.epoch)), sS (some c.members.nil) eMember c.members.D], .pv (.lit (.int .i64 node))] (.pv (.lit (.int .i64 (placeIn c node)))) := by
 generalize hR : placeIn c node = R
 refine PCalls.of_body tabOk Try.func65 rfl rfl rfl rfl rfl mixed fun E hP C hI => ?_
 refine Awp.consP C ?_
 refine rvc_un (rexec_prim C (δ := { v := .ptr 2 0, new := [(2, .cells [.pv (.lit (.int .i64 c.epoch)), sS (some c.members.nil) eMember c.members.D])] }) rfl rfl rfl rfl trivial rfl ?_)
 refine rvc_un (rexec_boxF C [.lit (.int .i64 node)] rfl rfl rfl rfl ?_)
 refine rvP C (.pv (.lit (.int .i64 0))) ?_
 refine rvc_nil ?_
 refine Awp.consP C ?_
 refine rvP C (.ptr 2 1) ?_
 refine rvP C (sS (some c.members.nil) eMember c.members.D) ?_
 refine rvP C (.fn 75 [] [.rp [.lit (.int .i64 node)]]) ?_
 refine rvc_un (rexec_call hP C rfl rfl rfl (indexFunc_calls c.members (fun x0 => placeF x0 node) 75 [.rp [.lit (.int .i64 node)]] (fun x0 => placeF_calls x0 node) rfl hl1) ?_)
 refine rvP C (.pv (.lit (.int .i64 (indexFunc c.members (fun x0 => placeF x0 node))))) ?_
 refine rvc_nil ?_
 refine Awp.ret ?_
 subst hR
 exact ⟨.inl rfl, rfl⟩
def rPlace_l0 (node : Int) : List Member → Nat → Int
  | [], _ => (-1)
  | x :: xs, i => (bif (x.node == node) then (i : Int) else rPlace_l0 node xs (i + 1) )
def rPlace (c : Chain) (node : Int) : Int :=
  (bif ((rCheck c) != 0) then (-1) else rPlace_l0 node c.members.D 0 )
theorem rPlace_calls (c : Chain) (node : Int) (hl1 : c.members.D.length ≤ 9223372036854775807) : PCalls Try.prog 53 [.agg [.pv (.lit (.int .i64 c.epoch)), sS (some c.members.nil) eMember c.members.D], .pv (.lit (.int .i64 node))] (.pv (.lit (.int .i64 (rPlace c node)))) := by
 generalize hR : rPlace c node = R
 refine PCalls.of_body tabOk Try.func53 rfl rfl rfl rfl rfl mixed fun E hP C hI => ?_
 refine Awp.consP C ?_
 refine rvc_un (rexec_prim C (δ := { v := .ptr 2 0, new := [(2, .cells [.pv (.lit (.int .i64 c.epoch)), sS (some c.members.nil) eMember c.members.D])] }) rfl rfl rfl rfl trivial rfl ?_)
 refine rvP C (.pv (.lit (.int .i64 0))) ?_
 refine rvc_nil ?_
 refine Awp.seq ?_
 refine Awp.consP C ?_
 refine rvP C (.agg [.pv (.lit (.int .i64 c.epoch)), sS (some c.members.nil) eMember c.members.D]) ?_
 refine rvc_un (rexec_call hP C rfl rfl rfl (rCheck_calls c hl1) ?_)
 refine rvP C (.pv (.lit (.bool ((rCheck c) != 0)))) ?_
 refine rvc_nil ?_
 refine Awp.cond (b := ((rCheck c) != 0)) rfl (fun h1 => ?_) (fun h1 => ?_)
 ·
  replace hR := of_true h1 hR
  refine Awp.consP C ?_
  refine rvP C (.pv (.lit (.int .i64 (-1)))) ?_
  refine rvc_nil ?_
  refine Awp.ret ?_
  subst hR
  exact ⟨.inl rfl, rfl⟩
 ·
  replace hR := of_false h1 hR
  refine Awp.skip ?_
  refine Awp.seq ?_
  refine Awp.consP C ?_
  refine rvP C (.ptr 2 1) ?_
  refine rvP C (sS (some c.members.nil) eMember c.members.D) ?_
  refine rvP C (.pv (.lit (.int .i64 (c.members.D.length : Int)))) ?_
  refine rvP C (.pv (.lit (.int .i64 0))) ?_
  refine rvc_nil ?_
  refine Awp.block ?_
  refine Awp.forR (σ := Unit) (c.members.D.length) (fun i _v => [(1, .pv (.lit (.int .i64 node))), (11, sS (some c.members.nil) eMember c.members.D), (12, .pv (.lit (.int .i64 (c.members.D.length : Int)))), (13, .pv (.lit (.int .i64 (i : Int))))]) (fun i _v => []) [] (fun i _v => rPlace_l0 node (c.members.D.drop i) i  = R) () ?_ ?_ (fun i _v h2 hR => ?_)
  · exact hR
  · exact ⟨fun b => b, WeakerR.ofL (Ks := []) hI ⟨⟨rfl, rfl⟩, ⟨rfl, rfl⟩, ⟨rfl, rfl⟩, ⟨rfl, rfl⟩, trivial⟩ (okH_nil) rfl⟩
  refine Awp.consP C ?_
  refine rvP C (.pv (.lit (.bool (decide ((i : Int) < (c.members.D.length : Int)))))) ?_
  refine rvc_nil ?_
  refine Awp.seq ?_
  refine Awp.cond (b := (decide ((i : Int) < (c.members.D.length : Int)))) rfl (fun h3 => ?_) (fun h3 => ?_)
  ·
   have h4 : i < c.members.D.length := by have := of_decide_eq_true h3; omega
   obtain ⟨x, h5⟩ := getX h4
   rw [drop_at h5] at hR
   refine Awp.skip ?_
   refine Awp.seq ?_
   refine Awp.block ?_
   refine Awp.consP C ?_
   refine rvP C (.pv (.lit (.int .i64 (i : Int)))) ?_
   refine rvc_un (rexec_idxS C rfl rfl rfl rfl rfl rfl x (Int.natCast_nonneg _) h5 ?_)
   refine rvP C (.agg [.pv (.lit (.int .i64 x.node)), .pv (.lit (.int .i64 x.site)), .pv (.lit (.bool x.fresh))]) ?_
   refine rvc_un (rexec_prim C (δ := { v := .ptr 6 0, new := [(6, .cells [.pv (.lit (.int .i64 0)), .pv (.lit (.int .i64 0)), .pv (.lit (.bool false))])] }) rfl rfl rfl rfl trivial rfl ?_)
   refine rvP C (.pv (.lit (.int .i64 (i : Int)))) ?_
   refine rvc_un (rexec_prim C (δ := { v := .undef, wr := [(6, some (.cells [.pv (.lit (.int .i64 x.node)), .pv (.lit (.int .i64 x.site)), .pv (.lit (.bool x.fresh))]))] }) rfl rfl rfl rfl trivial rfl ?_)
   refine rvc_nil ?_
   refine Awp.consP C ?_
   refine rvP C (.ptr 6 0) ?_
   refine rvP C (.pv (.lit (.int .i64 x.node))) ?_
   refine rvP C (.pv (.lit (.int .i64 node))) ?_
   refine rvP C (.pv (.lit (.bool (x.node == node)))) ?_
   refine rvc_nil ?_
   refine Awp.cond (b := (x.node == node)) rfl (fun h6 => ?_) (fun h6 => ?_)
   ·
    replace hR := of_true h6 hR
    refine Awp.consP C ?_
    refine rvP C (.pv (.lit (.int .i64 (i : Int)))) ?_
    refine rvP C (.pv (.lit (.int .i64 (i : Int)))) ?_
    refine rvc_nil ?_
    refine Awp.ret ?_
    subst hR
    exact ⟨.inl rfl, rfl⟩
   ·
    replace hR := of_false h6 hR
    refine Awp.skip ?_
    refine Awp.regionP C ?_
    refine rvP C (.pv (.lit (.int .i64 (IntKind.i64.wrap ((i : Int) + 1))))) ?_
    refine rvP C (.pv (.lit (.int .i64 (IntKind.i64.wrap ((i : Int) + 1))))) ?_
    refine rvc_nil ?_
    refine ⟨h4, (), ?_, ?_⟩
    · exact hR
    · exact ⟨fun b => b, WeakerR.ofL (Ks := []) hI ⟨⟨rfl, rfl⟩, ⟨rfl, rfl⟩, ⟨rfl, rfl⟩, ⟨lit_cast (wrap_i64 (by omega) (by omega)), rfl⟩, trivial⟩ (okH_nil) rfl⟩
  ·
   have h4 : ¬ i < c.members.D.length := by have := of_decide_eq_false h3; omega
   rw [drop_end h4] at hR
   refine Awp.exit ?_
   refine Awp.consP C ?_
   refine rvP C (.pv (.lit (.int .i64 (-1)))) ?_
   refine rvc_nil ?_
   refine Awp.ret ?_
   subst hR
   exact ⟨.inl rfl, rfl⟩
end Go.Proofs.Ytaffaalpgpepeaa
/- Sets of small numbers as bits, in plain words. No conditions. -/
namespace Go.Proofs.Ytaffaalpgpepeaa
open Go.Am
theorem wrap64 (n : Int) : IntKind.u64.wrap n = n % 18446744073709551616 := by
  simp [IntKind.wrap, IntKind.bits, IntKind.signed]
theorem bv64 (a : Nat) (h : a < 18446744073709551616) : (BitVec.ofInt 64 (a : Int)).toNat = a := by
  rw [BitVec.toNat_ofInt]
  have : ((2 ^ 64 : Nat) : Int) = 18446744073709551616 := by decide
  rw [this]; omega
theorem or64 {a b : Nat} (ha : a < 18446744073709551616) (hb : b < 18446744073709551616) : bitI .or .u64 a b = ((a ||| b : Nat) : Int) := by
  have : a ||| b < 18446744073709551616 := Nat.or_lt_two_pow (n := 64) ha hb
  show IntKind.u64.wrap (((BitVec.ofInt 64 (a : Int) ||| BitVec.ofInt 64 (b : Int) : BitVec 64).toNat : Nat) : Int) = _
  rw [BitVec.toNat_or, bv64 a ha, bv64 b hb, wrap64]; omega
theorem and64 {a b : Nat} (ha : a < 18446744073709551616) (hb : b < 18446744073709551616) : bitI .and .u64 a b = ((a &&& b : Nat) : Int) := by
  have : a &&& b < 18446744073709551616 := Nat.lt_of_le_of_lt Nat.and_le_left ha
  show IntKind.u64.wrap (((BitVec.ofInt 64 (a : Int) &&& BitVec.ofInt 64 (b : Int) : BitVec 64).toNat : Nat) : Int) = _
  rw [BitVec.toNat_and, bv64 a ha, bv64 b hb, wrap64]; omega
theorem shr64 {a n : Nat} (hn : n < 64) : shrI .u64 (a : Int) (n : Int) = ((a >>> n : Nat) : Int) := by
  show (a : Int) / 2 ^ (min ((n : Int).toNat) 64) = _
  rw [Int.toNat_natCast, Nat.min_eq_left (by omega), Nat.shiftRight_eq_div_pow]
  simp
theorem shl64 {n : Nat} (hn : n < 64) : shlI .u64 1 (n : Int) = ((2 ^ n : Nat) : Int) := by
  show IntKind.u64.wrap (1 * 2 ^ (min ((n : Int).toNat) 64)) = _
  have h : 2 ^ n < 2 ^ 64 := Nat.pow_lt_pow_right (by decide) hn
  have h' : (2 : Nat) ^ 64 = 18446744073709551616 := by decide
  rw [Int.toNat_natCast, Nat.min_eq_left (by omega), wrap64, Int.one_mul]
  have e : (2 : Int) ^ n = ((2 ^ n : Nat) : Int) := by simp
  rw [e]
  rw [h'] at h
  clear e h'
  generalize (2 : Nat) ^ n = p at h ⊢
  omega
theorem in_nat {n : Nat} : mIn (n : Int) = decide (n < 64) := by
  unfold mIn
  have h0 : decide ((n : Int) ≥ 0) = true := by simp
  rw [h0]
  simp only [cond_true]
  congr 1
  exact propext ⟨fun h => by omega, fun h => by omega⟩
theorem has_nat {S n : Nat} (hS : S < 18446744073709551616) (hn : n < 64) : mHas (S : Int) (n : Int) = S.testBit n := by
  unfold mHas
  have hlt : S >>> n < 18446744073709551616 := Nat.lt_of_le_of_lt (Nat.shiftRight_le _ _) hS
  have h1 : (1 : Int) = ((1 : Nat) : Int) := rfl
  rw [in_nat, decide_eq_true hn, cond_true, shr64 hn, h1, and64 hlt (by decide)]
  rw [Nat.testBit_eq_decide_div_mod_eq, Nat.and_one_is_mod, Nat.shiftRight_eq_div_pow]
  by_cases h : S / 2 ^ n % 2 = 1
  · simp [h]
  · have : S / 2 ^ n % 2 = 0 := by omega
    simp [this]
theorem with_nat {S n : Nat} (hS : S < 18446744073709551616) (hn : n < 64) : mWith (S : Int) (n : Int) = ((S ||| 2 ^ n : Nat) : Int) := by
  unfold mWith
  have h : 2 ^ n < 2 ^ 64 := Nat.pow_lt_pow_right (by decide) hn
  have h' : (2 : Nat) ^ 64 = 18446744073709551616 := by decide
  rw [in_nat, decide_eq_true hn, Bool.not_true, cond_false, shl64 hn, or64 hS (by omega)]
theorem with_lt {S n : Nat} (hS : S < 18446744073709551616) (hn : n < 64) : S ||| 2 ^ n < 18446744073709551616 :=
  Nat.or_lt_two_pow (n := 64) hS (Nat.pow_lt_pow_right (by decide) hn)
theorem with_out {s n : Int} (h : mIn n = false) : mWith s n = s := by unfold mWith; rw [h]; rfl
theorem has_with {S n m : Nat} (hS : S < 18446744073709551616) (hn : n < 64) (hm : m < 64) : mHas (mWith (S : Int) (n : Int)) (m : Int) = (mHas (S : Int) (m : Int) || decide (n = m)) := by
  rw [with_nat hS hn, has_nat (with_lt hS hn) hm, has_nat hS hm, Nat.testBit_or, Nat.testBit_two_pow]
end Go.Proofs.Ytaffaalpgpepeaa
/- Going through the bits of a set ends. No conditions. -/
namespace Go.Proofs.Ytaffaalpgpepeaa
open Go.Am
/-- How many bits are set. -/
def bitsN (n : Nat) : Nat := (List.range 64).countP fun k => n.testBit k
def allM (s : Int) : Nat := if 0 ≤ s ∧ s < 18446744073709551616 then bitsN s.toNat else 65
theorem bit_range (op : BinOp) (a b : Int) : 0 ≤ bitI op .u64 a b ∧ bitI op .u64 a b < 18446744073709551616 := by
  show 0 ≤ IntKind.u64.wrap _ ∧ IntKind.u64.wrap _ < _
  rw [wrap64]; omega
theorem count_lt {α : Type} (p q : α → Bool) : ∀ (l : List α), (∀ x ∈ l, p x = true → q x = true) → (∃ x ∈ l, q x = true ∧ p x = false) → l.countP p < l.countP q
  | [], _, h => by obtain ⟨_, h, _⟩ := h; cases h
  | y :: l, h1, h2 => by
    have hle := List.countP_mono_left fun x hx => h1 x (List.mem_cons_of_mem y hx)
    obtain ⟨x, hx, hq, hp⟩ := h2
    rw [List.countP_cons, List.countP_cons]
    cases hx with
    | head => rw [hq, hp]; simp; omega
    | tail _ hx =>
      have ih := count_lt p q l (fun z hz => h1 z (List.mem_cons_of_mem y hz)) ⟨x, hx, hq, hp⟩
      have := h1 y (List.mem_cons_self ..)
      cases hpy : p y
      · simp; omega
      · rw [this hpy]; simp; omega
theorem bitsN_le (n : Nat) : bitsN n ≤ 64 := by
  have := List.countP_le_length (p := fun k => n.testBit k) (l := List.range 64)
  rw [List.length_range] at this
  exact this
theorem allM_le (s : Int) : allM s ≤ 65 := by
  unfold allM
  split
  · have := bitsN_le s.toNat; omega
  · omega
theorem allM_lt {s : Int} (h : (s != 0) = true) : allM (bitI .and .u64 s (IntKind.u64.wrap (s - 1))) < allM s := by
  have hr := bit_range .and s (IntKind.u64.wrap (s - 1))
  unfold allM
  rw [if_pos hr]
  by_cases h0 : 0 ≤ s ∧ s < 18446744073709551616
  · rw [if_pos h0]
    have hne : s ≠ 0 := by simpa using h
    obtain ⟨n, rfl⟩ : ∃ n : Nat, s = (n : Int) := ⟨s.toNat, by omega⟩
    have e : IntKind.u64.wrap ((n : Int) - 1) = ((n - 1 : Nat) : Int) := by rw [wrap64]; omega
    rw [e, and64 (by omega) (by omega), Int.toNat_natCast, Int.toNat_natCast]
    have hlt : n &&& (n - 1) ≤ n - 1 := Nat.and_le_right
    refine count_lt _ _ _ (fun k _ hk => ?_) ?_
    · rw [Nat.testBit_and, Bool.and_eq_true] at hk; exact hk.1
    · apply Classical.byContradiction
      intro hno
      have : n &&& (n - 1) = n := Nat.eq_of_testBit_eq fun k => by
        by_cases hk : k < 64
        · cases hq : n.testBit k
          · rw [Nat.testBit_and, hq]; rfl
          · cases hp : (n &&& (n - 1)).testBit k
            · exact absurd ⟨k, List.mem_range.2 hk, hq, hp⟩ hno
            · rfl
        · have h64 : (2 : Nat) ^ 64 ≤ 2 ^ k := Nat.pow_le_pow_right (by decide) (by omega)
          have h' : (2 : Nat) ^ 64 = 18446744073709551616 := by decide
          rw [Nat.testBit_lt_two_pow (x := n) (by omega), Nat.testBit_lt_two_pow (by omega)]
      omega
  · rw [if_neg h0]
    have := bitsN_le (bitI .and .u64 s (IntKind.u64.wrap (s - 1))).toNat
    omega
end Go.Proofs.Ytaffaalpgpepeaa
/- What the checks of chains, and places in them, say, in plain words. No conditions. -/
namespace Go.Proofs.Ytaffaalpgpepeaa
open Go.Am
theorem bif_const {a : Bool} {x y z : Int} (hx : x ≠ z) (h : (bif a then x else y) = z) : a = false ∧ y = z := by
  cases a
  · exact ⟨rfl, h⟩
  · exact absurd h hx
theorem check_len {c : Chain} (h : check c = 0) : 0 < c.members.D.length := by
  unfold check at h
  obtain ⟨_, h⟩ := bif_const (by decide) h
  obtain ⟨_, h⟩ := bif_const (by decide) h
  obtain ⟨h3, h⟩ := bif_const (by decide) h
  have := ne_of_beq_false h3
  omega
theorem indexFunc_l0_lt (f : Member → Bool) : ∀ (l : List Member) (i : Nat), indexFunc_l0 f l i < ((i + l.length : Nat) : Int) ∧ -1 ≤ indexFunc_l0 f l i
  | [], i => by simp only [indexFunc_l0, List.length_nil]; omega
  | x :: l, i => by
    have := indexFunc_l0_lt f l (i + 1)
    simp only [indexFunc_l0, List.length_cons]
    cases f x <;> simp only [cond_true, cond_false] <;> omega
theorem placeIn_lt (c : Chain) (n : Int) : placeIn c n < (c.members.D.length : Int) ∧ -1 ≤ placeIn c n := by
  have := indexFunc_l0_lt (fun x0 => placeF x0 n) c.members.D 0
  simp only [placeIn, indexFunc]; omega
def place0 (c : Chain) (node : Int) : Int :=
  (bif ((check c) != 0) then (-1) else (placeIn c node))
theorem nil_false {α : Type} {b : Bool} {D : List α} (h : b = true → D = []) (hl : 0 < D.length) : b = false := by
  cases b
  · rfl
  · rw [h rfl] at hl; simp at hl
end Go.Proofs.Ytaffaalpgpepeaa
/- The program's check of chains is the document's; so is whether two are the same. No conditions. -/
namespace Go.Proofs.Ytaffaalpgpepeaa
open Go.Am
/-- May members stand behind others? -/
def okFrom (pre : List Member) : List Member → Bool
  | [] => true
  | x :: xs => member x && pre.all (fun y => !(y.node == x.node) && !(decide (y.site > x.site))) && okFrom (pre ++ [x]) xs
theorem member_iff (m : Member) : member m = true ↔ 0 ≤ m.node ∧ m.node ≤ 5 ∧ 0 ≤ m.site ∧ m.site ≤ 2 := by
  unfold member
  by_cases h1 : m.node ≥ 0 <;> by_cases h2 : m.node < 6 <;> by_cases h3 : m.site ≥ 0 <;> by_cases h4 : m.site < 3 <;> simp [h1, h2, h3, h4] <;> omega
theorem rCheck_l1_eq (x : Member) (kk : Int) : ∀ (l : List Member) (i : Nat), rCheck_l1 x kk l i = bif l.all (fun y => !(y.node == x.node) && !(decide (y.site > x.site))) then kk else 80
  | [], _ => rfl
  | y :: l, i => by
    simp only [rCheck_l1, List.all_cons]
    cases h1 : y.node == x.node
    · cases h2 : decide (y.site > x.site)
      · simp [rCheck_l1_eq x kk l (i + 1)]
      · simp
    · simp
theorem rCheck_l0_eq (c : Chain) : ∀ (xs : List Member) (i : Nat), xs = c.members.D.drop i → rCheck_l0 c xs i = bif okFrom (c.members.D.take i) xs then 0 else 80
  | [], i, _ => rfl
  | x :: xs, i, h => by
    have hi : c.members.D[i]? = some x := by
      have := congrArg (fun l => l[0]?) h
      simpa using this.symm
    have hx : xs = c.members.D.drop (i + 1) := by
      have := drop_at hi
      rw [← h] at this
      simpa using this
    have ht : c.members.D.take i ++ [x] = c.members.D.take (i + 1) := by
      rw [List.take_add_one, hi]; rfl
    have ih := rCheck_l0_eq c xs (i + 1) hx
    simp only [rCheck_l0, okFrom, ht, rCheck_l1_eq, ih]
    by_cases hm : member x = true
    · have := (member_iff x).1 hm
      rw [hm]
      have e1 : decide (x.node < 0) = false := by simp; omega
      have e2 : decide (x.node > 5) = false := by simp; omega
      have e3 : decide (x.site < 0) = false := by simp; omega
      have e4 : decide (x.site > 2) = false := by simp; omega
      rw [e1, e2, e3, e4]
      simp only [cond_false, Bool.true_and]
      cases (c.members.D.take i).all (fun y => !(y.node == x.node) && !(decide (y.site > x.site))) <;> simp
    · have hm' : member x = false := by simpa using hm
      rw [hm']
      have : x.node < 0 ∨ x.node > 5 ∨ x.site < 0 ∨ x.site > 2 := by
        have := mt (member_iff x).2 hm
        omega
      simp only [Bool.false_and, cond_false]
      by_cases e1 : x.node < 0
      · simp [e1]
      · by_cases e2 : x.node > 5
        · simp [e1, e2]
        · by_cases e3 : x.site < 0
          · simp [e1, e2, e3]
          · have e4 : x.site > 2 := by omega
            simp [e1, e2, e3, e4]
/-- What the program's loop knows of those ahead. -/
structure Inv (pre : List Member) (S : Nat) (site : Int) : Prop where
  lt : S < 18446744073709551616
  has : ∀ n : Nat, n < 6 → mHas (S : Int) (n : Int) = pre.any (fun y => y.node == (n : Int))
  le : ∀ y ∈ pre, y.site ≤ site
  at_ : site = 0 ∨ ∃ y ∈ pre, y.site = site
theorem check_l0_eq : ∀ (xs pre : List Member) (i S : Nat) (site : Int), Inv pre S site → check_l0 xs i (S : Int) site = bif okFrom pre xs then 0 else 80
  | [], _, _, _, _, _ => rfl
  | x :: xs, pre, i, S, site, inv => by
    simp only [check_l0, okFrom]
    by_cases hm : member x = true
    · obtain ⟨m1, m2, m3, m4⟩ := (member_iff x).1 hm
      rw [hm]
      simp only [Bool.not_true, cond_false, Bool.true_and]
      obtain ⟨k, hk⟩ : ∃ k : Nat, x.node = (k : Int) := ⟨x.node.toNat, by omega⟩
      have hk6 : k < 6 := by omega
      have hh := inv.has k hk6
      rw [hk, hh]
      cases ha : pre.any (fun y => y.node == (k : Int))
      · simp only [cond_false]
        by_cases hs : x.site < site
        · have : pre.all (fun y => !(y.node == (k : Int)) && !(decide (y.site > x.site))) = false := by
            rcases inv.at_ with h0 | ⟨y, hy, he⟩
            · omega
            · rw [Bool.eq_false_iff]
              intro hall
              have := List.all_eq_true.1 hall y hy
              simp at this
              omega
          simp [hs, this]
        · have hall : pre.all (fun y => !(y.node == (k : Int)) && !(decide (y.site > x.site))) = true := by
            rw [List.all_eq_true]
            intro y hy
            have h1 : (y.node == (k : Int)) = false := by
              rw [Bool.eq_false_iff]
              intro he
              rw [Bool.eq_false_iff] at ha
              exact ha (List.any_eq_true.2 ⟨y, hy, he⟩)
            have := inv.le y hy
            simp [h1]; omega
          have hs' : decide (x.site < site) = false := by simp; omega
          rw [hall, hs', with_nat inv.lt (by omega)]
          simp only [cond_false, Bool.true_and]
          refine check_l0_eq xs (pre ++ [x]) (i + 1) _ _ ⟨with_lt inv.lt (by omega), fun n hn => ?_, fun y hy => ?_, .inr ⟨x, by simp, rfl⟩⟩
          · rw [← with_nat inv.lt (by omega), has_with inv.lt (by omega) (by omega), inv.has n hn, List.any_append]
            congr 1
            simp only [List.any_cons, List.any_nil, Bool.or_false, hk]
            by_cases h : k = n
            · subst h; simp
            · have : ¬ ((k : Int) = (n : Int)) := by omega
              simp [h, this]
          · rcases List.mem_append.1 hy with hy | hy
            · have := inv.le y hy; omega
            · simp only [List.mem_singleton] at hy; subst hy; exact Int.le_refl _
      · simp only [cond_true]
        have : pre.all (fun y => !(y.node == (k : Int)) && !(decide (y.site > x.site))) = false := by
          obtain ⟨y, hy, he⟩ := List.any_eq_true.1 ha
          rw [Bool.eq_false_iff]
          intro hall
          have := List.all_eq_true.1 hall y hy
          simp at this he
          exact this.1 he
        simp [this]
    · have hm' : member x = false := by simpa using hm
      rw [hm']; rfl
def hasN (pre : List Member) (n : Int) : Nat := (pre.any fun y => y.node == n).toNat
def cnt (pre : List Member) : Nat := hasN pre 0 + hasN pre 1 + hasN pre 2 + hasN pre 3 + hasN pre 4 + hasN pre 5
theorem hasN_le (pre : List Member) (n : Int) : hasN pre n ≤ 1 := by unfold hasN; cases pre.any fun y => y.node == n <;> simp
theorem cnt_step {pre : List Member} {x : Member} (h0 : 0 ≤ x.node) (h5 : x.node ≤ 5) (ha : pre.any (fun y => y.node == x.node) = false) : cnt (pre ++ [x]) = cnt pre + 1 := by
  have key : ∀ n : Int, hasN (pre ++ [x]) n = if x.node = n then 1 else hasN pre n := fun n => by
    unfold hasN
    rw [List.any_append]
    simp only [List.any_cons, List.any_nil, Bool.or_false]
    by_cases h : x.node = n
    · subst h; simp
    · have : (x.node == n) = false := by simpa using h
      rw [this]; simp [h]
  have hz : hasN pre x.node = 0 := by unfold hasN; rw [ha]; rfl
  simp only [cnt, key]
  rcases (by omega : x.node = 0 ∨ x.node = 1 ∨ x.node = 2 ∨ x.node = 3 ∨ x.node = 4 ∨ x.node = 5) with h | h | h | h | h | h <;> rw [h] at hz ⊢ <;> simp [hz] <;> omega
theorem ok_len : ∀ (xs pre : List Member), okFrom pre xs = true → pre.length = cnt pre → pre.length + xs.length ≤ 6
  | [], pre, _, hc => by
    have := hasN_le pre 0; have := hasN_le pre 1; have := hasN_le pre 2; have := hasN_le pre 3; have := hasN_le pre 4; have := hasN_le pre 5
    simp only [List.length_nil, hc, cnt]; omega
  | x :: xs, pre, h, hc => by
    simp only [okFrom, Bool.and_eq_true] at h
    obtain ⟨⟨h1, h2⟩, h3⟩ := h
    obtain ⟨m1, m2, _, _⟩ := (member_iff x).1 h1
    have ha : pre.any (fun y => y.node == x.node) = false := by
      rw [Bool.eq_false_iff]
      intro he
      obtain ⟨y, hy, he⟩ := List.any_eq_true.1 he
      have := List.all_eq_true.1 h2 y hy
      rw [he] at this
      simp at this
    have := ok_len xs (pre ++ [x]) h3 (by rw [cnt_step m1 m2 ha, List.length_append, hc]; rfl)
    simp only [List.length_append, List.length_cons, List.length_nil] at this ⊢
    omega
theorem check_eq (c : Chain) : check c = rCheck c := by
  unfold check rCheck
  have h1 : check_l0 c.members.D 0 0 0 = bif okFrom [] c.members.D then 0 else 80 := check_l0_eq c.members.D [] 0 0 0 ⟨by decide, fun n hn => by
    have := has_nat (S := 0) (n := n) (by decide) (by omega)
    rw [this]; simp, fun y hy => (by cases hy), .inl rfl⟩
  have h2 : rCheck_l0 c c.members.D 0 = bif okFrom [] c.members.D then 0 else 80 := rCheck_l0_eq c c.members.D 0 rfl
  rw [h1, h2]
  cases decide (c.epoch < 1) <;> cases decide (c.epoch > 1099511627776) <;> cases ((c.members.D.length : Int) == 0) <;> simp only [cond_true, cond_false]
  cases hd : decide ((c.members.D.length : Int) > 6)
  · rfl
  · have hl : c.members.D.length > 6 := by have := of_decide_eq_true hd; omega
    cases ho : okFrom [] c.members.D
    · simp
    · have := ok_len c.members.D [] ho rfl
      simp at this; omega
theorem rCheck_le6 {c : Chain} (h : rCheck c = 0) : c.members.D.length ≤ 6 := by
  unfold rCheck at h
  obtain ⟨_, h⟩ := bif_const (by decide) h
  obtain ⟨_, h⟩ := bif_const (by decide) h
  obtain ⟨_, h⟩ := bif_const (by decide) h
  obtain ⟨h4, h⟩ := bif_const (by decide) h
  have := of_decide_eq_false h4
  omega
theorem check_le6 {c : Chain} (h : check c = 0) : c.members.D.length ≤ 6 := rCheck_le6 (by rw [← check_eq]; exact h)
end Go.Proofs.Ytaffaalpgpepeaa
/- slices.Clone, once more. No conditions. -/
namespace Go.Proofs.Ytaffaalpgpepeaa
open Go.Am
def cloneO (s : (Sl Member)) : List Member :=
  s.D
theorem cloneO_calls (s : (Sl Member)) (hn : s.nil = false) (hl1 : s.D.length ≤ 1000000) : OCalls Try.prog 12 [sS (some s.nil) eMember s.D] (.sl 0 0 (cloneO s).length 3 false) (.cells (encC eMember (cloneO s))) := by
 generalize hR : cloneO s = R
 refine OCalls.of_body tabOk Try.func12 rfl rfl rfl rfl rfl (encC_within _ _) mixed fun E hP C hI => ?_
 refine Awp.consP C ?_
 refine rvP C (sS (some true) eMember []) ?_
 refine rvc_nil ?_
 refine Awp.seq ?_
 refine Awp.consP C ?_
 refine rvP C (sS (some s.nil) eMember s.D) ?_
 refine rvc_un (rexec_eqNil C (f := s.nil) rfl rfl rfl rfl ?_)
 refine rvc_nil ?_
 refine Awp.condF (b := s.nil) rfl hn ?_
 refine Awp.skip ?_
 refine Awp.consP C ?_
 refine rvc_un (rexec_prim C (δ := { v := .sl 5 0 0 3 true, new := [(5, .cells (encC eMember []))] }) rfl rfl rfl rfl trivial rfl ?_)
 refine rvP C (sS (some s.nil) eMember s.D) ?_
 refine rvc_un (rexec_append C rfl rfl rfl rfl rfl rfl rfl rfl (fun _ h => by cases h) rfl (en := eMember) (D0 := []) (D := s.D) rfl rfl rfl rfl (by first | omega | (simp <;> omega)) (by decide) (nn := s.D.length) (by simp) ?_)
 refine rvP C (.sl 7 0 s.D.length 3 false) ?_
 refine rvc_nil ?_
 refine Awp.weakenR (S := [(2, .sl 0 0 s.D.length 3 false)]) (H := [(0, .cells (encC eMember s.D))]) (U := [0]) (fun x => bif x == 0 then 7 else x) (WeakerR.ofL (Ks := [0]) hI ⟨⟨rfl, rfl⟩, trivial⟩ (okH_list rfl rfl rfl okH_nil) rfl) ?_
 refine Awp.ret ?_
 subst hR
 exact ⟨.inl rfl, rfl, rfl⟩
end Go.Proofs.Ytaffaalpgpepeaa
/- An abstract machine over the kit's calls, part 28: slices whose capacity is known; append of zeros; copy within one's own; slices.overlaps. No conditions. -/
namespace Go.Am
section ops
variable {E : Env} {T : Tab}
theorem does_sliceC_hi (hT : TabOk E.P T) {o : Oper} {t : TypeId} {x y : Operand} (ho : o.op = .slice t x none (some y) none) (hd : ∀ d, o.dst = some d → d < E.n) {r re : TyRow} (hr : T.lookup t = some r) {e : TypeId} (hdesc : r.desc = .slice e) (hre : T.lookup e = some re) {b n c : Nat} {k : IntKind} {h : Nat} (hh : h ≤ c) :
    Does E o [.slc b 0 n re.size c, .pv (.lit (.int k (h : Int)))] [] { v := .slc b 0 h re.size c } := by
  refine Does.value hd fun ι imm st a w hsr hv _ => ?_
  rw [ho] at hv
  have hv' : VHs ι imm w [.slc b 0 n re.size c, .pv (.lit (.int k (h : Int)))] [a.eval x, a.eval y] := by simpa [Op.operands] using hv
  obtain ⟨v1, us, he, h1, h2⟩ := hv'
  obtain ⟨v2, us2, he2, h3, h4⟩ := h2
  simp only [VHs] at h4
  subst h4 he2
  simp only [List.cons.injEq, and_true] at he
  obtain ⟨rfl, rfl⟩ := he
  simp only [VH] at h1
  obtain ⟨q, z, i1, i2, i3, cc, ee, ff, g1, g2⟩ := h1
  simp only [VH, PH] at h3
  have hrun := run_sliceBounds (P := E.P) (w := w) (isSlice := true) (len := n) (cap := c) (lo := none) (hi := some (.int k (h : Int))) (mx := none) (l := 0) (h := h) (m := c) (.inl ⟨rfl, rfl⟩) (.inr ⟨k, rfl⟩) (.inl ⟨rfl, rfl⟩) (by omega) (by omega) (by omega) (Int.le_refl _)
  refine ⟨.slice (some ⟨q, z + 0, none⟩) h c, ?_, ⟨q, z, i1, rfl, hh, cc, ee, ff, g1, g2⟩⟩
  simp only [execOp, ho, i2, h3.1, Option.map_none, Option.map_some, Instr.sliceAt, Instr.slice, run_bind', run_pure', run_underlying hT hr, hdesc, hrun, run_sizeOf hT hre]
  simp
  intro _
  rw [add_none]
  rfl
theorem does_sliceC_lo (hT : TabOk E.P T) {o : Oper} {t : TypeId} {x y : Operand} (ho : o.op = .slice t x (some y) none none) (hd : ∀ d, o.dst = some d → d < E.n) {r re : TyRow} (hr : T.lookup t = some r) {e : TypeId} (hdesc : r.desc = .slice e) (hre : T.lookup e = some re) {b n c : Nat} {k : IntKind} {l : Nat} (hl : l ≤ n) :
    Does E o [.slc b 0 n re.size c, .pv (.lit (.int k (l : Int)))] [] { v := .undef } := by
  refine Does.value hd fun ι imm st a w hsr hv _ => ?_
  rw [ho] at hv
  have hv' : VHs ι imm w [.slc b 0 n re.size c, .pv (.lit (.int k (l : Int)))] [a.eval x, a.eval y] := by simpa [Op.operands] using hv
  obtain ⟨v1, us, he, h1, h2⟩ := hv'
  obtain ⟨v2, us2, he2, h3, h4⟩ := h2
  simp only [VHs] at h4
  subst h4 he2
  simp only [List.cons.injEq, and_true] at he
  obtain ⟨rfl, rfl⟩ := he
  simp only [VH] at h1
  obtain ⟨q, z, i1, i2, i3, cc, ee, ff, g1, g2⟩ := h1
  simp only [VH, PH] at h3
  have hrun := run_sliceBounds (P := E.P) (w := w) (isSlice := true) (len := n) (cap := c) (lo := some (.int k (l : Int))) (hi := none) (mx := none) (l := l) (h := n) (m := c) (.inr ⟨k, rfl⟩) (.inl ⟨rfl, rfl, rfl⟩) (.inl ⟨rfl, rfl⟩) (by omega) (by omega) (by omega) (Int.le_refl _)
  refine ⟨_, by
    simp only [execOp, ho, i2, h3.1, Option.map_none, Option.map_some, Instr.sliceAt, Instr.slice, run_bind', run_pure', run_underlying hT hr, hdesc, hrun, run_sizeOf hT hre]
    rfl, trivial⟩
theorem does_capC (hT : TabOk E.P T) {o : Oper} {c : Call} {t : TypeId} (ho : o.op = .call c) (hc : c.callee = .builtin .cap) (hty : c.argTypes = #[t]) (hd : ∀ d, o.dst = some d → d < E.n) {r : TyRow} (hr : T.lookup t = some r) {e : TypeId} (hdesc : r.desc = .slice e) {b n s k : Nat} :
    Does E o [.slc b 0 n s k] [] { v := .pv (.lit (.int .i64 k)) } := by
  refine Does.value hd fun ι imm st a w hsr hv _ => ?_
  have hops : o.op.operands.toList = c.args.toList := by rw [ho]; simp [Op.operands, Call.operands, hc]
  rw [hops] at hv
  obtain ⟨v1, us, he, h1, h2⟩ := hv
  simp only [VHs] at h2
  subst h2
  have hargs : c.args.map a.eval = #[v1] := by apply Array.ext'; simpa using he
  simp only [VH] at h1
  obtain ⟨q, z, i1, rfl, i3, _⟩ := h1
  refine ⟨.int .i64 k, ?_, rfl, rfl⟩
  simp only [execOp, ho, resolve, hc, run_bind', run_pure', invoke, builtin, hargs, hty]
  simp [Builtin.cap_, run_underlying hT hr, hdesc, goInt]
theorem does_lenC (hT : TabOk E.P T) {o : Oper} {c : Call} {t : TypeId} (ho : o.op = .call c) (hc : c.callee = .builtin .len) (hty : c.argTypes = #[t]) (hd : ∀ d, o.dst = some d → d < E.n) {r : TyRow} (hr : T.lookup t = some r) {e : TypeId} (hdesc : r.desc = .slice e) {b n s k : Nat} :
    Does E o [.slc b 0 n s k] [] { v := .pv (.lit (.int .i64 n)) } := by
  refine Does.value hd fun ι imm st a w hsr hv _ => ?_
  have hops : o.op.operands.toList = c.args.toList := by rw [ho]; simp [Op.operands, Call.operands, hc]
  rw [hops] at hv
  obtain ⟨v1, us, he, h1, h2⟩ := hv
  simp only [VHs] at h2
  subst h2
  have hargs : c.args.map a.eval = #[v1] := by apply Array.ext'; simpa using he
  simp only [VH] at h1
  obtain ⟨q, z, i1, rfl, i3, _⟩ := h1
  refine ⟨.int .i64 n, ?_, rfl, rfl⟩
  simp only [execOp, ho, resolve, hc, run_bind', run_pure', invoke, builtin, hargs, hty]
  simp [Builtin.len_, run_underlying hT hr, hdesc, goInt]
end ops
section steps
variable {E : Env} {T : Tab} {cq : Oper → Cls} {n : Nat} {ops : Array Oper}
/-- An operation that looks at no block and gives a value that leads to blocks of its operands alone. -/
theorem rexec_value (C : Cx E T n) {d : Option Nat} {op : Op} {ty : TypeId} {pos : String} {af : Array Edge} {g : Option (Nat × Bool)} {st : St} {K : St → Prop} {xs : List Operand} {vs : List AV} {v : AV} (h1 : dstB n ⟨d, op, ty, pos, af, g⟩ = true)
    (hx : op.operands.toList = xs) (h2 : evls st.S xs = some vs) (hdo : (∀ x, d = some x → x < E.n) → Does E ⟨d, op, ty, pos, af, g⟩ vs [] { v := v }) (hw : ∀ U, AV.withinL U vs = true → v.within U = true) (h7 : K (st.after d { v := v })) : rexec E cq n ⟨d, op, ty, pos, af, g⟩ st K := by
  subst hx
  have hd : ∀ x, d = some x → x < E.n := fun x e => by
    simp only [dstB, e, decide_eq_true_eq] at h1
    exact C.n ▸ h1
  refine ⟨h1, vs, [], { v := v }, { vals := h2, deps := fun _ h => (by cases h), fresh := fun _ h => (by cases h), does := hdo hd, reach := rfl, inV := ?_, inN := fun _ h => (by cases h), inW := fun _ h => (by cases h), wr := fun _ h => (by cases h), pure := fun _ => ⟨rfl, rfl, rfl⟩, quiet := fun _ => rfl, foot := by cases clsOf cq ⟨d, op, ty, pos, af, g⟩ <;> rfl }, h7⟩
  refine hw _ ?_
  have := within_self vs []
  refine AV.withinL_mono (U := fun b => refs vs [] b) (fun b hb => ?_) vs this
  simp [hb]
/-- The capacity of a slice over the whole of an own row is looked at; what lies behind its elements is anything. -/
theorem At.openCap {st : St} {a : Act} {w : World} (h : At E st a w) {t b m s : Nat} {tt : Bool} {cs : List AV} (ht : st.S t = some (.sl b 0 m s tt)) (hb : st.H b = some (.cells cs)) (hl : cs.length = m * s) : ∃ c, m ≤ c ∧ At E (st.set t (.slc b 0 m s c)) a w ∧ At E ⟨(st.set t (.slc b 0 m s c)).S, fun x => if x = b then some (.cells (cs ++ List.replicate ((c - m) * s) .undef)) else st.H x, st.U⟩ a w := by
  obtain ⟨ι, imm, h⟩ := h
  have h0 := h.slot t _ ht
  simp only [VH] at h0
  obtain ⟨r, z, c, i1, i2, i3, _, i5⟩ := h0
  have hslot : ∀ x v, (st.set t (.slc b 0 m s c)).S x = some v → VH ι imm w v (a.tmps.getD x undef) := fun x v hv => by
    have hv' : (if x = t then some (AV.slc b 0 m s c) else st.S x) = some v := hv
    by_cases e : x = t
    · rw [if_pos e] at hv'
      obtain rfl := Option.some.inj hv'
      subst e
      simp only [VH]
      exact ⟨r, z, i1, i2, i3, i5⟩
    · rw [if_neg e] at hv'
      exact h.slot x v hv'
  have hset : SR E ι imm (st.set t (.slc b 0 m s c)) a w := { h with slot := hslot }
  refine ⟨c, i3, ⟨ι, imm, hset⟩, ι, imm, { hset with heap := ⟨fun x k hx => ?_, fun x x' k k' r1 z1 z2 hx hx' => ?_⟩ }⟩
  · by_cases e : x = b
    · subst e
      simp only [if_true] at hx
      obtain rfl := Option.some.inj hx
      obtain ⟨r', z', p1, p2, p3, c1, e1, f1, q1, q2, q3, q4⟩ := h.heap.blk x _ hb
      rw [i1] at p1
      simp only [Option.some.injEq, Prod.mk.injEq] at p1
      obtain ⟨rfl, rfl⟩ := p1
      obtain ⟨c2, e2, f2, s1, s2⟩ := i5
      rw [q1] at s1
      simp only [Option.some.injEq, Obj.cells.injEq] at s1
      obtain ⟨rfl, rfl, rfl⟩ := s1
      have hms : m * s + (c - m) * s = c * s := by rw [← Nat.add_mul]; congr 1; omega
      refine ⟨r, z, i1, p2, p3, c1, e1, f1, q1, ?_, q3, CellsH.app q4 (CellsH.undefs ?_)⟩
      · rw [List.length_append, List.length_replicate, hl]; omega
      · rw [hl]; omega
    · simp only [if_neg e] at hx
      exact h.heap.blk x k hx
  · have key : ∀ y k, (if y = b then some (Blk.cells (cs ++ List.replicate ((c - m) * s) .undef)) else st.H y) = some k → ∃ k', st.H y = some k' := fun y k hy => by
      by_cases e : y = b
      · subst e; exact ⟨_, hb⟩
      · rw [if_neg e] at hy; exact ⟨k, hy⟩
    obtain ⟨k1, hk1⟩ := key x k hx
    obtain ⟨k2, hk2⟩ := key x' k' hx'
    exact h.heap.inj x x' k1 k2 r1 z1 z2 hk1 hk2
theorem Awp.openCap {c : Code} {st : St} {Q : Exit → St → Prop} (t b m s : Nat) (tt : Bool) (cs : List AV) (ht : st.S t = some (.sl b 0 m s tt)) (hb : st.H b = some (.cells cs)) (hl : cs.length = m * s) (h : ∀ k, m ≤ k → Awp E c ⟨(st.set t (.slc b 0 m s k)).S, fun x => if x = b then some (.cells (cs ++ List.replicate ((k - m) * s) .undef)) else st.H x, st.U⟩ Q) : Awp E c st Q := fun a w hat => by
  obtain ⟨k, h1, _, h3⟩ := hat.openCap ht hb hl
  exact h k h1 a w h3
theorem At.dropCap {st : St} {a : Act} {w : World} (h : At E st a w) {t b o m s k : Nat} (ht : st.S t = some (.slc b o m s k)) : At E (st.set t (.sl b o m s false)) a w := by
  obtain ⟨ι, imm, h⟩ := h
  refine ⟨ι, imm, { h with slot := fun x v hv => ?_ }⟩
  have hv' : (if x = t then some (AV.sl b o m s false) else st.S x) = some v := hv
  by_cases e : x = t
  · rw [if_pos e] at hv'
    obtain rfl := Option.some.inj hv'
    subst e
    have := h.slot x _ ht
    simp only [VH] at this ⊢
    obtain ⟨r, z, i1, i2, i3, i5⟩ := this
    exact ⟨r, z, k, i1, i2, i3, fun h => (by cases h), i5⟩
  · rw [if_neg e] at hv'
    exact h.slot x v hv'
theorem Awp.dropCap {c : Code} {st : St} {Q : Exit → St → Prop} (t b o m s k : Nat) (ht : st.S t = some (.slc b o m s k)) (h : Awp E c (st.set t (.sl b o m s false)) Q) : Awp E c st Q := fun a w hat => h a w (hat.dropCap ht)
/-- copy, in general. -/
theorem rexec_copy (C : Cx E T n) {d : Option Nat} {c : Call} {t t2 : TypeId} {ty : TypeId} {pos : String} {af : Array Edge} {g : Option (Nat × Bool)} {st : St} {K : St → Prop} (hc : c.callee = .builtin .copy) (hty : c.argTypes = #[t, t2]) (h1 : dstB n ⟨d, .call c, ty, pos, af, g⟩ = true) {r re : TyRow} (hr : T.lookup t = some r) {e : TypeId} (hdesc : r.desc = .slice e) (hre : T.lookup e = some re)
    {b k m : Nat} {tt : Bool} {cs : List AV} {y : AV} {m' : Nat} {hs' : List (Nat × Blk)} {ys : List AV} (cs' : List AV) (hv : evls st.S c.args.toList = some [.sl b k m re.size tt, y]) (hb : st.H b = some (.cells cs)) (hsrc : srcAV st.H re.size y = some (m', hs', ys)) (hdeps : ∀ x ∈ hs', st.H x.1 = some x.2) (hlen : ys.length = m' * re.size) (hfit : k + (min m' m) * re.size ≤ cs.length) (hflat : (ys.take ((min m' m) * re.size)).all flatCell = true) (hyw : ∀ U, (∀ x ∈ hs', Blk.within U x.2 = true) → AV.withinL U ys = true)
    (hcs' : setRange cs k (ys.take ((min m' m) * re.size)) = cs')
    (h7 : K (st.after d { v := .pv (.lit (.int .i64 ((min m' m : Nat) : Int))), wr := [(b, some (.cells cs'))] })) (hre' : reachB [.sl b k m re.size tt, y] [] ((b, .cells cs) :: hs') = true) (hcl : clsOf cq ⟨d, .call c, ty, pos, af, g⟩ = .writer := by rfl) : rexec E cq n ⟨d, .call c, ty, pos, af, g⟩ st K := by
  subst hcs'
  have hd : ∀ x, d = some x → x < E.n := fun x e => by
    simp only [dstB, e, decide_eq_true_eq] at h1
    exact C.n ▸ h1
  have hdo := does_copy C.tab (o := ⟨d, .call c, ty, pos, af, g⟩) rfl hc hty hd hr hdesc hre (b := b) (k := k) (n := m) (tt := tt) (cs := cs) (y := y) (H := st.H) (m := m') (hd' := hs') (ys := ys) hsrc hlen hfit hflat
  have hops : (Op.operands (.call c)).toList = c.args.toList := by simp [Op.operands, Call.operands, hc]
  have hself : ∀ x ∈ ((b, Blk.cells cs) :: hs'), x.2.within (fun b' => refs [.sl b k m re.size tt, y] ((b, .cells cs) :: hs') b') = true := fun x hx => within_self_blk _ _ x hx
  refine ⟨h1, _, _, _, { vals := ?_, deps := ?_, fresh := ?_, does := hdo, reach := hre', inV := rfl, inN := ?_, inW := ?_, wr := ?_, pure := fun h => ?_, quiet := fun h => ?_, foot := by rw [hcl]; rfl }, h7⟩
  · show evls st.S (Op.operands (.call c)).toList = _
    rw [hops]; exact hv
  · intro x hx
    cases hx with
    | head => exact hb
    | tail _ hm => exact hdeps x hm
  · intro x hx; cases hx
  · intro x hx; cases hx
  · intro x hx k' hk
    simp only [List.mem_singleton] at hx
    subst hx
    simp only [Option.some.injEq] at hk
    subst hk
    simp only [Blk.within]
    have mono : ∀ cs : List AV, AV.withinL (fun b' => refs [.sl b k m re.size tt, y] ((b, .cells cs) :: hs') b') cs = true → True := fun _ _ => trivial
    refine within_setRange ?_ ?_
    · refine AV.withinL_mono (U := fun b' => refs [.sl b k m re.size tt, y] ((b, .cells cs) :: hs') b') (fun b hb => by simp [hb]) cs ?_
      exact hself (b, .cells cs) (List.mem_cons_self ..)
    · refine within_sub ?_ fun x hx => List.mem_of_mem_take hx
      refine AV.withinL_mono (U := fun b' => refs [.sl b k m re.size tt, y] ((b, .cells cs) :: hs') b') (fun b hb => by simp [hb]) ys ?_
      exact hyw _ fun x hx => hself x (List.mem_cons_of_mem _ hx)
  · intro x hx
    simp only [List.mem_singleton] at hx
    subst hx
    simp [refs, AV.withinL, AV.within]
  · rw [hcl] at h; cases h
  · rw [hcl] at h; cases h
theorem C_info {P : Program} {T : Tab} (hT : TabOk P T) {t : TypeId} {r : TyRow} (h : T.lookup t = some r) : ∃ i, P.info? t = some i ∧ i.size = r.size ∧ i.bytes = r.bytes ∧ i.zero = some r.zero := (hT t r h).2.1
/-- append of so many zeros, where there is no room: a new row; the old one stays. -/
theorem does_appendZ (hT : TabOk E.P T) {o : Oper} {c : Call} {t t2 : TypeId} (ho : o.op = .call c) (hc : c.callee = .builtin .append) (hty : c.argTypes = #[t, t2]) {d : Nat} (hdst : o.dst = some d) (hd : d < E.n) {r re r2 : TyRow} (hr : T.lookup t = some r) {e : TypeId} (hdesc : r.desc = .slice e) (hre : T.lookup e = some re) (hr2 : T.lookup t2 = some r2) {kd : IntKind} (hd2 : r2.desc = .int kd)
    {b i k s : Nat} {kk : IntKind} {cs : List AV} (hk : 0 < k) (hroom : s < i + k) (hfit : i * re.size ≤ cs.length) (hsz : 0 < re.size) (hbig : (2 * (i + k) + 192) * re.bytes ≤ 281474976710656) (hpos : 0 < re.bytes) (hzs : re.zero.cells.size = re.size) :
    Does E o [.slc b 0 i re.size s, .pv (.lit (.int kk (k : Int)))] [(b, .cells cs)] { v := .sl d 0 (i + k) re.size false, new := [(d, .cells (cs.take (i * re.size) ++ zeroAV re.zero.cells (k * re.size)))] } := by
  intro ι imm st a w Q hs hv hh hf
  have hUd : st.U d = false := hf (d, _) (List.mem_cons_self ..)
  have hvs := hs.evls hv
  have hops : o.op.operands.toList = c.args.toList := by rw [ho]; simp [Op.operands, Call.operands, hc]
  rw [hops] at hvs
  obtain ⟨v1, us1, he, hv1, hvs⟩ := hvs
  obtain ⟨v2, us2, he2, hv2, hvs⟩ := hvs
  simp only [VHs] at hvs
  subst hvs
  subst he2
  have hargs : c.args.map a.eval = #[v1, v2] := by apply Array.ext'; simpa using he
  simp only [VH] at hv1
  obtain ⟨q, z, h1, rfl, h3, cS, eS, fS, hS, hSz⟩ := hv1
  simp only [VH, PH] at hv2
  obtain ⟨rfl, _⟩ := hv2
  have hbk := hh _ (List.mem_cons_self ..)
  obtain ⟨cc, ee, ff, g1, g2, g3, g4, _⟩ := hs.heap.cells hbk h1
  have hO : CellsH ι imm w cc (cs.take (i * re.size)) z := g4.take
  obtain ⟨vsO, o1, o2⟩ := hO.vals
  have hlO := o1.length
  rw [List.length_take, Nat.min_eq_left hfit] at hlO
  obtain ⟨it, k1, k2, k3, k4⟩ := (C_info hT hre)
  have hold : (Builtin.firstCells it.size i (.slice (some ⟨q, z + 0, none⟩) i s)).run E.P w.drew = .ok (List.toArray vsO) w.drew := by
    rw [k2]
    have := run_loadCells (P := E.P) (w := w.drew) (r := q) (o := z) vsO (fun j hj => by
      show w.cell? _ = _
      rw [cell_of_heap g1, o2 j hj])
    rw [hlO] at this
    simpa [Builtin.firstCells] using this
  have hnc : Builtin.nextslicecap (i + k) s * it.bytes ≤ 281474976710656 := by
    rw [k3]
    have := Nat.mul_le_mul_right re.bytes (nextcap_le hroom)
    omega
  have hkb : k * it.bytes ≤ 281474976710656 := by
    rw [k3]
    have : k * re.bytes ≤ (2 * (i + k) + 192) * re.bytes := Nat.mul_le_mul_right _ (by omega)
    omega
  have h63 : ((i + k : Nat) : Int) ≤ 9223372036854775807 := by
    have : 2 * (i + k) + 192 ≤ (2 * (i + k) + 192) * re.bytes := Nat.le_mul_of_pos_right _ hpos
    omega
  have hrun := Lib.run_append_grow_zeros w t t2 o.type e it re.zero kk kd (by rw [(hT t r hr).1, hdesc]) (by rw [(hT t2 r2 hr2).1, hd2]) k1 k4 (some ⟨q, z + 0, none⟩) i s vsO hold k hk (by rw [k2]; exact hsz) hroom h63 hkb hnc
  have hexec : ∀ {u w'}, (Builtin.append_ #[t, t2] o.type #[.slice (some ⟨q, z + 0, none⟩) i s, .int kk k]).run E.P w = .ok u w' → (execOp a.eval o).run E.P w = .ok (.value u) w' := fun {u w'} h => by
    simp only [execOp, ho, resolve, hc, run_bind', run_pure', invoke, builtin, hargs, hty, h]
  unfold Oper.wp
  have hdd : ∀ x, o.dst = some x → x < E.n := fun x hx => by rw [hdst] at hx; exact Option.some.inj hx ▸ hd
  rw [hexec hrun, Oper.upon_value]
  obtain ⟨G, hG⟩ : ∃ G, G = grownCap w (i + k) s e := ⟨_, rfl⟩
  have hGn : i + k ≤ G := by rw [hG]; exact grownCap_ge w _ _ _
  rw [← hG]
  have gw : Grows ι ι imm imm w w.drew := ⟨fun _ _ h => h, ⟨fun _ h => h, fun k _ => rfl⟩, fun r' c1 e1' f1 hr' => ⟨c1, f1, hr', rfl⟩⟩
  have hs1 : SR E ι imm ⟨st.S, st.H, st.U⟩ a w.drew := hs.turn gw rfl rfl rfl (Nat.le_refl _) (fun k _ _ => rfl) ⟨fun b' k' hb' => by
    obtain ⟨r', z', p1, p2, p3, p4⟩ := hs.heap.blk b' k' hb'
    exact ⟨r', z', p1, p2, p3, p4.grows gw rfl⟩, hs.heap.inj⟩ hs.used (fun _ hk => .inl hk) (fun k hk => hs.immlt k hk)
  obtain ⟨ROW, hROW⟩ : ∃ ROW : Array Value, ROW = vsO.toArray ++ Builtin.zeroCells re.zero.cells k ++ Builtin.zeroCells re.zero.cells (G - (i + k)) := ⟨_, rfl⟩
  have hz1 : (Builtin.zeroCells re.zero.cells k).size = k * re.size := by simp [Builtin.zeroCells, hzs]
  have hNew : NewH ι imm w.drew (Obj.cells ROW e) (.cells (cs.take (i * re.size) ++ zeroAV re.zero.cells (k * re.size))) := by
    refine ⟨_, _, rfl, ?_, CellsH.app (CellsH.of_VHs (VHs.grows gw _ _ o1) fun j hj => ?_) ?_⟩
    · rw [hROW]
      simp only [List.length_append, List.length_take, Nat.min_eq_left hfit, Array.size_append, List.size_toArray, hlO, hz1, zeroAV, List.length_map, List.length_range]
      omega
    · rw [hROW, Nat.zero_add, Array.append_assoc, Array.getElem?_append_left (by simpa using hj), List.getElem?_toArray]
    · refine CellsH.of_VHs (vs := (List.range (k * re.size)).map fun j => re.zero.cells[j % re.zero.cells.size]!) ?_ fun j hj => ?_
      · have : zeroAV re.zero.cells (k * re.size) = ((List.range (k * re.size)).map fun j => re.zero.cells[j % re.zero.cells.size]!).map constCell := by simp [zeroAV]
        rw [this]; exact VHs_map_const ι imm w.drew _
      · simp only [List.length_map, List.length_range] at hj
        have h1 : 0 + (cs.take (i * re.size)).length + j = vsO.length + j := by rw [List.length_take, Nat.min_eq_left hfit, hlO]; omega
        rw [h1, hROW, Array.append_assoc, Array.getElem?_append_right (by simp), Array.getElem?_append_left (by rw [hz1]; simp; omega)]
        simp [Builtin.zeroCells, hzs, hj]
  rw [← hROW]
  obtain ⟨ι', i1, i2, i3⟩ := hs1.new hUd hNew (.sl d 0 (i + k) re.size false)
  refine ⟨ι', imm, ?_⟩
  have hheap : (World.push w.drew (Obj.cells ROW e)).heap[w.heap.size]? = some (Obj.cells ROW e) := by
    show (w.heap.push _)[_]? = _
    rw [Array.getElem?_push, if_pos rfl]
  have hfin := i3.put o.dst hdd (v := .sl d 0 (i + k) re.size false) (u := .slice (some ⟨w.heap.size, 0, none⟩) (i + k) G) ⟨w.heap.size, 0, G, i1, rfl, hGn, (fun h => (by cases h)), _, _, _, hheap, by
    have hz2 : (Builtin.zeroCells re.zero.cells (G - (i + k))).size = (G - (i + k)) * re.size := by simp [Builtin.zeroCells, hzs]
    rw [hROW]
    simp only [Array.size_append, List.size_toArray, hlO, hz1, hz2]
    have : G = i + k + (G - (i + k)) := by omega
    have h9 : G * re.size = (i + k + (G - (i + k))) * re.size := by rw [← this]
    rw [Nat.add_mul, Nat.add_mul] at h9
    omega⟩
  exact hfin
/-- slices.overlaps of what does not change and an own row: no. -/
theorem does_overlaps (hT : TabOk E.P T) {o : Oper} {c : Call} {f : FuncId} {fn : Func} {tR t e : TypeId} (ho : o.op = .call c) (hc : c.callee = .value (.func f)) (hd : ∀ d, o.dst = some d → d < E.n) (hf : E.P.funcs[f]? = some fn) (hn : (fn.name == "runtime.NumGoroutine") = false) (hb : fn.body.isNone = true) (hnx : Extern.findNext fn = none) (he : Extern.find fn = some (Extern.SlicesOverlaps.overlaps #[t, t] #[tR]))
    {r re : TyRow} (hr : T.lookup t = some r) (hdesc : r.desc = .slice e) (hre : T.lookup e = some re) {fl : Option Bool} {m : Nat} {ps : List PV} (hps : ps ≠ []) {b k l : Nat} {tt : Bool} {cs : List AV} (hcs : cs ≠ []) :
    Does E o [.fn f [] [], .pv (.sl fl m ps), .sl b k l re.size tt] [(b, .cells cs)] { v := .pv (.lit (.bool false)) } := by
  refine Does.value hd fun ι imm st a w hsr hv hh => ?_
  have hops : o.op.operands.toList = .func f :: c.args.toList := by rw [ho]; simp [Op.operands, Call.operands, hc]
  rw [hops, List.map_cons] at hv
  obtain ⟨_, us0, he0, _, hv⟩ := hv
  simp only [List.cons.injEq] at he0
  obtain ⟨_, rfl⟩ := he0
  obtain ⟨v1, us1, he1, hv1, hvs⟩ := hv
  obtain ⟨v2, us2, he2, hv2, hvs⟩ := hvs
  simp only [VHs] at hvs
  subst hvs
  subst he2
  have hargs : c.args.map a.eval = #[v1, v2] := by apply Array.ext'; simpa using he1
  simp only [VH, PH] at hv1
  obtain ⟨A, cap, rfl, _, _, _, q3, q4⟩ := hv1
  simp only [VH] at hv2
  obtain ⟨r2, z2, cap2, i1, rfl, _, _, _⟩ := hv2
  obtain ⟨cc, ee, ff, g1, g2, g3, g4, g5, _⟩ := hsr.heap.cells (hh _ (List.mem_cons_self ..)) i1
  cases A with
  | none => exact absurd (q3 rfl).2.2 hps
  | some ad =>
    obtain ⟨p1, p2, p3⟩ := q4 ad rfl hps
    have hne : ad.block ≠ r2 := fun e => g5 (e ▸ p2)
    obtain ⟨p, ps', rfl⟩ : ∃ p ps', ps = p :: ps' := by cases ps with | nil => exact absurd rfl hps | cons p ps' => exact ⟨p, ps', rfl⟩
    obtain ⟨⟨v0, hcell, _⟩, _⟩ := p3
    have hshape : ∃ ca ea fa, w.heap[ad.block]? = some (Obj.cells ca ea fa) ∧ ca.size ≠ 0 := by
      unfold World.cell? at hcell
      split at hcell
      · rename_i ca ea fa hca
        refine ⟨ca, ea, fa, hca, fun h0 => ?_⟩
        simp only [Option.isSome_none, Bool.false_eq_true, if_false] at hcell
        rw [Array.getElem?_eq_none (by omega)] at hcell
        cases hcell
      · cases hcell
    obtain ⟨ca, ea, fa, s1, s2⟩ := hshape
    refine ⟨.bool false, ?_, rfl, rfl⟩
    have hcsz : cc.size ≠ 0 := by
      cases cs with
      | nil => exact absurd rfl hcs
      | cons x xs => simp at g2; omega
    have hrun : (Extern.SlicesOverlaps.overlaps #[t, t] #[tR] #[.slice (some ad) m cap, .slice (some ⟨r2, z2 + k, none⟩) l cap2]).run E.P w = .ok (.bool false) w := by
      have hnb : (ad.block != r2) = true := by simpa using hne
      have hnb' : (ad.block == r2) = false := by simpa using hne
      have hsa : w.shape? ad.block = some (ea, ca.size) := by simp [World.shape?, s1]
      have hsb : w.shape? r2 = some (ee, cc.size) := by simp [World.shape?, g1]
      have hfb : ∀ o, w.frozen? ⟨r2, o, none⟩ = false := fun o => by
        simp only [World.frozen?, g1]
        have := g3 o
        by_cases h1 : ff.1 ≤ o
        · by_cases h2 : o < ff.2
          · exact absurd ⟨h1, h2⟩ this
          · simp [h2]
        · simp [h1]
      have e1 : (underlying t).run E.P w = .ok (.slice e) w := by rw [run_underlying hT hr, hdesc]
      have e2 : (sizeOf e).run E.P w = .ok re.size w := run_sizeOf hT hre w
      obtain ⟨A0, hA0⟩ : ∃ A0, ca.size = A0 + 1 := ⟨ca.size - 1, by omega⟩
      obtain ⟨B0, hB0⟩ : ∃ B0, cc.size = B0 + 1 := ⟨cc.size - 1, by omega⟩
      rw [hA0] at hsa
      rw [hB0] at hsb
      change Sem.run E.P (α := Value) (do
        let some t := (#[t, t] : Array TypeId)[0]? | stuck "slices.overlaps: no parameter types"
        let .slice elem ← underlying t | stuck "slices.overlaps: slice type expected"
        let size ← sizeOf elem
        match (some ad : Option Addr), (some ⟨r2, z2 + k, none⟩ : Option Addr) with
        | some a, some b =>
          if m = 0 ∨ l = 0 ∨ size = 0 then pure (Value.bool false)
          else if a.block != b.block && (← frozen a) && (← frozen b) then unsupported .addressObserved
          else do
            if a.block != b.block then do
              noView a; noView b
              if ← mayBeOne a b then return Value.bool ((← choose (.extern "sameAddr.stringBytes" 2)) == 1)
            pure (Value.bool (a.block == b.block && a.off < b.off + l * size && b.off < a.off + m * size))
        | _, _ => pure (Value.bool false)) w = _
      by_cases h0 : m = 0 ∨ l = 0 ∨ re.size = 0
      · simp [e1, e2, h0]
      · cases hA : w.frozen? ad <;> cases hA' : w.frozen? { block := ad.block, off := A0 + 1 } <;> simp [e1, e2, h0, hnb, hnb', frozen, noView, viewAt, mayBeOne, stringish, shape, Sem.run, hsa, hsb, hA, hA', hfb]
    simp only [execOp, ho, resolve, hc, run_bind', run_pure', invoke, Deferred.ofValue, Act.eval, hargs, Array.append_empty]
    rw [run_callFunc_extern hf hn hb hnx he, Array.empty_append, hrun]
    rfl
end steps
end Go.Am
/- An abstract machine over the kit's calls, part 29: calls that take a row of one's own and give one; contents of rows that are copied about in. No conditions. -/
namespace Go.Am
section lists
variable {α : Type} {e : Enc α}
theorem setRange_app {A B M Z : List AV} (h : M.length ≤ Z.length) : setRange (setRange (A ++ B ++ Z) (A.length + M.length) B) A.length M = A ++ M ++ B ++ Z.drop M.length := by
  have h1 : (A ++ B ++ Z).drop (A.length + M.length + B.length) = Z.drop M.length := by
    rw [show A.length + M.length + B.length = (A ++ B).length + M.length by simp; omega, List.drop_length_add_append]
  have hP : ∃ P : List AV, P.length = M.length ∧ (A ++ B ++ Z).take (A.length + M.length) = A ++ P := by
    refine ⟨(B ++ Z).take M.length, by simp; omega, ?_⟩
    rw [List.append_assoc, List.take_length_add_append]
  obtain ⟨P, p1, p2⟩ := hP
  simp only [setRange, h1, p2]
  rw [show A ++ P ++ B ++ Z.drop M.length = A ++ (P ++ (B ++ Z.drop M.length)) by simp, List.take_left, show A.length + M.length = A.length + P.length by omega, List.drop_length_add_append, List.drop_left]
  simp
theorem set_mid {A B B' C : List α} (h : B'.length = B.length) {k : Nat} (hk : k = A.length * e.sz) : setRange (encC e (A ++ B ++ C)) k (encC e B') = encC e (A ++ B' ++ C) := by
  subst hk
  rw [encC_append, encC_append, encC_append, encC_append]
  have hl : (encC e A).length = A.length * e.sz := encC_len A
  have hb : (encC e B').length = (encC e B).length := by rw [encC_len, encC_len, h]
  simp only [setRange, ← hl]
  rw [show encC e A ++ encC e B ++ encC e C = encC e A ++ (encC e B ++ encC e C) by simp, List.take_left, hb, List.drop_length_add_append, List.drop_left]
theorem encC_dropN (D : List α) (i : Nat) : (encC e D).drop (i * e.sz) = encC e (D.drop i) := by simp only [encC, ← List.map_drop, encL_drop]
theorem encC_takeN (D : List α) (i : Nat) : (encC e D).take (i * e.sz) = encC e (D.take i) := by simp only [encC, ← List.map_take, encL_take]
theorem encC_takeAll (D : List α) {k : Nat} (h : D.length * e.sz ≤ k) : (encC e D).take k = encC e D := List.take_of_length_le (by rw [encC_len]; exact h)
/-- What is behind a place of a row with room behind it. -/
theorem tail_of {D : List α} {Z : List AV} {i k j : Nat} (hi : i ≤ D.length) (hk : D.length - i ≤ k) (hj : j = (D.length - i) * e.sz) : (((encC e D ++ Z).drop (0 + i * e.sz)).take (k * e.sz)).take j = encC e (D.drop i) := by
  subst hj
  have hle : i * e.sz ≤ (encC e D).length := by rw [encC_len]; exact Nat.mul_le_mul_right _ hi
  rw [Nat.zero_add, List.drop_append_of_le_length hle, encC_dropN, List.take_take]
  have hl : (encC e (D.drop i)).length = (D.length - i) * e.sz := by rw [encC_len, List.length_drop]
  rw [Nat.min_eq_left (Nat.mul_le_mul_right _ hk), ← hl, List.take_left]
theorem delta_int {k : IntKind} {a b : Int} (h : a = b) : ({ v := .pv (.lit (.int k a)) } : Delta) = { v := .pv (.lit (.int k b)) } := by rw [h]
def insertL (D : List α) (i : Nat) (M : List α) : List α := D.take i ++ M ++ D.drop i
theorem insertL_len {D M : List α} {i : Nat} (h : i ≤ D.length) : (insertL D i M).length = D.length + M.length := by simp [insertL]; omega
/-- .. done in place. -/
theorem insert_inplace {D M : List α} {Z : List AV} {i : Nat} (hi : i ≤ D.length) (hZ : M.length * e.sz ≤ Z.length) : setRange (setRange (encC e D ++ Z) ((i + M.length) * e.sz) (encC e (D.drop i))) (i * e.sz) (encC e M) = encC e (insertL D i M) ++ Z.drop (M.length * e.sz) := by
  have hA : (encC e (D.take i)).length = i * e.sz := by rw [encC_len, List.length_take, Nat.min_eq_left hi]
  have hM : (encC e M).length = M.length * e.sz := encC_len M
  have hD : encC e D = encC e (D.take i) ++ encC e (D.drop i) := by rw [← encC_append, List.take_append_drop]
  rw [hD, Nat.add_mul, ← hA, ← hM, setRange_app (by rw [hM]; exact hZ)]
  simp only [insertL, encC_append]
end lists
section steps
variable {E : Env} {T : Tab} {cq : Oper → Cls} {n : Nat} {ops : Array Oper}
/-- The capacity of a slice over an own row is looked at. -/
theorem Awp.capOf {c : Code} {st : St} {Q : Exit → St → Prop} (t b m s : Nat) (tt : Bool) (cs : List AV) (ht : st.S t = some (.sl b 0 m s tt)) (hb : st.H b = some (.cells cs)) (hl : cs.length = m * s) (h : ∀ k, m ≤ k → Awp E c (st.set t (.slc b 0 m s k)) Q) : Awp E c st Q := fun a w hat => by
  obtain ⟨k, h1, h2, _⟩ := hat.openCap ht hb hl
  exact h k h1 a w h2
/-- What lies behind the elements is anything. -/
theorem At.extend {st : St} {a : Act} {w : World} (h : At E st a w) {t b m s k : Nat} {cs : List AV} (ht : st.S t = some (.slc b 0 m s k)) (hb : st.H b = some (.cells cs)) (hl : cs.length ≤ k * s) : At E ⟨st.S, fun x => if x = b then some (.cells (cs ++ List.replicate (k * s - cs.length) .undef)) else st.H x, st.U⟩ a w := by
  obtain ⟨ι, imm, h⟩ := h
  have h0 := h.slot t _ ht
  simp only [VH] at h0
  obtain ⟨r, z, i1, i2, i3, i5⟩ := h0
  refine ⟨ι, imm, { h with heap := ⟨fun x q hx => ?_, fun x x' q q' r1 z1 z2 hx hx' => ?_⟩ }⟩
  · by_cases e : x = b
    · subst e
      simp only [if_true] at hx
      obtain rfl := Option.some.inj hx
      obtain ⟨r', z', p1, p2, p3, c1, e1, f1, q1, q2, q3, q4⟩ := h.heap.blk x _ hb
      rw [i1] at p1
      simp only [Option.some.injEq, Prod.mk.injEq] at p1
      obtain ⟨rfl, rfl⟩ := p1
      obtain ⟨c2, e2, f2, s1, s2⟩ := i5
      rw [q1] at s1
      simp only [Option.some.injEq, Obj.cells.injEq] at s1
      obtain ⟨rfl, rfl, rfl⟩ := s1
      refine ⟨r, z, i1, p2, p3, c1, e1, f1, q1, ?_, q3, CellsH.app q4 (CellsH.undefs ?_)⟩
      · rw [List.length_append, List.length_replicate]; omega
      · omega
    · simp only [if_neg e] at hx
      exact h.heap.blk x q hx
  · have key : ∀ y k', (if y = b then some (Blk.cells (cs ++ List.replicate (k * s - cs.length) .undef)) else st.H y) = some k' → ∃ k', st.H y = some k' := fun y k' hy => by
      by_cases e : y = b
      · subst e; exact ⟨_, hb⟩
      · rw [if_neg e] at hy; exact ⟨k', hy⟩
    obtain ⟨k1, hk1⟩ := key x q hx
    obtain ⟨k2, hk2⟩ := key x' q' hx'
    exact h.heap.inj x x' k1 k2 r1 z1 z2 hk1 hk2
theorem Awp.extend {c : Code} {st : St} {Q : Exit → St → Prop} (t b m s k : Nat) (cs : List AV) (ht : st.S t = some (.slc b 0 m s k)) (hb : st.H b = some (.cells cs)) (hl : cs.length ≤ k * s) (h : Awp E c ⟨st.S, fun x => if x = b then some (.cells (cs ++ List.replicate (k * s - cs.length) .undef)) else st.H x, st.U⟩ Q) : Awp E c st Q := fun a w hat => h a w (hat.extend ht hb hl)
theorem CellsH.left {ι : Nat → Option (Nat × Nat)} {imm : Nat → Prop} {w : World} {c : Array Value} : ∀ {xs ys : List AV} {o : Nat}, CellsH ι imm w c (xs ++ ys) o → CellsH ι imm w c xs o
  | [], _, _, _ => trivial
  | _ :: _, _, _, h => ⟨h.1, CellsH.left h.2⟩
/-- What lies behind is forgotten. -/
theorem At.trim {st : St} {a : Act} {w : World} (h : At E st a w) {b : Nat} {xs ys : List AV} (hb : st.H b = some (.cells (xs ++ ys))) : At E ⟨st.S, fun x => if x = b then some (.cells xs) else st.H x, st.U⟩ a w := by
  obtain ⟨ι, imm, h⟩ := h
  refine ⟨ι, imm, { h with heap := ⟨fun x k hx => ?_, fun x x' k k' r1 z1 z2 hx hx' => ?_⟩ }⟩
  · by_cases e : x = b
    · subst e
      simp only [if_true] at hx
      obtain rfl := Option.some.inj hx
      obtain ⟨r', z', p1, p2, p3, c1, e1, f1, q1, q2, q3, q4⟩ := h.heap.blk x _ hb
      exact ⟨r', z', p1, p2, p3, c1, e1, f1, q1, by rw [List.length_append] at q2; omega, q3, CellsH.left q4⟩
    · simp only [if_neg e] at hx
      exact h.heap.blk x k hx
  · have key : ∀ y k', (if y = b then some (Blk.cells xs) else st.H y) = some k' → ∃ k', st.H y = some k' := fun y k' hy => by
      by_cases e : y = b
      · subst e; exact ⟨_, hb⟩
      · rw [if_neg e] at hy; exact ⟨k', hy⟩
    obtain ⟨k1, hk1⟩ := key x k hx
    obtain ⟨k2, hk2⟩ := key x' k' hx'
    exact h.heap.inj x x' k1 k2 r1 z1 z2 hk1 hk2
theorem Awp.trim {c : Code} {st : St} {Q : Exit → St → Prop} (b : Nat) (xs ys : List AV) (hb : st.H b = some (.cells (xs ++ ys))) (h : Awp E c ⟨st.S, fun x => if x = b then some (.cells xs) else st.H x, st.U⟩ Q) : Awp E c st Q := fun a w hat => h a w (hat.trim hb)
/-- A call that takes a row (block 0) and gives one (block 1). -/
structure TCalls (P : Program) (f : FuncId) (avs : List AV) (k : Blk) (av : AV) (k' : Blk) : Prop where
  fn : ∃ fn, P.funcs[f]? = some fn ∧ (fn.name == "runtime.NumGoroutine") = false ∧ fn.body.isNone = false
  args : AV.withinL (fun b => b == 0) avs = true
  res : av.within (fun b => b == 1) = true
  blk : k.within (fun _ => false) = true
  blk' : k'.within (fun _ => false) = true
  calls : ACalls P f [0] avs [(0, k)] av [(1, k')]
theorem TCalls.of_body {P : Program} {T : Tab} (hT : TabOk P T) {f : FuncId} {fn : Func} {body : Code} (hf : P.funcs[f]? = some fn) (hb : fn.body = some body) (hn : (fn.name == "runtime.NumGoroutine") = false) {avs : List AV} {k k' : Blk} {av : AV} (hl : decide (avs.length ≤ fn.ntmps) = true) (ha : AV.withinL (fun b => b == 0) avs = true) (hr : av.within (fun b => b == 1) = true) (hk : k.within (fun _ => false) = true) (hk' : k'.within (fun _ => false) = true) (hm : P.follows .mixedOrders = true)
    (h : ∀ E : Env, E.P = P → Cx E T fn.ntmps → E.I = [0] → Awp E body (entry avs [(0, k)] [0]) fun e st => (e = .ret ∨ e = .normal) ∧ resAV T st fn.results.toList = some av ∧ st.H 1 = some k') : TCalls P f avs k av k' where
  fn := ⟨fn, hf, hn, by simp [hb]⟩
  args := ha
  res := hr
  blk := hk
  blk' := hk'
  calls := ACalls.of_body hT hf hb (by simpa using hl) fun E hP hE hI => (h E hP ⟨hP ▸ hT, hE, hP ▸ hm⟩ hI).mono fun e st ⟨h1, h2, h3⟩ => ⟨h1, h2, fun x hx => by
    simp only [List.mem_singleton] at hx
    subst hx; exact h3⟩
theorem h_slc {U : Nat → Bool} {b n n' s c : Nat} {p : PV} (h : AV.withinL U [.slc b 0 n s c, .pv p] = true) : (AV.slc b 0 n' s c).within U = true := by
  simpa [AV.withinL, AV.within] using h
theorem rexec_appendZ (C : Cx E T n) {d : Nat} {c : Call} {t t2 : TypeId} {ty : TypeId} {pos : String} {af : Array Edge} {g : Option (Nat × Bool)} {st : St} {K : St → Prop} (hc : c.callee = .builtin .append) (hty : c.argTypes = #[t, t2]) (h1 : dstB n ⟨some d, .call c, ty, pos, af, g⟩ = true) (hU : st.U d = false)
    {r re r2 : TyRow} (hr : T.lookup t = some r) {te : TypeId} (hdesc : r.desc = .slice te) (hre : T.lookup te = some re) (hr2 : T.lookup t2 = some r2) {kd : IntKind} (hd2 : r2.desc = .int kd)
    {α : Type} {e : Enc α} (a : α) (D : List α) (i k : Nat) {b s : Nat} {kk : IntKind} (hs : re.size = e.sz) (hv : evls st.S c.args.toList = some [.slc b 0 i re.size s, .pv (.lit (.int kk (k : Int)))]) (hb : st.H b = some (.cells (encC e D))) (hi : i ≤ D.length) (hk : 0 < k) (hroom : s < i + k) (hbig : (2 * (i + k) + 192) * re.bytes ≤ 281474976710656) (hpos : 0 < re.bytes) (hsz : 0 < re.size) (hzs : re.zero.cells.size = re.size) (hz : re.zero.cells.toList.map constCell = (e.enc a).map .pv)
    (h7 : K (st.after (some d) { v := .sl d 0 (i + k) re.size false, new := [(d, .cells (encC e (D.take i ++ List.replicate k a)))] })) (hcl : clsOf cq ⟨some d, .call c, ty, pos, af, g⟩ = .writer := by rfl) : rexec E cq n ⟨some d, .call c, ty, pos, af, g⟩ st K := by
  have hd : d < E.n := by
    simp only [dstB, decide_eq_true_eq] at h1
    exact C.n ▸ h1
  have hdo := does_appendZ C.tab (o := ⟨some d, .call c, ty, pos, af, g⟩) rfl hc hty rfl hd hr hdesc hre hr2 hd2 (b := b) (i := i) (k := k) (s := s) (kk := kk) (cs := encC e D) hk hroom (by rw [encC_len, hs]; exact Nat.mul_le_mul_right _ hi) hsz hbig hpos hzs
  rw [hs, encC_takeN, zeroAV_rep (by rw [hzs, hs]) hz, ← encC_append, ← hs] at hdo
  have hops : (Op.operands (.call c)).toList = c.args.toList := by simp [Op.operands, Call.operands, hc]
  refine ⟨h1, _, _, _, { vals := ?_, deps := ?_, fresh := ?_, does := hdo, reach := ?_, inV := ?_, inN := ?_, inW := ?_, wr := ?_, pure := fun h => ?_, quiet := fun h => ?_, foot := by rw [hcl]; rfl }, h7⟩
  · show evls st.S (Op.operands (.call c)).toList = _
    rw [hops]; exact hv
  · intro x hx; simp only [List.mem_singleton] at hx; subst hx; exact hb
  · intro x hx; simp only [List.mem_singleton] at hx; subst hx; exact hU
  · exact reach_ptr fun U => .inl rfl
  · simp [AV.within]
  · intro x hx; simp only [List.mem_singleton] at hx; subst hx; exact within_pvs _ _
  · intro x hx; cases hx
  · intro x hx; cases hx
  · rw [hcl] at h; cases h
  · rfl
/-- copy of unchanging elements over elements of an own row. -/
theorem rexec_copyS (C : Cx E T n) {d : Option Nat} {c : Call} {t t2 : TypeId} {ty : TypeId} {pos : String} {af : Array Edge} {g : Option (Nat × Bool)} {st : St} {K : St → Prop} (hc : c.callee = .builtin .copy) (hty : c.argTypes = #[t, t2]) (h1 : dstB n ⟨d, .call c, ty, pos, af, g⟩ = true) {r re : TyRow} (hr : T.lookup t = some r) {te : TypeId} (hdesc : r.desc = .slice te) (hre : T.lookup te = some re)
    {α : Type} {e : Enc α} {f : Option Bool} (D : List α) {b k m : Nat} {tt : Bool} {cs : List AV} (cs' : List AV) (hs : re.size = e.sz) (hv : evls st.S c.args.toList = some [.sl b k m re.size tt, sS f e D]) (hb : st.H b = some (.cells cs)) (hm : D.length ≤ m) (hfit : k + D.length * e.sz ≤ cs.length) (hcs' : setRange cs k (encC e D) = cs')
    (h7 : K (st.after d { v := .pv (.lit (.int .i64 (D.length : Int))), wr := [(b, some (.cells cs'))] })) (hcl : clsOf cq ⟨d, .call c, ty, pos, af, g⟩ = .writer := by rfl) : rexec E cq n ⟨d, .call c, ty, pos, af, g⟩ st K := by
  have hmin : min D.length m = D.length := Nat.min_eq_left hm
  refine rexec_copy C hc hty h1 hr hdesc hre (m' := D.length) (hs' := []) (ys := encC e D) cs' hv hb rfl (fun x hx => by cases hx) (by rw [encC_len, hs]) (by rw [hmin, hs]; exact hfit) ?_ (fun U _ => within_pvs _ _) ?_ ?_ ?_ hcl
  · exact encC_flat _ _
  · rw [hmin, hs, encC_takeAll _ (Nat.le_refl _)]; exact hcs'
  · rw [hmin]; exact h7
  · exact reach_ptr fun U => .inl rfl
/-- copy of elements of an own row over elements of an own row (perhaps the same one). -/
theorem rexec_copyO (C : Cx E T n) {d : Option Nat} {c : Call} {t t2 : TypeId} {ty : TypeId} {pos : String} {af : Array Edge} {g : Option (Nat × Bool)} {st : St} {K : St → Prop} (hc : c.callee = .builtin .copy) (hty : c.argTypes = #[t, t2]) (h1 : dstB n ⟨d, .call c, ty, pos, af, g⟩ = true) {r re : TyRow} (hr : T.lookup t = some r) {te : TypeId} (hdesc : r.desc = .slice te) (hre : T.lookup te = some re)
    {α : Type} {e : Enc α} (X : List α) {b k m b2 k2 m2 : Nat} {tt tt2 : Bool} {cs cs2 : List AV} (cs' : List AV) (hs : re.size = e.sz) (hv : evls st.S c.args.toList = some [.sl b k m re.size tt, .sl b2 k2 m2 re.size tt2]) (hb : st.H b = some (.cells cs)) (hb2 : st.H b2 = some (.cells cs2)) (hf2 : k2 + m2 * re.size ≤ cs2.length) (hX : ((cs2.drop k2).take (m2 * re.size)).take (X.length * e.sz) = encC e X) (hm : min m2 m = X.length) (hfit : k + X.length * e.sz ≤ cs.length) (hcs' : setRange cs k (encC e X) = cs')
    (h7 : K (st.after d { v := .pv (.lit (.int .i64 (X.length : Int))), wr := [(b, some (.cells cs'))] })) (hreach : reachB [.sl b k m re.size tt, .sl b2 k2 m2 re.size tt2] [] [(b, .cells cs), (b2, .cells cs2)] = true) (hcl : clsOf cq ⟨d, .call c, ty, pos, af, g⟩ = .writer := by rfl) : rexec E cq n ⟨d, .call c, ty, pos, af, g⟩ st K := by
  refine rexec_copy C hc hty h1 hr hdesc hre (m' := m2) (hs' := [(b2, .cells cs2)]) (ys := (cs2.drop k2).take (m2 * re.size)) cs' hv hb ?_ (fun x hx => ?_) ?_ (by rw [hm, hs]; exact hfit) ?_ (fun U h => ?_) ?_ ?_ hreach hcl
  · simp only [srcAV, if_true, hb2]
  · simp only [List.mem_singleton] at hx; subst hx; exact hb2
  · rw [List.length_take, List.length_drop]; omega
  · rw [hm, hs, ← hs] at *
    rw [hs, hX]; have := encC_flat (e := e) X ((encC e X).length); rwa [List.take_length] at this
  · have := h _ (List.mem_singleton.2 rfl)
    simp only [Blk.within] at this
    exact within_sub this fun x hx => List.mem_of_mem_drop (List.mem_of_mem_take hx)
  · rw [hm, hs]; rw [hs] at hX; rw [hX]; exact hcs'
  · rw [hm]; exact h7
theorem rexec_overlaps (C : Cx E T n) {d : Option Nat} {c : Call} {ty : TypeId} {pos : String} {af : Array Edge} {g : Option (Nat × Bool)} {st : St} {K : St → Prop} {f : FuncId} {fn : Func} {tR t te : TypeId} (h1 : dstB n ⟨d, .call c, ty, pos, af, g⟩ = true) (hc : c.callee = .value (.func f)) (hf : E.P.funcs[f]? = some fn) (hn : (fn.name == "runtime.NumGoroutine") = false) (hb : fn.body.isNone = true) (hnx : Extern.findNext fn = none) (he : Extern.find fn = some (Extern.SlicesOverlaps.overlaps #[t, t] #[tR]))
    {r re : TyRow} (hr : T.lookup t = some r) (hdesc : r.desc = .slice te) (hre : T.lookup te = some re) {fl : Option Bool} {m : Nat} {ps : List PV} {b k l : Nat} {tt : Bool} {cs : List AV} (hv : evls st.S c.args.toList = some [.pv (.sl fl m ps), .sl b k l re.size tt]) (hbk : st.H b = some (.cells cs)) (hps : ps ≠ []) (hcs : cs ≠ [])
    (h7 : K (st.after d { v := .pv (.lit (.bool false)) })) (hcl : clsOf cq ⟨d, .call c, ty, pos, af, g⟩ = .writer := by rfl) : rexec E cq n ⟨d, .call c, ty, pos, af, g⟩ st K := by
  have hd : ∀ x, d = some x → x < E.n := fun x e => by
    simp only [dstB, e, decide_eq_true_eq] at h1
    exact C.n ▸ h1
  have hdo := does_overlaps C.tab (o := ⟨d, .call c, ty, pos, af, g⟩) rfl hc hd hf hn hb hnx he hr hdesc hre (fl := fl) (m := m) (ps := ps) hps (b := b) (k := k) (l := l) (tt := tt) (cs := cs) hcs
  have hops : (Op.operands (.call c)).toList = .func f :: c.args.toList := by simp [Op.operands, Call.operands, hc]
  refine ⟨h1, _, _, _, { vals := ?_, deps := ?_, fresh := fun _ h => (by cases h), does := hdo, reach := ?_, inV := rfl, inN := fun _ h => (by cases h), inW := fun _ h => (by cases h), wr := fun _ h => (by cases h), pure := fun h => ?_, quiet := fun _ => rfl, foot := by rw [hcl]; rfl }, h7⟩
  · show evls st.S (Op.operands (.call c)).toList = _
    rw [hops]; simp only [evls, evl, hv]
  · intro x hx; simp only [List.mem_singleton] at hx; subst hx; exact hbk
  · simp [reachB, refs, AV.withinL, AV.within]
  · rw [hcl] at h; cases h
theorem rexec_sliceLoC (C : Cx E T n) {d : Option Nat} {t : TypeId} {x y : Operand} {ty : TypeId} {pos : String} {af : Array Edge} {g : Option (Nat × Bool)} {st : St} {K : St → Prop} {b m s c l : Nat} {kk : IntKind} {r re : TyRow} {te : TypeId} (h1 : dstB n ⟨d, .slice t x (some y) none none, ty, pos, af, g⟩ = true)
    (h2 : evls st.S [x, y] = some [.slc b 0 m s c, .pv (.lit (.int kk (l : Int)))]) (hr : T.lookup t = some r) (hdesc : r.desc = .slice te) (hre : T.lookup te = some re) (hs : re.size = s) (hl : l ≤ m) (h7 : K (st.after d { v := .undef })) : rexec E cq n ⟨d, .slice t x (some y) none none, ty, pos, af, g⟩ st K := by
  subst hs
  exact rexec_value C h1 rfl h2 (fun hd => does_sliceC_lo C.tab rfl hd hr hdesc hre hl) (fun _ _ => rfl) h7
theorem rexec_sliceHiC (C : Cx E T n) {d : Option Nat} {t : TypeId} {x y : Operand} {ty : TypeId} {pos : String} {af : Array Edge} {g : Option (Nat × Bool)} {st : St} {K : St → Prop} {b m s c : Nat} {kk : IntKind} {r re : TyRow} {te : TypeId} (h : Nat) (h1 : dstB n ⟨d, .slice t x none (some y) none, ty, pos, af, g⟩ = true)
    (h2 : evls st.S [x, y] = some [.slc b 0 m s c, .pv (.lit (.int kk (h : Int)))]) (hr : T.lookup t = some r) (hdesc : r.desc = .slice te) (hre : T.lookup te = some re) (hs : re.size = s) (hh : h ≤ c) (h7 : K (st.after d { v := .slc b 0 h s c })) : rexec E cq n ⟨d, .slice t x none (some y) none, ty, pos, af, g⟩ st K := by
  subst hs
  exact rexec_value C h1 rfl h2 (fun hd => does_sliceC_hi C.tab rfl hd hr hdesc hre hh) (fun _ h => h_slc h) h7
theorem rexec_lenC (C : Cx E T n) {d : Option Nat} {c : Call} {t : TypeId} {ty : TypeId} {pos : String} {af : Array Edge} {g : Option (Nat × Bool)} {st : St} {K : St → Prop} {b m s k : Nat} {r : TyRow} {te : TypeId} (hc : c.callee = .builtin .len) (hty : c.argTypes = #[t]) (h1 : dstB n ⟨d, .call c, ty, pos, af, g⟩ = true)
    (h2 : evls st.S (Op.operands (.call c)).toList = some [.slc b 0 m s k]) (hr : T.lookup t = some r) (hdesc : r.desc = .slice te) (h7 : K (st.after d { v := .pv (.lit (.int .i64 m)) })) : rexec E cq n ⟨d, .call c, ty, pos, af, g⟩ st K :=
  rexec_value C h1 rfl h2 (fun hd => does_lenC C.tab rfl hc hty hd hr hdesc) (fun _ _ => rfl) h7
theorem rexec_capC (C : Cx E T n) {d : Option Nat} {c : Call} {t : TypeId} {ty : TypeId} {pos : String} {af : Array Edge} {g : Option (Nat × Bool)} {st : St} {K : St → Prop} {b m s k : Nat} {r : TyRow} {te : TypeId} (hc : c.callee = .builtin .cap) (hty : c.argTypes = #[t]) (h1 : dstB n ⟨d, .call c, ty, pos, af, g⟩ = true)
    (h2 : evls st.S (Op.operands (.call c)).toList = some [.slc b 0 m s k]) (hr : T.lookup t = some r) (hdesc : r.desc = .slice te) (h7 : K (st.after d { v := .pv (.lit (.int .i64 k)) })) : rexec E cq n ⟨d, .call c, ty, pos, af, g⟩ st K :=
  rexec_value C h1 rfl h2 (fun hd => does_capC C.tab rfl hc hty hd hr hdesc) (fun _ _ => rfl) h7
/-- A part of an own row, from a place on. -/
theorem rexec_sliceOwn (C : Cx E T n) {d : Option Nat} {t : TypeId} {x y : Operand} {ty : TypeId} {pos : String} {af : Array Edge} {g : Option (Nat × Bool)} {st : St} {K : St → Prop} {b m s l : Nat} {kk : IntKind} {r re : TyRow} {te : TypeId} (h1 : dstB n ⟨d, .slice t x (some y) none none, ty, pos, af, g⟩ = true)
    (h2 : evls st.S [x, y] = some [.sl b 0 m s false, .pv (.lit (.int kk (l : Int)))]) (hr : T.lookup t = some r) (hdesc : r.desc = .slice te) (hre : T.lookup te = some re) (hs : s = re.size) (hl : l < m) (h7 : K (st.after d { v := .sl b (0 + l * s) (m - l) s false })) (h8 : footB (clsOf cq ⟨d, .slice t x (some y) none none, ty, pos, af, g⟩) [] { v := .sl b (0 + l * s) (m - l) s false } = true := by rfl) : rexec E cq n ⟨d, .slice t x (some y) none none, ty, pos, af, g⟩ st K := by
  subst hs
  refine rexec_prim C (p := (0 ≤ (l : Int) ∧ (l : Int) ≤ (m : Int)) ∧ ((l : Int) = 0 ∨ (l : Int) < (m : Int))) (hs := []) (δ := { v := .sl b (0 + l * re.size) (m - l) re.size false }) h1 rfl h2 ?_ ⟨⟨by omega, by omega⟩, by omega⟩ rfl h7 h8
  simp only [prim, primSlice, hr, optI, sliceAV, hdesc, hre, cutOf]
  simp
theorem encL_ne {α : Type} {e : Enc α} {D : List α} (h : 0 < D.length) (hs : 0 < e.sz) : encL e D ≠ [] := fun h0 => by
  have h1 := congrArg List.length h0
  rw [encL_len, List.length_nil] at h1
  have := Nat.mul_pos h hs
  omega
theorem encC_ne {α : Type} {e : Enc α} {D : List α} {Z : List AV} (h : 0 < D.length) (hs : 0 < e.sz) : encC e D ++ Z ≠ [] := fun h0 => by
  have h1 := congrArg List.length h0
  rw [List.length_append, encC_len, List.length_nil] at h1
  have := Nat.mul_pos h hs
  omega
/-- A call that takes a row (block 0) and gives what does not change. -/
structure XCalls (P : Program) (f : FuncId) (avs : List AV) (k : Blk) (av : AV) : Prop where
  fn : ∃ fn, P.funcs[f]? = some fn ∧ (fn.name == "runtime.NumGoroutine") = false ∧ fn.body.isNone = false
  args : AV.withinL (fun b => b == 0) avs = true
  res : av.within (fun _ => false) = true
  blk : k.within (fun _ => false) = true
  calls : ACalls P f [0] avs [(0, k)] av []
theorem XCalls.of_body {P : Program} {T : Tab} (hT : TabOk P T) {f : FuncId} {fn : Func} {body : Code} (hf : P.funcs[f]? = some fn) (hb : fn.body = some body) (hn : (fn.name == "runtime.NumGoroutine") = false) {avs : List AV} {k : Blk} {av : AV} (hl : decide (avs.length ≤ fn.ntmps) = true) (ha : AV.withinL (fun b => b == 0) avs = true) (hr : av.within (fun _ => false) = true) (hk : k.within (fun _ => false) = true) (hm : P.follows .mixedOrders = true)
    (h : ∀ E : Env, E.P = P → Cx E T fn.ntmps → E.I = [0] → Awp E body (entry avs [(0, k)] [0]) fun e st => (e = .ret ∨ e = .normal) ∧ resAV T st fn.results.toList = some av) : XCalls P f avs k av where
  fn := ⟨fn, hf, hn, by simp [hb]⟩
  args := ha
  res := hr
  blk := hk
  calls := ACalls.of_body hT hf hb (by simpa using hl) fun E hP hE hI => (h E hP ⟨hP ▸ hT, hE, hP ▸ hm⟩ hI).mono fun e st ⟨h1, h2⟩ => ⟨h1, h2, fun x hx => by cases hx⟩
theorem rexec_callX {P : Program} (hP : E.P = P) (C : Cx E T n) {f : FuncId} {avs args : List AV} {av : AV} {k : Blk} {d : Option Nat} {b : Nat} {c : Call} {ty : TypeId} {pos : String} {af : Array Edge} {g : Option (Nat × Bool)} {st : St} {K : St → Prop} (h1 : dstB n ⟨d, .call c, ty, pos, af, g⟩ = true) (hc : c.callee = .value (.func f)) (hv : evls st.S c.args.toList = some args)
    (F : XCalls P f avs k av) (ha : AV.renL (fun _ => b) avs = args) (hb : st.H b = some k) (h7 : K (st.after d { v := av, wr := [(b, none)] })) (hreach : reachB (.fn f [] [] :: args) [] [(b, k)] = true := by rfl) (hbr : refs (.fn f [] [] :: args) [(b, k)] b = true := by rfl) (hp : clsOf cq ⟨d, .call c, ty, pos, af, g⟩ ≠ .pure := by decide) (hq : clsOf cq ⟨d, .call c, ty, pos, af, g⟩ ≠ .quiet := by decide) (hft : footB (clsOf cq ⟨d, .call c, ty, pos, af, g⟩) [(b, k)] { v := av, wr := [(b, none)] } = true := by rfl) : rexec E cq n ⟨d, .call c, ty, pos, af, g⟩ st K := by
  subst hP
  obtain ⟨fn, q1, q2, q3⟩ := F.fn
  have hd : ∀ x, d = some x → x < E.n := fun x e => by
    simp only [dstB, e, decide_eq_true_eq] at h1
    exact C.n ▸ h1
  have hin : inI [0] = fun b => b == 0 := funext fun b => by cases b <;> rfl
  have ok : CallOk ⟨fun _ => b, []⟩ [0] avs [(0, k)] [] av := by
    refine { args := by rw [hin]; exact F.args, ids := ?_, blks := ?_, nodup := by simp, inj := ?_, nodupL := by simp, nodupR := by simp, fresh := ?_, res := ?_, res' := ?_, kept := ?_, all := ?_, used := ?_ }
    · intro x hx; simp only [List.mem_singleton] at hx; subst hx; rfl
    · intro x hx; simp only [List.mem_singleton] at hx; subst hx; exact Blk.within_mono (fun b hb => by cases hb) k F.blk
    · intro x y hx hy _; simp [inI] at hx hy; omega
    · intro x hx; cases hx
    · exact AV.within_mono (fun x hx => by cases hx) av F.res
    · intro x hx; cases hx
    · intro x hx; cases hx
    · intro x hx; cases hx
    · intro x hx
      have : x = 0 := by simpa [inI] using hx
      subst this; exact .inr rfl
  have hdo := does_call (E := E) (o := ⟨d, .call c, ty, pos, af, g⟩) (c := c) rfl hc hd q1 q2 q3 F.calls ok (args := args) (caps := []) (by simpa using ha)
  have he : Names.delta ⟨fun _ => b, []⟩ [0] [(0, k)] [] av = { v := av, wr := [(b, none)] } := by
    simp only [Names.delta, List.map_nil, List.map_cons, AV.ren_none av F.res]
    rfl
  have hH : ([(0, k)] : List (Nat × Blk)).map (fun x => ((fun _ => b) x.1, x.2.ren (fun _ => b))) = [(b, k)] := by
    simp only [List.map_cons, List.map_nil, Blk.ren_none F.blk]
  rw [he] at hdo
  have hdo' : Does E ⟨d, .call c, ty, pos, af, g⟩ (.fn f [] [] :: args) [(b, k)] { v := av, wr := [(b, none)] } := by
    rw [← hH]; exact hdo
  have hops : (Op.operands (.call c)).toList = .func f :: c.args.toList := by simp [Op.operands, Call.operands, hc]
  refine ⟨h1, .fn f [] [] :: args, [(b, k)], _, { vals := ?_, deps := ?_, fresh := fun _ h => (by cases h), does := hdo', reach := hreach, inV := ?_, inN := fun _ h => (by cases h), inW := ?_, wr := ?_, pure := fun h => ?_, quiet := fun h => ?_, foot := hft }, h7⟩
  · show evls st.S (Op.operands (.call c)).toList = _
    rw [hops]; simp only [evls, evl, hv]
  · intro x hx; simp only [List.mem_singleton] at hx; subst hx; exact hb
  · exact AV.within_mono (fun x hx => by cases hx) av F.res
  · intro x hx q hq
    simp only [List.mem_singleton] at hx
    subst hx; cases hq
  · intro x hx
    simp only [List.mem_singleton] at hx
    subst hx
    rw [hbr]; simp
  · exact absurd h hp
  · exact absurd h hq
end steps
end Go.Am
/- slices.Insert over a row of one's own: its contract. No conditions. -/
namespace Go.Proofs.Ytaffaalpgpepeaa
open Go.Am
theorem insertM_calls (D : List Member) (i : Nat) (v : Sl Member) (hi : i ≤ D.length) (hv : 0 < v.D.length) (hl1 : D.length ≤ 1000000) (hl2 : v.D.length ≤ 1000000) : XCalls Try.prog 67 [.sl 0 0 D.length 3 false, .pv (.lit (.int .i64 (i : Int))), sS (some v.nil) eMember v.D] (.cells (encC eMember D)) (sS (some false) eMember (insertL D i v.D)) := by
 have hm0 : ((v.D.length : Int) == 0) = false := by simp; intro h; rw [h] at hv; simp at hv
 have hrep : D.take i ++ List.replicate (D.length + v.D.length - i) (Member.mk 0 0 false) = D.take i ++ List.replicate v.D.length (Member.mk 0 0 false) ++ List.replicate (D.length - i) (Member.mk 0 0 false) := by
  rw [List.append_assoc, List.replicate_append_replicate]; congr 2; omega
 refine XCalls.of_body tabOk Try.func67 rfl rfl rfl rfl rfl (encC_within _ _) mixed fun E hP C hI => ?_
 refine Awp.capOf 0 0 D.length 3 false (encC eMember D) rfl rfl (by rw [encC_len]; rfl) fun c hc0 => ?_
 refine Awp.cons C (fun _ => .pure) (by kernel_rfl) ?_ -- region 0 false
 refine rvc_prim C rfl rfl rfl rfl (trivial) rfl ?_
 refine rvc_nil ?_
 refine Awp.cons C (fun _ => .pure) (by kernel_rfl) ?_ -- region 1 false
 refine rvc_prim C rfl rfl rfl rfl (trivial) rfl ?_
 refine rvc_prim C rfl rfl rfl rfl (trivial) rfl ?_
 refine rvc_un (rexec_sliceLoC C rfl rfl rfl rfl rfl rfl hi ?_)
 refine rvc_nil ?_
 refine Awp.cons C (fun _ => .pure) (by kernel_rfl) ?_ -- region 2 false
 refine rvc_prim C rfl rfl rfl rfl (trivial) rfl ?_
 refine rvc_prim C rfl rfl rfl rfl (trivial) rfl ?_
 refine rvc_prim C rfl rfl rfl rfl (trivial) rfl ?_
 refine rvc_nil ?_
 refine Awp.seq ?_
 refine Awp.cons C (fun _ => .pure) (by kernel_rfl) ?_ -- region 3 false
 refine rvc_prim C rfl rfl rfl rfl (trivial) rfl ?_
 refine rvc_prim C rfl rfl rfl rfl (trivial) rfl ?_
 refine rvc_nil ?_
 refine Awp.condF rfl (hm0) ?_
 refine Awp.skip ?_
 refine Awp.cons C (fun _ => .pure) (by kernel_rfl) ?_ -- region 5 false
 refine rvc_prim C rfl rfl rfl rfl (trivial) rfl ?_
 refine rvc_un (rexec_lenC C rfl rfl rfl rfl rfl rfl ?_)
 refine rvc_prim C rfl rfl rfl rfl (trivial) rfl ?_
 refine rvc_nil ?_
 refine Awp.seq ?_
 refine Awp.cons C (fun _ => .pure) (by kernel_rfl) ?_ -- region 6 false
 refine rvc_prim C rfl rfl rfl rfl (trivial) rfl ?_
 refine rvc_prim C rfl rfl rfl rfl (trivial) rfl ?_
 refine rvc_prim C rfl rfl rfl rfl (trivial) rfl ?_
 refine rvc_nil ?_
 refine Awp.cond rfl (fun hc => ?_) (fun hc => ?_)
 ·
  refine Awp.dropCap 0 0 0 D.length 3 c rfl ?_
  have hin : i = D.length := by have := beq_iff_eq.1 hc; omega
  refine Awp.cons C (fun _ => .pure) (by kernel_rfl) ?_ -- region 7 false
  refine rvc_prim C rfl rfl rfl rfl (trivial) rfl ?_
  refine rvc_prim C rfl rfl rfl rfl (trivial) rfl ?_
  refine rvc_un (rexec_append C rfl rfl rfl rfl rfl rfl rfl rfl (fun _ h => by cases h) rfl (en := eMember) (D0 := D) (D := v.D) rfl rfl rfl rfl (by show (2 * (D.length + v.D.length) + 192) * 24 ≤ _; omega) (by decide) (nn := (D ++ v.D).length) (by simp) ?_)
  refine rvc_prim C rfl rfl rfl rfl (trivial) rfl ?_
  refine rvc_nil ?_
  refine Awp.freezeW 25 (encL eMember (insertL D i v.D)) ?_ [(6, sS (some false) eMember (insertL D i v.D))] [] ?_ ?_ ?_
  · rw [show insertL D i v.D = D ++ v.D by subst hin; simp [insertL]]; rfl
  · exact ⟨⟨_, rfl, .inl (.inr ⟨_, _, _, rfl, by simp only [sS]; congr 2; rw [insertL_len (D := D) (M := v.D) hi]; simp⟩)⟩, trivial⟩
  · exact trivial
  refine Awp.ret ?_
  exact ⟨.inl rfl, rfl⟩
 ·
  have hne : i ≠ D.length := by have := ne_of_beq_false hc; omega
  refine Awp.skip ?_
  refine Awp.seq ?_
  refine Awp.cons C (fun _ => .pure) (by kernel_rfl) ?_ -- region 8 false
  refine rvc_prim C rfl rfl rfl rfl (trivial) rfl ?_
  refine rvc_prim C rfl rfl rfl rfl (trivial) rfl ?_
  refine rvc_un (rexec_primv C { v := .pv (.lit (.int .i64 ((D.length + v.D.length : Nat) : Int))) } rfl rfl rfl rfl trivial (delta_int (by rw [wrapI _ (by omega)]; omega)) rfl ?_)
  refine rvc_prim C rfl rfl rfl rfl (trivial) rfl ?_
  refine rvc_un (rexec_capC C rfl rfl rfl rfl rfl rfl ?_)
  refine rvc_prim C rfl rfl rfl rfl (trivial) rfl ?_
  refine rvc_nil ?_
  refine Awp.cond rfl (fun hc => ?_) (fun hc => ?_)
  ·
   have hgt : c < D.length + v.D.length := by have := of_decide_eq_true hc; omega
   refine Awp.cons C (fun _ => .pure) (by kernel_rfl) ?_ -- region 9 false
   refine rvc_prim C rfl rfl rfl rfl (trivial) rfl ?_
   refine rvc_prim C rfl rfl rfl rfl (trivial) rfl ?_
   refine rvc_un (rexec_sliceHiC C i rfl rfl rfl rfl rfl rfl (by omega) ?_)
   refine rvc_prim C rfl rfl rfl rfl (trivial) rfl ?_
   refine rvc_prim C rfl rfl rfl rfl (trivial) rfl ?_
   refine rvc_un (rexec_primv C { v := .pv (.lit (.int .i64 ((D.length + v.D.length : Nat) : Int))) } rfl rfl rfl rfl trivial (delta_int (by rw [wrapI _ (by omega)]; omega)) rfl ?_)
   refine rvc_prim C rfl rfl rfl rfl (trivial) rfl ?_
   refine rvc_un (rexec_primv C { v := .pv (.lit (.int .i64 ((D.length + v.D.length - i : Nat) : Int))) } rfl rfl rfl rfl trivial (delta_int (by rw [wrapI _ (by omega)]; omega)) rfl ?_)
   refine rvc_un (rexec_appendZ C rfl rfl rfl rfl rfl rfl rfl rfl rfl (Member.mk 0 0 false) D i (D.length + v.D.length - i) rfl rfl rfl hi (by omega) (by omega) (by show (2 * (i + (D.length + v.D.length - i)) + 192) * 24 ≤ _; omega) (by decide) (by decide) rfl rfl ?_)
   refine rvc_prim C rfl rfl rfl rfl (trivial) rfl ?_
   refine rvc_nil ?_
   refine Awp.cons C (fun _ => .pure) (by kernel_rfl) ?_ -- region 10 false
   refine rvc_prim C rfl rfl rfl rfl (trivial) rfl ?_
   refine rvc_prim C rfl rfl rfl rfl (trivial) rfl ?_
   refine rvc_un (rexec_sliceOwn C (l := i) rfl rfl rfl rfl rfl rfl (by omega) ?_)
   refine rvc_prim C rfl rfl rfl rfl (trivial) rfl ?_
   refine rvc_un (rexec_copyS C rfl rfl rfl rfl rfl rfl (e := eMember) v.D (encC eMember (D.take i ++ v.D ++ List.replicate (D.length - i) (Member.mk 0 0 false))) rfl rfl rfl (by omega) (by rw [encC_len]; simp [eMember]; omega) (by rw [hrep]; exact set_mid (by simp) (by simp [eMember]; omega)) ?_)
   refine rvc_nil ?_
   refine Awp.dropCap 0 0 0 D.length 3 c rfl ?_
   refine Awp.consP C ?_
   refine rvc_prim C rfl rfl rfl rfl (trivial) rfl ?_
   refine rvc_prim C rfl rfl rfl rfl (trivial) rfl ?_
   refine rvc_prim C rfl rfl rfl rfl (trivial) rfl ?_
   refine rvc_un (rexec_primv C { v := .pv (.lit (.int .i64 ((i + v.D.length : Nat) : Int))) } rfl rfl rfl rfl trivial (delta_int (by rw [wrapI _ (by omega)]; omega)) rfl ?_)
   refine rvc_un (rexec_sliceOwn C (l := i + v.D.length) rfl rfl rfl rfl rfl rfl (by omega) ?_)
   refine rvc_prim C rfl rfl rfl rfl (trivial) rfl ?_
   refine rvc_prim C rfl rfl rfl rfl (trivial) rfl ?_
   refine rvc_un (rexec_sliceOwn C (l := i) rfl rfl rfl rfl rfl rfl (by omega) ?_)
   refine rvc_un (rexec_copyO C rfl rfl rfl rfl rfl rfl (e := eMember) (D.drop i) (encC eMember (insertL D i v.D)) rfl rfl rfl rfl (by rw [encC_len]; simp [eMember]; omega) (by have := tail_of (e := eMember) (D := D) (Z := []) (i := i) (k := D.length - i) (j := (D.drop i).length * 3) hi (Nat.le_refl _) (by simp [eMember]); simpa [eMember] using this) (by simp; omega) (by rw [encC_len]; simp [eMember]; omega) (by have := set_mid (e := eMember) (A := D.take i ++ v.D) (B := List.replicate (D.length - i) (Member.mk 0 0 false)) (B' := D.drop i) (C := []) (k := (i + v.D.length) * 3) (by simp) (by simp [eMember]; omega); simpa [insertL] using this) ?_ rfl)
   refine rvc_nil ?_
   refine Awp.cons C (fun _ => .pure) (by kernel_rfl) ?_ -- region 12 false
   refine rvc_prim C rfl rfl rfl rfl (trivial) rfl ?_
   refine rvc_prim C rfl rfl rfl rfl (trivial) rfl ?_
   refine rvc_nil ?_
   refine Awp.freezeW 40 (encL eMember (insertL D i v.D)) ?_ [(6, sS (some false) eMember (insertL D i v.D))] [] ?_ ?_ ?_
   · rfl
   · exact ⟨⟨_, rfl, .inl (.inr ⟨_, _, _, rfl, by simp only [sS]; congr 2; rw [insertL_len (D := D) (M := v.D) hi]; omega⟩)⟩, trivial⟩
   · exact trivial
   refine Awp.ret ?_
   exact ⟨.inl rfl, rfl⟩
  ·
   have hle : D.length + v.D.length ≤ c := by have := of_decide_eq_false hc; omega
   refine Awp.skip ?_
   refine Awp.cons C (fun _ => .pure) (by kernel_rfl) ?_ -- region 13 false
   refine rvc_prim C rfl rfl rfl rfl (trivial) rfl ?_
   refine rvc_prim C rfl rfl rfl rfl (trivial) rfl ?_
   refine rvc_prim C rfl rfl rfl rfl (trivial) rfl ?_
   refine rvc_un (rexec_primv C { v := .pv (.lit (.int .i64 ((D.length + v.D.length : Nat) : Int))) } rfl rfl rfl rfl trivial (delta_int (by rw [wrapI _ (by omega)]; omega)) rfl ?_)
   refine rvc_un (rexec_sliceHiC C (D.length + v.D.length) rfl rfl rfl rfl rfl rfl (by omega) ?_)
   refine rvc_prim C rfl rfl rfl rfl (trivial) rfl ?_
   refine rvc_nil ?_
   refine Awp.seq ?_
   refine Awp.extend 0 0 (D.length + v.D.length) 3 c (encC eMember D) rfl rfl (by rw [encC_len]; simp [eMember]; omega) ?_
   refine Awp.dropCap 0 0 0 (D.length + v.D.length) 3 c rfl ?_
   refine Awp.cons C (fun _ => .writer) (by kernel_rfl) ?_ -- region 14 false
   refine rvc_prim C rfl rfl rfl rfl (trivial) rfl ?_
   refine rvc_prim C rfl rfl rfl rfl (trivial) rfl ?_
   refine rvc_prim C rfl rfl rfl rfl (trivial) rfl ?_
   refine rvc_prim C rfl rfl rfl rfl (trivial) rfl ?_
   refine rvc_un (rexec_primv C { v := .pv (.lit (.int .i64 ((i + v.D.length : Nat) : Int))) } rfl rfl rfl rfl trivial (delta_int (by rw [wrapI _ (by omega)]; omega)) rfl ?_)
   refine rvc_un (rexec_sliceOwn C (l := i + v.D.length) rfl rfl rfl rfl rfl rfl (by omega) ?_)
   refine rvc_un (rexec_overlaps C (fn := Try.f76) (t := 22) (tR := 4) rfl rfl (by rw [hP]; exact Try.func76) rfl rfl rfl (by kernel_rfl) rfl rfl rfl (fl := some v.nil) (m := v.D.length) (ps := encL eMember v.D) rfl rfl (encL_ne hv (by decide)) (encC_ne (by omega) (by decide)) ?_)
   refine rvc_prim C rfl rfl rfl rfl (trivial) rfl ?_
   refine rvc_nil ?_
   refine Awp.condT rfl (rfl) ?_
   refine Awp.consP C ?_
   refine rvc_prim C rfl rfl rfl rfl (trivial) rfl ?_
   refine rvc_prim C rfl rfl rfl rfl (trivial) rfl ?_
   refine rvc_prim C rfl rfl rfl rfl (trivial) rfl ?_
   refine rvc_un (rexec_primv C { v := .pv (.lit (.int .i64 ((i + v.D.length : Nat) : Int))) } rfl rfl rfl rfl trivial (delta_int (by rw [wrapI _ (by omega)]; omega)) rfl ?_)
   refine rvc_un (rexec_sliceOwn C (l := i + v.D.length) rfl rfl rfl rfl rfl rfl (by omega) ?_)
   refine rvc_prim C rfl rfl rfl rfl (trivial) rfl ?_
   refine rvc_prim C rfl rfl rfl rfl (trivial) rfl ?_
   refine rvc_un (rexec_sliceOwn C (l := i) rfl rfl rfl rfl rfl rfl (by omega) ?_)
   refine rvc_un (rexec_copyO C rfl rfl rfl rfl rfl rfl (e := eMember) (D.drop i) (setRange (encC eMember D ++ List.replicate (c * 3 - (encC eMember D).length) AV.undef) ((i + v.D.length) * 3) (encC eMember (D.drop i))) rfl rfl rfl rfl (by rw [List.length_append, encC_len, List.length_replicate]; simp [eMember]; omega) (by have := tail_of (e := eMember) (D := D) (Z := List.replicate (c * 3 - (encC eMember D).length) AV.undef) (i := i) (k := D.length + v.D.length - i) (j := (D.drop i).length * 3) hi (by omega) (by simp [eMember]); simpa [eMember] using this) (by simp; omega) (by rw [List.length_append, encC_len, List.length_replicate]; simp [eMember]; omega) (by congr 1; simp) ?_ rfl)
   refine rvc_nil ?_
   refine Awp.cons C (fun _ => .pure) (by kernel_rfl) ?_ -- region 16 false
   refine rvc_prim C rfl rfl rfl rfl (trivial) rfl ?_
   refine rvc_prim C rfl rfl rfl rfl (trivial) rfl ?_
   refine rvc_un (rexec_sliceOwn C (l := i) rfl rfl rfl rfl rfl rfl (by omega) ?_)
   refine rvc_prim C rfl rfl rfl rfl (trivial) rfl ?_
   refine rvc_un (rexec_copyS C rfl rfl rfl rfl rfl rfl (e := eMember) v.D (encC eMember (insertL D i v.D) ++ (List.replicate (c * 3 - (encC eMember D).length) AV.undef).drop (v.D.length * 3)) rfl rfl rfl (by omega) (by rw [setRange_length (by simp only [encC_len, List.length_append, List.length_replicate, List.length_drop, show eMember.sz = 3 from rfl]; omega)]; simp only [encC_len, List.length_append, List.length_replicate, show eMember.sz = 3 from rfl]; omega) (by have := insert_inplace (e := eMember) (D := D) (M := v.D) (Z := List.replicate (c * 3 - (encC eMember D).length) AV.undef) (i := i) hi (by rw [List.length_replicate, encC_len]; simp [eMember]; omega); simpa [eMember] using this) ?_)
   refine rvc_nil ?_
   refine Awp.cons C (fun _ => .pure) (by kernel_rfl) ?_ -- region 17 false
   refine rvc_prim C rfl rfl rfl rfl (trivial) rfl ?_
   refine rvc_prim C rfl rfl rfl rfl (trivial) rfl ?_
   refine rvc_nil ?_
   refine Awp.trim 0 (encC eMember (insertL D i v.D)) ((List.replicate (c * 3 - (encC eMember D).length) AV.undef).drop (v.D.length * 3)) rfl ?_
   refine Awp.freezeW 0 (encL eMember (insertL D i v.D)) ?_ [(6, sS (some false) eMember (insertL D i v.D))] [] ?_ ?_ ?_
   · rfl
   · exact ⟨⟨_, rfl, .inl (.inr ⟨_, _, _, rfl, by simp only [sS]; congr 2; rw [insertL_len (D := D) (M := v.D) hi]⟩)⟩, trivial⟩
   · exact trivial
   refine Awp.ret ?_
   exact ⟨.inl rfl, rfl⟩
end Go.Proofs.Ytaffaalpgpepeaa
/- Changes of chains. No conditions. -/
namespace Go.Proofs.Ytaffaalpgpepeaa
open Go.Am
def join_l0 (c : Chain) (m : Member) : Nat → Int → Chain × Int
  | 0, _ => default
  | nn + 1, i => (bif (decide (i < (c.members.D.length : Int))) then (bif (decide ((c.members.D[i.toNat]!.site) ≤ m.site)) then join_l0 c m nn (IntKind.i64.wrap (i + 1)) else (bif (i == 0) then ((Chain.mk 0 (Sl.mk true [])), 152) else ((after c (Sl.mk false (insertL c.members.D i.toNat [(Member.mk m.node m.site true)]))), 0))) else (bif (i == 0) then ((Chain.mk 0 (Sl.mk true [])), 152) else ((after c (Sl.mk false (insertL c.members.D i.toNat [(Member.mk m.node m.site true)]))), 0)))
def join (c : Chain) (m : Member) : Chain × Int :=
  (bif ((check c) != 0) then ((Chain.mk 0 (Sl.mk true [])), (check c)) else (bif (!(member (Member.mk m.node m.site true))) then ((Chain.mk 0 (Sl.mk true [])), 81) else (bif (decide ((placeIn c m.node) ≥ 0)) then ((Chain.mk 0 (Sl.mk true [])), 82) else (bif (decide (c.epoch ≥ 1099511627776)) then ((Chain.mk 0 (Sl.mk true [])), 5) else join_l0 c m ((c.members.D.length - (0 : Int).toNat) + 1) 0))))
theorem join_calls (c : Chain) (m : Member) (hn : c.members.nil = true → c.members.D = []) (hl1 : c.members.D.length ≤ 1000000) : PCalls Try.prog 46 [.agg [.pv (.lit (.int .i64 c.epoch)), sS (some c.members.nil) eMember c.members.D], .agg [.pv (.lit (.int .i64 m.node)), .pv (.lit (.int .i64 m.site)), .pv (.lit (.bool m.fresh))]] (.tup [.agg [.pv (.lit (.int .i64 ((join c m).1.epoch))), sS (some (join c m).1.members.nil) eMember ((join c m).1.members.D)], .pv (.lit (.int .i64 ((join c m).2)))]) := by
 generalize hR : join c m = R
 refine PCalls.of_body tabOk Try.func46 rfl rfl rfl rfl rfl mixed fun E hP C hI => ?_
 refine Awp.consP C ?_
 refine rvc_un (rexec_prim C (δ := { v := .ptr 2 0, new := [(2, .cells [.pv (.lit (.int .i64 c.epoch)), sS (some c.members.nil) eMember c.members.D])] }) rfl rfl rfl rfl trivial rfl ?_)
 refine rvc_un (rexec_prim C (δ := { v := .ptr 3 0, new := [(3, .cells [.pv (.lit (.int .i64 m.node)), .pv (.lit (.int .i64 m.site)), .pv (.lit (.bool m.fresh))])] }) rfl rfl rfl rfl trivial rfl ?_)
 refine rvc_un (rexec_prim C (δ := { v := .ptr 4 0, new := [(4, .cells [.pv (.lit (.int .i64 0)), sS (some true) eMember []])] }) rfl rfl rfl rfl trivial rfl ?_)
 refine rvP C (.pv (.lit (.int .i64 0))) ?_
 refine rvc_nil ?_
 refine Awp.seq ?_
 refine Awp.consP C ?_
 refine rvP C (.agg [.pv (.lit (.int .i64 c.epoch)), sS (some c.members.nil) eMember c.members.D]) ?_
 refine rvc_un (rexec_call hP C rfl rfl rfl (check_calls c (Nat.le_trans hl1 (by decide))) ?_)
 refine rvP C (.pv (.lit (.int .i64 (check c)))) ?_
 refine rvc_nil ?_
 refine Awp.consP C ?_
 refine rvP C (.pv (.lit (.int .i64 (check c)))) ?_
 refine rvP C (.pv (.lit (.bool ((check c) != 0)))) ?_
 refine rvc_nil ?_
 refine Awp.cond (b := ((check c) != 0)) rfl (fun h1 => ?_) (fun h1 => ?_)
 ·
  replace hR := of_true h1 hR
  refine Awp.consP C ?_
  refine rvP C (.agg [.pv (.lit (.int .i64 0)), sS (some true) eMember []]) ?_
  refine rvP C (.pv (.lit (.int .i64 (check c)))) ?_
  refine rvc_un (rexec_prim C (δ := { v := .undef, wr := [(4, some (.cells [.pv (.lit (.int .i64 0)), sS (some true) eMember []]))] }) rfl rfl rfl rfl trivial rfl ?_)
  refine rvP C (.pv (.lit (.int .i64 (check c)))) ?_
  refine rvc_nil ?_
  refine Awp.ret ?_
  subst hR
  exact ⟨.inl rfl, rfl⟩
 ·
  replace hR := of_false h1 hR
  refine Awp.skip ?_
  refine Awp.consP C ?_
  refine rvP C (.ptr 3 2) ?_
  refine rvc_un (rexec_prim C (δ := { v := .undef, wr := [(3, some (.cells [.pv (.lit (.int .i64 m.node)), .pv (.lit (.int .i64 m.site)), .pv (.lit (.bool true))]))] }) rfl rfl rfl rfl trivial rfl ?_)
  refine rvc_nil ?_
  refine Awp.seq ?_
  refine Awp.block ?_
  refine Awp.consP C ?_
  refine rvP C (.agg [.pv (.lit (.int .i64 m.node)), .pv (.lit (.int .i64 m.site)), .pv (.lit (.bool true))]) ?_
  refine rvc_un (rexec_call hP C rfl rfl rfl (member_calls (Member.mk m.node m.site true)) ?_)
  refine rvP C (.pv (.lit (.bool (!(member (Member.mk m.node m.site true)))))) ?_
  refine rvP C (.pv (.lit (.bool (!(member (Member.mk m.node m.site true)))))) ?_
  refine rvc_nil ?_
  refine Awp.cond (b := (!(member (Member.mk m.node m.site true)))) rfl (fun h2 => ?_) (fun h2 => ?_)
  ·
   replace hR := of_true h2 hR
   refine Awp.consP C ?_
   refine rvP C (.agg [.pv (.lit (.int .i64 0)), sS (some true) eMember []]) ?_
   refine rvc_un (rexec_prim C (δ := { v := .undef, wr := [(4, some (.cells [.pv (.lit (.int .i64 0)), sS (some true) eMember []]))] }) rfl rfl rfl rfl trivial rfl ?_)
   refine rvP C (.pv (.lit (.int .i64 81))) ?_
   refine rvc_nil ?_
   refine Awp.ret ?_
   subst hR
   exact ⟨.inl rfl, rfl⟩
  ·
   replace hR := of_false h2 hR
   refine Awp.consP C ?_
   refine rvP C (.agg [.pv (.lit (.int .i64 c.epoch)), sS (some c.members.nil) eMember c.members.D]) ?_
   refine rvP C (.ptr 3 0) ?_
   refine rvP C (.pv (.lit (.int .i64 m.node))) ?_
   refine rvc_un (rexec_call hP C rfl rfl rfl (placeIn_calls c m.node (Nat.le_trans hl1 (by decide))) ?_)
   refine rvP C (.pv (.lit (.bool (decide ((placeIn c m.node) ≥ 0))))) ?_
   refine rvP C (.pv (.lit (.bool (decide ((placeIn c m.node) ≥ 0))))) ?_
   refine rvc_nil ?_
   refine Awp.cond (b := (decide ((placeIn c m.node) ≥ 0))) rfl (fun h3 => ?_) (fun h3 => ?_)
   ·
    replace hR := of_true h3 hR
    refine Awp.consP C ?_
    refine rvP C (.agg [.pv (.lit (.int .i64 0)), sS (some true) eMember []]) ?_
    refine rvc_un (rexec_prim C (δ := { v := .undef, wr := [(4, some (.cells [.pv (.lit (.int .i64 0)), sS (some true) eMember []]))] }) rfl rfl rfl rfl trivial rfl ?_)
    refine rvP C (.pv (.lit (.int .i64 82))) ?_
    refine rvc_nil ?_
    refine Awp.ret ?_
    subst hR
    exact ⟨.inl rfl, rfl⟩
   ·
    replace hR := of_false h3 hR
    refine Awp.consP C ?_
    refine rvP C (.ptr 2 0) ?_
    refine rvP C (.pv (.lit (.int .i64 c.epoch))) ?_
    refine rvP C (.pv (.lit (.bool (decide (c.epoch ≥ 1099511627776))))) ?_
    refine rvP C (.pv (.lit (.bool (decide (c.epoch ≥ 1099511627776))))) ?_
    refine rvc_nil ?_
    refine Awp.cond (b := (decide (c.epoch ≥ 1099511627776))) rfl (fun h4 => ?_) (fun h4 => ?_)
    ·
     replace hR := of_true h4 hR
     refine Awp.consP C ?_
     refine rvP C (.agg [.pv (.lit (.int .i64 0)), sS (some true) eMember []]) ?_
     refine rvc_un (rexec_prim C (δ := { v := .undef, wr := [(4, some (.cells [.pv (.lit (.int .i64 0)), sS (some true) eMember []]))] }) rfl rfl rfl rfl trivial rfl ?_)
     refine rvP C (.pv (.lit (.int .i64 5))) ?_
     refine rvc_nil ?_
     refine Awp.ret ?_
     subst hR
     exact ⟨.inl rfl, rfl⟩
    ·
     replace hR := of_false h4 hR
     refine Awp.skip ?_
     refine Awp.consP C ?_
     refine rvP C (.pv (.lit (.int .i64 0))) ?_
     refine rvc_nil ?_
     refine Awp.seq ?_
     refine Awp.block ?_
     refine Awp.forM (σ := Int) (fun v => [(2, .ptr 2 0), (3, .ptr 3 0), (4, .ptr 4 0), (7, .pv (.lit (.int .i64 v)))]) (fun v => [(2, .cells [.pv (.lit (.int .i64 c.epoch)), sS (some c.members.nil) eMember c.members.D]), (3, .cells [.pv (.lit (.int .i64 m.node)), .pv (.lit (.int .i64 m.site)), .pv (.lit (.bool true))]), (4, .cells [.pv (.lit (.int .i64 0)), sS (some true) eMember []])]) [2, 3, 4] (fun n v => n = (c.members.D.length - (v : Int).toNat) ∧ join_l0 c m ((c.members.D.length - (v : Int).toNat) + 1) v = R ∧ (0 ≤ v ∧ v ≤ (c.members.D.length : Int))) ((c.members.D.length - (0 : Int).toNat)) 0 ?_ ?_ (fun _ i h5 => ?_)
     · exact ⟨rfl, hR, by simp⟩
     · exact ⟨fun b => b, WeakerR.ofL (Ks := [2, 3, 4]) hI ⟨⟨rfl, rfl⟩, ⟨rfl, rfl⟩, ⟨rfl, rfl⟩, ⟨rfl, rfl⟩, trivial⟩ (okH_cons rfl rfl rfl rfl (okH_cons rfl rfl rfl rfl (okH_cons rfl rfl rfl rfl (okH_nil)))) rfl⟩
     obtain ⟨rfl, hR, hV⟩ := h5
     refine Awp.seq ?_
     refine Awp.consP C ?_
     refine rvP C (.pv (.lit (.int .i64 i))) ?_
     refine rvP C (.ptr 2 1) ?_
     refine rvP C (sS (some c.members.nil) eMember c.members.D) ?_
     refine rvP C (.pv (.lit (.int .i64 (c.members.D.length : Int)))) ?_
     refine rvP C (.pv (.lit (.bool (decide (i < (c.members.D.length : Int)))))) ?_
     refine rvP C (.pv (.lit (.bool (decide (i < (c.members.D.length : Int)))))) ?_
     refine rvc_case 37 (decide (i < (c.members.D.length : Int))) rfl (fun h7 => ?_) (fun h7 => ?_)
     ·
      replace hR := of_true h7 hR
      refine rvO C (.ptr 2 1) ?_
      refine rvO C (sS (some c.members.nil) eMember c.members.D) ?_
      refine rvO C (.pv (.lit (.int .i64 i))) ?_
      have h8 : c.members.D[i.toNat]? = some c.members.D[i.toNat]! := getE (by have := check_len (c := c); have := check_le6 (c := c); have := placeIn_lt c m.node; have := eq_of_bne_false h1; have := of_decide_eq_false h3; have := of_decide_eq_false h4; have := of_decide_eq_true h7; omega)
      refine rvc_open rfl rfl rfl (rexec_idxS C rfl rfl rfl rfl rfl rfl (c.members.D[i.toNat]!) (by have := check_len (c := c); have := check_le6 (c := c); have := placeIn_lt c m.node; have := eq_of_bne_false h1; have := of_decide_eq_false h3; have := of_decide_eq_false h4; have := of_decide_eq_true h7; omega) h8 ?_)
      refine rvO C (.rp [.lit (.int .i64 (c.members.D[i.toNat]!.site))]) ?_
      refine rvO C (.pv (.lit (.int .i64 (c.members.D[i.toNat]!.site)))) ?_
      refine rvO C (.ptr 3 1) ?_
      refine rvO C (.pv (.lit (.int .i64 m.site))) ?_
      refine rvO C (.pv (.lit (.bool (decide ((c.members.D[i.toNat]!.site) ≤ m.site))))) ?_
      refine rvP C (.pv (.lit (.bool (decide ((c.members.D[i.toNat]!.site) ≤ m.site))))) ?_
      refine rvc_nil ?_
      refine Awp.cond (b := (decide ((c.members.D[i.toNat]!.site) ≤ m.site))) rfl (fun h9 => ?_) (fun h9 => ?_)
      ·
       replace hR := of_true h9 hR
       refine Awp.skip ?_
       refine Awp.block ?_
       refine Awp.regionP C ?_
       refine rvP C (.pv (.lit (.int .i64 i))) ?_
       refine rvP C (.pv (.lit (.int .i64 (IntKind.i64.wrap (i + 1))))) ?_
       refine rvP C (.pv (.lit (.int .i64 (IntKind.i64.wrap (i + 1))))) ?_
       refine rvc_nil ?_
       refine ⟨_, (IntKind.i64.wrap (i + 1)), ?_, ⟨rfl, (by rw [show (c.members.D.length - ((IntKind.i64.wrap (i + 1)) : Int).toNat) + 1 = (c.members.D.length - (i : Int).toNat) by have := wrapI (i + 1); have := check_len (c := c); have := check_le6 (c := c); have := placeIn_lt c m.node; have := eq_of_bne_false h1; have := of_decide_eq_false h3; have := of_decide_eq_false h4; have := of_decide_eq_true h7; have := of_decide_eq_true h9; first | omega | (simp only [List.length_drop]; omega)]; exact hR), (by have := wrapI (i + 1); have := check_len (c := c); have := check_le6 (c := c); have := placeIn_lt c m.node; have := eq_of_bne_false h1; have := of_decide_eq_false h3; have := of_decide_eq_false h4; have := of_decide_eq_true h7; have := of_decide_eq_true h9; omega)⟩, ?_⟩
       · show (c.members.D.length - ((IntKind.i64.wrap (i + 1)) : Int).toNat) < (c.members.D.length - (i : Int).toNat); have := wrapI (i + 1); have := check_len (c := c); have := check_le6 (c := c); have := placeIn_lt c m.node; have := eq_of_bne_false h1; have := of_decide_eq_false h3; have := of_decide_eq_false h4; have := of_decide_eq_true h7; have := of_decide_eq_true h9; first | omega | (simp only [List.length_drop]; omega)
       · exact ⟨fun b => b, WeakerR.ofL (Ks := [2, 3, 4]) hI ⟨⟨rfl, rfl⟩, ⟨rfl, rfl⟩, ⟨rfl, rfl⟩, ⟨rfl, rfl⟩, trivial⟩ (okH_cons rfl rfl rfl rfl (okH_cons rfl rfl rfl rfl (okH_cons rfl rfl rfl rfl (okH_nil)))) rfl⟩
      ·
       replace hR := of_false h9 hR
       refine Awp.exit ?_
       refine Awp.seq ?_
       refine Awp.consP C ?_
       refine rvP C (.pv (.lit (.int .i64 i))) ?_
       refine rvP C (.pv (.lit (.bool (i == 0)))) ?_
       refine rvc_nil ?_
       refine Awp.cond (b := (i == 0)) rfl (fun h10 => ?_) (fun h10 => ?_)
       ·
        replace hR := of_true h10 hR
        refine Awp.consP C ?_
        refine rvP C (.agg [.pv (.lit (.int .i64 0)), sS (some true) eMember []]) ?_
        refine rvc_un (rexec_prim C (δ := { v := .undef, wr := [(4, some (.cells [.pv (.lit (.int .i64 0)), sS (some true) eMember []]))] }) rfl rfl rfl rfl trivial rfl ?_)
        refine rvP C (.pv (.lit (.int .i64 152))) ?_
        refine rvc_nil ?_
        refine Awp.ret ?_
        subst hR
        exact ⟨.inl rfl, rfl⟩
       ·
        replace hR := of_false h10 hR
        refine Awp.skip ?_
        refine Awp.cons C (fun o => match o.dst with | some 53 => .reads [2] | some 55 => .reads [2] | some 58 => .reads [3] | some 60 => .writes [56] | some 56 => .quiet | _ => .pure) (by kernel_rfl) ?_
        refine rvP C (.agg [.pv (.lit (.int .i64 c.epoch)), sS (some c.members.nil) eMember c.members.D]) ?_
        refine rvP C (.ptr 2 1) ?_
        refine rvP C (sS (some c.members.nil) eMember c.members.D) ?_
        refine rvc_un (rexec_callO hP C rfl rfl rfl rfl (cloneO_calls c.members (nil_false hn (by have := check_len (c := c); have := check_le6 (c := c); have := placeIn_lt c m.node; have := eq_of_bne_false h1; have := of_decide_eq_false h3; have := of_decide_eq_false h4; have := of_decide_eq_true h7; have := of_decide_eq_false h9; have := ne_of_beq_false h10; omega)) hl1) ?_)
        refine rvP C (.pv (.lit (.int .i64 i))) ?_
        refine rvP C (.agg [.pv (.lit (.int .i64 m.node)), .pv (.lit (.int .i64 m.site)), .pv (.lit (.bool true))]) ?_
        refine rvc_un (rexec_buildSliceF C eMember [(Member.mk m.node m.site true)] rfl rfl rfl rfl rfl rfl rfl (by decide) rfl ?_)
        refine rvc_slot 57 (.pv (.lit (.int .i64 ((i.toNat : Nat) : Int)))) (by rw [show ((i.toNat : Nat) : Int) = i by omega]; rfl) ?_
        refine rvc_un (rexec_callX hP C (b := 56) rfl rfl rfl (insertM_calls c.members.D i.toNat (Sl.mk false [(Member.mk m.node m.site true)]) (by have := check_len (c := c); have := check_le6 (c := c); have := placeIn_lt c m.node; have := eq_of_bne_false h1; have := of_decide_eq_false h3; have := of_decide_eq_false h4; have := of_decide_eq_true h7; have := of_decide_eq_false h9; have := ne_of_beq_false h10; omega) (by simp) hl1 (by simp)) rfl rfl ?_)
        refine rvc_un (rexec_call hP C rfl rfl rfl (after_calls c (Sl.mk false (insertL c.members.D i.toNat [(Member.mk m.node m.site true)]))) ?_)
        refine rvc_un (rexec_prim C (δ := { v := .undef, wr := [(4, some (.cells [.pv (.lit (.int .i64 ((after c (Sl.mk false (insertL c.members.D i.toNat [(Member.mk m.node m.site true)]))).epoch))), sS (some (after c (Sl.mk false (insertL c.members.D i.toNat [(Member.mk m.node m.site true)]))).members.nil) eMember ((after c (Sl.mk false (insertL c.members.D i.toNat [(Member.mk m.node m.site true)]))).members.D)]))] }) rfl rfl rfl rfl trivial rfl ?_)
        refine rvP C (.pv (.lit (.int .i64 0))) ?_
        refine rvc_nil ?_
        refine Awp.ret ?_
        subst hR
        exact ⟨.inl rfl, rfl⟩
     ·
      replace hR := of_false h7 hR
      refine rvS ?_
      refine rvS ?_
      refine rvS ?_
      refine rvS ?_
      refine rvS ?_
      refine rvS ?_
      refine rvS ?_
      refine rvS ?_
      refine rvS ?_
      refine rvP C (.pv (.lit (.bool false))) ?_
      refine rvc_nil ?_
      refine Awp.condF (b := false) rfl rfl ?_
      refine Awp.exit ?_
      refine Awp.seq ?_
      refine Awp.consP C ?_
      refine rvP C (.pv (.lit (.int .i64 i))) ?_
      refine rvP C (.pv (.lit (.bool (i == 0)))) ?_
      refine rvc_nil ?_
      refine Awp.cond (b := (i == 0)) rfl (fun h11 => ?_) (fun h11 => ?_)
      ·
       replace hR := of_true h11 hR
       refine Awp.consP C ?_
       refine rvP C (.agg [.pv (.lit (.int .i64 0)), sS (some true) eMember []]) ?_
       refine rvc_un (rexec_prim C (δ := { v := .undef, wr := [(4, some (.cells [.pv (.lit (.int .i64 0)), sS (some true) eMember []]))] }) rfl rfl rfl rfl trivial rfl ?_)
       refine rvP C (.pv (.lit (.int .i64 152))) ?_
       refine rvc_nil ?_
       refine Awp.ret ?_
       subst hR
       exact ⟨.inl rfl, rfl⟩
      ·
       replace hR := of_false h11 hR
       refine Awp.skip ?_
       refine Awp.cons C (fun o => match o.dst with | some 53 => .reads [2] | some 55 => .reads [2] | some 58 => .reads [3] | some 60 => .writes [56] | some 56 => .quiet | _ => .pure) (by kernel_rfl) ?_
       refine rvP C (.agg [.pv (.lit (.int .i64 c.epoch)), sS (some c.members.nil) eMember c.members.D]) ?_
       refine rvP C (.ptr 2 1) ?_
       refine rvP C (sS (some c.members.nil) eMember c.members.D) ?_
       refine rvc_un (rexec_callO hP C rfl rfl rfl rfl (cloneO_calls c.members (nil_false hn (by have := check_len (c := c); have := check_le6 (c := c); have := placeIn_lt c m.node; have := eq_of_bne_false h1; have := of_decide_eq_false h3; have := of_decide_eq_false h4; have := of_decide_eq_false h7; have := ne_of_beq_false h11; omega)) hl1) ?_)
       refine rvP C (.pv (.lit (.int .i64 i))) ?_
       refine rvP C (.agg [.pv (.lit (.int .i64 m.node)), .pv (.lit (.int .i64 m.site)), .pv (.lit (.bool true))]) ?_
       refine rvc_un (rexec_buildSliceF C eMember [(Member.mk m.node m.site true)] rfl rfl rfl rfl rfl rfl rfl (by decide) rfl ?_)
       refine rvc_slot 57 (.pv (.lit (.int .i64 ((i.toNat : Nat) : Int)))) (by rw [show ((i.toNat : Nat) : Int) = i by omega]; rfl) ?_
       refine rvc_un (rexec_callX hP C (b := 56) rfl rfl rfl (insertM_calls c.members.D i.toNat (Sl.mk false [(Member.mk m.node m.site true)]) (by have := check_len (c := c); have := check_le6 (c := c); have := placeIn_lt c m.node; have := eq_of_bne_false h1; have := of_decide_eq_false h3; have := of_decide_eq_false h4; have := of_decide_eq_false h7; have := ne_of_beq_false h11; omega) (by simp) hl1 (by simp)) rfl rfl ?_)
       refine rvc_un (rexec_call hP C rfl rfl rfl (after_calls c (Sl.mk false (insertL c.members.D i.toNat [(Member.mk m.node m.site true)]))) ?_)
       refine rvc_un (rexec_prim C (δ := { v := .undef, wr := [(4, some (.cells [.pv (.lit (.int .i64 ((after c (Sl.mk false (insertL c.members.D i.toNat [(Member.mk m.node m.site true)]))).epoch))), sS (some (after c (Sl.mk false (insertL c.members.D i.toNat [(Member.mk m.node m.site true)]))).members.nil) eMember ((after c (Sl.mk false (insertL c.members.D i.toNat [(Member.mk m.node m.site true)]))).members.D)]))] }) rfl rfl rfl rfl trivial rfl ?_)
       refine rvP C (.pv (.lit (.int .i64 0))) ?_
       refine rvc_nil ?_
       refine Awp.ret ?_
       subst hR
       exact ⟨.inl rfl, rfl⟩
def drop (c : Chain) (node : Int) : Chain × Int :=
  (bif ((check c) != 0) then ((Chain.mk 0 (Sl.mk true [])), (check c)) else ((without c (maskOf (Sl.mk false [node]))).1, (without c (maskOf (Sl.mk false [node]))).2))
theorem drop_calls (c : Chain) (node : Int) (hl1 : c.members.D.length ≤ 1000000) : PCalls Try.prog 45 [.agg [.pv (.lit (.int .i64 c.epoch)), sS (some c.members.nil) eMember c.members.D], .pv (.lit (.int .i64 node))] (.tup [.agg [.pv (.lit (.int .i64 ((drop c node).1.epoch))), sS (some (drop c node).1.members.nil) eMember ((drop c node).1.members.D)], .pv (.lit (.int .i64 ((drop c node).2)))]) := by
 generalize hR : drop c node = R
 refine PCalls.of_body tabOk Try.func45 rfl rfl rfl rfl rfl mixed fun E hP C hI => ?_
 refine Awp.consP C ?_
 refine rvc_un (rexec_prim C (δ := { v := .ptr 2 0, new := [(2, .cells [.pv (.lit (.int .i64 c.epoch)), sS (some c.members.nil) eMember c.members.D])] }) rfl rfl rfl rfl trivial rfl ?_)
 refine rvc_un (rexec_prim C (δ := { v := .ptr 4 0, new := [(4, .cells [.pv (.lit (.int .i64 0)), sS (some true) eMember []])] }) rfl rfl rfl rfl trivial rfl ?_)
 refine rvP C (.pv (.lit (.int .i64 0))) ?_
 refine rvc_nil ?_
 refine Awp.seq ?_
 refine Awp.consP C ?_
 refine rvP C (.agg [.pv (.lit (.int .i64 c.epoch)), sS (some c.members.nil) eMember c.members.D]) ?_
 refine rvc_un (rexec_call hP C rfl rfl rfl (check_calls c (Nat.le_trans hl1 (by decide))) ?_)
 refine rvP C (.pv (.lit (.int .i64 (check c)))) ?_
 refine rvc_nil ?_
 refine Awp.consP C ?_
 refine rvP C (.pv (.lit (.int .i64 (check c)))) ?_
 refine rvP C (.pv (.lit (.bool ((check c) != 0)))) ?_
 refine rvc_nil ?_
 refine Awp.cond (b := ((check c) != 0)) rfl (fun h1 => ?_) (fun h1 => ?_)
 ·
  replace hR := of_true h1 hR
  refine Awp.consP C ?_
  refine rvP C (.agg [.pv (.lit (.int .i64 0)), sS (some true) eMember []]) ?_
  refine rvP C (.pv (.lit (.int .i64 (check c)))) ?_
  refine rvc_un (rexec_prim C (δ := { v := .undef, wr := [(4, some (.cells [.pv (.lit (.int .i64 0)), sS (some true) eMember []]))] }) rfl rfl rfl rfl trivial rfl ?_)
  refine rvP C (.pv (.lit (.int .i64 (check c)))) ?_
  refine rvc_nil ?_
  refine Awp.ret ?_
  subst hR
  exact ⟨.inl rfl, rfl⟩
 ·
  replace hR := of_false h1 hR
  refine Awp.skip ?_
  refine Awp.consP C ?_
  refine rvP C (.agg [.pv (.lit (.int .i64 c.epoch)), sS (some c.members.nil) eMember c.members.D]) ?_
  refine rvP C (.pv (.lit (.int .i64 node))) ?_
  refine rvc_un (rexec_buildSliceF C (eI .i64) [node] rfl rfl rfl rfl rfl rfl rfl (by decide) rfl ?_)
  refine rvc_un (rexec_call hP C rfl rfl rfl (maskOf_calls (Sl.mk false [node]) (by simp)) ?_)
  refine rvc_un (rexec_call hP C rfl rfl rfl (without_calls c (maskOf (Sl.mk false [node])) hl1) ?_)
  refine rvP C (.agg [.pv (.lit (.int .i64 ((without c (maskOf (Sl.mk false [node]))).1.epoch))), sS (some (without c (maskOf (Sl.mk false [node]))).1.members.nil) eMember ((without c (maskOf (Sl.mk false [node]))).1.members.D)]) ?_
  refine rvP C (.pv (.lit (.int .i64 ((without c (maskOf (Sl.mk false [node]))).2)))) ?_
  refine rvc_un (rexec_prim C (δ := { v := .undef, wr := [(4, some (.cells [.pv (.lit (.int .i64 ((without c (maskOf (Sl.mk false [node]))).1.epoch))), sS (some (without c (maskOf (Sl.mk false [node]))).1.members.nil) eMember ((without c (maskOf (Sl.mk false [node]))).1.members.D)]))] }) rfl rfl rfl rfl trivial rfl ?_)
  refine rvP C (.pv (.lit (.int .i64 ((without c (maskOf (Sl.mk false [node]))).2)))) ?_
  refine rvc_nil ?_
  refine Awp.ret ?_
  subst hR
  exact ⟨.inl rfl, rfl⟩
end Go.Proofs.Ytaffaalpgpepeaa
/- More changes of chains. No conditions. -/
namespace Go.Proofs.Ytaffaalpgpepeaa
open Go.Am
def ready (c : Chain) (node : Int) : Chain × Int :=
  (bif ((check c) != 0) then ((Chain.mk 0 (Sl.mk true [])), (check c)) else (bif (decide ((placeIn c node) < 0)) then ((Chain.mk 0 (Sl.mk true [])), 81) else (bif (!(c.members.D[(placeIn c node).toNat]!.fresh)) then ((Chain.mk 0 (Sl.mk true [])), 81) else ((Chain.mk c.epoch (Sl.mk false (c.members.D.set ((placeIn c node).toNat) (Member.mk (c.members.D[(placeIn c node).toNat]!.node) (c.members.D[(placeIn c node).toNat]!.site) false)))), 0))))
theorem ready_calls (c : Chain) (node : Int) (hn : c.members.nil = true → c.members.D = []) (hl1 : c.members.D.length ≤ 1000000) : PCalls Try.prog 63 [.agg [.pv (.lit (.int .i64 c.epoch)), sS (some c.members.nil) eMember c.members.D], .pv (.lit (.int .i64 node))] (.tup [.agg [.pv (.lit (.int .i64 ((ready c node).1.epoch))), sS (some (ready c node).1.members.nil) eMember ((ready c node).1.members.D)], .pv (.lit (.int .i64 ((ready c node).2)))]) := by
 generalize hR : ready c node = R
 refine PCalls.of_body tabOk Try.func63 rfl rfl rfl rfl rfl mixed fun E hP C hI => ?_
 refine Awp.consP C ?_
 refine rvc_un (rexec_prim C (δ := { v := .ptr 2 0, new := [(2, .cells [.pv (.lit (.int .i64 c.epoch)), sS (some c.members.nil) eMember c.members.D])] }) rfl rfl rfl rfl trivial rfl ?_)
 refine rvc_un (rexec_prim C (δ := { v := .ptr 4 0, new := [(4, .cells [.pv (.lit (.int .i64 0)), sS (some true) eMember []])] }) rfl rfl rfl rfl trivial rfl ?_)
 refine rvP C (.pv (.lit (.int .i64 0))) ?_
 refine rvc_nil ?_
 refine Awp.seq ?_
 refine Awp.consP C ?_
 refine rvP C (.agg [.pv (.lit (.int .i64 c.epoch)), sS (some c.members.nil) eMember c.members.D]) ?_
 refine rvc_un (rexec_call hP C rfl rfl rfl (check_calls c (Nat.le_trans hl1 (by decide))) ?_)
 refine rvP C (.pv (.lit (.int .i64 (check c)))) ?_
 refine rvc_nil ?_
 refine Awp.consP C ?_
 refine rvP C (.pv (.lit (.int .i64 (check c)))) ?_
 refine rvP C (.pv (.lit (.bool ((check c) != 0)))) ?_
 refine rvc_nil ?_
 refine Awp.cond (b := ((check c) != 0)) rfl (fun h1 => ?_) (fun h1 => ?_)
 ·
  replace hR := of_true h1 hR
  refine Awp.consP C ?_
  refine rvP C (.agg [.pv (.lit (.int .i64 0)), sS (some true) eMember []]) ?_
  refine rvP C (.pv (.lit (.int .i64 (check c)))) ?_
  refine rvc_un (rexec_prim C (δ := { v := .undef, wr := [(4, some (.cells [.pv (.lit (.int .i64 0)), sS (some true) eMember []]))] }) rfl rfl rfl rfl trivial rfl ?_)
  refine rvP C (.pv (.lit (.int .i64 (check c)))) ?_
  refine rvc_nil ?_
  refine Awp.ret ?_
  subst hR
  exact ⟨.inl rfl, rfl⟩
 ·
  replace hR := of_false h1 hR
  refine Awp.skip ?_
  refine Awp.consP C ?_
  refine rvP C (.agg [.pv (.lit (.int .i64 c.epoch)), sS (some c.members.nil) eMember c.members.D]) ?_
  refine rvP C (.pv (.lit (.int .i64 node))) ?_
  refine rvc_un (rexec_call hP C rfl rfl rfl (placeIn_calls c node (Nat.le_trans hl1 (by decide))) ?_)
  refine rvP C (.pv (.lit (.int .i64 (placeIn c node)))) ?_
  refine rvc_nil ?_
  refine Awp.seq ?_
  refine Awp.consP C ?_
  refine rvP C (.pv (.lit (.int .i64 (placeIn c node)))) ?_
  refine rvP C (.pv (.lit (.bool (decide ((placeIn c node) < 0))))) ?_
  refine rvP C (.pv (.lit (.bool (decide ((placeIn c node) < 0))))) ?_
  refine rvc_case 20 (decide ((placeIn c node) < 0)) rfl (fun h2 => ?_) (fun h2 => ?_)
  ·
   replace hR := of_true h2 hR
   refine rvS ?_
   refine rvS ?_
   refine rvS ?_
   refine rvS ?_
   refine rvS ?_
   refine rvS ?_
   refine rvS ?_
   refine rvP C (.pv (.lit (.bool true))) ?_
   refine rvc_nil ?_
   refine Awp.condT (b := true) rfl rfl ?_
   refine Awp.consP C ?_
   refine rvP C (.agg [.pv (.lit (.int .i64 0)), sS (some true) eMember []]) ?_
   refine rvc_un (rexec_prim C (δ := { v := .undef, wr := [(4, some (.cells [.pv (.lit (.int .i64 0)), sS (some true) eMember []]))] }) rfl rfl rfl rfl trivial rfl ?_)
   refine rvP C (.pv (.lit (.int .i64 81))) ?_
   refine rvc_nil ?_
   refine Awp.ret ?_
   subst hR
   exact ⟨.inl rfl, rfl⟩
  ·
   replace hR := of_false h2 hR
   refine rvO C (.ptr 2 1) ?_
   refine rvO C (sS (some c.members.nil) eMember c.members.D) ?_
   refine rvO C (.pv (.lit (.int .i64 (placeIn c node)))) ?_
   have h3 : c.members.D[(placeIn c node).toNat]? = some c.members.D[(placeIn c node).toNat]! := getE (by have := check_len (c := c); have := check_le6 (c := c); have := placeIn_lt c node; have := eq_of_bne_false h1; have := of_decide_eq_false h2; omega)
   refine rvc_open rfl rfl rfl (rexec_idxS C rfl rfl rfl rfl rfl rfl (c.members.D[(placeIn c node).toNat]!) (by have := check_len (c := c); have := check_le6 (c := c); have := placeIn_lt c node; have := eq_of_bne_false h1; have := of_decide_eq_false h2; omega) h3 ?_)
   refine rvO C (.rp [.lit (.bool (c.members.D[(placeIn c node).toNat]!.fresh))]) ?_
   refine rvO C (.pv (.lit (.bool (c.members.D[(placeIn c node).toNat]!.fresh)))) ?_
   refine rvO C (.pv (.lit (.bool (!(c.members.D[(placeIn c node).toNat]!.fresh))))) ?_
   refine rvP C (.pv (.lit (.bool (!(c.members.D[(placeIn c node).toNat]!.fresh))))) ?_
   refine rvc_nil ?_
   refine Awp.cond (b := (!(c.members.D[(placeIn c node).toNat]!.fresh))) rfl (fun h4 => ?_) (fun h4 => ?_)
   ·
    replace hR := of_true h4 hR
    refine Awp.consP C ?_
    refine rvP C (.agg [.pv (.lit (.int .i64 0)), sS (some true) eMember []]) ?_
    refine rvc_un (rexec_prim C (δ := { v := .undef, wr := [(4, some (.cells [.pv (.lit (.int .i64 0)), sS (some true) eMember []]))] }) rfl rfl rfl rfl trivial rfl ?_)
    refine rvP C (.pv (.lit (.int .i64 81))) ?_
    refine rvc_nil ?_
    refine Awp.ret ?_
    subst hR
    exact ⟨.inl rfl, rfl⟩
   ·
    replace hR := of_false h4 hR
    refine Awp.skip ?_
    refine Awp.cons C (fun _ => .quiet) (by kernel_rfl) ?_
    refine rvP C (.ptr 2 1) ?_
    refine rvP C (sS (some c.members.nil) eMember c.members.D) ?_
    refine rvc_un (rexec_callO hP C rfl rfl rfl rfl (cloneO_calls c.members (nil_false hn (by have := check_len (c := c); have := check_le6 (c := c); have := placeIn_lt c node; have := eq_of_bne_false h1; have := of_decide_eq_false h2; omega)) hl1) ?_)
    refine rvP C (.sl 32 0 c.members.D.length 3 false) ?_
    refine rvc_nil ?_
    refine Awp.consP C ?_
    refine rvP C (.sl 32 0 c.members.D.length 3 false) ?_
    refine rvP C (.pv (.lit (.int .i64 (placeIn c node)))) ?_
    refine rvc_un (rexec_prim C (δ := { v := .ptr 32 (0 + (placeIn c node).toNat * 3) }) rfl rfl rfl rfl ⟨(by have := check_len (c := c); have := check_le6 (c := c); have := placeIn_lt c node; have := eq_of_bne_false h1; have := of_decide_eq_false h2; omega), getlt h3 (by first | rfl | omega | (have := check_len (c := c); have := check_le6 (c := c); have := placeIn_lt c node; have := eq_of_bne_false h1; have := of_decide_eq_false h2; omega)) (by first | rfl | simp)⟩ rfl ?_)
    refine rvP C (.ptr 32 (0 + (placeIn c node).toNat * 3 + 2)) ?_
    refine rvc_un (rexec_storeE C (e := eMember) ((placeIn c node).toNat) 2 (c.members.D[(placeIn c node).toNat]!) (Member.mk (c.members.D[(placeIn c node).toNat]!.node) (c.members.D[(placeIn c node).toNat]!.site) false) rfl rfl rfl rfl h3 (by simp [eMember]) rfl rfl rfl (by decide) rfl ?_)
    refine rvc_nil ?_
    refine Awp.consP C ?_
    refine rvP C (.ptr 2 0) ?_
    refine rvP C (.pv (.lit (.int .i64 c.epoch))) ?_
    refine rvP C (.sl 32 0 c.members.D.length 3 false) ?_
    refine rvP C (.agg [.pv (.lit (.int .i64 c.epoch)), .sl 32 0 c.members.D.length 3 false]) ?_
    refine rvc_un (rexec_prim C (δ := { v := .undef, wr := [(4, some (.cells [.pv (.lit (.int .i64 c.epoch)), .sl 32 0 c.members.D.length 3 false]))] }) rfl rfl rfl rfl trivial rfl ?_)
    refine rvP C (.pv (.lit (.int .i64 0))) ?_
    refine rvc_nil ?_
    refine Awp.freezeW 32 (encL eMember (c.members.D.set ((placeIn c node).toNat) (Member.mk (c.members.D[(placeIn c node).toNat]!.node) (c.members.D[(placeIn c node).toNat]!.site) false))) ?_ [(4, .ptr 4 0), (5, .pv (.lit (.int .i64 0)))] [(2, .cells [.pv (.lit (.int .i64 c.epoch)), sS (some c.members.nil) eMember c.members.D]), (4, .cells [.pv (.lit (.int .i64 c.epoch)), sS (some false) eMember (c.members.D.set ((placeIn c node).toNat) (Member.mk (c.members.D[(placeIn c node).toNat]!.node) (c.members.D[(placeIn c node).toNat]!.site) false))])] ?_ ?_ ?_
    · rfl
    · exact ⟨⟨_, rfl, .inl (.inl rfl)⟩, ⟨_, rfl, .inl (.inl rfl)⟩, trivial⟩
    · exact ⟨⟨(by show (2 : Nat) ≠ 32; decide), .inl rfl⟩, ⟨(by show (4 : Nat) ≠ 32; decide), .inr ⟨_, _, rfl, rfl, ⟨.inl rfl, .inr ⟨_, _, _, rfl, by simp [sS]⟩, trivial⟩⟩⟩, trivial⟩
    refine Awp.ret ?_
    subst hR
    exact ⟨.inl rfl, rfl⟩
end Go.Proofs.Ytaffaalpgpepeaa
