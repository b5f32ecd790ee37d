import Derived.Test.YtjhphpoihadmkaaM2
import Derived.Test.YtjhphpoihadmkaaM3
/- Small functions of layout. No conditions. -/
namespace Go.Proofs.Ytjhphpoihadmkaa
open Go.Am
structure Member where
  node : Int
  site : Int
  fresh : Bool
  deriving Inhabited
def eMember : Enc Member := ⟨3, fun x => [.lit (.int .i64 x.node), .lit (.int .i64 x.site), .lit (.bool x.fresh)], fun _ => rfl⟩
structure Chain where
  epoch : Int
  members : (Sl Member)
  deriving Inhabited
def eChain : Enc Chain := ⟨2, fun x => [.lit (.int .i64 x.epoch), .sl (some x.members.nil) x.members.D.length (encL eMember x.members.D)], fun _ => rfl⟩
def mIn (n : Int) : Bool :=
  (bif (decide (n ≥ 0)) then (decide (n < 64)) else false)
theorem mIn_calls (n : Int)  : PCalls Try.prog 41 [.pv (.lit (.int .i64 n))] (.pv (.lit (.bool (mIn n)))) := by
  generalize hR : mIn n = R
  refine PCalls.of_body tabOk Try.func41 rfl rfl rfl rfl rfl mixed fun E hP C hI => ?_
  refine Awp.cons C (fun _ => .pure) (by kernel_rfl) ?_
  refine rvc_un (rexec_prim C (δ := { v := .pv (.lit (.bool false)) }) rfl rfl rfl rfl trivial rfl ?_)
  refine rvc_nil ?_
  refine Awp.cons C (fun _ => .pure) (by kernel_rfl) ?_
  refine rvc_un (rexec_prim C (δ := { v := .pv (.lit (.int .i64 n)) }) rfl rfl rfl rfl trivial rfl ?_)
  refine rvc_un (rexec_prim C (δ := { v := .pv (.lit (.bool (decide (n ≥ 0)))) }) rfl rfl rfl rfl trivial rfl ?_)
  refine rvc_un (rexec_prim C (δ := { v := .pv (.lit (.bool (decide (n ≥ 0)))) }) rfl rfl rfl rfl trivial rfl ?_)
  refine rvc_case 5 (decide (n ≥ 0)) rfl (fun h1 => ?_) (fun h1 => ?_)
  ·
    replace hR := of_true h1 hR
    refine rvc_open rfl rfl rfl (rexec_prim C (δ := { v := .pv (.lit (.int .i64 n)) }) rfl rfl rfl rfl trivial rfl ?_)
    refine rvc_open rfl rfl rfl (rexec_prim C (δ := { v := .pv (.lit (.bool (decide (n < 64)))) }) rfl rfl rfl rfl trivial rfl ?_)
    refine rvc_un (rexec_prim C (δ := { v := .pv (.lit (.bool (decide (n < 64)))) }) rfl rfl rfl rfl trivial rfl ?_)
    refine rvc_un (rexec_prim C (δ := { v := .pv (.lit (.bool (decide (n < 64)))) }) rfl rfl rfl rfl trivial rfl ?_)
    refine rvc_nil ?_
    refine Awp.ret ?_
    subst hR
    exact ⟨.inl rfl, rfl⟩
  ·
    replace hR := of_false h1 hR
    refine rvc_shut rfl rfl rfl rfl ?_
    refine rvc_shut rfl rfl rfl rfl ?_
    refine rvc_un (rexec_prim C (δ := { v := .pv (.lit (.bool false)) }) rfl rfl rfl rfl trivial rfl ?_)
    refine rvc_un (rexec_prim C (δ := { v := .pv (.lit (.bool false)) }) rfl rfl rfl rfl trivial rfl ?_)
    refine rvc_nil ?_
    refine Awp.ret ?_
    subst hR
    exact ⟨.inl rfl, rfl⟩

def mHas (s : Int) (n : Int) : Bool :=
  (bif (mIn n) then ((bitI .and .u64 (shrI .u64 s n) 1) == 1) else false)
theorem mHas_calls (s : Int) (n : Int)  : PCalls Try.prog 26 [.pv (.lit (.int .u64 s)), .pv (.lit (.int .i64 n))] (.pv (.lit (.bool (mHas s n)))) := by
  generalize hR : mHas s n = R
  refine PCalls.of_body tabOk Try.func26 rfl rfl rfl rfl rfl mixed fun E hP C hI => ?_
  refine Awp.cons C (fun _ => .pure) (by kernel_rfl) ?_
  refine rvc_un (rexec_prim C (δ := { v := .pv (.lit (.bool false)) }) rfl rfl rfl rfl trivial rfl ?_)
  refine rvc_nil ?_
  refine Awp.cons C (fun _ => .pure) (by kernel_rfl) ?_
  refine rvc_un (rexec_prim C (δ := { v := .pv (.lit (.int .i64 n)) }) rfl rfl rfl rfl trivial rfl ?_)
  refine rvc_un (rexec_call hP C rfl rfl rfl (mIn_calls n) ?_)
  refine rvc_un (rexec_prim C (δ := { v := .pv (.lit (.bool (mIn n))) }) rfl rfl rfl rfl trivial rfl ?_)
  refine rvc_case 7 (mIn n) rfl (fun h1 => ?_) (fun h1 => ?_)
  ·
    replace hR := of_true h1 hR
    refine rvc_open rfl rfl rfl (rexec_prim C (δ := { v := .pv (.lit (.int .u64 s)) }) rfl rfl rfl rfl trivial rfl ?_)
    refine rvc_open rfl rfl rfl (rexec_prim C (δ := { v := .pv (.lit (.int .i64 n)) }) rfl rfl rfl rfl trivial rfl ?_)
    refine rvc_open rfl rfl rfl (rexec_prim C (δ := { v := .pv (.lit (.int .u64 (shrI .u64 s n))) }) rfl rfl rfl rfl (by simp [mIn] at h1; omega) rfl ?_)
    refine rvc_open rfl rfl rfl (rexec_prim C (δ := { v := .pv (.lit (.int .u64 (bitI .and .u64 (shrI .u64 s n) 1))) }) rfl rfl rfl rfl trivial rfl ?_)
    refine rvc_open rfl rfl rfl (rexec_prim C (δ := { v := .pv (.lit (.bool ((bitI .and .u64 (shrI .u64 s n) 1) == 1))) }) rfl rfl rfl rfl trivial rfl ?_)
    refine rvc_un (rexec_prim C (δ := { v := .pv (.lit (.bool ((bitI .and .u64 (shrI .u64 s n) 1) == 1))) }) rfl rfl rfl rfl trivial rfl ?_)
    refine rvc_un (rexec_prim C (δ := { v := .pv (.lit (.bool ((bitI .and .u64 (shrI .u64 s n) 1) == 1))) }) rfl rfl rfl rfl trivial rfl ?_)
    refine rvc_nil ?_
    refine Awp.ret ?_
    subst hR
    exact ⟨.inl rfl, rfl⟩
  ·
    replace hR := of_false h1 hR
    refine rvc_shut rfl rfl rfl rfl ?_
    refine rvc_shut rfl rfl rfl rfl ?_
    refine rvc_shut rfl rfl rfl rfl ?_
    refine rvc_shut rfl rfl rfl rfl ?_
    refine rvc_shut rfl rfl rfl rfl ?_
    refine rvc_un (rexec_prim C (δ := { v := .pv (.lit (.bool false)) }) rfl rfl rfl rfl trivial rfl ?_)
    refine rvc_un (rexec_prim C (δ := { v := .pv (.lit (.bool false)) }) rfl rfl rfl rfl trivial rfl ?_)
    refine rvc_nil ?_
    refine Awp.ret ?_
    subst hR
    exact ⟨.inl rfl, rfl⟩

def mWith (s : Int) (n : Int) : Int :=
  (bif (!(mIn n)) then s else (bitI .or .u64 s (shlI .u64 1 n)))
theorem mWith_calls (s : Int) (n : Int)  : PCalls Try.prog 27 [.pv (.lit (.int .u64 s)), .pv (.lit (.int .i64 n))] (.pv (.lit (.int .u64 (mWith s n)))) := by
  generalize hR : mWith s n = R
  refine PCalls.of_body tabOk Try.func27 rfl rfl rfl rfl rfl mixed fun E hP C hI => ?_
  refine Awp.cons C (fun _ => .pure) (by kernel_rfl) ?_
  refine rvc_un (rexec_prim C (δ := { v := .pv (.lit (.int .u64 0)) }) rfl rfl rfl rfl trivial rfl ?_)
  refine rvc_nil ?_
  refine Awp.seq ?_
  refine Awp.cons C (fun _ => .pure) (by kernel_rfl) ?_
  refine rvc_un (rexec_prim C (δ := { v := .pv (.lit (.int .i64 n)) }) rfl rfl rfl rfl trivial rfl ?_)
  refine rvc_un (rexec_call hP C rfl rfl rfl (mIn_calls n) ?_)
  refine rvc_un (rexec_prim C (δ := { v := .pv (.lit (.bool (!(mIn n)))) }) rfl rfl rfl rfl trivial rfl ?_)
  refine rvc_nil ?_
  refine Awp.cond (b := (!(mIn n))) rfl (fun h1 => ?_) (fun h1 => ?_)
  ·
    replace hR := of_true h1 hR
    refine Awp.cons C (fun _ => .pure) (by kernel_rfl) ?_
    refine rvc_un (rexec_prim C (δ := { v := .pv (.lit (.int .u64 s)) }) rfl rfl rfl rfl trivial rfl ?_)
    refine rvc_un (rexec_prim C (δ := { v := .pv (.lit (.int .u64 s)) }) rfl rfl rfl rfl trivial rfl ?_)
    refine rvc_nil ?_
    refine Awp.ret ?_
    subst hR
    exact ⟨.inl rfl, rfl⟩
  ·
    replace hR := of_false h1 hR
    refine Awp.skip ?_
    refine Awp.cons C (fun _ => .pure) (by kernel_rfl) ?_
    refine rvc_un (rexec_prim C (δ := { v := .pv (.lit (.int .u64 s)) }) rfl rfl rfl rfl trivial rfl ?_)
    refine rvc_un (rexec_prim C (δ := { v := .pv (.lit (.int .i64 n)) }) rfl rfl rfl rfl trivial rfl ?_)
    refine rvc_un (rexec_prim C (δ := { v := .pv (.lit (.int .u64 (shlI .u64 1 n))) }) rfl rfl rfl rfl (by simp [mIn] at h1; omega) rfl ?_)
    refine rvc_un (rexec_prim C (δ := { v := .pv (.lit (.int .u64 (bitI .or .u64 s (shlI .u64 1 n)))) }) rfl rfl rfl rfl trivial rfl ?_)
    refine rvc_un (rexec_prim C (δ := { v := .pv (.lit (.int .u64 (bitI .or .u64 s (shlI .u64 1 n)))) }) rfl rfl rfl rfl trivial rfl ?_)
    refine rvc_nil ?_
    refine Awp.ret ?_
    subst hR
    exact ⟨.inl rfl, rfl⟩

def mLen (s : Int) : Int :=
  (IntKind.i64.wrap (shrI .u64 (IntKind.u64.wrap ((bitI .and .u64 (IntKind.u64.wrap ((IntKind.u64.wrap ((bitI .and .u64 (IntKind.u64.wrap (s - (bitI .and .u64 (shrI .u64 s 1) 6148914691236517205))) 3689348814741910323) + (bitI .and .u64 (shrI .u64 (IntKind.u64.wrap (s - (bitI .and .u64 (shrI .u64 s 1) 6148914691236517205))) 2) 3689348814741910323))) + (shrI .u64 (IntKind.u64.wrap ((bitI .and .u64 (IntKind.u64.wrap (s - (bitI .and .u64 (shrI .u64 s 1) 6148914691236517205))) 3689348814741910323) + (bitI .and .u64 (shrI .u64 (IntKind.u64.wrap (s - (bitI .and .u64 (shrI .u64 s 1) 6148914691236517205))) 2) 3689348814741910323))) 4))) 1085102592571150095) * 72340172838076673)) 56))
theorem mLen_calls (s : Int)  : PCalls Try.prog 28 [.pv (.lit (.int .u64 s))] (.pv (.lit (.int .i64 (mLen s)))) := by
  generalize hR : mLen s = R
  refine PCalls.of_body tabOk Try.func28 rfl rfl rfl rfl rfl mixed fun E hP C hI => ?_
  refine Awp.cons C (fun _ => .pure) (by kernel_rfl) ?_
  refine rvc_un (rexec_prim C (δ := { v := .pv (.lit (.int .i64 0)) }) rfl rfl rfl rfl trivial rfl ?_)
  refine rvc_nil ?_
  refine Awp.cons C (fun _ => .pure) (by kernel_rfl) ?_
  refine rvc_un (rexec_prim C (δ := { v := .pv (.lit (.int .u64 s)) }) rfl rfl rfl rfl trivial rfl ?_)
  refine rvc_un (rexec_prim C (δ := { v := .pv (.lit (.int .u64 s)) }) rfl rfl rfl rfl trivial rfl ?_)
  refine rvc_nil ?_
  refine Awp.cons C (fun _ => .pure) (by kernel_rfl) ?_
  refine rvc_un (rexec_prim C (δ := { v := .pv (.lit (.int .u64 s)) }) rfl rfl rfl rfl trivial rfl ?_)
  refine rvc_un (rexec_prim C (δ := { v := .pv (.lit (.int .u64 s)) }) rfl rfl rfl rfl trivial rfl ?_)
  refine rvc_un (rexec_prim C (δ := { v := .pv (.lit (.int .u64 (shrI .u64 s 1))) }) rfl rfl rfl rfl (by first | decide | assumption | omega) rfl ?_)
  refine rvc_un (rexec_prim C (δ := { v := .pv (.lit (.int .u64 (bitI .and .u64 (shrI .u64 s 1) 6148914691236517205))) }) rfl rfl rfl rfl trivial rfl ?_)
  refine rvc_un (rexec_prim C (δ := { v := .pv (.lit (.int .u64 (IntKind.u64.wrap (s - (bitI .and .u64 (shrI .u64 s 1) 6148914691236517205))))) }) rfl rfl rfl rfl trivial rfl ?_)
  refine rvc_un (rexec_prim C (δ := { v := .pv (.lit (.int .u64 (IntKind.u64.wrap (s - (bitI .and .u64 (shrI .u64 s 1) 6148914691236517205))))) }) rfl rfl rfl rfl trivial rfl ?_)
  refine rvc_nil ?_
  refine Awp.cons C (fun _ => .pure) (by kernel_rfl) ?_
  refine rvc_un (rexec_prim C (δ := { v := .pv (.lit (.int .u64 (IntKind.u64.wrap (s - (bitI .and .u64 (shrI .u64 s 1) 6148914691236517205))))) }) rfl rfl rfl rfl trivial rfl ?_)
  refine rvc_un (rexec_prim C (δ := { v := .pv (.lit (.int .u64 (bitI .and .u64 (IntKind.u64.wrap (s - (bitI .and .u64 (shrI .u64 s 1) 6148914691236517205))) 3689348814741910323))) }) rfl rfl rfl rfl trivial rfl ?_)
  refine rvc_un (rexec_prim C (δ := { v := .pv (.lit (.int .u64 (IntKind.u64.wrap (s - (bitI .and .u64 (shrI .u64 s 1) 6148914691236517205))))) }) rfl rfl rfl rfl trivial rfl ?_)
  refine rvc_un (rexec_prim C (δ := { v := .pv (.lit (.int .u64 (shrI .u64 (IntKind.u64.wrap (s - (bitI .and .u64 (shrI .u64 s 1) 6148914691236517205))) 2))) }) rfl rfl rfl rfl (by first | decide | assumption | omega) rfl ?_)
  refine rvc_un (rexec_prim C (δ := { v := .pv (.lit (.int .u64 (bitI .and .u64 (shrI .u64 (IntKind.u64.wrap (s - (bitI .and .u64 (shrI .u64 s 1) 6148914691236517205))) 2) 3689348814741910323))) }) rfl rfl rfl rfl trivial rfl ?_)
  refine rvc_un (rexec_prim C (δ := { v := .pv (.lit (.int .u64 (IntKind.u64.wrap ((bitI .and .u64 (IntKind.u64.wrap (s - (bitI .and .u64 (shrI .u64 s 1) 6148914691236517205))) 3689348814741910323) + (bitI .and .u64 (shrI .u64 (IntKind.u64.wrap (s - (bitI .and .u64 (shrI .u64 s 1) 6148914691236517205))) 2) 3689348814741910323))))) }) rfl rfl rfl rfl trivial rfl ?_)
  refine rvc_un (rexec_prim C (δ := { v := .pv (.lit (.int .u64 (IntKind.u64.wrap ((bitI .and .u64 (IntKind.u64.wrap (s - (bitI .and .u64 (shrI .u64 s 1) 6148914691236517205))) 3689348814741910323) + (bitI .and .u64 (shrI .u64 (IntKind.u64.wrap (s - (bitI .and .u64 (shrI .u64 s 1) 6148914691236517205))) 2) 3689348814741910323))))) }) rfl rfl rfl rfl trivial rfl ?_)
  refine rvc_nil ?_
  refine Awp.cons C (fun _ => .pure) (by kernel_rfl) ?_
  refine rvc_un (rexec_prim C (δ := { v := .pv (.lit (.int .u64 (IntKind.u64.wrap ((bitI .and .u64 (IntKind.u64.wrap (s - (bitI .and .u64 (shrI .u64 s 1) 6148914691236517205))) 3689348814741910323) + (bitI .and .u64 (shrI .u64 (IntKind.u64.wrap (s - (bitI .and .u64 (shrI .u64 s 1) 6148914691236517205))) 2) 3689348814741910323))))) }) rfl rfl rfl rfl trivial rfl ?_)
  refine rvc_un (rexec_prim C (δ := { v := .pv (.lit (.int .u64 (IntKind.u64.wrap ((bitI .and .u64 (IntKind.u64.wrap (s - (bitI .and .u64 (shrI .u64 s 1) 6148914691236517205))) 3689348814741910323) + (bitI .and .u64 (shrI .u64 (IntKind.u64.wrap (s - (bitI .and .u64 (shrI .u64 s 1) 6148914691236517205))) 2) 3689348814741910323))))) }) rfl rfl rfl rfl trivial rfl ?_)
  refine rvc_un (rexec_prim C (δ := { v := .pv (.lit (.int .u64 (shrI .u64 (IntKind.u64.wrap ((bitI .and .u64 (IntKind.u64.wrap (s - (bitI .and .u64 (shrI .u64 s 1) 6148914691236517205))) 3689348814741910323) + (bitI .and .u64 (shrI .u64 (IntKind.u64.wrap (s - (bitI .and .u64 (shrI .u64 s 1) 6148914691236517205))) 2) 3689348814741910323))) 4))) }) rfl rfl rfl rfl (by first | decide | assumption | omega) rfl ?_)
  refine rvc_un (rexec_prim C (δ := { v := .pv (.lit (.int .u64 (IntKind.u64.wrap ((IntKind.u64.wrap ((bitI .and .u64 (IntKind.u64.wrap (s - (bitI .and .u64 (shrI .u64 s 1) 6148914691236517205))) 3689348814741910323) + (bitI .and .u64 (shrI .u64 (IntKind.u64.wrap (s - (bitI .and .u64 (shrI .u64 s 1) 6148914691236517205))) 2) 3689348814741910323))) + (shrI .u64 (IntKind.u64.wrap ((bitI .and .u64 (IntKind.u64.wrap (s - (bitI .and .u64 (shrI .u64 s 1) 6148914691236517205))) 3689348814741910323) + (bitI .and .u64 (shrI .u64 (IntKind.u64.wrap (s - (bitI .and .u64 (shrI .u64 s 1) 6148914691236517205))) 2) 3689348814741910323))) 4))))) }) rfl rfl rfl rfl trivial rfl ?_)
  refine rvc_un (rexec_prim C (δ := { v := .pv (.lit (.int .u64 (bitI .and .u64 (IntKind.u64.wrap ((IntKind.u64.wrap ((bitI .and .u64 (IntKind.u64.wrap (s - (bitI .and .u64 (shrI .u64 s 1) 6148914691236517205))) 3689348814741910323) + (bitI .and .u64 (shrI .u64 (IntKind.u64.wrap (s - (bitI .and .u64 (shrI .u64 s 1) 6148914691236517205))) 2) 3689348814741910323))) + (shrI .u64 (IntKind.u64.wrap ((bitI .and .u64 (IntKind.u64.wrap (s - (bitI .and .u64 (shrI .u64 s 1) 6148914691236517205))) 3689348814741910323) + (bitI .and .u64 (shrI .u64 (IntKind.u64.wrap (s - (bitI .and .u64 (shrI .u64 s 1) 6148914691236517205))) 2) 3689348814741910323))) 4))) 1085102592571150095))) }) rfl rfl rfl rfl trivial rfl ?_)
  refine rvc_un (rexec_prim C (δ := { v := .pv (.lit (.int .u64 (bitI .and .u64 (IntKind.u64.wrap ((IntKind.u64.wrap ((bitI .and .u64 (IntKind.u64.wrap (s - (bitI .and .u64 (shrI .u64 s 1) 6148914691236517205))) 3689348814741910323) + (bitI .and .u64 (shrI .u64 (IntKind.u64.wrap (s - (bitI .and .u64 (shrI .u64 s 1) 6148914691236517205))) 2) 3689348814741910323))) + (shrI .u64 (IntKind.u64.wrap ((bitI .and .u64 (IntKind.u64.wrap (s - (bitI .and .u64 (shrI .u64 s 1) 6148914691236517205))) 3689348814741910323) + (bitI .and .u64 (shrI .u64 (IntKind.u64.wrap (s - (bitI .and .u64 (shrI .u64 s 1) 6148914691236517205))) 2) 3689348814741910323))) 4))) 1085102592571150095))) }) rfl rfl rfl rfl trivial rfl ?_)
  refine rvc_nil ?_
  refine Awp.cons C (fun _ => .pure) (by kernel_rfl) ?_
  refine rvc_un (rexec_prim C (δ := { v := .pv (.lit (.int .u64 (bitI .and .u64 (IntKind.u64.wrap ((IntKind.u64.wrap ((bitI .and .u64 (IntKind.u64.wrap (s - (bitI .and .u64 (shrI .u64 s 1) 6148914691236517205))) 3689348814741910323) + (bitI .and .u64 (shrI .u64 (IntKind.u64.wrap (s - (bitI .and .u64 (shrI .u64 s 1) 6148914691236517205))) 2) 3689348814741910323))) + (shrI .u64 (IntKind.u64.wrap ((bitI .and .u64 (IntKind.u64.wrap (s - (bitI .and .u64 (shrI .u64 s 1) 6148914691236517205))) 3689348814741910323) + (bitI .and .u64 (shrI .u64 (IntKind.u64.wrap (s - (bitI .and .u64 (shrI .u64 s 1) 6148914691236517205))) 2) 3689348814741910323))) 4))) 1085102592571150095))) }) rfl rfl rfl rfl trivial rfl ?_)
  refine rvc_un (rexec_prim C (δ := { v := .pv (.lit (.int .u64 (IntKind.u64.wrap ((bitI .and .u64 (IntKind.u64.wrap ((IntKind.u64.wrap ((bitI .and .u64 (IntKind.u64.wrap (s - (bitI .and .u64 (shrI .u64 s 1) 6148914691236517205))) 3689348814741910323) + (bitI .and .u64 (shrI .u64 (IntKind.u64.wrap (s - (bitI .and .u64 (shrI .u64 s 1) 6148914691236517205))) 2) 3689348814741910323))) + (shrI .u64 (IntKind.u64.wrap ((bitI .and .u64 (IntKind.u64.wrap (s - (bitI .and .u64 (shrI .u64 s 1) 6148914691236517205))) 3689348814741910323) + (bitI .and .u64 (shrI .u64 (IntKind.u64.wrap (s - (bitI .and .u64 (shrI .u64 s 1) 6148914691236517205))) 2) 3689348814741910323))) 4))) 1085102592571150095) * 72340172838076673)))) }) rfl rfl rfl rfl trivial rfl ?_)
  refine rvc_un (rexec_prim C (δ := { v := .pv (.lit (.int .u64 (shrI .u64 (IntKind.u64.wrap ((bitI .and .u64 (IntKind.u64.wrap ((IntKind.u64.wrap ((bitI .and .u64 (IntKind.u64.wrap (s - (bitI .and .u64 (shrI .u64 s 1) 6148914691236517205))) 3689348814741910323) + (bitI .and .u64 (shrI .u64 (IntKind.u64.wrap (s - (bitI .and .u64 (shrI .u64 s 1) 6148914691236517205))) 2) 3689348814741910323))) + (shrI .u64 (IntKind.u64.wrap ((bitI .and .u64 (IntKind.u64.wrap (s - (bitI .and .u64 (shrI .u64 s 1) 6148914691236517205))) 3689348814741910323) + (bitI .and .u64 (shrI .u64 (IntKind.u64.wrap (s - (bitI .and .u64 (shrI .u64 s 1) 6148914691236517205))) 2) 3689348814741910323))) 4))) 1085102592571150095) * 72340172838076673)) 56))) }) rfl rfl rfl rfl (by first | decide | assumption | omega) rfl ?_)
  refine rvc_un (rexec_prim C (δ := { v := .pv (.lit (.int .i64 (IntKind.i64.wrap (shrI .u64 (IntKind.u64.wrap ((bitI .and .u64 (IntKind.u64.wrap ((IntKind.u64.wrap ((bitI .and .u64 (IntKind.u64.wrap (s - (bitI .and .u64 (shrI .u64 s 1) 6148914691236517205))) 3689348814741910323) + (bitI .and .u64 (shrI .u64 (IntKind.u64.wrap (s - (bitI .and .u64 (shrI .u64 s 1) 6148914691236517205))) 2) 3689348814741910323))) + (shrI .u64 (IntKind.u64.wrap ((bitI .and .u64 (IntKind.u64.wrap (s - (bitI .and .u64 (shrI .u64 s 1) 6148914691236517205))) 3689348814741910323) + (bitI .and .u64 (shrI .u64 (IntKind.u64.wrap (s - (bitI .and .u64 (shrI .u64 s 1) 6148914691236517205))) 2) 3689348814741910323))) 4))) 1085102592571150095) * 72340172838076673)) 56)))) }) rfl rfl rfl rfl trivial rfl ?_)
  refine rvc_un (rexec_prim C (δ := { v := .pv (.lit (.int .i64 (IntKind.i64.wrap (shrI .u64 (IntKind.u64.wrap ((bitI .and .u64 (IntKind.u64.wrap ((IntKind.u64.wrap ((bitI .and .u64 (IntKind.u64.wrap (s - (bitI .and .u64 (shrI .u64 s 1) 6148914691236517205))) 3689348814741910323) + (bitI .and .u64 (shrI .u64 (IntKind.u64.wrap (s - (bitI .and .u64 (shrI .u64 s 1) 6148914691236517205))) 2) 3689348814741910323))) + (shrI .u64 (IntKind.u64.wrap ((bitI .and .u64 (IntKind.u64.wrap (s - (bitI .and .u64 (shrI .u64 s 1) 6148914691236517205))) 3689348814741910323) + (bitI .and .u64 (shrI .u64 (IntKind.u64.wrap (s - (bitI .and .u64 (shrI .u64 s 1) 6148914691236517205))) 2) 3689348814741910323))) 4))) 1085102592571150095) * 72340172838076673)) 56)))) }) rfl rfl rfl rfl trivial rfl ?_)
  refine rvc_nil ?_
  refine Awp.ret ?_
  subst hR
  exact ⟨.inl rfl, rfl⟩

def mBut (s : Int) (t : Int) : Int :=
  (bitI .andNot .u64 s t)
theorem mBut_calls (s : Int) (t : Int)  : PCalls Try.prog 35 [.pv (.lit (.int .u64 s)), .pv (.lit (.int .u64 t))] (.pv (.lit (.int .u64 (mBut s t)))) := by
  generalize hR : mBut s t = R
  refine PCalls.of_body tabOk Try.func35 rfl rfl rfl rfl rfl mixed fun E hP C hI => ?_
  refine Awp.cons C (fun _ => .pure) (by kernel_rfl) ?_
  refine rvc_un (rexec_prim C (δ := { v := .pv (.lit (.int .u64 0)) }) rfl rfl rfl rfl trivial rfl ?_)
  refine rvc_nil ?_
  refine Awp.cons C (fun _ => .pure) (by kernel_rfl) ?_
  refine rvc_un (rexec_prim C (δ := { v := .pv (.lit (.int .u64 s)) }) rfl rfl rfl rfl trivial rfl ?_)
  refine rvc_un (rexec_prim C (δ := { v := .pv (.lit (.int .u64 t)) }) rfl rfl rfl rfl trivial rfl ?_)
  refine rvc_un (rexec_prim C (δ := { v := .pv (.lit (.int .u64 (bitI .andNot .u64 s t))) }) rfl rfl rfl rfl trivial rfl ?_)
  refine rvc_un (rexec_prim C (δ := { v := .pv (.lit (.int .u64 (bitI .andNot .u64 s t))) }) rfl rfl rfl rfl trivial rfl ?_)
  refine rvc_nil ?_
  refine Awp.ret ?_
  subst hR
  exact ⟨.inl rfl, rfl⟩

def member (m : Member) : Bool :=
  (bif (decide (m.node ≥ 0)) then (bif (decide (m.node < 6)) then (bif (decide (m.site ≥ 0)) then (decide (m.site < 3)) else false) else false) else false)
theorem member_calls (m : Member)  : PCalls Try.prog 38 [.agg [.pv (.lit (.int .i64 m.node)), .pv (.lit (.int .i64 m.site)), .pv (.lit (.bool m.fresh))]] (.pv (.lit (.bool (member m)))) := by
  generalize hR : member m = R
  refine PCalls.of_body tabOk Try.func38 rfl rfl rfl rfl rfl mixed fun E hP C hI => ?_
  refine Awp.cons C (fun _ => .pure) (by kernel_rfl) ?_
  refine rvc_un (rexec_prim C (δ := { v := .ptr 1 0, new := [(1, .cells [.pv (.lit (.int .i64 m.node)), .pv (.lit (.int .i64 m.site)), .pv (.lit (.bool m.fresh))])] }) rfl rfl rfl rfl trivial rfl ?_)
  refine rvc_un (rexec_prim C (δ := { v := .pv (.lit (.bool false)) }) rfl rfl rfl rfl trivial rfl ?_)
  refine rvc_nil ?_
  refine Awp.cons C (fun _ => .pure) (by kernel_rfl) ?_
  refine rvc_un (rexec_prim C (δ := { v := .ptr 1 0 }) rfl rfl rfl rfl trivial rfl ?_)
  refine rvc_un (rexec_prim C (δ := { v := .pv (.lit (.int .i64 m.node)) }) rfl rfl rfl rfl trivial rfl ?_)
  refine rvc_un (rexec_prim C (δ := { v := .pv (.lit (.bool (decide (m.node ≥ 0)))) }) rfl rfl rfl rfl trivial rfl ?_)
  refine rvc_un (rexec_prim C (δ := { v := .pv (.lit (.bool (decide (m.node ≥ 0)))) }) rfl rfl rfl rfl trivial rfl ?_)
  refine rvc_case 6 (decide (m.node ≥ 0)) rfl (fun h1 => ?_) (fun h1 => ?_)
  ·
    replace hR := of_true h1 hR
    refine rvc_open rfl rfl rfl (rexec_prim C (δ := { v := .ptr 1 0 }) rfl rfl rfl rfl trivial rfl ?_)
    refine rvc_open rfl rfl rfl (rexec_prim C (δ := { v := .pv (.lit (.int .i64 m.node)) }) rfl rfl rfl rfl trivial rfl ?_)
    refine rvc_open rfl rfl rfl (rexec_prim C (δ := { v := .pv (.lit (.bool (decide (m.node < 6)))) }) rfl rfl rfl rfl trivial rfl ?_)
    refine rvc_un (rexec_prim C (δ := { v := .pv (.lit (.bool (decide (m.node < 6)))) }) rfl rfl rfl rfl trivial rfl ?_)
    refine rvc_un (rexec_prim C (δ := { v := .pv (.lit (.bool (decide (m.node < 6)))) }) rfl rfl rfl rfl trivial rfl ?_)
    refine rvc_case 11 (decide (m.node < 6)) rfl (fun h2 => ?_) (fun h2 => ?_)
    ·
      replace hR := of_true h2 hR
      refine rvc_open rfl rfl rfl (rexec_prim C (δ := { v := .ptr 1 1 }) rfl rfl rfl rfl trivial rfl ?_)
      refine rvc_open rfl rfl rfl (rexec_prim C (δ := { v := .pv (.lit (.int .i64 m.site)) }) rfl rfl rfl rfl trivial rfl ?_)
      refine rvc_open rfl rfl rfl (rexec_prim C (δ := { v := .pv (.lit (.bool (decide (m.site ≥ 0)))) }) rfl rfl rfl rfl trivial rfl ?_)
      refine rvc_un (rexec_prim C (δ := { v := .pv (.lit (.bool (decide (m.site ≥ 0)))) }) rfl rfl rfl rfl trivial rfl ?_)
      refine rvc_un (rexec_prim C (δ := { v := .pv (.lit (.bool (decide (m.site ≥ 0)))) }) rfl rfl rfl rfl trivial rfl ?_)
      refine rvc_case 16 (decide (m.site ≥ 0)) rfl (fun h3 => ?_) (fun h3 => ?_)
      ·
        replace hR := of_true h3 hR
        refine rvc_open rfl rfl rfl (rexec_prim C (δ := { v := .ptr 1 1 }) rfl rfl rfl rfl trivial rfl ?_)
        refine rvc_open rfl rfl rfl (rexec_prim C (δ := { v := .pv (.lit (.int .i64 m.site)) }) rfl rfl rfl rfl trivial rfl ?_)
        refine rvc_open rfl rfl rfl (rexec_prim C (δ := { v := .pv (.lit (.bool (decide (m.site < 3)))) }) rfl rfl rfl rfl trivial rfl ?_)
        refine rvc_un (rexec_prim C (δ := { v := .pv (.lit (.bool (decide (m.site < 3)))) }) rfl rfl rfl rfl trivial rfl ?_)
        refine rvc_un (rexec_prim C (δ := { v := .pv (.lit (.bool (decide (m.site < 3)))) }) rfl rfl rfl rfl trivial rfl ?_)
        refine rvc_nil ?_
        refine Awp.ret ?_
        subst hR
        exact ⟨.inl rfl, rfl⟩
      ·
        replace hR := of_false h3 hR
        refine rvc_shut rfl rfl rfl rfl ?_
        refine rvc_shut rfl rfl rfl rfl ?_
        refine rvc_shut rfl rfl rfl rfl ?_
        refine rvc_un (rexec_prim C (δ := { v := .pv (.lit (.bool false)) }) rfl rfl rfl rfl trivial rfl ?_)
        refine rvc_un (rexec_prim C (δ := { v := .pv (.lit (.bool false)) }) rfl rfl rfl rfl trivial rfl ?_)
        refine rvc_nil ?_
        refine Awp.ret ?_
        subst hR
        exact ⟨.inl rfl, rfl⟩
    ·
      replace hR := of_false h2 hR
      refine rvc_shut rfl rfl rfl rfl ?_
      refine rvc_shut rfl rfl rfl rfl ?_
      refine rvc_shut rfl rfl rfl rfl ?_
      refine rvc_un (rexec_prim C (δ := { v := .pv (.lit (.bool false)) }) rfl rfl rfl rfl trivial rfl ?_)
      refine rvc_un (rexec_prim C (δ := { v := .pv (.lit (.bool false)) }) rfl rfl rfl rfl trivial rfl ?_)
      refine rvc_shut rfl rfl rfl rfl ?_
      refine rvc_shut rfl rfl rfl rfl ?_
      refine rvc_shut rfl rfl rfl rfl ?_
      refine rvc_un (rexec_prim C (δ := { v := .pv (.lit (.bool false)) }) rfl rfl rfl rfl trivial rfl ?_)
      refine rvc_un (rexec_prim C (δ := { v := .pv (.lit (.bool false)) }) rfl rfl rfl rfl trivial rfl ?_)
      refine rvc_nil ?_
      refine Awp.ret ?_
      subst hR
      exact ⟨.inl rfl, rfl⟩
  ·
    replace hR := of_false h1 hR
    refine rvc_shut rfl rfl rfl rfl ?_
    refine rvc_shut rfl rfl rfl rfl ?_
    refine rvc_shut rfl rfl rfl rfl ?_
    refine rvc_un (rexec_prim C (δ := { v := .pv (.lit (.bool false)) }) rfl rfl rfl rfl trivial rfl ?_)
    refine rvc_un (rexec_prim C (δ := { v := .pv (.lit (.bool false)) }) rfl rfl rfl rfl trivial rfl ?_)
    refine rvc_shut rfl rfl rfl rfl ?_
    refine rvc_shut rfl rfl rfl rfl ?_
    refine rvc_shut rfl rfl rfl rfl ?_
    refine rvc_un (rexec_prim C (δ := { v := .pv (.lit (.bool false)) }) rfl rfl rfl rfl trivial rfl ?_)
    refine rvc_un (rexec_prim C (δ := { v := .pv (.lit (.bool false)) }) rfl rfl rfl rfl trivial rfl ?_)
    refine rvc_shut rfl rfl rfl rfl ?_
    refine rvc_shut rfl rfl rfl rfl ?_
    refine rvc_shut rfl rfl rfl rfl ?_
    refine rvc_un (rexec_prim C (δ := { v := .pv (.lit (.bool false)) }) rfl rfl rfl rfl trivial rfl ?_)
    refine rvc_un (rexec_prim C (δ := { v := .pv (.lit (.bool false)) }) rfl rfl rfl rfl trivial rfl ?_)
    refine rvc_nil ?_
    refine Awp.ret ?_
    subst hR
    exact ⟨.inl rfl, rfl⟩

def isNaN (x : Int) : Bool :=
  (x != x)
theorem isNaN_calls (x : Int)  : PCalls Try.prog 59 [.pv (.lit (.int .i64 x))] (.pv (.lit (.bool (isNaN x)))) := by
  generalize hR : isNaN x = R
  refine PCalls.of_body tabOk Try.func59 rfl rfl rfl rfl rfl mixed fun E hP C hI => ?_
  refine Awp.cons C (fun _ => .pure) (by kernel_rfl) ?_
  refine rvc_un (rexec_prim C (δ := { v := .pv (.lit (.bool false)) }) rfl rfl rfl rfl trivial rfl ?_)
  refine rvc_nil ?_
  refine Awp.cons C (fun _ => .pure) (by kernel_rfl) ?_
  refine rvc_un (rexec_prim C (δ := { v := .pv (.lit (.int .i64 x)) }) rfl rfl rfl rfl trivial rfl ?_)
  refine rvc_un (rexec_prim C (δ := { v := .pv (.lit (.int .i64 x)) }) rfl rfl rfl rfl trivial rfl ?_)
  refine rvc_un (rexec_prim C (δ := { v := .pv (.lit (.bool (x != x))) }) rfl rfl rfl rfl trivial rfl ?_)
  refine rvc_un (rexec_prim C (δ := { v := .pv (.lit (.bool (x != x))) }) rfl rfl rfl rfl trivial rfl ?_)
  refine rvc_nil ?_
  refine Awp.ret ?_
  subst hR
  exact ⟨.inl rfl, rfl⟩

def less (x : Int) (y : Int) : Bool :=
  (bif (isNaN x) then (bif (!(isNaN y)) then true else (decide (x < y))) else (decide (x < y)))
theorem less_calls (x : Int) (y : Int)  : PCalls Try.prog 56 [.pv (.lit (.int .i64 x)), .pv (.lit (.int .i64 y))] (.pv (.lit (.bool (less x y)))) := by
  generalize hR : less x y = R
  refine PCalls.of_body tabOk Try.func56 rfl rfl rfl rfl rfl mixed fun E hP C hI => ?_
  refine Awp.cons C (fun _ => .pure) (by kernel_rfl) ?_
  refine rvc_un (rexec_prim C (δ := { v := .pv (.lit (.bool false)) }) rfl rfl rfl rfl trivial rfl ?_)
  refine rvc_nil ?_
  refine Awp.cons C (fun _ => .pure) (by kernel_rfl) ?_
  refine rvc_un (rexec_prim C (δ := { v := .pv (.lit (.int .i64 x)) }) rfl rfl rfl rfl trivial rfl ?_)
  refine rvc_un (rexec_call hP C rfl rfl rfl (isNaN_calls x) ?_)
  refine rvc_un (rexec_prim C (δ := { v := .pv (.lit (.bool (isNaN x))) }) rfl rfl rfl rfl trivial rfl ?_)
  refine rvc_case 7 (isNaN x) rfl (fun h1 => ?_) (fun h1 => ?_)
  ·
    replace hR := of_true h1 hR
    refine rvc_open rfl rfl rfl (rexec_prim C (δ := { v := .pv (.lit (.int .i64 y)) }) rfl rfl rfl rfl trivial rfl ?_)
    refine rvc_open rfl rfl rfl (rexec_call hP C rfl rfl rfl (isNaN_calls y) ?_)
    refine rvc_open rfl rfl rfl (rexec_prim C (δ := { v := .pv (.lit (.bool (!(isNaN y)))) }) rfl rfl rfl rfl trivial rfl ?_)
    refine rvc_un (rexec_prim C (δ := { v := .pv (.lit (.bool (!(isNaN y)))) }) rfl rfl rfl rfl trivial rfl ?_)
    refine rvc_un (rexec_prim C (δ := { v := .pv (.lit (.bool (!(isNaN y)))) }) rfl rfl rfl rfl trivial rfl ?_)
    refine rvc_case 12 (!(isNaN y)) rfl (fun h2 => ?_) (fun h2 => ?_)
    ·
      replace hR := of_true h2 hR
      refine rvc_shut rfl rfl rfl rfl ?_
      refine rvc_shut rfl rfl rfl rfl ?_
      refine rvc_shut rfl rfl rfl rfl ?_
      refine rvc_un (rexec_prim C (δ := { v := .pv (.lit (.bool true)) }) rfl rfl rfl rfl trivial rfl ?_)
      refine rvc_un (rexec_prim C (δ := { v := .pv (.lit (.bool true)) }) rfl rfl rfl rfl trivial rfl ?_)
      refine rvc_nil ?_
      refine Awp.ret ?_
      subst hR
      exact ⟨.inl rfl, rfl⟩
    ·
      replace hR := of_false h2 hR
      refine rvc_open rfl rfl rfl (rexec_prim C (δ := { v := .pv (.lit (.int .i64 x)) }) rfl rfl rfl rfl trivial rfl ?_)
      refine rvc_open rfl rfl rfl (rexec_prim C (δ := { v := .pv (.lit (.int .i64 y)) }) rfl rfl rfl rfl trivial rfl ?_)
      refine rvc_open rfl rfl rfl (rexec_prim C (δ := { v := .pv (.lit (.bool (decide (x < y)))) }) rfl rfl rfl rfl trivial rfl ?_)
      refine rvc_un (rexec_prim C (δ := { v := .pv (.lit (.bool (decide (x < y)))) }) rfl rfl rfl rfl trivial rfl ?_)
      refine rvc_un (rexec_prim C (δ := { v := .pv (.lit (.bool (decide (x < y)))) }) rfl rfl rfl rfl trivial rfl ?_)
      refine rvc_nil ?_
      refine Awp.ret ?_
      subst hR
      exact ⟨.inl rfl, rfl⟩
  ·
    replace hR := of_false h1 hR
    refine rvc_shut rfl rfl rfl rfl ?_
    refine rvc_shut rfl rfl rfl rfl ?_
    refine rvc_shut rfl rfl rfl rfl ?_
    refine rvc_un (rexec_prim C (δ := { v := .pv (.lit (.bool false)) }) rfl rfl rfl rfl trivial rfl ?_)
    refine rvc_un (rexec_prim C (δ := { v := .pv (.lit (.bool false)) }) rfl rfl rfl rfl trivial rfl ?_)
    refine rvc_open rfl rfl rfl (rexec_prim C (δ := { v := .pv (.lit (.int .i64 x)) }) rfl rfl rfl rfl trivial rfl ?_)
    refine rvc_open rfl rfl rfl (rexec_prim C (δ := { v := .pv (.lit (.int .i64 y)) }) rfl rfl rfl rfl trivial rfl ?_)
    refine rvc_open rfl rfl rfl (rexec_prim C (δ := { v := .pv (.lit (.bool (decide (x < y)))) }) rfl rfl rfl rfl trivial rfl ?_)
    refine rvc_un (rexec_prim C (δ := { v := .pv (.lit (.bool (decide (x < y)))) }) rfl rfl rfl rfl trivial rfl ?_)
    refine rvc_un (rexec_prim C (δ := { v := .pv (.lit (.bool (decide (x < y)))) }) rfl rfl rfl rfl trivial rfl ?_)
    refine rvc_nil ?_
    refine Awp.ret ?_
    subst hR
    exact ⟨.inl rfl, rfl⟩

def after (c : Chain) (l : (Sl Member)) : Chain :=
  (Chain.mk (IntKind.i64.wrap (c.epoch + 1)) l)
theorem after_calls (c : Chain) (l : (Sl Member))  : PCalls Try.prog 50 [.agg [.pv (.lit (.int .i64 c.epoch)), sS (some c.members.nil) eMember c.members.D], sS (some l.nil) eMember l.D] (.agg [.pv (.lit (.int .i64 ((after c l).epoch))), sS (some (after c l).members.nil) eMember ((after c l).members.D)]) := by
  generalize hR : after c l = R
  refine PCalls.of_body tabOk Try.func50 rfl rfl rfl rfl rfl mixed fun E hP C hI => ?_
  refine Awp.cons C (fun _ => .pure) (by kernel_rfl) ?_
  refine rvc_un (rexec_prim C (δ := { v := .ptr 2 0, new := [(2, .cells [.pv (.lit (.int .i64 c.epoch)), sS (some c.members.nil) eMember c.members.D])] }) rfl rfl rfl rfl trivial rfl ?_)
  refine rvc_un (rexec_prim C (δ := { v := .ptr 4 0, new := [(4, .cells [.pv (.lit (.int .i64 0)), sS (some true) eMember []])] }) rfl rfl rfl rfl trivial rfl ?_)
  refine rvc_nil ?_
  refine Awp.cons C (fun _ => .pure) (by kernel_rfl) ?_
  refine rvc_un (rexec_prim C (δ := { v := .ptr 2 0 }) rfl rfl rfl rfl trivial rfl ?_)
  refine rvc_un (rexec_prim C (δ := { v := .pv (.lit (.int .i64 c.epoch)) }) rfl rfl rfl rfl trivial rfl ?_)
  refine rvc_un (rexec_prim C (δ := { v := .pv (.lit (.int .i64 (IntKind.i64.wrap (c.epoch + 1)))) }) rfl rfl rfl rfl trivial rfl ?_)
  refine rvc_un (rexec_prim C (δ := { v := sS (some l.nil) eMember l.D }) rfl rfl rfl rfl trivial rfl ?_)
  refine rvc_un (rexec_prim C (δ := { v := .agg [.pv (.lit (.int .i64 (IntKind.i64.wrap (c.epoch + 1)))), sS (some l.nil) eMember l.D] }) rfl rfl rfl rfl trivial rfl ?_)
  refine rvc_un (rexec_prim C (δ := { v := .undef, wr := [(4, some (.cells [.pv (.lit (.int .i64 (IntKind.i64.wrap (c.epoch + 1)))), sS (some l.nil) eMember l.D]))] }) rfl rfl rfl rfl trivial rfl ?_) -- tNone store
  refine rvc_nil ?_
  refine Awp.ret ?_
  subst hR
  exact ⟨.inl rfl, rfl⟩

def check_l0 : List Member → Nat → Int → Int → Int
  | [], _, _, _ => 0
  | x :: xs, i, seen, site => (bif (!(member x)) then 80 else (bif (mHas seen x.node) then 80 else (bif (decide (x.site < site)) then 80 else check_l0 xs (i + 1) (mWith seen x.node) x.site)))
def check (c : Chain) : Int :=
  (bif (decide (c.epoch < 1)) then 80 else (bif (decide (c.epoch > 1099511627776)) then 80 else (bif ((c.members.D.length : Int) == 0) then 80 else (bif c.members.D[0]!.fresh then 80 else check_l0 c.members.D 0 0 0))))
theorem check_calls (c : Chain) (hl1 : c.members.D.length ≤ 9223372036854775807) : PCalls Try.prog 11 [.agg [.pv (.lit (.int .i64 c.epoch)), sS (some c.members.nil) eMember c.members.D]] (.pv (.lit (.int .i64 (check c)))) := by
  generalize hR : check c = R
  refine PCalls.of_body tabOk Try.func11 rfl rfl rfl rfl rfl mixed fun E hP C hI => ?_
  refine Awp.cons C (fun _ => .pure) (by kernel_rfl) ?_
  refine rvc_un (rexec_prim C (δ := { v := .ptr 1 0, new := [(1, .cells [.pv (.lit (.int .i64 c.epoch)), sS (some c.members.nil) eMember c.members.D])] }) rfl rfl rfl rfl trivial rfl ?_)
  refine rvc_un (rexec_prim C (δ := { v := .pv (.lit (.int .i64 0)) }) rfl rfl rfl rfl trivial rfl ?_)
  refine rvc_nil ?_
  refine Awp.seq ?_
  refine Awp.cons C (fun _ => .pure) (by kernel_rfl) ?_
  refine rvc_un (rexec_prim C (δ := { v := .ptr 1 0 }) rfl rfl rfl rfl trivial rfl ?_)
  refine rvc_un (rexec_prim C (δ := { v := .pv (.lit (.int .i64 c.epoch)) }) rfl rfl rfl rfl trivial rfl ?_)
  refine rvc_un (rexec_prim C (δ := { v := .pv (.lit (.bool (decide (c.epoch < 1)))) }) rfl rfl rfl rfl trivial rfl ?_)
  refine rvc_un (rexec_prim C (δ := { v := .pv (.lit (.bool (decide (c.epoch < 1)))) }) rfl rfl rfl rfl trivial rfl ?_)
  refine rvc_case 10 (decide (c.epoch < 1)) rfl (fun h1 => ?_) (fun h1 => ?_)
  ·
    replace hR := of_true h1 hR
    refine rvc_shut rfl rfl rfl rfl ?_
    refine rvc_shut rfl rfl rfl rfl ?_
    refine rvc_shut rfl rfl rfl rfl ?_
    refine rvc_un (rexec_prim C (δ := { v := .pv (.lit (.bool true)) }) rfl rfl rfl rfl trivial rfl ?_)
    refine rvc_un (rexec_prim C (δ := { v := .pv (.lit (.bool true)) }) rfl rfl rfl rfl trivial rfl ?_)
    refine rvc_shut rfl rfl rfl rfl ?_
    refine rvc_shut rfl rfl rfl rfl ?_
    refine rvc_shut rfl rfl rfl rfl ?_
    refine rvc_shut rfl rfl rfl rfl ?_
    refine rvc_un (rexec_prim C (δ := { v := .pv (.lit (.bool true)) }) rfl rfl rfl rfl trivial rfl ?_)
    refine rvc_un (rexec_prim C (δ := { v := .pv (.lit (.bool true)) }) rfl rfl rfl rfl trivial rfl ?_)
    refine rvc_shut rfl rfl rfl rfl ?_
    refine rvc_shut rfl rfl rfl rfl ?_
    refine rvc_shut rfl rfl rfl rfl ?_
    refine rvc_shut rfl rfl rfl rfl ?_
    refine rvc_shut rfl rfl rfl rfl ?_
    refine rvc_un (rexec_prim C (δ := { v := .pv (.lit (.bool true)) }) rfl rfl rfl rfl trivial rfl ?_)
    refine rvc_nil ?_
    refine Awp.condT (b := true) rfl rfl ?_
    refine Awp.cons C (fun _ => .pure) (by kernel_rfl) ?_
    refine rvc_un (rexec_prim C (δ := { v := .pv (.lit (.int .i64 80)) }) rfl rfl rfl rfl trivial rfl ?_)
    refine rvc_nil ?_
    refine Awp.ret ?_
    subst hR
    exact ⟨.inl rfl, rfl⟩
  ·
    replace hR := of_false h1 hR
    refine rvc_open rfl rfl rfl (rexec_prim C (δ := { v := .ptr 1 0 }) rfl rfl rfl rfl trivial rfl ?_)
    refine rvc_open rfl rfl rfl (rexec_prim C (δ := { v := .pv (.lit (.int .i64 c.epoch)) }) rfl rfl rfl rfl trivial rfl ?_)
    refine rvc_open rfl rfl rfl (rexec_prim C (δ := { v := .pv (.lit (.bool (decide (c.epoch > 1099511627776)))) }) rfl rfl rfl rfl trivial rfl ?_)
    refine rvc_un (rexec_prim C (δ := { v := .pv (.lit (.bool (decide (c.epoch > 1099511627776)))) }) rfl rfl rfl rfl trivial rfl ?_)
    refine rvc_un (rexec_prim C (δ := { v := .pv (.lit (.bool (decide (c.epoch > 1099511627776)))) }) rfl rfl rfl rfl trivial rfl ?_)
    refine rvc_case 15 (decide (c.epoch > 1099511627776)) rfl (fun h2 => ?_) (fun h2 => ?_)
    ·
      replace hR := of_true h2 hR
      refine rvc_shut rfl rfl rfl rfl ?_
      refine rvc_shut rfl rfl rfl rfl ?_
      refine rvc_shut rfl rfl rfl rfl ?_
      refine rvc_shut rfl rfl rfl rfl ?_
      refine rvc_un (rexec_prim C (δ := { v := .pv (.lit (.bool true)) }) rfl rfl rfl rfl trivial rfl ?_)
      refine rvc_un (rexec_prim C (δ := { v := .pv (.lit (.bool true)) }) rfl rfl rfl rfl trivial rfl ?_)
      refine rvc_shut rfl rfl rfl rfl ?_
      refine rvc_shut rfl rfl rfl rfl ?_
      refine rvc_shut rfl rfl rfl rfl ?_
      refine rvc_shut rfl rfl rfl rfl ?_
      refine rvc_shut rfl rfl rfl rfl ?_
      refine rvc_un (rexec_prim C (δ := { v := .pv (.lit (.bool true)) }) rfl rfl rfl rfl trivial rfl ?_)
      refine rvc_nil ?_
      refine Awp.condT (b := true) rfl rfl ?_
      refine Awp.cons C (fun _ => .pure) (by kernel_rfl) ?_
      refine rvc_un (rexec_prim C (δ := { v := .pv (.lit (.int .i64 80)) }) rfl rfl rfl rfl trivial rfl ?_)
      refine rvc_nil ?_
      refine Awp.ret ?_
      subst hR
      exact ⟨.inl rfl, rfl⟩
    ·
      replace hR := of_false h2 hR
      refine rvc_open rfl rfl rfl (rexec_prim C (δ := { v := .ptr 1 1 }) rfl rfl rfl rfl trivial rfl ?_)
      refine rvc_open rfl rfl rfl (rexec_prim C (δ := { v := sS (some c.members.nil) eMember c.members.D }) rfl rfl rfl rfl trivial rfl ?_)
      refine rvc_open rfl rfl rfl (rexec_prim C (δ := { v := .pv (.lit (.int .i64 (c.members.D.length : Int))) }) rfl rfl rfl rfl trivial rfl ?_)
      refine rvc_open rfl rfl rfl (rexec_prim C (δ := { v := .pv (.lit (.bool ((c.members.D.length : Int) == 0))) }) rfl rfl rfl rfl trivial rfl ?_)
      refine rvc_un (rexec_prim C (δ := { v := .pv (.lit (.bool ((c.members.D.length : Int) == 0))) }) rfl rfl rfl rfl trivial rfl ?_)
      refine rvc_un (rexec_prim C (δ := { v := .pv (.lit (.bool ((c.members.D.length : Int) == 0))) }) rfl rfl rfl rfl trivial rfl ?_)
      refine rvc_case 21 ((c.members.D.length : Int) == 0) rfl (fun h3 => ?_) (fun h3 => ?_)
      ·
        replace hR := of_true h3 hR
        refine rvc_shut rfl rfl rfl rfl ?_
        refine rvc_shut rfl rfl rfl rfl ?_
        refine rvc_shut rfl rfl rfl rfl ?_
        refine rvc_shut rfl rfl rfl rfl ?_
        refine rvc_shut rfl rfl rfl rfl ?_
        refine rvc_un (rexec_prim C (δ := { v := .pv (.lit (.bool true)) }) rfl rfl rfl rfl trivial rfl ?_)
        refine rvc_nil ?_
        refine Awp.condT (b := true) rfl rfl ?_
        refine Awp.cons C (fun _ => .pure) (by kernel_rfl) ?_
        refine rvc_un (rexec_prim C (δ := { v := .pv (.lit (.int .i64 80)) }) rfl rfl rfl rfl trivial rfl ?_)
        refine rvc_nil ?_
        refine Awp.ret ?_
        subst hR
        exact ⟨.inl rfl, rfl⟩
      ·
        replace hR := of_false h3 hR
        refine rvc_open rfl rfl rfl (rexec_prim C (δ := { v := .ptr 1 1 }) rfl rfl rfl rfl trivial rfl ?_)
        refine rvc_open rfl rfl rfl (rexec_prim C (δ := { v := sS (some c.members.nil) eMember c.members.D }) rfl rfl rfl rfl trivial rfl ?_)
        have h4 : c.members.D[0]? = some c.members.D[0]! := getE (by have := of_decide_eq_false h1; have := of_decide_eq_false h2; have := ne_of_beq_false h3; omega)
        refine rvc_open rfl rfl rfl (rexec_idxS C rfl rfl rfl rfl rfl rfl (c.members.D[0]!) (Int.natCast_nonneg _) h4 ?_)
        refine rvc_open rfl rfl rfl (rexec_prim C (δ := { v := .rp [.lit (.bool (c.members.D[0]!.fresh))] }) rfl rfl rfl rfl trivial rfl ?_)
        refine rvc_open rfl rfl rfl (rexec_prim C (δ := { v := .pv (.lit (.bool (c.members.D[0]!.fresh))) }) rfl rfl rfl rfl trivial rfl ?_)
        refine rvc_un (rexec_prim C (δ := { v := .pv (.lit (.bool (c.members.D[0]!.fresh))) }) rfl rfl rfl rfl trivial rfl ?_)
        refine rvc_nil ?_
        refine Awp.cond (b := c.members.D[0]!.fresh) rfl (fun h5 => ?_) (fun h5 => ?_)
        ·
          replace hR := of_true h5 hR
          refine Awp.cons C (fun _ => .pure) (by kernel_rfl) ?_
          refine rvc_un (rexec_prim C (δ := { v := .pv (.lit (.int .i64 80)) }) rfl rfl rfl rfl trivial rfl ?_)
          refine rvc_nil ?_
          refine Awp.ret ?_
          subst hR
          exact ⟨.inl rfl, rfl⟩
        ·
          replace hR := of_false h5 hR
          refine Awp.skip ?_
          refine Awp.cons C (fun _ => .pure) (by kernel_rfl) ?_
          refine rvc_un (rexec_prim C (δ := { v := .pv (.lit (.int .u64 0)) }) rfl rfl rfl rfl trivial rfl ?_)
          refine rvc_nil ?_
          refine Awp.cons C (fun _ => .pure) (by kernel_rfl) ?_
          refine rvc_un (rexec_prim C (δ := { v := .pv (.lit (.int .i64 0)) }) rfl rfl rfl rfl trivial rfl ?_)
          refine rvc_nil ?_
          refine Awp.seq ?_
          refine Awp.cons C (fun _ => .pure) (by kernel_rfl) ?_
          refine rvc_un (rexec_prim C (δ := { v := .ptr 1 1 }) rfl rfl rfl rfl trivial rfl ?_)
          refine rvc_un (rexec_prim C (δ := { v := sS (some c.members.nil) eMember c.members.D }) rfl rfl rfl rfl trivial rfl ?_)
          refine rvc_un (rexec_prim C (δ := { v := .pv (.lit (.int .i64 (c.members.D.length : Int))) }) rfl rfl rfl rfl trivial rfl ?_)
          refine rvc_un (rexec_prim C (δ := { v := .pv (.lit (.int .i64 0)) }) rfl rfl rfl rfl trivial rfl ?_)
          refine rvc_nil ?_
          refine Awp.block ?_
          refine Awp.forR (σ := Int × Int) (c.members.D.length) (fun i v => [(3, .pv (.lit (.int .u64 v.1))), (4, .pv (.lit (.int .i64 v.2))), (29, sS (some c.members.nil) eMember c.members.D), (30, .pv (.lit (.int .i64 (c.members.D.length : Int)))), (31, .pv (.lit (.int .i64 (i : Int))))]) (fun i v => []) [] (fun i v => check_l0 (c.members.D.drop i) i v.1 v.2 = R) (0, 0) ?_ ?_ (fun i v h6 hR => ?_)
          · exact hR
          · exact ⟨fun b => b, WeakerR.ofL (Ks := []) hI ⟨⟨rfl, rfl⟩, ⟨rfl, rfl⟩, ⟨rfl, rfl⟩, ⟨rfl, rfl⟩, ⟨rfl, rfl⟩, trivial⟩ (okH_nil) rfl⟩
          obtain ⟨seen, site⟩ := v
          refine Awp.cons C (fun _ => .pure) (by kernel_rfl) ?_
          refine rvc_un (rexec_prim C (δ := { v := .pv (.lit (.bool (decide ((i : Int) < (c.members.D.length : Int))))) }) rfl rfl rfl rfl trivial rfl ?_)
          refine rvc_nil ?_
          refine Awp.seq ?_
          refine Awp.cond (b := (decide ((i : Int) < (c.members.D.length : Int)))) rfl (fun h7 => ?_) (fun h7 => ?_)
          ·
            have h8 : i < c.members.D.length := by have := of_decide_eq_true h7; omega
            obtain ⟨x, h9⟩ := getX h8
            rw [drop_at h9] at hR
            refine Awp.skip ?_
            refine Awp.seq ?_
            refine Awp.block ?_
            refine Awp.cons C (fun _ => .pure) (by kernel_rfl) ?_
            refine rvc_un (rexec_idxS C rfl rfl rfl rfl rfl rfl x (Int.natCast_nonneg _) h9 ?_)
            refine rvc_un (rexec_prim C (δ := { v := .agg [.pv (.lit (.int .i64 x.node)), .pv (.lit (.int .i64 x.site)), .pv (.lit (.bool x.fresh))] }) rfl rfl rfl rfl trivial rfl ?_)
            refine rvc_un (rexec_prim C (δ := { v := .ptr 6 0, new := [(6, .cells [.pv (.lit (.int .i64 0)), .pv (.lit (.int .i64 0)), .pv (.lit (.bool false))])] }) rfl rfl rfl rfl trivial rfl ?_)
            refine rvc_un (rexec_prim C (δ := { v := .undef, wr := [(6, some (.cells [.pv (.lit (.int .i64 x.node)), .pv (.lit (.int .i64 x.site)), .pv (.lit (.bool x.fresh))]))] }) rfl rfl rfl rfl trivial rfl ?_) -- tNone store
            refine rvc_nil ?_
            refine Awp.seq ?_
            refine Awp.cons C (fun _ => .pure) (by kernel_rfl) ?_
            refine rvc_un (rexec_prim C (δ := { v := .agg [.pv (.lit (.int .i64 x.node)), .pv (.lit (.int .i64 x.site)), .pv (.lit (.bool x.fresh))] }) rfl rfl rfl rfl trivial rfl ?_)
            refine rvc_un (rexec_call hP C rfl rfl rfl (member_calls x) ?_)
            refine rvc_un (rexec_prim C (δ := { v := .pv (.lit (.bool (!(member x)))) }) rfl rfl rfl rfl trivial rfl ?_)
            refine rvc_un (rexec_prim C (δ := { v := .pv (.lit (.bool (!(member x)))) }) rfl rfl rfl rfl trivial rfl ?_)
            refine rvc_case 38 (!(member x)) rfl (fun h10 => ?_) (fun h10 => ?_)
            ·
              replace hR := of_true h10 hR
              refine rvc_shut rfl rfl rfl rfl ?_
              refine rvc_shut rfl rfl rfl rfl ?_
              refine rvc_shut rfl rfl rfl rfl ?_
              refine rvc_shut rfl rfl rfl rfl ?_
              refine rvc_un (rexec_prim C (δ := { v := .pv (.lit (.bool true)) }) rfl rfl rfl rfl trivial rfl ?_)
              refine rvc_un (rexec_prim C (δ := { v := .pv (.lit (.bool true)) }) rfl rfl rfl rfl trivial rfl ?_)
              refine rvc_shut rfl rfl rfl rfl ?_
              refine rvc_shut rfl rfl rfl rfl ?_
              refine rvc_shut rfl rfl rfl rfl ?_
              refine rvc_shut rfl rfl rfl rfl ?_
              refine rvc_un (rexec_prim C (δ := { v := .pv (.lit (.bool true)) }) rfl rfl rfl rfl trivial rfl ?_)
              refine rvc_nil ?_
              refine Awp.condT (b := true) rfl rfl ?_
              refine Awp.cons C (fun _ => .pure) (by kernel_rfl) ?_
              refine rvc_un (rexec_prim C (δ := { v := .pv (.lit (.int .i64 80)) }) rfl rfl rfl rfl trivial rfl ?_)
              refine rvc_nil ?_
              refine Awp.ret ?_
              subst hR
              exact ⟨.inl rfl, rfl⟩
            ·
              replace hR := of_false h10 hR
              refine rvc_open rfl rfl rfl (rexec_prim C (δ := { v := .pv (.lit (.int .u64 seen)) }) rfl rfl rfl rfl trivial rfl ?_)
              refine rvc_open rfl rfl rfl (rexec_prim C (δ := { v := .ptr 6 0 }) rfl rfl rfl rfl trivial rfl ?_)
              refine rvc_open rfl rfl rfl (rexec_prim C (δ := { v := .pv (.lit (.int .i64 x.node)) }) rfl rfl rfl rfl trivial rfl ?_)
              refine rvc_open rfl rfl rfl (rexec_call hP C rfl rfl rfl (mHas_calls seen x.node) ?_)
              refine rvc_un (rexec_prim C (δ := { v := .pv (.lit (.bool (mHas seen x.node))) }) rfl rfl rfl rfl trivial rfl ?_)
              refine rvc_un (rexec_prim C (δ := { v := .pv (.lit (.bool (mHas seen x.node))) }) rfl rfl rfl rfl trivial rfl ?_)
              refine rvc_case 44 (mHas seen x.node) rfl (fun h11 => ?_) (fun h11 => ?_)
              ·
                replace hR := of_true h11 hR
                refine rvc_shut rfl rfl rfl rfl ?_
                refine rvc_shut rfl rfl rfl rfl ?_
                refine rvc_shut rfl rfl rfl rfl ?_
                refine rvc_shut rfl rfl rfl rfl ?_
                refine rvc_un (rexec_prim C (δ := { v := .pv (.lit (.bool true)) }) rfl rfl rfl rfl trivial rfl ?_)
                refine rvc_nil ?_
                refine Awp.condT (b := true) rfl rfl ?_
                refine Awp.cons C (fun _ => .pure) (by kernel_rfl) ?_
                refine rvc_un (rexec_prim C (δ := { v := .pv (.lit (.int .i64 80)) }) rfl rfl rfl rfl trivial rfl ?_)
                refine rvc_nil ?_
                refine Awp.ret ?_
                subst hR
                exact ⟨.inl rfl, rfl⟩
              ·
                replace hR := of_false h11 hR
                refine rvc_open rfl rfl rfl (rexec_prim C (δ := { v := .ptr 6 1 }) rfl rfl rfl rfl trivial rfl ?_)
                refine rvc_open rfl rfl rfl (rexec_prim C (δ := { v := .pv (.lit (.int .i64 x.site)) }) rfl rfl rfl rfl trivial rfl ?_)
                refine rvc_open rfl rfl rfl (rexec_prim C (δ := { v := .pv (.lit (.int .i64 site)) }) rfl rfl rfl rfl trivial rfl ?_)
                refine rvc_open rfl rfl rfl (rexec_prim C (δ := { v := .pv (.lit (.bool (decide (x.site < site)))) }) rfl rfl rfl rfl trivial rfl ?_)
                refine rvc_un (rexec_prim C (δ := { v := .pv (.lit (.bool (decide (x.site < site)))) }) rfl rfl rfl rfl trivial rfl ?_)
                refine rvc_nil ?_
                refine Awp.cond (b := (decide (x.site < site))) rfl (fun h12 => ?_) (fun h12 => ?_)
                ·
                  replace hR := of_true h12 hR
                  refine Awp.cons C (fun _ => .pure) (by kernel_rfl) ?_
                  refine rvc_un (rexec_prim C (δ := { v := .pv (.lit (.int .i64 80)) }) rfl rfl rfl rfl trivial rfl ?_)
                  refine rvc_nil ?_
                  refine Awp.ret ?_
                  subst hR
                  exact ⟨.inl rfl, rfl⟩
                ·
                  replace hR := of_false h12 hR
                  refine Awp.skip ?_
                  refine Awp.region C (fun _ => .pure) (by kernel_rfl) ?_
                  refine rvc_un (rexec_prim C (δ := { v := .pv (.lit (.int .u64 seen)) }) rfl rfl rfl rfl trivial rfl ?_)
                  refine rvc_un (rexec_prim C (δ := { v := .ptr 6 0 }) rfl rfl rfl rfl trivial rfl ?_)
                  refine rvc_un (rexec_prim C (δ := { v := .pv (.lit (.int .i64 x.node)) }) rfl rfl rfl rfl trivial rfl ?_)
                  refine rvc_un (rexec_call hP C rfl rfl rfl (mWith_calls seen x.node) ?_)
                  refine rvc_un (rexec_prim C (δ := { v := .ptr 6 1 }) rfl rfl rfl rfl trivial rfl ?_)
                  refine rvc_un (rexec_prim C (δ := { v := .pv (.lit (.int .i64 x.site)) }) rfl rfl rfl rfl trivial rfl ?_)
                  refine rvc_un (rexec_prim C (δ := { v := .pv (.lit (.int .u64 (mWith seen x.node))) }) rfl rfl rfl rfl trivial rfl ?_)
                  refine rvc_un (rexec_prim C (δ := { v := .pv (.lit (.int .i64 x.site)) }) rfl rfl rfl rfl trivial rfl ?_)
                  refine rvc_nil ?_
                  refine Awp.region C (fun _ => .pure) (by kernel_rfl) ?_
                  refine rvc_un (rexec_prim C (δ := { v := .pv (.lit (.int .i64 (IntKind.i64.wrap ((i : Int) + 1)))) }) rfl rfl rfl rfl trivial rfl ?_)
                  refine rvc_un (rexec_prim C (δ := { v := .pv (.lit (.int .i64 (IntKind.i64.wrap ((i : Int) + 1)))) }) rfl rfl rfl rfl trivial rfl ?_)
                  refine rvc_nil ?_
                  refine ⟨h8, ((mWith seen x.node), x.site), ?_, ?_⟩
                  · exact hR
                  · exact ⟨fun b => b, WeakerR.ofL (Ks := []) hI ⟨⟨rfl, rfl⟩, ⟨rfl, rfl⟩, ⟨rfl, rfl⟩, ⟨rfl, rfl⟩, ⟨lit_cast (wrap_i64 (by omega) (by omega)), rfl⟩, trivial⟩ (okH_nil) rfl⟩
          ·
            have h8 : ¬ i < c.members.D.length := by have := of_decide_eq_false h7; omega
            rw [drop_end h8] at hR
            refine Awp.exit ?_
            refine Awp.cons C (fun _ => .pure) (by kernel_rfl) ?_
            refine rvc_un (rexec_prim C (δ := { v := .pv (.lit (.int .i64 0)) }) rfl rfl rfl rfl trivial rfl ?_)
            refine rvc_nil ?_
            refine Awp.ret ?_
            subst hR
            exact ⟨.inl rfl, rfl⟩

def eqMembers_l0 (s2 : (Sl Member)) : List Member → Nat → Bool
  | [], _ => true
  | x :: xs, i => (bif (!((x.node == (s2.D[(i : Int).toNat]!.node)) && ((x.site == (s2.D[(i : Int).toNat]!.site)) && ((x.fresh == (s2.D[(i : Int).toNat]!.fresh)) && true)))) then false else eqMembers_l0 s2 xs (i + 1) )
def eqMembers (s1 : (Sl Member)) (s2 : (Sl Member)) : Bool :=
  (bif ((s1.D.length : Int) != (s2.D.length : Int)) then false else eqMembers_l0 s2 s1.D 0 )
theorem eqMembers_calls (s1 : (Sl Member)) (s2 : (Sl Member)) (hl1 : s1.D.length ≤ 9223372036854775807) : PCalls Try.prog 39 [sS (some s1.nil) eMember s1.D, sS (some s2.nil) eMember s2.D] (.pv (.lit (.bool (eqMembers s1 s2)))) := by
  generalize hR : eqMembers s1 s2 = R
  refine PCalls.of_body tabOk Try.func39 rfl rfl rfl rfl rfl mixed fun E hP C hI => ?_
  refine Awp.cons C (fun _ => .pure) (by kernel_rfl) ?_
  refine rvc_un (rexec_prim C (δ := { v := .pv (.lit (.bool false)) }) rfl rfl rfl rfl trivial rfl ?_)
  refine rvc_nil ?_
  refine Awp.seq ?_
  refine Awp.cons C (fun _ => .pure) (by kernel_rfl) ?_
  refine rvc_un (rexec_prim C (δ := { v := sS (some s1.nil) eMember s1.D }) rfl rfl rfl rfl trivial rfl ?_)
  refine rvc_un (rexec_prim C (δ := { v := .pv (.lit (.int .i64 (s1.D.length : Int))) }) rfl rfl rfl rfl trivial rfl ?_)
  refine rvc_un (rexec_prim C (δ := { v := sS (some s2.nil) eMember s2.D }) rfl rfl rfl rfl trivial rfl ?_)
  refine rvc_un (rexec_prim C (δ := { v := .pv (.lit (.int .i64 (s2.D.length : Int))) }) rfl rfl rfl rfl trivial rfl ?_)
  refine rvc_un (rexec_prim C (δ := { v := .pv (.lit (.bool ((s1.D.length : Int) != (s2.D.length : Int)))) }) rfl rfl rfl rfl trivial rfl ?_)
  refine rvc_nil ?_
  refine Awp.cond (b := ((s1.D.length : Int) != (s2.D.length : Int))) rfl (fun h1 => ?_) (fun h1 => ?_)
  ·
    replace hR := of_true h1 hR
    refine Awp.cons C (fun _ => .pure) (by kernel_rfl) ?_
    refine rvc_un (rexec_prim C (δ := { v := .pv (.lit (.bool false)) }) rfl rfl rfl rfl trivial rfl ?_)
    refine rvc_nil ?_
    refine Awp.ret ?_
    subst hR
    exact ⟨.inl rfl, rfl⟩
  ·
    replace hR := of_false h1 hR
    refine Awp.skip ?_
    refine Awp.seq ?_
    refine Awp.cons C (fun _ => .pure) (by kernel_rfl) ?_
    refine rvc_un (rexec_prim C (δ := { v := sS (some s1.nil) eMember s1.D }) rfl rfl rfl rfl trivial rfl ?_)
    refine rvc_un (rexec_prim C (δ := { v := .pv (.lit (.int .i64 (s1.D.length : Int))) }) rfl rfl rfl rfl trivial rfl ?_)
    refine rvc_un (rexec_prim C (δ := { v := .pv (.lit (.int .i64 0)) }) rfl rfl rfl rfl trivial rfl ?_)
    refine rvc_nil ?_
    refine Awp.block ?_
    refine Awp.forR (σ := Unit) (s1.D.length) (fun i _v => [(0, sS (some s1.nil) eMember s1.D), (1, sS (some s2.nil) eMember s2.D), (12, .pv (.lit (.int .i64 (s1.D.length : Int)))), (13, .pv (.lit (.int .i64 (i : Int))))]) (fun i _v => []) [] (fun i _v => eqMembers_l0 s2 (s1.D.drop i) i  = R) () ?_ ?_ (fun i _v h2 hR => ?_)
    · exact hR
    · exact ⟨fun b => b, WeakerR.ofL (Ks := []) hI ⟨⟨rfl, rfl⟩, ⟨rfl, rfl⟩, ⟨rfl, rfl⟩, ⟨rfl, rfl⟩, trivial⟩ (okH_nil) rfl⟩
    refine Awp.cons C (fun _ => .pure) (by kernel_rfl) ?_
    refine rvc_un (rexec_prim C (δ := { v := .pv (.lit (.bool (decide ((i : Int) < (s1.D.length : Int))))) }) rfl rfl rfl rfl trivial rfl ?_)
    refine rvc_nil ?_
    refine Awp.seq ?_
    refine Awp.cond (b := (decide ((i : Int) < (s1.D.length : Int)))) rfl (fun h3 => ?_) (fun h3 => ?_)
    ·
      have h4 : i < s1.D.length := by have := of_decide_eq_true h3; omega
      obtain ⟨x, h5⟩ := getX h4
      rw [drop_at h5] at hR
      refine Awp.skip ?_
      refine Awp.seq ?_
      refine Awp.block ?_
      refine Awp.cons C (fun _ => .pure) (by kernel_rfl) ?_
      refine rvc_un (rexec_prim C (δ := { v := .pv (.lit (.int .i64 (i : Int))) }) rfl rfl rfl rfl trivial rfl ?_)
      refine rvc_un (rexec_prim C (δ := { v := .pv (.lit (.int .i64 (i : Int))) }) rfl rfl rfl rfl trivial rfl ?_)
      refine rvc_nil ?_
      refine Awp.cons C (fun _ => .pure) (by kernel_rfl) ?_
      refine rvc_un (rexec_prim C (δ := { v := sS (some s1.nil) eMember s1.D }) rfl rfl rfl rfl trivial rfl ?_)
      refine rvc_un (rexec_prim C (δ := { v := .pv (.lit (.int .i64 (i : Int))) }) rfl rfl rfl rfl trivial rfl ?_)
      refine rvc_un (rexec_idxS C rfl rfl rfl rfl rfl rfl x (Int.natCast_nonneg _) h5 ?_)
      refine rvc_un (rexec_prim C (δ := { v := .agg [.pv (.lit (.int .i64 x.node)), .pv (.lit (.int .i64 x.site)), .pv (.lit (.bool x.fresh))] }) rfl rfl rfl rfl trivial rfl ?_)
      refine rvc_un (rexec_prim C (δ := { v := sS (some s2.nil) eMember s2.D }) rfl rfl rfl rfl trivial rfl ?_)
      refine rvc_un (rexec_prim C (δ := { v := .pv (.lit (.int .i64 (i : Int))) }) rfl rfl rfl rfl trivial rfl ?_)
      have h6 : s2.D[(i : Int).toNat]? = some s2.D[(i : Int).toNat]! := getE (by have := eq_of_bne_false h1; have := of_decide_eq_true h3; omega)
      refine rvc_un (rexec_idxS C rfl rfl rfl rfl rfl rfl (s2.D[(i : Int).toNat]!) (Int.natCast_nonneg _) h6 ?_)
      refine rvc_un (rexec_prim C (δ := { v := .agg [.pv (.lit (.int .i64 (s2.D[(i : Int).toNat]!.node))), .pv (.lit (.int .i64 (s2.D[(i : Int).toNat]!.site))), .pv (.lit (.bool (s2.D[(i : Int).toNat]!.fresh)))] }) rfl rfl rfl rfl trivial rfl ?_)
      refine rvc_un (rexec_prim C (δ := { v := .pv (.lit (.bool (!((x.node == (s2.D[(i : Int).toNat]!.node)) && ((x.site == (s2.D[(i : Int).toNat]!.site)) && ((x.fresh == (s2.D[(i : Int).toNat]!.fresh)) && true)))))) }) rfl rfl rfl rfl trivial rfl ?_)
      refine rvc_nil ?_
      refine Awp.cond (b := (!((x.node == (s2.D[(i : Int).toNat]!.node)) && ((x.site == (s2.D[(i : Int).toNat]!.site)) && ((x.fresh == (s2.D[(i : Int).toNat]!.fresh)) && true))))) rfl (fun h7 => ?_) (fun h7 => ?_)
      ·
        replace hR := of_true h7 hR
        refine Awp.cons C (fun _ => .pure) (by kernel_rfl) ?_
        refine rvc_un (rexec_prim C (δ := { v := .pv (.lit (.bool false)) }) rfl rfl rfl rfl trivial rfl ?_)
        refine rvc_nil ?_
        refine Awp.ret ?_
        subst hR
        exact ⟨.inl rfl, rfl⟩
      ·
        replace hR := of_false h7 hR
        refine Awp.skip ?_
        refine Awp.region C (fun _ => .pure) (by kernel_rfl) ?_
        refine rvc_un (rexec_prim C (δ := { v := .pv (.lit (.int .i64 (IntKind.i64.wrap ((i : Int) + 1)))) }) rfl rfl rfl rfl trivial rfl ?_)
        refine rvc_un (rexec_prim C (δ := { v := .pv (.lit (.int .i64 (IntKind.i64.wrap ((i : Int) + 1)))) }) rfl rfl rfl rfl trivial rfl ?_)
        refine rvc_nil ?_
        refine ⟨h4, (), ?_, ?_⟩
        · exact hR
        · exact ⟨fun b => b, WeakerR.ofL (Ks := []) hI ⟨⟨rfl, rfl⟩, ⟨rfl, rfl⟩, ⟨rfl, rfl⟩, ⟨lit_cast (wrap_i64 (by omega) (by omega)), rfl⟩, trivial⟩ (okH_nil) rfl⟩
    ·
      have h4 : ¬ i < s1.D.length := by have := of_decide_eq_false h3; omega
      rw [drop_end h4] at hR
      refine Awp.exit ?_
      refine Awp.cons C (fun _ => .pure) (by kernel_rfl) ?_
      refine rvc_un (rexec_prim C (δ := { v := .pv (.lit (.bool true)) }) rfl rfl rfl rfl trivial rfl ?_)
      refine rvc_nil ?_
      refine Awp.ret ?_
      subst hR
      exact ⟨.inl rfl, rfl⟩

def same (a : Chain) (b : Chain) : Bool :=
  (bif (a.epoch == b.epoch) then (eqMembers a.members b.members) else false)
theorem same_calls (a : Chain) (b : Chain) (hl1 : a.members.D.length ≤ 9223372036854775807) : PCalls Try.prog 13 [.agg [.pv (.lit (.int .i64 a.epoch)), sS (some a.members.nil) eMember a.members.D], .agg [.pv (.lit (.int .i64 b.epoch)), sS (some b.members.nil) eMember b.members.D]] (.pv (.lit (.bool (same a b)))) := by
  generalize hR : same a b = R
  refine PCalls.of_body tabOk Try.func13 rfl rfl rfl rfl rfl mixed fun E hP C hI => ?_
  refine Awp.cons C (fun _ => .pure) (by kernel_rfl) ?_
  refine rvc_un (rexec_prim C (δ := { v := .ptr 2 0, new := [(2, .cells [.pv (.lit (.int .i64 a.epoch)), sS (some a.members.nil) eMember a.members.D])] }) rfl rfl rfl rfl trivial rfl ?_)
  refine rvc_un (rexec_prim C (δ := { v := .ptr 3 0, new := [(3, .cells [.pv (.lit (.int .i64 b.epoch)), sS (some b.members.nil) eMember b.members.D])] }) rfl rfl rfl rfl trivial rfl ?_)
  refine rvc_un (rexec_prim C (δ := { v := .pv (.lit (.bool false)) }) rfl rfl rfl rfl trivial rfl ?_)
  refine rvc_nil ?_
  refine Awp.cons C (fun _ => .pure) (by kernel_rfl) ?_
  refine rvc_un (rexec_prim C (δ := { v := .ptr 2 0 }) rfl rfl rfl rfl trivial rfl ?_)
  refine rvc_un (rexec_prim C (δ := { v := .pv (.lit (.int .i64 a.epoch)) }) rfl rfl rfl rfl trivial rfl ?_)
  refine rvc_un (rexec_prim C (δ := { v := .ptr 3 0 }) rfl rfl rfl rfl trivial rfl ?_)
  refine rvc_un (rexec_prim C (δ := { v := .pv (.lit (.int .i64 b.epoch)) }) rfl rfl rfl rfl trivial rfl ?_)
  refine rvc_un (rexec_prim C (δ := { v := .pv (.lit (.bool (a.epoch == b.epoch))) }) rfl rfl rfl rfl trivial rfl ?_)
  refine rvc_un (rexec_prim C (δ := { v := .pv (.lit (.bool (a.epoch == b.epoch))) }) rfl rfl rfl rfl trivial rfl ?_)
  refine rvc_case 10 (a.epoch == b.epoch) rfl (fun h1 => ?_) (fun h1 => ?_)
  ·
    replace hR := of_true h1 hR
    refine rvc_open rfl rfl rfl (rexec_prim C (δ := { v := .ptr 2 1 }) rfl rfl rfl rfl trivial rfl ?_)
    refine rvc_open rfl rfl rfl (rexec_prim C (δ := { v := sS (some a.members.nil) eMember a.members.D }) rfl rfl rfl rfl trivial rfl ?_)
    refine rvc_open rfl rfl rfl (rexec_prim C (δ := { v := .ptr 3 1 }) rfl rfl rfl rfl trivial rfl ?_)
    refine rvc_open rfl rfl rfl (rexec_prim C (δ := { v := sS (some b.members.nil) eMember b.members.D }) rfl rfl rfl rfl trivial rfl ?_)
    refine rvc_open rfl rfl rfl (rexec_call hP C rfl rfl rfl (eqMembers_calls a.members b.members hl1) ?_)
    refine rvc_un (rexec_prim C (δ := { v := .pv (.lit (.bool (eqMembers a.members b.members))) }) rfl rfl rfl rfl trivial rfl ?_)
    refine rvc_un (rexec_prim C (δ := { v := .pv (.lit (.bool (eqMembers a.members b.members))) }) rfl rfl rfl rfl trivial rfl ?_)
    refine rvc_nil ?_
    refine Awp.ret ?_
    subst hR
    exact ⟨.inl rfl, rfl⟩
  ·
    replace hR := of_false h1 hR
    refine rvc_shut rfl rfl rfl rfl ?_
    refine rvc_shut rfl rfl rfl rfl ?_
    refine rvc_shut rfl rfl rfl rfl ?_
    refine rvc_shut rfl rfl rfl rfl ?_
    refine rvc_shut rfl rfl rfl rfl ?_
    refine rvc_un (rexec_prim C (δ := { v := .pv (.lit (.bool false)) }) rfl rfl rfl rfl trivial rfl ?_)
    refine rvc_un (rexec_prim C (δ := { v := .pv (.lit (.bool false)) }) rfl rfl rfl rfl trivial rfl ?_)
    refine rvc_nil ?_
    refine Awp.ret ?_
    subst hR
    exact ⟨.inl rfl, rfl⟩

def rCheck_l1 (x : Member) (kk : Int) : List Member → Nat → Int
  | [], _ => kk 
  | x1 :: x1s, i1 => (bif (x1.node == x.node) then 80 else (bif (decide (x1.site > x.site)) then 80 else rCheck_l1 x kk x1s (i1 + 1) ))
def rCheck_l0 (c : Chain) : List Member → Nat → Int
  | [], _ => 0
  | x :: xs, i => (bif (decide (x.node < 0)) then 80 else (bif (decide (x.node > 5)) then 80 else (bif (decide (x.site < 0)) then 80 else (bif (decide (x.site > 2)) then 80 else rCheck_l1 x (rCheck_l0 c xs (i + 1) ) (c.members.D.take i) 0 ))))
def rCheck (c : Chain) : Int :=
  (bif (decide (c.epoch < 1)) then 80 else (bif (decide (c.epoch > 1099511627776)) then 80 else (bif ((c.members.D.length : Int) == 0) then 80 else (bif (decide ((c.members.D.length : Int) > 6)) then 80 else (bif c.members.D[0]!.fresh then 80 else rCheck_l0 c c.members.D 0 )))))
theorem rCheck_calls (c : Chain) (hl1 : c.members.D.length ≤ 9223372036854775807) : PCalls Try.prog 12 [.agg [.pv (.lit (.int .i64 c.epoch)), sS (some c.members.nil) eMember c.members.D]] (.pv (.lit (.int .i64 (rCheck c)))) := by
  generalize hR : rCheck c = R
  refine PCalls.of_body tabOk Try.func12 rfl rfl rfl rfl rfl mixed fun E hP C hI => ?_
  refine Awp.cons C (fun _ => .pure) (by kernel_rfl) ?_
  refine rvc_un (rexec_prim C (δ := { v := .ptr 1 0, new := [(1, .cells [.pv (.lit (.int .i64 c.epoch)), sS (some c.members.nil) eMember c.members.D])] }) rfl rfl rfl rfl trivial rfl ?_)
  refine rvc_un (rexec_prim C (δ := { v := .pv (.lit (.int .i64 0)) }) rfl rfl rfl rfl trivial rfl ?_)
  refine rvc_nil ?_
  refine Awp.seq ?_
  refine Awp.cons C (fun _ => .pure) (by kernel_rfl) ?_
  refine rvc_un (rexec_prim C (δ := { v := .ptr 1 0 }) rfl rfl rfl rfl trivial rfl ?_)
  refine rvc_un (rexec_prim C (δ := { v := .pv (.lit (.int .i64 c.epoch)) }) rfl rfl rfl rfl trivial rfl ?_)
  refine rvc_un (rexec_prim C (δ := { v := .pv (.lit (.bool (decide (c.epoch < 1)))) }) rfl rfl rfl rfl trivial rfl ?_)
  refine rvc_un (rexec_prim C (δ := { v := .pv (.lit (.bool (decide (c.epoch < 1)))) }) rfl rfl rfl rfl trivial rfl ?_)
  refine rvc_case 10 (decide (c.epoch < 1)) rfl (fun h1 => ?_) (fun h1 => ?_)
  ·
    replace hR := of_true h1 hR
    refine rvc_shut rfl rfl rfl rfl ?_
    refine rvc_shut rfl rfl rfl rfl ?_
    refine rvc_shut rfl rfl rfl rfl ?_
    refine rvc_un (rexec_prim C (δ := { v := .pv (.lit (.bool true)) }) rfl rfl rfl rfl trivial rfl ?_)
    refine rvc_un (rexec_prim C (δ := { v := .pv (.lit (.bool true)) }) rfl rfl rfl rfl trivial rfl ?_)
    refine rvc_shut rfl rfl rfl rfl ?_
    refine rvc_shut rfl rfl rfl rfl ?_
    refine rvc_shut rfl rfl rfl rfl ?_
    refine rvc_shut rfl rfl rfl rfl ?_
    refine rvc_un (rexec_prim C (δ := { v := .pv (.lit (.bool true)) }) rfl rfl rfl rfl trivial rfl ?_)
    refine rvc_un (rexec_prim C (δ := { v := .pv (.lit (.bool true)) }) rfl rfl rfl rfl trivial rfl ?_)
    refine rvc_shut rfl rfl rfl rfl ?_
    refine rvc_shut rfl rfl rfl rfl ?_
    refine rvc_shut rfl rfl rfl rfl ?_
    refine rvc_shut rfl rfl rfl rfl ?_
    refine rvc_un (rexec_prim C (δ := { v := .pv (.lit (.bool true)) }) rfl rfl rfl rfl trivial rfl ?_)
    refine rvc_nil ?_
    refine Awp.condT (b := true) rfl rfl ?_
    refine Awp.cons C (fun _ => .pure) (by kernel_rfl) ?_
    refine rvc_un (rexec_prim C (δ := { v := .pv (.lit (.int .i64 80)) }) rfl rfl rfl rfl trivial rfl ?_)
    refine rvc_nil ?_
    refine Awp.ret ?_
    subst hR
    exact ⟨.inl rfl, rfl⟩
  ·
    replace hR := of_false h1 hR
    refine rvc_open rfl rfl rfl (rexec_prim C (δ := { v := .ptr 1 0 }) rfl rfl rfl rfl trivial rfl ?_)
    refine rvc_open rfl rfl rfl (rexec_prim C (δ := { v := .pv (.lit (.int .i64 c.epoch)) }) rfl rfl rfl rfl trivial rfl ?_)
    refine rvc_open rfl rfl rfl (rexec_prim C (δ := { v := .pv (.lit (.bool (decide (c.epoch > 1099511627776)))) }) rfl rfl rfl rfl trivial rfl ?_)
    refine rvc_un (rexec_prim C (δ := { v := .pv (.lit (.bool (decide (c.epoch > 1099511627776)))) }) rfl rfl rfl rfl trivial rfl ?_)
    refine rvc_un (rexec_prim C (δ := { v := .pv (.lit (.bool (decide (c.epoch > 1099511627776)))) }) rfl rfl rfl rfl trivial rfl ?_)
    refine rvc_case 15 (decide (c.epoch > 1099511627776)) rfl (fun h2 => ?_) (fun h2 => ?_)
    ·
      replace hR := of_true h2 hR
      refine rvc_shut rfl rfl rfl rfl ?_
      refine rvc_shut rfl rfl rfl rfl ?_
      refine rvc_shut rfl rfl rfl rfl ?_
      refine rvc_shut rfl rfl rfl rfl ?_
      refine rvc_un (rexec_prim C (δ := { v := .pv (.lit (.bool true)) }) rfl rfl rfl rfl trivial rfl ?_)
      refine rvc_un (rexec_prim C (δ := { v := .pv (.lit (.bool true)) }) rfl rfl rfl rfl trivial rfl ?_)
      refine rvc_shut rfl rfl rfl rfl ?_
      refine rvc_shut rfl rfl rfl rfl ?_
      refine rvc_shut rfl rfl rfl rfl ?_
      refine rvc_shut rfl rfl rfl rfl ?_
      refine rvc_un (rexec_prim C (δ := { v := .pv (.lit (.bool true)) }) rfl rfl rfl rfl trivial rfl ?_)
      refine rvc_nil ?_
      refine Awp.condT (b := true) rfl rfl ?_
      refine Awp.cons C (fun _ => .pure) (by kernel_rfl) ?_
      refine rvc_un (rexec_prim C (δ := { v := .pv (.lit (.int .i64 80)) }) rfl rfl rfl rfl trivial rfl ?_)
      refine rvc_nil ?_
      refine Awp.ret ?_
      subst hR
      exact ⟨.inl rfl, rfl⟩
    ·
      replace hR := of_false h2 hR
      refine rvc_open rfl rfl rfl (rexec_prim C (δ := { v := .ptr 1 1 }) rfl rfl rfl rfl trivial rfl ?_)
      refine rvc_open rfl rfl rfl (rexec_prim C (δ := { v := sS (some c.members.nil) eMember c.members.D }) rfl rfl rfl rfl trivial rfl ?_)
      refine rvc_open rfl rfl rfl (rexec_prim C (δ := { v := .pv (.lit (.int .i64 (c.members.D.length : Int))) }) rfl rfl rfl rfl trivial rfl ?_)
      refine rvc_open rfl rfl rfl (rexec_prim C (δ := { v := .pv (.lit (.bool ((c.members.D.length : Int) == 0))) }) rfl rfl rfl rfl trivial rfl ?_)
      refine rvc_un (rexec_prim C (δ := { v := .pv (.lit (.bool ((c.members.D.length : Int) == 0))) }) rfl rfl rfl rfl trivial rfl ?_)
      refine rvc_un (rexec_prim C (δ := { v := .pv (.lit (.bool ((c.members.D.length : Int) == 0))) }) rfl rfl rfl rfl trivial rfl ?_)
      refine rvc_case 21 ((c.members.D.length : Int) == 0) rfl (fun h3 => ?_) (fun h3 => ?_)
      ·
        replace hR := of_true h3 hR
        refine rvc_shut rfl rfl rfl rfl ?_
        refine rvc_shut rfl rfl rfl rfl ?_
        refine rvc_shut rfl rfl rfl rfl ?_
        refine rvc_shut rfl rfl rfl rfl ?_
        refine rvc_un (rexec_prim C (δ := { v := .pv (.lit (.bool true)) }) rfl rfl rfl rfl trivial rfl ?_)
        refine rvc_nil ?_
        refine Awp.condT (b := true) rfl rfl ?_
        refine Awp.cons C (fun _ => .pure) (by kernel_rfl) ?_
        refine rvc_un (rexec_prim C (δ := { v := .pv (.lit (.int .i64 80)) }) rfl rfl rfl rfl trivial rfl ?_)
        refine rvc_nil ?_
        refine Awp.ret ?_
        subst hR
        exact ⟨.inl rfl, rfl⟩
      ·
        replace hR := of_false h3 hR
        refine rvc_open rfl rfl rfl (rexec_prim C (δ := { v := .ptr 1 1 }) rfl rfl rfl rfl trivial rfl ?_)
        refine rvc_open rfl rfl rfl (rexec_prim C (δ := { v := sS (some c.members.nil) eMember c.members.D }) rfl rfl rfl rfl trivial rfl ?_)
        refine rvc_open rfl rfl rfl (rexec_prim C (δ := { v := .pv (.lit (.int .i64 (c.members.D.length : Int))) }) rfl rfl rfl rfl trivial rfl ?_)
        refine rvc_open rfl rfl rfl (rexec_prim C (δ := { v := .pv (.lit (.bool (decide ((c.members.D.length : Int) > 6)))) }) rfl rfl rfl rfl trivial rfl ?_)
        refine rvc_un (rexec_prim C (δ := { v := .pv (.lit (.bool (decide ((c.members.D.length : Int) > 6)))) }) rfl rfl rfl rfl trivial rfl ?_)
        refine rvc_nil ?_
        refine Awp.cond (b := (decide ((c.members.D.length : Int) > 6))) rfl (fun h4 => ?_) (fun h4 => ?_)
        ·
          replace hR := of_true h4 hR
          refine Awp.cons C (fun _ => .pure) (by kernel_rfl) ?_
          refine rvc_un (rexec_prim C (δ := { v := .pv (.lit (.int .i64 80)) }) rfl rfl rfl rfl trivial rfl ?_)
          refine rvc_nil ?_
          refine Awp.ret ?_
          subst hR
          exact ⟨.inl rfl, rfl⟩
        ·
          replace hR := of_false h4 hR
          refine Awp.skip ?_
          refine Awp.seq ?_
          refine Awp.cons C (fun _ => .pure) (by kernel_rfl) ?_
          refine rvc_un (rexec_prim C (δ := { v := .ptr 1 1 }) rfl rfl rfl rfl trivial rfl ?_)
          refine rvc_un (rexec_prim C (δ := { v := sS (some c.members.nil) eMember c.members.D }) rfl rfl rfl rfl trivial rfl ?_)
          have h5 : c.members.D[0]? = some c.members.D[0]! := getE (by have := of_decide_eq_false h1; have := of_decide_eq_false h2; have := ne_of_beq_false h3; have := of_decide_eq_false h4; omega)
          refine rvc_un (rexec_idxS C rfl rfl rfl rfl rfl rfl (c.members.D[0]!) (Int.natCast_nonneg _) h5 ?_)
          refine rvc_un (rexec_prim C (δ := { v := .rp [.lit (.bool (c.members.D[0]!.fresh))] }) rfl rfl rfl rfl trivial rfl ?_)
          refine rvc_un (rexec_prim C (δ := { v := .pv (.lit (.bool (c.members.D[0]!.fresh))) }) rfl rfl rfl rfl trivial rfl ?_)
          refine rvc_nil ?_
          refine Awp.cond (b := c.members.D[0]!.fresh) rfl (fun h6 => ?_) (fun h6 => ?_)
          ·
            replace hR := of_true h6 hR
            refine Awp.cons C (fun _ => .pure) (by kernel_rfl) ?_
            refine rvc_un (rexec_prim C (δ := { v := .pv (.lit (.int .i64 80)) }) rfl rfl rfl rfl trivial rfl ?_)
            refine rvc_nil ?_
            refine Awp.ret ?_
            subst hR
            exact ⟨.inl rfl, rfl⟩
          ·
            replace hR := of_false h6 hR
            refine Awp.skip ?_
            refine Awp.seq ?_
            refine Awp.cons C (fun _ => .pure) (by kernel_rfl) ?_
            refine rvc_un (rexec_prim C (δ := { v := .ptr 1 1 }) rfl rfl rfl rfl trivial rfl ?_)
            refine rvc_un (rexec_prim C (δ := { v := sS (some c.members.nil) eMember c.members.D }) rfl rfl rfl rfl trivial rfl ?_)
            refine rvc_un (rexec_prim C (δ := { v := .pv (.lit (.int .i64 (c.members.D.length : Int))) }) rfl rfl rfl rfl trivial rfl ?_)
            refine rvc_un (rexec_prim C (δ := { v := .pv (.lit (.int .i64 0)) }) rfl rfl rfl rfl trivial rfl ?_)
            refine rvc_nil ?_
            refine Awp.block ?_
            refine Awp.forR (σ := Unit) (c.members.D.length) (fun i _v => [(1, .ptr 1 0), (33, sS (some c.members.nil) eMember c.members.D), (34, .pv (.lit (.int .i64 (c.members.D.length : Int)))), (35, .pv (.lit (.int .i64 (i : Int))))]) (fun i _v => [(1, .cells [.pv (.lit (.int .i64 c.epoch)), sS (some c.members.nil) eMember c.members.D])]) [1] (fun i _v => rCheck_l0 c (c.members.D.drop i) i  = R) () ?_ ?_ (fun i _v h7 hR => ?_)
            · exact hR
            · exact ⟨fun b => b, WeakerR.ofL (Ks := [1]) hI ⟨⟨rfl, rfl⟩, ⟨rfl, rfl⟩, ⟨rfl, rfl⟩, ⟨rfl, rfl⟩, trivial⟩ (okH_cons rfl rfl rfl rfl (okH_nil)) rfl⟩
            refine Awp.cons C (fun _ => .pure) (by kernel_rfl) ?_
            refine rvc_un (rexec_prim C (δ := { v := .pv (.lit (.bool (decide ((i : Int) < (c.members.D.length : Int))))) }) rfl rfl rfl rfl trivial rfl ?_)
            refine rvc_nil ?_
            refine Awp.seq ?_
            refine Awp.cond (b := (decide ((i : Int) < (c.members.D.length : Int)))) rfl (fun h8 => ?_) (fun h8 => ?_)
            ·
              have h9 : i < c.members.D.length := by have := of_decide_eq_true h8; omega
              obtain ⟨x, h10⟩ := getX h9
              rw [drop_at h10] at hR
              refine Awp.skip ?_
              refine Awp.seq ?_
              refine Awp.block ?_
              refine Awp.cons C (fun _ => .pure) (by kernel_rfl) ?_
              refine rvc_un (rexec_prim C (δ := { v := .pv (.lit (.int .i64 (i : Int))) }) rfl rfl rfl rfl trivial rfl ?_)
              refine rvc_un (rexec_idxS C rfl rfl rfl rfl rfl rfl x (Int.natCast_nonneg _) h10 ?_)
              refine rvc_un (rexec_prim C (δ := { v := .agg [.pv (.lit (.int .i64 x.node)), .pv (.lit (.int .i64 x.site)), .pv (.lit (.bool x.fresh))] }) rfl rfl rfl rfl trivial rfl ?_)
              refine rvc_un (rexec_prim C (δ := { v := .ptr 4 0, new := [(4, .cells [.pv (.lit (.int .i64 0)), .pv (.lit (.int .i64 0)), .pv (.lit (.bool false))])] }) rfl rfl rfl rfl trivial rfl ?_)
              refine rvc_un (rexec_prim C (δ := { v := .pv (.lit (.int .i64 (i : Int))) }) rfl rfl rfl rfl trivial rfl ?_)
              refine rvc_un (rexec_prim C (δ := { v := .undef, wr := [(4, some (.cells [.pv (.lit (.int .i64 x.node)), .pv (.lit (.int .i64 x.site)), .pv (.lit (.bool x.fresh))]))] }) rfl rfl rfl rfl trivial rfl ?_) -- tNone store
              refine rvc_nil ?_
              refine Awp.seq ?_
              refine Awp.cons C (fun _ => .pure) (by kernel_rfl) ?_
              refine rvc_un (rexec_prim C (δ := { v := .ptr 4 0 }) rfl rfl rfl rfl trivial rfl ?_)
              refine rvc_un (rexec_prim C (δ := { v := .pv (.lit (.int .i64 x.node)) }) rfl rfl rfl rfl trivial rfl ?_)
              refine rvc_un (rexec_prim C (δ := { v := .pv (.lit (.bool (decide (x.node < 0)))) }) rfl rfl rfl rfl trivial rfl ?_)
              refine rvc_un (rexec_prim C (δ := { v := .pv (.lit (.bool (decide (x.node < 0)))) }) rfl rfl rfl rfl trivial rfl ?_)
              refine rvc_case 43 (decide (x.node < 0)) rfl (fun h11 => ?_) (fun h11 => ?_)
              ·
                replace hR := of_true h11 hR
                refine rvc_shut rfl rfl rfl rfl ?_
                refine rvc_shut rfl rfl rfl rfl ?_
                refine rvc_shut rfl rfl rfl rfl ?_
                refine rvc_un (rexec_prim C (δ := { v := .pv (.lit (.bool true)) }) rfl rfl rfl rfl trivial rfl ?_)
                refine rvc_un (rexec_prim C (δ := { v := .pv (.lit (.bool true)) }) rfl rfl rfl rfl trivial rfl ?_)
                refine rvc_shut rfl rfl rfl rfl ?_
                refine rvc_shut rfl rfl rfl rfl ?_
                refine rvc_shut rfl rfl rfl rfl ?_
                refine rvc_un (rexec_prim C (δ := { v := .pv (.lit (.bool true)) }) rfl rfl rfl rfl trivial rfl ?_)
                refine rvc_un (rexec_prim C (δ := { v := .pv (.lit (.bool true)) }) rfl rfl rfl rfl trivial rfl ?_)
                refine rvc_shut rfl rfl rfl rfl ?_
                refine rvc_shut rfl rfl rfl rfl ?_
                refine rvc_shut rfl rfl rfl rfl ?_
                refine rvc_un (rexec_prim C (δ := { v := .pv (.lit (.bool true)) }) rfl rfl rfl rfl trivial rfl ?_)
                refine rvc_nil ?_
                refine Awp.condT (b := true) rfl rfl ?_
                refine Awp.cons C (fun _ => .pure) (by kernel_rfl) ?_
                refine rvc_un (rexec_prim C (δ := { v := .pv (.lit (.int .i64 80)) }) rfl rfl rfl rfl trivial rfl ?_)
                refine rvc_nil ?_
                refine Awp.ret ?_
                subst hR
                exact ⟨.inl rfl, rfl⟩
              ·
                replace hR := of_false h11 hR
                refine rvc_open rfl rfl rfl (rexec_prim C (δ := { v := .ptr 4 0 }) rfl rfl rfl rfl trivial rfl ?_)
                refine rvc_open rfl rfl rfl (rexec_prim C (δ := { v := .pv (.lit (.int .i64 x.node)) }) rfl rfl rfl rfl trivial rfl ?_)
                refine rvc_open rfl rfl rfl (rexec_prim C (δ := { v := .pv (.lit (.bool (decide (x.node > 5)))) }) rfl rfl rfl rfl trivial rfl ?_)
                refine rvc_un (rexec_prim C (δ := { v := .pv (.lit (.bool (decide (x.node > 5)))) }) rfl rfl rfl rfl trivial rfl ?_)
                refine rvc_un (rexec_prim C (δ := { v := .pv (.lit (.bool (decide (x.node > 5)))) }) rfl rfl rfl rfl trivial rfl ?_)
                refine rvc_case 48 (decide (x.node > 5)) rfl (fun h12 => ?_) (fun h12 => ?_)
                ·
                  replace hR := of_true h12 hR
                  refine rvc_shut rfl rfl rfl rfl ?_
                  refine rvc_shut rfl rfl rfl rfl ?_
                  refine rvc_shut rfl rfl rfl rfl ?_
                  refine rvc_un (rexec_prim C (δ := { v := .pv (.lit (.bool true)) }) rfl rfl rfl rfl trivial rfl ?_)
                  refine rvc_un (rexec_prim C (δ := { v := .pv (.lit (.bool true)) }) rfl rfl rfl rfl trivial rfl ?_)
                  refine rvc_shut rfl rfl rfl rfl ?_
                  refine rvc_shut rfl rfl rfl rfl ?_
                  refine rvc_shut rfl rfl rfl rfl ?_
                  refine rvc_un (rexec_prim C (δ := { v := .pv (.lit (.bool true)) }) rfl rfl rfl rfl trivial rfl ?_)
                  refine rvc_nil ?_
                  refine Awp.condT (b := true) rfl rfl ?_
                  refine Awp.cons C (fun _ => .pure) (by kernel_rfl) ?_
                  refine rvc_un (rexec_prim C (δ := { v := .pv (.lit (.int .i64 80)) }) rfl rfl rfl rfl trivial rfl ?_)
                  refine rvc_nil ?_
                  refine Awp.ret ?_
                  subst hR
                  exact ⟨.inl rfl, rfl⟩
                ·
                  replace hR := of_false h12 hR
                  refine rvc_open rfl rfl rfl (rexec_prim C (δ := { v := .ptr 4 1 }) rfl rfl rfl rfl trivial rfl ?_)
                  refine rvc_open rfl rfl rfl (rexec_prim C (δ := { v := .pv (.lit (.int .i64 x.site)) }) rfl rfl rfl rfl trivial rfl ?_)
                  refine rvc_open rfl rfl rfl (rexec_prim C (δ := { v := .pv (.lit (.bool (decide (x.site < 0)))) }) rfl rfl rfl rfl trivial rfl ?_)
                  refine rvc_un (rexec_prim C (δ := { v := .pv (.lit (.bool (decide (x.site < 0)))) }) rfl rfl rfl rfl trivial rfl ?_)
                  refine rvc_un (rexec_prim C (δ := { v := .pv (.lit (.bool (decide (x.site < 0)))) }) rfl rfl rfl rfl trivial rfl ?_)
                  refine rvc_case 53 (decide (x.site < 0)) rfl (fun h13 => ?_) (fun h13 => ?_)
                  ·
                    replace hR := of_true h13 hR
                    refine rvc_shut rfl rfl rfl rfl ?_
                    refine rvc_shut rfl rfl rfl rfl ?_
                    refine rvc_shut rfl rfl rfl rfl ?_
                    refine rvc_un (rexec_prim C (δ := { v := .pv (.lit (.bool true)) }) rfl rfl rfl rfl trivial rfl ?_)
                    refine rvc_nil ?_
                    refine Awp.condT (b := true) rfl rfl ?_
                    refine Awp.cons C (fun _ => .pure) (by kernel_rfl) ?_
                    refine rvc_un (rexec_prim C (δ := { v := .pv (.lit (.int .i64 80)) }) rfl rfl rfl rfl trivial rfl ?_)
                    refine rvc_nil ?_
                    refine Awp.ret ?_
                    subst hR
                    exact ⟨.inl rfl, rfl⟩
                  ·
                    replace hR := of_false h13 hR
                    refine rvc_open rfl rfl rfl (rexec_prim C (δ := { v := .ptr 4 1 }) rfl rfl rfl rfl trivial rfl ?_)
                    refine rvc_open rfl rfl rfl (rexec_prim C (δ := { v := .pv (.lit (.int .i64 x.site)) }) rfl rfl rfl rfl trivial rfl ?_)
                    refine rvc_open rfl rfl rfl (rexec_prim C (δ := { v := .pv (.lit (.bool (decide (x.site > 2)))) }) rfl rfl rfl rfl trivial rfl ?_)
                    refine rvc_un (rexec_prim C (δ := { v := .pv (.lit (.bool (decide (x.site > 2)))) }) rfl rfl rfl rfl trivial rfl ?_)
                    refine rvc_nil ?_
                    refine Awp.cond (b := (decide (x.site > 2))) rfl (fun h14 => ?_) (fun h14 => ?_)
                    ·
                      replace hR := of_true h14 hR
                      refine Awp.cons C (fun _ => .pure) (by kernel_rfl) ?_
                      refine rvc_un (rexec_prim C (δ := { v := .pv (.lit (.int .i64 80)) }) rfl rfl rfl rfl trivial rfl ?_)
                      refine rvc_nil ?_
                      refine Awp.ret ?_
                      subst hR
                      exact ⟨.inl rfl, rfl⟩
                    ·
                      replace hR := of_false h14 hR
                      refine Awp.skip ?_
                      refine Awp.cons C (fun _ => .pure) (by kernel_rfl) ?_
                      refine rvc_un (rexec_prim C (δ := { v := .ptr 1 1 }) rfl rfl rfl rfl trivial rfl ?_)
                      refine rvc_un (rexec_prim C (δ := { v := sS (some c.members.nil) eMember c.members.D }) rfl rfl rfl rfl trivial rfl ?_)
                      refine rvc_un (rexec_prim C (δ := { v := .pv (.lit (.int .i64 (i : Int))) }) rfl rfl rfl rfl trivial rfl ?_)
                      refine rvc_un (rexec_sliceS C (e := eMember) (D := c.members.D) 0 i rfl rfl rfl rfl rfl rfl rfl rfl rfl rfl (by have := of_decide_eq_false h1; have := of_decide_eq_false h2; have := ne_of_beq_false h3; have := of_decide_eq_false h4; have := of_decide_eq_true h8; have := of_decide_eq_false h11; have := of_decide_eq_false h12; have := of_decide_eq_false h13; have := of_decide_eq_false h14; omega) (by have := of_decide_eq_false h1; have := of_decide_eq_false h2; have := ne_of_beq_false h3; have := of_decide_eq_false h4; have := of_decide_eq_true h8; have := of_decide_eq_false h11; have := of_decide_eq_false h12; have := of_decide_eq_false h13; have := of_decide_eq_false h14; omega) (c.members.D.take i) (by simp) ?_)
                      refine rvc_un (rexec_prim C (δ := { v := .pv (.lit (.int .i64 ((c.members.D.take i).length : Int))) }) rfl rfl rfl rfl trivial rfl ?_)
                      refine rvc_un (rexec_prim C (δ := { v := .pv (.lit (.int .i64 0)) }) rfl rfl rfl rfl trivial rfl ?_)
                      refine rvc_nil ?_
                      refine Awp.block ?_
                      refine Awp.forR (σ := Unit) ((c.members.D.take i).length) (fun i1 _v => [(1, .ptr 1 0), (4, .ptr 4 0), (33, sS (some c.members.nil) eMember c.members.D), (34, .pv (.lit (.int .i64 (c.members.D.length : Int)))), (35, .pv (.lit (.int .i64 (i : Int)))), (44, .ptr 4 0), (45, .pv (.lit (.int .i64 x.node))), (46, .pv (.lit (.bool (decide (x.node > 5))))), (49, .ptr 4 1), (50, .pv (.lit (.int .i64 x.site))), (51, .pv (.lit (.bool (decide (x.site < 0))))), (54, .ptr 4 1), (55, .pv (.lit (.int .i64 x.site))), (56, .pv (.lit (.bool (decide (x.site > 2))))), (61, sS (some c.members.nil) eMember (c.members.D.take i)), (62, .pv (.lit (.int .i64 ((c.members.D.take i).length : Int)))), (63, .pv (.lit (.int .i64 (i1 : Int))))]) (fun i1 _v => [(1, .cells [.pv (.lit (.int .i64 c.epoch)), sS (some c.members.nil) eMember c.members.D]), (4, .cells [.pv (.lit (.int .i64 x.node)), .pv (.lit (.int .i64 x.site)), .pv (.lit (.bool x.fresh))])]) [1, 4] (fun i1 _v => rCheck_l1 x (rCheck_l0 c (c.members.D.drop (i + 1)) (i + 1) ) ((c.members.D.take i).drop i1) i1  = R) () ?_ ?_ (fun i1 _v h15 hR => ?_)
                      · exact hR
                      · exact ⟨fun b => b, WeakerR.ofL (Ks := [1, 4]) hI ⟨⟨rfl, rfl⟩, ⟨rfl, rfl⟩, ⟨rfl, rfl⟩, ⟨rfl, rfl⟩, ⟨rfl, rfl⟩, ⟨rfl, rfl⟩, ⟨rfl, rfl⟩, ⟨rfl, rfl⟩, ⟨rfl, rfl⟩, ⟨rfl, rfl⟩, ⟨rfl, rfl⟩, ⟨rfl, rfl⟩, ⟨rfl, rfl⟩, ⟨rfl, rfl⟩, ⟨rfl, rfl⟩, ⟨rfl, rfl⟩, ⟨rfl, rfl⟩, trivial⟩ (okH_cons rfl rfl rfl rfl (okH_cons rfl rfl rfl rfl (okH_nil))) rfl⟩
                      have := List.length_take_le i c.members.D
                      refine Awp.cons C (fun _ => .pure) (by kernel_rfl) ?_
                      refine rvc_un (rexec_prim C (δ := { v := .pv (.lit (.bool (decide ((i1 : Int) < ((c.members.D.take i).length : Int))))) }) rfl rfl rfl rfl trivial rfl ?_)
                      refine rvc_nil ?_
                      refine Awp.seq ?_
                      refine Awp.cond (b := (decide ((i1 : Int) < ((c.members.D.take i).length : Int)))) rfl (fun h16 => ?_) (fun h16 => ?_)
                      ·
                        have h17 : i1 < (c.members.D.take i).length := by have := of_decide_eq_true h16; omega
                        obtain ⟨x1, h18⟩ := getX h17
                        rw [drop_at h18] at hR
                        refine Awp.skip ?_
                        refine Awp.seq ?_
                        refine Awp.block ?_
                        refine Awp.cons C (fun _ => .pure) (by kernel_rfl) ?_
                        refine rvc_un (rexec_idxS C rfl rfl rfl rfl rfl rfl x1 (Int.natCast_nonneg _) h18 ?_)
                        refine rvc_un (rexec_prim C (δ := { v := .agg [.pv (.lit (.int .i64 x1.node)), .pv (.lit (.int .i64 x1.site)), .pv (.lit (.bool x1.fresh))] }) rfl rfl rfl rfl trivial rfl ?_)
                        refine rvc_un (rexec_prim C (δ := { v := .ptr 6 0, new := [(6, .cells [.pv (.lit (.int .i64 0)), .pv (.lit (.int .i64 0)), .pv (.lit (.bool false))])] }) rfl rfl rfl rfl trivial rfl ?_)
                        refine rvc_un (rexec_prim C (δ := { v := .undef, wr := [(6, some (.cells [.pv (.lit (.int .i64 x1.node)), .pv (.lit (.int .i64 x1.site)), .pv (.lit (.bool x1.fresh))]))] }) rfl rfl rfl rfl trivial rfl ?_) -- tNone store
                        refine rvc_nil ?_
                        refine Awp.cons C (fun _ => .pure) (by kernel_rfl) ?_
                        refine rvc_un (rexec_prim C (δ := { v := .ptr 6 0 }) rfl rfl rfl rfl trivial rfl ?_)
                        refine rvc_un (rexec_prim C (δ := { v := .pv (.lit (.int .i64 x1.node)) }) rfl rfl rfl rfl trivial rfl ?_)
                        refine rvc_un (rexec_prim C (δ := { v := .ptr 4 0 }) rfl rfl rfl rfl trivial rfl ?_)
                        refine rvc_un (rexec_prim C (δ := { v := .pv (.lit (.int .i64 x.node)) }) rfl rfl rfl rfl trivial rfl ?_)
                        refine rvc_un (rexec_prim C (δ := { v := .pv (.lit (.bool (x1.node == x.node))) }) rfl rfl rfl rfl trivial rfl ?_)
                        refine rvc_un (rexec_prim C (δ := { v := .pv (.lit (.bool (x1.node == x.node))) }) rfl rfl rfl rfl trivial rfl ?_)
                        refine rvc_case 72 (x1.node == x.node) rfl (fun h19 => ?_) (fun h19 => ?_)
                        ·
                          replace hR := of_true h19 hR
                          refine rvc_shut rfl rfl rfl rfl ?_
                          refine rvc_shut rfl rfl rfl rfl ?_
                          refine rvc_shut rfl rfl rfl rfl ?_
                          refine rvc_shut rfl rfl rfl rfl ?_
                          refine rvc_shut rfl rfl rfl rfl ?_
                          refine rvc_un (rexec_prim C (δ := { v := .pv (.lit (.bool true)) }) rfl rfl rfl rfl trivial rfl ?_)
                          refine rvc_nil ?_
                          refine Awp.condT (b := true) rfl rfl ?_
                          refine Awp.cons C (fun _ => .pure) (by kernel_rfl) ?_
                          refine rvc_un (rexec_prim C (δ := { v := .pv (.lit (.int .i64 80)) }) rfl rfl rfl rfl trivial rfl ?_)
                          refine rvc_nil ?_
                          refine Awp.ret ?_
                          subst hR
                          exact ⟨.inl rfl, rfl⟩
                        ·
                          replace hR := of_false h19 hR
                          refine rvc_open rfl rfl rfl (rexec_prim C (δ := { v := .ptr 6 1 }) rfl rfl rfl rfl trivial rfl ?_)
                          refine rvc_open rfl rfl rfl (rexec_prim C (δ := { v := .pv (.lit (.int .i64 x1.site)) }) rfl rfl rfl rfl trivial rfl ?_)
                          refine rvc_open rfl rfl rfl (rexec_prim C (δ := { v := .ptr 4 1 }) rfl rfl rfl rfl trivial rfl ?_)
                          refine rvc_open rfl rfl rfl (rexec_prim C (δ := { v := .pv (.lit (.int .i64 x.site)) }) rfl rfl rfl rfl trivial rfl ?_)
                          refine rvc_open rfl rfl rfl (rexec_prim C (δ := { v := .pv (.lit (.bool (decide (x1.site > x.site)))) }) rfl rfl rfl rfl trivial rfl ?_)
                          refine rvc_un (rexec_prim C (δ := { v := .pv (.lit (.bool (decide (x1.site > x.site)))) }) rfl rfl rfl rfl trivial rfl ?_)
                          refine rvc_nil ?_
                          refine Awp.cond (b := (decide (x1.site > x.site))) rfl (fun h20 => ?_) (fun h20 => ?_)
                          ·
                            replace hR := of_true h20 hR
                            refine Awp.cons C (fun _ => .pure) (by kernel_rfl) ?_
                            refine rvc_un (rexec_prim C (δ := { v := .pv (.lit (.int .i64 80)) }) rfl rfl rfl rfl trivial rfl ?_)
                            refine rvc_nil ?_
                            refine Awp.ret ?_
                            subst hR
                            exact ⟨.inl rfl, rfl⟩
                          ·
                            replace hR := of_false h20 hR
                            refine Awp.skip ?_
                            refine Awp.region C (fun _ => .pure) (by kernel_rfl) ?_
                            refine rvc_un (rexec_prim C (δ := { v := .pv (.lit (.int .i64 (IntKind.i64.wrap ((i1 : Int) + 1)))) }) rfl rfl rfl rfl trivial rfl ?_)
                            refine rvc_un (rexec_prim C (δ := { v := .pv (.lit (.int .i64 (IntKind.i64.wrap ((i1 : Int) + 1)))) }) rfl rfl rfl rfl trivial rfl ?_)
                            refine rvc_nil ?_
                            refine ⟨h17, (), ?_, ?_⟩
                            · exact hR
                            · exact ⟨fun b => b, WeakerR.ofL (Ks := [1, 4]) hI ⟨⟨rfl, rfl⟩, ⟨rfl, rfl⟩, ⟨rfl, rfl⟩, ⟨rfl, rfl⟩, ⟨rfl, rfl⟩, ⟨rfl, rfl⟩, ⟨rfl, rfl⟩, ⟨rfl, rfl⟩, ⟨rfl, rfl⟩, ⟨rfl, rfl⟩, ⟨rfl, rfl⟩, ⟨rfl, rfl⟩, ⟨rfl, rfl⟩, ⟨rfl, rfl⟩, ⟨rfl, rfl⟩, ⟨rfl, rfl⟩, ⟨lit_cast (wrap_i64 (by omega) (by omega)), rfl⟩, trivial⟩ (okH_cons rfl rfl rfl rfl (okH_cons rfl rfl rfl rfl (okH_nil))) rfl⟩
                      ·
                        have h17 : ¬ i1 < (c.members.D.take i).length := by have := of_decide_eq_false h16; omega
                        rw [drop_end h17] at hR
                        refine Awp.exit ?_
                        refine Awp.region C (fun _ => .pure) (by kernel_rfl) ?_
                        refine rvc_un (rexec_prim C (δ := { v := .pv (.lit (.int .i64 (IntKind.i64.wrap ((i : Int) + 1)))) }) rfl rfl rfl rfl trivial rfl ?_)
                        refine rvc_un (rexec_prim C (δ := { v := .pv (.lit (.int .i64 (IntKind.i64.wrap ((i : Int) + 1)))) }) rfl rfl rfl rfl trivial rfl ?_)
                        refine rvc_nil ?_
                        refine ⟨h9, (), ?_, ?_⟩
                        · exact hR
                        · exact ⟨fun b => b, WeakerR.ofL (Ks := [1]) hI ⟨⟨rfl, rfl⟩, ⟨rfl, rfl⟩, ⟨rfl, rfl⟩, ⟨lit_cast (wrap_i64 (by omega) (by omega)), rfl⟩, trivial⟩ (okH_cons rfl rfl rfl rfl (okH_nil)) rfl⟩
            ·
              have h9 : ¬ i < c.members.D.length := by have := of_decide_eq_false h8; omega
              rw [drop_end h9] at hR
              refine Awp.exit ?_
              refine Awp.cons C (fun _ => .pure) (by kernel_rfl) ?_
              refine rvc_un (rexec_prim C (δ := { v := .pv (.lit (.int .i64 0)) }) rfl rfl rfl rfl trivial rfl ?_)
              refine rvc_nil ?_
              refine Awp.ret ?_
              subst hR
              exact ⟨.inl rfl, rfl⟩

def rSame_l0 (b : Chain) : List Member → Nat → Bool
  | [], _ => true
  | x :: xs, i => (bif (!((x.node == (b.members.D[(i : Int).toNat]!.node)) && ((x.site == (b.members.D[(i : Int).toNat]!.site)) && ((x.fresh == (b.members.D[(i : Int).toNat]!.fresh)) && true)))) then false else rSame_l0 b xs (i + 1) )
def rSame (a : Chain) (b : Chain) : Bool :=
  (bif (a.epoch != b.epoch) then false else (bif ((a.members.D.length : Int) != (b.members.D.length : Int)) then false else rSame_l0 b a.members.D 0 ))
theorem rSame_calls (a : Chain) (b : Chain) (hl1 : a.members.D.length ≤ 9223372036854775807) : PCalls Try.prog 14 [.agg [.pv (.lit (.int .i64 a.epoch)), sS (some a.members.nil) eMember a.members.D], .agg [.pv (.lit (.int .i64 b.epoch)), sS (some b.members.nil) eMember b.members.D]] (.pv (.lit (.bool (rSame a b)))) := by
  generalize hR : rSame a b = R
  refine PCalls.of_body tabOk Try.func14 rfl rfl rfl rfl rfl mixed fun E hP C hI => ?_
  refine Awp.cons C (fun _ => .pure) (by kernel_rfl) ?_
  refine rvc_un (rexec_prim C (δ := { v := .ptr 2 0, new := [(2, .cells [.pv (.lit (.int .i64 a.epoch)), sS (some a.members.nil) eMember a.members.D])] }) rfl rfl rfl rfl trivial rfl ?_)
  refine rvc_un (rexec_prim C (δ := { v := .ptr 3 0, new := [(3, .cells [.pv (.lit (.int .i64 b.epoch)), sS (some b.members.nil) eMember b.members.D])] }) rfl rfl rfl rfl trivial rfl ?_)
  refine rvc_un (rexec_prim C (δ := { v := .pv (.lit (.bool false)) }) rfl rfl rfl rfl trivial rfl ?_)
  refine rvc_nil ?_
  refine Awp.seq ?_
  refine Awp.cons C (fun _ => .pure) (by kernel_rfl) ?_
  refine rvc_un (rexec_prim C (δ := { v := .ptr 2 0 }) rfl rfl rfl rfl trivial rfl ?_)
  refine rvc_un (rexec_prim C (δ := { v := .pv (.lit (.int .i64 a.epoch)) }) rfl rfl rfl rfl trivial rfl ?_)
  refine rvc_un (rexec_prim C (δ := { v := .ptr 3 0 }) rfl rfl rfl rfl trivial rfl ?_)
  refine rvc_un (rexec_prim C (δ := { v := .pv (.lit (.int .i64 b.epoch)) }) rfl rfl rfl rfl trivial rfl ?_)
  refine rvc_un (rexec_prim C (δ := { v := .pv (.lit (.bool (a.epoch != b.epoch))) }) rfl rfl rfl rfl trivial rfl ?_)
  refine rvc_un (rexec_prim C (δ := { v := .pv (.lit (.bool (a.epoch != b.epoch))) }) rfl rfl rfl rfl trivial rfl ?_)
  refine rvc_case 11 (a.epoch != b.epoch) rfl (fun h1 => ?_) (fun h1 => ?_)
  ·
    replace hR := of_true h1 hR
    refine rvc_shut rfl rfl rfl rfl ?_
    refine rvc_shut rfl rfl rfl rfl ?_
    refine rvc_shut rfl rfl rfl rfl ?_
    refine rvc_shut rfl rfl rfl rfl ?_
    refine rvc_shut rfl rfl rfl rfl ?_
    refine rvc_shut rfl rfl rfl rfl ?_
    refine rvc_shut rfl rfl rfl rfl ?_
    refine rvc_un (rexec_prim C (δ := { v := .pv (.lit (.bool true)) }) rfl rfl rfl rfl trivial rfl ?_)
    refine rvc_nil ?_
    refine Awp.condT (b := true) rfl rfl ?_
    refine Awp.cons C (fun _ => .pure) (by kernel_rfl) ?_
    refine rvc_un (rexec_prim C (δ := { v := .pv (.lit (.bool false)) }) rfl rfl rfl rfl trivial rfl ?_)
    refine rvc_nil ?_
    refine Awp.ret ?_
    subst hR
    exact ⟨.inl rfl, rfl⟩
  ·
    replace hR := of_false h1 hR
    refine rvc_open rfl rfl rfl (rexec_prim C (δ := { v := .ptr 2 1 }) rfl rfl rfl rfl trivial rfl ?_)
    refine rvc_open rfl rfl rfl (rexec_prim C (δ := { v := sS (some a.members.nil) eMember a.members.D }) rfl rfl rfl rfl trivial rfl ?_)
    refine rvc_open rfl rfl rfl (rexec_prim C (δ := { v := .pv (.lit (.int .i64 (a.members.D.length : Int))) }) rfl rfl rfl rfl trivial rfl ?_)
    refine rvc_open rfl rfl rfl (rexec_prim C (δ := { v := .ptr 3 1 }) rfl rfl rfl rfl trivial rfl ?_)
    refine rvc_open rfl rfl rfl (rexec_prim C (δ := { v := sS (some b.members.nil) eMember b.members.D }) rfl rfl rfl rfl trivial rfl ?_)
    refine rvc_open rfl rfl rfl (rexec_prim C (δ := { v := .pv (.lit (.int .i64 (b.members.D.length : Int))) }) rfl rfl rfl rfl trivial rfl ?_)
    refine rvc_open rfl rfl rfl (rexec_prim C (δ := { v := .pv (.lit (.bool ((a.members.D.length : Int) != (b.members.D.length : Int)))) }) rfl rfl rfl rfl trivial rfl ?_)
    refine rvc_un (rexec_prim C (δ := { v := .pv (.lit (.bool ((a.members.D.length : Int) != (b.members.D.length : Int)))) }) rfl rfl rfl rfl trivial rfl ?_)
    refine rvc_nil ?_
    refine Awp.cond (b := ((a.members.D.length : Int) != (b.members.D.length : Int))) rfl (fun h2 => ?_) (fun h2 => ?_)
    ·
      replace hR := of_true h2 hR
      refine Awp.cons C (fun _ => .pure) (by kernel_rfl) ?_
      refine rvc_un (rexec_prim C (δ := { v := .pv (.lit (.bool false)) }) rfl rfl rfl rfl trivial rfl ?_)
      refine rvc_nil ?_
      refine Awp.ret ?_
      subst hR
      exact ⟨.inl rfl, rfl⟩
    ·
      replace hR := of_false h2 hR
      refine Awp.skip ?_
      refine Awp.seq ?_
      refine Awp.cons C (fun _ => .pure) (by kernel_rfl) ?_
      refine rvc_un (rexec_prim C (δ := { v := .ptr 2 1 }) rfl rfl rfl rfl trivial rfl ?_)
      refine rvc_un (rexec_prim C (δ := { v := sS (some a.members.nil) eMember a.members.D }) rfl rfl rfl rfl trivial rfl ?_)
      refine rvc_un (rexec_prim C (δ := { v := .pv (.lit (.int .i64 (a.members.D.length : Int))) }) rfl rfl rfl rfl trivial rfl ?_)
      refine rvc_un (rexec_prim C (δ := { v := .pv (.lit (.int .i64 0)) }) rfl rfl rfl rfl trivial rfl ?_)
      refine rvc_nil ?_
      refine Awp.block ?_
      refine Awp.forR (σ := Unit) (a.members.D.length) (fun i _v => [(2, .ptr 2 0), (3, .ptr 3 0), (22, .pv (.lit (.int .i64 (a.members.D.length : Int)))), (23, .pv (.lit (.int .i64 (i : Int))))]) (fun i _v => [(2, .cells [.pv (.lit (.int .i64 a.epoch)), sS (some a.members.nil) eMember a.members.D]), (3, .cells [.pv (.lit (.int .i64 b.epoch)), sS (some b.members.nil) eMember b.members.D])]) [2, 3] (fun i _v => rSame_l0 b (a.members.D.drop i) i  = R) () ?_ ?_ (fun i _v h3 hR => ?_)
      · exact hR
      · exact ⟨fun b => b, WeakerR.ofL (Ks := [2, 3]) hI ⟨⟨rfl, rfl⟩, ⟨rfl, rfl⟩, ⟨rfl, rfl⟩, ⟨rfl, rfl⟩, trivial⟩ (okH_cons rfl rfl rfl rfl (okH_cons rfl rfl rfl rfl (okH_nil))) rfl⟩
      refine Awp.cons C (fun _ => .pure) (by kernel_rfl) ?_
      refine rvc_un (rexec_prim C (δ := { v := .pv (.lit (.bool (decide ((i : Int) < (a.members.D.length : Int))))) }) rfl rfl rfl rfl trivial rfl ?_)
      refine rvc_nil ?_
      refine Awp.seq ?_
      refine Awp.cond (b := (decide ((i : Int) < (a.members.D.length : Int)))) rfl (fun h4 => ?_) (fun h4 => ?_)
      ·
        have h5 : i < a.members.D.length := by have := of_decide_eq_true h4; omega
        obtain ⟨x, h6⟩ := getX h5
        rw [drop_at h6] at hR
        refine Awp.skip ?_
        refine Awp.seq ?_
        refine Awp.block ?_
        refine Awp.cons C (fun _ => .pure) (by kernel_rfl) ?_
        refine rvc_un (rexec_prim C (δ := { v := .pv (.lit (.int .i64 (i : Int))) }) rfl rfl rfl rfl trivial rfl ?_)
        refine rvc_un (rexec_prim C (δ := { v := .pv (.lit (.int .i64 (i : Int))) }) rfl rfl rfl rfl trivial rfl ?_)
        refine rvc_nil ?_
        refine Awp.cons C (fun _ => .pure) (by kernel_rfl) ?_
        refine rvc_un (rexec_prim C (δ := { v := .ptr 2 1 }) rfl rfl rfl rfl trivial rfl ?_)
        refine rvc_un (rexec_prim C (δ := { v := sS (some a.members.nil) eMember a.members.D }) rfl rfl rfl rfl trivial rfl ?_)
        refine rvc_un (rexec_prim C (δ := { v := .pv (.lit (.int .i64 (i : Int))) }) rfl rfl rfl rfl trivial rfl ?_)
        refine rvc_un (rexec_idxS C rfl rfl rfl rfl rfl rfl x (Int.natCast_nonneg _) h6 ?_)
        refine rvc_un (rexec_prim C (δ := { v := .agg [.pv (.lit (.int .i64 x.node)), .pv (.lit (.int .i64 x.site)), .pv (.lit (.bool x.fresh))] }) rfl rfl rfl rfl trivial rfl ?_)
        refine rvc_un (rexec_prim C (δ := { v := .ptr 3 1 }) rfl rfl rfl rfl trivial rfl ?_)
        refine rvc_un (rexec_prim C (δ := { v := sS (some b.members.nil) eMember b.members.D }) rfl rfl rfl rfl trivial rfl ?_)
        refine rvc_un (rexec_prim C (δ := { v := .pv (.lit (.int .i64 (i : Int))) }) rfl rfl rfl rfl trivial rfl ?_)
        have h7 : b.members.D[(i : Int).toNat]? = some b.members.D[(i : Int).toNat]! := getE (by have := eq_of_bne_false h1; have := eq_of_bne_false h2; have := of_decide_eq_true h4; omega)
        refine rvc_un (rexec_idxS C rfl rfl rfl rfl rfl rfl (b.members.D[(i : Int).toNat]!) (Int.natCast_nonneg _) h7 ?_)
        refine rvc_un (rexec_prim C (δ := { v := .agg [.pv (.lit (.int .i64 (b.members.D[(i : Int).toNat]!.node))), .pv (.lit (.int .i64 (b.members.D[(i : Int).toNat]!.site))), .pv (.lit (.bool (b.members.D[(i : Int).toNat]!.fresh)))] }) rfl rfl rfl rfl trivial rfl ?_)
        refine rvc_un (rexec_prim C (δ := { v := .pv (.lit (.bool (!((x.node == (b.members.D[(i : Int).toNat]!.node)) && ((x.site == (b.members.D[(i : Int).toNat]!.site)) && ((x.fresh == (b.members.D[(i : Int).toNat]!.fresh)) && true)))))) }) rfl rfl rfl rfl trivial rfl ?_)
        refine rvc_nil ?_
        refine Awp.cond (b := (!((x.node == (b.members.D[(i : Int).toNat]!.node)) && ((x.site == (b.members.D[(i : Int).toNat]!.site)) && ((x.fresh == (b.members.D[(i : Int).toNat]!.fresh)) && true))))) rfl (fun h8 => ?_) (fun h8 => ?_)
        ·
          replace hR := of_true h8 hR
          refine Awp.cons C (fun _ => .pure) (by kernel_rfl) ?_
          refine rvc_un (rexec_prim C (δ := { v := .pv (.lit (.bool false)) }) rfl rfl rfl rfl trivial rfl ?_)
          refine rvc_nil ?_
          refine Awp.ret ?_
          subst hR
          exact ⟨.inl rfl, rfl⟩
        ·
          replace hR := of_false h8 hR
          refine Awp.skip ?_
          refine Awp.region C (fun _ => .pure) (by kernel_rfl) ?_
          refine rvc_un (rexec_prim C (δ := { v := .pv (.lit (.int .i64 (IntKind.i64.wrap ((i : Int) + 1)))) }) rfl rfl rfl rfl trivial rfl ?_)
          refine rvc_un (rexec_prim C (δ := { v := .pv (.lit (.int .i64 (IntKind.i64.wrap ((i : Int) + 1)))) }) rfl rfl rfl rfl trivial rfl ?_)
          refine rvc_nil ?_
          refine ⟨h5, (), ?_, ?_⟩
          · exact hR
          · exact ⟨fun b => b, WeakerR.ofL (Ks := [2, 3]) hI ⟨⟨rfl, rfl⟩, ⟨rfl, rfl⟩, ⟨rfl, rfl⟩, ⟨lit_cast (wrap_i64 (by omega) (by omega)), rfl⟩, trivial⟩ (okH_cons rfl rfl rfl rfl (okH_cons rfl rfl rfl rfl (okH_nil))) rfl⟩
      ·
        have h5 : ¬ i < a.members.D.length := by have := of_decide_eq_false h4; omega
        rw [drop_end h5] at hR
        refine Awp.exit ?_
        refine Awp.cons C (fun _ => .pure) (by kernel_rfl) ?_
        refine rvc_un (rexec_prim C (δ := { v := .pv (.lit (.bool true)) }) rfl rfl rfl rfl trivial rfl ?_)
        refine rvc_nil ?_
        refine Awp.ret ?_
        subst hR
        exact ⟨.inl rfl, rfl⟩

def cloneMembers (s : (Sl Member)) : (Sl Member) :=
  (bif s.nil then (Sl.mk true []) else (Sl.mk false s.D))
theorem cloneMembers_calls (s : (Sl Member)) (hl1 : s.D.length ≤ 1000000) : PCalls Try.prog 29 [sS (some s.nil) eMember s.D] (sS (some (cloneMembers s).nil) eMember ((cloneMembers s).D)) := by
  generalize hR : cloneMembers s = R
  refine PCalls.of_body tabOk Try.func29 rfl rfl rfl rfl rfl mixed fun E hP C hI => ?_
  refine Awp.cons C (fun _ => .pure) (by kernel_rfl) ?_
  refine rvc_un (rexec_prim C (δ := { v := sS (some true) eMember [] }) rfl rfl rfl rfl trivial rfl ?_)
  refine rvc_nil ?_
  refine Awp.seq ?_
  refine Awp.cons C (fun _ => .pure) (by kernel_rfl) ?_
  refine rvc_un (rexec_prim C (δ := { v := sS (some s.nil) eMember s.D }) rfl rfl rfl rfl trivial rfl ?_)
  refine rvc_un (rexec_eqNil C (f := s.nil) rfl rfl rfl rfl ?_)
  refine rvc_nil ?_
  refine Awp.cond (b := s.nil) rfl (fun h1 => ?_) (fun h1 => ?_)
  ·
    replace hR := of_true h1 hR
    refine Awp.cons C (fun _ => .pure) (by kernel_rfl) ?_
    refine rvc_un (rexec_prim C (δ := { v := sS (some true) eMember [] }) rfl rfl rfl rfl trivial rfl ?_)
    refine rvc_nil ?_
    refine Awp.ret ?_
    subst hR
    exact ⟨.inl rfl, rfl⟩
  ·
    replace hR := of_false h1 hR
    refine Awp.skip ?_
    refine Awp.cons C (fun _ => .pure) (by kernel_rfl) ?_
    refine rvc_un (rexec_prim C (δ := { v := .sl 5 0 0 3 true, new := [(5, .cells (encC eMember []))] }) rfl rfl rfl rfl trivial rfl ?_)
    refine rvc_un (rexec_prim C (δ := { v := sS (some s.nil) eMember s.D }) rfl rfl rfl rfl trivial rfl ?_)
    refine rvc_un (rexec_append C rfl rfl rfl rfl rfl rfl rfl rfl (fun _ h => by cases h) rfl (en := eMember) (D0 := []) (D := s.D) rfl rfl rfl rfl (by first | omega | (simp <;> omega)) (by decide) (nn := s.D.length) (by simp) ?_)
    refine rvc_un (rexec_prim C (δ := { v := .sl 7 0 s.D.length 3 false }) rfl rfl rfl rfl trivial rfl ?_)
    refine rvc_nil ?_
    refine Awp.freezeW 7 (encL eMember s.D) ?_ [(2, sS (some false) eMember s.D)] [] ?_ ?_ ?_
    · rfl
    · exact ⟨⟨_, rfl, .inl (.inr ⟨_, _, _, rfl, rfl⟩)⟩, trivial⟩
    · exact trivial
    refine Awp.ret ?_
    subst hR
    exact ⟨.inl rfl, rfl⟩

def nodes_l0 : List Member → Nat → Int → Int
  | [], _, s => s
  | x :: xs, i, s => nodes_l0 xs (i + 1) (mWith s x.node)
def nodes (c : Chain) : Int :=
  nodes_l0 c.members.D 0 0
theorem nodes_calls (c : Chain) (hl1 : c.members.D.length ≤ 9223372036854775807) : PCalls Try.prog 23 [.agg [.pv (.lit (.int .i64 c.epoch)), sS (some c.members.nil) eMember c.members.D]] (.pv (.lit (.int .u64 (nodes c)))) := by
  generalize hR : nodes c = R
  refine PCalls.of_body tabOk Try.func23 rfl rfl rfl rfl rfl mixed fun E hP C hI => ?_
  refine Awp.cons C (fun _ => .pure) (by kernel_rfl) ?_
  refine rvc_un (rexec_prim C (δ := { v := .ptr 1 0, new := [(1, .cells [.pv (.lit (.int .i64 c.epoch)), sS (some c.members.nil) eMember c.members.D])] }) rfl rfl rfl rfl trivial rfl ?_)
  refine rvc_un (rexec_prim C (δ := { v := .pv (.lit (.int .u64 0)) }) rfl rfl rfl rfl trivial rfl ?_)
  refine rvc_nil ?_
  refine Awp.cons C (fun _ => .pure) (by kernel_rfl) ?_
  refine rvc_un (rexec_prim C (δ := { v := .pv (.lit (.int .u64 0)) }) rfl rfl rfl rfl trivial rfl ?_)
  refine rvc_nil ?_
  refine Awp.seq ?_
  refine Awp.cons C (fun _ => .pure) (by kernel_rfl) ?_
  refine rvc_un (rexec_prim C (δ := { v := .ptr 1 1 }) rfl rfl rfl rfl trivial rfl ?_)
  refine rvc_un (rexec_prim C (δ := { v := sS (some c.members.nil) eMember c.members.D }) rfl rfl rfl rfl trivial rfl ?_)
  refine rvc_un (rexec_prim C (δ := { v := .pv (.lit (.int .i64 (c.members.D.length : Int))) }) rfl rfl rfl rfl trivial rfl ?_)
  refine rvc_un (rexec_prim C (δ := { v := .pv (.lit (.int .i64 0)) }) rfl rfl rfl rfl trivial rfl ?_)
  refine rvc_nil ?_
  refine Awp.block ?_
  refine Awp.forR (σ := Int) (c.members.D.length) (fun i v => [(3, .pv (.lit (.int .u64 v))), (7, sS (some c.members.nil) eMember c.members.D), (8, .pv (.lit (.int .i64 (c.members.D.length : Int)))), (9, .pv (.lit (.int .i64 (i : Int))))]) (fun i v => []) [] (fun i v => nodes_l0 (c.members.D.drop i) i v = R) 0 ?_ ?_ (fun i s h1 hR => ?_)
  · exact hR
  · exact ⟨fun b => b, WeakerR.ofL (Ks := []) hI ⟨⟨rfl, rfl⟩, ⟨rfl, rfl⟩, ⟨rfl, rfl⟩, ⟨rfl, rfl⟩, trivial⟩ (okH_nil) rfl⟩
  refine Awp.cons C (fun _ => .pure) (by kernel_rfl) ?_
  refine rvc_un (rexec_prim C (δ := { v := .pv (.lit (.bool (decide ((i : Int) < (c.members.D.length : Int))))) }) rfl rfl rfl rfl trivial rfl ?_)
  refine rvc_nil ?_
  refine Awp.seq ?_
  refine Awp.cond (b := (decide ((i : Int) < (c.members.D.length : Int)))) rfl (fun h2 => ?_) (fun h2 => ?_)
  ·
    have h3 : i < c.members.D.length := by have := of_decide_eq_true h2; omega
    obtain ⟨x, h4⟩ := getX h3
    rw [drop_at h4] at hR
    refine Awp.skip ?_
    refine Awp.seq ?_
    refine Awp.block ?_
    refine Awp.cons C (fun _ => .pure) (by kernel_rfl) ?_
    refine rvc_un (rexec_idxS C rfl rfl rfl rfl rfl rfl x (Int.natCast_nonneg _) h4 ?_)
    refine rvc_un (rexec_prim C (δ := { v := .agg [.pv (.lit (.int .i64 x.node)), .pv (.lit (.int .i64 x.site)), .pv (.lit (.bool x.fresh))] }) rfl rfl rfl rfl trivial rfl ?_)
    refine rvc_un (rexec_prim C (δ := { v := .ptr 5 0, new := [(5, .cells [.pv (.lit (.int .i64 0)), .pv (.lit (.int .i64 0)), .pv (.lit (.bool false))])] }) rfl rfl rfl rfl trivial rfl ?_)
    refine rvc_un (rexec_prim C (δ := { v := .undef, wr := [(5, some (.cells [.pv (.lit (.int .i64 x.node)), .pv (.lit (.int .i64 x.site)), .pv (.lit (.bool x.fresh))]))] }) rfl rfl rfl rfl trivial rfl ?_) -- tNone store
    refine rvc_nil ?_
    refine Awp.region C (fun _ => .pure) (by kernel_rfl) ?_
    refine rvc_un (rexec_prim C (δ := { v := .pv (.lit (.int .u64 s)) }) rfl rfl rfl rfl trivial rfl ?_)
    refine rvc_un (rexec_prim C (δ := { v := .ptr 5 0 }) rfl rfl rfl rfl trivial rfl ?_)
    refine rvc_un (rexec_prim C (δ := { v := .pv (.lit (.int .i64 x.node)) }) rfl rfl rfl rfl trivial rfl ?_)
    refine rvc_un (rexec_call hP C rfl rfl rfl (mWith_calls s x.node) ?_)
    refine rvc_un (rexec_prim C (δ := { v := .pv (.lit (.int .u64 (mWith s x.node))) }) rfl rfl rfl rfl trivial rfl ?_)
    refine rvc_nil ?_
    refine Awp.region C (fun _ => .pure) (by kernel_rfl) ?_
    refine rvc_un (rexec_prim C (δ := { v := .pv (.lit (.int .i64 (IntKind.i64.wrap ((i : Int) + 1)))) }) rfl rfl rfl rfl trivial rfl ?_)
    refine rvc_un (rexec_prim C (δ := { v := .pv (.lit (.int .i64 (IntKind.i64.wrap ((i : Int) + 1)))) }) rfl rfl rfl rfl trivial rfl ?_)
    refine rvc_nil ?_
    refine ⟨h3, (mWith s x.node), ?_, ?_⟩
    · exact hR
    · exact ⟨fun b => b, WeakerR.ofL (Ks := []) hI ⟨⟨rfl, rfl⟩, ⟨rfl, rfl⟩, ⟨rfl, rfl⟩, ⟨lit_cast (wrap_i64 (by omega) (by omega)), rfl⟩, trivial⟩ (okH_nil) rfl⟩
  ·
    have h3 : ¬ i < c.members.D.length := by have := of_decide_eq_false h2; omega
    rw [drop_end h3] at hR
    refine Awp.exit ?_
    refine Awp.cons C (fun _ => .pure) (by kernel_rfl) ?_
    refine rvc_un (rexec_prim C (δ := { v := .pv (.lit (.int .u64 s)) }) rfl rfl rfl rfl trivial rfl ?_)
    refine rvc_un (rexec_prim C (δ := { v := .pv (.lit (.int .u64 s)) }) rfl rfl rfl rfl trivial rfl ?_)
    refine rvc_nil ?_
    refine Awp.ret ?_
    subst hR
    exact ⟨.inl rfl, rfl⟩

def whole_l0 : List Member → Nat → Int → Int
  | [], _, s => s
  | x :: xs, i, s => (bif (!x.fresh) then whole_l0 xs (i + 1) (mWith s x.node) else whole_l0 xs (i + 1) s)
def whole (c : Chain) : Int :=
  whole_l0 c.members.D 0 0
theorem whole_calls (c : Chain) (hl1 : c.members.D.length ≤ 9223372036854775807) : PCalls Try.prog 25 [.agg [.pv (.lit (.int .i64 c.epoch)), sS (some c.members.nil) eMember c.members.D]] (.pv (.lit (.int .u64 (whole c)))) := by
  generalize hR : whole c = R
  refine PCalls.of_body tabOk Try.func25 rfl rfl rfl rfl rfl mixed fun E hP C hI => ?_
  refine Awp.cons C (fun _ => .pure) (by kernel_rfl) ?_
  refine rvc_un (rexec_prim C (δ := { v := .ptr 1 0, new := [(1, .cells [.pv (.lit (.int .i64 c.epoch)), sS (some c.members.nil) eMember c.members.D])] }) rfl rfl rfl rfl trivial rfl ?_)
  refine rvc_un (rexec_prim C (δ := { v := .pv (.lit (.int .u64 0)) }) rfl rfl rfl rfl trivial rfl ?_)
  refine rvc_nil ?_
  refine Awp.cons C (fun _ => .pure) (by kernel_rfl) ?_
  refine rvc_un (rexec_prim C (δ := { v := .pv (.lit (.int .u64 0)) }) rfl rfl rfl rfl trivial rfl ?_)
  refine rvc_nil ?_
  refine Awp.seq ?_
  refine Awp.cons C (fun _ => .pure) (by kernel_rfl) ?_
  refine rvc_un (rexec_prim C (δ := { v := .ptr 1 1 }) rfl rfl rfl rfl trivial rfl ?_)
  refine rvc_un (rexec_prim C (δ := { v := sS (some c.members.nil) eMember c.members.D }) rfl rfl rfl rfl trivial rfl ?_)
  refine rvc_un (rexec_prim C (δ := { v := .pv (.lit (.int .i64 (c.members.D.length : Int))) }) rfl rfl rfl rfl trivial rfl ?_)
  refine rvc_un (rexec_prim C (δ := { v := .pv (.lit (.int .i64 0)) }) rfl rfl rfl rfl trivial rfl ?_)
  refine rvc_nil ?_
  refine Awp.block ?_
  refine Awp.forR (σ := Int) (c.members.D.length) (fun i v => [(3, .pv (.lit (.int .u64 v))), (7, sS (some c.members.nil) eMember c.members.D), (8, .pv (.lit (.int .i64 (c.members.D.length : Int)))), (9, .pv (.lit (.int .i64 (i : Int))))]) (fun i v => []) [] (fun i v => whole_l0 (c.members.D.drop i) i v = R) 0 ?_ ?_ (fun i s h1 hR => ?_)
  · exact hR
  · exact ⟨fun b => b, WeakerR.ofL (Ks := []) hI ⟨⟨rfl, rfl⟩, ⟨rfl, rfl⟩, ⟨rfl, rfl⟩, ⟨rfl, rfl⟩, trivial⟩ (okH_nil) rfl⟩
  refine Awp.cons C (fun _ => .pure) (by kernel_rfl) ?_
  refine rvc_un (rexec_prim C (δ := { v := .pv (.lit (.bool (decide ((i : Int) < (c.members.D.length : Int))))) }) rfl rfl rfl rfl trivial rfl ?_)
  refine rvc_nil ?_
  refine Awp.seq ?_
  refine Awp.cond (b := (decide ((i : Int) < (c.members.D.length : Int)))) rfl (fun h2 => ?_) (fun h2 => ?_)
  ·
    have h3 : i < c.members.D.length := by have := of_decide_eq_true h2; omega
    obtain ⟨x, h4⟩ := getX h3
    rw [drop_at h4] at hR
    refine Awp.skip ?_
    refine Awp.seq ?_
    refine Awp.block ?_
    refine Awp.cons C (fun _ => .pure) (by kernel_rfl) ?_
    refine rvc_un (rexec_idxS C rfl rfl rfl rfl rfl rfl x (Int.natCast_nonneg _) h4 ?_)
    refine rvc_un (rexec_prim C (δ := { v := .agg [.pv (.lit (.int .i64 x.node)), .pv (.lit (.int .i64 x.site)), .pv (.lit (.bool x.fresh))] }) rfl rfl rfl rfl trivial rfl ?_)
    refine rvc_un (rexec_prim C (δ := { v := .ptr 5 0, new := [(5, .cells [.pv (.lit (.int .i64 0)), .pv (.lit (.int .i64 0)), .pv (.lit (.bool false))])] }) rfl rfl rfl rfl trivial rfl ?_)
    refine rvc_un (rexec_prim C (δ := { v := .undef, wr := [(5, some (.cells [.pv (.lit (.int .i64 x.node)), .pv (.lit (.int .i64 x.site)), .pv (.lit (.bool x.fresh))]))] }) rfl rfl rfl rfl trivial rfl ?_) -- tNone store
    refine rvc_nil ?_
    refine Awp.cons C (fun _ => .pure) (by kernel_rfl) ?_
    refine rvc_un (rexec_prim C (δ := { v := .ptr 5 2 }) rfl rfl rfl rfl trivial rfl ?_)
    refine rvc_un (rexec_prim C (δ := { v := .pv (.lit (.bool x.fresh)) }) rfl rfl rfl rfl trivial rfl ?_)
    refine rvc_un (rexec_prim C (δ := { v := .pv (.lit (.bool (!x.fresh))) }) rfl rfl rfl rfl trivial rfl ?_)
    refine rvc_nil ?_
    refine Awp.cond (b := (!x.fresh)) rfl (fun h5 => ?_) (fun h5 => ?_)
    ·
      replace hR := of_true h5 hR
      refine Awp.region C (fun _ => .pure) (by kernel_rfl) ?_
      refine rvc_un (rexec_prim C (δ := { v := .pv (.lit (.int .u64 s)) }) rfl rfl rfl rfl trivial rfl ?_)
      refine rvc_un (rexec_prim C (δ := { v := .ptr 5 0 }) rfl rfl rfl rfl trivial rfl ?_)
      refine rvc_un (rexec_prim C (δ := { v := .pv (.lit (.int .i64 x.node)) }) rfl rfl rfl rfl trivial rfl ?_)
      refine rvc_un (rexec_call hP C rfl rfl rfl (mWith_calls s x.node) ?_)
      refine rvc_un (rexec_prim C (δ := { v := .pv (.lit (.int .u64 (mWith s x.node))) }) rfl rfl rfl rfl trivial rfl ?_)
      refine rvc_nil ?_
      refine Awp.region C (fun _ => .pure) (by kernel_rfl) ?_
      refine rvc_un (rexec_prim C (δ := { v := .pv (.lit (.int .i64 (IntKind.i64.wrap ((i : Int) + 1)))) }) rfl rfl rfl rfl trivial rfl ?_)
      refine rvc_un (rexec_prim C (δ := { v := .pv (.lit (.int .i64 (IntKind.i64.wrap ((i : Int) + 1)))) }) rfl rfl rfl rfl trivial rfl ?_)
      refine rvc_nil ?_
      refine ⟨h3, (mWith s x.node), ?_, ?_⟩
      · exact hR
      · exact ⟨fun b => b, WeakerR.ofL (Ks := []) hI ⟨⟨rfl, rfl⟩, ⟨rfl, rfl⟩, ⟨rfl, rfl⟩, ⟨lit_cast (wrap_i64 (by omega) (by omega)), rfl⟩, trivial⟩ (okH_nil) rfl⟩
    ·
      replace hR := of_false h5 hR
      refine Awp.skip ?_
      refine Awp.region C (fun _ => .pure) (by kernel_rfl) ?_
      refine rvc_un (rexec_prim C (δ := { v := .pv (.lit (.int .i64 (IntKind.i64.wrap ((i : Int) + 1)))) }) rfl rfl rfl rfl trivial rfl ?_)
      refine rvc_un (rexec_prim C (δ := { v := .pv (.lit (.int .i64 (IntKind.i64.wrap ((i : Int) + 1)))) }) rfl rfl rfl rfl trivial rfl ?_)
      refine rvc_nil ?_
      refine ⟨h3, s, ?_, ?_⟩
      · exact hR
      · exact ⟨fun b => b, WeakerR.ofL (Ks := []) hI ⟨⟨rfl, rfl⟩, ⟨rfl, rfl⟩, ⟨rfl, rfl⟩, ⟨lit_cast (wrap_i64 (by omega) (by omega)), rfl⟩, trivial⟩ (okH_nil) rfl⟩
  ·
    have h3 : ¬ i < c.members.D.length := by have := of_decide_eq_false h2; omega
    rw [drop_end h3] at hR
    refine Awp.exit ?_
    refine Awp.cons C (fun _ => .pure) (by kernel_rfl) ?_
    refine rvc_un (rexec_prim C (δ := { v := .pv (.lit (.int .u64 s)) }) rfl rfl rfl rfl trivial rfl ?_)
    refine rvc_un (rexec_prim C (δ := { v := .pv (.lit (.int .u64 s)) }) rfl rfl rfl rfl trivial rfl ?_)
    refine rvc_nil ?_
    refine Awp.ret ?_
    subst hR
    exact ⟨.inl rfl, rfl⟩

def maskOf_l0 : List Int → Nat → Int → Int
  | [], _, s => s
  | x :: xs, i, s => maskOf_l0 xs (i + 1) (mWith s x)
def maskOf (l : (Sl Int)) : Int :=
  maskOf_l0 l.D 0 0
theorem maskOf_calls (l : (Sl Int)) (hl1 : l.D.length ≤ 1000000) : PCalls Try.prog 53 [sS (some l.nil) (eI .i64) l.D] (.pv (.lit (.int .u64 (maskOf l)))) := by
  generalize hR : maskOf l = R
  refine PCalls.of_body tabOk Try.func53 rfl rfl rfl rfl rfl mixed fun E hP C hI => ?_
  refine Awp.cons C (fun _ => .pure) (by kernel_rfl) ?_
  refine rvc_un (rexec_prim C (δ := { v := .pv (.lit (.int .u64 0)) }) rfl rfl rfl rfl trivial rfl ?_)
  refine rvc_nil ?_
  refine Awp.cons C (fun _ => .pure) (by kernel_rfl) ?_
  refine rvc_un (rexec_prim C (δ := { v := .pv (.lit (.int .u64 0)) }) rfl rfl rfl rfl trivial rfl ?_)
  refine rvc_nil ?_
  refine Awp.seq ?_
  refine Awp.cons C (fun _ => .pure) (by kernel_rfl) ?_
  refine rvc_un (rexec_prim C (δ := { v := sS (some l.nil) (eI .i64) l.D }) rfl rfl rfl rfl trivial rfl ?_)
  refine rvc_un (rexec_prim C (δ := { v := .pv (.lit (.int .i64 (l.D.length : Int))) }) rfl rfl rfl rfl trivial rfl ?_)
  refine rvc_un (rexec_prim C (δ := { v := .pv (.lit (.int .i64 0)) }) rfl rfl rfl rfl trivial rfl ?_)
  refine rvc_nil ?_
  refine Awp.block ?_
  refine Awp.forR (σ := Int) (l.D.length) (fun i v => [(3, .pv (.lit (.int .u64 v))), (6, sS (some l.nil) (eI .i64) l.D), (7, .pv (.lit (.int .i64 (l.D.length : Int)))), (8, .pv (.lit (.int .i64 (i : Int))))]) (fun i v => []) [] (fun i v => maskOf_l0 (l.D.drop i) i v = R) 0 ?_ ?_ (fun i s h1 hR => ?_)
  · exact hR
  · exact ⟨fun b => b, WeakerR.ofL (Ks := []) hI ⟨⟨rfl, rfl⟩, ⟨rfl, rfl⟩, ⟨rfl, rfl⟩, ⟨rfl, rfl⟩, trivial⟩ (okH_nil) rfl⟩
  refine Awp.cons C (fun _ => .pure) (by kernel_rfl) ?_
  refine rvc_un (rexec_prim C (δ := { v := .pv (.lit (.bool (decide ((i : Int) < (l.D.length : Int))))) }) rfl rfl rfl rfl trivial rfl ?_)
  refine rvc_nil ?_
  refine Awp.seq ?_
  refine Awp.cond (b := (decide ((i : Int) < (l.D.length : Int)))) rfl (fun h2 => ?_) (fun h2 => ?_)
  ·
    have h3 : i < l.D.length := by have := of_decide_eq_true h2; omega
    obtain ⟨x, h4⟩ := getX h3
    rw [drop_at h4] at hR
    refine Awp.skip ?_
    refine Awp.seq ?_
    refine Awp.block ?_
    refine Awp.cons C (fun _ => .pure) (by kernel_rfl) ?_
    refine rvc_un (rexec_idxS C rfl rfl rfl rfl rfl rfl x (Int.natCast_nonneg _) h4 ?_)
    refine rvc_un (rexec_prim C (δ := { v := .pv (.lit (.int .i64 x)) }) rfl rfl rfl rfl trivial rfl ?_)
    refine rvc_un (rexec_prim C (δ := { v := .pv (.lit (.int .i64 x)) }) rfl rfl rfl rfl trivial rfl ?_)
    refine rvc_nil ?_
    refine Awp.region C (fun _ => .pure) (by kernel_rfl) ?_
    refine rvc_un (rexec_prim C (δ := { v := .pv (.lit (.int .u64 s)) }) rfl rfl rfl rfl trivial rfl ?_)
    refine rvc_un (rexec_prim C (δ := { v := .pv (.lit (.int .i64 x)) }) rfl rfl rfl rfl trivial rfl ?_)
    refine rvc_un (rexec_call hP C rfl rfl rfl (mWith_calls s x) ?_)
    refine rvc_un (rexec_prim C (δ := { v := .pv (.lit (.int .u64 (mWith s x))) }) rfl rfl rfl rfl trivial rfl ?_)
    refine rvc_nil ?_
    refine Awp.region C (fun _ => .pure) (by kernel_rfl) ?_
    refine rvc_un (rexec_prim C (δ := { v := .pv (.lit (.int .i64 (IntKind.i64.wrap ((i : Int) + 1)))) }) rfl rfl rfl rfl trivial rfl ?_)
    refine rvc_un (rexec_prim C (δ := { v := .pv (.lit (.int .i64 (IntKind.i64.wrap ((i : Int) + 1)))) }) rfl rfl rfl rfl trivial rfl ?_)
    refine rvc_nil ?_
    refine ⟨h3, (mWith s x), ?_, ?_⟩
    · exact hR
    · exact ⟨fun b => b, WeakerR.ofL (Ks := []) hI ⟨⟨rfl, rfl⟩, ⟨rfl, rfl⟩, ⟨rfl, rfl⟩, ⟨lit_cast (wrap_i64 (by omega) (by omega)), rfl⟩, trivial⟩ (okH_nil) rfl⟩
  ·
    have h3 : ¬ i < l.D.length := by have := of_decide_eq_false h2; omega
    rw [drop_end h3] at hR
    refine Awp.exit ?_
    refine Awp.cons C (fun _ => .pure) (by kernel_rfl) ?_
    refine rvc_un (rexec_prim C (δ := { v := .pv (.lit (.int .u64 s)) }) rfl rfl rfl rfl trivial rfl ?_)
    refine rvc_un (rexec_prim C (δ := { v := .pv (.lit (.int .u64 s)) }) rfl rfl rfl rfl trivial rfl ?_)
    refine rvc_nil ?_
    refine Awp.ret ?_
    subst hR
    exact ⟨.inl rfl, rfl⟩

def without_l0 (c : Chain) (gone : Int) : List Member → Nat → (List Member) → Chain × Int
  | [], _, l => (bif (decide (c.epoch ≥ 1099511627776)) then ((Chain.mk 0 (Sl.mk true [])), 5) else (bif ((l.length : Int) == (c.members.D.length : Int)) then ((Chain.mk 0 (Sl.mk true [])), 81) else (bif ((l.length : Int) == 0) then ((Chain.mk 0 (Sl.mk true [])), 83) else ((after c (Sl.mk l.isEmpty l)), 0))))
  | x :: xs, i, l => (bif (!(mHas gone x.node)) then (bif (decide ((l.length : Int) > 0)) then without_l0 c gone xs (i + 1) (l ++ [x]) else (bif (!x.fresh) then without_l0 c gone xs (i + 1) (l ++ [x]) else without_l0 c gone xs (i + 1) l)) else without_l0 c gone xs (i + 1) l)
def without (c : Chain) (gone : Int) : Chain × Int :=
  without_l0 c gone c.members.D 0 []
theorem without_calls (c : Chain) (gone : Int) (hl1 : c.members.D.length ≤ 1000000) : PCalls Try.prog 52 [.agg [.pv (.lit (.int .i64 c.epoch)), sS (some c.members.nil) eMember c.members.D], .pv (.lit (.int .u64 gone))] (.tup [.agg [.pv (.lit (.int .i64 ((without c gone).1.epoch))), sS (some (without c gone).1.members.nil) eMember ((without c gone).1.members.D)], .pv (.lit (.int .i64 ((without c gone).2)))]) := by
  generalize hR : without c gone = R
  refine PCalls.of_body tabOk Try.func52 rfl rfl rfl rfl rfl mixed fun E hP C hI => ?_
  refine Awp.cons C (fun _ => .pure) (by kernel_rfl) ?_
  refine rvc_un (rexec_prim C (δ := { v := .ptr 2 0, new := [(2, .cells [.pv (.lit (.int .i64 c.epoch)), sS (some c.members.nil) eMember c.members.D])] }) rfl rfl rfl rfl trivial rfl ?_)
  refine rvc_un (rexec_prim C (δ := { v := .ptr 4 0, new := [(4, .cells [.pv (.lit (.int .i64 0)), sS (some true) eMember []])] }) rfl rfl rfl rfl trivial rfl ?_)
  refine rvc_un (rexec_prim C (δ := { v := .pv (.lit (.int .i64 0)) }) rfl rfl rfl rfl trivial rfl ?_)
  refine rvc_nil ?_
  refine Awp.cons C (fun _ => .pure) (by kernel_rfl) ?_
  refine rvc_un (rexec_prim C (δ := { v := sS (some true) eMember [] }) rfl rfl rfl rfl trivial rfl ?_)
  refine rvc_nil ?_
  refine Awp.seq ?_
  refine Awp.cons C (fun _ => .pure) (by kernel_rfl) ?_
  refine rvc_un (rexec_prim C (δ := { v := .ptr 2 1 }) rfl rfl rfl rfl trivial rfl ?_)
  refine rvc_un (rexec_prim C (δ := { v := sS (some c.members.nil) eMember c.members.D }) rfl rfl rfl rfl trivial rfl ?_)
  refine rvc_un (rexec_prim C (δ := { v := .pv (.lit (.int .i64 (c.members.D.length : Int))) }) rfl rfl rfl rfl trivial rfl ?_)
  refine rvc_un (rexec_prim C (δ := { v := .pv (.lit (.int .i64 0)) }) rfl rfl rfl rfl trivial rfl ?_)
  refine rvc_nil ?_
  refine Awp.block ?_
  refine Awp.forR (σ := ((List Member))) (c.members.D.length) (fun i v => [(1, .pv (.lit (.int .u64 gone))), (2, .ptr 2 0), (4, .ptr 4 0), (6, grow 900 eMember v), (10, sS (some c.members.nil) eMember c.members.D), (11, .pv (.lit (.int .i64 (c.members.D.length : Int)))), (12, .pv (.lit (.int .i64 (i : Int))))]) (fun i v => (growH 900 eMember v ++ ([(2, .cells [.pv (.lit (.int .i64 c.epoch)), sS (some c.members.nil) eMember c.members.D]), (4, .cells [.pv (.lit (.int .i64 0)), sS (some true) eMember []])]))) [2, 4, 900] (fun i v => (without_l0 c gone (c.members.D.drop i) i v = R) ∧ (v.length ≤ i)) [] ?_ ?_ (fun i l h1 hR => ?_)
  · exact ⟨hR, (by first | omega | (simp <;> omega))⟩
  · exact ⟨fun b => b, WeakerR.ofL (Ks := [2, 4, 900]) hI ⟨⟨rfl, rfl⟩, ⟨rfl, rfl⟩, ⟨rfl, rfl⟩, ⟨rfl, rfl⟩, ⟨rfl, rfl⟩, ⟨rfl, rfl⟩, ⟨rfl, rfl⟩, trivial⟩ (okH_grow (fun hne => absurd rfl hne) rfl rfl (okH_cons rfl rfl rfl rfl (okH_cons rfl rfl rfl rfl (okH_nil)))) rfl⟩
  obtain ⟨hR, hi_l⟩ := hR
  replace hi_l : l.length ≤ i := hi_l
  by_cases h2 : l = []
  ·
    refine Awp.wordsR [(1, .pv (.lit (.int .u64 gone))), (2, .ptr 2 0), (4, .ptr 4 0), (6, sS (some l.isEmpty) eMember l), (10, sS (some c.members.nil) eMember c.members.D), (11, .pv (.lit (.int .i64 (c.members.D.length : Int)))), (12, .pv (.lit (.int .i64 (i : Int))))] [(2, .cells [.pv (.lit (.int .i64 c.epoch)), sS (some c.members.nil) eMember c.members.D]), (4, .cells [.pv (.lit (.int .i64 0)), sS (some true) eMember []])] [2, 4] (WeakerR.ofL (Ks := [2, 4]) hI ⟨⟨rfl, rfl⟩, ⟨rfl, rfl⟩, ⟨rfl, rfl⟩, ⟨(by exact grow_at_nil (b := 900) (e := eMember) (l := l) rfl h2), rfl⟩, ⟨rfl, rfl⟩, ⟨rfl, rfl⟩, ⟨rfl, rfl⟩, trivial⟩ (okH_cons (look_nil h2 rfl) rfl rfl rfl (okH_cons (look_nil h2 rfl) rfl rfl rfl (okH_nil))) rfl) ?_
    refine Awp.cons C (fun _ => .pure) (by kernel_rfl) ?_
    refine rvc_un (rexec_prim C (δ := { v := .pv (.lit (.bool (decide ((i : Int) < (c.members.D.length : Int))))) }) rfl rfl rfl rfl trivial rfl ?_)
    refine rvc_nil ?_
    refine Awp.seq ?_
    refine Awp.cond (b := (decide ((i : Int) < (c.members.D.length : Int)))) rfl (fun h3 => ?_) (fun h3 => ?_)
    ·
      have h4 : i < c.members.D.length := by have := of_decide_eq_true h3; omega
      obtain ⟨x, h5⟩ := getX h4
      rw [drop_at h5] at hR
      refine Awp.skip ?_
      refine Awp.seq ?_
      refine Awp.block ?_
      refine Awp.cons C (fun _ => .pure) (by kernel_rfl) ?_
      refine rvc_un (rexec_idxS C rfl rfl rfl rfl rfl rfl x (Int.natCast_nonneg _) h5 ?_)
      refine rvc_un (rexec_prim C (δ := { v := .agg [.pv (.lit (.int .i64 x.node)), .pv (.lit (.int .i64 x.site)), .pv (.lit (.bool x.fresh))] }) rfl rfl rfl rfl trivial rfl ?_)
      refine rvc_un (rexec_prim C (δ := { v := .ptr 8 0, new := [(8, .cells [.pv (.lit (.int .i64 0)), .pv (.lit (.int .i64 0)), .pv (.lit (.bool false))])] }) rfl rfl rfl rfl trivial rfl ?_)
      refine rvc_un (rexec_prim C (δ := { v := .undef, wr := [(8, some (.cells [.pv (.lit (.int .i64 x.node)), .pv (.lit (.int .i64 x.site)), .pv (.lit (.bool x.fresh))]))] }) rfl rfl rfl rfl trivial rfl ?_) -- tNone store
      refine rvc_nil ?_
      refine Awp.cons C (fun _ => .pure) (by kernel_rfl) ?_
      refine rvc_un (rexec_prim C (δ := { v := .pv (.lit (.int .u64 gone)) }) rfl rfl rfl rfl trivial rfl ?_)
      refine rvc_un (rexec_prim C (δ := { v := .ptr 8 0 }) rfl rfl rfl rfl trivial rfl ?_)
      refine rvc_un (rexec_prim C (δ := { v := .pv (.lit (.int .i64 x.node)) }) rfl rfl rfl rfl trivial rfl ?_)
      refine rvc_un (rexec_call hP C rfl rfl rfl (mHas_calls gone x.node) ?_)
      refine rvc_un (rexec_prim C (δ := { v := .pv (.lit (.bool (!(mHas gone x.node)))) }) rfl rfl rfl rfl trivial rfl ?_)
      refine rvc_un (rexec_prim C (δ := { v := .pv (.lit (.bool (!(mHas gone x.node)))) }) rfl rfl rfl rfl trivial rfl ?_)
      refine rvc_case 21 (!(mHas gone x.node)) rfl (fun h6 => ?_) (fun h6 => ?_)
      ·
        replace hR := of_true h6 hR
        refine rvc_open rfl rfl rfl (rexec_prim C (δ := { v := sS (some l.isEmpty) eMember l }) rfl rfl rfl rfl trivial rfl ?_)
        refine rvc_open rfl rfl rfl (rexec_prim C (δ := { v := .pv (.lit (.int .i64 (l.length : Int))) }) rfl rfl rfl rfl trivial rfl ?_)
        refine rvc_open rfl rfl rfl (rexec_prim C (δ := { v := .pv (.lit (.bool (decide ((l.length : Int) > 0)))) }) rfl rfl rfl rfl trivial rfl ?_)
        refine rvc_open rfl rfl rfl (rexec_prim C (δ := { v := .pv (.lit (.bool (decide ((l.length : Int) > 0)))) }) rfl rfl rfl rfl trivial rfl ?_)
        refine rvc_case 25 (decide ((l.length : Int) > 0)) rfl (fun h7 => ?_) (fun h7 => ?_)
        ·
          replace hR := of_true h7 hR
          refine rvc_shut rfl rfl rfl rfl ?_
          refine rvc_shut rfl rfl rfl rfl ?_
          refine rvc_shut rfl rfl rfl rfl ?_
          refine rvc_open rfl rfl rfl (rexec_prim C (δ := { v := .pv (.lit (.bool true)) }) rfl rfl rfl rfl trivial rfl ?_)
          refine rvc_un (rexec_prim C (δ := { v := .pv (.lit (.bool true)) }) rfl rfl rfl rfl trivial rfl ?_)
          refine rvc_nil ?_
          refine Awp.condT (b := true) rfl rfl ?_
          refine Awp.region C (fun _ => .pure) (by kernel_rfl) ?_
          refine rvc_un (rexec_prim C (δ := { v := sS (some l.isEmpty) eMember l }) rfl rfl rfl rfl trivial rfl ?_)
          refine rvc_un (rexec_prim C (δ := { v := .agg [.pv (.lit (.int .i64 x.node)), .pv (.lit (.int .i64 x.site)), .pv (.lit (.bool x.fresh))] }) rfl rfl rfl rfl trivial rfl ?_)
          refine rvc_un (rexec_buildSliceF C eMember [x] rfl rfl rfl rfl rfl rfl rfl (by decide) rfl ?_)
          refine rvc_un (rexec_appendG C rfl rfl rfl rfl rfl rfl rfl rfl (fun _ h => by cases h) rfl (en := eMember) (l := l) (D := [x]) rfl rfl h2 (by rw [h2]; rfl) (by simp) (by have := of_decide_eq_true h3; have := of_decide_eq_true h7; first | omega | (simp <;> omega)) (by decide) (nn := (l ++ [x]).length) (by simp) ?_)
          refine rvc_un (rexec_prim C (δ := { v := .sl 34 0 ((l ++ [x]).length) 3 false }) rfl rfl rfl rfl trivial rfl ?_)
          refine rvc_nil ?_
          refine Awp.region C (fun _ => .pure) (by kernel_rfl) ?_
          refine rvc_un (rexec_prim C (δ := { v := .pv (.lit (.int .i64 (IntKind.i64.wrap ((i : Int) + 1)))) }) rfl rfl rfl rfl trivial rfl ?_)
          refine rvc_un (rexec_prim C (δ := { v := .pv (.lit (.int .i64 (IntKind.i64.wrap ((i : Int) + 1)))) }) rfl rfl rfl rfl trivial rfl ?_)
          refine rvc_nil ?_
          refine ⟨h4, (l ++ [x]), ?_, ?_⟩
          · exact ⟨hR, (by first | omega | (simp <;> omega))⟩
          · exact ⟨fun b => bif b == 900 then 34 else (fun b => b) b, WeakerR.ofL (Ks := [2, 4, 900]) hI ⟨⟨rfl, rfl⟩, ⟨rfl, rfl⟩, ⟨rfl, rfl⟩, ⟨grow_to rfl rfl app_ne rfl rfl, grow_within rfl⟩, ⟨rfl, rfl⟩, ⟨rfl, rfl⟩, ⟨lit_cast (wrap_i64 (by omega) (by omega)), rfl⟩, trivial⟩ (okH_grow (fun _ => rfl) rfl rfl (okH_cons rfl rfl rfl rfl (okH_cons rfl rfl rfl rfl (okH_nil)))) rfl⟩
        ·
          replace hR := of_false h7 hR
          refine rvc_open rfl rfl rfl (rexec_prim C (δ := { v := .ptr 8 2 }) rfl rfl rfl rfl trivial rfl ?_)
          refine rvc_open rfl rfl rfl (rexec_prim C (δ := { v := .pv (.lit (.bool x.fresh)) }) rfl rfl rfl rfl trivial rfl ?_)
          refine rvc_open rfl rfl rfl (rexec_prim C (δ := { v := .pv (.lit (.bool (!x.fresh))) }) rfl rfl rfl rfl trivial rfl ?_)
          refine rvc_open rfl rfl rfl (rexec_prim C (δ := { v := .pv (.lit (.bool (!x.fresh))) }) rfl rfl rfl rfl trivial rfl ?_)
          refine rvc_un (rexec_prim C (δ := { v := .pv (.lit (.bool (!x.fresh))) }) rfl rfl rfl rfl trivial rfl ?_)
          refine rvc_nil ?_
          refine Awp.cond (b := (!x.fresh)) rfl (fun h8 => ?_) (fun h8 => ?_)
          ·
            replace hR := of_true h8 hR
            refine Awp.region C (fun _ => .pure) (by kernel_rfl) ?_
            refine rvc_un (rexec_prim C (δ := { v := sS (some l.isEmpty) eMember l }) rfl rfl rfl rfl trivial rfl ?_)
            refine rvc_un (rexec_prim C (δ := { v := .agg [.pv (.lit (.int .i64 x.node)), .pv (.lit (.int .i64 x.site)), .pv (.lit (.bool x.fresh))] }) rfl rfl rfl rfl trivial rfl ?_)
            refine rvc_un (rexec_buildSliceF C eMember [x] rfl rfl rfl rfl rfl rfl rfl (by decide) rfl ?_)
            refine rvc_un (rexec_appendG C rfl rfl rfl rfl rfl rfl rfl rfl (fun _ h => by cases h) rfl (en := eMember) (l := l) (D := [x]) rfl rfl h2 (by rw [h2]; rfl) (by simp) (by have := of_decide_eq_true h3; have := of_decide_eq_false h7; first | omega | (simp <;> omega)) (by decide) (nn := (l ++ [x]).length) (by simp) ?_)
            refine rvc_un (rexec_prim C (δ := { v := .sl 34 0 ((l ++ [x]).length) 3 false }) rfl rfl rfl rfl trivial rfl ?_)
            refine rvc_nil ?_
            refine Awp.region C (fun _ => .pure) (by kernel_rfl) ?_
            refine rvc_un (rexec_prim C (δ := { v := .pv (.lit (.int .i64 (IntKind.i64.wrap ((i : Int) + 1)))) }) rfl rfl rfl rfl trivial rfl ?_)
            refine rvc_un (rexec_prim C (δ := { v := .pv (.lit (.int .i64 (IntKind.i64.wrap ((i : Int) + 1)))) }) rfl rfl rfl rfl trivial rfl ?_)
            refine rvc_nil ?_
            refine ⟨h4, (l ++ [x]), ?_, ?_⟩
            · exact ⟨hR, (by first | omega | (simp <;> omega))⟩
            · exact ⟨fun b => bif b == 900 then 34 else (fun b => b) b, WeakerR.ofL (Ks := [2, 4, 900]) hI ⟨⟨rfl, rfl⟩, ⟨rfl, rfl⟩, ⟨rfl, rfl⟩, ⟨grow_to rfl rfl app_ne rfl rfl, grow_within rfl⟩, ⟨rfl, rfl⟩, ⟨rfl, rfl⟩, ⟨lit_cast (wrap_i64 (by omega) (by omega)), rfl⟩, trivial⟩ (okH_grow (fun _ => rfl) rfl rfl (okH_cons rfl rfl rfl rfl (okH_cons rfl rfl rfl rfl (okH_nil)))) rfl⟩
          ·
            replace hR := of_false h8 hR
            refine Awp.skip ?_
            refine Awp.region C (fun _ => .pure) (by kernel_rfl) ?_
            refine rvc_un (rexec_prim C (δ := { v := .pv (.lit (.int .i64 (IntKind.i64.wrap ((i : Int) + 1)))) }) rfl rfl rfl rfl trivial rfl ?_)
            refine rvc_un (rexec_prim C (δ := { v := .pv (.lit (.int .i64 (IntKind.i64.wrap ((i : Int) + 1)))) }) rfl rfl rfl rfl trivial rfl ?_)
            refine rvc_nil ?_
            refine ⟨h4, l, ?_, ?_⟩
            · exact ⟨hR, (by first | omega | (simp <;> omega))⟩
            · exact ⟨fun b => b, WeakerR.ofL (Ks := [2, 4, 900]) hI ⟨⟨rfl, rfl⟩, ⟨rfl, rfl⟩, ⟨rfl, rfl⟩, ⟨grow_to_nil rfl h2 (.inr rfl), grow_within rfl⟩, ⟨rfl, rfl⟩, ⟨rfl, rfl⟩, ⟨lit_cast (wrap_i64 (by omega) (by omega)), rfl⟩, trivial⟩ (okH_grow (fun hne => absurd h2 hne) rfl rfl (okH_cons rfl rfl rfl rfl (okH_cons rfl rfl rfl rfl (okH_nil)))) rfl⟩
      ·
        replace hR := of_false h6 hR
        refine rvc_shut rfl rfl rfl rfl ?_
        refine rvc_shut rfl rfl rfl rfl ?_
        refine rvc_shut rfl rfl rfl rfl ?_
        refine rvc_shut rfl rfl rfl rfl ?_
        refine rvc_shutU rfl rfl rfl ?_
        refine rvc_shutU rfl rfl rfl ?_
        refine rvc_shutU rfl rfl rfl ?_
        refine rvc_shut rfl rfl rfl rfl ?_
        refine rvc_un (rexec_prim C (δ := { v := .pv (.lit (.bool false)) }) rfl rfl rfl rfl trivial rfl ?_)
        refine rvc_nil ?_
        refine Awp.condF (b := false) rfl rfl ?_
        refine Awp.skip ?_
        refine Awp.region C (fun _ => .pure) (by kernel_rfl) ?_
        refine rvc_un (rexec_prim C (δ := { v := .pv (.lit (.int .i64 (IntKind.i64.wrap ((i : Int) + 1)))) }) rfl rfl rfl rfl trivial rfl ?_)
        refine rvc_un (rexec_prim C (δ := { v := .pv (.lit (.int .i64 (IntKind.i64.wrap ((i : Int) + 1)))) }) rfl rfl rfl rfl trivial rfl ?_)
        refine rvc_nil ?_
        refine ⟨h4, l, ?_, ?_⟩
        · exact ⟨hR, (by first | omega | (simp <;> omega))⟩
        · exact ⟨fun b => b, WeakerR.ofL (Ks := [2, 4, 900]) hI ⟨⟨rfl, rfl⟩, ⟨rfl, rfl⟩, ⟨rfl, rfl⟩, ⟨grow_to_nil rfl h2 (.inr rfl), grow_within rfl⟩, ⟨rfl, rfl⟩, ⟨rfl, rfl⟩, ⟨lit_cast (wrap_i64 (by omega) (by omega)), rfl⟩, trivial⟩ (okH_grow (fun hne => absurd h2 hne) rfl rfl (okH_cons rfl rfl rfl rfl (okH_cons rfl rfl rfl rfl (okH_nil)))) rfl⟩
    ·
      have h4 : ¬ i < c.members.D.length := by have := of_decide_eq_false h3; omega
      rw [drop_end h4] at hR
      refine Awp.exit ?_
      refine Awp.seq ?_
      refine Awp.block ?_
      refine Awp.cons C (fun _ => .pure) (by kernel_rfl) ?_
      refine rvc_un (rexec_prim C (δ := { v := .ptr 2 0 }) rfl rfl rfl rfl trivial rfl ?_)
      refine rvc_un (rexec_prim C (δ := { v := .pv (.lit (.int .i64 c.epoch)) }) rfl rfl rfl rfl trivial rfl ?_)
      refine rvc_un (rexec_prim C (δ := { v := .pv (.lit (.bool (decide (c.epoch ≥ 1099511627776)))) }) rfl rfl rfl rfl trivial rfl ?_)
      refine rvc_un (rexec_prim C (δ := { v := .pv (.lit (.bool (decide (c.epoch ≥ 1099511627776)))) }) rfl rfl rfl rfl trivial rfl ?_)
      refine rvc_nil ?_
      refine Awp.cond (b := (decide (c.epoch ≥ 1099511627776))) rfl (fun h9 => ?_) (fun h9 => ?_)
      ·
        replace hR := of_true h9 hR
        refine Awp.cons C (fun _ => .pure) (by kernel_rfl) ?_
        refine rvc_un (rexec_prim C (δ := { v := .agg [.pv (.lit (.int .i64 0)), sS (some true) eMember []] }) rfl rfl rfl rfl trivial rfl ?_)
        refine rvc_un (rexec_prim C (δ := { v := .undef, wr := [(4, some (.cells [.pv (.lit (.int .i64 0)), sS (some true) eMember []]))] }) rfl rfl rfl rfl trivial rfl ?_) -- tNone store
        refine rvc_un (rexec_prim C (δ := { v := .pv (.lit (.int .i64 5)) }) rfl rfl rfl rfl trivial rfl ?_)
        refine rvc_nil ?_
        refine Awp.ret ?_
        subst hR
        exact ⟨.inl rfl, rfl⟩
      ·
        replace hR := of_false h9 hR
        refine Awp.cons C (fun _ => .pure) (by kernel_rfl) ?_
        refine rvc_un (rexec_prim C (δ := { v := sS (some l.isEmpty) eMember l }) rfl rfl rfl rfl trivial rfl ?_)
        refine rvc_un (rexec_prim C (δ := { v := .pv (.lit (.int .i64 (l.length : Int))) }) rfl rfl rfl rfl trivial rfl ?_)
        refine rvc_un (rexec_prim C (δ := { v := .ptr 2 1 }) rfl rfl rfl rfl trivial rfl ?_)
        refine rvc_un (rexec_prim C (δ := { v := sS (some c.members.nil) eMember c.members.D }) rfl rfl rfl rfl trivial rfl ?_)
        refine rvc_un (rexec_prim C (δ := { v := .pv (.lit (.int .i64 (c.members.D.length : Int))) }) rfl rfl rfl rfl trivial rfl ?_)
        refine rvc_un (rexec_prim C (δ := { v := .pv (.lit (.bool ((l.length : Int) == (c.members.D.length : Int)))) }) rfl rfl rfl rfl trivial rfl ?_)
        refine rvc_un (rexec_prim C (δ := { v := .pv (.lit (.bool ((l.length : Int) == (c.members.D.length : Int)))) }) rfl rfl rfl rfl trivial rfl ?_)
        refine rvc_nil ?_
        refine Awp.cond (b := ((l.length : Int) == (c.members.D.length : Int))) rfl (fun h10 => ?_) (fun h10 => ?_)
        ·
          replace hR := of_true h10 hR
          refine Awp.cons C (fun _ => .pure) (by kernel_rfl) ?_
          refine rvc_un (rexec_prim C (δ := { v := .agg [.pv (.lit (.int .i64 0)), sS (some true) eMember []] }) rfl rfl rfl rfl trivial rfl ?_)
          refine rvc_un (rexec_prim C (δ := { v := .undef, wr := [(4, some (.cells [.pv (.lit (.int .i64 0)), sS (some true) eMember []]))] }) rfl rfl rfl rfl trivial rfl ?_) -- tNone store
          refine rvc_un (rexec_prim C (δ := { v := .pv (.lit (.int .i64 81)) }) rfl rfl rfl rfl trivial rfl ?_)
          refine rvc_nil ?_
          refine Awp.ret ?_
          subst hR
          exact ⟨.inl rfl, rfl⟩
        ·
          replace hR := of_false h10 hR
          refine Awp.cons C (fun _ => .pure) (by kernel_rfl) ?_
          refine rvc_un (rexec_prim C (δ := { v := sS (some l.isEmpty) eMember l }) rfl rfl rfl rfl trivial rfl ?_)
          refine rvc_un (rexec_prim C (δ := { v := .pv (.lit (.int .i64 (l.length : Int))) }) rfl rfl rfl rfl trivial rfl ?_)
          refine rvc_un (rexec_prim C (δ := { v := .pv (.lit (.bool ((l.length : Int) == 0))) }) rfl rfl rfl rfl trivial rfl ?_)
          refine rvc_un (rexec_prim C (δ := { v := .pv (.lit (.bool ((l.length : Int) == 0))) }) rfl rfl rfl rfl trivial rfl ?_)
          refine rvc_nil ?_
          refine Awp.cond (b := ((l.length : Int) == 0)) rfl (fun h11 => ?_) (fun h11 => ?_)
          ·
            replace hR := of_true h11 hR
            refine Awp.cons C (fun _ => .pure) (by kernel_rfl) ?_
            refine rvc_un (rexec_prim C (δ := { v := .agg [.pv (.lit (.int .i64 0)), sS (some true) eMember []] }) rfl rfl rfl rfl trivial rfl ?_)
            refine rvc_un (rexec_prim C (δ := { v := .undef, wr := [(4, some (.cells [.pv (.lit (.int .i64 0)), sS (some true) eMember []]))] }) rfl rfl rfl rfl trivial rfl ?_) -- tNone store
            refine rvc_un (rexec_prim C (δ := { v := .pv (.lit (.int .i64 83)) }) rfl rfl rfl rfl trivial rfl ?_)
            refine rvc_nil ?_
            refine Awp.ret ?_
            subst hR
            exact ⟨.inl rfl, rfl⟩
          ·
            replace hR := of_false h11 hR
            refine Awp.skip ?_
            refine Awp.cons C (fun _ => .pure) (by kernel_rfl) ?_
            refine rvc_un (rexec_prim C (δ := { v := .agg [.pv (.lit (.int .i64 c.epoch)), sS (some c.members.nil) eMember c.members.D] }) rfl rfl rfl rfl trivial rfl ?_)
            refine rvc_un (rexec_prim C (δ := { v := sS (some l.isEmpty) eMember l }) rfl rfl rfl rfl trivial rfl ?_)
            refine rvc_un (rexec_call hP C rfl rfl rfl (after_calls c (Sl.mk l.isEmpty l)) ?_)
            refine rvc_un (rexec_prim C (δ := { v := .undef, wr := [(4, some (.cells [.pv (.lit (.int .i64 ((after c (Sl.mk l.isEmpty l)).epoch))), sS (some (after c (Sl.mk l.isEmpty l)).members.nil) eMember ((after c (Sl.mk l.isEmpty l)).members.D)]))] }) rfl rfl rfl rfl trivial rfl ?_) -- tNone store
            refine rvc_un (rexec_prim C (δ := { v := .pv (.lit (.int .i64 0)) }) rfl rfl rfl rfl trivial rfl ?_)
            refine rvc_nil ?_
            refine Awp.ret ?_
            subst hR
            exact ⟨.inl rfl, rfl⟩
  ·
    refine Awp.wordsR [(1, .pv (.lit (.int .u64 gone))), (2, .ptr 2 0), (4, .ptr 4 0), (6, .sl 900 0 l.length 3 false), (10, sS (some c.members.nil) eMember c.members.D), (11, .pv (.lit (.int .i64 (c.members.D.length : Int)))), (12, .pv (.lit (.int .i64 (i : Int))))] [(900, .cells (encC eMember l)), (2, .cells [.pv (.lit (.int .i64 c.epoch)), sS (some c.members.nil) eMember c.members.D]), (4, .cells [.pv (.lit (.int .i64 0)), sS (some true) eMember []])] [2, 4, 900] (WeakerR.ofL (Ks := [2, 4, 900]) hI ⟨⟨rfl, rfl⟩, ⟨rfl, rfl⟩, ⟨rfl, rfl⟩, ⟨(by exact grow_at_cons (b := 900) (b' := 900) (e := eMember) (l := l) rfl h2 rfl rfl rfl), rfl⟩, ⟨rfl, rfl⟩, ⟨rfl, rfl⟩, ⟨rfl, rfl⟩, trivial⟩ (okH_list (look_cons h2 rfl) rfl rfl (okH_cons (look_cons h2 rfl) rfl rfl rfl (okH_cons (look_cons h2 rfl) rfl rfl rfl (okH_nil)))) rfl) ?_
    refine Awp.cons C (fun _ => .pure) (by kernel_rfl) ?_
    refine rvc_un (rexec_prim C (δ := { v := .pv (.lit (.bool (decide ((i : Int) < (c.members.D.length : Int))))) }) rfl rfl rfl rfl trivial rfl ?_)
    refine rvc_nil ?_
    refine Awp.seq ?_
    refine Awp.cond (b := (decide ((i : Int) < (c.members.D.length : Int)))) rfl (fun h12 => ?_) (fun h12 => ?_)
    ·
      have h13 : i < c.members.D.length := by have := of_decide_eq_true h12; omega
      obtain ⟨x, h14⟩ := getX h13
      rw [drop_at h14] at hR
      refine Awp.skip ?_
      refine Awp.seq ?_
      refine Awp.block ?_
      refine Awp.cons C (fun _ => .pure) (by kernel_rfl) ?_
      refine rvc_un (rexec_idxS C rfl rfl rfl rfl rfl rfl x (Int.natCast_nonneg _) h14 ?_)
      refine rvc_un (rexec_prim C (δ := { v := .agg [.pv (.lit (.int .i64 x.node)), .pv (.lit (.int .i64 x.site)), .pv (.lit (.bool x.fresh))] }) rfl rfl rfl rfl trivial rfl ?_)
      refine rvc_un (rexec_prim C (δ := { v := .ptr 8 0, new := [(8, .cells [.pv (.lit (.int .i64 0)), .pv (.lit (.int .i64 0)), .pv (.lit (.bool false))])] }) rfl rfl rfl rfl trivial rfl ?_)
      refine rvc_un (rexec_prim C (δ := { v := .undef, wr := [(8, some (.cells [.pv (.lit (.int .i64 x.node)), .pv (.lit (.int .i64 x.site)), .pv (.lit (.bool x.fresh))]))] }) rfl rfl rfl rfl trivial rfl ?_) -- tNone store
      refine rvc_nil ?_
      refine Awp.cons C (fun _ => .pure) (by kernel_rfl) ?_
      refine rvc_un (rexec_prim C (δ := { v := .pv (.lit (.int .u64 gone)) }) rfl rfl rfl rfl trivial rfl ?_)
      refine rvc_un (rexec_prim C (δ := { v := .ptr 8 0 }) rfl rfl rfl rfl trivial rfl ?_)
      refine rvc_un (rexec_prim C (δ := { v := .pv (.lit (.int .i64 x.node)) }) rfl rfl rfl rfl trivial rfl ?_)
      refine rvc_un (rexec_call hP C rfl rfl rfl (mHas_calls gone x.node) ?_)
      refine rvc_un (rexec_prim C (δ := { v := .pv (.lit (.bool (!(mHas gone x.node)))) }) rfl rfl rfl rfl trivial rfl ?_)
      refine rvc_un (rexec_prim C (δ := { v := .pv (.lit (.bool (!(mHas gone x.node)))) }) rfl rfl rfl rfl trivial rfl ?_)
      refine rvc_case 21 (!(mHas gone x.node)) rfl (fun h15 => ?_) (fun h15 => ?_)
      ·
        replace hR := of_true h15 hR
        refine rvc_open rfl rfl rfl (rexec_prim C (δ := { v := .sl 900 0 l.length 3 false }) rfl rfl rfl rfl trivial rfl ?_)
        refine rvc_open rfl rfl rfl (rexec_prim C (δ := { v := .pv (.lit (.int .i64 (l.length : Int))) }) rfl rfl rfl rfl trivial rfl ?_)
        refine rvc_open rfl rfl rfl (rexec_prim C (δ := { v := .pv (.lit (.bool (decide ((l.length : Int) > 0)))) }) rfl rfl rfl rfl trivial rfl ?_)
        refine rvc_open rfl rfl rfl (rexec_prim C (δ := { v := .pv (.lit (.bool (decide ((l.length : Int) > 0)))) }) rfl rfl rfl rfl trivial rfl ?_)
        refine rvc_case 25 (decide ((l.length : Int) > 0)) rfl (fun h16 => ?_) (fun h16 => ?_)
        ·
          replace hR := of_true h16 hR
          refine rvc_shut rfl rfl rfl rfl ?_
          refine rvc_shut rfl rfl rfl rfl ?_
          refine rvc_shut rfl rfl rfl rfl ?_
          refine rvc_open rfl rfl rfl (rexec_prim C (δ := { v := .pv (.lit (.bool true)) }) rfl rfl rfl rfl trivial rfl ?_)
          refine rvc_un (rexec_prim C (δ := { v := .pv (.lit (.bool true)) }) rfl rfl rfl rfl trivial rfl ?_)
          refine rvc_nil ?_
          refine Awp.condT (b := true) rfl rfl ?_
          refine Awp.region C (fun _ => .pure) (by kernel_rfl) ?_
          refine rvc_un (rexec_prim C (δ := { v := .sl 900 0 l.length 3 false }) rfl rfl rfl rfl trivial rfl ?_)
          refine rvc_un (rexec_prim C (δ := { v := .agg [.pv (.lit (.int .i64 x.node)), .pv (.lit (.int .i64 x.site)), .pv (.lit (.bool x.fresh))] }) rfl rfl rfl rfl trivial rfl ?_)
          refine rvc_un (rexec_buildSliceF C eMember [x] rfl rfl rfl rfl rfl rfl rfl (by decide) rfl ?_)
          refine rvc_un (rexec_append C rfl rfl rfl rfl rfl rfl rfl rfl (fun _ h => by cases h) rfl (en := eMember) (D0 := l) (D := [x]) rfl rfl rfl rfl (by have := of_decide_eq_true h12; have := of_decide_eq_true h16; first | omega | (simp <;> omega)) (by decide) (nn := (l ++ [x]).length) (by simp) ?_)
          refine rvc_un (rexec_prim C (δ := { v := .sl 34 0 ((l ++ [x]).length) 3 false }) rfl rfl rfl rfl trivial rfl ?_)
          refine rvc_nil ?_
          refine Awp.region C (fun _ => .pure) (by kernel_rfl) ?_
          refine rvc_un (rexec_prim C (δ := { v := .pv (.lit (.int .i64 (IntKind.i64.wrap ((i : Int) + 1)))) }) rfl rfl rfl rfl trivial rfl ?_)
          refine rvc_un (rexec_prim C (δ := { v := .pv (.lit (.int .i64 (IntKind.i64.wrap ((i : Int) + 1)))) }) rfl rfl rfl rfl trivial rfl ?_)
          refine rvc_nil ?_
          refine ⟨h13, (l ++ [x]), ?_, ?_⟩
          · exact ⟨hR, (by first | omega | (simp <;> omega))⟩
          · exact ⟨fun b => bif b == 900 then 34 else (fun b => b) b, WeakerR.ofL (Ks := [2, 4, 900]) hI ⟨⟨rfl, rfl⟩, ⟨rfl, rfl⟩, ⟨rfl, rfl⟩, ⟨grow_to rfl rfl app_ne rfl rfl, grow_within rfl⟩, ⟨rfl, rfl⟩, ⟨rfl, rfl⟩, ⟨lit_cast (wrap_i64 (by omega) (by omega)), rfl⟩, trivial⟩ (okH_grow (fun _ => rfl) rfl rfl (okH_cons rfl rfl rfl rfl (okH_cons rfl rfl rfl rfl (okH_nil)))) rfl⟩
        ·
          replace hR := of_false h16 hR
          refine rvc_open rfl rfl rfl (rexec_prim C (δ := { v := .ptr 8 2 }) rfl rfl rfl rfl trivial rfl ?_)
          refine rvc_open rfl rfl rfl (rexec_prim C (δ := { v := .pv (.lit (.bool x.fresh)) }) rfl rfl rfl rfl trivial rfl ?_)
          refine rvc_open rfl rfl rfl (rexec_prim C (δ := { v := .pv (.lit (.bool (!x.fresh))) }) rfl rfl rfl rfl trivial rfl ?_)
          refine rvc_open rfl rfl rfl (rexec_prim C (δ := { v := .pv (.lit (.bool (!x.fresh))) }) rfl rfl rfl rfl trivial rfl ?_)
          refine rvc_un (rexec_prim C (δ := { v := .pv (.lit (.bool (!x.fresh))) }) rfl rfl rfl rfl trivial rfl ?_)
          refine rvc_nil ?_
          refine Awp.cond (b := (!x.fresh)) rfl (fun h17 => ?_) (fun h17 => ?_)
          ·
            replace hR := of_true h17 hR
            refine Awp.region C (fun _ => .pure) (by kernel_rfl) ?_
            refine rvc_un (rexec_prim C (δ := { v := .sl 900 0 l.length 3 false }) rfl rfl rfl rfl trivial rfl ?_)
            refine rvc_un (rexec_prim C (δ := { v := .agg [.pv (.lit (.int .i64 x.node)), .pv (.lit (.int .i64 x.site)), .pv (.lit (.bool x.fresh))] }) rfl rfl rfl rfl trivial rfl ?_)
            refine rvc_un (rexec_buildSliceF C eMember [x] rfl rfl rfl rfl rfl rfl rfl (by decide) rfl ?_)
            refine rvc_un (rexec_append C rfl rfl rfl rfl rfl rfl rfl rfl (fun _ h => by cases h) rfl (en := eMember) (D0 := l) (D := [x]) rfl rfl rfl rfl (by have := of_decide_eq_true h12; have := of_decide_eq_false h16; first | omega | (simp <;> omega)) (by decide) (nn := (l ++ [x]).length) (by simp) ?_)
            refine rvc_un (rexec_prim C (δ := { v := .sl 34 0 ((l ++ [x]).length) 3 false }) rfl rfl rfl rfl trivial rfl ?_)
            refine rvc_nil ?_
            refine Awp.region C (fun _ => .pure) (by kernel_rfl) ?_
            refine rvc_un (rexec_prim C (δ := { v := .pv (.lit (.int .i64 (IntKind.i64.wrap ((i : Int) + 1)))) }) rfl rfl rfl rfl trivial rfl ?_)
            refine rvc_un (rexec_prim C (δ := { v := .pv (.lit (.int .i64 (IntKind.i64.wrap ((i : Int) + 1)))) }) rfl rfl rfl rfl trivial rfl ?_)
            refine rvc_nil ?_
            refine ⟨h13, (l ++ [x]), ?_, ?_⟩
            · exact ⟨hR, (by first | omega | (simp <;> omega))⟩
            · exact ⟨fun b => bif b == 900 then 34 else (fun b => b) b, WeakerR.ofL (Ks := [2, 4, 900]) hI ⟨⟨rfl, rfl⟩, ⟨rfl, rfl⟩, ⟨rfl, rfl⟩, ⟨grow_to rfl rfl app_ne rfl rfl, grow_within rfl⟩, ⟨rfl, rfl⟩, ⟨rfl, rfl⟩, ⟨lit_cast (wrap_i64 (by omega) (by omega)), rfl⟩, trivial⟩ (okH_grow (fun _ => rfl) rfl rfl (okH_cons rfl rfl rfl rfl (okH_cons rfl rfl rfl rfl (okH_nil)))) rfl⟩
          ·
            replace hR := of_false h17 hR
            refine Awp.skip ?_
            refine Awp.region C (fun _ => .pure) (by kernel_rfl) ?_
            refine rvc_un (rexec_prim C (δ := { v := .pv (.lit (.int .i64 (IntKind.i64.wrap ((i : Int) + 1)))) }) rfl rfl rfl rfl trivial rfl ?_)
            refine rvc_un (rexec_prim C (δ := { v := .pv (.lit (.int .i64 (IntKind.i64.wrap ((i : Int) + 1)))) }) rfl rfl rfl rfl trivial rfl ?_)
            refine rvc_nil ?_
            refine ⟨h13, l, ?_, ?_⟩
            · exact ⟨hR, (by first | omega | (simp <;> omega))⟩
            · exact ⟨fun b => b, WeakerR.ofL (Ks := [2, 4, 900]) hI ⟨⟨rfl, rfl⟩, ⟨rfl, rfl⟩, ⟨rfl, rfl⟩, ⟨grow_to rfl rfl h2 rfl rfl, grow_within rfl⟩, ⟨rfl, rfl⟩, ⟨rfl, rfl⟩, ⟨lit_cast (wrap_i64 (by omega) (by omega)), rfl⟩, trivial⟩ (okH_grow (fun _ => rfl) rfl rfl (okH_cons rfl rfl rfl rfl (okH_cons rfl rfl rfl rfl (okH_nil)))) rfl⟩
      ·
        replace hR := of_false h15 hR
        refine rvc_shut rfl rfl rfl rfl ?_
        refine rvc_shut rfl rfl rfl rfl ?_
        refine rvc_shut rfl rfl rfl rfl ?_
        refine rvc_shut rfl rfl rfl rfl ?_
        refine rvc_shutU rfl rfl rfl ?_
        refine rvc_shutU rfl rfl rfl ?_
        refine rvc_shutU rfl rfl rfl ?_
        refine rvc_shut rfl rfl rfl rfl ?_
        refine rvc_un (rexec_prim C (δ := { v := .pv (.lit (.bool false)) }) rfl rfl rfl rfl trivial rfl ?_)
        refine rvc_nil ?_
        refine Awp.condF (b := false) rfl rfl ?_
        refine Awp.skip ?_
        refine Awp.region C (fun _ => .pure) (by kernel_rfl) ?_
        refine rvc_un (rexec_prim C (δ := { v := .pv (.lit (.int .i64 (IntKind.i64.wrap ((i : Int) + 1)))) }) rfl rfl rfl rfl trivial rfl ?_)
        refine rvc_un (rexec_prim C (δ := { v := .pv (.lit (.int .i64 (IntKind.i64.wrap ((i : Int) + 1)))) }) rfl rfl rfl rfl trivial rfl ?_)
        refine rvc_nil ?_
        refine ⟨h13, l, ?_, ?_⟩
        · exact ⟨hR, (by first | omega | (simp <;> omega))⟩
        · exact ⟨fun b => b, WeakerR.ofL (Ks := [2, 4, 900]) hI ⟨⟨rfl, rfl⟩, ⟨rfl, rfl⟩, ⟨rfl, rfl⟩, ⟨grow_to rfl rfl h2 rfl rfl, grow_within rfl⟩, ⟨rfl, rfl⟩, ⟨rfl, rfl⟩, ⟨lit_cast (wrap_i64 (by omega) (by omega)), rfl⟩, trivial⟩ (okH_grow (fun _ => rfl) rfl rfl (okH_cons rfl rfl rfl rfl (okH_cons rfl rfl rfl rfl (okH_nil)))) rfl⟩
    ·
      have h13 : ¬ i < c.members.D.length := by have := of_decide_eq_false h12; omega
      rw [drop_end h13] at hR
      refine Awp.exit ?_
      refine Awp.seq ?_
      refine Awp.block ?_
      refine Awp.cons C (fun _ => .pure) (by kernel_rfl) ?_
      refine rvc_un (rexec_prim C (δ := { v := .ptr 2 0 }) rfl rfl rfl rfl trivial rfl ?_)
      refine rvc_un (rexec_prim C (δ := { v := .pv (.lit (.int .i64 c.epoch)) }) rfl rfl rfl rfl trivial rfl ?_)
      refine rvc_un (rexec_prim C (δ := { v := .pv (.lit (.bool (decide (c.epoch ≥ 1099511627776)))) }) rfl rfl rfl rfl trivial rfl ?_)
      refine rvc_un (rexec_prim C (δ := { v := .pv (.lit (.bool (decide (c.epoch ≥ 1099511627776)))) }) rfl rfl rfl rfl trivial rfl ?_)
      refine rvc_nil ?_
      refine Awp.cond (b := (decide (c.epoch ≥ 1099511627776))) rfl (fun h18 => ?_) (fun h18 => ?_)
      ·
        replace hR := of_true h18 hR
        refine Awp.cons C (fun _ => .pure) (by kernel_rfl) ?_
        refine rvc_un (rexec_prim C (δ := { v := .agg [.pv (.lit (.int .i64 0)), sS (some true) eMember []] }) rfl rfl rfl rfl trivial rfl ?_)
        refine rvc_un (rexec_prim C (δ := { v := .undef, wr := [(4, some (.cells [.pv (.lit (.int .i64 0)), sS (some true) eMember []]))] }) rfl rfl rfl rfl trivial rfl ?_) -- tNone store
        refine rvc_un (rexec_prim C (δ := { v := .pv (.lit (.int .i64 5)) }) rfl rfl rfl rfl trivial rfl ?_)
        refine rvc_nil ?_
        refine Awp.ret ?_
        subst hR
        exact ⟨.inl rfl, rfl⟩
      ·
        replace hR := of_false h18 hR
        refine Awp.cons C (fun _ => .pure) (by kernel_rfl) ?_
        refine rvc_un (rexec_prim C (δ := { v := .sl 900 0 l.length 3 false }) rfl rfl rfl rfl trivial rfl ?_)
        refine rvc_un (rexec_prim C (δ := { v := .pv (.lit (.int .i64 (l.length : Int))) }) rfl rfl rfl rfl trivial rfl ?_)
        refine rvc_un (rexec_prim C (δ := { v := .ptr 2 1 }) rfl rfl rfl rfl trivial rfl ?_)
        refine rvc_un (rexec_prim C (δ := { v := sS (some c.members.nil) eMember c.members.D }) rfl rfl rfl rfl trivial rfl ?_)
        refine rvc_un (rexec_prim C (δ := { v := .pv (.lit (.int .i64 (c.members.D.length : Int))) }) rfl rfl rfl rfl trivial rfl ?_)
        refine rvc_un (rexec_prim C (δ := { v := .pv (.lit (.bool ((l.length : Int) == (c.members.D.length : Int)))) }) rfl rfl rfl rfl trivial rfl ?_)
        refine rvc_un (rexec_prim C (δ := { v := .pv (.lit (.bool ((l.length : Int) == (c.members.D.length : Int)))) }) rfl rfl rfl rfl trivial rfl ?_)
        refine rvc_nil ?_
        refine Awp.cond (b := ((l.length : Int) == (c.members.D.length : Int))) rfl (fun h19 => ?_) (fun h19 => ?_)
        ·
          replace hR := of_true h19 hR
          refine Awp.cons C (fun _ => .pure) (by kernel_rfl) ?_
          refine rvc_un (rexec_prim C (δ := { v := .agg [.pv (.lit (.int .i64 0)), sS (some true) eMember []] }) rfl rfl rfl rfl trivial rfl ?_)
          refine rvc_un (rexec_prim C (δ := { v := .undef, wr := [(4, some (.cells [.pv (.lit (.int .i64 0)), sS (some true) eMember []]))] }) rfl rfl rfl rfl trivial rfl ?_) -- tNone store
          refine rvc_un (rexec_prim C (δ := { v := .pv (.lit (.int .i64 81)) }) rfl rfl rfl rfl trivial rfl ?_)
          refine rvc_nil ?_
          refine Awp.ret ?_
          subst hR
          exact ⟨.inl rfl, rfl⟩
        ·
          replace hR := of_false h19 hR
          refine Awp.cons C (fun _ => .pure) (by kernel_rfl) ?_
          refine rvc_un (rexec_prim C (δ := { v := .sl 900 0 l.length 3 false }) rfl rfl rfl rfl trivial rfl ?_)
          refine rvc_un (rexec_prim C (δ := { v := .pv (.lit (.int .i64 (l.length : Int))) }) rfl rfl rfl rfl trivial rfl ?_)
          refine rvc_un (rexec_prim C (δ := { v := .pv (.lit (.bool ((l.length : Int) == 0))) }) rfl rfl rfl rfl trivial rfl ?_)
          refine rvc_un (rexec_prim C (δ := { v := .pv (.lit (.bool ((l.length : Int) == 0))) }) rfl rfl rfl rfl trivial rfl ?_)
          refine rvc_nil ?_
          refine Awp.cond (b := ((l.length : Int) == 0)) rfl (fun h20 => ?_) (fun h20 => ?_)
          ·
            replace hR := of_true h20 hR
            refine Awp.cons C (fun _ => .pure) (by kernel_rfl) ?_
            refine rvc_un (rexec_prim C (δ := { v := .agg [.pv (.lit (.int .i64 0)), sS (some true) eMember []] }) rfl rfl rfl rfl trivial rfl ?_)
            refine rvc_un (rexec_prim C (δ := { v := .undef, wr := [(4, some (.cells [.pv (.lit (.int .i64 0)), sS (some true) eMember []]))] }) rfl rfl rfl rfl trivial rfl ?_) -- tNone store
            refine rvc_un (rexec_prim C (δ := { v := .pv (.lit (.int .i64 83)) }) rfl rfl rfl rfl trivial rfl ?_)
            refine rvc_nil ?_
            refine Awp.ret ?_
            subst hR
            exact ⟨.inl rfl, rfl⟩
          ·
            replace hR := of_false h20 hR
            refine Awp.skip ?_
            refine Awp.freezeW 900 (encL eMember l) ?_ [(2, .ptr 2 0), (4, .ptr 4 0), (6, sS (some l.isEmpty) eMember l)] [(2, .cells [.pv (.lit (.int .i64 c.epoch)), sS (some c.members.nil) eMember c.members.D]), (4, .cells [.pv (.lit (.int .i64 0)), sS (some true) eMember []])] ?_ ?_ ?_
            · rfl
            · exact ⟨⟨_, rfl, .inl (.inl rfl)⟩, ⟨_, rfl, .inl (.inl rfl)⟩, ⟨_, rfl, .inl (.inr ⟨_, _, _, rfl, by rw [ne_isEmpty h2]; rfl⟩)⟩, trivial⟩
            · exact ⟨⟨(by show (2 : Nat) ≠ 900; decide), .inl rfl⟩, ⟨(by show (4 : Nat) ≠ 900; decide), .inl rfl⟩, trivial⟩
            refine Awp.cons C (fun _ => .pure) (by kernel_rfl) ?_
            refine rvc_un (rexec_prim C (δ := { v := .agg [.pv (.lit (.int .i64 c.epoch)), sS (some c.members.nil) eMember c.members.D] }) rfl rfl rfl rfl trivial rfl ?_)
            refine rvc_un (rexec_prim C (δ := { v := sS (some l.isEmpty) eMember l }) rfl rfl rfl rfl trivial rfl ?_)
            refine rvc_un (rexec_call hP C rfl rfl rfl (after_calls c (Sl.mk l.isEmpty l)) ?_)
            refine rvc_un (rexec_prim C (δ := { v := .undef, wr := [(4, some (.cells [.pv (.lit (.int .i64 ((after c (Sl.mk l.isEmpty l)).epoch))), sS (some (after c (Sl.mk l.isEmpty l)).members.nil) eMember ((after c (Sl.mk l.isEmpty l)).members.D)]))] }) rfl rfl rfl rfl trivial rfl ?_) -- tNone store
            refine rvc_un (rexec_prim C (δ := { v := .pv (.lit (.int .i64 0)) }) rfl rfl rfl rfl trivial rfl ?_)
            refine rvc_nil ?_
            refine Awp.ret ?_
            subst hR
            exact ⟨.inl rfl, rfl⟩

def firstC_l1 (i : Nat) (kk : (List Member) → (Chain × Int)) : List Member → Nat → (List Member) → Chain × Int
  | [], _, vc1 => kk vc1
  | x :: xs, i1, vc1 => (bif (x.site == (i : Int)) then firstC_l1 i kk xs (i1 + 1) (vc1 ++ [(Member.mk x.node x.site false)]) else firstC_l1 i kk xs (i1 + 1) vc1)
def firstC_l0 (l : (Sl Member)) : Nat → Nat → (List Member) → Chain × Int
  | 0, _, vc => (bif ((vc.length : Int) != (l.D.length : Int)) then ((Chain.mk 0 (Sl.mk true [])), 80) else (bif ((check (Chain.mk 1 (Sl.mk vc.isEmpty vc))) != 0) then ((Chain.mk 0 (Sl.mk true [])), 80) else ((Chain.mk 1 (Sl.mk vc.isEmpty vc)), 0)))
  | k + 1, i, vc => firstC_l1 i (fun vc2 => firstC_l0 l k (i + 1) vc2) l.D 0 vc
def firstC (l : (Sl Member)) : Chain × Int :=
  firstC_l0 l 3 0 []
theorem firstC_calls (l : (Sl Member)) (hl1 : l.D.length ≤ 1000000) : PCalls Try.prog 34 [sS (some l.nil) eMember l.D] (.tup [.agg [.pv (.lit (.int .i64 ((firstC l).1.epoch))), sS (some (firstC l).1.members.nil) eMember ((firstC l).1.members.D)], .pv (.lit (.int .i64 ((firstC l).2)))]) := by
  generalize hR : firstC l = R
  refine PCalls.of_body tabOk Try.func34 rfl rfl rfl rfl rfl mixed fun E hP C hI => ?_
  refine Awp.cons C (fun _ => .pure) (by kernel_rfl) ?_
  refine rvc_un (rexec_prim C (δ := { v := .ptr 2 0, new := [(2, .cells [.pv (.lit (.int .i64 0)), sS (some true) eMember []])] }) rfl rfl rfl rfl trivial rfl ?_)
  refine rvc_un (rexec_prim C (δ := { v := .pv (.lit (.int .i64 0)) }) rfl rfl rfl rfl trivial rfl ?_)
  refine rvc_nil ?_
  refine Awp.cons C (fun _ => .pure) (by kernel_rfl) ?_
  refine rvc_un (rexec_prim C (δ := { v := .agg [.pv (.lit (.int .i64 1)), sS (some true) eMember []] }) rfl rfl rfl rfl trivial rfl ?_)
  refine rvc_un (rexec_prim C (δ := { v := .ptr 4 0, new := [(4, .cells [.pv (.lit (.int .i64 0)), sS (some true) eMember []])] }) rfl rfl rfl rfl trivial rfl ?_)
  refine rvc_un (rexec_prim C (δ := { v := .undef, wr := [(4, some (.cells [.pv (.lit (.int .i64 1)), sS (some true) eMember []]))] }) rfl rfl rfl rfl trivial rfl ?_) -- tNone store
  refine rvc_nil ?_
  refine Awp.seq ?_
  refine Awp.cons C (fun _ => .pure) (by kernel_rfl) ?_
  refine rvc_un (rexec_prim C (δ := { v := .pv (.lit (.int .i64 0)) }) rfl rfl rfl rfl trivial rfl ?_)
  refine rvc_nil ?_
  refine Awp.block ?_
  refine Awp.forR (σ := ((List Member))) (3) (fun i v => [(0, sS (some l.nil) eMember l.D), (2, .ptr 2 0), (4, .ptr 4 0), (9, .pv (.lit (.int .i64 (i : Int))))]) (fun i v => (growH 900 eMember v ++ ([(2, .cells [.pv (.lit (.int .i64 0)), sS (some true) eMember []]), (4, .cells [.pv (.lit (.int .i64 1)), grow 900 eMember v])]))) [2, 4, 900] (fun i v => (firstC_l0 l (3 - i) i v = R) ∧ (v.length ≤ i * 1000000)) [] ?_ ?_ (fun i vc h1 hR => ?_)
  · exact ⟨hR, (by first | omega | (simp <;> omega))⟩
  · exact ⟨fun b => b, WeakerR.ofL (Ks := [2, 4, 900]) hI ⟨⟨rfl, rfl⟩, ⟨rfl, rfl⟩, ⟨rfl, rfl⟩, ⟨rfl, rfl⟩, trivial⟩ (okH_grow (fun hne => absurd rfl hne) rfl rfl (okH_cons rfl rfl rfl rfl (okH_cons (cellsTo rfl (by exact ⟨rfl, grow_to_nil rfl rfl (.inl rfl), trivial⟩)) rfl rfl (win_cells (by exact ⟨rfl, grow_within rfl, trivial⟩)) (okH_nil)))) rfl⟩
  obtain ⟨hR, hi_vc⟩ := hR
  replace hi_vc : vc.length ≤ i * 1000000 := hi_vc
  by_cases h2 : vc = []
  ·
    refine Awp.wordsR [(0, sS (some l.nil) eMember l.D), (2, .ptr 2 0), (4, .ptr 4 0), (9, .pv (.lit (.int .i64 (i : Int))))] [(2, .cells [.pv (.lit (.int .i64 0)), sS (some true) eMember []]), (4, .cells [.pv (.lit (.int .i64 1)), sS (some vc.isEmpty) eMember vc])] [2, 4] (WeakerR.ofL (Ks := [2, 4]) hI ⟨⟨rfl, rfl⟩, ⟨rfl, rfl⟩, ⟨rfl, rfl⟩, ⟨rfl, rfl⟩, trivial⟩ (okH_cons (look_nil h2 rfl) rfl rfl rfl (okH_cons (cellsTo (look_nil h2 rfl) (by exact ⟨rfl, (by exact grow_at_nil (b := 900) (e := eMember) (l := vc) rfl h2), trivial⟩)) rfl rfl (win_cells (by exact ⟨rfl, rfl, trivial⟩)) (okH_nil))) rfl) ?_
    refine Awp.cons C (fun _ => .pure) (by kernel_rfl) ?_
    refine rvc_un (rexec_prim C (δ := { v := .pv (.lit (.bool (decide ((i : Int) < 3)))) }) rfl rfl rfl rfl trivial rfl ?_)
    refine rvc_nil ?_
    refine Awp.seq ?_
    refine Awp.cond (b := (decide ((i : Int) < 3))) rfl (fun h3 => ?_) (fun h3 => ?_)
    ·
      have h4 : i < 3 := by have := of_decide_eq_true h3; omega
      obtain ⟨k, h5⟩ : ∃ k, 3 - i = k + 1 := ⟨3 - i - 1, by omega⟩
      rw [h5] at hR
      refine Awp.skip ?_
      refine Awp.seq ?_
      refine Awp.block ?_
      refine Awp.cons C (fun _ => .pure) (by kernel_rfl) ?_
      refine rvc_un (rexec_prim C (δ := { v := .pv (.lit (.int .i64 (i : Int))) }) rfl rfl rfl rfl trivial rfl ?_)
      refine rvc_un (rexec_prim C (δ := { v := .pv (.lit (.int .i64 (i : Int))) }) rfl rfl rfl rfl trivial rfl ?_)
      refine rvc_nil ?_
      refine Awp.cons C (fun _ => .pure) (by kernel_rfl) ?_
      refine rvc_un (rexec_prim C (δ := { v := sS (some l.nil) eMember l.D }) rfl rfl rfl rfl trivial rfl ?_)
      refine rvc_un (rexec_prim C (δ := { v := .pv (.lit (.int .i64 (l.D.length : Int))) }) rfl rfl rfl rfl trivial rfl ?_)
      refine rvc_un (rexec_prim C (δ := { v := .pv (.lit (.int .i64 0)) }) rfl rfl rfl rfl trivial rfl ?_)
      refine rvc_nil ?_
      refine Awp.block ?_
      refine Awp.forR (σ := ((List Member))) (l.D.length) (fun i1 v => [(0, sS (some l.nil) eMember l.D), (2, .ptr 2 0), (4, .ptr 4 0), (5, .pv (.lit (.int .i64 (i : Int)))), (9, .pv (.lit (.int .i64 (i : Int)))), (12, sS (some l.nil) eMember l.D), (13, .pv (.lit (.int .i64 (l.D.length : Int)))), (14, .pv (.lit (.int .i64 (i1 : Int))))]) (fun i1 v => (growH 901 eMember v ++ ([(2, .cells [.pv (.lit (.int .i64 0)), sS (some true) eMember []]), (4, .cells [.pv (.lit (.int .i64 1)), grow 901 eMember v])]))) [2, 4, 901] (fun i1 v => (firstC_l1 i (fun vc1 => firstC_l0 l k (i + 1) vc1) (l.D.drop i1) i1 v = R) ∧ (v.length ≤ vc.length + i1)) vc ?_ ?_ (fun i1 vc1 h6 hR => ?_)
      · exact ⟨hR, (by first | omega | (simp <;> omega))⟩
      · exact ⟨fun b => b, WeakerR.ofL (Ks := [2, 4, 901]) hI ⟨⟨rfl, rfl⟩, ⟨rfl, rfl⟩, ⟨rfl, rfl⟩, ⟨rfl, rfl⟩, ⟨rfl, rfl⟩, ⟨rfl, rfl⟩, ⟨rfl, rfl⟩, ⟨rfl, rfl⟩, trivial⟩ (okH_grow (fun hne => absurd h2 hne) rfl rfl (okH_cons rfl rfl rfl rfl (okH_cons (cellsTo rfl (by exact ⟨rfl, grow_to_nil rfl h2 (.inr rfl), trivial⟩)) rfl rfl (win_cells (by exact ⟨rfl, grow_within rfl, trivial⟩)) (okH_nil)))) rfl⟩
      obtain ⟨hR, hi_vc1⟩ := hR
      replace hi_vc1 : vc1.length ≤ vc.length + i1 := hi_vc1
      by_cases h7 : vc1 = []
      ·
        refine Awp.wordsR [(0, sS (some l.nil) eMember l.D), (2, .ptr 2 0), (4, .ptr 4 0), (5, .pv (.lit (.int .i64 (i : Int)))), (9, .pv (.lit (.int .i64 (i : Int)))), (12, sS (some l.nil) eMember l.D), (13, .pv (.lit (.int .i64 (l.D.length : Int)))), (14, .pv (.lit (.int .i64 (i1 : Int))))] [(2, .cells [.pv (.lit (.int .i64 0)), sS (some true) eMember []]), (4, .cells [.pv (.lit (.int .i64 1)), sS (some vc1.isEmpty) eMember vc1])] [2, 4] (WeakerR.ofL (Ks := [2, 4]) hI ⟨⟨rfl, rfl⟩, ⟨rfl, rfl⟩, ⟨rfl, rfl⟩, ⟨rfl, rfl⟩, ⟨rfl, rfl⟩, ⟨rfl, rfl⟩, ⟨rfl, rfl⟩, ⟨rfl, rfl⟩, trivial⟩ (okH_cons (look_nil h7 rfl) rfl rfl rfl (okH_cons (cellsTo (look_nil h7 rfl) (by exact ⟨rfl, (by exact grow_at_nil (b := 901) (e := eMember) (l := vc1) rfl h7), trivial⟩)) rfl rfl (win_cells (by exact ⟨rfl, rfl, trivial⟩)) (okH_nil))) rfl) ?_
        refine Awp.cons C (fun _ => .pure) (by kernel_rfl) ?_
        refine rvc_un (rexec_prim C (δ := { v := .pv (.lit (.bool (decide ((i1 : Int) < (l.D.length : Int))))) }) rfl rfl rfl rfl trivial rfl ?_)
        refine rvc_nil ?_
        refine Awp.seq ?_
        refine Awp.cond (b := (decide ((i1 : Int) < (l.D.length : Int)))) rfl (fun h8 => ?_) (fun h8 => ?_)
        ·
          have h9 : i1 < l.D.length := by have := of_decide_eq_true h8; omega
          obtain ⟨x, h10⟩ := getX h9
          rw [drop_at h10] at hR
          refine Awp.skip ?_
          refine Awp.seq ?_
          refine Awp.block ?_
          refine Awp.cons C (fun _ => .pure) (by kernel_rfl) ?_
          refine rvc_un (rexec_idxS C rfl rfl rfl rfl rfl rfl x (Int.natCast_nonneg _) h10 ?_)
          refine rvc_un (rexec_prim C (δ := { v := .agg [.pv (.lit (.int .i64 x.node)), .pv (.lit (.int .i64 x.site)), .pv (.lit (.bool x.fresh))] }) rfl rfl rfl rfl trivial rfl ?_)
          refine rvc_un (rexec_prim C (δ := { v := .ptr 7 0, new := [(7, .cells [.pv (.lit (.int .i64 0)), .pv (.lit (.int .i64 0)), .pv (.lit (.bool false))])] }) rfl rfl rfl rfl trivial rfl ?_)
          refine rvc_un (rexec_prim C (δ := { v := .undef, wr := [(7, some (.cells [.pv (.lit (.int .i64 x.node)), .pv (.lit (.int .i64 x.site)), .pv (.lit (.bool x.fresh))]))] }) rfl rfl rfl rfl trivial rfl ?_) -- tNone store
          refine rvc_nil ?_
          refine Awp.cons C (fun _ => .pure) (by kernel_rfl) ?_
          refine rvc_un (rexec_prim C (δ := { v := .ptr 7 1 }) rfl rfl rfl rfl trivial rfl ?_)
          refine rvc_un (rexec_prim C (δ := { v := .pv (.lit (.int .i64 x.site)) }) rfl rfl rfl rfl trivial rfl ?_)
          refine rvc_un (rexec_prim C (δ := { v := .pv (.lit (.int .i64 (i : Int))) }) rfl rfl rfl rfl trivial rfl ?_)
          refine rvc_un (rexec_prim C (δ := { v := .pv (.lit (.bool (x.site == (i : Int)))) }) rfl rfl rfl rfl trivial rfl ?_)
          refine rvc_nil ?_
          refine Awp.cond (b := (x.site == (i : Int))) rfl (fun h11 => ?_) (fun h11 => ?_)
          ·
            replace hR := of_true h11 hR
            refine Awp.cons C (fun _ => .pure) (by kernel_rfl) ?_
            refine rvc_un (rexec_prim C (δ := { v := .ptr 7 2 }) rfl rfl rfl rfl trivial rfl ?_)
            refine rvc_un (rexec_prim C (δ := { v := .undef, wr := [(7, some (.cells [.pv (.lit (.int .i64 x.node)), .pv (.lit (.int .i64 x.site)), .pv (.lit (.bool false))]))] }) rfl rfl rfl rfl trivial rfl ?_) -- tNone store
            refine rvc_nil ?_
            refine Awp.region C (fun _ => .pure) (by kernel_rfl) ?_
            refine rvc_un (rexec_prim C (δ := { v := .ptr 4 1 }) rfl rfl rfl rfl trivial rfl ?_)
            refine rvc_un (rexec_prim C (δ := { v := sS (some vc1.isEmpty) eMember vc1 }) rfl rfl rfl rfl trivial rfl ?_)
            refine rvc_un (rexec_prim C (δ := { v := .agg [.pv (.lit (.int .i64 x.node)), .pv (.lit (.int .i64 x.site)), .pv (.lit (.bool false))] }) rfl rfl rfl rfl trivial rfl ?_)
            refine rvc_un (rexec_buildSliceF C eMember [(Member.mk x.node x.site false)] rfl rfl rfl rfl rfl rfl rfl (by decide) rfl ?_)
            refine rvc_un (rexec_appendG C rfl rfl rfl rfl rfl rfl rfl rfl (fun _ h => by cases h) rfl (en := eMember) (l := vc1) (D := [(Member.mk x.node x.site false)]) rfl rfl h7 (by rw [h7]; rfl) (by simp) (by have := of_decide_eq_true h3; have := of_decide_eq_true h8; have := beq_iff_eq.1 h11; first | omega | (simp <;> omega)) (by decide) (nn := (vc1 ++ [(Member.mk x.node x.site false)]).length) (by simp) ?_)
            refine rvc_un (rexec_prim C (δ := { v := .ptr 4 1 }) rfl rfl rfl rfl trivial rfl ?_)
            refine rvc_un (rexec_prim C (δ := { v := .undef, wr := [(4, some (.cells [.pv (.lit (.int .i64 1)), .sl 27 0 ((vc1 ++ [(Member.mk x.node x.site false)]).length) 3 false]))] }) rfl rfl rfl rfl trivial rfl ?_) -- tNone store
            refine rvc_nil ?_
            refine Awp.region C (fun _ => .pure) (by kernel_rfl) ?_
            refine rvc_un (rexec_prim C (δ := { v := .pv (.lit (.int .i64 (IntKind.i64.wrap ((i1 : Int) + 1)))) }) rfl rfl rfl rfl trivial rfl ?_)
            refine rvc_un (rexec_prim C (δ := { v := .pv (.lit (.int .i64 (IntKind.i64.wrap ((i1 : Int) + 1)))) }) rfl rfl rfl rfl trivial rfl ?_)
            refine rvc_nil ?_
            refine ⟨h9, (vc1 ++ [(Member.mk x.node x.site false)]), ?_, ?_⟩
            · exact ⟨hR, (by first | omega | (simp <;> omega))⟩
            · exact ⟨fun b => bif b == 901 then 27 else (fun b => b) b, WeakerR.ofL (Ks := [2, 4, 901]) hI ⟨⟨rfl, rfl⟩, ⟨rfl, rfl⟩, ⟨rfl, rfl⟩, ⟨rfl, rfl⟩, ⟨rfl, rfl⟩, ⟨rfl, rfl⟩, ⟨rfl, rfl⟩, ⟨lit_cast (wrap_i64 (by omega) (by omega)), rfl⟩, trivial⟩ (okH_grow (fun _ => rfl) rfl rfl (okH_cons rfl rfl rfl rfl (okH_cons (cellsTo rfl (by exact ⟨rfl, grow_to rfl rfl app_ne rfl rfl, trivial⟩)) rfl rfl (win_cells (by exact ⟨rfl, grow_within rfl, trivial⟩)) (okH_nil)))) rfl⟩
          ·
            replace hR := of_false h11 hR
            refine Awp.skip ?_
            refine Awp.region C (fun _ => .pure) (by kernel_rfl) ?_
            refine rvc_un (rexec_prim C (δ := { v := .pv (.lit (.int .i64 (IntKind.i64.wrap ((i1 : Int) + 1)))) }) rfl rfl rfl rfl trivial rfl ?_)
            refine rvc_un (rexec_prim C (δ := { v := .pv (.lit (.int .i64 (IntKind.i64.wrap ((i1 : Int) + 1)))) }) rfl rfl rfl rfl trivial rfl ?_)
            refine rvc_nil ?_
            refine ⟨h9, vc1, ?_, ?_⟩
            · exact ⟨hR, (by first | omega | (simp <;> omega))⟩
            · exact ⟨fun b => b, WeakerR.ofL (Ks := [2, 4, 901]) hI ⟨⟨rfl, rfl⟩, ⟨rfl, rfl⟩, ⟨rfl, rfl⟩, ⟨rfl, rfl⟩, ⟨rfl, rfl⟩, ⟨rfl, rfl⟩, ⟨rfl, rfl⟩, ⟨lit_cast (wrap_i64 (by omega) (by omega)), rfl⟩, trivial⟩ (okH_grow (fun hne => absurd h7 hne) rfl rfl (okH_cons rfl rfl rfl rfl (okH_cons (cellsTo rfl (by exact ⟨rfl, grow_to_nil rfl h7 (.inr rfl), trivial⟩)) rfl rfl (win_cells (by exact ⟨rfl, grow_within rfl, trivial⟩)) (okH_nil)))) rfl⟩
        ·
          have h9 : ¬ i1 < l.D.length := by have := of_decide_eq_false h8; omega
          rw [drop_end h9] at hR
          refine Awp.exit ?_
          refine Awp.region C (fun _ => .pure) (by kernel_rfl) ?_
          refine rvc_un (rexec_prim C (δ := { v := .pv (.lit (.int .i64 (IntKind.i64.wrap ((i : Int) + 1)))) }) rfl rfl rfl rfl trivial rfl ?_)
          refine rvc_un (rexec_prim C (δ := { v := .pv (.lit (.int .i64 (IntKind.i64.wrap ((i : Int) + 1)))) }) rfl rfl rfl rfl trivial rfl ?_)
          refine rvc_nil ?_
          refine ⟨h4, vc1, ?_, ?_⟩
          · exact ⟨(by rw [show 3 - (i + 1) = k by omega]; exact hR), (by first | omega | (simp <;> omega))⟩
          · exact ⟨fun b => b, WeakerR.ofL (Ks := [2, 4, 900]) hI ⟨⟨rfl, rfl⟩, ⟨rfl, rfl⟩, ⟨rfl, rfl⟩, ⟨lit_cast (wrap_i64 (by omega) (by omega)), rfl⟩, trivial⟩ (okH_grow (fun hne => absurd h7 hne) rfl rfl (okH_cons rfl rfl rfl rfl (okH_cons (cellsTo rfl (by exact ⟨rfl, grow_to_nil rfl h7 (.inr rfl), trivial⟩)) rfl rfl (win_cells (by exact ⟨rfl, grow_within rfl, trivial⟩)) (okH_nil)))) rfl⟩
      ·
        refine Awp.wordsR [(0, sS (some l.nil) eMember l.D), (2, .ptr 2 0), (4, .ptr 4 0), (5, .pv (.lit (.int .i64 (i : Int)))), (9, .pv (.lit (.int .i64 (i : Int)))), (12, sS (some l.nil) eMember l.D), (13, .pv (.lit (.int .i64 (l.D.length : Int)))), (14, .pv (.lit (.int .i64 (i1 : Int))))] [(901, .cells (encC eMember vc1)), (2, .cells [.pv (.lit (.int .i64 0)), sS (some true) eMember []]), (4, .cells [.pv (.lit (.int .i64 1)), .sl 901 0 vc1.length 3 false])] [2, 4, 901] (WeakerR.ofL (Ks := [2, 4, 901]) hI ⟨⟨rfl, rfl⟩, ⟨rfl, rfl⟩, ⟨rfl, rfl⟩, ⟨rfl, rfl⟩, ⟨rfl, rfl⟩, ⟨rfl, rfl⟩, ⟨rfl, rfl⟩, ⟨rfl, rfl⟩, trivial⟩ (okH_list (look_cons h7 rfl) rfl rfl (okH_cons (look_cons h7 rfl) rfl rfl rfl (okH_cons (cellsTo (look_cons h7 rfl) (by exact ⟨rfl, (by exact grow_at_cons (b := 901) (b' := 901) (e := eMember) (l := vc1) rfl h7 rfl rfl rfl), trivial⟩)) rfl rfl (win_cells (by exact ⟨rfl, rfl, trivial⟩)) (okH_nil)))) rfl) ?_
        refine Awp.cons C (fun _ => .pure) (by kernel_rfl) ?_
        refine rvc_un (rexec_prim C (δ := { v := .pv (.lit (.bool (decide ((i1 : Int) < (l.D.length : Int))))) }) rfl rfl rfl rfl trivial rfl ?_)
        refine rvc_nil ?_
        refine Awp.seq ?_
        refine Awp.cond (b := (decide ((i1 : Int) < (l.D.length : Int)))) rfl (fun h12 => ?_) (fun h12 => ?_)
        ·
          have h13 : i1 < l.D.length := by have := of_decide_eq_true h12; omega
          obtain ⟨x, h14⟩ := getX h13
          rw [drop_at h14] at hR
          refine Awp.skip ?_
          refine Awp.seq ?_
          refine Awp.block ?_
          refine Awp.cons C (fun _ => .pure) (by kernel_rfl) ?_
          refine rvc_un (rexec_idxS C rfl rfl rfl rfl rfl rfl x (Int.natCast_nonneg _) h14 ?_)
          refine rvc_un (rexec_prim C (δ := { v := .agg [.pv (.lit (.int .i64 x.node)), .pv (.lit (.int .i64 x.site)), .pv (.lit (.bool x.fresh))] }) rfl rfl rfl rfl trivial rfl ?_)
          refine rvc_un (rexec_prim C (δ := { v := .ptr 7 0, new := [(7, .cells [.pv (.lit (.int .i64 0)), .pv (.lit (.int .i64 0)), .pv (.lit (.bool false))])] }) rfl rfl rfl rfl trivial rfl ?_)
          refine rvc_un (rexec_prim C (δ := { v := .undef, wr := [(7, some (.cells [.pv (.lit (.int .i64 x.node)), .pv (.lit (.int .i64 x.site)), .pv (.lit (.bool x.fresh))]))] }) rfl rfl rfl rfl trivial rfl ?_) -- tNone store
          refine rvc_nil ?_
          refine Awp.cons C (fun _ => .pure) (by kernel_rfl) ?_
          refine rvc_un (rexec_prim C (δ := { v := .ptr 7 1 }) rfl rfl rfl rfl trivial rfl ?_)
          refine rvc_un (rexec_prim C (δ := { v := .pv (.lit (.int .i64 x.site)) }) rfl rfl rfl rfl trivial rfl ?_)
          refine rvc_un (rexec_prim C (δ := { v := .pv (.lit (.int .i64 (i : Int))) }) rfl rfl rfl rfl trivial rfl ?_)
          refine rvc_un (rexec_prim C (δ := { v := .pv (.lit (.bool (x.site == (i : Int)))) }) rfl rfl rfl rfl trivial rfl ?_)
          refine rvc_nil ?_
          refine Awp.cond (b := (x.site == (i : Int))) rfl (fun h15 => ?_) (fun h15 => ?_)
          ·
            replace hR := of_true h15 hR
            refine Awp.cons C (fun _ => .pure) (by kernel_rfl) ?_
            refine rvc_un (rexec_prim C (δ := { v := .ptr 7 2 }) rfl rfl rfl rfl trivial rfl ?_)
            refine rvc_un (rexec_prim C (δ := { v := .undef, wr := [(7, some (.cells [.pv (.lit (.int .i64 x.node)), .pv (.lit (.int .i64 x.site)), .pv (.lit (.bool false))]))] }) rfl rfl rfl rfl trivial rfl ?_) -- tNone store
            refine rvc_nil ?_
            refine Awp.region C (fun _ => .pure) (by kernel_rfl) ?_
            refine rvc_un (rexec_prim C (δ := { v := .ptr 4 1 }) rfl rfl rfl rfl trivial rfl ?_)
            refine rvc_un (rexec_prim C (δ := { v := .sl 901 0 vc1.length 3 false }) rfl rfl rfl rfl trivial rfl ?_)
            refine rvc_un (rexec_prim C (δ := { v := .agg [.pv (.lit (.int .i64 x.node)), .pv (.lit (.int .i64 x.site)), .pv (.lit (.bool false))] }) rfl rfl rfl rfl trivial rfl ?_)
            refine rvc_un (rexec_buildSliceF C eMember [(Member.mk x.node x.site false)] rfl rfl rfl rfl rfl rfl rfl (by decide) rfl ?_)
            refine rvc_un (rexec_append C rfl rfl rfl rfl rfl rfl rfl rfl (fun _ h => by cases h) rfl (en := eMember) (D0 := vc1) (D := [(Member.mk x.node x.site false)]) rfl rfl rfl rfl (by have := of_decide_eq_true h3; have := of_decide_eq_true h12; have := beq_iff_eq.1 h15; first | omega | (simp <;> omega)) (by decide) (nn := (vc1 ++ [(Member.mk x.node x.site false)]).length) (by simp) ?_)
            refine rvc_un (rexec_prim C (δ := { v := .ptr 4 1 }) rfl rfl rfl rfl trivial rfl ?_)
            refine rvc_un (rexec_prim C (δ := { v := .undef, wr := [(4, some (.cells [.pv (.lit (.int .i64 1)), .sl 27 0 ((vc1 ++ [(Member.mk x.node x.site false)]).length) 3 false]))] }) rfl rfl rfl rfl trivial rfl ?_) -- tNone store
            refine rvc_nil ?_
            refine Awp.region C (fun _ => .pure) (by kernel_rfl) ?_
            refine rvc_un (rexec_prim C (δ := { v := .pv (.lit (.int .i64 (IntKind.i64.wrap ((i1 : Int) + 1)))) }) rfl rfl rfl rfl trivial rfl ?_)
            refine rvc_un (rexec_prim C (δ := { v := .pv (.lit (.int .i64 (IntKind.i64.wrap ((i1 : Int) + 1)))) }) rfl rfl rfl rfl trivial rfl ?_)
            refine rvc_nil ?_
            refine ⟨h13, (vc1 ++ [(Member.mk x.node x.site false)]), ?_, ?_⟩
            · exact ⟨hR, (by first | omega | (simp <;> omega))⟩
            · exact ⟨fun b => bif b == 901 then 27 else (fun b => b) b, WeakerR.ofL (Ks := [2, 4, 901]) hI ⟨⟨rfl, rfl⟩, ⟨rfl, rfl⟩, ⟨rfl, rfl⟩, ⟨rfl, rfl⟩, ⟨rfl, rfl⟩, ⟨rfl, rfl⟩, ⟨rfl, rfl⟩, ⟨lit_cast (wrap_i64 (by omega) (by omega)), rfl⟩, trivial⟩ (okH_grow (fun _ => rfl) rfl rfl (okH_cons rfl rfl rfl rfl (okH_cons (cellsTo rfl (by exact ⟨rfl, grow_to rfl rfl app_ne rfl rfl, trivial⟩)) rfl rfl (win_cells (by exact ⟨rfl, grow_within rfl, trivial⟩)) (okH_nil)))) rfl⟩
          ·
            replace hR := of_false h15 hR
            refine Awp.skip ?_
            refine Awp.region C (fun _ => .pure) (by kernel_rfl) ?_
            refine rvc_un (rexec_prim C (δ := { v := .pv (.lit (.int .i64 (IntKind.i64.wrap ((i1 : Int) + 1)))) }) rfl rfl rfl rfl trivial rfl ?_)
            refine rvc_un (rexec_prim C (δ := { v := .pv (.lit (.int .i64 (IntKind.i64.wrap ((i1 : Int) + 1)))) }) rfl rfl rfl rfl trivial rfl ?_)
            refine rvc_nil ?_
            refine ⟨h13, vc1, ?_, ?_⟩
            · exact ⟨hR, (by first | omega | (simp <;> omega))⟩
            · exact ⟨fun b => b, WeakerR.ofL (Ks := [2, 4, 901]) hI ⟨⟨rfl, rfl⟩, ⟨rfl, rfl⟩, ⟨rfl, rfl⟩, ⟨rfl, rfl⟩, ⟨rfl, rfl⟩, ⟨rfl, rfl⟩, ⟨rfl, rfl⟩, ⟨lit_cast (wrap_i64 (by omega) (by omega)), rfl⟩, trivial⟩ (okH_grow (fun _ => rfl) rfl rfl (okH_cons rfl rfl rfl rfl (okH_cons (cellsTo rfl (by exact ⟨rfl, grow_to rfl rfl h7 rfl rfl, trivial⟩)) rfl rfl (win_cells (by exact ⟨rfl, grow_within rfl, trivial⟩)) (okH_nil)))) rfl⟩
        ·
          have h13 : ¬ i1 < l.D.length := by have := of_decide_eq_false h12; omega
          rw [drop_end h13] at hR
          refine Awp.exit ?_
          refine Awp.region C (fun _ => .pure) (by kernel_rfl) ?_
          refine rvc_un (rexec_prim C (δ := { v := .pv (.lit (.int .i64 (IntKind.i64.wrap ((i : Int) + 1)))) }) rfl rfl rfl rfl trivial rfl ?_)
          refine rvc_un (rexec_prim C (δ := { v := .pv (.lit (.int .i64 (IntKind.i64.wrap ((i : Int) + 1)))) }) rfl rfl rfl rfl trivial rfl ?_)
          refine rvc_nil ?_
          refine ⟨h4, vc1, ?_, ?_⟩
          · exact ⟨(by rw [show 3 - (i + 1) = k by omega]; exact hR), (by first | omega | (simp <;> omega))⟩
          · exact ⟨fun b => bif b == 900 then 901 else (fun b => b) b, WeakerR.ofL (Ks := [2, 4, 900]) hI ⟨⟨rfl, rfl⟩, ⟨rfl, rfl⟩, ⟨rfl, rfl⟩, ⟨lit_cast (wrap_i64 (by omega) (by omega)), rfl⟩, trivial⟩ (okH_grow (fun _ => rfl) rfl rfl (okH_cons rfl rfl rfl rfl (okH_cons (cellsTo rfl (by exact ⟨rfl, grow_to rfl rfl h7 rfl rfl, trivial⟩)) rfl rfl (win_cells (by exact ⟨rfl, grow_within rfl, trivial⟩)) (okH_nil)))) rfl⟩
    ·
      rw [show 3 - i = 0 by have := of_decide_eq_false h3; omega] at hR
      refine Awp.exit ?_
      refine Awp.seq ?_
      refine Awp.cons C (fun _ => .pure) (by kernel_rfl) ?_
      refine rvc_un (rexec_prim C (δ := { v := .ptr 4 1 }) rfl rfl rfl rfl trivial rfl ?_)
      refine rvc_un (rexec_prim C (δ := { v := sS (some vc.isEmpty) eMember vc }) rfl rfl rfl rfl trivial rfl ?_)
      refine rvc_un (rexec_prim C (δ := { v := .pv (.lit (.int .i64 (vc.length : Int))) }) rfl rfl rfl rfl trivial rfl ?_)
      refine rvc_un (rexec_prim C (δ := { v := sS (some l.nil) eMember l.D }) rfl rfl rfl rfl trivial rfl ?_)
      refine rvc_un (rexec_prim C (δ := { v := .pv (.lit (.int .i64 (l.D.length : Int))) }) rfl rfl rfl rfl trivial rfl ?_)
      refine rvc_un (rexec_prim C (δ := { v := .pv (.lit (.bool ((vc.length : Int) != (l.D.length : Int)))) }) rfl rfl rfl rfl trivial rfl ?_)
      refine rvc_un (rexec_prim C (δ := { v := .pv (.lit (.bool ((vc.length : Int) != (l.D.length : Int)))) }) rfl rfl rfl rfl trivial rfl ?_)
      refine rvc_case 37 ((vc.length : Int) != (l.D.length : Int)) rfl (fun h16 => ?_) (fun h16 => ?_)
      ·
        replace hR := of_true h16 hR
        refine rvc_shut rfl rfl rfl rfl ?_
        refine rvc_shut rfl rfl rfl rfl ?_
        refine rvc_shut rfl rfl rfl rfl ?_
        refine rvc_un (rexec_prim C (δ := { v := .pv (.lit (.bool true)) }) rfl rfl rfl rfl trivial rfl ?_)
        refine rvc_nil ?_
        refine Awp.condT (b := true) rfl rfl ?_
        refine Awp.cons C (fun _ => .pure) (by kernel_rfl) ?_
        refine rvc_un (rexec_prim C (δ := { v := .agg [.pv (.lit (.int .i64 0)), sS (some true) eMember []] }) rfl rfl rfl rfl trivial rfl ?_)
        refine rvc_un (rexec_prim C (δ := { v := .undef, wr := [(2, some (.cells [.pv (.lit (.int .i64 0)), sS (some true) eMember []]))] }) rfl rfl rfl rfl trivial rfl ?_) -- tNone store
        refine rvc_un (rexec_prim C (δ := { v := .pv (.lit (.int .i64 80)) }) rfl rfl rfl rfl trivial rfl ?_)
        refine rvc_nil ?_
        refine Awp.ret ?_
        subst hR
        exact ⟨.inl rfl, rfl⟩
      ·
        replace hR := of_false h16 hR
        refine rvc_open rfl rfl rfl (rexec_prim C (δ := { v := .agg [.pv (.lit (.int .i64 1)), sS (some vc.isEmpty) eMember vc] }) rfl rfl rfl rfl trivial rfl ?_)
        refine rvc_open rfl rfl rfl (rexec_call hP C rfl rfl rfl (check_calls (Chain.mk 1 (Sl.mk vc.isEmpty vc)) (by show vc.length ≤ 9223372036854775807; have := of_decide_eq_false h3; have := eq_of_bne_false h16; omega)) ?_)
        refine rvc_open rfl rfl rfl (rexec_prim C (δ := { v := .pv (.lit (.bool ((check (Chain.mk 1 (Sl.mk vc.isEmpty vc))) != 0))) }) rfl rfl rfl rfl trivial rfl ?_)
        refine rvc_un (rexec_prim C (δ := { v := .pv (.lit (.bool ((check (Chain.mk 1 (Sl.mk vc.isEmpty vc))) != 0))) }) rfl rfl rfl rfl trivial rfl ?_)
        refine rvc_nil ?_
        refine Awp.cond (b := ((check (Chain.mk 1 (Sl.mk vc.isEmpty vc))) != 0)) rfl (fun h17 => ?_) (fun h17 => ?_)
        ·
          replace hR := of_true h17 hR
          refine Awp.cons C (fun _ => .pure) (by kernel_rfl) ?_
          refine rvc_un (rexec_prim C (δ := { v := .agg [.pv (.lit (.int .i64 0)), sS (some true) eMember []] }) rfl rfl rfl rfl trivial rfl ?_)
          refine rvc_un (rexec_prim C (δ := { v := .undef, wr := [(2, some (.cells [.pv (.lit (.int .i64 0)), sS (some true) eMember []]))] }) rfl rfl rfl rfl trivial rfl ?_) -- tNone store
          refine rvc_un (rexec_prim C (δ := { v := .pv (.lit (.int .i64 80)) }) rfl rfl rfl rfl trivial rfl ?_)
          refine rvc_nil ?_
          refine Awp.ret ?_
          subst hR
          exact ⟨.inl rfl, rfl⟩
        ·
          replace hR := of_false h17 hR
          refine Awp.skip ?_
          refine Awp.cons C (fun _ => .pure) (by kernel_rfl) ?_
          refine rvc_un (rexec_prim C (δ := { v := .agg [.pv (.lit (.int .i64 1)), sS (some vc.isEmpty) eMember vc] }) rfl rfl rfl rfl trivial rfl ?_)
          refine rvc_un (rexec_prim C (δ := { v := .undef, wr := [(2, some (.cells [.pv (.lit (.int .i64 1)), sS (some vc.isEmpty) eMember vc]))] }) rfl rfl rfl rfl trivial rfl ?_) -- tNone store
          refine rvc_un (rexec_prim C (δ := { v := .pv (.lit (.int .i64 0)) }) rfl rfl rfl rfl trivial rfl ?_)
          refine rvc_nil ?_
          refine Awp.ret ?_
          subst hR
          exact ⟨.inl rfl, rfl⟩
  ·
    refine Awp.wordsR [(0, sS (some l.nil) eMember l.D), (2, .ptr 2 0), (4, .ptr 4 0), (9, .pv (.lit (.int .i64 (i : Int))))] [(900, .cells (encC eMember vc)), (2, .cells [.pv (.lit (.int .i64 0)), sS (some true) eMember []]), (4, .cells [.pv (.lit (.int .i64 1)), .sl 900 0 vc.length 3 false])] [2, 4, 900] (WeakerR.ofL (Ks := [2, 4, 900]) hI ⟨⟨rfl, rfl⟩, ⟨rfl, rfl⟩, ⟨rfl, rfl⟩, ⟨rfl, rfl⟩, trivial⟩ (okH_list (look_cons h2 rfl) rfl rfl (okH_cons (look_cons h2 rfl) rfl rfl rfl (okH_cons (cellsTo (look_cons h2 rfl) (by exact ⟨rfl, (by exact grow_at_cons (b := 900) (b' := 900) (e := eMember) (l := vc) rfl h2 rfl rfl rfl), trivial⟩)) rfl rfl (win_cells (by exact ⟨rfl, rfl, trivial⟩)) (okH_nil)))) rfl) ?_
    refine Awp.cons C (fun _ => .pure) (by kernel_rfl) ?_
    refine rvc_un (rexec_prim C (δ := { v := .pv (.lit (.bool (decide ((i : Int) < 3)))) }) rfl rfl rfl rfl trivial rfl ?_)
    refine rvc_nil ?_
    refine Awp.seq ?_
    refine Awp.cond (b := (decide ((i : Int) < 3))) rfl (fun h18 => ?_) (fun h18 => ?_)
    ·
      have h19 : i < 3 := by have := of_decide_eq_true h18; omega
      obtain ⟨k, h20⟩ : ∃ k, 3 - i = k + 1 := ⟨3 - i - 1, by omega⟩
      rw [h20] at hR
      refine Awp.skip ?_
      refine Awp.seq ?_
      refine Awp.block ?_
      refine Awp.cons C (fun _ => .pure) (by kernel_rfl) ?_
      refine rvc_un (rexec_prim C (δ := { v := .pv (.lit (.int .i64 (i : Int))) }) rfl rfl rfl rfl trivial rfl ?_)
      refine rvc_un (rexec_prim C (δ := { v := .pv (.lit (.int .i64 (i : Int))) }) rfl rfl rfl rfl trivial rfl ?_)
      refine rvc_nil ?_
      refine Awp.cons C (fun _ => .pure) (by kernel_rfl) ?_
      refine rvc_un (rexec_prim C (δ := { v := sS (some l.nil) eMember l.D }) rfl rfl rfl rfl trivial rfl ?_)
      refine rvc_un (rexec_prim C (δ := { v := .pv (.lit (.int .i64 (l.D.length : Int))) }) rfl rfl rfl rfl trivial rfl ?_)
      refine rvc_un (rexec_prim C (δ := { v := .pv (.lit (.int .i64 0)) }) rfl rfl rfl rfl trivial rfl ?_)
      refine rvc_nil ?_
      refine Awp.block ?_
      refine Awp.forR (σ := ((List Member))) (l.D.length) (fun i2 v => [(0, sS (some l.nil) eMember l.D), (2, .ptr 2 0), (4, .ptr 4 0), (5, .pv (.lit (.int .i64 (i : Int)))), (9, .pv (.lit (.int .i64 (i : Int)))), (12, sS (some l.nil) eMember l.D), (13, .pv (.lit (.int .i64 (l.D.length : Int)))), (14, .pv (.lit (.int .i64 (i2 : Int))))]) (fun i2 v => [(2, .cells [.pv (.lit (.int .i64 0)), sS (some true) eMember []]), (4, .cells [.pv (.lit (.int .i64 1)), .sl 902 0 v.length 3 false]), (902, .cells (encC eMember v))]) [2, 4, 902] (fun i2 v => (firstC_l1 i (fun vc2 => firstC_l0 l k (i + 1) vc2) (l.D.drop i2) i2 v = R) ∧ (v ≠ [] ∧ v.length ≤ vc.length + i2)) vc ?_ ?_ (fun i2 vc2 h21 hR => ?_)
      · exact ⟨hR, ⟨h2, (by first | omega | (simp <;> omega))⟩⟩
      · exact ⟨fun b => bif b == 902 then 900 else (fun b => b) b, WeakerR.ofL (Ks := [2, 4, 902]) hI ⟨⟨rfl, rfl⟩, ⟨rfl, rfl⟩, ⟨rfl, rfl⟩, ⟨rfl, rfl⟩, ⟨rfl, rfl⟩, ⟨rfl, rfl⟩, ⟨rfl, rfl⟩, ⟨rfl, rfl⟩, trivial⟩ (okH_cons rfl rfl rfl rfl (okH_cons rfl rfl rfl rfl (okH_list rfl rfl rfl (okH_nil)))) rfl⟩
      obtain ⟨hR, ⟨hn_vc2, hi_vc2⟩⟩ := hR
      replace hi_vc2 : vc2.length ≤ vc.length + i2 := hi_vc2
      refine Awp.cons C (fun _ => .pure) (by kernel_rfl) ?_
      refine rvc_un (rexec_prim C (δ := { v := .pv (.lit (.bool (decide ((i2 : Int) < (l.D.length : Int))))) }) rfl rfl rfl rfl trivial rfl ?_)
      refine rvc_nil ?_
      refine Awp.seq ?_
      refine Awp.cond (b := (decide ((i2 : Int) < (l.D.length : Int)))) rfl (fun h22 => ?_) (fun h22 => ?_)
      ·
        have h23 : i2 < l.D.length := by have := of_decide_eq_true h22; omega
        obtain ⟨x1, h24⟩ := getX h23
        rw [drop_at h24] at hR
        refine Awp.skip ?_
        refine Awp.seq ?_
        refine Awp.block ?_
        refine Awp.cons C (fun _ => .pure) (by kernel_rfl) ?_
        refine rvc_un (rexec_idxS C rfl rfl rfl rfl rfl rfl x1 (Int.natCast_nonneg _) h24 ?_)
        refine rvc_un (rexec_prim C (δ := { v := .agg [.pv (.lit (.int .i64 x1.node)), .pv (.lit (.int .i64 x1.site)), .pv (.lit (.bool x1.fresh))] }) rfl rfl rfl rfl trivial rfl ?_)
        refine rvc_un (rexec_prim C (δ := { v := .ptr 7 0, new := [(7, .cells [.pv (.lit (.int .i64 0)), .pv (.lit (.int .i64 0)), .pv (.lit (.bool false))])] }) rfl rfl rfl rfl trivial rfl ?_)
        refine rvc_un (rexec_prim C (δ := { v := .undef, wr := [(7, some (.cells [.pv (.lit (.int .i64 x1.node)), .pv (.lit (.int .i64 x1.site)), .pv (.lit (.bool x1.fresh))]))] }) rfl rfl rfl rfl trivial rfl ?_) -- tNone store
        refine rvc_nil ?_
        refine Awp.cons C (fun _ => .pure) (by kernel_rfl) ?_
        refine rvc_un (rexec_prim C (δ := { v := .ptr 7 1 }) rfl rfl rfl rfl trivial rfl ?_)
        refine rvc_un (rexec_prim C (δ := { v := .pv (.lit (.int .i64 x1.site)) }) rfl rfl rfl rfl trivial rfl ?_)
        refine rvc_un (rexec_prim C (δ := { v := .pv (.lit (.int .i64 (i : Int))) }) rfl rfl rfl rfl trivial rfl ?_)
        refine rvc_un (rexec_prim C (δ := { v := .pv (.lit (.bool (x1.site == (i : Int)))) }) rfl rfl rfl rfl trivial rfl ?_)
        refine rvc_nil ?_
        refine Awp.cond (b := (x1.site == (i : Int))) rfl (fun h25 => ?_) (fun h25 => ?_)
        ·
          replace hR := of_true h25 hR
          refine Awp.cons C (fun _ => .pure) (by kernel_rfl) ?_
          refine rvc_un (rexec_prim C (δ := { v := .ptr 7 2 }) rfl rfl rfl rfl trivial rfl ?_)
          refine rvc_un (rexec_prim C (δ := { v := .undef, wr := [(7, some (.cells [.pv (.lit (.int .i64 x1.node)), .pv (.lit (.int .i64 x1.site)), .pv (.lit (.bool false))]))] }) rfl rfl rfl rfl trivial rfl ?_) -- tNone store
          refine rvc_nil ?_
          refine Awp.region C (fun _ => .pure) (by kernel_rfl) ?_
          refine rvc_un (rexec_prim C (δ := { v := .ptr 4 1 }) rfl rfl rfl rfl trivial rfl ?_)
          refine rvc_un (rexec_prim C (δ := { v := .sl 902 0 vc2.length 3 false }) rfl rfl rfl rfl trivial rfl ?_)
          refine rvc_un (rexec_prim C (δ := { v := .agg [.pv (.lit (.int .i64 x1.node)), .pv (.lit (.int .i64 x1.site)), .pv (.lit (.bool false))] }) rfl rfl rfl rfl trivial rfl ?_)
          refine rvc_un (rexec_buildSliceF C eMember [(Member.mk x1.node x1.site false)] rfl rfl rfl rfl rfl rfl rfl (by decide) rfl ?_)
          refine rvc_un (rexec_append C rfl rfl rfl rfl rfl rfl rfl rfl (fun _ h => by cases h) rfl (en := eMember) (D0 := vc2) (D := [(Member.mk x1.node x1.site false)]) rfl rfl rfl rfl (by have := of_decide_eq_true h18; have := of_decide_eq_true h22; have := beq_iff_eq.1 h25; first | omega | (simp <;> omega)) (by decide) (nn := (vc2 ++ [(Member.mk x1.node x1.site false)]).length) (by simp) ?_)
          refine rvc_un (rexec_prim C (δ := { v := .ptr 4 1 }) rfl rfl rfl rfl trivial rfl ?_)
          refine rvc_un (rexec_prim C (δ := { v := .undef, wr := [(4, some (.cells [.pv (.lit (.int .i64 1)), .sl 27 0 ((vc2 ++ [(Member.mk x1.node x1.site false)]).length) 3 false]))] }) rfl rfl rfl rfl trivial rfl ?_) -- tNone store
          refine rvc_nil ?_
          refine Awp.region C (fun _ => .pure) (by kernel_rfl) ?_
          refine rvc_un (rexec_prim C (δ := { v := .pv (.lit (.int .i64 (IntKind.i64.wrap ((i2 : Int) + 1)))) }) rfl rfl rfl rfl trivial rfl ?_)
          refine rvc_un (rexec_prim C (δ := { v := .pv (.lit (.int .i64 (IntKind.i64.wrap ((i2 : Int) + 1)))) }) rfl rfl rfl rfl trivial rfl ?_)
          refine rvc_nil ?_
          refine ⟨h23, (vc2 ++ [(Member.mk x1.node x1.site false)]), ?_, ?_⟩
          · exact ⟨hR, ⟨app_ne, (by first | omega | (simp <;> omega))⟩⟩
          · exact ⟨fun b => bif b == 902 then 27 else (fun b => b) b, WeakerR.ofL (Ks := [2, 4, 902]) hI ⟨⟨rfl, rfl⟩, ⟨rfl, rfl⟩, ⟨rfl, rfl⟩, ⟨rfl, rfl⟩, ⟨rfl, rfl⟩, ⟨rfl, rfl⟩, ⟨rfl, rfl⟩, ⟨lit_cast (wrap_i64 (by omega) (by omega)), rfl⟩, trivial⟩ (okH_cons rfl rfl rfl rfl (okH_cons rfl rfl rfl rfl (okH_list rfl rfl rfl (okH_nil)))) rfl⟩
        ·
          replace hR := of_false h25 hR
          refine Awp.skip ?_
          refine Awp.region C (fun _ => .pure) (by kernel_rfl) ?_
          refine rvc_un (rexec_prim C (δ := { v := .pv (.lit (.int .i64 (IntKind.i64.wrap ((i2 : Int) + 1)))) }) rfl rfl rfl rfl trivial rfl ?_)
          refine rvc_un (rexec_prim C (δ := { v := .pv (.lit (.int .i64 (IntKind.i64.wrap ((i2 : Int) + 1)))) }) rfl rfl rfl rfl trivial rfl ?_)
          refine rvc_nil ?_
          refine ⟨h23, vc2, ?_, ?_⟩
          · exact ⟨hR, ⟨hn_vc2, (by first | omega | (simp <;> omega))⟩⟩
          · exact ⟨fun b => b, WeakerR.ofL (Ks := [2, 4, 902]) hI ⟨⟨rfl, rfl⟩, ⟨rfl, rfl⟩, ⟨rfl, rfl⟩, ⟨rfl, rfl⟩, ⟨rfl, rfl⟩, ⟨rfl, rfl⟩, ⟨rfl, rfl⟩, ⟨lit_cast (wrap_i64 (by omega) (by omega)), rfl⟩, trivial⟩ (okH_cons rfl rfl rfl rfl (okH_cons rfl rfl rfl rfl (okH_list rfl rfl rfl (okH_nil)))) rfl⟩
      ·
        have h23 : ¬ i2 < l.D.length := by have := of_decide_eq_false h22; omega
        rw [drop_end h23] at hR
        refine Awp.exit ?_
        refine Awp.region C (fun _ => .pure) (by kernel_rfl) ?_
        refine rvc_un (rexec_prim C (δ := { v := .pv (.lit (.int .i64 (IntKind.i64.wrap ((i : Int) + 1)))) }) rfl rfl rfl rfl trivial rfl ?_)
        refine rvc_un (rexec_prim C (δ := { v := .pv (.lit (.int .i64 (IntKind.i64.wrap ((i : Int) + 1)))) }) rfl rfl rfl rfl trivial rfl ?_)
        refine rvc_nil ?_
        refine ⟨h19, vc2, ?_, ?_⟩
        · exact ⟨(by rw [show 3 - (i + 1) = k by omega]; exact hR), (by first | omega | (simp <;> omega))⟩
        · exact ⟨fun b => bif b == 900 then 902 else (fun b => b) b, WeakerR.ofL (Ks := [2, 4, 900]) hI ⟨⟨rfl, rfl⟩, ⟨rfl, rfl⟩, ⟨rfl, rfl⟩, ⟨lit_cast (wrap_i64 (by omega) (by omega)), rfl⟩, trivial⟩ (okH_grow (fun _ => rfl) rfl rfl (okH_cons rfl rfl rfl rfl (okH_cons (cellsTo rfl (by exact ⟨rfl, grow_to rfl rfl hn_vc2 rfl rfl, trivial⟩)) rfl rfl (win_cells (by exact ⟨rfl, grow_within rfl, trivial⟩)) (okH_nil)))) rfl⟩
    ·
      rw [show 3 - i = 0 by have := of_decide_eq_false h18; omega] at hR
      refine Awp.exit ?_
      refine Awp.seq ?_
      refine Awp.freezeW 900 (encL eMember vc) ?_ [(0, sS (some l.nil) eMember l.D), (2, .ptr 2 0), (4, .ptr 4 0)] [(2, .cells [.pv (.lit (.int .i64 0)), sS (some true) eMember []]), (4, .cells [.pv (.lit (.int .i64 1)), sS (some vc.isEmpty) eMember vc])] ?_ ?_ ?_
      · rfl
      · exact ⟨⟨_, rfl, .inl (.inl rfl)⟩, ⟨_, rfl, .inl (.inl rfl)⟩, ⟨_, rfl, .inl (.inl rfl)⟩, trivial⟩
      · exact ⟨⟨(by show (2 : Nat) ≠ 900; decide), .inl rfl⟩, ⟨(by show (4 : Nat) ≠ 900; decide), .inr ⟨_, _, rfl, rfl, ⟨.inl rfl, .inr ⟨_, _, _, rfl, by rw [ne_isEmpty h2]; rfl⟩, trivial⟩⟩⟩, trivial⟩
      refine Awp.cons C (fun _ => .pure) (by kernel_rfl) ?_
      refine rvc_un (rexec_prim C (δ := { v := .ptr 4 1 }) rfl rfl rfl rfl trivial rfl ?_)
      refine rvc_un (rexec_prim C (δ := { v := sS (some vc.isEmpty) eMember vc }) rfl rfl rfl rfl trivial rfl ?_)
      refine rvc_un (rexec_prim C (δ := { v := .pv (.lit (.int .i64 (vc.length : Int))) }) rfl rfl rfl rfl trivial rfl ?_)
      refine rvc_un (rexec_prim C (δ := { v := sS (some l.nil) eMember l.D }) rfl rfl rfl rfl trivial rfl ?_)
      refine rvc_un (rexec_prim C (δ := { v := .pv (.lit (.int .i64 (l.D.length : Int))) }) rfl rfl rfl rfl trivial rfl ?_)
      refine rvc_un (rexec_prim C (δ := { v := .pv (.lit (.bool ((vc.length : Int) != (l.D.length : Int)))) }) rfl rfl rfl rfl trivial rfl ?_)
      refine rvc_un (rexec_prim C (δ := { v := .pv (.lit (.bool ((vc.length : Int) != (l.D.length : Int)))) }) rfl rfl rfl rfl trivial rfl ?_)
      refine rvc_case 37 ((vc.length : Int) != (l.D.length : Int)) rfl (fun h26 => ?_) (fun h26 => ?_)
      ·
        replace hR := of_true h26 hR
        refine rvc_shut rfl rfl rfl rfl ?_
        refine rvc_shut rfl rfl rfl rfl ?_
        refine rvc_shut rfl rfl rfl rfl ?_
        refine rvc_un (rexec_prim C (δ := { v := .pv (.lit (.bool true)) }) rfl rfl rfl rfl trivial rfl ?_)
        refine rvc_nil ?_
        refine Awp.condT (b := true) rfl rfl ?_
        refine Awp.cons C (fun _ => .pure) (by kernel_rfl) ?_
        refine rvc_un (rexec_prim C (δ := { v := .agg [.pv (.lit (.int .i64 0)), sS (some true) eMember []] }) rfl rfl rfl rfl trivial rfl ?_)
        refine rvc_un (rexec_prim C (δ := { v := .undef, wr := [(2, some (.cells [.pv (.lit (.int .i64 0)), sS (some true) eMember []]))] }) rfl rfl rfl rfl trivial rfl ?_) -- tNone store
        refine rvc_un (rexec_prim C (δ := { v := .pv (.lit (.int .i64 80)) }) rfl rfl rfl rfl trivial rfl ?_)
        refine rvc_nil ?_
        refine Awp.ret ?_
        subst hR
        exact ⟨.inl rfl, rfl⟩
      ·
        replace hR := of_false h26 hR
        refine rvc_open rfl rfl rfl (rexec_prim C (δ := { v := .agg [.pv (.lit (.int .i64 1)), sS (some vc.isEmpty) eMember vc] }) rfl rfl rfl rfl trivial rfl ?_)
        refine rvc_open rfl rfl rfl (rexec_call hP C rfl rfl rfl (check_calls (Chain.mk 1 (Sl.mk vc.isEmpty vc)) (by show vc.length ≤ 9223372036854775807; have := of_decide_eq_false h18; have := eq_of_bne_false h26; omega)) ?_)
        refine rvc_open rfl rfl rfl (rexec_prim C (δ := { v := .pv (.lit (.bool ((check (Chain.mk 1 (Sl.mk vc.isEmpty vc))) != 0))) }) rfl rfl rfl rfl trivial rfl ?_)
        refine rvc_un (rexec_prim C (δ := { v := .pv (.lit (.bool ((check (Chain.mk 1 (Sl.mk vc.isEmpty vc))) != 0))) }) rfl rfl rfl rfl trivial rfl ?_)
        refine rvc_nil ?_
        refine Awp.cond (b := ((check (Chain.mk 1 (Sl.mk vc.isEmpty vc))) != 0)) rfl (fun h27 => ?_) (fun h27 => ?_)
        ·
          replace hR := of_true h27 hR
          refine Awp.cons C (fun _ => .pure) (by kernel_rfl) ?_
          refine rvc_un (rexec_prim C (δ := { v := .agg [.pv (.lit (.int .i64 0)), sS (some true) eMember []] }) rfl rfl rfl rfl trivial rfl ?_)
          refine rvc_un (rexec_prim C (δ := { v := .undef, wr := [(2, some (.cells [.pv (.lit (.int .i64 0)), sS (some true) eMember []]))] }) rfl rfl rfl rfl trivial rfl ?_) -- tNone store
          refine rvc_un (rexec_prim C (δ := { v := .pv (.lit (.int .i64 80)) }) rfl rfl rfl rfl trivial rfl ?_)
          refine rvc_nil ?_
          refine Awp.ret ?_
          subst hR
          exact ⟨.inl rfl, rfl⟩
        ·
          replace hR := of_false h27 hR
          refine Awp.skip ?_
          refine Awp.cons C (fun _ => .pure) (by kernel_rfl) ?_
          refine rvc_un (rexec_prim C (δ := { v := .agg [.pv (.lit (.int .i64 1)), sS (some vc.isEmpty) eMember vc] }) rfl rfl rfl rfl trivial rfl ?_)
          refine rvc_un (rexec_prim C (δ := { v := .undef, wr := [(2, some (.cells [.pv (.lit (.int .i64 1)), sS (some vc.isEmpty) eMember vc]))] }) rfl rfl rfl rfl trivial rfl ?_) -- tNone store
          refine rvc_un (rexec_prim C (δ := { v := .pv (.lit (.int .i64 0)) }) rfl rfl rfl rfl trivial rfl ?_)
          refine rvc_nil ?_
          refine Awp.ret ?_
          subst hR
          exact ⟨.inl rfl, rfl⟩
  -- !! two models: ('(bif ((vc.length : Int) != (l.D.length : Int)) then ((Chain.mk 0 (Sl.mk true [])), 80) else (bif ((check (Chain.mk 1 (Sl.mk vc.isEmpty vc))) != 0) then ((Chain.mk 0 (Sl.mk true [])), 80) else ((Chain.mk 1 (Sl.mk vc.isEmpty vc)), 0)))', 'firstC_l1 i (fun vc1 => firstC_l0 l k (i + 1) vc1) l.D 0 vc') ||| ('(bif ((vc.length : Int) != (l.D.length : Int)) then ((Chain.mk 0 (Sl.mk true [])), 80) else (bif ((check (Chain.mk 1 (Sl.mk vc.isEmpty vc))) != 0) then ((Chain.mk 0 (Sl.mk true [])), 80) else ((Chain.mk 1 (Sl.mk vc.isEmpty vc)), 0)))', 'firstC_l1 i (fun vc2 => firstC_l0 l k (i + 1) vc2) l.D 0 vc')

def indexFunc_l0 (f : Member → Bool) : List Member → Nat → Int
  | [], _ => (-1)
  | x :: xs, i => (bif (f x) then (i : Int) else indexFunc_l0 f xs (i + 1) )
def indexFunc (s : (Sl Member)) (f : Member → Bool) : Int :=
  indexFunc_l0 f s.D 0 
theorem indexFunc_calls (s : (Sl Member)) (f : Member → Bool) (g1 : Nat) (caps1 : List AV) (hp1 : ∀ (x0 : Member), PCalls Try.prog g1 ([.agg [.pv (.lit (.int .i64 x0.node)), .pv (.lit (.int .i64 x0.site)), .pv (.lit (.bool x0.fresh))]] ++ caps1) (.pv (.lit (.bool (f x0))))) (hw1 : AV.withinL (fun _ => false) caps1 = true) (hl1 : s.D.length ≤ 9223372036854775807) : PCalls Try.prog 54 [sS (some s.nil) eMember s.D, .fn g1 [] caps1] (.pv (.lit (.int .i64 (indexFunc s f)))) := by
  generalize hR : indexFunc s f = R
  refine PCalls.of_body tabOk Try.func54 rfl rfl rfl (by simp [AV.withinL, AV.within, sS, hw1]) rfl mixed fun E hP C hI => ?_
  refine Awp.cons C (fun _ => .pure) (by kernel_rfl) ?_
  refine rvc_un (rexec_prim C (δ := { v := .pv (.lit (.int .i64 0)) }) rfl rfl rfl rfl trivial rfl ?_)
  refine rvc_nil ?_
  refine Awp.seq ?_
  refine Awp.cons C (fun _ => .pure) (by kernel_rfl) ?_
  refine rvc_un (rexec_prim C (δ := { v := sS (some s.nil) eMember s.D }) rfl rfl rfl rfl trivial rfl ?_)
  refine rvc_un (rexec_prim C (δ := { v := .pv (.lit (.int .i64 (s.D.length : Int))) }) rfl rfl rfl rfl trivial rfl ?_)
  refine rvc_un (rexec_prim C (δ := { v := .pv (.lit (.int .i64 0)) }) rfl rfl rfl rfl trivial rfl ?_)
  refine rvc_nil ?_
  refine Awp.block ?_
  refine Awp.forR (σ := Unit) (s.D.length) (fun i _v => [(0, sS (some s.nil) eMember s.D), (1, .fn g1 [] caps1), (7, .pv (.lit (.int .i64 (s.D.length : Int)))), (8, .pv (.lit (.int .i64 (i : Int))))]) (fun i _v => []) [] (fun i _v => indexFunc_l0 f (s.D.drop i) i  = R) () ?_ ?_ (fun i _v h1 hR => ?_)
  · exact hR
  · exact ⟨fun b => b, WeakerR.ofL (Ks := []) hI ⟨⟨rfl, rfl⟩, ⟨fn_to rfl hw1, fn_win hw1⟩, ⟨rfl, rfl⟩, ⟨rfl, rfl⟩, trivial⟩ (okH_nil) rfl⟩
  refine Awp.cons C (fun _ => .pure) (by kernel_rfl) ?_
  refine rvc_un (rexec_prim C (δ := { v := .pv (.lit (.bool (decide ((i : Int) < (s.D.length : Int))))) }) rfl rfl rfl rfl trivial rfl ?_)
  refine rvc_nil ?_
  refine Awp.seq ?_
  refine Awp.cond (b := (decide ((i : Int) < (s.D.length : Int)))) rfl (fun h2 => ?_) (fun h2 => ?_)
  ·
    have h3 : i < s.D.length := by have := of_decide_eq_true h2; omega
    obtain ⟨x, h4⟩ := getX h3
    rw [drop_at h4] at hR
    refine Awp.skip ?_
    refine Awp.seq ?_
    refine Awp.block ?_
    refine Awp.cons C (fun _ => .pure) (by kernel_rfl) ?_
    refine rvc_un (rexec_prim C (δ := { v := .pv (.lit (.int .i64 (i : Int))) }) rfl rfl rfl rfl trivial rfl ?_)
    refine rvc_un (rexec_prim C (δ := { v := .pv (.lit (.int .i64 (i : Int))) }) rfl rfl rfl rfl trivial rfl ?_)
    refine rvc_nil ?_
    refine Awp.cons C (fun _ => .pure) (by kernel_rfl) ?_
    refine rvc_un (rexec_prim C (δ := { v := .fn g1 [] caps1 }) rfl rfl rfl rfl trivial rfl ?_)
    refine rvc_un (rexec_prim C (δ := { v := sS (some s.nil) eMember s.D }) rfl rfl rfl rfl trivial rfl ?_)
    refine rvc_un (rexec_prim C (δ := { v := .pv (.lit (.int .i64 (i : Int))) }) rfl rfl rfl rfl trivial rfl ?_)
    refine rvc_un (rexec_idxS C rfl rfl rfl rfl rfl rfl x (Int.natCast_nonneg _) h4 ?_)
    refine rvc_un (rexec_prim C (δ := { v := .agg [.pv (.lit (.int .i64 x.node)), .pv (.lit (.int .i64 x.site)), .pv (.lit (.bool x.fresh))] }) rfl rfl rfl rfl trivial rfl ?_)
    refine rvc_un (rexec_callV hP C rfl rfl rfl rfl (hp1 x) rfl ?_)
    refine rvc_nil ?_
    refine Awp.cond (b := (f x)) rfl (fun h5 => ?_) (fun h5 => ?_)
    ·
      replace hR := of_true h5 hR
      refine Awp.cons C (fun _ => .pure) (by kernel_rfl) ?_
      refine rvc_un (rexec_prim C (δ := { v := .pv (.lit (.int .i64 (i : Int))) }) rfl rfl rfl rfl trivial rfl ?_)
      refine rvc_un (rexec_prim C (δ := { v := .pv (.lit (.int .i64 (i : Int))) }) rfl rfl rfl rfl trivial rfl ?_)
      refine rvc_nil ?_
      refine Awp.ret ?_
      subst hR
      exact ⟨.inl rfl, rfl⟩
    ·
      replace hR := of_false h5 hR
      refine Awp.skip ?_
      refine Awp.region C (fun _ => .pure) (by kernel_rfl) ?_
      refine rvc_un (rexec_prim C (δ := { v := .pv (.lit (.int .i64 (IntKind.i64.wrap ((i : Int) + 1)))) }) rfl rfl rfl rfl trivial rfl ?_)
      refine rvc_un (rexec_prim C (δ := { v := .pv (.lit (.int .i64 (IntKind.i64.wrap ((i : Int) + 1)))) }) rfl rfl rfl rfl trivial rfl ?_)
      refine rvc_nil ?_
      refine ⟨h3, (), ?_, ?_⟩
      · exact hR
      · exact ⟨fun b => b, WeakerR.ofL (Ks := []) hI ⟨⟨rfl, rfl⟩, ⟨fn_to rfl hw1, fn_win hw1⟩, ⟨rfl, rfl⟩, ⟨lit_cast (wrap_i64 (by omega) (by omega)), rfl⟩, trivial⟩ (okH_nil) rfl⟩
  ·
    have h3 : ¬ i < s.D.length := by have := of_decide_eq_false h2; omega
    rw [drop_end h3] at hR
    refine Awp.exit ?_
    refine Awp.cons C (fun _ => .pure) (by kernel_rfl) ?_
    refine rvc_un (rexec_prim C (δ := { v := .pv (.lit (.int .i64 (-1))) }) rfl rfl rfl rfl trivial rfl ?_)
    refine rvc_nil ?_
    refine Awp.ret ?_
    subst hR
    exact ⟨.inl rfl, rfl⟩

def placeF (m : Member) (c0 : Int) : Bool :=
  (m.node == c0)
theorem placeF_calls (m : Member) (c0 : Int)  : PCalls Try.prog 55 [.agg [.pv (.lit (.int .i64 m.node)), .pv (.lit (.int .i64 m.site)), .pv (.lit (.bool m.fresh))], .rp [.lit (.int .i64 c0)]] (.pv (.lit (.bool (placeF m c0)))) := by
  generalize hR : placeF m c0 = R
  refine PCalls.of_body tabOk Try.func55 rfl rfl rfl rfl rfl mixed fun E hP C hI => ?_
  refine Awp.cons C (fun _ => .pure) (by kernel_rfl) ?_
  refine rvc_un (rexec_prim C (δ := { v := .ptr 2 0, new := [(2, .cells [.pv (.lit (.int .i64 m.node)), .pv (.lit (.int .i64 m.site)), .pv (.lit (.bool m.fresh))])] }) rfl rfl rfl rfl trivial rfl ?_)
  refine rvc_un (rexec_prim C (δ := { v := .pv (.lit (.bool false)) }) rfl rfl rfl rfl trivial rfl ?_)
  refine rvc_nil ?_
  refine Awp.cons C (fun _ => .pure) (by kernel_rfl) ?_
  refine rvc_un (rexec_prim C (δ := { v := .ptr 2 0 }) rfl rfl rfl rfl trivial rfl ?_)
  refine rvc_un (rexec_prim C (δ := { v := .pv (.lit (.int .i64 m.node)) }) rfl rfl rfl rfl trivial rfl ?_)
  refine rvc_un (rexec_prim C (δ := { v := .pv (.lit (.int .i64 c0)) }) rfl rfl rfl rfl trivial rfl ?_)
  refine rvc_un (rexec_prim C (δ := { v := .pv (.lit (.bool (m.node == c0))) }) rfl rfl rfl rfl trivial rfl ?_)
  refine rvc_un (rexec_prim C (δ := { v := .pv (.lit (.bool (m.node == c0))) }) rfl rfl rfl rfl trivial rfl ?_)
  refine rvc_nil ?_
  refine Awp.ret ?_
  subst hR
  exact ⟨.inl rfl, rfl⟩

def placeIn (c : Chain) (node : Int) : Int :=
  (indexFunc c.members (fun x0 => placeF x0 node))
theorem placeIn_calls (c : Chain) (node : Int) (hl1 : c.members.D.length ≤ 9223372036854775807) : PCalls Try.prog 40 [.agg [.pv (.lit (.int .i64 c.epoch)), sS (some c.members.nil) eMember c.members.D], .pv (.lit (.int .i64 node))] (.pv (.lit (.int .i64 (placeIn c node)))) := by
  generalize hR : placeIn c node = R
  refine PCalls.of_body tabOk Try.func40 rfl rfl rfl rfl rfl mixed fun E hP C hI => ?_
  refine Awp.cons C (fun _ => .pure) (by kernel_rfl) ?_
  refine rvc_un (rexec_prim C (δ := { v := .ptr 2 0, new := [(2, .cells [.pv (.lit (.int .i64 c.epoch)), sS (some c.members.nil) eMember c.members.D])] }) rfl rfl rfl rfl trivial rfl ?_)
  refine rvc_un (rexec_boxF C [.lit (.int .i64 node)] rfl rfl rfl rfl ?_)
  refine rvc_un (rexec_prim C (δ := { v := .pv (.lit (.int .i64 0)) }) rfl rfl rfl rfl trivial rfl ?_)
  refine rvc_nil ?_
  refine Awp.cons C (fun _ => .pure) (by kernel_rfl) ?_
  refine rvc_un (rexec_prim C (δ := { v := .ptr 2 1 }) rfl rfl rfl rfl trivial rfl ?_)
  refine rvc_un (rexec_prim C (δ := { v := sS (some c.members.nil) eMember c.members.D }) rfl rfl rfl rfl trivial rfl ?_)
  refine rvc_un (rexec_prim C (δ := { v := .fn 55 [] [.rp [.lit (.int .i64 node)]] }) rfl rfl rfl rfl trivial rfl ?_)
  refine rvc_un (rexec_call hP C rfl rfl rfl (indexFunc_calls c.members (fun x0 => placeF x0 node) 55 [.rp [.lit (.int .i64 node)]] (fun x0 => placeF_calls x0 node) rfl hl1) ?_)
  refine rvc_un (rexec_prim C (δ := { v := .pv (.lit (.int .i64 (indexFunc c.members (fun x0 => placeF x0 node)))) }) rfl rfl rfl rfl trivial rfl ?_)
  refine rvc_nil ?_
  refine Awp.ret ?_
  subst hR
  exact ⟨.inl rfl, rfl⟩

def place0 (c : Chain) (node : Int) : Int :=
  (bif ((check c) != 0) then (-1) else (placeIn c node))
theorem place0_calls (c : Chain) (node : Int) (hl1 : c.members.D.length ≤ 9223372036854775807) : PCalls Try.prog 15 [.agg [.pv (.lit (.int .i64 c.epoch)), sS (some c.members.nil) eMember c.members.D], .pv (.lit (.int .i64 node))] (.pv (.lit (.int .i64 (place0 c node)))) := by
  generalize hR : place0 c node = R
  refine PCalls.of_body tabOk Try.func15 rfl rfl rfl rfl rfl mixed fun E hP C hI => ?_
  refine Awp.cons C (fun _ => .pure) (by kernel_rfl) ?_
  refine rvc_un (rexec_prim C (δ := { v := .ptr 2 0, new := [(2, .cells [.pv (.lit (.int .i64 c.epoch)), sS (some c.members.nil) eMember c.members.D])] }) rfl rfl rfl rfl trivial rfl ?_)
  refine rvc_un (rexec_prim C (δ := { v := .pv (.lit (.int .i64 0)) }) rfl rfl rfl rfl trivial rfl ?_)
  refine rvc_nil ?_
  refine Awp.seq ?_
  refine Awp.cons C (fun _ => .pure) (by kernel_rfl) ?_
  refine rvc_un (rexec_prim C (δ := { v := .agg [.pv (.lit (.int .i64 c.epoch)), sS (some c.members.nil) eMember c.members.D] }) rfl rfl rfl rfl trivial rfl ?_)
  refine rvc_un (rexec_call hP C rfl rfl rfl (check_calls c hl1) ?_)
  refine rvc_un (rexec_prim C (δ := { v := .pv (.lit (.bool ((check c) != 0))) }) rfl rfl rfl rfl trivial rfl ?_)
  refine rvc_nil ?_
  refine Awp.cond (b := ((check c) != 0)) rfl (fun h1 => ?_) (fun h1 => ?_)
  ·
    replace hR := of_true h1 hR
    refine Awp.cons C (fun _ => .pure) (by kernel_rfl) ?_
    refine rvc_un (rexec_prim C (δ := { v := .pv (.lit (.int .i64 (-1))) }) rfl rfl rfl rfl trivial rfl ?_)
    refine rvc_nil ?_
    refine Awp.ret ?_
    subst hR
    exact ⟨.inl rfl, rfl⟩
  ·
    replace hR := of_false h1 hR
    refine Awp.skip ?_
    refine Awp.cons C (fun _ => .pure) (by kernel_rfl) ?_
    refine rvc_un (rexec_prim C (δ := { v := .agg [.pv (.lit (.int .i64 c.epoch)), sS (some c.members.nil) eMember c.members.D] }) rfl rfl rfl rfl trivial rfl ?_)
    refine rvc_un (rexec_prim C (δ := { v := .pv (.lit (.int .i64 node)) }) rfl rfl rfl rfl trivial rfl ?_)
    refine rvc_un (rexec_call hP C rfl rfl rfl (placeIn_calls c node hl1) ?_)
    refine rvc_un (rexec_prim C (δ := { v := .pv (.lit (.int .i64 (placeIn c node))) }) rfl rfl rfl rfl trivial rfl ?_)
    refine rvc_nil ?_
    refine Awp.ret ?_
    subst hR
    exact ⟨.inl rfl, rfl⟩

def rPlace_l0 (node : Int) : List Member → Nat → Int
  | [], _ => (-1)
  | x :: xs, i => (bif (x.node == node) then (i : Int) else rPlace_l0 node xs (i + 1) )
def rPlace (c : Chain) (node : Int) : Int :=
  (bif ((rCheck c) != 0) then (-1) else rPlace_l0 node c.members.D 0 )
theorem rPlace_calls (c : Chain) (node : Int) (hl1 : c.members.D.length ≤ 9223372036854775807) : PCalls Try.prog 16 [.agg [.pv (.lit (.int .i64 c.epoch)), sS (some c.members.nil) eMember c.members.D], .pv (.lit (.int .i64 node))] (.pv (.lit (.int .i64 (rPlace c node)))) := by
  generalize hR : rPlace c node = R
  refine PCalls.of_body tabOk Try.func16 rfl rfl rfl rfl rfl mixed fun E hP C hI => ?_
  refine Awp.cons C (fun _ => .pure) (by kernel_rfl) ?_
  refine rvc_un (rexec_prim C (δ := { v := .ptr 2 0, new := [(2, .cells [.pv (.lit (.int .i64 c.epoch)), sS (some c.members.nil) eMember c.members.D])] }) rfl rfl rfl rfl trivial rfl ?_)
  refine rvc_un (rexec_prim C (δ := { v := .pv (.lit (.int .i64 0)) }) rfl rfl rfl rfl trivial rfl ?_)
  refine rvc_nil ?_
  refine Awp.seq ?_
  refine Awp.cons C (fun _ => .pure) (by kernel_rfl) ?_
  refine rvc_un (rexec_prim C (δ := { v := .agg [.pv (.lit (.int .i64 c.epoch)), sS (some c.members.nil) eMember c.members.D] }) rfl rfl rfl rfl trivial rfl ?_)
  refine rvc_un (rexec_call hP C rfl rfl rfl (rCheck_calls c hl1) ?_)
  refine rvc_un (rexec_prim C (δ := { v := .pv (.lit (.bool ((rCheck c) != 0))) }) rfl rfl rfl rfl trivial rfl ?_)
  refine rvc_nil ?_
  refine Awp.cond (b := ((rCheck c) != 0)) rfl (fun h1 => ?_) (fun h1 => ?_)
  ·
    replace hR := of_true h1 hR
    refine Awp.cons C (fun _ => .pure) (by kernel_rfl) ?_
    refine rvc_un (rexec_prim C (δ := { v := .pv (.lit (.int .i64 (-1))) }) rfl rfl rfl rfl trivial rfl ?_)
    refine rvc_nil ?_
    refine Awp.ret ?_
    subst hR
    exact ⟨.inl rfl, rfl⟩
  ·
    replace hR := of_false h1 hR
    refine Awp.skip ?_
    refine Awp.seq ?_
    refine Awp.cons C (fun _ => .pure) (by kernel_rfl) ?_
    refine rvc_un (rexec_prim C (δ := { v := .ptr 2 1 }) rfl rfl rfl rfl trivial rfl ?_)
    refine rvc_un (rexec_prim C (δ := { v := sS (some c.members.nil) eMember c.members.D }) rfl rfl rfl rfl trivial rfl ?_)
    refine rvc_un (rexec_prim C (δ := { v := .pv (.lit (.int .i64 (c.members.D.length : Int))) }) rfl rfl rfl rfl trivial rfl ?_)
    refine rvc_un (rexec_prim C (δ := { v := .pv (.lit (.int .i64 0)) }) rfl rfl rfl rfl trivial rfl ?_)
    refine rvc_nil ?_
    refine Awp.block ?_
    refine Awp.forR (σ := Unit) (c.members.D.length) (fun i _v => [(1, .pv (.lit (.int .i64 node))), (11, sS (some c.members.nil) eMember c.members.D), (12, .pv (.lit (.int .i64 (c.members.D.length : Int)))), (13, .pv (.lit (.int .i64 (i : Int))))]) (fun i _v => []) [] (fun i _v => rPlace_l0 node (c.members.D.drop i) i  = R) () ?_ ?_ (fun i _v h2 hR => ?_)
    · exact hR
    · exact ⟨fun b => b, WeakerR.ofL (Ks := []) hI ⟨⟨rfl, rfl⟩, ⟨rfl, rfl⟩, ⟨rfl, rfl⟩, ⟨rfl, rfl⟩, trivial⟩ (okH_nil) rfl⟩
    refine Awp.cons C (fun _ => .pure) (by kernel_rfl) ?_
    refine rvc_un (rexec_prim C (δ := { v := .pv (.lit (.bool (decide ((i : Int) < (c.members.D.length : Int))))) }) rfl rfl rfl rfl trivial rfl ?_)
    refine rvc_nil ?_
    refine Awp.seq ?_
    refine Awp.cond (b := (decide ((i : Int) < (c.members.D.length : Int)))) rfl (fun h3 => ?_) (fun h3 => ?_)
    ·
      have h4 : i < c.members.D.length := by have := of_decide_eq_true h3; omega
      obtain ⟨x, h5⟩ := getX h4
      rw [drop_at h5] at hR
      refine Awp.skip ?_
      refine Awp.seq ?_
      refine Awp.block ?_
      refine Awp.cons C (fun _ => .pure) (by kernel_rfl) ?_
      refine rvc_un (rexec_prim C (δ := { v := .pv (.lit (.int .i64 (i : Int))) }) rfl rfl rfl rfl trivial rfl ?_)
      refine rvc_un (rexec_idxS C rfl rfl rfl rfl rfl rfl x (Int.natCast_nonneg _) h5 ?_)
      refine rvc_un (rexec_prim C (δ := { v := .agg [.pv (.lit (.int .i64 x.node)), .pv (.lit (.int .i64 x.site)), .pv (.lit (.bool x.fresh))] }) rfl rfl rfl rfl trivial rfl ?_)
      refine rvc_un (rexec_prim C (δ := { v := .ptr 6 0, new := [(6, .cells [.pv (.lit (.int .i64 0)), .pv (.lit (.int .i64 0)), .pv (.lit (.bool false))])] }) rfl rfl rfl rfl trivial rfl ?_)
      refine rvc_un (rexec_prim C (δ := { v := .pv (.lit (.int .i64 (i : Int))) }) rfl rfl rfl rfl trivial rfl ?_)
      refine rvc_un (rexec_prim C (δ := { v := .undef, wr := [(6, some (.cells [.pv (.lit (.int .i64 x.node)), .pv (.lit (.int .i64 x.site)), .pv (.lit (.bool x.fresh))]))] }) rfl rfl rfl rfl trivial rfl ?_) -- tNone store
      refine rvc_nil ?_
      refine Awp.cons C (fun _ => .pure) (by kernel_rfl) ?_
      refine rvc_un (rexec_prim C (δ := { v := .ptr 6 0 }) rfl rfl rfl rfl trivial rfl ?_)
      refine rvc_un (rexec_prim C (δ := { v := .pv (.lit (.int .i64 x.node)) }) rfl rfl rfl rfl trivial rfl ?_)
      refine rvc_un (rexec_prim C (δ := { v := .pv (.lit (.int .i64 node)) }) rfl rfl rfl rfl trivial rfl ?_)
      refine rvc_un (rexec_prim C (δ := { v := .pv (.lit (.bool (x.node == node))) }) rfl rfl rfl rfl trivial rfl ?_)
      refine rvc_nil ?_
      refine Awp.cond (b := (x.node == node)) rfl (fun h6 => ?_) (fun h6 => ?_)
      ·
        replace hR := of_true h6 hR
        refine Awp.cons C (fun _ => .pure) (by kernel_rfl) ?_
        refine rvc_un (rexec_prim C (δ := { v := .pv (.lit (.int .i64 (i : Int))) }) rfl rfl rfl rfl trivial rfl ?_)
        refine rvc_un (rexec_prim C (δ := { v := .pv (.lit (.int .i64 (i : Int))) }) rfl rfl rfl rfl trivial rfl ?_)
        refine rvc_nil ?_
        refine Awp.ret ?_
        subst hR
        exact ⟨.inl rfl, rfl⟩
      ·
        replace hR := of_false h6 hR
        refine Awp.skip ?_
        refine Awp.region C (fun _ => .pure) (by kernel_rfl) ?_
        refine rvc_un (rexec_prim C (δ := { v := .pv (.lit (.int .i64 (IntKind.i64.wrap ((i : Int) + 1)))) }) rfl rfl rfl rfl trivial rfl ?_)
        refine rvc_un (rexec_prim C (δ := { v := .pv (.lit (.int .i64 (IntKind.i64.wrap ((i : Int) + 1)))) }) rfl rfl rfl rfl trivial rfl ?_)
        refine rvc_nil ?_
        refine ⟨h4, (), ?_, ?_⟩
        · exact hR
        · exact ⟨fun b => b, WeakerR.ofL (Ks := []) hI ⟨⟨rfl, rfl⟩, ⟨rfl, rfl⟩, ⟨rfl, rfl⟩, ⟨lit_cast (wrap_i64 (by omega) (by omega)), rfl⟩, trivial⟩ (okH_nil) rfl⟩
    ·
      have h4 : ¬ i < c.members.D.length := by have := of_decide_eq_false h3; omega
      rw [drop_end h4] at hR
      refine Awp.exit ?_
      refine Awp.cons C (fun _ => .pure) (by kernel_rfl) ?_
      refine rvc_un (rexec_prim C (δ := { v := .pv (.lit (.int .i64 (-1))) }) rfl rfl rfl rfl trivial rfl ?_)
      refine rvc_nil ?_
      refine Awp.ret ?_
      subst hR
      exact ⟨.inl rfl, rfl⟩

def again (c : Chain) (node : Int) : Chain × Int :=
  (bif ((check c) != 0) then ((Chain.mk 0 (Sl.mk true [])), (check c)) else (bif (decide ((placeIn c node) < 0)) then ((Chain.mk 0 (Sl.mk true [])), 81) else (bif (decide (c.epoch ≥ 1099511627776)) then ((Chain.mk 0 (Sl.mk true [])), 5) else ((after c (cloneMembers c.members)), 0))))
theorem again_calls (c : Chain) (node : Int) (hl1 : c.members.D.length ≤ 1000000) : PCalls Try.prog 43 [.agg [.pv (.lit (.int .i64 c.epoch)), sS (some c.members.nil) eMember c.members.D], .pv (.lit (.int .i64 node))] (.tup [.agg [.pv (.lit (.int .i64 ((again c node).1.epoch))), sS (some (again c node).1.members.nil) eMember ((again c node).1.members.D)], .pv (.lit (.int .i64 ((again c node).2)))]) := by
  generalize hR : again c node = R
  refine PCalls.of_body tabOk Try.func43 rfl rfl rfl rfl rfl mixed fun E hP C hI => ?_
  refine Awp.cons C (fun _ => .pure) (by kernel_rfl) ?_
  refine rvc_un (rexec_prim C (δ := { v := .ptr 2 0, new := [(2, .cells [.pv (.lit (.int .i64 c.epoch)), sS (some c.members.nil) eMember c.members.D])] }) rfl rfl rfl rfl trivial rfl ?_)
  refine rvc_un (rexec_prim C (δ := { v := .ptr 4 0, new := [(4, .cells [.pv (.lit (.int .i64 0)), sS (some true) eMember []])] }) rfl rfl rfl rfl trivial rfl ?_)
  refine rvc_un (rexec_prim C (δ := { v := .pv (.lit (.int .i64 0)) }) rfl rfl rfl rfl trivial rfl ?_)
  refine rvc_nil ?_
  refine Awp.seq ?_
  refine Awp.cons C (fun _ => .pure) (by kernel_rfl) ?_
  refine rvc_un (rexec_prim C (δ := { v := .agg [.pv (.lit (.int .i64 c.epoch)), sS (some c.members.nil) eMember c.members.D] }) rfl rfl rfl rfl trivial rfl ?_)
  refine rvc_un (rexec_call hP C rfl rfl rfl (check_calls c (Nat.le_trans hl1 (by decide))) ?_)
  refine rvc_un (rexec_prim C (δ := { v := .pv (.lit (.int .i64 (check c))) }) rfl rfl rfl rfl trivial rfl ?_)
  refine rvc_nil ?_
  refine Awp.cons C (fun _ => .pure) (by kernel_rfl) ?_
  refine rvc_un (rexec_prim C (δ := { v := .pv (.lit (.int .i64 (check c))) }) rfl rfl rfl rfl trivial rfl ?_)
  refine rvc_un (rexec_prim C (δ := { v := .pv (.lit (.bool ((check c) != 0))) }) rfl rfl rfl rfl trivial rfl ?_)
  refine rvc_nil ?_
  refine Awp.cond (b := ((check c) != 0)) rfl (fun h1 => ?_) (fun h1 => ?_)
  ·
    replace hR := of_true h1 hR
    refine Awp.cons C (fun _ => .pure) (by kernel_rfl) ?_
    refine rvc_un (rexec_prim C (δ := { v := .agg [.pv (.lit (.int .i64 0)), sS (some true) eMember []] }) rfl rfl rfl rfl trivial rfl ?_)
    refine rvc_un (rexec_prim C (δ := { v := .pv (.lit (.int .i64 (check c))) }) rfl rfl rfl rfl trivial rfl ?_)
    refine rvc_un (rexec_prim C (δ := { v := .undef, wr := [(4, some (.cells [.pv (.lit (.int .i64 0)), sS (some true) eMember []]))] }) rfl rfl rfl rfl trivial rfl ?_) -- tNone store
    refine rvc_un (rexec_prim C (δ := { v := .pv (.lit (.int .i64 (check c))) }) rfl rfl rfl rfl trivial rfl ?_)
    refine rvc_nil ?_
    refine Awp.ret ?_
    subst hR
    exact ⟨.inl rfl, rfl⟩
  ·
    replace hR := of_false h1 hR
    refine Awp.skip ?_
    refine Awp.seq ?_
    refine Awp.block ?_
    refine Awp.cons C (fun _ => .pure) (by kernel_rfl) ?_
    refine rvc_un (rexec_prim C (δ := { v := .agg [.pv (.lit (.int .i64 c.epoch)), sS (some c.members.nil) eMember c.members.D] }) rfl rfl rfl rfl trivial rfl ?_)
    refine rvc_un (rexec_prim C (δ := { v := .pv (.lit (.int .i64 node)) }) rfl rfl rfl rfl trivial rfl ?_)
    refine rvc_un (rexec_call hP C rfl rfl rfl (placeIn_calls c node (Nat.le_trans hl1 (by decide))) ?_)
    refine rvc_un (rexec_prim C (δ := { v := .pv (.lit (.bool (decide ((placeIn c node) < 0)))) }) rfl rfl rfl rfl trivial rfl ?_)
    refine rvc_un (rexec_prim C (δ := { v := .pv (.lit (.bool (decide ((placeIn c node) < 0)))) }) rfl rfl rfl rfl trivial rfl ?_)
    refine rvc_nil ?_
    refine Awp.cond (b := (decide ((placeIn c node) < 0))) rfl (fun h2 => ?_) (fun h2 => ?_)
    ·
      replace hR := of_true h2 hR
      refine Awp.cons C (fun _ => .pure) (by kernel_rfl) ?_
      refine rvc_un (rexec_prim C (δ := { v := .agg [.pv (.lit (.int .i64 0)), sS (some true) eMember []] }) rfl rfl rfl rfl trivial rfl ?_)
      refine rvc_un (rexec_prim C (δ := { v := .undef, wr := [(4, some (.cells [.pv (.lit (.int .i64 0)), sS (some true) eMember []]))] }) rfl rfl rfl rfl trivial rfl ?_) -- tNone store
      refine rvc_un (rexec_prim C (δ := { v := .pv (.lit (.int .i64 81)) }) rfl rfl rfl rfl trivial rfl ?_)
      refine rvc_nil ?_
      refine Awp.ret ?_
      subst hR
      exact ⟨.inl rfl, rfl⟩
    ·
      replace hR := of_false h2 hR
      refine Awp.cons C (fun _ => .pure) (by kernel_rfl) ?_
      refine rvc_un (rexec_prim C (δ := { v := .ptr 2 0 }) rfl rfl rfl rfl trivial rfl ?_)
      refine rvc_un (rexec_prim C (δ := { v := .pv (.lit (.int .i64 c.epoch)) }) rfl rfl rfl rfl trivial rfl ?_)
      refine rvc_un (rexec_prim C (δ := { v := .pv (.lit (.bool (decide (c.epoch ≥ 1099511627776)))) }) rfl rfl rfl rfl trivial rfl ?_)
      refine rvc_un (rexec_prim C (δ := { v := .pv (.lit (.bool (decide (c.epoch ≥ 1099511627776)))) }) rfl rfl rfl rfl trivial rfl ?_)
      refine rvc_nil ?_
      refine Awp.cond (b := (decide (c.epoch ≥ 1099511627776))) rfl (fun h3 => ?_) (fun h3 => ?_)
      ·
        replace hR := of_true h3 hR
        refine Awp.cons C (fun _ => .pure) (by kernel_rfl) ?_
        refine rvc_un (rexec_prim C (δ := { v := .agg [.pv (.lit (.int .i64 0)), sS (some true) eMember []] }) rfl rfl rfl rfl trivial rfl ?_)
        refine rvc_un (rexec_prim C (δ := { v := .undef, wr := [(4, some (.cells [.pv (.lit (.int .i64 0)), sS (some true) eMember []]))] }) rfl rfl rfl rfl trivial rfl ?_) -- tNone store
        refine rvc_un (rexec_prim C (δ := { v := .pv (.lit (.int .i64 5)) }) rfl rfl rfl rfl trivial rfl ?_)
        refine rvc_nil ?_
        refine Awp.ret ?_
        subst hR
        exact ⟨.inl rfl, rfl⟩
      ·
        replace hR := of_false h3 hR
        refine Awp.skip ?_
        refine Awp.cons C (fun _ => .pure) (by kernel_rfl) ?_
        refine rvc_un (rexec_prim C (δ := { v := .agg [.pv (.lit (.int .i64 c.epoch)), sS (some c.members.nil) eMember c.members.D] }) rfl rfl rfl rfl trivial rfl ?_)
        refine rvc_un (rexec_prim C (δ := { v := .ptr 2 1 }) rfl rfl rfl rfl trivial rfl ?_)
        refine rvc_un (rexec_prim C (δ := { v := sS (some c.members.nil) eMember c.members.D }) rfl rfl rfl rfl trivial rfl ?_)
        refine rvc_un (rexec_call hP C rfl rfl rfl (cloneMembers_calls c.members hl1) ?_)
        refine rvc_un (rexec_call hP C rfl rfl rfl (after_calls c (cloneMembers c.members)) ?_)
        refine rvc_un (rexec_prim C (δ := { v := .undef, wr := [(4, some (.cells [.pv (.lit (.int .i64 ((after c (cloneMembers c.members)).epoch))), sS (some (after c (cloneMembers c.members)).members.nil) eMember ((after c (cloneMembers c.members)).members.D)]))] }) rfl rfl rfl rfl trivial rfl ?_) -- tNone store
        refine rvc_un (rexec_prim C (δ := { v := .pv (.lit (.int .i64 0)) }) rfl rfl rfl rfl trivial rfl ?_)
        refine rvc_nil ?_
        refine Awp.ret ?_
        subst hR
        exact ⟨.inl rfl, rfl⟩

end Go.Proofs.Ytjhphpoihadmkaa

