/- The law of that. No conditions. -/
import Derived.Test.YtjhphpoihadmkaaLay3
import Derived.Test.YtjhphpoihadmkaaLay2d
namespace Go.Proofs.Ytjhphpoihadmkaa
open Go.Am
def lawFollows (a : Chain) (b : Chain) : Bool :=
  (bif (decide ((IntKind.i64.wrap ((a.members.D.length : Int) + (b.members.D.length : Int))) > 60)) then (awake ) else (bif ((follows a b) == (rFollows a b)) then (awake ) else false))
theorem lawFollows_calls (a : Chain) (b : Chain) (hl1 : a.members.D.length ≤ 9223372036854775807) (hl2 : b.members.D.length ≤ 9223372036854775807) : PCalls Try.prog 8 [.agg [.pv (.lit (.int .i64 a.epoch)), sS (some a.members.nil) eMember a.members.D], .agg [.pv (.lit (.int .i64 b.epoch)), sS (some b.members.nil) eMember b.members.D]] (.pv (.lit (.bool (lawFollows a b)))) := by
  generalize hR : lawFollows a b = R
  refine PCalls.of_body tabOk Try.func8 rfl rfl rfl rfl rfl mixed fun E hP C hI => ?_
  refine Awp.cons C (fun _ => .pure) (by kernel_rfl) ?_ -- region 0
  refine rvc_un (rexec_prim C (δ := { v := .ptr 2 0, new := [(2, .cells [.pv (.lit (.int .i64 a.epoch)), sS (some a.members.nil) eMember a.members.D])] }) rfl rfl rfl rfl trivial rfl ?_) -- t2 box
  refine rvc_un (rexec_prim C (δ := { v := .ptr 3 0, new := [(3, .cells [.pv (.lit (.int .i64 b.epoch)), sS (some b.members.nil) eMember b.members.D])] }) rfl rfl rfl rfl trivial rfl ?_) -- t3 box
  refine rvc_un (rexec_prim C (δ := { v := .pv (.lit (.bool false)) }) rfl rfl rfl rfl trivial rfl ?_) -- t4 assign
  refine rvc_nil ?_
  refine Awp.seq ?_
  refine Awp.cons C (fun _ => .pure) (by kernel_rfl) ?_ -- region 1
  refine rvc_un (rexec_prim C (δ := { v := .ptr 2 1 }) rfl rfl rfl rfl trivial rfl ?_) -- t5 fieldAddr
  refine rvc_un (rexec_prim C (δ := { v := sS (some a.members.nil) eMember a.members.D }) rfl rfl rfl rfl trivial rfl ?_) -- t6 load
  refine rvc_un (rexec_prim C (δ := { v := .pv (.lit (.int .i64 (a.members.D.length : Int))) }) rfl rfl rfl rfl trivial rfl ?_) -- t7 call
  refine rvc_un (rexec_prim C (δ := { v := .ptr 3 1 }) rfl rfl rfl rfl trivial rfl ?_) -- t8 fieldAddr
  refine rvc_un (rexec_prim C (δ := { v := sS (some b.members.nil) eMember b.members.D }) rfl rfl rfl rfl trivial rfl ?_) -- t9 load
  refine rvc_un (rexec_prim C (δ := { v := .pv (.lit (.int .i64 (b.members.D.length : Int))) }) rfl rfl rfl rfl trivial rfl ?_) -- t10 call
  refine rvc_un (rexec_prim C (δ := { v := .pv (.lit (.int .i64 (IntKind.i64.wrap ((a.members.D.length : Int) + (b.members.D.length : Int))))) }) rfl rfl rfl rfl trivial rfl ?_) -- t11 binOp
  refine rvc_un (rexec_prim C (δ := { v := .pv (.lit (.bool (decide ((IntKind.i64.wrap ((a.members.D.length : Int) + (b.members.D.length : Int))) > 60)))) }) rfl rfl rfl rfl trivial rfl ?_) -- t12 binOp
  refine rvc_nil ?_
  refine Awp.cond (b := (decide ((IntKind.i64.wrap ((a.members.D.length : Int) + (b.members.D.length : Int))) > 60))) rfl (fun h1 => ?_) (fun h1 => ?_)
  ·
    replace hR := of_true h1 hR
    refine Awp.cons C (fun _ => .pure) (by kernel_rfl) ?_ -- region 2
    refine rvc_un (rexec_call hP C rfl rfl rfl (awake_calls ) ?_) -- t13 call
    refine rvc_un (rexec_prim C (δ := { v := .pv (.lit (.bool (awake ))) }) rfl rfl rfl rfl trivial rfl ?_) -- t4 assign
    refine rvc_nil ?_
    refine Awp.ret ?_
    subst hR
    exact ⟨.inl rfl, rfl⟩
  ·
    replace hR := of_false h1 hR
    refine Awp.skip ?_
    refine Awp.cons C (fun _ => .pure) (by kernel_rfl) ?_ -- region 3
    refine rvc_un (rexec_prim C (δ := { v := .agg [.pv (.lit (.int .i64 a.epoch)), sS (some a.members.nil) eMember a.members.D] }) rfl rfl rfl rfl trivial rfl ?_) -- t14 load
    refine rvc_un (rexec_prim C (δ := { v := .agg [.pv (.lit (.int .i64 b.epoch)), sS (some b.members.nil) eMember b.members.D] }) rfl rfl rfl rfl trivial rfl ?_) -- t15 load
    refine rvc_un (rexec_call hP C rfl rfl rfl (follows_calls a b hl1 hl2) ?_) -- t16 call
    refine rvc_un (rexec_prim C (δ := { v := .agg [.pv (.lit (.int .i64 a.epoch)), sS (some a.members.nil) eMember a.members.D] }) rfl rfl rfl rfl trivial rfl ?_) -- t17 load
    refine rvc_un (rexec_prim C (δ := { v := .agg [.pv (.lit (.int .i64 b.epoch)), sS (some b.members.nil) eMember b.members.D] }) rfl rfl rfl rfl trivial rfl ?_) -- t18 load
    refine rvc_un (rexec_call hP C rfl rfl rfl (rFollows_calls a b hl1 hl2) ?_) -- t19 call
    refine rvc_un (rexec_prim C (δ := { v := .pv (.lit (.bool ((follows a b) == (rFollows a b)))) }) rfl rfl rfl rfl trivial rfl ?_) -- t20 binOp
    refine rvc_un (rexec_prim C (δ := { v := .pv (.lit (.bool ((follows a b) == (rFollows a b)))) }) rfl rfl rfl rfl trivial rfl ?_) -- t21 move
    refine rvc_case 21 ((follows a b) == (rFollows a b)) rfl (fun h2 => ?_) (fun h2 => ?_)
    ·
      replace hR := of_true h2 hR
      refine rvc_open rfl rfl rfl (rexec_call hP C rfl rfl rfl (awake_calls ) ?_) -- t22 call
      refine rvc_un (rexec_prim C (δ := { v := .pv (.lit (.bool (awake ))) }) rfl rfl rfl rfl trivial rfl ?_) -- t23 pick
      refine rvc_un (rexec_prim C (δ := { v := .pv (.lit (.bool (awake ))) }) rfl rfl rfl rfl trivial rfl ?_) -- t4 assign
      refine rvc_nil ?_
      refine Awp.ret ?_
      subst hR
      exact ⟨.inl rfl, rfl⟩
    ·
      replace hR := of_false h2 hR
      refine rvc_shut rfl rfl rfl rfl ?_ -- t22
      refine rvc_un (rexec_prim C (δ := { v := .pv (.lit (.bool false)) }) rfl rfl rfl rfl trivial rfl ?_) -- t23 pick
      refine rvc_un (rexec_prim C (δ := { v := .pv (.lit (.bool false)) }) rfl rfl rfl rfl trivial rfl ?_) -- t4 assign
      refine rvc_nil ?_
      refine Awp.ret ?_
      subst hR
      exact ⟨.inl rfl, rfl⟩

end Go.Proofs.Ytjhphpoihadmkaa
