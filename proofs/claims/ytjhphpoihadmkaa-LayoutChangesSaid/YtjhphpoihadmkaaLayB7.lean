/- Laws of chapter 8 at chains that are too long. No conditions. -/
import Derived.Test.YtjhphpoihadmkaaLayG
namespace Go.Proofs.Ytjhphpoihadmkaa
open Go.Am
def biglawChanges (_c : Chain) (_k : Do) : Bool :=
  (awake )
theorem biglawChanges_calls (c : Chain) (k : Do) (hbig : (decide ((c.members.D.length : Int) > 60)) = true) : PCalls Try.prog 7 [.agg [.pv (.lit (.int .i64 c.epoch)), sS (some c.members.nil) eMember c.members.D], .agg [.pv (.lit (.int .i64 k.op)), .pv (.lit (.int .i64 k.node)), .pv (.lit (.int .i64 k.site)), .pv (.lit (.bool k.fresh))]] (.pv (.lit (.bool (biglawChanges c k)))) := by
  generalize hR : biglawChanges c k = R
  refine PCalls.of_body tabOk Try.func7 rfl rfl rfl rfl rfl mixed fun E hP C hI => ?_
  refine Awp.cons C (fun _ => .pure) (by kernel_rfl) ?_ -- region 0
  refine rvc_un (rexec_prim C (δ := { v := .ptr 2 0, new := [(2, .cells [.pv (.lit (.int .i64 c.epoch)), sS (some c.members.nil) eMember c.members.D])] }) rfl rfl rfl rfl trivial rfl ?_) -- t2 box
  refine rvc_un (rexec_prim C (δ := { v := .ptr 3 0, new := [(3, .cells [.pv (.lit (.int .i64 k.op)), .pv (.lit (.int .i64 k.node)), .pv (.lit (.int .i64 k.site)), .pv (.lit (.bool k.fresh))])] }) rfl rfl rfl rfl trivial rfl ?_) -- t3 box
  refine rvc_un (rexec_prim C (δ := { v := .pv (.lit (.bool false)) }) rfl rfl rfl rfl trivial rfl ?_) -- t4 assign
  refine rvc_nil ?_
  refine Awp.seq ?_
  refine Awp.cons C (fun _ => .pure) (by kernel_rfl) ?_ -- region 1
  refine rvc_un (rexec_prim C (δ := { v := .ptr 2 1 }) rfl rfl rfl rfl trivial rfl ?_) -- t10 fieldAddr
  refine rvc_un (rexec_prim C (δ := { v := sS (some c.members.nil) eMember c.members.D }) rfl rfl rfl rfl trivial rfl ?_) -- t11 load
  refine rvc_un (rexec_prim C (δ := { v := .pv (.lit (.int .i64 (c.members.D.length : Int))) }) rfl rfl rfl rfl trivial rfl ?_) -- t12 call
  refine rvc_un (rexec_prim C (δ := { v := .pv (.lit (.bool (decide ((c.members.D.length : Int) > 60)))) }) rfl rfl rfl rfl trivial rfl ?_) -- t13 binOp
  refine rvc_nil ?_
  refine Awp.condT (b := (decide ((c.members.D.length : Int) > 60))) rfl hbig ?_
  refine Awp.cons C (fun _ => .pure) (by kernel_rfl) ?_ -- region 2
  refine rvc_un (rexec_call hP C rfl rfl rfl (awake_calls ) ?_) -- t14 call
  refine rvc_un (rexec_prim C (δ := { v := .pv (.lit (.bool (awake ))) }) rfl rfl rfl rfl trivial rfl ?_) -- t4 assign
  refine rvc_nil ?_
  refine Awp.ret ?_
  subst hR
  exact ⟨.inl rfl, rfl⟩

end Go.Proofs.Ytjhphpoihadmkaa
