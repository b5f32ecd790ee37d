/- The laws of chapter 8 at chains that are too long. No conditions. -/
import Derived.Test.YtjhphpoihadmkaaLay3
namespace Go.Proofs.Ytjhphpoihadmkaa
open Go.Am
def biglawChecks (_c : Chain) (_d : Chain) : Bool :=
  (awake )
theorem biglawChecks_calls (c : Chain) (d : Chain) (hbig : (decide ((IntKind.i64.wrap ((c.members.D.length : Int) + (d.members.D.length : Int))) > 60)) = true) : PCalls Try.prog 3 [.agg [.pv (.lit (.int .i64 c.epoch)), sS (some c.members.nil) eMember c.members.D], .agg [.pv (.lit (.int .i64 d.epoch)), sS (some d.members.nil) eMember d.members.D]] (.pv (.lit (.bool (biglawChecks c d)))) := by
  generalize hR : biglawChecks c d = R
  refine PCalls.of_body tabOk Try.func3 rfl rfl rfl rfl rfl mixed fun E hP C hI => ?_
  refine Awp.cons C (fun _ => .pure) (by kernel_rfl) ?_ -- region 0
  refine rvc_un (rexec_prim C (δ := { v := .ptr 2 0, new := [(2, .cells [.pv (.lit (.int .i64 c.epoch)), sS (some c.members.nil) eMember c.members.D])] }) rfl rfl rfl rfl trivial rfl ?_) -- t2 box
  refine rvc_un (rexec_prim C (δ := { v := .ptr 3 0, new := [(3, .cells [.pv (.lit (.int .i64 d.epoch)), sS (some d.members.nil) eMember d.members.D])] }) rfl rfl rfl rfl trivial rfl ?_) -- t3 box
  refine rvc_un (rexec_prim C (δ := { v := .pv (.lit (.bool false)) }) rfl rfl rfl rfl trivial rfl ?_) -- t4 assign
  refine rvc_nil ?_
  refine Awp.seq ?_
  refine Awp.cons C (fun _ => .pure) (by kernel_rfl) ?_ -- region 1
  refine rvc_un (rexec_prim C (δ := { v := .ptr 2 1 }) rfl rfl rfl rfl trivial rfl ?_) -- t5 fieldAddr
  refine rvc_un (rexec_prim C (δ := { v := sS (some c.members.nil) eMember c.members.D }) rfl rfl rfl rfl trivial rfl ?_) -- t6 load
  refine rvc_un (rexec_prim C (δ := { v := .pv (.lit (.int .i64 (c.members.D.length : Int))) }) rfl rfl rfl rfl trivial rfl ?_) -- t7 call
  refine rvc_un (rexec_prim C (δ := { v := .ptr 3 1 }) rfl rfl rfl rfl trivial rfl ?_) -- t8 fieldAddr
  refine rvc_un (rexec_prim C (δ := { v := sS (some d.members.nil) eMember d.members.D }) rfl rfl rfl rfl trivial rfl ?_) -- t9 load
  refine rvc_un (rexec_prim C (δ := { v := .pv (.lit (.int .i64 (d.members.D.length : Int))) }) rfl rfl rfl rfl trivial rfl ?_) -- t10 call
  refine rvc_un (rexec_prim C (δ := { v := .pv (.lit (.int .i64 (IntKind.i64.wrap ((c.members.D.length : Int) + (d.members.D.length : Int))))) }) rfl rfl rfl rfl trivial rfl ?_) -- t11 binOp
  refine rvc_un (rexec_prim C (δ := { v := .pv (.lit (.bool (decide ((IntKind.i64.wrap ((c.members.D.length : Int) + (d.members.D.length : Int))) > 60)))) }) rfl rfl rfl rfl trivial rfl ?_) -- t12 binOp
  refine rvc_nil ?_
  refine Awp.condT (b := (decide ((IntKind.i64.wrap ((c.members.D.length : Int) + (d.members.D.length : Int))) > 60))) rfl hbig ?_
  refine Awp.cons C (fun _ => .pure) (by kernel_rfl) ?_ -- region 2
  refine rvc_un (rexec_call hP C rfl rfl rfl (awake_calls ) ?_) -- t13 call
  refine rvc_un (rexec_prim C (δ := { v := .pv (.lit (.bool (awake ))) }) rfl rfl rfl rfl trivial rfl ?_) -- t4 assign
  refine rvc_nil ?_
  refine Awp.ret ?_
  subst hR
  exact ⟨.inl rfl, rfl⟩

def biglawPlaces (_c : Chain) (_node : Int) : Bool :=
  (awake )
theorem biglawPlaces_calls (c : Chain) (node : Int) (hbig : (decide ((c.members.D.length : Int) > 60)) = true) : PCalls Try.prog 4 [.agg [.pv (.lit (.int .i64 c.epoch)), sS (some c.members.nil) eMember c.members.D], .pv (.lit (.int .i64 node))] (.pv (.lit (.bool (biglawPlaces c node)))) := by
  generalize hR : biglawPlaces c node = R
  refine PCalls.of_body tabOk Try.func4 rfl rfl rfl rfl rfl mixed fun E hP C hI => ?_
  refine Awp.cons C (fun _ => .pure) (by kernel_rfl) ?_ -- region 0
  refine rvc_un (rexec_prim C (δ := { v := .ptr 2 0, new := [(2, .cells [.pv (.lit (.int .i64 c.epoch)), sS (some c.members.nil) eMember c.members.D])] }) rfl rfl rfl rfl trivial rfl ?_) -- t2 box
  refine rvc_un (rexec_prim C (δ := { v := .pv (.lit (.bool false)) }) rfl rfl rfl rfl trivial rfl ?_) -- t4 assign
  refine rvc_nil ?_
  refine Awp.seq ?_
  refine Awp.cons C (fun _ => .pure) (by kernel_rfl) ?_ -- region 1
  refine rvc_un (rexec_prim C (δ := { v := .ptr 2 1 }) rfl rfl rfl rfl trivial rfl ?_) -- t5 fieldAddr
  refine rvc_un (rexec_prim C (δ := { v := sS (some c.members.nil) eMember c.members.D }) rfl rfl rfl rfl trivial rfl ?_) -- t6 load
  refine rvc_un (rexec_prim C (δ := { v := .pv (.lit (.int .i64 (c.members.D.length : Int))) }) rfl rfl rfl rfl trivial rfl ?_) -- t7 call
  refine rvc_un (rexec_prim C (δ := { v := .pv (.lit (.bool (decide ((c.members.D.length : Int) > 60)))) }) rfl rfl rfl rfl trivial rfl ?_) -- t8 binOp
  refine rvc_nil ?_
  refine Awp.condT (b := (decide ((c.members.D.length : Int) > 60))) rfl hbig ?_
  refine Awp.cons C (fun _ => .pure) (by kernel_rfl) ?_ -- region 2
  refine rvc_un (rexec_call hP C rfl rfl rfl (awake_calls ) ?_) -- t9 call
  refine rvc_un (rexec_prim C (δ := { v := .pv (.lit (.bool (awake ))) }) rfl rfl rfl rfl trivial rfl ?_) -- t4 assign
  refine rvc_nil ?_
  refine Awp.ret ?_
  subst hR
  exact ⟨.inl rfl, rfl⟩

def biglawSets (_c : Chain) : Bool :=
  (awake )
theorem biglawSets_calls (c : Chain) (hbig : (decide ((c.members.D.length : Int) > 60)) = true) : PCalls Try.prog 5 [.agg [.pv (.lit (.int .i64 c.epoch)), sS (some c.members.nil) eMember c.members.D]] (.pv (.lit (.bool (biglawSets c)))) := by
  generalize hR : biglawSets c = R
  refine PCalls.of_body tabOk Try.func5 rfl rfl rfl rfl rfl mixed fun E hP C hI => ?_
  refine Awp.cons C (fun _ => .pure) (by kernel_rfl) ?_ -- region 0
  refine rvc_un (rexec_prim C (δ := { v := .ptr 1 0, new := [(1, .cells [.pv (.lit (.int .i64 c.epoch)), sS (some c.members.nil) eMember c.members.D])] }) rfl rfl rfl rfl trivial rfl ?_) -- t1 box
  refine rvc_un (rexec_prim C (δ := { v := .pv (.lit (.bool false)) }) rfl rfl rfl rfl trivial rfl ?_) -- t2 assign
  refine rvc_nil ?_
  refine Awp.seq ?_
  refine Awp.cons C (fun _ => .pure) (by kernel_rfl) ?_ -- region 1
  refine rvc_un (rexec_prim C (δ := { v := .ptr 1 1 }) rfl rfl rfl rfl trivial rfl ?_) -- t3 fieldAddr
  refine rvc_un (rexec_prim C (δ := { v := sS (some c.members.nil) eMember c.members.D }) rfl rfl rfl rfl trivial rfl ?_) -- t4 load
  refine rvc_un (rexec_prim C (δ := { v := .pv (.lit (.int .i64 (c.members.D.length : Int))) }) rfl rfl rfl rfl trivial rfl ?_) -- t5 call
  refine rvc_un (rexec_prim C (δ := { v := .pv (.lit (.bool (decide ((c.members.D.length : Int) > 60)))) }) rfl rfl rfl rfl trivial rfl ?_) -- t6 binOp
  refine rvc_nil ?_
  refine Awp.condT (b := (decide ((c.members.D.length : Int) > 60))) rfl hbig ?_
  refine Awp.cons C (fun _ => .pure) (by kernel_rfl) ?_ -- region 2
  refine rvc_un (rexec_call hP C rfl rfl rfl (awake_calls ) ?_) -- t7 call
  refine rvc_un (rexec_prim C (δ := { v := .pv (.lit (.bool (awake ))) }) rfl rfl rfl rfl trivial rfl ?_) -- t2 assign
  refine rvc_nil ?_
  refine Awp.ret ?_
  subst hR
  exact ⟨.inl rfl, rfl⟩

def biglawFollows (_a : Chain) (_b : Chain) : Bool :=
  (awake )
theorem biglawFollows_calls (a : Chain) (b : Chain) (hbig : (decide ((IntKind.i64.wrap ((a.members.D.length : Int) + (b.members.D.length : Int))) > 60)) = true) : PCalls Try.prog 8 [.agg [.pv (.lit (.int .i64 a.epoch)), sS (some a.members.nil) eMember a.members.D], .agg [.pv (.lit (.int .i64 b.epoch)), sS (some b.members.nil) eMember b.members.D]] (.pv (.lit (.bool (biglawFollows a b)))) := by
  generalize hR : biglawFollows a b = R
  refine PCalls.of_body tabOk Try.func8 rfl rfl rfl rfl rfl mixed fun E hP C hI => ?_
  refine Awp.cons C (fun _ => .pure) (by kernel_rfl) ?_ -- region 0
  refine rvc_un (rexec_prim C (δ := { v := .ptr 2 0, new := [(2, .cells [.pv (.lit (.int .i64 a.epoch)), sS (some a.members.nil) eMember a.members.D])] }) rfl rfl rfl rfl trivial rfl ?_) -- t2 box
  refine rvc_un (rexec_prim C (δ := { v := .ptr 3 0, new := [(3, .cells [.pv (.lit (.int .i64 b.epoch)), sS (some b.members.nil) eMember b.members.D])] }) rfl rfl rfl rfl trivial rfl ?_) -- t3 box
  refine rvc_un (rexec_prim C (δ := { v := .pv (.lit (.bool false)) }) rfl rfl rfl rfl trivial rfl ?_) -- t4 assign
  refine rvc_nil ?_
  refine Awp.seq ?_
  refine Awp.cons C (fun _ => .pure) (by kernel_rfl) ?_ -- region 1
  refine rvc_un (rexec_prim C (δ := { v := .ptr 2 1 }) rfl rfl rfl rfl trivial rfl ?_) -- t5 fieldAddr
  refine rvc_un (rexec_prim C (δ := { v := sS (some a.members.nil) eMember a.members.D }) rfl rfl rfl rfl trivial rfl ?_) -- t6 load
  refine rvc_un (rexec_prim C (δ := { v := .pv (.lit (.int .i64 (a.members.D.length : Int))) }) rfl rfl rfl rfl trivial rfl ?_) -- t7 call
  refine rvc_un (rexec_prim C (δ := { v := .ptr 3 1 }) rfl rfl rfl rfl trivial rfl ?_) -- t8 fieldAddr
  refine rvc_un (rexec_prim C (δ := { v := sS (some b.members.nil) eMember b.members.D }) rfl rfl rfl rfl trivial rfl ?_) -- t9 load
  refine rvc_un (rexec_prim C (δ := { v := .pv (.lit (.int .i64 (b.members.D.length : Int))) }) rfl rfl rfl rfl trivial rfl ?_) -- t10 call
  refine rvc_un (rexec_prim C (δ := { v := .pv (.lit (.int .i64 (IntKind.i64.wrap ((a.members.D.length : Int) + (b.members.D.length : Int))))) }) rfl rfl rfl rfl trivial rfl ?_) -- t11 binOp
  refine rvc_un (rexec_prim C (δ := { v := .pv (.lit (.bool (decide ((IntKind.i64.wrap ((a.members.D.length : Int) + (b.members.D.length : Int))) > 60)))) }) rfl rfl rfl rfl trivial rfl ?_) -- t12 binOp
  refine rvc_nil ?_
  refine Awp.condT (b := (decide ((IntKind.i64.wrap ((a.members.D.length : Int) + (b.members.D.length : Int))) > 60))) rfl hbig ?_
  refine Awp.cons C (fun _ => .pure) (by kernel_rfl) ?_ -- region 2
  refine rvc_un (rexec_call hP C rfl rfl rfl (awake_calls ) ?_) -- t13 call
  refine rvc_un (rexec_prim C (δ := { v := .pv (.lit (.bool (awake ))) }) rfl rfl rfl rfl trivial rfl ?_) -- t4 assign
  refine rvc_nil ?_
  refine Awp.ret ?_
  subst hR
  exact ⟨.inl rfl, rfl⟩

end Go.Proofs.Ytjhphpoihadmkaa
