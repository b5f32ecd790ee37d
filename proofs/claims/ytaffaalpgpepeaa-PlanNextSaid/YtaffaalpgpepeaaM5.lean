import Derived.Test.YtaffaalpgpepeaaM3
import Derived.Test.YtaffaalpgpepeaaM4
/- Small functions of plan. No conditions. -/
namespace Go.Proofs.Ytaffaalpgpepeaa
open Go.Am
structure Command where
  kind : Int
  node : Int
  site : Int
  epoch : Int
  deriving Inhabited
def eCommand : Enc Command := ⟨4, fun x => [.lit (.int .i64 x.kind), .lit (.int .i64 x.node), .lit (.int .i64 x.site), .lit (.int .i64 x.epoch)], fun _ => rfl⟩
def cmdCheck (c : Command) : Int :=
  (bif (decide (c.node ≥ 0)) then (bif (decide (c.site ≥ 0)) then (bif (decide (c.epoch ≥ 1)) then (bif (c.kind == 1) then (bif (decide (c.epoch ≤ 1099511627776)) then (bif (decide (c.node < 6)) then (bif (!(c.site == 0)) then 120 else 0) else 120) else 120) else (bif (c.kind == 3) then (bif (decide (c.epoch ≤ 1099511627776)) then (bif (decide (c.node < 6)) then (bif (!(c.site == 0)) then 120 else 0) else 120) else 120) else (bif (c.kind == 4) then (bif (decide (c.epoch ≤ 1099511627776)) then (bif (decide (c.node < 6)) then (bif (!(c.site == 0)) then 120 else 0) else 120) else 120) else (bif (c.kind == 2) then (bif (decide (c.epoch ≤ 1099511627776)) then (bif (decide (c.node < 6)) then (bif (!(decide (c.site < 3))) then 120 else 0) else 120) else 120) else (bif (c.kind == 5) then (bif (decide (c.epoch ≤ 1099511627776)) then (bif (decide (c.site < 3)) then (bif (!(c.node == 0)) then 120 else 0) else 120) else 120) else 120))))) else (bif (c.kind == 1) then 120 else (bif (c.kind == 3) then 120 else (bif (c.kind == 4) then 120 else (bif (c.kind == 2) then 120 else (bif (c.kind == 5) then 120 else 120)))))) else (bif (decide (c.epoch ≥ 1)) then (bif (c.kind == 1) then (bif (decide (c.epoch ≤ 1099511627776)) then (bif (decide (c.node < 6)) then (bif (!(c.site == 0)) then 120 else 0) else 120) else 120) else (bif (c.kind == 3) then (bif (decide (c.epoch ≤ 1099511627776)) then (bif (decide (c.node < 6)) then (bif (!(c.site == 0)) then 120 else 0) else 120) else 120) else (bif (c.kind == 4) then (bif (decide (c.epoch ≤ 1099511627776)) then (bif (decide (c.node < 6)) then (bif (!(c.site == 0)) then 120 else 0) else 120) else 120) else (bif (c.kind == 2) then (bif (decide (c.epoch ≤ 1099511627776)) then (bif (decide (c.node < 6)) then 120 else 120) else 120) else (bif (c.kind == 5) then (bif (decide (c.epoch ≤ 1099511627776)) then 120 else 120) else 120))))) else (bif (c.kind == 1) then 120 else (bif (c.kind == 3) then 120 else (bif (c.kind == 4) then 120 else (bif (c.kind == 2) then 120 else (bif (c.kind == 5) then 120 else 120))))))) else (bif (decide (c.site ≥ 0)) then (bif (decide (c.epoch ≥ 1)) then (bif (c.kind == 1) then (bif (decide (c.epoch ≤ 1099511627776)) then 120 else 120) else (bif (c.kind == 3) then (bif (decide (c.epoch ≤ 1099511627776)) then 120 else 120) else (bif (c.kind == 4) then (bif (decide (c.epoch ≤ 1099511627776)) then 120 else 120) else (bif (c.kind == 2) then (bif (decide (c.epoch ≤ 1099511627776)) then 120 else 120) else (bif (c.kind == 5) then (bif (decide (c.epoch ≤ 1099511627776)) then (bif (decide (c.site < 3)) then (bif (!(c.node == 0)) then 120 else 0) else 120) else 120) else 120))))) else (bif (c.kind == 1) then 120 else (bif (c.kind == 3) then 120 else (bif (c.kind == 4) then 120 else (bif (c.kind == 2) then 120 else (bif (c.kind == 5) then 120 else 120)))))) else (bif (decide (c.epoch ≥ 1)) then (bif (c.kind == 1) then (bif (decide (c.epoch ≤ 1099511627776)) then 120 else 120) else (bif (c.kind == 3) then (bif (decide (c.epoch ≤ 1099511627776)) then 120 else 120) else (bif (c.kind == 4) then (bif (decide (c.epoch ≤ 1099511627776)) then 120 else 120) else (bif (c.kind == 2) then (bif (decide (c.epoch ≤ 1099511627776)) then 120 else 120) else (bif (c.kind == 5) then (bif (decide (c.epoch ≤ 1099511627776)) then 120 else 120) else 120))))) else (bif (c.kind == 1) then 120 else (bif (c.kind == 3) then 120 else (bif (c.kind == 4) then 120 else (bif (c.kind == 2) then 120 else (bif (c.kind == 5) then 120 else 120))))))))
theorem cmdCheck_calls (c : Command)  : PCalls Try.prog 47 [.agg [.pv (.lit (.int .i64 c.kind)), .pv (.lit (.int .i64 c.node)), .pv (.lit (.int .i64 c.site)), .pv (.lit (.int .i64 c.epoch))]] (.pv (.lit (.int .i64 (cmdCheck c)))) := by
 generalize hR : cmdCheck c = R
 refine PCalls.of_body tabOk Try.func47 rfl rfl rfl rfl rfl mixed fun E hP C hI => ?_
 refine Awp.cons C (fun _ => .pure) (by kernel_rfl) ?_
 refine rvc_un (rexec_prim C (δ := { v := .ptr 1 0, new := [(1, .cells [.pv (.lit (.int .i64 c.kind)), .pv (.lit (.int .i64 c.node)), .pv (.lit (.int .i64 c.site)), .pv (.lit (.int .i64 c.epoch))])] }) rfl rfl rfl rfl trivial rfl ?_)
 refine rvP C (.pv (.lit (.int .i64 0))) rfl rfl rfl rfl ?_
 refine rvc_nil ?_
 refine Awp.cons C (fun _ => .pure) (by kernel_rfl) ?_
 refine rvP C (.ptr 1 1) rfl rfl rfl rfl ?_
 refine rvP C (.pv (.lit (.int .i64 c.node))) rfl rfl rfl rfl ?_
 refine rvP C (.pv (.lit (.bool (decide (c.node ≥ 0))))) rfl rfl rfl rfl ?_
 refine rvP C (.pv (.lit (.bool (decide (c.node ≥ 0))))) rfl rfl rfl rfl ?_
 refine rvc_case 9 (decide (c.node ≥ 0)) rfl (fun h1 => ?_) (fun h1 => ?_)
 ·
  replace hR := of_true h1 hR
  refine rvc_open rfl rfl rfl (rexec_prim C (δ := { v := .ptr 1 1 }) rfl rfl rfl rfl trivial rfl ?_)
  refine rvc_open rfl rfl rfl (rexec_prim C (δ := { v := .pv (.lit (.int .i64 c.node)) }) rfl rfl rfl rfl trivial rfl ?_)
  refine rvc_open rfl rfl rfl (rexec_prim C (δ := { v := .pv (.lit (.bool (decide (c.node < 6)))) }) rfl rfl rfl rfl trivial rfl ?_)
  refine rvP C (.pv (.lit (.bool (decide (c.node < 6))))) rfl rfl rfl rfl ?_
  refine rvP C (.pv (.lit (.bool (decide (c.node < 6))))) rfl rfl rfl rfl ?_
  refine rvc_nil ?_
  refine Awp.cons C (fun _ => .pure) (by kernel_rfl) ?_
  refine rvP C (.ptr 1 2) rfl rfl rfl rfl ?_
  refine rvP C (.pv (.lit (.int .i64 c.site))) rfl rfl rfl rfl ?_
  refine rvP C (.pv (.lit (.bool (decide (c.site ≥ 0))))) rfl rfl rfl rfl ?_
  refine rvP C (.pv (.lit (.bool (decide (c.site ≥ 0))))) rfl rfl rfl rfl ?_
  refine rvc_case 17 (decide (c.site ≥ 0)) rfl (fun h2 => ?_) (fun h2 => ?_)
  ·
   replace hR := of_true h2 hR
   refine rvc_open rfl rfl rfl (rexec_prim C (δ := { v := .ptr 1 2 }) rfl rfl rfl rfl trivial rfl ?_)
   refine rvc_open rfl rfl rfl (rexec_prim C (δ := { v := .pv (.lit (.int .i64 c.site)) }) rfl rfl rfl rfl trivial rfl ?_)
   refine rvc_open rfl rfl rfl (rexec_prim C (δ := { v := .pv (.lit (.bool (decide (c.site < 3)))) }) rfl rfl rfl rfl trivial rfl ?_)
   refine rvP C (.pv (.lit (.bool (decide (c.site < 3))))) rfl rfl rfl rfl ?_
   refine rvP C (.pv (.lit (.bool (decide (c.site < 3))))) rfl rfl rfl rfl ?_
   refine rvc_nil ?_
   refine Awp.cons C (fun _ => .pure) (by kernel_rfl) ?_
   refine rvP C (.ptr 1 3) rfl rfl rfl rfl ?_
   refine rvP C (.pv (.lit (.int .i64 c.epoch))) rfl rfl rfl rfl ?_
   refine rvP C (.pv (.lit (.bool (decide (c.epoch ≥ 1))))) rfl rfl rfl rfl ?_
   refine rvP C (.pv (.lit (.bool (decide (c.epoch ≥ 1))))) rfl rfl rfl rfl ?_
   refine rvc_case 25 (decide (c.epoch ≥ 1)) rfl (fun h3 => ?_) (fun h3 => ?_)
   ·
    replace hR := of_true h3 hR
    refine rvc_open rfl rfl rfl (rexec_prim C (δ := { v := .ptr 1 3 }) rfl rfl rfl rfl trivial rfl ?_)
    refine rvc_open rfl rfl rfl (rexec_prim C (δ := { v := .pv (.lit (.int .i64 c.epoch)) }) rfl rfl rfl rfl trivial rfl ?_)
    refine rvc_open rfl rfl rfl (rexec_prim C (δ := { v := .pv (.lit (.bool (decide (c.epoch ≤ 1099511627776)))) }) rfl rfl rfl rfl trivial rfl ?_)
    refine rvP C (.pv (.lit (.bool (decide (c.epoch ≤ 1099511627776))))) rfl rfl rfl rfl ?_
    refine rvP C (.pv (.lit (.bool (decide (c.epoch ≤ 1099511627776))))) rfl rfl rfl rfl ?_
    refine rvc_nil ?_
    refine Awp.seq ?_
    refine Awp.cons C (fun _ => .pure) (by kernel_rfl) ?_
    refine rvP C (.ptr 1 0) rfl rfl rfl rfl ?_
    refine rvP C (.pv (.lit (.int .i64 c.kind))) rfl rfl rfl rfl ?_
    refine rvc_nil ?_
    refine Awp.block ?_
    refine Awp.seq ?_
    refine Awp.cons C (fun _ => .pure) (by kernel_rfl) ?_
    refine rvP C (.pv (.lit (.bool (c.kind == 1)))) rfl rfl rfl rfl ?_
    refine rvP C (.pv (.lit (.bool (c.kind == 1)))) rfl rfl rfl rfl ?_
    refine rvc_nil ?_
    refine Awp.cond (b := (c.kind == 1)) rfl (fun h4 => ?_) (fun h4 => ?_)
    ·
     replace hR := of_true h4 hR
     refine Awp.skip ?_
     refine Awp.condT (b := (c.kind == 1)) rfl h4 ?_
     refine Awp.region C (fun _ => .pure) (by kernel_rfl) ?_
     refine rvP C (.pv (.lit (.bool (decide (c.epoch ≤ 1099511627776))))) rfl rfl rfl rfl ?_
     refine rvP C (.pv (.lit (.bool (decide (c.epoch ≤ 1099511627776))))) rfl rfl rfl rfl ?_
     refine rvc_case 37 (decide (c.epoch ≤ 1099511627776)) rfl (fun h5 => ?_) (fun h5 => ?_)
     ·
      replace hR := of_true h5 hR
      refine rvc_open rfl rfl rfl (rexec_prim C (δ := { v := .pv (.lit (.bool (decide (c.node < 6)))) }) rfl rfl rfl rfl trivial rfl ?_)
      refine rvP C (.pv (.lit (.bool (decide (c.node < 6))))) rfl rfl rfl rfl ?_
      refine rvP C (.pv (.lit (.bool (decide (c.node < 6))))) rfl rfl rfl rfl ?_
      refine rvc_case 40 (decide (c.node < 6)) rfl (fun h6 => ?_) (fun h6 => ?_)
      ·
       replace hR := of_true h6 hR
       refine rvc_open rfl rfl rfl (rexec_prim C (δ := { v := .ptr 1 2 }) rfl rfl rfl rfl trivial rfl ?_)
       refine rvc_open rfl rfl rfl (rexec_prim C (δ := { v := .pv (.lit (.int .i64 c.site)) }) rfl rfl rfl rfl trivial rfl ?_)
       refine rvc_open rfl rfl rfl (rexec_prim C (δ := { v := .pv (.lit (.bool (c.site == 0))) }) rfl rfl rfl rfl trivial rfl ?_)
       refine rvP C (.pv (.lit (.bool (c.site == 0)))) rfl rfl rfl rfl ?_
       refine rvP C (.pv (.lit (.bool (c.site == 0)))) rfl rfl rfl rfl ?_
       refine rvc_nil ?_
       refine Awp.seq ?_
       refine Awp.cons C (fun _ => .pure) (by kernel_rfl) ?_
       refine rvP C (.pv (.lit (.bool (c.site == 0)))) rfl rfl rfl rfl ?_
       refine rvP C (.pv (.lit (.bool (!(c.site == 0))))) rfl rfl rfl rfl ?_
       refine rvc_nil ?_
       refine Awp.cond (b := (!(c.site == 0))) rfl (fun h7 => ?_) (fun h7 => ?_)
       ·
        replace hR := of_true h7 hR
        refine Awp.cons C (fun _ => .pure) (by kernel_rfl) ?_
        refine rvP C (.pv (.lit (.int .i64 120))) rfl rfl rfl rfl ?_
        refine rvc_nil ?_
        refine Awp.ret ?_
        subst hR
        exact ⟨.inl rfl, rfl⟩
       ·
        replace hR := of_false h7 hR
        refine Awp.skip ?_
        refine Awp.cons C (fun _ => .pure) (by kernel_rfl) ?_
        refine rvP C (.pv (.lit (.int .i64 0))) rfl rfl rfl rfl ?_
        refine rvc_nil ?_
        refine Awp.ret ?_
        subst hR
        exact ⟨.inl rfl, rfl⟩
      ·
       replace hR := of_false h6 hR
       refine rvc_shut rfl rfl rfl rfl ?_
       refine rvc_shut rfl rfl rfl rfl ?_
       refine rvc_shut rfl rfl rfl rfl ?_
       refine rvP C (.pv (.lit (.bool false))) rfl rfl rfl rfl ?_
       refine rvP C (.pv (.lit (.bool false))) rfl rfl rfl rfl ?_
       refine rvc_nil ?_
       refine Awp.seq ?_
       refine Awp.cons C (fun _ => .pure) (by kernel_rfl) ?_
       refine rvP C (.pv (.lit (.bool false))) rfl rfl rfl rfl ?_
       refine rvP C (.pv (.lit (.bool true))) rfl rfl rfl rfl ?_
       refine rvc_nil ?_
       refine Awp.condT (b := true) rfl rfl ?_
       refine Awp.cons C (fun _ => .pure) (by kernel_rfl) ?_
       refine rvP C (.pv (.lit (.int .i64 120))) rfl rfl rfl rfl ?_
       refine rvc_nil ?_
       refine Awp.ret ?_
       subst hR
       exact ⟨.inl rfl, rfl⟩
     ·
      replace hR := of_false h5 hR
      refine rvc_shut rfl rfl rfl rfl ?_
      refine rvP C (.pv (.lit (.bool false))) rfl rfl rfl rfl ?_
      refine rvP C (.pv (.lit (.bool false))) rfl rfl rfl rfl ?_
      refine rvc_shut rfl rfl rfl rfl ?_
      refine rvc_shut rfl rfl rfl rfl ?_
      refine rvc_shut rfl rfl rfl rfl ?_
      refine rvP C (.pv (.lit (.bool false))) rfl rfl rfl rfl ?_
      refine rvP C (.pv (.lit (.bool false))) rfl rfl rfl rfl ?_
      refine rvc_nil ?_
      refine Awp.seq ?_
      refine Awp.cons C (fun _ => .pure) (by kernel_rfl) ?_
      refine rvP C (.pv (.lit (.bool false))) rfl rfl rfl rfl ?_
      refine rvP C (.pv (.lit (.bool true))) rfl rfl rfl rfl ?_
      refine rvc_nil ?_
      refine Awp.condT (b := true) rfl rfl ?_
      refine Awp.cons C (fun _ => .pure) (by kernel_rfl) ?_
      refine rvP C (.pv (.lit (.int .i64 120))) rfl rfl rfl rfl ?_
      refine rvc_nil ?_
      refine Awp.ret ?_
      subst hR
      exact ⟨.inl rfl, rfl⟩
    ·
     replace hR := of_false h4 hR
     refine Awp.cons C (fun _ => .pure) (by kernel_rfl) ?_
     refine rvP C (.pv (.lit (.bool (c.kind == 3)))) rfl rfl rfl rfl ?_
     refine rvP C (.pv (.lit (.bool (c.kind == 3)))) rfl rfl rfl rfl ?_
     refine rvc_nil ?_
     refine Awp.cond (b := (c.kind == 3)) rfl (fun h8 => ?_) (fun h8 => ?_)
     ·
      replace hR := of_true h8 hR
      refine Awp.skip ?_
      refine Awp.condT (b := (c.kind == 3)) rfl h8 ?_
      refine Awp.region C (fun _ => .pure) (by kernel_rfl) ?_
      refine rvP C (.pv (.lit (.bool (decide (c.epoch ≤ 1099511627776))))) rfl rfl rfl rfl ?_
      refine rvP C (.pv (.lit (.bool (decide (c.epoch ≤ 1099511627776))))) rfl rfl rfl rfl ?_
      refine rvc_case 37 (decide (c.epoch ≤ 1099511627776)) rfl (fun h9 => ?_) (fun h9 => ?_)
      ·
       replace hR := of_true h9 hR
       refine rvc_open rfl rfl rfl (rexec_prim C (δ := { v := .pv (.lit (.bool (decide (c.node < 6)))) }) rfl rfl rfl rfl trivial rfl ?_)
       refine rvP C (.pv (.lit (.bool (decide (c.node < 6))))) rfl rfl rfl rfl ?_
       refine rvP C (.pv (.lit (.bool (decide (c.node < 6))))) rfl rfl rfl rfl ?_
       refine rvc_case 40 (decide (c.node < 6)) rfl (fun h10 => ?_) (fun h10 => ?_)
       ·
        replace hR := of_true h10 hR
        refine rvc_open rfl rfl rfl (rexec_prim C (δ := { v := .ptr 1 2 }) rfl rfl rfl rfl trivial rfl ?_)
        refine rvc_open rfl rfl rfl (rexec_prim C (δ := { v := .pv (.lit (.int .i64 c.site)) }) rfl rfl rfl rfl trivial rfl ?_)
        refine rvc_open rfl rfl rfl (rexec_prim C (δ := { v := .pv (.lit (.bool (c.site == 0))) }) rfl rfl rfl rfl trivial rfl ?_)
        refine rvP C (.pv (.lit (.bool (c.site == 0)))) rfl rfl rfl rfl ?_
        refine rvP C (.pv (.lit (.bool (c.site == 0)))) rfl rfl rfl rfl ?_
        refine rvc_nil ?_
        refine Awp.seq ?_
        refine Awp.cons C (fun _ => .pure) (by kernel_rfl) ?_
        refine rvP C (.pv (.lit (.bool (c.site == 0)))) rfl rfl rfl rfl ?_
        refine rvP C (.pv (.lit (.bool (!(c.site == 0))))) rfl rfl rfl rfl ?_
        refine rvc_nil ?_
        refine Awp.cond (b := (!(c.site == 0))) rfl (fun h11 => ?_) (fun h11 => ?_)
        ·
         replace hR := of_true h11 hR
         refine Awp.cons C (fun _ => .pure) (by kernel_rfl) ?_
         refine rvP C (.pv (.lit (.int .i64 120))) rfl rfl rfl rfl ?_
         refine rvc_nil ?_
         refine Awp.ret ?_
         subst hR
         exact ⟨.inl rfl, rfl⟩
        ·
         replace hR := of_false h11 hR
         refine Awp.skip ?_
         refine Awp.cons C (fun _ => .pure) (by kernel_rfl) ?_
         refine rvP C (.pv (.lit (.int .i64 0))) rfl rfl rfl rfl ?_
         refine rvc_nil ?_
         refine Awp.ret ?_
         subst hR
         exact ⟨.inl rfl, rfl⟩
       ·
        replace hR := of_false h10 hR
        refine rvc_shut rfl rfl rfl rfl ?_
        refine rvc_shut rfl rfl rfl rfl ?_
        refine rvc_shut rfl rfl rfl rfl ?_
        refine rvP C (.pv (.lit (.bool false))) rfl rfl rfl rfl ?_
        refine rvP C (.pv (.lit (.bool false))) rfl rfl rfl rfl ?_
        refine rvc_nil ?_
        refine Awp.seq ?_
        refine Awp.cons C (fun _ => .pure) (by kernel_rfl) ?_
        refine rvP C (.pv (.lit (.bool false))) rfl rfl rfl rfl ?_
        refine rvP C (.pv (.lit (.bool true))) rfl rfl rfl rfl ?_
        refine rvc_nil ?_
        refine Awp.condT (b := true) rfl rfl ?_
        refine Awp.cons C (fun _ => .pure) (by kernel_rfl) ?_
        refine rvP C (.pv (.lit (.int .i64 120))) rfl rfl rfl rfl ?_
        refine rvc_nil ?_
        refine Awp.ret ?_
        subst hR
        exact ⟨.inl rfl, rfl⟩
      ·
       replace hR := of_false h9 hR
       refine rvc_shut rfl rfl rfl rfl ?_
       refine rvP C (.pv (.lit (.bool false))) rfl rfl rfl rfl ?_
       refine rvP C (.pv (.lit (.bool false))) rfl rfl rfl rfl ?_
       refine rvc_shut rfl rfl rfl rfl ?_
       refine rvc_shut rfl rfl rfl rfl ?_
       refine rvc_shut rfl rfl rfl rfl ?_
       refine rvP C (.pv (.lit (.bool false))) rfl rfl rfl rfl ?_
       refine rvP C (.pv (.lit (.bool false))) rfl rfl rfl rfl ?_
       refine rvc_nil ?_
       refine Awp.seq ?_
       refine Awp.cons C (fun _ => .pure) (by kernel_rfl) ?_
       refine rvP C (.pv (.lit (.bool false))) rfl rfl rfl rfl ?_
       refine rvP C (.pv (.lit (.bool true))) rfl rfl rfl rfl ?_
       refine rvc_nil ?_
       refine Awp.condT (b := true) rfl rfl ?_
       refine Awp.cons C (fun _ => .pure) (by kernel_rfl) ?_
       refine rvP C (.pv (.lit (.int .i64 120))) rfl rfl rfl rfl ?_
       refine rvc_nil ?_
       refine Awp.ret ?_
       subst hR
       exact ⟨.inl rfl, rfl⟩
     ·
      replace hR := of_false h8 hR
      refine Awp.region C (fun _ => .pure) (by kernel_rfl) ?_
      refine rvP C (.pv (.lit (.bool (c.kind == 4)))) rfl rfl rfl rfl ?_
      refine rvP C (.pv (.lit (.bool (c.kind == 4)))) rfl rfl rfl rfl ?_
      refine rvc_nil ?_
      refine Awp.cond (b := (c.kind == 4)) rfl (fun h12 => ?_) (fun h12 => ?_)
      ·
       replace hR := of_true h12 hR
       refine Awp.region C (fun _ => .pure) (by kernel_rfl) ?_
       refine rvP C (.pv (.lit (.bool (decide (c.epoch ≤ 1099511627776))))) rfl rfl rfl rfl ?_
       refine rvP C (.pv (.lit (.bool (decide (c.epoch ≤ 1099511627776))))) rfl rfl rfl rfl ?_
       refine rvc_case 37 (decide (c.epoch ≤ 1099511627776)) rfl (fun h13 => ?_) (fun h13 => ?_)
       ·
        replace hR := of_true h13 hR
        refine rvc_open rfl rfl rfl (rexec_prim C (δ := { v := .pv (.lit (.bool (decide (c.node < 6)))) }) rfl rfl rfl rfl trivial rfl ?_)
        refine rvP C (.pv (.lit (.bool (decide (c.node < 6))))) rfl rfl rfl rfl ?_
        refine rvP C (.pv (.lit (.bool (decide (c.node < 6))))) rfl rfl rfl rfl ?_
        refine rvc_case 40 (decide (c.node < 6)) rfl (fun h14 => ?_) (fun h14 => ?_)
        ·
         replace hR := of_true h14 hR
         refine rvc_open rfl rfl rfl (rexec_prim C (δ := { v := .ptr 1 2 }) rfl rfl rfl rfl trivial rfl ?_)
         refine rvc_open rfl rfl rfl (rexec_prim C (δ := { v := .pv (.lit (.int .i64 c.site)) }) rfl rfl rfl rfl trivial rfl ?_)
         refine rvc_open rfl rfl rfl (rexec_prim C (δ := { v := .pv (.lit (.bool (c.site == 0))) }) rfl rfl rfl rfl trivial rfl ?_)
         refine rvP C (.pv (.lit (.bool (c.site == 0)))) rfl rfl rfl rfl ?_
         refine rvP C (.pv (.lit (.bool (c.site == 0)))) rfl rfl rfl rfl ?_
         refine rvc_nil ?_
         refine Awp.seq ?_
         refine Awp.cons C (fun _ => .pure) (by kernel_rfl) ?_
         refine rvP C (.pv (.lit (.bool (c.site == 0)))) rfl rfl rfl rfl ?_
         refine rvP C (.pv (.lit (.bool (!(c.site == 0))))) rfl rfl rfl rfl ?_
         refine rvc_nil ?_
         refine Awp.cond (b := (!(c.site == 0))) rfl (fun h15 => ?_) (fun h15 => ?_)
         ·
          replace hR := of_true h15 hR
          refine Awp.cons C (fun _ => .pure) (by kernel_rfl) ?_
          refine rvP C (.pv (.lit (.int .i64 120))) rfl rfl rfl rfl ?_
          refine rvc_nil ?_
          refine Awp.ret ?_
          subst hR
          exact ⟨.inl rfl, rfl⟩
         ·
          replace hR := of_false h15 hR
          refine Awp.skip ?_
          refine Awp.cons C (fun _ => .pure) (by kernel_rfl) ?_
          refine rvP C (.pv (.lit (.int .i64 0))) rfl rfl rfl rfl ?_
          refine rvc_nil ?_
          refine Awp.ret ?_
          subst hR
          exact ⟨.inl rfl, rfl⟩
        ·
         replace hR := of_false h14 hR
         refine rvc_shut rfl rfl rfl rfl ?_
         refine rvc_shut rfl rfl rfl rfl ?_
         refine rvc_shut rfl rfl rfl rfl ?_
         refine rvP C (.pv (.lit (.bool false))) rfl rfl rfl rfl ?_
         refine rvP C (.pv (.lit (.bool false))) rfl rfl rfl rfl ?_
         refine rvc_nil ?_
         refine Awp.seq ?_
         refine Awp.cons C (fun _ => .pure) (by kernel_rfl) ?_
         refine rvP C (.pv (.lit (.bool false))) rfl rfl rfl rfl ?_
         refine rvP C (.pv (.lit (.bool true))) rfl rfl rfl rfl ?_
         refine rvc_nil ?_
         refine Awp.condT (b := true) rfl rfl ?_
         refine Awp.cons C (fun _ => .pure) (by kernel_rfl) ?_
         refine rvP C (.pv (.lit (.int .i64 120))) rfl rfl rfl rfl ?_
         refine rvc_nil ?_
         refine Awp.ret ?_
         subst hR
         exact ⟨.inl rfl, rfl⟩
       ·
        replace hR := of_false h13 hR
        refine rvc_shut rfl rfl rfl rfl ?_
        refine rvP C (.pv (.lit (.bool false))) rfl rfl rfl rfl ?_
        refine rvP C (.pv (.lit (.bool false))) rfl rfl rfl rfl ?_
        refine rvc_shut rfl rfl rfl rfl ?_
        refine rvc_shut rfl rfl rfl rfl ?_
        refine rvc_shut rfl rfl rfl rfl ?_
        refine rvP C (.pv (.lit (.bool false))) rfl rfl rfl rfl ?_
        refine rvP C (.pv (.lit (.bool false))) rfl rfl rfl rfl ?_
        refine rvc_nil ?_
        refine Awp.seq ?_
        refine Awp.cons C (fun _ => .pure) (by kernel_rfl) ?_
        refine rvP C (.pv (.lit (.bool false))) rfl rfl rfl rfl ?_
        refine rvP C (.pv (.lit (.bool true))) rfl rfl rfl rfl ?_
        refine rvc_nil ?_
        refine Awp.condT (b := true) rfl rfl ?_
        refine Awp.cons C (fun _ => .pure) (by kernel_rfl) ?_
        refine rvP C (.pv (.lit (.int .i64 120))) rfl rfl rfl rfl ?_
        refine rvc_nil ?_
        refine Awp.ret ?_
        subst hR
        exact ⟨.inl rfl, rfl⟩
      ·
       replace hR := of_false h12 hR
       refine Awp.cons C (fun _ => .pure) (by kernel_rfl) ?_
       refine rvP C (.pv (.lit (.bool (c.kind == 2)))) rfl rfl rfl rfl ?_
       refine rvP C (.pv (.lit (.bool (c.kind == 2)))) rfl rfl rfl rfl ?_
       refine rvc_nil ?_
       refine Awp.cond (b := (c.kind == 2)) rfl (fun h16 => ?_) (fun h16 => ?_)
       ·
        replace hR := of_true h16 hR
        refine Awp.region C (fun _ => .pure) (by kernel_rfl) ?_
        refine rvP C (.pv (.lit (.bool (decide (c.epoch ≤ 1099511627776))))) rfl rfl rfl rfl ?_
        refine rvP C (.pv (.lit (.bool (decide (c.epoch ≤ 1099511627776))))) rfl rfl rfl rfl ?_
        refine rvc_case 48 (decide (c.epoch ≤ 1099511627776)) rfl (fun h17 => ?_) (fun h17 => ?_)
        ·
         replace hR := of_true h17 hR
         refine rvc_open rfl rfl rfl (rexec_prim C (δ := { v := .pv (.lit (.bool (decide (c.node < 6)))) }) rfl rfl rfl rfl trivial rfl ?_)
         refine rvP C (.pv (.lit (.bool (decide (c.node < 6))))) rfl rfl rfl rfl ?_
         refine rvP C (.pv (.lit (.bool (decide (c.node < 6))))) rfl rfl rfl rfl ?_
         refine rvc_case 51 (decide (c.node < 6)) rfl (fun h18 => ?_) (fun h18 => ?_)
         ·
          replace hR := of_true h18 hR
          refine rvc_open rfl rfl rfl (rexec_prim C (δ := { v := .pv (.lit (.bool (decide (c.site < 3)))) }) rfl rfl rfl rfl trivial rfl ?_)
          refine rvP C (.pv (.lit (.bool (decide (c.site < 3))))) rfl rfl rfl rfl ?_
          refine rvP C (.pv (.lit (.bool (decide (c.site < 3))))) rfl rfl rfl rfl ?_
          refine rvc_nil ?_
          refine Awp.seq ?_
          refine Awp.cons C (fun _ => .pure) (by kernel_rfl) ?_
          refine rvP C (.pv (.lit (.bool (decide (c.site < 3))))) rfl rfl rfl rfl ?_
          refine rvP C (.pv (.lit (.bool (!(decide (c.site < 3)))))) rfl rfl rfl rfl ?_
          refine rvc_nil ?_
          refine Awp.cond (b := (!(decide (c.site < 3)))) rfl (fun h19 => ?_) (fun h19 => ?_)
          ·
           replace hR := of_true h19 hR
           refine Awp.cons C (fun _ => .pure) (by kernel_rfl) ?_
           refine rvP C (.pv (.lit (.int .i64 120))) rfl rfl rfl rfl ?_
           refine rvc_nil ?_
           refine Awp.ret ?_
           subst hR
           exact ⟨.inl rfl, rfl⟩
          ·
           replace hR := of_false h19 hR
           refine Awp.skip ?_
           refine Awp.cons C (fun _ => .pure) (by kernel_rfl) ?_
           refine rvP C (.pv (.lit (.int .i64 0))) rfl rfl rfl rfl ?_
           refine rvc_nil ?_
           refine Awp.ret ?_
           subst hR
           exact ⟨.inl rfl, rfl⟩
         ·
          replace hR := of_false h18 hR
          refine rvc_shut rfl rfl rfl rfl ?_
          refine rvP C (.pv (.lit (.bool false))) rfl rfl rfl rfl ?_
          refine rvP C (.pv (.lit (.bool false))) rfl rfl rfl rfl ?_
          refine rvc_nil ?_
          refine Awp.seq ?_
          refine Awp.cons C (fun _ => .pure) (by kernel_rfl) ?_
          refine rvP C (.pv (.lit (.bool false))) rfl rfl rfl rfl ?_
          refine rvP C (.pv (.lit (.bool true))) rfl rfl rfl rfl ?_
          refine rvc_nil ?_
          refine Awp.condT (b := true) rfl rfl ?_
          refine Awp.cons C (fun _ => .pure) (by kernel_rfl) ?_
          refine rvP C (.pv (.lit (.int .i64 120))) rfl rfl rfl rfl ?_
          refine rvc_nil ?_
          refine Awp.ret ?_
          subst hR
          exact ⟨.inl rfl, rfl⟩
        ·
         replace hR := of_false h17 hR
         refine rvc_shut rfl rfl rfl rfl ?_
         refine rvP C (.pv (.lit (.bool false))) rfl rfl rfl rfl ?_
         refine rvP C (.pv (.lit (.bool false))) rfl rfl rfl rfl ?_
         refine rvc_shut rfl rfl rfl rfl ?_
         refine rvP C (.pv (.lit (.bool false))) rfl rfl rfl rfl ?_
         refine rvP C (.pv (.lit (.bool false))) rfl rfl rfl rfl ?_
         refine rvc_nil ?_
         refine Awp.seq ?_
         refine Awp.cons C (fun _ => .pure) (by kernel_rfl) ?_
         refine rvP C (.pv (.lit (.bool false))) rfl rfl rfl rfl ?_
         refine rvP C (.pv (.lit (.bool true))) rfl rfl rfl rfl ?_
         refine rvc_nil ?_
         refine Awp.condT (b := true) rfl rfl ?_
         refine Awp.cons C (fun _ => .pure) (by kernel_rfl) ?_
         refine rvP C (.pv (.lit (.int .i64 120))) rfl rfl rfl rfl ?_
         refine rvc_nil ?_
         refine Awp.ret ?_
         subst hR
         exact ⟨.inl rfl, rfl⟩
       ·
        replace hR := of_false h16 hR
        refine Awp.cons C (fun _ => .pure) (by kernel_rfl) ?_
        refine rvP C (.pv (.lit (.bool (c.kind == 5)))) rfl rfl rfl rfl ?_
        refine rvP C (.pv (.lit (.bool (c.kind == 5)))) rfl rfl rfl rfl ?_
        refine rvc_nil ?_
        refine Awp.cond (b := (c.kind == 5)) rfl (fun h20 => ?_) (fun h20 => ?_)
        ·
         replace hR := of_true h20 hR
         refine Awp.region C (fun _ => .pure) (by kernel_rfl) ?_
         refine rvP C (.pv (.lit (.bool (decide (c.epoch ≤ 1099511627776))))) rfl rfl rfl rfl ?_
         refine rvP C (.pv (.lit (.bool (decide (c.epoch ≤ 1099511627776))))) rfl rfl rfl rfl ?_
         refine rvc_case 57 (decide (c.epoch ≤ 1099511627776)) rfl (fun h21 => ?_) (fun h21 => ?_)
         ·
          replace hR := of_true h21 hR
          refine rvc_open rfl rfl rfl (rexec_prim C (δ := { v := .pv (.lit (.bool (decide (c.site < 3)))) }) rfl rfl rfl rfl trivial rfl ?_)
          refine rvP C (.pv (.lit (.bool (decide (c.site < 3))))) rfl rfl rfl rfl ?_
          refine rvP C (.pv (.lit (.bool (decide (c.site < 3))))) rfl rfl rfl rfl ?_
          refine rvc_case 60 (decide (c.site < 3)) rfl (fun h22 => ?_) (fun h22 => ?_)
          ·
           replace hR := of_true h22 hR
           refine rvc_open rfl rfl rfl (rexec_prim C (δ := { v := .ptr 1 1 }) rfl rfl rfl rfl trivial rfl ?_)
           refine rvc_open rfl rfl rfl (rexec_prim C (δ := { v := .pv (.lit (.int .i64 c.node)) }) rfl rfl rfl rfl trivial rfl ?_)
           refine rvc_open rfl rfl rfl (rexec_prim C (δ := { v := .pv (.lit (.bool (c.node == 0))) }) rfl rfl rfl rfl trivial rfl ?_)
           refine rvP C (.pv (.lit (.bool (c.node == 0)))) rfl rfl rfl rfl ?_
           refine rvP C (.pv (.lit (.bool (c.node == 0)))) rfl rfl rfl rfl ?_
           refine rvc_nil ?_
           refine Awp.seq ?_
           refine Awp.cons C (fun _ => .pure) (by kernel_rfl) ?_
           refine rvP C (.pv (.lit (.bool (c.node == 0)))) rfl rfl rfl rfl ?_
           refine rvP C (.pv (.lit (.bool (!(c.node == 0))))) rfl rfl rfl rfl ?_
           refine rvc_nil ?_
           refine Awp.cond (b := (!(c.node == 0))) rfl (fun h23 => ?_) (fun h23 => ?_)
           ·
            replace hR := of_true h23 hR
            refine Awp.cons C (fun _ => .pure) (by kernel_rfl) ?_
            refine rvP C (.pv (.lit (.int .i64 120))) rfl rfl rfl rfl ?_
            refine rvc_nil ?_
            refine Awp.ret ?_
            subst hR
            exact ⟨.inl rfl, rfl⟩
           ·
            replace hR := of_false h23 hR
            refine Awp.skip ?_
            refine Awp.cons C (fun _ => .pure) (by kernel_rfl) ?_
            refine rvP C (.pv (.lit (.int .i64 0))) rfl rfl rfl rfl ?_
            refine rvc_nil ?_
            refine Awp.ret ?_
            subst hR
            exact ⟨.inl rfl, rfl⟩
          ·
           replace hR := of_false h22 hR
           refine rvc_shut rfl rfl rfl rfl ?_
           refine rvc_shut rfl rfl rfl rfl ?_
           refine rvc_shut rfl rfl rfl rfl ?_
           refine rvP C (.pv (.lit (.bool false))) rfl rfl rfl rfl ?_
           refine rvP C (.pv (.lit (.bool false))) rfl rfl rfl rfl ?_
           refine rvc_nil ?_
           refine Awp.seq ?_
           refine Awp.cons C (fun _ => .pure) (by kernel_rfl) ?_
           refine rvP C (.pv (.lit (.bool false))) rfl rfl rfl rfl ?_
           refine rvP C (.pv (.lit (.bool true))) rfl rfl rfl rfl ?_
           refine rvc_nil ?_
           refine Awp.condT (b := true) rfl rfl ?_
           refine Awp.cons C (fun _ => .pure) (by kernel_rfl) ?_
           refine rvP C (.pv (.lit (.int .i64 120))) rfl rfl rfl rfl ?_
           refine rvc_nil ?_
           refine Awp.ret ?_
           subst hR
           exact ⟨.inl rfl, rfl⟩
         ·
          replace hR := of_false h21 hR
          refine rvc_shut rfl rfl rfl rfl ?_
          refine rvP C (.pv (.lit (.bool false))) rfl rfl rfl rfl ?_
          refine rvP C (.pv (.lit (.bool false))) rfl rfl rfl rfl ?_
          refine rvc_shut rfl rfl rfl rfl ?_
          refine rvc_shut rfl rfl rfl rfl ?_
          refine rvc_shut rfl rfl rfl rfl ?_
          refine rvP C (.pv (.lit (.bool false))) rfl rfl rfl rfl ?_
          refine rvP C (.pv (.lit (.bool false))) rfl rfl rfl rfl ?_
          refine rvc_nil ?_
          refine Awp.seq ?_
          refine Awp.cons C (fun _ => .pure) (by kernel_rfl) ?_
          refine rvP C (.pv (.lit (.bool false))) rfl rfl rfl rfl ?_
          refine rvP C (.pv (.lit (.bool true))) rfl rfl rfl rfl ?_
          refine rvc_nil ?_
          refine Awp.condT (b := true) rfl rfl ?_
          refine Awp.cons C (fun _ => .pure) (by kernel_rfl) ?_
          refine rvP C (.pv (.lit (.int .i64 120))) rfl rfl rfl rfl ?_
          refine rvc_nil ?_
          refine Awp.ret ?_
          subst hR
          exact ⟨.inl rfl, rfl⟩
        ·
         replace hR := of_false h20 hR
         refine Awp.region C (fun _ => .pure) (by kernel_rfl) ?_
         refine rvP C (.pv (.lit (.bool false))) rfl rfl rfl rfl ?_
         refine rvc_nil ?_
         refine Awp.seq ?_
         refine Awp.cons C (fun _ => .pure) (by kernel_rfl) ?_
         refine rvP C (.pv (.lit (.bool false))) rfl rfl rfl rfl ?_
         refine rvP C (.pv (.lit (.bool true))) rfl rfl rfl rfl ?_
         refine rvc_nil ?_
         refine Awp.condT (b := true) rfl rfl ?_
         refine Awp.cons C (fun _ => .pure) (by kernel_rfl) ?_
         refine rvP C (.pv (.lit (.int .i64 120))) rfl rfl rfl rfl ?_
         refine rvc_nil ?_
         refine Awp.ret ?_
         subst hR
         exact ⟨.inl rfl, rfl⟩
   ·
    replace hR := of_false h3 hR
    refine rvc_shut rfl rfl rfl rfl ?_
    refine rvc_shut rfl rfl rfl rfl ?_
    refine rvc_shut rfl rfl rfl rfl ?_
    refine rvP C (.pv (.lit (.bool false))) rfl rfl rfl rfl ?_
    refine rvP C (.pv (.lit (.bool false))) rfl rfl rfl rfl ?_
    refine rvc_nil ?_
    refine Awp.seq ?_
    refine Awp.cons C (fun _ => .pure) (by kernel_rfl) ?_
    refine rvP C (.ptr 1 0) rfl rfl rfl rfl ?_
    refine rvP C (.pv (.lit (.int .i64 c.kind))) rfl rfl rfl rfl ?_
    refine rvc_nil ?_
    refine Awp.block ?_
    refine Awp.seq ?_
    refine Awp.cons C (fun _ => .pure) (by kernel_rfl) ?_
    refine rvP C (.pv (.lit (.bool (c.kind == 1)))) rfl rfl rfl rfl ?_
    refine rvP C (.pv (.lit (.bool (c.kind == 1)))) rfl rfl rfl rfl ?_
    refine rvc_nil ?_
    refine Awp.cond (b := (c.kind == 1)) rfl (fun h24 => ?_) (fun h24 => ?_)
    ·
     replace hR := of_true h24 hR
     refine Awp.skip ?_
     refine Awp.condT (b := (c.kind == 1)) rfl h24 ?_
     refine Awp.region C (fun _ => .pure) (by kernel_rfl) ?_
     refine rvP C (.pv (.lit (.bool false))) rfl rfl rfl rfl ?_
     refine rvP C (.pv (.lit (.bool false))) rfl rfl rfl rfl ?_
     refine rvc_shut rfl rfl rfl rfl ?_
     refine rvP C (.pv (.lit (.bool false))) rfl rfl rfl rfl ?_
     refine rvP C (.pv (.lit (.bool false))) rfl rfl rfl rfl ?_
     refine rvc_shut rfl rfl rfl rfl ?_
     refine rvc_shut rfl rfl rfl rfl ?_
     refine rvc_shut rfl rfl rfl rfl ?_
     refine rvP C (.pv (.lit (.bool false))) rfl rfl rfl rfl ?_
     refine rvP C (.pv (.lit (.bool false))) rfl rfl rfl rfl ?_
     refine rvc_nil ?_
     refine Awp.seq ?_
     refine Awp.cons C (fun _ => .pure) (by kernel_rfl) ?_
     refine rvP C (.pv (.lit (.bool false))) rfl rfl rfl rfl ?_
     refine rvP C (.pv (.lit (.bool true))) rfl rfl rfl rfl ?_
     refine rvc_nil ?_
     refine Awp.condT (b := true) rfl rfl ?_
     refine Awp.cons C (fun _ => .pure) (by kernel_rfl) ?_
     refine rvP C (.pv (.lit (.int .i64 120))) rfl rfl rfl rfl ?_
     refine rvc_nil ?_
     refine Awp.ret ?_
     subst hR
     exact ⟨.inl rfl, rfl⟩
    ·
     replace hR := of_false h24 hR
     refine Awp.cons C (fun _ => .pure) (by kernel_rfl) ?_
     refine rvP C (.pv (.lit (.bool (c.kind == 3)))) rfl rfl rfl rfl ?_
     refine rvP C (.pv (.lit (.bool (c.kind == 3)))) rfl rfl rfl rfl ?_
     refine rvc_nil ?_
     refine Awp.cond (b := (c.kind == 3)) rfl (fun h25 => ?_) (fun h25 => ?_)
     ·
      replace hR := of_true h25 hR
      refine Awp.skip ?_
      refine Awp.condT (b := (c.kind == 3)) rfl h25 ?_
      refine Awp.region C (fun _ => .pure) (by kernel_rfl) ?_
      refine rvP C (.pv (.lit (.bool false))) rfl rfl rfl rfl ?_
      refine rvP C (.pv (.lit (.bool false))) rfl rfl rfl rfl ?_
      refine rvc_shut rfl rfl rfl rfl ?_
      refine rvP C (.pv (.lit (.bool false))) rfl rfl rfl rfl ?_
      refine rvP C (.pv (.lit (.bool false))) rfl rfl rfl rfl ?_
      refine rvc_shut rfl rfl rfl rfl ?_
      refine rvc_shut rfl rfl rfl rfl ?_
      refine rvc_shut rfl rfl rfl rfl ?_
      refine rvP C (.pv (.lit (.bool false))) rfl rfl rfl rfl ?_
      refine rvP C (.pv (.lit (.bool false))) rfl rfl rfl rfl ?_
      refine rvc_nil ?_
      refine Awp.seq ?_
      refine Awp.cons C (fun _ => .pure) (by kernel_rfl) ?_
      refine rvP C (.pv (.lit (.bool false))) rfl rfl rfl rfl ?_
      refine rvP C (.pv (.lit (.bool true))) rfl rfl rfl rfl ?_
      refine rvc_nil ?_
      refine Awp.condT (b := true) rfl rfl ?_
      refine Awp.cons C (fun _ => .pure) (by kernel_rfl) ?_
      refine rvP C (.pv (.lit (.int .i64 120))) rfl rfl rfl rfl ?_
      refine rvc_nil ?_
      refine Awp.ret ?_
      subst hR
      exact ⟨.inl rfl, rfl⟩
     ·
      replace hR := of_false h25 hR
      refine Awp.region C (fun _ => .pure) (by kernel_rfl) ?_
      refine rvP C (.pv (.lit (.bool (c.kind == 4)))) rfl rfl rfl rfl ?_
      refine rvP C (.pv (.lit (.bool (c.kind == 4)))) rfl rfl rfl rfl ?_
      refine rvc_nil ?_
      refine Awp.cond (b := (c.kind == 4)) rfl (fun h26 => ?_) (fun h26 => ?_)
      ·
       replace hR := of_true h26 hR
       refine Awp.region C (fun _ => .pure) (by kernel_rfl) ?_
       refine rvP C (.pv (.lit (.bool false))) rfl rfl rfl rfl ?_
       refine rvP C (.pv (.lit (.bool false))) rfl rfl rfl rfl ?_
       refine rvc_shut rfl rfl rfl rfl ?_
       refine rvP C (.pv (.lit (.bool false))) rfl rfl rfl rfl ?_
       refine rvP C (.pv (.lit (.bool false))) rfl rfl rfl rfl ?_
       refine rvc_shut rfl rfl rfl rfl ?_
       refine rvc_shut rfl rfl rfl rfl ?_
       refine rvc_shut rfl rfl rfl rfl ?_
       refine rvP C (.pv (.lit (.bool false))) rfl rfl rfl rfl ?_
       refine rvP C (.pv (.lit (.bool false))) rfl rfl rfl rfl ?_
       refine rvc_nil ?_
       refine Awp.seq ?_
       refine Awp.cons C (fun _ => .pure) (by kernel_rfl) ?_
       refine rvP C (.pv (.lit (.bool false))) rfl rfl rfl rfl ?_
       refine rvP C (.pv (.lit (.bool true))) rfl rfl rfl rfl ?_
       refine rvc_nil ?_
       refine Awp.condT (b := true) rfl rfl ?_
       refine Awp.cons C (fun _ => .pure) (by kernel_rfl) ?_
       refine rvP C (.pv (.lit (.int .i64 120))) rfl rfl rfl rfl ?_
       refine rvc_nil ?_
       refine Awp.ret ?_
       subst hR
       exact ⟨.inl rfl, rfl⟩
      ·
       replace hR := of_false h26 hR
       refine Awp.cons C (fun _ => .pure) (by kernel_rfl) ?_
       refine rvP C (.pv (.lit (.bool (c.kind == 2)))) rfl rfl rfl rfl ?_
       refine rvP C (.pv (.lit (.bool (c.kind == 2)))) rfl rfl rfl rfl ?_
       refine rvc_nil ?_
       refine Awp.cond (b := (c.kind == 2)) rfl (fun h27 => ?_) (fun h27 => ?_)
       ·
        replace hR := of_true h27 hR
        refine Awp.region C (fun _ => .pure) (by kernel_rfl) ?_
        refine rvP C (.pv (.lit (.bool false))) rfl rfl rfl rfl ?_
        refine rvP C (.pv (.lit (.bool false))) rfl rfl rfl rfl ?_
        refine rvc_shut rfl rfl rfl rfl ?_
        refine rvP C (.pv (.lit (.bool false))) rfl rfl rfl rfl ?_
        refine rvP C (.pv (.lit (.bool false))) rfl rfl rfl rfl ?_
        refine rvc_shut rfl rfl rfl rfl ?_
        refine rvP C (.pv (.lit (.bool false))) rfl rfl rfl rfl ?_
        refine rvP C (.pv (.lit (.bool false))) rfl rfl rfl rfl ?_
        refine rvc_nil ?_
        refine Awp.seq ?_
        refine Awp.cons C (fun _ => .pure) (by kernel_rfl) ?_
        refine rvP C (.pv (.lit (.bool false))) rfl rfl rfl rfl ?_
        refine rvP C (.pv (.lit (.bool true))) rfl rfl rfl rfl ?_
        refine rvc_nil ?_
        refine Awp.condT (b := true) rfl rfl ?_
        refine Awp.cons C (fun _ => .pure) (by kernel_rfl) ?_
        refine rvP C (.pv (.lit (.int .i64 120))) rfl rfl rfl rfl ?_
        refine rvc_nil ?_
        refine Awp.ret ?_
        subst hR
        exact ⟨.inl rfl, rfl⟩
       ·
        replace hR := of_false h27 hR
        refine Awp.cons C (fun _ => .pure) (by kernel_rfl) ?_
        refine rvP C (.pv (.lit (.bool (c.kind == 5)))) rfl rfl rfl rfl ?_
        refine rvP C (.pv (.lit (.bool (c.kind == 5)))) rfl rfl rfl rfl ?_
        refine rvc_nil ?_
        refine Awp.cond (b := (c.kind == 5)) rfl (fun h28 => ?_) (fun h28 => ?_)
        ·
         replace hR := of_true h28 hR
         refine Awp.region C (fun _ => .pure) (by kernel_rfl) ?_
         refine rvP C (.pv (.lit (.bool false))) rfl rfl rfl rfl ?_
         refine rvP C (.pv (.lit (.bool false))) rfl rfl rfl rfl ?_
         refine rvc_shut rfl rfl rfl rfl ?_
         refine rvP C (.pv (.lit (.bool false))) rfl rfl rfl rfl ?_
         refine rvP C (.pv (.lit (.bool false))) rfl rfl rfl rfl ?_
         refine rvc_shut rfl rfl rfl rfl ?_
         refine rvc_shut rfl rfl rfl rfl ?_
         refine rvc_shut rfl rfl rfl rfl ?_
         refine rvP C (.pv (.lit (.bool false))) rfl rfl rfl rfl ?_
         refine rvP C (.pv (.lit (.bool false))) rfl rfl rfl rfl ?_
         refine rvc_nil ?_
         refine Awp.seq ?_
         refine Awp.cons C (fun _ => .pure) (by kernel_rfl) ?_
         refine rvP C (.pv (.lit (.bool false))) rfl rfl rfl rfl ?_
         refine rvP C (.pv (.lit (.bool true))) rfl rfl rfl rfl ?_
         refine rvc_nil ?_
         refine Awp.condT (b := true) rfl rfl ?_
         refine Awp.cons C (fun _ => .pure) (by kernel_rfl) ?_
         refine rvP C (.pv (.lit (.int .i64 120))) rfl rfl rfl rfl ?_
         refine rvc_nil ?_
         refine Awp.ret ?_
         subst hR
         exact ⟨.inl rfl, rfl⟩
        ·
         replace hR := of_false h28 hR
         refine Awp.region C (fun _ => .pure) (by kernel_rfl) ?_
         refine rvP C (.pv (.lit (.bool false))) rfl rfl rfl rfl ?_
         refine rvc_nil ?_
         refine Awp.seq ?_
         refine Awp.cons C (fun _ => .pure) (by kernel_rfl) ?_
         refine rvP C (.pv (.lit (.bool false))) rfl rfl rfl rfl ?_
         refine rvP C (.pv (.lit (.bool true))) rfl rfl rfl rfl ?_
         refine rvc_nil ?_
         refine Awp.condT (b := true) rfl rfl ?_
         refine Awp.cons C (fun _ => .pure) (by kernel_rfl) ?_
         refine rvP C (.pv (.lit (.int .i64 120))) rfl rfl rfl rfl ?_
         refine rvc_nil ?_
         refine Awp.ret ?_
         subst hR
         exact ⟨.inl rfl, rfl⟩
  ·
   replace hR := of_false h2 hR
   refine rvc_shut rfl rfl rfl rfl ?_
   refine rvc_shut rfl rfl rfl rfl ?_
   refine rvc_shut rfl rfl rfl rfl ?_
   refine rvP C (.pv (.lit (.bool false))) rfl rfl rfl rfl ?_
   refine rvP C (.pv (.lit (.bool false))) rfl rfl rfl rfl ?_
   refine rvc_nil ?_
   refine Awp.cons C (fun _ => .pure) (by kernel_rfl) ?_
   refine rvP C (.ptr 1 3) rfl rfl rfl rfl ?_
   refine rvP C (.pv (.lit (.int .i64 c.epoch))) rfl rfl rfl rfl ?_
   refine rvP C (.pv (.lit (.bool (decide (c.epoch ≥ 1))))) rfl rfl rfl rfl ?_
   refine rvP C (.pv (.lit (.bool (decide (c.epoch ≥ 1))))) rfl rfl rfl rfl ?_
   refine rvc_case 25 (decide (c.epoch ≥ 1)) rfl (fun h29 => ?_) (fun h29 => ?_)
   ·
    replace hR := of_true h29 hR
    refine rvc_open rfl rfl rfl (rexec_prim C (δ := { v := .ptr 1 3 }) rfl rfl rfl rfl trivial rfl ?_)
    refine rvc_open rfl rfl rfl (rexec_prim C (δ := { v := .pv (.lit (.int .i64 c.epoch)) }) rfl rfl rfl rfl trivial rfl ?_)
    refine rvc_open rfl rfl rfl (rexec_prim C (δ := { v := .pv (.lit (.bool (decide (c.epoch ≤ 1099511627776)))) }) rfl rfl rfl rfl trivial rfl ?_)
    refine rvP C (.pv (.lit (.bool (decide (c.epoch ≤ 1099511627776))))) rfl rfl rfl rfl ?_
    refine rvP C (.pv (.lit (.bool (decide (c.epoch ≤ 1099511627776))))) rfl rfl rfl rfl ?_
    refine rvc_nil ?_
    refine Awp.seq ?_
    refine Awp.cons C (fun _ => .pure) (by kernel_rfl) ?_
    refine rvP C (.ptr 1 0) rfl rfl rfl rfl ?_
    refine rvP C (.pv (.lit (.int .i64 c.kind))) rfl rfl rfl rfl ?_
    refine rvc_nil ?_
    refine Awp.block ?_
    refine Awp.seq ?_
    refine Awp.cons C (fun _ => .pure) (by kernel_rfl) ?_
    refine rvP C (.pv (.lit (.bool (c.kind == 1)))) rfl rfl rfl rfl ?_
    refine rvP C (.pv (.lit (.bool (c.kind == 1)))) rfl rfl rfl rfl ?_
    refine rvc_nil ?_
    refine Awp.cond (b := (c.kind == 1)) rfl (fun h30 => ?_) (fun h30 => ?_)
    ·
     replace hR := of_true h30 hR
     refine Awp.skip ?_
     refine Awp.condT (b := (c.kind == 1)) rfl h30 ?_
     refine Awp.region C (fun _ => .pure) (by kernel_rfl) ?_
     refine rvP C (.pv (.lit (.bool (decide (c.epoch ≤ 1099511627776))))) rfl rfl rfl rfl ?_
     refine rvP C (.pv (.lit (.bool (decide (c.epoch ≤ 1099511627776))))) rfl rfl rfl rfl ?_
     refine rvc_case 37 (decide (c.epoch ≤ 1099511627776)) rfl (fun h31 => ?_) (fun h31 => ?_)
     ·
      replace hR := of_true h31 hR
      refine rvc_open rfl rfl rfl (rexec_prim C (δ := { v := .pv (.lit (.bool (decide (c.node < 6)))) }) rfl rfl rfl rfl trivial rfl ?_)
      refine rvP C (.pv (.lit (.bool (decide (c.node < 6))))) rfl rfl rfl rfl ?_
      refine rvP C (.pv (.lit (.bool (decide (c.node < 6))))) rfl rfl rfl rfl ?_
      refine rvc_case 40 (decide (c.node < 6)) rfl (fun h32 => ?_) (fun h32 => ?_)
      ·
       replace hR := of_true h32 hR
       refine rvc_open rfl rfl rfl (rexec_prim C (δ := { v := .ptr 1 2 }) rfl rfl rfl rfl trivial rfl ?_)
       refine rvc_open rfl rfl rfl (rexec_prim C (δ := { v := .pv (.lit (.int .i64 c.site)) }) rfl rfl rfl rfl trivial rfl ?_)
       refine rvc_open rfl rfl rfl (rexec_prim C (δ := { v := .pv (.lit (.bool (c.site == 0))) }) rfl rfl rfl rfl trivial rfl ?_)
       refine rvP C (.pv (.lit (.bool (c.site == 0)))) rfl rfl rfl rfl ?_
       refine rvP C (.pv (.lit (.bool (c.site == 0)))) rfl rfl rfl rfl ?_
       refine rvc_nil ?_
       refine Awp.seq ?_
       refine Awp.cons C (fun _ => .pure) (by kernel_rfl) ?_
       refine rvP C (.pv (.lit (.bool (c.site == 0)))) rfl rfl rfl rfl ?_
       refine rvP C (.pv (.lit (.bool (!(c.site == 0))))) rfl rfl rfl rfl ?_
       refine rvc_nil ?_
       refine Awp.cond (b := (!(c.site == 0))) rfl (fun h33 => ?_) (fun h33 => ?_)
       ·
        replace hR := of_true h33 hR
        refine Awp.cons C (fun _ => .pure) (by kernel_rfl) ?_
        refine rvP C (.pv (.lit (.int .i64 120))) rfl rfl rfl rfl ?_
        refine rvc_nil ?_
        refine Awp.ret ?_
        subst hR
        exact ⟨.inl rfl, rfl⟩
       ·
        replace hR := of_false h33 hR
        refine Awp.skip ?_
        refine Awp.cons C (fun _ => .pure) (by kernel_rfl) ?_
        refine rvP C (.pv (.lit (.int .i64 0))) rfl rfl rfl rfl ?_
        refine rvc_nil ?_
        refine Awp.ret ?_
        subst hR
        exact ⟨.inl rfl, rfl⟩
      ·
       replace hR := of_false h32 hR
       refine rvc_shut rfl rfl rfl rfl ?_
       refine rvc_shut rfl rfl rfl rfl ?_
       refine rvc_shut rfl rfl rfl rfl ?_
       refine rvP C (.pv (.lit (.bool false))) rfl rfl rfl rfl ?_
       refine rvP C (.pv (.lit (.bool false))) rfl rfl rfl rfl ?_
       refine rvc_nil ?_
       refine Awp.seq ?_
       refine Awp.cons C (fun _ => .pure) (by kernel_rfl) ?_
       refine rvP C (.pv (.lit (.bool false))) rfl rfl rfl rfl ?_
       refine rvP C (.pv (.lit (.bool true))) rfl rfl rfl rfl ?_
       refine rvc_nil ?_
       refine Awp.condT (b := true) rfl rfl ?_
       refine Awp.cons C (fun _ => .pure) (by kernel_rfl) ?_
       refine rvP C (.pv (.lit (.int .i64 120))) rfl rfl rfl rfl ?_
       refine rvc_nil ?_
       refine Awp.ret ?_
       subst hR
       exact ⟨.inl rfl, rfl⟩
     ·
      replace hR := of_false h31 hR
      refine rvc_shut rfl rfl rfl rfl ?_
      refine rvP C (.pv (.lit (.bool false))) rfl rfl rfl rfl ?_
      refine rvP C (.pv (.lit (.bool false))) rfl rfl rfl rfl ?_
      refine rvc_shut rfl rfl rfl rfl ?_
      refine rvc_shut rfl rfl rfl rfl ?_
      refine rvc_shut rfl rfl rfl rfl ?_
      refine rvP C (.pv (.lit (.bool false))) rfl rfl rfl rfl ?_
      refine rvP C (.pv (.lit (.bool false))) rfl rfl rfl rfl ?_
      refine rvc_nil ?_
      refine Awp.seq ?_
      refine Awp.cons C (fun _ => .pure) (by kernel_rfl) ?_
      refine rvP C (.pv (.lit (.bool false))) rfl rfl rfl rfl ?_
      refine rvP C (.pv (.lit (.bool true))) rfl rfl rfl rfl ?_
      refine rvc_nil ?_
      refine Awp.condT (b := true) rfl rfl ?_
      refine Awp.cons C (fun _ => .pure) (by kernel_rfl) ?_
      refine rvP C (.pv (.lit (.int .i64 120))) rfl rfl rfl rfl ?_
      refine rvc_nil ?_
      refine Awp.ret ?_
      subst hR
      exact ⟨.inl rfl, rfl⟩
    ·
     replace hR := of_false h30 hR
     refine Awp.cons C (fun _ => .pure) (by kernel_rfl) ?_
     refine rvP C (.pv (.lit (.bool (c.kind == 3)))) rfl rfl rfl rfl ?_
     refine rvP C (.pv (.lit (.bool (c.kind == 3)))) rfl rfl rfl rfl ?_
     refine rvc_nil ?_
     refine Awp.cond (b := (c.kind == 3)) rfl (fun h34 => ?_) (fun h34 => ?_)
     ·
      replace hR := of_true h34 hR
      refine Awp.skip ?_
      refine Awp.condT (b := (c.kind == 3)) rfl h34 ?_
      refine Awp.region C (fun _ => .pure) (by kernel_rfl) ?_
      refine rvP C (.pv (.lit (.bool (decide (c.epoch ≤ 1099511627776))))) rfl rfl rfl rfl ?_
      refine rvP C (.pv (.lit (.bool (decide (c.epoch ≤ 1099511627776))))) rfl rfl rfl rfl ?_
      refine rvc_case 37 (decide (c.epoch ≤ 1099511627776)) rfl (fun h35 => ?_) (fun h35 => ?_)
      ·
       replace hR := of_true h35 hR
       refine rvc_open rfl rfl rfl (rexec_prim C (δ := { v := .pv (.lit (.bool (decide (c.node < 6)))) }) rfl rfl rfl rfl trivial rfl ?_)
       refine rvP C (.pv (.lit (.bool (decide (c.node < 6))))) rfl rfl rfl rfl ?_
       refine rvP C (.pv (.lit (.bool (decide (c.node < 6))))) rfl rfl rfl rfl ?_
       refine rvc_case 40 (decide (c.node < 6)) rfl (fun h36 => ?_) (fun h36 => ?_)
       ·
        replace hR := of_true h36 hR
        refine rvc_open rfl rfl rfl (rexec_prim C (δ := { v := .ptr 1 2 }) rfl rfl rfl rfl trivial rfl ?_)
        refine rvc_open rfl rfl rfl (rexec_prim C (δ := { v := .pv (.lit (.int .i64 c.site)) }) rfl rfl rfl rfl trivial rfl ?_)
        refine rvc_open rfl rfl rfl (rexec_prim C (δ := { v := .pv (.lit (.bool (c.site == 0))) }) rfl rfl rfl rfl trivial rfl ?_)
        refine rvP C (.pv (.lit (.bool (c.site == 0)))) rfl rfl rfl rfl ?_
        refine rvP C (.pv (.lit (.bool (c.site == 0)))) rfl rfl rfl rfl ?_
        refine rvc_nil ?_
        refine Awp.seq ?_
        refine Awp.cons C (fun _ => .pure) (by kernel_rfl) ?_
        refine rvP C (.pv (.lit (.bool (c.site == 0)))) rfl rfl rfl rfl ?_
        refine rvP C (.pv (.lit (.bool (!(c.site == 0))))) rfl rfl rfl rfl ?_
        refine rvc_nil ?_
        refine Awp.cond (b := (!(c.site == 0))) rfl (fun h37 => ?_) (fun h37 => ?_)
        ·
         replace hR := of_true h37 hR
         refine Awp.cons C (fun _ => .pure) (by kernel_rfl) ?_
         refine rvP C (.pv (.lit (.int .i64 120))) rfl rfl rfl rfl ?_
         refine rvc_nil ?_
         refine Awp.ret ?_
         subst hR
         exact ⟨.inl rfl, rfl⟩
        ·
         replace hR := of_false h37 hR
         refine Awp.skip ?_
         refine Awp.cons C (fun _ => .pure) (by kernel_rfl) ?_
         refine rvP C (.pv (.lit (.int .i64 0))) rfl rfl rfl rfl ?_
         refine rvc_nil ?_
         refine Awp.ret ?_
         subst hR
         exact ⟨.inl rfl, rfl⟩
       ·
        replace hR := of_false h36 hR
        refine rvc_shut rfl rfl rfl rfl ?_
        refine rvc_shut rfl rfl rfl rfl ?_
        refine rvc_shut rfl rfl rfl rfl ?_
        refine rvP C (.pv (.lit (.bool false))) rfl rfl rfl rfl ?_
        refine rvP C (.pv (.lit (.bool false))) rfl rfl rfl rfl ?_
        refine rvc_nil ?_
        refine Awp.seq ?_
        refine Awp.cons C (fun _ => .pure) (by kernel_rfl) ?_
        refine rvP C (.pv (.lit (.bool false))) rfl rfl rfl rfl ?_
        refine rvP C (.pv (.lit (.bool true))) rfl rfl rfl rfl ?_
        refine rvc_nil ?_
        refine Awp.condT (b := true) rfl rfl ?_
        refine Awp.cons C (fun _ => .pure) (by kernel_rfl) ?_
        refine rvP C (.pv (.lit (.int .i64 120))) rfl rfl rfl rfl ?_
        refine rvc_nil ?_
        refine Awp.ret ?_
        subst hR
        exact ⟨.inl rfl, rfl⟩
      ·
       replace hR := of_false h35 hR
       refine rvc_shut rfl rfl rfl rfl ?_
       refine rvP C (.pv (.lit (.bool false))) rfl rfl rfl rfl ?_
       refine rvP C (.pv (.lit (.bool false))) rfl rfl rfl rfl ?_
       refine rvc_shut rfl rfl rfl rfl ?_
       refine rvc_shut rfl rfl rfl rfl ?_
       refine rvc_shut rfl rfl rfl rfl ?_
       refine rvP C (.pv (.lit (.bool false))) rfl rfl rfl rfl ?_
       refine rvP C (.pv (.lit (.bool false))) rfl rfl rfl rfl ?_
       refine rvc_nil ?_
       refine Awp.seq ?_
       refine Awp.cons C (fun _ => .pure) (by kernel_rfl) ?_
       refine rvP C (.pv (.lit (.bool false))) rfl rfl rfl rfl ?_
       refine rvP C (.pv (.lit (.bool true))) rfl rfl rfl rfl ?_
       refine rvc_nil ?_
       refine Awp.condT (b := true) rfl rfl ?_
       refine Awp.cons C (fun _ => .pure) (by kernel_rfl) ?_
       refine rvP C (.pv (.lit (.int .i64 120))) rfl rfl rfl rfl ?_
       refine rvc_nil ?_
       refine Awp.ret ?_
       subst hR
       exact ⟨.inl rfl, rfl⟩
     ·
      replace hR := of_false h34 hR
      refine Awp.region C (fun _ => .pure) (by kernel_rfl) ?_
      refine rvP C (.pv (.lit (.bool (c.kind == 4)))) rfl rfl rfl rfl ?_
      refine rvP C (.pv (.lit (.bool (c.kind == 4)))) rfl rfl rfl rfl ?_
      refine rvc_nil ?_
      refine Awp.cond (b := (c.kind == 4)) rfl (fun h38 => ?_) (fun h38 => ?_)
      ·
       replace hR := of_true h38 hR
       refine Awp.region C (fun _ => .pure) (by kernel_rfl) ?_
       refine rvP C (.pv (.lit (.bool (decide (c.epoch ≤ 1099511627776))))) rfl rfl rfl rfl ?_
       refine rvP C (.pv (.lit (.bool (decide (c.epoch ≤ 1099511627776))))) rfl rfl rfl rfl ?_
       refine rvc_case 37 (decide (c.epoch ≤ 1099511627776)) rfl (fun h39 => ?_) (fun h39 => ?_)
       ·
        replace hR := of_true h39 hR
        refine rvc_open rfl rfl rfl (rexec_prim C (δ := { v := .pv (.lit (.bool (decide (c.node < 6)))) }) rfl rfl rfl rfl trivial rfl ?_)
        refine rvP C (.pv (.lit (.bool (decide (c.node < 6))))) rfl rfl rfl rfl ?_
        refine rvP C (.pv (.lit (.bool (decide (c.node < 6))))) rfl rfl rfl rfl ?_
        refine rvc_case 40 (decide (c.node < 6)) rfl (fun h40 => ?_) (fun h40 => ?_)
        ·
         replace hR := of_true h40 hR
         refine rvc_open rfl rfl rfl (rexec_prim C (δ := { v := .ptr 1 2 }) rfl rfl rfl rfl trivial rfl ?_)
         refine rvc_open rfl rfl rfl (rexec_prim C (δ := { v := .pv (.lit (.int .i64 c.site)) }) rfl rfl rfl rfl trivial rfl ?_)
         refine rvc_open rfl rfl rfl (rexec_prim C (δ := { v := .pv (.lit (.bool (c.site == 0))) }) rfl rfl rfl rfl trivial rfl ?_)
         refine rvP C (.pv (.lit (.bool (c.site == 0)))) rfl rfl rfl rfl ?_
         refine rvP C (.pv (.lit (.bool (c.site == 0)))) rfl rfl rfl rfl ?_
         refine rvc_nil ?_
         refine Awp.seq ?_
         refine Awp.cons C (fun _ => .pure) (by kernel_rfl) ?_
         refine rvP C (.pv (.lit (.bool (c.site == 0)))) rfl rfl rfl rfl ?_
         refine rvP C (.pv (.lit (.bool (!(c.site == 0))))) rfl rfl rfl rfl ?_
         refine rvc_nil ?_
         refine Awp.cond (b := (!(c.site == 0))) rfl (fun h41 => ?_) (fun h41 => ?_)
         ·
          replace hR := of_true h41 hR
          refine Awp.cons C (fun _ => .pure) (by kernel_rfl) ?_
          refine rvP C (.pv (.lit (.int .i64 120))) rfl rfl rfl rfl ?_
          refine rvc_nil ?_
          refine Awp.ret ?_
          subst hR
          exact ⟨.inl rfl, rfl⟩
         ·
          replace hR := of_false h41 hR
          refine Awp.skip ?_
          refine Awp.cons C (fun _ => .pure) (by kernel_rfl) ?_
          refine rvP C (.pv (.lit (.int .i64 0))) rfl rfl rfl rfl ?_
          refine rvc_nil ?_
          refine Awp.ret ?_
          subst hR
          exact ⟨.inl rfl, rfl⟩
        ·
         replace hR := of_false h40 hR
         refine rvc_shut rfl rfl rfl rfl ?_
         refine rvc_shut rfl rfl rfl rfl ?_
         refine rvc_shut rfl rfl rfl rfl ?_
         refine rvP C (.pv (.lit (.bool false))) rfl rfl rfl rfl ?_
         refine rvP C (.pv (.lit (.bool false))) rfl rfl rfl rfl ?_
         refine rvc_nil ?_
         refine Awp.seq ?_
         refine Awp.cons C (fun _ => .pure) (by kernel_rfl) ?_
         refine rvP C (.pv (.lit (.bool false))) rfl rfl rfl rfl ?_
         refine rvP C (.pv (.lit (.bool true))) rfl rfl rfl rfl ?_
         refine rvc_nil ?_
         refine Awp.condT (b := true) rfl rfl ?_
         refine Awp.cons C (fun _ => .pure) (by kernel_rfl) ?_
         refine rvP C (.pv (.lit (.int .i64 120))) rfl rfl rfl rfl ?_
         refine rvc_nil ?_
         refine Awp.ret ?_
         subst hR
         exact ⟨.inl rfl, rfl⟩
       ·
        replace hR := of_false h39 hR
        refine rvc_shut rfl rfl rfl rfl ?_
        refine rvP C (.pv (.lit (.bool false))) rfl rfl rfl rfl ?_
        refine rvP C (.pv (.lit (.bool false))) rfl rfl rfl rfl ?_
        refine rvc_shut rfl rfl rfl rfl ?_
        refine rvc_shut rfl rfl rfl rfl ?_
        refine rvc_shut rfl rfl rfl rfl ?_
        refine rvP C (.pv (.lit (.bool false))) rfl rfl rfl rfl ?_
        refine rvP C (.pv (.lit (.bool false))) rfl rfl rfl rfl ?_
        refine rvc_nil ?_
        refine Awp.seq ?_
        refine Awp.cons C (fun _ => .pure) (by kernel_rfl) ?_
        refine rvP C (.pv (.lit (.bool false))) rfl rfl rfl rfl ?_
        refine rvP C (.pv (.lit (.bool true))) rfl rfl rfl rfl ?_
        refine rvc_nil ?_
        refine Awp.condT (b := true) rfl rfl ?_
        refine Awp.cons C (fun _ => .pure) (by kernel_rfl) ?_
        refine rvP C (.pv (.lit (.int .i64 120))) rfl rfl rfl rfl ?_
        refine rvc_nil ?_
        refine Awp.ret ?_
        subst hR
        exact ⟨.inl rfl, rfl⟩
      ·
       replace hR := of_false h38 hR
       refine Awp.cons C (fun _ => .pure) (by kernel_rfl) ?_
       refine rvP C (.pv (.lit (.bool (c.kind == 2)))) rfl rfl rfl rfl ?_
       refine rvP C (.pv (.lit (.bool (c.kind == 2)))) rfl rfl rfl rfl ?_
       refine rvc_nil ?_
       refine Awp.cond (b := (c.kind == 2)) rfl (fun h42 => ?_) (fun h42 => ?_)
       ·
        replace hR := of_true h42 hR
        refine Awp.region C (fun _ => .pure) (by kernel_rfl) ?_
        refine rvP C (.pv (.lit (.bool (decide (c.epoch ≤ 1099511627776))))) rfl rfl rfl rfl ?_
        refine rvP C (.pv (.lit (.bool (decide (c.epoch ≤ 1099511627776))))) rfl rfl rfl rfl ?_
        refine rvc_case 48 (decide (c.epoch ≤ 1099511627776)) rfl (fun h43 => ?_) (fun h43 => ?_)
        ·
         replace hR := of_true h43 hR
         refine rvc_open rfl rfl rfl (rexec_prim C (δ := { v := .pv (.lit (.bool (decide (c.node < 6)))) }) rfl rfl rfl rfl trivial rfl ?_)
         refine rvP C (.pv (.lit (.bool (decide (c.node < 6))))) rfl rfl rfl rfl ?_
         refine rvP C (.pv (.lit (.bool (decide (c.node < 6))))) rfl rfl rfl rfl ?_
         refine rvc_case 51 (decide (c.node < 6)) rfl (fun h44 => ?_) (fun h44 => ?_)
         ·
          replace hR := of_true h44 hR
          refine rvc_open rfl rfl rfl (rexec_prim C (δ := { v := .pv (.lit (.bool false)) }) rfl rfl rfl rfl trivial rfl ?_)
          refine rvP C (.pv (.lit (.bool false))) rfl rfl rfl rfl ?_
          refine rvP C (.pv (.lit (.bool false))) rfl rfl rfl rfl ?_
          refine rvc_nil ?_
          refine Awp.seq ?_
          refine Awp.cons C (fun _ => .pure) (by kernel_rfl) ?_
          refine rvP C (.pv (.lit (.bool false))) rfl rfl rfl rfl ?_
          refine rvP C (.pv (.lit (.bool true))) rfl rfl rfl rfl ?_
          refine rvc_nil ?_
          refine Awp.condT (b := true) rfl rfl ?_
          refine Awp.cons C (fun _ => .pure) (by kernel_rfl) ?_
          refine rvP C (.pv (.lit (.int .i64 120))) rfl rfl rfl rfl ?_
          refine rvc_nil ?_
          refine Awp.ret ?_
          subst hR
          exact ⟨.inl rfl, rfl⟩
         ·
          replace hR := of_false h44 hR
          refine rvc_shut rfl rfl rfl rfl ?_
          refine rvP C (.pv (.lit (.bool false))) rfl rfl rfl rfl ?_
          refine rvP C (.pv (.lit (.bool false))) rfl rfl rfl rfl ?_
          refine rvc_nil ?_
          refine Awp.seq ?_
          refine Awp.cons C (fun _ => .pure) (by kernel_rfl) ?_
          refine rvP C (.pv (.lit (.bool false))) rfl rfl rfl rfl ?_
          refine rvP C (.pv (.lit (.bool true))) rfl rfl rfl rfl ?_
          refine rvc_nil ?_
          refine Awp.condT (b := true) rfl rfl ?_
          refine Awp.cons C (fun _ => .pure) (by kernel_rfl) ?_
          refine rvP C (.pv (.lit (.int .i64 120))) rfl rfl rfl rfl ?_
          refine rvc_nil ?_
          refine Awp.ret ?_
          subst hR
          exact ⟨.inl rfl, rfl⟩
        ·
         replace hR := of_false h43 hR
         refine rvc_shut rfl rfl rfl rfl ?_
         refine rvP C (.pv (.lit (.bool false))) rfl rfl rfl rfl ?_
         refine rvP C (.pv (.lit (.bool false))) rfl rfl rfl rfl ?_
         refine rvc_shut rfl rfl rfl rfl ?_
         refine rvP C (.pv (.lit (.bool false))) rfl rfl rfl rfl ?_
         refine rvP C (.pv (.lit (.bool false))) rfl rfl rfl rfl ?_
         refine rvc_nil ?_
         refine Awp.seq ?_
         refine Awp.cons C (fun _ => .pure) (by kernel_rfl) ?_
         refine rvP C (.pv (.lit (.bool false))) rfl rfl rfl rfl ?_
         refine rvP C (.pv (.lit (.bool true))) rfl rfl rfl rfl ?_
         refine rvc_nil ?_
         refine Awp.condT (b := true) rfl rfl ?_
         refine Awp.cons C (fun _ => .pure) (by kernel_rfl) ?_
         refine rvP C (.pv (.lit (.int .i64 120))) rfl rfl rfl rfl ?_
         refine rvc_nil ?_
         refine Awp.ret ?_
         subst hR
         exact ⟨.inl rfl, rfl⟩
       ·
        replace hR := of_false h42 hR
        refine Awp.cons C (fun _ => .pure) (by kernel_rfl) ?_
        refine rvP C (.pv (.lit (.bool (c.kind == 5)))) rfl rfl rfl rfl ?_
        refine rvP C (.pv (.lit (.bool (c.kind == 5)))) rfl rfl rfl rfl ?_
        refine rvc_nil ?_
        refine Awp.cond (b := (c.kind == 5)) rfl (fun h45 => ?_) (fun h45 => ?_)
        ·
         replace hR := of_true h45 hR
         refine Awp.region C (fun _ => .pure) (by kernel_rfl) ?_
         refine rvP C (.pv (.lit (.bool (decide (c.epoch ≤ 1099511627776))))) rfl rfl rfl rfl ?_
         refine rvP C (.pv (.lit (.bool (decide (c.epoch ≤ 1099511627776))))) rfl rfl rfl rfl ?_
         refine rvc_case 57 (decide (c.epoch ≤ 1099511627776)) rfl (fun h46 => ?_) (fun h46 => ?_)
         ·
          replace hR := of_true h46 hR
          refine rvc_open rfl rfl rfl (rexec_prim C (δ := { v := .pv (.lit (.bool false)) }) rfl rfl rfl rfl trivial rfl ?_)
          refine rvP C (.pv (.lit (.bool false))) rfl rfl rfl rfl ?_
          refine rvP C (.pv (.lit (.bool false))) rfl rfl rfl rfl ?_
          refine rvc_shut rfl rfl rfl rfl ?_
          refine rvc_shut rfl rfl rfl rfl ?_
          refine rvc_shut rfl rfl rfl rfl ?_
          refine rvP C (.pv (.lit (.bool false))) rfl rfl rfl rfl ?_
          refine rvP C (.pv (.lit (.bool false))) rfl rfl rfl rfl ?_
          refine rvc_nil ?_
          refine Awp.seq ?_
          refine Awp.cons C (fun _ => .pure) (by kernel_rfl) ?_
          refine rvP C (.pv (.lit (.bool false))) rfl rfl rfl rfl ?_
          refine rvP C (.pv (.lit (.bool true))) rfl rfl rfl rfl ?_
          refine rvc_nil ?_
          refine Awp.condT (b := true) rfl rfl ?_
          refine Awp.cons C (fun _ => .pure) (by kernel_rfl) ?_
          refine rvP C (.pv (.lit (.int .i64 120))) rfl rfl rfl rfl ?_
          refine rvc_nil ?_
          refine Awp.ret ?_
          subst hR
          exact ⟨.inl rfl, rfl⟩
         ·
          replace hR := of_false h46 hR
          refine rvc_shut rfl rfl rfl rfl ?_
          refine rvP C (.pv (.lit (.bool false))) rfl rfl rfl rfl ?_
          refine rvP C (.pv (.lit (.bool false))) rfl rfl rfl rfl ?_
          refine rvc_shut rfl rfl rfl rfl ?_
          refine rvc_shut rfl rfl rfl rfl ?_
          refine rvc_shut rfl rfl rfl rfl ?_
          refine rvP C (.pv (.lit (.bool false))) rfl rfl rfl rfl ?_
          refine rvP C (.pv (.lit (.bool false))) rfl rfl rfl rfl ?_
          refine rvc_nil ?_
          refine Awp.seq ?_
          refine Awp.cons C (fun _ => .pure) (by kernel_rfl) ?_
          refine rvP C (.pv (.lit (.bool false))) rfl rfl rfl rfl ?_
          refine rvP C (.pv (.lit (.bool true))) rfl rfl rfl rfl ?_
          refine rvc_nil ?_
          refine Awp.condT (b := true) rfl rfl ?_
          refine Awp.cons C (fun _ => .pure) (by kernel_rfl) ?_
          refine rvP C (.pv (.lit (.int .i64 120))) rfl rfl rfl rfl ?_
          refine rvc_nil ?_
          refine Awp.ret ?_
          subst hR
          exact ⟨.inl rfl, rfl⟩
        ·
         replace hR := of_false h45 hR
         refine Awp.region C (fun _ => .pure) (by kernel_rfl) ?_
         refine rvP C (.pv (.lit (.bool false))) rfl rfl rfl rfl ?_
         refine rvc_nil ?_
         refine Awp.seq ?_
         refine Awp.cons C (fun _ => .pure) (by kernel_rfl) ?_
         refine rvP C (.pv (.lit (.bool false))) rfl rfl rfl rfl ?_
         refine rvP C (.pv (.lit (.bool true))) rfl rfl rfl rfl ?_
         refine rvc_nil ?_
         refine Awp.condT (b := true) rfl rfl ?_
         refine Awp.cons C (fun _ => .pure) (by kernel_rfl) ?_
         refine rvP C (.pv (.lit (.int .i64 120))) rfl rfl rfl rfl ?_
         refine rvc_nil ?_
         refine Awp.ret ?_
         subst hR
         exact ⟨.inl rfl, rfl⟩
   ·
    replace hR := of_false h29 hR
    refine rvc_shut rfl rfl rfl rfl ?_
    refine rvc_shut rfl rfl rfl rfl ?_
    refine rvc_shut rfl rfl rfl rfl ?_
    refine rvP C (.pv (.lit (.bool false))) rfl rfl rfl rfl ?_
    refine rvP C (.pv (.lit (.bool false))) rfl rfl rfl rfl ?_
    refine rvc_nil ?_
    refine Awp.seq ?_
    refine Awp.cons C (fun _ => .pure) (by kernel_rfl) ?_
    refine rvP C (.ptr 1 0) rfl rfl rfl rfl ?_
    refine rvP C (.pv (.lit (.int .i64 c.kind))) rfl rfl rfl rfl ?_
    refine rvc_nil ?_
    refine Awp.block ?_
    refine Awp.seq ?_
    refine Awp.cons C (fun _ => .pure) (by kernel_rfl) ?_
    refine rvP C (.pv (.lit (.bool (c.kind == 1)))) rfl rfl rfl rfl ?_
    refine rvP C (.pv (.lit (.bool (c.kind == 1)))) rfl rfl rfl rfl ?_
    refine rvc_nil ?_
    refine Awp.cond (b := (c.kind == 1)) rfl (fun h47 => ?_) (fun h47 => ?_)
    ·
     replace hR := of_true h47 hR
     refine Awp.skip ?_
     refine Awp.condT (b := (c.kind == 1)) rfl h47 ?_
     refine Awp.region C (fun _ => .pure) (by kernel_rfl) ?_
     refine rvP C (.pv (.lit (.bool false))) rfl rfl rfl rfl ?_
     refine rvP C (.pv (.lit (.bool false))) rfl rfl rfl rfl ?_
     refine rvc_shut rfl rfl rfl rfl ?_
     refine rvP C (.pv (.lit (.bool false))) rfl rfl rfl rfl ?_
     refine rvP C (.pv (.lit (.bool false))) rfl rfl rfl rfl ?_
     refine rvc_shut rfl rfl rfl rfl ?_
     refine rvc_shut rfl rfl rfl rfl ?_
     refine rvc_shut rfl rfl rfl rfl ?_
     refine rvP C (.pv (.lit (.bool false))) rfl rfl rfl rfl ?_
     refine rvP C (.pv (.lit (.bool false))) rfl rfl rfl rfl ?_
     refine rvc_nil ?_
     refine Awp.seq ?_
     refine Awp.cons C (fun _ => .pure) (by kernel_rfl) ?_
     refine rvP C (.pv (.lit (.bool false))) rfl rfl rfl rfl ?_
     refine rvP C (.pv (.lit (.bool true))) rfl rfl rfl rfl ?_
     refine rvc_nil ?_
     refine Awp.condT (b := true) rfl rfl ?_
     refine Awp.cons C (fun _ => .pure) (by kernel_rfl) ?_
     refine rvP C (.pv (.lit (.int .i64 120))) rfl rfl rfl rfl ?_
     refine rvc_nil ?_
     refine Awp.ret ?_
     subst hR
     exact ⟨.inl rfl, rfl⟩
    ·
     replace hR := of_false h47 hR
     refine Awp.cons C (fun _ => .pure) (by kernel_rfl) ?_
     refine rvP C (.pv (.lit (.bool (c.kind == 3)))) rfl rfl rfl rfl ?_
     refine rvP C (.pv (.lit (.bool (c.kind == 3)))) rfl rfl rfl rfl ?_
     refine rvc_nil ?_
     refine Awp.cond (b := (c.kind == 3)) rfl (fun h48 => ?_) (fun h48 => ?_)
     ·
      replace hR := of_true h48 hR
      refine Awp.skip ?_
      refine Awp.condT (b := (c.kind == 3)) rfl h48 ?_
      refine Awp.region C (fun _ => .pure) (by kernel_rfl) ?_
      refine rvP C (.pv (.lit (.bool false))) rfl rfl rfl rfl ?_
      refine rvP C (.pv (.lit (.bool false))) rfl rfl rfl rfl ?_
      refine rvc_shut rfl rfl rfl rfl ?_
      refine rvP C (.pv (.lit (.bool false))) rfl rfl rfl rfl ?_
      refine rvP C (.pv (.lit (.bool false))) rfl rfl rfl rfl ?_
      refine rvc_shut rfl rfl rfl rfl ?_
      refine rvc_shut rfl rfl rfl rfl ?_
      refine rvc_shut rfl rfl rfl rfl ?_
      refine rvP C (.pv (.lit (.bool false))) rfl rfl rfl rfl ?_
      refine rvP C (.pv (.lit (.bool false))) rfl rfl rfl rfl ?_
      refine rvc_nil ?_
      refine Awp.seq ?_
      refine Awp.cons C (fun _ => .pure) (by kernel_rfl) ?_
      refine rvP C (.pv (.lit (.bool false))) rfl rfl rfl rfl ?_
      refine rvP C (.pv (.lit (.bool true))) rfl rfl rfl rfl ?_
      refine rvc_nil ?_
      refine Awp.condT (b := true) rfl rfl ?_
      refine Awp.cons C (fun _ => .pure) (by kernel_rfl) ?_
      refine rvP C (.pv (.lit (.int .i64 120))) rfl rfl rfl rfl ?_
      refine rvc_nil ?_
      refine Awp.ret ?_
      subst hR
      exact ⟨.inl rfl, rfl⟩
     ·
      replace hR := of_false h48 hR
      refine Awp.region C (fun _ => .pure) (by kernel_rfl) ?_
      refine rvP C (.pv (.lit (.bool (c.kind == 4)))) rfl rfl rfl rfl ?_
      refine rvP C (.pv (.lit (.bool (c.kind == 4)))) rfl rfl rfl rfl ?_
      refine rvc_nil ?_
      refine Awp.cond (b := (c.kind == 4)) rfl (fun h49 => ?_) (fun h49 => ?_)
      ·
       replace hR := of_true h49 hR
       refine Awp.region C (fun _ => .pure) (by kernel_rfl) ?_
       refine rvP C (.pv (.lit (.bool false))) rfl rfl rfl rfl ?_
       refine rvP C (.pv (.lit (.bool false))) rfl rfl rfl rfl ?_
       refine rvc_shut rfl rfl rfl rfl ?_
       refine rvP C (.pv (.lit (.bool false))) rfl rfl rfl rfl ?_
       refine rvP C (.pv (.lit (.bool false))) rfl rfl rfl rfl ?_
       refine rvc_shut rfl rfl rfl rfl ?_
       refine rvc_shut rfl rfl rfl rfl ?_
       refine rvc_shut rfl rfl rfl rfl ?_
       refine rvP C (.pv (.lit (.bool false))) rfl rfl rfl rfl ?_
       refine rvP C (.pv (.lit (.bool false))) rfl rfl rfl rfl ?_
       refine rvc_nil ?_
       refine Awp.seq ?_
       refine Awp.cons C (fun _ => .pure) (by kernel_rfl) ?_
       refine rvP C (.pv (.lit (.bool false))) rfl rfl rfl rfl ?_
       refine rvP C (.pv (.lit (.bool true))) rfl rfl rfl rfl ?_
       refine rvc_nil ?_
       refine Awp.condT (b := true) rfl rfl ?_
       refine Awp.cons C (fun _ => .pure) (by kernel_rfl) ?_
       refine rvP C (.pv (.lit (.int .i64 120))) rfl rfl rfl rfl ?_
       refine rvc_nil ?_
       refine Awp.ret ?_
       subst hR
       exact ⟨.inl rfl, rfl⟩
      ·
       replace hR := of_false h49 hR
       refine Awp.cons C (fun _ => .pure) (by kernel_rfl) ?_
       refine rvP C (.pv (.lit (.bool (c.kind == 2)))) rfl rfl rfl rfl ?_
       refine rvP C (.pv (.lit (.bool (c.kind == 2)))) rfl rfl rfl rfl ?_
       refine rvc_nil ?_
       refine Awp.cond (b := (c.kind == 2)) rfl (fun h50 => ?_) (fun h50 => ?_)
       ·
        replace hR := of_true h50 hR
        refine Awp.region C (fun _ => .pure) (by kernel_rfl) ?_
        refine rvP C (.pv (.lit (.bool false))) rfl rfl rfl rfl ?_
        refine rvP C (.pv (.lit (.bool false))) rfl rfl rfl rfl ?_
        refine rvc_shut rfl rfl rfl rfl ?_
        refine rvP C (.pv (.lit (.bool false))) rfl rfl rfl rfl ?_
        refine rvP C (.pv (.lit (.bool false))) rfl rfl rfl rfl ?_
        refine rvc_shut rfl rfl rfl rfl ?_
        refine rvP C (.pv (.lit (.bool false))) rfl rfl rfl rfl ?_
        refine rvP C (.pv (.lit (.bool false))) rfl rfl rfl rfl ?_
        refine rvc_nil ?_
        refine Awp.seq ?_
        refine Awp.cons C (fun _ => .pure) (by kernel_rfl) ?_
        refine rvP C (.pv (.lit (.bool false))) rfl rfl rfl rfl ?_
        refine rvP C (.pv (.lit (.bool true))) rfl rfl rfl rfl ?_
        refine rvc_nil ?_
        refine Awp.condT (b := true) rfl rfl ?_
        refine Awp.cons C (fun _ => .pure) (by kernel_rfl) ?_
        refine rvP C (.pv (.lit (.int .i64 120))) rfl rfl rfl rfl ?_
        refine rvc_nil ?_
        refine Awp.ret ?_
        subst hR
        exact ⟨.inl rfl, rfl⟩
       ·
        replace hR := of_false h50 hR
        refine Awp.cons C (fun _ => .pure) (by kernel_rfl) ?_
        refine rvP C (.pv (.lit (.bool (c.kind == 5)))) rfl rfl rfl rfl ?_
        refine rvP C (.pv (.lit (.bool (c.kind == 5)))) rfl rfl rfl rfl ?_
        refine rvc_nil ?_
        refine Awp.cond (b := (c.kind == 5)) rfl (fun h51 => ?_) (fun h51 => ?_)
        ·
         replace hR := of_true h51 hR
         refine Awp.region C (fun _ => .pure) (by kernel_rfl) ?_
         refine rvP C (.pv (.lit (.bool false))) rfl rfl rfl rfl ?_
         refine rvP C (.pv (.lit (.bool false))) rfl rfl rfl rfl ?_
         refine rvc_shut rfl rfl rfl rfl ?_
         refine rvP C (.pv (.lit (.bool false))) rfl rfl rfl rfl ?_
         refine rvP C (.pv (.lit (.bool false))) rfl rfl rfl rfl ?_
         refine rvc_shut rfl rfl rfl rfl ?_
         refine rvc_shut rfl rfl rfl rfl ?_
         refine rvc_shut rfl rfl rfl rfl ?_
         refine rvP C (.pv (.lit (.bool false))) rfl rfl rfl rfl ?_
         refine rvP C (.pv (.lit (.bool false))) rfl rfl rfl rfl ?_
         refine rvc_nil ?_
         refine Awp.seq ?_
         refine Awp.cons C (fun _ => .pure) (by kernel_rfl) ?_
         refine rvP C (.pv (.lit (.bool false))) rfl rfl rfl rfl ?_
         refine rvP C (.pv (.lit (.bool true))) rfl rfl rfl rfl ?_
         refine rvc_nil ?_
         refine Awp.condT (b := true) rfl rfl ?_
         refine Awp.cons C (fun _ => .pure) (by kernel_rfl) ?_
         refine rvP C (.pv (.lit (.int .i64 120))) rfl rfl rfl rfl ?_
         refine rvc_nil ?_
         refine Awp.ret ?_
         subst hR
         exact ⟨.inl rfl, rfl⟩
        ·
         replace hR := of_false h51 hR
         refine Awp.region C (fun _ => .pure) (by kernel_rfl) ?_
         refine rvP C (.pv (.lit (.bool false))) rfl rfl rfl rfl ?_
         refine rvc_nil ?_
         refine Awp.seq ?_
         refine Awp.cons C (fun _ => .pure) (by kernel_rfl) ?_
         refine rvP C (.pv (.lit (.bool false))) rfl rfl rfl rfl ?_
         refine rvP C (.pv (.lit (.bool true))) rfl rfl rfl rfl ?_
         refine rvc_nil ?_
         refine Awp.condT (b := true) rfl rfl ?_
         refine Awp.cons C (fun _ => .pure) (by kernel_rfl) ?_
         refine rvP C (.pv (.lit (.int .i64 120))) rfl rfl rfl rfl ?_
         refine rvc_nil ?_
         refine Awp.ret ?_
         subst hR
         exact ⟨.inl rfl, rfl⟩
 ·
  replace hR := of_false h1 hR
  refine rvc_shut rfl rfl rfl rfl ?_
  refine rvc_shut rfl rfl rfl rfl ?_
  refine rvc_shut rfl rfl rfl rfl ?_
  refine rvP C (.pv (.lit (.bool false))) rfl rfl rfl rfl ?_
  refine rvP C (.pv (.lit (.bool false))) rfl rfl rfl rfl ?_
  refine rvc_nil ?_
  refine Awp.cons C (fun _ => .pure) (by kernel_rfl) ?_
  refine rvP C (.ptr 1 2) rfl rfl rfl rfl ?_
  refine rvP C (.pv (.lit (.int .i64 c.site))) rfl rfl rfl rfl ?_
  refine rvP C (.pv (.lit (.bool (decide (c.site ≥ 0))))) rfl rfl rfl rfl ?_
  refine rvP C (.pv (.lit (.bool (decide (c.site ≥ 0))))) rfl rfl rfl rfl ?_
  refine rvc_case 17 (decide (c.site ≥ 0)) rfl (fun h52 => ?_) (fun h52 => ?_)
  ·
   replace hR := of_true h52 hR
   refine rvc_open rfl rfl rfl (rexec_prim C (δ := { v := .ptr 1 2 }) rfl rfl rfl rfl trivial rfl ?_)
   refine rvc_open rfl rfl rfl (rexec_prim C (δ := { v := .pv (.lit (.int .i64 c.site)) }) rfl rfl rfl rfl trivial rfl ?_)
   refine rvc_open rfl rfl rfl (rexec_prim C (δ := { v := .pv (.lit (.bool (decide (c.site < 3)))) }) rfl rfl rfl rfl trivial rfl ?_)
   refine rvP C (.pv (.lit (.bool (decide (c.site < 3))))) rfl rfl rfl rfl ?_
   refine rvP C (.pv (.lit (.bool (decide (c.site < 3))))) rfl rfl rfl rfl ?_
   refine rvc_nil ?_
   refine Awp.cons C (fun _ => .pure) (by kernel_rfl) ?_
   refine rvP C (.ptr 1 3) rfl rfl rfl rfl ?_
   refine rvP C (.pv (.lit (.int .i64 c.epoch))) rfl rfl rfl rfl ?_
   refine rvP C (.pv (.lit (.bool (decide (c.epoch ≥ 1))))) rfl rfl rfl rfl ?_
   refine rvP C (.pv (.lit (.bool (decide (c.epoch ≥ 1))))) rfl rfl rfl rfl ?_
   refine rvc_case 25 (decide (c.epoch ≥ 1)) rfl (fun h53 => ?_) (fun h53 => ?_)
   ·
    replace hR := of_true h53 hR
    refine rvc_open rfl rfl rfl (rexec_prim C (δ := { v := .ptr 1 3 }) rfl rfl rfl rfl trivial rfl ?_)
    refine rvc_open rfl rfl rfl (rexec_prim C (δ := { v := .pv (.lit (.int .i64 c.epoch)) }) rfl rfl rfl rfl trivial rfl ?_)
    refine rvc_open rfl rfl rfl (rexec_prim C (δ := { v := .pv (.lit (.bool (decide (c.epoch ≤ 1099511627776)))) }) rfl rfl rfl rfl trivial rfl ?_)
    refine rvP C (.pv (.lit (.bool (decide (c.epoch ≤ 1099511627776))))) rfl rfl rfl rfl ?_
    refine rvP C (.pv (.lit (.bool (decide (c.epoch ≤ 1099511627776))))) rfl rfl rfl rfl ?_
    refine rvc_nil ?_
    refine Awp.seq ?_
    refine Awp.cons C (fun _ => .pure) (by kernel_rfl) ?_
    refine rvP C (.ptr 1 0) rfl rfl rfl rfl ?_
    refine rvP C (.pv (.lit (.int .i64 c.kind))) rfl rfl rfl rfl ?_
    refine rvc_nil ?_
    refine Awp.block ?_
    refine Awp.seq ?_
    refine Awp.cons C (fun _ => .pure) (by kernel_rfl) ?_
    refine rvP C (.pv (.lit (.bool (c.kind == 1)))) rfl rfl rfl rfl ?_
    refine rvP C (.pv (.lit (.bool (c.kind == 1)))) rfl rfl rfl rfl ?_
    refine rvc_nil ?_
    refine Awp.cond (b := (c.kind == 1)) rfl (fun h54 => ?_) (fun h54 => ?_)
    ·
     replace hR := of_true h54 hR
     refine Awp.skip ?_
     refine Awp.condT (b := (c.kind == 1)) rfl h54 ?_
     refine Awp.region C (fun _ => .pure) (by kernel_rfl) ?_
     refine rvP C (.pv (.lit (.bool (decide (c.epoch ≤ 1099511627776))))) rfl rfl rfl rfl ?_
     refine rvP C (.pv (.lit (.bool (decide (c.epoch ≤ 1099511627776))))) rfl rfl rfl rfl ?_
     refine rvc_case 37 (decide (c.epoch ≤ 1099511627776)) rfl (fun h55 => ?_) (fun h55 => ?_)
     ·
      replace hR := of_true h55 hR
      refine rvc_open rfl rfl rfl (rexec_prim C (δ := { v := .pv (.lit (.bool false)) }) rfl rfl rfl rfl trivial rfl ?_)
      refine rvP C (.pv (.lit (.bool false))) rfl rfl rfl rfl ?_
      refine rvP C (.pv (.lit (.bool false))) rfl rfl rfl rfl ?_
      refine rvc_shut rfl rfl rfl rfl ?_
      refine rvc_shut rfl rfl rfl rfl ?_
      refine rvc_shut rfl rfl rfl rfl ?_
      refine rvP C (.pv (.lit (.bool false))) rfl rfl rfl rfl ?_
      refine rvP C (.pv (.lit (.bool false))) rfl rfl rfl rfl ?_
      refine rvc_nil ?_
      refine Awp.seq ?_
      refine Awp.cons C (fun _ => .pure) (by kernel_rfl) ?_
      refine rvP C (.pv (.lit (.bool false))) rfl rfl rfl rfl ?_
      refine rvP C (.pv (.lit (.bool true))) rfl rfl rfl rfl ?_
      refine rvc_nil ?_
      refine Awp.condT (b := true) rfl rfl ?_
      refine Awp.cons C (fun _ => .pure) (by kernel_rfl) ?_
      refine rvP C (.pv (.lit (.int .i64 120))) rfl rfl rfl rfl ?_
      refine rvc_nil ?_
      refine Awp.ret ?_
      subst hR
      exact ⟨.inl rfl, rfl⟩
     ·
      replace hR := of_false h55 hR
      refine rvc_shut rfl rfl rfl rfl ?_
      refine rvP C (.pv (.lit (.bool false))) rfl rfl rfl rfl ?_
      refine rvP C (.pv (.lit (.bool false))) rfl rfl rfl rfl ?_
      refine rvc_shut rfl rfl rfl rfl ?_
      refine rvc_shut rfl rfl rfl rfl ?_
      refine rvc_shut rfl rfl rfl rfl ?_
      refine rvP C (.pv (.lit (.bool false))) rfl rfl rfl rfl ?_
      refine rvP C (.pv (.lit (.bool false))) rfl rfl rfl rfl ?_
      refine rvc_nil ?_
      refine Awp.seq ?_
      refine Awp.cons C (fun _ => .pure) (by kernel_rfl) ?_
      refine rvP C (.pv (.lit (.bool false))) rfl rfl rfl rfl ?_
      refine rvP C (.pv (.lit (.bool true))) rfl rfl rfl rfl ?_
      refine rvc_nil ?_
      refine Awp.condT (b := true) rfl rfl ?_
      refine Awp.cons C (fun _ => .pure) (by kernel_rfl) ?_
      refine rvP C (.pv (.lit (.int .i64 120))) rfl rfl rfl rfl ?_
      refine rvc_nil ?_
      refine Awp.ret ?_
      subst hR
      exact ⟨.inl rfl, rfl⟩
    ·
     replace hR := of_false h54 hR
     refine Awp.cons C (fun _ => .pure) (by kernel_rfl) ?_
     refine rvP C (.pv (.lit (.bool (c.kind == 3)))) rfl rfl rfl rfl ?_
     refine rvP C (.pv (.lit (.bool (c.kind == 3)))) rfl rfl rfl rfl ?_
     refine rvc_nil ?_
     refine Awp.cond (b := (c.kind == 3)) rfl (fun h56 => ?_) (fun h56 => ?_)
     ·
      replace hR := of_true h56 hR
      refine Awp.skip ?_
      refine Awp.condT (b := (c.kind == 3)) rfl h56 ?_
      refine Awp.region C (fun _ => .pure) (by kernel_rfl) ?_
      refine rvP C (.pv (.lit (.bool (decide (c.epoch ≤ 1099511627776))))) rfl rfl rfl rfl ?_
      refine rvP C (.pv (.lit (.bool (decide (c.epoch ≤ 1099511627776))))) rfl rfl rfl rfl ?_
      refine rvc_case 37 (decide (c.epoch ≤ 1099511627776)) rfl (fun h57 => ?_) (fun h57 => ?_)
      ·
       replace hR := of_true h57 hR
       refine rvc_open rfl rfl rfl (rexec_prim C (δ := { v := .pv (.lit (.bool false)) }) rfl rfl rfl rfl trivial rfl ?_)
       refine rvP C (.pv (.lit (.bool false))) rfl rfl rfl rfl ?_
       refine rvP C (.pv (.lit (.bool false))) rfl rfl rfl rfl ?_
       refine rvc_shut rfl rfl rfl rfl ?_
       refine rvc_shut rfl rfl rfl rfl ?_
       refine rvc_shut rfl rfl rfl rfl ?_
       refine rvP C (.pv (.lit (.bool false))) rfl rfl rfl rfl ?_
       refine rvP C (.pv (.lit (.bool false))) rfl rfl rfl rfl ?_
       refine rvc_nil ?_
       refine Awp.seq ?_
       refine Awp.cons C (fun _ => .pure) (by kernel_rfl) ?_
       refine rvP C (.pv (.lit (.bool false))) rfl rfl rfl rfl ?_
       refine rvP C (.pv (.lit (.bool true))) rfl rfl rfl rfl ?_
       refine rvc_nil ?_
       refine Awp.condT (b := true) rfl rfl ?_
       refine Awp.cons C (fun _ => .pure) (by kernel_rfl) ?_
       refine rvP C (.pv (.lit (.int .i64 120))) rfl rfl rfl rfl ?_
       refine rvc_nil ?_
       refine Awp.ret ?_
       subst hR
       exact ⟨.inl rfl, rfl⟩
      ·
       replace hR := of_false h57 hR
       refine rvc_shut rfl rfl rfl rfl ?_
       refine rvP C (.pv (.lit (.bool false))) rfl rfl rfl rfl ?_
       refine rvP C (.pv (.lit (.bool false))) rfl rfl rfl rfl ?_
       refine rvc_shut rfl rfl rfl rfl ?_
       refine rvc_shut rfl rfl rfl rfl ?_
       refine rvc_shut rfl rfl rfl rfl ?_
       refine rvP C (.pv (.lit (.bool false))) rfl rfl rfl rfl ?_
       refine rvP C (.pv (.lit (.bool false))) rfl rfl rfl rfl ?_
       refine rvc_nil ?_
       refine Awp.seq ?_
       refine Awp.cons C (fun _ => .pure) (by kernel_rfl) ?_
       refine rvP C (.pv (.lit (.bool false))) rfl rfl rfl rfl ?_
       refine rvP C (.pv (.lit (.bool true))) rfl rfl rfl rfl ?_
       refine rvc_nil ?_
       refine Awp.condT (b := true) rfl rfl ?_
       refine Awp.cons C (fun _ => .pure) (by kernel_rfl) ?_
       refine rvP C (.pv (.lit (.int .i64 120))) rfl rfl rfl rfl ?_
       refine rvc_nil ?_
       refine Awp.ret ?_
       subst hR
       exact ⟨.inl rfl, rfl⟩
     ·
      replace hR := of_false h56 hR
      refine Awp.region C (fun _ => .pure) (by kernel_rfl) ?_
      refine rvP C (.pv (.lit (.bool (c.kind == 4)))) rfl rfl rfl rfl ?_
      refine rvP C (.pv (.lit (.bool (c.kind == 4)))) rfl rfl rfl rfl ?_
      refine rvc_nil ?_
      refine Awp.cond (b := (c.kind == 4)) rfl (fun h58 => ?_) (fun h58 => ?_)
      ·
       replace hR := of_true h58 hR
       refine Awp.region C (fun _ => .pure) (by kernel_rfl) ?_
       refine rvP C (.pv (.lit (.bool (decide (c.epoch ≤ 1099511627776))))) rfl rfl rfl rfl ?_
       refine rvP C (.pv (.lit (.bool (decide (c.epoch ≤ 1099511627776))))) rfl rfl rfl rfl ?_
       refine rvc_case 37 (decide (c.epoch ≤ 1099511627776)) rfl (fun h59 => ?_) (fun h59 => ?_)
       ·
        replace hR := of_true h59 hR
        refine rvc_open rfl rfl rfl (rexec_prim C (δ := { v := .pv (.lit (.bool false)) }) rfl rfl rfl rfl trivial rfl ?_)
        refine rvP C (.pv (.lit (.bool false))) rfl rfl rfl rfl ?_
        refine rvP C (.pv (.lit (.bool false))) rfl rfl rfl rfl ?_
        refine rvc_shut rfl rfl rfl rfl ?_
        refine rvc_shut rfl rfl rfl rfl ?_
        refine rvc_shut rfl rfl rfl rfl ?_
        refine rvP C (.pv (.lit (.bool false))) rfl rfl rfl rfl ?_
        refine rvP C (.pv (.lit (.bool false))) rfl rfl rfl rfl ?_
        refine rvc_nil ?_
        refine Awp.seq ?_
        refine Awp.cons C (fun _ => .pure) (by kernel_rfl) ?_
        refine rvP C (.pv (.lit (.bool false))) rfl rfl rfl rfl ?_
        refine rvP C (.pv (.lit (.bool true))) rfl rfl rfl rfl ?_
        refine rvc_nil ?_
        refine Awp.condT (b := true) rfl rfl ?_
        refine Awp.cons C (fun _ => .pure) (by kernel_rfl) ?_
        refine rvP C (.pv (.lit (.int .i64 120))) rfl rfl rfl rfl ?_
        refine rvc_nil ?_
        refine Awp.ret ?_
        subst hR
        exact ⟨.inl rfl, rfl⟩
       ·
        replace hR := of_false h59 hR
        refine rvc_shut rfl rfl rfl rfl ?_
        refine rvP C (.pv (.lit (.bool false))) rfl rfl rfl rfl ?_
        refine rvP C (.pv (.lit (.bool false))) rfl rfl rfl rfl ?_
        refine rvc_shut rfl rfl rfl rfl ?_
        refine rvc_shut rfl rfl rfl rfl ?_
        refine rvc_shut rfl rfl rfl rfl ?_
        refine rvP C (.pv (.lit (.bool false))) rfl rfl rfl rfl ?_
        refine rvP C (.pv (.lit (.bool false))) rfl rfl rfl rfl ?_
        refine rvc_nil ?_
        refine Awp.seq ?_
        refine Awp.cons C (fun _ => .pure) (by kernel_rfl) ?_
        refine rvP C (.pv (.lit (.bool false))) rfl rfl rfl rfl ?_
        refine rvP C (.pv (.lit (.bool true))) rfl rfl rfl rfl ?_
        refine rvc_nil ?_
        refine Awp.condT (b := true) rfl rfl ?_
        refine Awp.cons C (fun _ => .pure) (by kernel_rfl) ?_
        refine rvP C (.pv (.lit (.int .i64 120))) rfl rfl rfl rfl ?_
        refine rvc_nil ?_
        refine Awp.ret ?_
        subst hR
        exact ⟨.inl rfl, rfl⟩
      ·
       replace hR := of_false h58 hR
       refine Awp.cons C (fun _ => .pure) (by kernel_rfl) ?_
       refine rvP C (.pv (.lit (.bool (c.kind == 2)))) rfl rfl rfl rfl ?_
       refine rvP C (.pv (.lit (.bool (c.kind == 2)))) rfl rfl rfl rfl ?_
       refine rvc_nil ?_
       refine Awp.cond (b := (c.kind == 2)) rfl (fun h60 => ?_) (fun h60 => ?_)
       ·
        replace hR := of_true h60 hR
        refine Awp.region C (fun _ => .pure) (by kernel_rfl) ?_
        refine rvP C (.pv (.lit (.bool (decide (c.epoch ≤ 1099511627776))))) rfl rfl rfl rfl ?_
        refine rvP C (.pv (.lit (.bool (decide (c.epoch ≤ 1099511627776))))) rfl rfl rfl rfl ?_
        refine rvc_case 48 (decide (c.epoch ≤ 1099511627776)) rfl (fun h61 => ?_) (fun h61 => ?_)
        ·
         replace hR := of_true h61 hR
         refine rvc_open rfl rfl rfl (rexec_prim C (δ := { v := .pv (.lit (.bool false)) }) rfl rfl rfl rfl trivial rfl ?_)
         refine rvP C (.pv (.lit (.bool false))) rfl rfl rfl rfl ?_
         refine rvP C (.pv (.lit (.bool false))) rfl rfl rfl rfl ?_
         refine rvc_shut rfl rfl rfl rfl ?_
         refine rvP C (.pv (.lit (.bool false))) rfl rfl rfl rfl ?_
         refine rvP C (.pv (.lit (.bool false))) rfl rfl rfl rfl ?_
         refine rvc_nil ?_
         refine Awp.seq ?_
         refine Awp.cons C (fun _ => .pure) (by kernel_rfl) ?_
         refine rvP C (.pv (.lit (.bool false))) rfl rfl rfl rfl ?_
         refine rvP C (.pv (.lit (.bool true))) rfl rfl rfl rfl ?_
         refine rvc_nil ?_
         refine Awp.condT (b := true) rfl rfl ?_
         refine Awp.cons C (fun _ => .pure) (by kernel_rfl) ?_
         refine rvP C (.pv (.lit (.int .i64 120))) rfl rfl rfl rfl ?_
         refine rvc_nil ?_
         refine Awp.ret ?_
         subst hR
         exact ⟨.inl rfl, rfl⟩
        ·
         replace hR := of_false h61 hR
         refine rvc_shut rfl rfl rfl rfl ?_
         refine rvP C (.pv (.lit (.bool false))) rfl rfl rfl rfl ?_
         refine rvP C (.pv (.lit (.bool false))) rfl rfl rfl rfl ?_
         refine rvc_shut rfl rfl rfl rfl ?_
         refine rvP C (.pv (.lit (.bool false))) rfl rfl rfl rfl ?_
         refine rvP C (.pv (.lit (.bool false))) rfl rfl rfl rfl ?_
         refine rvc_nil ?_
         refine Awp.seq ?_
         refine Awp.cons C (fun _ => .pure) (by kernel_rfl) ?_
         refine rvP C (.pv (.lit (.bool false))) rfl rfl rfl rfl ?_
         refine rvP C (.pv (.lit (.bool true))) rfl rfl rfl rfl ?_
         refine rvc_nil ?_
         refine Awp.condT (b := true) rfl rfl ?_
         refine Awp.cons C (fun _ => .pure) (by kernel_rfl) ?_
         refine rvP C (.pv (.lit (.int .i64 120))) rfl rfl rfl rfl ?_
         refine rvc_nil ?_
         refine Awp.ret ?_
         subst hR
         exact ⟨.inl rfl, rfl⟩
       ·
        replace hR := of_false h60 hR
        refine Awp.cons C (fun _ => .pure) (by kernel_rfl) ?_
        refine rvP C (.pv (.lit (.bool (c.kind == 5)))) rfl rfl rfl rfl ?_
        refine rvP C (.pv (.lit (.bool (c.kind == 5)))) rfl rfl rfl rfl ?_
        refine rvc_nil ?_
        refine Awp.cond (b := (c.kind == 5)) rfl (fun h62 => ?_) (fun h62 => ?_)
        ·
         replace hR := of_true h62 hR
         refine Awp.region C (fun _ => .pure) (by kernel_rfl) ?_
         refine rvP C (.pv (.lit (.bool (decide (c.epoch ≤ 1099511627776))))) rfl rfl rfl rfl ?_
         refine rvP C (.pv (.lit (.bool (decide (c.epoch ≤ 1099511627776))))) rfl rfl rfl rfl ?_
         refine rvc_case 57 (decide (c.epoch ≤ 1099511627776)) rfl (fun h63 => ?_) (fun h63 => ?_)
         ·
          replace hR := of_true h63 hR
          refine rvc_open rfl rfl rfl (rexec_prim C (δ := { v := .pv (.lit (.bool (decide (c.site < 3)))) }) rfl rfl rfl rfl trivial rfl ?_)
          refine rvP C (.pv (.lit (.bool (decide (c.site < 3))))) rfl rfl rfl rfl ?_
          refine rvP C (.pv (.lit (.bool (decide (c.site < 3))))) rfl rfl rfl rfl ?_
          refine rvc_case 60 (decide (c.site < 3)) rfl (fun h64 => ?_) (fun h64 => ?_)
          ·
           replace hR := of_true h64 hR
           refine rvc_open rfl rfl rfl (rexec_prim C (δ := { v := .ptr 1 1 }) rfl rfl rfl rfl trivial rfl ?_)
           refine rvc_open rfl rfl rfl (rexec_prim C (δ := { v := .pv (.lit (.int .i64 c.node)) }) rfl rfl rfl rfl trivial rfl ?_)
           refine rvc_open rfl rfl rfl (rexec_prim C (δ := { v := .pv (.lit (.bool (c.node == 0))) }) rfl rfl rfl rfl trivial rfl ?_)
           refine rvP C (.pv (.lit (.bool (c.node == 0)))) rfl rfl rfl rfl ?_
           refine rvP C (.pv (.lit (.bool (c.node == 0)))) rfl rfl rfl rfl ?_
           refine rvc_nil ?_
           refine Awp.seq ?_
           refine Awp.cons C (fun _ => .pure) (by kernel_rfl) ?_
           refine rvP C (.pv (.lit (.bool (c.node == 0)))) rfl rfl rfl rfl ?_
           refine rvP C (.pv (.lit (.bool (!(c.node == 0))))) rfl rfl rfl rfl ?_
           refine rvc_nil ?_
           refine Awp.cond (b := (!(c.node == 0))) rfl (fun h65 => ?_) (fun h65 => ?_)
           ·
            replace hR := of_true h65 hR
            refine Awp.cons C (fun _ => .pure) (by kernel_rfl) ?_
            refine rvP C (.pv (.lit (.int .i64 120))) rfl rfl rfl rfl ?_
            refine rvc_nil ?_
            refine Awp.ret ?_
            subst hR
            exact ⟨.inl rfl, rfl⟩
           ·
            replace hR := of_false h65 hR
            refine Awp.skip ?_
            refine Awp.cons C (fun _ => .pure) (by kernel_rfl) ?_
            refine rvP C (.pv (.lit (.int .i64 0))) rfl rfl rfl rfl ?_
            refine rvc_nil ?_
            refine Awp.ret ?_
            subst hR
            exact ⟨.inl rfl, rfl⟩
          ·
           replace hR := of_false h64 hR
           refine rvc_shut rfl rfl rfl rfl ?_
           refine rvc_shut rfl rfl rfl rfl ?_
           refine rvc_shut rfl rfl rfl rfl ?_
           refine rvP C (.pv (.lit (.bool false))) rfl rfl rfl rfl ?_
           refine rvP C (.pv (.lit (.bool false))) rfl rfl rfl rfl ?_
           refine rvc_nil ?_
           refine Awp.seq ?_
           refine Awp.cons C (fun _ => .pure) (by kernel_rfl) ?_
           refine rvP C (.pv (.lit (.bool false))) rfl rfl rfl rfl ?_
           refine rvP C (.pv (.lit (.bool true))) rfl rfl rfl rfl ?_
           refine rvc_nil ?_
           refine Awp.condT (b := true) rfl rfl ?_
           refine Awp.cons C (fun _ => .pure) (by kernel_rfl) ?_
           refine rvP C (.pv (.lit (.int .i64 120))) rfl rfl rfl rfl ?_
           refine rvc_nil ?_
           refine Awp.ret ?_
           subst hR
           exact ⟨.inl rfl, rfl⟩
         ·
          replace hR := of_false h63 hR
          refine rvc_shut rfl rfl rfl rfl ?_
          refine rvP C (.pv (.lit (.bool false))) rfl rfl rfl rfl ?_
          refine rvP C (.pv (.lit (.bool false))) rfl rfl rfl rfl ?_
          refine rvc_shut rfl rfl rfl rfl ?_
          refine rvc_shut rfl rfl rfl rfl ?_
          refine rvc_shut rfl rfl rfl rfl ?_
          refine rvP C (.pv (.lit (.bool false))) rfl rfl rfl rfl ?_
          refine rvP C (.pv (.lit (.bool false))) rfl rfl rfl rfl ?_
          refine rvc_nil ?_
          refine Awp.seq ?_
          refine Awp.cons C (fun _ => .pure) (by kernel_rfl) ?_
          refine rvP C (.pv (.lit (.bool false))) rfl rfl rfl rfl ?_
          refine rvP C (.pv (.lit (.bool true))) rfl rfl rfl rfl ?_
          refine rvc_nil ?_
          refine Awp.condT (b := true) rfl rfl ?_
          refine Awp.cons C (fun _ => .pure) (by kernel_rfl) ?_
          refine rvP C (.pv (.lit (.int .i64 120))) rfl rfl rfl rfl ?_
          refine rvc_nil ?_
          refine Awp.ret ?_
          subst hR
          exact ⟨.inl rfl, rfl⟩
        ·
         replace hR := of_false h62 hR
         refine Awp.region C (fun _ => .pure) (by kernel_rfl) ?_
         refine rvP C (.pv (.lit (.bool false))) rfl rfl rfl rfl ?_
         refine rvc_nil ?_
         refine Awp.seq ?_
         refine Awp.cons C (fun _ => .pure) (by kernel_rfl) ?_
         refine rvP C (.pv (.lit (.bool false))) rfl rfl rfl rfl ?_
         refine rvP C (.pv (.lit (.bool true))) rfl rfl rfl rfl ?_
         refine rvc_nil ?_
         refine Awp.condT (b := true) rfl rfl ?_
         refine Awp.cons C (fun _ => .pure) (by kernel_rfl) ?_
         refine rvP C (.pv (.lit (.int .i64 120))) rfl rfl rfl rfl ?_
         refine rvc_nil ?_
         refine Awp.ret ?_
         subst hR
         exact ⟨.inl rfl, rfl⟩
   ·
    replace hR := of_false h53 hR
    refine rvc_shut rfl rfl rfl rfl ?_
    refine rvc_shut rfl rfl rfl rfl ?_
    refine rvc_shut rfl rfl rfl rfl ?_
    refine rvP C (.pv (.lit (.bool false))) rfl rfl rfl rfl ?_
    refine rvP C (.pv (.lit (.bool false))) rfl rfl rfl rfl ?_
    refine rvc_nil ?_
    refine Awp.seq ?_
    refine Awp.cons C (fun _ => .pure) (by kernel_rfl) ?_
    refine rvP C (.ptr 1 0) rfl rfl rfl rfl ?_
    refine rvP C (.pv (.lit (.int .i64 c.kind))) rfl rfl rfl rfl ?_
    refine rvc_nil ?_
    refine Awp.block ?_
    refine Awp.seq ?_
    refine Awp.cons C (fun _ => .pure) (by kernel_rfl) ?_
    refine rvP C (.pv (.lit (.bool (c.kind == 1)))) rfl rfl rfl rfl ?_
    refine rvP C (.pv (.lit (.bool (c.kind == 1)))) rfl rfl rfl rfl ?_
    refine rvc_nil ?_
    refine Awp.cond (b := (c.kind == 1)) rfl (fun h66 => ?_) (fun h66 => ?_)
    ·
     replace hR := of_true h66 hR
     refine Awp.skip ?_
     refine Awp.condT (b := (c.kind == 1)) rfl h66 ?_
     refine Awp.region C (fun _ => .pure) (by kernel_rfl) ?_
     refine rvP C (.pv (.lit (.bool false))) rfl rfl rfl rfl ?_
     refine rvP C (.pv (.lit (.bool false))) rfl rfl rfl rfl ?_
     refine rvc_shut rfl rfl rfl rfl ?_
     refine rvP C (.pv (.lit (.bool false))) rfl rfl rfl rfl ?_
     refine rvP C (.pv (.lit (.bool false))) rfl rfl rfl rfl ?_
     refine rvc_shut rfl rfl rfl rfl ?_
     refine rvc_shut rfl rfl rfl rfl ?_
     refine rvc_shut rfl rfl rfl rfl ?_
     refine rvP C (.pv (.lit (.bool false))) rfl rfl rfl rfl ?_
     refine rvP C (.pv (.lit (.bool false))) rfl rfl rfl rfl ?_
     refine rvc_nil ?_
     refine Awp.seq ?_
     refine Awp.cons C (fun _ => .pure) (by kernel_rfl) ?_
     refine rvP C (.pv (.lit (.bool false))) rfl rfl rfl rfl ?_
     refine rvP C (.pv (.lit (.bool true))) rfl rfl rfl rfl ?_
     refine rvc_nil ?_
     refine Awp.condT (b := true) rfl rfl ?_
     refine Awp.cons C (fun _ => .pure) (by kernel_rfl) ?_
     refine rvP C (.pv (.lit (.int .i64 120))) rfl rfl rfl rfl ?_
     refine rvc_nil ?_
     refine Awp.ret ?_
     subst hR
     exact ⟨.inl rfl, rfl⟩
    ·
     replace hR := of_false h66 hR
     refine Awp.cons C (fun _ => .pure) (by kernel_rfl) ?_
     refine rvP C (.pv (.lit (.bool (c.kind == 3)))) rfl rfl rfl rfl ?_
     refine rvP C (.pv (.lit (.bool (c.kind == 3)))) rfl rfl rfl rfl ?_
     refine rvc_nil ?_
     refine Awp.cond (b := (c.kind == 3)) rfl (fun h67 => ?_) (fun h67 => ?_)
     ·
      replace hR := of_true h67 hR
      refine Awp.skip ?_
      refine Awp.condT (b := (c.kind == 3)) rfl h67 ?_
      refine Awp.region C (fun _ => .pure) (by kernel_rfl) ?_
      refine rvP C (.pv (.lit (.bool false))) rfl rfl rfl rfl ?_
      refine rvP C (.pv (.lit (.bool false))) rfl rfl rfl rfl ?_
      refine rvc_shut rfl rfl rfl rfl ?_
      refine rvP C (.pv (.lit (.bool false))) rfl rfl rfl rfl ?_
      refine rvP C (.pv (.lit (.bool false))) rfl rfl rfl rfl ?_
      refine rvc_shut rfl rfl rfl rfl ?_
      refine rvc_shut rfl rfl rfl rfl ?_
      refine rvc_shut rfl rfl rfl rfl ?_
      refine rvP C (.pv (.lit (.bool false))) rfl rfl rfl rfl ?_
      refine rvP C (.pv (.lit (.bool false))) rfl rfl rfl rfl ?_
      refine rvc_nil ?_
      refine Awp.seq ?_
      refine Awp.cons C (fun _ => .pure) (by kernel_rfl) ?_
      refine rvP C (.pv (.lit (.bool false))) rfl rfl rfl rfl ?_
      refine rvP C (.pv (.lit (.bool true))) rfl rfl rfl rfl ?_
      refine rvc_nil ?_
      refine Awp.condT (b := true) rfl rfl ?_
      refine Awp.cons C (fun _ => .pure) (by kernel_rfl) ?_
      refine rvP C (.pv (.lit (.int .i64 120))) rfl rfl rfl rfl ?_
      refine rvc_nil ?_
      refine Awp.ret ?_
      subst hR
      exact ⟨.inl rfl, rfl⟩
     ·
      replace hR := of_false h67 hR
      refine Awp.region C (fun _ => .pure) (by kernel_rfl) ?_
      refine rvP C (.pv (.lit (.bool (c.kind == 4)))) rfl rfl rfl rfl ?_
      refine rvP C (.pv (.lit (.bool (c.kind == 4)))) rfl rfl rfl rfl ?_
      refine rvc_nil ?_
      refine Awp.cond (b := (c.kind == 4)) rfl (fun h68 => ?_) (fun h68 => ?_)
      ·
       replace hR := of_true h68 hR
       refine Awp.region C (fun _ => .pure) (by kernel_rfl) ?_
       refine rvP C (.pv (.lit (.bool false))) rfl rfl rfl rfl ?_
       refine rvP C (.pv (.lit (.bool false))) rfl rfl rfl rfl ?_
       refine rvc_shut rfl rfl rfl rfl ?_
       refine rvP C (.pv (.lit (.bool false))) rfl rfl rfl rfl ?_
       refine rvP C (.pv (.lit (.bool false))) rfl rfl rfl rfl ?_
       refine rvc_shut rfl rfl rfl rfl ?_
       refine rvc_shut rfl rfl rfl rfl ?_
       refine rvc_shut rfl rfl rfl rfl ?_
       refine rvP C (.pv (.lit (.bool false))) rfl rfl rfl rfl ?_
       refine rvP C (.pv (.lit (.bool false))) rfl rfl rfl rfl ?_
       refine rvc_nil ?_
       refine Awp.seq ?_
       refine Awp.cons C (fun _ => .pure) (by kernel_rfl) ?_
       refine rvP C (.pv (.lit (.bool false))) rfl rfl rfl rfl ?_
       refine rvP C (.pv (.lit (.bool true))) rfl rfl rfl rfl ?_
       refine rvc_nil ?_
       refine Awp.condT (b := true) rfl rfl ?_
       refine Awp.cons C (fun _ => .pure) (by kernel_rfl) ?_
       refine rvP C (.pv (.lit (.int .i64 120))) rfl rfl rfl rfl ?_
       refine rvc_nil ?_
       refine Awp.ret ?_
       subst hR
       exact ⟨.inl rfl, rfl⟩
      ·
       replace hR := of_false h68 hR
       refine Awp.cons C (fun _ => .pure) (by kernel_rfl) ?_
       refine rvP C (.pv (.lit (.bool (c.kind == 2)))) rfl rfl rfl rfl ?_
       refine rvP C (.pv (.lit (.bool (c.kind == 2)))) rfl rfl rfl rfl ?_
       refine rvc_nil ?_
       refine Awp.cond (b := (c.kind == 2)) rfl (fun h69 => ?_) (fun h69 => ?_)
       ·
        replace hR := of_true h69 hR
        refine Awp.region C (fun _ => .pure) (by kernel_rfl) ?_
        refine rvP C (.pv (.lit (.bool false))) rfl rfl rfl rfl ?_
        refine rvP C (.pv (.lit (.bool false))) rfl rfl rfl rfl ?_
        refine rvc_shut rfl rfl rfl rfl ?_
        refine rvP C (.pv (.lit (.bool false))) rfl rfl rfl rfl ?_
        refine rvP C (.pv (.lit (.bool false))) rfl rfl rfl rfl ?_
        refine rvc_shut rfl rfl rfl rfl ?_
        refine rvP C (.pv (.lit (.bool false))) rfl rfl rfl rfl ?_
        refine rvP C (.pv (.lit (.bool false))) rfl rfl rfl rfl ?_
        refine rvc_nil ?_
        refine Awp.seq ?_
        refine Awp.cons C (fun _ => .pure) (by kernel_rfl) ?_
        refine rvP C (.pv (.lit (.bool false))) rfl rfl rfl rfl ?_
        refine rvP C (.pv (.lit (.bool true))) rfl rfl rfl rfl ?_
        refine rvc_nil ?_
        refine Awp.condT (b := true) rfl rfl ?_
        refine Awp.cons C (fun _ => .pure) (by kernel_rfl) ?_
        refine rvP C (.pv (.lit (.int .i64 120))) rfl rfl rfl rfl ?_
        refine rvc_nil ?_
        refine Awp.ret ?_
        subst hR
        exact ⟨.inl rfl, rfl⟩
       ·
        replace hR := of_false h69 hR
        refine Awp.cons C (fun _ => .pure) (by kernel_rfl) ?_
        refine rvP C (.pv (.lit (.bool (c.kind == 5)))) rfl rfl rfl rfl ?_
        refine rvP C (.pv (.lit (.bool (c.kind == 5)))) rfl rfl rfl rfl ?_
        refine rvc_nil ?_
        refine Awp.cond (b := (c.kind == 5)) rfl (fun h70 => ?_) (fun h70 => ?_)
        ·
         replace hR := of_true h70 hR
         refine Awp.region C (fun _ => .pure) (by kernel_rfl) ?_
         refine rvP C (.pv (.lit (.bool false))) rfl rfl rfl rfl ?_
         refine rvP C (.pv (.lit (.bool false))) rfl rfl rfl rfl ?_
         refine rvc_shut rfl rfl rfl rfl ?_
         refine rvP C (.pv (.lit (.bool false))) rfl rfl rfl rfl ?_
         refine rvP C (.pv (.lit (.bool false))) rfl rfl rfl rfl ?_
         refine rvc_shut rfl rfl rfl rfl ?_
         refine rvc_shut rfl rfl rfl rfl ?_
         refine rvc_shut rfl rfl rfl rfl ?_
         refine rvP C (.pv (.lit (.bool false))) rfl rfl rfl rfl ?_
         refine rvP C (.pv (.lit (.bool false))) rfl rfl rfl rfl ?_
         refine rvc_nil ?_
         refine Awp.seq ?_
         refine Awp.cons C (fun _ => .pure) (by kernel_rfl) ?_
         refine rvP C (.pv (.lit (.bool false))) rfl rfl rfl rfl ?_
         refine rvP C (.pv (.lit (.bool true))) rfl rfl rfl rfl ?_
         refine rvc_nil ?_
         refine Awp.condT (b := true) rfl rfl ?_
         refine Awp.cons C (fun _ => .pure) (by kernel_rfl) ?_
         refine rvP C (.pv (.lit (.int .i64 120))) rfl rfl rfl rfl ?_
         refine rvc_nil ?_
         refine Awp.ret ?_
         subst hR
         exact ⟨.inl rfl, rfl⟩
        ·
         replace hR := of_false h70 hR
         refine Awp.region C (fun _ => .pure) (by kernel_rfl) ?_
         refine rvP C (.pv (.lit (.bool false))) rfl rfl rfl rfl ?_
         refine rvc_nil ?_
         refine Awp.seq ?_
         refine Awp.cons C (fun _ => .pure) (by kernel_rfl) ?_
         refine rvP C (.pv (.lit (.bool false))) rfl rfl rfl rfl ?_
         refine rvP C (.pv (.lit (.bool true))) rfl rfl rfl rfl ?_
         refine rvc_nil ?_
         refine Awp.condT (b := true) rfl rfl ?_
         refine Awp.cons C (fun _ => .pure) (by kernel_rfl) ?_
         refine rvP C (.pv (.lit (.int .i64 120))) rfl rfl rfl rfl ?_
         refine rvc_nil ?_
         refine Awp.ret ?_
         subst hR
         exact ⟨.inl rfl, rfl⟩
  ·
   replace hR := of_false h52 hR
   refine rvc_shut rfl rfl rfl rfl ?_
   refine rvc_shut rfl rfl rfl rfl ?_
   refine rvc_shut rfl rfl rfl rfl ?_
   refine rvP C (.pv (.lit (.bool false))) rfl rfl rfl rfl ?_
   refine rvP C (.pv (.lit (.bool false))) rfl rfl rfl rfl ?_
   refine rvc_nil ?_
   refine Awp.cons C (fun _ => .pure) (by kernel_rfl) ?_
   refine rvP C (.ptr 1 3) rfl rfl rfl rfl ?_
   refine rvP C (.pv (.lit (.int .i64 c.epoch))) rfl rfl rfl rfl ?_
   refine rvP C (.pv (.lit (.bool (decide (c.epoch ≥ 1))))) rfl rfl rfl rfl ?_
   refine rvP C (.pv (.lit (.bool (decide (c.epoch ≥ 1))))) rfl rfl rfl rfl ?_
   refine rvc_case 25 (decide (c.epoch ≥ 1)) rfl (fun h71 => ?_) (fun h71 => ?_)
   ·
    replace hR := of_true h71 hR
    refine rvc_open rfl rfl rfl (rexec_prim C (δ := { v := .ptr 1 3 }) rfl rfl rfl rfl trivial rfl ?_)
    refine rvc_open rfl rfl rfl (rexec_prim C (δ := { v := .pv (.lit (.int .i64 c.epoch)) }) rfl rfl rfl rfl trivial rfl ?_)
    refine rvc_open rfl rfl rfl (rexec_prim C (δ := { v := .pv (.lit (.bool (decide (c.epoch ≤ 1099511627776)))) }) rfl rfl rfl rfl trivial rfl ?_)
    refine rvP C (.pv (.lit (.bool (decide (c.epoch ≤ 1099511627776))))) rfl rfl rfl rfl ?_
    refine rvP C (.pv (.lit (.bool (decide (c.epoch ≤ 1099511627776))))) rfl rfl rfl rfl ?_
    refine rvc_nil ?_
    refine Awp.seq ?_
    refine Awp.cons C (fun _ => .pure) (by kernel_rfl) ?_
    refine rvP C (.ptr 1 0) rfl rfl rfl rfl ?_
    refine rvP C (.pv (.lit (.int .i64 c.kind))) rfl rfl rfl rfl ?_
    refine rvc_nil ?_
    refine Awp.block ?_
    refine Awp.seq ?_
    refine Awp.cons C (fun _ => .pure) (by kernel_rfl) ?_
    refine rvP C (.pv (.lit (.bool (c.kind == 1)))) rfl rfl rfl rfl ?_
    refine rvP C (.pv (.lit (.bool (c.kind == 1)))) rfl rfl rfl rfl ?_
    refine rvc_nil ?_
    refine Awp.cond (b := (c.kind == 1)) rfl (fun h72 => ?_) (fun h72 => ?_)
    ·
     replace hR := of_true h72 hR
     refine Awp.skip ?_
     refine Awp.condT (b := (c.kind == 1)) rfl h72 ?_
     refine Awp.region C (fun _ => .pure) (by kernel_rfl) ?_
     refine rvP C (.pv (.lit (.bool (decide (c.epoch ≤ 1099511627776))))) rfl rfl rfl rfl ?_
     refine rvP C (.pv (.lit (.bool (decide (c.epoch ≤ 1099511627776))))) rfl rfl rfl rfl ?_
     refine rvc_case 37 (decide (c.epoch ≤ 1099511627776)) rfl (fun h73 => ?_) (fun h73 => ?_)
     ·
      replace hR := of_true h73 hR
      refine rvc_open rfl rfl rfl (rexec_prim C (δ := { v := .pv (.lit (.bool false)) }) rfl rfl rfl rfl trivial rfl ?_)
      refine rvP C (.pv (.lit (.bool false))) rfl rfl rfl rfl ?_
      refine rvP C (.pv (.lit (.bool false))) rfl rfl rfl rfl ?_
      refine rvc_shut rfl rfl rfl rfl ?_
      refine rvc_shut rfl rfl rfl rfl ?_
      refine rvc_shut rfl rfl rfl rfl ?_
      refine rvP C (.pv (.lit (.bool false))) rfl rfl rfl rfl ?_
      refine rvP C (.pv (.lit (.bool false))) rfl rfl rfl rfl ?_
      refine rvc_nil ?_
      refine Awp.seq ?_
      refine Awp.cons C (fun _ => .pure) (by kernel_rfl) ?_
      refine rvP C (.pv (.lit (.bool false))) rfl rfl rfl rfl ?_
      refine rvP C (.pv (.lit (.bool true))) rfl rfl rfl rfl ?_
      refine rvc_nil ?_
      refine Awp.condT (b := true) rfl rfl ?_
      refine Awp.cons C (fun _ => .pure) (by kernel_rfl) ?_
      refine rvP C (.pv (.lit (.int .i64 120))) rfl rfl rfl rfl ?_
      refine rvc_nil ?_
      refine Awp.ret ?_
      subst hR
      exact ⟨.inl rfl, rfl⟩
     ·
      replace hR := of_false h73 hR
      refine rvc_shut rfl rfl rfl rfl ?_
      refine rvP C (.pv (.lit (.bool false))) rfl rfl rfl rfl ?_
      refine rvP C (.pv (.lit (.bool false))) rfl rfl rfl rfl ?_
      refine rvc_shut rfl rfl rfl rfl ?_
      refine rvc_shut rfl rfl rfl rfl ?_
      refine rvc_shut rfl rfl rfl rfl ?_
      refine rvP C (.pv (.lit (.bool false))) rfl rfl rfl rfl ?_
      refine rvP C (.pv (.lit (.bool false))) rfl rfl rfl rfl ?_
      refine rvc_nil ?_
      refine Awp.seq ?_
      refine Awp.cons C (fun _ => .pure) (by kernel_rfl) ?_
      refine rvP C (.pv (.lit (.bool false))) rfl rfl rfl rfl ?_
      refine rvP C (.pv (.lit (.bool true))) rfl rfl rfl rfl ?_
      refine rvc_nil ?_
      refine Awp.condT (b := true) rfl rfl ?_
      refine Awp.cons C (fun _ => .pure) (by kernel_rfl) ?_
      refine rvP C (.pv (.lit (.int .i64 120))) rfl rfl rfl rfl ?_
      refine rvc_nil ?_
      refine Awp.ret ?_
      subst hR
      exact ⟨.inl rfl, rfl⟩
    ·
     replace hR := of_false h72 hR
     refine Awp.cons C (fun _ => .pure) (by kernel_rfl) ?_
     refine rvP C (.pv (.lit (.bool (c.kind == 3)))) rfl rfl rfl rfl ?_
     refine rvP C (.pv (.lit (.bool (c.kind == 3)))) rfl rfl rfl rfl ?_
     refine rvc_nil ?_
     refine Awp.cond (b := (c.kind == 3)) rfl (fun h74 => ?_) (fun h74 => ?_)
     ·
      replace hR := of_true h74 hR
      refine Awp.skip ?_
      refine Awp.condT (b := (c.kind == 3)) rfl h74 ?_
      refine Awp.region C (fun _ => .pure) (by kernel_rfl) ?_
      refine rvP C (.pv (.lit (.bool (decide (c.epoch ≤ 1099511627776))))) rfl rfl rfl rfl ?_
      refine rvP C (.pv (.lit (.bool (decide (c.epoch ≤ 1099511627776))))) rfl rfl rfl rfl ?_
      refine rvc_case 37 (decide (c.epoch ≤ 1099511627776)) rfl (fun h75 => ?_) (fun h75 => ?_)
      ·
       replace hR := of_true h75 hR
       refine rvc_open rfl rfl rfl (rexec_prim C (δ := { v := .pv (.lit (.bool false)) }) rfl rfl rfl rfl trivial rfl ?_)
       refine rvP C (.pv (.lit (.bool false))) rfl rfl rfl rfl ?_
       refine rvP C (.pv (.lit (.bool false))) rfl rfl rfl rfl ?_
       refine rvc_shut rfl rfl rfl rfl ?_
       refine rvc_shut rfl rfl rfl rfl ?_
       refine rvc_shut rfl rfl rfl rfl ?_
       refine rvP C (.pv (.lit (.bool false))) rfl rfl rfl rfl ?_
       refine rvP C (.pv (.lit (.bool false))) rfl rfl rfl rfl ?_
       refine rvc_nil ?_
       refine Awp.seq ?_
       refine Awp.cons C (fun _ => .pure) (by kernel_rfl) ?_
       refine rvP C (.pv (.lit (.bool false))) rfl rfl rfl rfl ?_
       refine rvP C (.pv (.lit (.bool true))) rfl rfl rfl rfl ?_
       refine rvc_nil ?_
       refine Awp.condT (b := true) rfl rfl ?_
       refine Awp.cons C (fun _ => .pure) (by kernel_rfl) ?_
       refine rvP C (.pv (.lit (.int .i64 120))) rfl rfl rfl rfl ?_
       refine rvc_nil ?_
       refine Awp.ret ?_
       subst hR
       exact ⟨.inl rfl, rfl⟩
      ·
       replace hR := of_false h75 hR
       refine rvc_shut rfl rfl rfl rfl ?_
       refine rvP C (.pv (.lit (.bool false))) rfl rfl rfl rfl ?_
       refine rvP C (.pv (.lit (.bool false))) rfl rfl rfl rfl ?_
       refine rvc_shut rfl rfl rfl rfl ?_
       refine rvc_shut rfl rfl rfl rfl ?_
       refine rvc_shut rfl rfl rfl rfl ?_
       refine rvP C (.pv (.lit (.bool false))) rfl rfl rfl rfl ?_
       refine rvP C (.pv (.lit (.bool false))) rfl rfl rfl rfl ?_
       refine rvc_nil ?_
       refine Awp.seq ?_
       refine Awp.cons C (fun _ => .pure) (by kernel_rfl) ?_
       refine rvP C (.pv (.lit (.bool false))) rfl rfl rfl rfl ?_
       refine rvP C (.pv (.lit (.bool true))) rfl rfl rfl rfl ?_
       refine rvc_nil ?_
       refine Awp.condT (b := true) rfl rfl ?_
       refine Awp.cons C (fun _ => .pure) (by kernel_rfl) ?_
       refine rvP C (.pv (.lit (.int .i64 120))) rfl rfl rfl rfl ?_
       refine rvc_nil ?_
       refine Awp.ret ?_
       subst hR
       exact ⟨.inl rfl, rfl⟩
     ·
      replace hR := of_false h74 hR
      refine Awp.region C (fun _ => .pure) (by kernel_rfl) ?_
      refine rvP C (.pv (.lit (.bool (c.kind == 4)))) rfl rfl rfl rfl ?_
      refine rvP C (.pv (.lit (.bool (c.kind == 4)))) rfl rfl rfl rfl ?_
      refine rvc_nil ?_
      refine Awp.cond (b := (c.kind == 4)) rfl (fun h76 => ?_) (fun h76 => ?_)
      ·
       replace hR := of_true h76 hR
       refine Awp.region C (fun _ => .pure) (by kernel_rfl) ?_
       refine rvP C (.pv (.lit (.bool (decide (c.epoch ≤ 1099511627776))))) rfl rfl rfl rfl ?_
       refine rvP C (.pv (.lit (.bool (decide (c.epoch ≤ 1099511627776))))) rfl rfl rfl rfl ?_
       refine rvc_case 37 (decide (c.epoch ≤ 1099511627776)) rfl (fun h77 => ?_) (fun h77 => ?_)
       ·
        replace hR := of_true h77 hR
        refine rvc_open rfl rfl rfl (rexec_prim C (δ := { v := .pv (.lit (.bool false)) }) rfl rfl rfl rfl trivial rfl ?_)
        refine rvP C (.pv (.lit (.bool false))) rfl rfl rfl rfl ?_
        refine rvP C (.pv (.lit (.bool false))) rfl rfl rfl rfl ?_
        refine rvc_shut rfl rfl rfl rfl ?_
        refine rvc_shut rfl rfl rfl rfl ?_
        refine rvc_shut rfl rfl rfl rfl ?_
        refine rvP C (.pv (.lit (.bool false))) rfl rfl rfl rfl ?_
        refine rvP C (.pv (.lit (.bool false))) rfl rfl rfl rfl ?_
        refine rvc_nil ?_
        refine Awp.seq ?_
        refine Awp.cons C (fun _ => .pure) (by kernel_rfl) ?_
        refine rvP C (.pv (.lit (.bool false))) rfl rfl rfl rfl ?_
        refine rvP C (.pv (.lit (.bool true))) rfl rfl rfl rfl ?_
        refine rvc_nil ?_
        refine Awp.condT (b := true) rfl rfl ?_
        refine Awp.cons C (fun _ => .pure) (by kernel_rfl) ?_
        refine rvP C (.pv (.lit (.int .i64 120))) rfl rfl rfl rfl ?_
        refine rvc_nil ?_
        refine Awp.ret ?_
        subst hR
        exact ⟨.inl rfl, rfl⟩
       ·
        replace hR := of_false h77 hR
        refine rvc_shut rfl rfl rfl rfl ?_
        refine rvP C (.pv (.lit (.bool false))) rfl rfl rfl rfl ?_
        refine rvP C (.pv (.lit (.bool false))) rfl rfl rfl rfl ?_
        refine rvc_shut rfl rfl rfl rfl ?_
        refine rvc_shut rfl rfl rfl rfl ?_
        refine rvc_shut rfl rfl rfl rfl ?_
        refine rvP C (.pv (.lit (.bool false))) rfl rfl rfl rfl ?_
        refine rvP C (.pv (.lit (.bool false))) rfl rfl rfl rfl ?_
        refine rvc_nil ?_
        refine Awp.seq ?_
        refine Awp.cons C (fun _ => .pure) (by kernel_rfl) ?_
        refine rvP C (.pv (.lit (.bool false))) rfl rfl rfl rfl ?_
        refine rvP C (.pv (.lit (.bool true))) rfl rfl rfl rfl ?_
        refine rvc_nil ?_
        refine Awp.condT (b := true) rfl rfl ?_
        refine Awp.cons C (fun _ => .pure) (by kernel_rfl) ?_
        refine rvP C (.pv (.lit (.int .i64 120))) rfl rfl rfl rfl ?_
        refine rvc_nil ?_
        refine Awp.ret ?_
        subst hR
        exact ⟨.inl rfl, rfl⟩
      ·
       replace hR := of_false h76 hR
       refine Awp.cons C (fun _ => .pure) (by kernel_rfl) ?_
       refine rvP C (.pv (.lit (.bool (c.kind == 2)))) rfl rfl rfl rfl ?_
       refine rvP C (.pv (.lit (.bool (c.kind == 2)))) rfl rfl rfl rfl ?_
       refine rvc_nil ?_
       refine Awp.cond (b := (c.kind == 2)) rfl (fun h78 => ?_) (fun h78 => ?_)
       ·
        replace hR := of_true h78 hR
        refine Awp.region C (fun _ => .pure) (by kernel_rfl) ?_
        refine rvP C (.pv (.lit (.bool (decide (c.epoch ≤ 1099511627776))))) rfl rfl rfl rfl ?_
        refine rvP C (.pv (.lit (.bool (decide (c.epoch ≤ 1099511627776))))) rfl rfl rfl rfl ?_
        refine rvc_case 48 (decide (c.epoch ≤ 1099511627776)) rfl (fun h79 => ?_) (fun h79 => ?_)
        ·
         replace hR := of_true h79 hR
         refine rvc_open rfl rfl rfl (rexec_prim C (δ := { v := .pv (.lit (.bool false)) }) rfl rfl rfl rfl trivial rfl ?_)
         refine rvP C (.pv (.lit (.bool false))) rfl rfl rfl rfl ?_
         refine rvP C (.pv (.lit (.bool false))) rfl rfl rfl rfl ?_
         refine rvc_shut rfl rfl rfl rfl ?_
         refine rvP C (.pv (.lit (.bool false))) rfl rfl rfl rfl ?_
         refine rvP C (.pv (.lit (.bool false))) rfl rfl rfl rfl ?_
         refine rvc_nil ?_
         refine Awp.seq ?_
         refine Awp.cons C (fun _ => .pure) (by kernel_rfl) ?_
         refine rvP C (.pv (.lit (.bool false))) rfl rfl rfl rfl ?_
         refine rvP C (.pv (.lit (.bool true))) rfl rfl rfl rfl ?_
         refine rvc_nil ?_
         refine Awp.condT (b := true) rfl rfl ?_
         refine Awp.cons C (fun _ => .pure) (by kernel_rfl) ?_
         refine rvP C (.pv (.lit (.int .i64 120))) rfl rfl rfl rfl ?_
         refine rvc_nil ?_
         refine Awp.ret ?_
         subst hR
         exact ⟨.inl rfl, rfl⟩
        ·
         replace hR := of_false h79 hR
         refine rvc_shut rfl rfl rfl rfl ?_
         refine rvP C (.pv (.lit (.bool false))) rfl rfl rfl rfl ?_
         refine rvP C (.pv (.lit (.bool false))) rfl rfl rfl rfl ?_
         refine rvc_shut rfl rfl rfl rfl ?_
         refine rvP C (.pv (.lit (.bool false))) rfl rfl rfl rfl ?_
         refine rvP C (.pv (.lit (.bool false))) rfl rfl rfl rfl ?_
         refine rvc_nil ?_
         refine Awp.seq ?_
         refine Awp.cons C (fun _ => .pure) (by kernel_rfl) ?_
         refine rvP C (.pv (.lit (.bool false))) rfl rfl rfl rfl ?_
         refine rvP C (.pv (.lit (.bool true))) rfl rfl rfl rfl ?_
         refine rvc_nil ?_
         refine Awp.condT (b := true) rfl rfl ?_
         refine Awp.cons C (fun _ => .pure) (by kernel_rfl) ?_
         refine rvP C (.pv (.lit (.int .i64 120))) rfl rfl rfl rfl ?_
         refine rvc_nil ?_
         refine Awp.ret ?_
         subst hR
         exact ⟨.inl rfl, rfl⟩
       ·
        replace hR := of_false h78 hR
        refine Awp.cons C (fun _ => .pure) (by kernel_rfl) ?_
        refine rvP C (.pv (.lit (.bool (c.kind == 5)))) rfl rfl rfl rfl ?_
        refine rvP C (.pv (.lit (.bool (c.kind == 5)))) rfl rfl rfl rfl ?_
        refine rvc_nil ?_
        refine Awp.cond (b := (c.kind == 5)) rfl (fun h80 => ?_) (fun h80 => ?_)
        ·
         replace hR := of_true h80 hR
         refine Awp.region C (fun _ => .pure) (by kernel_rfl) ?_
         refine rvP C (.pv (.lit (.bool (decide (c.epoch ≤ 1099511627776))))) rfl rfl rfl rfl ?_
         refine rvP C (.pv (.lit (.bool (decide (c.epoch ≤ 1099511627776))))) rfl rfl rfl rfl ?_
         refine rvc_case 57 (decide (c.epoch ≤ 1099511627776)) rfl (fun h81 => ?_) (fun h81 => ?_)
         ·
          replace hR := of_true h81 hR
          refine rvc_open rfl rfl rfl (rexec_prim C (δ := { v := .pv (.lit (.bool false)) }) rfl rfl rfl rfl trivial rfl ?_)
          refine rvP C (.pv (.lit (.bool false))) rfl rfl rfl rfl ?_
          refine rvP C (.pv (.lit (.bool false))) rfl rfl rfl rfl ?_
          refine rvc_shut rfl rfl rfl rfl ?_
          refine rvc_shut rfl rfl rfl rfl ?_
          refine rvc_shut rfl rfl rfl rfl ?_
          refine rvP C (.pv (.lit (.bool false))) rfl rfl rfl rfl ?_
          refine rvP C (.pv (.lit (.bool false))) rfl rfl rfl rfl ?_
          refine rvc_nil ?_
          refine Awp.seq ?_
          refine Awp.cons C (fun _ => .pure) (by kernel_rfl) ?_
          refine rvP C (.pv (.lit (.bool false))) rfl rfl rfl rfl ?_
          refine rvP C (.pv (.lit (.bool true))) rfl rfl rfl rfl ?_
          refine rvc_nil ?_
          refine Awp.condT (b := true) rfl rfl ?_
          refine Awp.cons C (fun _ => .pure) (by kernel_rfl) ?_
          refine rvP C (.pv (.lit (.int .i64 120))) rfl rfl rfl rfl ?_
          refine rvc_nil ?_
          refine Awp.ret ?_
          subst hR
          exact ⟨.inl rfl, rfl⟩
         ·
          replace hR := of_false h81 hR
          refine rvc_shut rfl rfl rfl rfl ?_
          refine rvP C (.pv (.lit (.bool false))) rfl rfl rfl rfl ?_
          refine rvP C (.pv (.lit (.bool false))) rfl rfl rfl rfl ?_
          refine rvc_shut rfl rfl rfl rfl ?_
          refine rvc_shut rfl rfl rfl rfl ?_
          refine rvc_shut rfl rfl rfl rfl ?_
          refine rvP C (.pv (.lit (.bool false))) rfl rfl rfl rfl ?_
          refine rvP C (.pv (.lit (.bool false))) rfl rfl rfl rfl ?_
          refine rvc_nil ?_
          refine Awp.seq ?_
          refine Awp.cons C (fun _ => .pure) (by kernel_rfl) ?_
          refine rvP C (.pv (.lit (.bool false))) rfl rfl rfl rfl ?_
          refine rvP C (.pv (.lit (.bool true))) rfl rfl rfl rfl ?_
          refine rvc_nil ?_
          refine Awp.condT (b := true) rfl rfl ?_
          refine Awp.cons C (fun _ => .pure) (by kernel_rfl) ?_
          refine rvP C (.pv (.lit (.int .i64 120))) rfl rfl rfl rfl ?_
          refine rvc_nil ?_
          refine Awp.ret ?_
          subst hR
          exact ⟨.inl rfl, rfl⟩
        ·
         replace hR := of_false h80 hR
         refine Awp.region C (fun _ => .pure) (by kernel_rfl) ?_
         refine rvP C (.pv (.lit (.bool false))) rfl rfl rfl rfl ?_
         refine rvc_nil ?_
         refine Awp.seq ?_
         refine Awp.cons C (fun _ => .pure) (by kernel_rfl) ?_
         refine rvP C (.pv (.lit (.bool false))) rfl rfl rfl rfl ?_
         refine rvP C (.pv (.lit (.bool true))) rfl rfl rfl rfl ?_
         refine rvc_nil ?_
         refine Awp.condT (b := true) rfl rfl ?_
         refine Awp.cons C (fun _ => .pure) (by kernel_rfl) ?_
         refine rvP C (.pv (.lit (.int .i64 120))) rfl rfl rfl rfl ?_
         refine rvc_nil ?_
         refine Awp.ret ?_
         subst hR
         exact ⟨.inl rfl, rfl⟩
   ·
    replace hR := of_false h71 hR
    refine rvc_shut rfl rfl rfl rfl ?_
    refine rvc_shut rfl rfl rfl rfl ?_
    refine rvc_shut rfl rfl rfl rfl ?_
    refine rvP C (.pv (.lit (.bool false))) rfl rfl rfl rfl ?_
    refine rvP C (.pv (.lit (.bool false))) rfl rfl rfl rfl ?_
    refine rvc_nil ?_
    refine Awp.seq ?_
    refine Awp.cons C (fun _ => .pure) (by kernel_rfl) ?_
    refine rvP C (.ptr 1 0) rfl rfl rfl rfl ?_
    refine rvP C (.pv (.lit (.int .i64 c.kind))) rfl rfl rfl rfl ?_
    refine rvc_nil ?_
    refine Awp.block ?_
    refine Awp.seq ?_
    refine Awp.cons C (fun _ => .pure) (by kernel_rfl) ?_
    refine rvP C (.pv (.lit (.bool (c.kind == 1)))) rfl rfl rfl rfl ?_
    refine rvP C (.pv (.lit (.bool (c.kind == 1)))) rfl rfl rfl rfl ?_
    refine rvc_nil ?_
    refine Awp.cond (b := (c.kind == 1)) rfl (fun h82 => ?_) (fun h82 => ?_)
    ·
     replace hR := of_true h82 hR
     refine Awp.skip ?_
     refine Awp.condT (b := (c.kind == 1)) rfl h82 ?_
     refine Awp.region C (fun _ => .pure) (by kernel_rfl) ?_
     refine rvP C (.pv (.lit (.bool false))) rfl rfl rfl rfl ?_
     refine rvP C (.pv (.lit (.bool false))) rfl rfl rfl rfl ?_
     refine rvc_shut rfl rfl rfl rfl ?_
     refine rvP C (.pv (.lit (.bool false))) rfl rfl rfl rfl ?_
     refine rvP C (.pv (.lit (.bool false))) rfl rfl rfl rfl ?_
     refine rvc_shut rfl rfl rfl rfl ?_
     refine rvc_shut rfl rfl rfl rfl ?_
     refine rvc_shut rfl rfl rfl rfl ?_
     refine rvP C (.pv (.lit (.bool false))) rfl rfl rfl rfl ?_
     refine rvP C (.pv (.lit (.bool false))) rfl rfl rfl rfl ?_
     refine rvc_nil ?_
     refine Awp.seq ?_
     refine Awp.cons C (fun _ => .pure) (by kernel_rfl) ?_
     refine rvP C (.pv (.lit (.bool false))) rfl rfl rfl rfl ?_
     refine rvP C (.pv (.lit (.bool true))) rfl rfl rfl rfl ?_
     refine rvc_nil ?_
     refine Awp.condT (b := true) rfl rfl ?_
     refine Awp.cons C (fun _ => .pure) (by kernel_rfl) ?_
     refine rvP C (.pv (.lit (.int .i64 120))) rfl rfl rfl rfl ?_
     refine rvc_nil ?_
     refine Awp.ret ?_
     subst hR
     exact ⟨.inl rfl, rfl⟩
    ·
     replace hR := of_false h82 hR
     refine Awp.cons C (fun _ => .pure) (by kernel_rfl) ?_
     refine rvP C (.pv (.lit (.bool (c.kind == 3)))) rfl rfl rfl rfl ?_
     refine rvP C (.pv (.lit (.bool (c.kind == 3)))) rfl rfl rfl rfl ?_
     refine rvc_nil ?_
     refine Awp.cond (b := (c.kind == 3)) rfl (fun h83 => ?_) (fun h83 => ?_)
     ·
      replace hR := of_true h83 hR
      refine Awp.skip ?_
      refine Awp.condT (b := (c.kind == 3)) rfl h83 ?_
      refine Awp.region C (fun _ => .pure) (by kernel_rfl) ?_
      refine rvP C (.pv (.lit (.bool false))) rfl rfl rfl rfl ?_
      refine rvP C (.pv (.lit (.bool false))) rfl rfl rfl rfl ?_
      refine rvc_shut rfl rfl rfl rfl ?_
      refine rvP C (.pv (.lit (.bool false))) rfl rfl rfl rfl ?_
      refine rvP C (.pv (.lit (.bool false))) rfl rfl rfl rfl ?_
      refine rvc_shut rfl rfl rfl rfl ?_
      refine rvc_shut rfl rfl rfl rfl ?_
      refine rvc_shut rfl rfl rfl rfl ?_
      refine rvP C (.pv (.lit (.bool false))) rfl rfl rfl rfl ?_
      refine rvP C (.pv (.lit (.bool false))) rfl rfl rfl rfl ?_
      refine rvc_nil ?_
      refine Awp.seq ?_
      refine Awp.cons C (fun _ => .pure) (by kernel_rfl) ?_
      refine rvP C (.pv (.lit (.bool false))) rfl rfl rfl rfl ?_
      refine rvP C (.pv (.lit (.bool true))) rfl rfl rfl rfl ?_
      refine rvc_nil ?_
      refine Awp.condT (b := true) rfl rfl ?_
      refine Awp.cons C (fun _ => .pure) (by kernel_rfl) ?_
      refine rvP C (.pv (.lit (.int .i64 120))) rfl rfl rfl rfl ?_
      refine rvc_nil ?_
      refine Awp.ret ?_
      subst hR
      exact ⟨.inl rfl, rfl⟩
     ·
      replace hR := of_false h83 hR
      refine Awp.region C (fun _ => .pure) (by kernel_rfl) ?_
      refine rvP C (.pv (.lit (.bool (c.kind == 4)))) rfl rfl rfl rfl ?_
      refine rvP C (.pv (.lit (.bool (c.kind == 4)))) rfl rfl rfl rfl ?_
      refine rvc_nil ?_
      refine Awp.cond (b := (c.kind == 4)) rfl (fun h84 => ?_) (fun h84 => ?_)
      ·
       replace hR := of_true h84 hR
       refine Awp.region C (fun _ => .pure) (by kernel_rfl) ?_
       refine rvP C (.pv (.lit (.bool false))) rfl rfl rfl rfl ?_
       refine rvP C (.pv (.lit (.bool false))) rfl rfl rfl rfl ?_
       refine rvc_shut rfl rfl rfl rfl ?_
       refine rvP C (.pv (.lit (.bool false))) rfl rfl rfl rfl ?_
       refine rvP C (.pv (.lit (.bool false))) rfl rfl rfl rfl ?_
       refine rvc_shut rfl rfl rfl rfl ?_
       refine rvc_shut rfl rfl rfl rfl ?_
       refine rvc_shut rfl rfl rfl rfl ?_
       refine rvP C (.pv (.lit (.bool false))) rfl rfl rfl rfl ?_
       refine rvP C (.pv (.lit (.bool false))) rfl rfl rfl rfl ?_
       refine rvc_nil ?_
       refine Awp.seq ?_
       refine Awp.cons C (fun _ => .pure) (by kernel_rfl) ?_
       refine rvP C (.pv (.lit (.bool false))) rfl rfl rfl rfl ?_
       refine rvP C (.pv (.lit (.bool true))) rfl rfl rfl rfl ?_
       refine rvc_nil ?_
       refine Awp.condT (b := true) rfl rfl ?_
       refine Awp.cons C (fun _ => .pure) (by kernel_rfl) ?_
       refine rvP C (.pv (.lit (.int .i64 120))) rfl rfl rfl rfl ?_
       refine rvc_nil ?_
       refine Awp.ret ?_
       subst hR
       exact ⟨.inl rfl, rfl⟩
      ·
       replace hR := of_false h84 hR
       refine Awp.cons C (fun _ => .pure) (by kernel_rfl) ?_
       refine rvP C (.pv (.lit (.bool (c.kind == 2)))) rfl rfl rfl rfl ?_
       refine rvP C (.pv (.lit (.bool (c.kind == 2)))) rfl rfl rfl rfl ?_
       refine rvc_nil ?_
       refine Awp.cond (b := (c.kind == 2)) rfl (fun h85 => ?_) (fun h85 => ?_)
       ·
        replace hR := of_true h85 hR
        refine Awp.region C (fun _ => .pure) (by kernel_rfl) ?_
        refine rvP C (.pv (.lit (.bool false))) rfl rfl rfl rfl ?_
        refine rvP C (.pv (.lit (.bool false))) rfl rfl rfl rfl ?_
        refine rvc_shut rfl rfl rfl rfl ?_
        refine rvP C (.pv (.lit (.bool false))) rfl rfl rfl rfl ?_
        refine rvP C (.pv (.lit (.bool false))) rfl rfl rfl rfl ?_
        refine rvc_shut rfl rfl rfl rfl ?_
        refine rvP C (.pv (.lit (.bool false))) rfl rfl rfl rfl ?_
        refine rvP C (.pv (.lit (.bool false))) rfl rfl rfl rfl ?_
        refine rvc_nil ?_
        refine Awp.seq ?_
        refine Awp.cons C (fun _ => .pure) (by kernel_rfl) ?_
        refine rvP C (.pv (.lit (.bool false))) rfl rfl rfl rfl ?_
        refine rvP C (.pv (.lit (.bool true))) rfl rfl rfl rfl ?_
        refine rvc_nil ?_
        refine Awp.condT (b := true) rfl rfl ?_
        refine Awp.cons C (fun _ => .pure) (by kernel_rfl) ?_
        refine rvP C (.pv (.lit (.int .i64 120))) rfl rfl rfl rfl ?_
        refine rvc_nil ?_
        refine Awp.ret ?_
        subst hR
        exact ⟨.inl rfl, rfl⟩
       ·
        replace hR := of_false h85 hR
        refine Awp.cons C (fun _ => .pure) (by kernel_rfl) ?_
        refine rvP C (.pv (.lit (.bool (c.kind == 5)))) rfl rfl rfl rfl ?_
        refine rvP C (.pv (.lit (.bool (c.kind == 5)))) rfl rfl rfl rfl ?_
        refine rvc_nil ?_
        refine Awp.cond (b := (c.kind == 5)) rfl (fun h86 => ?_) (fun h86 => ?_)
        ·
         replace hR := of_true h86 hR
         refine Awp.region C (fun _ => .pure) (by kernel_rfl) ?_
         refine rvP C (.pv (.lit (.bool false))) rfl rfl rfl rfl ?_
         refine rvP C (.pv (.lit (.bool false))) rfl rfl rfl rfl ?_
         refine rvc_shut rfl rfl rfl rfl ?_
         refine rvP C (.pv (.lit (.bool false))) rfl rfl rfl rfl ?_
         refine rvP C (.pv (.lit (.bool false))) rfl rfl rfl rfl ?_
         refine rvc_shut rfl rfl rfl rfl ?_
         refine rvc_shut rfl rfl rfl rfl ?_
         refine rvc_shut rfl rfl rfl rfl ?_
         refine rvP C (.pv (.lit (.bool false))) rfl rfl rfl rfl ?_
         refine rvP C (.pv (.lit (.bool false))) rfl rfl rfl rfl ?_
         refine rvc_nil ?_
         refine Awp.seq ?_
         refine Awp.cons C (fun _ => .pure) (by kernel_rfl) ?_
         refine rvP C (.pv (.lit (.bool false))) rfl rfl rfl rfl ?_
         refine rvP C (.pv (.lit (.bool true))) rfl rfl rfl rfl ?_
         refine rvc_nil ?_
         refine Awp.condT (b := true) rfl rfl ?_
         refine Awp.cons C (fun _ => .pure) (by kernel_rfl) ?_
         refine rvP C (.pv (.lit (.int .i64 120))) rfl rfl rfl rfl ?_
         refine rvc_nil ?_
         refine Awp.ret ?_
         subst hR
         exact ⟨.inl rfl, rfl⟩
        ·
         replace hR := of_false h86 hR
         refine Awp.region C (fun _ => .pure) (by kernel_rfl) ?_
         refine rvP C (.pv (.lit (.bool false))) rfl rfl rfl rfl ?_
         refine rvc_nil ?_
         refine Awp.seq ?_
         refine Awp.cons C (fun _ => .pure) (by kernel_rfl) ?_
         refine rvP C (.pv (.lit (.bool false))) rfl rfl rfl rfl ?_
         refine rvP C (.pv (.lit (.bool true))) rfl rfl rfl rfl ?_
         refine rvc_nil ?_
         refine Awp.condT (b := true) rfl rfl ?_
         refine Awp.cons C (fun _ => .pure) (by kernel_rfl) ?_
         refine rvP C (.pv (.lit (.int .i64 120))) rfl rfl rfl rfl ?_
         refine rvc_nil ?_
         refine Awp.ret ?_
         subst hR
         exact ⟨.inl rfl, rfl⟩
def many_l0 (site : Int) : List Member → Nat → Int → Int
  | [], _, n => n
  | x :: xs, i, n => (bif (x.site == site) then many_l0 site xs (i + 1) (IntKind.i64.wrap (n + 1)) else many_l0 site xs (i + 1) n)
def many (c : Chain) (site : Int) : Int :=
  many_l0 site c.members.D 0 0
theorem many_calls (c : Chain) (site : Int) (hl1 : c.members.D.length ≤ 1000000) : PCalls Try.prog 51 [.agg [.pv (.lit (.int .i64 c.epoch)), sS (some c.members.nil) eMember c.members.D], .pv (.lit (.int .i64 site))] (.pv (.lit (.int .i64 (many c site)))) := by
 generalize hR : many c site = R
 refine PCalls.of_body tabOk Try.func51 rfl rfl rfl rfl rfl mixed fun E hP C hI => ?_
 refine Awp.cons C (fun _ => .pure) (by kernel_rfl) ?_
 refine rvc_un (rexec_prim C (δ := { v := .ptr 2 0, new := [(2, .cells [.pv (.lit (.int .i64 c.epoch)), sS (some c.members.nil) eMember c.members.D])] }) rfl rfl rfl rfl trivial rfl ?_)
 refine rvP C (.pv (.lit (.int .i64 0))) rfl rfl rfl rfl ?_
 refine rvc_nil ?_
 refine Awp.cons C (fun _ => .pure) (by kernel_rfl) ?_
 refine rvP C (.pv (.lit (.int .i64 0))) rfl rfl rfl rfl ?_
 refine rvc_nil ?_
 refine Awp.seq ?_
 refine Awp.cons C (fun _ => .pure) (by kernel_rfl) ?_
 refine rvP C (.ptr 2 1) rfl rfl rfl rfl ?_
 refine rvP C (sS (some c.members.nil) eMember c.members.D) rfl rfl rfl rfl ?_
 refine rvP C (.pv (.lit (.int .i64 (c.members.D.length : Int)))) rfl rfl rfl rfl ?_
 refine rvP C (.pv (.lit (.int .i64 0))) rfl rfl rfl rfl ?_
 refine rvc_nil ?_
 refine Awp.block ?_
 refine Awp.forR (σ := Int) (c.members.D.length) (fun i v => [(1, .pv (.lit (.int .i64 site))), (5, .pv (.lit (.int .i64 v))), (9, sS (some c.members.nil) eMember c.members.D), (10, .pv (.lit (.int .i64 (c.members.D.length : Int)))), (11, .pv (.lit (.int .i64 (i : Int))))]) (fun i v => []) [] (fun i v => many_l0 site (c.members.D.drop i) i v = R) 0 ?_ ?_ (fun i n h1 hR => ?_)
 · exact hR
 · exact ⟨fun b => b, WeakerR.ofL (Ks := []) hI ⟨⟨rfl, rfl⟩, ⟨rfl, rfl⟩, ⟨rfl, rfl⟩, ⟨rfl, rfl⟩, ⟨rfl, rfl⟩, trivial⟩ (okH_nil) rfl⟩
 refine Awp.cons C (fun _ => .pure) (by kernel_rfl) ?_
 refine rvP C (.pv (.lit (.bool (decide ((i : Int) < (c.members.D.length : Int)))))) rfl rfl rfl rfl ?_
 refine rvc_nil ?_
 refine Awp.seq ?_
 refine Awp.cond (b := (decide ((i : Int) < (c.members.D.length : Int)))) rfl (fun h2 => ?_) (fun h2 => ?_)
 ·
  have h3 : i < c.members.D.length := by have := of_decide_eq_true h2; omega
  obtain ⟨x, h4⟩ := getX h3
  rw [drop_at h4] at hR
  refine Awp.skip ?_
  refine Awp.seq ?_
  refine Awp.block ?_
  refine Awp.cons C (fun _ => .pure) (by kernel_rfl) ?_
  refine rvc_un (rexec_idxS C rfl rfl rfl rfl rfl rfl x (Int.natCast_nonneg _) h4 ?_)
  refine rvP C (.agg [.pv (.lit (.int .i64 x.node)), .pv (.lit (.int .i64 x.site)), .pv (.lit (.bool x.fresh))]) rfl rfl rfl rfl ?_
  refine rvc_un (rexec_prim C (δ := { v := .ptr 7 0, new := [(7, .cells [.pv (.lit (.int .i64 0)), .pv (.lit (.int .i64 0)), .pv (.lit (.bool false))])] }) rfl rfl rfl rfl trivial rfl ?_)
  refine rvc_un (rexec_prim C (δ := { v := .undef, wr := [(7, some (.cells [.pv (.lit (.int .i64 x.node)), .pv (.lit (.int .i64 x.site)), .pv (.lit (.bool x.fresh))]))] }) rfl rfl rfl rfl trivial rfl ?_)
  refine rvc_nil ?_
  refine Awp.cons C (fun _ => .pure) (by kernel_rfl) ?_
  refine rvP C (.ptr 7 1) rfl rfl rfl rfl ?_
  refine rvP C (.pv (.lit (.int .i64 x.site))) rfl rfl rfl rfl ?_
  refine rvP C (.pv (.lit (.int .i64 site))) rfl rfl rfl rfl ?_
  refine rvP C (.pv (.lit (.bool (x.site == site)))) rfl rfl rfl rfl ?_
  refine rvc_nil ?_
  refine Awp.cond (b := (x.site == site)) rfl (fun h5 => ?_) (fun h5 => ?_)
  ·
   replace hR := of_true h5 hR
   refine Awp.region C (fun _ => .pure) (by kernel_rfl) ?_
   refine rvP C (.pv (.lit (.int .i64 n))) rfl rfl rfl rfl ?_
   refine rvP C (.pv (.lit (.int .i64 (IntKind.i64.wrap (n + 1))))) rfl rfl rfl rfl ?_
   refine rvP C (.pv (.lit (.int .i64 (IntKind.i64.wrap (n + 1))))) rfl rfl rfl rfl ?_
   refine rvc_nil ?_
   refine Awp.region C (fun _ => .pure) (by kernel_rfl) ?_
   refine rvP C (.pv (.lit (.int .i64 (IntKind.i64.wrap ((i : Int) + 1))))) rfl rfl rfl rfl ?_
   refine rvP C (.pv (.lit (.int .i64 (IntKind.i64.wrap ((i : Int) + 1))))) rfl rfl rfl rfl ?_
   refine rvc_nil ?_
   refine ⟨h3, (IntKind.i64.wrap (n + 1)), ?_, ?_⟩
   · exact hR
   · exact ⟨fun b => b, WeakerR.ofL (Ks := []) hI ⟨⟨rfl, rfl⟩, ⟨rfl, rfl⟩, ⟨rfl, rfl⟩, ⟨rfl, rfl⟩, ⟨lit_cast (wrap_i64 (by omega) (by omega)), rfl⟩, trivial⟩ (okH_nil) rfl⟩
  ·
   replace hR := of_false h5 hR
   refine Awp.skip ?_
   refine Awp.region C (fun _ => .pure) (by kernel_rfl) ?_
   refine rvP C (.pv (.lit (.int .i64 (IntKind.i64.wrap ((i : Int) + 1))))) rfl rfl rfl rfl ?_
   refine rvP C (.pv (.lit (.int .i64 (IntKind.i64.wrap ((i : Int) + 1))))) rfl rfl rfl rfl ?_
   refine rvc_nil ?_
   refine ⟨h3, n, ?_, ?_⟩
   · exact hR
   · exact ⟨fun b => b, WeakerR.ofL (Ks := []) hI ⟨⟨rfl, rfl⟩, ⟨rfl, rfl⟩, ⟨rfl, rfl⟩, ⟨rfl, rfl⟩, ⟨lit_cast (wrap_i64 (by omega) (by omega)), rfl⟩, trivial⟩ (okH_nil) rfl⟩
 ·
  have h3 : ¬ i < c.members.D.length := by have := of_decide_eq_false h2; omega
  rw [drop_end h3] at hR
  refine Awp.exit ?_
  refine Awp.cons C (fun _ => .pure) (by kernel_rfl) ?_
  refine rvP C (.pv (.lit (.int .i64 n))) rfl rfl rfl rfl ?_
  refine rvP C (.pv (.lit (.int .i64 n))) rfl rfl rfl rfl ?_
  refine rvc_nil ?_
  refine Awp.ret ?_
  subst hR
  exact ⟨.inl rfl, rfl⟩
def rMany_l0 (site : Int) : List Member → Nat → Int → Int
  | [], _, n => n
  | x :: xs, i, n => (bif (x.site == site) then rMany_l0 site xs (i + 1) (IntKind.i64.wrap (n + 1)) else rMany_l0 site xs (i + 1) n)
def rMany (c : Chain) (site : Int) : Int :=
  rMany_l0 site c.members.D 0 0
theorem rMany_calls (c : Chain) (site : Int) (hl1 : c.members.D.length ≤ 1000000) : PCalls Try.prog 20 [.agg [.pv (.lit (.int .i64 c.epoch)), sS (some c.members.nil) eMember c.members.D], .pv (.lit (.int .i64 site))] (.pv (.lit (.int .i64 (rMany c site)))) := by
 generalize hR : rMany c site = R
 refine PCalls.of_body tabOk Try.func20 rfl rfl rfl rfl rfl mixed fun E hP C hI => ?_
 refine Awp.cons C (fun _ => .pure) (by kernel_rfl) ?_
 refine rvc_un (rexec_prim C (δ := { v := .ptr 2 0, new := [(2, .cells [.pv (.lit (.int .i64 c.epoch)), sS (some c.members.nil) eMember c.members.D])] }) rfl rfl rfl rfl trivial rfl ?_)
 refine rvP C (.pv (.lit (.int .i64 0))) rfl rfl rfl rfl ?_
 refine rvc_nil ?_
 refine Awp.cons C (fun _ => .pure) (by kernel_rfl) ?_
 refine rvP C (.pv (.lit (.int .i64 0))) rfl rfl rfl rfl ?_
 refine rvc_nil ?_
 refine Awp.seq ?_
 refine Awp.cons C (fun _ => .pure) (by kernel_rfl) ?_
 refine rvP C (.ptr 2 1) rfl rfl rfl rfl ?_
 refine rvP C (sS (some c.members.nil) eMember c.members.D) rfl rfl rfl rfl ?_
 refine rvP C (.pv (.lit (.int .i64 (c.members.D.length : Int)))) rfl rfl rfl rfl ?_
 refine rvP C (.pv (.lit (.int .i64 0))) rfl rfl rfl rfl ?_
 refine rvc_nil ?_
 refine Awp.block ?_
 refine Awp.forR (σ := Int) (c.members.D.length) (fun i v => [(1, .pv (.lit (.int .i64 site))), (5, .pv (.lit (.int .i64 v))), (9, sS (some c.members.nil) eMember c.members.D), (10, .pv (.lit (.int .i64 (c.members.D.length : Int)))), (11, .pv (.lit (.int .i64 (i : Int))))]) (fun i v => []) [] (fun i v => rMany_l0 site (c.members.D.drop i) i v = R) 0 ?_ ?_ (fun i n h1 hR => ?_)
 · exact hR
 · exact ⟨fun b => b, WeakerR.ofL (Ks := []) hI ⟨⟨rfl, rfl⟩, ⟨rfl, rfl⟩, ⟨rfl, rfl⟩, ⟨rfl, rfl⟩, ⟨rfl, rfl⟩, trivial⟩ (okH_nil) rfl⟩
 refine Awp.cons C (fun _ => .pure) (by kernel_rfl) ?_
 refine rvP C (.pv (.lit (.bool (decide ((i : Int) < (c.members.D.length : Int)))))) rfl rfl rfl rfl ?_
 refine rvc_nil ?_
 refine Awp.seq ?_
 refine Awp.cond (b := (decide ((i : Int) < (c.members.D.length : Int)))) rfl (fun h2 => ?_) (fun h2 => ?_)
 ·
  have h3 : i < c.members.D.length := by have := of_decide_eq_true h2; omega
  obtain ⟨x, h4⟩ := getX h3
  rw [drop_at h4] at hR
  refine Awp.skip ?_
  refine Awp.seq ?_
  refine Awp.block ?_
  refine Awp.cons C (fun _ => .pure) (by kernel_rfl) ?_
  refine rvc_un (rexec_idxS C rfl rfl rfl rfl rfl rfl x (Int.natCast_nonneg _) h4 ?_)
  refine rvP C (.agg [.pv (.lit (.int .i64 x.node)), .pv (.lit (.int .i64 x.site)), .pv (.lit (.bool x.fresh))]) rfl rfl rfl rfl ?_
  refine rvc_un (rexec_prim C (δ := { v := .ptr 7 0, new := [(7, .cells [.pv (.lit (.int .i64 0)), .pv (.lit (.int .i64 0)), .pv (.lit (.bool false))])] }) rfl rfl rfl rfl trivial rfl ?_)
  refine rvc_un (rexec_prim C (δ := { v := .undef, wr := [(7, some (.cells [.pv (.lit (.int .i64 x.node)), .pv (.lit (.int .i64 x.site)), .pv (.lit (.bool x.fresh))]))] }) rfl rfl rfl rfl trivial rfl ?_)
  refine rvc_nil ?_
  refine Awp.cons C (fun _ => .pure) (by kernel_rfl) ?_
  refine rvP C (.ptr 7 1) rfl rfl rfl rfl ?_
  refine rvP C (.pv (.lit (.int .i64 x.site))) rfl rfl rfl rfl ?_
  refine rvP C (.pv (.lit (.int .i64 site))) rfl rfl rfl rfl ?_
  refine rvP C (.pv (.lit (.bool (x.site == site)))) rfl rfl rfl rfl ?_
  refine rvc_nil ?_
  refine Awp.cond (b := (x.site == site)) rfl (fun h5 => ?_) (fun h5 => ?_)
  ·
   replace hR := of_true h5 hR
   refine Awp.region C (fun _ => .pure) (by kernel_rfl) ?_
   refine rvP C (.pv (.lit (.int .i64 n))) rfl rfl rfl rfl ?_
   refine rvP C (.pv (.lit (.int .i64 (IntKind.i64.wrap (n + 1))))) rfl rfl rfl rfl ?_
   refine rvP C (.pv (.lit (.int .i64 (IntKind.i64.wrap (n + 1))))) rfl rfl rfl rfl ?_
   refine rvc_nil ?_
   refine Awp.region C (fun _ => .pure) (by kernel_rfl) ?_
   refine rvP C (.pv (.lit (.int .i64 (IntKind.i64.wrap ((i : Int) + 1))))) rfl rfl rfl rfl ?_
   refine rvP C (.pv (.lit (.int .i64 (IntKind.i64.wrap ((i : Int) + 1))))) rfl rfl rfl rfl ?_
   refine rvc_nil ?_
   refine ⟨h3, (IntKind.i64.wrap (n + 1)), ?_, ?_⟩
   · exact hR
   · exact ⟨fun b => b, WeakerR.ofL (Ks := []) hI ⟨⟨rfl, rfl⟩, ⟨rfl, rfl⟩, ⟨rfl, rfl⟩, ⟨rfl, rfl⟩, ⟨lit_cast (wrap_i64 (by omega) (by omega)), rfl⟩, trivial⟩ (okH_nil) rfl⟩
  ·
   replace hR := of_false h5 hR
   refine Awp.skip ?_
   refine Awp.region C (fun _ => .pure) (by kernel_rfl) ?_
   refine rvP C (.pv (.lit (.int .i64 (IntKind.i64.wrap ((i : Int) + 1))))) rfl rfl rfl rfl ?_
   refine rvP C (.pv (.lit (.int .i64 (IntKind.i64.wrap ((i : Int) + 1))))) rfl rfl rfl rfl ?_
   refine rvc_nil ?_
   refine ⟨h3, n, ?_, ?_⟩
   · exact hR
   · exact ⟨fun b => b, WeakerR.ofL (Ks := []) hI ⟨⟨rfl, rfl⟩, ⟨rfl, rfl⟩, ⟨rfl, rfl⟩, ⟨rfl, rfl⟩, ⟨lit_cast (wrap_i64 (by omega) (by omega)), rfl⟩, trivial⟩ (okH_nil) rfl⟩
 ·
  have h3 : ¬ i < c.members.D.length := by have := of_decide_eq_false h2; omega
  rw [drop_end h3] at hR
  refine Awp.exit ?_
  refine Awp.cons C (fun _ => .pure) (by kernel_rfl) ?_
  refine rvP C (.pv (.lit (.int .i64 n))) rfl rfl rfl rfl ?_
  refine rvP C (.pv (.lit (.int .i64 n))) rfl rfl rfl rfl ?_
  refine rvc_nil ?_
  refine Awp.ret ?_
  subst hR
  exact ⟨.inl rfl, rfl⟩
def planCheck_l1 (w : (Nat → Int)) : Nat → Nat → Int
  | 0, _ => 0
  | k1 + 1, i1 => (bif (decide ((w i1) < 0)) then 1 else (bif (decide ((w i1) > 6)) then 1 else planCheck_l1 w k1 (i1 + 1) ))
def planCheck_l0 (h : (Nat → Int)) (w : (Nat → Int)) : Nat → Nat → Int
  | 0, _ => planCheck_l1 w 3 0 
  | k + 1, i => (bif (decide ((h i) < 0)) then 1 else (bif (decide ((h i) ≥ 3)) then 1 else planCheck_l0 h w k (i + 1) ))
def planCheck (h : (Nat → Int)) (w : (Nat → Int)) : Int :=
  planCheck_l0 h w 6 0
theorem planCheck_calls (h : (Nat → Int)) (w : (Nat → Int))  : PCalls Try.prog 21 [.agg [.pv (.lit (.int .i64 (h 0))), .pv (.lit (.int .i64 (h 1))), .pv (.lit (.int .i64 (h 2))), .pv (.lit (.int .i64 (h 3))), .pv (.lit (.int .i64 (h 4))), .pv (.lit (.int .i64 (h 5)))], .agg [.pv (.lit (.int .i64 (w 0))), .pv (.lit (.int .i64 (w 1))), .pv (.lit (.int .i64 (w 2)))]] (.pv (.lit (.int .i64 (planCheck h w)))) := by
 generalize hR : planCheck h w = R
 refine PCalls.of_body tabOk Try.func21 rfl rfl rfl rfl rfl mixed fun E hP C hI => ?_
 refine Awp.cons C (fun _ => .pure) (by kernel_rfl) ?_
 refine rvc_un (rexec_prim C (δ := { v := .ptr 2 0, new := [(2, .cells [.pv (.lit (.int .i64 (h 0))), .pv (.lit (.int .i64 (h 1))), .pv (.lit (.int .i64 (h 2))), .pv (.lit (.int .i64 (h 3))), .pv (.lit (.int .i64 (h 4))), .pv (.lit (.int .i64 (h 5)))])] }) rfl rfl rfl rfl trivial rfl ?_)
 refine rvc_un (rexec_prim C (δ := { v := .ptr 3 0, new := [(3, .cells [.pv (.lit (.int .i64 (w 0))), .pv (.lit (.int .i64 (w 1))), .pv (.lit (.int .i64 (w 2)))])] }) rfl rfl rfl rfl trivial rfl ?_)
 refine rvP C (.pv (.lit (.int .i64 0))) rfl rfl rfl rfl ?_
 refine rvc_nil ?_
 refine Awp.seq ?_
 refine Awp.cons C (fun _ => .pure) (by kernel_rfl) ?_
 refine rvP C (.agg [.pv (.lit (.int .i64 (h 0))), .pv (.lit (.int .i64 (h 1))), .pv (.lit (.int .i64 (h 2))), .pv (.lit (.int .i64 (h 3))), .pv (.lit (.int .i64 (h 4))), .pv (.lit (.int .i64 (h 5)))]) rfl rfl rfl rfl ?_
 refine rvP C (.pv (.lit (.int .i64 0))) rfl rfl rfl rfl ?_
 refine rvc_nil ?_
 refine Awp.block ?_
 refine Awp.forR (σ := Unit) (6) (fun i _v => [(3, .ptr 3 0), (9, .agg [.pv (.lit (.int .i64 (h 0))), .pv (.lit (.int .i64 (h 1))), .pv (.lit (.int .i64 (h 2))), .pv (.lit (.int .i64 (h 3))), .pv (.lit (.int .i64 (h 4))), .pv (.lit (.int .i64 (h 5)))]), (10, .pv (.lit (.int .i64 (i : Int))))]) (fun i _v => [(3, .cells [.pv (.lit (.int .i64 (w 0))), .pv (.lit (.int .i64 (w 1))), .pv (.lit (.int .i64 (w 2)))])]) [3] (fun i _v => planCheck_l0 h w (6 - i) i  = R) () ?_ ?_ (fun i _v h1 hR => ?_)
 · exact hR
 · exact ⟨fun b => b, WeakerR.ofL (Ks := [3]) hI ⟨⟨rfl, rfl⟩, ⟨rfl, rfl⟩, ⟨rfl, rfl⟩, trivial⟩ (okH_cons rfl rfl rfl rfl (okH_nil)) rfl⟩
 refine Awp.cons C (fun _ => .pure) (by kernel_rfl) ?_
 refine rvP C (.pv (.lit (.bool (decide ((i : Int) < 6))))) rfl rfl rfl rfl ?_
 refine rvc_nil ?_
 refine Awp.seq ?_
 refine Awp.cond (b := (decide ((i : Int) < 6))) rfl (fun h2 => ?_) (fun h2 => ?_)
 ·
  have h3 : i < 6 := by have := of_decide_eq_true h2; omega
  obtain ⟨k, h4⟩ : ∃ k, 6 - i = k + 1 := ⟨6 - i - 1, by omega⟩
  rw [h4] at hR
  refine Awp.skip ?_
  refine Awp.seq ?_
  refine Awp.block ?_
  refine Awp.cons C (fun _ => .pure) (by kernel_rfl) ?_
  refine rvc_un (rexec_idxA C (fun j => .pv (.lit (.int .i64 (h j)))) (.pv (.lit (.int .i64 (h i)))) rfl rfl rfl rfl rfl rfl rfl rfl ⟨(by have := of_decide_eq_true h2; omega), (by have := of_decide_eq_true h2; omega)⟩ rfl ?_)
  refine rvP C (.pv (.lit (.int .i64 (h i)))) rfl rfl rfl rfl ?_
  refine rvc_nil ?_
  refine Awp.cons C (fun _ => .pure) (by kernel_rfl) ?_
  refine rvP C (.pv (.lit (.int .i64 (h i)))) rfl rfl rfl rfl ?_
  refine rvP C (.pv (.lit (.bool (decide ((h i) < 0))))) rfl rfl rfl rfl ?_
  refine rvP C (.pv (.lit (.bool (decide ((h i) < 0))))) rfl rfl rfl rfl ?_
  refine rvc_case 15 (decide ((h i) < 0)) rfl (fun h5 => ?_) (fun h5 => ?_)
  ·
   replace hR := of_true h5 hR
   refine rvc_shut rfl rfl rfl rfl ?_
   refine rvc_shut rfl rfl rfl rfl ?_
   refine rvP C (.pv (.lit (.bool true))) rfl rfl rfl rfl ?_
   refine rvc_nil ?_
   refine Awp.condT (b := true) rfl rfl ?_
   refine Awp.cons C (fun _ => .pure) (by kernel_rfl) ?_
   refine rvP C (.pv (.lit (.int .i64 1))) rfl rfl rfl rfl ?_
   refine rvc_nil ?_
   refine Awp.ret ?_
   subst hR
   exact ⟨.inl rfl, rfl⟩
  ·
   replace hR := of_false h5 hR
   refine rvc_open rfl rfl rfl (rexec_prim C (δ := { v := .pv (.lit (.int .i64 (h i))) }) rfl rfl rfl rfl trivial rfl ?_)
   refine rvc_open rfl rfl rfl (rexec_prim C (δ := { v := .pv (.lit (.bool (decide ((h i) ≥ 3)))) }) rfl rfl rfl rfl trivial rfl ?_)
   refine rvP C (.pv (.lit (.bool (decide ((h i) ≥ 3))))) rfl rfl rfl rfl ?_
   refine rvc_nil ?_
   refine Awp.cond (b := (decide ((h i) ≥ 3))) rfl (fun h6 => ?_) (fun h6 => ?_)
   ·
    replace hR := of_true h6 hR
    refine Awp.cons C (fun _ => .pure) (by kernel_rfl) ?_
    refine rvP C (.pv (.lit (.int .i64 1))) rfl rfl rfl rfl ?_
    refine rvc_nil ?_
    refine Awp.ret ?_
    subst hR
    exact ⟨.inl rfl, rfl⟩
   ·
    replace hR := of_false h6 hR
    refine Awp.skip ?_
    refine Awp.region C (fun _ => .pure) (by kernel_rfl) ?_
    refine rvP C (.pv (.lit (.int .i64 (IntKind.i64.wrap ((i : Int) + 1))))) rfl rfl rfl rfl ?_
    refine rvP C (.pv (.lit (.int .i64 (IntKind.i64.wrap ((i : Int) + 1))))) rfl rfl rfl rfl ?_
    refine rvc_nil ?_
    refine ⟨h3, (), ?_, ?_⟩
    · exact (by rw [show 6 - (i + 1) = k by omega]; exact hR)
    · exact ⟨fun b => b, WeakerR.ofL (Ks := [3]) hI ⟨⟨rfl, rfl⟩, ⟨rfl, rfl⟩, ⟨lit_cast (wrap_i64 (by omega) (by omega)), rfl⟩, trivial⟩ (okH_cons rfl rfl rfl rfl (okH_nil)) rfl⟩
 ·
  rw [show 6 - i = 0 by have := of_decide_eq_false h2; omega] at hR
  refine Awp.exit ?_
  refine Awp.seq ?_
  refine Awp.cons C (fun _ => .pure) (by kernel_rfl) ?_
  refine rvP C (.agg [.pv (.lit (.int .i64 (w 0))), .pv (.lit (.int .i64 (w 1))), .pv (.lit (.int .i64 (w 2)))]) rfl rfl rfl rfl ?_
  refine rvP C (.pv (.lit (.int .i64 0))) rfl rfl rfl rfl ?_
  refine rvc_nil ?_
  refine Awp.block ?_
  refine Awp.forR (σ := Unit) (3) (fun i1 _v => [(20, .agg [.pv (.lit (.int .i64 (w 0))), .pv (.lit (.int .i64 (w 1))), .pv (.lit (.int .i64 (w 2)))]), (21, .pv (.lit (.int .i64 (i1 : Int))))]) (fun i1 _v => []) [] (fun i1 _v => planCheck_l1 w (3 - i1) i1  = R) () ?_ ?_ (fun i1 _v h7 hR => ?_)
  · exact hR
  · exact ⟨fun b => b, WeakerR.ofL (Ks := []) hI ⟨⟨rfl, rfl⟩, ⟨rfl, rfl⟩, trivial⟩ (okH_nil) rfl⟩
  refine Awp.cons C (fun _ => .pure) (by kernel_rfl) ?_
  refine rvP C (.pv (.lit (.bool (decide ((i1 : Int) < 3))))) rfl rfl rfl rfl ?_
  refine rvc_nil ?_
  refine Awp.seq ?_
  refine Awp.cond (b := (decide ((i1 : Int) < 3))) rfl (fun h8 => ?_) (fun h8 => ?_)
  ·
   have h9 : i1 < 3 := by have := of_decide_eq_true h8; omega
   obtain ⟨k1, h10⟩ : ∃ k, 3 - i1 = k + 1 := ⟨3 - i1 - 1, by omega⟩
   rw [h10] at hR
   refine Awp.skip ?_
   refine Awp.seq ?_
   refine Awp.block ?_
   refine Awp.cons C (fun _ => .pure) (by kernel_rfl) ?_
   refine rvc_un (rexec_idxA C (fun j => .pv (.lit (.int .i64 (w j)))) (.pv (.lit (.int .i64 (w i1)))) rfl rfl rfl rfl rfl rfl rfl rfl ⟨(by have := of_decide_eq_false h2; have := of_decide_eq_true h8; omega), (by have := of_decide_eq_false h2; have := of_decide_eq_true h8; omega)⟩ rfl ?_)
   refine rvP C (.pv (.lit (.int .i64 (w i1)))) rfl rfl rfl rfl ?_
   refine rvc_nil ?_
   refine Awp.cons C (fun _ => .pure) (by kernel_rfl) ?_
   refine rvP C (.pv (.lit (.int .i64 (w i1)))) rfl rfl rfl rfl ?_
   refine rvP C (.pv (.lit (.bool (decide ((w i1) < 0))))) rfl rfl rfl rfl ?_
   refine rvP C (.pv (.lit (.bool (decide ((w i1) < 0))))) rfl rfl rfl rfl ?_
   refine rvc_case 26 (decide ((w i1) < 0)) rfl (fun h11 => ?_) (fun h11 => ?_)
   ·
    replace hR := of_true h11 hR
    refine rvc_shut rfl rfl rfl rfl ?_
    refine rvc_shut rfl rfl rfl rfl ?_
    refine rvP C (.pv (.lit (.bool true))) rfl rfl rfl rfl ?_
    refine rvc_nil ?_
    refine Awp.condT (b := true) rfl rfl ?_
    refine Awp.cons C (fun _ => .pure) (by kernel_rfl) ?_
    refine rvP C (.pv (.lit (.int .i64 1))) rfl rfl rfl rfl ?_
    refine rvc_nil ?_
    refine Awp.ret ?_
    subst hR
    exact ⟨.inl rfl, rfl⟩
   ·
    replace hR := of_false h11 hR
    refine rvc_open rfl rfl rfl (rexec_prim C (δ := { v := .pv (.lit (.int .i64 (w i1))) }) rfl rfl rfl rfl trivial rfl ?_)
    refine rvc_open rfl rfl rfl (rexec_prim C (δ := { v := .pv (.lit (.bool (decide ((w i1) > 6)))) }) rfl rfl rfl rfl trivial rfl ?_)
    refine rvP C (.pv (.lit (.bool (decide ((w i1) > 6))))) rfl rfl rfl rfl ?_
    refine rvc_nil ?_
    refine Awp.cond (b := (decide ((w i1) > 6))) rfl (fun h12 => ?_) (fun h12 => ?_)
    ·
     replace hR := of_true h12 hR
     refine Awp.cons C (fun _ => .pure) (by kernel_rfl) ?_
     refine rvP C (.pv (.lit (.int .i64 1))) rfl rfl rfl rfl ?_
     refine rvc_nil ?_
     refine Awp.ret ?_
     subst hR
     exact ⟨.inl rfl, rfl⟩
    ·
     replace hR := of_false h12 hR
     refine Awp.skip ?_
     refine Awp.region C (fun _ => .pure) (by kernel_rfl) ?_
     refine rvP C (.pv (.lit (.int .i64 (IntKind.i64.wrap ((i1 : Int) + 1))))) rfl rfl rfl rfl ?_
     refine rvP C (.pv (.lit (.int .i64 (IntKind.i64.wrap ((i1 : Int) + 1))))) rfl rfl rfl rfl ?_
     refine rvc_nil ?_
     refine ⟨h9, (), ?_, ?_⟩
     · exact (by rw [show 3 - (i1 + 1) = k1 by omega]; exact hR)
     · exact ⟨fun b => b, WeakerR.ofL (Ks := []) hI ⟨⟨rfl, rfl⟩, ⟨lit_cast (wrap_i64 (by omega) (by omega)), rfl⟩, trivial⟩ (okH_nil) rfl⟩
  ·
   rw [show 3 - i1 = 0 by have := of_decide_eq_false h8; omega] at hR
   refine Awp.exit ?_
   refine Awp.cons C (fun _ => .pure) (by kernel_rfl) ?_
   refine rvP C (.pv (.lit (.int .i64 0))) rfl rfl rfl rfl ?_
   refine rvc_nil ?_
   refine Awp.ret ?_
   subst hR
   exact ⟨.inl rfl, rfl⟩
def rPlanCheck_l1 (w : (Nat → Int)) : Nat → Nat → Int
  | 0, _ => 0
  | k1 + 1, i1 => (bif (decide ((w i1) < 0)) then 1 else (bif (decide ((w i1) > 6)) then 1 else rPlanCheck_l1 w k1 (i1 + 1) ))
def rPlanCheck_l0 (h : (Nat → Int)) (w : (Nat → Int)) : Nat → Nat → Int
  | 0, _ => rPlanCheck_l1 w 3 0 
  | k + 1, i => (bif (decide ((h i) < 0)) then 1 else (bif (decide ((h i) > 2)) then 1 else rPlanCheck_l0 h w k (i + 1) ))
def rPlanCheck (h : (Nat → Int)) (w : (Nat → Int)) : Int :=
  rPlanCheck_l0 h w 6 0
theorem rPlanCheck_calls (h : (Nat → Int)) (w : (Nat → Int))  : PCalls Try.prog 22 [.agg [.pv (.lit (.int .i64 (h 0))), .pv (.lit (.int .i64 (h 1))), .pv (.lit (.int .i64 (h 2))), .pv (.lit (.int .i64 (h 3))), .pv (.lit (.int .i64 (h 4))), .pv (.lit (.int .i64 (h 5)))], .agg [.pv (.lit (.int .i64 (w 0))), .pv (.lit (.int .i64 (w 1))), .pv (.lit (.int .i64 (w 2)))]] (.pv (.lit (.int .i64 (rPlanCheck h w)))) := by
 generalize hR : rPlanCheck h w = R
 refine PCalls.of_body tabOk Try.func22 rfl rfl rfl rfl rfl mixed fun E hP C hI => ?_
 refine Awp.cons C (fun _ => .pure) (by kernel_rfl) ?_
 refine rvc_un (rexec_prim C (δ := { v := .ptr 2 0, new := [(2, .cells [.pv (.lit (.int .i64 (h 0))), .pv (.lit (.int .i64 (h 1))), .pv (.lit (.int .i64 (h 2))), .pv (.lit (.int .i64 (h 3))), .pv (.lit (.int .i64 (h 4))), .pv (.lit (.int .i64 (h 5)))])] }) rfl rfl rfl rfl trivial rfl ?_)
 refine rvc_un (rexec_prim C (δ := { v := .ptr 3 0, new := [(3, .cells [.pv (.lit (.int .i64 (w 0))), .pv (.lit (.int .i64 (w 1))), .pv (.lit (.int .i64 (w 2)))])] }) rfl rfl rfl rfl trivial rfl ?_)
 refine rvP C (.pv (.lit (.int .i64 0))) rfl rfl rfl rfl ?_
 refine rvc_nil ?_
 refine Awp.seq ?_
 refine Awp.cons C (fun _ => .pure) (by kernel_rfl) ?_
 refine rvP C (.agg [.pv (.lit (.int .i64 (h 0))), .pv (.lit (.int .i64 (h 1))), .pv (.lit (.int .i64 (h 2))), .pv (.lit (.int .i64 (h 3))), .pv (.lit (.int .i64 (h 4))), .pv (.lit (.int .i64 (h 5)))]) rfl rfl rfl rfl ?_
 refine rvP C (.pv (.lit (.int .i64 0))) rfl rfl rfl rfl ?_
 refine rvc_nil ?_
 refine Awp.block ?_
 refine Awp.forR (σ := Unit) (6) (fun i _v => [(3, .ptr 3 0), (9, .agg [.pv (.lit (.int .i64 (h 0))), .pv (.lit (.int .i64 (h 1))), .pv (.lit (.int .i64 (h 2))), .pv (.lit (.int .i64 (h 3))), .pv (.lit (.int .i64 (h 4))), .pv (.lit (.int .i64 (h 5)))]), (10, .pv (.lit (.int .i64 (i : Int))))]) (fun i _v => [(3, .cells [.pv (.lit (.int .i64 (w 0))), .pv (.lit (.int .i64 (w 1))), .pv (.lit (.int .i64 (w 2)))])]) [3] (fun i _v => rPlanCheck_l0 h w (6 - i) i  = R) () ?_ ?_ (fun i _v h1 hR => ?_)
 · exact hR
 · exact ⟨fun b => b, WeakerR.ofL (Ks := [3]) hI ⟨⟨rfl, rfl⟩, ⟨rfl, rfl⟩, ⟨rfl, rfl⟩, trivial⟩ (okH_cons rfl rfl rfl rfl (okH_nil)) rfl⟩
 refine Awp.cons C (fun _ => .pure) (by kernel_rfl) ?_
 refine rvP C (.pv (.lit (.bool (decide ((i : Int) < 6))))) rfl rfl rfl rfl ?_
 refine rvc_nil ?_
 refine Awp.seq ?_
 refine Awp.cond (b := (decide ((i : Int) < 6))) rfl (fun h2 => ?_) (fun h2 => ?_)
 ·
  have h3 : i < 6 := by have := of_decide_eq_true h2; omega
  obtain ⟨k, h4⟩ : ∃ k, 6 - i = k + 1 := ⟨6 - i - 1, by omega⟩
  rw [h4] at hR
  refine Awp.skip ?_
  refine Awp.seq ?_
  refine Awp.block ?_
  refine Awp.cons C (fun _ => .pure) (by kernel_rfl) ?_
  refine rvc_un (rexec_idxA C (fun j => .pv (.lit (.int .i64 (h j)))) (.pv (.lit (.int .i64 (h i)))) rfl rfl rfl rfl rfl rfl rfl rfl ⟨(by have := of_decide_eq_true h2; omega), (by have := of_decide_eq_true h2; omega)⟩ rfl ?_)
  refine rvP C (.pv (.lit (.int .i64 (h i)))) rfl rfl rfl rfl ?_
  refine rvc_nil ?_
  refine Awp.cons C (fun _ => .pure) (by kernel_rfl) ?_
  refine rvP C (.pv (.lit (.int .i64 (h i)))) rfl rfl rfl rfl ?_
  refine rvP C (.pv (.lit (.bool (decide ((h i) < 0))))) rfl rfl rfl rfl ?_
  refine rvP C (.pv (.lit (.bool (decide ((h i) < 0))))) rfl rfl rfl rfl ?_
  refine rvc_case 15 (decide ((h i) < 0)) rfl (fun h5 => ?_) (fun h5 => ?_)
  ·
   replace hR := of_true h5 hR
   refine rvc_shut rfl rfl rfl rfl ?_
   refine rvc_shut rfl rfl rfl rfl ?_
   refine rvP C (.pv (.lit (.bool true))) rfl rfl rfl rfl ?_
   refine rvc_nil ?_
   refine Awp.condT (b := true) rfl rfl ?_
   refine Awp.cons C (fun _ => .pure) (by kernel_rfl) ?_
   refine rvP C (.pv (.lit (.int .i64 1))) rfl rfl rfl rfl ?_
   refine rvc_nil ?_
   refine Awp.ret ?_
   subst hR
   exact ⟨.inl rfl, rfl⟩
  ·
   replace hR := of_false h5 hR
   refine rvc_open rfl rfl rfl (rexec_prim C (δ := { v := .pv (.lit (.int .i64 (h i))) }) rfl rfl rfl rfl trivial rfl ?_)
   refine rvc_open rfl rfl rfl (rexec_prim C (δ := { v := .pv (.lit (.bool (decide ((h i) > 2)))) }) rfl rfl rfl rfl trivial rfl ?_)
   refine rvP C (.pv (.lit (.bool (decide ((h i) > 2))))) rfl rfl rfl rfl ?_
   refine rvc_nil ?_
   refine Awp.cond (b := (decide ((h i) > 2))) rfl (fun h6 => ?_) (fun h6 => ?_)
   ·
    replace hR := of_true h6 hR
    refine Awp.cons C (fun _ => .pure) (by kernel_rfl) ?_
    refine rvP C (.pv (.lit (.int .i64 1))) rfl rfl rfl rfl ?_
    refine rvc_nil ?_
    refine Awp.ret ?_
    subst hR
    exact ⟨.inl rfl, rfl⟩
   ·
    replace hR := of_false h6 hR
    refine Awp.skip ?_
    refine Awp.region C (fun _ => .pure) (by kernel_rfl) ?_
    refine rvP C (.pv (.lit (.int .i64 (IntKind.i64.wrap ((i : Int) + 1))))) rfl rfl rfl rfl ?_
    refine rvP C (.pv (.lit (.int .i64 (IntKind.i64.wrap ((i : Int) + 1))))) rfl rfl rfl rfl ?_
    refine rvc_nil ?_
    refine ⟨h3, (), ?_, ?_⟩
    · exact (by rw [show 6 - (i + 1) = k by omega]; exact hR)
    · exact ⟨fun b => b, WeakerR.ofL (Ks := [3]) hI ⟨⟨rfl, rfl⟩, ⟨rfl, rfl⟩, ⟨lit_cast (wrap_i64 (by omega) (by omega)), rfl⟩, trivial⟩ (okH_cons rfl rfl rfl rfl (okH_nil)) rfl⟩
 ·
  rw [show 6 - i = 0 by have := of_decide_eq_false h2; omega] at hR
  refine Awp.exit ?_
  refine Awp.seq ?_
  refine Awp.cons C (fun _ => .pure) (by kernel_rfl) ?_
  refine rvP C (.agg [.pv (.lit (.int .i64 (w 0))), .pv (.lit (.int .i64 (w 1))), .pv (.lit (.int .i64 (w 2)))]) rfl rfl rfl rfl ?_
  refine rvP C (.pv (.lit (.int .i64 0))) rfl rfl rfl rfl ?_
  refine rvc_nil ?_
  refine Awp.block ?_
  refine Awp.forR (σ := Unit) (3) (fun i1 _v => [(20, .agg [.pv (.lit (.int .i64 (w 0))), .pv (.lit (.int .i64 (w 1))), .pv (.lit (.int .i64 (w 2)))]), (21, .pv (.lit (.int .i64 (i1 : Int))))]) (fun i1 _v => []) [] (fun i1 _v => rPlanCheck_l1 w (3 - i1) i1  = R) () ?_ ?_ (fun i1 _v h7 hR => ?_)
  · exact hR
  · exact ⟨fun b => b, WeakerR.ofL (Ks := []) hI ⟨⟨rfl, rfl⟩, ⟨rfl, rfl⟩, trivial⟩ (okH_nil) rfl⟩
  refine Awp.cons C (fun _ => .pure) (by kernel_rfl) ?_
  refine rvP C (.pv (.lit (.bool (decide ((i1 : Int) < 3))))) rfl rfl rfl rfl ?_
  refine rvc_nil ?_
  refine Awp.seq ?_
  refine Awp.cond (b := (decide ((i1 : Int) < 3))) rfl (fun h8 => ?_) (fun h8 => ?_)
  ·
   have h9 : i1 < 3 := by have := of_decide_eq_true h8; omega
   obtain ⟨k1, h10⟩ : ∃ k, 3 - i1 = k + 1 := ⟨3 - i1 - 1, by omega⟩
   rw [h10] at hR
   refine Awp.skip ?_
   refine Awp.seq ?_
   refine Awp.block ?_
   refine Awp.cons C (fun _ => .pure) (by kernel_rfl) ?_
   refine rvc_un (rexec_idxA C (fun j => .pv (.lit (.int .i64 (w j)))) (.pv (.lit (.int .i64 (w i1)))) rfl rfl rfl rfl rfl rfl rfl rfl ⟨(by have := of_decide_eq_false h2; have := of_decide_eq_true h8; omega), (by have := of_decide_eq_false h2; have := of_decide_eq_true h8; omega)⟩ rfl ?_)
   refine rvP C (.pv (.lit (.int .i64 (w i1)))) rfl rfl rfl rfl ?_
   refine rvc_nil ?_
   refine Awp.cons C (fun _ => .pure) (by kernel_rfl) ?_
   refine rvP C (.pv (.lit (.int .i64 (w i1)))) rfl rfl rfl rfl ?_
   refine rvP C (.pv (.lit (.bool (decide ((w i1) < 0))))) rfl rfl rfl rfl ?_
   refine rvP C (.pv (.lit (.bool (decide ((w i1) < 0))))) rfl rfl rfl rfl ?_
   refine rvc_case 26 (decide ((w i1) < 0)) rfl (fun h11 => ?_) (fun h11 => ?_)
   ·
    replace hR := of_true h11 hR
    refine rvc_shut rfl rfl rfl rfl ?_
    refine rvc_shut rfl rfl rfl rfl ?_
    refine rvP C (.pv (.lit (.bool true))) rfl rfl rfl rfl ?_
    refine rvc_nil ?_
    refine Awp.condT (b := true) rfl rfl ?_
    refine Awp.cons C (fun _ => .pure) (by kernel_rfl) ?_
    refine rvP C (.pv (.lit (.int .i64 1))) rfl rfl rfl rfl ?_
    refine rvc_nil ?_
    refine Awp.ret ?_
    subst hR
    exact ⟨.inl rfl, rfl⟩
   ·
    replace hR := of_false h11 hR
    refine rvc_open rfl rfl rfl (rexec_prim C (δ := { v := .pv (.lit (.int .i64 (w i1))) }) rfl rfl rfl rfl trivial rfl ?_)
    refine rvc_open rfl rfl rfl (rexec_prim C (δ := { v := .pv (.lit (.bool (decide ((w i1) > 6)))) }) rfl rfl rfl rfl trivial rfl ?_)
    refine rvP C (.pv (.lit (.bool (decide ((w i1) > 6))))) rfl rfl rfl rfl ?_
    refine rvc_nil ?_
    refine Awp.cond (b := (decide ((w i1) > 6))) rfl (fun h12 => ?_) (fun h12 => ?_)
    ·
     replace hR := of_true h12 hR
     refine Awp.cons C (fun _ => .pure) (by kernel_rfl) ?_
     refine rvP C (.pv (.lit (.int .i64 1))) rfl rfl rfl rfl ?_
     refine rvc_nil ?_
     refine Awp.ret ?_
     subst hR
     exact ⟨.inl rfl, rfl⟩
    ·
     replace hR := of_false h12 hR
     refine Awp.skip ?_
     refine Awp.region C (fun _ => .pure) (by kernel_rfl) ?_
     refine rvP C (.pv (.lit (.int .i64 (IntKind.i64.wrap ((i1 : Int) + 1))))) rfl rfl rfl rfl ?_
     refine rvP C (.pv (.lit (.int .i64 (IntKind.i64.wrap ((i1 : Int) + 1))))) rfl rfl rfl rfl ?_
     refine rvc_nil ?_
     refine ⟨h9, (), ?_, ?_⟩
     · exact (by rw [show 3 - (i1 + 1) = k1 by omega]; exact hR)
     · exact ⟨fun b => b, WeakerR.ofL (Ks := []) hI ⟨⟨rfl, rfl⟩, ⟨lit_cast (wrap_i64 (by omega) (by omega)), rfl⟩, trivial⟩ (okH_nil) rfl⟩
  ·
   rw [show 3 - i1 = 0 by have := of_decide_eq_false h8; omega] at hR
   refine Awp.exit ?_
   refine Awp.cons C (fun _ => .pure) (by kernel_rfl) ?_
   refine rvP C (.pv (.lit (.int .i64 0))) rfl rfl rfl rfl ?_
   refine rvc_nil ?_
   refine Awp.ret ?_
   subst hR
   exact ⟨.inl rfl, rfl⟩
def lowOf (s : Int) : Int :=
  (bif (s == 0) then (-1) else (mLen (IntKind.u64.wrap ((bitI .and .u64 s (IntKind.u64.wrap (0 - s))) - 1))))
theorem lowOf_calls (s : Int)  : PCalls Try.prog 60 [.pv (.lit (.int .u64 s))] (.pv (.lit (.int .i64 (lowOf s)))) := by
 generalize hR : lowOf s = R
 refine PCalls.of_body tabOk Try.func60 rfl rfl rfl rfl rfl mixed fun E hP C hI => ?_
 refine Awp.cons C (fun _ => .pure) (by kernel_rfl) ?_
 refine rvP C (.pv (.lit (.int .i64 0))) rfl rfl rfl rfl ?_
 refine rvc_nil ?_
 refine Awp.seq ?_
 refine Awp.cons C (fun _ => .pure) (by kernel_rfl) ?_
 refine rvP C (.pv (.lit (.int .u64 s))) rfl rfl rfl rfl ?_
 refine rvP C (.pv (.lit (.bool (s == 0)))) rfl rfl rfl rfl ?_
 refine rvc_nil ?_
 refine Awp.cond (b := (s == 0)) rfl (fun h1 => ?_) (fun h1 => ?_)
 ·
  replace hR := of_true h1 hR
  refine Awp.cons C (fun _ => .pure) (by kernel_rfl) ?_
  refine rvP C (.pv (.lit (.int .i64 (-1)))) rfl rfl rfl rfl ?_
  refine rvc_nil ?_
  refine Awp.ret ?_
  subst hR
  exact ⟨.inl rfl, rfl⟩
 ·
  replace hR := of_false h1 hR
  refine Awp.skip ?_
  refine Awp.cons C (fun _ => .pure) (by kernel_rfl) ?_
  refine rvP C (.pv (.lit (.int .u64 s))) rfl rfl rfl rfl ?_
  refine rvP C (.pv (.lit (.int .u64 s))) rfl rfl rfl rfl ?_
  refine rvP C (.pv (.lit (.int .u64 (IntKind.u64.wrap (0 - s))))) rfl rfl rfl rfl ?_
  refine rvP C (.pv (.lit (.int .u64 (bitI .and .u64 s (IntKind.u64.wrap (0 - s)))))) rfl rfl rfl rfl ?_
  refine rvP C (.pv (.lit (.int .u64 (IntKind.u64.wrap ((bitI .and .u64 s (IntKind.u64.wrap (0 - s))) - 1))))) rfl rfl rfl rfl ?_
  refine rvc_un (rexec_call hP C rfl rfl rfl (mLen_calls (IntKind.u64.wrap ((bitI .and .u64 s (IntKind.u64.wrap (0 - s))) - 1))) ?_)
  refine rvP C (.pv (.lit (.int .i64 (mLen (IntKind.u64.wrap ((bitI .and .u64 s (IntKind.u64.wrap (0 - s))) - 1)))))) rfl rfl rfl rfl ?_
  refine rvc_nil ?_
  refine Awp.ret ?_
  subst hR
  exact ⟨.inl rfl, rfl⟩
def eqCmds_l0 (s2 : (Sl Command)) : List Command → Nat → Bool
  | [], _ => true
  | x :: xs, i => (bif (!((x.kind == (s2.D[(i : Int).toNat]!.kind)) && ((x.node == (s2.D[(i : Int).toNat]!.node)) && ((x.site == (s2.D[(i : Int).toNat]!.site)) && ((x.epoch == (s2.D[(i : Int).toNat]!.epoch)) && true))))) then false else eqCmds_l0 s2 xs (i + 1) )
def eqCmds (s1 : (Sl Command)) (s2 : (Sl Command)) : Bool :=
  (bif ((s1.D.length : Int) != (s2.D.length : Int)) then false else eqCmds_l0 s2 s1.D 0 )
theorem eqCmds_calls (s1 : (Sl Command)) (s2 : (Sl Command)) (hl1 : s1.D.length ≤ 1000000) : PCalls Try.prog 15 [sS (some s1.nil) eCommand s1.D, sS (some s2.nil) eCommand s2.D] (.pv (.lit (.bool (eqCmds s1 s2)))) := by
 generalize hR : eqCmds s1 s2 = R
 refine PCalls.of_body tabOk Try.func15 rfl rfl rfl rfl rfl mixed fun E hP C hI => ?_
 refine Awp.cons C (fun _ => .pure) (by kernel_rfl) ?_
 refine rvP C (.pv (.lit (.bool false))) rfl rfl rfl rfl ?_
 refine rvc_nil ?_
 refine Awp.seq ?_
 refine Awp.cons C (fun _ => .pure) (by kernel_rfl) ?_
 refine rvP C (sS (some s1.nil) eCommand s1.D) rfl rfl rfl rfl ?_
 refine rvP C (.pv (.lit (.int .i64 (s1.D.length : Int)))) rfl rfl rfl rfl ?_
 refine rvP C (sS (some s2.nil) eCommand s2.D) rfl rfl rfl rfl ?_
 refine rvP C (.pv (.lit (.int .i64 (s2.D.length : Int)))) rfl rfl rfl rfl ?_
 refine rvP C (.pv (.lit (.bool ((s1.D.length : Int) != (s2.D.length : Int))))) rfl rfl rfl rfl ?_
 refine rvc_nil ?_
 refine Awp.cond (b := ((s1.D.length : Int) != (s2.D.length : Int))) rfl (fun h1 => ?_) (fun h1 => ?_)
 ·
  replace hR := of_true h1 hR
  refine Awp.cons C (fun _ => .pure) (by kernel_rfl) ?_
  refine rvP C (.pv (.lit (.bool false))) rfl rfl rfl rfl ?_
  refine rvc_nil ?_
  refine Awp.ret ?_
  subst hR
  exact ⟨.inl rfl, rfl⟩
 ·
  replace hR := of_false h1 hR
  refine Awp.skip ?_
  refine Awp.seq ?_
  refine Awp.cons C (fun _ => .pure) (by kernel_rfl) ?_
  refine rvP C (sS (some s1.nil) eCommand s1.D) rfl rfl rfl rfl ?_
  refine rvP C (.pv (.lit (.int .i64 (s1.D.length : Int)))) rfl rfl rfl rfl ?_
  refine rvP C (.pv (.lit (.int .i64 0))) rfl rfl rfl rfl ?_
  refine rvc_nil ?_
  refine Awp.block ?_
  refine Awp.forR (σ := Unit) (s1.D.length) (fun i _v => [(0, sS (some s1.nil) eCommand s1.D), (1, sS (some s2.nil) eCommand s2.D), (12, .pv (.lit (.int .i64 (s1.D.length : Int)))), (13, .pv (.lit (.int .i64 (i : Int))))]) (fun i _v => []) [] (fun i _v => eqCmds_l0 s2 (s1.D.drop i) i  = R) () ?_ ?_ (fun i _v h2 hR => ?_)
  · exact hR
  · exact ⟨fun b => b, WeakerR.ofL (Ks := []) hI ⟨⟨rfl, rfl⟩, ⟨rfl, rfl⟩, ⟨rfl, rfl⟩, ⟨rfl, rfl⟩, trivial⟩ (okH_nil) rfl⟩
  refine Awp.cons C (fun _ => .pure) (by kernel_rfl) ?_
  refine rvP C (.pv (.lit (.bool (decide ((i : Int) < (s1.D.length : Int)))))) rfl rfl rfl rfl ?_
  refine rvc_nil ?_
  refine Awp.seq ?_
  refine Awp.cond (b := (decide ((i : Int) < (s1.D.length : Int)))) rfl (fun h3 => ?_) (fun h3 => ?_)
  ·
   have h4 : i < s1.D.length := by have := of_decide_eq_true h3; omega
   obtain ⟨x, h5⟩ := getX h4
   rw [drop_at h5] at hR
   refine Awp.skip ?_
   refine Awp.seq ?_
   refine Awp.block ?_
   refine Awp.cons C (fun _ => .pure) (by kernel_rfl) ?_
   refine rvP C (.pv (.lit (.int .i64 (i : Int)))) rfl rfl rfl rfl ?_
   refine rvP C (.pv (.lit (.int .i64 (i : Int)))) rfl rfl rfl rfl ?_
   refine rvc_nil ?_
   refine Awp.cons C (fun _ => .pure) (by kernel_rfl) ?_
   refine rvP C (sS (some s1.nil) eCommand s1.D) rfl rfl rfl rfl ?_
   refine rvP C (.pv (.lit (.int .i64 (i : Int)))) rfl rfl rfl rfl ?_
   refine rvc_un (rexec_idxS C rfl rfl rfl rfl rfl rfl x (Int.natCast_nonneg _) h5 ?_)
   refine rvP C (.agg [.pv (.lit (.int .i64 x.kind)), .pv (.lit (.int .i64 x.node)), .pv (.lit (.int .i64 x.site)), .pv (.lit (.int .i64 x.epoch))]) rfl rfl rfl rfl ?_
   refine rvP C (sS (some s2.nil) eCommand s2.D) rfl rfl rfl rfl ?_
   refine rvP C (.pv (.lit (.int .i64 (i : Int)))) rfl rfl rfl rfl ?_
   have h6 : s2.D[(i : Int).toNat]? = some s2.D[(i : Int).toNat]! := getE (by have := eq_of_bne_false h1; have := of_decide_eq_true h3; omega)
   refine rvc_un (rexec_idxS C rfl rfl rfl rfl rfl rfl (s2.D[(i : Int).toNat]!) (Int.natCast_nonneg _) h6 ?_)
   refine rvP C (.agg [.pv (.lit (.int .i64 (s2.D[(i : Int).toNat]!.kind))), .pv (.lit (.int .i64 (s2.D[(i : Int).toNat]!.node))), .pv (.lit (.int .i64 (s2.D[(i : Int).toNat]!.site))), .pv (.lit (.int .i64 (s2.D[(i : Int).toNat]!.epoch)))]) rfl rfl rfl rfl ?_
   refine rvP C (.pv (.lit (.bool (!((x.kind == (s2.D[(i : Int).toNat]!.kind)) && ((x.node == (s2.D[(i : Int).toNat]!.node)) && ((x.site == (s2.D[(i : Int).toNat]!.site)) && ((x.epoch == (s2.D[(i : Int).toNat]!.epoch)) && true)))))))) rfl rfl rfl rfl ?_
   refine rvc_nil ?_
   refine Awp.cond (b := (!((x.kind == (s2.D[(i : Int).toNat]!.kind)) && ((x.node == (s2.D[(i : Int).toNat]!.node)) && ((x.site == (s2.D[(i : Int).toNat]!.site)) && ((x.epoch == (s2.D[(i : Int).toNat]!.epoch)) && true)))))) rfl (fun h7 => ?_) (fun h7 => ?_)
   ·
    replace hR := of_true h7 hR
    refine Awp.cons C (fun _ => .pure) (by kernel_rfl) ?_
    refine rvP C (.pv (.lit (.bool false))) rfl rfl rfl rfl ?_
    refine rvc_nil ?_
    refine Awp.ret ?_
    subst hR
    exact ⟨.inl rfl, rfl⟩
   ·
    replace hR := of_false h7 hR
    refine Awp.skip ?_
    refine Awp.region C (fun _ => .pure) (by kernel_rfl) ?_
    refine rvP C (.pv (.lit (.int .i64 (IntKind.i64.wrap ((i : Int) + 1))))) rfl rfl rfl rfl ?_
    refine rvP C (.pv (.lit (.int .i64 (IntKind.i64.wrap ((i : Int) + 1))))) rfl rfl rfl rfl ?_
    refine rvc_nil ?_
    refine ⟨h4, (), ?_, ?_⟩
    · exact hR
    · exact ⟨fun b => b, WeakerR.ofL (Ks := []) hI ⟨⟨rfl, rfl⟩, ⟨rfl, rfl⟩, ⟨rfl, rfl⟩, ⟨lit_cast (wrap_i64 (by omega) (by omega)), rfl⟩, trivial⟩ (okH_nil) rfl⟩
  ·
   have h4 : ¬ i < s1.D.length := by have := of_decide_eq_false h3; omega
   rw [drop_end h4] at hR
   refine Awp.exit ?_
   refine Awp.cons C (fun _ => .pure) (by kernel_rfl) ?_
   refine rvP C (.pv (.lit (.bool true))) rfl rfl rfl rfl ?_
   refine rvc_nil ?_
   refine Awp.ret ?_
   subst hR
   exact ⟨.inl rfl, rfl⟩
def may (c : Chain) (k : Command) : Bool :=
  (bif (k.kind == 1) then (((drop c k.node).2) == 0) else (bif (k.kind == 2) then (((join c (Member.mk k.node k.site false)).2) == 0) else false))
theorem may_calls (c : Chain) (k : Command) (hn : c.members.nil = true → c.members.D = []) (hl1 : c.members.D.length ≤ 1000000) : PCalls Try.prog 61 [.agg [.pv (.lit (.int .i64 c.epoch)), sS (some c.members.nil) eMember c.members.D], .agg [.pv (.lit (.int .i64 k.kind)), .pv (.lit (.int .i64 k.node)), .pv (.lit (.int .i64 k.site)), .pv (.lit (.int .i64 k.epoch))]] (.pv (.lit (.bool (may c k)))) := by
 generalize hR : may c k = R
 refine PCalls.of_body tabOk Try.func61 rfl rfl rfl rfl rfl mixed fun E hP C hI => ?_
 refine Awp.cons C (fun _ => .pure) (by kernel_rfl) ?_
 refine rvc_un (rexec_prim C (δ := { v := .ptr 2 0, new := [(2, .cells [.pv (.lit (.int .i64 c.epoch)), sS (some c.members.nil) eMember c.members.D])] }) rfl rfl rfl rfl trivial rfl ?_)
 refine rvc_un (rexec_prim C (δ := { v := .ptr 3 0, new := [(3, .cells [.pv (.lit (.int .i64 k.kind)), .pv (.lit (.int .i64 k.node)), .pv (.lit (.int .i64 k.site)), .pv (.lit (.int .i64 k.epoch))])] }) rfl rfl rfl rfl trivial rfl ?_)
 refine rvP C (.pv (.lit (.bool false))) rfl rfl rfl rfl ?_
 refine rvc_nil ?_
 refine Awp.seq ?_
 refine Awp.cons C (fun _ => .pure) (by kernel_rfl) ?_
 refine rvP C (.ptr 3 0) rfl rfl rfl rfl ?_
 refine rvP C (.pv (.lit (.int .i64 k.kind))) rfl rfl rfl rfl ?_
 refine rvc_nil ?_
 refine Awp.block ?_
 refine Awp.cons C (fun _ => .pure) (by kernel_rfl) ?_
 refine rvP C (.pv (.lit (.bool (k.kind == 1)))) rfl rfl rfl rfl ?_
 refine rvP C (.pv (.lit (.bool (k.kind == 1)))) rfl rfl rfl rfl ?_
 refine rvc_nil ?_
 refine Awp.cond (b := (k.kind == 1)) rfl (fun h1 => ?_) (fun h1 => ?_)
 ·
  replace hR := of_true h1 hR
  refine Awp.cons C (fun _ => .pure) (by kernel_rfl) ?_
  refine rvP C (.agg [.pv (.lit (.int .i64 c.epoch)), sS (some c.members.nil) eMember c.members.D]) rfl rfl rfl rfl ?_
  refine rvP C (.ptr 3 1) rfl rfl rfl rfl ?_
  refine rvP C (.pv (.lit (.int .i64 k.node))) rfl rfl rfl rfl ?_
  refine rvc_un (rexec_call hP C rfl rfl rfl (drop_calls c k.node hl1) ?_)
  refine rvP C (.tup [.agg [.pv (.lit (.int .i64 ((drop c k.node).1.epoch))), sS (some (drop c k.node).1.members.nil) eMember ((drop c k.node).1.members.D)], .pv (.lit (.int .i64 ((drop c k.node).2)))]) rfl rfl rfl rfl ?_
  refine rvP C (.agg [.pv (.lit (.int .i64 ((drop c k.node).1.epoch))), sS (some (drop c k.node).1.members.nil) eMember ((drop c k.node).1.members.D)]) rfl rfl rfl rfl ?_
  refine rvP C (.pv (.lit (.int .i64 ((drop c k.node).2)))) rfl rfl rfl rfl ?_
  refine rvc_un (rexec_prim C (δ := { v := .ptr 5 0, new := [(5, .cells [.pv (.lit (.int .i64 0)), sS (some true) eMember []])] }) rfl rfl rfl rfl trivial rfl ?_)
  refine rvc_un (rexec_prim C (δ := { v := .undef, wr := [(5, some (.cells [.pv (.lit (.int .i64 ((drop c k.node).1.epoch))), sS (some (drop c k.node).1.members.nil) eMember ((drop c k.node).1.members.D)]))] }) rfl rfl rfl rfl trivial rfl ?_)
  refine rvP C (.pv (.lit (.int .i64 ((drop c k.node).2)))) rfl rfl rfl rfl ?_
  refine rvc_nil ?_
  refine Awp.cons C (fun _ => .pure) (by kernel_rfl) ?_
  refine rvP C (.pv (.lit (.int .i64 ((drop c k.node).2)))) rfl rfl rfl rfl ?_
  refine rvP C (.pv (.lit (.bool (((drop c k.node).2) == 0)))) rfl rfl rfl rfl ?_
  refine rvP C (.pv (.lit (.bool (((drop c k.node).2) == 0)))) rfl rfl rfl rfl ?_
  refine rvc_nil ?_
  refine Awp.ret ?_
  subst hR
  exact ⟨.inl rfl, rfl⟩
 ·
  replace hR := of_false h1 hR
  refine Awp.cons C (fun _ => .pure) (by kernel_rfl) ?_
  refine rvP C (.pv (.lit (.bool (k.kind == 2)))) rfl rfl rfl rfl ?_
  refine rvP C (.pv (.lit (.bool (k.kind == 2)))) rfl rfl rfl rfl ?_
  refine rvc_nil ?_
  refine Awp.cond (b := (k.kind == 2)) rfl (fun h2 => ?_) (fun h2 => ?_)
  ·
   replace hR := of_true h2 hR
   refine Awp.cons C (fun _ => .pure) (by kernel_rfl) ?_
   refine rvP C (.agg [.pv (.lit (.int .i64 c.epoch)), sS (some c.members.nil) eMember c.members.D]) rfl rfl rfl rfl ?_
   refine rvP C (.ptr 3 1) rfl rfl rfl rfl ?_
   refine rvP C (.pv (.lit (.int .i64 k.node))) rfl rfl rfl rfl ?_
   refine rvP C (.ptr 3 2) rfl rfl rfl rfl ?_
   refine rvP C (.pv (.lit (.int .i64 k.site))) rfl rfl rfl rfl ?_
   refine rvP C (.agg [.pv (.lit (.int .i64 k.node)), .pv (.lit (.int .i64 k.site)), .pv (.lit (.bool false))]) rfl rfl rfl rfl ?_
   refine rvc_un (rexec_call hP C rfl rfl rfl (join_calls c (Member.mk k.node k.site false) hn hl1) ?_)
   refine rvP C (.tup [.agg [.pv (.lit (.int .i64 ((join c (Member.mk k.node k.site false)).1.epoch))), sS (some (join c (Member.mk k.node k.site false)).1.members.nil) eMember ((join c (Member.mk k.node k.site false)).1.members.D)], .pv (.lit (.int .i64 ((join c (Member.mk k.node k.site false)).2)))]) rfl rfl rfl rfl ?_
   refine rvP C (.agg [.pv (.lit (.int .i64 ((join c (Member.mk k.node k.site false)).1.epoch))), sS (some (join c (Member.mk k.node k.site false)).1.members.nil) eMember ((join c (Member.mk k.node k.site false)).1.members.D)]) rfl rfl rfl rfl ?_
   refine rvP C (.pv (.lit (.int .i64 ((join c (Member.mk k.node k.site false)).2)))) rfl rfl rfl rfl ?_
   refine rvc_un (rexec_prim C (δ := { v := .ptr 7 0, new := [(7, .cells [.pv (.lit (.int .i64 0)), sS (some true) eMember []])] }) rfl rfl rfl rfl trivial rfl ?_)
   refine rvc_un (rexec_prim C (δ := { v := .undef, wr := [(7, some (.cells [.pv (.lit (.int .i64 ((join c (Member.mk k.node k.site false)).1.epoch))), sS (some (join c (Member.mk k.node k.site false)).1.members.nil) eMember ((join c (Member.mk k.node k.site false)).1.members.D)]))] }) rfl rfl rfl rfl trivial rfl ?_)
   refine rvP C (.pv (.lit (.int .i64 ((join c (Member.mk k.node k.site false)).2)))) rfl rfl rfl rfl ?_
   refine rvc_nil ?_
   refine Awp.cons C (fun _ => .pure) (by kernel_rfl) ?_
   refine rvP C (.pv (.lit (.int .i64 ((join c (Member.mk k.node k.site false)).2)))) rfl rfl rfl rfl ?_
   refine rvP C (.pv (.lit (.bool (((join c (Member.mk k.node k.site false)).2) == 0)))) rfl rfl rfl rfl ?_
   refine rvP C (.pv (.lit (.bool (((join c (Member.mk k.node k.site false)).2) == 0)))) rfl rfl rfl rfl ?_
   refine rvc_nil ?_
   refine Awp.ret ?_
   subst hR
   exact ⟨.inl rfl, rfl⟩
  ·
   replace hR := of_false h2 hR
   refine Awp.skip ?_
   refine Awp.cons C (fun _ => .pure) (by kernel_rfl) ?_
   refine rvP C (.pv (.lit (.bool false))) rfl rfl rfl rfl ?_
   refine rvc_nil ?_
   refine Awp.ret ?_
   subst hR
   exact ⟨.inl rfl, rfl⟩
end Go.Proofs.Ytaffaalpgpepeaa
/- What is lacking; all of a set. No conditions. -/
namespace Go.Proofs.Ytaffaalpgpepeaa
open Go.Am
def allOf_l0 : Nat → Int → (List Int) → (Sl Int)
  | 0, _, _ => default
  | nn + 1, s1, l => (bif (s1 != 0) then allOf_l0 nn (bitI .and .u64 s1 (IntKind.u64.wrap (s1 - 1))) (l ++ [(lowOf s1)]) else (Sl.mk l.isEmpty l))
def allOf (s : Int) : (Sl Int) :=
  allOf_l0 ((allM s) + 1) s []
theorem allOf_calls (s : Int)  : PCalls Try.prog 36 [.pv (.lit (.int .u64 s))] (sS (some (allOf s).nil) (eI .i64) ((allOf s).D)) := by
 generalize hR : allOf s = R
 refine PCalls.of_body tabOk Try.func36 rfl rfl rfl rfl rfl mixed fun E hP C hI => ?_
 refine Awp.cons C (fun _ => .pure) (by kernel_rfl) ?_
 refine rvP C (sS (some true) (eI .i64) []) rfl rfl rfl rfl ?_
 refine rvc_nil ?_
 refine Awp.cons C (fun _ => .pure) (by kernel_rfl) ?_
 refine rvP C (sS (some true) (eI .i64) []) rfl rfl rfl rfl ?_
 refine rvc_nil ?_
 refine Awp.seq ?_
 refine Awp.block ?_
 refine Awp.forM (σ := Int × ((List Int))) (fun v => [(0, .pv (.lit (.int .u64 v.1))), (3, grow 900 (eI .i64) v.2)]) (fun v => (growH 900 (eI .i64) v.2 ++ ([]))) [900] (fun n v => (allM v.1) ≤ n ∧ allOf_l0 (n + 1) v.1 v.2 = R ∧ (v.2.length + allM v.1 ≤ 65)) ((allM s)) (s, []) ?_ ?_ (fun n_ v h1 => ?_)
 · exact ⟨Nat.le_refl _, hR, (by have := allM_le s; show 0 + allM s ≤ 65; omega)⟩
 · exact ⟨fun b => b, WeakerR.ofL (Ks := [900]) hI ⟨⟨rfl, rfl⟩, ⟨rfl, rfl⟩, trivial⟩ (okH_grow (fun hne => absurd rfl hne) rfl rfl (okH_nil)) rfl⟩
 obtain ⟨s1, l⟩ := v
 obtain ⟨hm_, hR, hV⟩ := h1
 replace hm_ : (allM s1) ≤ n_ := hm_
 replace hV : l.length + allM s1 ≤ 65 := hV
 by_cases h3 : l = []
 ·
  refine Awp.wordsR [(0, .pv (.lit (.int .u64 s1))), (3, sS (some l.isEmpty) (eI .i64) l)] [] [] (WeakerR.ofL (Ks := []) hI ⟨⟨rfl, rfl⟩, ⟨(by exact grow_at_nil (b := 900) (e := (eI .i64)) (l := l) rfl h3), rfl⟩, trivial⟩ (okH_nil) rfl) ?_
  refine Awp.seq ?_
  refine Awp.cons C (fun _ => .pure) (by kernel_rfl) ?_
  refine rvP C (.pv (.lit (.int .u64 s1))) rfl rfl rfl rfl ?_
  refine rvP C (.pv (.lit (.bool (s1 != 0)))) rfl rfl rfl rfl ?_
  refine rvc_nil ?_
  refine Awp.cond (b := (s1 != 0)) rfl (fun h4 => ?_) (fun h4 => ?_)
  ·
   replace hR := of_true h4 hR
   refine Awp.skip ?_
   refine Awp.seq ?_
   refine Awp.block ?_
   refine Awp.region C (fun _ => .pure) (by kernel_rfl) ?_
   refine rvP C (sS (some l.isEmpty) (eI .i64) l) rfl rfl rfl rfl ?_
   refine rvP C (.pv (.lit (.int .u64 s1))) rfl rfl rfl rfl ?_
   refine rvc_un (rexec_call hP C rfl rfl rfl (lowOf_calls s1) ?_)
   refine rvc_un (rexec_buildSliceF C (eI .i64) [(lowOf s1)] rfl rfl rfl rfl rfl rfl rfl (by decide) rfl ?_)
   refine rvc_un (rexec_appendG C rfl rfl rfl rfl rfl rfl rfl rfl (fun _ h => by cases h) rfl (en := (eI .i64)) (l := l) (D := [(lowOf s1)]) rfl rfl h3 (by rw [h3]; rfl) (by simp) (by have := bne_iff_ne.1 h4; first | omega | (simp <;> omega)) (by decide) (nn := (l ++ [(lowOf s1)]).length) (by simp) ?_)
   refine rvP C (.sl 14 0 ((l ++ [(lowOf s1)]).length) 1 false) rfl rfl rfl rfl ?_
   refine rvc_nil ?_
   refine Awp.region C (fun _ => .pure) (by kernel_rfl) ?_
   refine rvP C (.pv (.lit (.int .u64 s1))) rfl rfl rfl rfl ?_
   refine rvP C (.pv (.lit (.int .u64 s1))) rfl rfl rfl rfl ?_
   refine rvP C (.pv (.lit (.int .u64 (IntKind.u64.wrap (s1 - 1))))) rfl rfl rfl rfl ?_
   refine rvP C (.pv (.lit (.int .u64 (bitI .and .u64 s1 (IntKind.u64.wrap (s1 - 1)))))) rfl rfl rfl rfl ?_
   refine rvP C (.pv (.lit (.int .u64 (bitI .and .u64 s1 (IntKind.u64.wrap (s1 - 1)))))) rfl rfl rfl rfl ?_
   refine rvc_nil ?_
   have h5 : (allM (bitI .and .u64 s1 (IntKind.u64.wrap (s1 - 1)))) < (allM s1) := by exact allM_lt (by assumption)
   obtain ⟨nn, rfl⟩ : ∃ nn, n_ = nn + 1 := ⟨n_ - 1, by omega⟩
   refine ⟨nn, ((bitI .and .u64 s1 (IntKind.u64.wrap (s1 - 1))), (l ++ [(lowOf s1)])), by omega, ⟨by show (allM (bitI .and .u64 s1 (IntKind.u64.wrap (s1 - 1)))) ≤ nn; omega, hR, (by show (l ++ [(lowOf s1)]).length + allM (bitI .and .u64 s1 (IntKind.u64.wrap (s1 - 1))) ≤ 65; rw [List.length_append, List.length_singleton]; omega)⟩, ?_⟩
   · exact ⟨fun b => bif b == 900 then 14 else (fun b => b) b, WeakerR.ofL (Ks := [900]) hI ⟨⟨rfl, rfl⟩, ⟨grow_to rfl rfl app_ne rfl rfl, grow_within rfl⟩, trivial⟩ (okH_grow (fun _ => rfl) rfl rfl (okH_nil)) rfl⟩
  ·
   replace hR := of_false h4 hR
   refine Awp.exit ?_
   refine Awp.cons C (fun _ => .pure) (by kernel_rfl) ?_
   refine rvP C (sS (some l.isEmpty) (eI .i64) l) rfl rfl rfl rfl ?_
   refine rvP C (sS (some l.isEmpty) (eI .i64) l) rfl rfl rfl rfl ?_
   refine rvc_nil ?_
   refine Awp.ret ?_
   subst hR
   exact ⟨.inl rfl, rfl⟩
 ·
  refine Awp.wordsR [(0, .pv (.lit (.int .u64 s1))), (3, .sl 900 0 l.length 1 false)] [(900, .cells (encC (eI .i64) l))] [900] (WeakerR.ofL (Ks := [900]) hI ⟨⟨rfl, rfl⟩, ⟨(by exact grow_at_cons (b := 900) (b' := 900) (e := (eI .i64)) (l := l) rfl h3 rfl rfl rfl), rfl⟩, trivial⟩ (okH_list (look_cons h3 rfl) rfl rfl (okH_nil)) rfl) ?_
  refine Awp.seq ?_
  refine Awp.cons C (fun _ => .pure) (by kernel_rfl) ?_
  refine rvP C (.pv (.lit (.int .u64 s1))) rfl rfl rfl rfl ?_
  refine rvP C (.pv (.lit (.bool (s1 != 0)))) rfl rfl rfl rfl ?_
  refine rvc_nil ?_
  refine Awp.cond (b := (s1 != 0)) rfl (fun h6 => ?_) (fun h6 => ?_)
  ·
   replace hR := of_true h6 hR
   refine Awp.skip ?_
   refine Awp.seq ?_
   refine Awp.block ?_
   refine Awp.region C (fun _ => .pure) (by kernel_rfl) ?_
   refine rvP C (.sl 900 0 l.length 1 false) rfl rfl rfl rfl ?_
   refine rvP C (.pv (.lit (.int .u64 s1))) rfl rfl rfl rfl ?_
   refine rvc_un (rexec_call hP C rfl rfl rfl (lowOf_calls s1) ?_)
   refine rvc_un (rexec_buildSliceF C (eI .i64) [(lowOf s1)] rfl rfl rfl rfl rfl rfl rfl (by decide) rfl ?_)
   refine rvc_un (rexec_append C rfl rfl rfl rfl rfl rfl rfl rfl (fun _ h => by cases h) rfl (en := (eI .i64)) (D0 := l) (D := [(lowOf s1)]) rfl rfl rfl rfl (by have := bne_iff_ne.1 h6; first | omega | (simp <;> omega)) (by decide) (nn := (l ++ [(lowOf s1)]).length) (by simp) ?_)
   refine rvP C (.sl 14 0 ((l ++ [(lowOf s1)]).length) 1 false) rfl rfl rfl rfl ?_
   refine rvc_nil ?_
   refine Awp.region C (fun _ => .pure) (by kernel_rfl) ?_
   refine rvP C (.pv (.lit (.int .u64 s1))) rfl rfl rfl rfl ?_
   refine rvP C (.pv (.lit (.int .u64 s1))) rfl rfl rfl rfl ?_
   refine rvP C (.pv (.lit (.int .u64 (IntKind.u64.wrap (s1 - 1))))) rfl rfl rfl rfl ?_
   refine rvP C (.pv (.lit (.int .u64 (bitI .and .u64 s1 (IntKind.u64.wrap (s1 - 1)))))) rfl rfl rfl rfl ?_
   refine rvP C (.pv (.lit (.int .u64 (bitI .and .u64 s1 (IntKind.u64.wrap (s1 - 1)))))) rfl rfl rfl rfl ?_
   refine rvc_nil ?_
   have h7 : (allM (bitI .and .u64 s1 (IntKind.u64.wrap (s1 - 1)))) < (allM s1) := by exact allM_lt (by assumption)
   obtain ⟨nn, rfl⟩ : ∃ nn, n_ = nn + 1 := ⟨n_ - 1, by omega⟩
   refine ⟨nn, ((bitI .and .u64 s1 (IntKind.u64.wrap (s1 - 1))), (l ++ [(lowOf s1)])), by omega, ⟨by show (allM (bitI .and .u64 s1 (IntKind.u64.wrap (s1 - 1)))) ≤ nn; omega, hR, (by show (l ++ [(lowOf s1)]).length + allM (bitI .and .u64 s1 (IntKind.u64.wrap (s1 - 1))) ≤ 65; rw [List.length_append, List.length_singleton]; omega)⟩, ?_⟩
   · exact ⟨fun b => bif b == 900 then 14 else (fun b => b) b, WeakerR.ofL (Ks := [900]) hI ⟨⟨rfl, rfl⟩, ⟨grow_to rfl rfl app_ne rfl rfl, grow_within rfl⟩, trivial⟩ (okH_grow (fun _ => rfl) rfl rfl (okH_nil)) rfl⟩
  ·
   replace hR := of_false h6 hR
   refine Awp.exit ?_
   refine Awp.cons C (fun _ => .pure) (by kernel_rfl) ?_
   refine rvP C (.sl 900 0 l.length 1 false) rfl rfl rfl rfl ?_
   refine rvP C (.sl 900 0 l.length 1 false) rfl rfl rfl rfl ?_
   refine rvc_nil ?_
   refine Awp.freezeW 900 (encL (eI .i64) l) ?_ [(2, sS (some l.isEmpty) (eI .i64) l)] [] ?_ ?_ ?_
   · rfl
   · exact ⟨⟨_, rfl, .inl (.inr ⟨_, _, _, rfl, by rw [ne_isEmpty h3]; rfl⟩)⟩, trivial⟩
   · exact trivial
   refine Awp.ret ?_
   subst hR
   exact ⟨.inl rfl, rfl⟩
end Go.Proofs.Ytaffaalpgpepeaa
/- Who is in a set, from the least on; chains in which nodes are ready: what the walks need. No conditions. -/
namespace Go.Proofs.Ytaffaalpgpepeaa
open Go.Am
theorem shr_nn (x : Int) : 0 ≤ IntKind.i64.wrap (shrI .u64 (IntKind.u64.wrap x) 56) := by
  have h1 : 0 ≤ IntKind.u64.wrap x ∧ IntKind.u64.wrap x < 18446744073709551616 := by rw [wrap64]; omega
  revert h1
  generalize IntKind.u64.wrap x = y
  intro h1
  obtain ⟨a, rfl⟩ : ∃ a : Nat, y = (a : Int) := ⟨y.toNat, by omega⟩
  have h := shr64 (a := a) (n := 56) (by decide)
  rw [show ((56 : Nat) : Int) = (56 : Int) from rfl] at h
  have h2 : a >>> 56 ≤ a := by rw [Nat.shiftRight_eq_div_pow]; exact Nat.div_le_self ..
  have h3 : a >>> 56 < 256 := by rw [Nat.shiftRight_eq_div_pow]; omega
  rw [h, wrapI _ (by omega)]
  omega
theorem mLen_nn (s : Int) : 0 ≤ mLen s := shr_nn _
theorem lowOf_nn {s : Int} (h : (s != 0) = true) : 0 ≤ lowOf s := by
  have : (s == 0) = false := by simpa using h
  unfold lowOf
  rw [this, cond_false]; exact mLen_nn _
theorem allOf_l0_nn : ∀ (n : Nat) (s : Int) (l : List Int), (∀ x ∈ l, 0 ≤ x) → ∀ x ∈ (allOf_l0 n s l).D, 0 ≤ x
  | 0, _, _, _, x, hx => by cases hx
  | n + 1, s, l, h, x, hx => by
    unfold allOf_l0 at hx
    cases hs : s != 0
    · rw [hs] at hx; exact h x hx
    · rw [hs] at hx
      refine allOf_l0_nn n _ _ (fun y hy => ?_) x hx
      rcases List.mem_append.1 hy with hy | hy
      · exact h y hy
      · rw [List.mem_singleton.1 hy]; exact lowOf_nn hs
theorem allOf_nn (s x : Int) (h : x ∈ (allOf s).D) : 0 ≤ x := allOf_l0_nn _ _ _ (fun _ h => (by cases h)) x h
theorem allOf_l0_len : ∀ (n : Nat) (s : Int) (l : List Int), l.length + allM s ≤ 65 → (allOf_l0 n s l).D.length ≤ 65
  | 0, _, _, _ => Nat.zero_le _
  | n + 1, s, l, h => by
    unfold allOf_l0
    cases hs : s != 0
    · show l.length ≤ 65; omega
    · have := allM_lt hs
      exact allOf_l0_len n _ _ (by rw [List.length_append, List.length_singleton]; omega)
theorem allOf_len (s : Int) : (allOf s).D.length ≤ 65 := allOf_l0_len _ _ _ (by have := allM_le s; show 0 + allM s ≤ 65; omega)
theorem ready_hn (c : Chain) (n : Int) : (ready c n).1.members.nil = true → (ready c n).1.members.D = [] := by
  unfold ready
  cases check c != 0
  case true => exact fun _ => rfl
  cases decide (placeIn c n < 0)
  case true => exact fun _ => rfl
  cases !(c.members.D[(placeIn c n).toNat]!.fresh)
  case true => exact fun _ => rfl
  intro h; cases h
theorem ready_len (c : Chain) (n : Int) : (ready c n).1.members.D.length ≤ c.members.D.length := by
  unfold ready
  cases check c != 0
  case true => exact Nat.zero_le _
  cases decide (placeIn c n < 0)
  case true => exact Nat.zero_le _
  cases !(c.members.D[(placeIn c n).toNat]!.fresh)
  case true => exact Nat.zero_le _
  show (List.set _ _ _).length ≤ _
  rw [List.length_set]; omega
end Go.Proofs.Ytaffaalpgpepeaa
/- The next command. No conditions. -/
namespace Go.Proofs.Ytaffaalpgpepeaa
open Go.Am
structure Fleet where
  alive : Int
  home : (Nat → Int)
  wish : (Nat → Int)
  deriving Inhabited
def spare_l0 (f : Fleet) (site : Int) : List Int → Nat → Int × Bool
  | [], _ => (0, false)
  | x :: xs, i => (bif (decide (x < 6)) then (bif ((f.home x.toNat) == site) then (x, true) else spare_l0 f site xs (i + 1) ) else spare_l0 f site xs (i + 1) )
def spare (f : Fleet) (c : Chain) (site : Int) : Int × Bool :=
  spare_l0 f site (allOf (mBut f.alive (nodes c))).D 0
theorem spare_calls (f : Fleet) (c : Chain) (site : Int) (hl1 : c.members.D.length ≤ 1000000) : PCalls Try.prog 62 [.agg [.pv (.lit (.int .u64 f.alive)), .pv (.lit (.int .i64 (f.home 0))), .pv (.lit (.int .i64 (f.home 1))), .pv (.lit (.int .i64 (f.home 2))), .pv (.lit (.int .i64 (f.home 3))), .pv (.lit (.int .i64 (f.home 4))), .pv (.lit (.int .i64 (f.home 5))), .pv (.lit (.int .i64 (f.wish 0))), .pv (.lit (.int .i64 (f.wish 1))), .pv (.lit (.int .i64 (f.wish 2)))], .agg [.pv (.lit (.int .i64 c.epoch)), sS (some c.members.nil) eMember c.members.D], .pv (.lit (.int .i64 site))] (.tup [.pv (.lit (.int .i64 ((spare f c site).1))), .pv (.lit (.bool ((spare f c site).2)))]) := by
 generalize hR : spare f c site = R
 refine PCalls.of_body tabOk Try.func62 rfl rfl rfl rfl rfl mixed fun E hP C hI => ?_
 refine Awp.cons C (fun _ => .pure) (by kernel_rfl) ?_
 refine rvc_un (rexec_prim C (δ := { v := .ptr 3 0, new := [(3, .cells [.pv (.lit (.int .u64 f.alive)), .pv (.lit (.int .i64 (f.home 0))), .pv (.lit (.int .i64 (f.home 1))), .pv (.lit (.int .i64 (f.home 2))), .pv (.lit (.int .i64 (f.home 3))), .pv (.lit (.int .i64 (f.home 4))), .pv (.lit (.int .i64 (f.home 5))), .pv (.lit (.int .i64 (f.wish 0))), .pv (.lit (.int .i64 (f.wish 1))), .pv (.lit (.int .i64 (f.wish 2)))])] }) rfl rfl rfl rfl trivial rfl ?_)
 refine rvc_un (rexec_prim C (δ := { v := .ptr 4 0, new := [(4, .cells [.pv (.lit (.int .i64 c.epoch)), sS (some c.members.nil) eMember c.members.D])] }) rfl rfl rfl rfl trivial rfl ?_)
 refine rvP C (.pv (.lit (.int .i64 0))) rfl rfl rfl rfl ?_
 refine rvP C (.pv (.lit (.bool false))) rfl rfl rfl rfl ?_
 refine rvc_nil ?_
 refine Awp.seq ?_
 refine Awp.cons C (fun _ => .pure) (by kernel_rfl) ?_
 refine rvP C (.ptr 3 0) rfl rfl rfl rfl ?_
 refine rvP C (.pv (.lit (.int .u64 f.alive))) rfl rfl rfl rfl ?_
 refine rvP C (.agg [.pv (.lit (.int .i64 c.epoch)), sS (some c.members.nil) eMember c.members.D]) rfl rfl rfl rfl ?_
 refine rvc_un (rexec_call hP C rfl rfl rfl (nodes_calls c (Nat.le_trans hl1 (by decide))) ?_)
 refine rvc_un (rexec_call hP C rfl rfl rfl (mBut_calls f.alive (nodes c)) ?_)
 obtain ⟨al, hq_al⟩ : ∃ q_, q_ = (allOf (mBut f.alive (nodes c))) := ⟨_, rfl⟩
 have hc_al := (allOf_calls (mBut f.alive (nodes c)))
 first | rw [← hq_al] at hR hc_al | (unfold spare at hR; rw [← hq_al] at hR hc_al)
 have hf0_al := allOf_nn (mBut f.alive (nodes c))
 rw [← hq_al] at hf0_al
 have hf1_al := allOf_len (mBut f.alive (nodes c))
 rw [← hq_al] at hf1_al
 refine rvc_un (rexec_call hP C rfl rfl rfl hc_al ?_)
 refine rvP C (.pv (.lit (.int .i64 (al.D.length : Int)))) rfl rfl rfl rfl ?_
 refine rvP C (.pv (.lit (.int .i64 0))) rfl rfl rfl rfl ?_
 refine rvc_nil ?_
 refine Awp.block ?_
 refine Awp.forR (σ := Unit) (al.D.length) (fun i _v => [(2, .pv (.lit (.int .i64 site))), (3, .ptr 3 0), (15, sS (some al.nil) (eI .i64) al.D), (16, .pv (.lit (.int .i64 (al.D.length : Int)))), (17, .pv (.lit (.int .i64 (i : Int))))]) (fun i _v => [(3, .cells [.pv (.lit (.int .u64 f.alive)), .pv (.lit (.int .i64 (f.home 0))), .pv (.lit (.int .i64 (f.home 1))), .pv (.lit (.int .i64 (f.home 2))), .pv (.lit (.int .i64 (f.home 3))), .pv (.lit (.int .i64 (f.home 4))), .pv (.lit (.int .i64 (f.home 5))), .pv (.lit (.int .i64 (f.wish 0))), .pv (.lit (.int .i64 (f.wish 1))), .pv (.lit (.int .i64 (f.wish 2)))])]) [3] (fun i _v => spare_l0 f site (al.D.drop i) i  = R) () ?_ ?_ (fun i _v h1 hR => ?_)
 · exact hR
 · exact ⟨fun b => b, WeakerR.ofL (Ks := [3]) hI ⟨⟨rfl, rfl⟩, ⟨rfl, rfl⟩, ⟨rfl, rfl⟩, ⟨rfl, rfl⟩, ⟨rfl, rfl⟩, trivial⟩ (okH_cons rfl rfl rfl rfl (okH_nil)) rfl⟩
 refine Awp.cons C (fun _ => .pure) (by kernel_rfl) ?_
 refine rvP C (.pv (.lit (.bool (decide ((i : Int) < (al.D.length : Int)))))) rfl rfl rfl rfl ?_
 refine rvc_nil ?_
 refine Awp.seq ?_
 refine Awp.cond (b := (decide ((i : Int) < (al.D.length : Int)))) rfl (fun h2 => ?_) (fun h2 => ?_)
 ·
  have h3 : i < al.D.length := by have := of_decide_eq_true h2; omega
  obtain ⟨x, h4⟩ := getX h3
  rw [drop_at h4] at hR
  refine Awp.skip ?_
  refine Awp.seq ?_
  refine Awp.block ?_
  refine Awp.cons C (fun _ => .pure) (by kernel_rfl) ?_
  refine rvc_un (rexec_idxS C rfl rfl rfl rfl rfl rfl x (Int.natCast_nonneg _) h4 ?_)
  refine rvP C (.pv (.lit (.int .i64 x))) rfl rfl rfl rfl ?_
  refine rvP C (.pv (.lit (.int .i64 x))) rfl rfl rfl rfl ?_
  refine rvc_nil ?_
  refine Awp.cons C (fun _ => .pure) (by kernel_rfl) ?_
  refine rvP C (.pv (.lit (.int .i64 x))) rfl rfl rfl rfl ?_
  refine rvP C (.pv (.lit (.bool (decide (x < 6))))) rfl rfl rfl rfl ?_
  refine rvP C (.pv (.lit (.bool (decide (x < 6))))) rfl rfl rfl rfl ?_
  refine rvc_case 23 (decide (x < 6)) rfl (fun h5 => ?_) (fun h5 => ?_)
  ·
   replace hR := of_true h5 hR
   refine rvc_open rfl rfl rfl (rexec_prim C (δ := { v := .pv (.lit (.int .i64 x)) }) rfl rfl rfl rfl trivial rfl ?_)
   refine rvc_open rfl rfl rfl (rexec_prim C (δ := { v := .ptr 3 1 }) rfl rfl rfl rfl trivial rfl ?_)
   refine rvc_open rfl rfl rfl (rexec_prim C (δ := { v := .ptr 3 (1 + x.toNat * 1) }) rfl rfl rfl rfl ⟨(by have h0 := hf0_al x (List.mem_of_getElem? (by assumption)); have := of_decide_eq_true ‹decide (x < 6) = true›; omega), (by have h0 := hf0_al x (List.mem_of_getElem? (by assumption)); have := of_decide_eq_true ‹decide (x < 6) = true›; omega)⟩ rfl ?_)
   refine rvc_open rfl rfl rfl (rexec_loadA C [.pv (.lit (.int .u64 f.alive))] [.pv (.lit (.int .i64 (f.wish 0))), .pv (.lit (.int .i64 (f.wish 1))), .pv (.lit (.int .i64 (f.wish 2)))] (fun j => .pv (.lit (.int .i64 (f.home j)))) 6 x.toNat (.pv (.lit (.int .i64 (f.home x.toNat)))) rfl rfl rfl rfl rfl rfl rfl (by have h0 := hf0_al x (List.mem_of_getElem? (by assumption)); have := of_decide_eq_true ‹decide (x < 6) = true›; omega) rfl ?_)
   refine rvc_open rfl rfl rfl (rexec_prim C (δ := { v := .pv (.lit (.int .i64 site)) }) rfl rfl rfl rfl trivial rfl ?_)
   refine rvc_open rfl rfl rfl (rexec_prim C (δ := { v := .pv (.lit (.bool ((f.home x.toNat) == site))) }) rfl rfl rfl rfl trivial rfl ?_)
   refine rvP C (.pv (.lit (.bool ((f.home x.toNat) == site)))) rfl rfl rfl rfl ?_
   refine rvc_nil ?_
   refine Awp.cond (b := ((f.home x.toNat) == site)) rfl (fun h6 => ?_) (fun h6 => ?_)
   ·
    replace hR := of_true h6 hR
    refine Awp.cons C (fun _ => .pure) (by kernel_rfl) ?_
    refine rvP C (.pv (.lit (.int .i64 x))) rfl rfl rfl rfl ?_
    refine rvP C (.pv (.lit (.int .i64 x))) rfl rfl rfl rfl ?_
    refine rvP C (.pv (.lit (.bool true))) rfl rfl rfl rfl ?_
    refine rvc_nil ?_
    refine Awp.ret ?_
    subst hR
    exact ⟨.inl rfl, rfl⟩
   ·
    replace hR := of_false h6 hR
    refine Awp.skip ?_
    refine Awp.region C (fun _ => .pure) (by kernel_rfl) ?_
    refine rvP C (.pv (.lit (.int .i64 (IntKind.i64.wrap ((i : Int) + 1))))) rfl rfl rfl rfl ?_
    refine rvP C (.pv (.lit (.int .i64 (IntKind.i64.wrap ((i : Int) + 1))))) rfl rfl rfl rfl ?_
    refine rvc_nil ?_
    refine ⟨h3, (), ?_, ?_⟩
    · exact hR
    · exact ⟨fun b => b, WeakerR.ofL (Ks := [3]) hI ⟨⟨rfl, rfl⟩, ⟨rfl, rfl⟩, ⟨rfl, rfl⟩, ⟨rfl, rfl⟩, ⟨lit_cast (wrap_i64 (by omega) (by omega)), rfl⟩, trivial⟩ (okH_cons rfl rfl rfl rfl (okH_nil)) rfl⟩
  ·
   replace hR := of_false h5 hR
   refine rvc_shut rfl rfl rfl rfl ?_
   refine rvc_shut rfl rfl rfl rfl ?_
   refine rvc_shut rfl rfl rfl rfl ?_
   refine rvc_shut rfl rfl rfl rfl ?_
   refine rvc_shut rfl rfl rfl rfl ?_
   refine rvc_shut rfl rfl rfl rfl ?_
   refine rvP C (.pv (.lit (.bool false))) rfl rfl rfl rfl ?_
   refine rvc_nil ?_
   refine Awp.condF (b := false) rfl rfl ?_
   refine Awp.skip ?_
   refine Awp.region C (fun _ => .pure) (by kernel_rfl) ?_
   refine rvP C (.pv (.lit (.int .i64 (IntKind.i64.wrap ((i : Int) + 1))))) rfl rfl rfl rfl ?_
   refine rvP C (.pv (.lit (.int .i64 (IntKind.i64.wrap ((i : Int) + 1))))) rfl rfl rfl rfl ?_
   refine rvc_nil ?_
   refine ⟨h3, (), ?_, ?_⟩
   · exact hR
   · exact ⟨fun b => b, WeakerR.ofL (Ks := [3]) hI ⟨⟨rfl, rfl⟩, ⟨rfl, rfl⟩, ⟨rfl, rfl⟩, ⟨rfl, rfl⟩, ⟨lit_cast (wrap_i64 (by omega) (by omega)), rfl⟩, trivial⟩ (okH_cons rfl rfl rfl rfl (okH_nil)) rfl⟩
 ·
  have h3 : ¬ i < al.D.length := by have := of_decide_eq_false h2; omega
  rw [drop_end h3] at hR
  refine Awp.exit ?_
  refine Awp.cons C (fun _ => .pure) (by kernel_rfl) ?_
  refine rvP C (.pv (.lit (.int .i64 0))) rfl rfl rfl rfl ?_
  refine rvP C (.pv (.lit (.bool false))) rfl rfl rfl rfl ?_
  refine rvc_nil ?_
  refine Awp.ret ?_
  subst hR
  exact ⟨.inl rfl, rfl⟩
def deadOf_l0 (f : Fleet) (c : Chain) : List Member → Nat → Command × Bool
  | [], _ => ((Command.mk 0 0 0 0), false)
  | x :: xs, i => (bif (!(mHas f.alive x.node)) then (bif (may c (Command.mk 1 x.node 0 c.epoch)) then ((Command.mk 1 x.node 0 c.epoch), true) else deadOf_l0 f c xs (i + 1) ) else deadOf_l0 f c xs (i + 1) )
def deadOf (f : Fleet) (c : Chain) : Command × Bool :=
  deadOf_l0 f c c.members.D 0
theorem deadOf_calls (f : Fleet) (c : Chain) (hn : c.members.nil = true → c.members.D = []) (hl1 : c.members.D.length ≤ 1000000) : PCalls Try.prog 38 [.agg [.pv (.lit (.int .u64 f.alive)), .pv (.lit (.int .i64 (f.home 0))), .pv (.lit (.int .i64 (f.home 1))), .pv (.lit (.int .i64 (f.home 2))), .pv (.lit (.int .i64 (f.home 3))), .pv (.lit (.int .i64 (f.home 4))), .pv (.lit (.int .i64 (f.home 5))), .pv (.lit (.int .i64 (f.wish 0))), .pv (.lit (.int .i64 (f.wish 1))), .pv (.lit (.int .i64 (f.wish 2)))], .agg [.pv (.lit (.int .i64 c.epoch)), sS (some c.members.nil) eMember c.members.D]] (.tup [.agg [.pv (.lit (.int .i64 ((deadOf f c).1.kind))), .pv (.lit (.int .i64 ((deadOf f c).1.node))), .pv (.lit (.int .i64 ((deadOf f c).1.site))), .pv (.lit (.int .i64 ((deadOf f c).1.epoch)))], .pv (.lit (.bool ((deadOf f c).2)))]) := by
 generalize hR : deadOf f c = R
 refine PCalls.of_body tabOk Try.func38 rfl rfl rfl rfl rfl mixed fun E hP C hI => ?_
 refine Awp.cons C (fun _ => .pure) (by kernel_rfl) ?_
 refine rvc_un (rexec_prim C (δ := { v := .ptr 2 0, new := [(2, .cells [.pv (.lit (.int .u64 f.alive)), .pv (.lit (.int .i64 (f.home 0))), .pv (.lit (.int .i64 (f.home 1))), .pv (.lit (.int .i64 (f.home 2))), .pv (.lit (.int .i64 (f.home 3))), .pv (.lit (.int .i64 (f.home 4))), .pv (.lit (.int .i64 (f.home 5))), .pv (.lit (.int .i64 (f.wish 0))), .pv (.lit (.int .i64 (f.wish 1))), .pv (.lit (.int .i64 (f.wish 2)))])] }) rfl rfl rfl rfl trivial rfl ?_)
 refine rvc_un (rexec_prim C (δ := { v := .ptr 3 0, new := [(3, .cells [.pv (.lit (.int .i64 c.epoch)), sS (some c.members.nil) eMember c.members.D])] }) rfl rfl rfl rfl trivial rfl ?_)
 refine rvc_un (rexec_prim C (δ := { v := .ptr 4 0, new := [(4, .cells [.pv (.lit (.int .i64 0)), .pv (.lit (.int .i64 0)), .pv (.lit (.int .i64 0)), .pv (.lit (.int .i64 0))])] }) rfl rfl rfl rfl trivial rfl ?_)
 refine rvP C (.pv (.lit (.bool false))) rfl rfl rfl rfl ?_
 refine rvc_nil ?_
 refine Awp.seq ?_
 refine Awp.cons C (fun _ => .pure) (by kernel_rfl) ?_
 refine rvP C (.ptr 3 1) rfl rfl rfl rfl ?_
 refine rvP C (sS (some c.members.nil) eMember c.members.D) rfl rfl rfl rfl ?_
 refine rvP C (.pv (.lit (.int .i64 (c.members.D.length : Int)))) rfl rfl rfl rfl ?_
 refine rvP C (.pv (.lit (.int .i64 0))) rfl rfl rfl rfl ?_
 refine rvc_nil ?_
 refine Awp.block ?_
 refine Awp.forR (σ := Unit) (c.members.D.length) (fun i _v => [(2, .ptr 2 0), (3, .ptr 3 0), (4, .ptr 4 0), (10, sS (some c.members.nil) eMember c.members.D), (11, .pv (.lit (.int .i64 (c.members.D.length : Int)))), (12, .pv (.lit (.int .i64 (i : Int))))]) (fun i _v => [(2, .cells [.pv (.lit (.int .u64 f.alive)), .pv (.lit (.int .i64 (f.home 0))), .pv (.lit (.int .i64 (f.home 1))), .pv (.lit (.int .i64 (f.home 2))), .pv (.lit (.int .i64 (f.home 3))), .pv (.lit (.int .i64 (f.home 4))), .pv (.lit (.int .i64 (f.home 5))), .pv (.lit (.int .i64 (f.wish 0))), .pv (.lit (.int .i64 (f.wish 1))), .pv (.lit (.int .i64 (f.wish 2)))]), (3, .cells [.pv (.lit (.int .i64 c.epoch)), sS (some c.members.nil) eMember c.members.D]), (4, .cells [.pv (.lit (.int .i64 0)), .pv (.lit (.int .i64 0)), .pv (.lit (.int .i64 0)), .pv (.lit (.int .i64 0))])]) [2, 3, 4] (fun i _v => deadOf_l0 f c (c.members.D.drop i) i  = R) () ?_ ?_ (fun i _v h1 hR => ?_)
 · exact hR
 · exact ⟨fun b => b, WeakerR.ofL (Ks := [2, 3, 4]) hI ⟨⟨rfl, rfl⟩, ⟨rfl, rfl⟩, ⟨rfl, rfl⟩, ⟨rfl, rfl⟩, ⟨rfl, rfl⟩, ⟨rfl, rfl⟩, trivial⟩ (okH_cons rfl rfl rfl rfl (okH_cons rfl rfl rfl rfl (okH_cons rfl rfl rfl rfl (okH_nil)))) rfl⟩
 refine Awp.cons C (fun _ => .pure) (by kernel_rfl) ?_
 refine rvP C (.pv (.lit (.bool (decide ((i : Int) < (c.members.D.length : Int)))))) rfl rfl rfl rfl ?_
 refine rvc_nil ?_
 refine Awp.seq ?_
 refine Awp.cond (b := (decide ((i : Int) < (c.members.D.length : Int)))) rfl (fun h2 => ?_) (fun h2 => ?_)
 ·
  have h3 : i < c.members.D.length := by have := of_decide_eq_true h2; omega
  obtain ⟨x, h4⟩ := getX h3
  rw [drop_at h4] at hR
  refine Awp.skip ?_
  refine Awp.seq ?_
  refine Awp.block ?_
  refine Awp.cons C (fun _ => .pure) (by kernel_rfl) ?_
  refine rvc_un (rexec_idxS C rfl rfl rfl rfl rfl rfl x (Int.natCast_nonneg _) h4 ?_)
  refine rvP C (.agg [.pv (.lit (.int .i64 x.node)), .pv (.lit (.int .i64 x.site)), .pv (.lit (.bool x.fresh))]) rfl rfl rfl rfl ?_
  refine rvc_un (rexec_prim C (δ := { v := .ptr 7 0, new := [(7, .cells [.pv (.lit (.int .i64 0)), .pv (.lit (.int .i64 0)), .pv (.lit (.bool false))])] }) rfl rfl rfl rfl trivial rfl ?_)
  refine rvc_un (rexec_prim C (δ := { v := .undef, wr := [(7, some (.cells [.pv (.lit (.int .i64 x.node)), .pv (.lit (.int .i64 x.site)), .pv (.lit (.bool x.fresh))]))] }) rfl rfl rfl rfl trivial rfl ?_)
  refine rvc_nil ?_
  refine Awp.cons C (fun _ => .pure) (by kernel_rfl) ?_
  refine rvP C (.ptr 7 0) rfl rfl rfl rfl ?_
  refine rvP C (.pv (.lit (.int .i64 x.node))) rfl rfl rfl rfl ?_
  refine rvP C (.ptr 3 0) rfl rfl rfl rfl ?_
  refine rvP C (.pv (.lit (.int .i64 c.epoch))) rfl rfl rfl rfl ?_
  refine rvP C (.agg [.pv (.lit (.int .i64 1)), .pv (.lit (.int .i64 x.node)), .pv (.lit (.int .i64 0)), .pv (.lit (.int .i64 c.epoch))]) rfl rfl rfl rfl ?_
  refine rvc_un (rexec_prim C (δ := { v := .ptr 8 0, new := [(8, .cells [.pv (.lit (.int .i64 0)), .pv (.lit (.int .i64 0)), .pv (.lit (.int .i64 0)), .pv (.lit (.int .i64 0))])] }) rfl rfl rfl rfl trivial rfl ?_)
  refine rvc_un (rexec_prim C (δ := { v := .undef, wr := [(8, some (.cells [.pv (.lit (.int .i64 1)), .pv (.lit (.int .i64 x.node)), .pv (.lit (.int .i64 0)), .pv (.lit (.int .i64 c.epoch))]))] }) rfl rfl rfl rfl trivial rfl ?_)
  refine rvc_nil ?_
  refine Awp.cons C (fun _ => .pure) (by kernel_rfl) ?_
  refine rvP C (.ptr 2 0) rfl rfl rfl rfl ?_
  refine rvP C (.pv (.lit (.int .u64 f.alive))) rfl rfl rfl rfl ?_
  refine rvP C (.ptr 7 0) rfl rfl rfl rfl ?_
  refine rvP C (.pv (.lit (.int .i64 x.node))) rfl rfl rfl rfl ?_
  refine rvc_un (rexec_call hP C rfl rfl rfl (mHas_calls f.alive x.node) ?_)
  refine rvP C (.pv (.lit (.bool (!(mHas f.alive x.node))))) rfl rfl rfl rfl ?_
  refine rvP C (.pv (.lit (.bool (!(mHas f.alive x.node))))) rfl rfl rfl rfl ?_
  refine rvc_case 27 (!(mHas f.alive x.node)) rfl (fun h5 => ?_) (fun h5 => ?_)
  ·
   replace hR := of_true h5 hR
   refine rvc_open rfl rfl rfl (rexec_prim C (δ := { v := .agg [.pv (.lit (.int .i64 c.epoch)), sS (some c.members.nil) eMember c.members.D] }) rfl rfl rfl rfl trivial rfl ?_)
   refine rvc_open rfl rfl rfl (rexec_prim C (δ := { v := .agg [.pv (.lit (.int .i64 1)), .pv (.lit (.int .i64 x.node)), .pv (.lit (.int .i64 0)), .pv (.lit (.int .i64 c.epoch))] }) rfl rfl rfl rfl trivial rfl ?_)
   refine rvc_open rfl rfl rfl (rexec_call hP C rfl rfl rfl (may_calls c (Command.mk 1 x.node 0 c.epoch) hn hl1) ?_)
   refine rvP C (.pv (.lit (.bool (may c (Command.mk 1 x.node 0 c.epoch))))) rfl rfl rfl rfl ?_
   refine rvc_nil ?_
   refine Awp.cond (b := (may c (Command.mk 1 x.node 0 c.epoch))) rfl (fun h6 => ?_) (fun h6 => ?_)
   ·
    replace hR := of_true h6 hR
    refine Awp.cons C (fun _ => .pure) (by kernel_rfl) ?_
    refine rvP C (.agg [.pv (.lit (.int .i64 1)), .pv (.lit (.int .i64 x.node)), .pv (.lit (.int .i64 0)), .pv (.lit (.int .i64 c.epoch))]) rfl rfl rfl rfl ?_
    refine rvc_un (rexec_prim C (δ := { v := .undef, wr := [(4, some (.cells [.pv (.lit (.int .i64 1)), .pv (.lit (.int .i64 x.node)), .pv (.lit (.int .i64 0)), .pv (.lit (.int .i64 c.epoch))]))] }) rfl rfl rfl rfl trivial rfl ?_)
    refine rvP C (.pv (.lit (.bool true))) rfl rfl rfl rfl ?_
    refine rvc_nil ?_
    refine Awp.ret ?_
    subst hR
    exact ⟨.inl rfl, rfl⟩
   ·
    replace hR := of_false h6 hR
    refine Awp.skip ?_
    refine Awp.region C (fun _ => .pure) (by kernel_rfl) ?_
    refine rvP C (.pv (.lit (.int .i64 (IntKind.i64.wrap ((i : Int) + 1))))) rfl rfl rfl rfl ?_
    refine rvP C (.pv (.lit (.int .i64 (IntKind.i64.wrap ((i : Int) + 1))))) rfl rfl rfl rfl ?_
    refine rvc_nil ?_
    refine ⟨h3, (), ?_, ?_⟩
    · exact hR
    · exact ⟨fun b => b, WeakerR.ofL (Ks := [2, 3, 4]) hI ⟨⟨rfl, rfl⟩, ⟨rfl, rfl⟩, ⟨rfl, rfl⟩, ⟨rfl, rfl⟩, ⟨rfl, rfl⟩, ⟨lit_cast (wrap_i64 (by omega) (by omega)), rfl⟩, trivial⟩ (okH_cons rfl rfl rfl rfl (okH_cons rfl rfl rfl rfl (okH_cons rfl rfl rfl rfl (okH_nil)))) rfl⟩
  ·
   replace hR := of_false h5 hR
   refine rvc_shut rfl rfl rfl rfl ?_
   refine rvc_shut rfl rfl rfl rfl ?_
   refine rvc_shut rfl rfl rfl rfl ?_
   refine rvP C (.pv (.lit (.bool false))) rfl rfl rfl rfl ?_
   refine rvc_nil ?_
   refine Awp.condF (b := false) rfl rfl ?_
   refine Awp.skip ?_
   refine Awp.region C (fun _ => .pure) (by kernel_rfl) ?_
   refine rvP C (.pv (.lit (.int .i64 (IntKind.i64.wrap ((i : Int) + 1))))) rfl rfl rfl rfl ?_
   refine rvP C (.pv (.lit (.int .i64 (IntKind.i64.wrap ((i : Int) + 1))))) rfl rfl rfl rfl ?_
   refine rvc_nil ?_
   refine ⟨h3, (), ?_, ?_⟩
   · exact hR
   · exact ⟨fun b => b, WeakerR.ofL (Ks := [2, 3, 4]) hI ⟨⟨rfl, rfl⟩, ⟨rfl, rfl⟩, ⟨rfl, rfl⟩, ⟨rfl, rfl⟩, ⟨rfl, rfl⟩, ⟨lit_cast (wrap_i64 (by omega) (by omega)), rfl⟩, trivial⟩ (okH_cons rfl rfl rfl rfl (okH_cons rfl rfl rfl rfl (okH_cons rfl rfl rfl rfl (okH_nil)))) rfl⟩
 ·
  have h3 : ¬ i < c.members.D.length := by have := of_decide_eq_false h2; omega
  rw [drop_end h3] at hR
  refine Awp.exit ?_
  refine Awp.cons C (fun _ => .pure) (by kernel_rfl) ?_
  refine rvP C (.agg [.pv (.lit (.int .i64 0)), .pv (.lit (.int .i64 0)), .pv (.lit (.int .i64 0)), .pv (.lit (.int .i64 0))]) rfl rfl rfl rfl ?_
  refine rvc_un (rexec_prim C (δ := { v := .undef, wr := [(4, some (.cells [.pv (.lit (.int .i64 0)), .pv (.lit (.int .i64 0)), .pv (.lit (.int .i64 0)), .pv (.lit (.int .i64 0))]))] }) rfl rfl rfl rfl trivial rfl ?_)
  refine rvP C (.pv (.lit (.bool false))) rfl rfl rfl rfl ?_
  refine rvc_nil ?_
  refine Awp.ret ?_
  subst hR
  exact ⟨.inl rfl, rfl⟩
def lackOf_l0 (f : Fleet) (c : Chain) : Nat → Nat → Command × Bool
  | 0, _ => ((Command.mk 0 0 0 0), false)
  | k + 1, i => (bif (decide ((many c (i : Int)) ≥ (f.wish i))) then lackOf_l0 f c k (i + 1)  else (bif (spare f c (i : Int)).2 then (bif (may c (Command.mk 2 (spare f c (i : Int)).1 (i : Int) c.epoch)) then ((Command.mk 2 (spare f c (i : Int)).1 (i : Int) c.epoch), true) else lackOf_l0 f c k (i + 1) ) else lackOf_l0 f c k (i + 1) ))
def lackOf (f : Fleet) (c : Chain) : Command × Bool :=
  lackOf_l0 f c 3 0
theorem lackOf_calls (f : Fleet) (c : Chain) (hn : c.members.nil = true → c.members.D = []) (hl1 : c.members.D.length ≤ 1000000) : PCalls Try.prog 39 [.agg [.pv (.lit (.int .u64 f.alive)), .pv (.lit (.int .i64 (f.home 0))), .pv (.lit (.int .i64 (f.home 1))), .pv (.lit (.int .i64 (f.home 2))), .pv (.lit (.int .i64 (f.home 3))), .pv (.lit (.int .i64 (f.home 4))), .pv (.lit (.int .i64 (f.home 5))), .pv (.lit (.int .i64 (f.wish 0))), .pv (.lit (.int .i64 (f.wish 1))), .pv (.lit (.int .i64 (f.wish 2)))], .agg [.pv (.lit (.int .i64 c.epoch)), sS (some c.members.nil) eMember c.members.D]] (.tup [.agg [.pv (.lit (.int .i64 ((lackOf f c).1.kind))), .pv (.lit (.int .i64 ((lackOf f c).1.node))), .pv (.lit (.int .i64 ((lackOf f c).1.site))), .pv (.lit (.int .i64 ((lackOf f c).1.epoch)))], .pv (.lit (.bool ((lackOf f c).2)))]) := by
 generalize hR : lackOf f c = R
 refine PCalls.of_body tabOk Try.func39 rfl rfl rfl rfl rfl mixed fun E hP C hI => ?_
 refine Awp.cons C (fun _ => .pure) (by kernel_rfl) ?_
 refine rvc_un (rexec_prim C (δ := { v := .ptr 2 0, new := [(2, .cells [.pv (.lit (.int .u64 f.alive)), .pv (.lit (.int .i64 (f.home 0))), .pv (.lit (.int .i64 (f.home 1))), .pv (.lit (.int .i64 (f.home 2))), .pv (.lit (.int .i64 (f.home 3))), .pv (.lit (.int .i64 (f.home 4))), .pv (.lit (.int .i64 (f.home 5))), .pv (.lit (.int .i64 (f.wish 0))), .pv (.lit (.int .i64 (f.wish 1))), .pv (.lit (.int .i64 (f.wish 2)))])] }) rfl rfl rfl rfl trivial rfl ?_)
 refine rvc_un (rexec_prim C (δ := { v := .ptr 3 0, new := [(3, .cells [.pv (.lit (.int .i64 c.epoch)), sS (some c.members.nil) eMember c.members.D])] }) rfl rfl rfl rfl trivial rfl ?_)
 refine rvc_un (rexec_prim C (δ := { v := .ptr 4 0, new := [(4, .cells [.pv (.lit (.int .i64 0)), .pv (.lit (.int .i64 0)), .pv (.lit (.int .i64 0)), .pv (.lit (.int .i64 0))])] }) rfl rfl rfl rfl trivial rfl ?_)
 refine rvP C (.pv (.lit (.bool false))) rfl rfl rfl rfl ?_
 refine rvc_nil ?_
 refine Awp.seq ?_
 refine Awp.cons C (fun _ => .pure) (by kernel_rfl) ?_
 refine rvP C (.ptr 2 7) rfl rfl rfl rfl ?_
 refine rvP C (.agg [.pv (.lit (.int .i64 (f.wish 0))), .pv (.lit (.int .i64 (f.wish 1))), .pv (.lit (.int .i64 (f.wish 2)))]) rfl rfl rfl rfl ?_
 refine rvP C (.pv (.lit (.int .i64 0))) rfl rfl rfl rfl ?_
 refine rvc_nil ?_
 refine Awp.block ?_
 refine Awp.forR (σ := Unit) (3) (fun i _v => [(2, .ptr 2 0), (3, .ptr 3 0), (4, .ptr 4 0), (12, .agg [.pv (.lit (.int .i64 (f.wish 0))), .pv (.lit (.int .i64 (f.wish 1))), .pv (.lit (.int .i64 (f.wish 2)))]), (13, .pv (.lit (.int .i64 (i : Int))))]) (fun i _v => [(2, .cells [.pv (.lit (.int .u64 f.alive)), .pv (.lit (.int .i64 (f.home 0))), .pv (.lit (.int .i64 (f.home 1))), .pv (.lit (.int .i64 (f.home 2))), .pv (.lit (.int .i64 (f.home 3))), .pv (.lit (.int .i64 (f.home 4))), .pv (.lit (.int .i64 (f.home 5))), .pv (.lit (.int .i64 (f.wish 0))), .pv (.lit (.int .i64 (f.wish 1))), .pv (.lit (.int .i64 (f.wish 2)))]), (3, .cells [.pv (.lit (.int .i64 c.epoch)), sS (some c.members.nil) eMember c.members.D]), (4, .cells [.pv (.lit (.int .i64 0)), .pv (.lit (.int .i64 0)), .pv (.lit (.int .i64 0)), .pv (.lit (.int .i64 0))])]) [2, 3, 4] (fun i _v => lackOf_l0 f c (3 - i) i  = R) () ?_ ?_ (fun i _v h1 hR => ?_)
 · exact hR
 · exact ⟨fun b => b, WeakerR.ofL (Ks := [2, 3, 4]) hI ⟨⟨rfl, rfl⟩, ⟨rfl, rfl⟩, ⟨rfl, rfl⟩, ⟨rfl, rfl⟩, ⟨rfl, rfl⟩, trivial⟩ (okH_cons rfl rfl rfl rfl (okH_cons rfl rfl rfl rfl (okH_cons rfl rfl rfl rfl (okH_nil)))) rfl⟩
 refine Awp.cons C (fun _ => .pure) (by kernel_rfl) ?_
 refine rvP C (.pv (.lit (.bool (decide ((i : Int) < 3))))) rfl rfl rfl rfl ?_
 refine rvc_nil ?_
 refine Awp.seq ?_
 refine Awp.cond (b := (decide ((i : Int) < 3))) rfl (fun h2 => ?_) (fun h2 => ?_)
 ·
  have h3 : i < 3 := by have := of_decide_eq_true h2; omega
  obtain ⟨k, h4⟩ : ∃ k, 3 - i = k + 1 := ⟨3 - i - 1, by omega⟩
  rw [h4] at hR
  refine Awp.skip ?_
  refine Awp.seq ?_
  refine Awp.block ?_
  refine Awp.cons C (fun _ => .pure) (by kernel_rfl) ?_
  refine rvP C (.pv (.lit (.int .i64 (i : Int)))) rfl rfl rfl rfl ?_
  refine rvc_un (rexec_idxA C (fun j => .pv (.lit (.int .i64 (f.wish j)))) (.pv (.lit (.int .i64 (f.wish i)))) rfl rfl rfl rfl rfl rfl rfl rfl ⟨(by have := of_decide_eq_true h2; omega), (by have := of_decide_eq_true h2; omega)⟩ rfl ?_)
  refine rvP C (.pv (.lit (.int .i64 (i : Int)))) rfl rfl rfl rfl ?_
  refine rvP C (.pv (.lit (.int .i64 (f.wish i)))) rfl rfl rfl rfl ?_
  refine rvc_nil ?_
  refine Awp.seq ?_
  refine Awp.cons C (fun _ => .pure) (by kernel_rfl) ?_
  refine rvP C (.agg [.pv (.lit (.int .i64 c.epoch)), sS (some c.members.nil) eMember c.members.D]) rfl rfl rfl rfl ?_
  refine rvP C (.pv (.lit (.int .i64 (i : Int)))) rfl rfl rfl rfl ?_
  refine rvc_un (rexec_call hP C rfl rfl rfl (many_calls c (i : Int) hl1) ?_)
  refine rvP C (.pv (.lit (.int .i64 (f.wish i)))) rfl rfl rfl rfl ?_
  refine rvP C (.pv (.lit (.bool (decide ((many c (i : Int)) ≥ (f.wish i)))))) rfl rfl rfl rfl ?_
  refine rvc_nil ?_
  refine Awp.cond (b := (decide ((many c (i : Int)) ≥ (f.wish i)))) rfl (fun h5 => ?_) (fun h5 => ?_)
  ·
   replace hR := of_true h5 hR
   refine Awp.exit ?_
   refine Awp.region C (fun _ => .pure) (by kernel_rfl) ?_
   refine rvP C (.pv (.lit (.int .i64 (IntKind.i64.wrap ((i : Int) + 1))))) rfl rfl rfl rfl ?_
   refine rvP C (.pv (.lit (.int .i64 (IntKind.i64.wrap ((i : Int) + 1))))) rfl rfl rfl rfl ?_
   refine rvc_nil ?_
   refine ⟨h3, (), ?_, ?_⟩
   · exact (by rw [show 3 - (i + 1) = k by omega]; exact hR)
   · exact ⟨fun b => b, WeakerR.ofL (Ks := [2, 3, 4]) hI ⟨⟨rfl, rfl⟩, ⟨rfl, rfl⟩, ⟨rfl, rfl⟩, ⟨rfl, rfl⟩, ⟨lit_cast (wrap_i64 (by omega) (by omega)), rfl⟩, trivial⟩ (okH_cons rfl rfl rfl rfl (okH_cons rfl rfl rfl rfl (okH_cons rfl rfl rfl rfl (okH_nil)))) rfl⟩
  ·
   replace hR := of_false h5 hR
   refine Awp.skip ?_
   refine Awp.cons C (fun _ => .pure) (by kernel_rfl) ?_
   refine rvP C (.agg [.pv (.lit (.int .u64 f.alive)), .pv (.lit (.int .i64 (f.home 0))), .pv (.lit (.int .i64 (f.home 1))), .pv (.lit (.int .i64 (f.home 2))), .pv (.lit (.int .i64 (f.home 3))), .pv (.lit (.int .i64 (f.home 4))), .pv (.lit (.int .i64 (f.home 5))), .pv (.lit (.int .i64 (f.wish 0))), .pv (.lit (.int .i64 (f.wish 1))), .pv (.lit (.int .i64 (f.wish 2)))]) rfl rfl rfl rfl ?_
   refine rvP C (.agg [.pv (.lit (.int .i64 c.epoch)), sS (some c.members.nil) eMember c.members.D]) rfl rfl rfl rfl ?_
   refine rvP C (.pv (.lit (.int .i64 (i : Int)))) rfl rfl rfl rfl ?_
   obtain ⟨sp, hq_sp⟩ : ∃ q_, q_ = (spare f c (i : Int)) := ⟨_, rfl⟩
   have hc_sp := (spare_calls f c (i : Int) hl1)
   first | rw [← hq_sp] at hR hc_sp | (unfold lackOf at hR; rw [← hq_sp] at hR hc_sp) | (unfold lackOf_l0 at hR; rw [← hq_sp] at hR hc_sp)
   refine rvc_un (rexec_call hP C rfl rfl rfl hc_sp ?_)
   refine rvP C (.tup [.pv (.lit (.int .i64 sp.1)), .pv (.lit (.bool sp.2))]) rfl rfl rfl rfl ?_
   refine rvP C (.pv (.lit (.int .i64 sp.1))) rfl rfl rfl rfl ?_
   refine rvP C (.pv (.lit (.bool sp.2))) rfl rfl rfl rfl ?_
   refine rvP C (.pv (.lit (.int .i64 sp.1))) rfl rfl rfl rfl ?_
   refine rvP C (.pv (.lit (.bool sp.2))) rfl rfl rfl rfl ?_
   refine rvc_nil ?_
   refine Awp.cons C (fun _ => .pure) (by kernel_rfl) ?_
   refine rvP C (.pv (.lit (.bool sp.2))) rfl rfl rfl rfl ?_
   refine rvc_nil ?_
   refine Awp.cond (b := sp.2) rfl (fun h6 => ?_) (fun h6 => ?_)
   ·
    replace hR := of_true h6 hR
    refine Awp.cons C (fun _ => .pure) (by kernel_rfl) ?_
    refine rvP C (.pv (.lit (.int .i64 sp.1))) rfl rfl rfl rfl ?_
    refine rvP C (.pv (.lit (.int .i64 (i : Int)))) rfl rfl rfl rfl ?_
    refine rvP C (.ptr 3 0) rfl rfl rfl rfl ?_
    refine rvP C (.pv (.lit (.int .i64 c.epoch))) rfl rfl rfl rfl ?_
    refine rvP C (.agg [.pv (.lit (.int .i64 2)), .pv (.lit (.int .i64 sp.1)), .pv (.lit (.int .i64 (i : Int))), .pv (.lit (.int .i64 c.epoch))]) rfl rfl rfl rfl ?_
    refine rvc_un (rexec_prim C (δ := { v := .ptr 10 0, new := [(10, .cells [.pv (.lit (.int .i64 0)), .pv (.lit (.int .i64 0)), .pv (.lit (.int .i64 0)), .pv (.lit (.int .i64 0))])] }) rfl rfl rfl rfl trivial rfl ?_)
    refine rvc_un (rexec_prim C (δ := { v := .undef, wr := [(10, some (.cells [.pv (.lit (.int .i64 2)), .pv (.lit (.int .i64 sp.1)), .pv (.lit (.int .i64 (i : Int))), .pv (.lit (.int .i64 c.epoch))]))] }) rfl rfl rfl rfl trivial rfl ?_)
    refine rvc_nil ?_
    refine Awp.cons C (fun _ => .pure) (by kernel_rfl) ?_
    refine rvP C (.agg [.pv (.lit (.int .i64 c.epoch)), sS (some c.members.nil) eMember c.members.D]) rfl rfl rfl rfl ?_
    refine rvP C (.agg [.pv (.lit (.int .i64 2)), .pv (.lit (.int .i64 sp.1)), .pv (.lit (.int .i64 (i : Int))), .pv (.lit (.int .i64 c.epoch))]) rfl rfl rfl rfl ?_
    refine rvc_un (rexec_call hP C rfl rfl rfl (may_calls c (Command.mk 2 sp.1 (i : Int) c.epoch) hn hl1) ?_)
    refine rvc_nil ?_
    refine Awp.cond (b := (may c (Command.mk 2 sp.1 (i : Int) c.epoch))) rfl (fun h7 => ?_) (fun h7 => ?_)
    ·
     replace hR := of_true h7 hR
     refine Awp.cons C (fun _ => .pure) (by kernel_rfl) ?_
     refine rvP C (.agg [.pv (.lit (.int .i64 2)), .pv (.lit (.int .i64 sp.1)), .pv (.lit (.int .i64 (i : Int))), .pv (.lit (.int .i64 c.epoch))]) rfl rfl rfl rfl ?_
     refine rvc_un (rexec_prim C (δ := { v := .undef, wr := [(4, some (.cells [.pv (.lit (.int .i64 2)), .pv (.lit (.int .i64 sp.1)), .pv (.lit (.int .i64 (i : Int))), .pv (.lit (.int .i64 c.epoch))]))] }) rfl rfl rfl rfl trivial rfl ?_)
     refine rvP C (.pv (.lit (.bool true))) rfl rfl rfl rfl ?_
     refine rvc_nil ?_
     refine Awp.ret ?_
     subst hR
     exact ⟨.inl rfl, rfl⟩
    ·
     replace hR := of_false h7 hR
     refine Awp.skip ?_
     refine Awp.region C (fun _ => .pure) (by kernel_rfl) ?_
     refine rvP C (.pv (.lit (.int .i64 (IntKind.i64.wrap ((i : Int) + 1))))) rfl rfl rfl rfl ?_
     refine rvP C (.pv (.lit (.int .i64 (IntKind.i64.wrap ((i : Int) + 1))))) rfl rfl rfl rfl ?_
     refine rvc_nil ?_
     refine ⟨h3, (), ?_, ?_⟩
     · exact (by rw [show 3 - (i + 1) = k by omega]; exact hR)
     · exact ⟨fun b => b, WeakerR.ofL (Ks := [2, 3, 4]) hI ⟨⟨rfl, rfl⟩, ⟨rfl, rfl⟩, ⟨rfl, rfl⟩, ⟨rfl, rfl⟩, ⟨lit_cast (wrap_i64 (by omega) (by omega)), rfl⟩, trivial⟩ (okH_cons rfl rfl rfl rfl (okH_cons rfl rfl rfl rfl (okH_cons rfl rfl rfl rfl (okH_nil)))) rfl⟩
   ·
    replace hR := of_false h6 hR
    refine Awp.skip ?_
    refine Awp.region C (fun _ => .pure) (by kernel_rfl) ?_
    refine rvP C (.pv (.lit (.int .i64 (IntKind.i64.wrap ((i : Int) + 1))))) rfl rfl rfl rfl ?_
    refine rvP C (.pv (.lit (.int .i64 (IntKind.i64.wrap ((i : Int) + 1))))) rfl rfl rfl rfl ?_
    refine rvc_nil ?_
    refine ⟨h3, (), ?_, ?_⟩
    · exact (by rw [show 3 - (i + 1) = k by omega]; exact hR)
    · exact ⟨fun b => b, WeakerR.ofL (Ks := [2, 3, 4]) hI ⟨⟨rfl, rfl⟩, ⟨rfl, rfl⟩, ⟨rfl, rfl⟩, ⟨rfl, rfl⟩, ⟨lit_cast (wrap_i64 (by omega) (by omega)), rfl⟩, trivial⟩ (okH_cons rfl rfl rfl rfl (okH_cons rfl rfl rfl rfl (okH_cons rfl rfl rfl rfl (okH_nil)))) rfl⟩
 ·
  rw [show 3 - i = 0 by have := of_decide_eq_false h2; omega] at hR
  refine Awp.exit ?_
  refine Awp.cons C (fun _ => .pure) (by kernel_rfl) ?_
  refine rvP C (.agg [.pv (.lit (.int .i64 0)), .pv (.lit (.int .i64 0)), .pv (.lit (.int .i64 0)), .pv (.lit (.int .i64 0))]) rfl rfl rfl rfl ?_
  refine rvc_un (rexec_prim C (δ := { v := .undef, wr := [(4, some (.cells [.pv (.lit (.int .i64 0)), .pv (.lit (.int .i64 0)), .pv (.lit (.int .i64 0)), .pv (.lit (.int .i64 0))]))] }) rfl rfl rfl rfl trivial rfl ?_)
  refine rvP C (.pv (.lit (.bool false))) rfl rfl rfl rfl ?_
  refine rvc_nil ?_
  refine Awp.ret ?_
  subst hR
  exact ⟨.inl rfl, rfl⟩
def nextP (c : Chain) (alive : Int) (h : (Nat → Int)) (w : (Nat → Int)) : Command × Bool × Int :=
  (bif ((check c) != 0) then ((Command.mk 0 0 0 0), false, (check c)) else (bif ((planCheck h w) != 0) then ((Command.mk 0 0 0 0), false, (planCheck h w)) else (bif (deadOf (Fleet.mk alive h w) c).2 then ((deadOf (Fleet.mk alive h w) c).1, true, 0) else (bif ((whole c) != (nodes c)) then ((Command.mk 0 0 0 0), false, 0) else ((lackOf (Fleet.mk alive h w) c).1, (lackOf (Fleet.mk alive h w) c).2, 0)))))
theorem nextP_calls (c : Chain) (alive : Int) (h : (Nat → Int)) (w : (Nat → Int)) (hn : c.members.nil = true → c.members.D = []) (hl1 : c.members.D.length ≤ 1000000) : PCalls Try.prog 10 [.agg [.pv (.lit (.int .i64 c.epoch)), sS (some c.members.nil) eMember c.members.D], .pv (.lit (.int .u64 alive)), .agg [.pv (.lit (.int .i64 (h 0))), .pv (.lit (.int .i64 (h 1))), .pv (.lit (.int .i64 (h 2))), .pv (.lit (.int .i64 (h 3))), .pv (.lit (.int .i64 (h 4))), .pv (.lit (.int .i64 (h 5)))], .agg [.pv (.lit (.int .i64 (w 0))), .pv (.lit (.int .i64 (w 1))), .pv (.lit (.int .i64 (w 2)))]] (.tup [.agg [.pv (.lit (.int .i64 ((nextP c alive h w).1.kind))), .pv (.lit (.int .i64 ((nextP c alive h w).1.node))), .pv (.lit (.int .i64 ((nextP c alive h w).1.site))), .pv (.lit (.int .i64 ((nextP c alive h w).1.epoch)))], .pv (.lit (.bool ((nextP c alive h w).2.1))), .pv (.lit (.int .i64 ((nextP c alive h w).2.2)))]) := by
 generalize hR : nextP c alive h w = R
 refine PCalls.of_body tabOk Try.func10 rfl rfl rfl rfl rfl mixed fun E hP C hI => ?_
 refine Awp.cons C (fun _ => .pure) (by kernel_rfl) ?_
 refine rvc_un (rexec_prim C (δ := { v := .ptr 4 0, new := [(4, .cells [.pv (.lit (.int .i64 c.epoch)), sS (some c.members.nil) eMember c.members.D])] }) rfl rfl rfl rfl trivial rfl ?_)
 refine rvc_un (rexec_prim C (δ := { v := .ptr 6 0, new := [(6, .cells [.pv (.lit (.int .i64 (h 0))), .pv (.lit (.int .i64 (h 1))), .pv (.lit (.int .i64 (h 2))), .pv (.lit (.int .i64 (h 3))), .pv (.lit (.int .i64 (h 4))), .pv (.lit (.int .i64 (h 5)))])] }) rfl rfl rfl rfl trivial rfl ?_)
 refine rvc_un (rexec_prim C (δ := { v := .ptr 7 0, new := [(7, .cells [.pv (.lit (.int .i64 (w 0))), .pv (.lit (.int .i64 (w 1))), .pv (.lit (.int .i64 (w 2)))])] }) rfl rfl rfl rfl trivial rfl ?_)
 refine rvc_un (rexec_prim C (δ := { v := .ptr 8 0, new := [(8, .cells [.pv (.lit (.int .i64 0)), .pv (.lit (.int .i64 0)), .pv (.lit (.int .i64 0)), .pv (.lit (.int .i64 0))])] }) rfl rfl rfl rfl trivial rfl ?_)
 refine rvP C (.pv (.lit (.bool false))) rfl rfl rfl rfl ?_
 refine rvP C (.pv (.lit (.int .i64 0))) rfl rfl rfl rfl ?_
 refine rvc_nil ?_
 refine Awp.seq ?_
 refine Awp.cons C (fun _ => .pure) (by kernel_rfl) ?_
 refine rvP C (.agg [.pv (.lit (.int .i64 c.epoch)), sS (some c.members.nil) eMember c.members.D]) rfl rfl rfl rfl ?_
 refine rvc_un (rexec_call hP C rfl rfl rfl (check_calls c (Nat.le_trans hl1 (by decide))) ?_)
 refine rvP C (.pv (.lit (.int .i64 (check c)))) rfl rfl rfl rfl ?_
 refine rvc_nil ?_
 refine Awp.cons C (fun _ => .pure) (by kernel_rfl) ?_
 refine rvP C (.pv (.lit (.int .i64 (check c)))) rfl rfl rfl rfl ?_
 refine rvP C (.pv (.lit (.bool ((check c) != 0)))) rfl rfl rfl rfl ?_
 refine rvc_nil ?_
 refine Awp.cond (b := ((check c) != 0)) rfl (fun h1 => ?_) (fun h1 => ?_)
 ·
  replace hR := of_true h1 hR
  refine Awp.cons C (fun _ => .pure) (by kernel_rfl) ?_
  refine rvP C (.agg [.pv (.lit (.int .i64 0)), .pv (.lit (.int .i64 0)), .pv (.lit (.int .i64 0)), .pv (.lit (.int .i64 0))]) rfl rfl rfl rfl ?_
  refine rvP C (.pv (.lit (.int .i64 (check c)))) rfl rfl rfl rfl ?_
  refine rvc_un (rexec_prim C (δ := { v := .undef, wr := [(8, some (.cells [.pv (.lit (.int .i64 0)), .pv (.lit (.int .i64 0)), .pv (.lit (.int .i64 0)), .pv (.lit (.int .i64 0))]))] }) rfl rfl rfl rfl trivial rfl ?_)
  refine rvP C (.pv (.lit (.bool false))) rfl rfl rfl rfl ?_
  refine rvP C (.pv (.lit (.int .i64 (check c)))) rfl rfl rfl rfl ?_
  refine rvc_nil ?_
  refine Awp.ret ?_
  subst hR
  exact ⟨.inl rfl, rfl⟩
 ·
  replace hR := of_false h1 hR
  refine Awp.skip ?_
  refine Awp.seq ?_
  refine Awp.cons C (fun _ => .pure) (by kernel_rfl) ?_
  refine rvP C (.agg [.pv (.lit (.int .i64 (h 0))), .pv (.lit (.int .i64 (h 1))), .pv (.lit (.int .i64 (h 2))), .pv (.lit (.int .i64 (h 3))), .pv (.lit (.int .i64 (h 4))), .pv (.lit (.int .i64 (h 5)))]) rfl rfl rfl rfl ?_
  refine rvP C (.agg [.pv (.lit (.int .i64 (w 0))), .pv (.lit (.int .i64 (w 1))), .pv (.lit (.int .i64 (w 2)))]) rfl rfl rfl rfl ?_
  refine rvc_un (rexec_call hP C rfl rfl rfl (planCheck_calls h w) ?_)
  refine rvP C (.pv (.lit (.int .i64 (planCheck h w)))) rfl rfl rfl rfl ?_
  refine rvc_nil ?_
  refine Awp.cons C (fun _ => .pure) (by kernel_rfl) ?_
  refine rvP C (.pv (.lit (.int .i64 (planCheck h w)))) rfl rfl rfl rfl ?_
  refine rvP C (.pv (.lit (.bool ((planCheck h w) != 0)))) rfl rfl rfl rfl ?_
  refine rvc_nil ?_
  refine Awp.cond (b := ((planCheck h w) != 0)) rfl (fun h2 => ?_) (fun h2 => ?_)
  ·
   replace hR := of_true h2 hR
   refine Awp.cons C (fun _ => .pure) (by kernel_rfl) ?_
   refine rvP C (.agg [.pv (.lit (.int .i64 0)), .pv (.lit (.int .i64 0)), .pv (.lit (.int .i64 0)), .pv (.lit (.int .i64 0))]) rfl rfl rfl rfl ?_
   refine rvP C (.pv (.lit (.int .i64 (planCheck h w)))) rfl rfl rfl rfl ?_
   refine rvc_un (rexec_prim C (δ := { v := .undef, wr := [(8, some (.cells [.pv (.lit (.int .i64 0)), .pv (.lit (.int .i64 0)), .pv (.lit (.int .i64 0)), .pv (.lit (.int .i64 0))]))] }) rfl rfl rfl rfl trivial rfl ?_)
   refine rvP C (.pv (.lit (.bool false))) rfl rfl rfl rfl ?_
   refine rvP C (.pv (.lit (.int .i64 (planCheck h w)))) rfl rfl rfl rfl ?_
   refine rvc_nil ?_
   refine Awp.ret ?_
   subst hR
   exact ⟨.inl rfl, rfl⟩
  ·
   replace hR := of_false h2 hR
   refine Awp.skip ?_
   refine Awp.cons C (fun _ => .pure) (by kernel_rfl) ?_
   refine rvP C (.pv (.lit (.int .u64 alive))) rfl rfl rfl rfl ?_
   refine rvP C (.agg [.pv (.lit (.int .i64 (h 0))), .pv (.lit (.int .i64 (h 1))), .pv (.lit (.int .i64 (h 2))), .pv (.lit (.int .i64 (h 3))), .pv (.lit (.int .i64 (h 4))), .pv (.lit (.int .i64 (h 5)))]) rfl rfl rfl rfl ?_
   refine rvP C (.agg [.pv (.lit (.int .i64 (w 0))), .pv (.lit (.int .i64 (w 1))), .pv (.lit (.int .i64 (w 2)))]) rfl rfl rfl rfl ?_
   refine rvP C (.agg [.pv (.lit (.int .u64 alive)), .pv (.lit (.int .i64 (h 0))), .pv (.lit (.int .i64 (h 1))), .pv (.lit (.int .i64 (h 2))), .pv (.lit (.int .i64 (h 3))), .pv (.lit (.int .i64 (h 4))), .pv (.lit (.int .i64 (h 5))), .pv (.lit (.int .i64 (w 0))), .pv (.lit (.int .i64 (w 1))), .pv (.lit (.int .i64 (w 2)))]) rfl rfl rfl rfl ?_
   refine rvc_un (rexec_prim C (δ := { v := .ptr 13 0, new := [(13, .cells [.pv (.lit (.int .u64 0)), .pv (.lit (.int .i64 0)), .pv (.lit (.int .i64 0)), .pv (.lit (.int .i64 0)), .pv (.lit (.int .i64 0)), .pv (.lit (.int .i64 0)), .pv (.lit (.int .i64 0)), .pv (.lit (.int .i64 0)), .pv (.lit (.int .i64 0)), .pv (.lit (.int .i64 0))])] }) rfl rfl rfl rfl trivial rfl ?_)
   refine rvc_un (rexec_prim C (δ := { v := .undef, wr := [(13, some (.cells [.pv (.lit (.int .u64 alive)), .pv (.lit (.int .i64 (h 0))), .pv (.lit (.int .i64 (h 1))), .pv (.lit (.int .i64 (h 2))), .pv (.lit (.int .i64 (h 3))), .pv (.lit (.int .i64 (h 4))), .pv (.lit (.int .i64 (h 5))), .pv (.lit (.int .i64 (w 0))), .pv (.lit (.int .i64 (w 1))), .pv (.lit (.int .i64 (w 2)))]))] }) rfl rfl rfl rfl trivial rfl ?_)
   refine rvc_nil ?_
   refine Awp.seq ?_
   refine Awp.cons C (fun _ => .pure) (by kernel_rfl) ?_
   refine rvP C (.agg [.pv (.lit (.int .u64 alive)), .pv (.lit (.int .i64 (h 0))), .pv (.lit (.int .i64 (h 1))), .pv (.lit (.int .i64 (h 2))), .pv (.lit (.int .i64 (h 3))), .pv (.lit (.int .i64 (h 4))), .pv (.lit (.int .i64 (h 5))), .pv (.lit (.int .i64 (w 0))), .pv (.lit (.int .i64 (w 1))), .pv (.lit (.int .i64 (w 2)))]) rfl rfl rfl rfl ?_
   refine rvP C (.agg [.pv (.lit (.int .i64 c.epoch)), sS (some c.members.nil) eMember c.members.D]) rfl rfl rfl rfl ?_
   refine rvc_un (rexec_call hP C rfl rfl rfl (deadOf_calls (Fleet.mk alive h w) c hn hl1) ?_)
   refine rvP C (.tup [.agg [.pv (.lit (.int .i64 ((deadOf (Fleet.mk alive h w) c).1.kind))), .pv (.lit (.int .i64 ((deadOf (Fleet.mk alive h w) c).1.node))), .pv (.lit (.int .i64 ((deadOf (Fleet.mk alive h w) c).1.site))), .pv (.lit (.int .i64 ((deadOf (Fleet.mk alive h w) c).1.epoch)))], .pv (.lit (.bool ((deadOf (Fleet.mk alive h w) c).2)))]) rfl rfl rfl rfl ?_
   refine rvP C (.agg [.pv (.lit (.int .i64 ((deadOf (Fleet.mk alive h w) c).1.kind))), .pv (.lit (.int .i64 ((deadOf (Fleet.mk alive h w) c).1.node))), .pv (.lit (.int .i64 ((deadOf (Fleet.mk alive h w) c).1.site))), .pv (.lit (.int .i64 ((deadOf (Fleet.mk alive h w) c).1.epoch)))]) rfl rfl rfl rfl ?_
   refine rvP C (.pv (.lit (.bool ((deadOf (Fleet.mk alive h w) c).2)))) rfl rfl rfl rfl ?_
   refine rvc_un (rexec_prim C (δ := { v := .ptr 14 0, new := [(14, .cells [.pv (.lit (.int .i64 0)), .pv (.lit (.int .i64 0)), .pv (.lit (.int .i64 0)), .pv (.lit (.int .i64 0))])] }) rfl rfl rfl rfl trivial rfl ?_)
   refine rvc_un (rexec_prim C (δ := { v := .undef, wr := [(14, some (.cells [.pv (.lit (.int .i64 ((deadOf (Fleet.mk alive h w) c).1.kind))), .pv (.lit (.int .i64 ((deadOf (Fleet.mk alive h w) c).1.node))), .pv (.lit (.int .i64 ((deadOf (Fleet.mk alive h w) c).1.site))), .pv (.lit (.int .i64 ((deadOf (Fleet.mk alive h w) c).1.epoch)))]))] }) rfl rfl rfl rfl trivial rfl ?_)
   refine rvP C (.pv (.lit (.bool ((deadOf (Fleet.mk alive h w) c).2)))) rfl rfl rfl rfl ?_
   refine rvc_nil ?_
   refine Awp.cons C (fun _ => .pure) (by kernel_rfl) ?_
   refine rvP C (.pv (.lit (.bool ((deadOf (Fleet.mk alive h w) c).2)))) rfl rfl rfl rfl ?_
   refine rvc_nil ?_
   refine Awp.cond (b := (deadOf (Fleet.mk alive h w) c).2) rfl (fun h3 => ?_) (fun h3 => ?_)
   ·
    replace hR := of_true h3 hR
    refine Awp.cons C (fun _ => .pure) (by kernel_rfl) ?_
    refine rvP C (.agg [.pv (.lit (.int .i64 ((deadOf (Fleet.mk alive h w) c).1.kind))), .pv (.lit (.int .i64 ((deadOf (Fleet.mk alive h w) c).1.node))), .pv (.lit (.int .i64 ((deadOf (Fleet.mk alive h w) c).1.site))), .pv (.lit (.int .i64 ((deadOf (Fleet.mk alive h w) c).1.epoch)))]) rfl rfl rfl rfl ?_
    refine rvc_un (rexec_prim C (δ := { v := .undef, wr := [(8, some (.cells [.pv (.lit (.int .i64 ((deadOf (Fleet.mk alive h w) c).1.kind))), .pv (.lit (.int .i64 ((deadOf (Fleet.mk alive h w) c).1.node))), .pv (.lit (.int .i64 ((deadOf (Fleet.mk alive h w) c).1.site))), .pv (.lit (.int .i64 ((deadOf (Fleet.mk alive h w) c).1.epoch)))]))] }) rfl rfl rfl rfl trivial rfl ?_)
    refine rvP C (.pv (.lit (.bool true))) rfl rfl rfl rfl ?_
    refine rvP C (.pv (.lit (.int .i64 0))) rfl rfl rfl rfl ?_
    refine rvc_nil ?_
    refine Awp.ret ?_
    subst hR
    exact ⟨.inl rfl, rfl⟩
   ·
    replace hR := of_false h3 hR
    refine Awp.skip ?_
    refine Awp.seq ?_
    refine Awp.cons C (fun _ => .pure) (by kernel_rfl) ?_
    refine rvP C (.agg [.pv (.lit (.int .i64 c.epoch)), sS (some c.members.nil) eMember c.members.D]) rfl rfl rfl rfl ?_
    refine rvc_un (rexec_call hP C rfl rfl rfl (whole_calls c (Nat.le_trans hl1 (by decide))) ?_)
    refine rvP C (.agg [.pv (.lit (.int .i64 c.epoch)), sS (some c.members.nil) eMember c.members.D]) rfl rfl rfl rfl ?_
    refine rvc_un (rexec_call hP C rfl rfl rfl (nodes_calls c (Nat.le_trans hl1 (by decide))) ?_)
    refine rvP C (.pv (.lit (.bool ((whole c) != (nodes c))))) rfl rfl rfl rfl ?_
    refine rvc_nil ?_
    refine Awp.cond (b := ((whole c) != (nodes c))) rfl (fun h4 => ?_) (fun h4 => ?_)
    ·
     replace hR := of_true h4 hR
     refine Awp.cons C (fun _ => .pure) (by kernel_rfl) ?_
     refine rvP C (.agg [.pv (.lit (.int .i64 0)), .pv (.lit (.int .i64 0)), .pv (.lit (.int .i64 0)), .pv (.lit (.int .i64 0))]) rfl rfl rfl rfl ?_
     refine rvc_un (rexec_prim C (δ := { v := .undef, wr := [(8, some (.cells [.pv (.lit (.int .i64 0)), .pv (.lit (.int .i64 0)), .pv (.lit (.int .i64 0)), .pv (.lit (.int .i64 0))]))] }) rfl rfl rfl rfl trivial rfl ?_)
     refine rvP C (.pv (.lit (.bool false))) rfl rfl rfl rfl ?_
     refine rvP C (.pv (.lit (.int .i64 0))) rfl rfl rfl rfl ?_
     refine rvc_nil ?_
     refine Awp.ret ?_
     subst hR
     exact ⟨.inl rfl, rfl⟩
    ·
     replace hR := of_false h4 hR
     refine Awp.skip ?_
     refine Awp.cons C (fun _ => .pure) (by kernel_rfl) ?_
     refine rvP C (.agg [.pv (.lit (.int .u64 alive)), .pv (.lit (.int .i64 (h 0))), .pv (.lit (.int .i64 (h 1))), .pv (.lit (.int .i64 (h 2))), .pv (.lit (.int .i64 (h 3))), .pv (.lit (.int .i64 (h 4))), .pv (.lit (.int .i64 (h 5))), .pv (.lit (.int .i64 (w 0))), .pv (.lit (.int .i64 (w 1))), .pv (.lit (.int .i64 (w 2)))]) rfl rfl rfl rfl ?_
     refine rvP C (.agg [.pv (.lit (.int .i64 c.epoch)), sS (some c.members.nil) eMember c.members.D]) rfl rfl rfl rfl ?_
     refine rvc_un (rexec_call hP C rfl rfl rfl (lackOf_calls (Fleet.mk alive h w) c hn hl1) ?_)
     refine rvP C (.tup [.agg [.pv (.lit (.int .i64 ((lackOf (Fleet.mk alive h w) c).1.kind))), .pv (.lit (.int .i64 ((lackOf (Fleet.mk alive h w) c).1.node))), .pv (.lit (.int .i64 ((lackOf (Fleet.mk alive h w) c).1.site))), .pv (.lit (.int .i64 ((lackOf (Fleet.mk alive h w) c).1.epoch)))], .pv (.lit (.bool ((lackOf (Fleet.mk alive h w) c).2)))]) rfl rfl rfl rfl ?_
     refine rvP C (.agg [.pv (.lit (.int .i64 ((lackOf (Fleet.mk alive h w) c).1.kind))), .pv (.lit (.int .i64 ((lackOf (Fleet.mk alive h w) c).1.node))), .pv (.lit (.int .i64 ((lackOf (Fleet.mk alive h w) c).1.site))), .pv (.lit (.int .i64 ((lackOf (Fleet.mk alive h w) c).1.epoch)))]) rfl rfl rfl rfl ?_
     refine rvP C (.pv (.lit (.bool ((lackOf (Fleet.mk alive h w) c).2)))) rfl rfl rfl rfl ?_
     refine rvc_un (rexec_prim C (δ := { v := .ptr 16 0, new := [(16, .cells [.pv (.lit (.int .i64 0)), .pv (.lit (.int .i64 0)), .pv (.lit (.int .i64 0)), .pv (.lit (.int .i64 0))])] }) rfl rfl rfl rfl trivial rfl ?_)
     refine rvc_un (rexec_prim C (δ := { v := .undef, wr := [(16, some (.cells [.pv (.lit (.int .i64 ((lackOf (Fleet.mk alive h w) c).1.kind))), .pv (.lit (.int .i64 ((lackOf (Fleet.mk alive h w) c).1.node))), .pv (.lit (.int .i64 ((lackOf (Fleet.mk alive h w) c).1.site))), .pv (.lit (.int .i64 ((lackOf (Fleet.mk alive h w) c).1.epoch)))]))] }) rfl rfl rfl rfl trivial rfl ?_)
     refine rvP C (.pv (.lit (.bool ((lackOf (Fleet.mk alive h w) c).2)))) rfl rfl rfl rfl ?_
     refine rvc_nil ?_
     refine Awp.cons C (fun _ => .pure) (by kernel_rfl) ?_
     refine rvP C (.agg [.pv (.lit (.int .i64 ((lackOf (Fleet.mk alive h w) c).1.kind))), .pv (.lit (.int .i64 ((lackOf (Fleet.mk alive h w) c).1.node))), .pv (.lit (.int .i64 ((lackOf (Fleet.mk alive h w) c).1.site))), .pv (.lit (.int .i64 ((lackOf (Fleet.mk alive h w) c).1.epoch)))]) rfl rfl rfl rfl ?_
     refine rvP C (.pv (.lit (.bool ((lackOf (Fleet.mk alive h w) c).2)))) rfl rfl rfl rfl ?_
     refine rvc_un (rexec_prim C (δ := { v := .undef, wr := [(8, some (.cells [.pv (.lit (.int .i64 ((lackOf (Fleet.mk alive h w) c).1.kind))), .pv (.lit (.int .i64 ((lackOf (Fleet.mk alive h w) c).1.node))), .pv (.lit (.int .i64 ((lackOf (Fleet.mk alive h w) c).1.site))), .pv (.lit (.int .i64 ((lackOf (Fleet.mk alive h w) c).1.epoch)))]))] }) rfl rfl rfl rfl trivial rfl ?_)
     refine rvP C (.pv (.lit (.bool ((lackOf (Fleet.mk alive h w) c).2)))) rfl rfl rfl rfl ?_
     refine rvP C (.pv (.lit (.int .i64 0))) rfl rfl rfl rfl ?_
     refine rvc_nil ?_
     refine Awp.ret ?_
     subst hR
     exact ⟨.inl rfl, rfl⟩
def readyAll_l0 (alive : Int) : List Member → Nat → Int → (Sl Member) → Chain
  | [], _, vc, vc1 => (Chain.mk vc vc1)
  | x :: xs, i, vc, vc1 => (bif (((ready (Chain.mk vc vc1) x.node).2) == 0) then (bif (mHas alive x.node) then readyAll_l0 alive xs (i + 1) ((ready (Chain.mk vc vc1) x.node).1.epoch) ((ready (Chain.mk vc vc1) x.node).1.members) else readyAll_l0 alive xs (i + 1) vc vc1) else readyAll_l0 alive xs (i + 1) vc vc1)
def readyAll (c : Chain) (alive : Int) : Chain :=
  readyAll_l0 alive c.members.D 0 c.epoch c.members
theorem readyAll_calls (c : Chain) (alive : Int) (hn : c.members.nil = true → c.members.D = []) (hl1 : c.members.D.length ≤ 1000000) : PCalls Try.prog 44 [.agg [.pv (.lit (.int .i64 c.epoch)), sS (some c.members.nil) eMember c.members.D], .pv (.lit (.int .u64 alive))] (.agg [.pv (.lit (.int .i64 ((readyAll c alive).epoch))), sS (some (readyAll c alive).members.nil) eMember ((readyAll c alive).members.D)]) := by
 generalize hR : readyAll c alive = R
 refine PCalls.of_body tabOk Try.func44 rfl rfl rfl rfl rfl mixed fun E hP C hI => ?_
 refine Awp.cons C (fun _ => .pure) (by kernel_rfl) ?_
 refine rvc_un (rexec_prim C (δ := { v := .ptr 2 0, new := [(2, .cells [.pv (.lit (.int .i64 c.epoch)), sS (some c.members.nil) eMember c.members.D])] }) rfl rfl rfl rfl trivial rfl ?_)
 refine rvc_un (rexec_prim C (δ := { v := .ptr 4 0, new := [(4, .cells [.pv (.lit (.int .i64 0)), sS (some true) eMember []])] }) rfl rfl rfl rfl trivial rfl ?_)
 refine rvc_nil ?_
 refine Awp.seq ?_
 refine Awp.cons C (fun _ => .pure) (by kernel_rfl) ?_
 refine rvP C (.ptr 2 1) rfl rfl rfl rfl ?_
 refine rvP C (sS (some c.members.nil) eMember c.members.D) rfl rfl rfl rfl ?_
 refine rvP C (.pv (.lit (.int .i64 (c.members.D.length : Int)))) rfl rfl rfl rfl ?_
 refine rvP C (.pv (.lit (.int .i64 0))) rfl rfl rfl rfl ?_
 refine rvc_nil ?_
 refine Awp.block ?_
 refine Awp.forR (σ := Int × ((Sl Member))) (c.members.D.length) (fun i v => [(1, .pv (.lit (.int .u64 alive))), (2, .ptr 2 0), (4, .ptr 4 0), (10, sS (some c.members.nil) eMember c.members.D), (11, .pv (.lit (.int .i64 (c.members.D.length : Int)))), (12, .pv (.lit (.int .i64 (i : Int))))]) (fun i v => [(2, .cells [.pv (.lit (.int .i64 v.1)), sS (some v.2.nil) eMember v.2.D]), (4, .cells [.pv (.lit (.int .i64 0)), sS (some true) eMember []])]) [2, 4] (fun i v => (readyAll_l0 alive (c.members.D.drop i) i v.1 v.2 = R) ∧ ((v.2.nil = true → v.2.D = []) ∧ v.2.D.length ≤ 1000000)) (c.epoch, c.members) ?_ ?_ (fun i v h1 hR => ?_)
 · exact ⟨hR, ⟨hn, hl1⟩⟩
 · exact ⟨fun b => b, WeakerR.ofL (Ks := [2, 4]) hI ⟨⟨rfl, rfl⟩, ⟨rfl, rfl⟩, ⟨rfl, rfl⟩, ⟨rfl, rfl⟩, ⟨rfl, rfl⟩, ⟨rfl, rfl⟩, trivial⟩ (okH_cons rfl rfl rfl rfl (okH_cons rfl rfl rfl rfl (okH_nil))) rfl⟩
 obtain ⟨vc, vc1⟩ := v
 obtain ⟨hR, ⟨hVn, hVl⟩⟩ := hR
 replace hVn : vc1.nil = true → vc1.D = [] := hVn
 replace hVl : vc1.D.length ≤ 1000000 := hVl
 refine Awp.cons C (fun _ => .pure) (by kernel_rfl) ?_
 refine rvP C (.pv (.lit (.bool (decide ((i : Int) < (c.members.D.length : Int)))))) rfl rfl rfl rfl ?_
 refine rvc_nil ?_
 refine Awp.seq ?_
 refine Awp.cond (b := (decide ((i : Int) < (c.members.D.length : Int)))) rfl (fun h2 => ?_) (fun h2 => ?_)
 ·
  have h3 : i < c.members.D.length := by have := of_decide_eq_true h2; omega
  obtain ⟨x, h4⟩ := getX h3
  rw [drop_at h4] at hR
  refine Awp.skip ?_
  refine Awp.seq ?_
  refine Awp.block ?_
  refine Awp.cons C (fun _ => .pure) (by kernel_rfl) ?_
  refine rvc_un (rexec_idxS C rfl rfl rfl rfl rfl rfl x (Int.natCast_nonneg _) h4 ?_)
  refine rvP C (.agg [.pv (.lit (.int .i64 x.node)), .pv (.lit (.int .i64 x.site)), .pv (.lit (.bool x.fresh))]) rfl rfl rfl rfl ?_
  refine rvc_un (rexec_prim C (δ := { v := .ptr 6 0, new := [(6, .cells [.pv (.lit (.int .i64 0)), .pv (.lit (.int .i64 0)), .pv (.lit (.bool false))])] }) rfl rfl rfl rfl trivial rfl ?_)
  refine rvc_un (rexec_prim C (δ := { v := .undef, wr := [(6, some (.cells [.pv (.lit (.int .i64 x.node)), .pv (.lit (.int .i64 x.site)), .pv (.lit (.bool x.fresh))]))] }) rfl rfl rfl rfl trivial rfl ?_)
  refine rvc_nil ?_
  refine Awp.cons C (fun _ => .pure) (by kernel_rfl) ?_
  refine rvP C (.agg [.pv (.lit (.int .i64 vc)), sS (some vc1.nil) eMember vc1.D]) rfl rfl rfl rfl ?_
  refine rvP C (.ptr 6 0) rfl rfl rfl rfl ?_
  refine rvP C (.pv (.lit (.int .i64 x.node))) rfl rfl rfl rfl ?_
  refine rvc_un (rexec_call hP C rfl rfl rfl (ready_calls (Chain.mk vc vc1) x.node hVn (by show vc1.D.length ≤ 1000000; have := of_decide_eq_true h2; omega)) ?_)
  refine rvP C (.tup [.agg [.pv (.lit (.int .i64 ((ready (Chain.mk vc vc1) x.node).1.epoch))), sS (some (ready (Chain.mk vc vc1) x.node).1.members.nil) eMember ((ready (Chain.mk vc vc1) x.node).1.members.D)], .pv (.lit (.int .i64 ((ready (Chain.mk vc vc1) x.node).2)))]) rfl rfl rfl rfl ?_
  refine rvP C (.agg [.pv (.lit (.int .i64 ((ready (Chain.mk vc vc1) x.node).1.epoch))), sS (some (ready (Chain.mk vc vc1) x.node).1.members.nil) eMember ((ready (Chain.mk vc vc1) x.node).1.members.D)]) rfl rfl rfl rfl ?_
  refine rvP C (.pv (.lit (.int .i64 ((ready (Chain.mk vc vc1) x.node).2)))) rfl rfl rfl rfl ?_
  refine rvc_un (rexec_prim C (δ := { v := .ptr 7 0, new := [(7, .cells [.pv (.lit (.int .i64 0)), sS (some true) eMember []])] }) rfl rfl rfl rfl trivial rfl ?_)
  refine rvc_un (rexec_prim C (δ := { v := .undef, wr := [(7, some (.cells [.pv (.lit (.int .i64 ((ready (Chain.mk vc vc1) x.node).1.epoch))), sS (some (ready (Chain.mk vc vc1) x.node).1.members.nil) eMember ((ready (Chain.mk vc vc1) x.node).1.members.D)]))] }) rfl rfl rfl rfl trivial rfl ?_)
  refine rvP C (.pv (.lit (.int .i64 ((ready (Chain.mk vc vc1) x.node).2)))) rfl rfl rfl rfl ?_
  refine rvc_nil ?_
  refine Awp.cons C (fun _ => .pure) (by kernel_rfl) ?_
  refine rvP C (.pv (.lit (.int .i64 ((ready (Chain.mk vc vc1) x.node).2)))) rfl rfl rfl rfl ?_
  refine rvP C (.pv (.lit (.bool (((ready (Chain.mk vc vc1) x.node).2) == 0)))) rfl rfl rfl rfl ?_
  refine rvP C (.pv (.lit (.bool (((ready (Chain.mk vc vc1) x.node).2) == 0)))) rfl rfl rfl rfl ?_
  refine rvc_case 25 (((ready (Chain.mk vc vc1) x.node).2) == 0) rfl (fun h5 => ?_) (fun h5 => ?_)
  ·
   replace hR := of_true h5 hR
   refine rvc_open rfl rfl rfl (rexec_prim C (δ := { v := .pv (.lit (.int .u64 alive)) }) rfl rfl rfl rfl trivial rfl ?_)
   refine rvc_open rfl rfl rfl (rexec_prim C (δ := { v := .ptr 6 0 }) rfl rfl rfl rfl trivial rfl ?_)
   refine rvc_open rfl rfl rfl (rexec_prim C (δ := { v := .pv (.lit (.int .i64 x.node)) }) rfl rfl rfl rfl trivial rfl ?_)
   refine rvc_open rfl rfl rfl (rexec_call hP C rfl rfl rfl (mHas_calls alive x.node) ?_)
   refine rvP C (.pv (.lit (.bool (mHas alive x.node)))) rfl rfl rfl rfl ?_
   refine rvc_nil ?_
   refine Awp.cond (b := (mHas alive x.node)) rfl (fun h6 => ?_) (fun h6 => ?_)
   ·
    replace hR := of_true h6 hR
    refine Awp.region C (fun _ => .pure) (by kernel_rfl) ?_
    refine rvP C (.agg [.pv (.lit (.int .i64 ((ready (Chain.mk vc vc1) x.node).1.epoch))), sS (some (ready (Chain.mk vc vc1) x.node).1.members.nil) eMember ((ready (Chain.mk vc vc1) x.node).1.members.D)]) rfl rfl rfl rfl ?_
    refine rvc_un (rexec_prim C (δ := { v := .undef, wr := [(2, some (.cells [.pv (.lit (.int .i64 ((ready (Chain.mk vc vc1) x.node).1.epoch))), sS (some (ready (Chain.mk vc vc1) x.node).1.members.nil) eMember ((ready (Chain.mk vc vc1) x.node).1.members.D)]))] }) rfl rfl rfl rfl trivial rfl ?_)
    refine rvc_nil ?_
    refine Awp.region C (fun _ => .pure) (by kernel_rfl) ?_
    refine rvP C (.pv (.lit (.int .i64 (IntKind.i64.wrap ((i : Int) + 1))))) rfl rfl rfl rfl ?_
    refine rvP C (.pv (.lit (.int .i64 (IntKind.i64.wrap ((i : Int) + 1))))) rfl rfl rfl rfl ?_
    refine rvc_nil ?_
    refine ⟨h3, ((ready (Chain.mk vc vc1) x.node).1.epoch, (ready (Chain.mk vc vc1) x.node).1.members), ?_, ?_⟩
    · exact ⟨hR, (by first | exact ⟨hVn, hVl⟩ | exact ⟨ready_hn _ _, Nat.le_trans (ready_len _ _) hVl⟩)⟩
    · exact ⟨fun b => b, WeakerR.ofL (Ks := [2, 4]) hI ⟨⟨rfl, rfl⟩, ⟨rfl, rfl⟩, ⟨rfl, rfl⟩, ⟨rfl, rfl⟩, ⟨rfl, rfl⟩, ⟨lit_cast (wrap_i64 (by omega) (by omega)), rfl⟩, trivial⟩ (okH_cons rfl rfl rfl rfl (okH_cons rfl rfl rfl rfl (okH_nil))) rfl⟩
   ·
    replace hR := of_false h6 hR
    refine Awp.skip ?_
    refine Awp.region C (fun _ => .pure) (by kernel_rfl) ?_
    refine rvP C (.pv (.lit (.int .i64 (IntKind.i64.wrap ((i : Int) + 1))))) rfl rfl rfl rfl ?_
    refine rvP C (.pv (.lit (.int .i64 (IntKind.i64.wrap ((i : Int) + 1))))) rfl rfl rfl rfl ?_
    refine rvc_nil ?_
    refine ⟨h3, (vc, vc1), ?_, ?_⟩
    · exact ⟨hR, (by first | exact ⟨hVn, hVl⟩ | exact ⟨ready_hn _ _, Nat.le_trans (ready_len _ _) hVl⟩)⟩
    · exact ⟨fun b => b, WeakerR.ofL (Ks := [2, 4]) hI ⟨⟨rfl, rfl⟩, ⟨rfl, rfl⟩, ⟨rfl, rfl⟩, ⟨rfl, rfl⟩, ⟨rfl, rfl⟩, ⟨lit_cast (wrap_i64 (by omega) (by omega)), rfl⟩, trivial⟩ (okH_cons rfl rfl rfl rfl (okH_cons rfl rfl rfl rfl (okH_nil))) rfl⟩
  ·
   replace hR := of_false h5 hR
   refine rvc_shut rfl rfl rfl rfl ?_
   refine rvc_shut rfl rfl rfl rfl ?_
   refine rvc_shut rfl rfl rfl rfl ?_
   refine rvc_shut rfl rfl rfl rfl ?_
   refine rvP C (.pv (.lit (.bool false))) rfl rfl rfl rfl ?_
   refine rvc_nil ?_
   refine Awp.condF (b := false) rfl rfl ?_
   refine Awp.skip ?_
   refine Awp.region C (fun _ => .pure) (by kernel_rfl) ?_
   refine rvP C (.pv (.lit (.int .i64 (IntKind.i64.wrap ((i : Int) + 1))))) rfl rfl rfl rfl ?_
   refine rvP C (.pv (.lit (.int .i64 (IntKind.i64.wrap ((i : Int) + 1))))) rfl rfl rfl rfl ?_
   refine rvc_nil ?_
   refine ⟨h3, (vc, vc1), ?_, ?_⟩
   · exact ⟨hR, (by first | exact ⟨hVn, hVl⟩ | exact ⟨ready_hn _ _, Nat.le_trans (ready_len _ _) hVl⟩)⟩
   · exact ⟨fun b => b, WeakerR.ofL (Ks := [2, 4]) hI ⟨⟨rfl, rfl⟩, ⟨rfl, rfl⟩, ⟨rfl, rfl⟩, ⟨rfl, rfl⟩, ⟨rfl, rfl⟩, ⟨lit_cast (wrap_i64 (by omega) (by omega)), rfl⟩, trivial⟩ (okH_cons rfl rfl rfl rfl (okH_cons rfl rfl rfl rfl (okH_nil))) rfl⟩
 ·
  have h3 : ¬ i < c.members.D.length := by have := of_decide_eq_false h2; omega
  rw [drop_end h3] at hR
  refine Awp.exit ?_
  refine Awp.cons C (fun _ => .pure) (by kernel_rfl) ?_
  refine rvP C (.agg [.pv (.lit (.int .i64 vc)), sS (some vc1.nil) eMember vc1.D]) rfl rfl rfl rfl ?_
  refine rvc_un (rexec_prim C (δ := { v := .undef, wr := [(4, some (.cells [.pv (.lit (.int .i64 vc)), sS (some vc1.nil) eMember vc1.D]))] }) rfl rfl rfl rfl trivial rfl ?_)
  refine rvc_nil ?_
  refine Awp.ret ?_
  subst hR
  exact ⟨.inl rfl, rfl⟩
end Go.Proofs.Ytaffaalpgpepeaa
