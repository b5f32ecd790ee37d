import Derived.Test.YtaffaalpgpepeaaM3
/- Small functions of plan. No conditions. -/
namespace Go.Proofs.Ytaffaalpgpepeaa
open Go.Am
structure Command where
  kind : Int
  node : Int
  site : Int
  epoch : Int
  deriving Inhabited
def eCommand : Enc Command := ⟨4, fun x => [.lit (.int .i64 x.kind), .lit (.int .i64 x.node), .lit (.int .i64 x.site), .lit (.int .i64 x.epoch)], fun _ => rfl⟩
def cmdCheck (c : Command) : Int :=
  (bif (decide (c.node ≥ 0)) then (bif (decide (c.site ≥ 0)) then (bif (decide (c.epoch ≥ 1)) then (bif (c.kind == 1) then (bif (decide (c.epoch ≤ 1099511627776)) then (bif (decide (c.node < 6)) then (bif (!(c.site == 0)) then 120 else 0) else 120) else 120) else (bif (c.kind == 3) then (bif (decide (c.epoch ≤ 1099511627776)) then (bif (decide (c.node < 6)) then (bif (!(c.site == 0)) then 120 else 0) else 120) else 120) else (bif (c.kind == 4) then (bif (decide (c.epoch ≤ 1099511627776)) then (bif (decide (c.node < 6)) then (bif (!(c.site == 0)) then 120 else 0) else 120) else 120) else (bif (c.kind == 2) then (bif (decide (c.epoch ≤ 1099511627776)) then (bif (decide (c.node < 6)) then (bif (!(decide (c.site < 3))) then 120 else 0) else 120) else 120) else (bif (c.kind == 5) then (bif (decide (c.epoch ≤ 1099511627776)) then (bif (decide (c.site < 3)) then (bif (!(c.node == 0)) then 120 else 0) else 120) else 120) else 120))))) else (bif (c.kind == 1) then 120 else (bif (c.kind == 3) then 120 else (bif (c.kind == 4) then 120 else (bif (c.kind == 2) then 120 else (bif (c.kind == 5) then 120 else 120)))))) else (bif (decide (c.epoch ≥ 1)) then (bif (c.kind == 1) then (bif (decide (c.epoch ≤ 1099511627776)) then (bif (decide (c.node < 6)) then (bif (!(c.site == 0)) then 120 else 0) else 120) else 120) else (bif (c.kind == 3) then (bif (decide (c.epoch ≤ 1099511627776)) then (bif (decide (c.node < 6)) then (bif (!(c.site == 0)) then 120 else 0) else 120) else 120) else (bif (c.kind == 4) then (bif (decide (c.epoch ≤ 1099511627776)) then (bif (decide (c.node < 6)) then (bif (!(c.site == 0)) then 120 else 0) else 120) else 120) else (bif (c.kind == 2) then (bif (decide (c.epoch ≤ 1099511627776)) then (bif (decide (c.node < 6)) then 120 else 120) else 120) else (bif (c.kind == 5) then (bif (decide (c.epoch ≤ 1099511627776)) then 120 else 120) else 120))))) else (bif (c.kind == 1) then 120 else (bif (c.kind == 3) then 120 else (bif (c.kind == 4) then 120 else (bif (c.kind == 2) then 120 else (bif (c.kind == 5) then 120 else 120))))))) else (bif (decide (c.site ≥ 0)) then (bif (decide (c.epoch ≥ 1)) then (bif (c.kind == 1) then (bif (decide (c.epoch ≤ 1099511627776)) then 120 else 120) else (bif (c.kind == 3) then (bif (decide (c.epoch ≤ 1099511627776)) then 120 else 120) else (bif (c.kind == 4) then (bif (decide (c.epoch ≤ 1099511627776)) then 120 else 120) else (bif (c.kind == 2) then (bif (decide (c.epoch ≤ 1099511627776)) then 120 else 120) else (bif (c.kind == 5) then (bif (decide (c.epoch ≤ 1099511627776)) then (bif (decide (c.site < 3)) then (bif (!(c.node == 0)) then 120 else 0) else 120) else 120) else 120))))) else (bif (c.kind == 1) then 120 else (bif (c.kind == 3) then 120 else (bif (c.kind == 4) then 120 else (bif (c.kind == 2) then 120 else (bif (c.kind == 5) then 120 else 120)))))) else (bif (decide (c.epoch ≥ 1)) then (bif (c.kind == 1) then (bif (decide (c.epoch ≤ 1099511627776)) then 120 else 120) else (bif (c.kind == 3) then (bif (decide (c.epoch ≤ 1099511627776)) then 120 else 120) else (bif (c.kind == 4) then (bif (decide (c.epoch ≤ 1099511627776)) then 120 else 120) else (bif (c.kind == 2) then (bif (decide (c.epoch ≤ 1099511627776)) then 120 else 120) else (bif (c.kind == 5) then (bif (decide (c.epoch ≤ 1099511627776)) then 120 else 120) else 120))))) else (bif (c.kind == 1) then 120 else (bif (c.kind == 3) then 120 else (bif (c.kind == 4) then 120 else (bif (c.kind == 2) then 120 else (bif (c.kind == 5) then 120 else 120))))))))
theorem cmdCheck_calls (c : Command)  : PCalls Try.prog 47 [.agg [.pv (.lit (.int .i64 c.kind)), .pv (.lit (.int .i64 c.node)), .pv (.lit (.int .i64 c.site)), .pv (.lit (.int .i64 c.epoch))]] (.pv (.lit (.int .i64 (cmdCheck c)))) := by
  generalize hR : cmdCheck c = R
  refine PCalls.of_body tabOk Try.func47 rfl rfl rfl rfl rfl mixed fun E hP C hI => ?_
  refine Awp.cons C (fun _ => .pure) (by kernel_rfl) ?_
  refine rvc_un (rexec_prim C (δ := { v := .ptr 1 0, new := [(1, .cells [.pv (.lit (.int .i64 c.kind)), .pv (.lit (.int .i64 c.node)), .pv (.lit (.int .i64 c.site)), .pv (.lit (.int .i64 c.epoch))])] }) rfl rfl rfl rfl trivial rfl ?_)
  refine rvc_un (rexec_prim C (δ := { v := .pv (.lit (.int .i64 0)) }) rfl rfl rfl rfl trivial rfl ?_)
  refine rvc_nil ?_
  refine Awp.cons C (fun _ => .pure) (by kernel_rfl) ?_
  refine rvc_un (rexec_prim C (δ := { v := .ptr 1 1 }) rfl rfl rfl rfl trivial rfl ?_)
  refine rvc_un (rexec_prim C (δ := { v := .pv (.lit (.int .i64 c.node)) }) rfl rfl rfl rfl trivial rfl ?_)
  refine rvc_un (rexec_prim C (δ := { v := .pv (.lit (.bool (decide (c.node ≥ 0)))) }) rfl rfl rfl rfl trivial rfl ?_)
  refine rvc_un (rexec_prim C (δ := { v := .pv (.lit (.bool (decide (c.node ≥ 0)))) }) rfl rfl rfl rfl trivial rfl ?_)
  refine rvc_case 9 (decide (c.node ≥ 0)) rfl (fun h1 => ?_) (fun h1 => ?_)
  ·
    replace hR := of_true h1 hR
    refine rvc_open rfl rfl rfl (rexec_prim C (δ := { v := .ptr 1 1 }) rfl rfl rfl rfl trivial rfl ?_)
    refine rvc_open rfl rfl rfl (rexec_prim C (δ := { v := .pv (.lit (.int .i64 c.node)) }) rfl rfl rfl rfl trivial rfl ?_)
    refine rvc_open rfl rfl rfl (rexec_prim C (δ := { v := .pv (.lit (.bool (decide (c.node < 6)))) }) rfl rfl rfl rfl trivial rfl ?_)
    refine rvc_un (rexec_prim C (δ := { v := .pv (.lit (.bool (decide (c.node < 6)))) }) rfl rfl rfl rfl trivial rfl ?_)
    refine rvc_un (rexec_prim C (δ := { v := .pv (.lit (.bool (decide (c.node < 6)))) }) rfl rfl rfl rfl trivial rfl ?_)
    refine rvc_nil ?_
    refine Awp.cons C (fun _ => .pure) (by kernel_rfl) ?_
    refine rvc_un (rexec_prim C (δ := { v := .ptr 1 2 }) rfl rfl rfl rfl trivial rfl ?_)
    refine rvc_un (rexec_prim C (δ := { v := .pv (.lit (.int .i64 c.site)) }) rfl rfl rfl rfl trivial rfl ?_)
    refine rvc_un (rexec_prim C (δ := { v := .pv (.lit (.bool (decide (c.site ≥ 0)))) }) rfl rfl rfl rfl trivial rfl ?_)
    refine rvc_un (rexec_prim C (δ := { v := .pv (.lit (.bool (decide (c.site ≥ 0)))) }) rfl rfl rfl rfl trivial rfl ?_)
    refine rvc_case 17 (decide (c.site ≥ 0)) rfl (fun h2 => ?_) (fun h2 => ?_)
    ·
      replace hR := of_true h2 hR
      refine rvc_open rfl rfl rfl (rexec_prim C (δ := { v := .ptr 1 2 }) rfl rfl rfl rfl trivial rfl ?_)
      refine rvc_open rfl rfl rfl (rexec_prim C (δ := { v := .pv (.lit (.int .i64 c.site)) }) rfl rfl rfl rfl trivial rfl ?_)
      refine rvc_open rfl rfl rfl (rexec_prim C (δ := { v := .pv (.lit (.bool (decide (c.site < 3)))) }) rfl rfl rfl rfl trivial rfl ?_)
      refine rvc_un (rexec_prim C (δ := { v := .pv (.lit (.bool (decide (c.site < 3)))) }) rfl rfl rfl rfl trivial rfl ?_)
      refine rvc_un (rexec_prim C (δ := { v := .pv (.lit (.bool (decide (c.site < 3)))) }) rfl rfl rfl rfl trivial rfl ?_)
      refine rvc_nil ?_
      refine Awp.cons C (fun _ => .pure) (by kernel_rfl) ?_
      refine rvc_un (rexec_prim C (δ := { v := .ptr 1 3 }) rfl rfl rfl rfl trivial rfl ?_)
      refine rvc_un (rexec_prim C (δ := { v := .pv (.lit (.int .i64 c.epoch)) }) rfl rfl rfl rfl trivial rfl ?_)
      refine rvc_un (rexec_prim C (δ := { v := .pv (.lit (.bool (decide (c.epoch ≥ 1)))) }) rfl rfl rfl rfl trivial rfl ?_)
      refine rvc_un (rexec_prim C (δ := { v := .pv (.lit (.bool (decide (c.epoch ≥ 1)))) }) rfl rfl rfl rfl trivial rfl ?_)
      refine rvc_case 25 (decide (c.epoch ≥ 1)) rfl (fun h3 => ?_) (fun h3 => ?_)
      ·
        replace hR := of_true h3 hR
        refine rvc_open rfl rfl rfl (rexec_prim C (δ := { v := .ptr 1 3 }) rfl rfl rfl rfl trivial rfl ?_)
        refine rvc_open rfl rfl rfl (rexec_prim C (δ := { v := .pv (.lit (.int .i64 c.epoch)) }) rfl rfl rfl rfl trivial rfl ?_)
        refine rvc_open rfl rfl rfl (rexec_prim C (δ := { v := .pv (.lit (.bool (decide (c.epoch ≤ 1099511627776)))) }) rfl rfl rfl rfl trivial rfl ?_)
        refine rvc_un (rexec_prim C (δ := { v := .pv (.lit (.bool (decide (c.epoch ≤ 1099511627776)))) }) rfl rfl rfl rfl trivial rfl ?_)
        refine rvc_un (rexec_prim C (δ := { v := .pv (.lit (.bool (decide (c.epoch ≤ 1099511627776)))) }) rfl rfl rfl rfl trivial rfl ?_)
        refine rvc_nil ?_
        refine Awp.seq ?_
        refine Awp.cons C (fun _ => .pure) (by kernel_rfl) ?_
        refine rvc_un (rexec_prim C (δ := { v := .ptr 1 0 }) rfl rfl rfl rfl trivial rfl ?_)
        refine rvc_un (rexec_prim C (δ := { v := .pv (.lit (.int .i64 c.kind)) }) rfl rfl rfl rfl trivial rfl ?_)
        refine rvc_nil ?_
        refine Awp.block ?_
        refine Awp.seq ?_
        refine Awp.cons C (fun _ => .pure) (by kernel_rfl) ?_
        refine rvc_un (rexec_prim C (δ := { v := .pv (.lit (.bool (c.kind == 1))) }) rfl rfl rfl rfl trivial rfl ?_)
        refine rvc_un (rexec_prim C (δ := { v := .pv (.lit (.bool (c.kind == 1))) }) rfl rfl rfl rfl trivial rfl ?_)
        refine rvc_nil ?_
        refine Awp.cond (b := (c.kind == 1)) rfl (fun h4 => ?_) (fun h4 => ?_)
        ·
          replace hR := of_true h4 hR
          refine Awp.skip ?_
          refine Awp.condT (b := (c.kind == 1)) rfl h4 ?_
          refine Awp.region C (fun _ => .pure) (by kernel_rfl) ?_
          refine rvc_un (rexec_prim C (δ := { v := .pv (.lit (.bool (decide (c.epoch ≤ 1099511627776)))) }) rfl rfl rfl rfl trivial rfl ?_)
          refine rvc_un (rexec_prim C (δ := { v := .pv (.lit (.bool (decide (c.epoch ≤ 1099511627776)))) }) rfl rfl rfl rfl trivial rfl ?_)
          refine rvc_case 37 (decide (c.epoch ≤ 1099511627776)) rfl (fun h5 => ?_) (fun h5 => ?_)
          ·
            replace hR := of_true h5 hR
            refine rvc_open rfl rfl rfl (rexec_prim C (δ := { v := .pv (.lit (.bool (decide (c.node < 6)))) }) rfl rfl rfl rfl trivial rfl ?_)
            refine rvc_un (rexec_prim C (δ := { v := .pv (.lit (.bool (decide (c.node < 6)))) }) rfl rfl rfl rfl trivial rfl ?_)
            refine rvc_un (rexec_prim C (δ := { v := .pv (.lit (.bool (decide (c.node < 6)))) }) rfl rfl rfl rfl trivial rfl ?_)
            refine rvc_case 40 (decide (c.node < 6)) rfl (fun h6 => ?_) (fun h6 => ?_)
            ·
              replace hR := of_true h6 hR
              refine rvc_open rfl rfl rfl (rexec_prim C (δ := { v := .ptr 1 2 }) rfl rfl rfl rfl trivial rfl ?_)
              refine rvc_open rfl rfl rfl (rexec_prim C (δ := { v := .pv (.lit (.int .i64 c.site)) }) rfl rfl rfl rfl trivial rfl ?_)
              refine rvc_open rfl rfl rfl (rexec_prim C (δ := { v := .pv (.lit (.bool (c.site == 0))) }) rfl rfl rfl rfl trivial rfl ?_)
              refine rvc_un (rexec_prim C (δ := { v := .pv (.lit (.bool (c.site == 0))) }) rfl rfl rfl rfl trivial rfl ?_)
              refine rvc_un (rexec_prim C (δ := { v := .pv (.lit (.bool (c.site == 0))) }) rfl rfl rfl rfl trivial rfl ?_)
              refine rvc_nil ?_
              refine Awp.seq ?_
              refine Awp.cons C (fun _ => .pure) (by kernel_rfl) ?_
              refine rvc_un (rexec_prim C (δ := { v := .pv (.lit (.bool (c.site == 0))) }) rfl rfl rfl rfl trivial rfl ?_)
              refine rvc_un (rexec_prim C (δ := { v := .pv (.lit (.bool (!(c.site == 0)))) }) rfl rfl rfl rfl trivial rfl ?_)
              refine rvc_nil ?_
              refine Awp.cond (b := (!(c.site == 0))) rfl (fun h7 => ?_) (fun h7 => ?_)
              ·
                replace hR := of_true h7 hR
                refine Awp.cons C (fun _ => .pure) (by kernel_rfl) ?_
                refine rvc_un (rexec_prim C (δ := { v := .pv (.lit (.int .i64 120)) }) rfl rfl rfl rfl trivial rfl ?_)
                refine rvc_nil ?_
                refine Awp.ret ?_
                subst hR
                exact ⟨.inl rfl, rfl⟩
              ·
                replace hR := of_false h7 hR
                refine Awp.skip ?_
                refine Awp.cons C (fun _ => .pure) (by kernel_rfl) ?_
                refine rvc_un (rexec_prim C (δ := { v := .pv (.lit (.int .i64 0)) }) rfl rfl rfl rfl trivial rfl ?_)
                refine rvc_nil ?_
                refine Awp.ret ?_
                subst hR
                exact ⟨.inl rfl, rfl⟩
            ·
              replace hR := of_false h6 hR
              refine rvc_shut rfl rfl rfl rfl ?_
              refine rvc_shut rfl rfl rfl rfl ?_
              refine rvc_shut rfl rfl rfl rfl ?_
              refine rvc_un (rexec_prim C (δ := { v := .pv (.lit (.bool false)) }) rfl rfl rfl rfl trivial rfl ?_)
              refine rvc_un (rexec_prim C (δ := { v := .pv (.lit (.bool false)) }) rfl rfl rfl rfl trivial rfl ?_)
              refine rvc_nil ?_
              refine Awp.seq ?_
              refine Awp.cons C (fun _ => .pure) (by kernel_rfl) ?_
              refine rvc_un (rexec_prim C (δ := { v := .pv (.lit (.bool false)) }) rfl rfl rfl rfl trivial rfl ?_)
              refine rvc_un (rexec_prim C (δ := { v := .pv (.lit (.bool true)) }) rfl rfl rfl rfl trivial rfl ?_)
              refine rvc_nil ?_
              refine Awp.condT (b := true) rfl rfl ?_
              refine Awp.cons C (fun _ => .pure) (by kernel_rfl) ?_
              refine rvc_un (rexec_prim C (δ := { v := .pv (.lit (.int .i64 120)) }) rfl rfl rfl rfl trivial rfl ?_)
              refine rvc_nil ?_
              refine Awp.ret ?_
              subst hR
              exact ⟨.inl rfl, rfl⟩
          ·
            replace hR := of_false h5 hR
            refine rvc_shut rfl rfl rfl rfl ?_
            refine rvc_un (rexec_prim C (δ := { v := .pv (.lit (.bool false)) }) rfl rfl rfl rfl trivial rfl ?_)
            refine rvc_un (rexec_prim C (δ := { v := .pv (.lit (.bool false)) }) rfl rfl rfl rfl trivial rfl ?_)
            refine rvc_shut rfl rfl rfl rfl ?_
            refine rvc_shut rfl rfl rfl rfl ?_
            refine rvc_shut rfl rfl rfl rfl ?_
            refine rvc_un (rexec_prim C (δ := { v := .pv (.lit (.bool false)) }) rfl rfl rfl rfl trivial rfl ?_)
            refine rvc_un (rexec_prim C (δ := { v := .pv (.lit (.bool false)) }) rfl rfl rfl rfl trivial rfl ?_)
            refine rvc_nil ?_
            refine Awp.seq ?_
            refine Awp.cons C (fun _ => .pure) (by kernel_rfl) ?_
            refine rvc_un (rexec_prim C (δ := { v := .pv (.lit (.bool false)) }) rfl rfl rfl rfl trivial rfl ?_)
            refine rvc_un (rexec_prim C (δ := { v := .pv (.lit (.bool true)) }) rfl rfl rfl rfl trivial rfl ?_)
            refine rvc_nil ?_
            refine Awp.condT (b := true) rfl rfl ?_
            refine Awp.cons C (fun _ => .pure) (by kernel_rfl) ?_
            refine rvc_un (rexec_prim C (δ := { v := .pv (.lit (.int .i64 120)) }) rfl rfl rfl rfl trivial rfl ?_)
            refine rvc_nil ?_
            refine Awp.ret ?_
            subst hR
            exact ⟨.inl rfl, rfl⟩
        ·
          replace hR := of_false h4 hR
          refine Awp.cons C (fun _ => .pure) (by kernel_rfl) ?_
          refine rvc_un (rexec_prim C (δ := { v := .pv (.lit (.bool (c.kind == 3))) }) rfl rfl rfl rfl trivial rfl ?_)
          refine rvc_un (rexec_prim C (δ := { v := .pv (.lit (.bool (c.kind == 3))) }) rfl rfl rfl rfl trivial rfl ?_)
          refine rvc_nil ?_
          refine Awp.cond (b := (c.kind == 3)) rfl (fun h8 => ?_) (fun h8 => ?_)
          ·
            replace hR := of_true h8 hR
            refine Awp.skip ?_
            refine Awp.condT (b := (c.kind == 3)) rfl h8 ?_
            refine Awp.region C (fun _ => .pure) (by kernel_rfl) ?_
            refine rvc_un (rexec_prim C (δ := { v := .pv (.lit (.bool (decide (c.epoch ≤ 1099511627776)))) }) rfl rfl rfl rfl trivial rfl ?_)
            refine rvc_un (rexec_prim C (δ := { v := .pv (.lit (.bool (decide (c.epoch ≤ 1099511627776)))) }) rfl rfl rfl rfl trivial rfl ?_)
            refine rvc_case 37 (decide (c.epoch ≤ 1099511627776)) rfl (fun h9 => ?_) (fun h9 => ?_)
            ·
              replace hR := of_true h9 hR
              refine rvc_open rfl rfl rfl (rexec_prim C (δ := { v := .pv (.lit (.bool (decide (c.node < 6)))) }) rfl rfl rfl rfl trivial rfl ?_)
              refine rvc_un (rexec_prim C (δ := { v := .pv (.lit (.bool (decide (c.node < 6)))) }) rfl rfl rfl rfl trivial rfl ?_)
              refine rvc_un (rexec_prim C (δ := { v := .pv (.lit (.bool (decide (c.node < 6)))) }) rfl rfl rfl rfl trivial rfl ?_)
              refine rvc_case 40 (decide (c.node < 6)) rfl (fun h10 => ?_) (fun h10 => ?_)
              ·
                replace hR := of_true h10 hR
                refine rvc_open rfl rfl rfl (rexec_prim C (δ := { v := .ptr 1 2 }) rfl rfl rfl rfl trivial rfl ?_)
                refine rvc_open rfl rfl rfl (rexec_prim C (δ := { v := .pv (.lit (.int .i64 c.site)) }) rfl rfl rfl rfl trivial rfl ?_)
                refine rvc_open rfl rfl rfl (rexec_prim C (δ := { v := .pv (.lit (.bool (c.site == 0))) }) rfl rfl rfl rfl trivial rfl ?_)
                refine rvc_un (rexec_prim C (δ := { v := .pv (.lit (.bool (c.site == 0))) }) rfl rfl rfl rfl trivial rfl ?_)
                refine rvc_un (rexec_prim C (δ := { v := .pv (.lit (.bool (c.site == 0))) }) rfl rfl rfl rfl trivial rfl ?_)
                refine rvc_nil ?_
                refine Awp.seq ?_
                refine Awp.cons C (fun _ => .pure) (by kernel_rfl) ?_
                refine rvc_un (rexec_prim C (δ := { v := .pv (.lit (.bool (c.site == 0))) }) rfl rfl rfl rfl trivial rfl ?_)
                refine rvc_un (rexec_prim C (δ := { v := .pv (.lit (.bool (!(c.site == 0)))) }) rfl rfl rfl rfl trivial rfl ?_)
                refine rvc_nil ?_
                refine Awp.cond (b := (!(c.site == 0))) rfl (fun h11 => ?_) (fun h11 => ?_)
                ·
                  replace hR := of_true h11 hR
                  refine Awp.cons C (fun _ => .pure) (by kernel_rfl) ?_
                  refine rvc_un (rexec_prim C (δ := { v := .pv (.lit (.int .i64 120)) }) rfl rfl rfl rfl trivial rfl ?_)
                  refine rvc_nil ?_
                  refine Awp.ret ?_
                  subst hR
                  exact ⟨.inl rfl, rfl⟩
                ·
                  replace hR := of_false h11 hR
                  refine Awp.skip ?_
                  refine Awp.cons C (fun _ => .pure) (by kernel_rfl) ?_
                  refine rvc_un (rexec_prim C (δ := { v := .pv (.lit (.int .i64 0)) }) rfl rfl rfl rfl trivial rfl ?_)
                  refine rvc_nil ?_
                  refine Awp.ret ?_
                  subst hR
                  exact ⟨.inl rfl, rfl⟩
              ·
                replace hR := of_false h10 hR
                refine rvc_shut rfl rfl rfl rfl ?_
                refine rvc_shut rfl rfl rfl rfl ?_
                refine rvc_shut rfl rfl rfl rfl ?_
                refine rvc_un (rexec_prim C (δ := { v := .pv (.lit (.bool false)) }) rfl rfl rfl rfl trivial rfl ?_)
                refine rvc_un (rexec_prim C (δ := { v := .pv (.lit (.bool false)) }) rfl rfl rfl rfl trivial rfl ?_)
                refine rvc_nil ?_
                refine Awp.seq ?_
                refine Awp.cons C (fun _ => .pure) (by kernel_rfl) ?_
                refine rvc_un (rexec_prim C (δ := { v := .pv (.lit (.bool false)) }) rfl rfl rfl rfl trivial rfl ?_)
                refine rvc_un (rexec_prim C (δ := { v := .pv (.lit (.bool true)) }) rfl rfl rfl rfl trivial rfl ?_)
                refine rvc_nil ?_
                refine Awp.condT (b := true) rfl rfl ?_
                refine Awp.cons C (fun _ => .pure) (by kernel_rfl) ?_
                refine rvc_un (rexec_prim C (δ := { v := .pv (.lit (.int .i64 120)) }) rfl rfl rfl rfl trivial rfl ?_)
                refine rvc_nil ?_
                refine Awp.ret ?_
                subst hR
                exact ⟨.inl rfl, rfl⟩
            ·
              replace hR := of_false h9 hR
              refine rvc_shut rfl rfl rfl rfl ?_
              refine rvc_un (rexec_prim C (δ := { v := .pv (.lit (.bool false)) }) rfl rfl rfl rfl trivial rfl ?_)
              refine rvc_un (rexec_prim C (δ := { v := .pv (.lit (.bool false)) }) rfl rfl rfl rfl trivial rfl ?_)
              refine rvc_shut rfl rfl rfl rfl ?_
              refine rvc_shut rfl rfl rfl rfl ?_
              refine rvc_shut rfl rfl rfl rfl ?_
              refine rvc_un (rexec_prim C (δ := { v := .pv (.lit (.bool false)) }) rfl rfl rfl rfl trivial rfl ?_)
              refine rvc_un (rexec_prim C (δ := { v := .pv (.lit (.bool false)) }) rfl rfl rfl rfl trivial rfl ?_)
              refine rvc_nil ?_
              refine Awp.seq ?_
              refine Awp.cons C (fun _ => .pure) (by kernel_rfl) ?_
              refine rvc_un (rexec_prim C (δ := { v := .pv (.lit (.bool false)) }) rfl rfl rfl rfl trivial rfl ?_)
              refine rvc_un (rexec_prim C (δ := { v := .pv (.lit (.bool true)) }) rfl rfl rfl rfl trivial rfl ?_)
              refine rvc_nil ?_
              refine Awp.condT (b := true) rfl rfl ?_
              refine Awp.cons C (fun _ => .pure) (by kernel_rfl) ?_
              refine rvc_un (rexec_prim C (δ := { v := .pv (.lit (.int .i64 120)) }) rfl rfl rfl rfl trivial rfl ?_)
              refine rvc_nil ?_
              refine Awp.ret ?_
              subst hR
              exact ⟨.inl rfl, rfl⟩
          ·
            replace hR := of_false h8 hR
            refine Awp.region C (fun _ => .pure) (by kernel_rfl) ?_
            refine rvc_un (rexec_prim C (δ := { v := .pv (.lit (.bool (c.kind == 4))) }) rfl rfl rfl rfl trivial rfl ?_)
            refine rvc_un (rexec_prim C (δ := { v := .pv (.lit (.bool (c.kind == 4))) }) rfl rfl rfl rfl trivial rfl ?_)
            refine rvc_nil ?_
            refine Awp.cond (b := (c.kind == 4)) rfl (fun h12 => ?_) (fun h12 => ?_)
            ·
              replace hR := of_true h12 hR
              refine Awp.region C (fun _ => .pure) (by kernel_rfl) ?_
              refine rvc_un (rexec_prim C (δ := { v := .pv (.lit (.bool (decide (c.epoch ≤ 1099511627776)))) }) rfl rfl rfl rfl trivial rfl ?_)
              refine rvc_un (rexec_prim C (δ := { v := .pv (.lit (.bool (decide (c.epoch ≤ 1099511627776)))) }) rfl rfl rfl rfl trivial rfl ?_)
              refine rvc_case 37 (decide (c.epoch ≤ 1099511627776)) rfl (fun h13 => ?_) (fun h13 => ?_)
              ·
                replace hR := of_true h13 hR
                refine rvc_open rfl rfl rfl (rexec_prim C (δ := { v := .pv (.lit (.bool (decide (c.node < 6)))) }) rfl rfl rfl rfl trivial rfl ?_)
                refine rvc_un (rexec_prim C (δ := { v := .pv (.lit (.bool (decide (c.node < 6)))) }) rfl rfl rfl rfl trivial rfl ?_)
                refine rvc_un (rexec_prim C (δ := { v := .pv (.lit (.bool (decide (c.node < 6)))) }) rfl rfl rfl rfl trivial rfl ?_)
                refine rvc_case 40 (decide (c.node < 6)) rfl (fun h14 => ?_) (fun h14 => ?_)
                ·
                  replace hR := of_true h14 hR
                  refine rvc_open rfl rfl rfl (rexec_prim C (δ := { v := .ptr 1 2 }) rfl rfl rfl rfl trivial rfl ?_)
                  refine rvc_open rfl rfl rfl (rexec_prim C (δ := { v := .pv (.lit (.int .i64 c.site)) }) rfl rfl rfl rfl trivial rfl ?_)
                  refine rvc_open rfl rfl rfl (rexec_prim C (δ := { v := .pv (.lit (.bool (c.site == 0))) }) rfl rfl rfl rfl trivial rfl ?_)
                  refine rvc_un (rexec_prim C (δ := { v := .pv (.lit (.bool (c.site == 0))) }) rfl rfl rfl rfl trivial rfl ?_)
                  refine rvc_un (rexec_prim C (δ := { v := .pv (.lit (.bool (c.site == 0))) }) rfl rfl rfl rfl trivial rfl ?_)
                  refine rvc_nil ?_
                  refine Awp.seq ?_
                  refine Awp.cons C (fun _ => .pure) (by kernel_rfl) ?_
                  refine rvc_un (rexec_prim C (δ := { v := .pv (.lit (.bool (c.site == 0))) }) rfl rfl rfl rfl trivial rfl ?_)
                  refine rvc_un (rexec_prim C (δ := { v := .pv (.lit (.bool (!(c.site == 0)))) }) rfl rfl rfl rfl trivial rfl ?_)
                  refine rvc_nil ?_
                  refine Awp.cond (b := (!(c.site == 0))) rfl (fun h15 => ?_) (fun h15 => ?_)
                  ·
                    replace hR := of_true h15 hR
                    refine Awp.cons C (fun _ => .pure) (by kernel_rfl) ?_
                    refine rvc_un (rexec_prim C (δ := { v := .pv (.lit (.int .i64 120)) }) rfl rfl rfl rfl trivial rfl ?_)
                    refine rvc_nil ?_
                    refine Awp.ret ?_
                    subst hR
                    exact ⟨.inl rfl, rfl⟩
                  ·
                    replace hR := of_false h15 hR
                    refine Awp.skip ?_
                    refine Awp.cons C (fun _ => .pure) (by kernel_rfl) ?_
                    refine rvc_un (rexec_prim C (δ := { v := .pv (.lit (.int .i64 0)) }) rfl rfl rfl rfl trivial rfl ?_)
                    refine rvc_nil ?_
                    refine Awp.ret ?_
                    subst hR
                    exact ⟨.inl rfl, rfl⟩
                ·
                  replace hR := of_false h14 hR
                  refine rvc_shut rfl rfl rfl rfl ?_
                  refine rvc_shut rfl rfl rfl rfl ?_
                  refine rvc_shut rfl rfl rfl rfl ?_
                  refine rvc_un (rexec_prim C (δ := { v := .pv (.lit (.bool false)) }) rfl rfl rfl rfl trivial rfl ?_)
                  refine rvc_un (rexec_prim C (δ := { v := .pv (.lit (.bool false)) }) rfl rfl rfl rfl trivial rfl ?_)
                  refine rvc_nil ?_
                  refine Awp.seq ?_
                  refine Awp.cons C (fun _ => .pure) (by kernel_rfl) ?_
                  refine rvc_un (rexec_prim C (δ := { v := .pv (.lit (.bool false)) }) rfl rfl rfl rfl trivial rfl ?_)
                  refine rvc_un (rexec_prim C (δ := { v := .pv (.lit (.bool true)) }) rfl rfl rfl rfl trivial rfl ?_)
                  refine rvc_nil ?_
                  refine Awp.condT (b := true) rfl rfl ?_
                  refine Awp.cons C (fun _ => .pure) (by kernel_rfl) ?_
                  refine rvc_un (rexec_prim C (δ := { v := .pv (.lit (.int .i64 120)) }) rfl rfl rfl rfl trivial rfl ?_)
                  refine rvc_nil ?_
                  refine Awp.ret ?_
                  subst hR
                  exact ⟨.inl rfl, rfl⟩
              ·
                replace hR := of_false h13 hR
                refine rvc_shut rfl rfl rfl rfl ?_
                refine rvc_un (rexec_prim C (δ := { v := .pv (.lit (.bool false)) }) rfl rfl rfl rfl trivial rfl ?_)
                refine rvc_un (rexec_prim C (δ := { v := .pv (.lit (.bool false)) }) rfl rfl rfl rfl trivial rfl ?_)
                refine rvc_shut rfl rfl rfl rfl ?_
                refine rvc_shut rfl rfl rfl rfl ?_
                refine rvc_shut rfl rfl rfl rfl ?_
                refine rvc_un (rexec_prim C (δ := { v := .pv (.lit (.bool false)) }) rfl rfl rfl rfl trivial rfl ?_)
                refine rvc_un (rexec_prim C (δ := { v := .pv (.lit (.bool false)) }) rfl rfl rfl rfl trivial rfl ?_)
                refine rvc_nil ?_
                refine Awp.seq ?_
                refine Awp.cons C (fun _ => .pure) (by kernel_rfl) ?_
                refine rvc_un (rexec_prim C (δ := { v := .pv (.lit (.bool false)) }) rfl rfl rfl rfl trivial rfl ?_)
                refine rvc_un (rexec_prim C (δ := { v := .pv (.lit (.bool true)) }) rfl rfl rfl rfl trivial rfl ?_)
                refine rvc_nil ?_
                refine Awp.condT (b := true) rfl rfl ?_
                refine Awp.cons C (fun _ => .pure) (by kernel_rfl) ?_
                refine rvc_un (rexec_prim C (δ := { v := .pv (.lit (.int .i64 120)) }) rfl rfl rfl rfl trivial rfl ?_)
                refine rvc_nil ?_
                refine Awp.ret ?_
                subst hR
                exact ⟨.inl rfl, rfl⟩
            ·
              replace hR := of_false h12 hR
              refine Awp.cons C (fun _ => .pure) (by kernel_rfl) ?_
              refine rvc_un (rexec_prim C (δ := { v := .pv (.lit (.bool (c.kind == 2))) }) rfl rfl rfl rfl trivial rfl ?_)
              refine rvc_un (rexec_prim C (δ := { v := .pv (.lit (.bool (c.kind == 2))) }) rfl rfl rfl rfl trivial rfl ?_)
              refine rvc_nil ?_
              refine Awp.cond (b := (c.kind == 2)) rfl (fun h16 => ?_) (fun h16 => ?_)
              ·
                replace hR := of_true h16 hR
                refine Awp.region C (fun _ => .pure) (by kernel_rfl) ?_
                refine rvc_un (rexec_prim C (δ := { v := .pv (.lit (.bool (decide (c.epoch ≤ 1099511627776)))) }) rfl rfl rfl rfl trivial rfl ?_)
                refine rvc_un (rexec_prim C (δ := { v := .pv (.lit (.bool (decide (c.epoch ≤ 1099511627776)))) }) rfl rfl rfl rfl trivial rfl ?_)
                refine rvc_case 48 (decide (c.epoch ≤ 1099511627776)) rfl (fun h17 => ?_) (fun h17 => ?_)
                ·
                  replace hR := of_true h17 hR
                  refine rvc_open rfl rfl rfl (rexec_prim C (δ := { v := .pv (.lit (.bool (decide (c.node < 6)))) }) rfl rfl rfl rfl trivial rfl ?_)
                  refine rvc_un (rexec_prim C (δ := { v := .pv (.lit (.bool (decide (c.node < 6)))) }) rfl rfl rfl rfl trivial rfl ?_)
                  refine rvc_un (rexec_prim C (δ := { v := .pv (.lit (.bool (decide (c.node < 6)))) }) rfl rfl rfl rfl trivial rfl ?_)
                  refine rvc_case 51 (decide (c.node < 6)) rfl (fun h18 => ?_) (fun h18 => ?_)
                  ·
                    replace hR := of_true h18 hR
                    refine rvc_open rfl rfl rfl (rexec_prim C (δ := { v := .pv (.lit (.bool (decide (c.site < 3)))) }) rfl rfl rfl rfl trivial rfl ?_)
                    refine rvc_un (rexec_prim C (δ := { v := .pv (.lit (.bool (decide (c.site < 3)))) }) rfl rfl rfl rfl trivial rfl ?_)
                    refine rvc_un (rexec_prim C (δ := { v := .pv (.lit (.bool (decide (c.site < 3)))) }) rfl rfl rfl rfl trivial rfl ?_)
                    refine rvc_nil ?_
                    refine Awp.seq ?_
                    refine Awp.cons C (fun _ => .pure) (by kernel_rfl) ?_
                    refine rvc_un (rexec_prim C (δ := { v := .pv (.lit (.bool (decide (c.site < 3)))) }) rfl rfl rfl rfl trivial rfl ?_)
                    refine rvc_un (rexec_prim C (δ := { v := .pv (.lit (.bool (!(decide (c.site < 3))))) }) rfl rfl rfl rfl trivial rfl ?_)
                    refine rvc_nil ?_
                    refine Awp.cond (b := (!(decide (c.site < 3)))) rfl (fun h19 => ?_) (fun h19 => ?_)
                    ·
                      replace hR := of_true h19 hR
                      refine Awp.cons C (fun _ => .pure) (by kernel_rfl) ?_
                      refine rvc_un (rexec_prim C (δ := { v := .pv (.lit (.int .i64 120)) }) rfl rfl rfl rfl trivial rfl ?_)
                      refine rvc_nil ?_
                      refine Awp.ret ?_
                      subst hR
                      exact ⟨.inl rfl, rfl⟩
                    ·
                      replace hR := of_false h19 hR
                      refine Awp.skip ?_
                      refine Awp.cons C (fun _ => .pure) (by kernel_rfl) ?_
                      refine rvc_un (rexec_prim C (δ := { v := .pv (.lit (.int .i64 0)) }) rfl rfl rfl rfl trivial rfl ?_)
                      refine rvc_nil ?_
                      refine Awp.ret ?_
                      subst hR
                      exact ⟨.inl rfl, rfl⟩
                  ·
                    replace hR := of_false h18 hR
                    refine rvc_shut rfl rfl rfl rfl ?_
                    refine rvc_un (rexec_prim C (δ := { v := .pv (.lit (.bool false)) }) rfl rfl rfl rfl trivial rfl ?_)
                    refine rvc_un (rexec_prim C (δ := { v := .pv (.lit (.bool false)) }) rfl rfl rfl rfl trivial rfl ?_)
                    refine rvc_nil ?_
                    refine Awp.seq ?_
                    refine Awp.cons C (fun _ => .pure) (by kernel_rfl) ?_
                    refine rvc_un (rexec_prim C (δ := { v := .pv (.lit (.bool false)) }) rfl rfl rfl rfl trivial rfl ?_)
                    refine rvc_un (rexec_prim C (δ := { v := .pv (.lit (.bool true)) }) rfl rfl rfl rfl trivial rfl ?_)
                    refine rvc_nil ?_
                    refine Awp.condT (b := true) rfl rfl ?_
                    refine Awp.cons C (fun _ => .pure) (by kernel_rfl) ?_
                    refine rvc_un (rexec_prim C (δ := { v := .pv (.lit (.int .i64 120)) }) rfl rfl rfl rfl trivial rfl ?_)
                    refine rvc_nil ?_
                    refine Awp.ret ?_
                    subst hR
                    exact ⟨.inl rfl, rfl⟩
                ·
                  replace hR := of_false h17 hR
                  refine rvc_shut rfl rfl rfl rfl ?_
                  refine rvc_un (rexec_prim C (δ := { v := .pv (.lit (.bool false)) }) rfl rfl rfl rfl trivial rfl ?_)
                  refine rvc_un (rexec_prim C (δ := { v := .pv (.lit (.bool false)) }) rfl rfl rfl rfl trivial rfl ?_)
                  refine rvc_shut rfl rfl rfl rfl ?_
                  refine rvc_un (rexec_prim C (δ := { v := .pv (.lit (.bool false)) }) rfl rfl rfl rfl trivial rfl ?_)
                  refine rvc_un (rexec_prim C (δ := { v := .pv (.lit (.bool false)) }) rfl rfl rfl rfl trivial rfl ?_)
                  refine rvc_nil ?_
                  refine Awp.seq ?_
                  refine Awp.cons C (fun _ => .pure) (by kernel_rfl) ?_
                  refine rvc_un (rexec_prim C (δ := { v := .pv (.lit (.bool false)) }) rfl rfl rfl rfl trivial rfl ?_)
                  refine rvc_un (rexec_prim C (δ := { v := .pv (.lit (.bool true)) }) rfl rfl rfl rfl trivial rfl ?_)
                  refine rvc_nil ?_
                  refine Awp.condT (b := true) rfl rfl ?_
                  refine Awp.cons C (fun _ => .pure) (by kernel_rfl) ?_
                  refine rvc_un (rexec_prim C (δ := { v := .pv (.lit (.int .i64 120)) }) rfl rfl rfl rfl trivial rfl ?_)
                  refine rvc_nil ?_
                  refine Awp.ret ?_
                  subst hR
                  exact ⟨.inl rfl, rfl⟩
              ·
                replace hR := of_false h16 hR
                refine Awp.cons C (fun _ => .pure) (by kernel_rfl) ?_
                refine rvc_un (rexec_prim C (δ := { v := .pv (.lit (.bool (c.kind == 5))) }) rfl rfl rfl rfl trivial rfl ?_)
                refine rvc_un (rexec_prim C (δ := { v := .pv (.lit (.bool (c.kind == 5))) }) rfl rfl rfl rfl trivial rfl ?_)
                refine rvc_nil ?_
                refine Awp.cond (b := (c.kind == 5)) rfl (fun h20 => ?_) (fun h20 => ?_)
                ·
                  replace hR := of_true h20 hR
                  refine Awp.region C (fun _ => .pure) (by kernel_rfl) ?_
                  refine rvc_un (rexec_prim C (δ := { v := .pv (.lit (.bool (decide (c.epoch ≤ 1099511627776)))) }) rfl rfl rfl rfl trivial rfl ?_)
                  refine rvc_un (rexec_prim C (δ := { v := .pv (.lit (.bool (decide (c.epoch ≤ 1099511627776)))) }) rfl rfl rfl rfl trivial rfl ?_)
                  refine rvc_case 57 (decide (c.epoch ≤ 1099511627776)) rfl (fun h21 => ?_) (fun h21 => ?_)
                  ·
                    replace hR := of_true h21 hR
                    refine rvc_open rfl rfl rfl (rexec_prim C (δ := { v := .pv (.lit (.bool (decide (c.site < 3)))) }) rfl rfl rfl rfl trivial rfl ?_)
                    refine rvc_un (rexec_prim C (δ := { v := .pv (.lit (.bool (decide (c.site < 3)))) }) rfl rfl rfl rfl trivial rfl ?_)
                    refine rvc_un (rexec_prim C (δ := { v := .pv (.lit (.bool (decide (c.site < 3)))) }) rfl rfl rfl rfl trivial rfl ?_)
                    refine rvc_case 60 (decide (c.site < 3)) rfl (fun h22 => ?_) (fun h22 => ?_)
                    ·
                      replace hR := of_true h22 hR
                      refine rvc_open rfl rfl rfl (rexec_prim C (δ := { v := .ptr 1 1 }) rfl rfl rfl rfl trivial rfl ?_)
                      refine rvc_open rfl rfl rfl (rexec_prim C (δ := { v := .pv (.lit (.int .i64 c.node)) }) rfl rfl rfl rfl trivial rfl ?_)
                      refine rvc_open rfl rfl rfl (rexec_prim C (δ := { v := .pv (.lit (.bool (c.node == 0))) }) rfl rfl rfl rfl trivial rfl ?_)
                      refine rvc_un (rexec_prim C (δ := { v := .pv (.lit (.bool (c.node == 0))) }) rfl rfl rfl rfl trivial rfl ?_)
                      refine rvc_un (rexec_prim C (δ := { v := .pv (.lit (.bool (c.node == 0))) }) rfl rfl rfl rfl trivial rfl ?_)
                      refine rvc_nil ?_
                      refine Awp.seq ?_
                      refine Awp.cons C (fun _ => .pure) (by kernel_rfl) ?_
                      refine rvc_un (rexec_prim C (δ := { v := .pv (.lit (.bool (c.node == 0))) }) rfl rfl rfl rfl trivial rfl ?_)
                      refine rvc_un (rexec_prim C (δ := { v := .pv (.lit (.bool (!(c.node == 0)))) }) rfl rfl rfl rfl trivial rfl ?_)
                      refine rvc_nil ?_
                      refine Awp.cond (b := (!(c.node == 0))) rfl (fun h23 => ?_) (fun h23 => ?_)
                      ·
                        replace hR := of_true h23 hR
                        refine Awp.cons C (fun _ => .pure) (by kernel_rfl) ?_
                        refine rvc_un (rexec_prim C (δ := { v := .pv (.lit (.int .i64 120)) }) rfl rfl rfl rfl trivial rfl ?_)
                        refine rvc_nil ?_
                        refine Awp.ret ?_
                        subst hR
                        exact ⟨.inl rfl, rfl⟩
                      ·
                        replace hR := of_false h23 hR
                        refine Awp.skip ?_
                        refine Awp.cons C (fun _ => .pure) (by kernel_rfl) ?_
                        refine rvc_un (rexec_prim C (δ := { v := .pv (.lit (.int .i64 0)) }) rfl rfl rfl rfl trivial rfl ?_)
                        refine rvc_nil ?_
                        refine Awp.ret ?_
                        subst hR
                        exact ⟨.inl rfl, rfl⟩
                    ·
                      replace hR := of_false h22 hR
                      refine rvc_shut rfl rfl rfl rfl ?_
                      refine rvc_shut rfl rfl rfl rfl ?_
                      refine rvc_shut rfl rfl rfl rfl ?_
                      refine rvc_un (rexec_prim C (δ := { v := .pv (.lit (.bool false)) }) rfl rfl rfl rfl trivial rfl ?_)
                      refine rvc_un (rexec_prim C (δ := { v := .pv (.lit (.bool false)) }) rfl rfl rfl rfl trivial rfl ?_)
                      refine rvc_nil ?_
                      refine Awp.seq ?_
                      refine Awp.cons C (fun _ => .pure) (by kernel_rfl) ?_
                      refine rvc_un (rexec_prim C (δ := { v := .pv (.lit (.bool false)) }) rfl rfl rfl rfl trivial rfl ?_)
                      refine rvc_un (rexec_prim C (δ := { v := .pv (.lit (.bool true)) }) rfl rfl rfl rfl trivial rfl ?_)
                      refine rvc_nil ?_
                      refine Awp.condT (b := true) rfl rfl ?_
                      refine Awp.cons C (fun _ => .pure) (by kernel_rfl) ?_
                      refine rvc_un (rexec_prim C (δ := { v := .pv (.lit (.int .i64 120)) }) rfl rfl rfl rfl trivial rfl ?_)
                      refine rvc_nil ?_
                      refine Awp.ret ?_
                      subst hR
                      exact ⟨.inl rfl, rfl⟩
                  ·
                    replace hR := of_false h21 hR
                    refine rvc_shut rfl rfl rfl rfl ?_
                    refine rvc_un (rexec_prim C (δ := { v := .pv (.lit (.bool false)) }) rfl rfl rfl rfl trivial rfl ?_)
                    refine rvc_un (rexec_prim C (δ := { v := .pv (.lit (.bool false)) }) rfl rfl rfl rfl trivial rfl ?_)
                    refine rvc_shut rfl rfl rfl rfl ?_
                    refine rvc_shut rfl rfl rfl rfl ?_
                    refine rvc_shut rfl rfl rfl rfl ?_
                    refine rvc_un (rexec_prim C (δ := { v := .pv (.lit (.bool false)) }) rfl rfl rfl rfl trivial rfl ?_)
                    refine rvc_un (rexec_prim C (δ := { v := .pv (.lit (.bool false)) }) rfl rfl rfl rfl trivial rfl ?_)
                    refine rvc_nil ?_
                    refine Awp.seq ?_
                    refine Awp.cons C (fun _ => .pure) (by kernel_rfl) ?_
                    refine rvc_un (rexec_prim C (δ := { v := .pv (.lit (.bool false)) }) rfl rfl rfl rfl trivial rfl ?_)
                    refine rvc_un (rexec_prim C (δ := { v := .pv (.lit (.bool true)) }) rfl rfl rfl rfl trivial rfl ?_)
                    refine rvc_nil ?_
                    refine Awp.condT (b := true) rfl rfl ?_
                    refine Awp.cons C (fun _ => .pure) (by kernel_rfl) ?_
                    refine rvc_un (rexec_prim C (δ := { v := .pv (.lit (.int .i64 120)) }) rfl rfl rfl rfl trivial rfl ?_)
                    refine rvc_nil ?_
                    refine Awp.ret ?_
                    subst hR
                    exact ⟨.inl rfl, rfl⟩
                ·
                  replace hR := of_false h20 hR
                  refine Awp.region C (fun _ => .pure) (by kernel_rfl) ?_
                  refine rvc_un (rexec_prim C (δ := { v := .pv (.lit (.bool false)) }) rfl rfl rfl rfl trivial rfl ?_)
                  refine rvc_nil ?_
                  refine Awp.seq ?_
                  refine Awp.cons C (fun _ => .pure) (by kernel_rfl) ?_
                  refine rvc_un (rexec_prim C (δ := { v := .pv (.lit (.bool false)) }) rfl rfl rfl rfl trivial rfl ?_)
                  refine rvc_un (rexec_prim C (δ := { v := .pv (.lit (.bool true)) }) rfl rfl rfl rfl trivial rfl ?_)
                  refine rvc_nil ?_
                  refine Awp.condT (b := true) rfl rfl ?_
                  refine Awp.cons C (fun _ => .pure) (by kernel_rfl) ?_
                  refine rvc_un (rexec_prim C (δ := { v := .pv (.lit (.int .i64 120)) }) rfl rfl rfl rfl trivial rfl ?_)
                  refine rvc_nil ?_
                  refine Awp.ret ?_
                  subst hR
                  exact ⟨.inl rfl, rfl⟩
      ·
        replace hR := of_false h3 hR
        refine rvc_shut rfl rfl rfl rfl ?_
        refine rvc_shut rfl rfl rfl rfl ?_
        refine rvc_shut rfl rfl rfl rfl ?_
        refine rvc_un (rexec_prim C (δ := { v := .pv (.lit (.bool false)) }) rfl rfl rfl rfl trivial rfl ?_)
        refine rvc_un (rexec_prim C (δ := { v := .pv (.lit (.bool false)) }) rfl rfl rfl rfl trivial rfl ?_)
        refine rvc_nil ?_
        refine Awp.seq ?_
        refine Awp.cons C (fun _ => .pure) (by kernel_rfl) ?_
        refine rvc_un (rexec_prim C (δ := { v := .ptr 1 0 }) rfl rfl rfl rfl trivial rfl ?_)
        refine rvc_un (rexec_prim C (δ := { v := .pv (.lit (.int .i64 c.kind)) }) rfl rfl rfl rfl trivial rfl ?_)
        refine rvc_nil ?_
        refine Awp.block ?_
        refine Awp.seq ?_
        refine Awp.cons C (fun _ => .pure) (by kernel_rfl) ?_
        refine rvc_un (rexec_prim C (δ := { v := .pv (.lit (.bool (c.kind == 1))) }) rfl rfl rfl rfl trivial rfl ?_)
        refine rvc_un (rexec_prim C (δ := { v := .pv (.lit (.bool (c.kind == 1))) }) rfl rfl rfl rfl trivial rfl ?_)
        refine rvc_nil ?_
        refine Awp.cond (b := (c.kind == 1)) rfl (fun h24 => ?_) (fun h24 => ?_)
        ·
          replace hR := of_true h24 hR
          refine Awp.skip ?_
          refine Awp.condT (b := (c.kind == 1)) rfl h24 ?_
          refine Awp.region C (fun _ => .pure) (by kernel_rfl) ?_
          refine rvc_un (rexec_prim C (δ := { v := .pv (.lit (.bool false)) }) rfl rfl rfl rfl trivial rfl ?_)
          refine rvc_un (rexec_prim C (δ := { v := .pv (.lit (.bool false)) }) rfl rfl rfl rfl trivial rfl ?_)
          refine rvc_shut rfl rfl rfl rfl ?_
          refine rvc_un (rexec_prim C (δ := { v := .pv (.lit (.bool false)) }) rfl rfl rfl rfl trivial rfl ?_)
          refine rvc_un (rexec_prim C (δ := { v := .pv (.lit (.bool false)) }) rfl rfl rfl rfl trivial rfl ?_)
          refine rvc_shut rfl rfl rfl rfl ?_
          refine rvc_shut rfl rfl rfl rfl ?_
          refine rvc_shut rfl rfl rfl rfl ?_
          refine rvc_un (rexec_prim C (δ := { v := .pv (.lit (.bool false)) }) rfl rfl rfl rfl trivial rfl ?_)
          refine rvc_un (rexec_prim C (δ := { v := .pv (.lit (.bool false)) }) rfl rfl rfl rfl trivial rfl ?_)
          refine rvc_nil ?_
          refine Awp.seq ?_
          refine Awp.cons C (fun _ => .pure) (by kernel_rfl) ?_
          refine rvc_un (rexec_prim C (δ := { v := .pv (.lit (.bool false)) }) rfl rfl rfl rfl trivial rfl ?_)
          refine rvc_un (rexec_prim C (δ := { v := .pv (.lit (.bool true)) }) rfl rfl rfl rfl trivial rfl ?_)
          refine rvc_nil ?_
          refine Awp.condT (b := true) rfl rfl ?_
          refine Awp.cons C (fun _ => .pure) (by kernel_rfl) ?_
          refine rvc_un (rexec_prim C (δ := { v := .pv (.lit (.int .i64 120)) }) rfl rfl rfl rfl trivial rfl ?_)
          refine rvc_nil ?_
          refine Awp.ret ?_
          subst hR
          exact ⟨.inl rfl, rfl⟩
        ·
          replace hR := of_false h24 hR
          refine Awp.cons C (fun _ => .pure) (by kernel_rfl) ?_
          refine rvc_un (rexec_prim C (δ := { v := .pv (.lit (.bool (c.kind == 3))) }) rfl rfl rfl rfl trivial rfl ?_)
          refine rvc_un (rexec_prim C (δ := { v := .pv (.lit (.bool (c.kind == 3))) }) rfl rfl rfl rfl trivial rfl ?_)
          refine rvc_nil ?_
          refine Awp.cond (b := (c.kind == 3)) rfl (fun h25 => ?_) (fun h25 => ?_)
          ·
            replace hR := of_true h25 hR
            refine Awp.skip ?_
            refine Awp.condT (b := (c.kind == 3)) rfl h25 ?_
            refine Awp.region C (fun _ => .pure) (by kernel_rfl) ?_
            refine rvc_un (rexec_prim C (δ := { v := .pv (.lit (.bool false)) }) rfl rfl rfl rfl trivial rfl ?_)
            refine rvc_un (rexec_prim C (δ := { v := .pv (.lit (.bool false)) }) rfl rfl rfl rfl trivial rfl ?_)
            refine rvc_shut rfl rfl rfl rfl ?_
            refine rvc_un (rexec_prim C (δ := { v := .pv (.lit (.bool false)) }) rfl rfl rfl rfl trivial rfl ?_)
            refine rvc_un (rexec_prim C (δ := { v := .pv (.lit (.bool false)) }) rfl rfl rfl rfl trivial rfl ?_)
            refine rvc_shut rfl rfl rfl rfl ?_
            refine rvc_shut rfl rfl rfl rfl ?_
            refine rvc_shut rfl rfl rfl rfl ?_
            refine rvc_un (rexec_prim C (δ := { v := .pv (.lit (.bool false)) }) rfl rfl rfl rfl trivial rfl ?_)
            refine rvc_un (rexec_prim C (δ := { v := .pv (.lit (.bool false)) }) rfl rfl rfl rfl trivial rfl ?_)
            refine rvc_nil ?_
            refine Awp.seq ?_
            refine Awp.cons C (fun _ => .pure) (by kernel_rfl) ?_
            refine rvc_un (rexec_prim C (δ := { v := .pv (.lit (.bool false)) }) rfl rfl rfl rfl trivial rfl ?_)
            refine rvc_un (rexec_prim C (δ := { v := .pv (.lit (.bool true)) }) rfl rfl rfl rfl trivial rfl ?_)
            refine rvc_nil ?_
            refine Awp.condT (b := true) rfl rfl ?_
            refine Awp.cons C (fun _ => .pure) (by kernel_rfl) ?_
            refine rvc_un (rexec_prim C (δ := { v := .pv (.lit (.int .i64 120)) }) rfl rfl rfl rfl trivial rfl ?_)
            refine rvc_nil ?_
            refine Awp.ret ?_
            subst hR
            exact ⟨.inl rfl, rfl⟩
          ·
            replace hR := of_false h25 hR
            refine Awp.region C (fun _ => .pure) (by kernel_rfl) ?_
            refine rvc_un (rexec_prim C (δ := { v := .pv (.lit (.bool (c.kind == 4))) }) rfl rfl rfl rfl trivial rfl ?_)
            refine rvc_un (rexec_prim C (δ := { v := .pv (.lit (.bool (c.kind == 4))) }) rfl rfl rfl rfl trivial rfl ?_)
            refine rvc_nil ?_
            refine Awp.cond (b := (c.kind == 4)) rfl (fun h26 => ?_) (fun h26 => ?_)
            ·
              replace hR := of_true h26 hR
              refine Awp.region C (fun _ => .pure) (by kernel_rfl) ?_
              refine rvc_un (rexec_prim C (δ := { v := .pv (.lit (.bool false)) }) rfl rfl rfl rfl trivial rfl ?_)
              refine rvc_un (rexec_prim C (δ := { v := .pv (.lit (.bool false)) }) rfl rfl rfl rfl trivial rfl ?_)
              refine rvc_shut rfl rfl rfl rfl ?_
              refine rvc_un (rexec_prim C (δ := { v := .pv (.lit (.bool false)) }) rfl rfl rfl rfl trivial rfl ?_)
              refine rvc_un (rexec_prim C (δ := { v := .pv (.lit (.bool false)) }) rfl rfl rfl rfl trivial rfl ?_)
              refine rvc_shut rfl rfl rfl rfl ?_
              refine rvc_shut rfl rfl rfl rfl ?_
              refine rvc_shut rfl rfl rfl rfl ?_
              refine rvc_un (rexec_prim C (δ := { v := .pv (.lit (.bool false)) }) rfl rfl rfl rfl trivial rfl ?_)
              refine rvc_un (rexec_prim C (δ := { v := .pv (.lit (.bool false)) }) rfl rfl rfl rfl trivial rfl ?_)
              refine rvc_nil ?_
              refine Awp.seq ?_
              refine Awp.cons C (fun _ => .pure) (by kernel_rfl) ?_
              refine rvc_un (rexec_prim C (δ := { v := .pv (.lit (.bool false)) }) rfl rfl rfl rfl trivial rfl ?_)
              refine rvc_un (rexec_prim C (δ := { v := .pv (.lit (.bool true)) }) rfl rfl rfl rfl trivial rfl ?_)
              refine rvc_nil ?_
              refine Awp.condT (b := true) rfl rfl ?_
              refine Awp.cons C (fun _ => .pure) (by kernel_rfl) ?_
              refine rvc_un (rexec_prim C (δ := { v := .pv (.lit (.int .i64 120)) }) rfl rfl rfl rfl trivial rfl ?_)
              refine rvc_nil ?_
              refine Awp.ret ?_
              subst hR
              exact ⟨.inl rfl, rfl⟩
            ·
              replace hR := of_false h26 hR
              refine Awp.cons C (fun _ => .pure) (by kernel_rfl) ?_
              refine rvc_un (rexec_prim C (δ := { v := .pv (.lit (.bool (c.kind == 2))) }) rfl rfl rfl rfl trivial rfl ?_)
              refine rvc_un (rexec_prim C (δ := { v := .pv (.lit (.bool (c.kind == 2))) }) rfl rfl rfl rfl trivial rfl ?_)
              refine rvc_nil ?_
              refine Awp.cond (b := (c.kind == 2)) rfl (fun h27 => ?_) (fun h27 => ?_)
              ·
                replace hR := of_true h27 hR
                refine Awp.region C (fun _ => .pure) (by kernel_rfl) ?_
                refine rvc_un (rexec_prim C (δ := { v := .pv (.lit (.bool false)) }) rfl rfl rfl rfl trivial rfl ?_)
                refine rvc_un (rexec_prim C (δ := { v := .pv (.lit (.bool false)) }) rfl rfl rfl rfl trivial rfl ?_)
                refine rvc_shut rfl rfl rfl rfl ?_
                refine rvc_un (rexec_prim C (δ := { v := .pv (.lit (.bool false)) }) rfl rfl rfl rfl trivial rfl ?_)
                refine rvc_un (rexec_prim C (δ := { v := .pv (.lit (.bool false)) }) rfl rfl rfl rfl trivial rfl ?_)
                refine rvc_shut rfl rfl rfl rfl ?_
                refine rvc_un (rexec_prim C (δ := { v := .pv (.lit (.bool false)) }) rfl rfl rfl rfl trivial rfl ?_)
                refine rvc_un (rexec_prim C (δ := { v := .pv (.lit (.bool false)) }) rfl rfl rfl rfl trivial rfl ?_)
                refine rvc_nil ?_
                refine Awp.seq ?_
                refine Awp.cons C (fun _ => .pure) (by kernel_rfl) ?_
                refine rvc_un (rexec_prim C (δ := { v := .pv (.lit (.bool false)) }) rfl rfl rfl rfl trivial rfl ?_)
                refine rvc_un (rexec_prim C (δ := { v := .pv (.lit (.bool true)) }) rfl rfl rfl rfl trivial rfl ?_)
                refine rvc_nil ?_
                refine Awp.condT (b := true) rfl rfl ?_
                refine Awp.cons C (fun _ => .pure) (by kernel_rfl) ?_
                refine rvc_un (rexec_prim C (δ := { v := .pv (.lit (.int .i64 120)) }) rfl rfl rfl rfl trivial rfl ?_)
                refine rvc_nil ?_
                refine Awp.ret ?_
                subst hR
                exact ⟨.inl rfl, rfl⟩
              ·
                replace hR := of_false h27 hR
                refine Awp.cons C (fun _ => .pure) (by kernel_rfl) ?_
                refine rvc_un (rexec_prim C (δ := { v := .pv (.lit (.bool (c.kind == 5))) }) rfl rfl rfl rfl trivial rfl ?_)
                refine rvc_un (rexec_prim C (δ := { v := .pv (.lit (.bool (c.kind == 5))) }) rfl rfl rfl rfl trivial rfl ?_)
                refine rvc_nil ?_
                refine Awp.cond (b := (c.kind == 5)) rfl (fun h28 => ?_) (fun h28 => ?_)
                ·
                  replace hR := of_true h28 hR
                  refine Awp.region C (fun _ => .pure) (by kernel_rfl) ?_
                  refine rvc_un (rexec_prim C (δ := { v := .pv (.lit (.bool false)) }) rfl rfl rfl rfl trivial rfl ?_)
                  refine rvc_un (rexec_prim C (δ := { v := .pv (.lit (.bool false)) }) rfl rfl rfl rfl trivial rfl ?_)
                  refine rvc_shut rfl rfl rfl rfl ?_
                  refine rvc_un (rexec_prim C (δ := { v := .pv (.lit (.bool false)) }) rfl rfl rfl rfl trivial rfl ?_)
                  refine rvc_un (rexec_prim C (δ := { v := .pv (.lit (.bool false)) }) rfl rfl rfl rfl trivial rfl ?_)
                  refine rvc_shut rfl rfl rfl rfl ?_
                  refine rvc_shut rfl rfl rfl rfl ?_
                  refine rvc_shut rfl rfl rfl rfl ?_
                  refine rvc_un (rexec_prim C (δ := { v := .pv (.lit (.bool false)) }) rfl rfl rfl rfl trivial rfl ?_)
                  refine rvc_un (rexec_prim C (δ := { v := .pv (.lit (.bool false)) }) rfl rfl rfl rfl trivial rfl ?_)
                  refine rvc_nil ?_
                  refine Awp.seq ?_
                  refine Awp.cons C (fun _ => .pure) (by kernel_rfl) ?_
                  refine rvc_un (rexec_prim C (δ := { v := .pv (.lit (.bool false)) }) rfl rfl rfl rfl trivial rfl ?_)
                  refine rvc_un (rexec_prim C (δ := { v := .pv (.lit (.bool true)) }) rfl rfl rfl rfl trivial rfl ?_)
                  refine rvc_nil ?_
                  refine Awp.condT (b := true) rfl rfl ?_
                  refine Awp.cons C (fun _ => .pure) (by kernel_rfl) ?_
                  refine rvc_un (rexec_prim C (δ := { v := .pv (.lit (.int .i64 120)) }) rfl rfl rfl rfl trivial rfl ?_)
                  refine rvc_nil ?_
                  refine Awp.ret ?_
                  subst hR
                  exact ⟨.inl rfl, rfl⟩
                ·
                  replace hR := of_false h28 hR
                  refine Awp.region C (fun _ => .pure) (by kernel_rfl) ?_
                  refine rvc_un (rexec_prim C (δ := { v := .pv (.lit (.bool false)) }) rfl rfl rfl rfl trivial rfl ?_)
                  refine rvc_nil ?_
                  refine Awp.seq ?_
                  refine Awp.cons C (fun _ => .pure) (by kernel_rfl) ?_
                  refine rvc_un (rexec_prim C (δ := { v := .pv (.lit (.bool false)) }) rfl rfl rfl rfl trivial rfl ?_)
                  refine rvc_un (rexec_prim C (δ := { v := .pv (.lit (.bool true)) }) rfl rfl rfl rfl trivial rfl ?_)
                  refine rvc_nil ?_
                  refine Awp.condT (b := true) rfl rfl ?_
                  refine Awp.cons C (fun _ => .pure) (by kernel_rfl) ?_
                  refine rvc_un (rexec_prim C (δ := { v := .pv (.lit (.int .i64 120)) }) rfl rfl rfl rfl trivial rfl ?_)
                  refine rvc_nil ?_
                  refine Awp.ret ?_
                  subst hR
                  exact ⟨.inl rfl, rfl⟩
    ·
      replace hR := of_false h2 hR
      refine rvc_shut rfl rfl rfl rfl ?_
      refine rvc_shut rfl rfl rfl rfl ?_
      refine rvc_shut rfl rfl rfl rfl ?_
      refine rvc_un (rexec_prim C (δ := { v := .pv (.lit (.bool false)) }) rfl rfl rfl rfl trivial rfl ?_)
      refine rvc_un (rexec_prim C (δ := { v := .pv (.lit (.bool false)) }) rfl rfl rfl rfl trivial rfl ?_)
      refine rvc_nil ?_
      refine Awp.cons C (fun _ => .pure) (by kernel_rfl) ?_
      refine rvc_un (rexec_prim C (δ := { v := .ptr 1 3 }) rfl rfl rfl rfl trivial rfl ?_)
      refine rvc_un (rexec_prim C (δ := { v := .pv (.lit (.int .i64 c.epoch)) }) rfl rfl rfl rfl trivial rfl ?_)
      refine rvc_un (rexec_prim C (δ := { v := .pv (.lit (.bool (decide (c.epoch ≥ 1)))) }) rfl rfl rfl rfl trivial rfl ?_)
      refine rvc_un (rexec_prim C (δ := { v := .pv (.lit (.bool (decide (c.epoch ≥ 1)))) }) rfl rfl rfl rfl trivial rfl ?_)
      refine rvc_case 25 (decide (c.epoch ≥ 1)) rfl (fun h29 => ?_) (fun h29 => ?_)
      ·
        replace hR := of_true h29 hR
        refine rvc_open rfl rfl rfl (rexec_prim C (δ := { v := .ptr 1 3 }) rfl rfl rfl rfl trivial rfl ?_)
        refine rvc_open rfl rfl rfl (rexec_prim C (δ := { v := .pv (.lit (.int .i64 c.epoch)) }) rfl rfl rfl rfl trivial rfl ?_)
        refine rvc_open rfl rfl rfl (rexec_prim C (δ := { v := .pv (.lit (.bool (decide (c.epoch ≤ 1099511627776)))) }) rfl rfl rfl rfl trivial rfl ?_)
        refine rvc_un (rexec_prim C (δ := { v := .pv (.lit (.bool (decide (c.epoch ≤ 1099511627776)))) }) rfl rfl rfl rfl trivial rfl ?_)
        refine rvc_un (rexec_prim C (δ := { v := .pv (.lit (.bool (decide (c.epoch ≤ 1099511627776)))) }) rfl rfl rfl rfl trivial rfl ?_)
        refine rvc_nil ?_
        refine Awp.seq ?_
        refine Awp.cons C (fun _ => .pure) (by kernel_rfl) ?_
        refine rvc_un (rexec_prim C (δ := { v := .ptr 1 0 }) rfl rfl rfl rfl trivial rfl ?_)
        refine rvc_un (rexec_prim C (δ := { v := .pv (.lit (.int .i64 c.kind)) }) rfl rfl rfl rfl trivial rfl ?_)
        refine rvc_nil ?_
        refine Awp.block ?_
        refine Awp.seq ?_
        refine Awp.cons C (fun _ => .pure) (by kernel_rfl) ?_
        refine rvc_un (rexec_prim C (δ := { v := .pv (.lit (.bool (c.kind == 1))) }) rfl rfl rfl rfl trivial rfl ?_)
        refine rvc_un (rexec_prim C (δ := { v := .pv (.lit (.bool (c.kind == 1))) }) rfl rfl rfl rfl trivial rfl ?_)
        refine rvc_nil ?_
        refine Awp.cond (b := (c.kind == 1)) rfl (fun h30 => ?_) (fun h30 => ?_)
        ·
          replace hR := of_true h30 hR
          refine Awp.skip ?_
          refine Awp.condT (b := (c.kind == 1)) rfl h30 ?_
          refine Awp.region C (fun _ => .pure) (by kernel_rfl) ?_
          refine rvc_un (rexec_prim C (δ := { v := .pv (.lit (.bool (decide (c.epoch ≤ 1099511627776)))) }) rfl rfl rfl rfl trivial rfl ?_)
          refine rvc_un (rexec_prim C (δ := { v := .pv (.lit (.bool (decide (c.epoch ≤ 1099511627776)))) }) rfl rfl rfl rfl trivial rfl ?_)
          refine rvc_case 37 (decide (c.epoch ≤ 1099511627776)) rfl (fun h31 => ?_) (fun h31 => ?_)
          ·
            replace hR := of_true h31 hR
            refine rvc_open rfl rfl rfl (rexec_prim C (δ := { v := .pv (.lit (.bool (decide (c.node < 6)))) }) rfl rfl rfl rfl trivial rfl ?_)
            refine rvc_un (rexec_prim C (δ := { v := .pv (.lit (.bool (decide (c.node < 6)))) }) rfl rfl rfl rfl trivial rfl ?_)
            refine rvc_un (rexec_prim C (δ := { v := .pv (.lit (.bool (decide (c.node < 6)))) }) rfl rfl rfl rfl trivial rfl ?_)
            refine rvc_case 40 (decide (c.node < 6)) rfl (fun h32 => ?_) (fun h32 => ?_)
            ·
              replace hR := of_true h32 hR
              refine rvc_open rfl rfl rfl (rexec_prim C (δ := { v := .ptr 1 2 }) rfl rfl rfl rfl trivial rfl ?_)
              refine rvc_open rfl rfl rfl (rexec_prim C (δ := { v := .pv (.lit (.int .i64 c.site)) }) rfl rfl rfl rfl trivial rfl ?_)
              refine rvc_open rfl rfl rfl (rexec_prim C (δ := { v := .pv (.lit (.bool (c.site == 0))) }) rfl rfl rfl rfl trivial rfl ?_)
              refine rvc_un (rexec_prim C (δ := { v := .pv (.lit (.bool (c.site == 0))) }) rfl rfl rfl rfl trivial rfl ?_)
              refine rvc_un (rexec_prim C (δ := { v := .pv (.lit (.bool (c.site == 0))) }) rfl rfl rfl rfl trivial rfl ?_)
              refine rvc_nil ?_
              refine Awp.seq ?_
              refine Awp.cons C (fun _ => .pure) (by kernel_rfl) ?_
              refine rvc_un (rexec_prim C (δ := { v := .pv (.lit (.bool (c.site == 0))) }) rfl rfl rfl rfl trivial rfl ?_)
              refine rvc_un (rexec_prim C (δ := { v := .pv (.lit (.bool (!(c.site == 0)))) }) rfl rfl rfl rfl trivial rfl ?_)
              refine rvc_nil ?_
              refine Awp.cond (b := (!(c.site == 0))) rfl (fun h33 => ?_) (fun h33 => ?_)
              ·
                replace hR := of_true h33 hR
                refine Awp.cons C (fun _ => .pure) (by kernel_rfl) ?_
                refine rvc_un (rexec_prim C (δ := { v := .pv (.lit (.int .i64 120)) }) rfl rfl rfl rfl trivial rfl ?_)
                refine rvc_nil ?_
                refine Awp.ret ?_
                subst hR
                exact ⟨.inl rfl, rfl⟩
              ·
                replace hR := of_false h33 hR
                refine Awp.skip ?_
                refine Awp.cons C (fun _ => .pure) (by kernel_rfl) ?_
                refine rvc_un (rexec_prim C (δ := { v := .pv (.lit (.int .i64 0)) }) rfl rfl rfl rfl trivial rfl ?_)
                refine rvc_nil ?_
                refine Awp.ret ?_
                subst hR
                exact ⟨.inl rfl, rfl⟩
            ·
              replace hR := of_false h32 hR
              refine rvc_shut rfl rfl rfl rfl ?_
              refine rvc_shut rfl rfl rfl rfl ?_
              refine rvc_shut rfl rfl rfl rfl ?_
              refine rvc_un (rexec_prim C (δ := { v := .pv (.lit (.bool false)) }) rfl rfl rfl rfl trivial rfl ?_)
              refine rvc_un (rexec_prim C (δ := { v := .pv (.lit (.bool false)) }) rfl rfl rfl rfl trivial rfl ?_)
              refine rvc_nil ?_
              refine Awp.seq ?_
              refine Awp.cons C (fun _ => .pure) (by kernel_rfl) ?_
              refine rvc_un (rexec_prim C (δ := { v := .pv (.lit (.bool false)) }) rfl rfl rfl rfl trivial rfl ?_)
              refine rvc_un (rexec_prim C (δ := { v := .pv (.lit (.bool true)) }) rfl rfl rfl rfl trivial rfl ?_)
              refine rvc_nil ?_
              refine Awp.condT (b := true) rfl rfl ?_
              refine Awp.cons C (fun _ => .pure) (by kernel_rfl) ?_
              refine rvc_un (rexec_prim C (δ := { v := .pv (.lit (.int .i64 120)) }) rfl rfl rfl rfl trivial rfl ?_)
              refine rvc_nil ?_
              refine Awp.ret ?_
              subst hR
              exact ⟨.inl rfl, rfl⟩
          ·
            replace hR := of_false h31 hR
            refine rvc_shut rfl rfl rfl rfl ?_
            refine rvc_un (rexec_prim C (δ := { v := .pv (.lit (.bool false)) }) rfl rfl rfl rfl trivial rfl ?_)
            refine rvc_un (rexec_prim C (δ := { v := .pv (.lit (.bool false)) }) rfl rfl rfl rfl trivial rfl ?_)
            refine rvc_shut rfl rfl rfl rfl ?_
            refine rvc_shut rfl rfl rfl rfl ?_
            refine rvc_shut rfl rfl rfl rfl ?_
            refine rvc_un (rexec_prim C (δ := { v := .pv (.lit (.bool false)) }) rfl rfl rfl rfl trivial rfl ?_)
            refine rvc_un (rexec_prim C (δ := { v := .pv (.lit (.bool false)) }) rfl rfl rfl rfl trivial rfl ?_)
            refine rvc_nil ?_
            refine Awp.seq ?_
            refine Awp.cons C (fun _ => .pure) (by kernel_rfl) ?_
            refine rvc_un (rexec_prim C (δ := { v := .pv (.lit (.bool false)) }) rfl rfl rfl rfl trivial rfl ?_)
            refine rvc_un (rexec_prim C (δ := { v := .pv (.lit (.bool true)) }) rfl rfl rfl rfl trivial rfl ?_)
            refine rvc_nil ?_
            refine Awp.condT (b := true) rfl rfl ?_
            refine Awp.cons C (fun _ => .pure) (by kernel_rfl) ?_
            refine rvc_un (rexec_prim C (δ := { v := .pv (.lit (.int .i64 120)) }) rfl rfl rfl rfl trivial rfl ?_)
            refine rvc_nil ?_
            refine Awp.ret ?_
            subst hR
            exact ⟨.inl rfl, rfl⟩
        ·
          replace hR := of_false h30 hR
          refine Awp.cons C (fun _ => .pure) (by kernel_rfl) ?_
          refine rvc_un (rexec_prim C (δ := { v := .pv (.lit (.bool (c.kind == 3))) }) rfl rfl rfl rfl trivial rfl ?_)
          refine rvc_un (rexec_prim C (δ := { v := .pv (.lit (.bool (c.kind == 3))) }) rfl rfl rfl rfl trivial rfl ?_)
          refine rvc_nil ?_
          refine Awp.cond (b := (c.kind == 3)) rfl (fun h34 => ?_) (fun h34 => ?_)
          ·
            replace hR := of_true h34 hR
            refine Awp.skip ?_
            refine Awp.condT (b := (c.kind == 3)) rfl h34 ?_
            refine Awp.region C (fun _ => .pure) (by kernel_rfl) ?_
            refine rvc_un (rexec_prim C (δ := { v := .pv (.lit (.bool (decide (c.epoch ≤ 1099511627776)))) }) rfl rfl rfl rfl trivial rfl ?_)
            refine rvc_un (rexec_prim C (δ := { v := .pv (.lit (.bool (decide (c.epoch ≤ 1099511627776)))) }) rfl rfl rfl rfl trivial rfl ?_)
            refine rvc_case 37 (decide (c.epoch ≤ 1099511627776)) rfl (fun h35 => ?_) (fun h35 => ?_)
            ·
              replace hR := of_true h35 hR
              refine rvc_open rfl rfl rfl (rexec_prim C (δ := { v := .pv (.lit (.bool (decide (c.node < 6)))) }) rfl rfl rfl rfl trivial rfl ?_)
              refine rvc_un (rexec_prim C (δ := { v := .pv (.lit (.bool (decide (c.node < 6)))) }) rfl rfl rfl rfl trivial rfl ?_)
              refine rvc_un (rexec_prim C (δ := { v := .pv (.lit (.bool (decide (c.node < 6)))) }) rfl rfl rfl rfl trivial rfl ?_)
              refine rvc_case 40 (decide (c.node < 6)) rfl (fun h36 => ?_) (fun h36 => ?_)
              ·
                replace hR := of_true h36 hR
                refine rvc_open rfl rfl rfl (rexec_prim C (δ := { v := .ptr 1 2 }) rfl rfl rfl rfl trivial rfl ?_)
                refine rvc_open rfl rfl rfl (rexec_prim C (δ := { v := .pv (.lit (.int .i64 c.site)) }) rfl rfl rfl rfl trivial rfl ?_)
                refine rvc_open rfl rfl rfl (rexec_prim C (δ := { v := .pv (.lit (.bool (c.site == 0))) }) rfl rfl rfl rfl trivial rfl ?_)
                refine rvc_un (rexec_prim C (δ := { v := .pv (.lit (.bool (c.site == 0))) }) rfl rfl rfl rfl trivial rfl ?_)
                refine rvc_un (rexec_prim C (δ := { v := .pv (.lit (.bool (c.site == 0))) }) rfl rfl rfl rfl trivial rfl ?_)
                refine rvc_nil ?_
                refine Awp.seq ?_
                refine Awp.cons C (fun _ => .pure) (by kernel_rfl) ?_
                refine rvc_un (rexec_prim C (δ := { v := .pv (.lit (.bool (c.site == 0))) }) rfl rfl rfl rfl trivial rfl ?_)
                refine rvc_un (rexec_prim C (δ := { v := .pv (.lit (.bool (!(c.site == 0)))) }) rfl rfl rfl rfl trivial rfl ?_)
                refine rvc_nil ?_
                refine Awp.cond (b := (!(c.site == 0))) rfl (fun h37 => ?_) (fun h37 => ?_)
                ·
                  replace hR := of_true h37 hR
                  refine Awp.cons C (fun _ => .pure) (by kernel_rfl) ?_
                  refine rvc_un (rexec_prim C (δ := { v := .pv (.lit (.int .i64 120)) }) rfl rfl rfl rfl trivial rfl ?_)
                  refine rvc_nil ?_
                  refine Awp.ret ?_
                  subst hR
                  exact ⟨.inl rfl, rfl⟩
                ·
                  replace hR := of_false h37 hR
                  refine Awp.skip ?_
                  refine Awp.cons C (fun _ => .pure) (by kernel_rfl) ?_
                  refine rvc_un (rexec_prim C (δ := { v := .pv (.lit (.int .i64 0)) }) rfl rfl rfl rfl trivial rfl ?_)
                  refine rvc_nil ?_
                  refine Awp.ret ?_
                  subst hR
                  exact ⟨.inl rfl, rfl⟩
              ·
                replace hR := of_false h36 hR
                refine rvc_shut rfl rfl rfl rfl ?_
                refine rvc_shut rfl rfl rfl rfl ?_
                refine rvc_shut rfl rfl rfl rfl ?_
                refine rvc_un (rexec_prim C (δ := { v := .pv (.lit (.bool false)) }) rfl rfl rfl rfl trivial rfl ?_)
                refine rvc_un (rexec_prim C (δ := { v := .pv (.lit (.bool false)) }) rfl rfl rfl rfl trivial rfl ?_)
                refine rvc_nil ?_
                refine Awp.seq ?_
                refine Awp.cons C (fun _ => .pure) (by kernel_rfl) ?_
                refine rvc_un (rexec_prim C (δ := { v := .pv (.lit (.bool false)) }) rfl rfl rfl rfl trivial rfl ?_)
                refine rvc_un (rexec_prim C (δ := { v := .pv (.lit (.bool true)) }) rfl rfl rfl rfl trivial rfl ?_)
                refine rvc_nil ?_
                refine Awp.condT (b := true) rfl rfl ?_
                refine Awp.cons C (fun _ => .pure) (by kernel_rfl) ?_
                refine rvc_un (rexec_prim C (δ := { v := .pv (.lit (.int .i64 120)) }) rfl rfl rfl rfl trivial rfl ?_)
                refine rvc_nil ?_
                refine Awp.ret ?_
                subst hR
                exact ⟨.inl rfl, rfl⟩
            ·
              replace hR := of_false h35 hR
              refine rvc_shut rfl rfl rfl rfl ?_
              refine rvc_un (rexec_prim C (δ := { v := .pv (.lit (.bool false)) }) rfl rfl rfl rfl trivial rfl ?_)
              refine rvc_un (rexec_prim C (δ := { v := .pv (.lit (.bool false)) }) rfl rfl rfl rfl trivial rfl ?_)
              refine rvc_shut rfl rfl rfl rfl ?_
              refine rvc_shut rfl rfl rfl rfl ?_
              refine rvc_shut rfl rfl rfl rfl ?_
              refine rvc_un (rexec_prim C (δ := { v := .pv (.lit (.bool false)) }) rfl rfl rfl rfl trivial rfl ?_)
              refine rvc_un (rexec_prim C (δ := { v := .pv (.lit (.bool false)) }) rfl rfl rfl rfl trivial rfl ?_)
              refine rvc_nil ?_
              refine Awp.seq ?_
              refine Awp.cons C (fun _ => .pure) (by kernel_rfl) ?_
              refine rvc_un (rexec_prim C (δ := { v := .pv (.lit (.bool false)) }) rfl rfl rfl rfl trivial rfl ?_)
              refine rvc_un (rexec_prim C (δ := { v := .pv (.lit (.bool true)) }) rfl rfl rfl rfl trivial rfl ?_)
              refine rvc_nil ?_
              refine Awp.condT (b := true) rfl rfl ?_
              refine Awp.cons C (fun _ => .pure) (by kernel_rfl) ?_
              refine rvc_un (rexec_prim C (δ := { v := .pv (.lit (.int .i64 120)) }) rfl rfl rfl rfl trivial rfl ?_)
              refine rvc_nil ?_
              refine Awp.ret ?_
              subst hR
              exact ⟨.inl rfl, rfl⟩
          ·
            replace hR := of_false h34 hR
            refine Awp.region C (fun _ => .pure) (by kernel_rfl) ?_
            refine rvc_un (rexec_prim C (δ := { v := .pv (.lit (.bool (c.kind == 4))) }) rfl rfl rfl rfl trivial rfl ?_)
            refine rvc_un (rexec_prim C (δ := { v := .pv (.lit (.bool (c.kind == 4))) }) rfl rfl rfl rfl trivial rfl ?_)
            refine rvc_nil ?_
            refine Awp.cond (b := (c.kind == 4)) rfl (fun h38 => ?_) (fun h38 => ?_)
            ·
              replace hR := of_true h38 hR
              refine Awp.region C (fun _ => .pure) (by kernel_rfl) ?_
              refine rvc_un (rexec_prim C (δ := { v := .pv (.lit (.bool (decide (c.epoch ≤ 1099511627776)))) }) rfl rfl rfl rfl trivial rfl ?_)
              refine rvc_un (rexec_prim C (δ := { v := .pv (.lit (.bool (decide (c.epoch ≤ 1099511627776)))) }) rfl rfl rfl rfl trivial rfl ?_)
              refine rvc_case 37 (decide (c.epoch ≤ 1099511627776)) rfl (fun h39 => ?_) (fun h39 => ?_)
              ·
                replace hR := of_true h39 hR
                refine rvc_open rfl rfl rfl (rexec_prim C (δ := { v := .pv (.lit (.bool (decide (c.node < 6)))) }) rfl rfl rfl rfl trivial rfl ?_)
                refine rvc_un (rexec_prim C (δ := { v := .pv (.lit (.bool (decide (c.node < 6)))) }) rfl rfl rfl rfl trivial rfl ?_)
                refine rvc_un (rexec_prim C (δ := { v := .pv (.lit (.bool (decide (c.node < 6)))) }) rfl rfl rfl rfl trivial rfl ?_)
                refine rvc_case 40 (decide (c.node < 6)) rfl (fun h40 => ?_) (fun h40 => ?_)
                ·
                  replace hR := of_true h40 hR
                  refine rvc_open rfl rfl rfl (rexec_prim C (δ := { v := .ptr 1 2 }) rfl rfl rfl rfl trivial rfl ?_)
                  refine rvc_open rfl rfl rfl (rexec_prim C (δ := { v := .pv (.lit (.int .i64 c.site)) }) rfl rfl rfl rfl trivial rfl ?_)
                  refine rvc_open rfl rfl rfl (rexec_prim C (δ := { v := .pv (.lit (.bool (c.site == 0))) }) rfl rfl rfl rfl trivial rfl ?_)
                  refine rvc_un (rexec_prim C (δ := { v := .pv (.lit (.bool (c.site == 0))) }) rfl rfl rfl rfl trivial rfl ?_)
                  refine rvc_un (rexec_prim C (δ := { v := .pv (.lit (.bool (c.site == 0))) }) rfl rfl rfl rfl trivial rfl ?_)
                  refine rvc_nil ?_
                  refine Awp.seq ?_
                  refine Awp.cons C (fun _ => .pure) (by kernel_rfl) ?_
                  refine rvc_un (rexec_prim C (δ := { v := .pv (.lit (.bool (c.site == 0))) }) rfl rfl rfl rfl trivial rfl ?_)
                  refine rvc_un (rexec_prim C (δ := { v := .pv (.lit (.bool (!(c.site == 0)))) }) rfl rfl rfl rfl trivial rfl ?_)
                  refine rvc_nil ?_
                  refine Awp.cond (b := (!(c.site == 0))) rfl (fun h41 => ?_) (fun h41 => ?_)
                  ·
                    replace hR := of_true h41 hR
                    refine Awp.cons C (fun _ => .pure) (by kernel_rfl) ?_
                    refine rvc_un (rexec_prim C (δ := { v := .pv (.lit (.int .i64 120)) }) rfl rfl rfl rfl trivial rfl ?_)
                    refine rvc_nil ?_
                    refine Awp.ret ?_
                    subst hR
                    exact ⟨.inl rfl, rfl⟩
                  ·
                    replace hR := of_false h41 hR
                    refine Awp.skip ?_
                    refine Awp.cons C (fun _ => .pure) (by kernel_rfl) ?_
                    refine rvc_un (rexec_prim C (δ := { v := .pv (.lit (.int .i64 0)) }) rfl rfl rfl rfl trivial rfl ?_)
                    refine rvc_nil ?_
                    refine Awp.ret ?_
                    subst hR
                    exact ⟨.inl rfl, rfl⟩
                ·
                  replace hR := of_false h40 hR
                  refine rvc_shut rfl rfl rfl rfl ?_
                  refine rvc_shut rfl rfl rfl rfl ?_
                  refine rvc_shut rfl rfl rfl rfl ?_
                  refine rvc_un (rexec_prim C (δ := { v := .pv (.lit (.bool false)) }) rfl rfl rfl rfl trivial rfl ?_)
                  refine rvc_un (rexec_prim C (δ := { v := .pv (.lit (.bool false)) }) rfl rfl rfl rfl trivial rfl ?_)
                  refine rvc_nil ?_
                  refine Awp.seq ?_
                  refine Awp.cons C (fun _ => .pure) (by kernel_rfl) ?_
                  refine rvc_un (rexec_prim C (δ := { v := .pv (.lit (.bool false)) }) rfl rfl rfl rfl trivial rfl ?_)
                  refine rvc_un (rexec_prim C (δ := { v := .pv (.lit (.bool true)) }) rfl rfl rfl rfl trivial rfl ?_)
                  refine rvc_nil ?_
                  refine Awp.condT (b := true) rfl rfl ?_
                  refine Awp.cons C (fun _ => .pure) (by kernel_rfl) ?_
                  refine rvc_un (rexec_prim C (δ := { v := .pv (.lit (.int .i64 120)) }) rfl rfl rfl rfl trivial rfl ?_)
                  refine rvc_nil ?_
                  refine Awp.ret ?_
                  subst hR
                  exact ⟨.inl rfl, rfl⟩
              ·
                replace hR := of_false h39 hR
                refine rvc_shut rfl rfl rfl rfl ?_
                refine rvc_un (rexec_prim C (δ := { v := .pv (.lit (.bool false)) }) rfl rfl rfl rfl trivial rfl ?_)
                refine rvc_un (rexec_prim C (δ := { v := .pv (.lit (.bool false)) }) rfl rfl rfl rfl trivial rfl ?_)
                refine rvc_shut rfl rfl rfl rfl ?_
                refine rvc_shut rfl rfl rfl rfl ?_
                refine rvc_shut rfl rfl rfl rfl ?_
                refine rvc_un (rexec_prim C (δ := { v := .pv (.lit (.bool false)) }) rfl rfl rfl rfl trivial rfl ?_)
                refine rvc_un (rexec_prim C (δ := { v := .pv (.lit (.bool false)) }) rfl rfl rfl rfl trivial rfl ?_)
                refine rvc_nil ?_
                refine Awp.seq ?_
                refine Awp.cons C (fun _ => .pure) (by kernel_rfl) ?_
                refine rvc_un (rexec_prim C (δ := { v := .pv (.lit (.bool false)) }) rfl rfl rfl rfl trivial rfl ?_)
                refine rvc_un (rexec_prim C (δ := { v := .pv (.lit (.bool true)) }) rfl rfl rfl rfl trivial rfl ?_)
                refine rvc_nil ?_
                refine Awp.condT (b := true) rfl rfl ?_
                refine Awp.cons C (fun _ => .pure) (by kernel_rfl) ?_
                refine rvc_un (rexec_prim C (δ := { v := .pv (.lit (.int .i64 120)) }) rfl rfl rfl rfl trivial rfl ?_)
                refine rvc_nil ?_
                refine Awp.ret ?_
                subst hR
                exact ⟨.inl rfl, rfl⟩
            ·
              replace hR := of_false h38 hR
              refine Awp.cons C (fun _ => .pure) (by kernel_rfl) ?_
              refine rvc_un (rexec_prim C (δ := { v := .pv (.lit (.bool (c.kind == 2))) }) rfl rfl rfl rfl trivial rfl ?_)
              refine rvc_un (rexec_prim C (δ := { v := .pv (.lit (.bool (c.kind == 2))) }) rfl rfl rfl rfl trivial rfl ?_)
              refine rvc_nil ?_
              refine Awp.cond (b := (c.kind == 2)) rfl (fun h42 => ?_) (fun h42 => ?_)
              ·
                replace hR := of_true h42 hR
                refine Awp.region C (fun _ => .pure) (by kernel_rfl) ?_
                refine rvc_un (rexec_prim C (δ := { v := .pv (.lit (.bool (decide (c.epoch ≤ 1099511627776)))) }) rfl rfl rfl rfl trivial rfl ?_)
                refine rvc_un (rexec_prim C (δ := { v := .pv (.lit (.bool (decide (c.epoch ≤ 1099511627776)))) }) rfl rfl rfl rfl trivial rfl ?_)
                refine rvc_case 48 (decide (c.epoch ≤ 1099511627776)) rfl (fun h43 => ?_) (fun h43 => ?_)
                ·
                  replace hR := of_true h43 hR
                  refine rvc_open rfl rfl rfl (rexec_prim C (δ := { v := .pv (.lit (.bool (decide (c.node < 6)))) }) rfl rfl rfl rfl trivial rfl ?_)
                  refine rvc_un (rexec_prim C (δ := { v := .pv (.lit (.bool (decide (c.node < 6)))) }) rfl rfl rfl rfl trivial rfl ?_)
                  refine rvc_un (rexec_prim C (δ := { v := .pv (.lit (.bool (decide (c.node < 6)))) }) rfl rfl rfl rfl trivial rfl ?_)
                  refine rvc_case 51 (decide (c.node < 6)) rfl (fun h44 => ?_) (fun h44 => ?_)
                  ·
                    replace hR := of_true h44 hR
                    refine rvc_open rfl rfl rfl (rexec_prim C (δ := { v := .pv (.lit (.bool false)) }) rfl rfl rfl rfl trivial rfl ?_)
                    refine rvc_un (rexec_prim C (δ := { v := .pv (.lit (.bool false)) }) rfl rfl rfl rfl trivial rfl ?_)
                    refine rvc_un (rexec_prim C (δ := { v := .pv (.lit (.bool false)) }) rfl rfl rfl rfl trivial rfl ?_)
                    refine rvc_nil ?_
                    refine Awp.seq ?_
                    refine Awp.cons C (fun _ => .pure) (by kernel_rfl) ?_
                    refine rvc_un (rexec_prim C (δ := { v := .pv (.lit (.bool false)) }) rfl rfl rfl rfl trivial rfl ?_)
                    refine rvc_un (rexec_prim C (δ := { v := .pv (.lit (.bool true)) }) rfl rfl rfl rfl trivial rfl ?_)
                    refine rvc_nil ?_
                    refine Awp.condT (b := true) rfl rfl ?_
                    refine Awp.cons C (fun _ => .pure) (by kernel_rfl) ?_
                    refine rvc_un (rexec_prim C (δ := { v := .pv (.lit (.int .i64 120)) }) rfl rfl rfl rfl trivial rfl ?_)
                    refine rvc_nil ?_
                    refine Awp.ret ?_
                    subst hR
                    exact ⟨.inl rfl, rfl⟩
                  ·
                    replace hR := of_false h44 hR
                    refine rvc_shut rfl rfl rfl rfl ?_
                    refine rvc_un (rexec_prim C (δ := { v := .pv (.lit (.bool false)) }) rfl rfl rfl rfl trivial rfl ?_)
                    refine rvc_un (rexec_prim C (δ := { v := .pv (.lit (.bool false)) }) rfl rfl rfl rfl trivial rfl ?_)
                    refine rvc_nil ?_
                    refine Awp.seq ?_
                    refine Awp.cons C (fun _ => .pure) (by kernel_rfl) ?_
                    refine rvc_un (rexec_prim C (δ := { v := .pv (.lit (.bool false)) }) rfl rfl rfl rfl trivial rfl ?_)
                    refine rvc_un (rexec_prim C (δ := { v := .pv (.lit (.bool true)) }) rfl rfl rfl rfl trivial rfl ?_)
                    refine rvc_nil ?_
                    refine Awp.condT (b := true) rfl rfl ?_
                    refine Awp.cons C (fun _ => .pure) (by kernel_rfl) ?_
                    refine rvc_un (rexec_prim C (δ := { v := .pv (.lit (.int .i64 120)) }) rfl rfl rfl rfl trivial rfl ?_)
                    refine rvc_nil ?_
                    refine Awp.ret ?_
                    subst hR
                    exact ⟨.inl rfl, rfl⟩
                ·
                  replace hR := of_false h43 hR
                  refine rvc_shut rfl rfl rfl rfl ?_
                  refine rvc_un (rexec_prim C (δ := { v := .pv (.lit (.bool false)) }) rfl rfl rfl rfl trivial rfl ?_)
                  refine rvc_un (rexec_prim C (δ := { v := .pv (.lit (.bool false)) }) rfl rfl rfl rfl trivial rfl ?_)
                  refine rvc_shut rfl rfl rfl rfl ?_
                  refine rvc_un (rexec_prim C (δ := { v := .pv (.lit (.bool false)) }) rfl rfl rfl rfl trivial rfl ?_)
                  refine rvc_un (rexec_prim C (δ := { v := .pv (.lit (.bool false)) }) rfl rfl rfl rfl trivial rfl ?_)
                  refine rvc_nil ?_
                  refine Awp.seq ?_
                  refine Awp.cons C (fun _ => .pure) (by kernel_rfl) ?_
                  refine rvc_un (rexec_prim C (δ := { v := .pv (.lit (.bool false)) }) rfl rfl rfl rfl trivial rfl ?_)
                  refine rvc_un (rexec_prim C (δ := { v := .pv (.lit (.bool true)) }) rfl rfl rfl rfl trivial rfl ?_)
                  refine rvc_nil ?_
                  refine Awp.condT (b := true) rfl rfl ?_
                  refine Awp.cons C (fun _ => .pure) (by kernel_rfl) ?_
                  refine rvc_un (rexec_prim C (δ := { v := .pv (.lit (.int .i64 120)) }) rfl rfl rfl rfl trivial rfl ?_)
                  refine rvc_nil ?_
                  refine Awp.ret ?_
                  subst hR
                  exact ⟨.inl rfl, rfl⟩
              ·
                replace hR := of_false h42 hR
                refine Awp.cons C (fun _ => .pure) (by kernel_rfl) ?_
                refine rvc_un (rexec_prim C (δ := { v := .pv (.lit (.bool (c.kind == 5))) }) rfl rfl rfl rfl trivial rfl ?_)
                refine rvc_un (rexec_prim C (δ := { v := .pv (.lit (.bool (c.kind == 5))) }) rfl rfl rfl rfl trivial rfl ?_)
                refine rvc_nil ?_
                refine Awp.cond (b := (c.kind == 5)) rfl (fun h45 => ?_) (fun h45 => ?_)
                ·
                  replace hR := of_true h45 hR
                  refine Awp.region C (fun _ => .pure) (by kernel_rfl) ?_
                  refine rvc_un (rexec_prim C (δ := { v := .pv (.lit (.bool (decide (c.epoch ≤ 1099511627776)))) }) rfl rfl rfl rfl trivial rfl ?_)
                  refine rvc_un (rexec_prim C (δ := { v := .pv (.lit (.bool (decide (c.epoch ≤ 1099511627776)))) }) rfl rfl rfl rfl trivial rfl ?_)
                  refine rvc_case 57 (decide (c.epoch ≤ 1099511627776)) rfl (fun h46 => ?_) (fun h46 => ?_)
                  ·
                    replace hR := of_true h46 hR
                    refine rvc_open rfl rfl rfl (rexec_prim C (δ := { v := .pv (.lit (.bool false)) }) rfl rfl rfl rfl trivial rfl ?_)
                    refine rvc_un (rexec_prim C (δ := { v := .pv (.lit (.bool false)) }) rfl rfl rfl rfl trivial rfl ?_)
                    refine rvc_un (rexec_prim C (δ := { v := .pv (.lit (.bool false)) }) rfl rfl rfl rfl trivial rfl ?_)
                    refine rvc_shut rfl rfl rfl rfl ?_
                    refine rvc_shut rfl rfl rfl rfl ?_
                    refine rvc_shut rfl rfl rfl rfl ?_
                    refine rvc_un (rexec_prim C (δ := { v := .pv (.lit (.bool false)) }) rfl rfl rfl rfl trivial rfl ?_)
                    refine rvc_un (rexec_prim C (δ := { v := .pv (.lit (.bool false)) }) rfl rfl rfl rfl trivial rfl ?_)
                    refine rvc_nil ?_
                    refine Awp.seq ?_
                    refine Awp.cons C (fun _ => .pure) (by kernel_rfl) ?_
                    refine rvc_un (rexec_prim C (δ := { v := .pv (.lit (.bool false)) }) rfl rfl rfl rfl trivial rfl ?_)
                    refine rvc_un (rexec_prim C (δ := { v := .pv (.lit (.bool true)) }) rfl rfl rfl rfl trivial rfl ?_)
                    refine rvc_nil ?_
                    refine Awp.condT (b := true) rfl rfl ?_
                    refine Awp.cons C (fun _ => .pure) (by kernel_rfl) ?_
                    refine rvc_un (rexec_prim C (δ := { v := .pv (.lit (.int .i64 120)) }) rfl rfl rfl rfl trivial rfl ?_)
                    refine rvc_nil ?_
                    refine Awp.ret ?_
                    subst hR
                    exact ⟨.inl rfl, rfl⟩
                  ·
                    replace hR := of_false h46 hR
                    refine rvc_shut rfl rfl rfl rfl ?_
                    refine rvc_un (rexec_prim C (δ := { v := .pv (.lit (.bool false)) }) rfl rfl rfl rfl trivial rfl ?_)
                    refine rvc_un (rexec_prim C (δ := { v := .pv (.lit (.bool false)) }) rfl rfl rfl rfl trivial rfl ?_)
                    refine rvc_shut rfl rfl rfl rfl ?_
                    refine rvc_shut rfl rfl rfl rfl ?_
                    refine rvc_shut rfl rfl rfl rfl ?_
                    refine rvc_un (rexec_prim C (δ := { v := .pv (.lit (.bool false)) }) rfl rfl rfl rfl trivial rfl ?_)
                    refine rvc_un (rexec_prim C (δ := { v := .pv (.lit (.bool false)) }) rfl rfl rfl rfl trivial rfl ?_)
                    refine rvc_nil ?_
                    refine Awp.seq ?_
                    refine Awp.cons C (fun _ => .pure) (by kernel_rfl) ?_
                    refine rvc_un (rexec_prim C (δ := { v := .pv (.lit (.bool false)) }) rfl rfl rfl rfl trivial rfl ?_)
                    refine rvc_un (rexec_prim C (δ := { v := .pv (.lit (.bool true)) }) rfl rfl rfl rfl trivial rfl ?_)
                    refine rvc_nil ?_
                    refine Awp.condT (b := true) rfl rfl ?_
                    refine Awp.cons C (fun _ => .pure) (by kernel_rfl) ?_
                    refine rvc_un (rexec_prim C (δ := { v := .pv (.lit (.int .i64 120)) }) rfl rfl rfl rfl trivial rfl ?_)
                    refine rvc_nil ?_
                    refine Awp.ret ?_
                    subst hR
                    exact ⟨.inl rfl, rfl⟩
                ·
                  replace hR := of_false h45 hR
                  refine Awp.region C (fun _ => .pure) (by kernel_rfl) ?_
                  refine rvc_un (rexec_prim C (δ := { v := .pv (.lit (.bool false)) }) rfl rfl rfl rfl trivial rfl ?_)
                  refine rvc_nil ?_
                  refine Awp.seq ?_
                  refine Awp.cons C (fun _ => .pure) (by kernel_rfl) ?_
                  refine rvc_un (rexec_prim C (δ := { v := .pv (.lit (.bool false)) }) rfl rfl rfl rfl trivial rfl ?_)
                  refine rvc_un (rexec_prim C (δ := { v := .pv (.lit (.bool true)) }) rfl rfl rfl rfl trivial rfl ?_)
                  refine rvc_nil ?_
                  refine Awp.condT (b := true) rfl rfl ?_
                  refine Awp.cons C (fun _ => .pure) (by kernel_rfl) ?_
                  refine rvc_un (rexec_prim C (δ := { v := .pv (.lit (.int .i64 120)) }) rfl rfl rfl rfl trivial rfl ?_)
                  refine rvc_nil ?_
                  refine Awp.ret ?_
                  subst hR
                  exact ⟨.inl rfl, rfl⟩
      ·
        replace hR := of_false h29 hR
        refine rvc_shut rfl rfl rfl rfl ?_
        refine rvc_shut rfl rfl rfl rfl ?_
        refine rvc_shut rfl rfl rfl rfl ?_
        refine rvc_un (rexec_prim C (δ := { v := .pv (.lit (.bool false)) }) rfl rfl rfl rfl trivial rfl ?_)
        refine rvc_un (rexec_prim C (δ := { v := .pv (.lit (.bool false)) }) rfl rfl rfl rfl trivial rfl ?_)
        refine rvc_nil ?_
        refine Awp.seq ?_
        refine Awp.cons C (fun _ => .pure) (by kernel_rfl) ?_
        refine rvc_un (rexec_prim C (δ := { v := .ptr 1 0 }) rfl rfl rfl rfl trivial rfl ?_)
        refine rvc_un (rexec_prim C (δ := { v := .pv (.lit (.int .i64 c.kind)) }) rfl rfl rfl rfl trivial rfl ?_)
        refine rvc_nil ?_
        refine Awp.block ?_
        refine Awp.seq ?_
        refine Awp.cons C (fun _ => .pure) (by kernel_rfl) ?_
        refine rvc_un (rexec_prim C (δ := { v := .pv (.lit (.bool (c.kind == 1))) }) rfl rfl rfl rfl trivial rfl ?_)
        refine rvc_un (rexec_prim C (δ := { v := .pv (.lit (.bool (c.kind == 1))) }) rfl rfl rfl rfl trivial rfl ?_)
        refine rvc_nil ?_
        refine Awp.cond (b := (c.kind == 1)) rfl (fun h47 => ?_) (fun h47 => ?_)
        ·
          replace hR := of_true h47 hR
          refine Awp.skip ?_
          refine Awp.condT (b := (c.kind == 1)) rfl h47 ?_
          refine Awp.region C (fun _ => .pure) (by kernel_rfl) ?_
          refine rvc_un (rexec_prim C (δ := { v := .pv (.lit (.bool false)) }) rfl rfl rfl rfl trivial rfl ?_)
          refine rvc_un (rexec_prim C (δ := { v := .pv (.lit (.bool false)) }) rfl rfl rfl rfl trivial rfl ?_)
          refine rvc_shut rfl rfl rfl rfl ?_
          refine rvc_un (rexec_prim C (δ := { v := .pv (.lit (.bool false)) }) rfl rfl rfl rfl trivial rfl ?_)
          refine rvc_un (rexec_prim C (δ := { v := .pv (.lit (.bool false)) }) rfl rfl rfl rfl trivial rfl ?_)
          refine rvc_shut rfl rfl rfl rfl ?_
          refine rvc_shut rfl rfl rfl rfl ?_
          refine rvc_shut rfl rfl rfl rfl ?_
          refine rvc_un (rexec_prim C (δ := { v := .pv (.lit (.bool false)) }) rfl rfl rfl rfl trivial rfl ?_)
          refine rvc_un (rexec_prim C (δ := { v := .pv (.lit (.bool false)) }) rfl rfl rfl rfl trivial rfl ?_)
          refine rvc_nil ?_
          refine Awp.seq ?_
          refine Awp.cons C (fun _ => .pure) (by kernel_rfl) ?_
          refine rvc_un (rexec_prim C (δ := { v := .pv (.lit (.bool false)) }) rfl rfl rfl rfl trivial rfl ?_)
          refine rvc_un (rexec_prim C (δ := { v := .pv (.lit (.bool true)) }) rfl rfl rfl rfl trivial rfl ?_)
          refine rvc_nil ?_
          refine Awp.condT (b := true) rfl rfl ?_
          refine Awp.cons C (fun _ => .pure) (by kernel_rfl) ?_
          refine rvc_un (rexec_prim C (δ := { v := .pv (.lit (.int .i64 120)) }) rfl rfl rfl rfl trivial rfl ?_)
          refine rvc_nil ?_
          refine Awp.ret ?_
          subst hR
          exact ⟨.inl rfl, rfl⟩
        ·
          replace hR := of_false h47 hR
          refine Awp.cons C (fun _ => .pure) (by kernel_rfl) ?_
          refine rvc_un (rexec_prim C (δ := { v := .pv (.lit (.bool (c.kind == 3))) }) rfl rfl rfl rfl trivial rfl ?_)
          refine rvc_un (rexec_prim C (δ := { v := .pv (.lit (.bool (c.kind == 3))) }) rfl rfl rfl rfl trivial rfl ?_)
          refine rvc_nil ?_
          refine Awp.cond (b := (c.kind == 3)) rfl (fun h48 => ?_) (fun h48 => ?_)
          ·
            replace hR := of_true h48 hR
            refine Awp.skip ?_
            refine Awp.condT (b := (c.kind == 3)) rfl h48 ?_
            refine Awp.region C (fun _ => .pure) (by kernel_rfl) ?_
            refine rvc_un (rexec_prim C (δ := { v := .pv (.lit (.bool false)) }) rfl rfl rfl rfl trivial rfl ?_)
            refine rvc_un (rexec_prim C (δ := { v := .pv (.lit (.bool false)) }) rfl rfl rfl rfl trivial rfl ?_)
            refine rvc_shut rfl rfl rfl rfl ?_
            refine rvc_un (rexec_prim C (δ := { v := .pv (.lit (.bool false)) }) rfl rfl rfl rfl trivial rfl ?_)
            refine rvc_un (rexec_prim C (δ := { v := .pv (.lit (.bool false)) }) rfl rfl rfl rfl trivial rfl ?_)
            refine rvc_shut rfl rfl rfl rfl ?_
            refine rvc_shut rfl rfl rfl rfl ?_
            refine rvc_shut rfl rfl rfl rfl ?_
            refine rvc_un (rexec_prim C (δ := { v := .pv (.lit (.bool false)) }) rfl rfl rfl rfl trivial rfl ?_)
            refine rvc_un (rexec_prim C (δ := { v := .pv (.lit (.bool false)) }) rfl rfl rfl rfl trivial rfl ?_)
            refine rvc_nil ?_
            refine Awp.seq ?_
            refine Awp.cons C (fun _ => .pure) (by kernel_rfl) ?_
            refine rvc_un (rexec_prim C (δ := { v := .pv (.lit (.bool false)) }) rfl rfl rfl rfl trivial rfl ?_)
            refine rvc_un (rexec_prim C (δ := { v := .pv (.lit (.bool true)) }) rfl rfl rfl rfl trivial rfl ?_)
            refine rvc_nil ?_
            refine Awp.condT (b := true) rfl rfl ?_
            refine Awp.cons C (fun _ => .pure) (by kernel_rfl) ?_
            refine rvc_un (rexec_prim C (δ := { v := .pv (.lit (.int .i64 120)) }) rfl rfl rfl rfl trivial rfl ?_)
            refine rvc_nil ?_
            refine Awp.ret ?_
            subst hR
            exact ⟨.inl rfl, rfl⟩
          ·
            replace hR := of_false h48 hR
            refine Awp.region C (fun _ => .pure) (by kernel_rfl) ?_
            refine rvc_un (rexec_prim C (δ := { v := .pv (.lit (.bool (c.kind == 4))) }) rfl rfl rfl rfl trivial rfl ?_)
            refine rvc_un (rexec_prim C (δ := { v := .pv (.lit (.bool (c.kind == 4))) }) rfl rfl rfl rfl trivial rfl ?_)
            refine rvc_nil ?_
            refine Awp.cond (b := (c.kind == 4)) rfl (fun h49 => ?_) (fun h49 => ?_)
            ·
              replace hR := of_true h49 hR
              refine Awp.region C (fun _ => .pure) (by kernel_rfl) ?_
              refine rvc_un (rexec_prim C (δ := { v := .pv (.lit (.bool false)) }) rfl rfl rfl rfl trivial rfl ?_)
              refine rvc_un (rexec_prim C (δ := { v := .pv (.lit (.bool false)) }) rfl rfl rfl rfl trivial rfl ?_)
              refine rvc_shut rfl rfl rfl rfl ?_
              refine rvc_un (rexec_prim C (δ := { v := .pv (.lit (.bool false)) }) rfl rfl rfl rfl trivial rfl ?_)
              refine rvc_un (rexec_prim C (δ := { v := .pv (.lit (.bool false)) }) rfl rfl rfl rfl trivial rfl ?_)
              refine rvc_shut rfl rfl rfl rfl ?_
              refine rvc_shut rfl rfl rfl rfl ?_
              refine rvc_shut rfl rfl rfl rfl ?_
              refine rvc_un (rexec_prim C (δ := { v := .pv (.lit (.bool false)) }) rfl rfl rfl rfl trivial rfl ?_)
              refine rvc_un (rexec_prim C (δ := { v := .pv (.lit (.bool false)) }) rfl rfl rfl rfl trivial rfl ?_)
              refine rvc_nil ?_
              refine Awp.seq ?_
              refine Awp.cons C (fun _ => .pure) (by kernel_rfl) ?_
              refine rvc_un (rexec_prim C (δ := { v := .pv (.lit (.bool false)) }) rfl rfl rfl rfl trivial rfl ?_)
              refine rvc_un (rexec_prim C (δ := { v := .pv (.lit (.bool true)) }) rfl rfl rfl rfl trivial rfl ?_)
              refine rvc_nil ?_
              refine Awp.condT (b := true) rfl rfl ?_
              refine Awp.cons C (fun _ => .pure) (by kernel_rfl) ?_
              refine rvc_un (rexec_prim C (δ := { v := .pv (.lit (.int .i64 120)) }) rfl rfl rfl rfl trivial rfl ?_)
              refine rvc_nil ?_
              refine Awp.ret ?_
              subst hR
              exact ⟨.inl rfl, rfl⟩
            ·
              replace hR := of_false h49 hR
              refine Awp.cons C (fun _ => .pure) (by kernel_rfl) ?_
              refine rvc_un (rexec_prim C (δ := { v := .pv (.lit (.bool (c.kind == 2))) }) rfl rfl rfl rfl trivial rfl ?_)
              refine rvc_un (rexec_prim C (δ := { v := .pv (.lit (.bool (c.kind == 2))) }) rfl rfl rfl rfl trivial rfl ?_)
              refine rvc_nil ?_
              refine Awp.cond (b := (c.kind == 2)) rfl (fun h50 => ?_) (fun h50 => ?_)
              ·
                replace hR := of_true h50 hR
                refine Awp.region C (fun _ => .pure) (by kernel_rfl) ?_
                refine rvc_un (rexec_prim C (δ := { v := .pv (.lit (.bool false)) }) rfl rfl rfl rfl trivial rfl ?_)
                refine rvc_un (rexec_prim C (δ := { v := .pv (.lit (.bool false)) }) rfl rfl rfl rfl trivial rfl ?_)
                refine rvc_shut rfl rfl rfl rfl ?_
                refine rvc_un (rexec_prim C (δ := { v := .pv (.lit (.bool false)) }) rfl rfl rfl rfl trivial rfl ?_)
                refine rvc_un (rexec_prim C (δ := { v := .pv (.lit (.bool false)) }) rfl rfl rfl rfl trivial rfl ?_)
                refine rvc_shut rfl rfl rfl rfl ?_
                refine rvc_un (rexec_prim C (δ := { v := .pv (.lit (.bool false)) }) rfl rfl rfl rfl trivial rfl ?_)
                refine rvc_un (rexec_prim C (δ := { v := .pv (.lit (.bool false)) }) rfl rfl rfl rfl trivial rfl ?_)
                refine rvc_nil ?_
                refine Awp.seq ?_
                refine Awp.cons C (fun _ => .pure) (by kernel_rfl) ?_
                refine rvc_un (rexec_prim C (δ := { v := .pv (.lit (.bool false)) }) rfl rfl rfl rfl trivial rfl ?_)
                refine rvc_un (rexec_prim C (δ := { v := .pv (.lit (.bool true)) }) rfl rfl rfl rfl trivial rfl ?_)
                refine rvc_nil ?_
                refine Awp.condT (b := true) rfl rfl ?_
                refine Awp.cons C (fun _ => .pure) (by kernel_rfl) ?_
                refine rvc_un (rexec_prim C (δ := { v := .pv (.lit (.int .i64 120)) }) rfl rfl rfl rfl trivial rfl ?_)
                refine rvc_nil ?_
                refine Awp.ret ?_
                subst hR
                exact ⟨.inl rfl, rfl⟩
              ·
                replace hR := of_false h50 hR
                refine Awp.cons C (fun _ => .pure) (by kernel_rfl) ?_
                refine rvc_un (rexec_prim C (δ := { v := .pv (.lit (.bool (c.kind == 5))) }) rfl rfl rfl rfl trivial rfl ?_)
                refine rvc_un (rexec_prim C (δ := { v := .pv (.lit (.bool (c.kind == 5))) }) rfl rfl rfl rfl trivial rfl ?_)
                refine rvc_nil ?_
                refine Awp.cond (b := (c.kind == 5)) rfl (fun h51 => ?_) (fun h51 => ?_)
                ·
                  replace hR := of_true h51 hR
                  refine Awp.region C (fun _ => .pure) (by kernel_rfl) ?_
                  refine rvc_un (rexec_prim C (δ := { v := .pv (.lit (.bool false)) }) rfl rfl rfl rfl trivial rfl ?_)
                  refine rvc_un (rexec_prim C (δ := { v := .pv (.lit (.bool false)) }) rfl rfl rfl rfl trivial rfl ?_)
                  refine rvc_shut rfl rfl rfl rfl ?_
                  refine rvc_un (rexec_prim C (δ := { v := .pv (.lit (.bool false)) }) rfl rfl rfl rfl trivial rfl ?_)
                  refine rvc_un (rexec_prim C (δ := { v := .pv (.lit (.bool false)) }) rfl rfl rfl rfl trivial rfl ?_)
                  refine rvc_shut rfl rfl rfl rfl ?_
                  refine rvc_shut rfl rfl rfl rfl ?_
                  refine rvc_shut rfl rfl rfl rfl ?_
                  refine rvc_un (rexec_prim C (δ := { v := .pv (.lit (.bool false)) }) rfl rfl rfl rfl trivial rfl ?_)
                  refine rvc_un (rexec_prim C (δ := { v := .pv (.lit (.bool false)) }) rfl rfl rfl rfl trivial rfl ?_)
                  refine rvc_nil ?_
                  refine Awp.seq ?_
                  refine Awp.cons C (fun _ => .pure) (by kernel_rfl) ?_
                  refine rvc_un (rexec_prim C (δ := { v := .pv (.lit (.bool false)) }) rfl rfl rfl rfl trivial rfl ?_)
                  refine rvc_un (rexec_prim C (δ := { v := .pv (.lit (.bool true)) }) rfl rfl rfl rfl trivial rfl ?_)
                  refine rvc_nil ?_
                  refine Awp.condT (b := true) rfl rfl ?_
                  refine Awp.cons C (fun _ => .pure) (by kernel_rfl) ?_
                  refine rvc_un (rexec_prim C (δ := { v := .pv (.lit (.int .i64 120)) }) rfl rfl rfl rfl trivial rfl ?_)
                  refine rvc_nil ?_
                  refine Awp.ret ?_
                  subst hR
                  exact ⟨.inl rfl, rfl⟩
                ·
                  replace hR := of_false h51 hR
                  refine Awp.region C (fun _ => .pure) (by kernel_rfl) ?_
                  refine rvc_un (rexec_prim C (δ := { v := .pv (.lit (.bool false)) }) rfl rfl rfl rfl trivial rfl ?_)
                  refine rvc_nil ?_
                  refine Awp.seq ?_
                  refine Awp.cons C (fun _ => .pure) (by kernel_rfl) ?_
                  refine rvc_un (rexec_prim C (δ := { v := .pv (.lit (.bool false)) }) rfl rfl rfl rfl trivial rfl ?_)
                  refine rvc_un (rexec_prim C (δ := { v := .pv (.lit (.bool true)) }) rfl rfl rfl rfl trivial rfl ?_)
                  refine rvc_nil ?_
                  refine Awp.condT (b := true) rfl rfl ?_
                  refine Awp.cons C (fun _ => .pure) (by kernel_rfl) ?_
                  refine rvc_un (rexec_prim C (δ := { v := .pv (.lit (.int .i64 120)) }) rfl rfl rfl rfl trivial rfl ?_)
                  refine rvc_nil ?_
                  refine Awp.ret ?_
                  subst hR
                  exact ⟨.inl rfl, rfl⟩
  ·
    replace hR := of_false h1 hR
    refine rvc_shut rfl rfl rfl rfl ?_
    refine rvc_shut rfl rfl rfl rfl ?_
    refine rvc_shut rfl rfl rfl rfl ?_
    refine rvc_un (rexec_prim C (δ := { v := .pv (.lit (.bool false)) }) rfl rfl rfl rfl trivial rfl ?_)
    refine rvc_un (rexec_prim C (δ := { v := .pv (.lit (.bool false)) }) rfl rfl rfl rfl trivial rfl ?_)
    refine rvc_nil ?_
    refine Awp.cons C (fun _ => .pure) (by kernel_rfl) ?_
    refine rvc_un (rexec_prim C (δ := { v := .ptr 1 2 }) rfl rfl rfl rfl trivial rfl ?_)
    refine rvc_un (rexec_prim C (δ := { v := .pv (.lit (.int .i64 c.site)) }) rfl rfl rfl rfl trivial rfl ?_)
    refine rvc_un (rexec_prim C (δ := { v := .pv (.lit (.bool (decide (c.site ≥ 0)))) }) rfl rfl rfl rfl trivial rfl ?_)
    refine rvc_un (rexec_prim C (δ := { v := .pv (.lit (.bool (decide (c.site ≥ 0)))) }) rfl rfl rfl rfl trivial rfl ?_)
    refine rvc_case 17 (decide (c.site ≥ 0)) rfl (fun h52 => ?_) (fun h52 => ?_)
    ·
      replace hR := of_true h52 hR
      refine rvc_open rfl rfl rfl (rexec_prim C (δ := { v := .ptr 1 2 }) rfl rfl rfl rfl trivial rfl ?_)
      refine rvc_open rfl rfl rfl (rexec_prim C (δ := { v := .pv (.lit (.int .i64 c.site)) }) rfl rfl rfl rfl trivial rfl ?_)
      refine rvc_open rfl rfl rfl (rexec_prim C (δ := { v := .pv (.lit (.bool (decide (c.site < 3)))) }) rfl rfl rfl rfl trivial rfl ?_)
      refine rvc_un (rexec_prim C (δ := { v := .pv (.lit (.bool (decide (c.site < 3)))) }) rfl rfl rfl rfl trivial rfl ?_)
      refine rvc_un (rexec_prim C (δ := { v := .pv (.lit (.bool (decide (c.site < 3)))) }) rfl rfl rfl rfl trivial rfl ?_)
      refine rvc_nil ?_
      refine Awp.cons C (fun _ => .pure) (by kernel_rfl) ?_
      refine rvc_un (rexec_prim C (δ := { v := .ptr 1 3 }) rfl rfl rfl rfl trivial rfl ?_)
      refine rvc_un (rexec_prim C (δ := { v := .pv (.lit (.int .i64 c.epoch)) }) rfl rfl rfl rfl trivial rfl ?_)
      refine rvc_un (rexec_prim C (δ := { v := .pv (.lit (.bool (decide (c.epoch ≥ 1)))) }) rfl rfl rfl rfl trivial rfl ?_)
      refine rvc_un (rexec_prim C (δ := { v := .pv (.lit (.bool (decide (c.epoch ≥ 1)))) }) rfl rfl rfl rfl trivial rfl ?_)
      refine rvc_case 25 (decide (c.epoch ≥ 1)) rfl (fun h53 => ?_) (fun h53 => ?_)
      ·
        replace hR := of_true h53 hR
        refine rvc_open rfl rfl rfl (rexec_prim C (δ := { v := .ptr 1 3 }) rfl rfl rfl rfl trivial rfl ?_)
        refine rvc_open rfl rfl rfl (rexec_prim C (δ := { v := .pv (.lit (.int .i64 c.epoch)) }) rfl rfl rfl rfl trivial rfl ?_)
        refine rvc_open rfl rfl rfl (rexec_prim C (δ := { v := .pv (.lit (.bool (decide (c.epoch ≤ 1099511627776)))) }) rfl rfl rfl rfl trivial rfl ?_)
        refine rvc_un (rexec_prim C (δ := { v := .pv (.lit (.bool (decide (c.epoch ≤ 1099511627776)))) }) rfl rfl rfl rfl trivial rfl ?_)
        refine rvc_un (rexec_prim C (δ := { v := .pv (.lit (.bool (decide (c.epoch ≤ 1099511627776)))) }) rfl rfl rfl rfl trivial rfl ?_)
        refine rvc_nil ?_
        refine Awp.seq ?_
        refine Awp.cons C (fun _ => .pure) (by kernel_rfl) ?_
        refine rvc_un (rexec_prim C (δ := { v := .ptr 1 0 }) rfl rfl rfl rfl trivial rfl ?_)
        refine rvc_un (rexec_prim C (δ := { v := .pv (.lit (.int .i64 c.kind)) }) rfl rfl rfl rfl trivial rfl ?_)
        refine rvc_nil ?_
        refine Awp.block ?_
        refine Awp.seq ?_
        refine Awp.cons C (fun _ => .pure) (by kernel_rfl) ?_
        refine rvc_un (rexec_prim C (δ := { v := .pv (.lit (.bool (c.kind == 1))) }) rfl rfl rfl rfl trivial rfl ?_)
        refine rvc_un (rexec_prim C (δ := { v := .pv (.lit (.bool (c.kind == 1))) }) rfl rfl rfl rfl trivial rfl ?_)
        refine rvc_nil ?_
        refine Awp.cond (b := (c.kind == 1)) rfl (fun h54 => ?_) (fun h54 => ?_)
        ·
          replace hR := of_true h54 hR
          refine Awp.skip ?_
          refine Awp.condT (b := (c.kind == 1)) rfl h54 ?_
          refine Awp.region C (fun _ => .pure) (by kernel_rfl) ?_
          refine rvc_un (rexec_prim C (δ := { v := .pv (.lit (.bool (decide (c.epoch ≤ 1099511627776)))) }) rfl rfl rfl rfl trivial rfl ?_)
          refine rvc_un (rexec_prim C (δ := { v := .pv (.lit (.bool (decide (c.epoch ≤ 1099511627776)))) }) rfl rfl rfl rfl trivial rfl ?_)
          refine rvc_case 37 (decide (c.epoch ≤ 1099511627776)) rfl (fun h55 => ?_) (fun h55 => ?_)
          ·
            replace hR := of_true h55 hR
            refine rvc_open rfl rfl rfl (rexec_prim C (δ := { v := .pv (.lit (.bool false)) }) rfl rfl rfl rfl trivial rfl ?_)
            refine rvc_un (rexec_prim C (δ := { v := .pv (.lit (.bool false)) }) rfl rfl rfl rfl trivial rfl ?_)
            refine rvc_un (rexec_prim C (δ := { v := .pv (.lit (.bool false)) }) rfl rfl rfl rfl trivial rfl ?_)
            refine rvc_shut rfl rfl rfl rfl ?_
            refine rvc_shut rfl rfl rfl rfl ?_
            refine rvc_shut rfl rfl rfl rfl ?_
            refine rvc_un (rexec_prim C (δ := { v := .pv (.lit (.bool false)) }) rfl rfl rfl rfl trivial rfl ?_)
            refine rvc_un (rexec_prim C (δ := { v := .pv (.lit (.bool false)) }) rfl rfl rfl rfl trivial rfl ?_)
            refine rvc_nil ?_
            refine Awp.seq ?_
            refine Awp.cons C (fun _ => .pure) (by kernel_rfl) ?_
            refine rvc_un (rexec_prim C (δ := { v := .pv (.lit (.bool false)) }) rfl rfl rfl rfl trivial rfl ?_)
            refine rvc_un (rexec_prim C (δ := { v := .pv (.lit (.bool true)) }) rfl rfl rfl rfl trivial rfl ?_)
            refine rvc_nil ?_
            refine Awp.condT (b := true) rfl rfl ?_
            refine Awp.cons C (fun _ => .pure) (by kernel_rfl) ?_
            refine rvc_un (rexec_prim C (δ := { v := .pv (.lit (.int .i64 120)) }) rfl rfl rfl rfl trivial rfl ?_)
            refine rvc_nil ?_
            refine Awp.ret ?_
            subst hR
            exact ⟨.inl rfl, rfl⟩
          ·
            replace hR := of_false h55 hR
            refine rvc_shut rfl rfl rfl rfl ?_
            refine rvc_un (rexec_prim C (δ := { v := .pv (.lit (.bool false)) }) rfl rfl rfl rfl trivial rfl ?_)
            refine rvc_un (rexec_prim C (δ := { v := .pv (.lit (.bool false)) }) rfl rfl rfl rfl trivial rfl ?_)
            refine rvc_shut rfl rfl rfl rfl ?_
            refine rvc_shut rfl rfl rfl rfl ?_
            refine rvc_shut rfl rfl rfl rfl ?_
            refine rvc_un (rexec_prim C (δ := { v := .pv (.lit (.bool false)) }) rfl rfl rfl rfl trivial rfl ?_)
            refine rvc_un (rexec_prim C (δ := { v := .pv (.lit (.bool false)) }) rfl rfl rfl rfl trivial rfl ?_)
            refine rvc_nil ?_
            refine Awp.seq ?_
            refine Awp.cons C (fun _ => .pure) (by kernel_rfl) ?_
            refine rvc_un (rexec_prim C (δ := { v := .pv (.lit (.bool false)) }) rfl rfl rfl rfl trivial rfl ?_)
            refine rvc_un (rexec_prim C (δ := { v := .pv (.lit (.bool true)) }) rfl rfl rfl rfl trivial rfl ?_)
            refine rvc_nil ?_
            refine Awp.condT (b := true) rfl rfl ?_
            refine Awp.cons C (fun _ => .pure) (by kernel_rfl) ?_
            refine rvc_un (rexec_prim C (δ := { v := .pv (.lit (.int .i64 120)) }) rfl rfl rfl rfl trivial rfl ?_)
            refine rvc_nil ?_
            refine Awp.ret ?_
            subst hR
            exact ⟨.inl rfl, rfl⟩
        ·
          replace hR := of_false h54 hR
          refine Awp.cons C (fun _ => .pure) (by kernel_rfl) ?_
          refine rvc_un (rexec_prim C (δ := { v := .pv (.lit (.bool (c.kind == 3))) }) rfl rfl rfl rfl trivial rfl ?_)
          refine rvc_un (rexec_prim C (δ := { v := .pv (.lit (.bool (c.kind == 3))) }) rfl rfl rfl rfl trivial rfl ?_)
          refine rvc_nil ?_
          refine Awp.cond (b := (c.kind == 3)) rfl (fun h56 => ?_) (fun h56 => ?_)
          ·
            replace hR := of_true h56 hR
            refine Awp.skip ?_
            refine Awp.condT (b := (c.kind == 3)) rfl h56 ?_
            refine Awp.region C (fun _ => .pure) (by kernel_rfl) ?_
            refine rvc_un (rexec_prim C (δ := { v := .pv (.lit (.bool (decide (c.epoch ≤ 1099511627776)))) }) rfl rfl rfl rfl trivial rfl ?_)
            refine rvc_un (rexec_prim C (δ := { v := .pv (.lit (.bool (decide (c.epoch ≤ 1099511627776)))) }) rfl rfl rfl rfl trivial rfl ?_)
            refine rvc_case 37 (decide (c.epoch ≤ 1099511627776)) rfl (fun h57 => ?_) (fun h57 => ?_)
            ·
              replace hR := of_true h57 hR
              refine rvc_open rfl rfl rfl (rexec_prim C (δ := { v := .pv (.lit (.bool false)) }) rfl rfl rfl rfl trivial rfl ?_)
              refine rvc_un (rexec_prim C (δ := { v := .pv (.lit (.bool false)) }) rfl rfl rfl rfl trivial rfl ?_)
              refine rvc_un (rexec_prim C (δ := { v := .pv (.lit (.bool false)) }) rfl rfl rfl rfl trivial rfl ?_)
              refine rvc_shut rfl rfl rfl rfl ?_
              refine rvc_shut rfl rfl rfl rfl ?_
              refine rvc_shut rfl rfl rfl rfl ?_
              refine rvc_un (rexec_prim C (δ := { v := .pv (.lit (.bool false)) }) rfl rfl rfl rfl trivial rfl ?_)
              refine rvc_un (rexec_prim C (δ := { v := .pv (.lit (.bool false)) }) rfl rfl rfl rfl trivial rfl ?_)
              refine rvc_nil ?_
              refine Awp.seq ?_
              refine Awp.cons C (fun _ => .pure) (by kernel_rfl) ?_
              refine rvc_un (rexec_prim C (δ := { v := .pv (.lit (.bool false)) }) rfl rfl rfl rfl trivial rfl ?_)
              refine rvc_un (rexec_prim C (δ := { v := .pv (.lit (.bool true)) }) rfl rfl rfl rfl trivial rfl ?_)
              refine rvc_nil ?_
              refine Awp.condT (b := true) rfl rfl ?_
              refine Awp.cons C (fun _ => .pure) (by kernel_rfl) ?_
              refine rvc_un (rexec_prim C (δ := { v := .pv (.lit (.int .i64 120)) }) rfl rfl rfl rfl trivial rfl ?_)
              refine rvc_nil ?_
              refine Awp.ret ?_
              subst hR
              exact ⟨.inl rfl, rfl⟩
            ·
              replace hR := of_false h57 hR
              refine rvc_shut rfl rfl rfl rfl ?_
              refine rvc_un (rexec_prim C (δ := { v := .pv (.lit (.bool false)) }) rfl rfl rfl rfl trivial rfl ?_)
              refine rvc_un (rexec_prim C (δ := { v := .pv (.lit (.bool false)) }) rfl rfl rfl rfl trivial rfl ?_)
              refine rvc_shut rfl rfl rfl rfl ?_
              refine rvc_shut rfl rfl rfl rfl ?_
              refine rvc_shut rfl rfl rfl rfl ?_
              refine rvc_un (rexec_prim C (δ := { v := .pv (.lit (.bool false)) }) rfl rfl rfl rfl trivial rfl ?_)
              refine rvc_un (rexec_prim C (δ := { v := .pv (.lit (.bool false)) }) rfl rfl rfl rfl trivial rfl ?_)
              refine rvc_nil ?_
              refine Awp.seq ?_
              refine Awp.cons C (fun _ => .pure) (by kernel_rfl) ?_
              refine rvc_un (rexec_prim C (δ := { v := .pv (.lit (.bool false)) }) rfl rfl rfl rfl trivial rfl ?_)
              refine rvc_un (rexec_prim C (δ := { v := .pv (.lit (.bool true)) }) rfl rfl rfl rfl trivial rfl ?_)
              refine rvc_nil ?_
              refine Awp.condT (b := true) rfl rfl ?_
              refine Awp.cons C (fun _ => .pure) (by kernel_rfl) ?_
              refine rvc_un (rexec_prim C (δ := { v := .pv (.lit (.int .i64 120)) }) rfl rfl rfl rfl trivial rfl ?_)
              refine rvc_nil ?_
              refine Awp.ret ?_
              subst hR
              exact ⟨.inl rfl, rfl⟩
          ·
            replace hR := of_false h56 hR
            refine Awp.region C (fun _ => .pure) (by kernel_rfl) ?_
            refine rvc_un (rexec_prim C (δ := { v := .pv (.lit (.bool (c.kind == 4))) }) rfl rfl rfl rfl trivial rfl ?_)
            refine rvc_un (rexec_prim C (δ := { v := .pv (.lit (.bool (c.kind == 4))) }) rfl rfl rfl rfl trivial rfl ?_)
            refine rvc_nil ?_
            refine Awp.cond (b := (c.kind == 4)) rfl (fun h58 => ?_) (fun h58 => ?_)
            ·
              replace hR := of_true h58 hR
              refine Awp.region C (fun _ => .pure) (by kernel_rfl) ?_
              refine rvc_un (rexec_prim C (δ := { v := .pv (.lit (.bool (decide (c.epoch ≤ 1099511627776)))) }) rfl rfl rfl rfl trivial rfl ?_)
              refine rvc_un (rexec_prim C (δ := { v := .pv (.lit (.bool (decide (c.epoch ≤ 1099511627776)))) }) rfl rfl rfl rfl trivial rfl ?_)
              refine rvc_case 37 (decide (c.epoch ≤ 1099511627776)) rfl (fun h59 => ?_) (fun h59 => ?_)
              ·
                replace hR := of_true h59 hR
                refine rvc_open rfl rfl rfl (rexec_prim C (δ := { v := .pv (.lit (.bool false)) }) rfl rfl rfl rfl trivial rfl ?_)
                refine rvc_un (rexec_prim C (δ := { v := .pv (.lit (.bool false)) }) rfl rfl rfl rfl trivial rfl ?_)
                refine rvc_un (rexec_prim C (δ := { v := .pv (.lit (.bool false)) }) rfl rfl rfl rfl trivial rfl ?_)
                refine rvc_shut rfl rfl rfl rfl ?_
                refine rvc_shut rfl rfl rfl rfl ?_
                refine rvc_shut rfl rfl rfl rfl ?_
                refine rvc_un (rexec_prim C (δ := { v := .pv (.lit (.bool false)) }) rfl rfl rfl rfl trivial rfl ?_)
                refine rvc_un (rexec_prim C (δ := { v := .pv (.lit (.bool false)) }) rfl rfl rfl rfl trivial rfl ?_)
                refine rvc_nil ?_
                refine Awp.seq ?_
                refine Awp.cons C (fun _ => .pure) (by kernel_rfl) ?_
                refine rvc_un (rexec_prim C (δ := { v := .pv (.lit (.bool false)) }) rfl rfl rfl rfl trivial rfl ?_)
                refine rvc_un (rexec_prim C (δ := { v := .pv (.lit (.bool true)) }) rfl rfl rfl rfl trivial rfl ?_)
                refine rvc_nil ?_
                refine Awp.condT (b := true) rfl rfl ?_
                refine Awp.cons C (fun _ => .pure) (by kernel_rfl) ?_
                refine rvc_un (rexec_prim C (δ := { v := .pv (.lit (.int .i64 120)) }) rfl rfl rfl rfl trivial rfl ?_)
                refine rvc_nil ?_
                refine Awp.ret ?_
                subst hR
                exact ⟨.inl rfl, rfl⟩
              ·
                replace hR := of_false h59 hR
                refine rvc_shut rfl rfl rfl rfl ?_
                refine rvc_un (rexec_prim C (δ := { v := .pv (.lit (.bool false)) }) rfl rfl rfl rfl trivial rfl ?_)
                refine rvc_un (rexec_prim C (δ := { v := .pv (.lit (.bool false)) }) rfl rfl rfl rfl trivial rfl ?_)
                refine rvc_shut rfl rfl rfl rfl ?_
                refine rvc_shut rfl rfl rfl rfl ?_
                refine rvc_shut rfl rfl rfl rfl ?_
                refine rvc_un (rexec_prim C (δ := { v := .pv (.lit (.bool false)) }) rfl rfl rfl rfl trivial rfl ?_)
                refine rvc_un (rexec_prim C (δ := { v := .pv (.lit (.bool false)) }) rfl rfl rfl rfl trivial rfl ?_)
                refine rvc_nil ?_
                refine Awp.seq ?_
                refine Awp.cons C (fun _ => .pure) (by kernel_rfl) ?_
                refine rvc_un (rexec_prim C (δ := { v := .pv (.lit (.bool false)) }) rfl rfl rfl rfl trivial rfl ?_)
                refine rvc_un (rexec_prim C (δ := { v := .pv (.lit (.bool true)) }) rfl rfl rfl rfl trivial rfl ?_)
                refine rvc_nil ?_
                refine Awp.condT (b := true) rfl rfl ?_
                refine Awp.cons C (fun _ => .pure) (by kernel_rfl) ?_
                refine rvc_un (rexec_prim C (δ := { v := .pv (.lit (.int .i64 120)) }) rfl rfl rfl rfl trivial rfl ?_)
                refine rvc_nil ?_
                refine Awp.ret ?_
                subst hR
                exact ⟨.inl rfl, rfl⟩
            ·
              replace hR := of_false h58 hR
              refine Awp.cons C (fun _ => .pure) (by kernel_rfl) ?_
              refine rvc_un (rexec_prim C (δ := { v := .pv (.lit (.bool (c.kind == 2))) }) rfl rfl rfl rfl trivial rfl ?_)
              refine rvc_un (rexec_prim C (δ := { v := .pv (.lit (.bool (c.kind == 2))) }) rfl rfl rfl rfl trivial rfl ?_)
              refine rvc_nil ?_
              refine Awp.cond (b := (c.kind == 2)) rfl (fun h60 => ?_) (fun h60 => ?_)
              ·
                replace hR := of_true h60 hR
                refine Awp.region C (fun _ => .pure) (by kernel_rfl) ?_
                refine rvc_un (rexec_prim C (δ := { v := .pv (.lit (.bool (decide (c.epoch ≤ 1099511627776)))) }) rfl rfl rfl rfl trivial rfl ?_)
                refine rvc_un (rexec_prim C (δ := { v := .pv (.lit (.bool (decide (c.epoch ≤ 1099511627776)))) }) rfl rfl rfl rfl trivial rfl ?_)
                refine rvc_case 48 (decide (c.epoch ≤ 1099511627776)) rfl (fun h61 => ?_) (fun h61 => ?_)
                ·
                  replace hR := of_true h61 hR
                  refine rvc_open rfl rfl rfl (rexec_prim C (δ := { v := .pv (.lit (.bool false)) }) rfl rfl rfl rfl trivial rfl ?_)
                  refine rvc_un (rexec_prim C (δ := { v := .pv (.lit (.bool false)) }) rfl rfl rfl rfl trivial rfl ?_)
                  refine rvc_un (rexec_prim C (δ := { v := .pv (.lit (.bool false)) }) rfl rfl rfl rfl trivial rfl ?_)
                  refine rvc_shut rfl rfl rfl rfl ?_
                  refine rvc_un (rexec_prim C (δ := { v := .pv (.lit (.bool false)) }) rfl rfl rfl rfl trivial rfl ?_)
                  refine rvc_un (rexec_prim C (δ := { v := .pv (.lit (.bool false)) }) rfl rfl rfl rfl trivial rfl ?_)
                  refine rvc_nil ?_
                  refine Awp.seq ?_
                  refine Awp.cons C (fun _ => .pure) (by kernel_rfl) ?_
                  refine rvc_un (rexec_prim C (δ := { v := .pv (.lit (.bool false)) }) rfl rfl rfl rfl trivial rfl ?_)
                  refine rvc_un (rexec_prim C (δ := { v := .pv (.lit (.bool true)) }) rfl rfl rfl rfl trivial rfl ?_)
                  refine rvc_nil ?_
                  refine Awp.condT (b := true) rfl rfl ?_
                  refine Awp.cons C (fun _ => .pure) (by kernel_rfl) ?_
                  refine rvc_un (rexec_prim C (δ := { v := .pv (.lit (.int .i64 120)) }) rfl rfl rfl rfl trivial rfl ?_)
                  refine rvc_nil ?_
                  refine Awp.ret ?_
                  subst hR
                  exact ⟨.inl rfl, rfl⟩
                ·
                  replace hR := of_false h61 hR
                  refine rvc_shut rfl rfl rfl rfl ?_
                  refine rvc_un (rexec_prim C (δ := { v := .pv (.lit (.bool false)) }) rfl rfl rfl rfl trivial rfl ?_)
                  refine rvc_un (rexec_prim C (δ := { v := .pv (.lit (.bool false)) }) rfl rfl rfl rfl trivial rfl ?_)
                  refine rvc_shut rfl rfl rfl rfl ?_
                  refine rvc_un (rexec_prim C (δ := { v := .pv (.lit (.bool false)) }) rfl rfl rfl rfl trivial rfl ?_)
                  refine rvc_un (rexec_prim C (δ := { v := .pv (.lit (.bool false)) }) rfl rfl rfl rfl trivial rfl ?_)
                  refine rvc_nil ?_
                  refine Awp.seq ?_
                  refine Awp.cons C (fun _ => .pure) (by kernel_rfl) ?_
                  refine rvc_un (rexec_prim C (δ := { v := .pv (.lit (.bool false)) }) rfl rfl rfl rfl trivial rfl ?_)
                  refine rvc_un (rexec_prim C (δ := { v := .pv (.lit (.bool true)) }) rfl rfl rfl rfl trivial rfl ?_)
                  refine rvc_nil ?_
                  refine Awp.condT (b := true) rfl rfl ?_
                  refine Awp.cons C (fun _ => .pure) (by kernel_rfl) ?_
                  refine rvc_un (rexec_prim C (δ := { v := .pv (.lit (.int .i64 120)) }) rfl rfl rfl rfl trivial rfl ?_)
                  refine rvc_nil ?_
                  refine Awp.ret ?_
                  subst hR
                  exact ⟨.inl rfl, rfl⟩
              ·
                replace hR := of_false h60 hR
                refine Awp.cons C (fun _ => .pure) (by kernel_rfl) ?_
                refine rvc_un (rexec_prim C (δ := { v := .pv (.lit (.bool (c.kind == 5))) }) rfl rfl rfl rfl trivial rfl ?_)
                refine rvc_un (rexec_prim C (δ := { v := .pv (.lit (.bool (c.kind == 5))) }) rfl rfl rfl rfl trivial rfl ?_)
                refine rvc_nil ?_
                refine Awp.cond (b := (c.kind == 5)) rfl (fun h62 => ?_) (fun h62 => ?_)
                ·
                  replace hR := of_true h62 hR
                  refine Awp.region C (fun _ => .pure) (by kernel_rfl) ?_
                  refine rvc_un (rexec_prim C (δ := { v := .pv (.lit (.bool (decide (c.epoch ≤ 1099511627776)))) }) rfl rfl rfl rfl trivial rfl ?_)
                  refine rvc_un (rexec_prim C (δ := { v := .pv (.lit (.bool (decide (c.epoch ≤ 1099511627776)))) }) rfl rfl rfl rfl trivial rfl ?_)
                  refine rvc_case 57 (decide (c.epoch ≤ 1099511627776)) rfl (fun h63 => ?_) (fun h63 => ?_)
                  ·
                    replace hR := of_true h63 hR
                    refine rvc_open rfl rfl rfl (rexec_prim C (δ := { v := .pv (.lit (.bool (decide (c.site < 3)))) }) rfl rfl rfl rfl trivial rfl ?_)
                    refine rvc_un (rexec_prim C (δ := { v := .pv (.lit (.bool (decide (c.site < 3)))) }) rfl rfl rfl rfl trivial rfl ?_)
                    refine rvc_un (rexec_prim C (δ := { v := .pv (.lit (.bool (decide (c.site < 3)))) }) rfl rfl rfl rfl trivial rfl ?_)
                    refine rvc_case 60 (decide (c.site < 3)) rfl (fun h64 => ?_) (fun h64 => ?_)
                    ·
                      replace hR := of_true h64 hR
                      refine rvc_open rfl rfl rfl (rexec_prim C (δ := { v := .ptr 1 1 }) rfl rfl rfl rfl trivial rfl ?_)
                      refine rvc_open rfl rfl rfl (rexec_prim C (δ := { v := .pv (.lit (.int .i64 c.node)) }) rfl rfl rfl rfl trivial rfl ?_)
                      refine rvc_open rfl rfl rfl (rexec_prim C (δ := { v := .pv (.lit (.bool (c.node == 0))) }) rfl rfl rfl rfl trivial rfl ?_)
                      refine rvc_un (rexec_prim C (δ := { v := .pv (.lit (.bool (c.node == 0))) }) rfl rfl rfl rfl trivial rfl ?_)
                      refine rvc_un (rexec_prim C (δ := { v := .pv (.lit (.bool (c.node == 0))) }) rfl rfl rfl rfl trivial rfl ?_)
                      refine rvc_nil ?_
                      refine Awp.seq ?_
                      refine Awp.cons C (fun _ => .pure) (by kernel_rfl) ?_
                      refine rvc_un (rexec_prim C (δ := { v := .pv (.lit (.bool (c.node == 0))) }) rfl rfl rfl rfl trivial rfl ?_)
                      refine rvc_un (rexec_prim C (δ := { v := .pv (.lit (.bool (!(c.node == 0)))) }) rfl rfl rfl rfl trivial rfl ?_)
                      refine rvc_nil ?_
                      refine Awp.cond (b := (!(c.node == 0))) rfl (fun h65 => ?_) (fun h65 => ?_)
                      ·
                        replace hR := of_true h65 hR
                        refine Awp.cons C (fun _ => .pure) (by kernel_rfl) ?_
                        refine rvc_un (rexec_prim C (δ := { v := .pv (.lit (.int .i64 120)) }) rfl rfl rfl rfl trivial rfl ?_)
                        refine rvc_nil ?_
                        refine Awp.ret ?_
                        subst hR
                        exact ⟨.inl rfl, rfl⟩
                      ·
                        replace hR := of_false h65 hR
                        refine Awp.skip ?_
                        refine Awp.cons C (fun _ => .pure) (by kernel_rfl) ?_
                        refine rvc_un (rexec_prim C (δ := { v := .pv (.lit (.int .i64 0)) }) rfl rfl rfl rfl trivial rfl ?_)
                        refine rvc_nil ?_
                        refine Awp.ret ?_
                        subst hR
                        exact ⟨.inl rfl, rfl⟩
                    ·
                      replace hR := of_false h64 hR
                      refine rvc_shut rfl rfl rfl rfl ?_
                      refine rvc_shut rfl rfl rfl rfl ?_
                      refine rvc_shut rfl rfl rfl rfl ?_
                      refine rvc_un (rexec_prim C (δ := { v := .pv (.lit (.bool false)) }) rfl rfl rfl rfl trivial rfl ?_)
                      refine rvc_un (rexec_prim C (δ := { v := .pv (.lit (.bool false)) }) rfl rfl rfl rfl trivial rfl ?_)
                      refine rvc_nil ?_
                      refine Awp.seq ?_
                      refine Awp.cons C (fun _ => .pure) (by kernel_rfl) ?_
                      refine rvc_un (rexec_prim C (δ := { v := .pv (.lit (.bool false)) }) rfl rfl rfl rfl trivial rfl ?_)
                      refine rvc_un (rexec_prim C (δ := { v := .pv (.lit (.bool true)) }) rfl rfl rfl rfl trivial rfl ?_)
                      refine rvc_nil ?_
                      refine Awp.condT (b := true) rfl rfl ?_
                      refine Awp.cons C (fun _ => .pure) (by kernel_rfl) ?_
                      refine rvc_un (rexec_prim C (δ := { v := .pv (.lit (.int .i64 120)) }) rfl rfl rfl rfl trivial rfl ?_)
                      refine rvc_nil ?_
                      refine Awp.ret ?_
                      subst hR
                      exact ⟨.inl rfl, rfl⟩
                  ·
                    replace hR := of_false h63 hR
                    refine rvc_shut rfl rfl rfl rfl ?_
                    refine rvc_un (rexec_prim C (δ := { v := .pv (.lit (.bool false)) }) rfl rfl rfl rfl trivial rfl ?_)
                    refine rvc_un (rexec_prim C (δ := { v := .pv (.lit (.bool false)) }) rfl rfl rfl rfl trivial rfl ?_)
                    refine rvc_shut rfl rfl rfl rfl ?_
                    refine rvc_shut rfl rfl rfl rfl ?_
                    refine rvc_shut rfl rfl rfl rfl ?_
                    refine rvc_un (rexec_prim C (δ := { v := .pv (.lit (.bool false)) }) rfl rfl rfl rfl trivial rfl ?_)
                    refine rvc_un (rexec_prim C (δ := { v := .pv (.lit (.bool false)) }) rfl rfl rfl rfl trivial rfl ?_)
                    refine rvc_nil ?_
                    refine Awp.seq ?_
                    refine Awp.cons C (fun _ => .pure) (by kernel_rfl) ?_
                    refine rvc_un (rexec_prim C (δ := { v := .pv (.lit (.bool false)) }) rfl rfl rfl rfl trivial rfl ?_)
                    refine rvc_un (rexec_prim C (δ := { v := .pv (.lit (.bool true)) }) rfl rfl rfl rfl trivial rfl ?_)
                    refine rvc_nil ?_
                    refine Awp.condT (b := true) rfl rfl ?_
                    refine Awp.cons C (fun _ => .pure) (by kernel_rfl) ?_
                    refine rvc_un (rexec_prim C (δ := { v := .pv (.lit (.int .i64 120)) }) rfl rfl rfl rfl trivial rfl ?_)
                    refine rvc_nil ?_
                    refine Awp.ret ?_
                    subst hR
                    exact ⟨.inl rfl, rfl⟩
                ·
                  replace hR := of_false h62 hR
                  refine Awp.region C (fun _ => .pure) (by kernel_rfl) ?_
                  refine rvc_un (rexec_prim C (δ := { v := .pv (.lit (.bool false)) }) rfl rfl rfl rfl trivial rfl ?_)
                  refine rvc_nil ?_
                  refine Awp.seq ?_
                  refine Awp.cons C (fun _ => .pure) (by kernel_rfl) ?_
                  refine rvc_un (rexec_prim C (δ := { v := .pv (.lit (.bool false)) }) rfl rfl rfl rfl trivial rfl ?_)
                  refine rvc_un (rexec_prim C (δ := { v := .pv (.lit (.bool true)) }) rfl rfl rfl rfl trivial rfl ?_)
                  refine rvc_nil ?_
                  refine Awp.condT (b := true) rfl rfl ?_
                  refine Awp.cons C (fun _ => .pure) (by kernel_rfl) ?_
                  refine rvc_un (rexec_prim C (δ := { v := .pv (.lit (.int .i64 120)) }) rfl rfl rfl rfl trivial rfl ?_)
                  refine rvc_nil ?_
                  refine Awp.ret ?_
                  subst hR
                  exact ⟨.inl rfl, rfl⟩
      ·
        replace hR := of_false h53 hR
        refine rvc_shut rfl rfl rfl rfl ?_
        refine rvc_shut rfl rfl rfl rfl ?_
        refine rvc_shut rfl rfl rfl rfl ?_
        refine rvc_un (rexec_prim C (δ := { v := .pv (.lit (.bool false)) }) rfl rfl rfl rfl trivial rfl ?_)
        refine rvc_un (rexec_prim C (δ := { v := .pv (.lit (.bool false)) }) rfl rfl rfl rfl trivial rfl ?_)
        refine rvc_nil ?_
        refine Awp.seq ?_
        refine Awp.cons C (fun _ => .pure) (by kernel_rfl) ?_
        refine rvc_un (rexec_prim C (δ := { v := .ptr 1 0 }) rfl rfl rfl rfl trivial rfl ?_)
        refine rvc_un (rexec_prim C (δ := { v := .pv (.lit (.int .i64 c.kind)) }) rfl rfl rfl rfl trivial rfl ?_)
        refine rvc_nil ?_
        refine Awp.block ?_
        refine Awp.seq ?_
        refine Awp.cons C (fun _ => .pure) (by kernel_rfl) ?_
        refine rvc_un (rexec_prim C (δ := { v := .pv (.lit (.bool (c.kind == 1))) }) rfl rfl rfl rfl trivial rfl ?_)
        refine rvc_un (rexec_prim C (δ := { v := .pv (.lit (.bool (c.kind == 1))) }) rfl rfl rfl rfl trivial rfl ?_)
        refine rvc_nil ?_
        refine Awp.cond (b := (c.kind == 1)) rfl (fun h66 => ?_) (fun h66 => ?_)
        ·
          replace hR := of_true h66 hR
          refine Awp.skip ?_
          refine Awp.condT (b := (c.kind == 1)) rfl h66 ?_
          refine Awp.region C (fun _ => .pure) (by kernel_rfl) ?_
          refine rvc_un (rexec_prim C (δ := { v := .pv (.lit (.bool false)) }) rfl rfl rfl rfl trivial rfl ?_)
          refine rvc_un (rexec_prim C (δ := { v := .pv (.lit (.bool false)) }) rfl rfl rfl rfl trivial rfl ?_)
          refine rvc_shut rfl rfl rfl rfl ?_
          refine rvc_un (rexec_prim C (δ := { v := .pv (.lit (.bool false)) }) rfl rfl rfl rfl trivial rfl ?_)
          refine rvc_un (rexec_prim C (δ := { v := .pv (.lit (.bool false)) }) rfl rfl rfl rfl trivial rfl ?_)
          refine rvc_shut rfl rfl rfl rfl ?_
          refine rvc_shut rfl rfl rfl rfl ?_
          refine rvc_shut rfl rfl rfl rfl ?_
          refine rvc_un (rexec_prim C (δ := { v := .pv (.lit (.bool false)) }) rfl rfl rfl rfl trivial rfl ?_)
          refine rvc_un (rexec_prim C (δ := { v := .pv (.lit (.bool false)) }) rfl rfl rfl rfl trivial rfl ?_)
          refine rvc_nil ?_
          refine Awp.seq ?_
          refine Awp.cons C (fun _ => .pure) (by kernel_rfl) ?_
          refine rvc_un (rexec_prim C (δ := { v := .pv (.lit (.bool false)) }) rfl rfl rfl rfl trivial rfl ?_)
          refine rvc_un (rexec_prim C (δ := { v := .pv (.lit (.bool true)) }) rfl rfl rfl rfl trivial rfl ?_)
          refine rvc_nil ?_
          refine Awp.condT (b := true) rfl rfl ?_
          refine Awp.cons C (fun _ => .pure) (by kernel_rfl) ?_
          refine rvc_un (rexec_prim C (δ := { v := .pv (.lit (.int .i64 120)) }) rfl rfl rfl rfl trivial rfl ?_)
          refine rvc_nil ?_
          refine Awp.ret ?_
          subst hR
          exact ⟨.inl rfl, rfl⟩
        ·
          replace hR := of_false h66 hR
          refine Awp.cons C (fun _ => .pure) (by kernel_rfl) ?_
          refine rvc_un (rexec_prim C (δ := { v := .pv (.lit (.bool (c.kind == 3))) }) rfl rfl rfl rfl trivial rfl ?_)
          refine rvc_un (rexec_prim C (δ := { v := .pv (.lit (.bool (c.kind == 3))) }) rfl rfl rfl rfl trivial rfl ?_)
          refine rvc_nil ?_
          refine Awp.cond (b := (c.kind == 3)) rfl (fun h67 => ?_) (fun h67 => ?_)
          ·
            replace hR := of_true h67 hR
            refine Awp.skip ?_
            refine Awp.condT (b := (c.kind == 3)) rfl h67 ?_
            refine Awp.region C (fun _ => .pure) (by kernel_rfl) ?_
            refine rvc_un (rexec_prim C (δ := { v := .pv (.lit (.bool false)) }) rfl rfl rfl rfl trivial rfl ?_)
            refine rvc_un (rexec_prim C (δ := { v := .pv (.lit (.bool false)) }) rfl rfl rfl rfl trivial rfl ?_)
            refine rvc_shut rfl rfl rfl rfl ?_
            refine rvc_un (rexec_prim C (δ := { v := .pv (.lit (.bool false)) }) rfl rfl rfl rfl trivial rfl ?_)
            refine rvc_un (rexec_prim C (δ := { v := .pv (.lit (.bool false)) }) rfl rfl rfl rfl trivial rfl ?_)
            refine rvc_shut rfl rfl rfl rfl ?_
            refine rvc_shut rfl rfl rfl rfl ?_
            refine rvc_shut rfl rfl rfl rfl ?_
            refine rvc_un (rexec_prim C (δ := { v := .pv (.lit (.bool false)) }) rfl rfl rfl rfl trivial rfl ?_)
            refine rvc_un (rexec_prim C (δ := { v := .pv (.lit (.bool false)) }) rfl rfl rfl rfl trivial rfl ?_)
            refine rvc_nil ?_
            refine Awp.seq ?_
            refine Awp.cons C (fun _ => .pure) (by kernel_rfl) ?_
            refine rvc_un (rexec_prim C (δ := { v := .pv (.lit (.bool false)) }) rfl rfl rfl rfl trivial rfl ?_)
            refine rvc_un (rexec_prim C (δ := { v := .pv (.lit (.bool true)) }) rfl rfl rfl rfl trivial rfl ?_)
            refine rvc_nil ?_
            refine Awp.condT (b := true) rfl rfl ?_
            refine Awp.cons C (fun _ => .pure) (by kernel_rfl) ?_
            refine rvc_un (rexec_prim C (δ := { v := .pv (.lit (.int .i64 120)) }) rfl rfl rfl rfl trivial rfl ?_)
            refine rvc_nil ?_
            refine Awp.ret ?_
            subst hR
            exact ⟨.inl rfl, rfl⟩
          ·
            replace hR := of_false h67 hR
            refine Awp.region C (fun _ => .pure) (by kernel_rfl) ?_
            refine rvc_un (rexec_prim C (δ := { v := .pv (.lit (.bool (c.kind == 4))) }) rfl rfl rfl rfl trivial rfl ?_)
            refine rvc_un (rexec_prim C (δ := { v := .pv (.lit (.bool (c.kind == 4))) }) rfl rfl rfl rfl trivial rfl ?_)
            refine rvc_nil ?_
            refine Awp.cond (b := (c.kind == 4)) rfl (fun h68 => ?_) (fun h68 => ?_)
            ·
              replace hR := of_true h68 hR
              refine Awp.region C (fun _ => .pure) (by kernel_rfl) ?_
              refine rvc_un (rexec_prim C (δ := { v := .pv (.lit (.bool false)) }) rfl rfl rfl rfl trivial rfl ?_)
              refine rvc_un (rexec_prim C (δ := { v := .pv (.lit (.bool false)) }) rfl rfl rfl rfl trivial rfl ?_)
              refine rvc_shut rfl rfl rfl rfl ?_
              refine rvc_un (rexec_prim C (δ := { v := .pv (.lit (.bool false)) }) rfl rfl rfl rfl trivial rfl ?_)
              refine rvc_un (rexec_prim C (δ := { v := .pv (.lit (.bool false)) }) rfl rfl rfl rfl trivial rfl ?_)
              refine rvc_shut rfl rfl rfl rfl ?_
              refine rvc_shut rfl rfl rfl rfl ?_
              refine rvc_shut rfl rfl rfl rfl ?_
              refine rvc_un (rexec_prim C (δ := { v := .pv (.lit (.bool false)) }) rfl rfl rfl rfl trivial rfl ?_)
              refine rvc_un (rexec_prim C (δ := { v := .pv (.lit (.bool false)) }) rfl rfl rfl rfl trivial rfl ?_)
              refine rvc_nil ?_
              refine Awp.seq ?_
              refine Awp.cons C (fun _ => .pure) (by kernel_rfl) ?_
              refine rvc_un (rexec_prim C (δ := { v := .pv (.lit (.bool false)) }) rfl rfl rfl rfl trivial rfl ?_)
              refine rvc_un (rexec_prim C (δ := { v := .pv (.lit (.bool true)) }) rfl rfl rfl rfl trivial rfl ?_)
              refine rvc_nil ?_
              refine Awp.condT (b := true) rfl rfl ?_
              refine Awp.cons C (fun _ => .pure) (by kernel_rfl) ?_
              refine rvc_un (rexec_prim C (δ := { v := .pv (.lit (.int .i64 120)) }) rfl rfl rfl rfl trivial rfl ?_)
              refine rvc_nil ?_
              refine Awp.ret ?_
              subst hR
              exact ⟨.inl rfl, rfl⟩
            ·
              replace hR := of_false h68 hR
              refine Awp.cons C (fun _ => .pure) (by kernel_rfl) ?_
              refine rvc_un (rexec_prim C (δ := { v := .pv (.lit (.bool (c.kind == 2))) }) rfl rfl rfl rfl trivial rfl ?_)
              refine rvc_un (rexec_prim C (δ := { v := .pv (.lit (.bool (c.kind == 2))) }) rfl rfl rfl rfl trivial rfl ?_)
              refine rvc_nil ?_
              refine Awp.cond (b := (c.kind == 2)) rfl (fun h69 => ?_) (fun h69 => ?_)
              ·
                replace hR := of_true h69 hR
                refine Awp.region C (fun _ => .pure) (by kernel_rfl) ?_
                refine rvc_un (rexec_prim C (δ := { v := .pv (.lit (.bool false)) }) rfl rfl rfl rfl trivial rfl ?_)
                refine rvc_un (rexec_prim C (δ := { v := .pv (.lit (.bool false)) }) rfl rfl rfl rfl trivial rfl ?_)
                refine rvc_shut rfl rfl rfl rfl ?_
                refine rvc_un (rexec_prim C (δ := { v := .pv (.lit (.bool false)) }) rfl rfl rfl rfl trivial rfl ?_)
                refine rvc_un (rexec_prim C (δ := { v := .pv (.lit (.bool false)) }) rfl rfl rfl rfl trivial rfl ?_)
                refine rvc_shut rfl rfl rfl rfl ?_
                refine rvc_un (rexec_prim C (δ := { v := .pv (.lit (.bool false)) }) rfl rfl rfl rfl trivial rfl ?_)
                refine rvc_un (rexec_prim C (δ := { v := .pv (.lit (.bool false)) }) rfl rfl rfl rfl trivial rfl ?_)
                refine rvc_nil ?_
                refine Awp.seq ?_
                refine Awp.cons C (fun _ => .pure) (by kernel_rfl) ?_
                refine rvc_un (rexec_prim C (δ := { v := .pv (.lit (.bool false)) }) rfl rfl rfl rfl trivial rfl ?_)
                refine rvc_un (rexec_prim C (δ := { v := .pv (.lit (.bool true)) }) rfl rfl rfl rfl trivial rfl ?_)
                refine rvc_nil ?_
                refine Awp.condT (b := true) rfl rfl ?_
                refine Awp.cons C (fun _ => .pure) (by kernel_rfl) ?_
                refine rvc_un (rexec_prim C (δ := { v := .pv (.lit (.int .i64 120)) }) rfl rfl rfl rfl trivial rfl ?_)
                refine rvc_nil ?_
                refine Awp.ret ?_
                subst hR
                exact ⟨.inl rfl, rfl⟩
              ·
                replace hR := of_false h69 hR
                refine Awp.cons C (fun _ => .pure) (by kernel_rfl) ?_
                refine rvc_un (rexec_prim C (δ := { v := .pv (.lit (.bool (c.kind == 5))) }) rfl rfl rfl rfl trivial rfl ?_)
                refine rvc_un (rexec_prim C (δ := { v := .pv (.lit (.bool (c.kind == 5))) }) rfl rfl rfl rfl trivial rfl ?_)
                refine rvc_nil ?_
                refine Awp.cond (b := (c.kind == 5)) rfl (fun h70 => ?_) (fun h70 => ?_)
                ·
                  replace hR := of_true h70 hR
                  refine Awp.region C (fun _ => .pure) (by kernel_rfl) ?_
                  refine rvc_un (rexec_prim C (δ := { v := .pv (.lit (.bool false)) }) rfl rfl rfl rfl trivial rfl ?_)
                  refine rvc_un (rexec_prim C (δ := { v := .pv (.lit (.bool false)) }) rfl rfl rfl rfl trivial rfl ?_)
                  refine rvc_shut rfl rfl rfl rfl ?_
                  refine rvc_un (rexec_prim C (δ := { v := .pv (.lit (.bool false)) }) rfl rfl rfl rfl trivial rfl ?_)
                  refine rvc_un (rexec_prim C (δ := { v := .pv (.lit (.bool false)) }) rfl rfl rfl rfl trivial rfl ?_)
                  refine rvc_shut rfl rfl rfl rfl ?_
                  refine rvc_shut rfl rfl rfl rfl ?_
                  refine rvc_shut rfl rfl rfl rfl ?_
                  refine rvc_un (rexec_prim C (δ := { v := .pv (.lit (.bool false)) }) rfl rfl rfl rfl trivial rfl ?_)
                  refine rvc_un (rexec_prim C (δ := { v := .pv (.lit (.bool false)) }) rfl rfl rfl rfl trivial rfl ?_)
                  refine rvc_nil ?_
                  refine Awp.seq ?_
                  refine Awp.cons C (fun _ => .pure) (by kernel_rfl) ?_
                  refine rvc_un (rexec_prim C (δ := { v := .pv (.lit (.bool false)) }) rfl rfl rfl rfl trivial rfl ?_)
                  refine rvc_un (rexec_prim C (δ := { v := .pv (.lit (.bool true)) }) rfl rfl rfl rfl trivial rfl ?_)
                  refine rvc_nil ?_
                  refine Awp.condT (b := true) rfl rfl ?_
                  refine Awp.cons C (fun _ => .pure) (by kernel_rfl) ?_
                  refine rvc_un (rexec_prim C (δ := { v := .pv (.lit (.int .i64 120)) }) rfl rfl rfl rfl trivial rfl ?_)
                  refine rvc_nil ?_
                  refine Awp.ret ?_
                  subst hR
                  exact ⟨.inl rfl, rfl⟩
                ·
                  replace hR := of_false h70 hR
                  refine Awp.region C (fun _ => .pure) (by kernel_rfl) ?_
                  refine rvc_un (rexec_prim C (δ := { v := .pv (.lit (.bool false)) }) rfl rfl rfl rfl trivial rfl ?_)
                  refine rvc_nil ?_
                  refine Awp.seq ?_
                  refine Awp.cons C (fun _ => .pure) (by kernel_rfl) ?_
                  refine rvc_un (rexec_prim C (δ := { v := .pv (.lit (.bool false)) }) rfl rfl rfl rfl trivial rfl ?_)
                  refine rvc_un (rexec_prim C (δ := { v := .pv (.lit (.bool true)) }) rfl rfl rfl rfl trivial rfl ?_)
                  refine rvc_nil ?_
                  refine Awp.condT (b := true) rfl rfl ?_
                  refine Awp.cons C (fun _ => .pure) (by kernel_rfl) ?_
                  refine rvc_un (rexec_prim C (δ := { v := .pv (.lit (.int .i64 120)) }) rfl rfl rfl rfl trivial rfl ?_)
                  refine rvc_nil ?_
                  refine Awp.ret ?_
                  subst hR
                  exact ⟨.inl rfl, rfl⟩
    ·
      replace hR := of_false h52 hR
      refine rvc_shut rfl rfl rfl rfl ?_
      refine rvc_shut rfl rfl rfl rfl ?_
      refine rvc_shut rfl rfl rfl rfl ?_
      refine rvc_un (rexec_prim C (δ := { v := .pv (.lit (.bool false)) }) rfl rfl rfl rfl trivial rfl ?_)
      refine rvc_un (rexec_prim C (δ := { v := .pv (.lit (.bool false)) }) rfl rfl rfl rfl trivial rfl ?_)
      refine rvc_nil ?_
      refine Awp.cons C (fun _ => .pure) (by kernel_rfl) ?_
      refine rvc_un (rexec_prim C (δ := { v := .ptr 1 3 }) rfl rfl rfl rfl trivial rfl ?_)
      refine rvc_un (rexec_prim C (δ := { v := .pv (.lit (.int .i64 c.epoch)) }) rfl rfl rfl rfl trivial rfl ?_)
      refine rvc_un (rexec_prim C (δ := { v := .pv (.lit (.bool (decide (c.epoch ≥ 1)))) }) rfl rfl rfl rfl trivial rfl ?_)
      refine rvc_un (rexec_prim C (δ := { v := .pv (.lit (.bool (decide (c.epoch ≥ 1)))) }) rfl rfl rfl rfl trivial rfl ?_)
      refine rvc_case 25 (decide (c.epoch ≥ 1)) rfl (fun h71 => ?_) (fun h71 => ?_)
      ·
        replace hR := of_true h71 hR
        refine rvc_open rfl rfl rfl (rexec_prim C (δ := { v := .ptr 1 3 }) rfl rfl rfl rfl trivial rfl ?_)
        refine rvc_open rfl rfl rfl (rexec_prim C (δ := { v := .pv (.lit (.int .i64 c.epoch)) }) rfl rfl rfl rfl trivial rfl ?_)
        refine rvc_open rfl rfl rfl (rexec_prim C (δ := { v := .pv (.lit (.bool (decide (c.epoch ≤ 1099511627776)))) }) rfl rfl rfl rfl trivial rfl ?_)
        refine rvc_un (rexec_prim C (δ := { v := .pv (.lit (.bool (decide (c.epoch ≤ 1099511627776)))) }) rfl rfl rfl rfl trivial rfl ?_)
        refine rvc_un (rexec_prim C (δ := { v := .pv (.lit (.bool (decide (c.epoch ≤ 1099511627776)))) }) rfl rfl rfl rfl trivial rfl ?_)
        refine rvc_nil ?_
        refine Awp.seq ?_
        refine Awp.cons C (fun _ => .pure) (by kernel_rfl) ?_
        refine rvc_un (rexec_prim C (δ := { v := .ptr 1 0 }) rfl rfl rfl rfl trivial rfl ?_)
        refine rvc_un (rexec_prim C (δ := { v := .pv (.lit (.int .i64 c.kind)) }) rfl rfl rfl rfl trivial rfl ?_)
        refine rvc_nil ?_
        refine Awp.block ?_
        refine Awp.seq ?_
        refine Awp.cons C (fun _ => .pure) (by kernel_rfl) ?_
        refine rvc_un (rexec_prim C (δ := { v := .pv (.lit (.bool (c.kind == 1))) }) rfl rfl rfl rfl trivial rfl ?_)
        refine rvc_un (rexec_prim C (δ := { v := .pv (.lit (.bool (c.kind == 1))) }) rfl rfl rfl rfl trivial rfl ?_)
        refine rvc_nil ?_
        refine Awp.cond (b := (c.kind == 1)) rfl (fun h72 => ?_) (fun h72 => ?_)
        ·
          replace hR := of_true h72 hR
          refine Awp.skip ?_
          refine Awp.condT (b := (c.kind == 1)) rfl h72 ?_
          refine Awp.region C (fun _ => .pure) (by kernel_rfl) ?_
          refine rvc_un (rexec_prim C (δ := { v := .pv (.lit (.bool (decide (c.epoch ≤ 1099511627776)))) }) rfl rfl rfl rfl trivial rfl ?_)
          refine rvc_un (rexec_prim C (δ := { v := .pv (.lit (.bool (decide (c.epoch ≤ 1099511627776)))) }) rfl rfl rfl rfl trivial rfl ?_)
          refine rvc_case 37 (decide (c.epoch ≤ 1099511627776)) rfl (fun h73 => ?_) (fun h73 => ?_)
          ·
            replace hR := of_true h73 hR
            refine rvc_open rfl rfl rfl (rexec_prim C (δ := { v := .pv (.lit (.bool false)) }) rfl rfl rfl rfl trivial rfl ?_)
            refine rvc_un (rexec_prim C (δ := { v := .pv (.lit (.bool false)) }) rfl rfl rfl rfl trivial rfl ?_)
            refine rvc_un (rexec_prim C (δ := { v := .pv (.lit (.bool false)) }) rfl rfl rfl rfl trivial rfl ?_)
            refine rvc_shut rfl rfl rfl rfl ?_
            refine rvc_shut rfl rfl rfl rfl ?_
            refine rvc_shut rfl rfl rfl rfl ?_
            refine rvc_un (rexec_prim C (δ := { v := .pv (.lit (.bool false)) }) rfl rfl rfl rfl trivial rfl ?_)
            refine rvc_un (rexec_prim C (δ := { v := .pv (.lit (.bool false)) }) rfl rfl rfl rfl trivial rfl ?_)
            refine rvc_nil ?_
            refine Awp.seq ?_
            refine Awp.cons C (fun _ => .pure) (by kernel_rfl) ?_
            refine rvc_un (rexec_prim C (δ := { v := .pv (.lit (.bool false)) }) rfl rfl rfl rfl trivial rfl ?_)
            refine rvc_un (rexec_prim C (δ := { v := .pv (.lit (.bool true)) }) rfl rfl rfl rfl trivial rfl ?_)
            refine rvc_nil ?_
            refine Awp.condT (b := true) rfl rfl ?_
            refine Awp.cons C (fun _ => .pure) (by kernel_rfl) ?_
            refine rvc_un (rexec_prim C (δ := { v := .pv (.lit (.int .i64 120)) }) rfl rfl rfl rfl trivial rfl ?_)
            refine rvc_nil ?_
            refine Awp.ret ?_
            subst hR
            exact ⟨.inl rfl, rfl⟩
          ·
            replace hR := of_false h73 hR
            refine rvc_shut rfl rfl rfl rfl ?_
            refine rvc_un (rexec_prim C (δ := { v := .pv (.lit (.bool false)) }) rfl rfl rfl rfl trivial rfl ?_)
            refine rvc_un (rexec_prim C (δ := { v := .pv (.lit (.bool false)) }) rfl rfl rfl rfl trivial rfl ?_)
            refine rvc_shut rfl rfl rfl rfl ?_
            refine rvc_shut rfl rfl rfl rfl ?_
            refine rvc_shut rfl rfl rfl rfl ?_
            refine rvc_un (rexec_prim C (δ := { v := .pv (.lit (.bool false)) }) rfl rfl rfl rfl trivial rfl ?_)
            refine rvc_un (rexec_prim C (δ := { v := .pv (.lit (.bool false)) }) rfl rfl rfl rfl trivial rfl ?_)
            refine rvc_nil ?_
            refine Awp.seq ?_
            refine Awp.cons C (fun _ => .pure) (by kernel_rfl) ?_
            refine rvc_un (rexec_prim C (δ := { v := .pv (.lit (.bool false)) }) rfl rfl rfl rfl trivial rfl ?_)
            refine rvc_un (rexec_prim C (δ := { v := .pv (.lit (.bool true)) }) rfl rfl rfl rfl trivial rfl ?_)
            refine rvc_nil ?_
            refine Awp.condT (b := true) rfl rfl ?_
            refine Awp.cons C (fun _ => .pure) (by kernel_rfl) ?_
            refine rvc_un (rexec_prim C (δ := { v := .pv (.lit (.int .i64 120)) }) rfl rfl rfl rfl trivial rfl ?_)
            refine rvc_nil ?_
            refine Awp.ret ?_
            subst hR
            exact ⟨.inl rfl, rfl⟩
        ·
          replace hR := of_false h72 hR
          refine Awp.cons C (fun _ => .pure) (by kernel_rfl) ?_
          refine rvc_un (rexec_prim C (δ := { v := .pv (.lit (.bool (c.kind == 3))) }) rfl rfl rfl rfl trivial rfl ?_)
          refine rvc_un (rexec_prim C (δ := { v := .pv (.lit (.bool (c.kind == 3))) }) rfl rfl rfl rfl trivial rfl ?_)
          refine rvc_nil ?_
          refine Awp.cond (b := (c.kind == 3)) rfl (fun h74 => ?_) (fun h74 => ?_)
          ·
            replace hR := of_true h74 hR
            refine Awp.skip ?_
            refine Awp.condT (b := (c.kind == 3)) rfl h74 ?_
            refine Awp.region C (fun _ => .pure) (by kernel_rfl) ?_
            refine rvc_un (rexec_prim C (δ := { v := .pv (.lit (.bool (decide (c.epoch ≤ 1099511627776)))) }) rfl rfl rfl rfl trivial rfl ?_)
            refine rvc_un (rexec_prim C (δ := { v := .pv (.lit (.bool (decide (c.epoch ≤ 1099511627776)))) }) rfl rfl rfl rfl trivial rfl ?_)
            refine rvc_case 37 (decide (c.epoch ≤ 1099511627776)) rfl (fun h75 => ?_) (fun h75 => ?_)
            ·
              replace hR := of_true h75 hR
              refine rvc_open rfl rfl rfl (rexec_prim C (δ := { v := .pv (.lit (.bool false)) }) rfl rfl rfl rfl trivial rfl ?_)
              refine rvc_un (rexec_prim C (δ := { v := .pv (.lit (.bool false)) }) rfl rfl rfl rfl trivial rfl ?_)
              refine rvc_un (rexec_prim C (δ := { v := .pv (.lit (.bool false)) }) rfl rfl rfl rfl trivial rfl ?_)
              refine rvc_shut rfl rfl rfl rfl ?_
              refine rvc_shut rfl rfl rfl rfl ?_
              refine rvc_shut rfl rfl rfl rfl ?_
              refine rvc_un (rexec_prim C (δ := { v := .pv (.lit (.bool false)) }) rfl rfl rfl rfl trivial rfl ?_)
              refine rvc_un (rexec_prim C (δ := { v := .pv (.lit (.bool false)) }) rfl rfl rfl rfl trivial rfl ?_)
              refine rvc_nil ?_
              refine Awp.seq ?_
              refine Awp.cons C (fun _ => .pure) (by kernel_rfl) ?_
              refine rvc_un (rexec_prim C (δ := { v := .pv (.lit (.bool false)) }) rfl rfl rfl rfl trivial rfl ?_)
              refine rvc_un (rexec_prim C (δ := { v := .pv (.lit (.bool true)) }) rfl rfl rfl rfl trivial rfl ?_)
              refine rvc_nil ?_
              refine Awp.condT (b := true) rfl rfl ?_
              refine Awp.cons C (fun _ => .pure) (by kernel_rfl) ?_
              refine rvc_un (rexec_prim C (δ := { v := .pv (.lit (.int .i64 120)) }) rfl rfl rfl rfl trivial rfl ?_)
              refine rvc_nil ?_
              refine Awp.ret ?_
              subst hR
              exact ⟨.inl rfl, rfl⟩
            ·
              replace hR := of_false h75 hR
              refine rvc_shut rfl rfl rfl rfl ?_
              refine rvc_un (rexec_prim C (δ := { v := .pv (.lit (.bool false)) }) rfl rfl rfl rfl trivial rfl ?_)
              refine rvc_un (rexec_prim C (δ := { v := .pv (.lit (.bool false)) }) rfl rfl rfl rfl trivial rfl ?_)
              refine rvc_shut rfl rfl rfl rfl ?_
              refine rvc_shut rfl rfl rfl rfl ?_
              refine rvc_shut rfl rfl rfl rfl ?_
              refine rvc_un (rexec_prim C (δ := { v := .pv (.lit (.bool false)) }) rfl rfl rfl rfl trivial rfl ?_)
              refine rvc_un (rexec_prim C (δ := { v := .pv (.lit (.bool false)) }) rfl rfl rfl rfl trivial rfl ?_)
              refine rvc_nil ?_
              refine Awp.seq ?_
              refine Awp.cons C (fun _ => .pure) (by kernel_rfl) ?_
              refine rvc_un (rexec_prim C (δ := { v := .pv (.lit (.bool false)) }) rfl rfl rfl rfl trivial rfl ?_)
              refine rvc_un (rexec_prim C (δ := { v := .pv (.lit (.bool true)) }) rfl rfl rfl rfl trivial rfl ?_)
              refine rvc_nil ?_
              refine Awp.condT (b := true) rfl rfl ?_
              refine Awp.cons C (fun _ => .pure) (by kernel_rfl) ?_
              refine rvc_un (rexec_prim C (δ := { v := .pv (.lit (.int .i64 120)) }) rfl rfl rfl rfl trivial rfl ?_)
              refine rvc_nil ?_
              refine Awp.ret ?_
              subst hR
              exact ⟨.inl rfl, rfl⟩
          ·
            replace hR := of_false h74 hR
            refine Awp.region C (fun _ => .pure) (by kernel_rfl) ?_
            refine rvc_un (rexec_prim C (δ := { v := .pv (.lit (.bool (c.kind == 4))) }) rfl rfl rfl rfl trivial rfl ?_)
            refine rvc_un (rexec_prim C (δ := { v := .pv (.lit (.bool (c.kind == 4))) }) rfl rfl rfl rfl trivial rfl ?_)
            refine rvc_nil ?_
            refine Awp.cond (b := (c.kind == 4)) rfl (fun h76 => ?_) (fun h76 => ?_)
            ·
              replace hR := of_true h76 hR
              refine Awp.region C (fun _ => .pure) (by kernel_rfl) ?_
              refine rvc_un (rexec_prim C (δ := { v := .pv (.lit (.bool (decide (c.epoch ≤ 1099511627776)))) }) rfl rfl rfl rfl trivial rfl ?_)
              refine rvc_un (rexec_prim C (δ := { v := .pv (.lit (.bool (decide (c.epoch ≤ 1099511627776)))) }) rfl rfl rfl rfl trivial rfl ?_)
              refine rvc_case 37 (decide (c.epoch ≤ 1099511627776)) rfl (fun h77 => ?_) (fun h77 => ?_)
              ·
                replace hR := of_true h77 hR
                refine rvc_open rfl rfl rfl (rexec_prim C (δ := { v := .pv (.lit (.bool false)) }) rfl rfl rfl rfl trivial rfl ?_)
                refine rvc_un (rexec_prim C (δ := { v := .pv (.lit (.bool false)) }) rfl rfl rfl rfl trivial rfl ?_)
                refine rvc_un (rexec_prim C (δ := { v := .pv (.lit (.bool false)) }) rfl rfl rfl rfl trivial rfl ?_)
                refine rvc_shut rfl rfl rfl rfl ?_
                refine rvc_shut rfl rfl rfl rfl ?_
                refine rvc_shut rfl rfl rfl rfl ?_
                refine rvc_un (rexec_prim C (δ := { v := .pv (.lit (.bool false)) }) rfl rfl rfl rfl trivial rfl ?_)
                refine rvc_un (rexec_prim C (δ := { v := .pv (.lit (.bool false)) }) rfl rfl rfl rfl trivial rfl ?_)
                refine rvc_nil ?_
                refine Awp.seq ?_
                refine Awp.cons C (fun _ => .pure) (by kernel_rfl) ?_
                refine rvc_un (rexec_prim C (δ := { v := .pv (.lit (.bool false)) }) rfl rfl rfl rfl trivial rfl ?_)
                refine rvc_un (rexec_prim C (δ := { v := .pv (.lit (.bool true)) }) rfl rfl rfl rfl trivial rfl ?_)
                refine rvc_nil ?_
                refine Awp.condT (b := true) rfl rfl ?_
                refine Awp.cons C (fun _ => .pure) (by kernel_rfl) ?_
                refine rvc_un (rexec_prim C (δ := { v := .pv (.lit (.int .i64 120)) }) rfl rfl rfl rfl trivial rfl ?_)
                refine rvc_nil ?_
                refine Awp.ret ?_
                subst hR
                exact ⟨.inl rfl, rfl⟩
              ·
                replace hR := of_false h77 hR
                refine rvc_shut rfl rfl rfl rfl ?_
                refine rvc_un (rexec_prim C (δ := { v := .pv (.lit (.bool false)) }) rfl rfl rfl rfl trivial rfl ?_)
                refine rvc_un (rexec_prim C (δ := { v := .pv (.lit (.bool false)) }) rfl rfl rfl rfl trivial rfl ?_)
                refine rvc_shut rfl rfl rfl rfl ?_
                refine rvc_shut rfl rfl rfl rfl ?_
                refine rvc_shut rfl rfl rfl rfl ?_
                refine rvc_un (rexec_prim C (δ := { v := .pv (.lit (.bool false)) }) rfl rfl rfl rfl trivial rfl ?_)
                refine rvc_un (rexec_prim C (δ := { v := .pv (.lit (.bool false)) }) rfl rfl rfl rfl trivial rfl ?_)
                refine rvc_nil ?_
                refine Awp.seq ?_
                refine Awp.cons C (fun _ => .pure) (by kernel_rfl) ?_
                refine rvc_un (rexec_prim C (δ := { v := .pv (.lit (.bool false)) }) rfl rfl rfl rfl trivial rfl ?_)
                refine rvc_un (rexec_prim C (δ := { v := .pv (.lit (.bool true)) }) rfl rfl rfl rfl trivial rfl ?_)
                refine rvc_nil ?_
                refine Awp.condT (b := true) rfl rfl ?_
                refine Awp.cons C (fun _ => .pure) (by kernel_rfl) ?_
                refine rvc_un (rexec_prim C (δ := { v := .pv (.lit (.int .i64 120)) }) rfl rfl rfl rfl trivial rfl ?_)
                refine rvc_nil ?_
                refine Awp.ret ?_
                subst hR
                exact ⟨.inl rfl, rfl⟩
            ·
              replace hR := of_false h76 hR
              refine Awp.cons C (fun _ => .pure) (by kernel_rfl) ?_
              refine rvc_un (rexec_prim C (δ := { v := .pv (.lit (.bool (c.kind == 2))) }) rfl rfl rfl rfl trivial rfl ?_)
              refine rvc_un (rexec_prim C (δ := { v := .pv (.lit (.bool (c.kind == 2))) }) rfl rfl rfl rfl trivial rfl ?_)
              refine rvc_nil ?_
              refine Awp.cond (b := (c.kind == 2)) rfl (fun h78 => ?_) (fun h78 => ?_)
              ·
                replace hR := of_true h78 hR
                refine Awp.region C (fun _ => .pure) (by kernel_rfl) ?_
                refine rvc_un (rexec_prim C (δ := { v := .pv (.lit (.bool (decide (c.epoch ≤ 1099511627776)))) }) rfl rfl rfl rfl trivial rfl ?_)
                refine rvc_un (rexec_prim C (δ := { v := .pv (.lit (.bool (decide (c.epoch ≤ 1099511627776)))) }) rfl rfl rfl rfl trivial rfl ?_)
                refine rvc_case 48 (decide (c.epoch ≤ 1099511627776)) rfl (fun h79 => ?_) (fun h79 => ?_)
                ·
                  replace hR := of_true h79 hR
                  refine rvc_open rfl rfl rfl (rexec_prim C (δ := { v := .pv (.lit (.bool false)) }) rfl rfl rfl rfl trivial rfl ?_)
                  refine rvc_un (rexec_prim C (δ := { v := .pv (.lit (.bool false)) }) rfl rfl rfl rfl trivial rfl ?_)
                  refine rvc_un (rexec_prim C (δ := { v := .pv (.lit (.bool false)) }) rfl rfl rfl rfl trivial rfl ?_)
                  refine rvc_shut rfl rfl rfl rfl ?_
                  refine rvc_un (rexec_prim C (δ := { v := .pv (.lit (.bool false)) }) rfl rfl rfl rfl trivial rfl ?_)
                  refine rvc_un (rexec_prim C (δ := { v := .pv (.lit (.bool false)) }) rfl rfl rfl rfl trivial rfl ?_)
                  refine rvc_nil ?_
                  refine Awp.seq ?_
                  refine Awp.cons C (fun _ => .pure) (by kernel_rfl) ?_
                  refine rvc_un (rexec_prim C (δ := { v := .pv (.lit (.bool false)) }) rfl rfl rfl rfl trivial rfl ?_)
                  refine rvc_un (rexec_prim C (δ := { v := .pv (.lit (.bool true)) }) rfl rfl rfl rfl trivial rfl ?_)
                  refine rvc_nil ?_
                  refine Awp.condT (b := true) rfl rfl ?_
                  refine Awp.cons C (fun _ => .pure) (by kernel_rfl) ?_
                  refine rvc_un (rexec_prim C (δ := { v := .pv (.lit (.int .i64 120)) }) rfl rfl rfl rfl trivial rfl ?_)
                  refine rvc_nil ?_
                  refine Awp.ret ?_
                  subst hR
                  exact ⟨.inl rfl, rfl⟩
                ·
                  replace hR := of_false h79 hR
                  refine rvc_shut rfl rfl rfl rfl ?_
                  refine rvc_un (rexec_prim C (δ := { v := .pv (.lit (.bool false)) }) rfl rfl rfl rfl trivial rfl ?_)
                  refine rvc_un (rexec_prim C (δ := { v := .pv (.lit (.bool false)) }) rfl rfl rfl rfl trivial rfl ?_)
                  refine rvc_shut rfl rfl rfl rfl ?_
                  refine rvc_un (rexec_prim C (δ := { v := .pv (.lit (.bool false)) }) rfl rfl rfl rfl trivial rfl ?_)
                  refine rvc_un (rexec_prim C (δ := { v := .pv (.lit (.bool false)) }) rfl rfl rfl rfl trivial rfl ?_)
                  refine rvc_nil ?_
                  refine Awp.seq ?_
                  refine Awp.cons C (fun _ => .pure) (by kernel_rfl) ?_
                  refine rvc_un (rexec_prim C (δ := { v := .pv (.lit (.bool false)) }) rfl rfl rfl rfl trivial rfl ?_)
                  refine rvc_un (rexec_prim C (δ := { v := .pv (.lit (.bool true)) }) rfl rfl rfl rfl trivial rfl ?_)
                  refine rvc_nil ?_
                  refine Awp.condT (b := true) rfl rfl ?_
                  refine Awp.cons C (fun _ => .pure) (by kernel_rfl) ?_
                  refine rvc_un (rexec_prim C (δ := { v := .pv (.lit (.int .i64 120)) }) rfl rfl rfl rfl trivial rfl ?_)
                  refine rvc_nil ?_
                  refine Awp.ret ?_
                  subst hR
                  exact ⟨.inl rfl, rfl⟩
              ·
                replace hR := of_false h78 hR
                refine Awp.cons C (fun _ => .pure) (by kernel_rfl) ?_
                refine rvc_un (rexec_prim C (δ := { v := .pv (.lit (.bool (c.kind == 5))) }) rfl rfl rfl rfl trivial rfl ?_)
                refine rvc_un (rexec_prim C (δ := { v := .pv (.lit (.bool (c.kind == 5))) }) rfl rfl rfl rfl trivial rfl ?_)
                refine rvc_nil ?_
                refine Awp.cond (b := (c.kind == 5)) rfl (fun h80 => ?_) (fun h80 => ?_)
                ·
                  replace hR := of_true h80 hR
                  refine Awp.region C (fun _ => .pure) (by kernel_rfl) ?_
                  refine rvc_un (rexec_prim C (δ := { v := .pv (.lit (.bool (decide (c.epoch ≤ 1099511627776)))) }) rfl rfl rfl rfl trivial rfl ?_)
                  refine rvc_un (rexec_prim C (δ := { v := .pv (.lit (.bool (decide (c.epoch ≤ 1099511627776)))) }) rfl rfl rfl rfl trivial rfl ?_)
                  refine rvc_case 57 (decide (c.epoch ≤ 1099511627776)) rfl (fun h81 => ?_) (fun h81 => ?_)
                  ·
                    replace hR := of_true h81 hR
                    refine rvc_open rfl rfl rfl (rexec_prim C (δ := { v := .pv (.lit (.bool false)) }) rfl rfl rfl rfl trivial rfl ?_)
                    refine rvc_un (rexec_prim C (δ := { v := .pv (.lit (.bool false)) }) rfl rfl rfl rfl trivial rfl ?_)
                    refine rvc_un (rexec_prim C (δ := { v := .pv (.lit (.bool false)) }) rfl rfl rfl rfl trivial rfl ?_)
                    refine rvc_shut rfl rfl rfl rfl ?_
                    refine rvc_shut rfl rfl rfl rfl ?_
                    refine rvc_shut rfl rfl rfl rfl ?_
                    refine rvc_un (rexec_prim C (δ := { v := .pv (.lit (.bool false)) }) rfl rfl rfl rfl trivial rfl ?_)
                    refine rvc_un (rexec_prim C (δ := { v := .pv (.lit (.bool false)) }) rfl rfl rfl rfl trivial rfl ?_)
                    refine rvc_nil ?_
                    refine Awp.seq ?_
                    refine Awp.cons C (fun _ => .pure) (by kernel_rfl) ?_
                    refine rvc_un (rexec_prim C (δ := { v := .pv (.lit (.bool false)) }) rfl rfl rfl rfl trivial rfl ?_)
                    refine rvc_un (rexec_prim C (δ := { v := .pv (.lit (.bool true)) }) rfl rfl rfl rfl trivial rfl ?_)
                    refine rvc_nil ?_
                    refine Awp.condT (b := true) rfl rfl ?_
                    refine Awp.cons C (fun _ => .pure) (by kernel_rfl) ?_
                    refine rvc_un (rexec_prim C (δ := { v := .pv (.lit (.int .i64 120)) }) rfl rfl rfl rfl trivial rfl ?_)
                    refine rvc_nil ?_
                    refine Awp.ret ?_
                    subst hR
                    exact ⟨.inl rfl, rfl⟩
                  ·
                    replace hR := of_false h81 hR
                    refine rvc_shut rfl rfl rfl rfl ?_
                    refine rvc_un (rexec_prim C (δ := { v := .pv (.lit (.bool false)) }) rfl rfl rfl rfl trivial rfl ?_)
                    refine rvc_un (rexec_prim C (δ := { v := .pv (.lit (.bool false)) }) rfl rfl rfl rfl trivial rfl ?_)
                    refine rvc_shut rfl rfl rfl rfl ?_
                    refine rvc_shut rfl rfl rfl rfl ?_
                    refine rvc_shut rfl rfl rfl rfl ?_
                    refine rvc_un (rexec_prim C (δ := { v := .pv (.lit (.bool false)) }) rfl rfl rfl rfl trivial rfl ?_)
                    refine rvc_un (rexec_prim C (δ := { v := .pv (.lit (.bool false)) }) rfl rfl rfl rfl trivial rfl ?_)
                    refine rvc_nil ?_
                    refine Awp.seq ?_
                    refine Awp.cons C (fun _ => .pure) (by kernel_rfl) ?_
                    refine rvc_un (rexec_prim C (δ := { v := .pv (.lit (.bool false)) }) rfl rfl rfl rfl trivial rfl ?_)
                    refine rvc_un (rexec_prim C (δ := { v := .pv (.lit (.bool true)) }) rfl rfl rfl rfl trivial rfl ?_)
                    refine rvc_nil ?_
                    refine Awp.condT (b := true) rfl rfl ?_
                    refine Awp.cons C (fun _ => .pure) (by kernel_rfl) ?_
                    refine rvc_un (rexec_prim C (δ := { v := .pv (.lit (.int .i64 120)) }) rfl rfl rfl rfl trivial rfl ?_)
                    refine rvc_nil ?_
                    refine Awp.ret ?_
                    subst hR
                    exact ⟨.inl rfl, rfl⟩
                ·
                  replace hR := of_false h80 hR
                  refine Awp.region C (fun _ => .pure) (by kernel_rfl) ?_
                  refine rvc_un (rexec_prim C (δ := { v := .pv (.lit (.bool false)) }) rfl rfl rfl rfl trivial rfl ?_)
                  refine rvc_nil ?_
                  refine Awp.seq ?_
                  refine Awp.cons C (fun _ => .pure) (by kernel_rfl) ?_
                  refine rvc_un (rexec_prim C (δ := { v := .pv (.lit (.bool false)) }) rfl rfl rfl rfl trivial rfl ?_)
                  refine rvc_un (rexec_prim C (δ := { v := .pv (.lit (.bool true)) }) rfl rfl rfl rfl trivial rfl ?_)
                  refine rvc_nil ?_
                  refine Awp.condT (b := true) rfl rfl ?_
                  refine Awp.cons C (fun _ => .pure) (by kernel_rfl) ?_
                  refine rvc_un (rexec_prim C (δ := { v := .pv (.lit (.int .i64 120)) }) rfl rfl rfl rfl trivial rfl ?_)
                  refine rvc_nil ?_
                  refine Awp.ret ?_
                  subst hR
                  exact ⟨.inl rfl, rfl⟩
      ·
        replace hR := of_false h71 hR
        refine rvc_shut rfl rfl rfl rfl ?_
        refine rvc_shut rfl rfl rfl rfl ?_
        refine rvc_shut rfl rfl rfl rfl ?_
        refine rvc_un (rexec_prim C (δ := { v := .pv (.lit (.bool false)) }) rfl rfl rfl rfl trivial rfl ?_)
        refine rvc_un (rexec_prim C (δ := { v := .pv (.lit (.bool false)) }) rfl rfl rfl rfl trivial rfl ?_)
        refine rvc_nil ?_
        refine Awp.seq ?_
        refine Awp.cons C (fun _ => .pure) (by kernel_rfl) ?_
        refine rvc_un (rexec_prim C (δ := { v := .ptr 1 0 }) rfl rfl rfl rfl trivial rfl ?_)
        refine rvc_un (rexec_prim C (δ := { v := .pv (.lit (.int .i64 c.kind)) }) rfl rfl rfl rfl trivial rfl ?_)
        refine rvc_nil ?_
        refine Awp.block ?_
        refine Awp.seq ?_
        refine Awp.cons C (fun _ => .pure) (by kernel_rfl) ?_
        refine rvc_un (rexec_prim C (δ := { v := .pv (.lit (.bool (c.kind == 1))) }) rfl rfl rfl rfl trivial rfl ?_)
        refine rvc_un (rexec_prim C (δ := { v := .pv (.lit (.bool (c.kind == 1))) }) rfl rfl rfl rfl trivial rfl ?_)
        refine rvc_nil ?_
        refine Awp.cond (b := (c.kind == 1)) rfl (fun h82 => ?_) (fun h82 => ?_)
        ·
          replace hR := of_true h82 hR
          refine Awp.skip ?_
          refine Awp.condT (b := (c.kind == 1)) rfl h82 ?_
          refine Awp.region C (fun _ => .pure) (by kernel_rfl) ?_
          refine rvc_un (rexec_prim C (δ := { v := .pv (.lit (.bool false)) }) rfl rfl rfl rfl trivial rfl ?_)
          refine rvc_un (rexec_prim C (δ := { v := .pv (.lit (.bool false)) }) rfl rfl rfl rfl trivial rfl ?_)
          refine rvc_shut rfl rfl rfl rfl ?_
          refine rvc_un (rexec_prim C (δ := { v := .pv (.lit (.bool false)) }) rfl rfl rfl rfl trivial rfl ?_)
          refine rvc_un (rexec_prim C (δ := { v := .pv (.lit (.bool false)) }) rfl rfl rfl rfl trivial rfl ?_)
          refine rvc_shut rfl rfl rfl rfl ?_
          refine rvc_shut rfl rfl rfl rfl ?_
          refine rvc_shut rfl rfl rfl rfl ?_
          refine rvc_un (rexec_prim C (δ := { v := .pv (.lit (.bool false)) }) rfl rfl rfl rfl trivial rfl ?_)
          refine rvc_un (rexec_prim C (δ := { v := .pv (.lit (.bool false)) }) rfl rfl rfl rfl trivial rfl ?_)
          refine rvc_nil ?_
          refine Awp.seq ?_
          refine Awp.cons C (fun _ => .pure) (by kernel_rfl) ?_
          refine rvc_un (rexec_prim C (δ := { v := .pv (.lit (.bool false)) }) rfl rfl rfl rfl trivial rfl ?_)
          refine rvc_un (rexec_prim C (δ := { v := .pv (.lit (.bool true)) }) rfl rfl rfl rfl trivial rfl ?_)
          refine rvc_nil ?_
          refine Awp.condT (b := true) rfl rfl ?_
          refine Awp.cons C (fun _ => .pure) (by kernel_rfl) ?_
          refine rvc_un (rexec_prim C (δ := { v := .pv (.lit (.int .i64 120)) }) rfl rfl rfl rfl trivial rfl ?_)
          refine rvc_nil ?_
          refine Awp.ret ?_
          subst hR
          exact ⟨.inl rfl, rfl⟩
        ·
          replace hR := of_false h82 hR
          refine Awp.cons C (fun _ => .pure) (by kernel_rfl) ?_
          refine rvc_un (rexec_prim C (δ := { v := .pv (.lit (.bool (c.kind == 3))) }) rfl rfl rfl rfl trivial rfl ?_)
          refine rvc_un (rexec_prim C (δ := { v := .pv (.lit (.bool (c.kind == 3))) }) rfl rfl rfl rfl trivial rfl ?_)
          refine rvc_nil ?_
          refine Awp.cond (b := (c.kind == 3)) rfl (fun h83 => ?_) (fun h83 => ?_)
          ·
            replace hR := of_true h83 hR
            refine Awp.skip ?_
            refine Awp.condT (b := (c.kind == 3)) rfl h83 ?_
            refine Awp.region C (fun _ => .pure) (by kernel_rfl) ?_
            refine rvc_un (rexec_prim C (δ := { v := .pv (.lit (.bool false)) }) rfl rfl rfl rfl trivial rfl ?_)
            refine rvc_un (rexec_prim C (δ := { v := .pv (.lit (.bool false)) }) rfl rfl rfl rfl trivial rfl ?_)
            refine rvc_shut rfl rfl rfl rfl ?_
            refine rvc_un (rexec_prim C (δ := { v := .pv (.lit (.bool false)) }) rfl rfl rfl rfl trivial rfl ?_)
            refine rvc_un (rexec_prim C (δ := { v := .pv (.lit (.bool false)) }) rfl rfl rfl rfl trivial rfl ?_)
            refine rvc_shut rfl rfl rfl rfl ?_
            refine rvc_shut rfl rfl rfl rfl ?_
            refine rvc_shut rfl rfl rfl rfl ?_
            refine rvc_un (rexec_prim C (δ := { v := .pv (.lit (.bool false)) }) rfl rfl rfl rfl trivial rfl ?_)
            refine rvc_un (rexec_prim C (δ := { v := .pv (.lit (.bool false)) }) rfl rfl rfl rfl trivial rfl ?_)
            refine rvc_nil ?_
            refine Awp.seq ?_
            refine Awp.cons C (fun _ => .pure) (by kernel_rfl) ?_
            refine rvc_un (rexec_prim C (δ := { v := .pv (.lit (.bool false)) }) rfl rfl rfl rfl trivial rfl ?_)
            refine rvc_un (rexec_prim C (δ := { v := .pv (.lit (.bool true)) }) rfl rfl rfl rfl trivial rfl ?_)
            refine rvc_nil ?_
            refine Awp.condT (b := true) rfl rfl ?_
            refine Awp.cons C (fun _ => .pure) (by kernel_rfl) ?_
            refine rvc_un (rexec_prim C (δ := { v := .pv (.lit (.int .i64 120)) }) rfl rfl rfl rfl trivial rfl ?_)
            refine rvc_nil ?_
            refine Awp.ret ?_
            subst hR
            exact ⟨.inl rfl, rfl⟩
          ·
            replace hR := of_false h83 hR
            refine Awp.region C (fun _ => .pure) (by kernel_rfl) ?_
            refine rvc_un (rexec_prim C (δ := { v := .pv (.lit (.bool (c.kind == 4))) }) rfl rfl rfl rfl trivial rfl ?_)
            refine rvc_un (rexec_prim C (δ := { v := .pv (.lit (.bool (c.kind == 4))) }) rfl rfl rfl rfl trivial rfl ?_)
            refine rvc_nil ?_
            refine Awp.cond (b := (c.kind == 4)) rfl (fun h84 => ?_) (fun h84 => ?_)
            ·
              replace hR := of_true h84 hR
              refine Awp.region C (fun _ => .pure) (by kernel_rfl) ?_
              refine rvc_un (rexec_prim C (δ := { v := .pv (.lit (.bool false)) }) rfl rfl rfl rfl trivial rfl ?_)
              refine rvc_un (rexec_prim C (δ := { v := .pv (.lit (.bool false)) }) rfl rfl rfl rfl trivial rfl ?_)
              refine rvc_shut rfl rfl rfl rfl ?_
              refine rvc_un (rexec_prim C (δ := { v := .pv (.lit (.bool false)) }) rfl rfl rfl rfl trivial rfl ?_)
              refine rvc_un (rexec_prim C (δ := { v := .pv (.lit (.bool false)) }) rfl rfl rfl rfl trivial rfl ?_)
              refine rvc_shut rfl rfl rfl rfl ?_
              refine rvc_shut rfl rfl rfl rfl ?_
              refine rvc_shut rfl rfl rfl rfl ?_
              refine rvc_un (rexec_prim C (δ := { v := .pv (.lit (.bool false)) }) rfl rfl rfl rfl trivial rfl ?_)
              refine rvc_un (rexec_prim C (δ := { v := .pv (.lit (.bool false)) }) rfl rfl rfl rfl trivial rfl ?_)
              refine rvc_nil ?_
              refine Awp.seq ?_
              refine Awp.cons C (fun _ => .pure) (by kernel_rfl) ?_
              refine rvc_un (rexec_prim C (δ := { v := .pv (.lit (.bool false)) }) rfl rfl rfl rfl trivial rfl ?_)
              refine rvc_un (rexec_prim C (δ := { v := .pv (.lit (.bool true)) }) rfl rfl rfl rfl trivial rfl ?_)
              refine rvc_nil ?_
              refine Awp.condT (b := true) rfl rfl ?_
              refine Awp.cons C (fun _ => .pure) (by kernel_rfl) ?_
              refine rvc_un (rexec_prim C (δ := { v := .pv (.lit (.int .i64 120)) }) rfl rfl rfl rfl trivial rfl ?_)
              refine rvc_nil ?_
              refine Awp.ret ?_
              subst hR
              exact ⟨.inl rfl, rfl⟩
            ·
              replace hR := of_false h84 hR
              refine Awp.cons C (fun _ => .pure) (by kernel_rfl) ?_
              refine rvc_un (rexec_prim C (δ := { v := .pv (.lit (.bool (c.kind == 2))) }) rfl rfl rfl rfl trivial rfl ?_)
              refine rvc_un (rexec_prim C (δ := { v := .pv (.lit (.bool (c.kind == 2))) }) rfl rfl rfl rfl trivial rfl ?_)
              refine rvc_nil ?_
              refine Awp.cond (b := (c.kind == 2)) rfl (fun h85 => ?_) (fun h85 => ?_)
              ·
                replace hR := of_true h85 hR
                refine Awp.region C (fun _ => .pure) (by kernel_rfl) ?_
                refine rvc_un (rexec_prim C (δ := { v := .pv (.lit (.bool false)) }) rfl rfl rfl rfl trivial rfl ?_)
                refine rvc_un (rexec_prim C (δ := { v := .pv (.lit (.bool false)) }) rfl rfl rfl rfl trivial rfl ?_)
                refine rvc_shut rfl rfl rfl rfl ?_
                refine rvc_un (rexec_prim C (δ := { v := .pv (.lit (.bool false)) }) rfl rfl rfl rfl trivial rfl ?_)
                refine rvc_un (rexec_prim C (δ := { v := .pv (.lit (.bool false)) }) rfl rfl rfl rfl trivial rfl ?_)
                refine rvc_shut rfl rfl rfl rfl ?_
                refine rvc_un (rexec_prim C (δ := { v := .pv (.lit (.bool false)) }) rfl rfl rfl rfl trivial rfl ?_)
                refine rvc_un (rexec_prim C (δ := { v := .pv (.lit (.bool false)) }) rfl rfl rfl rfl trivial rfl ?_)
                refine rvc_nil ?_
                refine Awp.seq ?_
                refine Awp.cons C (fun _ => .pure) (by kernel_rfl) ?_
                refine rvc_un (rexec_prim C (δ := { v := .pv (.lit (.bool false)) }) rfl rfl rfl rfl trivial rfl ?_)
                refine rvc_un (rexec_prim C (δ := { v := .pv (.lit (.bool true)) }) rfl rfl rfl rfl trivial rfl ?_)
                refine rvc_nil ?_
                refine Awp.condT (b := true) rfl rfl ?_
                refine Awp.cons C (fun _ => .pure) (by kernel_rfl) ?_
                refine rvc_un (rexec_prim C (δ := { v := .pv (.lit (.int .i64 120)) }) rfl rfl rfl rfl trivial rfl ?_)
                refine rvc_nil ?_
                refine Awp.ret ?_
                subst hR
                exact ⟨.inl rfl, rfl⟩
              ·
                replace hR := of_false h85 hR
                refine Awp.cons C (fun _ => .pure) (by kernel_rfl) ?_
                refine rvc_un (rexec_prim C (δ := { v := .pv (.lit (.bool (c.kind == 5))) }) rfl rfl rfl rfl trivial rfl ?_)
                refine rvc_un (rexec_prim C (δ := { v := .pv (.lit (.bool (c.kind == 5))) }) rfl rfl rfl rfl trivial rfl ?_)
                refine rvc_nil ?_
                refine Awp.cond (b := (c.kind == 5)) rfl (fun h86 => ?_) (fun h86 => ?_)
                ·
                  replace hR := of_true h86 hR
                  refine Awp.region C (fun _ => .pure) (by kernel_rfl) ?_
                  refine rvc_un (rexec_prim C (δ := { v := .pv (.lit (.bool false)) }) rfl rfl rfl rfl trivial rfl ?_)
                  refine rvc_un (rexec_prim C (δ := { v := .pv (.lit (.bool false)) }) rfl rfl rfl rfl trivial rfl ?_)
                  refine rvc_shut rfl rfl rfl rfl ?_
                  refine rvc_un (rexec_prim C (δ := { v := .pv (.lit (.bool false)) }) rfl rfl rfl rfl trivial rfl ?_)
                  refine rvc_un (rexec_prim C (δ := { v := .pv (.lit (.bool false)) }) rfl rfl rfl rfl trivial rfl ?_)
                  refine rvc_shut rfl rfl rfl rfl ?_
                  refine rvc_shut rfl rfl rfl rfl ?_
                  refine rvc_shut rfl rfl rfl rfl ?_
                  refine rvc_un (rexec_prim C (δ := { v := .pv (.lit (.bool false)) }) rfl rfl rfl rfl trivial rfl ?_)
                  refine rvc_un (rexec_prim C (δ := { v := .pv (.lit (.bool false)) }) rfl rfl rfl rfl trivial rfl ?_)
                  refine rvc_nil ?_
                  refine Awp.seq ?_
                  refine Awp.cons C (fun _ => .pure) (by kernel_rfl) ?_
                  refine rvc_un (rexec_prim C (δ := { v := .pv (.lit (.bool false)) }) rfl rfl rfl rfl trivial rfl ?_)
                  refine rvc_un (rexec_prim C (δ := { v := .pv (.lit (.bool true)) }) rfl rfl rfl rfl trivial rfl ?_)
                  refine rvc_nil ?_
                  refine Awp.condT (b := true) rfl rfl ?_
                  refine Awp.cons C (fun _ => .pure) (by kernel_rfl) ?_
                  refine rvc_un (rexec_prim C (δ := { v := .pv (.lit (.int .i64 120)) }) rfl rfl rfl rfl trivial rfl ?_)
                  refine rvc_nil ?_
                  refine Awp.ret ?_
                  subst hR
                  exact ⟨.inl rfl, rfl⟩
                ·
                  replace hR := of_false h86 hR
                  refine Awp.region C (fun _ => .pure) (by kernel_rfl) ?_
                  refine rvc_un (rexec_prim C (δ := { v := .pv (.lit (.bool false)) }) rfl rfl rfl rfl trivial rfl ?_)
                  refine rvc_nil ?_
                  refine Awp.seq ?_
                  refine Awp.cons C (fun _ => .pure) (by kernel_rfl) ?_
                  refine rvc_un (rexec_prim C (δ := { v := .pv (.lit (.bool false)) }) rfl rfl rfl rfl trivial rfl ?_)
                  refine rvc_un (rexec_prim C (δ := { v := .pv (.lit (.bool true)) }) rfl rfl rfl rfl trivial rfl ?_)
                  refine rvc_nil ?_
                  refine Awp.condT (b := true) rfl rfl ?_
                  refine Awp.cons C (fun _ => .pure) (by kernel_rfl) ?_
                  refine rvc_un (rexec_prim C (δ := { v := .pv (.lit (.int .i64 120)) }) rfl rfl rfl rfl trivial rfl ?_)
                  refine rvc_nil ?_
                  refine Awp.ret ?_
                  subst hR
                  exact ⟨.inl rfl, rfl⟩
def many_l0 (site : Int) : List Member → Nat → Int → Int
  | [], _, n => n
  | x :: xs, i, n => (bif (x.site == site) then many_l0 site xs (i + 1) (IntKind.i64.wrap (n + 1)) else many_l0 site xs (i + 1) n)
def many (c : Chain) (site : Int) : Int :=
  many_l0 site c.members.D 0 0
theorem many_calls (c : Chain) (site : Int) (hl1 : c.members.D.length ≤ 1000000) : PCalls Try.prog 51 [.agg [.pv (.lit (.int .i64 c.epoch)), sS (some c.members.nil) eMember c.members.D], .pv (.lit (.int .i64 site))] (.pv (.lit (.int .i64 (many c site)))) := by
  generalize hR : many c site = R
  refine PCalls.of_body tabOk Try.func51 rfl rfl rfl rfl rfl mixed fun E hP C hI => ?_
  refine Awp.cons C (fun _ => .pure) (by kernel_rfl) ?_
  refine rvc_un (rexec_prim C (δ := { v := .ptr 2 0, new := [(2, .cells [.pv (.lit (.int .i64 c.epoch)), sS (some c.members.nil) eMember c.members.D])] }) rfl rfl rfl rfl trivial rfl ?_)
  refine rvc_un (rexec_prim C (δ := { v := .pv (.lit (.int .i64 0)) }) rfl rfl rfl rfl trivial rfl ?_)
  refine rvc_nil ?_
  refine Awp.cons C (fun _ => .pure) (by kernel_rfl) ?_
  refine rvc_un (rexec_prim C (δ := { v := .pv (.lit (.int .i64 0)) }) rfl rfl rfl rfl trivial rfl ?_)
  refine rvc_nil ?_
  refine Awp.seq ?_
  refine Awp.cons C (fun _ => .pure) (by kernel_rfl) ?_
  refine rvc_un (rexec_prim C (δ := { v := .ptr 2 1 }) rfl rfl rfl rfl trivial rfl ?_)
  refine rvc_un (rexec_prim C (δ := { v := sS (some c.members.nil) eMember c.members.D }) rfl rfl rfl rfl trivial rfl ?_)
  refine rvc_un (rexec_prim C (δ := { v := .pv (.lit (.int .i64 (c.members.D.length : Int))) }) rfl rfl rfl rfl trivial rfl ?_)
  refine rvc_un (rexec_prim C (δ := { v := .pv (.lit (.int .i64 0)) }) rfl rfl rfl rfl trivial rfl ?_)
  refine rvc_nil ?_
  refine Awp.block ?_
  refine Awp.forR (σ := Int) (c.members.D.length) (fun i v => [(1, .pv (.lit (.int .i64 site))), (5, .pv (.lit (.int .i64 v))), (9, sS (some c.members.nil) eMember c.members.D), (10, .pv (.lit (.int .i64 (c.members.D.length : Int)))), (11, .pv (.lit (.int .i64 (i : Int))))]) (fun i v => []) [] (fun i v => many_l0 site (c.members.D.drop i) i v = R) 0 ?_ ?_ (fun i n h1 hR => ?_)
  · exact hR
  · exact ⟨fun b => b, WeakerR.ofL (Ks := []) hI ⟨⟨rfl, rfl⟩, ⟨rfl, rfl⟩, ⟨rfl, rfl⟩, ⟨rfl, rfl⟩, ⟨rfl, rfl⟩, trivial⟩ (okH_nil) rfl⟩
  refine Awp.cons C (fun _ => .pure) (by kernel_rfl) ?_
  refine rvc_un (rexec_prim C (δ := { v := .pv (.lit (.bool (decide ((i : Int) < (c.members.D.length : Int))))) }) rfl rfl rfl rfl trivial rfl ?_)
  refine rvc_nil ?_
  refine Awp.seq ?_
  refine Awp.cond (b := (decide ((i : Int) < (c.members.D.length : Int)))) rfl (fun h2 => ?_) (fun h2 => ?_)
  ·
    have h3 : i < c.members.D.length := by have := of_decide_eq_true h2; omega
    obtain ⟨x, h4⟩ := getX h3
    rw [drop_at h4] at hR
    refine Awp.skip ?_
    refine Awp.seq ?_
    refine Awp.block ?_
    refine Awp.cons C (fun _ => .pure) (by kernel_rfl) ?_
    refine rvc_un (rexec_idxS C rfl rfl rfl rfl rfl rfl x (Int.natCast_nonneg _) h4 ?_)
    refine rvc_un (rexec_prim C (δ := { v := .agg [.pv (.lit (.int .i64 x.node)), .pv (.lit (.int .i64 x.site)), .pv (.lit (.bool x.fresh))] }) rfl rfl rfl rfl trivial rfl ?_)
    refine rvc_un (rexec_prim C (δ := { v := .ptr 7 0, new := [(7, .cells [.pv (.lit (.int .i64 0)), .pv (.lit (.int .i64 0)), .pv (.lit (.bool false))])] }) rfl rfl rfl rfl trivial rfl ?_)
    refine rvc_un (rexec_prim C (δ := { v := .undef, wr := [(7, some (.cells [.pv (.lit (.int .i64 x.node)), .pv (.lit (.int .i64 x.site)), .pv (.lit (.bool x.fresh))]))] }) rfl rfl rfl rfl trivial rfl ?_)
    refine rvc_nil ?_
    refine Awp.cons C (fun _ => .pure) (by kernel_rfl) ?_
    refine rvc_un (rexec_prim C (δ := { v := .ptr 7 1 }) rfl rfl rfl rfl trivial rfl ?_)
    refine rvc_un (rexec_prim C (δ := { v := .pv (.lit (.int .i64 x.site)) }) rfl rfl rfl rfl trivial rfl ?_)
    refine rvc_un (rexec_prim C (δ := { v := .pv (.lit (.int .i64 site)) }) rfl rfl rfl rfl trivial rfl ?_)
    refine rvc_un (rexec_prim C (δ := { v := .pv (.lit (.bool (x.site == site))) }) rfl rfl rfl rfl trivial rfl ?_)
    refine rvc_nil ?_
    refine Awp.cond (b := (x.site == site)) rfl (fun h5 => ?_) (fun h5 => ?_)
    ·
      replace hR := of_true h5 hR
      refine Awp.region C (fun _ => .pure) (by kernel_rfl) ?_
      refine rvc_un (rexec_prim C (δ := { v := .pv (.lit (.int .i64 n)) }) rfl rfl rfl rfl trivial rfl ?_)
      refine rvc_un (rexec_prim C (δ := { v := .pv (.lit (.int .i64 (IntKind.i64.wrap (n + 1)))) }) rfl rfl rfl rfl trivial rfl ?_)
      refine rvc_un (rexec_prim C (δ := { v := .pv (.lit (.int .i64 (IntKind.i64.wrap (n + 1)))) }) rfl rfl rfl rfl trivial rfl ?_)
      refine rvc_nil ?_
      refine Awp.region C (fun _ => .pure) (by kernel_rfl) ?_
      refine rvc_un (rexec_prim C (δ := { v := .pv (.lit (.int .i64 (IntKind.i64.wrap ((i : Int) + 1)))) }) rfl rfl rfl rfl trivial rfl ?_)
      refine rvc_un (rexec_prim C (δ := { v := .pv (.lit (.int .i64 (IntKind.i64.wrap ((i : Int) + 1)))) }) rfl rfl rfl rfl trivial rfl ?_)
      refine rvc_nil ?_
      refine ⟨h3, (IntKind.i64.wrap (n + 1)), ?_, ?_⟩
      · exact hR
      · exact ⟨fun b => b, WeakerR.ofL (Ks := []) hI ⟨⟨rfl, rfl⟩, ⟨rfl, rfl⟩, ⟨rfl, rfl⟩, ⟨rfl, rfl⟩, ⟨lit_cast (wrap_i64 (by omega) (by omega)), rfl⟩, trivial⟩ (okH_nil) rfl⟩
    ·
      replace hR := of_false h5 hR
      refine Awp.skip ?_
      refine Awp.region C (fun _ => .pure) (by kernel_rfl) ?_
      refine rvc_un (rexec_prim C (δ := { v := .pv (.lit (.int .i64 (IntKind.i64.wrap ((i : Int) + 1)))) }) rfl rfl rfl rfl trivial rfl ?_)
      refine rvc_un (rexec_prim C (δ := { v := .pv (.lit (.int .i64 (IntKind.i64.wrap ((i : Int) + 1)))) }) rfl rfl rfl rfl trivial rfl ?_)
      refine rvc_nil ?_
      refine ⟨h3, n, ?_, ?_⟩
      · exact hR
      · exact ⟨fun b => b, WeakerR.ofL (Ks := []) hI ⟨⟨rfl, rfl⟩, ⟨rfl, rfl⟩, ⟨rfl, rfl⟩, ⟨rfl, rfl⟩, ⟨lit_cast (wrap_i64 (by omega) (by omega)), rfl⟩, trivial⟩ (okH_nil) rfl⟩
  ·
    have h3 : ¬ i < c.members.D.length := by have := of_decide_eq_false h2; omega
    rw [drop_end h3] at hR
    refine Awp.exit ?_
    refine Awp.cons C (fun _ => .pure) (by kernel_rfl) ?_
    refine rvc_un (rexec_prim C (δ := { v := .pv (.lit (.int .i64 n)) }) rfl rfl rfl rfl trivial rfl ?_)
    refine rvc_un (rexec_prim C (δ := { v := .pv (.lit (.int .i64 n)) }) rfl rfl rfl rfl trivial rfl ?_)
    refine rvc_nil ?_
    refine Awp.ret ?_
    subst hR
    exact ⟨.inl rfl, rfl⟩
def rMany_l0 (site : Int) : List Member → Nat → Int → Int
  | [], _, n => n
  | x :: xs, i, n => (bif (x.site == site) then rMany_l0 site xs (i + 1) (IntKind.i64.wrap (n + 1)) else rMany_l0 site xs (i + 1) n)
def rMany (c : Chain) (site : Int) : Int :=
  rMany_l0 site c.members.D 0 0
theorem rMany_calls (c : Chain) (site : Int) (hl1 : c.members.D.length ≤ 1000000) : PCalls Try.prog 20 [.agg [.pv (.lit (.int .i64 c.epoch)), sS (some c.members.nil) eMember c.members.D], .pv (.lit (.int .i64 site))] (.pv (.lit (.int .i64 (rMany c site)))) := by
  generalize hR : rMany c site = R
  refine PCalls.of_body tabOk Try.func20 rfl rfl rfl rfl rfl mixed fun E hP C hI => ?_
  refine Awp.cons C (fun _ => .pure) (by kernel_rfl) ?_
  refine rvc_un (rexec_prim C (δ := { v := .ptr 2 0, new := [(2, .cells [.pv (.lit (.int .i64 c.epoch)), sS (some c.members.nil) eMember c.members.D])] }) rfl rfl rfl rfl trivial rfl ?_)
  refine rvc_un (rexec_prim C (δ := { v := .pv (.lit (.int .i64 0)) }) rfl rfl rfl rfl trivial rfl ?_)
  refine rvc_nil ?_
  refine Awp.cons C (fun _ => .pure) (by kernel_rfl) ?_
  refine rvc_un (rexec_prim C (δ := { v := .pv (.lit (.int .i64 0)) }) rfl rfl rfl rfl trivial rfl ?_)
  refine rvc_nil ?_
  refine Awp.seq ?_
  refine Awp.cons C (fun _ => .pure) (by kernel_rfl) ?_
  refine rvc_un (rexec_prim C (δ := { v := .ptr 2 1 }) rfl rfl rfl rfl trivial rfl ?_)
  refine rvc_un (rexec_prim C (δ := { v := sS (some c.members.nil) eMember c.members.D }) rfl rfl rfl rfl trivial rfl ?_)
  refine rvc_un (rexec_prim C (δ := { v := .pv (.lit (.int .i64 (c.members.D.length : Int))) }) rfl rfl rfl rfl trivial rfl ?_)
  refine rvc_un (rexec_prim C (δ := { v := .pv (.lit (.int .i64 0)) }) rfl rfl rfl rfl trivial rfl ?_)
  refine rvc_nil ?_
  refine Awp.block ?_
  refine Awp.forR (σ := Int) (c.members.D.length) (fun i v => [(1, .pv (.lit (.int .i64 site))), (5, .pv (.lit (.int .i64 v))), (9, sS (some c.members.nil) eMember c.members.D), (10, .pv (.lit (.int .i64 (c.members.D.length : Int)))), (11, .pv (.lit (.int .i64 (i : Int))))]) (fun i v => []) [] (fun i v => rMany_l0 site (c.members.D.drop i) i v = R) 0 ?_ ?_ (fun i n h1 hR => ?_)
  · exact hR
  · exact ⟨fun b => b, WeakerR.ofL (Ks := []) hI ⟨⟨rfl, rfl⟩, ⟨rfl, rfl⟩, ⟨rfl, rfl⟩, ⟨rfl, rfl⟩, ⟨rfl, rfl⟩, trivial⟩ (okH_nil) rfl⟩
  refine Awp.cons C (fun _ => .pure) (by kernel_rfl) ?_
  refine rvc_un (rexec_prim C (δ := { v := .pv (.lit (.bool (decide ((i : Int) < (c.members.D.length : Int))))) }) rfl rfl rfl rfl trivial rfl ?_)
  refine rvc_nil ?_
  refine Awp.seq ?_
  refine Awp.cond (b := (decide ((i : Int) < (c.members.D.length : Int)))) rfl (fun h2 => ?_) (fun h2 => ?_)
  ·
    have h3 : i < c.members.D.length := by have := of_decide_eq_true h2; omega
    obtain ⟨x, h4⟩ := getX h3
    rw [drop_at h4] at hR
    refine Awp.skip ?_
    refine Awp.seq ?_
    refine Awp.block ?_
    refine Awp.cons C (fun _ => .pure) (by kernel_rfl) ?_
    refine rvc_un (rexec_idxS C rfl rfl rfl rfl rfl rfl x (Int.natCast_nonneg _) h4 ?_)
    refine rvc_un (rexec_prim C (δ := { v := .agg [.pv (.lit (.int .i64 x.node)), .pv (.lit (.int .i64 x.site)), .pv (.lit (.bool x.fresh))] }) rfl rfl rfl rfl trivial rfl ?_)
    refine rvc_un (rexec_prim C (δ := { v := .ptr 7 0, new := [(7, .cells [.pv (.lit (.int .i64 0)), .pv (.lit (.int .i64 0)), .pv (.lit (.bool false))])] }) rfl rfl rfl rfl trivial rfl ?_)
    refine rvc_un (rexec_prim C (δ := { v := .undef, wr := [(7, some (.cells [.pv (.lit (.int .i64 x.node)), .pv (.lit (.int .i64 x.site)), .pv (.lit (.bool x.fresh))]))] }) rfl rfl rfl rfl trivial rfl ?_)
    refine rvc_nil ?_
    refine Awp.cons C (fun _ => .pure) (by kernel_rfl) ?_
    refine rvc_un (rexec_prim C (δ := { v := .ptr 7 1 }) rfl rfl rfl rfl trivial rfl ?_)
    refine rvc_un (rexec_prim C (δ := { v := .pv (.lit (.int .i64 x.site)) }) rfl rfl rfl rfl trivial rfl ?_)
    refine rvc_un (rexec_prim C (δ := { v := .pv (.lit (.int .i64 site)) }) rfl rfl rfl rfl trivial rfl ?_)
    refine rvc_un (rexec_prim C (δ := { v := .pv (.lit (.bool (x.site == site))) }) rfl rfl rfl rfl trivial rfl ?_)
    refine rvc_nil ?_
    refine Awp.cond (b := (x.site == site)) rfl (fun h5 => ?_) (fun h5 => ?_)
    ·
      replace hR := of_true h5 hR
      refine Awp.region C (fun _ => .pure) (by kernel_rfl) ?_
      refine rvc_un (rexec_prim C (δ := { v := .pv (.lit (.int .i64 n)) }) rfl rfl rfl rfl trivial rfl ?_)
      refine rvc_un (rexec_prim C (δ := { v := .pv (.lit (.int .i64 (IntKind.i64.wrap (n + 1)))) }) rfl rfl rfl rfl trivial rfl ?_)
      refine rvc_un (rexec_prim C (δ := { v := .pv (.lit (.int .i64 (IntKind.i64.wrap (n + 1)))) }) rfl rfl rfl rfl trivial rfl ?_)
      refine rvc_nil ?_
      refine Awp.region C (fun _ => .pure) (by kernel_rfl) ?_
      refine rvc_un (rexec_prim C (δ := { v := .pv (.lit (.int .i64 (IntKind.i64.wrap ((i : Int) + 1)))) }) rfl rfl rfl rfl trivial rfl ?_)
      refine rvc_un (rexec_prim C (δ := { v := .pv (.lit (.int .i64 (IntKind.i64.wrap ((i : Int) + 1)))) }) rfl rfl rfl rfl trivial rfl ?_)
      refine rvc_nil ?_
      refine ⟨h3, (IntKind.i64.wrap (n + 1)), ?_, ?_⟩
      · exact hR
      · exact ⟨fun b => b, WeakerR.ofL (Ks := []) hI ⟨⟨rfl, rfl⟩, ⟨rfl, rfl⟩, ⟨rfl, rfl⟩, ⟨rfl, rfl⟩, ⟨lit_cast (wrap_i64 (by omega) (by omega)), rfl⟩, trivial⟩ (okH_nil) rfl⟩
    ·
      replace hR := of_false h5 hR
      refine Awp.skip ?_
      refine Awp.region C (fun _ => .pure) (by kernel_rfl) ?_
      refine rvc_un (rexec_prim C (δ := { v := .pv (.lit (.int .i64 (IntKind.i64.wrap ((i : Int) + 1)))) }) rfl rfl rfl rfl trivial rfl ?_)
      refine rvc_un (rexec_prim C (δ := { v := .pv (.lit (.int .i64 (IntKind.i64.wrap ((i : Int) + 1)))) }) rfl rfl rfl rfl trivial rfl ?_)
      refine rvc_nil ?_
      refine ⟨h3, n, ?_, ?_⟩
      · exact hR
      · exact ⟨fun b => b, WeakerR.ofL (Ks := []) hI ⟨⟨rfl, rfl⟩, ⟨rfl, rfl⟩, ⟨rfl, rfl⟩, ⟨rfl, rfl⟩, ⟨lit_cast (wrap_i64 (by omega) (by omega)), rfl⟩, trivial⟩ (okH_nil) rfl⟩
  ·
    have h3 : ¬ i < c.members.D.length := by have := of_decide_eq_false h2; omega
    rw [drop_end h3] at hR
    refine Awp.exit ?_
    refine Awp.cons C (fun _ => .pure) (by kernel_rfl) ?_
    refine rvc_un (rexec_prim C (δ := { v := .pv (.lit (.int .i64 n)) }) rfl rfl rfl rfl trivial rfl ?_)
    refine rvc_un (rexec_prim C (δ := { v := .pv (.lit (.int .i64 n)) }) rfl rfl rfl rfl trivial rfl ?_)
    refine rvc_nil ?_
    refine Awp.ret ?_
    subst hR
    exact ⟨.inl rfl, rfl⟩
def planCheck_l1 (w : (Nat → Int)) : Nat → Nat → Int
  | 0, _ => 0
  | k1 + 1, i1 => (bif (decide ((w i1) < 0)) then 1 else (bif (decide ((w i1) > 6)) then 1 else planCheck_l1 w k1 (i1 + 1) ))
def planCheck_l0 (h : (Nat → Int)) (w : (Nat → Int)) : Nat → Nat → Int
  | 0, _ => planCheck_l1 w 3 0 
  | k + 1, i => (bif (decide ((h i) < 0)) then 1 else (bif (decide ((h i) ≥ 3)) then 1 else planCheck_l0 h w k (i + 1) ))
def planCheck (h : (Nat → Int)) (w : (Nat → Int)) : Int :=
  planCheck_l0 h w 6 0
theorem planCheck_calls (h : (Nat → Int)) (w : (Nat → Int))  : PCalls Try.prog 21 [.agg [.pv (.lit (.int .i64 (h 0))), .pv (.lit (.int .i64 (h 1))), .pv (.lit (.int .i64 (h 2))), .pv (.lit (.int .i64 (h 3))), .pv (.lit (.int .i64 (h 4))), .pv (.lit (.int .i64 (h 5)))], .agg [.pv (.lit (.int .i64 (w 0))), .pv (.lit (.int .i64 (w 1))), .pv (.lit (.int .i64 (w 2)))]] (.pv (.lit (.int .i64 (planCheck h w)))) := by
  generalize hR : planCheck h w = R
  refine PCalls.of_body tabOk Try.func21 rfl rfl rfl rfl rfl mixed fun E hP C hI => ?_
  refine Awp.cons C (fun _ => .pure) (by kernel_rfl) ?_
  refine rvc_un (rexec_prim C (δ := { v := .ptr 2 0, new := [(2, .cells [.pv (.lit (.int .i64 (h 0))), .pv (.lit (.int .i64 (h 1))), .pv (.lit (.int .i64 (h 2))), .pv (.lit (.int .i64 (h 3))), .pv (.lit (.int .i64 (h 4))), .pv (.lit (.int .i64 (h 5)))])] }) rfl rfl rfl rfl trivial rfl ?_)
  refine rvc_un (rexec_prim C (δ := { v := .ptr 3 0, new := [(3, .cells [.pv (.lit (.int .i64 (w 0))), .pv (.lit (.int .i64 (w 1))), .pv (.lit (.int .i64 (w 2)))])] }) rfl rfl rfl rfl trivial rfl ?_)
  refine rvc_un (rexec_prim C (δ := { v := .pv (.lit (.int .i64 0)) }) rfl rfl rfl rfl trivial rfl ?_)
  refine rvc_nil ?_
  refine Awp.seq ?_
  refine Awp.cons C (fun _ => .pure) (by kernel_rfl) ?_
  refine rvc_un (rexec_prim C (δ := { v := .agg [.pv (.lit (.int .i64 (h 0))), .pv (.lit (.int .i64 (h 1))), .pv (.lit (.int .i64 (h 2))), .pv (.lit (.int .i64 (h 3))), .pv (.lit (.int .i64 (h 4))), .pv (.lit (.int .i64 (h 5)))] }) rfl rfl rfl rfl trivial rfl ?_)
  refine rvc_un (rexec_prim C (δ := { v := .pv (.lit (.int .i64 0)) }) rfl rfl rfl rfl trivial rfl ?_)
  refine rvc_nil ?_
  refine Awp.block ?_
  refine Awp.forR (σ := Unit) (6) (fun i _v => [(3, .ptr 3 0), (9, .agg [.pv (.lit (.int .i64 (h 0))), .pv (.lit (.int .i64 (h 1))), .pv (.lit (.int .i64 (h 2))), .pv (.lit (.int .i64 (h 3))), .pv (.lit (.int .i64 (h 4))), .pv (.lit (.int .i64 (h 5)))]), (10, .pv (.lit (.int .i64 (i : Int))))]) (fun i _v => [(3, .cells [.pv (.lit (.int .i64 (w 0))), .pv (.lit (.int .i64 (w 1))), .pv (.lit (.int .i64 (w 2)))])]) [3] (fun i _v => planCheck_l0 h w (6 - i) i  = R) () ?_ ?_ (fun i _v h1 hR => ?_)
  · exact hR
  · exact ⟨fun b => b, WeakerR.ofL (Ks := [3]) hI ⟨⟨rfl, rfl⟩, ⟨rfl, rfl⟩, ⟨rfl, rfl⟩, trivial⟩ (okH_cons rfl rfl rfl rfl (okH_nil)) rfl⟩
  refine Awp.cons C (fun _ => .pure) (by kernel_rfl) ?_
  refine rvc_un (rexec_prim C (δ := { v := .pv (.lit (.bool (decide ((i : Int) < 6)))) }) rfl rfl rfl rfl trivial rfl ?_)
  refine rvc_nil ?_
  refine Awp.seq ?_
  refine Awp.cond (b := (decide ((i : Int) < 6))) rfl (fun h2 => ?_) (fun h2 => ?_)
  ·
    have h3 : i < 6 := by have := of_decide_eq_true h2; omega
    obtain ⟨k, h4⟩ : ∃ k, 6 - i = k + 1 := ⟨6 - i - 1, by omega⟩
    rw [h4] at hR
    refine Awp.skip ?_
    refine Awp.seq ?_
    refine Awp.block ?_
    refine Awp.cons C (fun _ => .pure) (by kernel_rfl) ?_
    refine rvc_un (rexec_idxA C (fun j => .pv (.lit (.int .i64 (h j)))) (.pv (.lit (.int .i64 (h i)))) rfl rfl rfl rfl rfl rfl rfl rfl ⟨(by have := of_decide_eq_true h2; omega), (by have := of_decide_eq_true h2; omega)⟩ rfl ?_)
    refine rvc_un (rexec_prim C (δ := { v := .pv (.lit (.int .i64 (h i))) }) rfl rfl rfl rfl trivial rfl ?_)
    refine rvc_nil ?_
    refine Awp.cons C (fun _ => .pure) (by kernel_rfl) ?_
    refine rvc_un (rexec_prim C (δ := { v := .pv (.lit (.int .i64 (h i))) }) rfl rfl rfl rfl trivial rfl ?_)
    refine rvc_un (rexec_prim C (δ := { v := .pv (.lit (.bool (decide ((h i) < 0)))) }) rfl rfl rfl rfl trivial rfl ?_)
    refine rvc_un (rexec_prim C (δ := { v := .pv (.lit (.bool (decide ((h i) < 0)))) }) rfl rfl rfl rfl trivial rfl ?_)
    refine rvc_case 15 (decide ((h i) < 0)) rfl (fun h5 => ?_) (fun h5 => ?_)
    ·
      replace hR := of_true h5 hR
      refine rvc_shut rfl rfl rfl rfl ?_
      refine rvc_shut rfl rfl rfl rfl ?_
      refine rvc_un (rexec_prim C (δ := { v := .pv (.lit (.bool true)) }) rfl rfl rfl rfl trivial rfl ?_)
      refine rvc_nil ?_
      refine Awp.condT (b := true) rfl rfl ?_
      refine Awp.cons C (fun _ => .pure) (by kernel_rfl) ?_
      refine rvc_un (rexec_prim C (δ := { v := .pv (.lit (.int .i64 1)) }) rfl rfl rfl rfl trivial rfl ?_)
      refine rvc_nil ?_
      refine Awp.ret ?_
      subst hR
      exact ⟨.inl rfl, rfl⟩
    ·
      replace hR := of_false h5 hR
      refine rvc_open rfl rfl rfl (rexec_prim C (δ := { v := .pv (.lit (.int .i64 (h i))) }) rfl rfl rfl rfl trivial rfl ?_)
      refine rvc_open rfl rfl rfl (rexec_prim C (δ := { v := .pv (.lit (.bool (decide ((h i) ≥ 3)))) }) rfl rfl rfl rfl trivial rfl ?_)
      refine rvc_un (rexec_prim C (δ := { v := .pv (.lit (.bool (decide ((h i) ≥ 3)))) }) rfl rfl rfl rfl trivial rfl ?_)
      refine rvc_nil ?_
      refine Awp.cond (b := (decide ((h i) ≥ 3))) rfl (fun h6 => ?_) (fun h6 => ?_)
      ·
        replace hR := of_true h6 hR
        refine Awp.cons C (fun _ => .pure) (by kernel_rfl) ?_
        refine rvc_un (rexec_prim C (δ := { v := .pv (.lit (.int .i64 1)) }) rfl rfl rfl rfl trivial rfl ?_)
        refine rvc_nil ?_
        refine Awp.ret ?_
        subst hR
        exact ⟨.inl rfl, rfl⟩
      ·
        replace hR := of_false h6 hR
        refine Awp.skip ?_
        refine Awp.region C (fun _ => .pure) (by kernel_rfl) ?_
        refine rvc_un (rexec_prim C (δ := { v := .pv (.lit (.int .i64 (IntKind.i64.wrap ((i : Int) + 1)))) }) rfl rfl rfl rfl trivial rfl ?_)
        refine rvc_un (rexec_prim C (δ := { v := .pv (.lit (.int .i64 (IntKind.i64.wrap ((i : Int) + 1)))) }) rfl rfl rfl rfl trivial rfl ?_)
        refine rvc_nil ?_
        refine ⟨h3, (), ?_, ?_⟩
        · exact (by rw [show 6 - (i + 1) = k by omega]; exact hR)
        · exact ⟨fun b => b, WeakerR.ofL (Ks := [3]) hI ⟨⟨rfl, rfl⟩, ⟨rfl, rfl⟩, ⟨lit_cast (wrap_i64 (by omega) (by omega)), rfl⟩, trivial⟩ (okH_cons rfl rfl rfl rfl (okH_nil)) rfl⟩
  ·
    rw [show 6 - i = 0 by have := of_decide_eq_false h2; omega] at hR
    refine Awp.exit ?_
    refine Awp.seq ?_
    refine Awp.cons C (fun _ => .pure) (by kernel_rfl) ?_
    refine rvc_un (rexec_prim C (δ := { v := .agg [.pv (.lit (.int .i64 (w 0))), .pv (.lit (.int .i64 (w 1))), .pv (.lit (.int .i64 (w 2)))] }) rfl rfl rfl rfl trivial rfl ?_)
    refine rvc_un (rexec_prim C (δ := { v := .pv (.lit (.int .i64 0)) }) rfl rfl rfl rfl trivial rfl ?_)
    refine rvc_nil ?_
    refine Awp.block ?_
    refine Awp.forR (σ := Unit) (3) (fun i1 _v => [(20, .agg [.pv (.lit (.int .i64 (w 0))), .pv (.lit (.int .i64 (w 1))), .pv (.lit (.int .i64 (w 2)))]), (21, .pv (.lit (.int .i64 (i1 : Int))))]) (fun i1 _v => []) [] (fun i1 _v => planCheck_l1 w (3 - i1) i1  = R) () ?_ ?_ (fun i1 _v h7 hR => ?_)
    · exact hR
    · exact ⟨fun b => b, WeakerR.ofL (Ks := []) hI ⟨⟨rfl, rfl⟩, ⟨rfl, rfl⟩, trivial⟩ (okH_nil) rfl⟩
    refine Awp.cons C (fun _ => .pure) (by kernel_rfl) ?_
    refine rvc_un (rexec_prim C (δ := { v := .pv (.lit (.bool (decide ((i1 : Int) < 3)))) }) rfl rfl rfl rfl trivial rfl ?_)
    refine rvc_nil ?_
    refine Awp.seq ?_
    refine Awp.cond (b := (decide ((i1 : Int) < 3))) rfl (fun h8 => ?_) (fun h8 => ?_)
    ·
      have h9 : i1 < 3 := by have := of_decide_eq_true h8; omega
      obtain ⟨k1, h10⟩ : ∃ k, 3 - i1 = k + 1 := ⟨3 - i1 - 1, by omega⟩
      rw [h10] at hR
      refine Awp.skip ?_
      refine Awp.seq ?_
      refine Awp.block ?_
      refine Awp.cons C (fun _ => .pure) (by kernel_rfl) ?_
      refine rvc_un (rexec_idxA C (fun j => .pv (.lit (.int .i64 (w j)))) (.pv (.lit (.int .i64 (w i1)))) rfl rfl rfl rfl rfl rfl rfl rfl ⟨(by have := of_decide_eq_false h2; have := of_decide_eq_true h8; omega), (by have := of_decide_eq_false h2; have := of_decide_eq_true h8; omega)⟩ rfl ?_)
      refine rvc_un (rexec_prim C (δ := { v := .pv (.lit (.int .i64 (w i1))) }) rfl rfl rfl rfl trivial rfl ?_)
      refine rvc_nil ?_
      refine Awp.cons C (fun _ => .pure) (by kernel_rfl) ?_
      refine rvc_un (rexec_prim C (δ := { v := .pv (.lit (.int .i64 (w i1))) }) rfl rfl rfl rfl trivial rfl ?_)
      refine rvc_un (rexec_prim C (δ := { v := .pv (.lit (.bool (decide ((w i1) < 0)))) }) rfl rfl rfl rfl trivial rfl ?_)
      refine rvc_un (rexec_prim C (δ := { v := .pv (.lit (.bool (decide ((w i1) < 0)))) }) rfl rfl rfl rfl trivial rfl ?_)
      refine rvc_case 26 (decide ((w i1) < 0)) rfl (fun h11 => ?_) (fun h11 => ?_)
      ·
        replace hR := of_true h11 hR
        refine rvc_shut rfl rfl rfl rfl ?_
        refine rvc_shut rfl rfl rfl rfl ?_
        refine rvc_un (rexec_prim C (δ := { v := .pv (.lit (.bool true)) }) rfl rfl rfl rfl trivial rfl ?_)
        refine rvc_nil ?_
        refine Awp.condT (b := true) rfl rfl ?_
        refine Awp.cons C (fun _ => .pure) (by kernel_rfl) ?_
        refine rvc_un (rexec_prim C (δ := { v := .pv (.lit (.int .i64 1)) }) rfl rfl rfl rfl trivial rfl ?_)
        refine rvc_nil ?_
        refine Awp.ret ?_
        subst hR
        exact ⟨.inl rfl, rfl⟩
      ·
        replace hR := of_false h11 hR
        refine rvc_open rfl rfl rfl (rexec_prim C (δ := { v := .pv (.lit (.int .i64 (w i1))) }) rfl rfl rfl rfl trivial rfl ?_)
        refine rvc_open rfl rfl rfl (rexec_prim C (δ := { v := .pv (.lit (.bool (decide ((w i1) > 6)))) }) rfl rfl rfl rfl trivial rfl ?_)
        refine rvc_un (rexec_prim C (δ := { v := .pv (.lit (.bool (decide ((w i1) > 6)))) }) rfl rfl rfl rfl trivial rfl ?_)
        refine rvc_nil ?_
        refine Awp.cond (b := (decide ((w i1) > 6))) rfl (fun h12 => ?_) (fun h12 => ?_)
        ·
          replace hR := of_true h12 hR
          refine Awp.cons C (fun _ => .pure) (by kernel_rfl) ?_
          refine rvc_un (rexec_prim C (δ := { v := .pv (.lit (.int .i64 1)) }) rfl rfl rfl rfl trivial rfl ?_)
          refine rvc_nil ?_
          refine Awp.ret ?_
          subst hR
          exact ⟨.inl rfl, rfl⟩
        ·
          replace hR := of_false h12 hR
          refine Awp.skip ?_
          refine Awp.region C (fun _ => .pure) (by kernel_rfl) ?_
          refine rvc_un (rexec_prim C (δ := { v := .pv (.lit (.int .i64 (IntKind.i64.wrap ((i1 : Int) + 1)))) }) rfl rfl rfl rfl trivial rfl ?_)
          refine rvc_un (rexec_prim C (δ := { v := .pv (.lit (.int .i64 (IntKind.i64.wrap ((i1 : Int) + 1)))) }) rfl rfl rfl rfl trivial rfl ?_)
          refine rvc_nil ?_
          refine ⟨h9, (), ?_, ?_⟩
          · exact (by rw [show 3 - (i1 + 1) = k1 by omega]; exact hR)
          · exact ⟨fun b => b, WeakerR.ofL (Ks := []) hI ⟨⟨rfl, rfl⟩, ⟨lit_cast (wrap_i64 (by omega) (by omega)), rfl⟩, trivial⟩ (okH_nil) rfl⟩
    ·
      rw [show 3 - i1 = 0 by have := of_decide_eq_false h8; omega] at hR
      refine Awp.exit ?_
      refine Awp.cons C (fun _ => .pure) (by kernel_rfl) ?_
      refine rvc_un (rexec_prim C (δ := { v := .pv (.lit (.int .i64 0)) }) rfl rfl rfl rfl trivial rfl ?_)
      refine rvc_nil ?_
      refine Awp.ret ?_
      subst hR
      exact ⟨.inl rfl, rfl⟩
def rPlanCheck_l1 (w : (Nat → Int)) : Nat → Nat → Int
  | 0, _ => 0
  | k1 + 1, i1 => (bif (decide ((w i1) < 0)) then 1 else (bif (decide ((w i1) > 6)) then 1 else rPlanCheck_l1 w k1 (i1 + 1) ))
def rPlanCheck_l0 (h : (Nat → Int)) (w : (Nat → Int)) : Nat → Nat → Int
  | 0, _ => rPlanCheck_l1 w 3 0 
  | k + 1, i => (bif (decide ((h i) < 0)) then 1 else (bif (decide ((h i) > 2)) then 1 else rPlanCheck_l0 h w k (i + 1) ))
def rPlanCheck (h : (Nat → Int)) (w : (Nat → Int)) : Int :=
  rPlanCheck_l0 h w 6 0
theorem rPlanCheck_calls (h : (Nat → Int)) (w : (Nat → Int))  : PCalls Try.prog 22 [.agg [.pv (.lit (.int .i64 (h 0))), .pv (.lit (.int .i64 (h 1))), .pv (.lit (.int .i64 (h 2))), .pv (.lit (.int .i64 (h 3))), .pv (.lit (.int .i64 (h 4))), .pv (.lit (.int .i64 (h 5)))], .agg [.pv (.lit (.int .i64 (w 0))), .pv (.lit (.int .i64 (w 1))), .pv (.lit (.int .i64 (w 2)))]] (.pv (.lit (.int .i64 (rPlanCheck h w)))) := by
  generalize hR : rPlanCheck h w = R
  refine PCalls.of_body tabOk Try.func22 rfl rfl rfl rfl rfl mixed fun E hP C hI => ?_
  refine Awp.cons C (fun _ => .pure) (by kernel_rfl) ?_
  refine rvc_un (rexec_prim C (δ := { v := .ptr 2 0, new := [(2, .cells [.pv (.lit (.int .i64 (h 0))), .pv (.lit (.int .i64 (h 1))), .pv (.lit (.int .i64 (h 2))), .pv (.lit (.int .i64 (h 3))), .pv (.lit (.int .i64 (h 4))), .pv (.lit (.int .i64 (h 5)))])] }) rfl rfl rfl rfl trivial rfl ?_)
  refine rvc_un (rexec_prim C (δ := { v := .ptr 3 0, new := [(3, .cells [.pv (.lit (.int .i64 (w 0))), .pv (.lit (.int .i64 (w 1))), .pv (.lit (.int .i64 (w 2)))])] }) rfl rfl rfl rfl trivial rfl ?_)
  refine rvc_un (rexec_prim C (δ := { v := .pv (.lit (.int .i64 0)) }) rfl rfl rfl rfl trivial rfl ?_)
  refine rvc_nil ?_
  refine Awp.seq ?_
  refine Awp.cons C (fun _ => .pure) (by kernel_rfl) ?_
  refine rvc_un (rexec_prim C (δ := { v := .agg [.pv (.lit (.int .i64 (h 0))), .pv (.lit (.int .i64 (h 1))), .pv (.lit (.int .i64 (h 2))), .pv (.lit (.int .i64 (h 3))), .pv (.lit (.int .i64 (h 4))), .pv (.lit (.int .i64 (h 5)))] }) rfl rfl rfl rfl trivial rfl ?_)
  refine rvc_un (rexec_prim C (δ := { v := .pv (.lit (.int .i64 0)) }) rfl rfl rfl rfl trivial rfl ?_)
  refine rvc_nil ?_
  refine Awp.block ?_
  refine Awp.forR (σ := Unit) (6) (fun i _v => [(3, .ptr 3 0), (9, .agg [.pv (.lit (.int .i64 (h 0))), .pv (.lit (.int .i64 (h 1))), .pv (.lit (.int .i64 (h 2))), .pv (.lit (.int .i64 (h 3))), .pv (.lit (.int .i64 (h 4))), .pv (.lit (.int .i64 (h 5)))]), (10, .pv (.lit (.int .i64 (i : Int))))]) (fun i _v => [(3, .cells [.pv (.lit (.int .i64 (w 0))), .pv (.lit (.int .i64 (w 1))), .pv (.lit (.int .i64 (w 2)))])]) [3] (fun i _v => rPlanCheck_l0 h w (6 - i) i  = R) () ?_ ?_ (fun i _v h1 hR => ?_)
  · exact hR
  · exact ⟨fun b => b, WeakerR.ofL (Ks := [3]) hI ⟨⟨rfl, rfl⟩, ⟨rfl, rfl⟩, ⟨rfl, rfl⟩, trivial⟩ (okH_cons rfl rfl rfl rfl (okH_nil)) rfl⟩
  refine Awp.cons C (fun _ => .pure) (by kernel_rfl) ?_
  refine rvc_un (rexec_prim C (δ := { v := .pv (.lit (.bool (decide ((i : Int) < 6)))) }) rfl rfl rfl rfl trivial rfl ?_)
  refine rvc_nil ?_
  refine Awp.seq ?_
  refine Awp.cond (b := (decide ((i : Int) < 6))) rfl (fun h2 => ?_) (fun h2 => ?_)
  ·
    have h3 : i < 6 := by have := of_decide_eq_true h2; omega
    obtain ⟨k, h4⟩ : ∃ k, 6 - i = k + 1 := ⟨6 - i - 1, by omega⟩
    rw [h4] at hR
    refine Awp.skip ?_
    refine Awp.seq ?_
    refine Awp.block ?_
    refine Awp.cons C (fun _ => .pure) (by kernel_rfl) ?_
    refine rvc_un (rexec_idxA C (fun j => .pv (.lit (.int .i64 (h j)))) (.pv (.lit (.int .i64 (h i)))) rfl rfl rfl rfl rfl rfl rfl rfl ⟨(by have := of_decide_eq_true h2; omega), (by have := of_decide_eq_true h2; omega)⟩ rfl ?_)
    refine rvc_un (rexec_prim C (δ := { v := .pv (.lit (.int .i64 (h i))) }) rfl rfl rfl rfl trivial rfl ?_)
    refine rvc_nil ?_
    refine Awp.cons C (fun _ => .pure) (by kernel_rfl) ?_
    refine rvc_un (rexec_prim C (δ := { v := .pv (.lit (.int .i64 (h i))) }) rfl rfl rfl rfl trivial rfl ?_)
    refine rvc_un (rexec_prim C (δ := { v := .pv (.lit (.bool (decide ((h i) < 0)))) }) rfl rfl rfl rfl trivial rfl ?_)
    refine rvc_un (rexec_prim C (δ := { v := .pv (.lit (.bool (decide ((h i) < 0)))) }) rfl rfl rfl rfl trivial rfl ?_)
    refine rvc_case 15 (decide ((h i) < 0)) rfl (fun h5 => ?_) (fun h5 => ?_)
    ·
      replace hR := of_true h5 hR
      refine rvc_shut rfl rfl rfl rfl ?_
      refine rvc_shut rfl rfl rfl rfl ?_
      refine rvc_un (rexec_prim C (δ := { v := .pv (.lit (.bool true)) }) rfl rfl rfl rfl trivial rfl ?_)
      refine rvc_nil ?_
      refine Awp.condT (b := true) rfl rfl ?_
      refine Awp.cons C (fun _ => .pure) (by kernel_rfl) ?_
      refine rvc_un (rexec_prim C (δ := { v := .pv (.lit (.int .i64 1)) }) rfl rfl rfl rfl trivial rfl ?_)
      refine rvc_nil ?_
      refine Awp.ret ?_
      subst hR
      exact ⟨.inl rfl, rfl⟩
    ·
      replace hR := of_false h5 hR
      refine rvc_open rfl rfl rfl (rexec_prim C (δ := { v := .pv (.lit (.int .i64 (h i))) }) rfl rfl rfl rfl trivial rfl ?_)
      refine rvc_open rfl rfl rfl (rexec_prim C (δ := { v := .pv (.lit (.bool (decide ((h i) > 2)))) }) rfl rfl rfl rfl trivial rfl ?_)
      refine rvc_un (rexec_prim C (δ := { v := .pv (.lit (.bool (decide ((h i) > 2)))) }) rfl rfl rfl rfl trivial rfl ?_)
      refine rvc_nil ?_
      refine Awp.cond (b := (decide ((h i) > 2))) rfl (fun h6 => ?_) (fun h6 => ?_)
      ·
        replace hR := of_true h6 hR
        refine Awp.cons C (fun _ => .pure) (by kernel_rfl) ?_
        refine rvc_un (rexec_prim C (δ := { v := .pv (.lit (.int .i64 1)) }) rfl rfl rfl rfl trivial rfl ?_)
        refine rvc_nil ?_
        refine Awp.ret ?_
        subst hR
        exact ⟨.inl rfl, rfl⟩
      ·
        replace hR := of_false h6 hR
        refine Awp.skip ?_
        refine Awp.region C (fun _ => .pure) (by kernel_rfl) ?_
        refine rvc_un (rexec_prim C (δ := { v := .pv (.lit (.int .i64 (IntKind.i64.wrap ((i : Int) + 1)))) }) rfl rfl rfl rfl trivial rfl ?_)
        refine rvc_un (rexec_prim C (δ := { v := .pv (.lit (.int .i64 (IntKind.i64.wrap ((i : Int) + 1)))) }) rfl rfl rfl rfl trivial rfl ?_)
        refine rvc_nil ?_
        refine ⟨h3, (), ?_, ?_⟩
        · exact (by rw [show 6 - (i + 1) = k by omega]; exact hR)
        · exact ⟨fun b => b, WeakerR.ofL (Ks := [3]) hI ⟨⟨rfl, rfl⟩, ⟨rfl, rfl⟩, ⟨lit_cast (wrap_i64 (by omega) (by omega)), rfl⟩, trivial⟩ (okH_cons rfl rfl rfl rfl (okH_nil)) rfl⟩
  ·
    rw [show 6 - i = 0 by have := of_decide_eq_false h2; omega] at hR
    refine Awp.exit ?_
    refine Awp.seq ?_
    refine Awp.cons C (fun _ => .pure) (by kernel_rfl) ?_
    refine rvc_un (rexec_prim C (δ := { v := .agg [.pv (.lit (.int .i64 (w 0))), .pv (.lit (.int .i64 (w 1))), .pv (.lit (.int .i64 (w 2)))] }) rfl rfl rfl rfl trivial rfl ?_)
    refine rvc_un (rexec_prim C (δ := { v := .pv (.lit (.int .i64 0)) }) rfl rfl rfl rfl trivial rfl ?_)
    refine rvc_nil ?_
    refine Awp.block ?_
    refine Awp.forR (σ := Unit) (3) (fun i1 _v => [(20, .agg [.pv (.lit (.int .i64 (w 0))), .pv (.lit (.int .i64 (w 1))), .pv (.lit (.int .i64 (w 2)))]), (21, .pv (.lit (.int .i64 (i1 : Int))))]) (fun i1 _v => []) [] (fun i1 _v => rPlanCheck_l1 w (3 - i1) i1  = R) () ?_ ?_ (fun i1 _v h7 hR => ?_)
    · exact hR
    · exact ⟨fun b => b, WeakerR.ofL (Ks := []) hI ⟨⟨rfl, rfl⟩, ⟨rfl, rfl⟩, trivial⟩ (okH_nil) rfl⟩
    refine Awp.cons C (fun _ => .pure) (by kernel_rfl) ?_
    refine rvc_un (rexec_prim C (δ := { v := .pv (.lit (.bool (decide ((i1 : Int) < 3)))) }) rfl rfl rfl rfl trivial rfl ?_)
    refine rvc_nil ?_
    refine Awp.seq ?_
    refine Awp.cond (b := (decide ((i1 : Int) < 3))) rfl (fun h8 => ?_) (fun h8 => ?_)
    ·
      have h9 : i1 < 3 := by have := of_decide_eq_true h8; omega
      obtain ⟨k1, h10⟩ : ∃ k, 3 - i1 = k + 1 := ⟨3 - i1 - 1, by omega⟩
      rw [h10] at hR
      refine Awp.skip ?_
      refine Awp.seq ?_
      refine Awp.block ?_
      refine Awp.cons C (fun _ => .pure) (by kernel_rfl) ?_
      refine rvc_un (rexec_idxA C (fun j => .pv (.lit (.int .i64 (w j)))) (.pv (.lit (.int .i64 (w i1)))) rfl rfl rfl rfl rfl rfl rfl rfl ⟨(by have := of_decide_eq_false h2; have := of_decide_eq_true h8; omega), (by have := of_decide_eq_false h2; have := of_decide_eq_true h8; omega)⟩ rfl ?_)
      refine rvc_un (rexec_prim C (δ := { v := .pv (.lit (.int .i64 (w i1))) }) rfl rfl rfl rfl trivial rfl ?_)
      refine rvc_nil ?_
      refine Awp.cons C (fun _ => .pure) (by kernel_rfl) ?_
      refine rvc_un (rexec_prim C (δ := { v := .pv (.lit (.int .i64 (w i1))) }) rfl rfl rfl rfl trivial rfl ?_)
      refine rvc_un (rexec_prim C (δ := { v := .pv (.lit (.bool (decide ((w i1) < 0)))) }) rfl rfl rfl rfl trivial rfl ?_)
      refine rvc_un (rexec_prim C (δ := { v := .pv (.lit (.bool (decide ((w i1) < 0)))) }) rfl rfl rfl rfl trivial rfl ?_)
      refine rvc_case 26 (decide ((w i1) < 0)) rfl (fun h11 => ?_) (fun h11 => ?_)
      ·
        replace hR := of_true h11 hR
        refine rvc_shut rfl rfl rfl rfl ?_
        refine rvc_shut rfl rfl rfl rfl ?_
        refine rvc_un (rexec_prim C (δ := { v := .pv (.lit (.bool true)) }) rfl rfl rfl rfl trivial rfl ?_)
        refine rvc_nil ?_
        refine Awp.condT (b := true) rfl rfl ?_
        refine Awp.cons C (fun _ => .pure) (by kernel_rfl) ?_
        refine rvc_un (rexec_prim C (δ := { v := .pv (.lit (.int .i64 1)) }) rfl rfl rfl rfl trivial rfl ?_)
        refine rvc_nil ?_
        refine Awp.ret ?_
        subst hR
        exact ⟨.inl rfl, rfl⟩
      ·
        replace hR := of_false h11 hR
        refine rvc_open rfl rfl rfl (rexec_prim C (δ := { v := .pv (.lit (.int .i64 (w i1))) }) rfl rfl rfl rfl trivial rfl ?_)
        refine rvc_open rfl rfl rfl (rexec_prim C (δ := { v := .pv (.lit (.bool (decide ((w i1) > 6)))) }) rfl rfl rfl rfl trivial rfl ?_)
        refine rvc_un (rexec_prim C (δ := { v := .pv (.lit (.bool (decide ((w i1) > 6)))) }) rfl rfl rfl rfl trivial rfl ?_)
        refine rvc_nil ?_
        refine Awp.cond (b := (decide ((w i1) > 6))) rfl (fun h12 => ?_) (fun h12 => ?_)
        ·
          replace hR := of_true h12 hR
          refine Awp.cons C (fun _ => .pure) (by kernel_rfl) ?_
          refine rvc_un (rexec_prim C (δ := { v := .pv (.lit (.int .i64 1)) }) rfl rfl rfl rfl trivial rfl ?_)
          refine rvc_nil ?_
          refine Awp.ret ?_
          subst hR
          exact ⟨.inl rfl, rfl⟩
        ·
          replace hR := of_false h12 hR
          refine Awp.skip ?_
          refine Awp.region C (fun _ => .pure) (by kernel_rfl) ?_
          refine rvc_un (rexec_prim C (δ := { v := .pv (.lit (.int .i64 (IntKind.i64.wrap ((i1 : Int) + 1)))) }) rfl rfl rfl rfl trivial rfl ?_)
          refine rvc_un (rexec_prim C (δ := { v := .pv (.lit (.int .i64 (IntKind.i64.wrap ((i1 : Int) + 1)))) }) rfl rfl rfl rfl trivial rfl ?_)
          refine rvc_nil ?_
          refine ⟨h9, (), ?_, ?_⟩
          · exact (by rw [show 3 - (i1 + 1) = k1 by omega]; exact hR)
          · exact ⟨fun b => b, WeakerR.ofL (Ks := []) hI ⟨⟨rfl, rfl⟩, ⟨lit_cast (wrap_i64 (by omega) (by omega)), rfl⟩, trivial⟩ (okH_nil) rfl⟩
    ·
      rw [show 3 - i1 = 0 by have := of_decide_eq_false h8; omega] at hR
      refine Awp.exit ?_
      refine Awp.cons C (fun _ => .pure) (by kernel_rfl) ?_
      refine rvc_un (rexec_prim C (δ := { v := .pv (.lit (.int .i64 0)) }) rfl rfl rfl rfl trivial rfl ?_)
      refine rvc_nil ?_
      refine Awp.ret ?_
      subst hR
      exact ⟨.inl rfl, rfl⟩
def lowOf (s : Int) : Int :=
  (bif (s == 0) then (-1) else (mLen (IntKind.u64.wrap ((bitI .and .u64 s (IntKind.u64.wrap (0 - s))) - 1))))
theorem lowOf_calls (s : Int)  : PCalls Try.prog 60 [.pv (.lit (.int .u64 s))] (.pv (.lit (.int .i64 (lowOf s)))) := by
  generalize hR : lowOf s = R
  refine PCalls.of_body tabOk Try.func60 rfl rfl rfl rfl rfl mixed fun E hP C hI => ?_
  refine Awp.cons C (fun _ => .pure) (by kernel_rfl) ?_
  refine rvc_un (rexec_prim C (δ := { v := .pv (.lit (.int .i64 0)) }) rfl rfl rfl rfl trivial rfl ?_)
  refine rvc_nil ?_
  refine Awp.seq ?_
  refine Awp.cons C (fun _ => .pure) (by kernel_rfl) ?_
  refine rvc_un (rexec_prim C (δ := { v := .pv (.lit (.int .u64 s)) }) rfl rfl rfl rfl trivial rfl ?_)
  refine rvc_un (rexec_prim C (δ := { v := .pv (.lit (.bool (s == 0))) }) rfl rfl rfl rfl trivial rfl ?_)
  refine rvc_nil ?_
  refine Awp.cond (b := (s == 0)) rfl (fun h1 => ?_) (fun h1 => ?_)
  ·
    replace hR := of_true h1 hR
    refine Awp.cons C (fun _ => .pure) (by kernel_rfl) ?_
    refine rvc_un (rexec_prim C (δ := { v := .pv (.lit (.int .i64 (-1))) }) rfl rfl rfl rfl trivial rfl ?_)
    refine rvc_nil ?_
    refine Awp.ret ?_
    subst hR
    exact ⟨.inl rfl, rfl⟩
  ·
    replace hR := of_false h1 hR
    refine Awp.skip ?_
    refine Awp.cons C (fun _ => .pure) (by kernel_rfl) ?_
    refine rvc_un (rexec_prim C (δ := { v := .pv (.lit (.int .u64 s)) }) rfl rfl rfl rfl trivial rfl ?_)
    refine rvc_un (rexec_prim C (δ := { v := .pv (.lit (.int .u64 s)) }) rfl rfl rfl rfl trivial rfl ?_)
    refine rvc_un (rexec_prim C (δ := { v := .pv (.lit (.int .u64 (IntKind.u64.wrap (0 - s)))) }) rfl rfl rfl rfl trivial rfl ?_)
    refine rvc_un (rexec_prim C (δ := { v := .pv (.lit (.int .u64 (bitI .and .u64 s (IntKind.u64.wrap (0 - s))))) }) rfl rfl rfl rfl trivial rfl ?_)
    refine rvc_un (rexec_prim C (δ := { v := .pv (.lit (.int .u64 (IntKind.u64.wrap ((bitI .and .u64 s (IntKind.u64.wrap (0 - s))) - 1)))) }) rfl rfl rfl rfl trivial rfl ?_)
    refine rvc_un (rexec_call hP C rfl rfl rfl (mLen_calls (IntKind.u64.wrap ((bitI .and .u64 s (IntKind.u64.wrap (0 - s))) - 1))) ?_)
    refine rvc_un (rexec_prim C (δ := { v := .pv (.lit (.int .i64 (mLen (IntKind.u64.wrap ((bitI .and .u64 s (IntKind.u64.wrap (0 - s))) - 1))))) }) rfl rfl rfl rfl trivial rfl ?_)
    refine rvc_nil ?_
    refine Awp.ret ?_
    subst hR
    exact ⟨.inl rfl, rfl⟩
def eqCmds_l0 (s2 : (Sl Command)) : List Command → Nat → Bool
  | [], _ => true
  | x :: xs, i => (bif (!((x.kind == (s2.D[(i : Int).toNat]!.kind)) && ((x.node == (s2.D[(i : Int).toNat]!.node)) && ((x.site == (s2.D[(i : Int).toNat]!.site)) && ((x.epoch == (s2.D[(i : Int).toNat]!.epoch)) && true))))) then false else eqCmds_l0 s2 xs (i + 1) )
def eqCmds (s1 : (Sl Command)) (s2 : (Sl Command)) : Bool :=
  (bif ((s1.D.length : Int) != (s2.D.length : Int)) then false else eqCmds_l0 s2 s1.D 0 )
theorem eqCmds_calls (s1 : (Sl Command)) (s2 : (Sl Command)) (hl1 : s1.D.length ≤ 1000000) : PCalls Try.prog 15 [sS (some s1.nil) eCommand s1.D, sS (some s2.nil) eCommand s2.D] (.pv (.lit (.bool (eqCmds s1 s2)))) := by
  generalize hR : eqCmds s1 s2 = R
  refine PCalls.of_body tabOk Try.func15 rfl rfl rfl rfl rfl mixed fun E hP C hI => ?_
  refine Awp.cons C (fun _ => .pure) (by kernel_rfl) ?_
  refine rvc_un (rexec_prim C (δ := { v := .pv (.lit (.bool false)) }) rfl rfl rfl rfl trivial rfl ?_)
  refine rvc_nil ?_
  refine Awp.seq ?_
  refine Awp.cons C (fun _ => .pure) (by kernel_rfl) ?_
  refine rvc_un (rexec_prim C (δ := { v := sS (some s1.nil) eCommand s1.D }) rfl rfl rfl rfl trivial rfl ?_)
  refine rvc_un (rexec_prim C (δ := { v := .pv (.lit (.int .i64 (s1.D.length : Int))) }) rfl rfl rfl rfl trivial rfl ?_)
  refine rvc_un (rexec_prim C (δ := { v := sS (some s2.nil) eCommand s2.D }) rfl rfl rfl rfl trivial rfl ?_)
  refine rvc_un (rexec_prim C (δ := { v := .pv (.lit (.int .i64 (s2.D.length : Int))) }) rfl rfl rfl rfl trivial rfl ?_)
  refine rvc_un (rexec_prim C (δ := { v := .pv (.lit (.bool ((s1.D.length : Int) != (s2.D.length : Int)))) }) rfl rfl rfl rfl trivial rfl ?_)
  refine rvc_nil ?_
  refine Awp.cond (b := ((s1.D.length : Int) != (s2.D.length : Int))) rfl (fun h1 => ?_) (fun h1 => ?_)
  ·
    replace hR := of_true h1 hR
    refine Awp.cons C (fun _ => .pure) (by kernel_rfl) ?_
    refine rvc_un (rexec_prim C (δ := { v := .pv (.lit (.bool false)) }) rfl rfl rfl rfl trivial rfl ?_)
    refine rvc_nil ?_
    refine Awp.ret ?_
    subst hR
    exact ⟨.inl rfl, rfl⟩
  ·
    replace hR := of_false h1 hR
    refine Awp.skip ?_
    refine Awp.seq ?_
    refine Awp.cons C (fun _ => .pure) (by kernel_rfl) ?_
    refine rvc_un (rexec_prim C (δ := { v := sS (some s1.nil) eCommand s1.D }) rfl rfl rfl rfl trivial rfl ?_)
    refine rvc_un (rexec_prim C (δ := { v := .pv (.lit (.int .i64 (s1.D.length : Int))) }) rfl rfl rfl rfl trivial rfl ?_)
    refine rvc_un (rexec_prim C (δ := { v := .pv (.lit (.int .i64 0)) }) rfl rfl rfl rfl trivial rfl ?_)
    refine rvc_nil ?_
    refine Awp.block ?_
    refine Awp.forR (σ := Unit) (s1.D.length) (fun i _v => [(0, sS (some s1.nil) eCommand s1.D), (1, sS (some s2.nil) eCommand s2.D), (12, .pv (.lit (.int .i64 (s1.D.length : Int)))), (13, .pv (.lit (.int .i64 (i : Int))))]) (fun i _v => []) [] (fun i _v => eqCmds_l0 s2 (s1.D.drop i) i  = R) () ?_ ?_ (fun i _v h2 hR => ?_)
    · exact hR
    · exact ⟨fun b => b, WeakerR.ofL (Ks := []) hI ⟨⟨rfl, rfl⟩, ⟨rfl, rfl⟩, ⟨rfl, rfl⟩, ⟨rfl, rfl⟩, trivial⟩ (okH_nil) rfl⟩
    refine Awp.cons C (fun _ => .pure) (by kernel_rfl) ?_
    refine rvc_un (rexec_prim C (δ := { v := .pv (.lit (.bool (decide ((i : Int) < (s1.D.length : Int))))) }) rfl rfl rfl rfl trivial rfl ?_)
    refine rvc_nil ?_
    refine Awp.seq ?_
    refine Awp.cond (b := (decide ((i : Int) < (s1.D.length : Int)))) rfl (fun h3 => ?_) (fun h3 => ?_)
    ·
      have h4 : i < s1.D.length := by have := of_decide_eq_true h3; omega
      obtain ⟨x, h5⟩ := getX h4
      rw [drop_at h5] at hR
      refine Awp.skip ?_
      refine Awp.seq ?_
      refine Awp.block ?_
      refine Awp.cons C (fun _ => .pure) (by kernel_rfl) ?_
      refine rvc_un (rexec_prim C (δ := { v := .pv (.lit (.int .i64 (i : Int))) }) rfl rfl rfl rfl trivial rfl ?_)
      refine rvc_un (rexec_prim C (δ := { v := .pv (.lit (.int .i64 (i : Int))) }) rfl rfl rfl rfl trivial rfl ?_)
      refine rvc_nil ?_
      refine Awp.cons C (fun _ => .pure) (by kernel_rfl) ?_
      refine rvc_un (rexec_prim C (δ := { v := sS (some s1.nil) eCommand s1.D }) rfl rfl rfl rfl trivial rfl ?_)
      refine rvc_un (rexec_prim C (δ := { v := .pv (.lit (.int .i64 (i : Int))) }) rfl rfl rfl rfl trivial rfl ?_)
      refine rvc_un (rexec_idxS C rfl rfl rfl rfl rfl rfl x (Int.natCast_nonneg _) h5 ?_)
      refine rvc_un (rexec_prim C (δ := { v := .agg [.pv (.lit (.int .i64 x.kind)), .pv (.lit (.int .i64 x.node)), .pv (.lit (.int .i64 x.site)), .pv (.lit (.int .i64 x.epoch))] }) rfl rfl rfl rfl trivial rfl ?_)
      refine rvc_un (rexec_prim C (δ := { v := sS (some s2.nil) eCommand s2.D }) rfl rfl rfl rfl trivial rfl ?_)
      refine rvc_un (rexec_prim C (δ := { v := .pv (.lit (.int .i64 (i : Int))) }) rfl rfl rfl rfl trivial rfl ?_)
      have h6 : s2.D[(i : Int).toNat]? = some s2.D[(i : Int).toNat]! := getE (by have := eq_of_bne_false h1; have := of_decide_eq_true h3; omega)
      refine rvc_un (rexec_idxS C rfl rfl rfl rfl rfl rfl (s2.D[(i : Int).toNat]!) (Int.natCast_nonneg _) h6 ?_)
      refine rvc_un (rexec_prim C (δ := { v := .agg [.pv (.lit (.int .i64 (s2.D[(i : Int).toNat]!.kind))), .pv (.lit (.int .i64 (s2.D[(i : Int).toNat]!.node))), .pv (.lit (.int .i64 (s2.D[(i : Int).toNat]!.site))), .pv (.lit (.int .i64 (s2.D[(i : Int).toNat]!.epoch)))] }) rfl rfl rfl rfl trivial rfl ?_)
      refine rvc_un (rexec_prim C (δ := { v := .pv (.lit (.bool (!((x.kind == (s2.D[(i : Int).toNat]!.kind)) && ((x.node == (s2.D[(i : Int).toNat]!.node)) && ((x.site == (s2.D[(i : Int).toNat]!.site)) && ((x.epoch == (s2.D[(i : Int).toNat]!.epoch)) && true))))))) }) rfl rfl rfl rfl trivial rfl ?_)
      refine rvc_nil ?_
      refine Awp.cond (b := (!((x.kind == (s2.D[(i : Int).toNat]!.kind)) && ((x.node == (s2.D[(i : Int).toNat]!.node)) && ((x.site == (s2.D[(i : Int).toNat]!.site)) && ((x.epoch == (s2.D[(i : Int).toNat]!.epoch)) && true)))))) rfl (fun h7 => ?_) (fun h7 => ?_)
      ·
        replace hR := of_true h7 hR
        refine Awp.cons C (fun _ => .pure) (by kernel_rfl) ?_
        refine rvc_un (rexec_prim C (δ := { v := .pv (.lit (.bool false)) }) rfl rfl rfl rfl trivial rfl ?_)
        refine rvc_nil ?_
        refine Awp.ret ?_
        subst hR
        exact ⟨.inl rfl, rfl⟩
      ·
        replace hR := of_false h7 hR
        refine Awp.skip ?_
        refine Awp.region C (fun _ => .pure) (by kernel_rfl) ?_
        refine rvc_un (rexec_prim C (δ := { v := .pv (.lit (.int .i64 (IntKind.i64.wrap ((i : Int) + 1)))) }) rfl rfl rfl rfl trivial rfl ?_)
        refine rvc_un (rexec_prim C (δ := { v := .pv (.lit (.int .i64 (IntKind.i64.wrap ((i : Int) + 1)))) }) rfl rfl rfl rfl trivial rfl ?_)
        refine rvc_nil ?_
        refine ⟨h4, (), ?_, ?_⟩
        · exact hR
        · exact ⟨fun b => b, WeakerR.ofL (Ks := []) hI ⟨⟨rfl, rfl⟩, ⟨rfl, rfl⟩, ⟨rfl, rfl⟩, ⟨lit_cast (wrap_i64 (by omega) (by omega)), rfl⟩, trivial⟩ (okH_nil) rfl⟩
    ·
      have h4 : ¬ i < s1.D.length := by have := of_decide_eq_false h3; omega
      rw [drop_end h4] at hR
      refine Awp.exit ?_
      refine Awp.cons C (fun _ => .pure) (by kernel_rfl) ?_
      refine rvc_un (rexec_prim C (δ := { v := .pv (.lit (.bool true)) }) rfl rfl rfl rfl trivial rfl ?_)
      refine rvc_nil ?_
      refine Awp.ret ?_
      subst hR
      exact ⟨.inl rfl, rfl⟩
def may (c : Chain) (k : Command) : Bool :=
  (bif (k.kind == 1) then (((drop c k.node).2) == 0) else (bif (k.kind == 2) then (((join c (Member.mk k.node k.site false)).2) == 0) else false))
theorem may_calls (c : Chain) (k : Command) (hn : c.members.nil = true → c.members.D = []) (hl1 : c.members.D.length ≤ 1000000) : PCalls Try.prog 61 [.agg [.pv (.lit (.int .i64 c.epoch)), sS (some c.members.nil) eMember c.members.D], .agg [.pv (.lit (.int .i64 k.kind)), .pv (.lit (.int .i64 k.node)), .pv (.lit (.int .i64 k.site)), .pv (.lit (.int .i64 k.epoch))]] (.pv (.lit (.bool (may c k)))) := by
  generalize hR : may c k = R
  refine PCalls.of_body tabOk Try.func61 rfl rfl rfl rfl rfl mixed fun E hP C hI => ?_
  refine Awp.cons C (fun _ => .pure) (by kernel_rfl) ?_
  refine rvc_un (rexec_prim C (δ := { v := .ptr 2 0, new := [(2, .cells [.pv (.lit (.int .i64 c.epoch)), sS (some c.members.nil) eMember c.members.D])] }) rfl rfl rfl rfl trivial rfl ?_)
  refine rvc_un (rexec_prim C (δ := { v := .ptr 3 0, new := [(3, .cells [.pv (.lit (.int .i64 k.kind)), .pv (.lit (.int .i64 k.node)), .pv (.lit (.int .i64 k.site)), .pv (.lit (.int .i64 k.epoch))])] }) rfl rfl rfl rfl trivial rfl ?_)
  refine rvc_un (rexec_prim C (δ := { v := .pv (.lit (.bool false)) }) rfl rfl rfl rfl trivial rfl ?_)
  refine rvc_nil ?_
  refine Awp.seq ?_
  refine Awp.cons C (fun _ => .pure) (by kernel_rfl) ?_
  refine rvc_un (rexec_prim C (δ := { v := .ptr 3 0 }) rfl rfl rfl rfl trivial rfl ?_)
  refine rvc_un (rexec_prim C (δ := { v := .pv (.lit (.int .i64 k.kind)) }) rfl rfl rfl rfl trivial rfl ?_)
  refine rvc_nil ?_
  refine Awp.block ?_
  refine Awp.cons C (fun _ => .pure) (by kernel_rfl) ?_
  refine rvc_un (rexec_prim C (δ := { v := .pv (.lit (.bool (k.kind == 1))) }) rfl rfl rfl rfl trivial rfl ?_)
  refine rvc_un (rexec_prim C (δ := { v := .pv (.lit (.bool (k.kind == 1))) }) rfl rfl rfl rfl trivial rfl ?_)
  refine rvc_nil ?_
  refine Awp.cond (b := (k.kind == 1)) rfl (fun h1 => ?_) (fun h1 => ?_)
  ·
    replace hR := of_true h1 hR
    refine Awp.cons C (fun _ => .pure) (by kernel_rfl) ?_
    refine rvc_un (rexec_prim C (δ := { v := .agg [.pv (.lit (.int .i64 c.epoch)), sS (some c.members.nil) eMember c.members.D] }) rfl rfl rfl rfl trivial rfl ?_)
    refine rvc_un (rexec_prim C (δ := { v := .ptr 3 1 }) rfl rfl rfl rfl trivial rfl ?_)
    refine rvc_un (rexec_prim C (δ := { v := .pv (.lit (.int .i64 k.node)) }) rfl rfl rfl rfl trivial rfl ?_)
    refine rvc_un (rexec_call hP C rfl rfl rfl (drop_calls c k.node hl1) ?_)
    refine rvc_un (rexec_prim C (δ := { v := .tup [.agg [.pv (.lit (.int .i64 ((drop c k.node).1.epoch))), sS (some (drop c k.node).1.members.nil) eMember ((drop c k.node).1.members.D)], .pv (.lit (.int .i64 ((drop c k.node).2)))] }) rfl rfl rfl rfl trivial rfl ?_)
    refine rvc_un (rexec_prim C (δ := { v := .agg [.pv (.lit (.int .i64 ((drop c k.node).1.epoch))), sS (some (drop c k.node).1.members.nil) eMember ((drop c k.node).1.members.D)] }) rfl rfl rfl rfl trivial rfl ?_)
    refine rvc_un (rexec_prim C (δ := { v := .pv (.lit (.int .i64 ((drop c k.node).2))) }) rfl rfl rfl rfl trivial rfl ?_)
    refine rvc_un (rexec_prim C (δ := { v := .ptr 5 0, new := [(5, .cells [.pv (.lit (.int .i64 0)), sS (some true) eMember []])] }) rfl rfl rfl rfl trivial rfl ?_)
    refine rvc_un (rexec_prim C (δ := { v := .undef, wr := [(5, some (.cells [.pv (.lit (.int .i64 ((drop c k.node).1.epoch))), sS (some (drop c k.node).1.members.nil) eMember ((drop c k.node).1.members.D)]))] }) rfl rfl rfl rfl trivial rfl ?_)
    refine rvc_un (rexec_prim C (δ := { v := .pv (.lit (.int .i64 ((drop c k.node).2))) }) rfl rfl rfl rfl trivial rfl ?_)
    refine rvc_nil ?_
    refine Awp.cons C (fun _ => .pure) (by kernel_rfl) ?_
    refine rvc_un (rexec_prim C (δ := { v := .pv (.lit (.int .i64 ((drop c k.node).2))) }) rfl rfl rfl rfl trivial rfl ?_)
    refine rvc_un (rexec_prim C (δ := { v := .pv (.lit (.bool (((drop c k.node).2) == 0))) }) rfl rfl rfl rfl trivial rfl ?_)
    refine rvc_un (rexec_prim C (δ := { v := .pv (.lit (.bool (((drop c k.node).2) == 0))) }) rfl rfl rfl rfl trivial rfl ?_)
    refine rvc_nil ?_
    refine Awp.ret ?_
    subst hR
    exact ⟨.inl rfl, rfl⟩
  ·
    replace hR := of_false h1 hR
    refine Awp.cons C (fun _ => .pure) (by kernel_rfl) ?_
    refine rvc_un (rexec_prim C (δ := { v := .pv (.lit (.bool (k.kind == 2))) }) rfl rfl rfl rfl trivial rfl ?_)
    refine rvc_un (rexec_prim C (δ := { v := .pv (.lit (.bool (k.kind == 2))) }) rfl rfl rfl rfl trivial rfl ?_)
    refine rvc_nil ?_
    refine Awp.cond (b := (k.kind == 2)) rfl (fun h2 => ?_) (fun h2 => ?_)
    ·
      replace hR := of_true h2 hR
      refine Awp.cons C (fun _ => .pure) (by kernel_rfl) ?_
      refine rvc_un (rexec_prim C (δ := { v := .agg [.pv (.lit (.int .i64 c.epoch)), sS (some c.members.nil) eMember c.members.D] }) rfl rfl rfl rfl trivial rfl ?_)
      refine rvc_un (rexec_prim C (δ := { v := .ptr 3 1 }) rfl rfl rfl rfl trivial rfl ?_)
      refine rvc_un (rexec_prim C (δ := { v := .pv (.lit (.int .i64 k.node)) }) rfl rfl rfl rfl trivial rfl ?_)
      refine rvc_un (rexec_prim C (δ := { v := .ptr 3 2 }) rfl rfl rfl rfl trivial rfl ?_)
      refine rvc_un (rexec_prim C (δ := { v := .pv (.lit (.int .i64 k.site)) }) rfl rfl rfl rfl trivial rfl ?_)
      refine rvc_un (rexec_prim C (δ := { v := .agg [.pv (.lit (.int .i64 k.node)), .pv (.lit (.int .i64 k.site)), .pv (.lit (.bool false))] }) rfl rfl rfl rfl trivial rfl ?_)
      refine rvc_un (rexec_call hP C rfl rfl rfl (join_calls c (Member.mk k.node k.site false) hn hl1) ?_)
      refine rvc_un (rexec_prim C (δ := { v := .tup [.agg [.pv (.lit (.int .i64 ((join c (Member.mk k.node k.site false)).1.epoch))), sS (some (join c (Member.mk k.node k.site false)).1.members.nil) eMember ((join c (Member.mk k.node k.site false)).1.members.D)], .pv (.lit (.int .i64 ((join c (Member.mk k.node k.site false)).2)))] }) rfl rfl rfl rfl trivial rfl ?_)
      refine rvc_un (rexec_prim C (δ := { v := .agg [.pv (.lit (.int .i64 ((join c (Member.mk k.node k.site false)).1.epoch))), sS (some (join c (Member.mk k.node k.site false)).1.members.nil) eMember ((join c (Member.mk k.node k.site false)).1.members.D)] }) rfl rfl rfl rfl trivial rfl ?_)
      refine rvc_un (rexec_prim C (δ := { v := .pv (.lit (.int .i64 ((join c (Member.mk k.node k.site false)).2))) }) rfl rfl rfl rfl trivial rfl ?_)
      refine rvc_un (rexec_prim C (δ := { v := .ptr 7 0, new := [(7, .cells [.pv (.lit (.int .i64 0)), sS (some true) eMember []])] }) rfl rfl rfl rfl trivial rfl ?_)
      refine rvc_un (rexec_prim C (δ := { v := .undef, wr := [(7, some (.cells [.pv (.lit (.int .i64 ((join c (Member.mk k.node k.site false)).1.epoch))), sS (some (join c (Member.mk k.node k.site false)).1.members.nil) eMember ((join c (Member.mk k.node k.site false)).1.members.D)]))] }) rfl rfl rfl rfl trivial rfl ?_)
      refine rvc_un (rexec_prim C (δ := { v := .pv (.lit (.int .i64 ((join c (Member.mk k.node k.site false)).2))) }) rfl rfl rfl rfl trivial rfl ?_)
      refine rvc_nil ?_
      refine Awp.cons C (fun _ => .pure) (by kernel_rfl) ?_
      refine rvc_un (rexec_prim C (δ := { v := .pv (.lit (.int .i64 ((join c (Member.mk k.node k.site false)).2))) }) rfl rfl rfl rfl trivial rfl ?_)
      refine rvc_un (rexec_prim C (δ := { v := .pv (.lit (.bool (((join c (Member.mk k.node k.site false)).2) == 0))) }) rfl rfl rfl rfl trivial rfl ?_)
      refine rvc_un (rexec_prim C (δ := { v := .pv (.lit (.bool (((join c (Member.mk k.node k.site false)).2) == 0))) }) rfl rfl rfl rfl trivial rfl ?_)
      refine rvc_nil ?_
      refine Awp.ret ?_
      subst hR
      exact ⟨.inl rfl, rfl⟩
    ·
      replace hR := of_false h2 hR
      refine Awp.skip ?_
      refine Awp.cons C (fun _ => .pure) (by kernel_rfl) ?_
      refine rvc_un (rexec_prim C (δ := { v := .pv (.lit (.bool false)) }) rfl rfl rfl rfl trivial rfl ?_)
      refine rvc_nil ?_
      refine Awp.ret ?_
      subst hR
      exact ⟨.inl rfl, rfl⟩
end Go.Proofs.Ytaffaalpgpepeaa
