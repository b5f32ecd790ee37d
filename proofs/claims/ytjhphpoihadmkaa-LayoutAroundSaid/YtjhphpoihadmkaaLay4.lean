/- Laws of places and sets. No conditions. -/
import Derived.Test.YtjhphpoihadmkaaLay3
import Derived.Test.YtjhphpoihadmkaaLay2b
namespace Go.Proofs.Ytjhphpoihadmkaa
open Go.Am
def lawPlaces (c : Chain) (node : Int) : Bool :=
  (bif (decide ((c.members.D.length : Int) > 60)) then (awake ) else (bif ((place0 c node) == (rPlace c node)) then (bif ((nextC c node) == (rOff c node 1)) then (bif ((backC c node) == (rOff c node (-1))) then (bif ((headC c) == (rEnd c 0)) then (bif ((tailC c) == (rEnd c 1)) then (awake ) else false) else false) else false) else false) else false))
theorem lawPlaces_calls (c : Chain) (node : Int) (hl1 : c.members.D.length ≤ 1000000) : PCalls Try.prog 4 [.agg [.pv (.lit (.int .i64 c.epoch)), sS (some c.members.nil) eMember c.members.D], .pv (.lit (.int .i64 node))] (.pv (.lit (.bool (lawPlaces c node)))) := by
  generalize hR : lawPlaces c node = R
  refine PCalls.of_body tabOk Try.func4 rfl rfl rfl rfl rfl mixed fun E hP C hI => ?_
  refine Awp.cons C (fun _ => .pure) (by kernel_rfl) ?_ -- region 0
  refine rvc_un (rexec_prim C (δ := { v := .ptr 2 0, new := [(2, .cells [.pv (.lit (.int .i64 c.epoch)), sS (some c.members.nil) eMember c.members.D])] }) rfl rfl rfl rfl trivial rfl ?_) -- t2 box
  refine rvc_un (rexec_prim C (δ := { v := .pv (.lit (.bool false)) }) rfl rfl rfl rfl trivial rfl ?_) -- t4 assign
  refine rvc_nil ?_
  refine Awp.seq ?_
  refine Awp.cons C (fun _ => .pure) (by kernel_rfl) ?_ -- region 1
  refine rvc_un (rexec_prim C (δ := { v := .ptr 2 1 }) rfl rfl rfl rfl trivial rfl ?_) -- t5 fieldAddr
  refine rvc_un (rexec_prim C (δ := { v := sS (some c.members.nil) eMember c.members.D }) rfl rfl rfl rfl trivial rfl ?_) -- t6 load
  refine rvc_un (rexec_prim C (δ := { v := .pv (.lit (.int .i64 (c.members.D.length : Int))) }) rfl rfl rfl rfl trivial rfl ?_) -- t7 call
  refine rvc_un (rexec_prim C (δ := { v := .pv (.lit (.bool (decide ((c.members.D.length : Int) > 60)))) }) rfl rfl rfl rfl trivial rfl ?_) -- t8 binOp
  refine rvc_nil ?_
  refine Awp.cond (b := (decide ((c.members.D.length : Int) > 60))) rfl (fun h1 => ?_) (fun h1 => ?_)
  ·
    replace hR := of_true h1 hR
    refine Awp.cons C (fun _ => .pure) (by kernel_rfl) ?_ -- region 2
    refine rvc_un (rexec_call hP C rfl rfl rfl (awake_calls ) ?_) -- t9 call
    refine rvc_un (rexec_prim C (δ := { v := .pv (.lit (.bool (awake ))) }) rfl rfl rfl rfl trivial rfl ?_) -- t4 assign
    refine rvc_nil ?_
    refine Awp.ret ?_
    subst hR
    exact ⟨.inl rfl, rfl⟩
  ·
    replace hR := of_false h1 hR
    refine Awp.skip ?_
    refine Awp.cons C (fun _ => .pure) (by kernel_rfl) ?_ -- region 3
    refine rvc_un (rexec_prim C (δ := { v := .agg [.pv (.lit (.int .i64 c.epoch)), sS (some c.members.nil) eMember c.members.D] }) rfl rfl rfl rfl trivial rfl ?_) -- t10 load
    refine rvc_un (rexec_prim C (δ := { v := .pv (.lit (.int .i64 node)) }) rfl rfl rfl rfl trivial rfl ?_) -- t11 move
    refine rvc_un (rexec_call hP C rfl rfl rfl (place0_calls c node (Nat.le_trans hl1 (by decide))) ?_) -- t12 call
    refine rvc_un (rexec_prim C (δ := { v := .agg [.pv (.lit (.int .i64 c.epoch)), sS (some c.members.nil) eMember c.members.D] }) rfl rfl rfl rfl trivial rfl ?_) -- t13 load
    refine rvc_un (rexec_prim C (δ := { v := .pv (.lit (.int .i64 node)) }) rfl rfl rfl rfl trivial rfl ?_) -- t14 move
    refine rvc_un (rexec_call hP C rfl rfl rfl (rPlace_calls c node (Nat.le_trans hl1 (by decide))) ?_) -- t15 call
    refine rvc_un (rexec_prim C (δ := { v := .pv (.lit (.bool ((place0 c node) == (rPlace c node)))) }) rfl rfl rfl rfl trivial rfl ?_) -- t16 binOp
    refine rvc_un (rexec_prim C (δ := { v := .pv (.lit (.bool ((place0 c node) == (rPlace c node)))) }) rfl rfl rfl rfl trivial rfl ?_) -- t17 move
    refine rvc_case 17 ((place0 c node) == (rPlace c node)) rfl (fun h2 => ?_) (fun h2 => ?_)
    ·
      replace hR := of_true h2 hR
      refine rvc_open rfl rfl rfl (rexec_prim C (δ := { v := .agg [.pv (.lit (.int .i64 c.epoch)), sS (some c.members.nil) eMember c.members.D] }) rfl rfl rfl rfl trivial rfl ?_) -- t18 load
      refine rvc_open rfl rfl rfl (rexec_prim C (δ := { v := .pv (.lit (.int .i64 node)) }) rfl rfl rfl rfl trivial rfl ?_) -- t19 move
      refine rvc_open rfl rfl rfl (rexec_call hP C rfl rfl rfl (nextC_calls c node hl1) ?_) -- t20 call
      refine rvc_open rfl rfl rfl (rexec_prim C (δ := { v := .agg [.pv (.lit (.int .i64 c.epoch)), sS (some c.members.nil) eMember c.members.D] }) rfl rfl rfl rfl trivial rfl ?_) -- t21 load
      refine rvc_open rfl rfl rfl (rexec_prim C (δ := { v := .pv (.lit (.int .i64 node)) }) rfl rfl rfl rfl trivial rfl ?_) -- t22 move
      refine rvc_open rfl rfl rfl (rexec_call hP C rfl rfl rfl (rOff_calls c node 1 hl1) ?_) -- t23 call
      refine rvc_open rfl rfl rfl (rexec_prim C (δ := { v := .pv (.lit (.bool ((nextC c node) == (rOff c node 1)))) }) rfl rfl rfl rfl trivial rfl ?_) -- t24 binOp
      refine rvc_un (rexec_prim C (δ := { v := .pv (.lit (.bool ((nextC c node) == (rOff c node 1)))) }) rfl rfl rfl rfl trivial rfl ?_) -- t25 pick
      refine rvc_un (rexec_prim C (δ := { v := .pv (.lit (.bool ((nextC c node) == (rOff c node 1)))) }) rfl rfl rfl rfl trivial rfl ?_) -- t26 move
      refine rvc_case 26 ((nextC c node) == (rOff c node 1)) rfl (fun h3 => ?_) (fun h3 => ?_)
      ·
        replace hR := of_true h3 hR
        refine rvc_open rfl rfl rfl (rexec_prim C (δ := { v := .agg [.pv (.lit (.int .i64 c.epoch)), sS (some c.members.nil) eMember c.members.D] }) rfl rfl rfl rfl trivial rfl ?_) -- t27 load
        refine rvc_open rfl rfl rfl (rexec_prim C (δ := { v := .pv (.lit (.int .i64 node)) }) rfl rfl rfl rfl trivial rfl ?_) -- t28 move
        refine rvc_open rfl rfl rfl (rexec_call hP C rfl rfl rfl (backC_calls c node hl1) ?_) -- t29 call
        refine rvc_open rfl rfl rfl (rexec_prim C (δ := { v := .agg [.pv (.lit (.int .i64 c.epoch)), sS (some c.members.nil) eMember c.members.D] }) rfl rfl rfl rfl trivial rfl ?_) -- t30 load
        refine rvc_open rfl rfl rfl (rexec_prim C (δ := { v := .pv (.lit (.int .i64 node)) }) rfl rfl rfl rfl trivial rfl ?_) -- t31 move
        refine rvc_open rfl rfl rfl (rexec_call hP C rfl rfl rfl (rOff_calls c node (-1) hl1) ?_) -- t32 call
        refine rvc_open rfl rfl rfl (rexec_prim C (δ := { v := .pv (.lit (.bool ((backC c node) == (rOff c node (-1))))) }) rfl rfl rfl rfl trivial rfl ?_) -- t33 binOp
        refine rvc_un (rexec_prim C (δ := { v := .pv (.lit (.bool ((backC c node) == (rOff c node (-1))))) }) rfl rfl rfl rfl trivial rfl ?_) -- t34 pick
        refine rvc_un (rexec_prim C (δ := { v := .pv (.lit (.bool ((backC c node) == (rOff c node (-1))))) }) rfl rfl rfl rfl trivial rfl ?_) -- t35 move
        refine rvc_case 35 ((backC c node) == (rOff c node (-1))) rfl (fun h4 => ?_) (fun h4 => ?_)
        ·
          replace hR := of_true h4 hR
          refine rvc_open rfl rfl rfl (rexec_prim C (δ := { v := .agg [.pv (.lit (.int .i64 c.epoch)), sS (some c.members.nil) eMember c.members.D] }) rfl rfl rfl rfl trivial rfl ?_) -- t36 load
          refine rvc_open rfl rfl rfl (rexec_call hP C rfl rfl rfl (headC_calls c (Nat.le_trans hl1 (by decide))) ?_) -- t37 call
          refine rvc_open rfl rfl rfl (rexec_prim C (δ := { v := .agg [.pv (.lit (.int .i64 c.epoch)), sS (some c.members.nil) eMember c.members.D] }) rfl rfl rfl rfl trivial rfl ?_) -- t38 load
          refine rvc_open rfl rfl rfl (rexec_call hP C rfl rfl rfl (rEnd_calls c 0 (by have := place0_lt c node; have := rPlace_lt c node; have := of_decide_eq_false h1; have := beq_iff_eq.1 h2; have := beq_iff_eq.1 h3; have := beq_iff_eq.1 h4; omega) (Nat.le_trans hl1 (by decide))) ?_) -- t39 call
          refine rvc_open rfl rfl rfl (rexec_prim C (δ := { v := .pv (.lit (.bool ((headC c) == (rEnd c 0)))) }) rfl rfl rfl rfl trivial rfl ?_) -- t40 binOp
          refine rvc_un (rexec_prim C (δ := { v := .pv (.lit (.bool ((headC c) == (rEnd c 0)))) }) rfl rfl rfl rfl trivial rfl ?_) -- t41 pick
          refine rvc_un (rexec_prim C (δ := { v := .pv (.lit (.bool ((headC c) == (rEnd c 0)))) }) rfl rfl rfl rfl trivial rfl ?_) -- t42 move
          refine rvc_case 42 ((headC c) == (rEnd c 0)) rfl (fun h5 => ?_) (fun h5 => ?_)
          ·
            replace hR := of_true h5 hR
            refine rvc_open rfl rfl rfl (rexec_prim C (δ := { v := .agg [.pv (.lit (.int .i64 c.epoch)), sS (some c.members.nil) eMember c.members.D] }) rfl rfl rfl rfl trivial rfl ?_) -- t43 load
            refine rvc_open rfl rfl rfl (rexec_call hP C rfl rfl rfl (tailC_calls c (Nat.le_trans hl1 (by decide))) ?_) -- t44 call
            refine rvc_open rfl rfl rfl (rexec_prim C (δ := { v := .agg [.pv (.lit (.int .i64 c.epoch)), sS (some c.members.nil) eMember c.members.D] }) rfl rfl rfl rfl trivial rfl ?_) -- t45 load
            refine rvc_open rfl rfl rfl (rexec_call hP C rfl rfl rfl (rEnd_calls c 1 (by have := place0_lt c node; have := rPlace_lt c node; have := of_decide_eq_false h1; have := beq_iff_eq.1 h2; have := beq_iff_eq.1 h3; have := beq_iff_eq.1 h4; have := beq_iff_eq.1 h5; omega) (Nat.le_trans hl1 (by decide))) ?_) -- t46 call
            refine rvc_open rfl rfl rfl (rexec_prim C (δ := { v := .pv (.lit (.bool ((tailC c) == (rEnd c 1)))) }) rfl rfl rfl rfl trivial rfl ?_) -- t47 binOp
            refine rvc_un (rexec_prim C (δ := { v := .pv (.lit (.bool ((tailC c) == (rEnd c 1)))) }) rfl rfl rfl rfl trivial rfl ?_) -- t48 pick
            refine rvc_un (rexec_prim C (δ := { v := .pv (.lit (.bool ((tailC c) == (rEnd c 1)))) }) rfl rfl rfl rfl trivial rfl ?_) -- t49 move
            refine rvc_case 49 ((tailC c) == (rEnd c 1)) rfl (fun h6 => ?_) (fun h6 => ?_)
            ·
              replace hR := of_true h6 hR
              refine rvc_open rfl rfl rfl (rexec_call hP C rfl rfl rfl (awake_calls ) ?_) -- t50 call
              refine rvc_un (rexec_prim C (δ := { v := .pv (.lit (.bool (awake ))) }) rfl rfl rfl rfl trivial rfl ?_) -- t51 pick
              refine rvc_un (rexec_prim C (δ := { v := .pv (.lit (.bool (awake ))) }) rfl rfl rfl rfl trivial rfl ?_) -- t4 assign
              refine rvc_nil ?_
              refine Awp.ret ?_
              subst hR
              exact ⟨.inl rfl, rfl⟩
            ·
              replace hR := of_false h6 hR
              refine rvc_shut rfl rfl rfl rfl ?_ -- t50
              refine rvc_un (rexec_prim C (δ := { v := .pv (.lit (.bool false)) }) rfl rfl rfl rfl trivial rfl ?_) -- t51 pick
              refine rvc_un (rexec_prim C (δ := { v := .pv (.lit (.bool false)) }) rfl rfl rfl rfl trivial rfl ?_) -- t4 assign
              refine rvc_nil ?_
              refine Awp.ret ?_
              subst hR
              exact ⟨.inl rfl, rfl⟩
          ·
            replace hR := of_false h5 hR
            refine rvc_shut rfl rfl rfl rfl ?_ -- t43
            refine rvc_shut rfl rfl rfl rfl ?_ -- t44
            refine rvc_shut rfl rfl rfl rfl ?_ -- t45
            refine rvc_shut rfl rfl rfl rfl ?_ -- t46
            refine rvc_shut rfl rfl rfl rfl ?_ -- t47
            refine rvc_un (rexec_prim C (δ := { v := .pv (.lit (.bool false)) }) rfl rfl rfl rfl trivial rfl ?_) -- t48 pick
            refine rvc_un (rexec_prim C (δ := { v := .pv (.lit (.bool false)) }) rfl rfl rfl rfl trivial rfl ?_) -- t49 move
            refine rvc_shut rfl rfl rfl rfl ?_ -- t50
            refine rvc_un (rexec_prim C (δ := { v := .pv (.lit (.bool false)) }) rfl rfl rfl rfl trivial rfl ?_) -- t51 pick
            refine rvc_un (rexec_prim C (δ := { v := .pv (.lit (.bool false)) }) rfl rfl rfl rfl trivial rfl ?_) -- t4 assign
            refine rvc_nil ?_
            refine Awp.ret ?_
            subst hR
            exact ⟨.inl rfl, rfl⟩
        ·
          replace hR := of_false h4 hR
          refine rvc_shut rfl rfl rfl rfl ?_ -- t36
          refine rvc_shut rfl rfl rfl rfl ?_ -- t37
          refine rvc_shut rfl rfl rfl rfl ?_ -- t38
          refine rvc_shut rfl rfl rfl rfl ?_ -- t39
          refine rvc_shut rfl rfl rfl rfl ?_ -- t40
          refine rvc_un (rexec_prim C (δ := { v := .pv (.lit (.bool false)) }) rfl rfl rfl rfl trivial rfl ?_) -- t41 pick
          refine rvc_un (rexec_prim C (δ := { v := .pv (.lit (.bool false)) }) rfl rfl rfl rfl trivial rfl ?_) -- t42 move
          refine rvc_shut rfl rfl rfl rfl ?_ -- t43
          refine rvc_shut rfl rfl rfl rfl ?_ -- t44
          refine rvc_shut rfl rfl rfl rfl ?_ -- t45
          refine rvc_shut rfl rfl rfl rfl ?_ -- t46
          refine rvc_shut rfl rfl rfl rfl ?_ -- t47
          refine rvc_un (rexec_prim C (δ := { v := .pv (.lit (.bool false)) }) rfl rfl rfl rfl trivial rfl ?_) -- t48 pick
          refine rvc_un (rexec_prim C (δ := { v := .pv (.lit (.bool false)) }) rfl rfl rfl rfl trivial rfl ?_) -- t49 move
          refine rvc_shut rfl rfl rfl rfl ?_ -- t50
          refine rvc_un (rexec_prim C (δ := { v := .pv (.lit (.bool false)) }) rfl rfl rfl rfl trivial rfl ?_) -- t51 pick
          refine rvc_un (rexec_prim C (δ := { v := .pv (.lit (.bool false)) }) rfl rfl rfl rfl trivial rfl ?_) -- t4 assign
          refine rvc_nil ?_
          refine Awp.ret ?_
          subst hR
          exact ⟨.inl rfl, rfl⟩
      ·
        replace hR := of_false h3 hR
        refine rvc_shut rfl rfl rfl rfl ?_ -- t27
        refine rvc_shut rfl rfl rfl rfl ?_ -- t28
        refine rvc_shut rfl rfl rfl rfl ?_ -- t29
        refine rvc_shut rfl rfl rfl rfl ?_ -- t30
        refine rvc_shut rfl rfl rfl rfl ?_ -- t31
        refine rvc_shut rfl rfl rfl rfl ?_ -- t32
        refine rvc_shut rfl rfl rfl rfl ?_ -- t33
        refine rvc_un (rexec_prim C (δ := { v := .pv (.lit (.bool false)) }) rfl rfl rfl rfl trivial rfl ?_) -- t34 pick
        refine rvc_un (rexec_prim C (δ := { v := .pv (.lit (.bool false)) }) rfl rfl rfl rfl trivial rfl ?_) -- t35 move
        refine rvc_shut rfl rfl rfl rfl ?_ -- t36
        refine rvc_shut rfl rfl rfl rfl ?_ -- t37
        refine rvc_shut rfl rfl rfl rfl ?_ -- t38
        refine rvc_shut rfl rfl rfl rfl ?_ -- t39
        refine rvc_shut rfl rfl rfl rfl ?_ -- t40
        refine rvc_un (rexec_prim C (δ := { v := .pv (.lit (.bool false)) }) rfl rfl rfl rfl trivial rfl ?_) -- t41 pick
        refine rvc_un (rexec_prim C (δ := { v := .pv (.lit (.bool false)) }) rfl rfl rfl rfl trivial rfl ?_) -- t42 move
        refine rvc_shut rfl rfl rfl rfl ?_ -- t43
        refine rvc_shut rfl rfl rfl rfl ?_ -- t44
        refine rvc_shut rfl rfl rfl rfl ?_ -- t45
        refine rvc_shut rfl rfl rfl rfl ?_ -- t46
        refine rvc_shut rfl rfl rfl rfl ?_ -- t47
        refine rvc_un (rexec_prim C (δ := { v := .pv (.lit (.bool false)) }) rfl rfl rfl rfl trivial rfl ?_) -- t48 pick
        refine rvc_un (rexec_prim C (δ := { v := .pv (.lit (.bool false)) }) rfl rfl rfl rfl trivial rfl ?_) -- t49 move
        refine rvc_shut rfl rfl rfl rfl ?_ -- t50
        refine rvc_un (rexec_prim C (δ := { v := .pv (.lit (.bool false)) }) rfl rfl rfl rfl trivial rfl ?_) -- t51 pick
        refine rvc_un (rexec_prim C (δ := { v := .pv (.lit (.bool false)) }) rfl rfl rfl rfl trivial rfl ?_) -- t4 assign
        refine rvc_nil ?_
        refine Awp.ret ?_
        subst hR
        exact ⟨.inl rfl, rfl⟩
    ·
      replace hR := of_false h2 hR
      refine rvc_shut rfl rfl rfl rfl ?_ -- t18
      refine rvc_shut rfl rfl rfl rfl ?_ -- t19
      refine rvc_shut rfl rfl rfl rfl ?_ -- t20
      refine rvc_shut rfl rfl rfl rfl ?_ -- t21
      refine rvc_shut rfl rfl rfl rfl ?_ -- t22
      refine rvc_shut rfl rfl rfl rfl ?_ -- t23
      refine rvc_shut rfl rfl rfl rfl ?_ -- t24
      refine rvc_un (rexec_prim C (δ := { v := .pv (.lit (.bool false)) }) rfl rfl rfl rfl trivial rfl ?_) -- t25 pick
      refine rvc_un (rexec_prim C (δ := { v := .pv (.lit (.bool false)) }) rfl rfl rfl rfl trivial rfl ?_) -- t26 move
      refine rvc_shut rfl rfl rfl rfl ?_ -- t27
      refine rvc_shut rfl rfl rfl rfl ?_ -- t28
      refine rvc_shut rfl rfl rfl rfl ?_ -- t29
      refine rvc_shut rfl rfl rfl rfl ?_ -- t30
      refine rvc_shut rfl rfl rfl rfl ?_ -- t31
      refine rvc_shut rfl rfl rfl rfl ?_ -- t32
      refine rvc_shut rfl rfl rfl rfl ?_ -- t33
      refine rvc_un (rexec_prim C (δ := { v := .pv (.lit (.bool false)) }) rfl rfl rfl rfl trivial rfl ?_) -- t34 pick
      refine rvc_un (rexec_prim C (δ := { v := .pv (.lit (.bool false)) }) rfl rfl rfl rfl trivial rfl ?_) -- t35 move
      refine rvc_shut rfl rfl rfl rfl ?_ -- t36
      refine rvc_shut rfl rfl rfl rfl ?_ -- t37
      refine rvc_shut rfl rfl rfl rfl ?_ -- t38
      refine rvc_shut rfl rfl rfl rfl ?_ -- t39
      refine rvc_shut rfl rfl rfl rfl ?_ -- t40
      refine rvc_un (rexec_prim C (δ := { v := .pv (.lit (.bool false)) }) rfl rfl rfl rfl trivial rfl ?_) -- t41 pick
      refine rvc_un (rexec_prim C (δ := { v := .pv (.lit (.bool false)) }) rfl rfl rfl rfl trivial rfl ?_) -- t42 move
      refine rvc_shut rfl rfl rfl rfl ?_ -- t43
      refine rvc_shut rfl rfl rfl rfl ?_ -- t44
      refine rvc_shut rfl rfl rfl rfl ?_ -- t45
      refine rvc_shut rfl rfl rfl rfl ?_ -- t46
      refine rvc_shut rfl rfl rfl rfl ?_ -- t47
      refine rvc_un (rexec_prim C (δ := { v := .pv (.lit (.bool false)) }) rfl rfl rfl rfl trivial rfl ?_) -- t48 pick
      refine rvc_un (rexec_prim C (δ := { v := .pv (.lit (.bool false)) }) rfl rfl rfl rfl trivial rfl ?_) -- t49 move
      refine rvc_shut rfl rfl rfl rfl ?_ -- t50
      refine rvc_un (rexec_prim C (δ := { v := .pv (.lit (.bool false)) }) rfl rfl rfl rfl trivial rfl ?_) -- t51 pick
      refine rvc_un (rexec_prim C (δ := { v := .pv (.lit (.bool false)) }) rfl rfl rfl rfl trivial rfl ?_) -- t4 assign
      refine rvc_nil ?_
      refine Awp.ret ?_
      subst hR
      exact ⟨.inl rfl, rfl⟩

def lawSets (c : Chain) : Bool :=
  (bif (decide ((c.members.D.length : Int) > 60)) then (awake ) else (bif ((nodes c) == (rSet c false)) then (bif ((whole c) == (rSet c true)) then (awake ) else false) else false))
theorem lawSets_calls (c : Chain) (hl1 : c.members.D.length ≤ 1000000) : PCalls Try.prog 5 [.agg [.pv (.lit (.int .i64 c.epoch)), sS (some c.members.nil) eMember c.members.D]] (.pv (.lit (.bool (lawSets c)))) := by
  generalize hR : lawSets c = R
  refine PCalls.of_body tabOk Try.func5 rfl rfl rfl rfl rfl mixed fun E hP C hI => ?_
  refine Awp.cons C (fun _ => .pure) (by kernel_rfl) ?_ -- region 0
  refine rvc_un (rexec_prim C (δ := { v := .ptr 1 0, new := [(1, .cells [.pv (.lit (.int .i64 c.epoch)), sS (some c.members.nil) eMember c.members.D])] }) rfl rfl rfl rfl trivial rfl ?_) -- t1 box
  refine rvc_un (rexec_prim C (δ := { v := .pv (.lit (.bool false)) }) rfl rfl rfl rfl trivial rfl ?_) -- t2 assign
  refine rvc_nil ?_
  refine Awp.seq ?_
  refine Awp.cons C (fun _ => .pure) (by kernel_rfl) ?_ -- region 1
  refine rvc_un (rexec_prim C (δ := { v := .ptr 1 1 }) rfl rfl rfl rfl trivial rfl ?_) -- t3 fieldAddr
  refine rvc_un (rexec_prim C (δ := { v := sS (some c.members.nil) eMember c.members.D }) rfl rfl rfl rfl trivial rfl ?_) -- t4 load
  refine rvc_un (rexec_prim C (δ := { v := .pv (.lit (.int .i64 (c.members.D.length : Int))) }) rfl rfl rfl rfl trivial rfl ?_) -- t5 call
  refine rvc_un (rexec_prim C (δ := { v := .pv (.lit (.bool (decide ((c.members.D.length : Int) > 60)))) }) rfl rfl rfl rfl trivial rfl ?_) -- t6 binOp
  refine rvc_nil ?_
  refine Awp.cond (b := (decide ((c.members.D.length : Int) > 60))) rfl (fun h1 => ?_) (fun h1 => ?_)
  ·
    replace hR := of_true h1 hR
    refine Awp.cons C (fun _ => .pure) (by kernel_rfl) ?_ -- region 2
    refine rvc_un (rexec_call hP C rfl rfl rfl (awake_calls ) ?_) -- t7 call
    refine rvc_un (rexec_prim C (δ := { v := .pv (.lit (.bool (awake ))) }) rfl rfl rfl rfl trivial rfl ?_) -- t2 assign
    refine rvc_nil ?_
    refine Awp.ret ?_
    subst hR
    exact ⟨.inl rfl, rfl⟩
  ·
    replace hR := of_false h1 hR
    refine Awp.skip ?_
    refine Awp.cons C (fun _ => .pure) (by kernel_rfl) ?_ -- region 3
    refine rvc_un (rexec_prim C (δ := { v := .agg [.pv (.lit (.int .i64 c.epoch)), sS (some c.members.nil) eMember c.members.D] }) rfl rfl rfl rfl trivial rfl ?_) -- t8 load
    refine rvc_un (rexec_call hP C rfl rfl rfl (nodes_calls c (Nat.le_trans hl1 (by decide))) ?_) -- t9 call
    refine rvc_un (rexec_prim C (δ := { v := .agg [.pv (.lit (.int .i64 c.epoch)), sS (some c.members.nil) eMember c.members.D] }) rfl rfl rfl rfl trivial rfl ?_) -- t10 load
    refine rvc_un (rexec_call hP C rfl rfl rfl (rSet_calls c false hl1) ?_) -- t11 call
    refine rvc_un (rexec_prim C (δ := { v := .pv (.lit (.bool ((nodes c) == (rSet c false)))) }) rfl rfl rfl rfl trivial rfl ?_) -- t12 binOp
    refine rvc_un (rexec_prim C (δ := { v := .pv (.lit (.bool ((nodes c) == (rSet c false)))) }) rfl rfl rfl rfl trivial rfl ?_) -- t13 move
    refine rvc_case 13 ((nodes c) == (rSet c false)) rfl (fun h2 => ?_) (fun h2 => ?_)
    ·
      replace hR := of_true h2 hR
      refine rvc_open rfl rfl rfl (rexec_prim C (δ := { v := .agg [.pv (.lit (.int .i64 c.epoch)), sS (some c.members.nil) eMember c.members.D] }) rfl rfl rfl rfl trivial rfl ?_) -- t14 load
      refine rvc_open rfl rfl rfl (rexec_call hP C rfl rfl rfl (whole_calls c (Nat.le_trans hl1 (by decide))) ?_) -- t15 call
      refine rvc_open rfl rfl rfl (rexec_prim C (δ := { v := .agg [.pv (.lit (.int .i64 c.epoch)), sS (some c.members.nil) eMember c.members.D] }) rfl rfl rfl rfl trivial rfl ?_) -- t16 load
      refine rvc_open rfl rfl rfl (rexec_call hP C rfl rfl rfl (rSet_calls c true hl1) ?_) -- t17 call
      refine rvc_open rfl rfl rfl (rexec_prim C (δ := { v := .pv (.lit (.bool ((whole c) == (rSet c true)))) }) rfl rfl rfl rfl trivial rfl ?_) -- t18 binOp
      refine rvc_un (rexec_prim C (δ := { v := .pv (.lit (.bool ((whole c) == (rSet c true)))) }) rfl rfl rfl rfl trivial rfl ?_) -- t19 pick
      refine rvc_un (rexec_prim C (δ := { v := .pv (.lit (.bool ((whole c) == (rSet c true)))) }) rfl rfl rfl rfl trivial rfl ?_) -- t20 move
      refine rvc_case 20 ((whole c) == (rSet c true)) rfl (fun h3 => ?_) (fun h3 => ?_)
      ·
        replace hR := of_true h3 hR
        refine rvc_open rfl rfl rfl (rexec_call hP C rfl rfl rfl (awake_calls ) ?_) -- t21 call
        refine rvc_un (rexec_prim C (δ := { v := .pv (.lit (.bool (awake ))) }) rfl rfl rfl rfl trivial rfl ?_) -- t22 pick
        refine rvc_un (rexec_prim C (δ := { v := .pv (.lit (.bool (awake ))) }) rfl rfl rfl rfl trivial rfl ?_) -- t2 assign
        refine rvc_nil ?_
        refine Awp.ret ?_
        subst hR
        exact ⟨.inl rfl, rfl⟩
      ·
        replace hR := of_false h3 hR
        refine rvc_shut rfl rfl rfl rfl ?_ -- t21
        refine rvc_un (rexec_prim C (δ := { v := .pv (.lit (.bool false)) }) rfl rfl rfl rfl trivial rfl ?_) -- t22 pick
        refine rvc_un (rexec_prim C (δ := { v := .pv (.lit (.bool false)) }) rfl rfl rfl rfl trivial rfl ?_) -- t2 assign
        refine rvc_nil ?_
        refine Awp.ret ?_
        subst hR
        exact ⟨.inl rfl, rfl⟩
    ·
      replace hR := of_false h2 hR
      refine rvc_shut rfl rfl rfl rfl ?_ -- t14
      refine rvc_shut rfl rfl rfl rfl ?_ -- t15
      refine rvc_shut rfl rfl rfl rfl ?_ -- t16
      refine rvc_shut rfl rfl rfl rfl ?_ -- t17
      refine rvc_shut rfl rfl rfl rfl ?_ -- t18
      refine rvc_un (rexec_prim C (δ := { v := .pv (.lit (.bool false)) }) rfl rfl rfl rfl trivial rfl ?_) -- t19 pick
      refine rvc_un (rexec_prim C (δ := { v := .pv (.lit (.bool false)) }) rfl rfl rfl rfl trivial rfl ?_) -- t20 move
      refine rvc_shut rfl rfl rfl rfl ?_ -- t21
      refine rvc_un (rexec_prim C (δ := { v := .pv (.lit (.bool false)) }) rfl rfl rfl rfl trivial rfl ?_) -- t22 pick
      refine rvc_un (rexec_prim C (δ := { v := .pv (.lit (.bool false)) }) rfl rfl rfl rfl trivial rfl ?_) -- t2 assign
      refine rvc_nil ?_
      refine Awp.ret ?_
      subst hR
      exact ⟨.inl rfl, rfl⟩

end Go.Proofs.Ytjhphpoihadmkaa
