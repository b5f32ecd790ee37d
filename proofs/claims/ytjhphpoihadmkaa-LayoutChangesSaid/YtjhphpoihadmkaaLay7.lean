/- The law of changes. No conditions. -/
import Derived.Test.YtjhphpoihadmkaaLayG
namespace Go.Proofs.Ytjhphpoihadmkaa
open Go.Am
def lawChanges (c : Chain) (k : Do) : Bool :=
  (bif (decide ((c.members.D.length : Int) > 60)) then (awake ) else (bif (rSame ((does (Chain.mk c.epoch (cloneMembers c.members)) k).1) ((also c k).1)) then (bif (((does (Chain.mk c.epoch (cloneMembers c.members)) k).2) == ((also c k).2)) then (bif (rSame (Chain.mk c.epoch (cloneMembers c.members)) c) then (awake ) else false) else false) else false))
theorem lawChanges_calls (c : Chain) (k : Do) (hn : c.members.nil = true → c.members.D = []) (hl1 : c.members.D.length ≤ 1000000) : PCalls Try.prog 7 [.agg [.pv (.lit (.int .i64 c.epoch)), sS (some c.members.nil) eMember c.members.D], .agg [.pv (.lit (.int .i64 k.op)), .pv (.lit (.int .i64 k.node)), .pv (.lit (.int .i64 k.site)), .pv (.lit (.bool k.fresh))]] (.pv (.lit (.bool (lawChanges c k)))) := by
  generalize hR : lawChanges c k = R
  refine PCalls.of_body tabOk Try.func7 rfl rfl rfl rfl rfl mixed fun E hP C hI => ?_
  refine Awp.cons C (fun _ => .pure) (by kernel_rfl) ?_ -- region 0
  refine rvc_un (rexec_prim C (δ := { v := .ptr 2 0, new := [(2, .cells [.pv (.lit (.int .i64 c.epoch)), sS (some c.members.nil) eMember c.members.D])] }) rfl rfl rfl rfl trivial rfl ?_) -- t2 box
  refine rvc_un (rexec_prim C (δ := { v := .ptr 3 0, new := [(3, .cells [.pv (.lit (.int .i64 k.op)), .pv (.lit (.int .i64 k.node)), .pv (.lit (.int .i64 k.site)), .pv (.lit (.bool k.fresh))])] }) rfl rfl rfl rfl trivial rfl ?_) -- t3 box
  refine rvc_un (rexec_prim C (δ := { v := .pv (.lit (.bool false)) }) rfl rfl rfl rfl trivial rfl ?_) -- t4 assign
  refine rvc_nil ?_
  refine Awp.seq ?_
  refine Awp.cons C (fun _ => .pure) (by kernel_rfl) ?_ -- region 1
  refine rvc_un (rexec_prim C (δ := { v := .ptr 2 1 }) rfl rfl rfl rfl trivial rfl ?_) -- t10 fieldAddr
  refine rvc_un (rexec_prim C (δ := { v := sS (some c.members.nil) eMember c.members.D }) rfl rfl rfl rfl trivial rfl ?_) -- t11 load
  refine rvc_un (rexec_prim C (δ := { v := .pv (.lit (.int .i64 (c.members.D.length : Int))) }) rfl rfl rfl rfl trivial rfl ?_) -- t12 call
  refine rvc_un (rexec_prim C (δ := { v := .pv (.lit (.bool (decide ((c.members.D.length : Int) > 60)))) }) rfl rfl rfl rfl trivial rfl ?_) -- t13 binOp
  refine rvc_nil ?_
  refine Awp.cond (b := (decide ((c.members.D.length : Int) > 60))) rfl (fun h1 => ?_) (fun h1 => ?_)
  ·
    replace hR := of_true h1 hR
    refine Awp.cons C (fun _ => .pure) (by kernel_rfl) ?_ -- region 2
    refine rvc_un (rexec_call hP C rfl rfl rfl (awake_calls ) ?_) -- t14 call
    refine rvc_un (rexec_prim C (δ := { v := .pv (.lit (.bool (awake ))) }) rfl rfl rfl rfl trivial rfl ?_) -- t4 assign
    refine rvc_nil ?_
    refine Awp.ret ?_
    subst hR
    exact ⟨.inl rfl, rfl⟩
  ·
    replace hR := of_false h1 hR
    refine Awp.skip ?_
    refine Awp.cons C (fun _ => .pure) (by kernel_rfl) ?_ -- region 3
    refine rvc_un (rexec_prim C (δ := { v := .ptr 2 0 }) rfl rfl rfl rfl trivial rfl ?_) -- t15 fieldAddr
    refine rvc_un (rexec_prim C (δ := { v := .pv (.lit (.int .i64 c.epoch)) }) rfl rfl rfl rfl trivial rfl ?_) -- t16 load
    refine rvc_un (rexec_prim C (δ := { v := .ptr 2 1 }) rfl rfl rfl rfl trivial rfl ?_) -- t17 fieldAddr
    refine rvc_un (rexec_prim C (δ := { v := sS (some c.members.nil) eMember c.members.D }) rfl rfl rfl rfl trivial rfl ?_) -- t18 load
    refine rvc_un (rexec_call hP C rfl rfl rfl (cloneMembers_calls c.members hl1) ?_) -- t19 call
    refine rvc_un (rexec_prim C (δ := { v := .agg [.pv (.lit (.int .i64 c.epoch)), sS (some (cloneMembers c.members).nil) eMember ((cloneMembers c.members).D)] }) rfl rfl rfl rfl trivial rfl ?_) -- t20 build
    refine rvc_un (rexec_prim C (δ := { v := .ptr 5 0, new := [(5, .cells [.pv (.lit (.int .i64 0)), sS (some true) eMember []])] }) rfl rfl rfl rfl trivial rfl ?_) -- t5 alloc
    refine rvc_un (rexec_prim C (δ := { v := .undef, wr := [(5, some (.cells [.pv (.lit (.int .i64 c.epoch)), sS (some (cloneMembers c.members).nil) eMember ((cloneMembers c.members).D)]))] }) rfl rfl rfl rfl trivial rfl ?_) -- tNone store
    refine rvc_nil ?_
    refine Awp.cons C (fun _ => .pure) (by kernel_rfl) ?_ -- region 4
    refine rvc_un (rexec_prim C (δ := { v := .agg [.pv (.lit (.int .i64 c.epoch)), sS (some (cloneMembers c.members).nil) eMember ((cloneMembers c.members).D)] }) rfl rfl rfl rfl trivial rfl ?_) -- t22 load
    refine rvc_un (rexec_prim C (δ := { v := .agg [.pv (.lit (.int .i64 k.op)), .pv (.lit (.int .i64 k.node)), .pv (.lit (.int .i64 k.site)), .pv (.lit (.bool k.fresh))] }) rfl rfl rfl rfl trivial rfl ?_) -- t23 load
    refine rvc_un (rexec_call hP C rfl rfl rfl (does_calls (Chain.mk c.epoch (cloneMembers c.members)) k (clone_hn c.members) (by show ((cloneMembers c.members).D).length ≤ 1000000; have := clone_len c.members; have := of_decide_eq_false h1; omega)) ?_) -- t24 call
    refine rvc_un (rexec_prim C (δ := { v := .tup [.agg [.pv (.lit (.int .i64 ((does (Chain.mk c.epoch (cloneMembers c.members)) k).1.epoch))), sS (some (does (Chain.mk c.epoch (cloneMembers c.members)) k).1.members.nil) eMember ((does (Chain.mk c.epoch (cloneMembers c.members)) k).1.members.D)], .pv (.lit (.int .i64 ((does (Chain.mk c.epoch (cloneMembers c.members)) k).2)))] }) rfl rfl rfl rfl trivial rfl ?_) -- t21 move
    refine rvc_un (rexec_prim C (δ := { v := .agg [.pv (.lit (.int .i64 ((does (Chain.mk c.epoch (cloneMembers c.members)) k).1.epoch))), sS (some (does (Chain.mk c.epoch (cloneMembers c.members)) k).1.members.nil) eMember ((does (Chain.mk c.epoch (cloneMembers c.members)) k).1.members.D)] }) rfl rfl rfl rfl trivial rfl ?_) -- t25 extract
    refine rvc_un (rexec_prim C (δ := { v := .pv (.lit (.int .i64 ((does (Chain.mk c.epoch (cloneMembers c.members)) k).2))) }) rfl rfl rfl rfl trivial rfl ?_) -- t26 extract
    refine rvc_un (rexec_prim C (δ := { v := .ptr 6 0, new := [(6, .cells [.pv (.lit (.int .i64 0)), sS (some true) eMember []])] }) rfl rfl rfl rfl trivial rfl ?_) -- t6 alloc
    refine rvc_un (rexec_prim C (δ := { v := .undef, wr := [(6, some (.cells [.pv (.lit (.int .i64 ((does (Chain.mk c.epoch (cloneMembers c.members)) k).1.epoch))), sS (some (does (Chain.mk c.epoch (cloneMembers c.members)) k).1.members.nil) eMember ((does (Chain.mk c.epoch (cloneMembers c.members)) k).1.members.D)]))] }) rfl rfl rfl rfl trivial rfl ?_) -- tNone store
    refine rvc_un (rexec_prim C (δ := { v := .pv (.lit (.int .i64 ((does (Chain.mk c.epoch (cloneMembers c.members)) k).2))) }) rfl rfl rfl rfl trivial rfl ?_) -- t7 assign
    refine rvc_nil ?_
    refine Awp.cons C (fun _ => .pure) (by kernel_rfl) ?_ -- region 5
    refine rvc_un (rexec_prim C (δ := { v := .agg [.pv (.lit (.int .i64 c.epoch)), sS (some c.members.nil) eMember c.members.D] }) rfl rfl rfl rfl trivial rfl ?_) -- t28 load
    refine rvc_un (rexec_prim C (δ := { v := .agg [.pv (.lit (.int .i64 k.op)), .pv (.lit (.int .i64 k.node)), .pv (.lit (.int .i64 k.site)), .pv (.lit (.bool k.fresh))] }) rfl rfl rfl rfl trivial rfl ?_) -- t29 load
    refine rvc_un (rexec_call hP C rfl rfl rfl (also_calls c k hl1) ?_) -- t30 call
    refine rvc_un (rexec_prim C (δ := { v := .tup [.agg [.pv (.lit (.int .i64 ((also c k).1.epoch))), sS (some (also c k).1.members.nil) eMember ((also c k).1.members.D)], .pv (.lit (.int .i64 ((also c k).2)))] }) rfl rfl rfl rfl trivial rfl ?_) -- t27 move
    refine rvc_un (rexec_prim C (δ := { v := .agg [.pv (.lit (.int .i64 ((also c k).1.epoch))), sS (some (also c k).1.members.nil) eMember ((also c k).1.members.D)] }) rfl rfl rfl rfl trivial rfl ?_) -- t31 extract
    refine rvc_un (rexec_prim C (δ := { v := .pv (.lit (.int .i64 ((also c k).2))) }) rfl rfl rfl rfl trivial rfl ?_) -- t32 extract
    refine rvc_un (rexec_prim C (δ := { v := .ptr 8 0, new := [(8, .cells [.pv (.lit (.int .i64 0)), sS (some true) eMember []])] }) rfl rfl rfl rfl trivial rfl ?_) -- t8 alloc
    refine rvc_un (rexec_prim C (δ := { v := .undef, wr := [(8, some (.cells [.pv (.lit (.int .i64 ((also c k).1.epoch))), sS (some (also c k).1.members.nil) eMember ((also c k).1.members.D)]))] }) rfl rfl rfl rfl trivial rfl ?_) -- tNone store
    refine rvc_un (rexec_prim C (δ := { v := .pv (.lit (.int .i64 ((also c k).2))) }) rfl rfl rfl rfl trivial rfl ?_) -- t9 assign
    refine rvc_nil ?_
    refine Awp.cons C (fun _ => .pure) (by kernel_rfl) ?_ -- region 6
    refine rvc_un (rexec_prim C (δ := { v := .agg [.pv (.lit (.int .i64 ((does (Chain.mk c.epoch (cloneMembers c.members)) k).1.epoch))), sS (some (does (Chain.mk c.epoch (cloneMembers c.members)) k).1.members.nil) eMember ((does (Chain.mk c.epoch (cloneMembers c.members)) k).1.members.D)] }) rfl rfl rfl rfl trivial rfl ?_) -- t33 load
    refine rvc_un (rexec_prim C (δ := { v := .agg [.pv (.lit (.int .i64 ((also c k).1.epoch))), sS (some (also c k).1.members.nil) eMember ((also c k).1.members.D)] }) rfl rfl rfl rfl trivial rfl ?_) -- t34 load
    refine rvc_un (rexec_call hP C rfl rfl rfl (rSame_calls ((does (Chain.mk c.epoch (cloneMembers c.members)) k).1) ((also c k).1) (by show ((does (Chain.mk c.epoch (cloneMembers c.members)) k).1.members.D).length ≤ 9223372036854775807; have := clone_len c.members; have := does_len (Chain.mk c.epoch (cloneMembers c.members)) k; (try dsimp only at this); have := also_len c hn k; have := of_decide_eq_false h1; omega)) ?_) -- t35 call
    refine rvc_un (rexec_prim C (δ := { v := .pv (.lit (.bool (rSame ((does (Chain.mk c.epoch (cloneMembers c.members)) k).1) ((also c k).1)))) }) rfl rfl rfl rfl trivial rfl ?_) -- t36 move
    refine rvc_case 36 (rSame ((does (Chain.mk c.epoch (cloneMembers c.members)) k).1) ((also c k).1)) rfl (fun h2 => ?_) (fun h2 => ?_)
    ·
      replace hR := of_true h2 hR
      refine rvc_open rfl rfl rfl (rexec_prim C (δ := { v := .pv (.lit (.int .i64 ((does (Chain.mk c.epoch (cloneMembers c.members)) k).2))) }) rfl rfl rfl rfl trivial rfl ?_) -- t37 move
      refine rvc_open rfl rfl rfl (rexec_prim C (δ := { v := .pv (.lit (.int .i64 ((also c k).2))) }) rfl rfl rfl rfl trivial rfl ?_) -- t38 move
      refine rvc_open rfl rfl rfl (rexec_prim C (δ := { v := .pv (.lit (.bool (((does (Chain.mk c.epoch (cloneMembers c.members)) k).2) == ((also c k).2)))) }) rfl rfl rfl rfl trivial rfl ?_) -- t39 binOp
      refine rvc_un (rexec_prim C (δ := { v := .pv (.lit (.bool (((does (Chain.mk c.epoch (cloneMembers c.members)) k).2) == ((also c k).2)))) }) rfl rfl rfl rfl trivial rfl ?_) -- t40 pick
      refine rvc_un (rexec_prim C (δ := { v := .pv (.lit (.bool (((does (Chain.mk c.epoch (cloneMembers c.members)) k).2) == ((also c k).2)))) }) rfl rfl rfl rfl trivial rfl ?_) -- t41 move
      refine rvc_case 41 (((does (Chain.mk c.epoch (cloneMembers c.members)) k).2) == ((also c k).2)) rfl (fun h3 => ?_) (fun h3 => ?_)
      ·
        replace hR := of_true h3 hR
        refine rvc_open rfl rfl rfl (rexec_prim C (δ := { v := .agg [.pv (.lit (.int .i64 c.epoch)), sS (some (cloneMembers c.members).nil) eMember ((cloneMembers c.members).D)] }) rfl rfl rfl rfl trivial rfl ?_) -- t42 load
        refine rvc_open rfl rfl rfl (rexec_prim C (δ := { v := .agg [.pv (.lit (.int .i64 c.epoch)), sS (some c.members.nil) eMember c.members.D] }) rfl rfl rfl rfl trivial rfl ?_) -- t43 load
        refine rvc_open rfl rfl rfl (rexec_call hP C rfl rfl rfl (rSame_calls (Chain.mk c.epoch (cloneMembers c.members)) c (by show ((cloneMembers c.members).D).length ≤ 9223372036854775807; have := clone_len c.members; have := does_len (Chain.mk c.epoch (cloneMembers c.members)) k; (try dsimp only at this); have := also_len c hn k; have := of_decide_eq_false h1; have := beq_iff_eq.1 h3; omega)) ?_) -- t44 call
        refine rvc_un (rexec_prim C (δ := { v := .pv (.lit (.bool (rSame (Chain.mk c.epoch (cloneMembers c.members)) c))) }) rfl rfl rfl rfl trivial rfl ?_) -- t45 pick
        refine rvc_un (rexec_prim C (δ := { v := .pv (.lit (.bool (rSame (Chain.mk c.epoch (cloneMembers c.members)) c))) }) rfl rfl rfl rfl trivial rfl ?_) -- t46 move
        refine rvc_case 46 (rSame (Chain.mk c.epoch (cloneMembers c.members)) c) rfl (fun h4 => ?_) (fun h4 => ?_)
        ·
          replace hR := of_true h4 hR
          refine rvc_open rfl rfl rfl (rexec_call hP C rfl rfl rfl (awake_calls ) ?_) -- t47 call
          refine rvc_un (rexec_prim C (δ := { v := .pv (.lit (.bool (awake ))) }) rfl rfl rfl rfl trivial rfl ?_) -- t48 pick
          refine rvc_un (rexec_prim C (δ := { v := .pv (.lit (.bool (awake ))) }) rfl rfl rfl rfl trivial rfl ?_) -- t4 assign
          refine rvc_nil ?_
          refine Awp.ret ?_
          subst hR
          exact ⟨.inl rfl, rfl⟩
        ·
          replace hR := of_false h4 hR
          refine rvc_shut rfl rfl rfl rfl ?_ -- t47
          refine rvc_un (rexec_prim C (δ := { v := .pv (.lit (.bool false)) }) rfl rfl rfl rfl trivial rfl ?_) -- t48 pick
          refine rvc_un (rexec_prim C (δ := { v := .pv (.lit (.bool false)) }) rfl rfl rfl rfl trivial rfl ?_) -- t4 assign
          refine rvc_nil ?_
          refine Awp.ret ?_
          subst hR
          exact ⟨.inl rfl, rfl⟩
      ·
        replace hR := of_false h3 hR
        refine rvc_shut rfl rfl rfl rfl ?_ -- t42
        refine rvc_shut rfl rfl rfl rfl ?_ -- t43
        refine rvc_shut rfl rfl rfl rfl ?_ -- t44
        refine rvc_un (rexec_prim C (δ := { v := .pv (.lit (.bool false)) }) rfl rfl rfl rfl trivial rfl ?_) -- t45 pick
        refine rvc_un (rexec_prim C (δ := { v := .pv (.lit (.bool false)) }) rfl rfl rfl rfl trivial rfl ?_) -- t46 move
        refine rvc_shut rfl rfl rfl rfl ?_ -- t47
        refine rvc_un (rexec_prim C (δ := { v := .pv (.lit (.bool false)) }) rfl rfl rfl rfl trivial rfl ?_) -- t48 pick
        refine rvc_un (rexec_prim C (δ := { v := .pv (.lit (.bool false)) }) rfl rfl rfl rfl trivial rfl ?_) -- t4 assign
        refine rvc_nil ?_
        refine Awp.ret ?_
        subst hR
        exact ⟨.inl rfl, rfl⟩
    ·
      replace hR := of_false h2 hR
      refine rvc_shut rfl rfl rfl rfl ?_ -- t37
      refine rvc_shut rfl rfl rfl rfl ?_ -- t38
      refine rvc_shut rfl rfl rfl rfl ?_ -- t39
      refine rvc_un (rexec_prim C (δ := { v := .pv (.lit (.bool false)) }) rfl rfl rfl rfl trivial rfl ?_) -- t40 pick
      refine rvc_un (rexec_prim C (δ := { v := .pv (.lit (.bool false)) }) rfl rfl rfl rfl trivial rfl ?_) -- t41 move
      refine rvc_shut rfl rfl rfl rfl ?_ -- t42
      refine rvc_shut rfl rfl rfl rfl ?_ -- t43
      refine rvc_shut rfl rfl rfl rfl ?_ -- t44
      refine rvc_un (rexec_prim C (δ := { v := .pv (.lit (.bool false)) }) rfl rfl rfl rfl trivial rfl ?_) -- t45 pick
      refine rvc_un (rexec_prim C (δ := { v := .pv (.lit (.bool false)) }) rfl rfl rfl rfl trivial rfl ?_) -- t46 move
      refine rvc_shut rfl rfl rfl rfl ?_ -- t47
      refine rvc_un (rexec_prim C (δ := { v := .pv (.lit (.bool false)) }) rfl rfl rfl rfl trivial rfl ?_) -- t48 pick
      refine rvc_un (rexec_prim C (δ := { v := .pv (.lit (.bool false)) }) rfl rfl rfl rfl trivial rfl ?_) -- t4 assign
      refine rvc_nil ?_
      refine Awp.ret ?_
      subst hR
      exact ⟨.inl rfl, rfl⟩

end Go.Proofs.Ytjhphpoihadmkaa
