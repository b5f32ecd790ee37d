/- Whether a chain may come of another one. No conditions. -/
import Derived.Test.YtjhphpoihadmkaaLay2b
namespace Go.Proofs.Ytjhphpoihadmkaa
open Go.Am
def rFollows_l0 (a : Chain) : List Member → Nat → Int → Bool
  | [], _, last => (decide (last ≥ 0))
  | x :: xs, i, last => (bif (!x.fresh) then (bif (decide ((rPlace a x.node) < 0)) then false else (bif a.members.D[(rPlace a x.node).toNat]!.fresh then false else (bif (decide ((rPlace a x.node) ≥ 0)) then (bif (decide ((rPlace a x.node) < last)) then false else rFollows_l0 a xs (i + 1) (rPlace a x.node)) else rFollows_l0 a xs (i + 1) last))) else (bif (decide ((rPlace a x.node) ≥ 0)) then (bif (decide ((rPlace a x.node) < last)) then false else rFollows_l0 a xs (i + 1) (rPlace a x.node)) else rFollows_l0 a xs (i + 1) last))
def rFollows (a : Chain) (b : Chain) : Bool :=
  (bif ((rCheck a) != 0) then false else (bif ((rCheck b) != 0) then false else (bif (decide (b.epoch ≤ a.epoch)) then false else rFollows_l0 a b.members.D 0 (-1))))
theorem rFollows_calls (a : Chain) (b : Chain) (hl1 : a.members.D.length ≤ 9223372036854775807) (hl2 : b.members.D.length ≤ 9223372036854775807) : PCalls Try.prog 33 [.agg [.pv (.lit (.int .i64 a.epoch)), sS (some a.members.nil) eMember a.members.D], .agg [.pv (.lit (.int .i64 b.epoch)), sS (some b.members.nil) eMember b.members.D]] (.pv (.lit (.bool (rFollows a b)))) := by
  generalize hR : rFollows a b = R
  refine PCalls.of_body tabOk Try.func33 rfl rfl rfl rfl rfl mixed fun E hP C hI => ?_
  refine Awp.cons C (fun _ => .pure) (by kernel_rfl) ?_ -- region 0
  refine rvc_un (rexec_prim C (δ := { v := .ptr 2 0, new := [(2, .cells [.pv (.lit (.int .i64 a.epoch)), sS (some a.members.nil) eMember a.members.D])] }) rfl rfl rfl rfl trivial rfl ?_) -- t2 box
  refine rvc_un (rexec_prim C (δ := { v := .ptr 3 0, new := [(3, .cells [.pv (.lit (.int .i64 b.epoch)), sS (some b.members.nil) eMember b.members.D])] }) rfl rfl rfl rfl trivial rfl ?_) -- t3 box
  refine rvc_un (rexec_prim C (δ := { v := .pv (.lit (.bool false)) }) rfl rfl rfl rfl trivial rfl ?_) -- t4 assign
  refine rvc_nil ?_
  refine Awp.seq ?_
  refine Awp.cons C (fun _ => .pure) (by kernel_rfl) ?_ -- region 1
  refine rvc_un (rexec_prim C (δ := { v := .agg [.pv (.lit (.int .i64 a.epoch)), sS (some a.members.nil) eMember a.members.D] }) rfl rfl rfl rfl trivial rfl ?_) -- t9 load
  refine rvc_un (rexec_call hP C rfl rfl rfl (rCheck_calls a hl1) ?_) -- t10 call
  refine rvc_un (rexec_prim C (δ := { v := .pv (.lit (.bool ((rCheck a) != 0))) }) rfl rfl rfl rfl trivial rfl ?_) -- t11 binOp
  refine rvc_un (rexec_prim C (δ := { v := .pv (.lit (.bool ((rCheck a) != 0))) }) rfl rfl rfl rfl trivial rfl ?_) -- t12 move
  refine rvc_case 12 ((rCheck a) != 0) rfl (fun h1 => ?_) (fun h1 => ?_)
  ·
    replace hR := of_true h1 hR
    refine rvc_shut rfl rfl rfl rfl ?_ -- t13
    refine rvc_shut rfl rfl rfl rfl ?_ -- t14
    refine rvc_shut rfl rfl rfl rfl ?_ -- t15
    refine rvc_un (rexec_prim C (δ := { v := .pv (.lit (.bool true)) }) rfl rfl rfl rfl trivial rfl ?_) -- t16 pick
    refine rvc_un (rexec_prim C (δ := { v := .pv (.lit (.bool true)) }) rfl rfl rfl rfl trivial rfl ?_) -- t17 move
    refine rvc_shut rfl rfl rfl rfl ?_ -- t18
    refine rvc_shut rfl rfl rfl rfl ?_ -- t19
    refine rvc_shut rfl rfl rfl rfl ?_ -- t20
    refine rvc_shut rfl rfl rfl rfl ?_ -- t21
    refine rvc_shut rfl rfl rfl rfl ?_ -- t22
    refine rvc_un (rexec_prim C (δ := { v := .pv (.lit (.bool true)) }) rfl rfl rfl rfl trivial rfl ?_) -- t23 pick
    refine rvc_nil ?_
    refine Awp.condT (b := true) rfl rfl ?_
    refine Awp.cons C (fun _ => .pure) (by kernel_rfl) ?_ -- region 2
    refine rvc_un (rexec_prim C (δ := { v := .pv (.lit (.bool false)) }) rfl rfl rfl rfl trivial rfl ?_) -- t4 assign
    refine rvc_nil ?_
    refine Awp.ret ?_
    subst hR
    exact ⟨.inl rfl, rfl⟩
  ·
    replace hR := of_false h1 hR
    refine rvc_open rfl rfl rfl (rexec_prim C (δ := { v := .agg [.pv (.lit (.int .i64 b.epoch)), sS (some b.members.nil) eMember b.members.D] }) rfl rfl rfl rfl trivial rfl ?_) -- t13 load
    refine rvc_open rfl rfl rfl (rexec_call hP C rfl rfl rfl (rCheck_calls b hl2) ?_) -- t14 call
    refine rvc_open rfl rfl rfl (rexec_prim C (δ := { v := .pv (.lit (.bool ((rCheck b) != 0))) }) rfl rfl rfl rfl trivial rfl ?_) -- t15 binOp
    refine rvc_un (rexec_prim C (δ := { v := .pv (.lit (.bool ((rCheck b) != 0))) }) rfl rfl rfl rfl trivial rfl ?_) -- t16 pick
    refine rvc_un (rexec_prim C (δ := { v := .pv (.lit (.bool ((rCheck b) != 0))) }) rfl rfl rfl rfl trivial rfl ?_) -- t17 move
    refine rvc_case 17 ((rCheck b) != 0) rfl (fun h2 => ?_) (fun h2 => ?_)
    ·
      replace hR := of_true h2 hR
      refine rvc_shut rfl rfl rfl rfl ?_ -- t18
      refine rvc_shut rfl rfl rfl rfl ?_ -- t19
      refine rvc_shut rfl rfl rfl rfl ?_ -- t20
      refine rvc_shut rfl rfl rfl rfl ?_ -- t21
      refine rvc_shut rfl rfl rfl rfl ?_ -- t22
      refine rvc_un (rexec_prim C (δ := { v := .pv (.lit (.bool true)) }) rfl rfl rfl rfl trivial rfl ?_) -- t23 pick
      refine rvc_nil ?_
      refine Awp.condT (b := true) rfl rfl ?_
      refine Awp.cons C (fun _ => .pure) (by kernel_rfl) ?_ -- region 2
      refine rvc_un (rexec_prim C (δ := { v := .pv (.lit (.bool false)) }) rfl rfl rfl rfl trivial rfl ?_) -- t4 assign
      refine rvc_nil ?_
      refine Awp.ret ?_
      subst hR
      exact ⟨.inl rfl, rfl⟩
    ·
      replace hR := of_false h2 hR
      refine rvc_open rfl rfl rfl (rexec_prim C (δ := { v := .ptr 3 0 }) rfl rfl rfl rfl trivial rfl ?_) -- t18 fieldAddr
      refine rvc_open rfl rfl rfl (rexec_prim C (δ := { v := .pv (.lit (.int .i64 b.epoch)) }) rfl rfl rfl rfl trivial rfl ?_) -- t19 load
      refine rvc_open rfl rfl rfl (rexec_prim C (δ := { v := .ptr 2 0 }) rfl rfl rfl rfl trivial rfl ?_) -- t20 fieldAddr
      refine rvc_open rfl rfl rfl (rexec_prim C (δ := { v := .pv (.lit (.int .i64 a.epoch)) }) rfl rfl rfl rfl trivial rfl ?_) -- t21 load
      refine rvc_open rfl rfl rfl (rexec_prim C (δ := { v := .pv (.lit (.bool (decide (b.epoch ≤ a.epoch)))) }) rfl rfl rfl rfl trivial rfl ?_) -- t22 binOp
      refine rvc_un (rexec_prim C (δ := { v := .pv (.lit (.bool (decide (b.epoch ≤ a.epoch)))) }) rfl rfl rfl rfl trivial rfl ?_) -- t23 pick
      refine rvc_nil ?_
      refine Awp.cond (b := (decide (b.epoch ≤ a.epoch))) rfl (fun h3 => ?_) (fun h3 => ?_)
      ·
        replace hR := of_true h3 hR
        refine Awp.cons C (fun _ => .pure) (by kernel_rfl) ?_ -- region 2
        refine rvc_un (rexec_prim C (δ := { v := .pv (.lit (.bool false)) }) rfl rfl rfl rfl trivial rfl ?_) -- t4 assign
        refine rvc_nil ?_
        refine Awp.ret ?_
        subst hR
        exact ⟨.inl rfl, rfl⟩
      ·
        replace hR := of_false h3 hR
        refine Awp.skip ?_
        refine Awp.cons C (fun _ => .pure) (by kernel_rfl) ?_ -- region 3
        refine rvc_un (rexec_prim C (δ := { v := .pv (.lit (.int .i64 (-1))) }) rfl rfl rfl rfl trivial rfl ?_) -- t5 assign
        refine rvc_nil ?_
        refine Awp.seq ?_
        refine Awp.cons C (fun _ => .pure) (by kernel_rfl) ?_ -- region 4
        refine rvc_un (rexec_prim C (δ := { v := .ptr 3 1 }) rfl rfl rfl rfl trivial rfl ?_) -- t24 fieldAddr
        refine rvc_un (rexec_prim C (δ := { v := sS (some b.members.nil) eMember b.members.D }) rfl rfl rfl rfl trivial rfl ?_) -- t25 load
        refine rvc_un (rexec_prim C (δ := { v := .pv (.lit (.int .i64 (b.members.D.length : Int))) }) rfl rfl rfl rfl trivial rfl ?_) -- t26 call
        refine rvc_un (rexec_prim C (δ := { v := .pv (.lit (.int .i64 0)) }) rfl rfl rfl rfl trivial rfl ?_) -- t27 move
        refine rvc_nil ?_
        refine Awp.block ?_
        refine Awp.forR (σ := Int) (b.members.D.length) (fun i v => [(2, .ptr 2 0), (5, .pv (.lit (.int .i64 v))), (25, sS (some b.members.nil) eMember b.members.D), (26, .pv (.lit (.int .i64 (b.members.D.length : Int)))), (27, .pv (.lit (.int .i64 (i : Int))))]) (fun i v => [(2, .cells [.pv (.lit (.int .i64 a.epoch)), sS (some a.members.nil) eMember a.members.D])]) [2] (fun i v => rFollows_l0 a (b.members.D.drop i) i v = R) (-1) ?_ ?_ (fun i last h4 hR => ?_)
        · exact hR
        · exact ⟨fun b => b, WeakerR.ofL (Ks := [2]) hI ⟨⟨rfl, rfl⟩, ⟨rfl, rfl⟩, ⟨rfl, rfl⟩, ⟨rfl, rfl⟩, ⟨rfl, rfl⟩, trivial⟩ (okH_cons rfl rfl rfl rfl (okH_nil)) rfl⟩
        refine Awp.cons C (fun _ => .pure) (by kernel_rfl) ?_ -- region 5
        refine rvc_un (rexec_prim C (δ := { v := .pv (.lit (.bool (decide ((i : Int) < (b.members.D.length : Int))))) }) rfl rfl rfl rfl trivial rfl ?_)
        refine rvc_nil ?_
        refine Awp.seq ?_
        refine Awp.cond (b := (decide ((i : Int) < (b.members.D.length : Int)))) rfl (fun h5 => ?_) (fun h5 => ?_)
        ·
          have h6 : i < b.members.D.length := by have := of_decide_eq_true h5; omega
          obtain ⟨x, h7⟩ := getX h6
          rw [drop_at h7] at hR
          refine Awp.skip ?_
          refine Awp.seq ?_
          refine Awp.block ?_
          refine Awp.cons C (fun _ => .pure) (by kernel_rfl) ?_ -- region 6
          refine rvc_un (rexec_idxS C rfl rfl rfl rfl rfl rfl x (Int.natCast_nonneg _) h7 ?_) -- t29 indexAddr
          refine rvc_un (rexec_prim C (δ := { v := .agg [.pv (.lit (.int .i64 x.node)), .pv (.lit (.int .i64 x.site)), .pv (.lit (.bool x.fresh))] }) rfl rfl rfl rfl trivial rfl ?_) -- t30 load
          refine rvc_un (rexec_prim C (δ := { v := .ptr 7 0, new := [(7, .cells [.pv (.lit (.int .i64 0)), .pv (.lit (.int .i64 0)), .pv (.lit (.bool false))])] }) rfl rfl rfl rfl trivial rfl ?_) -- t7 alloc
          refine rvc_un (rexec_prim C (δ := { v := .undef, wr := [(7, some (.cells [.pv (.lit (.int .i64 x.node)), .pv (.lit (.int .i64 x.site)), .pv (.lit (.bool x.fresh))]))] }) rfl rfl rfl rfl trivial rfl ?_) -- tNone store
          refine rvc_nil ?_
          refine Awp.cons C (fun _ => .pure) (by kernel_rfl) ?_ -- region 7
          refine rvc_un (rexec_prim C (δ := { v := .agg [.pv (.lit (.int .i64 a.epoch)), sS (some a.members.nil) eMember a.members.D] }) rfl rfl rfl rfl trivial rfl ?_) -- t31 load
          refine rvc_un (rexec_prim C (δ := { v := .ptr 7 0 }) rfl rfl rfl rfl trivial rfl ?_) -- t32 fieldAddr
          refine rvc_un (rexec_prim C (δ := { v := .pv (.lit (.int .i64 x.node)) }) rfl rfl rfl rfl trivial rfl ?_) -- t33 load
          refine rvc_un (rexec_call hP C rfl rfl rfl (rPlace_calls a x.node hl1) ?_) -- t34 call
          refine rvc_un (rexec_prim C (δ := { v := .pv (.lit (.int .i64 (rPlace a x.node))) }) rfl rfl rfl rfl trivial rfl ?_) -- t8 assign
          refine rvc_nil ?_
          refine Awp.seq ?_
          refine Awp.cons C (fun _ => .pure) (by kernel_rfl) ?_ -- region 8
          refine rvc_un (rexec_prim C (δ := { v := .ptr 7 2 }) rfl rfl rfl rfl trivial rfl ?_) -- t35 fieldAddr
          refine rvc_un (rexec_prim C (δ := { v := .pv (.lit (.bool x.fresh)) }) rfl rfl rfl rfl trivial rfl ?_) -- t36 load
          refine rvc_un (rexec_prim C (δ := { v := .pv (.lit (.bool (!x.fresh))) }) rfl rfl rfl rfl trivial rfl ?_) -- t37 unOp
          refine rvc_un (rexec_prim C (δ := { v := .pv (.lit (.bool (!x.fresh))) }) rfl rfl rfl rfl trivial rfl ?_) -- t38 move
          refine rvc_case 38 (!x.fresh) rfl (fun h8 => ?_) (fun h8 => ?_)
          ·
            replace hR := of_true h8 hR
            refine rvc_open rfl rfl rfl (rexec_prim C (δ := { v := .pv (.lit (.int .i64 (rPlace a x.node))) }) rfl rfl rfl rfl trivial rfl ?_) -- t39 move
            refine rvc_open rfl rfl rfl (rexec_prim C (δ := { v := .pv (.lit (.bool (decide ((rPlace a x.node) < 0)))) }) rfl rfl rfl rfl trivial rfl ?_) -- t40 binOp
            refine rvc_open rfl rfl rfl (rexec_prim C (δ := { v := .pv (.lit (.bool (decide ((rPlace a x.node) < 0)))) }) rfl rfl rfl rfl trivial rfl ?_) -- t41 move
            refine rvc_case 41 (decide ((rPlace a x.node) < 0)) rfl (fun h9 => ?_) (fun h9 => ?_)
            ·
              replace hR := of_true h9 hR
              refine rvc_shut rfl rfl rfl rfl ?_ -- t42
              refine rvc_shut rfl rfl rfl rfl ?_ -- t43
              refine rvc_shut rfl rfl rfl rfl ?_ -- t44
              refine rvc_shut rfl rfl rfl rfl ?_ -- t45
              refine rvc_shut rfl rfl rfl rfl ?_ -- t46
              refine rvc_shut rfl rfl rfl rfl ?_ -- t47
              refine rvc_open rfl rfl rfl (rexec_prim C (δ := { v := .pv (.lit (.bool true)) }) rfl rfl rfl rfl trivial rfl ?_) -- t48 pick
              refine rvc_un (rexec_prim C (δ := { v := .pv (.lit (.bool true)) }) rfl rfl rfl rfl trivial rfl ?_) -- t49 pick
              refine rvc_nil ?_
              refine Awp.condT (b := true) rfl rfl ?_
              refine Awp.cons C (fun _ => .pure) (by kernel_rfl) ?_ -- region 9
              refine rvc_un (rexec_prim C (δ := { v := .pv (.lit (.bool false)) }) rfl rfl rfl rfl trivial rfl ?_) -- t4 assign
              refine rvc_nil ?_
              refine Awp.ret ?_
              subst hR
              exact ⟨.inl rfl, rfl⟩
            ·
              replace hR := of_false h9 hR
              refine rvc_open rfl rfl rfl (rexec_prim C (δ := { v := .ptr 2 1 }) rfl rfl rfl rfl trivial rfl ?_) -- t42 fieldAddr
              refine rvc_open rfl rfl rfl (rexec_prim C (δ := { v := sS (some a.members.nil) eMember a.members.D }) rfl rfl rfl rfl trivial rfl ?_) -- t43 load
              refine rvc_open rfl rfl rfl (rexec_prim C (δ := { v := .pv (.lit (.int .i64 (rPlace a x.node))) }) rfl rfl rfl rfl trivial rfl ?_) -- t44 move
              have h10 : a.members.D[(rPlace a x.node).toNat]? = some a.members.D[(rPlace a x.node).toNat]! := getE (by have := check_r (c := a); have := rCheck_le6 (c := a); have := check_r (c := b); have := rCheck_le6 (c := b); have := rPlace_lt a x.node; have := eq_of_bne_false h1; have := eq_of_bne_false h2; have := of_decide_eq_false h3; have := of_decide_eq_true h5; have := of_decide_eq_false h9; omega)
              refine rvc_open rfl rfl rfl (rexec_idxS C rfl rfl rfl rfl rfl rfl (a.members.D[(rPlace a x.node).toNat]!) (by have := check_r (c := a); have := rCheck_le6 (c := a); have := check_r (c := b); have := rCheck_le6 (c := b); have := rPlace_lt a x.node; have := eq_of_bne_false h1; have := eq_of_bne_false h2; have := of_decide_eq_false h3; have := of_decide_eq_true h5; have := of_decide_eq_false h9; omega) h10 ?_) -- t45 indexAddr
              refine rvc_open rfl rfl rfl (rexec_prim C (δ := { v := .rp [.lit (.bool (a.members.D[(rPlace a x.node).toNat]!.fresh))] }) rfl rfl rfl rfl trivial rfl ?_) -- t46 fieldAddr
              refine rvc_open rfl rfl rfl (rexec_prim C (δ := { v := .pv (.lit (.bool (a.members.D[(rPlace a x.node).toNat]!.fresh))) }) rfl rfl rfl rfl trivial rfl ?_) -- t47 load
              refine rvc_open rfl rfl rfl (rexec_prim C (δ := { v := .pv (.lit (.bool (a.members.D[(rPlace a x.node).toNat]!.fresh))) }) rfl rfl rfl rfl trivial rfl ?_) -- t48 pick
              refine rvc_un (rexec_prim C (δ := { v := .pv (.lit (.bool (a.members.D[(rPlace a x.node).toNat]!.fresh))) }) rfl rfl rfl rfl trivial rfl ?_) -- t49 pick
              refine rvc_nil ?_
              refine Awp.cond (b := a.members.D[(rPlace a x.node).toNat]!.fresh) rfl (fun h11 => ?_) (fun h11 => ?_)
              ·
                replace hR := of_true h11 hR
                refine Awp.cons C (fun _ => .pure) (by kernel_rfl) ?_ -- region 9
                refine rvc_un (rexec_prim C (δ := { v := .pv (.lit (.bool false)) }) rfl rfl rfl rfl trivial rfl ?_) -- t4 assign
                refine rvc_nil ?_
                refine Awp.ret ?_
                subst hR
                exact ⟨.inl rfl, rfl⟩
              ·
                replace hR := of_false h11 hR
                refine Awp.skip ?_
                refine Awp.seq ?_
                refine Awp.cons C (fun _ => .pure) (by kernel_rfl) ?_ -- region 10
                refine rvc_un (rexec_prim C (δ := { v := .pv (.lit (.int .i64 (rPlace a x.node))) }) rfl rfl rfl rfl trivial rfl ?_) -- t50 move
                refine rvc_un (rexec_prim C (δ := { v := .pv (.lit (.bool (decide ((rPlace a x.node) ≥ 0)))) }) rfl rfl rfl rfl trivial rfl ?_) -- t51 binOp
                refine rvc_un (rexec_prim C (δ := { v := .pv (.lit (.bool (decide ((rPlace a x.node) ≥ 0)))) }) rfl rfl rfl rfl trivial rfl ?_) -- t52 move
                refine rvc_case 52 (decide ((rPlace a x.node) ≥ 0)) rfl (fun h12 => ?_) (fun h12 => ?_)
                ·
                  replace hR := of_true h12 hR
                  refine rvc_open rfl rfl rfl (rexec_prim C (δ := { v := .pv (.lit (.int .i64 (rPlace a x.node))) }) rfl rfl rfl rfl trivial rfl ?_) -- t53 move
                  refine rvc_open rfl rfl rfl (rexec_prim C (δ := { v := .pv (.lit (.int .i64 last)) }) rfl rfl rfl rfl trivial rfl ?_) -- t54 move
                  refine rvc_open rfl rfl rfl (rexec_prim C (δ := { v := .pv (.lit (.bool (decide ((rPlace a x.node) < last)))) }) rfl rfl rfl rfl trivial rfl ?_) -- t55 binOp
                  refine rvc_un (rexec_prim C (δ := { v := .pv (.lit (.bool (decide ((rPlace a x.node) < last)))) }) rfl rfl rfl rfl trivial rfl ?_) -- t56 pick
                  refine rvc_nil ?_
                  refine Awp.cond (b := (decide ((rPlace a x.node) < last))) rfl (fun h13 => ?_) (fun h13 => ?_)
                  ·
                    replace hR := of_true h13 hR
                    refine Awp.cons C (fun _ => .pure) (by kernel_rfl) ?_ -- region 11
                    refine rvc_un (rexec_prim C (δ := { v := .pv (.lit (.bool false)) }) rfl rfl rfl rfl trivial rfl ?_) -- t4 assign
                    refine rvc_nil ?_
                    refine Awp.ret ?_
                    subst hR
                    exact ⟨.inl rfl, rfl⟩
                  ·
                    replace hR := of_false h13 hR
                    refine Awp.skip ?_
                    refine Awp.cons C (fun _ => .pure) (by kernel_rfl) ?_ -- region 12
                    refine rvc_un (rexec_prim C (δ := { v := .pv (.lit (.int .i64 (rPlace a x.node))) }) rfl rfl rfl rfl trivial rfl ?_) -- t57 move
                    refine rvc_un (rexec_prim C (δ := { v := .pv (.lit (.bool (decide ((rPlace a x.node) ≥ 0)))) }) rfl rfl rfl rfl trivial rfl ?_) -- t58 binOp
                    refine rvc_nil ?_
                    refine Awp.condT (b := (decide ((rPlace a x.node) ≥ 0))) rfl h12 ?_
                    refine Awp.region C (fun _ => .pure) (by kernel_rfl) ?_ -- region 13
                    refine rvc_un (rexec_prim C (δ := { v := .pv (.lit (.int .i64 (rPlace a x.node))) }) rfl rfl rfl rfl trivial rfl ?_) -- t59 move
                    refine rvc_un (rexec_prim C (δ := { v := .pv (.lit (.int .i64 (rPlace a x.node))) }) rfl rfl rfl rfl trivial rfl ?_) -- t5 assign
                    refine rvc_nil ?_
                    refine Awp.region C (fun _ => .pure) (by kernel_rfl) ?_ -- region 14
                    refine rvc_un (rexec_prim C (δ := { v := .pv (.lit (.int .i64 (IntKind.i64.wrap ((i : Int) + 1)))) }) rfl rfl rfl rfl trivial rfl ?_) -- t60 binOp
                    refine rvc_un (rexec_prim C (δ := { v := .pv (.lit (.int .i64 (IntKind.i64.wrap ((i : Int) + 1)))) }) rfl rfl rfl rfl trivial rfl ?_) -- t27 move
                    refine rvc_nil ?_
                    refine ⟨h6, (rPlace a x.node), ?_, ?_⟩
                    · exact hR
                    · exact ⟨fun b => b, WeakerR.ofL (Ks := [2]) hI ⟨⟨rfl, rfl⟩, ⟨rfl, rfl⟩, ⟨rfl, rfl⟩, ⟨rfl, rfl⟩, ⟨lit_cast (wrap_i64 (by omega) (by omega)), rfl⟩, trivial⟩ (okH_cons rfl rfl rfl rfl (okH_nil)) rfl⟩
                ·
                  replace hR := of_false h12 hR
                  refine rvc_shut rfl rfl rfl rfl ?_ -- t53
                  refine rvc_shut rfl rfl rfl rfl ?_ -- t54
                  refine rvc_shut rfl rfl rfl rfl ?_ -- t55
                  refine rvc_un (rexec_prim C (δ := { v := .pv (.lit (.bool false)) }) rfl rfl rfl rfl trivial rfl ?_) -- t56 pick
                  refine rvc_nil ?_
                  refine Awp.condF (b := false) rfl rfl ?_
                  refine Awp.skip ?_
                  refine Awp.cons C (fun _ => .pure) (by kernel_rfl) ?_ -- region 12
                  refine rvc_un (rexec_prim C (δ := { v := .pv (.lit (.int .i64 (rPlace a x.node))) }) rfl rfl rfl rfl trivial rfl ?_) -- t57 move
                  refine rvc_un (rexec_prim C (δ := { v := .pv (.lit (.bool (decide ((rPlace a x.node) ≥ 0)))) }) rfl rfl rfl rfl trivial rfl ?_) -- t58 binOp
                  refine rvc_nil ?_
                  refine Awp.condF (b := (decide ((rPlace a x.node) ≥ 0))) rfl h12 ?_
                  refine Awp.skip ?_
                  refine Awp.region C (fun _ => .pure) (by kernel_rfl) ?_ -- region 14
                  refine rvc_un (rexec_prim C (δ := { v := .pv (.lit (.int .i64 (IntKind.i64.wrap ((i : Int) + 1)))) }) rfl rfl rfl rfl trivial rfl ?_) -- t60 binOp
                  refine rvc_un (rexec_prim C (δ := { v := .pv (.lit (.int .i64 (IntKind.i64.wrap ((i : Int) + 1)))) }) rfl rfl rfl rfl trivial rfl ?_) -- t27 move
                  refine rvc_nil ?_
                  refine ⟨h6, last, ?_, ?_⟩
                  · exact hR
                  · exact ⟨fun b => b, WeakerR.ofL (Ks := [2]) hI ⟨⟨rfl, rfl⟩, ⟨rfl, rfl⟩, ⟨rfl, rfl⟩, ⟨rfl, rfl⟩, ⟨lit_cast (wrap_i64 (by omega) (by omega)), rfl⟩, trivial⟩ (okH_cons rfl rfl rfl rfl (okH_nil)) rfl⟩
          ·
            replace hR := of_false h8 hR
            refine rvc_shut rfl rfl rfl rfl ?_ -- t39
            refine rvc_shut rfl rfl rfl rfl ?_ -- t40
            refine rvc_shut rfl rfl rfl rfl ?_ -- t41
            refine rvc_shutU rfl rfl rfl ?_ -- t42
            refine rvc_shutU rfl rfl rfl ?_ -- t43
            refine rvc_shutU rfl rfl rfl ?_ -- t44
            refine rvc_shutU rfl rfl rfl ?_ -- t45
            refine rvc_shutU rfl rfl rfl ?_ -- t46
            refine rvc_shutU rfl rfl rfl ?_ -- t47
            refine rvc_shut rfl rfl rfl rfl ?_ -- t48
            refine rvc_un (rexec_prim C (δ := { v := .pv (.lit (.bool false)) }) rfl rfl rfl rfl trivial rfl ?_) -- t49 pick
            refine rvc_nil ?_
            refine Awp.condF (b := false) rfl rfl ?_
            refine Awp.skip ?_
            refine Awp.seq ?_
            refine Awp.cons C (fun _ => .pure) (by kernel_rfl) ?_ -- region 10
            refine rvc_un (rexec_prim C (δ := { v := .pv (.lit (.int .i64 (rPlace a x.node))) }) rfl rfl rfl rfl trivial rfl ?_) -- t50 move
            refine rvc_un (rexec_prim C (δ := { v := .pv (.lit (.bool (decide ((rPlace a x.node) ≥ 0)))) }) rfl rfl rfl rfl trivial rfl ?_) -- t51 binOp
            refine rvc_un (rexec_prim C (δ := { v := .pv (.lit (.bool (decide ((rPlace a x.node) ≥ 0)))) }) rfl rfl rfl rfl trivial rfl ?_) -- t52 move
            refine rvc_case 52 (decide ((rPlace a x.node) ≥ 0)) rfl (fun h14 => ?_) (fun h14 => ?_)
            ·
              replace hR := of_true h14 hR
              refine rvc_open rfl rfl rfl (rexec_prim C (δ := { v := .pv (.lit (.int .i64 (rPlace a x.node))) }) rfl rfl rfl rfl trivial rfl ?_) -- t53 move
              refine rvc_open rfl rfl rfl (rexec_prim C (δ := { v := .pv (.lit (.int .i64 last)) }) rfl rfl rfl rfl trivial rfl ?_) -- t54 move
              refine rvc_open rfl rfl rfl (rexec_prim C (δ := { v := .pv (.lit (.bool (decide ((rPlace a x.node) < last)))) }) rfl rfl rfl rfl trivial rfl ?_) -- t55 binOp
              refine rvc_un (rexec_prim C (δ := { v := .pv (.lit (.bool (decide ((rPlace a x.node) < last)))) }) rfl rfl rfl rfl trivial rfl ?_) -- t56 pick
              refine rvc_nil ?_
              refine Awp.cond (b := (decide ((rPlace a x.node) < last))) rfl (fun h15 => ?_) (fun h15 => ?_)
              ·
                replace hR := of_true h15 hR
                refine Awp.cons C (fun _ => .pure) (by kernel_rfl) ?_ -- region 11
                refine rvc_un (rexec_prim C (δ := { v := .pv (.lit (.bool false)) }) rfl rfl rfl rfl trivial rfl ?_) -- t4 assign
                refine rvc_nil ?_
                refine Awp.ret ?_
                subst hR
                exact ⟨.inl rfl, rfl⟩
              ·
                replace hR := of_false h15 hR
                refine Awp.skip ?_
                refine Awp.cons C (fun _ => .pure) (by kernel_rfl) ?_ -- region 12
                refine rvc_un (rexec_prim C (δ := { v := .pv (.lit (.int .i64 (rPlace a x.node))) }) rfl rfl rfl rfl trivial rfl ?_) -- t57 move
                refine rvc_un (rexec_prim C (δ := { v := .pv (.lit (.bool (decide ((rPlace a x.node) ≥ 0)))) }) rfl rfl rfl rfl trivial rfl ?_) -- t58 binOp
                refine rvc_nil ?_
                refine Awp.condT (b := (decide ((rPlace a x.node) ≥ 0))) rfl h14 ?_
                refine Awp.region C (fun _ => .pure) (by kernel_rfl) ?_ -- region 13
                refine rvc_un (rexec_prim C (δ := { v := .pv (.lit (.int .i64 (rPlace a x.node))) }) rfl rfl rfl rfl trivial rfl ?_) -- t59 move
                refine rvc_un (rexec_prim C (δ := { v := .pv (.lit (.int .i64 (rPlace a x.node))) }) rfl rfl rfl rfl trivial rfl ?_) -- t5 assign
                refine rvc_nil ?_
                refine Awp.region C (fun _ => .pure) (by kernel_rfl) ?_ -- region 14
                refine rvc_un (rexec_prim C (δ := { v := .pv (.lit (.int .i64 (IntKind.i64.wrap ((i : Int) + 1)))) }) rfl rfl rfl rfl trivial rfl ?_) -- t60 binOp
                refine rvc_un (rexec_prim C (δ := { v := .pv (.lit (.int .i64 (IntKind.i64.wrap ((i : Int) + 1)))) }) rfl rfl rfl rfl trivial rfl ?_) -- t27 move
                refine rvc_nil ?_
                refine ⟨h6, (rPlace a x.node), ?_, ?_⟩
                · exact hR
                · exact ⟨fun b => b, WeakerR.ofL (Ks := [2]) hI ⟨⟨rfl, rfl⟩, ⟨rfl, rfl⟩, ⟨rfl, rfl⟩, ⟨rfl, rfl⟩, ⟨lit_cast (wrap_i64 (by omega) (by omega)), rfl⟩, trivial⟩ (okH_cons rfl rfl rfl rfl (okH_nil)) rfl⟩
            ·
              replace hR := of_false h14 hR
              refine rvc_shut rfl rfl rfl rfl ?_ -- t53
              refine rvc_shut rfl rfl rfl rfl ?_ -- t54
              refine rvc_shut rfl rfl rfl rfl ?_ -- t55
              refine rvc_un (rexec_prim C (δ := { v := .pv (.lit (.bool false)) }) rfl rfl rfl rfl trivial rfl ?_) -- t56 pick
              refine rvc_nil ?_
              refine Awp.condF (b := false) rfl rfl ?_
              refine Awp.skip ?_
              refine Awp.cons C (fun _ => .pure) (by kernel_rfl) ?_ -- region 12
              refine rvc_un (rexec_prim C (δ := { v := .pv (.lit (.int .i64 (rPlace a x.node))) }) rfl rfl rfl rfl trivial rfl ?_) -- t57 move
              refine rvc_un (rexec_prim C (δ := { v := .pv (.lit (.bool (decide ((rPlace a x.node) ≥ 0)))) }) rfl rfl rfl rfl trivial rfl ?_) -- t58 binOp
              refine rvc_nil ?_
              refine Awp.condF (b := (decide ((rPlace a x.node) ≥ 0))) rfl h14 ?_
              refine Awp.skip ?_
              refine Awp.region C (fun _ => .pure) (by kernel_rfl) ?_ -- region 14
              refine rvc_un (rexec_prim C (δ := { v := .pv (.lit (.int .i64 (IntKind.i64.wrap ((i : Int) + 1)))) }) rfl rfl rfl rfl trivial rfl ?_) -- t60 binOp
              refine rvc_un (rexec_prim C (δ := { v := .pv (.lit (.int .i64 (IntKind.i64.wrap ((i : Int) + 1)))) }) rfl rfl rfl rfl trivial rfl ?_) -- t27 move
              refine rvc_nil ?_
              refine ⟨h6, last, ?_, ?_⟩
              · exact hR
              · exact ⟨fun b => b, WeakerR.ofL (Ks := [2]) hI ⟨⟨rfl, rfl⟩, ⟨rfl, rfl⟩, ⟨rfl, rfl⟩, ⟨rfl, rfl⟩, ⟨lit_cast (wrap_i64 (by omega) (by omega)), rfl⟩, trivial⟩ (okH_cons rfl rfl rfl rfl (okH_nil)) rfl⟩
        ·
          have h6 : ¬ i < b.members.D.length := by have := of_decide_eq_false h5; omega
          rw [drop_end h6] at hR
          refine Awp.exit ?_
          refine Awp.cons C (fun _ => .pure) (by kernel_rfl) ?_ -- region 15
          refine rvc_un (rexec_prim C (δ := { v := .pv (.lit (.int .i64 last)) }) rfl rfl rfl rfl trivial rfl ?_) -- t61 move
          refine rvc_un (rexec_prim C (δ := { v := .pv (.lit (.bool (decide (last ≥ 0)))) }) rfl rfl rfl rfl trivial rfl ?_) -- t62 binOp
          refine rvc_un (rexec_prim C (δ := { v := .pv (.lit (.bool (decide (last ≥ 0)))) }) rfl rfl rfl rfl trivial rfl ?_) -- t4 assign
          refine rvc_nil ?_
          refine Awp.ret ?_
          subst hR
          exact ⟨.inl rfl, rfl⟩

def isSorted_l0 (x : (Sl Int)) : Nat → Int → Bool
  | 0, _ => default
  | nn + 1, i => (bif (decide (i > 0)) then (bif (less (x.D[i.toNat]!) (x.D[(IntKind.i64.wrap (i - 1)).toNat]!)) then false else isSorted_l0 x nn (IntKind.i64.wrap (i - 1))) else true)
def isSorted (x : (Sl Int)) : Bool :=
  isSorted_l0 x ((IntKind.i64.wrap ((x.D.length : Int) - 1)).toNat + 1) (IntKind.i64.wrap ((x.D.length : Int) - 1))
theorem isSorted_calls (x : (Sl Int)) (hl1 : x.D.length ≤ 1000000) : PCalls Try.prog 49 [sS (some x.nil) (eI .i64) x.D] (.pv (.lit (.bool (isSorted x)))) := by
  generalize hR : isSorted x = R
  refine PCalls.of_body tabOk Try.func49 rfl rfl rfl rfl rfl mixed fun E hP C hI => ?_
  refine Awp.cons C (fun _ => .pure) (by kernel_rfl) ?_ -- region 0
  refine rvc_un (rexec_prim C (δ := { v := .pv (.lit (.bool false)) }) rfl rfl rfl rfl trivial rfl ?_) -- t2 assign
  refine rvc_nil ?_
  refine Awp.seq ?_
  refine Awp.cons C (fun _ => .pure) (by kernel_rfl) ?_ -- region 1
  refine rvc_un (rexec_prim C (δ := { v := sS (some x.nil) (eI .i64) x.D }) rfl rfl rfl rfl trivial rfl ?_) -- t4 move
  refine rvc_un (rexec_prim C (δ := { v := .pv (.lit (.int .i64 (x.D.length : Int))) }) rfl rfl rfl rfl trivial rfl ?_) -- t5 call
  refine rvc_un (rexec_prim C (δ := { v := .pv (.lit (.int .i64 (IntKind.i64.wrap ((x.D.length : Int) - 1)))) }) rfl rfl rfl rfl trivial rfl ?_) -- t6 binOp
  refine rvc_un (rexec_prim C (δ := { v := .pv (.lit (.int .i64 (IntKind.i64.wrap ((x.D.length : Int) - 1)))) }) rfl rfl rfl rfl trivial rfl ?_) -- t3 assign
  refine rvc_nil ?_
  refine Awp.block ?_
  refine Awp.forM (σ := Int) (fun v => [(0, sS (some x.nil) (eI .i64) x.D), (3, .pv (.lit (.int .i64 v)))]) (fun v => []) [] (fun n v => n = v.toNat ∧ isSorted_l0 x (v.toNat + 1) v = R ∧ (-1 ≤ v ∧ v < (x.D.length : Int))) ((IntKind.i64.wrap ((x.D.length : Int) - 1)).toNat) (IntKind.i64.wrap ((x.D.length : Int) - 1)) ?_ ?_ (fun _ i h1 => ?_)
  · exact ⟨rfl, hR, (by have := wrapI ((x.D.length : Int) - 1); omega)⟩
  · exact ⟨fun b => b, WeakerR.ofL (Ks := []) hI ⟨⟨rfl, rfl⟩, ⟨rfl, rfl⟩, trivial⟩ (okH_nil) rfl⟩
  obtain ⟨rfl, hR, hV⟩ := h1
  refine Awp.seq ?_
  refine Awp.cons C (fun _ => .pure) (by kernel_rfl) ?_ -- region 2
  refine rvc_un (rexec_prim C (δ := { v := .pv (.lit (.int .i64 i)) }) rfl rfl rfl rfl trivial rfl ?_) -- t7 move
  refine rvc_un (rexec_prim C (δ := { v := .pv (.lit (.bool (decide (i > 0)))) }) rfl rfl rfl rfl trivial rfl ?_) -- t8 binOp
  refine rvc_nil ?_
  refine Awp.cond (b := (decide (i > 0))) rfl (fun h3 => ?_) (fun h3 => ?_)
  ·
    replace hR := of_true h3 hR
    refine Awp.skip ?_
    refine Awp.seq ?_
    refine Awp.block ?_
    refine Awp.cons C (fun _ => .pure) (by kernel_rfl) ?_ -- region 4
    refine rvc_un (rexec_prim C (δ := { v := sS (some x.nil) (eI .i64) x.D }) rfl rfl rfl rfl trivial rfl ?_) -- t11 move
    refine rvc_un (rexec_prim C (δ := { v := .pv (.lit (.int .i64 i)) }) rfl rfl rfl rfl trivial rfl ?_) -- t12 move
    have h4 : x.D[i.toNat]? = some x.D[i.toNat]! := getE (by have := of_decide_eq_true h3; omega)
    refine rvc_un (rexec_idxS C rfl rfl rfl rfl rfl rfl (x.D[i.toNat]!) (by have := of_decide_eq_true h3; omega) h4 ?_) -- t13 indexAddr
    refine rvc_un (rexec_prim C (δ := { v := .pv (.lit (.int .i64 (x.D[i.toNat]!))) }) rfl rfl rfl rfl trivial rfl ?_) -- t14 load
    refine rvc_un (rexec_prim C (δ := { v := sS (some x.nil) (eI .i64) x.D }) rfl rfl rfl rfl trivial rfl ?_) -- t15 move
    refine rvc_un (rexec_prim C (δ := { v := .pv (.lit (.int .i64 i)) }) rfl rfl rfl rfl trivial rfl ?_) -- t16 move
    refine rvc_un (rexec_prim C (δ := { v := .pv (.lit (.int .i64 (IntKind.i64.wrap (i - 1)))) }) rfl rfl rfl rfl trivial rfl ?_) -- t17 binOp
    have h5 : x.D[(IntKind.i64.wrap (i - 1)).toNat]? = some x.D[(IntKind.i64.wrap (i - 1)).toNat]! := getE (by have := wrapI (i - 1); have := of_decide_eq_true h3; omega)
    refine rvc_un (rexec_idxS C rfl rfl rfl rfl rfl rfl (x.D[(IntKind.i64.wrap (i - 1)).toNat]!) (by have := wrapI (i - 1); have := of_decide_eq_true h3; omega) h5 ?_) -- t18 indexAddr
    refine rvc_un (rexec_prim C (δ := { v := .pv (.lit (.int .i64 (x.D[(IntKind.i64.wrap (i - 1)).toNat]!))) }) rfl rfl rfl rfl trivial rfl ?_) -- t19 load
    refine rvc_un (rexec_call hP C rfl rfl rfl (less_calls (x.D[i.toNat]!) (x.D[(IntKind.i64.wrap (i - 1)).toNat]!)) ?_) -- t20 call
    refine rvc_nil ?_
    refine Awp.cond (b := (less (x.D[i.toNat]!) (x.D[(IntKind.i64.wrap (i - 1)).toNat]!))) rfl (fun h6 => ?_) (fun h6 => ?_)
    ·
      replace hR := of_true h6 hR
      refine Awp.cons C (fun _ => .pure) (by kernel_rfl) ?_ -- region 5
      refine rvc_un (rexec_prim C (δ := { v := .pv (.lit (.bool false)) }) rfl rfl rfl rfl trivial rfl ?_) -- t2 assign
      refine rvc_nil ?_
      refine Awp.ret ?_
      subst hR
      exact ⟨.inl rfl, rfl⟩
    ·
      replace hR := of_false h6 hR
      refine Awp.skip ?_
      refine Awp.region C (fun _ => .pure) (by kernel_rfl) ?_ -- region 3
      refine rvc_un (rexec_prim C (δ := { v := .pv (.lit (.int .i64 i)) }) rfl rfl rfl rfl trivial rfl ?_) -- t9 move
      refine rvc_un (rexec_prim C (δ := { v := .pv (.lit (.int .i64 (IntKind.i64.wrap (i - 1)))) }) rfl rfl rfl rfl trivial rfl ?_) -- t10 binOp
      refine rvc_un (rexec_prim C (δ := { v := .pv (.lit (.int .i64 (IntKind.i64.wrap (i - 1)))) }) rfl rfl rfl rfl trivial rfl ?_) -- t3 assign
      refine rvc_nil ?_
      refine ⟨_, (IntKind.i64.wrap (i - 1)), ?_, ⟨rfl, (by rw [show ((IntKind.i64.wrap (i - 1)).toNat) + 1 = i.toNat by have := wrapI (i - 1); have := of_decide_eq_true h3; first | omega | (simp only [List.length_drop]; omega)]; exact hR), (by have := wrapI (i - 1); have := of_decide_eq_true h3; omega)⟩, ?_⟩
      · show (IntKind.i64.wrap (i - 1)).toNat < i.toNat; have := wrapI (i - 1); have := of_decide_eq_true h3; first | omega | (simp only [List.length_drop]; omega)
      · exact ⟨fun b => b, WeakerR.ofL (Ks := []) hI ⟨⟨rfl, rfl⟩, ⟨rfl, rfl⟩, trivial⟩ (okH_nil) rfl⟩
  ·
    replace hR := of_false h3 hR
    refine Awp.exit ?_
    refine Awp.cons C (fun _ => .pure) (by kernel_rfl) ?_ -- region 6
    refine rvc_un (rexec_prim C (δ := { v := .pv (.lit (.bool true)) }) rfl rfl rfl rfl trivial rfl ?_) -- t2 assign
    refine rvc_nil ?_
    refine Awp.ret ?_
    subst hR
    exact ⟨.inl rfl, rfl⟩

def follows_l0 (a : Chain) : List Member → Nat → (List Int) → Bool
  | [], _, stay => (bif (isSorted (Sl.mk stay.isEmpty stay)) then (decide ((stay.length : Int) > 0)) else false)
  | x :: xs, i, stay => (bif (decide ((placeIn a x.node) ≥ 0)) then follows_l0 a xs (i + 1) (stay ++ [(placeIn a x.node)]) else follows_l0 a xs (i + 1) stay)
def follows (a : Chain) (b : Chain) : Bool :=
  (bif ((check a) != 0) then false else (bif ((check b) != 0) then false else (bif (decide (a.epoch ≥ b.epoch)) then false else (bif ((mBut (whole b) (whole a)) != 0) then false else follows_l0 a b.members.D 0 []))))
theorem follows_calls (a : Chain) (b : Chain) (hl1 : a.members.D.length ≤ 9223372036854775807) (hl2 : b.members.D.length ≤ 9223372036854775807) : PCalls Try.prog 32 [.agg [.pv (.lit (.int .i64 a.epoch)), sS (some a.members.nil) eMember a.members.D], .agg [.pv (.lit (.int .i64 b.epoch)), sS (some b.members.nil) eMember b.members.D]] (.pv (.lit (.bool (follows a b)))) := by
  generalize hR : follows a b = R
  refine PCalls.of_body tabOk Try.func32 rfl rfl rfl rfl rfl mixed fun E hP C hI => ?_
  refine Awp.cons C (fun _ => .pure) (by kernel_rfl) ?_ -- region 0
  refine rvc_un (rexec_prim C (δ := { v := .ptr 2 0, new := [(2, .cells [.pv (.lit (.int .i64 a.epoch)), sS (some a.members.nil) eMember a.members.D])] }) rfl rfl rfl rfl trivial rfl ?_) -- t2 box
  refine rvc_un (rexec_prim C (δ := { v := .ptr 3 0, new := [(3, .cells [.pv (.lit (.int .i64 b.epoch)), sS (some b.members.nil) eMember b.members.D])] }) rfl rfl rfl rfl trivial rfl ?_) -- t3 box
  refine rvc_un (rexec_prim C (δ := { v := .pv (.lit (.bool false)) }) rfl rfl rfl rfl trivial rfl ?_) -- t4 assign
  refine rvc_nil ?_
  refine Awp.seq ?_
  refine Awp.cons C (fun _ => .pure) (by kernel_rfl) ?_ -- region 1
  refine rvc_un (rexec_prim C (δ := { v := .agg [.pv (.lit (.int .i64 a.epoch)), sS (some a.members.nil) eMember a.members.D] }) rfl rfl rfl rfl trivial rfl ?_) -- t9 load
  refine rvc_un (rexec_call hP C rfl rfl rfl (check_calls a hl1) ?_) -- t10 call
  refine rvc_un (rexec_prim C (δ := { v := .pv (.lit (.bool ((check a) != 0))) }) rfl rfl rfl rfl trivial rfl ?_) -- t11 binOp
  refine rvc_un (rexec_prim C (δ := { v := .pv (.lit (.bool ((check a) != 0))) }) rfl rfl rfl rfl trivial rfl ?_) -- t12 move
  refine rvc_case 12 ((check a) != 0) rfl (fun h1 => ?_) (fun h1 => ?_)
  ·
    replace hR := of_true h1 hR
    refine rvc_shut rfl rfl rfl rfl ?_ -- t13
    refine rvc_shut rfl rfl rfl rfl ?_ -- t14
    refine rvc_shut rfl rfl rfl rfl ?_ -- t15
    refine rvc_un (rexec_prim C (δ := { v := .pv (.lit (.bool true)) }) rfl rfl rfl rfl trivial rfl ?_) -- t16 pick
    refine rvc_un (rexec_prim C (δ := { v := .pv (.lit (.bool true)) }) rfl rfl rfl rfl trivial rfl ?_) -- t17 move
    refine rvc_shut rfl rfl rfl rfl ?_ -- t18
    refine rvc_shut rfl rfl rfl rfl ?_ -- t19
    refine rvc_shut rfl rfl rfl rfl ?_ -- t20
    refine rvc_shut rfl rfl rfl rfl ?_ -- t21
    refine rvc_shut rfl rfl rfl rfl ?_ -- t22
    refine rvc_un (rexec_prim C (δ := { v := .pv (.lit (.bool true)) }) rfl rfl rfl rfl trivial rfl ?_) -- t23 pick
    refine rvc_un (rexec_prim C (δ := { v := .pv (.lit (.bool true)) }) rfl rfl rfl rfl trivial rfl ?_) -- t24 move
    refine rvc_shut rfl rfl rfl rfl ?_ -- t25
    refine rvc_shut rfl rfl rfl rfl ?_ -- t26
    refine rvc_shut rfl rfl rfl rfl ?_ -- t27
    refine rvc_shut rfl rfl rfl rfl ?_ -- t28
    refine rvc_shut rfl rfl rfl rfl ?_ -- t29
    refine rvc_shut rfl rfl rfl rfl ?_ -- t30
    refine rvc_un (rexec_prim C (δ := { v := .pv (.lit (.bool true)) }) rfl rfl rfl rfl trivial rfl ?_) -- t31 pick
    refine rvc_nil ?_
    refine Awp.condT (b := true) rfl rfl ?_
    refine Awp.cons C (fun _ => .pure) (by kernel_rfl) ?_ -- region 2
    refine rvc_un (rexec_prim C (δ := { v := .pv (.lit (.bool false)) }) rfl rfl rfl rfl trivial rfl ?_) -- t4 assign
    refine rvc_nil ?_
    refine Awp.ret ?_
    subst hR
    exact ⟨.inl rfl, rfl⟩
  ·
    replace hR := of_false h1 hR
    refine rvc_open rfl rfl rfl (rexec_prim C (δ := { v := .agg [.pv (.lit (.int .i64 b.epoch)), sS (some b.members.nil) eMember b.members.D] }) rfl rfl rfl rfl trivial rfl ?_) -- t13 load
    refine rvc_open rfl rfl rfl (rexec_call hP C rfl rfl rfl (check_calls b hl2) ?_) -- t14 call
    refine rvc_open rfl rfl rfl (rexec_prim C (δ := { v := .pv (.lit (.bool ((check b) != 0))) }) rfl rfl rfl rfl trivial rfl ?_) -- t15 binOp
    refine rvc_un (rexec_prim C (δ := { v := .pv (.lit (.bool ((check b) != 0))) }) rfl rfl rfl rfl trivial rfl ?_) -- t16 pick
    refine rvc_un (rexec_prim C (δ := { v := .pv (.lit (.bool ((check b) != 0))) }) rfl rfl rfl rfl trivial rfl ?_) -- t17 move
    refine rvc_case 17 ((check b) != 0) rfl (fun h2 => ?_) (fun h2 => ?_)
    ·
      replace hR := of_true h2 hR
      refine rvc_shut rfl rfl rfl rfl ?_ -- t18
      refine rvc_shut rfl rfl rfl rfl ?_ -- t19
      refine rvc_shut rfl rfl rfl rfl ?_ -- t20
      refine rvc_shut rfl rfl rfl rfl ?_ -- t21
      refine rvc_shut rfl rfl rfl rfl ?_ -- t22
      refine rvc_un (rexec_prim C (δ := { v := .pv (.lit (.bool true)) }) rfl rfl rfl rfl trivial rfl ?_) -- t23 pick
      refine rvc_un (rexec_prim C (δ := { v := .pv (.lit (.bool true)) }) rfl rfl rfl rfl trivial rfl ?_) -- t24 move
      refine rvc_shut rfl rfl rfl rfl ?_ -- t25
      refine rvc_shut rfl rfl rfl rfl ?_ -- t26
      refine rvc_shut rfl rfl rfl rfl ?_ -- t27
      refine rvc_shut rfl rfl rfl rfl ?_ -- t28
      refine rvc_shut rfl rfl rfl rfl ?_ -- t29
      refine rvc_shut rfl rfl rfl rfl ?_ -- t30
      refine rvc_un (rexec_prim C (δ := { v := .pv (.lit (.bool true)) }) rfl rfl rfl rfl trivial rfl ?_) -- t31 pick
      refine rvc_nil ?_
      refine Awp.condT (b := true) rfl rfl ?_
      refine Awp.cons C (fun _ => .pure) (by kernel_rfl) ?_ -- region 2
      refine rvc_un (rexec_prim C (δ := { v := .pv (.lit (.bool false)) }) rfl rfl rfl rfl trivial rfl ?_) -- t4 assign
      refine rvc_nil ?_
      refine Awp.ret ?_
      subst hR
      exact ⟨.inl rfl, rfl⟩
    ·
      replace hR := of_false h2 hR
      refine rvc_open rfl rfl rfl (rexec_prim C (δ := { v := .ptr 2 0 }) rfl rfl rfl rfl trivial rfl ?_) -- t18 fieldAddr
      refine rvc_open rfl rfl rfl (rexec_prim C (δ := { v := .pv (.lit (.int .i64 a.epoch)) }) rfl rfl rfl rfl trivial rfl ?_) -- t19 load
      refine rvc_open rfl rfl rfl (rexec_prim C (δ := { v := .ptr 3 0 }) rfl rfl rfl rfl trivial rfl ?_) -- t20 fieldAddr
      refine rvc_open rfl rfl rfl (rexec_prim C (δ := { v := .pv (.lit (.int .i64 b.epoch)) }) rfl rfl rfl rfl trivial rfl ?_) -- t21 load
      refine rvc_open rfl rfl rfl (rexec_prim C (δ := { v := .pv (.lit (.bool (decide (a.epoch ≥ b.epoch)))) }) rfl rfl rfl rfl trivial rfl ?_) -- t22 binOp
      refine rvc_un (rexec_prim C (δ := { v := .pv (.lit (.bool (decide (a.epoch ≥ b.epoch)))) }) rfl rfl rfl rfl trivial rfl ?_) -- t23 pick
      refine rvc_un (rexec_prim C (δ := { v := .pv (.lit (.bool (decide (a.epoch ≥ b.epoch)))) }) rfl rfl rfl rfl trivial rfl ?_) -- t24 move
      refine rvc_case 24 (decide (a.epoch ≥ b.epoch)) rfl (fun h3 => ?_) (fun h3 => ?_)
      ·
        replace hR := of_true h3 hR
        refine rvc_shut rfl rfl rfl rfl ?_ -- t25
        refine rvc_shut rfl rfl rfl rfl ?_ -- t26
        refine rvc_shut rfl rfl rfl rfl ?_ -- t27
        refine rvc_shut rfl rfl rfl rfl ?_ -- t28
        refine rvc_shut rfl rfl rfl rfl ?_ -- t29
        refine rvc_shut rfl rfl rfl rfl ?_ -- t30
        refine rvc_un (rexec_prim C (δ := { v := .pv (.lit (.bool true)) }) rfl rfl rfl rfl trivial rfl ?_) -- t31 pick
        refine rvc_nil ?_
        refine Awp.condT (b := true) rfl rfl ?_
        refine Awp.cons C (fun _ => .pure) (by kernel_rfl) ?_ -- region 2
        refine rvc_un (rexec_prim C (δ := { v := .pv (.lit (.bool false)) }) rfl rfl rfl rfl trivial rfl ?_) -- t4 assign
        refine rvc_nil ?_
        refine Awp.ret ?_
        subst hR
        exact ⟨.inl rfl, rfl⟩
      ·
        replace hR := of_false h3 hR
        refine rvc_open rfl rfl rfl (rexec_prim C (δ := { v := .agg [.pv (.lit (.int .i64 b.epoch)), sS (some b.members.nil) eMember b.members.D] }) rfl rfl rfl rfl trivial rfl ?_) -- t25 load
        refine rvc_open rfl rfl rfl (rexec_call hP C rfl rfl rfl (whole_calls b hl2) ?_) -- t26 call
        refine rvc_open rfl rfl rfl (rexec_prim C (δ := { v := .agg [.pv (.lit (.int .i64 a.epoch)), sS (some a.members.nil) eMember a.members.D] }) rfl rfl rfl rfl trivial rfl ?_) -- t27 load
        refine rvc_open rfl rfl rfl (rexec_call hP C rfl rfl rfl (whole_calls a hl1) ?_) -- t28 call
        refine rvc_open rfl rfl rfl (rexec_call hP C rfl rfl rfl (mBut_calls (whole b) (whole a)) ?_) -- t29 call
        refine rvc_open rfl rfl rfl (rexec_prim C (δ := { v := .pv (.lit (.bool ((mBut (whole b) (whole a)) != 0))) }) rfl rfl rfl rfl trivial rfl ?_) -- t30 binOp
        refine rvc_un (rexec_prim C (δ := { v := .pv (.lit (.bool ((mBut (whole b) (whole a)) != 0))) }) rfl rfl rfl rfl trivial rfl ?_) -- t31 pick
        refine rvc_nil ?_
        refine Awp.cond (b := ((mBut (whole b) (whole a)) != 0)) rfl (fun h4 => ?_) (fun h4 => ?_)
        ·
          replace hR := of_true h4 hR
          refine Awp.cons C (fun _ => .pure) (by kernel_rfl) ?_ -- region 2
          refine rvc_un (rexec_prim C (δ := { v := .pv (.lit (.bool false)) }) rfl rfl rfl rfl trivial rfl ?_) -- t4 assign
          refine rvc_nil ?_
          refine Awp.ret ?_
          subst hR
          exact ⟨.inl rfl, rfl⟩
        ·
          replace hR := of_false h4 hR
          refine Awp.skip ?_
          refine Awp.cons C (fun _ => .pure) (by kernel_rfl) ?_ -- region 3
          refine rvc_un (rexec_prim C (δ := { v := sS (some true) (eI .i64) [] }) rfl rfl rfl rfl trivial rfl ?_) -- t5 assign
          refine rvc_nil ?_
          refine Awp.seq ?_
          refine Awp.cons C (fun _ => .pure) (by kernel_rfl) ?_ -- region 4
          refine rvc_un (rexec_prim C (δ := { v := .ptr 3 1 }) rfl rfl rfl rfl trivial rfl ?_) -- t32 fieldAddr
          refine rvc_un (rexec_prim C (δ := { v := sS (some b.members.nil) eMember b.members.D }) rfl rfl rfl rfl trivial rfl ?_) -- t33 load
          refine rvc_un (rexec_prim C (δ := { v := .pv (.lit (.int .i64 (b.members.D.length : Int))) }) rfl rfl rfl rfl trivial rfl ?_) -- t34 call
          refine rvc_un (rexec_prim C (δ := { v := .pv (.lit (.int .i64 0)) }) rfl rfl rfl rfl trivial rfl ?_) -- t35 move
          refine rvc_nil ?_
          refine Awp.block ?_
          refine Awp.forR (σ := ((List Int))) (b.members.D.length) (fun i v => [(2, .ptr 2 0), (5, grow 900 (eI .i64) v), (33, sS (some b.members.nil) eMember b.members.D), (34, .pv (.lit (.int .i64 (b.members.D.length : Int)))), (35, .pv (.lit (.int .i64 (i : Int))))]) (fun i v => (growH 900 (eI .i64) v ++ ([(2, .cells [.pv (.lit (.int .i64 a.epoch)), sS (some a.members.nil) eMember a.members.D])]))) [2, 900] (fun i v => (follows_l0 a (b.members.D.drop i) i v = R) ∧ (v.length ≤ i)) [] ?_ ?_ (fun i stay h5 hR => ?_)
          · exact ⟨hR, (by first | omega | (simp <;> omega))⟩
          · exact ⟨fun b => b, WeakerR.ofL (Ks := [2, 900]) hI ⟨⟨rfl, rfl⟩, ⟨rfl, rfl⟩, ⟨rfl, rfl⟩, ⟨rfl, rfl⟩, ⟨rfl, rfl⟩, trivial⟩ (okH_grow (fun hne => absurd rfl hne) rfl rfl (okH_cons rfl rfl rfl rfl (okH_nil))) rfl⟩
          obtain ⟨hR, hi_stay⟩ := hR
          replace hi_stay : stay.length ≤ i := hi_stay
          by_cases h6 : stay = []
          ·
            refine Awp.wordsR [(2, .ptr 2 0), (5, sS (some stay.isEmpty) (eI .i64) stay), (33, sS (some b.members.nil) eMember b.members.D), (34, .pv (.lit (.int .i64 (b.members.D.length : Int)))), (35, .pv (.lit (.int .i64 (i : Int))))] [(2, .cells [.pv (.lit (.int .i64 a.epoch)), sS (some a.members.nil) eMember a.members.D])] [2] (WeakerR.ofL (Ks := [2]) hI ⟨⟨rfl, rfl⟩, ⟨(by exact grow_at_nil (b := 900) (e := (eI .i64)) (l := stay) rfl h6), rfl⟩, ⟨rfl, rfl⟩, ⟨rfl, rfl⟩, ⟨rfl, rfl⟩, trivial⟩ (okH_cons (look_nil h6 rfl) rfl rfl rfl (okH_nil)) rfl) ?_
            refine Awp.cons C (fun _ => .pure) (by kernel_rfl) ?_ -- region 5
            refine rvc_un (rexec_prim C (δ := { v := .pv (.lit (.bool (decide ((i : Int) < (b.members.D.length : Int))))) }) rfl rfl rfl rfl trivial rfl ?_)
            refine rvc_nil ?_
            refine Awp.seq ?_
            refine Awp.cond (b := (decide ((i : Int) < (b.members.D.length : Int)))) rfl (fun h7 => ?_) (fun h7 => ?_)
            ·
              have h8 : i < b.members.D.length := by have := of_decide_eq_true h7; omega
              obtain ⟨x, h9⟩ := getX h8
              rw [drop_at h9] at hR
              refine Awp.skip ?_
              refine Awp.seq ?_
              refine Awp.block ?_
              refine Awp.cons C (fun _ => .pure) (by kernel_rfl) ?_ -- region 6
              refine rvc_un (rexec_idxS C rfl rfl rfl rfl rfl rfl x (Int.natCast_nonneg _) h9 ?_) -- t37 indexAddr
              refine rvc_un (rexec_prim C (δ := { v := .agg [.pv (.lit (.int .i64 x.node)), .pv (.lit (.int .i64 x.site)), .pv (.lit (.bool x.fresh))] }) rfl rfl rfl rfl trivial rfl ?_) -- t38 load
              refine rvc_un (rexec_prim C (δ := { v := .ptr 7 0, new := [(7, .cells [.pv (.lit (.int .i64 0)), .pv (.lit (.int .i64 0)), .pv (.lit (.bool false))])] }) rfl rfl rfl rfl trivial rfl ?_) -- t7 alloc
              refine rvc_un (rexec_prim C (δ := { v := .undef, wr := [(7, some (.cells [.pv (.lit (.int .i64 x.node)), .pv (.lit (.int .i64 x.site)), .pv (.lit (.bool x.fresh))]))] }) rfl rfl rfl rfl trivial rfl ?_) -- tNone store
              refine rvc_nil ?_
              refine Awp.cons C (fun _ => .pure) (by kernel_rfl) ?_ -- region 7
              refine rvc_un (rexec_prim C (δ := { v := .agg [.pv (.lit (.int .i64 a.epoch)), sS (some a.members.nil) eMember a.members.D] }) rfl rfl rfl rfl trivial rfl ?_) -- t39 load
              refine rvc_un (rexec_prim C (δ := { v := .ptr 7 0 }) rfl rfl rfl rfl trivial rfl ?_) -- t40 fieldAddr
              refine rvc_un (rexec_prim C (δ := { v := .pv (.lit (.int .i64 x.node)) }) rfl rfl rfl rfl trivial rfl ?_) -- t41 load
              refine rvc_un (rexec_call hP C rfl rfl rfl (placeIn_calls a x.node hl1) ?_) -- t42 call
              refine rvc_un (rexec_prim C (δ := { v := .pv (.lit (.int .i64 (placeIn a x.node))) }) rfl rfl rfl rfl trivial rfl ?_) -- t8 assign
              refine rvc_nil ?_
              refine Awp.cons C (fun _ => .pure) (by kernel_rfl) ?_ -- region 8
              refine rvc_un (rexec_prim C (δ := { v := .pv (.lit (.int .i64 (placeIn a x.node))) }) rfl rfl rfl rfl trivial rfl ?_) -- t43 move
              refine rvc_un (rexec_prim C (δ := { v := .pv (.lit (.bool (decide ((placeIn a x.node) ≥ 0)))) }) rfl rfl rfl rfl trivial rfl ?_) -- t44 binOp
              refine rvc_nil ?_
              refine Awp.cond (b := (decide ((placeIn a x.node) ≥ 0))) rfl (fun h10 => ?_) (fun h10 => ?_)
              ·
                replace hR := of_true h10 hR
                refine Awp.region C (fun _ => .pure) (by kernel_rfl) ?_ -- region 9
                refine rvc_un (rexec_prim C (δ := { v := sS (some stay.isEmpty) (eI .i64) stay }) rfl rfl rfl rfl trivial rfl ?_) -- t45 move
                refine rvc_un (rexec_prim C (δ := { v := .pv (.lit (.int .i64 (placeIn a x.node))) }) rfl rfl rfl rfl trivial rfl ?_) -- t46 move
                refine rvc_un (rexec_buildSliceF C (eI .i64) [(placeIn a x.node)] rfl rfl rfl rfl rfl rfl rfl (by decide) rfl ?_) -- t47 buildSlice
                refine rvc_un (rexec_appendG C rfl rfl rfl rfl rfl rfl rfl rfl (fun _ h => by cases h) rfl (en := (eI .i64)) (l := stay) (D := [(placeIn a x.node)]) rfl rfl h6 (by rw [h6]; rfl) (by simp) (by have := check_len (c := a); have := check_le6 (c := a); have := check_len (c := b); have := check_le6 (c := b); have := placeIn_lt a x.node; have := eq_of_bne_false h1; have := eq_of_bne_false h2; have := of_decide_eq_false h3; have := eq_of_bne_false h4; have := of_decide_eq_true h7; have := of_decide_eq_true h10; first | omega | (simp <;> omega)) (by decide) (nn := (stay ++ [(placeIn a x.node)]).length) (by simp) ?_) -- t48 call
                refine rvc_un (rexec_prim C (δ := { v := .sl 48 0 ((stay ++ [(placeIn a x.node)]).length) 1 false }) rfl rfl rfl rfl trivial rfl ?_) -- t5 assign
                refine rvc_nil ?_
                refine Awp.region C (fun _ => .pure) (by kernel_rfl) ?_ -- region 10
                refine rvc_un (rexec_prim C (δ := { v := .pv (.lit (.int .i64 (IntKind.i64.wrap ((i : Int) + 1)))) }) rfl rfl rfl rfl trivial rfl ?_) -- t49 binOp
                refine rvc_un (rexec_prim C (δ := { v := .pv (.lit (.int .i64 (IntKind.i64.wrap ((i : Int) + 1)))) }) rfl rfl rfl rfl trivial rfl ?_) -- t35 move
                refine rvc_nil ?_
                refine ⟨h8, (stay ++ [(placeIn a x.node)]), ?_, ?_⟩
                · exact ⟨hR, (by first | omega | (simp <;> omega))⟩
                · exact ⟨fun b => bif b == 900 then 48 else (fun b => b) b, WeakerR.ofL (Ks := [2, 900]) hI ⟨⟨rfl, rfl⟩, ⟨grow_to rfl rfl app_ne rfl rfl, grow_within rfl⟩, ⟨rfl, rfl⟩, ⟨rfl, rfl⟩, ⟨lit_cast (wrap_i64 (by omega) (by omega)), rfl⟩, trivial⟩ (okH_grow (fun _ => rfl) rfl rfl (okH_cons rfl rfl rfl rfl (okH_nil))) rfl⟩
              ·
                replace hR := of_false h10 hR
                refine Awp.skip ?_
                refine Awp.region C (fun _ => .pure) (by kernel_rfl) ?_ -- region 10
                refine rvc_un (rexec_prim C (δ := { v := .pv (.lit (.int .i64 (IntKind.i64.wrap ((i : Int) + 1)))) }) rfl rfl rfl rfl trivial rfl ?_) -- t49 binOp
                refine rvc_un (rexec_prim C (δ := { v := .pv (.lit (.int .i64 (IntKind.i64.wrap ((i : Int) + 1)))) }) rfl rfl rfl rfl trivial rfl ?_) -- t35 move
                refine rvc_nil ?_
                refine ⟨h8, stay, ?_, ?_⟩
                · exact ⟨hR, (by first | omega | (simp <;> omega))⟩
                · exact ⟨fun b => b, WeakerR.ofL (Ks := [2, 900]) hI ⟨⟨rfl, rfl⟩, ⟨grow_to_nil rfl h6 (.inr rfl), grow_within rfl⟩, ⟨rfl, rfl⟩, ⟨rfl, rfl⟩, ⟨lit_cast (wrap_i64 (by omega) (by omega)), rfl⟩, trivial⟩ (okH_grow (fun hne => absurd h6 hne) rfl rfl (okH_cons rfl rfl rfl rfl (okH_nil))) rfl⟩
            ·
              have h8 : ¬ i < b.members.D.length := by have := of_decide_eq_false h7; omega
              rw [drop_end h8] at hR
              refine Awp.exit ?_
              refine Awp.cons C (fun _ => .pure) (by kernel_rfl) ?_ -- region 11
              refine rvc_un (rexec_prim C (δ := { v := sS (some stay.isEmpty) (eI .i64) stay }) rfl rfl rfl rfl trivial rfl ?_) -- t50 move
              refine rvc_un (rexec_call hP C rfl rfl rfl (isSorted_calls (Sl.mk stay.isEmpty stay) (by show stay.length ≤ 1000000; have := check_len (c := a); have := check_le6 (c := a); have := check_len (c := b); have := check_le6 (c := b); have := eq_of_bne_false h1; have := eq_of_bne_false h2; have := of_decide_eq_false h3; have := eq_of_bne_false h4; have := of_decide_eq_false h7; omega)) ?_) -- t51 call
              refine rvc_un (rexec_prim C (δ := { v := .pv (.lit (.bool (isSorted (Sl.mk stay.isEmpty stay)))) }) rfl rfl rfl rfl trivial rfl ?_) -- t52 move
              refine rvc_case 52 (isSorted (Sl.mk stay.isEmpty stay)) rfl (fun h11 => ?_) (fun h11 => ?_)
              ·
                replace hR := of_true h11 hR
                refine rvc_open rfl rfl rfl (rexec_prim C (δ := { v := sS (some stay.isEmpty) (eI .i64) stay }) rfl rfl rfl rfl trivial rfl ?_) -- t53 move
                refine rvc_open rfl rfl rfl (rexec_prim C (δ := { v := .pv (.lit (.int .i64 (stay.length : Int))) }) rfl rfl rfl rfl trivial rfl ?_) -- t54 call
                refine rvc_open rfl rfl rfl (rexec_prim C (δ := { v := .pv (.lit (.bool (decide ((stay.length : Int) > 0)))) }) rfl rfl rfl rfl trivial rfl ?_) -- t55 binOp
                refine rvc_un (rexec_prim C (δ := { v := .pv (.lit (.bool (decide ((stay.length : Int) > 0)))) }) rfl rfl rfl rfl trivial rfl ?_) -- t56 pick
                refine rvc_un (rexec_prim C (δ := { v := .pv (.lit (.bool (decide ((stay.length : Int) > 0)))) }) rfl rfl rfl rfl trivial rfl ?_) -- t4 assign
                refine rvc_nil ?_
                refine Awp.ret ?_
                subst hR
                exact ⟨.inl rfl, rfl⟩
              ·
                replace hR := of_false h11 hR
                refine rvc_shut rfl rfl rfl rfl ?_ -- t53
                refine rvc_shut rfl rfl rfl rfl ?_ -- t54
                refine rvc_shut rfl rfl rfl rfl ?_ -- t55
                refine rvc_un (rexec_prim C (δ := { v := .pv (.lit (.bool false)) }) rfl rfl rfl rfl trivial rfl ?_) -- t56 pick
                refine rvc_un (rexec_prim C (δ := { v := .pv (.lit (.bool false)) }) rfl rfl rfl rfl trivial rfl ?_) -- t4 assign
                refine rvc_nil ?_
                refine Awp.ret ?_
                subst hR
                exact ⟨.inl rfl, rfl⟩
          ·
            refine Awp.wordsR [(2, .ptr 2 0), (5, .sl 900 0 stay.length 1 false), (33, sS (some b.members.nil) eMember b.members.D), (34, .pv (.lit (.int .i64 (b.members.D.length : Int)))), (35, .pv (.lit (.int .i64 (i : Int))))] [(900, .cells (encC (eI .i64) stay)), (2, .cells [.pv (.lit (.int .i64 a.epoch)), sS (some a.members.nil) eMember a.members.D])] [2, 900] (WeakerR.ofL (Ks := [2, 900]) hI ⟨⟨rfl, rfl⟩, ⟨(by exact grow_at_cons (b := 900) (b' := 900) (e := (eI .i64)) (l := stay) rfl h6 rfl rfl rfl), rfl⟩, ⟨rfl, rfl⟩, ⟨rfl, rfl⟩, ⟨rfl, rfl⟩, trivial⟩ (okH_list (look_cons h6 rfl) rfl rfl (okH_cons (look_cons h6 rfl) rfl rfl rfl (okH_nil))) rfl) ?_
            refine Awp.cons C (fun _ => .pure) (by kernel_rfl) ?_ -- region 5
            refine rvc_un (rexec_prim C (δ := { v := .pv (.lit (.bool (decide ((i : Int) < (b.members.D.length : Int))))) }) rfl rfl rfl rfl trivial rfl ?_)
            refine rvc_nil ?_
            refine Awp.seq ?_
            refine Awp.cond (b := (decide ((i : Int) < (b.members.D.length : Int)))) rfl (fun h12 => ?_) (fun h12 => ?_)
            ·
              have h13 : i < b.members.D.length := by have := of_decide_eq_true h12; omega
              obtain ⟨x, h14⟩ := getX h13
              rw [drop_at h14] at hR
              refine Awp.skip ?_
              refine Awp.seq ?_
              refine Awp.block ?_
              refine Awp.cons C (fun _ => .pure) (by kernel_rfl) ?_ -- region 6
              refine rvc_un (rexec_idxS C rfl rfl rfl rfl rfl rfl x (Int.natCast_nonneg _) h14 ?_) -- t37 indexAddr
              refine rvc_un (rexec_prim C (δ := { v := .agg [.pv (.lit (.int .i64 x.node)), .pv (.lit (.int .i64 x.site)), .pv (.lit (.bool x.fresh))] }) rfl rfl rfl rfl trivial rfl ?_) -- t38 load
              refine rvc_un (rexec_prim C (δ := { v := .ptr 7 0, new := [(7, .cells [.pv (.lit (.int .i64 0)), .pv (.lit (.int .i64 0)), .pv (.lit (.bool false))])] }) rfl rfl rfl rfl trivial rfl ?_) -- t7 alloc
              refine rvc_un (rexec_prim C (δ := { v := .undef, wr := [(7, some (.cells [.pv (.lit (.int .i64 x.node)), .pv (.lit (.int .i64 x.site)), .pv (.lit (.bool x.fresh))]))] }) rfl rfl rfl rfl trivial rfl ?_) -- tNone store
              refine rvc_nil ?_
              refine Awp.cons C (fun _ => .pure) (by kernel_rfl) ?_ -- region 7
              refine rvc_un (rexec_prim C (δ := { v := .agg [.pv (.lit (.int .i64 a.epoch)), sS (some a.members.nil) eMember a.members.D] }) rfl rfl rfl rfl trivial rfl ?_) -- t39 load
              refine rvc_un (rexec_prim C (δ := { v := .ptr 7 0 }) rfl rfl rfl rfl trivial rfl ?_) -- t40 fieldAddr
              refine rvc_un (rexec_prim C (δ := { v := .pv (.lit (.int .i64 x.node)) }) rfl rfl rfl rfl trivial rfl ?_) -- t41 load
              refine rvc_un (rexec_call hP C rfl rfl rfl (placeIn_calls a x.node hl1) ?_) -- t42 call
              refine rvc_un (rexec_prim C (δ := { v := .pv (.lit (.int .i64 (placeIn a x.node))) }) rfl rfl rfl rfl trivial rfl ?_) -- t8 assign
              refine rvc_nil ?_
              refine Awp.cons C (fun _ => .pure) (by kernel_rfl) ?_ -- region 8
              refine rvc_un (rexec_prim C (δ := { v := .pv (.lit (.int .i64 (placeIn a x.node))) }) rfl rfl rfl rfl trivial rfl ?_) -- t43 move
              refine rvc_un (rexec_prim C (δ := { v := .pv (.lit (.bool (decide ((placeIn a x.node) ≥ 0)))) }) rfl rfl rfl rfl trivial rfl ?_) -- t44 binOp
              refine rvc_nil ?_
              refine Awp.cond (b := (decide ((placeIn a x.node) ≥ 0))) rfl (fun h15 => ?_) (fun h15 => ?_)
              ·
                replace hR := of_true h15 hR
                refine Awp.region C (fun _ => .pure) (by kernel_rfl) ?_ -- region 9
                refine rvc_un (rexec_prim C (δ := { v := .sl 900 0 stay.length 1 false }) rfl rfl rfl rfl trivial rfl ?_) -- t45 move
                refine rvc_un (rexec_prim C (δ := { v := .pv (.lit (.int .i64 (placeIn a x.node))) }) rfl rfl rfl rfl trivial rfl ?_) -- t46 move
                refine rvc_un (rexec_buildSliceF C (eI .i64) [(placeIn a x.node)] rfl rfl rfl rfl rfl rfl rfl (by decide) rfl ?_) -- t47 buildSlice
                refine rvc_un (rexec_append C rfl rfl rfl rfl rfl rfl rfl rfl (fun _ h => by cases h) rfl (en := (eI .i64)) (D0 := stay) (D := [(placeIn a x.node)]) rfl rfl rfl rfl (by have := check_len (c := a); have := check_le6 (c := a); have := check_len (c := b); have := check_le6 (c := b); have := placeIn_lt a x.node; have := eq_of_bne_false h1; have := eq_of_bne_false h2; have := of_decide_eq_false h3; have := eq_of_bne_false h4; have := of_decide_eq_true h12; have := of_decide_eq_true h15; first | omega | (simp <;> omega)) (by decide) (nn := (stay ++ [(placeIn a x.node)]).length) (by simp) ?_) -- t48 call
                refine rvc_un (rexec_prim C (δ := { v := .sl 48 0 ((stay ++ [(placeIn a x.node)]).length) 1 false }) rfl rfl rfl rfl trivial rfl ?_) -- t5 assign
                refine rvc_nil ?_
                refine Awp.region C (fun _ => .pure) (by kernel_rfl) ?_ -- region 10
                refine rvc_un (rexec_prim C (δ := { v := .pv (.lit (.int .i64 (IntKind.i64.wrap ((i : Int) + 1)))) }) rfl rfl rfl rfl trivial rfl ?_) -- t49 binOp
                refine rvc_un (rexec_prim C (δ := { v := .pv (.lit (.int .i64 (IntKind.i64.wrap ((i : Int) + 1)))) }) rfl rfl rfl rfl trivial rfl ?_) -- t35 move
                refine rvc_nil ?_
                refine ⟨h13, (stay ++ [(placeIn a x.node)]), ?_, ?_⟩
                · exact ⟨hR, (by first | omega | (simp <;> omega))⟩
                · exact ⟨fun b => bif b == 900 then 48 else (fun b => b) b, WeakerR.ofL (Ks := [2, 900]) hI ⟨⟨rfl, rfl⟩, ⟨grow_to rfl rfl app_ne rfl rfl, grow_within rfl⟩, ⟨rfl, rfl⟩, ⟨rfl, rfl⟩, ⟨lit_cast (wrap_i64 (by omega) (by omega)), rfl⟩, trivial⟩ (okH_grow (fun _ => rfl) rfl rfl (okH_cons rfl rfl rfl rfl (okH_nil))) rfl⟩
              ·
                replace hR := of_false h15 hR
                refine Awp.skip ?_
                refine Awp.region C (fun _ => .pure) (by kernel_rfl) ?_ -- region 10
                refine rvc_un (rexec_prim C (δ := { v := .pv (.lit (.int .i64 (IntKind.i64.wrap ((i : Int) + 1)))) }) rfl rfl rfl rfl trivial rfl ?_) -- t49 binOp
                refine rvc_un (rexec_prim C (δ := { v := .pv (.lit (.int .i64 (IntKind.i64.wrap ((i : Int) + 1)))) }) rfl rfl rfl rfl trivial rfl ?_) -- t35 move
                refine rvc_nil ?_
                refine ⟨h13, stay, ?_, ?_⟩
                · exact ⟨hR, (by first | omega | (simp <;> omega))⟩
                · exact ⟨fun b => b, WeakerR.ofL (Ks := [2, 900]) hI ⟨⟨rfl, rfl⟩, ⟨grow_to rfl rfl h6 rfl rfl, grow_within rfl⟩, ⟨rfl, rfl⟩, ⟨rfl, rfl⟩, ⟨lit_cast (wrap_i64 (by omega) (by omega)), rfl⟩, trivial⟩ (okH_grow (fun _ => rfl) rfl rfl (okH_cons rfl rfl rfl rfl (okH_nil))) rfl⟩
            ·
              have h13 : ¬ i < b.members.D.length := by have := of_decide_eq_false h12; omega
              rw [drop_end h13] at hR
              refine Awp.exit ?_
              refine Awp.freezeW 900 (encL (eI .i64) stay) ?_ [(5, sS (some stay.isEmpty) (eI .i64) stay)] [(2, .cells [.pv (.lit (.int .i64 a.epoch)), sS (some a.members.nil) eMember a.members.D])] ?_ ?_ ?_
              · rfl
              · exact ⟨⟨_, rfl, .inl (.inr ⟨_, _, _, rfl, by rw [ne_isEmpty h6]; rfl⟩)⟩, trivial⟩
              · exact ⟨⟨(by show (2 : Nat) ≠ 900; decide), .inl rfl⟩, trivial⟩
              refine Awp.cons C (fun _ => .pure) (by kernel_rfl) ?_ -- region 11
              refine rvc_un (rexec_prim C (δ := { v := sS (some stay.isEmpty) (eI .i64) stay }) rfl rfl rfl rfl trivial rfl ?_) -- t50 move
              refine rvc_un (rexec_call hP C rfl rfl rfl (isSorted_calls (Sl.mk stay.isEmpty stay) (by show stay.length ≤ 1000000; have := check_len (c := a); have := check_le6 (c := a); have := check_len (c := b); have := check_le6 (c := b); have := eq_of_bne_false h1; have := eq_of_bne_false h2; have := of_decide_eq_false h3; have := eq_of_bne_false h4; have := of_decide_eq_false h12; omega)) ?_) -- t51 call
              refine rvc_un (rexec_prim C (δ := { v := .pv (.lit (.bool (isSorted (Sl.mk stay.isEmpty stay)))) }) rfl rfl rfl rfl trivial rfl ?_) -- t52 move
              refine rvc_case 52 (isSorted (Sl.mk stay.isEmpty stay)) rfl (fun h16 => ?_) (fun h16 => ?_)
              ·
                replace hR := of_true h16 hR
                refine rvc_open rfl rfl rfl (rexec_prim C (δ := { v := sS (some stay.isEmpty) (eI .i64) stay }) rfl rfl rfl rfl trivial rfl ?_) -- t53 move
                refine rvc_open rfl rfl rfl (rexec_prim C (δ := { v := .pv (.lit (.int .i64 (stay.length : Int))) }) rfl rfl rfl rfl trivial rfl ?_) -- t54 call
                refine rvc_open rfl rfl rfl (rexec_prim C (δ := { v := .pv (.lit (.bool (decide ((stay.length : Int) > 0)))) }) rfl rfl rfl rfl trivial rfl ?_) -- t55 binOp
                refine rvc_un (rexec_prim C (δ := { v := .pv (.lit (.bool (decide ((stay.length : Int) > 0)))) }) rfl rfl rfl rfl trivial rfl ?_) -- t56 pick
                refine rvc_un (rexec_prim C (δ := { v := .pv (.lit (.bool (decide ((stay.length : Int) > 0)))) }) rfl rfl rfl rfl trivial rfl ?_) -- t4 assign
                refine rvc_nil ?_
                refine Awp.ret ?_
                subst hR
                exact ⟨.inl rfl, rfl⟩
              ·
                replace hR := of_false h16 hR
                refine rvc_shut rfl rfl rfl rfl ?_ -- t53
                refine rvc_shut rfl rfl rfl rfl ?_ -- t54
                refine rvc_shut rfl rfl rfl rfl ?_ -- t55
                refine rvc_un (rexec_prim C (δ := { v := .pv (.lit (.bool false)) }) rfl rfl rfl rfl trivial rfl ?_) -- t56 pick
                refine rvc_un (rexec_prim C (δ := { v := .pv (.lit (.bool false)) }) rfl rfl rfl rfl trivial rfl ?_) -- t4 assign
                refine rvc_nil ?_
                refine Awp.ret ?_
                subst hR
                exact ⟨.inl rfl, rfl⟩

end Go.Proofs.Ytjhphpoihadmkaa
