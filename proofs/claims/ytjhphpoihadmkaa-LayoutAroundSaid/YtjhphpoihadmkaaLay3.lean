/- Changes of chains, the examples, a law. No conditions. -/
import Derived.Test.YtjhphpoihadmkaaLay2
import Derived.Test.YtjhphpoihadmkaaLayI
namespace Go.Proofs.Ytjhphpoihadmkaa
open Go.Am
def join_l0 (c : Chain) (m : Member) : Nat → Int → Chain × Int
  | 0, _ => default
  | nn + 1, i => (bif (decide (i < (c.members.D.length : Int))) then (bif (decide ((c.members.D[i.toNat]!.site) ≤ m.site)) then join_l0 c m nn (IntKind.i64.wrap (i + 1)) else (bif (i == 0) then ((Chain.mk 0 (Sl.mk true [])), 152) else ((after c (Sl.mk false (insertL c.members.D i.toNat [(Member.mk m.node m.site true)]))), 0))) else (bif (i == 0) then ((Chain.mk 0 (Sl.mk true [])), 152) else ((after c (Sl.mk false (insertL c.members.D i.toNat [(Member.mk m.node m.site true)]))), 0)))
def join (c : Chain) (m : Member) : Chain × Int :=
  (bif ((check c) != 0) then ((Chain.mk 0 (Sl.mk true [])), (check c)) else (bif (!(member (Member.mk m.node m.site true))) then ((Chain.mk 0 (Sl.mk true [])), 81) else (bif (decide ((placeIn c m.node) ≥ 0)) then ((Chain.mk 0 (Sl.mk true [])), 82) else (bif (decide (c.epoch ≥ 1099511627776)) then ((Chain.mk 0 (Sl.mk true [])), 5) else join_l0 c m ((c.members.D.length - (0 : Int).toNat) + 1) 0))))
theorem join_calls (c : Chain) (m : Member) (hn : c.members.nil = true → c.members.D = []) (hl1 : c.members.D.length ≤ 1000000) : PCalls Try.prog 36 [.agg [.pv (.lit (.int .i64 c.epoch)), sS (some c.members.nil) eMember c.members.D], .agg [.pv (.lit (.int .i64 m.node)), .pv (.lit (.int .i64 m.site)), .pv (.lit (.bool m.fresh))]] (.tup [.agg [.pv (.lit (.int .i64 ((join c m).1.epoch))), sS (some (join c m).1.members.nil) eMember ((join c m).1.members.D)], .pv (.lit (.int .i64 ((join c m).2)))]) := by
  generalize hR : join c m = R
  refine PCalls.of_body tabOk Try.func36 rfl rfl rfl rfl rfl mixed fun E hP C hI => ?_
  refine Awp.cons C (fun _ => .pure) (by kernel_rfl) ?_ -- region 0
  refine rvc_un (rexec_prim C (δ := { v := .ptr 2 0, new := [(2, .cells [.pv (.lit (.int .i64 c.epoch)), sS (some c.members.nil) eMember c.members.D])] }) rfl rfl rfl rfl trivial rfl ?_) -- t2 box
  refine rvc_un (rexec_prim C (δ := { v := .ptr 3 0, new := [(3, .cells [.pv (.lit (.int .i64 m.node)), .pv (.lit (.int .i64 m.site)), .pv (.lit (.bool m.fresh))])] }) rfl rfl rfl rfl trivial rfl ?_) -- t3 box
  refine rvc_un (rexec_prim C (δ := { v := .ptr 4 0, new := [(4, .cells [.pv (.lit (.int .i64 0)), sS (some true) eMember []])] }) rfl rfl rfl rfl trivial rfl ?_) -- t4 alloc
  refine rvc_un (rexec_prim C (δ := { v := .pv (.lit (.int .i64 0)) }) rfl rfl rfl rfl trivial rfl ?_) -- t5 assign
  refine rvc_nil ?_
  refine Awp.seq ?_
  refine Awp.cons C (fun _ => .pure) (by kernel_rfl) ?_ -- region 1
  refine rvc_un (rexec_prim C (δ := { v := .agg [.pv (.lit (.int .i64 c.epoch)), sS (some c.members.nil) eMember c.members.D] }) rfl rfl rfl rfl trivial rfl ?_) -- t8 load
  refine rvc_un (rexec_call hP C rfl rfl rfl (check_calls c (Nat.le_trans hl1 (by decide))) ?_) -- t9 call
  refine rvc_un (rexec_prim C (δ := { v := .pv (.lit (.int .i64 (check c))) }) rfl rfl rfl rfl trivial rfl ?_) -- t6 assign
  refine rvc_nil ?_
  refine Awp.cons C (fun _ => .pure) (by kernel_rfl) ?_ -- region 2
  refine rvc_un (rexec_prim C (δ := { v := .pv (.lit (.int .i64 (check c))) }) rfl rfl rfl rfl trivial rfl ?_) -- t10 move
  refine rvc_un (rexec_prim C (δ := { v := .pv (.lit (.bool ((check c) != 0))) }) rfl rfl rfl rfl trivial rfl ?_) -- t11 binOp
  refine rvc_nil ?_
  refine Awp.cond (b := ((check c) != 0)) rfl (fun h1 => ?_) (fun h1 => ?_)
  ·
    replace hR := of_true h1 hR
    refine Awp.cons C (fun _ => .pure) (by kernel_rfl) ?_ -- region 3
    refine rvc_un (rexec_prim C (δ := { v := .agg [.pv (.lit (.int .i64 0)), sS (some true) eMember []] }) rfl rfl rfl rfl trivial rfl ?_) -- t12 build
    refine rvc_un (rexec_prim C (δ := { v := .pv (.lit (.int .i64 (check c))) }) rfl rfl rfl rfl trivial rfl ?_) -- t13 move
    refine rvc_un (rexec_prim C (δ := { v := .undef, wr := [(4, some (.cells [.pv (.lit (.int .i64 0)), sS (some true) eMember []]))] }) rfl rfl rfl rfl trivial rfl ?_) -- tNone store
    refine rvc_un (rexec_prim C (δ := { v := .pv (.lit (.int .i64 (check c))) }) rfl rfl rfl rfl trivial rfl ?_) -- t5 assign
    refine rvc_nil ?_
    refine Awp.ret ?_
    subst hR
    exact ⟨.inl rfl, rfl⟩
  ·
    replace hR := of_false h1 hR
    refine Awp.skip ?_
    refine Awp.cons C (fun _ => .pure) (by kernel_rfl) ?_ -- region 4
    refine rvc_un (rexec_prim C (δ := { v := .ptr 3 2 }) rfl rfl rfl rfl trivial rfl ?_) -- t14 fieldAddr
    refine rvc_un (rexec_prim C (δ := { v := .undef, wr := [(3, some (.cells [.pv (.lit (.int .i64 m.node)), .pv (.lit (.int .i64 m.site)), .pv (.lit (.bool true))]))] }) rfl rfl rfl rfl trivial rfl ?_) -- tNone store
    refine rvc_nil ?_
    refine Awp.seq ?_
    refine Awp.block ?_
    refine Awp.cons C (fun _ => .pure) (by kernel_rfl) ?_ -- region 5
    refine rvc_un (rexec_prim C (δ := { v := .agg [.pv (.lit (.int .i64 m.node)), .pv (.lit (.int .i64 m.site)), .pv (.lit (.bool true))] }) rfl rfl rfl rfl trivial rfl ?_) -- t16 load
    refine rvc_un (rexec_call hP C rfl rfl rfl (member_calls (Member.mk m.node m.site true)) ?_) -- t17 call
    refine rvc_un (rexec_prim C (δ := { v := .pv (.lit (.bool (!(member (Member.mk m.node m.site true))))) }) rfl rfl rfl rfl trivial rfl ?_) -- t18 unOp
    refine rvc_un (rexec_prim C (δ := { v := .pv (.lit (.bool (!(member (Member.mk m.node m.site true))))) }) rfl rfl rfl rfl trivial rfl ?_) -- t15 assign
    refine rvc_nil ?_
    refine Awp.cond (b := (!(member (Member.mk m.node m.site true)))) rfl (fun h2 => ?_) (fun h2 => ?_)
    ·
      replace hR := of_true h2 hR
      refine Awp.cons C (fun _ => .pure) (by kernel_rfl) ?_ -- region 6
      refine rvc_un (rexec_prim C (δ := { v := .agg [.pv (.lit (.int .i64 0)), sS (some true) eMember []] }) rfl rfl rfl rfl trivial rfl ?_) -- t19 build
      refine rvc_un (rexec_prim C (δ := { v := .undef, wr := [(4, some (.cells [.pv (.lit (.int .i64 0)), sS (some true) eMember []]))] }) rfl rfl rfl rfl trivial rfl ?_) -- tNone store
      refine rvc_un (rexec_prim C (δ := { v := .pv (.lit (.int .i64 81)) }) rfl rfl rfl rfl trivial rfl ?_) -- t5 assign
      refine rvc_nil ?_
      refine Awp.ret ?_
      subst hR
      exact ⟨.inl rfl, rfl⟩
    ·
      replace hR := of_false h2 hR
      refine Awp.cons C (fun _ => .pure) (by kernel_rfl) ?_ -- region 7
      refine rvc_un (rexec_prim C (δ := { v := .agg [.pv (.lit (.int .i64 c.epoch)), sS (some c.members.nil) eMember c.members.D] }) rfl rfl rfl rfl trivial rfl ?_) -- t21 load
      refine rvc_un (rexec_prim C (δ := { v := .ptr 3 0 }) rfl rfl rfl rfl trivial rfl ?_) -- t22 fieldAddr
      refine rvc_un (rexec_prim C (δ := { v := .pv (.lit (.int .i64 m.node)) }) rfl rfl rfl rfl trivial rfl ?_) -- t23 load
      refine rvc_un (rexec_call hP C rfl rfl rfl (placeIn_calls c m.node (Nat.le_trans hl1 (by decide))) ?_) -- t24 call
      refine rvc_un (rexec_prim C (δ := { v := .pv (.lit (.bool (decide ((placeIn c m.node) ≥ 0)))) }) rfl rfl rfl rfl trivial rfl ?_) -- t25 binOp
      refine rvc_un (rexec_prim C (δ := { v := .pv (.lit (.bool (decide ((placeIn c m.node) ≥ 0)))) }) rfl rfl rfl rfl trivial rfl ?_) -- t20 assign
      refine rvc_nil ?_
      refine Awp.cond (b := (decide ((placeIn c m.node) ≥ 0))) rfl (fun h3 => ?_) (fun h3 => ?_)
      ·
        replace hR := of_true h3 hR
        refine Awp.cons C (fun _ => .pure) (by kernel_rfl) ?_ -- region 8
        refine rvc_un (rexec_prim C (δ := { v := .agg [.pv (.lit (.int .i64 0)), sS (some true) eMember []] }) rfl rfl rfl rfl trivial rfl ?_) -- t26 build
        refine rvc_un (rexec_prim C (δ := { v := .undef, wr := [(4, some (.cells [.pv (.lit (.int .i64 0)), sS (some true) eMember []]))] }) rfl rfl rfl rfl trivial rfl ?_) -- tNone store
        refine rvc_un (rexec_prim C (δ := { v := .pv (.lit (.int .i64 82)) }) rfl rfl rfl rfl trivial rfl ?_) -- t5 assign
        refine rvc_nil ?_
        refine Awp.ret ?_
        subst hR
        exact ⟨.inl rfl, rfl⟩
      ·
        replace hR := of_false h3 hR
        refine Awp.cons C (fun _ => .pure) (by kernel_rfl) ?_ -- region 9
        refine rvc_un (rexec_prim C (δ := { v := .ptr 2 0 }) rfl rfl rfl rfl trivial rfl ?_) -- t28 fieldAddr
        refine rvc_un (rexec_prim C (δ := { v := .pv (.lit (.int .i64 c.epoch)) }) rfl rfl rfl rfl trivial rfl ?_) -- t29 load
        refine rvc_un (rexec_prim C (δ := { v := .pv (.lit (.bool (decide (c.epoch ≥ 1099511627776)))) }) rfl rfl rfl rfl trivial rfl ?_) -- t30 binOp
        refine rvc_un (rexec_prim C (δ := { v := .pv (.lit (.bool (decide (c.epoch ≥ 1099511627776)))) }) rfl rfl rfl rfl trivial rfl ?_) -- t27 assign
        refine rvc_nil ?_
        refine Awp.cond (b := (decide (c.epoch ≥ 1099511627776))) rfl (fun h4 => ?_) (fun h4 => ?_)
        ·
          replace hR := of_true h4 hR
          refine Awp.cons C (fun _ => .pure) (by kernel_rfl) ?_ -- region 10
          refine rvc_un (rexec_prim C (δ := { v := .agg [.pv (.lit (.int .i64 0)), sS (some true) eMember []] }) rfl rfl rfl rfl trivial rfl ?_) -- t31 build
          refine rvc_un (rexec_prim C (δ := { v := .undef, wr := [(4, some (.cells [.pv (.lit (.int .i64 0)), sS (some true) eMember []]))] }) rfl rfl rfl rfl trivial rfl ?_) -- tNone store
          refine rvc_un (rexec_prim C (δ := { v := .pv (.lit (.int .i64 5)) }) rfl rfl rfl rfl trivial rfl ?_) -- t5 assign
          refine rvc_nil ?_
          refine Awp.ret ?_
          subst hR
          exact ⟨.inl rfl, rfl⟩
        ·
          replace hR := of_false h4 hR
          refine Awp.skip ?_
          refine Awp.cons C (fun _ => .pure) (by kernel_rfl) ?_ -- region 11
          refine rvc_un (rexec_prim C (δ := { v := .pv (.lit (.int .i64 0)) }) rfl rfl rfl rfl trivial rfl ?_) -- t7 assign
          refine rvc_nil ?_
          refine Awp.seq ?_
          refine Awp.block ?_
          refine Awp.forM (σ := Int) (fun v => [(2, .ptr 2 0), (3, .ptr 3 0), (4, .ptr 4 0), (7, .pv (.lit (.int .i64 v)))]) (fun v => [(2, .cells [.pv (.lit (.int .i64 c.epoch)), sS (some c.members.nil) eMember c.members.D]), (3, .cells [.pv (.lit (.int .i64 m.node)), .pv (.lit (.int .i64 m.site)), .pv (.lit (.bool true))]), (4, .cells [.pv (.lit (.int .i64 0)), sS (some true) eMember []])]) [2, 3, 4] (fun n v => n = (c.members.D.length - (v : Int).toNat) ∧ join_l0 c m ((c.members.D.length - (v : Int).toNat) + 1) v = R ∧ (0 ≤ v ∧ v ≤ (c.members.D.length : Int))) ((c.members.D.length - (0 : Int).toNat)) 0 ?_ ?_ (fun _ i h5 => ?_)
          · exact ⟨rfl, hR, by simp⟩
          · exact ⟨fun b => b, WeakerR.ofL (Ks := [2, 3, 4]) hI ⟨⟨rfl, rfl⟩, ⟨rfl, rfl⟩, ⟨rfl, rfl⟩, ⟨rfl, rfl⟩, trivial⟩ (okH_cons rfl rfl rfl rfl (okH_cons rfl rfl rfl rfl (okH_cons rfl rfl rfl rfl (okH_nil)))) rfl⟩
          obtain ⟨rfl, hR, hV⟩ := h5
          refine Awp.seq ?_
          refine Awp.cons C (fun _ => .pure) (by kernel_rfl) ?_ -- region 12
          refine rvc_un (rexec_prim C (δ := { v := .pv (.lit (.int .i64 i)) }) rfl rfl rfl rfl trivial rfl ?_) -- t32 move
          refine rvc_un (rexec_prim C (δ := { v := .ptr 2 1 }) rfl rfl rfl rfl trivial rfl ?_) -- t33 fieldAddr
          refine rvc_un (rexec_prim C (δ := { v := sS (some c.members.nil) eMember c.members.D }) rfl rfl rfl rfl trivial rfl ?_) -- t34 load
          refine rvc_un (rexec_prim C (δ := { v := .pv (.lit (.int .i64 (c.members.D.length : Int))) }) rfl rfl rfl rfl trivial rfl ?_) -- t35 call
          refine rvc_un (rexec_prim C (δ := { v := .pv (.lit (.bool (decide (i < (c.members.D.length : Int))))) }) rfl rfl rfl rfl trivial rfl ?_) -- t36 binOp
          refine rvc_un (rexec_prim C (δ := { v := .pv (.lit (.bool (decide (i < (c.members.D.length : Int))))) }) rfl rfl rfl rfl trivial rfl ?_) -- t37 move
          refine rvc_case 37 (decide (i < (c.members.D.length : Int))) rfl (fun h7 => ?_) (fun h7 => ?_)
          ·
            replace hR := of_true h7 hR
            refine rvc_open rfl rfl rfl (rexec_prim C (δ := { v := .ptr 2 1 }) rfl rfl rfl rfl trivial rfl ?_) -- t38 fieldAddr
            refine rvc_open rfl rfl rfl (rexec_prim C (δ := { v := sS (some c.members.nil) eMember c.members.D }) rfl rfl rfl rfl trivial rfl ?_) -- t39 load
            refine rvc_open rfl rfl rfl (rexec_prim C (δ := { v := .pv (.lit (.int .i64 i)) }) rfl rfl rfl rfl trivial rfl ?_) -- t40 move
            have h8 : c.members.D[i.toNat]? = some c.members.D[i.toNat]! := getE (by have := check_len (c := c); have := check_le6 (c := c); have := placeIn_lt c m.node; have := eq_of_bne_false h1; have := of_decide_eq_false h3; have := of_decide_eq_false h4; have := of_decide_eq_true h7; omega)
            refine rvc_open rfl rfl rfl (rexec_idxS C rfl rfl rfl rfl rfl rfl (c.members.D[i.toNat]!) (by have := check_len (c := c); have := check_le6 (c := c); have := placeIn_lt c m.node; have := eq_of_bne_false h1; have := of_decide_eq_false h3; have := of_decide_eq_false h4; have := of_decide_eq_true h7; omega) h8 ?_) -- t41 indexAddr
            refine rvc_open rfl rfl rfl (rexec_prim C (δ := { v := .rp [.lit (.int .i64 (c.members.D[i.toNat]!.site))] }) rfl rfl rfl rfl trivial rfl ?_) -- t42 fieldAddr
            refine rvc_open rfl rfl rfl (rexec_prim C (δ := { v := .pv (.lit (.int .i64 (c.members.D[i.toNat]!.site))) }) rfl rfl rfl rfl trivial rfl ?_) -- t43 load
            refine rvc_open rfl rfl rfl (rexec_prim C (δ := { v := .ptr 3 1 }) rfl rfl rfl rfl trivial rfl ?_) -- t44 fieldAddr
            refine rvc_open rfl rfl rfl (rexec_prim C (δ := { v := .pv (.lit (.int .i64 m.site)) }) rfl rfl rfl rfl trivial rfl ?_) -- t45 load
            refine rvc_open rfl rfl rfl (rexec_prim C (δ := { v := .pv (.lit (.bool (decide ((c.members.D[i.toNat]!.site) ≤ m.site)))) }) rfl rfl rfl rfl trivial rfl ?_) -- t46 binOp
            refine rvc_un (rexec_prim C (δ := { v := .pv (.lit (.bool (decide ((c.members.D[i.toNat]!.site) ≤ m.site)))) }) rfl rfl rfl rfl trivial rfl ?_) -- t47 pick
            refine rvc_nil ?_
            refine Awp.cond (b := (decide ((c.members.D[i.toNat]!.site) ≤ m.site))) rfl (fun h9 => ?_) (fun h9 => ?_)
            ·
              replace hR := of_true h9 hR
              refine Awp.skip ?_
              refine Awp.block ?_
              refine Awp.region C (fun _ => .pure) (by kernel_rfl) ?_ -- region 13
              refine rvc_un (rexec_prim C (δ := { v := .pv (.lit (.int .i64 i)) }) rfl rfl rfl rfl trivial rfl ?_) -- t48 move
              refine rvc_un (rexec_prim C (δ := { v := .pv (.lit (.int .i64 (IntKind.i64.wrap (i + 1)))) }) rfl rfl rfl rfl trivial rfl ?_) -- t49 binOp
              refine rvc_un (rexec_prim C (δ := { v := .pv (.lit (.int .i64 (IntKind.i64.wrap (i + 1)))) }) rfl rfl rfl rfl trivial rfl ?_) -- t7 assign
              refine rvc_nil ?_
              refine ⟨_, (IntKind.i64.wrap (i + 1)), ?_, ⟨rfl, (by rw [show (c.members.D.length - ((IntKind.i64.wrap (i + 1)) : Int).toNat) + 1 = (c.members.D.length - (i : Int).toNat) by have := wrapI (i + 1); have := check_len (c := c); have := check_le6 (c := c); have := placeIn_lt c m.node; have := eq_of_bne_false h1; have := of_decide_eq_false h3; have := of_decide_eq_false h4; have := of_decide_eq_true h7; have := of_decide_eq_true h9; first | omega | (simp only [List.length_drop]; omega)]; exact hR), (by have := wrapI (i + 1); have := check_len (c := c); have := check_le6 (c := c); have := placeIn_lt c m.node; have := eq_of_bne_false h1; have := of_decide_eq_false h3; have := of_decide_eq_false h4; have := of_decide_eq_true h7; have := of_decide_eq_true h9; omega)⟩, ?_⟩
              · show (c.members.D.length - ((IntKind.i64.wrap (i + 1)) : Int).toNat) < (c.members.D.length - (i : Int).toNat); have := wrapI (i + 1); have := check_len (c := c); have := check_le6 (c := c); have := placeIn_lt c m.node; have := eq_of_bne_false h1; have := of_decide_eq_false h3; have := of_decide_eq_false h4; have := of_decide_eq_true h7; have := of_decide_eq_true h9; first | omega | (simp only [List.length_drop]; omega)
              · exact ⟨fun b => b, WeakerR.ofL (Ks := [2, 3, 4]) hI ⟨⟨rfl, rfl⟩, ⟨rfl, rfl⟩, ⟨rfl, rfl⟩, ⟨rfl, rfl⟩, trivial⟩ (okH_cons rfl rfl rfl rfl (okH_cons rfl rfl rfl rfl (okH_cons rfl rfl rfl rfl (okH_nil)))) rfl⟩
            ·
              replace hR := of_false h9 hR
              refine Awp.exit ?_
              refine Awp.seq ?_
              refine Awp.cons C (fun _ => .pure) (by kernel_rfl) ?_ -- region 14
              refine rvc_un (rexec_prim C (δ := { v := .pv (.lit (.int .i64 i)) }) rfl rfl rfl rfl trivial rfl ?_) -- t50 move
              refine rvc_un (rexec_prim C (δ := { v := .pv (.lit (.bool (i == 0))) }) rfl rfl rfl rfl trivial rfl ?_) -- t51 binOp
              refine rvc_nil ?_
              refine Awp.cond (b := (i == 0)) rfl (fun h10 => ?_) (fun h10 => ?_)
              ·
                replace hR := of_true h10 hR
                refine Awp.cons C (fun _ => .pure) (by kernel_rfl) ?_ -- region 15
                refine rvc_un (rexec_prim C (δ := { v := .agg [.pv (.lit (.int .i64 0)), sS (some true) eMember []] }) rfl rfl rfl rfl trivial rfl ?_) -- t52 build
                refine rvc_un (rexec_prim C (δ := { v := .undef, wr := [(4, some (.cells [.pv (.lit (.int .i64 0)), sS (some true) eMember []]))] }) rfl rfl rfl rfl trivial rfl ?_) -- tNone store
                refine rvc_un (rexec_prim C (δ := { v := .pv (.lit (.int .i64 152)) }) rfl rfl rfl rfl trivial rfl ?_) -- t5 assign
                refine rvc_nil ?_
                refine Awp.ret ?_
                subst hR
                exact ⟨.inl rfl, rfl⟩
              ·
                replace hR := of_false h10 hR
                refine Awp.skip ?_
                refine Awp.cons C (fun o => match o.dst with | some 53 => .reads [2] | some 55 => .reads [2] | some 58 => .reads [3] | some 60 => .writes [56] | some 56 => .quiet | _ => .pure) (by kernel_rfl) ?_ -- region 16
                refine rvc_un (rexec_prim C (δ := { v := .agg [.pv (.lit (.int .i64 c.epoch)), sS (some c.members.nil) eMember c.members.D] }) rfl rfl rfl rfl trivial rfl ?_) -- t53 load
                refine rvc_un (rexec_prim C (δ := { v := .ptr 2 1 }) rfl rfl rfl rfl trivial rfl ?_) -- t54 fieldAddr
                refine rvc_un (rexec_prim C (δ := { v := sS (some c.members.nil) eMember c.members.D }) rfl rfl rfl rfl trivial rfl ?_) -- t55 load
                refine rvc_un (rexec_callO hP C rfl rfl rfl rfl (cloneO_calls c.members (nil_false hn (by have := check_len (c := c); have := check_le6 (c := c); have := placeIn_lt c m.node; have := eq_of_bne_false h1; have := of_decide_eq_false h3; have := of_decide_eq_false h4; have := of_decide_eq_true h7; have := of_decide_eq_false h9; have := ne_of_beq_false h10; omega)) hl1) ?_) -- t56 call
                refine rvc_un (rexec_prim C (δ := { v := .pv (.lit (.int .i64 i)) }) rfl rfl rfl rfl trivial rfl ?_) -- t57 move
                refine rvc_un (rexec_prim C (δ := { v := .agg [.pv (.lit (.int .i64 m.node)), .pv (.lit (.int .i64 m.site)), .pv (.lit (.bool true))] }) rfl rfl rfl rfl trivial rfl ?_) -- t58 load
                refine rvc_un (rexec_buildSliceF C eMember [(Member.mk m.node m.site true)] rfl rfl rfl rfl rfl rfl rfl (by decide) rfl ?_) -- t59 buildSlice
                refine rvc_slot 57 (.pv (.lit (.int .i64 ((i.toNat : Nat) : Int)))) (by rw [show ((i.toNat : Nat) : Int) = i by omega]; rfl) ?_
                refine rvc_un (rexec_callX hP C (b := 56) rfl rfl rfl (insertM_calls c.members.D i.toNat (Sl.mk false [(Member.mk m.node m.site true)]) (by have := check_len (c := c); have := check_le6 (c := c); have := placeIn_lt c m.node; have := eq_of_bne_false h1; have := of_decide_eq_false h3; have := of_decide_eq_false h4; have := of_decide_eq_true h7; have := of_decide_eq_false h9; have := ne_of_beq_false h10; omega) (by simp) hl1 (by simp)) rfl rfl ?_) -- t60 call
                refine rvc_un (rexec_call hP C rfl rfl rfl (after_calls c (Sl.mk false (insertL c.members.D i.toNat [(Member.mk m.node m.site true)]))) ?_) -- t61 call
                refine rvc_un (rexec_prim C (δ := { v := .undef, wr := [(4, some (.cells [.pv (.lit (.int .i64 ((after c (Sl.mk false (insertL c.members.D i.toNat [(Member.mk m.node m.site true)]))).epoch))), sS (some (after c (Sl.mk false (insertL c.members.D i.toNat [(Member.mk m.node m.site true)]))).members.nil) eMember ((after c (Sl.mk false (insertL c.members.D i.toNat [(Member.mk m.node m.site true)]))).members.D)]))] }) rfl rfl rfl rfl trivial rfl ?_) -- tNone store
                refine rvc_un (rexec_prim C (δ := { v := .pv (.lit (.int .i64 0)) }) rfl rfl rfl rfl trivial rfl ?_) -- t5 assign
                refine rvc_nil ?_
                refine Awp.ret ?_
                subst hR
                exact ⟨.inl rfl, rfl⟩
          ·
            replace hR := of_false h7 hR
            refine rvc_shut rfl rfl rfl rfl ?_ -- t38
            refine rvc_shut rfl rfl rfl rfl ?_ -- t39
            refine rvc_shut rfl rfl rfl rfl ?_ -- t40
            refine rvc_shut rfl rfl rfl rfl ?_ -- t41
            refine rvc_shut rfl rfl rfl rfl ?_ -- t42
            refine rvc_shut rfl rfl rfl rfl ?_ -- t43
            refine rvc_shut rfl rfl rfl rfl ?_ -- t44
            refine rvc_shut rfl rfl rfl rfl ?_ -- t45
            refine rvc_shut rfl rfl rfl rfl ?_ -- t46
            refine rvc_un (rexec_prim C (δ := { v := .pv (.lit (.bool false)) }) rfl rfl rfl rfl trivial rfl ?_) -- t47 pick
            refine rvc_nil ?_
            refine Awp.condF (b := false) rfl rfl ?_
            refine Awp.exit ?_
            refine Awp.seq ?_
            refine Awp.cons C (fun _ => .pure) (by kernel_rfl) ?_ -- region 14
            refine rvc_un (rexec_prim C (δ := { v := .pv (.lit (.int .i64 i)) }) rfl rfl rfl rfl trivial rfl ?_) -- t50 move
            refine rvc_un (rexec_prim C (δ := { v := .pv (.lit (.bool (i == 0))) }) rfl rfl rfl rfl trivial rfl ?_) -- t51 binOp
            refine rvc_nil ?_
            refine Awp.cond (b := (i == 0)) rfl (fun h11 => ?_) (fun h11 => ?_)
            ·
              replace hR := of_true h11 hR
              refine Awp.cons C (fun _ => .pure) (by kernel_rfl) ?_ -- region 15
              refine rvc_un (rexec_prim C (δ := { v := .agg [.pv (.lit (.int .i64 0)), sS (some true) eMember []] }) rfl rfl rfl rfl trivial rfl ?_) -- t52 build
              refine rvc_un (rexec_prim C (δ := { v := .undef, wr := [(4, some (.cells [.pv (.lit (.int .i64 0)), sS (some true) eMember []]))] }) rfl rfl rfl rfl trivial rfl ?_) -- tNone store
              refine rvc_un (rexec_prim C (δ := { v := .pv (.lit (.int .i64 152)) }) rfl rfl rfl rfl trivial rfl ?_) -- t5 assign
              refine rvc_nil ?_
              refine Awp.ret ?_
              subst hR
              exact ⟨.inl rfl, rfl⟩
            ·
              replace hR := of_false h11 hR
              refine Awp.skip ?_
              refine Awp.cons C (fun o => match o.dst with | some 53 => .reads [2] | some 55 => .reads [2] | some 58 => .reads [3] | some 60 => .writes [56] | some 56 => .quiet | _ => .pure) (by kernel_rfl) ?_ -- region 16
              refine rvc_un (rexec_prim C (δ := { v := .agg [.pv (.lit (.int .i64 c.epoch)), sS (some c.members.nil) eMember c.members.D] }) rfl rfl rfl rfl trivial rfl ?_) -- t53 load
              refine rvc_un (rexec_prim C (δ := { v := .ptr 2 1 }) rfl rfl rfl rfl trivial rfl ?_) -- t54 fieldAddr
              refine rvc_un (rexec_prim C (δ := { v := sS (some c.members.nil) eMember c.members.D }) rfl rfl rfl rfl trivial rfl ?_) -- t55 load
              refine rvc_un (rexec_callO hP C rfl rfl rfl rfl (cloneO_calls c.members (nil_false hn (by have := check_len (c := c); have := check_le6 (c := c); have := placeIn_lt c m.node; have := eq_of_bne_false h1; have := of_decide_eq_false h3; have := of_decide_eq_false h4; have := of_decide_eq_false h7; have := ne_of_beq_false h11; omega)) hl1) ?_) -- t56 call
              refine rvc_un (rexec_prim C (δ := { v := .pv (.lit (.int .i64 i)) }) rfl rfl rfl rfl trivial rfl ?_) -- t57 move
              refine rvc_un (rexec_prim C (δ := { v := .agg [.pv (.lit (.int .i64 m.node)), .pv (.lit (.int .i64 m.site)), .pv (.lit (.bool true))] }) rfl rfl rfl rfl trivial rfl ?_) -- t58 load
              refine rvc_un (rexec_buildSliceF C eMember [(Member.mk m.node m.site true)] rfl rfl rfl rfl rfl rfl rfl (by decide) rfl ?_) -- t59 buildSlice
              refine rvc_slot 57 (.pv (.lit (.int .i64 ((i.toNat : Nat) : Int)))) (by rw [show ((i.toNat : Nat) : Int) = i by omega]; rfl) ?_
              refine rvc_un (rexec_callX hP C (b := 56) rfl rfl rfl (insertM_calls c.members.D i.toNat (Sl.mk false [(Member.mk m.node m.site true)]) (by have := check_len (c := c); have := check_le6 (c := c); have := placeIn_lt c m.node; have := eq_of_bne_false h1; have := of_decide_eq_false h3; have := of_decide_eq_false h4; have := of_decide_eq_false h7; have := ne_of_beq_false h11; omega) (by simp) hl1 (by simp)) rfl rfl ?_) -- t60 call
              refine rvc_un (rexec_call hP C rfl rfl rfl (after_calls c (Sl.mk false (insertL c.members.D i.toNat [(Member.mk m.node m.site true)]))) ?_) -- t61 call
              refine rvc_un (rexec_prim C (δ := { v := .undef, wr := [(4, some (.cells [.pv (.lit (.int .i64 ((after c (Sl.mk false (insertL c.members.D i.toNat [(Member.mk m.node m.site true)]))).epoch))), sS (some (after c (Sl.mk false (insertL c.members.D i.toNat [(Member.mk m.node m.site true)]))).members.nil) eMember ((after c (Sl.mk false (insertL c.members.D i.toNat [(Member.mk m.node m.site true)]))).members.D)]))] }) rfl rfl rfl rfl trivial rfl ?_) -- tNone store
              refine rvc_un (rexec_prim C (δ := { v := .pv (.lit (.int .i64 0)) }) rfl rfl rfl rfl trivial rfl ?_) -- t5 assign
              refine rvc_nil ?_
              refine Awp.ret ?_
              subst hR
              exact ⟨.inl rfl, rfl⟩

def drop (c : Chain) (node : Int) : Chain × Int :=
  (bif ((check c) != 0) then ((Chain.mk 0 (Sl.mk true [])), (check c)) else ((without c (maskOf (Sl.mk false [node]))).1, (without c (maskOf (Sl.mk false [node]))).2))
theorem drop_calls (c : Chain) (node : Int) (hl1 : c.members.D.length ≤ 1000000) : PCalls Try.prog 37 [.agg [.pv (.lit (.int .i64 c.epoch)), sS (some c.members.nil) eMember c.members.D], .pv (.lit (.int .i64 node))] (.tup [.agg [.pv (.lit (.int .i64 ((drop c node).1.epoch))), sS (some (drop c node).1.members.nil) eMember ((drop c node).1.members.D)], .pv (.lit (.int .i64 ((drop c node).2)))]) := by
  generalize hR : drop c node = R
  refine PCalls.of_body tabOk Try.func37 rfl rfl rfl rfl rfl mixed fun E hP C hI => ?_
  refine Awp.cons C (fun _ => .pure) (by kernel_rfl) ?_ -- region 0
  refine rvc_un (rexec_prim C (δ := { v := .ptr 2 0, new := [(2, .cells [.pv (.lit (.int .i64 c.epoch)), sS (some c.members.nil) eMember c.members.D])] }) rfl rfl rfl rfl trivial rfl ?_) -- t2 box
  refine rvc_un (rexec_prim C (δ := { v := .ptr 4 0, new := [(4, .cells [.pv (.lit (.int .i64 0)), sS (some true) eMember []])] }) rfl rfl rfl rfl trivial rfl ?_) -- t4 alloc
  refine rvc_un (rexec_prim C (δ := { v := .pv (.lit (.int .i64 0)) }) rfl rfl rfl rfl trivial rfl ?_) -- t5 assign
  refine rvc_nil ?_
  refine Awp.seq ?_
  refine Awp.cons C (fun _ => .pure) (by kernel_rfl) ?_ -- region 1
  refine rvc_un (rexec_prim C (δ := { v := .agg [.pv (.lit (.int .i64 c.epoch)), sS (some c.members.nil) eMember c.members.D] }) rfl rfl rfl rfl trivial rfl ?_) -- t7 load
  refine rvc_un (rexec_call hP C rfl rfl rfl (check_calls c (Nat.le_trans hl1 (by decide))) ?_) -- t8 call
  refine rvc_un (rexec_prim C (δ := { v := .pv (.lit (.int .i64 (check c))) }) rfl rfl rfl rfl trivial rfl ?_) -- t6 assign
  refine rvc_nil ?_
  refine Awp.cons C (fun _ => .pure) (by kernel_rfl) ?_ -- region 2
  refine rvc_un (rexec_prim C (δ := { v := .pv (.lit (.int .i64 (check c))) }) rfl rfl rfl rfl trivial rfl ?_) -- t9 move
  refine rvc_un (rexec_prim C (δ := { v := .pv (.lit (.bool ((check c) != 0))) }) rfl rfl rfl rfl trivial rfl ?_) -- t10 binOp
  refine rvc_nil ?_
  refine Awp.cond (b := ((check c) != 0)) rfl (fun h1 => ?_) (fun h1 => ?_)
  ·
    replace hR := of_true h1 hR
    refine Awp.cons C (fun _ => .pure) (by kernel_rfl) ?_ -- region 3
    refine rvc_un (rexec_prim C (δ := { v := .agg [.pv (.lit (.int .i64 0)), sS (some true) eMember []] }) rfl rfl rfl rfl trivial rfl ?_) -- t11 build
    refine rvc_un (rexec_prim C (δ := { v := .pv (.lit (.int .i64 (check c))) }) rfl rfl rfl rfl trivial rfl ?_) -- t12 move
    refine rvc_un (rexec_prim C (δ := { v := .undef, wr := [(4, some (.cells [.pv (.lit (.int .i64 0)), sS (some true) eMember []]))] }) rfl rfl rfl rfl trivial rfl ?_) -- tNone store
    refine rvc_un (rexec_prim C (δ := { v := .pv (.lit (.int .i64 (check c))) }) rfl rfl rfl rfl trivial rfl ?_) -- t5 assign
    refine rvc_nil ?_
    refine Awp.ret ?_
    subst hR
    exact ⟨.inl rfl, rfl⟩
  ·
    replace hR := of_false h1 hR
    refine Awp.skip ?_
    refine Awp.cons C (fun _ => .pure) (by kernel_rfl) ?_ -- region 4
    refine rvc_un (rexec_prim C (δ := { v := .agg [.pv (.lit (.int .i64 c.epoch)), sS (some c.members.nil) eMember c.members.D] }) rfl rfl rfl rfl trivial rfl ?_) -- t13 load
    refine rvc_un (rexec_prim C (δ := { v := .pv (.lit (.int .i64 node)) }) rfl rfl rfl rfl trivial rfl ?_) -- t14 move
    refine rvc_un (rexec_buildSliceF C (eI .i64) [node] rfl rfl rfl rfl rfl rfl rfl (by decide) rfl ?_) -- t15 buildSlice
    refine rvc_un (rexec_call hP C rfl rfl rfl (maskOf_calls (Sl.mk false [node]) (by simp)) ?_) -- t16 call
    refine rvc_un (rexec_call hP C rfl rfl rfl (without_calls c (maskOf (Sl.mk false [node])) hl1) ?_) -- t17 call
    refine rvc_un (rexec_prim C (δ := { v := .agg [.pv (.lit (.int .i64 ((without c (maskOf (Sl.mk false [node]))).1.epoch))), sS (some (without c (maskOf (Sl.mk false [node]))).1.members.nil) eMember ((without c (maskOf (Sl.mk false [node]))).1.members.D)] }) rfl rfl rfl rfl trivial rfl ?_) -- t18 extract
    refine rvc_un (rexec_prim C (δ := { v := .pv (.lit (.int .i64 ((without c (maskOf (Sl.mk false [node]))).2))) }) rfl rfl rfl rfl trivial rfl ?_) -- t19 extract
    refine rvc_un (rexec_prim C (δ := { v := .undef, wr := [(4, some (.cells [.pv (.lit (.int .i64 ((without c (maskOf (Sl.mk false [node]))).1.epoch))), sS (some (without c (maskOf (Sl.mk false [node]))).1.members.nil) eMember ((without c (maskOf (Sl.mk false [node]))).1.members.D)]))] }) rfl rfl rfl rfl trivial rfl ?_) -- tNone store
    refine rvc_un (rexec_prim C (δ := { v := .pv (.lit (.int .i64 ((without c (maskOf (Sl.mk false [node]))).2))) }) rfl rfl rfl rfl trivial rfl ?_) -- t5 assign
    refine rvc_nil ?_
    refine Awp.ret ?_
    subst hR
    exact ⟨.inl rfl, rfl⟩

def awake  : Bool :=
  (bif (((firstC (Sl.mk false [(Member.mk 2 1 false), (Member.mk 0 0 false)])).2) == 0) then (bif (((join ((firstC (Sl.mk false [(Member.mk 2 1 false), (Member.mk 0 0 false)])).1) (Member.mk 1 0 false)).2) == 0) then (bif (((drop ((join ((firstC (Sl.mk false [(Member.mk 2 1 false), (Member.mk 0 0 false)])).1) (Member.mk 1 0 false)).1) 0).2) == 0) then (bif ((headC ((firstC (Sl.mk false [(Member.mk 2 1 false), (Member.mk 0 0 false)])).1)) == 0) then (bif ((nextC ((join ((firstC (Sl.mk false [(Member.mk 2 1 false), (Member.mk 0 0 false)])).1) (Member.mk 1 0 false)).1) 0) == 1) then (bif ((tailC ((join ((firstC (Sl.mk false [(Member.mk 2 1 false), (Member.mk 0 0 false)])).1) (Member.mk 1 0 false)).1)) == 2) then (same ((drop ((join ((firstC (Sl.mk false [(Member.mk 2 1 false), (Member.mk 0 0 false)])).1) (Member.mk 1 0 false)).1) 0).1) (Chain.mk 3 (Sl.mk false [(Member.mk 2 1 false)]))) else false) else false) else false) else false) else false) else false)
theorem awake_calls   : PCalls Try.prog 10 [] (.pv (.lit (.bool (awake )))) := by
  generalize hR : awake  = R
  refine PCalls.of_body tabOk Try.func10 rfl rfl rfl rfl rfl mixed fun E hP C hI => ?_
  refine Awp.cons C (fun _ => .pure) (by kernel_rfl) ?_ -- region 0
  refine rvc_un (rexec_prim C (δ := { v := .pv (.lit (.bool false)) }) rfl rfl rfl rfl trivial rfl ?_) -- t0 assign
  refine rvc_nil ?_
  refine Awp.cons C (fun _ => .pure) (by kernel_rfl) ?_ -- region 1
  refine rvc_un (rexec_prim C (δ := { v := .agg [.pv (.lit (.int .i64 2)), .pv (.lit (.int .i64 1)), .pv (.lit (.bool false))] }) rfl rfl rfl rfl trivial rfl ?_) -- t8 build
  refine rvc_un (rexec_prim C (δ := { v := .agg [.pv (.lit (.int .i64 0)), .pv (.lit (.int .i64 0)), .pv (.lit (.bool false))] }) rfl rfl rfl rfl trivial rfl ?_) -- t9 build
  refine rvc_un (rexec_buildSliceF C eMember [(Member.mk 2 1 false), (Member.mk 0 0 false)] rfl rfl rfl rfl rfl rfl rfl (by decide) rfl ?_) -- t10 buildSlice
  refine rvc_un (rexec_call hP C rfl rfl rfl (firstC_calls (Sl.mk false [(Member.mk 2 1 false), (Member.mk 0 0 false)]) (of_decide_eq_true (by kernel_rfl))) ?_) -- t11 call
  refine rvc_un (rexec_prim C (δ := { v := .tup [.agg [.pv (.lit (.int .i64 ((firstC (Sl.mk false [(Member.mk 2 1 false), (Member.mk 0 0 false)])).1.epoch))), sS (some (firstC (Sl.mk false [(Member.mk 2 1 false), (Member.mk 0 0 false)])).1.members.nil) eMember ((firstC (Sl.mk false [(Member.mk 2 1 false), (Member.mk 0 0 false)])).1.members.D)], .pv (.lit (.int .i64 ((firstC (Sl.mk false [(Member.mk 2 1 false), (Member.mk 0 0 false)])).2)))] }) rfl rfl rfl rfl trivial rfl ?_) -- t7 move
  refine rvc_un (rexec_prim C (δ := { v := .agg [.pv (.lit (.int .i64 ((firstC (Sl.mk false [(Member.mk 2 1 false), (Member.mk 0 0 false)])).1.epoch))), sS (some (firstC (Sl.mk false [(Member.mk 2 1 false), (Member.mk 0 0 false)])).1.members.nil) eMember ((firstC (Sl.mk false [(Member.mk 2 1 false), (Member.mk 0 0 false)])).1.members.D)] }) rfl rfl rfl rfl trivial rfl ?_) -- t12 extract
  refine rvc_un (rexec_prim C (δ := { v := .pv (.lit (.int .i64 ((firstC (Sl.mk false [(Member.mk 2 1 false), (Member.mk 0 0 false)])).2))) }) rfl rfl rfl rfl trivial rfl ?_) -- t13 extract
  refine rvc_un (rexec_prim C (δ := { v := .ptr 1 0, new := [(1, .cells [.pv (.lit (.int .i64 0)), sS (some true) eMember []])] }) rfl rfl rfl rfl trivial rfl ?_) -- t1 alloc
  refine rvc_un (rexec_prim C (δ := { v := .undef, wr := [(1, some (.cells [.pv (.lit (.int .i64 ((firstC (Sl.mk false [(Member.mk 2 1 false), (Member.mk 0 0 false)])).1.epoch))), sS (some (firstC (Sl.mk false [(Member.mk 2 1 false), (Member.mk 0 0 false)])).1.members.nil) eMember ((firstC (Sl.mk false [(Member.mk 2 1 false), (Member.mk 0 0 false)])).1.members.D)]))] }) rfl rfl rfl rfl trivial rfl ?_) -- tNone store
  refine rvc_un (rexec_prim C (δ := { v := .pv (.lit (.int .i64 ((firstC (Sl.mk false [(Member.mk 2 1 false), (Member.mk 0 0 false)])).2))) }) rfl rfl rfl rfl trivial rfl ?_) -- t2 assign
  refine rvc_nil ?_
  refine Awp.cons C (fun _ => .pure) (by kernel_rfl) ?_ -- region 2
  refine rvc_un (rexec_prim C (δ := { v := .agg [.pv (.lit (.int .i64 ((firstC (Sl.mk false [(Member.mk 2 1 false), (Member.mk 0 0 false)])).1.epoch))), sS (some (firstC (Sl.mk false [(Member.mk 2 1 false), (Member.mk 0 0 false)])).1.members.nil) eMember ((firstC (Sl.mk false [(Member.mk 2 1 false), (Member.mk 0 0 false)])).1.members.D)] }) rfl rfl rfl rfl trivial rfl ?_) -- t15 load
  refine rvc_un (rexec_prim C (δ := { v := .agg [.pv (.lit (.int .i64 1)), .pv (.lit (.int .i64 0)), .pv (.lit (.bool false))] }) rfl rfl rfl rfl trivial rfl ?_) -- t16 build
  refine rvc_un (rexec_call hP C rfl rfl rfl (join_calls ((firstC (Sl.mk false [(Member.mk 2 1 false), (Member.mk 0 0 false)])).1) (Member.mk 1 0 false) (fun h => absurd (h.symm.trans (by kernel_rfl : _ = false)) Bool.noConfusion) (of_decide_eq_true (by kernel_rfl))) ?_) -- t17 call
  refine rvc_un (rexec_prim C (δ := { v := .tup [.agg [.pv (.lit (.int .i64 ((join ((firstC (Sl.mk false [(Member.mk 2 1 false), (Member.mk 0 0 false)])).1) (Member.mk 1 0 false)).1.epoch))), sS (some (join ((firstC (Sl.mk false [(Member.mk 2 1 false), (Member.mk 0 0 false)])).1) (Member.mk 1 0 false)).1.members.nil) eMember ((join ((firstC (Sl.mk false [(Member.mk 2 1 false), (Member.mk 0 0 false)])).1) (Member.mk 1 0 false)).1.members.D)], .pv (.lit (.int .i64 ((join ((firstC (Sl.mk false [(Member.mk 2 1 false), (Member.mk 0 0 false)])).1) (Member.mk 1 0 false)).2)))] }) rfl rfl rfl rfl trivial rfl ?_) -- t14 move
  refine rvc_un (rexec_prim C (δ := { v := .agg [.pv (.lit (.int .i64 ((join ((firstC (Sl.mk false [(Member.mk 2 1 false), (Member.mk 0 0 false)])).1) (Member.mk 1 0 false)).1.epoch))), sS (some (join ((firstC (Sl.mk false [(Member.mk 2 1 false), (Member.mk 0 0 false)])).1) (Member.mk 1 0 false)).1.members.nil) eMember ((join ((firstC (Sl.mk false [(Member.mk 2 1 false), (Member.mk 0 0 false)])).1) (Member.mk 1 0 false)).1.members.D)] }) rfl rfl rfl rfl trivial rfl ?_) -- t18 extract
  refine rvc_un (rexec_prim C (δ := { v := .pv (.lit (.int .i64 ((join ((firstC (Sl.mk false [(Member.mk 2 1 false), (Member.mk 0 0 false)])).1) (Member.mk 1 0 false)).2))) }) rfl rfl rfl rfl trivial rfl ?_) -- t19 extract
  refine rvc_un (rexec_prim C (δ := { v := .ptr 3 0, new := [(3, .cells [.pv (.lit (.int .i64 0)), sS (some true) eMember []])] }) rfl rfl rfl rfl trivial rfl ?_) -- t3 alloc
  refine rvc_un (rexec_prim C (δ := { v := .undef, wr := [(3, some (.cells [.pv (.lit (.int .i64 ((join ((firstC (Sl.mk false [(Member.mk 2 1 false), (Member.mk 0 0 false)])).1) (Member.mk 1 0 false)).1.epoch))), sS (some (join ((firstC (Sl.mk false [(Member.mk 2 1 false), (Member.mk 0 0 false)])).1) (Member.mk 1 0 false)).1.members.nil) eMember ((join ((firstC (Sl.mk false [(Member.mk 2 1 false), (Member.mk 0 0 false)])).1) (Member.mk 1 0 false)).1.members.D)]))] }) rfl rfl rfl rfl trivial rfl ?_) -- tNone store
  refine rvc_un (rexec_prim C (δ := { v := .pv (.lit (.int .i64 ((join ((firstC (Sl.mk false [(Member.mk 2 1 false), (Member.mk 0 0 false)])).1) (Member.mk 1 0 false)).2))) }) rfl rfl rfl rfl trivial rfl ?_) -- t4 assign
  refine rvc_nil ?_
  refine Awp.cons C (fun _ => .pure) (by kernel_rfl) ?_ -- region 3
  refine rvc_un (rexec_prim C (δ := { v := .agg [.pv (.lit (.int .i64 ((join ((firstC (Sl.mk false [(Member.mk 2 1 false), (Member.mk 0 0 false)])).1) (Member.mk 1 0 false)).1.epoch))), sS (some (join ((firstC (Sl.mk false [(Member.mk 2 1 false), (Member.mk 0 0 false)])).1) (Member.mk 1 0 false)).1.members.nil) eMember ((join ((firstC (Sl.mk false [(Member.mk 2 1 false), (Member.mk 0 0 false)])).1) (Member.mk 1 0 false)).1.members.D)] }) rfl rfl rfl rfl trivial rfl ?_) -- t21 load
  refine rvc_un (rexec_call hP C rfl rfl rfl (drop_calls ((join ((firstC (Sl.mk false [(Member.mk 2 1 false), (Member.mk 0 0 false)])).1) (Member.mk 1 0 false)).1) 0 (of_decide_eq_true (by kernel_rfl))) ?_) -- t22 call
  refine rvc_un (rexec_prim C (δ := { v := .tup [.agg [.pv (.lit (.int .i64 ((drop ((join ((firstC (Sl.mk false [(Member.mk 2 1 false), (Member.mk 0 0 false)])).1) (Member.mk 1 0 false)).1) 0).1.epoch))), sS (some (drop ((join ((firstC (Sl.mk false [(Member.mk 2 1 false), (Member.mk 0 0 false)])).1) (Member.mk 1 0 false)).1) 0).1.members.nil) eMember ((drop ((join ((firstC (Sl.mk false [(Member.mk 2 1 false), (Member.mk 0 0 false)])).1) (Member.mk 1 0 false)).1) 0).1.members.D)], .pv (.lit (.int .i64 ((drop ((join ((firstC (Sl.mk false [(Member.mk 2 1 false), (Member.mk 0 0 false)])).1) (Member.mk 1 0 false)).1) 0).2)))] }) rfl rfl rfl rfl trivial rfl ?_) -- t20 move
  refine rvc_un (rexec_prim C (δ := { v := .agg [.pv (.lit (.int .i64 ((drop ((join ((firstC (Sl.mk false [(Member.mk 2 1 false), (Member.mk 0 0 false)])).1) (Member.mk 1 0 false)).1) 0).1.epoch))), sS (some (drop ((join ((firstC (Sl.mk false [(Member.mk 2 1 false), (Member.mk 0 0 false)])).1) (Member.mk 1 0 false)).1) 0).1.members.nil) eMember ((drop ((join ((firstC (Sl.mk false [(Member.mk 2 1 false), (Member.mk 0 0 false)])).1) (Member.mk 1 0 false)).1) 0).1.members.D)] }) rfl rfl rfl rfl trivial rfl ?_) -- t23 extract
  refine rvc_un (rexec_prim C (δ := { v := .pv (.lit (.int .i64 ((drop ((join ((firstC (Sl.mk false [(Member.mk 2 1 false), (Member.mk 0 0 false)])).1) (Member.mk 1 0 false)).1) 0).2))) }) rfl rfl rfl rfl trivial rfl ?_) -- t24 extract
  refine rvc_un (rexec_prim C (δ := { v := .ptr 5 0, new := [(5, .cells [.pv (.lit (.int .i64 0)), sS (some true) eMember []])] }) rfl rfl rfl rfl trivial rfl ?_) -- t5 alloc
  refine rvc_un (rexec_prim C (δ := { v := .undef, wr := [(5, some (.cells [.pv (.lit (.int .i64 ((drop ((join ((firstC (Sl.mk false [(Member.mk 2 1 false), (Member.mk 0 0 false)])).1) (Member.mk 1 0 false)).1) 0).1.epoch))), sS (some (drop ((join ((firstC (Sl.mk false [(Member.mk 2 1 false), (Member.mk 0 0 false)])).1) (Member.mk 1 0 false)).1) 0).1.members.nil) eMember ((drop ((join ((firstC (Sl.mk false [(Member.mk 2 1 false), (Member.mk 0 0 false)])).1) (Member.mk 1 0 false)).1) 0).1.members.D)]))] }) rfl rfl rfl rfl trivial rfl ?_) -- tNone store
  refine rvc_un (rexec_prim C (δ := { v := .pv (.lit (.int .i64 ((drop ((join ((firstC (Sl.mk false [(Member.mk 2 1 false), (Member.mk 0 0 false)])).1) (Member.mk 1 0 false)).1) 0).2))) }) rfl rfl rfl rfl trivial rfl ?_) -- t6 assign
  refine rvc_nil ?_
  refine Awp.cons C (fun _ => .pure) (by kernel_rfl) ?_ -- region 4
  refine rvc_un (rexec_prim C (δ := { v := .pv (.lit (.int .i64 ((firstC (Sl.mk false [(Member.mk 2 1 false), (Member.mk 0 0 false)])).2))) }) rfl rfl rfl rfl trivial rfl ?_) -- t25 move
  refine rvc_un (rexec_prim C (δ := { v := .pv (.lit (.bool (((firstC (Sl.mk false [(Member.mk 2 1 false), (Member.mk 0 0 false)])).2) == 0))) }) rfl rfl rfl rfl trivial rfl ?_) -- t26 binOp
  refine rvc_un (rexec_prim C (δ := { v := .pv (.lit (.bool (((firstC (Sl.mk false [(Member.mk 2 1 false), (Member.mk 0 0 false)])).2) == 0))) }) rfl rfl rfl rfl trivial rfl ?_) -- t27 move
  refine rvc_case 27 (((firstC (Sl.mk false [(Member.mk 2 1 false), (Member.mk 0 0 false)])).2) == 0) rfl (fun h1 => ?_) (fun h1 => ?_)
  ·
    replace hR := of_true h1 hR
    refine rvc_open rfl rfl rfl (rexec_prim C (δ := { v := .pv (.lit (.int .i64 ((join ((firstC (Sl.mk false [(Member.mk 2 1 false), (Member.mk 0 0 false)])).1) (Member.mk 1 0 false)).2))) }) rfl rfl rfl rfl trivial rfl ?_) -- t28 move
    refine rvc_open rfl rfl rfl (rexec_prim C (δ := { v := .pv (.lit (.bool (((join ((firstC (Sl.mk false [(Member.mk 2 1 false), (Member.mk 0 0 false)])).1) (Member.mk 1 0 false)).2) == 0))) }) rfl rfl rfl rfl trivial rfl ?_) -- t29 binOp
    refine rvc_un (rexec_prim C (δ := { v := .pv (.lit (.bool (((join ((firstC (Sl.mk false [(Member.mk 2 1 false), (Member.mk 0 0 false)])).1) (Member.mk 1 0 false)).2) == 0))) }) rfl rfl rfl rfl trivial rfl ?_) -- t30 pick
    refine rvc_un (rexec_prim C (δ := { v := .pv (.lit (.bool (((join ((firstC (Sl.mk false [(Member.mk 2 1 false), (Member.mk 0 0 false)])).1) (Member.mk 1 0 false)).2) == 0))) }) rfl rfl rfl rfl trivial rfl ?_) -- t31 move
    refine rvc_case 31 (((join ((firstC (Sl.mk false [(Member.mk 2 1 false), (Member.mk 0 0 false)])).1) (Member.mk 1 0 false)).2) == 0) rfl (fun h2 => ?_) (fun h2 => ?_)
    ·
      replace hR := of_true h2 hR
      refine rvc_open rfl rfl rfl (rexec_prim C (δ := { v := .pv (.lit (.int .i64 ((drop ((join ((firstC (Sl.mk false [(Member.mk 2 1 false), (Member.mk 0 0 false)])).1) (Member.mk 1 0 false)).1) 0).2))) }) rfl rfl rfl rfl trivial rfl ?_) -- t32 move
      refine rvc_open rfl rfl rfl (rexec_prim C (δ := { v := .pv (.lit (.bool (((drop ((join ((firstC (Sl.mk false [(Member.mk 2 1 false), (Member.mk 0 0 false)])).1) (Member.mk 1 0 false)).1) 0).2) == 0))) }) rfl rfl rfl rfl trivial rfl ?_) -- t33 binOp
      refine rvc_un (rexec_prim C (δ := { v := .pv (.lit (.bool (((drop ((join ((firstC (Sl.mk false [(Member.mk 2 1 false), (Member.mk 0 0 false)])).1) (Member.mk 1 0 false)).1) 0).2) == 0))) }) rfl rfl rfl rfl trivial rfl ?_) -- t34 pick
      refine rvc_un (rexec_prim C (δ := { v := .pv (.lit (.bool (((drop ((join ((firstC (Sl.mk false [(Member.mk 2 1 false), (Member.mk 0 0 false)])).1) (Member.mk 1 0 false)).1) 0).2) == 0))) }) rfl rfl rfl rfl trivial rfl ?_) -- t35 move
      refine rvc_case 35 (((drop ((join ((firstC (Sl.mk false [(Member.mk 2 1 false), (Member.mk 0 0 false)])).1) (Member.mk 1 0 false)).1) 0).2) == 0) rfl (fun h3 => ?_) (fun h3 => ?_)
      ·
        replace hR := of_true h3 hR
        refine rvc_open rfl rfl rfl (rexec_prim C (δ := { v := .agg [.pv (.lit (.int .i64 ((firstC (Sl.mk false [(Member.mk 2 1 false), (Member.mk 0 0 false)])).1.epoch))), sS (some (firstC (Sl.mk false [(Member.mk 2 1 false), (Member.mk 0 0 false)])).1.members.nil) eMember ((firstC (Sl.mk false [(Member.mk 2 1 false), (Member.mk 0 0 false)])).1.members.D)] }) rfl rfl rfl rfl trivial rfl ?_) -- t36 load
        refine rvc_open rfl rfl rfl (rexec_call hP C rfl rfl rfl (headC_calls ((firstC (Sl.mk false [(Member.mk 2 1 false), (Member.mk 0 0 false)])).1) (of_decide_eq_true (by kernel_rfl))) ?_) -- t37 call
        refine rvc_open rfl rfl rfl (rexec_prim C (δ := { v := .pv (.lit (.bool ((headC ((firstC (Sl.mk false [(Member.mk 2 1 false), (Member.mk 0 0 false)])).1)) == 0))) }) rfl rfl rfl rfl trivial rfl ?_) -- t38 binOp
        refine rvc_un (rexec_prim C (δ := { v := .pv (.lit (.bool ((headC ((firstC (Sl.mk false [(Member.mk 2 1 false), (Member.mk 0 0 false)])).1)) == 0))) }) rfl rfl rfl rfl trivial rfl ?_) -- t39 pick
        refine rvc_un (rexec_prim C (δ := { v := .pv (.lit (.bool ((headC ((firstC (Sl.mk false [(Member.mk 2 1 false), (Member.mk 0 0 false)])).1)) == 0))) }) rfl rfl rfl rfl trivial rfl ?_) -- t40 move
        refine rvc_case 40 ((headC ((firstC (Sl.mk false [(Member.mk 2 1 false), (Member.mk 0 0 false)])).1)) == 0) rfl (fun h4 => ?_) (fun h4 => ?_)
        ·
          replace hR := of_true h4 hR
          refine rvc_open rfl rfl rfl (rexec_prim C (δ := { v := .agg [.pv (.lit (.int .i64 ((join ((firstC (Sl.mk false [(Member.mk 2 1 false), (Member.mk 0 0 false)])).1) (Member.mk 1 0 false)).1.epoch))), sS (some (join ((firstC (Sl.mk false [(Member.mk 2 1 false), (Member.mk 0 0 false)])).1) (Member.mk 1 0 false)).1.members.nil) eMember ((join ((firstC (Sl.mk false [(Member.mk 2 1 false), (Member.mk 0 0 false)])).1) (Member.mk 1 0 false)).1.members.D)] }) rfl rfl rfl rfl trivial rfl ?_) -- t41 load
          refine rvc_open rfl rfl rfl (rexec_call hP C rfl rfl rfl (nextC_calls ((join ((firstC (Sl.mk false [(Member.mk 2 1 false), (Member.mk 0 0 false)])).1) (Member.mk 1 0 false)).1) 0 (of_decide_eq_true (by kernel_rfl))) ?_) -- t42 call
          refine rvc_open rfl rfl rfl (rexec_prim C (δ := { v := .pv (.lit (.bool ((nextC ((join ((firstC (Sl.mk false [(Member.mk 2 1 false), (Member.mk 0 0 false)])).1) (Member.mk 1 0 false)).1) 0) == 1))) }) rfl rfl rfl rfl trivial rfl ?_) -- t43 binOp
          refine rvc_un (rexec_prim C (δ := { v := .pv (.lit (.bool ((nextC ((join ((firstC (Sl.mk false [(Member.mk 2 1 false), (Member.mk 0 0 false)])).1) (Member.mk 1 0 false)).1) 0) == 1))) }) rfl rfl rfl rfl trivial rfl ?_) -- t44 pick
          refine rvc_un (rexec_prim C (δ := { v := .pv (.lit (.bool ((nextC ((join ((firstC (Sl.mk false [(Member.mk 2 1 false), (Member.mk 0 0 false)])).1) (Member.mk 1 0 false)).1) 0) == 1))) }) rfl rfl rfl rfl trivial rfl ?_) -- t45 move
          refine rvc_case 45 ((nextC ((join ((firstC (Sl.mk false [(Member.mk 2 1 false), (Member.mk 0 0 false)])).1) (Member.mk 1 0 false)).1) 0) == 1) rfl (fun h5 => ?_) (fun h5 => ?_)
          ·
            replace hR := of_true h5 hR
            refine rvc_open rfl rfl rfl (rexec_prim C (δ := { v := .agg [.pv (.lit (.int .i64 ((join ((firstC (Sl.mk false [(Member.mk 2 1 false), (Member.mk 0 0 false)])).1) (Member.mk 1 0 false)).1.epoch))), sS (some (join ((firstC (Sl.mk false [(Member.mk 2 1 false), (Member.mk 0 0 false)])).1) (Member.mk 1 0 false)).1.members.nil) eMember ((join ((firstC (Sl.mk false [(Member.mk 2 1 false), (Member.mk 0 0 false)])).1) (Member.mk 1 0 false)).1.members.D)] }) rfl rfl rfl rfl trivial rfl ?_) -- t46 load
            refine rvc_open rfl rfl rfl (rexec_call hP C rfl rfl rfl (tailC_calls ((join ((firstC (Sl.mk false [(Member.mk 2 1 false), (Member.mk 0 0 false)])).1) (Member.mk 1 0 false)).1) (of_decide_eq_true (by kernel_rfl))) ?_) -- t47 call
            refine rvc_open rfl rfl rfl (rexec_prim C (δ := { v := .pv (.lit (.bool ((tailC ((join ((firstC (Sl.mk false [(Member.mk 2 1 false), (Member.mk 0 0 false)])).1) (Member.mk 1 0 false)).1)) == 2))) }) rfl rfl rfl rfl trivial rfl ?_) -- t48 binOp
            refine rvc_un (rexec_prim C (δ := { v := .pv (.lit (.bool ((tailC ((join ((firstC (Sl.mk false [(Member.mk 2 1 false), (Member.mk 0 0 false)])).1) (Member.mk 1 0 false)).1)) == 2))) }) rfl rfl rfl rfl trivial rfl ?_) -- t49 pick
            refine rvc_un (rexec_prim C (δ := { v := .pv (.lit (.bool ((tailC ((join ((firstC (Sl.mk false [(Member.mk 2 1 false), (Member.mk 0 0 false)])).1) (Member.mk 1 0 false)).1)) == 2))) }) rfl rfl rfl rfl trivial rfl ?_) -- t50 move
            refine rvc_case 50 ((tailC ((join ((firstC (Sl.mk false [(Member.mk 2 1 false), (Member.mk 0 0 false)])).1) (Member.mk 1 0 false)).1)) == 2) rfl (fun h6 => ?_) (fun h6 => ?_)
            ·
              replace hR := of_true h6 hR
              refine rvc_open rfl rfl rfl (rexec_prim C (δ := { v := .agg [.pv (.lit (.int .i64 ((drop ((join ((firstC (Sl.mk false [(Member.mk 2 1 false), (Member.mk 0 0 false)])).1) (Member.mk 1 0 false)).1) 0).1.epoch))), sS (some (drop ((join ((firstC (Sl.mk false [(Member.mk 2 1 false), (Member.mk 0 0 false)])).1) (Member.mk 1 0 false)).1) 0).1.members.nil) eMember ((drop ((join ((firstC (Sl.mk false [(Member.mk 2 1 false), (Member.mk 0 0 false)])).1) (Member.mk 1 0 false)).1) 0).1.members.D)] }) rfl rfl rfl rfl trivial rfl ?_) -- t51 load
              refine rvc_open rfl rfl rfl (rexec_prim C (δ := { v := .agg [.pv (.lit (.int .i64 2)), .pv (.lit (.int .i64 1)), .pv (.lit (.bool false))] }) rfl rfl rfl rfl trivial rfl ?_) -- t52 build
              refine rvc_open rfl rfl rfl (rexec_buildSliceF C eMember [(Member.mk 2 1 false)] rfl rfl rfl rfl rfl rfl rfl (by decide) rfl ?_) -- t53 buildSlice
              refine rvc_open rfl rfl rfl (rexec_prim C (δ := { v := .agg [.pv (.lit (.int .i64 3)), sS (some false) eMember [(Member.mk 2 1 false)]] }) rfl rfl rfl rfl trivial rfl ?_) -- t54 build
              refine rvc_open rfl rfl rfl (rexec_call hP C rfl rfl rfl (same_calls ((drop ((join ((firstC (Sl.mk false [(Member.mk 2 1 false), (Member.mk 0 0 false)])).1) (Member.mk 1 0 false)).1) 0).1) (Chain.mk 3 (Sl.mk false [(Member.mk 2 1 false)])) (of_decide_eq_true (by kernel_rfl))) ?_) -- t55 call
              refine rvc_un (rexec_prim C (δ := { v := .pv (.lit (.bool (same ((drop ((join ((firstC (Sl.mk false [(Member.mk 2 1 false), (Member.mk 0 0 false)])).1) (Member.mk 1 0 false)).1) 0).1) (Chain.mk 3 (Sl.mk false [(Member.mk 2 1 false)]))))) }) rfl rfl rfl rfl trivial rfl ?_) -- t56 pick
              refine rvc_un (rexec_prim C (δ := { v := .pv (.lit (.bool (same ((drop ((join ((firstC (Sl.mk false [(Member.mk 2 1 false), (Member.mk 0 0 false)])).1) (Member.mk 1 0 false)).1) 0).1) (Chain.mk 3 (Sl.mk false [(Member.mk 2 1 false)]))))) }) rfl rfl rfl rfl trivial rfl ?_) -- t0 assign
              refine rvc_nil ?_
              refine Awp.ret ?_
              subst hR
              exact ⟨.inl rfl, rfl⟩
            ·
              replace hR := of_false h6 hR
              refine rvc_shut rfl rfl rfl rfl ?_ -- t51
              refine rvc_shut rfl rfl rfl rfl ?_ -- t52
              refine rvc_shut rfl rfl rfl rfl ?_ -- t53
              refine rvc_shut rfl rfl rfl rfl ?_ -- t54
              refine rvc_shut rfl rfl rfl rfl ?_ -- t55
              refine rvc_un (rexec_prim C (δ := { v := .pv (.lit (.bool false)) }) rfl rfl rfl rfl trivial rfl ?_) -- t56 pick
              refine rvc_un (rexec_prim C (δ := { v := .pv (.lit (.bool false)) }) rfl rfl rfl rfl trivial rfl ?_) -- t0 assign
              refine rvc_nil ?_
              refine Awp.ret ?_
              subst hR
              exact ⟨.inl rfl, rfl⟩
          ·
            replace hR := of_false h5 hR
            refine rvc_shut rfl rfl rfl rfl ?_ -- t46
            refine rvc_shut rfl rfl rfl rfl ?_ -- t47
            refine rvc_shut rfl rfl rfl rfl ?_ -- t48
            refine rvc_un (rexec_prim C (δ := { v := .pv (.lit (.bool false)) }) rfl rfl rfl rfl trivial rfl ?_) -- t49 pick
            refine rvc_un (rexec_prim C (δ := { v := .pv (.lit (.bool false)) }) rfl rfl rfl rfl trivial rfl ?_) -- t50 move
            refine rvc_shut rfl rfl rfl rfl ?_ -- t51
            refine rvc_shut rfl rfl rfl rfl ?_ -- t52
            refine rvc_shut rfl rfl rfl rfl ?_ -- t53
            refine rvc_shut rfl rfl rfl rfl ?_ -- t54
            refine rvc_shut rfl rfl rfl rfl ?_ -- t55
            refine rvc_un (rexec_prim C (δ := { v := .pv (.lit (.bool false)) }) rfl rfl rfl rfl trivial rfl ?_) -- t56 pick
            refine rvc_un (rexec_prim C (δ := { v := .pv (.lit (.bool false)) }) rfl rfl rfl rfl trivial rfl ?_) -- t0 assign
            refine rvc_nil ?_
            refine Awp.ret ?_
            subst hR
            exact ⟨.inl rfl, rfl⟩
        ·
          replace hR := of_false h4 hR
          refine rvc_shut rfl rfl rfl rfl ?_ -- t41
          refine rvc_shut rfl rfl rfl rfl ?_ -- t42
          refine rvc_shut rfl rfl rfl rfl ?_ -- t43
          refine rvc_un (rexec_prim C (δ := { v := .pv (.lit (.bool false)) }) rfl rfl rfl rfl trivial rfl ?_) -- t44 pick
          refine rvc_un (rexec_prim C (δ := { v := .pv (.lit (.bool false)) }) rfl rfl rfl rfl trivial rfl ?_) -- t45 move
          refine rvc_shut rfl rfl rfl rfl ?_ -- t46
          refine rvc_shut rfl rfl rfl rfl ?_ -- t47
          refine rvc_shut rfl rfl rfl rfl ?_ -- t48
          refine rvc_un (rexec_prim C (δ := { v := .pv (.lit (.bool false)) }) rfl rfl rfl rfl trivial rfl ?_) -- t49 pick
          refine rvc_un (rexec_prim C (δ := { v := .pv (.lit (.bool false)) }) rfl rfl rfl rfl trivial rfl ?_) -- t50 move
          refine rvc_shut rfl rfl rfl rfl ?_ -- t51
          refine rvc_shut rfl rfl rfl rfl ?_ -- t52
          refine rvc_shut rfl rfl rfl rfl ?_ -- t53
          refine rvc_shut rfl rfl rfl rfl ?_ -- t54
          refine rvc_shut rfl rfl rfl rfl ?_ -- t55
          refine rvc_un (rexec_prim C (δ := { v := .pv (.lit (.bool false)) }) rfl rfl rfl rfl trivial rfl ?_) -- t56 pick
          refine rvc_un (rexec_prim C (δ := { v := .pv (.lit (.bool false)) }) rfl rfl rfl rfl trivial rfl ?_) -- t0 assign
          refine rvc_nil ?_
          refine Awp.ret ?_
          subst hR
          exact ⟨.inl rfl, rfl⟩
      ·
        replace hR := of_false h3 hR
        refine rvc_shut rfl rfl rfl rfl ?_ -- t36
        refine rvc_shut rfl rfl rfl rfl ?_ -- t37
        refine rvc_shut rfl rfl rfl rfl ?_ -- t38
        refine rvc_un (rexec_prim C (δ := { v := .pv (.lit (.bool false)) }) rfl rfl rfl rfl trivial rfl ?_) -- t39 pick
        refine rvc_un (rexec_prim C (δ := { v := .pv (.lit (.bool false)) }) rfl rfl rfl rfl trivial rfl ?_) -- t40 move
        refine rvc_shut rfl rfl rfl rfl ?_ -- t41
        refine rvc_shut rfl rfl rfl rfl ?_ -- t42
        refine rvc_shut rfl rfl rfl rfl ?_ -- t43
        refine rvc_un (rexec_prim C (δ := { v := .pv (.lit (.bool false)) }) rfl rfl rfl rfl trivial rfl ?_) -- t44 pick
        refine rvc_un (rexec_prim C (δ := { v := .pv (.lit (.bool false)) }) rfl rfl rfl rfl trivial rfl ?_) -- t45 move
        refine rvc_shut rfl rfl rfl rfl ?_ -- t46
        refine rvc_shut rfl rfl rfl rfl ?_ -- t47
        refine rvc_shut rfl rfl rfl rfl ?_ -- t48
        refine rvc_un (rexec_prim C (δ := { v := .pv (.lit (.bool false)) }) rfl rfl rfl rfl trivial rfl ?_) -- t49 pick
        refine rvc_un (rexec_prim C (δ := { v := .pv (.lit (.bool false)) }) rfl rfl rfl rfl trivial rfl ?_) -- t50 move
        refine rvc_shut rfl rfl rfl rfl ?_ -- t51
        refine rvc_shut rfl rfl rfl rfl ?_ -- t52
        refine rvc_shut rfl rfl rfl rfl ?_ -- t53
        refine rvc_shut rfl rfl rfl rfl ?_ -- t54
        refine rvc_shut rfl rfl rfl rfl ?_ -- t55
        refine rvc_un (rexec_prim C (δ := { v := .pv (.lit (.bool false)) }) rfl rfl rfl rfl trivial rfl ?_) -- t56 pick
        refine rvc_un (rexec_prim C (δ := { v := .pv (.lit (.bool false)) }) rfl rfl rfl rfl trivial rfl ?_) -- t0 assign
        refine rvc_nil ?_
        refine Awp.ret ?_
        subst hR
        exact ⟨.inl rfl, rfl⟩
    ·
      replace hR := of_false h2 hR
      refine rvc_shut rfl rfl rfl rfl ?_ -- t32
      refine rvc_shut rfl rfl rfl rfl ?_ -- t33
      refine rvc_un (rexec_prim C (δ := { v := .pv (.lit (.bool false)) }) rfl rfl rfl rfl trivial rfl ?_) -- t34 pick
      refine rvc_un (rexec_prim C (δ := { v := .pv (.lit (.bool false)) }) rfl rfl rfl rfl trivial rfl ?_) -- t35 move
      refine rvc_shut rfl rfl rfl rfl ?_ -- t36
      refine rvc_shut rfl rfl rfl rfl ?_ -- t37
      refine rvc_shut rfl rfl rfl rfl ?_ -- t38
      refine rvc_un (rexec_prim C (δ := { v := .pv (.lit (.bool false)) }) rfl rfl rfl rfl trivial rfl ?_) -- t39 pick
      refine rvc_un (rexec_prim C (δ := { v := .pv (.lit (.bool false)) }) rfl rfl rfl rfl trivial rfl ?_) -- t40 move
      refine rvc_shut rfl rfl rfl rfl ?_ -- t41
      refine rvc_shut rfl rfl rfl rfl ?_ -- t42
      refine rvc_shut rfl rfl rfl rfl ?_ -- t43
      refine rvc_un (rexec_prim C (δ := { v := .pv (.lit (.bool false)) }) rfl rfl rfl rfl trivial rfl ?_) -- t44 pick
      refine rvc_un (rexec_prim C (δ := { v := .pv (.lit (.bool false)) }) rfl rfl rfl rfl trivial rfl ?_) -- t45 move
      refine rvc_shut rfl rfl rfl rfl ?_ -- t46
      refine rvc_shut rfl rfl rfl rfl ?_ -- t47
      refine rvc_shut rfl rfl rfl rfl ?_ -- t48
      refine rvc_un (rexec_prim C (δ := { v := .pv (.lit (.bool false)) }) rfl rfl rfl rfl trivial rfl ?_) -- t49 pick
      refine rvc_un (rexec_prim C (δ := { v := .pv (.lit (.bool false)) }) rfl rfl rfl rfl trivial rfl ?_) -- t50 move
      refine rvc_shut rfl rfl rfl rfl ?_ -- t51
      refine rvc_shut rfl rfl rfl rfl ?_ -- t52
      refine rvc_shut rfl rfl rfl rfl ?_ -- t53
      refine rvc_shut rfl rfl rfl rfl ?_ -- t54
      refine rvc_shut rfl rfl rfl rfl ?_ -- t55
      refine rvc_un (rexec_prim C (δ := { v := .pv (.lit (.bool false)) }) rfl rfl rfl rfl trivial rfl ?_) -- t56 pick
      refine rvc_un (rexec_prim C (δ := { v := .pv (.lit (.bool false)) }) rfl rfl rfl rfl trivial rfl ?_) -- t0 assign
      refine rvc_nil ?_
      refine Awp.ret ?_
      subst hR
      exact ⟨.inl rfl, rfl⟩
  ·
    replace hR := of_false h1 hR
    refine rvc_shut rfl rfl rfl rfl ?_ -- t28
    refine rvc_shut rfl rfl rfl rfl ?_ -- t29
    refine rvc_un (rexec_prim C (δ := { v := .pv (.lit (.bool false)) }) rfl rfl rfl rfl trivial rfl ?_) -- t30 pick
    refine rvc_un (rexec_prim C (δ := { v := .pv (.lit (.bool false)) }) rfl rfl rfl rfl trivial rfl ?_) -- t31 move
    refine rvc_shut rfl rfl rfl rfl ?_ -- t32
    refine rvc_shut rfl rfl rfl rfl ?_ -- t33
    refine rvc_un (rexec_prim C (δ := { v := .pv (.lit (.bool false)) }) rfl rfl rfl rfl trivial rfl ?_) -- t34 pick
    refine rvc_un (rexec_prim C (δ := { v := .pv (.lit (.bool false)) }) rfl rfl rfl rfl trivial rfl ?_) -- t35 move
    refine rvc_shut rfl rfl rfl rfl ?_ -- t36
    refine rvc_shut rfl rfl rfl rfl ?_ -- t37
    refine rvc_shut rfl rfl rfl rfl ?_ -- t38
    refine rvc_un (rexec_prim C (δ := { v := .pv (.lit (.bool false)) }) rfl rfl rfl rfl trivial rfl ?_) -- t39 pick
    refine rvc_un (rexec_prim C (δ := { v := .pv (.lit (.bool false)) }) rfl rfl rfl rfl trivial rfl ?_) -- t40 move
    refine rvc_shut rfl rfl rfl rfl ?_ -- t41
    refine rvc_shut rfl rfl rfl rfl ?_ -- t42
    refine rvc_shut rfl rfl rfl rfl ?_ -- t43
    refine rvc_un (rexec_prim C (δ := { v := .pv (.lit (.bool false)) }) rfl rfl rfl rfl trivial rfl ?_) -- t44 pick
    refine rvc_un (rexec_prim C (δ := { v := .pv (.lit (.bool false)) }) rfl rfl rfl rfl trivial rfl ?_) -- t45 move
    refine rvc_shut rfl rfl rfl rfl ?_ -- t46
    refine rvc_shut rfl rfl rfl rfl ?_ -- t47
    refine rvc_shut rfl rfl rfl rfl ?_ -- t48
    refine rvc_un (rexec_prim C (δ := { v := .pv (.lit (.bool false)) }) rfl rfl rfl rfl trivial rfl ?_) -- t49 pick
    refine rvc_un (rexec_prim C (δ := { v := .pv (.lit (.bool false)) }) rfl rfl rfl rfl trivial rfl ?_) -- t50 move
    refine rvc_shut rfl rfl rfl rfl ?_ -- t51
    refine rvc_shut rfl rfl rfl rfl ?_ -- t52
    refine rvc_shut rfl rfl rfl rfl ?_ -- t53
    refine rvc_shut rfl rfl rfl rfl ?_ -- t54
    refine rvc_shut rfl rfl rfl rfl ?_ -- t55
    refine rvc_un (rexec_prim C (δ := { v := .pv (.lit (.bool false)) }) rfl rfl rfl rfl trivial rfl ?_) -- t56 pick
    refine rvc_un (rexec_prim C (δ := { v := .pv (.lit (.bool false)) }) rfl rfl rfl rfl trivial rfl ?_) -- t0 assign
    refine rvc_nil ?_
    refine Awp.ret ?_
    subst hR
    exact ⟨.inl rfl, rfl⟩

def lawChecks (c : Chain) (d : Chain) : Bool :=
  (bif (decide ((IntKind.i64.wrap ((c.members.D.length : Int) + (d.members.D.length : Int))) > 60)) then (awake ) else (bif ((check c) == (rCheck c)) then (bif ((same c d) == (rSame c d)) then (bif (same c c) then (awake ) else false) else false) else false))
theorem lawChecks_calls (c : Chain) (d : Chain) (hl1 : c.members.D.length ≤ 9223372036854775807) : PCalls Try.prog 3 [.agg [.pv (.lit (.int .i64 c.epoch)), sS (some c.members.nil) eMember c.members.D], .agg [.pv (.lit (.int .i64 d.epoch)), sS (some d.members.nil) eMember d.members.D]] (.pv (.lit (.bool (lawChecks c d)))) := by
  generalize hR : lawChecks c d = R
  refine PCalls.of_body tabOk Try.func3 rfl rfl rfl rfl rfl mixed fun E hP C hI => ?_
  refine Awp.cons C (fun _ => .pure) (by kernel_rfl) ?_ -- region 0
  refine rvc_un (rexec_prim C (δ := { v := .ptr 2 0, new := [(2, .cells [.pv (.lit (.int .i64 c.epoch)), sS (some c.members.nil) eMember c.members.D])] }) rfl rfl rfl rfl trivial rfl ?_) -- t2 box
  refine rvc_un (rexec_prim C (δ := { v := .ptr 3 0, new := [(3, .cells [.pv (.lit (.int .i64 d.epoch)), sS (some d.members.nil) eMember d.members.D])] }) rfl rfl rfl rfl trivial rfl ?_) -- t3 box
  refine rvc_un (rexec_prim C (δ := { v := .pv (.lit (.bool false)) }) rfl rfl rfl rfl trivial rfl ?_) -- t4 assign
  refine rvc_nil ?_
  refine Awp.seq ?_
  refine Awp.cons C (fun _ => .pure) (by kernel_rfl) ?_ -- region 1
  refine rvc_un (rexec_prim C (δ := { v := .ptr 2 1 }) rfl rfl rfl rfl trivial rfl ?_) -- t5 fieldAddr
  refine rvc_un (rexec_prim C (δ := { v := sS (some c.members.nil) eMember c.members.D }) rfl rfl rfl rfl trivial rfl ?_) -- t6 load
  refine rvc_un (rexec_prim C (δ := { v := .pv (.lit (.int .i64 (c.members.D.length : Int))) }) rfl rfl rfl rfl trivial rfl ?_) -- t7 call
  refine rvc_un (rexec_prim C (δ := { v := .ptr 3 1 }) rfl rfl rfl rfl trivial rfl ?_) -- t8 fieldAddr
  refine rvc_un (rexec_prim C (δ := { v := sS (some d.members.nil) eMember d.members.D }) rfl rfl rfl rfl trivial rfl ?_) -- t9 load
  refine rvc_un (rexec_prim C (δ := { v := .pv (.lit (.int .i64 (d.members.D.length : Int))) }) rfl rfl rfl rfl trivial rfl ?_) -- t10 call
  refine rvc_un (rexec_prim C (δ := { v := .pv (.lit (.int .i64 (IntKind.i64.wrap ((c.members.D.length : Int) + (d.members.D.length : Int))))) }) rfl rfl rfl rfl trivial rfl ?_) -- t11 binOp
  refine rvc_un (rexec_prim C (δ := { v := .pv (.lit (.bool (decide ((IntKind.i64.wrap ((c.members.D.length : Int) + (d.members.D.length : Int))) > 60)))) }) rfl rfl rfl rfl trivial rfl ?_) -- t12 binOp
  refine rvc_nil ?_
  refine Awp.cond (b := (decide ((IntKind.i64.wrap ((c.members.D.length : Int) + (d.members.D.length : Int))) > 60))) rfl (fun h1 => ?_) (fun h1 => ?_)
  ·
    replace hR := of_true h1 hR
    refine Awp.cons C (fun _ => .pure) (by kernel_rfl) ?_ -- region 2
    refine rvc_un (rexec_call hP C rfl rfl rfl (awake_calls ) ?_) -- t13 call
    refine rvc_un (rexec_prim C (δ := { v := .pv (.lit (.bool (awake ))) }) rfl rfl rfl rfl trivial rfl ?_) -- t4 assign
    refine rvc_nil ?_
    refine Awp.ret ?_
    subst hR
    exact ⟨.inl rfl, rfl⟩
  ·
    replace hR := of_false h1 hR
    refine Awp.skip ?_
    refine Awp.cons C (fun _ => .pure) (by kernel_rfl) ?_ -- region 3
    refine rvc_un (rexec_prim C (δ := { v := .agg [.pv (.lit (.int .i64 c.epoch)), sS (some c.members.nil) eMember c.members.D] }) rfl rfl rfl rfl trivial rfl ?_) -- t14 load
    refine rvc_un (rexec_call hP C rfl rfl rfl (check_calls c hl1) ?_) -- t15 call
    refine rvc_un (rexec_prim C (δ := { v := .agg [.pv (.lit (.int .i64 c.epoch)), sS (some c.members.nil) eMember c.members.D] }) rfl rfl rfl rfl trivial rfl ?_) -- t16 load
    refine rvc_un (rexec_call hP C rfl rfl rfl (rCheck_calls c hl1) ?_) -- t17 call
    refine rvc_un (rexec_prim C (δ := { v := .pv (.lit (.bool ((check c) == (rCheck c)))) }) rfl rfl rfl rfl trivial rfl ?_) -- t18 binOp
    refine rvc_un (rexec_prim C (δ := { v := .pv (.lit (.bool ((check c) == (rCheck c)))) }) rfl rfl rfl rfl trivial rfl ?_) -- t19 move
    refine rvc_case 19 ((check c) == (rCheck c)) rfl (fun h2 => ?_) (fun h2 => ?_)
    ·
      replace hR := of_true h2 hR
      refine rvc_open rfl rfl rfl (rexec_prim C (δ := { v := .agg [.pv (.lit (.int .i64 c.epoch)), sS (some c.members.nil) eMember c.members.D] }) rfl rfl rfl rfl trivial rfl ?_) -- t20 load
      refine rvc_open rfl rfl rfl (rexec_prim C (δ := { v := .agg [.pv (.lit (.int .i64 d.epoch)), sS (some d.members.nil) eMember d.members.D] }) rfl rfl rfl rfl trivial rfl ?_) -- t21 load
      refine rvc_open rfl rfl rfl (rexec_call hP C rfl rfl rfl (same_calls c d hl1) ?_) -- t22 call
      refine rvc_open rfl rfl rfl (rexec_prim C (δ := { v := .agg [.pv (.lit (.int .i64 c.epoch)), sS (some c.members.nil) eMember c.members.D] }) rfl rfl rfl rfl trivial rfl ?_) -- t23 load
      refine rvc_open rfl rfl rfl (rexec_prim C (δ := { v := .agg [.pv (.lit (.int .i64 d.epoch)), sS (some d.members.nil) eMember d.members.D] }) rfl rfl rfl rfl trivial rfl ?_) -- t24 load
      refine rvc_open rfl rfl rfl (rexec_call hP C rfl rfl rfl (rSame_calls c d hl1) ?_) -- t25 call
      refine rvc_open rfl rfl rfl (rexec_prim C (δ := { v := .pv (.lit (.bool ((same c d) == (rSame c d)))) }) rfl rfl rfl rfl trivial rfl ?_) -- t26 binOp
      refine rvc_un (rexec_prim C (δ := { v := .pv (.lit (.bool ((same c d) == (rSame c d)))) }) rfl rfl rfl rfl trivial rfl ?_) -- t27 pick
      refine rvc_un (rexec_prim C (δ := { v := .pv (.lit (.bool ((same c d) == (rSame c d)))) }) rfl rfl rfl rfl trivial rfl ?_) -- t28 move
      refine rvc_case 28 ((same c d) == (rSame c d)) rfl (fun h3 => ?_) (fun h3 => ?_)
      ·
        replace hR := of_true h3 hR
        refine rvc_open rfl rfl rfl (rexec_prim C (δ := { v := .agg [.pv (.lit (.int .i64 c.epoch)), sS (some c.members.nil) eMember c.members.D] }) rfl rfl rfl rfl trivial rfl ?_) -- t29 load
        refine rvc_open rfl rfl rfl (rexec_prim C (δ := { v := .agg [.pv (.lit (.int .i64 c.epoch)), sS (some c.members.nil) eMember c.members.D] }) rfl rfl rfl rfl trivial rfl ?_) -- t30 load
        refine rvc_open rfl rfl rfl (rexec_call hP C rfl rfl rfl (same_calls c c hl1) ?_) -- t31 call
        refine rvc_un (rexec_prim C (δ := { v := .pv (.lit (.bool (same c c))) }) rfl rfl rfl rfl trivial rfl ?_) -- t32 pick
        refine rvc_un (rexec_prim C (δ := { v := .pv (.lit (.bool (same c c))) }) rfl rfl rfl rfl trivial rfl ?_) -- t33 move
        refine rvc_case 33 (same c c) rfl (fun h4 => ?_) (fun h4 => ?_)
        ·
          replace hR := of_true h4 hR
          refine rvc_open rfl rfl rfl (rexec_call hP C rfl rfl rfl (awake_calls ) ?_) -- t34 call
          refine rvc_un (rexec_prim C (δ := { v := .pv (.lit (.bool (awake ))) }) rfl rfl rfl rfl trivial rfl ?_) -- t35 pick
          refine rvc_un (rexec_prim C (δ := { v := .pv (.lit (.bool (awake ))) }) rfl rfl rfl rfl trivial rfl ?_) -- t4 assign
          refine rvc_nil ?_
          refine Awp.ret ?_
          subst hR
          exact ⟨.inl rfl, rfl⟩
        ·
          replace hR := of_false h4 hR
          refine rvc_shut rfl rfl rfl rfl ?_ -- t34
          refine rvc_un (rexec_prim C (δ := { v := .pv (.lit (.bool false)) }) rfl rfl rfl rfl trivial rfl ?_) -- t35 pick
          refine rvc_un (rexec_prim C (δ := { v := .pv (.lit (.bool false)) }) rfl rfl rfl rfl trivial rfl ?_) -- t4 assign
          refine rvc_nil ?_
          refine Awp.ret ?_
          subst hR
          exact ⟨.inl rfl, rfl⟩
      ·
        replace hR := of_false h3 hR
        refine rvc_shut rfl rfl rfl rfl ?_ -- t29
        refine rvc_shut rfl rfl rfl rfl ?_ -- t30
        refine rvc_shut rfl rfl rfl rfl ?_ -- t31
        refine rvc_un (rexec_prim C (δ := { v := .pv (.lit (.bool false)) }) rfl rfl rfl rfl trivial rfl ?_) -- t32 pick
        refine rvc_un (rexec_prim C (δ := { v := .pv (.lit (.bool false)) }) rfl rfl rfl rfl trivial rfl ?_) -- t33 move
        refine rvc_shut rfl rfl rfl rfl ?_ -- t34
        refine rvc_un (rexec_prim C (δ := { v := .pv (.lit (.bool false)) }) rfl rfl rfl rfl trivial rfl ?_) -- t35 pick
        refine rvc_un (rexec_prim C (δ := { v := .pv (.lit (.bool false)) }) rfl rfl rfl rfl trivial rfl ?_) -- t4 assign
        refine rvc_nil ?_
        refine Awp.ret ?_
        subst hR
        exact ⟨.inl rfl, rfl⟩
    ·
      replace hR := of_false h2 hR
      refine rvc_shut rfl rfl rfl rfl ?_ -- t20
      refine rvc_shut rfl rfl rfl rfl ?_ -- t21
      refine rvc_shut rfl rfl rfl rfl ?_ -- t22
      refine rvc_shut rfl rfl rfl rfl ?_ -- t23
      refine rvc_shut rfl rfl rfl rfl ?_ -- t24
      refine rvc_shut rfl rfl rfl rfl ?_ -- t25
      refine rvc_shut rfl rfl rfl rfl ?_ -- t26
      refine rvc_un (rexec_prim C (δ := { v := .pv (.lit (.bool false)) }) rfl rfl rfl rfl trivial rfl ?_) -- t27 pick
      refine rvc_un (rexec_prim C (δ := { v := .pv (.lit (.bool false)) }) rfl rfl rfl rfl trivial rfl ?_) -- t28 move
      refine rvc_shut rfl rfl rfl rfl ?_ -- t29
      refine rvc_shut rfl rfl rfl rfl ?_ -- t30
      refine rvc_shut rfl rfl rfl rfl ?_ -- t31
      refine rvc_un (rexec_prim C (δ := { v := .pv (.lit (.bool false)) }) rfl rfl rfl rfl trivial rfl ?_) -- t32 pick
      refine rvc_un (rexec_prim C (δ := { v := .pv (.lit (.bool false)) }) rfl rfl rfl rfl trivial rfl ?_) -- t33 move
      refine rvc_shut rfl rfl rfl rfl ?_ -- t34
      refine rvc_un (rexec_prim C (δ := { v := .pv (.lit (.bool false)) }) rfl rfl rfl rfl trivial rfl ?_) -- t35 pick
      refine rvc_un (rexec_prim C (δ := { v := .pv (.lit (.bool false)) }) rfl rfl rfl rfl trivial rfl ?_) -- t4 assign
      refine rvc_nil ?_
      refine Awp.ret ?_
      subst hR
      exact ⟨.inl rfl, rfl⟩

end Go.Proofs.Ytjhphpoihadmkaa
