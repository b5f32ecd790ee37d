import Derived.Test.YtaffaalpgpepeaaM3
/- More changes of chains. No conditions. -/
namespace Go.Proofs.Ytaffaalpgpepeaa
open Go.Am
def ready (c : Chain) (node : Int) : Chain × Int :=
  (bif ((check c) != 0) then ((Chain.mk 0 (Sl.mk true [])), (check c)) else (bif (decide ((placeIn c node) < 0)) then ((Chain.mk 0 (Sl.mk true [])), 81) else (bif (!(c.members.D[(placeIn c node).toNat]!.fresh)) then ((Chain.mk 0 (Sl.mk true [])), 81) else ((Chain.mk c.epoch (Sl.mk false (c.members.D.set ((placeIn c node).toNat) (Member.mk (c.members.D[(placeIn c node).toNat]!.node) (c.members.D[(placeIn c node).toNat]!.site) false)))), 0))))
theorem ready_calls (c : Chain) (node : Int) (hn : c.members.nil = true → c.members.D = []) (hl1 : c.members.D.length ≤ 1000000) : PCalls Try.prog 63 [.agg [.pv (.lit (.int .i64 c.epoch)), sS (some c.members.nil) eMember c.members.D], .pv (.lit (.int .i64 node))] (.tup [.agg [.pv (.lit (.int .i64 ((ready c node).1.epoch))), sS (some (ready c node).1.members.nil) eMember ((ready c node).1.members.D)], .pv (.lit (.int .i64 ((ready c node).2)))]) := by
 generalize hR : ready c node = R
 refine PCalls.of_body tabOk Try.func63 rfl rfl rfl rfl rfl mixed fun E hP C hI => ?_
 refine Awp.cons C (fun _ => .pure) (by kernel_rfl) ?_
 refine rvc_un (rexec_prim C (δ := { v := .ptr 2 0, new := [(2, .cells [.pv (.lit (.int .i64 c.epoch)), sS (some c.members.nil) eMember c.members.D])] }) rfl rfl rfl rfl trivial rfl ?_)
 refine rvc_un (rexec_prim C (δ := { v := .ptr 4 0, new := [(4, .cells [.pv (.lit (.int .i64 0)), sS (some true) eMember []])] }) rfl rfl rfl rfl trivial rfl ?_)
 refine rvP C (.pv (.lit (.int .i64 0))) rfl rfl rfl rfl ?_
 refine rvc_nil ?_
 refine Awp.seq ?_
 refine Awp.cons C (fun _ => .pure) (by kernel_rfl) ?_
 refine rvP C (.agg [.pv (.lit (.int .i64 c.epoch)), sS (some c.members.nil) eMember c.members.D]) rfl rfl rfl rfl ?_
 refine rvc_un (rexec_call hP C rfl rfl rfl (check_calls c (Nat.le_trans hl1 (by decide))) ?_)
 refine rvP C (.pv (.lit (.int .i64 (check c)))) rfl rfl rfl rfl ?_
 refine rvc_nil ?_
 refine Awp.cons C (fun _ => .pure) (by kernel_rfl) ?_
 refine rvP C (.pv (.lit (.int .i64 (check c)))) rfl rfl rfl rfl ?_
 refine rvP C (.pv (.lit (.bool ((check c) != 0)))) rfl rfl rfl rfl ?_
 refine rvc_nil ?_
 refine Awp.cond (b := ((check c) != 0)) rfl (fun h1 => ?_) (fun h1 => ?_)
 ·
  replace hR := of_true h1 hR
  refine Awp.cons C (fun _ => .pure) (by kernel_rfl) ?_
  refine rvP C (.agg [.pv (.lit (.int .i64 0)), sS (some true) eMember []]) rfl rfl rfl rfl ?_
  refine rvP C (.pv (.lit (.int .i64 (check c)))) rfl rfl rfl rfl ?_
  refine rvc_un (rexec_prim C (δ := { v := .undef, wr := [(4, some (.cells [.pv (.lit (.int .i64 0)), sS (some true) eMember []]))] }) rfl rfl rfl rfl trivial rfl ?_)
  refine rvP C (.pv (.lit (.int .i64 (check c)))) rfl rfl rfl rfl ?_
  refine rvc_nil ?_
  refine Awp.ret ?_
  subst hR
  exact ⟨.inl rfl, rfl⟩
 ·
  replace hR := of_false h1 hR
  refine Awp.skip ?_
  refine Awp.cons C (fun _ => .pure) (by kernel_rfl) ?_
  refine rvP C (.agg [.pv (.lit (.int .i64 c.epoch)), sS (some c.members.nil) eMember c.members.D]) rfl rfl rfl rfl ?_
  refine rvP C (.pv (.lit (.int .i64 node))) rfl rfl rfl rfl ?_
  refine rvc_un (rexec_call hP C rfl rfl rfl (placeIn_calls c node (Nat.le_trans hl1 (by decide))) ?_)
  refine rvP C (.pv (.lit (.int .i64 (placeIn c node)))) rfl rfl rfl rfl ?_
  refine rvc_nil ?_
  refine Awp.seq ?_
  refine Awp.cons C (fun _ => .pure) (by kernel_rfl) ?_
  refine rvP C (.pv (.lit (.int .i64 (placeIn c node)))) rfl rfl rfl rfl ?_
  refine rvP C (.pv (.lit (.bool (decide ((placeIn c node) < 0))))) rfl rfl rfl rfl ?_
  refine rvP C (.pv (.lit (.bool (decide ((placeIn c node) < 0))))) rfl rfl rfl rfl ?_
  refine rvc_case 20 (decide ((placeIn c node) < 0)) rfl (fun h2 => ?_) (fun h2 => ?_)
  ·
   replace hR := of_true h2 hR
   refine rvc_shut rfl rfl rfl rfl ?_
   refine rvc_shut rfl rfl rfl rfl ?_
   refine rvc_shut rfl rfl rfl rfl ?_
   refine rvc_shut rfl rfl rfl rfl ?_
   refine rvc_shut rfl rfl rfl rfl ?_
   refine rvc_shut rfl rfl rfl rfl ?_
   refine rvc_shut rfl rfl rfl rfl ?_
   refine rvP C (.pv (.lit (.bool true))) rfl rfl rfl rfl ?_
   refine rvc_nil ?_
   refine Awp.condT (b := true) rfl rfl ?_
   refine Awp.cons C (fun _ => .pure) (by kernel_rfl) ?_
   refine rvP C (.agg [.pv (.lit (.int .i64 0)), sS (some true) eMember []]) rfl rfl rfl rfl ?_
   refine rvc_un (rexec_prim C (δ := { v := .undef, wr := [(4, some (.cells [.pv (.lit (.int .i64 0)), sS (some true) eMember []]))] }) rfl rfl rfl rfl trivial rfl ?_)
   refine rvP C (.pv (.lit (.int .i64 81))) rfl rfl rfl rfl ?_
   refine rvc_nil ?_
   refine Awp.ret ?_
   subst hR
   exact ⟨.inl rfl, rfl⟩
  ·
   replace hR := of_false h2 hR
   refine rvc_open rfl rfl rfl (rexec_prim C (δ := { v := .ptr 2 1 }) rfl rfl rfl rfl trivial rfl ?_)
   refine rvc_open rfl rfl rfl (rexec_prim C (δ := { v := sS (some c.members.nil) eMember c.members.D }) rfl rfl rfl rfl trivial rfl ?_)
   refine rvc_open rfl rfl rfl (rexec_prim C (δ := { v := .pv (.lit (.int .i64 (placeIn c node))) }) rfl rfl rfl rfl trivial rfl ?_)
   have h3 : c.members.D[(placeIn c node).toNat]? = some c.members.D[(placeIn c node).toNat]! := getE (by have := check_len (c := c); have := check_le6 (c := c); have := placeIn_lt c node; have := eq_of_bne_false h1; have := of_decide_eq_false h2; omega)
   refine rvc_open rfl rfl rfl (rexec_idxS C rfl rfl rfl rfl rfl rfl (c.members.D[(placeIn c node).toNat]!) (by have := check_len (c := c); have := check_le6 (c := c); have := placeIn_lt c node; have := eq_of_bne_false h1; have := of_decide_eq_false h2; omega) h3 ?_)
   refine rvc_open rfl rfl rfl (rexec_prim C (δ := { v := .rp [.lit (.bool (c.members.D[(placeIn c node).toNat]!.fresh))] }) rfl rfl rfl rfl trivial rfl ?_)
   refine rvc_open rfl rfl rfl (rexec_prim C (δ := { v := .pv (.lit (.bool (c.members.D[(placeIn c node).toNat]!.fresh))) }) rfl rfl rfl rfl trivial rfl ?_)
   refine rvc_open rfl rfl rfl (rexec_prim C (δ := { v := .pv (.lit (.bool (!(c.members.D[(placeIn c node).toNat]!.fresh)))) }) rfl rfl rfl rfl trivial rfl ?_)
   refine rvP C (.pv (.lit (.bool (!(c.members.D[(placeIn c node).toNat]!.fresh))))) rfl rfl rfl rfl ?_
   refine rvc_nil ?_
   refine Awp.cond (b := (!(c.members.D[(placeIn c node).toNat]!.fresh))) rfl (fun h4 => ?_) (fun h4 => ?_)
   ·
    replace hR := of_true h4 hR
    refine Awp.cons C (fun _ => .pure) (by kernel_rfl) ?_
    refine rvP C (.agg [.pv (.lit (.int .i64 0)), sS (some true) eMember []]) rfl rfl rfl rfl ?_
    refine rvc_un (rexec_prim C (δ := { v := .undef, wr := [(4, some (.cells [.pv (.lit (.int .i64 0)), sS (some true) eMember []]))] }) rfl rfl rfl rfl trivial rfl ?_)
    refine rvP C (.pv (.lit (.int .i64 81))) rfl rfl rfl rfl ?_
    refine rvc_nil ?_
    refine Awp.ret ?_
    subst hR
    exact ⟨.inl rfl, rfl⟩
   ·
    replace hR := of_false h4 hR
    refine Awp.skip ?_
    refine Awp.cons C (fun _ => .quiet) (by kernel_rfl) ?_
    refine rvP C (.ptr 2 1) rfl rfl rfl rfl ?_
    refine rvP C (sS (some c.members.nil) eMember c.members.D) rfl rfl rfl rfl ?_
    refine rvc_un (rexec_callO hP C rfl rfl rfl rfl (cloneO_calls c.members (nil_false hn (by have := check_len (c := c); have := check_le6 (c := c); have := placeIn_lt c node; have := eq_of_bne_false h1; have := of_decide_eq_false h2; omega)) hl1) ?_)
    refine rvP C (.sl 32 0 c.members.D.length 3 false) rfl rfl rfl rfl ?_
    refine rvc_nil ?_
    refine Awp.cons C (fun _ => .pure) (by kernel_rfl) ?_
    refine rvP C (.sl 32 0 c.members.D.length 3 false) rfl rfl rfl rfl ?_
    refine rvP C (.pv (.lit (.int .i64 (placeIn c node)))) rfl rfl rfl rfl ?_
    refine rvc_un (rexec_prim C (δ := { v := .ptr 32 (0 + (placeIn c node).toNat * 3) }) rfl rfl rfl rfl ⟨(by have := check_len (c := c); have := check_le6 (c := c); have := placeIn_lt c node; have := eq_of_bne_false h1; have := of_decide_eq_false h2; omega), getlt h3 (by first | rfl | omega | (have := check_len (c := c); have := check_le6 (c := c); have := placeIn_lt c node; have := eq_of_bne_false h1; have := of_decide_eq_false h2; omega)) (by first | rfl | simp)⟩ rfl ?_)
    refine rvP C (.ptr 32 (0 + (placeIn c node).toNat * 3 + 2)) rfl rfl rfl rfl ?_
    refine rvc_un (rexec_storeE C (e := eMember) ((placeIn c node).toNat) 2 (c.members.D[(placeIn c node).toNat]!) (Member.mk (c.members.D[(placeIn c node).toNat]!.node) (c.members.D[(placeIn c node).toNat]!.site) false) rfl rfl rfl rfl h3 (by simp [eMember]) rfl rfl rfl (by decide) rfl ?_)
    refine rvc_nil ?_
    refine Awp.cons C (fun _ => .pure) (by kernel_rfl) ?_
    refine rvP C (.ptr 2 0) rfl rfl rfl rfl ?_
    refine rvP C (.pv (.lit (.int .i64 c.epoch))) rfl rfl rfl rfl ?_
    refine rvP C (.sl 32 0 c.members.D.length 3 false) rfl rfl rfl rfl ?_
    refine rvP C (.agg [.pv (.lit (.int .i64 c.epoch)), .sl 32 0 c.members.D.length 3 false]) rfl rfl rfl rfl ?_
    refine rvc_un (rexec_prim C (δ := { v := .undef, wr := [(4, some (.cells [.pv (.lit (.int .i64 c.epoch)), .sl 32 0 c.members.D.length 3 false]))] }) rfl rfl rfl rfl trivial rfl ?_)
    refine rvP C (.pv (.lit (.int .i64 0))) rfl rfl rfl rfl ?_
    refine rvc_nil ?_
    refine Awp.freezeW 32 (encL eMember (c.members.D.set ((placeIn c node).toNat) (Member.mk (c.members.D[(placeIn c node).toNat]!.node) (c.members.D[(placeIn c node).toNat]!.site) false))) ?_ [(4, .ptr 4 0), (5, .pv (.lit (.int .i64 0)))] [(2, .cells [.pv (.lit (.int .i64 c.epoch)), sS (some c.members.nil) eMember c.members.D]), (4, .cells [.pv (.lit (.int .i64 c.epoch)), sS (some false) eMember (c.members.D.set ((placeIn c node).toNat) (Member.mk (c.members.D[(placeIn c node).toNat]!.node) (c.members.D[(placeIn c node).toNat]!.site) false))])] ?_ ?_ ?_
    · rfl
    · exact ⟨⟨_, rfl, .inl (.inl rfl)⟩, ⟨_, rfl, .inl (.inl rfl)⟩, trivial⟩
    · exact ⟨⟨(by show (2 : Nat) ≠ 32; decide), .inl rfl⟩, ⟨(by show (4 : Nat) ≠ 32; decide), .inr ⟨_, _, rfl, rfl, ⟨.inl rfl, .inr ⟨_, _, _, rfl, by simp [sS]⟩, trivial⟩⟩⟩, trivial⟩
    refine Awp.ret ?_
    subst hR
    exact ⟨.inl rfl, rfl⟩
def rJoin_l0 (c : Chain) (m : Member) : List Member → Nat → Bool → (List Member) → Chain × Int
  | [], _, put, vc => (bif (!put) then ((Chain.mk (IntKind.i64.wrap (c.epoch + 1)) (Sl.mk false (vc ++ [(Member.mk m.node m.site true)]))), 0) else ((Chain.mk (IntKind.i64.wrap (c.epoch + 1)) (Sl.mk vc.isEmpty vc)), 0))
  | x :: xs, i, put, vc => (bif (decide (x.site > m.site)) then (bif (!put) then rJoin_l0 c m xs (i + 1) true ((vc ++ [(Member.mk m.node m.site true)]) ++ [x]) else rJoin_l0 c m xs (i + 1) put (vc ++ [x])) else rJoin_l0 c m xs (i + 1) put (vc ++ [x]))
def rJoin (c : Chain) (m : Member) : Chain × Int :=
  (bif ((rCheck c) != 0) then ((Chain.mk 0 (Sl.mk true [])), 80) else (bif (decide (m.node < 0)) then ((Chain.mk 0 (Sl.mk true [])), 81) else (bif (decide (m.node > 5)) then ((Chain.mk 0 (Sl.mk true [])), 81) else (bif (decide (m.site < 0)) then ((Chain.mk 0 (Sl.mk true [])), 81) else (bif (decide (m.site > 2)) then ((Chain.mk 0 (Sl.mk true [])), 81) else (bif (decide ((rPlace c m.node) ≥ 0)) then ((Chain.mk 0 (Sl.mk true [])), 82) else (bif (c.epoch == 1099511627776) then ((Chain.mk 0 (Sl.mk true [])), 5) else (bif (decide ((c.members.D[0]!.site) > m.site)) then ((Chain.mk 0 (Sl.mk true [])), 152) else rJoin_l0 c m c.members.D 0 false []))))))))
theorem rJoin_calls (c : Chain) (m : Member) (hl1 : c.members.D.length ≤ 1000000) : PCalls Try.prog 43 [.agg [.pv (.lit (.int .i64 c.epoch)), sS (some c.members.nil) eMember c.members.D], .agg [.pv (.lit (.int .i64 m.node)), .pv (.lit (.int .i64 m.site)), .pv (.lit (.bool m.fresh))]] (.tup [.agg [.pv (.lit (.int .i64 ((rJoin c m).1.epoch))), sS (some (rJoin c m).1.members.nil) eMember ((rJoin c m).1.members.D)], .pv (.lit (.int .i64 ((rJoin c m).2)))]) := by
 generalize hR : rJoin c m = R
 refine PCalls.of_body tabOk Try.func43 rfl rfl rfl rfl rfl mixed fun E hP C hI => ?_
 refine Awp.cons C (fun _ => .pure) (by kernel_rfl) ?_
 refine rvc_un (rexec_prim C (δ := { v := .ptr 2 0, new := [(2, .cells [.pv (.lit (.int .i64 c.epoch)), sS (some c.members.nil) eMember c.members.D])] }) rfl rfl rfl rfl trivial rfl ?_)
 refine rvc_un (rexec_prim C (δ := { v := .ptr 3 0, new := [(3, .cells [.pv (.lit (.int .i64 m.node)), .pv (.lit (.int .i64 m.site)), .pv (.lit (.bool m.fresh))])] }) rfl rfl rfl rfl trivial rfl ?_)
 refine rvc_un (rexec_prim C (δ := { v := .ptr 4 0, new := [(4, .cells [.pv (.lit (.int .i64 0)), sS (some true) eMember []])] }) rfl rfl rfl rfl trivial rfl ?_)
 refine rvP C (.pv (.lit (.int .i64 0))) rfl rfl rfl rfl ?_
 refine rvc_nil ?_
 refine Awp.seq ?_
 refine Awp.cons C (fun _ => .pure) (by kernel_rfl) ?_
 refine rvP C (.agg [.pv (.lit (.int .i64 c.epoch)), sS (some c.members.nil) eMember c.members.D]) rfl rfl rfl rfl ?_
 refine rvc_un (rexec_call hP C rfl rfl rfl (rCheck_calls c (Nat.le_trans hl1 (by decide))) ?_)
 refine rvP C (.pv (.lit (.bool ((rCheck c) != 0)))) rfl rfl rfl rfl ?_
 refine rvc_nil ?_
 refine Awp.cond (b := ((rCheck c) != 0)) rfl (fun h1 => ?_) (fun h1 => ?_)
 ·
  replace hR := of_true h1 hR
  refine Awp.cons C (fun _ => .pure) (by kernel_rfl) ?_
  refine rvP C (.agg [.pv (.lit (.int .i64 0)), sS (some true) eMember []]) rfl rfl rfl rfl ?_
  refine rvc_un (rexec_prim C (δ := { v := .undef, wr := [(4, some (.cells [.pv (.lit (.int .i64 0)), sS (some true) eMember []]))] }) rfl rfl rfl rfl trivial rfl ?_)
  refine rvP C (.pv (.lit (.int .i64 80))) rfl rfl rfl rfl ?_
  refine rvc_nil ?_
  refine Awp.ret ?_
  subst hR
  exact ⟨.inl rfl, rfl⟩
 ·
  replace hR := of_false h1 hR
  refine Awp.skip ?_
  refine Awp.seq ?_
  refine Awp.cons C (fun _ => .pure) (by kernel_rfl) ?_
  refine rvP C (.ptr 3 0) rfl rfl rfl rfl ?_
  refine rvP C (.pv (.lit (.int .i64 m.node))) rfl rfl rfl rfl ?_
  refine rvP C (.pv (.lit (.bool (decide (m.node < 0))))) rfl rfl rfl rfl ?_
  refine rvP C (.pv (.lit (.bool (decide (m.node < 0))))) rfl rfl rfl rfl ?_
  refine rvc_case 17 (decide (m.node < 0)) rfl (fun h2 => ?_) (fun h2 => ?_)
  ·
   replace hR := of_true h2 hR
   refine rvc_shut rfl rfl rfl rfl ?_
   refine rvc_shut rfl rfl rfl rfl ?_
   refine rvc_shut rfl rfl rfl rfl ?_
   refine rvP C (.pv (.lit (.bool true))) rfl rfl rfl rfl ?_
   refine rvP C (.pv (.lit (.bool true))) rfl rfl rfl rfl ?_
   refine rvc_shut rfl rfl rfl rfl ?_
   refine rvc_shut rfl rfl rfl rfl ?_
   refine rvc_shut rfl rfl rfl rfl ?_
   refine rvP C (.pv (.lit (.bool true))) rfl rfl rfl rfl ?_
   refine rvP C (.pv (.lit (.bool true))) rfl rfl rfl rfl ?_
   refine rvc_shut rfl rfl rfl rfl ?_
   refine rvc_shut rfl rfl rfl rfl ?_
   refine rvc_shut rfl rfl rfl rfl ?_
   refine rvP C (.pv (.lit (.bool true))) rfl rfl rfl rfl ?_
   refine rvc_nil ?_
   refine Awp.condT (b := true) rfl rfl ?_
   refine Awp.cons C (fun _ => .pure) (by kernel_rfl) ?_
   refine rvP C (.agg [.pv (.lit (.int .i64 0)), sS (some true) eMember []]) rfl rfl rfl rfl ?_
   refine rvc_un (rexec_prim C (δ := { v := .undef, wr := [(4, some (.cells [.pv (.lit (.int .i64 0)), sS (some true) eMember []]))] }) rfl rfl rfl rfl trivial rfl ?_)
   refine rvP C (.pv (.lit (.int .i64 81))) rfl rfl rfl rfl ?_
   refine rvc_nil ?_
   refine Awp.ret ?_
   subst hR
   exact ⟨.inl rfl, rfl⟩
  ·
   replace hR := of_false h2 hR
   refine rvc_open rfl rfl rfl (rexec_prim C (δ := { v := .ptr 3 0 }) rfl rfl rfl rfl trivial rfl ?_)
   refine rvc_open rfl rfl rfl (rexec_prim C (δ := { v := .pv (.lit (.int .i64 m.node)) }) rfl rfl rfl rfl trivial rfl ?_)
   refine rvc_open rfl rfl rfl (rexec_prim C (δ := { v := .pv (.lit (.bool (decide (m.node > 5)))) }) rfl rfl rfl rfl trivial rfl ?_)
   refine rvP C (.pv (.lit (.bool (decide (m.node > 5))))) rfl rfl rfl rfl ?_
   refine rvP C (.pv (.lit (.bool (decide (m.node > 5))))) rfl rfl rfl rfl ?_
   refine rvc_case 22 (decide (m.node > 5)) rfl (fun h3 => ?_) (fun h3 => ?_)
   ·
    replace hR := of_true h3 hR
    refine rvc_shut rfl rfl rfl rfl ?_
    refine rvc_shut rfl rfl rfl rfl ?_
    refine rvc_shut rfl rfl rfl rfl ?_
    refine rvP C (.pv (.lit (.bool true))) rfl rfl rfl rfl ?_
    refine rvP C (.pv (.lit (.bool true))) rfl rfl rfl rfl ?_
    refine rvc_shut rfl rfl rfl rfl ?_
    refine rvc_shut rfl rfl rfl rfl ?_
    refine rvc_shut rfl rfl rfl rfl ?_
    refine rvP C (.pv (.lit (.bool true))) rfl rfl rfl rfl ?_
    refine rvc_nil ?_
    refine Awp.condT (b := true) rfl rfl ?_
    refine Awp.cons C (fun _ => .pure) (by kernel_rfl) ?_
    refine rvP C (.agg [.pv (.lit (.int .i64 0)), sS (some true) eMember []]) rfl rfl rfl rfl ?_
    refine rvc_un (rexec_prim C (δ := { v := .undef, wr := [(4, some (.cells [.pv (.lit (.int .i64 0)), sS (some true) eMember []]))] }) rfl rfl rfl rfl trivial rfl ?_)
    refine rvP C (.pv (.lit (.int .i64 81))) rfl rfl rfl rfl ?_
    refine rvc_nil ?_
    refine Awp.ret ?_
    subst hR
    exact ⟨.inl rfl, rfl⟩
   ·
    replace hR := of_false h3 hR
    refine rvc_open rfl rfl rfl (rexec_prim C (δ := { v := .ptr 3 1 }) rfl rfl rfl rfl trivial rfl ?_)
    refine rvc_open rfl rfl rfl (rexec_prim C (δ := { v := .pv (.lit (.int .i64 m.site)) }) rfl rfl rfl rfl trivial rfl ?_)
    refine rvc_open rfl rfl rfl (rexec_prim C (δ := { v := .pv (.lit (.bool (decide (m.site < 0)))) }) rfl rfl rfl rfl trivial rfl ?_)
    refine rvP C (.pv (.lit (.bool (decide (m.site < 0))))) rfl rfl rfl rfl ?_
    refine rvP C (.pv (.lit (.bool (decide (m.site < 0))))) rfl rfl rfl rfl ?_
    refine rvc_case 27 (decide (m.site < 0)) rfl (fun h4 => ?_) (fun h4 => ?_)
    ·
     replace hR := of_true h4 hR
     refine rvc_shut rfl rfl rfl rfl ?_
     refine rvc_shut rfl rfl rfl rfl ?_
     refine rvc_shut rfl rfl rfl rfl ?_
     refine rvP C (.pv (.lit (.bool true))) rfl rfl rfl rfl ?_
     refine rvc_nil ?_
     refine Awp.condT (b := true) rfl rfl ?_
     refine Awp.cons C (fun _ => .pure) (by kernel_rfl) ?_
     refine rvP C (.agg [.pv (.lit (.int .i64 0)), sS (some true) eMember []]) rfl rfl rfl rfl ?_
     refine rvc_un (rexec_prim C (δ := { v := .undef, wr := [(4, some (.cells [.pv (.lit (.int .i64 0)), sS (some true) eMember []]))] }) rfl rfl rfl rfl trivial rfl ?_)
     refine rvP C (.pv (.lit (.int .i64 81))) rfl rfl rfl rfl ?_
     refine rvc_nil ?_
     refine Awp.ret ?_
     subst hR
     exact ⟨.inl rfl, rfl⟩
    ·
     replace hR := of_false h4 hR
     refine rvc_open rfl rfl rfl (rexec_prim C (δ := { v := .ptr 3 1 }) rfl rfl rfl rfl trivial rfl ?_)
     refine rvc_open rfl rfl rfl (rexec_prim C (δ := { v := .pv (.lit (.int .i64 m.site)) }) rfl rfl rfl rfl trivial rfl ?_)
     refine rvc_open rfl rfl rfl (rexec_prim C (δ := { v := .pv (.lit (.bool (decide (m.site > 2)))) }) rfl rfl rfl rfl trivial rfl ?_)
     refine rvP C (.pv (.lit (.bool (decide (m.site > 2))))) rfl rfl rfl rfl ?_
     refine rvc_nil ?_
     refine Awp.cond (b := (decide (m.site > 2))) rfl (fun h5 => ?_) (fun h5 => ?_)
     ·
      replace hR := of_true h5 hR
      refine Awp.cons C (fun _ => .pure) (by kernel_rfl) ?_
      refine rvP C (.agg [.pv (.lit (.int .i64 0)), sS (some true) eMember []]) rfl rfl rfl rfl ?_
      refine rvc_un (rexec_prim C (δ := { v := .undef, wr := [(4, some (.cells [.pv (.lit (.int .i64 0)), sS (some true) eMember []]))] }) rfl rfl rfl rfl trivial rfl ?_)
      refine rvP C (.pv (.lit (.int .i64 81))) rfl rfl rfl rfl ?_
      refine rvc_nil ?_
      refine Awp.ret ?_
      subst hR
      exact ⟨.inl rfl, rfl⟩
     ·
      replace hR := of_false h5 hR
      refine Awp.skip ?_
      refine Awp.seq ?_
      refine Awp.cons C (fun _ => .pure) (by kernel_rfl) ?_
      refine rvP C (.agg [.pv (.lit (.int .i64 c.epoch)), sS (some c.members.nil) eMember c.members.D]) rfl rfl rfl rfl ?_
      refine rvP C (.ptr 3 0) rfl rfl rfl rfl ?_
      refine rvP C (.pv (.lit (.int .i64 m.node))) rfl rfl rfl rfl ?_
      refine rvc_un (rexec_call hP C rfl rfl rfl (rPlace_calls c m.node (Nat.le_trans hl1 (by decide))) ?_)
      refine rvP C (.pv (.lit (.bool (decide ((rPlace c m.node) ≥ 0))))) rfl rfl rfl rfl ?_
      refine rvc_nil ?_
      refine Awp.cond (b := (decide ((rPlace c m.node) ≥ 0))) rfl (fun h6 => ?_) (fun h6 => ?_)
      ·
       replace hR := of_true h6 hR
       refine Awp.cons C (fun _ => .pure) (by kernel_rfl) ?_
       refine rvP C (.agg [.pv (.lit (.int .i64 0)), sS (some true) eMember []]) rfl rfl rfl rfl ?_
       refine rvc_un (rexec_prim C (δ := { v := .undef, wr := [(4, some (.cells [.pv (.lit (.int .i64 0)), sS (some true) eMember []]))] }) rfl rfl rfl rfl trivial rfl ?_)
       refine rvP C (.pv (.lit (.int .i64 82))) rfl rfl rfl rfl ?_
       refine rvc_nil ?_
       refine Awp.ret ?_
       subst hR
       exact ⟨.inl rfl, rfl⟩
      ·
       replace hR := of_false h6 hR
       refine Awp.skip ?_
       refine Awp.seq ?_
       refine Awp.cons C (fun _ => .pure) (by kernel_rfl) ?_
       refine rvP C (.ptr 2 0) rfl rfl rfl rfl ?_
       refine rvP C (.pv (.lit (.int .i64 c.epoch))) rfl rfl rfl rfl ?_
       refine rvP C (.pv (.lit (.bool (c.epoch == 1099511627776)))) rfl rfl rfl rfl ?_
       refine rvc_nil ?_
       refine Awp.cond (b := (c.epoch == 1099511627776)) rfl (fun h7 => ?_) (fun h7 => ?_)
       ·
        replace hR := of_true h7 hR
        refine Awp.cons C (fun _ => .pure) (by kernel_rfl) ?_
        refine rvP C (.agg [.pv (.lit (.int .i64 0)), sS (some true) eMember []]) rfl rfl rfl rfl ?_
        refine rvc_un (rexec_prim C (δ := { v := .undef, wr := [(4, some (.cells [.pv (.lit (.int .i64 0)), sS (some true) eMember []]))] }) rfl rfl rfl rfl trivial rfl ?_)
        refine rvP C (.pv (.lit (.int .i64 5))) rfl rfl rfl rfl ?_
        refine rvc_nil ?_
        refine Awp.ret ?_
        subst hR
        exact ⟨.inl rfl, rfl⟩
       ·
        replace hR := of_false h7 hR
        refine Awp.skip ?_
        refine Awp.seq ?_
        refine Awp.cons C (fun _ => .pure) (by kernel_rfl) ?_
        refine rvP C (.ptr 2 1) rfl rfl rfl rfl ?_
        refine rvP C (sS (some c.members.nil) eMember c.members.D) rfl rfl rfl rfl ?_
        have h8 : c.members.D[0]? = some c.members.D[0]! := getE (by have := check_r (c := c); have := rCheck_le6 (c := c); have := rPlace_lt c m.node; have := eq_of_bne_false h1; have := of_decide_eq_false h2; have := of_decide_eq_false h3; have := of_decide_eq_false h4; have := of_decide_eq_false h5; have := of_decide_eq_false h6; have := ne_of_beq_false h7; omega)
        refine rvc_un (rexec_idxS C rfl rfl rfl rfl rfl rfl (c.members.D[0]!) (Int.natCast_nonneg _) h8 ?_)
        refine rvP C (.rp [.lit (.int .i64 (c.members.D[0]!.site))]) rfl rfl rfl rfl ?_
        refine rvP C (.pv (.lit (.int .i64 (c.members.D[0]!.site)))) rfl rfl rfl rfl ?_
        refine rvP C (.ptr 3 1) rfl rfl rfl rfl ?_
        refine rvP C (.pv (.lit (.int .i64 m.site))) rfl rfl rfl rfl ?_
        refine rvP C (.pv (.lit (.bool (decide ((c.members.D[0]!.site) > m.site))))) rfl rfl rfl rfl ?_
        refine rvc_nil ?_
        refine Awp.cond (b := (decide ((c.members.D[0]!.site) > m.site))) rfl (fun h9 => ?_) (fun h9 => ?_)
        ·
         replace hR := of_true h9 hR
         refine Awp.cons C (fun _ => .pure) (by kernel_rfl) ?_
         refine rvP C (.agg [.pv (.lit (.int .i64 0)), sS (some true) eMember []]) rfl rfl rfl rfl ?_
         refine rvc_un (rexec_prim C (δ := { v := .undef, wr := [(4, some (.cells [.pv (.lit (.int .i64 0)), sS (some true) eMember []]))] }) rfl rfl rfl rfl trivial rfl ?_)
         refine rvP C (.pv (.lit (.int .i64 152))) rfl rfl rfl rfl ?_
         refine rvc_nil ?_
         refine Awp.ret ?_
         subst hR
         exact ⟨.inl rfl, rfl⟩
        ·
         replace hR := of_false h9 hR
         refine Awp.skip ?_
         refine Awp.cons C (fun _ => .pure) (by kernel_rfl) ?_
         refine rvP C (.ptr 2 0) rfl rfl rfl rfl ?_
         refine rvP C (.pv (.lit (.int .i64 c.epoch))) rfl rfl rfl rfl ?_
         refine rvP C (.pv (.lit (.int .i64 (IntKind.i64.wrap (c.epoch + 1))))) rfl rfl rfl rfl ?_
         refine rvP C (.agg [.pv (.lit (.int .i64 (IntKind.i64.wrap (c.epoch + 1)))), sS (some true) eMember []]) rfl rfl rfl rfl ?_
         refine rvc_un (rexec_prim C (δ := { v := .ptr 6 0, new := [(6, .cells [.pv (.lit (.int .i64 0)), sS (some true) eMember []])] }) rfl rfl rfl rfl trivial rfl ?_)
         refine rvc_un (rexec_prim C (δ := { v := .undef, wr := [(6, some (.cells [.pv (.lit (.int .i64 (IntKind.i64.wrap (c.epoch + 1)))), sS (some true) eMember []]))] }) rfl rfl rfl rfl trivial rfl ?_)
         refine rvc_nil ?_
         refine Awp.cons C (fun _ => .pure) (by kernel_rfl) ?_
         refine rvP C (.pv (.lit (.bool false))) rfl rfl rfl rfl ?_
         refine rvc_nil ?_
         refine Awp.seq ?_
         refine Awp.cons C (fun _ => .pure) (by kernel_rfl) ?_
         refine rvP C (.ptr 2 1) rfl rfl rfl rfl ?_
         refine rvP C (sS (some c.members.nil) eMember c.members.D) rfl rfl rfl rfl ?_
         refine rvP C (.pv (.lit (.int .i64 (c.members.D.length : Int)))) rfl rfl rfl rfl ?_
         refine rvP C (.pv (.lit (.int .i64 0))) rfl rfl rfl rfl ?_
         refine rvc_nil ?_
         refine Awp.block ?_
         refine Awp.forR (σ := Bool × ((List Member))) (c.members.D.length) (fun i v => [(3, .ptr 3 0), (4, .ptr 4 0), (6, .ptr 6 0), (7, .pv (.lit (.bool v.1))), (57, sS (some c.members.nil) eMember c.members.D), (58, .pv (.lit (.int .i64 (c.members.D.length : Int)))), (59, .pv (.lit (.int .i64 (i : Int))))]) (fun i v => (growH 900 eMember v.2 ++ ([(3, .cells [.pv (.lit (.int .i64 m.node)), .pv (.lit (.int .i64 m.site)), .pv (.lit (.bool m.fresh))]), (4, .cells [.pv (.lit (.int .i64 0)), sS (some true) eMember []]), (6, .cells [.pv (.lit (.int .i64 (IntKind.i64.wrap (c.epoch + 1)))), grow 900 eMember v.2])]))) [3, 4, 6, 900] (fun i v => (rJoin_l0 c m (c.members.D.drop i) i v.1 v.2 = R) ∧ (v.2.length ≤ 2 * i)) (false, []) ?_ ?_ (fun i v h10 hR => ?_)
         · exact ⟨hR, (by first | omega | (simp <;> omega))⟩
         · exact ⟨fun b => b, WeakerR.ofL (Ks := [3, 4, 6, 900]) hI ⟨⟨rfl, rfl⟩, ⟨rfl, rfl⟩, ⟨rfl, rfl⟩, ⟨rfl, rfl⟩, ⟨rfl, rfl⟩, ⟨rfl, rfl⟩, ⟨rfl, rfl⟩, trivial⟩ (okH_grow (fun hne => absurd rfl hne) rfl rfl (okH_cons rfl rfl rfl rfl (okH_cons rfl rfl rfl rfl (okH_cons (cellsTo rfl (by exact ⟨rfl, grow_to_nil rfl rfl (.inl rfl), trivial⟩)) rfl rfl (win_cells (by exact ⟨rfl, grow_within rfl, trivial⟩)) (okH_nil))))) rfl⟩
         obtain ⟨put, vc⟩ := v
         obtain ⟨hR, hi_vc⟩ := hR
         replace hi_vc : vc.length ≤ 2 * i := hi_vc
         by_cases h11 : vc = []
         ·
          refine Awp.wordsR [(3, .ptr 3 0), (4, .ptr 4 0), (6, .ptr 6 0), (7, .pv (.lit (.bool put))), (57, sS (some c.members.nil) eMember c.members.D), (58, .pv (.lit (.int .i64 (c.members.D.length : Int)))), (59, .pv (.lit (.int .i64 (i : Int))))] [(3, .cells [.pv (.lit (.int .i64 m.node)), .pv (.lit (.int .i64 m.site)), .pv (.lit (.bool m.fresh))]), (4, .cells [.pv (.lit (.int .i64 0)), sS (some true) eMember []]), (6, .cells [.pv (.lit (.int .i64 (IntKind.i64.wrap (c.epoch + 1)))), sS (some vc.isEmpty) eMember vc])] [3, 4, 6] (WeakerR.ofL (Ks := [3, 4, 6]) hI ⟨⟨rfl, rfl⟩, ⟨rfl, rfl⟩, ⟨rfl, rfl⟩, ⟨rfl, rfl⟩, ⟨rfl, rfl⟩, ⟨rfl, rfl⟩, ⟨rfl, rfl⟩, trivial⟩ (okH_cons (look_nil h11 rfl) rfl rfl rfl (okH_cons (look_nil h11 rfl) rfl rfl rfl (okH_cons (cellsTo (look_nil h11 rfl) (by exact ⟨rfl, (by exact grow_at_nil (b := 900) (e := eMember) (l := vc) rfl h11), trivial⟩)) rfl rfl (win_cells (by exact ⟨rfl, rfl, trivial⟩)) (okH_nil)))) rfl) ?_
          refine Awp.cons C (fun _ => .pure) (by kernel_rfl) ?_
          refine rvP C (.pv (.lit (.bool (decide ((i : Int) < (c.members.D.length : Int)))))) rfl rfl rfl rfl ?_
          refine rvc_nil ?_
          refine Awp.seq ?_
          refine Awp.cond (b := (decide ((i : Int) < (c.members.D.length : Int)))) rfl (fun h12 => ?_) (fun h12 => ?_)
          ·
           have h13 : i < c.members.D.length := by have := of_decide_eq_true h12; omega
           obtain ⟨x, h14⟩ := getX h13
           rw [drop_at h14] at hR
           refine Awp.skip ?_
           refine Awp.seq ?_
           refine Awp.block ?_
           refine Awp.cons C (fun _ => .pure) (by kernel_rfl) ?_
           refine rvc_un (rexec_idxS C rfl rfl rfl rfl rfl rfl x (Int.natCast_nonneg _) h14 ?_)
           refine rvP C (.agg [.pv (.lit (.int .i64 x.node)), .pv (.lit (.int .i64 x.site)), .pv (.lit (.bool x.fresh))]) rfl rfl rfl rfl ?_
           refine rvc_un (rexec_prim C (δ := { v := .ptr 9 0, new := [(9, .cells [.pv (.lit (.int .i64 0)), .pv (.lit (.int .i64 0)), .pv (.lit (.bool false))])] }) rfl rfl rfl rfl trivial rfl ?_)
           refine rvc_un (rexec_prim C (δ := { v := .undef, wr := [(9, some (.cells [.pv (.lit (.int .i64 x.node)), .pv (.lit (.int .i64 x.site)), .pv (.lit (.bool x.fresh))]))] }) rfl rfl rfl rfl trivial rfl ?_)
           refine rvc_nil ?_
           refine Awp.seq ?_
           refine Awp.cons C (fun _ => .pure) (by kernel_rfl) ?_
           refine rvP C (.ptr 9 1) rfl rfl rfl rfl ?_
           refine rvP C (.pv (.lit (.int .i64 x.site))) rfl rfl rfl rfl ?_
           refine rvP C (.ptr 3 1) rfl rfl rfl rfl ?_
           refine rvP C (.pv (.lit (.int .i64 m.site))) rfl rfl rfl rfl ?_
           refine rvP C (.pv (.lit (.bool (decide (x.site > m.site))))) rfl rfl rfl rfl ?_
           refine rvP C (.pv (.lit (.bool (decide (x.site > m.site))))) rfl rfl rfl rfl ?_
           refine rvc_case 68 (decide (x.site > m.site)) rfl (fun h15 => ?_) (fun h15 => ?_)
           ·
            replace hR := of_true h15 hR
            refine rvc_open rfl rfl rfl (rexec_prim C (δ := { v := .pv (.lit (.bool put)) }) rfl rfl rfl rfl trivial rfl ?_)
            refine rvc_open rfl rfl rfl (rexec_prim C (δ := { v := .pv (.lit (.bool (!put))) }) rfl rfl rfl rfl trivial rfl ?_)
            refine rvP C (.pv (.lit (.bool (!put)))) rfl rfl rfl rfl ?_
            refine rvc_nil ?_
            refine Awp.cond (b := (!put)) rfl (fun h16 => ?_) (fun h16 => ?_)
            ·
             replace hR := of_true h16 hR
             refine Awp.cons C (fun _ => .pure) (by kernel_rfl) ?_
             refine rvP C (.ptr 6 1) rfl rfl rfl rfl ?_
             refine rvP C (sS (some vc.isEmpty) eMember vc) rfl rfl rfl rfl ?_
             refine rvP C (.ptr 3 0) rfl rfl rfl rfl ?_
             refine rvP C (.pv (.lit (.int .i64 m.node))) rfl rfl rfl rfl ?_
             refine rvP C (.ptr 3 1) rfl rfl rfl rfl ?_
             refine rvP C (.pv (.lit (.int .i64 m.site))) rfl rfl rfl rfl ?_
             refine rvP C (.agg [.pv (.lit (.int .i64 m.node)), .pv (.lit (.int .i64 m.site)), .pv (.lit (.bool true))]) rfl rfl rfl rfl ?_
             refine rvc_un (rexec_buildSliceF C eMember [(Member.mk m.node m.site true)] rfl rfl rfl rfl rfl rfl rfl (by decide) rfl ?_)
             refine rvc_un (rexec_appendG C rfl rfl rfl rfl rfl rfl rfl rfl (fun _ h => by cases h) rfl (en := eMember) (l := vc) (D := [(Member.mk m.node m.site true)]) rfl rfl h11 (by rw [h11]; rfl) (by simp) (by have := check_r (c := c); have := rCheck_le6 (c := c); have := rPlace_lt c m.node; have := eq_of_bne_false h1; have := of_decide_eq_false h2; have := of_decide_eq_false h3; have := of_decide_eq_false h4; have := of_decide_eq_false h5; have := of_decide_eq_false h6; have := ne_of_beq_false h7; have := of_decide_eq_false h9; have := of_decide_eq_true h12; have := of_decide_eq_true h15; first | omega | (simp <;> omega)) (by decide) (nn := (vc ++ [(Member.mk m.node m.site true)]).length) (by simp) ?_)
             refine rvP C (.ptr 6 1) rfl rfl rfl rfl ?_
             refine rvc_un (rexec_prim C (δ := { v := .undef, wr := [(6, some (.cells [.pv (.lit (.int .i64 (IntKind.i64.wrap (c.epoch + 1)))), .sl 80 0 ((vc ++ [(Member.mk m.node m.site true)]).length) 3 false]))] }) rfl rfl rfl rfl trivial rfl ?_)
             refine rvc_nil ?_
             refine Awp.region C (fun _ => .pure) (by kernel_rfl) ?_
             refine rvP C (.pv (.lit (.bool true))) rfl rfl rfl rfl ?_
             refine rvc_nil ?_
             refine Awp.region C (fun _ => .pure) (by kernel_rfl) ?_
             refine rvP C (.ptr 6 1) rfl rfl rfl rfl ?_
             refine rvP C (.sl 80 0 ((vc ++ [(Member.mk m.node m.site true)]).length) 3 false) rfl rfl rfl rfl ?_
             refine rvP C (.agg [.pv (.lit (.int .i64 x.node)), .pv (.lit (.int .i64 x.site)), .pv (.lit (.bool x.fresh))]) rfl rfl rfl rfl ?_
             refine rvc_un (rexec_buildSliceF C eMember [x] rfl rfl rfl rfl rfl rfl rfl (by decide) rfl ?_)
             refine rvc_un (rexec_append C rfl rfl rfl rfl rfl rfl rfl rfl (fun _ h => by cases h) rfl (en := eMember) (D0 := (vc ++ [(Member.mk m.node m.site true)])) (D := [x]) rfl rfl rfl rfl (by have := check_r (c := c); have := rCheck_le6 (c := c); have := rPlace_lt c m.node; have := eq_of_bne_false h1; have := of_decide_eq_false h2; have := of_decide_eq_false h3; have := of_decide_eq_false h4; have := of_decide_eq_false h5; have := of_decide_eq_false h6; have := ne_of_beq_false h7; have := of_decide_eq_false h9; have := of_decide_eq_true h12; have := of_decide_eq_true h15; first | omega | (simp <;> omega)) (by decide) (nn := ((vc ++ [(Member.mk m.node m.site true)]) ++ [x]).length) (by simp) ?_)
             refine rvP C (.ptr 6 1) rfl rfl rfl rfl ?_
             refine rvc_un (rexec_prim C (δ := { v := .undef, wr := [(6, some (.cells [.pv (.lit (.int .i64 (IntKind.i64.wrap (c.epoch + 1)))), .sl 86 0 (((vc ++ [(Member.mk m.node m.site true)]) ++ [x]).length) 3 false]))] }) rfl rfl rfl rfl trivial rfl ?_)
             refine rvc_nil ?_
             refine Awp.region C (fun _ => .pure) (by kernel_rfl) ?_
             refine rvP C (.pv (.lit (.int .i64 (IntKind.i64.wrap ((i : Int) + 1))))) rfl rfl rfl rfl ?_
             refine rvP C (.pv (.lit (.int .i64 (IntKind.i64.wrap ((i : Int) + 1))))) rfl rfl rfl rfl ?_
             refine rvc_nil ?_
             refine ⟨h13, (true, ((vc ++ [(Member.mk m.node m.site true)]) ++ [x])), ?_, ?_⟩
             · exact ⟨hR, (by first | omega | (simp <;> omega))⟩
             · exact ⟨fun b => bif b == 900 then 86 else (fun b => b) b, WeakerR.ofL (Ks := [3, 4, 6, 900]) hI ⟨⟨rfl, rfl⟩, ⟨rfl, rfl⟩, ⟨rfl, rfl⟩, ⟨rfl, rfl⟩, ⟨rfl, rfl⟩, ⟨rfl, rfl⟩, ⟨lit_cast (wrap_i64 (by omega) (by omega)), rfl⟩, trivial⟩ (okH_grow (fun _ => rfl) rfl rfl (okH_cons rfl rfl rfl rfl (okH_cons rfl rfl rfl rfl (okH_cons (cellsTo rfl (by exact ⟨rfl, grow_to rfl rfl app_ne rfl rfl, trivial⟩)) rfl rfl (win_cells (by exact ⟨rfl, grow_within rfl, trivial⟩)) (okH_nil))))) rfl⟩
            ·
             replace hR := of_false h16 hR
             refine Awp.skip ?_
             refine Awp.region C (fun _ => .pure) (by kernel_rfl) ?_
             refine rvP C (.ptr 6 1) rfl rfl rfl rfl ?_
             refine rvP C (sS (some vc.isEmpty) eMember vc) rfl rfl rfl rfl ?_
             refine rvP C (.agg [.pv (.lit (.int .i64 x.node)), .pv (.lit (.int .i64 x.site)), .pv (.lit (.bool x.fresh))]) rfl rfl rfl rfl ?_
             refine rvc_un (rexec_buildSliceF C eMember [x] rfl rfl rfl rfl rfl rfl rfl (by decide) rfl ?_)
             refine rvc_un (rexec_appendG C rfl rfl rfl rfl rfl rfl rfl rfl (fun _ h => by cases h) rfl (en := eMember) (l := vc) (D := [x]) rfl rfl h11 (by rw [h11]; rfl) (by simp) (by have := check_r (c := c); have := rCheck_le6 (c := c); have := rPlace_lt c m.node; have := eq_of_bne_false h1; have := of_decide_eq_false h2; have := of_decide_eq_false h3; have := of_decide_eq_false h4; have := of_decide_eq_false h5; have := of_decide_eq_false h6; have := ne_of_beq_false h7; have := of_decide_eq_false h9; have := of_decide_eq_true h12; have := of_decide_eq_true h15; first | omega | (simp <;> omega)) (by decide) (nn := (vc ++ [x]).length) (by simp) ?_)
             refine rvP C (.ptr 6 1) rfl rfl rfl rfl ?_
             refine rvc_un (rexec_prim C (δ := { v := .undef, wr := [(6, some (.cells [.pv (.lit (.int .i64 (IntKind.i64.wrap (c.epoch + 1)))), .sl 86 0 ((vc ++ [x]).length) 3 false]))] }) rfl rfl rfl rfl trivial rfl ?_)
             refine rvc_nil ?_
             refine Awp.region C (fun _ => .pure) (by kernel_rfl) ?_
             refine rvP C (.pv (.lit (.int .i64 (IntKind.i64.wrap ((i : Int) + 1))))) rfl rfl rfl rfl ?_
             refine rvP C (.pv (.lit (.int .i64 (IntKind.i64.wrap ((i : Int) + 1))))) rfl rfl rfl rfl ?_
             refine rvc_nil ?_
             refine ⟨h13, (put, (vc ++ [x])), ?_, ?_⟩
             · exact ⟨hR, (by first | omega | (simp <;> omega))⟩
             · exact ⟨fun b => bif b == 900 then 86 else (fun b => b) b, WeakerR.ofL (Ks := [3, 4, 6, 900]) hI ⟨⟨rfl, rfl⟩, ⟨rfl, rfl⟩, ⟨rfl, rfl⟩, ⟨rfl, rfl⟩, ⟨rfl, rfl⟩, ⟨rfl, rfl⟩, ⟨lit_cast (wrap_i64 (by omega) (by omega)), rfl⟩, trivial⟩ (okH_grow (fun _ => rfl) rfl rfl (okH_cons rfl rfl rfl rfl (okH_cons rfl rfl rfl rfl (okH_cons (cellsTo rfl (by exact ⟨rfl, grow_to rfl rfl app_ne rfl rfl, trivial⟩)) rfl rfl (win_cells (by exact ⟨rfl, grow_within rfl, trivial⟩)) (okH_nil))))) rfl⟩
           ·
            replace hR := of_false h15 hR
            refine rvc_shut rfl rfl rfl rfl ?_
            refine rvc_shut rfl rfl rfl rfl ?_
            refine rvP C (.pv (.lit (.bool false))) rfl rfl rfl rfl ?_
            refine rvc_nil ?_
            refine Awp.condF (b := false) rfl rfl ?_
            refine Awp.skip ?_
            refine Awp.region C (fun _ => .pure) (by kernel_rfl) ?_
            refine rvP C (.ptr 6 1) rfl rfl rfl rfl ?_
            refine rvP C (sS (some vc.isEmpty) eMember vc) rfl rfl rfl rfl ?_
            refine rvP C (.agg [.pv (.lit (.int .i64 x.node)), .pv (.lit (.int .i64 x.site)), .pv (.lit (.bool x.fresh))]) rfl rfl rfl rfl ?_
            refine rvc_un (rexec_buildSliceF C eMember [x] rfl rfl rfl rfl rfl rfl rfl (by decide) rfl ?_)
            refine rvc_un (rexec_appendG C rfl rfl rfl rfl rfl rfl rfl rfl (fun _ h => by cases h) rfl (en := eMember) (l := vc) (D := [x]) rfl rfl h11 (by rw [h11]; rfl) (by simp) (by have := check_r (c := c); have := rCheck_le6 (c := c); have := rPlace_lt c m.node; have := eq_of_bne_false h1; have := of_decide_eq_false h2; have := of_decide_eq_false h3; have := of_decide_eq_false h4; have := of_decide_eq_false h5; have := of_decide_eq_false h6; have := ne_of_beq_false h7; have := of_decide_eq_false h9; have := of_decide_eq_true h12; have := of_decide_eq_false h15; first | omega | (simp <;> omega)) (by decide) (nn := (vc ++ [x]).length) (by simp) ?_)
            refine rvP C (.ptr 6 1) rfl rfl rfl rfl ?_
            refine rvc_un (rexec_prim C (δ := { v := .undef, wr := [(6, some (.cells [.pv (.lit (.int .i64 (IntKind.i64.wrap (c.epoch + 1)))), .sl 86 0 ((vc ++ [x]).length) 3 false]))] }) rfl rfl rfl rfl trivial rfl ?_)
            refine rvc_nil ?_
            refine Awp.region C (fun _ => .pure) (by kernel_rfl) ?_
            refine rvP C (.pv (.lit (.int .i64 (IntKind.i64.wrap ((i : Int) + 1))))) rfl rfl rfl rfl ?_
            refine rvP C (.pv (.lit (.int .i64 (IntKind.i64.wrap ((i : Int) + 1))))) rfl rfl rfl rfl ?_
            refine rvc_nil ?_
            refine ⟨h13, (put, (vc ++ [x])), ?_, ?_⟩
            · exact ⟨hR, (by first | omega | (simp <;> omega))⟩
            · exact ⟨fun b => bif b == 900 then 86 else (fun b => b) b, WeakerR.ofL (Ks := [3, 4, 6, 900]) hI ⟨⟨rfl, rfl⟩, ⟨rfl, rfl⟩, ⟨rfl, rfl⟩, ⟨rfl, rfl⟩, ⟨rfl, rfl⟩, ⟨rfl, rfl⟩, ⟨lit_cast (wrap_i64 (by omega) (by omega)), rfl⟩, trivial⟩ (okH_grow (fun _ => rfl) rfl rfl (okH_cons rfl rfl rfl rfl (okH_cons rfl rfl rfl rfl (okH_cons (cellsTo rfl (by exact ⟨rfl, grow_to rfl rfl app_ne rfl rfl, trivial⟩)) rfl rfl (win_cells (by exact ⟨rfl, grow_within rfl, trivial⟩)) (okH_nil))))) rfl⟩
          ·
           have h13 : ¬ i < c.members.D.length := by have := of_decide_eq_false h12; omega
           rw [drop_end h13] at hR
           refine Awp.exit ?_
           refine Awp.seq ?_
           refine Awp.cons C (fun _ => .pure) (by kernel_rfl) ?_
           refine rvP C (.pv (.lit (.bool put))) rfl rfl rfl rfl ?_
           refine rvP C (.pv (.lit (.bool (!put)))) rfl rfl rfl rfl ?_
           refine rvc_nil ?_
           refine Awp.cond (b := (!put)) rfl (fun h17 => ?_) (fun h17 => ?_)
           ·
            replace hR := of_true h17 hR
            refine Awp.region C (fun _ => .pure) (by kernel_rfl) ?_
            refine rvP C (.ptr 6 1) rfl rfl rfl rfl ?_
            refine rvP C (sS (some vc.isEmpty) eMember vc) rfl rfl rfl rfl ?_
            refine rvP C (.ptr 3 0) rfl rfl rfl rfl ?_
            refine rvP C (.pv (.lit (.int .i64 m.node))) rfl rfl rfl rfl ?_
            refine rvP C (.ptr 3 1) rfl rfl rfl rfl ?_
            refine rvP C (.pv (.lit (.int .i64 m.site))) rfl rfl rfl rfl ?_
            refine rvP C (.agg [.pv (.lit (.int .i64 m.node)), .pv (.lit (.int .i64 m.site)), .pv (.lit (.bool true))]) rfl rfl rfl rfl ?_
            refine rvc_un (rexec_buildSliceF C eMember [(Member.mk m.node m.site true)] rfl rfl rfl rfl rfl rfl rfl (by decide) rfl ?_)
            refine rvc_un (rexec_appendG C rfl rfl rfl rfl rfl rfl rfl rfl (fun _ h => by cases h) rfl (en := eMember) (l := vc) (D := [(Member.mk m.node m.site true)]) rfl rfl h11 (by rw [h11]; rfl) (by simp) (by have := check_r (c := c); have := rCheck_le6 (c := c); have := rPlace_lt c m.node; have := eq_of_bne_false h1; have := of_decide_eq_false h2; have := of_decide_eq_false h3; have := of_decide_eq_false h4; have := of_decide_eq_false h5; have := of_decide_eq_false h6; have := ne_of_beq_false h7; have := of_decide_eq_false h9; have := of_decide_eq_false h12; first | omega | (simp <;> omega)) (by decide) (nn := (vc ++ [(Member.mk m.node m.site true)]).length) (by simp) ?_)
            refine rvP C (.ptr 6 1) rfl rfl rfl rfl ?_
            refine rvc_un (rexec_prim C (δ := { v := .undef, wr := [(6, some (.cells [.pv (.lit (.int .i64 (IntKind.i64.wrap (c.epoch + 1)))), .sl 99 0 ((vc ++ [(Member.mk m.node m.site true)]).length) 3 false]))] }) rfl rfl rfl rfl trivial rfl ?_)
            refine rvc_nil ?_
            refine Awp.cons C (fun _ => .pure) (by kernel_rfl) ?_
            refine rvP C (.agg [.pv (.lit (.int .i64 (IntKind.i64.wrap (c.epoch + 1)))), .sl 99 0 ((vc ++ [(Member.mk m.node m.site true)]).length) 3 false]) rfl rfl rfl rfl ?_
            refine rvc_un (rexec_prim C (δ := { v := .undef, wr := [(4, some (.cells [.pv (.lit (.int .i64 (IntKind.i64.wrap (c.epoch + 1)))), .sl 99 0 ((vc ++ [(Member.mk m.node m.site true)]).length) 3 false]))] }) rfl rfl rfl rfl trivial rfl ?_)
            refine rvP C (.pv (.lit (.int .i64 0))) rfl rfl rfl rfl ?_
            refine rvc_nil ?_
            refine Awp.freezeW 99 (encL eMember (vc ++ [(Member.mk m.node m.site true)])) ?_ [(4, .ptr 4 0), (5, .pv (.lit (.int .i64 0)))] [(3, .cells [.pv (.lit (.int .i64 m.node)), .pv (.lit (.int .i64 m.site)), .pv (.lit (.bool m.fresh))]), (4, .cells [.pv (.lit (.int .i64 (IntKind.i64.wrap (c.epoch + 1)))), sS (some false) eMember (vc ++ [(Member.mk m.node m.site true)])]), (6, .cells [.pv (.lit (.int .i64 (IntKind.i64.wrap (c.epoch + 1)))), sS (some false) eMember (vc ++ [(Member.mk m.node m.site true)])])] ?_ ?_ ?_
            · rfl
            · exact ⟨⟨_, rfl, .inl (.inl rfl)⟩, ⟨_, rfl, .inl (.inl rfl)⟩, trivial⟩
            · exact ⟨⟨(by show (3 : Nat) ≠ 99; decide), .inl rfl⟩, ⟨(by show (4 : Nat) ≠ 99; decide), .inr ⟨_, _, rfl, rfl, ⟨.inl rfl, .inr ⟨_, _, _, rfl, rfl⟩, trivial⟩⟩⟩, ⟨(by show (6 : Nat) ≠ 99; decide), .inr ⟨_, _, rfl, rfl, ⟨.inl rfl, .inr ⟨_, _, _, rfl, rfl⟩, trivial⟩⟩⟩, trivial⟩
            refine Awp.ret ?_
            subst hR
            exact ⟨.inl rfl, rfl⟩
           ·
            replace hR := of_false h17 hR
            refine Awp.skip ?_
            refine Awp.cons C (fun _ => .pure) (by kernel_rfl) ?_
            refine rvP C (.agg [.pv (.lit (.int .i64 (IntKind.i64.wrap (c.epoch + 1)))), sS (some vc.isEmpty) eMember vc]) rfl rfl rfl rfl ?_
            refine rvc_un (rexec_prim C (δ := { v := .undef, wr := [(4, some (.cells [.pv (.lit (.int .i64 (IntKind.i64.wrap (c.epoch + 1)))), sS (some vc.isEmpty) eMember vc]))] }) rfl rfl rfl rfl trivial rfl ?_)
            refine rvP C (.pv (.lit (.int .i64 0))) rfl rfl rfl rfl ?_
            refine rvc_nil ?_
            refine Awp.ret ?_
            subst hR
            exact ⟨.inl rfl, rfl⟩
         ·
          refine Awp.wordsR [(3, .ptr 3 0), (4, .ptr 4 0), (6, .ptr 6 0), (7, .pv (.lit (.bool put))), (57, sS (some c.members.nil) eMember c.members.D), (58, .pv (.lit (.int .i64 (c.members.D.length : Int)))), (59, .pv (.lit (.int .i64 (i : Int))))] [(900, .cells (encC eMember vc)), (3, .cells [.pv (.lit (.int .i64 m.node)), .pv (.lit (.int .i64 m.site)), .pv (.lit (.bool m.fresh))]), (4, .cells [.pv (.lit (.int .i64 0)), sS (some true) eMember []]), (6, .cells [.pv (.lit (.int .i64 (IntKind.i64.wrap (c.epoch + 1)))), .sl 900 0 vc.length 3 false])] [3, 4, 6, 900] (WeakerR.ofL (Ks := [3, 4, 6, 900]) hI ⟨⟨rfl, rfl⟩, ⟨rfl, rfl⟩, ⟨rfl, rfl⟩, ⟨rfl, rfl⟩, ⟨rfl, rfl⟩, ⟨rfl, rfl⟩, ⟨rfl, rfl⟩, trivial⟩ (okH_list (look_cons h11 rfl) rfl rfl (okH_cons (look_cons h11 rfl) rfl rfl rfl (okH_cons (look_cons h11 rfl) rfl rfl rfl (okH_cons (cellsTo (look_cons h11 rfl) (by exact ⟨rfl, (by exact grow_at_cons (b := 900) (b' := 900) (e := eMember) (l := vc) rfl h11 rfl rfl rfl), trivial⟩)) rfl rfl (win_cells (by exact ⟨rfl, rfl, trivial⟩)) (okH_nil))))) rfl) ?_
          refine Awp.cons C (fun _ => .pure) (by kernel_rfl) ?_
          refine rvP C (.pv (.lit (.bool (decide ((i : Int) < (c.members.D.length : Int)))))) rfl rfl rfl rfl ?_
          refine rvc_nil ?_
          refine Awp.seq ?_
          refine Awp.cond (b := (decide ((i : Int) < (c.members.D.length : Int)))) rfl (fun h18 => ?_) (fun h18 => ?_)
          ·
           have h19 : i < c.members.D.length := by have := of_decide_eq_true h18; omega
           obtain ⟨x, h20⟩ := getX h19
           rw [drop_at h20] at hR
           refine Awp.skip ?_
           refine Awp.seq ?_
           refine Awp.block ?_
           refine Awp.cons C (fun _ => .pure) (by kernel_rfl) ?_
           refine rvc_un (rexec_idxS C rfl rfl rfl rfl rfl rfl x (Int.natCast_nonneg _) h20 ?_)
           refine rvP C (.agg [.pv (.lit (.int .i64 x.node)), .pv (.lit (.int .i64 x.site)), .pv (.lit (.bool x.fresh))]) rfl rfl rfl rfl ?_
           refine rvc_un (rexec_prim C (δ := { v := .ptr 9 0, new := [(9, .cells [.pv (.lit (.int .i64 0)), .pv (.lit (.int .i64 0)), .pv (.lit (.bool false))])] }) rfl rfl rfl rfl trivial rfl ?_)
           refine rvc_un (rexec_prim C (δ := { v := .undef, wr := [(9, some (.cells [.pv (.lit (.int .i64 x.node)), .pv (.lit (.int .i64 x.site)), .pv (.lit (.bool x.fresh))]))] }) rfl rfl rfl rfl trivial rfl ?_)
           refine rvc_nil ?_
           refine Awp.seq ?_
           refine Awp.cons C (fun _ => .pure) (by kernel_rfl) ?_
           refine rvP C (.ptr 9 1) rfl rfl rfl rfl ?_
           refine rvP C (.pv (.lit (.int .i64 x.site))) rfl rfl rfl rfl ?_
           refine rvP C (.ptr 3 1) rfl rfl rfl rfl ?_
           refine rvP C (.pv (.lit (.int .i64 m.site))) rfl rfl rfl rfl ?_
           refine rvP C (.pv (.lit (.bool (decide (x.site > m.site))))) rfl rfl rfl rfl ?_
           refine rvP C (.pv (.lit (.bool (decide (x.site > m.site))))) rfl rfl rfl rfl ?_
           refine rvc_case 68 (decide (x.site > m.site)) rfl (fun h21 => ?_) (fun h21 => ?_)
           ·
            replace hR := of_true h21 hR
            refine rvc_open rfl rfl rfl (rexec_prim C (δ := { v := .pv (.lit (.bool put)) }) rfl rfl rfl rfl trivial rfl ?_)
            refine rvc_open rfl rfl rfl (rexec_prim C (δ := { v := .pv (.lit (.bool (!put))) }) rfl rfl rfl rfl trivial rfl ?_)
            refine rvP C (.pv (.lit (.bool (!put)))) rfl rfl rfl rfl ?_
            refine rvc_nil ?_
            refine Awp.cond (b := (!put)) rfl (fun h22 => ?_) (fun h22 => ?_)
            ·
             replace hR := of_true h22 hR
             refine Awp.cons C (fun _ => .pure) (by kernel_rfl) ?_
             refine rvP C (.ptr 6 1) rfl rfl rfl rfl ?_
             refine rvP C (.sl 900 0 vc.length 3 false) rfl rfl rfl rfl ?_
             refine rvP C (.ptr 3 0) rfl rfl rfl rfl ?_
             refine rvP C (.pv (.lit (.int .i64 m.node))) rfl rfl rfl rfl ?_
             refine rvP C (.ptr 3 1) rfl rfl rfl rfl ?_
             refine rvP C (.pv (.lit (.int .i64 m.site))) rfl rfl rfl rfl ?_
             refine rvP C (.agg [.pv (.lit (.int .i64 m.node)), .pv (.lit (.int .i64 m.site)), .pv (.lit (.bool true))]) rfl rfl rfl rfl ?_
             refine rvc_un (rexec_buildSliceF C eMember [(Member.mk m.node m.site true)] rfl rfl rfl rfl rfl rfl rfl (by decide) rfl ?_)
             refine rvc_un (rexec_append C rfl rfl rfl rfl rfl rfl rfl rfl (fun _ h => by cases h) rfl (en := eMember) (D0 := vc) (D := [(Member.mk m.node m.site true)]) rfl rfl rfl rfl (by have := check_r (c := c); have := rCheck_le6 (c := c); have := rPlace_lt c m.node; have := eq_of_bne_false h1; have := of_decide_eq_false h2; have := of_decide_eq_false h3; have := of_decide_eq_false h4; have := of_decide_eq_false h5; have := of_decide_eq_false h6; have := ne_of_beq_false h7; have := of_decide_eq_false h9; have := of_decide_eq_true h18; have := of_decide_eq_true h21; first | omega | (simp <;> omega)) (by decide) (nn := (vc ++ [(Member.mk m.node m.site true)]).length) (by simp) ?_)
             refine rvP C (.ptr 6 1) rfl rfl rfl rfl ?_
             refine rvc_un (rexec_prim C (δ := { v := .undef, wr := [(6, some (.cells [.pv (.lit (.int .i64 (IntKind.i64.wrap (c.epoch + 1)))), .sl 80 0 ((vc ++ [(Member.mk m.node m.site true)]).length) 3 false]))] }) rfl rfl rfl rfl trivial rfl ?_)
             refine rvc_nil ?_
             refine Awp.region C (fun _ => .pure) (by kernel_rfl) ?_
             refine rvP C (.pv (.lit (.bool true))) rfl rfl rfl rfl ?_
             refine rvc_nil ?_
             refine Awp.region C (fun _ => .pure) (by kernel_rfl) ?_
             refine rvP C (.ptr 6 1) rfl rfl rfl rfl ?_
             refine rvP C (.sl 80 0 ((vc ++ [(Member.mk m.node m.site true)]).length) 3 false) rfl rfl rfl rfl ?_
             refine rvP C (.agg [.pv (.lit (.int .i64 x.node)), .pv (.lit (.int .i64 x.site)), .pv (.lit (.bool x.fresh))]) rfl rfl rfl rfl ?_
             refine rvc_un (rexec_buildSliceF C eMember [x] rfl rfl rfl rfl rfl rfl rfl (by decide) rfl ?_)
             refine rvc_un (rexec_append C rfl rfl rfl rfl rfl rfl rfl rfl (fun _ h => by cases h) rfl (en := eMember) (D0 := (vc ++ [(Member.mk m.node m.site true)])) (D := [x]) rfl rfl rfl rfl (by have := check_r (c := c); have := rCheck_le6 (c := c); have := rPlace_lt c m.node; have := eq_of_bne_false h1; have := of_decide_eq_false h2; have := of_decide_eq_false h3; have := of_decide_eq_false h4; have := of_decide_eq_false h5; have := of_decide_eq_false h6; have := ne_of_beq_false h7; have := of_decide_eq_false h9; have := of_decide_eq_true h18; have := of_decide_eq_true h21; first | omega | (simp <;> omega)) (by decide) (nn := ((vc ++ [(Member.mk m.node m.site true)]) ++ [x]).length) (by simp) ?_)
             refine rvP C (.ptr 6 1) rfl rfl rfl rfl ?_
             refine rvc_un (rexec_prim C (δ := { v := .undef, wr := [(6, some (.cells [.pv (.lit (.int .i64 (IntKind.i64.wrap (c.epoch + 1)))), .sl 86 0 (((vc ++ [(Member.mk m.node m.site true)]) ++ [x]).length) 3 false]))] }) rfl rfl rfl rfl trivial rfl ?_)
             refine rvc_nil ?_
             refine Awp.region C (fun _ => .pure) (by kernel_rfl) ?_
             refine rvP C (.pv (.lit (.int .i64 (IntKind.i64.wrap ((i : Int) + 1))))) rfl rfl rfl rfl ?_
             refine rvP C (.pv (.lit (.int .i64 (IntKind.i64.wrap ((i : Int) + 1))))) rfl rfl rfl rfl ?_
             refine rvc_nil ?_
             refine ⟨h19, (true, ((vc ++ [(Member.mk m.node m.site true)]) ++ [x])), ?_, ?_⟩
             · exact ⟨hR, (by first | omega | (simp <;> omega))⟩
             · exact ⟨fun b => bif b == 900 then 86 else (fun b => b) b, WeakerR.ofL (Ks := [3, 4, 6, 900]) hI ⟨⟨rfl, rfl⟩, ⟨rfl, rfl⟩, ⟨rfl, rfl⟩, ⟨rfl, rfl⟩, ⟨rfl, rfl⟩, ⟨rfl, rfl⟩, ⟨lit_cast (wrap_i64 (by omega) (by omega)), rfl⟩, trivial⟩ (okH_grow (fun _ => rfl) rfl rfl (okH_cons rfl rfl rfl rfl (okH_cons rfl rfl rfl rfl (okH_cons (cellsTo rfl (by exact ⟨rfl, grow_to rfl rfl app_ne rfl rfl, trivial⟩)) rfl rfl (win_cells (by exact ⟨rfl, grow_within rfl, trivial⟩)) (okH_nil))))) rfl⟩
            ·
             replace hR := of_false h22 hR
             refine Awp.skip ?_
             refine Awp.region C (fun _ => .pure) (by kernel_rfl) ?_
             refine rvP C (.ptr 6 1) rfl rfl rfl rfl ?_
             refine rvP C (.sl 900 0 vc.length 3 false) rfl rfl rfl rfl ?_
             refine rvP C (.agg [.pv (.lit (.int .i64 x.node)), .pv (.lit (.int .i64 x.site)), .pv (.lit (.bool x.fresh))]) rfl rfl rfl rfl ?_
             refine rvc_un (rexec_buildSliceF C eMember [x] rfl rfl rfl rfl rfl rfl rfl (by decide) rfl ?_)
             refine rvc_un (rexec_append C rfl rfl rfl rfl rfl rfl rfl rfl (fun _ h => by cases h) rfl (en := eMember) (D0 := vc) (D := [x]) rfl rfl rfl rfl (by have := check_r (c := c); have := rCheck_le6 (c := c); have := rPlace_lt c m.node; have := eq_of_bne_false h1; have := of_decide_eq_false h2; have := of_decide_eq_false h3; have := of_decide_eq_false h4; have := of_decide_eq_false h5; have := of_decide_eq_false h6; have := ne_of_beq_false h7; have := of_decide_eq_false h9; have := of_decide_eq_true h18; have := of_decide_eq_true h21; first | omega | (simp <;> omega)) (by decide) (nn := (vc ++ [x]).length) (by simp) ?_)
             refine rvP C (.ptr 6 1) rfl rfl rfl rfl ?_
             refine rvc_un (rexec_prim C (δ := { v := .undef, wr := [(6, some (.cells [.pv (.lit (.int .i64 (IntKind.i64.wrap (c.epoch + 1)))), .sl 86 0 ((vc ++ [x]).length) 3 false]))] }) rfl rfl rfl rfl trivial rfl ?_)
             refine rvc_nil ?_
             refine Awp.region C (fun _ => .pure) (by kernel_rfl) ?_
             refine rvP C (.pv (.lit (.int .i64 (IntKind.i64.wrap ((i : Int) + 1))))) rfl rfl rfl rfl ?_
             refine rvP C (.pv (.lit (.int .i64 (IntKind.i64.wrap ((i : Int) + 1))))) rfl rfl rfl rfl ?_
             refine rvc_nil ?_
             refine ⟨h19, (put, (vc ++ [x])), ?_, ?_⟩
             · exact ⟨hR, (by first | omega | (simp <;> omega))⟩
             · exact ⟨fun b => bif b == 900 then 86 else (fun b => b) b, WeakerR.ofL (Ks := [3, 4, 6, 900]) hI ⟨⟨rfl, rfl⟩, ⟨rfl, rfl⟩, ⟨rfl, rfl⟩, ⟨rfl, rfl⟩, ⟨rfl, rfl⟩, ⟨rfl, rfl⟩, ⟨lit_cast (wrap_i64 (by omega) (by omega)), rfl⟩, trivial⟩ (okH_grow (fun _ => rfl) rfl rfl (okH_cons rfl rfl rfl rfl (okH_cons rfl rfl rfl rfl (okH_cons (cellsTo rfl (by exact ⟨rfl, grow_to rfl rfl app_ne rfl rfl, trivial⟩)) rfl rfl (win_cells (by exact ⟨rfl, grow_within rfl, trivial⟩)) (okH_nil))))) rfl⟩
           ·
            replace hR := of_false h21 hR
            refine rvc_shut rfl rfl rfl rfl ?_
            refine rvc_shut rfl rfl rfl rfl ?_
            refine rvP C (.pv (.lit (.bool false))) rfl rfl rfl rfl ?_
            refine rvc_nil ?_
            refine Awp.condF (b := false) rfl rfl ?_
            refine Awp.skip ?_
            refine Awp.region C (fun _ => .pure) (by kernel_rfl) ?_
            refine rvP C (.ptr 6 1) rfl rfl rfl rfl ?_
            refine rvP C (.sl 900 0 vc.length 3 false) rfl rfl rfl rfl ?_
            refine rvP C (.agg [.pv (.lit (.int .i64 x.node)), .pv (.lit (.int .i64 x.site)), .pv (.lit (.bool x.fresh))]) rfl rfl rfl rfl ?_
            refine rvc_un (rexec_buildSliceF C eMember [x] rfl rfl rfl rfl rfl rfl rfl (by decide) rfl ?_)
            refine rvc_un (rexec_append C rfl rfl rfl rfl rfl rfl rfl rfl (fun _ h => by cases h) rfl (en := eMember) (D0 := vc) (D := [x]) rfl rfl rfl rfl (by have := check_r (c := c); have := rCheck_le6 (c := c); have := rPlace_lt c m.node; have := eq_of_bne_false h1; have := of_decide_eq_false h2; have := of_decide_eq_false h3; have := of_decide_eq_false h4; have := of_decide_eq_false h5; have := of_decide_eq_false h6; have := ne_of_beq_false h7; have := of_decide_eq_false h9; have := of_decide_eq_true h18; have := of_decide_eq_false h21; first | omega | (simp <;> omega)) (by decide) (nn := (vc ++ [x]).length) (by simp) ?_)
            refine rvP C (.ptr 6 1) rfl rfl rfl rfl ?_
            refine rvc_un (rexec_prim C (δ := { v := .undef, wr := [(6, some (.cells [.pv (.lit (.int .i64 (IntKind.i64.wrap (c.epoch + 1)))), .sl 86 0 ((vc ++ [x]).length) 3 false]))] }) rfl rfl rfl rfl trivial rfl ?_)
            refine rvc_nil ?_
            refine Awp.region C (fun _ => .pure) (by kernel_rfl) ?_
            refine rvP C (.pv (.lit (.int .i64 (IntKind.i64.wrap ((i : Int) + 1))))) rfl rfl rfl rfl ?_
            refine rvP C (.pv (.lit (.int .i64 (IntKind.i64.wrap ((i : Int) + 1))))) rfl rfl rfl rfl ?_
            refine rvc_nil ?_
            refine ⟨h19, (put, (vc ++ [x])), ?_, ?_⟩
            · exact ⟨hR, (by first | omega | (simp <;> omega))⟩
            · exact ⟨fun b => bif b == 900 then 86 else (fun b => b) b, WeakerR.ofL (Ks := [3, 4, 6, 900]) hI ⟨⟨rfl, rfl⟩, ⟨rfl, rfl⟩, ⟨rfl, rfl⟩, ⟨rfl, rfl⟩, ⟨rfl, rfl⟩, ⟨rfl, rfl⟩, ⟨lit_cast (wrap_i64 (by omega) (by omega)), rfl⟩, trivial⟩ (okH_grow (fun _ => rfl) rfl rfl (okH_cons rfl rfl rfl rfl (okH_cons rfl rfl rfl rfl (okH_cons (cellsTo rfl (by exact ⟨rfl, grow_to rfl rfl app_ne rfl rfl, trivial⟩)) rfl rfl (win_cells (by exact ⟨rfl, grow_within rfl, trivial⟩)) (okH_nil))))) rfl⟩
          ·
           have h19 : ¬ i < c.members.D.length := by have := of_decide_eq_false h18; omega
           rw [drop_end h19] at hR
           refine Awp.exit ?_
           refine Awp.seq ?_
           refine Awp.cons C (fun _ => .pure) (by kernel_rfl) ?_
           refine rvP C (.pv (.lit (.bool put))) rfl rfl rfl rfl ?_
           refine rvP C (.pv (.lit (.bool (!put)))) rfl rfl rfl rfl ?_
           refine rvc_nil ?_
           refine Awp.cond (b := (!put)) rfl (fun h23 => ?_) (fun h23 => ?_)
           ·
            replace hR := of_true h23 hR
            refine Awp.region C (fun _ => .pure) (by kernel_rfl) ?_
            refine rvP C (.ptr 6 1) rfl rfl rfl rfl ?_
            refine rvP C (.sl 900 0 vc.length 3 false) rfl rfl rfl rfl ?_
            refine rvP C (.ptr 3 0) rfl rfl rfl rfl ?_
            refine rvP C (.pv (.lit (.int .i64 m.node))) rfl rfl rfl rfl ?_
            refine rvP C (.ptr 3 1) rfl rfl rfl rfl ?_
            refine rvP C (.pv (.lit (.int .i64 m.site))) rfl rfl rfl rfl ?_
            refine rvP C (.agg [.pv (.lit (.int .i64 m.node)), .pv (.lit (.int .i64 m.site)), .pv (.lit (.bool true))]) rfl rfl rfl rfl ?_
            refine rvc_un (rexec_buildSliceF C eMember [(Member.mk m.node m.site true)] rfl rfl rfl rfl rfl rfl rfl (by decide) rfl ?_)
            refine rvc_un (rexec_append C rfl rfl rfl rfl rfl rfl rfl rfl (fun _ h => by cases h) rfl (en := eMember) (D0 := vc) (D := [(Member.mk m.node m.site true)]) rfl rfl rfl rfl (by have := check_r (c := c); have := rCheck_le6 (c := c); have := rPlace_lt c m.node; have := eq_of_bne_false h1; have := of_decide_eq_false h2; have := of_decide_eq_false h3; have := of_decide_eq_false h4; have := of_decide_eq_false h5; have := of_decide_eq_false h6; have := ne_of_beq_false h7; have := of_decide_eq_false h9; have := of_decide_eq_false h18; first | omega | (simp <;> omega)) (by decide) (nn := (vc ++ [(Member.mk m.node m.site true)]).length) (by simp) ?_)
            refine rvP C (.ptr 6 1) rfl rfl rfl rfl ?_
            refine rvc_un (rexec_prim C (δ := { v := .undef, wr := [(6, some (.cells [.pv (.lit (.int .i64 (IntKind.i64.wrap (c.epoch + 1)))), .sl 99 0 ((vc ++ [(Member.mk m.node m.site true)]).length) 3 false]))] }) rfl rfl rfl rfl trivial rfl ?_)
            refine rvc_nil ?_
            refine Awp.cons C (fun _ => .pure) (by kernel_rfl) ?_
            refine rvP C (.agg [.pv (.lit (.int .i64 (IntKind.i64.wrap (c.epoch + 1)))), .sl 99 0 ((vc ++ [(Member.mk m.node m.site true)]).length) 3 false]) rfl rfl rfl rfl ?_
            refine rvc_un (rexec_prim C (δ := { v := .undef, wr := [(4, some (.cells [.pv (.lit (.int .i64 (IntKind.i64.wrap (c.epoch + 1)))), .sl 99 0 ((vc ++ [(Member.mk m.node m.site true)]).length) 3 false]))] }) rfl rfl rfl rfl trivial rfl ?_)
            refine rvP C (.pv (.lit (.int .i64 0))) rfl rfl rfl rfl ?_
            refine rvc_nil ?_
            refine Awp.freezeW 99 (encL eMember (vc ++ [(Member.mk m.node m.site true)])) ?_ [(4, .ptr 4 0), (5, .pv (.lit (.int .i64 0)))] [(3, .cells [.pv (.lit (.int .i64 m.node)), .pv (.lit (.int .i64 m.site)), .pv (.lit (.bool m.fresh))]), (4, .cells [.pv (.lit (.int .i64 (IntKind.i64.wrap (c.epoch + 1)))), sS (some false) eMember (vc ++ [(Member.mk m.node m.site true)])]), (6, .cells [.pv (.lit (.int .i64 (IntKind.i64.wrap (c.epoch + 1)))), sS (some false) eMember (vc ++ [(Member.mk m.node m.site true)])])] ?_ ?_ ?_
            · rfl
            · exact ⟨⟨_, rfl, .inl (.inl rfl)⟩, ⟨_, rfl, .inl (.inl rfl)⟩, trivial⟩
            · exact ⟨⟨(by show (3 : Nat) ≠ 99; decide), .inl rfl⟩, ⟨(by show (4 : Nat) ≠ 99; decide), .inr ⟨_, _, rfl, rfl, ⟨.inl rfl, .inr ⟨_, _, _, rfl, rfl⟩, trivial⟩⟩⟩, ⟨(by show (6 : Nat) ≠ 99; decide), .inr ⟨_, _, rfl, rfl, ⟨.inl rfl, .inr ⟨_, _, _, rfl, rfl⟩, trivial⟩⟩⟩, trivial⟩
            refine Awp.ret ?_
            subst hR
            exact ⟨.inl rfl, rfl⟩
           ·
            replace hR := of_false h23 hR
            refine Awp.skip ?_
            refine Awp.cons C (fun _ => .pure) (by kernel_rfl) ?_
            refine rvP C (.agg [.pv (.lit (.int .i64 (IntKind.i64.wrap (c.epoch + 1)))), .sl 900 0 vc.length 3 false]) rfl rfl rfl rfl ?_
            refine rvc_un (rexec_prim C (δ := { v := .undef, wr := [(4, some (.cells [.pv (.lit (.int .i64 (IntKind.i64.wrap (c.epoch + 1)))), .sl 900 0 vc.length 3 false]))] }) rfl rfl rfl rfl trivial rfl ?_)
            refine rvP C (.pv (.lit (.int .i64 0))) rfl rfl rfl rfl ?_
            refine rvc_nil ?_
            refine Awp.freezeW 900 (encL eMember vc) ?_ [(4, .ptr 4 0), (5, .pv (.lit (.int .i64 0)))] [(3, .cells [.pv (.lit (.int .i64 m.node)), .pv (.lit (.int .i64 m.site)), .pv (.lit (.bool m.fresh))]), (4, .cells [.pv (.lit (.int .i64 (IntKind.i64.wrap (c.epoch + 1)))), sS (some vc.isEmpty) eMember vc]), (6, .cells [.pv (.lit (.int .i64 (IntKind.i64.wrap (c.epoch + 1)))), sS (some vc.isEmpty) eMember vc])] ?_ ?_ ?_
            · rfl
            · exact ⟨⟨_, rfl, .inl (.inl rfl)⟩, ⟨_, rfl, .inl (.inl rfl)⟩, trivial⟩
            · exact ⟨⟨(by show (3 : Nat) ≠ 900; decide), .inl rfl⟩, ⟨(by show (4 : Nat) ≠ 900; decide), .inr ⟨_, _, rfl, rfl, ⟨.inl rfl, .inr ⟨_, _, _, rfl, by rw [ne_isEmpty h11]; rfl⟩, trivial⟩⟩⟩, ⟨(by show (6 : Nat) ≠ 900; decide), .inr ⟨_, _, rfl, rfl, ⟨.inl rfl, .inr ⟨_, _, _, rfl, by rw [ne_isEmpty h11]; rfl⟩, trivial⟩⟩⟩, trivial⟩
            refine Awp.ret ?_
            subst hR
            exact ⟨.inl rfl, rfl⟩
def rCut_l1 (c : Chain) : Nat → (Sl Member) → Chain × Int
  | 0, _ => default
  | nn + 1, l1 => (bif (decide ((l1.D.length : Int) > 0)) then (bif l1.D[0]!.fresh then rCut_l1 c nn (Sl.mk l1.nil (l1.D.drop 1)) else (bif ((l1.D.length : Int) == (c.members.D.length : Int)) then ((Chain.mk 0 (Sl.mk true [])), 81) else (bif ((l1.D.length : Int) == 0) then ((Chain.mk 0 (Sl.mk true [])), 83) else ((Chain.mk (IntKind.i64.wrap (c.epoch + 1)) l1), 0)))) else (bif ((l1.D.length : Int) == (c.members.D.length : Int)) then ((Chain.mk 0 (Sl.mk true [])), 81) else (bif ((l1.D.length : Int) == 0) then ((Chain.mk 0 (Sl.mk true [])), 83) else ((Chain.mk (IntKind.i64.wrap (c.epoch + 1)) l1), 0))))
def rCut_l0 (c : Chain) (node : Int) (site : Int) : List Member → Nat → (List Member) → Chain × Int
  | [], _, l => rCut_l1 c ((Sl.mk l.isEmpty l).D.length + 1) (Sl.mk l.isEmpty l)
  | x :: xs, i, l => (bif (x.node != node) then (bif (x.site != site) then rCut_l0 c node site xs (i + 1) (l ++ [x]) else rCut_l0 c node site xs (i + 1) l) else rCut_l0 c node site xs (i + 1) l)
def rCut (c : Chain) (node : Int) (site : Int) : Chain × Int :=
  (bif ((rCheck c) != 0) then ((Chain.mk 0 (Sl.mk true [])), 80) else (bif (c.epoch == 1099511627776) then ((Chain.mk 0 (Sl.mk true [])), 5) else rCut_l0 c node site c.members.D 0 []))
theorem rCut_calls (c : Chain) (node : Int) (site : Int) (hl1 : c.members.D.length ≤ 1000000) : PCalls Try.prog 42 [.agg [.pv (.lit (.int .i64 c.epoch)), sS (some c.members.nil) eMember c.members.D], .pv (.lit (.int .i64 node)), .pv (.lit (.int .i64 site))] (.tup [.agg [.pv (.lit (.int .i64 ((rCut c node site).1.epoch))), sS (some (rCut c node site).1.members.nil) eMember ((rCut c node site).1.members.D)], .pv (.lit (.int .i64 ((rCut c node site).2)))]) := by
 generalize hR : rCut c node site = R
 refine PCalls.of_body tabOk Try.func42 rfl rfl rfl rfl rfl mixed fun E hP C hI => ?_
 refine Awp.cons C (fun _ => .pure) (by kernel_rfl) ?_
 refine rvc_un (rexec_prim C (δ := { v := .ptr 3 0, new := [(3, .cells [.pv (.lit (.int .i64 c.epoch)), sS (some c.members.nil) eMember c.members.D])] }) rfl rfl rfl rfl trivial rfl ?_)
 refine rvc_un (rexec_prim C (δ := { v := .ptr 6 0, new := [(6, .cells [.pv (.lit (.int .i64 0)), sS (some true) eMember []])] }) rfl rfl rfl rfl trivial rfl ?_)
 refine rvP C (.pv (.lit (.int .i64 0))) rfl rfl rfl rfl ?_
 refine rvc_nil ?_
 refine Awp.seq ?_
 refine Awp.cons C (fun _ => .pure) (by kernel_rfl) ?_
 refine rvP C (.agg [.pv (.lit (.int .i64 c.epoch)), sS (some c.members.nil) eMember c.members.D]) rfl rfl rfl rfl ?_
 refine rvc_un (rexec_call hP C rfl rfl rfl (rCheck_calls c (Nat.le_trans hl1 (by decide))) ?_)
 refine rvP C (.pv (.lit (.bool ((rCheck c) != 0)))) rfl rfl rfl rfl ?_
 refine rvc_nil ?_
 refine Awp.cond (b := ((rCheck c) != 0)) rfl (fun h1 => ?_) (fun h1 => ?_)
 ·
  replace hR := of_true h1 hR
  refine Awp.cons C (fun _ => .pure) (by kernel_rfl) ?_
  refine rvP C (.agg [.pv (.lit (.int .i64 0)), sS (some true) eMember []]) rfl rfl rfl rfl ?_
  refine rvc_un (rexec_prim C (δ := { v := .undef, wr := [(6, some (.cells [.pv (.lit (.int .i64 0)), sS (some true) eMember []]))] }) rfl rfl rfl rfl trivial rfl ?_)
  refine rvP C (.pv (.lit (.int .i64 80))) rfl rfl rfl rfl ?_
  refine rvc_nil ?_
  refine Awp.ret ?_
  subst hR
  exact ⟨.inl rfl, rfl⟩
 ·
  replace hR := of_false h1 hR
  refine Awp.skip ?_
  refine Awp.seq ?_
  refine Awp.cons C (fun _ => .pure) (by kernel_rfl) ?_
  refine rvP C (.ptr 3 0) rfl rfl rfl rfl ?_
  refine rvP C (.pv (.lit (.int .i64 c.epoch))) rfl rfl rfl rfl ?_
  refine rvP C (.pv (.lit (.bool (c.epoch == 1099511627776)))) rfl rfl rfl rfl ?_
  refine rvc_nil ?_
  refine Awp.cond (b := (c.epoch == 1099511627776)) rfl (fun h2 => ?_) (fun h2 => ?_)
  ·
   replace hR := of_true h2 hR
   refine Awp.cons C (fun _ => .pure) (by kernel_rfl) ?_
   refine rvP C (.agg [.pv (.lit (.int .i64 0)), sS (some true) eMember []]) rfl rfl rfl rfl ?_
   refine rvc_un (rexec_prim C (δ := { v := .undef, wr := [(6, some (.cells [.pv (.lit (.int .i64 0)), sS (some true) eMember []]))] }) rfl rfl rfl rfl trivial rfl ?_)
   refine rvP C (.pv (.lit (.int .i64 5))) rfl rfl rfl rfl ?_
   refine rvc_nil ?_
   refine Awp.ret ?_
   subst hR
   exact ⟨.inl rfl, rfl⟩
  ·
   replace hR := of_false h2 hR
   refine Awp.skip ?_
   refine Awp.cons C (fun _ => .pure) (by kernel_rfl) ?_
   refine rvP C (sS (some true) eMember []) rfl rfl rfl rfl ?_
   refine rvc_nil ?_
   refine Awp.seq ?_
   refine Awp.cons C (fun _ => .pure) (by kernel_rfl) ?_
   refine rvP C (.ptr 3 1) rfl rfl rfl rfl ?_
   refine rvP C (sS (some c.members.nil) eMember c.members.D) rfl rfl rfl rfl ?_
   refine rvP C (.pv (.lit (.int .i64 (c.members.D.length : Int)))) rfl rfl rfl rfl ?_
   refine rvP C (.pv (.lit (.int .i64 0))) rfl rfl rfl rfl ?_
   refine rvc_nil ?_
   refine Awp.block ?_
   refine Awp.forR (σ := ((List Member))) (c.members.D.length) (fun i v => [(1, .pv (.lit (.int .i64 node))), (2, .pv (.lit (.int .i64 site))), (3, .ptr 3 0), (6, .ptr 6 0), (8, grow 900 eMember v), (21, sS (some c.members.nil) eMember c.members.D), (22, .pv (.lit (.int .i64 (c.members.D.length : Int)))), (23, .pv (.lit (.int .i64 (i : Int))))]) (fun i v => (growH 900 eMember v ++ ([(3, .cells [.pv (.lit (.int .i64 c.epoch)), sS (some c.members.nil) eMember c.members.D]), (6, .cells [.pv (.lit (.int .i64 0)), sS (some true) eMember []])]))) [3, 6, 900] (fun i v => (rCut_l0 c node site (c.members.D.drop i) i v = R) ∧ (v.length ≤ i)) [] ?_ ?_ (fun i l h3 hR => ?_)
   · exact ⟨hR, (by first | omega | (simp <;> omega))⟩
   · exact ⟨fun b => b, WeakerR.ofL (Ks := [3, 6, 900]) hI ⟨⟨rfl, rfl⟩, ⟨rfl, rfl⟩, ⟨rfl, rfl⟩, ⟨rfl, rfl⟩, ⟨rfl, rfl⟩, ⟨rfl, rfl⟩, ⟨rfl, rfl⟩, ⟨rfl, rfl⟩, trivial⟩ (okH_grow (fun hne => absurd rfl hne) rfl rfl (okH_cons rfl rfl rfl rfl (okH_cons rfl rfl rfl rfl (okH_nil)))) rfl⟩
   obtain ⟨hR, hi_l⟩ := hR
   replace hi_l : l.length ≤ i := hi_l
   by_cases h4 : l = []
   ·
    refine Awp.wordsR [(1, .pv (.lit (.int .i64 node))), (2, .pv (.lit (.int .i64 site))), (3, .ptr 3 0), (6, .ptr 6 0), (8, sS (some l.isEmpty) eMember l), (21, sS (some c.members.nil) eMember c.members.D), (22, .pv (.lit (.int .i64 (c.members.D.length : Int)))), (23, .pv (.lit (.int .i64 (i : Int))))] [(3, .cells [.pv (.lit (.int .i64 c.epoch)), sS (some c.members.nil) eMember c.members.D]), (6, .cells [.pv (.lit (.int .i64 0)), sS (some true) eMember []])] [3, 6] (WeakerR.ofL (Ks := [3, 6]) hI ⟨⟨rfl, rfl⟩, ⟨rfl, rfl⟩, ⟨rfl, rfl⟩, ⟨rfl, rfl⟩, ⟨(by exact grow_at_nil (b := 900) (e := eMember) (l := l) rfl h4), rfl⟩, ⟨rfl, rfl⟩, ⟨rfl, rfl⟩, ⟨rfl, rfl⟩, trivial⟩ (okH_cons (look_nil h4 rfl) rfl rfl rfl (okH_cons (look_nil h4 rfl) rfl rfl rfl (okH_nil))) rfl) ?_
    refine Awp.cons C (fun _ => .pure) (by kernel_rfl) ?_
    refine rvP C (.pv (.lit (.bool (decide ((i : Int) < (c.members.D.length : Int)))))) rfl rfl rfl rfl ?_
    refine rvc_nil ?_
    refine Awp.seq ?_
    refine Awp.cond (b := (decide ((i : Int) < (c.members.D.length : Int)))) rfl (fun h5 => ?_) (fun h5 => ?_)
    ·
     have h6 : i < c.members.D.length := by have := of_decide_eq_true h5; omega
     obtain ⟨x, h7⟩ := getX h6
     rw [drop_at h7] at hR
     refine Awp.skip ?_
     refine Awp.seq ?_
     refine Awp.block ?_
     refine Awp.cons C (fun _ => .pure) (by kernel_rfl) ?_
     refine rvc_un (rexec_idxS C rfl rfl rfl rfl rfl rfl x (Int.natCast_nonneg _) h7 ?_)
     refine rvP C (.agg [.pv (.lit (.int .i64 x.node)), .pv (.lit (.int .i64 x.site)), .pv (.lit (.bool x.fresh))]) rfl rfl rfl rfl ?_
     refine rvc_un (rexec_prim C (δ := { v := .ptr 10 0, new := [(10, .cells [.pv (.lit (.int .i64 0)), .pv (.lit (.int .i64 0)), .pv (.lit (.bool false))])] }) rfl rfl rfl rfl trivial rfl ?_)
     refine rvc_un (rexec_prim C (δ := { v := .undef, wr := [(10, some (.cells [.pv (.lit (.int .i64 x.node)), .pv (.lit (.int .i64 x.site)), .pv (.lit (.bool x.fresh))]))] }) rfl rfl rfl rfl trivial rfl ?_)
     refine rvc_nil ?_
     refine Awp.cons C (fun _ => .pure) (by kernel_rfl) ?_
     refine rvP C (.ptr 10 0) rfl rfl rfl rfl ?_
     refine rvP C (.pv (.lit (.int .i64 x.node))) rfl rfl rfl rfl ?_
     refine rvP C (.pv (.lit (.int .i64 node))) rfl rfl rfl rfl ?_
     refine rvP C (.pv (.lit (.bool (x.node != node)))) rfl rfl rfl rfl ?_
     refine rvP C (.pv (.lit (.bool (x.node != node)))) rfl rfl rfl rfl ?_
     refine rvc_case 31 (x.node != node) rfl (fun h8 => ?_) (fun h8 => ?_)
     ·
      replace hR := of_true h8 hR
      refine rvc_open rfl rfl rfl (rexec_prim C (δ := { v := .ptr 10 1 }) rfl rfl rfl rfl trivial rfl ?_)
      refine rvc_open rfl rfl rfl (rexec_prim C (δ := { v := .pv (.lit (.int .i64 x.site)) }) rfl rfl rfl rfl trivial rfl ?_)
      refine rvc_open rfl rfl rfl (rexec_prim C (δ := { v := .pv (.lit (.int .i64 site)) }) rfl rfl rfl rfl trivial rfl ?_)
      refine rvc_open rfl rfl rfl (rexec_prim C (δ := { v := .pv (.lit (.bool (x.site != site))) }) rfl rfl rfl rfl trivial rfl ?_)
      refine rvP C (.pv (.lit (.bool (x.site != site)))) rfl rfl rfl rfl ?_
      refine rvc_nil ?_
      refine Awp.cond (b := (x.site != site)) rfl (fun h9 => ?_) (fun h9 => ?_)
      ·
       replace hR := of_true h9 hR
       refine Awp.region C (fun _ => .pure) (by kernel_rfl) ?_
       refine rvP C (sS (some l.isEmpty) eMember l) rfl rfl rfl rfl ?_
       refine rvP C (.agg [.pv (.lit (.int .i64 x.node)), .pv (.lit (.int .i64 x.site)), .pv (.lit (.bool x.fresh))]) rfl rfl rfl rfl ?_
       refine rvc_un (rexec_buildSliceF C eMember [x] rfl rfl rfl rfl rfl rfl rfl (by decide) rfl ?_)
       refine rvc_un (rexec_appendG C rfl rfl rfl rfl rfl rfl rfl rfl (fun _ h => by cases h) rfl (en := eMember) (l := l) (D := [x]) rfl rfl h4 (by rw [h4]; rfl) (by simp) (by have := check_r (c := c); have := rCheck_le6 (c := c); have := eq_of_bne_false h1; have := ne_of_beq_false h2; have := of_decide_eq_true h5; have := bne_iff_ne.1 h8; have := bne_iff_ne.1 h9; first | omega | (simp <;> omega)) (by decide) (nn := (l ++ [x]).length) (by simp) ?_)
       refine rvP C (.sl 40 0 ((l ++ [x]).length) 3 false) rfl rfl rfl rfl ?_
       refine rvc_nil ?_
       refine Awp.region C (fun _ => .pure) (by kernel_rfl) ?_
       refine rvP C (.pv (.lit (.int .i64 (IntKind.i64.wrap ((i : Int) + 1))))) rfl rfl rfl rfl ?_
       refine rvP C (.pv (.lit (.int .i64 (IntKind.i64.wrap ((i : Int) + 1))))) rfl rfl rfl rfl ?_
       refine rvc_nil ?_
       refine ⟨h6, (l ++ [x]), ?_, ?_⟩
       · exact ⟨hR, (by first | omega | (simp <;> omega))⟩
       · exact ⟨fun b => bif b == 900 then 40 else (fun b => b) b, WeakerR.ofL (Ks := [3, 6, 900]) hI ⟨⟨rfl, rfl⟩, ⟨rfl, rfl⟩, ⟨rfl, rfl⟩, ⟨rfl, rfl⟩, ⟨grow_to rfl rfl app_ne rfl rfl, grow_within rfl⟩, ⟨rfl, rfl⟩, ⟨rfl, rfl⟩, ⟨lit_cast (wrap_i64 (by omega) (by omega)), rfl⟩, trivial⟩ (okH_grow (fun _ => rfl) rfl rfl (okH_cons rfl rfl rfl rfl (okH_cons rfl rfl rfl rfl (okH_nil)))) rfl⟩
      ·
       replace hR := of_false h9 hR
       refine Awp.skip ?_
       refine Awp.region C (fun _ => .pure) (by kernel_rfl) ?_
       refine rvP C (.pv (.lit (.int .i64 (IntKind.i64.wrap ((i : Int) + 1))))) rfl rfl rfl rfl ?_
       refine rvP C (.pv (.lit (.int .i64 (IntKind.i64.wrap ((i : Int) + 1))))) rfl rfl rfl rfl ?_
       refine rvc_nil ?_
       refine ⟨h6, l, ?_, ?_⟩
       · exact ⟨hR, (by first | omega | (simp <;> omega))⟩
       · exact ⟨fun b => b, WeakerR.ofL (Ks := [3, 6, 900]) hI ⟨⟨rfl, rfl⟩, ⟨rfl, rfl⟩, ⟨rfl, rfl⟩, ⟨rfl, rfl⟩, ⟨grow_to_nil rfl h4 (.inr rfl), grow_within rfl⟩, ⟨rfl, rfl⟩, ⟨rfl, rfl⟩, ⟨lit_cast (wrap_i64 (by omega) (by omega)), rfl⟩, trivial⟩ (okH_grow (fun hne => absurd h4 hne) rfl rfl (okH_cons rfl rfl rfl rfl (okH_cons rfl rfl rfl rfl (okH_nil)))) rfl⟩
     ·
      replace hR := of_false h8 hR
      refine rvc_shut rfl rfl rfl rfl ?_
      refine rvc_shut rfl rfl rfl rfl ?_
      refine rvc_shut rfl rfl rfl rfl ?_
      refine rvc_shut rfl rfl rfl rfl ?_
      refine rvP C (.pv (.lit (.bool false))) rfl rfl rfl rfl ?_
      refine rvc_nil ?_
      refine Awp.condF (b := false) rfl rfl ?_
      refine Awp.skip ?_
      refine Awp.region C (fun _ => .pure) (by kernel_rfl) ?_
      refine rvP C (.pv (.lit (.int .i64 (IntKind.i64.wrap ((i : Int) + 1))))) rfl rfl rfl rfl ?_
      refine rvP C (.pv (.lit (.int .i64 (IntKind.i64.wrap ((i : Int) + 1))))) rfl rfl rfl rfl ?_
      refine rvc_nil ?_
      refine ⟨h6, l, ?_, ?_⟩
      · exact ⟨hR, (by first | omega | (simp <;> omega))⟩
      · exact ⟨fun b => b, WeakerR.ofL (Ks := [3, 6, 900]) hI ⟨⟨rfl, rfl⟩, ⟨rfl, rfl⟩, ⟨rfl, rfl⟩, ⟨rfl, rfl⟩, ⟨grow_to_nil rfl h4 (.inr rfl), grow_within rfl⟩, ⟨rfl, rfl⟩, ⟨rfl, rfl⟩, ⟨lit_cast (wrap_i64 (by omega) (by omega)), rfl⟩, trivial⟩ (okH_grow (fun hne => absurd h4 hne) rfl rfl (okH_cons rfl rfl rfl rfl (okH_cons rfl rfl rfl rfl (okH_nil)))) rfl⟩
    ·
     have h6 : ¬ i < c.members.D.length := by have := of_decide_eq_false h5; omega
     rw [drop_end h6] at hR
     refine Awp.exit ?_
     refine Awp.seq ?_
     refine Awp.block ?_
     refine Awp.forM (σ := ((Sl Member))) (fun v => [(3, .ptr 3 0), (6, .ptr 6 0), (8, sS (some v.nil) eMember v.D)]) (fun v => [(3, .cells [.pv (.lit (.int .i64 c.epoch)), sS (some c.members.nil) eMember c.members.D]), (6, .cells [.pv (.lit (.int .i64 0)), sS (some true) eMember []])]) [3, 6] (fun n v => n = v.D.length ∧ rCut_l1 c (v.D.length + 1) v = R) ((Sl.mk l.isEmpty l).D.length) (Sl.mk l.isEmpty l) ?_ ?_ (fun _ l1 h10 => ?_)
     · exact ⟨rfl, hR⟩
     · exact ⟨fun b => b, WeakerR.ofL (Ks := [3, 6]) hI ⟨⟨rfl, rfl⟩, ⟨rfl, rfl⟩, ⟨rfl, rfl⟩, trivial⟩ (okH_cons rfl rfl rfl rfl (okH_cons rfl rfl rfl rfl (okH_nil))) rfl⟩
     obtain ⟨rfl, hR⟩ := h10
     refine Awp.seq ?_
     refine Awp.cons C (fun _ => .pure) (by kernel_rfl) ?_
     refine rvP C (sS (some l1.nil) eMember l1.D) rfl rfl rfl rfl ?_
     refine rvP C (.pv (.lit (.int .i64 (l1.D.length : Int)))) rfl rfl rfl rfl ?_
     refine rvP C (.pv (.lit (.bool (decide ((l1.D.length : Int) > 0))))) rfl rfl rfl rfl ?_
     refine rvP C (.pv (.lit (.bool (decide ((l1.D.length : Int) > 0))))) rfl rfl rfl rfl ?_
     refine rvc_case 45 (decide ((l1.D.length : Int) > 0)) rfl (fun h12 => ?_) (fun h12 => ?_)
     ·
      replace hR := of_true h12 hR
      refine rvc_open rfl rfl rfl (rexec_prim C (δ := { v := sS (some l1.nil) eMember l1.D }) rfl rfl rfl rfl trivial rfl ?_)
      have h13 : l1.D[0]? = some l1.D[0]! := getE (by have := check_r (c := c); have := rCheck_le6 (c := c); have := eq_of_bne_false h1; have := ne_of_beq_false h2; have := of_decide_eq_false h5; have := of_decide_eq_true h12; omega)
      refine rvc_open rfl rfl rfl (rexec_idxS C rfl rfl rfl rfl rfl rfl (l1.D[0]!) (Int.natCast_nonneg _) h13 ?_)
      refine rvc_open rfl rfl rfl (rexec_prim C (δ := { v := .rp [.lit (.bool (l1.D[0]!.fresh))] }) rfl rfl rfl rfl trivial rfl ?_)
      refine rvc_open rfl rfl rfl (rexec_prim C (δ := { v := .pv (.lit (.bool (l1.D[0]!.fresh))) }) rfl rfl rfl rfl trivial rfl ?_)
      refine rvP C (.pv (.lit (.bool (l1.D[0]!.fresh)))) rfl rfl rfl rfl ?_
      refine rvc_nil ?_
      refine Awp.cond (b := l1.D[0]!.fresh) rfl (fun h14 => ?_) (fun h14 => ?_)
      ·
       replace hR := of_true h14 hR
       refine Awp.skip ?_
       refine Awp.block ?_
       refine Awp.region C (fun _ => .pure) (by kernel_rfl) ?_
       refine rvP C (sS (some l1.nil) eMember l1.D) rfl rfl rfl rfl ?_
       refine rvc_un (rexec_sliceS C (e := eMember) (D := l1.D) 1 l1.D.length rfl rfl rfl rfl rfl rfl rfl rfl rfl rfl (by have := check_r (c := c); have := rCheck_le6 (c := c); have := eq_of_bne_false h1; have := ne_of_beq_false h2; have := of_decide_eq_false h5; have := of_decide_eq_true h12; omega) (by have := check_r (c := c); have := rCheck_le6 (c := c); have := eq_of_bne_false h1; have := ne_of_beq_false h2; have := of_decide_eq_false h5; have := of_decide_eq_true h12; omega) (l1.D.drop 1) (by rw [List.take_of_length_le (by simp)]) ?_)
       refine rvP C (sS (some l1.nil) eMember (l1.D.drop 1)) rfl rfl rfl rfl ?_
       refine rvc_nil ?_
       refine ⟨_, (Sl.mk l1.nil (l1.D.drop 1)), ?_, ⟨rfl, (by rw [show ((Sl.mk l1.nil (l1.D.drop 1)).D.length) + 1 = l1.D.length by have := check_r (c := c); have := rCheck_le6 (c := c); have := eq_of_bne_false h1; have := ne_of_beq_false h2; have := of_decide_eq_false h5; have := of_decide_eq_true h12; first | omega | (simp only [List.length_drop]; omega)]; exact hR)⟩, ?_⟩
       · show (Sl.mk l1.nil (l1.D.drop 1)).D.length < l1.D.length; have := check_r (c := c); have := rCheck_le6 (c := c); have := eq_of_bne_false h1; have := ne_of_beq_false h2; have := of_decide_eq_false h5; have := of_decide_eq_true h12; first | omega | (simp only [List.length_drop]; omega)
       · exact ⟨fun b => b, WeakerR.ofL (Ks := [3, 6]) hI ⟨⟨rfl, rfl⟩, ⟨rfl, rfl⟩, ⟨rfl, rfl⟩, trivial⟩ (okH_cons rfl rfl rfl rfl (okH_cons rfl rfl rfl rfl (okH_nil))) rfl⟩
      ·
       replace hR := of_false h14 hR
       refine Awp.exit ?_
       refine Awp.seq ?_
       refine Awp.cons C (fun _ => .pure) (by kernel_rfl) ?_
       refine rvP C (sS (some l1.nil) eMember l1.D) rfl rfl rfl rfl ?_
       refine rvP C (.pv (.lit (.int .i64 (l1.D.length : Int)))) rfl rfl rfl rfl ?_
       refine rvP C (.ptr 3 1) rfl rfl rfl rfl ?_
       refine rvP C (sS (some c.members.nil) eMember c.members.D) rfl rfl rfl rfl ?_
       refine rvP C (.pv (.lit (.int .i64 (c.members.D.length : Int)))) rfl rfl rfl rfl ?_
       refine rvP C (.pv (.lit (.bool ((l1.D.length : Int) == (c.members.D.length : Int))))) rfl rfl rfl rfl ?_
       refine rvc_nil ?_
       refine Awp.cond (b := ((l1.D.length : Int) == (c.members.D.length : Int))) rfl (fun h15 => ?_) (fun h15 => ?_)
       ·
        replace hR := of_true h15 hR
        refine Awp.cons C (fun _ => .pure) (by kernel_rfl) ?_
        refine rvP C (.agg [.pv (.lit (.int .i64 0)), sS (some true) eMember []]) rfl rfl rfl rfl ?_
        refine rvc_un (rexec_prim C (δ := { v := .undef, wr := [(6, some (.cells [.pv (.lit (.int .i64 0)), sS (some true) eMember []]))] }) rfl rfl rfl rfl trivial rfl ?_)
        refine rvP C (.pv (.lit (.int .i64 81))) rfl rfl rfl rfl ?_
        refine rvc_nil ?_
        refine Awp.ret ?_
        subst hR
        exact ⟨.inl rfl, rfl⟩
       ·
        replace hR := of_false h15 hR
        refine Awp.skip ?_
        refine Awp.seq ?_
        refine Awp.cons C (fun _ => .pure) (by kernel_rfl) ?_
        refine rvP C (sS (some l1.nil) eMember l1.D) rfl rfl rfl rfl ?_
        refine rvP C (.pv (.lit (.int .i64 (l1.D.length : Int)))) rfl rfl rfl rfl ?_
        refine rvP C (.pv (.lit (.bool ((l1.D.length : Int) == 0)))) rfl rfl rfl rfl ?_
        refine rvc_nil ?_
        refine Awp.cond (b := ((l1.D.length : Int) == 0)) rfl (fun h16 => ?_) (fun h16 => ?_)
        ·
         replace hR := of_true h16 hR
         refine Awp.cons C (fun _ => .pure) (by kernel_rfl) ?_
         refine rvP C (.agg [.pv (.lit (.int .i64 0)), sS (some true) eMember []]) rfl rfl rfl rfl ?_
         refine rvc_un (rexec_prim C (δ := { v := .undef, wr := [(6, some (.cells [.pv (.lit (.int .i64 0)), sS (some true) eMember []]))] }) rfl rfl rfl rfl trivial rfl ?_)
         refine rvP C (.pv (.lit (.int .i64 83))) rfl rfl rfl rfl ?_
         refine rvc_nil ?_
         refine Awp.ret ?_
         subst hR
         exact ⟨.inl rfl, rfl⟩
        ·
         replace hR := of_false h16 hR
         refine Awp.skip ?_
         refine Awp.cons C (fun _ => .pure) (by kernel_rfl) ?_
         refine rvP C (.ptr 3 0) rfl rfl rfl rfl ?_
         refine rvP C (.pv (.lit (.int .i64 c.epoch))) rfl rfl rfl rfl ?_
         refine rvP C (.pv (.lit (.int .i64 (IntKind.i64.wrap (c.epoch + 1))))) rfl rfl rfl rfl ?_
         refine rvP C (.agg [.pv (.lit (.int .i64 (IntKind.i64.wrap (c.epoch + 1)))), sS (some true) eMember []]) rfl rfl rfl rfl ?_
         refine rvc_un (rexec_prim C (δ := { v := .ptr 11 0, new := [(11, .cells [.pv (.lit (.int .i64 0)), sS (some true) eMember []])] }) rfl rfl rfl rfl trivial rfl ?_)
         refine rvc_un (rexec_prim C (δ := { v := .undef, wr := [(11, some (.cells [.pv (.lit (.int .i64 (IntKind.i64.wrap (c.epoch + 1)))), sS (some true) eMember []]))] }) rfl rfl rfl rfl trivial rfl ?_)
         refine rvc_nil ?_
         refine Awp.cons C (fun _ => .pure) (by kernel_rfl) ?_
         refine rvP C (sS (some l1.nil) eMember l1.D) rfl rfl rfl rfl ?_
         refine rvP C (.ptr 11 1) rfl rfl rfl rfl ?_
         refine rvc_un (rexec_prim C (δ := { v := .undef, wr := [(11, some (.cells [.pv (.lit (.int .i64 (IntKind.i64.wrap (c.epoch + 1)))), sS (some l1.nil) eMember l1.D]))] }) rfl rfl rfl rfl trivial rfl ?_)
         refine rvc_nil ?_
         refine Awp.cons C (fun _ => .pure) (by kernel_rfl) ?_
         refine rvP C (.agg [.pv (.lit (.int .i64 (IntKind.i64.wrap (c.epoch + 1)))), sS (some l1.nil) eMember l1.D]) rfl rfl rfl rfl ?_
         refine rvc_un (rexec_prim C (δ := { v := .undef, wr := [(6, some (.cells [.pv (.lit (.int .i64 (IntKind.i64.wrap (c.epoch + 1)))), sS (some l1.nil) eMember l1.D]))] }) rfl rfl rfl rfl trivial rfl ?_)
         refine rvP C (.pv (.lit (.int .i64 0))) rfl rfl rfl rfl ?_
         refine rvc_nil ?_
         refine Awp.ret ?_
         subst hR
         exact ⟨.inl rfl, rfl⟩
     ·
      replace hR := of_false h12 hR
      refine rvc_shut rfl rfl rfl rfl ?_
      refine rvc_shut rfl rfl rfl rfl ?_
      refine rvc_shut rfl rfl rfl rfl ?_
      refine rvc_shut rfl rfl rfl rfl ?_
      refine rvP C (.pv (.lit (.bool false))) rfl rfl rfl rfl ?_
      refine rvc_nil ?_
      refine Awp.condF (b := false) rfl rfl ?_
      refine Awp.exit ?_
      refine Awp.seq ?_
      refine Awp.cons C (fun _ => .pure) (by kernel_rfl) ?_
      refine rvP C (sS (some l1.nil) eMember l1.D) rfl rfl rfl rfl ?_
      refine rvP C (.pv (.lit (.int .i64 (l1.D.length : Int)))) rfl rfl rfl rfl ?_
      refine rvP C (.ptr 3 1) rfl rfl rfl rfl ?_
      refine rvP C (sS (some c.members.nil) eMember c.members.D) rfl rfl rfl rfl ?_
      refine rvP C (.pv (.lit (.int .i64 (c.members.D.length : Int)))) rfl rfl rfl rfl ?_
      refine rvP C (.pv (.lit (.bool ((l1.D.length : Int) == (c.members.D.length : Int))))) rfl rfl rfl rfl ?_
      refine rvc_nil ?_
      refine Awp.cond (b := ((l1.D.length : Int) == (c.members.D.length : Int))) rfl (fun h17 => ?_) (fun h17 => ?_)
      ·
       replace hR := of_true h17 hR
       refine Awp.cons C (fun _ => .pure) (by kernel_rfl) ?_
       refine rvP C (.agg [.pv (.lit (.int .i64 0)), sS (some true) eMember []]) rfl rfl rfl rfl ?_
       refine rvc_un (rexec_prim C (δ := { v := .undef, wr := [(6, some (.cells [.pv (.lit (.int .i64 0)), sS (some true) eMember []]))] }) rfl rfl rfl rfl trivial rfl ?_)
       refine rvP C (.pv (.lit (.int .i64 81))) rfl rfl rfl rfl ?_
       refine rvc_nil ?_
       refine Awp.ret ?_
       subst hR
       exact ⟨.inl rfl, rfl⟩
      ·
       replace hR := of_false h17 hR
       refine Awp.skip ?_
       refine Awp.seq ?_
       refine Awp.cons C (fun _ => .pure) (by kernel_rfl) ?_
       refine rvP C (sS (some l1.nil) eMember l1.D) rfl rfl rfl rfl ?_
       refine rvP C (.pv (.lit (.int .i64 (l1.D.length : Int)))) rfl rfl rfl rfl ?_
       refine rvP C (.pv (.lit (.bool ((l1.D.length : Int) == 0)))) rfl rfl rfl rfl ?_
       refine rvc_nil ?_
       refine Awp.cond (b := ((l1.D.length : Int) == 0)) rfl (fun h18 => ?_) (fun h18 => ?_)
       ·
        replace hR := of_true h18 hR
        refine Awp.cons C (fun _ => .pure) (by kernel_rfl) ?_
        refine rvP C (.agg [.pv (.lit (.int .i64 0)), sS (some true) eMember []]) rfl rfl rfl rfl ?_
        refine rvc_un (rexec_prim C (δ := { v := .undef, wr := [(6, some (.cells [.pv (.lit (.int .i64 0)), sS (some true) eMember []]))] }) rfl rfl rfl rfl trivial rfl ?_)
        refine rvP C (.pv (.lit (.int .i64 83))) rfl rfl rfl rfl ?_
        refine rvc_nil ?_
        refine Awp.ret ?_
        subst hR
        exact ⟨.inl rfl, rfl⟩
       ·
        replace hR := of_false h18 hR
        refine Awp.skip ?_
        refine Awp.cons C (fun _ => .pure) (by kernel_rfl) ?_
        refine rvP C (.ptr 3 0) rfl rfl rfl rfl ?_
        refine rvP C (.pv (.lit (.int .i64 c.epoch))) rfl rfl rfl rfl ?_
        refine rvP C (.pv (.lit (.int .i64 (IntKind.i64.wrap (c.epoch + 1))))) rfl rfl rfl rfl ?_
        refine rvP C (.agg [.pv (.lit (.int .i64 (IntKind.i64.wrap (c.epoch + 1)))), sS (some true) eMember []]) rfl rfl rfl rfl ?_
        refine rvc_un (rexec_prim C (δ := { v := .ptr 11 0, new := [(11, .cells [.pv (.lit (.int .i64 0)), sS (some true) eMember []])] }) rfl rfl rfl rfl trivial rfl ?_)
        refine rvc_un (rexec_prim C (δ := { v := .undef, wr := [(11, some (.cells [.pv (.lit (.int .i64 (IntKind.i64.wrap (c.epoch + 1)))), sS (some true) eMember []]))] }) rfl rfl rfl rfl trivial rfl ?_)
        refine rvc_nil ?_
        refine Awp.cons C (fun _ => .pure) (by kernel_rfl) ?_
        refine rvP C (sS (some l1.nil) eMember l1.D) rfl rfl rfl rfl ?_
        refine rvP C (.ptr 11 1) rfl rfl rfl rfl ?_
        refine rvc_un (rexec_prim C (δ := { v := .undef, wr := [(11, some (.cells [.pv (.lit (.int .i64 (IntKind.i64.wrap (c.epoch + 1)))), sS (some l1.nil) eMember l1.D]))] }) rfl rfl rfl rfl trivial rfl ?_)
        refine rvc_nil ?_
        refine Awp.cons C (fun _ => .pure) (by kernel_rfl) ?_
        refine rvP C (.agg [.pv (.lit (.int .i64 (IntKind.i64.wrap (c.epoch + 1)))), sS (some l1.nil) eMember l1.D]) rfl rfl rfl rfl ?_
        refine rvc_un (rexec_prim C (δ := { v := .undef, wr := [(6, some (.cells [.pv (.lit (.int .i64 (IntKind.i64.wrap (c.epoch + 1)))), sS (some l1.nil) eMember l1.D]))] }) rfl rfl rfl rfl trivial rfl ?_)
        refine rvP C (.pv (.lit (.int .i64 0))) rfl rfl rfl rfl ?_
        refine rvc_nil ?_
        refine Awp.ret ?_
        subst hR
        exact ⟨.inl rfl, rfl⟩
   ·
    refine Awp.wordsR [(1, .pv (.lit (.int .i64 node))), (2, .pv (.lit (.int .i64 site))), (3, .ptr 3 0), (6, .ptr 6 0), (8, .sl 900 0 l.length 3 false), (21, sS (some c.members.nil) eMember c.members.D), (22, .pv (.lit (.int .i64 (c.members.D.length : Int)))), (23, .pv (.lit (.int .i64 (i : Int))))] [(900, .cells (encC eMember l)), (3, .cells [.pv (.lit (.int .i64 c.epoch)), sS (some c.members.nil) eMember c.members.D]), (6, .cells [.pv (.lit (.int .i64 0)), sS (some true) eMember []])] [3, 6, 900] (WeakerR.ofL (Ks := [3, 6, 900]) hI ⟨⟨rfl, rfl⟩, ⟨rfl, rfl⟩, ⟨rfl, rfl⟩, ⟨rfl, rfl⟩, ⟨(by exact grow_at_cons (b := 900) (b' := 900) (e := eMember) (l := l) rfl h4 rfl rfl rfl), rfl⟩, ⟨rfl, rfl⟩, ⟨rfl, rfl⟩, ⟨rfl, rfl⟩, trivial⟩ (okH_list (look_cons h4 rfl) rfl rfl (okH_cons (look_cons h4 rfl) rfl rfl rfl (okH_cons (look_cons h4 rfl) rfl rfl rfl (okH_nil)))) rfl) ?_
    refine Awp.cons C (fun _ => .pure) (by kernel_rfl) ?_
    refine rvP C (.pv (.lit (.bool (decide ((i : Int) < (c.members.D.length : Int)))))) rfl rfl rfl rfl ?_
    refine rvc_nil ?_
    refine Awp.seq ?_
    refine Awp.cond (b := (decide ((i : Int) < (c.members.D.length : Int)))) rfl (fun h19 => ?_) (fun h19 => ?_)
    ·
     have h20 : i < c.members.D.length := by have := of_decide_eq_true h19; omega
     obtain ⟨x, h21⟩ := getX h20
     rw [drop_at h21] at hR
     refine Awp.skip ?_
     refine Awp.seq ?_
     refine Awp.block ?_
     refine Awp.cons C (fun _ => .pure) (by kernel_rfl) ?_
     refine rvc_un (rexec_idxS C rfl rfl rfl rfl rfl rfl x (Int.natCast_nonneg _) h21 ?_)
     refine rvP C (.agg [.pv (.lit (.int .i64 x.node)), .pv (.lit (.int .i64 x.site)), .pv (.lit (.bool x.fresh))]) rfl rfl rfl rfl ?_
     refine rvc_un (rexec_prim C (δ := { v := .ptr 10 0, new := [(10, .cells [.pv (.lit (.int .i64 0)), .pv (.lit (.int .i64 0)), .pv (.lit (.bool false))])] }) rfl rfl rfl rfl trivial rfl ?_)
     refine rvc_un (rexec_prim C (δ := { v := .undef, wr := [(10, some (.cells [.pv (.lit (.int .i64 x.node)), .pv (.lit (.int .i64 x.site)), .pv (.lit (.bool x.fresh))]))] }) rfl rfl rfl rfl trivial rfl ?_)
     refine rvc_nil ?_
     refine Awp.cons C (fun _ => .pure) (by kernel_rfl) ?_
     refine rvP C (.ptr 10 0) rfl rfl rfl rfl ?_
     refine rvP C (.pv (.lit (.int .i64 x.node))) rfl rfl rfl rfl ?_
     refine rvP C (.pv (.lit (.int .i64 node))) rfl rfl rfl rfl ?_
     refine rvP C (.pv (.lit (.bool (x.node != node)))) rfl rfl rfl rfl ?_
     refine rvP C (.pv (.lit (.bool (x.node != node)))) rfl rfl rfl rfl ?_
     refine rvc_case 31 (x.node != node) rfl (fun h22 => ?_) (fun h22 => ?_)
     ·
      replace hR := of_true h22 hR
      refine rvc_open rfl rfl rfl (rexec_prim C (δ := { v := .ptr 10 1 }) rfl rfl rfl rfl trivial rfl ?_)
      refine rvc_open rfl rfl rfl (rexec_prim C (δ := { v := .pv (.lit (.int .i64 x.site)) }) rfl rfl rfl rfl trivial rfl ?_)
      refine rvc_open rfl rfl rfl (rexec_prim C (δ := { v := .pv (.lit (.int .i64 site)) }) rfl rfl rfl rfl trivial rfl ?_)
      refine rvc_open rfl rfl rfl (rexec_prim C (δ := { v := .pv (.lit (.bool (x.site != site))) }) rfl rfl rfl rfl trivial rfl ?_)
      refine rvP C (.pv (.lit (.bool (x.site != site)))) rfl rfl rfl rfl ?_
      refine rvc_nil ?_
      refine Awp.cond (b := (x.site != site)) rfl (fun h23 => ?_) (fun h23 => ?_)
      ·
       replace hR := of_true h23 hR
       refine Awp.region C (fun _ => .pure) (by kernel_rfl) ?_
       refine rvP C (.sl 900 0 l.length 3 false) rfl rfl rfl rfl ?_
       refine rvP C (.agg [.pv (.lit (.int .i64 x.node)), .pv (.lit (.int .i64 x.site)), .pv (.lit (.bool x.fresh))]) rfl rfl rfl rfl ?_
       refine rvc_un (rexec_buildSliceF C eMember [x] rfl rfl rfl rfl rfl rfl rfl (by decide) rfl ?_)
       refine rvc_un (rexec_append C rfl rfl rfl rfl rfl rfl rfl rfl (fun _ h => by cases h) rfl (en := eMember) (D0 := l) (D := [x]) rfl rfl rfl rfl (by have := check_r (c := c); have := rCheck_le6 (c := c); have := eq_of_bne_false h1; have := ne_of_beq_false h2; have := of_decide_eq_true h19; have := bne_iff_ne.1 h22; have := bne_iff_ne.1 h23; first | omega | (simp <;> omega)) (by decide) (nn := (l ++ [x]).length) (by simp) ?_)
       refine rvP C (.sl 40 0 ((l ++ [x]).length) 3 false) rfl rfl rfl rfl ?_
       refine rvc_nil ?_
       refine Awp.region C (fun _ => .pure) (by kernel_rfl) ?_
       refine rvP C (.pv (.lit (.int .i64 (IntKind.i64.wrap ((i : Int) + 1))))) rfl rfl rfl rfl ?_
       refine rvP C (.pv (.lit (.int .i64 (IntKind.i64.wrap ((i : Int) + 1))))) rfl rfl rfl rfl ?_
       refine rvc_nil ?_
       refine ⟨h20, (l ++ [x]), ?_, ?_⟩
       · exact ⟨hR, (by first | omega | (simp <;> omega))⟩
       · exact ⟨fun b => bif b == 900 then 40 else (fun b => b) b, WeakerR.ofL (Ks := [3, 6, 900]) hI ⟨⟨rfl, rfl⟩, ⟨rfl, rfl⟩, ⟨rfl, rfl⟩, ⟨rfl, rfl⟩, ⟨grow_to rfl rfl app_ne rfl rfl, grow_within rfl⟩, ⟨rfl, rfl⟩, ⟨rfl, rfl⟩, ⟨lit_cast (wrap_i64 (by omega) (by omega)), rfl⟩, trivial⟩ (okH_grow (fun _ => rfl) rfl rfl (okH_cons rfl rfl rfl rfl (okH_cons rfl rfl rfl rfl (okH_nil)))) rfl⟩
      ·
       replace hR := of_false h23 hR
       refine Awp.skip ?_
       refine Awp.region C (fun _ => .pure) (by kernel_rfl) ?_
       refine rvP C (.pv (.lit (.int .i64 (IntKind.i64.wrap ((i : Int) + 1))))) rfl rfl rfl rfl ?_
       refine rvP C (.pv (.lit (.int .i64 (IntKind.i64.wrap ((i : Int) + 1))))) rfl rfl rfl rfl ?_
       refine rvc_nil ?_
       refine ⟨h20, l, ?_, ?_⟩
       · exact ⟨hR, (by first | omega | (simp <;> omega))⟩
       · exact ⟨fun b => b, WeakerR.ofL (Ks := [3, 6, 900]) hI ⟨⟨rfl, rfl⟩, ⟨rfl, rfl⟩, ⟨rfl, rfl⟩, ⟨rfl, rfl⟩, ⟨grow_to rfl rfl h4 rfl rfl, grow_within rfl⟩, ⟨rfl, rfl⟩, ⟨rfl, rfl⟩, ⟨lit_cast (wrap_i64 (by omega) (by omega)), rfl⟩, trivial⟩ (okH_grow (fun _ => rfl) rfl rfl (okH_cons rfl rfl rfl rfl (okH_cons rfl rfl rfl rfl (okH_nil)))) rfl⟩
     ·
      replace hR := of_false h22 hR
      refine rvc_shut rfl rfl rfl rfl ?_
      refine rvc_shut rfl rfl rfl rfl ?_
      refine rvc_shut rfl rfl rfl rfl ?_
      refine rvc_shut rfl rfl rfl rfl ?_
      refine rvP C (.pv (.lit (.bool false))) rfl rfl rfl rfl ?_
      refine rvc_nil ?_
      refine Awp.condF (b := false) rfl rfl ?_
      refine Awp.skip ?_
      refine Awp.region C (fun _ => .pure) (by kernel_rfl) ?_
      refine rvP C (.pv (.lit (.int .i64 (IntKind.i64.wrap ((i : Int) + 1))))) rfl rfl rfl rfl ?_
      refine rvP C (.pv (.lit (.int .i64 (IntKind.i64.wrap ((i : Int) + 1))))) rfl rfl rfl rfl ?_
      refine rvc_nil ?_
      refine ⟨h20, l, ?_, ?_⟩
      · exact ⟨hR, (by first | omega | (simp <;> omega))⟩
      · exact ⟨fun b => b, WeakerR.ofL (Ks := [3, 6, 900]) hI ⟨⟨rfl, rfl⟩, ⟨rfl, rfl⟩, ⟨rfl, rfl⟩, ⟨rfl, rfl⟩, ⟨grow_to rfl rfl h4 rfl rfl, grow_within rfl⟩, ⟨rfl, rfl⟩, ⟨rfl, rfl⟩, ⟨lit_cast (wrap_i64 (by omega) (by omega)), rfl⟩, trivial⟩ (okH_grow (fun _ => rfl) rfl rfl (okH_cons rfl rfl rfl rfl (okH_cons rfl rfl rfl rfl (okH_nil)))) rfl⟩
    ·
     have h20 : ¬ i < c.members.D.length := by have := of_decide_eq_false h19; omega
     rw [drop_end h20] at hR
     refine Awp.exit ?_
     refine Awp.seq ?_
     refine Awp.block ?_
     refine Awp.freezeW 900 (encL eMember l) ?_ [(3, .ptr 3 0), (6, .ptr 6 0), (8, sS (some l.isEmpty) eMember l)] [(3, .cells [.pv (.lit (.int .i64 c.epoch)), sS (some c.members.nil) eMember c.members.D]), (6, .cells [.pv (.lit (.int .i64 0)), sS (some true) eMember []])] ?_ ?_ ?_
     · rfl
     · exact ⟨⟨_, rfl, .inl (.inl rfl)⟩, ⟨_, rfl, .inl (.inl rfl)⟩, ⟨_, rfl, .inl (.inr ⟨_, _, _, rfl, by rw [ne_isEmpty h4]; rfl⟩)⟩, trivial⟩
     · exact ⟨⟨(by show (3 : Nat) ≠ 900; decide), .inl rfl⟩, ⟨(by show (6 : Nat) ≠ 900; decide), .inl rfl⟩, trivial⟩
     refine Awp.forM (σ := ((Sl Member))) (fun v => [(3, .ptr 3 0), (6, .ptr 6 0), (8, sS (some v.nil) eMember v.D)]) (fun v => [(3, .cells [.pv (.lit (.int .i64 c.epoch)), sS (some c.members.nil) eMember c.members.D]), (6, .cells [.pv (.lit (.int .i64 0)), sS (some true) eMember []])]) [3, 6] (fun n v => n = v.D.length ∧ rCut_l1 c (v.D.length + 1) v = R) ((Sl.mk l.isEmpty l).D.length) (Sl.mk l.isEmpty l) ?_ ?_ (fun _ l2 h24 => ?_)
     · exact ⟨rfl, hR⟩
     · exact ⟨fun b => b, WeakerR.ofL (Ks := [3, 6]) hI ⟨⟨rfl, rfl⟩, ⟨rfl, rfl⟩, ⟨rfl, rfl⟩, trivial⟩ (okH_cons rfl rfl rfl rfl (okH_cons rfl rfl rfl rfl (okH_nil))) rfl⟩
     obtain ⟨rfl, hR⟩ := h24
     refine Awp.seq ?_
     refine Awp.cons C (fun _ => .pure) (by kernel_rfl) ?_
     refine rvP C (sS (some l2.nil) eMember l2.D) rfl rfl rfl rfl ?_
     refine rvP C (.pv (.lit (.int .i64 (l2.D.length : Int)))) rfl rfl rfl rfl ?_
     refine rvP C (.pv (.lit (.bool (decide ((l2.D.length : Int) > 0))))) rfl rfl rfl rfl ?_
     refine rvP C (.pv (.lit (.bool (decide ((l2.D.length : Int) > 0))))) rfl rfl rfl rfl ?_
     refine rvc_case 45 (decide ((l2.D.length : Int) > 0)) rfl (fun h26 => ?_) (fun h26 => ?_)
     ·
      replace hR := of_true h26 hR
      refine rvc_open rfl rfl rfl (rexec_prim C (δ := { v := sS (some l2.nil) eMember l2.D }) rfl rfl rfl rfl trivial rfl ?_)
      have h27 : l2.D[0]? = some l2.D[0]! := getE (by have := check_r (c := c); have := rCheck_le6 (c := c); have := eq_of_bne_false h1; have := ne_of_beq_false h2; have := of_decide_eq_false h19; have := of_decide_eq_true h26; omega)
      refine rvc_open rfl rfl rfl (rexec_idxS C rfl rfl rfl rfl rfl rfl (l2.D[0]!) (Int.natCast_nonneg _) h27 ?_)
      refine rvc_open rfl rfl rfl (rexec_prim C (δ := { v := .rp [.lit (.bool (l2.D[0]!.fresh))] }) rfl rfl rfl rfl trivial rfl ?_)
      refine rvc_open rfl rfl rfl (rexec_prim C (δ := { v := .pv (.lit (.bool (l2.D[0]!.fresh))) }) rfl rfl rfl rfl trivial rfl ?_)
      refine rvP C (.pv (.lit (.bool (l2.D[0]!.fresh)))) rfl rfl rfl rfl ?_
      refine rvc_nil ?_
      refine Awp.cond (b := l2.D[0]!.fresh) rfl (fun h28 => ?_) (fun h28 => ?_)
      ·
       replace hR := of_true h28 hR
       refine Awp.skip ?_
       refine Awp.block ?_
       refine Awp.region C (fun _ => .pure) (by kernel_rfl) ?_
       refine rvP C (sS (some l2.nil) eMember l2.D) rfl rfl rfl rfl ?_
       refine rvc_un (rexec_sliceS C (e := eMember) (D := l2.D) 1 l2.D.length rfl rfl rfl rfl rfl rfl rfl rfl rfl rfl (by have := check_r (c := c); have := rCheck_le6 (c := c); have := eq_of_bne_false h1; have := ne_of_beq_false h2; have := of_decide_eq_false h19; have := of_decide_eq_true h26; omega) (by have := check_r (c := c); have := rCheck_le6 (c := c); have := eq_of_bne_false h1; have := ne_of_beq_false h2; have := of_decide_eq_false h19; have := of_decide_eq_true h26; omega) (l2.D.drop 1) (by rw [List.take_of_length_le (by simp)]) ?_)
       refine rvP C (sS (some l2.nil) eMember (l2.D.drop 1)) rfl rfl rfl rfl ?_
       refine rvc_nil ?_
       refine ⟨_, (Sl.mk l2.nil (l2.D.drop 1)), ?_, ⟨rfl, (by rw [show ((Sl.mk l2.nil (l2.D.drop 1)).D.length) + 1 = l2.D.length by have := check_r (c := c); have := rCheck_le6 (c := c); have := eq_of_bne_false h1; have := ne_of_beq_false h2; have := of_decide_eq_false h19; have := of_decide_eq_true h26; first | omega | (simp only [List.length_drop]; omega)]; exact hR)⟩, ?_⟩
       · show (Sl.mk l2.nil (l2.D.drop 1)).D.length < l2.D.length; have := check_r (c := c); have := rCheck_le6 (c := c); have := eq_of_bne_false h1; have := ne_of_beq_false h2; have := of_decide_eq_false h19; have := of_decide_eq_true h26; first | omega | (simp only [List.length_drop]; omega)
       · exact ⟨fun b => b, WeakerR.ofL (Ks := [3, 6]) hI ⟨⟨rfl, rfl⟩, ⟨rfl, rfl⟩, ⟨rfl, rfl⟩, trivial⟩ (okH_cons rfl rfl rfl rfl (okH_cons rfl rfl rfl rfl (okH_nil))) rfl⟩
      ·
       replace hR := of_false h28 hR
       refine Awp.exit ?_
       refine Awp.seq ?_
       refine Awp.cons C (fun _ => .pure) (by kernel_rfl) ?_
       refine rvP C (sS (some l2.nil) eMember l2.D) rfl rfl rfl rfl ?_
       refine rvP C (.pv (.lit (.int .i64 (l2.D.length : Int)))) rfl rfl rfl rfl ?_
       refine rvP C (.ptr 3 1) rfl rfl rfl rfl ?_
       refine rvP C (sS (some c.members.nil) eMember c.members.D) rfl rfl rfl rfl ?_
       refine rvP C (.pv (.lit (.int .i64 (c.members.D.length : Int)))) rfl rfl rfl rfl ?_
       refine rvP C (.pv (.lit (.bool ((l2.D.length : Int) == (c.members.D.length : Int))))) rfl rfl rfl rfl ?_
       refine rvc_nil ?_
       refine Awp.cond (b := ((l2.D.length : Int) == (c.members.D.length : Int))) rfl (fun h29 => ?_) (fun h29 => ?_)
       ·
        replace hR := of_true h29 hR
        refine Awp.cons C (fun _ => .pure) (by kernel_rfl) ?_
        refine rvP C (.agg [.pv (.lit (.int .i64 0)), sS (some true) eMember []]) rfl rfl rfl rfl ?_
        refine rvc_un (rexec_prim C (δ := { v := .undef, wr := [(6, some (.cells [.pv (.lit (.int .i64 0)), sS (some true) eMember []]))] }) rfl rfl rfl rfl trivial rfl ?_)
        refine rvP C (.pv (.lit (.int .i64 81))) rfl rfl rfl rfl ?_
        refine rvc_nil ?_
        refine Awp.ret ?_
        subst hR
        exact ⟨.inl rfl, rfl⟩
       ·
        replace hR := of_false h29 hR
        refine Awp.skip ?_
        refine Awp.seq ?_
        refine Awp.cons C (fun _ => .pure) (by kernel_rfl) ?_
        refine rvP C (sS (some l2.nil) eMember l2.D) rfl rfl rfl rfl ?_
        refine rvP C (.pv (.lit (.int .i64 (l2.D.length : Int)))) rfl rfl rfl rfl ?_
        refine rvP C (.pv (.lit (.bool ((l2.D.length : Int) == 0)))) rfl rfl rfl rfl ?_
        refine rvc_nil ?_
        refine Awp.cond (b := ((l2.D.length : Int) == 0)) rfl (fun h30 => ?_) (fun h30 => ?_)
        ·
         replace hR := of_true h30 hR
         refine Awp.cons C (fun _ => .pure) (by kernel_rfl) ?_
         refine rvP C (.agg [.pv (.lit (.int .i64 0)), sS (some true) eMember []]) rfl rfl rfl rfl ?_
         refine rvc_un (rexec_prim C (δ := { v := .undef, wr := [(6, some (.cells [.pv (.lit (.int .i64 0)), sS (some true) eMember []]))] }) rfl rfl rfl rfl trivial rfl ?_)
         refine rvP C (.pv (.lit (.int .i64 83))) rfl rfl rfl rfl ?_
         refine rvc_nil ?_
         refine Awp.ret ?_
         subst hR
         exact ⟨.inl rfl, rfl⟩
        ·
         replace hR := of_false h30 hR
         refine Awp.skip ?_
         refine Awp.cons C (fun _ => .pure) (by kernel_rfl) ?_
         refine rvP C (.ptr 3 0) rfl rfl rfl rfl ?_
         refine rvP C (.pv (.lit (.int .i64 c.epoch))) rfl rfl rfl rfl ?_
         refine rvP C (.pv (.lit (.int .i64 (IntKind.i64.wrap (c.epoch + 1))))) rfl rfl rfl rfl ?_
         refine rvP C (.agg [.pv (.lit (.int .i64 (IntKind.i64.wrap (c.epoch + 1)))), sS (some true) eMember []]) rfl rfl rfl rfl ?_
         refine rvc_un (rexec_prim C (δ := { v := .ptr 11 0, new := [(11, .cells [.pv (.lit (.int .i64 0)), sS (some true) eMember []])] }) rfl rfl rfl rfl trivial rfl ?_)
         refine rvc_un (rexec_prim C (δ := { v := .undef, wr := [(11, some (.cells [.pv (.lit (.int .i64 (IntKind.i64.wrap (c.epoch + 1)))), sS (some true) eMember []]))] }) rfl rfl rfl rfl trivial rfl ?_)
         refine rvc_nil ?_
         refine Awp.cons C (fun _ => .pure) (by kernel_rfl) ?_
         refine rvP C (sS (some l2.nil) eMember l2.D) rfl rfl rfl rfl ?_
         refine rvP C (.ptr 11 1) rfl rfl rfl rfl ?_
         refine rvc_un (rexec_prim C (δ := { v := .undef, wr := [(11, some (.cells [.pv (.lit (.int .i64 (IntKind.i64.wrap (c.epoch + 1)))), sS (some l2.nil) eMember l2.D]))] }) rfl rfl rfl rfl trivial rfl ?_)
         refine rvc_nil ?_
         refine Awp.cons C (fun _ => .pure) (by kernel_rfl) ?_
         refine rvP C (.agg [.pv (.lit (.int .i64 (IntKind.i64.wrap (c.epoch + 1)))), sS (some l2.nil) eMember l2.D]) rfl rfl rfl rfl ?_
         refine rvc_un (rexec_prim C (δ := { v := .undef, wr := [(6, some (.cells [.pv (.lit (.int .i64 (IntKind.i64.wrap (c.epoch + 1)))), sS (some l2.nil) eMember l2.D]))] }) rfl rfl rfl rfl trivial rfl ?_)
         refine rvP C (.pv (.lit (.int .i64 0))) rfl rfl rfl rfl ?_
         refine rvc_nil ?_
         refine Awp.ret ?_
         subst hR
         exact ⟨.inl rfl, rfl⟩
     ·
      replace hR := of_false h26 hR
      refine rvc_shut rfl rfl rfl rfl ?_
      refine rvc_shut rfl rfl rfl rfl ?_
      refine rvc_shut rfl rfl rfl rfl ?_
      refine rvc_shut rfl rfl rfl rfl ?_
      refine rvP C (.pv (.lit (.bool false))) rfl rfl rfl rfl ?_
      refine rvc_nil ?_
      refine Awp.condF (b := false) rfl rfl ?_
      refine Awp.exit ?_
      refine Awp.seq ?_
      refine Awp.cons C (fun _ => .pure) (by kernel_rfl) ?_
      refine rvP C (sS (some l2.nil) eMember l2.D) rfl rfl rfl rfl ?_
      refine rvP C (.pv (.lit (.int .i64 (l2.D.length : Int)))) rfl rfl rfl rfl ?_
      refine rvP C (.ptr 3 1) rfl rfl rfl rfl ?_
      refine rvP C (sS (some c.members.nil) eMember c.members.D) rfl rfl rfl rfl ?_
      refine rvP C (.pv (.lit (.int .i64 (c.members.D.length : Int)))) rfl rfl rfl rfl ?_
      refine rvP C (.pv (.lit (.bool ((l2.D.length : Int) == (c.members.D.length : Int))))) rfl rfl rfl rfl ?_
      refine rvc_nil ?_
      refine Awp.cond (b := ((l2.D.length : Int) == (c.members.D.length : Int))) rfl (fun h31 => ?_) (fun h31 => ?_)
      ·
       replace hR := of_true h31 hR
       refine Awp.cons C (fun _ => .pure) (by kernel_rfl) ?_
       refine rvP C (.agg [.pv (.lit (.int .i64 0)), sS (some true) eMember []]) rfl rfl rfl rfl ?_
       refine rvc_un (rexec_prim C (δ := { v := .undef, wr := [(6, some (.cells [.pv (.lit (.int .i64 0)), sS (some true) eMember []]))] }) rfl rfl rfl rfl trivial rfl ?_)
       refine rvP C (.pv (.lit (.int .i64 81))) rfl rfl rfl rfl ?_
       refine rvc_nil ?_
       refine Awp.ret ?_
       subst hR
       exact ⟨.inl rfl, rfl⟩
      ·
       replace hR := of_false h31 hR
       refine Awp.skip ?_
       refine Awp.seq ?_
       refine Awp.cons C (fun _ => .pure) (by kernel_rfl) ?_
       refine rvP C (sS (some l2.nil) eMember l2.D) rfl rfl rfl rfl ?_
       refine rvP C (.pv (.lit (.int .i64 (l2.D.length : Int)))) rfl rfl rfl rfl ?_
       refine rvP C (.pv (.lit (.bool ((l2.D.length : Int) == 0)))) rfl rfl rfl rfl ?_
       refine rvc_nil ?_
       refine Awp.cond (b := ((l2.D.length : Int) == 0)) rfl (fun h32 => ?_) (fun h32 => ?_)
       ·
        replace hR := of_true h32 hR
        refine Awp.cons C (fun _ => .pure) (by kernel_rfl) ?_
        refine rvP C (.agg [.pv (.lit (.int .i64 0)), sS (some true) eMember []]) rfl rfl rfl rfl ?_
        refine rvc_un (rexec_prim C (δ := { v := .undef, wr := [(6, some (.cells [.pv (.lit (.int .i64 0)), sS (some true) eMember []]))] }) rfl rfl rfl rfl trivial rfl ?_)
        refine rvP C (.pv (.lit (.int .i64 83))) rfl rfl rfl rfl ?_
        refine rvc_nil ?_
        refine Awp.ret ?_
        subst hR
        exact ⟨.inl rfl, rfl⟩
       ·
        replace hR := of_false h32 hR
        refine Awp.skip ?_
        refine Awp.cons C (fun _ => .pure) (by kernel_rfl) ?_
        refine rvP C (.ptr 3 0) rfl rfl rfl rfl ?_
        refine rvP C (.pv (.lit (.int .i64 c.epoch))) rfl rfl rfl rfl ?_
        refine rvP C (.pv (.lit (.int .i64 (IntKind.i64.wrap (c.epoch + 1))))) rfl rfl rfl rfl ?_
        refine rvP C (.agg [.pv (.lit (.int .i64 (IntKind.i64.wrap (c.epoch + 1)))), sS (some true) eMember []]) rfl rfl rfl rfl ?_
        refine rvc_un (rexec_prim C (δ := { v := .ptr 11 0, new := [(11, .cells [.pv (.lit (.int .i64 0)), sS (some true) eMember []])] }) rfl rfl rfl rfl trivial rfl ?_)
        refine rvc_un (rexec_prim C (δ := { v := .undef, wr := [(11, some (.cells [.pv (.lit (.int .i64 (IntKind.i64.wrap (c.epoch + 1)))), sS (some true) eMember []]))] }) rfl rfl rfl rfl trivial rfl ?_)
        refine rvc_nil ?_
        refine Awp.cons C (fun _ => .pure) (by kernel_rfl) ?_
        refine rvP C (sS (some l2.nil) eMember l2.D) rfl rfl rfl rfl ?_
        refine rvP C (.ptr 11 1) rfl rfl rfl rfl ?_
        refine rvc_un (rexec_prim C (δ := { v := .undef, wr := [(11, some (.cells [.pv (.lit (.int .i64 (IntKind.i64.wrap (c.epoch + 1)))), sS (some l2.nil) eMember l2.D]))] }) rfl rfl rfl rfl trivial rfl ?_)
        refine rvc_nil ?_
        refine Awp.cons C (fun _ => .pure) (by kernel_rfl) ?_
        refine rvP C (.agg [.pv (.lit (.int .i64 (IntKind.i64.wrap (c.epoch + 1)))), sS (some l2.nil) eMember l2.D]) rfl rfl rfl rfl ?_
        refine rvc_un (rexec_prim C (δ := { v := .undef, wr := [(6, some (.cells [.pv (.lit (.int .i64 (IntKind.i64.wrap (c.epoch + 1)))), sS (some l2.nil) eMember l2.D]))] }) rfl rfl rfl rfl trivial rfl ?_)
        refine rvP C (.pv (.lit (.int .i64 0))) rfl rfl rfl rfl ?_
        refine rvc_nil ?_
        refine Awp.ret ?_
        subst hR
        exact ⟨.inl rfl, rfl⟩
end Go.Proofs.Ytaffaalpgpepeaa
