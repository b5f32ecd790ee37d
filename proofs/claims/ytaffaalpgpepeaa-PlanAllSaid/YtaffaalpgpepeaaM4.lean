import Derived.Test.YtaffaalpgpepeaaM3
/- More changes of chains. No conditions. -/
namespace Go.Proofs.Ytaffaalpgpepeaa
open Go.Am
def ready (c : Chain) (node : Int) : Chain × Int :=
  (bif ((check c) != 0) then ((Chain.mk 0 (Sl.mk true [])), (check c)) else (bif (decide ((placeIn c node) < 0)) then ((Chain.mk 0 (Sl.mk true [])), 81) else (bif (!(c.members.D[(placeIn c node).toNat]!.fresh)) then ((Chain.mk 0 (Sl.mk true [])), 81) else ((Chain.mk c.epoch (Sl.mk false (c.members.D.set ((placeIn c node).toNat) (Member.mk (c.members.D[(placeIn c node).toNat]!.node) (c.members.D[(placeIn c node).toNat]!.site) false)))), 0))))
theorem ready_calls (c : Chain) (node : Int) (hn : c.members.nil = true → c.members.D = []) (hl1 : c.members.D.length ≤ 1000000) : PCalls Try.prog 63 [.agg [.pv (.lit (.int .i64 c.epoch)), sS (some c.members.nil) eMember c.members.D], .pv (.lit (.int .i64 node))] (.tup [.agg [.pv (.lit (.int .i64 ((ready c node).1.epoch))), sS (some (ready c node).1.members.nil) eMember ((ready c node).1.members.D)], .pv (.lit (.int .i64 ((ready c node).2)))]) := by
 generalize hR : ready c node = R
 refine PCalls.of_body tabOk Try.func63 rfl rfl rfl rfl rfl mixed fun E hP C hI => ?_
 refine Awp.consP C ?_
 refine rvc_un (rexec_prim C (δ := { v := .ptr 2 0, new := [(2, .cells [.pv (.lit (.int .i64 c.epoch)), sS (some c.members.nil) eMember c.members.D])] }) rfl rfl rfl rfl trivial rfl ?_)
 refine rvc_un (rexec_prim C (δ := { v := .ptr 4 0, new := [(4, .cells [.pv (.lit (.int .i64 0)), sS (some true) eMember []])] }) rfl rfl rfl rfl trivial rfl ?_)
 refine rvP C (.pv (.lit (.int .i64 0))) ?_
 refine rvc_nil ?_
 refine Awp.seq ?_
 refine Awp.consP C ?_
 refine rvP C (.agg [.pv (.lit (.int .i64 c.epoch)), sS (some c.members.nil) eMember c.members.D]) ?_
 refine rvc_un (rexec_call hP C rfl rfl rfl (check_calls c (Nat.le_trans hl1 (by decide))) ?_)
 refine rvP C (.pv (.lit (.int .i64 (check c)))) ?_
 refine rvc_nil ?_
 refine Awp.consP C ?_
 refine rvP C (.pv (.lit (.int .i64 (check c)))) ?_
 refine rvP C (.pv (.lit (.bool ((check c) != 0)))) ?_
 refine rvc_nil ?_
 refine Awp.cond (b := ((check c) != 0)) rfl (fun h1 => ?_) (fun h1 => ?_)
 ·
  replace hR := of_true h1 hR
  refine Awp.consP C ?_
  refine rvP C (.agg [.pv (.lit (.int .i64 0)), sS (some true) eMember []]) ?_
  refine rvP C (.pv (.lit (.int .i64 (check c)))) ?_
  refine rvc_un (rexec_prim C (δ := { v := .undef, wr := [(4, some (.cells [.pv (.lit (.int .i64 0)), sS (some true) eMember []]))] }) rfl rfl rfl rfl trivial rfl ?_)
  refine rvP C (.pv (.lit (.int .i64 (check c)))) ?_
  refine rvc_nil ?_
  refine Awp.ret ?_
  subst hR
  exact ⟨.inl rfl, rfl⟩
 ·
  replace hR := of_false h1 hR
  refine Awp.skip ?_
  refine Awp.consP C ?_
  refine rvP C (.agg [.pv (.lit (.int .i64 c.epoch)), sS (some c.members.nil) eMember c.members.D]) ?_
  refine rvP C (.pv (.lit (.int .i64 node))) ?_
  refine rvc_un (rexec_call hP C rfl rfl rfl (placeIn_calls c node (Nat.le_trans hl1 (by decide))) ?_)
  refine rvP C (.pv (.lit (.int .i64 (placeIn c node)))) ?_
  refine rvc_nil ?_
  refine Awp.seq ?_
  refine Awp.consP C ?_
  refine rvP C (.pv (.lit (.int .i64 (placeIn c node)))) ?_
  refine rvP C (.pv (.lit (.bool (decide ((placeIn c node) < 0))))) ?_
  refine rvP C (.pv (.lit (.bool (decide ((placeIn c node) < 0))))) ?_
  refine rvc_case 20 (decide ((placeIn c node) < 0)) rfl (fun h2 => ?_) (fun h2 => ?_)
  ·
   replace hR := of_true h2 hR
   refine rvS ?_
   refine rvS ?_
   refine rvS ?_
   refine rvS ?_
   refine rvS ?_
   refine rvS ?_
   refine rvS ?_
   refine rvP C (.pv (.lit (.bool true))) ?_
   refine rvc_nil ?_
   refine Awp.condT (b := true) rfl rfl ?_
   refine Awp.consP C ?_
   refine rvP C (.agg [.pv (.lit (.int .i64 0)), sS (some true) eMember []]) ?_
   refine rvc_un (rexec_prim C (δ := { v := .undef, wr := [(4, some (.cells [.pv (.lit (.int .i64 0)), sS (some true) eMember []]))] }) rfl rfl rfl rfl trivial rfl ?_)
   refine rvP C (.pv (.lit (.int .i64 81))) ?_
   refine rvc_nil ?_
   refine Awp.ret ?_
   subst hR
   exact ⟨.inl rfl, rfl⟩
  ·
   replace hR := of_false h2 hR
   refine rvO C (.ptr 2 1) ?_
   refine rvO C (sS (some c.members.nil) eMember c.members.D) ?_
   refine rvO C (.pv (.lit (.int .i64 (placeIn c node)))) ?_
   have h3 : c.members.D[(placeIn c node).toNat]? = some c.members.D[(placeIn c node).toNat]! := getE (by have := check_len (c := c); have := check_le6 (c := c); have := placeIn_lt c node; have := eq_of_bne_false h1; have := of_decide_eq_false h2; omega)
   refine rvc_open rfl rfl rfl (rexec_idxS C rfl rfl rfl rfl rfl rfl (c.members.D[(placeIn c node).toNat]!) (by have := check_len (c := c); have := check_le6 (c := c); have := placeIn_lt c node; have := eq_of_bne_false h1; have := of_decide_eq_false h2; omega) h3 ?_)
   refine rvO C (.rp [.lit (.bool (c.members.D[(placeIn c node).toNat]!.fresh))]) ?_
   refine rvO C (.pv (.lit (.bool (c.members.D[(placeIn c node).toNat]!.fresh)))) ?_
   refine rvO C (.pv (.lit (.bool (!(c.members.D[(placeIn c node).toNat]!.fresh))))) ?_
   refine rvP C (.pv (.lit (.bool (!(c.members.D[(placeIn c node).toNat]!.fresh))))) ?_
   refine rvc_nil ?_
   refine Awp.cond (b := (!(c.members.D[(placeIn c node).toNat]!.fresh))) rfl (fun h4 => ?_) (fun h4 => ?_)
   ·
    replace hR := of_true h4 hR
    refine Awp.consP C ?_
    refine rvP C (.agg [.pv (.lit (.int .i64 0)), sS (some true) eMember []]) ?_
    refine rvc_un (rexec_prim C (δ := { v := .undef, wr := [(4, some (.cells [.pv (.lit (.int .i64 0)), sS (some true) eMember []]))] }) rfl rfl rfl rfl trivial rfl ?_)
    refine rvP C (.pv (.lit (.int .i64 81))) ?_
    refine rvc_nil ?_
    refine Awp.ret ?_
    subst hR
    exact ⟨.inl rfl, rfl⟩
   ·
    replace hR := of_false h4 hR
    refine Awp.skip ?_
    refine Awp.cons C (fun _ => .quiet) (by kernel_rfl) ?_
    refine rvP C (.ptr 2 1) ?_
    refine rvP C (sS (some c.members.nil) eMember c.members.D) ?_
    refine rvc_un (rexec_callO hP C rfl rfl rfl rfl (cloneO_calls c.members (nil_false hn (by have := check_len (c := c); have := check_le6 (c := c); have := placeIn_lt c node; have := eq_of_bne_false h1; have := of_decide_eq_false h2; omega)) hl1) ?_)
    refine rvP C (.sl 32 0 c.members.D.length 3 false) ?_
    refine rvc_nil ?_
    refine Awp.consP C ?_
    refine rvP C (.sl 32 0 c.members.D.length 3 false) ?_
    refine rvP C (.pv (.lit (.int .i64 (placeIn c node)))) ?_
    refine rvc_un (rexec_prim C (δ := { v := .ptr 32 (0 + (placeIn c node).toNat * 3) }) rfl rfl rfl rfl ⟨(by have := check_len (c := c); have := check_le6 (c := c); have := placeIn_lt c node; have := eq_of_bne_false h1; have := of_decide_eq_false h2; omega), getlt h3 (by first | rfl | omega | (have := check_len (c := c); have := check_le6 (c := c); have := placeIn_lt c node; have := eq_of_bne_false h1; have := of_decide_eq_false h2; omega)) (by first | rfl | simp)⟩ rfl ?_)
    refine rvP C (.ptr 32 (0 + (placeIn c node).toNat * 3 + 2)) ?_
    refine rvc_un (rexec_storeE C (e := eMember) ((placeIn c node).toNat) 2 (c.members.D[(placeIn c node).toNat]!) (Member.mk (c.members.D[(placeIn c node).toNat]!.node) (c.members.D[(placeIn c node).toNat]!.site) false) rfl rfl rfl rfl h3 (by simp [eMember]) rfl rfl rfl (by decide) rfl ?_)
    refine rvc_nil ?_
    refine Awp.consP C ?_
    refine rvP C (.ptr 2 0) ?_
    refine rvP C (.pv (.lit (.int .i64 c.epoch))) ?_
    refine rvP C (.sl 32 0 c.members.D.length 3 false) ?_
    refine rvP C (.agg [.pv (.lit (.int .i64 c.epoch)), .sl 32 0 c.members.D.length 3 false]) ?_
    refine rvc_un (rexec_prim C (δ := { v := .undef, wr := [(4, some (.cells [.pv (.lit (.int .i64 c.epoch)), .sl 32 0 c.members.D.length 3 false]))] }) rfl rfl rfl rfl trivial rfl ?_)
    refine rvP C (.pv (.lit (.int .i64 0))) ?_
    refine rvc_nil ?_
    refine Awp.freezeW 32 (encL eMember (c.members.D.set ((placeIn c node).toNat) (Member.mk (c.members.D[(placeIn c node).toNat]!.node) (c.members.D[(placeIn c node).toNat]!.site) false))) ?_ [(4, .ptr 4 0), (5, .pv (.lit (.int .i64 0)))] [(2, .cells [.pv (.lit (.int .i64 c.epoch)), sS (some c.members.nil) eMember c.members.D]), (4, .cells [.pv (.lit (.int .i64 c.epoch)), sS (some false) eMember (c.members.D.set ((placeIn c node).toNat) (Member.mk (c.members.D[(placeIn c node).toNat]!.node) (c.members.D[(placeIn c node).toNat]!.site) false))])] ?_ ?_ ?_
    · rfl
    · exact ⟨⟨_, rfl, .inl (.inl rfl)⟩, ⟨_, rfl, .inl (.inl rfl)⟩, trivial⟩
    · exact ⟨⟨(by show (2 : Nat) ≠ 32; decide), .inl rfl⟩, ⟨(by show (4 : Nat) ≠ 32; decide), .inr ⟨_, _, rfl, rfl, ⟨.inl rfl, .inr ⟨_, _, _, rfl, by simp [sS]⟩, trivial⟩⟩⟩, trivial⟩
    refine Awp.ret ?_
    subst hR
    exact ⟨.inl rfl, rfl⟩
def rJoin_l0 (c : Chain) (m : Member) : List Member → Nat → Bool → (List Member) → Chain × Int
  | [], _, put, vc => (bif (!put) then ((Chain.mk (IntKind.i64.wrap (c.epoch + 1)) (Sl.mk false (vc ++ [(Member.mk m.node m.site true)]))), 0) else ((Chain.mk (IntKind.i64.wrap (c.epoch + 1)) (Sl.mk vc.isEmpty vc)), 0))
  | x :: xs, i, put, vc => (bif (decide (x.site > m.site)) then (bif (!put) then rJoin_l0 c m xs (i + 1) true ((vc ++ [(Member.mk m.node m.site true)]) ++ [x]) else rJoin_l0 c m xs (i + 1) put (vc ++ [x])) else rJoin_l0 c m xs (i + 1) put (vc ++ [x]))
def rJoin (c : Chain) (m : Member) : Chain × Int :=
  (bif ((rCheck c) != 0) then ((Chain.mk 0 (Sl.mk true [])), 80) else (bif (decide (m.node < 0)) then ((Chain.mk 0 (Sl.mk true [])), 81) else (bif (decide (m.node > 5)) then ((Chain.mk 0 (Sl.mk true [])), 81) else (bif (decide (m.site < 0)) then ((Chain.mk 0 (Sl.mk true [])), 81) else (bif (decide (m.site > 2)) then ((Chain.mk 0 (Sl.mk true [])), 81) else (bif (decide ((rPlace c m.node) ≥ 0)) then ((Chain.mk 0 (Sl.mk true [])), 82) else (bif (c.epoch == 1099511627776) then ((Chain.mk 0 (Sl.mk true [])), 5) else (bif (decide ((c.members.D[0]!.site) > m.site)) then ((Chain.mk 0 (Sl.mk true [])), 152) else rJoin_l0 c m c.members.D 0 false []))))))))
theorem rJoin_calls (c : Chain) (m : Member) (hl1 : c.members.D.length ≤ 1000000) : PCalls Try.prog 43 [.agg [.pv (.lit (.int .i64 c.epoch)), sS (some c.members.nil) eMember c.members.D], .agg [.pv (.lit (.int .i64 m.node)), .pv (.lit (.int .i64 m.site)), .pv (.lit (.bool m.fresh))]] (.tup [.agg [.pv (.lit (.int .i64 ((rJoin c m).1.epoch))), sS (some (rJoin c m).1.members.nil) eMember ((rJoin c m).1.members.D)], .pv (.lit (.int .i64 ((rJoin c m).2)))]) := by
 generalize hR : rJoin c m = R
 refine PCalls.of_body tabOk Try.func43 rfl rfl rfl rfl rfl mixed fun E hP C hI => ?_
 refine Awp.consP C ?_
 refine rvc_un (rexec_prim C (δ := { v := .ptr 2 0, new := [(2, .cells [.pv (.lit (.int .i64 c.epoch)), sS (some c.members.nil) eMember c.members.D])] }) rfl rfl rfl rfl trivial rfl ?_)
 refine rvc_un (rexec_prim C (δ := { v := .ptr 3 0, new := [(3, .cells [.pv (.lit (.int .i64 m.node)), .pv (.lit (.int .i64 m.site)), .pv (.lit (.bool m.fresh))])] }) rfl rfl rfl rfl trivial rfl ?_)
 refine rvc_un (rexec_prim C (δ := { v := .ptr 4 0, new := [(4, .cells [.pv (.lit (.int .i64 0)), sS (some true) eMember []])] }) rfl rfl rfl rfl trivial rfl ?_)
 refine rvP C (.pv (.lit (.int .i64 0))) ?_
 refine rvc_nil ?_
 refine Awp.seq ?_
 refine Awp.consP C ?_
 refine rvP C (.agg [.pv (.lit (.int .i64 c.epoch)), sS (some c.members.nil) eMember c.members.D]) ?_
 refine rvc_un (rexec_call hP C rfl rfl rfl (rCheck_calls c (Nat.le_trans hl1 (by decide))) ?_)
 refine rvP C (.pv (.lit (.bool ((rCheck c) != 0)))) ?_
 refine rvc_nil ?_
 refine Awp.cond (b := ((rCheck c) != 0)) rfl (fun h1 => ?_) (fun h1 => ?_)
 ·
  replace hR := of_true h1 hR
  refine Awp.consP C ?_
  refine rvP C (.agg [.pv (.lit (.int .i64 0)), sS (some true) eMember []]) ?_
  refine rvc_un (rexec_prim C (δ := { v := .undef, wr := [(4, some (.cells [.pv (.lit (.int .i64 0)), sS (some true) eMember []]))] }) rfl rfl rfl rfl trivial rfl ?_)
  refine rvP C (.pv (.lit (.int .i64 80))) ?_
  refine rvc_nil ?_
  refine Awp.ret ?_
  subst hR
  exact ⟨.inl rfl, rfl⟩
 ·
  replace hR := of_false h1 hR
  refine Awp.skip ?_
  refine Awp.seq ?_
  refine Awp.consP C ?_
  refine rvP C (.ptr 3 0) ?_
  refine rvP C (.pv (.lit (.int .i64 m.node))) ?_
  refine rvP C (.pv (.lit (.bool (decide (m.node < 0))))) ?_
  refine rvP C (.pv (.lit (.bool (decide (m.node < 0))))) ?_
  refine rvc_case 17 (decide (m.node < 0)) rfl (fun h2 => ?_) (fun h2 => ?_)
  ·
   replace hR := of_true h2 hR
   refine rvS ?_
   refine rvS ?_
   refine rvS ?_
   refine rvP C (.pv (.lit (.bool true))) ?_
   refine rvP C (.pv (.lit (.bool true))) ?_
   refine rvS ?_
   refine rvS ?_
   refine rvS ?_
   refine rvP C (.pv (.lit (.bool true))) ?_
   refine rvP C (.pv (.lit (.bool true))) ?_
   refine rvS ?_
   refine rvS ?_
   refine rvS ?_
   refine rvP C (.pv (.lit (.bool true))) ?_
   refine rvc_nil ?_
   refine Awp.condT (b := true) rfl rfl ?_
   refine Awp.consP C ?_
   refine rvP C (.agg [.pv (.lit (.int .i64 0)), sS (some true) eMember []]) ?_
   refine rvc_un (rexec_prim C (δ := { v := .undef, wr := [(4, some (.cells [.pv (.lit (.int .i64 0)), sS (some true) eMember []]))] }) rfl rfl rfl rfl trivial rfl ?_)
   refine rvP C (.pv (.lit (.int .i64 81))) ?_
   refine rvc_nil ?_
   refine Awp.ret ?_
   subst hR
   exact ⟨.inl rfl, rfl⟩
  ·
   replace hR := of_false h2 hR
   refine rvO C (.ptr 3 0) ?_
   refine rvO C (.pv (.lit (.int .i64 m.node))) ?_
   refine rvO C (.pv (.lit (.bool (decide (m.node > 5))))) ?_
   refine rvP C (.pv (.lit (.bool (decide (m.node > 5))))) ?_
   refine rvP C (.pv (.lit (.bool (decide (m.node > 5))))) ?_
   refine rvc_case 22 (decide (m.node > 5)) rfl (fun h3 => ?_) (fun h3 => ?_)
   ·
    replace hR := of_true h3 hR
    refine rvS ?_
    refine rvS ?_
    refine rvS ?_
    refine rvP C (.pv (.lit (.bool true))) ?_
    refine rvP C (.pv (.lit (.bool true))) ?_
    refine rvS ?_
    refine rvS ?_
    refine rvS ?_
    refine rvP C (.pv (.lit (.bool true))) ?_
    refine rvc_nil ?_
    refine Awp.condT (b := true) rfl rfl ?_
    refine Awp.consP C ?_
    refine rvP C (.agg [.pv (.lit (.int .i64 0)), sS (some true) eMember []]) ?_
    refine rvc_un (rexec_prim C (δ := { v := .undef, wr := [(4, some (.cells [.pv (.lit (.int .i64 0)), sS (some true) eMember []]))] }) rfl rfl rfl rfl trivial rfl ?_)
    refine rvP C (.pv (.lit (.int .i64 81))) ?_
    refine rvc_nil ?_
    refine Awp.ret ?_
    subst hR
    exact ⟨.inl rfl, rfl⟩
   ·
    replace hR := of_false h3 hR
    refine rvO C (.ptr 3 1) ?_
    refine rvO C (.pv (.lit (.int .i64 m.site))) ?_
    refine rvO C (.pv (.lit (.bool (decide (m.site < 0))))) ?_
    refine rvP C (.pv (.lit (.bool (decide (m.site < 0))))) ?_
    refine rvP C (.pv (.lit (.bool (decide (m.site < 0))))) ?_
    refine rvc_case 27 (decide (m.site < 0)) rfl (fun h4 => ?_) (fun h4 => ?_)
    ·
     replace hR := of_true h4 hR
     refine rvS ?_
     refine rvS ?_
     refine rvS ?_
     refine rvP C (.pv (.lit (.bool true))) ?_
     refine rvc_nil ?_
     refine Awp.condT (b := true) rfl rfl ?_
     refine Awp.consP C ?_
     refine rvP C (.agg [.pv (.lit (.int .i64 0)), sS (some true) eMember []]) ?_
     refine rvc_un (rexec_prim C (δ := { v := .undef, wr := [(4, some (.cells [.pv (.lit (.int .i64 0)), sS (some true) eMember []]))] }) rfl rfl rfl rfl trivial rfl ?_)
     refine rvP C (.pv (.lit (.int .i64 81))) ?_
     refine rvc_nil ?_
     refine Awp.ret ?_
     subst hR
     exact ⟨.inl rfl, rfl⟩
    ·
     replace hR := of_false h4 hR
     refine rvO C (.ptr 3 1) ?_
     refine rvO C (.pv (.lit (.int .i64 m.site))) ?_
     refine rvO C (.pv (.lit (.bool (decide (m.site > 2))))) ?_
     refine rvP C (.pv (.lit (.bool (decide (m.site > 2))))) ?_
     refine rvc_nil ?_
     refine Awp.cond (b := (decide (m.site > 2))) rfl (fun h5 => ?_) (fun h5 => ?_)
     ·
      replace hR := of_true h5 hR
      refine Awp.consP C ?_
      refine rvP C (.agg [.pv (.lit (.int .i64 0)), sS (some true) eMember []]) ?_
      refine rvc_un (rexec_prim C (δ := { v := .undef, wr := [(4, some (.cells [.pv (.lit (.int .i64 0)), sS (some true) eMember []]))] }) rfl rfl rfl rfl trivial rfl ?_)
      refine rvP C (.pv (.lit (.int .i64 81))) ?_
      refine rvc_nil ?_
      refine Awp.ret ?_
      subst hR
      exact ⟨.inl rfl, rfl⟩
     ·
      replace hR := of_false h5 hR
      refine Awp.skip ?_
      refine Awp.seq ?_
      refine Awp.consP C ?_
      refine rvP C (.agg [.pv (.lit (.int .i64 c.epoch)), sS (some c.members.nil) eMember c.members.D]) ?_
      refine rvP C (.ptr 3 0) ?_
      refine rvP C (.pv (.lit (.int .i64 m.node))) ?_
      refine rvc_un (rexec_call hP C rfl rfl rfl (rPlace_calls c m.node (Nat.le_trans hl1 (by decide))) ?_)
      refine rvP C (.pv (.lit (.bool (decide ((rPlace c m.node) ≥ 0))))) ?_
      refine rvc_nil ?_
      refine Awp.cond (b := (decide ((rPlace c m.node) ≥ 0))) rfl (fun h6 => ?_) (fun h6 => ?_)
      ·
       replace hR := of_true h6 hR
       refine Awp.consP C ?_
       refine rvP C (.agg [.pv (.lit (.int .i64 0)), sS (some true) eMember []]) ?_
       refine rvc_un (rexec_prim C (δ := { v := .undef, wr := [(4, some (.cells [.pv (.lit (.int .i64 0)), sS (some true) eMember []]))] }) rfl rfl rfl rfl trivial rfl ?_)
       refine rvP C (.pv (.lit (.int .i64 82))) ?_
       refine rvc_nil ?_
       refine Awp.ret ?_
       subst hR
       exact ⟨.inl rfl, rfl⟩
      ·
       replace hR := of_false h6 hR
       refine Awp.skip ?_
       refine Awp.seq ?_
       refine Awp.consP C ?_
       refine rvP C (.ptr 2 0) ?_
       refine rvP C (.pv (.lit (.int .i64 c.epoch))) ?_
       refine rvP C (.pv (.lit (.bool (c.epoch == 1099511627776)))) ?_
       refine rvc_nil ?_
       refine Awp.cond (b := (c.epoch == 1099511627776)) rfl (fun h7 => ?_) (fun h7 => ?_)
       ·
        replace hR := of_true h7 hR
        refine Awp.consP C ?_
        refine rvP C (.agg [.pv (.lit (.int .i64 0)), sS (some true) eMember []]) ?_
        refine rvc_un (rexec_prim C (δ := { v := .undef, wr := [(4, some (.cells [.pv (.lit (.int .i64 0)), sS (some true) eMember []]))] }) rfl rfl rfl rfl trivial rfl ?_)
        refine rvP C (.pv (.lit (.int .i64 5))) ?_
        refine rvc_nil ?_
        refine Awp.ret ?_
        subst hR
        exact ⟨.inl rfl, rfl⟩
       ·
        replace hR := of_false h7 hR
        refine Awp.skip ?_
        refine Awp.seq ?_
        refine Awp.consP C ?_
        refine rvP C (.ptr 2 1) ?_
        refine rvP C (sS (some c.members.nil) eMember c.members.D) ?_
        have h8 : c.members.D[0]? = some c.members.D[0]! := getE (by have := check_r (c := c); have := rCheck_le6 (c := c); have := rPlace_lt c m.node; have := eq_of_bne_false h1; have := of_decide_eq_false h2; have := of_decide_eq_false h3; have := of_decide_eq_false h4; have := of_decide_eq_false h5; have := of_decide_eq_false h6; have := ne_of_beq_false h7; omega)
        refine rvc_un (rexec_idxS C rfl rfl rfl rfl rfl rfl (c.members.D[0]!) (Int.natCast_nonneg _) h8 ?_)
        refine rvP C (.rp [.lit (.int .i64 (c.members.D[0]!.site))]) ?_
        refine rvP C (.pv (.lit (.int .i64 (c.members.D[0]!.site)))) ?_
        refine rvP C (.ptr 3 1) ?_
        refine rvP C (.pv (.lit (.int .i64 m.site))) ?_
        refine rvP C (.pv (.lit (.bool (decide ((c.members.D[0]!.site) > m.site))))) ?_
        refine rvc_nil ?_
        refine Awp.cond (b := (decide ((c.members.D[0]!.site) > m.site))) rfl (fun h9 => ?_) (fun h9 => ?_)
        ·
         replace hR := of_true h9 hR
         refine Awp.consP C ?_
         refine rvP C (.agg [.pv (.lit (.int .i64 0)), sS (some true) eMember []]) ?_
         refine rvc_un (rexec_prim C (δ := { v := .undef, wr := [(4, some (.cells [.pv (.lit (.int .i64 0)), sS (some true) eMember []]))] }) rfl rfl rfl rfl trivial rfl ?_)
         refine rvP C (.pv (.lit (.int .i64 152))) ?_
         refine rvc_nil ?_
         refine Awp.ret ?_
         subst hR
         exact ⟨.inl rfl, rfl⟩
        ·
         replace hR := of_false h9 hR
         refine Awp.skip ?_
         refine Awp.consP C ?_
         refine rvP C (.ptr 2 0) ?_
         refine rvP C (.pv (.lit (.int .i64 c.epoch))) ?_
         refine rvP C (.pv (.lit (.int .i64 (IntKind.i64.wrap (c.epoch + 1))))) ?_
         refine rvP C (.agg [.pv (.lit (.int .i64 (IntKind.i64.wrap (c.epoch + 1)))), sS (some true) eMember []]) ?_
         refine rvc_un (rexec_prim C (δ := { v := .ptr 6 0, new := [(6, .cells [.pv (.lit (.int .i64 0)), sS (some true) eMember []])] }) rfl rfl rfl rfl trivial rfl ?_)
         refine rvc_un (rexec_prim C (δ := { v := .undef, wr := [(6, some (.cells [.pv (.lit (.int .i64 (IntKind.i64.wrap (c.epoch + 1)))), sS (some true) eMember []]))] }) rfl rfl rfl rfl trivial rfl ?_)
         refine rvc_nil ?_
         refine Awp.consP C ?_
         refine rvP C (.pv (.lit (.bool false))) ?_
         refine rvc_nil ?_
         refine Awp.seq ?_
         refine Awp.consP C ?_
         refine rvP C (.ptr 2 1) ?_
         refine rvP C (sS (some c.members.nil) eMember c.members.D) ?_
         refine rvP C (.pv (.lit (.int .i64 (c.members.D.length : Int)))) ?_
         refine rvP C (.pv (.lit (.int .i64 0))) ?_
         refine rvc_nil ?_
         refine Awp.block ?_
         refine Awp.forR (σ := Bool × ((List Member))) (c.members.D.length) (fun i v => [(3, .ptr 3 0), (4, .ptr 4 0), (6, .ptr 6 0), (7, .pv (.lit (.bool v.1))), (57, sS (some c.members.nil) eMember c.members.D), (58, .pv (.lit (.int .i64 (c.members.D.length : Int)))), (59, .pv (.lit (.int .i64 (i : Int))))]) (fun i v => (growH 900 eMember v.2 ++ ([(3, .cells [.pv (.lit (.int .i64 m.node)), .pv (.lit (.int .i64 m.site)), .pv (.lit (.bool m.fresh))]), (4, .cells [.pv (.lit (.int .i64 0)), sS (some true) eMember []]), (6, .cells [.pv (.lit (.int .i64 (IntKind.i64.wrap (c.epoch + 1)))), grow 900 eMember v.2])]))) [3, 4, 6, 900] (fun i v => (rJoin_l0 c m (c.members.D.drop i) i v.1 v.2 = R) ∧ (v.2.length ≤ 2 * i)) (false, []) ?_ ?_ (fun i v h10 hR => ?_)
         · exact ⟨hR, (by first | omega | (simp <;> omega))⟩
         · exact ⟨fun b => b, WeakerR.ofL (Ks := [3, 4, 6, 900]) hI ⟨⟨rfl, rfl⟩, ⟨rfl, rfl⟩, ⟨rfl, rfl⟩, ⟨rfl, rfl⟩, ⟨rfl, rfl⟩, ⟨rfl, rfl⟩, ⟨rfl, rfl⟩, trivial⟩ (okH_grow (fun hne => absurd rfl hne) rfl rfl (okH_cons rfl rfl rfl rfl (okH_cons rfl rfl rfl rfl (okH_cons (cellsTo rfl (by exact ⟨rfl, grow_to_nil rfl rfl (.inl rfl), trivial⟩)) rfl rfl (win_cells (by exact ⟨rfl, grow_within rfl, trivial⟩)) (okH_nil))))) rfl⟩
         obtain ⟨put, vc⟩ := v
         obtain ⟨hR, hi_vc⟩ := hR
         replace hi_vc : vc.length ≤ 2 * i := hi_vc
         by_cases h11 : vc = []
         ·
          refine Awp.wordsR [(3, .ptr 3 0), (4, .ptr 4 0), (6, .ptr 6 0), (7, .pv (.lit (.bool put))), (57, sS (some c.members.nil) eMember c.members.D), (58, .pv (.lit (.int .i64 (c.members.D.length : Int)))), (59, .pv (.lit (.int .i64 (i : Int))))] [(3, .cells [.pv (.lit (.int .i64 m.node)), .pv (.lit (.int .i64 m.site)), .pv (.lit (.bool m.fresh))]), (4, .cells [.pv (.lit (.int .i64 0)), sS (some true) eMember []]), (6, .cells [.pv (.lit (.int .i64 (IntKind.i64.wrap (c.epoch + 1)))), sS (some vc.isEmpty) eMember vc])] [3, 4, 6] (WeakerR.ofL (Ks := [3, 4, 6]) hI ⟨⟨rfl, rfl⟩, ⟨rfl, rfl⟩, ⟨rfl, rfl⟩, ⟨rfl, rfl⟩, ⟨rfl, rfl⟩, ⟨rfl, rfl⟩, ⟨rfl, rfl⟩, trivial⟩ (okH_cons (look_nil h11 rfl) rfl rfl rfl (okH_cons (look_nil h11 rfl) rfl rfl rfl (okH_cons (cellsTo (look_nil h11 rfl) (by exact ⟨rfl, (by exact grow_at_nil (b := 900) (e := eMember) (l := vc) rfl h11), trivial⟩)) rfl rfl (win_cells (by exact ⟨rfl, rfl, trivial⟩)) (okH_nil)))) rfl) ?_
          refine Awp.consP C ?_
          refine rvP C (.pv (.lit (.bool (decide ((i : Int) < (c.members.D.length : Int)))))) ?_
          refine rvc_nil ?_
          refine Awp.seq ?_
          refine Awp.cond (b := (decide ((i : Int) < (c.members.D.length : Int)))) rfl (fun h12 => ?_) (fun h12 => ?_)
          ·
           have h13 : i < c.members.D.length := by have := of_decide_eq_true h12; omega
           obtain ⟨x, h14⟩ := getX h13
           rw [drop_at h14] at hR
           refine Awp.skip ?_
           refine Awp.seq ?_
           refine Awp.block ?_
           refine Awp.consP C ?_
           refine rvc_un (rexec_idxS C rfl rfl rfl rfl rfl rfl x (Int.natCast_nonneg _) h14 ?_)
           refine rvP C (.agg [.pv (.lit (.int .i64 x.node)), .pv (.lit (.int .i64 x.site)), .pv (.lit (.bool x.fresh))]) ?_
           refine rvc_un (rexec_prim C (δ := { v := .ptr 9 0, new := [(9, .cells [.pv (.lit (.int .i64 0)), .pv (.lit (.int .i64 0)), .pv (.lit (.bool false))])] }) rfl rfl rfl rfl trivial rfl ?_)
           refine rvc_un (rexec_prim C (δ := { v := .undef, wr := [(9, some (.cells [.pv (.lit (.int .i64 x.node)), .pv (.lit (.int .i64 x.site)), .pv (.lit (.bool x.fresh))]))] }) rfl rfl rfl rfl trivial rfl ?_)
           refine rvc_nil ?_
           refine Awp.seq ?_
           refine Awp.consP C ?_
           refine rvP C (.ptr 9 1) ?_
           refine rvP C (.pv (.lit (.int .i64 x.site))) ?_
           refine rvP C (.ptr 3 1) ?_
           refine rvP C (.pv (.lit (.int .i64 m.site))) ?_
           refine rvP C (.pv (.lit (.bool (decide (x.site > m.site))))) ?_
           refine rvP C (.pv (.lit (.bool (decide (x.site > m.site))))) ?_
           refine rvc_case 68 (decide (x.site > m.site)) rfl (fun h15 => ?_) (fun h15 => ?_)
           ·
            replace hR := of_true h15 hR
            refine rvO C (.pv (.lit (.bool put))) ?_
            refine rvO C (.pv (.lit (.bool (!put)))) ?_
            refine rvP C (.pv (.lit (.bool (!put)))) ?_
            refine rvc_nil ?_
            refine Awp.cond (b := (!put)) rfl (fun h16 => ?_) (fun h16 => ?_)
            ·
             replace hR := of_true h16 hR
             refine Awp.consP C ?_
             refine rvP C (.ptr 6 1) ?_
             refine rvP C (sS (some vc.isEmpty) eMember vc) ?_
             refine rvP C (.ptr 3 0) ?_
             refine rvP C (.pv (.lit (.int .i64 m.node))) ?_
             refine rvP C (.ptr 3 1) ?_
             refine rvP C (.pv (.lit (.int .i64 m.site))) ?_
             refine rvP C (.agg [.pv (.lit (.int .i64 m.node)), .pv (.lit (.int .i64 m.site)), .pv (.lit (.bool true))]) ?_
             refine rvc_un (rexec_buildSliceF C eMember [(Member.mk m.node m.site true)] rfl rfl rfl rfl rfl rfl rfl (by decide) rfl ?_)
             refine rvc_un (rexec_appendG C rfl rfl rfl rfl rfl rfl rfl rfl (fun _ h => by cases h) rfl (en := eMember) (l := vc) (D := [(Member.mk m.node m.site true)]) rfl rfl h11 (by rw [h11]; rfl) (by simp) (by have := check_r (c := c); have := rCheck_le6 (c := c); have := rPlace_lt c m.node; have := eq_of_bne_false h1; have := of_decide_eq_false h2; have := of_decide_eq_false h3; have := of_decide_eq_false h4; have := of_decide_eq_false h5; have := of_decide_eq_false h6; have := ne_of_beq_false h7; have := of_decide_eq_false h9; have := of_decide_eq_true h12; have := of_decide_eq_true h15; first | omega | (simp <;> omega)) (by decide) (nn := (vc ++ [(Member.mk m.node m.site true)]).length) (by simp) ?_)
             refine rvP C (.ptr 6 1) ?_
             refine rvc_un (rexec_prim C (δ := { v := .undef, wr := [(6, some (.cells [.pv (.lit (.int .i64 (IntKind.i64.wrap (c.epoch + 1)))), .sl 80 0 ((vc ++ [(Member.mk m.node m.site true)]).length) 3 false]))] }) rfl rfl rfl rfl trivial rfl ?_)
             refine rvc_nil ?_
             refine Awp.regionP C ?_
             refine rvP C (.pv (.lit (.bool true))) ?_
             refine rvc_nil ?_
             refine Awp.regionP C ?_
             refine rvP C (.ptr 6 1) ?_
             refine rvP C (.sl 80 0 ((vc ++ [(Member.mk m.node m.site true)]).length) 3 false) ?_
             refine rvP C (.agg [.pv (.lit (.int .i64 x.node)), .pv (.lit (.int .i64 x.site)), .pv (.lit (.bool x.fresh))]) ?_
             refine rvc_un (rexec_buildSliceF C eMember [x] rfl rfl rfl rfl rfl rfl rfl (by decide) rfl ?_)
             refine rvc_un (rexec_append C rfl rfl rfl rfl rfl rfl rfl rfl (fun _ h => by cases h) rfl (en := eMember) (D0 := (vc ++ [(Member.mk m.node m.site true)])) (D := [x]) rfl rfl rfl rfl (by have := check_r (c := c); have := rCheck_le6 (c := c); have := rPlace_lt c m.node; have := eq_of_bne_false h1; have := of_decide_eq_false h2; have := of_decide_eq_false h3; have := of_decide_eq_false h4; have := of_decide_eq_false h5; have := of_decide_eq_false h6; have := ne_of_beq_false h7; have := of_decide_eq_false h9; have := of_decide_eq_true h12; have := of_decide_eq_true h15; first | omega | (simp <;> omega)) (by decide) (nn := ((vc ++ [(Member.mk m.node m.site true)]) ++ [x]).length) (by simp) ?_)
             refine rvP C (.ptr 6 1) ?_
             refine rvc_un (rexec_prim C (δ := { v := .undef, wr := [(6, some (.cells [.pv (.lit (.int .i64 (IntKind.i64.wrap (c.epoch + 1)))), .sl 86 0 (((vc ++ [(Member.mk m.node m.site true)]) ++ [x]).length) 3 false]))] }) rfl rfl rfl rfl trivial rfl ?_)
             refine rvc_nil ?_
             refine Awp.regionP C ?_
             refine rvP C (.pv (.lit (.int .i64 (IntKind.i64.wrap ((i : Int) + 1))))) ?_
             refine rvP C (.pv (.lit (.int .i64 (IntKind.i64.wrap ((i : Int) + 1))))) ?_
             refine rvc_nil ?_
             refine ⟨h13, (true, ((vc ++ [(Member.mk m.node m.site true)]) ++ [x])), ?_, ?_⟩
             · exact ⟨hR, (by first | omega | (simp <;> omega))⟩
             · exact ⟨fun b => bif b == 900 then 86 else (fun b => b) b, WeakerR.ofL (Ks := [3, 4, 6, 900]) hI ⟨⟨rfl, rfl⟩, ⟨rfl, rfl⟩, ⟨rfl, rfl⟩, ⟨rfl, rfl⟩, ⟨rfl, rfl⟩, ⟨rfl, rfl⟩, ⟨lit_cast (wrap_i64 (by omega) (by omega)), rfl⟩, trivial⟩ (okH_grow (fun _ => rfl) rfl rfl (okH_cons rfl rfl rfl rfl (okH_cons rfl rfl rfl rfl (okH_cons (cellsTo rfl (by exact ⟨rfl, grow_to rfl rfl app_ne rfl rfl, trivial⟩)) rfl rfl (win_cells (by exact ⟨rfl, grow_within rfl, trivial⟩)) (okH_nil))))) rfl⟩
            ·
             replace hR := of_false h16 hR
             refine Awp.skip ?_
             refine Awp.regionP C ?_
             refine rvP C (.ptr 6 1) ?_
             refine rvP C (sS (some vc.isEmpty) eMember vc) ?_
             refine rvP C (.agg [.pv (.lit (.int .i64 x.node)), .pv (.lit (.int .i64 x.site)), .pv (.lit (.bool x.fresh))]) ?_
             refine rvc_un (rexec_buildSliceF C eMember [x] rfl rfl rfl rfl rfl rfl rfl (by decide) rfl ?_)
             refine rvc_un (rexec_appendG C rfl rfl rfl rfl rfl rfl rfl rfl (fun _ h => by cases h) rfl (en := eMember) (l := vc) (D := [x]) rfl rfl h11 (by rw [h11]; rfl) (by simp) (by have := check_r (c := c); have := rCheck_le6 (c := c); have := rPlace_lt c m.node; have := eq_of_bne_false h1; have := of_decide_eq_false h2; have := of_decide_eq_false h3; have := of_decide_eq_false h4; have := of_decide_eq_false h5; have := of_decide_eq_false h6; have := ne_of_beq_false h7; have := of_decide_eq_false h9; have := of_decide_eq_true h12; have := of_decide_eq_true h15; first | omega | (simp <;> omega)) (by decide) (nn := (vc ++ [x]).length) (by simp) ?_)
             refine rvP C (.ptr 6 1) ?_
             refine rvc_un (rexec_prim C (δ := { v := .undef, wr := [(6, some (.cells [.pv (.lit (.int .i64 (IntKind.i64.wrap (c.epoch + 1)))), .sl 86 0 ((vc ++ [x]).length) 3 false]))] }) rfl rfl rfl rfl trivial rfl ?_)
             refine rvc_nil ?_
             refine Awp.regionP C ?_
             refine rvP C (.pv (.lit (.int .i64 (IntKind.i64.wrap ((i : Int) + 1))))) ?_
             refine rvP C (.pv (.lit (.int .i64 (IntKind.i64.wrap ((i : Int) + 1))))) ?_
             refine rvc_nil ?_
             refine ⟨h13, (put, (vc ++ [x])), ?_, ?_⟩
             · exact ⟨hR, (by first | omega | (simp <;> omega))⟩
             · exact ⟨fun b => bif b == 900 then 86 else (fun b => b) b, WeakerR.ofL (Ks := [3, 4, 6, 900]) hI ⟨⟨rfl, rfl⟩, ⟨rfl, rfl⟩, ⟨rfl, rfl⟩, ⟨rfl, rfl⟩, ⟨rfl, rfl⟩, ⟨rfl, rfl⟩, ⟨lit_cast (wrap_i64 (by omega) (by omega)), rfl⟩, trivial⟩ (okH_grow (fun _ => rfl) rfl rfl (okH_cons rfl rfl rfl rfl (okH_cons rfl rfl rfl rfl (okH_cons (cellsTo rfl (by exact ⟨rfl, grow_to rfl rfl app_ne rfl rfl, trivial⟩)) rfl rfl (win_cells (by exact ⟨rfl, grow_within rfl, trivial⟩)) (okH_nil))))) rfl⟩
           ·
            replace hR := of_false h15 hR
            refine rvS ?_
            refine rvS ?_
            refine rvP C (.pv (.lit (.bool false))) ?_
            refine rvc_nil ?_
            refine Awp.condF (b := false) rfl rfl ?_
            refine Awp.skip ?_
            refine Awp.regionP C ?_
            refine rvP C (.ptr 6 1) ?_
            refine rvP C (sS (some vc.isEmpty) eMember vc) ?_
            refine rvP C (.agg [.pv (.lit (.int .i64 x.node)), .pv (.lit (.int .i64 x.site)), .pv (.lit (.bool x.fresh))]) ?_
            refine rvc_un (rexec_buildSliceF C eMember [x] rfl rfl rfl rfl rfl rfl rfl (by decide) rfl ?_)
            refine rvc_un (rexec_appendG C rfl rfl rfl rfl rfl rfl rfl rfl (fun _ h => by cases h) rfl (en := eMember) (l := vc) (D := [x]) rfl rfl h11 (by rw [h11]; rfl) (by simp) (by have := check_r (c := c); have := rCheck_le6 (c := c); have := rPlace_lt c m.node; have := eq_of_bne_false h1; have := of_decide_eq_false h2; have := of_decide_eq_false h3; have := of_decide_eq_false h4; have := of_decide_eq_false h5; have := of_decide_eq_false h6; have := ne_of_beq_false h7; have := of_decide_eq_false h9; have := of_decide_eq_true h12; have := of_decide_eq_false h15; first | omega | (simp <;> omega)) (by decide) (nn := (vc ++ [x]).length) (by simp) ?_)
            refine rvP C (.ptr 6 1) ?_
            refine rvc_un (rexec_prim C (δ := { v := .undef, wr := [(6, some (.cells [.pv (.lit (.int .i64 (IntKind.i64.wrap (c.epoch + 1)))), .sl 86 0 ((vc ++ [x]).length) 3 false]))] }) rfl rfl rfl rfl trivial rfl ?_)
            refine rvc_nil ?_
            refine Awp.regionP C ?_
            refine rvP C (.pv (.lit (.int .i64 (IntKind.i64.wrap ((i : Int) + 1))))) ?_
            refine rvP C (.pv (.lit (.int .i64 (IntKind.i64.wrap ((i : Int) + 1))))) ?_
            refine rvc_nil ?_
            refine ⟨h13, (put, (vc ++ [x])), ?_, ?_⟩
            · exact ⟨hR, (by first | omega | (simp <;> omega))⟩
            · exact ⟨fun b => bif b == 900 then 86 else (fun b => b) b, WeakerR.ofL (Ks := [3, 4, 6, 900]) hI ⟨⟨rfl, rfl⟩, ⟨rfl, rfl⟩, ⟨rfl, rfl⟩, ⟨rfl, rfl⟩, ⟨rfl, rfl⟩, ⟨rfl, rfl⟩, ⟨lit_cast (wrap_i64 (by omega) (by omega)), rfl⟩, trivial⟩ (okH_grow (fun _ => rfl) rfl rfl (okH_cons rfl rfl rfl rfl (okH_cons rfl rfl rfl rfl (okH_cons (cellsTo rfl (by exact ⟨rfl, grow_to rfl rfl app_ne rfl rfl, trivial⟩)) rfl rfl (win_cells (by exact ⟨rfl, grow_within rfl, trivial⟩)) (okH_nil))))) rfl⟩
          ·
           have h13 : ¬ i < c.members.D.length := by have := of_decide_eq_false h12; omega
           rw [drop_end h13] at hR
           refine Awp.exit ?_
           refine Awp.seq ?_
           refine Awp.consP C ?_
           refine rvP C (.pv (.lit (.bool put))) ?_
           refine rvP C (.pv (.lit (.bool (!put)))) ?_
           refine rvc_nil ?_
           refine Awp.cond (b := (!put)) rfl (fun h17 => ?_) (fun h17 => ?_)
           ·
            replace hR := of_true h17 hR
            refine Awp.regionP C ?_
            refine rvP C (.ptr 6 1) ?_
            refine rvP C (sS (some vc.isEmpty) eMember vc) ?_
            refine rvP C (.ptr 3 0) ?_
            refine rvP C (.pv (.lit (.int .i64 m.node))) ?_
            refine rvP C (.ptr 3 1) ?_
            refine rvP C (.pv (.lit (.int .i64 m.site))) ?_
            refine rvP C (.agg [.pv (.lit (.int .i64 m.node)), .pv (.lit (.int .i64 m.site)), .pv (.lit (.bool true))]) ?_
            refine rvc_un (rexec_buildSliceF C eMember [(Member.mk m.node m.site true)] rfl rfl rfl rfl rfl rfl rfl (by decide) rfl ?_)
            refine rvc_un (rexec_appendG C rfl rfl rfl rfl rfl rfl rfl rfl (fun _ h => by cases h) rfl (en := eMember) (l := vc) (D := [(Member.mk m.node m.site true)]) rfl rfl h11 (by rw [h11]; rfl) (by simp) (by have := check_r (c := c); have := rCheck_le6 (c := c); have := rPlace_lt c m.node; have := eq_of_bne_false h1; have := of_decide_eq_false h2; have := of_decide_eq_false h3; have := of_decide_eq_false h4; have := of_decide_eq_false h5; have := of_decide_eq_false h6; have := ne_of_beq_false h7; have := of_decide_eq_false h9; have := of_decide_eq_false h12; first | omega | (simp <;> omega)) (by decide) (nn := (vc ++ [(Member.mk m.node m.site true)]).length) (by simp) ?_)
            refine rvP C (.ptr 6 1) ?_
            refine rvc_un (rexec_prim C (δ := { v := .undef, wr := [(6, some (.cells [.pv (.lit (.int .i64 (IntKind.i64.wrap (c.epoch + 1)))), .sl 99 0 ((vc ++ [(Member.mk m.node m.site true)]).length) 3 false]))] }) rfl rfl rfl rfl trivial rfl ?_)
            refine rvc_nil ?_
            refine Awp.consP C ?_
            refine rvP C (.agg [.pv (.lit (.int .i64 (IntKind.i64.wrap (c.epoch + 1)))), .sl 99 0 ((vc ++ [(Member.mk m.node m.site true)]).length) 3 false]) ?_
            refine rvc_un (rexec_prim C (δ := { v := .undef, wr := [(4, some (.cells [.pv (.lit (.int .i64 (IntKind.i64.wrap (c.epoch + 1)))), .sl 99 0 ((vc ++ [(Member.mk m.node m.site true)]).length) 3 false]))] }) rfl rfl rfl rfl trivial rfl ?_)
            refine rvP C (.pv (.lit (.int .i64 0))) ?_
            refine rvc_nil ?_
            refine Awp.freezeW 99 (encL eMember (vc ++ [(Member.mk m.node m.site true)])) ?_ [(4, .ptr 4 0), (5, .pv (.lit (.int .i64 0)))] [(3, .cells [.pv (.lit (.int .i64 m.node)), .pv (.lit (.int .i64 m.site)), .pv (.lit (.bool m.fresh))]), (4, .cells [.pv (.lit (.int .i64 (IntKind.i64.wrap (c.epoch + 1)))), sS (some false) eMember (vc ++ [(Member.mk m.node m.site true)])]), (6, .cells [.pv (.lit (.int .i64 (IntKind.i64.wrap (c.epoch + 1)))), sS (some false) eMember (vc ++ [(Member.mk m.node m.site true)])])] ?_ ?_ ?_
            · rfl
            · exact ⟨⟨_, rfl, .inl (.inl rfl)⟩, ⟨_, rfl, .inl (.inl rfl)⟩, trivial⟩
            · exact ⟨⟨(by show (3 : Nat) ≠ 99; decide), .inl rfl⟩, ⟨(by show (4 : Nat) ≠ 99; decide), .inr ⟨_, _, rfl, rfl, ⟨.inl rfl, .inr ⟨_, _, _, rfl, rfl⟩, trivial⟩⟩⟩, ⟨(by show (6 : Nat) ≠ 99; decide), .inr ⟨_, _, rfl, rfl, ⟨.inl rfl, .inr ⟨_, _, _, rfl, rfl⟩, trivial⟩⟩⟩, trivial⟩
            refine Awp.ret ?_
            subst hR
            exact ⟨.inl rfl, rfl⟩
           ·
            replace hR := of_false h17 hR
            refine Awp.skip ?_
            refine Awp.consP C ?_
            refine rvP C (.agg [.pv (.lit (.int .i64 (IntKind.i64.wrap (c.epoch + 1)))), sS (some vc.isEmpty) eMember vc]) ?_
            refine rvc_un (rexec_prim C (δ := { v := .undef, wr := [(4, some (.cells [.pv (.lit (.int .i64 (IntKind.i64.wrap (c.epoch + 1)))), sS (some vc.isEmpty) eMember vc]))] }) rfl rfl rfl rfl trivial rfl ?_)
            refine rvP C (.pv (.lit (.int .i64 0))) ?_
            refine rvc_nil ?_
            refine Awp.ret ?_
            subst hR
            exact ⟨.inl rfl, rfl⟩
         ·
          refine Awp.wordsR [(3, .ptr 3 0), (4, .ptr 4 0), (6, .ptr 6 0), (7, .pv (.lit (.bool put))), (57, sS (some c.members.nil) eMember c.members.D), (58, .pv (.lit (.int .i64 (c.members.D.length : Int)))), (59, .pv (.lit (.int .i64 (i : Int))))] [(900, .cells (encC eMember vc)), (3, .cells [.pv (.lit (.int .i64 m.node)), .pv (.lit (.int .i64 m.site)), .pv (.lit (.bool m.fresh))]), (4, .cells [.pv (.lit (.int .i64 0)), sS (some true) eMember []]), (6, .cells [.pv (.lit (.int .i64 (IntKind.i64.wrap (c.epoch + 1)))), .sl 900 0 vc.length 3 false])] [3, 4, 6, 900] (WeakerR.ofL (Ks := [3, 4, 6, 900]) hI ⟨⟨rfl, rfl⟩, ⟨rfl, rfl⟩, ⟨rfl, rfl⟩, ⟨rfl, rfl⟩, ⟨rfl, rfl⟩, ⟨rfl, rfl⟩, ⟨rfl, rfl⟩, trivial⟩ (okH_list (look_cons h11 rfl) rfl rfl (okH_cons (look_cons h11 rfl) rfl rfl rfl (okH_cons (look_cons h11 rfl) rfl rfl rfl (okH_cons (cellsTo (look_cons h11 rfl) (by exact ⟨rfl, (by exact grow_at_cons (b := 900) (b' := 900) (e := eMember) (l := vc) rfl h11 rfl rfl rfl), trivial⟩)) rfl rfl (win_cells (by exact ⟨rfl, rfl, trivial⟩)) (okH_nil))))) rfl) ?_
          refine Awp.consP C ?_
          refine rvP C (.pv (.lit (.bool (decide ((i : Int) < (c.members.D.length : Int)))))) ?_
          refine rvc_nil ?_
          refine Awp.seq ?_
          refine Awp.cond (b := (decide ((i : Int) < (c.members.D.length : Int)))) rfl (fun h18 => ?_) (fun h18 => ?_)
          ·
           have h19 : i < c.members.D.length := by have := of_decide_eq_true h18; omega
           obtain ⟨x, h20⟩ := getX h19
           rw [drop_at h20] at hR
           refine Awp.skip ?_
           refine Awp.seq ?_
           refine Awp.block ?_
           refine Awp.consP C ?_
           refine rvc_un (rexec_idxS C rfl rfl rfl rfl rfl rfl x (Int.natCast_nonneg _) h20 ?_)
           refine rvP C (.agg [.pv (.lit (.int .i64 x.node)), .pv (.lit (.int .i64 x.site)), .pv (.lit (.bool x.fresh))]) ?_
           refine rvc_un (rexec_prim C (δ := { v := .ptr 9 0, new := [(9, .cells [.pv (.lit (.int .i64 0)), .pv (.lit (.int .i64 0)), .pv (.lit (.bool false))])] }) rfl rfl rfl rfl trivial rfl ?_)
           refine rvc_un (rexec_prim C (δ := { v := .undef, wr := [(9, some (.cells [.pv (.lit (.int .i64 x.node)), .pv (.lit (.int .i64 x.site)), .pv (.lit (.bool x.fresh))]))] }) rfl rfl rfl rfl trivial rfl ?_)
           refine rvc_nil ?_
           refine Awp.seq ?_
           refine Awp.consP C ?_
           refine rvP C (.ptr 9 1) ?_
           refine rvP C (.pv (.lit (.int .i64 x.site))) ?_
           refine rvP C (.ptr 3 1) ?_
           refine rvP C (.pv (.lit (.int .i64 m.site))) ?_
           refine rvP C (.pv (.lit (.bool (decide (x.site > m.site))))) ?_
           refine rvP C (.pv (.lit (.bool (decide (x.site > m.site))))) ?_
           refine rvc_case 68 (decide (x.site > m.site)) rfl (fun h21 => ?_) (fun h21 => ?_)
           ·
            replace hR := of_true h21 hR
            refine rvO C (.pv (.lit (.bool put))) ?_
            refine rvO C (.pv (.lit (.bool (!put)))) ?_
            refine rvP C (.pv (.lit (.bool (!put)))) ?_
            refine rvc_nil ?_
            refine Awp.cond (b := (!put)) rfl (fun h22 => ?_) (fun h22 => ?_)
            ·
             replace hR := of_true h22 hR
             refine Awp.consP C ?_
             refine rvP C (.ptr 6 1) ?_
             refine rvP C (.sl 900 0 vc.length 3 false) ?_
             refine rvP C (.ptr 3 0) ?_
             refine rvP C (.pv (.lit (.int .i64 m.node))) ?_
             refine rvP C (.ptr 3 1) ?_
             refine rvP C (.pv (.lit (.int .i64 m.site))) ?_
             refine rvP C (.agg [.pv (.lit (.int .i64 m.node)), .pv (.lit (.int .i64 m.site)), .pv (.lit (.bool true))]) ?_
             refine rvc_un (rexec_buildSliceF C eMember [(Member.mk m.node m.site true)] rfl rfl rfl rfl rfl rfl rfl (by decide) rfl ?_)
             refine rvc_un (rexec_append C rfl rfl rfl rfl rfl rfl rfl rfl (fun _ h => by cases h) rfl (en := eMember) (D0 := vc) (D := [(Member.mk m.node m.site true)]) rfl rfl rfl rfl (by have := check_r (c := c); have := rCheck_le6 (c := c); have := rPlace_lt c m.node; have := eq_of_bne_false h1; have := of_decide_eq_false h2; have := of_decide_eq_false h3; have := of_decide_eq_false h4; have := of_decide_eq_false h5; have := of_decide_eq_false h6; have := ne_of_beq_false h7; have := of_decide_eq_false h9; have := of_decide_eq_true h18; have := of_decide_eq_true h21; first | omega | (simp <;> omega)) (by decide) (nn := (vc ++ [(Member.mk m.node m.site true)]).length) (by simp) ?_)
             refine rvP C (.ptr 6 1) ?_
             refine rvc_un (rexec_prim C (δ := { v := .undef, wr := [(6, some (.cells [.pv (.lit (.int .i64 (IntKind.i64.wrap (c.epoch + 1)))), .sl 80 0 ((vc ++ [(Member.mk m.node m.site true)]).length) 3 false]))] }) rfl rfl rfl rfl trivial rfl ?_)
             refine rvc_nil ?_
             refine Awp.regionP C ?_
             refine rvP C (.pv (.lit (.bool true))) ?_
             refine rvc_nil ?_
             refine Awp.regionP C ?_
             refine rvP C (.ptr 6 1) ?_
             refine rvP C (.sl 80 0 ((vc ++ [(Member.mk m.node m.site true)]).length) 3 false) ?_
             refine rvP C (.agg [.pv (.lit (.int .i64 x.node)), .pv (.lit (.int .i64 x.site)), .pv (.lit (.bool x.fresh))]) ?_
             refine rvc_un (rexec_buildSliceF C eMember [x] rfl rfl rfl rfl rfl rfl rfl (by decide) rfl ?_)
             refine rvc_un (rexec_append C rfl rfl rfl rfl rfl rfl rfl rfl (fun _ h => by cases h) rfl (en := eMember) (D0 := (vc ++ [(Member.mk m.node m.site true)])) (D := [x]) rfl rfl rfl rfl (by have := check_r (c := c); have := rCheck_le6 (c := c); have := rPlace_lt c m.node; have := eq_of_bne_false h1; have := of_decide_eq_false h2; have := of_decide_eq_false h3; have := of_decide_eq_false h4; have := of_decide_eq_false h5; have := of_decide_eq_false h6; have := ne_of_beq_false h7; have := of_decide_eq_false h9; have := of_decide_eq_true h18; have := of_decide_eq_true h21; first | omega | (simp <;> omega)) (by decide) (nn := ((vc ++ [(Member.mk m.node m.site true)]) ++ [x]).length) (by simp) ?_)
             refine rvP C (.ptr 6 1) ?_
             refine rvc_un (rexec_prim C (δ := { v := .undef, wr := [(6, some (.cells [.pv (.lit (.int .i64 (IntKind.i64.wrap (c.epoch + 1)))), .sl 86 0 (((vc ++ [(Member.mk m.node m.site true)]) ++ [x]).length) 3 false]))] }) rfl rfl rfl rfl trivial rfl ?_)
             refine rvc_nil ?_
             refine Awp.regionP C ?_
             refine rvP C (.pv (.lit (.int .i64 (IntKind.i64.wrap ((i : Int) + 1))))) ?_
             refine rvP C (.pv (.lit (.int .i64 (IntKind.i64.wrap ((i : Int) + 1))))) ?_
             refine rvc_nil ?_
             refine ⟨h19, (true, ((vc ++ [(Member.mk m.node m.site true)]) ++ [x])), ?_, ?_⟩
             · exact ⟨hR, (by first | omega | (simp <;> omega))⟩
             · exact ⟨fun b => bif b == 900 then 86 else (fun b => b) b, WeakerR.ofL (Ks := [3, 4, 6, 900]) hI ⟨⟨rfl, rfl⟩, ⟨rfl, rfl⟩, ⟨rfl, rfl⟩, ⟨rfl, rfl⟩, ⟨rfl, rfl⟩, ⟨rfl, rfl⟩, ⟨lit_cast (wrap_i64 (by omega) (by omega)), rfl⟩, trivial⟩ (okH_grow (fun _ => rfl) rfl rfl (okH_cons rfl rfl rfl rfl (okH_cons rfl rfl rfl rfl (okH_cons (cellsTo rfl (by exact ⟨rfl, grow_to rfl rfl app_ne rfl rfl, trivial⟩)) rfl rfl (win_cells (by exact ⟨rfl, grow_within rfl, trivial⟩)) (okH_nil))))) rfl⟩
            ·
             replace hR := of_false h22 hR
             refine Awp.skip ?_
             refine Awp.regionP C ?_
             refine rvP C (.ptr 6 1) ?_
             refine rvP C (.sl 900 0 vc.length 3 false) ?_
             refine rvP C (.agg [.pv (.lit (.int .i64 x.node)), .pv (.lit (.int .i64 x.site)), .pv (.lit (.bool x.fresh))]) ?_
             refine rvc_un (rexec_buildSliceF C eMember [x] rfl rfl rfl rfl rfl rfl rfl (by decide) rfl ?_)
             refine rvc_un (rexec_append C rfl rfl rfl rfl rfl rfl rfl rfl (fun _ h => by cases h) rfl (en := eMember) (D0 := vc) (D := [x]) rfl rfl rfl rfl (by have := check_r (c := c); have := rCheck_le6 (c := c); have := rPlace_lt c m.node; have := eq_of_bne_false h1; have := of_decide_eq_false h2; have := of_decide_eq_false h3; have := of_decide_eq_false h4; have := of_decide_eq_false h5; have := of_decide_eq_false h6; have := ne_of_beq_false h7; have := of_decide_eq_false h9; have := of_decide_eq_true h18; have := of_decide_eq_true h21; first | omega | (simp <;> omega)) (by decide) (nn := (vc ++ [x]).length) (by simp) ?_)
             refine rvP C (.ptr 6 1) ?_
             refine rvc_un (rexec_prim C (δ := { v := .undef, wr := [(6, some (.cells [.pv (.lit (.int .i64 (IntKind.i64.wrap (c.epoch + 1)))), .sl 86 0 ((vc ++ [x]).length) 3 false]))] }) rfl rfl rfl rfl trivial rfl ?_)
             refine rvc_nil ?_
             refine Awp.regionP C ?_
             refine rvP C (.pv (.lit (.int .i64 (IntKind.i64.wrap ((i : Int) + 1))))) ?_
             refine rvP C (.pv (.lit (.int .i64 (IntKind.i64.wrap ((i : Int) + 1))))) ?_
             refine rvc_nil ?_
             refine ⟨h19, (put, (vc ++ [x])), ?_, ?_⟩
             · exact ⟨hR, (by first | omega | (simp <;> omega))⟩
             · exact ⟨fun b => bif b == 900 then 86 else (fun b => b) b, WeakerR.ofL (Ks := [3, 4, 6, 900]) hI ⟨⟨rfl, rfl⟩, ⟨rfl, rfl⟩, ⟨rfl, rfl⟩, ⟨rfl, rfl⟩, ⟨rfl, rfl⟩, ⟨rfl, rfl⟩, ⟨lit_cast (wrap_i64 (by omega) (by omega)), rfl⟩, trivial⟩ (okH_grow (fun _ => rfl) rfl rfl (okH_cons rfl rfl rfl rfl (okH_cons rfl rfl rfl rfl (okH_cons (cellsTo rfl (by exact ⟨rfl, grow_to rfl rfl app_ne rfl rfl, trivial⟩)) rfl rfl (win_cells (by exact ⟨rfl, grow_within rfl, trivial⟩)) (okH_nil))))) rfl⟩
           ·
            replace hR := of_false h21 hR
            refine rvS ?_
            refine rvS ?_
            refine rvP C (.pv (.lit (.bool false))) ?_
            refine rvc_nil ?_
            refine Awp.condF (b := false) rfl rfl ?_
            refine Awp.skip ?_
            refine Awp.regionP C ?_
            refine rvP C (.ptr 6 1) ?_
            refine rvP C (.sl 900 0 vc.length 3 false) ?_
            refine rvP C (.agg [.pv (.lit (.int .i64 x.node)), .pv (.lit (.int .i64 x.site)), .pv (.lit (.bool x.fresh))]) ?_
            refine rvc_un (rexec_buildSliceF C eMember [x] rfl rfl rfl rfl rfl rfl rfl (by decide) rfl ?_)
            refine rvc_un (rexec_append C rfl rfl rfl rfl rfl rfl rfl rfl (fun _ h => by cases h) rfl (en := eMember) (D0 := vc) (D := [x]) rfl rfl rfl rfl (by have := check_r (c := c); have := rCheck_le6 (c := c); have := rPlace_lt c m.node; have := eq_of_bne_false h1; have := of_decide_eq_false h2; have := of_decide_eq_false h3; have := of_decide_eq_false h4; have := of_decide_eq_false h5; have := of_decide_eq_false h6; have := ne_of_beq_false h7; have := of_decide_eq_false h9; have := of_decide_eq_true h18; have := of_decide_eq_false h21; first | omega | (simp <;> omega)) (by decide) (nn := (vc ++ [x]).length) (by simp) ?_)
            refine rvP C (.ptr 6 1) ?_
            refine rvc_un (rexec_prim C (δ := { v := .undef, wr := [(6, some (.cells [.pv (.lit (.int .i64 (IntKind.i64.wrap (c.epoch + 1)))), .sl 86 0 ((vc ++ [x]).length) 3 false]))] }) rfl rfl rfl rfl trivial rfl ?_)
            refine rvc_nil ?_
            refine Awp.regionP C ?_
            refine rvP C (.pv (.lit (.int .i64 (IntKind.i64.wrap ((i : Int) + 1))))) ?_
            refine rvP C (.pv (.lit (.int .i64 (IntKind.i64.wrap ((i : Int) + 1))))) ?_
            refine rvc_nil ?_
            refine ⟨h19, (put, (vc ++ [x])), ?_, ?_⟩
            · exact ⟨hR, (by first | omega | (simp <;> omega))⟩
            · exact ⟨fun b => bif b == 900 then 86 else (fun b => b) b, WeakerR.ofL (Ks := [3, 4, 6, 900]) hI ⟨⟨rfl, rfl⟩, ⟨rfl, rfl⟩, ⟨rfl, rfl⟩, ⟨rfl, rfl⟩, ⟨rfl, rfl⟩, ⟨rfl, rfl⟩, ⟨lit_cast (wrap_i64 (by omega) (by omega)), rfl⟩, trivial⟩ (okH_grow (fun _ => rfl) rfl rfl (okH_cons rfl rfl rfl rfl (okH_cons rfl rfl rfl rfl (okH_cons (cellsTo rfl (by exact ⟨rfl, grow_to rfl rfl app_ne rfl rfl, trivial⟩)) rfl rfl (win_cells (by exact ⟨rfl, grow_within rfl, trivial⟩)) (okH_nil))))) rfl⟩
          ·
           have h19 : ¬ i < c.members.D.length := by have := of_decide_eq_false h18; omega
           rw [drop_end h19] at hR
           refine Awp.exit ?_
           refine Awp.seq ?_
           refine Awp.consP C ?_
           refine rvP C (.pv (.lit (.bool put))) ?_
           refine rvP C (.pv (.lit (.bool (!put)))) ?_
           refine rvc_nil ?_
           refine Awp.cond (b := (!put)) rfl (fun h23 => ?_) (fun h23 => ?_)
           ·
            replace hR := of_true h23 hR
            refine Awp.regionP C ?_
            refine rvP C (.ptr 6 1) ?_
            refine rvP C (.sl 900 0 vc.length 3 false) ?_
            refine rvP C (.ptr 3 0) ?_
            refine rvP C (.pv (.lit (.int .i64 m.node))) ?_
            refine rvP C (.ptr 3 1) ?_
            refine rvP C (.pv (.lit (.int .i64 m.site))) ?_
            refine rvP C (.agg [.pv (.lit (.int .i64 m.node)), .pv (.lit (.int .i64 m.site)), .pv (.lit (.bool true))]) ?_
            refine rvc_un (rexec_buildSliceF C eMember [(Member.mk m.node m.site true)] rfl rfl rfl rfl rfl rfl rfl (by decide) rfl ?_)
            refine rvc_un (rexec_append C rfl rfl rfl rfl rfl rfl rfl rfl (fun _ h => by cases h) rfl (en := eMember) (D0 := vc) (D := [(Member.mk m.node m.site true)]) rfl rfl rfl rfl (by have := check_r (c := c); have := rCheck_le6 (c := c); have := rPlace_lt c m.node; have := eq_of_bne_false h1; have := of_decide_eq_false h2; have := of_decide_eq_false h3; have := of_decide_eq_false h4; have := of_decide_eq_false h5; have := of_decide_eq_false h6; have := ne_of_beq_false h7; have := of_decide_eq_false h9; have := of_decide_eq_false h18; first | omega | (simp <;> omega)) (by decide) (nn := (vc ++ [(Member.mk m.node m.site true)]).length) (by simp) ?_)
            refine rvP C (.ptr 6 1) ?_
            refine rvc_un (rexec_prim C (δ := { v := .undef, wr := [(6, some (.cells [.pv (.lit (.int .i64 (IntKind.i64.wrap (c.epoch + 1)))), .sl 99 0 ((vc ++ [(Member.mk m.node m.site true)]).length) 3 false]))] }) rfl rfl rfl rfl trivial rfl ?_)
            refine rvc_nil ?_
            refine Awp.consP C ?_
            refine rvP C (.agg [.pv (.lit (.int .i64 (IntKind.i64.wrap (c.epoch + 1)))), .sl 99 0 ((vc ++ [(Member.mk m.node m.site true)]).length) 3 false]) ?_
            refine rvc_un (rexec_prim C (δ := { v := .undef, wr := [(4, some (.cells [.pv (.lit (.int .i64 (IntKind.i64.wrap (c.epoch + 1)))), .sl 99 0 ((vc ++ [(Member.mk m.node m.site true)]).length) 3 false]))] }) rfl rfl rfl rfl trivial rfl ?_)
            refine rvP C (.pv (.lit (.int .i64 0))) ?_
            refine rvc_nil ?_
            refine Awp.freezeW 99 (encL eMember (vc ++ [(Member.mk m.node m.site true)])) ?_ [(4, .ptr 4 0), (5, .pv (.lit (.int .i64 0)))] [(3, .cells [.pv (.lit (.int .i64 m.node)), .pv (.lit (.int .i64 m.site)), .pv (.lit (.bool m.fresh))]), (4, .cells [.pv (.lit (.int .i64 (IntKind.i64.wrap (c.epoch + 1)))), sS (some false) eMember (vc ++ [(Member.mk m.node m.site true)])]), (6, .cells [.pv (.lit (.int .i64 (IntKind.i64.wrap (c.epoch + 1)))), sS (some false) eMember (vc ++ [(Member.mk m.node m.site true)])])] ?_ ?_ ?_
            · rfl
            · exact ⟨⟨_, rfl, .inl (.inl rfl)⟩, ⟨_, rfl, .inl (.inl rfl)⟩, trivial⟩
            · exact ⟨⟨(by show (3 : Nat) ≠ 99; decide), .inl rfl⟩, ⟨(by show (4 : Nat) ≠ 99; decide), .inr ⟨_, _, rfl, rfl, ⟨.inl rfl, .inr ⟨_, _, _, rfl, rfl⟩, trivial⟩⟩⟩, ⟨(by show (6 : Nat) ≠ 99; decide), .inr ⟨_, _, rfl, rfl, ⟨.inl rfl, .inr ⟨_, _, _, rfl, rfl⟩, trivial⟩⟩⟩, trivial⟩
            refine Awp.ret ?_
            subst hR
            exact ⟨.inl rfl, rfl⟩
           ·
            replace hR := of_false h23 hR
            refine Awp.skip ?_
            refine Awp.consP C ?_
            refine rvP C (.agg [.pv (.lit (.int .i64 (IntKind.i64.wrap (c.epoch + 1)))), .sl 900 0 vc.length 3 false]) ?_
            refine rvc_un (rexec_prim C (δ := { v := .undef, wr := [(4, some (.cells [.pv (.lit (.int .i64 (IntKind.i64.wrap (c.epoch + 1)))), .sl 900 0 vc.length 3 false]))] }) rfl rfl rfl rfl trivial rfl ?_)
            refine rvP C (.pv (.lit (.int .i64 0))) ?_
            refine rvc_nil ?_
            refine Awp.freezeW 900 (encL eMember vc) ?_ [(4, .ptr 4 0), (5, .pv (.lit (.int .i64 0)))] [(3, .cells [.pv (.lit (.int .i64 m.node)), .pv (.lit (.int .i64 m.site)), .pv (.lit (.bool m.fresh))]), (4, .cells [.pv (.lit (.int .i64 (IntKind.i64.wrap (c.epoch + 1)))), sS (some vc.isEmpty) eMember vc]), (6, .cells [.pv (.lit (.int .i64 (IntKind.i64.wrap (c.epoch + 1)))), sS (some vc.isEmpty) eMember vc])] ?_ ?_ ?_
            · rfl
            · exact ⟨⟨_, rfl, .inl (.inl rfl)⟩, ⟨_, rfl, .inl (.inl rfl)⟩, trivial⟩
            · exact ⟨⟨(by show (3 : Nat) ≠ 900; decide), .inl rfl⟩, ⟨(by show (4 : Nat) ≠ 900; decide), .inr ⟨_, _, rfl, rfl, ⟨.inl rfl, .inr ⟨_, _, _, rfl, by rw [ne_isEmpty h11]; rfl⟩, trivial⟩⟩⟩, ⟨(by show (6 : Nat) ≠ 900; decide), .inr ⟨_, _, rfl, rfl, ⟨.inl rfl, .inr ⟨_, _, _, rfl, by rw [ne_isEmpty h11]; rfl⟩, trivial⟩⟩⟩, trivial⟩
            refine Awp.ret ?_
            subst hR
            exact ⟨.inl rfl, rfl⟩
def rCut_l1 (c : Chain) : Nat → (Sl Member) → Chain × Int
  | 0, _ => default
  | nn + 1, l1 => (bif (decide ((l1.D.length : Int) > 0)) then (bif l1.D[0]!.fresh then rCut_l1 c nn (Sl.mk l1.nil (l1.D.drop 1)) else (bif ((l1.D.length : Int) == (c.members.D.length : Int)) then ((Chain.mk 0 (Sl.mk true [])), 81) else (bif ((l1.D.length : Int) == 0) then ((Chain.mk 0 (Sl.mk true [])), 83) else ((Chain.mk (IntKind.i64.wrap (c.epoch + 1)) l1), 0)))) else (bif ((l1.D.length : Int) == (c.members.D.length : Int)) then ((Chain.mk 0 (Sl.mk true [])), 81) else (bif ((l1.D.length : Int) == 0) then ((Chain.mk 0 (Sl.mk true [])), 83) else ((Chain.mk (IntKind.i64.wrap (c.epoch + 1)) l1), 0))))
def rCut_l0 (c : Chain) (node : Int) (site : Int) : List Member → Nat → (List Member) → Chain × Int
  | [], _, l => rCut_l1 c ((Sl.mk l.isEmpty l).D.length + 1) (Sl.mk l.isEmpty l)
  | x :: xs, i, l => (bif (x.node != node) then (bif (x.site != site) then rCut_l0 c node site xs (i + 1) (l ++ [x]) else rCut_l0 c node site xs (i + 1) l) else rCut_l0 c node site xs (i + 1) l)
def rCut (c : Chain) (node : Int) (site : Int) : Chain × Int :=
  (bif ((rCheck c) != 0) then ((Chain.mk 0 (Sl.mk true [])), 80) else (bif (c.epoch == 1099511627776) then ((Chain.mk 0 (Sl.mk true [])), 5) else rCut_l0 c node site c.members.D 0 []))
theorem rCut_calls (c : Chain) (node : Int) (site : Int) (hl1 : c.members.D.length ≤ 1000000) : PCalls Try.prog 42 [.agg [.pv (.lit (.int .i64 c.epoch)), sS (some c.members.nil) eMember c.members.D], .pv (.lit (.int .i64 node)), .pv (.lit (.int .i64 site))] (.tup [.agg [.pv (.lit (.int .i64 ((rCut c node site).1.epoch))), sS (some (rCut c node site).1.members.nil) eMember ((rCut c node site).1.members.D)], .pv (.lit (.int .i64 ((rCut c node site).2)))]) := by
 generalize hR : rCut c node site = R
 refine PCalls.of_body tabOk Try.func42 rfl rfl rfl rfl rfl mixed fun E hP C hI => ?_
 refine Awp.consP C ?_
 refine rvc_un (rexec_prim C (δ := { v := .ptr 3 0, new := [(3, .cells [.pv (.lit (.int .i64 c.epoch)), sS (some c.members.nil) eMember c.members.D])] }) rfl rfl rfl rfl trivial rfl ?_)
 refine rvc_un (rexec_prim C (δ := { v := .ptr 6 0, new := [(6, .cells [.pv (.lit (.int .i64 0)), sS (some true) eMember []])] }) rfl rfl rfl rfl trivial rfl ?_)
 refine rvP C (.pv (.lit (.int .i64 0))) ?_
 refine rvc_nil ?_
 refine Awp.seq ?_
 refine Awp.consP C ?_
 refine rvP C (.agg [.pv (.lit (.int .i64 c.epoch)), sS (some c.members.nil) eMember c.members.D]) ?_
 refine rvc_un (rexec_call hP C rfl rfl rfl (rCheck_calls c (Nat.le_trans hl1 (by decide))) ?_)
 refine rvP C (.pv (.lit (.bool ((rCheck c) != 0)))) ?_
 refine rvc_nil ?_
 refine Awp.cond (b := ((rCheck c) != 0)) rfl (fun h1 => ?_) (fun h1 => ?_)
 ·
  replace hR := of_true h1 hR
  refine Awp.consP C ?_
  refine rvP C (.agg [.pv (.lit (.int .i64 0)), sS (some true) eMember []]) ?_
  refine rvc_un (rexec_prim C (δ := { v := .undef, wr := [(6, some (.cells [.pv (.lit (.int .i64 0)), sS (some true) eMember []]))] }) rfl rfl rfl rfl trivial rfl ?_)
  refine rvP C (.pv (.lit (.int .i64 80))) ?_
  refine rvc_nil ?_
  refine Awp.ret ?_
  subst hR
  exact ⟨.inl rfl, rfl⟩
 ·
  replace hR := of_false h1 hR
  refine Awp.skip ?_
  refine Awp.seq ?_
  refine Awp.consP C ?_
  refine rvP C (.ptr 3 0) ?_
  refine rvP C (.pv (.lit (.int .i64 c.epoch))) ?_
  refine rvP C (.pv (.lit (.bool (c.epoch == 1099511627776)))) ?_
  refine rvc_nil ?_
  refine Awp.cond (b := (c.epoch == 1099511627776)) rfl (fun h2 => ?_) (fun h2 => ?_)
  ·
   replace hR := of_true h2 hR
   refine Awp.consP C ?_
   refine rvP C (.agg [.pv (.lit (.int .i64 0)), sS (some true) eMember []]) ?_
   refine rvc_un (rexec_prim C (δ := { v := .undef, wr := [(6, some (.cells [.pv (.lit (.int .i64 0)), sS (some true) eMember []]))] }) rfl rfl rfl rfl trivial rfl ?_)
   refine rvP C (.pv (.lit (.int .i64 5))) ?_
   refine rvc_nil ?_
   refine Awp.ret ?_
   subst hR
   exact ⟨.inl rfl, rfl⟩
  ·
   replace hR := of_false h2 hR
   refine Awp.skip ?_
   refine Awp.consP C ?_
   refine rvP C (sS (some true) eMember []) ?_
   refine rvc_nil ?_
   refine Awp.seq ?_
   refine Awp.consP C ?_
   refine rvP C (.ptr 3 1) ?_
   refine rvP C (sS (some c.members.nil) eMember c.members.D) ?_
   refine rvP C (.pv (.lit (.int .i64 (c.members.D.length : Int)))) ?_
   refine rvP C (.pv (.lit (.int .i64 0))) ?_
   refine rvc_nil ?_
   refine Awp.block ?_
   refine Awp.forR (σ := ((List Member))) (c.members.D.length) (fun i v => [(1, .pv (.lit (.int .i64 node))), (2, .pv (.lit (.int .i64 site))), (3, .ptr 3 0), (6, .ptr 6 0), (8, grow 900 eMember v), (21, sS (some c.members.nil) eMember c.members.D), (22, .pv (.lit (.int .i64 (c.members.D.length : Int)))), (23, .pv (.lit (.int .i64 (i : Int))))]) (fun i v => (growH 900 eMember v ++ ([(3, .cells [.pv (.lit (.int .i64 c.epoch)), sS (some c.members.nil) eMember c.members.D]), (6, .cells [.pv (.lit (.int .i64 0)), sS (some true) eMember []])]))) [3, 6, 900] (fun i v => (rCut_l0 c node site (c.members.D.drop i) i v = R) ∧ (v.length ≤ i)) [] ?_ ?_ (fun i l h3 hR => ?_)
   · exact ⟨hR, (by first | omega | (simp <;> omega))⟩
   · exact ⟨fun b => b, WeakerR.ofL (Ks := [3, 6, 900]) hI ⟨⟨rfl, rfl⟩, ⟨rfl, rfl⟩, ⟨rfl, rfl⟩, ⟨rfl, rfl⟩, ⟨rfl, rfl⟩, ⟨rfl, rfl⟩, ⟨rfl, rfl⟩, ⟨rfl, rfl⟩, trivial⟩ (okH_grow (fun hne => absurd rfl hne) rfl rfl (okH_cons rfl rfl rfl rfl (okH_cons rfl rfl rfl rfl (okH_nil)))) rfl⟩
   obtain ⟨hR, hi_l⟩ := hR
   replace hi_l : l.length ≤ i := hi_l
   by_cases h4 : l = []
   ·
    refine Awp.wordsR [(1, .pv (.lit (.int .i64 node))), (2, .pv (.lit (.int .i64 site))), (3, .ptr 3 0), (6, .ptr 6 0), (8, sS (some l.isEmpty) eMember l), (21, sS (some c.members.nil) eMember c.members.D), (22, .pv (.lit (.int .i64 (c.members.D.length : Int)))), (23, .pv (.lit (.int .i64 (i : Int))))] [(3, .cells [.pv (.lit (.int .i64 c.epoch)), sS (some c.members.nil) eMember c.members.D]), (6, .cells [.pv (.lit (.int .i64 0)), sS (some true) eMember []])] [3, 6] (WeakerR.ofL (Ks := [3, 6]) hI ⟨⟨rfl, rfl⟩, ⟨rfl, rfl⟩, ⟨rfl, rfl⟩, ⟨rfl, rfl⟩, ⟨(by exact grow_at_nil (b := 900) (e := eMember) (l := l) rfl h4), rfl⟩, ⟨rfl, rfl⟩, ⟨rfl, rfl⟩, ⟨rfl, rfl⟩, trivial⟩ (okH_cons (look_nil h4 rfl) rfl rfl rfl (okH_cons (look_nil h4 rfl) rfl rfl rfl (okH_nil))) rfl) ?_
    refine Awp.consP C ?_
    refine rvP C (.pv (.lit (.bool (decide ((i : Int) < (c.members.D.length : Int)))))) ?_
    refine rvc_nil ?_
    refine Awp.seq ?_
    refine Awp.cond (b := (decide ((i : Int) < (c.members.D.length : Int)))) rfl (fun h5 => ?_) (fun h5 => ?_)
    ·
     have h6 : i < c.members.D.length := by have := of_decide_eq_true h5; omega
     obtain ⟨x, h7⟩ := getX h6
     rw [drop_at h7] at hR
     refine Awp.skip ?_
     refine Awp.seq ?_
     refine Awp.block ?_
     refine Awp.consP C ?_
     refine rvc_un (rexec_idxS C rfl rfl rfl rfl rfl rfl x (Int.natCast_nonneg _) h7 ?_)
     refine rvP C (.agg [.pv (.lit (.int .i64 x.node)), .pv (.lit (.int .i64 x.site)), .pv (.lit (.bool x.fresh))]) ?_
     refine rvc_un (rexec_prim C (δ := { v := .ptr 10 0, new := [(10, .cells [.pv (.lit (.int .i64 0)), .pv (.lit (.int .i64 0)), .pv (.lit (.bool false))])] }) rfl rfl rfl rfl trivial rfl ?_)
     refine rvc_un (rexec_prim C (δ := { v := .undef, wr := [(10, some (.cells [.pv (.lit (.int .i64 x.node)), .pv (.lit (.int .i64 x.site)), .pv (.lit (.bool x.fresh))]))] }) rfl rfl rfl rfl trivial rfl ?_)
     refine rvc_nil ?_
     refine Awp.consP C ?_
     refine rvP C (.ptr 10 0) ?_
     refine rvP C (.pv (.lit (.int .i64 x.node))) ?_
     refine rvP C (.pv (.lit (.int .i64 node))) ?_
     refine rvP C (.pv (.lit (.bool (x.node != node)))) ?_
     refine rvP C (.pv (.lit (.bool (x.node != node)))) ?_
     refine rvc_case 31 (x.node != node) rfl (fun h8 => ?_) (fun h8 => ?_)
     ·
      replace hR := of_true h8 hR
      refine rvO C (.ptr 10 1) ?_
      refine rvO C (.pv (.lit (.int .i64 x.site))) ?_
      refine rvO C (.pv (.lit (.int .i64 site))) ?_
      refine rvO C (.pv (.lit (.bool (x.site != site)))) ?_
      refine rvP C (.pv (.lit (.bool (x.site != site)))) ?_
      refine rvc_nil ?_
      refine Awp.cond (b := (x.site != site)) rfl (fun h9 => ?_) (fun h9 => ?_)
      ·
       replace hR := of_true h9 hR
       refine Awp.regionP C ?_
       refine rvP C (sS (some l.isEmpty) eMember l) ?_
       refine rvP C (.agg [.pv (.lit (.int .i64 x.node)), .pv (.lit (.int .i64 x.site)), .pv (.lit (.bool x.fresh))]) ?_
       refine rvc_un (rexec_buildSliceF C eMember [x] rfl rfl rfl rfl rfl rfl rfl (by decide) rfl ?_)
       refine rvc_un (rexec_appendG C rfl rfl rfl rfl rfl rfl rfl rfl (fun _ h => by cases h) rfl (en := eMember) (l := l) (D := [x]) rfl rfl h4 (by rw [h4]; rfl) (by simp) (by have := check_r (c := c); have := rCheck_le6 (c := c); have := eq_of_bne_false h1; have := ne_of_beq_false h2; have := of_decide_eq_true h5; have := bne_iff_ne.1 h8; have := bne_iff_ne.1 h9; first | omega | (simp <;> omega)) (by decide) (nn := (l ++ [x]).length) (by simp) ?_)
       refine rvP C (.sl 40 0 ((l ++ [x]).length) 3 false) ?_
       refine rvc_nil ?_
       refine Awp.regionP C ?_
       refine rvP C (.pv (.lit (.int .i64 (IntKind.i64.wrap ((i : Int) + 1))))) ?_
       refine rvP C (.pv (.lit (.int .i64 (IntKind.i64.wrap ((i : Int) + 1))))) ?_
       refine rvc_nil ?_
       refine ⟨h6, (l ++ [x]), ?_, ?_⟩
       · exact ⟨hR, (by first | omega | (simp <;> omega))⟩
       · exact ⟨fun b => bif b == 900 then 40 else (fun b => b) b, WeakerR.ofL (Ks := [3, 6, 900]) hI ⟨⟨rfl, rfl⟩, ⟨rfl, rfl⟩, ⟨rfl, rfl⟩, ⟨rfl, rfl⟩, ⟨grow_to rfl rfl app_ne rfl rfl, grow_within rfl⟩, ⟨rfl, rfl⟩, ⟨rfl, rfl⟩, ⟨lit_cast (wrap_i64 (by omega) (by omega)), rfl⟩, trivial⟩ (okH_grow (fun _ => rfl) rfl rfl (okH_cons rfl rfl rfl rfl (okH_cons rfl rfl rfl rfl (okH_nil)))) rfl⟩
      ·
       replace hR := of_false h9 hR
       refine Awp.skip ?_
       refine Awp.regionP C ?_
       refine rvP C (.pv (.lit (.int .i64 (IntKind.i64.wrap ((i : Int) + 1))))) ?_
       refine rvP C (.pv (.lit (.int .i64 (IntKind.i64.wrap ((i : Int) + 1))))) ?_
       refine rvc_nil ?_
       refine ⟨h6, l, ?_, ?_⟩
       · exact ⟨hR, (by first | omega | (simp <;> omega))⟩
       · exact ⟨fun b => b, WeakerR.ofL (Ks := [3, 6, 900]) hI ⟨⟨rfl, rfl⟩, ⟨rfl, rfl⟩, ⟨rfl, rfl⟩, ⟨rfl, rfl⟩, ⟨grow_to_nil rfl h4 (.inr rfl), grow_within rfl⟩, ⟨rfl, rfl⟩, ⟨rfl, rfl⟩, ⟨lit_cast (wrap_i64 (by omega) (by omega)), rfl⟩, trivial⟩ (okH_grow (fun hne => absurd h4 hne) rfl rfl (okH_cons rfl rfl rfl rfl (okH_cons rfl rfl rfl rfl (okH_nil)))) rfl⟩
     ·
      replace hR := of_false h8 hR
      refine rvS ?_
      refine rvS ?_
      refine rvS ?_
      refine rvS ?_
      refine rvP C (.pv (.lit (.bool false))) ?_
      refine rvc_nil ?_
      refine Awp.condF (b := false) rfl rfl ?_
      refine Awp.skip ?_
      refine Awp.regionP C ?_
      refine rvP C (.pv (.lit (.int .i64 (IntKind.i64.wrap ((i : Int) + 1))))) ?_
      refine rvP C (.pv (.lit (.int .i64 (IntKind.i64.wrap ((i : Int) + 1))))) ?_
      refine rvc_nil ?_
      refine ⟨h6, l, ?_, ?_⟩
      · exact ⟨hR, (by first | omega | (simp <;> omega))⟩
      · exact ⟨fun b => b, WeakerR.ofL (Ks := [3, 6, 900]) hI ⟨⟨rfl, rfl⟩, ⟨rfl, rfl⟩, ⟨rfl, rfl⟩, ⟨rfl, rfl⟩, ⟨grow_to_nil rfl h4 (.inr rfl), grow_within rfl⟩, ⟨rfl, rfl⟩, ⟨rfl, rfl⟩, ⟨lit_cast (wrap_i64 (by omega) (by omega)), rfl⟩, trivial⟩ (okH_grow (fun hne => absurd h4 hne) rfl rfl (okH_cons rfl rfl rfl rfl (okH_cons rfl rfl rfl rfl (okH_nil)))) rfl⟩
    ·
     have h6 : ¬ i < c.members.D.length := by have := of_decide_eq_false h5; omega
     rw [drop_end h6] at hR
     refine Awp.exit ?_
     refine Awp.seq ?_
     refine Awp.block ?_
     refine Awp.forM (σ := ((Sl Member))) (fun v => [(3, .ptr 3 0), (6, .ptr 6 0), (8, sS (some v.nil) eMember v.D)]) (fun v => [(3, .cells [.pv (.lit (.int .i64 c.epoch)), sS (some c.members.nil) eMember c.members.D]), (6, .cells [.pv (.lit (.int .i64 0)), sS (some true) eMember []])]) [3, 6] (fun n v => n = v.D.length ∧ rCut_l1 c (v.D.length + 1) v = R) ((Sl.mk l.isEmpty l).D.length) (Sl.mk l.isEmpty l) ?_ ?_ (fun _ l1 h10 => ?_)
     · exact ⟨rfl, hR⟩
     · exact ⟨fun b => b, WeakerR.ofL (Ks := [3, 6]) hI ⟨⟨rfl, rfl⟩, ⟨rfl, rfl⟩, ⟨rfl, rfl⟩, trivial⟩ (okH_cons rfl rfl rfl rfl (okH_cons rfl rfl rfl rfl (okH_nil))) rfl⟩
     obtain ⟨rfl, hR⟩ := h10
     refine Awp.seq ?_
     refine Awp.consP C ?_
     refine rvP C (sS (some l1.nil) eMember l1.D) ?_
     refine rvP C (.pv (.lit (.int .i64 (l1.D.length : Int)))) ?_
     refine rvP C (.pv (.lit (.bool (decide ((l1.D.length : Int) > 0))))) ?_
     refine rvP C (.pv (.lit (.bool (decide ((l1.D.length : Int) > 0))))) ?_
     refine rvc_case 45 (decide ((l1.D.length : Int) > 0)) rfl (fun h12 => ?_) (fun h12 => ?_)
     ·
      replace hR := of_true h12 hR
      refine rvO C (sS (some l1.nil) eMember l1.D) ?_
      have h13 : l1.D[0]? = some l1.D[0]! := getE (by have := check_r (c := c); have := rCheck_le6 (c := c); have := eq_of_bne_false h1; have := ne_of_beq_false h2; have := of_decide_eq_false h5; have := of_decide_eq_true h12; omega)
      refine rvc_open rfl rfl rfl (rexec_idxS C rfl rfl rfl rfl rfl rfl (l1.D[0]!) (Int.natCast_nonneg _) h13 ?_)
      refine rvO C (.rp [.lit (.bool (l1.D[0]!.fresh))]) ?_
      refine rvO C (.pv (.lit (.bool (l1.D[0]!.fresh)))) ?_
      refine rvP C (.pv (.lit (.bool (l1.D[0]!.fresh)))) ?_
      refine rvc_nil ?_
      refine Awp.cond (b := l1.D[0]!.fresh) rfl (fun h14 => ?_) (fun h14 => ?_)
      ·
       replace hR := of_true h14 hR
       refine Awp.skip ?_
       refine Awp.block ?_
       refine Awp.regionP C ?_
       refine rvP C (sS (some l1.nil) eMember l1.D) ?_
       refine rvc_un (rexec_sliceS C (e := eMember) (D := l1.D) 1 l1.D.length rfl rfl rfl rfl rfl rfl rfl rfl rfl rfl (by have := check_r (c := c); have := rCheck_le6 (c := c); have := eq_of_bne_false h1; have := ne_of_beq_false h2; have := of_decide_eq_false h5; have := of_decide_eq_true h12; omega) (by have := check_r (c := c); have := rCheck_le6 (c := c); have := eq_of_bne_false h1; have := ne_of_beq_false h2; have := of_decide_eq_false h5; have := of_decide_eq_true h12; omega) (l1.D.drop 1) (by rw [List.take_of_length_le (by simp)]) ?_)
       refine rvP C (sS (some l1.nil) eMember (l1.D.drop 1)) ?_
       refine rvc_nil ?_
       refine ⟨_, (Sl.mk l1.nil (l1.D.drop 1)), ?_, ⟨rfl, (by rw [show ((Sl.mk l1.nil (l1.D.drop 1)).D.length) + 1 = l1.D.length by have := check_r (c := c); have := rCheck_le6 (c := c); have := eq_of_bne_false h1; have := ne_of_beq_false h2; have := of_decide_eq_false h5; have := of_decide_eq_true h12; first | omega | (simp only [List.length_drop]; omega)]; exact hR)⟩, ?_⟩
       · show (Sl.mk l1.nil (l1.D.drop 1)).D.length < l1.D.length; have := check_r (c := c); have := rCheck_le6 (c := c); have := eq_of_bne_false h1; have := ne_of_beq_false h2; have := of_decide_eq_false h5; have := of_decide_eq_true h12; first | omega | (simp only [List.length_drop]; omega)
       · exact ⟨fun b => b, WeakerR.ofL (Ks := [3, 6]) hI ⟨⟨rfl, rfl⟩, ⟨rfl, rfl⟩, ⟨rfl, rfl⟩, trivial⟩ (okH_cons rfl rfl rfl rfl (okH_cons rfl rfl rfl rfl (okH_nil))) rfl⟩
      ·
       replace hR := of_false h14 hR
       refine Awp.exit ?_
       refine Awp.seq ?_
       refine Awp.consP C ?_
       refine rvP C (sS (some l1.nil) eMember l1.D) ?_
       refine rvP C (.pv (.lit (.int .i64 (l1.D.length : Int)))) ?_
       refine rvP C (.ptr 3 1) ?_
       refine rvP C (sS (some c.members.nil) eMember c.members.D) ?_
       refine rvP C (.pv (.lit (.int .i64 (c.members.D.length : Int)))) ?_
       refine rvP C (.pv (.lit (.bool ((l1.D.length : Int) == (c.members.D.length : Int))))) ?_
       refine rvc_nil ?_
       refine Awp.cond (b := ((l1.D.length : Int) == (c.members.D.length : Int))) rfl (fun h15 => ?_) (fun h15 => ?_)
       ·
        replace hR := of_true h15 hR
        refine Awp.consP C ?_
        refine rvP C (.agg [.pv (.lit (.int .i64 0)), sS (some true) eMember []]) ?_
        refine rvc_un (rexec_prim C (δ := { v := .undef, wr := [(6, some (.cells [.pv (.lit (.int .i64 0)), sS (some true) eMember []]))] }) rfl rfl rfl rfl trivial rfl ?_)
        refine rvP C (.pv (.lit (.int .i64 81))) ?_
        refine rvc_nil ?_
        refine Awp.ret ?_
        subst hR
        exact ⟨.inl rfl, rfl⟩
       ·
        replace hR := of_false h15 hR
        refine Awp.skip ?_
        refine Awp.seq ?_
        refine Awp.consP C ?_
        refine rvP C (sS (some l1.nil) eMember l1.D) ?_
        refine rvP C (.pv (.lit (.int .i64 (l1.D.length : Int)))) ?_
        refine rvP C (.pv (.lit (.bool ((l1.D.length : Int) == 0)))) ?_
        refine rvc_nil ?_
        refine Awp.cond (b := ((l1.D.length : Int) == 0)) rfl (fun h16 => ?_) (fun h16 => ?_)
        ·
         replace hR := of_true h16 hR
         refine Awp.consP C ?_
         refine rvP C (.agg [.pv (.lit (.int .i64 0)), sS (some true) eMember []]) ?_
         refine rvc_un (rexec_prim C (δ := { v := .undef, wr := [(6, some (.cells [.pv (.lit (.int .i64 0)), sS (some true) eMember []]))] }) rfl rfl rfl rfl trivial rfl ?_)
         refine rvP C (.pv (.lit (.int .i64 83))) ?_
         refine rvc_nil ?_
         refine Awp.ret ?_
         subst hR
         exact ⟨.inl rfl, rfl⟩
        ·
         replace hR := of_false h16 hR
         refine Awp.skip ?_
         refine Awp.consP C ?_
         refine rvP C (.ptr 3 0) ?_
         refine rvP C (.pv (.lit (.int .i64 c.epoch))) ?_
         refine rvP C (.pv (.lit (.int .i64 (IntKind.i64.wrap (c.epoch + 1))))) ?_
         refine rvP C (.agg [.pv (.lit (.int .i64 (IntKind.i64.wrap (c.epoch + 1)))), sS (some true) eMember []]) ?_
         refine rvc_un (rexec_prim C (δ := { v := .ptr 11 0, new := [(11, .cells [.pv (.lit (.int .i64 0)), sS (some true) eMember []])] }) rfl rfl rfl rfl trivial rfl ?_)
         refine rvc_un (rexec_prim C (δ := { v := .undef, wr := [(11, some (.cells [.pv (.lit (.int .i64 (IntKind.i64.wrap (c.epoch + 1)))), sS (some true) eMember []]))] }) rfl rfl rfl rfl trivial rfl ?_)
         refine rvc_nil ?_
         refine Awp.consP C ?_
         refine rvP C (sS (some l1.nil) eMember l1.D) ?_
         refine rvP C (.ptr 11 1) ?_
         refine rvc_un (rexec_prim C (δ := { v := .undef, wr := [(11, some (.cells [.pv (.lit (.int .i64 (IntKind.i64.wrap (c.epoch + 1)))), sS (some l1.nil) eMember l1.D]))] }) rfl rfl rfl rfl trivial rfl ?_)
         refine rvc_nil ?_
         refine Awp.consP C ?_
         refine rvP C (.agg [.pv (.lit (.int .i64 (IntKind.i64.wrap (c.epoch + 1)))), sS (some l1.nil) eMember l1.D]) ?_
         refine rvc_un (rexec_prim C (δ := { v := .undef, wr := [(6, some (.cells [.pv (.lit (.int .i64 (IntKind.i64.wrap (c.epoch + 1)))), sS (some l1.nil) eMember l1.D]))] }) rfl rfl rfl rfl trivial rfl ?_)
         refine rvP C (.pv (.lit (.int .i64 0))) ?_
         refine rvc_nil ?_
         refine Awp.ret ?_
         subst hR
         exact ⟨.inl rfl, rfl⟩
     ·
      replace hR := of_false h12 hR
      refine rvS ?_
      refine rvS ?_
      refine rvS ?_
      refine rvS ?_
      refine rvP C (.pv (.lit (.bool false))) ?_
      refine rvc_nil ?_
      refine Awp.condF (b := false) rfl rfl ?_
      refine Awp.exit ?_
      refine Awp.seq ?_
      refine Awp.consP C ?_
      refine rvP C (sS (some l1.nil) eMember l1.D) ?_
      refine rvP C (.pv (.lit (.int .i64 (l1.D.length : Int)))) ?_
      refine rvP C (.ptr 3 1) ?_
      refine rvP C (sS (some c.members.nil) eMember c.members.D) ?_
      refine rvP C (.pv (.lit (.int .i64 (c.members.D.length : Int)))) ?_
      refine rvP C (.pv (.lit (.bool ((l1.D.length : Int) == (c.members.D.length : Int))))) ?_
      refine rvc_nil ?_
      refine Awp.cond (b := ((l1.D.length : Int) == (c.members.D.length : Int))) rfl (fun h17 => ?_) (fun h17 => ?_)
      ·
       replace hR := of_true h17 hR
       refine Awp.consP C ?_
       refine rvP C (.agg [.pv (.lit (.int .i64 0)), sS (some true) eMember []]) ?_
       refine rvc_un (rexec_prim C (δ := { v := .undef, wr := [(6, some (.cells [.pv (.lit (.int .i64 0)), sS (some true) eMember []]))] }) rfl rfl rfl rfl trivial rfl ?_)
       refine rvP C (.pv (.lit (.int .i64 81))) ?_
       refine rvc_nil ?_
       refine Awp.ret ?_
       subst hR
       exact ⟨.inl rfl, rfl⟩
      ·
       replace hR := of_false h17 hR
       refine Awp.skip ?_
       refine Awp.seq ?_
       refine Awp.consP C ?_
       refine rvP C (sS (some l1.nil) eMember l1.D) ?_
       refine rvP C (.pv (.lit (.int .i64 (l1.D.length : Int)))) ?_
       refine rvP C (.pv (.lit (.bool ((l1.D.length : Int) == 0)))) ?_
       refine rvc_nil ?_
       refine Awp.cond (b := ((l1.D.length : Int) == 0)) rfl (fun h18 => ?_) (fun h18 => ?_)
       ·
        replace hR := of_true h18 hR
        refine Awp.consP C ?_
        refine rvP C (.agg [.pv (.lit (.int .i64 0)), sS (some true) eMember []]) ?_
        refine rvc_un (rexec_prim C (δ := { v := .undef, wr := [(6, some (.cells [.pv (.lit (.int .i64 0)), sS (some true) eMember []]))] }) rfl rfl rfl rfl trivial rfl ?_)
        refine rvP C (.pv (.lit (.int .i64 83))) ?_
        refine rvc_nil ?_
        refine Awp.ret ?_
        subst hR
        exact ⟨.inl rfl, rfl⟩
       ·
        replace hR := of_false h18 hR
        refine Awp.skip ?_
        refine Awp.consP C ?_
        refine rvP C (.ptr 3 0) ?_
        refine rvP C (.pv (.lit (.int .i64 c.epoch))) ?_
        refine rvP C (.pv (.lit (.int .i64 (IntKind.i64.wrap (c.epoch + 1))))) ?_
        refine rvP C (.agg [.pv (.lit (.int .i64 (IntKind.i64.wrap (c.epoch + 1)))), sS (some true) eMember []]) ?_
        refine rvc_un (rexec_prim C (δ := { v := .ptr 11 0, new := [(11, .cells [.pv (.lit (.int .i64 0)), sS (some true) eMember []])] }) rfl rfl rfl rfl trivial rfl ?_)
        refine rvc_un (rexec_prim C (δ := { v := .undef, wr := [(11, some (.cells [.pv (.lit (.int .i64 (IntKind.i64.wrap (c.epoch + 1)))), sS (some true) eMember []]))] }) rfl rfl rfl rfl trivial rfl ?_)
        refine rvc_nil ?_
        refine Awp.consP C ?_
        refine rvP C (sS (some l1.nil) eMember l1.D) ?_
        refine rvP C (.ptr 11 1) ?_
        refine rvc_un (rexec_prim C (δ := { v := .undef, wr := [(11, some (.cells [.pv (.lit (.int .i64 (IntKind.i64.wrap (c.epoch + 1)))), sS (some l1.nil) eMember l1.D]))] }) rfl rfl rfl rfl trivial rfl ?_)
        refine rvc_nil ?_
        refine Awp.consP C ?_
        refine rvP C (.agg [.pv (.lit (.int .i64 (IntKind.i64.wrap (c.epoch + 1)))), sS (some l1.nil) eMember l1.D]) ?_
        refine rvc_un (rexec_prim C (δ := { v := .undef, wr := [(6, some (.cells [.pv (.lit (.int .i64 (IntKind.i64.wrap (c.epoch + 1)))), sS (some l1.nil) eMember l1.D]))] }) rfl rfl rfl rfl trivial rfl ?_)
        refine rvP C (.pv (.lit (.int .i64 0))) ?_
        refine rvc_nil ?_
        refine Awp.ret ?_
        subst hR
        exact ⟨.inl rfl, rfl⟩
   ·
    refine Awp.wordsR [(1, .pv (.lit (.int .i64 node))), (2, .pv (.lit (.int .i64 site))), (3, .ptr 3 0), (6, .ptr 6 0), (8, .sl 900 0 l.length 3 false), (21, sS (some c.members.nil) eMember c.members.D), (22, .pv (.lit (.int .i64 (c.members.D.length : Int)))), (23, .pv (.lit (.int .i64 (i : Int))))] [(900, .cells (encC eMember l)), (3, .cells [.pv (.lit (.int .i64 c.epoch)), sS (some c.members.nil) eMember c.members.D]), (6, .cells [.pv (.lit (.int .i64 0)), sS (some true) eMember []])] [3, 6, 900] (WeakerR.ofL (Ks := [3, 6, 900]) hI ⟨⟨rfl, rfl⟩, ⟨rfl, rfl⟩, ⟨rfl, rfl⟩, ⟨rfl, rfl⟩, ⟨(by exact grow_at_cons (b := 900) (b' := 900) (e := eMember) (l := l) rfl h4 rfl rfl rfl), rfl⟩, ⟨rfl, rfl⟩, ⟨rfl, rfl⟩, ⟨rfl, rfl⟩, trivial⟩ (okH_list (look_cons h4 rfl) rfl rfl (okH_cons (look_cons h4 rfl) rfl rfl rfl (okH_cons (look_cons h4 rfl) rfl rfl rfl (okH_nil)))) rfl) ?_
    refine Awp.consP C ?_
    refine rvP C (.pv (.lit (.bool (decide ((i : Int) < (c.members.D.length : Int)))))) ?_
    refine rvc_nil ?_
    refine Awp.seq ?_
    refine Awp.cond (b := (decide ((i : Int) < (c.members.D.length : Int)))) rfl (fun h19 => ?_) (fun h19 => ?_)
    ·
     have h20 : i < c.members.D.length := by have := of_decide_eq_true h19; omega
     obtain ⟨x, h21⟩ := getX h20
     rw [drop_at h21] at hR
     refine Awp.skip ?_
     refine Awp.seq ?_
     refine Awp.block ?_
     refine Awp.consP C ?_
     refine rvc_un (rexec_idxS C rfl rfl rfl rfl rfl rfl x (Int.natCast_nonneg _) h21 ?_)
     refine rvP C (.agg [.pv (.lit (.int .i64 x.node)), .pv (.lit (.int .i64 x.site)), .pv (.lit (.bool x.fresh))]) ?_
     refine rvc_un (rexec_prim C (δ := { v := .ptr 10 0, new := [(10, .cells [.pv (.lit (.int .i64 0)), .pv (.lit (.int .i64 0)), .pv (.lit (.bool false))])] }) rfl rfl rfl rfl trivial rfl ?_)
     refine rvc_un (rexec_prim C (δ := { v := .undef, wr := [(10, some (.cells [.pv (.lit (.int .i64 x.node)), .pv (.lit (.int .i64 x.site)), .pv (.lit (.bool x.fresh))]))] }) rfl rfl rfl rfl trivial rfl ?_)
     refine rvc_nil ?_
     refine Awp.consP C ?_
     refine rvP C (.ptr 10 0) ?_
     refine rvP C (.pv (.lit (.int .i64 x.node))) ?_
     refine rvP C (.pv (.lit (.int .i64 node))) ?_
     refine rvP C (.pv (.lit (.bool (x.node != node)))) ?_
     refine rvP C (.pv (.lit (.bool (x.node != node)))) ?_
     refine rvc_case 31 (x.node != node) rfl (fun h22 => ?_) (fun h22 => ?_)
     ·
      replace hR := of_true h22 hR
      refine rvO C (.ptr 10 1) ?_
      refine rvO C (.pv (.lit (.int .i64 x.site))) ?_
      refine rvO C (.pv (.lit (.int .i64 site))) ?_
      refine rvO C (.pv (.lit (.bool (x.site != site)))) ?_
      refine rvP C (.pv (.lit (.bool (x.site != site)))) ?_
      refine rvc_nil ?_
      refine Awp.cond (b := (x.site != site)) rfl (fun h23 => ?_) (fun h23 => ?_)
      ·
       replace hR := of_true h23 hR
       refine Awp.regionP C ?_
       refine rvP C (.sl 900 0 l.length 3 false) ?_
       refine rvP C (.agg [.pv (.lit (.int .i64 x.node)), .pv (.lit (.int .i64 x.site)), .pv (.lit (.bool x.fresh))]) ?_
       refine rvc_un (rexec_buildSliceF C eMember [x] rfl rfl rfl rfl rfl rfl rfl (by decide) rfl ?_)
       refine rvc_un (rexec_append C rfl rfl rfl rfl rfl rfl rfl rfl (fun _ h => by cases h) rfl (en := eMember) (D0 := l) (D := [x]) rfl rfl rfl rfl (by have := check_r (c := c); have := rCheck_le6 (c := c); have := eq_of_bne_false h1; have := ne_of_beq_false h2; have := of_decide_eq_true h19; have := bne_iff_ne.1 h22; have := bne_iff_ne.1 h23; first | omega | (simp <;> omega)) (by decide) (nn := (l ++ [x]).length) (by simp) ?_)
       refine rvP C (.sl 40 0 ((l ++ [x]).length) 3 false) ?_
       refine rvc_nil ?_
       refine Awp.regionP C ?_
       refine rvP C (.pv (.lit (.int .i64 (IntKind.i64.wrap ((i : Int) + 1))))) ?_
       refine rvP C (.pv (.lit (.int .i64 (IntKind.i64.wrap ((i : Int) + 1))))) ?_
       refine rvc_nil ?_
       refine ⟨h20, (l ++ [x]), ?_, ?_⟩
       · exact ⟨hR, (by first | omega | (simp <;> omega))⟩
       · exact ⟨fun b => bif b == 900 then 40 else (fun b => b) b, WeakerR.ofL (Ks := [3, 6, 900]) hI ⟨⟨rfl, rfl⟩, ⟨rfl, rfl⟩, ⟨rfl, rfl⟩, ⟨rfl, rfl⟩, ⟨grow_to rfl rfl app_ne rfl rfl, grow_within rfl⟩, ⟨rfl, rfl⟩, ⟨rfl, rfl⟩, ⟨lit_cast (wrap_i64 (by omega) (by omega)), rfl⟩, trivial⟩ (okH_grow (fun _ => rfl) rfl rfl (okH_cons rfl rfl rfl rfl (okH_cons rfl rfl rfl rfl (okH_nil)))) rfl⟩
      ·
       replace hR := of_false h23 hR
       refine Awp.skip ?_
       refine Awp.regionP C ?_
       refine rvP C (.pv (.lit (.int .i64 (IntKind.i64.wrap ((i : Int) + 1))))) ?_
       refine rvP C (.pv (.lit (.int .i64 (IntKind.i64.wrap ((i : Int) + 1))))) ?_
       refine rvc_nil ?_
       refine ⟨h20, l, ?_, ?_⟩
       · exact ⟨hR, (by first | omega | (simp <;> omega))⟩
       · exact ⟨fun b => b, WeakerR.ofL (Ks := [3, 6, 900]) hI ⟨⟨rfl, rfl⟩, ⟨rfl, rfl⟩, ⟨rfl, rfl⟩, ⟨rfl, rfl⟩, ⟨grow_to rfl rfl h4 rfl rfl, grow_within rfl⟩, ⟨rfl, rfl⟩, ⟨rfl, rfl⟩, ⟨lit_cast (wrap_i64 (by omega) (by omega)), rfl⟩, trivial⟩ (okH_grow (fun _ => rfl) rfl rfl (okH_cons rfl rfl rfl rfl (okH_cons rfl rfl rfl rfl (okH_nil)))) rfl⟩
     ·
      replace hR := of_false h22 hR
      refine rvS ?_
      refine rvS ?_
      refine rvS ?_
      refine rvS ?_
      refine rvP C (.pv (.lit (.bool false))) ?_
      refine rvc_nil ?_
      refine Awp.condF (b := false) rfl rfl ?_
      refine Awp.skip ?_
      refine Awp.regionP C ?_
      refine rvP C (.pv (.lit (.int .i64 (IntKind.i64.wrap ((i : Int) + 1))))) ?_
      refine rvP C (.pv (.lit (.int .i64 (IntKind.i64.wrap ((i : Int) + 1))))) ?_
      refine rvc_nil ?_
      refine ⟨h20, l, ?_, ?_⟩
      · exact ⟨hR, (by first | omega | (simp <;> omega))⟩
      · exact ⟨fun b => b, WeakerR.ofL (Ks := [3, 6, 900]) hI ⟨⟨rfl, rfl⟩, ⟨rfl, rfl⟩, ⟨rfl, rfl⟩, ⟨rfl, rfl⟩, ⟨grow_to rfl rfl h4 rfl rfl, grow_within rfl⟩, ⟨rfl, rfl⟩, ⟨rfl, rfl⟩, ⟨lit_cast (wrap_i64 (by omega) (by omega)), rfl⟩, trivial⟩ (okH_grow (fun _ => rfl) rfl rfl (okH_cons rfl rfl rfl rfl (okH_cons rfl rfl rfl rfl (okH_nil)))) rfl⟩
    ·
     have h20 : ¬ i < c.members.D.length := by have := of_decide_eq_false h19; omega
     rw [drop_end h20] at hR
     refine Awp.exit ?_
     refine Awp.seq ?_
     refine Awp.block ?_
     refine Awp.freezeW 900 (encL eMember l) ?_ [(3, .ptr 3 0), (6, .ptr 6 0), (8, sS (some l.isEmpty) eMember l)] [(3, .cells [.pv (.lit (.int .i64 c.epoch)), sS (some c.members.nil) eMember c.members.D]), (6, .cells [.pv (.lit (.int .i64 0)), sS (some true) eMember []])] ?_ ?_ ?_
     · rfl
     · exact ⟨⟨_, rfl, .inl (.inl rfl)⟩, ⟨_, rfl, .inl (.inl rfl)⟩, ⟨_, rfl, .inl (.inr ⟨_, _, _, rfl, by rw [ne_isEmpty h4]; rfl⟩)⟩, trivial⟩
     · exact ⟨⟨(by show (3 : Nat) ≠ 900; decide), .inl rfl⟩, ⟨(by show (6 : Nat) ≠ 900; decide), .inl rfl⟩, trivial⟩
     refine Awp.forM (σ := ((Sl Member))) (fun v => [(3, .ptr 3 0), (6, .ptr 6 0), (8, sS (some v.nil) eMember v.D)]) (fun v => [(3, .cells [.pv (.lit (.int .i64 c.epoch)), sS (some c.members.nil) eMember c.members.D]), (6, .cells [.pv (.lit (.int .i64 0)), sS (some true) eMember []])]) [3, 6] (fun n v => n = v.D.length ∧ rCut_l1 c (v.D.length + 1) v = R) ((Sl.mk l.isEmpty l).D.length) (Sl.mk l.isEmpty l) ?_ ?_ (fun _ l2 h24 => ?_)
     · exact ⟨rfl, hR⟩
     · exact ⟨fun b => b, WeakerR.ofL (Ks := [3, 6]) hI ⟨⟨rfl, rfl⟩, ⟨rfl, rfl⟩, ⟨rfl, rfl⟩, trivial⟩ (okH_cons rfl rfl rfl rfl (okH_cons rfl rfl rfl rfl (okH_nil))) rfl⟩
     obtain ⟨rfl, hR⟩ := h24
     refine Awp.seq ?_
     refine Awp.consP C ?_
     refine rvP C (sS (some l2.nil) eMember l2.D) ?_
     refine rvP C (.pv (.lit (.int .i64 (l2.D.length : Int)))) ?_
     refine rvP C (.pv (.lit (.bool (decide ((l2.D.length : Int) > 0))))) ?_
     refine rvP C (.pv (.lit (.bool (decide ((l2.D.length : Int) > 0))))) ?_
     refine rvc_case 45 (decide ((l2.D.length : Int) > 0)) rfl (fun h26 => ?_) (fun h26 => ?_)
     ·
      replace hR := of_true h26 hR
      refine rvO C (sS (some l2.nil) eMember l2.D) ?_
      have h27 : l2.D[0]? = some l2.D[0]! := getE (by have := check_r (c := c); have := rCheck_le6 (c := c); have := eq_of_bne_false h1; have := ne_of_beq_false h2; have := of_decide_eq_false h19; have := of_decide_eq_true h26; omega)
      refine rvc_open rfl rfl rfl (rexec_idxS C rfl rfl rfl rfl rfl rfl (l2.D[0]!) (Int.natCast_nonneg _) h27 ?_)
      refine rvO C (.rp [.lit (.bool (l2.D[0]!.fresh))]) ?_
      refine rvO C (.pv (.lit (.bool (l2.D[0]!.fresh)))) ?_
      refine rvP C (.pv (.lit (.bool (l2.D[0]!.fresh)))) ?_
      refine rvc_nil ?_
      refine Awp.cond (b := l2.D[0]!.fresh) rfl (fun h28 => ?_) (fun h28 => ?_)
      ·
       replace hR := of_true h28 hR
       refine Awp.skip ?_
       refine Awp.block ?_
       refine Awp.regionP C ?_
       refine rvP C (sS (some l2.nil) eMember l2.D) ?_
       refine rvc_un (rexec_sliceS C (e := eMember) (D := l2.D) 1 l2.D.length rfl rfl rfl rfl rfl rfl rfl rfl rfl rfl (by have := check_r (c := c); have := rCheck_le6 (c := c); have := eq_of_bne_false h1; have := ne_of_beq_false h2; have := of_decide_eq_false h19; have := of_decide_eq_true h26; omega) (by have := check_r (c := c); have := rCheck_le6 (c := c); have := eq_of_bne_false h1; have := ne_of_beq_false h2; have := of_decide_eq_false h19; have := of_decide_eq_true h26; omega) (l2.D.drop 1) (by rw [List.take_of_length_le (by simp)]) ?_)
       refine rvP C (sS (some l2.nil) eMember (l2.D.drop 1)) ?_
       refine rvc_nil ?_
       refine ⟨_, (Sl.mk l2.nil (l2.D.drop 1)), ?_, ⟨rfl, (by rw [show ((Sl.mk l2.nil (l2.D.drop 1)).D.length) + 1 = l2.D.length by have := check_r (c := c); have := rCheck_le6 (c := c); have := eq_of_bne_false h1; have := ne_of_beq_false h2; have := of_decide_eq_false h19; have := of_decide_eq_true h26; first | omega | (simp only [List.length_drop]; omega)]; exact hR)⟩, ?_⟩
       · show (Sl.mk l2.nil (l2.D.drop 1)).D.length < l2.D.length; have := check_r (c := c); have := rCheck_le6 (c := c); have := eq_of_bne_false h1; have := ne_of_beq_false h2; have := of_decide_eq_false h19; have := of_decide_eq_true h26; first | omega | (simp only [List.length_drop]; omega)
       · exact ⟨fun b => b, WeakerR.ofL (Ks := [3, 6]) hI ⟨⟨rfl, rfl⟩, ⟨rfl, rfl⟩, ⟨rfl, rfl⟩, trivial⟩ (okH_cons rfl rfl rfl rfl (okH_cons rfl rfl rfl rfl (okH_nil))) rfl⟩
      ·
       replace hR := of_false h28 hR
       refine Awp.exit ?_
       refine Awp.seq ?_
       refine Awp.consP C ?_
       refine rvP C (sS (some l2.nil) eMember l2.D) ?_
       refine rvP C (.pv (.lit (.int .i64 (l2.D.length : Int)))) ?_
       refine rvP C (.ptr 3 1) ?_
       refine rvP C (sS (some c.members.nil) eMember c.members.D) ?_
       refine rvP C (.pv (.lit (.int .i64 (c.members.D.length : Int)))) ?_
       refine rvP C (.pv (.lit (.bool ((l2.D.length : Int) == (c.members.D.length : Int))))) ?_
       refine rvc_nil ?_
       refine Awp.cond (b := ((l2.D.length : Int) == (c.members.D.length : Int))) rfl (fun h29 => ?_) (fun h29 => ?_)
       ·
        replace hR := of_true h29 hR
        refine Awp.consP C ?_
        refine rvP C (.agg [.pv (.lit (.int .i64 0)), sS (some true) eMember []]) ?_
        refine rvc_un (rexec_prim C (δ := { v := .undef, wr := [(6, some (.cells [.pv (.lit (.int .i64 0)), sS (some true) eMember []]))] }) rfl rfl rfl rfl trivial rfl ?_)
        refine rvP C (.pv (.lit (.int .i64 81))) ?_
        refine rvc_nil ?_
        refine Awp.ret ?_
        subst hR
        exact ⟨.inl rfl, rfl⟩
       ·
        replace hR := of_false h29 hR
        refine Awp.skip ?_
        refine Awp.seq ?_
        refine Awp.consP C ?_
        refine rvP C (sS (some l2.nil) eMember l2.D) ?_
        refine rvP C (.pv (.lit (.int .i64 (l2.D.length : Int)))) ?_
        refine rvP C (.pv (.lit (.bool ((l2.D.length : Int) == 0)))) ?_
        refine rvc_nil ?_
        refine Awp.cond (b := ((l2.D.length : Int) == 0)) rfl (fun h30 => ?_) (fun h30 => ?_)
        ·
         replace hR := of_true h30 hR
         refine Awp.consP C ?_
         refine rvP C (.agg [.pv (.lit (.int .i64 0)), sS (some true) eMember []]) ?_
         refine rvc_un (rexec_prim C (δ := { v := .undef, wr := [(6, some (.cells [.pv (.lit (.int .i64 0)), sS (some true) eMember []]))] }) rfl rfl rfl rfl trivial rfl ?_)
         refine rvP C (.pv (.lit (.int .i64 83))) ?_
         refine rvc_nil ?_
         refine Awp.ret ?_
         subst hR
         exact ⟨.inl rfl, rfl⟩
        ·
         replace hR := of_false h30 hR
         refine Awp.skip ?_
         refine Awp.consP C ?_
         refine rvP C (.ptr 3 0) ?_
         refine rvP C (.pv (.lit (.int .i64 c.epoch))) ?_
         refine rvP C (.pv (.lit (.int .i64 (IntKind.i64.wrap (c.epoch + 1))))) ?_
         refine rvP C (.agg [.pv (.lit (.int .i64 (IntKind.i64.wrap (c.epoch + 1)))), sS (some true) eMember []]) ?_
         refine rvc_un (rexec_prim C (δ := { v := .ptr 11 0, new := [(11, .cells [.pv (.lit (.int .i64 0)), sS (some true) eMember []])] }) rfl rfl rfl rfl trivial rfl ?_)
         refine rvc_un (rexec_prim C (δ := { v := .undef, wr := [(11, some (.cells [.pv (.lit (.int .i64 (IntKind.i64.wrap (c.epoch + 1)))), sS (some true) eMember []]))] }) rfl rfl rfl rfl trivial rfl ?_)
         refine rvc_nil ?_
         refine Awp.consP C ?_
         refine rvP C (sS (some l2.nil) eMember l2.D) ?_
         refine rvP C (.ptr 11 1) ?_
         refine rvc_un (rexec_prim C (δ := { v := .undef, wr := [(11, some (.cells [.pv (.lit (.int .i64 (IntKind.i64.wrap (c.epoch + 1)))), sS (some l2.nil) eMember l2.D]))] }) rfl rfl rfl rfl trivial rfl ?_)
         refine rvc_nil ?_
         refine Awp.consP C ?_
         refine rvP C (.agg [.pv (.lit (.int .i64 (IntKind.i64.wrap (c.epoch + 1)))), sS (some l2.nil) eMember l2.D]) ?_
         refine rvc_un (rexec_prim C (δ := { v := .undef, wr := [(6, some (.cells [.pv (.lit (.int .i64 (IntKind.i64.wrap (c.epoch + 1)))), sS (some l2.nil) eMember l2.D]))] }) rfl rfl rfl rfl trivial rfl ?_)
         refine rvP C (.pv (.lit (.int .i64 0))) ?_
         refine rvc_nil ?_
         refine Awp.ret ?_
         subst hR
         exact ⟨.inl rfl, rfl⟩
     ·
      replace hR := of_false h26 hR
      refine rvS ?_
      refine rvS ?_
      refine rvS ?_
      refine rvS ?_
      refine rvP C (.pv (.lit (.bool false))) ?_
      refine rvc_nil ?_
      refine Awp.condF (b := false) rfl rfl ?_
      refine Awp.exit ?_
      refine Awp.seq ?_
      refine Awp.consP C ?_
      refine rvP C (sS (some l2.nil) eMember l2.D) ?_
      refine rvP C (.pv (.lit (.int .i64 (l2.D.length : Int)))) ?_
      refine rvP C (.ptr 3 1) ?_
      refine rvP C (sS (some c.members.nil) eMember c.members.D) ?_
      refine rvP C (.pv (.lit (.int .i64 (c.members.D.length : Int)))) ?_
      refine rvP C (.pv (.lit (.bool ((l2.D.length : Int) == (c.members.D.length : Int))))) ?_
      refine rvc_nil ?_
      refine Awp.cond (b := ((l2.D.length : Int) == (c.members.D.length : Int))) rfl (fun h31 => ?_) (fun h31 => ?_)
      ·
       replace hR := of_true h31 hR
       refine Awp.consP C ?_
       refine rvP C (.agg [.pv (.lit (.int .i64 0)), sS (some true) eMember []]) ?_
       refine rvc_un (rexec_prim C (δ := { v := .undef, wr := [(6, some (.cells [.pv (.lit (.int .i64 0)), sS (some true) eMember []]))] }) rfl rfl rfl rfl trivial rfl ?_)
       refine rvP C (.pv (.lit (.int .i64 81))) ?_
       refine rvc_nil ?_
       refine Awp.ret ?_
       subst hR
       exact ⟨.inl rfl, rfl⟩
      ·
       replace hR := of_false h31 hR
       refine Awp.skip ?_
       refine Awp.seq ?_
       refine Awp.consP C ?_
       refine rvP C (sS (some l2.nil) eMember l2.D) ?_
       refine rvP C (.pv (.lit (.int .i64 (l2.D.length : Int)))) ?_
       refine rvP C (.pv (.lit (.bool ((l2.D.length : Int) == 0)))) ?_
       refine rvc_nil ?_
       refine Awp.cond (b := ((l2.D.length : Int) == 0)) rfl (fun h32 => ?_) (fun h32 => ?_)
       ·
        replace hR := of_true h32 hR
        refine Awp.consP C ?_
        refine rvP C (.agg [.pv (.lit (.int .i64 0)), sS (some true) eMember []]) ?_
        refine rvc_un (rexec_prim C (δ := { v := .undef, wr := [(6, some (.cells [.pv (.lit (.int .i64 0)), sS (some true) eMember []]))] }) rfl rfl rfl rfl trivial rfl ?_)
        refine rvP C (.pv (.lit (.int .i64 83))) ?_
        refine rvc_nil ?_
        refine Awp.ret ?_
        subst hR
        exact ⟨.inl rfl, rfl⟩
       ·
        replace hR := of_false h32 hR
        refine Awp.skip ?_
        refine Awp.consP C ?_
        refine rvP C (.ptr 3 0) ?_
        refine rvP C (.pv (.lit (.int .i64 c.epoch))) ?_
        refine rvP C (.pv (.lit (.int .i64 (IntKind.i64.wrap (c.epoch + 1))))) ?_
        refine rvP C (.agg [.pv (.lit (.int .i64 (IntKind.i64.wrap (c.epoch + 1)))), sS (some true) eMember []]) ?_
        refine rvc_un (rexec_prim C (δ := { v := .ptr 11 0, new := [(11, .cells [.pv (.lit (.int .i64 0)), sS (some true) eMember []])] }) rfl rfl rfl rfl trivial rfl ?_)
        refine rvc_un (rexec_prim C (δ := { v := .undef, wr := [(11, some (.cells [.pv (.lit (.int .i64 (IntKind.i64.wrap (c.epoch + 1)))), sS (some true) eMember []]))] }) rfl rfl rfl rfl trivial rfl ?_)
        refine rvc_nil ?_
        refine Awp.consP C ?_
        refine rvP C (sS (some l2.nil) eMember l2.D) ?_
        refine rvP C (.ptr 11 1) ?_
        refine rvc_un (rexec_prim C (δ := { v := .undef, wr := [(11, some (.cells [.pv (.lit (.int .i64 (IntKind.i64.wrap (c.epoch + 1)))), sS (some l2.nil) eMember l2.D]))] }) rfl rfl rfl rfl trivial rfl ?_)
        refine rvc_nil ?_
        refine Awp.consP C ?_
        refine rvP C (.agg [.pv (.lit (.int .i64 (IntKind.i64.wrap (c.epoch + 1)))), sS (some l2.nil) eMember l2.D]) ?_
        refine rvc_un (rexec_prim C (δ := { v := .undef, wr := [(6, some (.cells [.pv (.lit (.int .i64 (IntKind.i64.wrap (c.epoch + 1)))), sS (some l2.nil) eMember l2.D]))] }) rfl rfl rfl rfl trivial rfl ?_)
        refine rvP C (.pv (.lit (.int .i64 0))) ?_
        refine rvc_nil ?_
        refine Awp.ret ?_
        subst hR
        exact ⟨.inl rfl, rfl⟩
end Go.Proofs.Ytaffaalpgpepeaa
/- Small functions of plan. No conditions. -/
namespace Go.Proofs.Ytaffaalpgpepeaa
open Go.Am
structure Command where
  kind : Int
  node : Int
  site : Int
  epoch : Int
  deriving Inhabited
def eCommand : Enc Command := ⟨4, fun x => [.lit (.int .i64 x.kind), .lit (.int .i64 x.node), .lit (.int .i64 x.site), .lit (.int .i64 x.epoch)], fun _ => rfl⟩
def cmdCheck (c : Command) : Int :=
  (bif (decide (c.node ≥ 0)) then (bif (decide (c.site ≥ 0)) then (bif (decide (c.epoch ≥ 1)) then (bif (c.kind == 1) then (bif (decide (c.epoch ≤ 1099511627776)) then (bif (decide (c.node < 6)) then (bif (!(c.site == 0)) then 120 else 0) else 120) else 120) else (bif (c.kind == 3) then (bif (decide (c.epoch ≤ 1099511627776)) then (bif (decide (c.node < 6)) then (bif (!(c.site == 0)) then 120 else 0) else 120) else 120) else (bif (c.kind == 4) then (bif (decide (c.epoch ≤ 1099511627776)) then (bif (decide (c.node < 6)) then (bif (!(c.site == 0)) then 120 else 0) else 120) else 120) else (bif (c.kind == 2) then (bif (decide (c.epoch ≤ 1099511627776)) then (bif (decide (c.node < 6)) then (bif (!(decide (c.site < 3))) then 120 else 0) else 120) else 120) else (bif (c.kind == 5) then (bif (decide (c.epoch ≤ 1099511627776)) then (bif (decide (c.site < 3)) then (bif (!(c.node == 0)) then 120 else 0) else 120) else 120) else 120))))) else (bif (c.kind == 1) then 120 else (bif (c.kind == 3) then 120 else (bif (c.kind == 4) then 120 else (bif (c.kind == 2) then 120 else (bif (c.kind == 5) then 120 else 120)))))) else (bif (decide (c.epoch ≥ 1)) then (bif (c.kind == 1) then (bif (decide (c.epoch ≤ 1099511627776)) then (bif (decide (c.node < 6)) then (bif (!(c.site == 0)) then 120 else 0) else 120) else 120) else (bif (c.kind == 3) then (bif (decide (c.epoch ≤ 1099511627776)) then (bif (decide (c.node < 6)) then (bif (!(c.site == 0)) then 120 else 0) else 120) else 120) else (bif (c.kind == 4) then (bif (decide (c.epoch ≤ 1099511627776)) then (bif (decide (c.node < 6)) then (bif (!(c.site == 0)) then 120 else 0) else 120) else 120) else (bif (c.kind == 2) then (bif (decide (c.epoch ≤ 1099511627776)) then (bif (decide (c.node < 6)) then 120 else 120) else 120) else (bif (c.kind == 5) then (bif (decide (c.epoch ≤ 1099511627776)) then 120 else 120) else 120))))) else (bif (c.kind == 1) then 120 else (bif (c.kind == 3) then 120 else (bif (c.kind == 4) then 120 else (bif (c.kind == 2) then 120 else (bif (c.kind == 5) then 120 else 120))))))) else (bif (decide (c.site ≥ 0)) then (bif (decide (c.epoch ≥ 1)) then (bif (c.kind == 1) then (bif (decide (c.epoch ≤ 1099511627776)) then 120 else 120) else (bif (c.kind == 3) then (bif (decide (c.epoch ≤ 1099511627776)) then 120 else 120) else (bif (c.kind == 4) then (bif (decide (c.epoch ≤ 1099511627776)) then 120 else 120) else (bif (c.kind == 2) then (bif (decide (c.epoch ≤ 1099511627776)) then 120 else 120) else (bif (c.kind == 5) then (bif (decide (c.epoch ≤ 1099511627776)) then (bif (decide (c.site < 3)) then (bif (!(c.node == 0)) then 120 else 0) else 120) else 120) else 120))))) else (bif (c.kind == 1) then 120 else (bif (c.kind == 3) then 120 else (bif (c.kind == 4) then 120 else (bif (c.kind == 2) then 120 else (bif (c.kind == 5) then 120 else 120)))))) else (bif (decide (c.epoch ≥ 1)) then (bif (c.kind == 1) then (bif (decide (c.epoch ≤ 1099511627776)) then 120 else 120) else (bif (c.kind == 3) then (bif (decide (c.epoch ≤ 1099511627776)) then 120 else 120) else (bif (c.kind == 4) then (bif (decide (c.epoch ≤ 1099511627776)) then 120 else 120) else (bif (c.kind == 2) then (bif (decide (c.epoch ≤ 1099511627776)) then 120 else 120) else (bif (c.kind == 5) then (bif (decide (c.epoch ≤ 1099511627776)) then 120 else 120) else 120))))) else (bif (c.kind == 1) then 120 else (bif (c.kind == 3) then 120 else (bif (c.kind == 4) then 120 else (bif (c.kind == 2) then 120 else (bif (c.kind == 5) then 120 else 120))))))))
theorem cmdCheck_calls (c : Command)  : PCalls Try.prog 47 [.agg [.pv (.lit (.int .i64 c.kind)), .pv (.lit (.int .i64 c.node)), .pv (.lit (.int .i64 c.site)), .pv (.lit (.int .i64 c.epoch))]] (.pv (.lit (.int .i64 (cmdCheck c)))) := by
 generalize hR : cmdCheck c = R
 refine PCalls.of_body tabOk Try.func47 rfl rfl rfl rfl rfl mixed fun E hP C hI => ?_
 refine Awp.consP C ?_
 refine rvc_un (rexec_prim C (δ := { v := .ptr 1 0, new := [(1, .cells [.pv (.lit (.int .i64 c.kind)), .pv (.lit (.int .i64 c.node)), .pv (.lit (.int .i64 c.site)), .pv (.lit (.int .i64 c.epoch))])] }) rfl rfl rfl rfl trivial rfl ?_)
 refine rvP C (.pv (.lit (.int .i64 0))) ?_
 refine rvc_nil ?_
 refine Awp.consP C ?_
 refine rvP C (.ptr 1 1) ?_
 refine rvP C (.pv (.lit (.int .i64 c.node))) ?_
 refine rvP C (.pv (.lit (.bool (decide (c.node ≥ 0))))) ?_
 refine rvP C (.pv (.lit (.bool (decide (c.node ≥ 0))))) ?_
 refine rvc_case 9 (decide (c.node ≥ 0)) rfl (fun h1 => ?_) (fun h1 => ?_)
 ·
  replace hR := of_true h1 hR
  refine rvO C (.ptr 1 1) ?_
  refine rvO C (.pv (.lit (.int .i64 c.node))) ?_
  refine rvO C (.pv (.lit (.bool (decide (c.node < 6))))) ?_
  refine rvP C (.pv (.lit (.bool (decide (c.node < 6))))) ?_
  refine rvP C (.pv (.lit (.bool (decide (c.node < 6))))) ?_
  refine rvc_nil ?_
  refine Awp.consP C ?_
  refine rvP C (.ptr 1 2) ?_
  refine rvP C (.pv (.lit (.int .i64 c.site))) ?_
  refine rvP C (.pv (.lit (.bool (decide (c.site ≥ 0))))) ?_
  refine rvP C (.pv (.lit (.bool (decide (c.site ≥ 0))))) ?_
  refine rvc_case 17 (decide (c.site ≥ 0)) rfl (fun h2 => ?_) (fun h2 => ?_)
  ·
   replace hR := of_true h2 hR
   refine rvO C (.ptr 1 2) ?_
   refine rvO C (.pv (.lit (.int .i64 c.site))) ?_
   refine rvO C (.pv (.lit (.bool (decide (c.site < 3))))) ?_
   refine rvP C (.pv (.lit (.bool (decide (c.site < 3))))) ?_
   refine rvP C (.pv (.lit (.bool (decide (c.site < 3))))) ?_
   refine rvc_nil ?_
   refine Awp.consP C ?_
   refine rvP C (.ptr 1 3) ?_
   refine rvP C (.pv (.lit (.int .i64 c.epoch))) ?_
   refine rvP C (.pv (.lit (.bool (decide (c.epoch ≥ 1))))) ?_
   refine rvP C (.pv (.lit (.bool (decide (c.epoch ≥ 1))))) ?_
   refine rvc_case 25 (decide (c.epoch ≥ 1)) rfl (fun h3 => ?_) (fun h3 => ?_)
   ·
    replace hR := of_true h3 hR
    refine rvO C (.ptr 1 3) ?_
    refine rvO C (.pv (.lit (.int .i64 c.epoch))) ?_
    refine rvO C (.pv (.lit (.bool (decide (c.epoch ≤ 1099511627776))))) ?_
    refine rvP C (.pv (.lit (.bool (decide (c.epoch ≤ 1099511627776))))) ?_
    refine rvP C (.pv (.lit (.bool (decide (c.epoch ≤ 1099511627776))))) ?_
    refine rvc_nil ?_
    refine Awp.seq ?_
    refine Awp.consP C ?_
    refine rvP C (.ptr 1 0) ?_
    refine rvP C (.pv (.lit (.int .i64 c.kind))) ?_
    refine rvc_nil ?_
    refine Awp.block ?_
    refine Awp.seq ?_
    refine Awp.consP C ?_
    refine rvP C (.pv (.lit (.bool (c.kind == 1)))) ?_
    refine rvP C (.pv (.lit (.bool (c.kind == 1)))) ?_
    refine rvc_nil ?_
    refine Awp.cond (b := (c.kind == 1)) rfl (fun h4 => ?_) (fun h4 => ?_)
    ·
     replace hR := of_true h4 hR
     refine Awp.skip ?_
     refine Awp.condT (b := (c.kind == 1)) rfl h4 ?_
     refine Awp.regionP C ?_
     refine rvP C (.pv (.lit (.bool (decide (c.epoch ≤ 1099511627776))))) ?_
     refine rvP C (.pv (.lit (.bool (decide (c.epoch ≤ 1099511627776))))) ?_
     refine rvc_case 37 (decide (c.epoch ≤ 1099511627776)) rfl (fun h5 => ?_) (fun h5 => ?_)
     ·
      replace hR := of_true h5 hR
      refine rvO C (.pv (.lit (.bool (decide (c.node < 6))))) ?_
      refine rvP C (.pv (.lit (.bool (decide (c.node < 6))))) ?_
      refine rvP C (.pv (.lit (.bool (decide (c.node < 6))))) ?_
      refine rvc_case 40 (decide (c.node < 6)) rfl (fun h6 => ?_) (fun h6 => ?_)
      ·
       replace hR := of_true h6 hR
       refine rvO C (.ptr 1 2) ?_
       refine rvO C (.pv (.lit (.int .i64 c.site))) ?_
       refine rvO C (.pv (.lit (.bool (c.site == 0)))) ?_
       refine rvP C (.pv (.lit (.bool (c.site == 0)))) ?_
       refine rvP C (.pv (.lit (.bool (c.site == 0)))) ?_
       refine rvc_nil ?_
       refine Awp.seq ?_
       refine Awp.consP C ?_
       refine rvP C (.pv (.lit (.bool (c.site == 0)))) ?_
       refine rvP C (.pv (.lit (.bool (!(c.site == 0))))) ?_
       refine rvc_nil ?_
       refine Awp.cond (b := (!(c.site == 0))) rfl (fun h7 => ?_) (fun h7 => ?_)
       ·
        replace hR := of_true h7 hR
        refine Awp.consP C ?_
        refine rvP C (.pv (.lit (.int .i64 120))) ?_
        refine rvc_nil ?_
        refine Awp.ret ?_
        subst hR
        exact ⟨.inl rfl, rfl⟩
       ·
        replace hR := of_false h7 hR
        refine Awp.skip ?_
        refine Awp.consP C ?_
        refine rvP C (.pv (.lit (.int .i64 0))) ?_
        refine rvc_nil ?_
        refine Awp.ret ?_
        subst hR
        exact ⟨.inl rfl, rfl⟩
      ·
       replace hR := of_false h6 hR
       refine rvS ?_
       refine rvS ?_
       refine rvS ?_
       refine rvP C (.pv (.lit (.bool false))) ?_
       refine rvP C (.pv (.lit (.bool false))) ?_
       refine rvc_nil ?_
       refine Awp.seq ?_
       refine Awp.consP C ?_
       refine rvP C (.pv (.lit (.bool false))) ?_
       refine rvP C (.pv (.lit (.bool true))) ?_
       refine rvc_nil ?_
       refine Awp.condT (b := true) rfl rfl ?_
       refine Awp.consP C ?_
       refine rvP C (.pv (.lit (.int .i64 120))) ?_
       refine rvc_nil ?_
       refine Awp.ret ?_
       subst hR
       exact ⟨.inl rfl, rfl⟩
     ·
      replace hR := of_false h5 hR
      refine rvS ?_
      refine rvP C (.pv (.lit (.bool false))) ?_
      refine rvP C (.pv (.lit (.bool false))) ?_
      refine rvS ?_
      refine rvS ?_
      refine rvS ?_
      refine rvP C (.pv (.lit (.bool false))) ?_
      refine rvP C (.pv (.lit (.bool false))) ?_
      refine rvc_nil ?_
      refine Awp.seq ?_
      refine Awp.consP C ?_
      refine rvP C (.pv (.lit (.bool false))) ?_
      refine rvP C (.pv (.lit (.bool true))) ?_
      refine rvc_nil ?_
      refine Awp.condT (b := true) rfl rfl ?_
      refine Awp.consP C ?_
      refine rvP C (.pv (.lit (.int .i64 120))) ?_
      refine rvc_nil ?_
      refine Awp.ret ?_
      subst hR
      exact ⟨.inl rfl, rfl⟩
    ·
     replace hR := of_false h4 hR
     refine Awp.consP C ?_
     refine rvP C (.pv (.lit (.bool (c.kind == 3)))) ?_
     refine rvP C (.pv (.lit (.bool (c.kind == 3)))) ?_
     refine rvc_nil ?_
     refine Awp.cond (b := (c.kind == 3)) rfl (fun h8 => ?_) (fun h8 => ?_)
     ·
      replace hR := of_true h8 hR
      refine Awp.skip ?_
      refine Awp.condT (b := (c.kind == 3)) rfl h8 ?_
      refine Awp.regionP C ?_
      refine rvP C (.pv (.lit (.bool (decide (c.epoch ≤ 1099511627776))))) ?_
      refine rvP C (.pv (.lit (.bool (decide (c.epoch ≤ 1099511627776))))) ?_
      refine rvc_case 37 (decide (c.epoch ≤ 1099511627776)) rfl (fun h9 => ?_) (fun h9 => ?_)
      ·
       replace hR := of_true h9 hR
       refine rvO C (.pv (.lit (.bool (decide (c.node < 6))))) ?_
       refine rvP C (.pv (.lit (.bool (decide (c.node < 6))))) ?_
       refine rvP C (.pv (.lit (.bool (decide (c.node < 6))))) ?_
       refine rvc_case 40 (decide (c.node < 6)) rfl (fun h10 => ?_) (fun h10 => ?_)
       ·
        replace hR := of_true h10 hR
        refine rvO C (.ptr 1 2) ?_
        refine rvO C (.pv (.lit (.int .i64 c.site))) ?_
        refine rvO C (.pv (.lit (.bool (c.site == 0)))) ?_
        refine rvP C (.pv (.lit (.bool (c.site == 0)))) ?_
        refine rvP C (.pv (.lit (.bool (c.site == 0)))) ?_
        refine rvc_nil ?_
        refine Awp.seq ?_
        refine Awp.consP C ?_
        refine rvP C (.pv (.lit (.bool (c.site == 0)))) ?_
        refine rvP C (.pv (.lit (.bool (!(c.site == 0))))) ?_
        refine rvc_nil ?_
        refine Awp.cond (b := (!(c.site == 0))) rfl (fun h11 => ?_) (fun h11 => ?_)
        ·
         replace hR := of_true h11 hR
         refine Awp.consP C ?_
         refine rvP C (.pv (.lit (.int .i64 120))) ?_
         refine rvc_nil ?_
         refine Awp.ret ?_
         subst hR
         exact ⟨.inl rfl, rfl⟩
        ·
         replace hR := of_false h11 hR
         refine Awp.skip ?_
         refine Awp.consP C ?_
         refine rvP C (.pv (.lit (.int .i64 0))) ?_
         refine rvc_nil ?_
         refine Awp.ret ?_
         subst hR
         exact ⟨.inl rfl, rfl⟩
       ·
        replace hR := of_false h10 hR
        refine rvS ?_
        refine rvS ?_
        refine rvS ?_
        refine rvP C (.pv (.lit (.bool false))) ?_
        refine rvP C (.pv (.lit (.bool false))) ?_
        refine rvc_nil ?_
        refine Awp.seq ?_
        refine Awp.consP C ?_
        refine rvP C (.pv (.lit (.bool false))) ?_
        refine rvP C (.pv (.lit (.bool true))) ?_
        refine rvc_nil ?_
        refine Awp.condT (b := true) rfl rfl ?_
        refine Awp.consP C ?_
        refine rvP C (.pv (.lit (.int .i64 120))) ?_
        refine rvc_nil ?_
        refine Awp.ret ?_
        subst hR
        exact ⟨.inl rfl, rfl⟩
      ·
       replace hR := of_false h9 hR
       refine rvS ?_
       refine rvP C (.pv (.lit (.bool false))) ?_
       refine rvP C (.pv (.lit (.bool false))) ?_
       refine rvS ?_
       refine rvS ?_
       refine rvS ?_
       refine rvP C (.pv (.lit (.bool false))) ?_
       refine rvP C (.pv (.lit (.bool false))) ?_
       refine rvc_nil ?_
       refine Awp.seq ?_
       refine Awp.consP C ?_
       refine rvP C (.pv (.lit (.bool false))) ?_
       refine rvP C (.pv (.lit (.bool true))) ?_
       refine rvc_nil ?_
       refine Awp.condT (b := true) rfl rfl ?_
       refine Awp.consP C ?_
       refine rvP C (.pv (.lit (.int .i64 120))) ?_
       refine rvc_nil ?_
       refine Awp.ret ?_
       subst hR
       exact ⟨.inl rfl, rfl⟩
     ·
      replace hR := of_false h8 hR
      refine Awp.regionP C ?_
      refine rvP C (.pv (.lit (.bool (c.kind == 4)))) ?_
      refine rvP C (.pv (.lit (.bool (c.kind == 4)))) ?_
      refine rvc_nil ?_
      refine Awp.cond (b := (c.kind == 4)) rfl (fun h12 => ?_) (fun h12 => ?_)
      ·
       replace hR := of_true h12 hR
       refine Awp.regionP C ?_
       refine rvP C (.pv (.lit (.bool (decide (c.epoch ≤ 1099511627776))))) ?_
       refine rvP C (.pv (.lit (.bool (decide (c.epoch ≤ 1099511627776))))) ?_
       refine rvc_case 37 (decide (c.epoch ≤ 1099511627776)) rfl (fun h13 => ?_) (fun h13 => ?_)
       ·
        replace hR := of_true h13 hR
        refine rvO C (.pv (.lit (.bool (decide (c.node < 6))))) ?_
        refine rvP C (.pv (.lit (.bool (decide (c.node < 6))))) ?_
        refine rvP C (.pv (.lit (.bool (decide (c.node < 6))))) ?_
        refine rvc_case 40 (decide (c.node < 6)) rfl (fun h14 => ?_) (fun h14 => ?_)
        ·
         replace hR := of_true h14 hR
         refine rvO C (.ptr 1 2) ?_
         refine rvO C (.pv (.lit (.int .i64 c.site))) ?_
         refine rvO C (.pv (.lit (.bool (c.site == 0)))) ?_
         refine rvP C (.pv (.lit (.bool (c.site == 0)))) ?_
         refine rvP C (.pv (.lit (.bool (c.site == 0)))) ?_
         refine rvc_nil ?_
         refine Awp.seq ?_
         refine Awp.consP C ?_
         refine rvP C (.pv (.lit (.bool (c.site == 0)))) ?_
         refine rvP C (.pv (.lit (.bool (!(c.site == 0))))) ?_
         refine rvc_nil ?_
         refine Awp.cond (b := (!(c.site == 0))) rfl (fun h15 => ?_) (fun h15 => ?_)
         ·
          replace hR := of_true h15 hR
          refine Awp.consP C ?_
          refine rvP C (.pv (.lit (.int .i64 120))) ?_
          refine rvc_nil ?_
          refine Awp.ret ?_
          subst hR
          exact ⟨.inl rfl, rfl⟩
         ·
          replace hR := of_false h15 hR
          refine Awp.skip ?_
          refine Awp.consP C ?_
          refine rvP C (.pv (.lit (.int .i64 0))) ?_
          refine rvc_nil ?_
          refine Awp.ret ?_
          subst hR
          exact ⟨.inl rfl, rfl⟩
        ·
         replace hR := of_false h14 hR
         refine rvS ?_
         refine rvS ?_
         refine rvS ?_
         refine rvP C (.pv (.lit (.bool false))) ?_
         refine rvP C (.pv (.lit (.bool false))) ?_
         refine rvc_nil ?_
         refine Awp.seq ?_
         refine Awp.consP C ?_
         refine rvP C (.pv (.lit (.bool false))) ?_
         refine rvP C (.pv (.lit (.bool true))) ?_
         refine rvc_nil ?_
         refine Awp.condT (b := true) rfl rfl ?_
         refine Awp.consP C ?_
         refine rvP C (.pv (.lit (.int .i64 120))) ?_
         refine rvc_nil ?_
         refine Awp.ret ?_
         subst hR
         exact ⟨.inl rfl, rfl⟩
       ·
        replace hR := of_false h13 hR
        refine rvS ?_
        refine rvP C (.pv (.lit (.bool false))) ?_
        refine rvP C (.pv (.lit (.bool false))) ?_
        refine rvS ?_
        refine rvS ?_
        refine rvS ?_
        refine rvP C (.pv (.lit (.bool false))) ?_
        refine rvP C (.pv (.lit (.bool false))) ?_
        refine rvc_nil ?_
        refine Awp.seq ?_
        refine Awp.consP C ?_
        refine rvP C (.pv (.lit (.bool false))) ?_
        refine rvP C (.pv (.lit (.bool true))) ?_
        refine rvc_nil ?_
        refine Awp.condT (b := true) rfl rfl ?_
        refine Awp.consP C ?_
        refine rvP C (.pv (.lit (.int .i64 120))) ?_
        refine rvc_nil ?_
        refine Awp.ret ?_
        subst hR
        exact ⟨.inl rfl, rfl⟩
      ·
       replace hR := of_false h12 hR
       refine Awp.consP C ?_
       refine rvP C (.pv (.lit (.bool (c.kind == 2)))) ?_
       refine rvP C (.pv (.lit (.bool (c.kind == 2)))) ?_
       refine rvc_nil ?_
       refine Awp.cond (b := (c.kind == 2)) rfl (fun h16 => ?_) (fun h16 => ?_)
       ·
        replace hR := of_true h16 hR
        refine Awp.regionP C ?_
        refine rvP C (.pv (.lit (.bool (decide (c.epoch ≤ 1099511627776))))) ?_
        refine rvP C (.pv (.lit (.bool (decide (c.epoch ≤ 1099511627776))))) ?_
        refine rvc_case 48 (decide (c.epoch ≤ 1099511627776)) rfl (fun h17 => ?_) (fun h17 => ?_)
        ·
         replace hR := of_true h17 hR
         refine rvO C (.pv (.lit (.bool (decide (c.node < 6))))) ?_
         refine rvP C (.pv (.lit (.bool (decide (c.node < 6))))) ?_
         refine rvP C (.pv (.lit (.bool (decide (c.node < 6))))) ?_
         refine rvc_case 51 (decide (c.node < 6)) rfl (fun h18 => ?_) (fun h18 => ?_)
         ·
          replace hR := of_true h18 hR
          refine rvO C (.pv (.lit (.bool (decide (c.site < 3))))) ?_
          refine rvP C (.pv (.lit (.bool (decide (c.site < 3))))) ?_
          refine rvP C (.pv (.lit (.bool (decide (c.site < 3))))) ?_
          refine rvc_nil ?_
          refine Awp.seq ?_
          refine Awp.consP C ?_
          refine rvP C (.pv (.lit (.bool (decide (c.site < 3))))) ?_
          refine rvP C (.pv (.lit (.bool (!(decide (c.site < 3)))))) ?_
          refine rvc_nil ?_
          refine Awp.cond (b := (!(decide (c.site < 3)))) rfl (fun h19 => ?_) (fun h19 => ?_)
          ·
           replace hR := of_true h19 hR
           refine Awp.consP C ?_
           refine rvP C (.pv (.lit (.int .i64 120))) ?_
           refine rvc_nil ?_
           refine Awp.ret ?_
           subst hR
           exact ⟨.inl rfl, rfl⟩
          ·
           replace hR := of_false h19 hR
           refine Awp.skip ?_
           refine Awp.consP C ?_
           refine rvP C (.pv (.lit (.int .i64 0))) ?_
           refine rvc_nil ?_
           refine Awp.ret ?_
           subst hR
           exact ⟨.inl rfl, rfl⟩
         ·
          replace hR := of_false h18 hR
          refine rvS ?_
          refine rvP C (.pv (.lit (.bool false))) ?_
          refine rvP C (.pv (.lit (.bool false))) ?_
          refine rvc_nil ?_
          refine Awp.seq ?_
          refine Awp.consP C ?_
          refine rvP C (.pv (.lit (.bool false))) ?_
          refine rvP C (.pv (.lit (.bool true))) ?_
          refine rvc_nil ?_
          refine Awp.condT (b := true) rfl rfl ?_
          refine Awp.consP C ?_
          refine rvP C (.pv (.lit (.int .i64 120))) ?_
          refine rvc_nil ?_
          refine Awp.ret ?_
          subst hR
          exact ⟨.inl rfl, rfl⟩
        ·
         replace hR := of_false h17 hR
         refine rvS ?_
         refine rvP C (.pv (.lit (.bool false))) ?_
         refine rvP C (.pv (.lit (.bool false))) ?_
         refine rvS ?_
         refine rvP C (.pv (.lit (.bool false))) ?_
         refine rvP C (.pv (.lit (.bool false))) ?_
         refine rvc_nil ?_
         refine Awp.seq ?_
         refine Awp.consP C ?_
         refine rvP C (.pv (.lit (.bool false))) ?_
         refine rvP C (.pv (.lit (.bool true))) ?_
         refine rvc_nil ?_
         refine Awp.condT (b := true) rfl rfl ?_
         refine Awp.consP C ?_
         refine rvP C (.pv (.lit (.int .i64 120))) ?_
         refine rvc_nil ?_
         refine Awp.ret ?_
         subst hR
         exact ⟨.inl rfl, rfl⟩
       ·
        replace hR := of_false h16 hR
        refine Awp.consP C ?_
        refine rvP C (.pv (.lit (.bool (c.kind == 5)))) ?_
        refine rvP C (.pv (.lit (.bool (c.kind == 5)))) ?_
        refine rvc_nil ?_
        refine Awp.cond (b := (c.kind == 5)) rfl (fun h20 => ?_) (fun h20 => ?_)
        ·
         replace hR := of_true h20 hR
         refine Awp.regionP C ?_
         refine rvP C (.pv (.lit (.bool (decide (c.epoch ≤ 1099511627776))))) ?_
         refine rvP C (.pv (.lit (.bool (decide (c.epoch ≤ 1099511627776))))) ?_
         refine rvc_case 57 (decide (c.epoch ≤ 1099511627776)) rfl (fun h21 => ?_) (fun h21 => ?_)
         ·
          replace hR := of_true h21 hR
          refine rvO C (.pv (.lit (.bool (decide (c.site < 3))))) ?_
          refine rvP C (.pv (.lit (.bool (decide (c.site < 3))))) ?_
          refine rvP C (.pv (.lit (.bool (decide (c.site < 3))))) ?_
          refine rvc_case 60 (decide (c.site < 3)) rfl (fun h22 => ?_) (fun h22 => ?_)
          ·
           replace hR := of_true h22 hR
           refine rvO C (.ptr 1 1) ?_
           refine rvO C (.pv (.lit (.int .i64 c.node))) ?_
           refine rvO C (.pv (.lit (.bool (c.node == 0)))) ?_
           refine rvP C (.pv (.lit (.bool (c.node == 0)))) ?_
           refine rvP C (.pv (.lit (.bool (c.node == 0)))) ?_
           refine rvc_nil ?_
           refine Awp.seq ?_
           refine Awp.consP C ?_
           refine rvP C (.pv (.lit (.bool (c.node == 0)))) ?_
           refine rvP C (.pv (.lit (.bool (!(c.node == 0))))) ?_
           refine rvc_nil ?_
           refine Awp.cond (b := (!(c.node == 0))) rfl (fun h23 => ?_) (fun h23 => ?_)
           ·
            replace hR := of_true h23 hR
            refine Awp.consP C ?_
            refine rvP C (.pv (.lit (.int .i64 120))) ?_
            refine rvc_nil ?_
            refine Awp.ret ?_
            subst hR
            exact ⟨.inl rfl, rfl⟩
           ·
            replace hR := of_false h23 hR
            refine Awp.skip ?_
            refine Awp.consP C ?_
            refine rvP C (.pv (.lit (.int .i64 0))) ?_
            refine rvc_nil ?_
            refine Awp.ret ?_
            subst hR
            exact ⟨.inl rfl, rfl⟩
          ·
           replace hR := of_false h22 hR
           refine rvS ?_
           refine rvS ?_
           refine rvS ?_
           refine rvP C (.pv (.lit (.bool false))) ?_
           refine rvP C (.pv (.lit (.bool false))) ?_
           refine rvc_nil ?_
           refine Awp.seq ?_
           refine Awp.consP C ?_
           refine rvP C (.pv (.lit (.bool false))) ?_
           refine rvP C (.pv (.lit (.bool true))) ?_
           refine rvc_nil ?_
           refine Awp.condT (b := true) rfl rfl ?_
           refine Awp.consP C ?_
           refine rvP C (.pv (.lit (.int .i64 120))) ?_
           refine rvc_nil ?_
           refine Awp.ret ?_
           subst hR
           exact ⟨.inl rfl, rfl⟩
         ·
          replace hR := of_false h21 hR
          refine rvS ?_
          refine rvP C (.pv (.lit (.bool false))) ?_
          refine rvP C (.pv (.lit (.bool false))) ?_
          refine rvS ?_
          refine rvS ?_
          refine rvS ?_
          refine rvP C (.pv (.lit (.bool false))) ?_
          refine rvP C (.pv (.lit (.bool false))) ?_
          refine rvc_nil ?_
          refine Awp.seq ?_
          refine Awp.consP C ?_
          refine rvP C (.pv (.lit (.bool false))) ?_
          refine rvP C (.pv (.lit (.bool true))) ?_
          refine rvc_nil ?_
          refine Awp.condT (b := true) rfl rfl ?_
          refine Awp.consP C ?_
          refine rvP C (.pv (.lit (.int .i64 120))) ?_
          refine rvc_nil ?_
          refine Awp.ret ?_
          subst hR
          exact ⟨.inl rfl, rfl⟩
        ·
         replace hR := of_false h20 hR
         refine Awp.regionP C ?_
         refine rvP C (.pv (.lit (.bool false))) ?_
         refine rvc_nil ?_
         refine Awp.seq ?_
         refine Awp.consP C ?_
         refine rvP C (.pv (.lit (.bool false))) ?_
         refine rvP C (.pv (.lit (.bool true))) ?_
         refine rvc_nil ?_
         refine Awp.condT (b := true) rfl rfl ?_
         refine Awp.consP C ?_
         refine rvP C (.pv (.lit (.int .i64 120))) ?_
         refine rvc_nil ?_
         refine Awp.ret ?_
         subst hR
         exact ⟨.inl rfl, rfl⟩
   ·
    replace hR := of_false h3 hR
    refine rvS ?_
    refine rvS ?_
    refine rvS ?_
    refine rvP C (.pv (.lit (.bool false))) ?_
    refine rvP C (.pv (.lit (.bool false))) ?_
    refine rvc_nil ?_
    refine Awp.seq ?_
    refine Awp.consP C ?_
    refine rvP C (.ptr 1 0) ?_
    refine rvP C (.pv (.lit (.int .i64 c.kind))) ?_
    refine rvc_nil ?_
    refine Awp.block ?_
    refine Awp.seq ?_
    refine Awp.consP C ?_
    refine rvP C (.pv (.lit (.bool (c.kind == 1)))) ?_
    refine rvP C (.pv (.lit (.bool (c.kind == 1)))) ?_
    refine rvc_nil ?_
    refine Awp.cond (b := (c.kind == 1)) rfl (fun h24 => ?_) (fun h24 => ?_)
    ·
     replace hR := of_true h24 hR
     refine Awp.skip ?_
     refine Awp.condT (b := (c.kind == 1)) rfl h24 ?_
     refine Awp.regionP C ?_
     refine rvP C (.pv (.lit (.bool false))) ?_
     refine rvP C (.pv (.lit (.bool false))) ?_
     refine rvS ?_
     refine rvP C (.pv (.lit (.bool false))) ?_
     refine rvP C (.pv (.lit (.bool false))) ?_
     refine rvS ?_
     refine rvS ?_
     refine rvS ?_
     refine rvP C (.pv (.lit (.bool false))) ?_
     refine rvP C (.pv (.lit (.bool false))) ?_
     refine rvc_nil ?_
     refine Awp.seq ?_
     refine Awp.consP C ?_
     refine rvP C (.pv (.lit (.bool false))) ?_
     refine rvP C (.pv (.lit (.bool true))) ?_
     refine rvc_nil ?_
     refine Awp.condT (b := true) rfl rfl ?_
     refine Awp.consP C ?_
     refine rvP C (.pv (.lit (.int .i64 120))) ?_
     refine rvc_nil ?_
     refine Awp.ret ?_
     subst hR
     exact ⟨.inl rfl, rfl⟩
    ·
     replace hR := of_false h24 hR
     refine Awp.consP C ?_
     refine rvP C (.pv (.lit (.bool (c.kind == 3)))) ?_
     refine rvP C (.pv (.lit (.bool (c.kind == 3)))) ?_
     refine rvc_nil ?_
     refine Awp.cond (b := (c.kind == 3)) rfl (fun h25 => ?_) (fun h25 => ?_)
     ·
      replace hR := of_true h25 hR
      refine Awp.skip ?_
      refine Awp.condT (b := (c.kind == 3)) rfl h25 ?_
      refine Awp.regionP C ?_
      refine rvP C (.pv (.lit (.bool false))) ?_
      refine rvP C (.pv (.lit (.bool false))) ?_
      refine rvS ?_
      refine rvP C (.pv (.lit (.bool false))) ?_
      refine rvP C (.pv (.lit (.bool false))) ?_
      refine rvS ?_
      refine rvS ?_
      refine rvS ?_
      refine rvP C (.pv (.lit (.bool false))) ?_
      refine rvP C (.pv (.lit (.bool false))) ?_
      refine rvc_nil ?_
      refine Awp.seq ?_
      refine Awp.consP C ?_
      refine rvP C (.pv (.lit (.bool false))) ?_
      refine rvP C (.pv (.lit (.bool true))) ?_
      refine rvc_nil ?_
      refine Awp.condT (b := true) rfl rfl ?_
      refine Awp.consP C ?_
      refine rvP C (.pv (.lit (.int .i64 120))) ?_
      refine rvc_nil ?_
      refine Awp.ret ?_
      subst hR
      exact ⟨.inl rfl, rfl⟩
     ·
      replace hR := of_false h25 hR
      refine Awp.regionP C ?_
      refine rvP C (.pv (.lit (.bool (c.kind == 4)))) ?_
      refine rvP C (.pv (.lit (.bool (c.kind == 4)))) ?_
      refine rvc_nil ?_
      refine Awp.cond (b := (c.kind == 4)) rfl (fun h26 => ?_) (fun h26 => ?_)
      ·
       replace hR := of_true h26 hR
       refine Awp.regionP C ?_
       refine rvP C (.pv (.lit (.bool false))) ?_
       refine rvP C (.pv (.lit (.bool false))) ?_
       refine rvS ?_
       refine rvP C (.pv (.lit (.bool false))) ?_
       refine rvP C (.pv (.lit (.bool false))) ?_
       refine rvS ?_
       refine rvS ?_
       refine rvS ?_
       refine rvP C (.pv (.lit (.bool false))) ?_
       refine rvP C (.pv (.lit (.bool false))) ?_
       refine rvc_nil ?_
       refine Awp.seq ?_
       refine Awp.consP C ?_
       refine rvP C (.pv (.lit (.bool false))) ?_
       refine rvP C (.pv (.lit (.bool true))) ?_
       refine rvc_nil ?_
       refine Awp.condT (b := true) rfl rfl ?_
       refine Awp.consP C ?_
       refine rvP C (.pv (.lit (.int .i64 120))) ?_
       refine rvc_nil ?_
       refine Awp.ret ?_
       subst hR
       exact ⟨.inl rfl, rfl⟩
      ·
       replace hR := of_false h26 hR
       refine Awp.consP C ?_
       refine rvP C (.pv (.lit (.bool (c.kind == 2)))) ?_
       refine rvP C (.pv (.lit (.bool (c.kind == 2)))) ?_
       refine rvc_nil ?_
       refine Awp.cond (b := (c.kind == 2)) rfl (fun h27 => ?_) (fun h27 => ?_)
       ·
        replace hR := of_true h27 hR
        refine Awp.regionP C ?_
        refine rvP C (.pv (.lit (.bool false))) ?_
        refine rvP C (.pv (.lit (.bool false))) ?_
        refine rvS ?_
        refine rvP C (.pv (.lit (.bool false))) ?_
        refine rvP C (.pv (.lit (.bool false))) ?_
        refine rvS ?_
        refine rvP C (.pv (.lit (.bool false))) ?_
        refine rvP C (.pv (.lit (.bool false))) ?_
        refine rvc_nil ?_
        refine Awp.seq ?_
        refine Awp.consP C ?_
        refine rvP C (.pv (.lit (.bool false))) ?_
        refine rvP C (.pv (.lit (.bool true))) ?_
        refine rvc_nil ?_
        refine Awp.condT (b := true) rfl rfl ?_
        refine Awp.consP C ?_
        refine rvP C (.pv (.lit (.int .i64 120))) ?_
        refine rvc_nil ?_
        refine Awp.ret ?_
        subst hR
        exact ⟨.inl rfl, rfl⟩
       ·
        replace hR := of_false h27 hR
        refine Awp.consP C ?_
        refine rvP C (.pv (.lit (.bool (c.kind == 5)))) ?_
        refine rvP C (.pv (.lit (.bool (c.kind == 5)))) ?_
        refine rvc_nil ?_
        refine Awp.cond (b := (c.kind == 5)) rfl (fun h28 => ?_) (fun h28 => ?_)
        ·
         replace hR := of_true h28 hR
         refine Awp.regionP C ?_
         refine rvP C (.pv (.lit (.bool false))) ?_
         refine rvP C (.pv (.lit (.bool false))) ?_
         refine rvS ?_
         refine rvP C (.pv (.lit (.bool false))) ?_
         refine rvP C (.pv (.lit (.bool false))) ?_
         refine rvS ?_
         refine rvS ?_
         refine rvS ?_
         refine rvP C (.pv (.lit (.bool false))) ?_
         refine rvP C (.pv (.lit (.bool false))) ?_
         refine rvc_nil ?_
         refine Awp.seq ?_
         refine Awp.consP C ?_
         refine rvP C (.pv (.lit (.bool false))) ?_
         refine rvP C (.pv (.lit (.bool true))) ?_
         refine rvc_nil ?_
         refine Awp.condT (b := true) rfl rfl ?_
         refine Awp.consP C ?_
         refine rvP C (.pv (.lit (.int .i64 120))) ?_
         refine rvc_nil ?_
         refine Awp.ret ?_
         subst hR
         exact ⟨.inl rfl, rfl⟩
        ·
         replace hR := of_false h28 hR
         refine Awp.regionP C ?_
         refine rvP C (.pv (.lit (.bool false))) ?_
         refine rvc_nil ?_
         refine Awp.seq ?_
         refine Awp.consP C ?_
         refine rvP C (.pv (.lit (.bool false))) ?_
         refine rvP C (.pv (.lit (.bool true))) ?_
         refine rvc_nil ?_
         refine Awp.condT (b := true) rfl rfl ?_
         refine Awp.consP C ?_
         refine rvP C (.pv (.lit (.int .i64 120))) ?_
         refine rvc_nil ?_
         refine Awp.ret ?_
         subst hR
         exact ⟨.inl rfl, rfl⟩
  ·
   replace hR := of_false h2 hR
   refine rvS ?_
   refine rvS ?_
   refine rvS ?_
   refine rvP C (.pv (.lit (.bool false))) ?_
   refine rvP C (.pv (.lit (.bool false))) ?_
   refine rvc_nil ?_
   refine Awp.consP C ?_
   refine rvP C (.ptr 1 3) ?_
   refine rvP C (.pv (.lit (.int .i64 c.epoch))) ?_
   refine rvP C (.pv (.lit (.bool (decide (c.epoch ≥ 1))))) ?_
   refine rvP C (.pv (.lit (.bool (decide (c.epoch ≥ 1))))) ?_
   refine rvc_case 25 (decide (c.epoch ≥ 1)) rfl (fun h29 => ?_) (fun h29 => ?_)
   ·
    replace hR := of_true h29 hR
    refine rvO C (.ptr 1 3) ?_
    refine rvO C (.pv (.lit (.int .i64 c.epoch))) ?_
    refine rvO C (.pv (.lit (.bool (decide (c.epoch ≤ 1099511627776))))) ?_
    refine rvP C (.pv (.lit (.bool (decide (c.epoch ≤ 1099511627776))))) ?_
    refine rvP C (.pv (.lit (.bool (decide (c.epoch ≤ 1099511627776))))) ?_
    refine rvc_nil ?_
    refine Awp.seq ?_
    refine Awp.consP C ?_
    refine rvP C (.ptr 1 0) ?_
    refine rvP C (.pv (.lit (.int .i64 c.kind))) ?_
    refine rvc_nil ?_
    refine Awp.block ?_
    refine Awp.seq ?_
    refine Awp.consP C ?_
    refine rvP C (.pv (.lit (.bool (c.kind == 1)))) ?_
    refine rvP C (.pv (.lit (.bool (c.kind == 1)))) ?_
    refine rvc_nil ?_
    refine Awp.cond (b := (c.kind == 1)) rfl (fun h30 => ?_) (fun h30 => ?_)
    ·
     replace hR := of_true h30 hR
     refine Awp.skip ?_
     refine Awp.condT (b := (c.kind == 1)) rfl h30 ?_
     refine Awp.regionP C ?_
     refine rvP C (.pv (.lit (.bool (decide (c.epoch ≤ 1099511627776))))) ?_
     refine rvP C (.pv (.lit (.bool (decide (c.epoch ≤ 1099511627776))))) ?_
     refine rvc_case 37 (decide (c.epoch ≤ 1099511627776)) rfl (fun h31 => ?_) (fun h31 => ?_)
     ·
      replace hR := of_true h31 hR
      refine rvO C (.pv (.lit (.bool (decide (c.node < 6))))) ?_
      refine rvP C (.pv (.lit (.bool (decide (c.node < 6))))) ?_
      refine rvP C (.pv (.lit (.bool (decide (c.node < 6))))) ?_
      refine rvc_case 40 (decide (c.node < 6)) rfl (fun h32 => ?_) (fun h32 => ?_)
      ·
       replace hR := of_true h32 hR
       refine rvO C (.ptr 1 2) ?_
       refine rvO C (.pv (.lit (.int .i64 c.site))) ?_
       refine rvO C (.pv (.lit (.bool (c.site == 0)))) ?_
       refine rvP C (.pv (.lit (.bool (c.site == 0)))) ?_
       refine rvP C (.pv (.lit (.bool (c.site == 0)))) ?_
       refine rvc_nil ?_
       refine Awp.seq ?_
       refine Awp.consP C ?_
       refine rvP C (.pv (.lit (.bool (c.site == 0)))) ?_
       refine rvP C (.pv (.lit (.bool (!(c.site == 0))))) ?_
       refine rvc_nil ?_
       refine Awp.cond (b := (!(c.site == 0))) rfl (fun h33 => ?_) (fun h33 => ?_)
       ·
        replace hR := of_true h33 hR
        refine Awp.consP C ?_
        refine rvP C (.pv (.lit (.int .i64 120))) ?_
        refine rvc_nil ?_
        refine Awp.ret ?_
        subst hR
        exact ⟨.inl rfl, rfl⟩
       ·
        replace hR := of_false h33 hR
        refine Awp.skip ?_
        refine Awp.consP C ?_
        refine rvP C (.pv (.lit (.int .i64 0))) ?_
        refine rvc_nil ?_
        refine Awp.ret ?_
        subst hR
        exact ⟨.inl rfl, rfl⟩
      ·
       replace hR := of_false h32 hR
       refine rvS ?_
       refine rvS ?_
       refine rvS ?_
       refine rvP C (.pv (.lit (.bool false))) ?_
       refine rvP C (.pv (.lit (.bool false))) ?_
       refine rvc_nil ?_
       refine Awp.seq ?_
       refine Awp.consP C ?_
       refine rvP C (.pv (.lit (.bool false))) ?_
       refine rvP C (.pv (.lit (.bool true))) ?_
       refine rvc_nil ?_
       refine Awp.condT (b := true) rfl rfl ?_
       refine Awp.consP C ?_
       refine rvP C (.pv (.lit (.int .i64 120))) ?_
       refine rvc_nil ?_
       refine Awp.ret ?_
       subst hR
       exact ⟨.inl rfl, rfl⟩
     ·
      replace hR := of_false h31 hR
      refine rvS ?_
      refine rvP C (.pv (.lit (.bool false))) ?_
      refine rvP C (.pv (.lit (.bool false))) ?_
      refine rvS ?_
      refine rvS ?_
      refine rvS ?_
      refine rvP C (.pv (.lit (.bool false))) ?_
      refine rvP C (.pv (.lit (.bool false))) ?_
      refine rvc_nil ?_
      refine Awp.seq ?_
      refine Awp.consP C ?_
      refine rvP C (.pv (.lit (.bool false))) ?_
      refine rvP C (.pv (.lit (.bool true))) ?_
      refine rvc_nil ?_
      refine Awp.condT (b := true) rfl rfl ?_
      refine Awp.consP C ?_
      refine rvP C (.pv (.lit (.int .i64 120))) ?_
      refine rvc_nil ?_
      refine Awp.ret ?_
      subst hR
      exact ⟨.inl rfl, rfl⟩
    ·
     replace hR := of_false h30 hR
     refine Awp.consP C ?_
     refine rvP C (.pv (.lit (.bool (c.kind == 3)))) ?_
     refine rvP C (.pv (.lit (.bool (c.kind == 3)))) ?_
     refine rvc_nil ?_
     refine Awp.cond (b := (c.kind == 3)) rfl (fun h34 => ?_) (fun h34 => ?_)
     ·
      replace hR := of_true h34 hR
      refine Awp.skip ?_
      refine Awp.condT (b := (c.kind == 3)) rfl h34 ?_
      refine Awp.regionP C ?_
      refine rvP C (.pv (.lit (.bool (decide (c.epoch ≤ 1099511627776))))) ?_
      refine rvP C (.pv (.lit (.bool (decide (c.epoch ≤ 1099511627776))))) ?_
      refine rvc_case 37 (decide (c.epoch ≤ 1099511627776)) rfl (fun h35 => ?_) (fun h35 => ?_)
      ·
       replace hR := of_true h35 hR
       refine rvO C (.pv (.lit (.bool (decide (c.node < 6))))) ?_
       refine rvP C (.pv (.lit (.bool (decide (c.node < 6))))) ?_
       refine rvP C (.pv (.lit (.bool (decide (c.node < 6))))) ?_
       refine rvc_case 40 (decide (c.node < 6)) rfl (fun h36 => ?_) (fun h36 => ?_)
       ·
        replace hR := of_true h36 hR
        refine rvO C (.ptr 1 2) ?_
        refine rvO C (.pv (.lit (.int .i64 c.site))) ?_
        refine rvO C (.pv (.lit (.bool (c.site == 0)))) ?_
        refine rvP C (.pv (.lit (.bool (c.site == 0)))) ?_
        refine rvP C (.pv (.lit (.bool (c.site == 0)))) ?_
        refine rvc_nil ?_
        refine Awp.seq ?_
        refine Awp.consP C ?_
        refine rvP C (.pv (.lit (.bool (c.site == 0)))) ?_
        refine rvP C (.pv (.lit (.bool (!(c.site == 0))))) ?_
        refine rvc_nil ?_
        refine Awp.cond (b := (!(c.site == 0))) rfl (fun h37 => ?_) (fun h37 => ?_)
        ·
         replace hR := of_true h37 hR
         refine Awp.consP C ?_
         refine rvP C (.pv (.lit (.int .i64 120))) ?_
         refine rvc_nil ?_
         refine Awp.ret ?_
         subst hR
         exact ⟨.inl rfl, rfl⟩
        ·
         replace hR := of_false h37 hR
         refine Awp.skip ?_
         refine Awp.consP C ?_
         refine rvP C (.pv (.lit (.int .i64 0))) ?_
         refine rvc_nil ?_
         refine Awp.ret ?_
         subst hR
         exact ⟨.inl rfl, rfl⟩
       ·
        replace hR := of_false h36 hR
        refine rvS ?_
        refine rvS ?_
        refine rvS ?_
        refine rvP C (.pv (.lit (.bool false))) ?_
        refine rvP C (.pv (.lit (.bool false))) ?_
        refine rvc_nil ?_
        refine Awp.seq ?_
        refine Awp.consP C ?_
        refine rvP C (.pv (.lit (.bool false))) ?_
        refine rvP C (.pv (.lit (.bool true))) ?_
        refine rvc_nil ?_
        refine Awp.condT (b := true) rfl rfl ?_
        refine Awp.consP C ?_
        refine rvP C (.pv (.lit (.int .i64 120))) ?_
        refine rvc_nil ?_
        refine Awp.ret ?_
        subst hR
        exact ⟨.inl rfl, rfl⟩
      ·
       replace hR := of_false h35 hR
       refine rvS ?_
       refine rvP C (.pv (.lit (.bool false))) ?_
       refine rvP C (.pv (.lit (.bool false))) ?_
       refine rvS ?_
       refine rvS ?_
       refine rvS ?_
       refine rvP C (.pv (.lit (.bool false))) ?_
       refine rvP C (.pv (.lit (.bool false))) ?_
       refine rvc_nil ?_
       refine Awp.seq ?_
       refine Awp.consP C ?_
       refine rvP C (.pv (.lit (.bool false))) ?_
       refine rvP C (.pv (.lit (.bool true))) ?_
       refine rvc_nil ?_
       refine Awp.condT (b := true) rfl rfl ?_
       refine Awp.consP C ?_
       refine rvP C (.pv (.lit (.int .i64 120))) ?_
       refine rvc_nil ?_
       refine Awp.ret ?_
       subst hR
       exact ⟨.inl rfl, rfl⟩
     ·
      replace hR := of_false h34 hR
      refine Awp.regionP C ?_
      refine rvP C (.pv (.lit (.bool (c.kind == 4)))) ?_
      refine rvP C (.pv (.lit (.bool (c.kind == 4)))) ?_
      refine rvc_nil ?_
      refine Awp.cond (b := (c.kind == 4)) rfl (fun h38 => ?_) (fun h38 => ?_)
      ·
       replace hR := of_true h38 hR
       refine Awp.regionP C ?_
       refine rvP C (.pv (.lit (.bool (decide (c.epoch ≤ 1099511627776))))) ?_
       refine rvP C (.pv (.lit (.bool (decide (c.epoch ≤ 1099511627776))))) ?_
       refine rvc_case 37 (decide (c.epoch ≤ 1099511627776)) rfl (fun h39 => ?_) (fun h39 => ?_)
       ·
        replace hR := of_true h39 hR
        refine rvO C (.pv (.lit (.bool (decide (c.node < 6))))) ?_
        refine rvP C (.pv (.lit (.bool (decide (c.node < 6))))) ?_
        refine rvP C (.pv (.lit (.bool (decide (c.node < 6))))) ?_
        refine rvc_case 40 (decide (c.node < 6)) rfl (fun h40 => ?_) (fun h40 => ?_)
        ·
         replace hR := of_true h40 hR
         refine rvO C (.ptr 1 2) ?_
         refine rvO C (.pv (.lit (.int .i64 c.site))) ?_
         refine rvO C (.pv (.lit (.bool (c.site == 0)))) ?_
         refine rvP C (.pv (.lit (.bool (c.site == 0)))) ?_
         refine rvP C (.pv (.lit (.bool (c.site == 0)))) ?_
         refine rvc_nil ?_
         refine Awp.seq ?_
         refine Awp.consP C ?_
         refine rvP C (.pv (.lit (.bool (c.site == 0)))) ?_
         refine rvP C (.pv (.lit (.bool (!(c.site == 0))))) ?_
         refine rvc_nil ?_
         refine Awp.cond (b := (!(c.site == 0))) rfl (fun h41 => ?_) (fun h41 => ?_)
         ·
          replace hR := of_true h41 hR
          refine Awp.consP C ?_
          refine rvP C (.pv (.lit (.int .i64 120))) ?_
          refine rvc_nil ?_
          refine Awp.ret ?_
          subst hR
          exact ⟨.inl rfl, rfl⟩
         ·
          replace hR := of_false h41 hR
          refine Awp.skip ?_
          refine Awp.consP C ?_
          refine rvP C (.pv (.lit (.int .i64 0))) ?_
          refine rvc_nil ?_
          refine Awp.ret ?_
          subst hR
          exact ⟨.inl rfl, rfl⟩
        ·
         replace hR := of_false h40 hR
         refine rvS ?_
         refine rvS ?_
         refine rvS ?_
         refine rvP C (.pv (.lit (.bool false))) ?_
         refine rvP C (.pv (.lit (.bool false))) ?_
         refine rvc_nil ?_
         refine Awp.seq ?_
         refine Awp.consP C ?_
         refine rvP C (.pv (.lit (.bool false))) ?_
         refine rvP C (.pv (.lit (.bool true))) ?_
         refine rvc_nil ?_
         refine Awp.condT (b := true) rfl rfl ?_
         refine Awp.consP C ?_
         refine rvP C (.pv (.lit (.int .i64 120))) ?_
         refine rvc_nil ?_
         refine Awp.ret ?_
         subst hR
         exact ⟨.inl rfl, rfl⟩
       ·
        replace hR := of_false h39 hR
        refine rvS ?_
        refine rvP C (.pv (.lit (.bool false))) ?_
        refine rvP C (.pv (.lit (.bool false))) ?_
        refine rvS ?_
        refine rvS ?_
        refine rvS ?_
        refine rvP C (.pv (.lit (.bool false))) ?_
        refine rvP C (.pv (.lit (.bool false))) ?_
        refine rvc_nil ?_
        refine Awp.seq ?_
        refine Awp.consP C ?_
        refine rvP C (.pv (.lit (.bool false))) ?_
        refine rvP C (.pv (.lit (.bool true))) ?_
        refine rvc_nil ?_
        refine Awp.condT (b := true) rfl rfl ?_
        refine Awp.consP C ?_
        refine rvP C (.pv (.lit (.int .i64 120))) ?_
        refine rvc_nil ?_
        refine Awp.ret ?_
        subst hR
        exact ⟨.inl rfl, rfl⟩
      ·
       replace hR := of_false h38 hR
       refine Awp.consP C ?_
       refine rvP C (.pv (.lit (.bool (c.kind == 2)))) ?_
       refine rvP C (.pv (.lit (.bool (c.kind == 2)))) ?_
       refine rvc_nil ?_
       refine Awp.cond (b := (c.kind == 2)) rfl (fun h42 => ?_) (fun h42 => ?_)
       ·
        replace hR := of_true h42 hR
        refine Awp.regionP C ?_
        refine rvP C (.pv (.lit (.bool (decide (c.epoch ≤ 1099511627776))))) ?_
        refine rvP C (.pv (.lit (.bool (decide (c.epoch ≤ 1099511627776))))) ?_
        refine rvc_case 48 (decide (c.epoch ≤ 1099511627776)) rfl (fun h43 => ?_) (fun h43 => ?_)
        ·
         replace hR := of_true h43 hR
         refine rvO C (.pv (.lit (.bool (decide (c.node < 6))))) ?_
         refine rvP C (.pv (.lit (.bool (decide (c.node < 6))))) ?_
         refine rvP C (.pv (.lit (.bool (decide (c.node < 6))))) ?_
         refine rvc_case 51 (decide (c.node < 6)) rfl (fun h44 => ?_) (fun h44 => ?_)
         ·
          replace hR := of_true h44 hR
          refine rvO C (.pv (.lit (.bool false))) ?_
          refine rvP C (.pv (.lit (.bool false))) ?_
          refine rvP C (.pv (.lit (.bool false))) ?_
          refine rvc_nil ?_
          refine Awp.seq ?_
          refine Awp.consP C ?_
          refine rvP C (.pv (.lit (.bool false))) ?_
          refine rvP C (.pv (.lit (.bool true))) ?_
          refine rvc_nil ?_
          refine Awp.condT (b := true) rfl rfl ?_
          refine Awp.consP C ?_
          refine rvP C (.pv (.lit (.int .i64 120))) ?_
          refine rvc_nil ?_
          refine Awp.ret ?_
          subst hR
          exact ⟨.inl rfl, rfl⟩
         ·
          replace hR := of_false h44 hR
          refine rvS ?_
          refine rvP C (.pv (.lit (.bool false))) ?_
          refine rvP C (.pv (.lit (.bool false))) ?_
          refine rvc_nil ?_
          refine Awp.seq ?_
          refine Awp.consP C ?_
          refine rvP C (.pv (.lit (.bool false))) ?_
          refine rvP C (.pv (.lit (.bool true))) ?_
          refine rvc_nil ?_
          refine Awp.condT (b := true) rfl rfl ?_
          refine Awp.consP C ?_
          refine rvP C (.pv (.lit (.int .i64 120))) ?_
          refine rvc_nil ?_
          refine Awp.ret ?_
          subst hR
          exact ⟨.inl rfl, rfl⟩
        ·
         replace hR := of_false h43 hR
         refine rvS ?_
         refine rvP C (.pv (.lit (.bool false))) ?_
         refine rvP C (.pv (.lit (.bool false))) ?_
         refine rvS ?_
         refine rvP C (.pv (.lit (.bool false))) ?_
         refine rvP C (.pv (.lit (.bool false))) ?_
         refine rvc_nil ?_
         refine Awp.seq ?_
         refine Awp.consP C ?_
         refine rvP C (.pv (.lit (.bool false))) ?_
         refine rvP C (.pv (.lit (.bool true))) ?_
         refine rvc_nil ?_
         refine Awp.condT (b := true) rfl rfl ?_
         refine Awp.consP C ?_
         refine rvP C (.pv (.lit (.int .i64 120))) ?_
         refine rvc_nil ?_
         refine Awp.ret ?_
         subst hR
         exact ⟨.inl rfl, rfl⟩
       ·
        replace hR := of_false h42 hR
        refine Awp.consP C ?_
        refine rvP C (.pv (.lit (.bool (c.kind == 5)))) ?_
        refine rvP C (.pv (.lit (.bool (c.kind == 5)))) ?_
        refine rvc_nil ?_
        refine Awp.cond (b := (c.kind == 5)) rfl (fun h45 => ?_) (fun h45 => ?_)
        ·
         replace hR := of_true h45 hR
         refine Awp.regionP C ?_
         refine rvP C (.pv (.lit (.bool (decide (c.epoch ≤ 1099511627776))))) ?_
         refine rvP C (.pv (.lit (.bool (decide (c.epoch ≤ 1099511627776))))) ?_
         refine rvc_case 57 (decide (c.epoch ≤ 1099511627776)) rfl (fun h46 => ?_) (fun h46 => ?_)
         ·
          replace hR := of_true h46 hR
          refine rvO C (.pv (.lit (.bool false))) ?_
          refine rvP C (.pv (.lit (.bool false))) ?_
          refine rvP C (.pv (.lit (.bool false))) ?_
          refine rvS ?_
          refine rvS ?_
          refine rvS ?_
          refine rvP C (.pv (.lit (.bool false))) ?_
          refine rvP C (.pv (.lit (.bool false))) ?_
          refine rvc_nil ?_
          refine Awp.seq ?_
          refine Awp.consP C ?_
          refine rvP C (.pv (.lit (.bool false))) ?_
          refine rvP C (.pv (.lit (.bool true))) ?_
          refine rvc_nil ?_
          refine Awp.condT (b := true) rfl rfl ?_
          refine Awp.consP C ?_
          refine rvP C (.pv (.lit (.int .i64 120))) ?_
          refine rvc_nil ?_
          refine Awp.ret ?_
          subst hR
          exact ⟨.inl rfl, rfl⟩
         ·
          replace hR := of_false h46 hR
          refine rvS ?_
          refine rvP C (.pv (.lit (.bool false))) ?_
          refine rvP C (.pv (.lit (.bool false))) ?_
          refine rvS ?_
          refine rvS ?_
          refine rvS ?_
          refine rvP C (.pv (.lit (.bool false))) ?_
          refine rvP C (.pv (.lit (.bool false))) ?_
          refine rvc_nil ?_
          refine Awp.seq ?_
          refine Awp.consP C ?_
          refine rvP C (.pv (.lit (.bool false))) ?_
          refine rvP C (.pv (.lit (.bool true))) ?_
          refine rvc_nil ?_
          refine Awp.condT (b := true) rfl rfl ?_
          refine Awp.consP C ?_
          refine rvP C (.pv (.lit (.int .i64 120))) ?_
          refine rvc_nil ?_
          refine Awp.ret ?_
          subst hR
          exact ⟨.inl rfl, rfl⟩
        ·
         replace hR := of_false h45 hR
         refine Awp.regionP C ?_
         refine rvP C (.pv (.lit (.bool false))) ?_
         refine rvc_nil ?_
         refine Awp.seq ?_
         refine Awp.consP C ?_
         refine rvP C (.pv (.lit (.bool false))) ?_
         refine rvP C (.pv (.lit (.bool true))) ?_
         refine rvc_nil ?_
         refine Awp.condT (b := true) rfl rfl ?_
         refine Awp.consP C ?_
         refine rvP C (.pv (.lit (.int .i64 120))) ?_
         refine rvc_nil ?_
         refine Awp.ret ?_
         subst hR
         exact ⟨.inl rfl, rfl⟩
   ·
    replace hR := of_false h29 hR
    refine rvS ?_
    refine rvS ?_
    refine rvS ?_
    refine rvP C (.pv (.lit (.bool false))) ?_
    refine rvP C (.pv (.lit (.bool false))) ?_
    refine rvc_nil ?_
    refine Awp.seq ?_
    refine Awp.consP C ?_
    refine rvP C (.ptr 1 0) ?_
    refine rvP C (.pv (.lit (.int .i64 c.kind))) ?_
    refine rvc_nil ?_
    refine Awp.block ?_
    refine Awp.seq ?_
    refine Awp.consP C ?_
    refine rvP C (.pv (.lit (.bool (c.kind == 1)))) ?_
    refine rvP C (.pv (.lit (.bool (c.kind == 1)))) ?_
    refine rvc_nil ?_
    refine Awp.cond (b := (c.kind == 1)) rfl (fun h47 => ?_) (fun h47 => ?_)
    ·
     replace hR := of_true h47 hR
     refine Awp.skip ?_
     refine Awp.condT (b := (c.kind == 1)) rfl h47 ?_
     refine Awp.regionP C ?_
     refine rvP C (.pv (.lit (.bool false))) ?_
     refine rvP C (.pv (.lit (.bool false))) ?_
     refine rvS ?_
     refine rvP C (.pv (.lit (.bool false))) ?_
     refine rvP C (.pv (.lit (.bool false))) ?_
     refine rvS ?_
     refine rvS ?_
     refine rvS ?_
     refine rvP C (.pv (.lit (.bool false))) ?_
     refine rvP C (.pv (.lit (.bool false))) ?_
     refine rvc_nil ?_
     refine Awp.seq ?_
     refine Awp.consP C ?_
     refine rvP C (.pv (.lit (.bool false))) ?_
     refine rvP C (.pv (.lit (.bool true))) ?_
     refine rvc_nil ?_
     refine Awp.condT (b := true) rfl rfl ?_
     refine Awp.consP C ?_
     refine rvP C (.pv (.lit (.int .i64 120))) ?_
     refine rvc_nil ?_
     refine Awp.ret ?_
     subst hR
     exact ⟨.inl rfl, rfl⟩
    ·
     replace hR := of_false h47 hR
     refine Awp.consP C ?_
     refine rvP C (.pv (.lit (.bool (c.kind == 3)))) ?_
     refine rvP C (.pv (.lit (.bool (c.kind == 3)))) ?_
     refine rvc_nil ?_
     refine Awp.cond (b := (c.kind == 3)) rfl (fun h48 => ?_) (fun h48 => ?_)
     ·
      replace hR := of_true h48 hR
      refine Awp.skip ?_
      refine Awp.condT (b := (c.kind == 3)) rfl h48 ?_
      refine Awp.regionP C ?_
      refine rvP C (.pv (.lit (.bool false))) ?_
      refine rvP C (.pv (.lit (.bool false))) ?_
      refine rvS ?_
      refine rvP C (.pv (.lit (.bool false))) ?_
      refine rvP C (.pv (.lit (.bool false))) ?_
      refine rvS ?_
      refine rvS ?_
      refine rvS ?_
      refine rvP C (.pv (.lit (.bool false))) ?_
      refine rvP C (.pv (.lit (.bool false))) ?_
      refine rvc_nil ?_
      refine Awp.seq ?_
      refine Awp.consP C ?_
      refine rvP C (.pv (.lit (.bool false))) ?_
      refine rvP C (.pv (.lit (.bool true))) ?_
      refine rvc_nil ?_
      refine Awp.condT (b := true) rfl rfl ?_
      refine Awp.consP C ?_
      refine rvP C (.pv (.lit (.int .i64 120))) ?_
      refine rvc_nil ?_
      refine Awp.ret ?_
      subst hR
      exact ⟨.inl rfl, rfl⟩
     ·
      replace hR := of_false h48 hR
      refine Awp.regionP C ?_
      refine rvP C (.pv (.lit (.bool (c.kind == 4)))) ?_
      refine rvP C (.pv (.lit (.bool (c.kind == 4)))) ?_
      refine rvc_nil ?_
      refine Awp.cond (b := (c.kind == 4)) rfl (fun h49 => ?_) (fun h49 => ?_)
      ·
       replace hR := of_true h49 hR
       refine Awp.regionP C ?_
       refine rvP C (.pv (.lit (.bool false))) ?_
       refine rvP C (.pv (.lit (.bool false))) ?_
       refine rvS ?_
       refine rvP C (.pv (.lit (.bool false))) ?_
       refine rvP C (.pv (.lit (.bool false))) ?_
       refine rvS ?_
       refine rvS ?_
       refine rvS ?_
       refine rvP C (.pv (.lit (.bool false))) ?_
       refine rvP C (.pv (.lit (.bool false))) ?_
       refine rvc_nil ?_
       refine Awp.seq ?_
       refine Awp.consP C ?_
       refine rvP C (.pv (.lit (.bool false))) ?_
       refine rvP C (.pv (.lit (.bool true))) ?_
       refine rvc_nil ?_
       refine Awp.condT (b := true) rfl rfl ?_
       refine Awp.consP C ?_
       refine rvP C (.pv (.lit (.int .i64 120))) ?_
       refine rvc_nil ?_
       refine Awp.ret ?_
       subst hR
       exact ⟨.inl rfl, rfl⟩
      ·
       replace hR := of_false h49 hR
       refine Awp.consP C ?_
       refine rvP C (.pv (.lit (.bool (c.kind == 2)))) ?_
       refine rvP C (.pv (.lit (.bool (c.kind == 2)))) ?_
       refine rvc_nil ?_
       refine Awp.cond (b := (c.kind == 2)) rfl (fun h50 => ?_) (fun h50 => ?_)
       ·
        replace hR := of_true h50 hR
        refine Awp.regionP C ?_
        refine rvP C (.pv (.lit (.bool false))) ?_
        refine rvP C (.pv (.lit (.bool false))) ?_
        refine rvS ?_
        refine rvP C (.pv (.lit (.bool false))) ?_
        refine rvP C (.pv (.lit (.bool false))) ?_
        refine rvS ?_
        refine rvP C (.pv (.lit (.bool false))) ?_
        refine rvP C (.pv (.lit (.bool false))) ?_
        refine rvc_nil ?_
        refine Awp.seq ?_
        refine Awp.consP C ?_
        refine rvP C (.pv (.lit (.bool false))) ?_
        refine rvP C (.pv (.lit (.bool true))) ?_
        refine rvc_nil ?_
        refine Awp.condT (b := true) rfl rfl ?_
        refine Awp.consP C ?_
        refine rvP C (.pv (.lit (.int .i64 120))) ?_
        refine rvc_nil ?_
        refine Awp.ret ?_
        subst hR
        exact ⟨.inl rfl, rfl⟩
       ·
        replace hR := of_false h50 hR
        refine Awp.consP C ?_
        refine rvP C (.pv (.lit (.bool (c.kind == 5)))) ?_
        refine rvP C (.pv (.lit (.bool (c.kind == 5)))) ?_
        refine rvc_nil ?_
        refine Awp.cond (b := (c.kind == 5)) rfl (fun h51 => ?_) (fun h51 => ?_)
        ·
         replace hR := of_true h51 hR
         refine Awp.regionP C ?_
         refine rvP C (.pv (.lit (.bool false))) ?_
         refine rvP C (.pv (.lit (.bool false))) ?_
         refine rvS ?_
         refine rvP C (.pv (.lit (.bool false))) ?_
         refine rvP C (.pv (.lit (.bool false))) ?_
         refine rvS ?_
         refine rvS ?_
         refine rvS ?_
         refine rvP C (.pv (.lit (.bool false))) ?_
         refine rvP C (.pv (.lit (.bool false))) ?_
         refine rvc_nil ?_
         refine Awp.seq ?_
         refine Awp.consP C ?_
         refine rvP C (.pv (.lit (.bool false))) ?_
         refine rvP C (.pv (.lit (.bool true))) ?_
         refine rvc_nil ?_
         refine Awp.condT (b := true) rfl rfl ?_
         refine Awp.consP C ?_
         refine rvP C (.pv (.lit (.int .i64 120))) ?_
         refine rvc_nil ?_
         refine Awp.ret ?_
         subst hR
         exact ⟨.inl rfl, rfl⟩
        ·
         replace hR := of_false h51 hR
         refine Awp.regionP C ?_
         refine rvP C (.pv (.lit (.bool false))) ?_
         refine rvc_nil ?_
         refine Awp.seq ?_
         refine Awp.consP C ?_
         refine rvP C (.pv (.lit (.bool false))) ?_
         refine rvP C (.pv (.lit (.bool true))) ?_
         refine rvc_nil ?_
         refine Awp.condT (b := true) rfl rfl ?_
         refine Awp.consP C ?_
         refine rvP C (.pv (.lit (.int .i64 120))) ?_
         refine rvc_nil ?_
         refine Awp.ret ?_
         subst hR
         exact ⟨.inl rfl, rfl⟩
 ·
  replace hR := of_false h1 hR
  refine rvS ?_
  refine rvS ?_
  refine rvS ?_
  refine rvP C (.pv (.lit (.bool false))) ?_
  refine rvP C (.pv (.lit (.bool false))) ?_
  refine rvc_nil ?_
  refine Awp.consP C ?_
  refine rvP C (.ptr 1 2) ?_
  refine rvP C (.pv (.lit (.int .i64 c.site))) ?_
  refine rvP C (.pv (.lit (.bool (decide (c.site ≥ 0))))) ?_
  refine rvP C (.pv (.lit (.bool (decide (c.site ≥ 0))))) ?_
  refine rvc_case 17 (decide (c.site ≥ 0)) rfl (fun h52 => ?_) (fun h52 => ?_)
  ·
   replace hR := of_true h52 hR
   refine rvO C (.ptr 1 2) ?_
   refine rvO C (.pv (.lit (.int .i64 c.site))) ?_
   refine rvO C (.pv (.lit (.bool (decide (c.site < 3))))) ?_
   refine rvP C (.pv (.lit (.bool (decide (c.site < 3))))) ?_
   refine rvP C (.pv (.lit (.bool (decide (c.site < 3))))) ?_
   refine rvc_nil ?_
   refine Awp.consP C ?_
   refine rvP C (.ptr 1 3) ?_
   refine rvP C (.pv (.lit (.int .i64 c.epoch))) ?_
   refine rvP C (.pv (.lit (.bool (decide (c.epoch ≥ 1))))) ?_
   refine rvP C (.pv (.lit (.bool (decide (c.epoch ≥ 1))))) ?_
   refine rvc_case 25 (decide (c.epoch ≥ 1)) rfl (fun h53 => ?_) (fun h53 => ?_)
   ·
    replace hR := of_true h53 hR
    refine rvO C (.ptr 1 3) ?_
    refine rvO C (.pv (.lit (.int .i64 c.epoch))) ?_
    refine rvO C (.pv (.lit (.bool (decide (c.epoch ≤ 1099511627776))))) ?_
    refine rvP C (.pv (.lit (.bool (decide (c.epoch ≤ 1099511627776))))) ?_
    refine rvP C (.pv (.lit (.bool (decide (c.epoch ≤ 1099511627776))))) ?_
    refine rvc_nil ?_
    refine Awp.seq ?_
    refine Awp.consP C ?_
    refine rvP C (.ptr 1 0) ?_
    refine rvP C (.pv (.lit (.int .i64 c.kind))) ?_
    refine rvc_nil ?_
    refine Awp.block ?_
    refine Awp.seq ?_
    refine Awp.consP C ?_
    refine rvP C (.pv (.lit (.bool (c.kind == 1)))) ?_
    refine rvP C (.pv (.lit (.bool (c.kind == 1)))) ?_
    refine rvc_nil ?_
    refine Awp.cond (b := (c.kind == 1)) rfl (fun h54 => ?_) (fun h54 => ?_)
    ·
     replace hR := of_true h54 hR
     refine Awp.skip ?_
     refine Awp.condT (b := (c.kind == 1)) rfl h54 ?_
     refine Awp.regionP C ?_
     refine rvP C (.pv (.lit (.bool (decide (c.epoch ≤ 1099511627776))))) ?_
     refine rvP C (.pv (.lit (.bool (decide (c.epoch ≤ 1099511627776))))) ?_
     refine rvc_case 37 (decide (c.epoch ≤ 1099511627776)) rfl (fun h55 => ?_) (fun h55 => ?_)
     ·
      replace hR := of_true h55 hR
      refine rvO C (.pv (.lit (.bool false))) ?_
      refine rvP C (.pv (.lit (.bool false))) ?_
      refine rvP C (.pv (.lit (.bool false))) ?_
      refine rvS ?_
      refine rvS ?_
      refine rvS ?_
      refine rvP C (.pv (.lit (.bool false))) ?_
      refine rvP C (.pv (.lit (.bool false))) ?_
      refine rvc_nil ?_
      refine Awp.seq ?_
      refine Awp.consP C ?_
      refine rvP C (.pv (.lit (.bool false))) ?_
      refine rvP C (.pv (.lit (.bool true))) ?_
      refine rvc_nil ?_
      refine Awp.condT (b := true) rfl rfl ?_
      refine Awp.consP C ?_
      refine rvP C (.pv (.lit (.int .i64 120))) ?_
      refine rvc_nil ?_
      refine Awp.ret ?_
      subst hR
      exact ⟨.inl rfl, rfl⟩
     ·
      replace hR := of_false h55 hR
      refine rvS ?_
      refine rvP C (.pv (.lit (.bool false))) ?_
      refine rvP C (.pv (.lit (.bool false))) ?_
      refine rvS ?_
      refine rvS ?_
      refine rvS ?_
      refine rvP C (.pv (.lit (.bool false))) ?_
      refine rvP C (.pv (.lit (.bool false))) ?_
      refine rvc_nil ?_
      refine Awp.seq ?_
      refine Awp.consP C ?_
      refine rvP C (.pv (.lit (.bool false))) ?_
      refine rvP C (.pv (.lit (.bool true))) ?_
      refine rvc_nil ?_
      refine Awp.condT (b := true) rfl rfl ?_
      refine Awp.consP C ?_
      refine rvP C (.pv (.lit (.int .i64 120))) ?_
      refine rvc_nil ?_
      refine Awp.ret ?_
      subst hR
      exact ⟨.inl rfl, rfl⟩
    ·
     replace hR := of_false h54 hR
     refine Awp.consP C ?_
     refine rvP C (.pv (.lit (.bool (c.kind == 3)))) ?_
     refine rvP C (.pv (.lit (.bool (c.kind == 3)))) ?_
     refine rvc_nil ?_
     refine Awp.cond (b := (c.kind == 3)) rfl (fun h56 => ?_) (fun h56 => ?_)
     ·
      replace hR := of_true h56 hR
      refine Awp.skip ?_
      refine Awp.condT (b := (c.kind == 3)) rfl h56 ?_
      refine Awp.regionP C ?_
      refine rvP C (.pv (.lit (.bool (decide (c.epoch ≤ 1099511627776))))) ?_
      refine rvP C (.pv (.lit (.bool (decide (c.epoch ≤ 1099511627776))))) ?_
      refine rvc_case 37 (decide (c.epoch ≤ 1099511627776)) rfl (fun h57 => ?_) (fun h57 => ?_)
      ·
       replace hR := of_true h57 hR
       refine rvO C (.pv (.lit (.bool false))) ?_
       refine rvP C (.pv (.lit (.bool false))) ?_
       refine rvP C (.pv (.lit (.bool false))) ?_
       refine rvS ?_
       refine rvS ?_
       refine rvS ?_
       refine rvP C (.pv (.lit (.bool false))) ?_
       refine rvP C (.pv (.lit (.bool false))) ?_
       refine rvc_nil ?_
       refine Awp.seq ?_
       refine Awp.consP C ?_
       refine rvP C (.pv (.lit (.bool false))) ?_
       refine rvP C (.pv (.lit (.bool true))) ?_
       refine rvc_nil ?_
       refine Awp.condT (b := true) rfl rfl ?_
       refine Awp.consP C ?_
       refine rvP C (.pv (.lit (.int .i64 120))) ?_
       refine rvc_nil ?_
       refine Awp.ret ?_
       subst hR
       exact ⟨.inl rfl, rfl⟩
      ·
       replace hR := of_false h57 hR
       refine rvS ?_
       refine rvP C (.pv (.lit (.bool false))) ?_
       refine rvP C (.pv (.lit (.bool false))) ?_
       refine rvS ?_
       refine rvS ?_
       refine rvS ?_
       refine rvP C (.pv (.lit (.bool false))) ?_
       refine rvP C (.pv (.lit (.bool false))) ?_
       refine rvc_nil ?_
       refine Awp.seq ?_
       refine Awp.consP C ?_
       refine rvP C (.pv (.lit (.bool false))) ?_
       refine rvP C (.pv (.lit (.bool true))) ?_
       refine rvc_nil ?_
       refine Awp.condT (b := true) rfl rfl ?_
       refine Awp.consP C ?_
       refine rvP C (.pv (.lit (.int .i64 120))) ?_
       refine rvc_nil ?_
       refine Awp.ret ?_
       subst hR
       exact ⟨.inl rfl, rfl⟩
     ·
      replace hR := of_false h56 hR
      refine Awp.regionP C ?_
      refine rvP C (.pv (.lit (.bool (c.kind == 4)))) ?_
      refine rvP C (.pv (.lit (.bool (c.kind == 4)))) ?_
      refine rvc_nil ?_
      refine Awp.cond (b := (c.kind == 4)) rfl (fun h58 => ?_) (fun h58 => ?_)
      ·
       replace hR := of_true h58 hR
       refine Awp.regionP C ?_
       refine rvP C (.pv (.lit (.bool (decide (c.epoch ≤ 1099511627776))))) ?_
       refine rvP C (.pv (.lit (.bool (decide (c.epoch ≤ 1099511627776))))) ?_
       refine rvc_case 37 (decide (c.epoch ≤ 1099511627776)) rfl (fun h59 => ?_) (fun h59 => ?_)
       ·
        replace hR := of_true h59 hR
        refine rvO C (.pv (.lit (.bool false))) ?_
        refine rvP C (.pv (.lit (.bool false))) ?_
        refine rvP C (.pv (.lit (.bool false))) ?_
        refine rvS ?_
        refine rvS ?_
        refine rvS ?_
        refine rvP C (.pv (.lit (.bool false))) ?_
        refine rvP C (.pv (.lit (.bool false))) ?_
        refine rvc_nil ?_
        refine Awp.seq ?_
        refine Awp.consP C ?_
        refine rvP C (.pv (.lit (.bool false))) ?_
        refine rvP C (.pv (.lit (.bool true))) ?_
        refine rvc_nil ?_
        refine Awp.condT (b := true) rfl rfl ?_
        refine Awp.consP C ?_
        refine rvP C (.pv (.lit (.int .i64 120))) ?_
        refine rvc_nil ?_
        refine Awp.ret ?_
        subst hR
        exact ⟨.inl rfl, rfl⟩
       ·
        replace hR := of_false h59 hR
        refine rvS ?_
        refine rvP C (.pv (.lit (.bool false))) ?_
        refine rvP C (.pv (.lit (.bool false))) ?_
        refine rvS ?_
        refine rvS ?_
        refine rvS ?_
        refine rvP C (.pv (.lit (.bool false))) ?_
        refine rvP C (.pv (.lit (.bool false))) ?_
        refine rvc_nil ?_
        refine Awp.seq ?_
        refine Awp.consP C ?_
        refine rvP C (.pv (.lit (.bool false))) ?_
        refine rvP C (.pv (.lit (.bool true))) ?_
        refine rvc_nil ?_
        refine Awp.condT (b := true) rfl rfl ?_
        refine Awp.consP C ?_
        refine rvP C (.pv (.lit (.int .i64 120))) ?_
        refine rvc_nil ?_
        refine Awp.ret ?_
        subst hR
        exact ⟨.inl rfl, rfl⟩
      ·
       replace hR := of_false h58 hR
       refine Awp.consP C ?_
       refine rvP C (.pv (.lit (.bool (c.kind == 2)))) ?_
       refine rvP C (.pv (.lit (.bool (c.kind == 2)))) ?_
       refine rvc_nil ?_
       refine Awp.cond (b := (c.kind == 2)) rfl (fun h60 => ?_) (fun h60 => ?_)
       ·
        replace hR := of_true h60 hR
        refine Awp.regionP C ?_
        refine rvP C (.pv (.lit (.bool (decide (c.epoch ≤ 1099511627776))))) ?_
        refine rvP C (.pv (.lit (.bool (decide (c.epoch ≤ 1099511627776))))) ?_
        refine rvc_case 48 (decide (c.epoch ≤ 1099511627776)) rfl (fun h61 => ?_) (fun h61 => ?_)
        ·
         replace hR := of_true h61 hR
         refine rvO C (.pv (.lit (.bool false))) ?_
         refine rvP C (.pv (.lit (.bool false))) ?_
         refine rvP C (.pv (.lit (.bool false))) ?_
         refine rvS ?_
         refine rvP C (.pv (.lit (.bool false))) ?_
         refine rvP C (.pv (.lit (.bool false))) ?_
         refine rvc_nil ?_
         refine Awp.seq ?_
         refine Awp.consP C ?_
         refine rvP C (.pv (.lit (.bool false))) ?_
         refine rvP C (.pv (.lit (.bool true))) ?_
         refine rvc_nil ?_
         refine Awp.condT (b := true) rfl rfl ?_
         refine Awp.consP C ?_
         refine rvP C (.pv (.lit (.int .i64 120))) ?_
         refine rvc_nil ?_
         refine Awp.ret ?_
         subst hR
         exact ⟨.inl rfl, rfl⟩
        ·
         replace hR := of_false h61 hR
         refine rvS ?_
         refine rvP C (.pv (.lit (.bool false))) ?_
         refine rvP C (.pv (.lit (.bool false))) ?_
         refine rvS ?_
         refine rvP C (.pv (.lit (.bool false))) ?_
         refine rvP C (.pv (.lit (.bool false))) ?_
         refine rvc_nil ?_
         refine Awp.seq ?_
         refine Awp.consP C ?_
         refine rvP C (.pv (.lit (.bool false))) ?_
         refine rvP C (.pv (.lit (.bool true))) ?_
         refine rvc_nil ?_
         refine Awp.condT (b := true) rfl rfl ?_
         refine Awp.consP C ?_
         refine rvP C (.pv (.lit (.int .i64 120))) ?_
         refine rvc_nil ?_
         refine Awp.ret ?_
         subst hR
         exact ⟨.inl rfl, rfl⟩
       ·
        replace hR := of_false h60 hR
        refine Awp.consP C ?_
        refine rvP C (.pv (.lit (.bool (c.kind == 5)))) ?_
        refine rvP C (.pv (.lit (.bool (c.kind == 5)))) ?_
        refine rvc_nil ?_
        refine Awp.cond (b := (c.kind == 5)) rfl (fun h62 => ?_) (fun h62 => ?_)
        ·
         replace hR := of_true h62 hR
         refine Awp.regionP C ?_
         refine rvP C (.pv (.lit (.bool (decide (c.epoch ≤ 1099511627776))))) ?_
         refine rvP C (.pv (.lit (.bool (decide (c.epoch ≤ 1099511627776))))) ?_
         refine rvc_case 57 (decide (c.epoch ≤ 1099511627776)) rfl (fun h63 => ?_) (fun h63 => ?_)
         ·
          replace hR := of_true h63 hR
          refine rvO C (.pv (.lit (.bool (decide (c.site < 3))))) ?_
          refine rvP C (.pv (.lit (.bool (decide (c.site < 3))))) ?_
          refine rvP C (.pv (.lit (.bool (decide (c.site < 3))))) ?_
          refine rvc_case 60 (decide (c.site < 3)) rfl (fun h64 => ?_) (fun h64 => ?_)
          ·
           replace hR := of_true h64 hR
           refine rvO C (.ptr 1 1) ?_
           refine rvO C (.pv (.lit (.int .i64 c.node))) ?_
           refine rvO C (.pv (.lit (.bool (c.node == 0)))) ?_
           refine rvP C (.pv (.lit (.bool (c.node == 0)))) ?_
           refine rvP C (.pv (.lit (.bool (c.node == 0)))) ?_
           refine rvc_nil ?_
           refine Awp.seq ?_
           refine Awp.consP C ?_
           refine rvP C (.pv (.lit (.bool (c.node == 0)))) ?_
           refine rvP C (.pv (.lit (.bool (!(c.node == 0))))) ?_
           refine rvc_nil ?_
           refine Awp.cond (b := (!(c.node == 0))) rfl (fun h65 => ?_) (fun h65 => ?_)
           ·
            replace hR := of_true h65 hR
            refine Awp.consP C ?_
            refine rvP C (.pv (.lit (.int .i64 120))) ?_
            refine rvc_nil ?_
            refine Awp.ret ?_
            subst hR
            exact ⟨.inl rfl, rfl⟩
           ·
            replace hR := of_false h65 hR
            refine Awp.skip ?_
            refine Awp.consP C ?_
            refine rvP C (.pv (.lit (.int .i64 0))) ?_
            refine rvc_nil ?_
            refine Awp.ret ?_
            subst hR
            exact ⟨.inl rfl, rfl⟩
          ·
           replace hR := of_false h64 hR
           refine rvS ?_
           refine rvS ?_
           refine rvS ?_
           refine rvP C (.pv (.lit (.bool false))) ?_
           refine rvP C (.pv (.lit (.bool false))) ?_
           refine rvc_nil ?_
           refine Awp.seq ?_
           refine Awp.consP C ?_
           refine rvP C (.pv (.lit (.bool false))) ?_
           refine rvP C (.pv (.lit (.bool true))) ?_
           refine rvc_nil ?_
           refine Awp.condT (b := true) rfl rfl ?_
           refine Awp.consP C ?_
           refine rvP C (.pv (.lit (.int .i64 120))) ?_
           refine rvc_nil ?_
           refine Awp.ret ?_
           subst hR
           exact ⟨.inl rfl, rfl⟩
         ·
          replace hR := of_false h63 hR
          refine rvS ?_
          refine rvP C (.pv (.lit (.bool false))) ?_
          refine rvP C (.pv (.lit (.bool false))) ?_
          refine rvS ?_
          refine rvS ?_
          refine rvS ?_
          refine rvP C (.pv (.lit (.bool false))) ?_
          refine rvP C (.pv (.lit (.bool false))) ?_
          refine rvc_nil ?_
          refine Awp.seq ?_
          refine Awp.consP C ?_
          refine rvP C (.pv (.lit (.bool false))) ?_
          refine rvP C (.pv (.lit (.bool true))) ?_
          refine rvc_nil ?_
          refine Awp.condT (b := true) rfl rfl ?_
          refine Awp.consP C ?_
          refine rvP C (.pv (.lit (.int .i64 120))) ?_
          refine rvc_nil ?_
          refine Awp.ret ?_
          subst hR
          exact ⟨.inl rfl, rfl⟩
        ·
         replace hR := of_false h62 hR
         refine Awp.regionP C ?_
         refine rvP C (.pv (.lit (.bool false))) ?_
         refine rvc_nil ?_
         refine Awp.seq ?_
         refine Awp.consP C ?_
         refine rvP C (.pv (.lit (.bool false))) ?_
         refine rvP C (.pv (.lit (.bool true))) ?_
         refine rvc_nil ?_
         refine Awp.condT (b := true) rfl rfl ?_
         refine Awp.consP C ?_
         refine rvP C (.pv (.lit (.int .i64 120))) ?_
         refine rvc_nil ?_
         refine Awp.ret ?_
         subst hR
         exact ⟨.inl rfl, rfl⟩
   ·
    replace hR := of_false h53 hR
    refine rvS ?_
    refine rvS ?_
    refine rvS ?_
    refine rvP C (.pv (.lit (.bool false))) ?_
    refine rvP C (.pv (.lit (.bool false))) ?_
    refine rvc_nil ?_
    refine Awp.seq ?_
    refine Awp.consP C ?_
    refine rvP C (.ptr 1 0) ?_
    refine rvP C (.pv (.lit (.int .i64 c.kind))) ?_
    refine rvc_nil ?_
    refine Awp.block ?_
    refine Awp.seq ?_
    refine Awp.consP C ?_
    refine rvP C (.pv (.lit (.bool (c.kind == 1)))) ?_
    refine rvP C (.pv (.lit (.bool (c.kind == 1)))) ?_
    refine rvc_nil ?_
    refine Awp.cond (b := (c.kind == 1)) rfl (fun h66 => ?_) (fun h66 => ?_)
    ·
     replace hR := of_true h66 hR
     refine Awp.skip ?_
     refine Awp.condT (b := (c.kind == 1)) rfl h66 ?_
     refine Awp.regionP C ?_
     refine rvP C (.pv (.lit (.bool false))) ?_
     refine rvP C (.pv (.lit (.bool false))) ?_
     refine rvS ?_
     refine rvP C (.pv (.lit (.bool false))) ?_
     refine rvP C (.pv (.lit (.bool false))) ?_
     refine rvS ?_
     refine rvS ?_
     refine rvS ?_
     refine rvP C (.pv (.lit (.bool false))) ?_
     refine rvP C (.pv (.lit (.bool false))) ?_
     refine rvc_nil ?_
     refine Awp.seq ?_
     refine Awp.consP C ?_
     refine rvP C (.pv (.lit (.bool false))) ?_
     refine rvP C (.pv (.lit (.bool true))) ?_
     refine rvc_nil ?_
     refine Awp.condT (b := true) rfl rfl ?_
     refine Awp.consP C ?_
     refine rvP C (.pv (.lit (.int .i64 120))) ?_
     refine rvc_nil ?_
     refine Awp.ret ?_
     subst hR
     exact ⟨.inl rfl, rfl⟩
    ·
     replace hR := of_false h66 hR
     refine Awp.consP C ?_
     refine rvP C (.pv (.lit (.bool (c.kind == 3)))) ?_
     refine rvP C (.pv (.lit (.bool (c.kind == 3)))) ?_
     refine rvc_nil ?_
     refine Awp.cond (b := (c.kind == 3)) rfl (fun h67 => ?_) (fun h67 => ?_)
     ·
      replace hR := of_true h67 hR
      refine Awp.skip ?_
      refine Awp.condT (b := (c.kind == 3)) rfl h67 ?_
      refine Awp.regionP C ?_
      refine rvP C (.pv (.lit (.bool false))) ?_
      refine rvP C (.pv (.lit (.bool false))) ?_
      refine rvS ?_
      refine rvP C (.pv (.lit (.bool false))) ?_
      refine rvP C (.pv (.lit (.bool false))) ?_
      refine rvS ?_
      refine rvS ?_
      refine rvS ?_
      refine rvP C (.pv (.lit (.bool false))) ?_
      refine rvP C (.pv (.lit (.bool false))) ?_
      refine rvc_nil ?_
      refine Awp.seq ?_
      refine Awp.consP C ?_
      refine rvP C (.pv (.lit (.bool false))) ?_
      refine rvP C (.pv (.lit (.bool true))) ?_
      refine rvc_nil ?_
      refine Awp.condT (b := true) rfl rfl ?_
      refine Awp.consP C ?_
      refine rvP C (.pv (.lit (.int .i64 120))) ?_
      refine rvc_nil ?_
      refine Awp.ret ?_
      subst hR
      exact ⟨.inl rfl, rfl⟩
     ·
      replace hR := of_false h67 hR
      refine Awp.regionP C ?_
      refine rvP C (.pv (.lit (.bool (c.kind == 4)))) ?_
      refine rvP C (.pv (.lit (.bool (c.kind == 4)))) ?_
      refine rvc_nil ?_
      refine Awp.cond (b := (c.kind == 4)) rfl (fun h68 => ?_) (fun h68 => ?_)
      ·
       replace hR := of_true h68 hR
       refine Awp.regionP C ?_
       refine rvP C (.pv (.lit (.bool false))) ?_
       refine rvP C (.pv (.lit (.bool false))) ?_
       refine rvS ?_
       refine rvP C (.pv (.lit (.bool false))) ?_
       refine rvP C (.pv (.lit (.bool false))) ?_
       refine rvS ?_
       refine rvS ?_
       refine rvS ?_
       refine rvP C (.pv (.lit (.bool false))) ?_
       refine rvP C (.pv (.lit (.bool false))) ?_
       refine rvc_nil ?_
       refine Awp.seq ?_
       refine Awp.consP C ?_
       refine rvP C (.pv (.lit (.bool false))) ?_
       refine rvP C (.pv (.lit (.bool true))) ?_
       refine rvc_nil ?_
       refine Awp.condT (b := true) rfl rfl ?_
       refine Awp.consP C ?_
       refine rvP C (.pv (.lit (.int .i64 120))) ?_
       refine rvc_nil ?_
       refine Awp.ret ?_
       subst hR
       exact ⟨.inl rfl, rfl⟩
      ·
       replace hR := of_false h68 hR
       refine Awp.consP C ?_
       refine rvP C (.pv (.lit (.bool (c.kind == 2)))) ?_
       refine rvP C (.pv (.lit (.bool (c.kind == 2)))) ?_
       refine rvc_nil ?_
       refine Awp.cond (b := (c.kind == 2)) rfl (fun h69 => ?_) (fun h69 => ?_)
       ·
        replace hR := of_true h69 hR
        refine Awp.regionP C ?_
        refine rvP C (.pv (.lit (.bool false))) ?_
        refine rvP C (.pv (.lit (.bool false))) ?_
        refine rvS ?_
        refine rvP C (.pv (.lit (.bool false))) ?_
        refine rvP C (.pv (.lit (.bool false))) ?_
        refine rvS ?_
        refine rvP C (.pv (.lit (.bool false))) ?_
        refine rvP C (.pv (.lit (.bool false))) ?_
        refine rvc_nil ?_
        refine Awp.seq ?_
        refine Awp.consP C ?_
        refine rvP C (.pv (.lit (.bool false))) ?_
        refine rvP C (.pv (.lit (.bool true))) ?_
        refine rvc_nil ?_
        refine Awp.condT (b := true) rfl rfl ?_
        refine Awp.consP C ?_
        refine rvP C (.pv (.lit (.int .i64 120))) ?_
        refine rvc_nil ?_
        refine Awp.ret ?_
        subst hR
        exact ⟨.inl rfl, rfl⟩
       ·
        replace hR := of_false h69 hR
        refine Awp.consP C ?_
        refine rvP C (.pv (.lit (.bool (c.kind == 5)))) ?_
        refine rvP C (.pv (.lit (.bool (c.kind == 5)))) ?_
        refine rvc_nil ?_
        refine Awp.cond (b := (c.kind == 5)) rfl (fun h70 => ?_) (fun h70 => ?_)
        ·
         replace hR := of_true h70 hR
         refine Awp.regionP C ?_
         refine rvP C (.pv (.lit (.bool false))) ?_
         refine rvP C (.pv (.lit (.bool false))) ?_
         refine rvS ?_
         refine rvP C (.pv (.lit (.bool false))) ?_
         refine rvP C (.pv (.lit (.bool false))) ?_
         refine rvS ?_
         refine rvS ?_
         refine rvS ?_
         refine rvP C (.pv (.lit (.bool false))) ?_
         refine rvP C (.pv (.lit (.bool false))) ?_
         refine rvc_nil ?_
         refine Awp.seq ?_
         refine Awp.consP C ?_
         refine rvP C (.pv (.lit (.bool false))) ?_
         refine rvP C (.pv (.lit (.bool true))) ?_
         refine rvc_nil ?_
         refine Awp.condT (b := true) rfl rfl ?_
         refine Awp.consP C ?_
         refine rvP C (.pv (.lit (.int .i64 120))) ?_
         refine rvc_nil ?_
         refine Awp.ret ?_
         subst hR
         exact ⟨.inl rfl, rfl⟩
        ·
         replace hR := of_false h70 hR
         refine Awp.regionP C ?_
         refine rvP C (.pv (.lit (.bool false))) ?_
         refine rvc_nil ?_
         refine Awp.seq ?_
         refine Awp.consP C ?_
         refine rvP C (.pv (.lit (.bool false))) ?_
         refine rvP C (.pv (.lit (.bool true))) ?_
         refine rvc_nil ?_
         refine Awp.condT (b := true) rfl rfl ?_
         refine Awp.consP C ?_
         refine rvP C (.pv (.lit (.int .i64 120))) ?_
         refine rvc_nil ?_
         refine Awp.ret ?_
         subst hR
         exact ⟨.inl rfl, rfl⟩
  ·
   replace hR := of_false h52 hR
   refine rvS ?_
   refine rvS ?_
   refine rvS ?_
   refine rvP C (.pv (.lit (.bool false))) ?_
   refine rvP C (.pv (.lit (.bool false))) ?_
   refine rvc_nil ?_
   refine Awp.consP C ?_
   refine rvP C (.ptr 1 3) ?_
   refine rvP C (.pv (.lit (.int .i64 c.epoch))) ?_
   refine rvP C (.pv (.lit (.bool (decide (c.epoch ≥ 1))))) ?_
   refine rvP C (.pv (.lit (.bool (decide (c.epoch ≥ 1))))) ?_
   refine rvc_case 25 (decide (c.epoch ≥ 1)) rfl (fun h71 => ?_) (fun h71 => ?_)
   ·
    replace hR := of_true h71 hR
    refine rvO C (.ptr 1 3) ?_
    refine rvO C (.pv (.lit (.int .i64 c.epoch))) ?_
    refine rvO C (.pv (.lit (.bool (decide (c.epoch ≤ 1099511627776))))) ?_
    refine rvP C (.pv (.lit (.bool (decide (c.epoch ≤ 1099511627776))))) ?_
    refine rvP C (.pv (.lit (.bool (decide (c.epoch ≤ 1099511627776))))) ?_
    refine rvc_nil ?_
    refine Awp.seq ?_
    refine Awp.consP C ?_
    refine rvP C (.ptr 1 0) ?_
    refine rvP C (.pv (.lit (.int .i64 c.kind))) ?_
    refine rvc_nil ?_
    refine Awp.block ?_
    refine Awp.seq ?_
    refine Awp.consP C ?_
    refine rvP C (.pv (.lit (.bool (c.kind == 1)))) ?_
    refine rvP C (.pv (.lit (.bool (c.kind == 1)))) ?_
    refine rvc_nil ?_
    refine Awp.cond (b := (c.kind == 1)) rfl (fun h72 => ?_) (fun h72 => ?_)
    ·
     replace hR := of_true h72 hR
     refine Awp.skip ?_
     refine Awp.condT (b := (c.kind == 1)) rfl h72 ?_
     refine Awp.regionP C ?_
     refine rvP C (.pv (.lit (.bool (decide (c.epoch ≤ 1099511627776))))) ?_
     refine rvP C (.pv (.lit (.bool (decide (c.epoch ≤ 1099511627776))))) ?_
     refine rvc_case 37 (decide (c.epoch ≤ 1099511627776)) rfl (fun h73 => ?_) (fun h73 => ?_)
     ·
      replace hR := of_true h73 hR
      refine rvO C (.pv (.lit (.bool false))) ?_
      refine rvP C (.pv (.lit (.bool false))) ?_
      refine rvP C (.pv (.lit (.bool false))) ?_
      refine rvS ?_
      refine rvS ?_
      refine rvS ?_
      refine rvP C (.pv (.lit (.bool false))) ?_
      refine rvP C (.pv (.lit (.bool false))) ?_
      refine rvc_nil ?_
      refine Awp.seq ?_
      refine Awp.consP C ?_
      refine rvP C (.pv (.lit (.bool false))) ?_
      refine rvP C (.pv (.lit (.bool true))) ?_
      refine rvc_nil ?_
      refine Awp.condT (b := true) rfl rfl ?_
      refine Awp.consP C ?_
      refine rvP C (.pv (.lit (.int .i64 120))) ?_
      refine rvc_nil ?_
      refine Awp.ret ?_
      subst hR
      exact ⟨.inl rfl, rfl⟩
     ·
      replace hR := of_false h73 hR
      refine rvS ?_
      refine rvP C (.pv (.lit (.bool false))) ?_
      refine rvP C (.pv (.lit (.bool false))) ?_
      refine rvS ?_
      refine rvS ?_
      refine rvS ?_
      refine rvP C (.pv (.lit (.bool false))) ?_
      refine rvP C (.pv (.lit (.bool false))) ?_
      refine rvc_nil ?_
      refine Awp.seq ?_
      refine Awp.consP C ?_
      refine rvP C (.pv (.lit (.bool false))) ?_
      refine rvP C (.pv (.lit (.bool true))) ?_
      refine rvc_nil ?_
      refine Awp.condT (b := true) rfl rfl ?_
      refine Awp.consP C ?_
      refine rvP C (.pv (.lit (.int .i64 120))) ?_
      refine rvc_nil ?_
      refine Awp.ret ?_
      subst hR
      exact ⟨.inl rfl, rfl⟩
    ·
     replace hR := of_false h72 hR
     refine Awp.consP C ?_
     refine rvP C (.pv (.lit (.bool (c.kind == 3)))) ?_
     refine rvP C (.pv (.lit (.bool (c.kind == 3)))) ?_
     refine rvc_nil ?_
     refine Awp.cond (b := (c.kind == 3)) rfl (fun h74 => ?_) (fun h74 => ?_)
     ·
      replace hR := of_true h74 hR
      refine Awp.skip ?_
      refine Awp.condT (b := (c.kind == 3)) rfl h74 ?_
      refine Awp.regionP C ?_
      refine rvP C (.pv (.lit (.bool (decide (c.epoch ≤ 1099511627776))))) ?_
      refine rvP C (.pv (.lit (.bool (decide (c.epoch ≤ 1099511627776))))) ?_
      refine rvc_case 37 (decide (c.epoch ≤ 1099511627776)) rfl (fun h75 => ?_) (fun h75 => ?_)
      ·
       replace hR := of_true h75 hR
       refine rvO C (.pv (.lit (.bool false))) ?_
       refine rvP C (.pv (.lit (.bool false))) ?_
       refine rvP C (.pv (.lit (.bool false))) ?_
       refine rvS ?_
       refine rvS ?_
       refine rvS ?_
       refine rvP C (.pv (.lit (.bool false))) ?_
       refine rvP C (.pv (.lit (.bool false))) ?_
       refine rvc_nil ?_
       refine Awp.seq ?_
       refine Awp.consP C ?_
       refine rvP C (.pv (.lit (.bool false))) ?_
       refine rvP C (.pv (.lit (.bool true))) ?_
       refine rvc_nil ?_
       refine Awp.condT (b := true) rfl rfl ?_
       refine Awp.consP C ?_
       refine rvP C (.pv (.lit (.int .i64 120))) ?_
       refine rvc_nil ?_
       refine Awp.ret ?_
       subst hR
       exact ⟨.inl rfl, rfl⟩
      ·
       replace hR := of_false h75 hR
       refine rvS ?_
       refine rvP C (.pv (.lit (.bool false))) ?_
       refine rvP C (.pv (.lit (.bool false))) ?_
       refine rvS ?_
       refine rvS ?_
       refine rvS ?_
       refine rvP C (.pv (.lit (.bool false))) ?_
       refine rvP C (.pv (.lit (.bool false))) ?_
       refine rvc_nil ?_
       refine Awp.seq ?_
       refine Awp.consP C ?_
       refine rvP C (.pv (.lit (.bool false))) ?_
       refine rvP C (.pv (.lit (.bool true))) ?_
       refine rvc_nil ?_
       refine Awp.condT (b := true) rfl rfl ?_
       refine Awp.consP C ?_
       refine rvP C (.pv (.lit (.int .i64 120))) ?_
       refine rvc_nil ?_
       refine Awp.ret ?_
       subst hR
       exact ⟨.inl rfl, rfl⟩
     ·
      replace hR := of_false h74 hR
      refine Awp.regionP C ?_
      refine rvP C (.pv (.lit (.bool (c.kind == 4)))) ?_
      refine rvP C (.pv (.lit (.bool (c.kind == 4)))) ?_
      refine rvc_nil ?_
      refine Awp.cond (b := (c.kind == 4)) rfl (fun h76 => ?_) (fun h76 => ?_)
      ·
       replace hR := of_true h76 hR
       refine Awp.regionP C ?_
       refine rvP C (.pv (.lit (.bool (decide (c.epoch ≤ 1099511627776))))) ?_
       refine rvP C (.pv (.lit (.bool (decide (c.epoch ≤ 1099511627776))))) ?_
       refine rvc_case 37 (decide (c.epoch ≤ 1099511627776)) rfl (fun h77 => ?_) (fun h77 => ?_)
       ·
        replace hR := of_true h77 hR
        refine rvO C (.pv (.lit (.bool false))) ?_
        refine rvP C (.pv (.lit (.bool false))) ?_
        refine rvP C (.pv (.lit (.bool false))) ?_
        refine rvS ?_
        refine rvS ?_
        refine rvS ?_
        refine rvP C (.pv (.lit (.bool false))) ?_
        refine rvP C (.pv (.lit (.bool false))) ?_
        refine rvc_nil ?_
        refine Awp.seq ?_
        refine Awp.consP C ?_
        refine rvP C (.pv (.lit (.bool false))) ?_
        refine rvP C (.pv (.lit (.bool true))) ?_
        refine rvc_nil ?_
        refine Awp.condT (b := true) rfl rfl ?_
        refine Awp.consP C ?_
        refine rvP C (.pv (.lit (.int .i64 120))) ?_
        refine rvc_nil ?_
        refine Awp.ret ?_
        subst hR
        exact ⟨.inl rfl, rfl⟩
       ·
        replace hR := of_false h77 hR
        refine rvS ?_
        refine rvP C (.pv (.lit (.bool false))) ?_
        refine rvP C (.pv (.lit (.bool false))) ?_
        refine rvS ?_
        refine rvS ?_
        refine rvS ?_
        refine rvP C (.pv (.lit (.bool false))) ?_
        refine rvP C (.pv (.lit (.bool false))) ?_
        refine rvc_nil ?_
        refine Awp.seq ?_
        refine Awp.consP C ?_
        refine rvP C (.pv (.lit (.bool false))) ?_
        refine rvP C (.pv (.lit (.bool true))) ?_
        refine rvc_nil ?_
        refine Awp.condT (b := true) rfl rfl ?_
        refine Awp.consP C ?_
        refine rvP C (.pv (.lit (.int .i64 120))) ?_
        refine rvc_nil ?_
        refine Awp.ret ?_
        subst hR
        exact ⟨.inl rfl, rfl⟩
      ·
       replace hR := of_false h76 hR
       refine Awp.consP C ?_
       refine rvP C (.pv (.lit (.bool (c.kind == 2)))) ?_
       refine rvP C (.pv (.lit (.bool (c.kind == 2)))) ?_
       refine rvc_nil ?_
       refine Awp.cond (b := (c.kind == 2)) rfl (fun h78 => ?_) (fun h78 => ?_)
       ·
        replace hR := of_true h78 hR
        refine Awp.regionP C ?_
        refine rvP C (.pv (.lit (.bool (decide (c.epoch ≤ 1099511627776))))) ?_
        refine rvP C (.pv (.lit (.bool (decide (c.epoch ≤ 1099511627776))))) ?_
        refine rvc_case 48 (decide (c.epoch ≤ 1099511627776)) rfl (fun h79 => ?_) (fun h79 => ?_)
        ·
         replace hR := of_true h79 hR
         refine rvO C (.pv (.lit (.bool false))) ?_
         refine rvP C (.pv (.lit (.bool false))) ?_
         refine rvP C (.pv (.lit (.bool false))) ?_
         refine rvS ?_
         refine rvP C (.pv (.lit (.bool false))) ?_
         refine rvP C (.pv (.lit (.bool false))) ?_
         refine rvc_nil ?_
         refine Awp.seq ?_
         refine Awp.consP C ?_
         refine rvP C (.pv (.lit (.bool false))) ?_
         refine rvP C (.pv (.lit (.bool true))) ?_
         refine rvc_nil ?_
         refine Awp.condT (b := true) rfl rfl ?_
         refine Awp.consP C ?_
         refine rvP C (.pv (.lit (.int .i64 120))) ?_
         refine rvc_nil ?_
         refine Awp.ret ?_
         subst hR
         exact ⟨.inl rfl, rfl⟩
        ·
         replace hR := of_false h79 hR
         refine rvS ?_
         refine rvP C (.pv (.lit (.bool false))) ?_
         refine rvP C (.pv (.lit (.bool false))) ?_
         refine rvS ?_
         refine rvP C (.pv (.lit (.bool false))) ?_
         refine rvP C (.pv (.lit (.bool false))) ?_
         refine rvc_nil ?_
         refine Awp.seq ?_
         refine Awp.consP C ?_
         refine rvP C (.pv (.lit (.bool false))) ?_
         refine rvP C (.pv (.lit (.bool true))) ?_
         refine rvc_nil ?_
         refine Awp.condT (b := true) rfl rfl ?_
         refine Awp.consP C ?_
         refine rvP C (.pv (.lit (.int .i64 120))) ?_
         refine rvc_nil ?_
         refine Awp.ret ?_
         subst hR
         exact ⟨.inl rfl, rfl⟩
       ·
        replace hR := of_false h78 hR
        refine Awp.consP C ?_
        refine rvP C (.pv (.lit (.bool (c.kind == 5)))) ?_
        refine rvP C (.pv (.lit (.bool (c.kind == 5)))) ?_
        refine rvc_nil ?_
        refine Awp.cond (b := (c.kind == 5)) rfl (fun h80 => ?_) (fun h80 => ?_)
        ·
         replace hR := of_true h80 hR
         refine Awp.regionP C ?_
         refine rvP C (.pv (.lit (.bool (decide (c.epoch ≤ 1099511627776))))) ?_
         refine rvP C (.pv (.lit (.bool (decide (c.epoch ≤ 1099511627776))))) ?_
         refine rvc_case 57 (decide (c.epoch ≤ 1099511627776)) rfl (fun h81 => ?_) (fun h81 => ?_)
         ·
          replace hR := of_true h81 hR
          refine rvO C (.pv (.lit (.bool false))) ?_
          refine rvP C (.pv (.lit (.bool false))) ?_
          refine rvP C (.pv (.lit (.bool false))) ?_
          refine rvS ?_
          refine rvS ?_
          refine rvS ?_
          refine rvP C (.pv (.lit (.bool false))) ?_
          refine rvP C (.pv (.lit (.bool false))) ?_
          refine rvc_nil ?_
          refine Awp.seq ?_
          refine Awp.consP C ?_
          refine rvP C (.pv (.lit (.bool false))) ?_
          refine rvP C (.pv (.lit (.bool true))) ?_
          refine rvc_nil ?_
          refine Awp.condT (b := true) rfl rfl ?_
          refine Awp.consP C ?_
          refine rvP C (.pv (.lit (.int .i64 120))) ?_
          refine rvc_nil ?_
          refine Awp.ret ?_
          subst hR
          exact ⟨.inl rfl, rfl⟩
         ·
          replace hR := of_false h81 hR
          refine rvS ?_
          refine rvP C (.pv (.lit (.bool false))) ?_
          refine rvP C (.pv (.lit (.bool false))) ?_
          refine rvS ?_
          refine rvS ?_
          refine rvS ?_
          refine rvP C (.pv (.lit (.bool false))) ?_
          refine rvP C (.pv (.lit (.bool false))) ?_
          refine rvc_nil ?_
          refine Awp.seq ?_
          refine Awp.consP C ?_
          refine rvP C (.pv (.lit (.bool false))) ?_
          refine rvP C (.pv (.lit (.bool true))) ?_
          refine rvc_nil ?_
          refine Awp.condT (b := true) rfl rfl ?_
          refine Awp.consP C ?_
          refine rvP C (.pv (.lit (.int .i64 120))) ?_
          refine rvc_nil ?_
          refine Awp.ret ?_
          subst hR
          exact ⟨.inl rfl, rfl⟩
        ·
         replace hR := of_false h80 hR
         refine Awp.regionP C ?_
         refine rvP C (.pv (.lit (.bool false))) ?_
         refine rvc_nil ?_
         refine Awp.seq ?_
         refine Awp.consP C ?_
         refine rvP C (.pv (.lit (.bool false))) ?_
         refine rvP C (.pv (.lit (.bool true))) ?_
         refine rvc_nil ?_
         refine Awp.condT (b := true) rfl rfl ?_
         refine Awp.consP C ?_
         refine rvP C (.pv (.lit (.int .i64 120))) ?_
         refine rvc_nil ?_
         refine Awp.ret ?_
         subst hR
         exact ⟨.inl rfl, rfl⟩
   ·
    replace hR := of_false h71 hR
    refine rvS ?_
    refine rvS ?_
    refine rvS ?_
    refine rvP C (.pv (.lit (.bool false))) ?_
    refine rvP C (.pv (.lit (.bool false))) ?_
    refine rvc_nil ?_
    refine Awp.seq ?_
    refine Awp.consP C ?_
    refine rvP C (.ptr 1 0) ?_
    refine rvP C (.pv (.lit (.int .i64 c.kind))) ?_
    refine rvc_nil ?_
    refine Awp.block ?_
    refine Awp.seq ?_
    refine Awp.consP C ?_
    refine rvP C (.pv (.lit (.bool (c.kind == 1)))) ?_
    refine rvP C (.pv (.lit (.bool (c.kind == 1)))) ?_
    refine rvc_nil ?_
    refine Awp.cond (b := (c.kind == 1)) rfl (fun h82 => ?_) (fun h82 => ?_)
    ·
     replace hR := of_true h82 hR
     refine Awp.skip ?_
     refine Awp.condT (b := (c.kind == 1)) rfl h82 ?_
     refine Awp.regionP C ?_
     refine rvP C (.pv (.lit (.bool false))) ?_
     refine rvP C (.pv (.lit (.bool false))) ?_
     refine rvS ?_
     refine rvP C (.pv (.lit (.bool false))) ?_
     refine rvP C (.pv (.lit (.bool false))) ?_
     refine rvS ?_
     refine rvS ?_
     refine rvS ?_
     refine rvP C (.pv (.lit (.bool false))) ?_
     refine rvP C (.pv (.lit (.bool false))) ?_
     refine rvc_nil ?_
     refine Awp.seq ?_
     refine Awp.consP C ?_
     refine rvP C (.pv (.lit (.bool false))) ?_
     refine rvP C (.pv (.lit (.bool true))) ?_
     refine rvc_nil ?_
     refine Awp.condT (b := true) rfl rfl ?_
     refine Awp.consP C ?_
     refine rvP C (.pv (.lit (.int .i64 120))) ?_
     refine rvc_nil ?_
     refine Awp.ret ?_
     subst hR
     exact ⟨.inl rfl, rfl⟩
    ·
     replace hR := of_false h82 hR
     refine Awp.consP C ?_
     refine rvP C (.pv (.lit (.bool (c.kind == 3)))) ?_
     refine rvP C (.pv (.lit (.bool (c.kind == 3)))) ?_
     refine rvc_nil ?_
     refine Awp.cond (b := (c.kind == 3)) rfl (fun h83 => ?_) (fun h83 => ?_)
     ·
      replace hR := of_true h83 hR
      refine Awp.skip ?_
      refine Awp.condT (b := (c.kind == 3)) rfl h83 ?_
      refine Awp.regionP C ?_
      refine rvP C (.pv (.lit (.bool false))) ?_
      refine rvP C (.pv (.lit (.bool false))) ?_
      refine rvS ?_
      refine rvP C (.pv (.lit (.bool false))) ?_
      refine rvP C (.pv (.lit (.bool false))) ?_
      refine rvS ?_
      refine rvS ?_
      refine rvS ?_
      refine rvP C (.pv (.lit (.bool false))) ?_
      refine rvP C (.pv (.lit (.bool false))) ?_
      refine rvc_nil ?_
      refine Awp.seq ?_
      refine Awp.consP C ?_
      refine rvP C (.pv (.lit (.bool false))) ?_
      refine rvP C (.pv (.lit (.bool true))) ?_
      refine rvc_nil ?_
      refine Awp.condT (b := true) rfl rfl ?_
      refine Awp.consP C ?_
      refine rvP C (.pv (.lit (.int .i64 120))) ?_
      refine rvc_nil ?_
      refine Awp.ret ?_
      subst hR
      exact ⟨.inl rfl, rfl⟩
     ·
      replace hR := of_false h83 hR
      refine Awp.regionP C ?_
      refine rvP C (.pv (.lit (.bool (c.kind == 4)))) ?_
      refine rvP C (.pv (.lit (.bool (c.kind == 4)))) ?_
      refine rvc_nil ?_
      refine Awp.cond (b := (c.kind == 4)) rfl (fun h84 => ?_) (fun h84 => ?_)
      ·
       replace hR := of_true h84 hR
       refine Awp.regionP C ?_
       refine rvP C (.pv (.lit (.bool false))) ?_
       refine rvP C (.pv (.lit (.bool false))) ?_
       refine rvS ?_
       refine rvP C (.pv (.lit (.bool false))) ?_
       refine rvP C (.pv (.lit (.bool false))) ?_
       refine rvS ?_
       refine rvS ?_
       refine rvS ?_
       refine rvP C (.pv (.lit (.bool false))) ?_
       refine rvP C (.pv (.lit (.bool false))) ?_
       refine rvc_nil ?_
       refine Awp.seq ?_
       refine Awp.consP C ?_
       refine rvP C (.pv (.lit (.bool false))) ?_
       refine rvP C (.pv (.lit (.bool true))) ?_
       refine rvc_nil ?_
       refine Awp.condT (b := true) rfl rfl ?_
       refine Awp.consP C ?_
       refine rvP C (.pv (.lit (.int .i64 120))) ?_
       refine rvc_nil ?_
       refine Awp.ret ?_
       subst hR
       exact ⟨.inl rfl, rfl⟩
      ·
       replace hR := of_false h84 hR
       refine Awp.consP C ?_
       refine rvP C (.pv (.lit (.bool (c.kind == 2)))) ?_
       refine rvP C (.pv (.lit (.bool (c.kind == 2)))) ?_
       refine rvc_nil ?_
       refine Awp.cond (b := (c.kind == 2)) rfl (fun h85 => ?_) (fun h85 => ?_)
       ·
        replace hR := of_true h85 hR
        refine Awp.regionP C ?_
        refine rvP C (.pv (.lit (.bool false))) ?_
        refine rvP C (.pv (.lit (.bool false))) ?_
        refine rvS ?_
        refine rvP C (.pv (.lit (.bool false))) ?_
        refine rvP C (.pv (.lit (.bool false))) ?_
        refine rvS ?_
        refine rvP C (.pv (.lit (.bool false))) ?_
        refine rvP C (.pv (.lit (.bool false))) ?_
        refine rvc_nil ?_
        refine Awp.seq ?_
        refine Awp.consP C ?_
        refine rvP C (.pv (.lit (.bool false))) ?_
        refine rvP C (.pv (.lit (.bool true))) ?_
        refine rvc_nil ?_
        refine Awp.condT (b := true) rfl rfl ?_
        refine Awp.consP C ?_
        refine rvP C (.pv (.lit (.int .i64 120))) ?_
        refine rvc_nil ?_
        refine Awp.ret ?_
        subst hR
        exact ⟨.inl rfl, rfl⟩
       ·
        replace hR := of_false h85 hR
        refine Awp.consP C ?_
        refine rvP C (.pv (.lit (.bool (c.kind == 5)))) ?_
        refine rvP C (.pv (.lit (.bool (c.kind == 5)))) ?_
        refine rvc_nil ?_
        refine Awp.cond (b := (c.kind == 5)) rfl (fun h86 => ?_) (fun h86 => ?_)
        ·
         replace hR := of_true h86 hR
         refine Awp.regionP C ?_
         refine rvP C (.pv (.lit (.bool false))) ?_
         refine rvP C (.pv (.lit (.bool false))) ?_
         refine rvS ?_
         refine rvP C (.pv (.lit (.bool false))) ?_
         refine rvP C (.pv (.lit (.bool false))) ?_
         refine rvS ?_
         refine rvS ?_
         refine rvS ?_
         refine rvP C (.pv (.lit (.bool false))) ?_
         refine rvP C (.pv (.lit (.bool false))) ?_
         refine rvc_nil ?_
         refine Awp.seq ?_
         refine Awp.consP C ?_
         refine rvP C (.pv (.lit (.bool false))) ?_
         refine rvP C (.pv (.lit (.bool true))) ?_
         refine rvc_nil ?_
         refine Awp.condT (b := true) rfl rfl ?_
         refine Awp.consP C ?_
         refine rvP C (.pv (.lit (.int .i64 120))) ?_
         refine rvc_nil ?_
         refine Awp.ret ?_
         subst hR
         exact ⟨.inl rfl, rfl⟩
        ·
         replace hR := of_false h86 hR
         refine Awp.regionP C ?_
         refine rvP C (.pv (.lit (.bool false))) ?_
         refine rvc_nil ?_
         refine Awp.seq ?_
         refine Awp.consP C ?_
         refine rvP C (.pv (.lit (.bool false))) ?_
         refine rvP C (.pv (.lit (.bool true))) ?_
         refine rvc_nil ?_
         refine Awp.condT (b := true) rfl rfl ?_
         refine Awp.consP C ?_
         refine rvP C (.pv (.lit (.int .i64 120))) ?_
         refine rvc_nil ?_
         refine Awp.ret ?_
         subst hR
         exact ⟨.inl rfl, rfl⟩
def many_l0 (site : Int) : List Member → Nat → Int → Int
  | [], _, n => n
  | x :: xs, i, n => (bif (x.site == site) then many_l0 site xs (i + 1) (IntKind.i64.wrap (n + 1)) else many_l0 site xs (i + 1) n)
def many (c : Chain) (site : Int) : Int :=
  many_l0 site c.members.D 0 0
theorem many_calls (c : Chain) (site : Int) (hl1 : c.members.D.length ≤ 1000000) : PCalls Try.prog 51 [.agg [.pv (.lit (.int .i64 c.epoch)), sS (some c.members.nil) eMember c.members.D], .pv (.lit (.int .i64 site))] (.pv (.lit (.int .i64 (many c site)))) := by
 generalize hR : many c site = R
 refine PCalls.of_body tabOk Try.func51 rfl rfl rfl rfl rfl mixed fun E hP C hI => ?_
 refine Awp.consP C ?_
 refine rvc_un (rexec_prim C (δ := { v := .ptr 2 0, new := [(2, .cells [.pv (.lit (.int .i64 c.epoch)), sS (some c.members.nil) eMember c.members.D])] }) rfl rfl rfl rfl trivial rfl ?_)
 refine rvP C (.pv (.lit (.int .i64 0))) ?_
 refine rvc_nil ?_
 refine Awp.consP C ?_
 refine rvP C (.pv (.lit (.int .i64 0))) ?_
 refine rvc_nil ?_
 refine Awp.seq ?_
 refine Awp.consP C ?_
 refine rvP C (.ptr 2 1) ?_
 refine rvP C (sS (some c.members.nil) eMember c.members.D) ?_
 refine rvP C (.pv (.lit (.int .i64 (c.members.D.length : Int)))) ?_
 refine rvP C (.pv (.lit (.int .i64 0))) ?_
 refine rvc_nil ?_
 refine Awp.block ?_
 refine Awp.forR (σ := Int) (c.members.D.length) (fun i v => [(1, .pv (.lit (.int .i64 site))), (5, .pv (.lit (.int .i64 v))), (9, sS (some c.members.nil) eMember c.members.D), (10, .pv (.lit (.int .i64 (c.members.D.length : Int)))), (11, .pv (.lit (.int .i64 (i : Int))))]) (fun i v => []) [] (fun i v => many_l0 site (c.members.D.drop i) i v = R) 0 ?_ ?_ (fun i n h1 hR => ?_)
 · exact hR
 · exact ⟨fun b => b, WeakerR.ofL (Ks := []) hI ⟨⟨rfl, rfl⟩, ⟨rfl, rfl⟩, ⟨rfl, rfl⟩, ⟨rfl, rfl⟩, ⟨rfl, rfl⟩, trivial⟩ (okH_nil) rfl⟩
 refine Awp.consP C ?_
 refine rvP C (.pv (.lit (.bool (decide ((i : Int) < (c.members.D.length : Int)))))) ?_
 refine rvc_nil ?_
 refine Awp.seq ?_
 refine Awp.cond (b := (decide ((i : Int) < (c.members.D.length : Int)))) rfl (fun h2 => ?_) (fun h2 => ?_)
 ·
  have h3 : i < c.members.D.length := by have := of_decide_eq_true h2; omega
  obtain ⟨x, h4⟩ := getX h3
  rw [drop_at h4] at hR
  refine Awp.skip ?_
  refine Awp.seq ?_
  refine Awp.block ?_
  refine Awp.consP C ?_
  refine rvc_un (rexec_idxS C rfl rfl rfl rfl rfl rfl x (Int.natCast_nonneg _) h4 ?_)
  refine rvP C (.agg [.pv (.lit (.int .i64 x.node)), .pv (.lit (.int .i64 x.site)), .pv (.lit (.bool x.fresh))]) ?_
  refine rvc_un (rexec_prim C (δ := { v := .ptr 7 0, new := [(7, .cells [.pv (.lit (.int .i64 0)), .pv (.lit (.int .i64 0)), .pv (.lit (.bool false))])] }) rfl rfl rfl rfl trivial rfl ?_)
  refine rvc_un (rexec_prim C (δ := { v := .undef, wr := [(7, some (.cells [.pv (.lit (.int .i64 x.node)), .pv (.lit (.int .i64 x.site)), .pv (.lit (.bool x.fresh))]))] }) rfl rfl rfl rfl trivial rfl ?_)
  refine rvc_nil ?_
  refine Awp.consP C ?_
  refine rvP C (.ptr 7 1) ?_
  refine rvP C (.pv (.lit (.int .i64 x.site))) ?_
  refine rvP C (.pv (.lit (.int .i64 site))) ?_
  refine rvP C (.pv (.lit (.bool (x.site == site)))) ?_
  refine rvc_nil ?_
  refine Awp.cond (b := (x.site == site)) rfl (fun h5 => ?_) (fun h5 => ?_)
  ·
   replace hR := of_true h5 hR
   refine Awp.regionP C ?_
   refine rvP C (.pv (.lit (.int .i64 n))) ?_
   refine rvP C (.pv (.lit (.int .i64 (IntKind.i64.wrap (n + 1))))) ?_
   refine rvP C (.pv (.lit (.int .i64 (IntKind.i64.wrap (n + 1))))) ?_
   refine rvc_nil ?_
   refine Awp.regionP C ?_
   refine rvP C (.pv (.lit (.int .i64 (IntKind.i64.wrap ((i : Int) + 1))))) ?_
   refine rvP C (.pv (.lit (.int .i64 (IntKind.i64.wrap ((i : Int) + 1))))) ?_
   refine rvc_nil ?_
   refine ⟨h3, (IntKind.i64.wrap (n + 1)), ?_, ?_⟩
   · exact hR
   · exact ⟨fun b => b, WeakerR.ofL (Ks := []) hI ⟨⟨rfl, rfl⟩, ⟨rfl, rfl⟩, ⟨rfl, rfl⟩, ⟨rfl, rfl⟩, ⟨lit_cast (wrap_i64 (by omega) (by omega)), rfl⟩, trivial⟩ (okH_nil) rfl⟩
  ·
   replace hR := of_false h5 hR
   refine Awp.skip ?_
   refine Awp.regionP C ?_
   refine rvP C (.pv (.lit (.int .i64 (IntKind.i64.wrap ((i : Int) + 1))))) ?_
   refine rvP C (.pv (.lit (.int .i64 (IntKind.i64.wrap ((i : Int) + 1))))) ?_
   refine rvc_nil ?_
   refine ⟨h3, n, ?_, ?_⟩
   · exact hR
   · exact ⟨fun b => b, WeakerR.ofL (Ks := []) hI ⟨⟨rfl, rfl⟩, ⟨rfl, rfl⟩, ⟨rfl, rfl⟩, ⟨rfl, rfl⟩, ⟨lit_cast (wrap_i64 (by omega) (by omega)), rfl⟩, trivial⟩ (okH_nil) rfl⟩
 ·
  have h3 : ¬ i < c.members.D.length := by have := of_decide_eq_false h2; omega
  rw [drop_end h3] at hR
  refine Awp.exit ?_
  refine Awp.consP C ?_
  refine rvP C (.pv (.lit (.int .i64 n))) ?_
  refine rvP C (.pv (.lit (.int .i64 n))) ?_
  refine rvc_nil ?_
  refine Awp.ret ?_
  subst hR
  exact ⟨.inl rfl, rfl⟩
def rMany_l0 (site : Int) : List Member → Nat → Int → Int
  | [], _, n => n
  | x :: xs, i, n => (bif (x.site == site) then rMany_l0 site xs (i + 1) (IntKind.i64.wrap (n + 1)) else rMany_l0 site xs (i + 1) n)
def rMany (c : Chain) (site : Int) : Int :=
  rMany_l0 site c.members.D 0 0
theorem rMany_calls (c : Chain) (site : Int) (hl1 : c.members.D.length ≤ 1000000) : PCalls Try.prog 20 [.agg [.pv (.lit (.int .i64 c.epoch)), sS (some c.members.nil) eMember c.members.D], .pv (.lit (.int .i64 site))] (.pv (.lit (.int .i64 (rMany c site)))) := by
 generalize hR : rMany c site = R
 refine PCalls.of_body tabOk Try.func20 rfl rfl rfl rfl rfl mixed fun E hP C hI => ?_
 refine Awp.consP C ?_
 refine rvc_un (rexec_prim C (δ := { v := .ptr 2 0, new := [(2, .cells [.pv (.lit (.int .i64 c.epoch)), sS (some c.members.nil) eMember c.members.D])] }) rfl rfl rfl rfl trivial rfl ?_)
 refine rvP C (.pv (.lit (.int .i64 0))) ?_
 refine rvc_nil ?_
 refine Awp.consP C ?_
 refine rvP C (.pv (.lit (.int .i64 0))) ?_
 refine rvc_nil ?_
 refine Awp.seq ?_
 refine Awp.consP C ?_
 refine rvP C (.ptr 2 1) ?_
 refine rvP C (sS (some c.members.nil) eMember c.members.D) ?_
 refine rvP C (.pv (.lit (.int .i64 (c.members.D.length : Int)))) ?_
 refine rvP C (.pv (.lit (.int .i64 0))) ?_
 refine rvc_nil ?_
 refine Awp.block ?_
 refine Awp.forR (σ := Int) (c.members.D.length) (fun i v => [(1, .pv (.lit (.int .i64 site))), (5, .pv (.lit (.int .i64 v))), (9, sS (some c.members.nil) eMember c.members.D), (10, .pv (.lit (.int .i64 (c.members.D.length : Int)))), (11, .pv (.lit (.int .i64 (i : Int))))]) (fun i v => []) [] (fun i v => rMany_l0 site (c.members.D.drop i) i v = R) 0 ?_ ?_ (fun i n h1 hR => ?_)
 · exact hR
 · exact ⟨fun b => b, WeakerR.ofL (Ks := []) hI ⟨⟨rfl, rfl⟩, ⟨rfl, rfl⟩, ⟨rfl, rfl⟩, ⟨rfl, rfl⟩, ⟨rfl, rfl⟩, trivial⟩ (okH_nil) rfl⟩
 refine Awp.consP C ?_
 refine rvP C (.pv (.lit (.bool (decide ((i : Int) < (c.members.D.length : Int)))))) ?_
 refine rvc_nil ?_
 refine Awp.seq ?_
 refine Awp.cond (b := (decide ((i : Int) < (c.members.D.length : Int)))) rfl (fun h2 => ?_) (fun h2 => ?_)
 ·
  have h3 : i < c.members.D.length := by have := of_decide_eq_true h2; omega
  obtain ⟨x, h4⟩ := getX h3
  rw [drop_at h4] at hR
  refine Awp.skip ?_
  refine Awp.seq ?_
  refine Awp.block ?_
  refine Awp.consP C ?_
  refine rvc_un (rexec_idxS C rfl rfl rfl rfl rfl rfl x (Int.natCast_nonneg _) h4 ?_)
  refine rvP C (.agg [.pv (.lit (.int .i64 x.node)), .pv (.lit (.int .i64 x.site)), .pv (.lit (.bool x.fresh))]) ?_
  refine rvc_un (rexec_prim C (δ := { v := .ptr 7 0, new := [(7, .cells [.pv (.lit (.int .i64 0)), .pv (.lit (.int .i64 0)), .pv (.lit (.bool false))])] }) rfl rfl rfl rfl trivial rfl ?_)
  refine rvc_un (rexec_prim C (δ := { v := .undef, wr := [(7, some (.cells [.pv (.lit (.int .i64 x.node)), .pv (.lit (.int .i64 x.site)), .pv (.lit (.bool x.fresh))]))] }) rfl rfl rfl rfl trivial rfl ?_)
  refine rvc_nil ?_
  refine Awp.consP C ?_
  refine rvP C (.ptr 7 1) ?_
  refine rvP C (.pv (.lit (.int .i64 x.site))) ?_
  refine rvP C (.pv (.lit (.int .i64 site))) ?_
  refine rvP C (.pv (.lit (.bool (x.site == site)))) ?_
  refine rvc_nil ?_
  refine Awp.cond (b := (x.site == site)) rfl (fun h5 => ?_) (fun h5 => ?_)
  ·
   replace hR := of_true h5 hR
   refine Awp.regionP C ?_
   refine rvP C (.pv (.lit (.int .i64 n))) ?_
   refine rvP C (.pv (.lit (.int .i64 (IntKind.i64.wrap (n + 1))))) ?_
   refine rvP C (.pv (.lit (.int .i64 (IntKind.i64.wrap (n + 1))))) ?_
   refine rvc_nil ?_
   refine Awp.regionP C ?_
   refine rvP C (.pv (.lit (.int .i64 (IntKind.i64.wrap ((i : Int) + 1))))) ?_
   refine rvP C (.pv (.lit (.int .i64 (IntKind.i64.wrap ((i : Int) + 1))))) ?_
   refine rvc_nil ?_
   refine ⟨h3, (IntKind.i64.wrap (n + 1)), ?_, ?_⟩
   · exact hR
   · exact ⟨fun b => b, WeakerR.ofL (Ks := []) hI ⟨⟨rfl, rfl⟩, ⟨rfl, rfl⟩, ⟨rfl, rfl⟩, ⟨rfl, rfl⟩, ⟨lit_cast (wrap_i64 (by omega) (by omega)), rfl⟩, trivial⟩ (okH_nil) rfl⟩
  ·
   replace hR := of_false h5 hR
   refine Awp.skip ?_
   refine Awp.regionP C ?_
   refine rvP C (.pv (.lit (.int .i64 (IntKind.i64.wrap ((i : Int) + 1))))) ?_
   refine rvP C (.pv (.lit (.int .i64 (IntKind.i64.wrap ((i : Int) + 1))))) ?_
   refine rvc_nil ?_
   refine ⟨h3, n, ?_, ?_⟩
   · exact hR
   · exact ⟨fun b => b, WeakerR.ofL (Ks := []) hI ⟨⟨rfl, rfl⟩, ⟨rfl, rfl⟩, ⟨rfl, rfl⟩, ⟨rfl, rfl⟩, ⟨lit_cast (wrap_i64 (by omega) (by omega)), rfl⟩, trivial⟩ (okH_nil) rfl⟩
 ·
  have h3 : ¬ i < c.members.D.length := by have := of_decide_eq_false h2; omega
  rw [drop_end h3] at hR
  refine Awp.exit ?_
  refine Awp.consP C ?_
  refine rvP C (.pv (.lit (.int .i64 n))) ?_
  refine rvP C (.pv (.lit (.int .i64 n))) ?_
  refine rvc_nil ?_
  refine Awp.ret ?_
  subst hR
  exact ⟨.inl rfl, rfl⟩
def planCheck_l1 (w : (Nat → Int)) : Nat → Nat → Int
  | 0, _ => 0
  | k1 + 1, i1 => (bif (decide ((w i1) < 0)) then 1 else (bif (decide ((w i1) > 6)) then 1 else planCheck_l1 w k1 (i1 + 1) ))
def planCheck_l0 (h : (Nat → Int)) (w : (Nat → Int)) : Nat → Nat → Int
  | 0, _ => planCheck_l1 w 3 0 
  | k + 1, i => (bif (decide ((h i) < 0)) then 1 else (bif (decide ((h i) ≥ 3)) then 1 else planCheck_l0 h w k (i + 1) ))
def planCheck (h : (Nat → Int)) (w : (Nat → Int)) : Int :=
  planCheck_l0 h w 6 0
theorem planCheck_calls (h : (Nat → Int)) (w : (Nat → Int))  : PCalls Try.prog 21 [.agg [.pv (.lit (.int .i64 (h 0))), .pv (.lit (.int .i64 (h 1))), .pv (.lit (.int .i64 (h 2))), .pv (.lit (.int .i64 (h 3))), .pv (.lit (.int .i64 (h 4))), .pv (.lit (.int .i64 (h 5)))], .agg [.pv (.lit (.int .i64 (w 0))), .pv (.lit (.int .i64 (w 1))), .pv (.lit (.int .i64 (w 2)))]] (.pv (.lit (.int .i64 (planCheck h w)))) := by
 generalize hR : planCheck h w = R
 refine PCalls.of_body tabOk Try.func21 rfl rfl rfl rfl rfl mixed fun E hP C hI => ?_
 refine Awp.consP C ?_
 refine rvc_un (rexec_prim C (δ := { v := .ptr 2 0, new := [(2, .cells [.pv (.lit (.int .i64 (h 0))), .pv (.lit (.int .i64 (h 1))), .pv (.lit (.int .i64 (h 2))), .pv (.lit (.int .i64 (h 3))), .pv (.lit (.int .i64 (h 4))), .pv (.lit (.int .i64 (h 5)))])] }) rfl rfl rfl rfl trivial rfl ?_)
 refine rvc_un (rexec_prim C (δ := { v := .ptr 3 0, new := [(3, .cells [.pv (.lit (.int .i64 (w 0))), .pv (.lit (.int .i64 (w 1))), .pv (.lit (.int .i64 (w 2)))])] }) rfl rfl rfl rfl trivial rfl ?_)
 refine rvP C (.pv (.lit (.int .i64 0))) ?_
 refine rvc_nil ?_
 refine Awp.seq ?_
 refine Awp.consP C ?_
 refine rvP C (.agg [.pv (.lit (.int .i64 (h 0))), .pv (.lit (.int .i64 (h 1))), .pv (.lit (.int .i64 (h 2))), .pv (.lit (.int .i64 (h 3))), .pv (.lit (.int .i64 (h 4))), .pv (.lit (.int .i64 (h 5)))]) ?_
 refine rvP C (.pv (.lit (.int .i64 0))) ?_
 refine rvc_nil ?_
 refine Awp.block ?_
 refine Awp.forR (σ := Unit) (6) (fun i _v => [(3, .ptr 3 0), (9, .agg [.pv (.lit (.int .i64 (h 0))), .pv (.lit (.int .i64 (h 1))), .pv (.lit (.int .i64 (h 2))), .pv (.lit (.int .i64 (h 3))), .pv (.lit (.int .i64 (h 4))), .pv (.lit (.int .i64 (h 5)))]), (10, .pv (.lit (.int .i64 (i : Int))))]) (fun i _v => [(3, .cells [.pv (.lit (.int .i64 (w 0))), .pv (.lit (.int .i64 (w 1))), .pv (.lit (.int .i64 (w 2)))])]) [3] (fun i _v => planCheck_l0 h w (6 - i) i  = R) () ?_ ?_ (fun i _v h1 hR => ?_)
 · exact hR
 · exact ⟨fun b => b, WeakerR.ofL (Ks := [3]) hI ⟨⟨rfl, rfl⟩, ⟨rfl, rfl⟩, ⟨rfl, rfl⟩, trivial⟩ (okH_cons rfl rfl rfl rfl (okH_nil)) rfl⟩
 refine Awp.consP C ?_
 refine rvP C (.pv (.lit (.bool (decide ((i : Int) < 6))))) ?_
 refine rvc_nil ?_
 refine Awp.seq ?_
 refine Awp.cond (b := (decide ((i : Int) < 6))) rfl (fun h2 => ?_) (fun h2 => ?_)
 ·
  have h3 : i < 6 := by have := of_decide_eq_true h2; omega
  obtain ⟨k, h4⟩ : ∃ k, 6 - i = k + 1 := ⟨6 - i - 1, by omega⟩
  rw [h4] at hR
  refine Awp.skip ?_
  refine Awp.seq ?_
  refine Awp.block ?_
  refine Awp.consP C ?_
  refine rvc_un (rexec_idxA C (fun j => .pv (.lit (.int .i64 (h j)))) (.pv (.lit (.int .i64 (h i)))) rfl rfl rfl rfl rfl rfl rfl rfl ⟨(by have := of_decide_eq_true h2; omega), (by have := of_decide_eq_true h2; omega)⟩ rfl ?_)
  refine rvP C (.pv (.lit (.int .i64 (h i)))) ?_
  refine rvc_nil ?_
  refine Awp.consP C ?_
  refine rvP C (.pv (.lit (.int .i64 (h i)))) ?_
  refine rvP C (.pv (.lit (.bool (decide ((h i) < 0))))) ?_
  refine rvP C (.pv (.lit (.bool (decide ((h i) < 0))))) ?_
  refine rvc_case 15 (decide ((h i) < 0)) rfl (fun h5 => ?_) (fun h5 => ?_)
  ·
   replace hR := of_true h5 hR
   refine rvS ?_
   refine rvS ?_
   refine rvP C (.pv (.lit (.bool true))) ?_
   refine rvc_nil ?_
   refine Awp.condT (b := true) rfl rfl ?_
   refine Awp.consP C ?_
   refine rvP C (.pv (.lit (.int .i64 1))) ?_
   refine rvc_nil ?_
   refine Awp.ret ?_
   subst hR
   exact ⟨.inl rfl, rfl⟩
  ·
   replace hR := of_false h5 hR
   refine rvO C (.pv (.lit (.int .i64 (h i)))) ?_
   refine rvO C (.pv (.lit (.bool (decide ((h i) ≥ 3))))) ?_
   refine rvP C (.pv (.lit (.bool (decide ((h i) ≥ 3))))) ?_
   refine rvc_nil ?_
   refine Awp.cond (b := (decide ((h i) ≥ 3))) rfl (fun h6 => ?_) (fun h6 => ?_)
   ·
    replace hR := of_true h6 hR
    refine Awp.consP C ?_
    refine rvP C (.pv (.lit (.int .i64 1))) ?_
    refine rvc_nil ?_
    refine Awp.ret ?_
    subst hR
    exact ⟨.inl rfl, rfl⟩
   ·
    replace hR := of_false h6 hR
    refine Awp.skip ?_
    refine Awp.regionP C ?_
    refine rvP C (.pv (.lit (.int .i64 (IntKind.i64.wrap ((i : Int) + 1))))) ?_
    refine rvP C (.pv (.lit (.int .i64 (IntKind.i64.wrap ((i : Int) + 1))))) ?_
    refine rvc_nil ?_
    refine ⟨h3, (), ?_, ?_⟩
    · exact (by rw [show 6 - (i + 1) = k by omega]; exact hR)
    · exact ⟨fun b => b, WeakerR.ofL (Ks := [3]) hI ⟨⟨rfl, rfl⟩, ⟨rfl, rfl⟩, ⟨lit_cast (wrap_i64 (by omega) (by omega)), rfl⟩, trivial⟩ (okH_cons rfl rfl rfl rfl (okH_nil)) rfl⟩
 ·
  rw [show 6 - i = 0 by have := of_decide_eq_false h2; omega] at hR
  refine Awp.exit ?_
  refine Awp.seq ?_
  refine Awp.consP C ?_
  refine rvP C (.agg [.pv (.lit (.int .i64 (w 0))), .pv (.lit (.int .i64 (w 1))), .pv (.lit (.int .i64 (w 2)))]) ?_
  refine rvP C (.pv (.lit (.int .i64 0))) ?_
  refine rvc_nil ?_
  refine Awp.block ?_
  refine Awp.forR (σ := Unit) (3) (fun i1 _v => [(20, .agg [.pv (.lit (.int .i64 (w 0))), .pv (.lit (.int .i64 (w 1))), .pv (.lit (.int .i64 (w 2)))]), (21, .pv (.lit (.int .i64 (i1 : Int))))]) (fun i1 _v => []) [] (fun i1 _v => planCheck_l1 w (3 - i1) i1  = R) () ?_ ?_ (fun i1 _v h7 hR => ?_)
  · exact hR
  · exact ⟨fun b => b, WeakerR.ofL (Ks := []) hI ⟨⟨rfl, rfl⟩, ⟨rfl, rfl⟩, trivial⟩ (okH_nil) rfl⟩
  refine Awp.consP C ?_
  refine rvP C (.pv (.lit (.bool (decide ((i1 : Int) < 3))))) ?_
  refine rvc_nil ?_
  refine Awp.seq ?_
  refine Awp.cond (b := (decide ((i1 : Int) < 3))) rfl (fun h8 => ?_) (fun h8 => ?_)
  ·
   have h9 : i1 < 3 := by have := of_decide_eq_true h8; omega
   obtain ⟨k1, h10⟩ : ∃ k, 3 - i1 = k + 1 := ⟨3 - i1 - 1, by omega⟩
   rw [h10] at hR
   refine Awp.skip ?_
   refine Awp.seq ?_
   refine Awp.block ?_
   refine Awp.consP C ?_
   refine rvc_un (rexec_idxA C (fun j => .pv (.lit (.int .i64 (w j)))) (.pv (.lit (.int .i64 (w i1)))) rfl rfl rfl rfl rfl rfl rfl rfl ⟨(by have := of_decide_eq_false h2; have := of_decide_eq_true h8; omega), (by have := of_decide_eq_false h2; have := of_decide_eq_true h8; omega)⟩ rfl ?_)
   refine rvP C (.pv (.lit (.int .i64 (w i1)))) ?_
   refine rvc_nil ?_
   refine Awp.consP C ?_
   refine rvP C (.pv (.lit (.int .i64 (w i1)))) ?_
   refine rvP C (.pv (.lit (.bool (decide ((w i1) < 0))))) ?_
   refine rvP C (.pv (.lit (.bool (decide ((w i1) < 0))))) ?_
   refine rvc_case 26 (decide ((w i1) < 0)) rfl (fun h11 => ?_) (fun h11 => ?_)
   ·
    replace hR := of_true h11 hR
    refine rvS ?_
    refine rvS ?_
    refine rvP C (.pv (.lit (.bool true))) ?_
    refine rvc_nil ?_
    refine Awp.condT (b := true) rfl rfl ?_
    refine Awp.consP C ?_
    refine rvP C (.pv (.lit (.int .i64 1))) ?_
    refine rvc_nil ?_
    refine Awp.ret ?_
    subst hR
    exact ⟨.inl rfl, rfl⟩
   ·
    replace hR := of_false h11 hR
    refine rvO C (.pv (.lit (.int .i64 (w i1)))) ?_
    refine rvO C (.pv (.lit (.bool (decide ((w i1) > 6))))) ?_
    refine rvP C (.pv (.lit (.bool (decide ((w i1) > 6))))) ?_
    refine rvc_nil ?_
    refine Awp.cond (b := (decide ((w i1) > 6))) rfl (fun h12 => ?_) (fun h12 => ?_)
    ·
     replace hR := of_true h12 hR
     refine Awp.consP C ?_
     refine rvP C (.pv (.lit (.int .i64 1))) ?_
     refine rvc_nil ?_
     refine Awp.ret ?_
     subst hR
     exact ⟨.inl rfl, rfl⟩
    ·
     replace hR := of_false h12 hR
     refine Awp.skip ?_
     refine Awp.regionP C ?_
     refine rvP C (.pv (.lit (.int .i64 (IntKind.i64.wrap ((i1 : Int) + 1))))) ?_
     refine rvP C (.pv (.lit (.int .i64 (IntKind.i64.wrap ((i1 : Int) + 1))))) ?_
     refine rvc_nil ?_
     refine ⟨h9, (), ?_, ?_⟩
     · exact (by rw [show 3 - (i1 + 1) = k1 by omega]; exact hR)
     · exact ⟨fun b => b, WeakerR.ofL (Ks := []) hI ⟨⟨rfl, rfl⟩, ⟨lit_cast (wrap_i64 (by omega) (by omega)), rfl⟩, trivial⟩ (okH_nil) rfl⟩
  ·
   rw [show 3 - i1 = 0 by have := of_decide_eq_false h8; omega] at hR
   refine Awp.exit ?_
   refine Awp.consP C ?_
   refine rvP C (.pv (.lit (.int .i64 0))) ?_
   refine rvc_nil ?_
   refine Awp.ret ?_
   subst hR
   exact ⟨.inl rfl, rfl⟩
def rPlanCheck_l1 (w : (Nat → Int)) : Nat → Nat → Int
  | 0, _ => 0
  | k1 + 1, i1 => (bif (decide ((w i1) < 0)) then 1 else (bif (decide ((w i1) > 6)) then 1 else rPlanCheck_l1 w k1 (i1 + 1) ))
def rPlanCheck_l0 (h : (Nat → Int)) (w : (Nat → Int)) : Nat → Nat → Int
  | 0, _ => rPlanCheck_l1 w 3 0 
  | k + 1, i => (bif (decide ((h i) < 0)) then 1 else (bif (decide ((h i) > 2)) then 1 else rPlanCheck_l0 h w k (i + 1) ))
def rPlanCheck (h : (Nat → Int)) (w : (Nat → Int)) : Int :=
  rPlanCheck_l0 h w 6 0
theorem rPlanCheck_calls (h : (Nat → Int)) (w : (Nat → Int))  : PCalls Try.prog 22 [.agg [.pv (.lit (.int .i64 (h 0))), .pv (.lit (.int .i64 (h 1))), .pv (.lit (.int .i64 (h 2))), .pv (.lit (.int .i64 (h 3))), .pv (.lit (.int .i64 (h 4))), .pv (.lit (.int .i64 (h 5)))], .agg [.pv (.lit (.int .i64 (w 0))), .pv (.lit (.int .i64 (w 1))), .pv (.lit (.int .i64 (w 2)))]] (.pv (.lit (.int .i64 (rPlanCheck h w)))) := by
 generalize hR : rPlanCheck h w = R
 refine PCalls.of_body tabOk Try.func22 rfl rfl rfl rfl rfl mixed fun E hP C hI => ?_
 refine Awp.consP C ?_
 refine rvc_un (rexec_prim C (δ := { v := .ptr 2 0, new := [(2, .cells [.pv (.lit (.int .i64 (h 0))), .pv (.lit (.int .i64 (h 1))), .pv (.lit (.int .i64 (h 2))), .pv (.lit (.int .i64 (h 3))), .pv (.lit (.int .i64 (h 4))), .pv (.lit (.int .i64 (h 5)))])] }) rfl rfl rfl rfl trivial rfl ?_)
 refine rvc_un (rexec_prim C (δ := { v := .ptr 3 0, new := [(3, .cells [.pv (.lit (.int .i64 (w 0))), .pv (.lit (.int .i64 (w 1))), .pv (.lit (.int .i64 (w 2)))])] }) rfl rfl rfl rfl trivial rfl ?_)
 refine rvP C (.pv (.lit (.int .i64 0))) ?_
 refine rvc_nil ?_
 refine Awp.seq ?_
 refine Awp.consP C ?_
 refine rvP C (.agg [.pv (.lit (.int .i64 (h 0))), .pv (.lit (.int .i64 (h 1))), .pv (.lit (.int .i64 (h 2))), .pv (.lit (.int .i64 (h 3))), .pv (.lit (.int .i64 (h 4))), .pv (.lit (.int .i64 (h 5)))]) ?_
 refine rvP C (.pv (.lit (.int .i64 0))) ?_
 refine rvc_nil ?_
 refine Awp.block ?_
 refine Awp.forR (σ := Unit) (6) (fun i _v => [(3, .ptr 3 0), (9, .agg [.pv (.lit (.int .i64 (h 0))), .pv (.lit (.int .i64 (h 1))), .pv (.lit (.int .i64 (h 2))), .pv (.lit (.int .i64 (h 3))), .pv (.lit (.int .i64 (h 4))), .pv (.lit (.int .i64 (h 5)))]), (10, .pv (.lit (.int .i64 (i : Int))))]) (fun i _v => [(3, .cells [.pv (.lit (.int .i64 (w 0))), .pv (.lit (.int .i64 (w 1))), .pv (.lit (.int .i64 (w 2)))])]) [3] (fun i _v => rPlanCheck_l0 h w (6 - i) i  = R) () ?_ ?_ (fun i _v h1 hR => ?_)
 · exact hR
 · exact ⟨fun b => b, WeakerR.ofL (Ks := [3]) hI ⟨⟨rfl, rfl⟩, ⟨rfl, rfl⟩, ⟨rfl, rfl⟩, trivial⟩ (okH_cons rfl rfl rfl rfl (okH_nil)) rfl⟩
 refine Awp.consP C ?_
 refine rvP C (.pv (.lit (.bool (decide ((i : Int) < 6))))) ?_
 refine rvc_nil ?_
 refine Awp.seq ?_
 refine Awp.cond (b := (decide ((i : Int) < 6))) rfl (fun h2 => ?_) (fun h2 => ?_)
 ·
  have h3 : i < 6 := by have := of_decide_eq_true h2; omega
  obtain ⟨k, h4⟩ : ∃ k, 6 - i = k + 1 := ⟨6 - i - 1, by omega⟩
  rw [h4] at hR
  refine Awp.skip ?_
  refine Awp.seq ?_
  refine Awp.block ?_
  refine Awp.consP C ?_
  refine rvc_un (rexec_idxA C (fun j => .pv (.lit (.int .i64 (h j)))) (.pv (.lit (.int .i64 (h i)))) rfl rfl rfl rfl rfl rfl rfl rfl ⟨(by have := of_decide_eq_true h2; omega), (by have := of_decide_eq_true h2; omega)⟩ rfl ?_)
  refine rvP C (.pv (.lit (.int .i64 (h i)))) ?_
  refine rvc_nil ?_
  refine Awp.consP C ?_
  refine rvP C (.pv (.lit (.int .i64 (h i)))) ?_
  refine rvP C (.pv (.lit (.bool (decide ((h i) < 0))))) ?_
  refine rvP C (.pv (.lit (.bool (decide ((h i) < 0))))) ?_
  refine rvc_case 15 (decide ((h i) < 0)) rfl (fun h5 => ?_) (fun h5 => ?_)
  ·
   replace hR := of_true h5 hR
   refine rvS ?_
   refine rvS ?_
   refine rvP C (.pv (.lit (.bool true))) ?_
   refine rvc_nil ?_
   refine Awp.condT (b := true) rfl rfl ?_
   refine Awp.consP C ?_
   refine rvP C (.pv (.lit (.int .i64 1))) ?_
   refine rvc_nil ?_
   refine Awp.ret ?_
   subst hR
   exact ⟨.inl rfl, rfl⟩
  ·
   replace hR := of_false h5 hR
   refine rvO C (.pv (.lit (.int .i64 (h i)))) ?_
   refine rvO C (.pv (.lit (.bool (decide ((h i) > 2))))) ?_
   refine rvP C (.pv (.lit (.bool (decide ((h i) > 2))))) ?_
   refine rvc_nil ?_
   refine Awp.cond (b := (decide ((h i) > 2))) rfl (fun h6 => ?_) (fun h6 => ?_)
   ·
    replace hR := of_true h6 hR
    refine Awp.consP C ?_
    refine rvP C (.pv (.lit (.int .i64 1))) ?_
    refine rvc_nil ?_
    refine Awp.ret ?_
    subst hR
    exact ⟨.inl rfl, rfl⟩
   ·
    replace hR := of_false h6 hR
    refine Awp.skip ?_
    refine Awp.regionP C ?_
    refine rvP C (.pv (.lit (.int .i64 (IntKind.i64.wrap ((i : Int) + 1))))) ?_
    refine rvP C (.pv (.lit (.int .i64 (IntKind.i64.wrap ((i : Int) + 1))))) ?_
    refine rvc_nil ?_
    refine ⟨h3, (), ?_, ?_⟩
    · exact (by rw [show 6 - (i + 1) = k by omega]; exact hR)
    · exact ⟨fun b => b, WeakerR.ofL (Ks := [3]) hI ⟨⟨rfl, rfl⟩, ⟨rfl, rfl⟩, ⟨lit_cast (wrap_i64 (by omega) (by omega)), rfl⟩, trivial⟩ (okH_cons rfl rfl rfl rfl (okH_nil)) rfl⟩
 ·
  rw [show 6 - i = 0 by have := of_decide_eq_false h2; omega] at hR
  refine Awp.exit ?_
  refine Awp.seq ?_
  refine Awp.consP C ?_
  refine rvP C (.agg [.pv (.lit (.int .i64 (w 0))), .pv (.lit (.int .i64 (w 1))), .pv (.lit (.int .i64 (w 2)))]) ?_
  refine rvP C (.pv (.lit (.int .i64 0))) ?_
  refine rvc_nil ?_
  refine Awp.block ?_
  refine Awp.forR (σ := Unit) (3) (fun i1 _v => [(20, .agg [.pv (.lit (.int .i64 (w 0))), .pv (.lit (.int .i64 (w 1))), .pv (.lit (.int .i64 (w 2)))]), (21, .pv (.lit (.int .i64 (i1 : Int))))]) (fun i1 _v => []) [] (fun i1 _v => rPlanCheck_l1 w (3 - i1) i1  = R) () ?_ ?_ (fun i1 _v h7 hR => ?_)
  · exact hR
  · exact ⟨fun b => b, WeakerR.ofL (Ks := []) hI ⟨⟨rfl, rfl⟩, ⟨rfl, rfl⟩, trivial⟩ (okH_nil) rfl⟩
  refine Awp.consP C ?_
  refine rvP C (.pv (.lit (.bool (decide ((i1 : Int) < 3))))) ?_
  refine rvc_nil ?_
  refine Awp.seq ?_
  refine Awp.cond (b := (decide ((i1 : Int) < 3))) rfl (fun h8 => ?_) (fun h8 => ?_)
  ·
   have h9 : i1 < 3 := by have := of_decide_eq_true h8; omega
   obtain ⟨k1, h10⟩ : ∃ k, 3 - i1 = k + 1 := ⟨3 - i1 - 1, by omega⟩
   rw [h10] at hR
   refine Awp.skip ?_
   refine Awp.seq ?_
   refine Awp.block ?_
   refine Awp.consP C ?_
   refine rvc_un (rexec_idxA C (fun j => .pv (.lit (.int .i64 (w j)))) (.pv (.lit (.int .i64 (w i1)))) rfl rfl rfl rfl rfl rfl rfl rfl ⟨(by have := of_decide_eq_false h2; have := of_decide_eq_true h8; omega), (by have := of_decide_eq_false h2; have := of_decide_eq_true h8; omega)⟩ rfl ?_)
   refine rvP C (.pv (.lit (.int .i64 (w i1)))) ?_
   refine rvc_nil ?_
   refine Awp.consP C ?_
   refine rvP C (.pv (.lit (.int .i64 (w i1)))) ?_
   refine rvP C (.pv (.lit (.bool (decide ((w i1) < 0))))) ?_
   refine rvP C (.pv (.lit (.bool (decide ((w i1) < 0))))) ?_
   refine rvc_case 26 (decide ((w i1) < 0)) rfl (fun h11 => ?_) (fun h11 => ?_)
   ·
    replace hR := of_true h11 hR
    refine rvS ?_
    refine rvS ?_
    refine rvP C (.pv (.lit (.bool true))) ?_
    refine rvc_nil ?_
    refine Awp.condT (b := true) rfl rfl ?_
    refine Awp.consP C ?_
    refine rvP C (.pv (.lit (.int .i64 1))) ?_
    refine rvc_nil ?_
    refine Awp.ret ?_
    subst hR
    exact ⟨.inl rfl, rfl⟩
   ·
    replace hR := of_false h11 hR
    refine rvO C (.pv (.lit (.int .i64 (w i1)))) ?_
    refine rvO C (.pv (.lit (.bool (decide ((w i1) > 6))))) ?_
    refine rvP C (.pv (.lit (.bool (decide ((w i1) > 6))))) ?_
    refine rvc_nil ?_
    refine Awp.cond (b := (decide ((w i1) > 6))) rfl (fun h12 => ?_) (fun h12 => ?_)
    ·
     replace hR := of_true h12 hR
     refine Awp.consP C ?_
     refine rvP C (.pv (.lit (.int .i64 1))) ?_
     refine rvc_nil ?_
     refine Awp.ret ?_
     subst hR
     exact ⟨.inl rfl, rfl⟩
    ·
     replace hR := of_false h12 hR
     refine Awp.skip ?_
     refine Awp.regionP C ?_
     refine rvP C (.pv (.lit (.int .i64 (IntKind.i64.wrap ((i1 : Int) + 1))))) ?_
     refine rvP C (.pv (.lit (.int .i64 (IntKind.i64.wrap ((i1 : Int) + 1))))) ?_
     refine rvc_nil ?_
     refine ⟨h9, (), ?_, ?_⟩
     · exact (by rw [show 3 - (i1 + 1) = k1 by omega]; exact hR)
     · exact ⟨fun b => b, WeakerR.ofL (Ks := []) hI ⟨⟨rfl, rfl⟩, ⟨lit_cast (wrap_i64 (by omega) (by omega)), rfl⟩, trivial⟩ (okH_nil) rfl⟩
  ·
   rw [show 3 - i1 = 0 by have := of_decide_eq_false h8; omega] at hR
   refine Awp.exit ?_
   refine Awp.consP C ?_
   refine rvP C (.pv (.lit (.int .i64 0))) ?_
   refine rvc_nil ?_
   refine Awp.ret ?_
   subst hR
   exact ⟨.inl rfl, rfl⟩
def lowOf (s : Int) : Int :=
  (bif (s == 0) then (-1) else (mLen (IntKind.u64.wrap ((bitI .and .u64 s (IntKind.u64.wrap (0 - s))) - 1))))
theorem lowOf_calls (s : Int)  : PCalls Try.prog 60 [.pv (.lit (.int .u64 s))] (.pv (.lit (.int .i64 (lowOf s)))) := by
 generalize hR : lowOf s = R
 refine PCalls.of_body tabOk Try.func60 rfl rfl rfl rfl rfl mixed fun E hP C hI => ?_
 refine Awp.consP C ?_
 refine rvP C (.pv (.lit (.int .i64 0))) ?_
 refine rvc_nil ?_
 refine Awp.seq ?_
 refine Awp.consP C ?_
 refine rvP C (.pv (.lit (.int .u64 s))) ?_
 refine rvP C (.pv (.lit (.bool (s == 0)))) ?_
 refine rvc_nil ?_
 refine Awp.cond (b := (s == 0)) rfl (fun h1 => ?_) (fun h1 => ?_)
 ·
  replace hR := of_true h1 hR
  refine Awp.consP C ?_
  refine rvP C (.pv (.lit (.int .i64 (-1)))) ?_
  refine rvc_nil ?_
  refine Awp.ret ?_
  subst hR
  exact ⟨.inl rfl, rfl⟩
 ·
  replace hR := of_false h1 hR
  refine Awp.skip ?_
  refine Awp.consP C ?_
  refine rvP C (.pv (.lit (.int .u64 s))) ?_
  refine rvP C (.pv (.lit (.int .u64 s))) ?_
  refine rvP C (.pv (.lit (.int .u64 (IntKind.u64.wrap (0 - s))))) ?_
  refine rvP C (.pv (.lit (.int .u64 (bitI .and .u64 s (IntKind.u64.wrap (0 - s)))))) ?_
  refine rvP C (.pv (.lit (.int .u64 (IntKind.u64.wrap ((bitI .and .u64 s (IntKind.u64.wrap (0 - s))) - 1))))) ?_
  refine rvc_un (rexec_call hP C rfl rfl rfl (mLen_calls (IntKind.u64.wrap ((bitI .and .u64 s (IntKind.u64.wrap (0 - s))) - 1))) ?_)
  refine rvP C (.pv (.lit (.int .i64 (mLen (IntKind.u64.wrap ((bitI .and .u64 s (IntKind.u64.wrap (0 - s))) - 1)))))) ?_
  refine rvc_nil ?_
  refine Awp.ret ?_
  subst hR
  exact ⟨.inl rfl, rfl⟩
def eqCmds_l0 (s2 : (Sl Command)) : List Command → Nat → Bool
  | [], _ => true
  | x :: xs, i => (bif (!((x.kind == (s2.D[(i : Int).toNat]!.kind)) && ((x.node == (s2.D[(i : Int).toNat]!.node)) && ((x.site == (s2.D[(i : Int).toNat]!.site)) && ((x.epoch == (s2.D[(i : Int).toNat]!.epoch)) && true))))) then false else eqCmds_l0 s2 xs (i + 1) )
def eqCmds (s1 : (Sl Command)) (s2 : (Sl Command)) : Bool :=
  (bif ((s1.D.length : Int) != (s2.D.length : Int)) then false else eqCmds_l0 s2 s1.D 0 )
theorem eqCmds_calls (s1 : (Sl Command)) (s2 : (Sl Command)) (hl1 : s1.D.length ≤ 1000000) : PCalls Try.prog 15 [sS (some s1.nil) eCommand s1.D, sS (some s2.nil) eCommand s2.D] (.pv (.lit (.bool (eqCmds s1 s2)))) := by
 generalize hR : eqCmds s1 s2 = R
 refine PCalls.of_body tabOk Try.func15 rfl rfl rfl rfl rfl mixed fun E hP C hI => ?_
 refine Awp.consP C ?_
 refine rvP C (.pv (.lit (.bool false))) ?_
 refine rvc_nil ?_
 refine Awp.seq ?_
 refine Awp.consP C ?_
 refine rvP C (sS (some s1.nil) eCommand s1.D) ?_
 refine rvP C (.pv (.lit (.int .i64 (s1.D.length : Int)))) ?_
 refine rvP C (sS (some s2.nil) eCommand s2.D) ?_
 refine rvP C (.pv (.lit (.int .i64 (s2.D.length : Int)))) ?_
 refine rvP C (.pv (.lit (.bool ((s1.D.length : Int) != (s2.D.length : Int))))) ?_
 refine rvc_nil ?_
 refine Awp.cond (b := ((s1.D.length : Int) != (s2.D.length : Int))) rfl (fun h1 => ?_) (fun h1 => ?_)
 ·
  replace hR := of_true h1 hR
  refine Awp.consP C ?_
  refine rvP C (.pv (.lit (.bool false))) ?_
  refine rvc_nil ?_
  refine Awp.ret ?_
  subst hR
  exact ⟨.inl rfl, rfl⟩
 ·
  replace hR := of_false h1 hR
  refine Awp.skip ?_
  refine Awp.seq ?_
  refine Awp.consP C ?_
  refine rvP C (sS (some s1.nil) eCommand s1.D) ?_
  refine rvP C (.pv (.lit (.int .i64 (s1.D.length : Int)))) ?_
  refine rvP C (.pv (.lit (.int .i64 0))) ?_
  refine rvc_nil ?_
  refine Awp.block ?_
  refine Awp.forR (σ := Unit) (s1.D.length) (fun i _v => [(0, sS (some s1.nil) eCommand s1.D), (1, sS (some s2.nil) eCommand s2.D), (12, .pv (.lit (.int .i64 (s1.D.length : Int)))), (13, .pv (.lit (.int .i64 (i : Int))))]) (fun i _v => []) [] (fun i _v => eqCmds_l0 s2 (s1.D.drop i) i  = R) () ?_ ?_ (fun i _v h2 hR => ?_)
  · exact hR
  · exact ⟨fun b => b, WeakerR.ofL (Ks := []) hI ⟨⟨rfl, rfl⟩, ⟨rfl, rfl⟩, ⟨rfl, rfl⟩, ⟨rfl, rfl⟩, trivial⟩ (okH_nil) rfl⟩
  refine Awp.consP C ?_
  refine rvP C (.pv (.lit (.bool (decide ((i : Int) < (s1.D.length : Int)))))) ?_
  refine rvc_nil ?_
  refine Awp.seq ?_
  refine Awp.cond (b := (decide ((i : Int) < (s1.D.length : Int)))) rfl (fun h3 => ?_) (fun h3 => ?_)
  ·
   have h4 : i < s1.D.length := by have := of_decide_eq_true h3; omega
   obtain ⟨x, h5⟩ := getX h4
   rw [drop_at h5] at hR
   refine Awp.skip ?_
   refine Awp.seq ?_
   refine Awp.block ?_
   refine Awp.consP C ?_
   refine rvP C (.pv (.lit (.int .i64 (i : Int)))) ?_
   refine rvP C (.pv (.lit (.int .i64 (i : Int)))) ?_
   refine rvc_nil ?_
   refine Awp.consP C ?_
   refine rvP C (sS (some s1.nil) eCommand s1.D) ?_
   refine rvP C (.pv (.lit (.int .i64 (i : Int)))) ?_
   refine rvc_un (rexec_idxS C rfl rfl rfl rfl rfl rfl x (Int.natCast_nonneg _) h5 ?_)
   refine rvP C (.agg [.pv (.lit (.int .i64 x.kind)), .pv (.lit (.int .i64 x.node)), .pv (.lit (.int .i64 x.site)), .pv (.lit (.int .i64 x.epoch))]) ?_
   refine rvP C (sS (some s2.nil) eCommand s2.D) ?_
   refine rvP C (.pv (.lit (.int .i64 (i : Int)))) ?_
   have h6 : s2.D[(i : Int).toNat]? = some s2.D[(i : Int).toNat]! := getE (by have := eq_of_bne_false h1; have := of_decide_eq_true h3; omega)
   refine rvc_un (rexec_idxS C rfl rfl rfl rfl rfl rfl (s2.D[(i : Int).toNat]!) (Int.natCast_nonneg _) h6 ?_)
   refine rvP C (.agg [.pv (.lit (.int .i64 (s2.D[(i : Int).toNat]!.kind))), .pv (.lit (.int .i64 (s2.D[(i : Int).toNat]!.node))), .pv (.lit (.int .i64 (s2.D[(i : Int).toNat]!.site))), .pv (.lit (.int .i64 (s2.D[(i : Int).toNat]!.epoch)))]) ?_
   refine rvP C (.pv (.lit (.bool (!((x.kind == (s2.D[(i : Int).toNat]!.kind)) && ((x.node == (s2.D[(i : Int).toNat]!.node)) && ((x.site == (s2.D[(i : Int).toNat]!.site)) && ((x.epoch == (s2.D[(i : Int).toNat]!.epoch)) && true)))))))) ?_
   refine rvc_nil ?_
   refine Awp.cond (b := (!((x.kind == (s2.D[(i : Int).toNat]!.kind)) && ((x.node == (s2.D[(i : Int).toNat]!.node)) && ((x.site == (s2.D[(i : Int).toNat]!.site)) && ((x.epoch == (s2.D[(i : Int).toNat]!.epoch)) && true)))))) rfl (fun h7 => ?_) (fun h7 => ?_)
   ·
    replace hR := of_true h7 hR
    refine Awp.consP C ?_
    refine rvP C (.pv (.lit (.bool false))) ?_
    refine rvc_nil ?_
    refine Awp.ret ?_
    subst hR
    exact ⟨.inl rfl, rfl⟩
   ·
    replace hR := of_false h7 hR
    refine Awp.skip ?_
    refine Awp.regionP C ?_
    refine rvP C (.pv (.lit (.int .i64 (IntKind.i64.wrap ((i : Int) + 1))))) ?_
    refine rvP C (.pv (.lit (.int .i64 (IntKind.i64.wrap ((i : Int) + 1))))) ?_
    refine rvc_nil ?_
    refine ⟨h4, (), ?_, ?_⟩
    · exact hR
    · exact ⟨fun b => b, WeakerR.ofL (Ks := []) hI ⟨⟨rfl, rfl⟩, ⟨rfl, rfl⟩, ⟨rfl, rfl⟩, ⟨lit_cast (wrap_i64 (by omega) (by omega)), rfl⟩, trivial⟩ (okH_nil) rfl⟩
  ·
   have h4 : ¬ i < s1.D.length := by have := of_decide_eq_false h3; omega
   rw [drop_end h4] at hR
   refine Awp.exit ?_
   refine Awp.consP C ?_
   refine rvP C (.pv (.lit (.bool true))) ?_
   refine rvc_nil ?_
   refine Awp.ret ?_
   subst hR
   exact ⟨.inl rfl, rfl⟩
def may (c : Chain) (k : Command) : Bool :=
  (bif (k.kind == 1) then (((drop c k.node).2) == 0) else (bif (k.kind == 2) then (((join c (Member.mk k.node k.site false)).2) == 0) else false))
theorem may_calls (c : Chain) (k : Command) (hn : c.members.nil = true → c.members.D = []) (hl1 : c.members.D.length ≤ 1000000) : PCalls Try.prog 61 [.agg [.pv (.lit (.int .i64 c.epoch)), sS (some c.members.nil) eMember c.members.D], .agg [.pv (.lit (.int .i64 k.kind)), .pv (.lit (.int .i64 k.node)), .pv (.lit (.int .i64 k.site)), .pv (.lit (.int .i64 k.epoch))]] (.pv (.lit (.bool (may c k)))) := by
 generalize hR : may c k = R
 refine PCalls.of_body tabOk Try.func61 rfl rfl rfl rfl rfl mixed fun E hP C hI => ?_
 refine Awp.consP C ?_
 refine rvc_un (rexec_prim C (δ := { v := .ptr 2 0, new := [(2, .cells [.pv (.lit (.int .i64 c.epoch)), sS (some c.members.nil) eMember c.members.D])] }) rfl rfl rfl rfl trivial rfl ?_)
 refine rvc_un (rexec_prim C (δ := { v := .ptr 3 0, new := [(3, .cells [.pv (.lit (.int .i64 k.kind)), .pv (.lit (.int .i64 k.node)), .pv (.lit (.int .i64 k.site)), .pv (.lit (.int .i64 k.epoch))])] }) rfl rfl rfl rfl trivial rfl ?_)
 refine rvP C (.pv (.lit (.bool false))) ?_
 refine rvc_nil ?_
 refine Awp.seq ?_
 refine Awp.consP C ?_
 refine rvP C (.ptr 3 0) ?_
 refine rvP C (.pv (.lit (.int .i64 k.kind))) ?_
 refine rvc_nil ?_
 refine Awp.block ?_
 refine Awp.consP C ?_
 refine rvP C (.pv (.lit (.bool (k.kind == 1)))) ?_
 refine rvP C (.pv (.lit (.bool (k.kind == 1)))) ?_
 refine rvc_nil ?_
 refine Awp.cond (b := (k.kind == 1)) rfl (fun h1 => ?_) (fun h1 => ?_)
 ·
  replace hR := of_true h1 hR
  refine Awp.consP C ?_
  refine rvP C (.agg [.pv (.lit (.int .i64 c.epoch)), sS (some c.members.nil) eMember c.members.D]) ?_
  refine rvP C (.ptr 3 1) ?_
  refine rvP C (.pv (.lit (.int .i64 k.node))) ?_
  refine rvc_un (rexec_call hP C rfl rfl rfl (drop_calls c k.node hl1) ?_)
  refine rvP C (.tup [.agg [.pv (.lit (.int .i64 ((drop c k.node).1.epoch))), sS (some (drop c k.node).1.members.nil) eMember ((drop c k.node).1.members.D)], .pv (.lit (.int .i64 ((drop c k.node).2)))]) ?_
  refine rvP C (.agg [.pv (.lit (.int .i64 ((drop c k.node).1.epoch))), sS (some (drop c k.node).1.members.nil) eMember ((drop c k.node).1.members.D)]) ?_
  refine rvP C (.pv (.lit (.int .i64 ((drop c k.node).2)))) ?_
  refine rvc_un (rexec_prim C (δ := { v := .ptr 5 0, new := [(5, .cells [.pv (.lit (.int .i64 0)), sS (some true) eMember []])] }) rfl rfl rfl rfl trivial rfl ?_)
  refine rvc_un (rexec_prim C (δ := { v := .undef, wr := [(5, some (.cells [.pv (.lit (.int .i64 ((drop c k.node).1.epoch))), sS (some (drop c k.node).1.members.nil) eMember ((drop c k.node).1.members.D)]))] }) rfl rfl rfl rfl trivial rfl ?_)
  refine rvP C (.pv (.lit (.int .i64 ((drop c k.node).2)))) ?_
  refine rvc_nil ?_
  refine Awp.consP C ?_
  refine rvP C (.pv (.lit (.int .i64 ((drop c k.node).2)))) ?_
  refine rvP C (.pv (.lit (.bool (((drop c k.node).2) == 0)))) ?_
  refine rvP C (.pv (.lit (.bool (((drop c k.node).2) == 0)))) ?_
  refine rvc_nil ?_
  refine Awp.ret ?_
  subst hR
  exact ⟨.inl rfl, rfl⟩
 ·
  replace hR := of_false h1 hR
  refine Awp.consP C ?_
  refine rvP C (.pv (.lit (.bool (k.kind == 2)))) ?_
  refine rvP C (.pv (.lit (.bool (k.kind == 2)))) ?_
  refine rvc_nil ?_
  refine Awp.cond (b := (k.kind == 2)) rfl (fun h2 => ?_) (fun h2 => ?_)
  ·
   replace hR := of_true h2 hR
   refine Awp.consP C ?_
   refine rvP C (.agg [.pv (.lit (.int .i64 c.epoch)), sS (some c.members.nil) eMember c.members.D]) ?_
   refine rvP C (.ptr 3 1) ?_
   refine rvP C (.pv (.lit (.int .i64 k.node))) ?_
   refine rvP C (.ptr 3 2) ?_
   refine rvP C (.pv (.lit (.int .i64 k.site))) ?_
   refine rvP C (.agg [.pv (.lit (.int .i64 k.node)), .pv (.lit (.int .i64 k.site)), .pv (.lit (.bool false))]) ?_
   refine rvc_un (rexec_call hP C rfl rfl rfl (join_calls c (Member.mk k.node k.site false) hn hl1) ?_)
   refine rvP C (.tup [.agg [.pv (.lit (.int .i64 ((join c (Member.mk k.node k.site false)).1.epoch))), sS (some (join c (Member.mk k.node k.site false)).1.members.nil) eMember ((join c (Member.mk k.node k.site false)).1.members.D)], .pv (.lit (.int .i64 ((join c (Member.mk k.node k.site false)).2)))]) ?_
   refine rvP C (.agg [.pv (.lit (.int .i64 ((join c (Member.mk k.node k.site false)).1.epoch))), sS (some (join c (Member.mk k.node k.site false)).1.members.nil) eMember ((join c (Member.mk k.node k.site false)).1.members.D)]) ?_
   refine rvP C (.pv (.lit (.int .i64 ((join c (Member.mk k.node k.site false)).2)))) ?_
   refine rvc_un (rexec_prim C (δ := { v := .ptr 7 0, new := [(7, .cells [.pv (.lit (.int .i64 0)), sS (some true) eMember []])] }) rfl rfl rfl rfl trivial rfl ?_)
   refine rvc_un (rexec_prim C (δ := { v := .undef, wr := [(7, some (.cells [.pv (.lit (.int .i64 ((join c (Member.mk k.node k.site false)).1.epoch))), sS (some (join c (Member.mk k.node k.site false)).1.members.nil) eMember ((join c (Member.mk k.node k.site false)).1.members.D)]))] }) rfl rfl rfl rfl trivial rfl ?_)
   refine rvP C (.pv (.lit (.int .i64 ((join c (Member.mk k.node k.site false)).2)))) ?_
   refine rvc_nil ?_
   refine Awp.consP C ?_
   refine rvP C (.pv (.lit (.int .i64 ((join c (Member.mk k.node k.site false)).2)))) ?_
   refine rvP C (.pv (.lit (.bool (((join c (Member.mk k.node k.site false)).2) == 0)))) ?_
   refine rvP C (.pv (.lit (.bool (((join c (Member.mk k.node k.site false)).2) == 0)))) ?_
   refine rvc_nil ?_
   refine Awp.ret ?_
   subst hR
   exact ⟨.inl rfl, rfl⟩
  ·
   replace hR := of_false h2 hR
   refine Awp.skip ?_
   refine Awp.consP C ?_
   refine rvP C (.pv (.lit (.bool false))) ?_
   refine rvc_nil ?_
   refine Awp.ret ?_
   subst hR
   exact ⟨.inl rfl, rfl⟩
end Go.Proofs.Ytaffaalpgpepeaa
/- What is lacking; all of a set. No conditions. -/
namespace Go.Proofs.Ytaffaalpgpepeaa
open Go.Am
def allOf_l0 : Nat → Int → (List Int) → (Sl Int)
  | 0, _, _ => default
  | nn + 1, s1, l => (bif (s1 != 0) then allOf_l0 nn (bitI .and .u64 s1 (IntKind.u64.wrap (s1 - 1))) (l ++ [(lowOf s1)]) else (Sl.mk l.isEmpty l))
def allOf (s : Int) : (Sl Int) :=
  allOf_l0 ((allM s) + 1) s []
theorem allOf_calls (s : Int)  : PCalls Try.prog 36 [.pv (.lit (.int .u64 s))] (sS (some (allOf s).nil) (eI .i64) ((allOf s).D)) := by
 generalize hR : allOf s = R
 refine PCalls.of_body tabOk Try.func36 rfl rfl rfl rfl rfl mixed fun E hP C hI => ?_
 refine Awp.consP C ?_
 refine rvP C (sS (some true) (eI .i64) []) ?_
 refine rvc_nil ?_
 refine Awp.consP C ?_
 refine rvP C (sS (some true) (eI .i64) []) ?_
 refine rvc_nil ?_
 refine Awp.seq ?_
 refine Awp.block ?_
 refine Awp.forM (σ := Int × ((List Int))) (fun v => [(0, .pv (.lit (.int .u64 v.1))), (3, grow 900 (eI .i64) v.2)]) (fun v => (growH 900 (eI .i64) v.2 ++ ([]))) [900] (fun n v => (allM v.1) ≤ n ∧ allOf_l0 (n + 1) v.1 v.2 = R ∧ (v.2.length + allM v.1 ≤ 65)) ((allM s)) (s, []) ?_ ?_ (fun n_ v h1 => ?_)
 · exact ⟨Nat.le_refl _, hR, (by have := allM_le s; show 0 + allM s ≤ 65; omega)⟩
 · exact ⟨fun b => b, WeakerR.ofL (Ks := [900]) hI ⟨⟨rfl, rfl⟩, ⟨rfl, rfl⟩, trivial⟩ (okH_grow (fun hne => absurd rfl hne) rfl rfl (okH_nil)) rfl⟩
 obtain ⟨s1, l⟩ := v
 obtain ⟨hm_, hR, hV⟩ := h1
 replace hm_ : (allM s1) ≤ n_ := hm_
 replace hV : l.length + allM s1 ≤ 65 := hV
 by_cases h3 : l = []
 ·
  refine Awp.wordsR [(0, .pv (.lit (.int .u64 s1))), (3, sS (some l.isEmpty) (eI .i64) l)] [] [] (WeakerR.ofL (Ks := []) hI ⟨⟨rfl, rfl⟩, ⟨(by exact grow_at_nil (b := 900) (e := (eI .i64)) (l := l) rfl h3), rfl⟩, trivial⟩ (okH_nil) rfl) ?_
  refine Awp.seq ?_
  refine Awp.consP C ?_
  refine rvP C (.pv (.lit (.int .u64 s1))) ?_
  refine rvP C (.pv (.lit (.bool (s1 != 0)))) ?_
  refine rvc_nil ?_
  refine Awp.cond (b := (s1 != 0)) rfl (fun h4 => ?_) (fun h4 => ?_)
  ·
   replace hR := of_true h4 hR
   refine Awp.skip ?_
   refine Awp.seq ?_
   refine Awp.block ?_
   refine Awp.regionP C ?_
   refine rvP C (sS (some l.isEmpty) (eI .i64) l) ?_
   refine rvP C (.pv (.lit (.int .u64 s1))) ?_
   refine rvc_un (rexec_call hP C rfl rfl rfl (lowOf_calls s1) ?_)
   refine rvc_un (rexec_buildSliceF C (eI .i64) [(lowOf s1)] rfl rfl rfl rfl rfl rfl rfl (by decide) rfl ?_)
   refine rvc_un (rexec_appendG C rfl rfl rfl rfl rfl rfl rfl rfl (fun _ h => by cases h) rfl (en := (eI .i64)) (l := l) (D := [(lowOf s1)]) rfl rfl h3 (by rw [h3]; rfl) (by simp) (by have := bne_iff_ne.1 h4; first | omega | (simp <;> omega)) (by decide) (nn := (l ++ [(lowOf s1)]).length) (by simp) ?_)
   refine rvP C (.sl 14 0 ((l ++ [(lowOf s1)]).length) 1 false) ?_
   refine rvc_nil ?_
   refine Awp.regionP C ?_
   refine rvP C (.pv (.lit (.int .u64 s1))) ?_
   refine rvP C (.pv (.lit (.int .u64 s1))) ?_
   refine rvP C (.pv (.lit (.int .u64 (IntKind.u64.wrap (s1 - 1))))) ?_
   refine rvP C (.pv (.lit (.int .u64 (bitI .and .u64 s1 (IntKind.u64.wrap (s1 - 1)))))) ?_
   refine rvP C (.pv (.lit (.int .u64 (bitI .and .u64 s1 (IntKind.u64.wrap (s1 - 1)))))) ?_
   refine rvc_nil ?_
   have h5 : (allM (bitI .and .u64 s1 (IntKind.u64.wrap (s1 - 1)))) < (allM s1) := by exact allM_lt (by assumption)
   obtain ⟨nn, rfl⟩ : ∃ nn, n_ = nn + 1 := ⟨n_ - 1, by omega⟩
   refine ⟨nn, ((bitI .and .u64 s1 (IntKind.u64.wrap (s1 - 1))), (l ++ [(lowOf s1)])), by omega, ⟨by show (allM (bitI .and .u64 s1 (IntKind.u64.wrap (s1 - 1)))) ≤ nn; omega, hR, (by show (l ++ [(lowOf s1)]).length + allM (bitI .and .u64 s1 (IntKind.u64.wrap (s1 - 1))) ≤ 65; rw [List.length_append, List.length_singleton]; omega)⟩, ?_⟩
   · exact ⟨fun b => bif b == 900 then 14 else (fun b => b) b, WeakerR.ofL (Ks := [900]) hI ⟨⟨rfl, rfl⟩, ⟨grow_to rfl rfl app_ne rfl rfl, grow_within rfl⟩, trivial⟩ (okH_grow (fun _ => rfl) rfl rfl (okH_nil)) rfl⟩
  ·
   replace hR := of_false h4 hR
   refine Awp.exit ?_
   refine Awp.consP C ?_
   refine rvP C (sS (some l.isEmpty) (eI .i64) l) ?_
   refine rvP C (sS (some l.isEmpty) (eI .i64) l) ?_
   refine rvc_nil ?_
   refine Awp.ret ?_
   subst hR
   exact ⟨.inl rfl, rfl⟩
 ·
  refine Awp.wordsR [(0, .pv (.lit (.int .u64 s1))), (3, .sl 900 0 l.length 1 false)] [(900, .cells (encC (eI .i64) l))] [900] (WeakerR.ofL (Ks := [900]) hI ⟨⟨rfl, rfl⟩, ⟨(by exact grow_at_cons (b := 900) (b' := 900) (e := (eI .i64)) (l := l) rfl h3 rfl rfl rfl), rfl⟩, trivial⟩ (okH_list (look_cons h3 rfl) rfl rfl (okH_nil)) rfl) ?_
  refine Awp.seq ?_
  refine Awp.consP C ?_
  refine rvP C (.pv (.lit (.int .u64 s1))) ?_
  refine rvP C (.pv (.lit (.bool (s1 != 0)))) ?_
  refine rvc_nil ?_
  refine Awp.cond (b := (s1 != 0)) rfl (fun h6 => ?_) (fun h6 => ?_)
  ·
   replace hR := of_true h6 hR
   refine Awp.skip ?_
   refine Awp.seq ?_
   refine Awp.block ?_
   refine Awp.regionP C ?_
   refine rvP C (.sl 900 0 l.length 1 false) ?_
   refine rvP C (.pv (.lit (.int .u64 s1))) ?_
   refine rvc_un (rexec_call hP C rfl rfl rfl (lowOf_calls s1) ?_)
   refine rvc_un (rexec_buildSliceF C (eI .i64) [(lowOf s1)] rfl rfl rfl rfl rfl rfl rfl (by decide) rfl ?_)
   refine rvc_un (rexec_append C rfl rfl rfl rfl rfl rfl rfl rfl (fun _ h => by cases h) rfl (en := (eI .i64)) (D0 := l) (D := [(lowOf s1)]) rfl rfl rfl rfl (by have := bne_iff_ne.1 h6; first | omega | (simp <;> omega)) (by decide) (nn := (l ++ [(lowOf s1)]).length) (by simp) ?_)
   refine rvP C (.sl 14 0 ((l ++ [(lowOf s1)]).length) 1 false) ?_
   refine rvc_nil ?_
   refine Awp.regionP C ?_
   refine rvP C (.pv (.lit (.int .u64 s1))) ?_
   refine rvP C (.pv (.lit (.int .u64 s1))) ?_
   refine rvP C (.pv (.lit (.int .u64 (IntKind.u64.wrap (s1 - 1))))) ?_
   refine rvP C (.pv (.lit (.int .u64 (bitI .and .u64 s1 (IntKind.u64.wrap (s1 - 1)))))) ?_
   refine rvP C (.pv (.lit (.int .u64 (bitI .and .u64 s1 (IntKind.u64.wrap (s1 - 1)))))) ?_
   refine rvc_nil ?_
   have h7 : (allM (bitI .and .u64 s1 (IntKind.u64.wrap (s1 - 1)))) < (allM s1) := by exact allM_lt (by assumption)
   obtain ⟨nn, rfl⟩ : ∃ nn, n_ = nn + 1 := ⟨n_ - 1, by omega⟩
   refine ⟨nn, ((bitI .and .u64 s1 (IntKind.u64.wrap (s1 - 1))), (l ++ [(lowOf s1)])), by omega, ⟨by show (allM (bitI .and .u64 s1 (IntKind.u64.wrap (s1 - 1)))) ≤ nn; omega, hR, (by show (l ++ [(lowOf s1)]).length + allM (bitI .and .u64 s1 (IntKind.u64.wrap (s1 - 1))) ≤ 65; rw [List.length_append, List.length_singleton]; omega)⟩, ?_⟩
   · exact ⟨fun b => bif b == 900 then 14 else (fun b => b) b, WeakerR.ofL (Ks := [900]) hI ⟨⟨rfl, rfl⟩, ⟨grow_to rfl rfl app_ne rfl rfl, grow_within rfl⟩, trivial⟩ (okH_grow (fun _ => rfl) rfl rfl (okH_nil)) rfl⟩
  ·
   replace hR := of_false h6 hR
   refine Awp.exit ?_
   refine Awp.consP C ?_
   refine rvP C (.sl 900 0 l.length 1 false) ?_
   refine rvP C (.sl 900 0 l.length 1 false) ?_
   refine rvc_nil ?_
   refine Awp.freezeW 900 (encL (eI .i64) l) ?_ [(2, sS (some l.isEmpty) (eI .i64) l)] [] ?_ ?_ ?_
   · rfl
   · exact ⟨⟨_, rfl, .inl (.inr ⟨_, _, _, rfl, by rw [ne_isEmpty h3]; rfl⟩)⟩, trivial⟩
   · exact trivial
   refine Awp.ret ?_
   subst hR
   exact ⟨.inl rfl, rfl⟩
end Go.Proofs.Ytaffaalpgpepeaa
/- Who is in a set, from the least on; chains in which nodes are ready: what the walks need. No conditions. -/
namespace Go.Proofs.Ytaffaalpgpepeaa
open Go.Am
theorem shr_nn (x : Int) : 0 ≤ IntKind.i64.wrap (shrI .u64 (IntKind.u64.wrap x) 56) := by
  have h1 : 0 ≤ IntKind.u64.wrap x ∧ IntKind.u64.wrap x < 18446744073709551616 := by rw [wrap64]; omega
  revert h1
  generalize IntKind.u64.wrap x = y
  intro h1
  obtain ⟨a, rfl⟩ : ∃ a : Nat, y = (a : Int) := ⟨y.toNat, by omega⟩
  have h := shr64 (a := a) (n := 56) (by decide)
  rw [show ((56 : Nat) : Int) = (56 : Int) from rfl] at h
  have h2 : a >>> 56 ≤ a := by rw [Nat.shiftRight_eq_div_pow]; exact Nat.div_le_self ..
  have h3 : a >>> 56 < 256 := by rw [Nat.shiftRight_eq_div_pow]; omega
  rw [h, wrapI _ (by omega)]
  omega
theorem mLen_nn (s : Int) : 0 ≤ mLen s := shr_nn _
theorem lowOf_nn {s : Int} (h : (s != 0) = true) : 0 ≤ lowOf s := by
  have : (s == 0) = false := by simpa using h
  unfold lowOf
  rw [this, cond_false]; exact mLen_nn _
theorem allOf_l0_nn : ∀ (n : Nat) (s : Int) (l : List Int), (∀ x ∈ l, 0 ≤ x) → ∀ x ∈ (allOf_l0 n s l).D, 0 ≤ x
  | 0, _, _, _, x, hx => by cases hx
  | n + 1, s, l, h, x, hx => by
    unfold allOf_l0 at hx
    cases hs : s != 0
    · rw [hs] at hx; exact h x hx
    · rw [hs] at hx
      refine allOf_l0_nn n _ _ (fun y hy => ?_) x hx
      rcases List.mem_append.1 hy with hy | hy
      · exact h y hy
      · rw [List.mem_singleton.1 hy]; exact lowOf_nn hs
theorem allOf_nn (s x : Int) (h : x ∈ (allOf s).D) : 0 ≤ x := allOf_l0_nn _ _ _ (fun _ h => (by cases h)) x h
theorem allOf_l0_len : ∀ (n : Nat) (s : Int) (l : List Int), l.length + allM s ≤ 65 → (allOf_l0 n s l).D.length ≤ 65
  | 0, _, _, _ => Nat.zero_le _
  | n + 1, s, l, h => by
    unfold allOf_l0
    cases hs : s != 0
    · show l.length ≤ 65; omega
    · have := allM_lt hs
      exact allOf_l0_len n _ _ (by rw [List.length_append, List.length_singleton]; omega)
theorem allOf_len (s : Int) : (allOf s).D.length ≤ 65 := allOf_l0_len _ _ _ (by have := allM_le s; show 0 + allM s ≤ 65; omega)
theorem ready_hn (c : Chain) (n : Int) : (ready c n).1.members.nil = true → (ready c n).1.members.D = [] := by
  unfold ready
  cases check c != 0
  case true => exact fun _ => rfl
  cases decide (placeIn c n < 0)
  case true => exact fun _ => rfl
  cases !(c.members.D[(placeIn c n).toNat]!.fresh)
  case true => exact fun _ => rfl
  intro h; cases h
theorem ready_len (c : Chain) (n : Int) : (ready c n).1.members.D.length ≤ c.members.D.length := by
  unfold ready
  cases check c != 0
  case true => exact Nat.zero_le _
  cases decide (placeIn c n < 0)
  case true => exact Nat.zero_le _
  cases !(c.members.D[(placeIn c n).toNat]!.fresh)
  case true => exact Nat.zero_le _
  show (List.set _ _ _).length ≤ _
  rw [List.length_set]; omega
end Go.Proofs.Ytaffaalpgpepeaa
