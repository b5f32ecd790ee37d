import Derived.Test.YtpgenmflgdkfiaaM4
/- More changes of chains. No conditions. -/
namespace Go.Proofs.Ytpgenmflgdkfiaa
open Go.Am
def ready (c : Chain) (node : Int) : Chain × Int :=
  (bif ((check c) != 0) then ((Chain.mk 0 (Sl.mk true [])), (check c)) else (bif (decide ((placeIn c node) < 0)) then ((Chain.mk 0 (Sl.mk true [])), 81) else (bif (!(c.members.D[(placeIn c node).toNat]!.fresh)) then ((Chain.mk 0 (Sl.mk true [])), 81) else ((Chain.mk c.epoch (Sl.mk false (c.members.D.set ((placeIn c node).toNat) (Member.mk (c.members.D[(placeIn c node).toNat]!.node) (c.members.D[(placeIn c node).toNat]!.site) false)))), 0))))
theorem ready_calls (c : Chain) (node : Int) (hn : c.members.nil = true → c.members.D = []) (hl1 : c.members.D.length ≤ 1000000) : PCalls Try.prog 64 [.agg [.pv (.lit (.int .i64 c.epoch)), sS (some c.members.nil) eMember c.members.D], .pv (.lit (.int .i64 node))] (.tup [.agg [.pv (.lit (.int .i64 ((ready c node).1.epoch))), sS (some (ready c node).1.members.nil) eMember ((ready c node).1.members.D)], .pv (.lit (.int .i64 ((ready c node).2)))]) := by
 generalize hR : ready c node = R
 refine PCalls.of_body tabOk Try.func64 rfl rfl rfl rfl rfl mixed fun E hP C hI => ?_
 refine Awp.consP C ?_
 refine rvc_un (rexec_prim C (δ := { v := .ptr 2 0, new := [(2, .cells [.pv (.lit (.int .i64 c.epoch)), sS (some c.members.nil) eMember c.members.D])] }) rfl rfl rfl rfl trivial rfl ?_)
 refine rvc_un (rexec_prim C (δ := { v := .ptr 4 0, new := [(4, .cells [.pv (.lit (.int .i64 0)), sS (some true) eMember []])] }) rfl rfl rfl rfl trivial rfl ?_)
 refine rvP C (.pv (.lit (.int .i64 0))) ?_
 refine rvc_nil ?_
 refine Awp.seq ?_
 refine Awp.consP C ?_
 refine rvP C (.agg [.pv (.lit (.int .i64 c.epoch)), sS (some c.members.nil) eMember c.members.D]) ?_
 refine rvc_un (rexec_call hP C rfl rfl rfl (check_calls c (Nat.le_trans hl1 (by decide))) ?_)
 refine rvP C (.pv (.lit (.int .i64 (check c)))) ?_
 refine rvc_nil ?_
 refine Awp.consP C ?_
 refine rvP C (.pv (.lit (.int .i64 (check c)))) ?_
 refine rvP C (.pv (.lit (.bool ((check c) != 0)))) ?_
 refine rvc_nil ?_
 refine Awp.cond (b := ((check c) != 0)) rfl (fun h1 => ?_) (fun h1 => ?_)
 ·
  replace hR := of_true h1 hR
  refine Awp.consP C ?_
  refine rvP C (.agg [.pv (.lit (.int .i64 0)), sS (some true) eMember []]) ?_
  refine rvP C (.pv (.lit (.int .i64 (check c)))) ?_
  refine rvc_un (rexec_prim C (δ := { v := .undef, wr := [(4, some (.cells [.pv (.lit (.int .i64 0)), sS (some true) eMember []]))] }) rfl rfl rfl rfl trivial rfl ?_)
  refine rvP C (.pv (.lit (.int .i64 (check c)))) ?_
  refine rvc_nil ?_
  refine Awp.ret ?_
  subst hR
  exact ⟨.inl rfl, rfl⟩
 ·
  replace hR := of_false h1 hR
  refine Awp.skip ?_
  refine Awp.consP C ?_
  refine rvP C (.agg [.pv (.lit (.int .i64 c.epoch)), sS (some c.members.nil) eMember c.members.D]) ?_
  refine rvP C (.pv (.lit (.int .i64 node))) ?_
  refine rvc_un (rexec_call hP C rfl rfl rfl (placeIn_calls c node (Nat.le_trans hl1 (by decide))) ?_)
  refine rvP C (.pv (.lit (.int .i64 (placeIn c node)))) ?_
  refine rvc_nil ?_
  refine Awp.seq ?_
  refine Awp.consP C ?_
  refine rvP C (.pv (.lit (.int .i64 (placeIn c node)))) ?_
  refine rvP C (.pv (.lit (.bool (decide ((placeIn c node) < 0))))) ?_
  refine rvP C (.pv (.lit (.bool (decide ((placeIn c node) < 0))))) ?_
  refine rvc_case 20 (decide ((placeIn c node) < 0)) rfl (fun h2 => ?_) (fun h2 => ?_)
  ·
   replace hR := of_true h2 hR
   refine rvS ?_
   refine rvS ?_
   refine rvS ?_
   refine rvS ?_
   refine rvS ?_
   refine rvS ?_
   refine rvS ?_
   refine rvP C (.pv (.lit (.bool true))) ?_
   refine rvc_nil ?_
   refine Awp.condT (b := true) rfl rfl ?_
   refine Awp.consP C ?_
   refine rvP C (.agg [.pv (.lit (.int .i64 0)), sS (some true) eMember []]) ?_
   refine rvc_un (rexec_prim C (δ := { v := .undef, wr := [(4, some (.cells [.pv (.lit (.int .i64 0)), sS (some true) eMember []]))] }) rfl rfl rfl rfl trivial rfl ?_)
   refine rvP C (.pv (.lit (.int .i64 81))) ?_
   refine rvc_nil ?_
   refine Awp.ret ?_
   subst hR
   exact ⟨.inl rfl, rfl⟩
  ·
   replace hR := of_false h2 hR
   refine rvO C (.ptr 2 1) ?_
   refine rvO C (sS (some c.members.nil) eMember c.members.D) ?_
   refine rvO C (.pv (.lit (.int .i64 (placeIn c node)))) ?_
   have h3 : c.members.D[(placeIn c node).toNat]? = some c.members.D[(placeIn c node).toNat]! := getE (by have := check_len (c := c); have := check_le6 (c := c); have := placeIn_lt c node; have := eq_of_bne_false h1; have := of_decide_eq_false h2; omega)
   refine rvc_open rfl rfl rfl (rexec_idxS C rfl rfl rfl rfl rfl rfl (c.members.D[(placeIn c node).toNat]!) (by have := check_len (c := c); have := check_le6 (c := c); have := placeIn_lt c node; have := eq_of_bne_false h1; have := of_decide_eq_false h2; omega) h3 ?_)
   refine rvO C (.rp [.lit (.bool (c.members.D[(placeIn c node).toNat]!.fresh))]) ?_
   refine rvO C (.pv (.lit (.bool (c.members.D[(placeIn c node).toNat]!.fresh)))) ?_
   refine rvO C (.pv (.lit (.bool (!(c.members.D[(placeIn c node).toNat]!.fresh))))) ?_
   refine rvP C (.pv (.lit (.bool (!(c.members.D[(placeIn c node).toNat]!.fresh))))) ?_
   refine rvc_nil ?_
   refine Awp.cond (b := (!(c.members.D[(placeIn c node).toNat]!.fresh))) rfl (fun h4 => ?_) (fun h4 => ?_)
   ·
    replace hR := of_true h4 hR
    refine Awp.consP C ?_
    refine rvP C (.agg [.pv (.lit (.int .i64 0)), sS (some true) eMember []]) ?_
    refine rvc_un (rexec_prim C (δ := { v := .undef, wr := [(4, some (.cells [.pv (.lit (.int .i64 0)), sS (some true) eMember []]))] }) rfl rfl rfl rfl trivial rfl ?_)
    refine rvP C (.pv (.lit (.int .i64 81))) ?_
    refine rvc_nil ?_
    refine Awp.ret ?_
    subst hR
    exact ⟨.inl rfl, rfl⟩
   ·
    replace hR := of_false h4 hR
    refine Awp.skip ?_
    refine Awp.cons C (fun _ => .quiet) (by kernel_rfl) ?_
    refine rvP C (.ptr 2 1) ?_
    refine rvP C (sS (some c.members.nil) eMember c.members.D) ?_
    refine rvc_un (rexec_callO hP C rfl rfl rfl rfl (cloneO_calls c.members (nil_false hn (by have := check_len (c := c); have := check_le6 (c := c); have := placeIn_lt c node; have := eq_of_bne_false h1; have := of_decide_eq_false h2; omega)) hl1) ?_)
    refine rvP C (.sl 32 0 c.members.D.length 3 false) ?_
    refine rvc_nil ?_
    refine Awp.consP C ?_
    refine rvP C (.sl 32 0 c.members.D.length 3 false) ?_
    refine rvP C (.pv (.lit (.int .i64 (placeIn c node)))) ?_
    refine rvc_un (rexec_prim C (δ := { v := .ptr 32 (0 + (placeIn c node).toNat * 3) }) rfl rfl rfl rfl ⟨(by have := check_len (c := c); have := check_le6 (c := c); have := placeIn_lt c node; have := eq_of_bne_false h1; have := of_decide_eq_false h2; omega), getlt h3 (by first | rfl | omega | (have := check_len (c := c); have := check_le6 (c := c); have := placeIn_lt c node; have := eq_of_bne_false h1; have := of_decide_eq_false h2; omega)) (by first | rfl | omega | simp)⟩ rfl ?_)
    refine rvP C (.ptr 32 (0 + (placeIn c node).toNat * 3 + 2)) ?_
    refine rvc_un (rexec_storeE C (e := eMember) ((placeIn c node).toNat) 2 (c.members.D[(placeIn c node).toNat]!) (Member.mk (c.members.D[(placeIn c node).toNat]!.node) (c.members.D[(placeIn c node).toNat]!.site) false) rfl rfl rfl rfl h3 (by simp [eMember]) rfl rfl rfl (of_decide_eq_true rfl) rfl ?_)
    refine rvc_nil ?_
    refine Awp.consP C ?_
    refine rvP C (.ptr 2 0) ?_
    refine rvP C (.pv (.lit (.int .i64 c.epoch))) ?_
    refine rvP C (.sl 32 0 c.members.D.length 3 false) ?_
    refine rvP C (.agg [.pv (.lit (.int .i64 c.epoch)), .sl 32 0 c.members.D.length 3 false]) ?_
    refine rvc_un (rexec_prim C (δ := { v := .undef, wr := [(4, some (.cells [.pv (.lit (.int .i64 c.epoch)), .sl 32 0 c.members.D.length 3 false]))] }) rfl rfl rfl rfl trivial rfl ?_)
    refine rvP C (.pv (.lit (.int .i64 0))) ?_
    refine rvc_nil ?_
    refine Awp.freezeW 32 (encL eMember (c.members.D.set ((placeIn c node).toNat) (Member.mk (c.members.D[(placeIn c node).toNat]!.node) (c.members.D[(placeIn c node).toNat]!.site) false))) ?_ [(4, .ptr 4 0), (5, .pv (.lit (.int .i64 0)))] [(2, .cells [.pv (.lit (.int .i64 c.epoch)), sS (some c.members.nil) eMember c.members.D]), (4, .cells [.pv (.lit (.int .i64 c.epoch)), sS (some false) eMember (c.members.D.set ((placeIn c node).toNat) (Member.mk (c.members.D[(placeIn c node).toNat]!.node) (c.members.D[(placeIn c node).toNat]!.site) false))])] ?_ ?_ ?_
    · rfl
    · exact ⟨⟨_, rfl, .inl (.inl rfl)⟩, ⟨_, rfl, .inl (.inl rfl)⟩, trivial⟩
    · exact ⟨⟨(by show (2 : Nat) ≠ 32; decide), .inl rfl⟩, ⟨(by show (4 : Nat) ≠ 32; decide), .inr ⟨_, _, rfl, rfl, ⟨.inl rfl, .inr ⟨_, _, _, rfl, by simp [sS]⟩, trivial⟩⟩⟩, trivial⟩
    refine Awp.ret ?_
    subst hR
    exact ⟨.inl rfl, rfl⟩
def rCut_l1 (c : Chain) : Nat → (Sl Member) → Chain × Int
  | 0, _ => default
  | nn + 1, l1 => (bif (decide ((l1.D.length : Int) > 0)) then (bif l1.D[0]!.fresh then rCut_l1 c nn (Sl.mk l1.nil (l1.D.drop 1)) else (bif ((l1.D.length : Int) == (c.members.D.length : Int)) then ((Chain.mk 0 (Sl.mk true [])), 81) else (bif ((l1.D.length : Int) == 0) then ((Chain.mk 0 (Sl.mk true [])), 83) else ((Chain.mk (IntKind.i64.wrap (c.epoch + 1)) l1), 0)))) else (bif ((l1.D.length : Int) == (c.members.D.length : Int)) then ((Chain.mk 0 (Sl.mk true [])), 81) else (bif ((l1.D.length : Int) == 0) then ((Chain.mk 0 (Sl.mk true [])), 83) else ((Chain.mk (IntKind.i64.wrap (c.epoch + 1)) l1), 0))))
def rCut_l0 (c : Chain) (node : Int) (site : Int) : List Member → Nat → (List Member) → Chain × Int
  | [], _, l => rCut_l1 c ((Sl.mk l.isEmpty l).D.length + 1) (Sl.mk l.isEmpty l)
  | x :: xs, i, l => (bif (x.node != node) then (bif (x.site != site) then rCut_l0 c node site xs (i + 1) (l ++ [x]) else rCut_l0 c node site xs (i + 1) l) else rCut_l0 c node site xs (i + 1) l)
def rCut (c : Chain) (node : Int) (site : Int) : Chain × Int :=
  (bif ((rCheck c) != 0) then ((Chain.mk 0 (Sl.mk true [])), 80) else (bif (c.epoch == 1099511627776) then ((Chain.mk 0 (Sl.mk true [])), 5) else rCut_l0 c node site c.members.D 0 []))
theorem rCut_calls (c : Chain) (node : Int) (site : Int) (hl1 : c.members.D.length ≤ 1000000) : PCalls Try.prog 71 [.agg [.pv (.lit (.int .i64 c.epoch)), sS (some c.members.nil) eMember c.members.D], .pv (.lit (.int .i64 node)), .pv (.lit (.int .i64 site))] (.tup [.agg [.pv (.lit (.int .i64 ((rCut c node site).1.epoch))), sS (some (rCut c node site).1.members.nil) eMember ((rCut c node site).1.members.D)], .pv (.lit (.int .i64 ((rCut c node site).2)))]) := by
 generalize hR : rCut c node site = R
 refine PCalls.of_body tabOk Try.func71 rfl rfl rfl rfl rfl mixed fun E hP C hI => ?_
 refine Awp.consP C ?_
 refine rvc_un (rexec_prim C (δ := { v := .ptr 3 0, new := [(3, .cells [.pv (.lit (.int .i64 c.epoch)), sS (some c.members.nil) eMember c.members.D])] }) rfl rfl rfl rfl trivial rfl ?_)
 refine rvc_un (rexec_prim C (δ := { v := .ptr 6 0, new := [(6, .cells [.pv (.lit (.int .i64 0)), sS (some true) eMember []])] }) rfl rfl rfl rfl trivial rfl ?_)
 refine rvP C (.pv (.lit (.int .i64 0))) ?_
 refine rvc_nil ?_
 refine Awp.seq ?_
 refine Awp.consP C ?_
 refine rvP C (.agg [.pv (.lit (.int .i64 c.epoch)), sS (some c.members.nil) eMember c.members.D]) ?_
 refine rvc_un (rexec_call hP C rfl rfl rfl (rCheck_calls c (Nat.le_trans hl1 (by decide))) ?_)
 refine rvP C (.pv (.lit (.bool ((rCheck c) != 0)))) ?_
 refine rvc_nil ?_
 refine Awp.cond (b := ((rCheck c) != 0)) rfl (fun h1 => ?_) (fun h1 => ?_)
 ·
  replace hR := of_true h1 hR
  refine Awp.consP C ?_
  refine rvP C (.agg [.pv (.lit (.int .i64 0)), sS (some true) eMember []]) ?_
  refine rvc_un (rexec_prim C (δ := { v := .undef, wr := [(6, some (.cells [.pv (.lit (.int .i64 0)), sS (some true) eMember []]))] }) rfl rfl rfl rfl trivial rfl ?_)
  refine rvP C (.pv (.lit (.int .i64 80))) ?_
  refine rvc_nil ?_
  refine Awp.ret ?_
  subst hR
  exact ⟨.inl rfl, rfl⟩
 ·
  replace hR := of_false h1 hR
  refine Awp.skip ?_
  refine Awp.seq ?_
  refine Awp.consP C ?_
  refine rvP C (.ptr 3 0) ?_
  refine rvP C (.pv (.lit (.int .i64 c.epoch))) ?_
  refine rvP C (.pv (.lit (.bool (c.epoch == 1099511627776)))) ?_
  refine rvc_nil ?_
  refine Awp.cond (b := (c.epoch == 1099511627776)) rfl (fun h2 => ?_) (fun h2 => ?_)
  ·
   replace hR := of_true h2 hR
   refine Awp.consP C ?_
   refine rvP C (.agg [.pv (.lit (.int .i64 0)), sS (some true) eMember []]) ?_
   refine rvc_un (rexec_prim C (δ := { v := .undef, wr := [(6, some (.cells [.pv (.lit (.int .i64 0)), sS (some true) eMember []]))] }) rfl rfl rfl rfl trivial rfl ?_)
   refine rvP C (.pv (.lit (.int .i64 5))) ?_
   refine rvc_nil ?_
   refine Awp.ret ?_
   subst hR
   exact ⟨.inl rfl, rfl⟩
  ·
   replace hR := of_false h2 hR
   refine Awp.skip ?_
   refine Awp.consP C ?_
   refine rvP C (sS (some true) eMember []) ?_
   refine rvc_nil ?_
   refine Awp.seq ?_
   refine Awp.consP C ?_
   refine rvP C (.ptr 3 1) ?_
   refine rvP C (sS (some c.members.nil) eMember c.members.D) ?_
   refine rvP C (.pv (.lit (.int .i64 (c.members.D.length : Int)))) ?_
   refine rvP C (.pv (.lit (.int .i64 0))) ?_
   refine rvc_nil ?_
   refine Awp.block ?_
   refine Awp.forR (σ := ((List Member))) (c.members.D.length) (fun i v => [(1, .pv (.lit (.int .i64 node))), (2, .pv (.lit (.int .i64 site))), (3, .ptr 3 0), (6, .ptr 6 0), (8, grow 900 eMember v), (21, sS (some c.members.nil) eMember c.members.D), (22, .pv (.lit (.int .i64 (c.members.D.length : Int)))), (23, .pv (.lit (.int .i64 (i : Int))))]) (fun i v => (growH 900 eMember v ++ ([(3, .cells [.pv (.lit (.int .i64 c.epoch)), sS (some c.members.nil) eMember c.members.D]), (6, .cells [.pv (.lit (.int .i64 0)), sS (some true) eMember []])]))) [3, 6, 900] (fun i v => (rCut_l0 c node site (c.members.D.drop i) i v = R) ∧ (v.length ≤ i)) [] ?_ ?_ (fun i l h3 hR => ?_)
   · exact ⟨hR, (by first | omega | (simp <;> omega))⟩
   · exact ⟨fun b => b, WeakerR.ofL (Ks := [3, 6, 900]) hI ⟨⟨rfl, rfl⟩, ⟨rfl, rfl⟩, ⟨rfl, rfl⟩, ⟨rfl, rfl⟩, ⟨rfl, rfl⟩, ⟨rfl, rfl⟩, ⟨rfl, rfl⟩, ⟨rfl, rfl⟩, trivial⟩ (okH_grow (fun hne => absurd rfl hne) rfl rfl (okH_cons rfl rfl rfl rfl (okH_cons rfl rfl rfl rfl (okH_nil)))) rfl⟩
   obtain ⟨hR, hi_l⟩ := hR
   replace hi_l : l.length ≤ i := hi_l
   by_cases h4 : l = []
   ·
    refine Awp.wordsR [(1, .pv (.lit (.int .i64 node))), (2, .pv (.lit (.int .i64 site))), (3, .ptr 3 0), (6, .ptr 6 0), (8, sS (some l.isEmpty) eMember l), (21, sS (some c.members.nil) eMember c.members.D), (22, .pv (.lit (.int .i64 (c.members.D.length : Int)))), (23, .pv (.lit (.int .i64 (i : Int))))] [(3, .cells [.pv (.lit (.int .i64 c.epoch)), sS (some c.members.nil) eMember c.members.D]), (6, .cells [.pv (.lit (.int .i64 0)), sS (some true) eMember []])] [3, 6] (WeakerR.ofL (Ks := [3, 6]) hI ⟨⟨rfl, rfl⟩, ⟨rfl, rfl⟩, ⟨rfl, rfl⟩, ⟨rfl, rfl⟩, ⟨(by exact grow_at_nil (b := 900) (e := eMember) (l := l) rfl h4), rfl⟩, ⟨rfl, rfl⟩, ⟨rfl, rfl⟩, ⟨rfl, rfl⟩, trivial⟩ (okH_cons (look_nil h4 rfl) rfl rfl rfl (okH_cons (look_nil h4 rfl) rfl rfl rfl (okH_nil))) rfl) ?_
    refine Awp.consP C ?_
    refine rvP C (.pv (.lit (.bool (decide ((i : Int) < (c.members.D.length : Int)))))) ?_
    refine rvc_nil ?_
    refine Awp.seq ?_
    refine Awp.cond (b := (decide ((i : Int) < (c.members.D.length : Int)))) rfl (fun h5 => ?_) (fun h5 => ?_)
    ·
     have h6 : i < c.members.D.length := by have := of_decide_eq_true h5; omega
     obtain ⟨x, h7⟩ := getX h6
     rw [drop_at h7] at hR
     refine Awp.skip ?_
     refine Awp.seq ?_
     refine Awp.block ?_
     refine Awp.consP C ?_
     refine rvc_un (rexec_idxS C rfl rfl rfl rfl rfl rfl x (Int.natCast_nonneg _) h7 ?_)
     refine rvP C (.agg [.pv (.lit (.int .i64 x.node)), .pv (.lit (.int .i64 x.site)), .pv (.lit (.bool x.fresh))]) ?_
     refine rvc_un (rexec_prim C (δ := { v := .ptr 10 0, new := [(10, .cells [.pv (.lit (.int .i64 0)), .pv (.lit (.int .i64 0)), .pv (.lit (.bool false))])] }) rfl rfl rfl rfl trivial rfl ?_)
     refine rvc_un (rexec_prim C (δ := { v := .undef, wr := [(10, some (.cells [.pv (.lit (.int .i64 x.node)), .pv (.lit (.int .i64 x.site)), .pv (.lit (.bool x.fresh))]))] }) rfl rfl rfl rfl trivial rfl ?_)
     refine rvc_nil ?_
     refine Awp.consP C ?_
     refine rvP C (.ptr 10 0) ?_
     refine rvP C (.pv (.lit (.int .i64 x.node))) ?_
     refine rvP C (.pv (.lit (.int .i64 node))) ?_
     refine rvP C (.pv (.lit (.bool (x.node != node)))) ?_
     refine rvP C (.pv (.lit (.bool (x.node != node)))) ?_
     refine rvc_case 31 (x.node != node) rfl (fun h8 => ?_) (fun h8 => ?_)
     ·
      replace hR := of_true h8 hR
      refine rvO C (.ptr 10 1) ?_
      refine rvO C (.pv (.lit (.int .i64 x.site))) ?_
      refine rvO C (.pv (.lit (.int .i64 site))) ?_
      refine rvO C (.pv (.lit (.bool (x.site != site)))) ?_
      refine rvP C (.pv (.lit (.bool (x.site != site)))) ?_
      refine rvc_nil ?_
      refine Awp.cond (b := (x.site != site)) rfl (fun h9 => ?_) (fun h9 => ?_)
      ·
       replace hR := of_true h9 hR
       refine Awp.regionP C ?_
       refine rvP C (sS (some l.isEmpty) eMember l) ?_
       refine rvP C (.agg [.pv (.lit (.int .i64 x.node)), .pv (.lit (.int .i64 x.site)), .pv (.lit (.bool x.fresh))]) ?_
       refine rvc_un (rexec_buildSliceF C eMember [x] rfl rfl rfl rfl rfl rfl rfl (by decide) rfl ?_)
       refine rvc_un (rexec_appendG C rfl rfl rfl rfl rfl rfl rfl rfl (fun _ h => by cases h) rfl (en := eMember) (l := l) (D := [x]) rfl rfl h4 (by rw [h4]; rfl) (by simp) (by have := check_r (c := c); have := rCheck_le6 (c := c); have := eq_of_bne_false h1; have := ne_of_beq_false h2; have := of_decide_eq_true h5; have := bne_iff_ne.1 h8; have := bne_iff_ne.1 h9; first | omega | (simp <;> omega)) (by decide) (nn := (l ++ [x]).length) (by simp) ?_)
       refine rvP C (.sl 40 0 ((l ++ [x]).length) 3 false) ?_
       refine rvc_nil ?_
       refine Awp.regionP C ?_
       refine rvP C (.pv (.lit (.int .i64 (IntKind.i64.wrap ((i : Int) + 1))))) ?_
       refine rvP C (.pv (.lit (.int .i64 (IntKind.i64.wrap ((i : Int) + 1))))) ?_
       refine rvc_nil ?_
       refine ⟨h6, (l ++ [x]), ?_, ?_⟩
       · exact ⟨hR, (by first | omega | (simp <;> omega))⟩
       · exact ⟨fun b => bif b == 900 then 40 else (fun b => b) b, WeakerR.ofL (Ks := [3, 6, 900]) hI ⟨⟨rfl, rfl⟩, ⟨rfl, rfl⟩, ⟨rfl, rfl⟩, ⟨rfl, rfl⟩, ⟨grow_to rfl rfl app_ne rfl rfl, grow_within rfl⟩, ⟨rfl, rfl⟩, ⟨rfl, rfl⟩, ⟨lit_cast (wrap_i64 (by omega) (by omega)), rfl⟩, trivial⟩ (okH_grow (fun _ => rfl) rfl rfl (okH_cons rfl rfl rfl rfl (okH_cons rfl rfl rfl rfl (okH_nil)))) rfl⟩
      ·
       replace hR := of_false h9 hR
       refine Awp.skip ?_
       refine Awp.regionP C ?_
       refine rvP C (.pv (.lit (.int .i64 (IntKind.i64.wrap ((i : Int) + 1))))) ?_
       refine rvP C (.pv (.lit (.int .i64 (IntKind.i64.wrap ((i : Int) + 1))))) ?_
       refine rvc_nil ?_
       refine ⟨h6, l, ?_, ?_⟩
       · exact ⟨hR, (by first | omega | (simp <;> omega))⟩
       · exact ⟨fun b => b, WeakerR.ofL (Ks := [3, 6, 900]) hI ⟨⟨rfl, rfl⟩, ⟨rfl, rfl⟩, ⟨rfl, rfl⟩, ⟨rfl, rfl⟩, ⟨grow_to_nil rfl h4 (.inr rfl), grow_within rfl⟩, ⟨rfl, rfl⟩, ⟨rfl, rfl⟩, ⟨lit_cast (wrap_i64 (by omega) (by omega)), rfl⟩, trivial⟩ (okH_grow (fun hne => absurd h4 hne) rfl rfl (okH_cons rfl rfl rfl rfl (okH_cons rfl rfl rfl rfl (okH_nil)))) rfl⟩
     ·
      replace hR := of_false h8 hR
      refine rvS ?_
      refine rvS ?_
      refine rvS ?_
      refine rvS ?_
      refine rvP C (.pv (.lit (.bool false))) ?_
      refine rvc_nil ?_
      refine Awp.condF (b := false) rfl rfl ?_
      refine Awp.skip ?_
      refine Awp.regionP C ?_
      refine rvP C (.pv (.lit (.int .i64 (IntKind.i64.wrap ((i : Int) + 1))))) ?_
      refine rvP C (.pv (.lit (.int .i64 (IntKind.i64.wrap ((i : Int) + 1))))) ?_
      refine rvc_nil ?_
      refine ⟨h6, l, ?_, ?_⟩
      · exact ⟨hR, (by first | omega | (simp <;> omega))⟩
      · exact ⟨fun b => b, WeakerR.ofL (Ks := [3, 6, 900]) hI ⟨⟨rfl, rfl⟩, ⟨rfl, rfl⟩, ⟨rfl, rfl⟩, ⟨rfl, rfl⟩, ⟨grow_to_nil rfl h4 (.inr rfl), grow_within rfl⟩, ⟨rfl, rfl⟩, ⟨rfl, rfl⟩, ⟨lit_cast (wrap_i64 (by omega) (by omega)), rfl⟩, trivial⟩ (okH_grow (fun hne => absurd h4 hne) rfl rfl (okH_cons rfl rfl rfl rfl (okH_cons rfl rfl rfl rfl (okH_nil)))) rfl⟩
    ·
     have h6 : ¬ i < c.members.D.length := by have := of_decide_eq_false h5; omega
     rw [drop_end h6] at hR
     refine Awp.exit ?_
     refine Awp.seq ?_
     refine Awp.block ?_
     refine Awp.forM (σ := ((Sl Member))) (fun v => [(3, .ptr 3 0), (6, .ptr 6 0), (8, sS (some v.nil) eMember v.D)]) (fun v => [(3, .cells [.pv (.lit (.int .i64 c.epoch)), sS (some c.members.nil) eMember c.members.D]), (6, .cells [.pv (.lit (.int .i64 0)), sS (some true) eMember []])]) [3, 6] (fun n v => n = v.D.length ∧ rCut_l1 c (v.D.length + 1) v = R) ((Sl.mk l.isEmpty l).D.length) (Sl.mk l.isEmpty l) ?_ ?_ (fun _ l1 h10 => ?_)
     · exact ⟨rfl, hR⟩
     · exact ⟨fun b => b, WeakerR.ofL (Ks := [3, 6]) hI ⟨⟨rfl, rfl⟩, ⟨rfl, rfl⟩, ⟨rfl, rfl⟩, trivial⟩ (okH_cons rfl rfl rfl rfl (okH_cons rfl rfl rfl rfl (okH_nil))) rfl⟩
     obtain ⟨rfl, hR⟩ := h10
     refine Awp.seq ?_
     refine Awp.consP C ?_
     refine rvP C (sS (some l1.nil) eMember l1.D) ?_
     refine rvP C (.pv (.lit (.int .i64 (l1.D.length : Int)))) ?_
     refine rvP C (.pv (.lit (.bool (decide ((l1.D.length : Int) > 0))))) ?_
     refine rvP C (.pv (.lit (.bool (decide ((l1.D.length : Int) > 0))))) ?_
     refine rvc_case 45 (decide ((l1.D.length : Int) > 0)) rfl (fun h12 => ?_) (fun h12 => ?_)
     ·
      replace hR := of_true h12 hR
      refine rvO C (sS (some l1.nil) eMember l1.D) ?_
      have h13 : l1.D[0]? = some l1.D[0]! := getE (by have := check_r (c := c); have := rCheck_le6 (c := c); have := eq_of_bne_false h1; have := ne_of_beq_false h2; have := of_decide_eq_false h5; have := of_decide_eq_true h12; omega)
      refine rvc_open rfl rfl rfl (rexec_idxS C rfl rfl rfl rfl rfl rfl (l1.D[0]!) (Int.natCast_nonneg _) h13 ?_)
      refine rvO C (.rp [.lit (.bool (l1.D[0]!.fresh))]) ?_
      refine rvO C (.pv (.lit (.bool (l1.D[0]!.fresh)))) ?_
      refine rvP C (.pv (.lit (.bool (l1.D[0]!.fresh)))) ?_
      refine rvc_nil ?_
      refine Awp.cond (b := l1.D[0]!.fresh) rfl (fun h14 => ?_) (fun h14 => ?_)
      ·
       replace hR := of_true h14 hR
       refine Awp.skip ?_
       refine Awp.block ?_
       refine Awp.regionP C ?_
       refine rvP C (sS (some l1.nil) eMember l1.D) ?_
       refine rvc_un (rexec_sliceS C (e := eMember) (D := l1.D) 1 l1.D.length rfl rfl rfl rfl rfl rfl rfl rfl rfl rfl (by have := check_r (c := c); have := rCheck_le6 (c := c); have := eq_of_bne_false h1; have := ne_of_beq_false h2; have := of_decide_eq_false h5; have := of_decide_eq_true h12; omega) (by have := check_r (c := c); have := rCheck_le6 (c := c); have := eq_of_bne_false h1; have := ne_of_beq_false h2; have := of_decide_eq_false h5; have := of_decide_eq_true h12; omega) (l1.D.drop 1) (by rw [List.take_of_length_le (by simp)]) ?_)
       refine rvP C (sS (some l1.nil) eMember (l1.D.drop 1)) ?_
       refine rvc_nil ?_
       refine ⟨_, (Sl.mk l1.nil (l1.D.drop 1)), ?_, ⟨rfl, (by rw [show ((Sl.mk l1.nil (l1.D.drop 1)).D.length) + 1 = l1.D.length by have := check_r (c := c); have := rCheck_le6 (c := c); have := eq_of_bne_false h1; have := ne_of_beq_false h2; have := of_decide_eq_false h5; have := of_decide_eq_true h12; first | omega | (simp only [List.length_drop]; omega)]; exact hR)⟩, ?_⟩
       · show (Sl.mk l1.nil (l1.D.drop 1)).D.length < l1.D.length; have := check_r (c := c); have := rCheck_le6 (c := c); have := eq_of_bne_false h1; have := ne_of_beq_false h2; have := of_decide_eq_false h5; have := of_decide_eq_true h12; first | omega | (simp only [List.length_drop]; omega)
       · exact ⟨fun b => b, WeakerR.ofL (Ks := [3, 6]) hI ⟨⟨rfl, rfl⟩, ⟨rfl, rfl⟩, ⟨rfl, rfl⟩, trivial⟩ (okH_cons rfl rfl rfl rfl (okH_cons rfl rfl rfl rfl (okH_nil))) rfl⟩
      ·
       replace hR := of_false h14 hR
       refine Awp.exit ?_
       refine Awp.seq ?_
       refine Awp.consP C ?_
       refine rvP C (sS (some l1.nil) eMember l1.D) ?_
       refine rvP C (.pv (.lit (.int .i64 (l1.D.length : Int)))) ?_
       refine rvP C (.ptr 3 1) ?_
       refine rvP C (sS (some c.members.nil) eMember c.members.D) ?_
       refine rvP C (.pv (.lit (.int .i64 (c.members.D.length : Int)))) ?_
       refine rvP C (.pv (.lit (.bool ((l1.D.length : Int) == (c.members.D.length : Int))))) ?_
       refine rvc_nil ?_
       refine Awp.cond (b := ((l1.D.length : Int) == (c.members.D.length : Int))) rfl (fun h15 => ?_) (fun h15 => ?_)
       ·
        replace hR := of_true h15 hR
        refine Awp.consP C ?_
        refine rvP C (.agg [.pv (.lit (.int .i64 0)), sS (some true) eMember []]) ?_
        refine rvc_un (rexec_prim C (δ := { v := .undef, wr := [(6, some (.cells [.pv (.lit (.int .i64 0)), sS (some true) eMember []]))] }) rfl rfl rfl rfl trivial rfl ?_)
        refine rvP C (.pv (.lit (.int .i64 81))) ?_
        refine rvc_nil ?_
        refine Awp.ret ?_
        subst hR
        exact ⟨.inl rfl, rfl⟩
       ·
        replace hR := of_false h15 hR
        refine Awp.skip ?_
        refine Awp.seq ?_
        refine Awp.consP C ?_
        refine rvP C (sS (some l1.nil) eMember l1.D) ?_
        refine rvP C (.pv (.lit (.int .i64 (l1.D.length : Int)))) ?_
        refine rvP C (.pv (.lit (.bool ((l1.D.length : Int) == 0)))) ?_
        refine rvc_nil ?_
        refine Awp.cond (b := ((l1.D.length : Int) == 0)) rfl (fun h16 => ?_) (fun h16 => ?_)
        ·
         replace hR := of_true h16 hR
         refine Awp.consP C ?_
         refine rvP C (.agg [.pv (.lit (.int .i64 0)), sS (some true) eMember []]) ?_
         refine rvc_un (rexec_prim C (δ := { v := .undef, wr := [(6, some (.cells [.pv (.lit (.int .i64 0)), sS (some true) eMember []]))] }) rfl rfl rfl rfl trivial rfl ?_)
         refine rvP C (.pv (.lit (.int .i64 83))) ?_
         refine rvc_nil ?_
         refine Awp.ret ?_
         subst hR
         exact ⟨.inl rfl, rfl⟩
        ·
         replace hR := of_false h16 hR
         refine Awp.skip ?_
         refine Awp.consP C ?_
         refine rvP C (.ptr 3 0) ?_
         refine rvP C (.pv (.lit (.int .i64 c.epoch))) ?_
         refine rvP C (.pv (.lit (.int .i64 (IntKind.i64.wrap (c.epoch + 1))))) ?_
         refine rvP C (.agg [.pv (.lit (.int .i64 (IntKind.i64.wrap (c.epoch + 1)))), sS (some true) eMember []]) ?_
         refine rvc_un (rexec_prim C (δ := { v := .ptr 11 0, new := [(11, .cells [.pv (.lit (.int .i64 0)), sS (some true) eMember []])] }) rfl rfl rfl rfl trivial rfl ?_)
         refine rvc_un (rexec_prim C (δ := { v := .undef, wr := [(11, some (.cells [.pv (.lit (.int .i64 (IntKind.i64.wrap (c.epoch + 1)))), sS (some true) eMember []]))] }) rfl rfl rfl rfl trivial rfl ?_)
         refine rvc_nil ?_
         refine Awp.consP C ?_
         refine rvP C (sS (some l1.nil) eMember l1.D) ?_
         refine rvP C (.ptr 11 1) ?_
         refine rvc_un (rexec_prim C (δ := { v := .undef, wr := [(11, some (.cells [.pv (.lit (.int .i64 (IntKind.i64.wrap (c.epoch + 1)))), sS (some l1.nil) eMember l1.D]))] }) rfl rfl rfl rfl trivial rfl ?_)
         refine rvc_nil ?_
         refine Awp.consP C ?_
         refine rvP C (.agg [.pv (.lit (.int .i64 (IntKind.i64.wrap (c.epoch + 1)))), sS (some l1.nil) eMember l1.D]) ?_
         refine rvc_un (rexec_prim C (δ := { v := .undef, wr := [(6, some (.cells [.pv (.lit (.int .i64 (IntKind.i64.wrap (c.epoch + 1)))), sS (some l1.nil) eMember l1.D]))] }) rfl rfl rfl rfl trivial rfl ?_)
         refine rvP C (.pv (.lit (.int .i64 0))) ?_
         refine rvc_nil ?_
         refine Awp.ret ?_
         subst hR
         exact ⟨.inl rfl, rfl⟩
     ·
      replace hR := of_false h12 hR
      refine rvS ?_
      refine rvS ?_
      refine rvS ?_
      refine rvS ?_
      refine rvP C (.pv (.lit (.bool false))) ?_
      refine rvc_nil ?_
      refine Awp.condF (b := false) rfl rfl ?_
      refine Awp.exit ?_
      refine Awp.seq ?_
      refine Awp.consP C ?_
      refine rvP C (sS (some l1.nil) eMember l1.D) ?_
      refine rvP C (.pv (.lit (.int .i64 (l1.D.length : Int)))) ?_
      refine rvP C (.ptr 3 1) ?_
      refine rvP C (sS (some c.members.nil) eMember c.members.D) ?_
      refine rvP C (.pv (.lit (.int .i64 (c.members.D.length : Int)))) ?_
      refine rvP C (.pv (.lit (.bool ((l1.D.length : Int) == (c.members.D.length : Int))))) ?_
      refine rvc_nil ?_
      refine Awp.cond (b := ((l1.D.length : Int) == (c.members.D.length : Int))) rfl (fun h17 => ?_) (fun h17 => ?_)
      ·
       replace hR := of_true h17 hR
       refine Awp.consP C ?_
       refine rvP C (.agg [.pv (.lit (.int .i64 0)), sS (some true) eMember []]) ?_
       refine rvc_un (rexec_prim C (δ := { v := .undef, wr := [(6, some (.cells [.pv (.lit (.int .i64 0)), sS (some true) eMember []]))] }) rfl rfl rfl rfl trivial rfl ?_)
       refine rvP C (.pv (.lit (.int .i64 81))) ?_
       refine rvc_nil ?_
       refine Awp.ret ?_
       subst hR
       exact ⟨.inl rfl, rfl⟩
      ·
       replace hR := of_false h17 hR
       refine Awp.skip ?_
       refine Awp.seq ?_
       refine Awp.consP C ?_
       refine rvP C (sS (some l1.nil) eMember l1.D) ?_
       refine rvP C (.pv (.lit (.int .i64 (l1.D.length : Int)))) ?_
       refine rvP C (.pv (.lit (.bool ((l1.D.length : Int) == 0)))) ?_
       refine rvc_nil ?_
       refine Awp.cond (b := ((l1.D.length : Int) == 0)) rfl (fun h18 => ?_) (fun h18 => ?_)
       ·
        replace hR := of_true h18 hR
        refine Awp.consP C ?_
        refine rvP C (.agg [.pv (.lit (.int .i64 0)), sS (some true) eMember []]) ?_
        refine rvc_un (rexec_prim C (δ := { v := .undef, wr := [(6, some (.cells [.pv (.lit (.int .i64 0)), sS (some true) eMember []]))] }) rfl rfl rfl rfl trivial rfl ?_)
        refine rvP C (.pv (.lit (.int .i64 83))) ?_
        refine rvc_nil ?_
        refine Awp.ret ?_
        subst hR
        exact ⟨.inl rfl, rfl⟩
       ·
        replace hR := of_false h18 hR
        refine Awp.skip ?_
        refine Awp.consP C ?_
        refine rvP C (.ptr 3 0) ?_
        refine rvP C (.pv (.lit (.int .i64 c.epoch))) ?_
        refine rvP C (.pv (.lit (.int .i64 (IntKind.i64.wrap (c.epoch + 1))))) ?_
        refine rvP C (.agg [.pv (.lit (.int .i64 (IntKind.i64.wrap (c.epoch + 1)))), sS (some true) eMember []]) ?_
        refine rvc_un (rexec_prim C (δ := { v := .ptr 11 0, new := [(11, .cells [.pv (.lit (.int .i64 0)), sS (some true) eMember []])] }) rfl rfl rfl rfl trivial rfl ?_)
        refine rvc_un (rexec_prim C (δ := { v := .undef, wr := [(11, some (.cells [.pv (.lit (.int .i64 (IntKind.i64.wrap (c.epoch + 1)))), sS (some true) eMember []]))] }) rfl rfl rfl rfl trivial rfl ?_)
        refine rvc_nil ?_
        refine Awp.consP C ?_
        refine rvP C (sS (some l1.nil) eMember l1.D) ?_
        refine rvP C (.ptr 11 1) ?_
        refine rvc_un (rexec_prim C (δ := { v := .undef, wr := [(11, some (.cells [.pv (.lit (.int .i64 (IntKind.i64.wrap (c.epoch + 1)))), sS (some l1.nil) eMember l1.D]))] }) rfl rfl rfl rfl trivial rfl ?_)
        refine rvc_nil ?_
        refine Awp.consP C ?_
        refine rvP C (.agg [.pv (.lit (.int .i64 (IntKind.i64.wrap (c.epoch + 1)))), sS (some l1.nil) eMember l1.D]) ?_
        refine rvc_un (rexec_prim C (δ := { v := .undef, wr := [(6, some (.cells [.pv (.lit (.int .i64 (IntKind.i64.wrap (c.epoch + 1)))), sS (some l1.nil) eMember l1.D]))] }) rfl rfl rfl rfl trivial rfl ?_)
        refine rvP C (.pv (.lit (.int .i64 0))) ?_
        refine rvc_nil ?_
        refine Awp.ret ?_
        subst hR
        exact ⟨.inl rfl, rfl⟩
   ·
    refine Awp.wordsR [(1, .pv (.lit (.int .i64 node))), (2, .pv (.lit (.int .i64 site))), (3, .ptr 3 0), (6, .ptr 6 0), (8, .sl 900 0 l.length 3 false), (21, sS (some c.members.nil) eMember c.members.D), (22, .pv (.lit (.int .i64 (c.members.D.length : Int)))), (23, .pv (.lit (.int .i64 (i : Int))))] [(900, .cells (encC eMember l)), (3, .cells [.pv (.lit (.int .i64 c.epoch)), sS (some c.members.nil) eMember c.members.D]), (6, .cells [.pv (.lit (.int .i64 0)), sS (some true) eMember []])] [3, 6, 900] (WeakerR.ofL (Ks := [3, 6, 900]) hI ⟨⟨rfl, rfl⟩, ⟨rfl, rfl⟩, ⟨rfl, rfl⟩, ⟨rfl, rfl⟩, ⟨(by exact grow_at_cons (b := 900) (b' := 900) (e := eMember) (l := l) rfl h4 rfl rfl rfl), rfl⟩, ⟨rfl, rfl⟩, ⟨rfl, rfl⟩, ⟨rfl, rfl⟩, trivial⟩ (okH_list (look_cons h4 rfl) rfl rfl (okH_cons (look_cons h4 rfl) rfl rfl rfl (okH_cons (look_cons h4 rfl) rfl rfl rfl (okH_nil)))) rfl) ?_
    refine Awp.consP C ?_
    refine rvP C (.pv (.lit (.bool (decide ((i : Int) < (c.members.D.length : Int)))))) ?_
    refine rvc_nil ?_
    refine Awp.seq ?_
    refine Awp.cond (b := (decide ((i : Int) < (c.members.D.length : Int)))) rfl (fun h19 => ?_) (fun h19 => ?_)
    ·
     have h20 : i < c.members.D.length := by have := of_decide_eq_true h19; omega
     obtain ⟨x, h21⟩ := getX h20
     rw [drop_at h21] at hR
     refine Awp.skip ?_
     refine Awp.seq ?_
     refine Awp.block ?_
     refine Awp.consP C ?_
     refine rvc_un (rexec_idxS C rfl rfl rfl rfl rfl rfl x (Int.natCast_nonneg _) h21 ?_)
     refine rvP C (.agg [.pv (.lit (.int .i64 x.node)), .pv (.lit (.int .i64 x.site)), .pv (.lit (.bool x.fresh))]) ?_
     refine rvc_un (rexec_prim C (δ := { v := .ptr 10 0, new := [(10, .cells [.pv (.lit (.int .i64 0)), .pv (.lit (.int .i64 0)), .pv (.lit (.bool false))])] }) rfl rfl rfl rfl trivial rfl ?_)
     refine rvc_un (rexec_prim C (δ := { v := .undef, wr := [(10, some (.cells [.pv (.lit (.int .i64 x.node)), .pv (.lit (.int .i64 x.site)), .pv (.lit (.bool x.fresh))]))] }) rfl rfl rfl rfl trivial rfl ?_)
     refine rvc_nil ?_
     refine Awp.consP C ?_
     refine rvP C (.ptr 10 0) ?_
     refine rvP C (.pv (.lit (.int .i64 x.node))) ?_
     refine rvP C (.pv (.lit (.int .i64 node))) ?_
     refine rvP C (.pv (.lit (.bool (x.node != node)))) ?_
     refine rvP C (.pv (.lit (.bool (x.node != node)))) ?_
     refine rvc_case 31 (x.node != node) rfl (fun h22 => ?_) (fun h22 => ?_)
     ·
      replace hR := of_true h22 hR
      refine rvO C (.ptr 10 1) ?_
      refine rvO C (.pv (.lit (.int .i64 x.site))) ?_
      refine rvO C (.pv (.lit (.int .i64 site))) ?_
      refine rvO C (.pv (.lit (.bool (x.site != site)))) ?_
      refine rvP C (.pv (.lit (.bool (x.site != site)))) ?_
      refine rvc_nil ?_
      refine Awp.cond (b := (x.site != site)) rfl (fun h23 => ?_) (fun h23 => ?_)
      ·
       replace hR := of_true h23 hR
       refine Awp.regionP C ?_
       refine rvP C (.sl 900 0 l.length 3 false) ?_
       refine rvP C (.agg [.pv (.lit (.int .i64 x.node)), .pv (.lit (.int .i64 x.site)), .pv (.lit (.bool x.fresh))]) ?_
       refine rvc_un (rexec_buildSliceF C eMember [x] rfl rfl rfl rfl rfl rfl rfl (by decide) rfl ?_)
       refine rvc_un (rexec_append C rfl rfl rfl rfl rfl rfl rfl rfl (fun _ h => by cases h) rfl (en := eMember) (D0 := l) (D := [x]) rfl rfl rfl rfl (by have := check_r (c := c); have := rCheck_le6 (c := c); have := eq_of_bne_false h1; have := ne_of_beq_false h2; have := of_decide_eq_true h19; have := bne_iff_ne.1 h22; have := bne_iff_ne.1 h23; first | omega | (simp <;> omega)) (by decide) (nn := (l ++ [x]).length) (by simp) ?_)
       refine rvP C (.sl 40 0 ((l ++ [x]).length) 3 false) ?_
       refine rvc_nil ?_
       refine Awp.regionP C ?_
       refine rvP C (.pv (.lit (.int .i64 (IntKind.i64.wrap ((i : Int) + 1))))) ?_
       refine rvP C (.pv (.lit (.int .i64 (IntKind.i64.wrap ((i : Int) + 1))))) ?_
       refine rvc_nil ?_
       refine ⟨h20, (l ++ [x]), ?_, ?_⟩
       · exact ⟨hR, (by first | omega | (simp <;> omega))⟩
       · exact ⟨fun b => bif b == 900 then 40 else (fun b => b) b, WeakerR.ofL (Ks := [3, 6, 900]) hI ⟨⟨rfl, rfl⟩, ⟨rfl, rfl⟩, ⟨rfl, rfl⟩, ⟨rfl, rfl⟩, ⟨grow_to rfl rfl app_ne rfl rfl, grow_within rfl⟩, ⟨rfl, rfl⟩, ⟨rfl, rfl⟩, ⟨lit_cast (wrap_i64 (by omega) (by omega)), rfl⟩, trivial⟩ (okH_grow (fun _ => rfl) rfl rfl (okH_cons rfl rfl rfl rfl (okH_cons rfl rfl rfl rfl (okH_nil)))) rfl⟩
      ·
       replace hR := of_false h23 hR
       refine Awp.skip ?_
       refine Awp.regionP C ?_
       refine rvP C (.pv (.lit (.int .i64 (IntKind.i64.wrap ((i : Int) + 1))))) ?_
       refine rvP C (.pv (.lit (.int .i64 (IntKind.i64.wrap ((i : Int) + 1))))) ?_
       refine rvc_nil ?_
       refine ⟨h20, l, ?_, ?_⟩
       · exact ⟨hR, (by first | omega | (simp <;> omega))⟩
       · exact ⟨fun b => b, WeakerR.ofL (Ks := [3, 6, 900]) hI ⟨⟨rfl, rfl⟩, ⟨rfl, rfl⟩, ⟨rfl, rfl⟩, ⟨rfl, rfl⟩, ⟨grow_to rfl rfl h4 rfl rfl, grow_within rfl⟩, ⟨rfl, rfl⟩, ⟨rfl, rfl⟩, ⟨lit_cast (wrap_i64 (by omega) (by omega)), rfl⟩, trivial⟩ (okH_grow (fun _ => rfl) rfl rfl (okH_cons rfl rfl rfl rfl (okH_cons rfl rfl rfl rfl (okH_nil)))) rfl⟩
     ·
      replace hR := of_false h22 hR
      refine rvS ?_
      refine rvS ?_
      refine rvS ?_
      refine rvS ?_
      refine rvP C (.pv (.lit (.bool false))) ?_
      refine rvc_nil ?_
      refine Awp.condF (b := false) rfl rfl ?_
      refine Awp.skip ?_
      refine Awp.regionP C ?_
      refine rvP C (.pv (.lit (.int .i64 (IntKind.i64.wrap ((i : Int) + 1))))) ?_
      refine rvP C (.pv (.lit (.int .i64 (IntKind.i64.wrap ((i : Int) + 1))))) ?_
      refine rvc_nil ?_
      refine ⟨h20, l, ?_, ?_⟩
      · exact ⟨hR, (by first | omega | (simp <;> omega))⟩
      · exact ⟨fun b => b, WeakerR.ofL (Ks := [3, 6, 900]) hI ⟨⟨rfl, rfl⟩, ⟨rfl, rfl⟩, ⟨rfl, rfl⟩, ⟨rfl, rfl⟩, ⟨grow_to rfl rfl h4 rfl rfl, grow_within rfl⟩, ⟨rfl, rfl⟩, ⟨rfl, rfl⟩, ⟨lit_cast (wrap_i64 (by omega) (by omega)), rfl⟩, trivial⟩ (okH_grow (fun _ => rfl) rfl rfl (okH_cons rfl rfl rfl rfl (okH_cons rfl rfl rfl rfl (okH_nil)))) rfl⟩
    ·
     have h20 : ¬ i < c.members.D.length := by have := of_decide_eq_false h19; omega
     rw [drop_end h20] at hR
     refine Awp.exit ?_
     refine Awp.seq ?_
     refine Awp.block ?_
     refine Awp.freezeW 900 (encL eMember l) ?_ [(3, .ptr 3 0), (6, .ptr 6 0), (8, sS (some l.isEmpty) eMember l)] [(3, .cells [.pv (.lit (.int .i64 c.epoch)), sS (some c.members.nil) eMember c.members.D]), (6, .cells [.pv (.lit (.int .i64 0)), sS (some true) eMember []])] ?_ ?_ ?_
     · rfl
     · exact ⟨⟨_, rfl, .inl (.inl rfl)⟩, ⟨_, rfl, .inl (.inl rfl)⟩, ⟨_, rfl, .inl (.inr ⟨_, _, _, rfl, by rw [ne_isEmpty h4]; rfl⟩)⟩, trivial⟩
     · exact ⟨⟨(by show (3 : Nat) ≠ 900; decide), .inl rfl⟩, ⟨(by show (6 : Nat) ≠ 900; decide), .inl rfl⟩, trivial⟩
     refine Awp.forM (σ := ((Sl Member))) (fun v => [(3, .ptr 3 0), (6, .ptr 6 0), (8, sS (some v.nil) eMember v.D)]) (fun v => [(3, .cells [.pv (.lit (.int .i64 c.epoch)), sS (some c.members.nil) eMember c.members.D]), (6, .cells [.pv (.lit (.int .i64 0)), sS (some true) eMember []])]) [3, 6] (fun n v => n = v.D.length ∧ rCut_l1 c (v.D.length + 1) v = R) ((Sl.mk l.isEmpty l).D.length) (Sl.mk l.isEmpty l) ?_ ?_ (fun _ l2 h24 => ?_)
     · exact ⟨rfl, hR⟩
     · exact ⟨fun b => b, WeakerR.ofL (Ks := [3, 6]) hI ⟨⟨rfl, rfl⟩, ⟨rfl, rfl⟩, ⟨rfl, rfl⟩, trivial⟩ (okH_cons rfl rfl rfl rfl (okH_cons rfl rfl rfl rfl (okH_nil))) rfl⟩
     obtain ⟨rfl, hR⟩ := h24
     refine Awp.seq ?_
     refine Awp.consP C ?_
     refine rvP C (sS (some l2.nil) eMember l2.D) ?_
     refine rvP C (.pv (.lit (.int .i64 (l2.D.length : Int)))) ?_
     refine rvP C (.pv (.lit (.bool (decide ((l2.D.length : Int) > 0))))) ?_
     refine rvP C (.pv (.lit (.bool (decide ((l2.D.length : Int) > 0))))) ?_
     refine rvc_case 45 (decide ((l2.D.length : Int) > 0)) rfl (fun h26 => ?_) (fun h26 => ?_)
     ·
      replace hR := of_true h26 hR
      refine rvO C (sS (some l2.nil) eMember l2.D) ?_
      have h27 : l2.D[0]? = some l2.D[0]! := getE (by have := check_r (c := c); have := rCheck_le6 (c := c); have := eq_of_bne_false h1; have := ne_of_beq_false h2; have := of_decide_eq_false h19; have := of_decide_eq_true h26; omega)
      refine rvc_open rfl rfl rfl (rexec_idxS C rfl rfl rfl rfl rfl rfl (l2.D[0]!) (Int.natCast_nonneg _) h27 ?_)
      refine rvO C (.rp [.lit (.bool (l2.D[0]!.fresh))]) ?_
      refine rvO C (.pv (.lit (.bool (l2.D[0]!.fresh)))) ?_
      refine rvP C (.pv (.lit (.bool (l2.D[0]!.fresh)))) ?_
      refine rvc_nil ?_
      refine Awp.cond (b := l2.D[0]!.fresh) rfl (fun h28 => ?_) (fun h28 => ?_)
      ·
       replace hR := of_true h28 hR
       refine Awp.skip ?_
       refine Awp.block ?_
       refine Awp.regionP C ?_
       refine rvP C (sS (some l2.nil) eMember l2.D) ?_
       refine rvc_un (rexec_sliceS C (e := eMember) (D := l2.D) 1 l2.D.length rfl rfl rfl rfl rfl rfl rfl rfl rfl rfl (by have := check_r (c := c); have := rCheck_le6 (c := c); have := eq_of_bne_false h1; have := ne_of_beq_false h2; have := of_decide_eq_false h19; have := of_decide_eq_true h26; omega) (by have := check_r (c := c); have := rCheck_le6 (c := c); have := eq_of_bne_false h1; have := ne_of_beq_false h2; have := of_decide_eq_false h19; have := of_decide_eq_true h26; omega) (l2.D.drop 1) (by rw [List.take_of_length_le (by simp)]) ?_)
       refine rvP C (sS (some l2.nil) eMember (l2.D.drop 1)) ?_
       refine rvc_nil ?_
       refine ⟨_, (Sl.mk l2.nil (l2.D.drop 1)), ?_, ⟨rfl, (by rw [show ((Sl.mk l2.nil (l2.D.drop 1)).D.length) + 1 = l2.D.length by have := check_r (c := c); have := rCheck_le6 (c := c); have := eq_of_bne_false h1; have := ne_of_beq_false h2; have := of_decide_eq_false h19; have := of_decide_eq_true h26; first | omega | (simp only [List.length_drop]; omega)]; exact hR)⟩, ?_⟩
       · show (Sl.mk l2.nil (l2.D.drop 1)).D.length < l2.D.length; have := check_r (c := c); have := rCheck_le6 (c := c); have := eq_of_bne_false h1; have := ne_of_beq_false h2; have := of_decide_eq_false h19; have := of_decide_eq_true h26; first | omega | (simp only [List.length_drop]; omega)
       · exact ⟨fun b => b, WeakerR.ofL (Ks := [3, 6]) hI ⟨⟨rfl, rfl⟩, ⟨rfl, rfl⟩, ⟨rfl, rfl⟩, trivial⟩ (okH_cons rfl rfl rfl rfl (okH_cons rfl rfl rfl rfl (okH_nil))) rfl⟩
      ·
       replace hR := of_false h28 hR
       refine Awp.exit ?_
       refine Awp.seq ?_
       refine Awp.consP C ?_
       refine rvP C (sS (some l2.nil) eMember l2.D) ?_
       refine rvP C (.pv (.lit (.int .i64 (l2.D.length : Int)))) ?_
       refine rvP C (.ptr 3 1) ?_
       refine rvP C (sS (some c.members.nil) eMember c.members.D) ?_
       refine rvP C (.pv (.lit (.int .i64 (c.members.D.length : Int)))) ?_
       refine rvP C (.pv (.lit (.bool ((l2.D.length : Int) == (c.members.D.length : Int))))) ?_
       refine rvc_nil ?_
       refine Awp.cond (b := ((l2.D.length : Int) == (c.members.D.length : Int))) rfl (fun h29 => ?_) (fun h29 => ?_)
       ·
        replace hR := of_true h29 hR
        refine Awp.consP C ?_
        refine rvP C (.agg [.pv (.lit (.int .i64 0)), sS (some true) eMember []]) ?_
        refine rvc_un (rexec_prim C (δ := { v := .undef, wr := [(6, some (.cells [.pv (.lit (.int .i64 0)), sS (some true) eMember []]))] }) rfl rfl rfl rfl trivial rfl ?_)
        refine rvP C (.pv (.lit (.int .i64 81))) ?_
        refine rvc_nil ?_
        refine Awp.ret ?_
        subst hR
        exact ⟨.inl rfl, rfl⟩
       ·
        replace hR := of_false h29 hR
        refine Awp.skip ?_
        refine Awp.seq ?_
        refine Awp.consP C ?_
        refine rvP C (sS (some l2.nil) eMember l2.D) ?_
        refine rvP C (.pv (.lit (.int .i64 (l2.D.length : Int)))) ?_
        refine rvP C (.pv (.lit (.bool ((l2.D.length : Int) == 0)))) ?_
        refine rvc_nil ?_
        refine Awp.cond (b := ((l2.D.length : Int) == 0)) rfl (fun h30 => ?_) (fun h30 => ?_)
        ·
         replace hR := of_true h30 hR
         refine Awp.consP C ?_
         refine rvP C (.agg [.pv (.lit (.int .i64 0)), sS (some true) eMember []]) ?_
         refine rvc_un (rexec_prim C (δ := { v := .undef, wr := [(6, some (.cells [.pv (.lit (.int .i64 0)), sS (some true) eMember []]))] }) rfl rfl rfl rfl trivial rfl ?_)
         refine rvP C (.pv (.lit (.int .i64 83))) ?_
         refine rvc_nil ?_
         refine Awp.ret ?_
         subst hR
         exact ⟨.inl rfl, rfl⟩
        ·
         replace hR := of_false h30 hR
         refine Awp.skip ?_
         refine Awp.consP C ?_
         refine rvP C (.ptr 3 0) ?_
         refine rvP C (.pv (.lit (.int .i64 c.epoch))) ?_
         refine rvP C (.pv (.lit (.int .i64 (IntKind.i64.wrap (c.epoch + 1))))) ?_
         refine rvP C (.agg [.pv (.lit (.int .i64 (IntKind.i64.wrap (c.epoch + 1)))), sS (some true) eMember []]) ?_
         refine rvc_un (rexec_prim C (δ := { v := .ptr 11 0, new := [(11, .cells [.pv (.lit (.int .i64 0)), sS (some true) eMember []])] }) rfl rfl rfl rfl trivial rfl ?_)
         refine rvc_un (rexec_prim C (δ := { v := .undef, wr := [(11, some (.cells [.pv (.lit (.int .i64 (IntKind.i64.wrap (c.epoch + 1)))), sS (some true) eMember []]))] }) rfl rfl rfl rfl trivial rfl ?_)
         refine rvc_nil ?_
         refine Awp.consP C ?_
         refine rvP C (sS (some l2.nil) eMember l2.D) ?_
         refine rvP C (.ptr 11 1) ?_
         refine rvc_un (rexec_prim C (δ := { v := .undef, wr := [(11, some (.cells [.pv (.lit (.int .i64 (IntKind.i64.wrap (c.epoch + 1)))), sS (some l2.nil) eMember l2.D]))] }) rfl rfl rfl rfl trivial rfl ?_)
         refine rvc_nil ?_
         refine Awp.consP C ?_
         refine rvP C (.agg [.pv (.lit (.int .i64 (IntKind.i64.wrap (c.epoch + 1)))), sS (some l2.nil) eMember l2.D]) ?_
         refine rvc_un (rexec_prim C (δ := { v := .undef, wr := [(6, some (.cells [.pv (.lit (.int .i64 (IntKind.i64.wrap (c.epoch + 1)))), sS (some l2.nil) eMember l2.D]))] }) rfl rfl rfl rfl trivial rfl ?_)
         refine rvP C (.pv (.lit (.int .i64 0))) ?_
         refine rvc_nil ?_
         refine Awp.ret ?_
         subst hR
         exact ⟨.inl rfl, rfl⟩
     ·
      replace hR := of_false h26 hR
      refine rvS ?_
      refine rvS ?_
      refine rvS ?_
      refine rvS ?_
      refine rvP C (.pv (.lit (.bool false))) ?_
      refine rvc_nil ?_
      refine Awp.condF (b := false) rfl rfl ?_
      refine Awp.exit ?_
      refine Awp.seq ?_
      refine Awp.consP C ?_
      refine rvP C (sS (some l2.nil) eMember l2.D) ?_
      refine rvP C (.pv (.lit (.int .i64 (l2.D.length : Int)))) ?_
      refine rvP C (.ptr 3 1) ?_
      refine rvP C (sS (some c.members.nil) eMember c.members.D) ?_
      refine rvP C (.pv (.lit (.int .i64 (c.members.D.length : Int)))) ?_
      refine rvP C (.pv (.lit (.bool ((l2.D.length : Int) == (c.members.D.length : Int))))) ?_
      refine rvc_nil ?_
      refine Awp.cond (b := ((l2.D.length : Int) == (c.members.D.length : Int))) rfl (fun h31 => ?_) (fun h31 => ?_)
      ·
       replace hR := of_true h31 hR
       refine Awp.consP C ?_
       refine rvP C (.agg [.pv (.lit (.int .i64 0)), sS (some true) eMember []]) ?_
       refine rvc_un (rexec_prim C (δ := { v := .undef, wr := [(6, some (.cells [.pv (.lit (.int .i64 0)), sS (some true) eMember []]))] }) rfl rfl rfl rfl trivial rfl ?_)
       refine rvP C (.pv (.lit (.int .i64 81))) ?_
       refine rvc_nil ?_
       refine Awp.ret ?_
       subst hR
       exact ⟨.inl rfl, rfl⟩
      ·
       replace hR := of_false h31 hR
       refine Awp.skip ?_
       refine Awp.seq ?_
       refine Awp.consP C ?_
       refine rvP C (sS (some l2.nil) eMember l2.D) ?_
       refine rvP C (.pv (.lit (.int .i64 (l2.D.length : Int)))) ?_
       refine rvP C (.pv (.lit (.bool ((l2.D.length : Int) == 0)))) ?_
       refine rvc_nil ?_
       refine Awp.cond (b := ((l2.D.length : Int) == 0)) rfl (fun h32 => ?_) (fun h32 => ?_)
       ·
        replace hR := of_true h32 hR
        refine Awp.consP C ?_
        refine rvP C (.agg [.pv (.lit (.int .i64 0)), sS (some true) eMember []]) ?_
        refine rvc_un (rexec_prim C (δ := { v := .undef, wr := [(6, some (.cells [.pv (.lit (.int .i64 0)), sS (some true) eMember []]))] }) rfl rfl rfl rfl trivial rfl ?_)
        refine rvP C (.pv (.lit (.int .i64 83))) ?_
        refine rvc_nil ?_
        refine Awp.ret ?_
        subst hR
        exact ⟨.inl rfl, rfl⟩
       ·
        replace hR := of_false h32 hR
        refine Awp.skip ?_
        refine Awp.consP C ?_
        refine rvP C (.ptr 3 0) ?_
        refine rvP C (.pv (.lit (.int .i64 c.epoch))) ?_
        refine rvP C (.pv (.lit (.int .i64 (IntKind.i64.wrap (c.epoch + 1))))) ?_
        refine rvP C (.agg [.pv (.lit (.int .i64 (IntKind.i64.wrap (c.epoch + 1)))), sS (some true) eMember []]) ?_
        refine rvc_un (rexec_prim C (δ := { v := .ptr 11 0, new := [(11, .cells [.pv (.lit (.int .i64 0)), sS (some true) eMember []])] }) rfl rfl rfl rfl trivial rfl ?_)
        refine rvc_un (rexec_prim C (δ := { v := .undef, wr := [(11, some (.cells [.pv (.lit (.int .i64 (IntKind.i64.wrap (c.epoch + 1)))), sS (some true) eMember []]))] }) rfl rfl rfl rfl trivial rfl ?_)
        refine rvc_nil ?_
        refine Awp.consP C ?_
        refine rvP C (sS (some l2.nil) eMember l2.D) ?_
        refine rvP C (.ptr 11 1) ?_
        refine rvc_un (rexec_prim C (δ := { v := .undef, wr := [(11, some (.cells [.pv (.lit (.int .i64 (IntKind.i64.wrap (c.epoch + 1)))), sS (some l2.nil) eMember l2.D]))] }) rfl rfl rfl rfl trivial rfl ?_)
        refine rvc_nil ?_
        refine Awp.consP C ?_
        refine rvP C (.agg [.pv (.lit (.int .i64 (IntKind.i64.wrap (c.epoch + 1)))), sS (some l2.nil) eMember l2.D]) ?_
        refine rvc_un (rexec_prim C (δ := { v := .undef, wr := [(6, some (.cells [.pv (.lit (.int .i64 (IntKind.i64.wrap (c.epoch + 1)))), sS (some l2.nil) eMember l2.D]))] }) rfl rfl rfl rfl trivial rfl ?_)
        refine rvP C (.pv (.lit (.int .i64 0))) ?_
        refine rvc_nil ?_
        refine Awp.ret ?_
        subst hR
        exact ⟨.inl rfl, rfl⟩
def rJoin_l0 (c : Chain) (m : Member) : List Member → Nat → Bool → (List Member) → Chain × Int
  | [], _, put, vc => (bif (!put) then ((Chain.mk (IntKind.i64.wrap (c.epoch + 1)) (Sl.mk false (vc ++ [(Member.mk m.node m.site true)]))), 0) else ((Chain.mk (IntKind.i64.wrap (c.epoch + 1)) (Sl.mk vc.isEmpty vc)), 0))
  | x :: xs, i, put, vc => (bif (decide (x.site > m.site)) then (bif (!put) then rJoin_l0 c m xs (i + 1) true ((vc ++ [(Member.mk m.node m.site true)]) ++ [x]) else rJoin_l0 c m xs (i + 1) put (vc ++ [x])) else rJoin_l0 c m xs (i + 1) put (vc ++ [x]))
def rJoin (c : Chain) (m : Member) : Chain × Int :=
  (bif ((rCheck c) != 0) then ((Chain.mk 0 (Sl.mk true [])), 80) else (bif (decide (m.node < 0)) then ((Chain.mk 0 (Sl.mk true [])), 81) else (bif (decide (m.node > 5)) then ((Chain.mk 0 (Sl.mk true [])), 81) else (bif (decide (m.site < 0)) then ((Chain.mk 0 (Sl.mk true [])), 81) else (bif (decide (m.site > 2)) then ((Chain.mk 0 (Sl.mk true [])), 81) else (bif (decide ((rPlace c m.node) ≥ 0)) then ((Chain.mk 0 (Sl.mk true [])), 82) else (bif (c.epoch == 1099511627776) then ((Chain.mk 0 (Sl.mk true [])), 5) else (bif (decide ((c.members.D[0]!.site) > m.site)) then ((Chain.mk 0 (Sl.mk true [])), 152) else rJoin_l0 c m c.members.D 0 false []))))))))
theorem rJoin_calls (c : Chain) (m : Member) (hl1 : c.members.D.length ≤ 1000000) : PCalls Try.prog 72 [.agg [.pv (.lit (.int .i64 c.epoch)), sS (some c.members.nil) eMember c.members.D], .agg [.pv (.lit (.int .i64 m.node)), .pv (.lit (.int .i64 m.site)), .pv (.lit (.bool m.fresh))]] (.tup [.agg [.pv (.lit (.int .i64 ((rJoin c m).1.epoch))), sS (some (rJoin c m).1.members.nil) eMember ((rJoin c m).1.members.D)], .pv (.lit (.int .i64 ((rJoin c m).2)))]) := by
 generalize hR : rJoin c m = R
 refine PCalls.of_body tabOk Try.func72 rfl rfl rfl rfl rfl mixed fun E hP C hI => ?_
 refine Awp.consP C ?_
 refine rvc_un (rexec_prim C (δ := { v := .ptr 2 0, new := [(2, .cells [.pv (.lit (.int .i64 c.epoch)), sS (some c.members.nil) eMember c.members.D])] }) rfl rfl rfl rfl trivial rfl ?_)
 refine rvc_un (rexec_prim C (δ := { v := .ptr 3 0, new := [(3, .cells [.pv (.lit (.int .i64 m.node)), .pv (.lit (.int .i64 m.site)), .pv (.lit (.bool m.fresh))])] }) rfl rfl rfl rfl trivial rfl ?_)
 refine rvc_un (rexec_prim C (δ := { v := .ptr 4 0, new := [(4, .cells [.pv (.lit (.int .i64 0)), sS (some true) eMember []])] }) rfl rfl rfl rfl trivial rfl ?_)
 refine rvP C (.pv (.lit (.int .i64 0))) ?_
 refine rvc_nil ?_
 refine Awp.seq ?_
 refine Awp.consP C ?_
 refine rvP C (.agg [.pv (.lit (.int .i64 c.epoch)), sS (some c.members.nil) eMember c.members.D]) ?_
 refine rvc_un (rexec_call hP C rfl rfl rfl (rCheck_calls c (Nat.le_trans hl1 (by decide))) ?_)
 refine rvP C (.pv (.lit (.bool ((rCheck c) != 0)))) ?_
 refine rvc_nil ?_
 refine Awp.cond (b := ((rCheck c) != 0)) rfl (fun h1 => ?_) (fun h1 => ?_)
 ·
  replace hR := of_true h1 hR
  refine Awp.consP C ?_
  refine rvP C (.agg [.pv (.lit (.int .i64 0)), sS (some true) eMember []]) ?_
  refine rvc_un (rexec_prim C (δ := { v := .undef, wr := [(4, some (.cells [.pv (.lit (.int .i64 0)), sS (some true) eMember []]))] }) rfl rfl rfl rfl trivial rfl ?_)
  refine rvP C (.pv (.lit (.int .i64 80))) ?_
  refine rvc_nil ?_
  refine Awp.ret ?_
  subst hR
  exact ⟨.inl rfl, rfl⟩
 ·
  replace hR := of_false h1 hR
  refine Awp.skip ?_
  refine Awp.seq ?_
  refine Awp.consP C ?_
  refine rvP C (.ptr 3 0) ?_
  refine rvP C (.pv (.lit (.int .i64 m.node))) ?_
  refine rvP C (.pv (.lit (.bool (decide (m.node < 0))))) ?_
  refine rvP C (.pv (.lit (.bool (decide (m.node < 0))))) ?_
  refine rvc_case 17 (decide (m.node < 0)) rfl (fun h2 => ?_) (fun h2 => ?_)
  ·
   replace hR := of_true h2 hR
   refine rvS ?_
   refine rvS ?_
   refine rvS ?_
   refine rvP C (.pv (.lit (.bool true))) ?_
   refine rvP C (.pv (.lit (.bool true))) ?_
   refine rvS ?_
   refine rvS ?_
   refine rvS ?_
   refine rvP C (.pv (.lit (.bool true))) ?_
   refine rvP C (.pv (.lit (.bool true))) ?_
   refine rvS ?_
   refine rvS ?_
   refine rvS ?_
   refine rvP C (.pv (.lit (.bool true))) ?_
   refine rvc_nil ?_
   refine Awp.condT (b := true) rfl rfl ?_
   refine Awp.consP C ?_
   refine rvP C (.agg [.pv (.lit (.int .i64 0)), sS (some true) eMember []]) ?_
   refine rvc_un (rexec_prim C (δ := { v := .undef, wr := [(4, some (.cells [.pv (.lit (.int .i64 0)), sS (some true) eMember []]))] }) rfl rfl rfl rfl trivial rfl ?_)
   refine rvP C (.pv (.lit (.int .i64 81))) ?_
   refine rvc_nil ?_
   refine Awp.ret ?_
   subst hR
   exact ⟨.inl rfl, rfl⟩
  ·
   replace hR := of_false h2 hR
   refine rvO C (.ptr 3 0) ?_
   refine rvO C (.pv (.lit (.int .i64 m.node))) ?_
   refine rvO C (.pv (.lit (.bool (decide (m.node > 5))))) ?_
   refine rvP C (.pv (.lit (.bool (decide (m.node > 5))))) ?_
   refine rvP C (.pv (.lit (.bool (decide (m.node > 5))))) ?_
   refine rvc_case 22 (decide (m.node > 5)) rfl (fun h3 => ?_) (fun h3 => ?_)
   ·
    replace hR := of_true h3 hR
    refine rvS ?_
    refine rvS ?_
    refine rvS ?_
    refine rvP C (.pv (.lit (.bool true))) ?_
    refine rvP C (.pv (.lit (.bool true))) ?_
    refine rvS ?_
    refine rvS ?_
    refine rvS ?_
    refine rvP C (.pv (.lit (.bool true))) ?_
    refine rvc_nil ?_
    refine Awp.condT (b := true) rfl rfl ?_
    refine Awp.consP C ?_
    refine rvP C (.agg [.pv (.lit (.int .i64 0)), sS (some true) eMember []]) ?_
    refine rvc_un (rexec_prim C (δ := { v := .undef, wr := [(4, some (.cells [.pv (.lit (.int .i64 0)), sS (some true) eMember []]))] }) rfl rfl rfl rfl trivial rfl ?_)
    refine rvP C (.pv (.lit (.int .i64 81))) ?_
    refine rvc_nil ?_
    refine Awp.ret ?_
    subst hR
    exact ⟨.inl rfl, rfl⟩
   ·
    replace hR := of_false h3 hR
    refine rvO C (.ptr 3 1) ?_
    refine rvO C (.pv (.lit (.int .i64 m.site))) ?_
    refine rvO C (.pv (.lit (.bool (decide (m.site < 0))))) ?_
    refine rvP C (.pv (.lit (.bool (decide (m.site < 0))))) ?_
    refine rvP C (.pv (.lit (.bool (decide (m.site < 0))))) ?_
    refine rvc_case 27 (decide (m.site < 0)) rfl (fun h4 => ?_) (fun h4 => ?_)
    ·
     replace hR := of_true h4 hR
     refine rvS ?_
     refine rvS ?_
     refine rvS ?_
     refine rvP C (.pv (.lit (.bool true))) ?_
     refine rvc_nil ?_
     refine Awp.condT (b := true) rfl rfl ?_
     refine Awp.consP C ?_
     refine rvP C (.agg [.pv (.lit (.int .i64 0)), sS (some true) eMember []]) ?_
     refine rvc_un (rexec_prim C (δ := { v := .undef, wr := [(4, some (.cells [.pv (.lit (.int .i64 0)), sS (some true) eMember []]))] }) rfl rfl rfl rfl trivial rfl ?_)
     refine rvP C (.pv (.lit (.int .i64 81))) ?_
     refine rvc_nil ?_
     refine Awp.ret ?_
     subst hR
     exact ⟨.inl rfl, rfl⟩
    ·
     replace hR := of_false h4 hR
     refine rvO C (.ptr 3 1) ?_
     refine rvO C (.pv (.lit (.int .i64 m.site))) ?_
     refine rvO C (.pv (.lit (.bool (decide (m.site > 2))))) ?_
     refine rvP C (.pv (.lit (.bool (decide (m.site > 2))))) ?_
     refine rvc_nil ?_
     refine Awp.cond (b := (decide (m.site > 2))) rfl (fun h5 => ?_) (fun h5 => ?_)
     ·
      replace hR := of_true h5 hR
      refine Awp.consP C ?_
      refine rvP C (.agg [.pv (.lit (.int .i64 0)), sS (some true) eMember []]) ?_
      refine rvc_un (rexec_prim C (δ := { v := .undef, wr := [(4, some (.cells [.pv (.lit (.int .i64 0)), sS (some true) eMember []]))] }) rfl rfl rfl rfl trivial rfl ?_)
      refine rvP C (.pv (.lit (.int .i64 81))) ?_
      refine rvc_nil ?_
      refine Awp.ret ?_
      subst hR
      exact ⟨.inl rfl, rfl⟩
     ·
      replace hR := of_false h5 hR
      refine Awp.skip ?_
      refine Awp.seq ?_
      refine Awp.consP C ?_
      refine rvP C (.agg [.pv (.lit (.int .i64 c.epoch)), sS (some c.members.nil) eMember c.members.D]) ?_
      refine rvP C (.ptr 3 0) ?_
      refine rvP C (.pv (.lit (.int .i64 m.node))) ?_
      refine rvc_un (rexec_call hP C rfl rfl rfl (rPlace_calls c m.node (Nat.le_trans hl1 (by decide))) ?_)
      refine rvP C (.pv (.lit (.bool (decide ((rPlace c m.node) ≥ 0))))) ?_
      refine rvc_nil ?_
      refine Awp.cond (b := (decide ((rPlace c m.node) ≥ 0))) rfl (fun h6 => ?_) (fun h6 => ?_)
      ·
       replace hR := of_true h6 hR
       refine Awp.consP C ?_
       refine rvP C (.agg [.pv (.lit (.int .i64 0)), sS (some true) eMember []]) ?_
       refine rvc_un (rexec_prim C (δ := { v := .undef, wr := [(4, some (.cells [.pv (.lit (.int .i64 0)), sS (some true) eMember []]))] }) rfl rfl rfl rfl trivial rfl ?_)
       refine rvP C (.pv (.lit (.int .i64 82))) ?_
       refine rvc_nil ?_
       refine Awp.ret ?_
       subst hR
       exact ⟨.inl rfl, rfl⟩
      ·
       replace hR := of_false h6 hR
       refine Awp.skip ?_
       refine Awp.seq ?_
       refine Awp.consP C ?_
       refine rvP C (.ptr 2 0) ?_
       refine rvP C (.pv (.lit (.int .i64 c.epoch))) ?_
       refine rvP C (.pv (.lit (.bool (c.epoch == 1099511627776)))) ?_
       refine rvc_nil ?_
       refine Awp.cond (b := (c.epoch == 1099511627776)) rfl (fun h7 => ?_) (fun h7 => ?_)
       ·
        replace hR := of_true h7 hR
        refine Awp.consP C ?_
        refine rvP C (.agg [.pv (.lit (.int .i64 0)), sS (some true) eMember []]) ?_
        refine rvc_un (rexec_prim C (δ := { v := .undef, wr := [(4, some (.cells [.pv (.lit (.int .i64 0)), sS (some true) eMember []]))] }) rfl rfl rfl rfl trivial rfl ?_)
        refine rvP C (.pv (.lit (.int .i64 5))) ?_
        refine rvc_nil ?_
        refine Awp.ret ?_
        subst hR
        exact ⟨.inl rfl, rfl⟩
       ·
        replace hR := of_false h7 hR
        refine Awp.skip ?_
        refine Awp.seq ?_
        refine Awp.consP C ?_
        refine rvP C (.ptr 2 1) ?_
        refine rvP C (sS (some c.members.nil) eMember c.members.D) ?_
        have h8 : c.members.D[0]? = some c.members.D[0]! := getE (by have := check_r (c := c); have := rCheck_le6 (c := c); have := rPlace_lt c m.node; have := eq_of_bne_false h1; have := of_decide_eq_false h2; have := of_decide_eq_false h3; have := of_decide_eq_false h4; have := of_decide_eq_false h5; have := of_decide_eq_false h6; have := ne_of_beq_false h7; omega)
        refine rvc_un (rexec_idxS C rfl rfl rfl rfl rfl rfl (c.members.D[0]!) (Int.natCast_nonneg _) h8 ?_)
        refine rvP C (.rp [.lit (.int .i64 (c.members.D[0]!.site))]) ?_
        refine rvP C (.pv (.lit (.int .i64 (c.members.D[0]!.site)))) ?_
        refine rvP C (.ptr 3 1) ?_
        refine rvP C (.pv (.lit (.int .i64 m.site))) ?_
        refine rvP C (.pv (.lit (.bool (decide ((c.members.D[0]!.site) > m.site))))) ?_
        refine rvc_nil ?_
        refine Awp.cond (b := (decide ((c.members.D[0]!.site) > m.site))) rfl (fun h9 => ?_) (fun h9 => ?_)
        ·
         replace hR := of_true h9 hR
         refine Awp.consP C ?_
         refine rvP C (.agg [.pv (.lit (.int .i64 0)), sS (some true) eMember []]) ?_
         refine rvc_un (rexec_prim C (δ := { v := .undef, wr := [(4, some (.cells [.pv (.lit (.int .i64 0)), sS (some true) eMember []]))] }) rfl rfl rfl rfl trivial rfl ?_)
         refine rvP C (.pv (.lit (.int .i64 152))) ?_
         refine rvc_nil ?_
         refine Awp.ret ?_
         subst hR
         exact ⟨.inl rfl, rfl⟩
        ·
         replace hR := of_false h9 hR
         refine Awp.skip ?_
         refine Awp.consP C ?_
         refine rvP C (.ptr 2 0) ?_
         refine rvP C (.pv (.lit (.int .i64 c.epoch))) ?_
         refine rvP C (.pv (.lit (.int .i64 (IntKind.i64.wrap (c.epoch + 1))))) ?_
         refine rvP C (.agg [.pv (.lit (.int .i64 (IntKind.i64.wrap (c.epoch + 1)))), sS (some true) eMember []]) ?_
         refine rvc_un (rexec_prim C (δ := { v := .ptr 6 0, new := [(6, .cells [.pv (.lit (.int .i64 0)), sS (some true) eMember []])] }) rfl rfl rfl rfl trivial rfl ?_)
         refine rvc_un (rexec_prim C (δ := { v := .undef, wr := [(6, some (.cells [.pv (.lit (.int .i64 (IntKind.i64.wrap (c.epoch + 1)))), sS (some true) eMember []]))] }) rfl rfl rfl rfl trivial rfl ?_)
         refine rvc_nil ?_
         refine Awp.consP C ?_
         refine rvP C (.pv (.lit (.bool false))) ?_
         refine rvc_nil ?_
         refine Awp.seq ?_
         refine Awp.consP C ?_
         refine rvP C (.ptr 2 1) ?_
         refine rvP C (sS (some c.members.nil) eMember c.members.D) ?_
         refine rvP C (.pv (.lit (.int .i64 (c.members.D.length : Int)))) ?_
         refine rvP C (.pv (.lit (.int .i64 0))) ?_
         refine rvc_nil ?_
         refine Awp.block ?_
         refine Awp.forR (σ := Bool × ((List Member))) (c.members.D.length) (fun i v => [(3, .ptr 3 0), (4, .ptr 4 0), (6, .ptr 6 0), (7, .pv (.lit (.bool v.1))), (57, sS (some c.members.nil) eMember c.members.D), (58, .pv (.lit (.int .i64 (c.members.D.length : Int)))), (59, .pv (.lit (.int .i64 (i : Int))))]) (fun i v => (growH 900 eMember v.2 ++ ([(3, .cells [.pv (.lit (.int .i64 m.node)), .pv (.lit (.int .i64 m.site)), .pv (.lit (.bool m.fresh))]), (4, .cells [.pv (.lit (.int .i64 0)), sS (some true) eMember []]), (6, .cells [.pv (.lit (.int .i64 (IntKind.i64.wrap (c.epoch + 1)))), grow 900 eMember v.2])]))) [3, 4, 6, 900] (fun i v => (rJoin_l0 c m (c.members.D.drop i) i v.1 v.2 = R) ∧ (v.2.length ≤ 2 * i)) (false, []) ?_ ?_ (fun i v h10 hR => ?_)
         · exact ⟨hR, (by first | omega | (simp <;> omega))⟩
         · exact ⟨fun b => b, WeakerR.ofL (Ks := [3, 4, 6, 900]) hI ⟨⟨rfl, rfl⟩, ⟨rfl, rfl⟩, ⟨rfl, rfl⟩, ⟨rfl, rfl⟩, ⟨rfl, rfl⟩, ⟨rfl, rfl⟩, ⟨rfl, rfl⟩, trivial⟩ (okH_grow (fun hne => absurd rfl hne) rfl rfl (okH_cons rfl rfl rfl rfl (okH_cons rfl rfl rfl rfl (okH_cons (cellsTo rfl (by exact ⟨rfl, grow_to_nil rfl rfl (.inl rfl), trivial⟩)) rfl rfl (win_cells (by exact ⟨rfl, grow_within rfl, trivial⟩)) (okH_nil))))) rfl⟩
         obtain ⟨put, vc⟩ := v
         obtain ⟨hR, hi_vc⟩ := hR
         replace hi_vc : vc.length ≤ 2 * i := hi_vc
         by_cases h11 : vc = []
         ·
          refine Awp.wordsR [(3, .ptr 3 0), (4, .ptr 4 0), (6, .ptr 6 0), (7, .pv (.lit (.bool put))), (57, sS (some c.members.nil) eMember c.members.D), (58, .pv (.lit (.int .i64 (c.members.D.length : Int)))), (59, .pv (.lit (.int .i64 (i : Int))))] [(3, .cells [.pv (.lit (.int .i64 m.node)), .pv (.lit (.int .i64 m.site)), .pv (.lit (.bool m.fresh))]), (4, .cells [.pv (.lit (.int .i64 0)), sS (some true) eMember []]), (6, .cells [.pv (.lit (.int .i64 (IntKind.i64.wrap (c.epoch + 1)))), sS (some vc.isEmpty) eMember vc])] [3, 4, 6] (WeakerR.ofL (Ks := [3, 4, 6]) hI ⟨⟨rfl, rfl⟩, ⟨rfl, rfl⟩, ⟨rfl, rfl⟩, ⟨rfl, rfl⟩, ⟨rfl, rfl⟩, ⟨rfl, rfl⟩, ⟨rfl, rfl⟩, trivial⟩ (okH_cons (look_nil h11 rfl) rfl rfl rfl (okH_cons (look_nil h11 rfl) rfl rfl rfl (okH_cons (cellsTo (look_nil h11 rfl) (by exact ⟨rfl, (by exact grow_at_nil (b := 900) (e := eMember) (l := vc) rfl h11), trivial⟩)) rfl rfl (win_cells (by exact ⟨rfl, rfl, trivial⟩)) (okH_nil)))) rfl) ?_
          refine Awp.consP C ?_
          refine rvP C (.pv (.lit (.bool (decide ((i : Int) < (c.members.D.length : Int)))))) ?_
          refine rvc_nil ?_
          refine Awp.seq ?_
          refine Awp.cond (b := (decide ((i : Int) < (c.members.D.length : Int)))) rfl (fun h12 => ?_) (fun h12 => ?_)
          ·
           have h13 : i < c.members.D.length := by have := of_decide_eq_true h12; omega
           obtain ⟨x, h14⟩ := getX h13
           rw [drop_at h14] at hR
           refine Awp.skip ?_
           refine Awp.seq ?_
           refine Awp.block ?_
           refine Awp.consP C ?_
           refine rvc_un (rexec_idxS C rfl rfl rfl rfl rfl rfl x (Int.natCast_nonneg _) h14 ?_)
           refine rvP C (.agg [.pv (.lit (.int .i64 x.node)), .pv (.lit (.int .i64 x.site)), .pv (.lit (.bool x.fresh))]) ?_
           refine rvc_un (rexec_prim C (δ := { v := .ptr 9 0, new := [(9, .cells [.pv (.lit (.int .i64 0)), .pv (.lit (.int .i64 0)), .pv (.lit (.bool false))])] }) rfl rfl rfl rfl trivial rfl ?_)
           refine rvc_un (rexec_prim C (δ := { v := .undef, wr := [(9, some (.cells [.pv (.lit (.int .i64 x.node)), .pv (.lit (.int .i64 x.site)), .pv (.lit (.bool x.fresh))]))] }) rfl rfl rfl rfl trivial rfl ?_)
           refine rvc_nil ?_
           refine Awp.seq ?_
           refine Awp.consP C ?_
           refine rvP C (.ptr 9 1) ?_
           refine rvP C (.pv (.lit (.int .i64 x.site))) ?_
           refine rvP C (.ptr 3 1) ?_
           refine rvP C (.pv (.lit (.int .i64 m.site))) ?_
           refine rvP C (.pv (.lit (.bool (decide (x.site > m.site))))) ?_
           refine rvP C (.pv (.lit (.bool (decide (x.site > m.site))))) ?_
           refine rvc_case 68 (decide (x.site > m.site)) rfl (fun h15 => ?_) (fun h15 => ?_)
           ·
            replace hR := of_true h15 hR
            refine rvO C (.pv (.lit (.bool put))) ?_
            refine rvO C (.pv (.lit (.bool (!put)))) ?_
            refine rvP C (.pv (.lit (.bool (!put)))) ?_
            refine rvc_nil ?_
            refine Awp.cond (b := (!put)) rfl (fun h16 => ?_) (fun h16 => ?_)
            ·
             replace hR := of_true h16 hR
             refine Awp.consP C ?_
             refine rvP C (.ptr 6 1) ?_
             refine rvP C (sS (some vc.isEmpty) eMember vc) ?_
             refine rvP C (.ptr 3 0) ?_
             refine rvP C (.pv (.lit (.int .i64 m.node))) ?_
             refine rvP C (.ptr 3 1) ?_
             refine rvP C (.pv (.lit (.int .i64 m.site))) ?_
             refine rvP C (.agg [.pv (.lit (.int .i64 m.node)), .pv (.lit (.int .i64 m.site)), .pv (.lit (.bool true))]) ?_
             refine rvc_un (rexec_buildSliceF C eMember [(Member.mk m.node m.site true)] rfl rfl rfl rfl rfl rfl rfl (by decide) rfl ?_)
             refine rvc_un (rexec_appendG C rfl rfl rfl rfl rfl rfl rfl rfl (fun _ h => by cases h) rfl (en := eMember) (l := vc) (D := [(Member.mk m.node m.site true)]) rfl rfl h11 (by rw [h11]; rfl) (by simp) (by have := check_r (c := c); have := rCheck_le6 (c := c); have := rPlace_lt c m.node; have := eq_of_bne_false h1; have := of_decide_eq_false h2; have := of_decide_eq_false h3; have := of_decide_eq_false h4; have := of_decide_eq_false h5; have := of_decide_eq_false h6; have := ne_of_beq_false h7; have := of_decide_eq_false h9; have := of_decide_eq_true h12; have := of_decide_eq_true h15; first | omega | (simp <;> omega)) (by decide) (nn := (vc ++ [(Member.mk m.node m.site true)]).length) (by simp) ?_)
             refine rvP C (.ptr 6 1) ?_
             refine rvc_un (rexec_prim C (δ := { v := .undef, wr := [(6, some (.cells [.pv (.lit (.int .i64 (IntKind.i64.wrap (c.epoch + 1)))), .sl 80 0 ((vc ++ [(Member.mk m.node m.site true)]).length) 3 false]))] }) rfl rfl rfl rfl trivial rfl ?_)
             refine rvc_nil ?_
             refine Awp.regionP C ?_
             refine rvP C (.pv (.lit (.bool true))) ?_
             refine rvc_nil ?_
             refine Awp.regionP C ?_
             refine rvP C (.ptr 6 1) ?_
             refine rvP C (.sl 80 0 ((vc ++ [(Member.mk m.node m.site true)]).length) 3 false) ?_
             refine rvP C (.agg [.pv (.lit (.int .i64 x.node)), .pv (.lit (.int .i64 x.site)), .pv (.lit (.bool x.fresh))]) ?_
             refine rvc_un (rexec_buildSliceF C eMember [x] rfl rfl rfl rfl rfl rfl rfl (by decide) rfl ?_)
             refine rvc_un (rexec_append C rfl rfl rfl rfl rfl rfl rfl rfl (fun _ h => by cases h) rfl (en := eMember) (D0 := (vc ++ [(Member.mk m.node m.site true)])) (D := [x]) rfl rfl rfl rfl (by have := check_r (c := c); have := rCheck_le6 (c := c); have := rPlace_lt c m.node; have := eq_of_bne_false h1; have := of_decide_eq_false h2; have := of_decide_eq_false h3; have := of_decide_eq_false h4; have := of_decide_eq_false h5; have := of_decide_eq_false h6; have := ne_of_beq_false h7; have := of_decide_eq_false h9; have := of_decide_eq_true h12; have := of_decide_eq_true h15; first | omega | (simp <;> omega)) (by decide) (nn := ((vc ++ [(Member.mk m.node m.site true)]) ++ [x]).length) (by simp) ?_)
             refine rvP C (.ptr 6 1) ?_
             refine rvc_un (rexec_prim C (δ := { v := .undef, wr := [(6, some (.cells [.pv (.lit (.int .i64 (IntKind.i64.wrap (c.epoch + 1)))), .sl 86 0 (((vc ++ [(Member.mk m.node m.site true)]) ++ [x]).length) 3 false]))] }) rfl rfl rfl rfl trivial rfl ?_)
             refine rvc_nil ?_
             refine Awp.regionP C ?_
             refine rvP C (.pv (.lit (.int .i64 (IntKind.i64.wrap ((i : Int) + 1))))) ?_
             refine rvP C (.pv (.lit (.int .i64 (IntKind.i64.wrap ((i : Int) + 1))))) ?_
             refine rvc_nil ?_
             refine ⟨h13, (true, ((vc ++ [(Member.mk m.node m.site true)]) ++ [x])), ?_, ?_⟩
             · exact ⟨hR, (by first | omega | (simp <;> omega))⟩
             · exact ⟨fun b => bif b == 900 then 86 else (fun b => b) b, WeakerR.ofL (Ks := [3, 4, 6, 900]) hI ⟨⟨rfl, rfl⟩, ⟨rfl, rfl⟩, ⟨rfl, rfl⟩, ⟨rfl, rfl⟩, ⟨rfl, rfl⟩, ⟨rfl, rfl⟩, ⟨lit_cast (wrap_i64 (by omega) (by omega)), rfl⟩, trivial⟩ (okH_grow (fun _ => rfl) rfl rfl (okH_cons rfl rfl rfl rfl (okH_cons rfl rfl rfl rfl (okH_cons (cellsTo rfl (by exact ⟨rfl, grow_to rfl rfl app_ne rfl rfl, trivial⟩)) rfl rfl (win_cells (by exact ⟨rfl, grow_within rfl, trivial⟩)) (okH_nil))))) rfl⟩
            ·
             replace hR := of_false h16 hR
             refine Awp.skip ?_
             refine Awp.regionP C ?_
             refine rvP C (.ptr 6 1) ?_
             refine rvP C (sS (some vc.isEmpty) eMember vc) ?_
             refine rvP C (.agg [.pv (.lit (.int .i64 x.node)), .pv (.lit (.int .i64 x.site)), .pv (.lit (.bool x.fresh))]) ?_
             refine rvc_un (rexec_buildSliceF C eMember [x] rfl rfl rfl rfl rfl rfl rfl (by decide) rfl ?_)
             refine rvc_un (rexec_appendG C rfl rfl rfl rfl rfl rfl rfl rfl (fun _ h => by cases h) rfl (en := eMember) (l := vc) (D := [x]) rfl rfl h11 (by rw [h11]; rfl) (by simp) (by have := check_r (c := c); have := rCheck_le6 (c := c); have := rPlace_lt c m.node; have := eq_of_bne_false h1; have := of_decide_eq_false h2; have := of_decide_eq_false h3; have := of_decide_eq_false h4; have := of_decide_eq_false h5; have := of_decide_eq_false h6; have := ne_of_beq_false h7; have := of_decide_eq_false h9; have := of_decide_eq_true h12; have := of_decide_eq_true h15; first | omega | (simp <;> omega)) (by decide) (nn := (vc ++ [x]).length) (by simp) ?_)
             refine rvP C (.ptr 6 1) ?_
             refine rvc_un (rexec_prim C (δ := { v := .undef, wr := [(6, some (.cells [.pv (.lit (.int .i64 (IntKind.i64.wrap (c.epoch + 1)))), .sl 86 0 ((vc ++ [x]).length) 3 false]))] }) rfl rfl rfl rfl trivial rfl ?_)
             refine rvc_nil ?_
             refine Awp.regionP C ?_
             refine rvP C (.pv (.lit (.int .i64 (IntKind.i64.wrap ((i : Int) + 1))))) ?_
             refine rvP C (.pv (.lit (.int .i64 (IntKind.i64.wrap ((i : Int) + 1))))) ?_
             refine rvc_nil ?_
             refine ⟨h13, (put, (vc ++ [x])), ?_, ?_⟩
             · exact ⟨hR, (by first | omega | (simp <;> omega))⟩
             · exact ⟨fun b => bif b == 900 then 86 else (fun b => b) b, WeakerR.ofL (Ks := [3, 4, 6, 900]) hI ⟨⟨rfl, rfl⟩, ⟨rfl, rfl⟩, ⟨rfl, rfl⟩, ⟨rfl, rfl⟩, ⟨rfl, rfl⟩, ⟨rfl, rfl⟩, ⟨lit_cast (wrap_i64 (by omega) (by omega)), rfl⟩, trivial⟩ (okH_grow (fun _ => rfl) rfl rfl (okH_cons rfl rfl rfl rfl (okH_cons rfl rfl rfl rfl (okH_cons (cellsTo rfl (by exact ⟨rfl, grow_to rfl rfl app_ne rfl rfl, trivial⟩)) rfl rfl (win_cells (by exact ⟨rfl, grow_within rfl, trivial⟩)) (okH_nil))))) rfl⟩
           ·
            replace hR := of_false h15 hR
            refine rvS ?_
            refine rvS ?_
            refine rvP C (.pv (.lit (.bool false))) ?_
            refine rvc_nil ?_
            refine Awp.condF (b := false) rfl rfl ?_
            refine Awp.skip ?_
            refine Awp.regionP C ?_
            refine rvP C (.ptr 6 1) ?_
            refine rvP C (sS (some vc.isEmpty) eMember vc) ?_
            refine rvP C (.agg [.pv (.lit (.int .i64 x.node)), .pv (.lit (.int .i64 x.site)), .pv (.lit (.bool x.fresh))]) ?_
            refine rvc_un (rexec_buildSliceF C eMember [x] rfl rfl rfl rfl rfl rfl rfl (by decide) rfl ?_)
            refine rvc_un (rexec_appendG C rfl rfl rfl rfl rfl rfl rfl rfl (fun _ h => by cases h) rfl (en := eMember) (l := vc) (D := [x]) rfl rfl h11 (by rw [h11]; rfl) (by simp) (by have := check_r (c := c); have := rCheck_le6 (c := c); have := rPlace_lt c m.node; have := eq_of_bne_false h1; have := of_decide_eq_false h2; have := of_decide_eq_false h3; have := of_decide_eq_false h4; have := of_decide_eq_false h5; have := of_decide_eq_false h6; have := ne_of_beq_false h7; have := of_decide_eq_false h9; have := of_decide_eq_true h12; have := of_decide_eq_false h15; first | omega | (simp <;> omega)) (by decide) (nn := (vc ++ [x]).length) (by simp) ?_)
            refine rvP C (.ptr 6 1) ?_
            refine rvc_un (rexec_prim C (δ := { v := .undef, wr := [(6, some (.cells [.pv (.lit (.int .i64 (IntKind.i64.wrap (c.epoch + 1)))), .sl 86 0 ((vc ++ [x]).length) 3 false]))] }) rfl rfl rfl rfl trivial rfl ?_)
            refine rvc_nil ?_
            refine Awp.regionP C ?_
            refine rvP C (.pv (.lit (.int .i64 (IntKind.i64.wrap ((i : Int) + 1))))) ?_
            refine rvP C (.pv (.lit (.int .i64 (IntKind.i64.wrap ((i : Int) + 1))))) ?_
            refine rvc_nil ?_
            refine ⟨h13, (put, (vc ++ [x])), ?_, ?_⟩
            · exact ⟨hR, (by first | omega | (simp <;> omega))⟩
            · exact ⟨fun b => bif b == 900 then 86 else (fun b => b) b, WeakerR.ofL (Ks := [3, 4, 6, 900]) hI ⟨⟨rfl, rfl⟩, ⟨rfl, rfl⟩, ⟨rfl, rfl⟩, ⟨rfl, rfl⟩, ⟨rfl, rfl⟩, ⟨rfl, rfl⟩, ⟨lit_cast (wrap_i64 (by omega) (by omega)), rfl⟩, trivial⟩ (okH_grow (fun _ => rfl) rfl rfl (okH_cons rfl rfl rfl rfl (okH_cons rfl rfl rfl rfl (okH_cons (cellsTo rfl (by exact ⟨rfl, grow_to rfl rfl app_ne rfl rfl, trivial⟩)) rfl rfl (win_cells (by exact ⟨rfl, grow_within rfl, trivial⟩)) (okH_nil))))) rfl⟩
          ·
           have h13 : ¬ i < c.members.D.length := by have := of_decide_eq_false h12; omega
           rw [drop_end h13] at hR
           refine Awp.exit ?_
           refine Awp.seq ?_
           refine Awp.consP C ?_
           refine rvP C (.pv (.lit (.bool put))) ?_
           refine rvP C (.pv (.lit (.bool (!put)))) ?_
           refine rvc_nil ?_
           refine Awp.cond (b := (!put)) rfl (fun h17 => ?_) (fun h17 => ?_)
           ·
            replace hR := of_true h17 hR
            refine Awp.regionP C ?_
            refine rvP C (.ptr 6 1) ?_
            refine rvP C (sS (some vc.isEmpty) eMember vc) ?_
            refine rvP C (.ptr 3 0) ?_
            refine rvP C (.pv (.lit (.int .i64 m.node))) ?_
            refine rvP C (.ptr 3 1) ?_
            refine rvP C (.pv (.lit (.int .i64 m.site))) ?_
            refine rvP C (.agg [.pv (.lit (.int .i64 m.node)), .pv (.lit (.int .i64 m.site)), .pv (.lit (.bool true))]) ?_
            refine rvc_un (rexec_buildSliceF C eMember [(Member.mk m.node m.site true)] rfl rfl rfl rfl rfl rfl rfl (by decide) rfl ?_)
            refine rvc_un (rexec_appendG C rfl rfl rfl rfl rfl rfl rfl rfl (fun _ h => by cases h) rfl (en := eMember) (l := vc) (D := [(Member.mk m.node m.site true)]) rfl rfl h11 (by rw [h11]; rfl) (by simp) (by have := check_r (c := c); have := rCheck_le6 (c := c); have := rPlace_lt c m.node; have := eq_of_bne_false h1; have := of_decide_eq_false h2; have := of_decide_eq_false h3; have := of_decide_eq_false h4; have := of_decide_eq_false h5; have := of_decide_eq_false h6; have := ne_of_beq_false h7; have := of_decide_eq_false h9; have := of_decide_eq_false h12; first | omega | (simp <;> omega)) (by decide) (nn := (vc ++ [(Member.mk m.node m.site true)]).length) (by simp) ?_)
            refine rvP C (.ptr 6 1) ?_
            refine rvc_un (rexec_prim C (δ := { v := .undef, wr := [(6, some (.cells [.pv (.lit (.int .i64 (IntKind.i64.wrap (c.epoch + 1)))), .sl 99 0 ((vc ++ [(Member.mk m.node m.site true)]).length) 3 false]))] }) rfl rfl rfl rfl trivial rfl ?_)
            refine rvc_nil ?_
            refine Awp.consP C ?_
            refine rvP C (.agg [.pv (.lit (.int .i64 (IntKind.i64.wrap (c.epoch + 1)))), .sl 99 0 ((vc ++ [(Member.mk m.node m.site true)]).length) 3 false]) ?_
            refine rvc_un (rexec_prim C (δ := { v := .undef, wr := [(4, some (.cells [.pv (.lit (.int .i64 (IntKind.i64.wrap (c.epoch + 1)))), .sl 99 0 ((vc ++ [(Member.mk m.node m.site true)]).length) 3 false]))] }) rfl rfl rfl rfl trivial rfl ?_)
            refine rvP C (.pv (.lit (.int .i64 0))) ?_
            refine rvc_nil ?_
            refine Awp.freezeW 99 (encL eMember (vc ++ [(Member.mk m.node m.site true)])) ?_ [(4, .ptr 4 0), (5, .pv (.lit (.int .i64 0)))] [(3, .cells [.pv (.lit (.int .i64 m.node)), .pv (.lit (.int .i64 m.site)), .pv (.lit (.bool m.fresh))]), (4, .cells [.pv (.lit (.int .i64 (IntKind.i64.wrap (c.epoch + 1)))), sS (some false) eMember (vc ++ [(Member.mk m.node m.site true)])]), (6, .cells [.pv (.lit (.int .i64 (IntKind.i64.wrap (c.epoch + 1)))), sS (some false) eMember (vc ++ [(Member.mk m.node m.site true)])])] ?_ ?_ ?_
            · rfl
            · exact ⟨⟨_, rfl, .inl (.inl rfl)⟩, ⟨_, rfl, .inl (.inl rfl)⟩, trivial⟩
            · exact ⟨⟨(by show (3 : Nat) ≠ 99; decide), .inl rfl⟩, ⟨(by show (4 : Nat) ≠ 99; decide), .inr ⟨_, _, rfl, rfl, ⟨.inl rfl, .inr ⟨_, _, _, rfl, rfl⟩, trivial⟩⟩⟩, ⟨(by show (6 : Nat) ≠ 99; decide), .inr ⟨_, _, rfl, rfl, ⟨.inl rfl, .inr ⟨_, _, _, rfl, rfl⟩, trivial⟩⟩⟩, trivial⟩
            refine Awp.ret ?_
            subst hR
            exact ⟨.inl rfl, rfl⟩
           ·
            replace hR := of_false h17 hR
            refine Awp.skip ?_
            refine Awp.consP C ?_
            refine rvP C (.agg [.pv (.lit (.int .i64 (IntKind.i64.wrap (c.epoch + 1)))), sS (some vc.isEmpty) eMember vc]) ?_
            refine rvc_un (rexec_prim C (δ := { v := .undef, wr := [(4, some (.cells [.pv (.lit (.int .i64 (IntKind.i64.wrap (c.epoch + 1)))), sS (some vc.isEmpty) eMember vc]))] }) rfl rfl rfl rfl trivial rfl ?_)
            refine rvP C (.pv (.lit (.int .i64 0))) ?_
            refine rvc_nil ?_
            refine Awp.ret ?_
            subst hR
            exact ⟨.inl rfl, rfl⟩
         ·
          refine Awp.wordsR [(3, .ptr 3 0), (4, .ptr 4 0), (6, .ptr 6 0), (7, .pv (.lit (.bool put))), (57, sS (some c.members.nil) eMember c.members.D), (58, .pv (.lit (.int .i64 (c.members.D.length : Int)))), (59, .pv (.lit (.int .i64 (i : Int))))] [(900, .cells (encC eMember vc)), (3, .cells [.pv (.lit (.int .i64 m.node)), .pv (.lit (.int .i64 m.site)), .pv (.lit (.bool m.fresh))]), (4, .cells [.pv (.lit (.int .i64 0)), sS (some true) eMember []]), (6, .cells [.pv (.lit (.int .i64 (IntKind.i64.wrap (c.epoch + 1)))), .sl 900 0 vc.length 3 false])] [3, 4, 6, 900] (WeakerR.ofL (Ks := [3, 4, 6, 900]) hI ⟨⟨rfl, rfl⟩, ⟨rfl, rfl⟩, ⟨rfl, rfl⟩, ⟨rfl, rfl⟩, ⟨rfl, rfl⟩, ⟨rfl, rfl⟩, ⟨rfl, rfl⟩, trivial⟩ (okH_list (look_cons h11 rfl) rfl rfl (okH_cons (look_cons h11 rfl) rfl rfl rfl (okH_cons (look_cons h11 rfl) rfl rfl rfl (okH_cons (cellsTo (look_cons h11 rfl) (by exact ⟨rfl, (by exact grow_at_cons (b := 900) (b' := 900) (e := eMember) (l := vc) rfl h11 rfl rfl rfl), trivial⟩)) rfl rfl (win_cells (by exact ⟨rfl, rfl, trivial⟩)) (okH_nil))))) rfl) ?_
          refine Awp.consP C ?_
          refine rvP C (.pv (.lit (.bool (decide ((i : Int) < (c.members.D.length : Int)))))) ?_
          refine rvc_nil ?_
          refine Awp.seq ?_
          refine Awp.cond (b := (decide ((i : Int) < (c.members.D.length : Int)))) rfl (fun h18 => ?_) (fun h18 => ?_)
          ·
           have h19 : i < c.members.D.length := by have := of_decide_eq_true h18; omega
           obtain ⟨x, h20⟩ := getX h19
           rw [drop_at h20] at hR
           refine Awp.skip ?_
           refine Awp.seq ?_
           refine Awp.block ?_
           refine Awp.consP C ?_
           refine rvc_un (rexec_idxS C rfl rfl rfl rfl rfl rfl x (Int.natCast_nonneg _) h20 ?_)
           refine rvP C (.agg [.pv (.lit (.int .i64 x.node)), .pv (.lit (.int .i64 x.site)), .pv (.lit (.bool x.fresh))]) ?_
           refine rvc_un (rexec_prim C (δ := { v := .ptr 9 0, new := [(9, .cells [.pv (.lit (.int .i64 0)), .pv (.lit (.int .i64 0)), .pv (.lit (.bool false))])] }) rfl rfl rfl rfl trivial rfl ?_)
           refine rvc_un (rexec_prim C (δ := { v := .undef, wr := [(9, some (.cells [.pv (.lit (.int .i64 x.node)), .pv (.lit (.int .i64 x.site)), .pv (.lit (.bool x.fresh))]))] }) rfl rfl rfl rfl trivial rfl ?_)
           refine rvc_nil ?_
           refine Awp.seq ?_
           refine Awp.consP C ?_
           refine rvP C (.ptr 9 1) ?_
           refine rvP C (.pv (.lit (.int .i64 x.site))) ?_
           refine rvP C (.ptr 3 1) ?_
           refine rvP C (.pv (.lit (.int .i64 m.site))) ?_
           refine rvP C (.pv (.lit (.bool (decide (x.site > m.site))))) ?_
           refine rvP C (.pv (.lit (.bool (decide (x.site > m.site))))) ?_
           refine rvc_case 68 (decide (x.site > m.site)) rfl (fun h21 => ?_) (fun h21 => ?_)
           ·
            replace hR := of_true h21 hR
            refine rvO C (.pv (.lit (.bool put))) ?_
            refine rvO C (.pv (.lit (.bool (!put)))) ?_
            refine rvP C (.pv (.lit (.bool (!put)))) ?_
            refine rvc_nil ?_
            refine Awp.cond (b := (!put)) rfl (fun h22 => ?_) (fun h22 => ?_)
            ·
             replace hR := of_true h22 hR
             refine Awp.consP C ?_
             refine rvP C (.ptr 6 1) ?_
             refine rvP C (.sl 900 0 vc.length 3 false) ?_
             refine rvP C (.ptr 3 0) ?_
             refine rvP C (.pv (.lit (.int .i64 m.node))) ?_
             refine rvP C (.ptr 3 1) ?_
             refine rvP C (.pv (.lit (.int .i64 m.site))) ?_
             refine rvP C (.agg [.pv (.lit (.int .i64 m.node)), .pv (.lit (.int .i64 m.site)), .pv (.lit (.bool true))]) ?_
             refine rvc_un (rexec_buildSliceF C eMember [(Member.mk m.node m.site true)] rfl rfl rfl rfl rfl rfl rfl (by decide) rfl ?_)
             refine rvc_un (rexec_append C rfl rfl rfl rfl rfl rfl rfl rfl (fun _ h => by cases h) rfl (en := eMember) (D0 := vc) (D := [(Member.mk m.node m.site true)]) rfl rfl rfl rfl (by have := check_r (c := c); have := rCheck_le6 (c := c); have := rPlace_lt c m.node; have := eq_of_bne_false h1; have := of_decide_eq_false h2; have := of_decide_eq_false h3; have := of_decide_eq_false h4; have := of_decide_eq_false h5; have := of_decide_eq_false h6; have := ne_of_beq_false h7; have := of_decide_eq_false h9; have := of_decide_eq_true h18; have := of_decide_eq_true h21; first | omega | (simp <;> omega)) (by decide) (nn := (vc ++ [(Member.mk m.node m.site true)]).length) (by simp) ?_)
             refine rvP C (.ptr 6 1) ?_
             refine rvc_un (rexec_prim C (δ := { v := .undef, wr := [(6, some (.cells [.pv (.lit (.int .i64 (IntKind.i64.wrap (c.epoch + 1)))), .sl 80 0 ((vc ++ [(Member.mk m.node m.site true)]).length) 3 false]))] }) rfl rfl rfl rfl trivial rfl ?_)
             refine rvc_nil ?_
             refine Awp.regionP C ?_
             refine rvP C (.pv (.lit (.bool true))) ?_
             refine rvc_nil ?_
             refine Awp.regionP C ?_
             refine rvP C (.ptr 6 1) ?_
             refine rvP C (.sl 80 0 ((vc ++ [(Member.mk m.node m.site true)]).length) 3 false) ?_
             refine rvP C (.agg [.pv (.lit (.int .i64 x.node)), .pv (.lit (.int .i64 x.site)), .pv (.lit (.bool x.fresh))]) ?_
             refine rvc_un (rexec_buildSliceF C eMember [x] rfl rfl rfl rfl rfl rfl rfl (by decide) rfl ?_)
             refine rvc_un (rexec_append C rfl rfl rfl rfl rfl rfl rfl rfl (fun _ h => by cases h) rfl (en := eMember) (D0 := (vc ++ [(Member.mk m.node m.site true)])) (D := [x]) rfl rfl rfl rfl (by have := check_r (c := c); have := rCheck_le6 (c := c); have := rPlace_lt c m.node; have := eq_of_bne_false h1; have := of_decide_eq_false h2; have := of_decide_eq_false h3; have := of_decide_eq_false h4; have := of_decide_eq_false h5; have := of_decide_eq_false h6; have := ne_of_beq_false h7; have := of_decide_eq_false h9; have := of_decide_eq_true h18; have := of_decide_eq_true h21; first | omega | (simp <;> omega)) (by decide) (nn := ((vc ++ [(Member.mk m.node m.site true)]) ++ [x]).length) (by simp) ?_)
             refine rvP C (.ptr 6 1) ?_
             refine rvc_un (rexec_prim C (δ := { v := .undef, wr := [(6, some (.cells [.pv (.lit (.int .i64 (IntKind.i64.wrap (c.epoch + 1)))), .sl 86 0 (((vc ++ [(Member.mk m.node m.site true)]) ++ [x]).length) 3 false]))] }) rfl rfl rfl rfl trivial rfl ?_)
             refine rvc_nil ?_
             refine Awp.regionP C ?_
             refine rvP C (.pv (.lit (.int .i64 (IntKind.i64.wrap ((i : Int) + 1))))) ?_
             refine rvP C (.pv (.lit (.int .i64 (IntKind.i64.wrap ((i : Int) + 1))))) ?_
             refine rvc_nil ?_
             refine ⟨h19, (true, ((vc ++ [(Member.mk m.node m.site true)]) ++ [x])), ?_, ?_⟩
             · exact ⟨hR, (by first | omega | (simp <;> omega))⟩
             · exact ⟨fun b => bif b == 900 then 86 else (fun b => b) b, WeakerR.ofL (Ks := [3, 4, 6, 900]) hI ⟨⟨rfl, rfl⟩, ⟨rfl, rfl⟩, ⟨rfl, rfl⟩, ⟨rfl, rfl⟩, ⟨rfl, rfl⟩, ⟨rfl, rfl⟩, ⟨lit_cast (wrap_i64 (by omega) (by omega)), rfl⟩, trivial⟩ (okH_grow (fun _ => rfl) rfl rfl (okH_cons rfl rfl rfl rfl (okH_cons rfl rfl rfl rfl (okH_cons (cellsTo rfl (by exact ⟨rfl, grow_to rfl rfl app_ne rfl rfl, trivial⟩)) rfl rfl (win_cells (by exact ⟨rfl, grow_within rfl, trivial⟩)) (okH_nil))))) rfl⟩
            ·
             replace hR := of_false h22 hR
             refine Awp.skip ?_
             refine Awp.regionP C ?_
             refine rvP C (.ptr 6 1) ?_
             refine rvP C (.sl 900 0 vc.length 3 false) ?_
             refine rvP C (.agg [.pv (.lit (.int .i64 x.node)), .pv (.lit (.int .i64 x.site)), .pv (.lit (.bool x.fresh))]) ?_
             refine rvc_un (rexec_buildSliceF C eMember [x] rfl rfl rfl rfl rfl rfl rfl (by decide) rfl ?_)
             refine rvc_un (rexec_append C rfl rfl rfl rfl rfl rfl rfl rfl (fun _ h => by cases h) rfl (en := eMember) (D0 := vc) (D := [x]) rfl rfl rfl rfl (by have := check_r (c := c); have := rCheck_le6 (c := c); have := rPlace_lt c m.node; have := eq_of_bne_false h1; have := of_decide_eq_false h2; have := of_decide_eq_false h3; have := of_decide_eq_false h4; have := of_decide_eq_false h5; have := of_decide_eq_false h6; have := ne_of_beq_false h7; have := of_decide_eq_false h9; have := of_decide_eq_true h18; have := of_decide_eq_true h21; first | omega | (simp <;> omega)) (by decide) (nn := (vc ++ [x]).length) (by simp) ?_)
             refine rvP C (.ptr 6 1) ?_
             refine rvc_un (rexec_prim C (δ := { v := .undef, wr := [(6, some (.cells [.pv (.lit (.int .i64 (IntKind.i64.wrap (c.epoch + 1)))), .sl 86 0 ((vc ++ [x]).length) 3 false]))] }) rfl rfl rfl rfl trivial rfl ?_)
             refine rvc_nil ?_
             refine Awp.regionP C ?_
             refine rvP C (.pv (.lit (.int .i64 (IntKind.i64.wrap ((i : Int) + 1))))) ?_
             refine rvP C (.pv (.lit (.int .i64 (IntKind.i64.wrap ((i : Int) + 1))))) ?_
             refine rvc_nil ?_
             refine ⟨h19, (put, (vc ++ [x])), ?_, ?_⟩
             · exact ⟨hR, (by first | omega | (simp <;> omega))⟩
             · exact ⟨fun b => bif b == 900 then 86 else (fun b => b) b, WeakerR.ofL (Ks := [3, 4, 6, 900]) hI ⟨⟨rfl, rfl⟩, ⟨rfl, rfl⟩, ⟨rfl, rfl⟩, ⟨rfl, rfl⟩, ⟨rfl, rfl⟩, ⟨rfl, rfl⟩, ⟨lit_cast (wrap_i64 (by omega) (by omega)), rfl⟩, trivial⟩ (okH_grow (fun _ => rfl) rfl rfl (okH_cons rfl rfl rfl rfl (okH_cons rfl rfl rfl rfl (okH_cons (cellsTo rfl (by exact ⟨rfl, grow_to rfl rfl app_ne rfl rfl, trivial⟩)) rfl rfl (win_cells (by exact ⟨rfl, grow_within rfl, trivial⟩)) (okH_nil))))) rfl⟩
           ·
            replace hR := of_false h21 hR
            refine rvS ?_
            refine rvS ?_
            refine rvP C (.pv (.lit (.bool false))) ?_
            refine rvc_nil ?_
            refine Awp.condF (b := false) rfl rfl ?_
            refine Awp.skip ?_
            refine Awp.regionP C ?_
            refine rvP C (.ptr 6 1) ?_
            refine rvP C (.sl 900 0 vc.length 3 false) ?_
            refine rvP C (.agg [.pv (.lit (.int .i64 x.node)), .pv (.lit (.int .i64 x.site)), .pv (.lit (.bool x.fresh))]) ?_
            refine rvc_un (rexec_buildSliceF C eMember [x] rfl rfl rfl rfl rfl rfl rfl (by decide) rfl ?_)
            refine rvc_un (rexec_append C rfl rfl rfl rfl rfl rfl rfl rfl (fun _ h => by cases h) rfl (en := eMember) (D0 := vc) (D := [x]) rfl rfl rfl rfl (by have := check_r (c := c); have := rCheck_le6 (c := c); have := rPlace_lt c m.node; have := eq_of_bne_false h1; have := of_decide_eq_false h2; have := of_decide_eq_false h3; have := of_decide_eq_false h4; have := of_decide_eq_false h5; have := of_decide_eq_false h6; have := ne_of_beq_false h7; have := of_decide_eq_false h9; have := of_decide_eq_true h18; have := of_decide_eq_false h21; first | omega | (simp <;> omega)) (by decide) (nn := (vc ++ [x]).length) (by simp) ?_)
            refine rvP C (.ptr 6 1) ?_
            refine rvc_un (rexec_prim C (δ := { v := .undef, wr := [(6, some (.cells [.pv (.lit (.int .i64 (IntKind.i64.wrap (c.epoch + 1)))), .sl 86 0 ((vc ++ [x]).length) 3 false]))] }) rfl rfl rfl rfl trivial rfl ?_)
            refine rvc_nil ?_
            refine Awp.regionP C ?_
            refine rvP C (.pv (.lit (.int .i64 (IntKind.i64.wrap ((i : Int) + 1))))) ?_
            refine rvP C (.pv (.lit (.int .i64 (IntKind.i64.wrap ((i : Int) + 1))))) ?_
            refine rvc_nil ?_
            refine ⟨h19, (put, (vc ++ [x])), ?_, ?_⟩
            · exact ⟨hR, (by first | omega | (simp <;> omega))⟩
            · exact ⟨fun b => bif b == 900 then 86 else (fun b => b) b, WeakerR.ofL (Ks := [3, 4, 6, 900]) hI ⟨⟨rfl, rfl⟩, ⟨rfl, rfl⟩, ⟨rfl, rfl⟩, ⟨rfl, rfl⟩, ⟨rfl, rfl⟩, ⟨rfl, rfl⟩, ⟨lit_cast (wrap_i64 (by omega) (by omega)), rfl⟩, trivial⟩ (okH_grow (fun _ => rfl) rfl rfl (okH_cons rfl rfl rfl rfl (okH_cons rfl rfl rfl rfl (okH_cons (cellsTo rfl (by exact ⟨rfl, grow_to rfl rfl app_ne rfl rfl, trivial⟩)) rfl rfl (win_cells (by exact ⟨rfl, grow_within rfl, trivial⟩)) (okH_nil))))) rfl⟩
          ·
           have h19 : ¬ i < c.members.D.length := by have := of_decide_eq_false h18; omega
           rw [drop_end h19] at hR
           refine Awp.exit ?_
           refine Awp.seq ?_
           refine Awp.consP C ?_
           refine rvP C (.pv (.lit (.bool put))) ?_
           refine rvP C (.pv (.lit (.bool (!put)))) ?_
           refine rvc_nil ?_
           refine Awp.cond (b := (!put)) rfl (fun h23 => ?_) (fun h23 => ?_)
           ·
            replace hR := of_true h23 hR
            refine Awp.regionP C ?_
            refine rvP C (.ptr 6 1) ?_
            refine rvP C (.sl 900 0 vc.length 3 false) ?_
            refine rvP C (.ptr 3 0) ?_
            refine rvP C (.pv (.lit (.int .i64 m.node))) ?_
            refine rvP C (.ptr 3 1) ?_
            refine rvP C (.pv (.lit (.int .i64 m.site))) ?_
            refine rvP C (.agg [.pv (.lit (.int .i64 m.node)), .pv (.lit (.int .i64 m.site)), .pv (.lit (.bool true))]) ?_
            refine rvc_un (rexec_buildSliceF C eMember [(Member.mk m.node m.site true)] rfl rfl rfl rfl rfl rfl rfl (by decide) rfl ?_)
            refine rvc_un (rexec_append C rfl rfl rfl rfl rfl rfl rfl rfl (fun _ h => by cases h) rfl (en := eMember) (D0 := vc) (D := [(Member.mk m.node m.site true)]) rfl rfl rfl rfl (by have := check_r (c := c); have := rCheck_le6 (c := c); have := rPlace_lt c m.node; have := eq_of_bne_false h1; have := of_decide_eq_false h2; have := of_decide_eq_false h3; have := of_decide_eq_false h4; have := of_decide_eq_false h5; have := of_decide_eq_false h6; have := ne_of_beq_false h7; have := of_decide_eq_false h9; have := of_decide_eq_false h18; first | omega | (simp <;> omega)) (by decide) (nn := (vc ++ [(Member.mk m.node m.site true)]).length) (by simp) ?_)
            refine rvP C (.ptr 6 1) ?_
            refine rvc_un (rexec_prim C (δ := { v := .undef, wr := [(6, some (.cells [.pv (.lit (.int .i64 (IntKind.i64.wrap (c.epoch + 1)))), .sl 99 0 ((vc ++ [(Member.mk m.node m.site true)]).length) 3 false]))] }) rfl rfl rfl rfl trivial rfl ?_)
            refine rvc_nil ?_
            refine Awp.consP C ?_
            refine rvP C (.agg [.pv (.lit (.int .i64 (IntKind.i64.wrap (c.epoch + 1)))), .sl 99 0 ((vc ++ [(Member.mk m.node m.site true)]).length) 3 false]) ?_
            refine rvc_un (rexec_prim C (δ := { v := .undef, wr := [(4, some (.cells [.pv (.lit (.int .i64 (IntKind.i64.wrap (c.epoch + 1)))), .sl 99 0 ((vc ++ [(Member.mk m.node m.site true)]).length) 3 false]))] }) rfl rfl rfl rfl trivial rfl ?_)
            refine rvP C (.pv (.lit (.int .i64 0))) ?_
            refine rvc_nil ?_
            refine Awp.freezeW 99 (encL eMember (vc ++ [(Member.mk m.node m.site true)])) ?_ [(4, .ptr 4 0), (5, .pv (.lit (.int .i64 0)))] [(3, .cells [.pv (.lit (.int .i64 m.node)), .pv (.lit (.int .i64 m.site)), .pv (.lit (.bool m.fresh))]), (4, .cells [.pv (.lit (.int .i64 (IntKind.i64.wrap (c.epoch + 1)))), sS (some false) eMember (vc ++ [(Member.mk m.node m.site true)])]), (6, .cells [.pv (.lit (.int .i64 (IntKind.i64.wrap (c.epoch + 1)))), sS (some false) eMember (vc ++ [(Member.mk m.node m.site true)])])] ?_ ?_ ?_
            · rfl
            · exact ⟨⟨_, rfl, .inl (.inl rfl)⟩, ⟨_, rfl, .inl (.inl rfl)⟩, trivial⟩
            · exact ⟨⟨(by show (3 : Nat) ≠ 99; decide), .inl rfl⟩, ⟨(by show (4 : Nat) ≠ 99; decide), .inr ⟨_, _, rfl, rfl, ⟨.inl rfl, .inr ⟨_, _, _, rfl, rfl⟩, trivial⟩⟩⟩, ⟨(by show (6 : Nat) ≠ 99; decide), .inr ⟨_, _, rfl, rfl, ⟨.inl rfl, .inr ⟨_, _, _, rfl, rfl⟩, trivial⟩⟩⟩, trivial⟩
            refine Awp.ret ?_
            subst hR
            exact ⟨.inl rfl, rfl⟩
           ·
            replace hR := of_false h23 hR
            refine Awp.skip ?_
            refine Awp.consP C ?_
            refine rvP C (.agg [.pv (.lit (.int .i64 (IntKind.i64.wrap (c.epoch + 1)))), .sl 900 0 vc.length 3 false]) ?_
            refine rvc_un (rexec_prim C (δ := { v := .undef, wr := [(4, some (.cells [.pv (.lit (.int .i64 (IntKind.i64.wrap (c.epoch + 1)))), .sl 900 0 vc.length 3 false]))] }) rfl rfl rfl rfl trivial rfl ?_)
            refine rvP C (.pv (.lit (.int .i64 0))) ?_
            refine rvc_nil ?_
            refine Awp.freezeW 900 (encL eMember vc) ?_ [(4, .ptr 4 0), (5, .pv (.lit (.int .i64 0)))] [(3, .cells [.pv (.lit (.int .i64 m.node)), .pv (.lit (.int .i64 m.site)), .pv (.lit (.bool m.fresh))]), (4, .cells [.pv (.lit (.int .i64 (IntKind.i64.wrap (c.epoch + 1)))), sS (some vc.isEmpty) eMember vc]), (6, .cells [.pv (.lit (.int .i64 (IntKind.i64.wrap (c.epoch + 1)))), sS (some vc.isEmpty) eMember vc])] ?_ ?_ ?_
            · rfl
            · exact ⟨⟨_, rfl, .inl (.inl rfl)⟩, ⟨_, rfl, .inl (.inl rfl)⟩, trivial⟩
            · exact ⟨⟨(by show (3 : Nat) ≠ 900; decide), .inl rfl⟩, ⟨(by show (4 : Nat) ≠ 900; decide), .inr ⟨_, _, rfl, rfl, ⟨.inl rfl, .inr ⟨_, _, _, rfl, by rw [ne_isEmpty h11]; rfl⟩, trivial⟩⟩⟩, ⟨(by show (6 : Nat) ≠ 900; decide), .inr ⟨_, _, rfl, rfl, ⟨.inl rfl, .inr ⟨_, _, _, rfl, by rw [ne_isEmpty h11]; rfl⟩, trivial⟩⟩⟩, trivial⟩
            refine Awp.ret ?_
            subst hR
            exact ⟨.inl rfl, rfl⟩
def rAgain (c : Chain) (node : Int) : Chain × Int :=
  (bif ((rCheck c) != 0) then ((Chain.mk 0 (Sl.mk true [])), 80) else (bif (decide ((rPlace c node) < 0)) then ((Chain.mk 0 (Sl.mk true [])), 81) else (bif (c.epoch == 1099511627776) then ((Chain.mk 0 (Sl.mk true [])), 5) else ((Chain.mk (IntKind.i64.wrap (c.epoch + 1)) (Sl.mk false c.members.D)), 0))))
theorem rAgain_calls (c : Chain) (node : Int) (hl1 : c.members.D.length ≤ 1000000) : PCalls Try.prog 73 [.agg [.pv (.lit (.int .i64 c.epoch)), sS (some c.members.nil) eMember c.members.D], .pv (.lit (.int .i64 node))] (.tup [.agg [.pv (.lit (.int .i64 ((rAgain c node).1.epoch))), sS (some (rAgain c node).1.members.nil) eMember ((rAgain c node).1.members.D)], .pv (.lit (.int .i64 ((rAgain c node).2)))]) := by
 generalize hR : rAgain c node = R
 refine PCalls.of_body tabOk Try.func73 rfl rfl rfl rfl rfl mixed fun E hP C hI => ?_
 refine Awp.consP C ?_
 refine rvc_un (rexec_prim C (δ := { v := .ptr 2 0, new := [(2, .cells [.pv (.lit (.int .i64 c.epoch)), sS (some c.members.nil) eMember c.members.D])] }) rfl rfl rfl rfl trivial rfl ?_)
 refine rvc_un (rexec_prim C (δ := { v := .ptr 4 0, new := [(4, .cells [.pv (.lit (.int .i64 0)), sS (some true) eMember []])] }) rfl rfl rfl rfl trivial rfl ?_)
 refine rvP C (.pv (.lit (.int .i64 0))) ?_
 refine rvc_nil ?_
 refine Awp.seq ?_
 refine Awp.consP C ?_
 refine rvP C (.agg [.pv (.lit (.int .i64 c.epoch)), sS (some c.members.nil) eMember c.members.D]) ?_
 refine rvc_un (rexec_call hP C rfl rfl rfl (rCheck_calls c (Nat.le_trans hl1 (by decide))) ?_)
 refine rvP C (.pv (.lit (.bool ((rCheck c) != 0)))) ?_
 refine rvc_nil ?_
 refine Awp.cond (b := ((rCheck c) != 0)) rfl (fun h1 => ?_) (fun h1 => ?_)
 ·
  replace hR := of_true h1 hR
  refine Awp.consP C ?_
  refine rvP C (.agg [.pv (.lit (.int .i64 0)), sS (some true) eMember []]) ?_
  refine rvc_un (rexec_prim C (δ := { v := .undef, wr := [(4, some (.cells [.pv (.lit (.int .i64 0)), sS (some true) eMember []]))] }) rfl rfl rfl rfl trivial rfl ?_)
  refine rvP C (.pv (.lit (.int .i64 80))) ?_
  refine rvc_nil ?_
  refine Awp.ret ?_
  subst hR
  exact ⟨.inl rfl, rfl⟩
 ·
  replace hR := of_false h1 hR
  refine Awp.skip ?_
  refine Awp.seq ?_
  refine Awp.consP C ?_
  refine rvP C (.agg [.pv (.lit (.int .i64 c.epoch)), sS (some c.members.nil) eMember c.members.D]) ?_
  refine rvP C (.pv (.lit (.int .i64 node))) ?_
  refine rvc_un (rexec_call hP C rfl rfl rfl (rPlace_calls c node (Nat.le_trans hl1 (by decide))) ?_)
  refine rvP C (.pv (.lit (.bool (decide ((rPlace c node) < 0))))) ?_
  refine rvc_nil ?_
  refine Awp.cond (b := (decide ((rPlace c node) < 0))) rfl (fun h2 => ?_) (fun h2 => ?_)
  ·
   replace hR := of_true h2 hR
   refine Awp.consP C ?_
   refine rvP C (.agg [.pv (.lit (.int .i64 0)), sS (some true) eMember []]) ?_
   refine rvc_un (rexec_prim C (δ := { v := .undef, wr := [(4, some (.cells [.pv (.lit (.int .i64 0)), sS (some true) eMember []]))] }) rfl rfl rfl rfl trivial rfl ?_)
   refine rvP C (.pv (.lit (.int .i64 81))) ?_
   refine rvc_nil ?_
   refine Awp.ret ?_
   subst hR
   exact ⟨.inl rfl, rfl⟩
  ·
   replace hR := of_false h2 hR
   refine Awp.skip ?_
   refine Awp.seq ?_
   refine Awp.consP C ?_
   refine rvP C (.ptr 2 0) ?_
   refine rvP C (.pv (.lit (.int .i64 c.epoch))) ?_
   refine rvP C (.pv (.lit (.bool (c.epoch == 1099511627776)))) ?_
   refine rvc_nil ?_
   refine Awp.cond (b := (c.epoch == 1099511627776)) rfl (fun h3 => ?_) (fun h3 => ?_)
   ·
    replace hR := of_true h3 hR
    refine Awp.consP C ?_
    refine rvP C (.agg [.pv (.lit (.int .i64 0)), sS (some true) eMember []]) ?_
    refine rvc_un (rexec_prim C (δ := { v := .undef, wr := [(4, some (.cells [.pv (.lit (.int .i64 0)), sS (some true) eMember []]))] }) rfl rfl rfl rfl trivial rfl ?_)
    refine rvP C (.pv (.lit (.int .i64 5))) ?_
    refine rvc_nil ?_
    refine Awp.ret ?_
    subst hR
    exact ⟨.inl rfl, rfl⟩
   ·
    replace hR := of_false h3 hR
    refine Awp.skip ?_
    refine Awp.consP C ?_
    refine rvP C (.ptr 2 0) ?_
    refine rvP C (.pv (.lit (.int .i64 c.epoch))) ?_
    refine rvP C (.pv (.lit (.int .i64 (IntKind.i64.wrap (c.epoch + 1))))) ?_
    refine rvP C (.agg [.pv (.lit (.int .i64 (IntKind.i64.wrap (c.epoch + 1)))), sS (some true) eMember []]) ?_
    refine rvc_un (rexec_prim C (δ := { v := .ptr 6 0, new := [(6, .cells [.pv (.lit (.int .i64 0)), sS (some true) eMember []])] }) rfl rfl rfl rfl trivial rfl ?_)
    refine rvc_un (rexec_prim C (δ := { v := .undef, wr := [(6, some (.cells [.pv (.lit (.int .i64 (IntKind.i64.wrap (c.epoch + 1)))), sS (some true) eMember []]))] }) rfl rfl rfl rfl trivial rfl ?_)
    refine rvc_nil ?_
    refine Awp.consP C ?_
    refine rvP C (.ptr 6 1) ?_
    refine rvP C (sS (some true) eMember []) ?_
    refine rvP C (.ptr 2 1) ?_
    refine rvP C (sS (some c.members.nil) eMember c.members.D) ?_
    refine rvc_un (rexec_appendN C rfl rfl rfl rfl rfl rfl rfl rfl (fun _ h => by cases h) rfl (en := eMember) (D := c.members.D) rfl rfl (by have := check_r (c := c); have := rCheck_le6 (c := c); have := rPlace_lt c node; have := eq_of_bne_false h1; have := of_decide_eq_false h2; have := ne_of_beq_false h3; omega) (by have := check_r (c := c); have := rCheck_le6 (c := c); have := rPlace_lt c node; have := eq_of_bne_false h1; have := of_decide_eq_false h2; have := ne_of_beq_false h3; first | omega | (simp <;> omega)) (by decide) (nn := c.members.D.length) rfl ?_)
    refine rvP C (.ptr 6 1) ?_
    refine rvc_un (rexec_prim C (δ := { v := .undef, wr := [(6, some (.cells [.pv (.lit (.int .i64 (IntKind.i64.wrap (c.epoch + 1)))), .sl 28 0 c.members.D.length 3 false]))] }) rfl rfl rfl rfl trivial rfl ?_)
    refine rvc_nil ?_
    refine Awp.consP C ?_
    refine rvP C (.agg [.pv (.lit (.int .i64 (IntKind.i64.wrap (c.epoch + 1)))), .sl 28 0 c.members.D.length 3 false]) ?_
    refine rvc_un (rexec_prim C (δ := { v := .undef, wr := [(4, some (.cells [.pv (.lit (.int .i64 (IntKind.i64.wrap (c.epoch + 1)))), .sl 28 0 c.members.D.length 3 false]))] }) rfl rfl rfl rfl trivial rfl ?_)
    refine rvP C (.pv (.lit (.int .i64 0))) ?_
    refine rvc_nil ?_
    refine Awp.freezeW 28 (encL eMember c.members.D) ?_ [(4, .ptr 4 0), (5, .pv (.lit (.int .i64 0)))] [(2, .cells [.pv (.lit (.int .i64 c.epoch)), sS (some c.members.nil) eMember c.members.D]), (4, .cells [.pv (.lit (.int .i64 (IntKind.i64.wrap (c.epoch + 1)))), sS (some false) eMember c.members.D]), (6, .cells [.pv (.lit (.int .i64 (IntKind.i64.wrap (c.epoch + 1)))), sS (some false) eMember c.members.D])] ?_ ?_ ?_
    · rfl
    · exact ⟨⟨_, rfl, .inl (.inl rfl)⟩, ⟨_, rfl, .inl (.inl rfl)⟩, trivial⟩
    · exact ⟨⟨(by show (2 : Nat) ≠ 28; decide), .inl rfl⟩, ⟨(by show (4 : Nat) ≠ 28; decide), .inr ⟨_, _, rfl, rfl, ⟨.inl rfl, .inr ⟨_, _, _, rfl, rfl⟩, trivial⟩⟩⟩, ⟨(by show (6 : Nat) ≠ 28; decide), .inr ⟨_, _, rfl, rfl, ⟨.inl rfl, .inr ⟨_, _, _, rfl, rfl⟩, trivial⟩⟩⟩, trivial⟩
    refine Awp.ret ?_
    subst hR
    exact ⟨.inl rfl, rfl⟩
def rReady_l0 (c : Chain) (node : Int) : List Member → Nat → (List Member) → Chain × Int
  | [], _, vc => ((Chain.mk c.epoch (Sl.mk vc.isEmpty vc)), 0)
  | x :: xs, i, vc => (bif x.fresh then rReady_l0 c node xs (i + 1) (vc ++ [(Member.mk x.node x.site ((i : Int) != (rPlace c node)))]) else rReady_l0 c node xs (i + 1) (vc ++ [(Member.mk x.node x.site false)]))
def rReady (c : Chain) (node : Int) : Chain × Int :=
  (bif ((rCheck c) != 0) then ((Chain.mk 0 (Sl.mk true [])), 80) else (bif (decide ((rPlace c node) < 0)) then ((Chain.mk 0 (Sl.mk true [])), 81) else (bif (!(c.members.D[(rPlace c node).toNat]!.fresh)) then ((Chain.mk 0 (Sl.mk true [])), 81) else rReady_l0 c node c.members.D 0 [])))
theorem rReady_calls (c : Chain) (node : Int) (hl1 : c.members.D.length ≤ 1000000) : PCalls Try.prog 74 [.agg [.pv (.lit (.int .i64 c.epoch)), sS (some c.members.nil) eMember c.members.D], .pv (.lit (.int .i64 node))] (.tup [.agg [.pv (.lit (.int .i64 ((rReady c node).1.epoch))), sS (some (rReady c node).1.members.nil) eMember ((rReady c node).1.members.D)], .pv (.lit (.int .i64 ((rReady c node).2)))]) := by
 generalize hR : rReady c node = R
 refine PCalls.of_body tabOk Try.func74 rfl rfl rfl rfl rfl mixed fun E hP C hI => ?_
 refine Awp.consP C ?_
 refine rvc_un (rexec_prim C (δ := { v := .ptr 2 0, new := [(2, .cells [.pv (.lit (.int .i64 c.epoch)), sS (some c.members.nil) eMember c.members.D])] }) rfl rfl rfl rfl trivial rfl ?_)
 refine rvc_un (rexec_prim C (δ := { v := .ptr 4 0, new := [(4, .cells [.pv (.lit (.int .i64 0)), sS (some true) eMember []])] }) rfl rfl rfl rfl trivial rfl ?_)
 refine rvP C (.pv (.lit (.int .i64 0))) ?_
 refine rvc_nil ?_
 refine Awp.seq ?_
 refine Awp.consP C ?_
 refine rvP C (.agg [.pv (.lit (.int .i64 c.epoch)), sS (some c.members.nil) eMember c.members.D]) ?_
 refine rvc_un (rexec_call hP C rfl rfl rfl (rCheck_calls c (Nat.le_trans hl1 (by decide))) ?_)
 refine rvP C (.pv (.lit (.bool ((rCheck c) != 0)))) ?_
 refine rvc_nil ?_
 refine Awp.cond (b := ((rCheck c) != 0)) rfl (fun h1 => ?_) (fun h1 => ?_)
 ·
  replace hR := of_true h1 hR
  refine Awp.consP C ?_
  refine rvP C (.agg [.pv (.lit (.int .i64 0)), sS (some true) eMember []]) ?_
  refine rvc_un (rexec_prim C (δ := { v := .undef, wr := [(4, some (.cells [.pv (.lit (.int .i64 0)), sS (some true) eMember []]))] }) rfl rfl rfl rfl trivial rfl ?_)
  refine rvP C (.pv (.lit (.int .i64 80))) ?_
  refine rvc_nil ?_
  refine Awp.ret ?_
  subst hR
  exact ⟨.inl rfl, rfl⟩
 ·
  replace hR := of_false h1 hR
  refine Awp.skip ?_
  refine Awp.consP C ?_
  refine rvP C (.agg [.pv (.lit (.int .i64 c.epoch)), sS (some c.members.nil) eMember c.members.D]) ?_
  refine rvP C (.pv (.lit (.int .i64 node))) ?_
  refine rvc_un (rexec_call hP C rfl rfl rfl (rPlace_calls c node (Nat.le_trans hl1 (by decide))) ?_)
  refine rvP C (.pv (.lit (.int .i64 (rPlace c node)))) ?_
  refine rvc_nil ?_
  refine Awp.seq ?_
  refine Awp.consP C ?_
  refine rvP C (.pv (.lit (.int .i64 (rPlace c node)))) ?_
  refine rvP C (.pv (.lit (.bool (decide ((rPlace c node) < 0))))) ?_
  refine rvP C (.pv (.lit (.bool (decide ((rPlace c node) < 0))))) ?_
  refine rvc_case 19 (decide ((rPlace c node) < 0)) rfl (fun h2 => ?_) (fun h2 => ?_)
  ·
   replace hR := of_true h2 hR
   refine rvS ?_
   refine rvS ?_
   refine rvS ?_
   refine rvS ?_
   refine rvS ?_
   refine rvS ?_
   refine rvS ?_
   refine rvP C (.pv (.lit (.bool true))) ?_
   refine rvc_nil ?_
   refine Awp.condT (b := true) rfl rfl ?_
   refine Awp.consP C ?_
   refine rvP C (.agg [.pv (.lit (.int .i64 0)), sS (some true) eMember []]) ?_
   refine rvc_un (rexec_prim C (δ := { v := .undef, wr := [(4, some (.cells [.pv (.lit (.int .i64 0)), sS (some true) eMember []]))] }) rfl rfl rfl rfl trivial rfl ?_)
   refine rvP C (.pv (.lit (.int .i64 81))) ?_
   refine rvc_nil ?_
   refine Awp.ret ?_
   subst hR
   exact ⟨.inl rfl, rfl⟩
  ·
   replace hR := of_false h2 hR
   refine rvO C (.ptr 2 1) ?_
   refine rvO C (sS (some c.members.nil) eMember c.members.D) ?_
   refine rvO C (.pv (.lit (.int .i64 (rPlace c node)))) ?_
   have h3 : c.members.D[(rPlace c node).toNat]? = some c.members.D[(rPlace c node).toNat]! := getE (by have := check_r (c := c); have := rCheck_le6 (c := c); have := rPlace_lt c node; have := eq_of_bne_false h1; have := of_decide_eq_false h2; omega)
   refine rvc_open rfl rfl rfl (rexec_idxS C rfl rfl rfl rfl rfl rfl (c.members.D[(rPlace c node).toNat]!) (by have := check_r (c := c); have := rCheck_le6 (c := c); have := rPlace_lt c node; have := eq_of_bne_false h1; have := of_decide_eq_false h2; omega) h3 ?_)
   refine rvO C (.rp [.lit (.bool (c.members.D[(rPlace c node).toNat]!.fresh))]) ?_
   refine rvO C (.pv (.lit (.bool (c.members.D[(rPlace c node).toNat]!.fresh)))) ?_
   refine rvO C (.pv (.lit (.bool (!(c.members.D[(rPlace c node).toNat]!.fresh))))) ?_
   refine rvP C (.pv (.lit (.bool (!(c.members.D[(rPlace c node).toNat]!.fresh))))) ?_
   refine rvc_nil ?_
   refine Awp.cond (b := (!(c.members.D[(rPlace c node).toNat]!.fresh))) rfl (fun h4 => ?_) (fun h4 => ?_)
   ·
    replace hR := of_true h4 hR
    refine Awp.consP C ?_
    refine rvP C (.agg [.pv (.lit (.int .i64 0)), sS (some true) eMember []]) ?_
    refine rvc_un (rexec_prim C (δ := { v := .undef, wr := [(4, some (.cells [.pv (.lit (.int .i64 0)), sS (some true) eMember []]))] }) rfl rfl rfl rfl trivial rfl ?_)
    refine rvP C (.pv (.lit (.int .i64 81))) ?_
    refine rvc_nil ?_
    refine Awp.ret ?_
    subst hR
    exact ⟨.inl rfl, rfl⟩
   ·
    replace hR := of_false h4 hR
    refine Awp.skip ?_
    refine Awp.consP C ?_
    refine rvP C (.ptr 2 0) ?_
    refine rvP C (.pv (.lit (.int .i64 c.epoch))) ?_
    refine rvP C (.agg [.pv (.lit (.int .i64 c.epoch)), sS (some true) eMember []]) ?_
    refine rvc_un (rexec_prim C (δ := { v := .ptr 7 0, new := [(7, .cells [.pv (.lit (.int .i64 0)), sS (some true) eMember []])] }) rfl rfl rfl rfl trivial rfl ?_)
    refine rvc_un (rexec_prim C (δ := { v := .undef, wr := [(7, some (.cells [.pv (.lit (.int .i64 c.epoch)), sS (some true) eMember []]))] }) rfl rfl rfl rfl trivial rfl ?_)
    refine rvc_nil ?_
    refine Awp.seq ?_
    refine Awp.consP C ?_
    refine rvP C (.ptr 2 1) ?_
    refine rvP C (sS (some c.members.nil) eMember c.members.D) ?_
    refine rvP C (.pv (.lit (.int .i64 (c.members.D.length : Int)))) ?_
    refine rvP C (.pv (.lit (.int .i64 0))) ?_
    refine rvc_nil ?_
    refine Awp.block ?_
    refine Awp.forR (σ := ((List Member))) (c.members.D.length) (fun i v => [(4, .ptr 4 0), (6, .pv (.lit (.int .i64 (rPlace c node)))), (7, .ptr 7 0), (33, sS (some c.members.nil) eMember c.members.D), (34, .pv (.lit (.int .i64 (c.members.D.length : Int)))), (35, .pv (.lit (.int .i64 (i : Int))))]) (fun i v => (growH 900 eMember v ++ ([(4, .cells [.pv (.lit (.int .i64 0)), sS (some true) eMember []]), (7, .cells [.pv (.lit (.int .i64 c.epoch)), grow 900 eMember v])]))) [4, 7, 900] (fun i v => (rReady_l0 c node (c.members.D.drop i) i v = R) ∧ (v.length ≤ i)) [] ?_ ?_ (fun i vc h5 hR => ?_)
    · exact ⟨hR, (by first | omega | (simp <;> omega))⟩
    · exact ⟨fun b => b, WeakerR.ofL (Ks := [4, 7, 900]) hI ⟨⟨rfl, rfl⟩, ⟨rfl, rfl⟩, ⟨rfl, rfl⟩, ⟨rfl, rfl⟩, ⟨rfl, rfl⟩, ⟨rfl, rfl⟩, trivial⟩ (okH_grow (fun hne => absurd rfl hne) rfl rfl (okH_cons rfl rfl rfl rfl (okH_cons (cellsTo rfl (by exact ⟨rfl, grow_to_nil rfl rfl (.inl rfl), trivial⟩)) rfl rfl (win_cells (by exact ⟨rfl, grow_within rfl, trivial⟩)) (okH_nil)))) rfl⟩
    obtain ⟨hR, hi_vc⟩ := hR
    replace hi_vc : vc.length ≤ i := hi_vc
    by_cases h6 : vc = []
    ·
     refine Awp.wordsR [(4, .ptr 4 0), (6, .pv (.lit (.int .i64 (rPlace c node)))), (7, .ptr 7 0), (33, sS (some c.members.nil) eMember c.members.D), (34, .pv (.lit (.int .i64 (c.members.D.length : Int)))), (35, .pv (.lit (.int .i64 (i : Int))))] [(4, .cells [.pv (.lit (.int .i64 0)), sS (some true) eMember []]), (7, .cells [.pv (.lit (.int .i64 c.epoch)), sS (some vc.isEmpty) eMember vc])] [4, 7] (WeakerR.ofL (Ks := [4, 7]) hI ⟨⟨rfl, rfl⟩, ⟨rfl, rfl⟩, ⟨rfl, rfl⟩, ⟨rfl, rfl⟩, ⟨rfl, rfl⟩, ⟨rfl, rfl⟩, trivial⟩ (okH_cons (look_nil h6 rfl) rfl rfl rfl (okH_cons (cellsTo (look_nil h6 rfl) (by exact ⟨rfl, (by exact grow_at_nil (b := 900) (e := eMember) (l := vc) rfl h6), trivial⟩)) rfl rfl (win_cells (by exact ⟨rfl, rfl, trivial⟩)) (okH_nil))) rfl) ?_
     refine Awp.consP C ?_
     refine rvP C (.pv (.lit (.bool (decide ((i : Int) < (c.members.D.length : Int)))))) ?_
     refine rvc_nil ?_
     refine Awp.seq ?_
     refine Awp.cond (b := (decide ((i : Int) < (c.members.D.length : Int)))) rfl (fun h7 => ?_) (fun h7 => ?_)
     ·
      have h8 : i < c.members.D.length := by have := of_decide_eq_true h7; omega
      obtain ⟨x, h9⟩ := getX h8
      rw [drop_at h9] at hR
      refine Awp.skip ?_
      refine Awp.seq ?_
      refine Awp.block ?_
      refine Awp.consP C ?_
      refine rvP C (.pv (.lit (.int .i64 (i : Int)))) ?_
      refine rvc_un (rexec_idxS C rfl rfl rfl rfl rfl rfl x (Int.natCast_nonneg _) h9 ?_)
      refine rvP C (.agg [.pv (.lit (.int .i64 x.node)), .pv (.lit (.int .i64 x.site)), .pv (.lit (.bool x.fresh))]) ?_
      refine rvc_un (rexec_prim C (δ := { v := .ptr 9 0, new := [(9, .cells [.pv (.lit (.int .i64 0)), .pv (.lit (.int .i64 0)), .pv (.lit (.bool false))])] }) rfl rfl rfl rfl trivial rfl ?_)
      refine rvP C (.pv (.lit (.int .i64 (i : Int)))) ?_
      refine rvc_un (rexec_prim C (δ := { v := .undef, wr := [(9, some (.cells [.pv (.lit (.int .i64 x.node)), .pv (.lit (.int .i64 x.site)), .pv (.lit (.bool x.fresh))]))] }) rfl rfl rfl rfl trivial rfl ?_)
      refine rvc_nil ?_
      refine Awp.consP C ?_
      refine rvP C (.ptr 9 2) ?_
      refine rvP C (.pv (.lit (.bool x.fresh))) ?_
      refine rvP C (.pv (.lit (.bool x.fresh))) ?_
      refine rvc_case 42 x.fresh rfl (fun h10 => ?_) (fun h10 => ?_)
      ·
       replace hR := of_true h10 hR
       refine rvO C (.pv (.lit (.int .i64 (i : Int)))) ?_
       refine rvO C (.pv (.lit (.int .i64 (rPlace c node)))) ?_
       refine rvO C (.pv (.lit (.bool ((i : Int) != (rPlace c node))))) ?_
       refine rvP C (.pv (.lit (.bool ((i : Int) != (rPlace c node))))) ?_
       refine rvP C (.ptr 9 2) ?_
       refine rvc_un (rexec_prim C (δ := { v := .undef, wr := [(9, some (.cells [.pv (.lit (.int .i64 x.node)), .pv (.lit (.int .i64 x.site)), .pv (.lit (.bool ((i : Int) != (rPlace c node))))]))] }) rfl rfl rfl rfl trivial rfl ?_)
       refine rvc_nil ?_
       refine Awp.regionP C ?_
       refine rvP C (.ptr 7 1) ?_
       refine rvP C (sS (some vc.isEmpty) eMember vc) ?_
       refine rvP C (.agg [.pv (.lit (.int .i64 x.node)), .pv (.lit (.int .i64 x.site)), .pv (.lit (.bool ((i : Int) != (rPlace c node))))]) ?_
       refine rvc_un (rexec_buildSliceF C eMember [(Member.mk x.node x.site ((i : Int) != (rPlace c node)))] rfl rfl rfl rfl rfl rfl rfl (by decide) rfl ?_)
       refine rvc_un (rexec_appendG C rfl rfl rfl rfl rfl rfl rfl rfl (fun _ h => by cases h) rfl (en := eMember) (l := vc) (D := [(Member.mk x.node x.site ((i : Int) != (rPlace c node)))]) rfl rfl h6 (by rw [h6]; rfl) (by simp) (by have := check_r (c := c); have := rCheck_le6 (c := c); have := rPlace_lt c node; have := eq_of_bne_false h1; have := of_decide_eq_false h2; have := of_decide_eq_true h7; first | omega | (simp <;> omega)) (by decide) (nn := (vc ++ [(Member.mk x.node x.site ((i : Int) != (rPlace c node)))]).length) (by simp) ?_)
       refine rvP C (.ptr 7 1) ?_
       refine rvc_un (rexec_prim C (δ := { v := .undef, wr := [(7, some (.cells [.pv (.lit (.int .i64 c.epoch)), .sl 52 0 ((vc ++ [(Member.mk x.node x.site ((i : Int) != (rPlace c node)))]).length) 3 false]))] }) rfl rfl rfl rfl trivial rfl ?_)
       refine rvc_nil ?_
       refine Awp.regionP C ?_
       refine rvP C (.pv (.lit (.int .i64 (IntKind.i64.wrap ((i : Int) + 1))))) ?_
       refine rvP C (.pv (.lit (.int .i64 (IntKind.i64.wrap ((i : Int) + 1))))) ?_
       refine rvc_nil ?_
       refine ⟨h8, (vc ++ [(Member.mk x.node x.site ((i : Int) != (rPlace c node)))]), ?_, ?_⟩
       · exact ⟨hR, (by first | omega | (simp <;> omega))⟩
       · exact ⟨fun b => bif b == 900 then 52 else (fun b => b) b, WeakerR.ofL (Ks := [4, 7, 900]) hI ⟨⟨rfl, rfl⟩, ⟨rfl, rfl⟩, ⟨rfl, rfl⟩, ⟨rfl, rfl⟩, ⟨rfl, rfl⟩, ⟨lit_cast (wrap_i64 (by omega) (by omega)), rfl⟩, trivial⟩ (okH_grow (fun _ => rfl) rfl rfl (okH_cons rfl rfl rfl rfl (okH_cons (cellsTo rfl (by exact ⟨rfl, grow_to rfl rfl app_ne rfl rfl, trivial⟩)) rfl rfl (win_cells (by exact ⟨rfl, grow_within rfl, trivial⟩)) (okH_nil)))) rfl⟩
      ·
       replace hR := of_false h10 hR
       refine rvS ?_
       refine rvS ?_
       refine rvS ?_
       refine rvP C (.pv (.lit (.bool false))) ?_
       refine rvP C (.ptr 9 2) ?_
       refine rvc_un (rexec_prim C (δ := { v := .undef, wr := [(9, some (.cells [.pv (.lit (.int .i64 x.node)), .pv (.lit (.int .i64 x.site)), .pv (.lit (.bool false))]))] }) rfl rfl rfl rfl trivial rfl ?_)
       refine rvc_nil ?_
       refine Awp.regionP C ?_
       refine rvP C (.ptr 7 1) ?_
       refine rvP C (sS (some vc.isEmpty) eMember vc) ?_
       refine rvP C (.agg [.pv (.lit (.int .i64 x.node)), .pv (.lit (.int .i64 x.site)), .pv (.lit (.bool false))]) ?_
       refine rvc_un (rexec_buildSliceF C eMember [(Member.mk x.node x.site false)] rfl rfl rfl rfl rfl rfl rfl (by decide) rfl ?_)
       refine rvc_un (rexec_appendG C rfl rfl rfl rfl rfl rfl rfl rfl (fun _ h => by cases h) rfl (en := eMember) (l := vc) (D := [(Member.mk x.node x.site false)]) rfl rfl h6 (by rw [h6]; rfl) (by simp) (by have := check_r (c := c); have := rCheck_le6 (c := c); have := rPlace_lt c node; have := eq_of_bne_false h1; have := of_decide_eq_false h2; have := of_decide_eq_true h7; first | omega | (simp <;> omega)) (by decide) (nn := (vc ++ [(Member.mk x.node x.site false)]).length) (by simp) ?_)
       refine rvP C (.ptr 7 1) ?_
       refine rvc_un (rexec_prim C (δ := { v := .undef, wr := [(7, some (.cells [.pv (.lit (.int .i64 c.epoch)), .sl 52 0 ((vc ++ [(Member.mk x.node x.site false)]).length) 3 false]))] }) rfl rfl rfl rfl trivial rfl ?_)
       refine rvc_nil ?_
       refine Awp.regionP C ?_
       refine rvP C (.pv (.lit (.int .i64 (IntKind.i64.wrap ((i : Int) + 1))))) ?_
       refine rvP C (.pv (.lit (.int .i64 (IntKind.i64.wrap ((i : Int) + 1))))) ?_
       refine rvc_nil ?_
       refine ⟨h8, (vc ++ [(Member.mk x.node x.site false)]), ?_, ?_⟩
       · exact ⟨hR, (by first | omega | (simp <;> omega))⟩
       · exact ⟨fun b => bif b == 900 then 52 else (fun b => b) b, WeakerR.ofL (Ks := [4, 7, 900]) hI ⟨⟨rfl, rfl⟩, ⟨rfl, rfl⟩, ⟨rfl, rfl⟩, ⟨rfl, rfl⟩, ⟨rfl, rfl⟩, ⟨lit_cast (wrap_i64 (by omega) (by omega)), rfl⟩, trivial⟩ (okH_grow (fun _ => rfl) rfl rfl (okH_cons rfl rfl rfl rfl (okH_cons (cellsTo rfl (by exact ⟨rfl, grow_to rfl rfl app_ne rfl rfl, trivial⟩)) rfl rfl (win_cells (by exact ⟨rfl, grow_within rfl, trivial⟩)) (okH_nil)))) rfl⟩
     ·
      have h8 : ¬ i < c.members.D.length := by have := of_decide_eq_false h7; omega
      rw [drop_end h8] at hR
      refine Awp.exit ?_
      refine Awp.consP C ?_
      refine rvP C (.agg [.pv (.lit (.int .i64 c.epoch)), sS (some vc.isEmpty) eMember vc]) ?_
      refine rvc_un (rexec_prim C (δ := { v := .undef, wr := [(4, some (.cells [.pv (.lit (.int .i64 c.epoch)), sS (some vc.isEmpty) eMember vc]))] }) rfl rfl rfl rfl trivial rfl ?_)
      refine rvP C (.pv (.lit (.int .i64 0))) ?_
      refine rvc_nil ?_
      refine Awp.ret ?_
      subst hR
      exact ⟨.inl rfl, rfl⟩
    ·
     refine Awp.wordsR [(4, .ptr 4 0), (6, .pv (.lit (.int .i64 (rPlace c node)))), (7, .ptr 7 0), (33, sS (some c.members.nil) eMember c.members.D), (34, .pv (.lit (.int .i64 (c.members.D.length : Int)))), (35, .pv (.lit (.int .i64 (i : Int))))] [(900, .cells (encC eMember vc)), (4, .cells [.pv (.lit (.int .i64 0)), sS (some true) eMember []]), (7, .cells [.pv (.lit (.int .i64 c.epoch)), .sl 900 0 vc.length 3 false])] [4, 7, 900] (WeakerR.ofL (Ks := [4, 7, 900]) hI ⟨⟨rfl, rfl⟩, ⟨rfl, rfl⟩, ⟨rfl, rfl⟩, ⟨rfl, rfl⟩, ⟨rfl, rfl⟩, ⟨rfl, rfl⟩, trivial⟩ (okH_list (look_cons h6 rfl) rfl rfl (okH_cons (look_cons h6 rfl) rfl rfl rfl (okH_cons (cellsTo (look_cons h6 rfl) (by exact ⟨rfl, (by exact grow_at_cons (b := 900) (b' := 900) (e := eMember) (l := vc) rfl h6 rfl rfl rfl), trivial⟩)) rfl rfl (win_cells (by exact ⟨rfl, rfl, trivial⟩)) (okH_nil)))) rfl) ?_
     refine Awp.consP C ?_
     refine rvP C (.pv (.lit (.bool (decide ((i : Int) < (c.members.D.length : Int)))))) ?_
     refine rvc_nil ?_
     refine Awp.seq ?_
     refine Awp.cond (b := (decide ((i : Int) < (c.members.D.length : Int)))) rfl (fun h11 => ?_) (fun h11 => ?_)
     ·
      have h12 : i < c.members.D.length := by have := of_decide_eq_true h11; omega
      obtain ⟨x, h13⟩ := getX h12
      rw [drop_at h13] at hR
      refine Awp.skip ?_
      refine Awp.seq ?_
      refine Awp.block ?_
      refine Awp.consP C ?_
      refine rvP C (.pv (.lit (.int .i64 (i : Int)))) ?_
      refine rvc_un (rexec_idxS C rfl rfl rfl rfl rfl rfl x (Int.natCast_nonneg _) h13 ?_)
      refine rvP C (.agg [.pv (.lit (.int .i64 x.node)), .pv (.lit (.int .i64 x.site)), .pv (.lit (.bool x.fresh))]) ?_
      refine rvc_un (rexec_prim C (δ := { v := .ptr 9 0, new := [(9, .cells [.pv (.lit (.int .i64 0)), .pv (.lit (.int .i64 0)), .pv (.lit (.bool false))])] }) rfl rfl rfl rfl trivial rfl ?_)
      refine rvP C (.pv (.lit (.int .i64 (i : Int)))) ?_
      refine rvc_un (rexec_prim C (δ := { v := .undef, wr := [(9, some (.cells [.pv (.lit (.int .i64 x.node)), .pv (.lit (.int .i64 x.site)), .pv (.lit (.bool x.fresh))]))] }) rfl rfl rfl rfl trivial rfl ?_)
      refine rvc_nil ?_
      refine Awp.consP C ?_
      refine rvP C (.ptr 9 2) ?_
      refine rvP C (.pv (.lit (.bool x.fresh))) ?_
      refine rvP C (.pv (.lit (.bool x.fresh))) ?_
      refine rvc_case 42 x.fresh rfl (fun h14 => ?_) (fun h14 => ?_)
      ·
       replace hR := of_true h14 hR
       refine rvO C (.pv (.lit (.int .i64 (i : Int)))) ?_
       refine rvO C (.pv (.lit (.int .i64 (rPlace c node)))) ?_
       refine rvO C (.pv (.lit (.bool ((i : Int) != (rPlace c node))))) ?_
       refine rvP C (.pv (.lit (.bool ((i : Int) != (rPlace c node))))) ?_
       refine rvP C (.ptr 9 2) ?_
       refine rvc_un (rexec_prim C (δ := { v := .undef, wr := [(9, some (.cells [.pv (.lit (.int .i64 x.node)), .pv (.lit (.int .i64 x.site)), .pv (.lit (.bool ((i : Int) != (rPlace c node))))]))] }) rfl rfl rfl rfl trivial rfl ?_)
       refine rvc_nil ?_
       refine Awp.regionP C ?_
       refine rvP C (.ptr 7 1) ?_
       refine rvP C (.sl 900 0 vc.length 3 false) ?_
       refine rvP C (.agg [.pv (.lit (.int .i64 x.node)), .pv (.lit (.int .i64 x.site)), .pv (.lit (.bool ((i : Int) != (rPlace c node))))]) ?_
       refine rvc_un (rexec_buildSliceF C eMember [(Member.mk x.node x.site ((i : Int) != (rPlace c node)))] rfl rfl rfl rfl rfl rfl rfl (by decide) rfl ?_)
       refine rvc_un (rexec_append C rfl rfl rfl rfl rfl rfl rfl rfl (fun _ h => by cases h) rfl (en := eMember) (D0 := vc) (D := [(Member.mk x.node x.site ((i : Int) != (rPlace c node)))]) rfl rfl rfl rfl (by have := check_r (c := c); have := rCheck_le6 (c := c); have := rPlace_lt c node; have := eq_of_bne_false h1; have := of_decide_eq_false h2; have := of_decide_eq_true h11; first | omega | (simp <;> omega)) (by decide) (nn := (vc ++ [(Member.mk x.node x.site ((i : Int) != (rPlace c node)))]).length) (by simp) ?_)
       refine rvP C (.ptr 7 1) ?_
       refine rvc_un (rexec_prim C (δ := { v := .undef, wr := [(7, some (.cells [.pv (.lit (.int .i64 c.epoch)), .sl 52 0 ((vc ++ [(Member.mk x.node x.site ((i : Int) != (rPlace c node)))]).length) 3 false]))] }) rfl rfl rfl rfl trivial rfl ?_)
       refine rvc_nil ?_
       refine Awp.regionP C ?_
       refine rvP C (.pv (.lit (.int .i64 (IntKind.i64.wrap ((i : Int) + 1))))) ?_
       refine rvP C (.pv (.lit (.int .i64 (IntKind.i64.wrap ((i : Int) + 1))))) ?_
       refine rvc_nil ?_
       refine ⟨h12, (vc ++ [(Member.mk x.node x.site ((i : Int) != (rPlace c node)))]), ?_, ?_⟩
       · exact ⟨hR, (by first | omega | (simp <;> omega))⟩
       · exact ⟨fun b => bif b == 900 then 52 else (fun b => b) b, WeakerR.ofL (Ks := [4, 7, 900]) hI ⟨⟨rfl, rfl⟩, ⟨rfl, rfl⟩, ⟨rfl, rfl⟩, ⟨rfl, rfl⟩, ⟨rfl, rfl⟩, ⟨lit_cast (wrap_i64 (by omega) (by omega)), rfl⟩, trivial⟩ (okH_grow (fun _ => rfl) rfl rfl (okH_cons rfl rfl rfl rfl (okH_cons (cellsTo rfl (by exact ⟨rfl, grow_to rfl rfl app_ne rfl rfl, trivial⟩)) rfl rfl (win_cells (by exact ⟨rfl, grow_within rfl, trivial⟩)) (okH_nil)))) rfl⟩
      ·
       replace hR := of_false h14 hR
       refine rvS ?_
       refine rvS ?_
       refine rvS ?_
       refine rvP C (.pv (.lit (.bool false))) ?_
       refine rvP C (.ptr 9 2) ?_
       refine rvc_un (rexec_prim C (δ := { v := .undef, wr := [(9, some (.cells [.pv (.lit (.int .i64 x.node)), .pv (.lit (.int .i64 x.site)), .pv (.lit (.bool false))]))] }) rfl rfl rfl rfl trivial rfl ?_)
       refine rvc_nil ?_
       refine Awp.regionP C ?_
       refine rvP C (.ptr 7 1) ?_
       refine rvP C (.sl 900 0 vc.length 3 false) ?_
       refine rvP C (.agg [.pv (.lit (.int .i64 x.node)), .pv (.lit (.int .i64 x.site)), .pv (.lit (.bool false))]) ?_
       refine rvc_un (rexec_buildSliceF C eMember [(Member.mk x.node x.site false)] rfl rfl rfl rfl rfl rfl rfl (by decide) rfl ?_)
       refine rvc_un (rexec_append C rfl rfl rfl rfl rfl rfl rfl rfl (fun _ h => by cases h) rfl (en := eMember) (D0 := vc) (D := [(Member.mk x.node x.site false)]) rfl rfl rfl rfl (by have := check_r (c := c); have := rCheck_le6 (c := c); have := rPlace_lt c node; have := eq_of_bne_false h1; have := of_decide_eq_false h2; have := of_decide_eq_true h11; first | omega | (simp <;> omega)) (by decide) (nn := (vc ++ [(Member.mk x.node x.site false)]).length) (by simp) ?_)
       refine rvP C (.ptr 7 1) ?_
       refine rvc_un (rexec_prim C (δ := { v := .undef, wr := [(7, some (.cells [.pv (.lit (.int .i64 c.epoch)), .sl 52 0 ((vc ++ [(Member.mk x.node x.site false)]).length) 3 false]))] }) rfl rfl rfl rfl trivial rfl ?_)
       refine rvc_nil ?_
       refine Awp.regionP C ?_
       refine rvP C (.pv (.lit (.int .i64 (IntKind.i64.wrap ((i : Int) + 1))))) ?_
       refine rvP C (.pv (.lit (.int .i64 (IntKind.i64.wrap ((i : Int) + 1))))) ?_
       refine rvc_nil ?_
       refine ⟨h12, (vc ++ [(Member.mk x.node x.site false)]), ?_, ?_⟩
       · exact ⟨hR, (by first | omega | (simp <;> omega))⟩
       · exact ⟨fun b => bif b == 900 then 52 else (fun b => b) b, WeakerR.ofL (Ks := [4, 7, 900]) hI ⟨⟨rfl, rfl⟩, ⟨rfl, rfl⟩, ⟨rfl, rfl⟩, ⟨rfl, rfl⟩, ⟨rfl, rfl⟩, ⟨lit_cast (wrap_i64 (by omega) (by omega)), rfl⟩, trivial⟩ (okH_grow (fun _ => rfl) rfl rfl (okH_cons rfl rfl rfl rfl (okH_cons (cellsTo rfl (by exact ⟨rfl, grow_to rfl rfl app_ne rfl rfl, trivial⟩)) rfl rfl (win_cells (by exact ⟨rfl, grow_within rfl, trivial⟩)) (okH_nil)))) rfl⟩
     ·
      have h12 : ¬ i < c.members.D.length := by have := of_decide_eq_false h11; omega
      rw [drop_end h12] at hR
      refine Awp.exit ?_
      refine Awp.consP C ?_
      refine rvP C (.agg [.pv (.lit (.int .i64 c.epoch)), .sl 900 0 vc.length 3 false]) ?_
      refine rvc_un (rexec_prim C (δ := { v := .undef, wr := [(4, some (.cells [.pv (.lit (.int .i64 c.epoch)), .sl 900 0 vc.length 3 false]))] }) rfl rfl rfl rfl trivial rfl ?_)
      refine rvP C (.pv (.lit (.int .i64 0))) ?_
      refine rvc_nil ?_
      refine Awp.freezeW 900 (encL eMember vc) ?_ [(4, .ptr 4 0), (5, .pv (.lit (.int .i64 0)))] [(4, .cells [.pv (.lit (.int .i64 c.epoch)), sS (some vc.isEmpty) eMember vc]), (7, .cells [.pv (.lit (.int .i64 c.epoch)), sS (some vc.isEmpty) eMember vc])] ?_ ?_ ?_
      · rfl
      · exact ⟨⟨_, rfl, .inl (.inl rfl)⟩, ⟨_, rfl, .inl (.inl rfl)⟩, trivial⟩
      · exact ⟨⟨(by show (4 : Nat) ≠ 900; decide), .inr ⟨_, _, rfl, rfl, ⟨.inl rfl, .inr ⟨_, _, _, rfl, by rw [ne_isEmpty h6]; rfl⟩, trivial⟩⟩⟩, ⟨(by show (7 : Nat) ≠ 900; decide), .inr ⟨_, _, rfl, rfl, ⟨.inl rfl, .inr ⟨_, _, _, rfl, by rw [ne_isEmpty h6]; rfl⟩, trivial⟩⟩⟩, trivial⟩
      refine Awp.ret ?_
      subst hR
      exact ⟨.inl rfl, rfl⟩
end Go.Proofs.Ytpgenmflgdkfiaa
/- The ledger: small functions. No conditions. -/
namespace Go.Proofs.Ytpgenmflgdkfiaa
open Go.Am
structure Past where
  all : (Sl Chain)
  deriving Inhabited
structure Ledger where
  past : Past
  chain : Chain
  at_ : Int
  deriving Inhabited
def copied (c : Chain) : Chain :=
  (Chain.mk c.epoch (cloneMembers c.members))
theorem copied_calls (c : Chain) (hl1 : c.members.D.length ≤ 1000000) : PCalls Try.prog 42 [.agg [.pv (.lit (.int .i64 c.epoch)), sS (some c.members.nil) eMember c.members.D]] (.agg [.pv (.lit (.int .i64 ((copied c).epoch))), sS (some (copied c).members.nil) eMember ((copied c).members.D)]) := by
 generalize hR : copied c = R
 refine PCalls.of_body tabOk Try.func42 rfl rfl rfl rfl rfl mixed fun E hP C hI => ?_
 refine Awp.consP C ?_
 refine rvc_un (rexec_prim C (δ := { v := .ptr 1 0, new := [(1, .cells [.pv (.lit (.int .i64 c.epoch)), sS (some c.members.nil) eMember c.members.D])] }) rfl rfl rfl rfl trivial rfl ?_)
 refine rvc_un (rexec_prim C (δ := { v := .ptr 2 0, new := [(2, .cells [.pv (.lit (.int .i64 0)), sS (some true) eMember []])] }) rfl rfl rfl rfl trivial rfl ?_)
 refine rvc_nil ?_
 refine Awp.consP C ?_
 refine rvP C (.ptr 1 1) ?_
 refine rvP C (sS (some c.members.nil) eMember c.members.D) ?_
 refine rvc_un (rexec_call hP C rfl rfl rfl (cloneMembers_calls c.members hl1) ?_)
 refine rvP C (.ptr 1 1) ?_
 refine rvc_un (rexec_prim C (δ := { v := .undef, wr := [(1, some (.cells [.pv (.lit (.int .i64 c.epoch)), sS (some (cloneMembers c.members).nil) eMember ((cloneMembers c.members).D)]))] }) rfl rfl rfl rfl trivial rfl ?_)
 refine rvc_nil ?_
 refine Awp.consP C ?_
 refine rvP C (.agg [.pv (.lit (.int .i64 c.epoch)), sS (some (cloneMembers c.members).nil) eMember ((cloneMembers c.members).D)]) ?_
 refine rvc_un (rexec_prim C (δ := { v := .undef, wr := [(2, some (.cells [.pv (.lit (.int .i64 c.epoch)), sS (some (cloneMembers c.members).nil) eMember ((cloneMembers c.members).D)]))] }) rfl rfl rfl rfl trivial rfl ?_)
 refine rvc_nil ?_
 refine Awp.ret ?_
 subst hR
 exact ⟨.inl rfl, rfl⟩
def nextL (c : Chain) (k : Command) : Chain × Int :=
  (bif (k.epoch != c.epoch) then ((Chain.mk 0 (Sl.mk true [])), 150) else (bif (k.kind == 1) then ((drop c k.node).1, (drop c k.node).2) else (bif (k.kind == 5) then ((dropSite c k.site).1, (dropSite c k.site).2) else (bif (k.kind == 2) then ((join c (Member.mk k.node k.site false)).1, (join c (Member.mk k.node k.site false)).2) else (bif (k.kind == 3) then ((again c k.node).1, (again c k.node).2) else ((ready c k.node).1, (ready c k.node).2))))))
theorem nextL_calls (c : Chain) (k : Command) (hn : c.members.nil = true → c.members.D = []) (hl1 : c.members.D.length ≤ 1000000) : PCalls Try.prog 43 [.agg [.pv (.lit (.int .i64 c.epoch)), sS (some c.members.nil) eMember c.members.D], .agg [.pv (.lit (.int .i64 k.kind)), .pv (.lit (.int .i64 k.node)), .pv (.lit (.int .i64 k.site)), .pv (.lit (.int .i64 k.epoch))]] (.tup [.agg [.pv (.lit (.int .i64 ((nextL c k).1.epoch))), sS (some (nextL c k).1.members.nil) eMember ((nextL c k).1.members.D)], .pv (.lit (.int .i64 ((nextL c k).2)))]) := by
 generalize hR : nextL c k = R
 refine PCalls.of_body tabOk Try.func43 rfl rfl rfl rfl rfl mixed fun E hP C hI => ?_
 refine Awp.consP C ?_
 refine rvc_un (rexec_prim C (δ := { v := .ptr 2 0, new := [(2, .cells [.pv (.lit (.int .i64 c.epoch)), sS (some c.members.nil) eMember c.members.D])] }) rfl rfl rfl rfl trivial rfl ?_)
 refine rvc_un (rexec_prim C (δ := { v := .ptr 3 0, new := [(3, .cells [.pv (.lit (.int .i64 k.kind)), .pv (.lit (.int .i64 k.node)), .pv (.lit (.int .i64 k.site)), .pv (.lit (.int .i64 k.epoch))])] }) rfl rfl rfl rfl trivial rfl ?_)
 refine rvc_un (rexec_prim C (δ := { v := .ptr 4 0, new := [(4, .cells [.pv (.lit (.int .i64 0)), sS (some true) eMember []])] }) rfl rfl rfl rfl trivial rfl ?_)
 refine rvP C (.pv (.lit (.int .i64 0))) ?_
 refine rvc_nil ?_
 refine Awp.seq ?_
 refine Awp.consP C ?_
 refine rvP C (.ptr 3 3) ?_
 refine rvP C (.pv (.lit (.int .i64 k.epoch))) ?_
 refine rvP C (.ptr 2 0) ?_
 refine rvP C (.pv (.lit (.int .i64 c.epoch))) ?_
 refine rvP C (.pv (.lit (.bool (k.epoch != c.epoch)))) ?_
 refine rvc_nil ?_
 refine Awp.cond (b := (k.epoch != c.epoch)) rfl (fun h1 => ?_) (fun h1 => ?_)
 ·
  replace hR := of_true h1 hR
  refine Awp.consP C ?_
  refine rvP C (.agg [.pv (.lit (.int .i64 0)), sS (some true) eMember []]) ?_
  refine rvc_un (rexec_prim C (δ := { v := .undef, wr := [(4, some (.cells [.pv (.lit (.int .i64 0)), sS (some true) eMember []]))] }) rfl rfl rfl rfl trivial rfl ?_)
  refine rvP C (.pv (.lit (.int .i64 150))) ?_
  refine rvc_nil ?_
  refine Awp.ret ?_
  subst hR
  exact ⟨.inl rfl, rfl⟩
 ·
  replace hR := of_false h1 hR
  refine Awp.skip ?_
  refine Awp.seq ?_
  refine Awp.consP C ?_
  refine rvP C (.ptr 3 0) ?_
  refine rvP C (.pv (.lit (.int .i64 k.kind))) ?_
  refine rvc_nil ?_
  refine Awp.block ?_
  refine Awp.consP C ?_
  refine rvP C (.pv (.lit (.bool (k.kind == 1)))) ?_
  refine rvP C (.pv (.lit (.bool (k.kind == 1)))) ?_
  refine rvc_nil ?_
  refine Awp.cond (b := (k.kind == 1)) rfl (fun h2 => ?_) (fun h2 => ?_)
  ·
   replace hR := of_true h2 hR
   refine Awp.consP C ?_
   refine rvP C (.agg [.pv (.lit (.int .i64 c.epoch)), sS (some c.members.nil) eMember c.members.D]) ?_
   refine rvP C (.ptr 3 1) ?_
   refine rvP C (.pv (.lit (.int .i64 k.node))) ?_
   refine rvc_un (rexec_call hP C rfl rfl rfl (drop_calls c k.node hl1) ?_)
   refine rvP C (.agg [.pv (.lit (.int .i64 ((drop c k.node).1.epoch))), sS (some (drop c k.node).1.members.nil) eMember ((drop c k.node).1.members.D)]) ?_
   refine rvP C (.pv (.lit (.int .i64 ((drop c k.node).2)))) ?_
   refine rvc_un (rexec_prim C (δ := { v := .undef, wr := [(4, some (.cells [.pv (.lit (.int .i64 ((drop c k.node).1.epoch))), sS (some (drop c k.node).1.members.nil) eMember ((drop c k.node).1.members.D)]))] }) rfl rfl rfl rfl trivial rfl ?_)
   refine rvP C (.pv (.lit (.int .i64 ((drop c k.node).2)))) ?_
   refine rvc_nil ?_
   refine Awp.ret ?_
   subst hR
   exact ⟨.inl rfl, rfl⟩
  ·
   replace hR := of_false h2 hR
   refine Awp.consP C ?_
   refine rvP C (.pv (.lit (.bool (k.kind == 5)))) ?_
   refine rvP C (.pv (.lit (.bool (k.kind == 5)))) ?_
   refine rvc_nil ?_
   refine Awp.cond (b := (k.kind == 5)) rfl (fun h3 => ?_) (fun h3 => ?_)
   ·
    replace hR := of_true h3 hR
    refine Awp.consP C ?_
    refine rvP C (.agg [.pv (.lit (.int .i64 c.epoch)), sS (some c.members.nil) eMember c.members.D]) ?_
    refine rvP C (.ptr 3 2) ?_
    refine rvP C (.pv (.lit (.int .i64 k.site))) ?_
    refine rvc_un (rexec_call hP C rfl rfl rfl (dropSite_calls c k.site hl1) ?_)
    refine rvP C (.agg [.pv (.lit (.int .i64 ((dropSite c k.site).1.epoch))), sS (some (dropSite c k.site).1.members.nil) eMember ((dropSite c k.site).1.members.D)]) ?_
    refine rvP C (.pv (.lit (.int .i64 ((dropSite c k.site).2)))) ?_
    refine rvc_un (rexec_prim C (δ := { v := .undef, wr := [(4, some (.cells [.pv (.lit (.int .i64 ((dropSite c k.site).1.epoch))), sS (some (dropSite c k.site).1.members.nil) eMember ((dropSite c k.site).1.members.D)]))] }) rfl rfl rfl rfl trivial rfl ?_)
    refine rvP C (.pv (.lit (.int .i64 ((dropSite c k.site).2)))) ?_
    refine rvc_nil ?_
    refine Awp.ret ?_
    subst hR
    exact ⟨.inl rfl, rfl⟩
   ·
    replace hR := of_false h3 hR
    refine Awp.consP C ?_
    refine rvP C (.pv (.lit (.bool (k.kind == 2)))) ?_
    refine rvP C (.pv (.lit (.bool (k.kind == 2)))) ?_
    refine rvc_nil ?_
    refine Awp.cond (b := (k.kind == 2)) rfl (fun h4 => ?_) (fun h4 => ?_)
    ·
     replace hR := of_true h4 hR
     refine Awp.consP C ?_
     refine rvP C (.agg [.pv (.lit (.int .i64 c.epoch)), sS (some c.members.nil) eMember c.members.D]) ?_
     refine rvP C (.ptr 3 1) ?_
     refine rvP C (.pv (.lit (.int .i64 k.node))) ?_
     refine rvP C (.ptr 3 2) ?_
     refine rvP C (.pv (.lit (.int .i64 k.site))) ?_
     refine rvP C (.agg [.pv (.lit (.int .i64 k.node)), .pv (.lit (.int .i64 k.site)), .pv (.lit (.bool false))]) ?_
     refine rvc_un (rexec_call hP C rfl rfl rfl (join_calls c (Member.mk k.node k.site false) hn hl1) ?_)
     refine rvP C (.agg [.pv (.lit (.int .i64 ((join c (Member.mk k.node k.site false)).1.epoch))), sS (some (join c (Member.mk k.node k.site false)).1.members.nil) eMember ((join c (Member.mk k.node k.site false)).1.members.D)]) ?_
     refine rvP C (.pv (.lit (.int .i64 ((join c (Member.mk k.node k.site false)).2)))) ?_
     refine rvc_un (rexec_prim C (δ := { v := .undef, wr := [(4, some (.cells [.pv (.lit (.int .i64 ((join c (Member.mk k.node k.site false)).1.epoch))), sS (some (join c (Member.mk k.node k.site false)).1.members.nil) eMember ((join c (Member.mk k.node k.site false)).1.members.D)]))] }) rfl rfl rfl rfl trivial rfl ?_)
     refine rvP C (.pv (.lit (.int .i64 ((join c (Member.mk k.node k.site false)).2)))) ?_
     refine rvc_nil ?_
     refine Awp.ret ?_
     subst hR
     exact ⟨.inl rfl, rfl⟩
    ·
     replace hR := of_false h4 hR
     refine Awp.consP C ?_
     refine rvP C (.pv (.lit (.bool (k.kind == 3)))) ?_
     refine rvP C (.pv (.lit (.bool (k.kind == 3)))) ?_
     refine rvc_nil ?_
     refine Awp.cond (b := (k.kind == 3)) rfl (fun h5 => ?_) (fun h5 => ?_)
     ·
      replace hR := of_true h5 hR
      refine Awp.consP C ?_
      refine rvP C (.agg [.pv (.lit (.int .i64 c.epoch)), sS (some c.members.nil) eMember c.members.D]) ?_
      refine rvP C (.ptr 3 1) ?_
      refine rvP C (.pv (.lit (.int .i64 k.node))) ?_
      refine rvc_un (rexec_call hP C rfl rfl rfl (again_calls c k.node hl1) ?_)
      refine rvP C (.agg [.pv (.lit (.int .i64 ((again c k.node).1.epoch))), sS (some (again c k.node).1.members.nil) eMember ((again c k.node).1.members.D)]) ?_
      refine rvP C (.pv (.lit (.int .i64 ((again c k.node).2)))) ?_
      refine rvc_un (rexec_prim C (δ := { v := .undef, wr := [(4, some (.cells [.pv (.lit (.int .i64 ((again c k.node).1.epoch))), sS (some (again c k.node).1.members.nil) eMember ((again c k.node).1.members.D)]))] }) rfl rfl rfl rfl trivial rfl ?_)
      refine rvP C (.pv (.lit (.int .i64 ((again c k.node).2)))) ?_
      refine rvc_nil ?_
      refine Awp.ret ?_
      subst hR
      exact ⟨.inl rfl, rfl⟩
     ·
      replace hR := of_false h5 hR
      refine Awp.skip ?_
      refine Awp.consP C ?_
      refine rvP C (.agg [.pv (.lit (.int .i64 c.epoch)), sS (some c.members.nil) eMember c.members.D]) ?_
      refine rvP C (.ptr 3 1) ?_
      refine rvP C (.pv (.lit (.int .i64 k.node))) ?_
      refine rvc_un (rexec_call hP C rfl rfl rfl (ready_calls c k.node hn hl1) ?_)
      refine rvP C (.agg [.pv (.lit (.int .i64 ((ready c k.node).1.epoch))), sS (some (ready c k.node).1.members.nil) eMember ((ready c k.node).1.members.D)]) ?_
      refine rvP C (.pv (.lit (.int .i64 ((ready c k.node).2)))) ?_
      refine rvc_un (rexec_prim C (δ := { v := .undef, wr := [(4, some (.cells [.pv (.lit (.int .i64 ((ready c k.node).1.epoch))), sS (some (ready c k.node).1.members.nil) eMember ((ready c k.node).1.members.D)]))] }) rfl rfl rfl rfl trivial rfl ?_)
      refine rvP C (.pv (.lit (.int .i64 ((ready c k.node).2)))) ?_
      refine rvc_nil ?_
      refine Awp.ret ?_
      subst hR
      exact ⟨.inl rfl, rfl⟩
def indexFuncC_l0 (f : Chain → Bool) : List Chain → Nat → Int
  | [], _ => (-1)
  | x :: xs, i => (bif (f x) then (i : Int) else indexFuncC_l0 f xs (i + 1) )
def indexFuncC (s : (Sl Chain)) (f : Chain → Bool) : Int :=
  indexFuncC_l0 f s.D 0
theorem indexFuncC_calls (s : (Sl Chain)) (f : Chain → Bool) (g1 : Nat) (caps1 : List AV) (hp1 : ∀ (x0 : Chain), PCalls Try.prog g1 ([.agg [.pv (.lit (.int .i64 x0.epoch)), sS (some x0.members.nil) eMember x0.members.D]] ++ caps1) (.pv (.lit (.bool (f x0))))) (hw1 : AV.withinL (fun _ => false) caps1 = true) (hl1 : s.D.length ≤ 1000000) : PCalls Try.prog 75 [sS (some s.nil) eChain s.D, .fn g1 [] caps1] (.pv (.lit (.int .i64 (indexFuncC s f)))) := by
 generalize hR : indexFuncC s f = R
 refine PCalls.of_body tabOk Try.func75 rfl rfl rfl (by simp [AV.withinL, AV.within, sS, hw1]) rfl mixed fun E hP C hI => ?_
 refine Awp.consP C ?_
 refine rvP C (.pv (.lit (.int .i64 0))) ?_
 refine rvc_nil ?_
 refine Awp.seq ?_
 refine Awp.consP C ?_
 refine rvP C (sS (some s.nil) eChain s.D) ?_
 refine rvP C (.pv (.lit (.int .i64 (s.D.length : Int)))) ?_
 refine rvP C (.pv (.lit (.int .i64 0))) ?_
 refine rvc_nil ?_
 refine Awp.block ?_
 refine Awp.forR (σ := Unit) (s.D.length) (fun i _v => [(0, sS (some s.nil) eChain s.D), (1, .fn g1 [] caps1), (7, .pv (.lit (.int .i64 (s.D.length : Int)))), (8, .pv (.lit (.int .i64 (i : Int))))]) (fun i _v => []) [] (fun i _v => indexFuncC_l0 f (s.D.drop i) i  = R) () ?_ ?_ (fun i _v h1 hR => ?_)
 · exact hR
 · exact ⟨fun b => b, WeakerR.ofL (Ks := []) hI ⟨⟨rfl, rfl⟩, ⟨fn_to rfl hw1, fn_win hw1⟩, ⟨rfl, rfl⟩, ⟨rfl, rfl⟩, trivial⟩ (okH_nil) rfl⟩
 refine Awp.consP C ?_
 refine rvP C (.pv (.lit (.bool (decide ((i : Int) < (s.D.length : Int)))))) ?_
 refine rvc_nil ?_
 refine Awp.seq ?_
 refine Awp.cond (b := (decide ((i : Int) < (s.D.length : Int)))) rfl (fun h2 => ?_) (fun h2 => ?_)
 ·
  have h3 : i < s.D.length := by have := of_decide_eq_true h2; omega
  obtain ⟨x, h4⟩ := getX h3
  rw [drop_at h4] at hR
  refine Awp.skip ?_
  refine Awp.seq ?_
  refine Awp.block ?_
  refine Awp.consP C ?_
  refine rvP C (.pv (.lit (.int .i64 (i : Int)))) ?_
  refine rvP C (.pv (.lit (.int .i64 (i : Int)))) ?_
  refine rvc_nil ?_
  refine Awp.consP C ?_
  refine rvP C (.fn g1 [] caps1) ?_
  refine rvP C (sS (some s.nil) eChain s.D) ?_
  refine rvP C (.pv (.lit (.int .i64 (i : Int)))) ?_
  refine rvc_un (rexec_idxS C rfl rfl rfl rfl rfl rfl x (Int.natCast_nonneg _) h4 ?_)
  refine rvP C (.agg [.pv (.lit (.int .i64 x.epoch)), sS (some x.members.nil) eMember x.members.D]) ?_
  refine rvc_un (rexec_callV hP C rfl rfl rfl rfl (hp1 x) rfl ?_)
  refine rvc_nil ?_
  refine Awp.cond (b := (f x)) rfl (fun h5 => ?_) (fun h5 => ?_)
  ·
   replace hR := of_true h5 hR
   refine Awp.consP C ?_
   refine rvP C (.pv (.lit (.int .i64 (i : Int)))) ?_
   refine rvP C (.pv (.lit (.int .i64 (i : Int)))) ?_
   refine rvc_nil ?_
   refine Awp.ret ?_
   subst hR
   exact ⟨.inl rfl, rfl⟩
  ·
   replace hR := of_false h5 hR
   refine Awp.skip ?_
   refine Awp.regionP C ?_
   refine rvP C (.pv (.lit (.int .i64 (IntKind.i64.wrap ((i : Int) + 1))))) ?_
   refine rvP C (.pv (.lit (.int .i64 (IntKind.i64.wrap ((i : Int) + 1))))) ?_
   refine rvc_nil ?_
   refine ⟨h3, (), ?_, ?_⟩
   · exact hR
   · exact ⟨fun b => b, WeakerR.ofL (Ks := []) hI ⟨⟨rfl, rfl⟩, ⟨fn_to rfl hw1, fn_win hw1⟩, ⟨rfl, rfl⟩, ⟨lit_cast (wrap_i64 (by omega) (by omega)), rfl⟩, trivial⟩ (okH_nil) rfl⟩
 ·
  have h3 : ¬ i < s.D.length := by have := of_decide_eq_false h2; omega
  rw [drop_end h3] at hR
  refine Awp.exit ?_
  refine Awp.consP C ?_
  refine rvP C (.pv (.lit (.int .i64 (-1)))) ?_
  refine rvc_nil ?_
  refine Awp.ret ?_
  subst hR
  exact ⟨.inl rfl, rfl⟩
def pastF (c : Chain) (c0 : Int) : Bool :=
  (c.epoch == c0)
theorem pastF_calls (c : Chain) (c0 : Int)  : PCalls Try.prog 76 [.agg [.pv (.lit (.int .i64 c.epoch)), sS (some c.members.nil) eMember c.members.D], .rp [.lit (.int .i64 c0)]] (.pv (.lit (.bool (pastF c c0)))) := by
 generalize hR : pastF c c0 = R
 refine PCalls.of_body tabOk Try.func76 rfl rfl rfl rfl rfl mixed fun E hP C hI => ?_
 refine Awp.consP C ?_
 refine rvc_un (rexec_prim C (δ := { v := .ptr 2 0, new := [(2, .cells [.pv (.lit (.int .i64 c.epoch)), sS (some c.members.nil) eMember c.members.D])] }) rfl rfl rfl rfl trivial rfl ?_)
 refine rvP C (.pv (.lit (.bool false))) ?_
 refine rvc_nil ?_
 refine Awp.consP C ?_
 refine rvP C (.ptr 2 0) ?_
 refine rvP C (.pv (.lit (.int .i64 c.epoch))) ?_
 refine rvP C (.pv (.lit (.int .i64 c0))) ?_
 refine rvP C (.pv (.lit (.bool (c.epoch == c0)))) ?_
 refine rvP C (.pv (.lit (.bool (c.epoch == c0)))) ?_
 refine rvc_nil ?_
 refine Awp.ret ?_
 subst hR
 exact ⟨.inl rfl, rfl⟩
def rFirst_l1 (i : Nat) (kk : (List Member) → (Chain × Int)) : List Member → Nat → (List Member) → Chain × Int
  | [], _, vc1 => kk vc1
  | x :: xs, i1, vc1 => (bif (x.site == (i : Int)) then rFirst_l1 i kk xs (i1 + 1) (vc1 ++ [(Member.mk x.node x.site false)]) else rFirst_l1 i kk xs (i1 + 1) vc1)
def rFirst_l0 (l : (Sl Member)) : Nat → Nat → (List Member) → Chain × Int
  | 0, _, vc => (bif (decide ((vc.length : Int) < (l.D.length : Int))) then ((Chain.mk 0 (Sl.mk true [])), 80) else (bif ((rCheck (Chain.mk 1 (Sl.mk vc.isEmpty vc))) != 0) then ((Chain.mk 0 (Sl.mk true [])), 80) else ((Chain.mk 1 (Sl.mk vc.isEmpty vc)), 0)))
  | k + 1, i, vc => rFirst_l1 i (fun vc2 => rFirst_l0 l k (i + 1) vc2) l.D 0 vc
def rFirst (l : (Sl Member)) : Chain × Int :=
  rFirst_l0 l 3 0 []
theorem rFirst_calls (l : (Sl Member)) (hl1 : l.D.length ≤ 1000000) : PCalls Try.prog 52 [sS (some l.nil) eMember l.D] (.tup [.agg [.pv (.lit (.int .i64 ((rFirst l).1.epoch))), sS (some (rFirst l).1.members.nil) eMember ((rFirst l).1.members.D)], .pv (.lit (.int .i64 ((rFirst l).2)))]) := by
 generalize hR : rFirst l = R
 refine PCalls.of_body tabOk Try.func52 rfl rfl rfl rfl rfl mixed fun E hP C hI => ?_
 refine Awp.consP C ?_
 refine rvc_un (rexec_prim C (δ := { v := .ptr 2 0, new := [(2, .cells [.pv (.lit (.int .i64 0)), sS (some true) eMember []])] }) rfl rfl rfl rfl trivial rfl ?_)
 refine rvP C (.pv (.lit (.int .i64 0))) ?_
 refine rvc_nil ?_
 refine Awp.consP C ?_
 refine rvP C (.agg [.pv (.lit (.int .i64 1)), sS (some true) eMember []]) ?_
 refine rvc_un (rexec_prim C (δ := { v := .ptr 4 0, new := [(4, .cells [.pv (.lit (.int .i64 0)), sS (some true) eMember []])] }) rfl rfl rfl rfl trivial rfl ?_)
 refine rvc_un (rexec_prim C (δ := { v := .undef, wr := [(4, some (.cells [.pv (.lit (.int .i64 1)), sS (some true) eMember []]))] }) rfl rfl rfl rfl trivial rfl ?_)
 refine rvc_nil ?_
 refine Awp.seq ?_
 refine Awp.consP C ?_
 refine rvP C (.pv (.lit (.int .i64 0))) ?_
 refine rvc_nil ?_
 refine Awp.block ?_
 refine Awp.forR (σ := ((List Member))) (3) (fun i v => [(0, sS (some l.nil) eMember l.D), (2, .ptr 2 0), (4, .ptr 4 0), (9, .pv (.lit (.int .i64 (i : Int))))]) (fun i v => (growH 900 eMember v ++ ([(2, .cells [.pv (.lit (.int .i64 0)), sS (some true) eMember []]), (4, .cells [.pv (.lit (.int .i64 1)), grow 900 eMember v])]))) [2, 4, 900] (fun i v => (rFirst_l0 l (3 - i) i v = R) ∧ (v.length ≤ i * 1000000)) [] ?_ ?_ (fun i vc h1 hR => ?_)
 · exact ⟨hR, (by first | omega | (simp <;> omega))⟩
 · exact ⟨fun b => b, WeakerR.ofL (Ks := [2, 4, 900]) hI ⟨⟨rfl, rfl⟩, ⟨rfl, rfl⟩, ⟨rfl, rfl⟩, ⟨rfl, rfl⟩, trivial⟩ (okH_grow (fun hne => absurd rfl hne) rfl rfl (okH_cons rfl rfl rfl rfl (okH_cons (cellsTo rfl (by exact ⟨rfl, grow_to_nil rfl rfl (.inl rfl), trivial⟩)) rfl rfl (win_cells (by exact ⟨rfl, grow_within rfl, trivial⟩)) (okH_nil)))) rfl⟩
 obtain ⟨hR, hi_vc⟩ := hR
 replace hi_vc : vc.length ≤ i * 1000000 := hi_vc
 by_cases h2 : vc = []
 ·
  refine Awp.wordsR [(0, sS (some l.nil) eMember l.D), (2, .ptr 2 0), (4, .ptr 4 0), (9, .pv (.lit (.int .i64 (i : Int))))] [(2, .cells [.pv (.lit (.int .i64 0)), sS (some true) eMember []]), (4, .cells [.pv (.lit (.int .i64 1)), sS (some vc.isEmpty) eMember vc])] [2, 4] (WeakerR.ofL (Ks := [2, 4]) hI ⟨⟨rfl, rfl⟩, ⟨rfl, rfl⟩, ⟨rfl, rfl⟩, ⟨rfl, rfl⟩, trivial⟩ (okH_cons (look_nil h2 rfl) rfl rfl rfl (okH_cons (cellsTo (look_nil h2 rfl) (by exact ⟨rfl, (by exact grow_at_nil (b := 900) (e := eMember) (l := vc) rfl h2), trivial⟩)) rfl rfl (win_cells (by exact ⟨rfl, rfl, trivial⟩)) (okH_nil))) rfl) ?_
  refine Awp.consP C ?_
  refine rvP C (.pv (.lit (.bool (decide ((i : Int) < 3))))) ?_
  refine rvc_nil ?_
  refine Awp.seq ?_
  refine Awp.cond (b := (decide ((i : Int) < 3))) rfl (fun h3 => ?_) (fun h3 => ?_)
  ·
   have h4 : i < 3 := by have := of_decide_eq_true h3; omega
   obtain ⟨k, h5⟩ : ∃ k, 3 - i = k + 1 := ⟨3 - i - 1, by omega⟩
   rw [h5] at hR
   refine Awp.skip ?_
   refine Awp.seq ?_
   refine Awp.block ?_
   refine Awp.consP C ?_
   refine rvP C (.pv (.lit (.int .i64 (i : Int)))) ?_
   refine rvP C (.pv (.lit (.int .i64 (i : Int)))) ?_
   refine rvc_nil ?_
   refine Awp.consP C ?_
   refine rvP C (sS (some l.nil) eMember l.D) ?_
   refine rvP C (.pv (.lit (.int .i64 (l.D.length : Int)))) ?_
   refine rvP C (.pv (.lit (.int .i64 0))) ?_
   refine rvc_nil ?_
   refine Awp.block ?_
   refine Awp.forR (σ := ((List Member))) (l.D.length) (fun i1 v => [(0, sS (some l.nil) eMember l.D), (2, .ptr 2 0), (4, .ptr 4 0), (5, .pv (.lit (.int .i64 (i : Int)))), (9, .pv (.lit (.int .i64 (i : Int)))), (12, sS (some l.nil) eMember l.D), (13, .pv (.lit (.int .i64 (l.D.length : Int)))), (14, .pv (.lit (.int .i64 (i1 : Int))))]) (fun i1 v => (growH 901 eMember v ++ ([(2, .cells [.pv (.lit (.int .i64 0)), sS (some true) eMember []]), (4, .cells [.pv (.lit (.int .i64 1)), grow 901 eMember v])]))) [2, 4, 901] (fun i1 v => (rFirst_l1 i (fun vc1 => rFirst_l0 l k (i + 1) vc1) (l.D.drop i1) i1 v = R) ∧ (v.length ≤ vc.length + i1)) vc ?_ ?_ (fun i1 vc1 h6 hR => ?_)
   · exact ⟨hR, (by first | omega | (simp <;> omega))⟩
   · exact ⟨fun b => b, WeakerR.ofL (Ks := [2, 4, 901]) hI ⟨⟨rfl, rfl⟩, ⟨rfl, rfl⟩, ⟨rfl, rfl⟩, ⟨rfl, rfl⟩, ⟨rfl, rfl⟩, ⟨rfl, rfl⟩, ⟨rfl, rfl⟩, ⟨rfl, rfl⟩, trivial⟩ (okH_grow (fun hne => absurd h2 hne) rfl rfl (okH_cons rfl rfl rfl rfl (okH_cons (cellsTo rfl (by exact ⟨rfl, grow_to_nil rfl h2 (.inr rfl), trivial⟩)) rfl rfl (win_cells (by exact ⟨rfl, grow_within rfl, trivial⟩)) (okH_nil)))) rfl⟩
   obtain ⟨hR, hi_vc1⟩ := hR
   replace hi_vc1 : vc1.length ≤ vc.length + i1 := hi_vc1
   by_cases h7 : vc1 = []
   ·
    refine Awp.wordsR [(0, sS (some l.nil) eMember l.D), (2, .ptr 2 0), (4, .ptr 4 0), (5, .pv (.lit (.int .i64 (i : Int)))), (9, .pv (.lit (.int .i64 (i : Int)))), (12, sS (some l.nil) eMember l.D), (13, .pv (.lit (.int .i64 (l.D.length : Int)))), (14, .pv (.lit (.int .i64 (i1 : Int))))] [(2, .cells [.pv (.lit (.int .i64 0)), sS (some true) eMember []]), (4, .cells [.pv (.lit (.int .i64 1)), sS (some vc1.isEmpty) eMember vc1])] [2, 4] (WeakerR.ofL (Ks := [2, 4]) hI ⟨⟨rfl, rfl⟩, ⟨rfl, rfl⟩, ⟨rfl, rfl⟩, ⟨rfl, rfl⟩, ⟨rfl, rfl⟩, ⟨rfl, rfl⟩, ⟨rfl, rfl⟩, ⟨rfl, rfl⟩, trivial⟩ (okH_cons (look_nil h7 rfl) rfl rfl rfl (okH_cons (cellsTo (look_nil h7 rfl) (by exact ⟨rfl, (by exact grow_at_nil (b := 901) (e := eMember) (l := vc1) rfl h7), trivial⟩)) rfl rfl (win_cells (by exact ⟨rfl, rfl, trivial⟩)) (okH_nil))) rfl) ?_
    refine Awp.consP C ?_
    refine rvP C (.pv (.lit (.bool (decide ((i1 : Int) < (l.D.length : Int)))))) ?_
    refine rvc_nil ?_
    refine Awp.seq ?_
    refine Awp.cond (b := (decide ((i1 : Int) < (l.D.length : Int)))) rfl (fun h8 => ?_) (fun h8 => ?_)
    ·
     have h9 : i1 < l.D.length := by have := of_decide_eq_true h8; omega
     obtain ⟨x, h10⟩ := getX h9
     rw [drop_at h10] at hR
     refine Awp.skip ?_
     refine Awp.seq ?_
     refine Awp.block ?_
     refine Awp.consP C ?_
     refine rvc_un (rexec_idxS C rfl rfl rfl rfl rfl rfl x (Int.natCast_nonneg _) h10 ?_)
     refine rvP C (.agg [.pv (.lit (.int .i64 x.node)), .pv (.lit (.int .i64 x.site)), .pv (.lit (.bool x.fresh))]) ?_
     refine rvc_un (rexec_prim C (δ := { v := .ptr 7 0, new := [(7, .cells [.pv (.lit (.int .i64 0)), .pv (.lit (.int .i64 0)), .pv (.lit (.bool false))])] }) rfl rfl rfl rfl trivial rfl ?_)
     refine rvc_un (rexec_prim C (δ := { v := .undef, wr := [(7, some (.cells [.pv (.lit (.int .i64 x.node)), .pv (.lit (.int .i64 x.site)), .pv (.lit (.bool x.fresh))]))] }) rfl rfl rfl rfl trivial rfl ?_)
     refine rvc_nil ?_
     refine Awp.consP C ?_
     refine rvP C (.ptr 7 1) ?_
     refine rvP C (.pv (.lit (.int .i64 x.site))) ?_
     refine rvP C (.pv (.lit (.int .i64 (i : Int)))) ?_
     refine rvP C (.pv (.lit (.bool (x.site == (i : Int))))) ?_
     refine rvc_nil ?_
     refine Awp.cond (b := (x.site == (i : Int))) rfl (fun h11 => ?_) (fun h11 => ?_)
     ·
      replace hR := of_true h11 hR
      refine Awp.regionP C ?_
      refine rvP C (.ptr 4 1) ?_
      refine rvP C (sS (some vc1.isEmpty) eMember vc1) ?_
      refine rvP C (.ptr 7 0) ?_
      refine rvP C (.pv (.lit (.int .i64 x.node))) ?_
      refine rvP C (.ptr 7 1) ?_
      refine rvP C (.pv (.lit (.int .i64 x.site))) ?_
      refine rvP C (.agg [.pv (.lit (.int .i64 x.node)), .pv (.lit (.int .i64 x.site)), .pv (.lit (.bool false))]) ?_
      refine rvc_un (rexec_buildSliceF C eMember [(Member.mk x.node x.site false)] rfl rfl rfl rfl rfl rfl rfl (by decide) rfl ?_)
      refine rvc_un (rexec_appendG C rfl rfl rfl rfl rfl rfl rfl rfl (fun _ h => by cases h) rfl (en := eMember) (l := vc1) (D := [(Member.mk x.node x.site false)]) rfl rfl h7 (by rw [h7]; rfl) (by simp) (by have := of_decide_eq_true h3; have := of_decide_eq_true h8; have := beq_iff_eq.1 h11; first | omega | (simp <;> omega)) (by decide) (nn := (vc1 ++ [(Member.mk x.node x.site false)]).length) (by simp) ?_)
      refine rvP C (.ptr 4 1) ?_
      refine rvc_un (rexec_prim C (δ := { v := .undef, wr := [(4, some (.cells [.pv (.lit (.int .i64 1)), .sl 30 0 ((vc1 ++ [(Member.mk x.node x.site false)]).length) 3 false]))] }) rfl rfl rfl rfl trivial rfl ?_)
      refine rvc_nil ?_
      refine Awp.regionP C ?_
      refine rvP C (.pv (.lit (.int .i64 (IntKind.i64.wrap ((i1 : Int) + 1))))) ?_
      refine rvP C (.pv (.lit (.int .i64 (IntKind.i64.wrap ((i1 : Int) + 1))))) ?_
      refine rvc_nil ?_
      refine ⟨h9, (vc1 ++ [(Member.mk x.node x.site false)]), ?_, ?_⟩
      · exact ⟨hR, (by first | omega | (simp <;> omega))⟩
      · exact ⟨fun b => bif b == 901 then 30 else (fun b => b) b, WeakerR.ofL (Ks := [2, 4, 901]) hI ⟨⟨rfl, rfl⟩, ⟨rfl, rfl⟩, ⟨rfl, rfl⟩, ⟨rfl, rfl⟩, ⟨rfl, rfl⟩, ⟨rfl, rfl⟩, ⟨rfl, rfl⟩, ⟨lit_cast (wrap_i64 (by omega) (by omega)), rfl⟩, trivial⟩ (okH_grow (fun _ => rfl) rfl rfl (okH_cons rfl rfl rfl rfl (okH_cons (cellsTo rfl (by exact ⟨rfl, grow_to rfl rfl app_ne rfl rfl, trivial⟩)) rfl rfl (win_cells (by exact ⟨rfl, grow_within rfl, trivial⟩)) (okH_nil)))) rfl⟩
     ·
      replace hR := of_false h11 hR
      refine Awp.skip ?_
      refine Awp.regionP C ?_
      refine rvP C (.pv (.lit (.int .i64 (IntKind.i64.wrap ((i1 : Int) + 1))))) ?_
      refine rvP C (.pv (.lit (.int .i64 (IntKind.i64.wrap ((i1 : Int) + 1))))) ?_
      refine rvc_nil ?_
      refine ⟨h9, vc1, ?_, ?_⟩
      · exact ⟨hR, (by first | omega | (simp <;> omega))⟩
      · exact ⟨fun b => b, WeakerR.ofL (Ks := [2, 4, 901]) hI ⟨⟨rfl, rfl⟩, ⟨rfl, rfl⟩, ⟨rfl, rfl⟩, ⟨rfl, rfl⟩, ⟨rfl, rfl⟩, ⟨rfl, rfl⟩, ⟨rfl, rfl⟩, ⟨lit_cast (wrap_i64 (by omega) (by omega)), rfl⟩, trivial⟩ (okH_grow (fun hne => absurd h7 hne) rfl rfl (okH_cons rfl rfl rfl rfl (okH_cons (cellsTo rfl (by exact ⟨rfl, grow_to_nil rfl h7 (.inr rfl), trivial⟩)) rfl rfl (win_cells (by exact ⟨rfl, grow_within rfl, trivial⟩)) (okH_nil)))) rfl⟩
    ·
     have h9 : ¬ i1 < l.D.length := by have := of_decide_eq_false h8; omega
     rw [drop_end h9] at hR
     refine Awp.exit ?_
     refine Awp.regionP C ?_
     refine rvP C (.pv (.lit (.int .i64 (IntKind.i64.wrap ((i : Int) + 1))))) ?_
     refine rvP C (.pv (.lit (.int .i64 (IntKind.i64.wrap ((i : Int) + 1))))) ?_
     refine rvc_nil ?_
     refine ⟨h4, vc1, ?_, ?_⟩
     · exact ⟨(by rw [show 3 - (i + 1) = k by omega]; exact hR), (by first | omega | (simp <;> omega))⟩
     · exact ⟨fun b => b, WeakerR.ofL (Ks := [2, 4, 900]) hI ⟨⟨rfl, rfl⟩, ⟨rfl, rfl⟩, ⟨rfl, rfl⟩, ⟨lit_cast (wrap_i64 (by omega) (by omega)), rfl⟩, trivial⟩ (okH_grow (fun hne => absurd h7 hne) rfl rfl (okH_cons rfl rfl rfl rfl (okH_cons (cellsTo rfl (by exact ⟨rfl, grow_to_nil rfl h7 (.inr rfl), trivial⟩)) rfl rfl (win_cells (by exact ⟨rfl, grow_within rfl, trivial⟩)) (okH_nil)))) rfl⟩
   ·
    refine Awp.wordsR [(0, sS (some l.nil) eMember l.D), (2, .ptr 2 0), (4, .ptr 4 0), (5, .pv (.lit (.int .i64 (i : Int)))), (9, .pv (.lit (.int .i64 (i : Int)))), (12, sS (some l.nil) eMember l.D), (13, .pv (.lit (.int .i64 (l.D.length : Int)))), (14, .pv (.lit (.int .i64 (i1 : Int))))] [(901, .cells (encC eMember vc1)), (2, .cells [.pv (.lit (.int .i64 0)), sS (some true) eMember []]), (4, .cells [.pv (.lit (.int .i64 1)), .sl 901 0 vc1.length 3 false])] [2, 4, 901] (WeakerR.ofL (Ks := [2, 4, 901]) hI ⟨⟨rfl, rfl⟩, ⟨rfl, rfl⟩, ⟨rfl, rfl⟩, ⟨rfl, rfl⟩, ⟨rfl, rfl⟩, ⟨rfl, rfl⟩, ⟨rfl, rfl⟩, ⟨rfl, rfl⟩, trivial⟩ (okH_list (look_cons h7 rfl) rfl rfl (okH_cons (look_cons h7 rfl) rfl rfl rfl (okH_cons (cellsTo (look_cons h7 rfl) (by exact ⟨rfl, (by exact grow_at_cons (b := 901) (b' := 901) (e := eMember) (l := vc1) rfl h7 rfl rfl rfl), trivial⟩)) rfl rfl (win_cells (by exact ⟨rfl, rfl, trivial⟩)) (okH_nil)))) rfl) ?_
    refine Awp.consP C ?_
    refine rvP C (.pv (.lit (.bool (decide ((i1 : Int) < (l.D.length : Int)))))) ?_
    refine rvc_nil ?_
    refine Awp.seq ?_
    refine Awp.cond (b := (decide ((i1 : Int) < (l.D.length : Int)))) rfl (fun h12 => ?_) (fun h12 => ?_)
    ·
     have h13 : i1 < l.D.length := by have := of_decide_eq_true h12; omega
     obtain ⟨x, h14⟩ := getX h13
     rw [drop_at h14] at hR
     refine Awp.skip ?_
     refine Awp.seq ?_
     refine Awp.block ?_
     refine Awp.consP C ?_
     refine rvc_un (rexec_idxS C rfl rfl rfl rfl rfl rfl x (Int.natCast_nonneg _) h14 ?_)
     refine rvP C (.agg [.pv (.lit (.int .i64 x.node)), .pv (.lit (.int .i64 x.site)), .pv (.lit (.bool x.fresh))]) ?_
     refine rvc_un (rexec_prim C (δ := { v := .ptr 7 0, new := [(7, .cells [.pv (.lit (.int .i64 0)), .pv (.lit (.int .i64 0)), .pv (.lit (.bool false))])] }) rfl rfl rfl rfl trivial rfl ?_)
     refine rvc_un (rexec_prim C (δ := { v := .undef, wr := [(7, some (.cells [.pv (.lit (.int .i64 x.node)), .pv (.lit (.int .i64 x.site)), .pv (.lit (.bool x.fresh))]))] }) rfl rfl rfl rfl trivial rfl ?_)
     refine rvc_nil ?_
     refine Awp.consP C ?_
     refine rvP C (.ptr 7 1) ?_
     refine rvP C (.pv (.lit (.int .i64 x.site))) ?_
     refine rvP C (.pv (.lit (.int .i64 (i : Int)))) ?_
     refine rvP C (.pv (.lit (.bool (x.site == (i : Int))))) ?_
     refine rvc_nil ?_
     refine Awp.cond (b := (x.site == (i : Int))) rfl (fun h15 => ?_) (fun h15 => ?_)
     ·
      replace hR := of_true h15 hR
      refine Awp.regionP C ?_
      refine rvP C (.ptr 4 1) ?_
      refine rvP C (.sl 901 0 vc1.length 3 false) ?_
      refine rvP C (.ptr 7 0) ?_
      refine rvP C (.pv (.lit (.int .i64 x.node))) ?_
      refine rvP C (.ptr 7 1) ?_
      refine rvP C (.pv (.lit (.int .i64 x.site))) ?_
      refine rvP C (.agg [.pv (.lit (.int .i64 x.node)), .pv (.lit (.int .i64 x.site)), .pv (.lit (.bool false))]) ?_
      refine rvc_un (rexec_buildSliceF C eMember [(Member.mk x.node x.site false)] rfl rfl rfl rfl rfl rfl rfl (by decide) rfl ?_)
      refine rvc_un (rexec_append C rfl rfl rfl rfl rfl rfl rfl rfl (fun _ h => by cases h) rfl (en := eMember) (D0 := vc1) (D := [(Member.mk x.node x.site false)]) rfl rfl rfl rfl (by have := of_decide_eq_true h3; have := of_decide_eq_true h12; have := beq_iff_eq.1 h15; first | omega | (simp <;> omega)) (by decide) (nn := (vc1 ++ [(Member.mk x.node x.site false)]).length) (by simp) ?_)
      refine rvP C (.ptr 4 1) ?_
      refine rvc_un (rexec_prim C (δ := { v := .undef, wr := [(4, some (.cells [.pv (.lit (.int .i64 1)), .sl 30 0 ((vc1 ++ [(Member.mk x.node x.site false)]).length) 3 false]))] }) rfl rfl rfl rfl trivial rfl ?_)
      refine rvc_nil ?_
      refine Awp.regionP C ?_
      refine rvP C (.pv (.lit (.int .i64 (IntKind.i64.wrap ((i1 : Int) + 1))))) ?_
      refine rvP C (.pv (.lit (.int .i64 (IntKind.i64.wrap ((i1 : Int) + 1))))) ?_
      refine rvc_nil ?_
      refine ⟨h13, (vc1 ++ [(Member.mk x.node x.site false)]), ?_, ?_⟩
      · exact ⟨hR, (by first | omega | (simp <;> omega))⟩
      · exact ⟨fun b => bif b == 901 then 30 else (fun b => b) b, WeakerR.ofL (Ks := [2, 4, 901]) hI ⟨⟨rfl, rfl⟩, ⟨rfl, rfl⟩, ⟨rfl, rfl⟩, ⟨rfl, rfl⟩, ⟨rfl, rfl⟩, ⟨rfl, rfl⟩, ⟨rfl, rfl⟩, ⟨lit_cast (wrap_i64 (by omega) (by omega)), rfl⟩, trivial⟩ (okH_grow (fun _ => rfl) rfl rfl (okH_cons rfl rfl rfl rfl (okH_cons (cellsTo rfl (by exact ⟨rfl, grow_to rfl rfl app_ne rfl rfl, trivial⟩)) rfl rfl (win_cells (by exact ⟨rfl, grow_within rfl, trivial⟩)) (okH_nil)))) rfl⟩
     ·
      replace hR := of_false h15 hR
      refine Awp.skip ?_
      refine Awp.regionP C ?_
      refine rvP C (.pv (.lit (.int .i64 (IntKind.i64.wrap ((i1 : Int) + 1))))) ?_
      refine rvP C (.pv (.lit (.int .i64 (IntKind.i64.wrap ((i1 : Int) + 1))))) ?_
      refine rvc_nil ?_
      refine ⟨h13, vc1, ?_, ?_⟩
      · exact ⟨hR, (by first | omega | (simp <;> omega))⟩
      · exact ⟨fun b => b, WeakerR.ofL (Ks := [2, 4, 901]) hI ⟨⟨rfl, rfl⟩, ⟨rfl, rfl⟩, ⟨rfl, rfl⟩, ⟨rfl, rfl⟩, ⟨rfl, rfl⟩, ⟨rfl, rfl⟩, ⟨rfl, rfl⟩, ⟨lit_cast (wrap_i64 (by omega) (by omega)), rfl⟩, trivial⟩ (okH_grow (fun _ => rfl) rfl rfl (okH_cons rfl rfl rfl rfl (okH_cons (cellsTo rfl (by exact ⟨rfl, grow_to rfl rfl h7 rfl rfl, trivial⟩)) rfl rfl (win_cells (by exact ⟨rfl, grow_within rfl, trivial⟩)) (okH_nil)))) rfl⟩
    ·
     have h13 : ¬ i1 < l.D.length := by have := of_decide_eq_false h12; omega
     rw [drop_end h13] at hR
     refine Awp.exit ?_
     refine Awp.regionP C ?_
     refine rvP C (.pv (.lit (.int .i64 (IntKind.i64.wrap ((i : Int) + 1))))) ?_
     refine rvP C (.pv (.lit (.int .i64 (IntKind.i64.wrap ((i : Int) + 1))))) ?_
     refine rvc_nil ?_
     refine ⟨h4, vc1, ?_, ?_⟩
     · exact ⟨(by rw [show 3 - (i + 1) = k by omega]; exact hR), (by first | omega | (simp <;> omega))⟩
     · exact ⟨fun b => bif b == 900 then 901 else (fun b => b) b, WeakerR.ofL (Ks := [2, 4, 900]) hI ⟨⟨rfl, rfl⟩, ⟨rfl, rfl⟩, ⟨rfl, rfl⟩, ⟨lit_cast (wrap_i64 (by omega) (by omega)), rfl⟩, trivial⟩ (okH_grow (fun _ => rfl) rfl rfl (okH_cons rfl rfl rfl rfl (okH_cons (cellsTo rfl (by exact ⟨rfl, grow_to rfl rfl h7 rfl rfl, trivial⟩)) rfl rfl (win_cells (by exact ⟨rfl, grow_within rfl, trivial⟩)) (okH_nil)))) rfl⟩
  ·
   rw [show 3 - i = 0 by have := of_decide_eq_false h3; omega] at hR
   refine Awp.exit ?_
   refine Awp.seq ?_
   refine Awp.consP C ?_
   refine rvP C (.ptr 4 1) ?_
   refine rvP C (sS (some vc.isEmpty) eMember vc) ?_
   refine rvP C (.pv (.lit (.int .i64 (vc.length : Int)))) ?_
   refine rvP C (sS (some l.nil) eMember l.D) ?_
   refine rvP C (.pv (.lit (.int .i64 (l.D.length : Int)))) ?_
   refine rvP C (.pv (.lit (.bool (decide ((vc.length : Int) < (l.D.length : Int)))))) ?_
   refine rvP C (.pv (.lit (.bool (decide ((vc.length : Int) < (l.D.length : Int)))))) ?_
   refine rvc_case 40 (decide ((vc.length : Int) < (l.D.length : Int))) rfl (fun h16 => ?_) (fun h16 => ?_)
   ·
    replace hR := of_true h16 hR
    refine rvS ?_
    refine rvS ?_
    refine rvS ?_
    refine rvP C (.pv (.lit (.bool true))) ?_
    refine rvc_nil ?_
    refine Awp.condT (b := true) rfl rfl ?_
    refine Awp.consP C ?_
    refine rvP C (.agg [.pv (.lit (.int .i64 0)), sS (some true) eMember []]) ?_
    refine rvc_un (rexec_prim C (δ := { v := .undef, wr := [(2, some (.cells [.pv (.lit (.int .i64 0)), sS (some true) eMember []]))] }) rfl rfl rfl rfl trivial rfl ?_)
    refine rvP C (.pv (.lit (.int .i64 80))) ?_
    refine rvc_nil ?_
    refine Awp.ret ?_
    subst hR
    exact ⟨.inl rfl, rfl⟩
   ·
    replace hR := of_false h16 hR
    refine rvO C (.agg [.pv (.lit (.int .i64 1)), sS (some vc.isEmpty) eMember vc]) ?_
    refine rvc_open rfl rfl rfl (rexec_call hP C rfl rfl rfl (rCheck_calls (Chain.mk 1 (Sl.mk vc.isEmpty vc)) (by show vc.length ≤ 9223372036854775807; have := of_decide_eq_false h3; have := of_decide_eq_false h16; omega)) ?_)
    refine rvO C (.pv (.lit (.bool ((rCheck (Chain.mk 1 (Sl.mk vc.isEmpty vc))) != 0)))) ?_
    refine rvP C (.pv (.lit (.bool ((rCheck (Chain.mk 1 (Sl.mk vc.isEmpty vc))) != 0)))) ?_
    refine rvc_nil ?_
    refine Awp.cond (b := ((rCheck (Chain.mk 1 (Sl.mk vc.isEmpty vc))) != 0)) rfl (fun h17 => ?_) (fun h17 => ?_)
    ·
     replace hR := of_true h17 hR
     refine Awp.consP C ?_
     refine rvP C (.agg [.pv (.lit (.int .i64 0)), sS (some true) eMember []]) ?_
     refine rvc_un (rexec_prim C (δ := { v := .undef, wr := [(2, some (.cells [.pv (.lit (.int .i64 0)), sS (some true) eMember []]))] }) rfl rfl rfl rfl trivial rfl ?_)
     refine rvP C (.pv (.lit (.int .i64 80))) ?_
     refine rvc_nil ?_
     refine Awp.ret ?_
     subst hR
     exact ⟨.inl rfl, rfl⟩
    ·
     replace hR := of_false h17 hR
     refine Awp.skip ?_
     refine Awp.consP C ?_
     refine rvP C (.agg [.pv (.lit (.int .i64 1)), sS (some vc.isEmpty) eMember vc]) ?_
     refine rvc_un (rexec_prim C (δ := { v := .undef, wr := [(2, some (.cells [.pv (.lit (.int .i64 1)), sS (some vc.isEmpty) eMember vc]))] }) rfl rfl rfl rfl trivial rfl ?_)
     refine rvP C (.pv (.lit (.int .i64 0))) ?_
     refine rvc_nil ?_
     refine Awp.ret ?_
     subst hR
     exact ⟨.inl rfl, rfl⟩
 ·
  refine Awp.wordsR [(0, sS (some l.nil) eMember l.D), (2, .ptr 2 0), (4, .ptr 4 0), (9, .pv (.lit (.int .i64 (i : Int))))] [(900, .cells (encC eMember vc)), (2, .cells [.pv (.lit (.int .i64 0)), sS (some true) eMember []]), (4, .cells [.pv (.lit (.int .i64 1)), .sl 900 0 vc.length 3 false])] [2, 4, 900] (WeakerR.ofL (Ks := [2, 4, 900]) hI ⟨⟨rfl, rfl⟩, ⟨rfl, rfl⟩, ⟨rfl, rfl⟩, ⟨rfl, rfl⟩, trivial⟩ (okH_list (look_cons h2 rfl) rfl rfl (okH_cons (look_cons h2 rfl) rfl rfl rfl (okH_cons (cellsTo (look_cons h2 rfl) (by exact ⟨rfl, (by exact grow_at_cons (b := 900) (b' := 900) (e := eMember) (l := vc) rfl h2 rfl rfl rfl), trivial⟩)) rfl rfl (win_cells (by exact ⟨rfl, rfl, trivial⟩)) (okH_nil)))) rfl) ?_
  refine Awp.consP C ?_
  refine rvP C (.pv (.lit (.bool (decide ((i : Int) < 3))))) ?_
  refine rvc_nil ?_
  refine Awp.seq ?_
  refine Awp.cond (b := (decide ((i : Int) < 3))) rfl (fun h18 => ?_) (fun h18 => ?_)
  ·
   have h19 : i < 3 := by have := of_decide_eq_true h18; omega
   obtain ⟨k, h20⟩ : ∃ k, 3 - i = k + 1 := ⟨3 - i - 1, by omega⟩
   rw [h20] at hR
   refine Awp.skip ?_
   refine Awp.seq ?_
   refine Awp.block ?_
   refine Awp.consP C ?_
   refine rvP C (.pv (.lit (.int .i64 (i : Int)))) ?_
   refine rvP C (.pv (.lit (.int .i64 (i : Int)))) ?_
   refine rvc_nil ?_
   refine Awp.consP C ?_
   refine rvP C (sS (some l.nil) eMember l.D) ?_
   refine rvP C (.pv (.lit (.int .i64 (l.D.length : Int)))) ?_
   refine rvP C (.pv (.lit (.int .i64 0))) ?_
   refine rvc_nil ?_
   refine Awp.block ?_
   refine Awp.forR (σ := ((List Member))) (l.D.length) (fun i2 v => [(0, sS (some l.nil) eMember l.D), (2, .ptr 2 0), (4, .ptr 4 0), (5, .pv (.lit (.int .i64 (i : Int)))), (9, .pv (.lit (.int .i64 (i : Int)))), (12, sS (some l.nil) eMember l.D), (13, .pv (.lit (.int .i64 (l.D.length : Int)))), (14, .pv (.lit (.int .i64 (i2 : Int))))]) (fun i2 v => [(2, .cells [.pv (.lit (.int .i64 0)), sS (some true) eMember []]), (4, .cells [.pv (.lit (.int .i64 1)), .sl 902 0 v.length 3 false]), (902, .cells (encC eMember v))]) [2, 4, 902] (fun i2 v => (rFirst_l1 i (fun vc2 => rFirst_l0 l k (i + 1) vc2) (l.D.drop i2) i2 v = R) ∧ (v ≠ [] ∧ v.length ≤ vc.length + i2)) vc ?_ ?_ (fun i2 vc2 h21 hR => ?_)
   · exact ⟨hR, ⟨h2, (by first | omega | (simp <;> omega))⟩⟩
   · exact ⟨fun b => bif b == 902 then 900 else (fun b => b) b, WeakerR.ofL (Ks := [2, 4, 902]) hI ⟨⟨rfl, rfl⟩, ⟨rfl, rfl⟩, ⟨rfl, rfl⟩, ⟨rfl, rfl⟩, ⟨rfl, rfl⟩, ⟨rfl, rfl⟩, ⟨rfl, rfl⟩, ⟨rfl, rfl⟩, trivial⟩ (okH_cons rfl rfl rfl rfl (okH_cons rfl rfl rfl rfl (okH_list rfl rfl rfl (okH_nil)))) rfl⟩
   obtain ⟨hR, ⟨hn_vc2, hi_vc2⟩⟩ := hR
   replace hi_vc2 : vc2.length ≤ vc.length + i2 := hi_vc2
   refine Awp.consP C ?_
   refine rvP C (.pv (.lit (.bool (decide ((i2 : Int) < (l.D.length : Int)))))) ?_
   refine rvc_nil ?_
   refine Awp.seq ?_
   refine Awp.cond (b := (decide ((i2 : Int) < (l.D.length : Int)))) rfl (fun h22 => ?_) (fun h22 => ?_)
   ·
    have h23 : i2 < l.D.length := by have := of_decide_eq_true h22; omega
    obtain ⟨x1, h24⟩ := getX h23
    rw [drop_at h24] at hR
    refine Awp.skip ?_
    refine Awp.seq ?_
    refine Awp.block ?_
    refine Awp.consP C ?_
    refine rvc_un (rexec_idxS C rfl rfl rfl rfl rfl rfl x1 (Int.natCast_nonneg _) h24 ?_)
    refine rvP C (.agg [.pv (.lit (.int .i64 x1.node)), .pv (.lit (.int .i64 x1.site)), .pv (.lit (.bool x1.fresh))]) ?_
    refine rvc_un (rexec_prim C (δ := { v := .ptr 7 0, new := [(7, .cells [.pv (.lit (.int .i64 0)), .pv (.lit (.int .i64 0)), .pv (.lit (.bool false))])] }) rfl rfl rfl rfl trivial rfl ?_)
    refine rvc_un (rexec_prim C (δ := { v := .undef, wr := [(7, some (.cells [.pv (.lit (.int .i64 x1.node)), .pv (.lit (.int .i64 x1.site)), .pv (.lit (.bool x1.fresh))]))] }) rfl rfl rfl rfl trivial rfl ?_)
    refine rvc_nil ?_
    refine Awp.consP C ?_
    refine rvP C (.ptr 7 1) ?_
    refine rvP C (.pv (.lit (.int .i64 x1.site))) ?_
    refine rvP C (.pv (.lit (.int .i64 (i : Int)))) ?_
    refine rvP C (.pv (.lit (.bool (x1.site == (i : Int))))) ?_
    refine rvc_nil ?_
    refine Awp.cond (b := (x1.site == (i : Int))) rfl (fun h25 => ?_) (fun h25 => ?_)
    ·
     replace hR := of_true h25 hR
     refine Awp.regionP C ?_
     refine rvP C (.ptr 4 1) ?_
     refine rvP C (.sl 902 0 vc2.length 3 false) ?_
     refine rvP C (.ptr 7 0) ?_
     refine rvP C (.pv (.lit (.int .i64 x1.node))) ?_
     refine rvP C (.ptr 7 1) ?_
     refine rvP C (.pv (.lit (.int .i64 x1.site))) ?_
     refine rvP C (.agg [.pv (.lit (.int .i64 x1.node)), .pv (.lit (.int .i64 x1.site)), .pv (.lit (.bool false))]) ?_
     refine rvc_un (rexec_buildSliceF C eMember [(Member.mk x1.node x1.site false)] rfl rfl rfl rfl rfl rfl rfl (by decide) rfl ?_)
     refine rvc_un (rexec_append C rfl rfl rfl rfl rfl rfl rfl rfl (fun _ h => by cases h) rfl (en := eMember) (D0 := vc2) (D := [(Member.mk x1.node x1.site false)]) rfl rfl rfl rfl (by have := of_decide_eq_true h18; have := of_decide_eq_true h22; have := beq_iff_eq.1 h25; first | omega | (simp <;> omega)) (by decide) (nn := (vc2 ++ [(Member.mk x1.node x1.site false)]).length) (by simp) ?_)
     refine rvP C (.ptr 4 1) ?_
     refine rvc_un (rexec_prim C (δ := { v := .undef, wr := [(4, some (.cells [.pv (.lit (.int .i64 1)), .sl 30 0 ((vc2 ++ [(Member.mk x1.node x1.site false)]).length) 3 false]))] }) rfl rfl rfl rfl trivial rfl ?_)
     refine rvc_nil ?_
     refine Awp.regionP C ?_
     refine rvP C (.pv (.lit (.int .i64 (IntKind.i64.wrap ((i2 : Int) + 1))))) ?_
     refine rvP C (.pv (.lit (.int .i64 (IntKind.i64.wrap ((i2 : Int) + 1))))) ?_
     refine rvc_nil ?_
     refine ⟨h23, (vc2 ++ [(Member.mk x1.node x1.site false)]), ?_, ?_⟩
     · exact ⟨hR, ⟨app_ne, (by first | omega | (simp <;> omega))⟩⟩
     · exact ⟨fun b => bif b == 902 then 30 else (fun b => b) b, WeakerR.ofL (Ks := [2, 4, 902]) hI ⟨⟨rfl, rfl⟩, ⟨rfl, rfl⟩, ⟨rfl, rfl⟩, ⟨rfl, rfl⟩, ⟨rfl, rfl⟩, ⟨rfl, rfl⟩, ⟨rfl, rfl⟩, ⟨lit_cast (wrap_i64 (by omega) (by omega)), rfl⟩, trivial⟩ (okH_cons rfl rfl rfl rfl (okH_cons rfl rfl rfl rfl (okH_list rfl rfl rfl (okH_nil)))) rfl⟩
    ·
     replace hR := of_false h25 hR
     refine Awp.skip ?_
     refine Awp.regionP C ?_
     refine rvP C (.pv (.lit (.int .i64 (IntKind.i64.wrap ((i2 : Int) + 1))))) ?_
     refine rvP C (.pv (.lit (.int .i64 (IntKind.i64.wrap ((i2 : Int) + 1))))) ?_
     refine rvc_nil ?_
     refine ⟨h23, vc2, ?_, ?_⟩
     · exact ⟨hR, ⟨hn_vc2, (by first | omega | (simp <;> omega))⟩⟩
     · exact ⟨fun b => b, WeakerR.ofL (Ks := [2, 4, 902]) hI ⟨⟨rfl, rfl⟩, ⟨rfl, rfl⟩, ⟨rfl, rfl⟩, ⟨rfl, rfl⟩, ⟨rfl, rfl⟩, ⟨rfl, rfl⟩, ⟨rfl, rfl⟩, ⟨lit_cast (wrap_i64 (by omega) (by omega)), rfl⟩, trivial⟩ (okH_cons rfl rfl rfl rfl (okH_cons rfl rfl rfl rfl (okH_list rfl rfl rfl (okH_nil)))) rfl⟩
   ·
    have h23 : ¬ i2 < l.D.length := by have := of_decide_eq_false h22; omega
    rw [drop_end h23] at hR
    refine Awp.exit ?_
    refine Awp.regionP C ?_
    refine rvP C (.pv (.lit (.int .i64 (IntKind.i64.wrap ((i : Int) + 1))))) ?_
    refine rvP C (.pv (.lit (.int .i64 (IntKind.i64.wrap ((i : Int) + 1))))) ?_
    refine rvc_nil ?_
    refine ⟨h19, vc2, ?_, ?_⟩
    · exact ⟨(by rw [show 3 - (i + 1) = k by omega]; exact hR), (by first | omega | (simp <;> omega))⟩
    · exact ⟨fun b => bif b == 900 then 902 else (fun b => b) b, WeakerR.ofL (Ks := [2, 4, 900]) hI ⟨⟨rfl, rfl⟩, ⟨rfl, rfl⟩, ⟨rfl, rfl⟩, ⟨lit_cast (wrap_i64 (by omega) (by omega)), rfl⟩, trivial⟩ (okH_grow (fun _ => rfl) rfl rfl (okH_cons rfl rfl rfl rfl (okH_cons (cellsTo rfl (by exact ⟨rfl, grow_to rfl rfl hn_vc2 rfl rfl, trivial⟩)) rfl rfl (win_cells (by exact ⟨rfl, grow_within rfl, trivial⟩)) (okH_nil)))) rfl⟩
  ·
   rw [show 3 - i = 0 by have := of_decide_eq_false h18; omega] at hR
   refine Awp.exit ?_
   refine Awp.seq ?_
   refine Awp.freezeW 900 (encL eMember vc) ?_ [(0, sS (some l.nil) eMember l.D), (2, .ptr 2 0), (4, .ptr 4 0)] [(2, .cells [.pv (.lit (.int .i64 0)), sS (some true) eMember []]), (4, .cells [.pv (.lit (.int .i64 1)), sS (some vc.isEmpty) eMember vc])] ?_ ?_ ?_
   · rfl
   · exact ⟨⟨_, rfl, .inl (.inl rfl)⟩, ⟨_, rfl, .inl (.inl rfl)⟩, ⟨_, rfl, .inl (.inl rfl)⟩, trivial⟩
   · exact ⟨⟨(by show (2 : Nat) ≠ 900; decide), .inl rfl⟩, ⟨(by show (4 : Nat) ≠ 900; decide), .inr ⟨_, _, rfl, rfl, ⟨.inl rfl, .inr ⟨_, _, _, rfl, by rw [ne_isEmpty h2]; rfl⟩, trivial⟩⟩⟩, trivial⟩
   refine Awp.consP C ?_
   refine rvP C (.ptr 4 1) ?_
   refine rvP C (sS (some vc.isEmpty) eMember vc) ?_
   refine rvP C (.pv (.lit (.int .i64 (vc.length : Int)))) ?_
   refine rvP C (sS (some l.nil) eMember l.D) ?_
   refine rvP C (.pv (.lit (.int .i64 (l.D.length : Int)))) ?_
   refine rvP C (.pv (.lit (.bool (decide ((vc.length : Int) < (l.D.length : Int)))))) ?_
   refine rvP C (.pv (.lit (.bool (decide ((vc.length : Int) < (l.D.length : Int)))))) ?_
   refine rvc_case 40 (decide ((vc.length : Int) < (l.D.length : Int))) rfl (fun h26 => ?_) (fun h26 => ?_)
   ·
    replace hR := of_true h26 hR
    refine rvS ?_
    refine rvS ?_
    refine rvS ?_
    refine rvP C (.pv (.lit (.bool true))) ?_
    refine rvc_nil ?_
    refine Awp.condT (b := true) rfl rfl ?_
    refine Awp.consP C ?_
    refine rvP C (.agg [.pv (.lit (.int .i64 0)), sS (some true) eMember []]) ?_
    refine rvc_un (rexec_prim C (δ := { v := .undef, wr := [(2, some (.cells [.pv (.lit (.int .i64 0)), sS (some true) eMember []]))] }) rfl rfl rfl rfl trivial rfl ?_)
    refine rvP C (.pv (.lit (.int .i64 80))) ?_
    refine rvc_nil ?_
    refine Awp.ret ?_
    subst hR
    exact ⟨.inl rfl, rfl⟩
   ·
    replace hR := of_false h26 hR
    refine rvO C (.agg [.pv (.lit (.int .i64 1)), sS (some vc.isEmpty) eMember vc]) ?_
    refine rvc_open rfl rfl rfl (rexec_call hP C rfl rfl rfl (rCheck_calls (Chain.mk 1 (Sl.mk vc.isEmpty vc)) (by show vc.length ≤ 9223372036854775807; have := of_decide_eq_false h18; have := of_decide_eq_false h26; omega)) ?_)
    refine rvO C (.pv (.lit (.bool ((rCheck (Chain.mk 1 (Sl.mk vc.isEmpty vc))) != 0)))) ?_
    refine rvP C (.pv (.lit (.bool ((rCheck (Chain.mk 1 (Sl.mk vc.isEmpty vc))) != 0)))) ?_
    refine rvc_nil ?_
    refine Awp.cond (b := ((rCheck (Chain.mk 1 (Sl.mk vc.isEmpty vc))) != 0)) rfl (fun h27 => ?_) (fun h27 => ?_)
    ·
     replace hR := of_true h27 hR
     refine Awp.consP C ?_
     refine rvP C (.agg [.pv (.lit (.int .i64 0)), sS (some true) eMember []]) ?_
     refine rvc_un (rexec_prim C (δ := { v := .undef, wr := [(2, some (.cells [.pv (.lit (.int .i64 0)), sS (some true) eMember []]))] }) rfl rfl rfl rfl trivial rfl ?_)
     refine rvP C (.pv (.lit (.int .i64 80))) ?_
     refine rvc_nil ?_
     refine Awp.ret ?_
     subst hR
     exact ⟨.inl rfl, rfl⟩
    ·
     replace hR := of_false h27 hR
     refine Awp.skip ?_
     refine Awp.consP C ?_
     refine rvP C (.agg [.pv (.lit (.int .i64 1)), sS (some vc.isEmpty) eMember vc]) ?_
     refine rvc_un (rexec_prim C (δ := { v := .undef, wr := [(2, some (.cells [.pv (.lit (.int .i64 1)), sS (some vc.isEmpty) eMember vc]))] }) rfl rfl rfl rfl trivial rfl ?_)
     refine rvP C (.pv (.lit (.int .i64 0))) ?_
     refine rvc_nil ?_
     refine Awp.ret ?_
     subst hR
     exact ⟨.inl rfl, rfl⟩
 -- !! two models: ('(bif (decide ((vc.length : Int) < (l.D.length : Int))) then ((Chain.mk 0 (Sl.mk true [])), 80) else (bif ((rCheck (Chain.mk 1 (Sl.mk vc.isEmpty vc))) != 0) then ((Chain.mk 0 (Sl.mk true [])), 80) else ((Chain.mk 1 (Sl.mk vc.isEmpty vc)), 0)))', 'rFirst_l1 i (fun vc1 => rFirst_l0 l k (i + 1) vc1) l.D 0 vc') ||| ('(bif (decide ((vc.length : Int) < (l.D.length : Int))) then ((Chain.mk 0 (Sl.mk true [])), 80) else (bif ((rCheck (Chain.mk 1 (Sl.mk vc.isEmpty vc))) != 0) then ((Chain.mk 0 (Sl.mk true [])), 80) else ((Chain.mk 1 (Sl.mk vc.isEmpty vc)), 0)))', 'rFirst_l1 i (fun vc2 => rFirst_l0 l k (i + 1) vc2) l.D 0 vc')
def rNext (c : Chain) (k : Command) : Chain × Int :=
  (bif (k.epoch != c.epoch) then ((Chain.mk 0 (Sl.mk true [])), 150) else (bif (k.kind == 1) then ((rCut c k.node (-1)).1, (rCut c k.node (-1)).2) else (bif (k.kind == 5) then ((rCut c (-1) k.site).1, (rCut c (-1) k.site).2) else (bif (k.kind == 2) then ((rJoin c (Member.mk k.node k.site false)).1, (rJoin c (Member.mk k.node k.site false)).2) else (bif (k.kind == 3) then ((rAgain c k.node).1, (rAgain c k.node).2) else ((rReady c k.node).1, (rReady c k.node).2))))))
theorem rNext_calls (c : Chain) (k : Command) (hl1 : c.members.D.length ≤ 1000000) : PCalls Try.prog 53 [.agg [.pv (.lit (.int .i64 c.epoch)), sS (some c.members.nil) eMember c.members.D], .agg [.pv (.lit (.int .i64 k.kind)), .pv (.lit (.int .i64 k.node)), .pv (.lit (.int .i64 k.site)), .pv (.lit (.int .i64 k.epoch))]] (.tup [.agg [.pv (.lit (.int .i64 ((rNext c k).1.epoch))), sS (some (rNext c k).1.members.nil) eMember ((rNext c k).1.members.D)], .pv (.lit (.int .i64 ((rNext c k).2)))]) := by
 generalize hR : rNext c k = R
 refine PCalls.of_body tabOk Try.func53 rfl rfl rfl rfl rfl mixed fun E hP C hI => ?_
 refine Awp.consP C ?_
 refine rvc_un (rexec_prim C (δ := { v := .ptr 2 0, new := [(2, .cells [.pv (.lit (.int .i64 c.epoch)), sS (some c.members.nil) eMember c.members.D])] }) rfl rfl rfl rfl trivial rfl ?_)
 refine rvc_un (rexec_prim C (δ := { v := .ptr 3 0, new := [(3, .cells [.pv (.lit (.int .i64 k.kind)), .pv (.lit (.int .i64 k.node)), .pv (.lit (.int .i64 k.site)), .pv (.lit (.int .i64 k.epoch))])] }) rfl rfl rfl rfl trivial rfl ?_)
 refine rvc_un (rexec_prim C (δ := { v := .ptr 4 0, new := [(4, .cells [.pv (.lit (.int .i64 0)), sS (some true) eMember []])] }) rfl rfl rfl rfl trivial rfl ?_)
 refine rvP C (.pv (.lit (.int .i64 0))) ?_
 refine rvc_nil ?_
 refine Awp.seq ?_
 refine Awp.consP C ?_
 refine rvP C (.ptr 3 3) ?_
 refine rvP C (.pv (.lit (.int .i64 k.epoch))) ?_
 refine rvP C (.ptr 2 0) ?_
 refine rvP C (.pv (.lit (.int .i64 c.epoch))) ?_
 refine rvP C (.pv (.lit (.bool (k.epoch != c.epoch)))) ?_
 refine rvc_nil ?_
 refine Awp.cond (b := (k.epoch != c.epoch)) rfl (fun h1 => ?_) (fun h1 => ?_)
 ·
  replace hR := of_true h1 hR
  refine Awp.consP C ?_
  refine rvP C (.agg [.pv (.lit (.int .i64 0)), sS (some true) eMember []]) ?_
  refine rvc_un (rexec_prim C (δ := { v := .undef, wr := [(4, some (.cells [.pv (.lit (.int .i64 0)), sS (some true) eMember []]))] }) rfl rfl rfl rfl trivial rfl ?_)
  refine rvP C (.pv (.lit (.int .i64 150))) ?_
  refine rvc_nil ?_
  refine Awp.ret ?_
  subst hR
  exact ⟨.inl rfl, rfl⟩
 ·
  replace hR := of_false h1 hR
  refine Awp.skip ?_
  refine Awp.seq ?_
  refine Awp.consP C ?_
  refine rvP C (.ptr 3 0) ?_
  refine rvP C (.pv (.lit (.int .i64 k.kind))) ?_
  refine rvc_nil ?_
  refine Awp.block ?_
  refine Awp.consP C ?_
  refine rvP C (.pv (.lit (.bool (k.kind == 1)))) ?_
  refine rvP C (.pv (.lit (.bool (k.kind == 1)))) ?_
  refine rvc_nil ?_
  refine Awp.cond (b := (k.kind == 1)) rfl (fun h2 => ?_) (fun h2 => ?_)
  ·
   replace hR := of_true h2 hR
   refine Awp.consP C ?_
   refine rvP C (.agg [.pv (.lit (.int .i64 c.epoch)), sS (some c.members.nil) eMember c.members.D]) ?_
   refine rvP C (.ptr 3 1) ?_
   refine rvP C (.pv (.lit (.int .i64 k.node))) ?_
   refine rvc_un (rexec_call hP C rfl rfl rfl (rCut_calls c k.node (-1) hl1) ?_)
   refine rvP C (.agg [.pv (.lit (.int .i64 ((rCut c k.node (-1)).1.epoch))), sS (some (rCut c k.node (-1)).1.members.nil) eMember ((rCut c k.node (-1)).1.members.D)]) ?_
   refine rvP C (.pv (.lit (.int .i64 ((rCut c k.node (-1)).2)))) ?_
   refine rvc_un (rexec_prim C (δ := { v := .undef, wr := [(4, some (.cells [.pv (.lit (.int .i64 ((rCut c k.node (-1)).1.epoch))), sS (some (rCut c k.node (-1)).1.members.nil) eMember ((rCut c k.node (-1)).1.members.D)]))] }) rfl rfl rfl rfl trivial rfl ?_)
   refine rvP C (.pv (.lit (.int .i64 ((rCut c k.node (-1)).2)))) ?_
   refine rvc_nil ?_
   refine Awp.ret ?_
   subst hR
   exact ⟨.inl rfl, rfl⟩
  ·
   replace hR := of_false h2 hR
   refine Awp.consP C ?_
   refine rvP C (.pv (.lit (.bool (k.kind == 5)))) ?_
   refine rvP C (.pv (.lit (.bool (k.kind == 5)))) ?_
   refine rvc_nil ?_
   refine Awp.cond (b := (k.kind == 5)) rfl (fun h3 => ?_) (fun h3 => ?_)
   ·
    replace hR := of_true h3 hR
    refine Awp.consP C ?_
    refine rvP C (.agg [.pv (.lit (.int .i64 c.epoch)), sS (some c.members.nil) eMember c.members.D]) ?_
    refine rvP C (.ptr 3 2) ?_
    refine rvP C (.pv (.lit (.int .i64 k.site))) ?_
    refine rvc_un (rexec_call hP C rfl rfl rfl (rCut_calls c (-1) k.site hl1) ?_)
    refine rvP C (.agg [.pv (.lit (.int .i64 ((rCut c (-1) k.site).1.epoch))), sS (some (rCut c (-1) k.site).1.members.nil) eMember ((rCut c (-1) k.site).1.members.D)]) ?_
    refine rvP C (.pv (.lit (.int .i64 ((rCut c (-1) k.site).2)))) ?_
    refine rvc_un (rexec_prim C (δ := { v := .undef, wr := [(4, some (.cells [.pv (.lit (.int .i64 ((rCut c (-1) k.site).1.epoch))), sS (some (rCut c (-1) k.site).1.members.nil) eMember ((rCut c (-1) k.site).1.members.D)]))] }) rfl rfl rfl rfl trivial rfl ?_)
    refine rvP C (.pv (.lit (.int .i64 ((rCut c (-1) k.site).2)))) ?_
    refine rvc_nil ?_
    refine Awp.ret ?_
    subst hR
    exact ⟨.inl rfl, rfl⟩
   ·
    replace hR := of_false h3 hR
    refine Awp.consP C ?_
    refine rvP C (.pv (.lit (.bool (k.kind == 2)))) ?_
    refine rvP C (.pv (.lit (.bool (k.kind == 2)))) ?_
    refine rvc_nil ?_
    refine Awp.cond (b := (k.kind == 2)) rfl (fun h4 => ?_) (fun h4 => ?_)
    ·
     replace hR := of_true h4 hR
     refine Awp.consP C ?_
     refine rvP C (.agg [.pv (.lit (.int .i64 c.epoch)), sS (some c.members.nil) eMember c.members.D]) ?_
     refine rvP C (.ptr 3 1) ?_
     refine rvP C (.pv (.lit (.int .i64 k.node))) ?_
     refine rvP C (.ptr 3 2) ?_
     refine rvP C (.pv (.lit (.int .i64 k.site))) ?_
     refine rvP C (.agg [.pv (.lit (.int .i64 k.node)), .pv (.lit (.int .i64 k.site)), .pv (.lit (.bool false))]) ?_
     refine rvc_un (rexec_call hP C rfl rfl rfl (rJoin_calls c (Member.mk k.node k.site false) hl1) ?_)
     refine rvP C (.agg [.pv (.lit (.int .i64 ((rJoin c (Member.mk k.node k.site false)).1.epoch))), sS (some (rJoin c (Member.mk k.node k.site false)).1.members.nil) eMember ((rJoin c (Member.mk k.node k.site false)).1.members.D)]) ?_
     refine rvP C (.pv (.lit (.int .i64 ((rJoin c (Member.mk k.node k.site false)).2)))) ?_
     refine rvc_un (rexec_prim C (δ := { v := .undef, wr := [(4, some (.cells [.pv (.lit (.int .i64 ((rJoin c (Member.mk k.node k.site false)).1.epoch))), sS (some (rJoin c (Member.mk k.node k.site false)).1.members.nil) eMember ((rJoin c (Member.mk k.node k.site false)).1.members.D)]))] }) rfl rfl rfl rfl trivial rfl ?_)
     refine rvP C (.pv (.lit (.int .i64 ((rJoin c (Member.mk k.node k.site false)).2)))) ?_
     refine rvc_nil ?_
     refine Awp.ret ?_
     subst hR
     exact ⟨.inl rfl, rfl⟩
    ·
     replace hR := of_false h4 hR
     refine Awp.consP C ?_
     refine rvP C (.pv (.lit (.bool (k.kind == 3)))) ?_
     refine rvP C (.pv (.lit (.bool (k.kind == 3)))) ?_
     refine rvc_nil ?_
     refine Awp.cond (b := (k.kind == 3)) rfl (fun h5 => ?_) (fun h5 => ?_)
     ·
      replace hR := of_true h5 hR
      refine Awp.consP C ?_
      refine rvP C (.agg [.pv (.lit (.int .i64 c.epoch)), sS (some c.members.nil) eMember c.members.D]) ?_
      refine rvP C (.ptr 3 1) ?_
      refine rvP C (.pv (.lit (.int .i64 k.node))) ?_
      refine rvc_un (rexec_call hP C rfl rfl rfl (rAgain_calls c k.node hl1) ?_)
      refine rvP C (.agg [.pv (.lit (.int .i64 ((rAgain c k.node).1.epoch))), sS (some (rAgain c k.node).1.members.nil) eMember ((rAgain c k.node).1.members.D)]) ?_
      refine rvP C (.pv (.lit (.int .i64 ((rAgain c k.node).2)))) ?_
      refine rvc_un (rexec_prim C (δ := { v := .undef, wr := [(4, some (.cells [.pv (.lit (.int .i64 ((rAgain c k.node).1.epoch))), sS (some (rAgain c k.node).1.members.nil) eMember ((rAgain c k.node).1.members.D)]))] }) rfl rfl rfl rfl trivial rfl ?_)
      refine rvP C (.pv (.lit (.int .i64 ((rAgain c k.node).2)))) ?_
      refine rvc_nil ?_
      refine Awp.ret ?_
      subst hR
      exact ⟨.inl rfl, rfl⟩
     ·
      replace hR := of_false h5 hR
      refine Awp.skip ?_
      refine Awp.consP C ?_
      refine rvP C (.agg [.pv (.lit (.int .i64 c.epoch)), sS (some c.members.nil) eMember c.members.D]) ?_
      refine rvP C (.ptr 3 1) ?_
      refine rvP C (.pv (.lit (.int .i64 k.node))) ?_
      refine rvc_un (rexec_call hP C rfl rfl rfl (rReady_calls c k.node hl1) ?_)
      refine rvP C (.agg [.pv (.lit (.int .i64 ((rReady c k.node).1.epoch))), sS (some (rReady c k.node).1.members.nil) eMember ((rReady c k.node).1.members.D)]) ?_
      refine rvP C (.pv (.lit (.int .i64 ((rReady c k.node).2)))) ?_
      refine rvc_un (rexec_prim C (δ := { v := .undef, wr := [(4, some (.cells [.pv (.lit (.int .i64 ((rReady c k.node).1.epoch))), sS (some (rReady c k.node).1.members.nil) eMember ((rReady c k.node).1.members.D)]))] }) rfl rfl rfl rfl trivial rfl ?_)
      refine rvP C (.pv (.lit (.int .i64 ((rReady c k.node).2)))) ?_
      refine rvc_nil ?_
      refine Awp.ret ?_
      subst hR
      exact ⟨.inl rfl, rfl⟩
def lDead (l : Ledger) : Bool :=
  (l.chain.epoch == 0)
theorem lDead_calls (l : Ledger)  : MCalls Try.prog 41 [.ptr 0 0] (.cells [sS (some l.past.all.nil) eChain l.past.all.D, .pv (.lit (.int .i64 l.chain.epoch)), sS (some l.chain.members.nil) eMember l.chain.members.D, .pv (.lit (.int .i64 l.at_))]) (.pv (.lit (.bool (lDead l)))) (.cells [sS (some l.past.all.nil) eChain l.past.all.D, .pv (.lit (.int .i64 l.chain.epoch)), sS (some l.chain.members.nil) eMember l.chain.members.D, .pv (.lit (.int .i64 l.at_))]) := by
 generalize hR : lDead l = R
 refine MCalls.of_body tabOk Try.func41 rfl rfl rfl rfl rfl rfl rfl mixed fun E hP C hI => ?_
 refine Awp.consP C ?_
 refine rvP C (.pv (.lit (.bool false))) ?_
 refine rvc_nil ?_
 refine Awp.consP C ?_
 refine rvP C (.ptr 0 0) ?_
 refine rvc_un (rexec_eqPtr C false true (z := .pv (.lit (.bool false))) rfl rfl rfl rfl rfl rfl rfl rfl rfl ?_)
 refine rvP C (.pv (.lit (.bool false))) ?_
 refine rvO C (.ptr 0 0) ?_
 refine rvO C (.ptr 0 0) ?_
 refine rvO C (.ptr 0 1) ?_
 refine rvO C (.ptr 0 1) ?_
 refine rvO C (.pv (.lit (.int .i64 l.chain.epoch))) ?_
 refine rvO C (.pv (.lit (.bool (l.chain.epoch == 0)))) ?_
 refine rvP C (.pv (.lit (.bool (l.chain.epoch == 0)))) ?_
 refine rvP C (.pv (.lit (.bool (l.chain.epoch == 0)))) ?_
 refine rvc_nil ?_
 refine Awp.ret ?_
 subst hR
 exact ⟨.inl rfl, rfl, rfl⟩
def lAt (l : Ledger) : Int :=
  (bif (lDead l) then 0 else l.at_)
theorem lAt_calls (l : Ledger)  : MCalls Try.prog 17 [.ptr 0 0] (.cells [sS (some l.past.all.nil) eChain l.past.all.D, .pv (.lit (.int .i64 l.chain.epoch)), sS (some l.chain.members.nil) eMember l.chain.members.D, .pv (.lit (.int .i64 l.at_))]) (.pv (.lit (.int .i64 (lAt l)))) (.cells [sS (some l.past.all.nil) eChain l.past.all.D, .pv (.lit (.int .i64 l.chain.epoch)), sS (some l.chain.members.nil) eMember l.chain.members.D, .pv (.lit (.int .i64 l.at_))]) := by
 generalize hR : lAt l = R
 refine MCalls.of_body tabOk Try.func17 rfl rfl rfl rfl rfl rfl rfl mixed fun E hP C hI => ?_
 refine Awp.consP C ?_
 refine rvP C (.pv (.lit (.int .i64 0))) ?_
 refine rvc_nil ?_
 refine Awp.seq ?_
 refine Awp.cons C (fun _ => .writer) (by kernel_rfl) ?_
 refine rvP C (.ptr 0 0) ?_
 refine rvc_un (rexec_callM hP C (b := 0) rfl rfl rfl (lDead_calls l) rfl rfl ?_)
 refine rvc_nil ?_
 refine Awp.cond (b := (lDead l)) rfl (fun h1 => ?_) (fun h1 => ?_)
 ·
  replace hR := of_true h1 hR
  refine Awp.consP C ?_
  refine rvP C (.pv (.lit (.int .i64 0))) ?_
  refine rvc_nil ?_
  refine Awp.ret ?_
  subst hR
  exact ⟨.inl rfl, rfl, rfl⟩
 ·
  replace hR := of_false h1 hR
  refine Awp.skip ?_
  refine Awp.consP C ?_
  refine rvP C (.ptr 0 0) ?_
  refine rvP C (.ptr 0 0) ?_
  refine rvP C (.ptr 0 3) ?_
  refine rvP C (.pv (.lit (.int .i64 l.at_))) ?_
  refine rvP C (.pv (.lit (.int .i64 l.at_))) ?_
  refine rvc_nil ?_
  refine Awp.ret ?_
  subst hR
  exact ⟨.inl rfl, rfl, rfl⟩
def lChain (l : Ledger) : Chain :=
  (bif (lDead l) then (Chain.mk 0 (Sl.mk true [])) else (copied l.chain))
theorem lChain_calls (l : Ledger) (hl1 : l.chain.members.D.length ≤ 1000000) : MCalls Try.prog 14 [.ptr 0 0] (.cells [sS (some l.past.all.nil) eChain l.past.all.D, .pv (.lit (.int .i64 l.chain.epoch)), sS (some l.chain.members.nil) eMember l.chain.members.D, .pv (.lit (.int .i64 l.at_))]) (.agg [.pv (.lit (.int .i64 ((lChain l).epoch))), sS (some (lChain l).members.nil) eMember ((lChain l).members.D)]) (.cells [sS (some l.past.all.nil) eChain l.past.all.D, .pv (.lit (.int .i64 l.chain.epoch)), sS (some l.chain.members.nil) eMember l.chain.members.D, .pv (.lit (.int .i64 l.at_))]) := by
 generalize hR : lChain l = R
 refine MCalls.of_body tabOk Try.func14 rfl rfl rfl rfl rfl rfl rfl mixed fun E hP C hI => ?_
 refine Awp.consP C ?_
 refine rvc_un (rexec_prim C (δ := { v := .ptr 2 0, new := [(2, .cells [.pv (.lit (.int .i64 0)), sS (some true) eMember []])] }) rfl rfl rfl rfl trivial rfl ?_)
 refine rvc_nil ?_
 refine Awp.seq ?_
 refine Awp.cons C (fun _ => .writer) (by kernel_rfl) ?_
 refine rvP C (.ptr 0 0) ?_
 refine rvc_un (rexec_callM hP C (b := 0) rfl rfl rfl (lDead_calls l) rfl rfl ?_)
 refine rvc_nil ?_
 refine Awp.cond (b := (lDead l)) rfl (fun h1 => ?_) (fun h1 => ?_)
 ·
  replace hR := of_true h1 hR
  refine Awp.consP C ?_
  refine rvP C (.agg [.pv (.lit (.int .i64 0)), sS (some true) eMember []]) ?_
  refine rvc_un (rexec_prim C (δ := { v := .undef, wr := [(2, some (.cells [.pv (.lit (.int .i64 0)), sS (some true) eMember []]))] }) rfl rfl rfl rfl trivial rfl ?_)
  refine rvc_nil ?_
  refine Awp.ret ?_
  subst hR
  exact ⟨.inl rfl, rfl, rfl⟩
 ·
  replace hR := of_false h1 hR
  refine Awp.skip ?_
  refine Awp.consP C ?_
  refine rvP C (.ptr 0 0) ?_
  refine rvP C (.ptr 0 0) ?_
  refine rvP C (.ptr 0 1) ?_
  refine rvP C (.agg [.pv (.lit (.int .i64 l.chain.epoch)), sS (some l.chain.members.nil) eMember l.chain.members.D]) ?_
  refine rvc_un (rexec_call hP C rfl rfl rfl (copied_calls l.chain hl1) ?_)
  refine rvc_un (rexec_prim C (δ := { v := .undef, wr := [(2, some (.cells [.pv (.lit (.int .i64 ((copied l.chain).epoch))), sS (some (copied l.chain).members.nil) eMember ((copied l.chain).members.D)]))] }) rfl rfl rfl rfl trivial rfl ?_)
  refine rvc_nil ?_
  refine Awp.ret ?_
  subst hR
  exact ⟨.inl rfl, rfl, rfl⟩
end Go.Proofs.Ytpgenmflgdkfiaa
/- Chains in plain Lean: what chapter 8 shows of them. No conditions. -/
namespace Go.Proofs.Ytpgenmflgdkfiaa
open Go.Am
theorem indexFunc_l0_eq (n : Int) : ∀ (l : List Member) (i : Nat), indexFunc_l0 (fun x0 => placeF x0 n) l i = rPlace_l0 n l i
  | [], _ => rfl
  | x :: l, i => by
    show (bif x.node == n then (i : Int) else indexFunc_l0 (fun x0 => placeF x0 n) l (i + 1)) = _
    rw [indexFunc_l0_eq n l (i + 1)]; rfl
theorem place_eq (c : Chain) (n : Int) : place0 c n = rPlace c n := by
  unfold place0 rPlace placeIn indexFunc
  rw [check_eq, indexFunc_l0_eq]
def bitsOf (p : Member → Bool) (l : List Member) (S : Nat) : Nat := l.foldl (fun S x => if p x && mIn x.node then S ||| 2 ^ x.node.toNat else S) S
theorem in_iff (n : Int) : mIn n = true ↔ 0 ≤ n ∧ n < 64 := by
  unfold mIn
  by_cases h1 : n ≥ 0 <;> by_cases h2 : n < 64 <;> simp [h1, h2] <;> omega
theorem with_cast {S : Nat} (hS : S < 18446744073709551616) (n : Int) : mWith (S : Int) n = ((if mIn n then S ||| 2 ^ n.toNat else S : Nat) : Int) := by
  cases h : mIn n
  · rw [with_out h]; simp
  · obtain ⟨h1, h2⟩ := (in_iff n).1 h
    obtain ⟨k, rfl⟩ : ∃ k : Nat, n = (k : Int) := ⟨n.toNat, by omega⟩
    rw [with_nat hS (by omega)]; simp
theorem with_cast_lt {S : Nat} (hS : S < 18446744073709551616) (n : Int) : (if mIn n then S ||| 2 ^ n.toNat else S : Nat) < 18446744073709551616 := by
  cases h : mIn n
  · simpa using hS
  · obtain ⟨h1, h2⟩ := (in_iff n).1 h
    simp only [if_true]
    exact with_lt hS (by omega)
theorem nodes_l0_eq : ∀ (l : List Member) (i S : Nat), S < 18446744073709551616 → nodes_l0 l i (S : Int) = (bitsOf (fun _ => true) l S : Nat) ∧ bitsOf (fun _ => true) l S < 18446744073709551616
  | [], _, S, hS => ⟨rfl, hS⟩
  | x :: l, i, S, hS => by
    have := nodes_l0_eq l (i + 1) _ (with_cast_lt hS x.node)
    simp only [nodes_l0, with_cast hS, this.1]
    simp only [bitsOf, List.foldl_cons, Bool.true_and] at this ⊢
    exact ⟨trivial, this.2⟩
theorem bits_test (p : Member → Bool) {n : Nat} (hn : n < 64) : ∀ (l : List Member) (S : Nat), (bitsOf p l S).testBit n = (S.testBit n || l.any fun x => x.node == (n : Int) && p x)
  | [], S => by simp [bitsOf]
  | x :: l, S => by
    have h : bitsOf p (x :: l) S = bitsOf p l (if p x && mIn x.node then S ||| 2 ^ x.node.toNat else S) := rfl
    rw [h, bits_test p hn l, List.any_cons]
    by_cases hx : x.node = (n : Int)
    · have hin : mIn x.node = true := (in_iff _).2 (by omega)
      rw [hin, hx]
      cases p x <;> simp [Nat.testBit_or]
    · have e : (x.node == (n : Int)) = false := by simpa using hx
      rw [e]
      cases hp : p x && mIn x.node
      · simp
      · have hin : mIn x.node = true := by simp only [Bool.and_eq_true] at hp; exact hp.2
        obtain ⟨h1, h2⟩ := (in_iff _).1 hin
        have : x.node.toNat ≠ n := by omega
        simp [Nat.testBit_or, this]
theorem ok_apart : ∀ (l pre : List Member), okFrom pre l = true → ∀ y ∈ l, ∀ z ∈ pre, z.node ≠ y.node
  | [], _, _, y, hy, _, _ => by cases hy
  | x :: l, pre, h, y, hy, z, hz => by
    simp only [okFrom, Bool.and_eq_true] at h
    obtain ⟨⟨_, h2⟩, h3⟩ := h
    cases hy with
    | head =>
      have := List.all_eq_true.1 h2 z hz
      simp at this
      exact this.1
    | tail _ hm => exact ok_apart l (pre ++ [x]) h3 y hm z (by simp [hz])
theorem ok_of_check {c : Chain} (h : check c = 0) : okFrom [] c.members.D = true := by
  unfold check at h
  obtain ⟨_, h⟩ := bif_const (by decide) h
  obtain ⟨_, h⟩ := bif_const (by decide) h
  obtain ⟨_, h⟩ := bif_const (by decide) h
  obtain ⟨_, h⟩ := bif_const (by decide) h
  have h1 : check_l0 c.members.D 0 0 0 = bif okFrom [] c.members.D then 0 else 80 := check_l0_eq c.members.D [] 0 0 0 ⟨by decide, fun n hn => by
    have := has_nat (S := 0) (n := n) (by decide) (by omega)
    rw [this]; simp, fun y hy => (by cases hy), .inl rfl⟩
  rw [h1] at h
  cases ho : okFrom [] c.members.D
  · rw [ho] at h; cases h
  · rfl
theorem ok_member : ∀ (l pre : List Member), okFrom pre l = true → ∀ y ∈ l, member y = true
  | [], _, _, y, hy => by cases hy
  | x :: l, pre, h, y, hy => by
    simp only [okFrom, Bool.and_eq_true] at h
    cases hy with
    | head => exact h.1.1
    | tail _ hm => exact ok_member l (pre ++ [x]) h.2 y hm
def eqC (a b : Chain) : Prop := a.epoch = b.epoch ∧ a.members.D = b.members.D
def eqP (p q : Chain × Int) : Prop := eqC p.1 q.1 ∧ p.2 = q.2
theorem eqC_refl (a : Chain) : eqC a a := ⟨rfl, rfl⟩
theorem rSame_of {a b : Chain} (h : eqC a b) : rSame a b = true := by
  have := same_self b
  rw [same_eq] at this
  unfold rSame at this ⊢
  rw [h.1, h.2]; exact this
theorem clone_eq {s : Sl Member} (h : s.nil = true → s.D = []) : cloneMembers s = s := by
  unfold cloneMembers
  cases s with
  | mk f D =>
    cases f
    · rfl
    · have h : D = [] := h rfl
      rw [h]; rfl
def finW (c : Chain) (l : List Member) : Chain × Int :=
  bif decide (c.epoch ≥ 1099511627776) then (Chain.mk 0 (Sl.mk true []), 5) else bif ((l.length : Int) == (c.members.D.length : Int)) then (Chain.mk 0 (Sl.mk true []), 81) else bif ((l.length : Int) == 0) then (Chain.mk 0 (Sl.mk true []), 83) else (after c (Sl.mk l.isEmpty l), 0)
theorem without_l0_eq (c : Chain) (gone : Int) : ∀ (xs : List Member) (i : Nat) (l : List Member), without_l0 c gone xs i l = finW c (if l = [] then (xs.filter fun x => !mHas gone x.node).dropWhile (·.fresh) else l ++ xs.filter fun x => !mHas gone x.node)
  | [], _, l => by
    unfold without_l0 finW
    cases l <;> simp
  | x :: xs, i, l => by
    unfold without_l0
    cases hk : mHas gone x.node
    · cases l with
      | nil =>
        cases hf : x.fresh
        · simp [without_l0_eq c gone xs, hk, hf]
        · simp [without_l0_eq c gone xs, hk, hf]
      | cons y l =>
        have : decide ((((y :: l).length : Nat) : Int) > 0) = true := by simp
        rw [this]
        simp [without_l0_eq c gone xs, hk]
    · simp [without_l0_eq c gone xs, hk]
theorem without_eq (c : Chain) (gone : Int) : without c gone = finW c ((c.members.D.filter fun x => !mHas gone x.node).dropWhile (·.fresh)) := by
  unfold without; rw [without_l0_eq]; rfl
def finC (c : Chain) (l : Sl Member) : Chain × Int :=
  bif ((l.D.length : Int) == (c.members.D.length : Int)) then (Chain.mk 0 (Sl.mk true []), 81) else bif ((l.D.length : Int) == 0) then (Chain.mk 0 (Sl.mk true []), 83) else (Chain.mk (IntKind.i64.wrap (c.epoch + 1)) l, 0)
theorem rCut_l1_eq (c : Chain) : ∀ (n : Nat) (l : Sl Member), l.D.length < n → rCut_l1 c n l = finC c ⟨l.nil, l.D.dropWhile (·.fresh)⟩
  | 0, _, h => by omega
  | n + 1, ⟨f, []⟩, _ => rfl
  | n + 1, ⟨f, x :: l⟩, h => by
    have h' : l.length < n := by simp only [List.length_cons] at h; omega
    have ih := rCut_l1_eq c n ⟨f, l⟩ h'
    unfold rCut_l1
    have e1 : decide ((((x :: l).length : Nat) : Int) > 0) = true := by simp
    simp only [e1, cond_true]
    have e2 : (x :: l)[0]! = x := rfl
    rw [e2]
    cases hf : x.fresh
    · simp only [cond_false, List.dropWhile_cons, hf]; rfl
    · simp only [cond_true, List.dropWhile_cons, hf, if_true]
      exact ih
theorem rCut_l0_eq (c : Chain) (node site : Int) : ∀ (xs : List Member) (i : Nat) (l : List Member), rCut_l0 c node site xs i l = finC c ⟨(l ++ xs.filter fun x => x.node != node && x.site != site).isEmpty, (l ++ xs.filter fun x => x.node != node && x.site != site).dropWhile (·.fresh)⟩
  | [], _, l => by
    unfold rCut_l0
    rw [rCut_l1_eq c _ _ (Nat.lt_succ_self _)]
    simp
  | x :: xs, i, l => by
    unfold rCut_l0
    cases h1 : x.node != node
    · simp [rCut_l0_eq c node site xs, h1]
    · cases h2 : x.site != site
      · simp [rCut_l0_eq c node site xs, h1, h2]
      · simp [rCut_l0_eq c node site xs, h1, h2]
theorem epoch_of {c : Chain} (h : check c = 0) : 1 ≤ c.epoch ∧ c.epoch ≤ 1099511627776 := by
  unfold check at h
  obtain ⟨h1, h⟩ := bif_const (by decide) h
  obtain ⟨h2, h⟩ := bif_const (by decide) h
  have := of_decide_eq_false h1
  have := of_decide_eq_false h2
  omega
theorem cut_eq {c : Chain} (hc : check c = 0) (gone node site : Int) (h : ∀ x ∈ c.members.D, (!mHas gone x.node) = (x.node != node && x.site != site)) : eqP (without c gone) (rCut c node site) := by
  rw [without_eq, List.filter_congr h]
  unfold rCut
  rw [← check_eq, hc, rCut_l0_eq]
  simp only [List.nil_append]
  generalize (c.members.D.filter fun x => x.node != node && x.site != site) = l
  obtain ⟨e1, e2⟩ := epoch_of hc
  have hne : ((0 : Int) != 0) = false := rfl
  rw [hne, cond_false]
  unfold finW finC
  by_cases he : c.epoch = 1099511627776
  · have d1 : decide (c.epoch ≥ 1099511627776) = true := by simp; omega
    have d2 : (c.epoch == 1099511627776) = true := by simp [he]
    rw [d1, d2]; exact ⟨eqC_refl _, rfl⟩
  · have d1 : decide (c.epoch ≥ 1099511627776) = false := by simp; omega
    have d2 : (c.epoch == 1099511627776) = false := by simp [he]
    rw [d1, d2]
    simp only [cond_false]
    cases (((l.dropWhile (·.fresh)).length : Int) == (c.members.D.length : Int))
    · cases (((l.dropWhile (·.fresh)).length : Int) == 0)
      · exact ⟨⟨rfl, rfl⟩, rfl⟩
      · exact ⟨eqC_refl _, rfl⟩
    · exact ⟨eqC_refl _, rfl⟩
theorem mem_ok {c : Chain} (hc : check c = 0) {x : Member} (hx : x ∈ c.members.D) : 0 ≤ x.node ∧ x.node ≤ 5 ∧ 0 ≤ x.site ∧ x.site ≤ 2 :=
  (member_iff x).1 (ok_member _ _ (ok_of_check hc) x hx)
theorem has_mask (n m : Int) (h : 0 ≤ m ∧ m ≤ 5) : mHas (maskOf ⟨false, [n]⟩) m = (m == n) := by
  obtain ⟨k, rfl⟩ : ∃ k : Nat, m = (k : Int) := ⟨m.toNat, by omega⟩
  show mHas (mWith ((0 : Nat) : Int) n) (k : Int) = _
  cases hn : mIn n
  · rw [with_out hn, has_nat (by decide) (by omega)]
    have : (((k : Nat) : Int) == n) = false := by
      rw [beq_eq_false_iff_ne]
      intro e; subst e
      rw [in_nat] at hn
      have := of_decide_eq_false hn
      omega
    rw [this]; simp
  · obtain ⟨h1, h2⟩ := (in_iff n).1 hn
    obtain ⟨j, rfl⟩ : ∃ j : Nat, n = (j : Int) := ⟨n.toNat, by omega⟩
    rw [has_with (by decide) (by omega) (by omega), has_nat (by decide) (by omega)]
    by_cases e : j = k
    · simp [e]
    · have : ((k : Int) == (j : Int)) = false := by simp; omega
      rw [this]; simp [e]
theorem check_80 (c : Chain) : check c = 0 ∨ check c = 80 := by
  unfold check
  have h1 : check_l0 c.members.D 0 0 0 = bif okFrom [] c.members.D then 0 else 80 := check_l0_eq c.members.D [] 0 0 0 ⟨by decide, fun n hn => by
    have := has_nat (S := 0) (n := n) (by decide) (by omega)
    rw [this]; simp, fun y hy => (by cases hy), .inl rfl⟩
  rw [h1]
  cases decide (c.epoch < 1) <;> cases decide (c.epoch > 1099511627776) <;> cases ((c.members.D.length : Int) == 0) <;> cases c.members.D[0]!.fresh <;> cases okFrom [] c.members.D <;> simp
theorem check_bad {c : Chain} (h : (check c != 0) = true) : check c = 80 := by
  rcases check_80 c with h' | h'
  · rw [h'] at h; cases h
  · exact h'
theorem cut_bad {c : Chain} (h : (check c != 0) = true) (n s : Int) : rCut c n s = (Chain.mk 0 (Sl.mk true []), 80) := by
  unfold rCut; rw [← check_eq, h]; rfl
theorem drop_eq (c : Chain) (node : Int) : eqP (drop c node) (bif (node == (-1)) then rCut c (-2) (-1) else rCut c node (-1)) := by
  unfold drop
  cases hc : check c != 0
  case true =>
    rw [cut_bad hc, cut_bad hc, check_bad hc]
    cases (node == (-1)) <;> exact ⟨eqC_refl _, rfl⟩
  have hc := eq_of_bne_false hc
  have hm : ∀ x ∈ c.members.D, mHas (maskOf ⟨false, [node]⟩) x.node = (x.node == node) := fun x hx => has_mask _ _ ⟨(mem_ok hc hx).1, (mem_ok hc hx).2.1⟩
  show eqP (without c _) _
  cases hn : node == (-1)
  · refine cut_eq hc _ _ _ fun x hx => ?_
    obtain ⟨m1, m2, m3, m4⟩ := mem_ok hc hx
    rw [hm x hx]
    have : (x.site != -1) = true := by simp; omega
    rw [this]; simp [bne]
  · refine cut_eq hc _ _ _ fun x hx => ?_
    obtain ⟨m1, m2, m3, m4⟩ := mem_ok hc hx
    have hn : node = -1 := by simpa using hn
    rw [hm x hx]
    have e1 : (x.site != -1) = true := by simp; omega
    have e2 : (x.node != -2) = true := by simp; omega
    have e3 : (x.node == node) = false := by simp; omega
    rw [e1, e2, e3]; rfl
theorem ok_inj : ∀ (l pre : List Member), okFrom pre l = true → ∀ x ∈ l, ∀ y ∈ l, x.node = y.node → x = y
  | [], _, _, x, hx, _, _, _ => by cases hx
  | z :: l, pre, h, x, hx, y, hy, e => by
    simp only [okFrom, Bool.and_eq_true] at h
    obtain ⟨_, h3⟩ := h
    cases hx with
    | head => cases hy with
      | head => rfl
      | tail _ hy => exact absurd e (ok_apart l _ h3 y hy z (by simp))
    | tail _ hx => cases hy with
      | head => exact absurd e.symm (ok_apart l _ h3 x hx _ (List.mem_append_right _ (List.mem_cons_self ..)))
      | tail _ hy => exact ok_inj l _ h3 x hx y hy e
theorem dropSite_l0_eq (c : Chain) (site : Int) : ∀ (l : List Member) (i S : Nat), S < 18446744073709551616 → dropSite_l0 c site l i (S : Int) = without c ((bitsOf (fun x => x.site == site) l S : Nat) : Int) ∧ bitsOf (fun x => x.site == site) l S < 18446744073709551616
  | [], _, S, h => ⟨rfl, h⟩
  | x :: l, i, S, h => by
    have hb : bitsOf (fun x => x.site == site) (x :: l) S = bitsOf (fun x => x.site == site) l (if (x.site == site) && mIn x.node then S ||| 2 ^ x.node.toNat else S) := rfl
    rw [hb]
    unfold dropSite_l0
    cases hs : x.site == site
    · exact dropSite_l0_eq c site l (i + 1) S h
    · rw [with_cast h]
      exact dropSite_l0_eq c site l (i + 1) _ (with_cast_lt h x.node)
theorem dropSite_eq (c : Chain) (site : Int) : eqP (dropSite c site) (bif (site == (-1)) then rCut c (-1) (-2) else rCut c (-1) site) := by
  unfold dropSite
  cases hc : check c != 0
  case true =>
    rw [cut_bad hc, cut_bad hc, check_bad hc]
    cases (site == (-1)) <;> exact ⟨eqC_refl _, rfl⟩
  have hc := eq_of_bne_false hc
  obtain ⟨b1, b2⟩ := dropSite_l0_eq c site c.members.D 0 0 (by decide)
  rw [show (0 : Int) = ((0 : Nat) : Int) from rfl, b1, show ((0 : Nat) : Int) = (0 : Int) from rfl]
  have hm : ∀ x ∈ c.members.D, mHas ((bitsOf (fun x => x.site == site) c.members.D 0 : Nat) : Int) x.node = (x.site == site) := fun x hx => by
    obtain ⟨m1, m2, m3, m4⟩ := mem_ok hc hx
    obtain ⟨k, hk⟩ : ∃ k : Nat, x.node = (k : Int) := ⟨x.node.toNat, by omega⟩
    rw [hk, has_nat b2 (by omega), bits_test _ (by omega)]
    simp only [Nat.zero_testBit, Bool.false_or]
    rw [Bool.eq_iff_iff, List.any_eq_true]
    constructor
    · rintro ⟨y, hy, hyy⟩
      simp only [Bool.and_eq_true, beq_iff_eq] at hyy
      have := ok_inj _ _ (ok_of_check hc) x hx y hy (by rw [hk, hyy.1])
      rw [this]; simp [hyy.2]
    · intro h
      exact ⟨x, hx, by simp [hk]; simpa using h⟩
  show eqP (without c _) _
  cases hn : site == (-1)
  · refine cut_eq hc _ _ _ fun x hx => ?_
    obtain ⟨m1, m2, m3, m4⟩ := mem_ok hc hx
    rw [hm x hx]
    have : (x.node != -1) = true := by simp; omega
    rw [this]; simp [bne]
  · refine cut_eq hc _ _ _ fun x hx => ?_
    obtain ⟨m1, m2, m3, m4⟩ := mem_ok hc hx
    have hn : site = -1 := by simpa using hn
    rw [hm x hx]
    have e1 : (x.node != -1) = true := by simp; omega
    have e2 : (x.site != -2) = true := by simp; omega
    have e3 : (x.site == site) = false := by simp; omega
    rw [e1, e2, e3]; rfl
theorem join_l0_eq (c : Chain) (m : Member) (hl : c.members.D.length ≤ 1000000) : ∀ (nn i : Nat), i ≤ c.members.D.length → c.members.D.length - i < nn → join_l0 c m nn (i : Int) = bif (i + ((c.members.D.drop i).takeWhile fun x => decide (x.site ≤ m.site)).length == 0) then (Chain.mk 0 (Sl.mk true []), 152) else (after c (Sl.mk false (insertL c.members.D (i + ((c.members.D.drop i).takeWhile fun x => decide (x.site ≤ m.site)).length) [Member.mk m.node m.site true])), 0)
  | 0, i, _, h => by omega
  | nn + 1, i, hi, h => by
    unfold join_l0
    have eI : (((i : Nat) : Int) == 0) = (i == 0) := by cases i <;> simp; omega
    by_cases hlt : i < c.members.D.length
    · have e1 : decide ((i : Int) < (c.members.D.length : Int)) = true := by simp; omega
      have hd : c.members.D.drop i = c.members.D[i] :: c.members.D.drop (i + 1) := List.drop_eq_getElem_cons hlt
      have hg : c.members.D[(i : Int).toNat]! = c.members.D[i] := by simp [hlt]
      rw [e1, cond_true, hg, hd, List.takeWhile_cons]
      cases hs : decide (c.members.D[i].site ≤ m.site)
      · simp [eI]
      · have e2 : IntKind.i64.wrap ((i : Int) + 1) = ((i + 1 : Nat) : Int) := by rw [wrapI _ (by omega)]; omega
        rw [e2, cond_true, join_l0_eq c m hl nn (i + 1) (by omega) (by omega)]
        simp [Nat.add_assoc, Nat.add_comm 1]
    · have e1 : decide ((i : Int) < (c.members.D.length : Int)) = false := by simp; omega
      rw [e1, cond_false, List.drop_eq_nil_of_le (by omega)]
      simp [eI]
theorem rJoin_l0_put (c : Chain) (m : Member) : ∀ (xs : List Member) (i : Nat) (vc : List Member), rJoin_l0 c m xs i true vc = (Chain.mk (IntKind.i64.wrap (c.epoch + 1)) (Sl.mk (vc ++ xs).isEmpty (vc ++ xs)), 0)
  | [], _, vc => by simp [rJoin_l0]
  | x :: xs, i, vc => by
    unfold rJoin_l0
    cases decide (x.site > m.site) <;> simp [rJoin_l0_put c m xs]
theorem rJoin_l0_eq (c : Chain) (m : Member) : ∀ (xs : List Member) (i : Nat) (vc : List Member), eqP (rJoin_l0 c m xs i false vc) (Chain.mk (IntKind.i64.wrap (c.epoch + 1)) (Sl.mk false (vc ++ xs.takeWhile (fun x => decide (x.site ≤ m.site)) ++ Member.mk m.node m.site true :: xs.dropWhile (fun x => decide (x.site ≤ m.site)))), 0)
  | [], _, vc => by
    unfold rJoin_l0
    exact ⟨⟨rfl, by simp⟩, rfl⟩
  | x :: xs, i, vc => by
    unfold rJoin_l0
    by_cases hs : x.site ≤ m.site
    · have e1 : decide (x.site > m.site) = false := by simp; omega
      rw [e1, cond_false]
      have := rJoin_l0_eq c m xs (i + 1) (vc ++ [x])
      simpa [List.takeWhile_cons, List.dropWhile_cons, hs] using this
    · have e1 : decide (x.site > m.site) = true := by simp; omega
      rw [e1, cond_true]
      simp only [Bool.not_false, cond_true]
      rw [rJoin_l0_put]
      exact ⟨⟨rfl, by simp [hs]⟩, rfl⟩
theorem join_eq (c : Chain) (n s : Int) (f : Bool) : eqP (join c ⟨n, s, f⟩) (rJoin c ⟨n, s, false⟩) := by
  unfold join rJoin
  cases hc : check c != 0
  case true =>
    rw [← check_eq, hc, check_bad hc]
    exact ⟨eqC_refl _, rfl⟩
  have hc' := hc
  have hc := eq_of_bne_false hc
  rw [← check_eq, hc']
  simp only [cond_false]
  have hl := check_le6 hc
  obtain ⟨ep1, ep2⟩ := epoch_of hc
  have hp : placeIn c n = rPlace c n := by rw [← place_eq]; unfold place0; rw [hc]; rfl
  by_cases hm : 0 ≤ n ∧ n ≤ 5 ∧ 0 ≤ s ∧ s ≤ 2
  · have e0 : member ⟨n, s, true⟩ = true := (member_iff _).2 hm
    have e1 : decide (n < 0) = false := by simp; omega
    have e2 : decide (n > 5) = false := by simp; omega
    have e3 : decide (s < 0) = false := by simp; omega
    have e4 : decide (s > 2) = false := by simp; omega
    rw [e0, hp]
    simp only [e1, e2, e3, e4, cond_false, Bool.not_true]
    cases decide (rPlace c n ≥ 0)
    case true => exact ⟨eqC_refl _, rfl⟩
    simp only [cond_false]
    have d : decide (c.epoch ≥ 1099511627776) = (c.epoch == 1099511627776) := by
      by_cases he : c.epoch = 1099511627776
      · simp [he]
      · have : decide (c.epoch ≥ 1099511627776) = false := by simp; omega
        rw [this]; simp [he]
    rw [d]
    cases (c.epoch == 1099511627776)
    case true => exact ⟨eqC_refl _, rfl⟩
    simp only [cond_false]
    have hj := join_l0_eq c ⟨n, s, f⟩ (by omega) (c.members.D.length - (0 : Int).toNat + 1) 0 (by omega) (by simp)
    rw [show ((0 : Nat) : Int) = 0 from rfl] at hj
    rw [hj]
    have hr := rJoin_l0_eq c ⟨n, s, false⟩ c.members.D 0 []
    have hne := check_len hc
    simp only [List.drop_zero, Nat.zero_add]
    obtain ⟨x, xs, hD⟩ : ∃ x xs, c.members.D = x :: xs := by
      cases hD : c.members.D with
      | nil => rw [hD] at hne; simp at hne
      | cons x xs => exact ⟨x, xs, rfl⟩
    by_cases hs : x.site ≤ s
    · have e5 : decide (c.members.D[0]!.site > s) = false := by rw [hD]; simp; omega
      rw [e5, cond_false]
      have e6 : ((c.members.D.takeWhile fun x => decide (x.site ≤ s)).length == 0) = false := by
        rw [hD, List.takeWhile_cons]; simp [hs]
      rw [e6, cond_false]
      refine ⟨⟨hr.1.1.symm, ?_⟩, hr.2.symm⟩
      rw [hr.1.2]
      show insertL _ _ _ = _
      unfold insertL
      have ht : c.members.D.take (c.members.D.takeWhile fun x => decide (x.site ≤ s)).length = c.members.D.takeWhile fun x => decide (x.site ≤ s) := by
        conv => lhs; rhs; rw [← List.takeWhile_append_dropWhile (p := fun x : Member => decide (x.site ≤ s)) (l := c.members.D)]
        exact List.take_left' rfl
      have hdd : c.members.D.drop (c.members.D.takeWhile fun x => decide (x.site ≤ s)).length = c.members.D.dropWhile fun x => decide (x.site ≤ s) := by
        conv => lhs; rhs; rw [← List.takeWhile_append_dropWhile (p := fun x : Member => decide (x.site ≤ s)) (l := c.members.D)]
        exact List.drop_left' rfl
      rw [ht, hdd]; simp
    · have e5 : decide (c.members.D[0]!.site > s) = true := by rw [hD]; simp; omega
      rw [e5, cond_true]
      have e6 : ((c.members.D.takeWhile fun x => decide (x.site ≤ s)).length == 0) = true := by
        rw [hD, List.takeWhile_cons]; simp [hs]
      rw [e6, cond_true]
      exact ⟨eqC_refl _, rfl⟩
  · have e0 : member ⟨n, s, true⟩ = false := by
      rw [Bool.eq_false_iff]; exact fun h => hm ((member_iff _).1 h)
    rw [e0]
    simp only [Bool.not_false, cond_true]
    cases h1 : decide (n < 0)
    case true => exact ⟨eqC_refl _, rfl⟩
    cases h2 : decide (n > 5)
    case true => exact ⟨eqC_refl _, rfl⟩
    cases h3 : decide (s < 0)
    case true => exact ⟨eqC_refl _, rfl⟩
    cases h4 : decide (s > 2)
    case true => exact ⟨eqC_refl _, rfl⟩
    have := of_decide_eq_false h1
    have := of_decide_eq_false h2
    have := of_decide_eq_false h3
    have := of_decide_eq_false h4
    exact absurd (by omega) hm
theorem again_eq (c : Chain) (hn : c.members.nil = true → c.members.D = []) (n : Int) : eqP (again c n) (rAgain c n) := by
  unfold again rAgain
  cases hc : check c != 0
  case true =>
    rw [← check_eq, hc, check_bad hc]
    exact ⟨eqC_refl _, rfl⟩
  have hc' := hc
  have hc := eq_of_bne_false hc
  rw [← check_eq, hc']
  obtain ⟨ep1, ep2⟩ := epoch_of hc
  have hp : placeIn c n = rPlace c n := by rw [← place_eq]; unfold place0; rw [hc]; rfl
  rw [hp]
  simp only [cond_false]
  cases decide (rPlace c n < 0)
  case true => exact ⟨eqC_refl _, rfl⟩
  have d : decide (c.epoch ≥ 1099511627776) = (c.epoch == 1099511627776) := by
    by_cases he : c.epoch = 1099511627776
    · simp [he]
    · have : decide (c.epoch ≥ 1099511627776) = false := by simp; omega
      rw [this]; simp [he]
  rw [d]
  cases (c.epoch == 1099511627776)
  case true => exact ⟨eqC_refl _, rfl⟩
  rw [clone_eq hn]
  exact ⟨⟨rfl, rfl⟩, rfl⟩
def readyL (p : Int) : List Member → Nat → List Member
  | [], _ => []
  | x :: xs, i => (bif x.fresh then Member.mk x.node x.site ((i : Int) != p) else Member.mk x.node x.site false) :: readyL p xs (i + 1)
theorem rReady_l0_eq (c : Chain) (n : Int) : ∀ (xs : List Member) (i : Nat) (vc : List Member), rReady_l0 c n xs i vc = (Chain.mk c.epoch (Sl.mk (vc ++ readyL (rPlace c n) xs i).isEmpty (vc ++ readyL (rPlace c n) xs i)), 0)
  | [], _, vc => by simp [rReady_l0, readyL]
  | x :: xs, i, vc => by
    unfold rReady_l0 readyL
    cases x.fresh <;> simp [rReady_l0_eq c n xs]
theorem readyL_lt (p : Int) : ∀ (xs : List Member) (i : Nat), p < (i : Int) → readyL p xs i = xs
  | [], _, _ => rfl
  | ⟨a, b, f⟩ :: xs, i, h => by
    unfold readyL
    rw [readyL_lt p xs (i + 1) (by omega)]
    have : ((i : Int) != p) = true := by simp; omega
    cases f <;> simp [this]
theorem readyL_at (p : Nat) : ∀ (xs : List Member) (i : Nat), readyL ((i + p : Nat) : Int) xs i = xs.set p (Member.mk xs[p]!.node xs[p]!.site false)
  | [], _ => rfl
  | ⟨a, b, f⟩ :: xs, i => by
    unfold readyL
    cases p with
    | zero =>
      rw [readyL_lt _ xs (i + 1) (by omega)]
      cases f <;> simp
    | succ p =>
      have := readyL_at p xs (i + 1)
      rw [show i + (p + 1) = i + 1 + p by omega, this]
      have : ((i : Int) != ((i + 1 + p : Nat) : Int)) = true := by rw [bne_iff_ne]; omega
      rw [this]
      cases f <;> simp
theorem ready_eq (c : Chain) (n : Int) : eqP (ready c n) (rReady c n) := by
  unfold ready rReady
  cases hc : check c != 0
  case true =>
    rw [← check_eq, hc, check_bad hc]
    exact ⟨eqC_refl _, rfl⟩
  have hc' := hc
  have hc := eq_of_bne_false hc
  rw [← check_eq, hc']
  have hp : placeIn c n = rPlace c n := by rw [← place_eq]; unfold place0; rw [hc]; rfl
  rw [hp]
  simp only [cond_false]
  cases h1 : decide (rPlace c n < 0)
  case true => exact ⟨eqC_refl _, rfl⟩
  have h1 := of_decide_eq_false h1
  simp only [cond_false]
  cases !(c.members.D[(rPlace c n).toNat]!).fresh
  case true => exact ⟨eqC_refl _, rfl⟩
  simp only [cond_false]
  rw [rReady_l0_eq]
  refine ⟨⟨rfl, ?_⟩, rfl⟩
  show List.set _ _ _ = [] ++ _
  have := readyL_at (rPlace c n).toNat c.members.D 0
  rw [show ((0 + (rPlace c n).toNat : Nat) : Int) = rPlace c n by omega] at this
  rw [this]; rfl
theorem finW_len (c : Chain) (l : List Member) : (finW c l).1.members.D.length ≤ l.length := by
  unfold finW
  cases decide (c.epoch ≥ 1099511627776)
  · cases ((l.length : Int) == (c.members.D.length : Int))
    · cases ((l.length : Int) == 0)
      · exact Nat.le_refl _
      · exact Nat.zero_le _
    · exact Nat.zero_le _
  · exact Nat.zero_le _
theorem without_len (c : Chain) (gone : Int) : (without c gone).1.members.D.length ≤ c.members.D.length + 1 := by
  rw [without_eq]
  have h1 := finW_len c ((c.members.D.filter fun x => !mHas gone x.node).dropWhile (·.fresh))
  have h2 := (List.dropWhile_sublist (p := fun x : Member => x.fresh) (l := c.members.D.filter fun x => !mHas gone x.node)).length_le
  have h3 := List.length_filter_le (fun x : Member => !mHas gone x.node) c.members.D
  omega
theorem finW_hn (c : Chain) (l : List Member) : (finW c l).1.members.nil = true → (finW c l).1.members.D = [] := by
  unfold finW
  cases decide (c.epoch ≥ 1099511627776)
  · cases ((l.length : Int) == (c.members.D.length : Int))
    · cases ((l.length : Int) == 0)
      · intro h
        exact List.isEmpty_iff.1 (show l.isEmpty = true from h)
      · exact fun _ => rfl
    · exact fun _ => rfl
  · exact fun _ => rfl
theorem without_hn (c : Chain) (gone : Int) : (without c gone).1.members.nil = true → (without c gone).1.members.D = [] := by
  rw [without_eq]; exact finW_hn c _
def unf (m : Member) : Member := ⟨m.node, m.site, false⟩
theorem firstC_l1_eq (i : Nat) (kk : List Member → Chain × Int) : ∀ (xs : List Member) (j : Nat) (vc : List Member), firstC_l1 i kk xs j vc = kk (vc ++ (xs.filter fun x => x.site == (i : Int)).map unf)
  | [], _, vc => by simp [firstC_l1]
  | x :: xs, j, vc => by
    unfold firstC_l1
    cases h : x.site == (i : Int)
    · simp [firstC_l1_eq i kk xs, h]
    · simp [firstC_l1_eq i kk xs, h, unf]
def bySite (l : List Member) (i : Nat) : List Member := (l.filter fun x => x.site == (i : Int)).map unf
def finF (l : Sl Member) (vc : List Member) : Chain × Int :=
  bif ((vc.length : Int) != (l.D.length : Int)) then (Chain.mk 0 (Sl.mk true []), 80) else bif check (Chain.mk 1 (Sl.mk vc.isEmpty vc)) != 0 then (Chain.mk 0 (Sl.mk true []), 80) else (Chain.mk 1 (Sl.mk vc.isEmpty vc), 0)
theorem firstC_eq (l : Sl Member) : firstC l = finF l (bySite l.D 0 ++ bySite l.D 1 ++ bySite l.D 2) := by
  unfold firstC
  unfold firstC_l0
  rw [firstC_l1_eq]
  unfold firstC_l0
  rw [firstC_l1_eq]
  unfold firstC_l0
  rw [firstC_l1_eq]
  unfold firstC_l0
  rfl
theorem firstC_len (l : Sl Member) : (firstC l).1.members.D.length ≤ l.D.length := by
  rw [firstC_eq]
  generalize bySite l.D 0 ++ bySite l.D 1 ++ bySite l.D 2 = vc
  unfold finF
  cases h : ((vc.length : Int) != (l.D.length : Int))
  · have h := eq_of_bne_false h
    cases check (Chain.mk 1 (Sl.mk vc.isEmpty vc)) != 0
    · show vc.length ≤ _; omega
    · exact Nat.zero_le _
  · exact Nat.zero_le _
theorem firstC_hn (l : Sl Member) : (firstC l).1.members.nil = true → (firstC l).1.members.D = [] := by
  rw [firstC_eq]
  generalize bySite l.D 0 ++ bySite l.D 1 ++ bySite l.D 2 = vc
  unfold finF
  cases ((vc.length : Int) != (l.D.length : Int))
  · cases check (Chain.mk 1 (Sl.mk vc.isEmpty vc)) != 0
    · intro h
      exact List.isEmpty_iff.1 (show vc.isEmpty = true from h)
    · exact fun _ => rfl
  · exact fun _ => rfl
theorem firstC_ok {l : Sl Member} (h : (firstC l).2 = 0) : check (firstC l).1 = 0 := by
  rw [firstC_eq] at h ⊢
  generalize bySite l.D 0 ++ bySite l.D 1 ++ bySite l.D 2 = vc at h ⊢
  unfold finF at h ⊢
  cases h1 : ((vc.length : Int) != (l.D.length : Int))
  · rw [h1] at h
    cases h2 : check (Chain.mk 1 (Sl.mk vc.isEmpty vc)) != 0
    · exact eq_of_bne_false h2
    · rw [h2] at h; cases h
  · rw [h1] at h; cases h
theorem rPlace_at : ∀ (l pre : List Member) (i p : Nat), okFrom pre l = true → p < l.length → rPlace_l0 l[p]!.node l i = ((i + p : Nat) : Int)
  | [], _, _, _, _, hp => by simp at hp
  | x :: l, pre, i, p, h, hp => by
    unfold rPlace_l0
    cases p with
    | zero => simp
    | succ p =>
      have h' := h
      simp only [okFrom, Bool.and_eq_true] at h
      obtain ⟨_, h3⟩ := h
      have hp' : p < l.length := by simpa using hp
      have e : (x :: l)[p + 1]! = l[p]! := by simp
      have hm : l[p]! ∈ l := by rw [getElem!_pos l p hp']; exact List.getElem_mem hp'
      have hne := ok_apart l (pre ++ [x]) h3 _ hm x (by simp)
      have : (x.node == l[p]!.node) = false := by rw [beq_eq_false_iff_ne]; exact hne
      rw [e, this, cond_false, rPlace_at l (pre ++ [x]) (i + 1) p h3 hp']
      rw [show i + 1 + p = i + (p + 1) by omega]
theorem place_at {c : Chain} (hc : check c = 0) {p : Nat} (hp : p < c.members.D.length) : place0 c c.members.D[p]!.node = (p : Int) := by
  rw [place_eq]; unfold rPlace
  rw [← check_eq, hc]
  have := rPlace_at c.members.D [] 0 p (ok_of_check hc) hp
  rw [Nat.zero_add] at this
  exact this
def Apart (a b : Member) : Prop := a.node ≠ b.node ∧ a.site ≤ b.site
theorem ok_iff : ∀ (l pre : List Member), okFrom pre l = true ↔ (∀ x ∈ l, member x = true) ∧ (∀ x ∈ l, ∀ y ∈ pre, Apart y x) ∧ l.Pairwise Apart
  | [], pre => by simp [okFrom]
  | x :: l, pre => by
    have ih := ok_iff l (pre ++ [x])
    have hp : (pre.all fun y => !(y.node == x.node) && !(decide (y.site > x.site))) = true ↔ ∀ y ∈ pre, Apart y x := by
      rw [List.all_eq_true]
      constructor
      · intro h y hy
        have := h y hy
        simp only [Bool.and_eq_true, Bool.not_eq_true', beq_eq_false_iff_ne, decide_eq_false_iff_not] at this
        exact ⟨this.1, by omega⟩
      · intro h y hy
        obtain ⟨h1, h2⟩ := h y hy
        simp only [Bool.and_eq_true, Bool.not_eq_true', beq_eq_false_iff_ne, decide_eq_false_iff_not]
        exact ⟨h1, by omega⟩
    simp only [okFrom, Bool.and_eq_true, hp, ih, List.mem_cons, List.pairwise_cons, List.mem_append, List.mem_nil_iff, or_false]
    constructor
    · rintro ⟨⟨h1, h2⟩, h3, h4, h5⟩
      refine ⟨fun z hz => ?_, fun z hz y hy => ?_, fun z hz => h4 z hz x (.inr rfl), h5⟩
      · rcases hz with rfl | hz
        · exact h1
        · exact h3 z hz
      · rcases hz with rfl | hz
        · exact h2 y hy
        · exact h4 z hz y (.inl hy)
    · rintro ⟨h1, h2, h3, h4⟩
      refine ⟨⟨h1 x (.inl rfl), fun y hy => h2 x (.inl rfl) y hy⟩, fun z hz => h1 z (.inr hz), fun z hz y hy => ?_, h4⟩
      rcases hy with hy | rfl
      · exact h2 z (.inr hz) y hy
      · exact h3 z hz
theorem check_iff (c : Chain) : check c = 0 ↔ (1 ≤ c.epoch ∧ c.epoch ≤ 1099511627776) ∧ c.members.D ≠ [] ∧ c.members.D[0]!.fresh = false ∧ (∀ x ∈ c.members.D, member x = true) ∧ c.members.D.Pairwise Apart := by
  have h1 : check_l0 c.members.D 0 0 0 = bif okFrom [] c.members.D then 0 else 80 := check_l0_eq c.members.D [] 0 0 0 ⟨by decide, fun n hn => by
    have := has_nat (S := 0) (n := n) (by decide) (by omega)
    rw [this]; simp, fun y hy => (by cases hy), .inl rfl⟩
  have h2 := ok_iff c.members.D []
  constructor
  · intro h
    have ho := h2.1 (ok_of_check h)
    refine ⟨epoch_of h, fun e => ?_, ?_, ho.1, ho.2.2⟩
    · have := check_len h; rw [e] at this; simp at this
    · unfold check at h
      obtain ⟨_, h⟩ := bif_const (by decide) h
      obtain ⟨_, h⟩ := bif_const (by decide) h
      obtain ⟨_, h⟩ := bif_const (by decide) h
      exact (bif_const (by decide) h).1
  · rintro ⟨⟨e1, e2⟩, hne, hf, hm, hp⟩
    unfold check
    have d1 : decide (c.epoch < 1) = false := by simp; omega
    have d2 : decide (c.epoch > 1099511627776) = false := by simp; omega
    have d3 : ((c.members.D.length : Int) == 0) = false := by
      rw [beq_eq_false_iff_ne]
      intro e
      exact hne (List.eq_nil_of_length_eq_zero (by omega))
    rw [d1, d2, d3, hf, h1, h2.2 ⟨hm, fun _ _ _ hy => (by cases hy), hp⟩]
    rfl
theorem wrap_epoch {c : Chain} (h : check c = 0) : IntKind.i64.wrap (c.epoch + 1) = c.epoch + 1 := by
  have := epoch_of h
  exact wrapI _ (by omega)
theorem drop_head {l : List Member} (h : l.dropWhile (·.fresh) ≠ []) : (l.dropWhile (·.fresh))[0]!.fresh = false := by
  induction l with
  | nil => exact absurd rfl h
  | cons x l ih =>
    rw [List.dropWhile_cons] at h ⊢
    cases hf : x.fresh
    · simp [hf]
    · rw [hf] at h
      simp only [if_true] at h ⊢
      exact ih h
theorem place_none {c : Chain} (hc : check c = 0) {n : Int} (h : rPlace c n < 0) : ∀ x ∈ c.members.D, x.node ≠ n := fun x hx e => by
  obtain ⟨j, hj, ej⟩ := List.getElem_of_mem hx
  have hp := place_at hc hj
  rw [getElem!_pos _ j hj, ej, place_eq, e] at hp
  omega
theorem mem_split {c : Chain} (p : Member → Bool) {x : Member} (h : x ∈ c.members.D.takeWhile p ∨ x ∈ c.members.D.dropWhile p) : x ∈ c.members.D := by
  have := List.takeWhile_append_dropWhile (p := p) (l := c.members.D)
  rw [← this]
  exact List.mem_append.2 h
theorem takeWhile_true {α : Type} (p : α → Bool) : ∀ (l : List α), ∀ x ∈ l.takeWhile p, p x = true
  | [], x, h => by cases h
  | y :: l, x, h => by
    rw [List.takeWhile_cons] at h
    cases hy : p y
    · rw [hy] at h; cases h
    · rw [hy] at h
      simp only [if_true] at h
      cases h with
      | head => exact hy
      | tail _ h => exact takeWhile_true p l x h
theorem dropWhile_sites (s : Int) : ∀ (l : List Member), l.Pairwise Apart → ∀ x ∈ l.dropWhile (fun x => decide (x.site ≤ s)), s ≤ x.site
  | [], _, x, h => by cases h
  | y :: l, hp, x, h => by
    rw [List.dropWhile_cons] at h
    rw [List.pairwise_cons] at hp
    by_cases hy : y.site ≤ s
    · rw [decide_eq_true hy] at h
      exact dropWhile_sites s l hp.2 x h
    · rw [decide_eq_false hy] at h
      cases h with
      | head => omega
      | tail _ h => have := (hp.1 x h).2; omega
theorem nodes_map : ∀ (l m : List Member) (i j : Nat) (s : Int), l.map (·.node) = m.map (·.node) → nodes_l0 l i s = nodes_l0 m j s
  | [], [], _, _, _, _ => rfl
  | [], _ :: _, _, _, _, h => by simp at h
  | _ :: _, [], _, _, _, h => by simp at h
  | x :: l, y :: m, i, j, s, h => by
    simp only [List.map_cons, List.cons.injEq] at h
    unfold nodes_l0
    rw [h.1, nodes_map l m (i + 1) (j + 1) _ h.2]
theorem set_map {β : Type} (g : Member → β) {l : List Member} {p : Nat} (hp : p < l.length) {y : Member} (h : g y = g l[p]) : (l.set p y).map g = l.map g := by
  rw [List.map_set, h]
  apply List.ext_getElem
  · simp
  · intro i h1 h2
    rw [List.getElem_set]
    split
    · rename_i e; subst e; simp
    · rfl
theorem drop_form {c : Chain} (hc : check c = 0) (n : Int) : drop c n = finW c ((c.members.D.filter fun x => x.node != n).dropWhile (·.fresh)) := by
  unfold drop
  rw [hc, show ((0 : Int) != 0) = false from rfl, cond_false]
  show without c (maskOf ⟨false, [n]⟩) = _
  rw [without_eq, List.filter_congr fun x hx => by
    have := mem_ok hc hx
    rw [has_mask n x.node ⟨this.1, this.2.1⟩, ← bne]]
theorem drop_bad {c : Chain} (hc : check c ≠ 0) (n : Int) : drop c n = (⟨0, ⟨true, []⟩⟩, check c) := by
  unfold drop
  rw [show (check c != 0) = true by simpa using hc, cond_true]
theorem drop_hn (c : Chain) (n : Int) : (drop c n).1.members.nil = true → (drop c n).1.members.D = [] := by
  by_cases hc : check c = 0
  · rw [drop_form hc]; exact finW_hn c _
  · rw [drop_bad hc]; exact fun _ => rfl
theorem drop_len (c : Chain) (n : Int) : (drop c n).1.members.D.length ≤ c.members.D.length := by
  by_cases hc : check c = 0
  · rw [drop_form hc]
    refine Nat.le_trans (finW_len c _) ?_
    exact Nat.le_trans (List.dropWhile_sublist _).length_le (List.length_filter_le _ _)
  · rw [drop_bad hc]; exact Nat.zero_le _
def putIn (l : List Member) (n s : Int) : List Member := insertL l (l.takeWhile fun x => decide (x.site ≤ s)).length [⟨n, s, true⟩]
theorem join_some {c : Chain} {n s : Int} {f : Bool} (hc : check c = 0) (h : (join c ⟨n, s, f⟩).2 = 0) : (join c ⟨n, s, f⟩).1 = ⟨c.epoch + 1, ⟨false, putIn c.members.D n s⟩⟩ ∧ c.epoch < 1099511627776 ∧ member ⟨n, s, true⟩ = true ∧ placeIn c n < 0 ∧ (c.members.D.takeWhile fun x => decide (x.site ≤ s)).length ≠ 0 := by
  unfold join at h ⊢
  rw [hc, show ((0 : Int) != 0) = false from rfl, cond_false] at h ⊢
  cases h1 : member ⟨n, s, true⟩
  case false => simp only [h1] at h; exact absurd h (by simp)
  simp only [h1, Bool.not_true, cond_false] at h ⊢
  cases h2 : decide (placeIn c n ≥ 0)
  case true => rw [h2] at h; exact absurd h (by simp)
  rw [h2, cond_false] at h
  rw [cond_false]
  cases h3 : decide (c.epoch ≥ 1099511627776)
  case true => rw [h3] at h; exact absurd h (by simp)
  rw [h3, cond_false] at h
  rw [cond_false]
  have hl := check_le6 hc
  have e := join_l0_eq c ⟨n, s, f⟩ (by omega) (c.members.D.length - (0 : Int).toNat + 1) 0 (Nat.zero_le _) (by simp)
  rw [show ((0 : Nat) : Int) = 0 from rfl, List.drop_zero, Nat.zero_add] at e
  rw [e] at h ⊢
  cases h4 : (c.members.D.takeWhile fun x => decide (x.site ≤ s)).length == 0
  case true => simp only [h4] at h; exact absurd h (by simp)
  refine ⟨?_, by have := of_decide_eq_false h3; omega, trivial, by have := of_decide_eq_false h2; omega, by simpa using h4⟩
  simp only [cond_false]
  unfold after
  rw [wrap_epoch hc]; rfl
theorem join_bad {c : Chain} (hc : check c ≠ 0) (m : Member) : join c m = (⟨0, ⟨true, []⟩⟩, check c) := by
  unfold join
  rw [show (check c != 0) = true by simpa using hc, cond_true]
theorem join_l0_hn (c : Chain) (m : Member) : ∀ (nn : Nat) (i : Int), (join_l0 c m nn i).1.members.nil = true → (join_l0 c m nn i).1.members.D = []
  | 0, _ => fun _ => rfl
  | nn + 1, i => by
    have ih := join_l0_hn c m nn (IntKind.i64.wrap (i + 1))
    unfold join_l0
    cases decide (i < (c.members.D.length : Int))
    · cases i == 0
      · intro h; cases h
      · exact fun _ => rfl
    · cases decide (c.members.D[i.toNat]!.site ≤ m.site)
      · cases i == 0
        · intro h; cases h
        · exact fun _ => rfl
      · exact ih
theorem join_hn (c : Chain) (m : Member) : (join c m).1.members.nil = true → (join c m).1.members.D = [] := by
  unfold join
  cases check c != 0
  case true => exact fun _ => rfl
  cases !member ⟨m.node, m.site, true⟩
  case true => exact fun _ => rfl
  cases decide (placeIn c m.node ≥ 0)
  case true => exact fun _ => rfl
  cases decide (c.epoch ≥ 1099511627776)
  case true => exact fun _ => rfl
  exact join_l0_hn c m _ _
theorem putIn_len (l : List Member) (n s : Int) : (putIn l n s).length = l.length + 1 := by
  unfold putIn
  rw [insertL_len (List.takeWhile_sublist _).length_le]; rfl
theorem join_none {c : Chain} {m : Member} (hc : check c = 0) (h : (join c m).2 ≠ 0) : (join c m).1 = ⟨0, ⟨true, []⟩⟩ := by
  obtain ⟨n, s, f⟩ := m
  unfold join at h ⊢
  rw [hc, show ((0 : Int) != 0) = false from rfl, cond_false] at h ⊢
  cases h1 : member ⟨n, s, true⟩
  case false => simp only [Bool.not_false, cond_true]
  simp only [h1, Bool.not_true, cond_false] at h ⊢
  cases h2 : decide (placeIn c n ≥ 0)
  case true => rfl
  rw [h2, cond_false] at h
  rw [cond_false]
  cases h3 : decide (c.epoch ≥ 1099511627776)
  case true => rfl
  rw [h3, cond_false] at h
  rw [cond_false]
  have hl := check_le6 hc
  have e := join_l0_eq c ⟨n, s, f⟩ (by omega) (c.members.D.length - (0 : Int).toNat + 1) 0 (Nat.zero_le _) (by simp)
  rw [show ((0 : Nat) : Int) = 0 from rfl, List.drop_zero, Nat.zero_add] at e
  rw [e] at h ⊢
  cases h4 : (c.members.D.takeWhile fun x => decide (x.site ≤ s)).length == 0
  case true => simp only [cond_true]
  simp only [h4, cond_false] at h
  exact absurd rfl h
theorem join_len (c : Chain) (m : Member) : (join c m).1.members.D.length ≤ c.members.D.length + 1 := by
  obtain ⟨n, s, f⟩ := m
  by_cases hc : check c = 0
  · by_cases h : (join c ⟨n, s, f⟩).2 = 0
    · rw [(join_some hc h).1]
      show (putIn c.members.D n s).length ≤ _
      rw [putIn_len]; omega
    · rw [join_none hc h]; exact Nat.zero_le _
  · rw [join_bad hc]; exact Nat.zero_le _
theorem ready_hn (c : Chain) (n : Int) : (ready c n).1.members.nil = true → (ready c n).1.members.D = [] := by
  unfold ready
  cases check c != 0
  case true => exact fun _ => rfl
  cases decide (placeIn c n < 0)
  case true => exact fun _ => rfl
  cases !(c.members.D[(placeIn c n).toNat]!.fresh)
  case true => exact fun _ => rfl
  intro h; cases h
theorem ready_len (c : Chain) (n : Int) : (ready c n).1.members.D.length ≤ c.members.D.length := by
  unfold ready
  cases check c != 0
  case true => exact Nat.zero_le _
  cases decide (placeIn c n < 0)
  case true => exact Nat.zero_le _
  cases !(c.members.D[(placeIn c n).toNat]!.fresh)
  case true => exact Nat.zero_le _
  show (List.set _ _ _).length ≤ _
  rw [List.length_set]; omega
end Go.Proofs.Ytpgenmflgdkfiaa
/- The ledger: where an epoch's chain stands; how long chains are. No conditions. -/
namespace Go.Proofs.Ytpgenmflgdkfiaa
open Go.Am
theorem indexFuncC_l0_lt (f : Chain → Bool) : ∀ (l : List Chain) (i : Nat), indexFuncC_l0 f l i < ((i + l.length : Nat) : Int) ∧ -1 ≤ indexFuncC_l0 f l i
  | [], i => by simp only [indexFuncC_l0, List.length_nil]; omega
  | x :: l, i => by
    have := indexFuncC_l0_lt f l (i + 1)
    simp only [indexFuncC_l0, List.length_cons]
    cases f x <;> simp only [cond_true, cond_false] <;> omega
theorem indexFuncC_lt (s : Sl Chain) (f : Chain → Bool) : indexFuncC s f < (s.D.length : Int) ∧ -1 ≤ indexFuncC s f := by
  have := indexFuncC_l0_lt f s.D 0
  simp only [indexFuncC]; omega
end Go.Proofs.Ytpgenmflgdkfiaa
/- The ledger: the chain of an epoch. No conditions. -/
namespace Go.Proofs.Ytpgenmflgdkfiaa
open Go.Am
def pastOf (p : Past) (epoch : Int) : Chain × Bool :=
  (bif (decide ((indexFuncC p.all (fun x0 => pastF x0 epoch)) < 0)) then ((Chain.mk 0 (Sl.mk true [])), false) else ((copied (p.all.D[(indexFuncC p.all (fun x0 => pastF x0 epoch)).toNat]!)), true))
theorem pastOf_calls (p : Past) (epoch : Int) (hA : ∀ x ∈ p.all.D, x.members.D.length ≤ 1000000) (hl1 : p.all.D.length ≤ 1000000) : PCalls Try.prog 54 [.agg [sS (some p.all.nil) eChain p.all.D], .pv (.lit (.int .i64 epoch))] (.tup [.agg [.pv (.lit (.int .i64 ((pastOf p epoch).1.epoch))), sS (some (pastOf p epoch).1.members.nil) eMember ((pastOf p epoch).1.members.D)], .pv (.lit (.bool ((pastOf p epoch).2)))]) := by
 generalize hR : pastOf p epoch = R
 refine PCalls.of_body tabOk Try.func54 rfl rfl rfl rfl rfl mixed fun E hP C hI => ?_
 refine Awp.consP C ?_
 refine rvc_un (rexec_prim C (δ := { v := .ptr 2 0, new := [(2, .cells [sS (some p.all.nil) eChain p.all.D])] }) rfl rfl rfl rfl trivial rfl ?_)
 refine rvc_un (rexec_boxF C [.lit (.int .i64 epoch)] rfl rfl rfl rfl ?_)
 refine rvc_un (rexec_prim C (δ := { v := .ptr 4 0, new := [(4, .cells [.pv (.lit (.int .i64 0)), sS (some true) eMember []])] }) rfl rfl rfl rfl trivial rfl ?_)
 refine rvP C (.pv (.lit (.bool false))) ?_
 refine rvc_nil ?_
 refine Awp.consP C ?_
 refine rvP C (.ptr 2 0) ?_
 refine rvP C (sS (some p.all.nil) eChain p.all.D) ?_
 refine rvP C (.fn 76 [] [.rp [.lit (.int .i64 epoch)]]) ?_
 refine rvc_un (rexec_call hP C rfl rfl rfl (indexFuncC_calls p.all (fun x0 => pastF x0 epoch) 76 [.rp [.lit (.int .i64 epoch)]] (fun x0 => pastF_calls x0 epoch) rfl hl1) ?_)
 refine rvP C (.pv (.lit (.int .i64 (indexFuncC p.all (fun x0 => pastF x0 epoch))))) ?_
 refine rvc_nil ?_
 refine Awp.seq ?_
 refine Awp.consP C ?_
 refine rvP C (.pv (.lit (.int .i64 (indexFuncC p.all (fun x0 => pastF x0 epoch))))) ?_
 refine rvP C (.pv (.lit (.bool (decide ((indexFuncC p.all (fun x0 => pastF x0 epoch)) < 0))))) ?_
 refine rvc_nil ?_
 refine Awp.cond (b := (decide ((indexFuncC p.all (fun x0 => pastF x0 epoch)) < 0))) rfl (fun h1 => ?_) (fun h1 => ?_)
 ·
  replace hR := of_true h1 hR
  refine Awp.consP C ?_
  refine rvP C (.agg [.pv (.lit (.int .i64 0)), sS (some true) eMember []]) ?_
  refine rvc_un (rexec_prim C (δ := { v := .undef, wr := [(4, some (.cells [.pv (.lit (.int .i64 0)), sS (some true) eMember []]))] }) rfl rfl rfl rfl trivial rfl ?_)
  refine rvP C (.pv (.lit (.bool false))) ?_
  refine rvc_nil ?_
  refine Awp.ret ?_
  subst hR
  exact ⟨.inl rfl, rfl⟩
 ·
  replace hR := of_false h1 hR
  refine Awp.skip ?_
  refine Awp.consP C ?_
  refine rvP C (.ptr 2 0) ?_
  refine rvP C (sS (some p.all.nil) eChain p.all.D) ?_
  refine rvP C (.pv (.lit (.int .i64 (indexFuncC p.all (fun x0 => pastF x0 epoch))))) ?_
  have h2 : p.all.D[(indexFuncC p.all (fun x0 => pastF x0 epoch)).toNat]? = some p.all.D[(indexFuncC p.all (fun x0 => pastF x0 epoch)).toNat]! := getE (by have := indexFuncC_lt p.all (fun x0 => pastF x0 epoch); have := of_decide_eq_false h1; omega)
  refine rvc_un (rexec_idxS C rfl rfl rfl rfl rfl rfl (p.all.D[(indexFuncC p.all (fun x0 => pastF x0 epoch)).toNat]!) (by have := indexFuncC_lt p.all (fun x0 => pastF x0 epoch); have := of_decide_eq_false h1; omega) h2 ?_)
  refine rvP C (.agg [.pv (.lit (.int .i64 (p.all.D[(indexFuncC p.all (fun x0 => pastF x0 epoch)).toNat]!.epoch))), sS (some p.all.D[(indexFuncC p.all (fun x0 => pastF x0 epoch)).toNat]!.members.nil) eMember (p.all.D[(indexFuncC p.all (fun x0 => pastF x0 epoch)).toNat]!.members.D)]) ?_
  refine rvc_un (rexec_call hP C rfl rfl rfl (copied_calls (p.all.D[(indexFuncC p.all (fun x0 => pastF x0 epoch)).toNat]!) (hA _ (List.mem_of_getElem? (by assumption)))) ?_)
  refine rvc_un (rexec_prim C (δ := { v := .undef, wr := [(4, some (.cells [.pv (.lit (.int .i64 ((copied (p.all.D[(indexFuncC p.all (fun x0 => pastF x0 epoch)).toNat]!)).epoch))), sS (some (copied (p.all.D[(indexFuncC p.all (fun x0 => pastF x0 epoch)).toNat]!)).members.nil) eMember ((copied (p.all.D[(indexFuncC p.all (fun x0 => pastF x0 epoch)).toNat]!)).members.D)]))] }) rfl rfl rfl rfl trivial rfl ?_)
  refine rvP C (.pv (.lit (.bool true))) ?_
  refine rvc_nil ?_
  refine Awp.ret ?_
  subst hR
  exact ⟨.inl rfl, rfl⟩
def lOf (l : Ledger) (epoch : Int) : Chain × Bool :=
  (bif (lDead l) then ((Chain.mk 0 (Sl.mk true [])), false) else ((pastOf l.past epoch).1, (pastOf l.past epoch).2))
theorem lOf_calls (l : Ledger) (epoch : Int) (hA : ∀ x ∈ l.past.all.D, x.members.D.length ≤ 1000000) (hl1 : l.past.all.D.length ≤ 1000000) : MCalls Try.prog 33 [.ptr 0 0, .pv (.lit (.int .i64 epoch))] (.cells [sS (some l.past.all.nil) eChain l.past.all.D, .pv (.lit (.int .i64 l.chain.epoch)), sS (some l.chain.members.nil) eMember l.chain.members.D, .pv (.lit (.int .i64 l.at_))]) (.tup [.agg [.pv (.lit (.int .i64 ((lOf l epoch).1.epoch))), sS (some (lOf l epoch).1.members.nil) eMember ((lOf l epoch).1.members.D)], .pv (.lit (.bool ((lOf l epoch).2)))]) (.cells [sS (some l.past.all.nil) eChain l.past.all.D, .pv (.lit (.int .i64 l.chain.epoch)), sS (some l.chain.members.nil) eMember l.chain.members.D, .pv (.lit (.int .i64 l.at_))]) := by
 generalize hR : lOf l epoch = R
 refine MCalls.of_body tabOk Try.func33 rfl rfl rfl rfl rfl rfl rfl mixed fun E hP C hI => ?_
 refine Awp.consP C ?_
 refine rvc_un (rexec_prim C (δ := { v := .ptr 4 0, new := [(4, .cells [.pv (.lit (.int .i64 0)), sS (some true) eMember []])] }) rfl rfl rfl rfl trivial rfl ?_)
 refine rvP C (.pv (.lit (.bool false))) ?_
 refine rvc_nil ?_
 refine Awp.seq ?_
 refine Awp.cons C (fun _ => .writer) (by kernel_rfl) ?_
 refine rvP C (.ptr 0 0) ?_
 refine rvc_un (rexec_callM hP C (b := 0) rfl rfl rfl (lDead_calls l) rfl rfl ?_)
 refine rvc_nil ?_
 refine Awp.cond (b := (lDead l)) rfl (fun h1 => ?_) (fun h1 => ?_)
 ·
  replace hR := of_true h1 hR
  refine Awp.consP C ?_
  refine rvP C (.agg [.pv (.lit (.int .i64 0)), sS (some true) eMember []]) ?_
  refine rvc_un (rexec_prim C (δ := { v := .undef, wr := [(4, some (.cells [.pv (.lit (.int .i64 0)), sS (some true) eMember []]))] }) rfl rfl rfl rfl trivial rfl ?_)
  refine rvP C (.pv (.lit (.bool false))) ?_
  refine rvc_nil ?_
  refine Awp.ret ?_
  subst hR
  exact ⟨.inl rfl, rfl, rfl⟩
 ·
  replace hR := of_false h1 hR
  refine Awp.skip ?_
  refine Awp.consP C ?_
  refine rvP C (.ptr 0 0) ?_
  refine rvP C (.ptr 0 0) ?_
  refine rvP C (.ptr 0 0) ?_
  refine rvP C (.agg [sS (some l.past.all.nil) eChain l.past.all.D]) ?_
  refine rvP C (.pv (.lit (.int .i64 epoch))) ?_
  refine rvc_un (rexec_call hP C rfl rfl rfl (pastOf_calls l.past epoch hA hl1) ?_)
  refine rvP C (.agg [.pv (.lit (.int .i64 ((pastOf l.past epoch).1.epoch))), sS (some (pastOf l.past epoch).1.members.nil) eMember ((pastOf l.past epoch).1.members.D)]) ?_
  refine rvP C (.pv (.lit (.bool ((pastOf l.past epoch).2)))) ?_
  refine rvc_un (rexec_prim C (δ := { v := .undef, wr := [(4, some (.cells [.pv (.lit (.int .i64 ((pastOf l.past epoch).1.epoch))), sS (some (pastOf l.past epoch).1.members.nil) eMember ((pastOf l.past epoch).1.members.D)]))] }) rfl rfl rfl rfl trivial rfl ?_)
  refine rvP C (.pv (.lit (.bool ((pastOf l.past epoch).2)))) ?_
  refine rvc_nil ?_
  refine Awp.ret ?_
  subst hR
  exact ⟨.inl rfl, rfl, rfl⟩
end Go.Proofs.Ytpgenmflgdkfiaa
/- The chain behind a command: how long it is. No conditions. -/
namespace Go.Proofs.Ytpgenmflgdkfiaa
open Go.Am
/-- A chain of few members; nil has none. -/
def fewC (c : Chain) : Prop := (c.members.nil = true → c.members.D = []) ∧ c.members.D.length ≤ 7
theorem few0 : fewC (Chain.mk 0 (Sl.mk true [])) := ⟨fun _ => rfl, Nat.zero_le _⟩
theorem few_drop (c : Chain) (n : Int) : fewC (drop c n).1 := by
  refine ⟨drop_hn c n, ?_⟩
  by_cases hc : check c = 0
  · have := drop_len c n; have := check_le6 hc; omega
  · have : (check c != 0) = true := by simpa using hc
    unfold drop; rw [this]; exact Nat.zero_le _
theorem dropSite_l0_few (c : Chain) (s : Int) (h : c.members.D.length ≤ 6) : ∀ (l : List Member) (i : Nat) (g : Int), fewC (dropSite_l0 c s l i g).1
  | [], _, g => by
    unfold dropSite_l0
    have := without_len c g
    exact ⟨without_hn c g, by show (without c g).1.members.D.length ≤ 7; omega⟩
  | x :: l, i, g => by
    unfold dropSite_l0
    cases x.site == s
    · exact dropSite_l0_few c s h l _ _
    · exact dropSite_l0_few c s h l _ _
theorem few_dropSite (c : Chain) (s : Int) : fewC (dropSite c s).1 := by
  unfold dropSite
  cases hc : check c != 0
  · exact dropSite_l0_few c s (check_le6 (eq_of_bne_false hc)) _ _ _
  · exact few0
theorem few_join (c : Chain) (m : Member) : fewC (join c m).1 := by
  refine ⟨join_hn c m, ?_⟩
  by_cases hc : check c = 0
  · have := join_len c m; have := check_le6 hc; omega
  · have : (check c != 0) = true := by simpa using hc
    unfold join; rw [this]; exact Nat.zero_le _
theorem few_again (c : Chain) (n : Int) : fewC (again c n).1 := by
  unfold again
  cases hc : check c != 0
  · have h6 := check_le6 (eq_of_bne_false hc)
    cases decide (placeIn c n < 0)
    · cases decide (c.epoch ≥ 1099511627776)
      · exact ⟨fun h => clone_hn _ h, by have := clone_len c.members; show (cloneMembers c.members).D.length ≤ 7; omega⟩
      · exact few0
    · exact few0
  · exact few0
theorem few_ready (c : Chain) (n : Int) : fewC (ready c n).1 := by
  refine ⟨ready_hn c n, ?_⟩
  by_cases hc : check c = 0
  · have := ready_len c n; have := check_le6 hc; omega
  · have : (check c != 0) = true := by simpa using hc
    unfold ready; rw [this]; exact Nat.zero_le _
theorem few_next (c : Chain) (k : Command) : fewC (nextL c k).1 := by
  unfold nextL
  cases k.epoch != c.epoch
  · cases k.kind == 1
    · cases k.kind == 5
      · cases k.kind == 2
        · cases k.kind == 3
          · exact few_ready _ _
          · exact few_again _ _
        · exact few_join _ _
      · exact few_dropSite _ _
    · exact few_drop _ _
  · exact few0
theorem min97 (x : Int) (h : 0 ≤ x) : 0 ≤ (bif (decide ((4097 : Int) < x)) then (4097 : Int) else x) ∧ (bif (decide ((4097 : Int) < x)) then (4097 : Int) else x) ≤ 4097 := by
  cases e : decide ((4097 : Int) < x)
  · have := of_decide_eq_false e; simp only [cond_false]; omega
  · simp only [cond_true]; omega
/-- What is asked of a ledger's chains. -/
def okL (l : Ledger) : Prop := (l.chain.members.nil = true → l.chain.members.D = []) ∧ l.chain.members.D.length ≤ 1000000 ∧ ∀ x ∈ l.past.all.D, x.members.D.length ≤ 1000000
end Go.Proofs.Ytpgenmflgdkfiaa
