import Derived.Test.YtaffaalpgpepeaaM4
import Derived.Test.YtaffaalpgpepeaaM3
import Derived.Test.YtaffaalpgpepeaaM2
/- All commands. No conditions. -/
namespace Go.Proofs.Ytaffaalpgpepeaa
open Go.Am
def allP_l0 (alive : Int) (h : (Nat → Int)) (w : (Nat → Int)) : Nat → (List Command) → Int → (Sl Member) → (Sl Command) × Chain × Int
  | 0, _, _, _ => default
  | nn + 1, l, vc, vc1 => (bif ((check (Chain.mk vc vc1)) == 0) then (bif ((nextP (readyAll (Chain.mk vc vc1) alive) alive h w).2.2 != 0) then ((Sl.mk true []), (Chain.mk 0 (Sl.mk true [])), (nextP (readyAll (Chain.mk vc vc1) alive) alive h w).2.2) else (bif (!(nextP (readyAll (Chain.mk vc vc1) alive) alive h w).2.1) then ((Sl.mk l.isEmpty l), (readyAll (Chain.mk vc vc1) alive), 0) else (bif (decide ((readyAll (Chain.mk vc vc1) alive).epoch ≥ 1099511627776)) then ((Sl.mk l.isEmpty l), (readyAll (Chain.mk vc vc1) alive), 0) else (bif ((nextP (readyAll (Chain.mk vc vc1) alive) alive h w).1.kind == 1) then (bif ((drop (readyAll (Chain.mk vc vc1) alive) (nextP (readyAll (Chain.mk vc vc1) alive) alive h w).1.node).2 != 0) then ((Sl.mk l.isEmpty l), (readyAll (Chain.mk vc vc1) alive), 0) else (bif ((cmdCheck (nextP (readyAll (Chain.mk vc vc1) alive) alive h w).1) != 0) then ((Sl.mk l.isEmpty l), (readyAll (Chain.mk vc vc1) alive), 0) else allP_l0 alive h w nn (l ++ [(nextP (readyAll (Chain.mk vc vc1) alive) alive h w).1]) (drop (readyAll (Chain.mk vc vc1) alive) (nextP (readyAll (Chain.mk vc vc1) alive) alive h w).1.node).1.epoch (drop (readyAll (Chain.mk vc vc1) alive) (nextP (readyAll (Chain.mk vc vc1) alive) alive h w).1.node).1.members)) else (bif ((join (readyAll (Chain.mk vc vc1) alive) (Member.mk (nextP (readyAll (Chain.mk vc vc1) alive) alive h w).1.node (nextP (readyAll (Chain.mk vc vc1) alive) alive h w).1.site false)).2 != 0) then ((Sl.mk l.isEmpty l), (readyAll (Chain.mk vc vc1) alive), 0) else (bif ((cmdCheck (nextP (readyAll (Chain.mk vc vc1) alive) alive h w).1) != 0) then ((Sl.mk l.isEmpty l), (readyAll (Chain.mk vc vc1) alive), 0) else allP_l0 alive h w nn (l ++ [(nextP (readyAll (Chain.mk vc vc1) alive) alive h w).1]) (join (readyAll (Chain.mk vc vc1) alive) (Member.mk (nextP (readyAll (Chain.mk vc vc1) alive) alive h w).1.node (nextP (readyAll (Chain.mk vc vc1) alive) alive h w).1.site false)).1.epoch (join (readyAll (Chain.mk vc vc1) alive) (Member.mk (nextP (readyAll (Chain.mk vc vc1) alive) alive h w).1.node (nextP (readyAll (Chain.mk vc vc1) alive) alive h w).1.site false)).1.members)))))) else (bif ((nextP (Chain.mk vc vc1) alive h w).2.2 != 0) then ((Sl.mk true []), (Chain.mk 0 (Sl.mk true [])), (nextP (Chain.mk vc vc1) alive h w).2.2) else (bif (!(nextP (Chain.mk vc vc1) alive h w).2.1) then ((Sl.mk l.isEmpty l), (Chain.mk vc vc1), 0) else (bif (decide (vc ≥ 1099511627776)) then ((Sl.mk l.isEmpty l), (Chain.mk vc vc1), 0) else (bif ((nextP (Chain.mk vc vc1) alive h w).1.kind == 1) then (bif ((drop (Chain.mk vc vc1) (nextP (Chain.mk vc vc1) alive h w).1.node).2 != 0) then ((Sl.mk l.isEmpty l), (Chain.mk vc vc1), 0) else (bif ((cmdCheck (nextP (Chain.mk vc vc1) alive h w).1) != 0) then ((Sl.mk l.isEmpty l), (Chain.mk vc vc1), 0) else allP_l0 alive h w nn (l ++ [(nextP (Chain.mk vc vc1) alive h w).1]) (drop (Chain.mk vc vc1) (nextP (Chain.mk vc vc1) alive h w).1.node).1.epoch (drop (Chain.mk vc vc1) (nextP (Chain.mk vc vc1) alive h w).1.node).1.members)) else (bif ((join (Chain.mk vc vc1) (Member.mk (nextP (Chain.mk vc vc1) alive h w).1.node (nextP (Chain.mk vc vc1) alive h w).1.site false)).2 != 0) then ((Sl.mk l.isEmpty l), (Chain.mk vc vc1), 0) else (bif ((cmdCheck (nextP (Chain.mk vc vc1) alive h w).1) != 0) then ((Sl.mk l.isEmpty l), (Chain.mk vc vc1), 0) else allP_l0 alive h w nn (l ++ [(nextP (Chain.mk vc vc1) alive h w).1]) (join (Chain.mk vc vc1) (Member.mk (nextP (Chain.mk vc vc1) alive h w).1.node (nextP (Chain.mk vc vc1) alive h w).1.site false)).1.epoch (join (Chain.mk vc vc1) (Member.mk (nextP (Chain.mk vc vc1) alive h w).1.node (nextP (Chain.mk vc vc1) alive h w).1.site false)).1.members)))))))
def allP (c : Chain) (alive : Int) (h : (Nat → Int)) (w : (Nat → Int)) : (Sl Command) × Chain × Int :=
  allP_l0 alive h w ((planM alive c.members.D) + 1) [] c.epoch c.members
theorem allP_calls (c : Chain) (alive : Int) (h : (Nat → Int)) (w : (Nat → Int)) (hn : c.members.nil = true → c.members.D = []) (ha : 0 ≤ alive ∧ alive < 18446744073709551616) (hl1 : c.members.D.length ≤ 1000000) : PCalls Try.prog 13 [.agg [.pv (.lit (.int .i64 c.epoch)), sS (some c.members.nil) eMember c.members.D], .pv (.lit (.int .u64 alive)), .agg [.pv (.lit (.int .i64 (h 0))), .pv (.lit (.int .i64 (h 1))), .pv (.lit (.int .i64 (h 2))), .pv (.lit (.int .i64 (h 3))), .pv (.lit (.int .i64 (h 4))), .pv (.lit (.int .i64 (h 5)))], .agg [.pv (.lit (.int .i64 (w 0))), .pv (.lit (.int .i64 (w 1))), .pv (.lit (.int .i64 (w 2)))]] (.tup [sS (some (allP c alive h w).1.nil) eCommand ((allP c alive h w).1.D), .agg [.pv (.lit (.int .i64 ((allP c alive h w).2.1.epoch))), sS (some (allP c alive h w).2.1.members.nil) eMember ((allP c alive h w).2.1.members.D)], .pv (.lit (.int .i64 ((allP c alive h w).2.2)))]) := by
 generalize hR : allP c alive h w = R
 refine PCalls.of_body tabOk Try.func13 rfl rfl rfl rfl rfl mixed fun E hP C hI => ?_
 refine Awp.consP C ?_
 refine rvc_un (rexec_prim C (δ := { v := .ptr 4 0, new := [(4, .cells [.pv (.lit (.int .i64 c.epoch)), sS (some c.members.nil) eMember c.members.D])] }) rfl rfl rfl rfl trivial rfl ?_)
 refine rvc_un (rexec_prim C (δ := { v := .ptr 6 0, new := [(6, .cells [.pv (.lit (.int .i64 (h 0))), .pv (.lit (.int .i64 (h 1))), .pv (.lit (.int .i64 (h 2))), .pv (.lit (.int .i64 (h 3))), .pv (.lit (.int .i64 (h 4))), .pv (.lit (.int .i64 (h 5)))])] }) rfl rfl rfl rfl trivial rfl ?_)
 refine rvc_un (rexec_prim C (δ := { v := .ptr 7 0, new := [(7, .cells [.pv (.lit (.int .i64 (w 0))), .pv (.lit (.int .i64 (w 1))), .pv (.lit (.int .i64 (w 2)))])] }) rfl rfl rfl rfl trivial rfl ?_)
 refine rvP C (sS (some true) eCommand []) ?_
 refine rvc_un (rexec_prim C (δ := { v := .ptr 9 0, new := [(9, .cells [.pv (.lit (.int .i64 0)), sS (some true) eMember []])] }) rfl rfl rfl rfl trivial rfl ?_)
 refine rvP C (.pv (.lit (.int .i64 0))) ?_
 refine rvc_nil ?_
 refine Awp.consP C ?_
 refine rvP C (sS (some true) eCommand []) ?_
 refine rvc_nil ?_
 refine Awp.block ?_
 refine Awp.forM (σ := ((List Command)) × Int × ((Sl Member))) (fun v => [(1, .pv (.lit (.int .u64 alive))), (4, .ptr 4 0), (6, .ptr 6 0), (7, .ptr 7 0), (9, .ptr 9 0), (11, grow 900 eCommand v.1)]) (fun v => (growH 900 eCommand v.1 ++ ([(4, .cells [.pv (.lit (.int .i64 v.2.1)), sS (some v.2.2.nil) eMember v.2.2.D]), (6, .cells [.pv (.lit (.int .i64 (h 0))), .pv (.lit (.int .i64 (h 1))), .pv (.lit (.int .i64 (h 2))), .pv (.lit (.int .i64 (h 3))), .pv (.lit (.int .i64 (h 4))), .pv (.lit (.int .i64 (h 5)))]), (7, .cells [.pv (.lit (.int .i64 (w 0))), .pv (.lit (.int .i64 (w 1))), .pv (.lit (.int .i64 (w 2)))]), (9, .cells [.pv (.lit (.int .i64 0)), sS (some true) eMember []])]))) [4, 6, 7, 9, 900] (fun n v => (planM alive v.2.2.D) ≤ n ∧ allP_l0 alive h w (n + 1) v.1 v.2.1 v.2.2 = R ∧ ((v.2.2.nil = true → v.2.2.D = []) ∧ v.2.2.D.length ≤ 1000000 ∧ v.1.length + planM alive v.2.2.D ≤ 2000000)) ((planM alive c.members.D)) ([], c.epoch, c.members) ?_ ?_ (fun n_ v h1 => ?_)
 · exact ⟨Nat.le_refl _, hR, ⟨hn, hl1, (by have := planM_le alive c.members.D; show 0 + planM alive c.members.D ≤ 2000000; omega)⟩⟩
 · exact ⟨fun b => b, WeakerR.ofL (Ks := [4, 6, 7, 9, 900]) hI ⟨⟨rfl, rfl⟩, ⟨rfl, rfl⟩, ⟨rfl, rfl⟩, ⟨rfl, rfl⟩, ⟨rfl, rfl⟩, ⟨rfl, rfl⟩, trivial⟩ (okH_grow (fun hne => absurd rfl hne) rfl rfl (okH_cons rfl rfl rfl rfl (okH_cons rfl rfl rfl rfl (okH_cons rfl rfl rfl rfl (okH_cons rfl rfl rfl rfl (okH_nil)))))) rfl⟩
 obtain ⟨l, vc, vc1⟩ := v
 obtain ⟨hm_, hR, ⟨hVn, hVl, hVm⟩⟩ := h1
 replace hm_ : (planM alive vc1.D) ≤ n_ := hm_
 replace hVn : vc1.nil = true → vc1.D = [] := hVn
 replace hVl : vc1.D.length ≤ 1000000 := hVl
 replace hVm : l.length + planM alive vc1.D ≤ 2000000 := hVm
 by_cases h3 : l = []
 ·
  refine Awp.wordsR [(1, .pv (.lit (.int .u64 alive))), (4, .ptr 4 0), (6, .ptr 6 0), (7, .ptr 7 0), (9, .ptr 9 0), (11, sS (some l.isEmpty) eCommand l)] [(4, .cells [.pv (.lit (.int .i64 vc)), sS (some vc1.nil) eMember vc1.D]), (6, .cells [.pv (.lit (.int .i64 (h 0))), .pv (.lit (.int .i64 (h 1))), .pv (.lit (.int .i64 (h 2))), .pv (.lit (.int .i64 (h 3))), .pv (.lit (.int .i64 (h 4))), .pv (.lit (.int .i64 (h 5)))]), (7, .cells [.pv (.lit (.int .i64 (w 0))), .pv (.lit (.int .i64 (w 1))), .pv (.lit (.int .i64 (w 2)))]), (9, .cells [.pv (.lit (.int .i64 0)), sS (some true) eMember []])] [4, 6, 7, 9] (WeakerR.ofL (Ks := [4, 6, 7, 9]) hI ⟨⟨rfl, rfl⟩, ⟨rfl, rfl⟩, ⟨rfl, rfl⟩, ⟨rfl, rfl⟩, ⟨rfl, rfl⟩, ⟨(by exact grow_at_nil (b := 900) (e := eCommand) (l := l) rfl h3), rfl⟩, trivial⟩ (okH_cons (look_nil h3 rfl) rfl rfl rfl (okH_cons (look_nil h3 rfl) rfl rfl rfl (okH_cons (look_nil h3 rfl) rfl rfl rfl (okH_cons (look_nil h3 rfl) rfl rfl rfl (okH_nil))))) rfl) ?_
  refine Awp.block ?_
  refine Awp.seq ?_
  refine Awp.consP C ?_
  refine rvP C (.agg [.pv (.lit (.int .i64 vc)), sS (some vc1.nil) eMember vc1.D]) ?_
  refine rvc_un (rexec_call hP C rfl rfl rfl (check_calls (Chain.mk vc vc1) (by show vc1.D.length ≤ 9223372036854775807; omega)) ?_)
  refine rvP C (.pv (.lit (.bool ((check (Chain.mk vc vc1)) == 0)))) ?_
  refine rvc_nil ?_
  refine Awp.cond (b := ((check (Chain.mk vc vc1)) == 0)) rfl (fun h4 => ?_) (fun h4 => ?_)
  ·
   replace hR := of_true h4 hR
   refine Awp.regionP C ?_
   refine rvP C (.agg [.pv (.lit (.int .i64 vc)), sS (some vc1.nil) eMember vc1.D]) ?_
   refine rvP C (.pv (.lit (.int .u64 alive))) ?_
   obtain ⟨ra, hq_ra⟩ : ∃ q_, q_ = (readyAll (Chain.mk vc vc1) alive) := ⟨_, rfl⟩
   have hc_ra := (readyAll_calls (Chain.mk vc vc1) alive hVn (by show vc1.D.length ≤ 1000000; have := check_len (c := (Chain.mk vc vc1)); have := check_le6 (c := (Chain.mk vc vc1)); have := beq_iff_eq.1 h4; omega))
   first | rw [← hq_ra] at hR hc_ra | (unfold allP at hR; rw [← hq_ra] at hR hc_ra) | (unfold allP_l0 at hR; rw [← hq_ra] at hR hc_ra)
   have hf0_ra := readyAll_hn (Chain.mk vc vc1) alive hVn
   rw [← hq_ra] at hf0_ra
   have hf1_ra := readyAll_le (m := 1000000) (c := (Chain.mk vc vc1)) alive hVl
   rw [← hq_ra] at hf1_ra
   refine rvc_un (rexec_call hP C rfl rfl rfl hc_ra ?_)
   refine rvc_un (rexec_prim C (δ := { v := .undef, wr := [(4, some (.cells [.pv (.lit (.int .i64 ra.epoch)), sS (some ra.members.nil) eMember ra.members.D]))] }) rfl rfl rfl rfl trivial rfl ?_)
   refine rvc_nil ?_
   refine Awp.consP C ?_
   refine rvP C (.agg [.pv (.lit (.int .i64 ra.epoch)), sS (some ra.members.nil) eMember ra.members.D]) ?_
   refine rvP C (.pv (.lit (.int .u64 alive))) ?_
   refine rvP C (.agg [.pv (.lit (.int .i64 (h 0))), .pv (.lit (.int .i64 (h 1))), .pv (.lit (.int .i64 (h 2))), .pv (.lit (.int .i64 (h 3))), .pv (.lit (.int .i64 (h 4))), .pv (.lit (.int .i64 (h 5)))]) ?_
   refine rvP C (.agg [.pv (.lit (.int .i64 (w 0))), .pv (.lit (.int .i64 (w 1))), .pv (.lit (.int .i64 (w 2)))]) ?_
   obtain ⟨nx, hq_nx⟩ : ∃ q_, q_ = (nextP ra alive h w) := ⟨_, rfl⟩
   have hc_nx := (nextP_calls ra alive h w (by assumption) (by show ra.members.D.length ≤ 1000000; have := check_len (c := (Chain.mk vc vc1)); have := check_le6 (c := (Chain.mk vc vc1)); have := beq_iff_eq.1 h4; omega))
   first | rw [← hq_nx] at hR hc_nx | (unfold allP at hR; rw [← hq_nx] at hR hc_nx) | (unfold allP_l0 at hR; rw [← hq_nx] at hR hc_nx)
   refine rvc_un (rexec_call hP C rfl rfl rfl hc_nx ?_)
   refine rvP C (.tup [.agg [.pv (.lit (.int .i64 nx.1.kind)), .pv (.lit (.int .i64 nx.1.node)), .pv (.lit (.int .i64 nx.1.site)), .pv (.lit (.int .i64 nx.1.epoch))], .pv (.lit (.bool nx.2.1)), .pv (.lit (.int .i64 nx.2.2))]) ?_
   refine rvP C (.agg [.pv (.lit (.int .i64 nx.1.kind)), .pv (.lit (.int .i64 nx.1.node)), .pv (.lit (.int .i64 nx.1.site)), .pv (.lit (.int .i64 nx.1.epoch))]) ?_
   refine rvP C (.pv (.lit (.bool nx.2.1))) ?_
   refine rvP C (.pv (.lit (.int .i64 nx.2.2))) ?_
   refine rvc_un (rexec_prim C (δ := { v := .ptr 12 0, new := [(12, .cells [.pv (.lit (.int .i64 0)), .pv (.lit (.int .i64 0)), .pv (.lit (.int .i64 0)), .pv (.lit (.int .i64 0))])] }) rfl rfl rfl rfl trivial rfl ?_)
   refine rvc_un (rexec_prim C (δ := { v := .undef, wr := [(12, some (.cells [.pv (.lit (.int .i64 nx.1.kind)), .pv (.lit (.int .i64 nx.1.node)), .pv (.lit (.int .i64 nx.1.site)), .pv (.lit (.int .i64 nx.1.epoch))]))] }) rfl rfl rfl rfl trivial rfl ?_)
   refine rvP C (.pv (.lit (.bool nx.2.1))) ?_
   refine rvP C (.pv (.lit (.int .i64 nx.2.2))) ?_
   refine rvc_nil ?_
   refine Awp.seq ?_
   refine Awp.consP C ?_
   refine rvP C (.pv (.lit (.int .i64 nx.2.2))) ?_
   refine rvP C (.pv (.lit (.bool (nx.2.2 != 0)))) ?_
   refine rvc_nil ?_
   refine Awp.cond (b := (nx.2.2 != 0)) rfl (fun h5 => ?_) (fun h5 => ?_)
   ·
    replace hR := of_true h5 hR
    refine Awp.consP C ?_
    refine rvP C (.agg [.pv (.lit (.int .i64 0)), sS (some true) eMember []]) ?_
    refine rvP C (.pv (.lit (.int .i64 nx.2.2))) ?_
    refine rvP C (sS (some true) eCommand []) ?_
    refine rvc_un (rexec_prim C (δ := { v := .undef, wr := [(9, some (.cells [.pv (.lit (.int .i64 0)), sS (some true) eMember []]))] }) rfl rfl rfl rfl trivial rfl ?_)
    refine rvP C (.pv (.lit (.int .i64 nx.2.2))) ?_
    refine rvc_nil ?_
    refine Awp.ret ?_
    subst hR
    exact ⟨.inl rfl, rfl⟩
   ·
    replace hR := of_false h5 hR
    refine Awp.skip ?_
    refine Awp.seq ?_
    refine Awp.consP C ?_
    refine rvP C (.pv (.lit (.bool nx.2.1))) ?_
    refine rvP C (.pv (.lit (.bool (!nx.2.1)))) ?_
    refine rvP C (.pv (.lit (.bool (!nx.2.1)))) ?_
    refine rvc_case 37 (!nx.2.1) rfl (fun h6 => ?_) (fun h6 => ?_)
    ·
     replace hR := of_true h6 hR
     refine rvS ?_
     refine rvS ?_
     refine rvS ?_
     refine rvP C (.pv (.lit (.bool true))) ?_
     refine rvc_nil ?_
     refine Awp.condT (b := true) rfl rfl ?_
     refine Awp.consP C ?_
     refine rvP C (sS (some l.isEmpty) eCommand l) ?_
     refine rvP C (.agg [.pv (.lit (.int .i64 ra.epoch)), sS (some ra.members.nil) eMember ra.members.D]) ?_
     refine rvP C (sS (some l.isEmpty) eCommand l) ?_
     refine rvc_un (rexec_prim C (δ := { v := .undef, wr := [(9, some (.cells [.pv (.lit (.int .i64 ra.epoch)), sS (some ra.members.nil) eMember ra.members.D]))] }) rfl rfl rfl rfl trivial rfl ?_)
     refine rvP C (.pv (.lit (.int .i64 0))) ?_
     refine rvc_nil ?_
     refine Awp.ret ?_
     subst hR
     exact ⟨.inl rfl, rfl⟩
    ·
     replace hR := of_false h6 hR
     refine rvO C (.ptr 4 0) ?_
     refine rvO C (.pv (.lit (.int .i64 ra.epoch))) ?_
     refine rvO C (.pv (.lit (.bool (decide (ra.epoch ≥ 1099511627776))))) ?_
     refine rvP C (.pv (.lit (.bool (decide (ra.epoch ≥ 1099511627776))))) ?_
     refine rvc_nil ?_
     refine Awp.cond (b := (decide (ra.epoch ≥ 1099511627776))) rfl (fun h7 => ?_) (fun h7 => ?_)
     ·
      replace hR := of_true h7 hR
      refine Awp.consP C ?_
      refine rvP C (sS (some l.isEmpty) eCommand l) ?_
      refine rvP C (.agg [.pv (.lit (.int .i64 ra.epoch)), sS (some ra.members.nil) eMember ra.members.D]) ?_
      refine rvP C (sS (some l.isEmpty) eCommand l) ?_
      refine rvc_un (rexec_prim C (δ := { v := .undef, wr := [(9, some (.cells [.pv (.lit (.int .i64 ra.epoch)), sS (some ra.members.nil) eMember ra.members.D]))] }) rfl rfl rfl rfl trivial rfl ?_)
      refine rvP C (.pv (.lit (.int .i64 0))) ?_
      refine rvc_nil ?_
      refine Awp.ret ?_
      subst hR
      exact ⟨.inl rfl, rfl⟩
     ·
      replace hR := of_false h7 hR
      refine Awp.skip ?_
      refine Awp.consP C ?_
      refine rvP C (.agg [.pv (.lit (.int .i64 0)), sS (some true) eMember []]) ?_
      refine rvc_un (rexec_prim C (δ := { v := .ptr 15 0, new := [(15, .cells [.pv (.lit (.int .i64 0)), sS (some true) eMember []])] }) rfl rfl rfl rfl trivial rfl ?_)
      refine rvc_un (rexec_prim C (δ := { v := .undef, wr := [(15, some (.cells [.pv (.lit (.int .i64 0)), sS (some true) eMember []]))] }) rfl rfl rfl rfl trivial rfl ?_)
      refine rvc_nil ?_
      refine Awp.seq ?_
      refine Awp.consP C ?_
      refine rvP C (.ptr 12 0) ?_
      refine rvP C (.pv (.lit (.int .i64 nx.1.kind))) ?_
      refine rvP C (.pv (.lit (.bool (nx.1.kind == 1)))) ?_
      refine rvc_nil ?_
      refine Awp.cond (b := (nx.1.kind == 1)) rfl (fun h8 => ?_) (fun h8 => ?_)
      ·
       replace hR := of_true h8 hR
       refine Awp.regionP C ?_
       refine rvP C (.agg [.pv (.lit (.int .i64 ra.epoch)), sS (some ra.members.nil) eMember ra.members.D]) ?_
       refine rvP C (.ptr 12 1) ?_
       refine rvP C (.pv (.lit (.int .i64 nx.1.node))) ?_
       obtain ⟨dr, hq_dr⟩ : ∃ q_, q_ = (drop ra nx.1.node) := ⟨_, rfl⟩
       have hc_dr := (drop_calls ra nx.1.node (by show ra.members.D.length ≤ 1000000; have := check_len (c := (Chain.mk vc vc1)); have := check_le6 (c := (Chain.mk vc vc1)); have := beq_iff_eq.1 h4; have := eq_of_bne_false h5; have := of_decide_eq_false h7; have := beq_iff_eq.1 h8; omega))
       first | rw [← hq_dr] at hR hc_dr | (unfold allP at hR; rw [← hq_dr] at hR hc_dr) | (unfold allP_l0 at hR; rw [← hq_dr] at hR hc_dr)
       refine rvc_un (rexec_call hP C rfl rfl rfl hc_dr ?_)
       refine rvP C (.tup [.agg [.pv (.lit (.int .i64 dr.1.epoch)), sS (some dr.1.members.nil) eMember dr.1.members.D], .pv (.lit (.int .i64 dr.2))]) ?_
       refine rvP C (.agg [.pv (.lit (.int .i64 dr.1.epoch)), sS (some dr.1.members.nil) eMember dr.1.members.D]) ?_
       refine rvP C (.pv (.lit (.int .i64 dr.2))) ?_
       refine rvc_un (rexec_prim C (δ := { v := .undef, wr := [(15, some (.cells [.pv (.lit (.int .i64 dr.1.epoch)), sS (some dr.1.members.nil) eMember dr.1.members.D]))] }) rfl rfl rfl rfl trivial rfl ?_)
       refine rvP C (.pv (.lit (.int .i64 dr.2))) ?_
       refine rvc_nil ?_
       refine Awp.seq ?_
       refine Awp.consP C ?_
       refine rvP C (.pv (.lit (.int .i64 dr.2))) ?_
       refine rvP C (.pv (.lit (.bool (dr.2 != 0)))) ?_
       refine rvP C (.pv (.lit (.bool (dr.2 != 0)))) ?_
       refine rvc_case 67 (dr.2 != 0) rfl (fun h9 => ?_) (fun h9 => ?_)
       ·
        replace hR := of_true h9 hR
        refine rvS ?_
        refine rvS ?_
        refine rvS ?_
        refine rvP C (.pv (.lit (.bool true))) ?_
        refine rvc_nil ?_
        refine Awp.condT (b := true) rfl rfl ?_
        refine Awp.consP C ?_
        refine rvP C (sS (some l.isEmpty) eCommand l) ?_
        refine rvP C (.agg [.pv (.lit (.int .i64 ra.epoch)), sS (some ra.members.nil) eMember ra.members.D]) ?_
        refine rvP C (sS (some l.isEmpty) eCommand l) ?_
        refine rvc_un (rexec_prim C (δ := { v := .undef, wr := [(9, some (.cells [.pv (.lit (.int .i64 ra.epoch)), sS (some ra.members.nil) eMember ra.members.D]))] }) rfl rfl rfl rfl trivial rfl ?_)
        refine rvP C (.pv (.lit (.int .i64 0))) ?_
        refine rvc_nil ?_
        refine Awp.ret ?_
        subst hR
        exact ⟨.inl rfl, rfl⟩
       ·
        replace hR := of_false h9 hR
        refine rvO C (.agg [.pv (.lit (.int .i64 nx.1.kind)), .pv (.lit (.int .i64 nx.1.node)), .pv (.lit (.int .i64 nx.1.site)), .pv (.lit (.int .i64 nx.1.epoch))]) ?_
        refine rvc_open rfl rfl rfl (rexec_call hP C rfl rfl rfl (cmdCheck_calls nx.1) ?_)
        refine rvO C (.pv (.lit (.bool ((cmdCheck nx.1) != 0)))) ?_
        refine rvP C (.pv (.lit (.bool ((cmdCheck nx.1) != 0)))) ?_
        refine rvc_nil ?_
        refine Awp.cond (b := ((cmdCheck nx.1) != 0)) rfl (fun h10 => ?_) (fun h10 => ?_)
        ·
         replace hR := of_true h10 hR
         refine Awp.consP C ?_
         refine rvP C (sS (some l.isEmpty) eCommand l) ?_
         refine rvP C (.agg [.pv (.lit (.int .i64 ra.epoch)), sS (some ra.members.nil) eMember ra.members.D]) ?_
         refine rvP C (sS (some l.isEmpty) eCommand l) ?_
         refine rvc_un (rexec_prim C (δ := { v := .undef, wr := [(9, some (.cells [.pv (.lit (.int .i64 ra.epoch)), sS (some ra.members.nil) eMember ra.members.D]))] }) rfl rfl rfl rfl trivial rfl ?_)
         refine rvP C (.pv (.lit (.int .i64 0))) ?_
         refine rvc_nil ?_
         refine Awp.ret ?_
         subst hR
         exact ⟨.inl rfl, rfl⟩
        ·
         replace hR := of_false h10 hR
         refine Awp.skip ?_
         refine Awp.region C (fun o => match o.dst with | some 77 => .writes [77, 900] | some 78 => .reads [15] | _ => .pure) (by kernel_rfl) ?_
         refine rvP C (sS (some l.isEmpty) eCommand l) ?_
         refine rvP C (.agg [.pv (.lit (.int .i64 nx.1.kind)), .pv (.lit (.int .i64 nx.1.node)), .pv (.lit (.int .i64 nx.1.site)), .pv (.lit (.int .i64 nx.1.epoch))]) ?_
         refine rvc_un (rexec_buildSliceF C eCommand [nx.1] rfl rfl rfl rfl rfl rfl rfl (by decide) rfl ?_)
         refine rvc_un (rexec_appendG C rfl rfl rfl rfl rfl rfl rfl rfl (fun _ h => by cases h) rfl (en := eCommand) (l := l) (D := [nx.1]) rfl rfl h3 (by rw [h3]; rfl) (by simp) (by have := check_len (c := (Chain.mk vc vc1)); have := check_le6 (c := (Chain.mk vc vc1)); have := beq_iff_eq.1 h4; have := eq_of_bne_false h5; have := of_decide_eq_false h7; have := beq_iff_eq.1 h8; have := eq_of_bne_false h9; have := eq_of_bne_false h10; first | omega | (simp <;> omega)) (by decide) (nn := (l ++ [nx.1]).length) (by simp) ?_)
         refine rvP C (.agg [.pv (.lit (.int .i64 dr.1.epoch)), sS (some dr.1.members.nil) eMember dr.1.members.D]) ?_
         refine rvP C (.sl 77 0 ((l ++ [nx.1]).length) 4 false) ?_
         refine rvc_un (rexec_prim C (δ := { v := .undef, wr := [(4, some (.cells [.pv (.lit (.int .i64 dr.1.epoch)), sS (some dr.1.members.nil) eMember dr.1.members.D]))] }) rfl rfl rfl rfl trivial rfl ?_)
         refine rvc_nil ?_
         have h11 : (planM alive dr.1.members.D) < (planM alive vc1.D) := by first | exact (stepA ha (c := Chain.mk vc vc1) (by assumption) (by assumption) (by assumption) (by assumption) (by assumption) (by assumption)).1 | exact (stepB ha (c := Chain.mk vc vc1) (by assumption) (by assumption) (by assumption) (by assumption) (by assumption) (by assumption)).1 | exact (stepC ha (c := Chain.mk vc vc1) (by assumption) (by assumption) (by assumption)).elim
         obtain ⟨nn, rfl⟩ : ∃ nn, n_ = nn + 1 := ⟨n_ - 1, by omega⟩
         refine ⟨nn, ((l ++ [nx.1]), dr.1.epoch, dr.1.members), by omega, ⟨by show (planM alive dr.1.members.D) ≤ nn; omega, hR, (by have hlt_ := ‹planM _ _ < planM _ _›; first | (have h_ := (stepA ha (c := Chain.mk vc vc1) (by assumption) (by assumption) (by assumption) (by assumption) (by assumption) (by assumption)); exact ⟨h_.2.1, h_.2.2, (by simp only [List.length_append, List.length_cons, List.length_nil]; omega)⟩) | (have h_ := (stepB ha (c := Chain.mk vc vc1) (by assumption) (by assumption) (by assumption) (by assumption) (by assumption) (by assumption)); exact ⟨h_.2.1, h_.2.2, (by simp only [List.length_append, List.length_cons, List.length_nil]; omega)⟩) | exact (stepC ha (c := Chain.mk vc vc1) (by assumption) (by assumption) (by assumption)).elim)⟩, ?_⟩
         · exact ⟨fun b => bif b == 900 then 77 else (fun b => b) b, WeakerR.ofL (Ks := [4, 6, 7, 9, 900]) hI ⟨⟨rfl, rfl⟩, ⟨rfl, rfl⟩, ⟨rfl, rfl⟩, ⟨rfl, rfl⟩, ⟨rfl, rfl⟩, ⟨grow_to rfl rfl app_ne rfl rfl, grow_within rfl⟩, trivial⟩ (okH_grow (fun _ => rfl) rfl rfl (okH_cons rfl rfl rfl rfl (okH_cons rfl rfl rfl rfl (okH_cons rfl rfl rfl rfl (okH_cons rfl rfl rfl rfl (okH_nil)))))) rfl⟩
      ·
       replace hR := of_false h8 hR
       refine Awp.regionP C ?_
       refine rvP C (.agg [.pv (.lit (.int .i64 ra.epoch)), sS (some ra.members.nil) eMember ra.members.D]) ?_
       refine rvP C (.ptr 12 1) ?_
       refine rvP C (.pv (.lit (.int .i64 nx.1.node))) ?_
       refine rvP C (.ptr 12 2) ?_
       refine rvP C (.pv (.lit (.int .i64 nx.1.site))) ?_
       refine rvP C (.agg [.pv (.lit (.int .i64 nx.1.node)), .pv (.lit (.int .i64 nx.1.site)), .pv (.lit (.bool false))]) ?_
       obtain ⟨jo, hq_jo⟩ : ∃ q_, q_ = (join ra (Member.mk nx.1.node nx.1.site false)) := ⟨_, rfl⟩
       have hc_jo := (join_calls ra (Member.mk nx.1.node nx.1.site false) (by assumption) (by show ra.members.D.length ≤ 1000000; have := check_len (c := (Chain.mk vc vc1)); have := check_le6 (c := (Chain.mk vc vc1)); have := beq_iff_eq.1 h4; have := eq_of_bne_false h5; have := of_decide_eq_false h7; have := ne_of_beq_false h8; omega))
       first | rw [← hq_jo] at hR hc_jo | (unfold allP at hR; rw [← hq_jo] at hR hc_jo) | (unfold allP_l0 at hR; rw [← hq_jo] at hR hc_jo)
       refine rvc_un (rexec_call hP C rfl rfl rfl hc_jo ?_)
       refine rvP C (.tup [.agg [.pv (.lit (.int .i64 jo.1.epoch)), sS (some jo.1.members.nil) eMember jo.1.members.D], .pv (.lit (.int .i64 jo.2))]) ?_
       refine rvP C (.agg [.pv (.lit (.int .i64 jo.1.epoch)), sS (some jo.1.members.nil) eMember jo.1.members.D]) ?_
       refine rvP C (.pv (.lit (.int .i64 jo.2))) ?_
       refine rvc_un (rexec_prim C (δ := { v := .undef, wr := [(15, some (.cells [.pv (.lit (.int .i64 jo.1.epoch)), sS (some jo.1.members.nil) eMember jo.1.members.D]))] }) rfl rfl rfl rfl trivial rfl ?_)
       refine rvP C (.pv (.lit (.int .i64 jo.2))) ?_
       refine rvc_nil ?_
       refine Awp.seq ?_
       refine Awp.consP C ?_
       refine rvP C (.pv (.lit (.int .i64 jo.2))) ?_
       refine rvP C (.pv (.lit (.bool (jo.2 != 0)))) ?_
       refine rvP C (.pv (.lit (.bool (jo.2 != 0)))) ?_
       refine rvc_case 67 (jo.2 != 0) rfl (fun h12 => ?_) (fun h12 => ?_)
       ·
        replace hR := of_true h12 hR
        refine rvS ?_
        refine rvS ?_
        refine rvS ?_
        refine rvP C (.pv (.lit (.bool true))) ?_
        refine rvc_nil ?_
        refine Awp.condT (b := true) rfl rfl ?_
        refine Awp.consP C ?_
        refine rvP C (sS (some l.isEmpty) eCommand l) ?_
        refine rvP C (.agg [.pv (.lit (.int .i64 ra.epoch)), sS (some ra.members.nil) eMember ra.members.D]) ?_
        refine rvP C (sS (some l.isEmpty) eCommand l) ?_
        refine rvc_un (rexec_prim C (δ := { v := .undef, wr := [(9, some (.cells [.pv (.lit (.int .i64 ra.epoch)), sS (some ra.members.nil) eMember ra.members.D]))] }) rfl rfl rfl rfl trivial rfl ?_)
        refine rvP C (.pv (.lit (.int .i64 0))) ?_
        refine rvc_nil ?_
        refine Awp.ret ?_
        subst hR
        exact ⟨.inl rfl, rfl⟩
       ·
        replace hR := of_false h12 hR
        refine rvO C (.agg [.pv (.lit (.int .i64 nx.1.kind)), .pv (.lit (.int .i64 nx.1.node)), .pv (.lit (.int .i64 nx.1.site)), .pv (.lit (.int .i64 nx.1.epoch))]) ?_
        refine rvc_open rfl rfl rfl (rexec_call hP C rfl rfl rfl (cmdCheck_calls nx.1) ?_)
        refine rvO C (.pv (.lit (.bool ((cmdCheck nx.1) != 0)))) ?_
        refine rvP C (.pv (.lit (.bool ((cmdCheck nx.1) != 0)))) ?_
        refine rvc_nil ?_
        refine Awp.cond (b := ((cmdCheck nx.1) != 0)) rfl (fun h13 => ?_) (fun h13 => ?_)
        ·
         replace hR := of_true h13 hR
         refine Awp.consP C ?_
         refine rvP C (sS (some l.isEmpty) eCommand l) ?_
         refine rvP C (.agg [.pv (.lit (.int .i64 ra.epoch)), sS (some ra.members.nil) eMember ra.members.D]) ?_
         refine rvP C (sS (some l.isEmpty) eCommand l) ?_
         refine rvc_un (rexec_prim C (δ := { v := .undef, wr := [(9, some (.cells [.pv (.lit (.int .i64 ra.epoch)), sS (some ra.members.nil) eMember ra.members.D]))] }) rfl rfl rfl rfl trivial rfl ?_)
         refine rvP C (.pv (.lit (.int .i64 0))) ?_
         refine rvc_nil ?_
         refine Awp.ret ?_
         subst hR
         exact ⟨.inl rfl, rfl⟩
        ·
         replace hR := of_false h13 hR
         refine Awp.skip ?_
         refine Awp.region C (fun o => match o.dst with | some 77 => .writes [77, 900] | some 78 => .reads [15] | _ => .pure) (by kernel_rfl) ?_
         refine rvP C (sS (some l.isEmpty) eCommand l) ?_
         refine rvP C (.agg [.pv (.lit (.int .i64 nx.1.kind)), .pv (.lit (.int .i64 nx.1.node)), .pv (.lit (.int .i64 nx.1.site)), .pv (.lit (.int .i64 nx.1.epoch))]) ?_
         refine rvc_un (rexec_buildSliceF C eCommand [nx.1] rfl rfl rfl rfl rfl rfl rfl (by decide) rfl ?_)
         refine rvc_un (rexec_appendG C rfl rfl rfl rfl rfl rfl rfl rfl (fun _ h => by cases h) rfl (en := eCommand) (l := l) (D := [nx.1]) rfl rfl h3 (by rw [h3]; rfl) (by simp) (by have := check_len (c := (Chain.mk vc vc1)); have := check_le6 (c := (Chain.mk vc vc1)); have := beq_iff_eq.1 h4; have := eq_of_bne_false h5; have := of_decide_eq_false h7; have := ne_of_beq_false h8; have := eq_of_bne_false h12; have := eq_of_bne_false h13; first | omega | (simp <;> omega)) (by decide) (nn := (l ++ [nx.1]).length) (by simp) ?_)
         refine rvP C (.agg [.pv (.lit (.int .i64 jo.1.epoch)), sS (some jo.1.members.nil) eMember jo.1.members.D]) ?_
         refine rvP C (.sl 77 0 ((l ++ [nx.1]).length) 4 false) ?_
         refine rvc_un (rexec_prim C (δ := { v := .undef, wr := [(4, some (.cells [.pv (.lit (.int .i64 jo.1.epoch)), sS (some jo.1.members.nil) eMember jo.1.members.D]))] }) rfl rfl rfl rfl trivial rfl ?_)
         refine rvc_nil ?_
         have h14 : (planM alive jo.1.members.D) < (planM alive vc1.D) := by first | exact (stepA ha (c := Chain.mk vc vc1) (by assumption) (by assumption) (by assumption) (by assumption) (by assumption) (by assumption)).1 | exact (stepB ha (c := Chain.mk vc vc1) (by assumption) (by assumption) (by assumption) (by assumption) (by assumption) (by assumption)).1 | exact (stepC ha (c := Chain.mk vc vc1) (by assumption) (by assumption) (by assumption)).elim
         obtain ⟨nn, rfl⟩ : ∃ nn, n_ = nn + 1 := ⟨n_ - 1, by omega⟩
         refine ⟨nn, ((l ++ [nx.1]), jo.1.epoch, jo.1.members), by omega, ⟨by show (planM alive jo.1.members.D) ≤ nn; omega, hR, (by have hlt_ := ‹planM _ _ < planM _ _›; first | (have h_ := (stepA ha (c := Chain.mk vc vc1) (by assumption) (by assumption) (by assumption) (by assumption) (by assumption) (by assumption)); exact ⟨h_.2.1, h_.2.2, (by simp only [List.length_append, List.length_cons, List.length_nil]; omega)⟩) | (have h_ := (stepB ha (c := Chain.mk vc vc1) (by assumption) (by assumption) (by assumption) (by assumption) (by assumption) (by assumption)); exact ⟨h_.2.1, h_.2.2, (by simp only [List.length_append, List.length_cons, List.length_nil]; omega)⟩) | exact (stepC ha (c := Chain.mk vc vc1) (by assumption) (by assumption) (by assumption)).elim)⟩, ?_⟩
         · exact ⟨fun b => bif b == 900 then 77 else (fun b => b) b, WeakerR.ofL (Ks := [4, 6, 7, 9, 900]) hI ⟨⟨rfl, rfl⟩, ⟨rfl, rfl⟩, ⟨rfl, rfl⟩, ⟨rfl, rfl⟩, ⟨rfl, rfl⟩, ⟨grow_to rfl rfl app_ne rfl rfl, grow_within rfl⟩, trivial⟩ (okH_grow (fun _ => rfl) rfl rfl (okH_cons rfl rfl rfl rfl (okH_cons rfl rfl rfl rfl (okH_cons rfl rfl rfl rfl (okH_cons rfl rfl rfl rfl (okH_nil)))))) rfl⟩
  ·
   replace hR := of_false h4 hR
   refine Awp.skip ?_
   refine Awp.consP C ?_
   refine rvP C (.agg [.pv (.lit (.int .i64 vc)), sS (some vc1.nil) eMember vc1.D]) ?_
   refine rvP C (.pv (.lit (.int .u64 alive))) ?_
   refine rvP C (.agg [.pv (.lit (.int .i64 (h 0))), .pv (.lit (.int .i64 (h 1))), .pv (.lit (.int .i64 (h 2))), .pv (.lit (.int .i64 (h 3))), .pv (.lit (.int .i64 (h 4))), .pv (.lit (.int .i64 (h 5)))]) ?_
   refine rvP C (.agg [.pv (.lit (.int .i64 (w 0))), .pv (.lit (.int .i64 (w 1))), .pv (.lit (.int .i64 (w 2)))]) ?_
   obtain ⟨nx1, hq_nx1⟩ : ∃ q_, q_ = (nextP (Chain.mk vc vc1) alive h w) := ⟨_, rfl⟩
   have hc_nx1 := (nextP_calls (Chain.mk vc vc1) alive h w (by assumption) (by show vc1.D.length ≤ 1000000; have := check_len (c := (Chain.mk vc vc1)); have := check_le6 (c := (Chain.mk vc vc1)); have := ne_of_beq_false h4; omega))
   first | rw [← hq_nx1] at hR hc_nx1 | (unfold allP at hR; rw [← hq_nx1] at hR hc_nx1) | (unfold allP_l0 at hR; rw [← hq_nx1] at hR hc_nx1)
   refine rvc_un (rexec_call hP C rfl rfl rfl hc_nx1 ?_)
   refine rvP C (.tup [.agg [.pv (.lit (.int .i64 nx1.1.kind)), .pv (.lit (.int .i64 nx1.1.node)), .pv (.lit (.int .i64 nx1.1.site)), .pv (.lit (.int .i64 nx1.1.epoch))], .pv (.lit (.bool nx1.2.1)), .pv (.lit (.int .i64 nx1.2.2))]) ?_
   refine rvP C (.agg [.pv (.lit (.int .i64 nx1.1.kind)), .pv (.lit (.int .i64 nx1.1.node)), .pv (.lit (.int .i64 nx1.1.site)), .pv (.lit (.int .i64 nx1.1.epoch))]) ?_
   refine rvP C (.pv (.lit (.bool nx1.2.1))) ?_
   refine rvP C (.pv (.lit (.int .i64 nx1.2.2))) ?_
   refine rvc_un (rexec_prim C (δ := { v := .ptr 12 0, new := [(12, .cells [.pv (.lit (.int .i64 0)), .pv (.lit (.int .i64 0)), .pv (.lit (.int .i64 0)), .pv (.lit (.int .i64 0))])] }) rfl rfl rfl rfl trivial rfl ?_)
   refine rvc_un (rexec_prim C (δ := { v := .undef, wr := [(12, some (.cells [.pv (.lit (.int .i64 nx1.1.kind)), .pv (.lit (.int .i64 nx1.1.node)), .pv (.lit (.int .i64 nx1.1.site)), .pv (.lit (.int .i64 nx1.1.epoch))]))] }) rfl rfl rfl rfl trivial rfl ?_)
   refine rvP C (.pv (.lit (.bool nx1.2.1))) ?_
   refine rvP C (.pv (.lit (.int .i64 nx1.2.2))) ?_
   refine rvc_nil ?_
   refine Awp.seq ?_
   refine Awp.consP C ?_
   refine rvP C (.pv (.lit (.int .i64 nx1.2.2))) ?_
   refine rvP C (.pv (.lit (.bool (nx1.2.2 != 0)))) ?_
   refine rvc_nil ?_
   refine Awp.cond (b := (nx1.2.2 != 0)) rfl (fun h15 => ?_) (fun h15 => ?_)
   ·
    replace hR := of_true h15 hR
    refine Awp.consP C ?_
    refine rvP C (.agg [.pv (.lit (.int .i64 0)), sS (some true) eMember []]) ?_
    refine rvP C (.pv (.lit (.int .i64 nx1.2.2))) ?_
    refine rvP C (sS (some true) eCommand []) ?_
    refine rvc_un (rexec_prim C (δ := { v := .undef, wr := [(9, some (.cells [.pv (.lit (.int .i64 0)), sS (some true) eMember []]))] }) rfl rfl rfl rfl trivial rfl ?_)
    refine rvP C (.pv (.lit (.int .i64 nx1.2.2))) ?_
    refine rvc_nil ?_
    refine Awp.ret ?_
    subst hR
    exact ⟨.inl rfl, rfl⟩
   ·
    replace hR := of_false h15 hR
    refine Awp.skip ?_
    refine Awp.seq ?_
    refine Awp.consP C ?_
    refine rvP C (.pv (.lit (.bool nx1.2.1))) ?_
    refine rvP C (.pv (.lit (.bool (!nx1.2.1)))) ?_
    refine rvP C (.pv (.lit (.bool (!nx1.2.1)))) ?_
    refine rvc_case 37 (!nx1.2.1) rfl (fun h16 => ?_) (fun h16 => ?_)
    ·
     replace hR := of_true h16 hR
     refine rvS ?_
     refine rvS ?_
     refine rvS ?_
     refine rvP C (.pv (.lit (.bool true))) ?_
     refine rvc_nil ?_
     refine Awp.condT (b := true) rfl rfl ?_
     refine Awp.consP C ?_
     refine rvP C (sS (some l.isEmpty) eCommand l) ?_
     refine rvP C (.agg [.pv (.lit (.int .i64 vc)), sS (some vc1.nil) eMember vc1.D]) ?_
     refine rvP C (sS (some l.isEmpty) eCommand l) ?_
     refine rvc_un (rexec_prim C (δ := { v := .undef, wr := [(9, some (.cells [.pv (.lit (.int .i64 vc)), sS (some vc1.nil) eMember vc1.D]))] }) rfl rfl rfl rfl trivial rfl ?_)
     refine rvP C (.pv (.lit (.int .i64 0))) ?_
     refine rvc_nil ?_
     refine Awp.ret ?_
     subst hR
     exact ⟨.inl rfl, rfl⟩
    ·
     replace hR := of_false h16 hR
     refine rvO C (.ptr 4 0) ?_
     refine rvO C (.pv (.lit (.int .i64 vc))) ?_
     refine rvO C (.pv (.lit (.bool (decide (vc ≥ 1099511627776))))) ?_
     refine rvP C (.pv (.lit (.bool (decide (vc ≥ 1099511627776))))) ?_
     refine rvc_nil ?_
     refine Awp.cond (b := (decide (vc ≥ 1099511627776))) rfl (fun h17 => ?_) (fun h17 => ?_)
     ·
      replace hR := of_true h17 hR
      refine Awp.consP C ?_
      refine rvP C (sS (some l.isEmpty) eCommand l) ?_
      refine rvP C (.agg [.pv (.lit (.int .i64 vc)), sS (some vc1.nil) eMember vc1.D]) ?_
      refine rvP C (sS (some l.isEmpty) eCommand l) ?_
      refine rvc_un (rexec_prim C (δ := { v := .undef, wr := [(9, some (.cells [.pv (.lit (.int .i64 vc)), sS (some vc1.nil) eMember vc1.D]))] }) rfl rfl rfl rfl trivial rfl ?_)
      refine rvP C (.pv (.lit (.int .i64 0))) ?_
      refine rvc_nil ?_
      refine Awp.ret ?_
      subst hR
      exact ⟨.inl rfl, rfl⟩
     ·
      replace hR := of_false h17 hR
      refine Awp.skip ?_
      refine Awp.consP C ?_
      refine rvP C (.agg [.pv (.lit (.int .i64 0)), sS (some true) eMember []]) ?_
      refine rvc_un (rexec_prim C (δ := { v := .ptr 15 0, new := [(15, .cells [.pv (.lit (.int .i64 0)), sS (some true) eMember []])] }) rfl rfl rfl rfl trivial rfl ?_)
      refine rvc_un (rexec_prim C (δ := { v := .undef, wr := [(15, some (.cells [.pv (.lit (.int .i64 0)), sS (some true) eMember []]))] }) rfl rfl rfl rfl trivial rfl ?_)
      refine rvc_nil ?_
      refine Awp.seq ?_
      refine Awp.consP C ?_
      refine rvP C (.ptr 12 0) ?_
      refine rvP C (.pv (.lit (.int .i64 nx1.1.kind))) ?_
      refine rvP C (.pv (.lit (.bool (nx1.1.kind == 1)))) ?_
      refine rvc_nil ?_
      refine Awp.cond (b := (nx1.1.kind == 1)) rfl (fun h18 => ?_) (fun h18 => ?_)
      ·
       replace hR := of_true h18 hR
       refine Awp.regionP C ?_
       refine rvP C (.agg [.pv (.lit (.int .i64 vc)), sS (some vc1.nil) eMember vc1.D]) ?_
       refine rvP C (.ptr 12 1) ?_
       refine rvP C (.pv (.lit (.int .i64 nx1.1.node))) ?_
       obtain ⟨dr1, hq_dr1⟩ : ∃ q_, q_ = (drop (Chain.mk vc vc1) nx1.1.node) := ⟨_, rfl⟩
       have hc_dr1 := (drop_calls (Chain.mk vc vc1) nx1.1.node (by show vc1.D.length ≤ 1000000; have := check_len (c := (Chain.mk vc vc1)); have := check_le6 (c := (Chain.mk vc vc1)); have := ne_of_beq_false h4; have := eq_of_bne_false h15; have := of_decide_eq_false h17; have := beq_iff_eq.1 h18; omega))
       first | rw [← hq_dr1] at hR hc_dr1 | (unfold allP at hR; rw [← hq_dr1] at hR hc_dr1) | (unfold allP_l0 at hR; rw [← hq_dr1] at hR hc_dr1)
       refine rvc_un (rexec_call hP C rfl rfl rfl hc_dr1 ?_)
       refine rvP C (.tup [.agg [.pv (.lit (.int .i64 dr1.1.epoch)), sS (some dr1.1.members.nil) eMember dr1.1.members.D], .pv (.lit (.int .i64 dr1.2))]) ?_
       refine rvP C (.agg [.pv (.lit (.int .i64 dr1.1.epoch)), sS (some dr1.1.members.nil) eMember dr1.1.members.D]) ?_
       refine rvP C (.pv (.lit (.int .i64 dr1.2))) ?_
       refine rvc_un (rexec_prim C (δ := { v := .undef, wr := [(15, some (.cells [.pv (.lit (.int .i64 dr1.1.epoch)), sS (some dr1.1.members.nil) eMember dr1.1.members.D]))] }) rfl rfl rfl rfl trivial rfl ?_)
       refine rvP C (.pv (.lit (.int .i64 dr1.2))) ?_
       refine rvc_nil ?_
       refine Awp.seq ?_
       refine Awp.consP C ?_
       refine rvP C (.pv (.lit (.int .i64 dr1.2))) ?_
       refine rvP C (.pv (.lit (.bool (dr1.2 != 0)))) ?_
       refine rvP C (.pv (.lit (.bool (dr1.2 != 0)))) ?_
       refine rvc_case 67 (dr1.2 != 0) rfl (fun h19 => ?_) (fun h19 => ?_)
       ·
        replace hR := of_true h19 hR
        refine rvS ?_
        refine rvS ?_
        refine rvS ?_
        refine rvP C (.pv (.lit (.bool true))) ?_
        refine rvc_nil ?_
        refine Awp.condT (b := true) rfl rfl ?_
        refine Awp.consP C ?_
        refine rvP C (sS (some l.isEmpty) eCommand l) ?_
        refine rvP C (.agg [.pv (.lit (.int .i64 vc)), sS (some vc1.nil) eMember vc1.D]) ?_
        refine rvP C (sS (some l.isEmpty) eCommand l) ?_
        refine rvc_un (rexec_prim C (δ := { v := .undef, wr := [(9, some (.cells [.pv (.lit (.int .i64 vc)), sS (some vc1.nil) eMember vc1.D]))] }) rfl rfl rfl rfl trivial rfl ?_)
        refine rvP C (.pv (.lit (.int .i64 0))) ?_
        refine rvc_nil ?_
        refine Awp.ret ?_
        subst hR
        exact ⟨.inl rfl, rfl⟩
       ·
        replace hR := of_false h19 hR
        refine rvO C (.agg [.pv (.lit (.int .i64 nx1.1.kind)), .pv (.lit (.int .i64 nx1.1.node)), .pv (.lit (.int .i64 nx1.1.site)), .pv (.lit (.int .i64 nx1.1.epoch))]) ?_
        refine rvc_open rfl rfl rfl (rexec_call hP C rfl rfl rfl (cmdCheck_calls nx1.1) ?_)
        refine rvO C (.pv (.lit (.bool ((cmdCheck nx1.1) != 0)))) ?_
        refine rvP C (.pv (.lit (.bool ((cmdCheck nx1.1) != 0)))) ?_
        refine rvc_nil ?_
        refine Awp.cond (b := ((cmdCheck nx1.1) != 0)) rfl (fun h20 => ?_) (fun h20 => ?_)
        ·
         replace hR := of_true h20 hR
         refine Awp.consP C ?_
         refine rvP C (sS (some l.isEmpty) eCommand l) ?_
         refine rvP C (.agg [.pv (.lit (.int .i64 vc)), sS (some vc1.nil) eMember vc1.D]) ?_
         refine rvP C (sS (some l.isEmpty) eCommand l) ?_
         refine rvc_un (rexec_prim C (δ := { v := .undef, wr := [(9, some (.cells [.pv (.lit (.int .i64 vc)), sS (some vc1.nil) eMember vc1.D]))] }) rfl rfl rfl rfl trivial rfl ?_)
         refine rvP C (.pv (.lit (.int .i64 0))) ?_
         refine rvc_nil ?_
         refine Awp.ret ?_
         subst hR
         exact ⟨.inl rfl, rfl⟩
        ·
         replace hR := of_false h20 hR
         refine Awp.skip ?_
         refine Awp.region C (fun o => match o.dst with | some 77 => .writes [77, 900] | some 78 => .reads [15] | _ => .pure) (by kernel_rfl) ?_
         refine rvP C (sS (some l.isEmpty) eCommand l) ?_
         refine rvP C (.agg [.pv (.lit (.int .i64 nx1.1.kind)), .pv (.lit (.int .i64 nx1.1.node)), .pv (.lit (.int .i64 nx1.1.site)), .pv (.lit (.int .i64 nx1.1.epoch))]) ?_
         refine rvc_un (rexec_buildSliceF C eCommand [nx1.1] rfl rfl rfl rfl rfl rfl rfl (by decide) rfl ?_)
         refine rvc_un (rexec_appendG C rfl rfl rfl rfl rfl rfl rfl rfl (fun _ h => by cases h) rfl (en := eCommand) (l := l) (D := [nx1.1]) rfl rfl h3 (by rw [h3]; rfl) (by simp) (by have := check_len (c := (Chain.mk vc vc1)); have := check_le6 (c := (Chain.mk vc vc1)); have := ne_of_beq_false h4; have := eq_of_bne_false h15; have := of_decide_eq_false h17; have := beq_iff_eq.1 h18; have := eq_of_bne_false h19; have := eq_of_bne_false h20; first | omega | (simp <;> omega)) (by decide) (nn := (l ++ [nx1.1]).length) (by simp) ?_)
         refine rvP C (.agg [.pv (.lit (.int .i64 dr1.1.epoch)), sS (some dr1.1.members.nil) eMember dr1.1.members.D]) ?_
         refine rvP C (.sl 77 0 ((l ++ [nx1.1]).length) 4 false) ?_
         refine rvc_un (rexec_prim C (δ := { v := .undef, wr := [(4, some (.cells [.pv (.lit (.int .i64 dr1.1.epoch)), sS (some dr1.1.members.nil) eMember dr1.1.members.D]))] }) rfl rfl rfl rfl trivial rfl ?_)
         refine rvc_nil ?_
         have h21 : (planM alive dr1.1.members.D) < (planM alive vc1.D) := by first | exact (stepA ha (c := Chain.mk vc vc1) (by assumption) (by assumption) (by assumption) (by assumption) (by assumption) (by assumption)).1 | exact (stepB ha (c := Chain.mk vc vc1) (by assumption) (by assumption) (by assumption) (by assumption) (by assumption) (by assumption)).1 | exact (stepC ha (c := Chain.mk vc vc1) (by assumption) (by assumption) (by assumption)).elim
         obtain ⟨nn, rfl⟩ : ∃ nn, n_ = nn + 1 := ⟨n_ - 1, by omega⟩
         refine ⟨nn, ((l ++ [nx1.1]), dr1.1.epoch, dr1.1.members), by omega, ⟨by show (planM alive dr1.1.members.D) ≤ nn; omega, hR, (by have hlt_ := ‹planM _ _ < planM _ _›; first | (have h_ := (stepA ha (c := Chain.mk vc vc1) (by assumption) (by assumption) (by assumption) (by assumption) (by assumption) (by assumption)); exact ⟨h_.2.1, h_.2.2, (by simp only [List.length_append, List.length_cons, List.length_nil]; omega)⟩) | (have h_ := (stepB ha (c := Chain.mk vc vc1) (by assumption) (by assumption) (by assumption) (by assumption) (by assumption) (by assumption)); exact ⟨h_.2.1, h_.2.2, (by simp only [List.length_append, List.length_cons, List.length_nil]; omega)⟩) | exact (stepC ha (c := Chain.mk vc vc1) (by assumption) (by assumption) (by assumption)).elim)⟩, ?_⟩
         · exact ⟨fun b => bif b == 900 then 77 else (fun b => b) b, WeakerR.ofL (Ks := [4, 6, 7, 9, 900]) hI ⟨⟨rfl, rfl⟩, ⟨rfl, rfl⟩, ⟨rfl, rfl⟩, ⟨rfl, rfl⟩, ⟨rfl, rfl⟩, ⟨grow_to rfl rfl app_ne rfl rfl, grow_within rfl⟩, trivial⟩ (okH_grow (fun _ => rfl) rfl rfl (okH_cons rfl rfl rfl rfl (okH_cons rfl rfl rfl rfl (okH_cons rfl rfl rfl rfl (okH_cons rfl rfl rfl rfl (okH_nil)))))) rfl⟩
      ·
       replace hR := of_false h18 hR
       refine Awp.regionP C ?_
       refine rvP C (.agg [.pv (.lit (.int .i64 vc)), sS (some vc1.nil) eMember vc1.D]) ?_
       refine rvP C (.ptr 12 1) ?_
       refine rvP C (.pv (.lit (.int .i64 nx1.1.node))) ?_
       refine rvP C (.ptr 12 2) ?_
       refine rvP C (.pv (.lit (.int .i64 nx1.1.site))) ?_
       refine rvP C (.agg [.pv (.lit (.int .i64 nx1.1.node)), .pv (.lit (.int .i64 nx1.1.site)), .pv (.lit (.bool false))]) ?_
       obtain ⟨jo1, hq_jo1⟩ : ∃ q_, q_ = (join (Chain.mk vc vc1) (Member.mk nx1.1.node nx1.1.site false)) := ⟨_, rfl⟩
       have hc_jo1 := (join_calls (Chain.mk vc vc1) (Member.mk nx1.1.node nx1.1.site false) (by assumption) (by show vc1.D.length ≤ 1000000; have := check_len (c := (Chain.mk vc vc1)); have := check_le6 (c := (Chain.mk vc vc1)); have := ne_of_beq_false h4; have := eq_of_bne_false h15; have := of_decide_eq_false h17; have := ne_of_beq_false h18; omega))
       first | rw [← hq_jo1] at hR hc_jo1 | (unfold allP at hR; rw [← hq_jo1] at hR hc_jo1) | (unfold allP_l0 at hR; rw [← hq_jo1] at hR hc_jo1)
       refine rvc_un (rexec_call hP C rfl rfl rfl hc_jo1 ?_)
       refine rvP C (.tup [.agg [.pv (.lit (.int .i64 jo1.1.epoch)), sS (some jo1.1.members.nil) eMember jo1.1.members.D], .pv (.lit (.int .i64 jo1.2))]) ?_
       refine rvP C (.agg [.pv (.lit (.int .i64 jo1.1.epoch)), sS (some jo1.1.members.nil) eMember jo1.1.members.D]) ?_
       refine rvP C (.pv (.lit (.int .i64 jo1.2))) ?_
       refine rvc_un (rexec_prim C (δ := { v := .undef, wr := [(15, some (.cells [.pv (.lit (.int .i64 jo1.1.epoch)), sS (some jo1.1.members.nil) eMember jo1.1.members.D]))] }) rfl rfl rfl rfl trivial rfl ?_)
       refine rvP C (.pv (.lit (.int .i64 jo1.2))) ?_
       refine rvc_nil ?_
       refine Awp.seq ?_
       refine Awp.consP C ?_
       refine rvP C (.pv (.lit (.int .i64 jo1.2))) ?_
       refine rvP C (.pv (.lit (.bool (jo1.2 != 0)))) ?_
       refine rvP C (.pv (.lit (.bool (jo1.2 != 0)))) ?_
       refine rvc_case 67 (jo1.2 != 0) rfl (fun h22 => ?_) (fun h22 => ?_)
       ·
        replace hR := of_true h22 hR
        refine rvS ?_
        refine rvS ?_
        refine rvS ?_
        refine rvP C (.pv (.lit (.bool true))) ?_
        refine rvc_nil ?_
        refine Awp.condT (b := true) rfl rfl ?_
        refine Awp.consP C ?_
        refine rvP C (sS (some l.isEmpty) eCommand l) ?_
        refine rvP C (.agg [.pv (.lit (.int .i64 vc)), sS (some vc1.nil) eMember vc1.D]) ?_
        refine rvP C (sS (some l.isEmpty) eCommand l) ?_
        refine rvc_un (rexec_prim C (δ := { v := .undef, wr := [(9, some (.cells [.pv (.lit (.int .i64 vc)), sS (some vc1.nil) eMember vc1.D]))] }) rfl rfl rfl rfl trivial rfl ?_)
        refine rvP C (.pv (.lit (.int .i64 0))) ?_
        refine rvc_nil ?_
        refine Awp.ret ?_
        subst hR
        exact ⟨.inl rfl, rfl⟩
       ·
        replace hR := of_false h22 hR
        refine rvO C (.agg [.pv (.lit (.int .i64 nx1.1.kind)), .pv (.lit (.int .i64 nx1.1.node)), .pv (.lit (.int .i64 nx1.1.site)), .pv (.lit (.int .i64 nx1.1.epoch))]) ?_
        refine rvc_open rfl rfl rfl (rexec_call hP C rfl rfl rfl (cmdCheck_calls nx1.1) ?_)
        refine rvO C (.pv (.lit (.bool ((cmdCheck nx1.1) != 0)))) ?_
        refine rvP C (.pv (.lit (.bool ((cmdCheck nx1.1) != 0)))) ?_
        refine rvc_nil ?_
        refine Awp.cond (b := ((cmdCheck nx1.1) != 0)) rfl (fun h23 => ?_) (fun h23 => ?_)
        ·
         replace hR := of_true h23 hR
         refine Awp.consP C ?_
         refine rvP C (sS (some l.isEmpty) eCommand l) ?_
         refine rvP C (.agg [.pv (.lit (.int .i64 vc)), sS (some vc1.nil) eMember vc1.D]) ?_
         refine rvP C (sS (some l.isEmpty) eCommand l) ?_
         refine rvc_un (rexec_prim C (δ := { v := .undef, wr := [(9, some (.cells [.pv (.lit (.int .i64 vc)), sS (some vc1.nil) eMember vc1.D]))] }) rfl rfl rfl rfl trivial rfl ?_)
         refine rvP C (.pv (.lit (.int .i64 0))) ?_
         refine rvc_nil ?_
         refine Awp.ret ?_
         subst hR
         exact ⟨.inl rfl, rfl⟩
        ·
         replace hR := of_false h23 hR
         refine Awp.skip ?_
         refine Awp.region C (fun o => match o.dst with | some 77 => .writes [77, 900] | some 78 => .reads [15] | _ => .pure) (by kernel_rfl) ?_
         refine rvP C (sS (some l.isEmpty) eCommand l) ?_
         refine rvP C (.agg [.pv (.lit (.int .i64 nx1.1.kind)), .pv (.lit (.int .i64 nx1.1.node)), .pv (.lit (.int .i64 nx1.1.site)), .pv (.lit (.int .i64 nx1.1.epoch))]) ?_
         refine rvc_un (rexec_buildSliceF C eCommand [nx1.1] rfl rfl rfl rfl rfl rfl rfl (by decide) rfl ?_)
         refine rvc_un (rexec_appendG C rfl rfl rfl rfl rfl rfl rfl rfl (fun _ h => by cases h) rfl (en := eCommand) (l := l) (D := [nx1.1]) rfl rfl h3 (by rw [h3]; rfl) (by simp) (by have := check_len (c := (Chain.mk vc vc1)); have := check_le6 (c := (Chain.mk vc vc1)); have := ne_of_beq_false h4; have := eq_of_bne_false h15; have := of_decide_eq_false h17; have := ne_of_beq_false h18; have := eq_of_bne_false h22; have := eq_of_bne_false h23; first | omega | (simp <;> omega)) (by decide) (nn := (l ++ [nx1.1]).length) (by simp) ?_)
         refine rvP C (.agg [.pv (.lit (.int .i64 jo1.1.epoch)), sS (some jo1.1.members.nil) eMember jo1.1.members.D]) ?_
         refine rvP C (.sl 77 0 ((l ++ [nx1.1]).length) 4 false) ?_
         refine rvc_un (rexec_prim C (δ := { v := .undef, wr := [(4, some (.cells [.pv (.lit (.int .i64 jo1.1.epoch)), sS (some jo1.1.members.nil) eMember jo1.1.members.D]))] }) rfl rfl rfl rfl trivial rfl ?_)
         refine rvc_nil ?_
         have h24 : (planM alive jo1.1.members.D) < (planM alive vc1.D) := by first | exact (stepA ha (c := Chain.mk vc vc1) (by assumption) (by assumption) (by assumption) (by assumption) (by assumption) (by assumption)).1 | exact (stepB ha (c := Chain.mk vc vc1) (by assumption) (by assumption) (by assumption) (by assumption) (by assumption) (by assumption)).1 | exact (stepC ha (c := Chain.mk vc vc1) (by assumption) (by assumption) (by assumption)).elim
         obtain ⟨nn, rfl⟩ : ∃ nn, n_ = nn + 1 := ⟨n_ - 1, by omega⟩
         refine ⟨nn, ((l ++ [nx1.1]), jo1.1.epoch, jo1.1.members), by omega, ⟨by show (planM alive jo1.1.members.D) ≤ nn; omega, hR, (by have hlt_ := ‹planM _ _ < planM _ _›; first | (have h_ := (stepA ha (c := Chain.mk vc vc1) (by assumption) (by assumption) (by assumption) (by assumption) (by assumption) (by assumption)); exact ⟨h_.2.1, h_.2.2, (by simp only [List.length_append, List.length_cons, List.length_nil]; omega)⟩) | (have h_ := (stepB ha (c := Chain.mk vc vc1) (by assumption) (by assumption) (by assumption) (by assumption) (by assumption) (by assumption)); exact ⟨h_.2.1, h_.2.2, (by simp only [List.length_append, List.length_cons, List.length_nil]; omega)⟩) | exact (stepC ha (c := Chain.mk vc vc1) (by assumption) (by assumption) (by assumption)).elim)⟩, ?_⟩
         · exact ⟨fun b => bif b == 900 then 77 else (fun b => b) b, WeakerR.ofL (Ks := [4, 6, 7, 9, 900]) hI ⟨⟨rfl, rfl⟩, ⟨rfl, rfl⟩, ⟨rfl, rfl⟩, ⟨rfl, rfl⟩, ⟨rfl, rfl⟩, ⟨grow_to rfl rfl app_ne rfl rfl, grow_within rfl⟩, trivial⟩ (okH_grow (fun _ => rfl) rfl rfl (okH_cons rfl rfl rfl rfl (okH_cons rfl rfl rfl rfl (okH_cons rfl rfl rfl rfl (okH_cons rfl rfl rfl rfl (okH_nil)))))) rfl⟩
 ·
  refine Awp.wordsR [(1, .pv (.lit (.int .u64 alive))), (4, .ptr 4 0), (6, .ptr 6 0), (7, .ptr 7 0), (9, .ptr 9 0), (11, .sl 900 0 l.length 4 false)] [(900, .cells (encC eCommand l)), (4, .cells [.pv (.lit (.int .i64 vc)), sS (some vc1.nil) eMember vc1.D]), (6, .cells [.pv (.lit (.int .i64 (h 0))), .pv (.lit (.int .i64 (h 1))), .pv (.lit (.int .i64 (h 2))), .pv (.lit (.int .i64 (h 3))), .pv (.lit (.int .i64 (h 4))), .pv (.lit (.int .i64 (h 5)))]), (7, .cells [.pv (.lit (.int .i64 (w 0))), .pv (.lit (.int .i64 (w 1))), .pv (.lit (.int .i64 (w 2)))]), (9, .cells [.pv (.lit (.int .i64 0)), sS (some true) eMember []])] [4, 6, 7, 9, 900] (WeakerR.ofL (Ks := [4, 6, 7, 9, 900]) hI ⟨⟨rfl, rfl⟩, ⟨rfl, rfl⟩, ⟨rfl, rfl⟩, ⟨rfl, rfl⟩, ⟨rfl, rfl⟩, ⟨(by exact grow_at_cons (b := 900) (b' := 900) (e := eCommand) (l := l) rfl h3 rfl rfl rfl), rfl⟩, trivial⟩ (okH_list (look_cons h3 rfl) rfl rfl (okH_cons (look_cons h3 rfl) rfl rfl rfl (okH_cons (look_cons h3 rfl) rfl rfl rfl (okH_cons (look_cons h3 rfl) rfl rfl rfl (okH_cons (look_cons h3 rfl) rfl rfl rfl (okH_nil)))))) rfl) ?_
  refine Awp.block ?_
  refine Awp.seq ?_
  refine Awp.consP C ?_
  refine rvP C (.agg [.pv (.lit (.int .i64 vc)), sS (some vc1.nil) eMember vc1.D]) ?_
  refine rvc_un (rexec_call hP C rfl rfl rfl (check_calls (Chain.mk vc vc1) (by show vc1.D.length ≤ 9223372036854775807; omega)) ?_)
  refine rvP C (.pv (.lit (.bool ((check (Chain.mk vc vc1)) == 0)))) ?_
  refine rvc_nil ?_
  refine Awp.cond (b := ((check (Chain.mk vc vc1)) == 0)) rfl (fun h25 => ?_) (fun h25 => ?_)
  ·
   replace hR := of_true h25 hR
   refine Awp.regionP C ?_
   refine rvP C (.agg [.pv (.lit (.int .i64 vc)), sS (some vc1.nil) eMember vc1.D]) ?_
   refine rvP C (.pv (.lit (.int .u64 alive))) ?_
   obtain ⟨ra1, hq_ra1⟩ : ∃ q_, q_ = (readyAll (Chain.mk vc vc1) alive) := ⟨_, rfl⟩
   have hc_ra1 := (readyAll_calls (Chain.mk vc vc1) alive hVn (by show vc1.D.length ≤ 1000000; have := check_len (c := (Chain.mk vc vc1)); have := check_le6 (c := (Chain.mk vc vc1)); have := beq_iff_eq.1 h25; omega))
   first | rw [← hq_ra1] at hR hc_ra1 | (unfold allP at hR; rw [← hq_ra1] at hR hc_ra1) | (unfold allP_l0 at hR; rw [← hq_ra1] at hR hc_ra1)
   have hf0_ra1 := readyAll_hn (Chain.mk vc vc1) alive hVn
   rw [← hq_ra1] at hf0_ra1
   have hf1_ra1 := readyAll_le (m := 1000000) (c := (Chain.mk vc vc1)) alive hVl
   rw [← hq_ra1] at hf1_ra1
   refine rvc_un (rexec_call hP C rfl rfl rfl hc_ra1 ?_)
   refine rvc_un (rexec_prim C (δ := { v := .undef, wr := [(4, some (.cells [.pv (.lit (.int .i64 ra1.epoch)), sS (some ra1.members.nil) eMember ra1.members.D]))] }) rfl rfl rfl rfl trivial rfl ?_)
   refine rvc_nil ?_
   refine Awp.consP C ?_
   refine rvP C (.agg [.pv (.lit (.int .i64 ra1.epoch)), sS (some ra1.members.nil) eMember ra1.members.D]) ?_
   refine rvP C (.pv (.lit (.int .u64 alive))) ?_
   refine rvP C (.agg [.pv (.lit (.int .i64 (h 0))), .pv (.lit (.int .i64 (h 1))), .pv (.lit (.int .i64 (h 2))), .pv (.lit (.int .i64 (h 3))), .pv (.lit (.int .i64 (h 4))), .pv (.lit (.int .i64 (h 5)))]) ?_
   refine rvP C (.agg [.pv (.lit (.int .i64 (w 0))), .pv (.lit (.int .i64 (w 1))), .pv (.lit (.int .i64 (w 2)))]) ?_
   obtain ⟨nx2, hq_nx2⟩ : ∃ q_, q_ = (nextP ra1 alive h w) := ⟨_, rfl⟩
   have hc_nx2 := (nextP_calls ra1 alive h w (by assumption) (by show ra1.members.D.length ≤ 1000000; have := check_len (c := (Chain.mk vc vc1)); have := check_le6 (c := (Chain.mk vc vc1)); have := beq_iff_eq.1 h25; omega))
   first | rw [← hq_nx2] at hR hc_nx2 | (unfold allP at hR; rw [← hq_nx2] at hR hc_nx2) | (unfold allP_l0 at hR; rw [← hq_nx2] at hR hc_nx2)
   refine rvc_un (rexec_call hP C rfl rfl rfl hc_nx2 ?_)
   refine rvP C (.tup [.agg [.pv (.lit (.int .i64 nx2.1.kind)), .pv (.lit (.int .i64 nx2.1.node)), .pv (.lit (.int .i64 nx2.1.site)), .pv (.lit (.int .i64 nx2.1.epoch))], .pv (.lit (.bool nx2.2.1)), .pv (.lit (.int .i64 nx2.2.2))]) ?_
   refine rvP C (.agg [.pv (.lit (.int .i64 nx2.1.kind)), .pv (.lit (.int .i64 nx2.1.node)), .pv (.lit (.int .i64 nx2.1.site)), .pv (.lit (.int .i64 nx2.1.epoch))]) ?_
   refine rvP C (.pv (.lit (.bool nx2.2.1))) ?_
   refine rvP C (.pv (.lit (.int .i64 nx2.2.2))) ?_
   refine rvc_un (rexec_prim C (δ := { v := .ptr 12 0, new := [(12, .cells [.pv (.lit (.int .i64 0)), .pv (.lit (.int .i64 0)), .pv (.lit (.int .i64 0)), .pv (.lit (.int .i64 0))])] }) rfl rfl rfl rfl trivial rfl ?_)
   refine rvc_un (rexec_prim C (δ := { v := .undef, wr := [(12, some (.cells [.pv (.lit (.int .i64 nx2.1.kind)), .pv (.lit (.int .i64 nx2.1.node)), .pv (.lit (.int .i64 nx2.1.site)), .pv (.lit (.int .i64 nx2.1.epoch))]))] }) rfl rfl rfl rfl trivial rfl ?_)
   refine rvP C (.pv (.lit (.bool nx2.2.1))) ?_
   refine rvP C (.pv (.lit (.int .i64 nx2.2.2))) ?_
   refine rvc_nil ?_
   refine Awp.seq ?_
   refine Awp.consP C ?_
   refine rvP C (.pv (.lit (.int .i64 nx2.2.2))) ?_
   refine rvP C (.pv (.lit (.bool (nx2.2.2 != 0)))) ?_
   refine rvc_nil ?_
   refine Awp.cond (b := (nx2.2.2 != 0)) rfl (fun h26 => ?_) (fun h26 => ?_)
   ·
    replace hR := of_true h26 hR
    refine Awp.consP C ?_
    refine rvP C (.agg [.pv (.lit (.int .i64 0)), sS (some true) eMember []]) ?_
    refine rvP C (.pv (.lit (.int .i64 nx2.2.2))) ?_
    refine rvP C (sS (some true) eCommand []) ?_
    refine rvc_un (rexec_prim C (δ := { v := .undef, wr := [(9, some (.cells [.pv (.lit (.int .i64 0)), sS (some true) eMember []]))] }) rfl rfl rfl rfl trivial rfl ?_)
    refine rvP C (.pv (.lit (.int .i64 nx2.2.2))) ?_
    refine rvc_nil ?_
    refine Awp.ret ?_
    subst hR
    exact ⟨.inl rfl, rfl⟩
   ·
    replace hR := of_false h26 hR
    refine Awp.skip ?_
    refine Awp.seq ?_
    refine Awp.consP C ?_
    refine rvP C (.pv (.lit (.bool nx2.2.1))) ?_
    refine rvP C (.pv (.lit (.bool (!nx2.2.1)))) ?_
    refine rvP C (.pv (.lit (.bool (!nx2.2.1)))) ?_
    refine rvc_case 37 (!nx2.2.1) rfl (fun h27 => ?_) (fun h27 => ?_)
    ·
     replace hR := of_true h27 hR
     refine rvS ?_
     refine rvS ?_
     refine rvS ?_
     refine rvP C (.pv (.lit (.bool true))) ?_
     refine rvc_nil ?_
     refine Awp.condT (b := true) rfl rfl ?_
     refine Awp.consP C ?_
     refine rvP C (.sl 900 0 l.length 4 false) ?_
     refine rvP C (.agg [.pv (.lit (.int .i64 ra1.epoch)), sS (some ra1.members.nil) eMember ra1.members.D]) ?_
     refine rvP C (.sl 900 0 l.length 4 false) ?_
     refine rvc_un (rexec_prim C (δ := { v := .undef, wr := [(9, some (.cells [.pv (.lit (.int .i64 ra1.epoch)), sS (some ra1.members.nil) eMember ra1.members.D]))] }) rfl rfl rfl rfl trivial rfl ?_)
     refine rvP C (.pv (.lit (.int .i64 0))) ?_
     refine rvc_nil ?_
     refine Awp.freezeW 900 (encL eCommand l) ?_ [(8, sS (some l.isEmpty) eCommand l), (9, .ptr 9 0), (10, .pv (.lit (.int .i64 0)))] [(4, .cells [.pv (.lit (.int .i64 ra1.epoch)), sS (some ra1.members.nil) eMember ra1.members.D]), (6, .cells [.pv (.lit (.int .i64 (h 0))), .pv (.lit (.int .i64 (h 1))), .pv (.lit (.int .i64 (h 2))), .pv (.lit (.int .i64 (h 3))), .pv (.lit (.int .i64 (h 4))), .pv (.lit (.int .i64 (h 5)))]), (7, .cells [.pv (.lit (.int .i64 (w 0))), .pv (.lit (.int .i64 (w 1))), .pv (.lit (.int .i64 (w 2)))]), (9, .cells [.pv (.lit (.int .i64 ra1.epoch)), sS (some ra1.members.nil) eMember ra1.members.D]), (12, .cells [.pv (.lit (.int .i64 nx2.1.kind)), .pv (.lit (.int .i64 nx2.1.node)), .pv (.lit (.int .i64 nx2.1.site)), .pv (.lit (.int .i64 nx2.1.epoch))])] ?_ ?_ ?_
     · rfl
     · exact ⟨⟨_, rfl, .inl (.inr ⟨_, _, _, rfl, by rw [ne_isEmpty h3]; rfl⟩)⟩, ⟨_, rfl, .inl (.inl rfl)⟩, ⟨_, rfl, .inl (.inl rfl)⟩, trivial⟩
     · exact ⟨⟨(by show (4 : Nat) ≠ 900; decide), .inl rfl⟩, ⟨(by show (6 : Nat) ≠ 900; decide), .inl rfl⟩, ⟨(by show (7 : Nat) ≠ 900; decide), .inl rfl⟩, ⟨(by show (9 : Nat) ≠ 900; decide), .inl rfl⟩, ⟨(by show (12 : Nat) ≠ 900; decide), .inl rfl⟩, trivial⟩
     refine Awp.ret ?_
     subst hR
     exact ⟨.inl rfl, rfl⟩
    ·
     replace hR := of_false h27 hR
     refine rvO C (.ptr 4 0) ?_
     refine rvO C (.pv (.lit (.int .i64 ra1.epoch))) ?_
     refine rvO C (.pv (.lit (.bool (decide (ra1.epoch ≥ 1099511627776))))) ?_
     refine rvP C (.pv (.lit (.bool (decide (ra1.epoch ≥ 1099511627776))))) ?_
     refine rvc_nil ?_
     refine Awp.cond (b := (decide (ra1.epoch ≥ 1099511627776))) rfl (fun h28 => ?_) (fun h28 => ?_)
     ·
      replace hR := of_true h28 hR
      refine Awp.consP C ?_
      refine rvP C (.sl 900 0 l.length 4 false) ?_
      refine rvP C (.agg [.pv (.lit (.int .i64 ra1.epoch)), sS (some ra1.members.nil) eMember ra1.members.D]) ?_
      refine rvP C (.sl 900 0 l.length 4 false) ?_
      refine rvc_un (rexec_prim C (δ := { v := .undef, wr := [(9, some (.cells [.pv (.lit (.int .i64 ra1.epoch)), sS (some ra1.members.nil) eMember ra1.members.D]))] }) rfl rfl rfl rfl trivial rfl ?_)
      refine rvP C (.pv (.lit (.int .i64 0))) ?_
      refine rvc_nil ?_
      refine Awp.freezeW 900 (encL eCommand l) ?_ [(8, sS (some l.isEmpty) eCommand l), (9, .ptr 9 0), (10, .pv (.lit (.int .i64 0)))] [(4, .cells [.pv (.lit (.int .i64 ra1.epoch)), sS (some ra1.members.nil) eMember ra1.members.D]), (6, .cells [.pv (.lit (.int .i64 (h 0))), .pv (.lit (.int .i64 (h 1))), .pv (.lit (.int .i64 (h 2))), .pv (.lit (.int .i64 (h 3))), .pv (.lit (.int .i64 (h 4))), .pv (.lit (.int .i64 (h 5)))]), (7, .cells [.pv (.lit (.int .i64 (w 0))), .pv (.lit (.int .i64 (w 1))), .pv (.lit (.int .i64 (w 2)))]), (9, .cells [.pv (.lit (.int .i64 ra1.epoch)), sS (some ra1.members.nil) eMember ra1.members.D]), (12, .cells [.pv (.lit (.int .i64 nx2.1.kind)), .pv (.lit (.int .i64 nx2.1.node)), .pv (.lit (.int .i64 nx2.1.site)), .pv (.lit (.int .i64 nx2.1.epoch))])] ?_ ?_ ?_
      · rfl
      · exact ⟨⟨_, rfl, .inl (.inr ⟨_, _, _, rfl, by rw [ne_isEmpty h3]; rfl⟩)⟩, ⟨_, rfl, .inl (.inl rfl)⟩, ⟨_, rfl, .inl (.inl rfl)⟩, trivial⟩
      · exact ⟨⟨(by show (4 : Nat) ≠ 900; decide), .inl rfl⟩, ⟨(by show (6 : Nat) ≠ 900; decide), .inl rfl⟩, ⟨(by show (7 : Nat) ≠ 900; decide), .inl rfl⟩, ⟨(by show (9 : Nat) ≠ 900; decide), .inl rfl⟩, ⟨(by show (12 : Nat) ≠ 900; decide), .inl rfl⟩, trivial⟩
      refine Awp.ret ?_
      subst hR
      exact ⟨.inl rfl, rfl⟩
     ·
      replace hR := of_false h28 hR
      refine Awp.skip ?_
      refine Awp.consP C ?_
      refine rvP C (.agg [.pv (.lit (.int .i64 0)), sS (some true) eMember []]) ?_
      refine rvc_un (rexec_prim C (δ := { v := .ptr 15 0, new := [(15, .cells [.pv (.lit (.int .i64 0)), sS (some true) eMember []])] }) rfl rfl rfl rfl trivial rfl ?_)
      refine rvc_un (rexec_prim C (δ := { v := .undef, wr := [(15, some (.cells [.pv (.lit (.int .i64 0)), sS (some true) eMember []]))] }) rfl rfl rfl rfl trivial rfl ?_)
      refine rvc_nil ?_
      refine Awp.seq ?_
      refine Awp.consP C ?_
      refine rvP C (.ptr 12 0) ?_
      refine rvP C (.pv (.lit (.int .i64 nx2.1.kind))) ?_
      refine rvP C (.pv (.lit (.bool (nx2.1.kind == 1)))) ?_
      refine rvc_nil ?_
      refine Awp.cond (b := (nx2.1.kind == 1)) rfl (fun h29 => ?_) (fun h29 => ?_)
      ·
       replace hR := of_true h29 hR
       refine Awp.regionP C ?_
       refine rvP C (.agg [.pv (.lit (.int .i64 ra1.epoch)), sS (some ra1.members.nil) eMember ra1.members.D]) ?_
       refine rvP C (.ptr 12 1) ?_
       refine rvP C (.pv (.lit (.int .i64 nx2.1.node))) ?_
       obtain ⟨dr2, hq_dr2⟩ : ∃ q_, q_ = (drop ra1 nx2.1.node) := ⟨_, rfl⟩
       have hc_dr2 := (drop_calls ra1 nx2.1.node (by show ra1.members.D.length ≤ 1000000; have := check_len (c := (Chain.mk vc vc1)); have := check_le6 (c := (Chain.mk vc vc1)); have := beq_iff_eq.1 h25; have := eq_of_bne_false h26; have := of_decide_eq_false h28; have := beq_iff_eq.1 h29; omega))
       first | rw [← hq_dr2] at hR hc_dr2 | (unfold allP at hR; rw [← hq_dr2] at hR hc_dr2) | (unfold allP_l0 at hR; rw [← hq_dr2] at hR hc_dr2)
       refine rvc_un (rexec_call hP C rfl rfl rfl hc_dr2 ?_)
       refine rvP C (.tup [.agg [.pv (.lit (.int .i64 dr2.1.epoch)), sS (some dr2.1.members.nil) eMember dr2.1.members.D], .pv (.lit (.int .i64 dr2.2))]) ?_
       refine rvP C (.agg [.pv (.lit (.int .i64 dr2.1.epoch)), sS (some dr2.1.members.nil) eMember dr2.1.members.D]) ?_
       refine rvP C (.pv (.lit (.int .i64 dr2.2))) ?_
       refine rvc_un (rexec_prim C (δ := { v := .undef, wr := [(15, some (.cells [.pv (.lit (.int .i64 dr2.1.epoch)), sS (some dr2.1.members.nil) eMember dr2.1.members.D]))] }) rfl rfl rfl rfl trivial rfl ?_)
       refine rvP C (.pv (.lit (.int .i64 dr2.2))) ?_
       refine rvc_nil ?_
       refine Awp.seq ?_
       refine Awp.consP C ?_
       refine rvP C (.pv (.lit (.int .i64 dr2.2))) ?_
       refine rvP C (.pv (.lit (.bool (dr2.2 != 0)))) ?_
       refine rvP C (.pv (.lit (.bool (dr2.2 != 0)))) ?_
       refine rvc_case 67 (dr2.2 != 0) rfl (fun h30 => ?_) (fun h30 => ?_)
       ·
        replace hR := of_true h30 hR
        refine rvS ?_
        refine rvS ?_
        refine rvS ?_
        refine rvP C (.pv (.lit (.bool true))) ?_
        refine rvc_nil ?_
        refine Awp.condT (b := true) rfl rfl ?_
        refine Awp.consP C ?_
        refine rvP C (.sl 900 0 l.length 4 false) ?_
        refine rvP C (.agg [.pv (.lit (.int .i64 ra1.epoch)), sS (some ra1.members.nil) eMember ra1.members.D]) ?_
        refine rvP C (.sl 900 0 l.length 4 false) ?_
        refine rvc_un (rexec_prim C (δ := { v := .undef, wr := [(9, some (.cells [.pv (.lit (.int .i64 ra1.epoch)), sS (some ra1.members.nil) eMember ra1.members.D]))] }) rfl rfl rfl rfl trivial rfl ?_)
        refine rvP C (.pv (.lit (.int .i64 0))) ?_
        refine rvc_nil ?_
        refine Awp.freezeW 900 (encL eCommand l) ?_ [(8, sS (some l.isEmpty) eCommand l), (9, .ptr 9 0), (10, .pv (.lit (.int .i64 0)))] [(4, .cells [.pv (.lit (.int .i64 ra1.epoch)), sS (some ra1.members.nil) eMember ra1.members.D]), (6, .cells [.pv (.lit (.int .i64 (h 0))), .pv (.lit (.int .i64 (h 1))), .pv (.lit (.int .i64 (h 2))), .pv (.lit (.int .i64 (h 3))), .pv (.lit (.int .i64 (h 4))), .pv (.lit (.int .i64 (h 5)))]), (7, .cells [.pv (.lit (.int .i64 (w 0))), .pv (.lit (.int .i64 (w 1))), .pv (.lit (.int .i64 (w 2)))]), (9, .cells [.pv (.lit (.int .i64 ra1.epoch)), sS (some ra1.members.nil) eMember ra1.members.D]), (12, .cells [.pv (.lit (.int .i64 nx2.1.kind)), .pv (.lit (.int .i64 nx2.1.node)), .pv (.lit (.int .i64 nx2.1.site)), .pv (.lit (.int .i64 nx2.1.epoch))]), (15, .cells [.pv (.lit (.int .i64 dr2.1.epoch)), sS (some dr2.1.members.nil) eMember dr2.1.members.D])] ?_ ?_ ?_
        · rfl
        · exact ⟨⟨_, rfl, .inl (.inr ⟨_, _, _, rfl, by rw [ne_isEmpty h3]; rfl⟩)⟩, ⟨_, rfl, .inl (.inl rfl)⟩, ⟨_, rfl, .inl (.inl rfl)⟩, trivial⟩
        · exact ⟨⟨(by show (4 : Nat) ≠ 900; decide), .inl rfl⟩, ⟨(by show (6 : Nat) ≠ 900; decide), .inl rfl⟩, ⟨(by show (7 : Nat) ≠ 900; decide), .inl rfl⟩, ⟨(by show (9 : Nat) ≠ 900; decide), .inl rfl⟩, ⟨(by show (12 : Nat) ≠ 900; decide), .inl rfl⟩, ⟨(by show (15 : Nat) ≠ 900; decide), .inl rfl⟩, trivial⟩
        refine Awp.ret ?_
        subst hR
        exact ⟨.inl rfl, rfl⟩
       ·
        replace hR := of_false h30 hR
        refine rvO C (.agg [.pv (.lit (.int .i64 nx2.1.kind)), .pv (.lit (.int .i64 nx2.1.node)), .pv (.lit (.int .i64 nx2.1.site)), .pv (.lit (.int .i64 nx2.1.epoch))]) ?_
        refine rvc_open rfl rfl rfl (rexec_call hP C rfl rfl rfl (cmdCheck_calls nx2.1) ?_)
        refine rvO C (.pv (.lit (.bool ((cmdCheck nx2.1) != 0)))) ?_
        refine rvP C (.pv (.lit (.bool ((cmdCheck nx2.1) != 0)))) ?_
        refine rvc_nil ?_
        refine Awp.cond (b := ((cmdCheck nx2.1) != 0)) rfl (fun h31 => ?_) (fun h31 => ?_)
        ·
         replace hR := of_true h31 hR
         refine Awp.consP C ?_
         refine rvP C (.sl 900 0 l.length 4 false) ?_
         refine rvP C (.agg [.pv (.lit (.int .i64 ra1.epoch)), sS (some ra1.members.nil) eMember ra1.members.D]) ?_
         refine rvP C (.sl 900 0 l.length 4 false) ?_
         refine rvc_un (rexec_prim C (δ := { v := .undef, wr := [(9, some (.cells [.pv (.lit (.int .i64 ra1.epoch)), sS (some ra1.members.nil) eMember ra1.members.D]))] }) rfl rfl rfl rfl trivial rfl ?_)
         refine rvP C (.pv (.lit (.int .i64 0))) ?_
         refine rvc_nil ?_
         refine Awp.freezeW 900 (encL eCommand l) ?_ [(8, sS (some l.isEmpty) eCommand l), (9, .ptr 9 0), (10, .pv (.lit (.int .i64 0)))] [(4, .cells [.pv (.lit (.int .i64 ra1.epoch)), sS (some ra1.members.nil) eMember ra1.members.D]), (6, .cells [.pv (.lit (.int .i64 (h 0))), .pv (.lit (.int .i64 (h 1))), .pv (.lit (.int .i64 (h 2))), .pv (.lit (.int .i64 (h 3))), .pv (.lit (.int .i64 (h 4))), .pv (.lit (.int .i64 (h 5)))]), (7, .cells [.pv (.lit (.int .i64 (w 0))), .pv (.lit (.int .i64 (w 1))), .pv (.lit (.int .i64 (w 2)))]), (9, .cells [.pv (.lit (.int .i64 ra1.epoch)), sS (some ra1.members.nil) eMember ra1.members.D]), (12, .cells [.pv (.lit (.int .i64 nx2.1.kind)), .pv (.lit (.int .i64 nx2.1.node)), .pv (.lit (.int .i64 nx2.1.site)), .pv (.lit (.int .i64 nx2.1.epoch))]), (15, .cells [.pv (.lit (.int .i64 dr2.1.epoch)), sS (some dr2.1.members.nil) eMember dr2.1.members.D])] ?_ ?_ ?_
         · rfl
         · exact ⟨⟨_, rfl, .inl (.inr ⟨_, _, _, rfl, by rw [ne_isEmpty h3]; rfl⟩)⟩, ⟨_, rfl, .inl (.inl rfl)⟩, ⟨_, rfl, .inl (.inl rfl)⟩, trivial⟩
         · exact ⟨⟨(by show (4 : Nat) ≠ 900; decide), .inl rfl⟩, ⟨(by show (6 : Nat) ≠ 900; decide), .inl rfl⟩, ⟨(by show (7 : Nat) ≠ 900; decide), .inl rfl⟩, ⟨(by show (9 : Nat) ≠ 900; decide), .inl rfl⟩, ⟨(by show (12 : Nat) ≠ 900; decide), .inl rfl⟩, ⟨(by show (15 : Nat) ≠ 900; decide), .inl rfl⟩, trivial⟩
         refine Awp.ret ?_
         subst hR
         exact ⟨.inl rfl, rfl⟩
        ·
         replace hR := of_false h31 hR
         refine Awp.skip ?_
         refine Awp.region C (fun o => match o.dst with | some 77 => .writes [77, 900] | some 78 => .reads [15] | _ => .pure) (by kernel_rfl) ?_
         refine rvP C (.sl 900 0 l.length 4 false) ?_
         refine rvP C (.agg [.pv (.lit (.int .i64 nx2.1.kind)), .pv (.lit (.int .i64 nx2.1.node)), .pv (.lit (.int .i64 nx2.1.site)), .pv (.lit (.int .i64 nx2.1.epoch))]) ?_
         refine rvc_un (rexec_buildSliceF C eCommand [nx2.1] rfl rfl rfl rfl rfl rfl rfl (by decide) rfl ?_)
         refine rvc_un (rexec_append C rfl rfl rfl rfl rfl rfl rfl rfl (fun _ h => by cases h) rfl (en := eCommand) (D0 := l) (D := [nx2.1]) rfl rfl rfl rfl (by have := check_len (c := (Chain.mk vc vc1)); have := check_le6 (c := (Chain.mk vc vc1)); have := beq_iff_eq.1 h25; have := eq_of_bne_false h26; have := of_decide_eq_false h28; have := beq_iff_eq.1 h29; have := eq_of_bne_false h30; have := eq_of_bne_false h31; first | omega | (simp <;> omega)) (by decide) (nn := (l ++ [nx2.1]).length) (by simp) ?_)
         refine rvP C (.agg [.pv (.lit (.int .i64 dr2.1.epoch)), sS (some dr2.1.members.nil) eMember dr2.1.members.D]) ?_
         refine rvP C (.sl 77 0 ((l ++ [nx2.1]).length) 4 false) ?_
         refine rvc_un (rexec_prim C (δ := { v := .undef, wr := [(4, some (.cells [.pv (.lit (.int .i64 dr2.1.epoch)), sS (some dr2.1.members.nil) eMember dr2.1.members.D]))] }) rfl rfl rfl rfl trivial rfl ?_)
         refine rvc_nil ?_
         have h32 : (planM alive dr2.1.members.D) < (planM alive vc1.D) := by first | exact (stepA ha (c := Chain.mk vc vc1) (by assumption) (by assumption) (by assumption) (by assumption) (by assumption) (by assumption)).1 | exact (stepB ha (c := Chain.mk vc vc1) (by assumption) (by assumption) (by assumption) (by assumption) (by assumption) (by assumption)).1 | exact (stepC ha (c := Chain.mk vc vc1) (by assumption) (by assumption) (by assumption)).elim
         obtain ⟨nn, rfl⟩ : ∃ nn, n_ = nn + 1 := ⟨n_ - 1, by omega⟩
         refine ⟨nn, ((l ++ [nx2.1]), dr2.1.epoch, dr2.1.members), by omega, ⟨by show (planM alive dr2.1.members.D) ≤ nn; omega, hR, (by have hlt_ := ‹planM _ _ < planM _ _›; first | (have h_ := (stepA ha (c := Chain.mk vc vc1) (by assumption) (by assumption) (by assumption) (by assumption) (by assumption) (by assumption)); exact ⟨h_.2.1, h_.2.2, (by simp only [List.length_append, List.length_cons, List.length_nil]; omega)⟩) | (have h_ := (stepB ha (c := Chain.mk vc vc1) (by assumption) (by assumption) (by assumption) (by assumption) (by assumption) (by assumption)); exact ⟨h_.2.1, h_.2.2, (by simp only [List.length_append, List.length_cons, List.length_nil]; omega)⟩) | exact (stepC ha (c := Chain.mk vc vc1) (by assumption) (by assumption) (by assumption)).elim)⟩, ?_⟩
         · exact ⟨fun b => bif b == 900 then 77 else (fun b => b) b, WeakerR.ofL (Ks := [4, 6, 7, 9, 900]) hI ⟨⟨rfl, rfl⟩, ⟨rfl, rfl⟩, ⟨rfl, rfl⟩, ⟨rfl, rfl⟩, ⟨rfl, rfl⟩, ⟨grow_to rfl rfl app_ne rfl rfl, grow_within rfl⟩, trivial⟩ (okH_grow (fun _ => rfl) rfl rfl (okH_cons rfl rfl rfl rfl (okH_cons rfl rfl rfl rfl (okH_cons rfl rfl rfl rfl (okH_cons rfl rfl rfl rfl (okH_nil)))))) rfl⟩
      ·
       replace hR := of_false h29 hR
       refine Awp.regionP C ?_
       refine rvP C (.agg [.pv (.lit (.int .i64 ra1.epoch)), sS (some ra1.members.nil) eMember ra1.members.D]) ?_
       refine rvP C (.ptr 12 1) ?_
       refine rvP C (.pv (.lit (.int .i64 nx2.1.node))) ?_
       refine rvP C (.ptr 12 2) ?_
       refine rvP C (.pv (.lit (.int .i64 nx2.1.site))) ?_
       refine rvP C (.agg [.pv (.lit (.int .i64 nx2.1.node)), .pv (.lit (.int .i64 nx2.1.site)), .pv (.lit (.bool false))]) ?_
       obtain ⟨jo2, hq_jo2⟩ : ∃ q_, q_ = (join ra1 (Member.mk nx2.1.node nx2.1.site false)) := ⟨_, rfl⟩
       have hc_jo2 := (join_calls ra1 (Member.mk nx2.1.node nx2.1.site false) (by assumption) (by show ra1.members.D.length ≤ 1000000; have := check_len (c := (Chain.mk vc vc1)); have := check_le6 (c := (Chain.mk vc vc1)); have := beq_iff_eq.1 h25; have := eq_of_bne_false h26; have := of_decide_eq_false h28; have := ne_of_beq_false h29; omega))
       first | rw [← hq_jo2] at hR hc_jo2 | (unfold allP at hR; rw [← hq_jo2] at hR hc_jo2) | (unfold allP_l0 at hR; rw [← hq_jo2] at hR hc_jo2)
       refine rvc_un (rexec_call hP C rfl rfl rfl hc_jo2 ?_)
       refine rvP C (.tup [.agg [.pv (.lit (.int .i64 jo2.1.epoch)), sS (some jo2.1.members.nil) eMember jo2.1.members.D], .pv (.lit (.int .i64 jo2.2))]) ?_
       refine rvP C (.agg [.pv (.lit (.int .i64 jo2.1.epoch)), sS (some jo2.1.members.nil) eMember jo2.1.members.D]) ?_
       refine rvP C (.pv (.lit (.int .i64 jo2.2))) ?_
       refine rvc_un (rexec_prim C (δ := { v := .undef, wr := [(15, some (.cells [.pv (.lit (.int .i64 jo2.1.epoch)), sS (some jo2.1.members.nil) eMember jo2.1.members.D]))] }) rfl rfl rfl rfl trivial rfl ?_)
       refine rvP C (.pv (.lit (.int .i64 jo2.2))) ?_
       refine rvc_nil ?_
       refine Awp.seq ?_
       refine Awp.consP C ?_
       refine rvP C (.pv (.lit (.int .i64 jo2.2))) ?_
       refine rvP C (.pv (.lit (.bool (jo2.2 != 0)))) ?_
       refine rvP C (.pv (.lit (.bool (jo2.2 != 0)))) ?_
       refine rvc_case 67 (jo2.2 != 0) rfl (fun h33 => ?_) (fun h33 => ?_)
       ·
        replace hR := of_true h33 hR
        refine rvS ?_
        refine rvS ?_
        refine rvS ?_
        refine rvP C (.pv (.lit (.bool true))) ?_
        refine rvc_nil ?_
        refine Awp.condT (b := true) rfl rfl ?_
        refine Awp.consP C ?_
        refine rvP C (.sl 900 0 l.length 4 false) ?_
        refine rvP C (.agg [.pv (.lit (.int .i64 ra1.epoch)), sS (some ra1.members.nil) eMember ra1.members.D]) ?_
        refine rvP C (.sl 900 0 l.length 4 false) ?_
        refine rvc_un (rexec_prim C (δ := { v := .undef, wr := [(9, some (.cells [.pv (.lit (.int .i64 ra1.epoch)), sS (some ra1.members.nil) eMember ra1.members.D]))] }) rfl rfl rfl rfl trivial rfl ?_)
        refine rvP C (.pv (.lit (.int .i64 0))) ?_
        refine rvc_nil ?_
        refine Awp.freezeW 900 (encL eCommand l) ?_ [(8, sS (some l.isEmpty) eCommand l), (9, .ptr 9 0), (10, .pv (.lit (.int .i64 0)))] [(4, .cells [.pv (.lit (.int .i64 ra1.epoch)), sS (some ra1.members.nil) eMember ra1.members.D]), (6, .cells [.pv (.lit (.int .i64 (h 0))), .pv (.lit (.int .i64 (h 1))), .pv (.lit (.int .i64 (h 2))), .pv (.lit (.int .i64 (h 3))), .pv (.lit (.int .i64 (h 4))), .pv (.lit (.int .i64 (h 5)))]), (7, .cells [.pv (.lit (.int .i64 (w 0))), .pv (.lit (.int .i64 (w 1))), .pv (.lit (.int .i64 (w 2)))]), (9, .cells [.pv (.lit (.int .i64 ra1.epoch)), sS (some ra1.members.nil) eMember ra1.members.D]), (12, .cells [.pv (.lit (.int .i64 nx2.1.kind)), .pv (.lit (.int .i64 nx2.1.node)), .pv (.lit (.int .i64 nx2.1.site)), .pv (.lit (.int .i64 nx2.1.epoch))]), (15, .cells [.pv (.lit (.int .i64 jo2.1.epoch)), sS (some jo2.1.members.nil) eMember jo2.1.members.D])] ?_ ?_ ?_
        · rfl
        · exact ⟨⟨_, rfl, .inl (.inr ⟨_, _, _, rfl, by rw [ne_isEmpty h3]; rfl⟩)⟩, ⟨_, rfl, .inl (.inl rfl)⟩, ⟨_, rfl, .inl (.inl rfl)⟩, trivial⟩
        · exact ⟨⟨(by show (4 : Nat) ≠ 900; decide), .inl rfl⟩, ⟨(by show (6 : Nat) ≠ 900; decide), .inl rfl⟩, ⟨(by show (7 : Nat) ≠ 900; decide), .inl rfl⟩, ⟨(by show (9 : Nat) ≠ 900; decide), .inl rfl⟩, ⟨(by show (12 : Nat) ≠ 900; decide), .inl rfl⟩, ⟨(by show (15 : Nat) ≠ 900; decide), .inl rfl⟩, trivial⟩
        refine Awp.ret ?_
        subst hR
        exact ⟨.inl rfl, rfl⟩
       ·
        replace hR := of_false h33 hR
        refine rvO C (.agg [.pv (.lit (.int .i64 nx2.1.kind)), .pv (.lit (.int .i64 nx2.1.node)), .pv (.lit (.int .i64 nx2.1.site)), .pv (.lit (.int .i64 nx2.1.epoch))]) ?_
        refine rvc_open rfl rfl rfl (rexec_call hP C rfl rfl rfl (cmdCheck_calls nx2.1) ?_)
        refine rvO C (.pv (.lit (.bool ((cmdCheck nx2.1) != 0)))) ?_
        refine rvP C (.pv (.lit (.bool ((cmdCheck nx2.1) != 0)))) ?_
        refine rvc_nil ?_
        refine Awp.cond (b := ((cmdCheck nx2.1) != 0)) rfl (fun h34 => ?_) (fun h34 => ?_)
        ·
         replace hR := of_true h34 hR
         refine Awp.consP C ?_
         refine rvP C (.sl 900 0 l.length 4 false) ?_
         refine rvP C (.agg [.pv (.lit (.int .i64 ra1.epoch)), sS (some ra1.members.nil) eMember ra1.members.D]) ?_
         refine rvP C (.sl 900 0 l.length 4 false) ?_
         refine rvc_un (rexec_prim C (δ := { v := .undef, wr := [(9, some (.cells [.pv (.lit (.int .i64 ra1.epoch)), sS (some ra1.members.nil) eMember ra1.members.D]))] }) rfl rfl rfl rfl trivial rfl ?_)
         refine rvP C (.pv (.lit (.int .i64 0))) ?_
         refine rvc_nil ?_
         refine Awp.freezeW 900 (encL eCommand l) ?_ [(8, sS (some l.isEmpty) eCommand l), (9, .ptr 9 0), (10, .pv (.lit (.int .i64 0)))] [(4, .cells [.pv (.lit (.int .i64 ra1.epoch)), sS (some ra1.members.nil) eMember ra1.members.D]), (6, .cells [.pv (.lit (.int .i64 (h 0))), .pv (.lit (.int .i64 (h 1))), .pv (.lit (.int .i64 (h 2))), .pv (.lit (.int .i64 (h 3))), .pv (.lit (.int .i64 (h 4))), .pv (.lit (.int .i64 (h 5)))]), (7, .cells [.pv (.lit (.int .i64 (w 0))), .pv (.lit (.int .i64 (w 1))), .pv (.lit (.int .i64 (w 2)))]), (9, .cells [.pv (.lit (.int .i64 ra1.epoch)), sS (some ra1.members.nil) eMember ra1.members.D]), (12, .cells [.pv (.lit (.int .i64 nx2.1.kind)), .pv (.lit (.int .i64 nx2.1.node)), .pv (.lit (.int .i64 nx2.1.site)), .pv (.lit (.int .i64 nx2.1.epoch))]), (15, .cells [.pv (.lit (.int .i64 jo2.1.epoch)), sS (some jo2.1.members.nil) eMember jo2.1.members.D])] ?_ ?_ ?_
         · rfl
         · exact ⟨⟨_, rfl, .inl (.inr ⟨_, _, _, rfl, by rw [ne_isEmpty h3]; rfl⟩)⟩, ⟨_, rfl, .inl (.inl rfl)⟩, ⟨_, rfl, .inl (.inl rfl)⟩, trivial⟩
         · exact ⟨⟨(by show (4 : Nat) ≠ 900; decide), .inl rfl⟩, ⟨(by show (6 : Nat) ≠ 900; decide), .inl rfl⟩, ⟨(by show (7 : Nat) ≠ 900; decide), .inl rfl⟩, ⟨(by show (9 : Nat) ≠ 900; decide), .inl rfl⟩, ⟨(by show (12 : Nat) ≠ 900; decide), .inl rfl⟩, ⟨(by show (15 : Nat) ≠ 900; decide), .inl rfl⟩, trivial⟩
         refine Awp.ret ?_
         subst hR
         exact ⟨.inl rfl, rfl⟩
        ·
         replace hR := of_false h34 hR
         refine Awp.skip ?_
         refine Awp.region C (fun o => match o.dst with | some 77 => .writes [77, 900] | some 78 => .reads [15] | _ => .pure) (by kernel_rfl) ?_
         refine rvP C (.sl 900 0 l.length 4 false) ?_
         refine rvP C (.agg [.pv (.lit (.int .i64 nx2.1.kind)), .pv (.lit (.int .i64 nx2.1.node)), .pv (.lit (.int .i64 nx2.1.site)), .pv (.lit (.int .i64 nx2.1.epoch))]) ?_
         refine rvc_un (rexec_buildSliceF C eCommand [nx2.1] rfl rfl rfl rfl rfl rfl rfl (by decide) rfl ?_)
         refine rvc_un (rexec_append C rfl rfl rfl rfl rfl rfl rfl rfl (fun _ h => by cases h) rfl (en := eCommand) (D0 := l) (D := [nx2.1]) rfl rfl rfl rfl (by have := check_len (c := (Chain.mk vc vc1)); have := check_le6 (c := (Chain.mk vc vc1)); have := beq_iff_eq.1 h25; have := eq_of_bne_false h26; have := of_decide_eq_false h28; have := ne_of_beq_false h29; have := eq_of_bne_false h33; have := eq_of_bne_false h34; first | omega | (simp <;> omega)) (by decide) (nn := (l ++ [nx2.1]).length) (by simp) ?_)
         refine rvP C (.agg [.pv (.lit (.int .i64 jo2.1.epoch)), sS (some jo2.1.members.nil) eMember jo2.1.members.D]) ?_
         refine rvP C (.sl 77 0 ((l ++ [nx2.1]).length) 4 false) ?_
         refine rvc_un (rexec_prim C (δ := { v := .undef, wr := [(4, some (.cells [.pv (.lit (.int .i64 jo2.1.epoch)), sS (some jo2.1.members.nil) eMember jo2.1.members.D]))] }) rfl rfl rfl rfl trivial rfl ?_)
         refine rvc_nil ?_
         have h35 : (planM alive jo2.1.members.D) < (planM alive vc1.D) := by first | exact (stepA ha (c := Chain.mk vc vc1) (by assumption) (by assumption) (by assumption) (by assumption) (by assumption) (by assumption)).1 | exact (stepB ha (c := Chain.mk vc vc1) (by assumption) (by assumption) (by assumption) (by assumption) (by assumption) (by assumption)).1 | exact (stepC ha (c := Chain.mk vc vc1) (by assumption) (by assumption) (by assumption)).elim
         obtain ⟨nn, rfl⟩ : ∃ nn, n_ = nn + 1 := ⟨n_ - 1, by omega⟩
         refine ⟨nn, ((l ++ [nx2.1]), jo2.1.epoch, jo2.1.members), by omega, ⟨by show (planM alive jo2.1.members.D) ≤ nn; omega, hR, (by have hlt_ := ‹planM _ _ < planM _ _›; first | (have h_ := (stepA ha (c := Chain.mk vc vc1) (by assumption) (by assumption) (by assumption) (by assumption) (by assumption) (by assumption)); exact ⟨h_.2.1, h_.2.2, (by simp only [List.length_append, List.length_cons, List.length_nil]; omega)⟩) | (have h_ := (stepB ha (c := Chain.mk vc vc1) (by assumption) (by assumption) (by assumption) (by assumption) (by assumption) (by assumption)); exact ⟨h_.2.1, h_.2.2, (by simp only [List.length_append, List.length_cons, List.length_nil]; omega)⟩) | exact (stepC ha (c := Chain.mk vc vc1) (by assumption) (by assumption) (by assumption)).elim)⟩, ?_⟩
         · exact ⟨fun b => bif b == 900 then 77 else (fun b => b) b, WeakerR.ofL (Ks := [4, 6, 7, 9, 900]) hI ⟨⟨rfl, rfl⟩, ⟨rfl, rfl⟩, ⟨rfl, rfl⟩, ⟨rfl, rfl⟩, ⟨rfl, rfl⟩, ⟨grow_to rfl rfl app_ne rfl rfl, grow_within rfl⟩, trivial⟩ (okH_grow (fun _ => rfl) rfl rfl (okH_cons rfl rfl rfl rfl (okH_cons rfl rfl rfl rfl (okH_cons rfl rfl rfl rfl (okH_cons rfl rfl rfl rfl (okH_nil)))))) rfl⟩
  ·
   replace hR := of_false h25 hR
   refine Awp.skip ?_
   refine Awp.consP C ?_
   refine rvP C (.agg [.pv (.lit (.int .i64 vc)), sS (some vc1.nil) eMember vc1.D]) ?_
   refine rvP C (.pv (.lit (.int .u64 alive))) ?_
   refine rvP C (.agg [.pv (.lit (.int .i64 (h 0))), .pv (.lit (.int .i64 (h 1))), .pv (.lit (.int .i64 (h 2))), .pv (.lit (.int .i64 (h 3))), .pv (.lit (.int .i64 (h 4))), .pv (.lit (.int .i64 (h 5)))]) ?_
   refine rvP C (.agg [.pv (.lit (.int .i64 (w 0))), .pv (.lit (.int .i64 (w 1))), .pv (.lit (.int .i64 (w 2)))]) ?_
   obtain ⟨nx3, hq_nx3⟩ : ∃ q_, q_ = (nextP (Chain.mk vc vc1) alive h w) := ⟨_, rfl⟩
   have hc_nx3 := (nextP_calls (Chain.mk vc vc1) alive h w (by assumption) (by show vc1.D.length ≤ 1000000; have := check_len (c := (Chain.mk vc vc1)); have := check_le6 (c := (Chain.mk vc vc1)); have := ne_of_beq_false h25; omega))
   first | rw [← hq_nx3] at hR hc_nx3 | (unfold allP at hR; rw [← hq_nx3] at hR hc_nx3) | (unfold allP_l0 at hR; rw [← hq_nx3] at hR hc_nx3)
   refine rvc_un (rexec_call hP C rfl rfl rfl hc_nx3 ?_)
   refine rvP C (.tup [.agg [.pv (.lit (.int .i64 nx3.1.kind)), .pv (.lit (.int .i64 nx3.1.node)), .pv (.lit (.int .i64 nx3.1.site)), .pv (.lit (.int .i64 nx3.1.epoch))], .pv (.lit (.bool nx3.2.1)), .pv (.lit (.int .i64 nx3.2.2))]) ?_
   refine rvP C (.agg [.pv (.lit (.int .i64 nx3.1.kind)), .pv (.lit (.int .i64 nx3.1.node)), .pv (.lit (.int .i64 nx3.1.site)), .pv (.lit (.int .i64 nx3.1.epoch))]) ?_
   refine rvP C (.pv (.lit (.bool nx3.2.1))) ?_
   refine rvP C (.pv (.lit (.int .i64 nx3.2.2))) ?_
   refine rvc_un (rexec_prim C (δ := { v := .ptr 12 0, new := [(12, .cells [.pv (.lit (.int .i64 0)), .pv (.lit (.int .i64 0)), .pv (.lit (.int .i64 0)), .pv (.lit (.int .i64 0))])] }) rfl rfl rfl rfl trivial rfl ?_)
   refine rvc_un (rexec_prim C (δ := { v := .undef, wr := [(12, some (.cells [.pv (.lit (.int .i64 nx3.1.kind)), .pv (.lit (.int .i64 nx3.1.node)), .pv (.lit (.int .i64 nx3.1.site)), .pv (.lit (.int .i64 nx3.1.epoch))]))] }) rfl rfl rfl rfl trivial rfl ?_)
   refine rvP C (.pv (.lit (.bool nx3.2.1))) ?_
   refine rvP C (.pv (.lit (.int .i64 nx3.2.2))) ?_
   refine rvc_nil ?_
   refine Awp.seq ?_
   refine Awp.consP C ?_
   refine rvP C (.pv (.lit (.int .i64 nx3.2.2))) ?_
   refine rvP C (.pv (.lit (.bool (nx3.2.2 != 0)))) ?_
   refine rvc_nil ?_
   refine Awp.cond (b := (nx3.2.2 != 0)) rfl (fun h36 => ?_) (fun h36 => ?_)
   ·
    replace hR := of_true h36 hR
    refine Awp.consP C ?_
    refine rvP C (.agg [.pv (.lit (.int .i64 0)), sS (some true) eMember []]) ?_
    refine rvP C (.pv (.lit (.int .i64 nx3.2.2))) ?_
    refine rvP C (sS (some true) eCommand []) ?_
    refine rvc_un (rexec_prim C (δ := { v := .undef, wr := [(9, some (.cells [.pv (.lit (.int .i64 0)), sS (some true) eMember []]))] }) rfl rfl rfl rfl trivial rfl ?_)
    refine rvP C (.pv (.lit (.int .i64 nx3.2.2))) ?_
    refine rvc_nil ?_
    refine Awp.ret ?_
    subst hR
    exact ⟨.inl rfl, rfl⟩
   ·
    replace hR := of_false h36 hR
    refine Awp.skip ?_
    refine Awp.seq ?_
    refine Awp.consP C ?_
    refine rvP C (.pv (.lit (.bool nx3.2.1))) ?_
    refine rvP C (.pv (.lit (.bool (!nx3.2.1)))) ?_
    refine rvP C (.pv (.lit (.bool (!nx3.2.1)))) ?_
    refine rvc_case 37 (!nx3.2.1) rfl (fun h37 => ?_) (fun h37 => ?_)
    ·
     replace hR := of_true h37 hR
     refine rvS ?_
     refine rvS ?_
     refine rvS ?_
     refine rvP C (.pv (.lit (.bool true))) ?_
     refine rvc_nil ?_
     refine Awp.condT (b := true) rfl rfl ?_
     refine Awp.consP C ?_
     refine rvP C (.sl 900 0 l.length 4 false) ?_
     refine rvP C (.agg [.pv (.lit (.int .i64 vc)), sS (some vc1.nil) eMember vc1.D]) ?_
     refine rvP C (.sl 900 0 l.length 4 false) ?_
     refine rvc_un (rexec_prim C (δ := { v := .undef, wr := [(9, some (.cells [.pv (.lit (.int .i64 vc)), sS (some vc1.nil) eMember vc1.D]))] }) rfl rfl rfl rfl trivial rfl ?_)
     refine rvP C (.pv (.lit (.int .i64 0))) ?_
     refine rvc_nil ?_
     refine Awp.freezeW 900 (encL eCommand l) ?_ [(8, sS (some l.isEmpty) eCommand l), (9, .ptr 9 0), (10, .pv (.lit (.int .i64 0)))] [(4, .cells [.pv (.lit (.int .i64 vc)), sS (some vc1.nil) eMember vc1.D]), (6, .cells [.pv (.lit (.int .i64 (h 0))), .pv (.lit (.int .i64 (h 1))), .pv (.lit (.int .i64 (h 2))), .pv (.lit (.int .i64 (h 3))), .pv (.lit (.int .i64 (h 4))), .pv (.lit (.int .i64 (h 5)))]), (7, .cells [.pv (.lit (.int .i64 (w 0))), .pv (.lit (.int .i64 (w 1))), .pv (.lit (.int .i64 (w 2)))]), (9, .cells [.pv (.lit (.int .i64 vc)), sS (some vc1.nil) eMember vc1.D]), (12, .cells [.pv (.lit (.int .i64 nx3.1.kind)), .pv (.lit (.int .i64 nx3.1.node)), .pv (.lit (.int .i64 nx3.1.site)), .pv (.lit (.int .i64 nx3.1.epoch))])] ?_ ?_ ?_
     · rfl
     · exact ⟨⟨_, rfl, .inl (.inr ⟨_, _, _, rfl, by rw [ne_isEmpty h3]; rfl⟩)⟩, ⟨_, rfl, .inl (.inl rfl)⟩, ⟨_, rfl, .inl (.inl rfl)⟩, trivial⟩
     · exact ⟨⟨(by show (4 : Nat) ≠ 900; decide), .inl rfl⟩, ⟨(by show (6 : Nat) ≠ 900; decide), .inl rfl⟩, ⟨(by show (7 : Nat) ≠ 900; decide), .inl rfl⟩, ⟨(by show (9 : Nat) ≠ 900; decide), .inl rfl⟩, ⟨(by show (12 : Nat) ≠ 900; decide), .inl rfl⟩, trivial⟩
     refine Awp.ret ?_
     subst hR
     exact ⟨.inl rfl, rfl⟩
    ·
     replace hR := of_false h37 hR
     refine rvO C (.ptr 4 0) ?_
     refine rvO C (.pv (.lit (.int .i64 vc))) ?_
     refine rvO C (.pv (.lit (.bool (decide (vc ≥ 1099511627776))))) ?_
     refine rvP C (.pv (.lit (.bool (decide (vc ≥ 1099511627776))))) ?_
     refine rvc_nil ?_
     refine Awp.cond (b := (decide (vc ≥ 1099511627776))) rfl (fun h38 => ?_) (fun h38 => ?_)
     ·
      replace hR := of_true h38 hR
      refine Awp.consP C ?_
      refine rvP C (.sl 900 0 l.length 4 false) ?_
      refine rvP C (.agg [.pv (.lit (.int .i64 vc)), sS (some vc1.nil) eMember vc1.D]) ?_
      refine rvP C (.sl 900 0 l.length 4 false) ?_
      refine rvc_un (rexec_prim C (δ := { v := .undef, wr := [(9, some (.cells [.pv (.lit (.int .i64 vc)), sS (some vc1.nil) eMember vc1.D]))] }) rfl rfl rfl rfl trivial rfl ?_)
      refine rvP C (.pv (.lit (.int .i64 0))) ?_
      refine rvc_nil ?_
      refine Awp.freezeW 900 (encL eCommand l) ?_ [(8, sS (some l.isEmpty) eCommand l), (9, .ptr 9 0), (10, .pv (.lit (.int .i64 0)))] [(4, .cells [.pv (.lit (.int .i64 vc)), sS (some vc1.nil) eMember vc1.D]), (6, .cells [.pv (.lit (.int .i64 (h 0))), .pv (.lit (.int .i64 (h 1))), .pv (.lit (.int .i64 (h 2))), .pv (.lit (.int .i64 (h 3))), .pv (.lit (.int .i64 (h 4))), .pv (.lit (.int .i64 (h 5)))]), (7, .cells [.pv (.lit (.int .i64 (w 0))), .pv (.lit (.int .i64 (w 1))), .pv (.lit (.int .i64 (w 2)))]), (9, .cells [.pv (.lit (.int .i64 vc)), sS (some vc1.nil) eMember vc1.D]), (12, .cells [.pv (.lit (.int .i64 nx3.1.kind)), .pv (.lit (.int .i64 nx3.1.node)), .pv (.lit (.int .i64 nx3.1.site)), .pv (.lit (.int .i64 nx3.1.epoch))])] ?_ ?_ ?_
      · rfl
      · exact ⟨⟨_, rfl, .inl (.inr ⟨_, _, _, rfl, by rw [ne_isEmpty h3]; rfl⟩)⟩, ⟨_, rfl, .inl (.inl rfl)⟩, ⟨_, rfl, .inl (.inl rfl)⟩, trivial⟩
      · exact ⟨⟨(by show (4 : Nat) ≠ 900; decide), .inl rfl⟩, ⟨(by show (6 : Nat) ≠ 900; decide), .inl rfl⟩, ⟨(by show (7 : Nat) ≠ 900; decide), .inl rfl⟩, ⟨(by show (9 : Nat) ≠ 900; decide), .inl rfl⟩, ⟨(by show (12 : Nat) ≠ 900; decide), .inl rfl⟩, trivial⟩
      refine Awp.ret ?_
      subst hR
      exact ⟨.inl rfl, rfl⟩
     ·
      replace hR := of_false h38 hR
      refine Awp.skip ?_
      refine Awp.consP C ?_
      refine rvP C (.agg [.pv (.lit (.int .i64 0)), sS (some true) eMember []]) ?_
      refine rvc_un (rexec_prim C (δ := { v := .ptr 15 0, new := [(15, .cells [.pv (.lit (.int .i64 0)), sS (some true) eMember []])] }) rfl rfl rfl rfl trivial rfl ?_)
      refine rvc_un (rexec_prim C (δ := { v := .undef, wr := [(15, some (.cells [.pv (.lit (.int .i64 0)), sS (some true) eMember []]))] }) rfl rfl rfl rfl trivial rfl ?_)
      refine rvc_nil ?_
      refine Awp.seq ?_
      refine Awp.consP C ?_
      refine rvP C (.ptr 12 0) ?_
      refine rvP C (.pv (.lit (.int .i64 nx3.1.kind))) ?_
      refine rvP C (.pv (.lit (.bool (nx3.1.kind == 1)))) ?_
      refine rvc_nil ?_
      refine Awp.cond (b := (nx3.1.kind == 1)) rfl (fun h39 => ?_) (fun h39 => ?_)
      ·
       replace hR := of_true h39 hR
       refine Awp.regionP C ?_
       refine rvP C (.agg [.pv (.lit (.int .i64 vc)), sS (some vc1.nil) eMember vc1.D]) ?_
       refine rvP C (.ptr 12 1) ?_
       refine rvP C (.pv (.lit (.int .i64 nx3.1.node))) ?_
       obtain ⟨dr3, hq_dr3⟩ : ∃ q_, q_ = (drop (Chain.mk vc vc1) nx3.1.node) := ⟨_, rfl⟩
       have hc_dr3 := (drop_calls (Chain.mk vc vc1) nx3.1.node (by show vc1.D.length ≤ 1000000; have := check_len (c := (Chain.mk vc vc1)); have := check_le6 (c := (Chain.mk vc vc1)); have := ne_of_beq_false h25; have := eq_of_bne_false h36; have := of_decide_eq_false h38; have := beq_iff_eq.1 h39; omega))
       first | rw [← hq_dr3] at hR hc_dr3 | (unfold allP at hR; rw [← hq_dr3] at hR hc_dr3) | (unfold allP_l0 at hR; rw [← hq_dr3] at hR hc_dr3)
       refine rvc_un (rexec_call hP C rfl rfl rfl hc_dr3 ?_)
       refine rvP C (.tup [.agg [.pv (.lit (.int .i64 dr3.1.epoch)), sS (some dr3.1.members.nil) eMember dr3.1.members.D], .pv (.lit (.int .i64 dr3.2))]) ?_
       refine rvP C (.agg [.pv (.lit (.int .i64 dr3.1.epoch)), sS (some dr3.1.members.nil) eMember dr3.1.members.D]) ?_
       refine rvP C (.pv (.lit (.int .i64 dr3.2))) ?_
       refine rvc_un (rexec_prim C (δ := { v := .undef, wr := [(15, some (.cells [.pv (.lit (.int .i64 dr3.1.epoch)), sS (some dr3.1.members.nil) eMember dr3.1.members.D]))] }) rfl rfl rfl rfl trivial rfl ?_)
       refine rvP C (.pv (.lit (.int .i64 dr3.2))) ?_
       refine rvc_nil ?_
       refine Awp.seq ?_
       refine Awp.consP C ?_
       refine rvP C (.pv (.lit (.int .i64 dr3.2))) ?_
       refine rvP C (.pv (.lit (.bool (dr3.2 != 0)))) ?_
       refine rvP C (.pv (.lit (.bool (dr3.2 != 0)))) ?_
       refine rvc_case 67 (dr3.2 != 0) rfl (fun h40 => ?_) (fun h40 => ?_)
       ·
        replace hR := of_true h40 hR
        refine rvS ?_
        refine rvS ?_
        refine rvS ?_
        refine rvP C (.pv (.lit (.bool true))) ?_
        refine rvc_nil ?_
        refine Awp.condT (b := true) rfl rfl ?_
        refine Awp.consP C ?_
        refine rvP C (.sl 900 0 l.length 4 false) ?_
        refine rvP C (.agg [.pv (.lit (.int .i64 vc)), sS (some vc1.nil) eMember vc1.D]) ?_
        refine rvP C (.sl 900 0 l.length 4 false) ?_
        refine rvc_un (rexec_prim C (δ := { v := .undef, wr := [(9, some (.cells [.pv (.lit (.int .i64 vc)), sS (some vc1.nil) eMember vc1.D]))] }) rfl rfl rfl rfl trivial rfl ?_)
        refine rvP C (.pv (.lit (.int .i64 0))) ?_
        refine rvc_nil ?_
        refine Awp.freezeW 900 (encL eCommand l) ?_ [(8, sS (some l.isEmpty) eCommand l), (9, .ptr 9 0), (10, .pv (.lit (.int .i64 0)))] [(4, .cells [.pv (.lit (.int .i64 vc)), sS (some vc1.nil) eMember vc1.D]), (6, .cells [.pv (.lit (.int .i64 (h 0))), .pv (.lit (.int .i64 (h 1))), .pv (.lit (.int .i64 (h 2))), .pv (.lit (.int .i64 (h 3))), .pv (.lit (.int .i64 (h 4))), .pv (.lit (.int .i64 (h 5)))]), (7, .cells [.pv (.lit (.int .i64 (w 0))), .pv (.lit (.int .i64 (w 1))), .pv (.lit (.int .i64 (w 2)))]), (9, .cells [.pv (.lit (.int .i64 vc)), sS (some vc1.nil) eMember vc1.D]), (12, .cells [.pv (.lit (.int .i64 nx3.1.kind)), .pv (.lit (.int .i64 nx3.1.node)), .pv (.lit (.int .i64 nx3.1.site)), .pv (.lit (.int .i64 nx3.1.epoch))]), (15, .cells [.pv (.lit (.int .i64 dr3.1.epoch)), sS (some dr3.1.members.nil) eMember dr3.1.members.D])] ?_ ?_ ?_
        · rfl
        · exact ⟨⟨_, rfl, .inl (.inr ⟨_, _, _, rfl, by rw [ne_isEmpty h3]; rfl⟩)⟩, ⟨_, rfl, .inl (.inl rfl)⟩, ⟨_, rfl, .inl (.inl rfl)⟩, trivial⟩
        · exact ⟨⟨(by show (4 : Nat) ≠ 900; decide), .inl rfl⟩, ⟨(by show (6 : Nat) ≠ 900; decide), .inl rfl⟩, ⟨(by show (7 : Nat) ≠ 900; decide), .inl rfl⟩, ⟨(by show (9 : Nat) ≠ 900; decide), .inl rfl⟩, ⟨(by show (12 : Nat) ≠ 900; decide), .inl rfl⟩, ⟨(by show (15 : Nat) ≠ 900; decide), .inl rfl⟩, trivial⟩
        refine Awp.ret ?_
        subst hR
        exact ⟨.inl rfl, rfl⟩
       ·
        replace hR := of_false h40 hR
        refine rvO C (.agg [.pv (.lit (.int .i64 nx3.1.kind)), .pv (.lit (.int .i64 nx3.1.node)), .pv (.lit (.int .i64 nx3.1.site)), .pv (.lit (.int .i64 nx3.1.epoch))]) ?_
        refine rvc_open rfl rfl rfl (rexec_call hP C rfl rfl rfl (cmdCheck_calls nx3.1) ?_)
        refine rvO C (.pv (.lit (.bool ((cmdCheck nx3.1) != 0)))) ?_
        refine rvP C (.pv (.lit (.bool ((cmdCheck nx3.1) != 0)))) ?_
        refine rvc_nil ?_
        refine Awp.cond (b := ((cmdCheck nx3.1) != 0)) rfl (fun h41 => ?_) (fun h41 => ?_)
        ·
         replace hR := of_true h41 hR
         refine Awp.consP C ?_
         refine rvP C (.sl 900 0 l.length 4 false) ?_
         refine rvP C (.agg [.pv (.lit (.int .i64 vc)), sS (some vc1.nil) eMember vc1.D]) ?_
         refine rvP C (.sl 900 0 l.length 4 false) ?_
         refine rvc_un (rexec_prim C (δ := { v := .undef, wr := [(9, some (.cells [.pv (.lit (.int .i64 vc)), sS (some vc1.nil) eMember vc1.D]))] }) rfl rfl rfl rfl trivial rfl ?_)
         refine rvP C (.pv (.lit (.int .i64 0))) ?_
         refine rvc_nil ?_
         refine Awp.freezeW 900 (encL eCommand l) ?_ [(8, sS (some l.isEmpty) eCommand l), (9, .ptr 9 0), (10, .pv (.lit (.int .i64 0)))] [(4, .cells [.pv (.lit (.int .i64 vc)), sS (some vc1.nil) eMember vc1.D]), (6, .cells [.pv (.lit (.int .i64 (h 0))), .pv (.lit (.int .i64 (h 1))), .pv (.lit (.int .i64 (h 2))), .pv (.lit (.int .i64 (h 3))), .pv (.lit (.int .i64 (h 4))), .pv (.lit (.int .i64 (h 5)))]), (7, .cells [.pv (.lit (.int .i64 (w 0))), .pv (.lit (.int .i64 (w 1))), .pv (.lit (.int .i64 (w 2)))]), (9, .cells [.pv (.lit (.int .i64 vc)), sS (some vc1.nil) eMember vc1.D]), (12, .cells [.pv (.lit (.int .i64 nx3.1.kind)), .pv (.lit (.int .i64 nx3.1.node)), .pv (.lit (.int .i64 nx3.1.site)), .pv (.lit (.int .i64 nx3.1.epoch))]), (15, .cells [.pv (.lit (.int .i64 dr3.1.epoch)), sS (some dr3.1.members.nil) eMember dr3.1.members.D])] ?_ ?_ ?_
         · rfl
         · exact ⟨⟨_, rfl, .inl (.inr ⟨_, _, _, rfl, by rw [ne_isEmpty h3]; rfl⟩)⟩, ⟨_, rfl, .inl (.inl rfl)⟩, ⟨_, rfl, .inl (.inl rfl)⟩, trivial⟩
         · exact ⟨⟨(by show (4 : Nat) ≠ 900; decide), .inl rfl⟩, ⟨(by show (6 : Nat) ≠ 900; decide), .inl rfl⟩, ⟨(by show (7 : Nat) ≠ 900; decide), .inl rfl⟩, ⟨(by show (9 : Nat) ≠ 900; decide), .inl rfl⟩, ⟨(by show (12 : Nat) ≠ 900; decide), .inl rfl⟩, ⟨(by show (15 : Nat) ≠ 900; decide), .inl rfl⟩, trivial⟩
         refine Awp.ret ?_
         subst hR
         exact ⟨.inl rfl, rfl⟩
        ·
         replace hR := of_false h41 hR
         refine Awp.skip ?_
         refine Awp.region C (fun o => match o.dst with | some 77 => .writes [77, 900] | some 78 => .reads [15] | _ => .pure) (by kernel_rfl) ?_
         refine rvP C (.sl 900 0 l.length 4 false) ?_
         refine rvP C (.agg [.pv (.lit (.int .i64 nx3.1.kind)), .pv (.lit (.int .i64 nx3.1.node)), .pv (.lit (.int .i64 nx3.1.site)), .pv (.lit (.int .i64 nx3.1.epoch))]) ?_
         refine rvc_un (rexec_buildSliceF C eCommand [nx3.1] rfl rfl rfl rfl rfl rfl rfl (by decide) rfl ?_)
         refine rvc_un (rexec_append C rfl rfl rfl rfl rfl rfl rfl rfl (fun _ h => by cases h) rfl (en := eCommand) (D0 := l) (D := [nx3.1]) rfl rfl rfl rfl (by have := check_len (c := (Chain.mk vc vc1)); have := check_le6 (c := (Chain.mk vc vc1)); have := ne_of_beq_false h25; have := eq_of_bne_false h36; have := of_decide_eq_false h38; have := beq_iff_eq.1 h39; have := eq_of_bne_false h40; have := eq_of_bne_false h41; first | omega | (simp <;> omega)) (by decide) (nn := (l ++ [nx3.1]).length) (by simp) ?_)
         refine rvP C (.agg [.pv (.lit (.int .i64 dr3.1.epoch)), sS (some dr3.1.members.nil) eMember dr3.1.members.D]) ?_
         refine rvP C (.sl 77 0 ((l ++ [nx3.1]).length) 4 false) ?_
         refine rvc_un (rexec_prim C (δ := { v := .undef, wr := [(4, some (.cells [.pv (.lit (.int .i64 dr3.1.epoch)), sS (some dr3.1.members.nil) eMember dr3.1.members.D]))] }) rfl rfl rfl rfl trivial rfl ?_)
         refine rvc_nil ?_
         have h42 : (planM alive dr3.1.members.D) < (planM alive vc1.D) := by first | exact (stepA ha (c := Chain.mk vc vc1) (by assumption) (by assumption) (by assumption) (by assumption) (by assumption) (by assumption)).1 | exact (stepB ha (c := Chain.mk vc vc1) (by assumption) (by assumption) (by assumption) (by assumption) (by assumption) (by assumption)).1 | exact (stepC ha (c := Chain.mk vc vc1) (by assumption) (by assumption) (by assumption)).elim
         obtain ⟨nn, rfl⟩ : ∃ nn, n_ = nn + 1 := ⟨n_ - 1, by omega⟩
         refine ⟨nn, ((l ++ [nx3.1]), dr3.1.epoch, dr3.1.members), by omega, ⟨by show (planM alive dr3.1.members.D) ≤ nn; omega, hR, (by have hlt_ := ‹planM _ _ < planM _ _›; first | (have h_ := (stepA ha (c := Chain.mk vc vc1) (by assumption) (by assumption) (by assumption) (by assumption) (by assumption) (by assumption)); exact ⟨h_.2.1, h_.2.2, (by simp only [List.length_append, List.length_cons, List.length_nil]; omega)⟩) | (have h_ := (stepB ha (c := Chain.mk vc vc1) (by assumption) (by assumption) (by assumption) (by assumption) (by assumption) (by assumption)); exact ⟨h_.2.1, h_.2.2, (by simp only [List.length_append, List.length_cons, List.length_nil]; omega)⟩) | exact (stepC ha (c := Chain.mk vc vc1) (by assumption) (by assumption) (by assumption)).elim)⟩, ?_⟩
         · exact ⟨fun b => bif b == 900 then 77 else (fun b => b) b, WeakerR.ofL (Ks := [4, 6, 7, 9, 900]) hI ⟨⟨rfl, rfl⟩, ⟨rfl, rfl⟩, ⟨rfl, rfl⟩, ⟨rfl, rfl⟩, ⟨rfl, rfl⟩, ⟨grow_to rfl rfl app_ne rfl rfl, grow_within rfl⟩, trivial⟩ (okH_grow (fun _ => rfl) rfl rfl (okH_cons rfl rfl rfl rfl (okH_cons rfl rfl rfl rfl (okH_cons rfl rfl rfl rfl (okH_cons rfl rfl rfl rfl (okH_nil)))))) rfl⟩
      ·
       replace hR := of_false h39 hR
       refine Awp.regionP C ?_
       refine rvP C (.agg [.pv (.lit (.int .i64 vc)), sS (some vc1.nil) eMember vc1.D]) ?_
       refine rvP C (.ptr 12 1) ?_
       refine rvP C (.pv (.lit (.int .i64 nx3.1.node))) ?_
       refine rvP C (.ptr 12 2) ?_
       refine rvP C (.pv (.lit (.int .i64 nx3.1.site))) ?_
       refine rvP C (.agg [.pv (.lit (.int .i64 nx3.1.node)), .pv (.lit (.int .i64 nx3.1.site)), .pv (.lit (.bool false))]) ?_
       obtain ⟨jo3, hq_jo3⟩ : ∃ q_, q_ = (join (Chain.mk vc vc1) (Member.mk nx3.1.node nx3.1.site false)) := ⟨_, rfl⟩
       have hc_jo3 := (join_calls (Chain.mk vc vc1) (Member.mk nx3.1.node nx3.1.site false) (by assumption) (by show vc1.D.length ≤ 1000000; have := check_len (c := (Chain.mk vc vc1)); have := check_le6 (c := (Chain.mk vc vc1)); have := ne_of_beq_false h25; have := eq_of_bne_false h36; have := of_decide_eq_false h38; have := ne_of_beq_false h39; omega))
       first | rw [← hq_jo3] at hR hc_jo3 | (unfold allP at hR; rw [← hq_jo3] at hR hc_jo3) | (unfold allP_l0 at hR; rw [← hq_jo3] at hR hc_jo3)
       refine rvc_un (rexec_call hP C rfl rfl rfl hc_jo3 ?_)
       refine rvP C (.tup [.agg [.pv (.lit (.int .i64 jo3.1.epoch)), sS (some jo3.1.members.nil) eMember jo3.1.members.D], .pv (.lit (.int .i64 jo3.2))]) ?_
       refine rvP C (.agg [.pv (.lit (.int .i64 jo3.1.epoch)), sS (some jo3.1.members.nil) eMember jo3.1.members.D]) ?_
       refine rvP C (.pv (.lit (.int .i64 jo3.2))) ?_
       refine rvc_un (rexec_prim C (δ := { v := .undef, wr := [(15, some (.cells [.pv (.lit (.int .i64 jo3.1.epoch)), sS (some jo3.1.members.nil) eMember jo3.1.members.D]))] }) rfl rfl rfl rfl trivial rfl ?_)
       refine rvP C (.pv (.lit (.int .i64 jo3.2))) ?_
       refine rvc_nil ?_
       refine Awp.seq ?_
       refine Awp.consP C ?_
       refine rvP C (.pv (.lit (.int .i64 jo3.2))) ?_
       refine rvP C (.pv (.lit (.bool (jo3.2 != 0)))) ?_
       refine rvP C (.pv (.lit (.bool (jo3.2 != 0)))) ?_
       refine rvc_case 67 (jo3.2 != 0) rfl (fun h43 => ?_) (fun h43 => ?_)
       ·
        replace hR := of_true h43 hR
        refine rvS ?_
        refine rvS ?_
        refine rvS ?_
        refine rvP C (.pv (.lit (.bool true))) ?_
        refine rvc_nil ?_
        refine Awp.condT (b := true) rfl rfl ?_
        refine Awp.consP C ?_
        refine rvP C (.sl 900 0 l.length 4 false) ?_
        refine rvP C (.agg [.pv (.lit (.int .i64 vc)), sS (some vc1.nil) eMember vc1.D]) ?_
        refine rvP C (.sl 900 0 l.length 4 false) ?_
        refine rvc_un (rexec_prim C (δ := { v := .undef, wr := [(9, some (.cells [.pv (.lit (.int .i64 vc)), sS (some vc1.nil) eMember vc1.D]))] }) rfl rfl rfl rfl trivial rfl ?_)
        refine rvP C (.pv (.lit (.int .i64 0))) ?_
        refine rvc_nil ?_
        refine Awp.freezeW 900 (encL eCommand l) ?_ [(8, sS (some l.isEmpty) eCommand l), (9, .ptr 9 0), (10, .pv (.lit (.int .i64 0)))] [(4, .cells [.pv (.lit (.int .i64 vc)), sS (some vc1.nil) eMember vc1.D]), (6, .cells [.pv (.lit (.int .i64 (h 0))), .pv (.lit (.int .i64 (h 1))), .pv (.lit (.int .i64 (h 2))), .pv (.lit (.int .i64 (h 3))), .pv (.lit (.int .i64 (h 4))), .pv (.lit (.int .i64 (h 5)))]), (7, .cells [.pv (.lit (.int .i64 (w 0))), .pv (.lit (.int .i64 (w 1))), .pv (.lit (.int .i64 (w 2)))]), (9, .cells [.pv (.lit (.int .i64 vc)), sS (some vc1.nil) eMember vc1.D]), (12, .cells [.pv (.lit (.int .i64 nx3.1.kind)), .pv (.lit (.int .i64 nx3.1.node)), .pv (.lit (.int .i64 nx3.1.site)), .pv (.lit (.int .i64 nx3.1.epoch))]), (15, .cells [.pv (.lit (.int .i64 jo3.1.epoch)), sS (some jo3.1.members.nil) eMember jo3.1.members.D])] ?_ ?_ ?_
        · rfl
        · exact ⟨⟨_, rfl, .inl (.inr ⟨_, _, _, rfl, by rw [ne_isEmpty h3]; rfl⟩)⟩, ⟨_, rfl, .inl (.inl rfl)⟩, ⟨_, rfl, .inl (.inl rfl)⟩, trivial⟩
        · exact ⟨⟨(by show (4 : Nat) ≠ 900; decide), .inl rfl⟩, ⟨(by show (6 : Nat) ≠ 900; decide), .inl rfl⟩, ⟨(by show (7 : Nat) ≠ 900; decide), .inl rfl⟩, ⟨(by show (9 : Nat) ≠ 900; decide), .inl rfl⟩, ⟨(by show (12 : Nat) ≠ 900; decide), .inl rfl⟩, ⟨(by show (15 : Nat) ≠ 900; decide), .inl rfl⟩, trivial⟩
        refine Awp.ret ?_
        subst hR
        exact ⟨.inl rfl, rfl⟩
       ·
        replace hR := of_false h43 hR
        refine rvO C (.agg [.pv (.lit (.int .i64 nx3.1.kind)), .pv (.lit (.int .i64 nx3.1.node)), .pv (.lit (.int .i64 nx3.1.site)), .pv (.lit (.int .i64 nx3.1.epoch))]) ?_
        refine rvc_open rfl rfl rfl (rexec_call hP C rfl rfl rfl (cmdCheck_calls nx3.1) ?_)
        refine rvO C (.pv (.lit (.bool ((cmdCheck nx3.1) != 0)))) ?_
        refine rvP C (.pv (.lit (.bool ((cmdCheck nx3.1) != 0)))) ?_
        refine rvc_nil ?_
        refine Awp.cond (b := ((cmdCheck nx3.1) != 0)) rfl (fun h44 => ?_) (fun h44 => ?_)
        ·
         replace hR := of_true h44 hR
         refine Awp.consP C ?_
         refine rvP C (.sl 900 0 l.length 4 false) ?_
         refine rvP C (.agg [.pv (.lit (.int .i64 vc)), sS (some vc1.nil) eMember vc1.D]) ?_
         refine rvP C (.sl 900 0 l.length 4 false) ?_
         refine rvc_un (rexec_prim C (δ := { v := .undef, wr := [(9, some (.cells [.pv (.lit (.int .i64 vc)), sS (some vc1.nil) eMember vc1.D]))] }) rfl rfl rfl rfl trivial rfl ?_)
         refine rvP C (.pv (.lit (.int .i64 0))) ?_
         refine rvc_nil ?_
         refine Awp.freezeW 900 (encL eCommand l) ?_ [(8, sS (some l.isEmpty) eCommand l), (9, .ptr 9 0), (10, .pv (.lit (.int .i64 0)))] [(4, .cells [.pv (.lit (.int .i64 vc)), sS (some vc1.nil) eMember vc1.D]), (6, .cells [.pv (.lit (.int .i64 (h 0))), .pv (.lit (.int .i64 (h 1))), .pv (.lit (.int .i64 (h 2))), .pv (.lit (.int .i64 (h 3))), .pv (.lit (.int .i64 (h 4))), .pv (.lit (.int .i64 (h 5)))]), (7, .cells [.pv (.lit (.int .i64 (w 0))), .pv (.lit (.int .i64 (w 1))), .pv (.lit (.int .i64 (w 2)))]), (9, .cells [.pv (.lit (.int .i64 vc)), sS (some vc1.nil) eMember vc1.D]), (12, .cells [.pv (.lit (.int .i64 nx3.1.kind)), .pv (.lit (.int .i64 nx3.1.node)), .pv (.lit (.int .i64 nx3.1.site)), .pv (.lit (.int .i64 nx3.1.epoch))]), (15, .cells [.pv (.lit (.int .i64 jo3.1.epoch)), sS (some jo3.1.members.nil) eMember jo3.1.members.D])] ?_ ?_ ?_
         · rfl
         · exact ⟨⟨_, rfl, .inl (.inr ⟨_, _, _, rfl, by rw [ne_isEmpty h3]; rfl⟩)⟩, ⟨_, rfl, .inl (.inl rfl)⟩, ⟨_, rfl, .inl (.inl rfl)⟩, trivial⟩
         · exact ⟨⟨(by show (4 : Nat) ≠ 900; decide), .inl rfl⟩, ⟨(by show (6 : Nat) ≠ 900; decide), .inl rfl⟩, ⟨(by show (7 : Nat) ≠ 900; decide), .inl rfl⟩, ⟨(by show (9 : Nat) ≠ 900; decide), .inl rfl⟩, ⟨(by show (12 : Nat) ≠ 900; decide), .inl rfl⟩, ⟨(by show (15 : Nat) ≠ 900; decide), .inl rfl⟩, trivial⟩
         refine Awp.ret ?_
         subst hR
         exact ⟨.inl rfl, rfl⟩
        ·
         replace hR := of_false h44 hR
         refine Awp.skip ?_
         refine Awp.region C (fun o => match o.dst with | some 77 => .writes [77, 900] | some 78 => .reads [15] | _ => .pure) (by kernel_rfl) ?_
         refine rvP C (.sl 900 0 l.length 4 false) ?_
         refine rvP C (.agg [.pv (.lit (.int .i64 nx3.1.kind)), .pv (.lit (.int .i64 nx3.1.node)), .pv (.lit (.int .i64 nx3.1.site)), .pv (.lit (.int .i64 nx3.1.epoch))]) ?_
         refine rvc_un (rexec_buildSliceF C eCommand [nx3.1] rfl rfl rfl rfl rfl rfl rfl (by decide) rfl ?_)
         refine rvc_un (rexec_append C rfl rfl rfl rfl rfl rfl rfl rfl (fun _ h => by cases h) rfl (en := eCommand) (D0 := l) (D := [nx3.1]) rfl rfl rfl rfl (by have := check_len (c := (Chain.mk vc vc1)); have := check_le6 (c := (Chain.mk vc vc1)); have := ne_of_beq_false h25; have := eq_of_bne_false h36; have := of_decide_eq_false h38; have := ne_of_beq_false h39; have := eq_of_bne_false h43; have := eq_of_bne_false h44; first | omega | (simp <;> omega)) (by decide) (nn := (l ++ [nx3.1]).length) (by simp) ?_)
         refine rvP C (.agg [.pv (.lit (.int .i64 jo3.1.epoch)), sS (some jo3.1.members.nil) eMember jo3.1.members.D]) ?_
         refine rvP C (.sl 77 0 ((l ++ [nx3.1]).length) 4 false) ?_
         refine rvc_un (rexec_prim C (δ := { v := .undef, wr := [(4, some (.cells [.pv (.lit (.int .i64 jo3.1.epoch)), sS (some jo3.1.members.nil) eMember jo3.1.members.D]))] }) rfl rfl rfl rfl trivial rfl ?_)
         refine rvc_nil ?_
         have h45 : (planM alive jo3.1.members.D) < (planM alive vc1.D) := by first | exact (stepA ha (c := Chain.mk vc vc1) (by assumption) (by assumption) (by assumption) (by assumption) (by assumption) (by assumption)).1 | exact (stepB ha (c := Chain.mk vc vc1) (by assumption) (by assumption) (by assumption) (by assumption) (by assumption) (by assumption)).1 | exact (stepC ha (c := Chain.mk vc vc1) (by assumption) (by assumption) (by assumption)).elim
         obtain ⟨nn, rfl⟩ : ∃ nn, n_ = nn + 1 := ⟨n_ - 1, by omega⟩
         refine ⟨nn, ((l ++ [nx3.1]), jo3.1.epoch, jo3.1.members), by omega, ⟨by show (planM alive jo3.1.members.D) ≤ nn; omega, hR, (by have hlt_ := ‹planM _ _ < planM _ _›; first | (have h_ := (stepA ha (c := Chain.mk vc vc1) (by assumption) (by assumption) (by assumption) (by assumption) (by assumption) (by assumption)); exact ⟨h_.2.1, h_.2.2, (by simp only [List.length_append, List.length_cons, List.length_nil]; omega)⟩) | (have h_ := (stepB ha (c := Chain.mk vc vc1) (by assumption) (by assumption) (by assumption) (by assumption) (by assumption) (by assumption)); exact ⟨h_.2.1, h_.2.2, (by simp only [List.length_append, List.length_cons, List.length_nil]; omega)⟩) | exact (stepC ha (c := Chain.mk vc vc1) (by assumption) (by assumption) (by assumption)).elim)⟩, ?_⟩
         · exact ⟨fun b => bif b == 900 then 77 else (fun b => b) b, WeakerR.ofL (Ks := [4, 6, 7, 9, 900]) hI ⟨⟨rfl, rfl⟩, ⟨rfl, rfl⟩, ⟨rfl, rfl⟩, ⟨rfl, rfl⟩, ⟨rfl, rfl⟩, ⟨grow_to rfl rfl app_ne rfl rfl, grow_within rfl⟩, trivial⟩ (okH_grow (fun _ => rfl) rfl rfl (okH_cons rfl rfl rfl rfl (okH_cons rfl rfl rfl rfl (okH_cons rfl rfl rfl rfl (okH_cons rfl rfl rfl rfl (okH_nil)))))) rfl⟩
 -- !! two models: ('(bif ((check (Chain.mk vc vc1)) == 0) then (bif (nx.2.2 != 0) then ((Sl.mk true []), (Chain.mk 0 (Sl.mk true [])), nx.2.2) else (bif (!nx.2.1) then ((Sl.mk l.isEmpty l), ra, 0) else (bif (decide (ra.epoch ≥ 1099511627776)) then ((Sl.mk l.isEmpty l), ra, 0) else (bif (nx.1.kind == 1) then (bif (dr.2 != 0) then ((Sl.mk l.isEmpty l), ra, 0) else (bif ((cmdCheck nx.1) != 0) then ((Sl.mk l.isEmpty l), ra, 0) else allP_l0 alive h w nn (l ++ [nx.1]) dr.1.epoch dr.1.members)) else (bif (jo.2 != 0) then ((Sl.mk l.isEmpty l), ra, 0) else (bif ((cmdCheck nx.1) != 0) then ((Sl.mk l.isEmpty l), ra, 0) else allP_l0 alive h w nn (l ++ [nx.1]) jo.1.epoch jo.1.members)))))) else (bif (nx1.2.2 != 0) then ((Sl.mk true []), (Chain.mk 0 (Sl.mk true [])), nx1.2.2) else (bif (!nx1.2.1) then ((Sl.mk l.isEmpty l), (Chain.mk vc vc1), 0) else (bif (decide (vc ≥ 1099511627776)) then ((Sl.mk l.isEmpty l), (Chain.mk vc vc1), 0) else (bif (nx1.1.kind == 1) then (bif (dr1.2 != 0) then ((Sl.mk l.isEmpty l), (Chain.mk vc vc1), 0) else (bif ((cmdCheck nx1.1) != 0) then ((Sl.mk l.isEmpty l), (Chain.mk vc vc1), 0) else allP_l0 alive h w nn (l ++ [nx1.1]) dr1.1.epoch dr1.1.members)) else (bif (jo1.2 != 0) then ((Sl.mk l.isEmpty l), (Chain.mk vc vc1), 0) else (bif ((cmdCheck nx1.1) != 0) then ((Sl.mk l.isEmpty l), (Chain.mk vc vc1), 0) else allP_l0 alive h w nn (l ++ [nx1.1]) jo1.1.epoch jo1.1.members)))))))', '') ||| ('(bif ((check (Chain.mk vc vc1)) == 0) then (bif (nx2.2.2 != 0) then ((Sl.mk true []), (Chain.mk 0 (Sl.mk true [])), nx2.2.2) else (bif (!nx2.2.1) then ((Sl.mk l.isEmpty l), ra1, 0) else (bif (decide (ra1.epoch ≥ 1099511627776)) then ((Sl.mk l.isEmpty l), ra1, 0) else (bif (nx2.1.kind == 1) then (bif (dr2.2 != 0) then ((Sl.mk l.isEmpty l), ra1, 0) else (bif ((cmdCheck nx2.1) != 0) then ((Sl.mk l.isEmpty l), ra1, 0) else allP_l0 alive h w nn (l ++ [nx2.1]) dr2.1.epoch dr2.1.members)) else (bif (jo2.2 != 0) then ((Sl.mk l.isEmpty l), ra1, 0) else (bif ((cmdCheck nx2.1) != 0) then ((Sl.mk l.isEmpty l), ra1, 0) else allP_l0 alive h w nn (l ++ [nx2.1]) jo2.1.epoch jo2.1.members)))))) else (bif (nx3.2.2 != 0) then ((Sl.mk true []), (Chain.mk 0 (Sl.mk true [])), nx3.2.2) else (bif (!nx3.2.1) then ((Sl.mk l.isEmpty l), (Chain.mk vc vc1), 0) else (bif (decide (vc ≥ 1099511627776)) then ((Sl.mk l.isEmpty l), (Chain.mk vc vc1), 0) else (bif (nx3.1.kind == 1) then (bif (dr3.2 != 0) then ((Sl.mk l.isEmpty l), (Chain.mk vc vc1), 0) else (bif ((cmdCheck nx3.1) != 0) then ((Sl.mk l.isEmpty l), (Chain.mk vc vc1), 0) else allP_l0 alive h w nn (l ++ [nx3.1]) dr3.1.epoch dr3.1.members)) else (bif (jo3.2 != 0) then ((Sl.mk l.isEmpty l), (Chain.mk vc vc1), 0) else (bif ((cmdCheck nx3.1) != 0) then ((Sl.mk l.isEmpty l), (Chain.mk vc vc1), 0) else allP_l0 alive h w nn (l ++ [nx3.1]) jo3.1.epoch jo3.1.members)))))))', '')
end Go.Proofs.Ytaffaalpgpepeaa
/- All commands, round by round, in plain Lean. No conditions. -/
namespace Go.Proofs.Ytaffaalpgpepeaa
open Go.Am
theorem sub_check {c : Chain} (hc : check c = 0) (he : c.epoch < 1099511627776) {l : List Member} (hl : l.Sublist c.members.D) (hne : l ≠ []) (hf : l[0]!.fresh = false) (f : Bool) : check ⟨c.epoch + 1, ⟨f, l⟩⟩ = 0 := by
  obtain ⟨⟨e1, e2⟩, _, _, hm, hp⟩ := (check_iff c).1 hc
  exact (check_iff _).2 ⟨⟨(by omega : 1 ≤ c.epoch + 1), (by omega : c.epoch + 1 ≤ 1099511627776)⟩, hne, hf, fun x hx => hm x (hl.subset hx), hp.sublist hl⟩
theorem drop_check {c : Chain} {n : Int} (hc : check c = 0) (h : (drop c n).2 = 0) : check (drop c n).1 = 0 ∧ (drop c n).1.epoch = c.epoch + 1 := by
  obtain ⟨e, he, hne⟩ := drop_some hc h
  rw [e]
  exact ⟨sub_check hc he ((List.dropWhile_sublist _).trans List.filter_sublist) hne (drop_head hne) _, rfl⟩
theorem putIn_eq (l : List Member) (n s : Int) : putIn l n s = (l.takeWhile fun x => decide (x.site ≤ s)) ++ ⟨n, s, true⟩ :: (l.dropWhile fun x => decide (x.site ≤ s)) := by
  unfold putIn insertL
  have ht : l.take (l.takeWhile fun x => decide (x.site ≤ s)).length = l.takeWhile fun x => decide (x.site ≤ s) := by
    conv => lhs; rhs; rw [← List.takeWhile_append_dropWhile (p := fun x : Member => decide (x.site ≤ s)) (l := l)]
    exact List.take_left' rfl
  have hdd : l.drop (l.takeWhile fun x => decide (x.site ≤ s)).length = l.dropWhile fun x => decide (x.site ≤ s) := by
    conv => lhs; rhs; rw [← List.takeWhile_append_dropWhile (p := fun x : Member => decide (x.site ≤ s)) (l := l)]
    exact List.drop_left' rfl
  rw [ht, hdd]; simp
theorem join_check {c : Chain} {n s : Int} {f : Bool} (hc : check c = 0) (h : (join c ⟨n, s, f⟩).2 = 0) : check (join c ⟨n, s, f⟩).1 = 0 ∧ (join c ⟨n, s, f⟩).1.epoch = c.epoch + 1 := by
  obtain ⟨e, he, hm, hpl, h3⟩ := join_some hc h
  have hp : placeIn c n = rPlace c n := by rw [← place_eq]; unfold place0; rw [hc]; rfl
  have hnone := place_none hc (n := n) (by omega)
  obtain ⟨⟨e1, e2⟩, hne, hf, hmm, hpp⟩ := (check_iff c).1 hc
  rw [e]
  refine ⟨?_, rfl⟩
  have hcat := List.takeWhile_append_dropWhile (p := fun x : Member => decide (x.site ≤ s)) (l := c.members.D)
  have hT := takeWhile_true (fun x : Member => decide (x.site ≤ s)) c.members.D
  have hDW := dropWhile_sites s c.members.D hpp
  have hsp := fun x => mem_split (c := c) (fun x : Member => decide (x.site ≤ s)) (x := x)
  rw [putIn_eq]
  revert h3 hcat hT hDW hsp
  generalize (c.members.D.takeWhile fun x => decide (x.site ≤ s)) = A
  generalize (c.members.D.dropWhile fun x => decide (x.site ≤ s)) = B
  intro h3 hcat hT hDW hsp
  have hAB := hpp
  rw [← hcat, List.pairwise_append] at hAB
  obtain ⟨pA, pB, pAB⟩ := hAB
  refine (check_iff _).2 ⟨⟨(by omega : 1 ≤ c.epoch + 1), (by omega : c.epoch + 1 ≤ 1099511627776)⟩, ?_, ?_, ?_, ?_⟩
  · show A ++ _ ≠ []; simp
  · cases A with
    | nil => exact absurd rfl h3
    | cons a A =>
      rw [← hcat] at hf
      exact hf
  · intro x hx
    rcases List.mem_append.1 hx with hx | hx
    · exact hmm x (hsp x (.inl hx))
    · cases hx with
      | head => exact hm
      | tail _ hx => exact hmm x (hsp x (.inr hx))
  · refine List.pairwise_append.2 ⟨pA, List.pairwise_cons.2 ⟨fun b hb => ⟨fun e => hnone b (hsp b (.inr hb)) e.symm, hDW b hb⟩, pB⟩, fun a ha b hb => ?_⟩
    cases hb with
    | head => exact ⟨fun e => hnone a (hsp a (.inl ha)) e, of_decide_eq_true (hT a ha)⟩
    | tail _ hb => exact pAB a ha b hb
def stepOf (r : Chain) (k : Command) : Chain := bif k.kind == 1 then (drop r k.node).1 else (join r ⟨k.node, k.site, false⟩).1
def runP (a : Int) (h w : Nat → Int) : Nat → Chain → List Command × Chain
  | 0, c => ([], readyAll c a)
  | n + 1, c => bif (nextP (readyAll c a) a h w).2.1 then ((nextP (readyAll c a) a h w).1 :: (runP a h w n (stepOf (readyAll c a) (nextP (readyAll c a) a h w).1)).1, (runP a h w n (stepOf (readyAll c a) (nextP (readyAll c a) a h w).1)).2) else ([], readyAll c a)
/-- What a round does. -/
theorem round_ok {c : Chain} {a : Int} {h w : Nat → Int} (ha : 0 ≤ a ∧ a < 18446744073709551616) (hc : check c = 0) (_ : planCheck h w = 0) (h2 : (nextP (readyAll c a) a h w).2.1 = true) :
    ∃ d, stepOf (readyAll c a) (nextP (readyAll c a) a h w).1 = d ∧ check d = 0 ∧ d.epoch = c.epoch + 1 ∧ c.epoch < 1099511627776 ∧ planM a d.members.D < planM a c.members.D ∧ cmdCheck (nextP (readyAll c a) a h w).1 = 0 ∧
    ((nextP (readyAll c a) a h w).1.kind = 1 ∧ drop (readyAll c a) (nextP (readyAll c a) a h w).1.node = (d, 0) ∨ (nextP (readyAll c a) a h w).1.kind = 2 ∧ join (readyAll c a) ⟨(nextP (readyAll c a) a h w).1.node, (nextP (readyAll c a) a h w).1.site, false⟩ = (d, 0)) := by
  have hr := readyAll_check a hc
  have he : (readyAll c a).epoch = c.epoch := (readyAll_eq a hc).1
  have hep := epoch_of hc
  generalize hx : nextP (readyAll c a) a h w = nx at h2 ⊢
  obtain ⟨_, _, _, ⟨x, hm, r1, r2, r3⟩ | ⟨_, n, s, hn, hs, _, _, _, e, r⟩⟩ := nextP_some ha hx h2
  · have k1 : nx.1.kind = 1 := by rw [r2]
    have lt := step_drop ha hc hx h2 k1
    have hn : nx.1.node = x.node := by rw [r2]
    have hst : stepOf (readyAll c a) nx.1 = (drop (readyAll c a) nx.1.node).1 := by
      unfold stepOf; rw [k1]; rfl
    rw [← hn] at r3
    have hd := drop_check hr r3
    obtain ⟨_, hlt, _⟩ := drop_some hr r3
    have hmo := mem_ok hr hm
    refine ⟨_, hst, hd.1, by rw [hd.2, he], by omega, lt, ?_, .inl ⟨k1, Prod.ext rfl r3⟩⟩
    rw [r2, he]
    unfold cmdCheck
    simp only [decide_eq_true (show x.node ≥ 0 from hmo.1), decide_eq_true (show c.epoch ≥ 1 from hep.1), decide_eq_true (show c.epoch ≤ 1099511627776 from hep.2), decide_eq_true (show x.node < 6 by omega)]
    rfl
  · have k2 : nx.1.kind = 2 := by rw [e]
    have hnode : nx.1.node = n := by rw [e]
    have hsite : nx.1.site = s := by rw [e]
    have lt := step_join ha hc hx h2 (by rw [k2]; decide)
    have hst : stepOf (readyAll c a) nx.1 = (join (readyAll c a) ⟨nx.1.node, nx.1.site, false⟩).1 := by
      unfold stepOf; rw [k2]; rfl
    rw [← hnode, ← hsite] at r
    have hd := join_check hr r
    obtain ⟨_, hlt, _⟩ := join_some hr r
    refine ⟨_, hst, hd.1, by rw [hd.2, he], by omega, lt, ?_, .inr ⟨k2, Prod.ext rfl r⟩⟩
    rw [e, he]
    unfold cmdCheck
    simp only [decide_eq_true (show (n : Int) ≥ 0 by omega), decide_eq_true (show (s : Int) ≥ 0 by omega), decide_eq_true (show c.epoch ≥ 1 from hep.1), decide_eq_true (show c.epoch ≤ 1099511627776 from hep.2), decide_eq_true (show (n : Int) < 6 by omega), decide_eq_true (show (s : Int) < 3 by omega)]
    rfl
theorem nextP_ok {c : Chain} {a : Int} {h w : Nat → Int} (hc : check c = 0) (hp : planCheck h w = 0) : (nextP c a h w).2.2 = 0 := by
  rcases nextP_cases (c := c) (a := a) (h := h) (w := w) rfl with ⟨h3, _⟩ | ⟨_, h3, _⟩ | ⟨_, _, _, h3, _⟩ | ⟨_, _, _, _, h3⟩ | ⟨_, _, _, _, h3⟩
  · exact absurd hc h3
  · exact absurd hp h3
  · exact h3
  · rw [h3]
  · rw [h3]
theorem allP_l0_run {a : Int} {h w : Nat → Int} (ha : 0 ≤ a ∧ a < 18446744073709551616) (hp : planCheck h w = 0) : ∀ (n : Nat) (l : List Command) (c : Chain), check c = 0 → planM a c.members.D < n → allP_l0 a h w n l c.epoch c.members = (⟨(l ++ (runP a h w n c).1).isEmpty, l ++ (runP a h w n c).1⟩, (runP a h w n c).2, 0)
  | 0, _, _, _, hm => by cases hm
  | n + 1, l, c, hc, hm => by
    unfold allP_l0 runP
    have hr := readyAll_check a hc
    have h0 := nextP_ok (a := a) (w := w) hr hp
    have hro := round_ok ha hc hp
    have he : (readyAll c a).epoch = c.epoch := (readyAll_eq a hc).1
    rw [show (check (Chain.mk c.epoch c.members) == 0) = true by rw [show (Chain.mk c.epoch c.members) = c from rfl, hc]; rfl, cond_true, show (Chain.mk c.epoch c.members) = c from rfl]
    generalize hra : readyAll c a = ra at *
    generalize hx : nextP ra a h w = nx at *
    rw [h0, show ((0 : Int) != 0) = false from rfl, cond_false]
    cases h2 : nx.2.1
    · rw [Bool.not_false, cond_true, cond_false, List.append_nil]
    · obtain ⟨d, hd, hdc, hde, hlt, hpm, hck, hk⟩ := hro h2
      have ih := allP_l0_run ha hp n (l ++ [nx.1]) d hdc (by omega)
      rw [hd, Bool.not_true, cond_false, cond_true, decide_eq_false (by omega), cond_false, hck, show ((0 : Int) != 0) = false from rfl, cond_false]
      rw [List.append_assoc] at ih
      rcases hk with ⟨k1, hk⟩ | ⟨k2, hk⟩
      · rw [k1, show ((1 : Int) == 1) = true from rfl, cond_true, hk]
        exact ih
      · rw [k2, show ((2 : Int) == 1) = false from rfl, cond_false, hk]
        exact ih
theorem runP_end {a : Int} {h w : Nat → Int} (ha : 0 ≤ a ∧ a < 18446744073709551616) (hp : planCheck h w = 0) : ∀ (n : Nat) (c : Chain), check c = 0 → planM a c.members.D < n → (runP a h w n c).1.length ≤ planM a c.members.D ∧ ∃ d, check d = 0 ∧ (runP a h w n c).2 = readyAll d a ∧ (nextP (readyAll d a) a h w).2.1 = false ∧ d.epoch ≤ c.epoch + planM a c.members.D
  | 0, _, _, hm => by cases hm
  | n + 1, c, hc, hm => by
    unfold runP
    cases hk : (nextP (readyAll c a) a h w).2.1
    · exact ⟨Nat.zero_le _, c, hc, rfl, hk, by omega⟩
    · obtain ⟨d, hd, hdc, hde, _, hpm, _⟩ := round_ok ha hc hp hk
      obtain ⟨r1, d', r2, r3, r4, r5⟩ := runP_end ha hp n d hdc (by omega)
      rw [hd]
      exact ⟨by rw [cond_true]; show (runP a h w n d).1.length + 1 ≤ _; omega, d', r2, r3, r4, by omega⟩
theorem allP_ok {c : Chain} {a : Int} {h w : Nat → Int} (ha : 0 ≤ a ∧ a < 18446744073709551616) (hc : check c = 0) (hp : planCheck h w = 0) : allP c a h w = (⟨(runP a h w (planM a c.members.D + 1) c).1.isEmpty, (runP a h w (planM a c.members.D + 1) c).1⟩, (runP a h w (planM a c.members.D + 1) c).2, 0) :=
  allP_l0_run ha hp _ [] c hc (Nat.lt_succ_self _)
theorem allP_bad {c : Chain} {a : Int} {h w : Nat → Int} (hc : check c ≠ 0) : allP c a h w = (⟨true, []⟩, ⟨0, ⟨true, []⟩⟩, 80) := by
  unfold allP allP_l0
  rw [show (check (Chain.mk c.epoch c.members) == 0) = false by rw [show (Chain.mk c.epoch c.members) = c from rfl]; simpa using hc, cond_false, show (Chain.mk c.epoch c.members) = c from rfl]
  have hn : nextP c a h w = (⟨0, 0, 0, 0⟩, false, 80) := by
    rcases nextP_cases (c := c) (a := a) (h := h) (w := w) rfl with ⟨_, h3⟩ | ⟨h3, _⟩ | ⟨h3, _⟩ | ⟨h3, _⟩ | ⟨h3, _⟩
    · rw [h3, check_bad (by simpa using hc)]
    all_goals exact absurd h3 hc
  rw [hn]; rfl
theorem planCheck_01 (h w : Nat → Int) : planCheck h w = 0 ∨ planCheck h w = 1 := by
  have key : ∀ k i, planCheck_l0 h w k i = 0 ∨ planCheck_l0 h w k i = 1 := by
    intro k
    induction k with
    | zero => intro i; exact planCheck_l1_r w 3 0
    | succ k ih =>
      intro i
      unfold planCheck_l0
      cases decide (h i < 0)
      · cases decide (h i ≥ 3)
        · exact ih (i + 1)
        · exact .inr rfl
      · exact .inr rfl
  exact key 6 0
theorem allP_bad2 {c : Chain} {a : Int} {h w : Nat → Int} (hc : check c = 0) (hp : planCheck h w ≠ 0) : allP c a h w = (⟨true, []⟩, ⟨0, ⟨true, []⟩⟩, 1) := by
  unfold allP allP_l0
  rw [show (check (Chain.mk c.epoch c.members) == 0) = true by rw [show (Chain.mk c.epoch c.members) = c from rfl, hc]; rfl, cond_true, show (Chain.mk c.epoch c.members) = c from rfl]
  have hr := readyAll_check a hc
  have hn : nextP (readyAll c a) a h w = (⟨0, 0, 0, 0⟩, false, 1) := by
    rcases nextP_cases (c := readyAll c a) (a := a) (h := h) (w := w) rfl with ⟨h3, _⟩ | ⟨_, _, h3⟩ | ⟨_, h3, _⟩ | ⟨_, h3, _⟩ | ⟨_, h3, _⟩
    · exact absurd hr h3
    · rcases planCheck_01 h w with e | e
      · exact absurd e hp
      · rw [h3, e]
    all_goals exact absurd h3 hp
  rw [hn]; rfl
theorem allP_le (c : Chain) (a : Int) (h w : Nat → Int) (ha : 0 ≤ a ∧ a < 18446744073709551616) : (allP c a h w).1.D.length ≤ 12 ∧ (allP c a h w).2.1.members.D.length ≤ 6 := by
  by_cases hc : check c = 0
  · by_cases hp : planCheck h w = 0
    · rw [allP_ok ha hc hp]
      obtain ⟨h1, d, h2, h3, _⟩ := runP_end ha hp (planM a c.members.D + 1) c hc (Nat.lt_succ_self _)
      have h4 := planM_le a c.members.D
      have h5 := check_le6 hc
      refine ⟨by show (runP a h w (planM a c.members.D + 1) c).1.length ≤ 12; omega, ?_⟩
      show (runP a h w (planM a c.members.D + 1) c).2.members.D.length ≤ 6
      rw [h3]
      exact check_le6 (readyAll_check a h2)
    · rw [allP_bad2 hc hp]; exact ⟨by decide, by decide⟩
  · rw [allP_bad hc]; exact ⟨by decide, by decide⟩
end Go.Proofs.Ytaffaalpgpepeaa
/- The example, a law. No conditions. -/
namespace Go.Proofs.Ytaffaalpgpepeaa
open Go.Am
def awake  : Bool :=
  (bif ((allP (Chain.mk 1 (Sl.mk false [(Member.mk 0 0 false), (Member.mk 1 1 false)])) (maskOf (Sl.mk false [0, 2])) (ofL [0, 1, 1, 0, 0, 0]) (ofL [1, 1, 0])).2.2 == 0) then (bif (eqCmds (allP (Chain.mk 1 (Sl.mk false [(Member.mk 0 0 false), (Member.mk 1 1 false)])) (maskOf (Sl.mk false [0, 2])) (ofL [0, 1, 1, 0, 0, 0]) (ofL [1, 1, 0])).1 (Sl.mk false [(Command.mk 1 1 0 1), (Command.mk 2 2 1 2)])) then (same (allP (Chain.mk 1 (Sl.mk false [(Member.mk 0 0 false), (Member.mk 1 1 false)])) (maskOf (Sl.mk false [0, 2])) (ofL [0, 1, 1, 0, 0, 0]) (ofL [1, 1, 0])).2.1 (Chain.mk 3 (Sl.mk false [(Member.mk 0 0 false), (Member.mk 2 1 false)]))) else false) else false)
theorem awake_calls   : PCalls Try.prog 9 [] (.pv (.lit (.bool (awake )))) := by
 generalize hR : awake  = R
 refine PCalls.of_body tabOk Try.func9 rfl rfl rfl rfl rfl mixed fun E hP C hI => ?_
 refine Awp.consP C ?_
 refine rvP C (.pv (.lit (.bool false))) ?_
 refine rvc_nil ?_
 refine Awp.consP C ?_
 refine rvP C (.agg [.pv (.lit (.int .i64 0)), .pv (.lit (.int .i64 0)), .pv (.lit (.bool false))]) ?_
 refine rvP C (.agg [.pv (.lit (.int .i64 1)), .pv (.lit (.int .i64 1)), .pv (.lit (.bool false))]) ?_
 refine rvc_un (rexec_buildSliceF C eMember [(Member.mk 0 0 false), (Member.mk 1 1 false)] rfl rfl rfl rfl rfl rfl rfl (by decide) rfl ?_)
 refine rvP C (.agg [.pv (.lit (.int .i64 1)), sS (some false) eMember [(Member.mk 0 0 false), (Member.mk 1 1 false)]]) ?_
 refine rvc_un (rexec_prim C (δ := { v := .ptr 1 0, new := [(1, .cells [.pv (.lit (.int .i64 0)), sS (some true) eMember []])] }) rfl rfl rfl rfl trivial rfl ?_)
 refine rvc_un (rexec_prim C (δ := { v := .undef, wr := [(1, some (.cells [.pv (.lit (.int .i64 1)), sS (some false) eMember [(Member.mk 0 0 false), (Member.mk 1 1 false)]]))] }) rfl rfl rfl rfl trivial rfl ?_)
 refine rvc_nil ?_
 refine Awp.consP C ?_
 refine rvP C (.agg [.pv (.lit (.int .i64 1)), sS (some false) eMember [(Member.mk 0 0 false), (Member.mk 1 1 false)]]) ?_
 refine rvc_un (rexec_buildSliceF C (eI .i64) [0, 2] rfl rfl rfl rfl rfl rfl rfl (by decide) rfl ?_)
 obtain ⟨ma, hq_ma⟩ : ∃ q_, q_ = (maskOf (Sl.mk false [0, 2])) := ⟨_, rfl⟩
 have hc_ma := (maskOf_calls (Sl.mk false [0, 2]) (of_decide_eq_true (by kernel_rfl)))
 first | rw [← hq_ma] at hR hc_ma | (unfold awake at hR; rw [← hq_ma] at hR hc_ma)
 have hf0_ma := maskOf_range (Sl.mk false [0, 2])
 rw [← hq_ma] at hf0_ma
 refine rvc_un (rexec_call hP C rfl rfl rfl hc_ma ?_)
 refine rvP C (.agg [.pv (.lit (.int .i64 0)), .pv (.lit (.int .i64 1)), .pv (.lit (.int .i64 1)), .pv (.lit (.int .i64 0)), .pv (.lit (.int .i64 0)), .pv (.lit (.int .i64 0))]) ?_
 refine rvP C (.agg [.pv (.lit (.int .i64 1)), .pv (.lit (.int .i64 1)), .pv (.lit (.int .i64 0))]) ?_
 obtain ⟨ap, hq_ap⟩ : ∃ q_, q_ = (allP (Chain.mk 1 (Sl.mk false [(Member.mk 0 0 false), (Member.mk 1 1 false)])) ma (ofL [0, 1, 1, 0, 0, 0]) (ofL [1, 1, 0])) := ⟨_, rfl⟩
 have hc_ap := (allP_calls (Chain.mk 1 (Sl.mk false [(Member.mk 0 0 false), (Member.mk 1 1 false)])) ma (ofL [0, 1, 1, 0, 0, 0]) (ofL [1, 1, 0]) (fun h => Bool.noConfusion h) (by assumption) (of_decide_eq_true (by kernel_rfl)))
 first | rw [← hq_ap] at hR hc_ap | (unfold awake at hR; rw [← hq_ap] at hR hc_ap)
 have hf0_ap := (allP_le (Chain.mk 1 (Sl.mk false [(Member.mk 0 0 false), (Member.mk 1 1 false)])) ma (ofL [0, 1, 1, 0, 0, 0]) (ofL [1, 1, 0]) (by assumption)).1
 rw [← hq_ap] at hf0_ap
 have hf1_ap := (allP_le (Chain.mk 1 (Sl.mk false [(Member.mk 0 0 false), (Member.mk 1 1 false)])) ma (ofL [0, 1, 1, 0, 0, 0]) (ofL [1, 1, 0]) (by assumption)).2
 rw [← hq_ap] at hf1_ap
 refine rvc_un (rexec_call hP C rfl rfl rfl hc_ap ?_)
 refine rvP C (.tup [sS (some ap.1.nil) eCommand ap.1.D, .agg [.pv (.lit (.int .i64 ap.2.1.epoch)), sS (some ap.2.1.members.nil) eMember ap.2.1.members.D], .pv (.lit (.int .i64 ap.2.2))]) ?_
 refine rvP C (sS (some ap.1.nil) eCommand ap.1.D) ?_
 refine rvP C (.agg [.pv (.lit (.int .i64 ap.2.1.epoch)), sS (some ap.2.1.members.nil) eMember ap.2.1.members.D]) ?_
 refine rvP C (.pv (.lit (.int .i64 ap.2.2))) ?_
 refine rvc_un (rexec_prim C (δ := { v := .ptr 3 0, new := [(3, .cells [.pv (.lit (.int .i64 0)), sS (some true) eMember []])] }) rfl rfl rfl rfl trivial rfl ?_)
 refine rvP C (sS (some ap.1.nil) eCommand ap.1.D) ?_
 refine rvc_un (rexec_prim C (δ := { v := .undef, wr := [(3, some (.cells [.pv (.lit (.int .i64 ap.2.1.epoch)), sS (some ap.2.1.members.nil) eMember ap.2.1.members.D]))] }) rfl rfl rfl rfl trivial rfl ?_)
 refine rvP C (.pv (.lit (.int .i64 ap.2.2))) ?_
 refine rvc_nil ?_
 refine Awp.consP C ?_
 refine rvP C (.pv (.lit (.int .i64 ap.2.2))) ?_
 refine rvP C (.pv (.lit (.bool (ap.2.2 == 0)))) ?_
 refine rvP C (.pv (.lit (.bool (ap.2.2 == 0)))) ?_
 refine rvc_case 21 (ap.2.2 == 0) rfl (fun h1 => ?_) (fun h1 => ?_)
 ·
  replace hR := of_true h1 hR
  refine rvO C (sS (some ap.1.nil) eCommand ap.1.D) ?_
  refine rvO C (.agg [.pv (.lit (.int .i64 1)), .pv (.lit (.int .i64 1)), .pv (.lit (.int .i64 0)), .pv (.lit (.int .i64 1))]) ?_
  refine rvO C (.agg [.pv (.lit (.int .i64 2)), .pv (.lit (.int .i64 2)), .pv (.lit (.int .i64 1)), .pv (.lit (.int .i64 2))]) ?_
  refine rvc_open rfl rfl rfl (rexec_buildSliceF C eCommand [(Command.mk 1 1 0 1), (Command.mk 2 2 1 2)] rfl rfl rfl rfl rfl rfl rfl (by decide) rfl ?_)
  obtain ⟨ec, hq_ec⟩ : ∃ q_, q_ = (eqCmds ap.1 (Sl.mk false [(Command.mk 1 1 0 1), (Command.mk 2 2 1 2)])) := ⟨_, rfl⟩
  have hc_ec := (eqCmds_calls ap.1 (Sl.mk false [(Command.mk 1 1 0 1), (Command.mk 2 2 1 2)]) (by first | omega | decide))
  first | rw [← hq_ec] at hR hc_ec | (unfold awake at hR; rw [← hq_ec] at hR hc_ec)
  refine rvc_open rfl rfl rfl (rexec_call hP C rfl rfl rfl hc_ec ?_)
  refine rvP C (.pv (.lit (.bool ec))) ?_
  refine rvP C (.pv (.lit (.bool ec))) ?_
  refine rvc_case 28 ec rfl (fun h2 => ?_) (fun h2 => ?_)
  ·
   replace hR := of_true h2 hR
   refine rvO C (.agg [.pv (.lit (.int .i64 ap.2.1.epoch)), sS (some ap.2.1.members.nil) eMember ap.2.1.members.D]) ?_
   refine rvO C (.agg [.pv (.lit (.int .i64 0)), .pv (.lit (.int .i64 0)), .pv (.lit (.bool false))]) ?_
   refine rvO C (.agg [.pv (.lit (.int .i64 2)), .pv (.lit (.int .i64 1)), .pv (.lit (.bool false))]) ?_
   refine rvc_open rfl rfl rfl (rexec_buildSliceF C eMember [(Member.mk 0 0 false), (Member.mk 2 1 false)] rfl rfl rfl rfl rfl rfl rfl (by decide) rfl ?_)
   refine rvO C (.agg [.pv (.lit (.int .i64 3)), sS (some false) eMember [(Member.mk 0 0 false), (Member.mk 2 1 false)]]) ?_
   obtain ⟨sm, hq_sm⟩ : ∃ q_, q_ = (same ap.2.1 (Chain.mk 3 (Sl.mk false [(Member.mk 0 0 false), (Member.mk 2 1 false)]))) := ⟨_, rfl⟩
   have hc_sm := (same_calls ap.2.1 (Chain.mk 3 (Sl.mk false [(Member.mk 0 0 false), (Member.mk 2 1 false)])) (by first | omega | decide))
   first | rw [← hq_sm] at hR hc_sm | (unfold awake at hR; rw [← hq_sm] at hR hc_sm)
   refine rvc_open rfl rfl rfl (rexec_call hP C rfl rfl rfl hc_sm ?_)
   refine rvP C (.pv (.lit (.bool sm))) ?_
   refine rvP C (.pv (.lit (.bool sm))) ?_
   refine rvc_nil ?_
   refine Awp.ret ?_
   subst hR
   exact ⟨.inl rfl, rfl⟩
  ·
   replace hR := of_false h2 hR
   refine rvS ?_
   refine rvS ?_
   refine rvS ?_
   refine rvS ?_
   refine rvS ?_
   refine rvS ?_
   refine rvP C (.pv (.lit (.bool false))) ?_
   refine rvP C (.pv (.lit (.bool false))) ?_
   refine rvc_nil ?_
   refine Awp.ret ?_
   subst hR
   exact ⟨.inl rfl, rfl⟩
 ·
  replace hR := of_false h1 hR
  refine rvS ?_
  refine rvS ?_
  refine rvS ?_
  refine rvS ?_
  refine rvS ?_
  refine rvP C (.pv (.lit (.bool false))) ?_
  refine rvP C (.pv (.lit (.bool false))) ?_
  refine rvS ?_
  refine rvS ?_
  refine rvS ?_
  refine rvS ?_
  refine rvS ?_
  refine rvS ?_
  refine rvP C (.pv (.lit (.bool false))) ?_
  refine rvP C (.pv (.lit (.bool false))) ?_
  refine rvc_nil ?_
  refine Awp.ret ?_
  subst hR
  exact ⟨.inl rfl, rfl⟩
end Go.Proofs.Ytaffaalpgpepeaa
/- The law PlanChecks in plain Lean: its model answers true. No conditions. -/
namespace Go.Proofs.Ytaffaalpgpepeaa
open Go.Am
theorem awake_true : awake = true := by kernel_rfl
end Go.Proofs.Ytaffaalpgpepeaa
/- The reference: the next command; a law. No conditions. -/
namespace Go.Proofs.Ytaffaalpgpepeaa
open Go.Am
end Go.Proofs.Ytaffaalpgpepeaa
/- The law PlanNext in plain Lean: the code's next command is the document's. No conditions. -/
namespace Go.Proofs.Ytaffaalpgpepeaa
open Go.Am
end Go.Proofs.Ytaffaalpgpepeaa
/- The law PlanNext in plain Lean: its model answers true. No conditions. -/
namespace Go.Proofs.Ytaffaalpgpepeaa
open Go.Am
end Go.Proofs.Ytaffaalpgpepeaa
/- Changes of the reference's chains: no longer than that. No conditions. -/
namespace Go.Proofs.Ytaffaalpgpepeaa
open Go.Am
end Go.Proofs.Ytaffaalpgpepeaa
/- The reference: all commands. No conditions. -/
namespace Go.Proofs.Ytaffaalpgpepeaa
open Go.Am
end Go.Proofs.Ytaffaalpgpepeaa
/- All commands: the code's are the document's. No conditions. -/
namespace Go.Proofs.Ytaffaalpgpepeaa
open Go.Am
theorem stepOf_hn (r : Chain) (k : Command) : (stepOf r k).members.nil = true → (stepOf r k).members.D = [] := by
  unfold stepOf
  cases k.kind == 1
  · exact join_hn _ _
  · exact drop_hn _ _
theorem runP_hn (a : Int) (h w : Nat → Int) : ∀ (n : Nat) (c : Chain), (c.members.nil = true → c.members.D = []) → (runP a h w n c).2.members.nil = true → (runP a h w n c).2.members.D = []
  | 0, c, hn => readyAll_hn c a hn
  | n + 1, c, hn => by
    have ih := runP_hn a h w n (stepOf (readyAll c a) (nextP (readyAll c a) a h w).1) (stepOf_hn _ _)
    have h0 := readyAll_hn c a hn
    unfold runP
    cases (nextP (readyAll c a) a h w).2.1
    · exact h0
    · exact ih
theorem allP_hn (c : Chain) (a : Int) (h w : Nat → Int) (ha : 0 ≤ a ∧ a < 18446744073709551616) (hn : c.members.nil = true → c.members.D = []) : (allP c a h w).2.1.members.nil = true → (allP c a h w).2.1.members.D = [] := by
  by_cases hc : check c = 0
  · by_cases hp : planCheck h w = 0
    · rw [allP_ok ha hc hp]; exact runP_hn a h w _ c hn
    · rw [allP_bad2 hc hp]; exact fun _ => rfl
  · rw [allP_bad hc]; exact fun _ => rfl
end Go.Proofs.Ytaffaalpgpepeaa
/- Laws. No conditions. -/
namespace Go.Proofs.Ytaffaalpgpepeaa
open Go.Am
def lawEnds (c : Chain) (alive : Int) (h : (Nat → Int)) (w : (Nat → Int)) : Bool :=
  (bif (decide ((c.members.D.length : Int) > 60)) then (awake ) else (bif ((allP c alive h w).2.2 != 0) then (bif (((allP c alive h w).1.D.length : Int) == 0) then (awake ) else false) else (bif (decide (((allP c alive h w).1.D.length : Int) ≤ 12)) then (bif (!(nextP (allP c alive h w).2.1 alive h w).2.1) then (bif ((nextP (allP c alive h w).2.1 alive h w).2.2 == 0) then (bif ((check (allP c alive h w).2.1) == 0) then (awake ) else false) else false) else false) else false)))
theorem lawEnds_calls (c : Chain) (alive : Int) (h : (Nat → Int)) (w : (Nat → Int)) (hn : c.members.nil = true → c.members.D = []) (ha : 0 ≤ alive ∧ alive < 18446744073709551616) (hl1 : c.members.D.length ≤ 1000000) : PCalls Try.prog 5 [.agg [.pv (.lit (.int .i64 c.epoch)), sS (some c.members.nil) eMember c.members.D], .pv (.lit (.int .u64 alive)), .agg [.pv (.lit (.int .i64 (h 0))), .pv (.lit (.int .i64 (h 1))), .pv (.lit (.int .i64 (h 2))), .pv (.lit (.int .i64 (h 3))), .pv (.lit (.int .i64 (h 4))), .pv (.lit (.int .i64 (h 5)))], .agg [.pv (.lit (.int .i64 (w 0))), .pv (.lit (.int .i64 (w 1))), .pv (.lit (.int .i64 (w 2)))]] (.pv (.lit (.bool (lawEnds c alive h w)))) := by
 generalize hR : lawEnds c alive h w = R
 refine PCalls.of_body tabOk Try.func5 rfl rfl rfl rfl rfl mixed fun E hP C hI => ?_
 refine Awp.consP C ?_
 refine rvc_un (rexec_prim C (δ := { v := .ptr 4 0, new := [(4, .cells [.pv (.lit (.int .i64 c.epoch)), sS (some c.members.nil) eMember c.members.D])] }) rfl rfl rfl rfl trivial rfl ?_)
 refine rvc_un (rexec_prim C (δ := { v := .ptr 6 0, new := [(6, .cells [.pv (.lit (.int .i64 (h 0))), .pv (.lit (.int .i64 (h 1))), .pv (.lit (.int .i64 (h 2))), .pv (.lit (.int .i64 (h 3))), .pv (.lit (.int .i64 (h 4))), .pv (.lit (.int .i64 (h 5)))])] }) rfl rfl rfl rfl trivial rfl ?_)
 refine rvc_un (rexec_prim C (δ := { v := .ptr 7 0, new := [(7, .cells [.pv (.lit (.int .i64 (w 0))), .pv (.lit (.int .i64 (w 1))), .pv (.lit (.int .i64 (w 2)))])] }) rfl rfl rfl rfl trivial rfl ?_)
 refine rvP C (.pv (.lit (.bool false))) ?_
 refine rvc_nil ?_
 refine Awp.seq ?_
 refine Awp.consP C ?_
 refine rvP C (.ptr 4 1) ?_
 refine rvP C (sS (some c.members.nil) eMember c.members.D) ?_
 refine rvP C (.pv (.lit (.int .i64 (c.members.D.length : Int)))) ?_
 refine rvP C (.pv (.lit (.bool (decide ((c.members.D.length : Int) > 60))))) ?_
 refine rvc_nil ?_
 refine Awp.cond (b := (decide ((c.members.D.length : Int) > 60))) rfl (fun h1 => ?_) (fun h1 => ?_)
 ·
  replace hR := of_true h1 hR
  refine Awp.consP C ?_
  obtain ⟨aw, hq_aw⟩ : ∃ q_, q_ = (awake ) := ⟨_, rfl⟩
  have hc_aw := (awake_calls )
  first | rw [← hq_aw] at hR hc_aw | (unfold lawEnds at hR; rw [← hq_aw] at hR hc_aw)
  refine rvc_un (rexec_call hP C rfl rfl rfl hc_aw ?_)
  refine rvP C (.pv (.lit (.bool aw))) ?_
  refine rvc_nil ?_
  refine Awp.ret ?_
  subst hR
  exact ⟨.inl rfl, rfl⟩
 ·
  replace hR := of_false h1 hR
  refine Awp.skip ?_
  refine Awp.consP C ?_
  refine rvP C (.agg [.pv (.lit (.int .i64 c.epoch)), sS (some c.members.nil) eMember c.members.D]) ?_
  refine rvP C (.pv (.lit (.int .u64 alive))) ?_
  refine rvP C (.agg [.pv (.lit (.int .i64 (h 0))), .pv (.lit (.int .i64 (h 1))), .pv (.lit (.int .i64 (h 2))), .pv (.lit (.int .i64 (h 3))), .pv (.lit (.int .i64 (h 4))), .pv (.lit (.int .i64 (h 5)))]) ?_
  refine rvP C (.agg [.pv (.lit (.int .i64 (w 0))), .pv (.lit (.int .i64 (w 1))), .pv (.lit (.int .i64 (w 2)))]) ?_
  obtain ⟨ap, hq_ap⟩ : ∃ q_, q_ = (allP c alive h w) := ⟨_, rfl⟩
  have hc_ap := (allP_calls c alive h w hn ha hl1)
  first | rw [← hq_ap] at hR hc_ap | (unfold lawEnds at hR; rw [← hq_ap] at hR hc_ap)
  have hf0_ap := (allP_le c alive h w ha).1
  rw [← hq_ap] at hf0_ap
  have hf1_ap := (allP_le c alive h w ha).2
  rw [← hq_ap] at hf1_ap
  have hf2_ap := (allP_hn c alive h w ha hn)
  rw [← hq_ap] at hf2_ap
  refine rvc_un (rexec_call hP C rfl rfl rfl hc_ap ?_)
  refine rvP C (.tup [sS (some ap.1.nil) eCommand ap.1.D, .agg [.pv (.lit (.int .i64 ap.2.1.epoch)), sS (some ap.2.1.members.nil) eMember ap.2.1.members.D], .pv (.lit (.int .i64 ap.2.2))]) ?_
  refine rvP C (sS (some ap.1.nil) eCommand ap.1.D) ?_
  refine rvP C (.agg [.pv (.lit (.int .i64 ap.2.1.epoch)), sS (some ap.2.1.members.nil) eMember ap.2.1.members.D]) ?_
  refine rvP C (.pv (.lit (.int .i64 ap.2.2))) ?_
  refine rvc_un (rexec_prim C (δ := { v := .ptr 10 0, new := [(10, .cells [.pv (.lit (.int .i64 0)), sS (some true) eMember []])] }) rfl rfl rfl rfl trivial rfl ?_)
  refine rvP C (sS (some ap.1.nil) eCommand ap.1.D) ?_
  refine rvc_un (rexec_prim C (δ := { v := .undef, wr := [(10, some (.cells [.pv (.lit (.int .i64 ap.2.1.epoch)), sS (some ap.2.1.members.nil) eMember ap.2.1.members.D]))] }) rfl rfl rfl rfl trivial rfl ?_)
  refine rvP C (.pv (.lit (.int .i64 ap.2.2))) ?_
  refine rvc_nil ?_
  refine Awp.seq ?_
  refine Awp.consP C ?_
  refine rvP C (.pv (.lit (.int .i64 ap.2.2))) ?_
  refine rvP C (.pv (.lit (.bool (ap.2.2 != 0)))) ?_
  refine rvc_nil ?_
  refine Awp.cond (b := (ap.2.2 != 0)) rfl (fun h2 => ?_) (fun h2 => ?_)
  ·
   replace hR := of_true h2 hR
   refine Awp.consP C ?_
   refine rvP C (sS (some ap.1.nil) eCommand ap.1.D) ?_
   refine rvP C (.pv (.lit (.int .i64 (ap.1.D.length : Int)))) ?_
   refine rvP C (.pv (.lit (.bool ((ap.1.D.length : Int) == 0)))) ?_
   refine rvP C (.pv (.lit (.bool ((ap.1.D.length : Int) == 0)))) ?_
   refine rvc_case 34 ((ap.1.D.length : Int) == 0) rfl (fun h3 => ?_) (fun h3 => ?_)
   ·
    replace hR := of_true h3 hR
    obtain ⟨aw1, hq_aw1⟩ : ∃ q_, q_ = (awake ) := ⟨_, rfl⟩
    have hc_aw1 := (awake_calls )
    first | rw [← hq_aw1] at hR hc_aw1 | (unfold lawEnds at hR; rw [← hq_aw1] at hR hc_aw1)
    refine rvc_open rfl rfl rfl (rexec_call hP C rfl rfl rfl hc_aw1 ?_)
    refine rvP C (.pv (.lit (.bool aw1))) ?_
    refine rvP C (.pv (.lit (.bool aw1))) ?_
    refine rvc_nil ?_
    refine Awp.ret ?_
    subst hR
    exact ⟨.inl rfl, rfl⟩
   ·
    replace hR := of_false h3 hR
    refine rvS ?_
    refine rvP C (.pv (.lit (.bool false))) ?_
    refine rvP C (.pv (.lit (.bool false))) ?_
    refine rvc_nil ?_
    refine Awp.ret ?_
    subst hR
    exact ⟨.inl rfl, rfl⟩
  ·
   replace hR := of_false h2 hR
   refine Awp.skip ?_
   refine Awp.consP C ?_
   refine rvP C (.agg [.pv (.lit (.int .i64 ap.2.1.epoch)), sS (some ap.2.1.members.nil) eMember ap.2.1.members.D]) ?_
   refine rvP C (.pv (.lit (.int .u64 alive))) ?_
   refine rvP C (.agg [.pv (.lit (.int .i64 (h 0))), .pv (.lit (.int .i64 (h 1))), .pv (.lit (.int .i64 (h 2))), .pv (.lit (.int .i64 (h 3))), .pv (.lit (.int .i64 (h 4))), .pv (.lit (.int .i64 (h 5)))]) ?_
   refine rvP C (.agg [.pv (.lit (.int .i64 (w 0))), .pv (.lit (.int .i64 (w 1))), .pv (.lit (.int .i64 (w 2)))]) ?_
   obtain ⟨nx, hq_nx⟩ : ∃ q_, q_ = (nextP ap.2.1 alive h w) := ⟨_, rfl⟩
   have hc_nx := (nextP_calls ap.2.1 alive h w hf2_ap (by show ap.2.1.members.D.length ≤ 1000000; have := of_decide_eq_false h1; have := eq_of_bne_false h2; omega))
   first | rw [← hq_nx] at hR hc_nx | (unfold lawEnds at hR; rw [← hq_nx] at hR hc_nx)
   refine rvc_un (rexec_call hP C rfl rfl rfl hc_nx ?_)
   refine rvP C (.tup [.agg [.pv (.lit (.int .i64 nx.1.kind)), .pv (.lit (.int .i64 nx.1.node)), .pv (.lit (.int .i64 nx.1.site)), .pv (.lit (.int .i64 nx.1.epoch))], .pv (.lit (.bool nx.2.1)), .pv (.lit (.int .i64 nx.2.2))]) ?_
   refine rvP C (.agg [.pv (.lit (.int .i64 nx.1.kind)), .pv (.lit (.int .i64 nx.1.node)), .pv (.lit (.int .i64 nx.1.site)), .pv (.lit (.int .i64 nx.1.epoch))]) ?_
   refine rvP C (.pv (.lit (.bool nx.2.1))) ?_
   refine rvP C (.pv (.lit (.int .i64 nx.2.2))) ?_
   refine rvc_un (rexec_prim C (δ := { v := .ptr 12 0, new := [(12, .cells [.pv (.lit (.int .i64 0)), .pv (.lit (.int .i64 0)), .pv (.lit (.int .i64 0)), .pv (.lit (.int .i64 0))])] }) rfl rfl rfl rfl trivial rfl ?_)
   refine rvc_un (rexec_prim C (δ := { v := .undef, wr := [(12, some (.cells [.pv (.lit (.int .i64 nx.1.kind)), .pv (.lit (.int .i64 nx.1.node)), .pv (.lit (.int .i64 nx.1.site)), .pv (.lit (.int .i64 nx.1.epoch))]))] }) rfl rfl rfl rfl trivial rfl ?_)
   refine rvP C (.pv (.lit (.bool nx.2.1))) ?_
   refine rvP C (.pv (.lit (.int .i64 nx.2.2))) ?_
   refine rvc_nil ?_
   refine Awp.consP C ?_
   refine rvP C (sS (some ap.1.nil) eCommand ap.1.D) ?_
   refine rvP C (.pv (.lit (.int .i64 (ap.1.D.length : Int)))) ?_
   refine rvP C (.pv (.lit (.bool (decide ((ap.1.D.length : Int) ≤ 12))))) ?_
   refine rvP C (.pv (.lit (.bool (decide ((ap.1.D.length : Int) ≤ 12))))) ?_
   refine rvc_case 49 (decide ((ap.1.D.length : Int) ≤ 12)) rfl (fun h4 => ?_) (fun h4 => ?_)
   ·
    replace hR := of_true h4 hR
    refine rvO C (.pv (.lit (.bool nx.2.1))) ?_
    refine rvO C (.pv (.lit (.bool (!nx.2.1)))) ?_
    refine rvP C (.pv (.lit (.bool (!nx.2.1)))) ?_
    refine rvP C (.pv (.lit (.bool (!nx.2.1)))) ?_
    refine rvc_case 53 (!nx.2.1) rfl (fun h5 => ?_) (fun h5 => ?_)
    ·
     replace hR := of_true h5 hR
     refine rvO C (.pv (.lit (.int .i64 nx.2.2))) ?_
     refine rvO C (.pv (.lit (.bool (nx.2.2 == 0)))) ?_
     refine rvP C (.pv (.lit (.bool (nx.2.2 == 0)))) ?_
     refine rvP C (.pv (.lit (.bool (nx.2.2 == 0)))) ?_
     refine rvc_case 57 (nx.2.2 == 0) rfl (fun h6 => ?_) (fun h6 => ?_)
     ·
      replace hR := of_true h6 hR
      refine rvO C (.agg [.pv (.lit (.int .i64 ap.2.1.epoch)), sS (some ap.2.1.members.nil) eMember ap.2.1.members.D]) ?_
      obtain ⟨ck, hq_ck⟩ : ∃ q_, q_ = (check ap.2.1) := ⟨_, rfl⟩
      have hc_ck := (check_calls ap.2.1 (by show ap.2.1.members.D.length ≤ 9223372036854775807; have := of_decide_eq_false h1; have := eq_of_bne_false h2; have := of_decide_eq_true h4; have := beq_iff_eq.1 h6; omega))
      first | rw [← hq_ck] at hR hc_ck | (unfold lawEnds at hR; rw [← hq_ck] at hR hc_ck)
      refine rvc_open rfl rfl rfl (rexec_call hP C rfl rfl rfl hc_ck ?_)
      refine rvO C (.pv (.lit (.bool (ck == 0)))) ?_
      refine rvP C (.pv (.lit (.bool (ck == 0)))) ?_
      refine rvP C (.pv (.lit (.bool (ck == 0)))) ?_
      refine rvc_case 62 (ck == 0) rfl (fun h7 => ?_) (fun h7 => ?_)
      ·
       replace hR := of_true h7 hR
       obtain ⟨aw2, hq_aw2⟩ : ∃ q_, q_ = (awake ) := ⟨_, rfl⟩
       have hc_aw2 := (awake_calls )
       first | rw [← hq_aw2] at hR hc_aw2 | (unfold lawEnds at hR; rw [← hq_aw2] at hR hc_aw2)
       refine rvc_open rfl rfl rfl (rexec_call hP C rfl rfl rfl hc_aw2 ?_)
       refine rvP C (.pv (.lit (.bool aw2))) ?_
       refine rvP C (.pv (.lit (.bool aw2))) ?_
       refine rvc_nil ?_
       refine Awp.ret ?_
       subst hR
       exact ⟨.inl rfl, rfl⟩
      ·
       replace hR := of_false h7 hR
       refine rvS ?_
       refine rvP C (.pv (.lit (.bool false))) ?_
       refine rvP C (.pv (.lit (.bool false))) ?_
       refine rvc_nil ?_
       refine Awp.ret ?_
       subst hR
       exact ⟨.inl rfl, rfl⟩
     ·
      replace hR := of_false h6 hR
      refine rvS ?_
      refine rvS ?_
      refine rvS ?_
      refine rvP C (.pv (.lit (.bool false))) ?_
      refine rvP C (.pv (.lit (.bool false))) ?_
      refine rvS ?_
      refine rvP C (.pv (.lit (.bool false))) ?_
      refine rvP C (.pv (.lit (.bool false))) ?_
      refine rvc_nil ?_
      refine Awp.ret ?_
      subst hR
      exact ⟨.inl rfl, rfl⟩
    ·
     replace hR := of_false h5 hR
     refine rvS ?_
     refine rvS ?_
     refine rvP C (.pv (.lit (.bool false))) ?_
     refine rvP C (.pv (.lit (.bool false))) ?_
     refine rvS ?_
     refine rvS ?_
     refine rvS ?_
     refine rvP C (.pv (.lit (.bool false))) ?_
     refine rvP C (.pv (.lit (.bool false))) ?_
     refine rvS ?_
     refine rvP C (.pv (.lit (.bool false))) ?_
     refine rvP C (.pv (.lit (.bool false))) ?_
     refine rvc_nil ?_
     refine Awp.ret ?_
     subst hR
     exact ⟨.inl rfl, rfl⟩
   ·
    replace hR := of_false h4 hR
    refine rvS ?_
    refine rvS ?_
    refine rvP C (.pv (.lit (.bool false))) ?_
    refine rvP C (.pv (.lit (.bool false))) ?_
    refine rvS ?_
    refine rvS ?_
    refine rvP C (.pv (.lit (.bool false))) ?_
    refine rvP C (.pv (.lit (.bool false))) ?_
    refine rvS ?_
    refine rvS ?_
    refine rvS ?_
    refine rvP C (.pv (.lit (.bool false))) ?_
    refine rvP C (.pv (.lit (.bool false))) ?_
    refine rvS ?_
    refine rvP C (.pv (.lit (.bool false))) ?_
    refine rvP C (.pv (.lit (.bool false))) ?_
    refine rvc_nil ?_
    refine Awp.ret ?_
    subst hR
    exact ⟨.inl rfl, rfl⟩
end Go.Proofs.Ytaffaalpgpepeaa
/- The laws PlanAll, PlanEnds and PlanWished in plain Lean: their models answer true. No conditions. -/
namespace Go.Proofs.Ytaffaalpgpepeaa
open Go.Am
theorem lawEnds_true (c : Chain) (a : Int) (h w : Nat → Int) (ha : 0 ≤ a ∧ a < 18446744073709551616) : lawEnds c a h w = true := by
  unfold lawEnds
  rw [awake_true]
  by_cases hc : check c = 0
  · by_cases hp : planCheck h w = 0
    · obtain ⟨h1, d, h2, h3, h4, _⟩ := runP_end ha hp (planM a c.members.D + 1) c hc (Nat.lt_succ_self _)
      have h5 := planM_le a c.members.D
      have h6 := check_le6 hc
      have h7 := readyAll_check a h2
      rw [allP_ok ha hc hp]
      generalize runP a h w (planM a c.members.D + 1) c = r at *
      obtain ⟨l, e⟩ := r
      have h1 : l.length ≤ planM a c.members.D := h1
      have h3 : e = readyAll d a := h3
      subst h3
      show (bif _ then true else bif ((0 : Int) != 0) then _ else bif decide ((l.length : Int) ≤ 12) then bif !(nextP (readyAll d a) a h w).2.1 then bif (nextP (readyAll d a) a h w).2.2 == 0 then bif check (readyAll d a) == 0 then true else false else false else false else false) = true
      rw [decide_eq_true (show (l.length : Int) ≤ 12 by omega), h4, nextP_ok h7 hp, h7]
      simp
    · rw [allP_bad2 hc hp]; simp
  · rw [allP_bad hc]; simp
end Go.Proofs.Ytaffaalpgpepeaa
/- Laws of chapter 14 at chains that are too long. No conditions. -/
namespace Go.Proofs.Ytaffaalpgpepeaa
open Go.Am
def biglawEnds (_c : Chain) (_alive : Int) (_h : (Nat → Int)) (_w : (Nat → Int)) : Bool :=
  (awake )
theorem biglawEnds_calls (c : Chain) (alive : Int) (h : (Nat → Int)) (w : (Nat → Int)) (hbig : (decide ((c.members.D.length : Int) > 60)) = true) : PCalls Try.prog 5 [.agg [.pv (.lit (.int .i64 c.epoch)), sS (some c.members.nil) eMember c.members.D], .pv (.lit (.int .u64 alive)), .agg [.pv (.lit (.int .i64 (h 0))), .pv (.lit (.int .i64 (h 1))), .pv (.lit (.int .i64 (h 2))), .pv (.lit (.int .i64 (h 3))), .pv (.lit (.int .i64 (h 4))), .pv (.lit (.int .i64 (h 5)))], .agg [.pv (.lit (.int .i64 (w 0))), .pv (.lit (.int .i64 (w 1))), .pv (.lit (.int .i64 (w 2)))]] (.pv (.lit (.bool (biglawEnds c alive h w)))) := by
 generalize hR : biglawEnds c alive h w = R
 refine PCalls.of_body tabOk Try.func5 rfl rfl rfl rfl rfl mixed fun E hP C hI => ?_
 refine Awp.consP C ?_
 refine rvc_un (rexec_prim C (δ := { v := .ptr 4 0, new := [(4, .cells [.pv (.lit (.int .i64 c.epoch)), sS (some c.members.nil) eMember c.members.D])] }) rfl rfl rfl rfl trivial rfl ?_)
 refine rvc_un (rexec_prim C (δ := { v := .ptr 6 0, new := [(6, .cells [.pv (.lit (.int .i64 (h 0))), .pv (.lit (.int .i64 (h 1))), .pv (.lit (.int .i64 (h 2))), .pv (.lit (.int .i64 (h 3))), .pv (.lit (.int .i64 (h 4))), .pv (.lit (.int .i64 (h 5)))])] }) rfl rfl rfl rfl trivial rfl ?_)
 refine rvc_un (rexec_prim C (δ := { v := .ptr 7 0, new := [(7, .cells [.pv (.lit (.int .i64 (w 0))), .pv (.lit (.int .i64 (w 1))), .pv (.lit (.int .i64 (w 2)))])] }) rfl rfl rfl rfl trivial rfl ?_)
 refine rvP C (.pv (.lit (.bool false))) ?_
 refine rvc_nil ?_
 refine Awp.seq ?_
 refine Awp.consP C ?_
 refine rvP C (.ptr 4 1) ?_
 refine rvP C (sS (some c.members.nil) eMember c.members.D) ?_
 refine rvP C (.pv (.lit (.int .i64 (c.members.D.length : Int)))) ?_
 refine rvP C (.pv (.lit (.bool (decide ((c.members.D.length : Int) > 60))))) ?_
 refine rvc_nil ?_
 refine Awp.condT (b := (decide ((c.members.D.length : Int) > 60))) rfl hbig ?_
 refine Awp.consP C ?_
 obtain ⟨aw, hq_aw⟩ : ∃ q_, q_ = (awake ) := ⟨_, rfl⟩
 have hc_aw := (awake_calls )
 first | rw [← hq_aw] at hR hc_aw | (unfold biglawEnds at hR; rw [← hq_aw] at hR hc_aw)
 refine rvc_un (rexec_call hP C rfl rfl rfl hc_aw ?_)
 refine rvP C (.pv (.lit (.bool aw))) ?_
 refine rvc_nil ?_
 refine Awp.ret ?_
 subst hR
 exact ⟨.inl rfl, rfl⟩
end Go.Proofs.Ytaffaalpgpepeaa
/- Laws of chapter 14 at chains that are too long. No conditions. -/
namespace Go.Proofs.Ytaffaalpgpepeaa
open Go.Am
end Go.Proofs.Ytaffaalpgpepeaa
/- Inputs of chapter 14, as plain values. No conditions. -/
namespace Go.Proofs.Ytaffaalpgpepeaa
open Go.Am
set_option maxRecDepth 100000 in
theorem flat3 {m : Nat} {ps : List PV} (h : Flat Try.prog (m + 1) 3 ps) : ∃ n, ps = [.lit (.int .i64 n)] ∧ (Lit.int .i64 n).wf = true := by
  unfold Flat at h
  rw [Try.underlying3] at h
  exact h
set_option maxRecDepth 100000 in
theorem flat4 {m : Nat} {ps : List PV} (h : Flat Try.prog (m + 1) 4 ps) : ∃ b, ps = [.lit (.bool b)] ∧ True := by
  unfold Flat at h
  rw [Try.underlying4] at h
  obtain ⟨b, h⟩ := h
  exact ⟨b, h, trivial⟩
def WT41 (x : Member) : Prop := (Lit.int .i64 x.node).wf = true ∧ (Lit.int .i64 x.site).wf = true ∧ True
set_option maxRecDepth 100000 in
theorem flat41 {m : Nat} {ps : List PV} (h : Flat Try.prog (m + 2) 41 ps) : ∃ x : Member, ps = eMember.enc x ∧ WT41 x := by
  unfold Flat at h
  rw [Try.underlying41] at h
  obtain ⟨a0, b0, e0, h0, a1, b1, e1, h1, a2, b2, e2, h2, el⟩ := h
  obtain ⟨x0, rfl, w0⟩ := flat3 (m := m + 0) h0
  obtain ⟨x1, rfl, w1⟩ := flat3 (m := m + 0) h1
  obtain ⟨x2, rfl, w2⟩ := flat4 (m := m + 0) h2
  subst el
  subst e2
  subst e1
  subst e0
  exact ⟨⟨x0, x1, x2⟩, rfl, w0, w1, w2⟩
def WT22 (s : Sl Member) : Prop := s.D.length ≤ maxLen ∧ (s.nil = true → s.D = []) ∧ ∀ x ∈ s.D, WT41 x
set_option maxRecDepth 100000 in
theorem flat22 {m : Nat} {ps : List PV} (h : Flat Try.prog (m + 3) 22 ps) : ∃ s : Sl Member, ps = [.sl (some s.nil) s.D.length (encL eMember s.D)] ∧ WT22 s := by
  unfold Flat at h
  rw [Try.underlying22] at h
  obtain ⟨b, D, rfl, h1, h2, h3⟩ := h
  obtain ⟨D2, e1, e2, e3⟩ := enc_list (e := eMember) (W := fun x => WT41 x) D fun y hy => flat41 (h3 y hy)
  rw [e2, ← e1]
  exact ⟨⟨b, D2⟩, rfl, (by show D2.length ≤ _; rw [e1]; exact h1), (fun hb => by have := h2 hb; rw [this] at e1; exact List.eq_nil_of_length_eq_zero e1), e3⟩
def WT24 (x : Chain) : Prop := (Lit.int .i64 x.epoch).wf = true ∧ WT22 x.members
set_option maxRecDepth 100000 in
theorem flat24 {m : Nat} {ps : List PV} (h : Flat Try.prog (m + 4) 24 ps) : ∃ x : Chain, ps = eChain.enc x ∧ WT24 x := by
  unfold Flat at h
  rw [Try.underlying24] at h
  obtain ⟨a0, b0, e0, h0, a1, b1, e1, h1, el⟩ := h
  obtain ⟨x0, rfl, w0⟩ := flat3 (m := m + 2) h0
  obtain ⟨x1, rfl, w1⟩ := flat22 (m := m + 0) h1
  subst el
  subst e1
  subst e0
  exact ⟨⟨x0, x1⟩, rfl, w0, w1⟩
end Go.Proofs.Ytaffaalpgpepeaa
/- The contract of the law PlanNext: it is true, whatever the input. No conditions. -/
namespace Go.Proofs.Ytaffaalpgpepeaa
open Go.Am
theorem u64_range {a : Int} (h : (Lit.int .u64 a).wf = true) : 0 ≤ a ∧ a < 18446744073709551616 := by
  have h : (decide (IntKind.u64.min ≤ a) && decide (a ≤ IntKind.u64.max)) = true := h
  rw [Bool.and_eq_true] at h
  have h1 := of_decide_eq_true h.1
  have h2 := of_decide_eq_true h.2
  have e1 : IntKind.u64.min = 0 := rfl
  have e2 : IntKind.u64.max = 18446744073709551615 := rfl
  omega
end Go.Proofs.Ytaffaalpgpepeaa
/- The contracts of the laws PlanAll, PlanEnds and PlanWished: each is true, whatever the input. No conditions. -/
namespace Go.Proofs.Ytaffaalpgpepeaa
open Go.Am
theorem planEnds_calls (c : Chain) (wc : WT24 c) (a : Int) (wa : (Lit.int .u64 a).wf = true) (h w : Nat → Int) : PCalls Try.prog 5 [.agg ((eChain.enc c).map .pv), .pv (.lit (.int .u64 a)), .agg (cI .i64 (tb 6 h)), .agg (cI .i64 (tb 3 w))] (.pv (.bool true)) := by
  cases hb : (decide ((c.members.D.length : Int) > 60))
  · have := of_decide_eq_false hb
    have r := lawEnds_calls c a h w wc.2.2.1 (u64_range wa) (by omega)
    rw [lawEnds_true c a h w (u64_range wa)] at r
    exact r
  · have r := biglawEnds_calls c a h w hb
    rw [show biglawEnds c a h w = true from awake_true] at r
    exact r
end Go.Proofs.Ytaffaalpgpepeaa
/- What all rows of this seat need: no knob is turned, the types are laid out. No conditions. -/
namespace Go.Proofs.Ytaffaalpgpepeaa
open Go.Am
theorem own : ownKnob Try.prog.godebug = none := by kernel_rfl
theorem laidOut : laidOutB Try.prog = true := by kernel_rfl
end Go.Proofs.Ytaffaalpgpepeaa
