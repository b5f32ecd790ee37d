import Derived.Test.YtaffaalpgpepeaaM5
import Derived.Test.YtaffaalpgpepeaaM3
import Derived.Test.YtaffaalpgpepeaaM2
/- All commands. No conditions. -/
namespace Go.Proofs.Ytaffaalpgpepeaa
open Go.Am
def allP_l0 (alive : Int) (h : (Nat → Int)) (w : (Nat → Int)) : Nat → (List Command) → Int → (Sl Member) → (Sl Command) × Chain × Int
  | 0, _, _, _ => default
  | nn + 1, l, vc, vc1 => (bif ((check (Chain.mk vc vc1)) == 0) then (bif ((nextP (readyAll (Chain.mk vc vc1) alive) alive h w).2.2 != 0) then ((Sl.mk true []), (Chain.mk 0 (Sl.mk true [])), (nextP (readyAll (Chain.mk vc vc1) alive) alive h w).2.2) else (bif (!(nextP (readyAll (Chain.mk vc vc1) alive) alive h w).2.1) then ((Sl.mk l.isEmpty l), (readyAll (Chain.mk vc vc1) alive), 0) else (bif (decide ((readyAll (Chain.mk vc vc1) alive).epoch ≥ 1099511627776)) then ((Sl.mk l.isEmpty l), (readyAll (Chain.mk vc vc1) alive), 0) else (bif ((nextP (readyAll (Chain.mk vc vc1) alive) alive h w).1.kind == 1) then (bif ((drop (readyAll (Chain.mk vc vc1) alive) (nextP (readyAll (Chain.mk vc vc1) alive) alive h w).1.node).2 != 0) then ((Sl.mk l.isEmpty l), (readyAll (Chain.mk vc vc1) alive), 0) else (bif ((cmdCheck (nextP (readyAll (Chain.mk vc vc1) alive) alive h w).1) != 0) then ((Sl.mk l.isEmpty l), (readyAll (Chain.mk vc vc1) alive), 0) else allP_l0 alive h w nn (l ++ [(nextP (readyAll (Chain.mk vc vc1) alive) alive h w).1]) (drop (readyAll (Chain.mk vc vc1) alive) (nextP (readyAll (Chain.mk vc vc1) alive) alive h w).1.node).1.epoch (drop (readyAll (Chain.mk vc vc1) alive) (nextP (readyAll (Chain.mk vc vc1) alive) alive h w).1.node).1.members)) else (bif ((join (readyAll (Chain.mk vc vc1) alive) (Member.mk (nextP (readyAll (Chain.mk vc vc1) alive) alive h w).1.node (nextP (readyAll (Chain.mk vc vc1) alive) alive h w).1.site false)).2 != 0) then ((Sl.mk l.isEmpty l), (readyAll (Chain.mk vc vc1) alive), 0) else (bif ((cmdCheck (nextP (readyAll (Chain.mk vc vc1) alive) alive h w).1) != 0) then ((Sl.mk l.isEmpty l), (readyAll (Chain.mk vc vc1) alive), 0) else allP_l0 alive h w nn (l ++ [(nextP (readyAll (Chain.mk vc vc1) alive) alive h w).1]) (join (readyAll (Chain.mk vc vc1) alive) (Member.mk (nextP (readyAll (Chain.mk vc vc1) alive) alive h w).1.node (nextP (readyAll (Chain.mk vc vc1) alive) alive h w).1.site false)).1.epoch (join (readyAll (Chain.mk vc vc1) alive) (Member.mk (nextP (readyAll (Chain.mk vc vc1) alive) alive h w).1.node (nextP (readyAll (Chain.mk vc vc1) alive) alive h w).1.site false)).1.members)))))) else (bif ((nextP (Chain.mk vc vc1) alive h w).2.2 != 0) then ((Sl.mk true []), (Chain.mk 0 (Sl.mk true [])), (nextP (Chain.mk vc vc1) alive h w).2.2) else (bif (!(nextP (Chain.mk vc vc1) alive h w).2.1) then ((Sl.mk l.isEmpty l), (Chain.mk vc vc1), 0) else (bif (decide (vc ≥ 1099511627776)) then ((Sl.mk l.isEmpty l), (Chain.mk vc vc1), 0) else (bif ((nextP (Chain.mk vc vc1) alive h w).1.kind == 1) then (bif ((drop (Chain.mk vc vc1) (nextP (Chain.mk vc vc1) alive h w).1.node).2 != 0) then ((Sl.mk l.isEmpty l), (Chain.mk vc vc1), 0) else (bif ((cmdCheck (nextP (Chain.mk vc vc1) alive h w).1) != 0) then ((Sl.mk l.isEmpty l), (Chain.mk vc vc1), 0) else allP_l0 alive h w nn (l ++ [(nextP (Chain.mk vc vc1) alive h w).1]) (drop (Chain.mk vc vc1) (nextP (Chain.mk vc vc1) alive h w).1.node).1.epoch (drop (Chain.mk vc vc1) (nextP (Chain.mk vc vc1) alive h w).1.node).1.members)) else (bif ((join (Chain.mk vc vc1) (Member.mk (nextP (Chain.mk vc vc1) alive h w).1.node (nextP (Chain.mk vc vc1) alive h w).1.site false)).2 != 0) then ((Sl.mk l.isEmpty l), (Chain.mk vc vc1), 0) else (bif ((cmdCheck (nextP (Chain.mk vc vc1) alive h w).1) != 0) then ((Sl.mk l.isEmpty l), (Chain.mk vc vc1), 0) else allP_l0 alive h w nn (l ++ [(nextP (Chain.mk vc vc1) alive h w).1]) (join (Chain.mk vc vc1) (Member.mk (nextP (Chain.mk vc vc1) alive h w).1.node (nextP (Chain.mk vc vc1) alive h w).1.site false)).1.epoch (join (Chain.mk vc vc1) (Member.mk (nextP (Chain.mk vc vc1) alive h w).1.node (nextP (Chain.mk vc vc1) alive h w).1.site false)).1.members)))))))
def allP (c : Chain) (alive : Int) (h : (Nat → Int)) (w : (Nat → Int)) : (Sl Command) × Chain × Int :=
  allP_l0 alive h w ((planM alive c.members.D) + 1) [] c.epoch c.members
theorem allP_calls (c : Chain) (alive : Int) (h : (Nat → Int)) (w : (Nat → Int)) (hn : c.members.nil = true → c.members.D = []) (ha : 0 ≤ alive ∧ alive < 18446744073709551616) (hl1 : c.members.D.length ≤ 1000000) : PCalls Try.prog 13 [.agg [.pv (.lit (.int .i64 c.epoch)), sS (some c.members.nil) eMember c.members.D], .pv (.lit (.int .u64 alive)), .agg [.pv (.lit (.int .i64 (h 0))), .pv (.lit (.int .i64 (h 1))), .pv (.lit (.int .i64 (h 2))), .pv (.lit (.int .i64 (h 3))), .pv (.lit (.int .i64 (h 4))), .pv (.lit (.int .i64 (h 5)))], .agg [.pv (.lit (.int .i64 (w 0))), .pv (.lit (.int .i64 (w 1))), .pv (.lit (.int .i64 (w 2)))]] (.tup [sS (some (allP c alive h w).1.nil) eCommand ((allP c alive h w).1.D), .agg [.pv (.lit (.int .i64 ((allP c alive h w).2.1.epoch))), sS (some (allP c alive h w).2.1.members.nil) eMember ((allP c alive h w).2.1.members.D)], .pv (.lit (.int .i64 ((allP c alive h w).2.2)))]) := by
 generalize hR : allP c alive h w = R
 refine PCalls.of_body tabOk Try.func13 rfl rfl rfl rfl rfl mixed fun E hP C hI => ?_
 refine Awp.consP C ?_
 refine rvc_un (rexec_prim C (δ := { v := .ptr 4 0, new := [(4, .cells [.pv (.lit (.int .i64 c.epoch)), sS (some c.members.nil) eMember c.members.D])] }) rfl rfl rfl rfl trivial rfl ?_)
 refine rvc_un (rexec_prim C (δ := { v := .ptr 6 0, new := [(6, .cells [.pv (.lit (.int .i64 (h 0))), .pv (.lit (.int .i64 (h 1))), .pv (.lit (.int .i64 (h 2))), .pv (.lit (.int .i64 (h 3))), .pv (.lit (.int .i64 (h 4))), .pv (.lit (.int .i64 (h 5)))])] }) rfl rfl rfl rfl trivial rfl ?_)
 refine rvc_un (rexec_prim C (δ := { v := .ptr 7 0, new := [(7, .cells [.pv (.lit (.int .i64 (w 0))), .pv (.lit (.int .i64 (w 1))), .pv (.lit (.int .i64 (w 2)))])] }) rfl rfl rfl rfl trivial rfl ?_)
 refine rvP C (sS (some true) eCommand []) ?_
 refine rvc_un (rexec_prim C (δ := { v := .ptr 9 0, new := [(9, .cells [.pv (.lit (.int .i64 0)), sS (some true) eMember []])] }) rfl rfl rfl rfl trivial rfl ?_)
 refine rvP C (.pv (.lit (.int .i64 0))) ?_
 refine rvc_nil ?_
 refine Awp.consP C ?_
 refine rvP C (sS (some true) eCommand []) ?_
 refine rvc_nil ?_
 refine Awp.block ?_
 refine Awp.forM (σ := ((List Command)) × Int × ((Sl Member))) (fun v => [(1, .pv (.lit (.int .u64 alive))), (4, .ptr 4 0), (6, .ptr 6 0), (7, .ptr 7 0), (9, .ptr 9 0), (11, grow 900 eCommand v.1)]) (fun v => (growH 900 eCommand v.1 ++ ([(4, .cells [.pv (.lit (.int .i64 v.2.1)), sS (some v.2.2.nil) eMember v.2.2.D]), (6, .cells [.pv (.lit (.int .i64 (h 0))), .pv (.lit (.int .i64 (h 1))), .pv (.lit (.int .i64 (h 2))), .pv (.lit (.int .i64 (h 3))), .pv (.lit (.int .i64 (h 4))), .pv (.lit (.int .i64 (h 5)))]), (7, .cells [.pv (.lit (.int .i64 (w 0))), .pv (.lit (.int .i64 (w 1))), .pv (.lit (.int .i64 (w 2)))]), (9, .cells [.pv (.lit (.int .i64 0)), sS (some true) eMember []])]))) [4, 6, 7, 9, 900] (fun n v => (planM alive v.2.2.D) ≤ n ∧ allP_l0 alive h w (n + 1) v.1 v.2.1 v.2.2 = R ∧ ((v.2.2.nil = true → v.2.2.D = []) ∧ v.2.2.D.length ≤ 1000000 ∧ v.1.length + planM alive v.2.2.D ≤ 2000000)) ((planM alive c.members.D)) ([], c.epoch, c.members) ?_ ?_ (fun n_ v h1 => ?_)
 · exact ⟨Nat.le_refl _, hR, ⟨hn, hl1, (by have := planM_le alive c.members.D; show 0 + planM alive c.members.D ≤ 2000000; omega)⟩⟩
 · exact ⟨fun b => b, WeakerR.ofL (Ks := [4, 6, 7, 9, 900]) hI ⟨⟨rfl, rfl⟩, ⟨rfl, rfl⟩, ⟨rfl, rfl⟩, ⟨rfl, rfl⟩, ⟨rfl, rfl⟩, ⟨rfl, rfl⟩, trivial⟩ (okH_grow (fun hne => absurd rfl hne) rfl rfl (okH_cons rfl rfl rfl rfl (okH_cons rfl rfl rfl rfl (okH_cons rfl rfl rfl rfl (okH_cons rfl rfl rfl rfl (okH_nil)))))) rfl⟩
 obtain ⟨l, vc, vc1⟩ := v
 obtain ⟨hm_, hR, ⟨hVn, hVl, hVm⟩⟩ := h1
 replace hm_ : (planM alive vc1.D) ≤ n_ := hm_
 replace hVn : vc1.nil = true → vc1.D = [] := hVn
 replace hVl : vc1.D.length ≤ 1000000 := hVl
 replace hVm : l.length + planM alive vc1.D ≤ 2000000 := hVm
 by_cases h3 : l = []
 ·
  refine Awp.wordsR [(1, .pv (.lit (.int .u64 alive))), (4, .ptr 4 0), (6, .ptr 6 0), (7, .ptr 7 0), (9, .ptr 9 0), (11, sS (some l.isEmpty) eCommand l)] [(4, .cells [.pv (.lit (.int .i64 vc)), sS (some vc1.nil) eMember vc1.D]), (6, .cells [.pv (.lit (.int .i64 (h 0))), .pv (.lit (.int .i64 (h 1))), .pv (.lit (.int .i64 (h 2))), .pv (.lit (.int .i64 (h 3))), .pv (.lit (.int .i64 (h 4))), .pv (.lit (.int .i64 (h 5)))]), (7, .cells [.pv (.lit (.int .i64 (w 0))), .pv (.lit (.int .i64 (w 1))), .pv (.lit (.int .i64 (w 2)))]), (9, .cells [.pv (.lit (.int .i64 0)), sS (some true) eMember []])] [4, 6, 7, 9] (WeakerR.ofL (Ks := [4, 6, 7, 9]) hI ⟨⟨rfl, rfl⟩, ⟨rfl, rfl⟩, ⟨rfl, rfl⟩, ⟨rfl, rfl⟩, ⟨rfl, rfl⟩, ⟨(by exact grow_at_nil (b := 900) (e := eCommand) (l := l) rfl h3), rfl⟩, trivial⟩ (okH_cons (look_nil h3 rfl) rfl rfl rfl (okH_cons (look_nil h3 rfl) rfl rfl rfl (okH_cons (look_nil h3 rfl) rfl rfl rfl (okH_cons (look_nil h3 rfl) rfl rfl rfl (okH_nil))))) rfl) ?_
  refine Awp.block ?_
  refine Awp.seq ?_
  refine Awp.consP C ?_
  refine rvP C (.agg [.pv (.lit (.int .i64 vc)), sS (some vc1.nil) eMember vc1.D]) ?_
  refine rvc_un (rexec_call hP C rfl rfl rfl (check_calls (Chain.mk vc vc1) (by show vc1.D.length ≤ 9223372036854775807; omega)) ?_)
  refine rvP C (.pv (.lit (.bool ((check (Chain.mk vc vc1)) == 0)))) ?_
  refine rvc_nil ?_
  refine Awp.cond (b := ((check (Chain.mk vc vc1)) == 0)) rfl (fun h4 => ?_) (fun h4 => ?_)
  ·
   replace hR := of_true h4 hR
   refine Awp.regionP C ?_
   refine rvP C (.agg [.pv (.lit (.int .i64 vc)), sS (some vc1.nil) eMember vc1.D]) ?_
   refine rvP C (.pv (.lit (.int .u64 alive))) ?_
   obtain ⟨ra, hq_ra⟩ : ∃ q_, q_ = (readyAll (Chain.mk vc vc1) alive) := ⟨_, rfl⟩
   have hc_ra := (readyAll_calls (Chain.mk vc vc1) alive hVn (by show vc1.D.length ≤ 1000000; have := check_len (c := (Chain.mk vc vc1)); have := check_le6 (c := (Chain.mk vc vc1)); have := beq_iff_eq.1 h4; omega))
   first | rw [← hq_ra] at hR hc_ra | (unfold allP at hR; rw [← hq_ra] at hR hc_ra) | (unfold allP_l0 at hR; rw [← hq_ra] at hR hc_ra)
   have hf0_ra := readyAll_hn (Chain.mk vc vc1) alive hVn
   rw [← hq_ra] at hf0_ra
   have hf1_ra := readyAll_le (m := 1000000) (c := (Chain.mk vc vc1)) alive hVl
   rw [← hq_ra] at hf1_ra
   refine rvc_un (rexec_call hP C rfl rfl rfl hc_ra ?_)
   refine rvc_un (rexec_prim C (δ := { v := .undef, wr := [(4, some (.cells [.pv (.lit (.int .i64 ra.epoch)), sS (some ra.members.nil) eMember ra.members.D]))] }) rfl rfl rfl rfl trivial rfl ?_)
   refine rvc_nil ?_
   refine Awp.consP C ?_
   refine rvP C (.agg [.pv (.lit (.int .i64 ra.epoch)), sS (some ra.members.nil) eMember ra.members.D]) ?_
   refine rvP C (.pv (.lit (.int .u64 alive))) ?_
   refine rvP C (.agg [.pv (.lit (.int .i64 (h 0))), .pv (.lit (.int .i64 (h 1))), .pv (.lit (.int .i64 (h 2))), .pv (.lit (.int .i64 (h 3))), .pv (.lit (.int .i64 (h 4))), .pv (.lit (.int .i64 (h 5)))]) ?_
   refine rvP C (.agg [.pv (.lit (.int .i64 (w 0))), .pv (.lit (.int .i64 (w 1))), .pv (.lit (.int .i64 (w 2)))]) ?_
   obtain ⟨nx, hq_nx⟩ : ∃ q_, q_ = (nextP ra alive h w) := ⟨_, rfl⟩
   have hc_nx := (nextP_calls ra alive h w (by assumption) (by show ra.members.D.length ≤ 1000000; have := check_len (c := (Chain.mk vc vc1)); have := check_le6 (c := (Chain.mk vc vc1)); have := beq_iff_eq.1 h4; omega))
   first | rw [← hq_nx] at hR hc_nx | (unfold allP at hR; rw [← hq_nx] at hR hc_nx) | (unfold allP_l0 at hR; rw [← hq_nx] at hR hc_nx)
   refine rvc_un (rexec_call hP C rfl rfl rfl hc_nx ?_)
   refine rvP C (.tup [.agg [.pv (.lit (.int .i64 nx.1.kind)), .pv (.lit (.int .i64 nx.1.node)), .pv (.lit (.int .i64 nx.1.site)), .pv (.lit (.int .i64 nx.1.epoch))], .pv (.lit (.bool nx.2.1)), .pv (.lit (.int .i64 nx.2.2))]) ?_
   refine rvP C (.agg [.pv (.lit (.int .i64 nx.1.kind)), .pv (.lit (.int .i64 nx.1.node)), .pv (.lit (.int .i64 nx.1.site)), .pv (.lit (.int .i64 nx.1.epoch))]) ?_
   refine rvP C (.pv (.lit (.bool nx.2.1))) ?_
   refine rvP C (.pv (.lit (.int .i64 nx.2.2))) ?_
   refine rvc_un (rexec_prim C (δ := { v := .ptr 12 0, new := [(12, .cells [.pv (.lit (.int .i64 0)), .pv (.lit (.int .i64 0)), .pv (.lit (.int .i64 0)), .pv (.lit (.int .i64 0))])] }) rfl rfl rfl rfl trivial rfl ?_)
   refine rvc_un (rexec_prim C (δ := { v := .undef, wr := [(12, some (.cells [.pv (.lit (.int .i64 nx.1.kind)), .pv (.lit (.int .i64 nx.1.node)), .pv (.lit (.int .i64 nx.1.site)), .pv (.lit (.int .i64 nx.1.epoch))]))] }) rfl rfl rfl rfl trivial rfl ?_)
   refine rvP C (.pv (.lit (.bool nx.2.1))) ?_
   refine rvP C (.pv (.lit (.int .i64 nx.2.2))) ?_
   refine rvc_nil ?_
   refine Awp.seq ?_
   refine Awp.consP C ?_
   refine rvP C (.pv (.lit (.int .i64 nx.2.2))) ?_
   refine rvP C (.pv (.lit (.bool (nx.2.2 != 0)))) ?_
   refine rvc_nil ?_
   refine Awp.cond (b := (nx.2.2 != 0)) rfl (fun h5 => ?_) (fun h5 => ?_)
   ·
    replace hR := of_true h5 hR
    refine Awp.consP C ?_
    refine rvP C (.agg [.pv (.lit (.int .i64 0)), sS (some true) eMember []]) ?_
    refine rvP C (.pv (.lit (.int .i64 nx.2.2))) ?_
    refine rvP C (sS (some true) eCommand []) ?_
    refine rvc_un (rexec_prim C (δ := { v := .undef, wr := [(9, some (.cells [.pv (.lit (.int .i64 0)), sS (some true) eMember []]))] }) rfl rfl rfl rfl trivial rfl ?_)
    refine rvP C (.pv (.lit (.int .i64 nx.2.2))) ?_
    refine rvc_nil ?_
    refine Awp.ret ?_
    subst hR
    exact ⟨.inl rfl, rfl⟩
   ·
    replace hR := of_false h5 hR
    refine Awp.skip ?_
    refine Awp.seq ?_
    refine Awp.consP C ?_
    refine rvP C (.pv (.lit (.bool nx.2.1))) ?_
    refine rvP C (.pv (.lit (.bool (!nx.2.1)))) ?_
    refine rvP C (.pv (.lit (.bool (!nx.2.1)))) ?_
    refine rvc_case 37 (!nx.2.1) rfl (fun h6 => ?_) (fun h6 => ?_)
    ·
     replace hR := of_true h6 hR
     refine rvS ?_
     refine rvS ?_
     refine rvS ?_
     refine rvP C (.pv (.lit (.bool true))) ?_
     refine rvc_nil ?_
     refine Awp.condT (b := true) rfl rfl ?_
     refine Awp.consP C ?_
     refine rvP C (sS (some l.isEmpty) eCommand l) ?_
     refine rvP C (.agg [.pv (.lit (.int .i64 ra.epoch)), sS (some ra.members.nil) eMember ra.members.D]) ?_
     refine rvP C (sS (some l.isEmpty) eCommand l) ?_
     refine rvc_un (rexec_prim C (δ := { v := .undef, wr := [(9, some (.cells [.pv (.lit (.int .i64 ra.epoch)), sS (some ra.members.nil) eMember ra.members.D]))] }) rfl rfl rfl rfl trivial rfl ?_)
     refine rvP C (.pv (.lit (.int .i64 0))) ?_
     refine rvc_nil ?_
     refine Awp.ret ?_
     subst hR
     exact ⟨.inl rfl, rfl⟩
    ·
     replace hR := of_false h6 hR
     refine rvO C (.ptr 4 0) ?_
     refine rvO C (.pv (.lit (.int .i64 ra.epoch))) ?_
     refine rvO C (.pv (.lit (.bool (decide (ra.epoch ≥ 1099511627776))))) ?_
     refine rvP C (.pv (.lit (.bool (decide (ra.epoch ≥ 1099511627776))))) ?_
     refine rvc_nil ?_
     refine Awp.cond (b := (decide (ra.epoch ≥ 1099511627776))) rfl (fun h7 => ?_) (fun h7 => ?_)
     ·
      replace hR := of_true h7 hR
      refine Awp.consP C ?_
      refine rvP C (sS (some l.isEmpty) eCommand l) ?_
      refine rvP C (.agg [.pv (.lit (.int .i64 ra.epoch)), sS (some ra.members.nil) eMember ra.members.D]) ?_
      refine rvP C (sS (some l.isEmpty) eCommand l) ?_
      refine rvc_un (rexec_prim C (δ := { v := .undef, wr := [(9, some (.cells [.pv (.lit (.int .i64 ra.epoch)), sS (some ra.members.nil) eMember ra.members.D]))] }) rfl rfl rfl rfl trivial rfl ?_)
      refine rvP C (.pv (.lit (.int .i64 0))) ?_
      refine rvc_nil ?_
      refine Awp.ret ?_
      subst hR
      exact ⟨.inl rfl, rfl⟩
     ·
      replace hR := of_false h7 hR
      refine Awp.skip ?_
      refine Awp.consP C ?_
      refine rvP C (.agg [.pv (.lit (.int .i64 0)), sS (some true) eMember []]) ?_
      refine rvc_un (rexec_prim C (δ := { v := .ptr 15 0, new := [(15, .cells [.pv (.lit (.int .i64 0)), sS (some true) eMember []])] }) rfl rfl rfl rfl trivial rfl ?_)
      refine rvc_un (rexec_prim C (δ := { v := .undef, wr := [(15, some (.cells [.pv (.lit (.int .i64 0)), sS (some true) eMember []]))] }) rfl rfl rfl rfl trivial rfl ?_)
      refine rvc_nil ?_
      refine Awp.seq ?_
      refine Awp.consP C ?_
      refine rvP C (.ptr 12 0) ?_
      refine rvP C (.pv (.lit (.int .i64 nx.1.kind))) ?_
      refine rvP C (.pv (.lit (.bool (nx.1.kind == 1)))) ?_
      refine rvc_nil ?_
      refine Awp.cond (b := (nx.1.kind == 1)) rfl (fun h8 => ?_) (fun h8 => ?_)
      ·
       replace hR := of_true h8 hR
       refine Awp.regionP C ?_
       refine rvP C (.agg [.pv (.lit (.int .i64 ra.epoch)), sS (some ra.members.nil) eMember ra.members.D]) ?_
       refine rvP C (.ptr 12 1) ?_
       refine rvP C (.pv (.lit (.int .i64 nx.1.node))) ?_
       obtain ⟨dr, hq_dr⟩ : ∃ q_, q_ = (drop ra nx.1.node) := ⟨_, rfl⟩
       have hc_dr := (drop_calls ra nx.1.node (by show ra.members.D.length ≤ 1000000; have := check_len (c := (Chain.mk vc vc1)); have := check_le6 (c := (Chain.mk vc vc1)); have := beq_iff_eq.1 h4; have := eq_of_bne_false h5; have := of_decide_eq_false h7; have := beq_iff_eq.1 h8; omega))
       first | rw [← hq_dr] at hR hc_dr | (unfold allP at hR; rw [← hq_dr] at hR hc_dr) | (unfold allP_l0 at hR; rw [← hq_dr] at hR hc_dr)
       refine rvc_un (rexec_call hP C rfl rfl rfl hc_dr ?_)
       refine rvP C (.tup [.agg [.pv (.lit (.int .i64 dr.1.epoch)), sS (some dr.1.members.nil) eMember dr.1.members.D], .pv (.lit (.int .i64 dr.2))]) ?_
       refine rvP C (.agg [.pv (.lit (.int .i64 dr.1.epoch)), sS (some dr.1.members.nil) eMember dr.1.members.D]) ?_
       refine rvP C (.pv (.lit (.int .i64 dr.2))) ?_
       refine rvc_un (rexec_prim C (δ := { v := .undef, wr := [(15, some (.cells [.pv (.lit (.int .i64 dr.1.epoch)), sS (some dr.1.members.nil) eMember dr.1.members.D]))] }) rfl rfl rfl rfl trivial rfl ?_)
       refine rvP C (.pv (.lit (.int .i64 dr.2))) ?_
       refine rvc_nil ?_
       refine Awp.seq ?_
       refine Awp.consP C ?_
       refine rvP C (.pv (.lit (.int .i64 dr.2))) ?_
       refine rvP C (.pv (.lit (.bool (dr.2 != 0)))) ?_
       refine rvP C (.pv (.lit (.bool (dr.2 != 0)))) ?_
       refine rvc_case 67 (dr.2 != 0) rfl (fun h9 => ?_) (fun h9 => ?_)
       ·
        replace hR := of_true h9 hR
        refine rvS ?_
        refine rvS ?_
        refine rvS ?_
        refine rvP C (.pv (.lit (.bool true))) ?_
        refine rvc_nil ?_
        refine Awp.condT (b := true) rfl rfl ?_
        refine Awp.consP C ?_
        refine rvP C (sS (some l.isEmpty) eCommand l) ?_
        refine rvP C (.agg [.pv (.lit (.int .i64 ra.epoch)), sS (some ra.members.nil) eMember ra.members.D]) ?_
        refine rvP C (sS (some l.isEmpty) eCommand l) ?_
        refine rvc_un (rexec_prim C (δ := { v := .undef, wr := [(9, some (.cells [.pv (.lit (.int .i64 ra.epoch)), sS (some ra.members.nil) eMember ra.members.D]))] }) rfl rfl rfl rfl trivial rfl ?_)
        refine rvP C (.pv (.lit (.int .i64 0))) ?_
        refine rvc_nil ?_
        refine Awp.ret ?_
        subst hR
        exact ⟨.inl rfl, rfl⟩
       ·
        replace hR := of_false h9 hR
        refine rvO C (.agg [.pv (.lit (.int .i64 nx.1.kind)), .pv (.lit (.int .i64 nx.1.node)), .pv (.lit (.int .i64 nx.1.site)), .pv (.lit (.int .i64 nx.1.epoch))]) ?_
        refine rvc_open rfl rfl rfl (rexec_call hP C rfl rfl rfl (cmdCheck_calls nx.1) ?_)
        refine rvO C (.pv (.lit (.bool ((cmdCheck nx.1) != 0)))) ?_
        refine rvP C (.pv (.lit (.bool ((cmdCheck nx.1) != 0)))) ?_
        refine rvc_nil ?_
        refine Awp.cond (b := ((cmdCheck nx.1) != 0)) rfl (fun h10 => ?_) (fun h10 => ?_)
        ·
         replace hR := of_true h10 hR
         refine Awp.consP C ?_
         refine rvP C (sS (some l.isEmpty) eCommand l) ?_
         refine rvP C (.agg [.pv (.lit (.int .i64 ra.epoch)), sS (some ra.members.nil) eMember ra.members.D]) ?_
         refine rvP C (sS (some l.isEmpty) eCommand l) ?_
         refine rvc_un (rexec_prim C (δ := { v := .undef, wr := [(9, some (.cells [.pv (.lit (.int .i64 ra.epoch)), sS (some ra.members.nil) eMember ra.members.D]))] }) rfl rfl rfl rfl trivial rfl ?_)
         refine rvP C (.pv (.lit (.int .i64 0))) ?_
         refine rvc_nil ?_
         refine Awp.ret ?_
         subst hR
         exact ⟨.inl rfl, rfl⟩
        ·
         replace hR := of_false h10 hR
         refine Awp.skip ?_
         refine Awp.region C (fun o => match o.dst with | some 77 => .writes [77, 900] | some 78 => .reads [15] | _ => .pure) (by kernel_rfl) ?_
         refine rvP C (sS (some l.isEmpty) eCommand l) ?_
         refine rvP C (.agg [.pv (.lit (.int .i64 nx.1.kind)), .pv (.lit (.int .i64 nx.1.node)), .pv (.lit (.int .i64 nx.1.site)), .pv (.lit (.int .i64 nx.1.epoch))]) ?_
         refine rvc_un (rexec_buildSliceF C eCommand [nx.1] rfl rfl rfl rfl rfl rfl rfl (by decide) rfl ?_)
         refine rvc_un (rexec_appendG C rfl rfl rfl rfl rfl rfl rfl rfl (fun _ h => by cases h) rfl (en := eCommand) (l := l) (D := [nx.1]) rfl rfl h3 (by rw [h3]; rfl) (by simp) (by have := check_len (c := (Chain.mk vc vc1)); have := check_le6 (c := (Chain.mk vc vc1)); have := beq_iff_eq.1 h4; have := eq_of_bne_false h5; have := of_decide_eq_false h7; have := beq_iff_eq.1 h8; have := eq_of_bne_false h9; have := eq_of_bne_false h10; first | omega | (simp <;> omega)) (by decide) (nn := (l ++ [nx.1]).length) (by simp) ?_)
         refine rvP C (.agg [.pv (.lit (.int .i64 dr.1.epoch)), sS (some dr.1.members.nil) eMember dr.1.members.D]) ?_
         refine rvP C (.sl 77 0 ((l ++ [nx.1]).length) 4 false) ?_
         refine rvc_un (rexec_prim C (δ := { v := .undef, wr := [(4, some (.cells [.pv (.lit (.int .i64 dr.1.epoch)), sS (some dr.1.members.nil) eMember dr.1.members.D]))] }) rfl rfl rfl rfl trivial rfl ?_)
         refine rvc_nil ?_
         have h11 : (planM alive dr.1.members.D) < (planM alive vc1.D) := by first | exact (stepA ha (c := Chain.mk vc vc1) (by assumption) (by assumption) (by assumption) (by assumption) (by assumption) (by assumption)).1 | exact (stepB ha (c := Chain.mk vc vc1) (by assumption) (by assumption) (by assumption) (by assumption) (by assumption) (by assumption)).1 | exact (stepC ha (c := Chain.mk vc vc1) (by assumption) (by assumption) (by assumption)).elim
         obtain ⟨nn, rfl⟩ : ∃ nn, n_ = nn + 1 := ⟨n_ - 1, by omega⟩
         refine ⟨nn, ((l ++ [nx.1]), dr.1.epoch, dr.1.members), by omega, ⟨by show (planM alive dr.1.members.D) ≤ nn; omega, hR, (by have hlt_ := ‹planM _ _ < planM _ _›; first | (have h_ := (stepA ha (c := Chain.mk vc vc1) (by assumption) (by assumption) (by assumption) (by assumption) (by assumption) (by assumption)); exact ⟨h_.2.1, h_.2.2, (by simp only [List.length_append, List.length_cons, List.length_nil]; omega)⟩) | (have h_ := (stepB ha (c := Chain.mk vc vc1) (by assumption) (by assumption) (by assumption) (by assumption) (by assumption) (by assumption)); exact ⟨h_.2.1, h_.2.2, (by simp only [List.length_append, List.length_cons, List.length_nil]; omega)⟩) | exact (stepC ha (c := Chain.mk vc vc1) (by assumption) (by assumption) (by assumption)).elim)⟩, ?_⟩
         · exact ⟨fun b => bif b == 900 then 77 else (fun b => b) b, WeakerR.ofL (Ks := [4, 6, 7, 9, 900]) hI ⟨⟨rfl, rfl⟩, ⟨rfl, rfl⟩, ⟨rfl, rfl⟩, ⟨rfl, rfl⟩, ⟨rfl, rfl⟩, ⟨grow_to rfl rfl app_ne rfl rfl, grow_within rfl⟩, trivial⟩ (okH_grow (fun _ => rfl) rfl rfl (okH_cons rfl rfl rfl rfl (okH_cons rfl rfl rfl rfl (okH_cons rfl rfl rfl rfl (okH_cons rfl rfl rfl rfl (okH_nil)))))) rfl⟩
      ·
       replace hR := of_false h8 hR
       refine Awp.regionP C ?_
       refine rvP C (.agg [.pv (.lit (.int .i64 ra.epoch)), sS (some ra.members.nil) eMember ra.members.D]) ?_
       refine rvP C (.ptr 12 1) ?_
       refine rvP C (.pv (.lit (.int .i64 nx.1.node))) ?_
       refine rvP C (.ptr 12 2) ?_
       refine rvP C (.pv (.lit (.int .i64 nx.1.site))) ?_
       refine rvP C (.agg [.pv (.lit (.int .i64 nx.1.node)), .pv (.lit (.int .i64 nx.1.site)), .pv (.lit (.bool false))]) ?_
       obtain ⟨jo, hq_jo⟩ : ∃ q_, q_ = (join ra (Member.mk nx.1.node nx.1.site false)) := ⟨_, rfl⟩
       have hc_jo := (join_calls ra (Member.mk nx.1.node nx.1.site false) (by assumption) (by show ra.members.D.length ≤ 1000000; have := check_len (c := (Chain.mk vc vc1)); have := check_le6 (c := (Chain.mk vc vc1)); have := beq_iff_eq.1 h4; have := eq_of_bne_false h5; have := of_decide_eq_false h7; have := ne_of_beq_false h8; omega))
       first | rw [← hq_jo] at hR hc_jo | (unfold allP at hR; rw [← hq_jo] at hR hc_jo) | (unfold allP_l0 at hR; rw [← hq_jo] at hR hc_jo)
       refine rvc_un (rexec_call hP C rfl rfl rfl hc_jo ?_)
       refine rvP C (.tup [.agg [.pv (.lit (.int .i64 jo.1.epoch)), sS (some jo.1.members.nil) eMember jo.1.members.D], .pv (.lit (.int .i64 jo.2))]) ?_
       refine rvP C (.agg [.pv (.lit (.int .i64 jo.1.epoch)), sS (some jo.1.members.nil) eMember jo.1.members.D]) ?_
       refine rvP C (.pv (.lit (.int .i64 jo.2))) ?_
       refine rvc_un (rexec_prim C (δ := { v := .undef, wr := [(15, some (.cells [.pv (.lit (.int .i64 jo.1.epoch)), sS (some jo.1.members.nil) eMember jo.1.members.D]))] }) rfl rfl rfl rfl trivial rfl ?_)
       refine rvP C (.pv (.lit (.int .i64 jo.2))) ?_
       refine rvc_nil ?_
       refine Awp.seq ?_
       refine Awp.consP C ?_
       refine rvP C (.pv (.lit (.int .i64 jo.2))) ?_
       refine rvP C (.pv (.lit (.bool (jo.2 != 0)))) ?_
       refine rvP C (.pv (.lit (.bool (jo.2 != 0)))) ?_
       refine rvc_case 67 (jo.2 != 0) rfl (fun h12 => ?_) (fun h12 => ?_)
       ·
        replace hR := of_true h12 hR
        refine rvS ?_
        refine rvS ?_
        refine rvS ?_
        refine rvP C (.pv (.lit (.bool true))) ?_
        refine rvc_nil ?_
        refine Awp.condT (b := true) rfl rfl ?_
        refine Awp.consP C ?_
        refine rvP C (sS (some l.isEmpty) eCommand l) ?_
        refine rvP C (.agg [.pv (.lit (.int .i64 ra.epoch)), sS (some ra.members.nil) eMember ra.members.D]) ?_
        refine rvP C (sS (some l.isEmpty) eCommand l) ?_
        refine rvc_un (rexec_prim C (δ := { v := .undef, wr := [(9, some (.cells [.pv (.lit (.int .i64 ra.epoch)), sS (some ra.members.nil) eMember ra.members.D]))] }) rfl rfl rfl rfl trivial rfl ?_)
        refine rvP C (.pv (.lit (.int .i64 0))) ?_
        refine rvc_nil ?_
        refine Awp.ret ?_
        subst hR
        exact ⟨.inl rfl, rfl⟩
       ·
        replace hR := of_false h12 hR
        refine rvO C (.agg [.pv (.lit (.int .i64 nx.1.kind)), .pv (.lit (.int .i64 nx.1.node)), .pv (.lit (.int .i64 nx.1.site)), .pv (.lit (.int .i64 nx.1.epoch))]) ?_
        refine rvc_open rfl rfl rfl (rexec_call hP C rfl rfl rfl (cmdCheck_calls nx.1) ?_)
        refine rvO C (.pv (.lit (.bool ((cmdCheck nx.1) != 0)))) ?_
        refine rvP C (.pv (.lit (.bool ((cmdCheck nx.1) != 0)))) ?_
        refine rvc_nil ?_
        refine Awp.cond (b := ((cmdCheck nx.1) != 0)) rfl (fun h13 => ?_) (fun h13 => ?_)
        ·
         replace hR := of_true h13 hR
         refine Awp.consP C ?_
         refine rvP C (sS (some l.isEmpty) eCommand l) ?_
         refine rvP C (.agg [.pv (.lit (.int .i64 ra.epoch)), sS (some ra.members.nil) eMember ra.members.D]) ?_
         refine rvP C (sS (some l.isEmpty) eCommand l) ?_
         refine rvc_un (rexec_prim C (δ := { v := .undef, wr := [(9, some (.cells [.pv (.lit (.int .i64 ra.epoch)), sS (some ra.members.nil) eMember ra.members.D]))] }) rfl rfl rfl rfl trivial rfl ?_)
         refine rvP C (.pv (.lit (.int .i64 0))) ?_
         refine rvc_nil ?_
         refine Awp.ret ?_
         subst hR
         exact ⟨.inl rfl, rfl⟩
        ·
         replace hR := of_false h13 hR
         refine Awp.skip ?_
         refine Awp.region C (fun o => match o.dst with | some 77 => .writes [77, 900] | some 78 => .reads [15] | _ => .pure) (by kernel_rfl) ?_
         refine rvP C (sS (some l.isEmpty) eCommand l) ?_
         refine rvP C (.agg [.pv (.lit (.int .i64 nx.1.kind)), .pv (.lit (.int .i64 nx.1.node)), .pv (.lit (.int .i64 nx.1.site)), .pv (.lit (.int .i64 nx.1.epoch))]) ?_
         refine rvc_un (rexec_buildSliceF C eCommand [nx.1] rfl rfl rfl rfl rfl rfl rfl (by decide) rfl ?_)
         refine rvc_un (rexec_appendG C rfl rfl rfl rfl rfl rfl rfl rfl (fun _ h => by cases h) rfl (en := eCommand) (l := l) (D := [nx.1]) rfl rfl h3 (by rw [h3]; rfl) (by simp) (by have := check_len (c := (Chain.mk vc vc1)); have := check_le6 (c := (Chain.mk vc vc1)); have := beq_iff_eq.1 h4; have := eq_of_bne_false h5; have := of_decide_eq_false h7; have := ne_of_beq_false h8; have := eq_of_bne_false h12; have := eq_of_bne_false h13; first | omega | (simp <;> omega)) (by decide) (nn := (l ++ [nx.1]).length) (by simp) ?_)
         refine rvP C (.agg [.pv (.lit (.int .i64 jo.1.epoch)), sS (some jo.1.members.nil) eMember jo.1.members.D]) ?_
         refine rvP C (.sl 77 0 ((l ++ [nx.1]).length) 4 false) ?_
         refine rvc_un (rexec_prim C (δ := { v := .undef, wr := [(4, some (.cells [.pv (.lit (.int .i64 jo.1.epoch)), sS (some jo.1.members.nil) eMember jo.1.members.D]))] }) rfl rfl rfl rfl trivial rfl ?_)
         refine rvc_nil ?_
         have h14 : (planM alive jo.1.members.D) < (planM alive vc1.D) := by first | exact (stepA ha (c := Chain.mk vc vc1) (by assumption) (by assumption) (by assumption) (by assumption) (by assumption) (by assumption)).1 | exact (stepB ha (c := Chain.mk vc vc1) (by assumption) (by assumption) (by assumption) (by assumption) (by assumption) (by assumption)).1 | exact (stepC ha (c := Chain.mk vc vc1) (by assumption) (by assumption) (by assumption)).elim
         obtain ⟨nn, rfl⟩ : ∃ nn, n_ = nn + 1 := ⟨n_ - 1, by omega⟩
         refine ⟨nn, ((l ++ [nx.1]), jo.1.epoch, jo.1.members), by omega, ⟨by show (planM alive jo.1.members.D) ≤ nn; omega, hR, (by have hlt_ := ‹planM _ _ < planM _ _›; first | (have h_ := (stepA ha (c := Chain.mk vc vc1) (by assumption) (by assumption) (by assumption) (by assumption) (by assumption) (by assumption)); exact ⟨h_.2.1, h_.2.2, (by simp only [List.length_append, List.length_cons, List.length_nil]; omega)⟩) | (have h_ := (stepB ha (c := Chain.mk vc vc1) (by assumption) (by assumption) (by assumption) (by assumption) (by assumption) (by assumption)); exact ⟨h_.2.1, h_.2.2, (by simp only [List.length_append, List.length_cons, List.length_nil]; omega)⟩) | exact (stepC ha (c := Chain.mk vc vc1) (by assumption) (by assumption) (by assumption)).elim)⟩, ?_⟩
         · exact ⟨fun b => bif b == 900 then 77 else (fun b => b) b, WeakerR.ofL (Ks := [4, 6, 7, 9, 900]) hI ⟨⟨rfl, rfl⟩, ⟨rfl, rfl⟩, ⟨rfl, rfl⟩, ⟨rfl, rfl⟩, ⟨rfl, rfl⟩, ⟨grow_to rfl rfl app_ne rfl rfl, grow_within rfl⟩, trivial⟩ (okH_grow (fun _ => rfl) rfl rfl (okH_cons rfl rfl rfl rfl (okH_cons rfl rfl rfl rfl (okH_cons rfl rfl rfl rfl (okH_cons rfl rfl rfl rfl (okH_nil)))))) rfl⟩
  ·
   replace hR := of_false h4 hR
   refine Awp.skip ?_
   refine Awp.consP C ?_
   refine rvP C (.agg [.pv (.lit (.int .i64 vc)), sS (some vc1.nil) eMember vc1.D]) ?_
   refine rvP C (.pv (.lit (.int .u64 alive))) ?_
   refine rvP C (.agg [.pv (.lit (.int .i64 (h 0))), .pv (.lit (.int .i64 (h 1))), .pv (.lit (.int .i64 (h 2))), .pv (.lit (.int .i64 (h 3))), .pv (.lit (.int .i64 (h 4))), .pv (.lit (.int .i64 (h 5)))]) ?_
   refine rvP C (.agg [.pv (.lit (.int .i64 (w 0))), .pv (.lit (.int .i64 (w 1))), .pv (.lit (.int .i64 (w 2)))]) ?_
   obtain ⟨nx1, hq_nx1⟩ : ∃ q_, q_ = (nextP (Chain.mk vc vc1) alive h w) := ⟨_, rfl⟩
   have hc_nx1 := (nextP_calls (Chain.mk vc vc1) alive h w (by assumption) (by show vc1.D.length ≤ 1000000; have := check_len (c := (Chain.mk vc vc1)); have := check_le6 (c := (Chain.mk vc vc1)); have := ne_of_beq_false h4; omega))
   first | rw [← hq_nx1] at hR hc_nx1 | (unfold allP at hR; rw [← hq_nx1] at hR hc_nx1) | (unfold allP_l0 at hR; rw [← hq_nx1] at hR hc_nx1)
   refine rvc_un (rexec_call hP C rfl rfl rfl hc_nx1 ?_)
   refine rvP C (.tup [.agg [.pv (.lit (.int .i64 nx1.1.kind)), .pv (.lit (.int .i64 nx1.1.node)), .pv (.lit (.int .i64 nx1.1.site)), .pv (.lit (.int .i64 nx1.1.epoch))], .pv (.lit (.bool nx1.2.1)), .pv (.lit (.int .i64 nx1.2.2))]) ?_
   refine rvP C (.agg [.pv (.lit (.int .i64 nx1.1.kind)), .pv (.lit (.int .i64 nx1.1.node)), .pv (.lit (.int .i64 nx1.1.site)), .pv (.lit (.int .i64 nx1.1.epoch))]) ?_
   refine rvP C (.pv (.lit (.bool nx1.2.1))) ?_
   refine rvP C (.pv (.lit (.int .i64 nx1.2.2))) ?_
   refine rvc_un (rexec_prim C (δ := { v := .ptr 12 0, new := [(12, .cells [.pv (.lit (.int .i64 0)), .pv (.lit (.int .i64 0)), .pv (.lit (.int .i64 0)), .pv (.lit (.int .i64 0))])] }) rfl rfl rfl rfl trivial rfl ?_)
   refine rvc_un (rexec_prim C (δ := { v := .undef, wr := [(12, some (.cells [.pv (.lit (.int .i64 nx1.1.kind)), .pv (.lit (.int .i64 nx1.1.node)), .pv (.lit (.int .i64 nx1.1.site)), .pv (.lit (.int .i64 nx1.1.epoch))]))] }) rfl rfl rfl rfl trivial rfl ?_)
   refine rvP C (.pv (.lit (.bool nx1.2.1))) ?_
   refine rvP C (.pv (.lit (.int .i64 nx1.2.2))) ?_
   refine rvc_nil ?_
   refine Awp.seq ?_
   refine Awp.consP C ?_
   refine rvP C (.pv (.lit (.int .i64 nx1.2.2))) ?_
   refine rvP C (.pv (.lit (.bool (nx1.2.2 != 0)))) ?_
   refine rvc_nil ?_
   refine Awp.cond (b := (nx1.2.2 != 0)) rfl (fun h15 => ?_) (fun h15 => ?_)
   ·
    replace hR := of_true h15 hR
    refine Awp.consP C ?_
    refine rvP C (.agg [.pv (.lit (.int .i64 0)), sS (some true) eMember []]) ?_
    refine rvP C (.pv (.lit (.int .i64 nx1.2.2))) ?_
    refine rvP C (sS (some true) eCommand []) ?_
    refine rvc_un (rexec_prim C (δ := { v := .undef, wr := [(9, some (.cells [.pv (.lit (.int .i64 0)), sS (some true) eMember []]))] }) rfl rfl rfl rfl trivial rfl ?_)
    refine rvP C (.pv (.lit (.int .i64 nx1.2.2))) ?_
    refine rvc_nil ?_
    refine Awp.ret ?_
    subst hR
    exact ⟨.inl rfl, rfl⟩
   ·
    replace hR := of_false h15 hR
    refine Awp.skip ?_
    refine Awp.seq ?_
    refine Awp.consP C ?_
    refine rvP C (.pv (.lit (.bool nx1.2.1))) ?_
    refine rvP C (.pv (.lit (.bool (!nx1.2.1)))) ?_
    refine rvP C (.pv (.lit (.bool (!nx1.2.1)))) ?_
    refine rvc_case 37 (!nx1.2.1) rfl (fun h16 => ?_) (fun h16 => ?_)
    ·
     replace hR := of_true h16 hR
     refine rvS ?_
     refine rvS ?_
     refine rvS ?_
     refine rvP C (.pv (.lit (.bool true))) ?_
     refine rvc_nil ?_
     refine Awp.condT (b := true) rfl rfl ?_
     refine Awp.consP C ?_
     refine rvP C (sS (some l.isEmpty) eCommand l) ?_
     refine rvP C (.agg [.pv (.lit (.int .i64 vc)), sS (some vc1.nil) eMember vc1.D]) ?_
     refine rvP C (sS (some l.isEmpty) eCommand l) ?_
     refine rvc_un (rexec_prim C (δ := { v := .undef, wr := [(9, some (.cells [.pv (.lit (.int .i64 vc)), sS (some vc1.nil) eMember vc1.D]))] }) rfl rfl rfl rfl trivial rfl ?_)
     refine rvP C (.pv (.lit (.int .i64 0))) ?_
     refine rvc_nil ?_
     refine Awp.ret ?_
     subst hR
     exact ⟨.inl rfl, rfl⟩
    ·
     replace hR := of_false h16 hR
     refine rvO C (.ptr 4 0) ?_
     refine rvO C (.pv (.lit (.int .i64 vc))) ?_
     refine rvO C (.pv (.lit (.bool (decide (vc ≥ 1099511627776))))) ?_
     refine rvP C (.pv (.lit (.bool (decide (vc ≥ 1099511627776))))) ?_
     refine rvc_nil ?_
     refine Awp.cond (b := (decide (vc ≥ 1099511627776))) rfl (fun h17 => ?_) (fun h17 => ?_)
     ·
      replace hR := of_true h17 hR
      refine Awp.consP C ?_
      refine rvP C (sS (some l.isEmpty) eCommand l) ?_
      refine rvP C (.agg [.pv (.lit (.int .i64 vc)), sS (some vc1.nil) eMember vc1.D]) ?_
      refine rvP C (sS (some l.isEmpty) eCommand l) ?_
      refine rvc_un (rexec_prim C (δ := { v := .undef, wr := [(9, some (.cells [.pv (.lit (.int .i64 vc)), sS (some vc1.nil) eMember vc1.D]))] }) rfl rfl rfl rfl trivial rfl ?_)
      refine rvP C (.pv (.lit (.int .i64 0))) ?_
      refine rvc_nil ?_
      refine Awp.ret ?_
      subst hR
      exact ⟨.inl rfl, rfl⟩
     ·
      replace hR := of_false h17 hR
      refine Awp.skip ?_
      refine Awp.consP C ?_
      refine rvP C (.agg [.pv (.lit (.int .i64 0)), sS (some true) eMember []]) ?_
      refine rvc_un (rexec_prim C (δ := { v := .ptr 15 0, new := [(15, .cells [.pv (.lit (.int .i64 0)), sS (some true) eMember []])] }) rfl rfl rfl rfl trivial rfl ?_)
      refine rvc_un (rexec_prim C (δ := { v := .undef, wr := [(15, some (.cells [.pv (.lit (.int .i64 0)), sS (some true) eMember []]))] }) rfl rfl rfl rfl trivial rfl ?_)
      refine rvc_nil ?_
      refine Awp.seq ?_
      refine Awp.consP C ?_
      refine rvP C (.ptr 12 0) ?_
      refine rvP C (.pv (.lit (.int .i64 nx1.1.kind))) ?_
      refine rvP C (.pv (.lit (.bool (nx1.1.kind == 1)))) ?_
      refine rvc_nil ?_
      refine Awp.cond (b := (nx1.1.kind == 1)) rfl (fun h18 => ?_) (fun h18 => ?_)
      ·
       replace hR := of_true h18 hR
       refine Awp.regionP C ?_
       refine rvP C (.agg [.pv (.lit (.int .i64 vc)), sS (some vc1.nil) eMember vc1.D]) ?_
       refine rvP C (.ptr 12 1) ?_
       refine rvP C (.pv (.lit (.int .i64 nx1.1.node))) ?_
       obtain ⟨dr1, hq_dr1⟩ : ∃ q_, q_ = (drop (Chain.mk vc vc1) nx1.1.node) := ⟨_, rfl⟩
       have hc_dr1 := (drop_calls (Chain.mk vc vc1) nx1.1.node (by show vc1.D.length ≤ 1000000; have := check_len (c := (Chain.mk vc vc1)); have := check_le6 (c := (Chain.mk vc vc1)); have := ne_of_beq_false h4; have := eq_of_bne_false h15; have := of_decide_eq_false h17; have := beq_iff_eq.1 h18; omega))
       first | rw [← hq_dr1] at hR hc_dr1 | (unfold allP at hR; rw [← hq_dr1] at hR hc_dr1) | (unfold allP_l0 at hR; rw [← hq_dr1] at hR hc_dr1)
       refine rvc_un (rexec_call hP C rfl rfl rfl hc_dr1 ?_)
       refine rvP C (.tup [.agg [.pv (.lit (.int .i64 dr1.1.epoch)), sS (some dr1.1.members.nil) eMember dr1.1.members.D], .pv (.lit (.int .i64 dr1.2))]) ?_
       refine rvP C (.agg [.pv (.lit (.int .i64 dr1.1.epoch)), sS (some dr1.1.members.nil) eMember dr1.1.members.D]) ?_
       refine rvP C (.pv (.lit (.int .i64 dr1.2))) ?_
       refine rvc_un (rexec_prim C (δ := { v := .undef, wr := [(15, some (.cells [.pv (.lit (.int .i64 dr1.1.epoch)), sS (some dr1.1.members.nil) eMember dr1.1.members.D]))] }) rfl rfl rfl rfl trivial rfl ?_)
       refine rvP C (.pv (.lit (.int .i64 dr1.2))) ?_
       refine rvc_nil ?_
       refine Awp.seq ?_
       refine Awp.consP C ?_
       refine rvP C (.pv (.lit (.int .i64 dr1.2))) ?_
       refine rvP C (.pv (.lit (.bool (dr1.2 != 0)))) ?_
       refine rvP C (.pv (.lit (.bool (dr1.2 != 0)))) ?_
       refine rvc_case 67 (dr1.2 != 0) rfl (fun h19 => ?_) (fun h19 => ?_)
       ·
        replace hR := of_true h19 hR
        refine rvS ?_
        refine rvS ?_
        refine rvS ?_
        refine rvP C (.pv (.lit (.bool true))) ?_
        refine rvc_nil ?_
        refine Awp.condT (b := true) rfl rfl ?_
        refine Awp.consP C ?_
        refine rvP C (sS (some l.isEmpty) eCommand l) ?_
        refine rvP C (.agg [.pv (.lit (.int .i64 vc)), sS (some vc1.nil) eMember vc1.D]) ?_
        refine rvP C (sS (some l.isEmpty) eCommand l) ?_
        refine rvc_un (rexec_prim C (δ := { v := .undef, wr := [(9, some (.cells [.pv (.lit (.int .i64 vc)), sS (some vc1.nil) eMember vc1.D]))] }) rfl rfl rfl rfl trivial rfl ?_)
        refine rvP C (.pv (.lit (.int .i64 0))) ?_
        refine rvc_nil ?_
        refine Awp.ret ?_
        subst hR
        exact ⟨.inl rfl, rfl⟩
       ·
        replace hR := of_false h19 hR
        refine rvO C (.agg [.pv (.lit (.int .i64 nx1.1.kind)), .pv (.lit (.int .i64 nx1.1.node)), .pv (.lit (.int .i64 nx1.1.site)), .pv (.lit (.int .i64 nx1.1.epoch))]) ?_
        refine rvc_open rfl rfl rfl (rexec_call hP C rfl rfl rfl (cmdCheck_calls nx1.1) ?_)
        refine rvO C (.pv (.lit (.bool ((cmdCheck nx1.1) != 0)))) ?_
        refine rvP C (.pv (.lit (.bool ((cmdCheck nx1.1) != 0)))) ?_
        refine rvc_nil ?_
        refine Awp.cond (b := ((cmdCheck nx1.1) != 0)) rfl (fun h20 => ?_) (fun h20 => ?_)
        ·
         replace hR := of_true h20 hR
         refine Awp.consP C ?_
         refine rvP C (sS (some l.isEmpty) eCommand l) ?_
         refine rvP C (.agg [.pv (.lit (.int .i64 vc)), sS (some vc1.nil) eMember vc1.D]) ?_
         refine rvP C (sS (some l.isEmpty) eCommand l) ?_
         refine rvc_un (rexec_prim C (δ := { v := .undef, wr := [(9, some (.cells [.pv (.lit (.int .i64 vc)), sS (some vc1.nil) eMember vc1.D]))] }) rfl rfl rfl rfl trivial rfl ?_)
         refine rvP C (.pv (.lit (.int .i64 0))) ?_
         refine rvc_nil ?_
         refine Awp.ret ?_
         subst hR
         exact ⟨.inl rfl, rfl⟩
        ·
         replace hR := of_false h20 hR
         refine Awp.skip ?_
         refine Awp.region C (fun o => match o.dst with | some 77 => .writes [77, 900] | some 78 => .reads [15] | _ => .pure) (by kernel_rfl) ?_
         refine rvP C (sS (some l.isEmpty) eCommand l) ?_
         refine rvP C (.agg [.pv (.lit (.int .i64 nx1.1.kind)), .pv (.lit (.int .i64 nx1.1.node)), .pv (.lit (.int .i64 nx1.1.site)), .pv (.lit (.int .i64 nx1.1.epoch))]) ?_
         refine rvc_un (rexec_buildSliceF C eCommand [nx1.1] rfl rfl rfl rfl rfl rfl rfl (by decide) rfl ?_)
         refine rvc_un (rexec_appendG C rfl rfl rfl rfl rfl rfl rfl rfl (fun _ h => by cases h) rfl (en := eCommand) (l := l) (D := [nx1.1]) rfl rfl h3 (by rw [h3]; rfl) (by simp) (by have := check_len (c := (Chain.mk vc vc1)); have := check_le6 (c := (Chain.mk vc vc1)); have := ne_of_beq_false h4; have := eq_of_bne_false h15; have := of_decide_eq_false h17; have := beq_iff_eq.1 h18; have := eq_of_bne_false h19; have := eq_of_bne_false h20; first | omega | (simp <;> omega)) (by decide) (nn := (l ++ [nx1.1]).length) (by simp) ?_)
         refine rvP C (.agg [.pv (.lit (.int .i64 dr1.1.epoch)), sS (some dr1.1.members.nil) eMember dr1.1.members.D]) ?_
         refine rvP C (.sl 77 0 ((l ++ [nx1.1]).length) 4 false) ?_
         refine rvc_un (rexec_prim C (δ := { v := .undef, wr := [(4, some (.cells [.pv (.lit (.int .i64 dr1.1.epoch)), sS (some dr1.1.members.nil) eMember dr1.1.members.D]))] }) rfl rfl rfl rfl trivial rfl ?_)
         refine rvc_nil ?_
         have h21 : (planM alive dr1.1.members.D) < (planM alive vc1.D) := by first | exact (stepA ha (c := Chain.mk vc vc1) (by assumption) (by assumption) (by assumption) (by assumption) (by assumption) (by assumption)).1 | exact (stepB ha (c := Chain.mk vc vc1) (by assumption) (by assumption) (by assumption) (by assumption) (by assumption) (by assumption)).1 | exact (stepC ha (c := Chain.mk vc vc1) (by assumption) (by assumption) (by assumption)).elim
         obtain ⟨nn, rfl⟩ : ∃ nn, n_ = nn + 1 := ⟨n_ - 1, by omega⟩
         refine ⟨nn, ((l ++ [nx1.1]), dr1.1.epoch, dr1.1.members), by omega, ⟨by show (planM alive dr1.1.members.D) ≤ nn; omega, hR, (by have hlt_ := ‹planM _ _ < planM _ _›; first | (have h_ := (stepA ha (c := Chain.mk vc vc1) (by assumption) (by assumption) (by assumption) (by assumption) (by assumption) (by assumption)); exact ⟨h_.2.1, h_.2.2, (by simp only [List.length_append, List.length_cons, List.length_nil]; omega)⟩) | (have h_ := (stepB ha (c := Chain.mk vc vc1) (by assumption) (by assumption) (by assumption) (by assumption) (by assumption) (by assumption)); exact ⟨h_.2.1, h_.2.2, (by simp only [List.length_append, List.length_cons, List.length_nil]; omega)⟩) | exact (stepC ha (c := Chain.mk vc vc1) (by assumption) (by assumption) (by assumption)).elim)⟩, ?_⟩
         · exact ⟨fun b => bif b == 900 then 77 else (fun b => b) b, WeakerR.ofL (Ks := [4, 6, 7, 9, 900]) hI ⟨⟨rfl, rfl⟩, ⟨rfl, rfl⟩, ⟨rfl, rfl⟩, ⟨rfl, rfl⟩, ⟨rfl, rfl⟩, ⟨grow_to rfl rfl app_ne rfl rfl, grow_within rfl⟩, trivial⟩ (okH_grow (fun _ => rfl) rfl rfl (okH_cons rfl rfl rfl rfl (okH_cons rfl rfl rfl rfl (okH_cons rfl rfl rfl rfl (okH_cons rfl rfl rfl rfl (okH_nil)))))) rfl⟩
      ·
       replace hR := of_false h18 hR
       refine Awp.regionP C ?_
       refine rvP C (.agg [.pv (.lit (.int .i64 vc)), sS (some vc1.nil) eMember vc1.D]) ?_
       refine rvP C (.ptr 12 1) ?_
       refine rvP C (.pv (.lit (.int .i64 nx1.1.node))) ?_
       refine rvP C (.ptr 12 2) ?_
       refine rvP C (.pv (.lit (.int .i64 nx1.1.site))) ?_
       refine rvP C (.agg [.pv (.lit (.int .i64 nx1.1.node)), .pv (.lit (.int .i64 nx1.1.site)), .pv (.lit (.bool false))]) ?_
       obtain ⟨jo1, hq_jo1⟩ : ∃ q_, q_ = (join (Chain.mk vc vc1) (Member.mk nx1.1.node nx1.1.site false)) := ⟨_, rfl⟩
       have hc_jo1 := (join_calls (Chain.mk vc vc1) (Member.mk nx1.1.node nx1.1.site false) (by assumption) (by show vc1.D.length ≤ 1000000; have := check_len (c := (Chain.mk vc vc1)); have := check_le6 (c := (Chain.mk vc vc1)); have := ne_of_beq_false h4; have := eq_of_bne_false h15; have := of_decide_eq_false h17; have := ne_of_beq_false h18; omega))
       first | rw [← hq_jo1] at hR hc_jo1 | (unfold allP at hR; rw [← hq_jo1] at hR hc_jo1) | (unfold allP_l0 at hR; rw [← hq_jo1] at hR hc_jo1)
       refine rvc_un (rexec_call hP C rfl rfl rfl hc_jo1 ?_)
       refine rvP C (.tup [.agg [.pv (.lit (.int .i64 jo1.1.epoch)), sS (some jo1.1.members.nil) eMember jo1.1.members.D], .pv (.lit (.int .i64 jo1.2))]) ?_
       refine rvP C (.agg [.pv (.lit (.int .i64 jo1.1.epoch)), sS (some jo1.1.members.nil) eMember jo1.1.members.D]) ?_
       refine rvP C (.pv (.lit (.int .i64 jo1.2))) ?_
       refine rvc_un (rexec_prim C (δ := { v := .undef, wr := [(15, some (.cells [.pv (.lit (.int .i64 jo1.1.epoch)), sS (some jo1.1.members.nil) eMember jo1.1.members.D]))] }) rfl rfl rfl rfl trivial rfl ?_)
       refine rvP C (.pv (.lit (.int .i64 jo1.2))) ?_
       refine rvc_nil ?_
       refine Awp.seq ?_
       refine Awp.consP C ?_
       refine rvP C (.pv (.lit (.int .i64 jo1.2))) ?_
       refine rvP C (.pv (.lit (.bool (jo1.2 != 0)))) ?_
       refine rvP C (.pv (.lit (.bool (jo1.2 != 0)))) ?_
       refine rvc_case 67 (jo1.2 != 0) rfl (fun h22 => ?_) (fun h22 => ?_)
       ·
        replace hR := of_true h22 hR
        refine rvS ?_
        refine rvS ?_
        refine rvS ?_
        refine rvP C (.pv (.lit (.bool true))) ?_
        refine rvc_nil ?_
        refine Awp.condT (b := true) rfl rfl ?_
        refine Awp.consP C ?_
        refine rvP C (sS (some l.isEmpty) eCommand l) ?_
        refine rvP C (.agg [.pv (.lit (.int .i64 vc)), sS (some vc1.nil) eMember vc1.D]) ?_
        refine rvP C (sS (some l.isEmpty) eCommand l) ?_
        refine rvc_un (rexec_prim C (δ := { v := .undef, wr := [(9, some (.cells [.pv (.lit (.int .i64 vc)), sS (some vc1.nil) eMember vc1.D]))] }) rfl rfl rfl rfl trivial rfl ?_)
        refine rvP C (.pv (.lit (.int .i64 0))) ?_
        refine rvc_nil ?_
        refine Awp.ret ?_
        subst hR
        exact ⟨.inl rfl, rfl⟩
       ·
        replace hR := of_false h22 hR
        refine rvO C (.agg [.pv (.lit (.int .i64 nx1.1.kind)), .pv (.lit (.int .i64 nx1.1.node)), .pv (.lit (.int .i64 nx1.1.site)), .pv (.lit (.int .i64 nx1.1.epoch))]) ?_
        refine rvc_open rfl rfl rfl (rexec_call hP C rfl rfl rfl (cmdCheck_calls nx1.1) ?_)
        refine rvO C (.pv (.lit (.bool ((cmdCheck nx1.1) != 0)))) ?_
        refine rvP C (.pv (.lit (.bool ((cmdCheck nx1.1) != 0)))) ?_
        refine rvc_nil ?_
        refine Awp.cond (b := ((cmdCheck nx1.1) != 0)) rfl (fun h23 => ?_) (fun h23 => ?_)
        ·
         replace hR := of_true h23 hR
         refine Awp.consP C ?_
         refine rvP C (sS (some l.isEmpty) eCommand l) ?_
         refine rvP C (.agg [.pv (.lit (.int .i64 vc)), sS (some vc1.nil) eMember vc1.D]) ?_
         refine rvP C (sS (some l.isEmpty) eCommand l) ?_
         refine rvc_un (rexec_prim C (δ := { v := .undef, wr := [(9, some (.cells [.pv (.lit (.int .i64 vc)), sS (some vc1.nil) eMember vc1.D]))] }) rfl rfl rfl rfl trivial rfl ?_)
         refine rvP C (.pv (.lit (.int .i64 0))) ?_
         refine rvc_nil ?_
         refine Awp.ret ?_
         subst hR
         exact ⟨.inl rfl, rfl⟩
        ·
         replace hR := of_false h23 hR
         refine Awp.skip ?_
         refine Awp.region C (fun o => match o.dst with | some 77 => .writes [77, 900] | some 78 => .reads [15] | _ => .pure) (by kernel_rfl) ?_
         refine rvP C (sS (some l.isEmpty) eCommand l) ?_
         refine rvP C (.agg [.pv (.lit (.int .i64 nx1.1.kind)), .pv (.lit (.int .i64 nx1.1.node)), .pv (.lit (.int .i64 nx1.1.site)), .pv (.lit (.int .i64 nx1.1.epoch))]) ?_
         refine rvc_un (rexec_buildSliceF C eCommand [nx1.1] rfl rfl rfl rfl rfl rfl rfl (by decide) rfl ?_)
         refine rvc_un (rexec_appendG C rfl rfl rfl rfl rfl rfl rfl rfl (fun _ h => by cases h) rfl (en := eCommand) (l := l) (D := [nx1.1]) rfl rfl h3 (by rw [h3]; rfl) (by simp) (by have := check_len (c := (Chain.mk vc vc1)); have := check_le6 (c := (Chain.mk vc vc1)); have := ne_of_beq_false h4; have := eq_of_bne_false h15; have := of_decide_eq_false h17; have := ne_of_beq_false h18; have := eq_of_bne_false h22; have := eq_of_bne_false h23; first | omega | (simp <;> omega)) (by decide) (nn := (l ++ [nx1.1]).length) (by simp) ?_)
         refine rvP C (.agg [.pv (.lit (.int .i64 jo1.1.epoch)), sS (some jo1.1.members.nil) eMember jo1.1.members.D]) ?_
         refine rvP C (.sl 77 0 ((l ++ [nx1.1]).length) 4 false) ?_
         refine rvc_un (rexec_prim C (δ := { v := .undef, wr := [(4, some (.cells [.pv (.lit (.int .i64 jo1.1.epoch)), sS (some jo1.1.members.nil) eMember jo1.1.members.D]))] }) rfl rfl rfl rfl trivial rfl ?_)
         refine rvc_nil ?_
         have h24 : (planM alive jo1.1.members.D) < (planM alive vc1.D) := by first | exact (stepA ha (c := Chain.mk vc vc1) (by assumption) (by assumption) (by assumption) (by assumption) (by assumption) (by assumption)).1 | exact (stepB ha (c := Chain.mk vc vc1) (by assumption) (by assumption) (by assumption) (by assumption) (by assumption) (by assumption)).1 | exact (stepC ha (c := Chain.mk vc vc1) (by assumption) (by assumption) (by assumption)).elim
         obtain ⟨nn, rfl⟩ : ∃ nn, n_ = nn + 1 := ⟨n_ - 1, by omega⟩
         refine ⟨nn, ((l ++ [nx1.1]), jo1.1.epoch, jo1.1.members), by omega, ⟨by show (planM alive jo1.1.members.D) ≤ nn; omega, hR, (by have hlt_ := ‹planM _ _ < planM _ _›; first | (have h_ := (stepA ha (c := Chain.mk vc vc1) (by assumption) (by assumption) (by assumption) (by assumption) (by assumption) (by assumption)); exact ⟨h_.2.1, h_.2.2, (by simp only [List.length_append, List.length_cons, List.length_nil]; omega)⟩) | (have h_ := (stepB ha (c := Chain.mk vc vc1) (by assumption) (by assumption) (by assumption) (by assumption) (by assumption) (by assumption)); exact ⟨h_.2.1, h_.2.2, (by simp only [List.length_append, List.length_cons, List.length_nil]; omega)⟩) | exact (stepC ha (c := Chain.mk vc vc1) (by assumption) (by assumption) (by assumption)).elim)⟩, ?_⟩
         · exact ⟨fun b => bif b == 900 then 77 else (fun b => b) b, WeakerR.ofL (Ks := [4, 6, 7, 9, 900]) hI ⟨⟨rfl, rfl⟩, ⟨rfl, rfl⟩, ⟨rfl, rfl⟩, ⟨rfl, rfl⟩, ⟨rfl, rfl⟩, ⟨grow_to rfl rfl app_ne rfl rfl, grow_within rfl⟩, trivial⟩ (okH_grow (fun _ => rfl) rfl rfl (okH_cons rfl rfl rfl rfl (okH_cons rfl rfl rfl rfl (okH_cons rfl rfl rfl rfl (okH_cons rfl rfl rfl rfl (okH_nil)))))) rfl⟩
 ·
  refine Awp.wordsR [(1, .pv (.lit (.int .u64 alive))), (4, .ptr 4 0), (6, .ptr 6 0), (7, .ptr 7 0), (9, .ptr 9 0), (11, .sl 900 0 l.length 4 false)] [(900, .cells (encC eCommand l)), (4, .cells [.pv (.lit (.int .i64 vc)), sS (some vc1.nil) eMember vc1.D]), (6, .cells [.pv (.lit (.int .i64 (h 0))), .pv (.lit (.int .i64 (h 1))), .pv (.lit (.int .i64 (h 2))), .pv (.lit (.int .i64 (h 3))), .pv (.lit (.int .i64 (h 4))), .pv (.lit (.int .i64 (h 5)))]), (7, .cells [.pv (.lit (.int .i64 (w 0))), .pv (.lit (.int .i64 (w 1))), .pv (.lit (.int .i64 (w 2)))]), (9, .cells [.pv (.lit (.int .i64 0)), sS (some true) eMember []])] [4, 6, 7, 9, 900] (WeakerR.ofL (Ks := [4, 6, 7, 9, 900]) hI ⟨⟨rfl, rfl⟩, ⟨rfl, rfl⟩, ⟨rfl, rfl⟩, ⟨rfl, rfl⟩, ⟨rfl, rfl⟩, ⟨(by exact grow_at_cons (b := 900) (b' := 900) (e := eCommand) (l := l) rfl h3 rfl rfl rfl), rfl⟩, trivial⟩ (okH_list (look_cons h3 rfl) rfl rfl (okH_cons (look_cons h3 rfl) rfl rfl rfl (okH_cons (look_cons h3 rfl) rfl rfl rfl (okH_cons (look_cons h3 rfl) rfl rfl rfl (okH_cons (look_cons h3 rfl) rfl rfl rfl (okH_nil)))))) rfl) ?_
  refine Awp.block ?_
  refine Awp.seq ?_
  refine Awp.consP C ?_
  refine rvP C (.agg [.pv (.lit (.int .i64 vc)), sS (some vc1.nil) eMember vc1.D]) ?_
  refine rvc_un (rexec_call hP C rfl rfl rfl (check_calls (Chain.mk vc vc1) (by show vc1.D.length ≤ 9223372036854775807; omega)) ?_)
  refine rvP C (.pv (.lit (.bool ((check (Chain.mk vc vc1)) == 0)))) ?_
  refine rvc_nil ?_
  refine Awp.cond (b := ((check (Chain.mk vc vc1)) == 0)) rfl (fun h25 => ?_) (fun h25 => ?_)
  ·
   replace hR := of_true h25 hR
   refine Awp.regionP C ?_
   refine rvP C (.agg [.pv (.lit (.int .i64 vc)), sS (some vc1.nil) eMember vc1.D]) ?_
   refine rvP C (.pv (.lit (.int .u64 alive))) ?_
   obtain ⟨ra1, hq_ra1⟩ : ∃ q_, q_ = (readyAll (Chain.mk vc vc1) alive) := ⟨_, rfl⟩
   have hc_ra1 := (readyAll_calls (Chain.mk vc vc1) alive hVn (by show vc1.D.length ≤ 1000000; have := check_len (c := (Chain.mk vc vc1)); have := check_le6 (c := (Chain.mk vc vc1)); have := beq_iff_eq.1 h25; omega))
   first | rw [← hq_ra1] at hR hc_ra1 | (unfold allP at hR; rw [← hq_ra1] at hR hc_ra1) | (unfold allP_l0 at hR; rw [← hq_ra1] at hR hc_ra1)
   have hf0_ra1 := readyAll_hn (Chain.mk vc vc1) alive hVn
   rw [← hq_ra1] at hf0_ra1
   have hf1_ra1 := readyAll_le (m := 1000000) (c := (Chain.mk vc vc1)) alive hVl
   rw [← hq_ra1] at hf1_ra1
   refine rvc_un (rexec_call hP C rfl rfl rfl hc_ra1 ?_)
   refine rvc_un (rexec_prim C (δ := { v := .undef, wr := [(4, some (.cells [.pv (.lit (.int .i64 ra1.epoch)), sS (some ra1.members.nil) eMember ra1.members.D]))] }) rfl rfl rfl rfl trivial rfl ?_)
   refine rvc_nil ?_
   refine Awp.consP C ?_
   refine rvP C (.agg [.pv (.lit (.int .i64 ra1.epoch)), sS (some ra1.members.nil) eMember ra1.members.D]) ?_
   refine rvP C (.pv (.lit (.int .u64 alive))) ?_
   refine rvP C (.agg [.pv (.lit (.int .i64 (h 0))), .pv (.lit (.int .i64 (h 1))), .pv (.lit (.int .i64 (h 2))), .pv (.lit (.int .i64 (h 3))), .pv (.lit (.int .i64 (h 4))), .pv (.lit (.int .i64 (h 5)))]) ?_
   refine rvP C (.agg [.pv (.lit (.int .i64 (w 0))), .pv (.lit (.int .i64 (w 1))), .pv (.lit (.int .i64 (w 2)))]) ?_
   obtain ⟨nx2, hq_nx2⟩ : ∃ q_, q_ = (nextP ra1 alive h w) := ⟨_, rfl⟩
   have hc_nx2 := (nextP_calls ra1 alive h w (by assumption) (by show ra1.members.D.length ≤ 1000000; have := check_len (c := (Chain.mk vc vc1)); have := check_le6 (c := (Chain.mk vc vc1)); have := beq_iff_eq.1 h25; omega))
   first | rw [← hq_nx2] at hR hc_nx2 | (unfold allP at hR; rw [← hq_nx2] at hR hc_nx2) | (unfold allP_l0 at hR; rw [← hq_nx2] at hR hc_nx2)
   refine rvc_un (rexec_call hP C rfl rfl rfl hc_nx2 ?_)
   refine rvP C (.tup [.agg [.pv (.lit (.int .i64 nx2.1.kind)), .pv (.lit (.int .i64 nx2.1.node)), .pv (.lit (.int .i64 nx2.1.site)), .pv (.lit (.int .i64 nx2.1.epoch))], .pv (.lit (.bool nx2.2.1)), .pv (.lit (.int .i64 nx2.2.2))]) ?_
   refine rvP C (.agg [.pv (.lit (.int .i64 nx2.1.kind)), .pv (.lit (.int .i64 nx2.1.node)), .pv (.lit (.int .i64 nx2.1.site)), .pv (.lit (.int .i64 nx2.1.epoch))]) ?_
   refine rvP C (.pv (.lit (.bool nx2.2.1))) ?_
   refine rvP C (.pv (.lit (.int .i64 nx2.2.2))) ?_
   refine rvc_un (rexec_prim C (δ := { v := .ptr 12 0, new := [(12, .cells [.pv (.lit (.int .i64 0)), .pv (.lit (.int .i64 0)), .pv (.lit (.int .i64 0)), .pv (.lit (.int .i64 0))])] }) rfl rfl rfl rfl trivial rfl ?_)
   refine rvc_un (rexec_prim C (δ := { v := .undef, wr := [(12, some (.cells [.pv (.lit (.int .i64 nx2.1.kind)), .pv (.lit (.int .i64 nx2.1.node)), .pv (.lit (.int .i64 nx2.1.site)), .pv (.lit (.int .i64 nx2.1.epoch))]))] }) rfl rfl rfl rfl trivial rfl ?_)
   refine rvP C (.pv (.lit (.bool nx2.2.1))) ?_
   refine rvP C (.pv (.lit (.int .i64 nx2.2.2))) ?_
   refine rvc_nil ?_
   refine Awp.seq ?_
   refine Awp.consP C ?_
   refine rvP C (.pv (.lit (.int .i64 nx2.2.2))) ?_
   refine rvP C (.pv (.lit (.bool (nx2.2.2 != 0)))) ?_
   refine rvc_nil ?_
   refine Awp.cond (b := (nx2.2.2 != 0)) rfl (fun h26 => ?_) (fun h26 => ?_)
   ·
    replace hR := of_true h26 hR
    refine Awp.consP C ?_
    refine rvP C (.agg [.pv (.lit (.int .i64 0)), sS (some true) eMember []]) ?_
    refine rvP C (.pv (.lit (.int .i64 nx2.2.2))) ?_
    refine rvP C (sS (some true) eCommand []) ?_
    refine rvc_un (rexec_prim C (δ := { v := .undef, wr := [(9, some (.cells [.pv (.lit (.int .i64 0)), sS (some true) eMember []]))] }) rfl rfl rfl rfl trivial rfl ?_)
    refine rvP C (.pv (.lit (.int .i64 nx2.2.2))) ?_
    refine rvc_nil ?_
    refine Awp.ret ?_
    subst hR
    exact ⟨.inl rfl, rfl⟩
   ·
    replace hR := of_false h26 hR
    refine Awp.skip ?_
    refine Awp.seq ?_
    refine Awp.consP C ?_
    refine rvP C (.pv (.lit (.bool nx2.2.1))) ?_
    refine rvP C (.pv (.lit (.bool (!nx2.2.1)))) ?_
    refine rvP C (.pv (.lit (.bool (!nx2.2.1)))) ?_
    refine rvc_case 37 (!nx2.2.1) rfl (fun h27 => ?_) (fun h27 => ?_)
    ·
     replace hR := of_true h27 hR
     refine rvS ?_
     refine rvS ?_
     refine rvS ?_
     refine rvP C (.pv (.lit (.bool true))) ?_
     refine rvc_nil ?_
     refine Awp.condT (b := true) rfl rfl ?_
     refine Awp.consP C ?_
     refine rvP C (.sl 900 0 l.length 4 false) ?_
     refine rvP C (.agg [.pv (.lit (.int .i64 ra1.epoch)), sS (some ra1.members.nil) eMember ra1.members.D]) ?_
     refine rvP C (.sl 900 0 l.length 4 false) ?_
     refine rvc_un (rexec_prim C (δ := { v := .undef, wr := [(9, some (.cells [.pv (.lit (.int .i64 ra1.epoch)), sS (some ra1.members.nil) eMember ra1.members.D]))] }) rfl rfl rfl rfl trivial rfl ?_)
     refine rvP C (.pv (.lit (.int .i64 0))) ?_
     refine rvc_nil ?_
     refine Awp.freezeW 900 (encL eCommand l) ?_ [(8, sS (some l.isEmpty) eCommand l), (9, .ptr 9 0), (10, .pv (.lit (.int .i64 0)))] [(4, .cells [.pv (.lit (.int .i64 ra1.epoch)), sS (some ra1.members.nil) eMember ra1.members.D]), (6, .cells [.pv (.lit (.int .i64 (h 0))), .pv (.lit (.int .i64 (h 1))), .pv (.lit (.int .i64 (h 2))), .pv (.lit (.int .i64 (h 3))), .pv (.lit (.int .i64 (h 4))), .pv (.lit (.int .i64 (h 5)))]), (7, .cells [.pv (.lit (.int .i64 (w 0))), .pv (.lit (.int .i64 (w 1))), .pv (.lit (.int .i64 (w 2)))]), (9, .cells [.pv (.lit (.int .i64 ra1.epoch)), sS (some ra1.members.nil) eMember ra1.members.D]), (12, .cells [.pv (.lit (.int .i64 nx2.1.kind)), .pv (.lit (.int .i64 nx2.1.node)), .pv (.lit (.int .i64 nx2.1.site)), .pv (.lit (.int .i64 nx2.1.epoch))])] ?_ ?_ ?_
     · rfl
     · exact ⟨⟨_, rfl, .inl (.inr ⟨_, _, _, rfl, by rw [ne_isEmpty h3]; rfl⟩)⟩, ⟨_, rfl, .inl (.inl rfl)⟩, ⟨_, rfl, .inl (.inl rfl)⟩, trivial⟩
     · exact ⟨⟨(by show (4 : Nat) ≠ 900; decide), .inl rfl⟩, ⟨(by show (6 : Nat) ≠ 900; decide), .inl rfl⟩, ⟨(by show (7 : Nat) ≠ 900; decide), .inl rfl⟩, ⟨(by show (9 : Nat) ≠ 900; decide), .inl rfl⟩, ⟨(by show (12 : Nat) ≠ 900; decide), .inl rfl⟩, trivial⟩
     refine Awp.ret ?_
     subst hR
     exact ⟨.inl rfl, rfl⟩
    ·
     replace hR := of_false h27 hR
     refine rvO C (.ptr 4 0) ?_
     refine rvO C (.pv (.lit (.int .i64 ra1.epoch))) ?_
     refine rvO C (.pv (.lit (.bool (decide (ra1.epoch ≥ 1099511627776))))) ?_
     refine rvP C (.pv (.lit (.bool (decide (ra1.epoch ≥ 1099511627776))))) ?_
     refine rvc_nil ?_
     refine Awp.cond (b := (decide (ra1.epoch ≥ 1099511627776))) rfl (fun h28 => ?_) (fun h28 => ?_)
     ·
      replace hR := of_true h28 hR
      refine Awp.consP C ?_
      refine rvP C (.sl 900 0 l.length 4 false) ?_
      refine rvP C (.agg [.pv (.lit (.int .i64 ra1.epoch)), sS (some ra1.members.nil) eMember ra1.members.D]) ?_
      refine rvP C (.sl 900 0 l.length 4 false) ?_
      refine rvc_un (rexec_prim C (δ := { v := .undef, wr := [(9, some (.cells [.pv (.lit (.int .i64 ra1.epoch)), sS (some ra1.members.nil) eMember ra1.members.D]))] }) rfl rfl rfl rfl trivial rfl ?_)
      refine rvP C (.pv (.lit (.int .i64 0))) ?_
      refine rvc_nil ?_
      refine Awp.freezeW 900 (encL eCommand l) ?_ [(8, sS (some l.isEmpty) eCommand l), (9, .ptr 9 0), (10, .pv (.lit (.int .i64 0)))] [(4, .cells [.pv (.lit (.int .i64 ra1.epoch)), sS (some ra1.members.nil) eMember ra1.members.D]), (6, .cells [.pv (.lit (.int .i64 (h 0))), .pv (.lit (.int .i64 (h 1))), .pv (.lit (.int .i64 (h 2))), .pv (.lit (.int .i64 (h 3))), .pv (.lit (.int .i64 (h 4))), .pv (.lit (.int .i64 (h 5)))]), (7, .cells [.pv (.lit (.int .i64 (w 0))), .pv (.lit (.int .i64 (w 1))), .pv (.lit (.int .i64 (w 2)))]), (9, .cells [.pv (.lit (.int .i64 ra1.epoch)), sS (some ra1.members.nil) eMember ra1.members.D]), (12, .cells [.pv (.lit (.int .i64 nx2.1.kind)), .pv (.lit (.int .i64 nx2.1.node)), .pv (.lit (.int .i64 nx2.1.site)), .pv (.lit (.int .i64 nx2.1.epoch))])] ?_ ?_ ?_
      · rfl
      · exact ⟨⟨_, rfl, .inl (.inr ⟨_, _, _, rfl, by rw [ne_isEmpty h3]; rfl⟩)⟩, ⟨_, rfl, .inl (.inl rfl)⟩, ⟨_, rfl, .inl (.inl rfl)⟩, trivial⟩
      · exact ⟨⟨(by show (4 : Nat) ≠ 900; decide), .inl rfl⟩, ⟨(by show (6 : Nat) ≠ 900; decide), .inl rfl⟩, ⟨(by show (7 : Nat) ≠ 900; decide), .inl rfl⟩, ⟨(by show (9 : Nat) ≠ 900; decide), .inl rfl⟩, ⟨(by show (12 : Nat) ≠ 900; decide), .inl rfl⟩, trivial⟩
      refine Awp.ret ?_
      subst hR
      exact ⟨.inl rfl, rfl⟩
     ·
      replace hR := of_false h28 hR
      refine Awp.skip ?_
      refine Awp.consP C ?_
      refine rvP C (.agg [.pv (.lit (.int .i64 0)), sS (some true) eMember []]) ?_
      refine rvc_un (rexec_prim C (δ := { v := .ptr 15 0, new := [(15, .cells [.pv (.lit (.int .i64 0)), sS (some true) eMember []])] }) rfl rfl rfl rfl trivial rfl ?_)
      refine rvc_un (rexec_prim C (δ := { v := .undef, wr := [(15, some (.cells [.pv (.lit (.int .i64 0)), sS (some true) eMember []]))] }) rfl rfl rfl rfl trivial rfl ?_)
      refine rvc_nil ?_
      refine Awp.seq ?_
      refine Awp.consP C ?_
      refine rvP C (.ptr 12 0) ?_
      refine rvP C (.pv (.lit (.int .i64 nx2.1.kind))) ?_
      refine rvP C (.pv (.lit (.bool (nx2.1.kind == 1)))) ?_
      refine rvc_nil ?_
      refine Awp.cond (b := (nx2.1.kind == 1)) rfl (fun h29 => ?_) (fun h29 => ?_)
      ·
       replace hR := of_true h29 hR
       refine Awp.regionP C ?_
       refine rvP C (.agg [.pv (.lit (.int .i64 ra1.epoch)), sS (some ra1.members.nil) eMember ra1.members.D]) ?_
       refine rvP C (.ptr 12 1) ?_
       refine rvP C (.pv (.lit (.int .i64 nx2.1.node))) ?_
       obtain ⟨dr2, hq_dr2⟩ : ∃ q_, q_ = (drop ra1 nx2.1.node) := ⟨_, rfl⟩
       have hc_dr2 := (drop_calls ra1 nx2.1.node (by show ra1.members.D.length ≤ 1000000; have := check_len (c := (Chain.mk vc vc1)); have := check_le6 (c := (Chain.mk vc vc1)); have := beq_iff_eq.1 h25; have := eq_of_bne_false h26; have := of_decide_eq_false h28; have := beq_iff_eq.1 h29; omega))
       first | rw [← hq_dr2] at hR hc_dr2 | (unfold allP at hR; rw [← hq_dr2] at hR hc_dr2) | (unfold allP_l0 at hR; rw [← hq_dr2] at hR hc_dr2)
       refine rvc_un (rexec_call hP C rfl rfl rfl hc_dr2 ?_)
       refine rvP C (.tup [.agg [.pv (.lit (.int .i64 dr2.1.epoch)), sS (some dr2.1.members.nil) eMember dr2.1.members.D], .pv (.lit (.int .i64 dr2.2))]) ?_
       refine rvP C (.agg [.pv (.lit (.int .i64 dr2.1.epoch)), sS (some dr2.1.members.nil) eMember dr2.1.members.D]) ?_
       refine rvP C (.pv (.lit (.int .i64 dr2.2))) ?_
       refine rvc_un (rexec_prim C (δ := { v := .undef, wr := [(15, some (.cells [.pv (.lit (.int .i64 dr2.1.epoch)), sS (some dr2.1.members.nil) eMember dr2.1.members.D]))] }) rfl rfl rfl rfl trivial rfl ?_)
       refine rvP C (.pv (.lit (.int .i64 dr2.2))) ?_
       refine rvc_nil ?_
       refine Awp.seq ?_
       refine Awp.consP C ?_
       refine rvP C (.pv (.lit (.int .i64 dr2.2))) ?_
       refine rvP C (.pv (.lit (.bool (dr2.2 != 0)))) ?_
       refine rvP C (.pv (.lit (.bool (dr2.2 != 0)))) ?_
       refine rvc_case 67 (dr2.2 != 0) rfl (fun h30 => ?_) (fun h30 => ?_)
       ·
        replace hR := of_true h30 hR
        refine rvS ?_
        refine rvS ?_
        refine rvS ?_
        refine rvP C (.pv (.lit (.bool true))) ?_
        refine rvc_nil ?_
        refine Awp.condT (b := true) rfl rfl ?_
        refine Awp.consP C ?_
        refine rvP C (.sl 900 0 l.length 4 false) ?_
        refine rvP C (.agg [.pv (.lit (.int .i64 ra1.epoch)), sS (some ra1.members.nil) eMember ra1.members.D]) ?_
        refine rvP C (.sl 900 0 l.length 4 false) ?_
        refine rvc_un (rexec_prim C (δ := { v := .undef, wr := [(9, some (.cells [.pv (.lit (.int .i64 ra1.epoch)), sS (some ra1.members.nil) eMember ra1.members.D]))] }) rfl rfl rfl rfl trivial rfl ?_)
        refine rvP C (.pv (.lit (.int .i64 0))) ?_
        refine rvc_nil ?_
        refine Awp.freezeW 900 (encL eCommand l) ?_ [(8, sS (some l.isEmpty) eCommand l), (9, .ptr 9 0), (10, .pv (.lit (.int .i64 0)))] [(4, .cells [.pv (.lit (.int .i64 ra1.epoch)), sS (some ra1.members.nil) eMember ra1.members.D]), (6, .cells [.pv (.lit (.int .i64 (h 0))), .pv (.lit (.int .i64 (h 1))), .pv (.lit (.int .i64 (h 2))), .pv (.lit (.int .i64 (h 3))), .pv (.lit (.int .i64 (h 4))), .pv (.lit (.int .i64 (h 5)))]), (7, .cells [.pv (.lit (.int .i64 (w 0))), .pv (.lit (.int .i64 (w 1))), .pv (.lit (.int .i64 (w 2)))]), (9, .cells [.pv (.lit (.int .i64 ra1.epoch)), sS (some ra1.members.nil) eMember ra1.members.D]), (12, .cells [.pv (.lit (.int .i64 nx2.1.kind)), .pv (.lit (.int .i64 nx2.1.node)), .pv (.lit (.int .i64 nx2.1.site)), .pv (.lit (.int .i64 nx2.1.epoch))]), (15, .cells [.pv (.lit (.int .i64 dr2.1.epoch)), sS (some dr2.1.members.nil) eMember dr2.1.members.D])] ?_ ?_ ?_
        · rfl
        · exact ⟨⟨_, rfl, .inl (.inr ⟨_, _, _, rfl, by rw [ne_isEmpty h3]; rfl⟩)⟩, ⟨_, rfl, .inl (.inl rfl)⟩, ⟨_, rfl, .inl (.inl rfl)⟩, trivial⟩
        · exact ⟨⟨(by show (4 : Nat) ≠ 900; decide), .inl rfl⟩, ⟨(by show (6 : Nat) ≠ 900; decide), .inl rfl⟩, ⟨(by show (7 : Nat) ≠ 900; decide), .inl rfl⟩, ⟨(by show (9 : Nat) ≠ 900; decide), .inl rfl⟩, ⟨(by show (12 : Nat) ≠ 900; decide), .inl rfl⟩, ⟨(by show (15 : Nat) ≠ 900; decide), .inl rfl⟩, trivial⟩
        refine Awp.ret ?_
        subst hR
        exact ⟨.inl rfl, rfl⟩
       ·
        replace hR := of_false h30 hR
        refine rvO C (.agg [.pv (.lit (.int .i64 nx2.1.kind)), .pv (.lit (.int .i64 nx2.1.node)), .pv (.lit (.int .i64 nx2.1.site)), .pv (.lit (.int .i64 nx2.1.epoch))]) ?_
        refine rvc_open rfl rfl rfl (rexec_call hP C rfl rfl rfl (cmdCheck_calls nx2.1) ?_)
        refine rvO C (.pv (.lit (.bool ((cmdCheck nx2.1) != 0)))) ?_
        refine rvP C (.pv (.lit (.bool ((cmdCheck nx2.1) != 0)))) ?_
        refine rvc_nil ?_
        refine Awp.cond (b := ((cmdCheck nx2.1) != 0)) rfl (fun h31 => ?_) (fun h31 => ?_)
        ·
         replace hR := of_true h31 hR
         refine Awp.consP C ?_
         refine rvP C (.sl 900 0 l.length 4 false) ?_
         refine rvP C (.agg [.pv (.lit (.int .i64 ra1.epoch)), sS (some ra1.members.nil) eMember ra1.members.D]) ?_
         refine rvP C (.sl 900 0 l.length 4 false) ?_
         refine rvc_un (rexec_prim C (δ := { v := .undef, wr := [(9, some (.cells [.pv (.lit (.int .i64 ra1.epoch)), sS (some ra1.members.nil) eMember ra1.members.D]))] }) rfl rfl rfl rfl trivial rfl ?_)
         refine rvP C (.pv (.lit (.int .i64 0))) ?_
         refine rvc_nil ?_
         refine Awp.freezeW 900 (encL eCommand l) ?_ [(8, sS (some l.isEmpty) eCommand l), (9, .ptr 9 0), (10, .pv (.lit (.int .i64 0)))] [(4, .cells [.pv (.lit (.int .i64 ra1.epoch)), sS (some ra1.members.nil) eMember ra1.members.D]), (6, .cells [.pv (.lit (.int .i64 (h 0))), .pv (.lit (.int .i64 (h 1))), .pv (.lit (.int .i64 (h 2))), .pv (.lit (.int .i64 (h 3))), .pv (.lit (.int .i64 (h 4))), .pv (.lit (.int .i64 (h 5)))]), (7, .cells [.pv (.lit (.int .i64 (w 0))), .pv (.lit (.int .i64 (w 1))), .pv (.lit (.int .i64 (w 2)))]), (9, .cells [.pv (.lit (.int .i64 ra1.epoch)), sS (some ra1.members.nil) eMember ra1.members.D]), (12, .cells [.pv (.lit (.int .i64 nx2.1.kind)), .pv (.lit (.int .i64 nx2.1.node)), .pv (.lit (.int .i64 nx2.1.site)), .pv (.lit (.int .i64 nx2.1.epoch))]), (15, .cells [.pv (.lit (.int .i64 dr2.1.epoch)), sS (some dr2.1.members.nil) eMember dr2.1.members.D])] ?_ ?_ ?_
         · rfl
         · exact ⟨⟨_, rfl, .inl (.inr ⟨_, _, _, rfl, by rw [ne_isEmpty h3]; rfl⟩)⟩, ⟨_, rfl, .inl (.inl rfl)⟩, ⟨_, rfl, .inl (.inl rfl)⟩, trivial⟩
         · exact ⟨⟨(by show (4 : Nat) ≠ 900; decide), .inl rfl⟩, ⟨(by show (6 : Nat) ≠ 900; decide), .inl rfl⟩, ⟨(by show (7 : Nat) ≠ 900; decide), .inl rfl⟩, ⟨(by show (9 : Nat) ≠ 900; decide), .inl rfl⟩, ⟨(by show (12 : Nat) ≠ 900; decide), .inl rfl⟩, ⟨(by show (15 : Nat) ≠ 900; decide), .inl rfl⟩, trivial⟩
         refine Awp.ret ?_
         subst hR
         exact ⟨.inl rfl, rfl⟩
        ·
         replace hR := of_false h31 hR
         refine Awp.skip ?_
         refine Awp.region C (fun o => match o.dst with | some 77 => .writes [77, 900] | some 78 => .reads [15] | _ => .pure) (by kernel_rfl) ?_
         refine rvP C (.sl 900 0 l.length 4 false) ?_
         refine rvP C (.agg [.pv (.lit (.int .i64 nx2.1.kind)), .pv (.lit (.int .i64 nx2.1.node)), .pv (.lit (.int .i64 nx2.1.site)), .pv (.lit (.int .i64 nx2.1.epoch))]) ?_
         refine rvc_un (rexec_buildSliceF C eCommand [nx2.1] rfl rfl rfl rfl rfl rfl rfl (by decide) rfl ?_)
         refine rvc_un (rexec_append C rfl rfl rfl rfl rfl rfl rfl rfl (fun _ h => by cases h) rfl (en := eCommand) (D0 := l) (D := [nx2.1]) rfl rfl rfl rfl (by have := check_len (c := (Chain.mk vc vc1)); have := check_le6 (c := (Chain.mk vc vc1)); have := beq_iff_eq.1 h25; have := eq_of_bne_false h26; have := of_decide_eq_false h28; have := beq_iff_eq.1 h29; have := eq_of_bne_false h30; have := eq_of_bne_false h31; first | omega | (simp <;> omega)) (by decide) (nn := (l ++ [nx2.1]).length) (by simp) ?_)
         refine rvP C (.agg [.pv (.lit (.int .i64 dr2.1.epoch)), sS (some dr2.1.members.nil) eMember dr2.1.members.D]) ?_
         refine rvP C (.sl 77 0 ((l ++ [nx2.1]).length) 4 false) ?_
         refine rvc_un (rexec_prim C (δ := { v := .undef, wr := [(4, some (.cells [.pv (.lit (.int .i64 dr2.1.epoch)), sS (some dr2.1.members.nil) eMember dr2.1.members.D]))] }) rfl rfl rfl rfl trivial rfl ?_)
         refine rvc_nil ?_
         have h32 : (planM alive dr2.1.members.D) < (planM alive vc1.D) := by first | exact (stepA ha (c := Chain.mk vc vc1) (by assumption) (by assumption) (by assumption) (by assumption) (by assumption) (by assumption)).1 | exact (stepB ha (c := Chain.mk vc vc1) (by assumption) (by assumption) (by assumption) (by assumption) (by assumption) (by assumption)).1 | exact (stepC ha (c := Chain.mk vc vc1) (by assumption) (by assumption) (by assumption)).elim
         obtain ⟨nn, rfl⟩ : ∃ nn, n_ = nn + 1 := ⟨n_ - 1, by omega⟩
         refine ⟨nn, ((l ++ [nx2.1]), dr2.1.epoch, dr2.1.members), by omega, ⟨by show (planM alive dr2.1.members.D) ≤ nn; omega, hR, (by have hlt_ := ‹planM _ _ < planM _ _›; first | (have h_ := (stepA ha (c := Chain.mk vc vc1) (by assumption) (by assumption) (by assumption) (by assumption) (by assumption) (by assumption)); exact ⟨h_.2.1, h_.2.2, (by simp only [List.length_append, List.length_cons, List.length_nil]; omega)⟩) | (have h_ := (stepB ha (c := Chain.mk vc vc1) (by assumption) (by assumption) (by assumption) (by assumption) (by assumption) (by assumption)); exact ⟨h_.2.1, h_.2.2, (by simp only [List.length_append, List.length_cons, List.length_nil]; omega)⟩) | exact (stepC ha (c := Chain.mk vc vc1) (by assumption) (by assumption) (by assumption)).elim)⟩, ?_⟩
         · exact ⟨fun b => bif b == 900 then 77 else (fun b => b) b, WeakerR.ofL (Ks := [4, 6, 7, 9, 900]) hI ⟨⟨rfl, rfl⟩, ⟨rfl, rfl⟩, ⟨rfl, rfl⟩, ⟨rfl, rfl⟩, ⟨rfl, rfl⟩, ⟨grow_to rfl rfl app_ne rfl rfl, grow_within rfl⟩, trivial⟩ (okH_grow (fun _ => rfl) rfl rfl (okH_cons rfl rfl rfl rfl (okH_cons rfl rfl rfl rfl (okH_cons rfl rfl rfl rfl (okH_cons rfl rfl rfl rfl (okH_nil)))))) rfl⟩
      ·
       replace hR := of_false h29 hR
       refine Awp.regionP C ?_
       refine rvP C (.agg [.pv (.lit (.int .i64 ra1.epoch)), sS (some ra1.members.nil) eMember ra1.members.D]) ?_
       refine rvP C (.ptr 12 1) ?_
       refine rvP C (.pv (.lit (.int .i64 nx2.1.node))) ?_
       refine rvP C (.ptr 12 2) ?_
       refine rvP C (.pv (.lit (.int .i64 nx2.1.site))) ?_
       refine rvP C (.agg [.pv (.lit (.int .i64 nx2.1.node)), .pv (.lit (.int .i64 nx2.1.site)), .pv (.lit (.bool false))]) ?_
       obtain ⟨jo2, hq_jo2⟩ : ∃ q_, q_ = (join ra1 (Member.mk nx2.1.node nx2.1.site false)) := ⟨_, rfl⟩
       have hc_jo2 := (join_calls ra1 (Member.mk nx2.1.node nx2.1.site false) (by assumption) (by show ra1.members.D.length ≤ 1000000; have := check_len (c := (Chain.mk vc vc1)); have := check_le6 (c := (Chain.mk vc vc1)); have := beq_iff_eq.1 h25; have := eq_of_bne_false h26; have := of_decide_eq_false h28; have := ne_of_beq_false h29; omega))
       first | rw [← hq_jo2] at hR hc_jo2 | (unfold allP at hR; rw [← hq_jo2] at hR hc_jo2) | (unfold allP_l0 at hR; rw [← hq_jo2] at hR hc_jo2)
       refine rvc_un (rexec_call hP C rfl rfl rfl hc_jo2 ?_)
       refine rvP C (.tup [.agg [.pv (.lit (.int .i64 jo2.1.epoch)), sS (some jo2.1.members.nil) eMember jo2.1.members.D], .pv (.lit (.int .i64 jo2.2))]) ?_
       refine rvP C (.agg [.pv (.lit (.int .i64 jo2.1.epoch)), sS (some jo2.1.members.nil) eMember jo2.1.members.D]) ?_
       refine rvP C (.pv (.lit (.int .i64 jo2.2))) ?_
       refine rvc_un (rexec_prim C (δ := { v := .undef, wr := [(15, some (.cells [.pv (.lit (.int .i64 jo2.1.epoch)), sS (some jo2.1.members.nil) eMember jo2.1.members.D]))] }) rfl rfl rfl rfl trivial rfl ?_)
       refine rvP C (.pv (.lit (.int .i64 jo2.2))) ?_
       refine rvc_nil ?_
       refine Awp.seq ?_
       refine Awp.consP C ?_
       refine rvP C (.pv (.lit (.int .i64 jo2.2))) ?_
       refine rvP C (.pv (.lit (.bool (jo2.2 != 0)))) ?_
       refine rvP C (.pv (.lit (.bool (jo2.2 != 0)))) ?_
       refine rvc_case 67 (jo2.2 != 0) rfl (fun h33 => ?_) (fun h33 => ?_)
       ·
        replace hR := of_true h33 hR
        refine rvS ?_
        refine rvS ?_
        refine rvS ?_
        refine rvP C (.pv (.lit (.bool true))) ?_
        refine rvc_nil ?_
        refine Awp.condT (b := true) rfl rfl ?_
        refine Awp.consP C ?_
        refine rvP C (.sl 900 0 l.length 4 false) ?_
        refine rvP C (.agg [.pv (.lit (.int .i64 ra1.epoch)), sS (some ra1.members.nil) eMember ra1.members.D]) ?_
        refine rvP C (.sl 900 0 l.length 4 false) ?_
        refine rvc_un (rexec_prim C (δ := { v := .undef, wr := [(9, some (.cells [.pv (.lit (.int .i64 ra1.epoch)), sS (some ra1.members.nil) eMember ra1.members.D]))] }) rfl rfl rfl rfl trivial rfl ?_)
        refine rvP C (.pv (.lit (.int .i64 0))) ?_
        refine rvc_nil ?_
        refine Awp.freezeW 900 (encL eCommand l) ?_ [(8, sS (some l.isEmpty) eCommand l), (9, .ptr 9 0), (10, .pv (.lit (.int .i64 0)))] [(4, .cells [.pv (.lit (.int .i64 ra1.epoch)), sS (some ra1.members.nil) eMember ra1.members.D]), (6, .cells [.pv (.lit (.int .i64 (h 0))), .pv (.lit (.int .i64 (h 1))), .pv (.lit (.int .i64 (h 2))), .pv (.lit (.int .i64 (h 3))), .pv (.lit (.int .i64 (h 4))), .pv (.lit (.int .i64 (h 5)))]), (7, .cells [.pv (.lit (.int .i64 (w 0))), .pv (.lit (.int .i64 (w 1))), .pv (.lit (.int .i64 (w 2)))]), (9, .cells [.pv (.lit (.int .i64 ra1.epoch)), sS (some ra1.members.nil) eMember ra1.members.D]), (12, .cells [.pv (.lit (.int .i64 nx2.1.kind)), .pv (.lit (.int .i64 nx2.1.node)), .pv (.lit (.int .i64 nx2.1.site)), .pv (.lit (.int .i64 nx2.1.epoch))]), (15, .cells [.pv (.lit (.int .i64 jo2.1.epoch)), sS (some jo2.1.members.nil) eMember jo2.1.members.D])] ?_ ?_ ?_
        · rfl
        · exact ⟨⟨_, rfl, .inl (.inr ⟨_, _, _, rfl, by rw [ne_isEmpty h3]; rfl⟩)⟩, ⟨_, rfl, .inl (.inl rfl)⟩, ⟨_, rfl, .inl (.inl rfl)⟩, trivial⟩
        · exact ⟨⟨(by show (4 : Nat) ≠ 900; decide), .inl rfl⟩, ⟨(by show (6 : Nat) ≠ 900; decide), .inl rfl⟩, ⟨(by show (7 : Nat) ≠ 900; decide), .inl rfl⟩, ⟨(by show (9 : Nat) ≠ 900; decide), .inl rfl⟩, ⟨(by show (12 : Nat) ≠ 900; decide), .inl rfl⟩, ⟨(by show (15 : Nat) ≠ 900; decide), .inl rfl⟩, trivial⟩
        refine Awp.ret ?_
        subst hR
        exact ⟨.inl rfl, rfl⟩
       ·
        replace hR := of_false h33 hR
        refine rvO C (.agg [.pv (.lit (.int .i64 nx2.1.kind)), .pv (.lit (.int .i64 nx2.1.node)), .pv (.lit (.int .i64 nx2.1.site)), .pv (.lit (.int .i64 nx2.1.epoch))]) ?_
        refine rvc_open rfl rfl rfl (rexec_call hP C rfl rfl rfl (cmdCheck_calls nx2.1) ?_)
        refine rvO C (.pv (.lit (.bool ((cmdCheck nx2.1) != 0)))) ?_
        refine rvP C (.pv (.lit (.bool ((cmdCheck nx2.1) != 0)))) ?_
        refine rvc_nil ?_
        refine Awp.cond (b := ((cmdCheck nx2.1) != 0)) rfl (fun h34 => ?_) (fun h34 => ?_)
        ·
         replace hR := of_true h34 hR
         refine Awp.consP C ?_
         refine rvP C (.sl 900 0 l.length 4 false) ?_
         refine rvP C (.agg [.pv (.lit (.int .i64 ra1.epoch)), sS (some ra1.members.nil) eMember ra1.members.D]) ?_
         refine rvP C (.sl 900 0 l.length 4 false) ?_
         refine rvc_un (rexec_prim C (δ := { v := .undef, wr := [(9, some (.cells [.pv (.lit (.int .i64 ra1.epoch)), sS (some ra1.members.nil) eMember ra1.members.D]))] }) rfl rfl rfl rfl trivial rfl ?_)
         refine rvP C (.pv (.lit (.int .i64 0))) ?_
         refine rvc_nil ?_
         refine Awp.freezeW 900 (encL eCommand l) ?_ [(8, sS (some l.isEmpty) eCommand l), (9, .ptr 9 0), (10, .pv (.lit (.int .i64 0)))] [(4, .cells [.pv (.lit (.int .i64 ra1.epoch)), sS (some ra1.members.nil) eMember ra1.members.D]), (6, .cells [.pv (.lit (.int .i64 (h 0))), .pv (.lit (.int .i64 (h 1))), .pv (.lit (.int .i64 (h 2))), .pv (.lit (.int .i64 (h 3))), .pv (.lit (.int .i64 (h 4))), .pv (.lit (.int .i64 (h 5)))]), (7, .cells [.pv (.lit (.int .i64 (w 0))), .pv (.lit (.int .i64 (w 1))), .pv (.lit (.int .i64 (w 2)))]), (9, .cells [.pv (.lit (.int .i64 ra1.epoch)), sS (some ra1.members.nil) eMember ra1.members.D]), (12, .cells [.pv (.lit (.int .i64 nx2.1.kind)), .pv (.lit (.int .i64 nx2.1.node)), .pv (.lit (.int .i64 nx2.1.site)), .pv (.lit (.int .i64 nx2.1.epoch))]), (15, .cells [.pv (.lit (.int .i64 jo2.1.epoch)), sS (some jo2.1.members.nil) eMember jo2.1.members.D])] ?_ ?_ ?_
         · rfl
         · exact ⟨⟨_, rfl, .inl (.inr ⟨_, _, _, rfl, by rw [ne_isEmpty h3]; rfl⟩)⟩, ⟨_, rfl, .inl (.inl rfl)⟩, ⟨_, rfl, .inl (.inl rfl)⟩, trivial⟩
         · exact ⟨⟨(by show (4 : Nat) ≠ 900; decide), .inl rfl⟩, ⟨(by show (6 : Nat) ≠ 900; decide), .inl rfl⟩, ⟨(by show (7 : Nat) ≠ 900; decide), .inl rfl⟩, ⟨(by show (9 : Nat) ≠ 900; decide), .inl rfl⟩, ⟨(by show (12 : Nat) ≠ 900; decide), .inl rfl⟩, ⟨(by show (15 : Nat) ≠ 900; decide), .inl rfl⟩, trivial⟩
         refine Awp.ret ?_
         subst hR
         exact ⟨.inl rfl, rfl⟩
        ·
         replace hR := of_false h34 hR
         refine Awp.skip ?_
         refine Awp.region C (fun o => match o.dst with | some 77 => .writes [77, 900] | some 78 => .reads [15] | _ => .pure) (by kernel_rfl) ?_
         refine rvP C (.sl 900 0 l.length 4 false) ?_
         refine rvP C (.agg [.pv (.lit (.int .i64 nx2.1.kind)), .pv (.lit (.int .i64 nx2.1.node)), .pv (.lit (.int .i64 nx2.1.site)), .pv (.lit (.int .i64 nx2.1.epoch))]) ?_
         refine rvc_un (rexec_buildSliceF C eCommand [nx2.1] rfl rfl rfl rfl rfl rfl rfl (by decide) rfl ?_)
         refine rvc_un (rexec_append C rfl rfl rfl rfl rfl rfl rfl rfl (fun _ h => by cases h) rfl (en := eCommand) (D0 := l) (D := [nx2.1]) rfl rfl rfl rfl (by have := check_len (c := (Chain.mk vc vc1)); have := check_le6 (c := (Chain.mk vc vc1)); have := beq_iff_eq.1 h25; have := eq_of_bne_false h26; have := of_decide_eq_false h28; have := ne_of_beq_false h29; have := eq_of_bne_false h33; have := eq_of_bne_false h34; first | omega | (simp <;> omega)) (by decide) (nn := (l ++ [nx2.1]).length) (by simp) ?_)
         refine rvP C (.agg [.pv (.lit (.int .i64 jo2.1.epoch)), sS (some jo2.1.members.nil) eMember jo2.1.members.D]) ?_
         refine rvP C (.sl 77 0 ((l ++ [nx2.1]).length) 4 false) ?_
         refine rvc_un (rexec_prim C (δ := { v := .undef, wr := [(4, some (.cells [.pv (.lit (.int .i64 jo2.1.epoch)), sS (some jo2.1.members.nil) eMember jo2.1.members.D]))] }) rfl rfl rfl rfl trivial rfl ?_)
         refine rvc_nil ?_
         have h35 : (planM alive jo2.1.members.D) < (planM alive vc1.D) := by first | exact (stepA ha (c := Chain.mk vc vc1) (by assumption) (by assumption) (by assumption) (by assumption) (by assumption) (by assumption)).1 | exact (stepB ha (c := Chain.mk vc vc1) (by assumption) (by assumption) (by assumption) (by assumption) (by assumption) (by assumption)).1 | exact (stepC ha (c := Chain.mk vc vc1) (by assumption) (by assumption) (by assumption)).elim
         obtain ⟨nn, rfl⟩ : ∃ nn, n_ = nn + 1 := ⟨n_ - 1, by omega⟩
         refine ⟨nn, ((l ++ [nx2.1]), jo2.1.epoch, jo2.1.members), by omega, ⟨by show (planM alive jo2.1.members.D) ≤ nn; omega, hR, (by have hlt_ := ‹planM _ _ < planM _ _›; first | (have h_ := (stepA ha (c := Chain.mk vc vc1) (by assumption) (by assumption) (by assumption) (by assumption) (by assumption) (by assumption)); exact ⟨h_.2.1, h_.2.2, (by simp only [List.length_append, List.length_cons, List.length_nil]; omega)⟩) | (have h_ := (stepB ha (c := Chain.mk vc vc1) (by assumption) (by assumption) (by assumption) (by assumption) (by assumption) (by assumption)); exact ⟨h_.2.1, h_.2.2, (by simp only [List.length_append, List.length_cons, List.length_nil]; omega)⟩) | exact (stepC ha (c := Chain.mk vc vc1) (by assumption) (by assumption) (by assumption)).elim)⟩, ?_⟩
         · exact ⟨fun b => bif b == 900 then 77 else (fun b => b) b, WeakerR.ofL (Ks := [4, 6, 7, 9, 900]) hI ⟨⟨rfl, rfl⟩, ⟨rfl, rfl⟩, ⟨rfl, rfl⟩, ⟨rfl, rfl⟩, ⟨rfl, rfl⟩, ⟨grow_to rfl rfl app_ne rfl rfl, grow_within rfl⟩, trivial⟩ (okH_grow (fun _ => rfl) rfl rfl (okH_cons rfl rfl rfl rfl (okH_cons rfl rfl rfl rfl (okH_cons rfl rfl rfl rfl (okH_cons rfl rfl rfl rfl (okH_nil)))))) rfl⟩
  ·
   replace hR := of_false h25 hR
   refine Awp.skip ?_
   refine Awp.consP C ?_
   refine rvP C (.agg [.pv (.lit (.int .i64 vc)), sS (some vc1.nil) eMember vc1.D]) ?_
   refine rvP C (.pv (.lit (.int .u64 alive))) ?_
   refine rvP C (.agg [.pv (.lit (.int .i64 (h 0))), .pv (.lit (.int .i64 (h 1))), .pv (.lit (.int .i64 (h 2))), .pv (.lit (.int .i64 (h 3))), .pv (.lit (.int .i64 (h 4))), .pv (.lit (.int .i64 (h 5)))]) ?_
   refine rvP C (.agg [.pv (.lit (.int .i64 (w 0))), .pv (.lit (.int .i64 (w 1))), .pv (.lit (.int .i64 (w 2)))]) ?_
   obtain ⟨nx3, hq_nx3⟩ : ∃ q_, q_ = (nextP (Chain.mk vc vc1) alive h w) := ⟨_, rfl⟩
   have hc_nx3 := (nextP_calls (Chain.mk vc vc1) alive h w (by assumption) (by show vc1.D.length ≤ 1000000; have := check_len (c := (Chain.mk vc vc1)); have := check_le6 (c := (Chain.mk vc vc1)); have := ne_of_beq_false h25; omega))
   first | rw [← hq_nx3] at hR hc_nx3 | (unfold allP at hR; rw [← hq_nx3] at hR hc_nx3) | (unfold allP_l0 at hR; rw [← hq_nx3] at hR hc_nx3)
   refine rvc_un (rexec_call hP C rfl rfl rfl hc_nx3 ?_)
   refine rvP C (.tup [.agg [.pv (.lit (.int .i64 nx3.1.kind)), .pv (.lit (.int .i64 nx3.1.node)), .pv (.lit (.int .i64 nx3.1.site)), .pv (.lit (.int .i64 nx3.1.epoch))], .pv (.lit (.bool nx3.2.1)), .pv (.lit (.int .i64 nx3.2.2))]) ?_
   refine rvP C (.agg [.pv (.lit (.int .i64 nx3.1.kind)), .pv (.lit (.int .i64 nx3.1.node)), .pv (.lit (.int .i64 nx3.1.site)), .pv (.lit (.int .i64 nx3.1.epoch))]) ?_
   refine rvP C (.pv (.lit (.bool nx3.2.1))) ?_
   refine rvP C (.pv (.lit (.int .i64 nx3.2.2))) ?_
   refine rvc_un (rexec_prim C (δ := { v := .ptr 12 0, new := [(12, .cells [.pv (.lit (.int .i64 0)), .pv (.lit (.int .i64 0)), .pv (.lit (.int .i64 0)), .pv (.lit (.int .i64 0))])] }) rfl rfl rfl rfl trivial rfl ?_)
   refine rvc_un (rexec_prim C (δ := { v := .undef, wr := [(12, some (.cells [.pv (.lit (.int .i64 nx3.1.kind)), .pv (.lit (.int .i64 nx3.1.node)), .pv (.lit (.int .i64 nx3.1.site)), .pv (.lit (.int .i64 nx3.1.epoch))]))] }) rfl rfl rfl rfl trivial rfl ?_)
   refine rvP C (.pv (.lit (.bool nx3.2.1))) ?_
   refine rvP C (.pv (.lit (.int .i64 nx3.2.2))) ?_
   refine rvc_nil ?_
   refine Awp.seq ?_
   refine Awp.consP C ?_
   refine rvP C (.pv (.lit (.int .i64 nx3.2.2))) ?_
   refine rvP C (.pv (.lit (.bool (nx3.2.2 != 0)))) ?_
   refine rvc_nil ?_
   refine Awp.cond (b := (nx3.2.2 != 0)) rfl (fun h36 => ?_) (fun h36 => ?_)
   ·
    replace hR := of_true h36 hR
    refine Awp.consP C ?_
    refine rvP C (.agg [.pv (.lit (.int .i64 0)), sS (some true) eMember []]) ?_
    refine rvP C (.pv (.lit (.int .i64 nx3.2.2))) ?_
    refine rvP C (sS (some true) eCommand []) ?_
    refine rvc_un (rexec_prim C (δ := { v := .undef, wr := [(9, some (.cells [.pv (.lit (.int .i64 0)), sS (some true) eMember []]))] }) rfl rfl rfl rfl trivial rfl ?_)
    refine rvP C (.pv (.lit (.int .i64 nx3.2.2))) ?_
    refine rvc_nil ?_
    refine Awp.ret ?_
    subst hR
    exact ⟨.inl rfl, rfl⟩
   ·
    replace hR := of_false h36 hR
    refine Awp.skip ?_
    refine Awp.seq ?_
    refine Awp.consP C ?_
    refine rvP C (.pv (.lit (.bool nx3.2.1))) ?_
    refine rvP C (.pv (.lit (.bool (!nx3.2.1)))) ?_
    refine rvP C (.pv (.lit (.bool (!nx3.2.1)))) ?_
    refine rvc_case 37 (!nx3.2.1) rfl (fun h37 => ?_) (fun h37 => ?_)
    ·
     replace hR := of_true h37 hR
     refine rvS ?_
     refine rvS ?_
     refine rvS ?_
     refine rvP C (.pv (.lit (.bool true))) ?_
     refine rvc_nil ?_
     refine Awp.condT (b := true) rfl rfl ?_
     refine Awp.consP C ?_
     refine rvP C (.sl 900 0 l.length 4 false) ?_
     refine rvP C (.agg [.pv (.lit (.int .i64 vc)), sS (some vc1.nil) eMember vc1.D]) ?_
     refine rvP C (.sl 900 0 l.length 4 false) ?_
     refine rvc_un (rexec_prim C (δ := { v := .undef, wr := [(9, some (.cells [.pv (.lit (.int .i64 vc)), sS (some vc1.nil) eMember vc1.D]))] }) rfl rfl rfl rfl trivial rfl ?_)
     refine rvP C (.pv (.lit (.int .i64 0))) ?_
     refine rvc_nil ?_
     refine Awp.freezeW 900 (encL eCommand l) ?_ [(8, sS (some l.isEmpty) eCommand l), (9, .ptr 9 0), (10, .pv (.lit (.int .i64 0)))] [(4, .cells [.pv (.lit (.int .i64 vc)), sS (some vc1.nil) eMember vc1.D]), (6, .cells [.pv (.lit (.int .i64 (h 0))), .pv (.lit (.int .i64 (h 1))), .pv (.lit (.int .i64 (h 2))), .pv (.lit (.int .i64 (h 3))), .pv (.lit (.int .i64 (h 4))), .pv (.lit (.int .i64 (h 5)))]), (7, .cells [.pv (.lit (.int .i64 (w 0))), .pv (.lit (.int .i64 (w 1))), .pv (.lit (.int .i64 (w 2)))]), (9, .cells [.pv (.lit (.int .i64 vc)), sS (some vc1.nil) eMember vc1.D]), (12, .cells [.pv (.lit (.int .i64 nx3.1.kind)), .pv (.lit (.int .i64 nx3.1.node)), .pv (.lit (.int .i64 nx3.1.site)), .pv (.lit (.int .i64 nx3.1.epoch))])] ?_ ?_ ?_
     · rfl
     · exact ⟨⟨_, rfl, .inl (.inr ⟨_, _, _, rfl, by rw [ne_isEmpty h3]; rfl⟩)⟩, ⟨_, rfl, .inl (.inl rfl)⟩, ⟨_, rfl, .inl (.inl rfl)⟩, trivial⟩
     · exact ⟨⟨(by show (4 : Nat) ≠ 900; decide), .inl rfl⟩, ⟨(by show (6 : Nat) ≠ 900; decide), .inl rfl⟩, ⟨(by show (7 : Nat) ≠ 900; decide), .inl rfl⟩, ⟨(by show (9 : Nat) ≠ 900; decide), .inl rfl⟩, ⟨(by show (12 : Nat) ≠ 900; decide), .inl rfl⟩, trivial⟩
     refine Awp.ret ?_
     subst hR
     exact ⟨.inl rfl, rfl⟩
    ·
     replace hR := of_false h37 hR
     refine rvO C (.ptr 4 0) ?_
     refine rvO C (.pv (.lit (.int .i64 vc))) ?_
     refine rvO C (.pv (.lit (.bool (decide (vc ≥ 1099511627776))))) ?_
     refine rvP C (.pv (.lit (.bool (decide (vc ≥ 1099511627776))))) ?_
     refine rvc_nil ?_
     refine Awp.cond (b := (decide (vc ≥ 1099511627776))) rfl (fun h38 => ?_) (fun h38 => ?_)
     ·
      replace hR := of_true h38 hR
      refine Awp.consP C ?_
      refine rvP C (.sl 900 0 l.length 4 false) ?_
      refine rvP C (.agg [.pv (.lit (.int .i64 vc)), sS (some vc1.nil) eMember vc1.D]) ?_
      refine rvP C (.sl 900 0 l.length 4 false) ?_
      refine rvc_un (rexec_prim C (δ := { v := .undef, wr := [(9, some (.cells [.pv (.lit (.int .i64 vc)), sS (some vc1.nil) eMember vc1.D]))] }) rfl rfl rfl rfl trivial rfl ?_)
      refine rvP C (.pv (.lit (.int .i64 0))) ?_
      refine rvc_nil ?_
      refine Awp.freezeW 900 (encL eCommand l) ?_ [(8, sS (some l.isEmpty) eCommand l), (9, .ptr 9 0), (10, .pv (.lit (.int .i64 0)))] [(4, .cells [.pv (.lit (.int .i64 vc)), sS (some vc1.nil) eMember vc1.D]), (6, .cells [.pv (.lit (.int .i64 (h 0))), .pv (.lit (.int .i64 (h 1))), .pv (.lit (.int .i64 (h 2))), .pv (.lit (.int .i64 (h 3))), .pv (.lit (.int .i64 (h 4))), .pv (.lit (.int .i64 (h 5)))]), (7, .cells [.pv (.lit (.int .i64 (w 0))), .pv (.lit (.int .i64 (w 1))), .pv (.lit (.int .i64 (w 2)))]), (9, .cells [.pv (.lit (.int .i64 vc)), sS (some vc1.nil) eMember vc1.D]), (12, .cells [.pv (.lit (.int .i64 nx3.1.kind)), .pv (.lit (.int .i64 nx3.1.node)), .pv (.lit (.int .i64 nx3.1.site)), .pv (.lit (.int .i64 nx3.1.epoch))])] ?_ ?_ ?_
      · rfl
      · exact ⟨⟨_, rfl, .inl (.inr ⟨_, _, _, rfl, by rw [ne_isEmpty h3]; rfl⟩)⟩, ⟨_, rfl, .inl (.inl rfl)⟩, ⟨_, rfl, .inl (.inl rfl)⟩, trivial⟩
      · exact ⟨⟨(by show (4 : Nat) ≠ 900; decide), .inl rfl⟩, ⟨(by show (6 : Nat) ≠ 900; decide), .inl rfl⟩, ⟨(by show (7 : Nat) ≠ 900; decide), .inl rfl⟩, ⟨(by show (9 : Nat) ≠ 900; decide), .inl rfl⟩, ⟨(by show (12 : Nat) ≠ 900; decide), .inl rfl⟩, trivial⟩
      refine Awp.ret ?_
      subst hR
      exact ⟨.inl rfl, rfl⟩
     ·
      replace hR := of_false h38 hR
      refine Awp.skip ?_
      refine Awp.consP C ?_
      refine rvP C (.agg [.pv (.lit (.int .i64 0)), sS (some true) eMember []]) ?_
      refine rvc_un (rexec_prim C (δ := { v := .ptr 15 0, new := [(15, .cells [.pv (.lit (.int .i64 0)), sS (some true) eMember []])] }) rfl rfl rfl rfl trivial rfl ?_)
      refine rvc_un (rexec_prim C (δ := { v := .undef, wr := [(15, some (.cells [.pv (.lit (.int .i64 0)), sS (some true) eMember []]))] }) rfl rfl rfl rfl trivial rfl ?_)
      refine rvc_nil ?_
      refine Awp.seq ?_
      refine Awp.consP C ?_
      refine rvP C (.ptr 12 0) ?_
      refine rvP C (.pv (.lit (.int .i64 nx3.1.kind))) ?_
      refine rvP C (.pv (.lit (.bool (nx3.1.kind == 1)))) ?_
      refine rvc_nil ?_
      refine Awp.cond (b := (nx3.1.kind == 1)) rfl (fun h39 => ?_) (fun h39 => ?_)
      ·
       replace hR := of_true h39 hR
       refine Awp.regionP C ?_
       refine rvP C (.agg [.pv (.lit (.int .i64 vc)), sS (some vc1.nil) eMember vc1.D]) ?_
       refine rvP C (.ptr 12 1) ?_
       refine rvP C (.pv (.lit (.int .i64 nx3.1.node))) ?_
       obtain ⟨dr3, hq_dr3⟩ : ∃ q_, q_ = (drop (Chain.mk vc vc1) nx3.1.node) := ⟨_, rfl⟩
       have hc_dr3 := (drop_calls (Chain.mk vc vc1) nx3.1.node (by show vc1.D.length ≤ 1000000; have := check_len (c := (Chain.mk vc vc1)); have := check_le6 (c := (Chain.mk vc vc1)); have := ne_of_beq_false h25; have := eq_of_bne_false h36; have := of_decide_eq_false h38; have := beq_iff_eq.1 h39; omega))
       first | rw [← hq_dr3] at hR hc_dr3 | (unfold allP at hR; rw [← hq_dr3] at hR hc_dr3) | (unfold allP_l0 at hR; rw [← hq_dr3] at hR hc_dr3)
       refine rvc_un (rexec_call hP C rfl rfl rfl hc_dr3 ?_)
       refine rvP C (.tup [.agg [.pv (.lit (.int .i64 dr3.1.epoch)), sS (some dr3.1.members.nil) eMember dr3.1.members.D], .pv (.lit (.int .i64 dr3.2))]) ?_
       refine rvP C (.agg [.pv (.lit (.int .i64 dr3.1.epoch)), sS (some dr3.1.members.nil) eMember dr3.1.members.D]) ?_
       refine rvP C (.pv (.lit (.int .i64 dr3.2))) ?_
       refine rvc_un (rexec_prim C (δ := { v := .undef, wr := [(15, some (.cells [.pv (.lit (.int .i64 dr3.1.epoch)), sS (some dr3.1.members.nil) eMember dr3.1.members.D]))] }) rfl rfl rfl rfl trivial rfl ?_)
       refine rvP C (.pv (.lit (.int .i64 dr3.2))) ?_
       refine rvc_nil ?_
       refine Awp.seq ?_
       refine Awp.consP C ?_
       refine rvP C (.pv (.lit (.int .i64 dr3.2))) ?_
       refine rvP C (.pv (.lit (.bool (dr3.2 != 0)))) ?_
       refine rvP C (.pv (.lit (.bool (dr3.2 != 0)))) ?_
       refine rvc_case 67 (dr3.2 != 0) rfl (fun h40 => ?_) (fun h40 => ?_)
       ·
        replace hR := of_true h40 hR
        refine rvS ?_
        refine rvS ?_
        refine rvS ?_
        refine rvP C (.pv (.lit (.bool true))) ?_
        refine rvc_nil ?_
        refine Awp.condT (b := true) rfl rfl ?_
        refine Awp.consP C ?_
        refine rvP C (.sl 900 0 l.length 4 false) ?_
        refine rvP C (.agg [.pv (.lit (.int .i64 vc)), sS (some vc1.nil) eMember vc1.D]) ?_
        refine rvP C (.sl 900 0 l.length 4 false) ?_
        refine rvc_un (rexec_prim C (δ := { v := .undef, wr := [(9, some (.cells [.pv (.lit (.int .i64 vc)), sS (some vc1.nil) eMember vc1.D]))] }) rfl rfl rfl rfl trivial rfl ?_)
        refine rvP C (.pv (.lit (.int .i64 0))) ?_
        refine rvc_nil ?_
        refine Awp.freezeW 900 (encL eCommand l) ?_ [(8, sS (some l.isEmpty) eCommand l), (9, .ptr 9 0), (10, .pv (.lit (.int .i64 0)))] [(4, .cells [.pv (.lit (.int .i64 vc)), sS (some vc1.nil) eMember vc1.D]), (6, .cells [.pv (.lit (.int .i64 (h 0))), .pv (.lit (.int .i64 (h 1))), .pv (.lit (.int .i64 (h 2))), .pv (.lit (.int .i64 (h 3))), .pv (.lit (.int .i64 (h 4))), .pv (.lit (.int .i64 (h 5)))]), (7, .cells [.pv (.lit (.int .i64 (w 0))), .pv (.lit (.int .i64 (w 1))), .pv (.lit (.int .i64 (w 2)))]), (9, .cells [.pv (.lit (.int .i64 vc)), sS (some vc1.nil) eMember vc1.D]), (12, .cells [.pv (.lit (.int .i64 nx3.1.kind)), .pv (.lit (.int .i64 nx3.1.node)), .pv (.lit (.int .i64 nx3.1.site)), .pv (.lit (.int .i64 nx3.1.epoch))]), (15, .cells [.pv (.lit (.int .i64 dr3.1.epoch)), sS (some dr3.1.members.nil) eMember dr3.1.members.D])] ?_ ?_ ?_
        · rfl
        · exact ⟨⟨_, rfl, .inl (.inr ⟨_, _, _, rfl, by rw [ne_isEmpty h3]; rfl⟩)⟩, ⟨_, rfl, .inl (.inl rfl)⟩, ⟨_, rfl, .inl (.inl rfl)⟩, trivial⟩
        · exact ⟨⟨(by show (4 : Nat) ≠ 900; decide), .inl rfl⟩, ⟨(by show (6 : Nat) ≠ 900; decide), .inl rfl⟩, ⟨(by show (7 : Nat) ≠ 900; decide), .inl rfl⟩, ⟨(by show (9 : Nat) ≠ 900; decide), .inl rfl⟩, ⟨(by show (12 : Nat) ≠ 900; decide), .inl rfl⟩, ⟨(by show (15 : Nat) ≠ 900; decide), .inl rfl⟩, trivial⟩
        refine Awp.ret ?_
        subst hR
        exact ⟨.inl rfl, rfl⟩
       ·
        replace hR := of_false h40 hR
        refine rvO C (.agg [.pv (.lit (.int .i64 nx3.1.kind)), .pv (.lit (.int .i64 nx3.1.node)), .pv (.lit (.int .i64 nx3.1.site)), .pv (.lit (.int .i64 nx3.1.epoch))]) ?_
        refine rvc_open rfl rfl rfl (rexec_call hP C rfl rfl rfl (cmdCheck_calls nx3.1) ?_)
        refine rvO C (.pv (.lit (.bool ((cmdCheck nx3.1) != 0)))) ?_
        refine rvP C (.pv (.lit (.bool ((cmdCheck nx3.1) != 0)))) ?_
        refine rvc_nil ?_
        refine Awp.cond (b := ((cmdCheck nx3.1) != 0)) rfl (fun h41 => ?_) (fun h41 => ?_)
        ·
         replace hR := of_true h41 hR
         refine Awp.consP C ?_
         refine rvP C (.sl 900 0 l.length 4 false) ?_
         refine rvP C (.agg [.pv (.lit (.int .i64 vc)), sS (some vc1.nil) eMember vc1.D]) ?_
         refine rvP C (.sl 900 0 l.length 4 false) ?_
         refine rvc_un (rexec_prim C (δ := { v := .undef, wr := [(9, some (.cells [.pv (.lit (.int .i64 vc)), sS (some vc1.nil) eMember vc1.D]))] }) rfl rfl rfl rfl trivial rfl ?_)
         refine rvP C (.pv (.lit (.int .i64 0))) ?_
         refine rvc_nil ?_
         refine Awp.freezeW 900 (encL eCommand l) ?_ [(8, sS (some l.isEmpty) eCommand l), (9, .ptr 9 0), (10, .pv (.lit (.int .i64 0)))] [(4, .cells [.pv (.lit (.int .i64 vc)), sS (some vc1.nil) eMember vc1.D]), (6, .cells [.pv (.lit (.int .i64 (h 0))), .pv (.lit (.int .i64 (h 1))), .pv (.lit (.int .i64 (h 2))), .pv (.lit (.int .i64 (h 3))), .pv (.lit (.int .i64 (h 4))), .pv (.lit (.int .i64 (h 5)))]), (7, .cells [.pv (.lit (.int .i64 (w 0))), .pv (.lit (.int .i64 (w 1))), .pv (.lit (.int .i64 (w 2)))]), (9, .cells [.pv (.lit (.int .i64 vc)), sS (some vc1.nil) eMember vc1.D]), (12, .cells [.pv (.lit (.int .i64 nx3.1.kind)), .pv (.lit (.int .i64 nx3.1.node)), .pv (.lit (.int .i64 nx3.1.site)), .pv (.lit (.int .i64 nx3.1.epoch))]), (15, .cells [.pv (.lit (.int .i64 dr3.1.epoch)), sS (some dr3.1.members.nil) eMember dr3.1.members.D])] ?_ ?_ ?_
         · rfl
         · exact ⟨⟨_, rfl, .inl (.inr ⟨_, _, _, rfl, by rw [ne_isEmpty h3]; rfl⟩)⟩, ⟨_, rfl, .inl (.inl rfl)⟩, ⟨_, rfl, .inl (.inl rfl)⟩, trivial⟩
         · exact ⟨⟨(by show (4 : Nat) ≠ 900; decide), .inl rfl⟩, ⟨(by show (6 : Nat) ≠ 900; decide), .inl rfl⟩, ⟨(by show (7 : Nat) ≠ 900; decide), .inl rfl⟩, ⟨(by show (9 : Nat) ≠ 900; decide), .inl rfl⟩, ⟨(by show (12 : Nat) ≠ 900; decide), .inl rfl⟩, ⟨(by show (15 : Nat) ≠ 900; decide), .inl rfl⟩, trivial⟩
         refine Awp.ret ?_
         subst hR
         exact ⟨.inl rfl, rfl⟩
        ·
         replace hR := of_false h41 hR
         refine Awp.skip ?_
         refine Awp.region C (fun o => match o.dst with | some 77 => .writes [77, 900] | some 78 => .reads [15] | _ => .pure) (by kernel_rfl) ?_
         refine rvP C (.sl 900 0 l.length 4 false) ?_
         refine rvP C (.agg [.pv (.lit (.int .i64 nx3.1.kind)), .pv (.lit (.int .i64 nx3.1.node)), .pv (.lit (.int .i64 nx3.1.site)), .pv (.lit (.int .i64 nx3.1.epoch))]) ?_
         refine rvc_un (rexec_buildSliceF C eCommand [nx3.1] rfl rfl rfl rfl rfl rfl rfl (by decide) rfl ?_)
         refine rvc_un (rexec_append C rfl rfl rfl rfl rfl rfl rfl rfl (fun _ h => by cases h) rfl (en := eCommand) (D0 := l) (D := [nx3.1]) rfl rfl rfl rfl (by have := check_len (c := (Chain.mk vc vc1)); have := check_le6 (c := (Chain.mk vc vc1)); have := ne_of_beq_false h25; have := eq_of_bne_false h36; have := of_decide_eq_false h38; have := beq_iff_eq.1 h39; have := eq_of_bne_false h40; have := eq_of_bne_false h41; first | omega | (simp <;> omega)) (by decide) (nn := (l ++ [nx3.1]).length) (by simp) ?_)
         refine rvP C (.agg [.pv (.lit (.int .i64 dr3.1.epoch)), sS (some dr3.1.members.nil) eMember dr3.1.members.D]) ?_
         refine rvP C (.sl 77 0 ((l ++ [nx3.1]).length) 4 false) ?_
         refine rvc_un (rexec_prim C (δ := { v := .undef, wr := [(4, some (.cells [.pv (.lit (.int .i64 dr3.1.epoch)), sS (some dr3.1.members.nil) eMember dr3.1.members.D]))] }) rfl rfl rfl rfl trivial rfl ?_)
         refine rvc_nil ?_
         have h42 : (planM alive dr3.1.members.D) < (planM alive vc1.D) := by first | exact (stepA ha (c := Chain.mk vc vc1) (by assumption) (by assumption) (by assumption) (by assumption) (by assumption) (by assumption)).1 | exact (stepB ha (c := Chain.mk vc vc1) (by assumption) (by assumption) (by assumption) (by assumption) (by assumption) (by assumption)).1 | exact (stepC ha (c := Chain.mk vc vc1) (by assumption) (by assumption) (by assumption)).elim
         obtain ⟨nn, rfl⟩ : ∃ nn, n_ = nn + 1 := ⟨n_ - 1, by omega⟩
         refine ⟨nn, ((l ++ [nx3.1]), dr3.1.epoch, dr3.1.members), by omega, ⟨by show (planM alive dr3.1.members.D) ≤ nn; omega, hR, (by have hlt_ := ‹planM _ _ < planM _ _›; first | (have h_ := (stepA ha (c := Chain.mk vc vc1) (by assumption) (by assumption) (by assumption) (by assumption) (by assumption) (by assumption)); exact ⟨h_.2.1, h_.2.2, (by simp only [List.length_append, List.length_cons, List.length_nil]; omega)⟩) | (have h_ := (stepB ha (c := Chain.mk vc vc1) (by assumption) (by assumption) (by assumption) (by assumption) (by assumption) (by assumption)); exact ⟨h_.2.1, h_.2.2, (by simp only [List.length_append, List.length_cons, List.length_nil]; omega)⟩) | exact (stepC ha (c := Chain.mk vc vc1) (by assumption) (by assumption) (by assumption)).elim)⟩, ?_⟩
         · exact ⟨fun b => bif b == 900 then 77 else (fun b => b) b, WeakerR.ofL (Ks := [4, 6, 7, 9, 900]) hI ⟨⟨rfl, rfl⟩, ⟨rfl, rfl⟩, ⟨rfl, rfl⟩, ⟨rfl, rfl⟩, ⟨rfl, rfl⟩, ⟨grow_to rfl rfl app_ne rfl rfl, grow_within rfl⟩, trivial⟩ (okH_grow (fun _ => rfl) rfl rfl (okH_cons rfl rfl rfl rfl (okH_cons rfl rfl rfl rfl (okH_cons rfl rfl rfl rfl (okH_cons rfl rfl rfl rfl (okH_nil)))))) rfl⟩
      ·
       replace hR := of_false h39 hR
       refine Awp.regionP C ?_
       refine rvP C (.agg [.pv (.lit (.int .i64 vc)), sS (some vc1.nil) eMember vc1.D]) ?_
       refine rvP C (.ptr 12 1) ?_
       refine rvP C (.pv (.lit (.int .i64 nx3.1.node))) ?_
       refine rvP C (.ptr 12 2) ?_
       refine rvP C (.pv (.lit (.int .i64 nx3.1.site))) ?_
       refine rvP C (.agg [.pv (.lit (.int .i64 nx3.1.node)), .pv (.lit (.int .i64 nx3.1.site)), .pv (.lit (.bool false))]) ?_
       obtain ⟨jo3, hq_jo3⟩ : ∃ q_, q_ = (join (Chain.mk vc vc1) (Member.mk nx3.1.node nx3.1.site false)) := ⟨_, rfl⟩
       have hc_jo3 := (join_calls (Chain.mk vc vc1) (Member.mk nx3.1.node nx3.1.site false) (by assumption) (by show vc1.D.length ≤ 1000000; have := check_len (c := (Chain.mk vc vc1)); have := check_le6 (c := (Chain.mk vc vc1)); have := ne_of_beq_false h25; have := eq_of_bne_false h36; have := of_decide_eq_false h38; have := ne_of_beq_false h39; omega))
       first | rw [← hq_jo3] at hR hc_jo3 | (unfold allP at hR; rw [← hq_jo3] at hR hc_jo3) | (unfold allP_l0 at hR; rw [← hq_jo3] at hR hc_jo3)
       refine rvc_un (rexec_call hP C rfl rfl rfl hc_jo3 ?_)
       refine rvP C (.tup [.agg [.pv (.lit (.int .i64 jo3.1.epoch)), sS (some jo3.1.members.nil) eMember jo3.1.members.D], .pv (.lit (.int .i64 jo3.2))]) ?_
       refine rvP C (.agg [.pv (.lit (.int .i64 jo3.1.epoch)), sS (some jo3.1.members.nil) eMember jo3.1.members.D]) ?_
       refine rvP C (.pv (.lit (.int .i64 jo3.2))) ?_
       refine rvc_un (rexec_prim C (δ := { v := .undef, wr := [(15, some (.cells [.pv (.lit (.int .i64 jo3.1.epoch)), sS (some jo3.1.members.nil) eMember jo3.1.members.D]))] }) rfl rfl rfl rfl trivial rfl ?_)
       refine rvP C (.pv (.lit (.int .i64 jo3.2))) ?_
       refine rvc_nil ?_
       refine Awp.seq ?_
       refine Awp.consP C ?_
       refine rvP C (.pv (.lit (.int .i64 jo3.2))) ?_
       refine rvP C (.pv (.lit (.bool (jo3.2 != 0)))) ?_
       refine rvP C (.pv (.lit (.bool (jo3.2 != 0)))) ?_
       refine rvc_case 67 (jo3.2 != 0) rfl (fun h43 => ?_) (fun h43 => ?_)
       ·
        replace hR := of_true h43 hR
        refine rvS ?_
        refine rvS ?_
        refine rvS ?_
        refine rvP C (.pv (.lit (.bool true))) ?_
        refine rvc_nil ?_
        refine Awp.condT (b := true) rfl rfl ?_
        refine Awp.consP C ?_
        refine rvP C (.sl 900 0 l.length 4 false) ?_
        refine rvP C (.agg [.pv (.lit (.int .i64 vc)), sS (some vc1.nil) eMember vc1.D]) ?_
        refine rvP C (.sl 900 0 l.length 4 false) ?_
        refine rvc_un (rexec_prim C (δ := { v := .undef, wr := [(9, some (.cells [.pv (.lit (.int .i64 vc)), sS (some vc1.nil) eMember vc1.D]))] }) rfl rfl rfl rfl trivial rfl ?_)
        refine rvP C (.pv (.lit (.int .i64 0))) ?_
        refine rvc_nil ?_
        refine Awp.freezeW 900 (encL eCommand l) ?_ [(8, sS (some l.isEmpty) eCommand l), (9, .ptr 9 0), (10, .pv (.lit (.int .i64 0)))] [(4, .cells [.pv (.lit (.int .i64 vc)), sS (some vc1.nil) eMember vc1.D]), (6, .cells [.pv (.lit (.int .i64 (h 0))), .pv (.lit (.int .i64 (h 1))), .pv (.lit (.int .i64 (h 2))), .pv (.lit (.int .i64 (h 3))), .pv (.lit (.int .i64 (h 4))), .pv (.lit (.int .i64 (h 5)))]), (7, .cells [.pv (.lit (.int .i64 (w 0))), .pv (.lit (.int .i64 (w 1))), .pv (.lit (.int .i64 (w 2)))]), (9, .cells [.pv (.lit (.int .i64 vc)), sS (some vc1.nil) eMember vc1.D]), (12, .cells [.pv (.lit (.int .i64 nx3.1.kind)), .pv (.lit (.int .i64 nx3.1.node)), .pv (.lit (.int .i64 nx3.1.site)), .pv (.lit (.int .i64 nx3.1.epoch))]), (15, .cells [.pv (.lit (.int .i64 jo3.1.epoch)), sS (some jo3.1.members.nil) eMember jo3.1.members.D])] ?_ ?_ ?_
        · rfl
        · exact ⟨⟨_, rfl, .inl (.inr ⟨_, _, _, rfl, by rw [ne_isEmpty h3]; rfl⟩)⟩, ⟨_, rfl, .inl (.inl rfl)⟩, ⟨_, rfl, .inl (.inl rfl)⟩, trivial⟩
        · exact ⟨⟨(by show (4 : Nat) ≠ 900; decide), .inl rfl⟩, ⟨(by show (6 : Nat) ≠ 900; decide), .inl rfl⟩, ⟨(by show (7 : Nat) ≠ 900; decide), .inl rfl⟩, ⟨(by show (9 : Nat) ≠ 900; decide), .inl rfl⟩, ⟨(by show (12 : Nat) ≠ 900; decide), .inl rfl⟩, ⟨(by show (15 : Nat) ≠ 900; decide), .inl rfl⟩, trivial⟩
        refine Awp.ret ?_
        subst hR
        exact ⟨.inl rfl, rfl⟩
       ·
        replace hR := of_false h43 hR
        refine rvO C (.agg [.pv (.lit (.int .i64 nx3.1.kind)), .pv (.lit (.int .i64 nx3.1.node)), .pv (.lit (.int .i64 nx3.1.site)), .pv (.lit (.int .i64 nx3.1.epoch))]) ?_
        refine rvc_open rfl rfl rfl (rexec_call hP C rfl rfl rfl (cmdCheck_calls nx3.1) ?_)
        refine rvO C (.pv (.lit (.bool ((cmdCheck nx3.1) != 0)))) ?_
        refine rvP C (.pv (.lit (.bool ((cmdCheck nx3.1) != 0)))) ?_
        refine rvc_nil ?_
        refine Awp.cond (b := ((cmdCheck nx3.1) != 0)) rfl (fun h44 => ?_) (fun h44 => ?_)
        ·
         replace hR := of_true h44 hR
         refine Awp.consP C ?_
         refine rvP C (.sl 900 0 l.length 4 false) ?_
         refine rvP C (.agg [.pv (.lit (.int .i64 vc)), sS (some vc1.nil) eMember vc1.D]) ?_
         refine rvP C (.sl 900 0 l.length 4 false) ?_
         refine rvc_un (rexec_prim C (δ := { v := .undef, wr := [(9, some (.cells [.pv (.lit (.int .i64 vc)), sS (some vc1.nil) eMember vc1.D]))] }) rfl rfl rfl rfl trivial rfl ?_)
         refine rvP C (.pv (.lit (.int .i64 0))) ?_
         refine rvc_nil ?_
         refine Awp.freezeW 900 (encL eCommand l) ?_ [(8, sS (some l.isEmpty) eCommand l), (9, .ptr 9 0), (10, .pv (.lit (.int .i64 0)))] [(4, .cells [.pv (.lit (.int .i64 vc)), sS (some vc1.nil) eMember vc1.D]), (6, .cells [.pv (.lit (.int .i64 (h 0))), .pv (.lit (.int .i64 (h 1))), .pv (.lit (.int .i64 (h 2))), .pv (.lit (.int .i64 (h 3))), .pv (.lit (.int .i64 (h 4))), .pv (.lit (.int .i64 (h 5)))]), (7, .cells [.pv (.lit (.int .i64 (w 0))), .pv (.lit (.int .i64 (w 1))), .pv (.lit (.int .i64 (w 2)))]), (9, .cells [.pv (.lit (.int .i64 vc)), sS (some vc1.nil) eMember vc1.D]), (12, .cells [.pv (.lit (.int .i64 nx3.1.kind)), .pv (.lit (.int .i64 nx3.1.node)), .pv (.lit (.int .i64 nx3.1.site)), .pv (.lit (.int .i64 nx3.1.epoch))]), (15, .cells [.pv (.lit (.int .i64 jo3.1.epoch)), sS (some jo3.1.members.nil) eMember jo3.1.members.D])] ?_ ?_ ?_
         · rfl
         · exact ⟨⟨_, rfl, .inl (.inr ⟨_, _, _, rfl, by rw [ne_isEmpty h3]; rfl⟩)⟩, ⟨_, rfl, .inl (.inl rfl)⟩, ⟨_, rfl, .inl (.inl rfl)⟩, trivial⟩
         · exact ⟨⟨(by show (4 : Nat) ≠ 900; decide), .inl rfl⟩, ⟨(by show (6 : Nat) ≠ 900; decide), .inl rfl⟩, ⟨(by show (7 : Nat) ≠ 900; decide), .inl rfl⟩, ⟨(by show (9 : Nat) ≠ 900; decide), .inl rfl⟩, ⟨(by show (12 : Nat) ≠ 900; decide), .inl rfl⟩, ⟨(by show (15 : Nat) ≠ 900; decide), .inl rfl⟩, trivial⟩
         refine Awp.ret ?_
         subst hR
         exact ⟨.inl rfl, rfl⟩
        ·
         replace hR := of_false h44 hR
         refine Awp.skip ?_
         refine Awp.region C (fun o => match o.dst with | some 77 => .writes [77, 900] | some 78 => .reads [15] | _ => .pure) (by kernel_rfl) ?_
         refine rvP C (.sl 900 0 l.length 4 false) ?_
         refine rvP C (.agg [.pv (.lit (.int .i64 nx3.1.kind)), .pv (.lit (.int .i64 nx3.1.node)), .pv (.lit (.int .i64 nx3.1.site)), .pv (.lit (.int .i64 nx3.1.epoch))]) ?_
         refine rvc_un (rexec_buildSliceF C eCommand [nx3.1] rfl rfl rfl rfl rfl rfl rfl (by decide) rfl ?_)
         refine rvc_un (rexec_append C rfl rfl rfl rfl rfl rfl rfl rfl (fun _ h => by cases h) rfl (en := eCommand) (D0 := l) (D := [nx3.1]) rfl rfl rfl rfl (by have := check_len (c := (Chain.mk vc vc1)); have := check_le6 (c := (Chain.mk vc vc1)); have := ne_of_beq_false h25; have := eq_of_bne_false h36; have := of_decide_eq_false h38; have := ne_of_beq_false h39; have := eq_of_bne_false h43; have := eq_of_bne_false h44; first | omega | (simp <;> omega)) (by decide) (nn := (l ++ [nx3.1]).length) (by simp) ?_)
         refine rvP C (.agg [.pv (.lit (.int .i64 jo3.1.epoch)), sS (some jo3.1.members.nil) eMember jo3.1.members.D]) ?_
         refine rvP C (.sl 77 0 ((l ++ [nx3.1]).length) 4 false) ?_
         refine rvc_un (rexec_prim C (δ := { v := .undef, wr := [(4, some (.cells [.pv (.lit (.int .i64 jo3.1.epoch)), sS (some jo3.1.members.nil) eMember jo3.1.members.D]))] }) rfl rfl rfl rfl trivial rfl ?_)
         refine rvc_nil ?_
         have h45 : (planM alive jo3.1.members.D) < (planM alive vc1.D) := by first | exact (stepA ha (c := Chain.mk vc vc1) (by assumption) (by assumption) (by assumption) (by assumption) (by assumption) (by assumption)).1 | exact (stepB ha (c := Chain.mk vc vc1) (by assumption) (by assumption) (by assumption) (by assumption) (by assumption) (by assumption)).1 | exact (stepC ha (c := Chain.mk vc vc1) (by assumption) (by assumption) (by assumption)).elim
         obtain ⟨nn, rfl⟩ : ∃ nn, n_ = nn + 1 := ⟨n_ - 1, by omega⟩
         refine ⟨nn, ((l ++ [nx3.1]), jo3.1.epoch, jo3.1.members), by omega, ⟨by show (planM alive jo3.1.members.D) ≤ nn; omega, hR, (by have hlt_ := ‹planM _ _ < planM _ _›; first | (have h_ := (stepA ha (c := Chain.mk vc vc1) (by assumption) (by assumption) (by assumption) (by assumption) (by assumption) (by assumption)); exact ⟨h_.2.1, h_.2.2, (by simp only [List.length_append, List.length_cons, List.length_nil]; omega)⟩) | (have h_ := (stepB ha (c := Chain.mk vc vc1) (by assumption) (by assumption) (by assumption) (by assumption) (by assumption) (by assumption)); exact ⟨h_.2.1, h_.2.2, (by simp only [List.length_append, List.length_cons, List.length_nil]; omega)⟩) | exact (stepC ha (c := Chain.mk vc vc1) (by assumption) (by assumption) (by assumption)).elim)⟩, ?_⟩
         · exact ⟨fun b => bif b == 900 then 77 else (fun b => b) b, WeakerR.ofL (Ks := [4, 6, 7, 9, 900]) hI ⟨⟨rfl, rfl⟩, ⟨rfl, rfl⟩, ⟨rfl, rfl⟩, ⟨rfl, rfl⟩, ⟨rfl, rfl⟩, ⟨grow_to rfl rfl app_ne rfl rfl, grow_within rfl⟩, trivial⟩ (okH_grow (fun _ => rfl) rfl rfl (okH_cons rfl rfl rfl rfl (okH_cons rfl rfl rfl rfl (okH_cons rfl rfl rfl rfl (okH_cons rfl rfl rfl rfl (okH_nil)))))) rfl⟩
 -- !! two models: ('(bif ((check (Chain.mk vc vc1)) == 0) then (bif (nx.2.2 != 0) then ((Sl.mk true []), (Chain.mk 0 (Sl.mk true [])), nx.2.2) else (bif (!nx.2.1) then ((Sl.mk l.isEmpty l), ra, 0) else (bif (decide (ra.epoch ≥ 1099511627776)) then ((Sl.mk l.isEmpty l), ra, 0) else (bif (nx.1.kind == 1) then (bif (dr.2 != 0) then ((Sl.mk l.isEmpty l), ra, 0) else (bif ((cmdCheck nx.1) != 0) then ((Sl.mk l.isEmpty l), ra, 0) else allP_l0 alive h w nn (l ++ [nx.1]) dr.1.epoch dr.1.members)) else (bif (jo.2 != 0) then ((Sl.mk l.isEmpty l), ra, 0) else (bif ((cmdCheck nx.1) != 0) then ((Sl.mk l.isEmpty l), ra, 0) else allP_l0 alive h w nn (l ++ [nx.1]) jo.1.epoch jo.1.members)))))) else (bif (nx1.2.2 != 0) then ((Sl.mk true []), (Chain.mk 0 (Sl.mk true [])), nx1.2.2) else (bif (!nx1.2.1) then ((Sl.mk l.isEmpty l), (Chain.mk vc vc1), 0) else (bif (decide (vc ≥ 1099511627776)) then ((Sl.mk l.isEmpty l), (Chain.mk vc vc1), 0) else (bif (nx1.1.kind == 1) then (bif (dr1.2 != 0) then ((Sl.mk l.isEmpty l), (Chain.mk vc vc1), 0) else (bif ((cmdCheck nx1.1) != 0) then ((Sl.mk l.isEmpty l), (Chain.mk vc vc1), 0) else allP_l0 alive h w nn (l ++ [nx1.1]) dr1.1.epoch dr1.1.members)) else (bif (jo1.2 != 0) then ((Sl.mk l.isEmpty l), (Chain.mk vc vc1), 0) else (bif ((cmdCheck nx1.1) != 0) then ((Sl.mk l.isEmpty l), (Chain.mk vc vc1), 0) else allP_l0 alive h w nn (l ++ [nx1.1]) jo1.1.epoch jo1.1.members)))))))', '') ||| ('(bif ((check (Chain.mk vc vc1)) == 0) then (bif (nx2.2.2 != 0) then ((Sl.mk true []), (Chain.mk 0 (Sl.mk true [])), nx2.2.2) else (bif (!nx2.2.1) then ((Sl.mk l.isEmpty l), ra1, 0) else (bif (decide (ra1.epoch ≥ 1099511627776)) then ((Sl.mk l.isEmpty l), ra1, 0) else (bif (nx2.1.kind == 1) then (bif (dr2.2 != 0) then ((Sl.mk l.isEmpty l), ra1, 0) else (bif ((cmdCheck nx2.1) != 0) then ((Sl.mk l.isEmpty l), ra1, 0) else allP_l0 alive h w nn (l ++ [nx2.1]) dr2.1.epoch dr2.1.members)) else (bif (jo2.2 != 0) then ((Sl.mk l.isEmpty l), ra1, 0) else (bif ((cmdCheck nx2.1) != 0) then ((Sl.mk l.isEmpty l), ra1, 0) else allP_l0 alive h w nn (l ++ [nx2.1]) jo2.1.epoch jo2.1.members)))))) else (bif (nx3.2.2 != 0) then ((Sl.mk true []), (Chain.mk 0 (Sl.mk true [])), nx3.2.2) else (bif (!nx3.2.1) then ((Sl.mk l.isEmpty l), (Chain.mk vc vc1), 0) else (bif (decide (vc ≥ 1099511627776)) then ((Sl.mk l.isEmpty l), (Chain.mk vc vc1), 0) else (bif (nx3.1.kind == 1) then (bif (dr3.2 != 0) then ((Sl.mk l.isEmpty l), (Chain.mk vc vc1), 0) else (bif ((cmdCheck nx3.1) != 0) then ((Sl.mk l.isEmpty l), (Chain.mk vc vc1), 0) else allP_l0 alive h w nn (l ++ [nx3.1]) dr3.1.epoch dr3.1.members)) else (bif (jo3.2 != 0) then ((Sl.mk l.isEmpty l), (Chain.mk vc vc1), 0) else (bif ((cmdCheck nx3.1) != 0) then ((Sl.mk l.isEmpty l), (Chain.mk vc vc1), 0) else allP_l0 alive h w nn (l ++ [nx3.1]) jo3.1.epoch jo3.1.members)))))))', '')
end Go.Proofs.Ytaffaalpgpepeaa
/- All commands, round by round, in plain Lean. No conditions. -/
namespace Go.Proofs.Ytaffaalpgpepeaa
open Go.Am
theorem sub_check {c : Chain} (hc : check c = 0) (he : c.epoch < 1099511627776) {l : List Member} (hl : l.Sublist c.members.D) (hne : l ≠ []) (hf : l[0]!.fresh = false) (f : Bool) : check ⟨c.epoch + 1, ⟨f, l⟩⟩ = 0 := by
  obtain ⟨⟨e1, e2⟩, _, _, hm, hp⟩ := (check_iff c).1 hc
  exact (check_iff _).2 ⟨⟨(by omega : 1 ≤ c.epoch + 1), (by omega : c.epoch + 1 ≤ 1099511627776)⟩, hne, hf, fun x hx => hm x (hl.subset hx), hp.sublist hl⟩
theorem drop_check {c : Chain} {n : Int} (hc : check c = 0) (h : (drop c n).2 = 0) : check (drop c n).1 = 0 ∧ (drop c n).1.epoch = c.epoch + 1 := by
  obtain ⟨e, he, hne⟩ := drop_some hc h
  rw [e]
  exact ⟨sub_check hc he ((List.dropWhile_sublist _).trans List.filter_sublist) hne (drop_head hne) _, rfl⟩
theorem putIn_eq (l : List Member) (n s : Int) : putIn l n s = (l.takeWhile fun x => decide (x.site ≤ s)) ++ ⟨n, s, true⟩ :: (l.dropWhile fun x => decide (x.site ≤ s)) := by
  unfold putIn insertL
  have ht : l.take (l.takeWhile fun x => decide (x.site ≤ s)).length = l.takeWhile fun x => decide (x.site ≤ s) := by
    conv => lhs; rhs; rw [← List.takeWhile_append_dropWhile (p := fun x : Member => decide (x.site ≤ s)) (l := l)]
    exact List.take_left' rfl
  have hdd : l.drop (l.takeWhile fun x => decide (x.site ≤ s)).length = l.dropWhile fun x => decide (x.site ≤ s) := by
    conv => lhs; rhs; rw [← List.takeWhile_append_dropWhile (p := fun x : Member => decide (x.site ≤ s)) (l := l)]
    exact List.drop_left' rfl
  rw [ht, hdd]; simp
theorem join_check {c : Chain} {n s : Int} {f : Bool} (hc : check c = 0) (h : (join c ⟨n, s, f⟩).2 = 0) : check (join c ⟨n, s, f⟩).1 = 0 ∧ (join c ⟨n, s, f⟩).1.epoch = c.epoch + 1 := by
  obtain ⟨e, he, hm, hpl, h3⟩ := join_some hc h
  have hp : placeIn c n = rPlace c n := by rw [← place_eq]; unfold place0; rw [hc]; rfl
  have hnone := place_none hc (n := n) (by omega)
  obtain ⟨⟨e1, e2⟩, hne, hf, hmm, hpp⟩ := (check_iff c).1 hc
  rw [e]
  refine ⟨?_, rfl⟩
  have hcat := List.takeWhile_append_dropWhile (p := fun x : Member => decide (x.site ≤ s)) (l := c.members.D)
  have hT := takeWhile_true (fun x : Member => decide (x.site ≤ s)) c.members.D
  have hDW := dropWhile_sites s c.members.D hpp
  have hsp := fun x => mem_split (c := c) (fun x : Member => decide (x.site ≤ s)) (x := x)
  rw [putIn_eq]
  revert h3 hcat hT hDW hsp
  generalize (c.members.D.takeWhile fun x => decide (x.site ≤ s)) = A
  generalize (c.members.D.dropWhile fun x => decide (x.site ≤ s)) = B
  intro h3 hcat hT hDW hsp
  have hAB := hpp
  rw [← hcat, List.pairwise_append] at hAB
  obtain ⟨pA, pB, pAB⟩ := hAB
  refine (check_iff _).2 ⟨⟨(by omega : 1 ≤ c.epoch + 1), (by omega : c.epoch + 1 ≤ 1099511627776)⟩, ?_, ?_, ?_, ?_⟩
  · show A ++ _ ≠ []; simp
  · cases A with
    | nil => exact absurd rfl h3
    | cons a A =>
      rw [← hcat] at hf
      exact hf
  · intro x hx
    rcases List.mem_append.1 hx with hx | hx
    · exact hmm x (hsp x (.inl hx))
    · cases hx with
      | head => exact hm
      | tail _ hx => exact hmm x (hsp x (.inr hx))
  · refine List.pairwise_append.2 ⟨pA, List.pairwise_cons.2 ⟨fun b hb => ⟨fun e => hnone b (hsp b (.inr hb)) e.symm, hDW b hb⟩, pB⟩, fun a ha b hb => ?_⟩
    cases hb with
    | head => exact ⟨fun e => hnone a (hsp a (.inl ha)) e, of_decide_eq_true (hT a ha)⟩
    | tail _ hb => exact pAB a ha b hb
def stepOf (r : Chain) (k : Command) : Chain := bif k.kind == 1 then (drop r k.node).1 else (join r ⟨k.node, k.site, false⟩).1
def runP (a : Int) (h w : Nat → Int) : Nat → Chain → List Command × Chain
  | 0, c => ([], readyAll c a)
  | n + 1, c => bif (nextP (readyAll c a) a h w).2.1 then ((nextP (readyAll c a) a h w).1 :: (runP a h w n (stepOf (readyAll c a) (nextP (readyAll c a) a h w).1)).1, (runP a h w n (stepOf (readyAll c a) (nextP (readyAll c a) a h w).1)).2) else ([], readyAll c a)
/-- What a round does. -/
theorem round_ok {c : Chain} {a : Int} {h w : Nat → Int} (ha : 0 ≤ a ∧ a < 18446744073709551616) (hc : check c = 0) (_ : planCheck h w = 0) (h2 : (nextP (readyAll c a) a h w).2.1 = true) :
    ∃ d, stepOf (readyAll c a) (nextP (readyAll c a) a h w).1 = d ∧ check d = 0 ∧ d.epoch = c.epoch + 1 ∧ c.epoch < 1099511627776 ∧ planM a d.members.D < planM a c.members.D ∧ cmdCheck (nextP (readyAll c a) a h w).1 = 0 ∧
    ((nextP (readyAll c a) a h w).1.kind = 1 ∧ drop (readyAll c a) (nextP (readyAll c a) a h w).1.node = (d, 0) ∨ (nextP (readyAll c a) a h w).1.kind = 2 ∧ join (readyAll c a) ⟨(nextP (readyAll c a) a h w).1.node, (nextP (readyAll c a) a h w).1.site, false⟩ = (d, 0)) := by
  have hr := readyAll_check a hc
  have he : (readyAll c a).epoch = c.epoch := (readyAll_eq a hc).1
  have hep := epoch_of hc
  generalize hx : nextP (readyAll c a) a h w = nx at h2 ⊢
  obtain ⟨_, _, _, ⟨x, hm, r1, r2, r3⟩ | ⟨_, n, s, hn, hs, _, _, _, e, r⟩⟩ := nextP_some ha hx h2
  · have k1 : nx.1.kind = 1 := by rw [r2]
    have lt := step_drop ha hc hx h2 k1
    have hn : nx.1.node = x.node := by rw [r2]
    have hst : stepOf (readyAll c a) nx.1 = (drop (readyAll c a) nx.1.node).1 := by
      unfold stepOf; rw [k1]; rfl
    rw [← hn] at r3
    have hd := drop_check hr r3
    obtain ⟨_, hlt, _⟩ := drop_some hr r3
    have hmo := mem_ok hr hm
    refine ⟨_, hst, hd.1, by rw [hd.2, he], by omega, lt, ?_, .inl ⟨k1, Prod.ext rfl r3⟩⟩
    rw [r2, he]
    unfold cmdCheck
    simp only [decide_eq_true (show x.node ≥ 0 from hmo.1), decide_eq_true (show c.epoch ≥ 1 from hep.1), decide_eq_true (show c.epoch ≤ 1099511627776 from hep.2), decide_eq_true (show x.node < 6 by omega)]
    rfl
  · have k2 : nx.1.kind = 2 := by rw [e]
    have hnode : nx.1.node = n := by rw [e]
    have hsite : nx.1.site = s := by rw [e]
    have lt := step_join ha hc hx h2 (by rw [k2]; decide)
    have hst : stepOf (readyAll c a) nx.1 = (join (readyAll c a) ⟨nx.1.node, nx.1.site, false⟩).1 := by
      unfold stepOf; rw [k2]; rfl
    rw [← hnode, ← hsite] at r
    have hd := join_check hr r
    obtain ⟨_, hlt, _⟩ := join_some hr r
    refine ⟨_, hst, hd.1, by rw [hd.2, he], by omega, lt, ?_, .inr ⟨k2, Prod.ext rfl r⟩⟩
    rw [e, he]
    unfold cmdCheck
    simp only [decide_eq_true (show (n : Int) ≥ 0 by omega), decide_eq_true (show (s : Int) ≥ 0 by omega), decide_eq_true (show c.epoch ≥ 1 from hep.1), decide_eq_true (show c.epoch ≤ 1099511627776 from hep.2), decide_eq_true (show (n : Int) < 6 by omega), decide_eq_true (show (s : Int) < 3 by omega)]
    rfl
theorem nextP_ok {c : Chain} {a : Int} {h w : Nat → Int} (hc : check c = 0) (hp : planCheck h w = 0) : (nextP c a h w).2.2 = 0 := by
  rcases nextP_cases (c := c) (a := a) (h := h) (w := w) rfl with ⟨h3, _⟩ | ⟨_, h3, _⟩ | ⟨_, _, _, h3, _⟩ | ⟨_, _, _, _, h3⟩ | ⟨_, _, _, _, h3⟩
  · exact absurd hc h3
  · exact absurd hp h3
  · exact h3
  · rw [h3]
  · rw [h3]
theorem allP_l0_run {a : Int} {h w : Nat → Int} (ha : 0 ≤ a ∧ a < 18446744073709551616) (hp : planCheck h w = 0) : ∀ (n : Nat) (l : List Command) (c : Chain), check c = 0 → planM a c.members.D < n → allP_l0 a h w n l c.epoch c.members = (⟨(l ++ (runP a h w n c).1).isEmpty, l ++ (runP a h w n c).1⟩, (runP a h w n c).2, 0)
  | 0, _, _, _, hm => by cases hm
  | n + 1, l, c, hc, hm => by
    unfold allP_l0 runP
    have hr := readyAll_check a hc
    have h0 := nextP_ok (a := a) (w := w) hr hp
    have hro := round_ok ha hc hp
    have he : (readyAll c a).epoch = c.epoch := (readyAll_eq a hc).1
    rw [show (check (Chain.mk c.epoch c.members) == 0) = true by rw [show (Chain.mk c.epoch c.members) = c from rfl, hc]; rfl, cond_true, show (Chain.mk c.epoch c.members) = c from rfl]
    generalize hra : readyAll c a = ra at *
    generalize hx : nextP ra a h w = nx at *
    rw [h0, show ((0 : Int) != 0) = false from rfl, cond_false]
    cases h2 : nx.2.1
    · rw [Bool.not_false, cond_true, cond_false, List.append_nil]
    · obtain ⟨d, hd, hdc, hde, hlt, hpm, hck, hk⟩ := hro h2
      have ih := allP_l0_run ha hp n (l ++ [nx.1]) d hdc (by omega)
      rw [hd, Bool.not_true, cond_false, cond_true, decide_eq_false (by omega), cond_false, hck, show ((0 : Int) != 0) = false from rfl, cond_false]
      rw [List.append_assoc] at ih
      rcases hk with ⟨k1, hk⟩ | ⟨k2, hk⟩
      · rw [k1, show ((1 : Int) == 1) = true from rfl, cond_true, hk]
        exact ih
      · rw [k2, show ((2 : Int) == 1) = false from rfl, cond_false, hk]
        exact ih
theorem runP_fuel {a : Int} {h w : Nat → Int} (ha : 0 ≤ a ∧ a < 18446744073709551616) (hp : planCheck h w = 0) : ∀ (n m : Nat) (c : Chain), check c = 0 → planM a c.members.D < n → planM a c.members.D < m → runP a h w n c = runP a h w m c
  | 0, _, _, _, hm, _ => by cases hm
  | _, 0, _, _, _, hm => by cases hm
  | n + 1, m + 1, c, hc, h1, h2 => by
    unfold runP
    cases hk : (nextP (readyAll c a) a h w).2.1
    · rfl
    · obtain ⟨d, hd, hdc, _, _, hpm, _⟩ := round_ok ha hc hp hk
      rw [hd, runP_fuel ha hp n m d hdc (by omega) (by omega)]
theorem runP_end {a : Int} {h w : Nat → Int} (ha : 0 ≤ a ∧ a < 18446744073709551616) (hp : planCheck h w = 0) : ∀ (n : Nat) (c : Chain), check c = 0 → planM a c.members.D < n → (runP a h w n c).1.length ≤ planM a c.members.D ∧ ∃ d, check d = 0 ∧ (runP a h w n c).2 = readyAll d a ∧ (nextP (readyAll d a) a h w).2.1 = false ∧ d.epoch ≤ c.epoch + planM a c.members.D
  | 0, _, _, hm => by cases hm
  | n + 1, c, hc, hm => by
    unfold runP
    cases hk : (nextP (readyAll c a) a h w).2.1
    · exact ⟨Nat.zero_le _, c, hc, rfl, hk, by omega⟩
    · obtain ⟨d, hd, hdc, hde, _, hpm, _⟩ := round_ok ha hc hp hk
      obtain ⟨r1, d', r2, r3, r4, r5⟩ := runP_end ha hp n d hdc (by omega)
      rw [hd]
      exact ⟨by rw [cond_true]; show (runP a h w n d).1.length + 1 ≤ _; omega, d', r2, r3, r4, by omega⟩
theorem allP_ok {c : Chain} {a : Int} {h w : Nat → Int} (ha : 0 ≤ a ∧ a < 18446744073709551616) (hc : check c = 0) (hp : planCheck h w = 0) : allP c a h w = (⟨(runP a h w (planM a c.members.D + 1) c).1.isEmpty, (runP a h w (planM a c.members.D + 1) c).1⟩, (runP a h w (planM a c.members.D + 1) c).2, 0) :=
  allP_l0_run ha hp _ [] c hc (Nat.lt_succ_self _)
theorem allP_bad {c : Chain} {a : Int} {h w : Nat → Int} (hc : check c ≠ 0) : allP c a h w = (⟨true, []⟩, ⟨0, ⟨true, []⟩⟩, 80) := by
  unfold allP allP_l0
  rw [show (check (Chain.mk c.epoch c.members) == 0) = false by rw [show (Chain.mk c.epoch c.members) = c from rfl]; simpa using hc, cond_false, show (Chain.mk c.epoch c.members) = c from rfl]
  have hn : nextP c a h w = (⟨0, 0, 0, 0⟩, false, 80) := by
    rcases nextP_cases (c := c) (a := a) (h := h) (w := w) rfl with ⟨_, h3⟩ | ⟨h3, _⟩ | ⟨h3, _⟩ | ⟨h3, _⟩ | ⟨h3, _⟩
    · rw [h3, check_bad (by simpa using hc)]
    all_goals exact absurd h3 hc
  rw [hn]; rfl
theorem planCheck_01 (h w : Nat → Int) : planCheck h w = 0 ∨ planCheck h w = 1 := by
  have key : ∀ k i, planCheck_l0 h w k i = 0 ∨ planCheck_l0 h w k i = 1 := by
    intro k
    induction k with
    | zero => intro i; exact planCheck_l1_r w 3 0
    | succ k ih =>
      intro i
      unfold planCheck_l0
      cases decide (h i < 0)
      · cases decide (h i ≥ 3)
        · exact ih (i + 1)
        · exact .inr rfl
      · exact .inr rfl
  exact key 6 0
theorem allP_bad2 {c : Chain} {a : Int} {h w : Nat → Int} (hc : check c = 0) (hp : planCheck h w ≠ 0) : allP c a h w = (⟨true, []⟩, ⟨0, ⟨true, []⟩⟩, 1) := by
  unfold allP allP_l0
  rw [show (check (Chain.mk c.epoch c.members) == 0) = true by rw [show (Chain.mk c.epoch c.members) = c from rfl, hc]; rfl, cond_true, show (Chain.mk c.epoch c.members) = c from rfl]
  have hr := readyAll_check a hc
  have hn : nextP (readyAll c a) a h w = (⟨0, 0, 0, 0⟩, false, 1) := by
    rcases nextP_cases (c := readyAll c a) (a := a) (h := h) (w := w) rfl with ⟨h3, _⟩ | ⟨_, _, h3⟩ | ⟨_, h3, _⟩ | ⟨_, h3, _⟩ | ⟨_, h3, _⟩
    · exact absurd hr h3
    · rcases planCheck_01 h w with e | e
      · exact absurd e hp
      · rw [h3, e]
    all_goals exact absurd h3 hp
  rw [hn]; rfl
theorem allP_le (c : Chain) (a : Int) (h w : Nat → Int) (ha : 0 ≤ a ∧ a < 18446744073709551616) : (allP c a h w).1.D.length ≤ 12 ∧ (allP c a h w).2.1.members.D.length ≤ 6 := by
  by_cases hc : check c = 0
  · by_cases hp : planCheck h w = 0
    · rw [allP_ok ha hc hp]
      obtain ⟨h1, d, h2, h3, _⟩ := runP_end ha hp (planM a c.members.D + 1) c hc (Nat.lt_succ_self _)
      have h4 := planM_le a c.members.D
      have h5 := check_le6 hc
      refine ⟨by show (runP a h w (planM a c.members.D + 1) c).1.length ≤ 12; omega, ?_⟩
      show (runP a h w (planM a c.members.D + 1) c).2.members.D.length ≤ 6
      rw [h3]
      exact check_le6 (readyAll_check a h2)
    · rw [allP_bad2 hc hp]; exact ⟨by decide, by decide⟩
  · rw [allP_bad hc]; exact ⟨by decide, by decide⟩
end Go.Proofs.Ytaffaalpgpepeaa
/- Commands as bytes, and ledgers behind calls, in plain Lean. No conditions. -/
namespace Go.Proofs.Ytaffaalpgpepeaa
open Go.Am
/-- What is asked of a ledger's chains. -/
def okL (l : Ledger) : Prop := (l.chain.members.nil = true → l.chain.members.D = []) ∧ l.chain.members.D.length ≤ 1000000 ∧ ∀ x ∈ l.past.all.D, x.members.D.length ≤ 1000000
theorem newL_e (m : Sl Member) : (((newL m).2) != 0) = false := rfl
theorem newL_ok (m : Sl Member) (h : m.D.length ≤ 1000000) : okL (newL m).1 ∧ (newL m).1.past.all.D.length ≤ 1 + 0 := by
  have h1 := firstC_len m
  refine ⟨⟨firstC_hn m, Nat.le_trans h1 h, fun x hx => ?_⟩, Nat.le_refl _⟩
  have : x = (firstC m).1 := by simpa [newL] using hx
  rw [this]; exact Nat.le_trans h1 h
theorem copied_len (c : Chain) : (copied c).members.D.length ≤ c.members.D.length := clone_len c.members
theorem apply_okL {g : Ledger} (h : okL g) (i : Int) (d : Sl Int) : okL (lApply g i d).1 := by
  obtain ⟨h1, h2, h3⟩ := h
  have hf := few_next g.chain (cmdGet d).1
  unfold lApply
  cases lDead g
  · cases decide (i > 1099511627776)
    · cases decide (i < 1)
      · cases (IntKind.i64.wrap (i - 1)) != g.at_
        · cases (d.D.length : Int) == 0
          · cases (cmdGet d).2 != 0
            · cases (nextL g.chain (cmdGet d).1).2 != 0
              · cases decide ((nextL g.chain (cmdGet d).1).1.epoch > g.chain.epoch)
                · exact ⟨hf.1, Nat.le_trans hf.2 (by decide), h3⟩
                · refine ⟨hf.1, Nat.le_trans hf.2 (by decide), fun x hx => ?_⟩
                  rcases List.mem_append.1 hx with hx | hx
                  · exact h3 x hx
                  · rw [List.mem_singleton.1 hx]
                    exact Nat.le_trans (copied_len _) (Nat.le_trans hf.2 (by decide))
              · exact ⟨h1, h2, h3⟩
            · exact ⟨h1, h2, h3⟩
          · exact ⟨h1, h2, h3⟩
        · exact ⟨h1, h2, h3⟩
      · exact ⟨h1, h2, h3⟩
    · exact ⟨h1, h2, h3⟩
  · exact ⟨h1, h2, h3⟩
theorem apply_all (g : Ledger) (i : Int) (d : Sl Int) : (lApply g i d).1.past.all.D.length ≤ g.past.all.D.length + 1 := by
  unfold lApply
  cases lDead g
  · cases decide (i > 1099511627776)
    · cases decide (i < 1)
      · cases (IntKind.i64.wrap (i - 1)) != g.at_
        · cases (d.D.length : Int) == 0
          · cases (cmdGet d).2 != 0
            · cases (nextL g.chain (cmdGet d).1).2 != 0
              · cases decide ((nextL g.chain (cmdGet d).1).1.epoch > g.chain.epoch)
                · exact Nat.le_succ _
                · show (_ ++ [_]).length ≤ _
                  rw [List.length_append, List.length_singleton]; exact Nat.le_refl _
              · exact Nat.le_succ _
            · exact Nat.le_succ _
          · exact Nat.le_succ _
        · exact Nat.le_succ _
      · exact Nat.le_succ _
    · exact Nat.le_succ _
  · exact Nat.le_succ _
theorem cmdPut_len (c : Command) : (cmdPut c).1.D.length ≤ 40 := by
  unfold cmdPut
  have h1 := wPut_len (Sl.mk true []) (IntKind.u64.wrap c.kind) (wrap_lt64 _)
  have h2 := wPut_len (wPut (Sl.mk true []) (IntKind.u64.wrap c.kind)) (IntKind.u64.wrap c.node) (wrap_lt64 _)
  have h3 := wPut_len (wPut (wPut (Sl.mk true []) (IntKind.u64.wrap c.kind)) (IntKind.u64.wrap c.node)) (IntKind.u64.wrap c.site) (wrap_lt64 _)
  have h4 := wPut_len (wPut (wPut (wPut (Sl.mk true []) (IntKind.u64.wrap c.kind)) (IntKind.u64.wrap c.node)) (IntKind.u64.wrap c.site)) (IntKind.u64.wrap c.epoch) (wrap_lt64 _)
  dsimp only [List.length_nil] at h1
  cases (cmdCheck c) != 0
  · show (wPut (wPut (wPut (wPut (Sl.mk true []) _) _) _) _).D.length ≤ 40
    omega
  · exact Nat.zero_le _
/-- A number's bytes. -/
def vb (n : Nat) : List Int := if n < 128 then [(n : Int)] else ((n % 128 + 128 : Nat) : Int) :: vb (n / 128)
theorem vb_lt {n : Nat} (h : n < 128) : vb n = [(n : Int)] := by rw [vb, if_pos h]
theorem vb_ge {n : Nat} (h : 128 ≤ n) : vb n = ((n % 128 + 128 : Nat) : Int) :: vb (n / 128) := by rw [vb, if_neg (by omega)]
theorem wrap8 (n : Int) : IntKind.u8.wrap n = n % 256 := by simp [IntKind.wrap, IntKind.bits, IntKind.signed]
theorem bv8 (a : Nat) (h : a < 256) : (BitVec.ofInt 8 (a : Int)).toNat = a := by
  rw [BitVec.toNat_ofInt]
  show (((a : Int) % 256)).toNat = a
  omega
theorem or8 {a b : Nat} (ha : a < 256) (hb : b < 256) : bitI .or .u8 (a : Int) (b : Int) = ((a ||| b : Nat) : Int) := by
  unfold bitI
  show IntKind.u8.wrap ((BitVec.ofInt 8 (a : Int) ||| BitVec.ofInt 8 (b : Int)).toNat : Int) = _
  rw [BitVec.toNat_or, bv8 a ha, bv8 b hb, wrap8]
  have : a ||| b < 2 ^ 8 := Nat.or_lt_two_pow ha hb
  omega
theorem and8 {a b : Nat} (ha : a < 256) (hb : b < 256) : bitI .and .u8 (a : Int) (b : Int) = ((a &&& b : Nat) : Int) := by
  unfold bitI
  show IntKind.u8.wrap ((BitVec.ofInt 8 (a : Int) &&& BitVec.ofInt 8 (b : Int)).toNat : Int) = _
  rw [BitVec.toNat_and, bv8 a ha, bv8 b hb, wrap8]
  have : a &&& b ≤ a := Nat.and_le_left
  omega
theorem or128 : ∀ y : Fin 256, (y.val ||| 128) = y.val % 128 + 128 := by decide +kernel
theorem low_byte {n : Int} (h : 0 ≤ n) : bitI .or .u8 (IntKind.u8.wrap n) 128 = ((n.toNat % 128 + 128 : Nat) : Int) := by
  have e : IntKind.u8.wrap n = ((n.toNat % 256 : Nat) : Int) := by rw [wrap8]; omega
  rw [e, show (128 : Int) = ((128 : Nat) : Int) from rfl, or8 (by omega) (by decide), or128 ⟨n.toNat % 256, by omega⟩]
  show ((n.toNat % 256 % 128 + 128 : Nat) : Int) = _
  omega
theorem wPut_l1_eq : ∀ (f : Nat) (b1 : List Int) (n : Int), 0 ≤ n → n.toNat < f → wPut_l1 (fun b1 n => (Sl.mk false (b1 ++ [(IntKind.u8.wrap n)]))) f b1 n = Sl.mk false (b1 ++ vb n.toNat)
  | 0, _, _, _, h => by omega
  | f + 1, b1, n, h0, h => by
    unfold wPut_l1
    cases e1 : decide (n ≥ 128)
    · have := of_decide_eq_false e1
      rw [vb_lt (by omega)]
      show Sl.mk false (b1 ++ [IntKind.u8.wrap n]) = _
      rw [wrap8, show n % 256 = ((n.toNat : Nat) : Int) by omega]
    · have hn := of_decide_eq_true e1
      show wPut_l1 _ f (b1 ++ [bitI .or .u8 (IntKind.u8.wrap n) 128]) (shrI .u64 n 7) = _
      rw [wPut_l1_eq f _ _ (by rw [shr7]; omega) (by rw [shr7]; omega), low_byte h0, vb_ge (n := n.toNat) (by omega), shr7, show (n / 128).toNat = n.toNat / 128 by omega]
      simp
theorem wPut_eq (b : Sl Int) (x : Int) (h0 : 0 ≤ x) : wPut b x = Sl.mk false (b.D ++ vb x.toNat) := by
  unfold wPut
  cases e1 : decide (x ≥ 128)
  · have := of_decide_eq_false e1
    rw [vb_lt (by omega)]
    show Sl.mk false (b.D ++ [IntKind.u8.wrap x]) = _
    rw [wrap8, show x % 256 = ((x.toNat : Nat) : Int) by omega]
  · have hn := of_decide_eq_true e1
    show wPut_l1 _ _ (b.D ++ [bitI .or .u8 (IntKind.u8.wrap x) 128]) (shrI .u64 x 7) = _
    rw [wPut_l1_eq _ _ _ (by rw [shr7]; omega) (by omega), low_byte h0, vb_ge (n := x.toNat) (by omega), shr7, show (x / 128).toNat = x.toNat / 128 by omega]
    simp
/-- The number that bytes begin with, and what follows. -/
def vd : Nat → List Int → Option (Nat × List Int)
  | _, [] => none
  | i, x :: l => if (i = 9 ∧ 1 < x.toNat % 128) ∨ 9 < i then none else if x = 0 ∧ 0 < i then none else if x < 128 then some (x.toNat, l) else
    match vd (i + 1) l with
    | some (n, r) => some (x.toNat % 128 + 128 * n, r)
    | none => none
/-- What is read is put so. -/
theorem vd_vb : ∀ (i : Nat) (l : List Int) (n : Nat) (r : List Int), (∀ x ∈ l, 0 ≤ x ∧ x < 256) → vd i l = some (n, r) → l = vb n ++ r ∧ (0 < i → 0 < n) ∧ n * 128 ^ i < 18446744073709551616
  | _, [], _, _, _, h => by simp [vd] at h
  | i, x :: l, n, r, hb, h => by
    have hx := hb x (List.mem_cons_self ..)
    have hl : ∀ y ∈ l, 0 ≤ y ∧ y < 256 := fun y hy => hb y (List.mem_cons_of_mem _ hy)
    rw [vd] at h
    split at h
    · cases h
    · rename_i h1
      have hi : i ≤ 9 := by omega
      have hp : 128 ^ i ≤ 9223372036854775808 := Nat.le_trans (Nat.pow_le_pow_right (by decide) hi) (by decide)
      split at h
      · cases h
      · rename_i h2
        split at h
        · rename_i h3
          simp only [Option.some.injEq, Prod.mk.injEq] at h
          obtain ⟨rfl, rfl⟩ := h
          refine ⟨?_, fun hi => by omega, ?_⟩
          · rw [vb_lt (by omega), show ((x.toNat : Nat) : Int) = x by omega]; rfl
          · rcases Nat.lt_or_ge i 9 with h9 | h9
            · have : 128 ^ i ≤ 72057594037927936 := Nat.le_trans (Nat.pow_le_pow_right (by decide) (show i ≤ 8 by omega)) (by decide)
              have h5 : x.toNat * 128 ^ i ≤ 127 * 72057594037927936 := Nat.mul_le_mul (by omega) this
              omega
            · have h5 : x.toNat * 128 ^ i ≤ 1 * 9223372036854775808 := Nat.mul_le_mul (by omega) hp
              omega
        · rename_i h3
          split at h
          · rename_i m r' hm
            simp only [Option.some.injEq, Prod.mk.injEq] at h
            obtain ⟨rfl, rfl⟩ := h
            obtain ⟨e1, e2, e3⟩ := vd_vb (i + 1) l m r' hl hm
            have hm0 := e2 (by omega)
            refine ⟨?_, fun _ => by omega, ?_⟩
            · rw [vb_ge (by omega), show (x.toNat % 128 + 128 * m) / 128 = m by omega, show (((x.toNat % 128 + 128 * m) % 128 + 128 : Nat) : Int) = x by omega, e1]; rfl
            · rw [Nat.pow_succ] at e3
              have h4 : (x.toNat % 128 + 128 * m) * 128 ^ i = x.toNat % 128 * 128 ^ i + m * (128 ^ i * 128) := by
                rw [Nat.add_mul, Nat.mul_comm (128 ^ i) 128, ← Nat.mul_assoc, Nat.mul_comm 128 m]
              have hlt : x.toNat % 128 * 128 ^ i < 128 ^ i * 128 := by
                rw [Nat.mul_comm (128 ^ i)]
                exact Nat.mul_lt_mul_of_pos_right (Nat.mod_lt _ (by decide)) (Nat.pow_pos (by decide))
              have hdiv : 128 ^ i * 128 ∣ 18446744073709551616 ∨ 9 ≤ i := by
                rcases Nat.lt_or_ge i 9 with h9 | h9
                · left
                  rw [← Nat.pow_succ]
                  have : (18446744073709551616 : Nat) = 2 ^ 64 := by decide
                  rw [this, show (128 : Nat) = 2 ^ 7 from rfl, ← Nat.pow_mul]
                  exact Nat.pow_dvd_pow 2 (by omega)
                · exact .inr h9
              rcases hdiv with ⟨q, hq⟩ | h9
              · rw [h4]
                have hmq : m < q := by
                  have h5 : m * (128 ^ i * 128) < (128 ^ i * 128) * q := by rw [← hq]; exact e3
                  rw [Nat.mul_comm m] at h5
                  exact Nat.lt_of_mul_lt_mul_left h5
                have h6 : (m + 1) * (128 ^ i * 128) ≤ q * (128 ^ i * 128) := Nat.mul_le_mul_right _ hmq
                rw [Nat.mul_comm q, ← hq, Nat.add_mul, Nat.one_mul] at h6
                omega
              · exfalso
                -- a tenth byte is the last one
                have hi9 : i = 9 := by omega
                subst hi9
                cases l with
                | nil => simp [vd] at hm
                | cons y l => rw [vd, if_pos (.inr (by decide))] at hm; cases hm
          · cases h
/-- What is put is read so. -/
theorem vb_vd : ∀ (n i : Nat) (r : List Int), n * 128 ^ i < 18446744073709551616 → (0 < i → 0 < n) → vd i (vb n ++ r) = some (n, r) := by
  intro n
  induction n using Nat.strongRecOn with
  | _ n ih =>
    intro i r h h0
    have hi : 0 < n → i ≤ 9 := fun hn => by
      rcases Nat.lt_or_ge i 10 with h9 | h9
      · omega
      · have h4 : 128 ^ 10 ≤ 128 ^ i := Nat.pow_le_pow_right (by decide) h9
        have h5 : 1 * 128 ^ i ≤ n * 128 ^ i := Nat.mul_le_mul_right _ hn
        have h6 : (128 : Nat) ^ 10 = 1180591620717411303424 := by decide
        omega
    have hi' : i ≤ 9 := by
      rcases Nat.eq_zero_or_pos i with e | e
      · omega
      · exact hi (h0 e)
    have hc : i = 9 → n ≤ 1 := fun e => by
      subst e
      have h6 : (128 : Nat) ^ 9 = 9223372036854775808 := by decide
      rw [h6] at h
      omega
    rcases Nat.lt_or_ge n 128 with hn | hn
    · rw [vb_lt hn]
      show vd i ((n : Int) :: r) = _
      rw [vd, if_neg (by omega), if_neg (by omega), if_pos (by omega), show ((n : Int)).toNat = n by omega]
    · rw [vb_ge hn]
      show vd i (((n % 128 + 128 : Nat) : Int) :: (vb (n / 128) ++ r)) = _
      have hne : i ≠ 9 := fun e => by have := hc e; omega
      have hstep : n / 128 * 128 ^ (i + 1) < 18446744073709551616 := by
        refine Nat.lt_of_le_of_lt ?_ h
        rw [Nat.pow_succ, Nat.mul_comm (128 ^ i), ← Nat.mul_assoc]
        exact Nat.mul_le_mul_right _ (Nat.div_mul_le_self n 128)
      rw [vd, if_neg (by omega), if_neg (by omega), if_neg (by omega), ih (n / 128) (by omega) (i + 1) r hstep (fun _ => by omega)]
      simp only [Option.some.injEq, Prod.mk.injEq, and_true]
      omega
theorem bif_num {α : Type} {a b c d e : Bool} {S5 S10 T : α} : (bif a then (bif b then S5 else (bif c then S5 else (bif d then (bif e then S10 else T) else T))) else (bif c then S5 else (bif d then (bif e then S10 else T) else T))) = (bif (a && b) || c then S5 else (bif d && e then S10 else T)) := by
  cases a <;> cases b <;> cases c <;> cases d <;> cases e <;> rfl
theorem and127 : ∀ y : Fin 256, (y.val &&& 127) = y.val % 128 := by decide +kernel
theorem low7 {x : Int} (h : 0 ≤ x ∧ x < 256) : IntKind.u64.wrap (bitI .and .u8 x 127) = ((x.toNat % 128 : Nat) : Int) := by
  have e : x = ((x.toNat : Nat) : Int) := by omega
  rw [e, show (127 : Int) = ((127 : Nat) : Int) from rfl, and8 (by omega) (by decide), and127 ⟨x.toNat, by omega⟩, wrapU]
  show ((x.toNat % 128 : Nat) : Int) % 18446744073709551616 = ((((x.toNat : Nat) : Int)).toNat % 128 : Nat)
  omega
theorem pow7 (i : Nat) : (2 : Nat) ^ (7 * i) = 128 ^ i := by rw [Nat.pow_mul]
theorem orshl {acc low i : Nat} (hi : i ≤ 9) (h1 : acc < 128 ^ i) (h2 : low * 128 ^ i < 18446744073709551616) : bitI .or .u64 (acc : Int) (shlI .u64 (low : Int) ((7 * i : Nat) : Int)) = ((acc + low * 128 ^ i : Nat) : Int) := by
  have hs : shlI .u64 (low : Int) ((7 * i : Nat) : Int) = ((low * 128 ^ i : Nat) : Int) := by
    show IntKind.u64.wrap ((low : Int) * 2 ^ (min (((7 * i : Nat) : Int).toNat) 64)) = _
    rw [Int.toNat_natCast, Nat.min_eq_left (by omega), wrapU, ← pow7]
    have : (low : Int) * 2 ^ (7 * i) = ((low * 2 ^ (7 * i) : Nat) : Int) := by simp
    rw [this]
    rw [← pow7] at h2
    omega
  have hp : 128 ^ i ≤ 9223372036854775808 := Nat.le_trans (Nat.pow_le_pow_right (by decide) hi) (by decide)
  rw [hs, or64 (by omega) h2]
  have := Nat.shiftLeft_add_eq_or_of_lt (b := acc) (i := 7 * i) (by rw [pow7]; exact h1) low
  rw [Nat.shiftLeft_eq, pow7] at this
  rw [Nat.or_comm, ← this, Nat.add_comm]
theorem getBang {D : List Int} {n : Nat} {x : Int} (h : D[n]? = some x) : D[n]! = x := by rw [getElem!_def, h]
theorem low_le {x i : Nat} (h : ¬ ((i = 9 ∧ 1 < x % 128) ∨ 9 < i)) : x % 128 * 128 ^ i < 18446744073709551616 := by
  rcases Nat.lt_or_ge i 9 with h9 | h9
  · have : 128 ^ i ≤ 72057594037927936 := Nat.le_trans (Nat.pow_le_pow_right (by decide) (show i ≤ 8 by omega)) (by decide)
    have h5 : x % 128 * 128 ^ i ≤ 127 * 72057594037927936 := Nat.mul_le_mul (by omega) this
    omega
  · have hi9 : i = 9 := by omega
    subst hi9
    have h6 : (128 : Nat) ^ 9 = 9223372036854775808 := by decide
    rw [h6]; omega
theorem acc_le {x i acc : Nat} (h1 : acc < 128 ^ i) : acc + x % 128 * 128 ^ i < 128 ^ (i + 1) := by
  rw [Nat.pow_succ, Nat.mul_comm (128 ^ i)]
  have h5 : x % 128 * 128 ^ i ≤ 127 * 128 ^ i := Nat.mul_le_mul_right _ (by omega)
  omega
theorem rdNum_l0_eq {D : List Int} (hD : ∀ x ∈ D, 0 ≤ x ∧ x < 256) (hl : D.length ≤ 1000000) (r : Reader) : ∀ (f i acc : Nat) (v : Reader), f = D.length - v.at_.toNat + 1 → v.b.D = D → 0 ≤ v.at_ → v.at_ ≤ (D.length : Int) → v.err = 0 → v.made = true → i ≤ 10 → acc < 128 ^ i →
    match vd i (D.drop v.at_.toNat) with
    | some (m, rest) => rdNum_l0 r f (acc : Int) ((7 * i : Nat) : Int) v = (Reader.mk v.b ((D.length : Int) - rest.length) 0 true, ((acc + m * 128 ^ i : Nat) : Int))
    | none => rdErr (rdNum_l0 r f (acc : Int) ((7 * i : Nat) : Int) v).1 ≠ 0
  | 0, _, _, _, hf, _, _, _, _, _, _, _ => by omega
  | f + 1, i, acc, v, hf, hb, h0, h1, he, hm, hi, hacc => by
    by_cases hat : v.at_ = (D.length : Int)
    · have e : (v.at_ == (v.b.D.length : Int)) = true := by rw [hb]; simpa using hat
      rw [List.drop_eq_nil_of_le (by omega), vd]
      unfold rdNum_l0
      rw [e]
      show rdErr (rdStop v r.at_ 2) ≠ 0
      unfold rdStop rdErr
      rw [he]
      show (bif !v.made then (6 : Int) else 2) ≠ 0
      rw [hm]; decide
    · have e : (v.at_ == (v.b.D.length : Int)) = false := by rw [hb]; simpa using hat
      obtain ⟨x, hx⟩ : ∃ x, D[v.at_.toNat]? = some x := ⟨_, List.getElem?_eq_getElem (by omega)⟩
      have hxb := hD x (List.mem_of_getElem? hx)
      have hw : IntKind.i64.wrap (v.at_ + 1) = v.at_ + 1 := by have := wrapI (v.at_ + 1); omega
      have hw2 : IntKind.i64.wrap (((7 * i : Nat) : Int) + 7) = ((7 * (i + 1) : Nat) : Int) := by have := wrapI (((7 * i : Nat) : Int) + 7); omega
      have hs : ∀ a q, q ≠ 0 → rdErr (rdStop (Reader.mk v.b (v.at_ + 1) v.err v.made) a q) ≠ 0 := fun a q hq => by
        unfold rdStop rdErr
        rw [he, hm]
        exact hq
      have hc : (((((7 * i : Nat) : Int) == 63) && decide (((x.toNat % 128 : Nat) : Int) > 1)) || decide (((7 * i : Nat) : Int) > 63)) = decide ((i = 9 ∧ 1 < x.toNat % 128) ∨ 9 < i) := by
        rw [Bool.eq_iff_iff]
        simp only [Bool.or_eq_true, Bool.and_eq_true, beq_iff_eq, decide_eq_true_eq]
        omega
      have hd : ((x == 0) && decide (((7 * i : Nat) : Int) > 0)) = decide (x = 0 ∧ 0 < i) := by
        rw [Bool.eq_iff_iff]
        simp only [Bool.and_eq_true, beq_iff_eq, decide_eq_true_eq]
        omega
      rw [drop_at hx, vd]
      unfold rdNum_l0
      rw [e, cond_false, hb, getBang hx, low7 hxb, hw, hw2, bif_num, hc, hd]
      by_cases c1 : (i = 9 ∧ 1 < x.toNat % 128) ∨ 9 < i
      · rw [if_pos c1, decide_eq_true c1]
        exact hs _ _ (by decide)
      · rw [if_neg c1, decide_eq_false c1, cond_false]
        by_cases c2 : x = 0 ∧ 0 < i
        · rw [if_pos c2, decide_eq_true c2]
          exact hs _ _ (by decide)
        · rw [if_neg c2, decide_eq_false c2, cond_false]
          have hor := orshl (acc := acc) (low := x.toNat % 128) (i := i) (by omega) hacc (low_le c1)
          rw [hor]
          by_cases c3 : x < 128
          · rw [if_pos c3, decide_eq_true c3, cond_true]
            have hx' : x.toNat % 128 = x.toNat := by omega
            show (Reader.mk v.b (v.at_ + 1) v.err v.made, _) = (Reader.mk v.b ((D.length : Int) - ((D.drop (v.at_.toNat + 1)).length : Int)) 0 true, _)
            rw [he, hm, hx', List.length_drop]
            have : v.at_ + 1 = (D.length : Int) - ((D.length - (v.at_.toNat + 1) : Nat) : Int) := by omega
            rw [this]
          · rw [if_neg c3, decide_eq_false c3, cond_false]
            have ih := rdNum_l0_eq hD hl r f (i + 1) (acc + x.toNat % 128 * 128 ^ i) (Reader.mk v.b (v.at_ + 1) v.err v.made) (by dsimp only; omega) hb (by dsimp only; omega) (by dsimp only; omega) he hm (by omega) (acc_le hacc)
            dsimp only at ih
            rw [show (v.at_ + 1).toNat = v.at_.toNat + 1 by omega] at ih
            cases hv : vd (i + 1) (D.drop (v.at_.toNat + 1)) with
            | none => rw [hv] at ih; exact ih
            | some q =>
              obtain ⟨m, rest⟩ := q
              rw [hv] at ih
              dsimp only at ih ⊢
              rw [ih]
              have : acc + x.toNat % 128 * 128 ^ i + m * 128 ^ (i + 1) = acc + (x.toNat % 128 + 128 * m) * 128 ^ i := by
                rw [Nat.pow_succ, Nat.add_mul, Nat.mul_comm (128 ^ i) 128, ← Nat.mul_assoc, Nat.mul_comm m 128]; omega
              rw [this]
/-- A reader of these bytes, with no error, ahead of those. -/
structure RdAt (r : Reader) (D l : List Int) : Prop where
  b : r.b.D = D
  made : r.made = true
  err : r.err = 0
  suf : l <:+ D
  at' : r.at_ = (D.length : Int) - l.length
theorem vd_suffix : ∀ (i : Nat) (l : List Int) (n : Nat) (r : List Int), vd i l = some (n, r) → r <:+ l
  | _, [], _, _, h => by simp [vd] at h
  | i, x :: l, n, r, h => by
    rw [vd] at h
    split at h
    · cases h
    · split at h
      · cases h
      · split at h
        · simp only [Option.some.injEq, Prod.mk.injEq] at h; rw [← h.2]; exact List.suffix_cons x l
        · split at h
          · rename_i m r' hm
            simp only [Option.some.injEq, Prod.mk.injEq] at h
            rw [← h.2]
            exact (vd_suffix (i + 1) l m r' hm).trans (List.suffix_cons x l)
          · cases h
theorem RdAt.drop {r : Reader} {D l : List Int} (h : RdAt r D l) : D.drop r.at_.toNat = l := by
  have h1 := List.suffix_iff_eq_drop.1 h.suf
  have h2 := h.suf.length_le
  have : r.at_.toNat = D.length - l.length := by have := h.at'; omega
  rw [this]; exact h1.symm
theorem RdAt.ok {r : Reader} {D l : List Int} (h : RdAt r D l) (hl : D.length ≤ 1000000) : okR r := by
  have h2 := h.suf.length_le
  have h3 := h.at'
  have h4 := h.b
  exact ⟨⟨by omega, by rw [h4]; omega⟩, by rw [h4]; exact hl⟩
theorem RdAt.err0 {r : Reader} {D l : List Int} (h : RdAt r D l) : rdErr r = 0 := by unfold rdErr; rw [h.made, h.err]; rfl
theorem rdNum_at {r : Reader} {D l : List Int} (h : RdAt r D l) (hD : ∀ x ∈ D, 0 ≤ x ∧ x < 256) (hl : D.length ≤ 1000000) :
    match vd 0 l with
    | some (m, rest) => RdAt (rdNum r).1 D rest ∧ (rdNum r).2 = (m : Int)
    | none => rdErr (rdNum r).1 ≠ 0 := by
  have hk := h.ok hl
  have hb := h.b
  have key := rdNum_l0_eq hD hl r (r.b.D.length - r.at_.toNat + 1) 0 0 r (by rw [hb]) hb hk.1.1 (by have := hk.1.2; rw [hb] at this; exact this) h.err h.made (by decide) (by decide)
  rw [h.drop] at key
  unfold rdNum
  rw [h.err0]
  simp only [bne_self_eq_false, cond_false]
  cases hv : vd 0 l with
  | none => rw [hv] at key; exact key
  | some q =>
    obtain ⟨m, rest⟩ := q
    rw [hv] at key
    dsimp only at key ⊢
    have key' : rdNum_l0 r (r.b.D.length - r.at_.toNat + 1) 0 0 r = _ := key
    rw [key']
    refine ⟨⟨hb, rfl, rfl, (vd_suffix 0 l m rest hv).trans h.suf, rfl⟩, ?_⟩
    simp
/-- A number within bounds. -/
def rin (lo hi : Int) (l : List Int) : Option (Nat × List Int) :=
  match vd 0 l with
  | some (n, r) => if (n : Int) ≤ 4611686018427387904 ∧ lo ≤ (n : Int) ∧ (n : Int) ≤ hi then some (n, r) else none
  | none => none
theorem bif3 {α : Type} {a b c : Bool} {S T : α} : (bif a then S else (bif b then S else (bif c then S else T))) = (bif a || b || c then S else T) := by cases a <;> cases b <;> cases c <;> rfl
theorem vd_lt {l : List Int} (hD : ∀ x ∈ l, 0 ≤ x ∧ x < 256) {n : Nat} {r : List Int} (h : vd 0 l = some (n, r)) : n < 18446744073709551616 := by
  have := (vd_vb 0 l n r hD h).2.2
  simpa using this
theorem rdIn_at {r : Reader} {D l : List Int} (lo hi : Int) (h : RdAt r D l) (hD : ∀ x ∈ D, 0 ≤ x ∧ x < 256) (hl : D.length ≤ 1000000) :
    match rin lo hi l with
    | some (m, rest) => RdAt (rdIn r lo hi).1 D rest ∧ (rdIn r lo hi).2 = (m : Int)
    | none => rdErr (rdIn r lo hi).1 ≠ 0 := by
  have h1 := rdNum_at h hD hl
  unfold rin rdIn
  cases hv : vd 0 l with
  | none =>
    rw [hv] at h1
    dsimp only at h1 ⊢
    have : (rdErr (rdNum r).1 != 0) = true := by simpa using h1
    rw [this]; exact h1
  | some q =>
    obtain ⟨m, rest⟩ := q
    rw [hv] at h1
    dsimp only at h1 ⊢
    obtain ⟨h2, h3⟩ := h1
    rw [h2.err0, h3]
    simp only [bne_self_eq_false, cond_false]
    have hml := vd_lt (fun x hx => hD x (h.suf.subset hx)) hv
    rw [bif3]
    by_cases hc : (m : Int) ≤ 4611686018427387904 ∧ lo ≤ (m : Int) ∧ (m : Int) ≤ hi
    · have hw : IntKind.i64.wrap (m : Int) = (m : Int) := by have := wrapI (m : Int); omega
      have : (decide ((m : Int) > 4611686018427387904) || decide (IntKind.i64.wrap (m : Int) < lo) || decide (IntKind.i64.wrap (m : Int) > hi)) = false := by
        rw [hw]; simp only [Bool.or_eq_false_iff, decide_eq_false_iff_not]; omega
      rw [if_pos hc, this]
      exact ⟨h2, hw⟩
    · have : (decide ((m : Int) > 4611686018427387904) || decide (IntKind.i64.wrap (m : Int) < lo) || decide (IntKind.i64.wrap (m : Int) > hi)) = true := by
        rcases Int.lt_or_le 4611686018427387904 (m : Int) with hgt | hle
        · simp [hgt]
        · have hw : IntKind.i64.wrap (m : Int) = (m : Int) := by have := wrapI (m : Int); omega
          rw [hw]; simp only [Bool.or_eq_true, decide_eq_true_eq]; omega
      rw [if_neg hc, this]
      show rdErr (rdStop (rdNum r).1 _ 5) ≠ 0
      unfold rdStop rdErr
      rw [h2.err]
      show (bif !(rdNum r).1.made then (6 : Int) else 5) ≠ 0
      rw [h2.made]; decide
theorem rdIn_err {r : Reader} (lo hi : Int) (h : rdErr r ≠ 0) : rdErr (rdIn r lo hi).1 ≠ 0 := by
  have e : (rdErr r != 0) = true := by simpa using h
  unfold rdIn
  rw [rdNum_err r e]
  dsimp only
  rw [e]
  exact h
theorem rdEnd_at {r : Reader} {D l : List Int} (h : RdAt r D l) : (rdEnd r != 0) = !l.isEmpty := by
  unfold rdEnd
  rw [h.err0]
  have h2 := h.suf.length_le
  have h3 := h.at'
  rw [h.b]
  cases l with
  | nil =>
    have : decide (r.at_ < (D.length : Int)) = false := decide_eq_false (by simp at h3; omega)
    rw [this]; rfl
  | cons x l =>
    have : decide (r.at_ < (D.length : Int)) = true := decide_eq_true (by simp at h3; omega)
    rw [this]; rfl
theorem rdEnd_err {r : Reader} (h : rdErr r ≠ 0) : (rdEnd r != 0) = true := by
  have e : (rdErr r != 0) = true := by simpa using h
  unfold rdEnd
  rw [e]; exact e
/-- May a command be? -/
def okC (c : Command) : Prop := (1 ≤ c.epoch ∧ c.epoch ≤ 1099511627776) ∧ (((c.kind = 1 ∨ c.kind = 3 ∨ c.kind = 4) ∧ (0 ≤ c.node ∧ c.node < 6) ∧ c.site = 0) ∨ (c.kind = 2 ∧ (0 ≤ c.node ∧ c.node < 6) ∧ (0 ≤ c.site ∧ c.site < 3)) ∨ (c.kind = 5 ∧ c.node = 0 ∧ (0 ≤ c.site ∧ c.site < 3)))
theorem cmdCheck_spec (c : Command) : (cmdCheck c = 0 ∧ okC c) ∨ (cmdCheck c = 120 ∧ ¬ okC c) := by
  obtain ⟨k, n, s, e⟩ := c
  unfold cmdCheck okC
  simp only [Bool.cond_eq_ite, Bool.not_eq_true', decide_eq_true_eq, beq_iff_eq, Bool.not_eq_true', beq_eq_false_iff_ne, decide_eq_false_iff_not, ne_eq]
  repeat' split
  all_goals omega
theorem okC_of {c : Command} (h : cmdCheck c = 0) : okC c := by
  rcases cmdCheck_spec c with g | g
  · exact g.2
  · omega
theorem check_of_okC {c : Command} (h : okC c) : cmdCheck c = 0 := by
  rcases cmdCheck_spec c with g | g
  · exact g.1
  · exact absurd h g.2
def get4 (h1 h2 h3 h4 : Int) (D : List Int) : Option Command :=
  match rin 0 h1 D with
  | none => none
  | some (k, l1) => match rin 0 h2 l1 with
    | none => none
    | some (n, l2) => match rin 0 h3 l2 with
      | none => none
      | some (s, l3) => match rin 0 h4 l3 with
        | none => none
        | some (e, l4) => bif l4.isEmpty then some ⟨k, n, s, e⟩ else none
def zeroC : Command := ⟨0, 0, 0, 0⟩
def asked (o : Option Command) : Command × Int :=
  match o with
  | some c => bif cmdCheck c != 0 then (zeroC, 120) else (c, 0)
  | none => (zeroC, 120)
theorem cmdGet_eq (b : Sl Int) (hD : ∀ x ∈ b.D, 0 ≤ x ∧ x < 256) (hl : b.D.length ≤ 1000000) : cmdGet b = asked (get4 99 6 3 1099511627776 b.D) := by
  have h0 : RdAt (rdNew b) b.D b.D := ⟨rfl, rfl, rfl, List.suffix_refl _, by show (0 : Int) = _; omega⟩
  unfold cmdGet get4
  have k1 := rdIn_at 0 99 h0 hD hl
  generalize rdIn (rdNew b) 0 99 = q1 at k1 ⊢
  cases e1 : rin 0 99 b.D with
  | none =>
    rw [e1] at k1
    have := rdEnd_err (rdIn_err 0 1099511627776 (rdIn_err 0 3 (rdIn_err 0 6 k1)))
    rw [this]; rfl
  | some p1 =>
    obtain ⟨n1, l1⟩ := p1
    rw [e1] at k1
    obtain ⟨a1, v1⟩ := k1
    dsimp only
    have k2 := rdIn_at 0 6 a1 hD hl
    generalize rdIn q1.1 0 6 = q2 at k2 ⊢
    cases e2 : rin 0 6 l1 with
    | none =>
      rw [e2] at k2
      have := rdEnd_err (rdIn_err 0 1099511627776 (rdIn_err 0 3 k2))
      rw [this]; rfl
    | some p2 =>
      obtain ⟨n2, l2⟩ := p2
      rw [e2] at k2
      obtain ⟨a2, v2⟩ := k2
      dsimp only
      have k3 := rdIn_at 0 3 a2 hD hl
      generalize rdIn q2.1 0 3 = q3 at k3 ⊢
      cases e3 : rin 0 3 l2 with
      | none =>
        rw [e3] at k3
        have := rdEnd_err (rdIn_err 0 1099511627776 k3)
        rw [this]; rfl
      | some p3 =>
        obtain ⟨n3, l3⟩ := p3
        rw [e3] at k3
        obtain ⟨a3, v3⟩ := k3
        dsimp only
        have k4 := rdIn_at 0 1099511627776 a3 hD hl
        generalize rdIn q3.1 0 1099511627776 = q4 at k4 ⊢
        cases e4 : rin 0 1099511627776 l3 with
        | none =>
          rw [e4] at k4
          have := rdEnd_err k4
          rw [this]; rfl
        | some p4 =>
          obtain ⟨n4, l4⟩ := p4
          rw [e4] at k4
          obtain ⟨a4, v4⟩ := k4
          dsimp only
          rw [rdEnd_at a4, v1, v2, v3, v4]
          cases l4 with
          | nil => rfl
          | cons x l => rfl
theorem rin_some {hi : Int} {l : List Int} {n : Nat} {r : List Int} : rin 0 hi l = some (n, r) ↔ vd 0 l = some (n, r) ∧ (n : Int) ≤ 4611686018427387904 ∧ (n : Int) ≤ hi := by
  unfold rin
  cases vd 0 l with
  | none => simp
  | some q =>
    obtain ⟨m, t⟩ := q
    dsimp only
    by_cases hc : (m : Int) ≤ 4611686018427387904 ∧ (0 : Int) ≤ (m : Int) ∧ (m : Int) ≤ hi
    · rw [if_pos hc]
      constructor
      · intro h; cases h; exact ⟨rfl, hc.1, hc.2.2⟩
      · intro h; exact h.1
    · rw [if_neg hc]
      constructor
      · intro h; cases h
      · rintro ⟨h, h2, h3⟩; cases h; exact absurd ⟨h2, Int.natCast_nonneg _, h3⟩ hc
theorem get4_some {h1 h2 h3 h4 : Int} {D : List Int} {c : Command} : get4 h1 h2 h3 h4 D = some c ↔ ∃ n1 n2 n3 n4 l1 l2 l3, rin 0 h1 D = some (n1, l1) ∧ rin 0 h2 l1 = some (n2, l2) ∧ rin 0 h3 l2 = some (n3, l3) ∧ rin 0 h4 l3 = some (n4, []) ∧ c = ⟨(n1 : Nat), (n2 : Nat), (n3 : Nat), (n4 : Nat)⟩ := by
  unfold get4
  constructor
  · intro h
    split at h
    · cases h
    · rename_i n1 l1 e1
      split at h
      · cases h
      · rename_i n2 l2 e2
        split at h
        · cases h
        · rename_i n3 l3 e3
          split at h
          · cases h
          · rename_i n4 l4 e4
            cases l4 with
            | nil => cases h; exact ⟨n1, n2, n3, n4, l1, l2, l3, e1, e2, e3, e4, rfl⟩
            | cons x l => cases h
  · rintro ⟨n1, n2, n3, n4, l1, l2, l3, e1, e2, e3, e4, rfl⟩
    simp [e1, e2, e3, e4]
/-- A command's bytes. -/
def cb (c : Command) : List Int := vb c.kind.toNat ++ (vb c.node.toNat ++ (vb c.site.toNat ++ vb c.epoch.toNat))
theorem wrapU_id {x : Int} (h : 0 ≤ x) (h2 : x < 18446744073709551616) : IntKind.u64.wrap x = x := by rw [wrapU]; omega
theorem cmdPut_eq (c : Command) : cmdPut c = bif cmdCheck c != 0 then (Sl.mk true [], cmdCheck c) else (Sl.mk false (cb c), 0) := by
  unfold cmdPut
  rcases cmdCheck_spec c with ⟨h, hk⟩ | ⟨h, hk⟩
  · rw [h]
    unfold okC at hk
    simp only [bne_self_eq_false, cond_false]
    rw [wrapU_id (x := c.kind) (by omega) (by omega), wrapU_id (x := c.node) (by omega) (by omega), wrapU_id (x := c.site) (by omega) (by omega), wrapU_id (x := c.epoch) (by omega) (by omega)]
    rw [wPut_eq _ c.kind (by omega), wPut_eq _ c.node (by omega), wPut_eq _ c.site (by omega), wPut_eq _ c.epoch (by omega)]
    simp [cb]
  · rw [h]; rfl
theorem vb_bytes : ∀ (n : Nat), ∀ x ∈ vb n, 0 ≤ x ∧ x < 256 := by
  intro n
  induction n using Nat.strongRecOn with
  | _ n ih =>
    intro x hx
    rcases Nat.lt_or_ge n 128 with hn | hn
    · rw [vb_lt hn] at hx
      simp only [List.mem_singleton] at hx
      omega
    · rw [vb_ge hn] at hx
      cases hx with
      | head => omega
      | tail _ hx => exact ih (n / 128) (by omega) x hx
theorem cb_bytes (c : Command) : ∀ x ∈ cb c, 0 ≤ x ∧ x < 256 := by
  intro x hx
  simp only [cb, List.mem_append] at hx
  rcases hx with h | h | h | h <;> exact vb_bytes _ x h
theorem get_put {c : Command} (h : okC c) : get4 99 6 3 1099511627776 (cb c) = some c := by
  obtain ⟨k, n, s, e⟩ := c
  unfold okC at h
  dsimp only at h
  have key : ∀ {x : Int} {r : List Int}, 0 ≤ x → x < 18446744073709551616 → vd 0 (vb x.toNat ++ r) = some (x.toNat, r) := fun {x r} h0 h1 => vb_vd x.toNat 0 r (by simp; omega) (fun h => by omega)
  have hk : 0 ≤ k ∧ k ≤ 5 := by omega
  have hn : 0 ≤ n ∧ n ≤ 5 := by omega
  have hs : 0 ≤ s ∧ s ≤ 2 := by omega
  have he : 0 ≤ e ∧ e ≤ 1099511627776 := by omega
  have k4 : vd 0 (vb e.toNat) = some (e.toNat, []) := by have := key (x := e) (r := []) he.1 (by omega); rwa [List.append_nil] at this
  refine get4_some.2 ⟨k.toNat, n.toNat, s.toNat, e.toNat, _, _, _, rin_some.2 ⟨key (x := k) hk.1 (by omega), by omega, by omega⟩, rin_some.2 ⟨key (x := n) hn.1 (by omega), by omega, by omega⟩, rin_some.2 ⟨key (x := s) hs.1 (by omega), by omega, by omega⟩, rin_some.2 ⟨k4, by omega, by omega⟩, ?_⟩
  rw [show ((k.toNat : Nat) : Int) = k by omega, show ((n.toNat : Nat) : Int) = n by omega, show ((s.toNat : Nat) : Int) = s by omega, show ((e.toNat : Nat) : Int) = e by omega]
/-- What a change of a chain tells. -/
def told (c : Chain) (x : Chain × Int) : Prop := (x.2 = 0 → (x.1.epoch = c.epoch ∨ x.1.epoch = c.epoch + 1) ∧ check c = 0) ∧ x.2 ≠ 90
theorem told_err (c d : Chain) {e : Int} (h0 : e ≠ 0) (h : e ≠ 90) : told c (d, e) := ⟨fun h => absurd h h0, h⟩
theorem told_bif {c : Chain} {b : Bool} {x y : Chain × Int} (hx : b = true → told c x) (hy : b = false → told c y) : told c (bif b then x else y) := by
  cases b
  · exact hy rfl
  · exact hx rfl
theorem told_after {c : Chain} (h : check c = 0) (l : Sl Member) : told c (after c l, 0) :=
  ⟨fun _ => ⟨.inr (wrap_epoch h), h⟩, by show (0 : Int) ≠ 90; decide⟩
theorem told_check {c d : Chain} (h : (check c != 0) = true) : told c (d, check c) := by
  rcases check_80 c with e | e
  · rw [e] at h; cases h
  · rw [e]; exact told_err _ _ (by decide) (by decide)
theorem told_finW {c : Chain} (h : check c = 0) (l : List Member) : told c (finW c l) := by
  unfold finW
  refine told_bif (fun _ => told_err _ _ (by decide) (by decide)) fun _ => told_bif (fun _ => told_err _ _ (by decide) (by decide)) fun _ => told_bif (fun _ => told_err _ _ (by decide) (by decide)) fun _ => told_after h _
theorem told_without {c : Chain} (h : check c = 0) (g : Int) : told c (without c g) := by rw [without_eq]; exact told_finW h _
theorem told_drop (c : Chain) (n : Int) : told c (drop c n) := by
  unfold drop
  exact told_bif (fun h => told_check h) fun h => told_without (eq_of_bne_false h) _
theorem told_dropSite_l0 {c : Chain} (h : check c = 0) (s : Int) : ∀ (l : List Member) (i : Nat) (g : Int), told c (dropSite_l0 c s l i g)
  | [], _, g => by unfold dropSite_l0; exact told_without h g
  | x :: l, i, g => by
    unfold dropSite_l0
    exact told_bif (fun _ => told_dropSite_l0 h s l _ _) fun _ => told_dropSite_l0 h s l _ _
theorem told_dropSite (c : Chain) (s : Int) : told c (dropSite c s) := by
  unfold dropSite
  exact told_bif (fun h => told_check h) fun h => told_dropSite_l0 (eq_of_bne_false h) _ _ _ _
theorem told_join_l0 {c : Chain} (h : check c = 0) (m : Member) : ∀ (f : Nat) (i : Int), f = c.members.D.length - i.toNat + 1 → 0 ≤ i → i ≤ (c.members.D.length : Int) → told c (join_l0 c m f i)
  | 0, _, hf, _, _ => by omega
  | f + 1, i, hf, h0, h1 => by
    have h6 := check_le6 h
    unfold join_l0
    have e : told c (bif (i == 0) then ((Chain.mk 0 (Sl.mk true [])), (152 : Int)) else ((after c (Sl.mk false (insertL c.members.D i.toNat [(Member.mk m.node m.site true)]))), 0)) :=
      told_bif (fun _ => told_err _ _ (by decide) (by decide)) fun _ => told_after h _
    refine told_bif (fun hlt => told_bif (fun _ => ?_) fun _ => e) fun _ => e
    have := of_decide_eq_true hlt
    have := wrapI (i + 1)
    exact told_join_l0 h m f _ (by omega) (by omega) (by omega)
theorem told_join (c : Chain) (m : Member) : told c (join c m) := by
  unfold join
  refine told_bif (fun h => told_check h) fun h => told_bif (fun _ => told_err _ _ (by decide) (by decide)) fun _ => told_bif (fun _ => told_err _ _ (by decide) (by decide)) fun _ => told_bif (fun _ => told_err _ _ (by decide) (by decide)) fun _ => ?_
  exact told_join_l0 (eq_of_bne_false h) m _ 0 (by omega) (Int.le_refl _) (by omega)
theorem told_again (c : Chain) (n : Int) : told c (again c n) := by
  unfold again
  exact told_bif (fun h => told_check h) fun h => told_bif (fun _ => told_err _ _ (by decide) (by decide)) fun _ => told_bif (fun _ => told_err _ _ (by decide) (by decide)) fun _ => told_after (eq_of_bne_false h) _
theorem told_ready (c : Chain) (n : Int) : told c (ready c n) := by
  unfold ready
  exact told_bif (fun h => told_check h) fun h => told_bif (fun _ => told_err _ _ (by decide) (by decide)) fun _ => told_bif (fun _ => told_err _ _ (by decide) (by decide)) fun _ => ⟨fun _ => ⟨.inl rfl, eq_of_bne_false h⟩, by show (0 : Int) ≠ 90; decide⟩
theorem told_next (c : Chain) (k : Command) : told c (nextL c k) := by
  unfold nextL
  exact told_bif (fun _ => told_err _ _ (by decide) (by decide)) fun _ => told_bif (fun _ => told_drop _ _) fun _ => told_bif (fun _ => told_dropSite _ _) fun _ => told_bif (fun _ => told_join _ _) fun _ => told_bif (fun _ => told_again _ _) fun _ => told_ready _ _
theorem get_code (b : Sl Int) : (cmdGet b).2 = 0 ∨ (cmdGet b).2 = 120 := by
  unfold cmdGet
  cases (rdEnd (rdIn (rdIn (rdIn (rdIn (rdNew b) 0 99).1 0 6).1 0 3).1 0 1099511627776).1) != 0
  · simp only [cond_false]
    cases cmdCheck _ != 0
    · exact .inl rfl
    · exact .inr rfl
  · exact .inr rfl
/-- A ledger behind so many calls. -/
structure Lived (g : Ledger) (n : Nat) : Prop where
  lo : 1 ≤ g.chain.epoch
  hi : g.chain.epoch ≤ 1 + (n : Int)
  at0 : 0 ≤ g.at_
  at1 : g.at_ ≤ (n : Int)
theorem Lived.dead {g : Ledger} {n : Nat} (h : Lived g n) : lDead g = false := by
  have := h.lo
  unfold lDead
  simp; omega
theorem Lived.chain {g : Ledger} {n : Nat} (h : Lived g n) : lChain g = copied g.chain := by unfold lChain; rw [h.dead]; rfl
theorem Lived.at_ {g : Ledger} {n : Nat} (h : Lived g n) : lAt g = g.at_ := by unfold lAt; rw [h.dead]; rfl
/-- What Apply does, told by cases. -/
theorem apply_cases {g : Ledger} {n : Nat} (h : Lived g n) (_ : n ≤ 1000) (i : Int) (d : Sl Int) :
    (lApply g i d = (g, 90)) ∨
    (i = g.at_ + 1 ∧ ((lApply g i d = (Ledger.mk g.past g.chain i, 0) ∧ d.D.length = 0) ∨ (lApply g i d = (Ledger.mk g.past g.chain i, (cmdGet d).2) ∧ (cmdGet d).2 = 120) ∨
      ((cmdGet d).2 = 0 ∧ lApply g i d = (Ledger.mk g.past g.chain i, (nextL g.chain (cmdGet d).1).2) ∧ (nextL g.chain (cmdGet d).1).2 ≠ 0) ∨
      ((cmdGet d).2 = 0 ∧ (nextL g.chain (cmdGet d).1).2 = 0 ∧ (((nextL g.chain (cmdGet d).1).1.epoch > g.chain.epoch ∧ lApply g i d = (Ledger.mk (Past.mk (Sl.mk false (g.past.all.D ++ [copied (nextL g.chain (cmdGet d).1).1]))) (nextL g.chain (cmdGet d).1).1 i, 0)) ∨
        (¬ (nextL g.chain (cmdGet d).1).1.epoch > g.chain.epoch ∧ lApply g i d = (Ledger.mk g.past (nextL g.chain (cmdGet d).1).1 i, 0)))))) := by
  have h1 := h.at0
  have h2 := h.at1
  unfold lApply
  rw [h.dead, cond_false]
  cases e1 : decide (i > 1099511627776)
  · have f1 := of_decide_eq_false e1
    rw [cond_false]
    cases e2 : decide (i < 1)
    · have f2 := of_decide_eq_false e2
      rw [cond_false]
      cases e3 : IntKind.i64.wrap (i - 1) != g.at_
      · have f3 := eq_of_bne_false e3
        have := wrapI (i - 1)
        have hi : i = g.at_ + 1 := by omega
        rw [cond_false]
        refine .inr ⟨hi, ?_⟩
        cases e4 : (d.D.length : Int) == 0
        · rw [cond_false]
          refine .inr ?_
          rcases get_code d with e5 | e5
          · rw [e5]
            simp only [bne_self_eq_false, cond_false]
            refine .inr ?_
            cases e6 : (nextL g.chain (cmdGet d).1).2 != 0
            · have f6 := eq_of_bne_false e6
              rw [cond_false]
              refine .inr ⟨by first | rfl | trivial, f6, ?_⟩
              cases e7 : decide ((nextL g.chain (cmdGet d).1).1.epoch > g.chain.epoch)
              · exact .inr ⟨of_decide_eq_false e7, rfl⟩
              · exact .inl ⟨of_decide_eq_true e7, rfl⟩
            · exact .inl ⟨by first | rfl | trivial, rfl, by simpa using e6⟩
          · rw [e5]
            exact .inl ⟨rfl, rfl⟩
        · exact .inl ⟨rfl, by simpa using e4⟩
      · exact .inl rfl
    · exact .inl rfl
  · exact .inl rfl
theorem Lived.apply {g : Ledger} {n : Nat} (h : Lived g n) (hn : n ≤ 1000) (i : Int) (d : Sl Int) : Lived (lApply g i d).1 (n + 1) := by
  have a := h.lo; have b := h.hi; have c := h.at0; have e := h.at1
  rcases apply_cases h hn i d with q | ⟨hi, ⟨q, _⟩ | ⟨q, _⟩ | ⟨_, q, _⟩ | ⟨_, q0, ⟨_, q⟩ | ⟨_, q⟩⟩⟩
  · rw [q]; exact ⟨a, by dsimp only; omega, c, by dsimp only; omega⟩
  · rw [q]; exact ⟨a, by dsimp only; omega, by dsimp only; omega, by dsimp only; omega⟩
  · rw [q]; exact ⟨a, by dsimp only; omega, by dsimp only; omega, by dsimp only; omega⟩
  · rw [q]; exact ⟨a, by dsimp only; omega, by dsimp only; omega, by dsimp only; omega⟩
  · rw [q]
    have := ((told_next g.chain (cmdGet d).1).1 q0).1
    exact ⟨by dsimp only; omega, by dsimp only; omega, by dsimp only; omega, by dsimp only; omega⟩
  · rw [q]
    have := ((told_next g.chain (cmdGet d).1).1 q0).1
    exact ⟨by dsimp only; omega, by dsimp only; omega, by dsimp only; omega, by dsimp only; omega⟩
theorem newL_lived {m : Sl Member} (h : (firstC m).2 = 0) : Lived (newL m).1 0 := by
  have e : (firstC m).1.epoch = 1 := by
    rw [firstC_eq] at h ⊢
    unfold finF at h ⊢
    generalize bySite m.D 0 ++ bySite m.D 1 ++ bySite m.D 2 = vc at h ⊢
    cases e1 : ((vc.length : Int) != (m.D.length : Int))
    · rw [e1] at h
      simp only [cond_false] at h ⊢
      cases e2 : check (Chain.mk 1 (Sl.mk vc.isEmpty vc)) != 0
      · rfl
      · rw [e2] at h; cases h
    · rw [e1] at h; cases h
  exact ⟨by show 1 ≤ (firstC m).1.epoch; omega, by show (firstC m).1.epoch ≤ _; omega, Int.le_refl _, Int.le_refl _⟩
end Go.Proofs.Ytaffaalpgpepeaa
/- A ledger behind so many calls: few members, few chains. No conditions. -/
namespace Go.Proofs.Ytaffaalpgpepeaa
open Go.Am
structure SafeI (g : Ledger) (n : Nat) : Prop where
  ok : okL g
  few : g.chain.members.D.length ≤ 60
  all : g.past.all.D.length ≤ 1 + n
theorem SafeI.mono {g : Ledger} {n m : Nat} (h : SafeI g n) (hm : n ≤ m) : SafeI g m := ⟨h.ok, h.few, Nat.le_trans h.all (by omega)⟩
theorem apply_few {g : Ledger} (h : g.chain.members.D.length ≤ 60) (i : Int) (d : Sl Int) : (lApply g i d).1.chain.members.D.length ≤ 60 := by
  have hx := few_next g.chain (cmdGet d).1
  unfold lApply
  cases lDead g
  case true => exact h
  cases decide (i > 1099511627776)
  case true => exact h
  cases decide (i < 1)
  case true => exact h
  cases (IntKind.i64.wrap (i - 1)) != g.at_
  case true => exact h
  cases (d.D.length : Int) == 0
  case true => exact h
  cases (cmdGet d).2 != 0
  case true => exact h
  cases (nextL g.chain (cmdGet d).1).2 != 0
  case true => exact h
  cases decide ((nextL g.chain (cmdGet d).1).1.epoch > g.chain.epoch)
  · exact Nat.le_trans hx.2 (by decide)
  · exact Nat.le_trans hx.2 (by decide)
theorem SafeI.apply {g : Ledger} {n : Nat} (h : SafeI g n) (i : Int) (d : Sl Int) : SafeI (lApply g i d).1 (n + 1) :=
  ⟨apply_okL h.ok i d, apply_few h.few i d, by have := apply_all g i d; have := h.all; omega⟩
theorem safe_new {m : Sl Member} (hm : m.D.length ≤ 60) : SafeI (newL m).1 0 :=
  ⟨(newL_ok m (by omega)).1, Nat.le_trans (firstC_len m) hm, (newL_ok m (by omega)).2⟩
theorem safe_len {g : Ledger} {n : Nat} (h : SafeI g n) : (lChain g).members.D.length ≤ 60 := by
  unfold lChain
  cases lDead g
  · exact Nat.le_trans (copied_len g.chain) h.few
  · exact Nat.zero_le _
theorem safe_hn {g : Ledger} : (lChain g).members.nil = true → (lChain g).members.D = [] := by
  unfold lChain
  cases lDead g
  · exact clone_hn g.chain.members
  · exact fun _ => rfl
end Go.Proofs.Ytaffaalpgpepeaa
/- The example, a law. No conditions. -/
namespace Go.Proofs.Ytaffaalpgpepeaa
open Go.Am
def awake  : Bool :=
  (bif ((allP (Chain.mk 1 (Sl.mk false [(Member.mk 0 0 false), (Member.mk 1 1 false)])) (maskOf (Sl.mk false [0, 2])) (ofL [0, 1, 1, 0, 0, 0]) (ofL [1, 1, 0])).2.2 == 0) then (bif (eqCmds (allP (Chain.mk 1 (Sl.mk false [(Member.mk 0 0 false), (Member.mk 1 1 false)])) (maskOf (Sl.mk false [0, 2])) (ofL [0, 1, 1, 0, 0, 0]) (ofL [1, 1, 0])).1 (Sl.mk false [(Command.mk 1 1 0 1), (Command.mk 2 2 1 2)])) then (same (allP (Chain.mk 1 (Sl.mk false [(Member.mk 0 0 false), (Member.mk 1 1 false)])) (maskOf (Sl.mk false [0, 2])) (ofL [0, 1, 1, 0, 0, 0]) (ofL [1, 1, 0])).2.1 (Chain.mk 3 (Sl.mk false [(Member.mk 0 0 false), (Member.mk 2 1 false)]))) else false) else false)
theorem awake_calls   : PCalls Try.prog 9 [] (.pv (.lit (.bool (awake )))) := by
 generalize hR : awake  = R
 refine PCalls.of_body tabOk Try.func9 rfl rfl rfl rfl rfl mixed fun E hP C hI => ?_
 refine Awp.consP C ?_
 refine rvP C (.pv (.lit (.bool false))) ?_
 refine rvc_nil ?_
 refine Awp.consP C ?_
 refine rvP C (.agg [.pv (.lit (.int .i64 0)), .pv (.lit (.int .i64 0)), .pv (.lit (.bool false))]) ?_
 refine rvP C (.agg [.pv (.lit (.int .i64 1)), .pv (.lit (.int .i64 1)), .pv (.lit (.bool false))]) ?_
 refine rvc_un (rexec_buildSliceF C eMember [(Member.mk 0 0 false), (Member.mk 1 1 false)] rfl rfl rfl rfl rfl rfl rfl (by decide) rfl ?_)
 refine rvP C (.agg [.pv (.lit (.int .i64 1)), sS (some false) eMember [(Member.mk 0 0 false), (Member.mk 1 1 false)]]) ?_
 refine rvc_un (rexec_prim C (δ := { v := .ptr 1 0, new := [(1, .cells [.pv (.lit (.int .i64 0)), sS (some true) eMember []])] }) rfl rfl rfl rfl trivial rfl ?_)
 refine rvc_un (rexec_prim C (δ := { v := .undef, wr := [(1, some (.cells [.pv (.lit (.int .i64 1)), sS (some false) eMember [(Member.mk 0 0 false), (Member.mk 1 1 false)]]))] }) rfl rfl rfl rfl trivial rfl ?_)
 refine rvc_nil ?_
 refine Awp.consP C ?_
 refine rvP C (.agg [.pv (.lit (.int .i64 1)), sS (some false) eMember [(Member.mk 0 0 false), (Member.mk 1 1 false)]]) ?_
 refine rvc_un (rexec_buildSliceF C (eI .i64) [0, 2] rfl rfl rfl rfl rfl rfl rfl (by decide) rfl ?_)
 obtain ⟨ma, hq_ma⟩ : ∃ q_, q_ = (maskOf (Sl.mk false [0, 2])) := ⟨_, rfl⟩
 have hc_ma := (maskOf_calls (Sl.mk false [0, 2]) (of_decide_eq_true (by kernel_rfl)))
 first | rw [← hq_ma] at hR hc_ma | (unfold awake at hR; rw [← hq_ma] at hR hc_ma)
 have hf0_ma := maskOf_range (Sl.mk false [0, 2])
 rw [← hq_ma] at hf0_ma
 refine rvc_un (rexec_call hP C rfl rfl rfl hc_ma ?_)
 refine rvP C (.agg [.pv (.lit (.int .i64 0)), .pv (.lit (.int .i64 1)), .pv (.lit (.int .i64 1)), .pv (.lit (.int .i64 0)), .pv (.lit (.int .i64 0)), .pv (.lit (.int .i64 0))]) ?_
 refine rvP C (.agg [.pv (.lit (.int .i64 1)), .pv (.lit (.int .i64 1)), .pv (.lit (.int .i64 0))]) ?_
 obtain ⟨ap, hq_ap⟩ : ∃ q_, q_ = (allP (Chain.mk 1 (Sl.mk false [(Member.mk 0 0 false), (Member.mk 1 1 false)])) ma (ofL [0, 1, 1, 0, 0, 0]) (ofL [1, 1, 0])) := ⟨_, rfl⟩
 have hc_ap := (allP_calls (Chain.mk 1 (Sl.mk false [(Member.mk 0 0 false), (Member.mk 1 1 false)])) ma (ofL [0, 1, 1, 0, 0, 0]) (ofL [1, 1, 0]) (fun h => Bool.noConfusion h) (by assumption) (of_decide_eq_true (by kernel_rfl)))
 first | rw [← hq_ap] at hR hc_ap | (unfold awake at hR; rw [← hq_ap] at hR hc_ap)
 have hf0_ap := (allP_le (Chain.mk 1 (Sl.mk false [(Member.mk 0 0 false), (Member.mk 1 1 false)])) ma (ofL [0, 1, 1, 0, 0, 0]) (ofL [1, 1, 0]) (by assumption)).1
 rw [← hq_ap] at hf0_ap
 have hf1_ap := (allP_le (Chain.mk 1 (Sl.mk false [(Member.mk 0 0 false), (Member.mk 1 1 false)])) ma (ofL [0, 1, 1, 0, 0, 0]) (ofL [1, 1, 0]) (by assumption)).2
 rw [← hq_ap] at hf1_ap
 refine rvc_un (rexec_call hP C rfl rfl rfl hc_ap ?_)
 refine rvP C (.tup [sS (some ap.1.nil) eCommand ap.1.D, .agg [.pv (.lit (.int .i64 ap.2.1.epoch)), sS (some ap.2.1.members.nil) eMember ap.2.1.members.D], .pv (.lit (.int .i64 ap.2.2))]) ?_
 refine rvP C (sS (some ap.1.nil) eCommand ap.1.D) ?_
 refine rvP C (.agg [.pv (.lit (.int .i64 ap.2.1.epoch)), sS (some ap.2.1.members.nil) eMember ap.2.1.members.D]) ?_
 refine rvP C (.pv (.lit (.int .i64 ap.2.2))) ?_
 refine rvc_un (rexec_prim C (δ := { v := .ptr 3 0, new := [(3, .cells [.pv (.lit (.int .i64 0)), sS (some true) eMember []])] }) rfl rfl rfl rfl trivial rfl ?_)
 refine rvP C (sS (some ap.1.nil) eCommand ap.1.D) ?_
 refine rvc_un (rexec_prim C (δ := { v := .undef, wr := [(3, some (.cells [.pv (.lit (.int .i64 ap.2.1.epoch)), sS (some ap.2.1.members.nil) eMember ap.2.1.members.D]))] }) rfl rfl rfl rfl trivial rfl ?_)
 refine rvP C (.pv (.lit (.int .i64 ap.2.2))) ?_
 refine rvc_nil ?_
 refine Awp.consP C ?_
 refine rvP C (.pv (.lit (.int .i64 ap.2.2))) ?_
 refine rvP C (.pv (.lit (.bool (ap.2.2 == 0)))) ?_
 refine rvP C (.pv (.lit (.bool (ap.2.2 == 0)))) ?_
 refine rvc_case 21 (ap.2.2 == 0) rfl (fun h1 => ?_) (fun h1 => ?_)
 ·
  replace hR := of_true h1 hR
  refine rvO C (sS (some ap.1.nil) eCommand ap.1.D) ?_
  refine rvO C (.agg [.pv (.lit (.int .i64 1)), .pv (.lit (.int .i64 1)), .pv (.lit (.int .i64 0)), .pv (.lit (.int .i64 1))]) ?_
  refine rvO C (.agg [.pv (.lit (.int .i64 2)), .pv (.lit (.int .i64 2)), .pv (.lit (.int .i64 1)), .pv (.lit (.int .i64 2))]) ?_
  refine rvc_open rfl rfl rfl (rexec_buildSliceF C eCommand [(Command.mk 1 1 0 1), (Command.mk 2 2 1 2)] rfl rfl rfl rfl rfl rfl rfl (by decide) rfl ?_)
  obtain ⟨ec, hq_ec⟩ : ∃ q_, q_ = (eqCmds ap.1 (Sl.mk false [(Command.mk 1 1 0 1), (Command.mk 2 2 1 2)])) := ⟨_, rfl⟩
  have hc_ec := (eqCmds_calls ap.1 (Sl.mk false [(Command.mk 1 1 0 1), (Command.mk 2 2 1 2)]) (by first | omega | decide))
  first | rw [← hq_ec] at hR hc_ec | (unfold awake at hR; rw [← hq_ec] at hR hc_ec)
  refine rvc_open rfl rfl rfl (rexec_call hP C rfl rfl rfl hc_ec ?_)
  refine rvP C (.pv (.lit (.bool ec))) ?_
  refine rvP C (.pv (.lit (.bool ec))) ?_
  refine rvc_case 28 ec rfl (fun h2 => ?_) (fun h2 => ?_)
  ·
   replace hR := of_true h2 hR
   refine rvO C (.agg [.pv (.lit (.int .i64 ap.2.1.epoch)), sS (some ap.2.1.members.nil) eMember ap.2.1.members.D]) ?_
   refine rvO C (.agg [.pv (.lit (.int .i64 0)), .pv (.lit (.int .i64 0)), .pv (.lit (.bool false))]) ?_
   refine rvO C (.agg [.pv (.lit (.int .i64 2)), .pv (.lit (.int .i64 1)), .pv (.lit (.bool false))]) ?_
   refine rvc_open rfl rfl rfl (rexec_buildSliceF C eMember [(Member.mk 0 0 false), (Member.mk 2 1 false)] rfl rfl rfl rfl rfl rfl rfl (by decide) rfl ?_)
   refine rvO C (.agg [.pv (.lit (.int .i64 3)), sS (some false) eMember [(Member.mk 0 0 false), (Member.mk 2 1 false)]]) ?_
   obtain ⟨sm, hq_sm⟩ : ∃ q_, q_ = (same ap.2.1 (Chain.mk 3 (Sl.mk false [(Member.mk 0 0 false), (Member.mk 2 1 false)]))) := ⟨_, rfl⟩
   have hc_sm := (same_calls ap.2.1 (Chain.mk 3 (Sl.mk false [(Member.mk 0 0 false), (Member.mk 2 1 false)])) (by first | omega | decide))
   first | rw [← hq_sm] at hR hc_sm | (unfold awake at hR; rw [← hq_sm] at hR hc_sm)
   refine rvc_open rfl rfl rfl (rexec_call hP C rfl rfl rfl hc_sm ?_)
   refine rvP C (.pv (.lit (.bool sm))) ?_
   refine rvP C (.pv (.lit (.bool sm))) ?_
   refine rvc_nil ?_
   refine Awp.ret ?_
   subst hR
   exact ⟨.inl rfl, rfl⟩
  ·
   replace hR := of_false h2 hR
   refine rvS ?_
   refine rvS ?_
   refine rvS ?_
   refine rvS ?_
   refine rvS ?_
   refine rvS ?_
   refine rvP C (.pv (.lit (.bool false))) ?_
   refine rvP C (.pv (.lit (.bool false))) ?_
   refine rvc_nil ?_
   refine Awp.ret ?_
   subst hR
   exact ⟨.inl rfl, rfl⟩
 ·
  replace hR := of_false h1 hR
  refine rvS ?_
  refine rvS ?_
  refine rvS ?_
  refine rvS ?_
  refine rvS ?_
  refine rvP C (.pv (.lit (.bool false))) ?_
  refine rvP C (.pv (.lit (.bool false))) ?_
  refine rvS ?_
  refine rvS ?_
  refine rvS ?_
  refine rvS ?_
  refine rvS ?_
  refine rvS ?_
  refine rvP C (.pv (.lit (.bool false))) ?_
  refine rvP C (.pv (.lit (.bool false))) ?_
  refine rvc_nil ?_
  refine Awp.ret ?_
  subst hR
  exact ⟨.inl rfl, rfl⟩
end Go.Proofs.Ytaffaalpgpepeaa
/- A law: each command can be done. No conditions. -/
namespace Go.Proofs.Ytaffaalpgpepeaa
open Go.Am
def lawSafe_l1 (alive : Int) (kk : Ledger → Bool) : List Member → Nat → Ledger → Bool
  | [], _, vc1 => kk vc1
  | x :: xs, i1, vc1 => (bif x.fresh then (bif (mHas alive x.node) then (bif ((lApply vc1 (IntKind.i64.wrap ((lAt vc1) + 1)) ((cmdPut (Command.mk 4 x.node 0 ((lChain vc1).epoch))).1)).2 != 0) then false else lawSafe_l1 alive kk xs (i1 + 1) (lApply vc1 (IntKind.i64.wrap ((lAt vc1) + 1)) ((cmdPut (Command.mk 4 x.node 0 ((lChain vc1).epoch))).1)).1) else lawSafe_l1 alive kk xs (i1 + 1) vc1) else lawSafe_l1 alive kk xs (i1 + 1) vc1)
def lawSafe_l0 (first : (Sl Member)) (alive : Int) (h : (Nat → Int)) (w : (Nat → Int)) : Nat → Nat → Ledger → Bool
  | 0, _, vc => (bif (eqInts (allOf (nodes (allP (Chain.mk 1 (tMembers first)) alive h w).2.1)) (allOf (nodes (lChain vc)))) then (awake ) else false)
  | k + 1, i, vc => lawSafe_l1 alive (fun vc1 => (bif ((nextP (lChain vc1) alive h w).2.2 != 0) then (bif ((planCheck h w) == (nextP (lChain vc1) alive h w).2.2) then (awake ) else false) else (bif (!(nextP (lChain vc1) alive h w).2.1) then (bif (eqInts (allOf (nodes (allP (Chain.mk 1 (tMembers first)) alive h w).2.1)) (allOf (nodes (lChain vc1)))) then (awake ) else false) else (bif (((cmdPut (nextP (lChain vc1) alive h w).1).2) != 0) then false else (bif ((nextP (lChain vc1) alive h w).1.kind == 1) then (bif (mHas alive (nextP (lChain vc1) alive h w).1.node) then false else (bif ((lApply vc1 (IntKind.i64.wrap ((lAt vc1) + 1)) ((cmdPut (nextP (lChain vc1) alive h w).1).1)).2 != 0) then false else lawSafe_l0 first alive h w k (i + 1) (lApply vc1 (IntKind.i64.wrap ((lAt vc1) + 1)) ((cmdPut (nextP (lChain vc1) alive h w).1).1)).1)) else (bif ((lApply vc1 (IntKind.i64.wrap ((lAt vc1) + 1)) ((cmdPut (nextP (lChain vc1) alive h w).1).1)).2 != 0) then false else lawSafe_l0 first alive h w k (i + 1) (lApply vc1 (IntKind.i64.wrap ((lAt vc1) + 1)) ((cmdPut (nextP (lChain vc1) alive h w).1).1)).1)))))) ((lChain vc).members.D) 0 vc
def lawSafe (first : (Sl Member)) (alive : Int) (h : (Nat → Int)) (w : (Nat → Int)) : Bool :=
  (bif (decide ((first.D.length : Int) > 60)) then (awake ) else (bif (((firstC first).2) != 0) then (awake ) else lawSafe_l0 first alive h w 14 0 ((newL first).1)))
theorem lawSafe_calls (first : (Sl Member)) (alive : Int) (h : (Nat → Int)) (w : (Nat → Int)) (ha : 0 ≤ alive ∧ alive < 18446744073709551616) (hS : first.D.length ≤ 60) (hl1 : first.D.length ≤ 1000000) : PCalls Try.prog 8 [sS (some first.nil) eMember first.D, .pv (.lit (.int .u64 alive)), .agg [.pv (.lit (.int .i64 (h 0))), .pv (.lit (.int .i64 (h 1))), .pv (.lit (.int .i64 (h 2))), .pv (.lit (.int .i64 (h 3))), .pv (.lit (.int .i64 (h 4))), .pv (.lit (.int .i64 (h 5)))], .agg [.pv (.lit (.int .i64 (w 0))), .pv (.lit (.int .i64 (w 1))), .pv (.lit (.int .i64 (w 2)))]] (.pv (.lit (.bool (lawSafe first alive h w)))) := by
 generalize hR : lawSafe first alive h w = R
 refine PCalls.of_body tabOk Try.func8 rfl rfl rfl rfl rfl mixed fun E hP C hI => ?_
 refine Awp.consP C ?_
 refine rvc_un (rexec_prim C (δ := { v := .ptr 6 0, new := [(6, .cells [.pv (.lit (.int .i64 (h 0))), .pv (.lit (.int .i64 (h 1))), .pv (.lit (.int .i64 (h 2))), .pv (.lit (.int .i64 (h 3))), .pv (.lit (.int .i64 (h 4))), .pv (.lit (.int .i64 (h 5)))])] }) rfl rfl rfl rfl trivial rfl ?_)
 refine rvc_un (rexec_prim C (δ := { v := .ptr 7 0, new := [(7, .cells [.pv (.lit (.int .i64 (w 0))), .pv (.lit (.int .i64 (w 1))), .pv (.lit (.int .i64 (w 2)))])] }) rfl rfl rfl rfl trivial rfl ?_)
 refine rvP C (.pv (.lit (.bool false))) ?_
 refine rvc_nil ?_
 refine Awp.seq ?_
 refine Awp.consP C ?_
 refine rvP C (sS (some first.nil) eMember first.D) ?_
 refine rvP C (.pv (.lit (.int .i64 (first.D.length : Int)))) ?_
 refine rvP C (.pv (.lit (.bool (decide ((first.D.length : Int) > 60))))) ?_
 refine rvc_nil ?_
 refine Awp.cond (b := (decide ((first.D.length : Int) > 60))) rfl (fun h1 => ?_) (fun h1 => ?_)
 ·
  replace hR := of_true h1 hR
  refine Awp.consP C ?_
  obtain ⟨aw, hq_aw⟩ : ∃ q_, q_ = (awake ) := ⟨_, rfl⟩
  have hc_aw := (awake_calls )
  first | rw [← hq_aw] at hR hc_aw | (unfold lawSafe at hR; rw [← hq_aw] at hR hc_aw)
  refine rvc_un (rexec_call hP C rfl rfl rfl hc_aw ?_)
  refine rvP C (.pv (.lit (.bool aw))) ?_
  refine rvc_nil ?_
  refine Awp.ret ?_
  subst hR
  exact ⟨.inl rfl, rfl⟩
 ·
  replace hR := of_false h1 hR
  refine Awp.skip ?_
  refine Awp.cons C (fun _ => .quiet) (by kernel_rfl) ?_
  refine rvP C (sS (some first.nil) eMember first.D) ?_
  rcases Bool.eq_false_or_eq_true (((firstC first).2) != 0) with h2 | h2
  ·
   replace hR := of_true h2 hR
   refine rvc_un (rexec_call hP C rfl rfl rfl (newNil_calls first h2 hl1) ?_)
   refine rvP C (.tup [.pv (.lit (.pointer none)), .pv (.lit (.int .i64 ((newNil first).2)))]) ?_
   refine rvP C (.pv (.lit (.pointer none))) ?_
   refine rvP C (.pv (.lit (.int .i64 ((newNil first).2)))) ?_
   refine rvP C (.pv (.lit (.pointer none))) ?_
   refine rvP C (.pv (.lit (.int .i64 ((newNil first).2)))) ?_
   refine rvc_nil ?_
   refine Awp.seq ?_
   refine Awp.consP C ?_
   refine rvP C (.pv (.lit (.int .i64 ((newNil first).2)))) ?_
   refine rvP C (.pv (.lit (.bool (((newNil first).2) != 0)))) ?_
   refine rvc_nil ?_
   refine Awp.condT (b := (((newNil first).2) != 0)) rfl h2 ?_
   refine Awp.consP C ?_
   obtain ⟨aw1, hq_aw1⟩ : ∃ q_, q_ = (awake ) := ⟨_, rfl⟩
   have hc_aw1 := (awake_calls )
   first | rw [← hq_aw1] at hR hc_aw1 | (unfold lawSafe at hR; rw [← hq_aw1] at hR hc_aw1)
   refine rvc_un (rexec_call hP C rfl rfl rfl hc_aw1 ?_)
   refine rvP C (.pv (.lit (.bool aw1))) ?_
   refine rvc_nil ?_
   refine Awp.ret ?_
   subst hR
   exact ⟨.inl rfl, rfl⟩
  ·
   replace hR := of_false h2 hR
   refine rvc_un (rexec_callO hP C rfl rfl rfl rfl (newL_calls first h2 hl1) ?_)
   refine rvP C (.tup [.ptr 29 0, .pv (.lit (.int .i64 ((newL first).2)))]) ?_
   refine rvP C (.ptr 29 0) ?_
   refine rvP C (.pv (.lit (.int .i64 ((newL first).2)))) ?_
   refine rvP C (.ptr 29 0) ?_
   refine rvP C (.pv (.lit (.int .i64 ((newL first).2)))) ?_
   refine rvc_nil ?_
   refine Awp.seq ?_
   refine Awp.consP C ?_
   refine rvP C (.pv (.lit (.int .i64 ((newL first).2)))) ?_
   refine rvP C (.pv (.lit (.bool (((newL first).2) != 0)))) ?_
   refine rvc_nil ?_
   refine Awp.condF (b := (((newL first).2) != 0)) rfl (newL_e first) ?_
   refine Awp.skip ?_
   refine Awp.seq ?_
   refine Awp.consP C ?_
   refine rvP C (.pv (.lit (.int .i64 0))) ?_
   refine rvc_nil ?_
   refine Awp.block ?_
   refine Awp.forR (σ := Ledger) (14) (fun i v => [(0, sS (some first.nil) eMember first.D), (1, .pv (.lit (.int .u64 alive))), (6, .ptr 6 0), (7, .ptr 7 0), (9, .ptr 29 0), (35, .pv (.lit (.int .i64 (i : Int))))]) (fun i v => [(6, .cells [.pv (.lit (.int .i64 (h 0))), .pv (.lit (.int .i64 (h 1))), .pv (.lit (.int .i64 (h 2))), .pv (.lit (.int .i64 (h 3))), .pv (.lit (.int .i64 (h 4))), .pv (.lit (.int .i64 (h 5)))]), (7, .cells [.pv (.lit (.int .i64 (w 0))), .pv (.lit (.int .i64 (w 1))), .pv (.lit (.int .i64 (w 2)))]), (29, .cells [sS (some v.past.all.nil) eChain v.past.all.D, .pv (.lit (.int .i64 v.chain.epoch)), sS (some v.chain.members.nil) eMember v.chain.members.D, .pv (.lit (.int .i64 v.at_))])]) [6, 7, 29] (fun i v => (lawSafe_l0 first alive h w (14 - i) i v = R) ∧ (SafeI v (62 * i))) ((newL first).1) ?_ ?_ (fun i vc h3 hR => ?_)
   · exact ⟨hR, (safe_new hS)⟩
   · exact ⟨fun b => b, WeakerR.ofL (Ks := [6, 7, 29]) hI ⟨⟨rfl, rfl⟩, ⟨rfl, rfl⟩, ⟨rfl, rfl⟩, ⟨rfl, rfl⟩, ⟨rfl, rfl⟩, ⟨rfl, rfl⟩, trivial⟩ (okH_cons rfl rfl rfl rfl (okH_cons rfl rfl rfl rfl (okH_cons rfl rfl rfl rfl (okH_nil)))) rfl⟩
   obtain ⟨hR, hV⟩ := hR
   refine Awp.consP C ?_
   refine rvP C (.pv (.lit (.bool (decide ((i : Int) < 14))))) ?_
   refine rvc_nil ?_
   refine Awp.seq ?_
   refine Awp.cond (b := (decide ((i : Int) < 14))) rfl (fun h4 => ?_) (fun h4 => ?_)
   ·
    have h5 : i < 14 := by have := of_decide_eq_true h4; omega
    obtain ⟨k, h6⟩ : ∃ k, 14 - i = k + 1 := ⟨14 - i - 1, by omega⟩
    rw [h6] at hR
    refine Awp.skip ?_
    refine Awp.seq ?_
    refine Awp.block ?_
    refine Awp.seq ?_
    refine Awp.cons C (fun _ => .writer) (by kernel_rfl) ?_
    refine rvP C (.ptr 29 0) ?_
    refine rvc_un (rexec_callM hP C (b := 29) rfl rfl rfl (lChain_calls vc hV.ok.2.1) rfl rfl ?_)
    refine rvP C (sS (some (lChain vc).members.nil) eMember ((lChain vc).members.D)) ?_
    refine rvP C (.pv (.lit (.int .i64 (((lChain vc).members.D).length : Int)))) ?_
    refine rvP C (.pv (.lit (.int .i64 0))) ?_
    refine rvc_nil ?_
    refine Awp.block ?_
    refine Awp.forR (σ := Ledger) (((lChain vc).members.D).length) (fun i1 v => [(0, sS (some first.nil) eMember first.D), (1, .pv (.lit (.int .u64 alive))), (6, .ptr 6 0), (7, .ptr 7 0), (9, .ptr 29 0), (35, .pv (.lit (.int .i64 (i : Int)))), (39, sS (some (lChain vc).members.nil) eMember ((lChain vc).members.D)), (40, .pv (.lit (.int .i64 (((lChain vc).members.D).length : Int)))), (41, .pv (.lit (.int .i64 (i1 : Int))))]) (fun i1 v => [(6, .cells [.pv (.lit (.int .i64 (h 0))), .pv (.lit (.int .i64 (h 1))), .pv (.lit (.int .i64 (h 2))), .pv (.lit (.int .i64 (h 3))), .pv (.lit (.int .i64 (h 4))), .pv (.lit (.int .i64 (h 5)))]), (7, .cells [.pv (.lit (.int .i64 (w 0))), .pv (.lit (.int .i64 (w 1))), .pv (.lit (.int .i64 (w 2)))]), (29, .cells [sS (some v.past.all.nil) eChain v.past.all.D, .pv (.lit (.int .i64 v.chain.epoch)), sS (some v.chain.members.nil) eMember v.chain.members.D, .pv (.lit (.int .i64 v.at_))])]) [6, 7, 29] (fun i1 v => (lawSafe_l1 alive (fun vc1 => (bif ((nextP (lChain vc1) alive h w).2.2 != 0) then (bif ((planCheck h w) == (nextP (lChain vc1) alive h w).2.2) then (awake ) else false) else (bif (!(nextP (lChain vc1) alive h w).2.1) then (bif (eqInts (allOf (nodes (allP (Chain.mk 1 (tMembers first)) alive h w).2.1)) (allOf (nodes (lChain vc1)))) then (awake ) else false) else (bif (((cmdPut (nextP (lChain vc1) alive h w).1).2) != 0) then false else (bif ((nextP (lChain vc1) alive h w).1.kind == 1) then (bif (mHas alive (nextP (lChain vc1) alive h w).1.node) then false else (bif ((lApply vc1 (IntKind.i64.wrap ((lAt vc1) + 1)) ((cmdPut (nextP (lChain vc1) alive h w).1).1)).2 != 0) then false else lawSafe_l0 first alive h w k (i + 1) (lApply vc1 (IntKind.i64.wrap ((lAt vc1) + 1)) ((cmdPut (nextP (lChain vc1) alive h w).1).1)).1)) else (bif ((lApply vc1 (IntKind.i64.wrap ((lAt vc1) + 1)) ((cmdPut (nextP (lChain vc1) alive h w).1).1)).2 != 0) then false else lawSafe_l0 first alive h w k (i + 1) (lApply vc1 (IntKind.i64.wrap ((lAt vc1) + 1)) ((cmdPut (nextP (lChain vc1) alive h w).1).1)).1)))))) (((lChain vc).members.D).drop i1) i1 v = R) ∧ (SafeI v (62 * i + i1))) vc ?_ ?_ (fun i1 vc1 h7 hR => ?_)
    · exact ⟨hR, hV⟩
    · exact ⟨fun b => b, WeakerR.ofL (Ks := [6, 7, 29]) hI ⟨⟨rfl, rfl⟩, ⟨rfl, rfl⟩, ⟨rfl, rfl⟩, ⟨rfl, rfl⟩, ⟨rfl, rfl⟩, ⟨rfl, rfl⟩, ⟨rfl, rfl⟩, ⟨rfl, rfl⟩, ⟨rfl, rfl⟩, trivial⟩ (okH_cons rfl rfl rfl rfl (okH_cons rfl rfl rfl rfl (okH_cons rfl rfl rfl rfl (okH_nil)))) rfl⟩
    obtain ⟨hR, hW⟩ := hR
    have hl_ := safe_len hV
    refine Awp.consP C ?_
    refine rvP C (.pv (.lit (.bool (decide ((i1 : Int) < (((lChain vc).members.D).length : Int)))))) ?_
    refine rvc_nil ?_
    refine Awp.seq ?_
    refine Awp.cond (b := (decide ((i1 : Int) < (((lChain vc).members.D).length : Int)))) rfl (fun h8 => ?_) (fun h8 => ?_)
    ·
     have h9 : i1 < ((lChain vc).members.D).length := by have := of_decide_eq_true h8; omega
     obtain ⟨x, h10⟩ := getX h9
     rw [drop_at h10] at hR
     refine Awp.skip ?_
     refine Awp.seq ?_
     refine Awp.block ?_
     refine Awp.consP C ?_
     refine rvc_un (rexec_idxS C rfl rfl rfl rfl rfl rfl x (Int.natCast_nonneg _) h10 ?_)
     refine rvP C (.agg [.pv (.lit (.int .i64 x.node)), .pv (.lit (.int .i64 x.site)), .pv (.lit (.bool x.fresh))]) ?_
     refine rvc_un (rexec_prim C (δ := { v := .ptr 12 0, new := [(12, .cells [.pv (.lit (.int .i64 0)), .pv (.lit (.int .i64 0)), .pv (.lit (.bool false))])] }) rfl rfl rfl rfl trivial rfl ?_)
     refine rvc_un (rexec_prim C (δ := { v := .undef, wr := [(12, some (.cells [.pv (.lit (.int .i64 x.node)), .pv (.lit (.int .i64 x.site)), .pv (.lit (.bool x.fresh))]))] }) rfl rfl rfl rfl trivial rfl ?_)
     refine rvc_nil ?_
     refine Awp.consP C ?_
     refine rvP C (.ptr 12 2) ?_
     refine rvP C (.pv (.lit (.bool x.fresh))) ?_
     refine rvP C (.pv (.lit (.bool x.fresh))) ?_
     refine rvc_case 47 x.fresh rfl (fun h11 => ?_) (fun h11 => ?_)
     ·
      replace hR := of_true h11 hR
      refine rvO C (.pv (.lit (.int .u64 alive))) ?_
      refine rvO C (.ptr 12 0) ?_
      refine rvO C (.pv (.lit (.int .i64 x.node))) ?_
      refine rvc_open rfl rfl rfl (rexec_call hP C rfl rfl rfl (mHas_calls alive x.node) ?_)
      refine rvP C (.pv (.lit (.bool (mHas alive x.node)))) ?_
      refine rvc_nil ?_
      refine Awp.cond (b := (mHas alive x.node)) rfl (fun h12 => ?_) (fun h12 => ?_)
      ·
       replace hR := of_true h12 hR
       refine Awp.cons C (fun o => match o.dst with | some 55 => .reads [12] | some 57 => .writes [29] | _ => .pure) (by kernel_rfl) ?_
       refine rvP C (.ptr 12 0) ?_
       refine rvP C (.pv (.lit (.int .i64 x.node))) ?_
       refine rvP C (.ptr 29 0) ?_
       refine rvc_un (rexec_callM hP C (b := 29) rfl rfl rfl (lChain_calls vc1 (by first | exact hW.ok.2.1 | exact hV.ok.2.1)) rfl rfl ?_)
       refine rvP C (.pv (.lit (.int .i64 ((lChain vc1).epoch)))) ?_
       refine rvP C (.agg [.pv (.lit (.int .i64 4)), .pv (.lit (.int .i64 x.node)), .pv (.lit (.int .i64 0)), .pv (.lit (.int .i64 ((lChain vc1).epoch)))]) ?_
       refine rvc_un (rexec_call hP C rfl rfl rfl (cmdPut_calls (Command.mk 4 x.node 0 ((lChain vc1).epoch))) ?_)
       refine rvP C (.tup [sS (some (cmdPut (Command.mk 4 x.node 0 ((lChain vc1).epoch))).1.nil) (eI .u8) ((cmdPut (Command.mk 4 x.node 0 ((lChain vc1).epoch))).1.D), .pv (.lit (.int .i64 ((cmdPut (Command.mk 4 x.node 0 ((lChain vc1).epoch))).2)))]) ?_
       refine rvP C (sS (some (cmdPut (Command.mk 4 x.node 0 ((lChain vc1).epoch))).1.nil) (eI .u8) ((cmdPut (Command.mk 4 x.node 0 ((lChain vc1).epoch))).1.D)) ?_
       refine rvP C (.pv (.lit (.int .i64 ((cmdPut (Command.mk 4 x.node 0 ((lChain vc1).epoch))).2)))) ?_
       refine rvP C (sS (some (cmdPut (Command.mk 4 x.node 0 ((lChain vc1).epoch))).1.nil) (eI .u8) ((cmdPut (Command.mk 4 x.node 0 ((lChain vc1).epoch))).1.D)) ?_
       refine rvP C (.pv (.lit (.int .i64 ((cmdPut (Command.mk 4 x.node 0 ((lChain vc1).epoch))).2)))) ?_
       refine rvc_nil ?_
       refine Awp.cons C (fun _ => .writer) (by kernel_rfl) ?_
       refine rvP C (.ptr 29 0) ?_
       refine rvP C (.ptr 29 0) ?_
       refine rvc_un (rexec_callM hP C (b := 29) rfl rfl rfl (lAt_calls vc1) rfl rfl ?_)
       refine rvP C (.pv (.lit (.int .i64 (IntKind.i64.wrap ((lAt vc1) + 1))))) ?_
       refine rvP C (sS (some (cmdPut (Command.mk 4 x.node 0 ((lChain vc1).epoch))).1.nil) (eI .u8) ((cmdPut (Command.mk 4 x.node 0 ((lChain vc1).epoch))).1.D)) ?_
       obtain ⟨ga, hq_ga⟩ : ∃ q_, q_ = (lApply vc1 (IntKind.i64.wrap ((lAt vc1) + 1)) ((cmdPut (Command.mk 4 x.node 0 ((lChain vc1).epoch))).1)) := ⟨_, rfl⟩
       have hc_ga := (lApply_calls vc1 (IntKind.i64.wrap ((lAt vc1) + 1)) ((cmdPut (Command.mk 4 x.node 0 ((lChain vc1).epoch))).1) hW.ok.1 (by show ((cmdPut (Command.mk 4 x.node 0 ((lChain vc1).epoch))).1.D).length ≤ 1000000; have := cmdPut_len (Command.mk 4 x.node 0 ((lChain vc1).epoch)); have := of_decide_eq_false h1; have := eq_of_bne_false h2; have := eq_of_bne_false (newL_e first); have := of_decide_eq_true h4; have := of_decide_eq_true h8; omega) hW.ok.2.1 (by have h_ := hW.all; have h2_ := safe_len hV; omega))
       first | rw [← hq_ga] at hR hc_ga | (unfold lawSafe at hR; rw [← hq_ga] at hR hc_ga) | (unfold lawSafe_l0 at hR; rw [← hq_ga] at hR hc_ga) | (unfold lawSafe_l1 at hR; rw [← hq_ga] at hR hc_ga)
       have hf0_ga := SafeI.apply (g := vc1) hW (IntKind.i64.wrap ((lAt vc1) + 1)) ((cmdPut (Command.mk 4 x.node 0 ((lChain vc1).epoch))).1)
       rw [← hq_ga] at hf0_ga
       refine rvc_un (rexec_callM hP C (b := 29) rfl rfl rfl hc_ga rfl rfl ?_)
       refine rvP C (.pv (.lit (.bool (ga.2 != 0)))) ?_
       refine rvc_nil ?_
       refine Awp.cond (b := (ga.2 != 0)) rfl (fun h13 => ?_) (fun h13 => ?_)
       ·
        replace hR := of_true h13 hR
        refine Awp.consP C ?_
        refine rvP C (.pv (.lit (.bool false))) ?_
        refine rvc_nil ?_
        refine Awp.ret ?_
        subst hR
        exact ⟨.inl rfl, rfl⟩
       ·
        replace hR := of_false h13 hR
        refine Awp.skip ?_
        refine Awp.regionP C ?_
        refine rvP C (.pv (.lit (.int .i64 (IntKind.i64.wrap ((i1 : Int) + 1))))) ?_
        refine rvP C (.pv (.lit (.int .i64 (IntKind.i64.wrap ((i1 : Int) + 1))))) ?_
        refine rvc_nil ?_
        refine ⟨h9, ga.1, ?_, ?_⟩
        · exact ⟨hR, (by first | exact hf0_ga | exact SafeI.mono hW (by omega))⟩
        · exact ⟨fun b => b, WeakerR.ofL (Ks := [6, 7, 29]) hI ⟨⟨rfl, rfl⟩, ⟨rfl, rfl⟩, ⟨rfl, rfl⟩, ⟨rfl, rfl⟩, ⟨rfl, rfl⟩, ⟨rfl, rfl⟩, ⟨rfl, rfl⟩, ⟨rfl, rfl⟩, ⟨lit_cast (wrap_i64 (by omega) (by omega)), rfl⟩, trivial⟩ (okH_cons rfl rfl rfl rfl (okH_cons rfl rfl rfl rfl (okH_cons rfl rfl rfl rfl (okH_nil)))) rfl⟩
      ·
       replace hR := of_false h12 hR
       refine Awp.skip ?_
       refine Awp.regionP C ?_
       refine rvP C (.pv (.lit (.int .i64 (IntKind.i64.wrap ((i1 : Int) + 1))))) ?_
       refine rvP C (.pv (.lit (.int .i64 (IntKind.i64.wrap ((i1 : Int) + 1))))) ?_
       refine rvc_nil ?_
       refine ⟨h9, vc1, ?_, ?_⟩
       · exact ⟨hR, (by first | exact hf0_ga | exact SafeI.mono hW (by omega))⟩
       · exact ⟨fun b => b, WeakerR.ofL (Ks := [6, 7, 29]) hI ⟨⟨rfl, rfl⟩, ⟨rfl, rfl⟩, ⟨rfl, rfl⟩, ⟨rfl, rfl⟩, ⟨rfl, rfl⟩, ⟨rfl, rfl⟩, ⟨rfl, rfl⟩, ⟨rfl, rfl⟩, ⟨lit_cast (wrap_i64 (by omega) (by omega)), rfl⟩, trivial⟩ (okH_cons rfl rfl rfl rfl (okH_cons rfl rfl rfl rfl (okH_cons rfl rfl rfl rfl (okH_nil)))) rfl⟩
     ·
      replace hR := of_false h11 hR
      refine rvS ?_
      refine rvS ?_
      refine rvS ?_
      refine rvS ?_
      refine rvP C (.pv (.lit (.bool false))) ?_
      refine rvc_nil ?_
      refine Awp.condF (b := false) rfl rfl ?_
      refine Awp.skip ?_
      refine Awp.regionP C ?_
      refine rvP C (.pv (.lit (.int .i64 (IntKind.i64.wrap ((i1 : Int) + 1))))) ?_
      refine rvP C (.pv (.lit (.int .i64 (IntKind.i64.wrap ((i1 : Int) + 1))))) ?_
      refine rvc_nil ?_
      refine ⟨h9, vc1, ?_, ?_⟩
      · exact ⟨hR, (by first | exact hf0_ga | exact SafeI.mono hW (by omega))⟩
      · exact ⟨fun b => b, WeakerR.ofL (Ks := [6, 7, 29]) hI ⟨⟨rfl, rfl⟩, ⟨rfl, rfl⟩, ⟨rfl, rfl⟩, ⟨rfl, rfl⟩, ⟨rfl, rfl⟩, ⟨rfl, rfl⟩, ⟨rfl, rfl⟩, ⟨rfl, rfl⟩, ⟨lit_cast (wrap_i64 (by omega) (by omega)), rfl⟩, trivial⟩ (okH_cons rfl rfl rfl rfl (okH_cons rfl rfl rfl rfl (okH_cons rfl rfl rfl rfl (okH_nil)))) rfl⟩
    ·
     have h9 : ¬ i1 < ((lChain vc).members.D).length := by have := of_decide_eq_false h8; omega
     rw [drop_end h9] at hR
     refine Awp.exit ?_
     refine Awp.cons C (fun o => match o.dst with | some 73 => .writes [29] | some 75 => .reads [6] | some 76 => .reads [7] | some 15 => .writes [15] | _ => .pure) (by kernel_rfl) ?_
     refine rvP C (.ptr 29 0) ?_
     refine rvc_un (rexec_callM hP C (b := 29) rfl rfl rfl (lChain_calls vc1 (by first | exact hW.ok.2.1 | exact hV.ok.2.1)) rfl rfl ?_)
     refine rvP C (.pv (.lit (.int .u64 alive))) ?_
     refine rvP C (.agg [.pv (.lit (.int .i64 (h 0))), .pv (.lit (.int .i64 (h 1))), .pv (.lit (.int .i64 (h 2))), .pv (.lit (.int .i64 (h 3))), .pv (.lit (.int .i64 (h 4))), .pv (.lit (.int .i64 (h 5)))]) ?_
     refine rvP C (.agg [.pv (.lit (.int .i64 (w 0))), .pv (.lit (.int .i64 (w 1))), .pv (.lit (.int .i64 (w 2)))]) ?_
     obtain ⟨nx, hq_nx⟩ : ∃ q_, q_ = (nextP (lChain vc1) alive h w) := ⟨_, rfl⟩
     have hc_nx := (nextP_calls (lChain vc1) alive h w safe_hn (Nat.le_trans (by first | exact safe_len hW | exact safe_len hV) (by decide)))
     first | rw [← hq_nx] at hR hc_nx | (unfold lawSafe at hR; rw [← hq_nx] at hR hc_nx) | (unfold lawSafe_l0 at hR; rw [← hq_nx] at hR hc_nx) | (unfold lawSafe_l1 at hR; rw [← hq_nx] at hR hc_nx)
     refine rvc_un (rexec_call hP C rfl rfl rfl hc_nx ?_)
     refine rvP C (.tup [.agg [.pv (.lit (.int .i64 nx.1.kind)), .pv (.lit (.int .i64 nx.1.node)), .pv (.lit (.int .i64 nx.1.site)), .pv (.lit (.int .i64 nx.1.epoch))], .pv (.lit (.bool nx.2.1)), .pv (.lit (.int .i64 nx.2.2))]) ?_
     refine rvP C (.agg [.pv (.lit (.int .i64 nx.1.kind)), .pv (.lit (.int .i64 nx.1.node)), .pv (.lit (.int .i64 nx.1.site)), .pv (.lit (.int .i64 nx.1.epoch))]) ?_
     refine rvP C (.pv (.lit (.bool nx.2.1))) ?_
     refine rvP C (.pv (.lit (.int .i64 nx.2.2))) ?_
     refine rvc_un (rexec_prim C (δ := { v := .ptr 15 0, new := [(15, .cells [.pv (.lit (.int .i64 0)), .pv (.lit (.int .i64 0)), .pv (.lit (.int .i64 0)), .pv (.lit (.int .i64 0))])] }) rfl rfl rfl rfl trivial rfl ?_)
     refine rvc_un (rexec_prim C (δ := { v := .undef, wr := [(15, some (.cells [.pv (.lit (.int .i64 nx.1.kind)), .pv (.lit (.int .i64 nx.1.node)), .pv (.lit (.int .i64 nx.1.site)), .pv (.lit (.int .i64 nx.1.epoch))]))] }) rfl rfl rfl rfl trivial rfl ?_)
     refine rvP C (.pv (.lit (.bool nx.2.1))) ?_
     refine rvP C (.pv (.lit (.int .i64 nx.2.2))) ?_
     refine rvc_nil ?_
     refine Awp.seq ?_
     refine Awp.consP C ?_
     refine rvP C (.pv (.lit (.int .i64 nx.2.2))) ?_
     refine rvP C (.pv (.lit (.bool (nx.2.2 != 0)))) ?_
     refine rvc_nil ?_
     refine Awp.cond (b := (nx.2.2 != 0)) rfl (fun h14 => ?_) (fun h14 => ?_)
     ·
      replace hR := of_true h14 hR
      refine Awp.consP C ?_
      refine rvP C (.agg [.pv (.lit (.int .i64 (h 0))), .pv (.lit (.int .i64 (h 1))), .pv (.lit (.int .i64 (h 2))), .pv (.lit (.int .i64 (h 3))), .pv (.lit (.int .i64 (h 4))), .pv (.lit (.int .i64 (h 5)))]) ?_
      refine rvP C (.agg [.pv (.lit (.int .i64 (w 0))), .pv (.lit (.int .i64 (w 1))), .pv (.lit (.int .i64 (w 2)))]) ?_
      refine rvc_un (rexec_call hP C rfl rfl rfl (planCheck_calls h w) ?_)
      refine rvP C (.pv (.lit (.int .i64 nx.2.2))) ?_
      refine rvP C (.pv (.lit (.bool ((planCheck h w) == nx.2.2)))) ?_
      refine rvP C (.pv (.lit (.bool ((planCheck h w) == nx.2.2)))) ?_
      refine rvc_case 88 ((planCheck h w) == nx.2.2) rfl (fun h15 => ?_) (fun h15 => ?_)
      ·
       replace hR := of_true h15 hR
       obtain ⟨aw2, hq_aw2⟩ : ∃ q_, q_ = (awake ) := ⟨_, rfl⟩
       have hc_aw2 := (awake_calls )
       first | rw [← hq_aw2] at hR hc_aw2 | (unfold lawSafe at hR; rw [← hq_aw2] at hR hc_aw2) | (unfold lawSafe_l0 at hR; rw [← hq_aw2] at hR hc_aw2) | (unfold lawSafe_l1 at hR; rw [← hq_aw2] at hR hc_aw2)
       refine rvc_open rfl rfl rfl (rexec_call hP C rfl rfl rfl hc_aw2 ?_)
       refine rvP C (.pv (.lit (.bool aw2))) ?_
       refine rvP C (.pv (.lit (.bool aw2))) ?_
       refine rvc_nil ?_
       refine Awp.ret ?_
       subst hR
       exact ⟨.inl rfl, rfl⟩
      ·
       replace hR := of_false h15 hR
       refine rvS ?_
       refine rvP C (.pv (.lit (.bool false))) ?_
       refine rvP C (.pv (.lit (.bool false))) ?_
       refine rvc_nil ?_
       refine Awp.ret ?_
       subst hR
       exact ⟨.inl rfl, rfl⟩
     ·
      replace hR := of_false h14 hR
      refine Awp.skip ?_
      refine Awp.seq ?_
      refine Awp.consP C ?_
      refine rvP C (.pv (.lit (.bool nx.2.1))) ?_
      refine rvP C (.pv (.lit (.bool (!nx.2.1)))) ?_
      refine rvc_nil ?_
      refine Awp.cond (b := (!nx.2.1)) rfl (fun h16 => ?_) (fun h16 => ?_)
      ·
       replace hR := of_true h16 hR
       refine Awp.exit ?_
       refine Awp.consP C ?_
       refine rvP C (sS (some first.nil) eMember first.D) ?_
       refine rvc_un (rexec_call hP C rfl rfl rfl (tMembers_calls first hl1) ?_)
       refine rvP C (.agg [.pv (.lit (.int .i64 1)), sS (some (tMembers first).nil) eMember ((tMembers first).D)]) ?_
       refine rvP C (.pv (.lit (.int .u64 alive))) ?_
       refine rvP C (.agg [.pv (.lit (.int .i64 (h 0))), .pv (.lit (.int .i64 (h 1))), .pv (.lit (.int .i64 (h 2))), .pv (.lit (.int .i64 (h 3))), .pv (.lit (.int .i64 (h 4))), .pv (.lit (.int .i64 (h 5)))]) ?_
       refine rvP C (.agg [.pv (.lit (.int .i64 (w 0))), .pv (.lit (.int .i64 (w 1))), .pv (.lit (.int .i64 (w 2)))]) ?_
       obtain ⟨ap, hq_ap⟩ : ∃ q_, q_ = (allP (Chain.mk 1 (tMembers first)) alive h w) := ⟨_, rfl⟩
       have hc_ap := (allP_calls (Chain.mk 1 (tMembers first)) alive h w (firstC_hn first) ha (Nat.le_trans (firstC_len first) hl1))
       first | rw [← hq_ap] at hR hc_ap | (unfold lawSafe at hR; rw [← hq_ap] at hR hc_ap) | (unfold lawSafe_l0 at hR; rw [← hq_ap] at hR hc_ap) | (unfold lawSafe_l1 at hR; rw [← hq_ap] at hR hc_ap)
       have hf0_ap := (allP_le (Chain.mk 1 (tMembers first)) alive h w ha).1
       rw [← hq_ap] at hf0_ap
       have hf1_ap := (allP_le (Chain.mk 1 (tMembers first)) alive h w ha).2
       rw [← hq_ap] at hf1_ap
       refine rvc_un (rexec_call hP C rfl rfl rfl hc_ap ?_)
       refine rvP C (.tup [sS (some ap.1.nil) eCommand ap.1.D, .agg [.pv (.lit (.int .i64 ap.2.1.epoch)), sS (some ap.2.1.members.nil) eMember ap.2.1.members.D], .pv (.lit (.int .i64 ap.2.2))]) ?_
       refine rvP C (sS (some ap.1.nil) eCommand ap.1.D) ?_
       refine rvP C (.agg [.pv (.lit (.int .i64 ap.2.1.epoch)), sS (some ap.2.1.members.nil) eMember ap.2.1.members.D]) ?_
       refine rvP C (.pv (.lit (.int .i64 ap.2.2))) ?_
       refine rvc_un (rexec_prim C (δ := { v := .ptr 21 0, new := [(21, .cells [.pv (.lit (.int .i64 0)), sS (some true) eMember []])] }) rfl rfl rfl rfl trivial rfl ?_)
       refine rvP C (sS (some ap.1.nil) eCommand ap.1.D) ?_
       refine rvc_un (rexec_prim C (δ := { v := .undef, wr := [(21, some (.cells [.pv (.lit (.int .i64 ap.2.1.epoch)), sS (some ap.2.1.members.nil) eMember ap.2.1.members.D]))] }) rfl rfl rfl rfl trivial rfl ?_)
       refine rvP C (.pv (.lit (.int .i64 ap.2.2))) ?_
       refine rvc_nil ?_
       refine Awp.cons C (fun _ => .writer) (by kernel_rfl) ?_
       refine rvP C (.agg [.pv (.lit (.int .i64 ap.2.1.epoch)), sS (some ap.2.1.members.nil) eMember ap.2.1.members.D]) ?_
       refine rvc_un (rexec_call hP C rfl rfl rfl (nodes_calls ap.2.1 (Nat.le_trans (by first | exact hf1_ap | exact hf1_ap1 | exact hf1_ap2) (by decide))) ?_)
       refine rvc_un (rexec_call hP C rfl rfl rfl (allOf_calls (nodes ap.2.1)) ?_)
       refine rvP C (.ptr 29 0) ?_
       refine rvc_un (rexec_callM hP C (b := 29) rfl rfl rfl (lChain_calls vc1 (by first | exact hW.ok.2.1 | exact hV.ok.2.1)) rfl rfl ?_)
       refine rvc_un (rexec_call hP C rfl rfl rfl (nodes_calls (lChain vc1) (Nat.le_trans (by first | exact safe_len hW | exact safe_len hV) (by decide))) ?_)
       refine rvc_un (rexec_call hP C rfl rfl rfl (allOf_calls (nodes (lChain vc1))) ?_)
       refine rvc_un (rexec_call hP C rfl rfl rfl (eqInts_calls (allOf (nodes ap.2.1)) (allOf (nodes (lChain vc1))) (by show ((allOf (nodes ap.2.1)).D).length ≤ 1000000; have := allOf_len (nodes ap.2.1); have := allOf_len (nodes (lChain vc1)); have := of_decide_eq_false h1; have := eq_of_bne_false h2; have := eq_of_bne_false (newL_e first); have := of_decide_eq_true h4; have := of_decide_eq_false h8; have := eq_of_bne_false h14; omega)) ?_)
       refine rvP C (.pv (.lit (.bool (eqInts (allOf (nodes ap.2.1)) (allOf (nodes (lChain vc1))))))) ?_
       refine rvc_case 140 (eqInts (allOf (nodes ap.2.1)) (allOf (nodes (lChain vc1)))) rfl (fun h17 => ?_) (fun h17 => ?_)
       ·
        replace hR := of_true h17 hR
        obtain ⟨aw3, hq_aw3⟩ : ∃ q_, q_ = (awake ) := ⟨_, rfl⟩
        have hc_aw3 := (awake_calls )
        first | rw [← hq_aw3] at hR hc_aw3 | (unfold lawSafe at hR; rw [← hq_aw3] at hR hc_aw3) | (unfold lawSafe_l0 at hR; rw [← hq_aw3] at hR hc_aw3) | (unfold lawSafe_l1 at hR; rw [← hq_aw3] at hR hc_aw3)
        refine rvc_open rfl rfl rfl (rexec_call hP C rfl rfl rfl hc_aw3 ?_)
        refine rvP C (.pv (.lit (.bool aw3))) ?_
        refine rvP C (.pv (.lit (.bool aw3))) ?_
        refine rvc_nil ?_
        refine Awp.ret ?_
        subst hR
        exact ⟨.inl rfl, rfl⟩
       ·
        replace hR := of_false h17 hR
        refine rvS ?_
        refine rvP C (.pv (.lit (.bool false))) ?_
        refine rvP C (.pv (.lit (.bool false))) ?_
        refine rvc_nil ?_
        refine Awp.ret ?_
        subst hR
        exact ⟨.inl rfl, rfl⟩
      ·
       replace hR := of_false h16 hR
       refine Awp.skip ?_
       refine Awp.consP C ?_
       refine rvP C (.agg [.pv (.lit (.int .i64 nx.1.kind)), .pv (.lit (.int .i64 nx.1.node)), .pv (.lit (.int .i64 nx.1.site)), .pv (.lit (.int .i64 nx.1.epoch))]) ?_
       refine rvc_un (rexec_call hP C rfl rfl rfl (cmdPut_calls nx.1) ?_)
       refine rvP C (.tup [sS (some (cmdPut nx.1).1.nil) (eI .u8) ((cmdPut nx.1).1.D), .pv (.lit (.int .i64 ((cmdPut nx.1).2)))]) ?_
       refine rvP C (sS (some (cmdPut nx.1).1.nil) (eI .u8) ((cmdPut nx.1).1.D)) ?_
       refine rvP C (.pv (.lit (.int .i64 ((cmdPut nx.1).2)))) ?_
       refine rvP C (sS (some (cmdPut nx.1).1.nil) (eI .u8) ((cmdPut nx.1).1.D)) ?_
       refine rvP C (.pv (.lit (.int .i64 ((cmdPut nx.1).2)))) ?_
       refine rvc_nil ?_
       refine Awp.cons C (fun _ => .writer) (by kernel_rfl) ?_
       refine rvP C (.pv (.lit (.int .i64 ((cmdPut nx.1).2)))) ?_
       refine rvP C (.pv (.lit (.bool (((cmdPut nx.1).2) != 0)))) ?_
       refine rvP C (.pv (.lit (.bool (((cmdPut nx.1).2) != 0)))) ?_
       refine rvc_case 100 (((cmdPut nx.1).2) != 0) rfl (fun h18 => ?_) (fun h18 => ?_)
       ·
        replace hR := of_true h18 hR
        refine rvS ?_
        refine rvS ?_
        refine rvS ?_
        refine rvS ?_
        refine rvc_shutU rfl rfl rfl ?_
        refine rvc_shutU rfl rfl rfl ?_
        refine rvc_shutU rfl rfl rfl ?_
        refine rvc_shutU rfl rfl rfl ?_
        refine rvS ?_
        refine rvP C (.pv (.lit (.bool true))) ?_
        refine rvP C (.pv (.lit (.bool true))) ?_
        refine rvS ?_
        refine rvS ?_
        refine rvS ?_
        refine rvS ?_
        refine rvS ?_
        refine rvS ?_
        refine rvS ?_
        refine rvP C (.pv (.lit (.bool true))) ?_
        refine rvc_nil ?_
        refine Awp.condT (b := true) rfl rfl ?_
        refine Awp.consP C ?_
        refine rvP C (.pv (.lit (.bool false))) ?_
        refine rvc_nil ?_
        refine Awp.ret ?_
        subst hR
        exact ⟨.inl rfl, rfl⟩
       ·
        replace hR := of_false h18 hR
        refine rvO C (.ptr 15 0) ?_
        refine rvO C (.pv (.lit (.int .i64 nx.1.kind))) ?_
        refine rvO C (.pv (.lit (.bool (nx.1.kind == 1)))) ?_
        refine rvO C (.pv (.lit (.bool (nx.1.kind == 1)))) ?_
        refine rvc_case 104 (nx.1.kind == 1) rfl (fun h19 => ?_) (fun h19 => ?_)
        ·
         replace hR := of_true h19 hR
         refine rvO C (.pv (.lit (.int .u64 alive))) ?_
         refine rvO C (.ptr 15 1) ?_
         refine rvO C (.pv (.lit (.int .i64 nx.1.node))) ?_
         refine rvc_open rfl rfl rfl (rexec_call hP C rfl rfl rfl (mHas_calls alive nx.1.node) ?_)
         refine rvO C (.pv (.lit (.bool (mHas alive nx.1.node)))) ?_
         refine rvP C (.pv (.lit (.bool (mHas alive nx.1.node)))) ?_
         refine rvP C (.pv (.lit (.bool (mHas alive nx.1.node)))) ?_
         refine rvc_case 111 (mHas alive nx.1.node) rfl (fun h20 => ?_) (fun h20 => ?_)
         ·
          replace hR := of_true h20 hR
          refine rvS ?_
          refine rvS ?_
          refine rvS ?_
          refine rvS ?_
          refine rvS ?_
          refine rvS ?_
          refine rvS ?_
          refine rvP C (.pv (.lit (.bool true))) ?_
          refine rvc_nil ?_
          refine Awp.condT (b := true) rfl rfl ?_
          refine Awp.consP C ?_
          refine rvP C (.pv (.lit (.bool false))) ?_
          refine rvc_nil ?_
          refine Awp.ret ?_
          subst hR
          exact ⟨.inl rfl, rfl⟩
         ·
          replace hR := of_false h20 hR
          refine rvO C (.ptr 29 0) ?_
          refine rvO C (.ptr 29 0) ?_
          refine rvc_open rfl rfl rfl (rexec_callM hP C (b := 29) rfl rfl rfl (lAt_calls vc1) rfl rfl ?_)
          refine rvO C (.pv (.lit (.int .i64 (IntKind.i64.wrap ((lAt vc1) + 1))))) ?_
          refine rvO C (sS (some (cmdPut nx.1).1.nil) (eI .u8) ((cmdPut nx.1).1.D)) ?_
          obtain ⟨ga1, hq_ga1⟩ : ∃ q_, q_ = (lApply vc1 (IntKind.i64.wrap ((lAt vc1) + 1)) ((cmdPut nx.1).1)) := ⟨_, rfl⟩
          have hc_ga1 := (lApply_calls vc1 (IntKind.i64.wrap ((lAt vc1) + 1)) ((cmdPut nx.1).1) hW.ok.1 (by show ((cmdPut nx.1).1.D).length ≤ 1000000; have := cmdPut_len nx.1; have := of_decide_eq_false h1; have := eq_of_bne_false h2; have := eq_of_bne_false (newL_e first); have := of_decide_eq_true h4; have := of_decide_eq_false h8; have := eq_of_bne_false h14; have := eq_of_bne_false h18; have := beq_iff_eq.1 h19; omega) hW.ok.2.1 (by have h_ := hW.all; have h2_ := safe_len hV; omega))
          first | rw [← hq_ga1] at hR hc_ga1 | (unfold lawSafe at hR; rw [← hq_ga1] at hR hc_ga1) | (unfold lawSafe_l0 at hR; rw [← hq_ga1] at hR hc_ga1) | (unfold lawSafe_l1 at hR; rw [← hq_ga1] at hR hc_ga1)
          have hf0_ga1 := SafeI.apply (g := vc1) hW (IntKind.i64.wrap ((lAt vc1) + 1)) ((cmdPut nx.1).1)
          rw [← hq_ga1] at hf0_ga1
          refine rvc_open rfl rfl rfl (rexec_callM hP C (b := 29) rfl rfl rfl hc_ga1 rfl rfl ?_)
          refine rvO C (.pv (.lit (.bool (ga1.2 != 0)))) ?_
          refine rvP C (.pv (.lit (.bool (ga1.2 != 0)))) ?_
          refine rvc_nil ?_
          refine Awp.cond (b := (ga1.2 != 0)) rfl (fun h21 => ?_) (fun h21 => ?_)
          ·
           replace hR := of_true h21 hR
           refine Awp.consP C ?_
           refine rvP C (.pv (.lit (.bool false))) ?_
           refine rvc_nil ?_
           refine Awp.ret ?_
           subst hR
           exact ⟨.inl rfl, rfl⟩
          ·
           replace hR := of_false h21 hR
           refine Awp.skip ?_
           refine Awp.regionP C ?_
           refine rvP C (.pv (.lit (.int .i64 (IntKind.i64.wrap ((i : Int) + 1))))) ?_
           refine rvP C (.pv (.lit (.int .i64 (IntKind.i64.wrap ((i : Int) + 1))))) ?_
           refine rvc_nil ?_
           refine ⟨h5, ga1.1, ?_, ?_⟩
           · exact ⟨(by rw [show 14 - (i + 1) = k by omega]; exact hR), (by have h2_ := safe_len hV; first | exact SafeI.mono hf0_ga (by omega) | exact SafeI.mono hf0_ga1 (by omega) | exact SafeI.mono hf0_ga2 (by omega))⟩
           · exact ⟨fun b => b, WeakerR.ofL (Ks := [6, 7, 29]) hI ⟨⟨rfl, rfl⟩, ⟨rfl, rfl⟩, ⟨rfl, rfl⟩, ⟨rfl, rfl⟩, ⟨rfl, rfl⟩, ⟨lit_cast (wrap_i64 (by omega) (by omega)), rfl⟩, trivial⟩ (okH_cons rfl rfl rfl rfl (okH_cons rfl rfl rfl rfl (okH_cons rfl rfl rfl rfl (okH_nil)))) rfl⟩
        ·
         replace hR := of_false h19 hR
         refine rvS ?_
         refine rvS ?_
         refine rvS ?_
         refine rvS ?_
         refine rvO C (.pv (.lit (.bool false))) ?_
         refine rvP C (.pv (.lit (.bool false))) ?_
         refine rvP C (.pv (.lit (.bool false))) ?_
         refine rvO C (.ptr 29 0) ?_
         refine rvO C (.ptr 29 0) ?_
         refine rvc_open rfl rfl rfl (rexec_callM hP C (b := 29) rfl rfl rfl (lAt_calls vc1) rfl rfl ?_)
         refine rvO C (.pv (.lit (.int .i64 (IntKind.i64.wrap ((lAt vc1) + 1))))) ?_
         refine rvO C (sS (some (cmdPut nx.1).1.nil) (eI .u8) ((cmdPut nx.1).1.D)) ?_
         obtain ⟨ga2, hq_ga2⟩ : ∃ q_, q_ = (lApply vc1 (IntKind.i64.wrap ((lAt vc1) + 1)) ((cmdPut nx.1).1)) := ⟨_, rfl⟩
         have hc_ga2 := (lApply_calls vc1 (IntKind.i64.wrap ((lAt vc1) + 1)) ((cmdPut nx.1).1) hW.ok.1 (by show ((cmdPut nx.1).1.D).length ≤ 1000000; have := cmdPut_len nx.1; have := of_decide_eq_false h1; have := eq_of_bne_false h2; have := eq_of_bne_false (newL_e first); have := of_decide_eq_true h4; have := of_decide_eq_false h8; have := eq_of_bne_false h14; have := eq_of_bne_false h18; have := ne_of_beq_false h19; omega) hW.ok.2.1 (by have h_ := hW.all; have h2_ := safe_len hV; omega))
         first | rw [← hq_ga2] at hR hc_ga2 | (unfold lawSafe at hR; rw [← hq_ga2] at hR hc_ga2) | (unfold lawSafe_l0 at hR; rw [← hq_ga2] at hR hc_ga2) | (unfold lawSafe_l1 at hR; rw [← hq_ga2] at hR hc_ga2)
         have hf0_ga2 := SafeI.apply (g := vc1) hW (IntKind.i64.wrap ((lAt vc1) + 1)) ((cmdPut nx.1).1)
         rw [← hq_ga2] at hf0_ga2
         refine rvc_open rfl rfl rfl (rexec_callM hP C (b := 29) rfl rfl rfl hc_ga2 rfl rfl ?_)
         refine rvO C (.pv (.lit (.bool (ga2.2 != 0)))) ?_
         refine rvP C (.pv (.lit (.bool (ga2.2 != 0)))) ?_
         refine rvc_nil ?_
         refine Awp.cond (b := (ga2.2 != 0)) rfl (fun h22 => ?_) (fun h22 => ?_)
         ·
          replace hR := of_true h22 hR
          refine Awp.consP C ?_
          refine rvP C (.pv (.lit (.bool false))) ?_
          refine rvc_nil ?_
          refine Awp.ret ?_
          subst hR
          exact ⟨.inl rfl, rfl⟩
         ·
          replace hR := of_false h22 hR
          refine Awp.skip ?_
          refine Awp.regionP C ?_
          refine rvP C (.pv (.lit (.int .i64 (IntKind.i64.wrap ((i : Int) + 1))))) ?_
          refine rvP C (.pv (.lit (.int .i64 (IntKind.i64.wrap ((i : Int) + 1))))) ?_
          refine rvc_nil ?_
          refine ⟨h5, ga2.1, ?_, ?_⟩
          · exact ⟨(by rw [show 14 - (i + 1) = k by omega]; exact hR), (by have h2_ := safe_len hV; first | exact SafeI.mono hf0_ga (by omega) | exact SafeI.mono hf0_ga1 (by omega) | exact SafeI.mono hf0_ga2 (by omega))⟩
          · exact ⟨fun b => b, WeakerR.ofL (Ks := [6, 7, 29]) hI ⟨⟨rfl, rfl⟩, ⟨rfl, rfl⟩, ⟨rfl, rfl⟩, ⟨rfl, rfl⟩, ⟨rfl, rfl⟩, ⟨lit_cast (wrap_i64 (by omega) (by omega)), rfl⟩, trivial⟩ (okH_cons rfl rfl rfl rfl (okH_cons rfl rfl rfl rfl (okH_cons rfl rfl rfl rfl (okH_nil)))) rfl⟩
   ·
    rw [show 14 - i = 0 by have := of_decide_eq_false h4; omega] at hR
    refine Awp.exit ?_
    refine Awp.consP C ?_
    refine rvP C (sS (some first.nil) eMember first.D) ?_
    refine rvc_un (rexec_call hP C rfl rfl rfl (tMembers_calls first hl1) ?_)
    refine rvP C (.agg [.pv (.lit (.int .i64 1)), sS (some (tMembers first).nil) eMember ((tMembers first).D)]) ?_
    refine rvP C (.pv (.lit (.int .u64 alive))) ?_
    refine rvP C (.agg [.pv (.lit (.int .i64 (h 0))), .pv (.lit (.int .i64 (h 1))), .pv (.lit (.int .i64 (h 2))), .pv (.lit (.int .i64 (h 3))), .pv (.lit (.int .i64 (h 4))), .pv (.lit (.int .i64 (h 5)))]) ?_
    refine rvP C (.agg [.pv (.lit (.int .i64 (w 0))), .pv (.lit (.int .i64 (w 1))), .pv (.lit (.int .i64 (w 2)))]) ?_
    obtain ⟨ap1, hq_ap1⟩ : ∃ q_, q_ = (allP (Chain.mk 1 (tMembers first)) alive h w) := ⟨_, rfl⟩
    have hc_ap1 := (allP_calls (Chain.mk 1 (tMembers first)) alive h w (firstC_hn first) ha (Nat.le_trans (firstC_len first) hl1))
    first | rw [← hq_ap1] at hR hc_ap1 | (unfold lawSafe at hR; rw [← hq_ap1] at hR hc_ap1) | (unfold lawSafe_l0 at hR; rw [← hq_ap1] at hR hc_ap1) | (unfold lawSafe_l1 at hR; rw [← hq_ap1] at hR hc_ap1)
    have hf0_ap1 := (allP_le (Chain.mk 1 (tMembers first)) alive h w ha).1
    rw [← hq_ap1] at hf0_ap1
    have hf1_ap1 := (allP_le (Chain.mk 1 (tMembers first)) alive h w ha).2
    rw [← hq_ap1] at hf1_ap1
    refine rvc_un (rexec_call hP C rfl rfl rfl hc_ap1 ?_)
    refine rvP C (.tup [sS (some ap1.1.nil) eCommand ap1.1.D, .agg [.pv (.lit (.int .i64 ap1.2.1.epoch)), sS (some ap1.2.1.members.nil) eMember ap1.2.1.members.D], .pv (.lit (.int .i64 ap1.2.2))]) ?_
    refine rvP C (sS (some ap1.1.nil) eCommand ap1.1.D) ?_
    refine rvP C (.agg [.pv (.lit (.int .i64 ap1.2.1.epoch)), sS (some ap1.2.1.members.nil) eMember ap1.2.1.members.D]) ?_
    refine rvP C (.pv (.lit (.int .i64 ap1.2.2))) ?_
    refine rvc_un (rexec_prim C (δ := { v := .ptr 21 0, new := [(21, .cells [.pv (.lit (.int .i64 0)), sS (some true) eMember []])] }) rfl rfl rfl rfl trivial rfl ?_)
    refine rvP C (sS (some ap1.1.nil) eCommand ap1.1.D) ?_
    refine rvc_un (rexec_prim C (δ := { v := .undef, wr := [(21, some (.cells [.pv (.lit (.int .i64 ap1.2.1.epoch)), sS (some ap1.2.1.members.nil) eMember ap1.2.1.members.D]))] }) rfl rfl rfl rfl trivial rfl ?_)
    refine rvP C (.pv (.lit (.int .i64 ap1.2.2))) ?_
    refine rvc_nil ?_
    refine Awp.cons C (fun _ => .writer) (by kernel_rfl) ?_
    refine rvP C (.agg [.pv (.lit (.int .i64 ap1.2.1.epoch)), sS (some ap1.2.1.members.nil) eMember ap1.2.1.members.D]) ?_
    refine rvc_un (rexec_call hP C rfl rfl rfl (nodes_calls ap1.2.1 (Nat.le_trans (by first | exact hf1_ap | exact hf1_ap1 | exact hf1_ap2) (by decide))) ?_)
    refine rvc_un (rexec_call hP C rfl rfl rfl (allOf_calls (nodes ap1.2.1)) ?_)
    refine rvP C (.ptr 29 0) ?_
    refine rvc_un (rexec_callM hP C (b := 29) rfl rfl rfl (lChain_calls vc (by first | exact hW.ok.2.1 | exact hV.ok.2.1)) rfl rfl ?_)
    refine rvc_un (rexec_call hP C rfl rfl rfl (nodes_calls (lChain vc) (Nat.le_trans (by first | exact safe_len hW | exact safe_len hV) (by decide))) ?_)
    refine rvc_un (rexec_call hP C rfl rfl rfl (allOf_calls (nodes (lChain vc))) ?_)
    refine rvc_un (rexec_call hP C rfl rfl rfl (eqInts_calls (allOf (nodes ap1.2.1)) (allOf (nodes (lChain vc))) (by show ((allOf (nodes ap1.2.1)).D).length ≤ 1000000; have := allOf_len (nodes ap1.2.1); have := allOf_len (nodes (lChain vc)); have := of_decide_eq_false h1; have := eq_of_bne_false h2; have := eq_of_bne_false (newL_e first); have := of_decide_eq_false h4; omega)) ?_)
    refine rvP C (.pv (.lit (.bool (eqInts (allOf (nodes ap1.2.1)) (allOf (nodes (lChain vc))))))) ?_
    refine rvc_case 140 (eqInts (allOf (nodes ap1.2.1)) (allOf (nodes (lChain vc)))) rfl (fun h23 => ?_) (fun h23 => ?_)
    ·
     replace hR := of_true h23 hR
     obtain ⟨aw4, hq_aw4⟩ : ∃ q_, q_ = (awake ) := ⟨_, rfl⟩
     have hc_aw4 := (awake_calls )
     first | rw [← hq_aw4] at hR hc_aw4 | (unfold lawSafe at hR; rw [← hq_aw4] at hR hc_aw4) | (unfold lawSafe_l0 at hR; rw [← hq_aw4] at hR hc_aw4) | (unfold lawSafe_l1 at hR; rw [← hq_aw4] at hR hc_aw4)
     refine rvc_open rfl rfl rfl (rexec_call hP C rfl rfl rfl hc_aw4 ?_)
     refine rvP C (.pv (.lit (.bool aw4))) ?_
     refine rvP C (.pv (.lit (.bool aw4))) ?_
     refine rvc_nil ?_
     refine Awp.ret ?_
     subst hR
     exact ⟨.inl rfl, rfl⟩
    ·
     replace hR := of_false h23 hR
     refine rvS ?_
     refine rvP C (.pv (.lit (.bool false))) ?_
     refine rvP C (.pv (.lit (.bool false))) ?_
     refine rvc_nil ?_
     refine Awp.ret ?_
     subst hR
     exact ⟨.inl rfl, rfl⟩
end Go.Proofs.Ytaffaalpgpepeaa
/- The law PlanChecks in plain Lean: its model answers true. No conditions. -/
namespace Go.Proofs.Ytaffaalpgpepeaa
open Go.Am
theorem awake_true : awake = true := by kernel_rfl
end Go.Proofs.Ytaffaalpgpepeaa
/- The reference: the next command; a law. No conditions. -/
namespace Go.Proofs.Ytaffaalpgpepeaa
open Go.Am
end Go.Proofs.Ytaffaalpgpepeaa
/- The law PlanNext in plain Lean: the code's next command is the document's. No conditions. -/
namespace Go.Proofs.Ytaffaalpgpepeaa
open Go.Am
end Go.Proofs.Ytaffaalpgpepeaa
/- The law PlanNext in plain Lean: its model answers true. No conditions. -/
namespace Go.Proofs.Ytaffaalpgpepeaa
open Go.Am
end Go.Proofs.Ytaffaalpgpepeaa
/- Changes of the reference's chains: no longer than that. No conditions. -/
namespace Go.Proofs.Ytaffaalpgpepeaa
open Go.Am
end Go.Proofs.Ytaffaalpgpepeaa
/- The reference: all commands. No conditions. -/
namespace Go.Proofs.Ytaffaalpgpepeaa
open Go.Am
end Go.Proofs.Ytaffaalpgpepeaa
/- All commands: the code's are the document's. No conditions. -/
namespace Go.Proofs.Ytaffaalpgpepeaa
open Go.Am
theorem stepOf_hn (r : Chain) (k : Command) : (stepOf r k).members.nil = true → (stepOf r k).members.D = [] := by
  unfold stepOf
  cases k.kind == 1
  · exact join_hn _ _
  · exact drop_hn _ _
end Go.Proofs.Ytaffaalpgpepeaa
/- Laws. No conditions. -/
namespace Go.Proofs.Ytaffaalpgpepeaa
open Go.Am
end Go.Proofs.Ytaffaalpgpepeaa
/- The laws PlanAll, PlanEnds and PlanWished in plain Lean: their models answer true. No conditions. -/
namespace Go.Proofs.Ytaffaalpgpepeaa
open Go.Am
end Go.Proofs.Ytaffaalpgpepeaa
/- The law PlanSafe in plain Lean: its model answers true. No conditions. -/
namespace Go.Proofs.Ytaffaalpgpepeaa
open Go.Am
theorem copied_eq {c : Chain} (h : c.members.nil = true → c.members.D = []) : copied c = c := by
  unfold copied
  rw [clone_eq h]
theorem put_ok {k : Command} (h : okC k) : cmdPut k = (Sl.mk false (cb k), 0) := by
  rw [cmdPut_eq, check_of_okC h]; rfl
theorem get_ok {k : Command} (h : okC k) : cmdGet (Sl.mk false (cb k)) = (k, 0) := by
  have hl := cmdPut_len k
  rw [put_ok h] at hl
  rw [cmdGet_eq _ (cb_bytes k) (Nat.le_trans hl (by decide))]
  show asked (get4 99 6 3 1099511627776 (cb k)) = _
  rw [get_put h]
  unfold asked
  dsimp only
  rw [check_of_okC h]; rfl
theorem vb_ne (n : Nat) : 0 < (vb n).length := by
  rcases Nat.lt_or_ge n 128 with h | h
  · rw [vb_lt h]; exact Nat.zero_lt_one
  · rw [vb_ge h]; exact Nat.succ_pos _
theorem cb_ne (k : Command) : ((cb k).length : Int) ≠ 0 := by
  have := vb_ne k.kind.toNat
  unfold cb
  rw [List.length_append]
  omega
/-- A command that may be, and can be done, is done. -/
theorem do_step {g : Ledger} {n : Nat} (hg : Lived g n) (hn : n ≤ 1000) {k : Command} (hk : okC k) (hx : (nextL g.chain k).2 = 0) : ∃ g', lApply g (IntKind.i64.wrap (lAt g + 1)) (cmdPut k).1 = (g', 0) ∧ g'.chain = (nextL g.chain k).1 ∧ Lived g' (n + 1) := by
  have a0 := hg.at0
  have a1 := hg.at1
  have hi : IntKind.i64.wrap (lAt g + 1) = g.at_ + 1 := by
    rw [hg.at_]; exact wrapI _ (by omega)
  rw [hi, put_ok hk]
  have hL := hg.apply hn (g.at_ + 1) (Sl.mk false (cb k))
  have e : lApply g (g.at_ + 1) (Sl.mk false (cb k)) = (bif decide ((nextL g.chain k).1.epoch > g.chain.epoch) then ((Ledger.mk (Past.mk (Sl.mk false (g.past.all.D ++ [(copied (nextL g.chain k).1)]))) (nextL g.chain k).1 (g.at_ + 1)), 0) else ((Ledger.mk g.past (nextL g.chain k).1 (g.at_ + 1)), 0)) := by
    unfold lApply
    rw [hg.dead, cond_false, decide_eq_false (by omega), cond_false, decide_eq_false (by omega), cond_false]
    rw [show IntKind.i64.wrap (g.at_ + 1 - 1) = g.at_ by rw [show g.at_ + 1 - 1 = g.at_ by omega]; exact wrapI _ (by omega), bne_self_eq_false, cond_false]
    rw [show (((Sl.mk false (cb k)).D.length : Int) == 0) = false from beq_false_of_ne (cb_ne k), cond_false]
    rw [get_ok hk, show ((0 : Int) != 0) = false from rfl, cond_false, hx, show ((0 : Int) != 0) = false from rfl, cond_false]
  rw [e] at hL ⊢
  revert hL
  cases decide ((nextL g.chain k).1.epoch > g.chain.epoch)
  · exact fun hL => ⟨_, rfl, rfl, hL⟩
  · exact fun hL => ⟨_, rfl, rfl, hL⟩
theorem ready_mid {e : Int} {f : Bool} {pre xs : List Member} {x : Member} (hc : check ⟨e, ⟨f, pre ++ x :: xs⟩⟩ = 0) : ready ⟨e, ⟨f, pre ++ x :: xs⟩⟩ x.node = bif x.fresh then (⟨e, ⟨false, pre ++ ⟨x.node, x.site, false⟩ :: xs⟩⟩, 0) else (⟨0, ⟨true, []⟩⟩, 81) := by
  have hp := place_mid hc
  have hx : (pre ++ x :: xs)[pre.length]! = x := by simp
  unfold ready
  rw [hp, hc, show ((0 : Int) != 0) = false from rfl, cond_false, decide_eq_false (by omega), cond_false, Int.toNat_natCast]
  show (bif !((pre ++ x :: xs)[pre.length]!.fresh) then _ else (Chain.mk e (Sl.mk false ((pre ++ x :: xs).set pre.length (Member.mk (pre ++ x :: xs)[pre.length]!.node (pre ++ x :: xs)[pre.length]!.site false))), 0)) = _
  rw [hx, List.set_append_right _ _ (Nat.le_refl _), Nat.sub_self, List.set_cons_zero]
  cases x.fresh <;> rfl
theorem check_mid {e : Int} {f : Bool} {pre xs : List Member} {x : Member} (hc : check ⟨e, ⟨f, pre ++ x :: xs⟩⟩ = 0) (hf : x.fresh = true) : check ⟨e, ⟨false, pre ++ ⟨x.node, x.site, false⟩ :: xs⟩⟩ = 0 := by
  have h0 : pre ≠ [] := fun h => by
    subst h
    have := ((check_iff _).1 hc).2.2.1
    exact absurd (hf.symm.trans this) (by decide)
  exact check_less hc (by simp [spot]) (by
    obtain ⟨y, ys, rfl⟩ := List.exists_cons_of_ne_nil h0
    exact ((check_iff _).1 hc).2.2.1)
theorem next4 (c : Chain) (n : Int) : nextL c ⟨4, n, 0, c.epoch⟩ = ready c n := by
  unfold nextL
  rw [show (c.epoch != c.epoch) = false from bne_self_eq_false _, cond_false]
  rfl
theorem next1 (c : Chain) (n s : Int) : nextL c ⟨1, n, s, c.epoch⟩ = drop c n := by
  unfold nextL
  rw [show (c.epoch != c.epoch) = false from bne_self_eq_false _, cond_false]
  rfl
theorem next2 (c : Chain) (n s : Int) : nextL c ⟨2, n, s, c.epoch⟩ = join c ⟨n, s, false⟩ := by
  unfold nextL
  rw [show (c.epoch != c.epoch) = false from bne_self_eq_false _, cond_false]
  rfl
theorem lChain_is {g : Ledger} {n : Nat} (h : Lived g n) (hn : g.chain.members.nil = true → g.chain.members.D = []) : lChain g = g.chain := by
  rw [h.chain, copied_eq hn]
theorem inner_eq (a : Int) (kk : Ledger → Bool) : ∀ (xs pre : List Member) (i n : Nat) (g : Ledger), Lived g n → n + xs.length ≤ 900 → check g.chain = 0 → (g.chain.members.nil = true → g.chain.members.D = []) → g.chain.members.D = pre ++ xs → ∃ g', Lived g' (n + xs.length) ∧ g'.chain = readyAll_l0 a xs i g.chain.epoch g.chain.members ∧ lawSafe_l1 a kk xs i g = kk g'
  | [], _, _, _, g, hl, _, _, _, _ => ⟨g, hl, rfl, rfl⟩
  | x :: xs, pre, i, n, g, hl, hn, hc, hnn, hD => by
    rw [List.length_cons] at hn ⊢
    obtain ⟨p, ⟨e, ⟨f, D⟩⟩, at_⟩ := g
    obtain rfl : D = pre ++ x :: xs := hD
    have hm : x ∈ (Chain.mk e ⟨f, pre ++ x :: xs⟩).members.D := by simp
    have hr := ready_mid hc
    have stay : ∃ g', Lived g' (n + (xs.length + 1)) ∧ g'.chain = readyAll_l0 a xs (i + 1) e ⟨f, pre ++ x :: xs⟩ ∧ lawSafe_l1 a kk xs (i + 1) ⟨p, ⟨e, ⟨f, pre ++ x :: xs⟩⟩, at_⟩ = kk g' := by
      obtain ⟨g', q1, q2, q3⟩ := inner_eq a kk xs (pre ++ [x]) (i + 1) (n + 1) _ (⟨hl.lo, by have := hl.hi; omega, hl.at0, by have := hl.at1; omega⟩ : Lived ⟨p, ⟨e, ⟨f, pre ++ x :: xs⟩⟩, at_⟩ (n + 1)) (by omega) hc hnn (by simp)
      exact ⟨g', by rw [show n + (xs.length + 1) = n + 1 + xs.length by omega]; exact q1, q2, q3⟩
    unfold lawSafe_l1 readyAll_l0
    show ∃ g', Lived g' (n + (xs.length + 1)) ∧ g'.chain = (bif (((ready (Chain.mk e ⟨f, pre ++ x :: xs⟩) x.node).2) == 0) then _ else _) ∧ _
    rw [hr]
    cases hf : x.fresh
    · exact stay
    · cases ha : mHas a x.node
      · exact stay
      · rw [lChain_is hl hnn]
        have hk : okC ⟨4, x.node, 0, e⟩ := by
          have h1 := epoch_of hc
          have h2 := mem_ok hc hm
          exact ⟨h1, .inl ⟨.inr (.inr rfl), ⟨h2.1, by have := h2.2.1; show x.node < 6; omega⟩, rfl⟩⟩
        have h4 : nextL (Chain.mk e ⟨f, pre ++ x :: xs⟩) ⟨4, x.node, 0, e⟩ = (⟨e, ⟨false, pre ++ ⟨x.node, x.site, false⟩ :: xs⟩⟩, 0) := by
          rw [next4 (Chain.mk e ⟨f, pre ++ x :: xs⟩), hr, hf]; rfl
        obtain ⟨g1, e1, e2, e3⟩ := do_step hl (by omega) hk (by rw [h4])
        rw [h4] at e2
        rw [e1]
        have hc2 := check_mid hc hf
        obtain ⟨g', q1, q2, q3⟩ := inner_eq a kk xs (pre ++ [⟨x.node, x.site, false⟩]) (i + 1) (n + 1) g1 e3 (by omega) (by rw [e2]; exact hc2) (by rw [e2]; exact fun h => Bool.noConfusion h) (by rw [e2]; simp)
        refine ⟨g', by rw [show n + (xs.length + 1) = n + 1 + xs.length by omega]; exact q1, ?_, q3⟩
        rw [q2, e2]; rfl
theorem eqInts_self (s : Sl Int) : eqInts s s = true := by
  have key : ∀ (l : List Int) (i : Nat), l = s.D.drop i → eqInts_l0 s l i = true := by
    intro l
    induction l with
    | nil => intro i _; rfl
    | cons x l ih =>
      intro i hl
      have hi : i < s.D.length := by
        apply Classical.byContradiction
        intro h
        rw [List.drop_of_length_le (by omega)] at hl; cases hl
      have hx : s.D[(i : Int).toNat]! = x := by
        rw [Int.toNat_natCast, getElem!_pos s.D i hi]
        rw [List.drop_eq_getElem_cons hi] at hl
        exact (List.cons.inj hl).1.symm
      have hl' : l = s.D.drop (i + 1) := by
        rw [List.drop_eq_getElem_cons hi] at hl
        exact (List.cons.inj hl).2
      unfold eqInts_l0
      rw [hx, ih (i + 1) hl']
      simp
  unfold eqInts
  rw [key s.D 0 rfl]
  simp
theorem outer_true (first : Sl Member) {a : Int} {h w : Nat → Int} (ha : 0 ≤ a ∧ a < 18446744073709551616) (hp : planCheck h w = 0) {d : Chain} (hd : (allP (Chain.mk 1 (tMembers first)) a h w).2.1 = d) : ∀ (k i n : Nat) (g : Ledger), Lived g n → n + 7 * k ≤ 900 → check g.chain = 0 → (g.chain.members.nil = true → g.chain.members.D = []) → planM a g.chain.members.D < k → (runP a h w k g.chain).2 = d → lawSafe_l0 first a h w k i g = true
  | 0, _, _, _, _, _, _, _, hm, _ => by cases hm
  | k + 1, i, n, g, hl, hn, hc, hnn, hm, hr => by
    have h6 := check_le6 hc
    unfold lawSafe_l0
    rw [lChain_is hl hnn]
    obtain ⟨g', l', c', e'⟩ := inner_eq a _ g.chain.members.D [] 0 n g hl (by omega) hc hnn rfl
    rw [e']
    replace c' : g'.chain = readyAll g.chain a := c'
    have hn' : g'.chain.members.nil = true → g'.chain.members.D = [] := by rw [c']; exact readyAll_hn _ a hnn
    have hc' : check g'.chain = 0 := by rw [c']; exact readyAll_check a hc
    rw [lChain_is l' hn']
    have hro := round_ok (a := a) (h := h) (w := w) (c := g.chain) ha hc hp
    have h0 := nextP_ok (a := a) (w := w) hc' hp
    unfold runP at hr
    rw [← c'] at hro hr
    have hsome := fun hx => nextP_some (c := g'.chain) (a := a) (h := h) (w := w) (nx := nextP g'.chain a h w) ha rfl hx
    generalize hx : nextP g'.chain a h w = nx at *
    rw [h0, show ((0 : Int) != 0) = false from rfl, cond_false]
    cases h2 : nx.2.1
    · rw [h2, cond_false] at hr
      rw [Bool.not_false, cond_true, hd, ← hr, eqInts_self, awake_true]; rfl
    · obtain ⟨d', hst, hdc, hde, hlt, hpm, hck, hk⟩ := hro h2
      have hko := okC_of hck
      rw [h2, cond_true, hst] at hr
      replace hr : (runP a h w k d').2 = d := hr
      rw [Bool.not_true, cond_false, put_ok hko, show ((0 : Int) != 0) = false from rfl, cond_false]
      have hep : nx.1.epoch = g'.chain.epoch := by
        obtain ⟨_, _, _, ⟨x, _, _, r2, _⟩ | ⟨_, n, s, _, _, _, _, _, e, _⟩⟩ := hsome h2
        · rw [r2]
        · rw [e]
      have hnx : nextL g'.chain nx.1 = (d', 0) := by
        rcases hk with ⟨k1, hk⟩ | ⟨k2, hk⟩
        · rw [show nx.1 = ⟨1, nx.1.node, nx.1.site, g'.chain.epoch⟩ by rw [← k1, ← hep], next1]; exact hk
        · rw [show nx.1 = ⟨2, nx.1.node, nx.1.site, g'.chain.epoch⟩ by rw [← k2, ← hep], next2]; exact hk
      obtain ⟨g2, e1, e2, e3⟩ := do_step l' (by omega) hko (by rw [hnx])
      rw [hnx] at e2
      rw [put_ok hko] at e1
      rw [e1, show ((0 : Int) != 0) = false from rfl, cond_false]
      have hdn : d'.members.nil = true → d'.members.D = [] := by rw [← hst]; exact stepOf_hn _ _
      have ih := outer_true first ha hp hd k (i + 1) (n + g.chain.members.D.length + 1) g2 e3 (by omega) (by rw [e2]; exact hdc) (by rw [e2]; exact hdn) (by rw [e2]; show planM a d'.members.D < k; omega) (by rw [e2]; exact hr)
      rw [ih]
      cases hk1 : nx.1.kind == 1
      · rfl
      · rw [cond_true]
        obtain ⟨_, _, _, ⟨x, _, r1, r2, _⟩ | ⟨_, n, s, _, _, _, _, _, e, _⟩⟩ := hsome h2
        · rw [r2, r1]; rfl
        · rw [e] at hk1; cases hk1
theorem outer_bad (first : Sl Member) {a : Int} {h w : Nat → Int} (hp : planCheck h w ≠ 0) {k i n : Nat} {g : Ledger} (hl : Lived g n) (hn : n ≤ 100) (hc : check g.chain = 0) (hnn : g.chain.members.nil = true → g.chain.members.D = []) : lawSafe_l0 first a h w (k + 1) i g = true := by
  have h6 := check_le6 hc
  unfold lawSafe_l0
  rw [lChain_is hl hnn]
  obtain ⟨g', l', c', e'⟩ := inner_eq a _ g.chain.members.D [] 0 n g hl (by omega) hc hnn rfl
  rw [e']
  replace c' : g'.chain = readyAll g.chain a := c'
  have hn' : g'.chain.members.nil = true → g'.chain.members.D = [] := by rw [c']; exact readyAll_hn _ a hnn
  have hc' : check g'.chain = 0 := by rw [c']; exact readyAll_check a hc
  rw [lChain_is l' hn']
  have e : nextP g'.chain a h w = (⟨0, 0, 0, 0⟩, false, planCheck h w) := by
    rcases nextP_cases (c := g'.chain) (a := a) (h := h) (w := w) rfl with ⟨q, _⟩ | ⟨_, _, q⟩ | ⟨_, q, _⟩ | ⟨_, q, _⟩ | ⟨_, q, _⟩
    · exact absurd hc' q
    · exact q
    · exact absurd q hp
    · exact absurd q hp
    · exact absurd q hp
  rw [e]
  have e2 : (planCheck h w != 0) = true := by simpa using hp
  rw [e2, cond_true, show (planCheck h w == planCheck h w) = true by simp, cond_true, awake_true]
theorem lawSafe_true (first : Sl Member) (a : Int) (h w : Nat → Int) (ha : 0 ≤ a ∧ a < 18446744073709551616) : lawSafe first a h w = true := by
  unfold lawSafe
  cases h1 : decide ((first.D.length : Int) > 60)
  case true => rw [cond_true]; exact awake_true
  rw [cond_false]
  cases h2 : (firstC first).2 != 0
  case true => rw [cond_true]; exact awake_true
  rw [cond_false]
  have h0 : (firstC first).2 = 0 := eq_of_bne_false h2
  have hl := newL_lived h0
  have hc : check (newL first).1.chain = 0 := firstC_ok h0
  have hnn : (newL first).1.chain.members.nil = true → (newL first).1.chain.members.D = [] := firstC_hn first
  by_cases hp : planCheck h w = 0
  · have h6 := check_le6 hc
    have hle := planM_le a (newL first).1.chain.members.D
    have e1 : Chain.mk 1 (tMembers first) = (newL first).1.chain := by
      have h3 := hl.lo
      have h4 := hl.hi
      have h5 : (newL first).1.chain.epoch = 1 := by omega
      show _ = (firstC first).1
      rw [show (newL first).1.chain = (firstC first).1 from rfl] at h5
      rw [← h5]; rfl
    have hd : (allP (Chain.mk 1 (tMembers first)) a h w).2.1 = (runP a h w 14 (newL first).1.chain).2 := by
      rw [e1, allP_ok ha hc hp, runP_fuel ha hp _ 14 _ hc (Nat.lt_succ_self _) (by omega)]
    exact outer_true first ha hp hd 14 0 0 _ hl (by decide) hc hnn (by omega) rfl
  · exact outer_bad first hp hl (by decide) hc hnn
end Go.Proofs.Ytaffaalpgpepeaa
/- The law PlanSafe at too long lists. No conditions. -/
namespace Go.Proofs.Ytaffaalpgpepeaa
open Go.Am
def biglawSafe (_first : (Sl Member)) (_alive : Int) (_h : (Nat → Int)) (_w : (Nat → Int)) : Bool :=
  (awake )
theorem biglawSafe_calls (first : (Sl Member)) (alive : Int) (h : (Nat → Int)) (w : (Nat → Int)) (hbig : (decide ((first.D.length : Int) > 60)) = true) : PCalls Try.prog 8 [sS (some first.nil) eMember first.D, .pv (.lit (.int .u64 alive)), .agg [.pv (.lit (.int .i64 (h 0))), .pv (.lit (.int .i64 (h 1))), .pv (.lit (.int .i64 (h 2))), .pv (.lit (.int .i64 (h 3))), .pv (.lit (.int .i64 (h 4))), .pv (.lit (.int .i64 (h 5)))], .agg [.pv (.lit (.int .i64 (w 0))), .pv (.lit (.int .i64 (w 1))), .pv (.lit (.int .i64 (w 2)))]] (.pv (.lit (.bool (biglawSafe first alive h w)))) := by
 generalize hR : biglawSafe first alive h w = R
 refine PCalls.of_body tabOk Try.func8 rfl rfl rfl rfl rfl mixed fun E hP C hI => ?_
 refine Awp.consP C ?_
 refine rvc_un (rexec_prim C (δ := { v := .ptr 6 0, new := [(6, .cells [.pv (.lit (.int .i64 (h 0))), .pv (.lit (.int .i64 (h 1))), .pv (.lit (.int .i64 (h 2))), .pv (.lit (.int .i64 (h 3))), .pv (.lit (.int .i64 (h 4))), .pv (.lit (.int .i64 (h 5)))])] }) rfl rfl rfl rfl trivial rfl ?_)
 refine rvc_un (rexec_prim C (δ := { v := .ptr 7 0, new := [(7, .cells [.pv (.lit (.int .i64 (w 0))), .pv (.lit (.int .i64 (w 1))), .pv (.lit (.int .i64 (w 2)))])] }) rfl rfl rfl rfl trivial rfl ?_)
 refine rvP C (.pv (.lit (.bool false))) ?_
 refine rvc_nil ?_
 refine Awp.seq ?_
 refine Awp.consP C ?_
 refine rvP C (sS (some first.nil) eMember first.D) ?_
 refine rvP C (.pv (.lit (.int .i64 (first.D.length : Int)))) ?_
 refine rvP C (.pv (.lit (.bool (decide ((first.D.length : Int) > 60))))) ?_
 refine rvc_nil ?_
 refine Awp.condT (b := (decide ((first.D.length : Int) > 60))) rfl hbig ?_
 refine Awp.consP C ?_
 obtain ⟨aw, hq_aw⟩ : ∃ q_, q_ = (awake ) := ⟨_, rfl⟩
 have hc_aw := (awake_calls )
 first | rw [← hq_aw] at hR hc_aw | (unfold biglawSafe at hR; rw [← hq_aw] at hR hc_aw)
 refine rvc_un (rexec_call hP C rfl rfl rfl hc_aw ?_)
 refine rvP C (.pv (.lit (.bool aw))) ?_
 refine rvc_nil ?_
 refine Awp.ret ?_
 subst hR
 exact ⟨.inl rfl, rfl⟩
end Go.Proofs.Ytaffaalpgpepeaa
/- Laws of chapter 14 at chains that are too long. No conditions. -/
namespace Go.Proofs.Ytaffaalpgpepeaa
open Go.Am
end Go.Proofs.Ytaffaalpgpepeaa
/- Inputs of chapter 14, as plain values. No conditions. -/
namespace Go.Proofs.Ytaffaalpgpepeaa
open Go.Am
set_option maxRecDepth 100000 in
theorem flat3 {m : Nat} {ps : List PV} (h : Flat Try.prog (m + 1) 3 ps) : ∃ n, ps = [.lit (.int .i64 n)] ∧ (Lit.int .i64 n).wf = true := by
  unfold Flat at h
  rw [Try.underlying3] at h
  exact h
set_option maxRecDepth 100000 in
theorem flat4 {m : Nat} {ps : List PV} (h : Flat Try.prog (m + 1) 4 ps) : ∃ b, ps = [.lit (.bool b)] ∧ True := by
  unfold Flat at h
  rw [Try.underlying4] at h
  obtain ⟨b, h⟩ := h
  exact ⟨b, h, trivial⟩
def WT41 (x : Member) : Prop := (Lit.int .i64 x.node).wf = true ∧ (Lit.int .i64 x.site).wf = true ∧ True
set_option maxRecDepth 100000 in
theorem flat41 {m : Nat} {ps : List PV} (h : Flat Try.prog (m + 2) 41 ps) : ∃ x : Member, ps = eMember.enc x ∧ WT41 x := by
  unfold Flat at h
  rw [Try.underlying41] at h
  obtain ⟨a0, b0, e0, h0, a1, b1, e1, h1, a2, b2, e2, h2, el⟩ := h
  obtain ⟨x0, rfl, w0⟩ := flat3 (m := m + 0) h0
  obtain ⟨x1, rfl, w1⟩ := flat3 (m := m + 0) h1
  obtain ⟨x2, rfl, w2⟩ := flat4 (m := m + 0) h2
  subst el
  subst e2
  subst e1
  subst e0
  exact ⟨⟨x0, x1, x2⟩, rfl, w0, w1, w2⟩
def WT22 (s : Sl Member) : Prop := s.D.length ≤ maxLen ∧ (s.nil = true → s.D = []) ∧ ∀ x ∈ s.D, WT41 x
set_option maxRecDepth 100000 in
theorem flat22 {m : Nat} {ps : List PV} (h : Flat Try.prog (m + 3) 22 ps) : ∃ s : Sl Member, ps = [.sl (some s.nil) s.D.length (encL eMember s.D)] ∧ WT22 s := by
  unfold Flat at h
  rw [Try.underlying22] at h
  obtain ⟨b, D, rfl, h1, h2, h3⟩ := h
  obtain ⟨D2, e1, e2, e3⟩ := enc_list (e := eMember) (W := fun x => WT41 x) D fun y hy => flat41 (h3 y hy)
  rw [e2, ← e1]
  exact ⟨⟨b, D2⟩, rfl, (by show D2.length ≤ _; rw [e1]; exact h1), (fun hb => by have := h2 hb; rw [this] at e1; exact List.eq_nil_of_length_eq_zero e1), e3⟩
end Go.Proofs.Ytaffaalpgpepeaa
/- The contract of the law PlanNext: it is true, whatever the input. No conditions. -/
namespace Go.Proofs.Ytaffaalpgpepeaa
open Go.Am
theorem u64_range {a : Int} (h : (Lit.int .u64 a).wf = true) : 0 ≤ a ∧ a < 18446744073709551616 := by
  have h : (decide (IntKind.u64.min ≤ a) && decide (a ≤ IntKind.u64.max)) = true := h
  rw [Bool.and_eq_true] at h
  have h1 := of_decide_eq_true h.1
  have h2 := of_decide_eq_true h.2
  have e1 : IntKind.u64.min = 0 := rfl
  have e2 : IntKind.u64.max = 18446744073709551615 := rfl
  omega
end Go.Proofs.Ytaffaalpgpepeaa
/- The contract of the law PlanSafe: it is true, whatever the input. No conditions. -/
namespace Go.Proofs.Ytaffaalpgpepeaa
open Go.Am
theorem planSafe_calls (c : Sl Member) (_ : WT22 c) (a : Int) (wa : (Lit.int .u64 a).wf = true) (h w : Nat → Int) : PCalls Try.prog 8 [sS (some c.nil) eMember c.D, .pv (.lit (.int .u64 a)), .agg (cI .i64 (tb 6 h)), .agg (cI .i64 (tb 3 w))] (.pv (.bool true)) := by
  cases hb : (decide ((c.D.length : Int) > 60))
  · have := of_decide_eq_false hb
    have r := lawSafe_calls c a h w (u64_range wa) (by omega) (by omega)
    rw [lawSafe_true c a h w (u64_range wa)] at r
    exact r
  · have r := biglawSafe_calls c a h w hb
    rw [show biglawSafe c a h w = true from awake_true] at r
    exact r
end Go.Proofs.Ytaffaalpgpepeaa
/- What all rows of this seat need: no knob is turned, the types are laid out. No conditions. -/
namespace Go.Proofs.Ytaffaalpgpepeaa
open Go.Am
theorem own : ownKnob Try.prog.godebug = none := by kernel_rfl
theorem laidOut : laidOutB Try.prog = true := by kernel_rfl
end Go.Proofs.Ytaffaalpgpepeaa
