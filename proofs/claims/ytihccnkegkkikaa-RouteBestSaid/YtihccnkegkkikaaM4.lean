import Derived.Test.YtihccnkegkkikaaM3
/- How far a read goes; direct ways. No conditions. -/
namespace Go.Proofs.Ytihccnkegkkikaa
open Go.Am
def readW (c : Chain) (w : (Nat → (Nat → Int))) (from_ : Int) (node : Int) (tail : Bool) (masters : Int) : Int × Int :=
  (bif ((able c w from_) != 0) then (0, (able c w from_)) else (bif (decide ((place0 c node) < 0)) then (0, 81) else (bif (!(siteOk masters)) then (0, 81) else (bif tail then ((IntKind.i64.wrap ((IntKind.i64.wrap ((IntKind.i64.wrap (2 * ((w from_.toNat) (c.members.D[(place0 c node).toNat]!.site).toNat))) + (IntKind.i64.wrap (2 * ((w (c.members.D[(place0 c node).toNat]!.site).toNat) masters.toNat))))) + (IntKind.i64.wrap (2 * ((w (c.members.D[(place0 c node).toNat]!.site).toNat) (c.members.D[(IntKind.i64.wrap ((c.members.D.length : Int) - 1)).toNat]!.site).toNat))))), 0) else ((IntKind.i64.wrap ((IntKind.i64.wrap (2 * ((w from_.toNat) (c.members.D[(place0 c node).toNat]!.site).toNat))) + (IntKind.i64.wrap (2 * ((w (c.members.D[(place0 c node).toNat]!.site).toNat) masters.toNat))))), 0)))))
theorem readW_calls (c : Chain) (w : (Nat → (Nat → Int))) (from_ : Int) (node : Int) (tail : Bool) (masters : Int) (hl1 : c.members.D.length ≤ 1000000) : PCalls Try.prog 12 [.agg [.pv (.lit (.int .i64 c.epoch)), sS (some c.members.nil) eMember c.members.D], .agg [.pv (.lit (.int .i64 ((w 0) 0))), .pv (.lit (.int .i64 ((w 0) 1))), .pv (.lit (.int .i64 ((w 0) 2))), .pv (.lit (.int .i64 ((w 1) 0))), .pv (.lit (.int .i64 ((w 1) 1))), .pv (.lit (.int .i64 ((w 1) 2))), .pv (.lit (.int .i64 ((w 2) 0))), .pv (.lit (.int .i64 ((w 2) 1))), .pv (.lit (.int .i64 ((w 2) 2)))], .pv (.lit (.int .i64 from_)), .pv (.lit (.int .i64 node)), .pv (.lit (.bool tail)), .pv (.lit (.int .i64 masters))] (.tup [.pv (.lit (.int .i64 ((readW c w from_ node tail masters).1))), .pv (.lit (.int .i64 ((readW c w from_ node tail masters).2)))]) := by
 generalize hR : readW c w from_ node tail masters = R
 refine PCalls.of_body tabOk Try.func12 rfl rfl rfl rfl rfl mixed fun E hP C hI => ?_
 refine Awp.consP C ?_
 refine rvc_un (rexec_prim C (δ := { v := .ptr 6 0, new := [(6, .cells [.pv (.lit (.int .i64 c.epoch)), sS (some c.members.nil) eMember c.members.D])] }) rfl rfl rfl rfl trivial rfl ?_)
 refine rvc_un (rexec_prim C (δ := { v := .ptr 7 0, new := [(7, .cells [.pv (.lit (.int .i64 ((w 0) 0))), .pv (.lit (.int .i64 ((w 0) 1))), .pv (.lit (.int .i64 ((w 0) 2))), .pv (.lit (.int .i64 ((w 1) 0))), .pv (.lit (.int .i64 ((w 1) 1))), .pv (.lit (.int .i64 ((w 1) 2))), .pv (.lit (.int .i64 ((w 2) 0))), .pv (.lit (.int .i64 ((w 2) 1))), .pv (.lit (.int .i64 ((w 2) 2)))])] }) rfl rfl rfl rfl trivial rfl ?_)
 refine rvP C (.pv (.lit (.int .i64 0))) ?_
 refine rvP C (.pv (.lit (.int .i64 0))) ?_
 refine rvc_nil ?_
 refine Awp.seq ?_
 refine Awp.consP C ?_
 refine rvP C (.agg [.pv (.lit (.int .i64 c.epoch)), sS (some c.members.nil) eMember c.members.D]) ?_
 refine rvP C (.agg [.pv (.lit (.int .i64 ((w 0) 0))), .pv (.lit (.int .i64 ((w 0) 1))), .pv (.lit (.int .i64 ((w 0) 2))), .pv (.lit (.int .i64 ((w 1) 0))), .pv (.lit (.int .i64 ((w 1) 1))), .pv (.lit (.int .i64 ((w 1) 2))), .pv (.lit (.int .i64 ((w 2) 0))), .pv (.lit (.int .i64 ((w 2) 1))), .pv (.lit (.int .i64 ((w 2) 2)))]) ?_
 refine rvP C (.pv (.lit (.int .i64 from_))) ?_
 refine rvc_un (rexec_call hP C rfl rfl rfl (able_calls c w from_ hl1) ?_)
 refine rvP C (.pv (.lit (.int .i64 (able c w from_)))) ?_
 refine rvc_nil ?_
 refine Awp.consP C ?_
 refine rvP C (.pv (.lit (.int .i64 (able c w from_)))) ?_
 refine rvP C (.pv (.lit (.bool ((able c w from_) != 0)))) ?_
 refine rvc_nil ?_
 refine Awp.cond (b := ((able c w from_) != 0)) rfl (fun h1 => ?_) (fun h1 => ?_)
 ·
  replace hR := of_true h1 hR
  refine Awp.consP C ?_
  refine rvP C (.pv (.lit (.int .i64 (able c w from_)))) ?_
  refine rvP C (.pv (.lit (.int .i64 0))) ?_
  refine rvP C (.pv (.lit (.int .i64 (able c w from_)))) ?_
  refine rvc_nil ?_
  refine Awp.ret ?_
  subst hR
  exact ⟨.inl rfl, rfl⟩
 ·
  replace hR := of_false h1 hR
  refine Awp.skip ?_
  refine Awp.consP C ?_
  refine rvP C (.agg [.pv (.lit (.int .i64 c.epoch)), sS (some c.members.nil) eMember c.members.D]) ?_
  refine rvP C (.pv (.lit (.int .i64 node))) ?_
  refine rvc_un (rexec_call hP C rfl rfl rfl (place0_calls c node (Nat.le_trans hl1 (by decide))) ?_)
  refine rvP C (.pv (.lit (.int .i64 (place0 c node)))) ?_
  refine rvc_nil ?_
  refine Awp.seq ?_
  refine Awp.consP C ?_
  refine rvP C (.pv (.lit (.int .i64 (place0 c node)))) ?_
  refine rvP C (.pv (.lit (.bool (decide ((place0 c node) < 0))))) ?_
  refine rvP C (.pv (.lit (.bool (decide ((place0 c node) < 0))))) ?_
  refine rvc_case 30 (decide ((place0 c node) < 0)) rfl (fun h2 => ?_) (fun h2 => ?_)
  ·
   replace hR := of_true h2 hR
   refine rvS ?_
   refine rvS ?_
   refine rvS ?_
   refine rvP C (.pv (.lit (.bool true))) ?_
   refine rvc_nil ?_
   refine Awp.condT (b := true) rfl rfl ?_
   refine Awp.consP C ?_
   refine rvP C (.pv (.lit (.int .i64 0))) ?_
   refine rvP C (.pv (.lit (.int .i64 81))) ?_
   refine rvc_nil ?_
   refine Awp.ret ?_
   subst hR
   exact ⟨.inl rfl, rfl⟩
  ·
   replace hR := of_false h2 hR
   refine rvO C (.pv (.lit (.int .i64 masters))) ?_
   refine rvc_open rfl rfl rfl (rexec_call hP C rfl rfl rfl (siteOk_calls masters) ?_)
   refine rvO C (.pv (.lit (.bool (!(siteOk masters))))) ?_
   refine rvP C (.pv (.lit (.bool (!(siteOk masters))))) ?_
   refine rvc_nil ?_
   refine Awp.cond (b := (!(siteOk masters))) rfl (fun h3 => ?_) (fun h3 => ?_)
   ·
    replace hR := of_true h3 hR
    refine Awp.consP C ?_
    refine rvP C (.pv (.lit (.int .i64 0))) ?_
    refine rvP C (.pv (.lit (.int .i64 81))) ?_
    refine rvc_nil ?_
    refine Awp.ret ?_
    subst hR
    exact ⟨.inl rfl, rfl⟩
   ·
    replace hR := of_false h3 hR
    refine Awp.skip ?_
    refine Awp.consP C ?_
    refine rvP C (.ptr 6 1) ?_
    refine rvP C (sS (some c.members.nil) eMember c.members.D) ?_
    refine rvP C (.pv (.lit (.int .i64 (place0 c node)))) ?_
    have h4 : c.members.D[(place0 c node).toNat]? = some c.members.D[(place0 c node).toNat]! := getE (by have hAB_ := (able_ok (eq_of_bne_false h1)); have hp_ := place0_lt c node; have hl_ := check_len hAB_.1; have h6_ := check_le6 hAB_.1; have hq_ := of_decide_eq_false ‹decide (place0 c node < 0) = false›; have hw_ := wrapI ((c.members.D.length : Int) - 1); have hs1_ := sites_ok hAB_.1 _ (at_mem (D := c.members.D) (n := (place0 c node).toNat) (by omega)); have hs2_ := sites_ok hAB_.1 _ (at_mem (D := c.members.D) (n := (IntKind.i64.wrap ((c.members.D.length : Int) - 1)).toNat) (by omega)); have hm_ := site_ok (n := masters) (by simpa using ‹(!siteOk masters) = false›); omega)
    refine rvc_un (rexec_idxS C rfl rfl rfl rfl rfl rfl (c.members.D[(place0 c node).toNat]!) (by have hAB_ := (able_ok (eq_of_bne_false h1)); have hp_ := place0_lt c node; have hl_ := check_len hAB_.1; have h6_ := check_le6 hAB_.1; have hq_ := of_decide_eq_false ‹decide (place0 c node < 0) = false›; have hw_ := wrapI ((c.members.D.length : Int) - 1); have hs1_ := sites_ok hAB_.1 _ (at_mem (D := c.members.D) (n := (place0 c node).toNat) (by omega)); have hs2_ := sites_ok hAB_.1 _ (at_mem (D := c.members.D) (n := (IntKind.i64.wrap ((c.members.D.length : Int) - 1)).toNat) (by omega)); have hm_ := site_ok (n := masters) (by simpa using ‹(!siteOk masters) = false›); omega) h4 ?_)
    refine rvP C (.rp [.lit (.int .i64 (c.members.D[(place0 c node).toNat]!.site))]) ?_
    refine rvP C (.pv (.lit (.int .i64 (c.members.D[(place0 c node).toNat]!.site)))) ?_
    refine rvP C (.pv (.lit (.int .i64 (c.members.D[(place0 c node).toNat]!.site)))) ?_
    refine rvc_nil ?_
    refine Awp.consP C ?_
    refine rvP C (.pv (.lit (.int .i64 from_))) ?_
    refine rvP C (.pv (.lit (.int .i64 (c.members.D[(place0 c node).toNat]!.site)))) ?_
    refine rvc_un (rexec_prim C (δ := { v := .ptr 7 (0 + from_.toNat * 3) }) rfl rfl rfl rfl ⟨(by have hAB_ := (able_ok (eq_of_bne_false h1)); have hp_ := place0_lt c node; have hl_ := check_len hAB_.1; have h6_ := check_le6 hAB_.1; have hq_ := of_decide_eq_false ‹decide (place0 c node < 0) = false›; have hw_ := wrapI ((c.members.D.length : Int) - 1); have hs1_ := sites_ok hAB_.1 _ (at_mem (D := c.members.D) (n := (place0 c node).toNat) (by omega)); have hs2_ := sites_ok hAB_.1 _ (at_mem (D := c.members.D) (n := (IntKind.i64.wrap ((c.members.D.length : Int) - 1)).toNat) (by omega)); have hm_ := site_ok (n := masters) (by simpa using ‹(!siteOk masters) = false›); omega), (by have hAB_ := (able_ok (eq_of_bne_false h1)); have hp_ := place0_lt c node; have hl_ := check_len hAB_.1; have h6_ := check_le6 hAB_.1; have hq_ := of_decide_eq_false ‹decide (place0 c node < 0) = false›; have hw_ := wrapI ((c.members.D.length : Int) - 1); have hs1_ := sites_ok hAB_.1 _ (at_mem (D := c.members.D) (n := (place0 c node).toNat) (by omega)); have hs2_ := sites_ok hAB_.1 _ (at_mem (D := c.members.D) (n := (IntKind.i64.wrap ((c.members.D.length : Int) - 1)).toNat) (by omega)); have hm_ := site_ok (n := masters) (by simpa using ‹(!siteOk masters) = false›); omega)⟩ rfl ?_)
    refine rvc_un (rexec_prim C (δ := { v := .ptr 7 (0 + from_.toNat * 3 + (c.members.D[(place0 c node).toNat]!.site).toNat * 1) }) rfl rfl rfl rfl ⟨(by have hAB_ := (able_ok (eq_of_bne_false h1)); have hp_ := place0_lt c node; have hl_ := check_len hAB_.1; have h6_ := check_le6 hAB_.1; have hq_ := of_decide_eq_false ‹decide (place0 c node < 0) = false›; have hw_ := wrapI ((c.members.D.length : Int) - 1); have hs1_ := sites_ok hAB_.1 _ (at_mem (D := c.members.D) (n := (place0 c node).toNat) (by omega)); have hs2_ := sites_ok hAB_.1 _ (at_mem (D := c.members.D) (n := (IntKind.i64.wrap ((c.members.D.length : Int) - 1)).toNat) (by omega)); have hm_ := site_ok (n := masters) (by simpa using ‹(!siteOk masters) = false›); omega), (by have hAB_ := (able_ok (eq_of_bne_false h1)); have hp_ := place0_lt c node; have hl_ := check_len hAB_.1; have h6_ := check_le6 hAB_.1; have hq_ := of_decide_eq_false ‹decide (place0 c node < 0) = false›; have hw_ := wrapI ((c.members.D.length : Int) - 1); have hs1_ := sites_ok hAB_.1 _ (at_mem (D := c.members.D) (n := (place0 c node).toNat) (by omega)); have hs2_ := sites_ok hAB_.1 _ (at_mem (D := c.members.D) (n := (IntKind.i64.wrap ((c.members.D.length : Int) - 1)).toNat) (by omega)); have hm_ := site_ok (n := masters) (by simpa using ‹(!siteOk masters) = false›); omega)⟩ rfl ?_)
    refine rvc_un (rexec_load33 C (fun p q => .pv (.lit (.int .i64 ((w p) q)))) from_.toNat (c.members.D[(place0 c node).toNat]!.site).toNat (.pv (.lit (.int .i64 ((w from_.toNat) (c.members.D[(place0 c node).toNat]!.site).toNat)))) rfl rfl rfl rfl rfl rfl rfl (by have hAB_ := (able_ok (eq_of_bne_false h1)); have hp_ := place0_lt c node; have hl_ := check_len hAB_.1; have h6_ := check_le6 hAB_.1; have hq_ := of_decide_eq_false ‹decide (place0 c node < 0) = false›; have hw_ := wrapI ((c.members.D.length : Int) - 1); have hs1_ := sites_ok hAB_.1 _ (at_mem (D := c.members.D) (n := (place0 c node).toNat) (by omega)); have hs2_ := sites_ok hAB_.1 _ (at_mem (D := c.members.D) (n := (IntKind.i64.wrap ((c.members.D.length : Int) - 1)).toNat) (by omega)); have hm_ := site_ok (n := masters) (by simpa using ‹(!siteOk masters) = false›); omega) (by have hAB_ := (able_ok (eq_of_bne_false h1)); have hp_ := place0_lt c node; have hl_ := check_len hAB_.1; have h6_ := check_le6 hAB_.1; have hq_ := of_decide_eq_false ‹decide (place0 c node < 0) = false›; have hw_ := wrapI ((c.members.D.length : Int) - 1); have hs1_ := sites_ok hAB_.1 _ (at_mem (D := c.members.D) (n := (place0 c node).toNat) (by omega)); have hs2_ := sites_ok hAB_.1 _ (at_mem (D := c.members.D) (n := (IntKind.i64.wrap ((c.members.D.length : Int) - 1)).toNat) (by omega)); have hm_ := site_ok (n := masters) (by simpa using ‹(!siteOk masters) = false›); omega) rfl ?_)
    refine rvP C (.pv (.lit (.int .i64 (IntKind.i64.wrap (2 * ((w from_.toNat) (c.members.D[(place0 c node).toNat]!.site).toNat)))))) ?_
    refine rvP C (.pv (.lit (.int .i64 (c.members.D[(place0 c node).toNat]!.site)))) ?_
    refine rvP C (.pv (.lit (.int .i64 masters))) ?_
    refine rvc_un (rexec_prim C (δ := { v := .ptr 7 (0 + (c.members.D[(place0 c node).toNat]!.site).toNat * 3) }) rfl rfl rfl rfl ⟨(by have hAB_ := (able_ok (eq_of_bne_false h1)); have hp_ := place0_lt c node; have hl_ := check_len hAB_.1; have h6_ := check_le6 hAB_.1; have hq_ := of_decide_eq_false ‹decide (place0 c node < 0) = false›; have hw_ := wrapI ((c.members.D.length : Int) - 1); have hs1_ := sites_ok hAB_.1 _ (at_mem (D := c.members.D) (n := (place0 c node).toNat) (by omega)); have hs2_ := sites_ok hAB_.1 _ (at_mem (D := c.members.D) (n := (IntKind.i64.wrap ((c.members.D.length : Int) - 1)).toNat) (by omega)); have hm_ := site_ok (n := masters) (by simpa using ‹(!siteOk masters) = false›); omega), (by have hAB_ := (able_ok (eq_of_bne_false h1)); have hp_ := place0_lt c node; have hl_ := check_len hAB_.1; have h6_ := check_le6 hAB_.1; have hq_ := of_decide_eq_false ‹decide (place0 c node < 0) = false›; have hw_ := wrapI ((c.members.D.length : Int) - 1); have hs1_ := sites_ok hAB_.1 _ (at_mem (D := c.members.D) (n := (place0 c node).toNat) (by omega)); have hs2_ := sites_ok hAB_.1 _ (at_mem (D := c.members.D) (n := (IntKind.i64.wrap ((c.members.D.length : Int) - 1)).toNat) (by omega)); have hm_ := site_ok (n := masters) (by simpa using ‹(!siteOk masters) = false›); omega)⟩ rfl ?_)
    refine rvc_un (rexec_prim C (δ := { v := .ptr 7 (0 + (c.members.D[(place0 c node).toNat]!.site).toNat * 3 + masters.toNat * 1) }) rfl rfl rfl rfl ⟨(by have hAB_ := (able_ok (eq_of_bne_false h1)); have hp_ := place0_lt c node; have hl_ := check_len hAB_.1; have h6_ := check_le6 hAB_.1; have hq_ := of_decide_eq_false ‹decide (place0 c node < 0) = false›; have hw_ := wrapI ((c.members.D.length : Int) - 1); have hs1_ := sites_ok hAB_.1 _ (at_mem (D := c.members.D) (n := (place0 c node).toNat) (by omega)); have hs2_ := sites_ok hAB_.1 _ (at_mem (D := c.members.D) (n := (IntKind.i64.wrap ((c.members.D.length : Int) - 1)).toNat) (by omega)); have hm_ := site_ok (n := masters) (by simpa using ‹(!siteOk masters) = false›); omega), (by have hAB_ := (able_ok (eq_of_bne_false h1)); have hp_ := place0_lt c node; have hl_ := check_len hAB_.1; have h6_ := check_le6 hAB_.1; have hq_ := of_decide_eq_false ‹decide (place0 c node < 0) = false›; have hw_ := wrapI ((c.members.D.length : Int) - 1); have hs1_ := sites_ok hAB_.1 _ (at_mem (D := c.members.D) (n := (place0 c node).toNat) (by omega)); have hs2_ := sites_ok hAB_.1 _ (at_mem (D := c.members.D) (n := (IntKind.i64.wrap ((c.members.D.length : Int) - 1)).toNat) (by omega)); have hm_ := site_ok (n := masters) (by simpa using ‹(!siteOk masters) = false›); omega)⟩ rfl ?_)
    refine rvc_un (rexec_load33 C (fun p q => .pv (.lit (.int .i64 ((w p) q)))) (c.members.D[(place0 c node).toNat]!.site).toNat masters.toNat (.pv (.lit (.int .i64 ((w (c.members.D[(place0 c node).toNat]!.site).toNat) masters.toNat)))) rfl rfl rfl rfl rfl rfl rfl (by have hAB_ := (able_ok (eq_of_bne_false h1)); have hp_ := place0_lt c node; have hl_ := check_len hAB_.1; have h6_ := check_le6 hAB_.1; have hq_ := of_decide_eq_false ‹decide (place0 c node < 0) = false›; have hw_ := wrapI ((c.members.D.length : Int) - 1); have hs1_ := sites_ok hAB_.1 _ (at_mem (D := c.members.D) (n := (place0 c node).toNat) (by omega)); have hs2_ := sites_ok hAB_.1 _ (at_mem (D := c.members.D) (n := (IntKind.i64.wrap ((c.members.D.length : Int) - 1)).toNat) (by omega)); have hm_ := site_ok (n := masters) (by simpa using ‹(!siteOk masters) = false›); omega) (by have hAB_ := (able_ok (eq_of_bne_false h1)); have hp_ := place0_lt c node; have hl_ := check_len hAB_.1; have h6_ := check_le6 hAB_.1; have hq_ := of_decide_eq_false ‹decide (place0 c node < 0) = false›; have hw_ := wrapI ((c.members.D.length : Int) - 1); have hs1_ := sites_ok hAB_.1 _ (at_mem (D := c.members.D) (n := (place0 c node).toNat) (by omega)); have hs2_ := sites_ok hAB_.1 _ (at_mem (D := c.members.D) (n := (IntKind.i64.wrap ((c.members.D.length : Int) - 1)).toNat) (by omega)); have hm_ := site_ok (n := masters) (by simpa using ‹(!siteOk masters) = false›); omega) rfl ?_)
    refine rvP C (.pv (.lit (.int .i64 (IntKind.i64.wrap (2 * ((w (c.members.D[(place0 c node).toNat]!.site).toNat) masters.toNat)))))) ?_
    refine rvP C (.pv (.lit (.int .i64 (IntKind.i64.wrap ((IntKind.i64.wrap (2 * ((w from_.toNat) (c.members.D[(place0 c node).toNat]!.site).toNat))) + (IntKind.i64.wrap (2 * ((w (c.members.D[(place0 c node).toNat]!.site).toNat) masters.toNat)))))))) ?_
    refine rvP C (.pv (.lit (.int .i64 (IntKind.i64.wrap ((IntKind.i64.wrap (2 * ((w from_.toNat) (c.members.D[(place0 c node).toNat]!.site).toNat))) + (IntKind.i64.wrap (2 * ((w (c.members.D[(place0 c node).toNat]!.site).toNat) masters.toNat)))))))) ?_
    refine rvc_nil ?_
    refine Awp.seq ?_
    refine Awp.consP C ?_
    refine rvP C (.pv (.lit (.bool tail))) ?_
    refine rvc_nil ?_
    refine Awp.cond (b := tail) rfl (fun h5 => ?_) (fun h5 => ?_)
    ·
     replace hR := of_true h5 hR
     refine Awp.regionP C ?_
     refine rvP C (.pv (.lit (.int .i64 (IntKind.i64.wrap ((IntKind.i64.wrap (2 * ((w from_.toNat) (c.members.D[(place0 c node).toNat]!.site).toNat))) + (IntKind.i64.wrap (2 * ((w (c.members.D[(place0 c node).toNat]!.site).toNat) masters.toNat)))))))) ?_
     refine rvP C (.pv (.lit (.int .i64 (c.members.D[(place0 c node).toNat]!.site)))) ?_
     refine rvP C (.ptr 6 1) ?_
     refine rvP C (sS (some c.members.nil) eMember c.members.D) ?_
     refine rvP C (.ptr 6 1) ?_
     refine rvP C (sS (some c.members.nil) eMember c.members.D) ?_
     refine rvP C (.pv (.lit (.int .i64 (c.members.D.length : Int)))) ?_
     refine rvP C (.pv (.lit (.int .i64 (IntKind.i64.wrap ((c.members.D.length : Int) - 1))))) ?_
     have h6 : c.members.D[(IntKind.i64.wrap ((c.members.D.length : Int) - 1)).toNat]? = some c.members.D[(IntKind.i64.wrap ((c.members.D.length : Int) - 1)).toNat]! := getE (by have hAB_ := (able_ok (eq_of_bne_false h1)); have hp_ := place0_lt c node; have hl_ := check_len hAB_.1; have h6_ := check_le6 hAB_.1; have hq_ := of_decide_eq_false ‹decide (place0 c node < 0) = false›; have hw_ := wrapI ((c.members.D.length : Int) - 1); have hs1_ := sites_ok hAB_.1 _ (at_mem (D := c.members.D) (n := (place0 c node).toNat) (by omega)); have hs2_ := sites_ok hAB_.1 _ (at_mem (D := c.members.D) (n := (IntKind.i64.wrap ((c.members.D.length : Int) - 1)).toNat) (by omega)); have hm_ := site_ok (n := masters) (by simpa using ‹(!siteOk masters) = false›); omega)
     refine rvc_un (rexec_idxS C rfl rfl rfl rfl rfl rfl (c.members.D[(IntKind.i64.wrap ((c.members.D.length : Int) - 1)).toNat]!) (by have hAB_ := (able_ok (eq_of_bne_false h1)); have hp_ := place0_lt c node; have hl_ := check_len hAB_.1; have h6_ := check_le6 hAB_.1; have hq_ := of_decide_eq_false ‹decide (place0 c node < 0) = false›; have hw_ := wrapI ((c.members.D.length : Int) - 1); have hs1_ := sites_ok hAB_.1 _ (at_mem (D := c.members.D) (n := (place0 c node).toNat) (by omega)); have hs2_ := sites_ok hAB_.1 _ (at_mem (D := c.members.D) (n := (IntKind.i64.wrap ((c.members.D.length : Int) - 1)).toNat) (by omega)); have hm_ := site_ok (n := masters) (by simpa using ‹(!siteOk masters) = false›); omega) h6 ?_)
     refine rvP C (.rp [.lit (.int .i64 (c.members.D[(IntKind.i64.wrap ((c.members.D.length : Int) - 1)).toNat]!.site))]) ?_
     refine rvP C (.pv (.lit (.int .i64 (c.members.D[(IntKind.i64.wrap ((c.members.D.length : Int) - 1)).toNat]!.site)))) ?_
     refine rvc_un (rexec_prim C (δ := { v := .ptr 7 (0 + (c.members.D[(place0 c node).toNat]!.site).toNat * 3) }) rfl rfl rfl rfl ⟨(by have hAB_ := (able_ok (eq_of_bne_false h1)); have hp_ := place0_lt c node; have hl_ := check_len hAB_.1; have h6_ := check_le6 hAB_.1; have hq_ := of_decide_eq_false ‹decide (place0 c node < 0) = false›; have hw_ := wrapI ((c.members.D.length : Int) - 1); have hs1_ := sites_ok hAB_.1 _ (at_mem (D := c.members.D) (n := (place0 c node).toNat) (by omega)); have hs2_ := sites_ok hAB_.1 _ (at_mem (D := c.members.D) (n := (IntKind.i64.wrap ((c.members.D.length : Int) - 1)).toNat) (by omega)); have hm_ := site_ok (n := masters) (by simpa using ‹(!siteOk masters) = false›); omega), (by have hAB_ := (able_ok (eq_of_bne_false h1)); have hp_ := place0_lt c node; have hl_ := check_len hAB_.1; have h6_ := check_le6 hAB_.1; have hq_ := of_decide_eq_false ‹decide (place0 c node < 0) = false›; have hw_ := wrapI ((c.members.D.length : Int) - 1); have hs1_ := sites_ok hAB_.1 _ (at_mem (D := c.members.D) (n := (place0 c node).toNat) (by omega)); have hs2_ := sites_ok hAB_.1 _ (at_mem (D := c.members.D) (n := (IntKind.i64.wrap ((c.members.D.length : Int) - 1)).toNat) (by omega)); have hm_ := site_ok (n := masters) (by simpa using ‹(!siteOk masters) = false›); omega)⟩ rfl ?_)
     refine rvc_un (rexec_prim C (δ := { v := .ptr 7 (0 + (c.members.D[(place0 c node).toNat]!.site).toNat * 3 + (c.members.D[(IntKind.i64.wrap ((c.members.D.length : Int) - 1)).toNat]!.site).toNat * 1) }) rfl rfl rfl rfl ⟨(by have hAB_ := (able_ok (eq_of_bne_false h1)); have hp_ := place0_lt c node; have hl_ := check_len hAB_.1; have h6_ := check_le6 hAB_.1; have hq_ := of_decide_eq_false ‹decide (place0 c node < 0) = false›; have hw_ := wrapI ((c.members.D.length : Int) - 1); have hs1_ := sites_ok hAB_.1 _ (at_mem (D := c.members.D) (n := (place0 c node).toNat) (by omega)); have hs2_ := sites_ok hAB_.1 _ (at_mem (D := c.members.D) (n := (IntKind.i64.wrap ((c.members.D.length : Int) - 1)).toNat) (by omega)); have hm_ := site_ok (n := masters) (by simpa using ‹(!siteOk masters) = false›); omega), (by have hAB_ := (able_ok (eq_of_bne_false h1)); have hp_ := place0_lt c node; have hl_ := check_len hAB_.1; have h6_ := check_le6 hAB_.1; have hq_ := of_decide_eq_false ‹decide (place0 c node < 0) = false›; have hw_ := wrapI ((c.members.D.length : Int) - 1); have hs1_ := sites_ok hAB_.1 _ (at_mem (D := c.members.D) (n := (place0 c node).toNat) (by omega)); have hs2_ := sites_ok hAB_.1 _ (at_mem (D := c.members.D) (n := (IntKind.i64.wrap ((c.members.D.length : Int) - 1)).toNat) (by omega)); have hm_ := site_ok (n := masters) (by simpa using ‹(!siteOk masters) = false›); omega)⟩ rfl ?_)
     refine rvc_un (rexec_load33 C (fun p q => .pv (.lit (.int .i64 ((w p) q)))) (c.members.D[(place0 c node).toNat]!.site).toNat (c.members.D[(IntKind.i64.wrap ((c.members.D.length : Int) - 1)).toNat]!.site).toNat (.pv (.lit (.int .i64 ((w (c.members.D[(place0 c node).toNat]!.site).toNat) (c.members.D[(IntKind.i64.wrap ((c.members.D.length : Int) - 1)).toNat]!.site).toNat)))) rfl rfl rfl rfl rfl rfl rfl (by have hAB_ := (able_ok (eq_of_bne_false h1)); have hp_ := place0_lt c node; have hl_ := check_len hAB_.1; have h6_ := check_le6 hAB_.1; have hq_ := of_decide_eq_false ‹decide (place0 c node < 0) = false›; have hw_ := wrapI ((c.members.D.length : Int) - 1); have hs1_ := sites_ok hAB_.1 _ (at_mem (D := c.members.D) (n := (place0 c node).toNat) (by omega)); have hs2_ := sites_ok hAB_.1 _ (at_mem (D := c.members.D) (n := (IntKind.i64.wrap ((c.members.D.length : Int) - 1)).toNat) (by omega)); have hm_ := site_ok (n := masters) (by simpa using ‹(!siteOk masters) = false›); omega) (by have hAB_ := (able_ok (eq_of_bne_false h1)); have hp_ := place0_lt c node; have hl_ := check_len hAB_.1; have h6_ := check_le6 hAB_.1; have hq_ := of_decide_eq_false ‹decide (place0 c node < 0) = false›; have hw_ := wrapI ((c.members.D.length : Int) - 1); have hs1_ := sites_ok hAB_.1 _ (at_mem (D := c.members.D) (n := (place0 c node).toNat) (by omega)); have hs2_ := sites_ok hAB_.1 _ (at_mem (D := c.members.D) (n := (IntKind.i64.wrap ((c.members.D.length : Int) - 1)).toNat) (by omega)); have hm_ := site_ok (n := masters) (by simpa using ‹(!siteOk masters) = false›); omega) rfl ?_)
     refine rvP C (.pv (.lit (.int .i64 (IntKind.i64.wrap (2 * ((w (c.members.D[(place0 c node).toNat]!.site).toNat) (c.members.D[(IntKind.i64.wrap ((c.members.D.length : Int) - 1)).toNat]!.site).toNat)))))) ?_
     refine rvP C (.pv (.lit (.int .i64 (IntKind.i64.wrap ((IntKind.i64.wrap ((IntKind.i64.wrap (2 * ((w from_.toNat) (c.members.D[(place0 c node).toNat]!.site).toNat))) + (IntKind.i64.wrap (2 * ((w (c.members.D[(place0 c node).toNat]!.site).toNat) masters.toNat))))) + (IntKind.i64.wrap (2 * ((w (c.members.D[(place0 c node).toNat]!.site).toNat) (c.members.D[(IntKind.i64.wrap ((c.members.D.length : Int) - 1)).toNat]!.site).toNat)))))))) ?_
     refine rvP C (.pv (.lit (.int .i64 (IntKind.i64.wrap ((IntKind.i64.wrap ((IntKind.i64.wrap (2 * ((w from_.toNat) (c.members.D[(place0 c node).toNat]!.site).toNat))) + (IntKind.i64.wrap (2 * ((w (c.members.D[(place0 c node).toNat]!.site).toNat) masters.toNat))))) + (IntKind.i64.wrap (2 * ((w (c.members.D[(place0 c node).toNat]!.site).toNat) (c.members.D[(IntKind.i64.wrap ((c.members.D.length : Int) - 1)).toNat]!.site).toNat)))))))) ?_
     refine rvc_nil ?_
     refine Awp.consP C ?_
     refine rvP C (.pv (.lit (.int .i64 (IntKind.i64.wrap ((IntKind.i64.wrap ((IntKind.i64.wrap (2 * ((w from_.toNat) (c.members.D[(place0 c node).toNat]!.site).toNat))) + (IntKind.i64.wrap (2 * ((w (c.members.D[(place0 c node).toNat]!.site).toNat) masters.toNat))))) + (IntKind.i64.wrap (2 * ((w (c.members.D[(place0 c node).toNat]!.site).toNat) (c.members.D[(IntKind.i64.wrap ((c.members.D.length : Int) - 1)).toNat]!.site).toNat)))))))) ?_
     refine rvP C (.pv (.lit (.int .i64 (IntKind.i64.wrap ((IntKind.i64.wrap ((IntKind.i64.wrap (2 * ((w from_.toNat) (c.members.D[(place0 c node).toNat]!.site).toNat))) + (IntKind.i64.wrap (2 * ((w (c.members.D[(place0 c node).toNat]!.site).toNat) masters.toNat))))) + (IntKind.i64.wrap (2 * ((w (c.members.D[(place0 c node).toNat]!.site).toNat) (c.members.D[(IntKind.i64.wrap ((c.members.D.length : Int) - 1)).toNat]!.site).toNat)))))))) ?_
     refine rvP C (.pv (.lit (.int .i64 0))) ?_
     refine rvc_nil ?_
     refine Awp.ret ?_
     subst hR
     exact ⟨.inl rfl, rfl⟩
    ·
     replace hR := of_false h5 hR
     refine Awp.skip ?_
     refine Awp.consP C ?_
     refine rvP C (.pv (.lit (.int .i64 (IntKind.i64.wrap ((IntKind.i64.wrap (2 * ((w from_.toNat) (c.members.D[(place0 c node).toNat]!.site).toNat))) + (IntKind.i64.wrap (2 * ((w (c.members.D[(place0 c node).toNat]!.site).toNat) masters.toNat)))))))) ?_
     refine rvP C (.pv (.lit (.int .i64 (IntKind.i64.wrap ((IntKind.i64.wrap (2 * ((w from_.toNat) (c.members.D[(place0 c node).toNat]!.site).toNat))) + (IntKind.i64.wrap (2 * ((w (c.members.D[(place0 c node).toNat]!.site).toNat) masters.toNat)))))))) ?_
     refine rvP C (.pv (.lit (.int .i64 0))) ?_
     refine rvc_nil ?_
     refine Awp.ret ?_
     subst hR
     exact ⟨.inl rfl, rfl⟩
end Go.Proofs.Ytihccnkegkkikaa
/- The reference: who is near, how far a write goes. No conditions. -/
namespace Go.Proofs.Ytihccnkegkkikaa
open Go.Am
end Go.Proofs.Ytihccnkegkkikaa
/- Ways in plain Lean: the code's answers are the document's. No conditions. -/
namespace Go.Proofs.Ytihccnkegkkikaa
open Go.Am
def okA (w : Nat → Nat → Int) (i j : Nat) : Bool := decide (0 ≤ w i j) && decide (w i j ≤ 1000) && (w i j == w j i) && (!(i == j) || w i j == 0)
def okB (w : Nat → Nat → Int) (i j : Nat) : Bool := decide (0 ≤ w i j) && decide (w i j ≤ 1000) && (w i j == w j i) && (w i i == 0)
theorem wayCheck_l1_eq (w : Nat → Nat → Int) (i : Nat) (kk : Int) : ∀ (k j : Nat), wayCheck_l1 w i kk k j = bif (List.range' j k).all (okA w i) then kk else 1
  | 0, _ => rfl
  | k + 1, j => by
    unfold wayCheck_l1
    rw [List.range'_succ, List.all_cons, wayCheck_l1_eq w i kk k (j + 1)]
    unfold okA
    have e1 : decide (0 ≤ w i j) = !decide (w i j < 0) := by rw [← decide_not]; exact decide_eq_decide.2 (by omega)
    have e2 : decide (w i j ≤ 1000) = !decide (w i j > 1000) := by rw [← decide_not]; exact decide_eq_decide.2 (by omega)
    have e3 : ((i : Int) == (j : Int)) = (i == j) := by rw [Bool.eq_iff_iff]; simp; omega
    rw [e1, e2, e3]
    cases decide (w i j < 0)
    case true => rfl
    cases decide (w i j > 1000)
    case true => rfl
    have e4 : (w i j != w j i) = !(w i j == w j i) := rfl
    have e5 : (w i j != 0) = !(w i j == 0) := rfl
    rw [e4, e5]
    cases w i j == w j i
    case false => rfl
    cases i == j
    case false => rfl
    cases w i j == 0 <;> rfl
theorem rWayCheck_l1_eq (w : Nat → Nat → Int) (i : Nat) (kk : Int) : ∀ (k j : Nat), rWayCheck_l1 w i kk k j = bif (List.range' j k).all (okB w i) then kk else 1
  | 0, _ => rfl
  | k + 1, j => by
    unfold rWayCheck_l1
    rw [List.range'_succ, List.all_cons, rWayCheck_l1_eq w i kk k (j + 1)]
    unfold okB
    have e1 : decide (0 ≤ w i j) = !decide (w i j < 0) := by rw [← decide_not]; exact decide_eq_decide.2 (by omega)
    have e2 : decide (w i j ≤ 1000) = !decide (w i j > 1000) := by rw [← decide_not]; exact decide_eq_decide.2 (by omega)
    rw [e1, e2]
    cases decide (w i j < 0)
    case true => rfl
    cases decide (w i j > 1000)
    case true => rfl
    have e4 : (w i j != w j i) = !(w i j == w j i) := rfl
    have e5 : (w i i != 0) = !(w i i == 0) := rfl
    rw [e4, e5]
    cases w i j == w j i
    case false => rfl
    cases w i i == 0 <;> rfl
theorem wayCheck_l0_eq (w : Nat → Nat → Int) : ∀ (k i : Nat), wayCheck_l0 w k i = bif (List.range' i k).all (fun i => (List.range' 0 3).all (okA w i)) then 0 else 1
  | 0, _ => rfl
  | k + 1, i => by
    unfold wayCheck_l0
    rw [wayCheck_l1_eq, wayCheck_l0_eq w k (i + 1), show List.range' i (k + 1) = i :: List.range' (i + 1) k from List.range'_succ .., List.all_cons]
    cases (List.range' 0 3).all (okA w i) <;> rfl
theorem rWayCheck_l0_eq (w : Nat → Nat → Int) : ∀ (k i : Nat), rWayCheck_l0 w k i = bif (List.range' i k).all (fun i => (List.range' 0 3).all (okB w i)) then 0 else 1
  | 0, _ => rfl
  | k + 1, i => by
    unfold rWayCheck_l0
    rw [rWayCheck_l1_eq, rWayCheck_l0_eq w k (i + 1), show List.range' i (k + 1) = i :: List.range' (i + 1) k from List.range'_succ .., List.all_cons]
    cases (List.range' 0 3).all (okB w i) <;> rfl
theorem all_all {p : Nat → Nat → Bool} : ((List.range' 0 3).all fun i => (List.range' 0 3).all (p i)) = true ↔ ∀ i j, i < 3 → j < 3 → p i j = true := by
  rw [List.all_eq_true]
  constructor
  · intro h i j hi hj
    exact List.all_eq_true.1 (h i (List.mem_range'_1.2 ⟨Nat.zero_le _, by omega⟩)) j (List.mem_range'_1.2 ⟨Nat.zero_le _, by omega⟩)
  · intro h i hi
    refine List.all_eq_true.2 fun j hj => h i j ?_ ?_
    · have := (List.mem_range'_1.1 hi).2; omega
    · have := (List.mem_range'_1.1 hj).2; omega
theorem okA_iff {w : Nat → Nat → Int} {i j : Nat} : okA w i j = true ↔ 0 ≤ w i j ∧ w i j ≤ 1000 ∧ w i j = w j i ∧ (i = j → w i j = 0) := by
  unfold okA
  simp only [Bool.and_eq_true, Bool.or_eq_true, decide_eq_true_eq, beq_iff_eq, Bool.not_eq_true', beq_eq_false_iff_ne]
  constructor
  · rintro ⟨⟨⟨h1, h2⟩, h3⟩, h4⟩
    exact ⟨h1, h2, h3, fun e => h4.resolve_left fun h => h e⟩
  · rintro ⟨h1, h2, h3, h4⟩
    refine ⟨⟨⟨h1, h2⟩, h3⟩, ?_⟩
    by_cases e : i = j
    · exact .inr (h4 e)
    · exact .inl e
theorem okB_iff {w : Nat → Nat → Int} {i j : Nat} : okB w i j = true ↔ 0 ≤ w i j ∧ w i j ≤ 1000 ∧ w i j = w j i ∧ w i i = 0 := by
  unfold okB
  simp only [Bool.and_eq_true, decide_eq_true_eq, beq_iff_eq]
  constructor
  · rintro ⟨⟨⟨h1, h2⟩, h3⟩, h4⟩; exact ⟨h1, h2, h3, h4⟩
  · rintro ⟨h1, h2, h3, h4⟩; exact ⟨⟨⟨h1, h2⟩, h3⟩, h4⟩
/-- What ways are. -/
def Ways (w : Nat → Nat → Int) : Prop := ∀ i j, i < 3 → j < 3 → 0 ≤ w i j ∧ w i j ≤ 1000 ∧ w i j = w j i ∧ w i i = 0
theorem wayCheck_iff (w : Nat → Nat → Int) : (wayCheck w = 0 ↔ Ways w) ∧ (wayCheck w = 0 ∨ wayCheck w = 1) := by
  unfold wayCheck
  rw [wayCheck_l0_eq]
  cases h : (List.range' 0 3).all fun i => (List.range' 0 3).all (okA w i)
  · refine ⟨⟨fun h => (by cases h), fun hw => ?_⟩, .inr rfl⟩
    have := all_all.2 fun i j hi hj => okA_iff.2 ⟨(hw i j hi hj).1, (hw i j hi hj).2.1, (hw i j hi hj).2.2.1, fun e => by subst e; exact (hw i i hi hi).2.2.2⟩
    rw [h] at this; cases this
  · refine ⟨⟨fun _ i j hi hj => ?_, fun _ => rfl⟩, .inl rfl⟩
    have h1 := okA_iff.1 (all_all.1 h i j hi hj)
    exact ⟨h1.1, h1.2.1, h1.2.2.1, (okA_iff.1 (all_all.1 h i i hi hi)).2.2.2 rfl⟩
theorem rWayCheck_iff (w : Nat → Nat → Int) : (rWayCheck w = 0 ↔ Ways w) ∧ (rWayCheck w = 0 ∨ rWayCheck w = 1) := by
  unfold rWayCheck
  rw [rWayCheck_l0_eq]
  cases h : (List.range' 0 3).all fun i => (List.range' 0 3).all (okB w i)
  · refine ⟨⟨fun h => (by cases h), fun hw => ?_⟩, .inr rfl⟩
    have := all_all.2 fun i j hi hj => okB_iff.2 (hw i j hi hj)
    rw [h] at this; cases this
  · exact ⟨⟨fun _ i j hi hj => okB_iff.1 (all_all.1 h i j hi hj), fun _ => rfl⟩, .inl rfl⟩
theorem way_eq (w : Nat → Nat → Int) : rWayCheck w = wayCheck w := by
  obtain ⟨h1, h2⟩ := wayCheck_iff w
  obtain ⟨h3, h4⟩ := rWayCheck_iff w
  rcases h2 with e | e
  · rw [e]; exact h3.2 (h1.1 e)
  · rcases h4 with f | f
    · have := h1.2 (h3.1 f); rw [e] at this; cases this
    · rw [e, f]
theorem able_eq (c : Chain) (w : Nat → Nat → Int) (f : Int) : able c w f = rMay c w f := by
  unfold able rMay
  rw [← check_eq, way_eq]
  cases hc : check c != 0
  · cases wayCheck w != 0
    · unfold siteOk
      have e1 : decide (f ≥ 0) = !decide (f < 0) := by rw [← decide_not]; exact decide_eq_decide.2 (by omega)
      have e2 : decide (f < 3) = !decide (f > 2) := by rw [← decide_not]; exact decide_eq_decide.2 (by omega)
      rw [e1, e2]
      cases decide (f < 0) <;> cases decide (f > 2) <;> rfl
    · rfl
  · rw [cond_true, cond_true, check_bad hc]
theorem way_at {w : Nat → Nat → Int} (hw : Ways w) {f s : Int} (hf : 0 ≤ f ∧ f < 3) (hs : 0 ≤ s ∧ s < 3) : 0 ≤ w f.toNat s.toNat ∧ w f.toNat s.toNat ≤ 1000 := by
  have := hw f.toNat s.toNat (by omega) (by omega)
  exact ⟨this.1, this.2.1⟩
theorem near_l0_eq : ∀ (l : List Member) (i : Nat) (out : List Int), near_l0 l i out = (⟨(out ++ l.map (·.node)).isEmpty, out ++ l.map (·.node)⟩, 0)
  | [], _, out => by rw [List.map_nil, List.append_nil]; rfl
  | x :: l, i, out => by
    unfold near_l0
    rw [near_l0_eq l, List.append_assoc]; rfl
theorem near_len (c : Chain) (w : Nat → Nat → Int) (f : Int) : (near c w f).1.D.length ≤ 6 := by
  unfold near
  cases ha : able c w f != 0
  case true => exact Nat.zero_le _
  obtain ⟨hc, _, _⟩ := able_ok (eq_of_bne_false ha)
  have h6 := check_le6 hc
  rw [cond_false, near_l0_eq]
  show (([] : List Int) ++ _).length ≤ 6
  rw [List.nil_append, List.length_map, sortSF_len _ _ (by omega)]
  exact h6
end Go.Proofs.Ytihccnkegkkikaa
/- The example. No conditions. -/
namespace Go.Proofs.Ytihccnkegkkikaa
open Go.Am
def awake  : Bool :=
  (bif ((writeW (Chain.mk 1 (Sl.mk false [(Member.mk 0 0 false), (Member.mk 1 1 false)])) (ofL [(ofL [0, 5, 9]), (ofL [5, 0, 9]), (ofL [9, 9, 0])]) 0).1 == 10) then (bif ((writeW (Chain.mk 1 (Sl.mk false [(Member.mk 0 0 false), (Member.mk 1 1 false)])) (ofL [(ofL [0, 5, 9]), (ofL [5, 0, 9]), (ofL [9, 9, 0])]) 0).2 == 0) then (bif ((readW (Chain.mk 1 (Sl.mk false [(Member.mk 0 0 false), (Member.mk 1 1 false)])) (ofL [(ofL [0, 5, 9]), (ofL [5, 0, 9]), (ofL [9, 9, 0])]) 1 1 false 0).1 == 10) then (bif ((readW (Chain.mk 1 (Sl.mk false [(Member.mk 0 0 false), (Member.mk 1 1 false)])) (ofL [(ofL [0, 5, 9]), (ofL [5, 0, 9]), (ofL [9, 9, 0])]) 1 1 false 0).2 == 0) then (bif (eqInts (near (Chain.mk 1 (Sl.mk false [(Member.mk 0 0 false), (Member.mk 1 1 false)])) (ofL [(ofL [0, 5, 9]), (ofL [5, 0, 9]), (ofL [9, 9, 0])]) 1).1 (Sl.mk false [1, 0])) then (bif ((near (Chain.mk 1 (Sl.mk false [(Member.mk 0 0 false), (Member.mk 1 1 false)])) (ofL [(ofL [0, 5, 9]), (ofL [5, 0, 9]), (ofL [9, 9, 0])]) 1).2 == 0) then ((wayCheck (ofL [(ofL [0, 4, 9]), (ofL [5, 0, 9]), (ofL [9, 9, 0])])) == 1) else false) else false) else false) else false) else false) else false)
theorem awake_calls   : PCalls Try.prog 11 [] (.pv (.lit (.bool (awake )))) := by
 generalize hR : awake  = R
 refine PCalls.of_body tabOk Try.func11 rfl rfl rfl rfl rfl mixed fun E hP C hI => ?_
 refine Awp.consP C ?_
 refine rvP C (.pv (.lit (.bool false))) ?_
 refine rvc_nil ?_
 refine Awp.consP C ?_
 refine rvP C (.agg [.pv (.lit (.int .i64 0)), .pv (.lit (.int .i64 5)), .pv (.lit (.int .i64 9))]) ?_
 refine rvP C (.agg [.pv (.lit (.int .i64 5)), .pv (.lit (.int .i64 0)), .pv (.lit (.int .i64 9))]) ?_
 refine rvP C (.agg [.pv (.lit (.int .i64 9)), .pv (.lit (.int .i64 9)), .pv (.lit (.int .i64 0))]) ?_
 refine rvP C (.agg [.pv (.lit (.int .i64 0)), .pv (.lit (.int .i64 5)), .pv (.lit (.int .i64 9)), .pv (.lit (.int .i64 5)), .pv (.lit (.int .i64 0)), .pv (.lit (.int .i64 9)), .pv (.lit (.int .i64 9)), .pv (.lit (.int .i64 9)), .pv (.lit (.int .i64 0))]) ?_
 refine rvc_un (rexec_prim C (δ := { v := .ptr 1 0, new := [(1, .cells [.pv (.lit (.int .i64 0)), .pv (.lit (.int .i64 0)), .pv (.lit (.int .i64 0)), .pv (.lit (.int .i64 0)), .pv (.lit (.int .i64 0)), .pv (.lit (.int .i64 0)), .pv (.lit (.int .i64 0)), .pv (.lit (.int .i64 0)), .pv (.lit (.int .i64 0))])] }) rfl rfl rfl rfl trivial rfl ?_)
 refine rvc_un (rexec_prim C (δ := { v := .undef, wr := [(1, some (.cells [.pv (.lit (.int .i64 0)), .pv (.lit (.int .i64 5)), .pv (.lit (.int .i64 9)), .pv (.lit (.int .i64 5)), .pv (.lit (.int .i64 0)), .pv (.lit (.int .i64 9)), .pv (.lit (.int .i64 9)), .pv (.lit (.int .i64 9)), .pv (.lit (.int .i64 0))]))] }) rfl rfl rfl rfl trivial rfl ?_)
 refine rvc_nil ?_
 refine Awp.consP C ?_
 refine rvP C (.agg [.pv (.lit (.int .i64 0)), .pv (.lit (.int .i64 0)), .pv (.lit (.bool false))]) ?_
 refine rvP C (.agg [.pv (.lit (.int .i64 1)), .pv (.lit (.int .i64 1)), .pv (.lit (.bool false))]) ?_
 refine rvc_un (rexec_buildSliceF C eMember [(Member.mk 0 0 false), (Member.mk 1 1 false)] rfl rfl rfl rfl rfl rfl rfl (by decide) rfl ?_)
 refine rvP C (.agg [.pv (.lit (.int .i64 1)), sS (some false) eMember [(Member.mk 0 0 false), (Member.mk 1 1 false)]]) ?_
 refine rvc_un (rexec_prim C (δ := { v := .ptr 2 0, new := [(2, .cells [.pv (.lit (.int .i64 0)), sS (some true) eMember []])] }) rfl rfl rfl rfl trivial rfl ?_)
 refine rvc_un (rexec_prim C (δ := { v := .undef, wr := [(2, some (.cells [.pv (.lit (.int .i64 1)), sS (some false) eMember [(Member.mk 0 0 false), (Member.mk 1 1 false)]]))] }) rfl rfl rfl rfl trivial rfl ?_)
 refine rvc_nil ?_
 refine Awp.consP C ?_
 refine rvP C (.agg [.pv (.lit (.int .i64 1)), sS (some false) eMember [(Member.mk 0 0 false), (Member.mk 1 1 false)]]) ?_
 refine rvP C (.agg [.pv (.lit (.int .i64 0)), .pv (.lit (.int .i64 5)), .pv (.lit (.int .i64 9)), .pv (.lit (.int .i64 5)), .pv (.lit (.int .i64 0)), .pv (.lit (.int .i64 9)), .pv (.lit (.int .i64 9)), .pv (.lit (.int .i64 9)), .pv (.lit (.int .i64 0))]) ?_
 obtain ⟨wr, hq_wr⟩ : ∃ q_, q_ = (writeW (Chain.mk 1 (Sl.mk false [(Member.mk 0 0 false), (Member.mk 1 1 false)])) (ofL [(ofL [0, 5, 9]), (ofL [5, 0, 9]), (ofL [9, 9, 0])]) 0) := ⟨_, rfl⟩
 have hc_wr := (writeW_calls (Chain.mk 1 (Sl.mk false [(Member.mk 0 0 false), (Member.mk 1 1 false)])) (ofL [(ofL [0, 5, 9]), (ofL [5, 0, 9]), (ofL [9, 9, 0])]) 0 (of_decide_eq_true (by kernel_rfl)))
 first | rw [← hq_wr] at hR hc_wr | (unfold awake at hR; rw [← hq_wr] at hR hc_wr)
 refine rvc_un (rexec_call hP C rfl rfl rfl hc_wr ?_)
 refine rvP C (.tup [.pv (.lit (.int .i64 wr.1)), .pv (.lit (.int .i64 wr.2))]) ?_
 refine rvP C (.pv (.lit (.int .i64 wr.1))) ?_
 refine rvP C (.pv (.lit (.int .i64 wr.2))) ?_
 refine rvP C (.pv (.lit (.int .i64 wr.1))) ?_
 refine rvP C (.pv (.lit (.int .i64 wr.2))) ?_
 refine rvc_nil ?_
 refine Awp.consP C ?_
 refine rvP C (.agg [.pv (.lit (.int .i64 1)), sS (some false) eMember [(Member.mk 0 0 false), (Member.mk 1 1 false)]]) ?_
 refine rvP C (.agg [.pv (.lit (.int .i64 0)), .pv (.lit (.int .i64 5)), .pv (.lit (.int .i64 9)), .pv (.lit (.int .i64 5)), .pv (.lit (.int .i64 0)), .pv (.lit (.int .i64 9)), .pv (.lit (.int .i64 9)), .pv (.lit (.int .i64 9)), .pv (.lit (.int .i64 0))]) ?_
 obtain ⟨rd, hq_rd⟩ : ∃ q_, q_ = (readW (Chain.mk 1 (Sl.mk false [(Member.mk 0 0 false), (Member.mk 1 1 false)])) (ofL [(ofL [0, 5, 9]), (ofL [5, 0, 9]), (ofL [9, 9, 0])]) 1 1 false 0) := ⟨_, rfl⟩
 have hc_rd := (readW_calls (Chain.mk 1 (Sl.mk false [(Member.mk 0 0 false), (Member.mk 1 1 false)])) (ofL [(ofL [0, 5, 9]), (ofL [5, 0, 9]), (ofL [9, 9, 0])]) 1 1 false 0 (of_decide_eq_true (by kernel_rfl)))
 first | rw [← hq_rd] at hR hc_rd | (unfold awake at hR; rw [← hq_rd] at hR hc_rd)
 refine rvc_un (rexec_call hP C rfl rfl rfl hc_rd ?_)
 refine rvP C (.tup [.pv (.lit (.int .i64 rd.1)), .pv (.lit (.int .i64 rd.2))]) ?_
 refine rvP C (.pv (.lit (.int .i64 rd.1))) ?_
 refine rvP C (.pv (.lit (.int .i64 rd.2))) ?_
 refine rvP C (.pv (.lit (.int .i64 rd.1))) ?_
 refine rvP C (.pv (.lit (.int .i64 rd.2))) ?_
 refine rvc_nil ?_
 refine Awp.consP C ?_
 refine rvP C (.agg [.pv (.lit (.int .i64 1)), sS (some false) eMember [(Member.mk 0 0 false), (Member.mk 1 1 false)]]) ?_
 refine rvP C (.agg [.pv (.lit (.int .i64 0)), .pv (.lit (.int .i64 5)), .pv (.lit (.int .i64 9)), .pv (.lit (.int .i64 5)), .pv (.lit (.int .i64 0)), .pv (.lit (.int .i64 9)), .pv (.lit (.int .i64 9)), .pv (.lit (.int .i64 9)), .pv (.lit (.int .i64 0))]) ?_
 obtain ⟨nr, hq_nr⟩ : ∃ q_, q_ = (near (Chain.mk 1 (Sl.mk false [(Member.mk 0 0 false), (Member.mk 1 1 false)])) (ofL [(ofL [0, 5, 9]), (ofL [5, 0, 9]), (ofL [9, 9, 0])]) 1) := ⟨_, rfl⟩
 have hc_nr := (near_calls (Chain.mk 1 (Sl.mk false [(Member.mk 0 0 false), (Member.mk 1 1 false)])) (ofL [(ofL [0, 5, 9]), (ofL [5, 0, 9]), (ofL [9, 9, 0])]) 1 (fun h => absurd (h.symm.trans (by kernel_rfl : _ = false)) Bool.noConfusion) (of_decide_eq_true (by kernel_rfl)))
 first | rw [← hq_nr] at hR hc_nr | (unfold awake at hR; rw [← hq_nr] at hR hc_nr)
 have hf0_nr := near_len (Chain.mk 1 (Sl.mk false [(Member.mk 0 0 false), (Member.mk 1 1 false)])) (ofL [(ofL [0, 5, 9]), (ofL [5, 0, 9]), (ofL [9, 9, 0])]) 1
 rw [← hq_nr] at hf0_nr
 refine rvc_un (rexec_call hP C rfl rfl rfl hc_nr ?_)
 refine rvP C (.tup [sS (some nr.1.nil) (eI .i64) nr.1.D, .pv (.lit (.int .i64 nr.2))]) ?_
 refine rvP C (sS (some nr.1.nil) (eI .i64) nr.1.D) ?_
 refine rvP C (.pv (.lit (.int .i64 nr.2))) ?_
 refine rvP C (sS (some nr.1.nil) (eI .i64) nr.1.D) ?_
 refine rvP C (.pv (.lit (.int .i64 nr.2))) ?_
 refine rvc_nil ?_
 refine Awp.consP C ?_
 refine rvc_un (rexec_prim C (δ := { v := .ptr 1 0 }) rfl rfl rfl rfl (by decide) rfl ?_)
 refine rvc_un (rexec_prim C (δ := { v := .ptr 1 1 }) rfl rfl rfl rfl (by decide) rfl ?_)
 refine rvc_un (rexec_prim C (δ := { v := .undef, wr := [(1, some (.cells [.pv (.lit (.int .i64 0)), .pv (.lit (.int .i64 4)), .pv (.lit (.int .i64 9)), .pv (.lit (.int .i64 5)), .pv (.lit (.int .i64 0)), .pv (.lit (.int .i64 9)), .pv (.lit (.int .i64 9)), .pv (.lit (.int .i64 9)), .pv (.lit (.int .i64 0))]))] }) rfl rfl rfl rfl trivial rfl ?_)
 refine rvc_nil ?_
 refine Awp.consP C ?_
 refine rvP C (.pv (.lit (.int .i64 wr.1))) ?_
 refine rvP C (.pv (.lit (.bool (wr.1 == 10)))) ?_
 refine rvP C (.pv (.lit (.bool (wr.1 == 10)))) ?_
 refine rvc_case 39 (wr.1 == 10) rfl (fun h1 => ?_) (fun h1 => ?_)
 ·
  replace hR := of_true h1 hR
  refine rvO C (.pv (.lit (.int .i64 wr.2))) ?_
  refine rvO C (.pv (.lit (.bool (wr.2 == 0)))) ?_
  refine rvP C (.pv (.lit (.bool (wr.2 == 0)))) ?_
  refine rvP C (.pv (.lit (.bool (wr.2 == 0)))) ?_
  refine rvc_case 43 (wr.2 == 0) rfl (fun h2 => ?_) (fun h2 => ?_)
  ·
   replace hR := of_true h2 hR
   refine rvO C (.pv (.lit (.int .i64 rd.1))) ?_
   refine rvO C (.pv (.lit (.bool (rd.1 == 10)))) ?_
   refine rvP C (.pv (.lit (.bool (rd.1 == 10)))) ?_
   refine rvP C (.pv (.lit (.bool (rd.1 == 10)))) ?_
   refine rvc_case 47 (rd.1 == 10) rfl (fun h3 => ?_) (fun h3 => ?_)
   ·
    replace hR := of_true h3 hR
    refine rvO C (.pv (.lit (.int .i64 rd.2))) ?_
    refine rvO C (.pv (.lit (.bool (rd.2 == 0)))) ?_
    refine rvP C (.pv (.lit (.bool (rd.2 == 0)))) ?_
    refine rvP C (.pv (.lit (.bool (rd.2 == 0)))) ?_
    refine rvc_case 51 (rd.2 == 0) rfl (fun h4 => ?_) (fun h4 => ?_)
    ·
     replace hR := of_true h4 hR
     refine rvO C (sS (some nr.1.nil) (eI .i64) nr.1.D) ?_
     refine rvc_open rfl rfl rfl (rexec_buildSliceF C (eI .i64) [1, 0] rfl rfl rfl rfl rfl rfl rfl (by decide) rfl ?_)
     obtain ⟨ec, hq_ec⟩ : ∃ q_, q_ = (eqInts nr.1 (Sl.mk false [1, 0])) := ⟨_, rfl⟩
     have hc_ec := (eqInts_calls nr.1 (Sl.mk false [1, 0]) (by first | omega | decide))
     first | rw [← hq_ec] at hR hc_ec | (unfold awake at hR; rw [← hq_ec] at hR hc_ec)
     refine rvc_open rfl rfl rfl (rexec_call hP C rfl rfl rfl hc_ec ?_)
     refine rvP C (.pv (.lit (.bool ec))) ?_
     refine rvP C (.pv (.lit (.bool ec))) ?_
     refine rvc_case 56 ec rfl (fun h5 => ?_) (fun h5 => ?_)
     ·
      replace hR := of_true h5 hR
      refine rvO C (.pv (.lit (.int .i64 nr.2))) ?_
      refine rvO C (.pv (.lit (.bool (nr.2 == 0)))) ?_
      refine rvP C (.pv (.lit (.bool (nr.2 == 0)))) ?_
      refine rvP C (.pv (.lit (.bool (nr.2 == 0)))) ?_
      refine rvc_case 60 (nr.2 == 0) rfl (fun h6 => ?_) (fun h6 => ?_)
      ·
       replace hR := of_true h6 hR
       refine rvO C (.agg [.pv (.lit (.int .i64 0)), .pv (.lit (.int .i64 4)), .pv (.lit (.int .i64 9)), .pv (.lit (.int .i64 5)), .pv (.lit (.int .i64 0)), .pv (.lit (.int .i64 9)), .pv (.lit (.int .i64 9)), .pv (.lit (.int .i64 9)), .pv (.lit (.int .i64 0))]) ?_
       obtain ⟨ck, hq_ck⟩ : ∃ q_, q_ = (wayCheck (ofL [(ofL [0, 4, 9]), (ofL [5, 0, 9]), (ofL [9, 9, 0])])) := ⟨_, rfl⟩
       have hc_ck := (wayCheck_calls (ofL [(ofL [0, 4, 9]), (ofL [5, 0, 9]), (ofL [9, 9, 0])]))
       first | rw [← hq_ck] at hR hc_ck | (unfold awake at hR; rw [← hq_ck] at hR hc_ck)
       refine rvc_open rfl rfl rfl (rexec_call hP C rfl rfl rfl hc_ck ?_)
       refine rvO C (.pv (.lit (.bool (ck == 1)))) ?_
       refine rvP C (.pv (.lit (.bool (ck == 1)))) ?_
       refine rvP C (.pv (.lit (.bool (ck == 1)))) ?_
       refine rvc_nil ?_
       refine Awp.ret ?_
       subst hR
       exact ⟨.inl rfl, rfl⟩
      ·
       replace hR := of_false h6 hR
       refine rvS ?_
       refine rvS ?_
       refine rvS ?_
       refine rvP C (.pv (.lit (.bool false))) ?_
       refine rvP C (.pv (.lit (.bool false))) ?_
       refine rvc_nil ?_
       refine Awp.ret ?_
       subst hR
       exact ⟨.inl rfl, rfl⟩
     ·
      replace hR := of_false h5 hR
      refine rvS ?_
      refine rvS ?_
      refine rvP C (.pv (.lit (.bool false))) ?_
      refine rvP C (.pv (.lit (.bool false))) ?_
      refine rvS ?_
      refine rvS ?_
      refine rvS ?_
      refine rvP C (.pv (.lit (.bool false))) ?_
      refine rvP C (.pv (.lit (.bool false))) ?_
      refine rvc_nil ?_
      refine Awp.ret ?_
      subst hR
      exact ⟨.inl rfl, rfl⟩
    ·
     replace hR := of_false h4 hR
     refine rvS ?_
     refine rvS ?_
     refine rvS ?_
     refine rvP C (.pv (.lit (.bool false))) ?_
     refine rvP C (.pv (.lit (.bool false))) ?_
     refine rvS ?_
     refine rvS ?_
     refine rvP C (.pv (.lit (.bool false))) ?_
     refine rvP C (.pv (.lit (.bool false))) ?_
     refine rvS ?_
     refine rvS ?_
     refine rvS ?_
     refine rvP C (.pv (.lit (.bool false))) ?_
     refine rvP C (.pv (.lit (.bool false))) ?_
     refine rvc_nil ?_
     refine Awp.ret ?_
     subst hR
     exact ⟨.inl rfl, rfl⟩
   ·
    replace hR := of_false h3 hR
    refine rvS ?_
    refine rvS ?_
    refine rvP C (.pv (.lit (.bool false))) ?_
    refine rvP C (.pv (.lit (.bool false))) ?_
    refine rvS ?_
    refine rvS ?_
    refine rvS ?_
    refine rvP C (.pv (.lit (.bool false))) ?_
    refine rvP C (.pv (.lit (.bool false))) ?_
    refine rvS ?_
    refine rvS ?_
    refine rvP C (.pv (.lit (.bool false))) ?_
    refine rvP C (.pv (.lit (.bool false))) ?_
    refine rvS ?_
    refine rvS ?_
    refine rvS ?_
    refine rvP C (.pv (.lit (.bool false))) ?_
    refine rvP C (.pv (.lit (.bool false))) ?_
    refine rvc_nil ?_
    refine Awp.ret ?_
    subst hR
    exact ⟨.inl rfl, rfl⟩
  ·
   replace hR := of_false h2 hR
   refine rvS ?_
   refine rvS ?_
   refine rvP C (.pv (.lit (.bool false))) ?_
   refine rvP C (.pv (.lit (.bool false))) ?_
   refine rvS ?_
   refine rvS ?_
   refine rvP C (.pv (.lit (.bool false))) ?_
   refine rvP C (.pv (.lit (.bool false))) ?_
   refine rvS ?_
   refine rvS ?_
   refine rvS ?_
   refine rvP C (.pv (.lit (.bool false))) ?_
   refine rvP C (.pv (.lit (.bool false))) ?_
   refine rvS ?_
   refine rvS ?_
   refine rvP C (.pv (.lit (.bool false))) ?_
   refine rvP C (.pv (.lit (.bool false))) ?_
   refine rvS ?_
   refine rvS ?_
   refine rvS ?_
   refine rvP C (.pv (.lit (.bool false))) ?_
   refine rvP C (.pv (.lit (.bool false))) ?_
   refine rvc_nil ?_
   refine Awp.ret ?_
   subst hR
   exact ⟨.inl rfl, rfl⟩
 ·
  replace hR := of_false h1 hR
  refine rvS ?_
  refine rvS ?_
  refine rvP C (.pv (.lit (.bool false))) ?_
  refine rvP C (.pv (.lit (.bool false))) ?_
  refine rvS ?_
  refine rvS ?_
  refine rvP C (.pv (.lit (.bool false))) ?_
  refine rvP C (.pv (.lit (.bool false))) ?_
  refine rvS ?_
  refine rvS ?_
  refine rvP C (.pv (.lit (.bool false))) ?_
  refine rvP C (.pv (.lit (.bool false))) ?_
  refine rvS ?_
  refine rvS ?_
  refine rvS ?_
  refine rvP C (.pv (.lit (.bool false))) ?_
  refine rvP C (.pv (.lit (.bool false))) ?_
  refine rvS ?_
  refine rvS ?_
  refine rvP C (.pv (.lit (.bool false))) ?_
  refine rvP C (.pv (.lit (.bool false))) ?_
  refine rvS ?_
  refine rvS ?_
  refine rvS ?_
  refine rvP C (.pv (.lit (.bool false))) ?_
  refine rvP C (.pv (.lit (.bool false))) ?_
  refine rvc_nil ?_
  refine Awp.ret ?_
  subst hR
  exact ⟨.inl rfl, rfl⟩
end Go.Proofs.Ytihccnkegkkikaa
/- Laws. No conditions. -/
namespace Go.Proofs.Ytihccnkegkkikaa
open Go.Am
end Go.Proofs.Ytihccnkegkkikaa
/- Direct ways in plain Lean. No conditions. -/
namespace Go.Proofs.Ytihccnkegkkikaa
open Go.Am
def putC (m : Nat → Nat → Int) (i j : Nat) (x : Int) : Nat → Nat → Int := fun p q => if p = i ∧ q = j then x else m p q
/-- Three sites' ways. -/
structure Three (m : Nat → Nat → Int) (a b c : Int) : Prop where
  h00 : m 0 0 = 0
  h11 : m 1 1 = 0
  h22 : m 2 2 = 0
  h01 : m 0 1 = a
  h10 : m 1 0 = a
  h02 : m 0 2 = b
  h20 : m 2 0 = b
  h12 : m 1 2 = c
  h21 : m 2 1 = c
def rf (w : Nat → Nat → Int) (i j k : Nat) (m : Nat → Nat → Int) : Nat → Nat → Int := putC m i j (min (w i k + w k j) (m i j))
end Go.Proofs.Ytihccnkegkkikaa
/- Laws of chapter 13 in plain Lean: their models answer true. No conditions. -/
namespace Go.Proofs.Ytihccnkegkkikaa
open Go.Am
theorem awake_true : awake = true := by kernel_rfl
def pathS (w : Nat → Nat → Int) : List Member → Int
  | [] => 0
  | [_] => 0
  | x :: y :: l => w x.site.toNat y.site.toNat + pathS w (y :: l)
theorem path_le {w : Nat → Nat → Int} (hW : Ways w) : ∀ l : List Member, (∀ x ∈ l, 0 ≤ x.site ∧ x.site < 3) → 0 ≤ pathS w l ∧ pathS w l ≤ l.length * 1000
  | [], _ => ⟨Int.le_refl _, Int.le_refl _⟩
  | [_], _ => ⟨Int.le_refl _, by simp [pathS]⟩
  | x :: y :: l, h => by
    have ih := path_le hW (y :: l) fun z hz => h z (List.mem_cons_of_mem _ hz)
    have := way_at hW (h x (List.mem_cons_self ..)) (h y (List.mem_cons_of_mem _ (List.mem_cons_self ..)))
    unfold pathS
    rw [List.length_cons, List.length_cons] at *
    omega
theorem down_l0_eq (c : Chain) {w : Nat → Nat → Int} (hW : Ways w) (hs : ∀ x ∈ c.members.D, 0 ≤ x.site ∧ x.site < 3) (h6 : c.members.D.length ≤ 6) : ∀ (l : List Member) (i : Nat) (n : Int) (x : Member), c.members.D.drop i = x :: l → 0 ≤ n ∧ n ≤ i * 1000 → down_l0 c w l i n = n + pathS w (x :: l)
  | [], i, n, x, _, _ => by unfold down_l0 pathS; omega
  | y :: l, i, n, x, hd, hn => by
    have hi : i < c.members.D.length := by
      apply Classical.byContradiction; intro h
      rw [List.drop_of_length_le (by omega)] at hd; cases hd
    have hx : c.members.D[(i : Int).toNat]! = x := by
      rw [Int.toNat_natCast, getElem!_pos c.members.D i hi]
      rw [List.drop_eq_getElem_cons hi] at hd
      exact (List.cons.inj hd).1
    have hd2 : c.members.D.drop (i + 1) = y :: l := by
      rw [List.drop_eq_getElem_cons hi] at hd
      exact (List.cons.inj hd).2
    have hxm : x ∈ c.members.D := List.mem_of_mem_drop (by rw [hd]; exact List.mem_cons_self ..)
    have hym : y ∈ c.members.D := List.mem_of_mem_drop (by rw [hd]; exact List.mem_cons_of_mem _ (List.mem_cons_self ..))
    have hb := way_at hW (hs x hxm) (hs y hym)
    unfold down_l0
    rw [hx, wrapI _ (by omega), down_l0_eq c hW hs h6 l (i + 1) _ y hd2 (by omega)]
    show _ = n + (w x.site.toNat y.site.toNat + pathS w (y :: l))
    omega
theorem cost_l0_eq (s : Sl Member) {w : Nat → Nat → Int} (hW : Ways w) (hs : ∀ x ∈ s.D, 0 ≤ x.site ∧ x.site < 3) (h6 : s.D.length ≤ 6) : ∀ (l : List Member) (i : Nat) (n : Int) (x : Member), s.D.drop i = x :: l → 0 ≤ n ∧ n ≤ 2000 + i * 2000 → cost_l0 s w l (i + 1) n = n + 2 * pathS w (x :: l)
  | [], i, n, x, _, _ => by unfold cost_l0 pathS; omega
  | y :: l, i, n, x, hd, hn => by
    have hi : i < s.D.length := by
      apply Classical.byContradiction; intro h
      rw [List.drop_of_length_le (by omega)] at hd; cases hd
    have hx : s.D[(IntKind.i64.wrap (((i + 1 : Nat) : Int) - 1)).toNat]! = x := by
      rw [wrapI _ (by omega), show ((((i + 1 : Nat) : Int) - 1)).toNat = i by omega, getElem!_pos s.D i hi]
      rw [List.drop_eq_getElem_cons hi] at hd
      exact (List.cons.inj hd).1
    have hd2 : s.D.drop (i + 1) = y :: l := by
      rw [List.drop_eq_getElem_cons hi] at hd
      exact (List.cons.inj hd).2
    have hxm : x ∈ s.D := List.mem_of_mem_drop (by rw [hd]; exact List.mem_cons_self ..)
    have hym : y ∈ s.D := List.mem_of_mem_drop (by rw [hd]; exact List.mem_cons_of_mem _ (List.mem_cons_self ..))
    have hb := way_at hW (hs x hxm) (hs y hym)
    unfold cost_l0
    rw [hx, decide_eq_true (by omega), cond_true, wrapI (2 * _) (by omega), wrapI _ (by omega), cost_l0_eq s hW hs h6 l (i + 1) _ y hd2 (by omega)]
    show _ = n + 2 * (w x.site.toNat y.site.toNat + pathS w (y :: l))
    omega
theorem down_eq {c : Chain} {w : Nat → Nat → Int} (hW : Ways w) (hs : ∀ x ∈ c.members.D, 0 ≤ x.site ∧ x.site < 3) (h6 : c.members.D.length ≤ 6) (hl : 0 < c.members.D.length) : down c w = pathS w c.members.D := by
  unfold down
  cases hD : c.members.D with
  | nil => rw [hD] at hl; exact absurd hl (by simp)
  | cons x l =>
    rw [List.drop_succ_cons, List.drop_zero, down_l0_eq c hW hs h6 l 0 0 x (by rw [hD]; rfl) (by omega)]
    omega
theorem cost_eq {s : Sl Member} {w : Nat → Nat → Int} {f : Int} (hW : Ways w) (hf : 0 ≤ f ∧ f < 3) (hs : ∀ x ∈ s.D, 0 ≤ x.site ∧ x.site < 3) (h6 : s.D.length ≤ 6) (hl : 0 < s.D.length) : cost s w f = (2 : Int) * w f.toNat (s.D[0]!).site.toNat + (2 : Int) * pathS w s.D := by
  unfold cost
  have hb := way_at hW hf (hs _ (at_mem (D := s.D) (n := 0) hl))
  have hvb : 0 ≤ (2 : Int) * w f.toNat (s.D[0]!).site.toNat ∧ (2 : Int) * w f.toNat (s.D[0]!).site.toNat ≤ 2000 := by omega
  rw [wrapI _ (by omega)]
  revert hvb
  generalize (2 : Int) * w f.toNat (s.D[0]!).site.toNat = v
  intro hvb
  cases hD : s.D with
  | nil => rw [hD] at hl; exact absurd hl (by simp)
  | cons x l =>
    unfold cost_l0
    rw [decide_eq_false (by omega), cond_false]
    exact cost_l0_eq s hW hs h6 l 0 v x (by rw [hD]; rfl) (by omega)
end Go.Proofs.Ytihccnkegkkikaa
/- A place that is cut to a chain's places; near ones that are told. No conditions. -/
namespace Go.Proofs.Ytihccnkegkkikaa
open Go.Am
end Go.Proofs.Ytihccnkegkkikaa
/- Law: each node once. No conditions. -/
namespace Go.Proofs.Ytihccnkegkkikaa
open Go.Am
end Go.Proofs.Ytihccnkegkkikaa
/- The law RouteEach in plain Lean: its model answers true. No conditions. -/
namespace Go.Proofs.Ytihccnkegkkikaa
open Go.Am
end Go.Proofs.Ytihccnkegkkikaa
/- The reference: the first chain. No conditions. -/
namespace Go.Proofs.Ytihccnkegkkikaa
open Go.Am
def rFirst_l1 (i : Nat) (kk : (List Member) → (Chain × Int)) : List Member → Nat → (List Member) → Chain × Int
  | [], _, vc1 => kk vc1
  | x :: xs, i1, vc1 => (bif (x.site == (i : Int)) then rFirst_l1 i kk xs (i1 + 1) (vc1 ++ [(Member.mk x.node x.site false)]) else rFirst_l1 i kk xs (i1 + 1) vc1)
def rFirst_l0 (l : (Sl Member)) : Nat → Nat → (List Member) → Chain × Int
  | 0, _, vc => (bif (decide ((vc.length : Int) < (l.D.length : Int))) then ((Chain.mk 0 (Sl.mk true [])), 80) else (bif ((rCheck (Chain.mk 1 (Sl.mk vc.isEmpty vc))) != 0) then ((Chain.mk 0 (Sl.mk true [])), 80) else ((Chain.mk 1 (Sl.mk vc.isEmpty vc)), 0)))
  | k + 1, i, vc => rFirst_l1 i (fun vc2 => rFirst_l0 l k (i + 1) vc2) l.D 0 vc
def rFirst (l : (Sl Member)) : Chain × Int :=
  rFirst_l0 l 3 0 []
theorem rFirst_calls (l : (Sl Member)) (hl1 : l.D.length ≤ 1000000) : PCalls Try.prog 47 [sS (some l.nil) eMember l.D] (.tup [.agg [.pv (.lit (.int .i64 ((rFirst l).1.epoch))), sS (some (rFirst l).1.members.nil) eMember ((rFirst l).1.members.D)], .pv (.lit (.int .i64 ((rFirst l).2)))]) := by
 generalize hR : rFirst l = R
 refine PCalls.of_body tabOk Try.func47 rfl rfl rfl rfl rfl mixed fun E hP C hI => ?_
 refine Awp.consP C ?_
 refine rvc_un (rexec_prim C (δ := { v := .ptr 2 0, new := [(2, .cells [.pv (.lit (.int .i64 0)), sS (some true) eMember []])] }) rfl rfl rfl rfl trivial rfl ?_)
 refine rvP C (.pv (.lit (.int .i64 0))) ?_
 refine rvc_nil ?_
 refine Awp.consP C ?_
 refine rvP C (.agg [.pv (.lit (.int .i64 1)), sS (some true) eMember []]) ?_
 refine rvc_un (rexec_prim C (δ := { v := .ptr 4 0, new := [(4, .cells [.pv (.lit (.int .i64 0)), sS (some true) eMember []])] }) rfl rfl rfl rfl trivial rfl ?_)
 refine rvc_un (rexec_prim C (δ := { v := .undef, wr := [(4, some (.cells [.pv (.lit (.int .i64 1)), sS (some true) eMember []]))] }) rfl rfl rfl rfl trivial rfl ?_)
 refine rvc_nil ?_
 refine Awp.seq ?_
 refine Awp.consP C ?_
 refine rvP C (.pv (.lit (.int .i64 0))) ?_
 refine rvc_nil ?_
 refine Awp.block ?_
 refine Awp.forR (σ := ((List Member))) (3) (fun i v => [(0, sS (some l.nil) eMember l.D), (2, .ptr 2 0), (4, .ptr 4 0), (9, .pv (.lit (.int .i64 (i : Int))))]) (fun i v => (growH 900 eMember v ++ ([(2, .cells [.pv (.lit (.int .i64 0)), sS (some true) eMember []]), (4, .cells [.pv (.lit (.int .i64 1)), grow 900 eMember v])]))) [2, 4, 900] (fun i v => (rFirst_l0 l (3 - i) i v = R) ∧ (v.length ≤ i * 1000000)) [] ?_ ?_ (fun i vc h1 hR => ?_)
 · exact ⟨hR, (by first | omega | (simp <;> omega))⟩
 · exact ⟨fun b => b, WeakerR.ofL (Ks := [2, 4, 900]) hI ⟨⟨rfl, rfl⟩, ⟨rfl, rfl⟩, ⟨rfl, rfl⟩, ⟨rfl, rfl⟩, trivial⟩ (okH_grow (fun hne => absurd rfl hne) rfl rfl (okH_cons rfl rfl rfl rfl (okH_cons (cellsTo rfl (by exact ⟨rfl, grow_to_nil rfl rfl (.inl rfl), trivial⟩)) rfl rfl (win_cells (by exact ⟨rfl, grow_within rfl, trivial⟩)) (okH_nil)))) rfl⟩
 obtain ⟨hR, hi_vc⟩ := hR
 replace hi_vc : vc.length ≤ i * 1000000 := hi_vc
 by_cases h2 : vc = []
 ·
  refine Awp.wordsR [(0, sS (some l.nil) eMember l.D), (2, .ptr 2 0), (4, .ptr 4 0), (9, .pv (.lit (.int .i64 (i : Int))))] [(2, .cells [.pv (.lit (.int .i64 0)), sS (some true) eMember []]), (4, .cells [.pv (.lit (.int .i64 1)), sS (some vc.isEmpty) eMember vc])] [2, 4] (WeakerR.ofL (Ks := [2, 4]) hI ⟨⟨rfl, rfl⟩, ⟨rfl, rfl⟩, ⟨rfl, rfl⟩, ⟨rfl, rfl⟩, trivial⟩ (okH_cons (look_nil h2 rfl) rfl rfl rfl (okH_cons (cellsTo (look_nil h2 rfl) (by exact ⟨rfl, (by exact grow_at_nil (b := 900) (e := eMember) (l := vc) rfl h2), trivial⟩)) rfl rfl (win_cells (by exact ⟨rfl, rfl, trivial⟩)) (okH_nil))) rfl) ?_
  refine Awp.consP C ?_
  refine rvP C (.pv (.lit (.bool (decide ((i : Int) < 3))))) ?_
  refine rvc_nil ?_
  refine Awp.seq ?_
  refine Awp.cond (b := (decide ((i : Int) < 3))) rfl (fun h3 => ?_) (fun h3 => ?_)
  ·
   have h4 : i < 3 := by have := of_decide_eq_true h3; omega
   obtain ⟨k, h5⟩ : ∃ k, 3 - i = k + 1 := ⟨3 - i - 1, by omega⟩
   rw [h5] at hR
   refine Awp.skip ?_
   refine Awp.seq ?_
   refine Awp.block ?_
   refine Awp.consP C ?_
   refine rvP C (.pv (.lit (.int .i64 (i : Int)))) ?_
   refine rvP C (.pv (.lit (.int .i64 (i : Int)))) ?_
   refine rvc_nil ?_
   refine Awp.consP C ?_
   refine rvP C (sS (some l.nil) eMember l.D) ?_
   refine rvP C (.pv (.lit (.int .i64 (l.D.length : Int)))) ?_
   refine rvP C (.pv (.lit (.int .i64 0))) ?_
   refine rvc_nil ?_
   refine Awp.block ?_
   refine Awp.forR (σ := ((List Member))) (l.D.length) (fun i1 v => [(0, sS (some l.nil) eMember l.D), (2, .ptr 2 0), (4, .ptr 4 0), (5, .pv (.lit (.int .i64 (i : Int)))), (9, .pv (.lit (.int .i64 (i : Int)))), (12, sS (some l.nil) eMember l.D), (13, .pv (.lit (.int .i64 (l.D.length : Int)))), (14, .pv (.lit (.int .i64 (i1 : Int))))]) (fun i1 v => (growH 901 eMember v ++ ([(2, .cells [.pv (.lit (.int .i64 0)), sS (some true) eMember []]), (4, .cells [.pv (.lit (.int .i64 1)), grow 901 eMember v])]))) [2, 4, 901] (fun i1 v => (rFirst_l1 i (fun vc1 => rFirst_l0 l k (i + 1) vc1) (l.D.drop i1) i1 v = R) ∧ (v.length ≤ vc.length + i1)) vc ?_ ?_ (fun i1 vc1 h6 hR => ?_)
   · exact ⟨hR, (by first | omega | (simp <;> omega))⟩
   · exact ⟨fun b => b, WeakerR.ofL (Ks := [2, 4, 901]) hI ⟨⟨rfl, rfl⟩, ⟨rfl, rfl⟩, ⟨rfl, rfl⟩, ⟨rfl, rfl⟩, ⟨rfl, rfl⟩, ⟨rfl, rfl⟩, ⟨rfl, rfl⟩, ⟨rfl, rfl⟩, trivial⟩ (okH_grow (fun hne => absurd h2 hne) rfl rfl (okH_cons rfl rfl rfl rfl (okH_cons (cellsTo rfl (by exact ⟨rfl, grow_to_nil rfl h2 (.inr rfl), trivial⟩)) rfl rfl (win_cells (by exact ⟨rfl, grow_within rfl, trivial⟩)) (okH_nil)))) rfl⟩
   obtain ⟨hR, hi_vc1⟩ := hR
   replace hi_vc1 : vc1.length ≤ vc.length + i1 := hi_vc1
   by_cases h7 : vc1 = []
   ·
    refine Awp.wordsR [(0, sS (some l.nil) eMember l.D), (2, .ptr 2 0), (4, .ptr 4 0), (5, .pv (.lit (.int .i64 (i : Int)))), (9, .pv (.lit (.int .i64 (i : Int)))), (12, sS (some l.nil) eMember l.D), (13, .pv (.lit (.int .i64 (l.D.length : Int)))), (14, .pv (.lit (.int .i64 (i1 : Int))))] [(2, .cells [.pv (.lit (.int .i64 0)), sS (some true) eMember []]), (4, .cells [.pv (.lit (.int .i64 1)), sS (some vc1.isEmpty) eMember vc1])] [2, 4] (WeakerR.ofL (Ks := [2, 4]) hI ⟨⟨rfl, rfl⟩, ⟨rfl, rfl⟩, ⟨rfl, rfl⟩, ⟨rfl, rfl⟩, ⟨rfl, rfl⟩, ⟨rfl, rfl⟩, ⟨rfl, rfl⟩, ⟨rfl, rfl⟩, trivial⟩ (okH_cons (look_nil h7 rfl) rfl rfl rfl (okH_cons (cellsTo (look_nil h7 rfl) (by exact ⟨rfl, (by exact grow_at_nil (b := 901) (e := eMember) (l := vc1) rfl h7), trivial⟩)) rfl rfl (win_cells (by exact ⟨rfl, rfl, trivial⟩)) (okH_nil))) rfl) ?_
    refine Awp.consP C ?_
    refine rvP C (.pv (.lit (.bool (decide ((i1 : Int) < (l.D.length : Int)))))) ?_
    refine rvc_nil ?_
    refine Awp.seq ?_
    refine Awp.cond (b := (decide ((i1 : Int) < (l.D.length : Int)))) rfl (fun h8 => ?_) (fun h8 => ?_)
    ·
     have h9 : i1 < l.D.length := by have := of_decide_eq_true h8; omega
     obtain ⟨x, h10⟩ := getX h9
     rw [drop_at h10] at hR
     refine Awp.skip ?_
     refine Awp.seq ?_
     refine Awp.block ?_
     refine Awp.consP C ?_
     refine rvc_un (rexec_idxS C rfl rfl rfl rfl rfl rfl x (Int.natCast_nonneg _) h10 ?_)
     refine rvP C (.agg [.pv (.lit (.int .i64 x.node)), .pv (.lit (.int .i64 x.site)), .pv (.lit (.bool x.fresh))]) ?_
     refine rvc_un (rexec_prim C (δ := { v := .ptr 7 0, new := [(7, .cells [.pv (.lit (.int .i64 0)), .pv (.lit (.int .i64 0)), .pv (.lit (.bool false))])] }) rfl rfl rfl rfl trivial rfl ?_)
     refine rvc_un (rexec_prim C (δ := { v := .undef, wr := [(7, some (.cells [.pv (.lit (.int .i64 x.node)), .pv (.lit (.int .i64 x.site)), .pv (.lit (.bool x.fresh))]))] }) rfl rfl rfl rfl trivial rfl ?_)
     refine rvc_nil ?_
     refine Awp.consP C ?_
     refine rvP C (.ptr 7 1) ?_
     refine rvP C (.pv (.lit (.int .i64 x.site))) ?_
     refine rvP C (.pv (.lit (.int .i64 (i : Int)))) ?_
     refine rvP C (.pv (.lit (.bool (x.site == (i : Int))))) ?_
     refine rvc_nil ?_
     refine Awp.cond (b := (x.site == (i : Int))) rfl (fun h11 => ?_) (fun h11 => ?_)
     ·
      replace hR := of_true h11 hR
      refine Awp.regionP C ?_
      refine rvP C (.ptr 4 1) ?_
      refine rvP C (sS (some vc1.isEmpty) eMember vc1) ?_
      refine rvP C (.ptr 7 0) ?_
      refine rvP C (.pv (.lit (.int .i64 x.node))) ?_
      refine rvP C (.ptr 7 1) ?_
      refine rvP C (.pv (.lit (.int .i64 x.site))) ?_
      refine rvP C (.agg [.pv (.lit (.int .i64 x.node)), .pv (.lit (.int .i64 x.site)), .pv (.lit (.bool false))]) ?_
      refine rvc_un (rexec_buildSliceF C eMember [(Member.mk x.node x.site false)] rfl rfl rfl rfl rfl rfl rfl (by decide) rfl ?_)
      refine rvc_un (rexec_appendG C rfl rfl rfl rfl rfl rfl rfl rfl (fun _ h => by cases h) rfl (en := eMember) (l := vc1) (D := [(Member.mk x.node x.site false)]) rfl rfl h7 (by rw [h7]; rfl) (by simp) (by have := of_decide_eq_true h3; have := of_decide_eq_true h8; have := beq_iff_eq.1 h11; first | omega | (simp <;> omega)) (by decide) (nn := (vc1 ++ [(Member.mk x.node x.site false)]).length) (by simp) ?_)
      refine rvP C (.ptr 4 1) ?_
      refine rvc_un (rexec_prim C (δ := { v := .undef, wr := [(4, some (.cells [.pv (.lit (.int .i64 1)), .sl 30 0 ((vc1 ++ [(Member.mk x.node x.site false)]).length) 3 false]))] }) rfl rfl rfl rfl trivial rfl ?_)
      refine rvc_nil ?_
      refine Awp.regionP C ?_
      refine rvP C (.pv (.lit (.int .i64 (IntKind.i64.wrap ((i1 : Int) + 1))))) ?_
      refine rvP C (.pv (.lit (.int .i64 (IntKind.i64.wrap ((i1 : Int) + 1))))) ?_
      refine rvc_nil ?_
      refine ⟨h9, (vc1 ++ [(Member.mk x.node x.site false)]), ?_, ?_⟩
      · exact ⟨hR, (by first | omega | (simp <;> omega))⟩
      · exact ⟨fun b => bif b == 901 then 30 else (fun b => b) b, WeakerR.ofL (Ks := [2, 4, 901]) hI ⟨⟨rfl, rfl⟩, ⟨rfl, rfl⟩, ⟨rfl, rfl⟩, ⟨rfl, rfl⟩, ⟨rfl, rfl⟩, ⟨rfl, rfl⟩, ⟨rfl, rfl⟩, ⟨lit_cast (wrap_i64 (by omega) (by omega)), rfl⟩, trivial⟩ (okH_grow (fun _ => rfl) rfl rfl (okH_cons rfl rfl rfl rfl (okH_cons (cellsTo rfl (by exact ⟨rfl, grow_to rfl rfl app_ne rfl rfl, trivial⟩)) rfl rfl (win_cells (by exact ⟨rfl, grow_within rfl, trivial⟩)) (okH_nil)))) rfl⟩
     ·
      replace hR := of_false h11 hR
      refine Awp.skip ?_
      refine Awp.regionP C ?_
      refine rvP C (.pv (.lit (.int .i64 (IntKind.i64.wrap ((i1 : Int) + 1))))) ?_
      refine rvP C (.pv (.lit (.int .i64 (IntKind.i64.wrap ((i1 : Int) + 1))))) ?_
      refine rvc_nil ?_
      refine ⟨h9, vc1, ?_, ?_⟩
      · exact ⟨hR, (by first | omega | (simp <;> omega))⟩
      · exact ⟨fun b => b, WeakerR.ofL (Ks := [2, 4, 901]) hI ⟨⟨rfl, rfl⟩, ⟨rfl, rfl⟩, ⟨rfl, rfl⟩, ⟨rfl, rfl⟩, ⟨rfl, rfl⟩, ⟨rfl, rfl⟩, ⟨rfl, rfl⟩, ⟨lit_cast (wrap_i64 (by omega) (by omega)), rfl⟩, trivial⟩ (okH_grow (fun hne => absurd h7 hne) rfl rfl (okH_cons rfl rfl rfl rfl (okH_cons (cellsTo rfl (by exact ⟨rfl, grow_to_nil rfl h7 (.inr rfl), trivial⟩)) rfl rfl (win_cells (by exact ⟨rfl, grow_within rfl, trivial⟩)) (okH_nil)))) rfl⟩
    ·
     have h9 : ¬ i1 < l.D.length := by have := of_decide_eq_false h8; omega
     rw [drop_end h9] at hR
     refine Awp.exit ?_
     refine Awp.regionP C ?_
     refine rvP C (.pv (.lit (.int .i64 (IntKind.i64.wrap ((i : Int) + 1))))) ?_
     refine rvP C (.pv (.lit (.int .i64 (IntKind.i64.wrap ((i : Int) + 1))))) ?_
     refine rvc_nil ?_
     refine ⟨h4, vc1, ?_, ?_⟩
     · exact ⟨(by rw [show 3 - (i + 1) = k by omega]; exact hR), (by first | omega | (simp <;> omega))⟩
     · exact ⟨fun b => b, WeakerR.ofL (Ks := [2, 4, 900]) hI ⟨⟨rfl, rfl⟩, ⟨rfl, rfl⟩, ⟨rfl, rfl⟩, ⟨lit_cast (wrap_i64 (by omega) (by omega)), rfl⟩, trivial⟩ (okH_grow (fun hne => absurd h7 hne) rfl rfl (okH_cons rfl rfl rfl rfl (okH_cons (cellsTo rfl (by exact ⟨rfl, grow_to_nil rfl h7 (.inr rfl), trivial⟩)) rfl rfl (win_cells (by exact ⟨rfl, grow_within rfl, trivial⟩)) (okH_nil)))) rfl⟩
   ·
    refine Awp.wordsR [(0, sS (some l.nil) eMember l.D), (2, .ptr 2 0), (4, .ptr 4 0), (5, .pv (.lit (.int .i64 (i : Int)))), (9, .pv (.lit (.int .i64 (i : Int)))), (12, sS (some l.nil) eMember l.D), (13, .pv (.lit (.int .i64 (l.D.length : Int)))), (14, .pv (.lit (.int .i64 (i1 : Int))))] [(901, .cells (encC eMember vc1)), (2, .cells [.pv (.lit (.int .i64 0)), sS (some true) eMember []]), (4, .cells [.pv (.lit (.int .i64 1)), .sl 901 0 vc1.length 3 false])] [2, 4, 901] (WeakerR.ofL (Ks := [2, 4, 901]) hI ⟨⟨rfl, rfl⟩, ⟨rfl, rfl⟩, ⟨rfl, rfl⟩, ⟨rfl, rfl⟩, ⟨rfl, rfl⟩, ⟨rfl, rfl⟩, ⟨rfl, rfl⟩, ⟨rfl, rfl⟩, trivial⟩ (okH_list (look_cons h7 rfl) rfl rfl (okH_cons (look_cons h7 rfl) rfl rfl rfl (okH_cons (cellsTo (look_cons h7 rfl) (by exact ⟨rfl, (by exact grow_at_cons (b := 901) (b' := 901) (e := eMember) (l := vc1) rfl h7 rfl rfl rfl), trivial⟩)) rfl rfl (win_cells (by exact ⟨rfl, rfl, trivial⟩)) (okH_nil)))) rfl) ?_
    refine Awp.consP C ?_
    refine rvP C (.pv (.lit (.bool (decide ((i1 : Int) < (l.D.length : Int)))))) ?_
    refine rvc_nil ?_
    refine Awp.seq ?_
    refine Awp.cond (b := (decide ((i1 : Int) < (l.D.length : Int)))) rfl (fun h12 => ?_) (fun h12 => ?_)
    ·
     have h13 : i1 < l.D.length := by have := of_decide_eq_true h12; omega
     obtain ⟨x, h14⟩ := getX h13
     rw [drop_at h14] at hR
     refine Awp.skip ?_
     refine Awp.seq ?_
     refine Awp.block ?_
     refine Awp.consP C ?_
     refine rvc_un (rexec_idxS C rfl rfl rfl rfl rfl rfl x (Int.natCast_nonneg _) h14 ?_)
     refine rvP C (.agg [.pv (.lit (.int .i64 x.node)), .pv (.lit (.int .i64 x.site)), .pv (.lit (.bool x.fresh))]) ?_
     refine rvc_un (rexec_prim C (δ := { v := .ptr 7 0, new := [(7, .cells [.pv (.lit (.int .i64 0)), .pv (.lit (.int .i64 0)), .pv (.lit (.bool false))])] }) rfl rfl rfl rfl trivial rfl ?_)
     refine rvc_un (rexec_prim C (δ := { v := .undef, wr := [(7, some (.cells [.pv (.lit (.int .i64 x.node)), .pv (.lit (.int .i64 x.site)), .pv (.lit (.bool x.fresh))]))] }) rfl rfl rfl rfl trivial rfl ?_)
     refine rvc_nil ?_
     refine Awp.consP C ?_
     refine rvP C (.ptr 7 1) ?_
     refine rvP C (.pv (.lit (.int .i64 x.site))) ?_
     refine rvP C (.pv (.lit (.int .i64 (i : Int)))) ?_
     refine rvP C (.pv (.lit (.bool (x.site == (i : Int))))) ?_
     refine rvc_nil ?_
     refine Awp.cond (b := (x.site == (i : Int))) rfl (fun h15 => ?_) (fun h15 => ?_)
     ·
      replace hR := of_true h15 hR
      refine Awp.regionP C ?_
      refine rvP C (.ptr 4 1) ?_
      refine rvP C (.sl 901 0 vc1.length 3 false) ?_
      refine rvP C (.ptr 7 0) ?_
      refine rvP C (.pv (.lit (.int .i64 x.node))) ?_
      refine rvP C (.ptr 7 1) ?_
      refine rvP C (.pv (.lit (.int .i64 x.site))) ?_
      refine rvP C (.agg [.pv (.lit (.int .i64 x.node)), .pv (.lit (.int .i64 x.site)), .pv (.lit (.bool false))]) ?_
      refine rvc_un (rexec_buildSliceF C eMember [(Member.mk x.node x.site false)] rfl rfl rfl rfl rfl rfl rfl (by decide) rfl ?_)
      refine rvc_un (rexec_append C rfl rfl rfl rfl rfl rfl rfl rfl (fun _ h => by cases h) rfl (en := eMember) (D0 := vc1) (D := [(Member.mk x.node x.site false)]) rfl rfl rfl rfl (by have := of_decide_eq_true h3; have := of_decide_eq_true h12; have := beq_iff_eq.1 h15; first | omega | (simp <;> omega)) (by decide) (nn := (vc1 ++ [(Member.mk x.node x.site false)]).length) (by simp) ?_)
      refine rvP C (.ptr 4 1) ?_
      refine rvc_un (rexec_prim C (δ := { v := .undef, wr := [(4, some (.cells [.pv (.lit (.int .i64 1)), .sl 30 0 ((vc1 ++ [(Member.mk x.node x.site false)]).length) 3 false]))] }) rfl rfl rfl rfl trivial rfl ?_)
      refine rvc_nil ?_
      refine Awp.regionP C ?_
      refine rvP C (.pv (.lit (.int .i64 (IntKind.i64.wrap ((i1 : Int) + 1))))) ?_
      refine rvP C (.pv (.lit (.int .i64 (IntKind.i64.wrap ((i1 : Int) + 1))))) ?_
      refine rvc_nil ?_
      refine ⟨h13, (vc1 ++ [(Member.mk x.node x.site false)]), ?_, ?_⟩
      · exact ⟨hR, (by first | omega | (simp <;> omega))⟩
      · exact ⟨fun b => bif b == 901 then 30 else (fun b => b) b, WeakerR.ofL (Ks := [2, 4, 901]) hI ⟨⟨rfl, rfl⟩, ⟨rfl, rfl⟩, ⟨rfl, rfl⟩, ⟨rfl, rfl⟩, ⟨rfl, rfl⟩, ⟨rfl, rfl⟩, ⟨rfl, rfl⟩, ⟨lit_cast (wrap_i64 (by omega) (by omega)), rfl⟩, trivial⟩ (okH_grow (fun _ => rfl) rfl rfl (okH_cons rfl rfl rfl rfl (okH_cons (cellsTo rfl (by exact ⟨rfl, grow_to rfl rfl app_ne rfl rfl, trivial⟩)) rfl rfl (win_cells (by exact ⟨rfl, grow_within rfl, trivial⟩)) (okH_nil)))) rfl⟩
     ·
      replace hR := of_false h15 hR
      refine Awp.skip ?_
      refine Awp.regionP C ?_
      refine rvP C (.pv (.lit (.int .i64 (IntKind.i64.wrap ((i1 : Int) + 1))))) ?_
      refine rvP C (.pv (.lit (.int .i64 (IntKind.i64.wrap ((i1 : Int) + 1))))) ?_
      refine rvc_nil ?_
      refine ⟨h13, vc1, ?_, ?_⟩
      · exact ⟨hR, (by first | omega | (simp <;> omega))⟩
      · exact ⟨fun b => b, WeakerR.ofL (Ks := [2, 4, 901]) hI ⟨⟨rfl, rfl⟩, ⟨rfl, rfl⟩, ⟨rfl, rfl⟩, ⟨rfl, rfl⟩, ⟨rfl, rfl⟩, ⟨rfl, rfl⟩, ⟨rfl, rfl⟩, ⟨lit_cast (wrap_i64 (by omega) (by omega)), rfl⟩, trivial⟩ (okH_grow (fun _ => rfl) rfl rfl (okH_cons rfl rfl rfl rfl (okH_cons (cellsTo rfl (by exact ⟨rfl, grow_to rfl rfl h7 rfl rfl, trivial⟩)) rfl rfl (win_cells (by exact ⟨rfl, grow_within rfl, trivial⟩)) (okH_nil)))) rfl⟩
    ·
     have h13 : ¬ i1 < l.D.length := by have := of_decide_eq_false h12; omega
     rw [drop_end h13] at hR
     refine Awp.exit ?_
     refine Awp.regionP C ?_
     refine rvP C (.pv (.lit (.int .i64 (IntKind.i64.wrap ((i : Int) + 1))))) ?_
     refine rvP C (.pv (.lit (.int .i64 (IntKind.i64.wrap ((i : Int) + 1))))) ?_
     refine rvc_nil ?_
     refine ⟨h4, vc1, ?_, ?_⟩
     · exact ⟨(by rw [show 3 - (i + 1) = k by omega]; exact hR), (by first | omega | (simp <;> omega))⟩
     · exact ⟨fun b => bif b == 900 then 901 else (fun b => b) b, WeakerR.ofL (Ks := [2, 4, 900]) hI ⟨⟨rfl, rfl⟩, ⟨rfl, rfl⟩, ⟨rfl, rfl⟩, ⟨lit_cast (wrap_i64 (by omega) (by omega)), rfl⟩, trivial⟩ (okH_grow (fun _ => rfl) rfl rfl (okH_cons rfl rfl rfl rfl (okH_cons (cellsTo rfl (by exact ⟨rfl, grow_to rfl rfl h7 rfl rfl, trivial⟩)) rfl rfl (win_cells (by exact ⟨rfl, grow_within rfl, trivial⟩)) (okH_nil)))) rfl⟩
  ·
   rw [show 3 - i = 0 by have := of_decide_eq_false h3; omega] at hR
   refine Awp.exit ?_
   refine Awp.seq ?_
   refine Awp.consP C ?_
   refine rvP C (.ptr 4 1) ?_
   refine rvP C (sS (some vc.isEmpty) eMember vc) ?_
   refine rvP C (.pv (.lit (.int .i64 (vc.length : Int)))) ?_
   refine rvP C (sS (some l.nil) eMember l.D) ?_
   refine rvP C (.pv (.lit (.int .i64 (l.D.length : Int)))) ?_
   refine rvP C (.pv (.lit (.bool (decide ((vc.length : Int) < (l.D.length : Int)))))) ?_
   refine rvP C (.pv (.lit (.bool (decide ((vc.length : Int) < (l.D.length : Int)))))) ?_
   refine rvc_case 40 (decide ((vc.length : Int) < (l.D.length : Int))) rfl (fun h16 => ?_) (fun h16 => ?_)
   ·
    replace hR := of_true h16 hR
    refine rvS ?_
    refine rvS ?_
    refine rvS ?_
    refine rvP C (.pv (.lit (.bool true))) ?_
    refine rvc_nil ?_
    refine Awp.condT (b := true) rfl rfl ?_
    refine Awp.consP C ?_
    refine rvP C (.agg [.pv (.lit (.int .i64 0)), sS (some true) eMember []]) ?_
    refine rvc_un (rexec_prim C (δ := { v := .undef, wr := [(2, some (.cells [.pv (.lit (.int .i64 0)), sS (some true) eMember []]))] }) rfl rfl rfl rfl trivial rfl ?_)
    refine rvP C (.pv (.lit (.int .i64 80))) ?_
    refine rvc_nil ?_
    refine Awp.ret ?_
    subst hR
    exact ⟨.inl rfl, rfl⟩
   ·
    replace hR := of_false h16 hR
    refine rvO C (.agg [.pv (.lit (.int .i64 1)), sS (some vc.isEmpty) eMember vc]) ?_
    refine rvc_open rfl rfl rfl (rexec_call hP C rfl rfl rfl (rCheck_calls (Chain.mk 1 (Sl.mk vc.isEmpty vc)) (by show vc.length ≤ 9223372036854775807; have := of_decide_eq_false h3; have := of_decide_eq_false h16; omega)) ?_)
    refine rvO C (.pv (.lit (.bool ((rCheck (Chain.mk 1 (Sl.mk vc.isEmpty vc))) != 0)))) ?_
    refine rvP C (.pv (.lit (.bool ((rCheck (Chain.mk 1 (Sl.mk vc.isEmpty vc))) != 0)))) ?_
    refine rvc_nil ?_
    refine Awp.cond (b := ((rCheck (Chain.mk 1 (Sl.mk vc.isEmpty vc))) != 0)) rfl (fun h17 => ?_) (fun h17 => ?_)
    ·
     replace hR := of_true h17 hR
     refine Awp.consP C ?_
     refine rvP C (.agg [.pv (.lit (.int .i64 0)), sS (some true) eMember []]) ?_
     refine rvc_un (rexec_prim C (δ := { v := .undef, wr := [(2, some (.cells [.pv (.lit (.int .i64 0)), sS (some true) eMember []]))] }) rfl rfl rfl rfl trivial rfl ?_)
     refine rvP C (.pv (.lit (.int .i64 80))) ?_
     refine rvc_nil ?_
     refine Awp.ret ?_
     subst hR
     exact ⟨.inl rfl, rfl⟩
    ·
     replace hR := of_false h17 hR
     refine Awp.skip ?_
     refine Awp.consP C ?_
     refine rvP C (.agg [.pv (.lit (.int .i64 1)), sS (some vc.isEmpty) eMember vc]) ?_
     refine rvc_un (rexec_prim C (δ := { v := .undef, wr := [(2, some (.cells [.pv (.lit (.int .i64 1)), sS (some vc.isEmpty) eMember vc]))] }) rfl rfl rfl rfl trivial rfl ?_)
     refine rvP C (.pv (.lit (.int .i64 0))) ?_
     refine rvc_nil ?_
     refine Awp.ret ?_
     subst hR
     exact ⟨.inl rfl, rfl⟩
 ·
  refine Awp.wordsR [(0, sS (some l.nil) eMember l.D), (2, .ptr 2 0), (4, .ptr 4 0), (9, .pv (.lit (.int .i64 (i : Int))))] [(900, .cells (encC eMember vc)), (2, .cells [.pv (.lit (.int .i64 0)), sS (some true) eMember []]), (4, .cells [.pv (.lit (.int .i64 1)), .sl 900 0 vc.length 3 false])] [2, 4, 900] (WeakerR.ofL (Ks := [2, 4, 900]) hI ⟨⟨rfl, rfl⟩, ⟨rfl, rfl⟩, ⟨rfl, rfl⟩, ⟨rfl, rfl⟩, trivial⟩ (okH_list (look_cons h2 rfl) rfl rfl (okH_cons (look_cons h2 rfl) rfl rfl rfl (okH_cons (cellsTo (look_cons h2 rfl) (by exact ⟨rfl, (by exact grow_at_cons (b := 900) (b' := 900) (e := eMember) (l := vc) rfl h2 rfl rfl rfl), trivial⟩)) rfl rfl (win_cells (by exact ⟨rfl, rfl, trivial⟩)) (okH_nil)))) rfl) ?_
  refine Awp.consP C ?_
  refine rvP C (.pv (.lit (.bool (decide ((i : Int) < 3))))) ?_
  refine rvc_nil ?_
  refine Awp.seq ?_
  refine Awp.cond (b := (decide ((i : Int) < 3))) rfl (fun h18 => ?_) (fun h18 => ?_)
  ·
   have h19 : i < 3 := by have := of_decide_eq_true h18; omega
   obtain ⟨k, h20⟩ : ∃ k, 3 - i = k + 1 := ⟨3 - i - 1, by omega⟩
   rw [h20] at hR
   refine Awp.skip ?_
   refine Awp.seq ?_
   refine Awp.block ?_
   refine Awp.consP C ?_
   refine rvP C (.pv (.lit (.int .i64 (i : Int)))) ?_
   refine rvP C (.pv (.lit (.int .i64 (i : Int)))) ?_
   refine rvc_nil ?_
   refine Awp.consP C ?_
   refine rvP C (sS (some l.nil) eMember l.D) ?_
   refine rvP C (.pv (.lit (.int .i64 (l.D.length : Int)))) ?_
   refine rvP C (.pv (.lit (.int .i64 0))) ?_
   refine rvc_nil ?_
   refine Awp.block ?_
   refine Awp.forR (σ := ((List Member))) (l.D.length) (fun i2 v => [(0, sS (some l.nil) eMember l.D), (2, .ptr 2 0), (4, .ptr 4 0), (5, .pv (.lit (.int .i64 (i : Int)))), (9, .pv (.lit (.int .i64 (i : Int)))), (12, sS (some l.nil) eMember l.D), (13, .pv (.lit (.int .i64 (l.D.length : Int)))), (14, .pv (.lit (.int .i64 (i2 : Int))))]) (fun i2 v => [(2, .cells [.pv (.lit (.int .i64 0)), sS (some true) eMember []]), (4, .cells [.pv (.lit (.int .i64 1)), .sl 902 0 v.length 3 false]), (902, .cells (encC eMember v))]) [2, 4, 902] (fun i2 v => (rFirst_l1 i (fun vc2 => rFirst_l0 l k (i + 1) vc2) (l.D.drop i2) i2 v = R) ∧ (v ≠ [] ∧ v.length ≤ vc.length + i2)) vc ?_ ?_ (fun i2 vc2 h21 hR => ?_)
   · exact ⟨hR, ⟨h2, (by first | omega | (simp <;> omega))⟩⟩
   · exact ⟨fun b => bif b == 902 then 900 else (fun b => b) b, WeakerR.ofL (Ks := [2, 4, 902]) hI ⟨⟨rfl, rfl⟩, ⟨rfl, rfl⟩, ⟨rfl, rfl⟩, ⟨rfl, rfl⟩, ⟨rfl, rfl⟩, ⟨rfl, rfl⟩, ⟨rfl, rfl⟩, ⟨rfl, rfl⟩, trivial⟩ (okH_cons rfl rfl rfl rfl (okH_cons rfl rfl rfl rfl (okH_list rfl rfl rfl (okH_nil)))) rfl⟩
   obtain ⟨hR, ⟨hn_vc2, hi_vc2⟩⟩ := hR
   replace hi_vc2 : vc2.length ≤ vc.length + i2 := hi_vc2
   refine Awp.consP C ?_
   refine rvP C (.pv (.lit (.bool (decide ((i2 : Int) < (l.D.length : Int)))))) ?_
   refine rvc_nil ?_
   refine Awp.seq ?_
   refine Awp.cond (b := (decide ((i2 : Int) < (l.D.length : Int)))) rfl (fun h22 => ?_) (fun h22 => ?_)
   ·
    have h23 : i2 < l.D.length := by have := of_decide_eq_true h22; omega
    obtain ⟨x1, h24⟩ := getX h23
    rw [drop_at h24] at hR
    refine Awp.skip ?_
    refine Awp.seq ?_
    refine Awp.block ?_
    refine Awp.consP C ?_
    refine rvc_un (rexec_idxS C rfl rfl rfl rfl rfl rfl x1 (Int.natCast_nonneg _) h24 ?_)
    refine rvP C (.agg [.pv (.lit (.int .i64 x1.node)), .pv (.lit (.int .i64 x1.site)), .pv (.lit (.bool x1.fresh))]) ?_
    refine rvc_un (rexec_prim C (δ := { v := .ptr 7 0, new := [(7, .cells [.pv (.lit (.int .i64 0)), .pv (.lit (.int .i64 0)), .pv (.lit (.bool false))])] }) rfl rfl rfl rfl trivial rfl ?_)
    refine rvc_un (rexec_prim C (δ := { v := .undef, wr := [(7, some (.cells [.pv (.lit (.int .i64 x1.node)), .pv (.lit (.int .i64 x1.site)), .pv (.lit (.bool x1.fresh))]))] }) rfl rfl rfl rfl trivial rfl ?_)
    refine rvc_nil ?_
    refine Awp.consP C ?_
    refine rvP C (.ptr 7 1) ?_
    refine rvP C (.pv (.lit (.int .i64 x1.site))) ?_
    refine rvP C (.pv (.lit (.int .i64 (i : Int)))) ?_
    refine rvP C (.pv (.lit (.bool (x1.site == (i : Int))))) ?_
    refine rvc_nil ?_
    refine Awp.cond (b := (x1.site == (i : Int))) rfl (fun h25 => ?_) (fun h25 => ?_)
    ·
     replace hR := of_true h25 hR
     refine Awp.regionP C ?_
     refine rvP C (.ptr 4 1) ?_
     refine rvP C (.sl 902 0 vc2.length 3 false) ?_
     refine rvP C (.ptr 7 0) ?_
     refine rvP C (.pv (.lit (.int .i64 x1.node))) ?_
     refine rvP C (.ptr 7 1) ?_
     refine rvP C (.pv (.lit (.int .i64 x1.site))) ?_
     refine rvP C (.agg [.pv (.lit (.int .i64 x1.node)), .pv (.lit (.int .i64 x1.site)), .pv (.lit (.bool false))]) ?_
     refine rvc_un (rexec_buildSliceF C eMember [(Member.mk x1.node x1.site false)] rfl rfl rfl rfl rfl rfl rfl (by decide) rfl ?_)
     refine rvc_un (rexec_append C rfl rfl rfl rfl rfl rfl rfl rfl (fun _ h => by cases h) rfl (en := eMember) (D0 := vc2) (D := [(Member.mk x1.node x1.site false)]) rfl rfl rfl rfl (by have := of_decide_eq_true h18; have := of_decide_eq_true h22; have := beq_iff_eq.1 h25; first | omega | (simp <;> omega)) (by decide) (nn := (vc2 ++ [(Member.mk x1.node x1.site false)]).length) (by simp) ?_)
     refine rvP C (.ptr 4 1) ?_
     refine rvc_un (rexec_prim C (δ := { v := .undef, wr := [(4, some (.cells [.pv (.lit (.int .i64 1)), .sl 30 0 ((vc2 ++ [(Member.mk x1.node x1.site false)]).length) 3 false]))] }) rfl rfl rfl rfl trivial rfl ?_)
     refine rvc_nil ?_
     refine Awp.regionP C ?_
     refine rvP C (.pv (.lit (.int .i64 (IntKind.i64.wrap ((i2 : Int) + 1))))) ?_
     refine rvP C (.pv (.lit (.int .i64 (IntKind.i64.wrap ((i2 : Int) + 1))))) ?_
     refine rvc_nil ?_
     refine ⟨h23, (vc2 ++ [(Member.mk x1.node x1.site false)]), ?_, ?_⟩
     · exact ⟨hR, ⟨app_ne, (by first | omega | (simp <;> omega))⟩⟩
     · exact ⟨fun b => bif b == 902 then 30 else (fun b => b) b, WeakerR.ofL (Ks := [2, 4, 902]) hI ⟨⟨rfl, rfl⟩, ⟨rfl, rfl⟩, ⟨rfl, rfl⟩, ⟨rfl, rfl⟩, ⟨rfl, rfl⟩, ⟨rfl, rfl⟩, ⟨rfl, rfl⟩, ⟨lit_cast (wrap_i64 (by omega) (by omega)), rfl⟩, trivial⟩ (okH_cons rfl rfl rfl rfl (okH_cons rfl rfl rfl rfl (okH_list rfl rfl rfl (okH_nil)))) rfl⟩
    ·
     replace hR := of_false h25 hR
     refine Awp.skip ?_
     refine Awp.regionP C ?_
     refine rvP C (.pv (.lit (.int .i64 (IntKind.i64.wrap ((i2 : Int) + 1))))) ?_
     refine rvP C (.pv (.lit (.int .i64 (IntKind.i64.wrap ((i2 : Int) + 1))))) ?_
     refine rvc_nil ?_
     refine ⟨h23, vc2, ?_, ?_⟩
     · exact ⟨hR, ⟨hn_vc2, (by first | omega | (simp <;> omega))⟩⟩
     · exact ⟨fun b => b, WeakerR.ofL (Ks := [2, 4, 902]) hI ⟨⟨rfl, rfl⟩, ⟨rfl, rfl⟩, ⟨rfl, rfl⟩, ⟨rfl, rfl⟩, ⟨rfl, rfl⟩, ⟨rfl, rfl⟩, ⟨rfl, rfl⟩, ⟨lit_cast (wrap_i64 (by omega) (by omega)), rfl⟩, trivial⟩ (okH_cons rfl rfl rfl rfl (okH_cons rfl rfl rfl rfl (okH_list rfl rfl rfl (okH_nil)))) rfl⟩
   ·
    have h23 : ¬ i2 < l.D.length := by have := of_decide_eq_false h22; omega
    rw [drop_end h23] at hR
    refine Awp.exit ?_
    refine Awp.regionP C ?_
    refine rvP C (.pv (.lit (.int .i64 (IntKind.i64.wrap ((i : Int) + 1))))) ?_
    refine rvP C (.pv (.lit (.int .i64 (IntKind.i64.wrap ((i : Int) + 1))))) ?_
    refine rvc_nil ?_
    refine ⟨h19, vc2, ?_, ?_⟩
    · exact ⟨(by rw [show 3 - (i + 1) = k by omega]; exact hR), (by first | omega | (simp <;> omega))⟩
    · exact ⟨fun b => bif b == 900 then 902 else (fun b => b) b, WeakerR.ofL (Ks := [2, 4, 900]) hI ⟨⟨rfl, rfl⟩, ⟨rfl, rfl⟩, ⟨rfl, rfl⟩, ⟨lit_cast (wrap_i64 (by omega) (by omega)), rfl⟩, trivial⟩ (okH_grow (fun _ => rfl) rfl rfl (okH_cons rfl rfl rfl rfl (okH_cons (cellsTo rfl (by exact ⟨rfl, grow_to rfl rfl hn_vc2 rfl rfl, trivial⟩)) rfl rfl (win_cells (by exact ⟨rfl, grow_within rfl, trivial⟩)) (okH_nil)))) rfl⟩
  ·
   rw [show 3 - i = 0 by have := of_decide_eq_false h18; omega] at hR
   refine Awp.exit ?_
   refine Awp.seq ?_
   refine Awp.freezeW 900 (encL eMember vc) ?_ [(0, sS (some l.nil) eMember l.D), (2, .ptr 2 0), (4, .ptr 4 0)] [(2, .cells [.pv (.lit (.int .i64 0)), sS (some true) eMember []]), (4, .cells [.pv (.lit (.int .i64 1)), sS (some vc.isEmpty) eMember vc])] ?_ ?_ ?_
   · rfl
   · exact ⟨⟨_, rfl, .inl (.inl rfl)⟩, ⟨_, rfl, .inl (.inl rfl)⟩, ⟨_, rfl, .inl (.inl rfl)⟩, trivial⟩
   · exact ⟨⟨(by show (2 : Nat) ≠ 900; decide), .inl rfl⟩, ⟨(by show (4 : Nat) ≠ 900; decide), .inr ⟨_, _, rfl, rfl, ⟨.inl rfl, .inr ⟨_, _, _, rfl, by rw [ne_isEmpty h2]; rfl⟩, trivial⟩⟩⟩, trivial⟩
   refine Awp.consP C ?_
   refine rvP C (.ptr 4 1) ?_
   refine rvP C (sS (some vc.isEmpty) eMember vc) ?_
   refine rvP C (.pv (.lit (.int .i64 (vc.length : Int)))) ?_
   refine rvP C (sS (some l.nil) eMember l.D) ?_
   refine rvP C (.pv (.lit (.int .i64 (l.D.length : Int)))) ?_
   refine rvP C (.pv (.lit (.bool (decide ((vc.length : Int) < (l.D.length : Int)))))) ?_
   refine rvP C (.pv (.lit (.bool (decide ((vc.length : Int) < (l.D.length : Int)))))) ?_
   refine rvc_case 40 (decide ((vc.length : Int) < (l.D.length : Int))) rfl (fun h26 => ?_) (fun h26 => ?_)
   ·
    replace hR := of_true h26 hR
    refine rvS ?_
    refine rvS ?_
    refine rvS ?_
    refine rvP C (.pv (.lit (.bool true))) ?_
    refine rvc_nil ?_
    refine Awp.condT (b := true) rfl rfl ?_
    refine Awp.consP C ?_
    refine rvP C (.agg [.pv (.lit (.int .i64 0)), sS (some true) eMember []]) ?_
    refine rvc_un (rexec_prim C (δ := { v := .undef, wr := [(2, some (.cells [.pv (.lit (.int .i64 0)), sS (some true) eMember []]))] }) rfl rfl rfl rfl trivial rfl ?_)
    refine rvP C (.pv (.lit (.int .i64 80))) ?_
    refine rvc_nil ?_
    refine Awp.ret ?_
    subst hR
    exact ⟨.inl rfl, rfl⟩
   ·
    replace hR := of_false h26 hR
    refine rvO C (.agg [.pv (.lit (.int .i64 1)), sS (some vc.isEmpty) eMember vc]) ?_
    refine rvc_open rfl rfl rfl (rexec_call hP C rfl rfl rfl (rCheck_calls (Chain.mk 1 (Sl.mk vc.isEmpty vc)) (by show vc.length ≤ 9223372036854775807; have := of_decide_eq_false h18; have := of_decide_eq_false h26; omega)) ?_)
    refine rvO C (.pv (.lit (.bool ((rCheck (Chain.mk 1 (Sl.mk vc.isEmpty vc))) != 0)))) ?_
    refine rvP C (.pv (.lit (.bool ((rCheck (Chain.mk 1 (Sl.mk vc.isEmpty vc))) != 0)))) ?_
    refine rvc_nil ?_
    refine Awp.cond (b := ((rCheck (Chain.mk 1 (Sl.mk vc.isEmpty vc))) != 0)) rfl (fun h27 => ?_) (fun h27 => ?_)
    ·
     replace hR := of_true h27 hR
     refine Awp.consP C ?_
     refine rvP C (.agg [.pv (.lit (.int .i64 0)), sS (some true) eMember []]) ?_
     refine rvc_un (rexec_prim C (δ := { v := .undef, wr := [(2, some (.cells [.pv (.lit (.int .i64 0)), sS (some true) eMember []]))] }) rfl rfl rfl rfl trivial rfl ?_)
     refine rvP C (.pv (.lit (.int .i64 80))) ?_
     refine rvc_nil ?_
     refine Awp.ret ?_
     subst hR
     exact ⟨.inl rfl, rfl⟩
    ·
     replace hR := of_false h27 hR
     refine Awp.skip ?_
     refine Awp.consP C ?_
     refine rvP C (.agg [.pv (.lit (.int .i64 1)), sS (some vc.isEmpty) eMember vc]) ?_
     refine rvc_un (rexec_prim C (δ := { v := .undef, wr := [(2, some (.cells [.pv (.lit (.int .i64 1)), sS (some vc.isEmpty) eMember vc]))] }) rfl rfl rfl rfl trivial rfl ?_)
     refine rvP C (.pv (.lit (.int .i64 0))) ?_
     refine rvc_nil ?_
     refine Awp.ret ?_
     subst hR
     exact ⟨.inl rfl, rfl⟩
 -- !! two models: ('(bif (decide ((vc.length : Int) < (l.D.length : Int))) then ((Chain.mk 0 (Sl.mk true [])), 80) else (bif ((rCheck (Chain.mk 1 (Sl.mk vc.isEmpty vc))) != 0) then ((Chain.mk 0 (Sl.mk true [])), 80) else ((Chain.mk 1 (Sl.mk vc.isEmpty vc)), 0)))', 'rFirst_l1 i (fun vc1 => rFirst_l0 l k (i + 1) vc1) l.D 0 vc') ||| ('(bif (decide ((vc.length : Int) < (l.D.length : Int))) then ((Chain.mk 0 (Sl.mk true [])), 80) else (bif ((rCheck (Chain.mk 1 (Sl.mk vc.isEmpty vc))) != 0) then ((Chain.mk 0 (Sl.mk true [])), 80) else ((Chain.mk 1 (Sl.mk vc.isEmpty vc)), 0)))', 'rFirst_l1 i (fun vc2 => rFirst_l0 l k (i + 1) vc2) l.D 0 vc')
end Go.Proofs.Ytihccnkegkkikaa
/- Members, site by site, in any order of sites. No conditions. -/
namespace Go.Proofs.Ytihccnkegkkikaa
open Go.Am
theorem ord_hits {x : Nat → Int} (hx : x ∈ [(ofL [0, 1, 2]), (ofL [0, 2, 1]), (ofL [1, 0, 2]), (ofL [1, 2, 0]), (ofL [2, 0, 1]), (ofL [2, 1, 0])]) {s : Int} (hs : 0 ≤ s ∧ s < 3) : ∃ t, t < 3 ∧ x t = s := by
  have h3 : s = 0 ∨ s = 1 ∨ s = 2 := by omega
  simp only [List.mem_cons, List.not_mem_nil, or_false] at hx
  rcases hx with rfl | rfl | rfl | rfl | rfl | rfl <;> rcases h3 with rfl | rfl | rfl
  all_goals first | exact ⟨0, by decide, rfl⟩ | exact ⟨1, by decide, rfl⟩ | exact ⟨2, by decide, rfl⟩
def inOrder (D : List Member) (x : Nat → Int) (n : Nat) : List Member := (List.range n).flatMap fun t => D.filter fun y => y.site == x t
theorem order_mem {D : List Member} {x : Nat → Int} {m : List Member} {n : Nat} (h : m = inOrder D x n) (hn : n = 3) (hx : x ∈ [(ofL [0, 1, 2]), (ofL [0, 2, 1]), (ofL [1, 0, 2]), (ofL [1, 2, 0]), (ofL [2, 0, 1]), (ofL [2, 1, 0])]) (hD : 0 < D.length) (hs : ∀ y ∈ D, 0 ≤ y.site ∧ y.site < 3) : 0 < m.length ∧ (∀ y ∈ m, 0 ≤ y.site ∧ y.site < 3) ∧ ∀ y ∈ m, y ∈ D := by
  subst h hn
  have hin : ∀ y ∈ inOrder D x 3, y ∈ D := fun y hy => by
    obtain ⟨t, _, hm⟩ := List.mem_flatMap.1 hy
    exact (List.mem_filter.1 hm).1
  refine ⟨?_, fun y hy => hs y (hin y hy), hin⟩
  cases D with
  | nil => exact absurd hD (by simp)
  | cons y D =>
    obtain ⟨t, ht, e⟩ := ord_hits hx (hs y (List.mem_cons_self ..))
    refine List.length_pos_of_mem (a := y) (List.mem_flatMap.2 ⟨t, List.mem_range.2 ht, List.mem_filter.2 ⟨List.mem_cons_self .., by simpa using e.symm⟩⟩)
theorem order_step {D : List Member} {x : Nat → Int} {m : List Member} {n k : Nat} (h : m = inOrder D x n ++ (D.take k).filter fun y => y.site == x n) (hk : ¬ k < D.length) : m = inOrder D x (n + 1) := by
  rw [h, List.take_of_length_le (by omega)]
  unfold inOrder
  rw [List.range_succ, List.flatMap_append]; simp
theorem take_step {D : List Member} {x : Nat → Int} {n k : Nat} {y : Member} (hy : D[k]? = some y) : (D.take (k + 1)).filter (fun y => y.site == x n) = (D.take k).filter (fun y => y.site == x n) ++ (if y.site == x n then [y] else []) := by
  rw [List.take_add_one, hy, List.filter_append]
  cases h : y.site == x n <;> simp [h]
theorem order_in {D : List Member} {x : Nat → Int} {m : List Member} {n k : Nat} {y : Member} (h : m = inOrder D x n ++ (D.take k).filter fun y => y.site == x n) (hy : D[k]? = some y) (hc : (y.site == x n) = true) : m ++ [y] = inOrder D x n ++ (D.take (k + 1)).filter fun y => y.site == x n := by
  rw [take_step hy, hc, h]; simp
theorem order_out {D : List Member} {x : Nat → Int} {m : List Member} {n k : Nat} {y : Member} (h : m = inOrder D x n ++ (D.take k).filter fun y => y.site == x n) (hy : D[k]? = some y) (hc : (y.site == x n) = false) : m = inOrder D x n ++ (D.take (k + 1)).filter fun y => y.site == x n := by
  rw [take_step hy, hc, h]; simp
def inList (D : List Member) (L : List Int) : List Member := L.flatMap fun s => D.filter fun y => y.site == s
theorem inList_step {D : List Member} {L : List Int} {m : List Member} {s : Int} {n k : Nat} (h : m = inList D (L.take n) ++ (D.take k).filter fun y => y.site == s) (hs : L[n]? = some s) (hk : ¬ k < D.length) : m = inList D (L.take (n + 1)) := by
  rw [h, List.take_of_length_le (l := D) (by omega), List.take_add_one, hs]
  unfold inList
  rw [List.flatMap_append]; simp
theorem list_in {D M : List Member} {m : List Member} {s : Int} {k : Nat} {y : Member} (h : m = M ++ (D.take k).filter fun y => y.site == s) (hy : D[k]? = some y) (hc : (y.site == s) = true) : m ++ [y] = M ++ (D.take (k + 1)).filter fun y => y.site == s := by
  rw [List.take_add_one, hy, List.filter_append, h]
  simp [hc]
theorem list_out {D M : List Member} {m : List Member} {s : Int} {k : Nat} {y : Member} (h : m = M ++ (D.take k).filter fun y => y.site == s) (hy : D[k]? = some y) (hc : (y.site == s) = false) : m = M ++ (D.take (k + 1)).filter fun y => y.site == s := by
  rw [List.take_add_one, hy, List.filter_append, h]
  simp [hc]
theorem inList_all {D : List Member} {a b c : Int} {m : List Member} {n : Nat} (h : m = inList D ([a, b, c].take n)) (hn : ¬ n < 3) (hp : ∀ s, 0 ≤ s ∧ s < 3 → s = a ∨ s = b ∨ s = c) (hD : 0 < D.length) (hs : ∀ y ∈ D, 0 ≤ y.site ∧ y.site < 3) : 0 < m.length ∧ (∀ y ∈ m, 0 ≤ y.site ∧ y.site < 3) ∧ ∀ y ∈ m, y ∈ D := by
  rw [List.take_of_length_le (by simp; omega)] at h
  subst h
  have hin : ∀ y ∈ inList D [a, b, c], y ∈ D := fun y hy => by
    obtain ⟨t, _, hm⟩ := List.mem_flatMap.1 hy
    exact (List.mem_filter.1 hm).1
  refine ⟨?_, fun y hy => hs y (hin y hy), hin⟩
  cases D with
  | nil => exact absurd hD (by simp)
  | cons y D =>
    refine List.length_pos_of_mem (a := y) (List.mem_flatMap.2 ⟨y.site, ?_, List.mem_filter.2 ⟨List.mem_cons_self .., by simp⟩⟩)
    have := hp y.site (hs y (List.mem_cons_self ..))
    simpa using this
theorem pb_new {x : List Member} {Q : Prop} (h : 0 < x.length ∧ x.length ≤ 1000 ∧ ∀ y ∈ x, 0 ≤ y.site ∧ y.site < 3) : ((Sl.mk x.isEmpty x).nil = false → 0 < (Sl.mk x.isEmpty x).D.length ∧ (Sl.mk x.isEmpty x).D.length ≤ 1000 ∧ ∀ y ∈ (Sl.mk x.isEmpty x).D, 0 ≤ y.site ∧ y.site < 3) ∧ ((Sl.mk x.isEmpty x).nil = true → Q) :=
  ⟨fun _ => h, fun hn => by
    have hn : x.isEmpty = true := hn
    have : x = [] := by simpa using hn
    rw [this] at h; exact absurd h.1 (by simp)⟩
theorem rFirst_l1_eq (i : Nat) (kk : List Member → Chain × Int) : ∀ (xs : List Member) (j : Nat) (vc : List Member), rFirst_l1 i kk xs j vc = kk (vc ++ (xs.filter fun x => x.site == (i : Int)).map unf)
  | [], _, vc => by simp [rFirst_l1]
  | x :: xs, j, vc => by
    unfold rFirst_l1
    cases h : x.site == (i : Int)
    · simp [rFirst_l1_eq i kk xs, h]
    · simp [rFirst_l1_eq i kk xs, h, unf]
theorem three_filters {α : Type} {p q r : α → Bool} (h1 : ∀ x, p x = true → q x = false ∧ r x = false) (h2 : ∀ x, q x = true → r x = false) : ∀ l : List α, (l.filter p).length + (l.filter q).length + (l.filter r).length ≤ l.length
  | [] => Nat.le_refl _
  | x :: l => by
    have ih := three_filters h1 h2 l
    rw [List.filter_cons, List.filter_cons, List.filter_cons, List.length_cons]
    cases hp : p x
    · cases hq : q x
      · cases hr : r x
        · simp only [Bool.false_eq_true, if_false]; omega
        · simp only [Bool.false_eq_true, if_false, if_true, List.length_cons]; omega
      · rw [h2 x hq]
        simp only [Bool.false_eq_true, if_false, if_true, List.length_cons]; omega
    · rw [(h1 x hp).1, (h1 x hp).2]
      simp only [Bool.false_eq_true, if_false, if_true, List.length_cons]; omega
theorem bySite_le (D : List Member) : (bySite D 0 ++ bySite D 1 ++ bySite D 2).length ≤ D.length := by
  unfold bySite
  rw [List.length_append, List.length_append, List.length_map, List.length_map, List.length_map]
  refine three_filters (fun x h => ?_) (fun x h => ?_) D
  · have e : x.site = ((0 : Nat) : Int) := by simpa using h
    rw [e]; exact ⟨by decide, by decide⟩
  · have e : x.site = ((1 : Nat) : Int) := by simpa using h
    rw [e]; decide
theorem first_eq (l : Sl Member) : rFirst l = firstC l := by
  rw [firstC_eq]
  unfold rFirst
  unfold rFirst_l0
  rw [rFirst_l1_eq]
  unfold rFirst_l0
  rw [rFirst_l1_eq]
  unfold rFirst_l0
  rw [rFirst_l1_eq]
  unfold rFirst_l0
  have hle := bySite_le l.D
  show (bif decide (((bySite l.D 0 ++ bySite l.D 1 ++ bySite l.D 2).length : Int) < (l.D.length : Int)) then _ else bif rCheck (Chain.mk 1 (Sl.mk (bySite l.D 0 ++ bySite l.D 1 ++ bySite l.D 2).isEmpty (bySite l.D 0 ++ bySite l.D 1 ++ bySite l.D 2))) != 0 then (Chain.mk 0 (Sl.mk true []), 80) else (Chain.mk 1 (Sl.mk (bySite l.D 0 ++ bySite l.D 1 ++ bySite l.D 2).isEmpty (bySite l.D 0 ++ bySite l.D 1 ++ bySite l.D 2)), 0) : Chain × Int) = _
  revert hle
  generalize bySite l.D 0 ++ bySite l.D 1 ++ bySite l.D 2 = vc
  intro hle
  unfold finF
  rw [← check_eq]
  have e : ((vc.length : Int) != (l.D.length : Int)) = decide ((vc.length : Int) < (l.D.length : Int)) := by
    rw [Bool.eq_iff_iff]; simp; omega
  rw [e]
theorem rFirst_len (l : Sl Member) : (rFirst l).1.members.D.length ≤ l.D.length := by rw [first_eq]; exact firstC_len l
end Go.Proofs.Ytihccnkegkkikaa
/- The reference: the best order of sites. No conditions. -/
namespace Go.Proofs.Ytihccnkegkkikaa
open Go.Am
def rBest_l3 (x1 : Int) (kk : (List Member) → ((Sl Member) × Int × Int)) : List Member → Nat → (List Member) → (Sl Member) × Int × Int
  | [], _, x2 => kk x2
  | x3 :: x3s, i3, x2 => (bif (x3.site == x1) then rBest_l3 x1 kk x3s (i3 + 1) (x2 ++ [x3]) else rBest_l3 x1 kk x3s (i3 + 1) x2)
def rBest_l2 (fc : Chain × Int) (kk : (List Member) → ((Sl Member) × Int × Int)) : List Int → Nat → (List Member) → (Sl Member) × Int × Int
  | [], _, x => kk x
  | x1 :: x1s, i2, x => rBest_l3 x1 (fun x4 => rBest_l2 fc kk x1s (i2 + 1) x4) fc.1.members.D 0 x
def rBest_l1 (w : (Nat → (Nat → Int))) (from_ : Int) (fc : Chain × Int) (i : Nat) (kk : (Sl Member) → ((Sl Member) × Int × Int)) : Nat → Nat → (Sl Member) → (Sl Member) × Int × Int
  | 0, _, best1 => kk best1
  | k1 + 1, i1, best1 => (bif ((i : Int) == (i1 : Int)) then rBest_l1 w from_ fc i kk k1 (i1 + 1) best1 else rBest_l2 fc (fun x => (bif best1.nil then rBest_l1 w from_ fc i kk k1 (i1 + 1) (Sl.mk x.isEmpty x) else (bif (decide ((cost (Sl.mk x.isEmpty x) w from_) < (cost best1 w from_))) then rBest_l1 w from_ fc i kk k1 (i1 + 1) (Sl.mk x.isEmpty x) else rBest_l1 w from_ fc i kk k1 (i1 + 1) best1))) [(i : Int), (i1 : Int), (IntKind.i64.wrap ((IntKind.i64.wrap (3 - (i : Int))) - (i1 : Int)))] 0 [])
def rBest_l0 (w : (Nat → (Nat → Int))) (from_ : Int) (fc : Chain × Int) : Nat → Nat → (Sl Member) → (Sl Member) × Int × Int
  | 0, _, best => (best, (cost best w from_), 0)
  | k + 1, i, best => rBest_l1 w from_ fc i (fun best1 => rBest_l0 w from_ fc k (i + 1) best1) 3 0 best
def rBest (l : (Sl Member)) (w : (Nat → (Nat → Int))) (from_ : Int) : (Sl Member) × Int × Int :=
  (bif ((rFirst l).2 != 0) then ((Sl.mk true []), 0, (rFirst l).2) else (bif ((rMay (rFirst l).1 w from_) != 0) then ((Sl.mk true []), 0, (rMay (rFirst l).1 w from_)) else rBest_l0 w from_ (rFirst l) 3 0 (Sl.mk true [])))
set_option maxHeartbeats 4000000 in
theorem rBest_calls (l : (Sl Member)) (w : (Nat → (Nat → Int))) (from_ : Int) (hl1 : l.D.length ≤ 1000000) : PCalls Try.prog 31 [sS (some l.nil) eMember l.D, .agg [.pv (.lit (.int .i64 ((w 0) 0))), .pv (.lit (.int .i64 ((w 0) 1))), .pv (.lit (.int .i64 ((w 0) 2))), .pv (.lit (.int .i64 ((w 1) 0))), .pv (.lit (.int .i64 ((w 1) 1))), .pv (.lit (.int .i64 ((w 1) 2))), .pv (.lit (.int .i64 ((w 2) 0))), .pv (.lit (.int .i64 ((w 2) 1))), .pv (.lit (.int .i64 ((w 2) 2)))], .pv (.lit (.int .i64 from_))] (.tup [sS (some (rBest l w from_).1.nil) eMember ((rBest l w from_).1.D), .pv (.lit (.int .i64 ((rBest l w from_).2.1))), .pv (.lit (.int .i64 ((rBest l w from_).2.2)))]) := by
 generalize hR : rBest l w from_ = R
 refine PCalls.of_body tabOk Try.func31 rfl rfl rfl rfl rfl mixed fun E hP C hI => ?_
 refine Awp.consP C ?_
 refine rvc_un (rexec_prim C (δ := { v := .ptr 4 0, new := [(4, .cells [.pv (.lit (.int .i64 ((w 0) 0))), .pv (.lit (.int .i64 ((w 0) 1))), .pv (.lit (.int .i64 ((w 0) 2))), .pv (.lit (.int .i64 ((w 1) 0))), .pv (.lit (.int .i64 ((w 1) 1))), .pv (.lit (.int .i64 ((w 1) 2))), .pv (.lit (.int .i64 ((w 2) 0))), .pv (.lit (.int .i64 ((w 2) 1))), .pv (.lit (.int .i64 ((w 2) 2)))])] }) rfl rfl rfl rfl trivial rfl ?_)
 refine rvP C (sS (some true) eMember []) ?_
 refine rvP C (.pv (.lit (.int .i64 0))) ?_
 refine rvP C (.pv (.lit (.int .i64 0))) ?_
 refine rvc_nil ?_
 refine Awp.consP C ?_
 refine rvP C (sS (some l.nil) eMember l.D) ?_
 obtain ⟨fc, hq_fc⟩ : ∃ q_, q_ = (rFirst l) := ⟨_, rfl⟩
 have hc_fc := (rFirst_calls l hl1)
 first | rw [← hq_fc] at hR hc_fc | (unfold rBest at hR; rw [← hq_fc] at hR hc_fc)
 have hf0_fc := rFirst_len l
 rw [← hq_fc] at hf0_fc
 refine rvc_un (rexec_call hP C rfl rfl rfl hc_fc ?_)
 refine rvP C (.tup [.agg [.pv (.lit (.int .i64 fc.1.epoch)), sS (some fc.1.members.nil) eMember fc.1.members.D], .pv (.lit (.int .i64 fc.2))]) ?_
 refine rvP C (.agg [.pv (.lit (.int .i64 fc.1.epoch)), sS (some fc.1.members.nil) eMember fc.1.members.D]) ?_
 refine rvP C (.pv (.lit (.int .i64 fc.2))) ?_
 refine rvc_un (rexec_prim C (δ := { v := .ptr 9 0, new := [(9, .cells [.pv (.lit (.int .i64 0)), sS (some true) eMember []])] }) rfl rfl rfl rfl trivial rfl ?_)
 refine rvc_un (rexec_prim C (δ := { v := .undef, wr := [(9, some (.cells [.pv (.lit (.int .i64 fc.1.epoch)), sS (some fc.1.members.nil) eMember fc.1.members.D]))] }) rfl rfl rfl rfl trivial rfl ?_)
 refine rvP C (.pv (.lit (.int .i64 fc.2))) ?_
 refine rvc_nil ?_
 refine Awp.seq ?_
 refine Awp.consP C ?_
 refine rvP C (.pv (.lit (.int .i64 fc.2))) ?_
 refine rvP C (.pv (.lit (.bool (fc.2 != 0)))) ?_
 refine rvc_nil ?_
 refine Awp.cond (b := (fc.2 != 0)) rfl (fun h1 => ?_) (fun h1 => ?_)
 ·
  replace hR := of_true h1 hR
  refine Awp.consP C ?_
  refine rvP C (.pv (.lit (.int .i64 fc.2))) ?_
  refine rvP C (sS (some true) eMember []) ?_
  refine rvP C (.pv (.lit (.int .i64 0))) ?_
  refine rvP C (.pv (.lit (.int .i64 fc.2))) ?_
  refine rvc_nil ?_
  refine Awp.ret ?_
  subst hR
  exact ⟨.inl rfl, rfl⟩
 ·
  replace hR := of_false h1 hR
  refine Awp.skip ?_
  refine Awp.seq ?_
  refine Awp.consP C ?_
  refine rvP C (.agg [.pv (.lit (.int .i64 fc.1.epoch)), sS (some fc.1.members.nil) eMember fc.1.members.D]) ?_
  refine rvP C (.agg [.pv (.lit (.int .i64 ((w 0) 0))), .pv (.lit (.int .i64 ((w 0) 1))), .pv (.lit (.int .i64 ((w 0) 2))), .pv (.lit (.int .i64 ((w 1) 0))), .pv (.lit (.int .i64 ((w 1) 1))), .pv (.lit (.int .i64 ((w 1) 2))), .pv (.lit (.int .i64 ((w 2) 0))), .pv (.lit (.int .i64 ((w 2) 1))), .pv (.lit (.int .i64 ((w 2) 2)))]) ?_
  refine rvP C (.pv (.lit (.int .i64 from_))) ?_
  refine rvc_un (rexec_call hP C rfl rfl rfl (rMay_calls fc.1 w from_ (by show fc.1.members.D.length ≤ 1000000; have := eq_of_bne_false h1; omega)) ?_)
  refine rvP C (.pv (.lit (.int .i64 (rMay fc.1 w from_)))) ?_
  refine rvc_nil ?_
  refine Awp.consP C ?_
  refine rvP C (.pv (.lit (.int .i64 (rMay fc.1 w from_)))) ?_
  refine rvP C (.pv (.lit (.bool ((rMay fc.1 w from_) != 0)))) ?_
  refine rvc_nil ?_
  refine Awp.cond (b := ((rMay fc.1 w from_) != 0)) rfl (fun h2 => ?_) (fun h2 => ?_)
  ·
   replace hR := of_true h2 hR
   refine Awp.consP C ?_
   refine rvP C (.pv (.lit (.int .i64 (rMay fc.1 w from_)))) ?_
   refine rvP C (sS (some true) eMember []) ?_
   refine rvP C (.pv (.lit (.int .i64 0))) ?_
   refine rvP C (.pv (.lit (.int .i64 (rMay fc.1 w from_)))) ?_
   refine rvc_nil ?_
   refine Awp.ret ?_
   subst hR
   exact ⟨.inl rfl, rfl⟩
  ·
   replace hR := of_false h2 hR
   refine Awp.skip ?_
   refine Awp.consP C ?_
   refine rvP C (sS (some true) eMember []) ?_
   refine rvc_nil ?_
   refine Awp.seq ?_
   refine Awp.consP C ?_
   refine rvP C (.pv (.lit (.int .i64 0))) ?_
   refine rvc_nil ?_
   refine Awp.block ?_
   refine Awp.forR (σ := ((Sl Member))) (3) (fun i v => [(2, .pv (.lit (.int .i64 from_))), (4, .ptr 4 0), (9, .ptr 9 0), (12, sS (some v.nil) eMember v.D), (35, .pv (.lit (.int .i64 (i : Int))))]) (fun i v => [(4, .cells [.pv (.lit (.int .i64 ((w 0) 0))), .pv (.lit (.int .i64 ((w 0) 1))), .pv (.lit (.int .i64 ((w 0) 2))), .pv (.lit (.int .i64 ((w 1) 0))), .pv (.lit (.int .i64 ((w 1) 1))), .pv (.lit (.int .i64 ((w 1) 2))), .pv (.lit (.int .i64 ((w 2) 0))), .pv (.lit (.int .i64 ((w 2) 1))), .pv (.lit (.int .i64 ((w 2) 2)))]), (9, .cells [.pv (.lit (.int .i64 fc.1.epoch)), sS (some fc.1.members.nil) eMember fc.1.members.D])]) [4, 9] (fun i v => (rBest_l0 w from_ fc (3 - i) i v = R) ∧ ((v.nil = false → 0 < v.D.length ∧ v.D.length ≤ 1000 ∧ ∀ y ∈ v.D, 0 ≤ y.site ∧ y.site < 3) ∧ (v.nil = true → i = 0))) (Sl.mk true []) ?_ ?_ (fun i best h3 hR => ?_)
   · exact ⟨hR, ⟨fun h_ => Bool.noConfusion h_, fun _ => rfl⟩⟩
   · exact ⟨fun b => b, WeakerR.ofL (Ks := [4, 9]) hI ⟨⟨rfl, rfl⟩, ⟨rfl, rfl⟩, ⟨rfl, rfl⟩, ⟨rfl, rfl⟩, ⟨rfl, rfl⟩, trivial⟩ (okH_cons rfl rfl rfl rfl (okH_cons rfl rfl rfl rfl (okH_nil))) rfl⟩
   obtain ⟨hR, ⟨hVp, hVz⟩⟩ := hR
   have h6_ := check_le6 (may_ok (eq_of_bne_false ‹(rMay fc.1 w from_ != 0) = false›)).1
   have hl_ := check_len (may_ok (eq_of_bne_false ‹(rMay fc.1 w from_ != 0) = false›)).1
   refine Awp.consP C ?_
   refine rvP C (.pv (.lit (.bool (decide ((i : Int) < 3))))) ?_
   refine rvc_nil ?_
   refine Awp.seq ?_
   refine Awp.cond (b := (decide ((i : Int) < 3))) rfl (fun h4 => ?_) (fun h4 => ?_)
   ·
    have h5 : i < 3 := by have := of_decide_eq_true h4; omega
    obtain ⟨k, h6⟩ : ∃ k, 3 - i = k + 1 := ⟨3 - i - 1, by omega⟩
    rw [h6] at hR
    refine Awp.skip ?_
    refine Awp.seq ?_
    refine Awp.block ?_
    refine Awp.consP C ?_
    refine rvP C (.pv (.lit (.int .i64 (i : Int)))) ?_
    refine rvP C (.pv (.lit (.int .i64 (i : Int)))) ?_
    refine rvc_nil ?_
    refine Awp.consP C ?_
    refine rvP C (.pv (.lit (.int .i64 0))) ?_
    refine rvc_nil ?_
    refine Awp.block ?_
    refine Awp.forR (σ := ((Sl Member))) (3) (fun i1 v => [(2, .pv (.lit (.int .i64 from_))), (4, .ptr 4 0), (9, .ptr 9 0), (12, sS (some v.nil) eMember v.D), (13, .pv (.lit (.int .i64 (i : Int)))), (35, .pv (.lit (.int .i64 (i : Int)))), (38, .pv (.lit (.int .i64 (i1 : Int))))]) (fun i1 v => [(4, .cells [.pv (.lit (.int .i64 ((w 0) 0))), .pv (.lit (.int .i64 ((w 0) 1))), .pv (.lit (.int .i64 ((w 0) 2))), .pv (.lit (.int .i64 ((w 1) 0))), .pv (.lit (.int .i64 ((w 1) 1))), .pv (.lit (.int .i64 ((w 1) 2))), .pv (.lit (.int .i64 ((w 2) 0))), .pv (.lit (.int .i64 ((w 2) 1))), .pv (.lit (.int .i64 ((w 2) 2)))]), (9, .cells [.pv (.lit (.int .i64 fc.1.epoch)), sS (some fc.1.members.nil) eMember fc.1.members.D])]) [4, 9] (fun i1 v => (rBest_l1 w from_ fc i (fun best1 => rBest_l0 w from_ fc k (i + 1) best1) (3 - i1) i1 v = R) ∧ ((v.nil = false → 0 < v.D.length ∧ v.D.length ≤ 1000 ∧ ∀ y ∈ v.D, 0 ≤ y.site ∧ y.site < 3) ∧ (v.nil = true → i = 0 ∧ i1 ≤ 1))) best ?_ ?_ (fun i1 best1 h7 hR => ?_)
    · exact ⟨hR, ⟨hVp, fun h_ => ⟨hVz h_, Nat.zero_le _⟩⟩⟩
    · exact ⟨fun b => b, WeakerR.ofL (Ks := [4, 9]) hI ⟨⟨rfl, rfl⟩, ⟨rfl, rfl⟩, ⟨rfl, rfl⟩, ⟨rfl, rfl⟩, ⟨rfl, rfl⟩, ⟨rfl, rfl⟩, ⟨rfl, rfl⟩, trivial⟩ (okH_cons rfl rfl rfl rfl (okH_cons rfl rfl rfl rfl (okH_nil))) rfl⟩
    obtain ⟨hR, ⟨hWp, hWz⟩⟩ := hR
    refine Awp.consP C ?_
    refine rvP C (.pv (.lit (.bool (decide ((i1 : Int) < 3))))) ?_
    refine rvc_nil ?_
    refine Awp.seq ?_
    refine Awp.cond (b := (decide ((i1 : Int) < 3))) rfl (fun h8 => ?_) (fun h8 => ?_)
    ·
     have h9 : i1 < 3 := by have := of_decide_eq_true h8; omega
     obtain ⟨k1, h10⟩ : ∃ k, 3 - i1 = k + 1 := ⟨3 - i1 - 1, by omega⟩
     rw [h10] at hR
     refine Awp.skip ?_
     refine Awp.seq ?_
     refine Awp.block ?_
     refine Awp.consP C ?_
     refine rvP C (.pv (.lit (.int .i64 (i1 : Int)))) ?_
     refine rvP C (.pv (.lit (.int .i64 (i1 : Int)))) ?_
     refine rvc_nil ?_
     refine Awp.seq ?_
     refine Awp.consP C ?_
     refine rvP C (.pv (.lit (.int .i64 (i : Int)))) ?_
     refine rvP C (.pv (.lit (.int .i64 (i1 : Int)))) ?_
     refine rvP C (.pv (.lit (.bool ((i : Int) == (i1 : Int))))) ?_
     refine rvc_nil ?_
     refine Awp.cond (b := ((i : Int) == (i1 : Int))) rfl (fun h11 => ?_) (fun h11 => ?_)
     ·
      replace hR := of_true h11 hR
      refine Awp.exit ?_
      refine Awp.regionP C ?_
      refine rvP C (.pv (.lit (.int .i64 (IntKind.i64.wrap ((i1 : Int) + 1))))) ?_
      refine rvP C (.pv (.lit (.int .i64 (IntKind.i64.wrap ((i1 : Int) + 1))))) ?_
      refine rvc_nil ?_
      refine ⟨h9, best1, ?_, ?_⟩
      · exact ⟨(by rw [show 3 - (i1 + 1) = k1 by omega]; exact hR), (by first | exact ⟨hWp, fun h_ => ⟨(hWz h_).1, (by have := (hWz h_).1; have e_ := beq_iff_eq.1 ‹((i : Int) == (i1 : Int)) = true›; omega)⟩⟩ | exact pb_new ⟨hxs_.1, (by omega), hxs_.2.1⟩ | exact ⟨hWp, fun h_ => absurd (‹best1.nil = false›.symm.trans h_) Bool.noConfusion⟩)⟩
      · exact ⟨fun b => b, WeakerR.ofL (Ks := [4, 9]) hI ⟨⟨rfl, rfl⟩, ⟨rfl, rfl⟩, ⟨rfl, rfl⟩, ⟨rfl, rfl⟩, ⟨rfl, rfl⟩, ⟨rfl, rfl⟩, ⟨lit_cast (wrap_i64 (by omega) (by omega)), rfl⟩, trivial⟩ (okH_cons rfl rfl rfl rfl (okH_cons rfl rfl rfl rfl (okH_nil))) rfl⟩
     ·
      replace hR := of_false h11 hR
      refine Awp.skip ?_
      refine Awp.consP C ?_
      refine rvP C (sS (some true) eMember []) ?_
      refine rvc_nil ?_
      refine Awp.seq ?_
      refine Awp.consP C ?_
      refine rvP C (.pv (.lit (.int .i64 (i : Int)))) ?_
      refine rvP C (.pv (.lit (.int .i64 (i1 : Int)))) ?_
      refine rvP C (.pv (.lit (.int .i64 (i : Int)))) ?_
      refine rvP C (.pv (.lit (.int .i64 (IntKind.i64.wrap (3 - (i : Int)))))) ?_
      refine rvP C (.pv (.lit (.int .i64 (i1 : Int)))) ?_
      refine rvP C (.pv (.lit (.int .i64 (IntKind.i64.wrap ((IntKind.i64.wrap (3 - (i : Int))) - (i1 : Int)))))) ?_
      refine rvc_un (rexec_buildSliceF C (eI .i64) [(i : Int), (i1 : Int), (IntKind.i64.wrap ((IntKind.i64.wrap (3 - (i : Int))) - (i1 : Int)))] rfl rfl rfl rfl rfl rfl rfl (by decide) rfl ?_)
      refine rvP C (.pv (.lit (.int .i64 ([(i : Int), (i1 : Int), (IntKind.i64.wrap ((IntKind.i64.wrap (3 - (i : Int))) - (i1 : Int)))].length : Int)))) ?_
      refine rvP C (.pv (.lit (.int .i64 0))) ?_
      refine rvc_nil ?_
      refine Awp.block ?_
      refine Awp.forR (σ := ((List Member))) ([(i : Int), (i1 : Int), (IntKind.i64.wrap ((IntKind.i64.wrap (3 - (i : Int))) - (i1 : Int)))].length) (fun i2 v => [(2, .pv (.lit (.int .i64 from_))), (4, .ptr 4 0), (9, .ptr 9 0), (12, sS (some best1.nil) eMember best1.D), (13, .pv (.lit (.int .i64 (i : Int)))), (15, grow 900 eMember v), (35, .pv (.lit (.int .i64 (i : Int)))), (38, .pv (.lit (.int .i64 (i1 : Int)))), (50, sS (some false) (eI .i64) [(i : Int), (i1 : Int), (IntKind.i64.wrap ((IntKind.i64.wrap (3 - (i : Int))) - (i1 : Int)))]), (51, .pv (.lit (.int .i64 ([(i : Int), (i1 : Int), (IntKind.i64.wrap ((IntKind.i64.wrap (3 - (i : Int))) - (i1 : Int)))].length : Int)))), (52, .pv (.lit (.int .i64 (i2 : Int))))]) (fun i2 v => (growH 900 eMember v ++ ([(4, .cells [.pv (.lit (.int .i64 ((w 0) 0))), .pv (.lit (.int .i64 ((w 0) 1))), .pv (.lit (.int .i64 ((w 0) 2))), .pv (.lit (.int .i64 ((w 1) 0))), .pv (.lit (.int .i64 ((w 1) 1))), .pv (.lit (.int .i64 ((w 1) 2))), .pv (.lit (.int .i64 ((w 2) 0))), .pv (.lit (.int .i64 ((w 2) 1))), .pv (.lit (.int .i64 ((w 2) 2)))]), (9, .cells [.pv (.lit (.int .i64 fc.1.epoch)), sS (some fc.1.members.nil) eMember fc.1.members.D])]))) [4, 9, 900] (fun i2 v => (rBest_l2 fc (fun x => (bif best1.nil then rBest_l1 w from_ fc i (fun best1 => rBest_l0 w from_ fc k (i + 1) best1) k1 (i1 + 1) (Sl.mk x.isEmpty x) else (bif (decide ((cost (Sl.mk x.isEmpty x) w from_) < (cost best1 w from_))) then rBest_l1 w from_ fc i (fun best1 => rBest_l0 w from_ fc k (i + 1) best1) k1 (i1 + 1) (Sl.mk x.isEmpty x) else rBest_l1 w from_ fc i (fun best1 => rBest_l0 w from_ fc k (i + 1) best1) k1 (i1 + 1) best1))) ([(i : Int), (i1 : Int), (IntKind.i64.wrap ((IntKind.i64.wrap (3 - (i : Int))) - (i1 : Int)))].drop i2) i2 v = R) ∧ (v = inList fc.1.members.D ([(i : Int), (i1 : Int), (IntKind.i64.wrap ((IntKind.i64.wrap (3 - (i : Int))) - (i1 : Int)))].take i2)) ∧ (v.length ≤ i2 * 6)) [] ?_ ?_ (fun i2 x h12 hR => ?_)
      · exact ⟨hR, rfl, (by first | omega | (simp <;> omega))⟩
      · exact ⟨fun b => b, WeakerR.ofL (Ks := [4, 9, 900]) hI ⟨⟨rfl, rfl⟩, ⟨rfl, rfl⟩, ⟨rfl, rfl⟩, ⟨rfl, rfl⟩, ⟨rfl, rfl⟩, ⟨rfl, rfl⟩, ⟨rfl, rfl⟩, ⟨rfl, rfl⟩, ⟨rfl, rfl⟩, ⟨rfl, rfl⟩, ⟨rfl, rfl⟩, trivial⟩ (okH_grow (fun hne => absurd rfl hne) rfl rfl (okH_cons rfl rfl rfl rfl (okH_cons rfl rfl rfl rfl (okH_nil)))) rfl⟩
      obtain ⟨hR, hX, hi_x⟩ := hR
      replace hi_x : x.length ≤ i2 * 6 := hi_x
      have h3L_ : ([(i : Int), (i1 : Int), (IntKind.i64.wrap ((IntKind.i64.wrap (3 - (i : Int))) - (i1 : Int)))] : List Int).length = 3 := rfl
      by_cases h13 : x = []
      ·
       refine Awp.wordsR [(2, .pv (.lit (.int .i64 from_))), (4, .ptr 4 0), (9, .ptr 9 0), (12, sS (some best1.nil) eMember best1.D), (13, .pv (.lit (.int .i64 (i : Int)))), (15, sS (some x.isEmpty) eMember x), (35, .pv (.lit (.int .i64 (i : Int)))), (38, .pv (.lit (.int .i64 (i1 : Int)))), (50, sS (some false) (eI .i64) [(i : Int), (i1 : Int), (IntKind.i64.wrap ((IntKind.i64.wrap (3 - (i : Int))) - (i1 : Int)))]), (51, .pv (.lit (.int .i64 ([(i : Int), (i1 : Int), (IntKind.i64.wrap ((IntKind.i64.wrap (3 - (i : Int))) - (i1 : Int)))].length : Int)))), (52, .pv (.lit (.int .i64 (i2 : Int))))] [(4, .cells [.pv (.lit (.int .i64 ((w 0) 0))), .pv (.lit (.int .i64 ((w 0) 1))), .pv (.lit (.int .i64 ((w 0) 2))), .pv (.lit (.int .i64 ((w 1) 0))), .pv (.lit (.int .i64 ((w 1) 1))), .pv (.lit (.int .i64 ((w 1) 2))), .pv (.lit (.int .i64 ((w 2) 0))), .pv (.lit (.int .i64 ((w 2) 1))), .pv (.lit (.int .i64 ((w 2) 2)))]), (9, .cells [.pv (.lit (.int .i64 fc.1.epoch)), sS (some fc.1.members.nil) eMember fc.1.members.D])] [4, 9] (WeakerR.ofL (Ks := [4, 9]) hI ⟨⟨rfl, rfl⟩, ⟨rfl, rfl⟩, ⟨rfl, rfl⟩, ⟨rfl, rfl⟩, ⟨rfl, rfl⟩, ⟨(by exact grow_at_nil (b := 900) (e := eMember) (l := x) rfl h13), rfl⟩, ⟨rfl, rfl⟩, ⟨rfl, rfl⟩, ⟨rfl, rfl⟩, ⟨rfl, rfl⟩, ⟨rfl, rfl⟩, trivial⟩ (okH_cons (look_nil h13 rfl) rfl rfl rfl (okH_cons (look_nil h13 rfl) rfl rfl rfl (okH_nil))) rfl) ?_
       refine Awp.consP C ?_
       refine rvP C (.pv (.lit (.bool (decide ((i2 : Int) < ([(i : Int), (i1 : Int), (IntKind.i64.wrap ((IntKind.i64.wrap (3 - (i : Int))) - (i1 : Int)))].length : Int)))))) ?_
       refine rvc_nil ?_
       refine Awp.seq ?_
       refine Awp.cond (b := (decide ((i2 : Int) < ([(i : Int), (i1 : Int), (IntKind.i64.wrap ((IntKind.i64.wrap (3 - (i : Int))) - (i1 : Int)))].length : Int)))) rfl (fun h14 => ?_) (fun h14 => ?_)
       ·
        have h15 : i2 < [(i : Int), (i1 : Int), (IntKind.i64.wrap ((IntKind.i64.wrap (3 - (i : Int))) - (i1 : Int)))].length := by have := of_decide_eq_true h14; omega
        obtain ⟨x1, h16⟩ := getX h15
        rw [drop_at h16] at hR
        refine Awp.skip ?_
        refine Awp.seq ?_
        refine Awp.block ?_
        refine Awp.consP C ?_
        refine rvc_un (rexec_idxS C rfl rfl rfl rfl rfl rfl x1 (Int.natCast_nonneg _) h16 ?_)
        refine rvP C (.pv (.lit (.int .i64 x1))) ?_
        refine rvP C (.pv (.lit (.int .i64 x1))) ?_
        refine rvc_nil ?_
        refine Awp.consP C ?_
        refine rvP C (.ptr 9 1) ?_
        refine rvP C (sS (some fc.1.members.nil) eMember fc.1.members.D) ?_
        refine rvP C (.pv (.lit (.int .i64 (fc.1.members.D.length : Int)))) ?_
        refine rvP C (.pv (.lit (.int .i64 0))) ?_
        refine rvc_nil ?_
        refine Awp.block ?_
        refine Awp.forR (σ := ((List Member))) (fc.1.members.D.length) (fun i3 v => [(2, .pv (.lit (.int .i64 from_))), (4, .ptr 4 0), (9, .ptr 9 0), (12, sS (some best1.nil) eMember best1.D), (13, .pv (.lit (.int .i64 (i : Int)))), (15, grow 901 eMember v), (17, .pv (.lit (.int .i64 x1))), (35, .pv (.lit (.int .i64 (i : Int)))), (38, .pv (.lit (.int .i64 (i1 : Int)))), (50, sS (some false) (eI .i64) [(i : Int), (i1 : Int), (IntKind.i64.wrap ((IntKind.i64.wrap (3 - (i : Int))) - (i1 : Int)))]), (51, .pv (.lit (.int .i64 ([(i : Int), (i1 : Int), (IntKind.i64.wrap ((IntKind.i64.wrap (3 - (i : Int))) - (i1 : Int)))].length : Int)))), (52, .pv (.lit (.int .i64 (i2 : Int)))), (57, sS (some fc.1.members.nil) eMember fc.1.members.D), (58, .pv (.lit (.int .i64 (fc.1.members.D.length : Int)))), (59, .pv (.lit (.int .i64 (i3 : Int))))]) (fun i3 v => (growH 901 eMember v ++ ([(4, .cells [.pv (.lit (.int .i64 ((w 0) 0))), .pv (.lit (.int .i64 ((w 0) 1))), .pv (.lit (.int .i64 ((w 0) 2))), .pv (.lit (.int .i64 ((w 1) 0))), .pv (.lit (.int .i64 ((w 1) 1))), .pv (.lit (.int .i64 ((w 1) 2))), .pv (.lit (.int .i64 ((w 2) 0))), .pv (.lit (.int .i64 ((w 2) 1))), .pv (.lit (.int .i64 ((w 2) 2)))]), (9, .cells [.pv (.lit (.int .i64 fc.1.epoch)), sS (some fc.1.members.nil) eMember fc.1.members.D])]))) [4, 9, 901] (fun i3 v => (rBest_l3 x1 (fun x2 => rBest_l2 fc (fun x => (bif best1.nil then rBest_l1 w from_ fc i (fun best1 => rBest_l0 w from_ fc k (i + 1) best1) k1 (i1 + 1) (Sl.mk x.isEmpty x) else (bif (decide ((cost (Sl.mk x.isEmpty x) w from_) < (cost best1 w from_))) then rBest_l1 w from_ fc i (fun best1 => rBest_l0 w from_ fc k (i + 1) best1) k1 (i1 + 1) (Sl.mk x.isEmpty x) else rBest_l1 w from_ fc i (fun best1 => rBest_l0 w from_ fc k (i + 1) best1) k1 (i1 + 1) best1))) ([(i : Int), (i1 : Int), (IntKind.i64.wrap ((IntKind.i64.wrap (3 - (i : Int))) - (i1 : Int)))].drop (i2 + 1)) (i2 + 1) x2) (fc.1.members.D.drop i3) i3 v = R) ∧ (v = inList fc.1.members.D ([(i : Int), (i1 : Int), (IntKind.i64.wrap ((IntKind.i64.wrap (3 - (i : Int))) - (i1 : Int)))].take i2) ++ (fc.1.members.D.take i3).filter fun y => y.site == x1) ∧ (v.length ≤ x.length + i3)) x ?_ ?_ (fun i3 x2 h17 hR => ?_)
        · exact ⟨hR, (by rw [List.take_zero, List.filter_nil, List.append_nil]; exact hX), (by first | omega | (simp <;> omega))⟩
        · exact ⟨fun b => b, WeakerR.ofL (Ks := [4, 9, 901]) hI ⟨⟨rfl, rfl⟩, ⟨rfl, rfl⟩, ⟨rfl, rfl⟩, ⟨rfl, rfl⟩, ⟨rfl, rfl⟩, ⟨grow_to_nil rfl h13 (.inr rfl), grow_within rfl⟩, ⟨rfl, rfl⟩, ⟨rfl, rfl⟩, ⟨rfl, rfl⟩, ⟨rfl, rfl⟩, ⟨rfl, rfl⟩, ⟨rfl, rfl⟩, ⟨rfl, rfl⟩, ⟨rfl, rfl⟩, ⟨rfl, rfl⟩, trivial⟩ (okH_grow (fun hne => absurd h13 hne) rfl rfl (okH_cons rfl rfl rfl rfl (okH_cons rfl rfl rfl rfl (okH_nil)))) rfl⟩
        obtain ⟨hR, hY, hi_x2⟩ := hR
        replace hi_x2 : x2.length ≤ x.length + i3 := hi_x2
        by_cases h18 : x2 = []
        ·
         refine Awp.wordsR [(2, .pv (.lit (.int .i64 from_))), (4, .ptr 4 0), (9, .ptr 9 0), (12, sS (some best1.nil) eMember best1.D), (13, .pv (.lit (.int .i64 (i : Int)))), (15, sS (some x2.isEmpty) eMember x2), (17, .pv (.lit (.int .i64 x1))), (35, .pv (.lit (.int .i64 (i : Int)))), (38, .pv (.lit (.int .i64 (i1 : Int)))), (50, sS (some false) (eI .i64) [(i : Int), (i1 : Int), (IntKind.i64.wrap ((IntKind.i64.wrap (3 - (i : Int))) - (i1 : Int)))]), (51, .pv (.lit (.int .i64 ([(i : Int), (i1 : Int), (IntKind.i64.wrap ((IntKind.i64.wrap (3 - (i : Int))) - (i1 : Int)))].length : Int)))), (52, .pv (.lit (.int .i64 (i2 : Int)))), (57, sS (some fc.1.members.nil) eMember fc.1.members.D), (58, .pv (.lit (.int .i64 (fc.1.members.D.length : Int)))), (59, .pv (.lit (.int .i64 (i3 : Int))))] [(4, .cells [.pv (.lit (.int .i64 ((w 0) 0))), .pv (.lit (.int .i64 ((w 0) 1))), .pv (.lit (.int .i64 ((w 0) 2))), .pv (.lit (.int .i64 ((w 1) 0))), .pv (.lit (.int .i64 ((w 1) 1))), .pv (.lit (.int .i64 ((w 1) 2))), .pv (.lit (.int .i64 ((w 2) 0))), .pv (.lit (.int .i64 ((w 2) 1))), .pv (.lit (.int .i64 ((w 2) 2)))]), (9, .cells [.pv (.lit (.int .i64 fc.1.epoch)), sS (some fc.1.members.nil) eMember fc.1.members.D])] [4, 9] (WeakerR.ofL (Ks := [4, 9]) hI ⟨⟨rfl, rfl⟩, ⟨rfl, rfl⟩, ⟨rfl, rfl⟩, ⟨rfl, rfl⟩, ⟨rfl, rfl⟩, ⟨(by exact grow_at_nil (b := 901) (e := eMember) (l := x2) rfl h18), rfl⟩, ⟨rfl, rfl⟩, ⟨rfl, rfl⟩, ⟨rfl, rfl⟩, ⟨rfl, rfl⟩, ⟨rfl, rfl⟩, ⟨rfl, rfl⟩, ⟨rfl, rfl⟩, ⟨rfl, rfl⟩, ⟨rfl, rfl⟩, trivial⟩ (okH_cons (look_nil h18 rfl) rfl rfl rfl (okH_cons (look_nil h18 rfl) rfl rfl rfl (okH_nil))) rfl) ?_
         refine Awp.consP C ?_
         refine rvP C (.pv (.lit (.bool (decide ((i3 : Int) < (fc.1.members.D.length : Int)))))) ?_
         refine rvc_nil ?_
         refine Awp.seq ?_
         refine Awp.cond (b := (decide ((i3 : Int) < (fc.1.members.D.length : Int)))) rfl (fun h19 => ?_) (fun h19 => ?_)
         ·
          have h20 : i3 < fc.1.members.D.length := by have := of_decide_eq_true h19; omega
          obtain ⟨x3, h21⟩ := getX h20
          rw [drop_at h21] at hR
          refine Awp.skip ?_
          refine Awp.seq ?_
          refine Awp.block ?_
          refine Awp.consP C ?_
          refine rvc_un (rexec_idxS C rfl rfl rfl rfl rfl rfl x3 (Int.natCast_nonneg _) h21 ?_)
          refine rvP C (.agg [.pv (.lit (.int .i64 x3.node)), .pv (.lit (.int .i64 x3.site)), .pv (.lit (.bool x3.fresh))]) ?_
          refine rvc_un (rexec_prim C (δ := { v := .ptr 19 0, new := [(19, .cells [.pv (.lit (.int .i64 0)), .pv (.lit (.int .i64 0)), .pv (.lit (.bool false))])] }) rfl rfl rfl rfl trivial rfl ?_)
          refine rvc_un (rexec_prim C (δ := { v := .undef, wr := [(19, some (.cells [.pv (.lit (.int .i64 x3.node)), .pv (.lit (.int .i64 x3.site)), .pv (.lit (.bool x3.fresh))]))] }) rfl rfl rfl rfl trivial rfl ?_)
          refine rvc_nil ?_
          refine Awp.consP C ?_
          refine rvP C (.ptr 19 1) ?_
          refine rvP C (.pv (.lit (.int .i64 x3.site))) ?_
          refine rvP C (.pv (.lit (.int .i64 x1))) ?_
          refine rvP C (.pv (.lit (.bool (x3.site == x1)))) ?_
          refine rvc_nil ?_
          refine Awp.cond (b := (x3.site == x1)) rfl (fun h22 => ?_) (fun h22 => ?_)
          ·
           replace hR := of_true h22 hR
           refine Awp.regionP C ?_
           refine rvP C (sS (some x2.isEmpty) eMember x2) ?_
           refine rvP C (.agg [.pv (.lit (.int .i64 x3.node)), .pv (.lit (.int .i64 x3.site)), .pv (.lit (.bool x3.fresh))]) ?_
           refine rvc_un (rexec_buildSliceF C eMember [x3] rfl rfl rfl rfl rfl rfl rfl (by decide) rfl ?_)
           refine rvc_un (rexec_appendG C rfl rfl rfl rfl rfl rfl rfl rfl (fun _ h => by cases h) rfl (en := eMember) (l := x2) (D := [x3]) rfl rfl h18 (by rw [h18]; rfl) (by simp) (by have := wrapI ((IntKind.i64.wrap (3 - (i : Int))) - (i1 : Int)); have := wrapI (3 - (i : Int)); have := eq_of_bne_false h1; have := eq_of_bne_false h2; have := of_decide_eq_true h4; have := of_decide_eq_true h8; have := ne_of_beq_false h11; have := of_decide_eq_true h14; have := of_decide_eq_true h19; have := beq_iff_eq.1 h22; first | omega | (simp <;> omega)) (by decide) (nn := (x2 ++ [x3]).length) (by simp) ?_)
           refine rvP C (.sl 70 0 ((x2 ++ [x3]).length) 3 false) ?_
           refine rvc_nil ?_
           refine Awp.regionP C ?_
           refine rvP C (.pv (.lit (.int .i64 (IntKind.i64.wrap ((i3 : Int) + 1))))) ?_
           refine rvP C (.pv (.lit (.int .i64 (IntKind.i64.wrap ((i3 : Int) + 1))))) ?_
           refine rvc_nil ?_
           refine ⟨h20, (x2 ++ [x3]), ?_, ?_⟩
           · exact ⟨hR, (by first | exact list_in hY (by assumption) (by assumption) | exact list_out hY (by assumption) (by assumption)), (by first | omega | (simp <;> omega))⟩
           · exact ⟨fun b => bif b == 901 then 70 else (fun b => b) b, WeakerR.ofL (Ks := [4, 9, 901]) hI ⟨⟨rfl, rfl⟩, ⟨rfl, rfl⟩, ⟨rfl, rfl⟩, ⟨rfl, rfl⟩, ⟨rfl, rfl⟩, ⟨grow_to rfl rfl app_ne rfl rfl, grow_within rfl⟩, ⟨rfl, rfl⟩, ⟨rfl, rfl⟩, ⟨rfl, rfl⟩, ⟨rfl, rfl⟩, ⟨rfl, rfl⟩, ⟨rfl, rfl⟩, ⟨rfl, rfl⟩, ⟨rfl, rfl⟩, ⟨lit_cast (wrap_i64 (by omega) (by omega)), rfl⟩, trivial⟩ (okH_grow (fun _ => rfl) rfl rfl (okH_cons rfl rfl rfl rfl (okH_cons rfl rfl rfl rfl (okH_nil)))) rfl⟩
          ·
           replace hR := of_false h22 hR
           refine Awp.skip ?_
           refine Awp.regionP C ?_
           refine rvP C (.pv (.lit (.int .i64 (IntKind.i64.wrap ((i3 : Int) + 1))))) ?_
           refine rvP C (.pv (.lit (.int .i64 (IntKind.i64.wrap ((i3 : Int) + 1))))) ?_
           refine rvc_nil ?_
           refine ⟨h20, x2, ?_, ?_⟩
           · exact ⟨hR, (by first | exact list_in hY (by assumption) (by assumption) | exact list_out hY (by assumption) (by assumption)), (by first | omega | (simp <;> omega))⟩
           · exact ⟨fun b => b, WeakerR.ofL (Ks := [4, 9, 901]) hI ⟨⟨rfl, rfl⟩, ⟨rfl, rfl⟩, ⟨rfl, rfl⟩, ⟨rfl, rfl⟩, ⟨rfl, rfl⟩, ⟨grow_to_nil rfl h18 (.inr rfl), grow_within rfl⟩, ⟨rfl, rfl⟩, ⟨rfl, rfl⟩, ⟨rfl, rfl⟩, ⟨rfl, rfl⟩, ⟨rfl, rfl⟩, ⟨rfl, rfl⟩, ⟨rfl, rfl⟩, ⟨rfl, rfl⟩, ⟨lit_cast (wrap_i64 (by omega) (by omega)), rfl⟩, trivial⟩ (okH_grow (fun hne => absurd h18 hne) rfl rfl (okH_cons rfl rfl rfl rfl (okH_cons rfl rfl rfl rfl (okH_nil)))) rfl⟩
         ·
          have h20 : ¬ i3 < fc.1.members.D.length := by have := of_decide_eq_false h19; omega
          rw [drop_end h20] at hR
          refine Awp.exit ?_
          refine Awp.regionP C ?_
          refine rvP C (.pv (.lit (.int .i64 (IntKind.i64.wrap ((i2 : Int) + 1))))) ?_
          refine rvP C (.pv (.lit (.int .i64 (IntKind.i64.wrap ((i2 : Int) + 1))))) ?_
          refine rvc_nil ?_
          refine ⟨h15, x2, ?_, ?_⟩
          · exact ⟨hR, (inList_step hY (by assumption) (by omega)), (by first | omega | (simp <;> omega))⟩
          · exact ⟨fun b => b, WeakerR.ofL (Ks := [4, 9, 900]) hI ⟨⟨rfl, rfl⟩, ⟨rfl, rfl⟩, ⟨rfl, rfl⟩, ⟨rfl, rfl⟩, ⟨rfl, rfl⟩, ⟨grow_to_nil rfl h18 (.inr rfl), grow_within rfl⟩, ⟨rfl, rfl⟩, ⟨rfl, rfl⟩, ⟨rfl, rfl⟩, ⟨rfl, rfl⟩, ⟨lit_cast (wrap_i64 (by omega) (by omega)), rfl⟩, trivial⟩ (okH_grow (fun hne => absurd h18 hne) rfl rfl (okH_cons rfl rfl rfl rfl (okH_cons rfl rfl rfl rfl (okH_nil)))) rfl⟩
        ·
         refine Awp.wordsR [(2, .pv (.lit (.int .i64 from_))), (4, .ptr 4 0), (9, .ptr 9 0), (12, sS (some best1.nil) eMember best1.D), (13, .pv (.lit (.int .i64 (i : Int)))), (15, .sl 901 0 x2.length 3 false), (17, .pv (.lit (.int .i64 x1))), (35, .pv (.lit (.int .i64 (i : Int)))), (38, .pv (.lit (.int .i64 (i1 : Int)))), (50, sS (some false) (eI .i64) [(i : Int), (i1 : Int), (IntKind.i64.wrap ((IntKind.i64.wrap (3 - (i : Int))) - (i1 : Int)))]), (51, .pv (.lit (.int .i64 ([(i : Int), (i1 : Int), (IntKind.i64.wrap ((IntKind.i64.wrap (3 - (i : Int))) - (i1 : Int)))].length : Int)))), (52, .pv (.lit (.int .i64 (i2 : Int)))), (57, sS (some fc.1.members.nil) eMember fc.1.members.D), (58, .pv (.lit (.int .i64 (fc.1.members.D.length : Int)))), (59, .pv (.lit (.int .i64 (i3 : Int))))] [(901, .cells (encC eMember x2)), (4, .cells [.pv (.lit (.int .i64 ((w 0) 0))), .pv (.lit (.int .i64 ((w 0) 1))), .pv (.lit (.int .i64 ((w 0) 2))), .pv (.lit (.int .i64 ((w 1) 0))), .pv (.lit (.int .i64 ((w 1) 1))), .pv (.lit (.int .i64 ((w 1) 2))), .pv (.lit (.int .i64 ((w 2) 0))), .pv (.lit (.int .i64 ((w 2) 1))), .pv (.lit (.int .i64 ((w 2) 2)))]), (9, .cells [.pv (.lit (.int .i64 fc.1.epoch)), sS (some fc.1.members.nil) eMember fc.1.members.D])] [4, 9, 901] (WeakerR.ofL (Ks := [4, 9, 901]) hI ⟨⟨rfl, rfl⟩, ⟨rfl, rfl⟩, ⟨rfl, rfl⟩, ⟨rfl, rfl⟩, ⟨rfl, rfl⟩, ⟨(by exact grow_at_cons (b := 901) (b' := 901) (e := eMember) (l := x2) rfl h18 rfl rfl rfl), rfl⟩, ⟨rfl, rfl⟩, ⟨rfl, rfl⟩, ⟨rfl, rfl⟩, ⟨rfl, rfl⟩, ⟨rfl, rfl⟩, ⟨rfl, rfl⟩, ⟨rfl, rfl⟩, ⟨rfl, rfl⟩, ⟨rfl, rfl⟩, trivial⟩ (okH_list (look_cons h18 rfl) rfl rfl (okH_cons (look_cons h18 rfl) rfl rfl rfl (okH_cons (look_cons h18 rfl) rfl rfl rfl (okH_nil)))) rfl) ?_
         refine Awp.consP C ?_
         refine rvP C (.pv (.lit (.bool (decide ((i3 : Int) < (fc.1.members.D.length : Int)))))) ?_
         refine rvc_nil ?_
         refine Awp.seq ?_
         refine Awp.cond (b := (decide ((i3 : Int) < (fc.1.members.D.length : Int)))) rfl (fun h23 => ?_) (fun h23 => ?_)
         ·
          have h24 : i3 < fc.1.members.D.length := by have := of_decide_eq_true h23; omega
          obtain ⟨x3, h25⟩ := getX h24
          rw [drop_at h25] at hR
          refine Awp.skip ?_
          refine Awp.seq ?_
          refine Awp.block ?_
          refine Awp.consP C ?_
          refine rvc_un (rexec_idxS C rfl rfl rfl rfl rfl rfl x3 (Int.natCast_nonneg _) h25 ?_)
          refine rvP C (.agg [.pv (.lit (.int .i64 x3.node)), .pv (.lit (.int .i64 x3.site)), .pv (.lit (.bool x3.fresh))]) ?_
          refine rvc_un (rexec_prim C (δ := { v := .ptr 19 0, new := [(19, .cells [.pv (.lit (.int .i64 0)), .pv (.lit (.int .i64 0)), .pv (.lit (.bool false))])] }) rfl rfl rfl rfl trivial rfl ?_)
          refine rvc_un (rexec_prim C (δ := { v := .undef, wr := [(19, some (.cells [.pv (.lit (.int .i64 x3.node)), .pv (.lit (.int .i64 x3.site)), .pv (.lit (.bool x3.fresh))]))] }) rfl rfl rfl rfl trivial rfl ?_)
          refine rvc_nil ?_
          refine Awp.consP C ?_
          refine rvP C (.ptr 19 1) ?_
          refine rvP C (.pv (.lit (.int .i64 x3.site))) ?_
          refine rvP C (.pv (.lit (.int .i64 x1))) ?_
          refine rvP C (.pv (.lit (.bool (x3.site == x1)))) ?_
          refine rvc_nil ?_
          refine Awp.cond (b := (x3.site == x1)) rfl (fun h26 => ?_) (fun h26 => ?_)
          ·
           replace hR := of_true h26 hR
           refine Awp.regionP C ?_
           refine rvP C (.sl 901 0 x2.length 3 false) ?_
           refine rvP C (.agg [.pv (.lit (.int .i64 x3.node)), .pv (.lit (.int .i64 x3.site)), .pv (.lit (.bool x3.fresh))]) ?_
           refine rvc_un (rexec_buildSliceF C eMember [x3] rfl rfl rfl rfl rfl rfl rfl (by decide) rfl ?_)
           refine rvc_un (rexec_append C rfl rfl rfl rfl rfl rfl rfl rfl (fun _ h => by cases h) rfl (en := eMember) (D0 := x2) (D := [x3]) rfl rfl rfl rfl (by have := wrapI ((IntKind.i64.wrap (3 - (i : Int))) - (i1 : Int)); have := wrapI (3 - (i : Int)); have := eq_of_bne_false h1; have := eq_of_bne_false h2; have := of_decide_eq_true h4; have := of_decide_eq_true h8; have := ne_of_beq_false h11; have := of_decide_eq_true h14; have := of_decide_eq_true h23; have := beq_iff_eq.1 h26; first | omega | (simp <;> omega)) (by decide) (nn := (x2 ++ [x3]).length) (by simp) ?_)
           refine rvP C (.sl 70 0 ((x2 ++ [x3]).length) 3 false) ?_
           refine rvc_nil ?_
           refine Awp.regionP C ?_
           refine rvP C (.pv (.lit (.int .i64 (IntKind.i64.wrap ((i3 : Int) + 1))))) ?_
           refine rvP C (.pv (.lit (.int .i64 (IntKind.i64.wrap ((i3 : Int) + 1))))) ?_
           refine rvc_nil ?_
           refine ⟨h24, (x2 ++ [x3]), ?_, ?_⟩
           · exact ⟨hR, (by first | exact list_in hY (by assumption) (by assumption) | exact list_out hY (by assumption) (by assumption)), (by first | omega | (simp <;> omega))⟩
           · exact ⟨fun b => bif b == 901 then 70 else (fun b => b) b, WeakerR.ofL (Ks := [4, 9, 901]) hI ⟨⟨rfl, rfl⟩, ⟨rfl, rfl⟩, ⟨rfl, rfl⟩, ⟨rfl, rfl⟩, ⟨rfl, rfl⟩, ⟨grow_to rfl rfl app_ne rfl rfl, grow_within rfl⟩, ⟨rfl, rfl⟩, ⟨rfl, rfl⟩, ⟨rfl, rfl⟩, ⟨rfl, rfl⟩, ⟨rfl, rfl⟩, ⟨rfl, rfl⟩, ⟨rfl, rfl⟩, ⟨rfl, rfl⟩, ⟨lit_cast (wrap_i64 (by omega) (by omega)), rfl⟩, trivial⟩ (okH_grow (fun _ => rfl) rfl rfl (okH_cons rfl rfl rfl rfl (okH_cons rfl rfl rfl rfl (okH_nil)))) rfl⟩
          ·
           replace hR := of_false h26 hR
           refine Awp.skip ?_
           refine Awp.regionP C ?_
           refine rvP C (.pv (.lit (.int .i64 (IntKind.i64.wrap ((i3 : Int) + 1))))) ?_
           refine rvP C (.pv (.lit (.int .i64 (IntKind.i64.wrap ((i3 : Int) + 1))))) ?_
           refine rvc_nil ?_
           refine ⟨h24, x2, ?_, ?_⟩
           · exact ⟨hR, (by first | exact list_in hY (by assumption) (by assumption) | exact list_out hY (by assumption) (by assumption)), (by first | omega | (simp <;> omega))⟩
           · exact ⟨fun b => b, WeakerR.ofL (Ks := [4, 9, 901]) hI ⟨⟨rfl, rfl⟩, ⟨rfl, rfl⟩, ⟨rfl, rfl⟩, ⟨rfl, rfl⟩, ⟨rfl, rfl⟩, ⟨grow_to rfl rfl h18 rfl rfl, grow_within rfl⟩, ⟨rfl, rfl⟩, ⟨rfl, rfl⟩, ⟨rfl, rfl⟩, ⟨rfl, rfl⟩, ⟨rfl, rfl⟩, ⟨rfl, rfl⟩, ⟨rfl, rfl⟩, ⟨rfl, rfl⟩, ⟨lit_cast (wrap_i64 (by omega) (by omega)), rfl⟩, trivial⟩ (okH_grow (fun _ => rfl) rfl rfl (okH_cons rfl rfl rfl rfl (okH_cons rfl rfl rfl rfl (okH_nil)))) rfl⟩
         ·
          have h24 : ¬ i3 < fc.1.members.D.length := by have := of_decide_eq_false h23; omega
          rw [drop_end h24] at hR
          refine Awp.exit ?_
          refine Awp.regionP C ?_
          refine rvP C (.pv (.lit (.int .i64 (IntKind.i64.wrap ((i2 : Int) + 1))))) ?_
          refine rvP C (.pv (.lit (.int .i64 (IntKind.i64.wrap ((i2 : Int) + 1))))) ?_
          refine rvc_nil ?_
          refine ⟨h15, x2, ?_, ?_⟩
          · exact ⟨hR, (inList_step hY (by assumption) (by omega)), (by first | omega | (simp <;> omega))⟩
          · exact ⟨fun b => bif b == 900 then 901 else (fun b => b) b, WeakerR.ofL (Ks := [4, 9, 900]) hI ⟨⟨rfl, rfl⟩, ⟨rfl, rfl⟩, ⟨rfl, rfl⟩, ⟨rfl, rfl⟩, ⟨rfl, rfl⟩, ⟨grow_to rfl rfl h18 rfl rfl, grow_within rfl⟩, ⟨rfl, rfl⟩, ⟨rfl, rfl⟩, ⟨rfl, rfl⟩, ⟨rfl, rfl⟩, ⟨lit_cast (wrap_i64 (by omega) (by omega)), rfl⟩, trivial⟩ (okH_grow (fun _ => rfl) rfl rfl (okH_cons rfl rfl rfl rfl (okH_cons rfl rfl rfl rfl (okH_nil)))) rfl⟩
       ·
        have h15 : ¬ i2 < [(i : Int), (i1 : Int), (IntKind.i64.wrap ((IntKind.i64.wrap (3 - (i : Int))) - (i1 : Int)))].length := by have := of_decide_eq_false h14; omega
        rw [drop_end h15] at hR
        have hxs_ := inList_all hX (by omega) (fun s_ hs_ => by have := wrapI (3 - (i : Int)); have := wrapI ((IntKind.i64.wrap (3 - (i : Int))) - (i1 : Int)); have hne_ := ne_of_beq_false ‹((i : Int) == (i1 : Int)) = false›; omega) hl_ (sites_ok (may_ok (eq_of_bne_false ‹(rMay fc.1 w from_ != 0) = false›)).1)
        refine Awp.exit ?_
        refine Awp.consP C ?_
        refine rvP C (sS (some best1.nil) eMember best1.D) ?_
        refine rvc_un (rexec_eqNil C (f := best1.nil) rfl rfl rfl rfl ?_)
        refine rvP C (.pv (.lit (.bool best1.nil))) ?_
        refine rvc_case 75 best1.nil rfl (fun h27 => ?_) (fun h27 => ?_)
        ·
         replace hR := of_true h27 hR
         refine rvS ?_
         refine rvS ?_
         refine rvS ?_
         refine rvS ?_
         refine rvS ?_
         refine rvS ?_
         refine rvS ?_
         refine rvS ?_
         refine rvS ?_
         refine rvP C (.pv (.lit (.bool true))) ?_
         refine rvc_nil ?_
         refine Awp.condT (b := true) rfl rfl ?_
         refine Awp.regionP C ?_
         refine rvP C (sS (some x.isEmpty) eMember x) ?_
         refine rvP C (sS (some x.isEmpty) eMember x) ?_
         refine rvc_nil ?_
         refine Awp.regionP C ?_
         refine rvP C (.pv (.lit (.int .i64 (IntKind.i64.wrap ((i1 : Int) + 1))))) ?_
         refine rvP C (.pv (.lit (.int .i64 (IntKind.i64.wrap ((i1 : Int) + 1))))) ?_
         refine rvc_nil ?_
         refine ⟨h9, (Sl.mk x.isEmpty x), ?_, ?_⟩
         · exact ⟨(by rw [show 3 - (i1 + 1) = k1 by omega]; exact hR), (by first | exact ⟨hWp, fun h_ => ⟨(hWz h_).1, (by have := (hWz h_).1; have e_ := beq_iff_eq.1 ‹((i : Int) == (i1 : Int)) = true›; omega)⟩⟩ | exact pb_new ⟨hxs_.1, (by omega), hxs_.2.1⟩ | exact ⟨hWp, fun h_ => absurd (‹best1.nil = false›.symm.trans h_) Bool.noConfusion⟩)⟩
         · exact ⟨fun b => b, WeakerR.ofL (Ks := [4, 9]) hI ⟨⟨rfl, rfl⟩, ⟨rfl, rfl⟩, ⟨rfl, rfl⟩, ⟨rfl, rfl⟩, ⟨rfl, rfl⟩, ⟨rfl, rfl⟩, ⟨lit_cast (wrap_i64 (by omega) (by omega)), rfl⟩, trivial⟩ (okH_cons rfl rfl rfl rfl (okH_cons rfl rfl rfl rfl (okH_nil))) rfl⟩
        ·
         replace hR := of_false h27 hR
         refine rvO C (sS (some x.isEmpty) eMember x) ?_
         refine rvO C (.agg [.pv (.lit (.int .i64 ((w 0) 0))), .pv (.lit (.int .i64 ((w 0) 1))), .pv (.lit (.int .i64 ((w 0) 2))), .pv (.lit (.int .i64 ((w 1) 0))), .pv (.lit (.int .i64 ((w 1) 1))), .pv (.lit (.int .i64 ((w 1) 2))), .pv (.lit (.int .i64 ((w 2) 0))), .pv (.lit (.int .i64 ((w 2) 1))), .pv (.lit (.int .i64 ((w 2) 2)))]) ?_
         refine rvO C (.pv (.lit (.int .i64 from_))) ?_
         refine rvc_open rfl rfl rfl (rexec_call hP C rfl rfl rfl (cost_calls (Sl.mk x.isEmpty x) w from_ hxs_.1 hxs_.2.1 (may_ok (eq_of_bne_false ‹(rMay fc.1 w from_ != 0) = false›)).2.2 (by dsimp only; omega)) ?_)
         refine rvO C (sS (some best1.nil) eMember best1.D) ?_
         refine rvO C (.agg [.pv (.lit (.int .i64 ((w 0) 0))), .pv (.lit (.int .i64 ((w 0) 1))), .pv (.lit (.int .i64 ((w 0) 2))), .pv (.lit (.int .i64 ((w 1) 0))), .pv (.lit (.int .i64 ((w 1) 1))), .pv (.lit (.int .i64 ((w 1) 2))), .pv (.lit (.int .i64 ((w 2) 0))), .pv (.lit (.int .i64 ((w 2) 1))), .pv (.lit (.int .i64 ((w 2) 2)))]) ?_
         refine rvO C (.pv (.lit (.int .i64 from_))) ?_
         refine rvc_open rfl rfl rfl (rexec_call hP C rfl rfl rfl (cost_calls best1 w from_ (hWp ‹best1.nil = false›).1 (hWp ‹best1.nil = false›).2.2 (may_ok (eq_of_bne_false ‹(rMay fc.1 w from_ != 0) = false›)).2.2 (by have := (hWp ‹best1.nil = false›).2.1; omega)) ?_)
         refine rvO C (.pv (.lit (.bool (decide ((cost (Sl.mk x.isEmpty x) w from_) < (cost best1 w from_)))))) ?_
         refine rvP C (.pv (.lit (.bool (decide ((cost (Sl.mk x.isEmpty x) w from_) < (cost best1 w from_)))))) ?_
         refine rvc_nil ?_
         refine Awp.cond (b := (decide ((cost (Sl.mk x.isEmpty x) w from_) < (cost best1 w from_)))) rfl (fun h28 => ?_) (fun h28 => ?_)
         ·
          replace hR := of_true h28 hR
          refine Awp.regionP C ?_
          refine rvP C (sS (some x.isEmpty) eMember x) ?_
          refine rvP C (sS (some x.isEmpty) eMember x) ?_
          refine rvc_nil ?_
          refine Awp.regionP C ?_
          refine rvP C (.pv (.lit (.int .i64 (IntKind.i64.wrap ((i1 : Int) + 1))))) ?_
          refine rvP C (.pv (.lit (.int .i64 (IntKind.i64.wrap ((i1 : Int) + 1))))) ?_
          refine rvc_nil ?_
          refine ⟨h9, (Sl.mk x.isEmpty x), ?_, ?_⟩
          · exact ⟨(by rw [show 3 - (i1 + 1) = k1 by omega]; exact hR), (by first | exact ⟨hWp, fun h_ => ⟨(hWz h_).1, (by have := (hWz h_).1; have e_ := beq_iff_eq.1 ‹((i : Int) == (i1 : Int)) = true›; omega)⟩⟩ | exact pb_new ⟨hxs_.1, (by omega), hxs_.2.1⟩ | exact ⟨hWp, fun h_ => absurd (‹best1.nil = false›.symm.trans h_) Bool.noConfusion⟩)⟩
          · exact ⟨fun b => b, WeakerR.ofL (Ks := [4, 9]) hI ⟨⟨rfl, rfl⟩, ⟨rfl, rfl⟩, ⟨rfl, rfl⟩, ⟨rfl, rfl⟩, ⟨rfl, rfl⟩, ⟨rfl, rfl⟩, ⟨lit_cast (wrap_i64 (by omega) (by omega)), rfl⟩, trivial⟩ (okH_cons rfl rfl rfl rfl (okH_cons rfl rfl rfl rfl (okH_nil))) rfl⟩
         ·
          replace hR := of_false h28 hR
          refine Awp.skip ?_
          refine Awp.regionP C ?_
          refine rvP C (.pv (.lit (.int .i64 (IntKind.i64.wrap ((i1 : Int) + 1))))) ?_
          refine rvP C (.pv (.lit (.int .i64 (IntKind.i64.wrap ((i1 : Int) + 1))))) ?_
          refine rvc_nil ?_
          refine ⟨h9, best1, ?_, ?_⟩
          · exact ⟨(by rw [show 3 - (i1 + 1) = k1 by omega]; exact hR), (by first | exact ⟨hWp, fun h_ => ⟨(hWz h_).1, (by have := (hWz h_).1; have e_ := beq_iff_eq.1 ‹((i : Int) == (i1 : Int)) = true›; omega)⟩⟩ | exact pb_new ⟨hxs_.1, (by omega), hxs_.2.1⟩ | exact ⟨hWp, fun h_ => absurd (‹best1.nil = false›.symm.trans h_) Bool.noConfusion⟩)⟩
          · exact ⟨fun b => b, WeakerR.ofL (Ks := [4, 9]) hI ⟨⟨rfl, rfl⟩, ⟨rfl, rfl⟩, ⟨rfl, rfl⟩, ⟨rfl, rfl⟩, ⟨rfl, rfl⟩, ⟨rfl, rfl⟩, ⟨lit_cast (wrap_i64 (by omega) (by omega)), rfl⟩, trivial⟩ (okH_cons rfl rfl rfl rfl (okH_cons rfl rfl rfl rfl (okH_nil))) rfl⟩
      ·
       refine Awp.wordsR [(2, .pv (.lit (.int .i64 from_))), (4, .ptr 4 0), (9, .ptr 9 0), (12, sS (some best1.nil) eMember best1.D), (13, .pv (.lit (.int .i64 (i : Int)))), (15, .sl 900 0 x.length 3 false), (35, .pv (.lit (.int .i64 (i : Int)))), (38, .pv (.lit (.int .i64 (i1 : Int)))), (50, sS (some false) (eI .i64) [(i : Int), (i1 : Int), (IntKind.i64.wrap ((IntKind.i64.wrap (3 - (i : Int))) - (i1 : Int)))]), (51, .pv (.lit (.int .i64 ([(i : Int), (i1 : Int), (IntKind.i64.wrap ((IntKind.i64.wrap (3 - (i : Int))) - (i1 : Int)))].length : Int)))), (52, .pv (.lit (.int .i64 (i2 : Int))))] [(900, .cells (encC eMember x)), (4, .cells [.pv (.lit (.int .i64 ((w 0) 0))), .pv (.lit (.int .i64 ((w 0) 1))), .pv (.lit (.int .i64 ((w 0) 2))), .pv (.lit (.int .i64 ((w 1) 0))), .pv (.lit (.int .i64 ((w 1) 1))), .pv (.lit (.int .i64 ((w 1) 2))), .pv (.lit (.int .i64 ((w 2) 0))), .pv (.lit (.int .i64 ((w 2) 1))), .pv (.lit (.int .i64 ((w 2) 2)))]), (9, .cells [.pv (.lit (.int .i64 fc.1.epoch)), sS (some fc.1.members.nil) eMember fc.1.members.D])] [4, 9, 900] (WeakerR.ofL (Ks := [4, 9, 900]) hI ⟨⟨rfl, rfl⟩, ⟨rfl, rfl⟩, ⟨rfl, rfl⟩, ⟨rfl, rfl⟩, ⟨rfl, rfl⟩, ⟨(by exact grow_at_cons (b := 900) (b' := 900) (e := eMember) (l := x) rfl h13 rfl rfl rfl), rfl⟩, ⟨rfl, rfl⟩, ⟨rfl, rfl⟩, ⟨rfl, rfl⟩, ⟨rfl, rfl⟩, ⟨rfl, rfl⟩, trivial⟩ (okH_list (look_cons h13 rfl) rfl rfl (okH_cons (look_cons h13 rfl) rfl rfl rfl (okH_cons (look_cons h13 rfl) rfl rfl rfl (okH_nil)))) rfl) ?_
       refine Awp.consP C ?_
       refine rvP C (.pv (.lit (.bool (decide ((i2 : Int) < ([(i : Int), (i1 : Int), (IntKind.i64.wrap ((IntKind.i64.wrap (3 - (i : Int))) - (i1 : Int)))].length : Int)))))) ?_
       refine rvc_nil ?_
       refine Awp.seq ?_
       refine Awp.cond (b := (decide ((i2 : Int) < ([(i : Int), (i1 : Int), (IntKind.i64.wrap ((IntKind.i64.wrap (3 - (i : Int))) - (i1 : Int)))].length : Int)))) rfl (fun h29 => ?_) (fun h29 => ?_)
       ·
        have h30 : i2 < [(i : Int), (i1 : Int), (IntKind.i64.wrap ((IntKind.i64.wrap (3 - (i : Int))) - (i1 : Int)))].length := by have := of_decide_eq_true h29; omega
        obtain ⟨x1, h31⟩ := getX h30
        rw [drop_at h31] at hR
        refine Awp.skip ?_
        refine Awp.seq ?_
        refine Awp.block ?_
        refine Awp.consP C ?_
        refine rvc_un (rexec_idxS C rfl rfl rfl rfl rfl rfl x1 (Int.natCast_nonneg _) h31 ?_)
        refine rvP C (.pv (.lit (.int .i64 x1))) ?_
        refine rvP C (.pv (.lit (.int .i64 x1))) ?_
        refine rvc_nil ?_
        refine Awp.consP C ?_
        refine rvP C (.ptr 9 1) ?_
        refine rvP C (sS (some fc.1.members.nil) eMember fc.1.members.D) ?_
        refine rvP C (.pv (.lit (.int .i64 (fc.1.members.D.length : Int)))) ?_
        refine rvP C (.pv (.lit (.int .i64 0))) ?_
        refine rvc_nil ?_
        refine Awp.block ?_
        refine Awp.forR (σ := ((List Member))) (fc.1.members.D.length) (fun i4 v => [(2, .pv (.lit (.int .i64 from_))), (4, .ptr 4 0), (9, .ptr 9 0), (12, sS (some best1.nil) eMember best1.D), (13, .pv (.lit (.int .i64 (i : Int)))), (15, .sl 902 0 v.length 3 false), (17, .pv (.lit (.int .i64 x1))), (35, .pv (.lit (.int .i64 (i : Int)))), (38, .pv (.lit (.int .i64 (i1 : Int)))), (50, sS (some false) (eI .i64) [(i : Int), (i1 : Int), (IntKind.i64.wrap ((IntKind.i64.wrap (3 - (i : Int))) - (i1 : Int)))]), (51, .pv (.lit (.int .i64 ([(i : Int), (i1 : Int), (IntKind.i64.wrap ((IntKind.i64.wrap (3 - (i : Int))) - (i1 : Int)))].length : Int)))), (52, .pv (.lit (.int .i64 (i2 : Int)))), (57, sS (some fc.1.members.nil) eMember fc.1.members.D), (58, .pv (.lit (.int .i64 (fc.1.members.D.length : Int)))), (59, .pv (.lit (.int .i64 (i4 : Int))))]) (fun i4 v => [(4, .cells [.pv (.lit (.int .i64 ((w 0) 0))), .pv (.lit (.int .i64 ((w 0) 1))), .pv (.lit (.int .i64 ((w 0) 2))), .pv (.lit (.int .i64 ((w 1) 0))), .pv (.lit (.int .i64 ((w 1) 1))), .pv (.lit (.int .i64 ((w 1) 2))), .pv (.lit (.int .i64 ((w 2) 0))), .pv (.lit (.int .i64 ((w 2) 1))), .pv (.lit (.int .i64 ((w 2) 2)))]), (9, .cells [.pv (.lit (.int .i64 fc.1.epoch)), sS (some fc.1.members.nil) eMember fc.1.members.D]), (902, .cells (encC eMember v))]) [4, 9, 902] (fun i4 v => (rBest_l3 x1 (fun x4 => rBest_l2 fc (fun x => (bif best1.nil then rBest_l1 w from_ fc i (fun best1 => rBest_l0 w from_ fc k (i + 1) best1) k1 (i1 + 1) (Sl.mk x.isEmpty x) else (bif (decide ((cost (Sl.mk x.isEmpty x) w from_) < (cost best1 w from_))) then rBest_l1 w from_ fc i (fun best1 => rBest_l0 w from_ fc k (i + 1) best1) k1 (i1 + 1) (Sl.mk x.isEmpty x) else rBest_l1 w from_ fc i (fun best1 => rBest_l0 w from_ fc k (i + 1) best1) k1 (i1 + 1) best1))) ([(i : Int), (i1 : Int), (IntKind.i64.wrap ((IntKind.i64.wrap (3 - (i : Int))) - (i1 : Int)))].drop (i2 + 1)) (i2 + 1) x4) (fc.1.members.D.drop i4) i4 v = R) ∧ (v = inList fc.1.members.D ([(i : Int), (i1 : Int), (IntKind.i64.wrap ((IntKind.i64.wrap (3 - (i : Int))) - (i1 : Int)))].take i2) ++ (fc.1.members.D.take i4).filter fun y => y.site == x1) ∧ (v ≠ [] ∧ v.length ≤ x.length + i4)) x ?_ ?_ (fun i4 x4 h32 hR => ?_)
        · exact ⟨hR, (by rw [List.take_zero, List.filter_nil, List.append_nil]; exact hX), ⟨h13, (by first | omega | (simp <;> omega))⟩⟩
        · exact ⟨fun b => bif b == 902 then 900 else (fun b => b) b, WeakerR.ofL (Ks := [4, 9, 902]) hI ⟨⟨rfl, rfl⟩, ⟨rfl, rfl⟩, ⟨rfl, rfl⟩, ⟨rfl, rfl⟩, ⟨rfl, rfl⟩, ⟨rfl, rfl⟩, ⟨rfl, rfl⟩, ⟨rfl, rfl⟩, ⟨rfl, rfl⟩, ⟨rfl, rfl⟩, ⟨rfl, rfl⟩, ⟨rfl, rfl⟩, ⟨rfl, rfl⟩, ⟨rfl, rfl⟩, ⟨rfl, rfl⟩, trivial⟩ (okH_cons rfl rfl rfl rfl (okH_cons rfl rfl rfl rfl (okH_list rfl rfl rfl (okH_nil)))) rfl⟩
        obtain ⟨hR, hY, ⟨hn_x4, hi_x4⟩⟩ := hR
        replace hi_x4 : x4.length ≤ x.length + i4 := hi_x4
        refine Awp.consP C ?_
        refine rvP C (.pv (.lit (.bool (decide ((i4 : Int) < (fc.1.members.D.length : Int)))))) ?_
        refine rvc_nil ?_
        refine Awp.seq ?_
        refine Awp.cond (b := (decide ((i4 : Int) < (fc.1.members.D.length : Int)))) rfl (fun h33 => ?_) (fun h33 => ?_)
        ·
         have h34 : i4 < fc.1.members.D.length := by have := of_decide_eq_true h33; omega
         obtain ⟨x5, h35⟩ := getX h34
         rw [drop_at h35] at hR
         refine Awp.skip ?_
         refine Awp.seq ?_
         refine Awp.block ?_
         refine Awp.consP C ?_
         refine rvc_un (rexec_idxS C rfl rfl rfl rfl rfl rfl x5 (Int.natCast_nonneg _) h35 ?_)
         refine rvP C (.agg [.pv (.lit (.int .i64 x5.node)), .pv (.lit (.int .i64 x5.site)), .pv (.lit (.bool x5.fresh))]) ?_
         refine rvc_un (rexec_prim C (δ := { v := .ptr 19 0, new := [(19, .cells [.pv (.lit (.int .i64 0)), .pv (.lit (.int .i64 0)), .pv (.lit (.bool false))])] }) rfl rfl rfl rfl trivial rfl ?_)
         refine rvc_un (rexec_prim C (δ := { v := .undef, wr := [(19, some (.cells [.pv (.lit (.int .i64 x5.node)), .pv (.lit (.int .i64 x5.site)), .pv (.lit (.bool x5.fresh))]))] }) rfl rfl rfl rfl trivial rfl ?_)
         refine rvc_nil ?_
         refine Awp.consP C ?_
         refine rvP C (.ptr 19 1) ?_
         refine rvP C (.pv (.lit (.int .i64 x5.site))) ?_
         refine rvP C (.pv (.lit (.int .i64 x1))) ?_
         refine rvP C (.pv (.lit (.bool (x5.site == x1)))) ?_
         refine rvc_nil ?_
         refine Awp.cond (b := (x5.site == x1)) rfl (fun h36 => ?_) (fun h36 => ?_)
         ·
          replace hR := of_true h36 hR
          refine Awp.regionP C ?_
          refine rvP C (.sl 902 0 x4.length 3 false) ?_
          refine rvP C (.agg [.pv (.lit (.int .i64 x5.node)), .pv (.lit (.int .i64 x5.site)), .pv (.lit (.bool x5.fresh))]) ?_
          refine rvc_un (rexec_buildSliceF C eMember [x5] rfl rfl rfl rfl rfl rfl rfl (by decide) rfl ?_)
          refine rvc_un (rexec_append C rfl rfl rfl rfl rfl rfl rfl rfl (fun _ h => by cases h) rfl (en := eMember) (D0 := x4) (D := [x5]) rfl rfl rfl rfl (by have := wrapI ((IntKind.i64.wrap (3 - (i : Int))) - (i1 : Int)); have := wrapI (3 - (i : Int)); have := eq_of_bne_false h1; have := eq_of_bne_false h2; have := of_decide_eq_true h4; have := of_decide_eq_true h8; have := ne_of_beq_false h11; have := of_decide_eq_true h29; have := of_decide_eq_true h33; have := beq_iff_eq.1 h36; first | omega | (simp <;> omega)) (by decide) (nn := (x4 ++ [x5]).length) (by simp) ?_)
          refine rvP C (.sl 70 0 ((x4 ++ [x5]).length) 3 false) ?_
          refine rvc_nil ?_
          refine Awp.regionP C ?_
          refine rvP C (.pv (.lit (.int .i64 (IntKind.i64.wrap ((i4 : Int) + 1))))) ?_
          refine rvP C (.pv (.lit (.int .i64 (IntKind.i64.wrap ((i4 : Int) + 1))))) ?_
          refine rvc_nil ?_
          refine ⟨h34, (x4 ++ [x5]), ?_, ?_⟩
          · exact ⟨hR, (by first | exact list_in hY (by assumption) (by assumption) | exact list_out hY (by assumption) (by assumption)), ⟨app_ne, (by first | omega | (simp <;> omega))⟩⟩
          · exact ⟨fun b => bif b == 902 then 70 else (fun b => b) b, WeakerR.ofL (Ks := [4, 9, 902]) hI ⟨⟨rfl, rfl⟩, ⟨rfl, rfl⟩, ⟨rfl, rfl⟩, ⟨rfl, rfl⟩, ⟨rfl, rfl⟩, ⟨rfl, rfl⟩, ⟨rfl, rfl⟩, ⟨rfl, rfl⟩, ⟨rfl, rfl⟩, ⟨rfl, rfl⟩, ⟨rfl, rfl⟩, ⟨rfl, rfl⟩, ⟨rfl, rfl⟩, ⟨rfl, rfl⟩, ⟨lit_cast (wrap_i64 (by omega) (by omega)), rfl⟩, trivial⟩ (okH_cons rfl rfl rfl rfl (okH_cons rfl rfl rfl rfl (okH_list rfl rfl rfl (okH_nil)))) rfl⟩
         ·
          replace hR := of_false h36 hR
          refine Awp.skip ?_
          refine Awp.regionP C ?_
          refine rvP C (.pv (.lit (.int .i64 (IntKind.i64.wrap ((i4 : Int) + 1))))) ?_
          refine rvP C (.pv (.lit (.int .i64 (IntKind.i64.wrap ((i4 : Int) + 1))))) ?_
          refine rvc_nil ?_
          refine ⟨h34, x4, ?_, ?_⟩
          · exact ⟨hR, (by first | exact list_in hY (by assumption) (by assumption) | exact list_out hY (by assumption) (by assumption)), ⟨hn_x4, (by first | omega | (simp <;> omega))⟩⟩
          · exact ⟨fun b => b, WeakerR.ofL (Ks := [4, 9, 902]) hI ⟨⟨rfl, rfl⟩, ⟨rfl, rfl⟩, ⟨rfl, rfl⟩, ⟨rfl, rfl⟩, ⟨rfl, rfl⟩, ⟨rfl, rfl⟩, ⟨rfl, rfl⟩, ⟨rfl, rfl⟩, ⟨rfl, rfl⟩, ⟨rfl, rfl⟩, ⟨rfl, rfl⟩, ⟨rfl, rfl⟩, ⟨rfl, rfl⟩, ⟨rfl, rfl⟩, ⟨lit_cast (wrap_i64 (by omega) (by omega)), rfl⟩, trivial⟩ (okH_cons rfl rfl rfl rfl (okH_cons rfl rfl rfl rfl (okH_list rfl rfl rfl (okH_nil)))) rfl⟩
        ·
         have h34 : ¬ i4 < fc.1.members.D.length := by have := of_decide_eq_false h33; omega
         rw [drop_end h34] at hR
         refine Awp.exit ?_
         refine Awp.regionP C ?_
         refine rvP C (.pv (.lit (.int .i64 (IntKind.i64.wrap ((i2 : Int) + 1))))) ?_
         refine rvP C (.pv (.lit (.int .i64 (IntKind.i64.wrap ((i2 : Int) + 1))))) ?_
         refine rvc_nil ?_
         refine ⟨h30, x4, ?_, ?_⟩
         · exact ⟨hR, (inList_step hY (by assumption) (by omega)), (by first | omega | (simp <;> omega))⟩
         · exact ⟨fun b => bif b == 900 then 902 else (fun b => b) b, WeakerR.ofL (Ks := [4, 9, 900]) hI ⟨⟨rfl, rfl⟩, ⟨rfl, rfl⟩, ⟨rfl, rfl⟩, ⟨rfl, rfl⟩, ⟨rfl, rfl⟩, ⟨grow_to rfl rfl hn_x4 rfl rfl, grow_within rfl⟩, ⟨rfl, rfl⟩, ⟨rfl, rfl⟩, ⟨rfl, rfl⟩, ⟨rfl, rfl⟩, ⟨lit_cast (wrap_i64 (by omega) (by omega)), rfl⟩, trivial⟩ (okH_grow (fun _ => rfl) rfl rfl (okH_cons rfl rfl rfl rfl (okH_cons rfl rfl rfl rfl (okH_nil)))) rfl⟩
       ·
        have h30 : ¬ i2 < [(i : Int), (i1 : Int), (IntKind.i64.wrap ((IntKind.i64.wrap (3 - (i : Int))) - (i1 : Int)))].length := by have := of_decide_eq_false h29; omega
        rw [drop_end h30] at hR
        have hxs_ := inList_all hX (by omega) (fun s_ hs_ => by have := wrapI (3 - (i : Int)); have := wrapI ((IntKind.i64.wrap (3 - (i : Int))) - (i1 : Int)); have hne_ := ne_of_beq_false ‹((i : Int) == (i1 : Int)) = false›; omega) hl_ (sites_ok (may_ok (eq_of_bne_false ‹(rMay fc.1 w from_ != 0) = false›)).1)
        refine Awp.exit ?_
        refine Awp.freezeW 900 (encL eMember x) ?_ [(2, .pv (.lit (.int .i64 from_))), (4, .ptr 4 0), (9, .ptr 9 0), (12, sS (some best1.nil) eMember best1.D), (13, .pv (.lit (.int .i64 (i : Int)))), (15, sS (some x.isEmpty) eMember x), (35, .pv (.lit (.int .i64 (i : Int)))), (38, .pv (.lit (.int .i64 (i1 : Int))))] [(4, .cells [.pv (.lit (.int .i64 ((w 0) 0))), .pv (.lit (.int .i64 ((w 0) 1))), .pv (.lit (.int .i64 ((w 0) 2))), .pv (.lit (.int .i64 ((w 1) 0))), .pv (.lit (.int .i64 ((w 1) 1))), .pv (.lit (.int .i64 ((w 1) 2))), .pv (.lit (.int .i64 ((w 2) 0))), .pv (.lit (.int .i64 ((w 2) 1))), .pv (.lit (.int .i64 ((w 2) 2)))]), (9, .cells [.pv (.lit (.int .i64 fc.1.epoch)), sS (some fc.1.members.nil) eMember fc.1.members.D])] ?_ ?_ ?_
        · rfl
        · exact ⟨⟨_, rfl, .inl (.inl rfl)⟩, ⟨_, rfl, .inl (.inl rfl)⟩, ⟨_, rfl, .inl (.inl rfl)⟩, ⟨_, rfl, .inl (.inl rfl)⟩, ⟨_, rfl, .inl (.inl rfl)⟩, ⟨_, rfl, .inl (.inr ⟨_, _, _, rfl, by rw [ne_isEmpty h13]; rfl⟩)⟩, ⟨_, rfl, .inl (.inl rfl)⟩, ⟨_, rfl, .inl (.inl rfl)⟩, trivial⟩
        · exact ⟨⟨(by show (4 : Nat) ≠ 900; decide), .inl rfl⟩, ⟨(by show (9 : Nat) ≠ 900; decide), .inl rfl⟩, trivial⟩
        refine Awp.consP C ?_
        refine rvP C (sS (some best1.nil) eMember best1.D) ?_
        refine rvc_un (rexec_eqNil C (f := best1.nil) rfl rfl rfl rfl ?_)
        refine rvP C (.pv (.lit (.bool best1.nil))) ?_
        refine rvc_case 75 best1.nil rfl (fun h37 => ?_) (fun h37 => ?_)
        ·
         replace hR := of_true h37 hR
         refine rvS ?_
         refine rvS ?_
         refine rvS ?_
         refine rvS ?_
         refine rvS ?_
         refine rvS ?_
         refine rvS ?_
         refine rvS ?_
         refine rvS ?_
         refine rvP C (.pv (.lit (.bool true))) ?_
         refine rvc_nil ?_
         refine Awp.condT (b := true) rfl rfl ?_
         refine Awp.regionP C ?_
         refine rvP C (sS (some x.isEmpty) eMember x) ?_
         refine rvP C (sS (some x.isEmpty) eMember x) ?_
         refine rvc_nil ?_
         refine Awp.regionP C ?_
         refine rvP C (.pv (.lit (.int .i64 (IntKind.i64.wrap ((i1 : Int) + 1))))) ?_
         refine rvP C (.pv (.lit (.int .i64 (IntKind.i64.wrap ((i1 : Int) + 1))))) ?_
         refine rvc_nil ?_
         refine ⟨h9, (Sl.mk x.isEmpty x), ?_, ?_⟩
         · exact ⟨(by rw [show 3 - (i1 + 1) = k1 by omega]; exact hR), (by first | exact ⟨hWp, fun h_ => ⟨(hWz h_).1, (by have := (hWz h_).1; have e_ := beq_iff_eq.1 ‹((i : Int) == (i1 : Int)) = true›; omega)⟩⟩ | exact pb_new ⟨hxs_.1, (by omega), hxs_.2.1⟩ | exact ⟨hWp, fun h_ => absurd (‹best1.nil = false›.symm.trans h_) Bool.noConfusion⟩)⟩
         · exact ⟨fun b => b, WeakerR.ofL (Ks := [4, 9]) hI ⟨⟨rfl, rfl⟩, ⟨rfl, rfl⟩, ⟨rfl, rfl⟩, ⟨rfl, rfl⟩, ⟨rfl, rfl⟩, ⟨rfl, rfl⟩, ⟨lit_cast (wrap_i64 (by omega) (by omega)), rfl⟩, trivial⟩ (okH_cons rfl rfl rfl rfl (okH_cons rfl rfl rfl rfl (okH_nil))) rfl⟩
        ·
         replace hR := of_false h37 hR
         refine rvO C (sS (some x.isEmpty) eMember x) ?_
         refine rvO C (.agg [.pv (.lit (.int .i64 ((w 0) 0))), .pv (.lit (.int .i64 ((w 0) 1))), .pv (.lit (.int .i64 ((w 0) 2))), .pv (.lit (.int .i64 ((w 1) 0))), .pv (.lit (.int .i64 ((w 1) 1))), .pv (.lit (.int .i64 ((w 1) 2))), .pv (.lit (.int .i64 ((w 2) 0))), .pv (.lit (.int .i64 ((w 2) 1))), .pv (.lit (.int .i64 ((w 2) 2)))]) ?_
         refine rvO C (.pv (.lit (.int .i64 from_))) ?_
         refine rvc_open rfl rfl rfl (rexec_call hP C rfl rfl rfl (cost_calls (Sl.mk x.isEmpty x) w from_ hxs_.1 hxs_.2.1 (may_ok (eq_of_bne_false ‹(rMay fc.1 w from_ != 0) = false›)).2.2 (by dsimp only; omega)) ?_)
         refine rvO C (sS (some best1.nil) eMember best1.D) ?_
         refine rvO C (.agg [.pv (.lit (.int .i64 ((w 0) 0))), .pv (.lit (.int .i64 ((w 0) 1))), .pv (.lit (.int .i64 ((w 0) 2))), .pv (.lit (.int .i64 ((w 1) 0))), .pv (.lit (.int .i64 ((w 1) 1))), .pv (.lit (.int .i64 ((w 1) 2))), .pv (.lit (.int .i64 ((w 2) 0))), .pv (.lit (.int .i64 ((w 2) 1))), .pv (.lit (.int .i64 ((w 2) 2)))]) ?_
         refine rvO C (.pv (.lit (.int .i64 from_))) ?_
         refine rvc_open rfl rfl rfl (rexec_call hP C rfl rfl rfl (cost_calls best1 w from_ (hWp ‹best1.nil = false›).1 (hWp ‹best1.nil = false›).2.2 (may_ok (eq_of_bne_false ‹(rMay fc.1 w from_ != 0) = false›)).2.2 (by have := (hWp ‹best1.nil = false›).2.1; omega)) ?_)
         refine rvO C (.pv (.lit (.bool (decide ((cost (Sl.mk x.isEmpty x) w from_) < (cost best1 w from_)))))) ?_
         refine rvP C (.pv (.lit (.bool (decide ((cost (Sl.mk x.isEmpty x) w from_) < (cost best1 w from_)))))) ?_
         refine rvc_nil ?_
         refine Awp.cond (b := (decide ((cost (Sl.mk x.isEmpty x) w from_) < (cost best1 w from_)))) rfl (fun h38 => ?_) (fun h38 => ?_)
         ·
          replace hR := of_true h38 hR
          refine Awp.regionP C ?_
          refine rvP C (sS (some x.isEmpty) eMember x) ?_
          refine rvP C (sS (some x.isEmpty) eMember x) ?_
          refine rvc_nil ?_
          refine Awp.regionP C ?_
          refine rvP C (.pv (.lit (.int .i64 (IntKind.i64.wrap ((i1 : Int) + 1))))) ?_
          refine rvP C (.pv (.lit (.int .i64 (IntKind.i64.wrap ((i1 : Int) + 1))))) ?_
          refine rvc_nil ?_
          refine ⟨h9, (Sl.mk x.isEmpty x), ?_, ?_⟩
          · exact ⟨(by rw [show 3 - (i1 + 1) = k1 by omega]; exact hR), (by first | exact ⟨hWp, fun h_ => ⟨(hWz h_).1, (by have := (hWz h_).1; have e_ := beq_iff_eq.1 ‹((i : Int) == (i1 : Int)) = true›; omega)⟩⟩ | exact pb_new ⟨hxs_.1, (by omega), hxs_.2.1⟩ | exact ⟨hWp, fun h_ => absurd (‹best1.nil = false›.symm.trans h_) Bool.noConfusion⟩)⟩
          · exact ⟨fun b => b, WeakerR.ofL (Ks := [4, 9]) hI ⟨⟨rfl, rfl⟩, ⟨rfl, rfl⟩, ⟨rfl, rfl⟩, ⟨rfl, rfl⟩, ⟨rfl, rfl⟩, ⟨rfl, rfl⟩, ⟨lit_cast (wrap_i64 (by omega) (by omega)), rfl⟩, trivial⟩ (okH_cons rfl rfl rfl rfl (okH_cons rfl rfl rfl rfl (okH_nil))) rfl⟩
         ·
          replace hR := of_false h38 hR
          refine Awp.skip ?_
          refine Awp.regionP C ?_
          refine rvP C (.pv (.lit (.int .i64 (IntKind.i64.wrap ((i1 : Int) + 1))))) ?_
          refine rvP C (.pv (.lit (.int .i64 (IntKind.i64.wrap ((i1 : Int) + 1))))) ?_
          refine rvc_nil ?_
          refine ⟨h9, best1, ?_, ?_⟩
          · exact ⟨(by rw [show 3 - (i1 + 1) = k1 by omega]; exact hR), (by first | exact ⟨hWp, fun h_ => ⟨(hWz h_).1, (by have := (hWz h_).1; have e_ := beq_iff_eq.1 ‹((i : Int) == (i1 : Int)) = true›; omega)⟩⟩ | exact pb_new ⟨hxs_.1, (by omega), hxs_.2.1⟩ | exact ⟨hWp, fun h_ => absurd (‹best1.nil = false›.symm.trans h_) Bool.noConfusion⟩)⟩
          · exact ⟨fun b => b, WeakerR.ofL (Ks := [4, 9]) hI ⟨⟨rfl, rfl⟩, ⟨rfl, rfl⟩, ⟨rfl, rfl⟩, ⟨rfl, rfl⟩, ⟨rfl, rfl⟩, ⟨rfl, rfl⟩, ⟨lit_cast (wrap_i64 (by omega) (by omega)), rfl⟩, trivial⟩ (okH_cons rfl rfl rfl rfl (okH_cons rfl rfl rfl rfl (okH_nil))) rfl⟩
      -- !! two models: ('(bif best1.nil then rBest_l1 w from_ fc i (fun best1 => rBest_l0 w from_ fc k (i + 1) best1) k1 (i1 + 1) (Sl.mk x.isEmpty x) else (bif (decide ((cost (Sl.mk x.isEmpty x) w from_) < (cost best1 w from_))) then rBest_l1 w from_ fc i (fun best1 => rBest_l0 w from_ fc k (i + 1) best1) k1 (i1 + 1) (Sl.mk x.isEmpty x) else rBest_l1 w from_ fc i (fun best1 => rBest_l0 w from_ fc k (i + 1) best1) k1 (i1 + 1) best1))', 'rBest_l3 x1 (fun x2 => rBest_l2 fc (fun x => (bif best1.nil then rBest_l1 w from_ fc i (fun best1 => rBest_l0 w from_ fc k (i + 1) best1) k1 (i1 + 1) (Sl.mk x.isEmpty x) else (bif (decide ((cost (Sl.mk x.isEmpty x) w from_) < (cost best1 w from_))) then rBest_l1 w from_ fc i (fun best1 => rBest_l0 w from_ fc k (i + 1) best1) k1 (i1 + 1) (Sl.mk x.isEmpty x) else rBest_l1 w from_ fc i (fun best1 => rBest_l0 w from_ fc k (i + 1) best1) k1 (i1 + 1) best1))) ([(i : Int), (i1 : Int), (IntKind.i64.wrap ((IntKind.i64.wrap (3 - (i : Int))) - (i1 : Int)))].drop (i2 + 1)) (i2 + 1) x2) fc.1.members.D 0 x') ||| ('(bif best1.nil then rBest_l1 w from_ fc i (fun best1 => rBest_l0 w from_ fc k (i + 1) best1) k1 (i1 + 1) (Sl.mk x.isEmpty x) else (bif (decide ((cost (Sl.mk x.isEmpty x) w from_) < (cost best1 w from_))) then rBest_l1 w from_ fc i (fun best1 => rBest_l0 w from_ fc k (i + 1) best1) k1 (i1 + 1) (Sl.mk x.isEmpty x) else rBest_l1 w from_ fc i (fun best1 => rBest_l0 w from_ fc k (i + 1) best1) k1 (i1 + 1) best1))', 'rBest_l3 x1 (fun x4 => rBest_l2 fc (fun x => (bif best1.nil then rBest_l1 w from_ fc i (fun best1 => rBest_l0 w from_ fc k (i + 1) best1) k1 (i1 + 1) (Sl.mk x.isEmpty x) else (bif (decide ((cost (Sl.mk x.isEmpty x) w from_) < (cost best1 w from_))) then rBest_l1 w from_ fc i (fun best1 => rBest_l0 w from_ fc k (i + 1) best1) k1 (i1 + 1) (Sl.mk x.isEmpty x) else rBest_l1 w from_ fc i (fun best1 => rBest_l0 w from_ fc k (i + 1) best1) k1 (i1 + 1) best1))) ([(i : Int), (i1 : Int), (IntKind.i64.wrap ((IntKind.i64.wrap (3 - (i : Int))) - (i1 : Int)))].drop (i2 + 1)) (i2 + 1) x4) fc.1.members.D 0 x')
    ·
     rw [show 3 - i1 = 0 by have := of_decide_eq_false h8; omega] at hR
     refine Awp.exit ?_
     refine Awp.regionP C ?_
     refine rvP C (.pv (.lit (.int .i64 (IntKind.i64.wrap ((i : Int) + 1))))) ?_
     refine rvP C (.pv (.lit (.int .i64 (IntKind.i64.wrap ((i : Int) + 1))))) ?_
     refine rvc_nil ?_
     refine ⟨h5, best1, ?_, ?_⟩
     · exact ⟨(by rw [show 3 - (i + 1) = k by omega]; exact hR), ⟨hWp, fun h_ => by have := (hWz h_).2; have := of_decide_eq_false ‹decide ((i1 : Int) < 3) = false›; omega⟩⟩
     · exact ⟨fun b => b, WeakerR.ofL (Ks := [4, 9]) hI ⟨⟨rfl, rfl⟩, ⟨rfl, rfl⟩, ⟨rfl, rfl⟩, ⟨rfl, rfl⟩, ⟨lit_cast (wrap_i64 (by omega) (by omega)), rfl⟩, trivial⟩ (okH_cons rfl rfl rfl rfl (okH_cons rfl rfl rfl rfl (okH_nil))) rfl⟩
   ·
    rw [show 3 - i = 0 by have := of_decide_eq_false h4; omega] at hR
    have hbn_ : best.nil = false := Bool.eq_false_iff.2 fun h_ => by have := hVz h_; have := of_decide_eq_false ‹decide ((i : Int) < 3) = false›; omega
    refine Awp.exit ?_
    refine Awp.consP C ?_
    refine rvP C (sS (some best.nil) eMember best.D) ?_
    refine rvP C (sS (some best.nil) eMember best.D) ?_
    refine rvP C (.agg [.pv (.lit (.int .i64 ((w 0) 0))), .pv (.lit (.int .i64 ((w 0) 1))), .pv (.lit (.int .i64 ((w 0) 2))), .pv (.lit (.int .i64 ((w 1) 0))), .pv (.lit (.int .i64 ((w 1) 1))), .pv (.lit (.int .i64 ((w 1) 2))), .pv (.lit (.int .i64 ((w 2) 0))), .pv (.lit (.int .i64 ((w 2) 1))), .pv (.lit (.int .i64 ((w 2) 2)))]) ?_
    refine rvP C (.pv (.lit (.int .i64 from_))) ?_
    refine rvc_un (rexec_call hP C rfl rfl rfl (cost_calls best w from_ (hVp hbn_).1 (hVp hbn_).2.2 (may_ok (eq_of_bne_false ‹(rMay fc.1 w from_ != 0) = false›)).2.2 (by have := (hVp hbn_).2.1; omega)) ?_)
    refine rvP C (sS (some best.nil) eMember best.D) ?_
    refine rvP C (.pv (.lit (.int .i64 (cost best w from_)))) ?_
    refine rvP C (.pv (.lit (.int .i64 0))) ?_
    refine rvc_nil ?_
    refine Awp.ret ?_
    subst hR
    exact ⟨.inl rfl, rfl⟩
end Go.Proofs.Ytihccnkegkkikaa
/- The best order of sites. No conditions. -/
namespace Go.Proofs.Ytihccnkegkkikaa
open Go.Am
def best_l2 (x : (Nat → Int)) (i1 : Nat) (kk : (List Member) → ((Sl Member) × Int × Int)) : List Member → Nat → (List Member) → (Sl Member) × Int × Int
  | [], _, members1 => kk members1
  | x1 :: x1s, i2, members1 => (bif (x1.site == (x i1)) then best_l2 x i1 kk x1s (i2 + 1) (members1 ++ [x1]) else best_l2 x i1 kk x1s (i2 + 1) members1)
def best_l1 (fc : Chain × Int) (x : (Nat → Int)) (kk : (List Member) → ((Sl Member) × Int × Int)) : Nat → Nat → (List Member) → (Sl Member) × Int × Int
  | 0, _, members => kk members
  | k + 1, i1, members => best_l2 x i1 (fun members2 => best_l1 fc x kk k (i1 + 1) members2) fc.1.members.D 0 members
def best_l0 (w : (Nat → (Nat → Int))) (from_ : Int) (fc : Chain × Int) : List (Nat → Int) → Nat → (Sl Member) → Int → (Sl Member) × Int × Int
  | [], _, best, least => (best, least, 0)
  | x :: xs, i, best, least => best_l1 fc x (fun members => (bif (decide (least < 0)) then best_l0 w from_ fc xs (i + 1) (Sl.mk members.isEmpty members) (IntKind.i64.wrap ((IntKind.i64.wrap (2 * ((w from_.toNat) (members[0]!.site).toNat))) + (IntKind.i64.wrap (2 * (down (Chain.mk 0 (Sl.mk members.isEmpty members)) w))))) else (bif (decide ((IntKind.i64.wrap ((IntKind.i64.wrap (2 * ((w from_.toNat) (members[0]!.site).toNat))) + (IntKind.i64.wrap (2 * (down (Chain.mk 0 (Sl.mk members.isEmpty members)) w))))) < least)) then best_l0 w from_ fc xs (i + 1) (Sl.mk members.isEmpty members) (IntKind.i64.wrap ((IntKind.i64.wrap (2 * ((w from_.toNat) (members[0]!.site).toNat))) + (IntKind.i64.wrap (2 * (down (Chain.mk 0 (Sl.mk members.isEmpty members)) w))))) else best_l0 w from_ fc xs (i + 1) best least))) 3 0 []
def best (l : (Sl Member)) (w : (Nat → (Nat → Int))) (from_ : Int) : (Sl Member) × Int × Int :=
  (bif ((firstC l).2 != 0) then ((Sl.mk true []), 0, (firstC l).2) else (bif ((able (firstC l).1 w from_) != 0) then ((Sl.mk true []), 0, (able (firstC l).1 w from_)) else best_l0 w from_ (firstC l) [(ofL [(0 : Int), 1, 2]), (ofL [(0 : Int), 2, 1]), (ofL [(1 : Int), 0, 2]), (ofL [(1 : Int), 2, 0]), (ofL [(2 : Int), 0, 1]), (ofL [(2 : Int), 1, 0])] 0 (Sl.mk true []) (-1)))
set_option maxHeartbeats 4000000 in
theorem best_calls (l : (Sl Member)) (w : (Nat → (Nat → Int))) (from_ : Int) (hl1 : l.D.length ≤ 1000000) : PCalls Try.prog 30 [sS (some l.nil) eMember l.D, .agg [.pv (.lit (.int .i64 ((w 0) 0))), .pv (.lit (.int .i64 ((w 0) 1))), .pv (.lit (.int .i64 ((w 0) 2))), .pv (.lit (.int .i64 ((w 1) 0))), .pv (.lit (.int .i64 ((w 1) 1))), .pv (.lit (.int .i64 ((w 1) 2))), .pv (.lit (.int .i64 ((w 2) 0))), .pv (.lit (.int .i64 ((w 2) 1))), .pv (.lit (.int .i64 ((w 2) 2)))], .pv (.lit (.int .i64 from_))] (.tup [sS (some (best l w from_).1.nil) eMember ((best l w from_).1.D), .pv (.lit (.int .i64 ((best l w from_).2.1))), .pv (.lit (.int .i64 ((best l w from_).2.2)))]) := by
 generalize hR : best l w from_ = R
 refine PCalls.of_body tabOk Try.func30 rfl rfl rfl rfl rfl mixed fun E hP C hI => ?_
 refine Awp.consP C ?_
 refine rvc_un (rexec_prim C (δ := { v := .ptr 4 0, new := [(4, .cells [.pv (.lit (.int .i64 ((w 0) 0))), .pv (.lit (.int .i64 ((w 0) 1))), .pv (.lit (.int .i64 ((w 0) 2))), .pv (.lit (.int .i64 ((w 1) 0))), .pv (.lit (.int .i64 ((w 1) 1))), .pv (.lit (.int .i64 ((w 1) 2))), .pv (.lit (.int .i64 ((w 2) 0))), .pv (.lit (.int .i64 ((w 2) 1))), .pv (.lit (.int .i64 ((w 2) 2)))])] }) rfl rfl rfl rfl trivial rfl ?_)
 refine rvP C (sS (some true) eMember []) ?_
 refine rvP C (.pv (.lit (.int .i64 0))) ?_
 refine rvP C (.pv (.lit (.int .i64 0))) ?_
 refine rvc_nil ?_
 refine Awp.consP C ?_
 refine rvP C (sS (some l.nil) eMember l.D) ?_
 obtain ⟨fc, hq_fc⟩ : ∃ q_, q_ = (firstC l) := ⟨_, rfl⟩
 have hc_fc := (firstC_calls l hl1)
 first | rw [← hq_fc] at hR hc_fc | (unfold best at hR; rw [← hq_fc] at hR hc_fc)
 have hf0_fc := firstC_len l
 rw [← hq_fc] at hf0_fc
 refine rvc_un (rexec_call hP C rfl rfl rfl hc_fc ?_)
 refine rvP C (.tup [.agg [.pv (.lit (.int .i64 fc.1.epoch)), sS (some fc.1.members.nil) eMember fc.1.members.D], .pv (.lit (.int .i64 fc.2))]) ?_
 refine rvP C (.agg [.pv (.lit (.int .i64 fc.1.epoch)), sS (some fc.1.members.nil) eMember fc.1.members.D]) ?_
 refine rvP C (.pv (.lit (.int .i64 fc.2))) ?_
 refine rvc_un (rexec_prim C (δ := { v := .ptr 9 0, new := [(9, .cells [.pv (.lit (.int .i64 0)), sS (some true) eMember []])] }) rfl rfl rfl rfl trivial rfl ?_)
 refine rvc_un (rexec_prim C (δ := { v := .undef, wr := [(9, some (.cells [.pv (.lit (.int .i64 fc.1.epoch)), sS (some fc.1.members.nil) eMember fc.1.members.D]))] }) rfl rfl rfl rfl trivial rfl ?_)
 refine rvP C (.pv (.lit (.int .i64 fc.2))) ?_
 refine rvc_nil ?_
 refine Awp.seq ?_
 refine Awp.consP C ?_
 refine rvP C (.pv (.lit (.int .i64 fc.2))) ?_
 refine rvP C (.pv (.lit (.bool (fc.2 != 0)))) ?_
 refine rvc_nil ?_
 refine Awp.cond (b := (fc.2 != 0)) rfl (fun h1 => ?_) (fun h1 => ?_)
 ·
  replace hR := of_true h1 hR
  refine Awp.consP C ?_
  refine rvP C (.pv (.lit (.int .i64 fc.2))) ?_
  refine rvP C (sS (some true) eMember []) ?_
  refine rvP C (.pv (.lit (.int .i64 0))) ?_
  refine rvP C (.pv (.lit (.int .i64 fc.2))) ?_
  refine rvc_nil ?_
  refine Awp.ret ?_
  subst hR
  exact ⟨.inl rfl, rfl⟩
 ·
  replace hR := of_false h1 hR
  refine Awp.skip ?_
  refine Awp.seq ?_
  refine Awp.consP C ?_
  refine rvP C (.agg [.pv (.lit (.int .i64 fc.1.epoch)), sS (some fc.1.members.nil) eMember fc.1.members.D]) ?_
  refine rvP C (.agg [.pv (.lit (.int .i64 ((w 0) 0))), .pv (.lit (.int .i64 ((w 0) 1))), .pv (.lit (.int .i64 ((w 0) 2))), .pv (.lit (.int .i64 ((w 1) 0))), .pv (.lit (.int .i64 ((w 1) 1))), .pv (.lit (.int .i64 ((w 1) 2))), .pv (.lit (.int .i64 ((w 2) 0))), .pv (.lit (.int .i64 ((w 2) 1))), .pv (.lit (.int .i64 ((w 2) 2)))]) ?_
  refine rvP C (.pv (.lit (.int .i64 from_))) ?_
  refine rvc_un (rexec_call hP C rfl rfl rfl (able_calls fc.1 w from_ (by show fc.1.members.D.length ≤ 1000000; have := firstC_len l; have := eq_of_bne_false h1; omega)) ?_)
  refine rvP C (.pv (.lit (.int .i64 (able fc.1 w from_)))) ?_
  refine rvc_nil ?_
  refine Awp.consP C ?_
  refine rvP C (.pv (.lit (.int .i64 (able fc.1 w from_)))) ?_
  refine rvP C (.pv (.lit (.bool ((able fc.1 w from_) != 0)))) ?_
  refine rvc_nil ?_
  refine Awp.cond (b := ((able fc.1 w from_) != 0)) rfl (fun h2 => ?_) (fun h2 => ?_)
  ·
   replace hR := of_true h2 hR
   refine Awp.consP C ?_
   refine rvP C (.pv (.lit (.int .i64 (able fc.1 w from_)))) ?_
   refine rvP C (sS (some true) eMember []) ?_
   refine rvP C (.pv (.lit (.int .i64 0))) ?_
   refine rvP C (.pv (.lit (.int .i64 (able fc.1 w from_)))) ?_
   refine rvc_nil ?_
   refine Awp.ret ?_
   subst hR
   exact ⟨.inl rfl, rfl⟩
  ·
   replace hR := of_false h2 hR
   refine Awp.skip ?_
   refine Awp.consP C ?_
   refine rvP C (sS (some true) eMember []) ?_
   refine rvc_nil ?_
   refine Awp.consP C ?_
   refine rvP C (.pv (.lit (.int .i64 (-1)))) ?_
   refine rvc_nil ?_
   refine Awp.seq ?_
   refine Awp.consP C ?_
   refine rvP C (.agg [.pv (.lit (.int .i64 0)), .pv (.lit (.int .i64 1)), .pv (.lit (.int .i64 2))]) ?_
   refine rvP C (.agg [.pv (.lit (.int .i64 0)), .pv (.lit (.int .i64 2)), .pv (.lit (.int .i64 1))]) ?_
   refine rvP C (.agg [.pv (.lit (.int .i64 1)), .pv (.lit (.int .i64 0)), .pv (.lit (.int .i64 2))]) ?_
   refine rvP C (.agg [.pv (.lit (.int .i64 1)), .pv (.lit (.int .i64 2)), .pv (.lit (.int .i64 0))]) ?_
   refine rvP C (.agg [.pv (.lit (.int .i64 2)), .pv (.lit (.int .i64 0)), .pv (.lit (.int .i64 1))]) ?_
   refine rvP C (.agg [.pv (.lit (.int .i64 2)), .pv (.lit (.int .i64 1)), .pv (.lit (.int .i64 0))]) ?_
   refine rvc_un (rexec_buildSliceF C (eA3 .i64) [(ofL [(0 : Int), 1, 2]), (ofL [(0 : Int), 2, 1]), (ofL [(1 : Int), 0, 2]), (ofL [(1 : Int), 2, 0]), (ofL [(2 : Int), 0, 1]), (ofL [(2 : Int), 1, 0])] rfl rfl rfl rfl rfl rfl rfl (by decide) rfl ?_)
   refine rvP C (.pv (.lit (.int .i64 ([(ofL [(0 : Int), 1, 2]), (ofL [(0 : Int), 2, 1]), (ofL [(1 : Int), 0, 2]), (ofL [(1 : Int), 2, 0]), (ofL [(2 : Int), 0, 1]), (ofL [(2 : Int), 1, 0])].length : Int)))) ?_
   refine rvP C (.pv (.lit (.int .i64 0))) ?_
   refine rvc_nil ?_
   refine Awp.block ?_
   refine Awp.forR (σ := ((Sl Member)) × Int) ([(ofL [(0 : Int), 1, 2]), (ofL [(0 : Int), 2, 1]), (ofL [(1 : Int), 0, 2]), (ofL [(1 : Int), 2, 0]), (ofL [(2 : Int), 0, 1]), (ofL [(2 : Int), 1, 0])].length) (fun i v => [(2, .pv (.lit (.int .i64 from_))), (4, .ptr 4 0), (9, .ptr 9 0), (12, sS (some v.1.nil) eMember v.1.D), (13, .pv (.lit (.int .i64 v.2))), (44, sS (some false) (eA3 .i64) [(ofL [(0 : Int), 1, 2]), (ofL [(0 : Int), 2, 1]), (ofL [(1 : Int), 0, 2]), (ofL [(1 : Int), 2, 0]), (ofL [(2 : Int), 0, 1]), (ofL [(2 : Int), 1, 0])]), (45, .pv (.lit (.int .i64 ([(ofL [(0 : Int), 1, 2]), (ofL [(0 : Int), 2, 1]), (ofL [(1 : Int), 0, 2]), (ofL [(1 : Int), 2, 0]), (ofL [(2 : Int), 0, 1]), (ofL [(2 : Int), 1, 0])].length : Int)))), (46, .pv (.lit (.int .i64 (i : Int))))]) (fun i v => [(4, .cells [.pv (.lit (.int .i64 ((w 0) 0))), .pv (.lit (.int .i64 ((w 0) 1))), .pv (.lit (.int .i64 ((w 0) 2))), .pv (.lit (.int .i64 ((w 1) 0))), .pv (.lit (.int .i64 ((w 1) 1))), .pv (.lit (.int .i64 ((w 1) 2))), .pv (.lit (.int .i64 ((w 2) 0))), .pv (.lit (.int .i64 ((w 2) 1))), .pv (.lit (.int .i64 ((w 2) 2)))]), (9, .cells [.pv (.lit (.int .i64 fc.1.epoch)), sS (some fc.1.members.nil) eMember fc.1.members.D])]) [4, 9] (fun i v => best_l0 w from_ fc ([(ofL [(0 : Int), 1, 2]), (ofL [(0 : Int), 2, 1]), (ofL [(1 : Int), 0, 2]), (ofL [(1 : Int), 2, 0]), (ofL [(2 : Int), 0, 1]), (ofL [(2 : Int), 1, 0])].drop i) i v.1 v.2 = R) ((Sl.mk true []), (-1)) ?_ ?_ (fun i v h3 hR => ?_)
   · exact hR
   · exact ⟨fun b => b, WeakerR.ofL (Ks := [4, 9]) hI ⟨⟨rfl, rfl⟩, ⟨rfl, rfl⟩, ⟨rfl, rfl⟩, ⟨rfl, rfl⟩, ⟨rfl, rfl⟩, ⟨rfl, rfl⟩, ⟨rfl, rfl⟩, ⟨rfl, rfl⟩, trivial⟩ (okH_cons rfl rfl rfl rfl (okH_cons rfl rfl rfl rfl (okH_nil))) rfl⟩
   obtain ⟨best, least⟩ := v
   have h6_ := check_le6 (able_ok (eq_of_bne_false ‹(able fc.1 w from_ != 0) = false›)).1
   have hl_ := check_len (able_ok (eq_of_bne_false ‹(able fc.1 w from_ != 0) = false›)).1
   have hb6_ : ([(ofL [(0 : Int), 1, 2]), (ofL [(0 : Int), 2, 1]), (ofL [(1 : Int), 0, 2]), (ofL [(1 : Int), 2, 0]), (ofL [(2 : Int), 0, 1]), (ofL [(2 : Int), 1, 0])] : List (Nat → Int)).length = 6 := rfl
   refine Awp.consP C ?_
   refine rvP C (.pv (.lit (.bool (decide ((i : Int) < ([(ofL [(0 : Int), 1, 2]), (ofL [(0 : Int), 2, 1]), (ofL [(1 : Int), 0, 2]), (ofL [(1 : Int), 2, 0]), (ofL [(2 : Int), 0, 1]), (ofL [(2 : Int), 1, 0])].length : Int)))))) ?_
   refine rvc_nil ?_
   refine Awp.seq ?_
   refine Awp.cond (b := (decide ((i : Int) < ([(ofL [(0 : Int), 1, 2]), (ofL [(0 : Int), 2, 1]), (ofL [(1 : Int), 0, 2]), (ofL [(1 : Int), 2, 0]), (ofL [(2 : Int), 0, 1]), (ofL [(2 : Int), 1, 0])].length : Int)))) rfl (fun h4 => ?_) (fun h4 => ?_)
   ·
    have h5 : i < [(ofL [(0 : Int), 1, 2]), (ofL [(0 : Int), 2, 1]), (ofL [(1 : Int), 0, 2]), (ofL [(1 : Int), 2, 0]), (ofL [(2 : Int), 0, 1]), (ofL [(2 : Int), 1, 0])].length := by have := of_decide_eq_true h4; omega
    obtain ⟨x, h6⟩ := getX h5
    rw [drop_at h6] at hR
    refine Awp.skip ?_
    refine Awp.seq ?_
    refine Awp.block ?_
    refine Awp.consP C ?_
    refine rvc_un (rexec_idxS C rfl rfl rfl rfl rfl rfl x (Int.natCast_nonneg _) h6 ?_)
    refine rvP C (.agg [.pv (.lit (.int .i64 (x 0))), .pv (.lit (.int .i64 (x 1))), .pv (.lit (.int .i64 (x 2)))]) ?_
    refine rvc_un (rexec_prim C (δ := { v := .ptr 15 0, new := [(15, .cells [.pv (.lit (.int .i64 0)), .pv (.lit (.int .i64 0)), .pv (.lit (.int .i64 0))])] }) rfl rfl rfl rfl trivial rfl ?_)
    refine rvc_un (rexec_prim C (δ := { v := .undef, wr := [(15, some (.cells [.pv (.lit (.int .i64 (x 0))), .pv (.lit (.int .i64 (x 1))), .pv (.lit (.int .i64 (x 2)))]))] }) rfl rfl rfl rfl trivial rfl ?_)
    refine rvc_nil ?_
    refine Awp.consP C ?_
    refine rvP C (sS (some true) eMember []) ?_
    refine rvc_nil ?_
    refine Awp.seq ?_
    refine Awp.consP C ?_
    refine rvP C (.agg [.pv (.lit (.int .i64 (x 0))), .pv (.lit (.int .i64 (x 1))), .pv (.lit (.int .i64 (x 2)))]) ?_
    refine rvP C (.pv (.lit (.int .i64 0))) ?_
    refine rvc_nil ?_
    refine Awp.block ?_
    refine Awp.forR (σ := ((List Member))) (3) (fun i1 v => [(2, .pv (.lit (.int .i64 from_))), (4, .ptr 4 0), (9, .ptr 9 0), (12, sS (some best.nil) eMember best.D), (13, .pv (.lit (.int .i64 least))), (16, grow 900 eMember v), (44, sS (some false) (eA3 .i64) [(ofL [(0 : Int), 1, 2]), (ofL [(0 : Int), 2, 1]), (ofL [(1 : Int), 0, 2]), (ofL [(1 : Int), 2, 0]), (ofL [(2 : Int), 0, 1]), (ofL [(2 : Int), 1, 0])]), (45, .pv (.lit (.int .i64 ([(ofL [(0 : Int), 1, 2]), (ofL [(0 : Int), 2, 1]), (ofL [(1 : Int), 0, 2]), (ofL [(1 : Int), 2, 0]), (ofL [(2 : Int), 0, 1]), (ofL [(2 : Int), 1, 0])].length : Int)))), (46, .pv (.lit (.int .i64 (i : Int)))), (50, .agg [.pv (.lit (.int .i64 (x 0))), .pv (.lit (.int .i64 (x 1))), .pv (.lit (.int .i64 (x 2)))]), (51, .pv (.lit (.int .i64 (i1 : Int))))]) (fun i1 v => (growH 900 eMember v ++ ([(4, .cells [.pv (.lit (.int .i64 ((w 0) 0))), .pv (.lit (.int .i64 ((w 0) 1))), .pv (.lit (.int .i64 ((w 0) 2))), .pv (.lit (.int .i64 ((w 1) 0))), .pv (.lit (.int .i64 ((w 1) 1))), .pv (.lit (.int .i64 ((w 1) 2))), .pv (.lit (.int .i64 ((w 2) 0))), .pv (.lit (.int .i64 ((w 2) 1))), .pv (.lit (.int .i64 ((w 2) 2)))]), (9, .cells [.pv (.lit (.int .i64 fc.1.epoch)), sS (some fc.1.members.nil) eMember fc.1.members.D])]))) [4, 9, 900] (fun i1 v => (best_l1 fc x (fun members => (bif (decide (least < 0)) then best_l0 w from_ fc ([(ofL [(0 : Int), 1, 2]), (ofL [(0 : Int), 2, 1]), (ofL [(1 : Int), 0, 2]), (ofL [(1 : Int), 2, 0]), (ofL [(2 : Int), 0, 1]), (ofL [(2 : Int), 1, 0])].drop (i + 1)) (i + 1) (Sl.mk members.isEmpty members) (IntKind.i64.wrap ((IntKind.i64.wrap (2 * ((w from_.toNat) (members[0]!.site).toNat))) + (IntKind.i64.wrap (2 * (down (Chain.mk 0 (Sl.mk members.isEmpty members)) w))))) else (bif (decide ((IntKind.i64.wrap ((IntKind.i64.wrap (2 * ((w from_.toNat) (members[0]!.site).toNat))) + (IntKind.i64.wrap (2 * (down (Chain.mk 0 (Sl.mk members.isEmpty members)) w))))) < least)) then best_l0 w from_ fc ([(ofL [(0 : Int), 1, 2]), (ofL [(0 : Int), 2, 1]), (ofL [(1 : Int), 0, 2]), (ofL [(1 : Int), 2, 0]), (ofL [(2 : Int), 0, 1]), (ofL [(2 : Int), 1, 0])].drop (i + 1)) (i + 1) (Sl.mk members.isEmpty members) (IntKind.i64.wrap ((IntKind.i64.wrap (2 * ((w from_.toNat) (members[0]!.site).toNat))) + (IntKind.i64.wrap (2 * (down (Chain.mk 0 (Sl.mk members.isEmpty members)) w))))) else best_l0 w from_ fc ([(ofL [(0 : Int), 1, 2]), (ofL [(0 : Int), 2, 1]), (ofL [(1 : Int), 0, 2]), (ofL [(1 : Int), 2, 0]), (ofL [(2 : Int), 0, 1]), (ofL [(2 : Int), 1, 0])].drop (i + 1)) (i + 1) best least))) (3 - i1) i1 v = R) ∧ (v = inOrder fc.1.members.D x i1) ∧ (v.length ≤ i1 * 6)) [] ?_ ?_ (fun i1 members h7 hR => ?_)
    · exact ⟨hR, rfl, (by first | omega | (simp <;> omega))⟩
    · exact ⟨fun b => b, WeakerR.ofL (Ks := [4, 9, 900]) hI ⟨⟨rfl, rfl⟩, ⟨rfl, rfl⟩, ⟨rfl, rfl⟩, ⟨rfl, rfl⟩, ⟨rfl, rfl⟩, ⟨rfl, rfl⟩, ⟨rfl, rfl⟩, ⟨rfl, rfl⟩, ⟨rfl, rfl⟩, ⟨rfl, rfl⟩, ⟨rfl, rfl⟩, trivial⟩ (okH_grow (fun hne => absurd rfl hne) rfl rfl (okH_cons rfl rfl rfl rfl (okH_cons rfl rfl rfl rfl (okH_nil)))) rfl⟩
    obtain ⟨hR, hV, hi_members⟩ := hR
    replace hi_members : members.length ≤ i1 * 6 := hi_members
    by_cases h8 : members = []
    ·
     refine Awp.wordsR [(2, .pv (.lit (.int .i64 from_))), (4, .ptr 4 0), (9, .ptr 9 0), (12, sS (some best.nil) eMember best.D), (13, .pv (.lit (.int .i64 least))), (16, sS (some members.isEmpty) eMember members), (44, sS (some false) (eA3 .i64) [(ofL [(0 : Int), 1, 2]), (ofL [(0 : Int), 2, 1]), (ofL [(1 : Int), 0, 2]), (ofL [(1 : Int), 2, 0]), (ofL [(2 : Int), 0, 1]), (ofL [(2 : Int), 1, 0])]), (45, .pv (.lit (.int .i64 ([(ofL [(0 : Int), 1, 2]), (ofL [(0 : Int), 2, 1]), (ofL [(1 : Int), 0, 2]), (ofL [(1 : Int), 2, 0]), (ofL [(2 : Int), 0, 1]), (ofL [(2 : Int), 1, 0])].length : Int)))), (46, .pv (.lit (.int .i64 (i : Int)))), (50, .agg [.pv (.lit (.int .i64 (x 0))), .pv (.lit (.int .i64 (x 1))), .pv (.lit (.int .i64 (x 2)))]), (51, .pv (.lit (.int .i64 (i1 : Int))))] [(4, .cells [.pv (.lit (.int .i64 ((w 0) 0))), .pv (.lit (.int .i64 ((w 0) 1))), .pv (.lit (.int .i64 ((w 0) 2))), .pv (.lit (.int .i64 ((w 1) 0))), .pv (.lit (.int .i64 ((w 1) 1))), .pv (.lit (.int .i64 ((w 1) 2))), .pv (.lit (.int .i64 ((w 2) 0))), .pv (.lit (.int .i64 ((w 2) 1))), .pv (.lit (.int .i64 ((w 2) 2)))]), (9, .cells [.pv (.lit (.int .i64 fc.1.epoch)), sS (some fc.1.members.nil) eMember fc.1.members.D])] [4, 9] (WeakerR.ofL (Ks := [4, 9]) hI ⟨⟨rfl, rfl⟩, ⟨rfl, rfl⟩, ⟨rfl, rfl⟩, ⟨rfl, rfl⟩, ⟨rfl, rfl⟩, ⟨(by exact grow_at_nil (b := 900) (e := eMember) (l := members) rfl h8), rfl⟩, ⟨rfl, rfl⟩, ⟨rfl, rfl⟩, ⟨rfl, rfl⟩, ⟨rfl, rfl⟩, ⟨rfl, rfl⟩, trivial⟩ (okH_cons (look_nil h8 rfl) rfl rfl rfl (okH_cons (look_nil h8 rfl) rfl rfl rfl (okH_nil))) rfl) ?_
     refine Awp.consP C ?_
     refine rvP C (.pv (.lit (.bool (decide ((i1 : Int) < 3))))) ?_
     refine rvc_nil ?_
     refine Awp.seq ?_
     refine Awp.cond (b := (decide ((i1 : Int) < 3))) rfl (fun h9 => ?_) (fun h9 => ?_)
     ·
      have h10 : i1 < 3 := by have := of_decide_eq_true h9; omega
      obtain ⟨k, h11⟩ : ∃ k, 3 - i1 = k + 1 := ⟨3 - i1 - 1, by omega⟩
      rw [h11] at hR
      refine Awp.skip ?_
      refine Awp.seq ?_
      refine Awp.block ?_
      refine Awp.consP C ?_
      refine rvc_un (rexec_idxA C (fun j => .pv (.lit (.int .i64 (x j)))) (.pv (.lit (.int .i64 (x i1)))) rfl rfl rfl rfl rfl rfl rfl rfl ⟨(by have := firstC_len l; have := eq_of_bne_false h1; have := eq_of_bne_false h2; have := of_decide_eq_true h4; have := of_decide_eq_true h9; omega), (by have := firstC_len l; have := eq_of_bne_false h1; have := eq_of_bne_false h2; have := of_decide_eq_true h4; have := of_decide_eq_true h9; omega)⟩ rfl ?_)
      refine rvP C (.pv (.lit (.int .i64 (x i1)))) ?_
      refine rvc_nil ?_
      refine Awp.consP C ?_
      refine rvP C (.ptr 9 1) ?_
      refine rvP C (sS (some fc.1.members.nil) eMember fc.1.members.D) ?_
      refine rvP C (.pv (.lit (.int .i64 (fc.1.members.D.length : Int)))) ?_
      refine rvP C (.pv (.lit (.int .i64 0))) ?_
      refine rvc_nil ?_
      refine Awp.block ?_
      refine Awp.forR (σ := ((List Member))) (fc.1.members.D.length) (fun i2 v => [(2, .pv (.lit (.int .i64 from_))), (4, .ptr 4 0), (9, .ptr 9 0), (12, sS (some best.nil) eMember best.D), (13, .pv (.lit (.int .i64 least))), (16, grow 901 eMember v), (18, .pv (.lit (.int .i64 (x i1)))), (44, sS (some false) (eA3 .i64) [(ofL [(0 : Int), 1, 2]), (ofL [(0 : Int), 2, 1]), (ofL [(1 : Int), 0, 2]), (ofL [(1 : Int), 2, 0]), (ofL [(2 : Int), 0, 1]), (ofL [(2 : Int), 1, 0])]), (45, .pv (.lit (.int .i64 ([(ofL [(0 : Int), 1, 2]), (ofL [(0 : Int), 2, 1]), (ofL [(1 : Int), 0, 2]), (ofL [(1 : Int), 2, 0]), (ofL [(2 : Int), 0, 1]), (ofL [(2 : Int), 1, 0])].length : Int)))), (46, .pv (.lit (.int .i64 (i : Int)))), (50, .agg [.pv (.lit (.int .i64 (x 0))), .pv (.lit (.int .i64 (x 1))), .pv (.lit (.int .i64 (x 2)))]), (51, .pv (.lit (.int .i64 (i1 : Int)))), (55, sS (some fc.1.members.nil) eMember fc.1.members.D), (56, .pv (.lit (.int .i64 (fc.1.members.D.length : Int)))), (57, .pv (.lit (.int .i64 (i2 : Int))))]) (fun i2 v => (growH 901 eMember v ++ ([(4, .cells [.pv (.lit (.int .i64 ((w 0) 0))), .pv (.lit (.int .i64 ((w 0) 1))), .pv (.lit (.int .i64 ((w 0) 2))), .pv (.lit (.int .i64 ((w 1) 0))), .pv (.lit (.int .i64 ((w 1) 1))), .pv (.lit (.int .i64 ((w 1) 2))), .pv (.lit (.int .i64 ((w 2) 0))), .pv (.lit (.int .i64 ((w 2) 1))), .pv (.lit (.int .i64 ((w 2) 2)))]), (9, .cells [.pv (.lit (.int .i64 fc.1.epoch)), sS (some fc.1.members.nil) eMember fc.1.members.D])]))) [4, 9, 901] (fun i2 v => (best_l2 x i1 (fun members1 => best_l1 fc x (fun members => (bif (decide (least < 0)) then best_l0 w from_ fc ([(ofL [(0 : Int), 1, 2]), (ofL [(0 : Int), 2, 1]), (ofL [(1 : Int), 0, 2]), (ofL [(1 : Int), 2, 0]), (ofL [(2 : Int), 0, 1]), (ofL [(2 : Int), 1, 0])].drop (i + 1)) (i + 1) (Sl.mk members.isEmpty members) (IntKind.i64.wrap ((IntKind.i64.wrap (2 * ((w from_.toNat) (members[0]!.site).toNat))) + (IntKind.i64.wrap (2 * (down (Chain.mk 0 (Sl.mk members.isEmpty members)) w))))) else (bif (decide ((IntKind.i64.wrap ((IntKind.i64.wrap (2 * ((w from_.toNat) (members[0]!.site).toNat))) + (IntKind.i64.wrap (2 * (down (Chain.mk 0 (Sl.mk members.isEmpty members)) w))))) < least)) then best_l0 w from_ fc ([(ofL [(0 : Int), 1, 2]), (ofL [(0 : Int), 2, 1]), (ofL [(1 : Int), 0, 2]), (ofL [(1 : Int), 2, 0]), (ofL [(2 : Int), 0, 1]), (ofL [(2 : Int), 1, 0])].drop (i + 1)) (i + 1) (Sl.mk members.isEmpty members) (IntKind.i64.wrap ((IntKind.i64.wrap (2 * ((w from_.toNat) (members[0]!.site).toNat))) + (IntKind.i64.wrap (2 * (down (Chain.mk 0 (Sl.mk members.isEmpty members)) w))))) else best_l0 w from_ fc ([(ofL [(0 : Int), 1, 2]), (ofL [(0 : Int), 2, 1]), (ofL [(1 : Int), 0, 2]), (ofL [(1 : Int), 2, 0]), (ofL [(2 : Int), 0, 1]), (ofL [(2 : Int), 1, 0])].drop (i + 1)) (i + 1) best least))) k (i1 + 1) members1) (fc.1.members.D.drop i2) i2 v = R) ∧ (v = inOrder fc.1.members.D x i1 ++ (fc.1.members.D.take i2).filter fun y => y.site == x i1) ∧ (v.length ≤ members.length + i2)) members ?_ ?_ (fun i2 members1 h12 hR => ?_)
      · exact ⟨hR, (by rw [List.take_zero, List.filter_nil, List.append_nil]; exact hV), (by first | omega | (simp <;> omega))⟩
      · exact ⟨fun b => b, WeakerR.ofL (Ks := [4, 9, 901]) hI ⟨⟨rfl, rfl⟩, ⟨rfl, rfl⟩, ⟨rfl, rfl⟩, ⟨rfl, rfl⟩, ⟨rfl, rfl⟩, ⟨grow_to_nil rfl h8 (.inr rfl), grow_within rfl⟩, ⟨rfl, rfl⟩, ⟨rfl, rfl⟩, ⟨rfl, rfl⟩, ⟨rfl, rfl⟩, ⟨rfl, rfl⟩, ⟨rfl, rfl⟩, ⟨rfl, rfl⟩, ⟨rfl, rfl⟩, ⟨rfl, rfl⟩, trivial⟩ (okH_grow (fun hne => absurd h8 hne) rfl rfl (okH_cons rfl rfl rfl rfl (okH_cons rfl rfl rfl rfl (okH_nil)))) rfl⟩
      obtain ⟨hR, hW, hi_members1⟩ := hR
      replace hi_members1 : members1.length ≤ members.length + i2 := hi_members1
      by_cases h13 : members1 = []
      ·
       refine Awp.wordsR [(2, .pv (.lit (.int .i64 from_))), (4, .ptr 4 0), (9, .ptr 9 0), (12, sS (some best.nil) eMember best.D), (13, .pv (.lit (.int .i64 least))), (16, sS (some members1.isEmpty) eMember members1), (18, .pv (.lit (.int .i64 (x i1)))), (44, sS (some false) (eA3 .i64) [(ofL [(0 : Int), 1, 2]), (ofL [(0 : Int), 2, 1]), (ofL [(1 : Int), 0, 2]), (ofL [(1 : Int), 2, 0]), (ofL [(2 : Int), 0, 1]), (ofL [(2 : Int), 1, 0])]), (45, .pv (.lit (.int .i64 ([(ofL [(0 : Int), 1, 2]), (ofL [(0 : Int), 2, 1]), (ofL [(1 : Int), 0, 2]), (ofL [(1 : Int), 2, 0]), (ofL [(2 : Int), 0, 1]), (ofL [(2 : Int), 1, 0])].length : Int)))), (46, .pv (.lit (.int .i64 (i : Int)))), (50, .agg [.pv (.lit (.int .i64 (x 0))), .pv (.lit (.int .i64 (x 1))), .pv (.lit (.int .i64 (x 2)))]), (51, .pv (.lit (.int .i64 (i1 : Int)))), (55, sS (some fc.1.members.nil) eMember fc.1.members.D), (56, .pv (.lit (.int .i64 (fc.1.members.D.length : Int)))), (57, .pv (.lit (.int .i64 (i2 : Int))))] [(4, .cells [.pv (.lit (.int .i64 ((w 0) 0))), .pv (.lit (.int .i64 ((w 0) 1))), .pv (.lit (.int .i64 ((w 0) 2))), .pv (.lit (.int .i64 ((w 1) 0))), .pv (.lit (.int .i64 ((w 1) 1))), .pv (.lit (.int .i64 ((w 1) 2))), .pv (.lit (.int .i64 ((w 2) 0))), .pv (.lit (.int .i64 ((w 2) 1))), .pv (.lit (.int .i64 ((w 2) 2)))]), (9, .cells [.pv (.lit (.int .i64 fc.1.epoch)), sS (some fc.1.members.nil) eMember fc.1.members.D])] [4, 9] (WeakerR.ofL (Ks := [4, 9]) hI ⟨⟨rfl, rfl⟩, ⟨rfl, rfl⟩, ⟨rfl, rfl⟩, ⟨rfl, rfl⟩, ⟨rfl, rfl⟩, ⟨(by exact grow_at_nil (b := 901) (e := eMember) (l := members1) rfl h13), rfl⟩, ⟨rfl, rfl⟩, ⟨rfl, rfl⟩, ⟨rfl, rfl⟩, ⟨rfl, rfl⟩, ⟨rfl, rfl⟩, ⟨rfl, rfl⟩, ⟨rfl, rfl⟩, ⟨rfl, rfl⟩, ⟨rfl, rfl⟩, trivial⟩ (okH_cons (look_nil h13 rfl) rfl rfl rfl (okH_cons (look_nil h13 rfl) rfl rfl rfl (okH_nil))) rfl) ?_
       refine Awp.consP C ?_
       refine rvP C (.pv (.lit (.bool (decide ((i2 : Int) < (fc.1.members.D.length : Int)))))) ?_
       refine rvc_nil ?_
       refine Awp.seq ?_
       refine Awp.cond (b := (decide ((i2 : Int) < (fc.1.members.D.length : Int)))) rfl (fun h14 => ?_) (fun h14 => ?_)
       ·
        have h15 : i2 < fc.1.members.D.length := by have := of_decide_eq_true h14; omega
        obtain ⟨x1, h16⟩ := getX h15
        rw [drop_at h16] at hR
        refine Awp.skip ?_
        refine Awp.seq ?_
        refine Awp.block ?_
        refine Awp.consP C ?_
        refine rvc_un (rexec_idxS C rfl rfl rfl rfl rfl rfl x1 (Int.natCast_nonneg _) h16 ?_)
        refine rvP C (.agg [.pv (.lit (.int .i64 x1.node)), .pv (.lit (.int .i64 x1.site)), .pv (.lit (.bool x1.fresh))]) ?_
        refine rvc_un (rexec_prim C (δ := { v := .ptr 20 0, new := [(20, .cells [.pv (.lit (.int .i64 0)), .pv (.lit (.int .i64 0)), .pv (.lit (.bool false))])] }) rfl rfl rfl rfl trivial rfl ?_)
        refine rvc_un (rexec_prim C (δ := { v := .undef, wr := [(20, some (.cells [.pv (.lit (.int .i64 x1.node)), .pv (.lit (.int .i64 x1.site)), .pv (.lit (.bool x1.fresh))]))] }) rfl rfl rfl rfl trivial rfl ?_)
        refine rvc_nil ?_
        refine Awp.consP C ?_
        refine rvP C (.ptr 20 1) ?_
        refine rvP C (.pv (.lit (.int .i64 x1.site))) ?_
        refine rvP C (.pv (.lit (.int .i64 (x i1)))) ?_
        refine rvP C (.pv (.lit (.bool (x1.site == (x i1))))) ?_
        refine rvc_nil ?_
        refine Awp.cond (b := (x1.site == (x i1))) rfl (fun h17 => ?_) (fun h17 => ?_)
        ·
         replace hR := of_true h17 hR
         refine Awp.regionP C ?_
         refine rvP C (sS (some members1.isEmpty) eMember members1) ?_
         refine rvP C (.agg [.pv (.lit (.int .i64 x1.node)), .pv (.lit (.int .i64 x1.site)), .pv (.lit (.bool x1.fresh))]) ?_
         refine rvc_un (rexec_buildSliceF C eMember [x1] rfl rfl rfl rfl rfl rfl rfl (by decide) rfl ?_)
         refine rvc_un (rexec_appendG C rfl rfl rfl rfl rfl rfl rfl rfl (fun _ h => by cases h) rfl (en := eMember) (l := members1) (D := [x1]) rfl rfl h13 (by rw [h13]; rfl) (by simp) (by have := firstC_len l; have := eq_of_bne_false h1; have := eq_of_bne_false h2; have := of_decide_eq_true h4; have := of_decide_eq_true h9; have := of_decide_eq_true h14; have := beq_iff_eq.1 h17; first | omega | (simp <;> omega)) (by decide) (nn := (members1 ++ [x1]).length) (by simp) ?_)
         refine rvP C (.sl 68 0 ((members1 ++ [x1]).length) 3 false) ?_
         refine rvc_nil ?_
         refine Awp.regionP C ?_
         refine rvP C (.pv (.lit (.int .i64 (IntKind.i64.wrap ((i2 : Int) + 1))))) ?_
         refine rvP C (.pv (.lit (.int .i64 (IntKind.i64.wrap ((i2 : Int) + 1))))) ?_
         refine rvc_nil ?_
         refine ⟨h15, (members1 ++ [x1]), ?_, ?_⟩
         · exact ⟨hR, (by first | exact order_in hW (by assumption) (by assumption) | exact order_out hW (by assumption) (by assumption)), (by first | omega | (simp <;> omega))⟩
         · exact ⟨fun b => bif b == 901 then 68 else (fun b => b) b, WeakerR.ofL (Ks := [4, 9, 901]) hI ⟨⟨rfl, rfl⟩, ⟨rfl, rfl⟩, ⟨rfl, rfl⟩, ⟨rfl, rfl⟩, ⟨rfl, rfl⟩, ⟨grow_to rfl rfl app_ne rfl rfl, grow_within rfl⟩, ⟨rfl, rfl⟩, ⟨rfl, rfl⟩, ⟨rfl, rfl⟩, ⟨rfl, rfl⟩, ⟨rfl, rfl⟩, ⟨rfl, rfl⟩, ⟨rfl, rfl⟩, ⟨rfl, rfl⟩, ⟨lit_cast (wrap_i64 (by omega) (by omega)), rfl⟩, trivial⟩ (okH_grow (fun _ => rfl) rfl rfl (okH_cons rfl rfl rfl rfl (okH_cons rfl rfl rfl rfl (okH_nil)))) rfl⟩
        ·
         replace hR := of_false h17 hR
         refine Awp.skip ?_
         refine Awp.regionP C ?_
         refine rvP C (.pv (.lit (.int .i64 (IntKind.i64.wrap ((i2 : Int) + 1))))) ?_
         refine rvP C (.pv (.lit (.int .i64 (IntKind.i64.wrap ((i2 : Int) + 1))))) ?_
         refine rvc_nil ?_
         refine ⟨h15, members1, ?_, ?_⟩
         · exact ⟨hR, (by first | exact order_in hW (by assumption) (by assumption) | exact order_out hW (by assumption) (by assumption)), (by first | omega | (simp <;> omega))⟩
         · exact ⟨fun b => b, WeakerR.ofL (Ks := [4, 9, 901]) hI ⟨⟨rfl, rfl⟩, ⟨rfl, rfl⟩, ⟨rfl, rfl⟩, ⟨rfl, rfl⟩, ⟨rfl, rfl⟩, ⟨grow_to_nil rfl h13 (.inr rfl), grow_within rfl⟩, ⟨rfl, rfl⟩, ⟨rfl, rfl⟩, ⟨rfl, rfl⟩, ⟨rfl, rfl⟩, ⟨rfl, rfl⟩, ⟨rfl, rfl⟩, ⟨rfl, rfl⟩, ⟨rfl, rfl⟩, ⟨lit_cast (wrap_i64 (by omega) (by omega)), rfl⟩, trivial⟩ (okH_grow (fun hne => absurd h13 hne) rfl rfl (okH_cons rfl rfl rfl rfl (okH_cons rfl rfl rfl rfl (okH_nil)))) rfl⟩
       ·
        have h15 : ¬ i2 < fc.1.members.D.length := by have := of_decide_eq_false h14; omega
        rw [drop_end h15] at hR
        refine Awp.exit ?_
        refine Awp.regionP C ?_
        refine rvP C (.pv (.lit (.int .i64 (IntKind.i64.wrap ((i1 : Int) + 1))))) ?_
        refine rvP C (.pv (.lit (.int .i64 (IntKind.i64.wrap ((i1 : Int) + 1))))) ?_
        refine rvc_nil ?_
        refine ⟨h10, members1, ?_, ?_⟩
        · exact ⟨(by rw [show 3 - (i1 + 1) = k by omega]; exact hR), (order_step hW (by omega)), (by first | omega | (simp <;> omega))⟩
        · exact ⟨fun b => b, WeakerR.ofL (Ks := [4, 9, 900]) hI ⟨⟨rfl, rfl⟩, ⟨rfl, rfl⟩, ⟨rfl, rfl⟩, ⟨rfl, rfl⟩, ⟨rfl, rfl⟩, ⟨grow_to_nil rfl h13 (.inr rfl), grow_within rfl⟩, ⟨rfl, rfl⟩, ⟨rfl, rfl⟩, ⟨rfl, rfl⟩, ⟨rfl, rfl⟩, ⟨lit_cast (wrap_i64 (by omega) (by omega)), rfl⟩, trivial⟩ (okH_grow (fun hne => absurd h13 hne) rfl rfl (okH_cons rfl rfl rfl rfl (okH_cons rfl rfl rfl rfl (okH_nil)))) rfl⟩
      ·
       refine Awp.wordsR [(2, .pv (.lit (.int .i64 from_))), (4, .ptr 4 0), (9, .ptr 9 0), (12, sS (some best.nil) eMember best.D), (13, .pv (.lit (.int .i64 least))), (16, .sl 901 0 members1.length 3 false), (18, .pv (.lit (.int .i64 (x i1)))), (44, sS (some false) (eA3 .i64) [(ofL [(0 : Int), 1, 2]), (ofL [(0 : Int), 2, 1]), (ofL [(1 : Int), 0, 2]), (ofL [(1 : Int), 2, 0]), (ofL [(2 : Int), 0, 1]), (ofL [(2 : Int), 1, 0])]), (45, .pv (.lit (.int .i64 ([(ofL [(0 : Int), 1, 2]), (ofL [(0 : Int), 2, 1]), (ofL [(1 : Int), 0, 2]), (ofL [(1 : Int), 2, 0]), (ofL [(2 : Int), 0, 1]), (ofL [(2 : Int), 1, 0])].length : Int)))), (46, .pv (.lit (.int .i64 (i : Int)))), (50, .agg [.pv (.lit (.int .i64 (x 0))), .pv (.lit (.int .i64 (x 1))), .pv (.lit (.int .i64 (x 2)))]), (51, .pv (.lit (.int .i64 (i1 : Int)))), (55, sS (some fc.1.members.nil) eMember fc.1.members.D), (56, .pv (.lit (.int .i64 (fc.1.members.D.length : Int)))), (57, .pv (.lit (.int .i64 (i2 : Int))))] [(901, .cells (encC eMember members1)), (4, .cells [.pv (.lit (.int .i64 ((w 0) 0))), .pv (.lit (.int .i64 ((w 0) 1))), .pv (.lit (.int .i64 ((w 0) 2))), .pv (.lit (.int .i64 ((w 1) 0))), .pv (.lit (.int .i64 ((w 1) 1))), .pv (.lit (.int .i64 ((w 1) 2))), .pv (.lit (.int .i64 ((w 2) 0))), .pv (.lit (.int .i64 ((w 2) 1))), .pv (.lit (.int .i64 ((w 2) 2)))]), (9, .cells [.pv (.lit (.int .i64 fc.1.epoch)), sS (some fc.1.members.nil) eMember fc.1.members.D])] [4, 9, 901] (WeakerR.ofL (Ks := [4, 9, 901]) hI ⟨⟨rfl, rfl⟩, ⟨rfl, rfl⟩, ⟨rfl, rfl⟩, ⟨rfl, rfl⟩, ⟨rfl, rfl⟩, ⟨(by exact grow_at_cons (b := 901) (b' := 901) (e := eMember) (l := members1) rfl h13 rfl rfl rfl), rfl⟩, ⟨rfl, rfl⟩, ⟨rfl, rfl⟩, ⟨rfl, rfl⟩, ⟨rfl, rfl⟩, ⟨rfl, rfl⟩, ⟨rfl, rfl⟩, ⟨rfl, rfl⟩, ⟨rfl, rfl⟩, ⟨rfl, rfl⟩, trivial⟩ (okH_list (look_cons h13 rfl) rfl rfl (okH_cons (look_cons h13 rfl) rfl rfl rfl (okH_cons (look_cons h13 rfl) rfl rfl rfl (okH_nil)))) rfl) ?_
       refine Awp.consP C ?_
       refine rvP C (.pv (.lit (.bool (decide ((i2 : Int) < (fc.1.members.D.length : Int)))))) ?_
       refine rvc_nil ?_
       refine Awp.seq ?_
       refine Awp.cond (b := (decide ((i2 : Int) < (fc.1.members.D.length : Int)))) rfl (fun h18 => ?_) (fun h18 => ?_)
       ·
        have h19 : i2 < fc.1.members.D.length := by have := of_decide_eq_true h18; omega
        obtain ⟨x1, h20⟩ := getX h19
        rw [drop_at h20] at hR
        refine Awp.skip ?_
        refine Awp.seq ?_
        refine Awp.block ?_
        refine Awp.consP C ?_
        refine rvc_un (rexec_idxS C rfl rfl rfl rfl rfl rfl x1 (Int.natCast_nonneg _) h20 ?_)
        refine rvP C (.agg [.pv (.lit (.int .i64 x1.node)), .pv (.lit (.int .i64 x1.site)), .pv (.lit (.bool x1.fresh))]) ?_
        refine rvc_un (rexec_prim C (δ := { v := .ptr 20 0, new := [(20, .cells [.pv (.lit (.int .i64 0)), .pv (.lit (.int .i64 0)), .pv (.lit (.bool false))])] }) rfl rfl rfl rfl trivial rfl ?_)
        refine rvc_un (rexec_prim C (δ := { v := .undef, wr := [(20, some (.cells [.pv (.lit (.int .i64 x1.node)), .pv (.lit (.int .i64 x1.site)), .pv (.lit (.bool x1.fresh))]))] }) rfl rfl rfl rfl trivial rfl ?_)
        refine rvc_nil ?_
        refine Awp.consP C ?_
        refine rvP C (.ptr 20 1) ?_
        refine rvP C (.pv (.lit (.int .i64 x1.site))) ?_
        refine rvP C (.pv (.lit (.int .i64 (x i1)))) ?_
        refine rvP C (.pv (.lit (.bool (x1.site == (x i1))))) ?_
        refine rvc_nil ?_
        refine Awp.cond (b := (x1.site == (x i1))) rfl (fun h21 => ?_) (fun h21 => ?_)
        ·
         replace hR := of_true h21 hR
         refine Awp.regionP C ?_
         refine rvP C (.sl 901 0 members1.length 3 false) ?_
         refine rvP C (.agg [.pv (.lit (.int .i64 x1.node)), .pv (.lit (.int .i64 x1.site)), .pv (.lit (.bool x1.fresh))]) ?_
         refine rvc_un (rexec_buildSliceF C eMember [x1] rfl rfl rfl rfl rfl rfl rfl (by decide) rfl ?_)
         refine rvc_un (rexec_append C rfl rfl rfl rfl rfl rfl rfl rfl (fun _ h => by cases h) rfl (en := eMember) (D0 := members1) (D := [x1]) rfl rfl rfl rfl (by have := firstC_len l; have := eq_of_bne_false h1; have := eq_of_bne_false h2; have := of_decide_eq_true h4; have := of_decide_eq_true h9; have := of_decide_eq_true h18; have := beq_iff_eq.1 h21; first | omega | (simp <;> omega)) (by decide) (nn := (members1 ++ [x1]).length) (by simp) ?_)
         refine rvP C (.sl 68 0 ((members1 ++ [x1]).length) 3 false) ?_
         refine rvc_nil ?_
         refine Awp.regionP C ?_
         refine rvP C (.pv (.lit (.int .i64 (IntKind.i64.wrap ((i2 : Int) + 1))))) ?_
         refine rvP C (.pv (.lit (.int .i64 (IntKind.i64.wrap ((i2 : Int) + 1))))) ?_
         refine rvc_nil ?_
         refine ⟨h19, (members1 ++ [x1]), ?_, ?_⟩
         · exact ⟨hR, (by first | exact order_in hW (by assumption) (by assumption) | exact order_out hW (by assumption) (by assumption)), (by first | omega | (simp <;> omega))⟩
         · exact ⟨fun b => bif b == 901 then 68 else (fun b => b) b, WeakerR.ofL (Ks := [4, 9, 901]) hI ⟨⟨rfl, rfl⟩, ⟨rfl, rfl⟩, ⟨rfl, rfl⟩, ⟨rfl, rfl⟩, ⟨rfl, rfl⟩, ⟨grow_to rfl rfl app_ne rfl rfl, grow_within rfl⟩, ⟨rfl, rfl⟩, ⟨rfl, rfl⟩, ⟨rfl, rfl⟩, ⟨rfl, rfl⟩, ⟨rfl, rfl⟩, ⟨rfl, rfl⟩, ⟨rfl, rfl⟩, ⟨rfl, rfl⟩, ⟨lit_cast (wrap_i64 (by omega) (by omega)), rfl⟩, trivial⟩ (okH_grow (fun _ => rfl) rfl rfl (okH_cons rfl rfl rfl rfl (okH_cons rfl rfl rfl rfl (okH_nil)))) rfl⟩
        ·
         replace hR := of_false h21 hR
         refine Awp.skip ?_
         refine Awp.regionP C ?_
         refine rvP C (.pv (.lit (.int .i64 (IntKind.i64.wrap ((i2 : Int) + 1))))) ?_
         refine rvP C (.pv (.lit (.int .i64 (IntKind.i64.wrap ((i2 : Int) + 1))))) ?_
         refine rvc_nil ?_
         refine ⟨h19, members1, ?_, ?_⟩
         · exact ⟨hR, (by first | exact order_in hW (by assumption) (by assumption) | exact order_out hW (by assumption) (by assumption)), (by first | omega | (simp <;> omega))⟩
         · exact ⟨fun b => b, WeakerR.ofL (Ks := [4, 9, 901]) hI ⟨⟨rfl, rfl⟩, ⟨rfl, rfl⟩, ⟨rfl, rfl⟩, ⟨rfl, rfl⟩, ⟨rfl, rfl⟩, ⟨grow_to rfl rfl h13 rfl rfl, grow_within rfl⟩, ⟨rfl, rfl⟩, ⟨rfl, rfl⟩, ⟨rfl, rfl⟩, ⟨rfl, rfl⟩, ⟨rfl, rfl⟩, ⟨rfl, rfl⟩, ⟨rfl, rfl⟩, ⟨rfl, rfl⟩, ⟨lit_cast (wrap_i64 (by omega) (by omega)), rfl⟩, trivial⟩ (okH_grow (fun _ => rfl) rfl rfl (okH_cons rfl rfl rfl rfl (okH_cons rfl rfl rfl rfl (okH_nil)))) rfl⟩
       ·
        have h19 : ¬ i2 < fc.1.members.D.length := by have := of_decide_eq_false h18; omega
        rw [drop_end h19] at hR
        refine Awp.exit ?_
        refine Awp.regionP C ?_
        refine rvP C (.pv (.lit (.int .i64 (IntKind.i64.wrap ((i1 : Int) + 1))))) ?_
        refine rvP C (.pv (.lit (.int .i64 (IntKind.i64.wrap ((i1 : Int) + 1))))) ?_
        refine rvc_nil ?_
        refine ⟨h10, members1, ?_, ?_⟩
        · exact ⟨(by rw [show 3 - (i1 + 1) = k by omega]; exact hR), (order_step hW (by omega)), (by first | omega | (simp <;> omega))⟩
        · exact ⟨fun b => bif b == 900 then 901 else (fun b => b) b, WeakerR.ofL (Ks := [4, 9, 900]) hI ⟨⟨rfl, rfl⟩, ⟨rfl, rfl⟩, ⟨rfl, rfl⟩, ⟨rfl, rfl⟩, ⟨rfl, rfl⟩, ⟨grow_to rfl rfl h13 rfl rfl, grow_within rfl⟩, ⟨rfl, rfl⟩, ⟨rfl, rfl⟩, ⟨rfl, rfl⟩, ⟨rfl, rfl⟩, ⟨lit_cast (wrap_i64 (by omega) (by omega)), rfl⟩, trivial⟩ (okH_grow (fun _ => rfl) rfl rfl (okH_cons rfl rfl rfl rfl (okH_cons rfl rfl rfl rfl (okH_nil)))) rfl⟩
     ·
      rw [show 3 - i1 = 0 by have := of_decide_eq_false h9; omega] at hR
      have hms_ := order_mem hV (by have := of_decide_eq_false ‹decide ((i1 : Int) < 3) = false›; omega) (List.mem_of_getElem? (by assumption)) hl_ (sites_ok (able_ok (eq_of_bne_false ‹(able fc.1 w from_ != 0) = false›)).1)
      refine Awp.exit ?_
      refine Awp.consP C ?_
      refine rvP C (sS (some members.isEmpty) eMember members) ?_
      refine rvP C (.agg [.pv (.lit (.int .i64 0)), sS (some members.isEmpty) eMember members]) ?_
      refine rvc_un (rexec_prim C (δ := { v := .ptr 21 0, new := [(21, .cells [.pv (.lit (.int .i64 0)), sS (some true) eMember []])] }) rfl rfl rfl rfl trivial rfl ?_)
      refine rvc_un (rexec_prim C (δ := { v := .undef, wr := [(21, some (.cells [.pv (.lit (.int .i64 0)), sS (some members.isEmpty) eMember members]))] }) rfl rfl rfl rfl trivial rfl ?_)
      refine rvc_nil ?_
      refine Awp.consP C ?_
      refine rvP C (.pv (.lit (.int .i64 from_))) ?_
      refine rvP C (sS (some members.isEmpty) eMember members) ?_
      have h22 : members[0]? = some members[0]! := getE (by have := hms_.1; omega)
      refine rvc_un (rexec_idxS C rfl rfl rfl rfl rfl rfl (members[0]!) (Int.natCast_nonneg _) h22 ?_)
      refine rvP C (.rp [.lit (.int .i64 (members[0]!.site))]) ?_
      refine rvP C (.pv (.lit (.int .i64 (members[0]!.site)))) ?_
      refine rvc_un (rexec_prim C (δ := { v := .ptr 4 (0 + from_.toNat * 3) }) rfl rfl rfl rfl ⟨(by have := (able_ok (eq_of_bne_false ‹(able fc.1 w from_ != 0) = false›)).2.2; omega), (by have := (able_ok (eq_of_bne_false ‹(able fc.1 w from_ != 0) = false›)).2.2; omega)⟩ rfl ?_)
      refine rvc_un (rexec_prim C (δ := { v := .ptr 4 (0 + from_.toNat * 3 + (members[0]!.site).toNat * 1) }) rfl rfl rfl rfl ⟨(by have q_ := hms_.2.1 _ (at_mem (n := 0) hms_.1); omega), (by have q_ := hms_.2.1 _ (at_mem (n := 0) hms_.1); omega)⟩ rfl ?_)
      refine rvc_un (rexec_load33 C (fun p q => .pv (.lit (.int .i64 ((w p) q)))) from_.toNat (members[0]!.site).toNat (.pv (.lit (.int .i64 ((w from_.toNat) (members[0]!.site).toNat)))) rfl rfl rfl rfl rfl rfl rfl (by have := (able_ok (eq_of_bne_false ‹(able fc.1 w from_ != 0) = false›)).2.2; omega) (by have q_ := hms_.2.1 _ (at_mem (n := 0) hms_.1); omega) rfl ?_)
      refine rvP C (.pv (.lit (.int .i64 (IntKind.i64.wrap (2 * ((w from_.toNat) (members[0]!.site).toNat)))))) ?_
      refine rvP C (.agg [.pv (.lit (.int .i64 0)), sS (some members.isEmpty) eMember members]) ?_
      refine rvP C (.agg [.pv (.lit (.int .i64 ((w 0) 0))), .pv (.lit (.int .i64 ((w 0) 1))), .pv (.lit (.int .i64 ((w 0) 2))), .pv (.lit (.int .i64 ((w 1) 0))), .pv (.lit (.int .i64 ((w 1) 1))), .pv (.lit (.int .i64 ((w 1) 2))), .pv (.lit (.int .i64 ((w 2) 0))), .pv (.lit (.int .i64 ((w 2) 1))), .pv (.lit (.int .i64 ((w 2) 2)))]) ?_
      refine rvc_un (rexec_call hP C rfl rfl rfl (down_calls (Chain.mk 0 (Sl.mk members.isEmpty members)) w hms_.1 (by dsimp only; omega) hms_.2.1) ?_)
      refine rvP C (.pv (.lit (.int .i64 (IntKind.i64.wrap (2 * (down (Chain.mk 0 (Sl.mk members.isEmpty members)) w)))))) ?_
      refine rvP C (.pv (.lit (.int .i64 (IntKind.i64.wrap ((IntKind.i64.wrap (2 * ((w from_.toNat) (members[0]!.site).toNat))) + (IntKind.i64.wrap (2 * (down (Chain.mk 0 (Sl.mk members.isEmpty members)) w)))))))) ?_
      refine rvP C (.pv (.lit (.int .i64 (IntKind.i64.wrap ((IntKind.i64.wrap (2 * ((w from_.toNat) (members[0]!.site).toNat))) + (IntKind.i64.wrap (2 * (down (Chain.mk 0 (Sl.mk members.isEmpty members)) w)))))))) ?_
      refine rvc_nil ?_
      refine Awp.consP C ?_
      refine rvP C (.pv (.lit (.int .i64 least))) ?_
      refine rvP C (.pv (.lit (.bool (decide (least < 0))))) ?_
      refine rvP C (.pv (.lit (.bool (decide (least < 0))))) ?_
      refine rvc_case 89 (decide (least < 0)) rfl (fun h23 => ?_) (fun h23 => ?_)
      ·
       replace hR := of_true h23 hR
       refine rvS ?_
       refine rvS ?_
       refine rvS ?_
       refine rvP C (.pv (.lit (.bool true))) ?_
       refine rvc_nil ?_
       refine Awp.condT (b := true) rfl rfl ?_
       refine Awp.regionP C ?_
       refine rvP C (sS (some members.isEmpty) eMember members) ?_
       refine rvP C (.pv (.lit (.int .i64 (IntKind.i64.wrap ((IntKind.i64.wrap (2 * ((w from_.toNat) (members[0]!.site).toNat))) + (IntKind.i64.wrap (2 * (down (Chain.mk 0 (Sl.mk members.isEmpty members)) w)))))))) ?_
       refine rvP C (sS (some members.isEmpty) eMember members) ?_
       refine rvP C (.pv (.lit (.int .i64 (IntKind.i64.wrap ((IntKind.i64.wrap (2 * ((w from_.toNat) (members[0]!.site).toNat))) + (IntKind.i64.wrap (2 * (down (Chain.mk 0 (Sl.mk members.isEmpty members)) w)))))))) ?_
       refine rvc_nil ?_
       refine Awp.regionP C ?_
       refine rvP C (.pv (.lit (.int .i64 (IntKind.i64.wrap ((i : Int) + 1))))) ?_
       refine rvP C (.pv (.lit (.int .i64 (IntKind.i64.wrap ((i : Int) + 1))))) ?_
       refine rvc_nil ?_
       refine ⟨h5, ((Sl.mk members.isEmpty members), (IntKind.i64.wrap ((IntKind.i64.wrap (2 * ((w from_.toNat) (members[0]!.site).toNat))) + (IntKind.i64.wrap (2 * (down (Chain.mk 0 (Sl.mk members.isEmpty members)) w)))))), ?_, ?_⟩
       · exact hR
       · exact ⟨fun b => b, WeakerR.ofL (Ks := [4, 9]) hI ⟨⟨rfl, rfl⟩, ⟨rfl, rfl⟩, ⟨rfl, rfl⟩, ⟨rfl, rfl⟩, ⟨rfl, rfl⟩, ⟨rfl, rfl⟩, ⟨rfl, rfl⟩, ⟨lit_cast (wrap_i64 (by omega) (by omega)), rfl⟩, trivial⟩ (okH_cons rfl rfl rfl rfl (okH_cons rfl rfl rfl rfl (okH_nil))) rfl⟩
      ·
       replace hR := of_false h23 hR
       refine rvO C (.pv (.lit (.int .i64 (IntKind.i64.wrap ((IntKind.i64.wrap (2 * ((w from_.toNat) (members[0]!.site).toNat))) + (IntKind.i64.wrap (2 * (down (Chain.mk 0 (Sl.mk members.isEmpty members)) w)))))))) ?_
       refine rvO C (.pv (.lit (.int .i64 least))) ?_
       refine rvO C (.pv (.lit (.bool (decide ((IntKind.i64.wrap ((IntKind.i64.wrap (2 * ((w from_.toNat) (members[0]!.site).toNat))) + (IntKind.i64.wrap (2 * (down (Chain.mk 0 (Sl.mk members.isEmpty members)) w))))) < least))))) ?_
       refine rvP C (.pv (.lit (.bool (decide ((IntKind.i64.wrap ((IntKind.i64.wrap (2 * ((w from_.toNat) (members[0]!.site).toNat))) + (IntKind.i64.wrap (2 * (down (Chain.mk 0 (Sl.mk members.isEmpty members)) w))))) < least))))) ?_
       refine rvc_nil ?_
       refine Awp.cond (b := (decide ((IntKind.i64.wrap ((IntKind.i64.wrap (2 * ((w from_.toNat) (members[0]!.site).toNat))) + (IntKind.i64.wrap (2 * (down (Chain.mk 0 (Sl.mk members.isEmpty members)) w))))) < least))) rfl (fun h24 => ?_) (fun h24 => ?_)
       ·
        replace hR := of_true h24 hR
        refine Awp.regionP C ?_
        refine rvP C (sS (some members.isEmpty) eMember members) ?_
        refine rvP C (.pv (.lit (.int .i64 (IntKind.i64.wrap ((IntKind.i64.wrap (2 * ((w from_.toNat) (members[0]!.site).toNat))) + (IntKind.i64.wrap (2 * (down (Chain.mk 0 (Sl.mk members.isEmpty members)) w)))))))) ?_
        refine rvP C (sS (some members.isEmpty) eMember members) ?_
        refine rvP C (.pv (.lit (.int .i64 (IntKind.i64.wrap ((IntKind.i64.wrap (2 * ((w from_.toNat) (members[0]!.site).toNat))) + (IntKind.i64.wrap (2 * (down (Chain.mk 0 (Sl.mk members.isEmpty members)) w)))))))) ?_
        refine rvc_nil ?_
        refine Awp.regionP C ?_
        refine rvP C (.pv (.lit (.int .i64 (IntKind.i64.wrap ((i : Int) + 1))))) ?_
        refine rvP C (.pv (.lit (.int .i64 (IntKind.i64.wrap ((i : Int) + 1))))) ?_
        refine rvc_nil ?_
        refine ⟨h5, ((Sl.mk members.isEmpty members), (IntKind.i64.wrap ((IntKind.i64.wrap (2 * ((w from_.toNat) (members[0]!.site).toNat))) + (IntKind.i64.wrap (2 * (down (Chain.mk 0 (Sl.mk members.isEmpty members)) w)))))), ?_, ?_⟩
        · exact hR
        · exact ⟨fun b => b, WeakerR.ofL (Ks := [4, 9]) hI ⟨⟨rfl, rfl⟩, ⟨rfl, rfl⟩, ⟨rfl, rfl⟩, ⟨rfl, rfl⟩, ⟨rfl, rfl⟩, ⟨rfl, rfl⟩, ⟨rfl, rfl⟩, ⟨lit_cast (wrap_i64 (by omega) (by omega)), rfl⟩, trivial⟩ (okH_cons rfl rfl rfl rfl (okH_cons rfl rfl rfl rfl (okH_nil))) rfl⟩
       ·
        replace hR := of_false h24 hR
        refine Awp.skip ?_
        refine Awp.regionP C ?_
        refine rvP C (.pv (.lit (.int .i64 (IntKind.i64.wrap ((i : Int) + 1))))) ?_
        refine rvP C (.pv (.lit (.int .i64 (IntKind.i64.wrap ((i : Int) + 1))))) ?_
        refine rvc_nil ?_
        refine ⟨h5, (best, least), ?_, ?_⟩
        · exact hR
        · exact ⟨fun b => b, WeakerR.ofL (Ks := [4, 9]) hI ⟨⟨rfl, rfl⟩, ⟨rfl, rfl⟩, ⟨rfl, rfl⟩, ⟨rfl, rfl⟩, ⟨rfl, rfl⟩, ⟨rfl, rfl⟩, ⟨rfl, rfl⟩, ⟨lit_cast (wrap_i64 (by omega) (by omega)), rfl⟩, trivial⟩ (okH_cons rfl rfl rfl rfl (okH_cons rfl rfl rfl rfl (okH_nil))) rfl⟩
    ·
     refine Awp.wordsR [(2, .pv (.lit (.int .i64 from_))), (4, .ptr 4 0), (9, .ptr 9 0), (12, sS (some best.nil) eMember best.D), (13, .pv (.lit (.int .i64 least))), (16, .sl 900 0 members.length 3 false), (44, sS (some false) (eA3 .i64) [(ofL [(0 : Int), 1, 2]), (ofL [(0 : Int), 2, 1]), (ofL [(1 : Int), 0, 2]), (ofL [(1 : Int), 2, 0]), (ofL [(2 : Int), 0, 1]), (ofL [(2 : Int), 1, 0])]), (45, .pv (.lit (.int .i64 ([(ofL [(0 : Int), 1, 2]), (ofL [(0 : Int), 2, 1]), (ofL [(1 : Int), 0, 2]), (ofL [(1 : Int), 2, 0]), (ofL [(2 : Int), 0, 1]), (ofL [(2 : Int), 1, 0])].length : Int)))), (46, .pv (.lit (.int .i64 (i : Int)))), (50, .agg [.pv (.lit (.int .i64 (x 0))), .pv (.lit (.int .i64 (x 1))), .pv (.lit (.int .i64 (x 2)))]), (51, .pv (.lit (.int .i64 (i1 : Int))))] [(900, .cells (encC eMember members)), (4, .cells [.pv (.lit (.int .i64 ((w 0) 0))), .pv (.lit (.int .i64 ((w 0) 1))), .pv (.lit (.int .i64 ((w 0) 2))), .pv (.lit (.int .i64 ((w 1) 0))), .pv (.lit (.int .i64 ((w 1) 1))), .pv (.lit (.int .i64 ((w 1) 2))), .pv (.lit (.int .i64 ((w 2) 0))), .pv (.lit (.int .i64 ((w 2) 1))), .pv (.lit (.int .i64 ((w 2) 2)))]), (9, .cells [.pv (.lit (.int .i64 fc.1.epoch)), sS (some fc.1.members.nil) eMember fc.1.members.D])] [4, 9, 900] (WeakerR.ofL (Ks := [4, 9, 900]) hI ⟨⟨rfl, rfl⟩, ⟨rfl, rfl⟩, ⟨rfl, rfl⟩, ⟨rfl, rfl⟩, ⟨rfl, rfl⟩, ⟨(by exact grow_at_cons (b := 900) (b' := 900) (e := eMember) (l := members) rfl h8 rfl rfl rfl), rfl⟩, ⟨rfl, rfl⟩, ⟨rfl, rfl⟩, ⟨rfl, rfl⟩, ⟨rfl, rfl⟩, ⟨rfl, rfl⟩, trivial⟩ (okH_list (look_cons h8 rfl) rfl rfl (okH_cons (look_cons h8 rfl) rfl rfl rfl (okH_cons (look_cons h8 rfl) rfl rfl rfl (okH_nil)))) rfl) ?_
     refine Awp.consP C ?_
     refine rvP C (.pv (.lit (.bool (decide ((i1 : Int) < 3))))) ?_
     refine rvc_nil ?_
     refine Awp.seq ?_
     refine Awp.cond (b := (decide ((i1 : Int) < 3))) rfl (fun h25 => ?_) (fun h25 => ?_)
     ·
      have h26 : i1 < 3 := by have := of_decide_eq_true h25; omega
      obtain ⟨k, h27⟩ : ∃ k, 3 - i1 = k + 1 := ⟨3 - i1 - 1, by omega⟩
      rw [h27] at hR
      refine Awp.skip ?_
      refine Awp.seq ?_
      refine Awp.block ?_
      refine Awp.consP C ?_
      refine rvc_un (rexec_idxA C (fun j => .pv (.lit (.int .i64 (x j)))) (.pv (.lit (.int .i64 (x i1)))) rfl rfl rfl rfl rfl rfl rfl rfl ⟨(by have := firstC_len l; have := eq_of_bne_false h1; have := eq_of_bne_false h2; have := of_decide_eq_true h4; have := of_decide_eq_true h25; omega), (by have := firstC_len l; have := eq_of_bne_false h1; have := eq_of_bne_false h2; have := of_decide_eq_true h4; have := of_decide_eq_true h25; omega)⟩ rfl ?_)
      refine rvP C (.pv (.lit (.int .i64 (x i1)))) ?_
      refine rvc_nil ?_
      refine Awp.consP C ?_
      refine rvP C (.ptr 9 1) ?_
      refine rvP C (sS (some fc.1.members.nil) eMember fc.1.members.D) ?_
      refine rvP C (.pv (.lit (.int .i64 (fc.1.members.D.length : Int)))) ?_
      refine rvP C (.pv (.lit (.int .i64 0))) ?_
      refine rvc_nil ?_
      refine Awp.block ?_
      refine Awp.forR (σ := ((List Member))) (fc.1.members.D.length) (fun i3 v => [(2, .pv (.lit (.int .i64 from_))), (4, .ptr 4 0), (9, .ptr 9 0), (12, sS (some best.nil) eMember best.D), (13, .pv (.lit (.int .i64 least))), (16, .sl 902 0 v.length 3 false), (18, .pv (.lit (.int .i64 (x i1)))), (44, sS (some false) (eA3 .i64) [(ofL [(0 : Int), 1, 2]), (ofL [(0 : Int), 2, 1]), (ofL [(1 : Int), 0, 2]), (ofL [(1 : Int), 2, 0]), (ofL [(2 : Int), 0, 1]), (ofL [(2 : Int), 1, 0])]), (45, .pv (.lit (.int .i64 ([(ofL [(0 : Int), 1, 2]), (ofL [(0 : Int), 2, 1]), (ofL [(1 : Int), 0, 2]), (ofL [(1 : Int), 2, 0]), (ofL [(2 : Int), 0, 1]), (ofL [(2 : Int), 1, 0])].length : Int)))), (46, .pv (.lit (.int .i64 (i : Int)))), (50, .agg [.pv (.lit (.int .i64 (x 0))), .pv (.lit (.int .i64 (x 1))), .pv (.lit (.int .i64 (x 2)))]), (51, .pv (.lit (.int .i64 (i1 : Int)))), (55, sS (some fc.1.members.nil) eMember fc.1.members.D), (56, .pv (.lit (.int .i64 (fc.1.members.D.length : Int)))), (57, .pv (.lit (.int .i64 (i3 : Int))))]) (fun i3 v => [(4, .cells [.pv (.lit (.int .i64 ((w 0) 0))), .pv (.lit (.int .i64 ((w 0) 1))), .pv (.lit (.int .i64 ((w 0) 2))), .pv (.lit (.int .i64 ((w 1) 0))), .pv (.lit (.int .i64 ((w 1) 1))), .pv (.lit (.int .i64 ((w 1) 2))), .pv (.lit (.int .i64 ((w 2) 0))), .pv (.lit (.int .i64 ((w 2) 1))), .pv (.lit (.int .i64 ((w 2) 2)))]), (9, .cells [.pv (.lit (.int .i64 fc.1.epoch)), sS (some fc.1.members.nil) eMember fc.1.members.D]), (902, .cells (encC eMember v))]) [4, 9, 902] (fun i3 v => (best_l2 x i1 (fun members2 => best_l1 fc x (fun members => (bif (decide (least < 0)) then best_l0 w from_ fc ([(ofL [(0 : Int), 1, 2]), (ofL [(0 : Int), 2, 1]), (ofL [(1 : Int), 0, 2]), (ofL [(1 : Int), 2, 0]), (ofL [(2 : Int), 0, 1]), (ofL [(2 : Int), 1, 0])].drop (i + 1)) (i + 1) (Sl.mk members.isEmpty members) (IntKind.i64.wrap ((IntKind.i64.wrap (2 * ((w from_.toNat) (members[0]!.site).toNat))) + (IntKind.i64.wrap (2 * (down (Chain.mk 0 (Sl.mk members.isEmpty members)) w))))) else (bif (decide ((IntKind.i64.wrap ((IntKind.i64.wrap (2 * ((w from_.toNat) (members[0]!.site).toNat))) + (IntKind.i64.wrap (2 * (down (Chain.mk 0 (Sl.mk members.isEmpty members)) w))))) < least)) then best_l0 w from_ fc ([(ofL [(0 : Int), 1, 2]), (ofL [(0 : Int), 2, 1]), (ofL [(1 : Int), 0, 2]), (ofL [(1 : Int), 2, 0]), (ofL [(2 : Int), 0, 1]), (ofL [(2 : Int), 1, 0])].drop (i + 1)) (i + 1) (Sl.mk members.isEmpty members) (IntKind.i64.wrap ((IntKind.i64.wrap (2 * ((w from_.toNat) (members[0]!.site).toNat))) + (IntKind.i64.wrap (2 * (down (Chain.mk 0 (Sl.mk members.isEmpty members)) w))))) else best_l0 w from_ fc ([(ofL [(0 : Int), 1, 2]), (ofL [(0 : Int), 2, 1]), (ofL [(1 : Int), 0, 2]), (ofL [(1 : Int), 2, 0]), (ofL [(2 : Int), 0, 1]), (ofL [(2 : Int), 1, 0])].drop (i + 1)) (i + 1) best least))) k (i1 + 1) members2) (fc.1.members.D.drop i3) i3 v = R) ∧ (v = inOrder fc.1.members.D x i1 ++ (fc.1.members.D.take i3).filter fun y => y.site == x i1) ∧ (v ≠ [] ∧ v.length ≤ members.length + i3)) members ?_ ?_ (fun i3 members2 h28 hR => ?_)
      · exact ⟨hR, (by rw [List.take_zero, List.filter_nil, List.append_nil]; exact hV), ⟨h8, (by first | omega | (simp <;> omega))⟩⟩
      · exact ⟨fun b => bif b == 902 then 900 else (fun b => b) b, WeakerR.ofL (Ks := [4, 9, 902]) hI ⟨⟨rfl, rfl⟩, ⟨rfl, rfl⟩, ⟨rfl, rfl⟩, ⟨rfl, rfl⟩, ⟨rfl, rfl⟩, ⟨rfl, rfl⟩, ⟨rfl, rfl⟩, ⟨rfl, rfl⟩, ⟨rfl, rfl⟩, ⟨rfl, rfl⟩, ⟨rfl, rfl⟩, ⟨rfl, rfl⟩, ⟨rfl, rfl⟩, ⟨rfl, rfl⟩, ⟨rfl, rfl⟩, trivial⟩ (okH_cons rfl rfl rfl rfl (okH_cons rfl rfl rfl rfl (okH_list rfl rfl rfl (okH_nil)))) rfl⟩
      obtain ⟨hR, hW, ⟨hn_members2, hi_members2⟩⟩ := hR
      replace hi_members2 : members2.length ≤ members.length + i3 := hi_members2
      refine Awp.consP C ?_
      refine rvP C (.pv (.lit (.bool (decide ((i3 : Int) < (fc.1.members.D.length : Int)))))) ?_
      refine rvc_nil ?_
      refine Awp.seq ?_
      refine Awp.cond (b := (decide ((i3 : Int) < (fc.1.members.D.length : Int)))) rfl (fun h29 => ?_) (fun h29 => ?_)
      ·
       have h30 : i3 < fc.1.members.D.length := by have := of_decide_eq_true h29; omega
       obtain ⟨x2, h31⟩ := getX h30
       rw [drop_at h31] at hR
       refine Awp.skip ?_
       refine Awp.seq ?_
       refine Awp.block ?_
       refine Awp.consP C ?_
       refine rvc_un (rexec_idxS C rfl rfl rfl rfl rfl rfl x2 (Int.natCast_nonneg _) h31 ?_)
       refine rvP C (.agg [.pv (.lit (.int .i64 x2.node)), .pv (.lit (.int .i64 x2.site)), .pv (.lit (.bool x2.fresh))]) ?_
       refine rvc_un (rexec_prim C (δ := { v := .ptr 20 0, new := [(20, .cells [.pv (.lit (.int .i64 0)), .pv (.lit (.int .i64 0)), .pv (.lit (.bool false))])] }) rfl rfl rfl rfl trivial rfl ?_)
       refine rvc_un (rexec_prim C (δ := { v := .undef, wr := [(20, some (.cells [.pv (.lit (.int .i64 x2.node)), .pv (.lit (.int .i64 x2.site)), .pv (.lit (.bool x2.fresh))]))] }) rfl rfl rfl rfl trivial rfl ?_)
       refine rvc_nil ?_
       refine Awp.consP C ?_
       refine rvP C (.ptr 20 1) ?_
       refine rvP C (.pv (.lit (.int .i64 x2.site))) ?_
       refine rvP C (.pv (.lit (.int .i64 (x i1)))) ?_
       refine rvP C (.pv (.lit (.bool (x2.site == (x i1))))) ?_
       refine rvc_nil ?_
       refine Awp.cond (b := (x2.site == (x i1))) rfl (fun h32 => ?_) (fun h32 => ?_)
       ·
        replace hR := of_true h32 hR
        refine Awp.regionP C ?_
        refine rvP C (.sl 902 0 members2.length 3 false) ?_
        refine rvP C (.agg [.pv (.lit (.int .i64 x2.node)), .pv (.lit (.int .i64 x2.site)), .pv (.lit (.bool x2.fresh))]) ?_
        refine rvc_un (rexec_buildSliceF C eMember [x2] rfl rfl rfl rfl rfl rfl rfl (by decide) rfl ?_)
        refine rvc_un (rexec_append C rfl rfl rfl rfl rfl rfl rfl rfl (fun _ h => by cases h) rfl (en := eMember) (D0 := members2) (D := [x2]) rfl rfl rfl rfl (by have := firstC_len l; have := eq_of_bne_false h1; have := eq_of_bne_false h2; have := of_decide_eq_true h4; have := of_decide_eq_true h25; have := of_decide_eq_true h29; have := beq_iff_eq.1 h32; first | omega | (simp <;> omega)) (by decide) (nn := (members2 ++ [x2]).length) (by simp) ?_)
        refine rvP C (.sl 68 0 ((members2 ++ [x2]).length) 3 false) ?_
        refine rvc_nil ?_
        refine Awp.regionP C ?_
        refine rvP C (.pv (.lit (.int .i64 (IntKind.i64.wrap ((i3 : Int) + 1))))) ?_
        refine rvP C (.pv (.lit (.int .i64 (IntKind.i64.wrap ((i3 : Int) + 1))))) ?_
        refine rvc_nil ?_
        refine ⟨h30, (members2 ++ [x2]), ?_, ?_⟩
        · exact ⟨hR, (by first | exact order_in hW (by assumption) (by assumption) | exact order_out hW (by assumption) (by assumption)), ⟨app_ne, (by first | omega | (simp <;> omega))⟩⟩
        · exact ⟨fun b => bif b == 902 then 68 else (fun b => b) b, WeakerR.ofL (Ks := [4, 9, 902]) hI ⟨⟨rfl, rfl⟩, ⟨rfl, rfl⟩, ⟨rfl, rfl⟩, ⟨rfl, rfl⟩, ⟨rfl, rfl⟩, ⟨rfl, rfl⟩, ⟨rfl, rfl⟩, ⟨rfl, rfl⟩, ⟨rfl, rfl⟩, ⟨rfl, rfl⟩, ⟨rfl, rfl⟩, ⟨rfl, rfl⟩, ⟨rfl, rfl⟩, ⟨rfl, rfl⟩, ⟨lit_cast (wrap_i64 (by omega) (by omega)), rfl⟩, trivial⟩ (okH_cons rfl rfl rfl rfl (okH_cons rfl rfl rfl rfl (okH_list rfl rfl rfl (okH_nil)))) rfl⟩
       ·
        replace hR := of_false h32 hR
        refine Awp.skip ?_
        refine Awp.regionP C ?_
        refine rvP C (.pv (.lit (.int .i64 (IntKind.i64.wrap ((i3 : Int) + 1))))) ?_
        refine rvP C (.pv (.lit (.int .i64 (IntKind.i64.wrap ((i3 : Int) + 1))))) ?_
        refine rvc_nil ?_
        refine ⟨h30, members2, ?_, ?_⟩
        · exact ⟨hR, (by first | exact order_in hW (by assumption) (by assumption) | exact order_out hW (by assumption) (by assumption)), ⟨hn_members2, (by first | omega | (simp <;> omega))⟩⟩
        · exact ⟨fun b => b, WeakerR.ofL (Ks := [4, 9, 902]) hI ⟨⟨rfl, rfl⟩, ⟨rfl, rfl⟩, ⟨rfl, rfl⟩, ⟨rfl, rfl⟩, ⟨rfl, rfl⟩, ⟨rfl, rfl⟩, ⟨rfl, rfl⟩, ⟨rfl, rfl⟩, ⟨rfl, rfl⟩, ⟨rfl, rfl⟩, ⟨rfl, rfl⟩, ⟨rfl, rfl⟩, ⟨rfl, rfl⟩, ⟨rfl, rfl⟩, ⟨lit_cast (wrap_i64 (by omega) (by omega)), rfl⟩, trivial⟩ (okH_cons rfl rfl rfl rfl (okH_cons rfl rfl rfl rfl (okH_list rfl rfl rfl (okH_nil)))) rfl⟩
      ·
       have h30 : ¬ i3 < fc.1.members.D.length := by have := of_decide_eq_false h29; omega
       rw [drop_end h30] at hR
       refine Awp.exit ?_
       refine Awp.regionP C ?_
       refine rvP C (.pv (.lit (.int .i64 (IntKind.i64.wrap ((i1 : Int) + 1))))) ?_
       refine rvP C (.pv (.lit (.int .i64 (IntKind.i64.wrap ((i1 : Int) + 1))))) ?_
       refine rvc_nil ?_
       refine ⟨h26, members2, ?_, ?_⟩
       · exact ⟨(by rw [show 3 - (i1 + 1) = k by omega]; exact hR), (order_step hW (by omega)), (by first | omega | (simp <;> omega))⟩
       · exact ⟨fun b => bif b == 900 then 902 else (fun b => b) b, WeakerR.ofL (Ks := [4, 9, 900]) hI ⟨⟨rfl, rfl⟩, ⟨rfl, rfl⟩, ⟨rfl, rfl⟩, ⟨rfl, rfl⟩, ⟨rfl, rfl⟩, ⟨grow_to rfl rfl hn_members2 rfl rfl, grow_within rfl⟩, ⟨rfl, rfl⟩, ⟨rfl, rfl⟩, ⟨rfl, rfl⟩, ⟨rfl, rfl⟩, ⟨lit_cast (wrap_i64 (by omega) (by omega)), rfl⟩, trivial⟩ (okH_grow (fun _ => rfl) rfl rfl (okH_cons rfl rfl rfl rfl (okH_cons rfl rfl rfl rfl (okH_nil)))) rfl⟩
     ·
      rw [show 3 - i1 = 0 by have := of_decide_eq_false h25; omega] at hR
      have hms_ := order_mem hV (by have := of_decide_eq_false ‹decide ((i1 : Int) < 3) = false›; omega) (List.mem_of_getElem? (by assumption)) hl_ (sites_ok (able_ok (eq_of_bne_false ‹(able fc.1 w from_ != 0) = false›)).1)
      refine Awp.exit ?_
      refine Awp.consP C ?_
      refine rvP C (.sl 900 0 members.length 3 false) ?_
      refine rvP C (.agg [.pv (.lit (.int .i64 0)), .sl 900 0 members.length 3 false]) ?_
      refine rvc_un (rexec_prim C (δ := { v := .ptr 21 0, new := [(21, .cells [.pv (.lit (.int .i64 0)), sS (some true) eMember []])] }) rfl rfl rfl rfl trivial rfl ?_)
      refine rvc_un (rexec_prim C (δ := { v := .undef, wr := [(21, some (.cells [.pv (.lit (.int .i64 0)), .sl 900 0 members.length 3 false]))] }) rfl rfl rfl rfl trivial rfl ?_)
      refine rvc_nil ?_
      refine Awp.freezeW 900 (encL eMember members) ?_ [(2, .pv (.lit (.int .i64 from_))), (4, .ptr 4 0), (9, .ptr 9 0), (12, sS (some best.nil) eMember best.D), (13, .pv (.lit (.int .i64 least))), (16, sS (some members.isEmpty) eMember members), (21, .ptr 21 0), (44, sS (some false) (eA3 .i64) [(ofL [(0 : Int), 1, 2]), (ofL [(0 : Int), 2, 1]), (ofL [(1 : Int), 0, 2]), (ofL [(1 : Int), 2, 0]), (ofL [(2 : Int), 0, 1]), (ofL [(2 : Int), 1, 0])]), (45, .pv (.lit (.int .i64 ([(ofL [(0 : Int), 1, 2]), (ofL [(0 : Int), 2, 1]), (ofL [(1 : Int), 0, 2]), (ofL [(1 : Int), 2, 0]), (ofL [(2 : Int), 0, 1]), (ofL [(2 : Int), 1, 0])].length : Int)))), (46, .pv (.lit (.int .i64 (i : Int))))] [(4, .cells [.pv (.lit (.int .i64 ((w 0) 0))), .pv (.lit (.int .i64 ((w 0) 1))), .pv (.lit (.int .i64 ((w 0) 2))), .pv (.lit (.int .i64 ((w 1) 0))), .pv (.lit (.int .i64 ((w 1) 1))), .pv (.lit (.int .i64 ((w 1) 2))), .pv (.lit (.int .i64 ((w 2) 0))), .pv (.lit (.int .i64 ((w 2) 1))), .pv (.lit (.int .i64 ((w 2) 2)))]), (9, .cells [.pv (.lit (.int .i64 fc.1.epoch)), sS (some fc.1.members.nil) eMember fc.1.members.D]), (21, .cells [.pv (.lit (.int .i64 0)), sS (some members.isEmpty) eMember members])] ?_ ?_ ?_
      · rfl
      · exact ⟨⟨_, rfl, .inl (.inl rfl)⟩, ⟨_, rfl, .inl (.inl rfl)⟩, ⟨_, rfl, .inl (.inl rfl)⟩, ⟨_, rfl, .inl (.inl rfl)⟩, ⟨_, rfl, .inl (.inl rfl)⟩, ⟨_, rfl, .inl (.inr ⟨_, _, _, rfl, by rw [ne_isEmpty h8]; rfl⟩)⟩, ⟨_, rfl, .inl (.inl rfl)⟩, ⟨_, rfl, .inl (.inl rfl)⟩, ⟨_, rfl, .inl (.inl rfl)⟩, ⟨_, rfl, .inl (.inl rfl)⟩, trivial⟩
      · exact ⟨⟨(by show (4 : Nat) ≠ 900; decide), .inl rfl⟩, ⟨(by show (9 : Nat) ≠ 900; decide), .inl rfl⟩, ⟨(by show (21 : Nat) ≠ 900; decide), .inr ⟨_, _, rfl, rfl, ⟨.inl rfl, .inr ⟨_, _, _, rfl, by rw [ne_isEmpty h8]; rfl⟩, trivial⟩⟩⟩, trivial⟩
      refine Awp.consP C ?_
      refine rvP C (.pv (.lit (.int .i64 from_))) ?_
      refine rvP C (sS (some members.isEmpty) eMember members) ?_
      have h33 : members[0]? = some members[0]! := getE (by have := hms_.1; omega)
      refine rvc_un (rexec_idxS C rfl rfl rfl rfl rfl rfl (members[0]!) (Int.natCast_nonneg _) h33 ?_)
      refine rvP C (.rp [.lit (.int .i64 (members[0]!.site))]) ?_
      refine rvP C (.pv (.lit (.int .i64 (members[0]!.site)))) ?_
      refine rvc_un (rexec_prim C (δ := { v := .ptr 4 (0 + from_.toNat * 3) }) rfl rfl rfl rfl ⟨(by have := (able_ok (eq_of_bne_false ‹(able fc.1 w from_ != 0) = false›)).2.2; omega), (by have := (able_ok (eq_of_bne_false ‹(able fc.1 w from_ != 0) = false›)).2.2; omega)⟩ rfl ?_)
      refine rvc_un (rexec_prim C (δ := { v := .ptr 4 (0 + from_.toNat * 3 + (members[0]!.site).toNat * 1) }) rfl rfl rfl rfl ⟨(by have q_ := hms_.2.1 _ (at_mem (n := 0) hms_.1); omega), (by have q_ := hms_.2.1 _ (at_mem (n := 0) hms_.1); omega)⟩ rfl ?_)
      refine rvc_un (rexec_load33 C (fun p q => .pv (.lit (.int .i64 ((w p) q)))) from_.toNat (members[0]!.site).toNat (.pv (.lit (.int .i64 ((w from_.toNat) (members[0]!.site).toNat)))) rfl rfl rfl rfl rfl rfl rfl (by have := (able_ok (eq_of_bne_false ‹(able fc.1 w from_ != 0) = false›)).2.2; omega) (by have q_ := hms_.2.1 _ (at_mem (n := 0) hms_.1); omega) rfl ?_)
      refine rvP C (.pv (.lit (.int .i64 (IntKind.i64.wrap (2 * ((w from_.toNat) (members[0]!.site).toNat)))))) ?_
      refine rvP C (.agg [.pv (.lit (.int .i64 0)), sS (some members.isEmpty) eMember members]) ?_
      refine rvP C (.agg [.pv (.lit (.int .i64 ((w 0) 0))), .pv (.lit (.int .i64 ((w 0) 1))), .pv (.lit (.int .i64 ((w 0) 2))), .pv (.lit (.int .i64 ((w 1) 0))), .pv (.lit (.int .i64 ((w 1) 1))), .pv (.lit (.int .i64 ((w 1) 2))), .pv (.lit (.int .i64 ((w 2) 0))), .pv (.lit (.int .i64 ((w 2) 1))), .pv (.lit (.int .i64 ((w 2) 2)))]) ?_
      refine rvc_un (rexec_call hP C rfl rfl rfl (down_calls (Chain.mk 0 (Sl.mk members.isEmpty members)) w hms_.1 (by dsimp only; omega) hms_.2.1) ?_)
      refine rvP C (.pv (.lit (.int .i64 (IntKind.i64.wrap (2 * (down (Chain.mk 0 (Sl.mk members.isEmpty members)) w)))))) ?_
      refine rvP C (.pv (.lit (.int .i64 (IntKind.i64.wrap ((IntKind.i64.wrap (2 * ((w from_.toNat) (members[0]!.site).toNat))) + (IntKind.i64.wrap (2 * (down (Chain.mk 0 (Sl.mk members.isEmpty members)) w)))))))) ?_
      refine rvP C (.pv (.lit (.int .i64 (IntKind.i64.wrap ((IntKind.i64.wrap (2 * ((w from_.toNat) (members[0]!.site).toNat))) + (IntKind.i64.wrap (2 * (down (Chain.mk 0 (Sl.mk members.isEmpty members)) w)))))))) ?_
      refine rvc_nil ?_
      refine Awp.consP C ?_
      refine rvP C (.pv (.lit (.int .i64 least))) ?_
      refine rvP C (.pv (.lit (.bool (decide (least < 0))))) ?_
      refine rvP C (.pv (.lit (.bool (decide (least < 0))))) ?_
      refine rvc_case 89 (decide (least < 0)) rfl (fun h34 => ?_) (fun h34 => ?_)
      ·
       replace hR := of_true h34 hR
       refine rvS ?_
       refine rvS ?_
       refine rvS ?_
       refine rvP C (.pv (.lit (.bool true))) ?_
       refine rvc_nil ?_
       refine Awp.condT (b := true) rfl rfl ?_
       refine Awp.regionP C ?_
       refine rvP C (sS (some members.isEmpty) eMember members) ?_
       refine rvP C (.pv (.lit (.int .i64 (IntKind.i64.wrap ((IntKind.i64.wrap (2 * ((w from_.toNat) (members[0]!.site).toNat))) + (IntKind.i64.wrap (2 * (down (Chain.mk 0 (Sl.mk members.isEmpty members)) w)))))))) ?_
       refine rvP C (sS (some members.isEmpty) eMember members) ?_
       refine rvP C (.pv (.lit (.int .i64 (IntKind.i64.wrap ((IntKind.i64.wrap (2 * ((w from_.toNat) (members[0]!.site).toNat))) + (IntKind.i64.wrap (2 * (down (Chain.mk 0 (Sl.mk members.isEmpty members)) w)))))))) ?_
       refine rvc_nil ?_
       refine Awp.regionP C ?_
       refine rvP C (.pv (.lit (.int .i64 (IntKind.i64.wrap ((i : Int) + 1))))) ?_
       refine rvP C (.pv (.lit (.int .i64 (IntKind.i64.wrap ((i : Int) + 1))))) ?_
       refine rvc_nil ?_
       refine ⟨h5, ((Sl.mk members.isEmpty members), (IntKind.i64.wrap ((IntKind.i64.wrap (2 * ((w from_.toNat) (members[0]!.site).toNat))) + (IntKind.i64.wrap (2 * (down (Chain.mk 0 (Sl.mk members.isEmpty members)) w)))))), ?_, ?_⟩
       · exact hR
       · exact ⟨fun b => b, WeakerR.ofL (Ks := [4, 9]) hI ⟨⟨rfl, rfl⟩, ⟨rfl, rfl⟩, ⟨rfl, rfl⟩, ⟨rfl, rfl⟩, ⟨rfl, rfl⟩, ⟨rfl, rfl⟩, ⟨rfl, rfl⟩, ⟨lit_cast (wrap_i64 (by omega) (by omega)), rfl⟩, trivial⟩ (okH_cons rfl rfl rfl rfl (okH_cons rfl rfl rfl rfl (okH_nil))) rfl⟩
      ·
       replace hR := of_false h34 hR
       refine rvO C (.pv (.lit (.int .i64 (IntKind.i64.wrap ((IntKind.i64.wrap (2 * ((w from_.toNat) (members[0]!.site).toNat))) + (IntKind.i64.wrap (2 * (down (Chain.mk 0 (Sl.mk members.isEmpty members)) w)))))))) ?_
       refine rvO C (.pv (.lit (.int .i64 least))) ?_
       refine rvO C (.pv (.lit (.bool (decide ((IntKind.i64.wrap ((IntKind.i64.wrap (2 * ((w from_.toNat) (members[0]!.site).toNat))) + (IntKind.i64.wrap (2 * (down (Chain.mk 0 (Sl.mk members.isEmpty members)) w))))) < least))))) ?_
       refine rvP C (.pv (.lit (.bool (decide ((IntKind.i64.wrap ((IntKind.i64.wrap (2 * ((w from_.toNat) (members[0]!.site).toNat))) + (IntKind.i64.wrap (2 * (down (Chain.mk 0 (Sl.mk members.isEmpty members)) w))))) < least))))) ?_
       refine rvc_nil ?_
       refine Awp.cond (b := (decide ((IntKind.i64.wrap ((IntKind.i64.wrap (2 * ((w from_.toNat) (members[0]!.site).toNat))) + (IntKind.i64.wrap (2 * (down (Chain.mk 0 (Sl.mk members.isEmpty members)) w))))) < least))) rfl (fun h35 => ?_) (fun h35 => ?_)
       ·
        replace hR := of_true h35 hR
        refine Awp.regionP C ?_
        refine rvP C (sS (some members.isEmpty) eMember members) ?_
        refine rvP C (.pv (.lit (.int .i64 (IntKind.i64.wrap ((IntKind.i64.wrap (2 * ((w from_.toNat) (members[0]!.site).toNat))) + (IntKind.i64.wrap (2 * (down (Chain.mk 0 (Sl.mk members.isEmpty members)) w)))))))) ?_
        refine rvP C (sS (some members.isEmpty) eMember members) ?_
        refine rvP C (.pv (.lit (.int .i64 (IntKind.i64.wrap ((IntKind.i64.wrap (2 * ((w from_.toNat) (members[0]!.site).toNat))) + (IntKind.i64.wrap (2 * (down (Chain.mk 0 (Sl.mk members.isEmpty members)) w)))))))) ?_
        refine rvc_nil ?_
        refine Awp.regionP C ?_
        refine rvP C (.pv (.lit (.int .i64 (IntKind.i64.wrap ((i : Int) + 1))))) ?_
        refine rvP C (.pv (.lit (.int .i64 (IntKind.i64.wrap ((i : Int) + 1))))) ?_
        refine rvc_nil ?_
        refine ⟨h5, ((Sl.mk members.isEmpty members), (IntKind.i64.wrap ((IntKind.i64.wrap (2 * ((w from_.toNat) (members[0]!.site).toNat))) + (IntKind.i64.wrap (2 * (down (Chain.mk 0 (Sl.mk members.isEmpty members)) w)))))), ?_, ?_⟩
        · exact hR
        · exact ⟨fun b => b, WeakerR.ofL (Ks := [4, 9]) hI ⟨⟨rfl, rfl⟩, ⟨rfl, rfl⟩, ⟨rfl, rfl⟩, ⟨rfl, rfl⟩, ⟨rfl, rfl⟩, ⟨rfl, rfl⟩, ⟨rfl, rfl⟩, ⟨lit_cast (wrap_i64 (by omega) (by omega)), rfl⟩, trivial⟩ (okH_cons rfl rfl rfl rfl (okH_cons rfl rfl rfl rfl (okH_nil))) rfl⟩
       ·
        replace hR := of_false h35 hR
        refine Awp.skip ?_
        refine Awp.regionP C ?_
        refine rvP C (.pv (.lit (.int .i64 (IntKind.i64.wrap ((i : Int) + 1))))) ?_
        refine rvP C (.pv (.lit (.int .i64 (IntKind.i64.wrap ((i : Int) + 1))))) ?_
        refine rvc_nil ?_
        refine ⟨h5, (best, least), ?_, ?_⟩
        · exact hR
        · exact ⟨fun b => b, WeakerR.ofL (Ks := [4, 9]) hI ⟨⟨rfl, rfl⟩, ⟨rfl, rfl⟩, ⟨rfl, rfl⟩, ⟨rfl, rfl⟩, ⟨rfl, rfl⟩, ⟨rfl, rfl⟩, ⟨rfl, rfl⟩, ⟨lit_cast (wrap_i64 (by omega) (by omega)), rfl⟩, trivial⟩ (okH_cons rfl rfl rfl rfl (okH_cons rfl rfl rfl rfl (okH_nil))) rfl⟩
    -- !! two models: ('(bif (decide (least < 0)) then best_l0 w from_ fc ([(ofL [(0 : Int), 1, 2]), (ofL [(0 : Int), 2, 1]), (ofL [(1 : Int), 0, 2]), (ofL [(1 : Int), 2, 0]), (ofL [(2 : Int), 0, 1]), (ofL [(2 : Int), 1, 0])].drop (i + 1)) (i + 1) (Sl.mk members.isEmpty members) (IntKind.i64.wrap ((IntKind.i64.wrap (2 * ((w from_.toNat) (members[0]!.site).toNat))) + (IntKind.i64.wrap (2 * (down (Chain.mk 0 (Sl.mk members.isEmpty members)) w))))) else (bif (decide ((IntKind.i64.wrap ((IntKind.i64.wrap (2 * ((w from_.toNat) (members[0]!.site).toNat))) + (IntKind.i64.wrap (2 * (down (Chain.mk 0 (Sl.mk members.isEmpty members)) w))))) < least)) then best_l0 w from_ fc ([(ofL [(0 : Int), 1, 2]), (ofL [(0 : Int), 2, 1]), (ofL [(1 : Int), 0, 2]), (ofL [(1 : Int), 2, 0]), (ofL [(2 : Int), 0, 1]), (ofL [(2 : Int), 1, 0])].drop (i + 1)) (i + 1) (Sl.mk members.isEmpty members) (IntKind.i64.wrap ((IntKind.i64.wrap (2 * ((w from_.toNat) (members[0]!.site).toNat))) + (IntKind.i64.wrap (2 * (down (Chain.mk 0 (Sl.mk members.isEmpty members)) w))))) else best_l0 w from_ fc ([(ofL [(0 : Int), 1, 2]), (ofL [(0 : Int), 2, 1]), (ofL [(1 : Int), 0, 2]), (ofL [(1 : Int), 2, 0]), (ofL [(2 : Int), 0, 1]), (ofL [(2 : Int), 1, 0])].drop (i + 1)) (i + 1) best least))', 'best_l2 x i1 (fun members1 => best_l1 fc x (fun members => (bif (decide (least < 0)) then best_l0 w from_ fc ([(ofL [(0 : Int), 1, 2]), (ofL [(0 : Int), 2, 1]), (ofL [(1 : Int), 0, 2]), (ofL [(1 : Int), 2, 0]), (ofL [(2 : Int), 0, 1]), (ofL [(2 : Int), 1, 0])].drop (i + 1)) (i + 1) (Sl.mk members.isEmpty members) (IntKind.i64.wrap ((IntKind.i64.wrap (2 * ((w from_.toNat) (members[0]!.site).toNat))) + (IntKind.i64.wrap (2 * (down (Chain.mk 0 (Sl.mk members.isEmpty members)) w))))) else (bif (decide ((IntKind.i64.wrap ((IntKind.i64.wrap (2 * ((w from_.toNat) (members[0]!.site).toNat))) + (IntKind.i64.wrap (2 * (down (Chain.mk 0 (Sl.mk members.isEmpty members)) w))))) < least)) then best_l0 w from_ fc ([(ofL [(0 : Int), 1, 2]), (ofL [(0 : Int), 2, 1]), (ofL [(1 : Int), 0, 2]), (ofL [(1 : Int), 2, 0]), (ofL [(2 : Int), 0, 1]), (ofL [(2 : Int), 1, 0])].drop (i + 1)) (i + 1) (Sl.mk members.isEmpty members) (IntKind.i64.wrap ((IntKind.i64.wrap (2 * ((w from_.toNat) (members[0]!.site).toNat))) + (IntKind.i64.wrap (2 * (down (Chain.mk 0 (Sl.mk members.isEmpty members)) w))))) else best_l0 w from_ fc ([(ofL [(0 : Int), 1, 2]), (ofL [(0 : Int), 2, 1]), (ofL [(1 : Int), 0, 2]), (ofL [(1 : Int), 2, 0]), (ofL [(2 : Int), 0, 1]), (ofL [(2 : Int), 1, 0])].drop (i + 1)) (i + 1) best least))) k (i1 + 1) members1) fc.1.members.D 0 members') ||| ('(bif (decide (least < 0)) then best_l0 w from_ fc ([(ofL [(0 : Int), 1, 2]), (ofL [(0 : Int), 2, 1]), (ofL [(1 : Int), 0, 2]), (ofL [(1 : Int), 2, 0]), (ofL [(2 : Int), 0, 1]), (ofL [(2 : Int), 1, 0])].drop (i + 1)) (i + 1) (Sl.mk members.isEmpty members) (IntKind.i64.wrap ((IntKind.i64.wrap (2 * ((w from_.toNat) (members[0]!.site).toNat))) + (IntKind.i64.wrap (2 * (down (Chain.mk 0 (Sl.mk members.isEmpty members)) w))))) else (bif (decide ((IntKind.i64.wrap ((IntKind.i64.wrap (2 * ((w from_.toNat) (members[0]!.site).toNat))) + (IntKind.i64.wrap (2 * (down (Chain.mk 0 (Sl.mk members.isEmpty members)) w))))) < least)) then best_l0 w from_ fc ([(ofL [(0 : Int), 1, 2]), (ofL [(0 : Int), 2, 1]), (ofL [(1 : Int), 0, 2]), (ofL [(1 : Int), 2, 0]), (ofL [(2 : Int), 0, 1]), (ofL [(2 : Int), 1, 0])].drop (i + 1)) (i + 1) (Sl.mk members.isEmpty members) (IntKind.i64.wrap ((IntKind.i64.wrap (2 * ((w from_.toNat) (members[0]!.site).toNat))) + (IntKind.i64.wrap (2 * (down (Chain.mk 0 (Sl.mk members.isEmpty members)) w))))) else best_l0 w from_ fc ([(ofL [(0 : Int), 1, 2]), (ofL [(0 : Int), 2, 1]), (ofL [(1 : Int), 0, 2]), (ofL [(1 : Int), 2, 0]), (ofL [(2 : Int), 0, 1]), (ofL [(2 : Int), 1, 0])].drop (i + 1)) (i + 1) best least))', 'best_l2 x i1 (fun members2 => best_l1 fc x (fun members => (bif (decide (least < 0)) then best_l0 w from_ fc ([(ofL [(0 : Int), 1, 2]), (ofL [(0 : Int), 2, 1]), (ofL [(1 : Int), 0, 2]), (ofL [(1 : Int), 2, 0]), (ofL [(2 : Int), 0, 1]), (ofL [(2 : Int), 1, 0])].drop (i + 1)) (i + 1) (Sl.mk members.isEmpty members) (IntKind.i64.wrap ((IntKind.i64.wrap (2 * ((w from_.toNat) (members[0]!.site).toNat))) + (IntKind.i64.wrap (2 * (down (Chain.mk 0 (Sl.mk members.isEmpty members)) w))))) else (bif (decide ((IntKind.i64.wrap ((IntKind.i64.wrap (2 * ((w from_.toNat) (members[0]!.site).toNat))) + (IntKind.i64.wrap (2 * (down (Chain.mk 0 (Sl.mk members.isEmpty members)) w))))) < least)) then best_l0 w from_ fc ([(ofL [(0 : Int), 1, 2]), (ofL [(0 : Int), 2, 1]), (ofL [(1 : Int), 0, 2]), (ofL [(1 : Int), 2, 0]), (ofL [(2 : Int), 0, 1]), (ofL [(2 : Int), 1, 0])].drop (i + 1)) (i + 1) (Sl.mk members.isEmpty members) (IntKind.i64.wrap ((IntKind.i64.wrap (2 * ((w from_.toNat) (members[0]!.site).toNat))) + (IntKind.i64.wrap (2 * (down (Chain.mk 0 (Sl.mk members.isEmpty members)) w))))) else best_l0 w from_ fc ([(ofL [(0 : Int), 1, 2]), (ofL [(0 : Int), 2, 1]), (ofL [(1 : Int), 0, 2]), (ofL [(1 : Int), 2, 0]), (ofL [(2 : Int), 0, 1]), (ofL [(2 : Int), 1, 0])].drop (i + 1)) (i + 1) best least))) k (i1 + 1) members2) fc.1.members.D 0 members')
   ·
    have h5 : ¬ i < [(ofL [(0 : Int), 1, 2]), (ofL [(0 : Int), 2, 1]), (ofL [(1 : Int), 0, 2]), (ofL [(1 : Int), 2, 0]), (ofL [(2 : Int), 0, 1]), (ofL [(2 : Int), 1, 0])].length := by have := of_decide_eq_false h4; omega
    rw [drop_end h5] at hR
    refine Awp.exit ?_
    refine Awp.consP C ?_
    refine rvP C (sS (some best.nil) eMember best.D) ?_
    refine rvP C (.pv (.lit (.int .i64 least))) ?_
    refine rvP C (sS (some best.nil) eMember best.D) ?_
    refine rvP C (.pv (.lit (.int .i64 least))) ?_
    refine rvP C (.pv (.lit (.int .i64 0))) ?_
    refine rvc_nil ?_
    refine Awp.ret ?_
    subst hR
    exact ⟨.inl rfl, rfl⟩
end Go.Proofs.Ytihccnkegkkikaa
