import Derived.Test.YtaffaalpgpepeaaM4
import Derived.Test.YtaffaalpgpepeaaM3
/- The next command. No conditions. -/
namespace Go.Proofs.Ytaffaalpgpepeaa
open Go.Am
structure Fleet where
  alive : Int
  home : (Nat → Int)
  wish : (Nat → Int)
  deriving Inhabited
def spare_l0 (f : Fleet) (site : Int) : List Int → Nat → Int × Bool
  | [], _ => (0, false)
  | x :: xs, i => (bif (decide (x < 6)) then (bif ((f.home x.toNat) == site) then (x, true) else spare_l0 f site xs (i + 1) ) else spare_l0 f site xs (i + 1) )
def spare (f : Fleet) (c : Chain) (site : Int) : Int × Bool :=
  spare_l0 f site (allOf (mBut f.alive (nodes c))).D 0
theorem spare_calls (f : Fleet) (c : Chain) (site : Int) (hl1 : c.members.D.length ≤ 1000000) : PCalls Try.prog 62 [.agg [.pv (.lit (.int .u64 f.alive)), .pv (.lit (.int .i64 (f.home 0))), .pv (.lit (.int .i64 (f.home 1))), .pv (.lit (.int .i64 (f.home 2))), .pv (.lit (.int .i64 (f.home 3))), .pv (.lit (.int .i64 (f.home 4))), .pv (.lit (.int .i64 (f.home 5))), .pv (.lit (.int .i64 (f.wish 0))), .pv (.lit (.int .i64 (f.wish 1))), .pv (.lit (.int .i64 (f.wish 2)))], .agg [.pv (.lit (.int .i64 c.epoch)), sS (some c.members.nil) eMember c.members.D], .pv (.lit (.int .i64 site))] (.tup [.pv (.lit (.int .i64 ((spare f c site).1))), .pv (.lit (.bool ((spare f c site).2)))]) := by
 generalize hR : spare f c site = R
 refine PCalls.of_body tabOk Try.func62 rfl rfl rfl rfl rfl mixed fun E hP C hI => ?_
 refine Awp.consP C ?_
 refine rvc_un (rexec_prim C (δ := { v := .ptr 3 0, new := [(3, .cells [.pv (.lit (.int .u64 f.alive)), .pv (.lit (.int .i64 (f.home 0))), .pv (.lit (.int .i64 (f.home 1))), .pv (.lit (.int .i64 (f.home 2))), .pv (.lit (.int .i64 (f.home 3))), .pv (.lit (.int .i64 (f.home 4))), .pv (.lit (.int .i64 (f.home 5))), .pv (.lit (.int .i64 (f.wish 0))), .pv (.lit (.int .i64 (f.wish 1))), .pv (.lit (.int .i64 (f.wish 2)))])] }) rfl rfl rfl rfl trivial rfl ?_)
 refine rvc_un (rexec_prim C (δ := { v := .ptr 4 0, new := [(4, .cells [.pv (.lit (.int .i64 c.epoch)), sS (some c.members.nil) eMember c.members.D])] }) rfl rfl rfl rfl trivial rfl ?_)
 refine rvP C (.pv (.lit (.int .i64 0))) ?_
 refine rvP C (.pv (.lit (.bool false))) ?_
 refine rvc_nil ?_
 refine Awp.seq ?_
 refine Awp.consP C ?_
 refine rvP C (.ptr 3 0) ?_
 refine rvP C (.pv (.lit (.int .u64 f.alive))) ?_
 refine rvP C (.agg [.pv (.lit (.int .i64 c.epoch)), sS (some c.members.nil) eMember c.members.D]) ?_
 refine rvc_un (rexec_call hP C rfl rfl rfl (nodes_calls c (Nat.le_trans hl1 (by decide))) ?_)
 refine rvc_un (rexec_call hP C rfl rfl rfl (mBut_calls f.alive (nodes c)) ?_)
 obtain ⟨al, hq_al⟩ : ∃ q_, q_ = (allOf (mBut f.alive (nodes c))) := ⟨_, rfl⟩
 have hc_al := (allOf_calls (mBut f.alive (nodes c)))
 first | rw [← hq_al] at hR hc_al | (unfold spare at hR; rw [← hq_al] at hR hc_al)
 have hf0_al := allOf_nn (mBut f.alive (nodes c))
 rw [← hq_al] at hf0_al
 have hf1_al := allOf_len (mBut f.alive (nodes c))
 rw [← hq_al] at hf1_al
 refine rvc_un (rexec_call hP C rfl rfl rfl hc_al ?_)
 refine rvP C (.pv (.lit (.int .i64 (al.D.length : Int)))) ?_
 refine rvP C (.pv (.lit (.int .i64 0))) ?_
 refine rvc_nil ?_
 refine Awp.block ?_
 refine Awp.forR (σ := Unit) (al.D.length) (fun i _v => [(2, .pv (.lit (.int .i64 site))), (3, .ptr 3 0), (15, sS (some al.nil) (eI .i64) al.D), (16, .pv (.lit (.int .i64 (al.D.length : Int)))), (17, .pv (.lit (.int .i64 (i : Int))))]) (fun i _v => [(3, .cells [.pv (.lit (.int .u64 f.alive)), .pv (.lit (.int .i64 (f.home 0))), .pv (.lit (.int .i64 (f.home 1))), .pv (.lit (.int .i64 (f.home 2))), .pv (.lit (.int .i64 (f.home 3))), .pv (.lit (.int .i64 (f.home 4))), .pv (.lit (.int .i64 (f.home 5))), .pv (.lit (.int .i64 (f.wish 0))), .pv (.lit (.int .i64 (f.wish 1))), .pv (.lit (.int .i64 (f.wish 2)))])]) [3] (fun i _v => spare_l0 f site (al.D.drop i) i  = R) () ?_ ?_ (fun i _v h1 hR => ?_)
 · exact hR
 · exact ⟨fun b => b, WeakerR.ofL (Ks := [3]) hI ⟨⟨rfl, rfl⟩, ⟨rfl, rfl⟩, ⟨rfl, rfl⟩, ⟨rfl, rfl⟩, ⟨rfl, rfl⟩, trivial⟩ (okH_cons rfl rfl rfl rfl (okH_nil)) rfl⟩
 refine Awp.consP C ?_
 refine rvP C (.pv (.lit (.bool (decide ((i : Int) < (al.D.length : Int)))))) ?_
 refine rvc_nil ?_
 refine Awp.seq ?_
 refine Awp.cond (b := (decide ((i : Int) < (al.D.length : Int)))) rfl (fun h2 => ?_) (fun h2 => ?_)
 ·
  have h3 : i < al.D.length := by have := of_decide_eq_true h2; omega
  obtain ⟨x, h4⟩ := getX h3
  rw [drop_at h4] at hR
  refine Awp.skip ?_
  refine Awp.seq ?_
  refine Awp.block ?_
  refine Awp.consP C ?_
  refine rvc_un (rexec_idxS C rfl rfl rfl rfl rfl rfl x (Int.natCast_nonneg _) h4 ?_)
  refine rvP C (.pv (.lit (.int .i64 x))) ?_
  refine rvP C (.pv (.lit (.int .i64 x))) ?_
  refine rvc_nil ?_
  refine Awp.consP C ?_
  refine rvP C (.pv (.lit (.int .i64 x))) ?_
  refine rvP C (.pv (.lit (.bool (decide (x < 6))))) ?_
  refine rvP C (.pv (.lit (.bool (decide (x < 6))))) ?_
  refine rvc_case 23 (decide (x < 6)) rfl (fun h5 => ?_) (fun h5 => ?_)
  ·
   replace hR := of_true h5 hR
   refine rvO C (.pv (.lit (.int .i64 x))) ?_
   refine rvO C (.ptr 3 1) ?_
   refine rvc_open rfl rfl rfl (rexec_prim C (δ := { v := .ptr 3 (1 + x.toNat * 1) }) rfl rfl rfl rfl ⟨(by have h0 := hf0_al x (List.mem_of_getElem? (by assumption)); have := of_decide_eq_true ‹decide (x < 6) = true›; omega), (by have h0 := hf0_al x (List.mem_of_getElem? (by assumption)); have := of_decide_eq_true ‹decide (x < 6) = true›; omega)⟩ rfl ?_)
   refine rvc_open rfl rfl rfl (rexec_loadA C [.pv (.lit (.int .u64 f.alive))] [.pv (.lit (.int .i64 (f.wish 0))), .pv (.lit (.int .i64 (f.wish 1))), .pv (.lit (.int .i64 (f.wish 2)))] (fun j => .pv (.lit (.int .i64 (f.home j)))) 6 x.toNat (.pv (.lit (.int .i64 (f.home x.toNat)))) rfl rfl rfl rfl rfl rfl rfl (by have h0 := hf0_al x (List.mem_of_getElem? (by assumption)); have := of_decide_eq_true ‹decide (x < 6) = true›; omega) rfl ?_)
   refine rvO C (.pv (.lit (.int .i64 site))) ?_
   refine rvO C (.pv (.lit (.bool ((f.home x.toNat) == site)))) ?_
   refine rvP C (.pv (.lit (.bool ((f.home x.toNat) == site)))) ?_
   refine rvc_nil ?_
   refine Awp.cond (b := ((f.home x.toNat) == site)) rfl (fun h6 => ?_) (fun h6 => ?_)
   ·
    replace hR := of_true h6 hR
    refine Awp.consP C ?_
    refine rvP C (.pv (.lit (.int .i64 x))) ?_
    refine rvP C (.pv (.lit (.int .i64 x))) ?_
    refine rvP C (.pv (.lit (.bool true))) ?_
    refine rvc_nil ?_
    refine Awp.ret ?_
    subst hR
    exact ⟨.inl rfl, rfl⟩
   ·
    replace hR := of_false h6 hR
    refine Awp.skip ?_
    refine Awp.regionP C ?_
    refine rvP C (.pv (.lit (.int .i64 (IntKind.i64.wrap ((i : Int) + 1))))) ?_
    refine rvP C (.pv (.lit (.int .i64 (IntKind.i64.wrap ((i : Int) + 1))))) ?_
    refine rvc_nil ?_
    refine ⟨h3, (), ?_, ?_⟩
    · exact hR
    · exact ⟨fun b => b, WeakerR.ofL (Ks := [3]) hI ⟨⟨rfl, rfl⟩, ⟨rfl, rfl⟩, ⟨rfl, rfl⟩, ⟨rfl, rfl⟩, ⟨lit_cast (wrap_i64 (by omega) (by omega)), rfl⟩, trivial⟩ (okH_cons rfl rfl rfl rfl (okH_nil)) rfl⟩
  ·
   replace hR := of_false h5 hR
   refine rvS ?_
   refine rvS ?_
   refine rvS ?_
   refine rvS ?_
   refine rvS ?_
   refine rvS ?_
   refine rvP C (.pv (.lit (.bool false))) ?_
   refine rvc_nil ?_
   refine Awp.condF (b := false) rfl rfl ?_
   refine Awp.skip ?_
   refine Awp.regionP C ?_
   refine rvP C (.pv (.lit (.int .i64 (IntKind.i64.wrap ((i : Int) + 1))))) ?_
   refine rvP C (.pv (.lit (.int .i64 (IntKind.i64.wrap ((i : Int) + 1))))) ?_
   refine rvc_nil ?_
   refine ⟨h3, (), ?_, ?_⟩
   · exact hR
   · exact ⟨fun b => b, WeakerR.ofL (Ks := [3]) hI ⟨⟨rfl, rfl⟩, ⟨rfl, rfl⟩, ⟨rfl, rfl⟩, ⟨rfl, rfl⟩, ⟨lit_cast (wrap_i64 (by omega) (by omega)), rfl⟩, trivial⟩ (okH_cons rfl rfl rfl rfl (okH_nil)) rfl⟩
 ·
  have h3 : ¬ i < al.D.length := by have := of_decide_eq_false h2; omega
  rw [drop_end h3] at hR
  refine Awp.exit ?_
  refine Awp.consP C ?_
  refine rvP C (.pv (.lit (.int .i64 0))) ?_
  refine rvP C (.pv (.lit (.bool false))) ?_
  refine rvc_nil ?_
  refine Awp.ret ?_
  subst hR
  exact ⟨.inl rfl, rfl⟩
def deadOf_l0 (f : Fleet) (c : Chain) : List Member → Nat → Command × Bool
  | [], _ => ((Command.mk 0 0 0 0), false)
  | x :: xs, i => (bif (!(mHas f.alive x.node)) then (bif (may c (Command.mk 1 x.node 0 c.epoch)) then ((Command.mk 1 x.node 0 c.epoch), true) else deadOf_l0 f c xs (i + 1) ) else deadOf_l0 f c xs (i + 1) )
def deadOf (f : Fleet) (c : Chain) : Command × Bool :=
  deadOf_l0 f c c.members.D 0
theorem deadOf_calls (f : Fleet) (c : Chain) (hn : c.members.nil = true → c.members.D = []) (hl1 : c.members.D.length ≤ 1000000) : PCalls Try.prog 38 [.agg [.pv (.lit (.int .u64 f.alive)), .pv (.lit (.int .i64 (f.home 0))), .pv (.lit (.int .i64 (f.home 1))), .pv (.lit (.int .i64 (f.home 2))), .pv (.lit (.int .i64 (f.home 3))), .pv (.lit (.int .i64 (f.home 4))), .pv (.lit (.int .i64 (f.home 5))), .pv (.lit (.int .i64 (f.wish 0))), .pv (.lit (.int .i64 (f.wish 1))), .pv (.lit (.int .i64 (f.wish 2)))], .agg [.pv (.lit (.int .i64 c.epoch)), sS (some c.members.nil) eMember c.members.D]] (.tup [.agg [.pv (.lit (.int .i64 ((deadOf f c).1.kind))), .pv (.lit (.int .i64 ((deadOf f c).1.node))), .pv (.lit (.int .i64 ((deadOf f c).1.site))), .pv (.lit (.int .i64 ((deadOf f c).1.epoch)))], .pv (.lit (.bool ((deadOf f c).2)))]) := by
 generalize hR : deadOf f c = R
 refine PCalls.of_body tabOk Try.func38 rfl rfl rfl rfl rfl mixed fun E hP C hI => ?_
 refine Awp.consP C ?_
 refine rvc_un (rexec_prim C (δ := { v := .ptr 2 0, new := [(2, .cells [.pv (.lit (.int .u64 f.alive)), .pv (.lit (.int .i64 (f.home 0))), .pv (.lit (.int .i64 (f.home 1))), .pv (.lit (.int .i64 (f.home 2))), .pv (.lit (.int .i64 (f.home 3))), .pv (.lit (.int .i64 (f.home 4))), .pv (.lit (.int .i64 (f.home 5))), .pv (.lit (.int .i64 (f.wish 0))), .pv (.lit (.int .i64 (f.wish 1))), .pv (.lit (.int .i64 (f.wish 2)))])] }) rfl rfl rfl rfl trivial rfl ?_)
 refine rvc_un (rexec_prim C (δ := { v := .ptr 3 0, new := [(3, .cells [.pv (.lit (.int .i64 c.epoch)), sS (some c.members.nil) eMember c.members.D])] }) rfl rfl rfl rfl trivial rfl ?_)
 refine rvc_un (rexec_prim C (δ := { v := .ptr 4 0, new := [(4, .cells [.pv (.lit (.int .i64 0)), .pv (.lit (.int .i64 0)), .pv (.lit (.int .i64 0)), .pv (.lit (.int .i64 0))])] }) rfl rfl rfl rfl trivial rfl ?_)
 refine rvP C (.pv (.lit (.bool false))) ?_
 refine rvc_nil ?_
 refine Awp.seq ?_
 refine Awp.consP C ?_
 refine rvP C (.ptr 3 1) ?_
 refine rvP C (sS (some c.members.nil) eMember c.members.D) ?_
 refine rvP C (.pv (.lit (.int .i64 (c.members.D.length : Int)))) ?_
 refine rvP C (.pv (.lit (.int .i64 0))) ?_
 refine rvc_nil ?_
 refine Awp.block ?_
 refine Awp.forR (σ := Unit) (c.members.D.length) (fun i _v => [(2, .ptr 2 0), (3, .ptr 3 0), (4, .ptr 4 0), (10, sS (some c.members.nil) eMember c.members.D), (11, .pv (.lit (.int .i64 (c.members.D.length : Int)))), (12, .pv (.lit (.int .i64 (i : Int))))]) (fun i _v => [(2, .cells [.pv (.lit (.int .u64 f.alive)), .pv (.lit (.int .i64 (f.home 0))), .pv (.lit (.int .i64 (f.home 1))), .pv (.lit (.int .i64 (f.home 2))), .pv (.lit (.int .i64 (f.home 3))), .pv (.lit (.int .i64 (f.home 4))), .pv (.lit (.int .i64 (f.home 5))), .pv (.lit (.int .i64 (f.wish 0))), .pv (.lit (.int .i64 (f.wish 1))), .pv (.lit (.int .i64 (f.wish 2)))]), (3, .cells [.pv (.lit (.int .i64 c.epoch)), sS (some c.members.nil) eMember c.members.D]), (4, .cells [.pv (.lit (.int .i64 0)), .pv (.lit (.int .i64 0)), .pv (.lit (.int .i64 0)), .pv (.lit (.int .i64 0))])]) [2, 3, 4] (fun i _v => deadOf_l0 f c (c.members.D.drop i) i  = R) () ?_ ?_ (fun i _v h1 hR => ?_)
 · exact hR
 · exact ⟨fun b => b, WeakerR.ofL (Ks := [2, 3, 4]) hI ⟨⟨rfl, rfl⟩, ⟨rfl, rfl⟩, ⟨rfl, rfl⟩, ⟨rfl, rfl⟩, ⟨rfl, rfl⟩, ⟨rfl, rfl⟩, trivial⟩ (okH_cons rfl rfl rfl rfl (okH_cons rfl rfl rfl rfl (okH_cons rfl rfl rfl rfl (okH_nil)))) rfl⟩
 refine Awp.consP C ?_
 refine rvP C (.pv (.lit (.bool (decide ((i : Int) < (c.members.D.length : Int)))))) ?_
 refine rvc_nil ?_
 refine Awp.seq ?_
 refine Awp.cond (b := (decide ((i : Int) < (c.members.D.length : Int)))) rfl (fun h2 => ?_) (fun h2 => ?_)
 ·
  have h3 : i < c.members.D.length := by have := of_decide_eq_true h2; omega
  obtain ⟨x, h4⟩ := getX h3
  rw [drop_at h4] at hR
  refine Awp.skip ?_
  refine Awp.seq ?_
  refine Awp.block ?_
  refine Awp.consP C ?_
  refine rvc_un (rexec_idxS C rfl rfl rfl rfl rfl rfl x (Int.natCast_nonneg _) h4 ?_)
  refine rvP C (.agg [.pv (.lit (.int .i64 x.node)), .pv (.lit (.int .i64 x.site)), .pv (.lit (.bool x.fresh))]) ?_
  refine rvc_un (rexec_prim C (δ := { v := .ptr 7 0, new := [(7, .cells [.pv (.lit (.int .i64 0)), .pv (.lit (.int .i64 0)), .pv (.lit (.bool false))])] }) rfl rfl rfl rfl trivial rfl ?_)
  refine rvc_un (rexec_prim C (δ := { v := .undef, wr := [(7, some (.cells [.pv (.lit (.int .i64 x.node)), .pv (.lit (.int .i64 x.site)), .pv (.lit (.bool x.fresh))]))] }) rfl rfl rfl rfl trivial rfl ?_)
  refine rvc_nil ?_
  refine Awp.consP C ?_
  refine rvP C (.ptr 7 0) ?_
  refine rvP C (.pv (.lit (.int .i64 x.node))) ?_
  refine rvP C (.ptr 3 0) ?_
  refine rvP C (.pv (.lit (.int .i64 c.epoch))) ?_
  refine rvP C (.agg [.pv (.lit (.int .i64 1)), .pv (.lit (.int .i64 x.node)), .pv (.lit (.int .i64 0)), .pv (.lit (.int .i64 c.epoch))]) ?_
  refine rvc_un (rexec_prim C (δ := { v := .ptr 8 0, new := [(8, .cells [.pv (.lit (.int .i64 0)), .pv (.lit (.int .i64 0)), .pv (.lit (.int .i64 0)), .pv (.lit (.int .i64 0))])] }) rfl rfl rfl rfl trivial rfl ?_)
  refine rvc_un (rexec_prim C (δ := { v := .undef, wr := [(8, some (.cells [.pv (.lit (.int .i64 1)), .pv (.lit (.int .i64 x.node)), .pv (.lit (.int .i64 0)), .pv (.lit (.int .i64 c.epoch))]))] }) rfl rfl rfl rfl trivial rfl ?_)
  refine rvc_nil ?_
  refine Awp.consP C ?_
  refine rvP C (.ptr 2 0) ?_
  refine rvP C (.pv (.lit (.int .u64 f.alive))) ?_
  refine rvP C (.ptr 7 0) ?_
  refine rvP C (.pv (.lit (.int .i64 x.node))) ?_
  refine rvc_un (rexec_call hP C rfl rfl rfl (mHas_calls f.alive x.node) ?_)
  refine rvP C (.pv (.lit (.bool (!(mHas f.alive x.node))))) ?_
  refine rvP C (.pv (.lit (.bool (!(mHas f.alive x.node))))) ?_
  refine rvc_case 27 (!(mHas f.alive x.node)) rfl (fun h5 => ?_) (fun h5 => ?_)
  ·
   replace hR := of_true h5 hR
   refine rvO C (.agg [.pv (.lit (.int .i64 c.epoch)), sS (some c.members.nil) eMember c.members.D]) ?_
   refine rvO C (.agg [.pv (.lit (.int .i64 1)), .pv (.lit (.int .i64 x.node)), .pv (.lit (.int .i64 0)), .pv (.lit (.int .i64 c.epoch))]) ?_
   refine rvc_open rfl rfl rfl (rexec_call hP C rfl rfl rfl (may_calls c (Command.mk 1 x.node 0 c.epoch) hn hl1) ?_)
   refine rvP C (.pv (.lit (.bool (may c (Command.mk 1 x.node 0 c.epoch))))) ?_
   refine rvc_nil ?_
   refine Awp.cond (b := (may c (Command.mk 1 x.node 0 c.epoch))) rfl (fun h6 => ?_) (fun h6 => ?_)
   ·
    replace hR := of_true h6 hR
    refine Awp.consP C ?_
    refine rvP C (.agg [.pv (.lit (.int .i64 1)), .pv (.lit (.int .i64 x.node)), .pv (.lit (.int .i64 0)), .pv (.lit (.int .i64 c.epoch))]) ?_
    refine rvc_un (rexec_prim C (δ := { v := .undef, wr := [(4, some (.cells [.pv (.lit (.int .i64 1)), .pv (.lit (.int .i64 x.node)), .pv (.lit (.int .i64 0)), .pv (.lit (.int .i64 c.epoch))]))] }) rfl rfl rfl rfl trivial rfl ?_)
    refine rvP C (.pv (.lit (.bool true))) ?_
    refine rvc_nil ?_
    refine Awp.ret ?_
    subst hR
    exact ⟨.inl rfl, rfl⟩
   ·
    replace hR := of_false h6 hR
    refine Awp.skip ?_
    refine Awp.regionP C ?_
    refine rvP C (.pv (.lit (.int .i64 (IntKind.i64.wrap ((i : Int) + 1))))) ?_
    refine rvP C (.pv (.lit (.int .i64 (IntKind.i64.wrap ((i : Int) + 1))))) ?_
    refine rvc_nil ?_
    refine ⟨h3, (), ?_, ?_⟩
    · exact hR
    · exact ⟨fun b => b, WeakerR.ofL (Ks := [2, 3, 4]) hI ⟨⟨rfl, rfl⟩, ⟨rfl, rfl⟩, ⟨rfl, rfl⟩, ⟨rfl, rfl⟩, ⟨rfl, rfl⟩, ⟨lit_cast (wrap_i64 (by omega) (by omega)), rfl⟩, trivial⟩ (okH_cons rfl rfl rfl rfl (okH_cons rfl rfl rfl rfl (okH_cons rfl rfl rfl rfl (okH_nil)))) rfl⟩
  ·
   replace hR := of_false h5 hR
   refine rvS ?_
   refine rvS ?_
   refine rvS ?_
   refine rvP C (.pv (.lit (.bool false))) ?_
   refine rvc_nil ?_
   refine Awp.condF (b := false) rfl rfl ?_
   refine Awp.skip ?_
   refine Awp.regionP C ?_
   refine rvP C (.pv (.lit (.int .i64 (IntKind.i64.wrap ((i : Int) + 1))))) ?_
   refine rvP C (.pv (.lit (.int .i64 (IntKind.i64.wrap ((i : Int) + 1))))) ?_
   refine rvc_nil ?_
   refine ⟨h3, (), ?_, ?_⟩
   · exact hR
   · exact ⟨fun b => b, WeakerR.ofL (Ks := [2, 3, 4]) hI ⟨⟨rfl, rfl⟩, ⟨rfl, rfl⟩, ⟨rfl, rfl⟩, ⟨rfl, rfl⟩, ⟨rfl, rfl⟩, ⟨lit_cast (wrap_i64 (by omega) (by omega)), rfl⟩, trivial⟩ (okH_cons rfl rfl rfl rfl (okH_cons rfl rfl rfl rfl (okH_cons rfl rfl rfl rfl (okH_nil)))) rfl⟩
 ·
  have h3 : ¬ i < c.members.D.length := by have := of_decide_eq_false h2; omega
  rw [drop_end h3] at hR
  refine Awp.exit ?_
  refine Awp.consP C ?_
  refine rvP C (.agg [.pv (.lit (.int .i64 0)), .pv (.lit (.int .i64 0)), .pv (.lit (.int .i64 0)), .pv (.lit (.int .i64 0))]) ?_
  refine rvc_un (rexec_prim C (δ := { v := .undef, wr := [(4, some (.cells [.pv (.lit (.int .i64 0)), .pv (.lit (.int .i64 0)), .pv (.lit (.int .i64 0)), .pv (.lit (.int .i64 0))]))] }) rfl rfl rfl rfl trivial rfl ?_)
  refine rvP C (.pv (.lit (.bool false))) ?_
  refine rvc_nil ?_
  refine Awp.ret ?_
  subst hR
  exact ⟨.inl rfl, rfl⟩
def lackOf_l0 (f : Fleet) (c : Chain) : Nat → Nat → Command × Bool
  | 0, _ => ((Command.mk 0 0 0 0), false)
  | k + 1, i => (bif (decide ((many c (i : Int)) ≥ (f.wish i))) then lackOf_l0 f c k (i + 1)  else (bif (spare f c (i : Int)).2 then (bif (may c (Command.mk 2 (spare f c (i : Int)).1 (i : Int) c.epoch)) then ((Command.mk 2 (spare f c (i : Int)).1 (i : Int) c.epoch), true) else lackOf_l0 f c k (i + 1) ) else lackOf_l0 f c k (i + 1) ))
def lackOf (f : Fleet) (c : Chain) : Command × Bool :=
  lackOf_l0 f c 3 0
theorem lackOf_calls (f : Fleet) (c : Chain) (hn : c.members.nil = true → c.members.D = []) (hl1 : c.members.D.length ≤ 1000000) : PCalls Try.prog 39 [.agg [.pv (.lit (.int .u64 f.alive)), .pv (.lit (.int .i64 (f.home 0))), .pv (.lit (.int .i64 (f.home 1))), .pv (.lit (.int .i64 (f.home 2))), .pv (.lit (.int .i64 (f.home 3))), .pv (.lit (.int .i64 (f.home 4))), .pv (.lit (.int .i64 (f.home 5))), .pv (.lit (.int .i64 (f.wish 0))), .pv (.lit (.int .i64 (f.wish 1))), .pv (.lit (.int .i64 (f.wish 2)))], .agg [.pv (.lit (.int .i64 c.epoch)), sS (some c.members.nil) eMember c.members.D]] (.tup [.agg [.pv (.lit (.int .i64 ((lackOf f c).1.kind))), .pv (.lit (.int .i64 ((lackOf f c).1.node))), .pv (.lit (.int .i64 ((lackOf f c).1.site))), .pv (.lit (.int .i64 ((lackOf f c).1.epoch)))], .pv (.lit (.bool ((lackOf f c).2)))]) := by
 generalize hR : lackOf f c = R
 refine PCalls.of_body tabOk Try.func39 rfl rfl rfl rfl rfl mixed fun E hP C hI => ?_
 refine Awp.consP C ?_
 refine rvc_un (rexec_prim C (δ := { v := .ptr 2 0, new := [(2, .cells [.pv (.lit (.int .u64 f.alive)), .pv (.lit (.int .i64 (f.home 0))), .pv (.lit (.int .i64 (f.home 1))), .pv (.lit (.int .i64 (f.home 2))), .pv (.lit (.int .i64 (f.home 3))), .pv (.lit (.int .i64 (f.home 4))), .pv (.lit (.int .i64 (f.home 5))), .pv (.lit (.int .i64 (f.wish 0))), .pv (.lit (.int .i64 (f.wish 1))), .pv (.lit (.int .i64 (f.wish 2)))])] }) rfl rfl rfl rfl trivial rfl ?_)
 refine rvc_un (rexec_prim C (δ := { v := .ptr 3 0, new := [(3, .cells [.pv (.lit (.int .i64 c.epoch)), sS (some c.members.nil) eMember c.members.D])] }) rfl rfl rfl rfl trivial rfl ?_)
 refine rvc_un (rexec_prim C (δ := { v := .ptr 4 0, new := [(4, .cells [.pv (.lit (.int .i64 0)), .pv (.lit (.int .i64 0)), .pv (.lit (.int .i64 0)), .pv (.lit (.int .i64 0))])] }) rfl rfl rfl rfl trivial rfl ?_)
 refine rvP C (.pv (.lit (.bool false))) ?_
 refine rvc_nil ?_
 refine Awp.seq ?_
 refine Awp.consP C ?_
 refine rvP C (.ptr 2 7) ?_
 refine rvP C (.agg [.pv (.lit (.int .i64 (f.wish 0))), .pv (.lit (.int .i64 (f.wish 1))), .pv (.lit (.int .i64 (f.wish 2)))]) ?_
 refine rvP C (.pv (.lit (.int .i64 0))) ?_
 refine rvc_nil ?_
 refine Awp.block ?_
 refine Awp.forR (σ := Unit) (3) (fun i _v => [(2, .ptr 2 0), (3, .ptr 3 0), (4, .ptr 4 0), (12, .agg [.pv (.lit (.int .i64 (f.wish 0))), .pv (.lit (.int .i64 (f.wish 1))), .pv (.lit (.int .i64 (f.wish 2)))]), (13, .pv (.lit (.int .i64 (i : Int))))]) (fun i _v => [(2, .cells [.pv (.lit (.int .u64 f.alive)), .pv (.lit (.int .i64 (f.home 0))), .pv (.lit (.int .i64 (f.home 1))), .pv (.lit (.int .i64 (f.home 2))), .pv (.lit (.int .i64 (f.home 3))), .pv (.lit (.int .i64 (f.home 4))), .pv (.lit (.int .i64 (f.home 5))), .pv (.lit (.int .i64 (f.wish 0))), .pv (.lit (.int .i64 (f.wish 1))), .pv (.lit (.int .i64 (f.wish 2)))]), (3, .cells [.pv (.lit (.int .i64 c.epoch)), sS (some c.members.nil) eMember c.members.D]), (4, .cells [.pv (.lit (.int .i64 0)), .pv (.lit (.int .i64 0)), .pv (.lit (.int .i64 0)), .pv (.lit (.int .i64 0))])]) [2, 3, 4] (fun i _v => lackOf_l0 f c (3 - i) i  = R) () ?_ ?_ (fun i _v h1 hR => ?_)
 · exact hR
 · exact ⟨fun b => b, WeakerR.ofL (Ks := [2, 3, 4]) hI ⟨⟨rfl, rfl⟩, ⟨rfl, rfl⟩, ⟨rfl, rfl⟩, ⟨rfl, rfl⟩, ⟨rfl, rfl⟩, trivial⟩ (okH_cons rfl rfl rfl rfl (okH_cons rfl rfl rfl rfl (okH_cons rfl rfl rfl rfl (okH_nil)))) rfl⟩
 refine Awp.consP C ?_
 refine rvP C (.pv (.lit (.bool (decide ((i : Int) < 3))))) ?_
 refine rvc_nil ?_
 refine Awp.seq ?_
 refine Awp.cond (b := (decide ((i : Int) < 3))) rfl (fun h2 => ?_) (fun h2 => ?_)
 ·
  have h3 : i < 3 := by have := of_decide_eq_true h2; omega
  obtain ⟨k, h4⟩ : ∃ k, 3 - i = k + 1 := ⟨3 - i - 1, by omega⟩
  rw [h4] at hR
  refine Awp.skip ?_
  refine Awp.seq ?_
  refine Awp.block ?_
  refine Awp.consP C ?_
  refine rvP C (.pv (.lit (.int .i64 (i : Int)))) ?_
  refine rvc_un (rexec_idxA C (fun j => .pv (.lit (.int .i64 (f.wish j)))) (.pv (.lit (.int .i64 (f.wish i)))) rfl rfl rfl rfl rfl rfl rfl rfl ⟨(by have := of_decide_eq_true h2; omega), (by have := of_decide_eq_true h2; omega)⟩ rfl ?_)
  refine rvP C (.pv (.lit (.int .i64 (i : Int)))) ?_
  refine rvP C (.pv (.lit (.int .i64 (f.wish i)))) ?_
  refine rvc_nil ?_
  refine Awp.seq ?_
  refine Awp.consP C ?_
  refine rvP C (.agg [.pv (.lit (.int .i64 c.epoch)), sS (some c.members.nil) eMember c.members.D]) ?_
  refine rvP C (.pv (.lit (.int .i64 (i : Int)))) ?_
  refine rvc_un (rexec_call hP C rfl rfl rfl (many_calls c (i : Int) hl1) ?_)
  refine rvP C (.pv (.lit (.int .i64 (f.wish i)))) ?_
  refine rvP C (.pv (.lit (.bool (decide ((many c (i : Int)) ≥ (f.wish i)))))) ?_
  refine rvc_nil ?_
  refine Awp.cond (b := (decide ((many c (i : Int)) ≥ (f.wish i)))) rfl (fun h5 => ?_) (fun h5 => ?_)
  ·
   replace hR := of_true h5 hR
   refine Awp.exit ?_
   refine Awp.regionP C ?_
   refine rvP C (.pv (.lit (.int .i64 (IntKind.i64.wrap ((i : Int) + 1))))) ?_
   refine rvP C (.pv (.lit (.int .i64 (IntKind.i64.wrap ((i : Int) + 1))))) ?_
   refine rvc_nil ?_
   refine ⟨h3, (), ?_, ?_⟩
   · exact (by rw [show 3 - (i + 1) = k by omega]; exact hR)
   · exact ⟨fun b => b, WeakerR.ofL (Ks := [2, 3, 4]) hI ⟨⟨rfl, rfl⟩, ⟨rfl, rfl⟩, ⟨rfl, rfl⟩, ⟨rfl, rfl⟩, ⟨lit_cast (wrap_i64 (by omega) (by omega)), rfl⟩, trivial⟩ (okH_cons rfl rfl rfl rfl (okH_cons rfl rfl rfl rfl (okH_cons rfl rfl rfl rfl (okH_nil)))) rfl⟩
  ·
   replace hR := of_false h5 hR
   refine Awp.skip ?_
   refine Awp.consP C ?_
   refine rvP C (.agg [.pv (.lit (.int .u64 f.alive)), .pv (.lit (.int .i64 (f.home 0))), .pv (.lit (.int .i64 (f.home 1))), .pv (.lit (.int .i64 (f.home 2))), .pv (.lit (.int .i64 (f.home 3))), .pv (.lit (.int .i64 (f.home 4))), .pv (.lit (.int .i64 (f.home 5))), .pv (.lit (.int .i64 (f.wish 0))), .pv (.lit (.int .i64 (f.wish 1))), .pv (.lit (.int .i64 (f.wish 2)))]) ?_
   refine rvP C (.agg [.pv (.lit (.int .i64 c.epoch)), sS (some c.members.nil) eMember c.members.D]) ?_
   refine rvP C (.pv (.lit (.int .i64 (i : Int)))) ?_
   obtain ⟨sp, hq_sp⟩ : ∃ q_, q_ = (spare f c (i : Int)) := ⟨_, rfl⟩
   have hc_sp := (spare_calls f c (i : Int) hl1)
   first | rw [← hq_sp] at hR hc_sp | (unfold lackOf at hR; rw [← hq_sp] at hR hc_sp) | (unfold lackOf_l0 at hR; rw [← hq_sp] at hR hc_sp)
   refine rvc_un (rexec_call hP C rfl rfl rfl hc_sp ?_)
   refine rvP C (.tup [.pv (.lit (.int .i64 sp.1)), .pv (.lit (.bool sp.2))]) ?_
   refine rvP C (.pv (.lit (.int .i64 sp.1))) ?_
   refine rvP C (.pv (.lit (.bool sp.2))) ?_
   refine rvP C (.pv (.lit (.int .i64 sp.1))) ?_
   refine rvP C (.pv (.lit (.bool sp.2))) ?_
   refine rvc_nil ?_
   refine Awp.consP C ?_
   refine rvP C (.pv (.lit (.bool sp.2))) ?_
   refine rvc_nil ?_
   refine Awp.cond (b := sp.2) rfl (fun h6 => ?_) (fun h6 => ?_)
   ·
    replace hR := of_true h6 hR
    refine Awp.consP C ?_
    refine rvP C (.pv (.lit (.int .i64 sp.1))) ?_
    refine rvP C (.pv (.lit (.int .i64 (i : Int)))) ?_
    refine rvP C (.ptr 3 0) ?_
    refine rvP C (.pv (.lit (.int .i64 c.epoch))) ?_
    refine rvP C (.agg [.pv (.lit (.int .i64 2)), .pv (.lit (.int .i64 sp.1)), .pv (.lit (.int .i64 (i : Int))), .pv (.lit (.int .i64 c.epoch))]) ?_
    refine rvc_un (rexec_prim C (δ := { v := .ptr 10 0, new := [(10, .cells [.pv (.lit (.int .i64 0)), .pv (.lit (.int .i64 0)), .pv (.lit (.int .i64 0)), .pv (.lit (.int .i64 0))])] }) rfl rfl rfl rfl trivial rfl ?_)
    refine rvc_un (rexec_prim C (δ := { v := .undef, wr := [(10, some (.cells [.pv (.lit (.int .i64 2)), .pv (.lit (.int .i64 sp.1)), .pv (.lit (.int .i64 (i : Int))), .pv (.lit (.int .i64 c.epoch))]))] }) rfl rfl rfl rfl trivial rfl ?_)
    refine rvc_nil ?_
    refine Awp.consP C ?_
    refine rvP C (.agg [.pv (.lit (.int .i64 c.epoch)), sS (some c.members.nil) eMember c.members.D]) ?_
    refine rvP C (.agg [.pv (.lit (.int .i64 2)), .pv (.lit (.int .i64 sp.1)), .pv (.lit (.int .i64 (i : Int))), .pv (.lit (.int .i64 c.epoch))]) ?_
    refine rvc_un (rexec_call hP C rfl rfl rfl (may_calls c (Command.mk 2 sp.1 (i : Int) c.epoch) hn hl1) ?_)
    refine rvc_nil ?_
    refine Awp.cond (b := (may c (Command.mk 2 sp.1 (i : Int) c.epoch))) rfl (fun h7 => ?_) (fun h7 => ?_)
    ·
     replace hR := of_true h7 hR
     refine Awp.consP C ?_
     refine rvP C (.agg [.pv (.lit (.int .i64 2)), .pv (.lit (.int .i64 sp.1)), .pv (.lit (.int .i64 (i : Int))), .pv (.lit (.int .i64 c.epoch))]) ?_
     refine rvc_un (rexec_prim C (δ := { v := .undef, wr := [(4, some (.cells [.pv (.lit (.int .i64 2)), .pv (.lit (.int .i64 sp.1)), .pv (.lit (.int .i64 (i : Int))), .pv (.lit (.int .i64 c.epoch))]))] }) rfl rfl rfl rfl trivial rfl ?_)
     refine rvP C (.pv (.lit (.bool true))) ?_
     refine rvc_nil ?_
     refine Awp.ret ?_
     subst hR
     exact ⟨.inl rfl, rfl⟩
    ·
     replace hR := of_false h7 hR
     refine Awp.skip ?_
     refine Awp.regionP C ?_
     refine rvP C (.pv (.lit (.int .i64 (IntKind.i64.wrap ((i : Int) + 1))))) ?_
     refine rvP C (.pv (.lit (.int .i64 (IntKind.i64.wrap ((i : Int) + 1))))) ?_
     refine rvc_nil ?_
     refine ⟨h3, (), ?_, ?_⟩
     · exact (by rw [show 3 - (i + 1) = k by omega]; exact hR)
     · exact ⟨fun b => b, WeakerR.ofL (Ks := [2, 3, 4]) hI ⟨⟨rfl, rfl⟩, ⟨rfl, rfl⟩, ⟨rfl, rfl⟩, ⟨rfl, rfl⟩, ⟨lit_cast (wrap_i64 (by omega) (by omega)), rfl⟩, trivial⟩ (okH_cons rfl rfl rfl rfl (okH_cons rfl rfl rfl rfl (okH_cons rfl rfl rfl rfl (okH_nil)))) rfl⟩
   ·
    replace hR := of_false h6 hR
    refine Awp.skip ?_
    refine Awp.regionP C ?_
    refine rvP C (.pv (.lit (.int .i64 (IntKind.i64.wrap ((i : Int) + 1))))) ?_
    refine rvP C (.pv (.lit (.int .i64 (IntKind.i64.wrap ((i : Int) + 1))))) ?_
    refine rvc_nil ?_
    refine ⟨h3, (), ?_, ?_⟩
    · exact (by rw [show 3 - (i + 1) = k by omega]; exact hR)
    · exact ⟨fun b => b, WeakerR.ofL (Ks := [2, 3, 4]) hI ⟨⟨rfl, rfl⟩, ⟨rfl, rfl⟩, ⟨rfl, rfl⟩, ⟨rfl, rfl⟩, ⟨lit_cast (wrap_i64 (by omega) (by omega)), rfl⟩, trivial⟩ (okH_cons rfl rfl rfl rfl (okH_cons rfl rfl rfl rfl (okH_cons rfl rfl rfl rfl (okH_nil)))) rfl⟩
 ·
  rw [show 3 - i = 0 by have := of_decide_eq_false h2; omega] at hR
  refine Awp.exit ?_
  refine Awp.consP C ?_
  refine rvP C (.agg [.pv (.lit (.int .i64 0)), .pv (.lit (.int .i64 0)), .pv (.lit (.int .i64 0)), .pv (.lit (.int .i64 0))]) ?_
  refine rvc_un (rexec_prim C (δ := { v := .undef, wr := [(4, some (.cells [.pv (.lit (.int .i64 0)), .pv (.lit (.int .i64 0)), .pv (.lit (.int .i64 0)), .pv (.lit (.int .i64 0))]))] }) rfl rfl rfl rfl trivial rfl ?_)
  refine rvP C (.pv (.lit (.bool false))) ?_
  refine rvc_nil ?_
  refine Awp.ret ?_
  subst hR
  exact ⟨.inl rfl, rfl⟩
def nextP (c : Chain) (alive : Int) (h : (Nat → Int)) (w : (Nat → Int)) : Command × Bool × Int :=
  (bif ((check c) != 0) then ((Command.mk 0 0 0 0), false, (check c)) else (bif ((planCheck h w) != 0) then ((Command.mk 0 0 0 0), false, (planCheck h w)) else (bif (deadOf (Fleet.mk alive h w) c).2 then ((deadOf (Fleet.mk alive h w) c).1, true, 0) else (bif ((whole c) != (nodes c)) then ((Command.mk 0 0 0 0), false, 0) else ((lackOf (Fleet.mk alive h w) c).1, (lackOf (Fleet.mk alive h w) c).2, 0)))))
theorem nextP_calls (c : Chain) (alive : Int) (h : (Nat → Int)) (w : (Nat → Int)) (hn : c.members.nil = true → c.members.D = []) (hl1 : c.members.D.length ≤ 1000000) : PCalls Try.prog 10 [.agg [.pv (.lit (.int .i64 c.epoch)), sS (some c.members.nil) eMember c.members.D], .pv (.lit (.int .u64 alive)), .agg [.pv (.lit (.int .i64 (h 0))), .pv (.lit (.int .i64 (h 1))), .pv (.lit (.int .i64 (h 2))), .pv (.lit (.int .i64 (h 3))), .pv (.lit (.int .i64 (h 4))), .pv (.lit (.int .i64 (h 5)))], .agg [.pv (.lit (.int .i64 (w 0))), .pv (.lit (.int .i64 (w 1))), .pv (.lit (.int .i64 (w 2)))]] (.tup [.agg [.pv (.lit (.int .i64 ((nextP c alive h w).1.kind))), .pv (.lit (.int .i64 ((nextP c alive h w).1.node))), .pv (.lit (.int .i64 ((nextP c alive h w).1.site))), .pv (.lit (.int .i64 ((nextP c alive h w).1.epoch)))], .pv (.lit (.bool ((nextP c alive h w).2.1))), .pv (.lit (.int .i64 ((nextP c alive h w).2.2)))]) := by
 generalize hR : nextP c alive h w = R
 refine PCalls.of_body tabOk Try.func10 rfl rfl rfl rfl rfl mixed fun E hP C hI => ?_
 refine Awp.consP C ?_
 refine rvc_un (rexec_prim C (δ := { v := .ptr 4 0, new := [(4, .cells [.pv (.lit (.int .i64 c.epoch)), sS (some c.members.nil) eMember c.members.D])] }) rfl rfl rfl rfl trivial rfl ?_)
 refine rvc_un (rexec_prim C (δ := { v := .ptr 6 0, new := [(6, .cells [.pv (.lit (.int .i64 (h 0))), .pv (.lit (.int .i64 (h 1))), .pv (.lit (.int .i64 (h 2))), .pv (.lit (.int .i64 (h 3))), .pv (.lit (.int .i64 (h 4))), .pv (.lit (.int .i64 (h 5)))])] }) rfl rfl rfl rfl trivial rfl ?_)
 refine rvc_un (rexec_prim C (δ := { v := .ptr 7 0, new := [(7, .cells [.pv (.lit (.int .i64 (w 0))), .pv (.lit (.int .i64 (w 1))), .pv (.lit (.int .i64 (w 2)))])] }) rfl rfl rfl rfl trivial rfl ?_)
 refine rvc_un (rexec_prim C (δ := { v := .ptr 8 0, new := [(8, .cells [.pv (.lit (.int .i64 0)), .pv (.lit (.int .i64 0)), .pv (.lit (.int .i64 0)), .pv (.lit (.int .i64 0))])] }) rfl rfl rfl rfl trivial rfl ?_)
 refine rvP C (.pv (.lit (.bool false))) ?_
 refine rvP C (.pv (.lit (.int .i64 0))) ?_
 refine rvc_nil ?_
 refine Awp.seq ?_
 refine Awp.consP C ?_
 refine rvP C (.agg [.pv (.lit (.int .i64 c.epoch)), sS (some c.members.nil) eMember c.members.D]) ?_
 refine rvc_un (rexec_call hP C rfl rfl rfl (check_calls c (Nat.le_trans hl1 (by decide))) ?_)
 refine rvP C (.pv (.lit (.int .i64 (check c)))) ?_
 refine rvc_nil ?_
 refine Awp.consP C ?_
 refine rvP C (.pv (.lit (.int .i64 (check c)))) ?_
 refine rvP C (.pv (.lit (.bool ((check c) != 0)))) ?_
 refine rvc_nil ?_
 refine Awp.cond (b := ((check c) != 0)) rfl (fun h1 => ?_) (fun h1 => ?_)
 ·
  replace hR := of_true h1 hR
  refine Awp.consP C ?_
  refine rvP C (.agg [.pv (.lit (.int .i64 0)), .pv (.lit (.int .i64 0)), .pv (.lit (.int .i64 0)), .pv (.lit (.int .i64 0))]) ?_
  refine rvP C (.pv (.lit (.int .i64 (check c)))) ?_
  refine rvc_un (rexec_prim C (δ := { v := .undef, wr := [(8, some (.cells [.pv (.lit (.int .i64 0)), .pv (.lit (.int .i64 0)), .pv (.lit (.int .i64 0)), .pv (.lit (.int .i64 0))]))] }) rfl rfl rfl rfl trivial rfl ?_)
  refine rvP C (.pv (.lit (.bool false))) ?_
  refine rvP C (.pv (.lit (.int .i64 (check c)))) ?_
  refine rvc_nil ?_
  refine Awp.ret ?_
  subst hR
  exact ⟨.inl rfl, rfl⟩
 ·
  replace hR := of_false h1 hR
  refine Awp.skip ?_
  refine Awp.seq ?_
  refine Awp.consP C ?_
  refine rvP C (.agg [.pv (.lit (.int .i64 (h 0))), .pv (.lit (.int .i64 (h 1))), .pv (.lit (.int .i64 (h 2))), .pv (.lit (.int .i64 (h 3))), .pv (.lit (.int .i64 (h 4))), .pv (.lit (.int .i64 (h 5)))]) ?_
  refine rvP C (.agg [.pv (.lit (.int .i64 (w 0))), .pv (.lit (.int .i64 (w 1))), .pv (.lit (.int .i64 (w 2)))]) ?_
  refine rvc_un (rexec_call hP C rfl rfl rfl (planCheck_calls h w) ?_)
  refine rvP C (.pv (.lit (.int .i64 (planCheck h w)))) ?_
  refine rvc_nil ?_
  refine Awp.consP C ?_
  refine rvP C (.pv (.lit (.int .i64 (planCheck h w)))) ?_
  refine rvP C (.pv (.lit (.bool ((planCheck h w) != 0)))) ?_
  refine rvc_nil ?_
  refine Awp.cond (b := ((planCheck h w) != 0)) rfl (fun h2 => ?_) (fun h2 => ?_)
  ·
   replace hR := of_true h2 hR
   refine Awp.consP C ?_
   refine rvP C (.agg [.pv (.lit (.int .i64 0)), .pv (.lit (.int .i64 0)), .pv (.lit (.int .i64 0)), .pv (.lit (.int .i64 0))]) ?_
   refine rvP C (.pv (.lit (.int .i64 (planCheck h w)))) ?_
   refine rvc_un (rexec_prim C (δ := { v := .undef, wr := [(8, some (.cells [.pv (.lit (.int .i64 0)), .pv (.lit (.int .i64 0)), .pv (.lit (.int .i64 0)), .pv (.lit (.int .i64 0))]))] }) rfl rfl rfl rfl trivial rfl ?_)
   refine rvP C (.pv (.lit (.bool false))) ?_
   refine rvP C (.pv (.lit (.int .i64 (planCheck h w)))) ?_
   refine rvc_nil ?_
   refine Awp.ret ?_
   subst hR
   exact ⟨.inl rfl, rfl⟩
  ·
   replace hR := of_false h2 hR
   refine Awp.skip ?_
   refine Awp.consP C ?_
   refine rvP C (.pv (.lit (.int .u64 alive))) ?_
   refine rvP C (.agg [.pv (.lit (.int .i64 (h 0))), .pv (.lit (.int .i64 (h 1))), .pv (.lit (.int .i64 (h 2))), .pv (.lit (.int .i64 (h 3))), .pv (.lit (.int .i64 (h 4))), .pv (.lit (.int .i64 (h 5)))]) ?_
   refine rvP C (.agg [.pv (.lit (.int .i64 (w 0))), .pv (.lit (.int .i64 (w 1))), .pv (.lit (.int .i64 (w 2)))]) ?_
   refine rvP C (.agg [.pv (.lit (.int .u64 alive)), .pv (.lit (.int .i64 (h 0))), .pv (.lit (.int .i64 (h 1))), .pv (.lit (.int .i64 (h 2))), .pv (.lit (.int .i64 (h 3))), .pv (.lit (.int .i64 (h 4))), .pv (.lit (.int .i64 (h 5))), .pv (.lit (.int .i64 (w 0))), .pv (.lit (.int .i64 (w 1))), .pv (.lit (.int .i64 (w 2)))]) ?_
   refine rvc_un (rexec_prim C (δ := { v := .ptr 13 0, new := [(13, .cells [.pv (.lit (.int .u64 0)), .pv (.lit (.int .i64 0)), .pv (.lit (.int .i64 0)), .pv (.lit (.int .i64 0)), .pv (.lit (.int .i64 0)), .pv (.lit (.int .i64 0)), .pv (.lit (.int .i64 0)), .pv (.lit (.int .i64 0)), .pv (.lit (.int .i64 0)), .pv (.lit (.int .i64 0))])] }) rfl rfl rfl rfl trivial rfl ?_)
   refine rvc_un (rexec_prim C (δ := { v := .undef, wr := [(13, some (.cells [.pv (.lit (.int .u64 alive)), .pv (.lit (.int .i64 (h 0))), .pv (.lit (.int .i64 (h 1))), .pv (.lit (.int .i64 (h 2))), .pv (.lit (.int .i64 (h 3))), .pv (.lit (.int .i64 (h 4))), .pv (.lit (.int .i64 (h 5))), .pv (.lit (.int .i64 (w 0))), .pv (.lit (.int .i64 (w 1))), .pv (.lit (.int .i64 (w 2)))]))] }) rfl rfl rfl rfl trivial rfl ?_)
   refine rvc_nil ?_
   refine Awp.seq ?_
   refine Awp.consP C ?_
   refine rvP C (.agg [.pv (.lit (.int .u64 alive)), .pv (.lit (.int .i64 (h 0))), .pv (.lit (.int .i64 (h 1))), .pv (.lit (.int .i64 (h 2))), .pv (.lit (.int .i64 (h 3))), .pv (.lit (.int .i64 (h 4))), .pv (.lit (.int .i64 (h 5))), .pv (.lit (.int .i64 (w 0))), .pv (.lit (.int .i64 (w 1))), .pv (.lit (.int .i64 (w 2)))]) ?_
   refine rvP C (.agg [.pv (.lit (.int .i64 c.epoch)), sS (some c.members.nil) eMember c.members.D]) ?_
   refine rvc_un (rexec_call hP C rfl rfl rfl (deadOf_calls (Fleet.mk alive h w) c hn hl1) ?_)
   refine rvP C (.tup [.agg [.pv (.lit (.int .i64 ((deadOf (Fleet.mk alive h w) c).1.kind))), .pv (.lit (.int .i64 ((deadOf (Fleet.mk alive h w) c).1.node))), .pv (.lit (.int .i64 ((deadOf (Fleet.mk alive h w) c).1.site))), .pv (.lit (.int .i64 ((deadOf (Fleet.mk alive h w) c).1.epoch)))], .pv (.lit (.bool ((deadOf (Fleet.mk alive h w) c).2)))]) ?_
   refine rvP C (.agg [.pv (.lit (.int .i64 ((deadOf (Fleet.mk alive h w) c).1.kind))), .pv (.lit (.int .i64 ((deadOf (Fleet.mk alive h w) c).1.node))), .pv (.lit (.int .i64 ((deadOf (Fleet.mk alive h w) c).1.site))), .pv (.lit (.int .i64 ((deadOf (Fleet.mk alive h w) c).1.epoch)))]) ?_
   refine rvP C (.pv (.lit (.bool ((deadOf (Fleet.mk alive h w) c).2)))) ?_
   refine rvc_un (rexec_prim C (δ := { v := .ptr 14 0, new := [(14, .cells [.pv (.lit (.int .i64 0)), .pv (.lit (.int .i64 0)), .pv (.lit (.int .i64 0)), .pv (.lit (.int .i64 0))])] }) rfl rfl rfl rfl trivial rfl ?_)
   refine rvc_un (rexec_prim C (δ := { v := .undef, wr := [(14, some (.cells [.pv (.lit (.int .i64 ((deadOf (Fleet.mk alive h w) c).1.kind))), .pv (.lit (.int .i64 ((deadOf (Fleet.mk alive h w) c).1.node))), .pv (.lit (.int .i64 ((deadOf (Fleet.mk alive h w) c).1.site))), .pv (.lit (.int .i64 ((deadOf (Fleet.mk alive h w) c).1.epoch)))]))] }) rfl rfl rfl rfl trivial rfl ?_)
   refine rvP C (.pv (.lit (.bool ((deadOf (Fleet.mk alive h w) c).2)))) ?_
   refine rvc_nil ?_
   refine Awp.consP C ?_
   refine rvP C (.pv (.lit (.bool ((deadOf (Fleet.mk alive h w) c).2)))) ?_
   refine rvc_nil ?_
   refine Awp.cond (b := (deadOf (Fleet.mk alive h w) c).2) rfl (fun h3 => ?_) (fun h3 => ?_)
   ·
    replace hR := of_true h3 hR
    refine Awp.consP C ?_
    refine rvP C (.agg [.pv (.lit (.int .i64 ((deadOf (Fleet.mk alive h w) c).1.kind))), .pv (.lit (.int .i64 ((deadOf (Fleet.mk alive h w) c).1.node))), .pv (.lit (.int .i64 ((deadOf (Fleet.mk alive h w) c).1.site))), .pv (.lit (.int .i64 ((deadOf (Fleet.mk alive h w) c).1.epoch)))]) ?_
    refine rvc_un (rexec_prim C (δ := { v := .undef, wr := [(8, some (.cells [.pv (.lit (.int .i64 ((deadOf (Fleet.mk alive h w) c).1.kind))), .pv (.lit (.int .i64 ((deadOf (Fleet.mk alive h w) c).1.node))), .pv (.lit (.int .i64 ((deadOf (Fleet.mk alive h w) c).1.site))), .pv (.lit (.int .i64 ((deadOf (Fleet.mk alive h w) c).1.epoch)))]))] }) rfl rfl rfl rfl trivial rfl ?_)
    refine rvP C (.pv (.lit (.bool true))) ?_
    refine rvP C (.pv (.lit (.int .i64 0))) ?_
    refine rvc_nil ?_
    refine Awp.ret ?_
    subst hR
    exact ⟨.inl rfl, rfl⟩
   ·
    replace hR := of_false h3 hR
    refine Awp.skip ?_
    refine Awp.seq ?_
    refine Awp.consP C ?_
    refine rvP C (.agg [.pv (.lit (.int .i64 c.epoch)), sS (some c.members.nil) eMember c.members.D]) ?_
    refine rvc_un (rexec_call hP C rfl rfl rfl (whole_calls c (Nat.le_trans hl1 (by decide))) ?_)
    refine rvP C (.agg [.pv (.lit (.int .i64 c.epoch)), sS (some c.members.nil) eMember c.members.D]) ?_
    refine rvc_un (rexec_call hP C rfl rfl rfl (nodes_calls c (Nat.le_trans hl1 (by decide))) ?_)
    refine rvP C (.pv (.lit (.bool ((whole c) != (nodes c))))) ?_
    refine rvc_nil ?_
    refine Awp.cond (b := ((whole c) != (nodes c))) rfl (fun h4 => ?_) (fun h4 => ?_)
    ·
     replace hR := of_true h4 hR
     refine Awp.consP C ?_
     refine rvP C (.agg [.pv (.lit (.int .i64 0)), .pv (.lit (.int .i64 0)), .pv (.lit (.int .i64 0)), .pv (.lit (.int .i64 0))]) ?_
     refine rvc_un (rexec_prim C (δ := { v := .undef, wr := [(8, some (.cells [.pv (.lit (.int .i64 0)), .pv (.lit (.int .i64 0)), .pv (.lit (.int .i64 0)), .pv (.lit (.int .i64 0))]))] }) rfl rfl rfl rfl trivial rfl ?_)
     refine rvP C (.pv (.lit (.bool false))) ?_
     refine rvP C (.pv (.lit (.int .i64 0))) ?_
     refine rvc_nil ?_
     refine Awp.ret ?_
     subst hR
     exact ⟨.inl rfl, rfl⟩
    ·
     replace hR := of_false h4 hR
     refine Awp.skip ?_
     refine Awp.consP C ?_
     refine rvP C (.agg [.pv (.lit (.int .u64 alive)), .pv (.lit (.int .i64 (h 0))), .pv (.lit (.int .i64 (h 1))), .pv (.lit (.int .i64 (h 2))), .pv (.lit (.int .i64 (h 3))), .pv (.lit (.int .i64 (h 4))), .pv (.lit (.int .i64 (h 5))), .pv (.lit (.int .i64 (w 0))), .pv (.lit (.int .i64 (w 1))), .pv (.lit (.int .i64 (w 2)))]) ?_
     refine rvP C (.agg [.pv (.lit (.int .i64 c.epoch)), sS (some c.members.nil) eMember c.members.D]) ?_
     refine rvc_un (rexec_call hP C rfl rfl rfl (lackOf_calls (Fleet.mk alive h w) c hn hl1) ?_)
     refine rvP C (.tup [.agg [.pv (.lit (.int .i64 ((lackOf (Fleet.mk alive h w) c).1.kind))), .pv (.lit (.int .i64 ((lackOf (Fleet.mk alive h w) c).1.node))), .pv (.lit (.int .i64 ((lackOf (Fleet.mk alive h w) c).1.site))), .pv (.lit (.int .i64 ((lackOf (Fleet.mk alive h w) c).1.epoch)))], .pv (.lit (.bool ((lackOf (Fleet.mk alive h w) c).2)))]) ?_
     refine rvP C (.agg [.pv (.lit (.int .i64 ((lackOf (Fleet.mk alive h w) c).1.kind))), .pv (.lit (.int .i64 ((lackOf (Fleet.mk alive h w) c).1.node))), .pv (.lit (.int .i64 ((lackOf (Fleet.mk alive h w) c).1.site))), .pv (.lit (.int .i64 ((lackOf (Fleet.mk alive h w) c).1.epoch)))]) ?_
     refine rvP C (.pv (.lit (.bool ((lackOf (Fleet.mk alive h w) c).2)))) ?_
     refine rvc_un (rexec_prim C (δ := { v := .ptr 16 0, new := [(16, .cells [.pv (.lit (.int .i64 0)), .pv (.lit (.int .i64 0)), .pv (.lit (.int .i64 0)), .pv (.lit (.int .i64 0))])] }) rfl rfl rfl rfl trivial rfl ?_)
     refine rvc_un (rexec_prim C (δ := { v := .undef, wr := [(16, some (.cells [.pv (.lit (.int .i64 ((lackOf (Fleet.mk alive h w) c).1.kind))), .pv (.lit (.int .i64 ((lackOf (Fleet.mk alive h w) c).1.node))), .pv (.lit (.int .i64 ((lackOf (Fleet.mk alive h w) c).1.site))), .pv (.lit (.int .i64 ((lackOf (Fleet.mk alive h w) c).1.epoch)))]))] }) rfl rfl rfl rfl trivial rfl ?_)
     refine rvP C (.pv (.lit (.bool ((lackOf (Fleet.mk alive h w) c).2)))) ?_
     refine rvc_nil ?_
     refine Awp.consP C ?_
     refine rvP C (.agg [.pv (.lit (.int .i64 ((lackOf (Fleet.mk alive h w) c).1.kind))), .pv (.lit (.int .i64 ((lackOf (Fleet.mk alive h w) c).1.node))), .pv (.lit (.int .i64 ((lackOf (Fleet.mk alive h w) c).1.site))), .pv (.lit (.int .i64 ((lackOf (Fleet.mk alive h w) c).1.epoch)))]) ?_
     refine rvP C (.pv (.lit (.bool ((lackOf (Fleet.mk alive h w) c).2)))) ?_
     refine rvc_un (rexec_prim C (δ := { v := .undef, wr := [(8, some (.cells [.pv (.lit (.int .i64 ((lackOf (Fleet.mk alive h w) c).1.kind))), .pv (.lit (.int .i64 ((lackOf (Fleet.mk alive h w) c).1.node))), .pv (.lit (.int .i64 ((lackOf (Fleet.mk alive h w) c).1.site))), .pv (.lit (.int .i64 ((lackOf (Fleet.mk alive h w) c).1.epoch)))]))] }) rfl rfl rfl rfl trivial rfl ?_)
     refine rvP C (.pv (.lit (.bool ((lackOf (Fleet.mk alive h w) c).2)))) ?_
     refine rvP C (.pv (.lit (.int .i64 0))) ?_
     refine rvc_nil ?_
     refine Awp.ret ?_
     subst hR
     exact ⟨.inl rfl, rfl⟩
def readyAll_l0 (alive : Int) : List Member → Nat → Int → (Sl Member) → Chain
  | [], _, vc, vc1 => (Chain.mk vc vc1)
  | x :: xs, i, vc, vc1 => (bif (((ready (Chain.mk vc vc1) x.node).2) == 0) then (bif (mHas alive x.node) then readyAll_l0 alive xs (i + 1) ((ready (Chain.mk vc vc1) x.node).1.epoch) ((ready (Chain.mk vc vc1) x.node).1.members) else readyAll_l0 alive xs (i + 1) vc vc1) else readyAll_l0 alive xs (i + 1) vc vc1)
def readyAll (c : Chain) (alive : Int) : Chain :=
  readyAll_l0 alive c.members.D 0 c.epoch c.members
theorem readyAll_calls (c : Chain) (alive : Int) (hn : c.members.nil = true → c.members.D = []) (hl1 : c.members.D.length ≤ 1000000) : PCalls Try.prog 44 [.agg [.pv (.lit (.int .i64 c.epoch)), sS (some c.members.nil) eMember c.members.D], .pv (.lit (.int .u64 alive))] (.agg [.pv (.lit (.int .i64 ((readyAll c alive).epoch))), sS (some (readyAll c alive).members.nil) eMember ((readyAll c alive).members.D)]) := by
 generalize hR : readyAll c alive = R
 refine PCalls.of_body tabOk Try.func44 rfl rfl rfl rfl rfl mixed fun E hP C hI => ?_
 refine Awp.consP C ?_
 refine rvc_un (rexec_prim C (δ := { v := .ptr 2 0, new := [(2, .cells [.pv (.lit (.int .i64 c.epoch)), sS (some c.members.nil) eMember c.members.D])] }) rfl rfl rfl rfl trivial rfl ?_)
 refine rvc_un (rexec_prim C (δ := { v := .ptr 4 0, new := [(4, .cells [.pv (.lit (.int .i64 0)), sS (some true) eMember []])] }) rfl rfl rfl rfl trivial rfl ?_)
 refine rvc_nil ?_
 refine Awp.seq ?_
 refine Awp.consP C ?_
 refine rvP C (.ptr 2 1) ?_
 refine rvP C (sS (some c.members.nil) eMember c.members.D) ?_
 refine rvP C (.pv (.lit (.int .i64 (c.members.D.length : Int)))) ?_
 refine rvP C (.pv (.lit (.int .i64 0))) ?_
 refine rvc_nil ?_
 refine Awp.block ?_
 refine Awp.forR (σ := Int × ((Sl Member))) (c.members.D.length) (fun i v => [(1, .pv (.lit (.int .u64 alive))), (2, .ptr 2 0), (4, .ptr 4 0), (10, sS (some c.members.nil) eMember c.members.D), (11, .pv (.lit (.int .i64 (c.members.D.length : Int)))), (12, .pv (.lit (.int .i64 (i : Int))))]) (fun i v => [(2, .cells [.pv (.lit (.int .i64 v.1)), sS (some v.2.nil) eMember v.2.D]), (4, .cells [.pv (.lit (.int .i64 0)), sS (some true) eMember []])]) [2, 4] (fun i v => (readyAll_l0 alive (c.members.D.drop i) i v.1 v.2 = R) ∧ ((v.2.nil = true → v.2.D = []) ∧ v.2.D.length ≤ 1000000)) (c.epoch, c.members) ?_ ?_ (fun i v h1 hR => ?_)
 · exact ⟨hR, ⟨hn, hl1⟩⟩
 · exact ⟨fun b => b, WeakerR.ofL (Ks := [2, 4]) hI ⟨⟨rfl, rfl⟩, ⟨rfl, rfl⟩, ⟨rfl, rfl⟩, ⟨rfl, rfl⟩, ⟨rfl, rfl⟩, ⟨rfl, rfl⟩, trivial⟩ (okH_cons rfl rfl rfl rfl (okH_cons rfl rfl rfl rfl (okH_nil))) rfl⟩
 obtain ⟨vc, vc1⟩ := v
 obtain ⟨hR, ⟨hVn, hVl⟩⟩ := hR
 replace hVn : vc1.nil = true → vc1.D = [] := hVn
 replace hVl : vc1.D.length ≤ 1000000 := hVl
 refine Awp.consP C ?_
 refine rvP C (.pv (.lit (.bool (decide ((i : Int) < (c.members.D.length : Int)))))) ?_
 refine rvc_nil ?_
 refine Awp.seq ?_
 refine Awp.cond (b := (decide ((i : Int) < (c.members.D.length : Int)))) rfl (fun h2 => ?_) (fun h2 => ?_)
 ·
  have h3 : i < c.members.D.length := by have := of_decide_eq_true h2; omega
  obtain ⟨x, h4⟩ := getX h3
  rw [drop_at h4] at hR
  refine Awp.skip ?_
  refine Awp.seq ?_
  refine Awp.block ?_
  refine Awp.consP C ?_
  refine rvc_un (rexec_idxS C rfl rfl rfl rfl rfl rfl x (Int.natCast_nonneg _) h4 ?_)
  refine rvP C (.agg [.pv (.lit (.int .i64 x.node)), .pv (.lit (.int .i64 x.site)), .pv (.lit (.bool x.fresh))]) ?_
  refine rvc_un (rexec_prim C (δ := { v := .ptr 6 0, new := [(6, .cells [.pv (.lit (.int .i64 0)), .pv (.lit (.int .i64 0)), .pv (.lit (.bool false))])] }) rfl rfl rfl rfl trivial rfl ?_)
  refine rvc_un (rexec_prim C (δ := { v := .undef, wr := [(6, some (.cells [.pv (.lit (.int .i64 x.node)), .pv (.lit (.int .i64 x.site)), .pv (.lit (.bool x.fresh))]))] }) rfl rfl rfl rfl trivial rfl ?_)
  refine rvc_nil ?_
  refine Awp.consP C ?_
  refine rvP C (.agg [.pv (.lit (.int .i64 vc)), sS (some vc1.nil) eMember vc1.D]) ?_
  refine rvP C (.ptr 6 0) ?_
  refine rvP C (.pv (.lit (.int .i64 x.node))) ?_
  refine rvc_un (rexec_call hP C rfl rfl rfl (ready_calls (Chain.mk vc vc1) x.node hVn (by show vc1.D.length ≤ 1000000; have := of_decide_eq_true h2; omega)) ?_)
  refine rvP C (.tup [.agg [.pv (.lit (.int .i64 ((ready (Chain.mk vc vc1) x.node).1.epoch))), sS (some (ready (Chain.mk vc vc1) x.node).1.members.nil) eMember ((ready (Chain.mk vc vc1) x.node).1.members.D)], .pv (.lit (.int .i64 ((ready (Chain.mk vc vc1) x.node).2)))]) ?_
  refine rvP C (.agg [.pv (.lit (.int .i64 ((ready (Chain.mk vc vc1) x.node).1.epoch))), sS (some (ready (Chain.mk vc vc1) x.node).1.members.nil) eMember ((ready (Chain.mk vc vc1) x.node).1.members.D)]) ?_
  refine rvP C (.pv (.lit (.int .i64 ((ready (Chain.mk vc vc1) x.node).2)))) ?_
  refine rvc_un (rexec_prim C (δ := { v := .ptr 7 0, new := [(7, .cells [.pv (.lit (.int .i64 0)), sS (some true) eMember []])] }) rfl rfl rfl rfl trivial rfl ?_)
  refine rvc_un (rexec_prim C (δ := { v := .undef, wr := [(7, some (.cells [.pv (.lit (.int .i64 ((ready (Chain.mk vc vc1) x.node).1.epoch))), sS (some (ready (Chain.mk vc vc1) x.node).1.members.nil) eMember ((ready (Chain.mk vc vc1) x.node).1.members.D)]))] }) rfl rfl rfl rfl trivial rfl ?_)
  refine rvP C (.pv (.lit (.int .i64 ((ready (Chain.mk vc vc1) x.node).2)))) ?_
  refine rvc_nil ?_
  refine Awp.consP C ?_
  refine rvP C (.pv (.lit (.int .i64 ((ready (Chain.mk vc vc1) x.node).2)))) ?_
  refine rvP C (.pv (.lit (.bool (((ready (Chain.mk vc vc1) x.node).2) == 0)))) ?_
  refine rvP C (.pv (.lit (.bool (((ready (Chain.mk vc vc1) x.node).2) == 0)))) ?_
  refine rvc_case 25 (((ready (Chain.mk vc vc1) x.node).2) == 0) rfl (fun h5 => ?_) (fun h5 => ?_)
  ·
   replace hR := of_true h5 hR
   refine rvO C (.pv (.lit (.int .u64 alive))) ?_
   refine rvO C (.ptr 6 0) ?_
   refine rvO C (.pv (.lit (.int .i64 x.node))) ?_
   refine rvc_open rfl rfl rfl (rexec_call hP C rfl rfl rfl (mHas_calls alive x.node) ?_)
   refine rvP C (.pv (.lit (.bool (mHas alive x.node)))) ?_
   refine rvc_nil ?_
   refine Awp.cond (b := (mHas alive x.node)) rfl (fun h6 => ?_) (fun h6 => ?_)
   ·
    replace hR := of_true h6 hR
    refine Awp.regionP C ?_
    refine rvP C (.agg [.pv (.lit (.int .i64 ((ready (Chain.mk vc vc1) x.node).1.epoch))), sS (some (ready (Chain.mk vc vc1) x.node).1.members.nil) eMember ((ready (Chain.mk vc vc1) x.node).1.members.D)]) ?_
    refine rvc_un (rexec_prim C (δ := { v := .undef, wr := [(2, some (.cells [.pv (.lit (.int .i64 ((ready (Chain.mk vc vc1) x.node).1.epoch))), sS (some (ready (Chain.mk vc vc1) x.node).1.members.nil) eMember ((ready (Chain.mk vc vc1) x.node).1.members.D)]))] }) rfl rfl rfl rfl trivial rfl ?_)
    refine rvc_nil ?_
    refine Awp.regionP C ?_
    refine rvP C (.pv (.lit (.int .i64 (IntKind.i64.wrap ((i : Int) + 1))))) ?_
    refine rvP C (.pv (.lit (.int .i64 (IntKind.i64.wrap ((i : Int) + 1))))) ?_
    refine rvc_nil ?_
    refine ⟨h3, ((ready (Chain.mk vc vc1) x.node).1.epoch, (ready (Chain.mk vc vc1) x.node).1.members), ?_, ?_⟩
    · exact ⟨hR, (by first | exact ⟨hVn, hVl⟩ | exact ⟨ready_hn _ _, Nat.le_trans (ready_len _ _) hVl⟩)⟩
    · exact ⟨fun b => b, WeakerR.ofL (Ks := [2, 4]) hI ⟨⟨rfl, rfl⟩, ⟨rfl, rfl⟩, ⟨rfl, rfl⟩, ⟨rfl, rfl⟩, ⟨rfl, rfl⟩, ⟨lit_cast (wrap_i64 (by omega) (by omega)), rfl⟩, trivial⟩ (okH_cons rfl rfl rfl rfl (okH_cons rfl rfl rfl rfl (okH_nil))) rfl⟩
   ·
    replace hR := of_false h6 hR
    refine Awp.skip ?_
    refine Awp.regionP C ?_
    refine rvP C (.pv (.lit (.int .i64 (IntKind.i64.wrap ((i : Int) + 1))))) ?_
    refine rvP C (.pv (.lit (.int .i64 (IntKind.i64.wrap ((i : Int) + 1))))) ?_
    refine rvc_nil ?_
    refine ⟨h3, (vc, vc1), ?_, ?_⟩
    · exact ⟨hR, (by first | exact ⟨hVn, hVl⟩ | exact ⟨ready_hn _ _, Nat.le_trans (ready_len _ _) hVl⟩)⟩
    · exact ⟨fun b => b, WeakerR.ofL (Ks := [2, 4]) hI ⟨⟨rfl, rfl⟩, ⟨rfl, rfl⟩, ⟨rfl, rfl⟩, ⟨rfl, rfl⟩, ⟨rfl, rfl⟩, ⟨lit_cast (wrap_i64 (by omega) (by omega)), rfl⟩, trivial⟩ (okH_cons rfl rfl rfl rfl (okH_cons rfl rfl rfl rfl (okH_nil))) rfl⟩
  ·
   replace hR := of_false h5 hR
   refine rvS ?_
   refine rvS ?_
   refine rvS ?_
   refine rvS ?_
   refine rvP C (.pv (.lit (.bool false))) ?_
   refine rvc_nil ?_
   refine Awp.condF (b := false) rfl rfl ?_
   refine Awp.skip ?_
   refine Awp.regionP C ?_
   refine rvP C (.pv (.lit (.int .i64 (IntKind.i64.wrap ((i : Int) + 1))))) ?_
   refine rvP C (.pv (.lit (.int .i64 (IntKind.i64.wrap ((i : Int) + 1))))) ?_
   refine rvc_nil ?_
   refine ⟨h3, (vc, vc1), ?_, ?_⟩
   · exact ⟨hR, (by first | exact ⟨hVn, hVl⟩ | exact ⟨ready_hn _ _, Nat.le_trans (ready_len _ _) hVl⟩)⟩
   · exact ⟨fun b => b, WeakerR.ofL (Ks := [2, 4]) hI ⟨⟨rfl, rfl⟩, ⟨rfl, rfl⟩, ⟨rfl, rfl⟩, ⟨rfl, rfl⟩, ⟨rfl, rfl⟩, ⟨lit_cast (wrap_i64 (by omega) (by omega)), rfl⟩, trivial⟩ (okH_cons rfl rfl rfl rfl (okH_cons rfl rfl rfl rfl (okH_nil))) rfl⟩
 ·
  have h3 : ¬ i < c.members.D.length := by have := of_decide_eq_false h2; omega
  rw [drop_end h3] at hR
  refine Awp.exit ?_
  refine Awp.consP C ?_
  refine rvP C (.agg [.pv (.lit (.int .i64 vc)), sS (some vc1.nil) eMember vc1.D]) ?_
  refine rvc_un (rexec_prim C (δ := { v := .undef, wr := [(4, some (.cells [.pv (.lit (.int .i64 vc)), sS (some vc1.nil) eMember vc1.D]))] }) rfl rfl rfl rfl trivial rfl ?_)
  refine rvc_nil ?_
  refine Awp.ret ?_
  subst hR
  exact ⟨.inl rfl, rfl⟩
end Go.Proofs.Ytaffaalpgpepeaa
/- Chains in plain Lean: what chapter 8 shows of them. No conditions. -/
namespace Go.Proofs.Ytaffaalpgpepeaa
open Go.Am
theorem indexFunc_l0_eq (n : Int) : ∀ (l : List Member) (i : Nat), indexFunc_l0 (fun x0 => placeF x0 n) l i = rPlace_l0 n l i
  | [], _ => rfl
  | x :: l, i => by
    show (bif x.node == n then (i : Int) else indexFunc_l0 (fun x0 => placeF x0 n) l (i + 1)) = _
    rw [indexFunc_l0_eq n l (i + 1)]; rfl
theorem place_eq (c : Chain) (n : Int) : place0 c n = rPlace c n := by
  unfold place0 rPlace placeIn indexFunc
  rw [check_eq, indexFunc_l0_eq]
def bitsOf (p : Member → Bool) (l : List Member) (S : Nat) : Nat := l.foldl (fun S x => if p x && mIn x.node then S ||| 2 ^ x.node.toNat else S) S
theorem in_iff (n : Int) : mIn n = true ↔ 0 ≤ n ∧ n < 64 := by
  unfold mIn
  by_cases h1 : n ≥ 0 <;> by_cases h2 : n < 64 <;> simp [h1, h2] <;> omega
theorem with_cast {S : Nat} (hS : S < 18446744073709551616) (n : Int) : mWith (S : Int) n = ((if mIn n then S ||| 2 ^ n.toNat else S : Nat) : Int) := by
  cases h : mIn n
  · rw [with_out h]; simp
  · obtain ⟨h1, h2⟩ := (in_iff n).1 h
    obtain ⟨k, rfl⟩ : ∃ k : Nat, n = (k : Int) := ⟨n.toNat, by omega⟩
    rw [with_nat hS (by omega)]; simp
theorem with_cast_lt {S : Nat} (hS : S < 18446744073709551616) (n : Int) : (if mIn n then S ||| 2 ^ n.toNat else S : Nat) < 18446744073709551616 := by
  cases h : mIn n
  · simpa using hS
  · obtain ⟨h1, h2⟩ := (in_iff n).1 h
    simp only [if_true]
    exact with_lt hS (by omega)
theorem nodes_l0_eq : ∀ (l : List Member) (i S : Nat), S < 18446744073709551616 → nodes_l0 l i (S : Int) = (bitsOf (fun _ => true) l S : Nat) ∧ bitsOf (fun _ => true) l S < 18446744073709551616
  | [], _, S, hS => ⟨rfl, hS⟩
  | x :: l, i, S, hS => by
    have := nodes_l0_eq l (i + 1) _ (with_cast_lt hS x.node)
    simp only [nodes_l0, with_cast hS, this.1]
    simp only [bitsOf, List.foldl_cons, Bool.true_and] at this ⊢
    exact ⟨trivial, this.2⟩
theorem bits_test (p : Member → Bool) {n : Nat} (hn : n < 64) : ∀ (l : List Member) (S : Nat), (bitsOf p l S).testBit n = (S.testBit n || l.any fun x => x.node == (n : Int) && p x)
  | [], S => by simp [bitsOf]
  | x :: l, S => by
    have h : bitsOf p (x :: l) S = bitsOf p l (if p x && mIn x.node then S ||| 2 ^ x.node.toNat else S) := rfl
    rw [h, bits_test p hn l, List.any_cons]
    by_cases hx : x.node = (n : Int)
    · have hin : mIn x.node = true := (in_iff _).2 (by omega)
      rw [hin, hx]
      cases p x <;> simp [Nat.testBit_or]
    · have e : (x.node == (n : Int)) = false := by simpa using hx
      rw [e]
      cases hp : p x && mIn x.node
      · simp
      · have hin : mIn x.node = true := by simp only [Bool.and_eq_true] at hp; exact hp.2
        obtain ⟨h1, h2⟩ := (in_iff _).1 hin
        have : x.node.toNat ≠ n := by omega
        simp [Nat.testBit_or, this]
theorem ok_apart : ∀ (l pre : List Member), okFrom pre l = true → ∀ y ∈ l, ∀ z ∈ pre, z.node ≠ y.node
  | [], _, _, y, hy, _, _ => by cases hy
  | x :: l, pre, h, y, hy, z, hz => by
    simp only [okFrom, Bool.and_eq_true] at h
    obtain ⟨⟨_, h2⟩, h3⟩ := h
    cases hy with
    | head =>
      have := List.all_eq_true.1 h2 z hz
      simp at this
      exact this.1
    | tail _ hm => exact ok_apart l (pre ++ [x]) h3 y hm z (by simp [hz])
theorem ok_of_check {c : Chain} (h : check c = 0) : okFrom [] c.members.D = true := by
  unfold check at h
  obtain ⟨_, h⟩ := bif_const (by decide) h
  obtain ⟨_, h⟩ := bif_const (by decide) h
  obtain ⟨_, h⟩ := bif_const (by decide) h
  obtain ⟨_, h⟩ := bif_const (by decide) h
  have h1 : check_l0 c.members.D 0 0 0 = bif okFrom [] c.members.D then 0 else 80 := check_l0_eq c.members.D [] 0 0 0 ⟨by decide, fun n hn => by
    have := has_nat (S := 0) (n := n) (by decide) (by omega)
    rw [this]; simp, fun y hy => (by cases hy), .inl rfl⟩
  rw [h1] at h
  cases ho : okFrom [] c.members.D
  · rw [ho] at h; cases h
  · rfl
theorem ok_member : ∀ (l pre : List Member), okFrom pre l = true → ∀ y ∈ l, member y = true
  | [], _, _, y, hy => by cases hy
  | x :: l, pre, h, y, hy => by
    simp only [okFrom, Bool.and_eq_true] at h
    cases hy with
    | head => exact h.1.1
    | tail _ hm => exact ok_member l (pre ++ [x]) h.2 y hm
theorem but_zero {s t : Nat} (_ : s < 18446744073709551616) (_ : t < 18446744073709551616) : mBut (s : Int) (t : Int) = 0 ↔ ∀ n, n < 64 → s.testBit n = true → t.testBit n = true := by
  have e1 : mBut (s : Int) (t : Int) = (((BitVec.ofNat 64 s &&& ~~~ BitVec.ofNat 64 t : BitVec 64).toNat : Nat) : Int) := by
    show IntKind.u64.wrap (((BitVec.ofInt 64 (s : Int) &&& ~~~ BitVec.ofInt 64 (t : Int) : BitVec 64).toNat : Nat) : Int) = _
    rw [BitVec.ofInt_natCast, BitVec.ofInt_natCast, wrap64]
    have := (BitVec.ofNat 64 s &&& ~~~ BitVec.ofNat 64 t : BitVec 64).isLt
    have h' : (2 : Nat) ^ 64 = 18446744073709551616 := by decide
    omega
  rw [e1]
  constructor
  · intro h n hn hsn
    have h0 : (BitVec.ofNat 64 s &&& ~~~ BitVec.ofNat 64 t : BitVec 64) = 0#64 := BitVec.eq_of_toNat_eq (by simpa using h)
    have := congrArg (fun v => v.getLsbD n) h0
    simp only [BitVec.getLsbD_and, BitVec.getLsbD_not, BitVec.getLsbD_ofNat, hn, decide_true, Bool.true_and, hsn] at this
    cases ht' : t.testBit n
    · rw [ht'] at this; simp at this
    · rfl
  · intro h
    have h0 : (BitVec.ofNat 64 s &&& ~~~ BitVec.ofNat 64 t : BitVec 64) = 0#64 := by
      apply BitVec.eq_of_getLsbD_eq
      intro n hn
      simp only [BitVec.getLsbD_and, BitVec.getLsbD_not, BitVec.getLsbD_ofNat, hn, decide_true, Bool.true_and]
      cases hs' : s.testBit n
      · simp
      · rw [h n hn hs']; simp
    rw [h0]; rfl
def eqC (a b : Chain) : Prop := a.epoch = b.epoch ∧ a.members.D = b.members.D
theorem clone_eq {s : Sl Member} (h : s.nil = true → s.D = []) : cloneMembers s = s := by
  unfold cloneMembers
  cases s with
  | mk f D =>
    cases f
    · rfl
    · have h : D = [] := h rfl
      rw [h]; rfl
def finW (c : Chain) (l : List Member) : Chain × Int :=
  bif decide (c.epoch ≥ 1099511627776) then (Chain.mk 0 (Sl.mk true []), 5) else bif ((l.length : Int) == (c.members.D.length : Int)) then (Chain.mk 0 (Sl.mk true []), 81) else bif ((l.length : Int) == 0) then (Chain.mk 0 (Sl.mk true []), 83) else (after c (Sl.mk l.isEmpty l), 0)
theorem without_l0_eq (c : Chain) (gone : Int) : ∀ (xs : List Member) (i : Nat) (l : List Member), without_l0 c gone xs i l = finW c (if l = [] then (xs.filter fun x => !mHas gone x.node).dropWhile (·.fresh) else l ++ xs.filter fun x => !mHas gone x.node)
  | [], _, l => by
    unfold without_l0 finW
    cases l <;> simp
  | x :: xs, i, l => by
    unfold without_l0
    cases hk : mHas gone x.node
    · cases l with
      | nil =>
        cases hf : x.fresh
        · simp [without_l0_eq c gone xs, hk, hf]
        · simp [without_l0_eq c gone xs, hk, hf]
      | cons y l =>
        have : decide ((((y :: l).length : Nat) : Int) > 0) = true := by simp
        rw [this]
        simp [without_l0_eq c gone xs, hk]
    · simp [without_l0_eq c gone xs, hk]
theorem without_eq (c : Chain) (gone : Int) : without c gone = finW c ((c.members.D.filter fun x => !mHas gone x.node).dropWhile (·.fresh)) := by
  unfold without; rw [without_l0_eq]; rfl
theorem epoch_of {c : Chain} (h : check c = 0) : 1 ≤ c.epoch ∧ c.epoch ≤ 1099511627776 := by
  unfold check at h
  obtain ⟨h1, h⟩ := bif_const (by decide) h
  obtain ⟨h2, h⟩ := bif_const (by decide) h
  have := of_decide_eq_false h1
  have := of_decide_eq_false h2
  omega
theorem mem_ok {c : Chain} (hc : check c = 0) {x : Member} (hx : x ∈ c.members.D) : 0 ≤ x.node ∧ x.node ≤ 5 ∧ 0 ≤ x.site ∧ x.site ≤ 2 :=
  (member_iff x).1 (ok_member _ _ (ok_of_check hc) x hx)
theorem has_mask (n m : Int) (h : 0 ≤ m ∧ m ≤ 5) : mHas (maskOf ⟨false, [n]⟩) m = (m == n) := by
  obtain ⟨k, rfl⟩ : ∃ k : Nat, m = (k : Int) := ⟨m.toNat, by omega⟩
  show mHas (mWith ((0 : Nat) : Int) n) (k : Int) = _
  cases hn : mIn n
  · rw [with_out hn, has_nat (by decide) (by omega)]
    have : (((k : Nat) : Int) == n) = false := by
      rw [beq_eq_false_iff_ne]
      intro e; subst e
      rw [in_nat] at hn
      have := of_decide_eq_false hn
      omega
    rw [this]; simp
  · obtain ⟨h1, h2⟩ := (in_iff n).1 hn
    obtain ⟨j, rfl⟩ : ∃ j : Nat, n = (j : Int) := ⟨n.toNat, by omega⟩
    rw [has_with (by decide) (by omega) (by omega), has_nat (by decide) (by omega)]
    by_cases e : j = k
    · simp [e]
    · have : ((k : Int) == (j : Int)) = false := by simp; omega
      rw [this]; simp [e]
theorem check_80 (c : Chain) : check c = 0 ∨ check c = 80 := by
  unfold check
  have h1 : check_l0 c.members.D 0 0 0 = bif okFrom [] c.members.D then 0 else 80 := check_l0_eq c.members.D [] 0 0 0 ⟨by decide, fun n hn => by
    have := has_nat (S := 0) (n := n) (by decide) (by omega)
    rw [this]; simp, fun y hy => (by cases hy), .inl rfl⟩
  rw [h1]
  cases decide (c.epoch < 1) <;> cases decide (c.epoch > 1099511627776) <;> cases ((c.members.D.length : Int) == 0) <;> cases c.members.D[0]!.fresh <;> cases okFrom [] c.members.D <;> simp
theorem check_bad {c : Chain} (h : (check c != 0) = true) : check c = 80 := by
  rcases check_80 c with h' | h'
  · rw [h'] at h; cases h
  · exact h'
theorem join_l0_eq (c : Chain) (m : Member) (hl : c.members.D.length ≤ 1000000) : ∀ (nn i : Nat), i ≤ c.members.D.length → c.members.D.length - i < nn → join_l0 c m nn (i : Int) = bif (i + ((c.members.D.drop i).takeWhile fun x => decide (x.site ≤ m.site)).length == 0) then (Chain.mk 0 (Sl.mk true []), 152) else (after c (Sl.mk false (insertL c.members.D (i + ((c.members.D.drop i).takeWhile fun x => decide (x.site ≤ m.site)).length) [Member.mk m.node m.site true])), 0)
  | 0, i, _, h => by omega
  | nn + 1, i, hi, h => by
    unfold join_l0
    have eI : (((i : Nat) : Int) == 0) = (i == 0) := by cases i <;> simp; omega
    by_cases hlt : i < c.members.D.length
    · have e1 : decide ((i : Int) < (c.members.D.length : Int)) = true := by simp; omega
      have hd : c.members.D.drop i = c.members.D[i] :: c.members.D.drop (i + 1) := List.drop_eq_getElem_cons hlt
      have hg : c.members.D[(i : Int).toNat]! = c.members.D[i] := by simp [hlt]
      rw [e1, cond_true, hg, hd, List.takeWhile_cons]
      cases hs : decide (c.members.D[i].site ≤ m.site)
      · simp [eI]
      · have e2 : IntKind.i64.wrap ((i : Int) + 1) = ((i + 1 : Nat) : Int) := by rw [wrapI _ (by omega)]; omega
        rw [e2, cond_true, join_l0_eq c m hl nn (i + 1) (by omega) (by omega)]
        simp [Nat.add_assoc, Nat.add_comm 1]
    · have e1 : decide ((i : Int) < (c.members.D.length : Int)) = false := by simp; omega
      rw [e1, cond_false, List.drop_eq_nil_of_le (by omega)]
      simp [eI]
theorem finW_len (c : Chain) (l : List Member) : (finW c l).1.members.D.length ≤ l.length := by
  unfold finW
  cases decide (c.epoch ≥ 1099511627776)
  · cases ((l.length : Int) == (c.members.D.length : Int))
    · cases ((l.length : Int) == 0)
      · exact Nat.le_refl _
      · exact Nat.zero_le _
    · exact Nat.zero_le _
  · exact Nat.zero_le _
theorem without_len (c : Chain) (gone : Int) : (without c gone).1.members.D.length ≤ c.members.D.length + 1 := by
  rw [without_eq]
  have h1 := finW_len c ((c.members.D.filter fun x => !mHas gone x.node).dropWhile (·.fresh))
  have h2 := (List.dropWhile_sublist (p := fun x : Member => x.fresh) (l := c.members.D.filter fun x => !mHas gone x.node)).length_le
  have h3 := List.length_filter_le (fun x : Member => !mHas gone x.node) c.members.D
  omega
theorem finW_hn (c : Chain) (l : List Member) : (finW c l).1.members.nil = true → (finW c l).1.members.D = [] := by
  unfold finW
  cases decide (c.epoch ≥ 1099511627776)
  · cases ((l.length : Int) == (c.members.D.length : Int))
    · cases ((l.length : Int) == 0)
      · intro h
        exact List.isEmpty_iff.1 (show l.isEmpty = true from h)
      · exact fun _ => rfl
    · exact fun _ => rfl
  · exact fun _ => rfl
theorem without_hn (c : Chain) (gone : Int) : (without c gone).1.members.nil = true → (without c gone).1.members.D = [] := by
  rw [without_eq]; exact finW_hn c _
def unf (m : Member) : Member := ⟨m.node, m.site, false⟩
theorem firstC_l1_eq (i : Nat) (kk : List Member → Chain × Int) : ∀ (xs : List Member) (j : Nat) (vc : List Member), firstC_l1 i kk xs j vc = kk (vc ++ (xs.filter fun x => x.site == (i : Int)).map unf)
  | [], _, vc => by simp [firstC_l1]
  | x :: xs, j, vc => by
    unfold firstC_l1
    cases h : x.site == (i : Int)
    · simp [firstC_l1_eq i kk xs, h]
    · simp [firstC_l1_eq i kk xs, h, unf]
def bySite (l : List Member) (i : Nat) : List Member := (l.filter fun x => x.site == (i : Int)).map unf
def finF (l : Sl Member) (vc : List Member) : Chain × Int :=
  bif ((vc.length : Int) != (l.D.length : Int)) then (Chain.mk 0 (Sl.mk true []), 80) else bif check (Chain.mk 1 (Sl.mk vc.isEmpty vc)) != 0 then (Chain.mk 0 (Sl.mk true []), 80) else (Chain.mk 1 (Sl.mk vc.isEmpty vc), 0)
theorem firstC_eq (l : Sl Member) : firstC l = finF l (bySite l.D 0 ++ bySite l.D 1 ++ bySite l.D 2) := by
  unfold firstC
  unfold firstC_l0
  rw [firstC_l1_eq]
  unfold firstC_l0
  rw [firstC_l1_eq]
  unfold firstC_l0
  rw [firstC_l1_eq]
  unfold firstC_l0
  rfl
theorem firstC_len (l : Sl Member) : (firstC l).1.members.D.length ≤ l.D.length := by
  rw [firstC_eq]
  generalize bySite l.D 0 ++ bySite l.D 1 ++ bySite l.D 2 = vc
  unfold finF
  cases h : ((vc.length : Int) != (l.D.length : Int))
  · have h := eq_of_bne_false h
    cases check (Chain.mk 1 (Sl.mk vc.isEmpty vc)) != 0
    · show vc.length ≤ _; omega
    · exact Nat.zero_le _
  · exact Nat.zero_le _
theorem firstC_hn (l : Sl Member) : (firstC l).1.members.nil = true → (firstC l).1.members.D = [] := by
  rw [firstC_eq]
  generalize bySite l.D 0 ++ bySite l.D 1 ++ bySite l.D 2 = vc
  unfold finF
  cases ((vc.length : Int) != (l.D.length : Int))
  · cases check (Chain.mk 1 (Sl.mk vc.isEmpty vc)) != 0
    · intro h
      exact List.isEmpty_iff.1 (show vc.isEmpty = true from h)
    · exact fun _ => rfl
  · exact fun _ => rfl
theorem firstC_ok {l : Sl Member} (h : (firstC l).2 = 0) : check (firstC l).1 = 0 := by
  rw [firstC_eq] at h ⊢
  generalize bySite l.D 0 ++ bySite l.D 1 ++ bySite l.D 2 = vc at h ⊢
  unfold finF at h ⊢
  cases h1 : ((vc.length : Int) != (l.D.length : Int))
  · rw [h1] at h
    cases h2 : check (Chain.mk 1 (Sl.mk vc.isEmpty vc)) != 0
    · exact eq_of_bne_false h2
    · rw [h2] at h; cases h
  · rw [h1] at h; cases h
theorem rPlace_at : ∀ (l pre : List Member) (i p : Nat), okFrom pre l = true → p < l.length → rPlace_l0 l[p]!.node l i = ((i + p : Nat) : Int)
  | [], _, _, _, _, hp => by simp at hp
  | x :: l, pre, i, p, h, hp => by
    unfold rPlace_l0
    cases p with
    | zero => simp
    | succ p =>
      have h' := h
      simp only [okFrom, Bool.and_eq_true] at h
      obtain ⟨_, h3⟩ := h
      have hp' : p < l.length := by simpa using hp
      have e : (x :: l)[p + 1]! = l[p]! := by simp
      have hm : l[p]! ∈ l := by rw [getElem!_pos l p hp']; exact List.getElem_mem hp'
      have hne := ok_apart l (pre ++ [x]) h3 _ hm x (by simp)
      have : (x.node == l[p]!.node) = false := by rw [beq_eq_false_iff_ne]; exact hne
      rw [e, this, cond_false, rPlace_at l (pre ++ [x]) (i + 1) p h3 hp']
      rw [show i + 1 + p = i + (p + 1) by omega]
theorem place_at {c : Chain} (hc : check c = 0) {p : Nat} (hp : p < c.members.D.length) : place0 c c.members.D[p]!.node = (p : Int) := by
  rw [place_eq]; unfold rPlace
  rw [← check_eq, hc]
  have := rPlace_at c.members.D [] 0 p (ok_of_check hc) hp
  rw [Nat.zero_add] at this
  exact this
def Apart (a b : Member) : Prop := a.node ≠ b.node ∧ a.site ≤ b.site
theorem ok_iff : ∀ (l pre : List Member), okFrom pre l = true ↔ (∀ x ∈ l, member x = true) ∧ (∀ x ∈ l, ∀ y ∈ pre, Apart y x) ∧ l.Pairwise Apart
  | [], pre => by simp [okFrom]
  | x :: l, pre => by
    have ih := ok_iff l (pre ++ [x])
    have hp : (pre.all fun y => !(y.node == x.node) && !(decide (y.site > x.site))) = true ↔ ∀ y ∈ pre, Apart y x := by
      rw [List.all_eq_true]
      constructor
      · intro h y hy
        have := h y hy
        simp only [Bool.and_eq_true, Bool.not_eq_true', beq_eq_false_iff_ne, decide_eq_false_iff_not] at this
        exact ⟨this.1, by omega⟩
      · intro h y hy
        obtain ⟨h1, h2⟩ := h y hy
        simp only [Bool.and_eq_true, Bool.not_eq_true', beq_eq_false_iff_ne, decide_eq_false_iff_not]
        exact ⟨h1, by omega⟩
    simp only [okFrom, Bool.and_eq_true, hp, ih, List.mem_cons, List.pairwise_cons, List.mem_append, List.mem_nil_iff, or_false]
    constructor
    · rintro ⟨⟨h1, h2⟩, h3, h4, h5⟩
      refine ⟨fun z hz => ?_, fun z hz y hy => ?_, fun z hz => h4 z hz x (.inr rfl), h5⟩
      · rcases hz with rfl | hz
        · exact h1
        · exact h3 z hz
      · rcases hz with rfl | hz
        · exact h2 y hy
        · exact h4 z hz y (.inl hy)
    · rintro ⟨h1, h2, h3, h4⟩
      refine ⟨⟨h1 x (.inl rfl), fun y hy => h2 x (.inl rfl) y hy⟩, fun z hz => h1 z (.inr hz), fun z hz y hy => ?_, h4⟩
      rcases hy with hy | rfl
      · exact h2 z (.inr hz) y hy
      · exact h3 z hz
theorem check_iff (c : Chain) : check c = 0 ↔ (1 ≤ c.epoch ∧ c.epoch ≤ 1099511627776) ∧ c.members.D ≠ [] ∧ c.members.D[0]!.fresh = false ∧ (∀ x ∈ c.members.D, member x = true) ∧ c.members.D.Pairwise Apart := by
  have h1 : check_l0 c.members.D 0 0 0 = bif okFrom [] c.members.D then 0 else 80 := check_l0_eq c.members.D [] 0 0 0 ⟨by decide, fun n hn => by
    have := has_nat (S := 0) (n := n) (by decide) (by omega)
    rw [this]; simp, fun y hy => (by cases hy), .inl rfl⟩
  have h2 := ok_iff c.members.D []
  constructor
  · intro h
    have ho := h2.1 (ok_of_check h)
    refine ⟨epoch_of h, fun e => ?_, ?_, ho.1, ho.2.2⟩
    · have := check_len h; rw [e] at this; simp at this
    · unfold check at h
      obtain ⟨_, h⟩ := bif_const (by decide) h
      obtain ⟨_, h⟩ := bif_const (by decide) h
      obtain ⟨_, h⟩ := bif_const (by decide) h
      exact (bif_const (by decide) h).1
  · rintro ⟨⟨e1, e2⟩, hne, hf, hm, hp⟩
    unfold check
    have d1 : decide (c.epoch < 1) = false := by simp; omega
    have d2 : decide (c.epoch > 1099511627776) = false := by simp; omega
    have d3 : ((c.members.D.length : Int) == 0) = false := by
      rw [beq_eq_false_iff_ne]
      intro e
      exact hne (List.eq_nil_of_length_eq_zero (by omega))
    rw [d1, d2, d3, hf, h1, h2.2 ⟨hm, fun _ _ _ hy => (by cases hy), hp⟩]
    rfl
theorem wrap_epoch {c : Chain} (h : check c = 0) : IntKind.i64.wrap (c.epoch + 1) = c.epoch + 1 := by
  have := epoch_of h
  exact wrapI _ (by omega)
theorem drop_head {l : List Member} (h : l.dropWhile (·.fresh) ≠ []) : (l.dropWhile (·.fresh))[0]!.fresh = false := by
  induction l with
  | nil => exact absurd rfl h
  | cons x l ih =>
    rw [List.dropWhile_cons] at h ⊢
    cases hf : x.fresh
    · simp [hf]
    · rw [hf] at h
      simp only [if_true] at h ⊢
      exact ih h
theorem place_none {c : Chain} (hc : check c = 0) {n : Int} (h : rPlace c n < 0) : ∀ x ∈ c.members.D, x.node ≠ n := fun x hx e => by
  obtain ⟨j, hj, ej⟩ := List.getElem_of_mem hx
  have hp := place_at hc hj
  rw [getElem!_pos _ j hj, ej, place_eq, e] at hp
  omega
theorem mem_split {c : Chain} (p : Member → Bool) {x : Member} (h : x ∈ c.members.D.takeWhile p ∨ x ∈ c.members.D.dropWhile p) : x ∈ c.members.D := by
  have := List.takeWhile_append_dropWhile (p := p) (l := c.members.D)
  rw [← this]
  exact List.mem_append.2 h
theorem takeWhile_true {α : Type} (p : α → Bool) : ∀ (l : List α), ∀ x ∈ l.takeWhile p, p x = true
  | [], x, h => by cases h
  | y :: l, x, h => by
    rw [List.takeWhile_cons] at h
    cases hy : p y
    · rw [hy] at h; cases h
    · rw [hy] at h
      simp only [if_true] at h
      cases h with
      | head => exact hy
      | tail _ h => exact takeWhile_true p l x h
theorem dropWhile_sites (s : Int) : ∀ (l : List Member), l.Pairwise Apart → ∀ x ∈ l.dropWhile (fun x => decide (x.site ≤ s)), s ≤ x.site
  | [], _, x, h => by cases h
  | y :: l, hp, x, h => by
    rw [List.dropWhile_cons] at h
    rw [List.pairwise_cons] at hp
    by_cases hy : y.site ≤ s
    · rw [decide_eq_true hy] at h
      exact dropWhile_sites s l hp.2 x h
    · rw [decide_eq_false hy] at h
      cases h with
      | head => omega
      | tail _ h => have := (hp.1 x h).2; omega
theorem mBut_nat {s t : Nat} : mBut (s : Int) (t : Int) = (((BitVec.ofNat 64 s &&& ~~~ BitVec.ofNat 64 t : BitVec 64).toNat : Nat) : Int) := by
  show IntKind.u64.wrap (((BitVec.ofInt 64 (s : Int) &&& ~~~ BitVec.ofInt 64 (t : Int) : BitVec 64).toNat : Nat) : Int) = _
  rw [BitVec.ofInt_natCast, BitVec.ofInt_natCast, wrap64]
  have := (BitVec.ofNat 64 s &&& ~~~ BitVec.ofNat 64 t : BitVec 64).isLt
  have h' : (2 : Nat) ^ 64 = 18446744073709551616 := by decide
  omega
end Go.Proofs.Ytaffaalpgpepeaa
/- All of a set, from the least on: what the code's way of going through the bits gives. No conditions. -/
namespace Go.Proofs.Ytaffaalpgpepeaa
open Go.Am
theorem odd_part : ∀ S : Nat, S ≠ 0 → ∃ k m, S = 2 ^ k * (2 * m + 1) := by
  intro S
  induction S using Nat.strongRecOn with
  | _ S ih =>
    intro h
    by_cases h2 : S % 2 = 0
    · obtain ⟨k, m, e⟩ := ih (S / 2) (by omega) (by omega)
      refine ⟨k + 1, m, ?_⟩
      have : S = 2 * (S / 2) := by omega
      rw [this, e, Nat.pow_succ, Nat.mul_comm (2 ^ k) 2, Nat.mul_assoc]
    · exact ⟨0, S / 2, by omega⟩
theorem odd_bit (k m j : Nat) : (2 ^ k * (2 * m + 1)).testBit j = if j < k then false else (2 * m + 1).testBit (j - k) := by
  have := Nat.testBit_two_pow_mul_add (2 * m + 1) (b := 0) (i := k) (Nat.two_pow_pos k) j
  rw [Nat.add_zero] at this
  rw [this, Nat.zero_testBit]
theorem pred_bit (k m j : Nat) : (2 ^ k * (2 * m + 1) - 1).testBit j = if j < k then true else (2 * m).testBit (j - k) := by
  have h : 2 ^ k * (2 * m + 1) - 1 = 2 ^ k * (2 * m) + (2 ^ k - 1) := by
    have := Nat.two_pow_pos k
    rw [Nat.mul_add, Nat.mul_one]; omega
  rw [h, Nat.testBit_two_pow_mul_add _ (by have := Nat.two_pow_pos k; omega), Nat.testBit_two_pow_sub_one]
  by_cases hj : j < k
  · rw [if_pos hj, if_pos hj, decide_eq_true hj]
  · rw [if_neg hj, if_neg hj]
theorem two_bit (m j : Nat) : (2 * m + 1).testBit j = (decide (j = 0) || (2 * m).testBit j) := by
  cases j with
  | zero => rw [Nat.testBit_zero]; simp
  | succ j => rw [Nat.testBit_succ, Nat.testBit_succ, show (2 * m + 1) / 2 = 2 * m / 2 by omega]; simp
/-- The numbers of a set, from the least on. -/
def setL (S : Nat) : List Int := ((List.range 64).filter fun k => S.testBit k).map Int.ofNat
theorem range_at {k : Nat} (h : k < 64) : List.range 64 = List.range k ++ k :: List.range' (k + 1) (63 - k) := by
  rw [List.range_eq_range', List.range_eq_range', show (64 : Nat) = k + (1 + (63 - k)) by omega, ← List.range'_append_1]
  rw [Nat.zero_add, Nat.add_comm 1, List.range'_succ]
theorem setL_step {k m : Nat} (hk : k < 64) : setL (2 ^ k * (2 * m + 1)) = (k : Int) :: setL (2 ^ k * (2 * m + 1) &&& (2 ^ k * (2 * m + 1) - 1)) := by
  unfold setL
  rw [range_at hk, List.filter_append, List.filter_append, List.filter_cons_of_pos (by simp [odd_bit, two_bit]), List.filter_cons_of_neg (by simp [odd_bit, pred_bit, two_bit])]
  have e1 : (List.range k).filter (fun j => (2 ^ k * (2 * m + 1)).testBit j) = [] := List.filter_eq_nil_iff.2 fun j hj => by
    rw [odd_bit, if_pos (List.mem_range.1 hj)]; simp
  have e2 : (List.range k).filter (fun j => (2 ^ k * (2 * m + 1) &&& (2 ^ k * (2 * m + 1) - 1)).testBit j) = [] := List.filter_eq_nil_iff.2 fun j hj => by
    rw [Nat.testBit_and, odd_bit, if_pos (List.mem_range.1 hj)]; simp
  have e3 : (List.range' (k + 1) (63 - k)).filter (fun j => (2 ^ k * (2 * m + 1)).testBit j) = (List.range' (k + 1) (63 - k)).filter (fun j => (2 ^ k * (2 * m + 1) &&& (2 ^ k * (2 * m + 1) - 1)).testBit j) := List.filter_congr fun j hj => by
    have := (List.mem_range'_1.1 hj).1
    rw [Nat.testBit_and, odd_bit, pred_bit, if_neg (by omega), if_neg (by omega), two_bit, decide_eq_false (by omega)]
    simp
  rw [e1, e2, e3]; rfl
theorem mLen_mask : ∀ k : Fin 64, mLen ((2 ^ k.val - 1 : Nat) : Int) = (k.val : Int) := by decide +kernel
theorem lowOf_odd {k m : Nat} (hS : 2 ^ k * (2 * m + 1) < 18446744073709551616) (hk : k < 64) : lowOf ((2 ^ k * (2 * m + 1) : Nat) : Int) = (k : Int) := by
  have hp := Nat.two_pow_pos k
  have hpos : 0 < 2 ^ k * (2 * m + 1) := Nat.mul_pos hp (by omega)
  have hlow : (2 ^ k * (2 * m + 1)) &&& (18446744073709551616 - 2 ^ k * (2 * m + 1)) = 2 ^ k := Nat.eq_of_testBit_eq fun j => by
    have e : 18446744073709551616 - 2 ^ k * (2 * m + 1) = 2 ^ 64 - (2 ^ k * (2 * m + 1) - 1 + 1) := by
      rw [show (2 : Nat) ^ 64 = 18446744073709551616 from by decide]; omega
    rw [e, Nat.testBit_and, Nat.testBit_two_pow_sub_succ (by rw [show (2 : Nat) ^ 64 = 18446744073709551616 from by decide]; omega), pred_bit, odd_bit, Nat.testBit_two_pow]
    by_cases hj : j < k
    · rw [if_pos hj, if_pos hj]; simp; omega
    · rw [if_neg hj, if_neg hj, two_bit]
      by_cases hjk : j = k
      · subst hjk; simp [hk]
      · have h0 : ¬ (j - k = 0) := by omega
        have h1 : ¬ (k = j) := by omega
        simp [h0, h1]; exact fun h _ => h
  generalize hs : 2 ^ k * (2 * m + 1) = S at *
  have h1 : IntKind.u64.wrap (0 - (S : Int)) = ((18446744073709551616 - S : Nat) : Int) := by rw [wrap64]; omega
  have h2 : (((2 ^ k : Nat) : Int) - 1) = ((2 ^ k - 1 : Nat) : Int) := by omega
  have h3 : 2 ^ k ≤ S := by rw [← hs]; exact Nat.le_mul_of_pos_right _ (by omega)
  unfold lowOf
  rw [show ((S : Int) == 0) = false by simp; omega, cond_false, h1, and64 hS (by omega), hlow, h2, wrap64, Int.emod_eq_of_lt (by omega) (by omega)]
  exact mLen_mask ⟨k, hk⟩
theorem allOf_l0_eq : ∀ (n S : Nat) (l : List Int), S < 18446744073709551616 → bitsN S < n → (allOf_l0 n (S : Int) l).D = l ++ setL S
  | 0, _, _, _, h => by cases h
  | n + 1, S, l, hS, h => by
    unfold allOf_l0
    by_cases h0 : S = 0
    · subst h0
      show l = l ++ setL 0
      rw [show setL 0 = [] from by unfold setL; simp]; simp
    · have hne : ((S : Int) != 0) = true := by simp; omega
      rw [hne, cond_true]
      have hlt := allM_lt hne
      have hr := bit_range .and (S : Int) (IntKind.u64.wrap ((S : Int) - 1))
      have e1 : IntKind.u64.wrap ((S : Int) - 1) = ((S - 1 : Nat) : Int) := by rw [wrap64]; omega
      rw [e1, and64 hS (by omega)] at hlt hr ⊢
      have hm : bitsN (S &&& (S - 1)) < bitsN S := by
        unfold allM at hlt
        rw [if_pos hr, if_pos (by omega), Int.toNat_natCast, Int.toNat_natCast] at hlt
        exact hlt
      obtain ⟨k, m, hs⟩ := odd_part S h0
      have hk : k < 64 := by
        apply Classical.byContradiction
        intro hk
        have h1 : (2 : Nat) ^ 64 ≤ 2 ^ k := Nat.pow_le_pow_right (by decide) (by omega)
        have h2 : 2 ^ k ≤ S := by rw [hs]; exact Nat.le_mul_of_pos_right _ (by omega)
        have h3 : (2 : Nat) ^ 64 = 18446744073709551616 := by decide
        omega
      have hlow : lowOf (S : Int) = (k : Int) := by rw [hs]; exact lowOf_odd (by rw [← hs]; exact hS) hk
      rw [hlow, allOf_l0_eq n _ _ (by have := hr.2; omega) (by omega), List.append_assoc]
      congr 1
      have := setL_step (m := m) hk
      rw [← hs] at this
      rw [this]; rfl
theorem allOf_eq {S : Nat} (hS : S < 18446744073709551616) : (allOf (S : Int)).D = setL S := by
  unfold allOf
  rw [allOf_l0_eq _ _ _ hS (by unfold allM; rw [if_pos (by omega), Int.toNat_natCast]; omega)]
  rfl
end Go.Proofs.Ytaffaalpgpepeaa
/- Chains in which all that live have all; how much is left to do. No conditions. -/
namespace Go.Proofs.Ytaffaalpgpepeaa
open Go.Am
def spot (x : Member) : Int × Int := (x.node, x.site)
/-- A chain stays one if nobody moves, and the head has all. -/
theorem check_less {e : Int} {s t : Sl Member} (h : check ⟨e, s⟩ = 0) (hm : t.D.map spot = s.D.map spot) (hf : t.D[0]!.fresh = false) : check ⟨e, t⟩ = 0 := by
  rw [check_iff] at h ⊢
  obtain ⟨h1, h2, _, h4, h5⟩ := h
  refine ⟨h1, fun h0 => ?_, hf, fun x hx => ?_, ?_⟩
  · apply h2
    have : s.D.map spot = [] := by rw [← hm]; show t.D.map spot = []; rw [show t.D = [] from h0]; rfl
    exact List.map_eq_nil_iff.1 this
  · have : spot x ∈ s.D.map spot := by rw [← hm]; exact List.mem_map_of_mem hx
    obtain ⟨y, hy, he⟩ := List.mem_map.1 this
    have hy := (member_iff y).1 (h4 y hy)
    have e1 : y.node = x.node := congrArg Prod.fst he
    have e2 : y.site = x.site := congrArg Prod.snd he
    rw [e1, e2] at hy
    exact (member_iff x).2 hy
  · have h5 : (s.D.map spot).Pairwise fun p q => p.1 ≠ q.1 ∧ p.2 ≤ q.2 := List.pairwise_map.2 h5
    rw [← hm] at h5
    exact (List.pairwise_map (f := spot)).1 h5
def freshen (a : Int) (x : Member) : Member := ⟨x.node, x.site, x.fresh && !mHas a x.node⟩
theorem freshen_of {a : Int} {x : Member} (h : x.fresh = false) : freshen a x = x := by
  cases x with
  | mk n s f => cases h; rfl
theorem place_mid {e : Int} {f : Bool} {pre xs : List Member} {x : Member} (h : check ⟨e, ⟨f, pre ++ x :: xs⟩⟩ = 0) : placeIn ⟨e, ⟨f, pre ++ x :: xs⟩⟩ x.node = (pre.length : Int) := by
  have hp := place_at (c := ⟨e, ⟨f, pre ++ x :: xs⟩⟩) h (p := pre.length) (by simp)
  have e1 : (pre ++ x :: xs)[pre.length]! = x := by simp
  rw [show (Chain.mk e ⟨f, pre ++ x :: xs⟩).members.D = pre ++ x :: xs from rfl, e1] at hp
  unfold place0 at hp
  rw [h] at hp
  exact hp
theorem readyAll_l0_eq (a e : Int) : ∀ (xs pre : List Member) (i : Nat) (s : Sl Member), s.D = pre ++ xs → check ⟨e, s⟩ = 0 → eqC (readyAll_l0 a xs i e s) ⟨e, ⟨false, pre ++ xs.map (freshen a)⟩⟩ ∧ check (readyAll_l0 a xs i e s) = 0
  | [], pre, i, s, hs, hc => ⟨⟨rfl, by show s.D = _; rw [hs]; rfl⟩, hc⟩
  | x :: xs, pre, i, s, hs, hc => by
    obtain ⟨f, D⟩ := s
    obtain rfl : D = pre ++ x :: xs := hs
    have hp := place_mid hc
    have hx : (pre ++ x :: xs)[pre.length]! = x := by simp
    have hr : ready ⟨e, ⟨f, pre ++ x :: xs⟩⟩ x.node = bif x.fresh then (⟨e, ⟨false, pre ++ ⟨x.node, x.site, false⟩ :: xs⟩⟩, 0) else (⟨0, ⟨true, []⟩⟩, 81) := by
      unfold ready
      rw [hp, hc, show ((0 : Int) != 0) = false from rfl, cond_false, decide_eq_false (by omega), cond_false, Int.toNat_natCast]
      show (bif !((pre ++ x :: xs)[pre.length]!.fresh) then _ else (Chain.mk e (Sl.mk false ((pre ++ x :: xs).set pre.length (Member.mk (pre ++ x :: xs)[pre.length]!.node (pre ++ x :: xs)[pre.length]!.site false))), 0)) = _
      rw [hx, List.set_append_right _ _ (Nat.le_refl _), Nat.sub_self, List.set_cons_zero]
      cases x.fresh <;> rfl
    have stay : freshen a x = x → eqC (readyAll_l0 a xs (i + 1) e ⟨f, pre ++ x :: xs⟩) ⟨e, ⟨false, pre ++ (x :: xs).map (freshen a)⟩⟩ ∧ check (readyAll_l0 a xs (i + 1) e ⟨f, pre ++ x :: xs⟩) = 0 := fun h => by
      have := readyAll_l0_eq a e xs (pre ++ [x]) (i + 1) ⟨f, pre ++ x :: xs⟩ (by simp) hc
      rw [List.append_assoc] at this
      rw [List.map_cons, h]; exact this
    unfold readyAll_l0
    rw [hr]
    cases hf : x.fresh
    · exact stay (freshen_of hf)
    · cases ha : mHas a x.node
      · exact stay (by cases x; simp only [freshen, ha]; simp)
      · have h0 : pre ≠ [] := fun h => by
          subst h
          have := ((check_iff _).1 hc).2.2.1
          exact absurd (hf.symm.trans this) (by decide)
        have hc2 : check ⟨e, ⟨false, pre ++ ⟨x.node, x.site, false⟩ :: xs⟩⟩ = 0 := check_less hc (by simp [spot]) (by
          obtain ⟨y, ys, rfl⟩ := List.exists_cons_of_ne_nil h0
          exact ((check_iff _).1 hc).2.2.1)
        have := readyAll_l0_eq a e xs (pre ++ [⟨x.node, x.site, false⟩]) (i + 1) ⟨false, pre ++ ⟨x.node, x.site, false⟩ :: xs⟩ (by simp) hc2
        rw [List.append_assoc] at this
        rw [List.map_cons, show freshen a x = ⟨x.node, x.site, false⟩ by simp [freshen, ha]]
        exact this
theorem readyAll_eq {c : Chain} (a : Int) (hc : check c = 0) : eqC (readyAll c a) ⟨c.epoch, ⟨false, c.members.D.map (freshen a)⟩⟩ :=
  (readyAll_l0_eq a c.epoch c.members.D [] 0 c.members rfl hc).1
theorem readyAll_check {c : Chain} (a : Int) (hc : check c = 0) : check (readyAll c a) = 0 :=
  (readyAll_l0_eq a c.epoch c.members.D [] 0 c.members rfl hc).2
theorem readyAll_l0_hn (a : Int) : ∀ (xs : List Member) (i : Nat) (e : Int) (s : Sl Member), (s.nil = true → s.D = []) → (readyAll_l0 a xs i e s).members.nil = true → (readyAll_l0 a xs i e s).members.D = []
  | [], _, _, _, hs => hs
  | x :: xs, i, e, s, hs => by
    have h1 := readyAll_l0_hn a xs (i + 1) e s hs
    have h2 := readyAll_l0_hn a xs (i + 1) (ready ⟨e, s⟩ x.node).1.epoch (ready ⟨e, s⟩ x.node).1.members (ready_hn ⟨e, s⟩ x.node)
    unfold readyAll_l0
    cases (ready ⟨e, s⟩ x.node).2 == 0
    · exact h1
    · cases mHas a x.node
      · exact h1
      · exact h2
theorem readyAll_hn (c : Chain) (a : Int) (hn : c.members.nil = true → c.members.D = []) : (readyAll c a).members.nil = true → (readyAll c a).members.D = [] := readyAll_l0_hn a _ _ _ _ hn
def deadN (a : Int) (l : List Int) : Nat := l.countP fun n => !mHas a n
def liveN (a : Int) (l : List Int) : Nat := (List.range 6).countP fun (n : Nat) => mHas a (Int.ofNat n) && l.all fun m => m != Int.ofNat n
def planM (a : Int) (l : List Member) : Nat := deadN a (l.map (·.node)) + liveN a (l.map (·.node))
theorem planM_map {a : Int} {l m : List Member} (h : l.map (·.node) = m.map (·.node)) : planM a l = planM a m := by unfold planM; rw [h]
theorem planM_le (a : Int) (l : List Member) : planM a l ≤ l.length + 6 := by
  have h1 : deadN a (l.map (·.node)) ≤ (l.map (·.node)).length := List.countP_le_length
  have h2 : liveN a (l.map (·.node)) ≤ (List.range 6).length := List.countP_le_length
  rw [List.length_map] at h1
  rw [List.length_range] at h2
  unfold planM; omega
theorem freshen_nodes (a : Int) (l : List Member) : (l.map (freshen a)).map (·.node) = l.map (·.node) := by
  rw [List.map_map]; rfl
theorem planM_ready {c : Chain} (a : Int) (hc : check c = 0) : planM a (readyAll c a).members.D = planM a c.members.D := by
  rw [(readyAll_eq a hc).2]; exact planM_map (freshen_nodes a _)
end Go.Proofs.Ytaffaalpgpepeaa
/- The next command in plain Lean: what it is, and that behind it less is left to do. No conditions. -/
namespace Go.Proofs.Ytaffaalpgpepeaa
open Go.Am
theorem drop_form {c : Chain} (hc : check c = 0) (n : Int) : drop c n = finW c ((c.members.D.filter fun x => x.node != n).dropWhile (·.fresh)) := by
  unfold drop
  rw [hc, show ((0 : Int) != 0) = false from rfl, cond_false]
  show without c (maskOf ⟨false, [n]⟩) = _
  rw [without_eq, List.filter_congr fun x hx => by
    have := mem_ok hc hx
    rw [has_mask n x.node ⟨this.1, this.2.1⟩, ← bne]]
theorem drop_bad {c : Chain} (hc : check c ≠ 0) (n : Int) : drop c n = (⟨0, ⟨true, []⟩⟩, check c) := by
  unfold drop
  rw [show (check c != 0) = true by simpa using hc, cond_true]
theorem finW_some {c : Chain} {l : List Member} (h : (finW c l).2 = 0) : (finW c l).1 = ⟨IntKind.i64.wrap (c.epoch + 1), ⟨l.isEmpty, l⟩⟩ ∧ l ≠ [] ∧ c.epoch < 1099511627776 ∧ l.length ≠ c.members.D.length := by
  unfold finW at h ⊢
  cases h1 : decide (c.epoch ≥ 1099511627776)
  case true => rw [h1] at h; exact absurd h (by simp)
  cases h2 : ((l.length : Int) == (c.members.D.length : Int))
  case true => rw [h1, h2] at h; exact absurd h (by simp)
  cases h3 : ((l.length : Int) == 0)
  case true => rw [h1, h2, h3] at h; exact absurd h (by simp)
  refine ⟨rfl, fun h0 => ?_, by have := of_decide_eq_false h1; omega, fun h0 => ?_⟩
  · rw [h0] at h3; exact absurd h3 (by simp)
  · rw [h0] at h2; simp at h2
theorem drop_some {c : Chain} {n : Int} (hc : check c = 0) (h : (drop c n).2 = 0) : (drop c n).1 = ⟨c.epoch + 1, ⟨false, (c.members.D.filter fun x => x.node != n).dropWhile (·.fresh)⟩⟩ ∧ c.epoch < 1099511627776 ∧ (c.members.D.filter fun x => x.node != n).dropWhile (·.fresh) ≠ [] := by
  rw [drop_form hc] at h ⊢
  obtain ⟨h1, h2, h3, _⟩ := finW_some h
  rw [h1, wrap_epoch hc, show ((c.members.D.filter fun x => x.node != n).dropWhile (·.fresh)).isEmpty = false by simpa using h2]
  exact ⟨rfl, h3, h2⟩
theorem drop_hn (c : Chain) (n : Int) : (drop c n).1.members.nil = true → (drop c n).1.members.D = [] := by
  by_cases hc : check c = 0
  · rw [drop_form hc]; exact finW_hn c _
  · rw [drop_bad hc]; exact fun _ => rfl
theorem drop_len (c : Chain) (n : Int) : (drop c n).1.members.D.length ≤ c.members.D.length := by
  by_cases hc : check c = 0
  · rw [drop_form hc]
    refine Nat.le_trans (finW_len c _) ?_
    exact Nat.le_trans (List.dropWhile_sublist _).length_le (List.length_filter_le _ _)
  · rw [drop_bad hc]; exact Nat.zero_le _
def putIn (l : List Member) (n s : Int) : List Member := insertL l (l.takeWhile fun x => decide (x.site ≤ s)).length [⟨n, s, true⟩]
theorem join_some {c : Chain} {n s : Int} {f : Bool} (hc : check c = 0) (h : (join c ⟨n, s, f⟩).2 = 0) : (join c ⟨n, s, f⟩).1 = ⟨c.epoch + 1, ⟨false, putIn c.members.D n s⟩⟩ ∧ c.epoch < 1099511627776 ∧ member ⟨n, s, true⟩ = true ∧ placeIn c n < 0 ∧ (c.members.D.takeWhile fun x => decide (x.site ≤ s)).length ≠ 0 := by
  unfold join at h ⊢
  rw [hc, show ((0 : Int) != 0) = false from rfl, cond_false] at h ⊢
  cases h1 : member ⟨n, s, true⟩
  case false => simp only [h1] at h; exact absurd h (by simp)
  simp only [h1, Bool.not_true, cond_false] at h ⊢
  cases h2 : decide (placeIn c n ≥ 0)
  case true => rw [h2] at h; exact absurd h (by simp)
  rw [h2, cond_false] at h
  rw [cond_false]
  cases h3 : decide (c.epoch ≥ 1099511627776)
  case true => rw [h3] at h; exact absurd h (by simp)
  rw [h3, cond_false] at h
  rw [cond_false]
  have hl := check_le6 hc
  have e := join_l0_eq c ⟨n, s, f⟩ (by omega) (c.members.D.length - (0 : Int).toNat + 1) 0 (Nat.zero_le _) (by simp)
  rw [show ((0 : Nat) : Int) = 0 from rfl, List.drop_zero, Nat.zero_add] at e
  rw [e] at h ⊢
  cases h4 : (c.members.D.takeWhile fun x => decide (x.site ≤ s)).length == 0
  case true => simp only [h4] at h; exact absurd h (by simp)
  refine ⟨?_, by have := of_decide_eq_false h3; omega, trivial, by have := of_decide_eq_false h2; omega, by simpa using h4⟩
  simp only [cond_false]
  unfold after
  rw [wrap_epoch hc]; rfl
theorem join_bad {c : Chain} (hc : check c ≠ 0) (m : Member) : join c m = (⟨0, ⟨true, []⟩⟩, check c) := by
  unfold join
  rw [show (check c != 0) = true by simpa using hc, cond_true]
theorem join_l0_hn (c : Chain) (m : Member) : ∀ (nn : Nat) (i : Int), (join_l0 c m nn i).1.members.nil = true → (join_l0 c m nn i).1.members.D = []
  | 0, _ => fun _ => rfl
  | nn + 1, i => by
    have ih := join_l0_hn c m nn (IntKind.i64.wrap (i + 1))
    unfold join_l0
    cases decide (i < (c.members.D.length : Int))
    · cases i == 0
      · intro h; cases h
      · exact fun _ => rfl
    · cases decide (c.members.D[i.toNat]!.site ≤ m.site)
      · cases i == 0
        · intro h; cases h
        · exact fun _ => rfl
      · exact ih
theorem join_hn (c : Chain) (m : Member) : (join c m).1.members.nil = true → (join c m).1.members.D = [] := by
  unfold join
  cases check c != 0
  case true => exact fun _ => rfl
  cases !member ⟨m.node, m.site, true⟩
  case true => exact fun _ => rfl
  cases decide (placeIn c m.node ≥ 0)
  case true => exact fun _ => rfl
  cases decide (c.epoch ≥ 1099511627776)
  case true => exact fun _ => rfl
  exact join_l0_hn c m _ _
theorem putIn_len (l : List Member) (n s : Int) : (putIn l n s).length = l.length + 1 := by
  unfold putIn
  rw [insertL_len (List.takeWhile_sublist _).length_le]; rfl
theorem may_drop (c : Chain) (n s e : Int) : may c ⟨1, n, s, e⟩ = ((drop c n).2 == 0) := by
  unfold may
  rw [show ((1 : Int) == 1) = true from rfl, cond_true]
theorem may_join (c : Chain) (n s e : Int) : may c ⟨2, n, s, e⟩ = ((join c ⟨n, s, false⟩).2 == 0) := by
  unfold may
  rw [show ((2 : Int) == 1) = false from rfl, cond_false, show ((2 : Int) == 2) = true from rfl, cond_true]
theorem deadOf_l0_some (f : Fleet) (c : Chain) : ∀ (l : List Member) (i : Nat), (deadOf_l0 f c l i).2 = true → ∃ x ∈ l, mHas f.alive x.node = false ∧ (deadOf_l0 f c l i).1 = ⟨1, x.node, 0, c.epoch⟩ ∧ (drop c x.node).2 = 0
  | [], _, h => by cases h
  | x :: l, i, h => by
    unfold deadOf_l0 at h ⊢
    rw [may_drop] at h ⊢
    have rest : (deadOf_l0 f c l (i + 1)).2 = true → ∃ y ∈ x :: l, mHas f.alive y.node = false ∧ (deadOf_l0 f c l (i + 1)).1 = ⟨1, y.node, 0, c.epoch⟩ ∧ (drop c y.node).2 = 0 := fun h => by
      obtain ⟨y, hy, r⟩ := deadOf_l0_some f c l (i + 1) h
      exact ⟨y, List.mem_cons_of_mem _ hy, r⟩
    cases h1 : mHas f.alive x.node
    · rw [h1] at h
      cases h2 : (drop c x.node).2 == 0
      · rw [h2] at h; exact rest h
      · exact ⟨x, List.mem_cons_self .., h1, rfl, by simpa using h2⟩
    · rw [h1] at h; exact rest h
theorem spare_l0_some (f : Fleet) (s : Int) : ∀ (l : List Int) (i : Nat), (spare_l0 f s l i).2 = true → (spare_l0 f s l i).1 ∈ l ∧ (spare_l0 f s l i).1 < 6 ∧ f.home (spare_l0 f s l i).1.toNat = s
  | [], _, h => by cases h
  | x :: l, i, h => by
    unfold spare_l0 at h ⊢
    have rest : (spare_l0 f s l (i + 1)).2 = true → (spare_l0 f s l (i + 1)).1 ∈ x :: l ∧ (spare_l0 f s l (i + 1)).1 < 6 ∧ f.home (spare_l0 f s l (i + 1)).1.toNat = s := fun h => by
      obtain ⟨h1, h2⟩ := spare_l0_some f s l (i + 1) h
      exact ⟨List.mem_cons_of_mem _ h1, h2⟩
    cases h1 : decide (x < 6)
    · rw [h1] at h; exact rest h
    · rw [h1] at h
      cases h2 : f.home x.toNat == s
      · rw [h2] at h; exact rest h
      · exact ⟨List.mem_cons_self .., of_decide_eq_true h1, by simpa using h2⟩
theorem mem_setL {S : Nat} {x : Int} : x ∈ setL S ↔ ∃ k : Nat, x = (k : Int) ∧ k < 64 ∧ S.testBit k = true := by
  unfold setL
  rw [List.mem_map]
  constructor
  · rintro ⟨k, hk, e⟩
    rw [List.mem_filter, List.mem_range] at hk
    exact ⟨k, e.symm, hk⟩
  · rintro ⟨k, e, hk⟩
    exact ⟨k, by rw [List.mem_filter, List.mem_range]; exact hk, e.symm⟩
theorem but_nat {s t : Nat} : ∃ U : Nat, mBut (s : Int) (t : Int) = (U : Int) ∧ U < 18446744073709551616 ∧ ∀ k, k < 64 → U.testBit k = (s.testBit k && !t.testBit k) := by
  refine ⟨_, mBut_nat, ?_, fun k hk => ?_⟩
  · have := (BitVec.ofNat 64 s &&& ~~~ BitVec.ofNat 64 t : BitVec 64).isLt
    have h : (2 : Nat) ^ 64 = 18446744073709551616 := by decide
    omega
  · show (BitVec.ofNat 64 s &&& ~~~ BitVec.ofNat 64 t : BitVec 64).getLsbD k = _
    rw [BitVec.getLsbD_and, BitVec.getLsbD_not, BitVec.getLsbD_ofNat, BitVec.getLsbD_ofNat, decide_eq_true hk]
    simp
theorem nodes_nat (c : Chain) : ∃ U : Nat, nodes c = (U : Int) ∧ U < 18446744073709551616 ∧ ∀ k, k < 64 → U.testBit k = c.members.D.any fun x => x.node == (k : Int) := by
  have h := nodes_l0_eq c.members.D 0 0 (by decide)
  refine ⟨_, h.1, h.2, fun k hk => ?_⟩
  rw [bits_test _ hk]; simp
/-- Who lives, and stands not in the chain. -/
theorem butNodes (a : Nat) (c : Chain) : ∃ U : Nat, (allOf (mBut (a : Int) (nodes c))).D = setL U ∧ ∀ k, k < 64 → U.testBit k = (a.testBit k && !c.members.D.any fun x => x.node == (k : Int)) := by
  obtain ⟨V, e1, _, h2⟩ := nodes_nat c
  obtain ⟨U, e2, h3, h4⟩ := but_nat (s := a) (t := V)
  refine ⟨U, by rw [e1, e2, allOf_eq h3], fun k hk => by rw [h4 k hk, h2 k hk]⟩
theorem spare_some {f : Fleet} {c : Chain} {s : Int} (ha : 0 ≤ f.alive ∧ f.alive < 18446744073709551616) (h : (spare f c s).2 = true) : ∃ k : Nat, (spare f c s).1 = (k : Int) ∧ k < 6 ∧ mHas f.alive (k : Int) = true ∧ f.home k = s ∧ ∀ x ∈ c.members.D, x.node ≠ (k : Int) := by
  obtain ⟨a, e⟩ : ∃ a : Nat, f.alive = (a : Int) := ⟨f.alive.toNat, by omega⟩
  rw [e] at ha
  obtain ⟨U, hU, hb⟩ := butNodes a c
  have hs : spare f c s = spare_l0 f s (setL U) 0 := by unfold spare; rw [e, hU]
  rw [hs] at h ⊢
  obtain ⟨h1, h2, h3⟩ := spare_l0_some f s _ _ h
  obtain ⟨k, ek, hk, ht⟩ := mem_setL.1 h1
  rw [ek] at h2 h3
  rw [hb k hk, Bool.and_eq_true] at ht
  refine ⟨k, ek, by omega, by rw [e, has_nat (by omega) hk]; exact ht.1, by simpa using h3, fun x hx hn => ?_⟩
  have := ht.2
  rw [Bool.not_eq_true', List.any_eq_false] at this
  exact this x hx (by simpa using hn)
theorem lackOf_l0_some {f : Fleet} {c : Chain} (ha : 0 ≤ f.alive ∧ f.alive < 18446744073709551616) : ∀ (k i : Nat), i + k = 3 → (lackOf_l0 f c k i).2 = true → ∃ n s : Nat, n < 6 ∧ s < 3 ∧ mHas f.alive (n : Int) = true ∧ f.home n = (s : Int) ∧ (∀ x ∈ c.members.D, x.node ≠ (n : Int)) ∧ (lackOf_l0 f c k i).1 = ⟨2, n, s, c.epoch⟩ ∧ (join c ⟨n, s, false⟩).2 = 0
  | 0, _, _, h => by cases h
  | k + 1, i, hi, h => by
    have rest := lackOf_l0_some (f := f) (c := c) ha k (i + 1) (by omega)
    unfold lackOf_l0 at h ⊢
    rw [may_join] at h ⊢
    cases h1 : decide (many c (i : Int) ≥ f.wish i)
    case true => rw [h1] at h; exact rest h
    cases h2 : (spare f c (i : Int)).2
    case false => rw [h1, h2] at h; exact rest h
    cases h3 : (join c ⟨(spare f c (i : Int)).1, (i : Int), false⟩).2 == 0
    case false => rw [h1, h2, h3] at h; exact rest h
    obtain ⟨n, en, hn, hh, hm, hx⟩ := spare_some ha h2
    rw [en] at h3 ⊢
    exact ⟨n, i, hn, by omega, hh, hm, hx, rfl, by simpa using h3⟩
theorem bif4 {α : Type} {p q r s : Bool} {A B C D E X : α} (h : (bif p then A else bif q then B else bif r then C else bif s then D else E) = X) : (p = true ∧ A = X) ∨ (p = false ∧ q = true ∧ B = X) ∨ (p = false ∧ q = false ∧ r = true ∧ C = X) ∨ (p = false ∧ q = false ∧ r = false ∧ s = true ∧ D = X) ∨ (p = false ∧ q = false ∧ r = false ∧ s = false ∧ E = X) := by
  cases p
  · cases q
    · cases r
      · cases s
        · exact .inr (.inr (.inr (.inr ⟨rfl, rfl, rfl, rfl, h⟩)))
        · exact .inr (.inr (.inr (.inl ⟨rfl, rfl, rfl, rfl, h⟩)))
      · exact .inr (.inr (.inl ⟨rfl, rfl, rfl, h⟩))
    · exact .inr (.inl ⟨rfl, rfl, h⟩)
  · exact .inl ⟨rfl, h⟩
theorem planCheck_l1_r (w : Nat → Int) : ∀ k i, planCheck_l1 w k i = 0 ∨ planCheck_l1 w k i = 1
  | 0, _ => .inl rfl
  | k + 1, i => by
    unfold planCheck_l1
    cases decide (w i < 0)
    · cases decide (w i > 6)
      · exact planCheck_l1_r w k (i + 1)
      · exact .inr rfl
    · exact .inr rfl
/-- What the next command is. -/
theorem nextP_cases {c : Chain} {a : Int} {h w : Nat → Int} {nx : Command × Bool × Int} (hx : nextP c a h w = nx) :
    (check c ≠ 0 ∧ nx = (⟨0, 0, 0, 0⟩, false, check c)) ∨ (check c = 0 ∧ planCheck h w ≠ 0 ∧ nx = (⟨0, 0, 0, 0⟩, false, planCheck h w)) ∨
    (check c = 0 ∧ planCheck h w = 0 ∧ nx.2.1 = true ∧ nx.2.2 = 0 ∧ ∃ x ∈ c.members.D, mHas a x.node = false ∧ nx.1 = ⟨1, x.node, 0, c.epoch⟩ ∧ (drop c x.node).2 = 0) ∨
    (check c = 0 ∧ planCheck h w = 0 ∧ (deadOf ⟨a, h, w⟩ c).2 = false ∧ whole c ≠ nodes c ∧ nx = (⟨0, 0, 0, 0⟩, false, 0)) ∨
    (check c = 0 ∧ planCheck h w = 0 ∧ (deadOf ⟨a, h, w⟩ c).2 = false ∧ whole c = nodes c ∧ nx = ((lackOf ⟨a, h, w⟩ c).1, (lackOf ⟨a, h, w⟩ c).2, 0)) := by
  unfold nextP at hx
  have z : ∀ {x : Int}, (x != 0) = false → x = 0 := fun h => eq_of_bne_false h
  rcases bif4 hx with ⟨h1, e⟩ | ⟨h1, h2, e⟩ | ⟨h1, h2, h3, e⟩ | ⟨h1, h2, h3, h4, e⟩ | ⟨h1, h2, h3, h4, e⟩
  · exact .inl ⟨by simpa using h1, e.symm⟩
  · exact .inr (.inl ⟨z h1, by simpa using h2, e.symm⟩)
  · refine .inr (.inr (.inl ⟨z h1, z h2, by rw [← e], by rw [← e], ?_⟩))
    unfold deadOf at h3 e
    obtain ⟨x, hm, r1, r2, r3⟩ := deadOf_l0_some _ _ _ _ h3
    exact ⟨x, hm, r1, by rw [← e]; exact r2, r3⟩
  · exact .inr (.inr (.inr (.inl ⟨z h1, z h2, h3, by simpa using h4, e.symm⟩)))
  · exact .inr (.inr (.inr (.inr ⟨z h1, z h2, h3, by simpa using h4, e.symm⟩)))
end Go.Proofs.Ytaffaalpgpepeaa
/- Behind each command less is left to do. No conditions. -/
namespace Go.Proofs.Ytaffaalpgpepeaa
open Go.Am
theorem mem_freshen {c : Chain} {a : Int} (hc : check c = 0) {x : Member} (hx : x ∈ (readyAll c a).members.D) : x.fresh = true → mHas a x.node = false := by
  rw [(readyAll_eq a hc).2] at hx
  obtain ⟨y, _, rfl⟩ := List.mem_map.1 hx
  show (y.fresh && !mHas a y.node) = true → mHas a y.node = false
  simp
theorem dropWhile_mem {α : Type} (p : α → Bool) : ∀ (l : List α) (x : α), x ∈ l → x ∈ l.dropWhile p ∨ p x = true
  | [], _, h => by cases h
  | y :: l, x, h => by
    cases hp : p y
    · rw [List.dropWhile_cons, hp]; exact .inl h
    · rw [List.dropWhile_cons, hp]
      cases h with
      | head => exact .inr hp
      | tail _ h => exact dropWhile_mem p l x h
/-- One that does not live goes: less is left to do, if all fresh ones do not live. -/
theorem planM_drop {a : Int} {l : List Member} (hf : ∀ x ∈ l, x.fresh = true → mHas a x.node = false) {x : Member} (hx : x ∈ l) (hd : mHas a x.node = false) : planM a ((l.filter fun y => y.node != x.node).dropWhile (·.fresh)) < planM a l := by
  have hsub : ((l.filter fun y => y.node != x.node).dropWhile (·.fresh)).Sublist (l.filter fun y => y.node != x.node) := List.dropWhile_sublist _
  have h1 : deadN a (((l.filter fun y => y.node != x.node).dropWhile (·.fresh)).map (·.node)) < deadN a (l.map (·.node)) := by
    unfold deadN
    rw [List.countP_map, List.countP_map]
    refine Nat.lt_of_le_of_lt hsub.countP_le ?_
    rw [List.countP_filter]
    refine count_lt _ _ _ (fun y _ h => ?_) ⟨x, hx, ?_, ?_⟩
    · rw [Bool.and_eq_true] at h; exact h.1
    · show (!mHas a x.node) = true; rw [hd]; rfl
    · simp
  have h2 : liveN a (((l.filter fun y => y.node != x.node).dropWhile (·.fresh)).map (·.node)) ≤ liveN a (l.map (·.node)) := by
    unfold liveN
    refine List.countP_mono_left fun n _ h => ?_
    rw [Bool.and_eq_true] at h ⊢
    refine ⟨h.1, List.all_eq_true.2 fun m hm => ?_⟩
    obtain ⟨y, hy, rfl⟩ := List.mem_map.1 hm
    cases hq : (y.node != Int.ofNat n)
    case true => rfl
    have hn : y.node = Int.ofNat n := by simpa using hq
    have hlive : mHas a y.node = true := by rw [hn]; exact h.1
    have hmem : y ∈ l.filter fun y => y.node != x.node := List.mem_filter.2 ⟨hy, by
      have : y.node ≠ x.node := fun e => by rw [e, hd] at hlive; cases hlive
      simpa using this⟩
    rcases dropWhile_mem (·.fresh) _ y hmem with hin | hfr
    · have := List.all_eq_true.1 h.2 y.node (List.mem_map_of_mem hin)
      rw [hq] at this; cases this
    · rw [hf y hy hfr] at hlive; cases hlive
  unfold planM; omega
/-- One that lives comes: less is left to do. -/
theorem planM_put {a : Int} {l : List Member} {n : Nat} {s : Int} (hn : n < 6) (ha : mHas a (n : Int) = true) (hx : ∀ x ∈ l, x.node ≠ (n : Int)) : planM a (putIn l n s) < planM a l := by
  have hm : ∀ m : Int, m ∈ (putIn l n s).map (·.node) ↔ m = (n : Int) ∨ m ∈ l.map (·.node) := fun m => by
    unfold putIn insertL
    rw [List.map_append, List.map_append, List.mem_append, List.mem_append]
    have hl : m ∈ l.map (·.node) ↔ m ∈ (l.take (l.takeWhile fun x => decide (x.site ≤ s)).length).map (·.node) ∨ m ∈ (l.drop (l.takeWhile fun x => decide (x.site ≤ s)).length).map (·.node) := by
      rw [← List.mem_append, ← List.map_append, List.take_append_drop]
    rw [hl]
    simp only [List.map_cons, List.map_nil, List.mem_singleton]
    constructor
    · rintro ((h | h) | h)
      · exact .inr (.inl h)
      · exact .inl h
      · exact .inr (.inr h)
    · rintro (h | h | h)
      · exact .inl (.inr h)
      · exact .inl (.inl h)
      · exact .inr h
  have h1 : deadN a ((putIn l n s).map (·.node)) = deadN a (l.map (·.node)) := by
    unfold deadN putIn insertL
    have e : deadN a (l.map (·.node)) = deadN a ((l.take (l.takeWhile fun x => decide (x.site ≤ s)).length ++ l.drop (l.takeWhile fun x => decide (x.site ≤ s)).length).map (·.node)) := by rw [List.take_append_drop]
    unfold deadN at e
    rw [e, List.map_append, List.map_append, List.map_append, List.countP_append, List.countP_append, List.countP_append]
    simp [ha]
  have h2 : liveN a ((putIn l n s).map (·.node)) < liveN a (l.map (·.node)) := by
    unfold liveN
    refine count_lt _ _ _ (fun k _ h => ?_) ⟨n, List.mem_range.2 hn, ?_, ?_⟩
    · rw [Bool.and_eq_true] at h ⊢
      exact ⟨h.1, List.all_eq_true.2 fun m hmem => List.all_eq_true.1 h.2 m ((hm m).2 (.inr hmem))⟩
    · rw [Bool.and_eq_true]
      refine ⟨ha, List.all_eq_true.2 fun m hmem => ?_⟩
      obtain ⟨y, hy, rfl⟩ := List.mem_map.1 hmem
      simpa using hx y hy
    · rw [Bool.and_eq_false_iff]
      refine .inr (List.all_eq_false.2 ⟨(n : Int), (hm _).2 (.inl rfl), ?_⟩)
      simp
  unfold planM; omega
theorem join_none {c : Chain} {m : Member} (hc : check c = 0) (h : (join c m).2 ≠ 0) : (join c m).1 = ⟨0, ⟨true, []⟩⟩ := by
  obtain ⟨n, s, f⟩ := m
  unfold join at h ⊢
  rw [hc, show ((0 : Int) != 0) = false from rfl, cond_false] at h ⊢
  cases h1 : member ⟨n, s, true⟩
  case false => simp only [Bool.not_false, cond_true]
  simp only [h1, Bool.not_true, cond_false] at h ⊢
  cases h2 : decide (placeIn c n ≥ 0)
  case true => rfl
  rw [h2, cond_false] at h
  rw [cond_false]
  cases h3 : decide (c.epoch ≥ 1099511627776)
  case true => rfl
  rw [h3, cond_false] at h
  rw [cond_false]
  have hl := check_le6 hc
  have e := join_l0_eq c ⟨n, s, f⟩ (by omega) (c.members.D.length - (0 : Int).toNat + 1) 0 (Nat.zero_le _) (by simp)
  rw [show ((0 : Nat) : Int) = 0 from rfl, List.drop_zero, Nat.zero_add] at e
  rw [e] at h ⊢
  cases h4 : (c.members.D.takeWhile fun x => decide (x.site ≤ s)).length == 0
  case true => simp only [cond_true]
  simp only [h4, cond_false] at h
  exact absurd rfl h
theorem nextP_some {c : Chain} {a : Int} {h w : Nat → Int} {nx : Command × Bool × Int} (ha : 0 ≤ a ∧ a < 18446744073709551616) (hx : nextP c a h w = nx) (h2 : nx.2.1 = true) : check c = 0 ∧ planCheck h w = 0 ∧ nx.2.2 = 0 ∧ ((∃ x ∈ c.members.D, mHas a x.node = false ∧ nx.1 = ⟨1, x.node, 0, c.epoch⟩ ∧ (drop c x.node).2 = 0) ∨ (whole c = nodes c ∧ ∃ n s : Nat, n < 6 ∧ s < 3 ∧ mHas a (n : Int) = true ∧ h n = (s : Int) ∧ (∀ x ∈ c.members.D, x.node ≠ (n : Int)) ∧ nx.1 = ⟨2, n, s, c.epoch⟩ ∧ (join c ⟨n, s, false⟩).2 = 0)) := by
  rcases nextP_cases hx with ⟨_, e⟩ | ⟨_, _, e⟩ | ⟨h1, h3, _, h4, r⟩ | ⟨_, _, _, _, e⟩ | ⟨h1, h3, _, h4, e⟩
  · rw [e] at h2; cases h2
  · rw [e] at h2; cases h2
  · exact ⟨h1, h3, h4, .inl r⟩
  · rw [e] at h2; cases h2
  · have hk : (lackOf ⟨a, h, w⟩ c).2 = true := by rw [e] at h2; exact h2
    have e1 : nx.1 = (lackOf ⟨a, h, w⟩ c).1 := by rw [e]
    have e2 : nx.2.2 = 0 := by rw [e]
    unfold lackOf at hk e1
    obtain ⟨n, s, r1, r2, r3, r4, r5, r6, r7⟩ := lackOf_l0_some (f := ⟨a, h, w⟩) (c := c) ha 3 0 rfl hk
    exact ⟨h1, h3, e2, .inr ⟨h4, n, s, r1, r2, r3, r4, r5, by rw [e1]; exact r6, r7⟩⟩
theorem step_drop {c : Chain} {a : Int} {h w : Nat → Int} {nx : Command × Bool × Int} (ha : 0 ≤ a ∧ a < 18446744073709551616) (hc : check c = 0) (hx : nextP (readyAll c a) a h w = nx) (h2 : nx.2.1 = true) (h3 : nx.1.kind = 1) : planM a (drop (readyAll c a) nx.1.node).1.members.D < planM a c.members.D := by
  have hr := readyAll_check a hc
  rw [← planM_ready a hc]
  obtain ⟨_, _, _, ⟨x, hm, r1, r2, r3⟩ | ⟨_, n, s, _, _, _, _, _, e, _⟩⟩ := nextP_some ha hx h2
  · rw [r2, (drop_some hr r3).1]
    exact planM_drop (fun y hy => mem_freshen hc hy) hm r1
  · rw [e] at h3; exact absurd h3 (by show ¬ ((2 : Int) = 1); decide)
theorem step_join {c : Chain} {a : Int} {h w : Nat → Int} {nx : Command × Bool × Int} (ha : 0 ≤ a ∧ a < 18446744073709551616) (hc : check c = 0) (hx : nextP (readyAll c a) a h w = nx) (h2 : nx.2.1 = true) (h3 : nx.1.kind ≠ 1) : planM a (join (readyAll c a) ⟨nx.1.node, nx.1.site, false⟩).1.members.D < planM a c.members.D := by
  have hr := readyAll_check a hc
  rw [← planM_ready a hc]
  obtain ⟨_, _, _, ⟨x, _, _, e, _⟩ | ⟨_, n, s, hn, _, hh, _, hx, e, r⟩⟩ := nextP_some ha hx h2
  · rw [e] at h3; exact absurd rfl h3
  · rw [e]
    show planM a (join (readyAll c a) ⟨(n : Int), (s : Int), false⟩).1.members.D < _
    rw [(join_some hr r).1]
    exact planM_put hn hh hx
theorem step_bad {c : Chain} {a : Int} {h w : Nat → Int} {nx : Command × Bool × Int} (ha : 0 ≤ a ∧ a < 18446744073709551616) (hc : check c ≠ 0) (hx : nextP c a h w = nx) (h2 : nx.2.1 = true) : False :=
  hc (nextP_some ha hx h2).1
theorem join_len (c : Chain) (m : Member) : (join c m).1.members.D.length ≤ c.members.D.length + 1 := by
  obtain ⟨n, s, f⟩ := m
  by_cases hc : check c = 0
  · by_cases h : (join c ⟨n, s, f⟩).2 = 0
    · rw [(join_some hc h).1]
      show (putIn c.members.D n s).length ≤ _
      rw [putIn_len]; omega
    · rw [join_none hc h]; exact Nat.zero_le _
  · rw [join_bad hc]; exact Nat.zero_le _
theorem readyAll_l0_le (a : Int) (m : Nat) : ∀ (xs : List Member) (i : Nat) (e : Int) (s : Sl Member), s.D.length ≤ m → (readyAll_l0 a xs i e s).members.D.length ≤ m
  | [], _, _, _, hs => hs
  | x :: xs, i, e, s, hs => by
    have h1 := readyAll_l0_le a m xs (i + 1) e s hs
    have h2 := readyAll_l0_le a m xs (i + 1) (ready ⟨e, s⟩ x.node).1.epoch (ready ⟨e, s⟩ x.node).1.members (Nat.le_trans (ready_len ⟨e, s⟩ x.node) hs)
    unfold readyAll_l0
    cases (ready ⟨e, s⟩ x.node).2 == 0
    · exact h1
    · cases mHas a x.node
      · exact h1
      · exact h2
theorem readyAll_le {c : Chain} {m : Nat} (a : Int) (h : c.members.D.length ≤ m) : (readyAll c a).members.D.length ≤ m := readyAll_l0_le a m _ _ _ _ h
theorem stepA {c ra : Chain} {a : Int} {h w : Nat → Int} {nx : Command × Bool × Int} {dr : Chain × Int} (ha : 0 ≤ a ∧ a < 18446744073709551616) (hd : dr = drop ra nx.1.node) (hx : nx = nextP ra a h w) (hra : ra = readyAll c a) (hc : (check c == 0) = true) (h2 : (!nx.2.1) = false) (h3 : (nx.1.kind == 1) = true) : planM a dr.1.members.D < planM a c.members.D ∧ (dr.1.members.nil = true → dr.1.members.D = []) ∧ dr.1.members.D.length ≤ 1000000 := by
  have hc0 : check c = 0 := by simpa using hc
  subst hd hra
  refine ⟨step_drop ha hc0 hx.symm (by simpa using h2) (by simpa using h3), drop_hn _ _, ?_⟩
  have h4 := drop_len (readyAll c a) nx.1.node
  have h5 := check_le6 (readyAll_check a hc0)
  omega
theorem stepB {c ra : Chain} {a : Int} {h w : Nat → Int} {nx : Command × Bool × Int} {dr : Chain × Int} (ha : 0 ≤ a ∧ a < 18446744073709551616) (hd : dr = join ra ⟨nx.1.node, nx.1.site, false⟩) (hx : nx = nextP ra a h w) (hra : ra = readyAll c a) (hc : (check c == 0) = true) (h2 : (!nx.2.1) = false) (h3 : (nx.1.kind == 1) = false) : planM a dr.1.members.D < planM a c.members.D ∧ (dr.1.members.nil = true → dr.1.members.D = []) ∧ dr.1.members.D.length ≤ 1000000 := by
  have hc0 : check c = 0 := by simpa using hc
  subst hd hra
  refine ⟨step_join ha hc0 hx.symm (by simpa using h2) (by simpa using h3), join_hn _ _, ?_⟩
  have h4 := join_len (readyAll c a) ⟨nx.1.node, nx.1.site, false⟩
  have h5 := check_le6 (readyAll_check a hc0)
  omega
theorem stepC {c : Chain} {a : Int} {h w : Nat → Int} {nx : Command × Bool × Int} (ha : 0 ≤ a ∧ a < 18446744073709551616) (hx : nx = nextP c a h w) (hc : (check c == 0) = false) (h2 : (!nx.2.1) = false) : False :=
  step_bad ha (by simpa using hc) hx.symm (by simpa using h2)
theorem maskOf_range (l : Sl Int) : 0 ≤ maskOf l ∧ maskOf l < 18446744073709551616 := by
  have key : ∀ (l : List Int) (i S : Nat), S < 18446744073709551616 → ∃ U : Nat, U < 18446744073709551616 ∧ maskOf_l0 l i (S : Int) = (U : Int) := by
    intro l
    induction l with
    | nil => intro i S h; exact ⟨S, h, rfl⟩
    | cons x l ih =>
      intro i S h
      show ∃ U : Nat, _ ∧ maskOf_l0 l (i + 1) (mWith (S : Int) x) = _
      rw [with_cast h]
      exact ih _ _ (with_cast_lt h x)
  obtain ⟨U, h1, h2⟩ := key l.D 0 0 (by decide)
  have h3 : maskOf l = (U : Int) := h2
  omega
end Go.Proofs.Ytaffaalpgpepeaa
/- Few members. No conditions. -/
namespace Go.Proofs.Ytaffaalpgpepeaa
open Go.Am
/-- A chain of few members; nil has none. -/
def fewC (c : Chain) : Prop := (c.members.nil = true → c.members.D = []) ∧ c.members.D.length ≤ 7
theorem few0 : fewC (Chain.mk 0 (Sl.mk true [])) := ⟨fun _ => rfl, Nat.zero_le _⟩
theorem few_drop (c : Chain) (n : Int) : fewC (drop c n).1 := by
  refine ⟨drop_hn c n, ?_⟩
  by_cases hc : check c = 0
  · have := drop_len c n; have := check_le6 hc; omega
  · have : (check c != 0) = true := by simpa using hc
    unfold drop; rw [this]; exact Nat.zero_le _
theorem dropSite_l0_few (c : Chain) (s : Int) (h : c.members.D.length ≤ 6) : ∀ (l : List Member) (i : Nat) (g : Int), fewC (dropSite_l0 c s l i g).1
  | [], _, g => by
    unfold dropSite_l0
    have := without_len c g
    exact ⟨without_hn c g, by show (without c g).1.members.D.length ≤ 7; omega⟩
  | x :: l, i, g => by
    unfold dropSite_l0
    cases x.site == s
    · exact dropSite_l0_few c s h l _ _
    · exact dropSite_l0_few c s h l _ _
theorem few_dropSite (c : Chain) (s : Int) : fewC (dropSite c s).1 := by
  unfold dropSite
  cases hc : check c != 0
  · exact dropSite_l0_few c s (check_le6 (eq_of_bne_false hc)) _ _ _
  · exact few0
theorem few_join (c : Chain) (m : Member) : fewC (join c m).1 := by
  refine ⟨join_hn c m, ?_⟩
  by_cases hc : check c = 0
  · have := join_len c m; have := check_le6 hc; omega
  · have : (check c != 0) = true := by simpa using hc
    unfold join; rw [this]; exact Nat.zero_le _
theorem few_again (c : Chain) (n : Int) : fewC (again c n).1 := by
  unfold again
  cases hc : check c != 0
  · have h6 := check_le6 (eq_of_bne_false hc)
    cases decide (placeIn c n < 0)
    · cases decide (c.epoch ≥ 1099511627776)
      · exact ⟨fun h => clone_hn _ h, by have := clone_len c.members; show (cloneMembers c.members).D.length ≤ 7; omega⟩
      · exact few0
    · exact few0
  · exact few0
theorem few_ready (c : Chain) (n : Int) : fewC (ready c n).1 := by
  refine ⟨ready_hn c n, ?_⟩
  by_cases hc : check c = 0
  · have := ready_len c n; have := check_le6 hc; omega
  · have : (check c != 0) = true := by simpa using hc
    unfold ready; rw [this]; exact Nat.zero_le _
theorem few_next (c : Chain) (k : Command) : fewC (nextL c k).1 := by
  unfold nextL
  cases k.epoch != c.epoch
  · cases k.kind == 1
    · cases k.kind == 5
      · cases k.kind == 2
        · cases k.kind == 3
          · exact few_ready _ _
          · exact few_again _ _
        · exact few_join _ _
      · exact few_dropSite _ _
    · exact few_drop _ _
  · exact few0
end Go.Proofs.Ytaffaalpgpepeaa
/- The ledger: a command done. No conditions. -/
namespace Go.Proofs.Ytaffaalpgpepeaa
open Go.Am
def lApply (l : Ledger) (index : Int) (data : (Sl Int)) : Ledger × Int :=
  (bif (lDead l) then (l, 6) else (bif (decide (index > 1099511627776)) then (l, 90) else (bif (decide (index < 1)) then (l, 90) else (bif ((IntKind.i64.wrap (index - 1)) != l.at_) then (l, 90) else (bif ((data.D.length : Int) == 0) then ((Ledger.mk l.past l.chain index), 0) else (bif ((cmdGet data).2 != 0) then ((Ledger.mk l.past l.chain index), (cmdGet data).2) else (bif ((nextL l.chain (cmdGet data).1).2 != 0) then ((Ledger.mk l.past l.chain index), (nextL l.chain (cmdGet data).1).2) else (bif (decide ((nextL l.chain (cmdGet data).1).1.epoch > l.chain.epoch)) then ((Ledger.mk (Past.mk (Sl.mk false (l.past.all.D ++ [(copied (nextL l.chain (cmdGet data).1).1)]))) (nextL l.chain (cmdGet data).1).1 index), 0) else ((Ledger.mk l.past (nextL l.chain (cmdGet data).1).1 index), 0)))))))))
theorem lApply_calls (l : Ledger) (index : Int) (data : (Sl Int)) (hn : l.chain.members.nil = true → l.chain.members.D = []) (hl1 : data.D.length ≤ 1000000) (hl2 : l.chain.members.D.length ≤ 1000000) (hl3 : l.past.all.D.length ≤ 1000000) : MCalls Try.prog 32 [.ptr 0 0, .pv (.lit (.int .i64 index)), sS (some data.nil) (eI .u8) data.D] (.cells [sS (some l.past.all.nil) eChain l.past.all.D, .pv (.lit (.int .i64 l.chain.epoch)), sS (some l.chain.members.nil) eMember l.chain.members.D, .pv (.lit (.int .i64 l.at_))]) (.pv (.lit (.int .i64 ((lApply l index data).2)))) (.cells [sS (some (lApply l index data).1.past.all.nil) eChain ((lApply l index data).1.past.all.D), .pv (.lit (.int .i64 ((lApply l index data).1.chain.epoch))), sS (some (lApply l index data).1.chain.members.nil) eMember ((lApply l index data).1.chain.members.D), .pv (.lit (.int .i64 ((lApply l index data).1.at_)))]) := by
 generalize hR : lApply l index data = R
 refine MCalls.of_body tabOk Try.func32 rfl rfl rfl rfl rfl rfl rfl mixed fun E hP C hI => ?_
 refine Awp.consP C ?_
 refine rvP C (.pv (.lit (.int .i64 0))) ?_
 refine rvc_nil ?_
 refine Awp.seq ?_
 refine Awp.block ?_
 refine Awp.cons C (fun _ => .writer) (by kernel_rfl) ?_
 refine rvP C (.ptr 0 0) ?_
 refine rvc_un (rexec_callM hP C (b := 0) rfl rfl rfl (lDead_calls l) rfl rfl ?_)
 refine rvP C (.pv (.lit (.bool (lDead l)))) ?_
 refine rvc_nil ?_
 refine Awp.cond (b := (lDead l)) rfl (fun h1 => ?_) (fun h1 => ?_)
 ·
  replace hR := of_true h1 hR
  refine Awp.consP C ?_
  refine rvP C (.pv (.lit (.int .i64 6))) ?_
  refine rvc_nil ?_
  refine Awp.ret ?_
  subst hR
  exact ⟨.inl rfl, rfl, rfl⟩
 ·
  replace hR := of_false h1 hR
  refine Awp.consP C ?_
  refine rvP C (.pv (.lit (.int .i64 index))) ?_
  refine rvP C (.pv (.lit (.bool (decide (index > 1099511627776))))) ?_
  refine rvP C (.pv (.lit (.bool (decide (index > 1099511627776))))) ?_
  refine rvc_case 16 (decide (index > 1099511627776)) rfl (fun h2 => ?_) (fun h2 => ?_)
  ·
   replace hR := of_true h2 hR
   refine rvS ?_
   refine rvS ?_
   refine rvP C (.pv (.lit (.bool true))) ?_
   refine rvP C (.pv (.lit (.bool true))) ?_
   refine rvS ?_
   refine rvS ?_
   refine rvS ?_
   refine rvS ?_
   refine rvS ?_
   refine rvS ?_
   refine rvS ?_
   refine rvP C (.pv (.lit (.bool true))) ?_
   refine rvP C (.pv (.lit (.bool true))) ?_
   refine rvc_nil ?_
   refine Awp.condT (b := true) rfl rfl ?_
   refine Awp.consP C ?_
   refine rvP C (.pv (.lit (.int .i64 90))) ?_
   refine rvc_nil ?_
   refine Awp.ret ?_
   subst hR
   exact ⟨.inl rfl, rfl, rfl⟩
  ·
   replace hR := of_false h2 hR
   refine rvO C (.pv (.lit (.int .i64 index))) ?_
   refine rvO C (.pv (.lit (.bool (decide (index < 1))))) ?_
   refine rvP C (.pv (.lit (.bool (decide (index < 1))))) ?_
   refine rvP C (.pv (.lit (.bool (decide (index < 1))))) ?_
   refine rvc_case 20 (decide (index < 1)) rfl (fun h3 => ?_) (fun h3 => ?_)
   ·
    replace hR := of_true h3 hR
    refine rvS ?_
    refine rvS ?_
    refine rvS ?_
    refine rvS ?_
    refine rvS ?_
    refine rvS ?_
    refine rvS ?_
    refine rvP C (.pv (.lit (.bool true))) ?_
    refine rvP C (.pv (.lit (.bool true))) ?_
    refine rvc_nil ?_
    refine Awp.condT (b := true) rfl rfl ?_
    refine Awp.consP C ?_
    refine rvP C (.pv (.lit (.int .i64 90))) ?_
    refine rvc_nil ?_
    refine Awp.ret ?_
    subst hR
    exact ⟨.inl rfl, rfl, rfl⟩
   ·
    replace hR := of_false h3 hR
    refine rvO C (.pv (.lit (.int .i64 index))) ?_
    refine rvO C (.pv (.lit (.int .i64 (IntKind.i64.wrap (index - 1))))) ?_
    refine rvO C (.ptr 0 0) ?_
    refine rvO C (.ptr 0 0) ?_
    refine rvO C (.ptr 0 3) ?_
    refine rvO C (.pv (.lit (.int .i64 l.at_))) ?_
    refine rvO C (.pv (.lit (.bool ((IntKind.i64.wrap (index - 1)) != l.at_)))) ?_
    refine rvP C (.pv (.lit (.bool ((IntKind.i64.wrap (index - 1)) != l.at_)))) ?_
    refine rvP C (.pv (.lit (.bool ((IntKind.i64.wrap (index - 1)) != l.at_)))) ?_
    refine rvc_nil ?_
    refine Awp.cond (b := ((IntKind.i64.wrap (index - 1)) != l.at_)) rfl (fun h4 => ?_) (fun h4 => ?_)
    ·
     replace hR := of_true h4 hR
     refine Awp.consP C ?_
     refine rvP C (.pv (.lit (.int .i64 90))) ?_
     refine rvc_nil ?_
     refine Awp.ret ?_
     subst hR
     exact ⟨.inl rfl, rfl, rfl⟩
    ·
     replace hR := of_false h4 hR
     refine Awp.skip ?_
     refine Awp.consP C ?_
     refine rvP C (.ptr 0 0) ?_
     refine rvP C (.pv (.lit (.int .i64 index))) ?_
     refine rvP C (.ptr 0 0) ?_
     refine rvP C (.ptr 0 3) ?_
     refine rvc_un (rexec_prim C (δ := { v := .undef, wr := [(0, some (.cells [sS (some l.past.all.nil) eChain l.past.all.D, .pv (.lit (.int .i64 l.chain.epoch)), sS (some l.chain.members.nil) eMember l.chain.members.D, .pv (.lit (.int .i64 index))]))] }) rfl rfl rfl rfl trivial rfl ?_)
     refine rvc_nil ?_
     refine Awp.seq ?_
     refine Awp.consP C ?_
     refine rvP C (sS (some data.nil) (eI .u8) data.D) ?_
     refine rvP C (.pv (.lit (.int .i64 (data.D.length : Int)))) ?_
     refine rvP C (.pv (.lit (.bool ((data.D.length : Int) == 0)))) ?_
     refine rvc_nil ?_
     refine Awp.cond (b := ((data.D.length : Int) == 0)) rfl (fun h5 => ?_) (fun h5 => ?_)
     ·
      replace hR := of_true h5 hR
      refine Awp.consP C ?_
      refine rvP C (.pv (.lit (.int .i64 0))) ?_
      refine rvc_nil ?_
      refine Awp.ret ?_
      subst hR
      exact ⟨.inl rfl, rfl, rfl⟩
     ·
      replace hR := of_false h5 hR
      refine Awp.skip ?_
      refine Awp.consP C ?_
      refine rvP C (sS (some data.nil) (eI .u8) data.D) ?_
      obtain ⟨gt, hq_gt⟩ : ∃ q_, q_ = (cmdGet data) := ⟨_, rfl⟩
      have hc_gt := (cmdGet_calls data hl1)
      first | rw [← hq_gt] at hR hc_gt | (unfold lApply at hR; rw [← hq_gt] at hR hc_gt)
      refine rvc_un (rexec_call hP C rfl rfl rfl hc_gt ?_)
      refine rvP C (.tup [.agg [.pv (.lit (.int .i64 gt.1.kind)), .pv (.lit (.int .i64 gt.1.node)), .pv (.lit (.int .i64 gt.1.site)), .pv (.lit (.int .i64 gt.1.epoch))], .pv (.lit (.int .i64 gt.2))]) ?_
      refine rvP C (.agg [.pv (.lit (.int .i64 gt.1.kind)), .pv (.lit (.int .i64 gt.1.node)), .pv (.lit (.int .i64 gt.1.site)), .pv (.lit (.int .i64 gt.1.epoch))]) ?_
      refine rvP C (.pv (.lit (.int .i64 gt.2))) ?_
      refine rvc_un (rexec_prim C (δ := { v := .ptr 7 0, new := [(7, .cells [.pv (.lit (.int .i64 0)), .pv (.lit (.int .i64 0)), .pv (.lit (.int .i64 0)), .pv (.lit (.int .i64 0))])] }) rfl rfl rfl rfl trivial rfl ?_)
      refine rvc_un (rexec_prim C (δ := { v := .undef, wr := [(7, some (.cells [.pv (.lit (.int .i64 gt.1.kind)), .pv (.lit (.int .i64 gt.1.node)), .pv (.lit (.int .i64 gt.1.site)), .pv (.lit (.int .i64 gt.1.epoch))]))] }) rfl rfl rfl rfl trivial rfl ?_)
      refine rvP C (.pv (.lit (.int .i64 gt.2))) ?_
      refine rvc_nil ?_
      refine Awp.seq ?_
      refine Awp.consP C ?_
      refine rvP C (.pv (.lit (.int .i64 gt.2))) ?_
      refine rvP C (.pv (.lit (.bool (gt.2 != 0)))) ?_
      refine rvc_nil ?_
      refine Awp.cond (b := (gt.2 != 0)) rfl (fun h6 => ?_) (fun h6 => ?_)
      ·
       replace hR := of_true h6 hR
       refine Awp.consP C ?_
       refine rvP C (.pv (.lit (.int .i64 gt.2))) ?_
       refine rvP C (.pv (.lit (.int .i64 gt.2))) ?_
       refine rvc_nil ?_
       refine Awp.ret ?_
       subst hR
       exact ⟨.inl rfl, rfl, rfl⟩
      ·
       replace hR := of_false h6 hR
       refine Awp.skip ?_
       refine Awp.consP C ?_
       refine rvP C (.ptr 0 0) ?_
       refine rvP C (.ptr 0 0) ?_
       refine rvP C (.ptr 0 1) ?_
       refine rvP C (.agg [.pv (.lit (.int .i64 l.chain.epoch)), sS (some l.chain.members.nil) eMember l.chain.members.D]) ?_
       refine rvP C (.agg [.pv (.lit (.int .i64 gt.1.kind)), .pv (.lit (.int .i64 gt.1.node)), .pv (.lit (.int .i64 gt.1.site)), .pv (.lit (.int .i64 gt.1.epoch))]) ?_
       obtain ⟨nx, hq_nx⟩ : ∃ q_, q_ = (nextL l.chain gt.1) := ⟨_, rfl⟩
       have hc_nx := (nextL_calls l.chain gt.1 hn hl2)
       first | rw [← hq_nx] at hR hc_nx | (unfold lApply at hR; rw [← hq_nx] at hR hc_nx)
       have hf0_nx := few_next l.chain gt.1
       rw [← hq_nx] at hf0_nx
       refine rvc_un (rexec_call hP C rfl rfl rfl hc_nx ?_)
       refine rvP C (.tup [.agg [.pv (.lit (.int .i64 nx.1.epoch)), sS (some nx.1.members.nil) eMember nx.1.members.D], .pv (.lit (.int .i64 nx.2))]) ?_
       refine rvP C (.agg [.pv (.lit (.int .i64 nx.1.epoch)), sS (some nx.1.members.nil) eMember nx.1.members.D]) ?_
       refine rvP C (.pv (.lit (.int .i64 nx.2))) ?_
       refine rvc_un (rexec_prim C (δ := { v := .ptr 9 0, new := [(9, .cells [.pv (.lit (.int .i64 0)), sS (some true) eMember []])] }) rfl rfl rfl rfl trivial rfl ?_)
       refine rvc_un (rexec_prim C (δ := { v := .undef, wr := [(9, some (.cells [.pv (.lit (.int .i64 nx.1.epoch)), sS (some nx.1.members.nil) eMember nx.1.members.D]))] }) rfl rfl rfl rfl trivial rfl ?_)
       refine rvP C (.pv (.lit (.int .i64 nx.2))) ?_
       refine rvc_nil ?_
       refine Awp.seq ?_
       refine Awp.consP C ?_
       refine rvP C (.pv (.lit (.int .i64 nx.2))) ?_
       refine rvP C (.pv (.lit (.bool (nx.2 != 0)))) ?_
       refine rvc_nil ?_
       refine Awp.cond (b := (nx.2 != 0)) rfl (fun h7 => ?_) (fun h7 => ?_)
       ·
        replace hR := of_true h7 hR
        refine Awp.consP C ?_
        refine rvP C (.pv (.lit (.int .i64 nx.2))) ?_
        refine rvP C (.pv (.lit (.int .i64 nx.2))) ?_
        refine rvc_nil ?_
        refine Awp.ret ?_
        subst hR
        exact ⟨.inl rfl, rfl, rfl⟩
       ·
        replace hR := of_false h7 hR
        refine Awp.skip ?_
        refine Awp.seq ?_
        refine Awp.consP C ?_
        refine rvP C (.ptr 9 0) ?_
        refine rvP C (.pv (.lit (.int .i64 nx.1.epoch))) ?_
        refine rvP C (.ptr 0 0) ?_
        refine rvP C (.ptr 0 0) ?_
        refine rvP C (.ptr 0 1) ?_
        refine rvP C (.ptr 0 1) ?_
        refine rvP C (.pv (.lit (.int .i64 l.chain.epoch))) ?_
        refine rvP C (.pv (.lit (.bool (decide (nx.1.epoch > l.chain.epoch))))) ?_
        refine rvc_nil ?_
        refine Awp.cond (b := (decide (nx.1.epoch > l.chain.epoch))) rfl (fun h8 => ?_) (fun h8 => ?_)
        ·
         replace hR := of_true h8 hR
         refine Awp.regionP C ?_
         refine rvP C (.ptr 0 0) ?_
         refine rvP C (.ptr 0 0) ?_
         refine rvP C (.ptr 0 0) ?_
         refine rvP C (.ptr 0 0) ?_
         refine rvP C (.ptr 0 0) ?_
         refine rvP C (sS (some l.past.all.nil) eChain l.past.all.D) ?_
         refine rvP C (.ptr 0 0) ?_
         refine rvP C (.ptr 0 0) ?_
         refine rvP C (.ptr 0 0) ?_
         refine rvP C (.ptr 0 0) ?_
         refine rvP C (sS (some l.past.all.nil) eChain l.past.all.D) ?_
         refine rvP C (.pv (.lit (.int .i64 (l.past.all.D.length : Int)))) ?_
         refine rvP C (.ptr 0 0) ?_
         refine rvP C (.ptr 0 0) ?_
         refine rvP C (.ptr 0 0) ?_
         refine rvP C (.ptr 0 0) ?_
         refine rvP C (sS (some l.past.all.nil) eChain l.past.all.D) ?_
         refine rvP C (.pv (.lit (.int .i64 (l.past.all.D.length : Int)))) ?_
         refine rvc_un (rexec_slice3 C (e := eChain) (D := l.past.all.D) rfl rfl rfl rfl rfl rfl ?_)
         refine rvP C (.agg [.pv (.lit (.int .i64 nx.1.epoch)), sS (some nx.1.members.nil) eMember nx.1.members.D]) ?_
         refine rvc_un (rexec_call hP C rfl rfl rfl (copied_calls nx.1 (Nat.le_trans hf0_nx.2 (by decide))) ?_)
         refine rvc_un (rexec_buildSliceF C eChain [(copied nx.1)] rfl rfl rfl rfl rfl rfl rfl (by decide) rfl ?_)
         refine rvc_un (rexec_appendT C rfl rfl rfl rfl rfl rfl rfl rfl (fun _ h => by cases h) rfl (en := eChain) (D0 := l.past.all.D) (D := [(copied nx.1)]) rfl rfl (by simp) (by have := wrapI (index - 1); have := of_decide_eq_false h2; have := of_decide_eq_false h3; have := eq_of_bne_false h4; have := ne_of_beq_false h5; have := eq_of_bne_false h6; have := eq_of_bne_false h7; have := of_decide_eq_true h8; first | omega | (simp <;> omega)) (by decide) (nn := (l.past.all.D ++ [(copied nx.1)]).length) (by simp) ?_)
         refine rvP C (.ptr 0 0) ?_
         refine rvP C (.ptr 0 0) ?_
         refine rvP C (.ptr 0 0) ?_
         refine rvc_un (rexec_prim C (δ := { v := .undef, wr := [(0, some (.cells [.sl 86 0 ((l.past.all.D ++ [(copied nx.1)]).length) 2 false, .pv (.lit (.int .i64 l.chain.epoch)), sS (some l.chain.members.nil) eMember l.chain.members.D, .pv (.lit (.int .i64 index))]))] }) rfl rfl rfl rfl trivial rfl ?_)
         refine rvc_nil ?_
         refine Awp.consP C ?_
         refine rvP C (.ptr 0 0) ?_
         refine rvP C (.agg [.pv (.lit (.int .i64 nx.1.epoch)), sS (some nx.1.members.nil) eMember nx.1.members.D]) ?_
         refine rvP C (.ptr 0 0) ?_
         refine rvP C (.ptr 0 1) ?_
         refine rvc_un (rexec_prim C (δ := { v := .undef, wr := [(0, some (.cells [.sl 86 0 ((l.past.all.D ++ [(copied nx.1)]).length) 2 false, .pv (.lit (.int .i64 nx.1.epoch)), sS (some nx.1.members.nil) eMember nx.1.members.D, .pv (.lit (.int .i64 index))]))] }) rfl rfl rfl rfl trivial rfl ?_)
         refine rvc_nil ?_
         refine Awp.consP C ?_
         refine rvP C (.pv (.lit (.int .i64 0))) ?_
         refine rvc_nil ?_
         refine Awp.freezeW 86 (encL eChain (l.past.all.D ++ [(copied nx.1)])) ?_ [(6, .pv (.lit (.int .i64 0)))] [(0, .cells [sS (some false) eChain (l.past.all.D ++ [(copied nx.1)]), .pv (.lit (.int .i64 nx.1.epoch)), sS (some nx.1.members.nil) eMember nx.1.members.D, .pv (.lit (.int .i64 index))]), (7, .cells [.pv (.lit (.int .i64 gt.1.kind)), .pv (.lit (.int .i64 gt.1.node)), .pv (.lit (.int .i64 gt.1.site)), .pv (.lit (.int .i64 gt.1.epoch))]), (9, .cells [.pv (.lit (.int .i64 nx.1.epoch)), sS (some nx.1.members.nil) eMember nx.1.members.D])] ?_ ?_ ?_
         · rfl
         · exact ⟨⟨_, rfl, .inl (.inl rfl)⟩, trivial⟩
         · exact ⟨⟨(by show (0 : Nat) ≠ 86; decide), .inr ⟨_, _, rfl, rfl, ⟨.inr ⟨_, _, _, rfl, rfl⟩, .inl rfl, .inl rfl, .inl rfl, trivial⟩⟩⟩, ⟨(by show (7 : Nat) ≠ 86; decide), .inl rfl⟩, ⟨(by show (9 : Nat) ≠ 86; decide), .inl rfl⟩, trivial⟩
         refine Awp.ret ?_
         subst hR
         exact ⟨.inl rfl, rfl, rfl⟩
        ·
         replace hR := of_false h8 hR
         refine Awp.skip ?_
         refine Awp.consP C ?_
         refine rvP C (.ptr 0 0) ?_
         refine rvP C (.agg [.pv (.lit (.int .i64 nx.1.epoch)), sS (some nx.1.members.nil) eMember nx.1.members.D]) ?_
         refine rvP C (.ptr 0 0) ?_
         refine rvP C (.ptr 0 1) ?_
         refine rvc_un (rexec_prim C (δ := { v := .undef, wr := [(0, some (.cells [sS (some l.past.all.nil) eChain l.past.all.D, .pv (.lit (.int .i64 nx.1.epoch)), sS (some nx.1.members.nil) eMember nx.1.members.D, .pv (.lit (.int .i64 index))]))] }) rfl rfl rfl rfl trivial rfl ?_)
         refine rvc_nil ?_
         refine Awp.consP C ?_
         refine rvP C (.pv (.lit (.int .i64 0))) ?_
         refine rvc_nil ?_
         refine Awp.ret ?_
         subst hR
         exact ⟨.inl rfl, rfl, rfl⟩
end Go.Proofs.Ytaffaalpgpepeaa
/- Ledgers made. No conditions. -/
namespace Go.Proofs.Ytaffaalpgpepeaa
open Go.Am
def newL (l : (Sl Member)) : Ledger × Int :=
  ((Ledger.mk (Past.mk (Sl.mk false [(firstC l).1])) ((firstC l).1) 0), 0)
theorem newL_calls (l : (Sl Member)) (h0 : (((firstC l).2) != 0) = false) (hl1 : l.D.length ≤ 1000000) : OCalls Try.prog 29 [sS (some l.nil) eMember l.D] (.tup [.ptr 0 0, .pv (.lit (.int .i64 ((newL l).2)))]) (.cells [sS (some (newL l).1.past.all.nil) eChain ((newL l).1.past.all.D), .pv (.lit (.int .i64 ((newL l).1.chain.epoch))), sS (some (newL l).1.chain.members.nil) eMember ((newL l).1.chain.members.D), .pv (.lit (.int .i64 ((newL l).1.at_)))]) := by
 generalize hR : newL l = R
 refine OCalls.of_body tabOk Try.func29 rfl rfl rfl rfl rfl rfl mixed fun E hP C hI => ?_
 refine Awp.consP C ?_
 refine rvP C (.pv (.lit (.pointer none))) ?_
 refine rvP C (.pv (.lit (.int .i64 0))) ?_
 refine rvc_nil ?_
 refine Awp.consP C ?_
 refine rvP C (sS (some l.nil) eMember l.D) ?_
 refine rvc_un (rexec_call hP C rfl rfl rfl (firstC_calls l hl1) ?_)
 refine rvP C (.tup [.agg [.pv (.lit (.int .i64 ((firstC l).1.epoch))), sS (some (firstC l).1.members.nil) eMember ((firstC l).1.members.D)], .pv (.lit (.int .i64 ((firstC l).2)))]) ?_
 refine rvP C (.agg [.pv (.lit (.int .i64 ((firstC l).1.epoch))), sS (some (firstC l).1.members.nil) eMember ((firstC l).1.members.D)]) ?_
 refine rvP C (.pv (.lit (.int .i64 ((firstC l).2)))) ?_
 refine rvc_un (rexec_prim C (δ := { v := .ptr 4 0, new := [(4, .cells [.pv (.lit (.int .i64 0)), sS (some true) eMember []])] }) rfl rfl rfl rfl trivial rfl ?_)
 refine rvc_un (rexec_prim C (δ := { v := .undef, wr := [(4, some (.cells [.pv (.lit (.int .i64 ((firstC l).1.epoch))), sS (some (firstC l).1.members.nil) eMember ((firstC l).1.members.D)]))] }) rfl rfl rfl rfl trivial rfl ?_)
 refine rvP C (.pv (.lit (.int .i64 ((firstC l).2)))) ?_
 refine rvc_nil ?_
 refine Awp.seq ?_
 refine Awp.consP C ?_
 refine rvP C (.pv (.lit (.int .i64 ((firstC l).2)))) ?_
 refine rvP C (.pv (.lit (.bool (((firstC l).2) != 0)))) ?_
 refine rvc_nil ?_
 refine Awp.condF (b := (((firstC l).2) != 0)) rfl h0 ?_
 refine Awp.skip ?_
 refine Awp.consP C ?_
 refine rvP C (.agg [.pv (.lit (.int .i64 ((firstC l).1.epoch))), sS (some (firstC l).1.members.nil) eMember ((firstC l).1.members.D)]) ?_
 refine rvc_un (rexec_buildSliceF C eChain [(firstC l).1] rfl rfl rfl rfl rfl rfl rfl (by decide) rfl ?_)
 refine rvP C (.agg [sS (some false) eChain [(firstC l).1]]) ?_
 refine rvP C (.agg [.pv (.lit (.int .i64 ((firstC l).1.epoch))), sS (some (firstC l).1.members.nil) eMember ((firstC l).1.members.D)]) ?_
 refine rvP C (.agg [sS (some false) eChain [(firstC l).1], .pv (.lit (.int .i64 ((firstC l).1.epoch))), sS (some (firstC l).1.members.nil) eMember ((firstC l).1.members.D), .pv (.lit (.int .i64 0))]) ?_
 refine rvc_un (rexec_prim C (δ := { v := .ptr 19 0, new := [(19, .cells [sS (some false) eChain [(firstC l).1], .pv (.lit (.int .i64 ((firstC l).1.epoch))), sS (some (firstC l).1.members.nil) eMember ((firstC l).1.members.D), .pv (.lit (.int .i64 0))])] }) rfl rfl rfl rfl trivial rfl ?_)
 refine rvP C (.ptr 19 0) ?_
 refine rvP C (.pv (.lit (.int .i64 0))) ?_
 refine rvc_nil ?_
 refine Awp.weakenR (S := [(2, .ptr 0 0), (3, .pv (.lit (.int .i64 0)))]) (H := [(0, .cells [sS (some false) eChain [(firstC l).1], .pv (.lit (.int .i64 ((firstC l).1.epoch))), sS (some (firstC l).1.members.nil) eMember ((firstC l).1.members.D), .pv (.lit (.int .i64 0))])]) (U := [0]) (fun x => bif x == 0 then 19 else x) (WeakerR.ofL (Ks := [0]) hI ⟨⟨rfl, rfl⟩, ⟨rfl, rfl⟩, trivial⟩ (okH_cons rfl rfl rfl rfl okH_nil) rfl) ?_
 refine Awp.ret ?_
 subst hR
 exact ⟨.inl rfl, rfl, rfl⟩
def newNil (l : (Sl Member)) : Unit × Int :=
  ((), (firstC l).2)
theorem newNil_calls (l : (Sl Member)) (h0 : (((firstC l).2) != 0) = true) (hl1 : l.D.length ≤ 1000000) : PCalls Try.prog 29 [sS (some l.nil) eMember l.D] (.tup [.pv (.lit (.pointer none)), .pv (.lit (.int .i64 ((newNil l).2)))]) := by
 generalize hR : newNil l = R
 refine PCalls.of_body tabOk Try.func29 rfl rfl rfl rfl rfl mixed fun E hP C hI => ?_
 refine Awp.consP C ?_
 refine rvP C (.pv (.lit (.pointer none))) ?_
 refine rvP C (.pv (.lit (.int .i64 0))) ?_
 refine rvc_nil ?_
 refine Awp.consP C ?_
 refine rvP C (sS (some l.nil) eMember l.D) ?_
 refine rvc_un (rexec_call hP C rfl rfl rfl (firstC_calls l hl1) ?_)
 refine rvP C (.tup [.agg [.pv (.lit (.int .i64 ((firstC l).1.epoch))), sS (some (firstC l).1.members.nil) eMember ((firstC l).1.members.D)], .pv (.lit (.int .i64 ((firstC l).2)))]) ?_
 refine rvP C (.agg [.pv (.lit (.int .i64 ((firstC l).1.epoch))), sS (some (firstC l).1.members.nil) eMember ((firstC l).1.members.D)]) ?_
 refine rvP C (.pv (.lit (.int .i64 ((firstC l).2)))) ?_
 refine rvc_un (rexec_prim C (δ := { v := .ptr 4 0, new := [(4, .cells [.pv (.lit (.int .i64 0)), sS (some true) eMember []])] }) rfl rfl rfl rfl trivial rfl ?_)
 refine rvc_un (rexec_prim C (δ := { v := .undef, wr := [(4, some (.cells [.pv (.lit (.int .i64 ((firstC l).1.epoch))), sS (some (firstC l).1.members.nil) eMember ((firstC l).1.members.D)]))] }) rfl rfl rfl rfl trivial rfl ?_)
 refine rvP C (.pv (.lit (.int .i64 ((firstC l).2)))) ?_
 refine rvc_nil ?_
 refine Awp.seq ?_
 refine Awp.consP C ?_
 refine rvP C (.pv (.lit (.int .i64 ((firstC l).2)))) ?_
 refine rvP C (.pv (.lit (.bool (((firstC l).2) != 0)))) ?_
 refine rvc_nil ?_
 refine Awp.condT (b := (((firstC l).2) != 0)) rfl h0 ?_
 refine Awp.consP C ?_
 refine rvP C (.pv (.lit (.int .i64 ((firstC l).2)))) ?_
 refine rvP C (.pv (.lit (.pointer none))) ?_
 refine rvP C (.pv (.lit (.int .i64 ((firstC l).2)))) ?_
 refine rvc_nil ?_
 refine Awp.ret ?_
 subst hR
 exact ⟨.inl rfl, rfl⟩
end Go.Proofs.Ytaffaalpgpepeaa
/- The members of the first chain. No conditions. -/
namespace Go.Proofs.Ytaffaalpgpepeaa
open Go.Am
def tMembers (first : (Sl Member)) : (Sl Member) :=
  (firstC first).1.members
theorem tMembers_calls (first : (Sl Member)) (hl1 : first.D.length ≤ 1000000) : PCalls Try.prog 34 [sS (some first.nil) eMember first.D] (sS (some (tMembers first).nil) eMember ((tMembers first).D)) := by
 generalize hR : tMembers first = R
 refine PCalls.of_body tabOk Try.func34 rfl rfl rfl rfl rfl mixed fun E hP C hI => ?_
 refine Awp.consP C ?_
 refine rvP C (sS (some true) eMember []) ?_
 refine rvc_nil ?_
 refine Awp.consP C ?_
 refine rvP C (sS (some first.nil) eMember first.D) ?_
 refine rvc_un (rexec_call hP C rfl rfl rfl (firstC_calls first hl1) ?_)
 refine rvP C (.tup [.agg [.pv (.lit (.int .i64 ((firstC first).1.epoch))), sS (some (firstC first).1.members.nil) eMember ((firstC first).1.members.D)], .pv (.lit (.int .i64 ((firstC first).2)))]) ?_
 refine rvP C (.agg [.pv (.lit (.int .i64 ((firstC first).1.epoch))), sS (some (firstC first).1.members.nil) eMember ((firstC first).1.members.D)]) ?_
 refine rvP C (.pv (.lit (.int .i64 ((firstC first).2)))) ?_
 refine rvc_un (rexec_prim C (δ := { v := .ptr 3 0, new := [(3, .cells [.pv (.lit (.int .i64 0)), sS (some true) eMember []])] }) rfl rfl rfl rfl trivial rfl ?_)
 refine rvc_un (rexec_prim C (δ := { v := .undef, wr := [(3, some (.cells [.pv (.lit (.int .i64 ((firstC first).1.epoch))), sS (some (firstC first).1.members.nil) eMember ((firstC first).1.members.D)]))] }) rfl rfl rfl rfl trivial rfl ?_)
 refine rvP C (.pv (.lit (.int .i64 ((firstC first).2)))) ?_
 refine rvc_nil ?_
 refine Awp.consP C ?_
 refine rvP C (.ptr 3 1) ?_
 refine rvP C (sS (some (firstC first).1.members.nil) eMember ((firstC first).1.members.D)) ?_
 refine rvP C (sS (some (firstC first).1.members.nil) eMember ((firstC first).1.members.D)) ?_
 refine rvc_nil ?_
 refine Awp.ret ?_
 subst hR
 exact ⟨.inl rfl, rfl⟩
end Go.Proofs.Ytaffaalpgpepeaa
/- Whether two lists of numbers are the same. No conditions. -/
namespace Go.Proofs.Ytaffaalpgpepeaa
open Go.Am
def eqInts_l0 (s2 : (Sl Int)) : List Int → Nat → Bool
  | [], _ => true
  | x :: xs, i => (bif (x != (s2.D[(i : Int).toNat]!)) then false else eqInts_l0 s2 xs (i + 1) )
def eqInts (s1 : (Sl Int)) (s2 : (Sl Int)) : Bool :=
  (bif ((s1.D.length : Int) != (s2.D.length : Int)) then false else eqInts_l0 s2 s1.D 0 )
theorem eqInts_calls (s1 : (Sl Int)) (s2 : (Sl Int)) (hl1 : s1.D.length ≤ 1000000) : PCalls Try.prog 35 [sS (some s1.nil) (eI .i64) s1.D, sS (some s2.nil) (eI .i64) s2.D] (.pv (.lit (.bool (eqInts s1 s2)))) := by
 generalize hR : eqInts s1 s2 = R
 refine PCalls.of_body tabOk Try.func35 rfl rfl rfl rfl rfl mixed fun E hP C hI => ?_
 refine Awp.consP C ?_
 refine rvP C (.pv (.lit (.bool false))) ?_
 refine rvc_nil ?_
 refine Awp.seq ?_
 refine Awp.consP C ?_
 refine rvP C (sS (some s1.nil) (eI .i64) s1.D) ?_
 refine rvP C (.pv (.lit (.int .i64 (s1.D.length : Int)))) ?_
 refine rvP C (sS (some s2.nil) (eI .i64) s2.D) ?_
 refine rvP C (.pv (.lit (.int .i64 (s2.D.length : Int)))) ?_
 refine rvP C (.pv (.lit (.bool ((s1.D.length : Int) != (s2.D.length : Int))))) ?_
 refine rvc_nil ?_
 refine Awp.cond (b := ((s1.D.length : Int) != (s2.D.length : Int))) rfl (fun h1 => ?_) (fun h1 => ?_)
 ·
  replace hR := of_true h1 hR
  refine Awp.consP C ?_
  refine rvP C (.pv (.lit (.bool false))) ?_
  refine rvc_nil ?_
  refine Awp.ret ?_
  subst hR
  exact ⟨.inl rfl, rfl⟩
 ·
  replace hR := of_false h1 hR
  refine Awp.skip ?_
  refine Awp.seq ?_
  refine Awp.consP C ?_
  refine rvP C (sS (some s1.nil) (eI .i64) s1.D) ?_
  refine rvP C (.pv (.lit (.int .i64 (s1.D.length : Int)))) ?_
  refine rvP C (.pv (.lit (.int .i64 0))) ?_
  refine rvc_nil ?_
  refine Awp.block ?_
  refine Awp.forR (σ := Unit) (s1.D.length) (fun i _v => [(0, sS (some s1.nil) (eI .i64) s1.D), (1, sS (some s2.nil) (eI .i64) s2.D), (12, .pv (.lit (.int .i64 (s1.D.length : Int)))), (13, .pv (.lit (.int .i64 (i : Int))))]) (fun i _v => []) [] (fun i _v => eqInts_l0 s2 (s1.D.drop i) i  = R) () ?_ ?_ (fun i _v h2 hR => ?_)
  · exact hR
  · exact ⟨fun b => b, WeakerR.ofL (Ks := []) hI ⟨⟨rfl, rfl⟩, ⟨rfl, rfl⟩, ⟨rfl, rfl⟩, ⟨rfl, rfl⟩, trivial⟩ (okH_nil) rfl⟩
  refine Awp.consP C ?_
  refine rvP C (.pv (.lit (.bool (decide ((i : Int) < (s1.D.length : Int)))))) ?_
  refine rvc_nil ?_
  refine Awp.seq ?_
  refine Awp.cond (b := (decide ((i : Int) < (s1.D.length : Int)))) rfl (fun h3 => ?_) (fun h3 => ?_)
  ·
   have h4 : i < s1.D.length := by have := of_decide_eq_true h3; omega
   obtain ⟨x, h5⟩ := getX h4
   rw [drop_at h5] at hR
   refine Awp.skip ?_
   refine Awp.seq ?_
   refine Awp.block ?_
   refine Awp.consP C ?_
   refine rvP C (.pv (.lit (.int .i64 (i : Int)))) ?_
   refine rvP C (.pv (.lit (.int .i64 (i : Int)))) ?_
   refine rvc_nil ?_
   refine Awp.consP C ?_
   refine rvP C (sS (some s1.nil) (eI .i64) s1.D) ?_
   refine rvP C (.pv (.lit (.int .i64 (i : Int)))) ?_
   refine rvc_un (rexec_idxS C rfl rfl rfl rfl rfl rfl x (Int.natCast_nonneg _) h5 ?_)
   refine rvP C (.pv (.lit (.int .i64 x))) ?_
   refine rvP C (sS (some s2.nil) (eI .i64) s2.D) ?_
   refine rvP C (.pv (.lit (.int .i64 (i : Int)))) ?_
   have h6 : s2.D[(i : Int).toNat]? = some s2.D[(i : Int).toNat]! := getE (by have := eq_of_bne_false h1; have := of_decide_eq_true h3; omega)
   refine rvc_un (rexec_idxS C rfl rfl rfl rfl rfl rfl (s2.D[(i : Int).toNat]!) (Int.natCast_nonneg _) h6 ?_)
   refine rvP C (.pv (.lit (.int .i64 (s2.D[(i : Int).toNat]!)))) ?_
   refine rvP C (.pv (.lit (.bool (x != (s2.D[(i : Int).toNat]!))))) ?_
   refine rvc_nil ?_
   refine Awp.cond (b := (x != (s2.D[(i : Int).toNat]!))) rfl (fun h7 => ?_) (fun h7 => ?_)
   ·
    replace hR := of_true h7 hR
    refine Awp.consP C ?_
    refine rvP C (.pv (.lit (.bool false))) ?_
    refine rvc_nil ?_
    refine Awp.ret ?_
    subst hR
    exact ⟨.inl rfl, rfl⟩
   ·
    replace hR := of_false h7 hR
    refine Awp.skip ?_
    refine Awp.regionP C ?_
    refine rvP C (.pv (.lit (.int .i64 (IntKind.i64.wrap ((i : Int) + 1))))) ?_
    refine rvP C (.pv (.lit (.int .i64 (IntKind.i64.wrap ((i : Int) + 1))))) ?_
    refine rvc_nil ?_
    refine ⟨h4, (), ?_, ?_⟩
    · exact hR
    · exact ⟨fun b => b, WeakerR.ofL (Ks := []) hI ⟨⟨rfl, rfl⟩, ⟨rfl, rfl⟩, ⟨rfl, rfl⟩, ⟨lit_cast (wrap_i64 (by omega) (by omega)), rfl⟩, trivial⟩ (okH_nil) rfl⟩
  ·
   have h4 : ¬ i < s1.D.length := by have := of_decide_eq_false h3; omega
   rw [drop_end h4] at hR
   refine Awp.exit ?_
   refine Awp.consP C ?_
   refine rvP C (.pv (.lit (.bool true))) ?_
   refine rvc_nil ?_
   refine Awp.ret ?_
   subst hR
   exact ⟨.inl rfl, rfl⟩
end Go.Proofs.Ytaffaalpgpepeaa
