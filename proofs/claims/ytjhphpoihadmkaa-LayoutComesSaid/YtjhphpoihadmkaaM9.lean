import Derived.Test.YtjhphpoihadmkaaM6
import Derived.Test.YtjhphpoihadmkaaM8
import Derived.Test.YtjhphpoihadmkaaM7
/- Changes, both ways. No conditions. -/
namespace Go.Proofs.Ytjhphpoihadmkaa
open Go.Am
structure Do where
  op : Int
  node : Int
  site : Int
  fresh : Bool
  deriving Inhabited
def eDo : Enc Do := ⟨4, fun x => [.lit (.int .i64 x.op), .lit (.int .i64 x.node), .lit (.int .i64 x.site), .lit (.bool x.fresh)], fun _ => rfl⟩
def dropSite_l0 (c : Chain) (site : Int) : List Member → Nat → Int → Chain × Int
  | [], _, gone => ((without c gone).1, (without c gone).2)
  | x :: xs, i, gone => (bif (x.site == site) then dropSite_l0 c site xs (i + 1) (mWith gone x.node) else dropSite_l0 c site xs (i + 1) gone)
def dropSite (c : Chain) (site : Int) : Chain × Int :=
  (bif ((check c) != 0) then ((Chain.mk 0 (Sl.mk true [])), (check c)) else dropSite_l0 c site c.members.D 0 0)
theorem dropSite_calls (c : Chain) (site : Int) (hl1 : c.members.D.length ≤ 1000000) : PCalls Try.prog 42 [.agg [.pv (.lit (.int .i64 c.epoch)), sS (some c.members.nil) eMember c.members.D], .pv (.lit (.int .i64 site))] (.tup [.agg [.pv (.lit (.int .i64 ((dropSite c site).1.epoch))), sS (some (dropSite c site).1.members.nil) eMember ((dropSite c site).1.members.D)], .pv (.lit (.int .i64 ((dropSite c site).2)))]) := by
  generalize hR : dropSite c site = R
  refine PCalls.of_body tabOk Try.func42 rfl rfl rfl rfl rfl mixed fun E hP C hI => ?_
  refine Awp.cons C (fun _ => .pure) (by kernel_rfl) ?_
  refine rvc_un (rexec_prim C (δ := { v := .ptr 2 0, new := [(2, .cells [.pv (.lit (.int .i64 c.epoch)), sS (some c.members.nil) eMember c.members.D])] }) rfl rfl rfl rfl trivial rfl ?_)
  refine rvc_un (rexec_prim C (δ := { v := .ptr 4 0, new := [(4, .cells [.pv (.lit (.int .i64 0)), sS (some true) eMember []])] }) rfl rfl rfl rfl trivial rfl ?_)
  refine rvc_un (rexec_prim C (δ := { v := .pv (.lit (.int .i64 0)) }) rfl rfl rfl rfl trivial rfl ?_)
  refine rvc_nil ?_
  refine Awp.seq ?_
  refine Awp.cons C (fun _ => .pure) (by kernel_rfl) ?_
  refine rvc_un (rexec_prim C (δ := { v := .agg [.pv (.lit (.int .i64 c.epoch)), sS (some c.members.nil) eMember c.members.D] }) rfl rfl rfl rfl trivial rfl ?_)
  refine rvc_un (rexec_call hP C rfl rfl rfl (check_calls c (Nat.le_trans hl1 (by decide))) ?_)
  refine rvc_un (rexec_prim C (δ := { v := .pv (.lit (.int .i64 (check c))) }) rfl rfl rfl rfl trivial rfl ?_)
  refine rvc_nil ?_
  refine Awp.cons C (fun _ => .pure) (by kernel_rfl) ?_
  refine rvc_un (rexec_prim C (δ := { v := .pv (.lit (.int .i64 (check c))) }) rfl rfl rfl rfl trivial rfl ?_)
  refine rvc_un (rexec_prim C (δ := { v := .pv (.lit (.bool ((check c) != 0))) }) rfl rfl rfl rfl trivial rfl ?_)
  refine rvc_nil ?_
  refine Awp.cond (b := ((check c) != 0)) rfl (fun h1 => ?_) (fun h1 => ?_)
  ·
    replace hR := of_true h1 hR
    refine Awp.cons C (fun _ => .pure) (by kernel_rfl) ?_
    refine rvc_un (rexec_prim C (δ := { v := .agg [.pv (.lit (.int .i64 0)), sS (some true) eMember []] }) rfl rfl rfl rfl trivial rfl ?_)
    refine rvc_un (rexec_prim C (δ := { v := .pv (.lit (.int .i64 (check c))) }) rfl rfl rfl rfl trivial rfl ?_)
    refine rvc_un (rexec_prim C (δ := { v := .undef, wr := [(4, some (.cells [.pv (.lit (.int .i64 0)), sS (some true) eMember []]))] }) rfl rfl rfl rfl trivial rfl ?_) -- tNone store
    refine rvc_un (rexec_prim C (δ := { v := .pv (.lit (.int .i64 (check c))) }) rfl rfl rfl rfl trivial rfl ?_)
    refine rvc_nil ?_
    refine Awp.ret ?_
    subst hR
    exact ⟨.inl rfl, rfl⟩
  ·
    replace hR := of_false h1 hR
    refine Awp.skip ?_
    refine Awp.cons C (fun _ => .pure) (by kernel_rfl) ?_
    refine rvc_un (rexec_prim C (δ := { v := .pv (.lit (.int .u64 0)) }) rfl rfl rfl rfl trivial rfl ?_)
    refine rvc_nil ?_
    refine Awp.seq ?_
    refine Awp.cons C (fun _ => .pure) (by kernel_rfl) ?_
    refine rvc_un (rexec_prim C (δ := { v := .ptr 2 1 }) rfl rfl rfl rfl trivial rfl ?_)
    refine rvc_un (rexec_prim C (δ := { v := sS (some c.members.nil) eMember c.members.D }) rfl rfl rfl rfl trivial rfl ?_)
    refine rvc_un (rexec_prim C (δ := { v := .pv (.lit (.int .i64 (c.members.D.length : Int))) }) rfl rfl rfl rfl trivial rfl ?_)
    refine rvc_un (rexec_prim C (δ := { v := .pv (.lit (.int .i64 0)) }) rfl rfl rfl rfl trivial rfl ?_)
    refine rvc_nil ?_
    refine Awp.block ?_
    refine Awp.forR (σ := Int) (c.members.D.length) (fun i v => [(1, .pv (.lit (.int .i64 site))), (2, .ptr 2 0), (4, .ptr 4 0), (7, .pv (.lit (.int .u64 v))), (17, sS (some c.members.nil) eMember c.members.D), (18, .pv (.lit (.int .i64 (c.members.D.length : Int)))), (19, .pv (.lit (.int .i64 (i : Int))))]) (fun i v => [(2, .cells [.pv (.lit (.int .i64 c.epoch)), sS (some c.members.nil) eMember c.members.D]), (4, .cells [.pv (.lit (.int .i64 0)), sS (some true) eMember []])]) [2, 4] (fun i v => dropSite_l0 c site (c.members.D.drop i) i v = R) 0 ?_ ?_ (fun i gone h2 hR => ?_)
    · exact hR
    · exact ⟨fun b => b, WeakerR.ofL (Ks := [2, 4]) hI ⟨⟨rfl, rfl⟩, ⟨rfl, rfl⟩, ⟨rfl, rfl⟩, ⟨rfl, rfl⟩, ⟨rfl, rfl⟩, ⟨rfl, rfl⟩, ⟨rfl, rfl⟩, trivial⟩ (okH_cons rfl rfl rfl rfl (okH_cons rfl rfl rfl rfl (okH_nil))) rfl⟩
    refine Awp.cons C (fun _ => .pure) (by kernel_rfl) ?_
    refine rvc_un (rexec_prim C (δ := { v := .pv (.lit (.bool (decide ((i : Int) < (c.members.D.length : Int))))) }) rfl rfl rfl rfl trivial rfl ?_)
    refine rvc_nil ?_
    refine Awp.seq ?_
    refine Awp.cond (b := (decide ((i : Int) < (c.members.D.length : Int)))) rfl (fun h3 => ?_) (fun h3 => ?_)
    ·
      have h4 : i < c.members.D.length := by have := of_decide_eq_true h3; omega
      obtain ⟨x, h5⟩ := getX h4
      rw [drop_at h5] at hR
      refine Awp.skip ?_
      refine Awp.seq ?_
      refine Awp.block ?_
      refine Awp.cons C (fun _ => .pure) (by kernel_rfl) ?_
      refine rvc_un (rexec_idxS C rfl rfl rfl rfl rfl rfl x (Int.natCast_nonneg _) h5 ?_)
      refine rvc_un (rexec_prim C (δ := { v := .agg [.pv (.lit (.int .i64 x.node)), .pv (.lit (.int .i64 x.site)), .pv (.lit (.bool x.fresh))] }) rfl rfl rfl rfl trivial rfl ?_)
      refine rvc_un (rexec_prim C (δ := { v := .ptr 9 0, new := [(9, .cells [.pv (.lit (.int .i64 0)), .pv (.lit (.int .i64 0)), .pv (.lit (.bool false))])] }) rfl rfl rfl rfl trivial rfl ?_)
      refine rvc_un (rexec_prim C (δ := { v := .undef, wr := [(9, some (.cells [.pv (.lit (.int .i64 x.node)), .pv (.lit (.int .i64 x.site)), .pv (.lit (.bool x.fresh))]))] }) rfl rfl rfl rfl trivial rfl ?_) -- tNone store
      refine rvc_nil ?_
      refine Awp.cons C (fun _ => .pure) (by kernel_rfl) ?_
      refine rvc_un (rexec_prim C (δ := { v := .ptr 9 1 }) rfl rfl rfl rfl trivial rfl ?_)
      refine rvc_un (rexec_prim C (δ := { v := .pv (.lit (.int .i64 x.site)) }) rfl rfl rfl rfl trivial rfl ?_)
      refine rvc_un (rexec_prim C (δ := { v := .pv (.lit (.int .i64 site)) }) rfl rfl rfl rfl trivial rfl ?_)
      refine rvc_un (rexec_prim C (δ := { v := .pv (.lit (.bool (x.site == site))) }) rfl rfl rfl rfl trivial rfl ?_)
      refine rvc_nil ?_
      refine Awp.cond (b := (x.site == site)) rfl (fun h6 => ?_) (fun h6 => ?_)
      ·
        replace hR := of_true h6 hR
        refine Awp.region C (fun _ => .pure) (by kernel_rfl) ?_
        refine rvc_un (rexec_prim C (δ := { v := .pv (.lit (.int .u64 gone)) }) rfl rfl rfl rfl trivial rfl ?_)
        refine rvc_un (rexec_prim C (δ := { v := .ptr 9 0 }) rfl rfl rfl rfl trivial rfl ?_)
        refine rvc_un (rexec_prim C (δ := { v := .pv (.lit (.int .i64 x.node)) }) rfl rfl rfl rfl trivial rfl ?_)
        refine rvc_un (rexec_call hP C rfl rfl rfl (mWith_calls gone x.node) ?_)
        refine rvc_un (rexec_prim C (δ := { v := .pv (.lit (.int .u64 (mWith gone x.node))) }) rfl rfl rfl rfl trivial rfl ?_)
        refine rvc_nil ?_
        refine Awp.region C (fun _ => .pure) (by kernel_rfl) ?_
        refine rvc_un (rexec_prim C (δ := { v := .pv (.lit (.int .i64 (IntKind.i64.wrap ((i : Int) + 1)))) }) rfl rfl rfl rfl trivial rfl ?_)
        refine rvc_un (rexec_prim C (δ := { v := .pv (.lit (.int .i64 (IntKind.i64.wrap ((i : Int) + 1)))) }) rfl rfl rfl rfl trivial rfl ?_)
        refine rvc_nil ?_
        refine ⟨h4, (mWith gone x.node), ?_, ?_⟩
        · exact hR
        · exact ⟨fun b => b, WeakerR.ofL (Ks := [2, 4]) hI ⟨⟨rfl, rfl⟩, ⟨rfl, rfl⟩, ⟨rfl, rfl⟩, ⟨rfl, rfl⟩, ⟨rfl, rfl⟩, ⟨rfl, rfl⟩, ⟨lit_cast (wrap_i64 (by omega) (by omega)), rfl⟩, trivial⟩ (okH_cons rfl rfl rfl rfl (okH_cons rfl rfl rfl rfl (okH_nil))) rfl⟩
      ·
        replace hR := of_false h6 hR
        refine Awp.skip ?_
        refine Awp.region C (fun _ => .pure) (by kernel_rfl) ?_
        refine rvc_un (rexec_prim C (δ := { v := .pv (.lit (.int .i64 (IntKind.i64.wrap ((i : Int) + 1)))) }) rfl rfl rfl rfl trivial rfl ?_)
        refine rvc_un (rexec_prim C (δ := { v := .pv (.lit (.int .i64 (IntKind.i64.wrap ((i : Int) + 1)))) }) rfl rfl rfl rfl trivial rfl ?_)
        refine rvc_nil ?_
        refine ⟨h4, gone, ?_, ?_⟩
        · exact hR
        · exact ⟨fun b => b, WeakerR.ofL (Ks := [2, 4]) hI ⟨⟨rfl, rfl⟩, ⟨rfl, rfl⟩, ⟨rfl, rfl⟩, ⟨rfl, rfl⟩, ⟨rfl, rfl⟩, ⟨rfl, rfl⟩, ⟨lit_cast (wrap_i64 (by omega) (by omega)), rfl⟩, trivial⟩ (okH_cons rfl rfl rfl rfl (okH_cons rfl rfl rfl rfl (okH_nil))) rfl⟩
    ·
      have h4 : ¬ i < c.members.D.length := by have := of_decide_eq_false h3; omega
      rw [drop_end h4] at hR
      refine Awp.exit ?_
      refine Awp.cons C (fun _ => .pure) (by kernel_rfl) ?_
      refine rvc_un (rexec_prim C (δ := { v := .agg [.pv (.lit (.int .i64 c.epoch)), sS (some c.members.nil) eMember c.members.D] }) rfl rfl rfl rfl trivial rfl ?_)
      refine rvc_un (rexec_prim C (δ := { v := .pv (.lit (.int .u64 gone)) }) rfl rfl rfl rfl trivial rfl ?_)
      refine rvc_un (rexec_call hP C rfl rfl rfl (without_calls c gone hl1) ?_)
      refine rvc_un (rexec_prim C (δ := { v := .agg [.pv (.lit (.int .i64 ((without c gone).1.epoch))), sS (some (without c gone).1.members.nil) eMember ((without c gone).1.members.D)] }) rfl rfl rfl rfl trivial rfl ?_)
      refine rvc_un (rexec_prim C (δ := { v := .pv (.lit (.int .i64 ((without c gone).2))) }) rfl rfl rfl rfl trivial rfl ?_)
      refine rvc_un (rexec_prim C (δ := { v := .undef, wr := [(4, some (.cells [.pv (.lit (.int .i64 ((without c gone).1.epoch))), sS (some (without c gone).1.members.nil) eMember ((without c gone).1.members.D)]))] }) rfl rfl rfl rfl trivial rfl ?_) -- tNone store
      refine rvc_un (rexec_prim C (δ := { v := .pv (.lit (.int .i64 ((without c gone).2))) }) rfl rfl rfl rfl trivial rfl ?_)
      refine rvc_nil ?_
      refine Awp.ret ?_
      subst hR
      exact ⟨.inl rfl, rfl⟩

def also (c : Chain) (k : Do) : Chain × Int :=
  (bif ((IntKind.i64.wrap ((IntKind.u64.wrap k.op).tmod 5)) == 0) then (bif (k.node == (-1)) then ((rCut c (-2) (-1)).1, (rCut c (-2) (-1)).2) else ((rCut c k.node (-1)).1, (rCut c k.node (-1)).2)) else (bif ((IntKind.i64.wrap ((IntKind.u64.wrap k.op).tmod 5)) == 1) then (bif (k.site == (-1)) then ((rCut c (-1) (-2)).1, (rCut c (-1) (-2)).2) else ((rCut c (-1) k.site).1, (rCut c (-1) k.site).2)) else (bif ((IntKind.i64.wrap ((IntKind.u64.wrap k.op).tmod 5)) == 2) then ((rJoin c (Member.mk k.node k.site false)).1, (rJoin c (Member.mk k.node k.site false)).2) else (bif ((IntKind.i64.wrap ((IntKind.u64.wrap k.op).tmod 5)) == 3) then ((rAgain c k.node).1, (rAgain c k.node).2) else ((rReady c k.node).1, (rReady c k.node).2)))))
theorem also_calls (c : Chain) (k : Do) (hl1 : c.members.D.length ≤ 1000000) : PCalls Try.prog 31 [.agg [.pv (.lit (.int .i64 c.epoch)), sS (some c.members.nil) eMember c.members.D], .agg [.pv (.lit (.int .i64 k.op)), .pv (.lit (.int .i64 k.node)), .pv (.lit (.int .i64 k.site)), .pv (.lit (.bool k.fresh))]] (.tup [.agg [.pv (.lit (.int .i64 ((also c k).1.epoch))), sS (some (also c k).1.members.nil) eMember ((also c k).1.members.D)], .pv (.lit (.int .i64 ((also c k).2)))]) := by
  generalize hR : also c k = R
  refine PCalls.of_body tabOk Try.func31 rfl rfl rfl rfl rfl mixed fun E hP C hI => ?_
  refine Awp.cons C (fun _ => .pure) (by kernel_rfl) ?_
  refine rvc_un (rexec_prim C (δ := { v := .ptr 2 0, new := [(2, .cells [.pv (.lit (.int .i64 c.epoch)), sS (some c.members.nil) eMember c.members.D])] }) rfl rfl rfl rfl trivial rfl ?_)
  refine rvc_un (rexec_prim C (δ := { v := .ptr 3 0, new := [(3, .cells [.pv (.lit (.int .i64 k.op)), .pv (.lit (.int .i64 k.node)), .pv (.lit (.int .i64 k.site)), .pv (.lit (.bool k.fresh))])] }) rfl rfl rfl rfl trivial rfl ?_)
  refine rvc_un (rexec_prim C (δ := { v := .ptr 4 0, new := [(4, .cells [.pv (.lit (.int .i64 0)), sS (some true) eMember []])] }) rfl rfl rfl rfl trivial rfl ?_)
  refine rvc_un (rexec_prim C (δ := { v := .pv (.lit (.int .i64 0)) }) rfl rfl rfl rfl trivial rfl ?_)
  refine rvc_nil ?_
  refine Awp.seq ?_
  refine Awp.cons C (fun _ => .pure) (by kernel_rfl) ?_
  refine rvc_un (rexec_prim C (δ := { v := .ptr 3 0 }) rfl rfl rfl rfl trivial rfl ?_)
  refine rvc_un (rexec_prim C (δ := { v := .pv (.lit (.int .i64 k.op)) }) rfl rfl rfl rfl trivial rfl ?_)
  refine rvc_un (rexec_prim C (δ := { v := .pv (.lit (.int .u64 (IntKind.u64.wrap k.op))) }) rfl rfl rfl rfl trivial rfl ?_)
  refine rvc_un (rexec_prim C (δ := { v := .pv (.lit (.int .u64 ((IntKind.u64.wrap k.op).tmod 5))) }) rfl rfl rfl rfl (by first | decide | omega) rfl ?_)
  refine rvc_un (rexec_prim C (δ := { v := .pv (.lit (.int .i64 (IntKind.i64.wrap ((IntKind.u64.wrap k.op).tmod 5)))) }) rfl rfl rfl rfl trivial rfl ?_)
  refine rvc_nil ?_
  refine Awp.block ?_
  refine Awp.cons C (fun _ => .pure) (by kernel_rfl) ?_
  refine rvc_un (rexec_prim C (δ := { v := .pv (.lit (.bool ((IntKind.i64.wrap ((IntKind.u64.wrap k.op).tmod 5)) == 0))) }) rfl rfl rfl rfl trivial rfl ?_)
  refine rvc_un (rexec_prim C (δ := { v := .pv (.lit (.bool ((IntKind.i64.wrap ((IntKind.u64.wrap k.op).tmod 5)) == 0))) }) rfl rfl rfl rfl trivial rfl ?_)
  refine rvc_nil ?_
  refine Awp.cond (b := ((IntKind.i64.wrap ((IntKind.u64.wrap k.op).tmod 5)) == 0)) rfl (fun h1 => ?_) (fun h1 => ?_)
  ·
    replace hR := of_true h1 hR
    refine Awp.seq ?_
    refine Awp.cons C (fun _ => .pure) (by kernel_rfl) ?_
    refine rvc_un (rexec_prim C (δ := { v := .ptr 3 1 }) rfl rfl rfl rfl trivial rfl ?_)
    refine rvc_un (rexec_prim C (δ := { v := .pv (.lit (.int .i64 k.node)) }) rfl rfl rfl rfl trivial rfl ?_)
    refine rvc_un (rexec_prim C (δ := { v := .pv (.lit (.bool (k.node == (-1)))) }) rfl rfl rfl rfl trivial rfl ?_)
    refine rvc_nil ?_
    refine Awp.cond (b := (k.node == (-1))) rfl (fun h2 => ?_) (fun h2 => ?_)
    ·
      replace hR := of_true h2 hR
      refine Awp.cons C (fun _ => .pure) (by kernel_rfl) ?_
      refine rvc_un (rexec_prim C (δ := { v := .agg [.pv (.lit (.int .i64 c.epoch)), sS (some c.members.nil) eMember c.members.D] }) rfl rfl rfl rfl trivial rfl ?_)
      refine rvc_un (rexec_call hP C rfl rfl rfl (rCut_calls c (-2) (-1) hl1) ?_)
      refine rvc_un (rexec_prim C (δ := { v := .agg [.pv (.lit (.int .i64 ((rCut c (-2) (-1)).1.epoch))), sS (some (rCut c (-2) (-1)).1.members.nil) eMember ((rCut c (-2) (-1)).1.members.D)] }) rfl rfl rfl rfl trivial rfl ?_)
      refine rvc_un (rexec_prim C (δ := { v := .pv (.lit (.int .i64 ((rCut c (-2) (-1)).2))) }) rfl rfl rfl rfl trivial rfl ?_)
      refine rvc_un (rexec_prim C (δ := { v := .undef, wr := [(4, some (.cells [.pv (.lit (.int .i64 ((rCut c (-2) (-1)).1.epoch))), sS (some (rCut c (-2) (-1)).1.members.nil) eMember ((rCut c (-2) (-1)).1.members.D)]))] }) rfl rfl rfl rfl trivial rfl ?_) -- tNone store
      refine rvc_un (rexec_prim C (δ := { v := .pv (.lit (.int .i64 ((rCut c (-2) (-1)).2))) }) rfl rfl rfl rfl trivial rfl ?_)
      refine rvc_nil ?_
      refine Awp.ret ?_
      subst hR
      exact ⟨.inl rfl, rfl⟩
    ·
      replace hR := of_false h2 hR
      refine Awp.skip ?_
      refine Awp.cons C (fun _ => .pure) (by kernel_rfl) ?_
      refine rvc_un (rexec_prim C (δ := { v := .agg [.pv (.lit (.int .i64 c.epoch)), sS (some c.members.nil) eMember c.members.D] }) rfl rfl rfl rfl trivial rfl ?_)
      refine rvc_un (rexec_prim C (δ := { v := .ptr 3 1 }) rfl rfl rfl rfl trivial rfl ?_)
      refine rvc_un (rexec_prim C (δ := { v := .pv (.lit (.int .i64 k.node)) }) rfl rfl rfl rfl trivial rfl ?_)
      refine rvc_un (rexec_call hP C rfl rfl rfl (rCut_calls c k.node (-1) hl1) ?_)
      refine rvc_un (rexec_prim C (δ := { v := .agg [.pv (.lit (.int .i64 ((rCut c k.node (-1)).1.epoch))), sS (some (rCut c k.node (-1)).1.members.nil) eMember ((rCut c k.node (-1)).1.members.D)] }) rfl rfl rfl rfl trivial rfl ?_)
      refine rvc_un (rexec_prim C (δ := { v := .pv (.lit (.int .i64 ((rCut c k.node (-1)).2))) }) rfl rfl rfl rfl trivial rfl ?_)
      refine rvc_un (rexec_prim C (δ := { v := .undef, wr := [(4, some (.cells [.pv (.lit (.int .i64 ((rCut c k.node (-1)).1.epoch))), sS (some (rCut c k.node (-1)).1.members.nil) eMember ((rCut c k.node (-1)).1.members.D)]))] }) rfl rfl rfl rfl trivial rfl ?_) -- tNone store
      refine rvc_un (rexec_prim C (δ := { v := .pv (.lit (.int .i64 ((rCut c k.node (-1)).2))) }) rfl rfl rfl rfl trivial rfl ?_)
      refine rvc_nil ?_
      refine Awp.ret ?_
      subst hR
      exact ⟨.inl rfl, rfl⟩
  ·
    replace hR := of_false h1 hR
    refine Awp.cons C (fun _ => .pure) (by kernel_rfl) ?_
    refine rvc_un (rexec_prim C (δ := { v := .pv (.lit (.bool ((IntKind.i64.wrap ((IntKind.u64.wrap k.op).tmod 5)) == 1))) }) rfl rfl rfl rfl trivial rfl ?_)
    refine rvc_un (rexec_prim C (δ := { v := .pv (.lit (.bool ((IntKind.i64.wrap ((IntKind.u64.wrap k.op).tmod 5)) == 1))) }) rfl rfl rfl rfl trivial rfl ?_)
    refine rvc_nil ?_
    refine Awp.cond (b := ((IntKind.i64.wrap ((IntKind.u64.wrap k.op).tmod 5)) == 1)) rfl (fun h3 => ?_) (fun h3 => ?_)
    ·
      replace hR := of_true h3 hR
      refine Awp.seq ?_
      refine Awp.cons C (fun _ => .pure) (by kernel_rfl) ?_
      refine rvc_un (rexec_prim C (δ := { v := .ptr 3 2 }) rfl rfl rfl rfl trivial rfl ?_)
      refine rvc_un (rexec_prim C (δ := { v := .pv (.lit (.int .i64 k.site)) }) rfl rfl rfl rfl trivial rfl ?_)
      refine rvc_un (rexec_prim C (δ := { v := .pv (.lit (.bool (k.site == (-1)))) }) rfl rfl rfl rfl trivial rfl ?_)
      refine rvc_nil ?_
      refine Awp.cond (b := (k.site == (-1))) rfl (fun h4 => ?_) (fun h4 => ?_)
      ·
        replace hR := of_true h4 hR
        refine Awp.cons C (fun _ => .pure) (by kernel_rfl) ?_
        refine rvc_un (rexec_prim C (δ := { v := .agg [.pv (.lit (.int .i64 c.epoch)), sS (some c.members.nil) eMember c.members.D] }) rfl rfl rfl rfl trivial rfl ?_)
        refine rvc_un (rexec_call hP C rfl rfl rfl (rCut_calls c (-1) (-2) hl1) ?_)
        refine rvc_un (rexec_prim C (δ := { v := .agg [.pv (.lit (.int .i64 ((rCut c (-1) (-2)).1.epoch))), sS (some (rCut c (-1) (-2)).1.members.nil) eMember ((rCut c (-1) (-2)).1.members.D)] }) rfl rfl rfl rfl trivial rfl ?_)
        refine rvc_un (rexec_prim C (δ := { v := .pv (.lit (.int .i64 ((rCut c (-1) (-2)).2))) }) rfl rfl rfl rfl trivial rfl ?_)
        refine rvc_un (rexec_prim C (δ := { v := .undef, wr := [(4, some (.cells [.pv (.lit (.int .i64 ((rCut c (-1) (-2)).1.epoch))), sS (some (rCut c (-1) (-2)).1.members.nil) eMember ((rCut c (-1) (-2)).1.members.D)]))] }) rfl rfl rfl rfl trivial rfl ?_) -- tNone store
        refine rvc_un (rexec_prim C (δ := { v := .pv (.lit (.int .i64 ((rCut c (-1) (-2)).2))) }) rfl rfl rfl rfl trivial rfl ?_)
        refine rvc_nil ?_
        refine Awp.ret ?_
        subst hR
        exact ⟨.inl rfl, rfl⟩
      ·
        replace hR := of_false h4 hR
        refine Awp.skip ?_
        refine Awp.cons C (fun _ => .pure) (by kernel_rfl) ?_
        refine rvc_un (rexec_prim C (δ := { v := .agg [.pv (.lit (.int .i64 c.epoch)), sS (some c.members.nil) eMember c.members.D] }) rfl rfl rfl rfl trivial rfl ?_)
        refine rvc_un (rexec_prim C (δ := { v := .ptr 3 2 }) rfl rfl rfl rfl trivial rfl ?_)
        refine rvc_un (rexec_prim C (δ := { v := .pv (.lit (.int .i64 k.site)) }) rfl rfl rfl rfl trivial rfl ?_)
        refine rvc_un (rexec_call hP C rfl rfl rfl (rCut_calls c (-1) k.site hl1) ?_)
        refine rvc_un (rexec_prim C (δ := { v := .agg [.pv (.lit (.int .i64 ((rCut c (-1) k.site).1.epoch))), sS (some (rCut c (-1) k.site).1.members.nil) eMember ((rCut c (-1) k.site).1.members.D)] }) rfl rfl rfl rfl trivial rfl ?_)
        refine rvc_un (rexec_prim C (δ := { v := .pv (.lit (.int .i64 ((rCut c (-1) k.site).2))) }) rfl rfl rfl rfl trivial rfl ?_)
        refine rvc_un (rexec_prim C (δ := { v := .undef, wr := [(4, some (.cells [.pv (.lit (.int .i64 ((rCut c (-1) k.site).1.epoch))), sS (some (rCut c (-1) k.site).1.members.nil) eMember ((rCut c (-1) k.site).1.members.D)]))] }) rfl rfl rfl rfl trivial rfl ?_) -- tNone store
        refine rvc_un (rexec_prim C (δ := { v := .pv (.lit (.int .i64 ((rCut c (-1) k.site).2))) }) rfl rfl rfl rfl trivial rfl ?_)
        refine rvc_nil ?_
        refine Awp.ret ?_
        subst hR
        exact ⟨.inl rfl, rfl⟩
    ·
      replace hR := of_false h3 hR
      refine Awp.cons C (fun _ => .pure) (by kernel_rfl) ?_
      refine rvc_un (rexec_prim C (δ := { v := .pv (.lit (.bool ((IntKind.i64.wrap ((IntKind.u64.wrap k.op).tmod 5)) == 2))) }) rfl rfl rfl rfl trivial rfl ?_)
      refine rvc_un (rexec_prim C (δ := { v := .pv (.lit (.bool ((IntKind.i64.wrap ((IntKind.u64.wrap k.op).tmod 5)) == 2))) }) rfl rfl rfl rfl trivial rfl ?_)
      refine rvc_nil ?_
      refine Awp.cond (b := ((IntKind.i64.wrap ((IntKind.u64.wrap k.op).tmod 5)) == 2)) rfl (fun h5 => ?_) (fun h5 => ?_)
      ·
        replace hR := of_true h5 hR
        refine Awp.cons C (fun _ => .pure) (by kernel_rfl) ?_
        refine rvc_un (rexec_prim C (δ := { v := .agg [.pv (.lit (.int .i64 c.epoch)), sS (some c.members.nil) eMember c.members.D] }) rfl rfl rfl rfl trivial rfl ?_)
        refine rvc_un (rexec_prim C (δ := { v := .ptr 3 1 }) rfl rfl rfl rfl trivial rfl ?_)
        refine rvc_un (rexec_prim C (δ := { v := .pv (.lit (.int .i64 k.node)) }) rfl rfl rfl rfl trivial rfl ?_)
        refine rvc_un (rexec_prim C (δ := { v := .ptr 3 2 }) rfl rfl rfl rfl trivial rfl ?_)
        refine rvc_un (rexec_prim C (δ := { v := .pv (.lit (.int .i64 k.site)) }) rfl rfl rfl rfl trivial rfl ?_)
        refine rvc_un (rexec_prim C (δ := { v := .agg [.pv (.lit (.int .i64 k.node)), .pv (.lit (.int .i64 k.site)), .pv (.lit (.bool false))] }) rfl rfl rfl rfl trivial rfl ?_)
        refine rvc_un (rexec_call hP C rfl rfl rfl (rJoin_calls c (Member.mk k.node k.site false) hl1) ?_)
        refine rvc_un (rexec_prim C (δ := { v := .agg [.pv (.lit (.int .i64 ((rJoin c (Member.mk k.node k.site false)).1.epoch))), sS (some (rJoin c (Member.mk k.node k.site false)).1.members.nil) eMember ((rJoin c (Member.mk k.node k.site false)).1.members.D)] }) rfl rfl rfl rfl trivial rfl ?_)
        refine rvc_un (rexec_prim C (δ := { v := .pv (.lit (.int .i64 ((rJoin c (Member.mk k.node k.site false)).2))) }) rfl rfl rfl rfl trivial rfl ?_)
        refine rvc_un (rexec_prim C (δ := { v := .undef, wr := [(4, some (.cells [.pv (.lit (.int .i64 ((rJoin c (Member.mk k.node k.site false)).1.epoch))), sS (some (rJoin c (Member.mk k.node k.site false)).1.members.nil) eMember ((rJoin c (Member.mk k.node k.site false)).1.members.D)]))] }) rfl rfl rfl rfl trivial rfl ?_) -- tNone store
        refine rvc_un (rexec_prim C (δ := { v := .pv (.lit (.int .i64 ((rJoin c (Member.mk k.node k.site false)).2))) }) rfl rfl rfl rfl trivial rfl ?_)
        refine rvc_nil ?_
        refine Awp.ret ?_
        subst hR
        exact ⟨.inl rfl, rfl⟩
      ·
        replace hR := of_false h5 hR
        refine Awp.cons C (fun _ => .pure) (by kernel_rfl) ?_
        refine rvc_un (rexec_prim C (δ := { v := .pv (.lit (.bool ((IntKind.i64.wrap ((IntKind.u64.wrap k.op).tmod 5)) == 3))) }) rfl rfl rfl rfl trivial rfl ?_)
        refine rvc_un (rexec_prim C (δ := { v := .pv (.lit (.bool ((IntKind.i64.wrap ((IntKind.u64.wrap k.op).tmod 5)) == 3))) }) rfl rfl rfl rfl trivial rfl ?_)
        refine rvc_nil ?_
        refine Awp.cond (b := ((IntKind.i64.wrap ((IntKind.u64.wrap k.op).tmod 5)) == 3)) rfl (fun h6 => ?_) (fun h6 => ?_)
        ·
          replace hR := of_true h6 hR
          refine Awp.cons C (fun _ => .pure) (by kernel_rfl) ?_
          refine rvc_un (rexec_prim C (δ := { v := .agg [.pv (.lit (.int .i64 c.epoch)), sS (some c.members.nil) eMember c.members.D] }) rfl rfl rfl rfl trivial rfl ?_)
          refine rvc_un (rexec_prim C (δ := { v := .ptr 3 1 }) rfl rfl rfl rfl trivial rfl ?_)
          refine rvc_un (rexec_prim C (δ := { v := .pv (.lit (.int .i64 k.node)) }) rfl rfl rfl rfl trivial rfl ?_)
          refine rvc_un (rexec_call hP C rfl rfl rfl (rAgain_calls c k.node hl1) ?_)
          refine rvc_un (rexec_prim C (δ := { v := .agg [.pv (.lit (.int .i64 ((rAgain c k.node).1.epoch))), sS (some (rAgain c k.node).1.members.nil) eMember ((rAgain c k.node).1.members.D)] }) rfl rfl rfl rfl trivial rfl ?_)
          refine rvc_un (rexec_prim C (δ := { v := .pv (.lit (.int .i64 ((rAgain c k.node).2))) }) rfl rfl rfl rfl trivial rfl ?_)
          refine rvc_un (rexec_prim C (δ := { v := .undef, wr := [(4, some (.cells [.pv (.lit (.int .i64 ((rAgain c k.node).1.epoch))), sS (some (rAgain c k.node).1.members.nil) eMember ((rAgain c k.node).1.members.D)]))] }) rfl rfl rfl rfl trivial rfl ?_) -- tNone store
          refine rvc_un (rexec_prim C (δ := { v := .pv (.lit (.int .i64 ((rAgain c k.node).2))) }) rfl rfl rfl rfl trivial rfl ?_)
          refine rvc_nil ?_
          refine Awp.ret ?_
          subst hR
          exact ⟨.inl rfl, rfl⟩
        ·
          replace hR := of_false h6 hR
          refine Awp.skip ?_
          refine Awp.cons C (fun _ => .pure) (by kernel_rfl) ?_
          refine rvc_un (rexec_prim C (δ := { v := .agg [.pv (.lit (.int .i64 c.epoch)), sS (some c.members.nil) eMember c.members.D] }) rfl rfl rfl rfl trivial rfl ?_)
          refine rvc_un (rexec_prim C (δ := { v := .ptr 3 1 }) rfl rfl rfl rfl trivial rfl ?_)
          refine rvc_un (rexec_prim C (δ := { v := .pv (.lit (.int .i64 k.node)) }) rfl rfl rfl rfl trivial rfl ?_)
          refine rvc_un (rexec_call hP C rfl rfl rfl (rReady_calls c k.node hl1) ?_)
          refine rvc_un (rexec_prim C (δ := { v := .agg [.pv (.lit (.int .i64 ((rReady c k.node).1.epoch))), sS (some (rReady c k.node).1.members.nil) eMember ((rReady c k.node).1.members.D)] }) rfl rfl rfl rfl trivial rfl ?_)
          refine rvc_un (rexec_prim C (δ := { v := .pv (.lit (.int .i64 ((rReady c k.node).2))) }) rfl rfl rfl rfl trivial rfl ?_)
          refine rvc_un (rexec_prim C (δ := { v := .undef, wr := [(4, some (.cells [.pv (.lit (.int .i64 ((rReady c k.node).1.epoch))), sS (some (rReady c k.node).1.members.nil) eMember ((rReady c k.node).1.members.D)]))] }) rfl rfl rfl rfl trivial rfl ?_) -- tNone store
          refine rvc_un (rexec_prim C (δ := { v := .pv (.lit (.int .i64 ((rReady c k.node).2))) }) rfl rfl rfl rfl trivial rfl ?_)
          refine rvc_nil ?_
          refine Awp.ret ?_
          subst hR
          exact ⟨.inl rfl, rfl⟩

def does (c : Chain) (k : Do) : Chain × Int :=
  (bif ((IntKind.i64.wrap ((IntKind.u64.wrap k.op).tmod 5)) == 0) then ((drop c k.node).1, (drop c k.node).2) else (bif ((IntKind.i64.wrap ((IntKind.u64.wrap k.op).tmod 5)) == 1) then ((dropSite c k.site).1, (dropSite c k.site).2) else (bif ((IntKind.i64.wrap ((IntKind.u64.wrap k.op).tmod 5)) == 2) then ((join c (Member.mk k.node k.site k.fresh)).1, (join c (Member.mk k.node k.site k.fresh)).2) else (bif ((IntKind.i64.wrap ((IntKind.u64.wrap k.op).tmod 5)) == 3) then ((again c k.node).1, (again c k.node).2) else ((ready c k.node).1, (ready c k.node).2)))))
theorem does_calls (c : Chain) (k : Do) (hn : c.members.nil = true → c.members.D = []) (hl1 : c.members.D.length ≤ 1000000) : PCalls Try.prog 30 [.agg [.pv (.lit (.int .i64 c.epoch)), sS (some c.members.nil) eMember c.members.D], .agg [.pv (.lit (.int .i64 k.op)), .pv (.lit (.int .i64 k.node)), .pv (.lit (.int .i64 k.site)), .pv (.lit (.bool k.fresh))]] (.tup [.agg [.pv (.lit (.int .i64 ((does c k).1.epoch))), sS (some (does c k).1.members.nil) eMember ((does c k).1.members.D)], .pv (.lit (.int .i64 ((does c k).2)))]) := by
  generalize hR : does c k = R
  refine PCalls.of_body tabOk Try.func30 rfl rfl rfl rfl rfl mixed fun E hP C hI => ?_
  refine Awp.cons C (fun _ => .pure) (by kernel_rfl) ?_
  refine rvc_un (rexec_prim C (δ := { v := .ptr 2 0, new := [(2, .cells [.pv (.lit (.int .i64 c.epoch)), sS (some c.members.nil) eMember c.members.D])] }) rfl rfl rfl rfl trivial rfl ?_)
  refine rvc_un (rexec_prim C (δ := { v := .ptr 3 0, new := [(3, .cells [.pv (.lit (.int .i64 k.op)), .pv (.lit (.int .i64 k.node)), .pv (.lit (.int .i64 k.site)), .pv (.lit (.bool k.fresh))])] }) rfl rfl rfl rfl trivial rfl ?_)
  refine rvc_un (rexec_prim C (δ := { v := .ptr 4 0, new := [(4, .cells [.pv (.lit (.int .i64 0)), sS (some true) eMember []])] }) rfl rfl rfl rfl trivial rfl ?_)
  refine rvc_un (rexec_prim C (δ := { v := .pv (.lit (.int .i64 0)) }) rfl rfl rfl rfl trivial rfl ?_)
  refine rvc_nil ?_
  refine Awp.seq ?_
  refine Awp.cons C (fun _ => .pure) (by kernel_rfl) ?_
  refine rvc_un (rexec_prim C (δ := { v := .ptr 3 0 }) rfl rfl rfl rfl trivial rfl ?_)
  refine rvc_un (rexec_prim C (δ := { v := .pv (.lit (.int .i64 k.op)) }) rfl rfl rfl rfl trivial rfl ?_)
  refine rvc_un (rexec_prim C (δ := { v := .pv (.lit (.int .u64 (IntKind.u64.wrap k.op))) }) rfl rfl rfl rfl trivial rfl ?_)
  refine rvc_un (rexec_prim C (δ := { v := .pv (.lit (.int .u64 ((IntKind.u64.wrap k.op).tmod 5))) }) rfl rfl rfl rfl (by first | decide | omega) rfl ?_)
  refine rvc_un (rexec_prim C (δ := { v := .pv (.lit (.int .i64 (IntKind.i64.wrap ((IntKind.u64.wrap k.op).tmod 5)))) }) rfl rfl rfl rfl trivial rfl ?_)
  refine rvc_nil ?_
  refine Awp.block ?_
  refine Awp.cons C (fun _ => .pure) (by kernel_rfl) ?_
  refine rvc_un (rexec_prim C (δ := { v := .pv (.lit (.bool ((IntKind.i64.wrap ((IntKind.u64.wrap k.op).tmod 5)) == 0))) }) rfl rfl rfl rfl trivial rfl ?_)
  refine rvc_un (rexec_prim C (δ := { v := .pv (.lit (.bool ((IntKind.i64.wrap ((IntKind.u64.wrap k.op).tmod 5)) == 0))) }) rfl rfl rfl rfl trivial rfl ?_)
  refine rvc_nil ?_
  refine Awp.cond (b := ((IntKind.i64.wrap ((IntKind.u64.wrap k.op).tmod 5)) == 0)) rfl (fun h1 => ?_) (fun h1 => ?_)
  ·
    replace hR := of_true h1 hR
    refine Awp.cons C (fun _ => .pure) (by kernel_rfl) ?_
    refine rvc_un (rexec_prim C (δ := { v := .agg [.pv (.lit (.int .i64 c.epoch)), sS (some c.members.nil) eMember c.members.D] }) rfl rfl rfl rfl trivial rfl ?_)
    refine rvc_un (rexec_prim C (δ := { v := .ptr 3 1 }) rfl rfl rfl rfl trivial rfl ?_)
    refine rvc_un (rexec_prim C (δ := { v := .pv (.lit (.int .i64 k.node)) }) rfl rfl rfl rfl trivial rfl ?_)
    refine rvc_un (rexec_call hP C rfl rfl rfl (drop_calls c k.node hl1) ?_)
    refine rvc_un (rexec_prim C (δ := { v := .agg [.pv (.lit (.int .i64 ((drop c k.node).1.epoch))), sS (some (drop c k.node).1.members.nil) eMember ((drop c k.node).1.members.D)] }) rfl rfl rfl rfl trivial rfl ?_)
    refine rvc_un (rexec_prim C (δ := { v := .pv (.lit (.int .i64 ((drop c k.node).2))) }) rfl rfl rfl rfl trivial rfl ?_)
    refine rvc_un (rexec_prim C (δ := { v := .undef, wr := [(4, some (.cells [.pv (.lit (.int .i64 ((drop c k.node).1.epoch))), sS (some (drop c k.node).1.members.nil) eMember ((drop c k.node).1.members.D)]))] }) rfl rfl rfl rfl trivial rfl ?_) -- tNone store
    refine rvc_un (rexec_prim C (δ := { v := .pv (.lit (.int .i64 ((drop c k.node).2))) }) rfl rfl rfl rfl trivial rfl ?_)
    refine rvc_nil ?_
    refine Awp.ret ?_
    subst hR
    exact ⟨.inl rfl, rfl⟩
  ·
    replace hR := of_false h1 hR
    refine Awp.cons C (fun _ => .pure) (by kernel_rfl) ?_
    refine rvc_un (rexec_prim C (δ := { v := .pv (.lit (.bool ((IntKind.i64.wrap ((IntKind.u64.wrap k.op).tmod 5)) == 1))) }) rfl rfl rfl rfl trivial rfl ?_)
    refine rvc_un (rexec_prim C (δ := { v := .pv (.lit (.bool ((IntKind.i64.wrap ((IntKind.u64.wrap k.op).tmod 5)) == 1))) }) rfl rfl rfl rfl trivial rfl ?_)
    refine rvc_nil ?_
    refine Awp.cond (b := ((IntKind.i64.wrap ((IntKind.u64.wrap k.op).tmod 5)) == 1)) rfl (fun h2 => ?_) (fun h2 => ?_)
    ·
      replace hR := of_true h2 hR
      refine Awp.cons C (fun _ => .pure) (by kernel_rfl) ?_
      refine rvc_un (rexec_prim C (δ := { v := .agg [.pv (.lit (.int .i64 c.epoch)), sS (some c.members.nil) eMember c.members.D] }) rfl rfl rfl rfl trivial rfl ?_)
      refine rvc_un (rexec_prim C (δ := { v := .ptr 3 2 }) rfl rfl rfl rfl trivial rfl ?_)
      refine rvc_un (rexec_prim C (δ := { v := .pv (.lit (.int .i64 k.site)) }) rfl rfl rfl rfl trivial rfl ?_)
      refine rvc_un (rexec_call hP C rfl rfl rfl (dropSite_calls c k.site hl1) ?_)
      refine rvc_un (rexec_prim C (δ := { v := .agg [.pv (.lit (.int .i64 ((dropSite c k.site).1.epoch))), sS (some (dropSite c k.site).1.members.nil) eMember ((dropSite c k.site).1.members.D)] }) rfl rfl rfl rfl trivial rfl ?_)
      refine rvc_un (rexec_prim C (δ := { v := .pv (.lit (.int .i64 ((dropSite c k.site).2))) }) rfl rfl rfl rfl trivial rfl ?_)
      refine rvc_un (rexec_prim C (δ := { v := .undef, wr := [(4, some (.cells [.pv (.lit (.int .i64 ((dropSite c k.site).1.epoch))), sS (some (dropSite c k.site).1.members.nil) eMember ((dropSite c k.site).1.members.D)]))] }) rfl rfl rfl rfl trivial rfl ?_) -- tNone store
      refine rvc_un (rexec_prim C (δ := { v := .pv (.lit (.int .i64 ((dropSite c k.site).2))) }) rfl rfl rfl rfl trivial rfl ?_)
      refine rvc_nil ?_
      refine Awp.ret ?_
      subst hR
      exact ⟨.inl rfl, rfl⟩
    ·
      replace hR := of_false h2 hR
      refine Awp.cons C (fun _ => .pure) (by kernel_rfl) ?_
      refine rvc_un (rexec_prim C (δ := { v := .pv (.lit (.bool ((IntKind.i64.wrap ((IntKind.u64.wrap k.op).tmod 5)) == 2))) }) rfl rfl rfl rfl trivial rfl ?_)
      refine rvc_un (rexec_prim C (δ := { v := .pv (.lit (.bool ((IntKind.i64.wrap ((IntKind.u64.wrap k.op).tmod 5)) == 2))) }) rfl rfl rfl rfl trivial rfl ?_)
      refine rvc_nil ?_
      refine Awp.cond (b := ((IntKind.i64.wrap ((IntKind.u64.wrap k.op).tmod 5)) == 2)) rfl (fun h3 => ?_) (fun h3 => ?_)
      ·
        replace hR := of_true h3 hR
        refine Awp.cons C (fun _ => .pure) (by kernel_rfl) ?_
        refine rvc_un (rexec_prim C (δ := { v := .agg [.pv (.lit (.int .i64 c.epoch)), sS (some c.members.nil) eMember c.members.D] }) rfl rfl rfl rfl trivial rfl ?_)
        refine rvc_un (rexec_prim C (δ := { v := .ptr 3 1 }) rfl rfl rfl rfl trivial rfl ?_)
        refine rvc_un (rexec_prim C (δ := { v := .pv (.lit (.int .i64 k.node)) }) rfl rfl rfl rfl trivial rfl ?_)
        refine rvc_un (rexec_prim C (δ := { v := .ptr 3 2 }) rfl rfl rfl rfl trivial rfl ?_)
        refine rvc_un (rexec_prim C (δ := { v := .pv (.lit (.int .i64 k.site)) }) rfl rfl rfl rfl trivial rfl ?_)
        refine rvc_un (rexec_prim C (δ := { v := .ptr 3 3 }) rfl rfl rfl rfl trivial rfl ?_)
        refine rvc_un (rexec_prim C (δ := { v := .pv (.lit (.bool k.fresh)) }) rfl rfl rfl rfl trivial rfl ?_)
        refine rvc_un (rexec_prim C (δ := { v := .agg [.pv (.lit (.int .i64 k.node)), .pv (.lit (.int .i64 k.site)), .pv (.lit (.bool k.fresh))] }) rfl rfl rfl rfl trivial rfl ?_)
        refine rvc_un (rexec_call hP C rfl rfl rfl (join_calls c (Member.mk k.node k.site k.fresh) hn hl1) ?_)
        refine rvc_un (rexec_prim C (δ := { v := .agg [.pv (.lit (.int .i64 ((join c (Member.mk k.node k.site k.fresh)).1.epoch))), sS (some (join c (Member.mk k.node k.site k.fresh)).1.members.nil) eMember ((join c (Member.mk k.node k.site k.fresh)).1.members.D)] }) rfl rfl rfl rfl trivial rfl ?_)
        refine rvc_un (rexec_prim C (δ := { v := .pv (.lit (.int .i64 ((join c (Member.mk k.node k.site k.fresh)).2))) }) rfl rfl rfl rfl trivial rfl ?_)
        refine rvc_un (rexec_prim C (δ := { v := .undef, wr := [(4, some (.cells [.pv (.lit (.int .i64 ((join c (Member.mk k.node k.site k.fresh)).1.epoch))), sS (some (join c (Member.mk k.node k.site k.fresh)).1.members.nil) eMember ((join c (Member.mk k.node k.site k.fresh)).1.members.D)]))] }) rfl rfl rfl rfl trivial rfl ?_) -- tNone store
        refine rvc_un (rexec_prim C (δ := { v := .pv (.lit (.int .i64 ((join c (Member.mk k.node k.site k.fresh)).2))) }) rfl rfl rfl rfl trivial rfl ?_)
        refine rvc_nil ?_
        refine Awp.ret ?_
        subst hR
        exact ⟨.inl rfl, rfl⟩
      ·
        replace hR := of_false h3 hR
        refine Awp.cons C (fun _ => .pure) (by kernel_rfl) ?_
        refine rvc_un (rexec_prim C (δ := { v := .pv (.lit (.bool ((IntKind.i64.wrap ((IntKind.u64.wrap k.op).tmod 5)) == 3))) }) rfl rfl rfl rfl trivial rfl ?_)
        refine rvc_un (rexec_prim C (δ := { v := .pv (.lit (.bool ((IntKind.i64.wrap ((IntKind.u64.wrap k.op).tmod 5)) == 3))) }) rfl rfl rfl rfl trivial rfl ?_)
        refine rvc_nil ?_
        refine Awp.cond (b := ((IntKind.i64.wrap ((IntKind.u64.wrap k.op).tmod 5)) == 3)) rfl (fun h4 => ?_) (fun h4 => ?_)
        ·
          replace hR := of_true h4 hR
          refine Awp.cons C (fun _ => .pure) (by kernel_rfl) ?_
          refine rvc_un (rexec_prim C (δ := { v := .agg [.pv (.lit (.int .i64 c.epoch)), sS (some c.members.nil) eMember c.members.D] }) rfl rfl rfl rfl trivial rfl ?_)
          refine rvc_un (rexec_prim C (δ := { v := .ptr 3 1 }) rfl rfl rfl rfl trivial rfl ?_)
          refine rvc_un (rexec_prim C (δ := { v := .pv (.lit (.int .i64 k.node)) }) rfl rfl rfl rfl trivial rfl ?_)
          refine rvc_un (rexec_call hP C rfl rfl rfl (again_calls c k.node hl1) ?_)
          refine rvc_un (rexec_prim C (δ := { v := .agg [.pv (.lit (.int .i64 ((again c k.node).1.epoch))), sS (some (again c k.node).1.members.nil) eMember ((again c k.node).1.members.D)] }) rfl rfl rfl rfl trivial rfl ?_)
          refine rvc_un (rexec_prim C (δ := { v := .pv (.lit (.int .i64 ((again c k.node).2))) }) rfl rfl rfl rfl trivial rfl ?_)
          refine rvc_un (rexec_prim C (δ := { v := .undef, wr := [(4, some (.cells [.pv (.lit (.int .i64 ((again c k.node).1.epoch))), sS (some (again c k.node).1.members.nil) eMember ((again c k.node).1.members.D)]))] }) rfl rfl rfl rfl trivial rfl ?_) -- tNone store
          refine rvc_un (rexec_prim C (δ := { v := .pv (.lit (.int .i64 ((again c k.node).2))) }) rfl rfl rfl rfl trivial rfl ?_)
          refine rvc_nil ?_
          refine Awp.ret ?_
          subst hR
          exact ⟨.inl rfl, rfl⟩
        ·
          replace hR := of_false h4 hR
          refine Awp.skip ?_
          refine Awp.cons C (fun _ => .pure) (by kernel_rfl) ?_
          refine rvc_un (rexec_prim C (δ := { v := .agg [.pv (.lit (.int .i64 c.epoch)), sS (some c.members.nil) eMember c.members.D] }) rfl rfl rfl rfl trivial rfl ?_)
          refine rvc_un (rexec_prim C (δ := { v := .ptr 3 1 }) rfl rfl rfl rfl trivial rfl ?_)
          refine rvc_un (rexec_prim C (δ := { v := .pv (.lit (.int .i64 k.node)) }) rfl rfl rfl rfl trivial rfl ?_)
          refine rvc_un (rexec_call hP C rfl rfl rfl (ready_calls c k.node hn hl1) ?_)
          refine rvc_un (rexec_prim C (δ := { v := .agg [.pv (.lit (.int .i64 ((ready c k.node).1.epoch))), sS (some (ready c k.node).1.members.nil) eMember ((ready c k.node).1.members.D)] }) rfl rfl rfl rfl trivial rfl ?_)
          refine rvc_un (rexec_prim C (δ := { v := .pv (.lit (.int .i64 ((ready c k.node).2))) }) rfl rfl rfl rfl trivial rfl ?_)
          refine rvc_un (rexec_prim C (δ := { v := .undef, wr := [(4, some (.cells [.pv (.lit (.int .i64 ((ready c k.node).1.epoch))), sS (some (ready c k.node).1.members.nil) eMember ((ready c k.node).1.members.D)]))] }) rfl rfl rfl rfl trivial rfl ?_) -- tNone store
          refine rvc_un (rexec_prim C (δ := { v := .pv (.lit (.int .i64 ((ready c k.node).2))) }) rfl rfl rfl rfl trivial rfl ?_)
          refine rvc_nil ?_
          refine Awp.ret ?_
          subst hR
          exact ⟨.inl rfl, rfl⟩

end Go.Proofs.Ytjhphpoihadmkaa

/- Changes of chains: the code's and the document's are alike. No conditions. -/
namespace Go.Proofs.Ytjhphpoihadmkaa
open Go.Am

def eqC (a b : Chain) : Prop := a.epoch = b.epoch ∧ a.members.D = b.members.D
def eqP (p q : Chain × Int) : Prop := eqC p.1 q.1 ∧ p.2 = q.2
theorem eqC_refl (a : Chain) : eqC a a := ⟨rfl, rfl⟩
theorem rSame_of {a b : Chain} (h : eqC a b) : rSame a b = true := by
  have := same_self b
  rw [same_eq] at this
  unfold rSame at this ⊢
  rw [h.1, h.2]; exact this
theorem clone_eq {s : Sl Member} (h : s.nil = true → s.D = []) : cloneMembers s = s := by
  unfold cloneMembers
  cases s with
  | mk f D =>
    cases f
    · rfl
    · have h : D = [] := h rfl
      rw [h]; rfl

/-! ### Drop, DropSite -/
def finW (c : Chain) (l : List Member) : Chain × Int :=
  bif decide (c.epoch ≥ 1099511627776) then (Chain.mk 0 (Sl.mk true []), 5) else bif ((l.length : Int) == (c.members.D.length : Int)) then (Chain.mk 0 (Sl.mk true []), 81) else bif ((l.length : Int) == 0) then (Chain.mk 0 (Sl.mk true []), 83) else (after c (Sl.mk l.isEmpty l), 0)
theorem without_l0_eq (c : Chain) (gone : Int) : ∀ (xs : List Member) (i : Nat) (l : List Member), without_l0 c gone xs i l = finW c (if l = [] then (xs.filter fun x => !mHas gone x.node).dropWhile (·.fresh) else l ++ xs.filter fun x => !mHas gone x.node)
  | [], _, l => by
    unfold without_l0 finW
    cases l <;> simp
  | x :: xs, i, l => by
    unfold without_l0
    cases hk : mHas gone x.node
    · cases l with
      | nil =>
        cases hf : x.fresh
        · simp [without_l0_eq c gone xs, hk, hf]
        · simp [without_l0_eq c gone xs, hk, hf]
      | cons y l =>
        have : decide ((((y :: l).length : Nat) : Int) > 0) = true := by simp
        rw [this]
        simp [without_l0_eq c gone xs, hk]
    · simp [without_l0_eq c gone xs, hk]
theorem without_eq (c : Chain) (gone : Int) : without c gone = finW c ((c.members.D.filter fun x => !mHas gone x.node).dropWhile (·.fresh)) := by
  unfold without; rw [without_l0_eq]; rfl

def finC (c : Chain) (l : Sl Member) : Chain × Int :=
  bif ((l.D.length : Int) == (c.members.D.length : Int)) then (Chain.mk 0 (Sl.mk true []), 81) else bif ((l.D.length : Int) == 0) then (Chain.mk 0 (Sl.mk true []), 83) else (Chain.mk (IntKind.i64.wrap (c.epoch + 1)) l, 0)
theorem rCut_l1_eq (c : Chain) : ∀ (n : Nat) (l : Sl Member), l.D.length < n → rCut_l1 c n l = finC c ⟨l.nil, l.D.dropWhile (·.fresh)⟩
  | 0, _, h => by omega
  | n + 1, ⟨f, []⟩, _ => rfl
  | n + 1, ⟨f, x :: l⟩, h => by
    have h' : l.length < n := by simp only [List.length_cons] at h; omega
    have ih := rCut_l1_eq c n ⟨f, l⟩ h'
    unfold rCut_l1
    have e1 : decide ((((x :: l).length : Nat) : Int) > 0) = true := by simp
    simp only [e1, cond_true]
    have e2 : (x :: l)[0]! = x := rfl
    rw [e2]
    cases hf : x.fresh
    · simp only [cond_false, List.dropWhile_cons, hf]; rfl
    · simp only [cond_true, List.dropWhile_cons, hf, if_true]
      exact ih
theorem rCut_l0_eq (c : Chain) (node site : Int) : ∀ (xs : List Member) (i : Nat) (l : List Member), rCut_l0 c node site xs i l = finC c ⟨(l ++ xs.filter fun x => x.node != node && x.site != site).isEmpty, (l ++ xs.filter fun x => x.node != node && x.site != site).dropWhile (·.fresh)⟩
  | [], _, l => by
    unfold rCut_l0
    rw [rCut_l1_eq c _ _ (Nat.lt_succ_self _)]
    simp
  | x :: xs, i, l => by
    unfold rCut_l0
    cases h1 : x.node != node
    · simp [rCut_l0_eq c node site xs, h1]
    · cases h2 : x.site != site
      · simp [rCut_l0_eq c node site xs, h1, h2]
      · simp [rCut_l0_eq c node site xs, h1, h2]
theorem epoch_of {c : Chain} (h : check c = 0) : 1 ≤ c.epoch ∧ c.epoch ≤ 1099511627776 := by
  unfold check at h
  obtain ⟨h1, h⟩ := bif_const (by decide) h
  obtain ⟨h2, h⟩ := bif_const (by decide) h
  have := of_decide_eq_false h1
  have := of_decide_eq_false h2
  omega
theorem cut_eq {c : Chain} (hc : check c = 0) (gone node site : Int) (h : ∀ x ∈ c.members.D, (!mHas gone x.node) = (x.node != node && x.site != site)) : eqP (without c gone) (rCut c node site) := by
  rw [without_eq, List.filter_congr h]
  unfold rCut
  rw [← check_eq, hc, rCut_l0_eq]
  simp only [List.nil_append]
  generalize (c.members.D.filter fun x => x.node != node && x.site != site) = l
  obtain ⟨e1, e2⟩ := epoch_of hc
  have hne : ((0 : Int) != 0) = false := rfl
  rw [hne, cond_false]
  unfold finW finC
  by_cases he : c.epoch = 1099511627776
  · have d1 : decide (c.epoch ≥ 1099511627776) = true := by simp; omega
    have d2 : (c.epoch == 1099511627776) = true := by simp [he]
    rw [d1, d2]; exact ⟨eqC_refl _, rfl⟩
  · have d1 : decide (c.epoch ≥ 1099511627776) = false := by simp; omega
    have d2 : (c.epoch == 1099511627776) = false := by simp [he]
    rw [d1, d2]
    simp only [cond_false]
    cases (((l.dropWhile (·.fresh)).length : Int) == (c.members.D.length : Int))
    · cases (((l.dropWhile (·.fresh)).length : Int) == 0)
      · exact ⟨⟨rfl, rfl⟩, rfl⟩
      · exact ⟨eqC_refl _, rfl⟩
    · exact ⟨eqC_refl _, rfl⟩
theorem mem_ok {c : Chain} (hc : check c = 0) {x : Member} (hx : x ∈ c.members.D) : 0 ≤ x.node ∧ x.node ≤ 5 ∧ 0 ≤ x.site ∧ x.site ≤ 2 :=
  (member_iff x).1 (ok_member _ _ (ok_of_check hc) x hx)
theorem has_mask (n m : Int) (h : 0 ≤ m ∧ m ≤ 5) : mHas (maskOf ⟨false, [n]⟩) m = (m == n) := by
  obtain ⟨k, rfl⟩ : ∃ k : Nat, m = (k : Int) := ⟨m.toNat, by omega⟩
  show mHas (mWith ((0 : Nat) : Int) n) (k : Int) = _
  cases hn : mIn n
  · rw [with_out hn, has_nat (by decide) (by omega)]
    have : (((k : Nat) : Int) == n) = false := by
      rw [beq_eq_false_iff_ne]
      intro e; subst e
      rw [in_nat] at hn
      have := of_decide_eq_false hn
      omega
    rw [this]; simp
  · obtain ⟨h1, h2⟩ := (in_iff n).1 hn
    obtain ⟨j, rfl⟩ : ∃ j : Nat, n = (j : Int) := ⟨n.toNat, by omega⟩
    rw [has_with (by decide) (by omega) (by omega), has_nat (by decide) (by omega)]
    by_cases e : j = k
    · simp [e]
    · have : ((k : Int) == (j : Int)) = false := by simp; omega
      rw [this]; simp [e]
theorem check_80 (c : Chain) : check c = 0 ∨ check c = 80 := by
  unfold check
  have h1 : check_l0 c.members.D 0 0 0 = bif okFrom [] c.members.D then 0 else 80 := check_l0_eq c.members.D [] 0 0 0 ⟨by decide, fun n hn => by
    have := has_nat (S := 0) (n := n) (by decide) (by omega)
    rw [this]; simp, fun y hy => (by cases hy), .inl rfl⟩
  rw [h1]
  cases decide (c.epoch < 1) <;> cases decide (c.epoch > 1099511627776) <;> cases ((c.members.D.length : Int) == 0) <;> cases c.members.D[0]!.fresh <;> cases okFrom [] c.members.D <;> simp
theorem check_bad {c : Chain} (h : (check c != 0) = true) : check c = 80 := by
  rcases check_80 c with h' | h'
  · rw [h'] at h; cases h
  · exact h'
theorem cut_bad {c : Chain} (h : (check c != 0) = true) (n s : Int) : rCut c n s = (Chain.mk 0 (Sl.mk true []), 80) := by
  unfold rCut; rw [← check_eq, h]; rfl
theorem drop_eq (c : Chain) (node : Int) : eqP (drop c node) (bif (node == (-1)) then rCut c (-2) (-1) else rCut c node (-1)) := by
  unfold drop
  cases hc : check c != 0
  case true =>
    rw [cut_bad hc, cut_bad hc, check_bad hc]
    cases (node == (-1)) <;> exact ⟨eqC_refl _, rfl⟩
  have hc := eq_of_bne_false hc
  have hm : ∀ x ∈ c.members.D, mHas (maskOf ⟨false, [node]⟩) x.node = (x.node == node) := fun x hx => has_mask _ _ ⟨(mem_ok hc hx).1, (mem_ok hc hx).2.1⟩
  show eqP (without c _) _
  cases hn : node == (-1)
  · refine cut_eq hc _ _ _ fun x hx => ?_
    obtain ⟨m1, m2, m3, m4⟩ := mem_ok hc hx
    rw [hm x hx]
    have : (x.site != -1) = true := by simp; omega
    rw [this]; simp [bne]
  · refine cut_eq hc _ _ _ fun x hx => ?_
    obtain ⟨m1, m2, m3, m4⟩ := mem_ok hc hx
    have hn : node = -1 := by simpa using hn
    rw [hm x hx]
    have e1 : (x.site != -1) = true := by simp; omega
    have e2 : (x.node != -2) = true := by simp; omega
    have e3 : (x.node == node) = false := by simp; omega
    rw [e1, e2, e3]; rfl

theorem ok_inj : ∀ (l pre : List Member), okFrom pre l = true → ∀ x ∈ l, ∀ y ∈ l, x.node = y.node → x = y
  | [], _, _, x, hx, _, _, _ => by cases hx
  | z :: l, pre, h, x, hx, y, hy, e => by
    simp only [okFrom, Bool.and_eq_true] at h
    obtain ⟨_, h3⟩ := h
    cases hx with
    | head => cases hy with
      | head => rfl
      | tail _ hy => exact absurd e (ok_apart l _ h3 y hy z (by simp))
    | tail _ hx => cases hy with
      | head => exact absurd e.symm (ok_apart l _ h3 x hx _ (List.mem_append_right _ (List.mem_cons_self ..)))
      | tail _ hy => exact ok_inj l _ h3 x hx y hy e
theorem dropSite_l0_eq (c : Chain) (site : Int) : ∀ (l : List Member) (i S : Nat), S < 18446744073709551616 → dropSite_l0 c site l i (S : Int) = without c ((bitsOf (fun x => x.site == site) l S : Nat) : Int) ∧ bitsOf (fun x => x.site == site) l S < 18446744073709551616
  | [], _, S, h => ⟨rfl, h⟩
  | x :: l, i, S, h => by
    have hb : bitsOf (fun x => x.site == site) (x :: l) S = bitsOf (fun x => x.site == site) l (if (x.site == site) && mIn x.node then S ||| 2 ^ x.node.toNat else S) := rfl
    rw [hb]
    unfold dropSite_l0
    cases hs : x.site == site
    · exact dropSite_l0_eq c site l (i + 1) S h
    · rw [with_cast h]
      exact dropSite_l0_eq c site l (i + 1) _ (with_cast_lt h x.node)
theorem dropSite_eq (c : Chain) (site : Int) : eqP (dropSite c site) (bif (site == (-1)) then rCut c (-1) (-2) else rCut c (-1) site) := by
  unfold dropSite
  cases hc : check c != 0
  case true =>
    rw [cut_bad hc, cut_bad hc, check_bad hc]
    cases (site == (-1)) <;> exact ⟨eqC_refl _, rfl⟩
  have hc := eq_of_bne_false hc
  obtain ⟨b1, b2⟩ := dropSite_l0_eq c site c.members.D 0 0 (by decide)
  rw [show (0 : Int) = ((0 : Nat) : Int) from rfl, b1, show ((0 : Nat) : Int) = (0 : Int) from rfl]
  have hm : ∀ x ∈ c.members.D, mHas ((bitsOf (fun x => x.site == site) c.members.D 0 : Nat) : Int) x.node = (x.site == site) := fun x hx => by
    obtain ⟨m1, m2, m3, m4⟩ := mem_ok hc hx
    obtain ⟨k, hk⟩ : ∃ k : Nat, x.node = (k : Int) := ⟨x.node.toNat, by omega⟩
    rw [hk, has_nat b2 (by omega), bits_test _ (by omega)]
    simp only [Nat.zero_testBit, Bool.false_or]
    rw [Bool.eq_iff_iff, List.any_eq_true]
    constructor
    · rintro ⟨y, hy, hyy⟩
      simp only [Bool.and_eq_true, beq_iff_eq] at hyy
      have := ok_inj _ _ (ok_of_check hc) x hx y hy (by rw [hk, hyy.1])
      rw [this]; simp [hyy.2]
    · intro h
      exact ⟨x, hx, by simp [hk]; simpa using h⟩
  show eqP (without c _) _
  cases hn : site == (-1)
  · refine cut_eq hc _ _ _ fun x hx => ?_
    obtain ⟨m1, m2, m3, m4⟩ := mem_ok hc hx
    rw [hm x hx]
    have : (x.node != -1) = true := by simp; omega
    rw [this]; simp [bne]
  · refine cut_eq hc _ _ _ fun x hx => ?_
    obtain ⟨m1, m2, m3, m4⟩ := mem_ok hc hx
    have hn : site = -1 := by simpa using hn
    rw [hm x hx]
    have e1 : (x.node != -1) = true := by simp; omega
    have e2 : (x.site != -2) = true := by simp; omega
    have e3 : (x.site == site) = false := by simp; omega
    rw [e1, e2, e3]; rfl

/-! ### Join -/
theorem join_l0_eq (c : Chain) (m : Member) (hl : c.members.D.length ≤ 1000000) : ∀ (nn i : Nat), i ≤ c.members.D.length → c.members.D.length - i < nn → join_l0 c m nn (i : Int) = bif (i + ((c.members.D.drop i).takeWhile fun x => decide (x.site ≤ m.site)).length == 0) then (Chain.mk 0 (Sl.mk true []), 152) else (after c (Sl.mk false (insertL c.members.D (i + ((c.members.D.drop i).takeWhile fun x => decide (x.site ≤ m.site)).length) [Member.mk m.node m.site true])), 0)
  | 0, i, _, h => by omega
  | nn + 1, i, hi, h => by
    unfold join_l0
    have eI : (((i : Nat) : Int) == 0) = (i == 0) := by cases i <;> simp; omega
    by_cases hlt : i < c.members.D.length
    · have e1 : decide ((i : Int) < (c.members.D.length : Int)) = true := by simp; omega
      have hd : c.members.D.drop i = c.members.D[i] :: c.members.D.drop (i + 1) := List.drop_eq_getElem_cons hlt
      have hg : c.members.D[(i : Int).toNat]! = c.members.D[i] := by simp [hlt]
      rw [e1, cond_true, hg, hd, List.takeWhile_cons]
      cases hs : decide (c.members.D[i].site ≤ m.site)
      · simp [eI]
      · have e2 : IntKind.i64.wrap ((i : Int) + 1) = ((i + 1 : Nat) : Int) := by rw [wrapI _ (by omega)]; omega
        rw [e2, cond_true, join_l0_eq c m hl nn (i + 1) (by omega) (by omega)]
        simp [Nat.add_assoc, Nat.add_comm 1]
    · have e1 : decide ((i : Int) < (c.members.D.length : Int)) = false := by simp; omega
      rw [e1, cond_false, List.drop_eq_nil_of_le (by omega)]
      simp [eI]
theorem rJoin_l0_put (c : Chain) (m : Member) : ∀ (xs : List Member) (i : Nat) (vc : List Member), rJoin_l0 c m xs i true vc = (Chain.mk (IntKind.i64.wrap (c.epoch + 1)) (Sl.mk (vc ++ xs).isEmpty (vc ++ xs)), 0)
  | [], _, vc => by simp [rJoin_l0]
  | x :: xs, i, vc => by
    unfold rJoin_l0
    cases decide (x.site > m.site) <;> simp [rJoin_l0_put c m xs]
theorem rJoin_l0_eq (c : Chain) (m : Member) : ∀ (xs : List Member) (i : Nat) (vc : List Member), eqP (rJoin_l0 c m xs i false vc) (Chain.mk (IntKind.i64.wrap (c.epoch + 1)) (Sl.mk false (vc ++ xs.takeWhile (fun x => decide (x.site ≤ m.site)) ++ Member.mk m.node m.site true :: xs.dropWhile (fun x => decide (x.site ≤ m.site)))), 0)
  | [], _, vc => by
    unfold rJoin_l0
    exact ⟨⟨rfl, by simp⟩, rfl⟩
  | x :: xs, i, vc => by
    unfold rJoin_l0
    by_cases hs : x.site ≤ m.site
    · have e1 : decide (x.site > m.site) = false := by simp; omega
      rw [e1, cond_false]
      have := rJoin_l0_eq c m xs (i + 1) (vc ++ [x])
      simpa [List.takeWhile_cons, List.dropWhile_cons, hs] using this
    · have e1 : decide (x.site > m.site) = true := by simp; omega
      rw [e1, cond_true]
      simp only [Bool.not_false, cond_true]
      rw [rJoin_l0_put]
      exact ⟨⟨rfl, by simp [hs]⟩, rfl⟩
theorem join_eq (c : Chain) (n s : Int) (f : Bool) : eqP (join c ⟨n, s, f⟩) (rJoin c ⟨n, s, false⟩) := by
  unfold join rJoin
  cases hc : check c != 0
  case true =>
    rw [← check_eq, hc, check_bad hc]
    exact ⟨eqC_refl _, rfl⟩
  have hc' := hc
  have hc := eq_of_bne_false hc
  rw [← check_eq, hc']
  simp only [cond_false]
  have hl := check_le6 hc
  obtain ⟨ep1, ep2⟩ := epoch_of hc
  have hp : placeIn c n = rPlace c n := by rw [← place_eq]; unfold place0; rw [hc]; rfl
  by_cases hm : 0 ≤ n ∧ n ≤ 5 ∧ 0 ≤ s ∧ s ≤ 2
  · have e0 : member ⟨n, s, true⟩ = true := (member_iff _).2 hm
    have e1 : decide (n < 0) = false := by simp; omega
    have e2 : decide (n > 5) = false := by simp; omega
    have e3 : decide (s < 0) = false := by simp; omega
    have e4 : decide (s > 2) = false := by simp; omega
    rw [e0, hp]
    simp only [e1, e2, e3, e4, cond_false, Bool.not_true]
    cases decide (rPlace c n ≥ 0)
    case true => exact ⟨eqC_refl _, rfl⟩
    simp only [cond_false]
    have d : decide (c.epoch ≥ 1099511627776) = (c.epoch == 1099511627776) := by
      by_cases he : c.epoch = 1099511627776
      · simp [he]
      · have : decide (c.epoch ≥ 1099511627776) = false := by simp; omega
        rw [this]; simp [he]
    rw [d]
    cases (c.epoch == 1099511627776)
    case true => exact ⟨eqC_refl _, rfl⟩
    simp only [cond_false]
    have hj := join_l0_eq c ⟨n, s, f⟩ (by omega) (c.members.D.length - (0 : Int).toNat + 1) 0 (by omega) (by simp)
    rw [show ((0 : Nat) : Int) = 0 from rfl] at hj
    rw [hj]
    have hr := rJoin_l0_eq c ⟨n, s, false⟩ c.members.D 0 []
    have hne := check_len hc
    simp only [List.drop_zero, Nat.zero_add]
    obtain ⟨x, xs, hD⟩ : ∃ x xs, c.members.D = x :: xs := by
      cases hD : c.members.D with
      | nil => rw [hD] at hne; simp at hne
      | cons x xs => exact ⟨x, xs, rfl⟩
    by_cases hs : x.site ≤ s
    · have e5 : decide (c.members.D[0]!.site > s) = false := by rw [hD]; simp; omega
      rw [e5, cond_false]
      have e6 : ((c.members.D.takeWhile fun x => decide (x.site ≤ s)).length == 0) = false := by
        rw [hD, List.takeWhile_cons]; simp [hs]
      rw [e6, cond_false]
      refine ⟨⟨hr.1.1.symm, ?_⟩, hr.2.symm⟩
      rw [hr.1.2]
      show insertL _ _ _ = _
      unfold insertL
      have ht : c.members.D.take (c.members.D.takeWhile fun x => decide (x.site ≤ s)).length = c.members.D.takeWhile fun x => decide (x.site ≤ s) := by
        conv => lhs; rhs; rw [← List.takeWhile_append_dropWhile (p := fun x : Member => decide (x.site ≤ s)) (l := c.members.D)]
        exact List.take_left' rfl
      have hdd : c.members.D.drop (c.members.D.takeWhile fun x => decide (x.site ≤ s)).length = c.members.D.dropWhile fun x => decide (x.site ≤ s) := by
        conv => lhs; rhs; rw [← List.takeWhile_append_dropWhile (p := fun x : Member => decide (x.site ≤ s)) (l := c.members.D)]
        exact List.drop_left' rfl
      rw [ht, hdd]; simp
    · have e5 : decide (c.members.D[0]!.site > s) = true := by rw [hD]; simp; omega
      rw [e5, cond_true]
      have e6 : ((c.members.D.takeWhile fun x => decide (x.site ≤ s)).length == 0) = true := by
        rw [hD, List.takeWhile_cons]; simp [hs]
      rw [e6, cond_true]
      exact ⟨eqC_refl _, rfl⟩
  · have e0 : member ⟨n, s, true⟩ = false := by
      rw [Bool.eq_false_iff]; exact fun h => hm ((member_iff _).1 h)
    rw [e0]
    simp only [Bool.not_false, cond_true]
    cases h1 : decide (n < 0)
    case true => exact ⟨eqC_refl _, rfl⟩
    cases h2 : decide (n > 5)
    case true => exact ⟨eqC_refl _, rfl⟩
    cases h3 : decide (s < 0)
    case true => exact ⟨eqC_refl _, rfl⟩
    cases h4 : decide (s > 2)
    case true => exact ⟨eqC_refl _, rfl⟩
    have := of_decide_eq_false h1
    have := of_decide_eq_false h2
    have := of_decide_eq_false h3
    have := of_decide_eq_false h4
    exact absurd (by omega) hm
theorem again_eq (c : Chain) (hn : c.members.nil = true → c.members.D = []) (n : Int) : eqP (again c n) (rAgain c n) := by
  unfold again rAgain
  cases hc : check c != 0
  case true =>
    rw [← check_eq, hc, check_bad hc]
    exact ⟨eqC_refl _, rfl⟩
  have hc' := hc
  have hc := eq_of_bne_false hc
  rw [← check_eq, hc']
  obtain ⟨ep1, ep2⟩ := epoch_of hc
  have hp : placeIn c n = rPlace c n := by rw [← place_eq]; unfold place0; rw [hc]; rfl
  rw [hp]
  simp only [cond_false]
  cases decide (rPlace c n < 0)
  case true => exact ⟨eqC_refl _, rfl⟩
  have d : decide (c.epoch ≥ 1099511627776) = (c.epoch == 1099511627776) := by
    by_cases he : c.epoch = 1099511627776
    · simp [he]
    · have : decide (c.epoch ≥ 1099511627776) = false := by simp; omega
      rw [this]; simp [he]
  rw [d]
  cases (c.epoch == 1099511627776)
  case true => exact ⟨eqC_refl _, rfl⟩
  rw [clone_eq hn]
  exact ⟨⟨rfl, rfl⟩, rfl⟩

/-! ### Ready -/
def readyL (p : Int) : List Member → Nat → List Member
  | [], _ => []
  | x :: xs, i => (bif x.fresh then Member.mk x.node x.site ((i : Int) != p) else Member.mk x.node x.site false) :: readyL p xs (i + 1)
theorem rReady_l0_eq (c : Chain) (n : Int) : ∀ (xs : List Member) (i : Nat) (vc : List Member), rReady_l0 c n xs i vc = (Chain.mk c.epoch (Sl.mk (vc ++ readyL (rPlace c n) xs i).isEmpty (vc ++ readyL (rPlace c n) xs i)), 0)
  | [], _, vc => by simp [rReady_l0, readyL]
  | x :: xs, i, vc => by
    unfold rReady_l0 readyL
    cases x.fresh <;> simp [rReady_l0_eq c n xs]
theorem readyL_lt (p : Int) : ∀ (xs : List Member) (i : Nat), p < (i : Int) → readyL p xs i = xs
  | [], _, _ => rfl
  | ⟨a, b, f⟩ :: xs, i, h => by
    unfold readyL
    rw [readyL_lt p xs (i + 1) (by omega)]
    have : ((i : Int) != p) = true := by simp; omega
    cases f <;> simp [this]
theorem readyL_at (p : Nat) : ∀ (xs : List Member) (i : Nat), readyL ((i + p : Nat) : Int) xs i = xs.set p (Member.mk xs[p]!.node xs[p]!.site false)
  | [], _ => rfl
  | ⟨a, b, f⟩ :: xs, i => by
    unfold readyL
    cases p with
    | zero =>
      rw [readyL_lt _ xs (i + 1) (by omega)]
      cases f <;> simp
    | succ p =>
      have := readyL_at p xs (i + 1)
      rw [show i + (p + 1) = i + 1 + p by omega, this]
      have : ((i : Int) != ((i + 1 + p : Nat) : Int)) = true := by rw [bne_iff_ne]; omega
      rw [this]
      cases f <;> simp
theorem ready_eq (c : Chain) (n : Int) : eqP (ready c n) (rReady c n) := by
  unfold ready rReady
  cases hc : check c != 0
  case true =>
    rw [← check_eq, hc, check_bad hc]
    exact ⟨eqC_refl _, rfl⟩
  have hc' := hc
  have hc := eq_of_bne_false hc
  rw [← check_eq, hc']
  have hp : placeIn c n = rPlace c n := by rw [← place_eq]; unfold place0; rw [hc]; rfl
  rw [hp]
  simp only [cond_false]
  cases h1 : decide (rPlace c n < 0)
  case true => exact ⟨eqC_refl _, rfl⟩
  have h1 := of_decide_eq_false h1
  simp only [cond_false]
  cases !(c.members.D[(rPlace c n).toNat]!).fresh
  case true => exact ⟨eqC_refl _, rfl⟩
  simp only [cond_false]
  rw [rReady_l0_eq]
  refine ⟨⟨rfl, ?_⟩, rfl⟩
  show List.set _ _ _ = [] ++ _
  have := readyL_at (rPlace c n).toNat c.members.D 0
  rw [show ((0 + (rPlace c n).toNat : Nat) : Int) = rPlace c n by omega] at this
  rw [this]; rfl

theorem does_eq (c : Chain) (hn : c.members.nil = true → c.members.D = []) (k : Do) : eqP (does c k) (also c k) := by
  unfold does also
  cases ((IntKind.i64.wrap ((IntKind.u64.wrap k.op).tmod 5)) == 0)
  case true =>
    have := drop_eq c k.node
    simp only [cond_true]
    revert this
    cases (k.node == (-1)) <;> exact id
  cases ((IntKind.i64.wrap ((IntKind.u64.wrap k.op).tmod 5)) == 1)
  case true =>
    have := dropSite_eq c k.site
    simp only [cond_true, cond_false]
    revert this
    cases (k.site == (-1)) <;> exact id
  cases ((IntKind.i64.wrap ((IntKind.u64.wrap k.op).tmod 5)) == 2)
  case true => exact join_eq c _ _ _
  cases ((IntKind.i64.wrap ((IntKind.u64.wrap k.op).tmod 5)) == 3)
  case true => exact again_eq c hn _
  exact ready_eq c _

/-! ### No longer than that -/
theorem finW_len (c : Chain) (l : List Member) : (finW c l).1.members.D.length ≤ l.length := by
  unfold finW
  cases decide (c.epoch ≥ 1099511627776)
  · cases ((l.length : Int) == (c.members.D.length : Int))
    · cases ((l.length : Int) == 0)
      · exact Nat.le_refl _
      · exact Nat.zero_le _
    · exact Nat.zero_le _
  · exact Nat.zero_le _
theorem without_len (c : Chain) (gone : Int) : (without c gone).1.members.D.length ≤ c.members.D.length + 1 := by
  rw [without_eq]
  have h1 := finW_len c ((c.members.D.filter fun x => !mHas gone x.node).dropWhile (·.fresh))
  have h2 := (List.dropWhile_sublist (p := fun x : Member => x.fresh) (l := c.members.D.filter fun x => !mHas gone x.node)).length_le
  have h3 := List.length_filter_le (fun x : Member => !mHas gone x.node) c.members.D
  omega
theorem does_len (c : Chain) (k : Do) : (does c k).1.members.D.length ≤ c.members.D.length + 1 := by
  unfold does
  cases ((IntKind.i64.wrap ((IntKind.u64.wrap k.op).tmod 5)) == 0)
  case true =>
    show (drop c k.node).1.members.D.length ≤ _
    unfold drop
    cases check c != 0
    · exact without_len _ _
    · exact Nat.zero_le _
  cases ((IntKind.i64.wrap ((IntKind.u64.wrap k.op).tmod 5)) == 1)
  case true =>
    show (dropSite c k.site).1.members.D.length ≤ _
    unfold dropSite
    cases check c != 0
    · have := (dropSite_l0_eq c k.site c.members.D 0 0 (by decide)).1
      rw [show ((0 : Nat) : Int) = 0 from rfl] at this
      rw [cond_false, this]
      exact without_len _ _
    · exact Nat.zero_le _
  cases ((IntKind.i64.wrap ((IntKind.u64.wrap k.op).tmod 5)) == 2)
  case true =>
    show (join c ⟨k.node, k.site, k.fresh⟩).1.members.D.length ≤ _
    unfold join
    cases hc : check c != 0
    case true => exact Nat.zero_le _
    have hl := check_le6 (eq_of_bne_false hc)
    cases !member ⟨k.node, k.site, true⟩
    case true => exact Nat.zero_le _
    cases decide (placeIn c k.node ≥ 0)
    case true => exact Nat.zero_le _
    cases decide (c.epoch ≥ 1099511627776)
    case true => exact Nat.zero_le _
    have hj := join_l0_eq c ⟨k.node, k.site, k.fresh⟩ (by omega) (c.members.D.length - (0 : Int).toNat + 1) 0 (by omega) (by simp)
    rw [show ((0 : Nat) : Int) = 0 from rfl] at hj
    simp only [cond_false, hj]
    cases (0 + (List.takeWhile (fun x => decide (x.site ≤ k.site)) (c.members.D.drop 0)).length == 0)
    · show (insertL _ _ _).length ≤ _
      have := (List.takeWhile_sublist (p := fun x : Member => decide (x.site ≤ k.site)) (l := c.members.D)).length_le
      rw [insertL_len (by simpa using this)]
      exact Nat.le_refl _
    · exact Nat.zero_le _
  cases ((IntKind.i64.wrap ((IntKind.u64.wrap k.op).tmod 5)) == 3)
  case true =>
    show (again c k.node).1.members.D.length ≤ _
    unfold again
    cases check c != 0
    case true => exact Nat.zero_le _
    cases decide (placeIn c k.node < 0)
    case true => exact Nat.zero_le _
    cases decide (c.epoch ≥ 1099511627776)
    case true => exact Nat.zero_le _
    exact Nat.le_succ_of_le (clone_len _)
  show (ready c k.node).1.members.D.length ≤ _
  unfold ready
  cases check c != 0
  case true => exact Nat.zero_le _
  cases decide (placeIn c k.node < 0)
  case true => exact Nat.zero_le _
  cases !(c.members.D[(placeIn c k.node).toNat]!.fresh)
  case true => exact Nat.zero_le _
  show (List.set _ _ _).length ≤ _
  rw [List.length_set]; omega
theorem also_len (c : Chain) (hn : c.members.nil = true → c.members.D = []) (k : Do) : (also c k).1.members.D.length ≤ c.members.D.length + 1 := by
  rw [← (does_eq c hn k).1.2]; exact does_len c k
end Go.Proofs.Ytjhphpoihadmkaa

/- Changes of chains: what the law LayoutComes needs to be walked. No conditions. -/
namespace Go.Proofs.Ytjhphpoihadmkaa
open Go.Am
theorem finW_hn (c : Chain) (l : List Member) : (finW c l).1.members.nil = true → (finW c l).1.members.D = [] := by
  unfold finW
  cases decide (c.epoch ≥ 1099511627776)
  · cases ((l.length : Int) == (c.members.D.length : Int))
    · cases ((l.length : Int) == 0)
      · intro h
        exact List.isEmpty_iff.1 (show l.isEmpty = true from h)
      · exact fun _ => rfl
    · exact fun _ => rfl
  · exact fun _ => rfl
theorem without_hn (c : Chain) (gone : Int) : (without c gone).1.members.nil = true → (without c gone).1.members.D = [] := by
  rw [without_eq]; exact finW_hn c _
theorem does_hn {c : Chain} (k : Do) : (does c k).1.members.nil = true → (does c k).1.members.D = [] := by
  unfold does
  cases ((IntKind.i64.wrap ((IntKind.u64.wrap k.op).tmod 5)) == 0)
  case true =>
    show (drop c k.node).1.members.nil = true → (drop c k.node).1.members.D = []
    unfold drop
    cases check c != 0
    · exact without_hn _ _
    · exact fun _ => rfl
  cases ((IntKind.i64.wrap ((IntKind.u64.wrap k.op).tmod 5)) == 1)
  case true =>
    show (dropSite c k.site).1.members.nil = true → (dropSite c k.site).1.members.D = []
    unfold dropSite
    cases check c != 0
    · have := (dropSite_l0_eq c k.site c.members.D 0 0 (by decide)).1
      rw [show ((0 : Nat) : Int) = 0 from rfl] at this
      rw [cond_false, this]
      exact without_hn _ _
    · exact fun _ => rfl
  cases ((IntKind.i64.wrap ((IntKind.u64.wrap k.op).tmod 5)) == 2)
  case true =>
    show (join c ⟨k.node, k.site, k.fresh⟩).1.members.nil = true → (join c ⟨k.node, k.site, k.fresh⟩).1.members.D = []
    unfold join
    cases hc : check c != 0
    case true => exact fun _ => rfl
    have hl := check_le6 (eq_of_bne_false hc)
    cases !member ⟨k.node, k.site, true⟩
    case true => exact fun _ => rfl
    cases decide (placeIn c k.node ≥ 0)
    case true => exact fun _ => rfl
    cases decide (c.epoch ≥ 1099511627776)
    case true => exact fun _ => rfl
    have hj := join_l0_eq c ⟨k.node, k.site, k.fresh⟩ (by omega) (c.members.D.length - (0 : Int).toNat + 1) 0 (by omega) (by simp)
    rw [show ((0 : Nat) : Int) = 0 from rfl] at hj
    simp only [cond_false, hj]
    cases (0 + (List.takeWhile (fun x => decide (x.site ≤ k.site)) (c.members.D.drop 0)).length == 0)
    · intro h; cases h
    · exact fun _ => rfl
  cases ((IntKind.i64.wrap ((IntKind.u64.wrap k.op).tmod 5)) == 3)
  case true =>
    show (again c k.node).1.members.nil = true → (again c k.node).1.members.D = []
    unfold again
    cases check c != 0
    case true => exact fun _ => rfl
    cases decide (placeIn c k.node < 0)
    case true => exact fun _ => rfl
    cases decide (c.epoch ≥ 1099511627776)
    case true => exact fun _ => rfl
    exact clone_hn _
  show (ready c k.node).1.members.nil = true → (ready c k.node).1.members.D = []
  unfold ready
  cases check c != 0
  case true => exact fun _ => rfl
  cases decide (placeIn c k.node < 0)
  case true => exact fun _ => rfl
  cases !(c.members.D[(placeIn c k.node).toNat]!.fresh)
  case true => exact fun _ => rfl
  intro h; cases h

/-! ### The first chain -/
def unf (m : Member) : Member := ⟨m.node, m.site, false⟩
theorem firstC_l1_eq (i : Nat) (kk : List Member → Chain × Int) : ∀ (xs : List Member) (j : Nat) (vc : List Member), firstC_l1 i kk xs j vc = kk (vc ++ (xs.filter fun x => x.site == (i : Int)).map unf)
  | [], _, vc => by simp [firstC_l1]
  | x :: xs, j, vc => by
    unfold firstC_l1
    cases h : x.site == (i : Int)
    · simp [firstC_l1_eq i kk xs, h]
    · simp [firstC_l1_eq i kk xs, h, unf]
def bySite (l : List Member) (i : Nat) : List Member := (l.filter fun x => x.site == (i : Int)).map unf
def finF (l : Sl Member) (vc : List Member) : Chain × Int :=
  bif ((vc.length : Int) != (l.D.length : Int)) then (Chain.mk 0 (Sl.mk true []), 80) else bif check (Chain.mk 1 (Sl.mk vc.isEmpty vc)) != 0 then (Chain.mk 0 (Sl.mk true []), 80) else (Chain.mk 1 (Sl.mk vc.isEmpty vc), 0)
theorem firstC_eq (l : Sl Member) : firstC l = finF l (bySite l.D 0 ++ bySite l.D 1 ++ bySite l.D 2) := by
  unfold firstC
  unfold firstC_l0
  rw [firstC_l1_eq]
  unfold firstC_l0
  rw [firstC_l1_eq]
  unfold firstC_l0
  rw [firstC_l1_eq]
  unfold firstC_l0
  rfl
theorem firstC_len (l : Sl Member) : (firstC l).1.members.D.length ≤ l.D.length := by
  rw [firstC_eq]
  generalize bySite l.D 0 ++ bySite l.D 1 ++ bySite l.D 2 = vc
  unfold finF
  cases h : ((vc.length : Int) != (l.D.length : Int))
  · have h := eq_of_bne_false h
    cases check (Chain.mk 1 (Sl.mk vc.isEmpty vc)) != 0
    · show vc.length ≤ _; omega
    · exact Nat.zero_le _
  · exact Nat.zero_le _
theorem firstC_hn (l : Sl Member) : (firstC l).1.members.nil = true → (firstC l).1.members.D = [] := by
  rw [firstC_eq]
  generalize bySite l.D 0 ++ bySite l.D 1 ++ bySite l.D 2 = vc
  unfold finF
  cases ((vc.length : Int) != (l.D.length : Int))
  · cases check (Chain.mk 1 (Sl.mk vc.isEmpty vc)) != 0
    · intro h
      exact List.isEmpty_iff.1 (show vc.isEmpty = true from h)
    · exact fun _ => rfl
  · exact fun _ => rfl
theorem firstC_ok {l : Sl Member} (h : (firstC l).2 = 0) : check (firstC l).1 = 0 := by
  rw [firstC_eq] at h ⊢
  generalize bySite l.D 0 ++ bySite l.D 1 ++ bySite l.D 2 = vc at h ⊢
  unfold finF at h ⊢
  cases h1 : ((vc.length : Int) != (l.D.length : Int))
  · rw [h1] at h
    cases h2 : check (Chain.mk 1 (Sl.mk vc.isEmpty vc)) != 0
    · exact eq_of_bne_false h2
    · rw [h2] at h; cases h
  · rw [h1] at h; cases h
end Go.Proofs.Ytjhphpoihadmkaa

/- The law of whatever becomes of a chain. No conditions. -/
namespace Go.Proofs.Ytjhphpoihadmkaa
open Go.Am
def lawComes_l0 : List Do → Nat → Int → (Sl Member) → Bool
  | [], _, _, _ => (awake )
  | x :: xs, i, vc, vc1 => (bif (((does (Chain.mk vc vc1) x).2) != 0) then (bif ((((does (Chain.mk vc vc1) x).1.members.D).length : Int) != 0) then false else lawComes_l0 xs (i + 1) vc vc1) else (bif ((check ((does (Chain.mk vc vc1) x).1)) != 0) then false else (bif ((IntKind.i64.wrap ((IntKind.u64.wrap x.op).tmod 5)) == 4) then (bif (((does (Chain.mk vc vc1) x).1.epoch) != vc) then false else (bif ((nodes ((does (Chain.mk vc vc1) x).1)) != (nodes (Chain.mk vc vc1))) then false else (bif ((mLen (mBut (whole ((does (Chain.mk vc vc1) x).1)) (whole (Chain.mk vc vc1)))) != 1) then false else (bif (!((IntKind.i64.wrap ((IntKind.u64.wrap x.op).tmod 5)) == 4)) then (bif (((does (Chain.mk vc vc1) x).1.epoch) != (IntKind.i64.wrap (vc + 1))) then false else (bif (!(follows (Chain.mk vc vc1) ((does (Chain.mk vc vc1) x).1))) then false else (bif (!(mHas (whole ((does (Chain.mk vc vc1) x).1)) (headC ((does (Chain.mk vc vc1) x).1)))) then false else lawComes_l0 xs (i + 1) ((does (Chain.mk vc vc1) x).1.epoch) ((does (Chain.mk vc vc1) x).1.members)))) else (bif (!(mHas (whole ((does (Chain.mk vc vc1) x).1)) (headC ((does (Chain.mk vc vc1) x).1)))) then false else lawComes_l0 xs (i + 1) ((does (Chain.mk vc vc1) x).1.epoch) ((does (Chain.mk vc vc1) x).1.members)))))) else (bif (!((IntKind.i64.wrap ((IntKind.u64.wrap x.op).tmod 5)) == 4)) then (bif (((does (Chain.mk vc vc1) x).1.epoch) != (IntKind.i64.wrap (vc + 1))) then false else (bif (!(follows (Chain.mk vc vc1) ((does (Chain.mk vc vc1) x).1))) then false else (bif (!(mHas (whole ((does (Chain.mk vc vc1) x).1)) (headC ((does (Chain.mk vc vc1) x).1)))) then false else lawComes_l0 xs (i + 1) ((does (Chain.mk vc vc1) x).1.epoch) ((does (Chain.mk vc vc1) x).1.members)))) else (bif (!(mHas (whole ((does (Chain.mk vc vc1) x).1)) (headC ((does (Chain.mk vc vc1) x).1)))) then false else lawComes_l0 xs (i + 1) ((does (Chain.mk vc vc1) x).1.epoch) ((does (Chain.mk vc vc1) x).1.members))))))
def lawComes (l : (Sl Member)) (changes : (Sl Do)) : Bool :=
  (bif (decide ((l.D.length : Int) > 60)) then (awake ) else (bif (decide ((changes.D.length : Int) > 200)) then (awake ) else (bif (((firstC l).2) != 0) then (awake ) else lawComes_l0 changes.D 0 ((firstC l).1.epoch) ((firstC l).1.members))))
set_option maxRecDepth 100000 in
theorem lawComes_calls (l : (Sl Member)) (changes : (Sl Do)) (hl1 : l.D.length ≤ 1000000) (hl2 : changes.D.length ≤ 1000000) : PCalls Try.prog 9 [sS (some l.nil) eMember l.D, sS (some changes.nil) eDo changes.D] (.pv (.lit (.bool (lawComes l changes)))) := by
  generalize hR : lawComes l changes = R
  refine PCalls.of_body tabOk Try.func9 rfl rfl rfl rfl rfl mixed fun E hP C hI => ?_
  refine Awp.cons C (fun _ => .pure) (by kernel_rfl) ?_
  refine rvc_un (rexec_prim C (δ := { v := .pv (.lit (.bool false)) }) rfl rfl rfl rfl trivial rfl ?_)
  refine rvc_nil ?_
  refine Awp.seq ?_
  refine Awp.cons C (fun _ => .pure) (by kernel_rfl) ?_
  refine rvc_un (rexec_prim C (δ := { v := sS (some l.nil) eMember l.D }) rfl rfl rfl rfl trivial rfl ?_)
  refine rvc_un (rexec_prim C (δ := { v := .pv (.lit (.int .i64 (l.D.length : Int))) }) rfl rfl rfl rfl trivial rfl ?_)
  refine rvc_un (rexec_prim C (δ := { v := .pv (.lit (.bool (decide ((l.D.length : Int) > 60)))) }) rfl rfl rfl rfl trivial rfl ?_)
  refine rvc_un (rexec_prim C (δ := { v := .pv (.lit (.bool (decide ((l.D.length : Int) > 60)))) }) rfl rfl rfl rfl trivial rfl ?_)
  refine rvc_case 15 (decide ((l.D.length : Int) > 60)) rfl (fun h1 => ?_) (fun h1 => ?_)
  ·
    replace hR := of_true h1 hR
    refine rvc_shut rfl rfl rfl rfl ?_
    refine rvc_shut rfl rfl rfl rfl ?_
    refine rvc_shut rfl rfl rfl rfl ?_
    refine rvc_un (rexec_prim C (δ := { v := .pv (.lit (.bool true)) }) rfl rfl rfl rfl trivial rfl ?_)
    refine rvc_nil ?_
    refine Awp.condT (b := true) rfl rfl ?_
    refine Awp.cons C (fun _ => .pure) (by kernel_rfl) ?_
    refine rvc_un (rexec_call hP C rfl rfl rfl (awake_calls ) ?_)
    refine rvc_un (rexec_prim C (δ := { v := .pv (.lit (.bool (awake ))) }) rfl rfl rfl rfl trivial rfl ?_)
    refine rvc_nil ?_
    refine Awp.ret ?_
    subst hR
    exact ⟨.inl rfl, rfl⟩
  ·
    replace hR := of_false h1 hR
    refine rvc_open rfl rfl rfl (rexec_prim C (δ := { v := sS (some changes.nil) eDo changes.D }) rfl rfl rfl rfl trivial rfl ?_)
    refine rvc_open rfl rfl rfl (rexec_prim C (δ := { v := .pv (.lit (.int .i64 (changes.D.length : Int))) }) rfl rfl rfl rfl trivial rfl ?_)
    refine rvc_open rfl rfl rfl (rexec_prim C (δ := { v := .pv (.lit (.bool (decide ((changes.D.length : Int) > 200)))) }) rfl rfl rfl rfl trivial rfl ?_)
    refine rvc_un (rexec_prim C (δ := { v := .pv (.lit (.bool (decide ((changes.D.length : Int) > 200)))) }) rfl rfl rfl rfl trivial rfl ?_)
    refine rvc_nil ?_
    refine Awp.cond (b := (decide ((changes.D.length : Int) > 200))) rfl (fun h2 => ?_) (fun h2 => ?_)
    ·
      replace hR := of_true h2 hR
      refine Awp.cons C (fun _ => .pure) (by kernel_rfl) ?_
      refine rvc_un (rexec_call hP C rfl rfl rfl (awake_calls ) ?_)
      refine rvc_un (rexec_prim C (δ := { v := .pv (.lit (.bool (awake ))) }) rfl rfl rfl rfl trivial rfl ?_)
      refine rvc_nil ?_
      refine Awp.ret ?_
      subst hR
      exact ⟨.inl rfl, rfl⟩
    ·
      replace hR := of_false h2 hR
      refine Awp.skip ?_
      refine Awp.cons C (fun _ => .pure) (by kernel_rfl) ?_
      refine rvc_un (rexec_prim C (δ := { v := sS (some l.nil) eMember l.D }) rfl rfl rfl rfl trivial rfl ?_)
      refine rvc_un (rexec_call hP C rfl rfl rfl (firstC_calls l hl1) ?_)
      refine rvc_un (rexec_prim C (δ := { v := .tup [.agg [.pv (.lit (.int .i64 ((firstC l).1.epoch))), sS (some (firstC l).1.members.nil) eMember ((firstC l).1.members.D)], .pv (.lit (.int .i64 ((firstC l).2)))] }) rfl rfl rfl rfl trivial rfl ?_)
      refine rvc_un (rexec_prim C (δ := { v := .agg [.pv (.lit (.int .i64 ((firstC l).1.epoch))), sS (some (firstC l).1.members.nil) eMember ((firstC l).1.members.D)] }) rfl rfl rfl rfl trivial rfl ?_)
      refine rvc_un (rexec_prim C (δ := { v := .pv (.lit (.int .i64 ((firstC l).2))) }) rfl rfl rfl rfl trivial rfl ?_)
      refine rvc_un (rexec_prim C (δ := { v := .ptr 5 0, new := [(5, .cells [.pv (.lit (.int .i64 0)), sS (some true) eMember []])] }) rfl rfl rfl rfl trivial rfl ?_)
      refine rvc_un (rexec_prim C (δ := { v := .undef, wr := [(5, some (.cells [.pv (.lit (.int .i64 ((firstC l).1.epoch))), sS (some (firstC l).1.members.nil) eMember ((firstC l).1.members.D)]))] }) rfl rfl rfl rfl trivial rfl ?_) -- tNone store
      refine rvc_un (rexec_prim C (δ := { v := .pv (.lit (.int .i64 ((firstC l).2))) }) rfl rfl rfl rfl trivial rfl ?_)
      refine rvc_nil ?_
      refine Awp.seq ?_
      refine Awp.cons C (fun _ => .pure) (by kernel_rfl) ?_
      refine rvc_un (rexec_prim C (δ := { v := .pv (.lit (.int .i64 ((firstC l).2))) }) rfl rfl rfl rfl trivial rfl ?_)
      refine rvc_un (rexec_prim C (δ := { v := .pv (.lit (.bool (((firstC l).2) != 0))) }) rfl rfl rfl rfl trivial rfl ?_)
      refine rvc_nil ?_
      refine Awp.cond (b := (((firstC l).2) != 0)) rfl (fun h3 => ?_) (fun h3 => ?_)
      ·
        replace hR := of_true h3 hR
        refine Awp.cons C (fun _ => .pure) (by kernel_rfl) ?_
        refine rvc_un (rexec_call hP C rfl rfl rfl (awake_calls ) ?_)
        refine rvc_un (rexec_prim C (δ := { v := .pv (.lit (.bool (awake ))) }) rfl rfl rfl rfl trivial rfl ?_)
        refine rvc_nil ?_
        refine Awp.ret ?_
        subst hR
        exact ⟨.inl rfl, rfl⟩
      ·
        replace hR := of_false h3 hR
        refine Awp.skip ?_
        refine Awp.seq ?_
        refine Awp.cons C (fun _ => .pure) (by kernel_rfl) ?_
        refine rvc_un (rexec_prim C (δ := { v := sS (some changes.nil) eDo changes.D }) rfl rfl rfl rfl trivial rfl ?_)
        refine rvc_un (rexec_prim C (δ := { v := .pv (.lit (.int .i64 (changes.D.length : Int))) }) rfl rfl rfl rfl trivial rfl ?_)
        refine rvc_un (rexec_prim C (δ := { v := .pv (.lit (.int .i64 0)) }) rfl rfl rfl rfl trivial rfl ?_)
        refine rvc_nil ?_
        refine Awp.block ?_
        refine Awp.forR (σ := Int × ((Sl Member))) (changes.D.length) (fun i v => [(5, .ptr 5 0), (29, sS (some changes.nil) eDo changes.D), (30, .pv (.lit (.int .i64 (changes.D.length : Int)))), (31, .pv (.lit (.int .i64 (i : Int))))]) (fun i v => [(5, .cells [.pv (.lit (.int .i64 v.1)), sS (some v.2.nil) eMember v.2.D])]) [5] (fun i v => (lawComes_l0 (changes.D.drop i) i v.1 v.2 = R) ∧ ((v.2.nil = true → v.2.D = []) ∧ v.2.D.length ≤ 1000)) ((firstC l).1.epoch, (firstC l).1.members) ?_ ?_ (fun i v h4 hR => ?_)
        · exact ⟨hR, ⟨firstC_hn l, Nat.le_trans (firstC_len l) (by have := of_decide_eq_false h1; omega)⟩⟩
        · exact ⟨fun b => b, WeakerR.ofL (Ks := [5]) hI ⟨⟨rfl, rfl⟩, ⟨rfl, rfl⟩, ⟨rfl, rfl⟩, ⟨rfl, rfl⟩, trivial⟩ (okH_cons rfl rfl rfl rfl (okH_nil)) rfl⟩
        obtain ⟨vc, vc1⟩ := v
        obtain ⟨hR, ⟨hVn, hVl⟩⟩ := hR
        replace hVn : vc1.nil = true → vc1.D = [] := hVn
        replace hVl : vc1.D.length ≤ 1000 := hVl
        refine Awp.cons C (fun _ => .pure) (by kernel_rfl) ?_
        refine rvc_un (rexec_prim C (δ := { v := .pv (.lit (.bool (decide ((i : Int) < (changes.D.length : Int))))) }) rfl rfl rfl rfl trivial rfl ?_)
        refine rvc_nil ?_
        refine Awp.seq ?_
        refine Awp.cond (b := (decide ((i : Int) < (changes.D.length : Int)))) rfl (fun h5 => ?_) (fun h5 => ?_)
        ·
          have h6 : i < changes.D.length := by have := of_decide_eq_true h5; omega
          obtain ⟨x, h7⟩ := getX h6
          rw [drop_at h7] at hR
          refine Awp.skip ?_
          refine Awp.seq ?_
          refine Awp.block ?_
          refine Awp.cons C (fun _ => .pure) (by kernel_rfl) ?_
          refine rvc_un (rexec_idxS C rfl rfl rfl rfl rfl rfl x (Int.natCast_nonneg _) h7 ?_)
          refine rvc_un (rexec_prim C (δ := { v := .agg [.pv (.lit (.int .i64 x.op)), .pv (.lit (.int .i64 x.node)), .pv (.lit (.int .i64 x.site)), .pv (.lit (.bool x.fresh))] }) rfl rfl rfl rfl trivial rfl ?_)
          refine rvc_un (rexec_prim C (δ := { v := .ptr 8 0, new := [(8, .cells [.pv (.lit (.int .i64 0)), .pv (.lit (.int .i64 0)), .pv (.lit (.int .i64 0)), .pv (.lit (.bool false))])] }) rfl rfl rfl rfl trivial rfl ?_)
          refine rvc_un (rexec_prim C (δ := { v := .undef, wr := [(8, some (.cells [.pv (.lit (.int .i64 x.op)), .pv (.lit (.int .i64 x.node)), .pv (.lit (.int .i64 x.site)), .pv (.lit (.bool x.fresh))]))] }) rfl rfl rfl rfl trivial rfl ?_) -- tNone store
          refine rvc_nil ?_
          refine Awp.cons C (fun _ => .pure) (by kernel_rfl) ?_
          refine rvc_un (rexec_prim C (δ := { v := .agg [.pv (.lit (.int .i64 vc)), sS (some vc1.nil) eMember vc1.D] }) rfl rfl rfl rfl trivial rfl ?_)
          refine rvc_un (rexec_prim C (δ := { v := .agg [.pv (.lit (.int .i64 x.op)), .pv (.lit (.int .i64 x.node)), .pv (.lit (.int .i64 x.site)), .pv (.lit (.bool x.fresh))] }) rfl rfl rfl rfl trivial rfl ?_)
          refine rvc_un (rexec_call hP C rfl rfl rfl (does_calls (Chain.mk vc vc1) x hVn (by show vc1.D.length ≤ 1000000; have := firstC_len l; have := of_decide_eq_false h1; have := of_decide_eq_false h2; have := eq_of_bne_false h3; have := of_decide_eq_true h5; omega)) ?_)
          refine rvc_un (rexec_prim C (δ := { v := .tup [.agg [.pv (.lit (.int .i64 ((does (Chain.mk vc vc1) x).1.epoch))), sS (some (does (Chain.mk vc vc1) x).1.members.nil) eMember ((does (Chain.mk vc vc1) x).1.members.D)], .pv (.lit (.int .i64 ((does (Chain.mk vc vc1) x).2)))] }) rfl rfl rfl rfl trivial rfl ?_)
          refine rvc_un (rexec_prim C (δ := { v := .agg [.pv (.lit (.int .i64 ((does (Chain.mk vc vc1) x).1.epoch))), sS (some (does (Chain.mk vc vc1) x).1.members.nil) eMember ((does (Chain.mk vc vc1) x).1.members.D)] }) rfl rfl rfl rfl trivial rfl ?_)
          refine rvc_un (rexec_prim C (δ := { v := .pv (.lit (.int .i64 ((does (Chain.mk vc vc1) x).2))) }) rfl rfl rfl rfl trivial rfl ?_)
          refine rvc_un (rexec_prim C (δ := { v := .ptr 9 0, new := [(9, .cells [.pv (.lit (.int .i64 0)), sS (some true) eMember []])] }) rfl rfl rfl rfl trivial rfl ?_)
          refine rvc_un (rexec_prim C (δ := { v := .undef, wr := [(9, some (.cells [.pv (.lit (.int .i64 ((does (Chain.mk vc vc1) x).1.epoch))), sS (some (does (Chain.mk vc vc1) x).1.members.nil) eMember ((does (Chain.mk vc vc1) x).1.members.D)]))] }) rfl rfl rfl rfl trivial rfl ?_) -- tNone store
          refine rvc_un (rexec_prim C (δ := { v := .pv (.lit (.int .i64 ((does (Chain.mk vc vc1) x).2))) }) rfl rfl rfl rfl trivial rfl ?_)
          refine rvc_nil ?_
          refine Awp.seq ?_
          refine Awp.cons C (fun _ => .pure) (by kernel_rfl) ?_
          refine rvc_un (rexec_prim C (δ := { v := .pv (.lit (.int .i64 ((does (Chain.mk vc vc1) x).2))) }) rfl rfl rfl rfl trivial rfl ?_)
          refine rvc_un (rexec_prim C (δ := { v := .pv (.lit (.bool (((does (Chain.mk vc vc1) x).2) != 0))) }) rfl rfl rfl rfl trivial rfl ?_)
          refine rvc_nil ?_
          refine Awp.cond (b := (((does (Chain.mk vc vc1) x).2) != 0)) rfl (fun h8 => ?_) (fun h8 => ?_)
          ·
            replace hR := of_true h8 hR
            refine Awp.seq ?_
            refine Awp.cons C (fun _ => .pure) (by kernel_rfl) ?_
            refine rvc_un (rexec_prim C (δ := { v := .ptr 9 1 }) rfl rfl rfl rfl trivial rfl ?_)
            refine rvc_un (rexec_prim C (δ := { v := sS (some (does (Chain.mk vc vc1) x).1.members.nil) eMember ((does (Chain.mk vc vc1) x).1.members.D) }) rfl rfl rfl rfl trivial rfl ?_)
            refine rvc_un (rexec_prim C (δ := { v := .pv (.lit (.int .i64 (((does (Chain.mk vc vc1) x).1.members.D).length : Int))) }) rfl rfl rfl rfl trivial rfl ?_)
            refine rvc_un (rexec_prim C (δ := { v := .pv (.lit (.bool ((((does (Chain.mk vc vc1) x).1.members.D).length : Int) != 0))) }) rfl rfl rfl rfl trivial rfl ?_)
            refine rvc_nil ?_
            refine Awp.cond (b := ((((does (Chain.mk vc vc1) x).1.members.D).length : Int) != 0)) rfl (fun h9 => ?_) (fun h9 => ?_)
            ·
              replace hR := of_true h9 hR
              refine Awp.cons C (fun _ => .pure) (by kernel_rfl) ?_
              refine rvc_un (rexec_prim C (δ := { v := .pv (.lit (.bool false)) }) rfl rfl rfl rfl trivial rfl ?_)
              refine rvc_nil ?_
              refine Awp.ret ?_
              subst hR
              exact ⟨.inl rfl, rfl⟩
            ·
              replace hR := of_false h9 hR
              refine Awp.skip ?_
              refine Awp.exit ?_
              refine Awp.region C (fun _ => .pure) (by kernel_rfl) ?_
              refine rvc_un (rexec_prim C (δ := { v := .pv (.lit (.int .i64 (IntKind.i64.wrap ((i : Int) + 1)))) }) rfl rfl rfl rfl trivial rfl ?_)
              refine rvc_un (rexec_prim C (δ := { v := .pv (.lit (.int .i64 (IntKind.i64.wrap ((i : Int) + 1)))) }) rfl rfl rfl rfl trivial rfl ?_)
              refine rvc_nil ?_
              refine ⟨h6, (vc, vc1), ?_, ?_⟩
              · exact ⟨hR, (by first | exact ⟨hVn, hVl⟩ | exact ⟨does_hn x, Nat.le_trans (check_le6 (eq_of_bne_false ‹(check (does (Chain.mk vc vc1) x).1 != 0) = false›)) (by decide)⟩)⟩
              · exact ⟨fun b => b, WeakerR.ofL (Ks := [5]) hI ⟨⟨rfl, rfl⟩, ⟨rfl, rfl⟩, ⟨rfl, rfl⟩, ⟨lit_cast (wrap_i64 (by omega) (by omega)), rfl⟩, trivial⟩ (okH_cons rfl rfl rfl rfl (okH_nil)) rfl⟩
          ·
            replace hR := of_false h8 hR
            refine Awp.skip ?_
            refine Awp.cons C (fun _ => .pure) (by kernel_rfl) ?_
            refine rvc_un (rexec_prim C (δ := { v := .ptr 8 0 }) rfl rfl rfl rfl trivial rfl ?_)
            refine rvc_un (rexec_prim C (δ := { v := .pv (.lit (.int .i64 x.op)) }) rfl rfl rfl rfl trivial rfl ?_)
            refine rvc_un (rexec_prim C (δ := { v := .pv (.lit (.int .u64 (IntKind.u64.wrap x.op))) }) rfl rfl rfl rfl trivial rfl ?_)
            refine rvc_un (rexec_prim C (δ := { v := .pv (.lit (.int .u64 ((IntKind.u64.wrap x.op).tmod 5))) }) rfl rfl rfl rfl (by first | decide | omega) rfl ?_)
            refine rvc_un (rexec_prim C (δ := { v := .pv (.lit (.int .i64 (IntKind.i64.wrap ((IntKind.u64.wrap x.op).tmod 5)))) }) rfl rfl rfl rfl trivial rfl ?_)
            refine rvc_un (rexec_prim C (δ := { v := .pv (.lit (.bool ((IntKind.i64.wrap ((IntKind.u64.wrap x.op).tmod 5)) == 4))) }) rfl rfl rfl rfl trivial rfl ?_)
            refine rvc_un (rexec_prim C (δ := { v := .pv (.lit (.bool ((IntKind.i64.wrap ((IntKind.u64.wrap x.op).tmod 5)) == 4))) }) rfl rfl rfl rfl trivial rfl ?_)
            refine rvc_nil ?_
            refine Awp.seq ?_
            have hml := mLen_calls (mBut (whole ((does (Chain.mk vc vc1) x).1)) (whole (Chain.mk vc vc1)))
            revert hR hml
            generalize mLen (mBut (whole ((does (Chain.mk vc vc1) x).1)) (whole (Chain.mk vc vc1))) = ml
            intro hR hml
            obtain ⟨q, hq⟩ : ∃ q : Bool, q = (ml != 1) := ⟨_, rfl⟩
            rw [← hq] at hR
            refine Awp.cons C (fun _ => .pure) (by kernel_rfl) ?_
            refine rvc_un (rexec_prim C (δ := { v := .agg [.pv (.lit (.int .i64 ((does (Chain.mk vc vc1) x).1.epoch))), sS (some (does (Chain.mk vc vc1) x).1.members.nil) eMember ((does (Chain.mk vc vc1) x).1.members.D)] }) rfl rfl rfl rfl trivial rfl ?_)
            refine rvc_un (rexec_call hP C rfl rfl rfl (check_calls ((does (Chain.mk vc vc1) x).1) (by show ((does (Chain.mk vc vc1) x).1.members.D).length ≤ 9223372036854775807; have := firstC_len l; have := does_len (Chain.mk vc vc1) x; (try dsimp only at this); have := of_decide_eq_false h1; have := of_decide_eq_false h2; have := eq_of_bne_false h3; have := of_decide_eq_true h5; have := eq_of_bne_false h8; omega)) ?_)
            refine rvc_un (rexec_prim C (δ := { v := .pv (.lit (.bool ((check ((does (Chain.mk vc vc1) x).1)) != 0))) }) rfl rfl rfl rfl trivial rfl ?_)
            refine rvc_un (rexec_prim C (δ := { v := .pv (.lit (.bool ((check ((does (Chain.mk vc vc1) x).1)) != 0))) }) rfl rfl rfl rfl trivial rfl ?_)
            refine rvc_case 56 ((check ((does (Chain.mk vc vc1) x).1)) != 0) rfl (fun h10 => ?_) (fun h10 => ?_)
            ·
              replace hR := of_true h10 hR
              refine rvc_shut rfl rfl rfl rfl ?_
              refine rvc_shut rfl rfl rfl rfl ?_
              refine rvc_shutU rfl rfl rfl ?_
              refine rvc_shutU rfl rfl rfl ?_
              refine rvc_shutU rfl rfl rfl ?_
              refine rvc_shutU rfl rfl rfl ?_
              refine rvc_shutU rfl rfl rfl ?_
              refine rvc_shutU rfl rfl rfl ?_
              refine rvc_shutU rfl rfl rfl ?_
              refine rvc_shutU rfl rfl rfl ?_
              refine rvc_shutU rfl rfl rfl ?_
              refine rvc_shutU rfl rfl rfl ?_
              refine rvc_shutU rfl rfl rfl ?_
              refine rvc_shutU rfl rfl rfl ?_
              refine rvc_shutU rfl rfl rfl ?_
              refine rvc_shutU rfl rfl rfl ?_
              refine rvc_shutU rfl rfl rfl ?_
              refine rvc_shutU rfl rfl rfl ?_
              refine rvc_shutU rfl rfl rfl ?_
              refine rvc_shutU rfl rfl rfl ?_
              refine rvc_shutU rfl rfl rfl ?_
              refine rvc_shutU rfl rfl rfl ?_
              refine rvc_shutU rfl rfl rfl ?_
              refine rvc_shut rfl rfl rfl rfl ?_
              refine rvc_un (rexec_prim C (δ := { v := .pv (.lit (.bool true)) }) rfl rfl rfl rfl trivial rfl ?_)
              refine rvc_nil ?_
              refine Awp.condT (b := true) rfl rfl ?_
              refine Awp.cons C (fun _ => .pure) (by kernel_rfl) ?_
              refine rvc_un (rexec_prim C (δ := { v := .pv (.lit (.bool false)) }) rfl rfl rfl rfl trivial rfl ?_)
              refine rvc_nil ?_
              refine Awp.ret ?_
              subst hR
              exact ⟨.inl rfl, rfl⟩
            ·
              replace hR := of_false h10 hR
              refine rvc_open rfl rfl rfl (rexec_prim C (δ := { v := .pv (.lit (.bool ((IntKind.i64.wrap ((IntKind.u64.wrap x.op).tmod 5)) == 4))) }) rfl rfl rfl rfl trivial rfl ?_)
              refine rvc_open rfl rfl rfl (rexec_prim C (δ := { v := .pv (.lit (.bool ((IntKind.i64.wrap ((IntKind.u64.wrap x.op).tmod 5)) == 4))) }) rfl rfl rfl rfl trivial rfl ?_)
              refine rvc_case 58 ((IntKind.i64.wrap ((IntKind.u64.wrap x.op).tmod 5)) == 4) rfl (fun h11 => ?_) (fun h11 => ?_)
              ·
                replace hR := of_true h11 hR
                refine rvc_open rfl rfl rfl (rexec_prim C (δ := { v := .ptr 9 0 }) rfl rfl rfl rfl trivial rfl ?_)
                refine rvc_open rfl rfl rfl (rexec_prim C (δ := { v := .pv (.lit (.int .i64 ((does (Chain.mk vc vc1) x).1.epoch))) }) rfl rfl rfl rfl trivial rfl ?_)
                refine rvc_open rfl rfl rfl (rexec_prim C (δ := { v := .ptr 5 0 }) rfl rfl rfl rfl trivial rfl ?_)
                refine rvc_open rfl rfl rfl (rexec_prim C (δ := { v := .pv (.lit (.int .i64 vc)) }) rfl rfl rfl rfl trivial rfl ?_)
                refine rvc_open rfl rfl rfl (rexec_prim C (δ := { v := .pv (.lit (.bool (((does (Chain.mk vc vc1) x).1.epoch) != vc))) }) rfl rfl rfl rfl trivial rfl ?_)
                refine rvc_open rfl rfl rfl (rexec_prim C (δ := { v := .pv (.lit (.bool (((does (Chain.mk vc vc1) x).1.epoch) != vc))) }) rfl rfl rfl rfl trivial rfl ?_)
                refine rvc_case 64 (((does (Chain.mk vc vc1) x).1.epoch) != vc) rfl (fun h12 => ?_) (fun h12 => ?_)
                ·
                  replace hR := of_true h12 hR
                  refine rvc_shut rfl rfl rfl rfl ?_
                  refine rvc_shut rfl rfl rfl rfl ?_
                  refine rvc_shut rfl rfl rfl rfl ?_
                  refine rvc_shut rfl rfl rfl rfl ?_
                  refine rvc_shut rfl rfl rfl rfl ?_
                  refine rvc_open rfl rfl rfl (rexec_prim C (δ := { v := .pv (.lit (.bool true)) }) rfl rfl rfl rfl trivial rfl ?_)
                  refine rvc_open rfl rfl rfl (rexec_prim C (δ := { v := .pv (.lit (.bool true)) }) rfl rfl rfl rfl trivial rfl ?_)
                  refine rvc_shut rfl rfl rfl rfl ?_
                  refine rvc_shut rfl rfl rfl rfl ?_
                  refine rvc_shut rfl rfl rfl rfl ?_
                  refine rvc_shut rfl rfl rfl rfl ?_
                  refine rvc_shut rfl rfl rfl rfl ?_
                  refine rvc_shut rfl rfl rfl rfl ?_
                  refine rvc_shut rfl rfl rfl rfl ?_
                  refine rvc_open rfl rfl rfl (rexec_prim C (δ := { v := .pv (.lit (.bool true)) }) rfl rfl rfl rfl trivial rfl ?_)
                  refine rvc_open rfl rfl rfl (rexec_prim C (δ := { v := .pv (.lit (.bool true)) }) rfl rfl rfl rfl trivial rfl ?_)
                  refine rvc_un (rexec_prim C (δ := { v := .pv (.lit (.bool true)) }) rfl rfl rfl rfl trivial rfl ?_)
                  refine rvc_nil ?_
                  refine Awp.condT (b := true) rfl rfl ?_
                  refine Awp.cons C (fun _ => .pure) (by kernel_rfl) ?_
                  refine rvc_un (rexec_prim C (δ := { v := .pv (.lit (.bool false)) }) rfl rfl rfl rfl trivial rfl ?_)
                  refine rvc_nil ?_
                  refine Awp.ret ?_
                  subst hR
                  exact ⟨.inl rfl, rfl⟩
                ·
                  replace hR := of_false h12 hR
                  refine rvc_open rfl rfl rfl (rexec_prim C (δ := { v := .agg [.pv (.lit (.int .i64 ((does (Chain.mk vc vc1) x).1.epoch))), sS (some (does (Chain.mk vc vc1) x).1.members.nil) eMember ((does (Chain.mk vc vc1) x).1.members.D)] }) rfl rfl rfl rfl trivial rfl ?_)
                  refine rvc_open rfl rfl rfl (rexec_call hP C rfl rfl rfl (nodes_calls ((does (Chain.mk vc vc1) x).1) (by show ((does (Chain.mk vc vc1) x).1.members.D).length ≤ 9223372036854775807; have := wrapI ((IntKind.u64.wrap x.op).tmod 5); have := firstC_len l; have := does_len (Chain.mk vc vc1) x; (try dsimp only at this); have := check_len (c := ((does (Chain.mk vc vc1) x).1)); have := check_le6 (c := ((does (Chain.mk vc vc1) x).1)); have := of_decide_eq_false h1; have := of_decide_eq_false h2; have := eq_of_bne_false h3; have := of_decide_eq_true h5; have := eq_of_bne_false h8; have := eq_of_bne_false h10; have := beq_iff_eq.1 h11; have := eq_of_bne_false h12; omega)) ?_)
                  refine rvc_open rfl rfl rfl (rexec_prim C (δ := { v := .agg [.pv (.lit (.int .i64 vc)), sS (some vc1.nil) eMember vc1.D] }) rfl rfl rfl rfl trivial rfl ?_)
                  refine rvc_open rfl rfl rfl (rexec_call hP C rfl rfl rfl (nodes_calls (Chain.mk vc vc1) (by show vc1.D.length ≤ 9223372036854775807; have := wrapI ((IntKind.u64.wrap x.op).tmod 5); have := firstC_len l; have := does_len (Chain.mk vc vc1) x; (try dsimp only at this); have := check_len (c := ((does (Chain.mk vc vc1) x).1)); have := check_le6 (c := ((does (Chain.mk vc vc1) x).1)); have := of_decide_eq_false h1; have := of_decide_eq_false h2; have := eq_of_bne_false h3; have := of_decide_eq_true h5; have := eq_of_bne_false h8; have := eq_of_bne_false h10; have := beq_iff_eq.1 h11; have := eq_of_bne_false h12; omega)) ?_)
                  refine rvc_open rfl rfl rfl (rexec_prim C (δ := { v := .pv (.lit (.bool ((nodes ((does (Chain.mk vc vc1) x).1)) != (nodes (Chain.mk vc vc1))))) }) rfl rfl rfl rfl trivial rfl ?_)
                  refine rvc_open rfl rfl rfl (rexec_prim C (δ := { v := .pv (.lit (.bool ((nodes ((does (Chain.mk vc vc1) x).1)) != (nodes (Chain.mk vc vc1))))) }) rfl rfl rfl rfl trivial rfl ?_)
                  refine rvc_open rfl rfl rfl (rexec_prim C (δ := { v := .pv (.lit (.bool ((nodes ((does (Chain.mk vc vc1) x).1)) != (nodes (Chain.mk vc vc1))))) }) rfl rfl rfl rfl trivial rfl ?_)
                  refine rvc_case 71 ((nodes ((does (Chain.mk vc vc1) x).1)) != (nodes (Chain.mk vc vc1))) rfl (fun h13 => ?_) (fun h13 => ?_)
                  ·
                    replace hR := of_true h13 hR
                    refine rvc_shut rfl rfl rfl rfl ?_
                    refine rvc_shut rfl rfl rfl rfl ?_
                    refine rvc_shut rfl rfl rfl rfl ?_
                    refine rvc_shut rfl rfl rfl rfl ?_
                    refine rvc_shut rfl rfl rfl rfl ?_
                    refine rvc_shut rfl rfl rfl rfl ?_
                    refine rvc_shut rfl rfl rfl rfl ?_
                    refine rvc_open rfl rfl rfl (rexec_prim C (δ := { v := .pv (.lit (.bool true)) }) rfl rfl rfl rfl trivial rfl ?_)
                    refine rvc_open rfl rfl rfl (rexec_prim C (δ := { v := .pv (.lit (.bool true)) }) rfl rfl rfl rfl trivial rfl ?_)
                    refine rvc_un (rexec_prim C (δ := { v := .pv (.lit (.bool true)) }) rfl rfl rfl rfl trivial rfl ?_)
                    refine rvc_nil ?_
                    refine Awp.condT (b := true) rfl rfl ?_
                    refine Awp.cons C (fun _ => .pure) (by kernel_rfl) ?_
                    refine rvc_un (rexec_prim C (δ := { v := .pv (.lit (.bool false)) }) rfl rfl rfl rfl trivial rfl ?_)
                    refine rvc_nil ?_
                    refine Awp.ret ?_
                    subst hR
                    exact ⟨.inl rfl, rfl⟩
                  ·
                    replace hR := of_false h13 hR
                    refine rvc_open rfl rfl rfl (rexec_prim C (δ := { v := .agg [.pv (.lit (.int .i64 ((does (Chain.mk vc vc1) x).1.epoch))), sS (some (does (Chain.mk vc vc1) x).1.members.nil) eMember ((does (Chain.mk vc vc1) x).1.members.D)] }) rfl rfl rfl rfl trivial rfl ?_)
                    refine rvc_open rfl rfl rfl (rexec_call hP C rfl rfl rfl (whole_calls ((does (Chain.mk vc vc1) x).1) (by show ((does (Chain.mk vc vc1) x).1.members.D).length ≤ 9223372036854775807; have := wrapI ((IntKind.u64.wrap x.op).tmod 5); have := firstC_len l; have := does_len (Chain.mk vc vc1) x; (try dsimp only at this); have := check_len (c := ((does (Chain.mk vc vc1) x).1)); have := check_le6 (c := ((does (Chain.mk vc vc1) x).1)); have := of_decide_eq_false h1; have := of_decide_eq_false h2; have := eq_of_bne_false h3; have := of_decide_eq_true h5; have := eq_of_bne_false h8; have := eq_of_bne_false h10; have := beq_iff_eq.1 h11; have := eq_of_bne_false h12; have := eq_of_bne_false h13; omega)) ?_)
                    refine rvc_open rfl rfl rfl (rexec_prim C (δ := { v := .agg [.pv (.lit (.int .i64 vc)), sS (some vc1.nil) eMember vc1.D] }) rfl rfl rfl rfl trivial rfl ?_)
                    refine rvc_open rfl rfl rfl (rexec_call hP C rfl rfl rfl (whole_calls (Chain.mk vc vc1) (by show vc1.D.length ≤ 9223372036854775807; have := wrapI ((IntKind.u64.wrap x.op).tmod 5); have := firstC_len l; have := does_len (Chain.mk vc vc1) x; (try dsimp only at this); have := check_len (c := ((does (Chain.mk vc vc1) x).1)); have := check_le6 (c := ((does (Chain.mk vc vc1) x).1)); have := of_decide_eq_false h1; have := of_decide_eq_false h2; have := eq_of_bne_false h3; have := of_decide_eq_true h5; have := eq_of_bne_false h8; have := eq_of_bne_false h10; have := beq_iff_eq.1 h11; have := eq_of_bne_false h12; have := eq_of_bne_false h13; omega)) ?_)
                    refine rvc_open rfl rfl rfl (rexec_call hP C rfl rfl rfl (mBut_calls (whole ((does (Chain.mk vc vc1) x).1)) (whole (Chain.mk vc vc1))) ?_)
                    refine rvc_open rfl rfl rfl (rexec_call hP C rfl rfl rfl hml ?_)
                    refine rvc_open rfl rfl rfl (rexec_primv C { v := .pv (.lit (.bool q)) } rfl rfl rfl rfl trivial (by rw [hq]) rfl ?_)
                    refine rvc_open rfl rfl rfl (rexec_prim C (δ := { v := .pv (.lit (.bool q)) }) rfl rfl rfl rfl trivial rfl ?_)
                    refine rvc_open rfl rfl rfl (rexec_prim C (δ := { v := .pv (.lit (.bool q)) }) rfl rfl rfl rfl trivial rfl ?_)
                    refine rvc_un (rexec_prim C (δ := { v := .pv (.lit (.bool q)) }) rfl rfl rfl rfl trivial rfl ?_)
                    refine rvc_nil ?_
                    refine Awp.cond (b := q) rfl (fun h14 => ?_) (fun h14 => ?_)
                    ·
                      replace hR := of_true h14 hR
                      refine Awp.cons C (fun _ => .pure) (by kernel_rfl) ?_
                      refine rvc_un (rexec_prim C (δ := { v := .pv (.lit (.bool false)) }) rfl rfl rfl rfl trivial rfl ?_)
                      refine rvc_nil ?_
                      refine Awp.ret ?_
                      subst hR
                      exact ⟨.inl rfl, rfl⟩
                    ·
                      replace hR := of_false h14 hR
                      refine Awp.skip ?_
                      refine Awp.seq ?_
                      refine Awp.cons C (fun _ => .pure) (by kernel_rfl) ?_
                      refine rvc_un (rexec_prim C (δ := { v := .pv (.lit (.bool ((IntKind.i64.wrap ((IntKind.u64.wrap x.op).tmod 5)) == 4))) }) rfl rfl rfl rfl trivial rfl ?_)
                      refine rvc_un (rexec_prim C (δ := { v := .pv (.lit (.bool (!((IntKind.i64.wrap ((IntKind.u64.wrap x.op).tmod 5)) == 4)))) }) rfl rfl rfl rfl trivial rfl ?_)
                      refine rvc_un (rexec_prim C (δ := { v := .pv (.lit (.bool (!((IntKind.i64.wrap ((IntKind.u64.wrap x.op).tmod 5)) == 4)))) }) rfl rfl rfl rfl trivial rfl ?_)
                      refine rvc_case 84 (!((IntKind.i64.wrap ((IntKind.u64.wrap x.op).tmod 5)) == 4)) rfl (fun h15 => ?_) (fun h15 => ?_)
                      ·
                        replace hR := of_true h15 hR
                        refine rvc_open rfl rfl rfl (rexec_prim C (δ := { v := .ptr 9 0 }) rfl rfl rfl rfl trivial rfl ?_)
                        refine rvc_open rfl rfl rfl (rexec_prim C (δ := { v := .pv (.lit (.int .i64 ((does (Chain.mk vc vc1) x).1.epoch))) }) rfl rfl rfl rfl trivial rfl ?_)
                        refine rvc_open rfl rfl rfl (rexec_prim C (δ := { v := .ptr 5 0 }) rfl rfl rfl rfl trivial rfl ?_)
                        refine rvc_open rfl rfl rfl (rexec_prim C (δ := { v := .pv (.lit (.int .i64 vc)) }) rfl rfl rfl rfl trivial rfl ?_)
                        refine rvc_open rfl rfl rfl (rexec_prim C (δ := { v := .pv (.lit (.int .i64 (IntKind.i64.wrap (vc + 1)))) }) rfl rfl rfl rfl trivial rfl ?_)
                        refine rvc_open rfl rfl rfl (rexec_prim C (δ := { v := .pv (.lit (.bool (((does (Chain.mk vc vc1) x).1.epoch) != (IntKind.i64.wrap (vc + 1))))) }) rfl rfl rfl rfl trivial rfl ?_)
                        refine rvc_open rfl rfl rfl (rexec_prim C (δ := { v := .pv (.lit (.bool (((does (Chain.mk vc vc1) x).1.epoch) != (IntKind.i64.wrap (vc + 1))))) }) rfl rfl rfl rfl trivial rfl ?_)
                        refine rvc_case 91 (((does (Chain.mk vc vc1) x).1.epoch) != (IntKind.i64.wrap (vc + 1))) rfl (fun h16 => ?_) (fun h16 => ?_)
                        ·
                          replace hR := of_true h16 hR
                          refine rvc_shut rfl rfl rfl rfl ?_
                          refine rvc_shut rfl rfl rfl rfl ?_
                          refine rvc_shut rfl rfl rfl rfl ?_
                          refine rvc_shut rfl rfl rfl rfl ?_
                          refine rvc_open rfl rfl rfl (rexec_prim C (δ := { v := .pv (.lit (.bool true)) }) rfl rfl rfl rfl trivial rfl ?_)
                          refine rvc_un (rexec_prim C (δ := { v := .pv (.lit (.bool true)) }) rfl rfl rfl rfl trivial rfl ?_)
                          refine rvc_un (rexec_prim C (δ := { v := .pv (.lit (.bool true)) }) rfl rfl rfl rfl trivial rfl ?_)
                          refine rvc_shut rfl rfl rfl rfl ?_
                          refine rvc_shut rfl rfl rfl rfl ?_
                          refine rvc_shut rfl rfl rfl rfl ?_
                          refine rvc_shut rfl rfl rfl rfl ?_
                          refine rvc_shut rfl rfl rfl rfl ?_
                          refine rvc_shut rfl rfl rfl rfl ?_
                          refine rvc_un (rexec_prim C (δ := { v := .pv (.lit (.bool true)) }) rfl rfl rfl rfl trivial rfl ?_)
                          refine rvc_nil ?_
                          refine Awp.condT (b := true) rfl rfl ?_
                          refine Awp.cons C (fun _ => .pure) (by kernel_rfl) ?_
                          refine rvc_un (rexec_prim C (δ := { v := .pv (.lit (.bool false)) }) rfl rfl rfl rfl trivial rfl ?_)
                          refine rvc_nil ?_
                          refine Awp.ret ?_
                          subst hR
                          exact ⟨.inl rfl, rfl⟩
                        ·
                          replace hR := of_false h16 hR
                          refine rvc_open rfl rfl rfl (rexec_prim C (δ := { v := .agg [.pv (.lit (.int .i64 vc)), sS (some vc1.nil) eMember vc1.D] }) rfl rfl rfl rfl trivial rfl ?_)
                          refine rvc_open rfl rfl rfl (rexec_prim C (δ := { v := .agg [.pv (.lit (.int .i64 ((does (Chain.mk vc vc1) x).1.epoch))), sS (some (does (Chain.mk vc vc1) x).1.members.nil) eMember ((does (Chain.mk vc vc1) x).1.members.D)] }) rfl rfl rfl rfl trivial rfl ?_)
                          refine rvc_open rfl rfl rfl (rexec_call hP C rfl rfl rfl (follows_calls (Chain.mk vc vc1) ((does (Chain.mk vc vc1) x).1) (by show vc1.D.length ≤ 9223372036854775807; have := wrapI ((IntKind.u64.wrap x.op).tmod 5); have := wrapI (vc + 1); have := firstC_len l; have := does_len (Chain.mk vc vc1) x; (try dsimp only at this); have := check_len (c := ((does (Chain.mk vc vc1) x).1)); have := check_le6 (c := ((does (Chain.mk vc vc1) x).1)); have := of_decide_eq_false h1; have := of_decide_eq_false h2; have := eq_of_bne_false h3; have := of_decide_eq_true h5; have := eq_of_bne_false h8; have := eq_of_bne_false h10; have := beq_iff_eq.1 h11; have := eq_of_bne_false h12; have := eq_of_bne_false h13; have := eq_of_bne_false (hq.symm.trans h14); have := ne_of_beq_false (not_true_of h15); have := eq_of_bne_false h16; omega) (by show ((does (Chain.mk vc vc1) x).1.members.D).length ≤ 9223372036854775807; have := wrapI ((IntKind.u64.wrap x.op).tmod 5); have := wrapI (vc + 1); have := firstC_len l; have := does_len (Chain.mk vc vc1) x; (try dsimp only at this); have := check_len (c := ((does (Chain.mk vc vc1) x).1)); have := check_le6 (c := ((does (Chain.mk vc vc1) x).1)); have := of_decide_eq_false h1; have := of_decide_eq_false h2; have := eq_of_bne_false h3; have := of_decide_eq_true h5; have := eq_of_bne_false h8; have := eq_of_bne_false h10; have := beq_iff_eq.1 h11; have := eq_of_bne_false h12; have := eq_of_bne_false h13; have := eq_of_bne_false (hq.symm.trans h14); have := ne_of_beq_false (not_true_of h15); have := eq_of_bne_false h16; omega)) ?_)
                          refine rvc_open rfl rfl rfl (rexec_prim C (δ := { v := .pv (.lit (.bool (!(follows (Chain.mk vc vc1) ((does (Chain.mk vc vc1) x).1))))) }) rfl rfl rfl rfl trivial rfl ?_)
                          refine rvc_open rfl rfl rfl (rexec_prim C (δ := { v := .pv (.lit (.bool (!(follows (Chain.mk vc vc1) ((does (Chain.mk vc vc1) x).1))))) }) rfl rfl rfl rfl trivial rfl ?_)
                          refine rvc_un (rexec_prim C (δ := { v := .pv (.lit (.bool (!(follows (Chain.mk vc vc1) ((does (Chain.mk vc vc1) x).1))))) }) rfl rfl rfl rfl trivial rfl ?_)
                          refine rvc_un (rexec_prim C (δ := { v := .pv (.lit (.bool (!(follows (Chain.mk vc vc1) ((does (Chain.mk vc vc1) x).1))))) }) rfl rfl rfl rfl trivial rfl ?_)
                          refine rvc_case 98 (!(follows (Chain.mk vc vc1) ((does (Chain.mk vc vc1) x).1))) rfl (fun h17 => ?_) (fun h17 => ?_)
                          ·
                            replace hR := of_true h17 hR
                            refine rvc_shut rfl rfl rfl rfl ?_
                            refine rvc_shut rfl rfl rfl rfl ?_
                            refine rvc_shut rfl rfl rfl rfl ?_
                            refine rvc_shut rfl rfl rfl rfl ?_
                            refine rvc_shut rfl rfl rfl rfl ?_
                            refine rvc_shut rfl rfl rfl rfl ?_
                            refine rvc_un (rexec_prim C (δ := { v := .pv (.lit (.bool true)) }) rfl rfl rfl rfl trivial rfl ?_)
                            refine rvc_nil ?_
                            refine Awp.condT (b := true) rfl rfl ?_
                            refine Awp.cons C (fun _ => .pure) (by kernel_rfl) ?_
                            refine rvc_un (rexec_prim C (δ := { v := .pv (.lit (.bool false)) }) rfl rfl rfl rfl trivial rfl ?_)
                            refine rvc_nil ?_
                            refine Awp.ret ?_
                            subst hR
                            exact ⟨.inl rfl, rfl⟩
                          ·
                            replace hR := of_false h17 hR
                            refine rvc_open rfl rfl rfl (rexec_prim C (δ := { v := .agg [.pv (.lit (.int .i64 ((does (Chain.mk vc vc1) x).1.epoch))), sS (some (does (Chain.mk vc vc1) x).1.members.nil) eMember ((does (Chain.mk vc vc1) x).1.members.D)] }) rfl rfl rfl rfl trivial rfl ?_)
                            refine rvc_open rfl rfl rfl (rexec_call hP C rfl rfl rfl (whole_calls ((does (Chain.mk vc vc1) x).1) (by show ((does (Chain.mk vc vc1) x).1.members.D).length ≤ 9223372036854775807; have := wrapI ((IntKind.u64.wrap x.op).tmod 5); have := wrapI (vc + 1); have := firstC_len l; have := does_len (Chain.mk vc vc1) x; (try dsimp only at this); have := check_len (c := ((does (Chain.mk vc vc1) x).1)); have := check_le6 (c := ((does (Chain.mk vc vc1) x).1)); have := of_decide_eq_false h1; have := of_decide_eq_false h2; have := eq_of_bne_false h3; have := of_decide_eq_true h5; have := eq_of_bne_false h8; have := eq_of_bne_false h10; have := beq_iff_eq.1 h11; have := eq_of_bne_false h12; have := eq_of_bne_false h13; have := eq_of_bne_false (hq.symm.trans h14); have := ne_of_beq_false (not_true_of h15); have := eq_of_bne_false h16; omega)) ?_)
                            refine rvc_open rfl rfl rfl (rexec_prim C (δ := { v := .agg [.pv (.lit (.int .i64 ((does (Chain.mk vc vc1) x).1.epoch))), sS (some (does (Chain.mk vc vc1) x).1.members.nil) eMember ((does (Chain.mk vc vc1) x).1.members.D)] }) rfl rfl rfl rfl trivial rfl ?_)
                            refine rvc_open rfl rfl rfl (rexec_call hP C rfl rfl rfl (headC_calls ((does (Chain.mk vc vc1) x).1) (by show ((does (Chain.mk vc vc1) x).1.members.D).length ≤ 9223372036854775807; have := wrapI ((IntKind.u64.wrap x.op).tmod 5); have := wrapI (vc + 1); have := firstC_len l; have := does_len (Chain.mk vc vc1) x; (try dsimp only at this); have := check_len (c := ((does (Chain.mk vc vc1) x).1)); have := check_le6 (c := ((does (Chain.mk vc vc1) x).1)); have := of_decide_eq_false h1; have := of_decide_eq_false h2; have := eq_of_bne_false h3; have := of_decide_eq_true h5; have := eq_of_bne_false h8; have := eq_of_bne_false h10; have := beq_iff_eq.1 h11; have := eq_of_bne_false h12; have := eq_of_bne_false h13; have := eq_of_bne_false (hq.symm.trans h14); have := ne_of_beq_false (not_true_of h15); have := eq_of_bne_false h16; omega)) ?_)
                            refine rvc_open rfl rfl rfl (rexec_call hP C rfl rfl rfl (mHas_calls (whole ((does (Chain.mk vc vc1) x).1)) (headC ((does (Chain.mk vc vc1) x).1))) ?_)
                            refine rvc_open rfl rfl rfl (rexec_prim C (δ := { v := .pv (.lit (.bool (!(mHas (whole ((does (Chain.mk vc vc1) x).1)) (headC ((does (Chain.mk vc vc1) x).1)))))) }) rfl rfl rfl rfl trivial rfl ?_)
                            refine rvc_un (rexec_prim C (δ := { v := .pv (.lit (.bool (!(mHas (whole ((does (Chain.mk vc vc1) x).1)) (headC ((does (Chain.mk vc vc1) x).1)))))) }) rfl rfl rfl rfl trivial rfl ?_)
                            refine rvc_nil ?_
                            refine Awp.cond (b := (!(mHas (whole ((does (Chain.mk vc vc1) x).1)) (headC ((does (Chain.mk vc vc1) x).1))))) rfl (fun h18 => ?_) (fun h18 => ?_)
                            ·
                              replace hR := of_true h18 hR
                              refine Awp.cons C (fun _ => .pure) (by kernel_rfl) ?_
                              refine rvc_un (rexec_prim C (δ := { v := .pv (.lit (.bool false)) }) rfl rfl rfl rfl trivial rfl ?_)
                              refine rvc_nil ?_
                              refine Awp.ret ?_
                              subst hR
                              exact ⟨.inl rfl, rfl⟩
                            ·
                              replace hR := of_false h18 hR
                              refine Awp.skip ?_
                              refine Awp.region C (fun _ => .pure) (by kernel_rfl) ?_
                              refine rvc_un (rexec_prim C (δ := { v := .agg [.pv (.lit (.int .i64 ((does (Chain.mk vc vc1) x).1.epoch))), sS (some (does (Chain.mk vc vc1) x).1.members.nil) eMember ((does (Chain.mk vc vc1) x).1.members.D)] }) rfl rfl rfl rfl trivial rfl ?_)
                              refine rvc_un (rexec_prim C (δ := { v := .undef, wr := [(5, some (.cells [.pv (.lit (.int .i64 ((does (Chain.mk vc vc1) x).1.epoch))), sS (some (does (Chain.mk vc vc1) x).1.members.nil) eMember ((does (Chain.mk vc vc1) x).1.members.D)]))] }) rfl rfl rfl rfl trivial rfl ?_) -- tNone store
                              refine rvc_nil ?_
                              refine Awp.region C (fun _ => .pure) (by kernel_rfl) ?_
                              refine rvc_un (rexec_prim C (δ := { v := .pv (.lit (.int .i64 (IntKind.i64.wrap ((i : Int) + 1)))) }) rfl rfl rfl rfl trivial rfl ?_)
                              refine rvc_un (rexec_prim C (δ := { v := .pv (.lit (.int .i64 (IntKind.i64.wrap ((i : Int) + 1)))) }) rfl rfl rfl rfl trivial rfl ?_)
                              refine rvc_nil ?_
                              refine ⟨h6, ((does (Chain.mk vc vc1) x).1.epoch, (does (Chain.mk vc vc1) x).1.members), ?_, ?_⟩
                              · exact ⟨hR, (by first | exact ⟨hVn, hVl⟩ | exact ⟨does_hn x, Nat.le_trans (check_le6 (eq_of_bne_false ‹(check (does (Chain.mk vc vc1) x).1 != 0) = false›)) (by decide)⟩)⟩
                              · exact ⟨fun b => b, WeakerR.ofL (Ks := [5]) hI ⟨⟨rfl, rfl⟩, ⟨rfl, rfl⟩, ⟨rfl, rfl⟩, ⟨lit_cast (wrap_i64 (by omega) (by omega)), rfl⟩, trivial⟩ (okH_cons rfl rfl rfl rfl (okH_nil)) rfl⟩
                      ·
                        replace hR := of_false h15 hR
                        refine rvc_shut rfl rfl rfl rfl ?_
                        refine rvc_shut rfl rfl rfl rfl ?_
                        refine rvc_shut rfl rfl rfl rfl ?_
                        refine rvc_shut rfl rfl rfl rfl ?_
                        refine rvc_shut rfl rfl rfl rfl ?_
                        refine rvc_shut rfl rfl rfl rfl ?_
                        refine rvc_shut rfl rfl rfl rfl ?_
                        refine rvc_shutU rfl rfl rfl ?_
                        refine rvc_shutU rfl rfl rfl ?_
                        refine rvc_shutU rfl rfl rfl ?_
                        refine rvc_shutU rfl rfl rfl ?_
                        refine rvc_shut rfl rfl rfl rfl ?_
                        refine rvc_un (rexec_prim C (δ := { v := .pv (.lit (.bool false)) }) rfl rfl rfl rfl trivial rfl ?_)
                        refine rvc_un (rexec_prim C (δ := { v := .pv (.lit (.bool false)) }) rfl rfl rfl rfl trivial rfl ?_)
                        refine rvc_open rfl rfl rfl (rexec_prim C (δ := { v := .agg [.pv (.lit (.int .i64 ((does (Chain.mk vc vc1) x).1.epoch))), sS (some (does (Chain.mk vc vc1) x).1.members.nil) eMember ((does (Chain.mk vc vc1) x).1.members.D)] }) rfl rfl rfl rfl trivial rfl ?_)
                        refine rvc_open rfl rfl rfl (rexec_call hP C rfl rfl rfl (whole_calls ((does (Chain.mk vc vc1) x).1) (by show ((does (Chain.mk vc vc1) x).1.members.D).length ≤ 9223372036854775807; have := wrapI ((IntKind.u64.wrap x.op).tmod 5); have := firstC_len l; have := does_len (Chain.mk vc vc1) x; (try dsimp only at this); have := check_len (c := ((does (Chain.mk vc vc1) x).1)); have := check_le6 (c := ((does (Chain.mk vc vc1) x).1)); have := of_decide_eq_false h1; have := of_decide_eq_false h2; have := eq_of_bne_false h3; have := of_decide_eq_true h5; have := eq_of_bne_false h8; have := eq_of_bne_false h10; have := beq_iff_eq.1 h11; have := eq_of_bne_false h12; have := eq_of_bne_false h13; have := eq_of_bne_false (hq.symm.trans h14); have := beq_iff_eq.1 (not_false_of h15); omega)) ?_)
                        refine rvc_open rfl rfl rfl (rexec_prim C (δ := { v := .agg [.pv (.lit (.int .i64 ((does (Chain.mk vc vc1) x).1.epoch))), sS (some (does (Chain.mk vc vc1) x).1.members.nil) eMember ((does (Chain.mk vc vc1) x).1.members.D)] }) rfl rfl rfl rfl trivial rfl ?_)
                        refine rvc_open rfl rfl rfl (rexec_call hP C rfl rfl rfl (headC_calls ((does (Chain.mk vc vc1) x).1) (by show ((does (Chain.mk vc vc1) x).1.members.D).length ≤ 9223372036854775807; have := wrapI ((IntKind.u64.wrap x.op).tmod 5); have := firstC_len l; have := does_len (Chain.mk vc vc1) x; (try dsimp only at this); have := check_len (c := ((does (Chain.mk vc vc1) x).1)); have := check_le6 (c := ((does (Chain.mk vc vc1) x).1)); have := of_decide_eq_false h1; have := of_decide_eq_false h2; have := eq_of_bne_false h3; have := of_decide_eq_true h5; have := eq_of_bne_false h8; have := eq_of_bne_false h10; have := beq_iff_eq.1 h11; have := eq_of_bne_false h12; have := eq_of_bne_false h13; have := eq_of_bne_false (hq.symm.trans h14); have := beq_iff_eq.1 (not_false_of h15); omega)) ?_)
                        refine rvc_open rfl rfl rfl (rexec_call hP C rfl rfl rfl (mHas_calls (whole ((does (Chain.mk vc vc1) x).1)) (headC ((does (Chain.mk vc vc1) x).1))) ?_)
                        refine rvc_open rfl rfl rfl (rexec_prim C (δ := { v := .pv (.lit (.bool (!(mHas (whole ((does (Chain.mk vc vc1) x).1)) (headC ((does (Chain.mk vc vc1) x).1)))))) }) rfl rfl rfl rfl trivial rfl ?_)
                        refine rvc_un (rexec_prim C (δ := { v := .pv (.lit (.bool (!(mHas (whole ((does (Chain.mk vc vc1) x).1)) (headC ((does (Chain.mk vc vc1) x).1)))))) }) rfl rfl rfl rfl trivial rfl ?_)
                        refine rvc_nil ?_
                        refine Awp.cond (b := (!(mHas (whole ((does (Chain.mk vc vc1) x).1)) (headC ((does (Chain.mk vc vc1) x).1))))) rfl (fun h19 => ?_) (fun h19 => ?_)
                        ·
                          replace hR := of_true h19 hR
                          refine Awp.cons C (fun _ => .pure) (by kernel_rfl) ?_
                          refine rvc_un (rexec_prim C (δ := { v := .pv (.lit (.bool false)) }) rfl rfl rfl rfl trivial rfl ?_)
                          refine rvc_nil ?_
                          refine Awp.ret ?_
                          subst hR
                          exact ⟨.inl rfl, rfl⟩
                        ·
                          replace hR := of_false h19 hR
                          refine Awp.skip ?_
                          refine Awp.region C (fun _ => .pure) (by kernel_rfl) ?_
                          refine rvc_un (rexec_prim C (δ := { v := .agg [.pv (.lit (.int .i64 ((does (Chain.mk vc vc1) x).1.epoch))), sS (some (does (Chain.mk vc vc1) x).1.members.nil) eMember ((does (Chain.mk vc vc1) x).1.members.D)] }) rfl rfl rfl rfl trivial rfl ?_)
                          refine rvc_un (rexec_prim C (δ := { v := .undef, wr := [(5, some (.cells [.pv (.lit (.int .i64 ((does (Chain.mk vc vc1) x).1.epoch))), sS (some (does (Chain.mk vc vc1) x).1.members.nil) eMember ((does (Chain.mk vc vc1) x).1.members.D)]))] }) rfl rfl rfl rfl trivial rfl ?_) -- tNone store
                          refine rvc_nil ?_
                          refine Awp.region C (fun _ => .pure) (by kernel_rfl) ?_
                          refine rvc_un (rexec_prim C (δ := { v := .pv (.lit (.int .i64 (IntKind.i64.wrap ((i : Int) + 1)))) }) rfl rfl rfl rfl trivial rfl ?_)
                          refine rvc_un (rexec_prim C (δ := { v := .pv (.lit (.int .i64 (IntKind.i64.wrap ((i : Int) + 1)))) }) rfl rfl rfl rfl trivial rfl ?_)
                          refine rvc_nil ?_
                          refine ⟨h6, ((does (Chain.mk vc vc1) x).1.epoch, (does (Chain.mk vc vc1) x).1.members), ?_, ?_⟩
                          · exact ⟨hR, (by first | exact ⟨hVn, hVl⟩ | exact ⟨does_hn x, Nat.le_trans (check_le6 (eq_of_bne_false ‹(check (does (Chain.mk vc vc1) x).1 != 0) = false›)) (by decide)⟩)⟩
                          · exact ⟨fun b => b, WeakerR.ofL (Ks := [5]) hI ⟨⟨rfl, rfl⟩, ⟨rfl, rfl⟩, ⟨rfl, rfl⟩, ⟨lit_cast (wrap_i64 (by omega) (by omega)), rfl⟩, trivial⟩ (okH_cons rfl rfl rfl rfl (okH_nil)) rfl⟩
              ·
                replace hR := of_false h11 hR
                refine rvc_shut rfl rfl rfl rfl ?_
                refine rvc_shut rfl rfl rfl rfl ?_
                refine rvc_shut rfl rfl rfl rfl ?_
                refine rvc_shut rfl rfl rfl rfl ?_
                refine rvc_shut rfl rfl rfl rfl ?_
                refine rvc_shut rfl rfl rfl rfl ?_
                refine rvc_shutU rfl rfl rfl ?_
                refine rvc_shutU rfl rfl rfl ?_
                refine rvc_shutU rfl rfl rfl ?_
                refine rvc_shutU rfl rfl rfl ?_
                refine rvc_shutU rfl rfl rfl ?_
                refine rvc_shut rfl rfl rfl rfl ?_
                refine rvc_shut rfl rfl rfl rfl ?_
                refine rvc_shutU rfl rfl rfl ?_
                refine rvc_shutU rfl rfl rfl ?_
                refine rvc_shutU rfl rfl rfl ?_
                refine rvc_shutU rfl rfl rfl ?_
                refine rvc_shutU rfl rfl rfl ?_
                refine rvc_shutU rfl rfl rfl ?_
                refine rvc_shutU rfl rfl rfl ?_
                refine rvc_shut rfl rfl rfl rfl ?_
                refine rvc_open rfl rfl rfl (rexec_prim C (δ := { v := .pv (.lit (.bool false)) }) rfl rfl rfl rfl trivial rfl ?_)
                refine rvc_un (rexec_prim C (δ := { v := .pv (.lit (.bool false)) }) rfl rfl rfl rfl trivial rfl ?_)
                refine rvc_nil ?_
                refine Awp.condF (b := false) rfl rfl ?_
                refine Awp.skip ?_
                refine Awp.seq ?_
                refine Awp.cons C (fun _ => .pure) (by kernel_rfl) ?_
                refine rvc_un (rexec_prim C (δ := { v := .pv (.lit (.bool ((IntKind.i64.wrap ((IntKind.u64.wrap x.op).tmod 5)) == 4))) }) rfl rfl rfl rfl trivial rfl ?_)
                refine rvc_un (rexec_prim C (δ := { v := .pv (.lit (.bool (!((IntKind.i64.wrap ((IntKind.u64.wrap x.op).tmod 5)) == 4)))) }) rfl rfl rfl rfl trivial rfl ?_)
                refine rvc_un (rexec_prim C (δ := { v := .pv (.lit (.bool (!((IntKind.i64.wrap ((IntKind.u64.wrap x.op).tmod 5)) == 4)))) }) rfl rfl rfl rfl trivial rfl ?_)
                refine rvc_case 84 (!((IntKind.i64.wrap ((IntKind.u64.wrap x.op).tmod 5)) == 4)) rfl (fun h20 => ?_) (fun h20 => ?_)
                ·
                  replace hR := of_true h20 hR
                  refine rvc_open rfl rfl rfl (rexec_prim C (δ := { v := .ptr 9 0 }) rfl rfl rfl rfl trivial rfl ?_)
                  refine rvc_open rfl rfl rfl (rexec_prim C (δ := { v := .pv (.lit (.int .i64 ((does (Chain.mk vc vc1) x).1.epoch))) }) rfl rfl rfl rfl trivial rfl ?_)
                  refine rvc_open rfl rfl rfl (rexec_prim C (δ := { v := .ptr 5 0 }) rfl rfl rfl rfl trivial rfl ?_)
                  refine rvc_open rfl rfl rfl (rexec_prim C (δ := { v := .pv (.lit (.int .i64 vc)) }) rfl rfl rfl rfl trivial rfl ?_)
                  refine rvc_open rfl rfl rfl (rexec_prim C (δ := { v := .pv (.lit (.int .i64 (IntKind.i64.wrap (vc + 1)))) }) rfl rfl rfl rfl trivial rfl ?_)
                  refine rvc_open rfl rfl rfl (rexec_prim C (δ := { v := .pv (.lit (.bool (((does (Chain.mk vc vc1) x).1.epoch) != (IntKind.i64.wrap (vc + 1))))) }) rfl rfl rfl rfl trivial rfl ?_)
                  refine rvc_open rfl rfl rfl (rexec_prim C (δ := { v := .pv (.lit (.bool (((does (Chain.mk vc vc1) x).1.epoch) != (IntKind.i64.wrap (vc + 1))))) }) rfl rfl rfl rfl trivial rfl ?_)
                  refine rvc_case 91 (((does (Chain.mk vc vc1) x).1.epoch) != (IntKind.i64.wrap (vc + 1))) rfl (fun h21 => ?_) (fun h21 => ?_)
                  ·
                    replace hR := of_true h21 hR
                    refine rvc_shut rfl rfl rfl rfl ?_
                    refine rvc_shut rfl rfl rfl rfl ?_
                    refine rvc_shut rfl rfl rfl rfl ?_
                    refine rvc_shut rfl rfl rfl rfl ?_
                    refine rvc_open rfl rfl rfl (rexec_prim C (δ := { v := .pv (.lit (.bool true)) }) rfl rfl rfl rfl trivial rfl ?_)
                    refine rvc_un (rexec_prim C (δ := { v := .pv (.lit (.bool true)) }) rfl rfl rfl rfl trivial rfl ?_)
                    refine rvc_un (rexec_prim C (δ := { v := .pv (.lit (.bool true)) }) rfl rfl rfl rfl trivial rfl ?_)
                    refine rvc_shut rfl rfl rfl rfl ?_
                    refine rvc_shut rfl rfl rfl rfl ?_
                    refine rvc_shut rfl rfl rfl rfl ?_
                    refine rvc_shut rfl rfl rfl rfl ?_
                    refine rvc_shut rfl rfl rfl rfl ?_
                    refine rvc_shut rfl rfl rfl rfl ?_
                    refine rvc_un (rexec_prim C (δ := { v := .pv (.lit (.bool true)) }) rfl rfl rfl rfl trivial rfl ?_)
                    refine rvc_nil ?_
                    refine Awp.condT (b := true) rfl rfl ?_
                    refine Awp.cons C (fun _ => .pure) (by kernel_rfl) ?_
                    refine rvc_un (rexec_prim C (δ := { v := .pv (.lit (.bool false)) }) rfl rfl rfl rfl trivial rfl ?_)
                    refine rvc_nil ?_
                    refine Awp.ret ?_
                    subst hR
                    exact ⟨.inl rfl, rfl⟩
                  ·
                    replace hR := of_false h21 hR
                    refine rvc_open rfl rfl rfl (rexec_prim C (δ := { v := .agg [.pv (.lit (.int .i64 vc)), sS (some vc1.nil) eMember vc1.D] }) rfl rfl rfl rfl trivial rfl ?_)
                    refine rvc_open rfl rfl rfl (rexec_prim C (δ := { v := .agg [.pv (.lit (.int .i64 ((does (Chain.mk vc vc1) x).1.epoch))), sS (some (does (Chain.mk vc vc1) x).1.members.nil) eMember ((does (Chain.mk vc vc1) x).1.members.D)] }) rfl rfl rfl rfl trivial rfl ?_)
                    refine rvc_open rfl rfl rfl (rexec_call hP C rfl rfl rfl (follows_calls (Chain.mk vc vc1) ((does (Chain.mk vc vc1) x).1) (by show vc1.D.length ≤ 9223372036854775807; have := wrapI ((IntKind.u64.wrap x.op).tmod 5); have := wrapI (vc + 1); have := firstC_len l; have := does_len (Chain.mk vc vc1) x; (try dsimp only at this); have := check_len (c := ((does (Chain.mk vc vc1) x).1)); have := check_le6 (c := ((does (Chain.mk vc vc1) x).1)); have := of_decide_eq_false h1; have := of_decide_eq_false h2; have := eq_of_bne_false h3; have := of_decide_eq_true h5; have := eq_of_bne_false h8; have := eq_of_bne_false h10; have := ne_of_beq_false h11; have := ne_of_beq_false (not_true_of h20); have := eq_of_bne_false h21; omega) (by show ((does (Chain.mk vc vc1) x).1.members.D).length ≤ 9223372036854775807; have := wrapI ((IntKind.u64.wrap x.op).tmod 5); have := wrapI (vc + 1); have := firstC_len l; have := does_len (Chain.mk vc vc1) x; (try dsimp only at this); have := check_len (c := ((does (Chain.mk vc vc1) x).1)); have := check_le6 (c := ((does (Chain.mk vc vc1) x).1)); have := of_decide_eq_false h1; have := of_decide_eq_false h2; have := eq_of_bne_false h3; have := of_decide_eq_true h5; have := eq_of_bne_false h8; have := eq_of_bne_false h10; have := ne_of_beq_false h11; have := ne_of_beq_false (not_true_of h20); have := eq_of_bne_false h21; omega)) ?_)
                    refine rvc_open rfl rfl rfl (rexec_prim C (δ := { v := .pv (.lit (.bool (!(follows (Chain.mk vc vc1) ((does (Chain.mk vc vc1) x).1))))) }) rfl rfl rfl rfl trivial rfl ?_)
                    refine rvc_open rfl rfl rfl (rexec_prim C (δ := { v := .pv (.lit (.bool (!(follows (Chain.mk vc vc1) ((does (Chain.mk vc vc1) x).1))))) }) rfl rfl rfl rfl trivial rfl ?_)
                    refine rvc_un (rexec_prim C (δ := { v := .pv (.lit (.bool (!(follows (Chain.mk vc vc1) ((does (Chain.mk vc vc1) x).1))))) }) rfl rfl rfl rfl trivial rfl ?_)
                    refine rvc_un (rexec_prim C (δ := { v := .pv (.lit (.bool (!(follows (Chain.mk vc vc1) ((does (Chain.mk vc vc1) x).1))))) }) rfl rfl rfl rfl trivial rfl ?_)
                    refine rvc_case 98 (!(follows (Chain.mk vc vc1) ((does (Chain.mk vc vc1) x).1))) rfl (fun h22 => ?_) (fun h22 => ?_)
                    ·
                      replace hR := of_true h22 hR
                      refine rvc_shut rfl rfl rfl rfl ?_
                      refine rvc_shut rfl rfl rfl rfl ?_
                      refine rvc_shut rfl rfl rfl rfl ?_
                      refine rvc_shut rfl rfl rfl rfl ?_
                      refine rvc_shut rfl rfl rfl rfl ?_
                      refine rvc_shut rfl rfl rfl rfl ?_
                      refine rvc_un (rexec_prim C (δ := { v := .pv (.lit (.bool true)) }) rfl rfl rfl rfl trivial rfl ?_)
                      refine rvc_nil ?_
                      refine Awp.condT (b := true) rfl rfl ?_
                      refine Awp.cons C (fun _ => .pure) (by kernel_rfl) ?_
                      refine rvc_un (rexec_prim C (δ := { v := .pv (.lit (.bool false)) }) rfl rfl rfl rfl trivial rfl ?_)
                      refine rvc_nil ?_
                      refine Awp.ret ?_
                      subst hR
                      exact ⟨.inl rfl, rfl⟩
                    ·
                      replace hR := of_false h22 hR
                      refine rvc_open rfl rfl rfl (rexec_prim C (δ := { v := .agg [.pv (.lit (.int .i64 ((does (Chain.mk vc vc1) x).1.epoch))), sS (some (does (Chain.mk vc vc1) x).1.members.nil) eMember ((does (Chain.mk vc vc1) x).1.members.D)] }) rfl rfl rfl rfl trivial rfl ?_)
                      refine rvc_open rfl rfl rfl (rexec_call hP C rfl rfl rfl (whole_calls ((does (Chain.mk vc vc1) x).1) (by show ((does (Chain.mk vc vc1) x).1.members.D).length ≤ 9223372036854775807; have := wrapI ((IntKind.u64.wrap x.op).tmod 5); have := wrapI (vc + 1); have := firstC_len l; have := does_len (Chain.mk vc vc1) x; (try dsimp only at this); have := check_len (c := ((does (Chain.mk vc vc1) x).1)); have := check_le6 (c := ((does (Chain.mk vc vc1) x).1)); have := of_decide_eq_false h1; have := of_decide_eq_false h2; have := eq_of_bne_false h3; have := of_decide_eq_true h5; have := eq_of_bne_false h8; have := eq_of_bne_false h10; have := ne_of_beq_false h11; have := ne_of_beq_false (not_true_of h20); have := eq_of_bne_false h21; omega)) ?_)
                      refine rvc_open rfl rfl rfl (rexec_prim C (δ := { v := .agg [.pv (.lit (.int .i64 ((does (Chain.mk vc vc1) x).1.epoch))), sS (some (does (Chain.mk vc vc1) x).1.members.nil) eMember ((does (Chain.mk vc vc1) x).1.members.D)] }) rfl rfl rfl rfl trivial rfl ?_)
                      refine rvc_open rfl rfl rfl (rexec_call hP C rfl rfl rfl (headC_calls ((does (Chain.mk vc vc1) x).1) (by show ((does (Chain.mk vc vc1) x).1.members.D).length ≤ 9223372036854775807; have := wrapI ((IntKind.u64.wrap x.op).tmod 5); have := wrapI (vc + 1); have := firstC_len l; have := does_len (Chain.mk vc vc1) x; (try dsimp only at this); have := check_len (c := ((does (Chain.mk vc vc1) x).1)); have := check_le6 (c := ((does (Chain.mk vc vc1) x).1)); have := of_decide_eq_false h1; have := of_decide_eq_false h2; have := eq_of_bne_false h3; have := of_decide_eq_true h5; have := eq_of_bne_false h8; have := eq_of_bne_false h10; have := ne_of_beq_false h11; have := ne_of_beq_false (not_true_of h20); have := eq_of_bne_false h21; omega)) ?_)
                      refine rvc_open rfl rfl rfl (rexec_call hP C rfl rfl rfl (mHas_calls (whole ((does (Chain.mk vc vc1) x).1)) (headC ((does (Chain.mk vc vc1) x).1))) ?_)
                      refine rvc_open rfl rfl rfl (rexec_prim C (δ := { v := .pv (.lit (.bool (!(mHas (whole ((does (Chain.mk vc vc1) x).1)) (headC ((does (Chain.mk vc vc1) x).1)))))) }) rfl rfl rfl rfl trivial rfl ?_)
                      refine rvc_un (rexec_prim C (δ := { v := .pv (.lit (.bool (!(mHas (whole ((does (Chain.mk vc vc1) x).1)) (headC ((does (Chain.mk vc vc1) x).1)))))) }) rfl rfl rfl rfl trivial rfl ?_)
                      refine rvc_nil ?_
                      refine Awp.cond (b := (!(mHas (whole ((does (Chain.mk vc vc1) x).1)) (headC ((does (Chain.mk vc vc1) x).1))))) rfl (fun h23 => ?_) (fun h23 => ?_)
                      ·
                        replace hR := of_true h23 hR
                        refine Awp.cons C (fun _ => .pure) (by kernel_rfl) ?_
                        refine rvc_un (rexec_prim C (δ := { v := .pv (.lit (.bool false)) }) rfl rfl rfl rfl trivial rfl ?_)
                        refine rvc_nil ?_
                        refine Awp.ret ?_
                        subst hR
                        exact ⟨.inl rfl, rfl⟩
                      ·
                        replace hR := of_false h23 hR
                        refine Awp.skip ?_
                        refine Awp.region C (fun _ => .pure) (by kernel_rfl) ?_
                        refine rvc_un (rexec_prim C (δ := { v := .agg [.pv (.lit (.int .i64 ((does (Chain.mk vc vc1) x).1.epoch))), sS (some (does (Chain.mk vc vc1) x).1.members.nil) eMember ((does (Chain.mk vc vc1) x).1.members.D)] }) rfl rfl rfl rfl trivial rfl ?_)
                        refine rvc_un (rexec_prim C (δ := { v := .undef, wr := [(5, some (.cells [.pv (.lit (.int .i64 ((does (Chain.mk vc vc1) x).1.epoch))), sS (some (does (Chain.mk vc vc1) x).1.members.nil) eMember ((does (Chain.mk vc vc1) x).1.members.D)]))] }) rfl rfl rfl rfl trivial rfl ?_) -- tNone store
                        refine rvc_nil ?_
                        refine Awp.region C (fun _ => .pure) (by kernel_rfl) ?_
                        refine rvc_un (rexec_prim C (δ := { v := .pv (.lit (.int .i64 (IntKind.i64.wrap ((i : Int) + 1)))) }) rfl rfl rfl rfl trivial rfl ?_)
                        refine rvc_un (rexec_prim C (δ := { v := .pv (.lit (.int .i64 (IntKind.i64.wrap ((i : Int) + 1)))) }) rfl rfl rfl rfl trivial rfl ?_)
                        refine rvc_nil ?_
                        refine ⟨h6, ((does (Chain.mk vc vc1) x).1.epoch, (does (Chain.mk vc vc1) x).1.members), ?_, ?_⟩
                        · exact ⟨hR, (by first | exact ⟨hVn, hVl⟩ | exact ⟨does_hn x, Nat.le_trans (check_le6 (eq_of_bne_false ‹(check (does (Chain.mk vc vc1) x).1 != 0) = false›)) (by decide)⟩)⟩
                        · exact ⟨fun b => b, WeakerR.ofL (Ks := [5]) hI ⟨⟨rfl, rfl⟩, ⟨rfl, rfl⟩, ⟨rfl, rfl⟩, ⟨lit_cast (wrap_i64 (by omega) (by omega)), rfl⟩, trivial⟩ (okH_cons rfl rfl rfl rfl (okH_nil)) rfl⟩
                ·
                  replace hR := of_false h20 hR
                  refine rvc_shut rfl rfl rfl rfl ?_
                  refine rvc_shut rfl rfl rfl rfl ?_
                  refine rvc_shut rfl rfl rfl rfl ?_
                  refine rvc_shut rfl rfl rfl rfl ?_
                  refine rvc_shut rfl rfl rfl rfl ?_
                  refine rvc_shut rfl rfl rfl rfl ?_
                  refine rvc_shut rfl rfl rfl rfl ?_
                  refine rvc_shutU rfl rfl rfl ?_
                  refine rvc_shutU rfl rfl rfl ?_
                  refine rvc_shutU rfl rfl rfl ?_
                  refine rvc_shutU rfl rfl rfl ?_
                  refine rvc_shut rfl rfl rfl rfl ?_
                  refine rvc_un (rexec_prim C (δ := { v := .pv (.lit (.bool false)) }) rfl rfl rfl rfl trivial rfl ?_)
                  refine rvc_un (rexec_prim C (δ := { v := .pv (.lit (.bool false)) }) rfl rfl rfl rfl trivial rfl ?_)
                  refine rvc_open rfl rfl rfl (rexec_prim C (δ := { v := .agg [.pv (.lit (.int .i64 ((does (Chain.mk vc vc1) x).1.epoch))), sS (some (does (Chain.mk vc vc1) x).1.members.nil) eMember ((does (Chain.mk vc vc1) x).1.members.D)] }) rfl rfl rfl rfl trivial rfl ?_)
                  refine rvc_open rfl rfl rfl (rexec_call hP C rfl rfl rfl (whole_calls ((does (Chain.mk vc vc1) x).1) (by show ((does (Chain.mk vc vc1) x).1.members.D).length ≤ 9223372036854775807; have := wrapI ((IntKind.u64.wrap x.op).tmod 5); have := firstC_len l; have := does_len (Chain.mk vc vc1) x; (try dsimp only at this); have := check_len (c := ((does (Chain.mk vc vc1) x).1)); have := check_le6 (c := ((does (Chain.mk vc vc1) x).1)); have := of_decide_eq_false h1; have := of_decide_eq_false h2; have := eq_of_bne_false h3; have := of_decide_eq_true h5; have := eq_of_bne_false h8; have := eq_of_bne_false h10; have := ne_of_beq_false h11; have := beq_iff_eq.1 (not_false_of h20); omega)) ?_)
                  refine rvc_open rfl rfl rfl (rexec_prim C (δ := { v := .agg [.pv (.lit (.int .i64 ((does (Chain.mk vc vc1) x).1.epoch))), sS (some (does (Chain.mk vc vc1) x).1.members.nil) eMember ((does (Chain.mk vc vc1) x).1.members.D)] }) rfl rfl rfl rfl trivial rfl ?_)
                  refine rvc_open rfl rfl rfl (rexec_call hP C rfl rfl rfl (headC_calls ((does (Chain.mk vc vc1) x).1) (by show ((does (Chain.mk vc vc1) x).1.members.D).length ≤ 9223372036854775807; have := wrapI ((IntKind.u64.wrap x.op).tmod 5); have := firstC_len l; have := does_len (Chain.mk vc vc1) x; (try dsimp only at this); have := check_len (c := ((does (Chain.mk vc vc1) x).1)); have := check_le6 (c := ((does (Chain.mk vc vc1) x).1)); have := of_decide_eq_false h1; have := of_decide_eq_false h2; have := eq_of_bne_false h3; have := of_decide_eq_true h5; have := eq_of_bne_false h8; have := eq_of_bne_false h10; have := ne_of_beq_false h11; have := beq_iff_eq.1 (not_false_of h20); omega)) ?_)
                  refine rvc_open rfl rfl rfl (rexec_call hP C rfl rfl rfl (mHas_calls (whole ((does (Chain.mk vc vc1) x).1)) (headC ((does (Chain.mk vc vc1) x).1))) ?_)
                  refine rvc_open rfl rfl rfl (rexec_prim C (δ := { v := .pv (.lit (.bool (!(mHas (whole ((does (Chain.mk vc vc1) x).1)) (headC ((does (Chain.mk vc vc1) x).1)))))) }) rfl rfl rfl rfl trivial rfl ?_)
                  refine rvc_un (rexec_prim C (δ := { v := .pv (.lit (.bool (!(mHas (whole ((does (Chain.mk vc vc1) x).1)) (headC ((does (Chain.mk vc vc1) x).1)))))) }) rfl rfl rfl rfl trivial rfl ?_)
                  refine rvc_nil ?_
                  refine Awp.cond (b := (!(mHas (whole ((does (Chain.mk vc vc1) x).1)) (headC ((does (Chain.mk vc vc1) x).1))))) rfl (fun h24 => ?_) (fun h24 => ?_)
                  ·
                    replace hR := of_true h24 hR
                    refine Awp.cons C (fun _ => .pure) (by kernel_rfl) ?_
                    refine rvc_un (rexec_prim C (δ := { v := .pv (.lit (.bool false)) }) rfl rfl rfl rfl trivial rfl ?_)
                    refine rvc_nil ?_
                    refine Awp.ret ?_
                    subst hR
                    exact ⟨.inl rfl, rfl⟩
                  ·
                    replace hR := of_false h24 hR
                    refine Awp.skip ?_
                    refine Awp.region C (fun _ => .pure) (by kernel_rfl) ?_
                    refine rvc_un (rexec_prim C (δ := { v := .agg [.pv (.lit (.int .i64 ((does (Chain.mk vc vc1) x).1.epoch))), sS (some (does (Chain.mk vc vc1) x).1.members.nil) eMember ((does (Chain.mk vc vc1) x).1.members.D)] }) rfl rfl rfl rfl trivial rfl ?_)
                    refine rvc_un (rexec_prim C (δ := { v := .undef, wr := [(5, some (.cells [.pv (.lit (.int .i64 ((does (Chain.mk vc vc1) x).1.epoch))), sS (some (does (Chain.mk vc vc1) x).1.members.nil) eMember ((does (Chain.mk vc vc1) x).1.members.D)]))] }) rfl rfl rfl rfl trivial rfl ?_) -- tNone store
                    refine rvc_nil ?_
                    refine Awp.region C (fun _ => .pure) (by kernel_rfl) ?_
                    refine rvc_un (rexec_prim C (δ := { v := .pv (.lit (.int .i64 (IntKind.i64.wrap ((i : Int) + 1)))) }) rfl rfl rfl rfl trivial rfl ?_)
                    refine rvc_un (rexec_prim C (δ := { v := .pv (.lit (.int .i64 (IntKind.i64.wrap ((i : Int) + 1)))) }) rfl rfl rfl rfl trivial rfl ?_)
                    refine rvc_nil ?_
                    refine ⟨h6, ((does (Chain.mk vc vc1) x).1.epoch, (does (Chain.mk vc vc1) x).1.members), ?_, ?_⟩
                    · exact ⟨hR, (by first | exact ⟨hVn, hVl⟩ | exact ⟨does_hn x, Nat.le_trans (check_le6 (eq_of_bne_false ‹(check (does (Chain.mk vc vc1) x).1 != 0) = false›)) (by decide)⟩)⟩
                    · exact ⟨fun b => b, WeakerR.ofL (Ks := [5]) hI ⟨⟨rfl, rfl⟩, ⟨rfl, rfl⟩, ⟨rfl, rfl⟩, ⟨lit_cast (wrap_i64 (by omega) (by omega)), rfl⟩, trivial⟩ (okH_cons rfl rfl rfl rfl (okH_nil)) rfl⟩
        ·
          have h6 : ¬ i < changes.D.length := by have := of_decide_eq_false h5; omega
          rw [drop_end h6] at hR
          refine Awp.exit ?_
          refine Awp.cons C (fun _ => .pure) (by kernel_rfl) ?_
          refine rvc_un (rexec_call hP C rfl rfl rfl (awake_calls ) ?_)
          refine rvc_un (rexec_prim C (δ := { v := .pv (.lit (.bool (awake ))) }) rfl rfl rfl rfl trivial rfl ?_)
          refine rvc_nil ?_
          refine Awp.ret ?_
          subst hR
          exact ⟨.inl rfl, rfl⟩

end Go.Proofs.Ytjhphpoihadmkaa

/- More inputs of chapter 8, as plain values. No conditions. -/
namespace Go.Proofs.Ytjhphpoihadmkaa
open Go.Am
def WT42 (x : Do) : Prop := (Lit.int .i64 x.op).wf = true ∧ (Lit.int .i64 x.node).wf = true ∧ (Lit.int .i64 x.site).wf = true ∧ True
theorem flat42 {m : Nat} {ps : List PV} (h : Flat Try.prog (m + 2) 42 ps) : ∃ x : Do, ps = eDo.enc x ∧ WT42 x := by
  unfold Flat at h
  rw [Try.underlying42] at h
  obtain ⟨a0, b0, e0, h0, a1, b1, e1, h1, a2, b2, e2, h2, a3, b3, e3, h3, el⟩ := h
  obtain ⟨x0, rfl, w0⟩ := flat3 (m := m + 0) h0
  obtain ⟨x1, rfl, w1⟩ := flat3 (m := m + 0) h1
  obtain ⟨x2, rfl, w2⟩ := flat3 (m := m + 0) h2
  obtain ⟨x3, rfl, w3⟩ := flat4 (m := m + 0) h3
  subst el
  subst e3
  subst e2
  subst e1
  subst e0
  exact ⟨⟨x0, x1, x2, x3⟩, rfl, w0, w1, w2, w3⟩
def WT49 (s : Sl Do) : Prop := s.D.length ≤ maxLen ∧ (s.nil = true → s.D = []) ∧ ∀ x ∈ s.D, WT42 x
theorem flat49 {m : Nat} {ps : List PV} (h : Flat Try.prog (m + 3) 49 ps) : ∃ s : Sl Do, ps = [.sl (some s.nil) s.D.length (encL eDo s.D)] ∧ WT49 s := by
  unfold Flat at h
  rw [Try.underlying49] at h
  obtain ⟨b, D, rfl, h1, h2, h3⟩ := h
  obtain ⟨D2, e1, e2, e3⟩ := enc_list (e := eDo) (W := fun x => WT42 x) D fun y hy => flat42 (h3 y hy)
  rw [e2, ← e1]
  exact ⟨⟨b, D2⟩, rfl, (by show D2.length ≤ _; rw [e1]; exact h1), (fun hb => by have := h2 hb; rw [this] at e1; exact List.eq_nil_of_length_eq_zero e1), e3⟩
end Go.Proofs.Ytjhphpoihadmkaa

/- The law LayoutComes at lists that are too long. No conditions. -/
namespace Go.Proofs.Ytjhphpoihadmkaa
open Go.Am
def big1lawComes (_l : (Sl Member)) (_changes : (Sl Do)) : Bool :=
  (awake )
theorem big1lawComes_calls (l : (Sl Member)) (changes : (Sl Do)) (hbig : (decide ((l.D.length : Int) > 60)) = true) : PCalls Try.prog 9 [sS (some l.nil) eMember l.D, sS (some changes.nil) eDo changes.D] (.pv (.lit (.bool (big1lawComes l changes)))) := by
  generalize hR : big1lawComes l changes = R
  refine PCalls.of_body tabOk Try.func9 rfl rfl rfl rfl rfl mixed fun E hP C hI => ?_
  refine Awp.cons C (fun _ => .pure) (by kernel_rfl) ?_
  refine rvc_un (rexec_prim C (δ := { v := .pv (.lit (.bool false)) }) rfl rfl rfl rfl trivial rfl ?_)
  refine rvc_nil ?_
  refine Awp.seq ?_
  refine Awp.cons C (fun _ => .pure) (by kernel_rfl) ?_
  refine rvc_un (rexec_prim C (δ := { v := sS (some l.nil) eMember l.D }) rfl rfl rfl rfl trivial rfl ?_)
  refine rvc_un (rexec_prim C (δ := { v := .pv (.lit (.int .i64 (l.D.length : Int))) }) rfl rfl rfl rfl trivial rfl ?_)
  refine rvc_un (rexec_prim C (δ := { v := .pv (.lit (.bool (decide ((l.D.length : Int) > 60)))) }) rfl rfl rfl rfl trivial rfl ?_)
  refine rvc_un (rexec_prim C (δ := { v := .pv (.lit (.bool (decide ((l.D.length : Int) > 60)))) }) rfl rfl rfl rfl trivial rfl ?_)
  refine rvc_known 15 (decide ((l.D.length : Int) > 60)) true rfl hbig ?_
  refine rvc_shut rfl rfl rfl rfl ?_
  refine rvc_shut rfl rfl rfl rfl ?_
  refine rvc_shut rfl rfl rfl rfl ?_
  refine rvc_un (rexec_prim C (δ := { v := .pv (.lit (.bool true)) }) rfl rfl rfl rfl trivial rfl ?_)
  refine rvc_nil ?_
  refine Awp.condT (b := true) rfl rfl ?_
  refine Awp.cons C (fun _ => .pure) (by kernel_rfl) ?_
  refine rvc_un (rexec_call hP C rfl rfl rfl (awake_calls ) ?_)
  refine rvc_un (rexec_prim C (δ := { v := .pv (.lit (.bool (awake ))) }) rfl rfl rfl rfl trivial rfl ?_)
  refine rvc_nil ?_
  refine Awp.ret ?_
  subst hR
  exact ⟨.inl rfl, rfl⟩

def big2lawComes (l : (Sl Member)) (_changes : (Sl Do)) : Bool :=
  (bif (decide ((l.D.length : Int) > 60)) then (awake ) else (awake ))
theorem big2lawComes_calls (l : (Sl Member)) (changes : (Sl Do)) (hbig : (decide ((changes.D.length : Int) > 200)) = true) : PCalls Try.prog 9 [sS (some l.nil) eMember l.D, sS (some changes.nil) eDo changes.D] (.pv (.lit (.bool (big2lawComes l changes)))) := by
  generalize hR : big2lawComes l changes = R
  refine PCalls.of_body tabOk Try.func9 rfl rfl rfl rfl rfl mixed fun E hP C hI => ?_
  refine Awp.cons C (fun _ => .pure) (by kernel_rfl) ?_
  refine rvc_un (rexec_prim C (δ := { v := .pv (.lit (.bool false)) }) rfl rfl rfl rfl trivial rfl ?_)
  refine rvc_nil ?_
  refine Awp.seq ?_
  refine Awp.cons C (fun _ => .pure) (by kernel_rfl) ?_
  refine rvc_un (rexec_prim C (δ := { v := sS (some l.nil) eMember l.D }) rfl rfl rfl rfl trivial rfl ?_)
  refine rvc_un (rexec_prim C (δ := { v := .pv (.lit (.int .i64 (l.D.length : Int))) }) rfl rfl rfl rfl trivial rfl ?_)
  refine rvc_un (rexec_prim C (δ := { v := .pv (.lit (.bool (decide ((l.D.length : Int) > 60)))) }) rfl rfl rfl rfl trivial rfl ?_)
  refine rvc_un (rexec_prim C (δ := { v := .pv (.lit (.bool (decide ((l.D.length : Int) > 60)))) }) rfl rfl rfl rfl trivial rfl ?_)
  refine rvc_case 15 (decide ((l.D.length : Int) > 60)) rfl (fun h1 => ?_) (fun h1 => ?_)
  ·
    replace hR := of_true h1 hR
    refine rvc_shut rfl rfl rfl rfl ?_
    refine rvc_shut rfl rfl rfl rfl ?_
    refine rvc_shut rfl rfl rfl rfl ?_
    refine rvc_un (rexec_prim C (δ := { v := .pv (.lit (.bool true)) }) rfl rfl rfl rfl trivial rfl ?_)
    refine rvc_nil ?_
    refine Awp.condT (b := true) rfl rfl ?_
    refine Awp.cons C (fun _ => .pure) (by kernel_rfl) ?_
    refine rvc_un (rexec_call hP C rfl rfl rfl (awake_calls ) ?_)
    refine rvc_un (rexec_prim C (δ := { v := .pv (.lit (.bool (awake ))) }) rfl rfl rfl rfl trivial rfl ?_)
    refine rvc_nil ?_
    refine Awp.ret ?_
    subst hR
    exact ⟨.inl rfl, rfl⟩
  ·
    replace hR := of_false h1 hR
    refine rvc_open rfl rfl rfl (rexec_prim C (δ := { v := sS (some changes.nil) eDo changes.D }) rfl rfl rfl rfl trivial rfl ?_)
    refine rvc_open rfl rfl rfl (rexec_prim C (δ := { v := .pv (.lit (.int .i64 (changes.D.length : Int))) }) rfl rfl rfl rfl trivial rfl ?_)
    refine rvc_open rfl rfl rfl (rexec_prim C (δ := { v := .pv (.lit (.bool (decide ((changes.D.length : Int) > 200)))) }) rfl rfl rfl rfl trivial rfl ?_)
    refine rvc_un (rexec_prim C (δ := { v := .pv (.lit (.bool (decide ((changes.D.length : Int) > 200)))) }) rfl rfl rfl rfl trivial rfl ?_)
    refine rvc_nil ?_
    refine Awp.condT (b := (decide ((changes.D.length : Int) > 200))) rfl hbig ?_
    refine Awp.cons C (fun _ => .pure) (by kernel_rfl) ?_
    refine rvc_un (rexec_call hP C rfl rfl rfl (awake_calls ) ?_)
    refine rvc_un (rexec_prim C (δ := { v := .pv (.lit (.bool (awake ))) }) rfl rfl rfl rfl trivial rfl ?_)
    refine rvc_nil ?_
    refine Awp.ret ?_
    subst hR
    exact ⟨.inl rfl, rfl⟩

end Go.Proofs.Ytjhphpoihadmkaa

