/- Changes, both ways. No conditions. -/
import Derived.Test.YtjhphpoihadmkaaLay3
import Derived.Test.YtjhphpoihadmkaaLay2c
namespace Go.Proofs.Ytjhphpoihadmkaa
open Go.Am
structure Do where
  op : Int
  node : Int
  site : Int
  fresh : Bool
  deriving Inhabited
def eDo : Enc Do := ⟨4, fun x => [.lit (.int .i64 x.op), .lit (.int .i64 x.node), .lit (.int .i64 x.site), .lit (.bool x.fresh)], fun _ => rfl⟩
def dropSite_l0 (c : Chain) (site : Int) : List Member → Nat → Int → Chain × Int
  | [], _, gone => ((without c gone).1, (without c gone).2)
  | x :: xs, i, gone => (bif (x.site == site) then dropSite_l0 c site xs (i + 1) (mWith gone x.node) else dropSite_l0 c site xs (i + 1) gone)
def dropSite (c : Chain) (site : Int) : Chain × Int :=
  (bif ((check c) != 0) then ((Chain.mk 0 (Sl.mk true [])), (check c)) else dropSite_l0 c site c.members.D 0 0)
theorem dropSite_calls (c : Chain) (site : Int) (hl1 : c.members.D.length ≤ 1000000) : PCalls Try.prog 42 [.agg [.pv (.lit (.int .i64 c.epoch)), sS (some c.members.nil) eMember c.members.D], .pv (.lit (.int .i64 site))] (.tup [.agg [.pv (.lit (.int .i64 ((dropSite c site).1.epoch))), sS (some (dropSite c site).1.members.nil) eMember ((dropSite c site).1.members.D)], .pv (.lit (.int .i64 ((dropSite c site).2)))]) := by
  generalize hR : dropSite c site = R
  refine PCalls.of_body tabOk Try.func42 rfl rfl rfl rfl rfl mixed fun E hP C hI => ?_
  refine Awp.cons C (fun _ => .pure) (by kernel_rfl) ?_ -- region 0
  refine rvc_un (rexec_prim C (δ := { v := .ptr 2 0, new := [(2, .cells [.pv (.lit (.int .i64 c.epoch)), sS (some c.members.nil) eMember c.members.D])] }) rfl rfl rfl rfl trivial rfl ?_) -- t2 box
  refine rvc_un (rexec_prim C (δ := { v := .ptr 4 0, new := [(4, .cells [.pv (.lit (.int .i64 0)), sS (some true) eMember []])] }) rfl rfl rfl rfl trivial rfl ?_) -- t4 alloc
  refine rvc_un (rexec_prim C (δ := { v := .pv (.lit (.int .i64 0)) }) rfl rfl rfl rfl trivial rfl ?_) -- t5 assign
  refine rvc_nil ?_
  refine Awp.seq ?_
  refine Awp.cons C (fun _ => .pure) (by kernel_rfl) ?_ -- region 1
  refine rvc_un (rexec_prim C (δ := { v := .agg [.pv (.lit (.int .i64 c.epoch)), sS (some c.members.nil) eMember c.members.D] }) rfl rfl rfl rfl trivial rfl ?_) -- t10 load
  refine rvc_un (rexec_call hP C rfl rfl rfl (check_calls c (Nat.le_trans hl1 (by decide))) ?_) -- t11 call
  refine rvc_un (rexec_prim C (δ := { v := .pv (.lit (.int .i64 (check c))) }) rfl rfl rfl rfl trivial rfl ?_) -- t6 assign
  refine rvc_nil ?_
  refine Awp.cons C (fun _ => .pure) (by kernel_rfl) ?_ -- region 2
  refine rvc_un (rexec_prim C (δ := { v := .pv (.lit (.int .i64 (check c))) }) rfl rfl rfl rfl trivial rfl ?_) -- t12 move
  refine rvc_un (rexec_prim C (δ := { v := .pv (.lit (.bool ((check c) != 0))) }) rfl rfl rfl rfl trivial rfl ?_) -- t13 binOp
  refine rvc_nil ?_
  refine Awp.cond (b := ((check c) != 0)) rfl (fun h1 => ?_) (fun h1 => ?_)
  ·
    replace hR := of_true h1 hR
    refine Awp.cons C (fun _ => .pure) (by kernel_rfl) ?_ -- region 3
    refine rvc_un (rexec_prim C (δ := { v := .agg [.pv (.lit (.int .i64 0)), sS (some true) eMember []] }) rfl rfl rfl rfl trivial rfl ?_) -- t14 build
    refine rvc_un (rexec_prim C (δ := { v := .pv (.lit (.int .i64 (check c))) }) rfl rfl rfl rfl trivial rfl ?_) -- t15 move
    refine rvc_un (rexec_prim C (δ := { v := .undef, wr := [(4, some (.cells [.pv (.lit (.int .i64 0)), sS (some true) eMember []]))] }) rfl rfl rfl rfl trivial rfl ?_) -- tNone store
    refine rvc_un (rexec_prim C (δ := { v := .pv (.lit (.int .i64 (check c))) }) rfl rfl rfl rfl trivial rfl ?_) -- t5 assign
    refine rvc_nil ?_
    refine Awp.ret ?_
    subst hR
    exact ⟨.inl rfl, rfl⟩
  ·
    replace hR := of_false h1 hR
    refine Awp.skip ?_
    refine Awp.cons C (fun _ => .pure) (by kernel_rfl) ?_ -- region 4
    refine rvc_un (rexec_prim C (δ := { v := .pv (.lit (.int .u64 0)) }) rfl rfl rfl rfl trivial rfl ?_) -- t7 assign
    refine rvc_nil ?_
    refine Awp.seq ?_
    refine Awp.cons C (fun _ => .pure) (by kernel_rfl) ?_ -- region 5
    refine rvc_un (rexec_prim C (δ := { v := .ptr 2 1 }) rfl rfl rfl rfl trivial rfl ?_) -- t16 fieldAddr
    refine rvc_un (rexec_prim C (δ := { v := sS (some c.members.nil) eMember c.members.D }) rfl rfl rfl rfl trivial rfl ?_) -- t17 load
    refine rvc_un (rexec_prim C (δ := { v := .pv (.lit (.int .i64 (c.members.D.length : Int))) }) rfl rfl rfl rfl trivial rfl ?_) -- t18 call
    refine rvc_un (rexec_prim C (δ := { v := .pv (.lit (.int .i64 0)) }) rfl rfl rfl rfl trivial rfl ?_) -- t19 move
    refine rvc_nil ?_
    refine Awp.block ?_
    refine Awp.forR (σ := Int) (c.members.D.length) (fun i v => [(1, .pv (.lit (.int .i64 site))), (2, .ptr 2 0), (4, .ptr 4 0), (7, .pv (.lit (.int .u64 v))), (17, sS (some c.members.nil) eMember c.members.D), (18, .pv (.lit (.int .i64 (c.members.D.length : Int)))), (19, .pv (.lit (.int .i64 (i : Int))))]) (fun i v => [(2, .cells [.pv (.lit (.int .i64 c.epoch)), sS (some c.members.nil) eMember c.members.D]), (4, .cells [.pv (.lit (.int .i64 0)), sS (some true) eMember []])]) [2, 4] (fun i v => dropSite_l0 c site (c.members.D.drop i) i v = R) 0 ?_ ?_ (fun i gone h2 hR => ?_)
    · exact hR
    · exact ⟨fun b => b, WeakerR.ofL (Ks := [2, 4]) hI ⟨⟨rfl, rfl⟩, ⟨rfl, rfl⟩, ⟨rfl, rfl⟩, ⟨rfl, rfl⟩, ⟨rfl, rfl⟩, ⟨rfl, rfl⟩, ⟨rfl, rfl⟩, trivial⟩ (okH_cons rfl rfl rfl rfl (okH_cons rfl rfl rfl rfl (okH_nil))) rfl⟩
    refine Awp.cons C (fun _ => .pure) (by kernel_rfl) ?_ -- region 6
    refine rvc_un (rexec_prim C (δ := { v := .pv (.lit (.bool (decide ((i : Int) < (c.members.D.length : Int))))) }) rfl rfl rfl rfl trivial rfl ?_)
    refine rvc_nil ?_
    refine Awp.seq ?_
    refine Awp.cond (b := (decide ((i : Int) < (c.members.D.length : Int)))) rfl (fun h3 => ?_) (fun h3 => ?_)
    ·
      have h4 : i < c.members.D.length := by have := of_decide_eq_true h3; omega
      obtain ⟨x, h5⟩ := getX h4
      rw [drop_at h5] at hR
      refine Awp.skip ?_
      refine Awp.seq ?_
      refine Awp.block ?_
      refine Awp.cons C (fun _ => .pure) (by kernel_rfl) ?_ -- region 7
      refine rvc_un (rexec_idxS C rfl rfl rfl rfl rfl rfl x (Int.natCast_nonneg _) h5 ?_) -- t21 indexAddr
      refine rvc_un (rexec_prim C (δ := { v := .agg [.pv (.lit (.int .i64 x.node)), .pv (.lit (.int .i64 x.site)), .pv (.lit (.bool x.fresh))] }) rfl rfl rfl rfl trivial rfl ?_) -- t22 load
      refine rvc_un (rexec_prim C (δ := { v := .ptr 9 0, new := [(9, .cells [.pv (.lit (.int .i64 0)), .pv (.lit (.int .i64 0)), .pv (.lit (.bool false))])] }) rfl rfl rfl rfl trivial rfl ?_) -- t9 alloc
      refine rvc_un (rexec_prim C (δ := { v := .undef, wr := [(9, some (.cells [.pv (.lit (.int .i64 x.node)), .pv (.lit (.int .i64 x.site)), .pv (.lit (.bool x.fresh))]))] }) rfl rfl rfl rfl trivial rfl ?_) -- tNone store
      refine rvc_nil ?_
      refine Awp.cons C (fun _ => .pure) (by kernel_rfl) ?_ -- region 8
      refine rvc_un (rexec_prim C (δ := { v := .ptr 9 1 }) rfl rfl rfl rfl trivial rfl ?_) -- t23 fieldAddr
      refine rvc_un (rexec_prim C (δ := { v := .pv (.lit (.int .i64 x.site)) }) rfl rfl rfl rfl trivial rfl ?_) -- t24 load
      refine rvc_un (rexec_prim C (δ := { v := .pv (.lit (.int .i64 site)) }) rfl rfl rfl rfl trivial rfl ?_) -- t25 move
      refine rvc_un (rexec_prim C (δ := { v := .pv (.lit (.bool (x.site == site))) }) rfl rfl rfl rfl trivial rfl ?_) -- t26 binOp
      refine rvc_nil ?_
      refine Awp.cond (b := (x.site == site)) rfl (fun h6 => ?_) (fun h6 => ?_)
      ·
        replace hR := of_true h6 hR
        refine Awp.region C (fun _ => .pure) (by kernel_rfl) ?_ -- region 9
        refine rvc_un (rexec_prim C (δ := { v := .pv (.lit (.int .u64 gone)) }) rfl rfl rfl rfl trivial rfl ?_) -- t27 move
        refine rvc_un (rexec_prim C (δ := { v := .ptr 9 0 }) rfl rfl rfl rfl trivial rfl ?_) -- t28 fieldAddr
        refine rvc_un (rexec_prim C (δ := { v := .pv (.lit (.int .i64 x.node)) }) rfl rfl rfl rfl trivial rfl ?_) -- t29 load
        refine rvc_un (rexec_call hP C rfl rfl rfl (mWith_calls gone x.node) ?_) -- t30 call
        refine rvc_un (rexec_prim C (δ := { v := .pv (.lit (.int .u64 (mWith gone x.node))) }) rfl rfl rfl rfl trivial rfl ?_) -- t7 assign
        refine rvc_nil ?_
        refine Awp.region C (fun _ => .pure) (by kernel_rfl) ?_ -- region 10
        refine rvc_un (rexec_prim C (δ := { v := .pv (.lit (.int .i64 (IntKind.i64.wrap ((i : Int) + 1)))) }) rfl rfl rfl rfl trivial rfl ?_) -- t31 binOp
        refine rvc_un (rexec_prim C (δ := { v := .pv (.lit (.int .i64 (IntKind.i64.wrap ((i : Int) + 1)))) }) rfl rfl rfl rfl trivial rfl ?_) -- t19 move
        refine rvc_nil ?_
        refine ⟨h4, (mWith gone x.node), ?_, ?_⟩
        · exact hR
        · exact ⟨fun b => b, WeakerR.ofL (Ks := [2, 4]) hI ⟨⟨rfl, rfl⟩, ⟨rfl, rfl⟩, ⟨rfl, rfl⟩, ⟨rfl, rfl⟩, ⟨rfl, rfl⟩, ⟨rfl, rfl⟩, ⟨lit_cast (wrap_i64 (by omega) (by omega)), rfl⟩, trivial⟩ (okH_cons rfl rfl rfl rfl (okH_cons rfl rfl rfl rfl (okH_nil))) rfl⟩
      ·
        replace hR := of_false h6 hR
        refine Awp.skip ?_
        refine Awp.region C (fun _ => .pure) (by kernel_rfl) ?_ -- region 10
        refine rvc_un (rexec_prim C (δ := { v := .pv (.lit (.int .i64 (IntKind.i64.wrap ((i : Int) + 1)))) }) rfl rfl rfl rfl trivial rfl ?_) -- t31 binOp
        refine rvc_un (rexec_prim C (δ := { v := .pv (.lit (.int .i64 (IntKind.i64.wrap ((i : Int) + 1)))) }) rfl rfl rfl rfl trivial rfl ?_) -- t19 move
        refine rvc_nil ?_
        refine ⟨h4, gone, ?_, ?_⟩
        · exact hR
        · exact ⟨fun b => b, WeakerR.ofL (Ks := [2, 4]) hI ⟨⟨rfl, rfl⟩, ⟨rfl, rfl⟩, ⟨rfl, rfl⟩, ⟨rfl, rfl⟩, ⟨rfl, rfl⟩, ⟨rfl, rfl⟩, ⟨lit_cast (wrap_i64 (by omega) (by omega)), rfl⟩, trivial⟩ (okH_cons rfl rfl rfl rfl (okH_cons rfl rfl rfl rfl (okH_nil))) rfl⟩
    ·
      have h4 : ¬ i < c.members.D.length := by have := of_decide_eq_false h3; omega
      rw [drop_end h4] at hR
      refine Awp.exit ?_
      refine Awp.cons C (fun _ => .pure) (by kernel_rfl) ?_ -- region 11
      refine rvc_un (rexec_prim C (δ := { v := .agg [.pv (.lit (.int .i64 c.epoch)), sS (some c.members.nil) eMember c.members.D] }) rfl rfl rfl rfl trivial rfl ?_) -- t32 load
      refine rvc_un (rexec_prim C (δ := { v := .pv (.lit (.int .u64 gone)) }) rfl rfl rfl rfl trivial rfl ?_) -- t33 move
      refine rvc_un (rexec_call hP C rfl rfl rfl (without_calls c gone hl1) ?_) -- t34 call
      refine rvc_un (rexec_prim C (δ := { v := .agg [.pv (.lit (.int .i64 ((without c gone).1.epoch))), sS (some (without c gone).1.members.nil) eMember ((without c gone).1.members.D)] }) rfl rfl rfl rfl trivial rfl ?_) -- t35 extract
      refine rvc_un (rexec_prim C (δ := { v := .pv (.lit (.int .i64 ((without c gone).2))) }) rfl rfl rfl rfl trivial rfl ?_) -- t36 extract
      refine rvc_un (rexec_prim C (δ := { v := .undef, wr := [(4, some (.cells [.pv (.lit (.int .i64 ((without c gone).1.epoch))), sS (some (without c gone).1.members.nil) eMember ((without c gone).1.members.D)]))] }) rfl rfl rfl rfl trivial rfl ?_) -- tNone store
      refine rvc_un (rexec_prim C (δ := { v := .pv (.lit (.int .i64 ((without c gone).2))) }) rfl rfl rfl rfl trivial rfl ?_) -- t5 assign
      refine rvc_nil ?_
      refine Awp.ret ?_
      subst hR
      exact ⟨.inl rfl, rfl⟩

def also (c : Chain) (k : Do) : Chain × Int :=
  (bif ((IntKind.i64.wrap ((IntKind.u64.wrap k.op).tmod 5)) == 0) then (bif (k.node == (-1)) then ((rCut c (-2) (-1)).1, (rCut c (-2) (-1)).2) else ((rCut c k.node (-1)).1, (rCut c k.node (-1)).2)) else (bif ((IntKind.i64.wrap ((IntKind.u64.wrap k.op).tmod 5)) == 1) then (bif (k.site == (-1)) then ((rCut c (-1) (-2)).1, (rCut c (-1) (-2)).2) else ((rCut c (-1) k.site).1, (rCut c (-1) k.site).2)) else (bif ((IntKind.i64.wrap ((IntKind.u64.wrap k.op).tmod 5)) == 2) then ((rJoin c (Member.mk k.node k.site false)).1, (rJoin c (Member.mk k.node k.site false)).2) else (bif ((IntKind.i64.wrap ((IntKind.u64.wrap k.op).tmod 5)) == 3) then ((rAgain c k.node).1, (rAgain c k.node).2) else ((rReady c k.node).1, (rReady c k.node).2)))))
theorem also_calls (c : Chain) (k : Do) (hl1 : c.members.D.length ≤ 1000000) : PCalls Try.prog 31 [.agg [.pv (.lit (.int .i64 c.epoch)), sS (some c.members.nil) eMember c.members.D], .agg [.pv (.lit (.int .i64 k.op)), .pv (.lit (.int .i64 k.node)), .pv (.lit (.int .i64 k.site)), .pv (.lit (.bool k.fresh))]] (.tup [.agg [.pv (.lit (.int .i64 ((also c k).1.epoch))), sS (some (also c k).1.members.nil) eMember ((also c k).1.members.D)], .pv (.lit (.int .i64 ((also c k).2)))]) := by
  generalize hR : also c k = R
  refine PCalls.of_body tabOk Try.func31 rfl rfl rfl rfl rfl mixed fun E hP C hI => ?_
  refine Awp.cons C (fun _ => .pure) (by kernel_rfl) ?_ -- region 0
  refine rvc_un (rexec_prim C (δ := { v := .ptr 2 0, new := [(2, .cells [.pv (.lit (.int .i64 c.epoch)), sS (some c.members.nil) eMember c.members.D])] }) rfl rfl rfl rfl trivial rfl ?_) -- t2 box
  refine rvc_un (rexec_prim C (δ := { v := .ptr 3 0, new := [(3, .cells [.pv (.lit (.int .i64 k.op)), .pv (.lit (.int .i64 k.node)), .pv (.lit (.int .i64 k.site)), .pv (.lit (.bool k.fresh))])] }) rfl rfl rfl rfl trivial rfl ?_) -- t3 box
  refine rvc_un (rexec_prim C (δ := { v := .ptr 4 0, new := [(4, .cells [.pv (.lit (.int .i64 0)), sS (some true) eMember []])] }) rfl rfl rfl rfl trivial rfl ?_) -- t4 alloc
  refine rvc_un (rexec_prim C (δ := { v := .pv (.lit (.int .i64 0)) }) rfl rfl rfl rfl trivial rfl ?_) -- t5 assign
  refine rvc_nil ?_
  refine Awp.seq ?_
  refine Awp.cons C (fun _ => .pure) (by kernel_rfl) ?_ -- region 1
  refine rvc_un (rexec_prim C (δ := { v := .ptr 3 0 }) rfl rfl rfl rfl trivial rfl ?_) -- t6 fieldAddr
  refine rvc_un (rexec_prim C (δ := { v := .pv (.lit (.int .i64 k.op)) }) rfl rfl rfl rfl trivial rfl ?_) -- t7 load
  refine rvc_un (rexec_prim C (δ := { v := .pv (.lit (.int .u64 (IntKind.u64.wrap k.op))) }) rfl rfl rfl rfl trivial rfl ?_) -- t8 convert
  refine rvc_un (rexec_prim C (δ := { v := .pv (.lit (.int .u64 ((IntKind.u64.wrap k.op).tmod 5))) }) rfl rfl rfl rfl (by first | decide | omega) rfl ?_) -- t9 binOp
  refine rvc_un (rexec_prim C (δ := { v := .pv (.lit (.int .i64 (IntKind.i64.wrap ((IntKind.u64.wrap k.op).tmod 5)))) }) rfl rfl rfl rfl trivial rfl ?_) -- t10 convert
  refine rvc_nil ?_
  refine Awp.block ?_
  refine Awp.cons C (fun _ => .pure) (by kernel_rfl) ?_ -- region 2
  refine rvc_un (rexec_prim C (δ := { v := .pv (.lit (.bool ((IntKind.i64.wrap ((IntKind.u64.wrap k.op).tmod 5)) == 0))) }) rfl rfl rfl rfl trivial rfl ?_) -- t12 binOp
  refine rvc_un (rexec_prim C (δ := { v := .pv (.lit (.bool ((IntKind.i64.wrap ((IntKind.u64.wrap k.op).tmod 5)) == 0))) }) rfl rfl rfl rfl trivial rfl ?_) -- t11 assign
  refine rvc_nil ?_
  refine Awp.cond (b := ((IntKind.i64.wrap ((IntKind.u64.wrap k.op).tmod 5)) == 0)) rfl (fun h1 => ?_) (fun h1 => ?_)
  ·
    replace hR := of_true h1 hR
    refine Awp.seq ?_
    refine Awp.cons C (fun _ => .pure) (by kernel_rfl) ?_ -- region 3
    refine rvc_un (rexec_prim C (δ := { v := .ptr 3 1 }) rfl rfl rfl rfl trivial rfl ?_) -- t13 fieldAddr
    refine rvc_un (rexec_prim C (δ := { v := .pv (.lit (.int .i64 k.node)) }) rfl rfl rfl rfl trivial rfl ?_) -- t14 load
    refine rvc_un (rexec_prim C (δ := { v := .pv (.lit (.bool (k.node == (-1)))) }) rfl rfl rfl rfl trivial rfl ?_) -- t15 binOp
    refine rvc_nil ?_
    refine Awp.cond (b := (k.node == (-1))) rfl (fun h2 => ?_) (fun h2 => ?_)
    ·
      replace hR := of_true h2 hR
      refine Awp.cons C (fun _ => .pure) (by kernel_rfl) ?_ -- region 4
      refine rvc_un (rexec_prim C (δ := { v := .agg [.pv (.lit (.int .i64 c.epoch)), sS (some c.members.nil) eMember c.members.D] }) rfl rfl rfl rfl trivial rfl ?_) -- t16 load
      refine rvc_un (rexec_call hP C rfl rfl rfl (rCut_calls c (-2) (-1) hl1) ?_) -- t17 call
      refine rvc_un (rexec_prim C (δ := { v := .agg [.pv (.lit (.int .i64 ((rCut c (-2) (-1)).1.epoch))), sS (some (rCut c (-2) (-1)).1.members.nil) eMember ((rCut c (-2) (-1)).1.members.D)] }) rfl rfl rfl rfl trivial rfl ?_) -- t18 extract
      refine rvc_un (rexec_prim C (δ := { v := .pv (.lit (.int .i64 ((rCut c (-2) (-1)).2))) }) rfl rfl rfl rfl trivial rfl ?_) -- t19 extract
      refine rvc_un (rexec_prim C (δ := { v := .undef, wr := [(4, some (.cells [.pv (.lit (.int .i64 ((rCut c (-2) (-1)).1.epoch))), sS (some (rCut c (-2) (-1)).1.members.nil) eMember ((rCut c (-2) (-1)).1.members.D)]))] }) rfl rfl rfl rfl trivial rfl ?_) -- tNone store
      refine rvc_un (rexec_prim C (δ := { v := .pv (.lit (.int .i64 ((rCut c (-2) (-1)).2))) }) rfl rfl rfl rfl trivial rfl ?_) -- t5 assign
      refine rvc_nil ?_
      refine Awp.ret ?_
      subst hR
      exact ⟨.inl rfl, rfl⟩
    ·
      replace hR := of_false h2 hR
      refine Awp.skip ?_
      refine Awp.cons C (fun _ => .pure) (by kernel_rfl) ?_ -- region 5
      refine rvc_un (rexec_prim C (δ := { v := .agg [.pv (.lit (.int .i64 c.epoch)), sS (some c.members.nil) eMember c.members.D] }) rfl rfl rfl rfl trivial rfl ?_) -- t20 load
      refine rvc_un (rexec_prim C (δ := { v := .ptr 3 1 }) rfl rfl rfl rfl trivial rfl ?_) -- t21 fieldAddr
      refine rvc_un (rexec_prim C (δ := { v := .pv (.lit (.int .i64 k.node)) }) rfl rfl rfl rfl trivial rfl ?_) -- t22 load
      refine rvc_un (rexec_call hP C rfl rfl rfl (rCut_calls c k.node (-1) hl1) ?_) -- t23 call
      refine rvc_un (rexec_prim C (δ := { v := .agg [.pv (.lit (.int .i64 ((rCut c k.node (-1)).1.epoch))), sS (some (rCut c k.node (-1)).1.members.nil) eMember ((rCut c k.node (-1)).1.members.D)] }) rfl rfl rfl rfl trivial rfl ?_) -- t24 extract
      refine rvc_un (rexec_prim C (δ := { v := .pv (.lit (.int .i64 ((rCut c k.node (-1)).2))) }) rfl rfl rfl rfl trivial rfl ?_) -- t25 extract
      refine rvc_un (rexec_prim C (δ := { v := .undef, wr := [(4, some (.cells [.pv (.lit (.int .i64 ((rCut c k.node (-1)).1.epoch))), sS (some (rCut c k.node (-1)).1.members.nil) eMember ((rCut c k.node (-1)).1.members.D)]))] }) rfl rfl rfl rfl trivial rfl ?_) -- tNone store
      refine rvc_un (rexec_prim C (δ := { v := .pv (.lit (.int .i64 ((rCut c k.node (-1)).2))) }) rfl rfl rfl rfl trivial rfl ?_) -- t5 assign
      refine rvc_nil ?_
      refine Awp.ret ?_
      subst hR
      exact ⟨.inl rfl, rfl⟩
  ·
    replace hR := of_false h1 hR
    refine Awp.cons C (fun _ => .pure) (by kernel_rfl) ?_ -- region 6
    refine rvc_un (rexec_prim C (δ := { v := .pv (.lit (.bool ((IntKind.i64.wrap ((IntKind.u64.wrap k.op).tmod 5)) == 1))) }) rfl rfl rfl rfl trivial rfl ?_) -- t27 binOp
    refine rvc_un (rexec_prim C (δ := { v := .pv (.lit (.bool ((IntKind.i64.wrap ((IntKind.u64.wrap k.op).tmod 5)) == 1))) }) rfl rfl rfl rfl trivial rfl ?_) -- t26 assign
    refine rvc_nil ?_
    refine Awp.cond (b := ((IntKind.i64.wrap ((IntKind.u64.wrap k.op).tmod 5)) == 1)) rfl (fun h3 => ?_) (fun h3 => ?_)
    ·
      replace hR := of_true h3 hR
      refine Awp.seq ?_
      refine Awp.cons C (fun _ => .pure) (by kernel_rfl) ?_ -- region 7
      refine rvc_un (rexec_prim C (δ := { v := .ptr 3 2 }) rfl rfl rfl rfl trivial rfl ?_) -- t28 fieldAddr
      refine rvc_un (rexec_prim C (δ := { v := .pv (.lit (.int .i64 k.site)) }) rfl rfl rfl rfl trivial rfl ?_) -- t29 load
      refine rvc_un (rexec_prim C (δ := { v := .pv (.lit (.bool (k.site == (-1)))) }) rfl rfl rfl rfl trivial rfl ?_) -- t30 binOp
      refine rvc_nil ?_
      refine Awp.cond (b := (k.site == (-1))) rfl (fun h4 => ?_) (fun h4 => ?_)
      ·
        replace hR := of_true h4 hR
        refine Awp.cons C (fun _ => .pure) (by kernel_rfl) ?_ -- region 8
        refine rvc_un (rexec_prim C (δ := { v := .agg [.pv (.lit (.int .i64 c.epoch)), sS (some c.members.nil) eMember c.members.D] }) rfl rfl rfl rfl trivial rfl ?_) -- t31 load
        refine rvc_un (rexec_call hP C rfl rfl rfl (rCut_calls c (-1) (-2) hl1) ?_) -- t32 call
        refine rvc_un (rexec_prim C (δ := { v := .agg [.pv (.lit (.int .i64 ((rCut c (-1) (-2)).1.epoch))), sS (some (rCut c (-1) (-2)).1.members.nil) eMember ((rCut c (-1) (-2)).1.members.D)] }) rfl rfl rfl rfl trivial rfl ?_) -- t33 extract
        refine rvc_un (rexec_prim C (δ := { v := .pv (.lit (.int .i64 ((rCut c (-1) (-2)).2))) }) rfl rfl rfl rfl trivial rfl ?_) -- t34 extract
        refine rvc_un (rexec_prim C (δ := { v := .undef, wr := [(4, some (.cells [.pv (.lit (.int .i64 ((rCut c (-1) (-2)).1.epoch))), sS (some (rCut c (-1) (-2)).1.members.nil) eMember ((rCut c (-1) (-2)).1.members.D)]))] }) rfl rfl rfl rfl trivial rfl ?_) -- tNone store
        refine rvc_un (rexec_prim C (δ := { v := .pv (.lit (.int .i64 ((rCut c (-1) (-2)).2))) }) rfl rfl rfl rfl trivial rfl ?_) -- t5 assign
        refine rvc_nil ?_
        refine Awp.ret ?_
        subst hR
        exact ⟨.inl rfl, rfl⟩
      ·
        replace hR := of_false h4 hR
        refine Awp.skip ?_
        refine Awp.cons C (fun _ => .pure) (by kernel_rfl) ?_ -- region 9
        refine rvc_un (rexec_prim C (δ := { v := .agg [.pv (.lit (.int .i64 c.epoch)), sS (some c.members.nil) eMember c.members.D] }) rfl rfl rfl rfl trivial rfl ?_) -- t35 load
        refine rvc_un (rexec_prim C (δ := { v := .ptr 3 2 }) rfl rfl rfl rfl trivial rfl ?_) -- t36 fieldAddr
        refine rvc_un (rexec_prim C (δ := { v := .pv (.lit (.int .i64 k.site)) }) rfl rfl rfl rfl trivial rfl ?_) -- t37 load
        refine rvc_un (rexec_call hP C rfl rfl rfl (rCut_calls c (-1) k.site hl1) ?_) -- t38 call
        refine rvc_un (rexec_prim C (δ := { v := .agg [.pv (.lit (.int .i64 ((rCut c (-1) k.site).1.epoch))), sS (some (rCut c (-1) k.site).1.members.nil) eMember ((rCut c (-1) k.site).1.members.D)] }) rfl rfl rfl rfl trivial rfl ?_) -- t39 extract
        refine rvc_un (rexec_prim C (δ := { v := .pv (.lit (.int .i64 ((rCut c (-1) k.site).2))) }) rfl rfl rfl rfl trivial rfl ?_) -- t40 extract
        refine rvc_un (rexec_prim C (δ := { v := .undef, wr := [(4, some (.cells [.pv (.lit (.int .i64 ((rCut c (-1) k.site).1.epoch))), sS (some (rCut c (-1) k.site).1.members.nil) eMember ((rCut c (-1) k.site).1.members.D)]))] }) rfl rfl rfl rfl trivial rfl ?_) -- tNone store
        refine rvc_un (rexec_prim C (δ := { v := .pv (.lit (.int .i64 ((rCut c (-1) k.site).2))) }) rfl rfl rfl rfl trivial rfl ?_) -- t5 assign
        refine rvc_nil ?_
        refine Awp.ret ?_
        subst hR
        exact ⟨.inl rfl, rfl⟩
    ·
      replace hR := of_false h3 hR
      refine Awp.cons C (fun _ => .pure) (by kernel_rfl) ?_ -- region 10
      refine rvc_un (rexec_prim C (δ := { v := .pv (.lit (.bool ((IntKind.i64.wrap ((IntKind.u64.wrap k.op).tmod 5)) == 2))) }) rfl rfl rfl rfl trivial rfl ?_) -- t42 binOp
      refine rvc_un (rexec_prim C (δ := { v := .pv (.lit (.bool ((IntKind.i64.wrap ((IntKind.u64.wrap k.op).tmod 5)) == 2))) }) rfl rfl rfl rfl trivial rfl ?_) -- t41 assign
      refine rvc_nil ?_
      refine Awp.cond (b := ((IntKind.i64.wrap ((IntKind.u64.wrap k.op).tmod 5)) == 2)) rfl (fun h5 => ?_) (fun h5 => ?_)
      ·
        replace hR := of_true h5 hR
        refine Awp.cons C (fun _ => .pure) (by kernel_rfl) ?_ -- region 11
        refine rvc_un (rexec_prim C (δ := { v := .agg [.pv (.lit (.int .i64 c.epoch)), sS (some c.members.nil) eMember c.members.D] }) rfl rfl rfl rfl trivial rfl ?_) -- t43 load
        refine rvc_un (rexec_prim C (δ := { v := .ptr 3 1 }) rfl rfl rfl rfl trivial rfl ?_) -- t44 fieldAddr
        refine rvc_un (rexec_prim C (δ := { v := .pv (.lit (.int .i64 k.node)) }) rfl rfl rfl rfl trivial rfl ?_) -- t45 load
        refine rvc_un (rexec_prim C (δ := { v := .ptr 3 2 }) rfl rfl rfl rfl trivial rfl ?_) -- t46 fieldAddr
        refine rvc_un (rexec_prim C (δ := { v := .pv (.lit (.int .i64 k.site)) }) rfl rfl rfl rfl trivial rfl ?_) -- t47 load
        refine rvc_un (rexec_prim C (δ := { v := .agg [.pv (.lit (.int .i64 k.node)), .pv (.lit (.int .i64 k.site)), .pv (.lit (.bool false))] }) rfl rfl rfl rfl trivial rfl ?_) -- t48 build
        refine rvc_un (rexec_call hP C rfl rfl rfl (rJoin_calls c (Member.mk k.node k.site false) hl1) ?_) -- t49 call
        refine rvc_un (rexec_prim C (δ := { v := .agg [.pv (.lit (.int .i64 ((rJoin c (Member.mk k.node k.site false)).1.epoch))), sS (some (rJoin c (Member.mk k.node k.site false)).1.members.nil) eMember ((rJoin c (Member.mk k.node k.site false)).1.members.D)] }) rfl rfl rfl rfl trivial rfl ?_) -- t50 extract
        refine rvc_un (rexec_prim C (δ := { v := .pv (.lit (.int .i64 ((rJoin c (Member.mk k.node k.site false)).2))) }) rfl rfl rfl rfl trivial rfl ?_) -- t51 extract
        refine rvc_un (rexec_prim C (δ := { v := .undef, wr := [(4, some (.cells [.pv (.lit (.int .i64 ((rJoin c (Member.mk k.node k.site false)).1.epoch))), sS (some (rJoin c (Member.mk k.node k.site false)).1.members.nil) eMember ((rJoin c (Member.mk k.node k.site false)).1.members.D)]))] }) rfl rfl rfl rfl trivial rfl ?_) -- tNone store
        refine rvc_un (rexec_prim C (δ := { v := .pv (.lit (.int .i64 ((rJoin c (Member.mk k.node k.site false)).2))) }) rfl rfl rfl rfl trivial rfl ?_) -- t5 assign
        refine rvc_nil ?_
        refine Awp.ret ?_
        subst hR
        exact ⟨.inl rfl, rfl⟩
      ·
        replace hR := of_false h5 hR
        refine Awp.cons C (fun _ => .pure) (by kernel_rfl) ?_ -- region 12
        refine rvc_un (rexec_prim C (δ := { v := .pv (.lit (.bool ((IntKind.i64.wrap ((IntKind.u64.wrap k.op).tmod 5)) == 3))) }) rfl rfl rfl rfl trivial rfl ?_) -- t53 binOp
        refine rvc_un (rexec_prim C (δ := { v := .pv (.lit (.bool ((IntKind.i64.wrap ((IntKind.u64.wrap k.op).tmod 5)) == 3))) }) rfl rfl rfl rfl trivial rfl ?_) -- t52 assign
        refine rvc_nil ?_
        refine Awp.cond (b := ((IntKind.i64.wrap ((IntKind.u64.wrap k.op).tmod 5)) == 3)) rfl (fun h6 => ?_) (fun h6 => ?_)
        ·
          replace hR := of_true h6 hR
          refine Awp.cons C (fun _ => .pure) (by kernel_rfl) ?_ -- region 13
          refine rvc_un (rexec_prim C (δ := { v := .agg [.pv (.lit (.int .i64 c.epoch)), sS (some c.members.nil) eMember c.members.D] }) rfl rfl rfl rfl trivial rfl ?_) -- t54 load
          refine rvc_un (rexec_prim C (δ := { v := .ptr 3 1 }) rfl rfl rfl rfl trivial rfl ?_) -- t55 fieldAddr
          refine rvc_un (rexec_prim C (δ := { v := .pv (.lit (.int .i64 k.node)) }) rfl rfl rfl rfl trivial rfl ?_) -- t56 load
          refine rvc_un (rexec_call hP C rfl rfl rfl (rAgain_calls c k.node hl1) ?_) -- t57 call
          refine rvc_un (rexec_prim C (δ := { v := .agg [.pv (.lit (.int .i64 ((rAgain c k.node).1.epoch))), sS (some (rAgain c k.node).1.members.nil) eMember ((rAgain c k.node).1.members.D)] }) rfl rfl rfl rfl trivial rfl ?_) -- t58 extract
          refine rvc_un (rexec_prim C (δ := { v := .pv (.lit (.int .i64 ((rAgain c k.node).2))) }) rfl rfl rfl rfl trivial rfl ?_) -- t59 extract
          refine rvc_un (rexec_prim C (δ := { v := .undef, wr := [(4, some (.cells [.pv (.lit (.int .i64 ((rAgain c k.node).1.epoch))), sS (some (rAgain c k.node).1.members.nil) eMember ((rAgain c k.node).1.members.D)]))] }) rfl rfl rfl rfl trivial rfl ?_) -- tNone store
          refine rvc_un (rexec_prim C (δ := { v := .pv (.lit (.int .i64 ((rAgain c k.node).2))) }) rfl rfl rfl rfl trivial rfl ?_) -- t5 assign
          refine rvc_nil ?_
          refine Awp.ret ?_
          subst hR
          exact ⟨.inl rfl, rfl⟩
        ·
          replace hR := of_false h6 hR
          refine Awp.skip ?_
          refine Awp.cons C (fun _ => .pure) (by kernel_rfl) ?_ -- region 14
          refine rvc_un (rexec_prim C (δ := { v := .agg [.pv (.lit (.int .i64 c.epoch)), sS (some c.members.nil) eMember c.members.D] }) rfl rfl rfl rfl trivial rfl ?_) -- t60 load
          refine rvc_un (rexec_prim C (δ := { v := .ptr 3 1 }) rfl rfl rfl rfl trivial rfl ?_) -- t61 fieldAddr
          refine rvc_un (rexec_prim C (δ := { v := .pv (.lit (.int .i64 k.node)) }) rfl rfl rfl rfl trivial rfl ?_) -- t62 load
          refine rvc_un (rexec_call hP C rfl rfl rfl (rReady_calls c k.node hl1) ?_) -- t63 call
          refine rvc_un (rexec_prim C (δ := { v := .agg [.pv (.lit (.int .i64 ((rReady c k.node).1.epoch))), sS (some (rReady c k.node).1.members.nil) eMember ((rReady c k.node).1.members.D)] }) rfl rfl rfl rfl trivial rfl ?_) -- t64 extract
          refine rvc_un (rexec_prim C (δ := { v := .pv (.lit (.int .i64 ((rReady c k.node).2))) }) rfl rfl rfl rfl trivial rfl ?_) -- t65 extract
          refine rvc_un (rexec_prim C (δ := { v := .undef, wr := [(4, some (.cells [.pv (.lit (.int .i64 ((rReady c k.node).1.epoch))), sS (some (rReady c k.node).1.members.nil) eMember ((rReady c k.node).1.members.D)]))] }) rfl rfl rfl rfl trivial rfl ?_) -- tNone store
          refine rvc_un (rexec_prim C (δ := { v := .pv (.lit (.int .i64 ((rReady c k.node).2))) }) rfl rfl rfl rfl trivial rfl ?_) -- t5 assign
          refine rvc_nil ?_
          refine Awp.ret ?_
          subst hR
          exact ⟨.inl rfl, rfl⟩

def does (c : Chain) (k : Do) : Chain × Int :=
  (bif ((IntKind.i64.wrap ((IntKind.u64.wrap k.op).tmod 5)) == 0) then ((drop c k.node).1, (drop c k.node).2) else (bif ((IntKind.i64.wrap ((IntKind.u64.wrap k.op).tmod 5)) == 1) then ((dropSite c k.site).1, (dropSite c k.site).2) else (bif ((IntKind.i64.wrap ((IntKind.u64.wrap k.op).tmod 5)) == 2) then ((join c (Member.mk k.node k.site k.fresh)).1, (join c (Member.mk k.node k.site k.fresh)).2) else (bif ((IntKind.i64.wrap ((IntKind.u64.wrap k.op).tmod 5)) == 3) then ((again c k.node).1, (again c k.node).2) else ((ready c k.node).1, (ready c k.node).2)))))
theorem does_calls (c : Chain) (k : Do) (hn : c.members.nil = true → c.members.D = []) (hl1 : c.members.D.length ≤ 1000000) : PCalls Try.prog 30 [.agg [.pv (.lit (.int .i64 c.epoch)), sS (some c.members.nil) eMember c.members.D], .agg [.pv (.lit (.int .i64 k.op)), .pv (.lit (.int .i64 k.node)), .pv (.lit (.int .i64 k.site)), .pv (.lit (.bool k.fresh))]] (.tup [.agg [.pv (.lit (.int .i64 ((does c k).1.epoch))), sS (some (does c k).1.members.nil) eMember ((does c k).1.members.D)], .pv (.lit (.int .i64 ((does c k).2)))]) := by
  generalize hR : does c k = R
  refine PCalls.of_body tabOk Try.func30 rfl rfl rfl rfl rfl mixed fun E hP C hI => ?_
  refine Awp.cons C (fun _ => .pure) (by kernel_rfl) ?_ -- region 0
  refine rvc_un (rexec_prim C (δ := { v := .ptr 2 0, new := [(2, .cells [.pv (.lit (.int .i64 c.epoch)), sS (some c.members.nil) eMember c.members.D])] }) rfl rfl rfl rfl trivial rfl ?_) -- t2 box
  refine rvc_un (rexec_prim C (δ := { v := .ptr 3 0, new := [(3, .cells [.pv (.lit (.int .i64 k.op)), .pv (.lit (.int .i64 k.node)), .pv (.lit (.int .i64 k.site)), .pv (.lit (.bool k.fresh))])] }) rfl rfl rfl rfl trivial rfl ?_) -- t3 box
  refine rvc_un (rexec_prim C (δ := { v := .ptr 4 0, new := [(4, .cells [.pv (.lit (.int .i64 0)), sS (some true) eMember []])] }) rfl rfl rfl rfl trivial rfl ?_) -- t4 alloc
  refine rvc_un (rexec_prim C (δ := { v := .pv (.lit (.int .i64 0)) }) rfl rfl rfl rfl trivial rfl ?_) -- t5 assign
  refine rvc_nil ?_
  refine Awp.seq ?_
  refine Awp.cons C (fun _ => .pure) (by kernel_rfl) ?_ -- region 1
  refine rvc_un (rexec_prim C (δ := { v := .ptr 3 0 }) rfl rfl rfl rfl trivial rfl ?_) -- t6 fieldAddr
  refine rvc_un (rexec_prim C (δ := { v := .pv (.lit (.int .i64 k.op)) }) rfl rfl rfl rfl trivial rfl ?_) -- t7 load
  refine rvc_un (rexec_prim C (δ := { v := .pv (.lit (.int .u64 (IntKind.u64.wrap k.op))) }) rfl rfl rfl rfl trivial rfl ?_) -- t8 convert
  refine rvc_un (rexec_prim C (δ := { v := .pv (.lit (.int .u64 ((IntKind.u64.wrap k.op).tmod 5))) }) rfl rfl rfl rfl (by first | decide | omega) rfl ?_) -- t9 binOp
  refine rvc_un (rexec_prim C (δ := { v := .pv (.lit (.int .i64 (IntKind.i64.wrap ((IntKind.u64.wrap k.op).tmod 5)))) }) rfl rfl rfl rfl trivial rfl ?_) -- t10 convert
  refine rvc_nil ?_
  refine Awp.block ?_
  refine Awp.cons C (fun _ => .pure) (by kernel_rfl) ?_ -- region 2
  refine rvc_un (rexec_prim C (δ := { v := .pv (.lit (.bool ((IntKind.i64.wrap ((IntKind.u64.wrap k.op).tmod 5)) == 0))) }) rfl rfl rfl rfl trivial rfl ?_) -- t12 binOp
  refine rvc_un (rexec_prim C (δ := { v := .pv (.lit (.bool ((IntKind.i64.wrap ((IntKind.u64.wrap k.op).tmod 5)) == 0))) }) rfl rfl rfl rfl trivial rfl ?_) -- t11 assign
  refine rvc_nil ?_
  refine Awp.cond (b := ((IntKind.i64.wrap ((IntKind.u64.wrap k.op).tmod 5)) == 0)) rfl (fun h1 => ?_) (fun h1 => ?_)
  ·
    replace hR := of_true h1 hR
    refine Awp.cons C (fun _ => .pure) (by kernel_rfl) ?_ -- region 3
    refine rvc_un (rexec_prim C (δ := { v := .agg [.pv (.lit (.int .i64 c.epoch)), sS (some c.members.nil) eMember c.members.D] }) rfl rfl rfl rfl trivial rfl ?_) -- t13 load
    refine rvc_un (rexec_prim C (δ := { v := .ptr 3 1 }) rfl rfl rfl rfl trivial rfl ?_) -- t14 fieldAddr
    refine rvc_un (rexec_prim C (δ := { v := .pv (.lit (.int .i64 k.node)) }) rfl rfl rfl rfl trivial rfl ?_) -- t15 load
    refine rvc_un (rexec_call hP C rfl rfl rfl (drop_calls c k.node hl1) ?_) -- t16 call
    refine rvc_un (rexec_prim C (δ := { v := .agg [.pv (.lit (.int .i64 ((drop c k.node).1.epoch))), sS (some (drop c k.node).1.members.nil) eMember ((drop c k.node).1.members.D)] }) rfl rfl rfl rfl trivial rfl ?_) -- t17 extract
    refine rvc_un (rexec_prim C (δ := { v := .pv (.lit (.int .i64 ((drop c k.node).2))) }) rfl rfl rfl rfl trivial rfl ?_) -- t18 extract
    refine rvc_un (rexec_prim C (δ := { v := .undef, wr := [(4, some (.cells [.pv (.lit (.int .i64 ((drop c k.node).1.epoch))), sS (some (drop c k.node).1.members.nil) eMember ((drop c k.node).1.members.D)]))] }) rfl rfl rfl rfl trivial rfl ?_) -- tNone store
    refine rvc_un (rexec_prim C (δ := { v := .pv (.lit (.int .i64 ((drop c k.node).2))) }) rfl rfl rfl rfl trivial rfl ?_) -- t5 assign
    refine rvc_nil ?_
    refine Awp.ret ?_
    subst hR
    exact ⟨.inl rfl, rfl⟩
  ·
    replace hR := of_false h1 hR
    refine Awp.cons C (fun _ => .pure) (by kernel_rfl) ?_ -- region 4
    refine rvc_un (rexec_prim C (δ := { v := .pv (.lit (.bool ((IntKind.i64.wrap ((IntKind.u64.wrap k.op).tmod 5)) == 1))) }) rfl rfl rfl rfl trivial rfl ?_) -- t20 binOp
    refine rvc_un (rexec_prim C (δ := { v := .pv (.lit (.bool ((IntKind.i64.wrap ((IntKind.u64.wrap k.op).tmod 5)) == 1))) }) rfl rfl rfl rfl trivial rfl ?_) -- t19 assign
    refine rvc_nil ?_
    refine Awp.cond (b := ((IntKind.i64.wrap ((IntKind.u64.wrap k.op).tmod 5)) == 1)) rfl (fun h2 => ?_) (fun h2 => ?_)
    ·
      replace hR := of_true h2 hR
      refine Awp.cons C (fun _ => .pure) (by kernel_rfl) ?_ -- region 5
      refine rvc_un (rexec_prim C (δ := { v := .agg [.pv (.lit (.int .i64 c.epoch)), sS (some c.members.nil) eMember c.members.D] }) rfl rfl rfl rfl trivial rfl ?_) -- t21 load
      refine rvc_un (rexec_prim C (δ := { v := .ptr 3 2 }) rfl rfl rfl rfl trivial rfl ?_) -- t22 fieldAddr
      refine rvc_un (rexec_prim C (δ := { v := .pv (.lit (.int .i64 k.site)) }) rfl rfl rfl rfl trivial rfl ?_) -- t23 load
      refine rvc_un (rexec_call hP C rfl rfl rfl (dropSite_calls c k.site hl1) ?_) -- t24 call
      refine rvc_un (rexec_prim C (δ := { v := .agg [.pv (.lit (.int .i64 ((dropSite c k.site).1.epoch))), sS (some (dropSite c k.site).1.members.nil) eMember ((dropSite c k.site).1.members.D)] }) rfl rfl rfl rfl trivial rfl ?_) -- t25 extract
      refine rvc_un (rexec_prim C (δ := { v := .pv (.lit (.int .i64 ((dropSite c k.site).2))) }) rfl rfl rfl rfl trivial rfl ?_) -- t26 extract
      refine rvc_un (rexec_prim C (δ := { v := .undef, wr := [(4, some (.cells [.pv (.lit (.int .i64 ((dropSite c k.site).1.epoch))), sS (some (dropSite c k.site).1.members.nil) eMember ((dropSite c k.site).1.members.D)]))] }) rfl rfl rfl rfl trivial rfl ?_) -- tNone store
      refine rvc_un (rexec_prim C (δ := { v := .pv (.lit (.int .i64 ((dropSite c k.site).2))) }) rfl rfl rfl rfl trivial rfl ?_) -- t5 assign
      refine rvc_nil ?_
      refine Awp.ret ?_
      subst hR
      exact ⟨.inl rfl, rfl⟩
    ·
      replace hR := of_false h2 hR
      refine Awp.cons C (fun _ => .pure) (by kernel_rfl) ?_ -- region 6
      refine rvc_un (rexec_prim C (δ := { v := .pv (.lit (.bool ((IntKind.i64.wrap ((IntKind.u64.wrap k.op).tmod 5)) == 2))) }) rfl rfl rfl rfl trivial rfl ?_) -- t28 binOp
      refine rvc_un (rexec_prim C (δ := { v := .pv (.lit (.bool ((IntKind.i64.wrap ((IntKind.u64.wrap k.op).tmod 5)) == 2))) }) rfl rfl rfl rfl trivial rfl ?_) -- t27 assign
      refine rvc_nil ?_
      refine Awp.cond (b := ((IntKind.i64.wrap ((IntKind.u64.wrap k.op).tmod 5)) == 2)) rfl (fun h3 => ?_) (fun h3 => ?_)
      ·
        replace hR := of_true h3 hR
        refine Awp.cons C (fun _ => .pure) (by kernel_rfl) ?_ -- region 7
        refine rvc_un (rexec_prim C (δ := { v := .agg [.pv (.lit (.int .i64 c.epoch)), sS (some c.members.nil) eMember c.members.D] }) rfl rfl rfl rfl trivial rfl ?_) -- t29 load
        refine rvc_un (rexec_prim C (δ := { v := .ptr 3 1 }) rfl rfl rfl rfl trivial rfl ?_) -- t30 fieldAddr
        refine rvc_un (rexec_prim C (δ := { v := .pv (.lit (.int .i64 k.node)) }) rfl rfl rfl rfl trivial rfl ?_) -- t31 load
        refine rvc_un (rexec_prim C (δ := { v := .ptr 3 2 }) rfl rfl rfl rfl trivial rfl ?_) -- t32 fieldAddr
        refine rvc_un (rexec_prim C (δ := { v := .pv (.lit (.int .i64 k.site)) }) rfl rfl rfl rfl trivial rfl ?_) -- t33 load
        refine rvc_un (rexec_prim C (δ := { v := .ptr 3 3 }) rfl rfl rfl rfl trivial rfl ?_) -- t34 fieldAddr
        refine rvc_un (rexec_prim C (δ := { v := .pv (.lit (.bool k.fresh)) }) rfl rfl rfl rfl trivial rfl ?_) -- t35 load
        refine rvc_un (rexec_prim C (δ := { v := .agg [.pv (.lit (.int .i64 k.node)), .pv (.lit (.int .i64 k.site)), .pv (.lit (.bool k.fresh))] }) rfl rfl rfl rfl trivial rfl ?_) -- t36 build
        refine rvc_un (rexec_call hP C rfl rfl rfl (join_calls c (Member.mk k.node k.site k.fresh) hn hl1) ?_) -- t37 call
        refine rvc_un (rexec_prim C (δ := { v := .agg [.pv (.lit (.int .i64 ((join c (Member.mk k.node k.site k.fresh)).1.epoch))), sS (some (join c (Member.mk k.node k.site k.fresh)).1.members.nil) eMember ((join c (Member.mk k.node k.site k.fresh)).1.members.D)] }) rfl rfl rfl rfl trivial rfl ?_) -- t38 extract
        refine rvc_un (rexec_prim C (δ := { v := .pv (.lit (.int .i64 ((join c (Member.mk k.node k.site k.fresh)).2))) }) rfl rfl rfl rfl trivial rfl ?_) -- t39 extract
        refine rvc_un (rexec_prim C (δ := { v := .undef, wr := [(4, some (.cells [.pv (.lit (.int .i64 ((join c (Member.mk k.node k.site k.fresh)).1.epoch))), sS (some (join c (Member.mk k.node k.site k.fresh)).1.members.nil) eMember ((join c (Member.mk k.node k.site k.fresh)).1.members.D)]))] }) rfl rfl rfl rfl trivial rfl ?_) -- tNone store
        refine rvc_un (rexec_prim C (δ := { v := .pv (.lit (.int .i64 ((join c (Member.mk k.node k.site k.fresh)).2))) }) rfl rfl rfl rfl trivial rfl ?_) -- t5 assign
        refine rvc_nil ?_
        refine Awp.ret ?_
        subst hR
        exact ⟨.inl rfl, rfl⟩
      ·
        replace hR := of_false h3 hR
        refine Awp.cons C (fun _ => .pure) (by kernel_rfl) ?_ -- region 8
        refine rvc_un (rexec_prim C (δ := { v := .pv (.lit (.bool ((IntKind.i64.wrap ((IntKind.u64.wrap k.op).tmod 5)) == 3))) }) rfl rfl rfl rfl trivial rfl ?_) -- t41 binOp
        refine rvc_un (rexec_prim C (δ := { v := .pv (.lit (.bool ((IntKind.i64.wrap ((IntKind.u64.wrap k.op).tmod 5)) == 3))) }) rfl rfl rfl rfl trivial rfl ?_) -- t40 assign
        refine rvc_nil ?_
        refine Awp.cond (b := ((IntKind.i64.wrap ((IntKind.u64.wrap k.op).tmod 5)) == 3)) rfl (fun h4 => ?_) (fun h4 => ?_)
        ·
          replace hR := of_true h4 hR
          refine Awp.cons C (fun _ => .pure) (by kernel_rfl) ?_ -- region 9
          refine rvc_un (rexec_prim C (δ := { v := .agg [.pv (.lit (.int .i64 c.epoch)), sS (some c.members.nil) eMember c.members.D] }) rfl rfl rfl rfl trivial rfl ?_) -- t42 load
          refine rvc_un (rexec_prim C (δ := { v := .ptr 3 1 }) rfl rfl rfl rfl trivial rfl ?_) -- t43 fieldAddr
          refine rvc_un (rexec_prim C (δ := { v := .pv (.lit (.int .i64 k.node)) }) rfl rfl rfl rfl trivial rfl ?_) -- t44 load
          refine rvc_un (rexec_call hP C rfl rfl rfl (again_calls c k.node hl1) ?_) -- t45 call
          refine rvc_un (rexec_prim C (δ := { v := .agg [.pv (.lit (.int .i64 ((again c k.node).1.epoch))), sS (some (again c k.node).1.members.nil) eMember ((again c k.node).1.members.D)] }) rfl rfl rfl rfl trivial rfl ?_) -- t46 extract
          refine rvc_un (rexec_prim C (δ := { v := .pv (.lit (.int .i64 ((again c k.node).2))) }) rfl rfl rfl rfl trivial rfl ?_) -- t47 extract
          refine rvc_un (rexec_prim C (δ := { v := .undef, wr := [(4, some (.cells [.pv (.lit (.int .i64 ((again c k.node).1.epoch))), sS (some (again c k.node).1.members.nil) eMember ((again c k.node).1.members.D)]))] }) rfl rfl rfl rfl trivial rfl ?_) -- tNone store
          refine rvc_un (rexec_prim C (δ := { v := .pv (.lit (.int .i64 ((again c k.node).2))) }) rfl rfl rfl rfl trivial rfl ?_) -- t5 assign
          refine rvc_nil ?_
          refine Awp.ret ?_
          subst hR
          exact ⟨.inl rfl, rfl⟩
        ·
          replace hR := of_false h4 hR
          refine Awp.skip ?_
          refine Awp.cons C (fun _ => .pure) (by kernel_rfl) ?_ -- region 10
          refine rvc_un (rexec_prim C (δ := { v := .agg [.pv (.lit (.int .i64 c.epoch)), sS (some c.members.nil) eMember c.members.D] }) rfl rfl rfl rfl trivial rfl ?_) -- t48 load
          refine rvc_un (rexec_prim C (δ := { v := .ptr 3 1 }) rfl rfl rfl rfl trivial rfl ?_) -- t49 fieldAddr
          refine rvc_un (rexec_prim C (δ := { v := .pv (.lit (.int .i64 k.node)) }) rfl rfl rfl rfl trivial rfl ?_) -- t50 load
          refine rvc_un (rexec_call hP C rfl rfl rfl (ready_calls c k.node hn hl1) ?_) -- t51 call
          refine rvc_un (rexec_prim C (δ := { v := .agg [.pv (.lit (.int .i64 ((ready c k.node).1.epoch))), sS (some (ready c k.node).1.members.nil) eMember ((ready c k.node).1.members.D)] }) rfl rfl rfl rfl trivial rfl ?_) -- t52 extract
          refine rvc_un (rexec_prim C (δ := { v := .pv (.lit (.int .i64 ((ready c k.node).2))) }) rfl rfl rfl rfl trivial rfl ?_) -- t53 extract
          refine rvc_un (rexec_prim C (δ := { v := .undef, wr := [(4, some (.cells [.pv (.lit (.int .i64 ((ready c k.node).1.epoch))), sS (some (ready c k.node).1.members.nil) eMember ((ready c k.node).1.members.D)]))] }) rfl rfl rfl rfl trivial rfl ?_) -- tNone store
          refine rvc_un (rexec_prim C (δ := { v := .pv (.lit (.int .i64 ((ready c k.node).2))) }) rfl rfl rfl rfl trivial rfl ?_) -- t5 assign
          refine rvc_nil ?_
          refine Awp.ret ?_
          subst hR
          exact ⟨.inl rfl, rfl⟩

end Go.Proofs.Ytjhphpoihadmkaa
