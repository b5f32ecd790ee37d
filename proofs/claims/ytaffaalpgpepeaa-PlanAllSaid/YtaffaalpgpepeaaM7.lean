import Derived.Test.YtaffaalpgpepeaaM6
import Derived.Test.YtaffaalpgpepeaaM5
import Derived.Test.YtaffaalpgpepeaaM3
import Derived.Test.YtaffaalpgpepeaaM2
/- The reference: all commands. No conditions. -/
namespace Go.Proofs.Ytaffaalpgpepeaa
open Go.Am
def rAllP_l1 (sw : (Nat → Bool)) (kk : (List Member) → ((Sl Command) × Chain × Int)) : List Member → Nat → (List Member) → (Sl Command) × Chain × Int
  | [], _, vc2 => kk vc2
  | x :: xs, i1, vc2 => (bif x.fresh then rAllP_l1 sw kk xs (i1 + 1) (vc2 ++ [(Member.mk x.node x.site (!(sw x.node.toNat)))]) else rAllP_l1 sw kk xs (i1 + 1) (vc2 ++ [(Member.mk x.node x.site false)]))
def rAllP_l0 (alive : Int) (h : (Nat → Int)) (w : (Nat → Int)) (sw : (Nat → Bool)) : Nat → Nat → (List Command) → Int → (Sl Member) → (Sl Command) × Chain × Int
  | 0, _, l, vc, vc1 => ((Sl.mk l.isEmpty l), (Chain.mk vc vc1), 0)
  | k + 1, i, l, vc, vc1 => (bif ((rCheck (Chain.mk vc vc1)) == 0) then rAllP_l1 sw (fun vc3 => (bif ((rNextP (Chain.mk vc (Sl.mk vc3.isEmpty vc3)) alive h w).2.2 != 0) then ((Sl.mk true []), (Chain.mk 0 (Sl.mk true [])), (rNextP (Chain.mk vc (Sl.mk vc3.isEmpty vc3)) alive h w).2.2) else (bif (!(rNextP (Chain.mk vc (Sl.mk vc3.isEmpty vc3)) alive h w).2.1) then ((Sl.mk l.isEmpty l), (Chain.mk vc (Sl.mk vc3.isEmpty vc3)), 0) else (bif ((rNextP (Chain.mk vc (Sl.mk vc3.isEmpty vc3)) alive h w).1.kind == 1) then rAllP_l0 alive h w sw k (i + 1) (l ++ [(rNextP (Chain.mk vc (Sl.mk vc3.isEmpty vc3)) alive h w).1]) (rCut (Chain.mk vc (Sl.mk vc3.isEmpty vc3)) (rNextP (Chain.mk vc (Sl.mk vc3.isEmpty vc3)) alive h w).1.node (-1)).1.epoch (rCut (Chain.mk vc (Sl.mk vc3.isEmpty vc3)) (rNextP (Chain.mk vc (Sl.mk vc3.isEmpty vc3)) alive h w).1.node (-1)).1.members else rAllP_l0 alive h w sw k (i + 1) (l ++ [(rNextP (Chain.mk vc (Sl.mk vc3.isEmpty vc3)) alive h w).1]) (rJoin (Chain.mk vc (Sl.mk vc3.isEmpty vc3)) (Member.mk (rNextP (Chain.mk vc (Sl.mk vc3.isEmpty vc3)) alive h w).1.node (rNextP (Chain.mk vc (Sl.mk vc3.isEmpty vc3)) alive h w).1.site false)).1.epoch (rJoin (Chain.mk vc (Sl.mk vc3.isEmpty vc3)) (Member.mk (rNextP (Chain.mk vc (Sl.mk vc3.isEmpty vc3)) alive h w).1.node (rNextP (Chain.mk vc (Sl.mk vc3.isEmpty vc3)) alive h w).1.site false)).1.members)))) vc1.D 0 [] else (bif ((rNextP (Chain.mk vc vc1) alive h w).2.2 != 0) then ((Sl.mk true []), (Chain.mk 0 (Sl.mk true [])), (rNextP (Chain.mk vc vc1) alive h w).2.2) else (bif (!(rNextP (Chain.mk vc vc1) alive h w).2.1) then ((Sl.mk l.isEmpty l), (Chain.mk vc vc1), 0) else (bif ((rNextP (Chain.mk vc vc1) alive h w).1.kind == 1) then rAllP_l0 alive h w sw k (i + 1) (l ++ [(rNextP (Chain.mk vc vc1) alive h w).1]) (rCut (Chain.mk vc vc1) (rNextP (Chain.mk vc vc1) alive h w).1.node (-1)).1.epoch (rCut (Chain.mk vc vc1) (rNextP (Chain.mk vc vc1) alive h w).1.node (-1)).1.members else rAllP_l0 alive h w sw k (i + 1) (l ++ [(rNextP (Chain.mk vc vc1) alive h w).1]) (rJoin (Chain.mk vc vc1) (Member.mk (rNextP (Chain.mk vc vc1) alive h w).1.node (rNextP (Chain.mk vc vc1) alive h w).1.site false)).1.epoch (rJoin (Chain.mk vc vc1) (Member.mk (rNextP (Chain.mk vc vc1) alive h w).1.node (rNextP (Chain.mk vc vc1) alive h w).1.site false)).1.members))))
def rAllP (c : Chain) (alive : Int) (h : (Nat → Int)) (w : (Nat → Int)) : (Sl Command) × Chain × Int :=
  rAllP_l0 alive h w (fromW alive) 100 0 [] c.epoch c.members
set_option maxHeartbeats 4000000 in
theorem rAllP_calls (c : Chain) (alive : Int) (h : (Nat → Int)) (w : (Nat → Int)) (hL : c.members.D.length ≤ 1000000) : PCalls Try.prog 14 [.agg [.pv (.lit (.int .i64 c.epoch)), sS (some c.members.nil) eMember c.members.D], .pv (.lit (.int .u64 alive)), .agg [.pv (.lit (.int .i64 (h 0))), .pv (.lit (.int .i64 (h 1))), .pv (.lit (.int .i64 (h 2))), .pv (.lit (.int .i64 (h 3))), .pv (.lit (.int .i64 (h 4))), .pv (.lit (.int .i64 (h 5)))], .agg [.pv (.lit (.int .i64 (w 0))), .pv (.lit (.int .i64 (w 1))), .pv (.lit (.int .i64 (w 2)))]] (.tup [sS (some (rAllP c alive h w).1.nil) eCommand ((rAllP c alive h w).1.D), .agg [.pv (.lit (.int .i64 ((rAllP c alive h w).2.1.epoch))), sS (some (rAllP c alive h w).2.1.members.nil) eMember ((rAllP c alive h w).2.1.members.D)], .pv (.lit (.int .i64 ((rAllP c alive h w).2.2)))]) := by
 generalize hR : rAllP c alive h w = R
 refine PCalls.of_body tabOk Try.func14 rfl rfl rfl rfl rfl mixed fun E hP C hI => ?_
 refine Awp.consP C ?_
 refine rvc_un (rexec_prim C (δ := { v := .ptr 4 0, new := [(4, .cells [.pv (.lit (.int .i64 c.epoch)), sS (some c.members.nil) eMember c.members.D])] }) rfl rfl rfl rfl trivial rfl ?_)
 refine rvc_un (rexec_prim C (δ := { v := .ptr 6 0, new := [(6, .cells [.pv (.lit (.int .i64 (h 0))), .pv (.lit (.int .i64 (h 1))), .pv (.lit (.int .i64 (h 2))), .pv (.lit (.int .i64 (h 3))), .pv (.lit (.int .i64 (h 4))), .pv (.lit (.int .i64 (h 5)))])] }) rfl rfl rfl rfl trivial rfl ?_)
 refine rvc_un (rexec_prim C (δ := { v := .ptr 7 0, new := [(7, .cells [.pv (.lit (.int .i64 (w 0))), .pv (.lit (.int .i64 (w 1))), .pv (.lit (.int .i64 (w 2)))])] }) rfl rfl rfl rfl trivial rfl ?_)
 refine rvP C (sS (some true) eCommand []) ?_
 refine rvc_un (rexec_prim C (δ := { v := .ptr 9 0, new := [(9, .cells [.pv (.lit (.int .i64 0)), sS (some true) eMember []])] }) rfl rfl rfl rfl trivial rfl ?_)
 refine rvP C (.pv (.lit (.int .i64 0))) ?_
 refine rvc_nil ?_
 refine Awp.consP C ?_
 refine rvP C (sS (some true) eCommand []) ?_
 refine rvc_nil ?_
 refine Awp.consP C ?_
 refine rvP C (.pv (.lit (.int .u64 alive))) ?_
 obtain ⟨sw, hq_sw⟩ : ∃ q_, q_ = (fromW alive) := ⟨_, rfl⟩
 have hc_sw := (fromW_calls alive)
 first | rw [← hq_sw] at hR hc_sw | (unfold rAllP at hR; rw [← hq_sw] at hR hc_sw)
 refine rvc_un (rexec_call hP C rfl rfl rfl hc_sw ?_)
 refine rvc_un (rexec_prim C (δ := { v := .ptr 12 0, new := [(12, .cells [.pv (.lit (.bool false)), .pv (.lit (.bool false)), .pv (.lit (.bool false)), .pv (.lit (.bool false)), .pv (.lit (.bool false)), .pv (.lit (.bool false)), .pv (.lit (.bool false)), .pv (.lit (.bool false)), .pv (.lit (.bool false)), .pv (.lit (.bool false)), .pv (.lit (.bool false)), .pv (.lit (.bool false)), .pv (.lit (.bool false)), .pv (.lit (.bool false)), .pv (.lit (.bool false)), .pv (.lit (.bool false)), .pv (.lit (.bool false)), .pv (.lit (.bool false)), .pv (.lit (.bool false)), .pv (.lit (.bool false)), .pv (.lit (.bool false)), .pv (.lit (.bool false)), .pv (.lit (.bool false)), .pv (.lit (.bool false)), .pv (.lit (.bool false)), .pv (.lit (.bool false)), .pv (.lit (.bool false)), .pv (.lit (.bool false)), .pv (.lit (.bool false)), .pv (.lit (.bool false)), .pv (.lit (.bool false)), .pv (.lit (.bool false)), .pv (.lit (.bool false)), .pv (.lit (.bool false)), .pv (.lit (.bool false)), .pv (.lit (.bool false)), .pv (.lit (.bool false)), .pv (.lit (.bool false)), .pv (.lit (.bool false)), .pv (.lit (.bool false)), .pv (.lit (.bool false)), .pv (.lit (.bool false)), .pv (.lit (.bool false)), .pv (.lit (.bool false)), .pv (.lit (.bool false)), .pv (.lit (.bool false)), .pv (.lit (.bool false)), .pv (.lit (.bool false)), .pv (.lit (.bool false)), .pv (.lit (.bool false)), .pv (.lit (.bool false)), .pv (.lit (.bool false)), .pv (.lit (.bool false)), .pv (.lit (.bool false)), .pv (.lit (.bool false)), .pv (.lit (.bool false)), .pv (.lit (.bool false)), .pv (.lit (.bool false)), .pv (.lit (.bool false)), .pv (.lit (.bool false)), .pv (.lit (.bool false)), .pv (.lit (.bool false)), .pv (.lit (.bool false)), .pv (.lit (.bool false))])] }) rfl rfl rfl rfl trivial rfl ?_)
 refine rvc_un (rexec_prim C (δ := { v := .undef, wr := [(12, some (.cells [.pv (.lit (.bool (sw 0))), .pv (.lit (.bool (sw 1))), .pv (.lit (.bool (sw 2))), .pv (.lit (.bool (sw 3))), .pv (.lit (.bool (sw 4))), .pv (.lit (.bool (sw 5))), .pv (.lit (.bool (sw 6))), .pv (.lit (.bool (sw 7))), .pv (.lit (.bool (sw 8))), .pv (.lit (.bool (sw 9))), .pv (.lit (.bool (sw 10))), .pv (.lit (.bool (sw 11))), .pv (.lit (.bool (sw 12))), .pv (.lit (.bool (sw 13))), .pv (.lit (.bool (sw 14))), .pv (.lit (.bool (sw 15))), .pv (.lit (.bool (sw 16))), .pv (.lit (.bool (sw 17))), .pv (.lit (.bool (sw 18))), .pv (.lit (.bool (sw 19))), .pv (.lit (.bool (sw 20))), .pv (.lit (.bool (sw 21))), .pv (.lit (.bool (sw 22))), .pv (.lit (.bool (sw 23))), .pv (.lit (.bool (sw 24))), .pv (.lit (.bool (sw 25))), .pv (.lit (.bool (sw 26))), .pv (.lit (.bool (sw 27))), .pv (.lit (.bool (sw 28))), .pv (.lit (.bool (sw 29))), .pv (.lit (.bool (sw 30))), .pv (.lit (.bool (sw 31))), .pv (.lit (.bool (sw 32))), .pv (.lit (.bool (sw 33))), .pv (.lit (.bool (sw 34))), .pv (.lit (.bool (sw 35))), .pv (.lit (.bool (sw 36))), .pv (.lit (.bool (sw 37))), .pv (.lit (.bool (sw 38))), .pv (.lit (.bool (sw 39))), .pv (.lit (.bool (sw 40))), .pv (.lit (.bool (sw 41))), .pv (.lit (.bool (sw 42))), .pv (.lit (.bool (sw 43))), .pv (.lit (.bool (sw 44))), .pv (.lit (.bool (sw 45))), .pv (.lit (.bool (sw 46))), .pv (.lit (.bool (sw 47))), .pv (.lit (.bool (sw 48))), .pv (.lit (.bool (sw 49))), .pv (.lit (.bool (sw 50))), .pv (.lit (.bool (sw 51))), .pv (.lit (.bool (sw 52))), .pv (.lit (.bool (sw 53))), .pv (.lit (.bool (sw 54))), .pv (.lit (.bool (sw 55))), .pv (.lit (.bool (sw 56))), .pv (.lit (.bool (sw 57))), .pv (.lit (.bool (sw 58))), .pv (.lit (.bool (sw 59))), .pv (.lit (.bool (sw 60))), .pv (.lit (.bool (sw 61))), .pv (.lit (.bool (sw 62))), .pv (.lit (.bool (sw 63)))]))] }) rfl rfl rfl rfl trivial rfl ?_)
 refine rvc_nil ?_
 refine Awp.seq ?_
 refine Awp.consP C ?_
 refine rvP C (.pv (.lit (.int .i64 0))) ?_
 refine rvc_nil ?_
 refine Awp.block ?_
 refine Awp.forR (σ := ((List Command)) × Int × ((Sl Member))) (100) (fun i v => [(1, .pv (.lit (.int .u64 alive))), (4, .ptr 4 0), (6, .ptr 6 0), (7, .ptr 7 0), (9, .ptr 9 0), (11, grow 900 eCommand v.1), (12, .ptr 12 0), (21, .pv (.lit (.int .i64 (i : Int))))]) (fun i v => (growH 900 eCommand v.1 ++ ([(4, .cells [.pv (.lit (.int .i64 v.2.1)), sS (some v.2.2.nil) eMember v.2.2.D]), (6, .cells [.pv (.lit (.int .i64 (h 0))), .pv (.lit (.int .i64 (h 1))), .pv (.lit (.int .i64 (h 2))), .pv (.lit (.int .i64 (h 3))), .pv (.lit (.int .i64 (h 4))), .pv (.lit (.int .i64 (h 5)))]), (7, .cells [.pv (.lit (.int .i64 (w 0))), .pv (.lit (.int .i64 (w 1))), .pv (.lit (.int .i64 (w 2)))]), (9, .cells [.pv (.lit (.int .i64 0)), sS (some true) eMember []]), (12, .cells [.pv (.lit (.bool (sw 0))), .pv (.lit (.bool (sw 1))), .pv (.lit (.bool (sw 2))), .pv (.lit (.bool (sw 3))), .pv (.lit (.bool (sw 4))), .pv (.lit (.bool (sw 5))), .pv (.lit (.bool (sw 6))), .pv (.lit (.bool (sw 7))), .pv (.lit (.bool (sw 8))), .pv (.lit (.bool (sw 9))), .pv (.lit (.bool (sw 10))), .pv (.lit (.bool (sw 11))), .pv (.lit (.bool (sw 12))), .pv (.lit (.bool (sw 13))), .pv (.lit (.bool (sw 14))), .pv (.lit (.bool (sw 15))), .pv (.lit (.bool (sw 16))), .pv (.lit (.bool (sw 17))), .pv (.lit (.bool (sw 18))), .pv (.lit (.bool (sw 19))), .pv (.lit (.bool (sw 20))), .pv (.lit (.bool (sw 21))), .pv (.lit (.bool (sw 22))), .pv (.lit (.bool (sw 23))), .pv (.lit (.bool (sw 24))), .pv (.lit (.bool (sw 25))), .pv (.lit (.bool (sw 26))), .pv (.lit (.bool (sw 27))), .pv (.lit (.bool (sw 28))), .pv (.lit (.bool (sw 29))), .pv (.lit (.bool (sw 30))), .pv (.lit (.bool (sw 31))), .pv (.lit (.bool (sw 32))), .pv (.lit (.bool (sw 33))), .pv (.lit (.bool (sw 34))), .pv (.lit (.bool (sw 35))), .pv (.lit (.bool (sw 36))), .pv (.lit (.bool (sw 37))), .pv (.lit (.bool (sw 38))), .pv (.lit (.bool (sw 39))), .pv (.lit (.bool (sw 40))), .pv (.lit (.bool (sw 41))), .pv (.lit (.bool (sw 42))), .pv (.lit (.bool (sw 43))), .pv (.lit (.bool (sw 44))), .pv (.lit (.bool (sw 45))), .pv (.lit (.bool (sw 46))), .pv (.lit (.bool (sw 47))), .pv (.lit (.bool (sw 48))), .pv (.lit (.bool (sw 49))), .pv (.lit (.bool (sw 50))), .pv (.lit (.bool (sw 51))), .pv (.lit (.bool (sw 52))), .pv (.lit (.bool (sw 53))), .pv (.lit (.bool (sw 54))), .pv (.lit (.bool (sw 55))), .pv (.lit (.bool (sw 56))), .pv (.lit (.bool (sw 57))), .pv (.lit (.bool (sw 58))), .pv (.lit (.bool (sw 59))), .pv (.lit (.bool (sw 60))), .pv (.lit (.bool (sw 61))), .pv (.lit (.bool (sw 62))), .pv (.lit (.bool (sw 63)))])]))) [4, 6, 7, 9, 12, 900] (fun i v => (rAllP_l0 alive h w sw (100 - i) i v.1 v.2.1 v.2.2 = R) ∧ (v.2.2.D.length ≤ 1000000) ∧ (v.1.length ≤ i * 1000000)) ([], c.epoch, c.members) ?_ ?_ (fun i v h1 hR => ?_)
 · exact ⟨hR, hL, (by first | omega | (simp <;> omega))⟩
 · exact ⟨fun b => b, WeakerR.ofL (Ks := [4, 6, 7, 9, 12, 900]) hI ⟨⟨rfl, rfl⟩, ⟨rfl, rfl⟩, ⟨rfl, rfl⟩, ⟨rfl, rfl⟩, ⟨rfl, rfl⟩, ⟨rfl, rfl⟩, ⟨rfl, rfl⟩, ⟨rfl, rfl⟩, trivial⟩ (okH_grow (fun hne => absurd rfl hne) rfl rfl (okH_cons rfl rfl rfl rfl (okH_cons rfl rfl rfl rfl (okH_cons rfl rfl rfl rfl (okH_cons rfl rfl rfl rfl (okH_cons rfl rfl rfl rfl (okH_nil))))))) rfl⟩
 obtain ⟨l, vc, vc1⟩ := v
 obtain ⟨hR, hV, hi_l⟩ := hR
 replace hi_l : l.length ≤ i * 1000000 := hi_l
 replace hV : vc1.D.length ≤ 1000000 := hV
 by_cases h2 : l = []
 ·
  refine Awp.wordsR [(1, .pv (.lit (.int .u64 alive))), (4, .ptr 4 0), (6, .ptr 6 0), (7, .ptr 7 0), (9, .ptr 9 0), (11, sS (some l.isEmpty) eCommand l), (12, .ptr 12 0), (21, .pv (.lit (.int .i64 (i : Int))))] [(4, .cells [.pv (.lit (.int .i64 vc)), sS (some vc1.nil) eMember vc1.D]), (6, .cells [.pv (.lit (.int .i64 (h 0))), .pv (.lit (.int .i64 (h 1))), .pv (.lit (.int .i64 (h 2))), .pv (.lit (.int .i64 (h 3))), .pv (.lit (.int .i64 (h 4))), .pv (.lit (.int .i64 (h 5)))]), (7, .cells [.pv (.lit (.int .i64 (w 0))), .pv (.lit (.int .i64 (w 1))), .pv (.lit (.int .i64 (w 2)))]), (9, .cells [.pv (.lit (.int .i64 0)), sS (some true) eMember []]), (12, .cells [.pv (.lit (.bool (sw 0))), .pv (.lit (.bool (sw 1))), .pv (.lit (.bool (sw 2))), .pv (.lit (.bool (sw 3))), .pv (.lit (.bool (sw 4))), .pv (.lit (.bool (sw 5))), .pv (.lit (.bool (sw 6))), .pv (.lit (.bool (sw 7))), .pv (.lit (.bool (sw 8))), .pv (.lit (.bool (sw 9))), .pv (.lit (.bool (sw 10))), .pv (.lit (.bool (sw 11))), .pv (.lit (.bool (sw 12))), .pv (.lit (.bool (sw 13))), .pv (.lit (.bool (sw 14))), .pv (.lit (.bool (sw 15))), .pv (.lit (.bool (sw 16))), .pv (.lit (.bool (sw 17))), .pv (.lit (.bool (sw 18))), .pv (.lit (.bool (sw 19))), .pv (.lit (.bool (sw 20))), .pv (.lit (.bool (sw 21))), .pv (.lit (.bool (sw 22))), .pv (.lit (.bool (sw 23))), .pv (.lit (.bool (sw 24))), .pv (.lit (.bool (sw 25))), .pv (.lit (.bool (sw 26))), .pv (.lit (.bool (sw 27))), .pv (.lit (.bool (sw 28))), .pv (.lit (.bool (sw 29))), .pv (.lit (.bool (sw 30))), .pv (.lit (.bool (sw 31))), .pv (.lit (.bool (sw 32))), .pv (.lit (.bool (sw 33))), .pv (.lit (.bool (sw 34))), .pv (.lit (.bool (sw 35))), .pv (.lit (.bool (sw 36))), .pv (.lit (.bool (sw 37))), .pv (.lit (.bool (sw 38))), .pv (.lit (.bool (sw 39))), .pv (.lit (.bool (sw 40))), .pv (.lit (.bool (sw 41))), .pv (.lit (.bool (sw 42))), .pv (.lit (.bool (sw 43))), .pv (.lit (.bool (sw 44))), .pv (.lit (.bool (sw 45))), .pv (.lit (.bool (sw 46))), .pv (.lit (.bool (sw 47))), .pv (.lit (.bool (sw 48))), .pv (.lit (.bool (sw 49))), .pv (.lit (.bool (sw 50))), .pv (.lit (.bool (sw 51))), .pv (.lit (.bool (sw 52))), .pv (.lit (.bool (sw 53))), .pv (.lit (.bool (sw 54))), .pv (.lit (.bool (sw 55))), .pv (.lit (.bool (sw 56))), .pv (.lit (.bool (sw 57))), .pv (.lit (.bool (sw 58))), .pv (.lit (.bool (sw 59))), .pv (.lit (.bool (sw 60))), .pv (.lit (.bool (sw 61))), .pv (.lit (.bool (sw 62))), .pv (.lit (.bool (sw 63)))])] [4, 6, 7, 9, 12] (WeakerR.ofL (Ks := [4, 6, 7, 9, 12]) hI ⟨⟨rfl, rfl⟩, ⟨rfl, rfl⟩, ⟨rfl, rfl⟩, ⟨rfl, rfl⟩, ⟨rfl, rfl⟩, ⟨(by exact grow_at_nil (b := 900) (e := eCommand) (l := l) rfl h2), rfl⟩, ⟨rfl, rfl⟩, ⟨rfl, rfl⟩, trivial⟩ (okH_cons (look_nil h2 rfl) rfl rfl rfl (okH_cons (look_nil h2 rfl) rfl rfl rfl (okH_cons (look_nil h2 rfl) rfl rfl rfl (okH_cons (look_nil h2 rfl) rfl rfl rfl (okH_cons (look_nil h2 rfl) rfl rfl rfl (okH_nil)))))) rfl) ?_
  refine Awp.consP C ?_
  refine rvP C (.pv (.lit (.bool (decide ((i : Int) < 100))))) ?_
  refine rvc_nil ?_
  refine Awp.seq ?_
  refine Awp.cond (b := (decide ((i : Int) < 100))) rfl (fun h3 => ?_) (fun h3 => ?_)
  ·
   have h4 : i < 100 := by have := of_decide_eq_true h3; omega
   obtain ⟨k, h5⟩ : ∃ k, 100 - i = k + 1 := ⟨100 - i - 1, by omega⟩
   rw [h5] at hR
   refine Awp.skip ?_
   refine Awp.seq ?_
   refine Awp.block ?_
   refine Awp.seq ?_
   refine Awp.consP C ?_
   refine rvP C (.agg [.pv (.lit (.int .i64 vc)), sS (some vc1.nil) eMember vc1.D]) ?_
   refine rvc_un (rexec_call hP C rfl rfl rfl (rCheck_calls (Chain.mk vc vc1) (by show vc1.D.length ≤ 9223372036854775807; have := of_decide_eq_true h3; omega)) ?_)
   refine rvP C (.pv (.lit (.bool ((rCheck (Chain.mk vc vc1)) == 0)))) ?_
   refine rvc_nil ?_
   refine Awp.cond (b := ((rCheck (Chain.mk vc vc1)) == 0)) rfl (fun h6 => ?_) (fun h6 => ?_)
   ·
    replace hR := of_true h6 hR
    refine Awp.consP C ?_
    refine rvP C (.ptr 4 0) ?_
    refine rvP C (.pv (.lit (.int .i64 vc))) ?_
    refine rvP C (.agg [.pv (.lit (.int .i64 vc)), sS (some true) eMember []]) ?_
    refine rvc_un (rexec_prim C (δ := { v := .ptr 13 0, new := [(13, .cells [.pv (.lit (.int .i64 0)), sS (some true) eMember []])] }) rfl rfl rfl rfl trivial rfl ?_)
    refine rvc_un (rexec_prim C (δ := { v := .undef, wr := [(13, some (.cells [.pv (.lit (.int .i64 vc)), sS (some true) eMember []]))] }) rfl rfl rfl rfl trivial rfl ?_)
    refine rvc_nil ?_
    refine Awp.seq ?_
    refine Awp.consP C ?_
    refine rvP C (.ptr 4 1) ?_
    refine rvP C (sS (some vc1.nil) eMember vc1.D) ?_
    refine rvP C (.pv (.lit (.int .i64 (vc1.D.length : Int)))) ?_
    refine rvP C (.pv (.lit (.int .i64 0))) ?_
    refine rvc_nil ?_
    refine Awp.block ?_
    refine Awp.forR (σ := ((List Member))) (vc1.D.length) (fun i1 v => [(1, .pv (.lit (.int .u64 alive))), (4, .ptr 4 0), (6, .ptr 6 0), (7, .ptr 7 0), (9, .ptr 9 0), (11, sS (some l.isEmpty) eCommand l), (12, .ptr 12 0), (13, .ptr 13 0), (21, .pv (.lit (.int .i64 (i : Int)))), (30, sS (some vc1.nil) eMember vc1.D), (31, .pv (.lit (.int .i64 (vc1.D.length : Int)))), (32, .pv (.lit (.int .i64 (i1 : Int))))]) (fun i1 v => (growH 901 eMember v ++ ([(4, .cells [.pv (.lit (.int .i64 vc)), sS (some vc1.nil) eMember vc1.D]), (6, .cells [.pv (.lit (.int .i64 (h 0))), .pv (.lit (.int .i64 (h 1))), .pv (.lit (.int .i64 (h 2))), .pv (.lit (.int .i64 (h 3))), .pv (.lit (.int .i64 (h 4))), .pv (.lit (.int .i64 (h 5)))]), (7, .cells [.pv (.lit (.int .i64 (w 0))), .pv (.lit (.int .i64 (w 1))), .pv (.lit (.int .i64 (w 2)))]), (9, .cells [.pv (.lit (.int .i64 0)), sS (some true) eMember []]), (12, .cells [.pv (.lit (.bool (sw 0))), .pv (.lit (.bool (sw 1))), .pv (.lit (.bool (sw 2))), .pv (.lit (.bool (sw 3))), .pv (.lit (.bool (sw 4))), .pv (.lit (.bool (sw 5))), .pv (.lit (.bool (sw 6))), .pv (.lit (.bool (sw 7))), .pv (.lit (.bool (sw 8))), .pv (.lit (.bool (sw 9))), .pv (.lit (.bool (sw 10))), .pv (.lit (.bool (sw 11))), .pv (.lit (.bool (sw 12))), .pv (.lit (.bool (sw 13))), .pv (.lit (.bool (sw 14))), .pv (.lit (.bool (sw 15))), .pv (.lit (.bool (sw 16))), .pv (.lit (.bool (sw 17))), .pv (.lit (.bool (sw 18))), .pv (.lit (.bool (sw 19))), .pv (.lit (.bool (sw 20))), .pv (.lit (.bool (sw 21))), .pv (.lit (.bool (sw 22))), .pv (.lit (.bool (sw 23))), .pv (.lit (.bool (sw 24))), .pv (.lit (.bool (sw 25))), .pv (.lit (.bool (sw 26))), .pv (.lit (.bool (sw 27))), .pv (.lit (.bool (sw 28))), .pv (.lit (.bool (sw 29))), .pv (.lit (.bool (sw 30))), .pv (.lit (.bool (sw 31))), .pv (.lit (.bool (sw 32))), .pv (.lit (.bool (sw 33))), .pv (.lit (.bool (sw 34))), .pv (.lit (.bool (sw 35))), .pv (.lit (.bool (sw 36))), .pv (.lit (.bool (sw 37))), .pv (.lit (.bool (sw 38))), .pv (.lit (.bool (sw 39))), .pv (.lit (.bool (sw 40))), .pv (.lit (.bool (sw 41))), .pv (.lit (.bool (sw 42))), .pv (.lit (.bool (sw 43))), .pv (.lit (.bool (sw 44))), .pv (.lit (.bool (sw 45))), .pv (.lit (.bool (sw 46))), .pv (.lit (.bool (sw 47))), .pv (.lit (.bool (sw 48))), .pv (.lit (.bool (sw 49))), .pv (.lit (.bool (sw 50))), .pv (.lit (.bool (sw 51))), .pv (.lit (.bool (sw 52))), .pv (.lit (.bool (sw 53))), .pv (.lit (.bool (sw 54))), .pv (.lit (.bool (sw 55))), .pv (.lit (.bool (sw 56))), .pv (.lit (.bool (sw 57))), .pv (.lit (.bool (sw 58))), .pv (.lit (.bool (sw 59))), .pv (.lit (.bool (sw 60))), .pv (.lit (.bool (sw 61))), .pv (.lit (.bool (sw 62))), .pv (.lit (.bool (sw 63)))]), (13, .cells [.pv (.lit (.int .i64 vc)), grow 901 eMember v])]))) [4, 6, 7, 9, 12, 13, 901] (fun i1 v => (rAllP_l1 sw (fun vc2 => (bif ((rNextP (Chain.mk vc (Sl.mk vc2.isEmpty vc2)) alive h w).2.2 != 0) then ((Sl.mk true []), (Chain.mk 0 (Sl.mk true [])), (rNextP (Chain.mk vc (Sl.mk vc2.isEmpty vc2)) alive h w).2.2) else (bif (!(rNextP (Chain.mk vc (Sl.mk vc2.isEmpty vc2)) alive h w).2.1) then ((Sl.mk l.isEmpty l), (Chain.mk vc (Sl.mk vc2.isEmpty vc2)), 0) else (bif ((rNextP (Chain.mk vc (Sl.mk vc2.isEmpty vc2)) alive h w).1.kind == 1) then rAllP_l0 alive h w sw k (i + 1) (l ++ [(rNextP (Chain.mk vc (Sl.mk vc2.isEmpty vc2)) alive h w).1]) (rCut (Chain.mk vc (Sl.mk vc2.isEmpty vc2)) (rNextP (Chain.mk vc (Sl.mk vc2.isEmpty vc2)) alive h w).1.node (-1)).1.epoch (rCut (Chain.mk vc (Sl.mk vc2.isEmpty vc2)) (rNextP (Chain.mk vc (Sl.mk vc2.isEmpty vc2)) alive h w).1.node (-1)).1.members else rAllP_l0 alive h w sw k (i + 1) (l ++ [(rNextP (Chain.mk vc (Sl.mk vc2.isEmpty vc2)) alive h w).1]) (rJoin (Chain.mk vc (Sl.mk vc2.isEmpty vc2)) (Member.mk (rNextP (Chain.mk vc (Sl.mk vc2.isEmpty vc2)) alive h w).1.node (rNextP (Chain.mk vc (Sl.mk vc2.isEmpty vc2)) alive h w).1.site false)).1.epoch (rJoin (Chain.mk vc (Sl.mk vc2.isEmpty vc2)) (Member.mk (rNextP (Chain.mk vc (Sl.mk vc2.isEmpty vc2)) alive h w).1.node (rNextP (Chain.mk vc (Sl.mk vc2.isEmpty vc2)) alive h w).1.site false)).1.members)))) (vc1.D.drop i1) i1 v = R) ∧ (v.length ≤ i1)) [] ?_ ?_ (fun i1 vc2 h7 hR => ?_)
    · exact ⟨hR, (by first | omega | (simp <;> omega))⟩
    · exact ⟨fun b => b, WeakerR.ofL (Ks := [4, 6, 7, 9, 12, 13, 901]) hI ⟨⟨rfl, rfl⟩, ⟨rfl, rfl⟩, ⟨rfl, rfl⟩, ⟨rfl, rfl⟩, ⟨rfl, rfl⟩, ⟨rfl, rfl⟩, ⟨rfl, rfl⟩, ⟨rfl, rfl⟩, ⟨rfl, rfl⟩, ⟨rfl, rfl⟩, ⟨rfl, rfl⟩, ⟨rfl, rfl⟩, trivial⟩ (okH_grow (fun hne => absurd rfl hne) rfl rfl (okH_cons rfl rfl rfl rfl (okH_cons rfl rfl rfl rfl (okH_cons rfl rfl rfl rfl (okH_cons rfl rfl rfl rfl (okH_cons rfl rfl rfl rfl (okH_cons (cellsTo rfl (by exact ⟨rfl, grow_to_nil rfl rfl (.inl rfl), trivial⟩)) rfl rfl (win_cells (by exact ⟨rfl, grow_within rfl, trivial⟩)) (okH_nil)))))))) rfl⟩
    obtain ⟨hR, hi_vc2⟩ := hR
    replace hi_vc2 : vc2.length ≤ i1 := hi_vc2
    by_cases h8 : vc2 = []
    ·
     refine Awp.wordsR [(1, .pv (.lit (.int .u64 alive))), (4, .ptr 4 0), (6, .ptr 6 0), (7, .ptr 7 0), (9, .ptr 9 0), (11, sS (some l.isEmpty) eCommand l), (12, .ptr 12 0), (13, .ptr 13 0), (21, .pv (.lit (.int .i64 (i : Int)))), (30, sS (some vc1.nil) eMember vc1.D), (31, .pv (.lit (.int .i64 (vc1.D.length : Int)))), (32, .pv (.lit (.int .i64 (i1 : Int))))] [(4, .cells [.pv (.lit (.int .i64 vc)), sS (some vc1.nil) eMember vc1.D]), (6, .cells [.pv (.lit (.int .i64 (h 0))), .pv (.lit (.int .i64 (h 1))), .pv (.lit (.int .i64 (h 2))), .pv (.lit (.int .i64 (h 3))), .pv (.lit (.int .i64 (h 4))), .pv (.lit (.int .i64 (h 5)))]), (7, .cells [.pv (.lit (.int .i64 (w 0))), .pv (.lit (.int .i64 (w 1))), .pv (.lit (.int .i64 (w 2)))]), (9, .cells [.pv (.lit (.int .i64 0)), sS (some true) eMember []]), (12, .cells [.pv (.lit (.bool (sw 0))), .pv (.lit (.bool (sw 1))), .pv (.lit (.bool (sw 2))), .pv (.lit (.bool (sw 3))), .pv (.lit (.bool (sw 4))), .pv (.lit (.bool (sw 5))), .pv (.lit (.bool (sw 6))), .pv (.lit (.bool (sw 7))), .pv (.lit (.bool (sw 8))), .pv (.lit (.bool (sw 9))), .pv (.lit (.bool (sw 10))), .pv (.lit (.bool (sw 11))), .pv (.lit (.bool (sw 12))), .pv (.lit (.bool (sw 13))), .pv (.lit (.bool (sw 14))), .pv (.lit (.bool (sw 15))), .pv (.lit (.bool (sw 16))), .pv (.lit (.bool (sw 17))), .pv (.lit (.bool (sw 18))), .pv (.lit (.bool (sw 19))), .pv (.lit (.bool (sw 20))), .pv (.lit (.bool (sw 21))), .pv (.lit (.bool (sw 22))), .pv (.lit (.bool (sw 23))), .pv (.lit (.bool (sw 24))), .pv (.lit (.bool (sw 25))), .pv (.lit (.bool (sw 26))), .pv (.lit (.bool (sw 27))), .pv (.lit (.bool (sw 28))), .pv (.lit (.bool (sw 29))), .pv (.lit (.bool (sw 30))), .pv (.lit (.bool (sw 31))), .pv (.lit (.bool (sw 32))), .pv (.lit (.bool (sw 33))), .pv (.lit (.bool (sw 34))), .pv (.lit (.bool (sw 35))), .pv (.lit (.bool (sw 36))), .pv (.lit (.bool (sw 37))), .pv (.lit (.bool (sw 38))), .pv (.lit (.bool (sw 39))), .pv (.lit (.bool (sw 40))), .pv (.lit (.bool (sw 41))), .pv (.lit (.bool (sw 42))), .pv (.lit (.bool (sw 43))), .pv (.lit (.bool (sw 44))), .pv (.lit (.bool (sw 45))), .pv (.lit (.bool (sw 46))), .pv (.lit (.bool (sw 47))), .pv (.lit (.bool (sw 48))), .pv (.lit (.bool (sw 49))), .pv (.lit (.bool (sw 50))), .pv (.lit (.bool (sw 51))), .pv (.lit (.bool (sw 52))), .pv (.lit (.bool (sw 53))), .pv (.lit (.bool (sw 54))), .pv (.lit (.bool (sw 55))), .pv (.lit (.bool (sw 56))), .pv (.lit (.bool (sw 57))), .pv (.lit (.bool (sw 58))), .pv (.lit (.bool (sw 59))), .pv (.lit (.bool (sw 60))), .pv (.lit (.bool (sw 61))), .pv (.lit (.bool (sw 62))), .pv (.lit (.bool (sw 63)))]), (13, .cells [.pv (.lit (.int .i64 vc)), sS (some vc2.isEmpty) eMember vc2])] [4, 6, 7, 9, 12, 13] (WeakerR.ofL (Ks := [4, 6, 7, 9, 12, 13]) hI ⟨⟨rfl, rfl⟩, ⟨rfl, rfl⟩, ⟨rfl, rfl⟩, ⟨rfl, rfl⟩, ⟨rfl, rfl⟩, ⟨rfl, rfl⟩, ⟨rfl, rfl⟩, ⟨rfl, rfl⟩, ⟨rfl, rfl⟩, ⟨rfl, rfl⟩, ⟨rfl, rfl⟩, ⟨rfl, rfl⟩, trivial⟩ (okH_cons (look_nil h8 rfl) rfl rfl rfl (okH_cons (look_nil h8 rfl) rfl rfl rfl (okH_cons (look_nil h8 rfl) rfl rfl rfl (okH_cons (look_nil h8 rfl) rfl rfl rfl (okH_cons (look_nil h8 rfl) rfl rfl rfl (okH_cons (cellsTo (look_nil h8 rfl) (by exact ⟨rfl, (by exact grow_at_nil (b := 901) (e := eMember) (l := vc2) rfl h8), trivial⟩)) rfl rfl (win_cells (by exact ⟨rfl, rfl, trivial⟩)) (okH_nil))))))) rfl) ?_
     refine Awp.consP C ?_
     refine rvP C (.pv (.lit (.bool (decide ((i1 : Int) < (vc1.D.length : Int)))))) ?_
     refine rvc_nil ?_
     refine Awp.seq ?_
     refine Awp.cond (b := (decide ((i1 : Int) < (vc1.D.length : Int)))) rfl (fun h9 => ?_) (fun h9 => ?_)
     ·
      have h10 : i1 < vc1.D.length := by have := of_decide_eq_true h9; omega
      obtain ⟨x, h11⟩ := getX h10
      rw [drop_at h11] at hR
      refine Awp.skip ?_
      refine Awp.seq ?_
      refine Awp.block ?_
      refine Awp.consP C ?_
      refine rvc_un (rexec_idxS C rfl rfl rfl rfl rfl rfl x (Int.natCast_nonneg _) h11 ?_)
      refine rvP C (.agg [.pv (.lit (.int .i64 x.node)), .pv (.lit (.int .i64 x.site)), .pv (.lit (.bool x.fresh))]) ?_
      refine rvc_un (rexec_prim C (δ := { v := .ptr 15 0, new := [(15, .cells [.pv (.lit (.int .i64 0)), .pv (.lit (.int .i64 0)), .pv (.lit (.bool false))])] }) rfl rfl rfl rfl trivial rfl ?_)
      refine rvc_un (rexec_prim C (δ := { v := .undef, wr := [(15, some (.cells [.pv (.lit (.int .i64 x.node)), .pv (.lit (.int .i64 x.site)), .pv (.lit (.bool x.fresh))]))] }) rfl rfl rfl rfl trivial rfl ?_)
      refine rvc_nil ?_
      refine Awp.consP C ?_
      refine rvP C (.ptr 15 2) ?_
      refine rvP C (.pv (.lit (.bool x.fresh))) ?_
      refine rvP C (.pv (.lit (.bool x.fresh))) ?_
      refine rvc_case 38 x.fresh rfl (fun h12 => ?_) (fun h12 => ?_)
      ·
       replace hR := of_true h12 hR
       refine rvO C (.ptr 15 0) ?_
       refine rvO C (.pv (.lit (.int .i64 x.node))) ?_
       refine rvc_open rfl rfl rfl (rexec_prim C (δ := { v := .ptr 12 (0 + x.node.toNat * 1) }) rfl rfl rfl rfl ⟨(by have h0_ := mem_ok ((check_eq _).trans (beq_iff_eq.1 ‹(rCheck _ == 0) = true›)) (List.mem_of_getElem? (by assumption)); omega), (by have h0_ := mem_ok ((check_eq _).trans (beq_iff_eq.1 ‹(rCheck _ == 0) = true›)) (List.mem_of_getElem? (by assumption)); omega)⟩ rfl ?_)
       refine rvc_open rfl rfl rfl (rexec_loadA C [] [] (fun j => .pv (.lit (.bool (sw j)))) 64 x.node.toNat (.pv (.lit (.bool (sw x.node.toNat)))) rfl rfl rfl rfl rfl rfl rfl (by have h0_ := mem_ok ((check_eq _).trans (beq_iff_eq.1 ‹(rCheck _ == 0) = true›)) (List.mem_of_getElem? (by assumption)); omega) rfl ?_)
       refine rvO C (.pv (.lit (.bool (!(sw x.node.toNat))))) ?_
       refine rvP C (.pv (.lit (.bool (!(sw x.node.toNat))))) ?_
       refine rvP C (.ptr 15 2) ?_
       refine rvc_un (rexec_prim C (δ := { v := .undef, wr := [(15, some (.cells [.pv (.lit (.int .i64 x.node)), .pv (.lit (.int .i64 x.site)), .pv (.lit (.bool (!(sw x.node.toNat))))]))] }) rfl rfl rfl rfl trivial rfl ?_)
       refine rvc_nil ?_
       refine Awp.regionP C ?_
       refine rvP C (.ptr 13 1) ?_
       refine rvP C (sS (some vc2.isEmpty) eMember vc2) ?_
       refine rvP C (.agg [.pv (.lit (.int .i64 x.node)), .pv (.lit (.int .i64 x.site)), .pv (.lit (.bool (!(sw x.node.toNat))))]) ?_
       refine rvc_un (rexec_buildSliceF C eMember [(Member.mk x.node x.site (!(sw x.node.toNat)))] rfl rfl rfl rfl rfl rfl rfl (by decide) rfl ?_)
       refine rvc_un (rexec_appendG C rfl rfl rfl rfl rfl rfl rfl rfl (fun _ h => by cases h) rfl (en := eMember) (l := vc2) (D := [(Member.mk x.node x.site (!(sw x.node.toNat)))]) rfl rfl h8 (by rw [h8]; rfl) (by simp) (by have := check_r (c := (Chain.mk vc vc1)); have := rCheck_le6 (c := (Chain.mk vc vc1)); have := of_decide_eq_true h3; have := beq_iff_eq.1 h6; have := of_decide_eq_true h9; first | omega | (simp <;> omega)) (by decide) (nn := (vc2 ++ [(Member.mk x.node x.site (!(sw x.node.toNat)))]).length) (by simp) ?_)
       refine rvP C (.ptr 13 1) ?_
       refine rvc_un (rexec_prim C (δ := { v := .undef, wr := [(13, some (.cells [.pv (.lit (.int .i64 vc)), .sl 50 0 ((vc2 ++ [(Member.mk x.node x.site (!(sw x.node.toNat)))]).length) 3 false]))] }) rfl rfl rfl rfl trivial rfl ?_)
       refine rvc_nil ?_
       refine Awp.regionP C ?_
       refine rvP C (.pv (.lit (.int .i64 (IntKind.i64.wrap ((i1 : Int) + 1))))) ?_
       refine rvP C (.pv (.lit (.int .i64 (IntKind.i64.wrap ((i1 : Int) + 1))))) ?_
       refine rvc_nil ?_
       refine ⟨h10, (vc2 ++ [(Member.mk x.node x.site (!(sw x.node.toNat)))]), ?_, ?_⟩
       · exact ⟨hR, (by first | omega | (simp <;> omega))⟩
       · exact ⟨fun b => bif b == 901 then 50 else (fun b => b) b, WeakerR.ofL (Ks := [4, 6, 7, 9, 12, 13, 901]) hI ⟨⟨rfl, rfl⟩, ⟨rfl, rfl⟩, ⟨rfl, rfl⟩, ⟨rfl, rfl⟩, ⟨rfl, rfl⟩, ⟨rfl, rfl⟩, ⟨rfl, rfl⟩, ⟨rfl, rfl⟩, ⟨rfl, rfl⟩, ⟨rfl, rfl⟩, ⟨rfl, rfl⟩, ⟨lit_cast (wrap_i64 (by omega) (by omega)), rfl⟩, trivial⟩ (okH_grow (fun _ => rfl) rfl rfl (okH_cons rfl rfl rfl rfl (okH_cons rfl rfl rfl rfl (okH_cons rfl rfl rfl rfl (okH_cons rfl rfl rfl rfl (okH_cons rfl rfl rfl rfl (okH_cons (cellsTo rfl (by exact ⟨rfl, grow_to rfl rfl app_ne rfl rfl, trivial⟩)) rfl rfl (win_cells (by exact ⟨rfl, grow_within rfl, trivial⟩)) (okH_nil)))))))) rfl⟩
      ·
       replace hR := of_false h12 hR
       refine rvS ?_
       refine rvS ?_
       refine rvS ?_
       refine rvS ?_
       refine rvS ?_
       refine rvP C (.pv (.lit (.bool false))) ?_
       refine rvP C (.ptr 15 2) ?_
       refine rvc_un (rexec_prim C (δ := { v := .undef, wr := [(15, some (.cells [.pv (.lit (.int .i64 x.node)), .pv (.lit (.int .i64 x.site)), .pv (.lit (.bool false))]))] }) rfl rfl rfl rfl trivial rfl ?_)
       refine rvc_nil ?_
       refine Awp.regionP C ?_
       refine rvP C (.ptr 13 1) ?_
       refine rvP C (sS (some vc2.isEmpty) eMember vc2) ?_
       refine rvP C (.agg [.pv (.lit (.int .i64 x.node)), .pv (.lit (.int .i64 x.site)), .pv (.lit (.bool false))]) ?_
       refine rvc_un (rexec_buildSliceF C eMember [(Member.mk x.node x.site false)] rfl rfl rfl rfl rfl rfl rfl (by decide) rfl ?_)
       refine rvc_un (rexec_appendG C rfl rfl rfl rfl rfl rfl rfl rfl (fun _ h => by cases h) rfl (en := eMember) (l := vc2) (D := [(Member.mk x.node x.site false)]) rfl rfl h8 (by rw [h8]; rfl) (by simp) (by have := check_r (c := (Chain.mk vc vc1)); have := rCheck_le6 (c := (Chain.mk vc vc1)); have := of_decide_eq_true h3; have := beq_iff_eq.1 h6; have := of_decide_eq_true h9; first | omega | (simp <;> omega)) (by decide) (nn := (vc2 ++ [(Member.mk x.node x.site false)]).length) (by simp) ?_)
       refine rvP C (.ptr 13 1) ?_
       refine rvc_un (rexec_prim C (δ := { v := .undef, wr := [(13, some (.cells [.pv (.lit (.int .i64 vc)), .sl 50 0 ((vc2 ++ [(Member.mk x.node x.site false)]).length) 3 false]))] }) rfl rfl rfl rfl trivial rfl ?_)
       refine rvc_nil ?_
       refine Awp.regionP C ?_
       refine rvP C (.pv (.lit (.int .i64 (IntKind.i64.wrap ((i1 : Int) + 1))))) ?_
       refine rvP C (.pv (.lit (.int .i64 (IntKind.i64.wrap ((i1 : Int) + 1))))) ?_
       refine rvc_nil ?_
       refine ⟨h10, (vc2 ++ [(Member.mk x.node x.site false)]), ?_, ?_⟩
       · exact ⟨hR, (by first | omega | (simp <;> omega))⟩
       · exact ⟨fun b => bif b == 901 then 50 else (fun b => b) b, WeakerR.ofL (Ks := [4, 6, 7, 9, 12, 13, 901]) hI ⟨⟨rfl, rfl⟩, ⟨rfl, rfl⟩, ⟨rfl, rfl⟩, ⟨rfl, rfl⟩, ⟨rfl, rfl⟩, ⟨rfl, rfl⟩, ⟨rfl, rfl⟩, ⟨rfl, rfl⟩, ⟨rfl, rfl⟩, ⟨rfl, rfl⟩, ⟨rfl, rfl⟩, ⟨lit_cast (wrap_i64 (by omega) (by omega)), rfl⟩, trivial⟩ (okH_grow (fun _ => rfl) rfl rfl (okH_cons rfl rfl rfl rfl (okH_cons rfl rfl rfl rfl (okH_cons rfl rfl rfl rfl (okH_cons rfl rfl rfl rfl (okH_cons rfl rfl rfl rfl (okH_cons (cellsTo rfl (by exact ⟨rfl, grow_to rfl rfl app_ne rfl rfl, trivial⟩)) rfl rfl (win_cells (by exact ⟨rfl, grow_within rfl, trivial⟩)) (okH_nil)))))))) rfl⟩
     ·
      have h10 : ¬ i1 < vc1.D.length := by have := of_decide_eq_false h9; omega
      rw [drop_end h10] at hR
      refine Awp.exit ?_
      refine Awp.regionP C ?_
      refine rvP C (.agg [.pv (.lit (.int .i64 vc)), sS (some vc2.isEmpty) eMember vc2]) ?_
      refine rvc_un (rexec_prim C (δ := { v := .undef, wr := [(4, some (.cells [.pv (.lit (.int .i64 vc)), sS (some vc2.isEmpty) eMember vc2]))] }) rfl rfl rfl rfl trivial rfl ?_)
      refine rvc_nil ?_
      refine Awp.consP C ?_
      refine rvP C (.agg [.pv (.lit (.int .i64 vc)), sS (some vc2.isEmpty) eMember vc2]) ?_
      refine rvP C (.pv (.lit (.int .u64 alive))) ?_
      refine rvP C (.agg [.pv (.lit (.int .i64 (h 0))), .pv (.lit (.int .i64 (h 1))), .pv (.lit (.int .i64 (h 2))), .pv (.lit (.int .i64 (h 3))), .pv (.lit (.int .i64 (h 4))), .pv (.lit (.int .i64 (h 5)))]) ?_
      refine rvP C (.agg [.pv (.lit (.int .i64 (w 0))), .pv (.lit (.int .i64 (w 1))), .pv (.lit (.int .i64 (w 2)))]) ?_
      obtain ⟨rx, hq_rx⟩ : ∃ q_, q_ = (rNextP (Chain.mk vc (Sl.mk vc2.isEmpty vc2)) alive h w) := ⟨_, rfl⟩
      have hc_rx := (rNextP_calls (Chain.mk vc (Sl.mk vc2.isEmpty vc2)) alive h w (by show vc2.length ≤ 1000000; have := check_r (c := (Chain.mk vc vc1)); have := rCheck_le6 (c := (Chain.mk vc vc1)); have := of_decide_eq_true h3; have := beq_iff_eq.1 h6; have := of_decide_eq_false h9; omega))
      first | rw [← hq_rx] at hR hc_rx | (unfold rAllP at hR; rw [← hq_rx] at hR hc_rx) | (unfold rAllP_l0 at hR; rw [← hq_rx] at hR hc_rx) | (unfold rAllP_l1 at hR; rw [← hq_rx] at hR hc_rx)
      refine rvc_un (rexec_call hP C rfl rfl rfl hc_rx ?_)
      refine rvP C (.tup [.agg [.pv (.lit (.int .i64 rx.1.kind)), .pv (.lit (.int .i64 rx.1.node)), .pv (.lit (.int .i64 rx.1.site)), .pv (.lit (.int .i64 rx.1.epoch))], .pv (.lit (.bool rx.2.1)), .pv (.lit (.int .i64 rx.2.2))]) ?_
      refine rvP C (.agg [.pv (.lit (.int .i64 rx.1.kind)), .pv (.lit (.int .i64 rx.1.node)), .pv (.lit (.int .i64 rx.1.site)), .pv (.lit (.int .i64 rx.1.epoch))]) ?_
      refine rvP C (.pv (.lit (.bool rx.2.1))) ?_
      refine rvP C (.pv (.lit (.int .i64 rx.2.2))) ?_
      refine rvc_un (rexec_prim C (δ := { v := .ptr 16 0, new := [(16, .cells [.pv (.lit (.int .i64 0)), .pv (.lit (.int .i64 0)), .pv (.lit (.int .i64 0)), .pv (.lit (.int .i64 0))])] }) rfl rfl rfl rfl trivial rfl ?_)
      refine rvc_un (rexec_prim C (δ := { v := .undef, wr := [(16, some (.cells [.pv (.lit (.int .i64 rx.1.kind)), .pv (.lit (.int .i64 rx.1.node)), .pv (.lit (.int .i64 rx.1.site)), .pv (.lit (.int .i64 rx.1.epoch))]))] }) rfl rfl rfl rfl trivial rfl ?_)
      refine rvP C (.pv (.lit (.bool rx.2.1))) ?_
      refine rvP C (.pv (.lit (.int .i64 rx.2.2))) ?_
      refine rvc_nil ?_
      refine Awp.seq ?_
      refine Awp.consP C ?_
      refine rvP C (.pv (.lit (.int .i64 rx.2.2))) ?_
      refine rvP C (.pv (.lit (.bool (rx.2.2 != 0)))) ?_
      refine rvc_nil ?_
      refine Awp.cond (b := (rx.2.2 != 0)) rfl (fun h13 => ?_) (fun h13 => ?_)
      ·
       replace hR := of_true h13 hR
       refine Awp.consP C ?_
       refine rvP C (.agg [.pv (.lit (.int .i64 0)), sS (some true) eMember []]) ?_
       refine rvP C (.pv (.lit (.int .i64 rx.2.2))) ?_
       refine rvP C (sS (some true) eCommand []) ?_
       refine rvc_un (rexec_prim C (δ := { v := .undef, wr := [(9, some (.cells [.pv (.lit (.int .i64 0)), sS (some true) eMember []]))] }) rfl rfl rfl rfl trivial rfl ?_)
       refine rvP C (.pv (.lit (.int .i64 rx.2.2))) ?_
       refine rvc_nil ?_
       refine Awp.ret ?_
       subst hR
       exact ⟨.inl rfl, rfl⟩
      ·
       replace hR := of_false h13 hR
       refine Awp.skip ?_
       refine Awp.seq ?_
       refine Awp.consP C ?_
       refine rvP C (.pv (.lit (.bool rx.2.1))) ?_
       refine rvP C (.pv (.lit (.bool (!rx.2.1)))) ?_
       refine rvc_nil ?_
       refine Awp.cond (b := (!rx.2.1)) rfl (fun h14 => ?_) (fun h14 => ?_)
       ·
        replace hR := of_true h14 hR
        refine Awp.exit ?_
        refine Awp.consP C ?_
        refine rvP C (sS (some l.isEmpty) eCommand l) ?_
        refine rvP C (.agg [.pv (.lit (.int .i64 vc)), sS (some vc2.isEmpty) eMember vc2]) ?_
        refine rvP C (sS (some l.isEmpty) eCommand l) ?_
        refine rvc_un (rexec_prim C (δ := { v := .undef, wr := [(9, some (.cells [.pv (.lit (.int .i64 vc)), sS (some vc2.isEmpty) eMember vc2]))] }) rfl rfl rfl rfl trivial rfl ?_)
        refine rvP C (.pv (.lit (.int .i64 0))) ?_
        refine rvc_nil ?_
        refine Awp.ret ?_
        subst hR
        exact ⟨.inl rfl, rfl⟩
       ·
        replace hR := of_false h14 hR
        refine Awp.skip ?_
        refine Awp.consP C ?_
        refine rvP C (sS (some l.isEmpty) eCommand l) ?_
        refine rvP C (.agg [.pv (.lit (.int .i64 rx.1.kind)), .pv (.lit (.int .i64 rx.1.node)), .pv (.lit (.int .i64 rx.1.site)), .pv (.lit (.int .i64 rx.1.epoch))]) ?_
        refine rvc_un (rexec_buildSliceF C eCommand [rx.1] rfl rfl rfl rfl rfl rfl rfl (by decide) rfl ?_)
        refine rvc_un (rexec_appendG C rfl rfl rfl rfl rfl rfl rfl rfl (fun _ h => by cases h) rfl (en := eCommand) (l := l) (D := [rx.1]) rfl rfl h2 (by rw [h2]; rfl) (by simp) (by have := check_r (c := (Chain.mk vc vc1)); have := rCheck_le6 (c := (Chain.mk vc vc1)); have := of_decide_eq_true h3; have := beq_iff_eq.1 h6; have := of_decide_eq_false h9; have := eq_of_bne_false h13; first | omega | (simp <;> omega)) (by decide) (nn := (l ++ [rx.1]).length) (by simp) ?_)
        refine rvP C (.sl 72 0 ((l ++ [rx.1]).length) 4 false) ?_
        refine rvc_nil ?_
        refine Awp.consP C ?_
        refine rvP C (.ptr 16 0) ?_
        refine rvP C (.pv (.lit (.int .i64 rx.1.kind))) ?_
        refine rvP C (.pv (.lit (.bool (rx.1.kind == 1)))) ?_
        refine rvc_nil ?_
        refine Awp.cond (b := (rx.1.kind == 1)) rfl (fun h15 => ?_) (fun h15 => ?_)
        ·
         replace hR := of_true h15 hR
         refine Awp.regionP C ?_
         refine rvP C (.agg [.pv (.lit (.int .i64 vc)), sS (some vc2.isEmpty) eMember vc2]) ?_
         refine rvP C (.ptr 16 1) ?_
         refine rvP C (.pv (.lit (.int .i64 rx.1.node))) ?_
         obtain ⟨rc, hq_rc⟩ : ∃ q_, q_ = (rCut (Chain.mk vc (Sl.mk vc2.isEmpty vc2)) rx.1.node (-1)) := ⟨_, rfl⟩
         have hc_rc := (rCut_calls (Chain.mk vc (Sl.mk vc2.isEmpty vc2)) rx.1.node (-1) (by show vc2.length ≤ 1000000; have := check_r (c := (Chain.mk vc vc1)); have := rCheck_le6 (c := (Chain.mk vc vc1)); have := of_decide_eq_true h3; have := beq_iff_eq.1 h6; have := of_decide_eq_false h9; have := eq_of_bne_false h13; have := beq_iff_eq.1 h15; omega))
         first | rw [← hq_rc] at hR hc_rc | (unfold rAllP at hR; rw [← hq_rc] at hR hc_rc) | (unfold rAllP_l0 at hR; rw [← hq_rc] at hR hc_rc) | (unfold rAllP_l1 at hR; rw [← hq_rc] at hR hc_rc)
         have hf0_rc := rCut_6 (Chain.mk vc (Sl.mk vc2.isEmpty vc2)) rx.1.node (-1)
         rw [← hq_rc] at hf0_rc
         refine rvc_un (rexec_call hP C rfl rfl rfl hc_rc ?_)
         refine rvP C (.tup [.agg [.pv (.lit (.int .i64 rc.1.epoch)), sS (some rc.1.members.nil) eMember rc.1.members.D], .pv (.lit (.int .i64 rc.2))]) ?_
         refine rvP C (.agg [.pv (.lit (.int .i64 rc.1.epoch)), sS (some rc.1.members.nil) eMember rc.1.members.D]) ?_
         refine rvP C (.pv (.lit (.int .i64 rc.2))) ?_
         refine rvc_un (rexec_prim C (δ := { v := .undef, wr := [(4, some (.cells [.pv (.lit (.int .i64 rc.1.epoch)), sS (some rc.1.members.nil) eMember rc.1.members.D]))] }) rfl rfl rfl rfl trivial rfl ?_)
         refine rvc_nil ?_
         refine Awp.regionP C ?_
         refine rvP C (.pv (.lit (.int .i64 (IntKind.i64.wrap ((i : Int) + 1))))) ?_
         refine rvP C (.pv (.lit (.int .i64 (IntKind.i64.wrap ((i : Int) + 1))))) ?_
         refine rvc_nil ?_
         refine ⟨h4, ((l ++ [rx.1]), rc.1.epoch, rc.1.members), ?_, ?_⟩
         · exact ⟨(by rw [show 100 - (i + 1) = k by omega]; exact hR), (by dsimp only; omega), (by first | omega | (simp <;> omega))⟩
         · exact ⟨fun b => bif b == 900 then 72 else (fun b => b) b, WeakerR.ofL (Ks := [4, 6, 7, 9, 12, 900]) hI ⟨⟨rfl, rfl⟩, ⟨rfl, rfl⟩, ⟨rfl, rfl⟩, ⟨rfl, rfl⟩, ⟨rfl, rfl⟩, ⟨grow_to rfl rfl app_ne rfl rfl, grow_within rfl⟩, ⟨rfl, rfl⟩, ⟨lit_cast (wrap_i64 (by omega) (by omega)), rfl⟩, trivial⟩ (okH_grow (fun _ => rfl) rfl rfl (okH_cons rfl rfl rfl rfl (okH_cons rfl rfl rfl rfl (okH_cons rfl rfl rfl rfl (okH_cons rfl rfl rfl rfl (okH_cons rfl rfl rfl rfl (okH_nil))))))) rfl⟩
        ·
         replace hR := of_false h15 hR
         refine Awp.regionP C ?_
         refine rvP C (.agg [.pv (.lit (.int .i64 vc)), sS (some vc2.isEmpty) eMember vc2]) ?_
         refine rvP C (.ptr 16 1) ?_
         refine rvP C (.pv (.lit (.int .i64 rx.1.node))) ?_
         refine rvP C (.ptr 16 2) ?_
         refine rvP C (.pv (.lit (.int .i64 rx.1.site))) ?_
         refine rvP C (.agg [.pv (.lit (.int .i64 rx.1.node)), .pv (.lit (.int .i64 rx.1.site)), .pv (.lit (.bool false))]) ?_
         obtain ⟨rj, hq_rj⟩ : ∃ q_, q_ = (rJoin (Chain.mk vc (Sl.mk vc2.isEmpty vc2)) (Member.mk rx.1.node rx.1.site false)) := ⟨_, rfl⟩
         have hc_rj := (rJoin_calls (Chain.mk vc (Sl.mk vc2.isEmpty vc2)) (Member.mk rx.1.node rx.1.site false) (by show vc2.length ≤ 1000000; have := check_r (c := (Chain.mk vc vc1)); have := rCheck_le6 (c := (Chain.mk vc vc1)); have := of_decide_eq_true h3; have := beq_iff_eq.1 h6; have := of_decide_eq_false h9; have := eq_of_bne_false h13; have := ne_of_beq_false h15; omega))
         first | rw [← hq_rj] at hR hc_rj | (unfold rAllP at hR; rw [← hq_rj] at hR hc_rj) | (unfold rAllP_l0 at hR; rw [← hq_rj] at hR hc_rj) | (unfold rAllP_l1 at hR; rw [← hq_rj] at hR hc_rj)
         have hf0_rj := rJoin_7 (Chain.mk vc (Sl.mk vc2.isEmpty vc2)) (Member.mk rx.1.node rx.1.site false)
         rw [← hq_rj] at hf0_rj
         refine rvc_un (rexec_call hP C rfl rfl rfl hc_rj ?_)
         refine rvP C (.tup [.agg [.pv (.lit (.int .i64 rj.1.epoch)), sS (some rj.1.members.nil) eMember rj.1.members.D], .pv (.lit (.int .i64 rj.2))]) ?_
         refine rvP C (.agg [.pv (.lit (.int .i64 rj.1.epoch)), sS (some rj.1.members.nil) eMember rj.1.members.D]) ?_
         refine rvP C (.pv (.lit (.int .i64 rj.2))) ?_
         refine rvc_un (rexec_prim C (δ := { v := .undef, wr := [(4, some (.cells [.pv (.lit (.int .i64 rj.1.epoch)), sS (some rj.1.members.nil) eMember rj.1.members.D]))] }) rfl rfl rfl rfl trivial rfl ?_)
         refine rvc_nil ?_
         refine Awp.regionP C ?_
         refine rvP C (.pv (.lit (.int .i64 (IntKind.i64.wrap ((i : Int) + 1))))) ?_
         refine rvP C (.pv (.lit (.int .i64 (IntKind.i64.wrap ((i : Int) + 1))))) ?_
         refine rvc_nil ?_
         refine ⟨h4, ((l ++ [rx.1]), rj.1.epoch, rj.1.members), ?_, ?_⟩
         · exact ⟨(by rw [show 100 - (i + 1) = k by omega]; exact hR), (by dsimp only; omega), (by first | omega | (simp <;> omega))⟩
         · exact ⟨fun b => bif b == 900 then 72 else (fun b => b) b, WeakerR.ofL (Ks := [4, 6, 7, 9, 12, 900]) hI ⟨⟨rfl, rfl⟩, ⟨rfl, rfl⟩, ⟨rfl, rfl⟩, ⟨rfl, rfl⟩, ⟨rfl, rfl⟩, ⟨grow_to rfl rfl app_ne rfl rfl, grow_within rfl⟩, ⟨rfl, rfl⟩, ⟨lit_cast (wrap_i64 (by omega) (by omega)), rfl⟩, trivial⟩ (okH_grow (fun _ => rfl) rfl rfl (okH_cons rfl rfl rfl rfl (okH_cons rfl rfl rfl rfl (okH_cons rfl rfl rfl rfl (okH_cons rfl rfl rfl rfl (okH_cons rfl rfl rfl rfl (okH_nil))))))) rfl⟩
    ·
     refine Awp.wordsR [(1, .pv (.lit (.int .u64 alive))), (4, .ptr 4 0), (6, .ptr 6 0), (7, .ptr 7 0), (9, .ptr 9 0), (11, sS (some l.isEmpty) eCommand l), (12, .ptr 12 0), (13, .ptr 13 0), (21, .pv (.lit (.int .i64 (i : Int)))), (30, sS (some vc1.nil) eMember vc1.D), (31, .pv (.lit (.int .i64 (vc1.D.length : Int)))), (32, .pv (.lit (.int .i64 (i1 : Int))))] [(901, .cells (encC eMember vc2)), (4, .cells [.pv (.lit (.int .i64 vc)), sS (some vc1.nil) eMember vc1.D]), (6, .cells [.pv (.lit (.int .i64 (h 0))), .pv (.lit (.int .i64 (h 1))), .pv (.lit (.int .i64 (h 2))), .pv (.lit (.int .i64 (h 3))), .pv (.lit (.int .i64 (h 4))), .pv (.lit (.int .i64 (h 5)))]), (7, .cells [.pv (.lit (.int .i64 (w 0))), .pv (.lit (.int .i64 (w 1))), .pv (.lit (.int .i64 (w 2)))]), (9, .cells [.pv (.lit (.int .i64 0)), sS (some true) eMember []]), (12, .cells [.pv (.lit (.bool (sw 0))), .pv (.lit (.bool (sw 1))), .pv (.lit (.bool (sw 2))), .pv (.lit (.bool (sw 3))), .pv (.lit (.bool (sw 4))), .pv (.lit (.bool (sw 5))), .pv (.lit (.bool (sw 6))), .pv (.lit (.bool (sw 7))), .pv (.lit (.bool (sw 8))), .pv (.lit (.bool (sw 9))), .pv (.lit (.bool (sw 10))), .pv (.lit (.bool (sw 11))), .pv (.lit (.bool (sw 12))), .pv (.lit (.bool (sw 13))), .pv (.lit (.bool (sw 14))), .pv (.lit (.bool (sw 15))), .pv (.lit (.bool (sw 16))), .pv (.lit (.bool (sw 17))), .pv (.lit (.bool (sw 18))), .pv (.lit (.bool (sw 19))), .pv (.lit (.bool (sw 20))), .pv (.lit (.bool (sw 21))), .pv (.lit (.bool (sw 22))), .pv (.lit (.bool (sw 23))), .pv (.lit (.bool (sw 24))), .pv (.lit (.bool (sw 25))), .pv (.lit (.bool (sw 26))), .pv (.lit (.bool (sw 27))), .pv (.lit (.bool (sw 28))), .pv (.lit (.bool (sw 29))), .pv (.lit (.bool (sw 30))), .pv (.lit (.bool (sw 31))), .pv (.lit (.bool (sw 32))), .pv (.lit (.bool (sw 33))), .pv (.lit (.bool (sw 34))), .pv (.lit (.bool (sw 35))), .pv (.lit (.bool (sw 36))), .pv (.lit (.bool (sw 37))), .pv (.lit (.bool (sw 38))), .pv (.lit (.bool (sw 39))), .pv (.lit (.bool (sw 40))), .pv (.lit (.bool (sw 41))), .pv (.lit (.bool (sw 42))), .pv (.lit (.bool (sw 43))), .pv (.lit (.bool (sw 44))), .pv (.lit (.bool (sw 45))), .pv (.lit (.bool (sw 46))), .pv (.lit (.bool (sw 47))), .pv (.lit (.bool (sw 48))), .pv (.lit (.bool (sw 49))), .pv (.lit (.bool (sw 50))), .pv (.lit (.bool (sw 51))), .pv (.lit (.bool (sw 52))), .pv (.lit (.bool (sw 53))), .pv (.lit (.bool (sw 54))), .pv (.lit (.bool (sw 55))), .pv (.lit (.bool (sw 56))), .pv (.lit (.bool (sw 57))), .pv (.lit (.bool (sw 58))), .pv (.lit (.bool (sw 59))), .pv (.lit (.bool (sw 60))), .pv (.lit (.bool (sw 61))), .pv (.lit (.bool (sw 62))), .pv (.lit (.bool (sw 63)))]), (13, .cells [.pv (.lit (.int .i64 vc)), .sl 901 0 vc2.length 3 false])] [4, 6, 7, 9, 12, 13, 901] (WeakerR.ofL (Ks := [4, 6, 7, 9, 12, 13, 901]) hI ⟨⟨rfl, rfl⟩, ⟨rfl, rfl⟩, ⟨rfl, rfl⟩, ⟨rfl, rfl⟩, ⟨rfl, rfl⟩, ⟨rfl, rfl⟩, ⟨rfl, rfl⟩, ⟨rfl, rfl⟩, ⟨rfl, rfl⟩, ⟨rfl, rfl⟩, ⟨rfl, rfl⟩, ⟨rfl, rfl⟩, trivial⟩ (okH_list (look_cons h8 rfl) rfl rfl (okH_cons (look_cons h8 rfl) rfl rfl rfl (okH_cons (look_cons h8 rfl) rfl rfl rfl (okH_cons (look_cons h8 rfl) rfl rfl rfl (okH_cons (look_cons h8 rfl) rfl rfl rfl (okH_cons (look_cons h8 rfl) rfl rfl rfl (okH_cons (cellsTo (look_cons h8 rfl) (by exact ⟨rfl, (by exact grow_at_cons (b := 901) (b' := 901) (e := eMember) (l := vc2) rfl h8 rfl rfl rfl), trivial⟩)) rfl rfl (win_cells (by exact ⟨rfl, rfl, trivial⟩)) (okH_nil)))))))) rfl) ?_
     refine Awp.consP C ?_
     refine rvP C (.pv (.lit (.bool (decide ((i1 : Int) < (vc1.D.length : Int)))))) ?_
     refine rvc_nil ?_
     refine Awp.seq ?_
     refine Awp.cond (b := (decide ((i1 : Int) < (vc1.D.length : Int)))) rfl (fun h16 => ?_) (fun h16 => ?_)
     ·
      have h17 : i1 < vc1.D.length := by have := of_decide_eq_true h16; omega
      obtain ⟨x, h18⟩ := getX h17
      rw [drop_at h18] at hR
      refine Awp.skip ?_
      refine Awp.seq ?_
      refine Awp.block ?_
      refine Awp.consP C ?_
      refine rvc_un (rexec_idxS C rfl rfl rfl rfl rfl rfl x (Int.natCast_nonneg _) h18 ?_)
      refine rvP C (.agg [.pv (.lit (.int .i64 x.node)), .pv (.lit (.int .i64 x.site)), .pv (.lit (.bool x.fresh))]) ?_
      refine rvc_un (rexec_prim C (δ := { v := .ptr 15 0, new := [(15, .cells [.pv (.lit (.int .i64 0)), .pv (.lit (.int .i64 0)), .pv (.lit (.bool false))])] }) rfl rfl rfl rfl trivial rfl ?_)
      refine rvc_un (rexec_prim C (δ := { v := .undef, wr := [(15, some (.cells [.pv (.lit (.int .i64 x.node)), .pv (.lit (.int .i64 x.site)), .pv (.lit (.bool x.fresh))]))] }) rfl rfl rfl rfl trivial rfl ?_)
      refine rvc_nil ?_
      refine Awp.consP C ?_
      refine rvP C (.ptr 15 2) ?_
      refine rvP C (.pv (.lit (.bool x.fresh))) ?_
      refine rvP C (.pv (.lit (.bool x.fresh))) ?_
      refine rvc_case 38 x.fresh rfl (fun h19 => ?_) (fun h19 => ?_)
      ·
       replace hR := of_true h19 hR
       refine rvO C (.ptr 15 0) ?_
       refine rvO C (.pv (.lit (.int .i64 x.node))) ?_
       refine rvc_open rfl rfl rfl (rexec_prim C (δ := { v := .ptr 12 (0 + x.node.toNat * 1) }) rfl rfl rfl rfl ⟨(by have h0_ := mem_ok ((check_eq _).trans (beq_iff_eq.1 ‹(rCheck _ == 0) = true›)) (List.mem_of_getElem? (by assumption)); omega), (by have h0_ := mem_ok ((check_eq _).trans (beq_iff_eq.1 ‹(rCheck _ == 0) = true›)) (List.mem_of_getElem? (by assumption)); omega)⟩ rfl ?_)
       refine rvc_open rfl rfl rfl (rexec_loadA C [] [] (fun j => .pv (.lit (.bool (sw j)))) 64 x.node.toNat (.pv (.lit (.bool (sw x.node.toNat)))) rfl rfl rfl rfl rfl rfl rfl (by have h0_ := mem_ok ((check_eq _).trans (beq_iff_eq.1 ‹(rCheck _ == 0) = true›)) (List.mem_of_getElem? (by assumption)); omega) rfl ?_)
       refine rvO C (.pv (.lit (.bool (!(sw x.node.toNat))))) ?_
       refine rvP C (.pv (.lit (.bool (!(sw x.node.toNat))))) ?_
       refine rvP C (.ptr 15 2) ?_
       refine rvc_un (rexec_prim C (δ := { v := .undef, wr := [(15, some (.cells [.pv (.lit (.int .i64 x.node)), .pv (.lit (.int .i64 x.site)), .pv (.lit (.bool (!(sw x.node.toNat))))]))] }) rfl rfl rfl rfl trivial rfl ?_)
       refine rvc_nil ?_
       refine Awp.regionP C ?_
       refine rvP C (.ptr 13 1) ?_
       refine rvP C (.sl 901 0 vc2.length 3 false) ?_
       refine rvP C (.agg [.pv (.lit (.int .i64 x.node)), .pv (.lit (.int .i64 x.site)), .pv (.lit (.bool (!(sw x.node.toNat))))]) ?_
       refine rvc_un (rexec_buildSliceF C eMember [(Member.mk x.node x.site (!(sw x.node.toNat)))] rfl rfl rfl rfl rfl rfl rfl (by decide) rfl ?_)
       refine rvc_un (rexec_append C rfl rfl rfl rfl rfl rfl rfl rfl (fun _ h => by cases h) rfl (en := eMember) (D0 := vc2) (D := [(Member.mk x.node x.site (!(sw x.node.toNat)))]) rfl rfl rfl rfl (by have := check_r (c := (Chain.mk vc vc1)); have := rCheck_le6 (c := (Chain.mk vc vc1)); have := of_decide_eq_true h3; have := beq_iff_eq.1 h6; have := of_decide_eq_true h16; first | omega | (simp <;> omega)) (by decide) (nn := (vc2 ++ [(Member.mk x.node x.site (!(sw x.node.toNat)))]).length) (by simp) ?_)
       refine rvP C (.ptr 13 1) ?_
       refine rvc_un (rexec_prim C (δ := { v := .undef, wr := [(13, some (.cells [.pv (.lit (.int .i64 vc)), .sl 50 0 ((vc2 ++ [(Member.mk x.node x.site (!(sw x.node.toNat)))]).length) 3 false]))] }) rfl rfl rfl rfl trivial rfl ?_)
       refine rvc_nil ?_
       refine Awp.regionP C ?_
       refine rvP C (.pv (.lit (.int .i64 (IntKind.i64.wrap ((i1 : Int) + 1))))) ?_
       refine rvP C (.pv (.lit (.int .i64 (IntKind.i64.wrap ((i1 : Int) + 1))))) ?_
       refine rvc_nil ?_
       refine ⟨h17, (vc2 ++ [(Member.mk x.node x.site (!(sw x.node.toNat)))]), ?_, ?_⟩
       · exact ⟨hR, (by first | omega | (simp <;> omega))⟩
       · exact ⟨fun b => bif b == 901 then 50 else (fun b => b) b, WeakerR.ofL (Ks := [4, 6, 7, 9, 12, 13, 901]) hI ⟨⟨rfl, rfl⟩, ⟨rfl, rfl⟩, ⟨rfl, rfl⟩, ⟨rfl, rfl⟩, ⟨rfl, rfl⟩, ⟨rfl, rfl⟩, ⟨rfl, rfl⟩, ⟨rfl, rfl⟩, ⟨rfl, rfl⟩, ⟨rfl, rfl⟩, ⟨rfl, rfl⟩, ⟨lit_cast (wrap_i64 (by omega) (by omega)), rfl⟩, trivial⟩ (okH_grow (fun _ => rfl) rfl rfl (okH_cons rfl rfl rfl rfl (okH_cons rfl rfl rfl rfl (okH_cons rfl rfl rfl rfl (okH_cons rfl rfl rfl rfl (okH_cons rfl rfl rfl rfl (okH_cons (cellsTo rfl (by exact ⟨rfl, grow_to rfl rfl app_ne rfl rfl, trivial⟩)) rfl rfl (win_cells (by exact ⟨rfl, grow_within rfl, trivial⟩)) (okH_nil)))))))) rfl⟩
      ·
       replace hR := of_false h19 hR
       refine rvS ?_
       refine rvS ?_
       refine rvS ?_
       refine rvS ?_
       refine rvS ?_
       refine rvP C (.pv (.lit (.bool false))) ?_
       refine rvP C (.ptr 15 2) ?_
       refine rvc_un (rexec_prim C (δ := { v := .undef, wr := [(15, some (.cells [.pv (.lit (.int .i64 x.node)), .pv (.lit (.int .i64 x.site)), .pv (.lit (.bool false))]))] }) rfl rfl rfl rfl trivial rfl ?_)
       refine rvc_nil ?_
       refine Awp.regionP C ?_
       refine rvP C (.ptr 13 1) ?_
       refine rvP C (.sl 901 0 vc2.length 3 false) ?_
       refine rvP C (.agg [.pv (.lit (.int .i64 x.node)), .pv (.lit (.int .i64 x.site)), .pv (.lit (.bool false))]) ?_
       refine rvc_un (rexec_buildSliceF C eMember [(Member.mk x.node x.site false)] rfl rfl rfl rfl rfl rfl rfl (by decide) rfl ?_)
       refine rvc_un (rexec_append C rfl rfl rfl rfl rfl rfl rfl rfl (fun _ h => by cases h) rfl (en := eMember) (D0 := vc2) (D := [(Member.mk x.node x.site false)]) rfl rfl rfl rfl (by have := check_r (c := (Chain.mk vc vc1)); have := rCheck_le6 (c := (Chain.mk vc vc1)); have := of_decide_eq_true h3; have := beq_iff_eq.1 h6; have := of_decide_eq_true h16; first | omega | (simp <;> omega)) (by decide) (nn := (vc2 ++ [(Member.mk x.node x.site false)]).length) (by simp) ?_)
       refine rvP C (.ptr 13 1) ?_
       refine rvc_un (rexec_prim C (δ := { v := .undef, wr := [(13, some (.cells [.pv (.lit (.int .i64 vc)), .sl 50 0 ((vc2 ++ [(Member.mk x.node x.site false)]).length) 3 false]))] }) rfl rfl rfl rfl trivial rfl ?_)
       refine rvc_nil ?_
       refine Awp.regionP C ?_
       refine rvP C (.pv (.lit (.int .i64 (IntKind.i64.wrap ((i1 : Int) + 1))))) ?_
       refine rvP C (.pv (.lit (.int .i64 (IntKind.i64.wrap ((i1 : Int) + 1))))) ?_
       refine rvc_nil ?_
       refine ⟨h17, (vc2 ++ [(Member.mk x.node x.site false)]), ?_, ?_⟩
       · exact ⟨hR, (by first | omega | (simp <;> omega))⟩
       · exact ⟨fun b => bif b == 901 then 50 else (fun b => b) b, WeakerR.ofL (Ks := [4, 6, 7, 9, 12, 13, 901]) hI ⟨⟨rfl, rfl⟩, ⟨rfl, rfl⟩, ⟨rfl, rfl⟩, ⟨rfl, rfl⟩, ⟨rfl, rfl⟩, ⟨rfl, rfl⟩, ⟨rfl, rfl⟩, ⟨rfl, rfl⟩, ⟨rfl, rfl⟩, ⟨rfl, rfl⟩, ⟨rfl, rfl⟩, ⟨lit_cast (wrap_i64 (by omega) (by omega)), rfl⟩, trivial⟩ (okH_grow (fun _ => rfl) rfl rfl (okH_cons rfl rfl rfl rfl (okH_cons rfl rfl rfl rfl (okH_cons rfl rfl rfl rfl (okH_cons rfl rfl rfl rfl (okH_cons rfl rfl rfl rfl (okH_cons (cellsTo rfl (by exact ⟨rfl, grow_to rfl rfl app_ne rfl rfl, trivial⟩)) rfl rfl (win_cells (by exact ⟨rfl, grow_within rfl, trivial⟩)) (okH_nil)))))))) rfl⟩
     ·
      have h17 : ¬ i1 < vc1.D.length := by have := of_decide_eq_false h16; omega
      rw [drop_end h17] at hR
      refine Awp.exit ?_
      refine Awp.regionP C ?_
      refine rvP C (.agg [.pv (.lit (.int .i64 vc)), .sl 901 0 vc2.length 3 false]) ?_
      refine rvc_un (rexec_prim C (δ := { v := .undef, wr := [(4, some (.cells [.pv (.lit (.int .i64 vc)), .sl 901 0 vc2.length 3 false]))] }) rfl rfl rfl rfl trivial rfl ?_)
      refine rvc_nil ?_
      refine Awp.freezeW 901 (encL eMember vc2) ?_ [(1, .pv (.lit (.int .u64 alive))), (4, .ptr 4 0), (6, .ptr 6 0), (7, .ptr 7 0), (9, .ptr 9 0), (11, sS (some l.isEmpty) eCommand l), (12, .ptr 12 0), (21, .pv (.lit (.int .i64 (i : Int))))] [(4, .cells [.pv (.lit (.int .i64 vc)), sS (some vc2.isEmpty) eMember vc2]), (6, .cells [.pv (.lit (.int .i64 (h 0))), .pv (.lit (.int .i64 (h 1))), .pv (.lit (.int .i64 (h 2))), .pv (.lit (.int .i64 (h 3))), .pv (.lit (.int .i64 (h 4))), .pv (.lit (.int .i64 (h 5)))]), (7, .cells [.pv (.lit (.int .i64 (w 0))), .pv (.lit (.int .i64 (w 1))), .pv (.lit (.int .i64 (w 2)))]), (9, .cells [.pv (.lit (.int .i64 0)), sS (some true) eMember []]), (12, .cells [.pv (.lit (.bool (sw 0))), .pv (.lit (.bool (sw 1))), .pv (.lit (.bool (sw 2))), .pv (.lit (.bool (sw 3))), .pv (.lit (.bool (sw 4))), .pv (.lit (.bool (sw 5))), .pv (.lit (.bool (sw 6))), .pv (.lit (.bool (sw 7))), .pv (.lit (.bool (sw 8))), .pv (.lit (.bool (sw 9))), .pv (.lit (.bool (sw 10))), .pv (.lit (.bool (sw 11))), .pv (.lit (.bool (sw 12))), .pv (.lit (.bool (sw 13))), .pv (.lit (.bool (sw 14))), .pv (.lit (.bool (sw 15))), .pv (.lit (.bool (sw 16))), .pv (.lit (.bool (sw 17))), .pv (.lit (.bool (sw 18))), .pv (.lit (.bool (sw 19))), .pv (.lit (.bool (sw 20))), .pv (.lit (.bool (sw 21))), .pv (.lit (.bool (sw 22))), .pv (.lit (.bool (sw 23))), .pv (.lit (.bool (sw 24))), .pv (.lit (.bool (sw 25))), .pv (.lit (.bool (sw 26))), .pv (.lit (.bool (sw 27))), .pv (.lit (.bool (sw 28))), .pv (.lit (.bool (sw 29))), .pv (.lit (.bool (sw 30))), .pv (.lit (.bool (sw 31))), .pv (.lit (.bool (sw 32))), .pv (.lit (.bool (sw 33))), .pv (.lit (.bool (sw 34))), .pv (.lit (.bool (sw 35))), .pv (.lit (.bool (sw 36))), .pv (.lit (.bool (sw 37))), .pv (.lit (.bool (sw 38))), .pv (.lit (.bool (sw 39))), .pv (.lit (.bool (sw 40))), .pv (.lit (.bool (sw 41))), .pv (.lit (.bool (sw 42))), .pv (.lit (.bool (sw 43))), .pv (.lit (.bool (sw 44))), .pv (.lit (.bool (sw 45))), .pv (.lit (.bool (sw 46))), .pv (.lit (.bool (sw 47))), .pv (.lit (.bool (sw 48))), .pv (.lit (.bool (sw 49))), .pv (.lit (.bool (sw 50))), .pv (.lit (.bool (sw 51))), .pv (.lit (.bool (sw 52))), .pv (.lit (.bool (sw 53))), .pv (.lit (.bool (sw 54))), .pv (.lit (.bool (sw 55))), .pv (.lit (.bool (sw 56))), .pv (.lit (.bool (sw 57))), .pv (.lit (.bool (sw 58))), .pv (.lit (.bool (sw 59))), .pv (.lit (.bool (sw 60))), .pv (.lit (.bool (sw 61))), .pv (.lit (.bool (sw 62))), .pv (.lit (.bool (sw 63)))]), (13, .cells [.pv (.lit (.int .i64 vc)), sS (some vc2.isEmpty) eMember vc2])] ?_ ?_ ?_
      · rfl
      · exact ⟨⟨_, rfl, .inl (.inl rfl)⟩, ⟨_, rfl, .inl (.inl rfl)⟩, ⟨_, rfl, .inl (.inl rfl)⟩, ⟨_, rfl, .inl (.inl rfl)⟩, ⟨_, rfl, .inl (.inl rfl)⟩, ⟨_, rfl, .inl (.inl rfl)⟩, ⟨_, rfl, .inl (.inl rfl)⟩, ⟨_, rfl, .inl (.inl rfl)⟩, trivial⟩
      · exact ⟨⟨(by show (4 : Nat) ≠ 901; decide), .inr ⟨_, _, rfl, rfl, ⟨.inl rfl, .inr ⟨_, _, _, rfl, by rw [ne_isEmpty h8]; rfl⟩, trivial⟩⟩⟩, ⟨(by show (6 : Nat) ≠ 901; decide), .inl rfl⟩, ⟨(by show (7 : Nat) ≠ 901; decide), .inl rfl⟩, ⟨(by show (9 : Nat) ≠ 901; decide), .inl rfl⟩, ⟨(by show (12 : Nat) ≠ 901; decide), .inl rfl⟩, ⟨(by show (13 : Nat) ≠ 901; decide), .inr ⟨_, _, rfl, rfl, ⟨.inl rfl, .inr ⟨_, _, _, rfl, by rw [ne_isEmpty h8]; rfl⟩, trivial⟩⟩⟩, trivial⟩
      refine Awp.consP C ?_
      refine rvP C (.agg [.pv (.lit (.int .i64 vc)), sS (some vc2.isEmpty) eMember vc2]) ?_
      refine rvP C (.pv (.lit (.int .u64 alive))) ?_
      refine rvP C (.agg [.pv (.lit (.int .i64 (h 0))), .pv (.lit (.int .i64 (h 1))), .pv (.lit (.int .i64 (h 2))), .pv (.lit (.int .i64 (h 3))), .pv (.lit (.int .i64 (h 4))), .pv (.lit (.int .i64 (h 5)))]) ?_
      refine rvP C (.agg [.pv (.lit (.int .i64 (w 0))), .pv (.lit (.int .i64 (w 1))), .pv (.lit (.int .i64 (w 2)))]) ?_
      obtain ⟨rx1, hq_rx1⟩ : ∃ q_, q_ = (rNextP (Chain.mk vc (Sl.mk vc2.isEmpty vc2)) alive h w) := ⟨_, rfl⟩
      have hc_rx1 := (rNextP_calls (Chain.mk vc (Sl.mk vc2.isEmpty vc2)) alive h w (by show vc2.length ≤ 1000000; have := check_r (c := (Chain.mk vc vc1)); have := rCheck_le6 (c := (Chain.mk vc vc1)); have := of_decide_eq_true h3; have := beq_iff_eq.1 h6; have := of_decide_eq_false h16; omega))
      first | rw [← hq_rx1] at hR hc_rx1 | (unfold rAllP at hR; rw [← hq_rx1] at hR hc_rx1) | (unfold rAllP_l0 at hR; rw [← hq_rx1] at hR hc_rx1) | (unfold rAllP_l1 at hR; rw [← hq_rx1] at hR hc_rx1)
      refine rvc_un (rexec_call hP C rfl rfl rfl hc_rx1 ?_)
      refine rvP C (.tup [.agg [.pv (.lit (.int .i64 rx1.1.kind)), .pv (.lit (.int .i64 rx1.1.node)), .pv (.lit (.int .i64 rx1.1.site)), .pv (.lit (.int .i64 rx1.1.epoch))], .pv (.lit (.bool rx1.2.1)), .pv (.lit (.int .i64 rx1.2.2))]) ?_
      refine rvP C (.agg [.pv (.lit (.int .i64 rx1.1.kind)), .pv (.lit (.int .i64 rx1.1.node)), .pv (.lit (.int .i64 rx1.1.site)), .pv (.lit (.int .i64 rx1.1.epoch))]) ?_
      refine rvP C (.pv (.lit (.bool rx1.2.1))) ?_
      refine rvP C (.pv (.lit (.int .i64 rx1.2.2))) ?_
      refine rvc_un (rexec_prim C (δ := { v := .ptr 16 0, new := [(16, .cells [.pv (.lit (.int .i64 0)), .pv (.lit (.int .i64 0)), .pv (.lit (.int .i64 0)), .pv (.lit (.int .i64 0))])] }) rfl rfl rfl rfl trivial rfl ?_)
      refine rvc_un (rexec_prim C (δ := { v := .undef, wr := [(16, some (.cells [.pv (.lit (.int .i64 rx1.1.kind)), .pv (.lit (.int .i64 rx1.1.node)), .pv (.lit (.int .i64 rx1.1.site)), .pv (.lit (.int .i64 rx1.1.epoch))]))] }) rfl rfl rfl rfl trivial rfl ?_)
      refine rvP C (.pv (.lit (.bool rx1.2.1))) ?_
      refine rvP C (.pv (.lit (.int .i64 rx1.2.2))) ?_
      refine rvc_nil ?_
      refine Awp.seq ?_
      refine Awp.consP C ?_
      refine rvP C (.pv (.lit (.int .i64 rx1.2.2))) ?_
      refine rvP C (.pv (.lit (.bool (rx1.2.2 != 0)))) ?_
      refine rvc_nil ?_
      refine Awp.cond (b := (rx1.2.2 != 0)) rfl (fun h20 => ?_) (fun h20 => ?_)
      ·
       replace hR := of_true h20 hR
       refine Awp.consP C ?_
       refine rvP C (.agg [.pv (.lit (.int .i64 0)), sS (some true) eMember []]) ?_
       refine rvP C (.pv (.lit (.int .i64 rx1.2.2))) ?_
       refine rvP C (sS (some true) eCommand []) ?_
       refine rvc_un (rexec_prim C (δ := { v := .undef, wr := [(9, some (.cells [.pv (.lit (.int .i64 0)), sS (some true) eMember []]))] }) rfl rfl rfl rfl trivial rfl ?_)
       refine rvP C (.pv (.lit (.int .i64 rx1.2.2))) ?_
       refine rvc_nil ?_
       refine Awp.ret ?_
       subst hR
       exact ⟨.inl rfl, rfl⟩
      ·
       replace hR := of_false h20 hR
       refine Awp.skip ?_
       refine Awp.seq ?_
       refine Awp.consP C ?_
       refine rvP C (.pv (.lit (.bool rx1.2.1))) ?_
       refine rvP C (.pv (.lit (.bool (!rx1.2.1)))) ?_
       refine rvc_nil ?_
       refine Awp.cond (b := (!rx1.2.1)) rfl (fun h21 => ?_) (fun h21 => ?_)
       ·
        replace hR := of_true h21 hR
        refine Awp.exit ?_
        refine Awp.consP C ?_
        refine rvP C (sS (some l.isEmpty) eCommand l) ?_
        refine rvP C (.agg [.pv (.lit (.int .i64 vc)), sS (some vc2.isEmpty) eMember vc2]) ?_
        refine rvP C (sS (some l.isEmpty) eCommand l) ?_
        refine rvc_un (rexec_prim C (δ := { v := .undef, wr := [(9, some (.cells [.pv (.lit (.int .i64 vc)), sS (some vc2.isEmpty) eMember vc2]))] }) rfl rfl rfl rfl trivial rfl ?_)
        refine rvP C (.pv (.lit (.int .i64 0))) ?_
        refine rvc_nil ?_
        refine Awp.ret ?_
        subst hR
        exact ⟨.inl rfl, rfl⟩
       ·
        replace hR := of_false h21 hR
        refine Awp.skip ?_
        refine Awp.consP C ?_
        refine rvP C (sS (some l.isEmpty) eCommand l) ?_
        refine rvP C (.agg [.pv (.lit (.int .i64 rx1.1.kind)), .pv (.lit (.int .i64 rx1.1.node)), .pv (.lit (.int .i64 rx1.1.site)), .pv (.lit (.int .i64 rx1.1.epoch))]) ?_
        refine rvc_un (rexec_buildSliceF C eCommand [rx1.1] rfl rfl rfl rfl rfl rfl rfl (by decide) rfl ?_)
        refine rvc_un (rexec_appendG C rfl rfl rfl rfl rfl rfl rfl rfl (fun _ h => by cases h) rfl (en := eCommand) (l := l) (D := [rx1.1]) rfl rfl h2 (by rw [h2]; rfl) (by simp) (by have := check_r (c := (Chain.mk vc vc1)); have := rCheck_le6 (c := (Chain.mk vc vc1)); have := of_decide_eq_true h3; have := beq_iff_eq.1 h6; have := of_decide_eq_false h16; have := eq_of_bne_false h20; first | omega | (simp <;> omega)) (by decide) (nn := (l ++ [rx1.1]).length) (by simp) ?_)
        refine rvP C (.sl 72 0 ((l ++ [rx1.1]).length) 4 false) ?_
        refine rvc_nil ?_
        refine Awp.consP C ?_
        refine rvP C (.ptr 16 0) ?_
        refine rvP C (.pv (.lit (.int .i64 rx1.1.kind))) ?_
        refine rvP C (.pv (.lit (.bool (rx1.1.kind == 1)))) ?_
        refine rvc_nil ?_
        refine Awp.cond (b := (rx1.1.kind == 1)) rfl (fun h22 => ?_) (fun h22 => ?_)
        ·
         replace hR := of_true h22 hR
         refine Awp.regionP C ?_
         refine rvP C (.agg [.pv (.lit (.int .i64 vc)), sS (some vc2.isEmpty) eMember vc2]) ?_
         refine rvP C (.ptr 16 1) ?_
         refine rvP C (.pv (.lit (.int .i64 rx1.1.node))) ?_
         obtain ⟨rc1, hq_rc1⟩ : ∃ q_, q_ = (rCut (Chain.mk vc (Sl.mk vc2.isEmpty vc2)) rx1.1.node (-1)) := ⟨_, rfl⟩
         have hc_rc1 := (rCut_calls (Chain.mk vc (Sl.mk vc2.isEmpty vc2)) rx1.1.node (-1) (by show vc2.length ≤ 1000000; have := check_r (c := (Chain.mk vc vc1)); have := rCheck_le6 (c := (Chain.mk vc vc1)); have := of_decide_eq_true h3; have := beq_iff_eq.1 h6; have := of_decide_eq_false h16; have := eq_of_bne_false h20; have := beq_iff_eq.1 h22; omega))
         first | rw [← hq_rc1] at hR hc_rc1 | (unfold rAllP at hR; rw [← hq_rc1] at hR hc_rc1) | (unfold rAllP_l0 at hR; rw [← hq_rc1] at hR hc_rc1) | (unfold rAllP_l1 at hR; rw [← hq_rc1] at hR hc_rc1)
         have hf0_rc1 := rCut_6 (Chain.mk vc (Sl.mk vc2.isEmpty vc2)) rx1.1.node (-1)
         rw [← hq_rc1] at hf0_rc1
         refine rvc_un (rexec_call hP C rfl rfl rfl hc_rc1 ?_)
         refine rvP C (.tup [.agg [.pv (.lit (.int .i64 rc1.1.epoch)), sS (some rc1.1.members.nil) eMember rc1.1.members.D], .pv (.lit (.int .i64 rc1.2))]) ?_
         refine rvP C (.agg [.pv (.lit (.int .i64 rc1.1.epoch)), sS (some rc1.1.members.nil) eMember rc1.1.members.D]) ?_
         refine rvP C (.pv (.lit (.int .i64 rc1.2))) ?_
         refine rvc_un (rexec_prim C (δ := { v := .undef, wr := [(4, some (.cells [.pv (.lit (.int .i64 rc1.1.epoch)), sS (some rc1.1.members.nil) eMember rc1.1.members.D]))] }) rfl rfl rfl rfl trivial rfl ?_)
         refine rvc_nil ?_
         refine Awp.regionP C ?_
         refine rvP C (.pv (.lit (.int .i64 (IntKind.i64.wrap ((i : Int) + 1))))) ?_
         refine rvP C (.pv (.lit (.int .i64 (IntKind.i64.wrap ((i : Int) + 1))))) ?_
         refine rvc_nil ?_
         refine ⟨h4, ((l ++ [rx1.1]), rc1.1.epoch, rc1.1.members), ?_, ?_⟩
         · exact ⟨(by rw [show 100 - (i + 1) = k by omega]; exact hR), (by dsimp only; omega), (by first | omega | (simp <;> omega))⟩
         · exact ⟨fun b => bif b == 900 then 72 else (fun b => b) b, WeakerR.ofL (Ks := [4, 6, 7, 9, 12, 900]) hI ⟨⟨rfl, rfl⟩, ⟨rfl, rfl⟩, ⟨rfl, rfl⟩, ⟨rfl, rfl⟩, ⟨rfl, rfl⟩, ⟨grow_to rfl rfl app_ne rfl rfl, grow_within rfl⟩, ⟨rfl, rfl⟩, ⟨lit_cast (wrap_i64 (by omega) (by omega)), rfl⟩, trivial⟩ (okH_grow (fun _ => rfl) rfl rfl (okH_cons rfl rfl rfl rfl (okH_cons rfl rfl rfl rfl (okH_cons rfl rfl rfl rfl (okH_cons rfl rfl rfl rfl (okH_cons rfl rfl rfl rfl (okH_nil))))))) rfl⟩
        ·
         replace hR := of_false h22 hR
         refine Awp.regionP C ?_
         refine rvP C (.agg [.pv (.lit (.int .i64 vc)), sS (some vc2.isEmpty) eMember vc2]) ?_
         refine rvP C (.ptr 16 1) ?_
         refine rvP C (.pv (.lit (.int .i64 rx1.1.node))) ?_
         refine rvP C (.ptr 16 2) ?_
         refine rvP C (.pv (.lit (.int .i64 rx1.1.site))) ?_
         refine rvP C (.agg [.pv (.lit (.int .i64 rx1.1.node)), .pv (.lit (.int .i64 rx1.1.site)), .pv (.lit (.bool false))]) ?_
         obtain ⟨rj1, hq_rj1⟩ : ∃ q_, q_ = (rJoin (Chain.mk vc (Sl.mk vc2.isEmpty vc2)) (Member.mk rx1.1.node rx1.1.site false)) := ⟨_, rfl⟩
         have hc_rj1 := (rJoin_calls (Chain.mk vc (Sl.mk vc2.isEmpty vc2)) (Member.mk rx1.1.node rx1.1.site false) (by show vc2.length ≤ 1000000; have := check_r (c := (Chain.mk vc vc1)); have := rCheck_le6 (c := (Chain.mk vc vc1)); have := of_decide_eq_true h3; have := beq_iff_eq.1 h6; have := of_decide_eq_false h16; have := eq_of_bne_false h20; have := ne_of_beq_false h22; omega))
         first | rw [← hq_rj1] at hR hc_rj1 | (unfold rAllP at hR; rw [← hq_rj1] at hR hc_rj1) | (unfold rAllP_l0 at hR; rw [← hq_rj1] at hR hc_rj1) | (unfold rAllP_l1 at hR; rw [← hq_rj1] at hR hc_rj1)
         have hf0_rj1 := rJoin_7 (Chain.mk vc (Sl.mk vc2.isEmpty vc2)) (Member.mk rx1.1.node rx1.1.site false)
         rw [← hq_rj1] at hf0_rj1
         refine rvc_un (rexec_call hP C rfl rfl rfl hc_rj1 ?_)
         refine rvP C (.tup [.agg [.pv (.lit (.int .i64 rj1.1.epoch)), sS (some rj1.1.members.nil) eMember rj1.1.members.D], .pv (.lit (.int .i64 rj1.2))]) ?_
         refine rvP C (.agg [.pv (.lit (.int .i64 rj1.1.epoch)), sS (some rj1.1.members.nil) eMember rj1.1.members.D]) ?_
         refine rvP C (.pv (.lit (.int .i64 rj1.2))) ?_
         refine rvc_un (rexec_prim C (δ := { v := .undef, wr := [(4, some (.cells [.pv (.lit (.int .i64 rj1.1.epoch)), sS (some rj1.1.members.nil) eMember rj1.1.members.D]))] }) rfl rfl rfl rfl trivial rfl ?_)
         refine rvc_nil ?_
         refine Awp.regionP C ?_
         refine rvP C (.pv (.lit (.int .i64 (IntKind.i64.wrap ((i : Int) + 1))))) ?_
         refine rvP C (.pv (.lit (.int .i64 (IntKind.i64.wrap ((i : Int) + 1))))) ?_
         refine rvc_nil ?_
         refine ⟨h4, ((l ++ [rx1.1]), rj1.1.epoch, rj1.1.members), ?_, ?_⟩
         · exact ⟨(by rw [show 100 - (i + 1) = k by omega]; exact hR), (by dsimp only; omega), (by first | omega | (simp <;> omega))⟩
         · exact ⟨fun b => bif b == 900 then 72 else (fun b => b) b, WeakerR.ofL (Ks := [4, 6, 7, 9, 12, 900]) hI ⟨⟨rfl, rfl⟩, ⟨rfl, rfl⟩, ⟨rfl, rfl⟩, ⟨rfl, rfl⟩, ⟨rfl, rfl⟩, ⟨grow_to rfl rfl app_ne rfl rfl, grow_within rfl⟩, ⟨rfl, rfl⟩, ⟨lit_cast (wrap_i64 (by omega) (by omega)), rfl⟩, trivial⟩ (okH_grow (fun _ => rfl) rfl rfl (okH_cons rfl rfl rfl rfl (okH_cons rfl rfl rfl rfl (okH_cons rfl rfl rfl rfl (okH_cons rfl rfl rfl rfl (okH_cons rfl rfl rfl rfl (okH_nil))))))) rfl⟩
    -- !! two models: ('(bif (rx.2.2 != 0) then ((Sl.mk true []), (Chain.mk 0 (Sl.mk true [])), rx.2.2) else (bif (!rx.2.1) then ((Sl.mk l.isEmpty l), (Chain.mk vc (Sl.mk vc2.isEmpty vc2)), 0) else (bif (rx.1.kind == 1) then rAllP_l0 alive h w sw k (i + 1) (l ++ [rx.1]) rc.1.epoch rc.1.members else rAllP_l0 alive h w sw k (i + 1) (l ++ [rx.1]) rj.1.epoch rj.1.members)))', '(bif x.fresh then rAllP_l1 sw (fun vc2 => (bif ((rNextP (Chain.mk vc (Sl.mk vc2.isEmpty vc2)) alive h w).2.2 != 0) then ((Sl.mk true []), (Chain.mk 0 (Sl.mk true [])), (rNextP (Chain.mk vc (Sl.mk vc2.isEmpty vc2)) alive h w).2.2) else (bif (!(rNextP (Chain.mk vc (Sl.mk vc2.isEmpty vc2)) alive h w).2.1) then ((Sl.mk l.isEmpty l), (Chain.mk vc (Sl.mk vc2.isEmpty vc2)), 0) else (bif ((rNextP (Chain.mk vc (Sl.mk vc2.isEmpty vc2)) alive h w).1.kind == 1) then rAllP_l0 alive h w sw k (i + 1) (l ++ [(rNextP (Chain.mk vc (Sl.mk vc2.isEmpty vc2)) alive h w).1]) (rCut (Chain.mk vc (Sl.mk vc2.isEmpty vc2)) (rNextP (Chain.mk vc (Sl.mk vc2.isEmpty vc2)) alive h w).1.node (-1)).1.epoch (rCut (Chain.mk vc (Sl.mk vc2.isEmpty vc2)) (rNextP (Chain.mk vc (Sl.mk vc2.isEmpty vc2)) alive h w).1.node (-1)).1.members else rAllP_l0 alive h w sw k (i + 1) (l ++ [(rNextP (Chain.mk vc (Sl.mk vc2.isEmpty vc2)) alive h w).1]) (rJoin (Chain.mk vc (Sl.mk vc2.isEmpty vc2)) (Member.mk (rNextP (Chain.mk vc (Sl.mk vc2.isEmpty vc2)) alive h w).1.node (rNextP (Chain.mk vc (Sl.mk vc2.isEmpty vc2)) alive h w).1.site false)).1.epoch (rJoin (Chain.mk vc (Sl.mk vc2.isEmpty vc2)) (Member.mk (rNextP (Chain.mk vc (Sl.mk vc2.isEmpty vc2)) alive h w).1.node (rNextP (Chain.mk vc (Sl.mk vc2.isEmpty vc2)) alive h w).1.site false)).1.members)))) (vc1.D.drop (i1 + 1)) (i1 + 1) (vc2 ++ [(Member.mk x.node x.site (!(sw x.node.toNat)))]) else rAllP_l1 sw (fun vc2 => (bif ((rNextP (Chain.mk vc (Sl.mk vc2.isEmpty vc2)) alive h w).2.2 != 0) then ((Sl.mk true []), (Chain.mk 0 (Sl.mk true [])), (rNextP (Chain.mk vc (Sl.mk vc2.isEmpty vc2)) alive h w).2.2) else (bif (!(rNextP (Chain.mk vc (Sl.mk vc2.isEmpty vc2)) alive h w).2.1) then ((Sl.mk l.isEmpty l), (Chain.mk vc (Sl.mk vc2.isEmpty vc2)), 0) else (bif ((rNextP (Chain.mk vc (Sl.mk vc2.isEmpty vc2)) alive h w).1.kind == 1) then rAllP_l0 alive h w sw k (i + 1) (l ++ [(rNextP (Chain.mk vc (Sl.mk vc2.isEmpty vc2)) alive h w).1]) (rCut (Chain.mk vc (Sl.mk vc2.isEmpty vc2)) (rNextP (Chain.mk vc (Sl.mk vc2.isEmpty vc2)) alive h w).1.node (-1)).1.epoch (rCut (Chain.mk vc (Sl.mk vc2.isEmpty vc2)) (rNextP (Chain.mk vc (Sl.mk vc2.isEmpty vc2)) alive h w).1.node (-1)).1.members else rAllP_l0 alive h w sw k (i + 1) (l ++ [(rNextP (Chain.mk vc (Sl.mk vc2.isEmpty vc2)) alive h w).1]) (rJoin (Chain.mk vc (Sl.mk vc2.isEmpty vc2)) (Member.mk (rNextP (Chain.mk vc (Sl.mk vc2.isEmpty vc2)) alive h w).1.node (rNextP (Chain.mk vc (Sl.mk vc2.isEmpty vc2)) alive h w).1.site false)).1.epoch (rJoin (Chain.mk vc (Sl.mk vc2.isEmpty vc2)) (Member.mk (rNextP (Chain.mk vc (Sl.mk vc2.isEmpty vc2)) alive h w).1.node (rNextP (Chain.mk vc (Sl.mk vc2.isEmpty vc2)) alive h w).1.site false)).1.members)))) (vc1.D.drop (i1 + 1)) (i1 + 1) (vc2 ++ [(Member.mk x.node x.site false)]))') ||| ('(bif (rx1.2.2 != 0) then ((Sl.mk true []), (Chain.mk 0 (Sl.mk true [])), rx1.2.2) else (bif (!rx1.2.1) then ((Sl.mk l.isEmpty l), (Chain.mk vc (Sl.mk vc2.isEmpty vc2)), 0) else (bif (rx1.1.kind == 1) then rAllP_l0 alive h w sw k (i + 1) (l ++ [rx1.1]) rc1.1.epoch rc1.1.members else rAllP_l0 alive h w sw k (i + 1) (l ++ [rx1.1]) rj1.1.epoch rj1.1.members)))', '(bif x.fresh then rAllP_l1 sw (fun vc2 => (bif ((rNextP (Chain.mk vc (Sl.mk vc2.isEmpty vc2)) alive h w).2.2 != 0) then ((Sl.mk true []), (Chain.mk 0 (Sl.mk true [])), (rNextP (Chain.mk vc (Sl.mk vc2.isEmpty vc2)) alive h w).2.2) else (bif (!(rNextP (Chain.mk vc (Sl.mk vc2.isEmpty vc2)) alive h w).2.1) then ((Sl.mk l.isEmpty l), (Chain.mk vc (Sl.mk vc2.isEmpty vc2)), 0) else (bif ((rNextP (Chain.mk vc (Sl.mk vc2.isEmpty vc2)) alive h w).1.kind == 1) then rAllP_l0 alive h w sw k (i + 1) (l ++ [(rNextP (Chain.mk vc (Sl.mk vc2.isEmpty vc2)) alive h w).1]) (rCut (Chain.mk vc (Sl.mk vc2.isEmpty vc2)) (rNextP (Chain.mk vc (Sl.mk vc2.isEmpty vc2)) alive h w).1.node (-1)).1.epoch (rCut (Chain.mk vc (Sl.mk vc2.isEmpty vc2)) (rNextP (Chain.mk vc (Sl.mk vc2.isEmpty vc2)) alive h w).1.node (-1)).1.members else rAllP_l0 alive h w sw k (i + 1) (l ++ [(rNextP (Chain.mk vc (Sl.mk vc2.isEmpty vc2)) alive h w).1]) (rJoin (Chain.mk vc (Sl.mk vc2.isEmpty vc2)) (Member.mk (rNextP (Chain.mk vc (Sl.mk vc2.isEmpty vc2)) alive h w).1.node (rNextP (Chain.mk vc (Sl.mk vc2.isEmpty vc2)) alive h w).1.site false)).1.epoch (rJoin (Chain.mk vc (Sl.mk vc2.isEmpty vc2)) (Member.mk (rNextP (Chain.mk vc (Sl.mk vc2.isEmpty vc2)) alive h w).1.node (rNextP (Chain.mk vc (Sl.mk vc2.isEmpty vc2)) alive h w).1.site false)).1.members)))) (vc1.D.drop (i1 + 1)) (i1 + 1) (vc2 ++ [(Member.mk x.node x.site (!(sw x.node.toNat)))]) else rAllP_l1 sw (fun vc2 => (bif ((rNextP (Chain.mk vc (Sl.mk vc2.isEmpty vc2)) alive h w).2.2 != 0) then ((Sl.mk true []), (Chain.mk 0 (Sl.mk true [])), (rNextP (Chain.mk vc (Sl.mk vc2.isEmpty vc2)) alive h w).2.2) else (bif (!(rNextP (Chain.mk vc (Sl.mk vc2.isEmpty vc2)) alive h w).2.1) then ((Sl.mk l.isEmpty l), (Chain.mk vc (Sl.mk vc2.isEmpty vc2)), 0) else (bif ((rNextP (Chain.mk vc (Sl.mk vc2.isEmpty vc2)) alive h w).1.kind == 1) then rAllP_l0 alive h w sw k (i + 1) (l ++ [(rNextP (Chain.mk vc (Sl.mk vc2.isEmpty vc2)) alive h w).1]) (rCut (Chain.mk vc (Sl.mk vc2.isEmpty vc2)) (rNextP (Chain.mk vc (Sl.mk vc2.isEmpty vc2)) alive h w).1.node (-1)).1.epoch (rCut (Chain.mk vc (Sl.mk vc2.isEmpty vc2)) (rNextP (Chain.mk vc (Sl.mk vc2.isEmpty vc2)) alive h w).1.node (-1)).1.members else rAllP_l0 alive h w sw k (i + 1) (l ++ [(rNextP (Chain.mk vc (Sl.mk vc2.isEmpty vc2)) alive h w).1]) (rJoin (Chain.mk vc (Sl.mk vc2.isEmpty vc2)) (Member.mk (rNextP (Chain.mk vc (Sl.mk vc2.isEmpty vc2)) alive h w).1.node (rNextP (Chain.mk vc (Sl.mk vc2.isEmpty vc2)) alive h w).1.site false)).1.epoch (rJoin (Chain.mk vc (Sl.mk vc2.isEmpty vc2)) (Member.mk (rNextP (Chain.mk vc (Sl.mk vc2.isEmpty vc2)) alive h w).1.node (rNextP (Chain.mk vc (Sl.mk vc2.isEmpty vc2)) alive h w).1.site false)).1.members)))) (vc1.D.drop (i1 + 1)) (i1 + 1) (vc2 ++ [(Member.mk x.node x.site false)]))')
   ·
    replace hR := of_false h6 hR
    refine Awp.skip ?_
    refine Awp.consP C ?_
    refine rvP C (.agg [.pv (.lit (.int .i64 vc)), sS (some vc1.nil) eMember vc1.D]) ?_
    refine rvP C (.pv (.lit (.int .u64 alive))) ?_
    refine rvP C (.agg [.pv (.lit (.int .i64 (h 0))), .pv (.lit (.int .i64 (h 1))), .pv (.lit (.int .i64 (h 2))), .pv (.lit (.int .i64 (h 3))), .pv (.lit (.int .i64 (h 4))), .pv (.lit (.int .i64 (h 5)))]) ?_
    refine rvP C (.agg [.pv (.lit (.int .i64 (w 0))), .pv (.lit (.int .i64 (w 1))), .pv (.lit (.int .i64 (w 2)))]) ?_
    obtain ⟨rx2, hq_rx2⟩ : ∃ q_, q_ = (rNextP (Chain.mk vc vc1) alive h w) := ⟨_, rfl⟩
    have hc_rx2 := (rNextP_calls (Chain.mk vc vc1) alive h w (by show vc1.D.length ≤ 1000000; have := check_r (c := (Chain.mk vc vc1)); have := rCheck_le6 (c := (Chain.mk vc vc1)); have := of_decide_eq_true h3; have := ne_of_beq_false h6; omega))
    first | rw [← hq_rx2] at hR hc_rx2 | (unfold rAllP at hR; rw [← hq_rx2] at hR hc_rx2) | (unfold rAllP_l0 at hR; rw [← hq_rx2] at hR hc_rx2) | (unfold rAllP_l1 at hR; rw [← hq_rx2] at hR hc_rx2)
    refine rvc_un (rexec_call hP C rfl rfl rfl hc_rx2 ?_)
    refine rvP C (.tup [.agg [.pv (.lit (.int .i64 rx2.1.kind)), .pv (.lit (.int .i64 rx2.1.node)), .pv (.lit (.int .i64 rx2.1.site)), .pv (.lit (.int .i64 rx2.1.epoch))], .pv (.lit (.bool rx2.2.1)), .pv (.lit (.int .i64 rx2.2.2))]) ?_
    refine rvP C (.agg [.pv (.lit (.int .i64 rx2.1.kind)), .pv (.lit (.int .i64 rx2.1.node)), .pv (.lit (.int .i64 rx2.1.site)), .pv (.lit (.int .i64 rx2.1.epoch))]) ?_
    refine rvP C (.pv (.lit (.bool rx2.2.1))) ?_
    refine rvP C (.pv (.lit (.int .i64 rx2.2.2))) ?_
    refine rvc_un (rexec_prim C (δ := { v := .ptr 16 0, new := [(16, .cells [.pv (.lit (.int .i64 0)), .pv (.lit (.int .i64 0)), .pv (.lit (.int .i64 0)), .pv (.lit (.int .i64 0))])] }) rfl rfl rfl rfl trivial rfl ?_)
    refine rvc_un (rexec_prim C (δ := { v := .undef, wr := [(16, some (.cells [.pv (.lit (.int .i64 rx2.1.kind)), .pv (.lit (.int .i64 rx2.1.node)), .pv (.lit (.int .i64 rx2.1.site)), .pv (.lit (.int .i64 rx2.1.epoch))]))] }) rfl rfl rfl rfl trivial rfl ?_)
    refine rvP C (.pv (.lit (.bool rx2.2.1))) ?_
    refine rvP C (.pv (.lit (.int .i64 rx2.2.2))) ?_
    refine rvc_nil ?_
    refine Awp.seq ?_
    refine Awp.consP C ?_
    refine rvP C (.pv (.lit (.int .i64 rx2.2.2))) ?_
    refine rvP C (.pv (.lit (.bool (rx2.2.2 != 0)))) ?_
    refine rvc_nil ?_
    refine Awp.cond (b := (rx2.2.2 != 0)) rfl (fun h23 => ?_) (fun h23 => ?_)
    ·
     replace hR := of_true h23 hR
     refine Awp.consP C ?_
     refine rvP C (.agg [.pv (.lit (.int .i64 0)), sS (some true) eMember []]) ?_
     refine rvP C (.pv (.lit (.int .i64 rx2.2.2))) ?_
     refine rvP C (sS (some true) eCommand []) ?_
     refine rvc_un (rexec_prim C (δ := { v := .undef, wr := [(9, some (.cells [.pv (.lit (.int .i64 0)), sS (some true) eMember []]))] }) rfl rfl rfl rfl trivial rfl ?_)
     refine rvP C (.pv (.lit (.int .i64 rx2.2.2))) ?_
     refine rvc_nil ?_
     refine Awp.ret ?_
     subst hR
     exact ⟨.inl rfl, rfl⟩
    ·
     replace hR := of_false h23 hR
     refine Awp.skip ?_
     refine Awp.seq ?_
     refine Awp.consP C ?_
     refine rvP C (.pv (.lit (.bool rx2.2.1))) ?_
     refine rvP C (.pv (.lit (.bool (!rx2.2.1)))) ?_
     refine rvc_nil ?_
     refine Awp.cond (b := (!rx2.2.1)) rfl (fun h24 => ?_) (fun h24 => ?_)
     ·
      replace hR := of_true h24 hR
      refine Awp.exit ?_
      refine Awp.consP C ?_
      refine rvP C (sS (some l.isEmpty) eCommand l) ?_
      refine rvP C (.agg [.pv (.lit (.int .i64 vc)), sS (some vc1.nil) eMember vc1.D]) ?_
      refine rvP C (sS (some l.isEmpty) eCommand l) ?_
      refine rvc_un (rexec_prim C (δ := { v := .undef, wr := [(9, some (.cells [.pv (.lit (.int .i64 vc)), sS (some vc1.nil) eMember vc1.D]))] }) rfl rfl rfl rfl trivial rfl ?_)
      refine rvP C (.pv (.lit (.int .i64 0))) ?_
      refine rvc_nil ?_
      refine Awp.ret ?_
      subst hR
      exact ⟨.inl rfl, rfl⟩
     ·
      replace hR := of_false h24 hR
      refine Awp.skip ?_
      refine Awp.consP C ?_
      refine rvP C (sS (some l.isEmpty) eCommand l) ?_
      refine rvP C (.agg [.pv (.lit (.int .i64 rx2.1.kind)), .pv (.lit (.int .i64 rx2.1.node)), .pv (.lit (.int .i64 rx2.1.site)), .pv (.lit (.int .i64 rx2.1.epoch))]) ?_
      refine rvc_un (rexec_buildSliceF C eCommand [rx2.1] rfl rfl rfl rfl rfl rfl rfl (by decide) rfl ?_)
      refine rvc_un (rexec_appendG C rfl rfl rfl rfl rfl rfl rfl rfl (fun _ h => by cases h) rfl (en := eCommand) (l := l) (D := [rx2.1]) rfl rfl h2 (by rw [h2]; rfl) (by simp) (by have := check_r (c := (Chain.mk vc vc1)); have := rCheck_le6 (c := (Chain.mk vc vc1)); have := of_decide_eq_true h3; have := ne_of_beq_false h6; have := eq_of_bne_false h23; first | omega | (simp <;> omega)) (by decide) (nn := (l ++ [rx2.1]).length) (by simp) ?_)
      refine rvP C (.sl 72 0 ((l ++ [rx2.1]).length) 4 false) ?_
      refine rvc_nil ?_
      refine Awp.consP C ?_
      refine rvP C (.ptr 16 0) ?_
      refine rvP C (.pv (.lit (.int .i64 rx2.1.kind))) ?_
      refine rvP C (.pv (.lit (.bool (rx2.1.kind == 1)))) ?_
      refine rvc_nil ?_
      refine Awp.cond (b := (rx2.1.kind == 1)) rfl (fun h25 => ?_) (fun h25 => ?_)
      ·
       replace hR := of_true h25 hR
       refine Awp.regionP C ?_
       refine rvP C (.agg [.pv (.lit (.int .i64 vc)), sS (some vc1.nil) eMember vc1.D]) ?_
       refine rvP C (.ptr 16 1) ?_
       refine rvP C (.pv (.lit (.int .i64 rx2.1.node))) ?_
       obtain ⟨rc2, hq_rc2⟩ : ∃ q_, q_ = (rCut (Chain.mk vc vc1) rx2.1.node (-1)) := ⟨_, rfl⟩
       have hc_rc2 := (rCut_calls (Chain.mk vc vc1) rx2.1.node (-1) (by show vc1.D.length ≤ 1000000; have := check_r (c := (Chain.mk vc vc1)); have := rCheck_le6 (c := (Chain.mk vc vc1)); have := of_decide_eq_true h3; have := ne_of_beq_false h6; have := eq_of_bne_false h23; have := beq_iff_eq.1 h25; omega))
       first | rw [← hq_rc2] at hR hc_rc2 | (unfold rAllP at hR; rw [← hq_rc2] at hR hc_rc2) | (unfold rAllP_l0 at hR; rw [← hq_rc2] at hR hc_rc2) | (unfold rAllP_l1 at hR; rw [← hq_rc2] at hR hc_rc2)
       have hf0_rc2 := rCut_6 (Chain.mk vc vc1) rx2.1.node (-1)
       rw [← hq_rc2] at hf0_rc2
       refine rvc_un (rexec_call hP C rfl rfl rfl hc_rc2 ?_)
       refine rvP C (.tup [.agg [.pv (.lit (.int .i64 rc2.1.epoch)), sS (some rc2.1.members.nil) eMember rc2.1.members.D], .pv (.lit (.int .i64 rc2.2))]) ?_
       refine rvP C (.agg [.pv (.lit (.int .i64 rc2.1.epoch)), sS (some rc2.1.members.nil) eMember rc2.1.members.D]) ?_
       refine rvP C (.pv (.lit (.int .i64 rc2.2))) ?_
       refine rvc_un (rexec_prim C (δ := { v := .undef, wr := [(4, some (.cells [.pv (.lit (.int .i64 rc2.1.epoch)), sS (some rc2.1.members.nil) eMember rc2.1.members.D]))] }) rfl rfl rfl rfl trivial rfl ?_)
       refine rvc_nil ?_
       refine Awp.regionP C ?_
       refine rvP C (.pv (.lit (.int .i64 (IntKind.i64.wrap ((i : Int) + 1))))) ?_
       refine rvP C (.pv (.lit (.int .i64 (IntKind.i64.wrap ((i : Int) + 1))))) ?_
       refine rvc_nil ?_
       refine ⟨h4, ((l ++ [rx2.1]), rc2.1.epoch, rc2.1.members), ?_, ?_⟩
       · exact ⟨(by rw [show 100 - (i + 1) = k by omega]; exact hR), (by dsimp only; omega), (by first | omega | (simp <;> omega))⟩
       · exact ⟨fun b => bif b == 900 then 72 else (fun b => b) b, WeakerR.ofL (Ks := [4, 6, 7, 9, 12, 900]) hI ⟨⟨rfl, rfl⟩, ⟨rfl, rfl⟩, ⟨rfl, rfl⟩, ⟨rfl, rfl⟩, ⟨rfl, rfl⟩, ⟨grow_to rfl rfl app_ne rfl rfl, grow_within rfl⟩, ⟨rfl, rfl⟩, ⟨lit_cast (wrap_i64 (by omega) (by omega)), rfl⟩, trivial⟩ (okH_grow (fun _ => rfl) rfl rfl (okH_cons rfl rfl rfl rfl (okH_cons rfl rfl rfl rfl (okH_cons rfl rfl rfl rfl (okH_cons rfl rfl rfl rfl (okH_cons rfl rfl rfl rfl (okH_nil))))))) rfl⟩
      ·
       replace hR := of_false h25 hR
       refine Awp.regionP C ?_
       refine rvP C (.agg [.pv (.lit (.int .i64 vc)), sS (some vc1.nil) eMember vc1.D]) ?_
       refine rvP C (.ptr 16 1) ?_
       refine rvP C (.pv (.lit (.int .i64 rx2.1.node))) ?_
       refine rvP C (.ptr 16 2) ?_
       refine rvP C (.pv (.lit (.int .i64 rx2.1.site))) ?_
       refine rvP C (.agg [.pv (.lit (.int .i64 rx2.1.node)), .pv (.lit (.int .i64 rx2.1.site)), .pv (.lit (.bool false))]) ?_
       obtain ⟨rj2, hq_rj2⟩ : ∃ q_, q_ = (rJoin (Chain.mk vc vc1) (Member.mk rx2.1.node rx2.1.site false)) := ⟨_, rfl⟩
       have hc_rj2 := (rJoin_calls (Chain.mk vc vc1) (Member.mk rx2.1.node rx2.1.site false) (by show vc1.D.length ≤ 1000000; have := check_r (c := (Chain.mk vc vc1)); have := rCheck_le6 (c := (Chain.mk vc vc1)); have := of_decide_eq_true h3; have := ne_of_beq_false h6; have := eq_of_bne_false h23; have := ne_of_beq_false h25; omega))
       first | rw [← hq_rj2] at hR hc_rj2 | (unfold rAllP at hR; rw [← hq_rj2] at hR hc_rj2) | (unfold rAllP_l0 at hR; rw [← hq_rj2] at hR hc_rj2) | (unfold rAllP_l1 at hR; rw [← hq_rj2] at hR hc_rj2)
       have hf0_rj2 := rJoin_7 (Chain.mk vc vc1) (Member.mk rx2.1.node rx2.1.site false)
       rw [← hq_rj2] at hf0_rj2
       refine rvc_un (rexec_call hP C rfl rfl rfl hc_rj2 ?_)
       refine rvP C (.tup [.agg [.pv (.lit (.int .i64 rj2.1.epoch)), sS (some rj2.1.members.nil) eMember rj2.1.members.D], .pv (.lit (.int .i64 rj2.2))]) ?_
       refine rvP C (.agg [.pv (.lit (.int .i64 rj2.1.epoch)), sS (some rj2.1.members.nil) eMember rj2.1.members.D]) ?_
       refine rvP C (.pv (.lit (.int .i64 rj2.2))) ?_
       refine rvc_un (rexec_prim C (δ := { v := .undef, wr := [(4, some (.cells [.pv (.lit (.int .i64 rj2.1.epoch)), sS (some rj2.1.members.nil) eMember rj2.1.members.D]))] }) rfl rfl rfl rfl trivial rfl ?_)
       refine rvc_nil ?_
       refine Awp.regionP C ?_
       refine rvP C (.pv (.lit (.int .i64 (IntKind.i64.wrap ((i : Int) + 1))))) ?_
       refine rvP C (.pv (.lit (.int .i64 (IntKind.i64.wrap ((i : Int) + 1))))) ?_
       refine rvc_nil ?_
       refine ⟨h4, ((l ++ [rx2.1]), rj2.1.epoch, rj2.1.members), ?_, ?_⟩
       · exact ⟨(by rw [show 100 - (i + 1) = k by omega]; exact hR), (by dsimp only; omega), (by first | omega | (simp <;> omega))⟩
       · exact ⟨fun b => bif b == 900 then 72 else (fun b => b) b, WeakerR.ofL (Ks := [4, 6, 7, 9, 12, 900]) hI ⟨⟨rfl, rfl⟩, ⟨rfl, rfl⟩, ⟨rfl, rfl⟩, ⟨rfl, rfl⟩, ⟨rfl, rfl⟩, ⟨grow_to rfl rfl app_ne rfl rfl, grow_within rfl⟩, ⟨rfl, rfl⟩, ⟨lit_cast (wrap_i64 (by omega) (by omega)), rfl⟩, trivial⟩ (okH_grow (fun _ => rfl) rfl rfl (okH_cons rfl rfl rfl rfl (okH_cons rfl rfl rfl rfl (okH_cons rfl rfl rfl rfl (okH_cons rfl rfl rfl rfl (okH_cons rfl rfl rfl rfl (okH_nil))))))) rfl⟩
  ·
   rw [show 100 - i = 0 by have := of_decide_eq_false h3; omega] at hR
   refine Awp.exit ?_
   refine Awp.consP C ?_
   refine rvP C (sS (some l.isEmpty) eCommand l) ?_
   refine rvP C (.agg [.pv (.lit (.int .i64 vc)), sS (some vc1.nil) eMember vc1.D]) ?_
   refine rvP C (sS (some l.isEmpty) eCommand l) ?_
   refine rvc_un (rexec_prim C (δ := { v := .undef, wr := [(9, some (.cells [.pv (.lit (.int .i64 vc)), sS (some vc1.nil) eMember vc1.D]))] }) rfl rfl rfl rfl trivial rfl ?_)
   refine rvP C (.pv (.lit (.int .i64 0))) ?_
   refine rvc_nil ?_
   refine Awp.ret ?_
   subst hR
   exact ⟨.inl rfl, rfl⟩
 ·
  refine Awp.wordsR [(1, .pv (.lit (.int .u64 alive))), (4, .ptr 4 0), (6, .ptr 6 0), (7, .ptr 7 0), (9, .ptr 9 0), (11, .sl 900 0 l.length 4 false), (12, .ptr 12 0), (21, .pv (.lit (.int .i64 (i : Int))))] [(900, .cells (encC eCommand l)), (4, .cells [.pv (.lit (.int .i64 vc)), sS (some vc1.nil) eMember vc1.D]), (6, .cells [.pv (.lit (.int .i64 (h 0))), .pv (.lit (.int .i64 (h 1))), .pv (.lit (.int .i64 (h 2))), .pv (.lit (.int .i64 (h 3))), .pv (.lit (.int .i64 (h 4))), .pv (.lit (.int .i64 (h 5)))]), (7, .cells [.pv (.lit (.int .i64 (w 0))), .pv (.lit (.int .i64 (w 1))), .pv (.lit (.int .i64 (w 2)))]), (9, .cells [.pv (.lit (.int .i64 0)), sS (some true) eMember []]), (12, .cells [.pv (.lit (.bool (sw 0))), .pv (.lit (.bool (sw 1))), .pv (.lit (.bool (sw 2))), .pv (.lit (.bool (sw 3))), .pv (.lit (.bool (sw 4))), .pv (.lit (.bool (sw 5))), .pv (.lit (.bool (sw 6))), .pv (.lit (.bool (sw 7))), .pv (.lit (.bool (sw 8))), .pv (.lit (.bool (sw 9))), .pv (.lit (.bool (sw 10))), .pv (.lit (.bool (sw 11))), .pv (.lit (.bool (sw 12))), .pv (.lit (.bool (sw 13))), .pv (.lit (.bool (sw 14))), .pv (.lit (.bool (sw 15))), .pv (.lit (.bool (sw 16))), .pv (.lit (.bool (sw 17))), .pv (.lit (.bool (sw 18))), .pv (.lit (.bool (sw 19))), .pv (.lit (.bool (sw 20))), .pv (.lit (.bool (sw 21))), .pv (.lit (.bool (sw 22))), .pv (.lit (.bool (sw 23))), .pv (.lit (.bool (sw 24))), .pv (.lit (.bool (sw 25))), .pv (.lit (.bool (sw 26))), .pv (.lit (.bool (sw 27))), .pv (.lit (.bool (sw 28))), .pv (.lit (.bool (sw 29))), .pv (.lit (.bool (sw 30))), .pv (.lit (.bool (sw 31))), .pv (.lit (.bool (sw 32))), .pv (.lit (.bool (sw 33))), .pv (.lit (.bool (sw 34))), .pv (.lit (.bool (sw 35))), .pv (.lit (.bool (sw 36))), .pv (.lit (.bool (sw 37))), .pv (.lit (.bool (sw 38))), .pv (.lit (.bool (sw 39))), .pv (.lit (.bool (sw 40))), .pv (.lit (.bool (sw 41))), .pv (.lit (.bool (sw 42))), .pv (.lit (.bool (sw 43))), .pv (.lit (.bool (sw 44))), .pv (.lit (.bool (sw 45))), .pv (.lit (.bool (sw 46))), .pv (.lit (.bool (sw 47))), .pv (.lit (.bool (sw 48))), .pv (.lit (.bool (sw 49))), .pv (.lit (.bool (sw 50))), .pv (.lit (.bool (sw 51))), .pv (.lit (.bool (sw 52))), .pv (.lit (.bool (sw 53))), .pv (.lit (.bool (sw 54))), .pv (.lit (.bool (sw 55))), .pv (.lit (.bool (sw 56))), .pv (.lit (.bool (sw 57))), .pv (.lit (.bool (sw 58))), .pv (.lit (.bool (sw 59))), .pv (.lit (.bool (sw 60))), .pv (.lit (.bool (sw 61))), .pv (.lit (.bool (sw 62))), .pv (.lit (.bool (sw 63)))])] [4, 6, 7, 9, 12, 900] (WeakerR.ofL (Ks := [4, 6, 7, 9, 12, 900]) hI ⟨⟨rfl, rfl⟩, ⟨rfl, rfl⟩, ⟨rfl, rfl⟩, ⟨rfl, rfl⟩, ⟨rfl, rfl⟩, ⟨(by exact grow_at_cons (b := 900) (b' := 900) (e := eCommand) (l := l) rfl h2 rfl rfl rfl), rfl⟩, ⟨rfl, rfl⟩, ⟨rfl, rfl⟩, trivial⟩ (okH_list (look_cons h2 rfl) rfl rfl (okH_cons (look_cons h2 rfl) rfl rfl rfl (okH_cons (look_cons h2 rfl) rfl rfl rfl (okH_cons (look_cons h2 rfl) rfl rfl rfl (okH_cons (look_cons h2 rfl) rfl rfl rfl (okH_cons (look_cons h2 rfl) rfl rfl rfl (okH_nil))))))) rfl) ?_
  refine Awp.consP C ?_
  refine rvP C (.pv (.lit (.bool (decide ((i : Int) < 100))))) ?_
  refine rvc_nil ?_
  refine Awp.seq ?_
  refine Awp.cond (b := (decide ((i : Int) < 100))) rfl (fun h26 => ?_) (fun h26 => ?_)
  ·
   have h27 : i < 100 := by have := of_decide_eq_true h26; omega
   obtain ⟨k, h28⟩ : ∃ k, 100 - i = k + 1 := ⟨100 - i - 1, by omega⟩
   rw [h28] at hR
   refine Awp.skip ?_
   refine Awp.seq ?_
   refine Awp.block ?_
   refine Awp.seq ?_
   refine Awp.consP C ?_
   refine rvP C (.agg [.pv (.lit (.int .i64 vc)), sS (some vc1.nil) eMember vc1.D]) ?_
   refine rvc_un (rexec_call hP C rfl rfl rfl (rCheck_calls (Chain.mk vc vc1) (by show vc1.D.length ≤ 9223372036854775807; have := of_decide_eq_true h26; omega)) ?_)
   refine rvP C (.pv (.lit (.bool ((rCheck (Chain.mk vc vc1)) == 0)))) ?_
   refine rvc_nil ?_
   refine Awp.cond (b := ((rCheck (Chain.mk vc vc1)) == 0)) rfl (fun h29 => ?_) (fun h29 => ?_)
   ·
    replace hR := of_true h29 hR
    refine Awp.consP C ?_
    refine rvP C (.ptr 4 0) ?_
    refine rvP C (.pv (.lit (.int .i64 vc))) ?_
    refine rvP C (.agg [.pv (.lit (.int .i64 vc)), sS (some true) eMember []]) ?_
    refine rvc_un (rexec_prim C (δ := { v := .ptr 13 0, new := [(13, .cells [.pv (.lit (.int .i64 0)), sS (some true) eMember []])] }) rfl rfl rfl rfl trivial rfl ?_)
    refine rvc_un (rexec_prim C (δ := { v := .undef, wr := [(13, some (.cells [.pv (.lit (.int .i64 vc)), sS (some true) eMember []]))] }) rfl rfl rfl rfl trivial rfl ?_)
    refine rvc_nil ?_
    refine Awp.seq ?_
    refine Awp.consP C ?_
    refine rvP C (.ptr 4 1) ?_
    refine rvP C (sS (some vc1.nil) eMember vc1.D) ?_
    refine rvP C (.pv (.lit (.int .i64 (vc1.D.length : Int)))) ?_
    refine rvP C (.pv (.lit (.int .i64 0))) ?_
    refine rvc_nil ?_
    refine Awp.block ?_
    refine Awp.forR (σ := ((List Member))) (vc1.D.length) (fun i2 v => [(1, .pv (.lit (.int .u64 alive))), (4, .ptr 4 0), (6, .ptr 6 0), (7, .ptr 7 0), (9, .ptr 9 0), (11, .sl 900 0 l.length 4 false), (12, .ptr 12 0), (13, .ptr 13 0), (21, .pv (.lit (.int .i64 (i : Int)))), (30, sS (some vc1.nil) eMember vc1.D), (31, .pv (.lit (.int .i64 (vc1.D.length : Int)))), (32, .pv (.lit (.int .i64 (i2 : Int))))]) (fun i2 v => (growH 902 eMember v ++ ([(900, .cells (encC eCommand l)), (4, .cells [.pv (.lit (.int .i64 vc)), sS (some vc1.nil) eMember vc1.D]), (6, .cells [.pv (.lit (.int .i64 (h 0))), .pv (.lit (.int .i64 (h 1))), .pv (.lit (.int .i64 (h 2))), .pv (.lit (.int .i64 (h 3))), .pv (.lit (.int .i64 (h 4))), .pv (.lit (.int .i64 (h 5)))]), (7, .cells [.pv (.lit (.int .i64 (w 0))), .pv (.lit (.int .i64 (w 1))), .pv (.lit (.int .i64 (w 2)))]), (9, .cells [.pv (.lit (.int .i64 0)), sS (some true) eMember []]), (12, .cells [.pv (.lit (.bool (sw 0))), .pv (.lit (.bool (sw 1))), .pv (.lit (.bool (sw 2))), .pv (.lit (.bool (sw 3))), .pv (.lit (.bool (sw 4))), .pv (.lit (.bool (sw 5))), .pv (.lit (.bool (sw 6))), .pv (.lit (.bool (sw 7))), .pv (.lit (.bool (sw 8))), .pv (.lit (.bool (sw 9))), .pv (.lit (.bool (sw 10))), .pv (.lit (.bool (sw 11))), .pv (.lit (.bool (sw 12))), .pv (.lit (.bool (sw 13))), .pv (.lit (.bool (sw 14))), .pv (.lit (.bool (sw 15))), .pv (.lit (.bool (sw 16))), .pv (.lit (.bool (sw 17))), .pv (.lit (.bool (sw 18))), .pv (.lit (.bool (sw 19))), .pv (.lit (.bool (sw 20))), .pv (.lit (.bool (sw 21))), .pv (.lit (.bool (sw 22))), .pv (.lit (.bool (sw 23))), .pv (.lit (.bool (sw 24))), .pv (.lit (.bool (sw 25))), .pv (.lit (.bool (sw 26))), .pv (.lit (.bool (sw 27))), .pv (.lit (.bool (sw 28))), .pv (.lit (.bool (sw 29))), .pv (.lit (.bool (sw 30))), .pv (.lit (.bool (sw 31))), .pv (.lit (.bool (sw 32))), .pv (.lit (.bool (sw 33))), .pv (.lit (.bool (sw 34))), .pv (.lit (.bool (sw 35))), .pv (.lit (.bool (sw 36))), .pv (.lit (.bool (sw 37))), .pv (.lit (.bool (sw 38))), .pv (.lit (.bool (sw 39))), .pv (.lit (.bool (sw 40))), .pv (.lit (.bool (sw 41))), .pv (.lit (.bool (sw 42))), .pv (.lit (.bool (sw 43))), .pv (.lit (.bool (sw 44))), .pv (.lit (.bool (sw 45))), .pv (.lit (.bool (sw 46))), .pv (.lit (.bool (sw 47))), .pv (.lit (.bool (sw 48))), .pv (.lit (.bool (sw 49))), .pv (.lit (.bool (sw 50))), .pv (.lit (.bool (sw 51))), .pv (.lit (.bool (sw 52))), .pv (.lit (.bool (sw 53))), .pv (.lit (.bool (sw 54))), .pv (.lit (.bool (sw 55))), .pv (.lit (.bool (sw 56))), .pv (.lit (.bool (sw 57))), .pv (.lit (.bool (sw 58))), .pv (.lit (.bool (sw 59))), .pv (.lit (.bool (sw 60))), .pv (.lit (.bool (sw 61))), .pv (.lit (.bool (sw 62))), .pv (.lit (.bool (sw 63)))]), (13, .cells [.pv (.lit (.int .i64 vc)), grow 902 eMember v])]))) [4, 6, 7, 9, 12, 13, 900, 902] (fun i2 v => (rAllP_l1 sw (fun vc3 => (bif ((rNextP (Chain.mk vc (Sl.mk vc3.isEmpty vc3)) alive h w).2.2 != 0) then ((Sl.mk true []), (Chain.mk 0 (Sl.mk true [])), (rNextP (Chain.mk vc (Sl.mk vc3.isEmpty vc3)) alive h w).2.2) else (bif (!(rNextP (Chain.mk vc (Sl.mk vc3.isEmpty vc3)) alive h w).2.1) then ((Sl.mk l.isEmpty l), (Chain.mk vc (Sl.mk vc3.isEmpty vc3)), 0) else (bif ((rNextP (Chain.mk vc (Sl.mk vc3.isEmpty vc3)) alive h w).1.kind == 1) then rAllP_l0 alive h w sw k (i + 1) (l ++ [(rNextP (Chain.mk vc (Sl.mk vc3.isEmpty vc3)) alive h w).1]) (rCut (Chain.mk vc (Sl.mk vc3.isEmpty vc3)) (rNextP (Chain.mk vc (Sl.mk vc3.isEmpty vc3)) alive h w).1.node (-1)).1.epoch (rCut (Chain.mk vc (Sl.mk vc3.isEmpty vc3)) (rNextP (Chain.mk vc (Sl.mk vc3.isEmpty vc3)) alive h w).1.node (-1)).1.members else rAllP_l0 alive h w sw k (i + 1) (l ++ [(rNextP (Chain.mk vc (Sl.mk vc3.isEmpty vc3)) alive h w).1]) (rJoin (Chain.mk vc (Sl.mk vc3.isEmpty vc3)) (Member.mk (rNextP (Chain.mk vc (Sl.mk vc3.isEmpty vc3)) alive h w).1.node (rNextP (Chain.mk vc (Sl.mk vc3.isEmpty vc3)) alive h w).1.site false)).1.epoch (rJoin (Chain.mk vc (Sl.mk vc3.isEmpty vc3)) (Member.mk (rNextP (Chain.mk vc (Sl.mk vc3.isEmpty vc3)) alive h w).1.node (rNextP (Chain.mk vc (Sl.mk vc3.isEmpty vc3)) alive h w).1.site false)).1.members)))) (vc1.D.drop i2) i2 v = R) ∧ (v.length ≤ i2)) [] ?_ ?_ (fun i2 vc3 h30 hR => ?_)
    · exact ⟨hR, (by first | omega | (simp <;> omega))⟩
    · exact ⟨fun b => b, WeakerR.ofL (Ks := [4, 6, 7, 9, 12, 13, 900, 902]) hI ⟨⟨rfl, rfl⟩, ⟨rfl, rfl⟩, ⟨rfl, rfl⟩, ⟨rfl, rfl⟩, ⟨rfl, rfl⟩, ⟨rfl, rfl⟩, ⟨rfl, rfl⟩, ⟨rfl, rfl⟩, ⟨rfl, rfl⟩, ⟨rfl, rfl⟩, ⟨rfl, rfl⟩, ⟨rfl, rfl⟩, trivial⟩ (okH_grow (fun hne => absurd rfl hne) rfl rfl (okH_list rfl rfl rfl (okH_cons rfl rfl rfl rfl (okH_cons rfl rfl rfl rfl (okH_cons rfl rfl rfl rfl (okH_cons rfl rfl rfl rfl (okH_cons rfl rfl rfl rfl (okH_cons (cellsTo rfl (by exact ⟨rfl, grow_to_nil rfl rfl (.inl rfl), trivial⟩)) rfl rfl (win_cells (by exact ⟨rfl, grow_within rfl, trivial⟩)) (okH_nil))))))))) rfl⟩
    obtain ⟨hR, hi_vc3⟩ := hR
    replace hi_vc3 : vc3.length ≤ i2 := hi_vc3
    by_cases h31 : vc3 = []
    ·
     refine Awp.wordsR [(1, .pv (.lit (.int .u64 alive))), (4, .ptr 4 0), (6, .ptr 6 0), (7, .ptr 7 0), (9, .ptr 9 0), (11, .sl 900 0 l.length 4 false), (12, .ptr 12 0), (13, .ptr 13 0), (21, .pv (.lit (.int .i64 (i : Int)))), (30, sS (some vc1.nil) eMember vc1.D), (31, .pv (.lit (.int .i64 (vc1.D.length : Int)))), (32, .pv (.lit (.int .i64 (i2 : Int))))] [(900, .cells (encC eCommand l)), (4, .cells [.pv (.lit (.int .i64 vc)), sS (some vc1.nil) eMember vc1.D]), (6, .cells [.pv (.lit (.int .i64 (h 0))), .pv (.lit (.int .i64 (h 1))), .pv (.lit (.int .i64 (h 2))), .pv (.lit (.int .i64 (h 3))), .pv (.lit (.int .i64 (h 4))), .pv (.lit (.int .i64 (h 5)))]), (7, .cells [.pv (.lit (.int .i64 (w 0))), .pv (.lit (.int .i64 (w 1))), .pv (.lit (.int .i64 (w 2)))]), (9, .cells [.pv (.lit (.int .i64 0)), sS (some true) eMember []]), (12, .cells [.pv (.lit (.bool (sw 0))), .pv (.lit (.bool (sw 1))), .pv (.lit (.bool (sw 2))), .pv (.lit (.bool (sw 3))), .pv (.lit (.bool (sw 4))), .pv (.lit (.bool (sw 5))), .pv (.lit (.bool (sw 6))), .pv (.lit (.bool (sw 7))), .pv (.lit (.bool (sw 8))), .pv (.lit (.bool (sw 9))), .pv (.lit (.bool (sw 10))), .pv (.lit (.bool (sw 11))), .pv (.lit (.bool (sw 12))), .pv (.lit (.bool (sw 13))), .pv (.lit (.bool (sw 14))), .pv (.lit (.bool (sw 15))), .pv (.lit (.bool (sw 16))), .pv (.lit (.bool (sw 17))), .pv (.lit (.bool (sw 18))), .pv (.lit (.bool (sw 19))), .pv (.lit (.bool (sw 20))), .pv (.lit (.bool (sw 21))), .pv (.lit (.bool (sw 22))), .pv (.lit (.bool (sw 23))), .pv (.lit (.bool (sw 24))), .pv (.lit (.bool (sw 25))), .pv (.lit (.bool (sw 26))), .pv (.lit (.bool (sw 27))), .pv (.lit (.bool (sw 28))), .pv (.lit (.bool (sw 29))), .pv (.lit (.bool (sw 30))), .pv (.lit (.bool (sw 31))), .pv (.lit (.bool (sw 32))), .pv (.lit (.bool (sw 33))), .pv (.lit (.bool (sw 34))), .pv (.lit (.bool (sw 35))), .pv (.lit (.bool (sw 36))), .pv (.lit (.bool (sw 37))), .pv (.lit (.bool (sw 38))), .pv (.lit (.bool (sw 39))), .pv (.lit (.bool (sw 40))), .pv (.lit (.bool (sw 41))), .pv (.lit (.bool (sw 42))), .pv (.lit (.bool (sw 43))), .pv (.lit (.bool (sw 44))), .pv (.lit (.bool (sw 45))), .pv (.lit (.bool (sw 46))), .pv (.lit (.bool (sw 47))), .pv (.lit (.bool (sw 48))), .pv (.lit (.bool (sw 49))), .pv (.lit (.bool (sw 50))), .pv (.lit (.bool (sw 51))), .pv (.lit (.bool (sw 52))), .pv (.lit (.bool (sw 53))), .pv (.lit (.bool (sw 54))), .pv (.lit (.bool (sw 55))), .pv (.lit (.bool (sw 56))), .pv (.lit (.bool (sw 57))), .pv (.lit (.bool (sw 58))), .pv (.lit (.bool (sw 59))), .pv (.lit (.bool (sw 60))), .pv (.lit (.bool (sw 61))), .pv (.lit (.bool (sw 62))), .pv (.lit (.bool (sw 63)))]), (13, .cells [.pv (.lit (.int .i64 vc)), sS (some vc3.isEmpty) eMember vc3])] [4, 6, 7, 9, 12, 13, 900] (WeakerR.ofL (Ks := [4, 6, 7, 9, 12, 13, 900]) hI ⟨⟨rfl, rfl⟩, ⟨rfl, rfl⟩, ⟨rfl, rfl⟩, ⟨rfl, rfl⟩, ⟨rfl, rfl⟩, ⟨rfl, rfl⟩, ⟨rfl, rfl⟩, ⟨rfl, rfl⟩, ⟨rfl, rfl⟩, ⟨rfl, rfl⟩, ⟨rfl, rfl⟩, ⟨rfl, rfl⟩, trivial⟩ (okH_list (look_nil h31 rfl) rfl rfl (okH_cons (look_nil h31 rfl) rfl rfl rfl (okH_cons (look_nil h31 rfl) rfl rfl rfl (okH_cons (look_nil h31 rfl) rfl rfl rfl (okH_cons (look_nil h31 rfl) rfl rfl rfl (okH_cons (look_nil h31 rfl) rfl rfl rfl (okH_cons (cellsTo (look_nil h31 rfl) (by exact ⟨rfl, (by exact grow_at_nil (b := 902) (e := eMember) (l := vc3) rfl h31), trivial⟩)) rfl rfl (win_cells (by exact ⟨rfl, rfl, trivial⟩)) (okH_nil)))))))) rfl) ?_
     refine Awp.consP C ?_
     refine rvP C (.pv (.lit (.bool (decide ((i2 : Int) < (vc1.D.length : Int)))))) ?_
     refine rvc_nil ?_
     refine Awp.seq ?_
     refine Awp.cond (b := (decide ((i2 : Int) < (vc1.D.length : Int)))) rfl (fun h32 => ?_) (fun h32 => ?_)
     ·
      have h33 : i2 < vc1.D.length := by have := of_decide_eq_true h32; omega
      obtain ⟨x1, h34⟩ := getX h33
      rw [drop_at h34] at hR
      refine Awp.skip ?_
      refine Awp.seq ?_
      refine Awp.block ?_
      refine Awp.consP C ?_
      refine rvc_un (rexec_idxS C rfl rfl rfl rfl rfl rfl x1 (Int.natCast_nonneg _) h34 ?_)
      refine rvP C (.agg [.pv (.lit (.int .i64 x1.node)), .pv (.lit (.int .i64 x1.site)), .pv (.lit (.bool x1.fresh))]) ?_
      refine rvc_un (rexec_prim C (δ := { v := .ptr 15 0, new := [(15, .cells [.pv (.lit (.int .i64 0)), .pv (.lit (.int .i64 0)), .pv (.lit (.bool false))])] }) rfl rfl rfl rfl trivial rfl ?_)
      refine rvc_un (rexec_prim C (δ := { v := .undef, wr := [(15, some (.cells [.pv (.lit (.int .i64 x1.node)), .pv (.lit (.int .i64 x1.site)), .pv (.lit (.bool x1.fresh))]))] }) rfl rfl rfl rfl trivial rfl ?_)
      refine rvc_nil ?_
      refine Awp.consP C ?_
      refine rvP C (.ptr 15 2) ?_
      refine rvP C (.pv (.lit (.bool x1.fresh))) ?_
      refine rvP C (.pv (.lit (.bool x1.fresh))) ?_
      refine rvc_case 38 x1.fresh rfl (fun h35 => ?_) (fun h35 => ?_)
      ·
       replace hR := of_true h35 hR
       refine rvO C (.ptr 15 0) ?_
       refine rvO C (.pv (.lit (.int .i64 x1.node))) ?_
       refine rvc_open rfl rfl rfl (rexec_prim C (δ := { v := .ptr 12 (0 + x1.node.toNat * 1) }) rfl rfl rfl rfl ⟨(by have h0_ := mem_ok ((check_eq _).trans (beq_iff_eq.1 ‹(rCheck _ == 0) = true›)) (List.mem_of_getElem? (by assumption)); omega), (by have h0_ := mem_ok ((check_eq _).trans (beq_iff_eq.1 ‹(rCheck _ == 0) = true›)) (List.mem_of_getElem? (by assumption)); omega)⟩ rfl ?_)
       refine rvc_open rfl rfl rfl (rexec_loadA C [] [] (fun j => .pv (.lit (.bool (sw j)))) 64 x1.node.toNat (.pv (.lit (.bool (sw x1.node.toNat)))) rfl rfl rfl rfl rfl rfl rfl (by have h0_ := mem_ok ((check_eq _).trans (beq_iff_eq.1 ‹(rCheck _ == 0) = true›)) (List.mem_of_getElem? (by assumption)); omega) rfl ?_)
       refine rvO C (.pv (.lit (.bool (!(sw x1.node.toNat))))) ?_
       refine rvP C (.pv (.lit (.bool (!(sw x1.node.toNat))))) ?_
       refine rvP C (.ptr 15 2) ?_
       refine rvc_un (rexec_prim C (δ := { v := .undef, wr := [(15, some (.cells [.pv (.lit (.int .i64 x1.node)), .pv (.lit (.int .i64 x1.site)), .pv (.lit (.bool (!(sw x1.node.toNat))))]))] }) rfl rfl rfl rfl trivial rfl ?_)
       refine rvc_nil ?_
       refine Awp.regionP C ?_
       refine rvP C (.ptr 13 1) ?_
       refine rvP C (sS (some vc3.isEmpty) eMember vc3) ?_
       refine rvP C (.agg [.pv (.lit (.int .i64 x1.node)), .pv (.lit (.int .i64 x1.site)), .pv (.lit (.bool (!(sw x1.node.toNat))))]) ?_
       refine rvc_un (rexec_buildSliceF C eMember [(Member.mk x1.node x1.site (!(sw x1.node.toNat)))] rfl rfl rfl rfl rfl rfl rfl (by decide) rfl ?_)
       refine rvc_un (rexec_appendG C rfl rfl rfl rfl rfl rfl rfl rfl (fun _ h => by cases h) rfl (en := eMember) (l := vc3) (D := [(Member.mk x1.node x1.site (!(sw x1.node.toNat)))]) rfl rfl h31 (by rw [h31]; rfl) (by simp) (by have := check_r (c := (Chain.mk vc vc1)); have := rCheck_le6 (c := (Chain.mk vc vc1)); have := of_decide_eq_true h26; have := beq_iff_eq.1 h29; have := of_decide_eq_true h32; first | omega | (simp <;> omega)) (by decide) (nn := (vc3 ++ [(Member.mk x1.node x1.site (!(sw x1.node.toNat)))]).length) (by simp) ?_)
       refine rvP C (.ptr 13 1) ?_
       refine rvc_un (rexec_prim C (δ := { v := .undef, wr := [(13, some (.cells [.pv (.lit (.int .i64 vc)), .sl 50 0 ((vc3 ++ [(Member.mk x1.node x1.site (!(sw x1.node.toNat)))]).length) 3 false]))] }) rfl rfl rfl rfl trivial rfl ?_)
       refine rvc_nil ?_
       refine Awp.regionP C ?_
       refine rvP C (.pv (.lit (.int .i64 (IntKind.i64.wrap ((i2 : Int) + 1))))) ?_
       refine rvP C (.pv (.lit (.int .i64 (IntKind.i64.wrap ((i2 : Int) + 1))))) ?_
       refine rvc_nil ?_
       refine ⟨h33, (vc3 ++ [(Member.mk x1.node x1.site (!(sw x1.node.toNat)))]), ?_, ?_⟩
       · exact ⟨hR, (by first | omega | (simp <;> omega))⟩
       · exact ⟨fun b => bif b == 902 then 50 else (fun b => b) b, WeakerR.ofL (Ks := [4, 6, 7, 9, 12, 13, 900, 902]) hI ⟨⟨rfl, rfl⟩, ⟨rfl, rfl⟩, ⟨rfl, rfl⟩, ⟨rfl, rfl⟩, ⟨rfl, rfl⟩, ⟨rfl, rfl⟩, ⟨rfl, rfl⟩, ⟨rfl, rfl⟩, ⟨rfl, rfl⟩, ⟨rfl, rfl⟩, ⟨rfl, rfl⟩, ⟨lit_cast (wrap_i64 (by omega) (by omega)), rfl⟩, trivial⟩ (okH_grow (fun _ => rfl) rfl rfl (okH_list rfl rfl rfl (okH_cons rfl rfl rfl rfl (okH_cons rfl rfl rfl rfl (okH_cons rfl rfl rfl rfl (okH_cons rfl rfl rfl rfl (okH_cons rfl rfl rfl rfl (okH_cons (cellsTo rfl (by exact ⟨rfl, grow_to rfl rfl app_ne rfl rfl, trivial⟩)) rfl rfl (win_cells (by exact ⟨rfl, grow_within rfl, trivial⟩)) (okH_nil))))))))) rfl⟩
      ·
       replace hR := of_false h35 hR
       refine rvS ?_
       refine rvS ?_
       refine rvS ?_
       refine rvS ?_
       refine rvS ?_
       refine rvP C (.pv (.lit (.bool false))) ?_
       refine rvP C (.ptr 15 2) ?_
       refine rvc_un (rexec_prim C (δ := { v := .undef, wr := [(15, some (.cells [.pv (.lit (.int .i64 x1.node)), .pv (.lit (.int .i64 x1.site)), .pv (.lit (.bool false))]))] }) rfl rfl rfl rfl trivial rfl ?_)
       refine rvc_nil ?_
       refine Awp.regionP C ?_
       refine rvP C (.ptr 13 1) ?_
       refine rvP C (sS (some vc3.isEmpty) eMember vc3) ?_
       refine rvP C (.agg [.pv (.lit (.int .i64 x1.node)), .pv (.lit (.int .i64 x1.site)), .pv (.lit (.bool false))]) ?_
       refine rvc_un (rexec_buildSliceF C eMember [(Member.mk x1.node x1.site false)] rfl rfl rfl rfl rfl rfl rfl (by decide) rfl ?_)
       refine rvc_un (rexec_appendG C rfl rfl rfl rfl rfl rfl rfl rfl (fun _ h => by cases h) rfl (en := eMember) (l := vc3) (D := [(Member.mk x1.node x1.site false)]) rfl rfl h31 (by rw [h31]; rfl) (by simp) (by have := check_r (c := (Chain.mk vc vc1)); have := rCheck_le6 (c := (Chain.mk vc vc1)); have := of_decide_eq_true h26; have := beq_iff_eq.1 h29; have := of_decide_eq_true h32; first | omega | (simp <;> omega)) (by decide) (nn := (vc3 ++ [(Member.mk x1.node x1.site false)]).length) (by simp) ?_)
       refine rvP C (.ptr 13 1) ?_
       refine rvc_un (rexec_prim C (δ := { v := .undef, wr := [(13, some (.cells [.pv (.lit (.int .i64 vc)), .sl 50 0 ((vc3 ++ [(Member.mk x1.node x1.site false)]).length) 3 false]))] }) rfl rfl rfl rfl trivial rfl ?_)
       refine rvc_nil ?_
       refine Awp.regionP C ?_
       refine rvP C (.pv (.lit (.int .i64 (IntKind.i64.wrap ((i2 : Int) + 1))))) ?_
       refine rvP C (.pv (.lit (.int .i64 (IntKind.i64.wrap ((i2 : Int) + 1))))) ?_
       refine rvc_nil ?_
       refine ⟨h33, (vc3 ++ [(Member.mk x1.node x1.site false)]), ?_, ?_⟩
       · exact ⟨hR, (by first | omega | (simp <;> omega))⟩
       · exact ⟨fun b => bif b == 902 then 50 else (fun b => b) b, WeakerR.ofL (Ks := [4, 6, 7, 9, 12, 13, 900, 902]) hI ⟨⟨rfl, rfl⟩, ⟨rfl, rfl⟩, ⟨rfl, rfl⟩, ⟨rfl, rfl⟩, ⟨rfl, rfl⟩, ⟨rfl, rfl⟩, ⟨rfl, rfl⟩, ⟨rfl, rfl⟩, ⟨rfl, rfl⟩, ⟨rfl, rfl⟩, ⟨rfl, rfl⟩, ⟨lit_cast (wrap_i64 (by omega) (by omega)), rfl⟩, trivial⟩ (okH_grow (fun _ => rfl) rfl rfl (okH_list rfl rfl rfl (okH_cons rfl rfl rfl rfl (okH_cons rfl rfl rfl rfl (okH_cons rfl rfl rfl rfl (okH_cons rfl rfl rfl rfl (okH_cons rfl rfl rfl rfl (okH_cons (cellsTo rfl (by exact ⟨rfl, grow_to rfl rfl app_ne rfl rfl, trivial⟩)) rfl rfl (win_cells (by exact ⟨rfl, grow_within rfl, trivial⟩)) (okH_nil))))))))) rfl⟩
     ·
      have h33 : ¬ i2 < vc1.D.length := by have := of_decide_eq_false h32; omega
      rw [drop_end h33] at hR
      refine Awp.exit ?_
      refine Awp.regionP C ?_
      refine rvP C (.agg [.pv (.lit (.int .i64 vc)), sS (some vc3.isEmpty) eMember vc3]) ?_
      refine rvc_un (rexec_prim C (δ := { v := .undef, wr := [(4, some (.cells [.pv (.lit (.int .i64 vc)), sS (some vc3.isEmpty) eMember vc3]))] }) rfl rfl rfl rfl trivial rfl ?_)
      refine rvc_nil ?_
      refine Awp.consP C ?_
      refine rvP C (.agg [.pv (.lit (.int .i64 vc)), sS (some vc3.isEmpty) eMember vc3]) ?_
      refine rvP C (.pv (.lit (.int .u64 alive))) ?_
      refine rvP C (.agg [.pv (.lit (.int .i64 (h 0))), .pv (.lit (.int .i64 (h 1))), .pv (.lit (.int .i64 (h 2))), .pv (.lit (.int .i64 (h 3))), .pv (.lit (.int .i64 (h 4))), .pv (.lit (.int .i64 (h 5)))]) ?_
      refine rvP C (.agg [.pv (.lit (.int .i64 (w 0))), .pv (.lit (.int .i64 (w 1))), .pv (.lit (.int .i64 (w 2)))]) ?_
      obtain ⟨rx3, hq_rx3⟩ : ∃ q_, q_ = (rNextP (Chain.mk vc (Sl.mk vc3.isEmpty vc3)) alive h w) := ⟨_, rfl⟩
      have hc_rx3 := (rNextP_calls (Chain.mk vc (Sl.mk vc3.isEmpty vc3)) alive h w (by show vc3.length ≤ 1000000; have := check_r (c := (Chain.mk vc vc1)); have := rCheck_le6 (c := (Chain.mk vc vc1)); have := of_decide_eq_true h26; have := beq_iff_eq.1 h29; have := of_decide_eq_false h32; omega))
      first | rw [← hq_rx3] at hR hc_rx3 | (unfold rAllP at hR; rw [← hq_rx3] at hR hc_rx3) | (unfold rAllP_l0 at hR; rw [← hq_rx3] at hR hc_rx3) | (unfold rAllP_l1 at hR; rw [← hq_rx3] at hR hc_rx3)
      refine rvc_un (rexec_call hP C rfl rfl rfl hc_rx3 ?_)
      refine rvP C (.tup [.agg [.pv (.lit (.int .i64 rx3.1.kind)), .pv (.lit (.int .i64 rx3.1.node)), .pv (.lit (.int .i64 rx3.1.site)), .pv (.lit (.int .i64 rx3.1.epoch))], .pv (.lit (.bool rx3.2.1)), .pv (.lit (.int .i64 rx3.2.2))]) ?_
      refine rvP C (.agg [.pv (.lit (.int .i64 rx3.1.kind)), .pv (.lit (.int .i64 rx3.1.node)), .pv (.lit (.int .i64 rx3.1.site)), .pv (.lit (.int .i64 rx3.1.epoch))]) ?_
      refine rvP C (.pv (.lit (.bool rx3.2.1))) ?_
      refine rvP C (.pv (.lit (.int .i64 rx3.2.2))) ?_
      refine rvc_un (rexec_prim C (δ := { v := .ptr 16 0, new := [(16, .cells [.pv (.lit (.int .i64 0)), .pv (.lit (.int .i64 0)), .pv (.lit (.int .i64 0)), .pv (.lit (.int .i64 0))])] }) rfl rfl rfl rfl trivial rfl ?_)
      refine rvc_un (rexec_prim C (δ := { v := .undef, wr := [(16, some (.cells [.pv (.lit (.int .i64 rx3.1.kind)), .pv (.lit (.int .i64 rx3.1.node)), .pv (.lit (.int .i64 rx3.1.site)), .pv (.lit (.int .i64 rx3.1.epoch))]))] }) rfl rfl rfl rfl trivial rfl ?_)
      refine rvP C (.pv (.lit (.bool rx3.2.1))) ?_
      refine rvP C (.pv (.lit (.int .i64 rx3.2.2))) ?_
      refine rvc_nil ?_
      refine Awp.seq ?_
      refine Awp.consP C ?_
      refine rvP C (.pv (.lit (.int .i64 rx3.2.2))) ?_
      refine rvP C (.pv (.lit (.bool (rx3.2.2 != 0)))) ?_
      refine rvc_nil ?_
      refine Awp.cond (b := (rx3.2.2 != 0)) rfl (fun h36 => ?_) (fun h36 => ?_)
      ·
       replace hR := of_true h36 hR
       refine Awp.consP C ?_
       refine rvP C (.agg [.pv (.lit (.int .i64 0)), sS (some true) eMember []]) ?_
       refine rvP C (.pv (.lit (.int .i64 rx3.2.2))) ?_
       refine rvP C (sS (some true) eCommand []) ?_
       refine rvc_un (rexec_prim C (δ := { v := .undef, wr := [(9, some (.cells [.pv (.lit (.int .i64 0)), sS (some true) eMember []]))] }) rfl rfl rfl rfl trivial rfl ?_)
       refine rvP C (.pv (.lit (.int .i64 rx3.2.2))) ?_
       refine rvc_nil ?_
       refine Awp.ret ?_
       subst hR
       exact ⟨.inl rfl, rfl⟩
      ·
       replace hR := of_false h36 hR
       refine Awp.skip ?_
       refine Awp.seq ?_
       refine Awp.consP C ?_
       refine rvP C (.pv (.lit (.bool rx3.2.1))) ?_
       refine rvP C (.pv (.lit (.bool (!rx3.2.1)))) ?_
       refine rvc_nil ?_
       refine Awp.cond (b := (!rx3.2.1)) rfl (fun h37 => ?_) (fun h37 => ?_)
       ·
        replace hR := of_true h37 hR
        refine Awp.exit ?_
        refine Awp.consP C ?_
        refine rvP C (.sl 900 0 l.length 4 false) ?_
        refine rvP C (.agg [.pv (.lit (.int .i64 vc)), sS (some vc3.isEmpty) eMember vc3]) ?_
        refine rvP C (.sl 900 0 l.length 4 false) ?_
        refine rvc_un (rexec_prim C (δ := { v := .undef, wr := [(9, some (.cells [.pv (.lit (.int .i64 vc)), sS (some vc3.isEmpty) eMember vc3]))] }) rfl rfl rfl rfl trivial rfl ?_)
        refine rvP C (.pv (.lit (.int .i64 0))) ?_
        refine rvc_nil ?_
        refine Awp.freezeW 900 (encL eCommand l) ?_ [(8, sS (some l.isEmpty) eCommand l), (9, .ptr 9 0), (10, .pv (.lit (.int .i64 0)))] [(4, .cells [.pv (.lit (.int .i64 vc)), sS (some vc3.isEmpty) eMember vc3]), (6, .cells [.pv (.lit (.int .i64 (h 0))), .pv (.lit (.int .i64 (h 1))), .pv (.lit (.int .i64 (h 2))), .pv (.lit (.int .i64 (h 3))), .pv (.lit (.int .i64 (h 4))), .pv (.lit (.int .i64 (h 5)))]), (7, .cells [.pv (.lit (.int .i64 (w 0))), .pv (.lit (.int .i64 (w 1))), .pv (.lit (.int .i64 (w 2)))]), (9, .cells [.pv (.lit (.int .i64 vc)), sS (some vc3.isEmpty) eMember vc3]), (12, .cells [.pv (.lit (.bool (sw 0))), .pv (.lit (.bool (sw 1))), .pv (.lit (.bool (sw 2))), .pv (.lit (.bool (sw 3))), .pv (.lit (.bool (sw 4))), .pv (.lit (.bool (sw 5))), .pv (.lit (.bool (sw 6))), .pv (.lit (.bool (sw 7))), .pv (.lit (.bool (sw 8))), .pv (.lit (.bool (sw 9))), .pv (.lit (.bool (sw 10))), .pv (.lit (.bool (sw 11))), .pv (.lit (.bool (sw 12))), .pv (.lit (.bool (sw 13))), .pv (.lit (.bool (sw 14))), .pv (.lit (.bool (sw 15))), .pv (.lit (.bool (sw 16))), .pv (.lit (.bool (sw 17))), .pv (.lit (.bool (sw 18))), .pv (.lit (.bool (sw 19))), .pv (.lit (.bool (sw 20))), .pv (.lit (.bool (sw 21))), .pv (.lit (.bool (sw 22))), .pv (.lit (.bool (sw 23))), .pv (.lit (.bool (sw 24))), .pv (.lit (.bool (sw 25))), .pv (.lit (.bool (sw 26))), .pv (.lit (.bool (sw 27))), .pv (.lit (.bool (sw 28))), .pv (.lit (.bool (sw 29))), .pv (.lit (.bool (sw 30))), .pv (.lit (.bool (sw 31))), .pv (.lit (.bool (sw 32))), .pv (.lit (.bool (sw 33))), .pv (.lit (.bool (sw 34))), .pv (.lit (.bool (sw 35))), .pv (.lit (.bool (sw 36))), .pv (.lit (.bool (sw 37))), .pv (.lit (.bool (sw 38))), .pv (.lit (.bool (sw 39))), .pv (.lit (.bool (sw 40))), .pv (.lit (.bool (sw 41))), .pv (.lit (.bool (sw 42))), .pv (.lit (.bool (sw 43))), .pv (.lit (.bool (sw 44))), .pv (.lit (.bool (sw 45))), .pv (.lit (.bool (sw 46))), .pv (.lit (.bool (sw 47))), .pv (.lit (.bool (sw 48))), .pv (.lit (.bool (sw 49))), .pv (.lit (.bool (sw 50))), .pv (.lit (.bool (sw 51))), .pv (.lit (.bool (sw 52))), .pv (.lit (.bool (sw 53))), .pv (.lit (.bool (sw 54))), .pv (.lit (.bool (sw 55))), .pv (.lit (.bool (sw 56))), .pv (.lit (.bool (sw 57))), .pv (.lit (.bool (sw 58))), .pv (.lit (.bool (sw 59))), .pv (.lit (.bool (sw 60))), .pv (.lit (.bool (sw 61))), .pv (.lit (.bool (sw 62))), .pv (.lit (.bool (sw 63)))]), (13, .cells [.pv (.lit (.int .i64 vc)), sS (some vc3.isEmpty) eMember vc3]), (16, .cells [.pv (.lit (.int .i64 rx3.1.kind)), .pv (.lit (.int .i64 rx3.1.node)), .pv (.lit (.int .i64 rx3.1.site)), .pv (.lit (.int .i64 rx3.1.epoch))])] ?_ ?_ ?_
        · rfl
        · exact ⟨⟨_, rfl, .inl (.inr ⟨_, _, _, rfl, by rw [ne_isEmpty h2]; rfl⟩)⟩, ⟨_, rfl, .inl (.inl rfl)⟩, ⟨_, rfl, .inl (.inl rfl)⟩, trivial⟩
        · exact ⟨⟨(by show (4 : Nat) ≠ 900; decide), .inl rfl⟩, ⟨(by show (6 : Nat) ≠ 900; decide), .inl rfl⟩, ⟨(by show (7 : Nat) ≠ 900; decide), .inl rfl⟩, ⟨(by show (9 : Nat) ≠ 900; decide), .inl rfl⟩, ⟨(by show (12 : Nat) ≠ 900; decide), .inl rfl⟩, ⟨(by show (13 : Nat) ≠ 900; decide), .inl rfl⟩, ⟨(by show (16 : Nat) ≠ 900; decide), .inl rfl⟩, trivial⟩
        refine Awp.ret ?_
        subst hR
        exact ⟨.inl rfl, rfl⟩
       ·
        replace hR := of_false h37 hR
        refine Awp.skip ?_
        refine Awp.consP C ?_
        refine rvP C (.sl 900 0 l.length 4 false) ?_
        refine rvP C (.agg [.pv (.lit (.int .i64 rx3.1.kind)), .pv (.lit (.int .i64 rx3.1.node)), .pv (.lit (.int .i64 rx3.1.site)), .pv (.lit (.int .i64 rx3.1.epoch))]) ?_
        refine rvc_un (rexec_buildSliceF C eCommand [rx3.1] rfl rfl rfl rfl rfl rfl rfl (by decide) rfl ?_)
        refine rvc_un (rexec_append C rfl rfl rfl rfl rfl rfl rfl rfl (fun _ h => by cases h) rfl (en := eCommand) (D0 := l) (D := [rx3.1]) rfl rfl rfl rfl (by have := check_r (c := (Chain.mk vc vc1)); have := rCheck_le6 (c := (Chain.mk vc vc1)); have := of_decide_eq_true h26; have := beq_iff_eq.1 h29; have := of_decide_eq_false h32; have := eq_of_bne_false h36; first | omega | (simp <;> omega)) (by decide) (nn := (l ++ [rx3.1]).length) (by simp) ?_)
        refine rvP C (.sl 72 0 ((l ++ [rx3.1]).length) 4 false) ?_
        refine rvc_nil ?_
        refine Awp.consP C ?_
        refine rvP C (.ptr 16 0) ?_
        refine rvP C (.pv (.lit (.int .i64 rx3.1.kind))) ?_
        refine rvP C (.pv (.lit (.bool (rx3.1.kind == 1)))) ?_
        refine rvc_nil ?_
        refine Awp.cond (b := (rx3.1.kind == 1)) rfl (fun h38 => ?_) (fun h38 => ?_)
        ·
         replace hR := of_true h38 hR
         refine Awp.regionP C ?_
         refine rvP C (.agg [.pv (.lit (.int .i64 vc)), sS (some vc3.isEmpty) eMember vc3]) ?_
         refine rvP C (.ptr 16 1) ?_
         refine rvP C (.pv (.lit (.int .i64 rx3.1.node))) ?_
         obtain ⟨rc3, hq_rc3⟩ : ∃ q_, q_ = (rCut (Chain.mk vc (Sl.mk vc3.isEmpty vc3)) rx3.1.node (-1)) := ⟨_, rfl⟩
         have hc_rc3 := (rCut_calls (Chain.mk vc (Sl.mk vc3.isEmpty vc3)) rx3.1.node (-1) (by show vc3.length ≤ 1000000; have := check_r (c := (Chain.mk vc vc1)); have := rCheck_le6 (c := (Chain.mk vc vc1)); have := of_decide_eq_true h26; have := beq_iff_eq.1 h29; have := of_decide_eq_false h32; have := eq_of_bne_false h36; have := beq_iff_eq.1 h38; omega))
         first | rw [← hq_rc3] at hR hc_rc3 | (unfold rAllP at hR; rw [← hq_rc3] at hR hc_rc3) | (unfold rAllP_l0 at hR; rw [← hq_rc3] at hR hc_rc3) | (unfold rAllP_l1 at hR; rw [← hq_rc3] at hR hc_rc3)
         have hf0_rc3 := rCut_6 (Chain.mk vc (Sl.mk vc3.isEmpty vc3)) rx3.1.node (-1)
         rw [← hq_rc3] at hf0_rc3
         refine rvc_un (rexec_call hP C rfl rfl rfl hc_rc3 ?_)
         refine rvP C (.tup [.agg [.pv (.lit (.int .i64 rc3.1.epoch)), sS (some rc3.1.members.nil) eMember rc3.1.members.D], .pv (.lit (.int .i64 rc3.2))]) ?_
         refine rvP C (.agg [.pv (.lit (.int .i64 rc3.1.epoch)), sS (some rc3.1.members.nil) eMember rc3.1.members.D]) ?_
         refine rvP C (.pv (.lit (.int .i64 rc3.2))) ?_
         refine rvc_un (rexec_prim C (δ := { v := .undef, wr := [(4, some (.cells [.pv (.lit (.int .i64 rc3.1.epoch)), sS (some rc3.1.members.nil) eMember rc3.1.members.D]))] }) rfl rfl rfl rfl trivial rfl ?_)
         refine rvc_nil ?_
         refine Awp.regionP C ?_
         refine rvP C (.pv (.lit (.int .i64 (IntKind.i64.wrap ((i : Int) + 1))))) ?_
         refine rvP C (.pv (.lit (.int .i64 (IntKind.i64.wrap ((i : Int) + 1))))) ?_
         refine rvc_nil ?_
         refine ⟨h27, ((l ++ [rx3.1]), rc3.1.epoch, rc3.1.members), ?_, ?_⟩
         · exact ⟨(by rw [show 100 - (i + 1) = k by omega]; exact hR), (by dsimp only; omega), (by first | omega | (simp <;> omega))⟩
         · exact ⟨fun b => bif b == 900 then 72 else (fun b => b) b, WeakerR.ofL (Ks := [4, 6, 7, 9, 12, 900]) hI ⟨⟨rfl, rfl⟩, ⟨rfl, rfl⟩, ⟨rfl, rfl⟩, ⟨rfl, rfl⟩, ⟨rfl, rfl⟩, ⟨grow_to rfl rfl app_ne rfl rfl, grow_within rfl⟩, ⟨rfl, rfl⟩, ⟨lit_cast (wrap_i64 (by omega) (by omega)), rfl⟩, trivial⟩ (okH_grow (fun _ => rfl) rfl rfl (okH_cons rfl rfl rfl rfl (okH_cons rfl rfl rfl rfl (okH_cons rfl rfl rfl rfl (okH_cons rfl rfl rfl rfl (okH_cons rfl rfl rfl rfl (okH_nil))))))) rfl⟩
        ·
         replace hR := of_false h38 hR
         refine Awp.regionP C ?_
         refine rvP C (.agg [.pv (.lit (.int .i64 vc)), sS (some vc3.isEmpty) eMember vc3]) ?_
         refine rvP C (.ptr 16 1) ?_
         refine rvP C (.pv (.lit (.int .i64 rx3.1.node))) ?_
         refine rvP C (.ptr 16 2) ?_
         refine rvP C (.pv (.lit (.int .i64 rx3.1.site))) ?_
         refine rvP C (.agg [.pv (.lit (.int .i64 rx3.1.node)), .pv (.lit (.int .i64 rx3.1.site)), .pv (.lit (.bool false))]) ?_
         obtain ⟨rj3, hq_rj3⟩ : ∃ q_, q_ = (rJoin (Chain.mk vc (Sl.mk vc3.isEmpty vc3)) (Member.mk rx3.1.node rx3.1.site false)) := ⟨_, rfl⟩
         have hc_rj3 := (rJoin_calls (Chain.mk vc (Sl.mk vc3.isEmpty vc3)) (Member.mk rx3.1.node rx3.1.site false) (by show vc3.length ≤ 1000000; have := check_r (c := (Chain.mk vc vc1)); have := rCheck_le6 (c := (Chain.mk vc vc1)); have := of_decide_eq_true h26; have := beq_iff_eq.1 h29; have := of_decide_eq_false h32; have := eq_of_bne_false h36; have := ne_of_beq_false h38; omega))
         first | rw [← hq_rj3] at hR hc_rj3 | (unfold rAllP at hR; rw [← hq_rj3] at hR hc_rj3) | (unfold rAllP_l0 at hR; rw [← hq_rj3] at hR hc_rj3) | (unfold rAllP_l1 at hR; rw [← hq_rj3] at hR hc_rj3)
         have hf0_rj3 := rJoin_7 (Chain.mk vc (Sl.mk vc3.isEmpty vc3)) (Member.mk rx3.1.node rx3.1.site false)
         rw [← hq_rj3] at hf0_rj3
         refine rvc_un (rexec_call hP C rfl rfl rfl hc_rj3 ?_)
         refine rvP C (.tup [.agg [.pv (.lit (.int .i64 rj3.1.epoch)), sS (some rj3.1.members.nil) eMember rj3.1.members.D], .pv (.lit (.int .i64 rj3.2))]) ?_
         refine rvP C (.agg [.pv (.lit (.int .i64 rj3.1.epoch)), sS (some rj3.1.members.nil) eMember rj3.1.members.D]) ?_
         refine rvP C (.pv (.lit (.int .i64 rj3.2))) ?_
         refine rvc_un (rexec_prim C (δ := { v := .undef, wr := [(4, some (.cells [.pv (.lit (.int .i64 rj3.1.epoch)), sS (some rj3.1.members.nil) eMember rj3.1.members.D]))] }) rfl rfl rfl rfl trivial rfl ?_)
         refine rvc_nil ?_
         refine Awp.regionP C ?_
         refine rvP C (.pv (.lit (.int .i64 (IntKind.i64.wrap ((i : Int) + 1))))) ?_
         refine rvP C (.pv (.lit (.int .i64 (IntKind.i64.wrap ((i : Int) + 1))))) ?_
         refine rvc_nil ?_
         refine ⟨h27, ((l ++ [rx3.1]), rj3.1.epoch, rj3.1.members), ?_, ?_⟩
         · exact ⟨(by rw [show 100 - (i + 1) = k by omega]; exact hR), (by dsimp only; omega), (by first | omega | (simp <;> omega))⟩
         · exact ⟨fun b => bif b == 900 then 72 else (fun b => b) b, WeakerR.ofL (Ks := [4, 6, 7, 9, 12, 900]) hI ⟨⟨rfl, rfl⟩, ⟨rfl, rfl⟩, ⟨rfl, rfl⟩, ⟨rfl, rfl⟩, ⟨rfl, rfl⟩, ⟨grow_to rfl rfl app_ne rfl rfl, grow_within rfl⟩, ⟨rfl, rfl⟩, ⟨lit_cast (wrap_i64 (by omega) (by omega)), rfl⟩, trivial⟩ (okH_grow (fun _ => rfl) rfl rfl (okH_cons rfl rfl rfl rfl (okH_cons rfl rfl rfl rfl (okH_cons rfl rfl rfl rfl (okH_cons rfl rfl rfl rfl (okH_cons rfl rfl rfl rfl (okH_nil))))))) rfl⟩
    ·
     refine Awp.wordsR [(1, .pv (.lit (.int .u64 alive))), (4, .ptr 4 0), (6, .ptr 6 0), (7, .ptr 7 0), (9, .ptr 9 0), (11, .sl 900 0 l.length 4 false), (12, .ptr 12 0), (13, .ptr 13 0), (21, .pv (.lit (.int .i64 (i : Int)))), (30, sS (some vc1.nil) eMember vc1.D), (31, .pv (.lit (.int .i64 (vc1.D.length : Int)))), (32, .pv (.lit (.int .i64 (i2 : Int))))] [(902, .cells (encC eMember vc3)), (900, .cells (encC eCommand l)), (4, .cells [.pv (.lit (.int .i64 vc)), sS (some vc1.nil) eMember vc1.D]), (6, .cells [.pv (.lit (.int .i64 (h 0))), .pv (.lit (.int .i64 (h 1))), .pv (.lit (.int .i64 (h 2))), .pv (.lit (.int .i64 (h 3))), .pv (.lit (.int .i64 (h 4))), .pv (.lit (.int .i64 (h 5)))]), (7, .cells [.pv (.lit (.int .i64 (w 0))), .pv (.lit (.int .i64 (w 1))), .pv (.lit (.int .i64 (w 2)))]), (9, .cells [.pv (.lit (.int .i64 0)), sS (some true) eMember []]), (12, .cells [.pv (.lit (.bool (sw 0))), .pv (.lit (.bool (sw 1))), .pv (.lit (.bool (sw 2))), .pv (.lit (.bool (sw 3))), .pv (.lit (.bool (sw 4))), .pv (.lit (.bool (sw 5))), .pv (.lit (.bool (sw 6))), .pv (.lit (.bool (sw 7))), .pv (.lit (.bool (sw 8))), .pv (.lit (.bool (sw 9))), .pv (.lit (.bool (sw 10))), .pv (.lit (.bool (sw 11))), .pv (.lit (.bool (sw 12))), .pv (.lit (.bool (sw 13))), .pv (.lit (.bool (sw 14))), .pv (.lit (.bool (sw 15))), .pv (.lit (.bool (sw 16))), .pv (.lit (.bool (sw 17))), .pv (.lit (.bool (sw 18))), .pv (.lit (.bool (sw 19))), .pv (.lit (.bool (sw 20))), .pv (.lit (.bool (sw 21))), .pv (.lit (.bool (sw 22))), .pv (.lit (.bool (sw 23))), .pv (.lit (.bool (sw 24))), .pv (.lit (.bool (sw 25))), .pv (.lit (.bool (sw 26))), .pv (.lit (.bool (sw 27))), .pv (.lit (.bool (sw 28))), .pv (.lit (.bool (sw 29))), .pv (.lit (.bool (sw 30))), .pv (.lit (.bool (sw 31))), .pv (.lit (.bool (sw 32))), .pv (.lit (.bool (sw 33))), .pv (.lit (.bool (sw 34))), .pv (.lit (.bool (sw 35))), .pv (.lit (.bool (sw 36))), .pv (.lit (.bool (sw 37))), .pv (.lit (.bool (sw 38))), .pv (.lit (.bool (sw 39))), .pv (.lit (.bool (sw 40))), .pv (.lit (.bool (sw 41))), .pv (.lit (.bool (sw 42))), .pv (.lit (.bool (sw 43))), .pv (.lit (.bool (sw 44))), .pv (.lit (.bool (sw 45))), .pv (.lit (.bool (sw 46))), .pv (.lit (.bool (sw 47))), .pv (.lit (.bool (sw 48))), .pv (.lit (.bool (sw 49))), .pv (.lit (.bool (sw 50))), .pv (.lit (.bool (sw 51))), .pv (.lit (.bool (sw 52))), .pv (.lit (.bool (sw 53))), .pv (.lit (.bool (sw 54))), .pv (.lit (.bool (sw 55))), .pv (.lit (.bool (sw 56))), .pv (.lit (.bool (sw 57))), .pv (.lit (.bool (sw 58))), .pv (.lit (.bool (sw 59))), .pv (.lit (.bool (sw 60))), .pv (.lit (.bool (sw 61))), .pv (.lit (.bool (sw 62))), .pv (.lit (.bool (sw 63)))]), (13, .cells [.pv (.lit (.int .i64 vc)), .sl 902 0 vc3.length 3 false])] [4, 6, 7, 9, 12, 13, 900, 902] (WeakerR.ofL (Ks := [4, 6, 7, 9, 12, 13, 900, 902]) hI ⟨⟨rfl, rfl⟩, ⟨rfl, rfl⟩, ⟨rfl, rfl⟩, ⟨rfl, rfl⟩, ⟨rfl, rfl⟩, ⟨rfl, rfl⟩, ⟨rfl, rfl⟩, ⟨rfl, rfl⟩, ⟨rfl, rfl⟩, ⟨rfl, rfl⟩, ⟨rfl, rfl⟩, ⟨rfl, rfl⟩, trivial⟩ (okH_list (look_cons h31 rfl) rfl rfl (okH_list (look_cons h31 rfl) rfl rfl (okH_cons (look_cons h31 rfl) rfl rfl rfl (okH_cons (look_cons h31 rfl) rfl rfl rfl (okH_cons (look_cons h31 rfl) rfl rfl rfl (okH_cons (look_cons h31 rfl) rfl rfl rfl (okH_cons (look_cons h31 rfl) rfl rfl rfl (okH_cons (cellsTo (look_cons h31 rfl) (by exact ⟨rfl, (by exact grow_at_cons (b := 902) (b' := 902) (e := eMember) (l := vc3) rfl h31 rfl rfl rfl), trivial⟩)) rfl rfl (win_cells (by exact ⟨rfl, rfl, trivial⟩)) (okH_nil))))))))) rfl) ?_
     refine Awp.consP C ?_
     refine rvP C (.pv (.lit (.bool (decide ((i2 : Int) < (vc1.D.length : Int)))))) ?_
     refine rvc_nil ?_
     refine Awp.seq ?_
     refine Awp.cond (b := (decide ((i2 : Int) < (vc1.D.length : Int)))) rfl (fun h39 => ?_) (fun h39 => ?_)
     ·
      have h40 : i2 < vc1.D.length := by have := of_decide_eq_true h39; omega
      obtain ⟨x1, h41⟩ := getX h40
      rw [drop_at h41] at hR
      refine Awp.skip ?_
      refine Awp.seq ?_
      refine Awp.block ?_
      refine Awp.consP C ?_
      refine rvc_un (rexec_idxS C rfl rfl rfl rfl rfl rfl x1 (Int.natCast_nonneg _) h41 ?_)
      refine rvP C (.agg [.pv (.lit (.int .i64 x1.node)), .pv (.lit (.int .i64 x1.site)), .pv (.lit (.bool x1.fresh))]) ?_
      refine rvc_un (rexec_prim C (δ := { v := .ptr 15 0, new := [(15, .cells [.pv (.lit (.int .i64 0)), .pv (.lit (.int .i64 0)), .pv (.lit (.bool false))])] }) rfl rfl rfl rfl trivial rfl ?_)
      refine rvc_un (rexec_prim C (δ := { v := .undef, wr := [(15, some (.cells [.pv (.lit (.int .i64 x1.node)), .pv (.lit (.int .i64 x1.site)), .pv (.lit (.bool x1.fresh))]))] }) rfl rfl rfl rfl trivial rfl ?_)
      refine rvc_nil ?_
      refine Awp.consP C ?_
      refine rvP C (.ptr 15 2) ?_
      refine rvP C (.pv (.lit (.bool x1.fresh))) ?_
      refine rvP C (.pv (.lit (.bool x1.fresh))) ?_
      refine rvc_case 38 x1.fresh rfl (fun h42 => ?_) (fun h42 => ?_)
      ·
       replace hR := of_true h42 hR
       refine rvO C (.ptr 15 0) ?_
       refine rvO C (.pv (.lit (.int .i64 x1.node))) ?_
       refine rvc_open rfl rfl rfl (rexec_prim C (δ := { v := .ptr 12 (0 + x1.node.toNat * 1) }) rfl rfl rfl rfl ⟨(by have h0_ := mem_ok ((check_eq _).trans (beq_iff_eq.1 ‹(rCheck _ == 0) = true›)) (List.mem_of_getElem? (by assumption)); omega), (by have h0_ := mem_ok ((check_eq _).trans (beq_iff_eq.1 ‹(rCheck _ == 0) = true›)) (List.mem_of_getElem? (by assumption)); omega)⟩ rfl ?_)
       refine rvc_open rfl rfl rfl (rexec_loadA C [] [] (fun j => .pv (.lit (.bool (sw j)))) 64 x1.node.toNat (.pv (.lit (.bool (sw x1.node.toNat)))) rfl rfl rfl rfl rfl rfl rfl (by have h0_ := mem_ok ((check_eq _).trans (beq_iff_eq.1 ‹(rCheck _ == 0) = true›)) (List.mem_of_getElem? (by assumption)); omega) rfl ?_)
       refine rvO C (.pv (.lit (.bool (!(sw x1.node.toNat))))) ?_
       refine rvP C (.pv (.lit (.bool (!(sw x1.node.toNat))))) ?_
       refine rvP C (.ptr 15 2) ?_
       refine rvc_un (rexec_prim C (δ := { v := .undef, wr := [(15, some (.cells [.pv (.lit (.int .i64 x1.node)), .pv (.lit (.int .i64 x1.site)), .pv (.lit (.bool (!(sw x1.node.toNat))))]))] }) rfl rfl rfl rfl trivial rfl ?_)
       refine rvc_nil ?_
       refine Awp.regionP C ?_
       refine rvP C (.ptr 13 1) ?_
       refine rvP C (.sl 902 0 vc3.length 3 false) ?_
       refine rvP C (.agg [.pv (.lit (.int .i64 x1.node)), .pv (.lit (.int .i64 x1.site)), .pv (.lit (.bool (!(sw x1.node.toNat))))]) ?_
       refine rvc_un (rexec_buildSliceF C eMember [(Member.mk x1.node x1.site (!(sw x1.node.toNat)))] rfl rfl rfl rfl rfl rfl rfl (by decide) rfl ?_)
       refine rvc_un (rexec_append C rfl rfl rfl rfl rfl rfl rfl rfl (fun _ h => by cases h) rfl (en := eMember) (D0 := vc3) (D := [(Member.mk x1.node x1.site (!(sw x1.node.toNat)))]) rfl rfl rfl rfl (by have := check_r (c := (Chain.mk vc vc1)); have := rCheck_le6 (c := (Chain.mk vc vc1)); have := of_decide_eq_true h26; have := beq_iff_eq.1 h29; have := of_decide_eq_true h39; first | omega | (simp <;> omega)) (by decide) (nn := (vc3 ++ [(Member.mk x1.node x1.site (!(sw x1.node.toNat)))]).length) (by simp) ?_)
       refine rvP C (.ptr 13 1) ?_
       refine rvc_un (rexec_prim C (δ := { v := .undef, wr := [(13, some (.cells [.pv (.lit (.int .i64 vc)), .sl 50 0 ((vc3 ++ [(Member.mk x1.node x1.site (!(sw x1.node.toNat)))]).length) 3 false]))] }) rfl rfl rfl rfl trivial rfl ?_)
       refine rvc_nil ?_
       refine Awp.regionP C ?_
       refine rvP C (.pv (.lit (.int .i64 (IntKind.i64.wrap ((i2 : Int) + 1))))) ?_
       refine rvP C (.pv (.lit (.int .i64 (IntKind.i64.wrap ((i2 : Int) + 1))))) ?_
       refine rvc_nil ?_
       refine ⟨h40, (vc3 ++ [(Member.mk x1.node x1.site (!(sw x1.node.toNat)))]), ?_, ?_⟩
       · exact ⟨hR, (by first | omega | (simp <;> omega))⟩
       · exact ⟨fun b => bif b == 902 then 50 else (fun b => b) b, WeakerR.ofL (Ks := [4, 6, 7, 9, 12, 13, 900, 902]) hI ⟨⟨rfl, rfl⟩, ⟨rfl, rfl⟩, ⟨rfl, rfl⟩, ⟨rfl, rfl⟩, ⟨rfl, rfl⟩, ⟨rfl, rfl⟩, ⟨rfl, rfl⟩, ⟨rfl, rfl⟩, ⟨rfl, rfl⟩, ⟨rfl, rfl⟩, ⟨rfl, rfl⟩, ⟨lit_cast (wrap_i64 (by omega) (by omega)), rfl⟩, trivial⟩ (okH_grow (fun _ => rfl) rfl rfl (okH_list rfl rfl rfl (okH_cons rfl rfl rfl rfl (okH_cons rfl rfl rfl rfl (okH_cons rfl rfl rfl rfl (okH_cons rfl rfl rfl rfl (okH_cons rfl rfl rfl rfl (okH_cons (cellsTo rfl (by exact ⟨rfl, grow_to rfl rfl app_ne rfl rfl, trivial⟩)) rfl rfl (win_cells (by exact ⟨rfl, grow_within rfl, trivial⟩)) (okH_nil))))))))) rfl⟩
      ·
       replace hR := of_false h42 hR
       refine rvS ?_
       refine rvS ?_
       refine rvS ?_
       refine rvS ?_
       refine rvS ?_
       refine rvP C (.pv (.lit (.bool false))) ?_
       refine rvP C (.ptr 15 2) ?_
       refine rvc_un (rexec_prim C (δ := { v := .undef, wr := [(15, some (.cells [.pv (.lit (.int .i64 x1.node)), .pv (.lit (.int .i64 x1.site)), .pv (.lit (.bool false))]))] }) rfl rfl rfl rfl trivial rfl ?_)
       refine rvc_nil ?_
       refine Awp.regionP C ?_
       refine rvP C (.ptr 13 1) ?_
       refine rvP C (.sl 902 0 vc3.length 3 false) ?_
       refine rvP C (.agg [.pv (.lit (.int .i64 x1.node)), .pv (.lit (.int .i64 x1.site)), .pv (.lit (.bool false))]) ?_
       refine rvc_un (rexec_buildSliceF C eMember [(Member.mk x1.node x1.site false)] rfl rfl rfl rfl rfl rfl rfl (by decide) rfl ?_)
       refine rvc_un (rexec_append C rfl rfl rfl rfl rfl rfl rfl rfl (fun _ h => by cases h) rfl (en := eMember) (D0 := vc3) (D := [(Member.mk x1.node x1.site false)]) rfl rfl rfl rfl (by have := check_r (c := (Chain.mk vc vc1)); have := rCheck_le6 (c := (Chain.mk vc vc1)); have := of_decide_eq_true h26; have := beq_iff_eq.1 h29; have := of_decide_eq_true h39; first | omega | (simp <;> omega)) (by decide) (nn := (vc3 ++ [(Member.mk x1.node x1.site false)]).length) (by simp) ?_)
       refine rvP C (.ptr 13 1) ?_
       refine rvc_un (rexec_prim C (δ := { v := .undef, wr := [(13, some (.cells [.pv (.lit (.int .i64 vc)), .sl 50 0 ((vc3 ++ [(Member.mk x1.node x1.site false)]).length) 3 false]))] }) rfl rfl rfl rfl trivial rfl ?_)
       refine rvc_nil ?_
       refine Awp.regionP C ?_
       refine rvP C (.pv (.lit (.int .i64 (IntKind.i64.wrap ((i2 : Int) + 1))))) ?_
       refine rvP C (.pv (.lit (.int .i64 (IntKind.i64.wrap ((i2 : Int) + 1))))) ?_
       refine rvc_nil ?_
       refine ⟨h40, (vc3 ++ [(Member.mk x1.node x1.site false)]), ?_, ?_⟩
       · exact ⟨hR, (by first | omega | (simp <;> omega))⟩
       · exact ⟨fun b => bif b == 902 then 50 else (fun b => b) b, WeakerR.ofL (Ks := [4, 6, 7, 9, 12, 13, 900, 902]) hI ⟨⟨rfl, rfl⟩, ⟨rfl, rfl⟩, ⟨rfl, rfl⟩, ⟨rfl, rfl⟩, ⟨rfl, rfl⟩, ⟨rfl, rfl⟩, ⟨rfl, rfl⟩, ⟨rfl, rfl⟩, ⟨rfl, rfl⟩, ⟨rfl, rfl⟩, ⟨rfl, rfl⟩, ⟨lit_cast (wrap_i64 (by omega) (by omega)), rfl⟩, trivial⟩ (okH_grow (fun _ => rfl) rfl rfl (okH_list rfl rfl rfl (okH_cons rfl rfl rfl rfl (okH_cons rfl rfl rfl rfl (okH_cons rfl rfl rfl rfl (okH_cons rfl rfl rfl rfl (okH_cons rfl rfl rfl rfl (okH_cons (cellsTo rfl (by exact ⟨rfl, grow_to rfl rfl app_ne rfl rfl, trivial⟩)) rfl rfl (win_cells (by exact ⟨rfl, grow_within rfl, trivial⟩)) (okH_nil))))))))) rfl⟩
     ·
      have h40 : ¬ i2 < vc1.D.length := by have := of_decide_eq_false h39; omega
      rw [drop_end h40] at hR
      refine Awp.exit ?_
      refine Awp.regionP C ?_
      refine rvP C (.agg [.pv (.lit (.int .i64 vc)), .sl 902 0 vc3.length 3 false]) ?_
      refine rvc_un (rexec_prim C (δ := { v := .undef, wr := [(4, some (.cells [.pv (.lit (.int .i64 vc)), .sl 902 0 vc3.length 3 false]))] }) rfl rfl rfl rfl trivial rfl ?_)
      refine rvc_nil ?_
      refine Awp.freezeW 902 (encL eMember vc3) ?_ [(1, .pv (.lit (.int .u64 alive))), (4, .ptr 4 0), (6, .ptr 6 0), (7, .ptr 7 0), (9, .ptr 9 0), (11, .sl 900 0 l.length 4 false), (12, .ptr 12 0), (21, .pv (.lit (.int .i64 (i : Int))))] [(900, .cells (encC eCommand l)), (4, .cells [.pv (.lit (.int .i64 vc)), sS (some vc3.isEmpty) eMember vc3]), (6, .cells [.pv (.lit (.int .i64 (h 0))), .pv (.lit (.int .i64 (h 1))), .pv (.lit (.int .i64 (h 2))), .pv (.lit (.int .i64 (h 3))), .pv (.lit (.int .i64 (h 4))), .pv (.lit (.int .i64 (h 5)))]), (7, .cells [.pv (.lit (.int .i64 (w 0))), .pv (.lit (.int .i64 (w 1))), .pv (.lit (.int .i64 (w 2)))]), (9, .cells [.pv (.lit (.int .i64 0)), sS (some true) eMember []]), (12, .cells [.pv (.lit (.bool (sw 0))), .pv (.lit (.bool (sw 1))), .pv (.lit (.bool (sw 2))), .pv (.lit (.bool (sw 3))), .pv (.lit (.bool (sw 4))), .pv (.lit (.bool (sw 5))), .pv (.lit (.bool (sw 6))), .pv (.lit (.bool (sw 7))), .pv (.lit (.bool (sw 8))), .pv (.lit (.bool (sw 9))), .pv (.lit (.bool (sw 10))), .pv (.lit (.bool (sw 11))), .pv (.lit (.bool (sw 12))), .pv (.lit (.bool (sw 13))), .pv (.lit (.bool (sw 14))), .pv (.lit (.bool (sw 15))), .pv (.lit (.bool (sw 16))), .pv (.lit (.bool (sw 17))), .pv (.lit (.bool (sw 18))), .pv (.lit (.bool (sw 19))), .pv (.lit (.bool (sw 20))), .pv (.lit (.bool (sw 21))), .pv (.lit (.bool (sw 22))), .pv (.lit (.bool (sw 23))), .pv (.lit (.bool (sw 24))), .pv (.lit (.bool (sw 25))), .pv (.lit (.bool (sw 26))), .pv (.lit (.bool (sw 27))), .pv (.lit (.bool (sw 28))), .pv (.lit (.bool (sw 29))), .pv (.lit (.bool (sw 30))), .pv (.lit (.bool (sw 31))), .pv (.lit (.bool (sw 32))), .pv (.lit (.bool (sw 33))), .pv (.lit (.bool (sw 34))), .pv (.lit (.bool (sw 35))), .pv (.lit (.bool (sw 36))), .pv (.lit (.bool (sw 37))), .pv (.lit (.bool (sw 38))), .pv (.lit (.bool (sw 39))), .pv (.lit (.bool (sw 40))), .pv (.lit (.bool (sw 41))), .pv (.lit (.bool (sw 42))), .pv (.lit (.bool (sw 43))), .pv (.lit (.bool (sw 44))), .pv (.lit (.bool (sw 45))), .pv (.lit (.bool (sw 46))), .pv (.lit (.bool (sw 47))), .pv (.lit (.bool (sw 48))), .pv (.lit (.bool (sw 49))), .pv (.lit (.bool (sw 50))), .pv (.lit (.bool (sw 51))), .pv (.lit (.bool (sw 52))), .pv (.lit (.bool (sw 53))), .pv (.lit (.bool (sw 54))), .pv (.lit (.bool (sw 55))), .pv (.lit (.bool (sw 56))), .pv (.lit (.bool (sw 57))), .pv (.lit (.bool (sw 58))), .pv (.lit (.bool (sw 59))), .pv (.lit (.bool (sw 60))), .pv (.lit (.bool (sw 61))), .pv (.lit (.bool (sw 62))), .pv (.lit (.bool (sw 63)))]), (13, .cells [.pv (.lit (.int .i64 vc)), sS (some vc3.isEmpty) eMember vc3])] ?_ ?_ ?_
      · rfl
      · exact ⟨⟨_, rfl, .inl (.inl rfl)⟩, ⟨_, rfl, .inl (.inl rfl)⟩, ⟨_, rfl, .inl (.inl rfl)⟩, ⟨_, rfl, .inl (.inl rfl)⟩, ⟨_, rfl, .inl (.inl rfl)⟩, ⟨_, rfl, .inl (.inl rfl)⟩, ⟨_, rfl, .inl (.inl rfl)⟩, ⟨_, rfl, .inl (.inl rfl)⟩, trivial⟩
      · exact ⟨⟨(by show (900 : Nat) ≠ 902; decide), .inl rfl⟩, ⟨(by show (4 : Nat) ≠ 902; decide), .inr ⟨_, _, rfl, rfl, ⟨.inl rfl, .inr ⟨_, _, _, rfl, by rw [ne_isEmpty h31]; rfl⟩, trivial⟩⟩⟩, ⟨(by show (6 : Nat) ≠ 902; decide), .inl rfl⟩, ⟨(by show (7 : Nat) ≠ 902; decide), .inl rfl⟩, ⟨(by show (9 : Nat) ≠ 902; decide), .inl rfl⟩, ⟨(by show (12 : Nat) ≠ 902; decide), .inl rfl⟩, ⟨(by show (13 : Nat) ≠ 902; decide), .inr ⟨_, _, rfl, rfl, ⟨.inl rfl, .inr ⟨_, _, _, rfl, by rw [ne_isEmpty h31]; rfl⟩, trivial⟩⟩⟩, trivial⟩
      refine Awp.consP C ?_
      refine rvP C (.agg [.pv (.lit (.int .i64 vc)), sS (some vc3.isEmpty) eMember vc3]) ?_
      refine rvP C (.pv (.lit (.int .u64 alive))) ?_
      refine rvP C (.agg [.pv (.lit (.int .i64 (h 0))), .pv (.lit (.int .i64 (h 1))), .pv (.lit (.int .i64 (h 2))), .pv (.lit (.int .i64 (h 3))), .pv (.lit (.int .i64 (h 4))), .pv (.lit (.int .i64 (h 5)))]) ?_
      refine rvP C (.agg [.pv (.lit (.int .i64 (w 0))), .pv (.lit (.int .i64 (w 1))), .pv (.lit (.int .i64 (w 2)))]) ?_
      obtain ⟨rx4, hq_rx4⟩ : ∃ q_, q_ = (rNextP (Chain.mk vc (Sl.mk vc3.isEmpty vc3)) alive h w) := ⟨_, rfl⟩
      have hc_rx4 := (rNextP_calls (Chain.mk vc (Sl.mk vc3.isEmpty vc3)) alive h w (by show vc3.length ≤ 1000000; have := check_r (c := (Chain.mk vc vc1)); have := rCheck_le6 (c := (Chain.mk vc vc1)); have := of_decide_eq_true h26; have := beq_iff_eq.1 h29; have := of_decide_eq_false h39; omega))
      first | rw [← hq_rx4] at hR hc_rx4 | (unfold rAllP at hR; rw [← hq_rx4] at hR hc_rx4) | (unfold rAllP_l0 at hR; rw [← hq_rx4] at hR hc_rx4) | (unfold rAllP_l1 at hR; rw [← hq_rx4] at hR hc_rx4)
      refine rvc_un (rexec_call hP C rfl rfl rfl hc_rx4 ?_)
      refine rvP C (.tup [.agg [.pv (.lit (.int .i64 rx4.1.kind)), .pv (.lit (.int .i64 rx4.1.node)), .pv (.lit (.int .i64 rx4.1.site)), .pv (.lit (.int .i64 rx4.1.epoch))], .pv (.lit (.bool rx4.2.1)), .pv (.lit (.int .i64 rx4.2.2))]) ?_
      refine rvP C (.agg [.pv (.lit (.int .i64 rx4.1.kind)), .pv (.lit (.int .i64 rx4.1.node)), .pv (.lit (.int .i64 rx4.1.site)), .pv (.lit (.int .i64 rx4.1.epoch))]) ?_
      refine rvP C (.pv (.lit (.bool rx4.2.1))) ?_
      refine rvP C (.pv (.lit (.int .i64 rx4.2.2))) ?_
      refine rvc_un (rexec_prim C (δ := { v := .ptr 16 0, new := [(16, .cells [.pv (.lit (.int .i64 0)), .pv (.lit (.int .i64 0)), .pv (.lit (.int .i64 0)), .pv (.lit (.int .i64 0))])] }) rfl rfl rfl rfl trivial rfl ?_)
      refine rvc_un (rexec_prim C (δ := { v := .undef, wr := [(16, some (.cells [.pv (.lit (.int .i64 rx4.1.kind)), .pv (.lit (.int .i64 rx4.1.node)), .pv (.lit (.int .i64 rx4.1.site)), .pv (.lit (.int .i64 rx4.1.epoch))]))] }) rfl rfl rfl rfl trivial rfl ?_)
      refine rvP C (.pv (.lit (.bool rx4.2.1))) ?_
      refine rvP C (.pv (.lit (.int .i64 rx4.2.2))) ?_
      refine rvc_nil ?_
      refine Awp.seq ?_
      refine Awp.consP C ?_
      refine rvP C (.pv (.lit (.int .i64 rx4.2.2))) ?_
      refine rvP C (.pv (.lit (.bool (rx4.2.2 != 0)))) ?_
      refine rvc_nil ?_
      refine Awp.cond (b := (rx4.2.2 != 0)) rfl (fun h43 => ?_) (fun h43 => ?_)
      ·
       replace hR := of_true h43 hR
       refine Awp.consP C ?_
       refine rvP C (.agg [.pv (.lit (.int .i64 0)), sS (some true) eMember []]) ?_
       refine rvP C (.pv (.lit (.int .i64 rx4.2.2))) ?_
       refine rvP C (sS (some true) eCommand []) ?_
       refine rvc_un (rexec_prim C (δ := { v := .undef, wr := [(9, some (.cells [.pv (.lit (.int .i64 0)), sS (some true) eMember []]))] }) rfl rfl rfl rfl trivial rfl ?_)
       refine rvP C (.pv (.lit (.int .i64 rx4.2.2))) ?_
       refine rvc_nil ?_
       refine Awp.ret ?_
       subst hR
       exact ⟨.inl rfl, rfl⟩
      ·
       replace hR := of_false h43 hR
       refine Awp.skip ?_
       refine Awp.seq ?_
       refine Awp.consP C ?_
       refine rvP C (.pv (.lit (.bool rx4.2.1))) ?_
       refine rvP C (.pv (.lit (.bool (!rx4.2.1)))) ?_
       refine rvc_nil ?_
       refine Awp.cond (b := (!rx4.2.1)) rfl (fun h44 => ?_) (fun h44 => ?_)
       ·
        replace hR := of_true h44 hR
        refine Awp.exit ?_
        refine Awp.consP C ?_
        refine rvP C (.sl 900 0 l.length 4 false) ?_
        refine rvP C (.agg [.pv (.lit (.int .i64 vc)), sS (some vc3.isEmpty) eMember vc3]) ?_
        refine rvP C (.sl 900 0 l.length 4 false) ?_
        refine rvc_un (rexec_prim C (δ := { v := .undef, wr := [(9, some (.cells [.pv (.lit (.int .i64 vc)), sS (some vc3.isEmpty) eMember vc3]))] }) rfl rfl rfl rfl trivial rfl ?_)
        refine rvP C (.pv (.lit (.int .i64 0))) ?_
        refine rvc_nil ?_
        refine Awp.freezeW 900 (encL eCommand l) ?_ [(8, sS (some l.isEmpty) eCommand l), (9, .ptr 9 0), (10, .pv (.lit (.int .i64 0)))] [(4, .cells [.pv (.lit (.int .i64 vc)), sS (some vc3.isEmpty) eMember vc3]), (6, .cells [.pv (.lit (.int .i64 (h 0))), .pv (.lit (.int .i64 (h 1))), .pv (.lit (.int .i64 (h 2))), .pv (.lit (.int .i64 (h 3))), .pv (.lit (.int .i64 (h 4))), .pv (.lit (.int .i64 (h 5)))]), (7, .cells [.pv (.lit (.int .i64 (w 0))), .pv (.lit (.int .i64 (w 1))), .pv (.lit (.int .i64 (w 2)))]), (9, .cells [.pv (.lit (.int .i64 vc)), sS (some vc3.isEmpty) eMember vc3]), (12, .cells [.pv (.lit (.bool (sw 0))), .pv (.lit (.bool (sw 1))), .pv (.lit (.bool (sw 2))), .pv (.lit (.bool (sw 3))), .pv (.lit (.bool (sw 4))), .pv (.lit (.bool (sw 5))), .pv (.lit (.bool (sw 6))), .pv (.lit (.bool (sw 7))), .pv (.lit (.bool (sw 8))), .pv (.lit (.bool (sw 9))), .pv (.lit (.bool (sw 10))), .pv (.lit (.bool (sw 11))), .pv (.lit (.bool (sw 12))), .pv (.lit (.bool (sw 13))), .pv (.lit (.bool (sw 14))), .pv (.lit (.bool (sw 15))), .pv (.lit (.bool (sw 16))), .pv (.lit (.bool (sw 17))), .pv (.lit (.bool (sw 18))), .pv (.lit (.bool (sw 19))), .pv (.lit (.bool (sw 20))), .pv (.lit (.bool (sw 21))), .pv (.lit (.bool (sw 22))), .pv (.lit (.bool (sw 23))), .pv (.lit (.bool (sw 24))), .pv (.lit (.bool (sw 25))), .pv (.lit (.bool (sw 26))), .pv (.lit (.bool (sw 27))), .pv (.lit (.bool (sw 28))), .pv (.lit (.bool (sw 29))), .pv (.lit (.bool (sw 30))), .pv (.lit (.bool (sw 31))), .pv (.lit (.bool (sw 32))), .pv (.lit (.bool (sw 33))), .pv (.lit (.bool (sw 34))), .pv (.lit (.bool (sw 35))), .pv (.lit (.bool (sw 36))), .pv (.lit (.bool (sw 37))), .pv (.lit (.bool (sw 38))), .pv (.lit (.bool (sw 39))), .pv (.lit (.bool (sw 40))), .pv (.lit (.bool (sw 41))), .pv (.lit (.bool (sw 42))), .pv (.lit (.bool (sw 43))), .pv (.lit (.bool (sw 44))), .pv (.lit (.bool (sw 45))), .pv (.lit (.bool (sw 46))), .pv (.lit (.bool (sw 47))), .pv (.lit (.bool (sw 48))), .pv (.lit (.bool (sw 49))), .pv (.lit (.bool (sw 50))), .pv (.lit (.bool (sw 51))), .pv (.lit (.bool (sw 52))), .pv (.lit (.bool (sw 53))), .pv (.lit (.bool (sw 54))), .pv (.lit (.bool (sw 55))), .pv (.lit (.bool (sw 56))), .pv (.lit (.bool (sw 57))), .pv (.lit (.bool (sw 58))), .pv (.lit (.bool (sw 59))), .pv (.lit (.bool (sw 60))), .pv (.lit (.bool (sw 61))), .pv (.lit (.bool (sw 62))), .pv (.lit (.bool (sw 63)))]), (13, .cells [.pv (.lit (.int .i64 vc)), sS (some vc3.isEmpty) eMember vc3]), (16, .cells [.pv (.lit (.int .i64 rx4.1.kind)), .pv (.lit (.int .i64 rx4.1.node)), .pv (.lit (.int .i64 rx4.1.site)), .pv (.lit (.int .i64 rx4.1.epoch))])] ?_ ?_ ?_
        · rfl
        · exact ⟨⟨_, rfl, .inl (.inr ⟨_, _, _, rfl, by rw [ne_isEmpty h2]; rfl⟩)⟩, ⟨_, rfl, .inl (.inl rfl)⟩, ⟨_, rfl, .inl (.inl rfl)⟩, trivial⟩
        · exact ⟨⟨(by show (4 : Nat) ≠ 900; decide), .inl rfl⟩, ⟨(by show (6 : Nat) ≠ 900; decide), .inl rfl⟩, ⟨(by show (7 : Nat) ≠ 900; decide), .inl rfl⟩, ⟨(by show (9 : Nat) ≠ 900; decide), .inl rfl⟩, ⟨(by show (12 : Nat) ≠ 900; decide), .inl rfl⟩, ⟨(by show (13 : Nat) ≠ 900; decide), .inl rfl⟩, ⟨(by show (16 : Nat) ≠ 900; decide), .inl rfl⟩, trivial⟩
        refine Awp.ret ?_
        subst hR
        exact ⟨.inl rfl, rfl⟩
       ·
        replace hR := of_false h44 hR
        refine Awp.skip ?_
        refine Awp.consP C ?_
        refine rvP C (.sl 900 0 l.length 4 false) ?_
        refine rvP C (.agg [.pv (.lit (.int .i64 rx4.1.kind)), .pv (.lit (.int .i64 rx4.1.node)), .pv (.lit (.int .i64 rx4.1.site)), .pv (.lit (.int .i64 rx4.1.epoch))]) ?_
        refine rvc_un (rexec_buildSliceF C eCommand [rx4.1] rfl rfl rfl rfl rfl rfl rfl (by decide) rfl ?_)
        refine rvc_un (rexec_append C rfl rfl rfl rfl rfl rfl rfl rfl (fun _ h => by cases h) rfl (en := eCommand) (D0 := l) (D := [rx4.1]) rfl rfl rfl rfl (by have := check_r (c := (Chain.mk vc vc1)); have := rCheck_le6 (c := (Chain.mk vc vc1)); have := of_decide_eq_true h26; have := beq_iff_eq.1 h29; have := of_decide_eq_false h39; have := eq_of_bne_false h43; first | omega | (simp <;> omega)) (by decide) (nn := (l ++ [rx4.1]).length) (by simp) ?_)
        refine rvP C (.sl 72 0 ((l ++ [rx4.1]).length) 4 false) ?_
        refine rvc_nil ?_
        refine Awp.consP C ?_
        refine rvP C (.ptr 16 0) ?_
        refine rvP C (.pv (.lit (.int .i64 rx4.1.kind))) ?_
        refine rvP C (.pv (.lit (.bool (rx4.1.kind == 1)))) ?_
        refine rvc_nil ?_
        refine Awp.cond (b := (rx4.1.kind == 1)) rfl (fun h45 => ?_) (fun h45 => ?_)
        ·
         replace hR := of_true h45 hR
         refine Awp.regionP C ?_
         refine rvP C (.agg [.pv (.lit (.int .i64 vc)), sS (some vc3.isEmpty) eMember vc3]) ?_
         refine rvP C (.ptr 16 1) ?_
         refine rvP C (.pv (.lit (.int .i64 rx4.1.node))) ?_
         obtain ⟨rc4, hq_rc4⟩ : ∃ q_, q_ = (rCut (Chain.mk vc (Sl.mk vc3.isEmpty vc3)) rx4.1.node (-1)) := ⟨_, rfl⟩
         have hc_rc4 := (rCut_calls (Chain.mk vc (Sl.mk vc3.isEmpty vc3)) rx4.1.node (-1) (by show vc3.length ≤ 1000000; have := check_r (c := (Chain.mk vc vc1)); have := rCheck_le6 (c := (Chain.mk vc vc1)); have := of_decide_eq_true h26; have := beq_iff_eq.1 h29; have := of_decide_eq_false h39; have := eq_of_bne_false h43; have := beq_iff_eq.1 h45; omega))
         first | rw [← hq_rc4] at hR hc_rc4 | (unfold rAllP at hR; rw [← hq_rc4] at hR hc_rc4) | (unfold rAllP_l0 at hR; rw [← hq_rc4] at hR hc_rc4) | (unfold rAllP_l1 at hR; rw [← hq_rc4] at hR hc_rc4)
         have hf0_rc4 := rCut_6 (Chain.mk vc (Sl.mk vc3.isEmpty vc3)) rx4.1.node (-1)
         rw [← hq_rc4] at hf0_rc4
         refine rvc_un (rexec_call hP C rfl rfl rfl hc_rc4 ?_)
         refine rvP C (.tup [.agg [.pv (.lit (.int .i64 rc4.1.epoch)), sS (some rc4.1.members.nil) eMember rc4.1.members.D], .pv (.lit (.int .i64 rc4.2))]) ?_
         refine rvP C (.agg [.pv (.lit (.int .i64 rc4.1.epoch)), sS (some rc4.1.members.nil) eMember rc4.1.members.D]) ?_
         refine rvP C (.pv (.lit (.int .i64 rc4.2))) ?_
         refine rvc_un (rexec_prim C (δ := { v := .undef, wr := [(4, some (.cells [.pv (.lit (.int .i64 rc4.1.epoch)), sS (some rc4.1.members.nil) eMember rc4.1.members.D]))] }) rfl rfl rfl rfl trivial rfl ?_)
         refine rvc_nil ?_
         refine Awp.regionP C ?_
         refine rvP C (.pv (.lit (.int .i64 (IntKind.i64.wrap ((i : Int) + 1))))) ?_
         refine rvP C (.pv (.lit (.int .i64 (IntKind.i64.wrap ((i : Int) + 1))))) ?_
         refine rvc_nil ?_
         refine ⟨h27, ((l ++ [rx4.1]), rc4.1.epoch, rc4.1.members), ?_, ?_⟩
         · exact ⟨(by rw [show 100 - (i + 1) = k by omega]; exact hR), (by dsimp only; omega), (by first | omega | (simp <;> omega))⟩
         · exact ⟨fun b => bif b == 900 then 72 else (fun b => b) b, WeakerR.ofL (Ks := [4, 6, 7, 9, 12, 900]) hI ⟨⟨rfl, rfl⟩, ⟨rfl, rfl⟩, ⟨rfl, rfl⟩, ⟨rfl, rfl⟩, ⟨rfl, rfl⟩, ⟨grow_to rfl rfl app_ne rfl rfl, grow_within rfl⟩, ⟨rfl, rfl⟩, ⟨lit_cast (wrap_i64 (by omega) (by omega)), rfl⟩, trivial⟩ (okH_grow (fun _ => rfl) rfl rfl (okH_cons rfl rfl rfl rfl (okH_cons rfl rfl rfl rfl (okH_cons rfl rfl rfl rfl (okH_cons rfl rfl rfl rfl (okH_cons rfl rfl rfl rfl (okH_nil))))))) rfl⟩
        ·
         replace hR := of_false h45 hR
         refine Awp.regionP C ?_
         refine rvP C (.agg [.pv (.lit (.int .i64 vc)), sS (some vc3.isEmpty) eMember vc3]) ?_
         refine rvP C (.ptr 16 1) ?_
         refine rvP C (.pv (.lit (.int .i64 rx4.1.node))) ?_
         refine rvP C (.ptr 16 2) ?_
         refine rvP C (.pv (.lit (.int .i64 rx4.1.site))) ?_
         refine rvP C (.agg [.pv (.lit (.int .i64 rx4.1.node)), .pv (.lit (.int .i64 rx4.1.site)), .pv (.lit (.bool false))]) ?_
         obtain ⟨rj4, hq_rj4⟩ : ∃ q_, q_ = (rJoin (Chain.mk vc (Sl.mk vc3.isEmpty vc3)) (Member.mk rx4.1.node rx4.1.site false)) := ⟨_, rfl⟩
         have hc_rj4 := (rJoin_calls (Chain.mk vc (Sl.mk vc3.isEmpty vc3)) (Member.mk rx4.1.node rx4.1.site false) (by show vc3.length ≤ 1000000; have := check_r (c := (Chain.mk vc vc1)); have := rCheck_le6 (c := (Chain.mk vc vc1)); have := of_decide_eq_true h26; have := beq_iff_eq.1 h29; have := of_decide_eq_false h39; have := eq_of_bne_false h43; have := ne_of_beq_false h45; omega))
         first | rw [← hq_rj4] at hR hc_rj4 | (unfold rAllP at hR; rw [← hq_rj4] at hR hc_rj4) | (unfold rAllP_l0 at hR; rw [← hq_rj4] at hR hc_rj4) | (unfold rAllP_l1 at hR; rw [← hq_rj4] at hR hc_rj4)
         have hf0_rj4 := rJoin_7 (Chain.mk vc (Sl.mk vc3.isEmpty vc3)) (Member.mk rx4.1.node rx4.1.site false)
         rw [← hq_rj4] at hf0_rj4
         refine rvc_un (rexec_call hP C rfl rfl rfl hc_rj4 ?_)
         refine rvP C (.tup [.agg [.pv (.lit (.int .i64 rj4.1.epoch)), sS (some rj4.1.members.nil) eMember rj4.1.members.D], .pv (.lit (.int .i64 rj4.2))]) ?_
         refine rvP C (.agg [.pv (.lit (.int .i64 rj4.1.epoch)), sS (some rj4.1.members.nil) eMember rj4.1.members.D]) ?_
         refine rvP C (.pv (.lit (.int .i64 rj4.2))) ?_
         refine rvc_un (rexec_prim C (δ := { v := .undef, wr := [(4, some (.cells [.pv (.lit (.int .i64 rj4.1.epoch)), sS (some rj4.1.members.nil) eMember rj4.1.members.D]))] }) rfl rfl rfl rfl trivial rfl ?_)
         refine rvc_nil ?_
         refine Awp.regionP C ?_
         refine rvP C (.pv (.lit (.int .i64 (IntKind.i64.wrap ((i : Int) + 1))))) ?_
         refine rvP C (.pv (.lit (.int .i64 (IntKind.i64.wrap ((i : Int) + 1))))) ?_
         refine rvc_nil ?_
         refine ⟨h27, ((l ++ [rx4.1]), rj4.1.epoch, rj4.1.members), ?_, ?_⟩
         · exact ⟨(by rw [show 100 - (i + 1) = k by omega]; exact hR), (by dsimp only; omega), (by first | omega | (simp <;> omega))⟩
         · exact ⟨fun b => bif b == 900 then 72 else (fun b => b) b, WeakerR.ofL (Ks := [4, 6, 7, 9, 12, 900]) hI ⟨⟨rfl, rfl⟩, ⟨rfl, rfl⟩, ⟨rfl, rfl⟩, ⟨rfl, rfl⟩, ⟨rfl, rfl⟩, ⟨grow_to rfl rfl app_ne rfl rfl, grow_within rfl⟩, ⟨rfl, rfl⟩, ⟨lit_cast (wrap_i64 (by omega) (by omega)), rfl⟩, trivial⟩ (okH_grow (fun _ => rfl) rfl rfl (okH_cons rfl rfl rfl rfl (okH_cons rfl rfl rfl rfl (okH_cons rfl rfl rfl rfl (okH_cons rfl rfl rfl rfl (okH_cons rfl rfl rfl rfl (okH_nil))))))) rfl⟩
    -- !! two models: ('(bif (rx3.2.2 != 0) then ((Sl.mk true []), (Chain.mk 0 (Sl.mk true [])), rx3.2.2) else (bif (!rx3.2.1) then ((Sl.mk l.isEmpty l), (Chain.mk vc (Sl.mk vc3.isEmpty vc3)), 0) else (bif (rx3.1.kind == 1) then rAllP_l0 alive h w sw k (i + 1) (l ++ [rx3.1]) rc3.1.epoch rc3.1.members else rAllP_l0 alive h w sw k (i + 1) (l ++ [rx3.1]) rj3.1.epoch rj3.1.members)))', '(bif x1.fresh then rAllP_l1 sw (fun vc3 => (bif ((rNextP (Chain.mk vc (Sl.mk vc3.isEmpty vc3)) alive h w).2.2 != 0) then ((Sl.mk true []), (Chain.mk 0 (Sl.mk true [])), (rNextP (Chain.mk vc (Sl.mk vc3.isEmpty vc3)) alive h w).2.2) else (bif (!(rNextP (Chain.mk vc (Sl.mk vc3.isEmpty vc3)) alive h w).2.1) then ((Sl.mk l.isEmpty l), (Chain.mk vc (Sl.mk vc3.isEmpty vc3)), 0) else (bif ((rNextP (Chain.mk vc (Sl.mk vc3.isEmpty vc3)) alive h w).1.kind == 1) then rAllP_l0 alive h w sw k (i + 1) (l ++ [(rNextP (Chain.mk vc (Sl.mk vc3.isEmpty vc3)) alive h w).1]) (rCut (Chain.mk vc (Sl.mk vc3.isEmpty vc3)) (rNextP (Chain.mk vc (Sl.mk vc3.isEmpty vc3)) alive h w).1.node (-1)).1.epoch (rCut (Chain.mk vc (Sl.mk vc3.isEmpty vc3)) (rNextP (Chain.mk vc (Sl.mk vc3.isEmpty vc3)) alive h w).1.node (-1)).1.members else rAllP_l0 alive h w sw k (i + 1) (l ++ [(rNextP (Chain.mk vc (Sl.mk vc3.isEmpty vc3)) alive h w).1]) (rJoin (Chain.mk vc (Sl.mk vc3.isEmpty vc3)) (Member.mk (rNextP (Chain.mk vc (Sl.mk vc3.isEmpty vc3)) alive h w).1.node (rNextP (Chain.mk vc (Sl.mk vc3.isEmpty vc3)) alive h w).1.site false)).1.epoch (rJoin (Chain.mk vc (Sl.mk vc3.isEmpty vc3)) (Member.mk (rNextP (Chain.mk vc (Sl.mk vc3.isEmpty vc3)) alive h w).1.node (rNextP (Chain.mk vc (Sl.mk vc3.isEmpty vc3)) alive h w).1.site false)).1.members)))) (vc1.D.drop (i2 + 1)) (i2 + 1) (vc3 ++ [(Member.mk x1.node x1.site (!(sw x1.node.toNat)))]) else rAllP_l1 sw (fun vc3 => (bif ((rNextP (Chain.mk vc (Sl.mk vc3.isEmpty vc3)) alive h w).2.2 != 0) then ((Sl.mk true []), (Chain.mk 0 (Sl.mk true [])), (rNextP (Chain.mk vc (Sl.mk vc3.isEmpty vc3)) alive h w).2.2) else (bif (!(rNextP (Chain.mk vc (Sl.mk vc3.isEmpty vc3)) alive h w).2.1) then ((Sl.mk l.isEmpty l), (Chain.mk vc (Sl.mk vc3.isEmpty vc3)), 0) else (bif ((rNextP (Chain.mk vc (Sl.mk vc3.isEmpty vc3)) alive h w).1.kind == 1) then rAllP_l0 alive h w sw k (i + 1) (l ++ [(rNextP (Chain.mk vc (Sl.mk vc3.isEmpty vc3)) alive h w).1]) (rCut (Chain.mk vc (Sl.mk vc3.isEmpty vc3)) (rNextP (Chain.mk vc (Sl.mk vc3.isEmpty vc3)) alive h w).1.node (-1)).1.epoch (rCut (Chain.mk vc (Sl.mk vc3.isEmpty vc3)) (rNextP (Chain.mk vc (Sl.mk vc3.isEmpty vc3)) alive h w).1.node (-1)).1.members else rAllP_l0 alive h w sw k (i + 1) (l ++ [(rNextP (Chain.mk vc (Sl.mk vc3.isEmpty vc3)) alive h w).1]) (rJoin (Chain.mk vc (Sl.mk vc3.isEmpty vc3)) (Member.mk (rNextP (Chain.mk vc (Sl.mk vc3.isEmpty vc3)) alive h w).1.node (rNextP (Chain.mk vc (Sl.mk vc3.isEmpty vc3)) alive h w).1.site false)).1.epoch (rJoin (Chain.mk vc (Sl.mk vc3.isEmpty vc3)) (Member.mk (rNextP (Chain.mk vc (Sl.mk vc3.isEmpty vc3)) alive h w).1.node (rNextP (Chain.mk vc (Sl.mk vc3.isEmpty vc3)) alive h w).1.site false)).1.members)))) (vc1.D.drop (i2 + 1)) (i2 + 1) (vc3 ++ [(Member.mk x1.node x1.site false)]))') ||| ('(bif (rx4.2.2 != 0) then ((Sl.mk true []), (Chain.mk 0 (Sl.mk true [])), rx4.2.2) else (bif (!rx4.2.1) then ((Sl.mk l.isEmpty l), (Chain.mk vc (Sl.mk vc3.isEmpty vc3)), 0) else (bif (rx4.1.kind == 1) then rAllP_l0 alive h w sw k (i + 1) (l ++ [rx4.1]) rc4.1.epoch rc4.1.members else rAllP_l0 alive h w sw k (i + 1) (l ++ [rx4.1]) rj4.1.epoch rj4.1.members)))', '(bif x1.fresh then rAllP_l1 sw (fun vc3 => (bif ((rNextP (Chain.mk vc (Sl.mk vc3.isEmpty vc3)) alive h w).2.2 != 0) then ((Sl.mk true []), (Chain.mk 0 (Sl.mk true [])), (rNextP (Chain.mk vc (Sl.mk vc3.isEmpty vc3)) alive h w).2.2) else (bif (!(rNextP (Chain.mk vc (Sl.mk vc3.isEmpty vc3)) alive h w).2.1) then ((Sl.mk l.isEmpty l), (Chain.mk vc (Sl.mk vc3.isEmpty vc3)), 0) else (bif ((rNextP (Chain.mk vc (Sl.mk vc3.isEmpty vc3)) alive h w).1.kind == 1) then rAllP_l0 alive h w sw k (i + 1) (l ++ [(rNextP (Chain.mk vc (Sl.mk vc3.isEmpty vc3)) alive h w).1]) (rCut (Chain.mk vc (Sl.mk vc3.isEmpty vc3)) (rNextP (Chain.mk vc (Sl.mk vc3.isEmpty vc3)) alive h w).1.node (-1)).1.epoch (rCut (Chain.mk vc (Sl.mk vc3.isEmpty vc3)) (rNextP (Chain.mk vc (Sl.mk vc3.isEmpty vc3)) alive h w).1.node (-1)).1.members else rAllP_l0 alive h w sw k (i + 1) (l ++ [(rNextP (Chain.mk vc (Sl.mk vc3.isEmpty vc3)) alive h w).1]) (rJoin (Chain.mk vc (Sl.mk vc3.isEmpty vc3)) (Member.mk (rNextP (Chain.mk vc (Sl.mk vc3.isEmpty vc3)) alive h w).1.node (rNextP (Chain.mk vc (Sl.mk vc3.isEmpty vc3)) alive h w).1.site false)).1.epoch (rJoin (Chain.mk vc (Sl.mk vc3.isEmpty vc3)) (Member.mk (rNextP (Chain.mk vc (Sl.mk vc3.isEmpty vc3)) alive h w).1.node (rNextP (Chain.mk vc (Sl.mk vc3.isEmpty vc3)) alive h w).1.site false)).1.members)))) (vc1.D.drop (i2 + 1)) (i2 + 1) (vc3 ++ [(Member.mk x1.node x1.site (!(sw x1.node.toNat)))]) else rAllP_l1 sw (fun vc3 => (bif ((rNextP (Chain.mk vc (Sl.mk vc3.isEmpty vc3)) alive h w).2.2 != 0) then ((Sl.mk true []), (Chain.mk 0 (Sl.mk true [])), (rNextP (Chain.mk vc (Sl.mk vc3.isEmpty vc3)) alive h w).2.2) else (bif (!(rNextP (Chain.mk vc (Sl.mk vc3.isEmpty vc3)) alive h w).2.1) then ((Sl.mk l.isEmpty l), (Chain.mk vc (Sl.mk vc3.isEmpty vc3)), 0) else (bif ((rNextP (Chain.mk vc (Sl.mk vc3.isEmpty vc3)) alive h w).1.kind == 1) then rAllP_l0 alive h w sw k (i + 1) (l ++ [(rNextP (Chain.mk vc (Sl.mk vc3.isEmpty vc3)) alive h w).1]) (rCut (Chain.mk vc (Sl.mk vc3.isEmpty vc3)) (rNextP (Chain.mk vc (Sl.mk vc3.isEmpty vc3)) alive h w).1.node (-1)).1.epoch (rCut (Chain.mk vc (Sl.mk vc3.isEmpty vc3)) (rNextP (Chain.mk vc (Sl.mk vc3.isEmpty vc3)) alive h w).1.node (-1)).1.members else rAllP_l0 alive h w sw k (i + 1) (l ++ [(rNextP (Chain.mk vc (Sl.mk vc3.isEmpty vc3)) alive h w).1]) (rJoin (Chain.mk vc (Sl.mk vc3.isEmpty vc3)) (Member.mk (rNextP (Chain.mk vc (Sl.mk vc3.isEmpty vc3)) alive h w).1.node (rNextP (Chain.mk vc (Sl.mk vc3.isEmpty vc3)) alive h w).1.site false)).1.epoch (rJoin (Chain.mk vc (Sl.mk vc3.isEmpty vc3)) (Member.mk (rNextP (Chain.mk vc (Sl.mk vc3.isEmpty vc3)) alive h w).1.node (rNextP (Chain.mk vc (Sl.mk vc3.isEmpty vc3)) alive h w).1.site false)).1.members)))) (vc1.D.drop (i2 + 1)) (i2 + 1) (vc3 ++ [(Member.mk x1.node x1.site false)]))')
   ·
    replace hR := of_false h29 hR
    refine Awp.skip ?_
    refine Awp.consP C ?_
    refine rvP C (.agg [.pv (.lit (.int .i64 vc)), sS (some vc1.nil) eMember vc1.D]) ?_
    refine rvP C (.pv (.lit (.int .u64 alive))) ?_
    refine rvP C (.agg [.pv (.lit (.int .i64 (h 0))), .pv (.lit (.int .i64 (h 1))), .pv (.lit (.int .i64 (h 2))), .pv (.lit (.int .i64 (h 3))), .pv (.lit (.int .i64 (h 4))), .pv (.lit (.int .i64 (h 5)))]) ?_
    refine rvP C (.agg [.pv (.lit (.int .i64 (w 0))), .pv (.lit (.int .i64 (w 1))), .pv (.lit (.int .i64 (w 2)))]) ?_
    obtain ⟨rx5, hq_rx5⟩ : ∃ q_, q_ = (rNextP (Chain.mk vc vc1) alive h w) := ⟨_, rfl⟩
    have hc_rx5 := (rNextP_calls (Chain.mk vc vc1) alive h w (by show vc1.D.length ≤ 1000000; have := check_r (c := (Chain.mk vc vc1)); have := rCheck_le6 (c := (Chain.mk vc vc1)); have := of_decide_eq_true h26; have := ne_of_beq_false h29; omega))
    first | rw [← hq_rx5] at hR hc_rx5 | (unfold rAllP at hR; rw [← hq_rx5] at hR hc_rx5) | (unfold rAllP_l0 at hR; rw [← hq_rx5] at hR hc_rx5) | (unfold rAllP_l1 at hR; rw [← hq_rx5] at hR hc_rx5)
    refine rvc_un (rexec_call hP C rfl rfl rfl hc_rx5 ?_)
    refine rvP C (.tup [.agg [.pv (.lit (.int .i64 rx5.1.kind)), .pv (.lit (.int .i64 rx5.1.node)), .pv (.lit (.int .i64 rx5.1.site)), .pv (.lit (.int .i64 rx5.1.epoch))], .pv (.lit (.bool rx5.2.1)), .pv (.lit (.int .i64 rx5.2.2))]) ?_
    refine rvP C (.agg [.pv (.lit (.int .i64 rx5.1.kind)), .pv (.lit (.int .i64 rx5.1.node)), .pv (.lit (.int .i64 rx5.1.site)), .pv (.lit (.int .i64 rx5.1.epoch))]) ?_
    refine rvP C (.pv (.lit (.bool rx5.2.1))) ?_
    refine rvP C (.pv (.lit (.int .i64 rx5.2.2))) ?_
    refine rvc_un (rexec_prim C (δ := { v := .ptr 16 0, new := [(16, .cells [.pv (.lit (.int .i64 0)), .pv (.lit (.int .i64 0)), .pv (.lit (.int .i64 0)), .pv (.lit (.int .i64 0))])] }) rfl rfl rfl rfl trivial rfl ?_)
    refine rvc_un (rexec_prim C (δ := { v := .undef, wr := [(16, some (.cells [.pv (.lit (.int .i64 rx5.1.kind)), .pv (.lit (.int .i64 rx5.1.node)), .pv (.lit (.int .i64 rx5.1.site)), .pv (.lit (.int .i64 rx5.1.epoch))]))] }) rfl rfl rfl rfl trivial rfl ?_)
    refine rvP C (.pv (.lit (.bool rx5.2.1))) ?_
    refine rvP C (.pv (.lit (.int .i64 rx5.2.2))) ?_
    refine rvc_nil ?_
    refine Awp.seq ?_
    refine Awp.consP C ?_
    refine rvP C (.pv (.lit (.int .i64 rx5.2.2))) ?_
    refine rvP C (.pv (.lit (.bool (rx5.2.2 != 0)))) ?_
    refine rvc_nil ?_
    refine Awp.cond (b := (rx5.2.2 != 0)) rfl (fun h46 => ?_) (fun h46 => ?_)
    ·
     replace hR := of_true h46 hR
     refine Awp.consP C ?_
     refine rvP C (.agg [.pv (.lit (.int .i64 0)), sS (some true) eMember []]) ?_
     refine rvP C (.pv (.lit (.int .i64 rx5.2.2))) ?_
     refine rvP C (sS (some true) eCommand []) ?_
     refine rvc_un (rexec_prim C (δ := { v := .undef, wr := [(9, some (.cells [.pv (.lit (.int .i64 0)), sS (some true) eMember []]))] }) rfl rfl rfl rfl trivial rfl ?_)
     refine rvP C (.pv (.lit (.int .i64 rx5.2.2))) ?_
     refine rvc_nil ?_
     refine Awp.ret ?_
     subst hR
     exact ⟨.inl rfl, rfl⟩
    ·
     replace hR := of_false h46 hR
     refine Awp.skip ?_
     refine Awp.seq ?_
     refine Awp.consP C ?_
     refine rvP C (.pv (.lit (.bool rx5.2.1))) ?_
     refine rvP C (.pv (.lit (.bool (!rx5.2.1)))) ?_
     refine rvc_nil ?_
     refine Awp.cond (b := (!rx5.2.1)) rfl (fun h47 => ?_) (fun h47 => ?_)
     ·
      replace hR := of_true h47 hR
      refine Awp.exit ?_
      refine Awp.consP C ?_
      refine rvP C (.sl 900 0 l.length 4 false) ?_
      refine rvP C (.agg [.pv (.lit (.int .i64 vc)), sS (some vc1.nil) eMember vc1.D]) ?_
      refine rvP C (.sl 900 0 l.length 4 false) ?_
      refine rvc_un (rexec_prim C (δ := { v := .undef, wr := [(9, some (.cells [.pv (.lit (.int .i64 vc)), sS (some vc1.nil) eMember vc1.D]))] }) rfl rfl rfl rfl trivial rfl ?_)
      refine rvP C (.pv (.lit (.int .i64 0))) ?_
      refine rvc_nil ?_
      refine Awp.freezeW 900 (encL eCommand l) ?_ [(8, sS (some l.isEmpty) eCommand l), (9, .ptr 9 0), (10, .pv (.lit (.int .i64 0)))] [(4, .cells [.pv (.lit (.int .i64 vc)), sS (some vc1.nil) eMember vc1.D]), (6, .cells [.pv (.lit (.int .i64 (h 0))), .pv (.lit (.int .i64 (h 1))), .pv (.lit (.int .i64 (h 2))), .pv (.lit (.int .i64 (h 3))), .pv (.lit (.int .i64 (h 4))), .pv (.lit (.int .i64 (h 5)))]), (7, .cells [.pv (.lit (.int .i64 (w 0))), .pv (.lit (.int .i64 (w 1))), .pv (.lit (.int .i64 (w 2)))]), (9, .cells [.pv (.lit (.int .i64 vc)), sS (some vc1.nil) eMember vc1.D]), (12, .cells [.pv (.lit (.bool (sw 0))), .pv (.lit (.bool (sw 1))), .pv (.lit (.bool (sw 2))), .pv (.lit (.bool (sw 3))), .pv (.lit (.bool (sw 4))), .pv (.lit (.bool (sw 5))), .pv (.lit (.bool (sw 6))), .pv (.lit (.bool (sw 7))), .pv (.lit (.bool (sw 8))), .pv (.lit (.bool (sw 9))), .pv (.lit (.bool (sw 10))), .pv (.lit (.bool (sw 11))), .pv (.lit (.bool (sw 12))), .pv (.lit (.bool (sw 13))), .pv (.lit (.bool (sw 14))), .pv (.lit (.bool (sw 15))), .pv (.lit (.bool (sw 16))), .pv (.lit (.bool (sw 17))), .pv (.lit (.bool (sw 18))), .pv (.lit (.bool (sw 19))), .pv (.lit (.bool (sw 20))), .pv (.lit (.bool (sw 21))), .pv (.lit (.bool (sw 22))), .pv (.lit (.bool (sw 23))), .pv (.lit (.bool (sw 24))), .pv (.lit (.bool (sw 25))), .pv (.lit (.bool (sw 26))), .pv (.lit (.bool (sw 27))), .pv (.lit (.bool (sw 28))), .pv (.lit (.bool (sw 29))), .pv (.lit (.bool (sw 30))), .pv (.lit (.bool (sw 31))), .pv (.lit (.bool (sw 32))), .pv (.lit (.bool (sw 33))), .pv (.lit (.bool (sw 34))), .pv (.lit (.bool (sw 35))), .pv (.lit (.bool (sw 36))), .pv (.lit (.bool (sw 37))), .pv (.lit (.bool (sw 38))), .pv (.lit (.bool (sw 39))), .pv (.lit (.bool (sw 40))), .pv (.lit (.bool (sw 41))), .pv (.lit (.bool (sw 42))), .pv (.lit (.bool (sw 43))), .pv (.lit (.bool (sw 44))), .pv (.lit (.bool (sw 45))), .pv (.lit (.bool (sw 46))), .pv (.lit (.bool (sw 47))), .pv (.lit (.bool (sw 48))), .pv (.lit (.bool (sw 49))), .pv (.lit (.bool (sw 50))), .pv (.lit (.bool (sw 51))), .pv (.lit (.bool (sw 52))), .pv (.lit (.bool (sw 53))), .pv (.lit (.bool (sw 54))), .pv (.lit (.bool (sw 55))), .pv (.lit (.bool (sw 56))), .pv (.lit (.bool (sw 57))), .pv (.lit (.bool (sw 58))), .pv (.lit (.bool (sw 59))), .pv (.lit (.bool (sw 60))), .pv (.lit (.bool (sw 61))), .pv (.lit (.bool (sw 62))), .pv (.lit (.bool (sw 63)))]), (16, .cells [.pv (.lit (.int .i64 rx5.1.kind)), .pv (.lit (.int .i64 rx5.1.node)), .pv (.lit (.int .i64 rx5.1.site)), .pv (.lit (.int .i64 rx5.1.epoch))])] ?_ ?_ ?_
      · rfl
      · exact ⟨⟨_, rfl, .inl (.inr ⟨_, _, _, rfl, by rw [ne_isEmpty h2]; rfl⟩)⟩, ⟨_, rfl, .inl (.inl rfl)⟩, ⟨_, rfl, .inl (.inl rfl)⟩, trivial⟩
      · exact ⟨⟨(by show (4 : Nat) ≠ 900; decide), .inl rfl⟩, ⟨(by show (6 : Nat) ≠ 900; decide), .inl rfl⟩, ⟨(by show (7 : Nat) ≠ 900; decide), .inl rfl⟩, ⟨(by show (9 : Nat) ≠ 900; decide), .inl rfl⟩, ⟨(by show (12 : Nat) ≠ 900; decide), .inl rfl⟩, ⟨(by show (16 : Nat) ≠ 900; decide), .inl rfl⟩, trivial⟩
      refine Awp.ret ?_
      subst hR
      exact ⟨.inl rfl, rfl⟩
     ·
      replace hR := of_false h47 hR
      refine Awp.skip ?_
      refine Awp.consP C ?_
      refine rvP C (.sl 900 0 l.length 4 false) ?_
      refine rvP C (.agg [.pv (.lit (.int .i64 rx5.1.kind)), .pv (.lit (.int .i64 rx5.1.node)), .pv (.lit (.int .i64 rx5.1.site)), .pv (.lit (.int .i64 rx5.1.epoch))]) ?_
      refine rvc_un (rexec_buildSliceF C eCommand [rx5.1] rfl rfl rfl rfl rfl rfl rfl (by decide) rfl ?_)
      refine rvc_un (rexec_append C rfl rfl rfl rfl rfl rfl rfl rfl (fun _ h => by cases h) rfl (en := eCommand) (D0 := l) (D := [rx5.1]) rfl rfl rfl rfl (by have := check_r (c := (Chain.mk vc vc1)); have := rCheck_le6 (c := (Chain.mk vc vc1)); have := of_decide_eq_true h26; have := ne_of_beq_false h29; have := eq_of_bne_false h46; first | omega | (simp <;> omega)) (by decide) (nn := (l ++ [rx5.1]).length) (by simp) ?_)
      refine rvP C (.sl 72 0 ((l ++ [rx5.1]).length) 4 false) ?_
      refine rvc_nil ?_
      refine Awp.consP C ?_
      refine rvP C (.ptr 16 0) ?_
      refine rvP C (.pv (.lit (.int .i64 rx5.1.kind))) ?_
      refine rvP C (.pv (.lit (.bool (rx5.1.kind == 1)))) ?_
      refine rvc_nil ?_
      refine Awp.cond (b := (rx5.1.kind == 1)) rfl (fun h48 => ?_) (fun h48 => ?_)
      ·
       replace hR := of_true h48 hR
       refine Awp.regionP C ?_
       refine rvP C (.agg [.pv (.lit (.int .i64 vc)), sS (some vc1.nil) eMember vc1.D]) ?_
       refine rvP C (.ptr 16 1) ?_
       refine rvP C (.pv (.lit (.int .i64 rx5.1.node))) ?_
       obtain ⟨rc5, hq_rc5⟩ : ∃ q_, q_ = (rCut (Chain.mk vc vc1) rx5.1.node (-1)) := ⟨_, rfl⟩
       have hc_rc5 := (rCut_calls (Chain.mk vc vc1) rx5.1.node (-1) (by show vc1.D.length ≤ 1000000; have := check_r (c := (Chain.mk vc vc1)); have := rCheck_le6 (c := (Chain.mk vc vc1)); have := of_decide_eq_true h26; have := ne_of_beq_false h29; have := eq_of_bne_false h46; have := beq_iff_eq.1 h48; omega))
       first | rw [← hq_rc5] at hR hc_rc5 | (unfold rAllP at hR; rw [← hq_rc5] at hR hc_rc5) | (unfold rAllP_l0 at hR; rw [← hq_rc5] at hR hc_rc5) | (unfold rAllP_l1 at hR; rw [← hq_rc5] at hR hc_rc5)
       have hf0_rc5 := rCut_6 (Chain.mk vc vc1) rx5.1.node (-1)
       rw [← hq_rc5] at hf0_rc5
       refine rvc_un (rexec_call hP C rfl rfl rfl hc_rc5 ?_)
       refine rvP C (.tup [.agg [.pv (.lit (.int .i64 rc5.1.epoch)), sS (some rc5.1.members.nil) eMember rc5.1.members.D], .pv (.lit (.int .i64 rc5.2))]) ?_
       refine rvP C (.agg [.pv (.lit (.int .i64 rc5.1.epoch)), sS (some rc5.1.members.nil) eMember rc5.1.members.D]) ?_
       refine rvP C (.pv (.lit (.int .i64 rc5.2))) ?_
       refine rvc_un (rexec_prim C (δ := { v := .undef, wr := [(4, some (.cells [.pv (.lit (.int .i64 rc5.1.epoch)), sS (some rc5.1.members.nil) eMember rc5.1.members.D]))] }) rfl rfl rfl rfl trivial rfl ?_)
       refine rvc_nil ?_
       refine Awp.regionP C ?_
       refine rvP C (.pv (.lit (.int .i64 (IntKind.i64.wrap ((i : Int) + 1))))) ?_
       refine rvP C (.pv (.lit (.int .i64 (IntKind.i64.wrap ((i : Int) + 1))))) ?_
       refine rvc_nil ?_
       refine ⟨h27, ((l ++ [rx5.1]), rc5.1.epoch, rc5.1.members), ?_, ?_⟩
       · exact ⟨(by rw [show 100 - (i + 1) = k by omega]; exact hR), (by dsimp only; omega), (by first | omega | (simp <;> omega))⟩
       · exact ⟨fun b => bif b == 900 then 72 else (fun b => b) b, WeakerR.ofL (Ks := [4, 6, 7, 9, 12, 900]) hI ⟨⟨rfl, rfl⟩, ⟨rfl, rfl⟩, ⟨rfl, rfl⟩, ⟨rfl, rfl⟩, ⟨rfl, rfl⟩, ⟨grow_to rfl rfl app_ne rfl rfl, grow_within rfl⟩, ⟨rfl, rfl⟩, ⟨lit_cast (wrap_i64 (by omega) (by omega)), rfl⟩, trivial⟩ (okH_grow (fun _ => rfl) rfl rfl (okH_cons rfl rfl rfl rfl (okH_cons rfl rfl rfl rfl (okH_cons rfl rfl rfl rfl (okH_cons rfl rfl rfl rfl (okH_cons rfl rfl rfl rfl (okH_nil))))))) rfl⟩
      ·
       replace hR := of_false h48 hR
       refine Awp.regionP C ?_
       refine rvP C (.agg [.pv (.lit (.int .i64 vc)), sS (some vc1.nil) eMember vc1.D]) ?_
       refine rvP C (.ptr 16 1) ?_
       refine rvP C (.pv (.lit (.int .i64 rx5.1.node))) ?_
       refine rvP C (.ptr 16 2) ?_
       refine rvP C (.pv (.lit (.int .i64 rx5.1.site))) ?_
       refine rvP C (.agg [.pv (.lit (.int .i64 rx5.1.node)), .pv (.lit (.int .i64 rx5.1.site)), .pv (.lit (.bool false))]) ?_
       obtain ⟨rj5, hq_rj5⟩ : ∃ q_, q_ = (rJoin (Chain.mk vc vc1) (Member.mk rx5.1.node rx5.1.site false)) := ⟨_, rfl⟩
       have hc_rj5 := (rJoin_calls (Chain.mk vc vc1) (Member.mk rx5.1.node rx5.1.site false) (by show vc1.D.length ≤ 1000000; have := check_r (c := (Chain.mk vc vc1)); have := rCheck_le6 (c := (Chain.mk vc vc1)); have := of_decide_eq_true h26; have := ne_of_beq_false h29; have := eq_of_bne_false h46; have := ne_of_beq_false h48; omega))
       first | rw [← hq_rj5] at hR hc_rj5 | (unfold rAllP at hR; rw [← hq_rj5] at hR hc_rj5) | (unfold rAllP_l0 at hR; rw [← hq_rj5] at hR hc_rj5) | (unfold rAllP_l1 at hR; rw [← hq_rj5] at hR hc_rj5)
       have hf0_rj5 := rJoin_7 (Chain.mk vc vc1) (Member.mk rx5.1.node rx5.1.site false)
       rw [← hq_rj5] at hf0_rj5
       refine rvc_un (rexec_call hP C rfl rfl rfl hc_rj5 ?_)
       refine rvP C (.tup [.agg [.pv (.lit (.int .i64 rj5.1.epoch)), sS (some rj5.1.members.nil) eMember rj5.1.members.D], .pv (.lit (.int .i64 rj5.2))]) ?_
       refine rvP C (.agg [.pv (.lit (.int .i64 rj5.1.epoch)), sS (some rj5.1.members.nil) eMember rj5.1.members.D]) ?_
       refine rvP C (.pv (.lit (.int .i64 rj5.2))) ?_
       refine rvc_un (rexec_prim C (δ := { v := .undef, wr := [(4, some (.cells [.pv (.lit (.int .i64 rj5.1.epoch)), sS (some rj5.1.members.nil) eMember rj5.1.members.D]))] }) rfl rfl rfl rfl trivial rfl ?_)
       refine rvc_nil ?_
       refine Awp.regionP C ?_
       refine rvP C (.pv (.lit (.int .i64 (IntKind.i64.wrap ((i : Int) + 1))))) ?_
       refine rvP C (.pv (.lit (.int .i64 (IntKind.i64.wrap ((i : Int) + 1))))) ?_
       refine rvc_nil ?_
       refine ⟨h27, ((l ++ [rx5.1]), rj5.1.epoch, rj5.1.members), ?_, ?_⟩
       · exact ⟨(by rw [show 100 - (i + 1) = k by omega]; exact hR), (by dsimp only; omega), (by first | omega | (simp <;> omega))⟩
       · exact ⟨fun b => bif b == 900 then 72 else (fun b => b) b, WeakerR.ofL (Ks := [4, 6, 7, 9, 12, 900]) hI ⟨⟨rfl, rfl⟩, ⟨rfl, rfl⟩, ⟨rfl, rfl⟩, ⟨rfl, rfl⟩, ⟨rfl, rfl⟩, ⟨grow_to rfl rfl app_ne rfl rfl, grow_within rfl⟩, ⟨rfl, rfl⟩, ⟨lit_cast (wrap_i64 (by omega) (by omega)), rfl⟩, trivial⟩ (okH_grow (fun _ => rfl) rfl rfl (okH_cons rfl rfl rfl rfl (okH_cons rfl rfl rfl rfl (okH_cons rfl rfl rfl rfl (okH_cons rfl rfl rfl rfl (okH_cons rfl rfl rfl rfl (okH_nil))))))) rfl⟩
  ·
   rw [show 100 - i = 0 by have := of_decide_eq_false h26; omega] at hR
   refine Awp.exit ?_
   refine Awp.consP C ?_
   refine rvP C (.sl 900 0 l.length 4 false) ?_
   refine rvP C (.agg [.pv (.lit (.int .i64 vc)), sS (some vc1.nil) eMember vc1.D]) ?_
   refine rvP C (.sl 900 0 l.length 4 false) ?_
   refine rvc_un (rexec_prim C (δ := { v := .undef, wr := [(9, some (.cells [.pv (.lit (.int .i64 vc)), sS (some vc1.nil) eMember vc1.D]))] }) rfl rfl rfl rfl trivial rfl ?_)
   refine rvP C (.pv (.lit (.int .i64 0))) ?_
   refine rvc_nil ?_
   refine Awp.freezeW 900 (encL eCommand l) ?_ [(8, sS (some l.isEmpty) eCommand l), (9, .ptr 9 0), (10, .pv (.lit (.int .i64 0)))] [(4, .cells [.pv (.lit (.int .i64 vc)), sS (some vc1.nil) eMember vc1.D]), (6, .cells [.pv (.lit (.int .i64 (h 0))), .pv (.lit (.int .i64 (h 1))), .pv (.lit (.int .i64 (h 2))), .pv (.lit (.int .i64 (h 3))), .pv (.lit (.int .i64 (h 4))), .pv (.lit (.int .i64 (h 5)))]), (7, .cells [.pv (.lit (.int .i64 (w 0))), .pv (.lit (.int .i64 (w 1))), .pv (.lit (.int .i64 (w 2)))]), (9, .cells [.pv (.lit (.int .i64 vc)), sS (some vc1.nil) eMember vc1.D]), (12, .cells [.pv (.lit (.bool (sw 0))), .pv (.lit (.bool (sw 1))), .pv (.lit (.bool (sw 2))), .pv (.lit (.bool (sw 3))), .pv (.lit (.bool (sw 4))), .pv (.lit (.bool (sw 5))), .pv (.lit (.bool (sw 6))), .pv (.lit (.bool (sw 7))), .pv (.lit (.bool (sw 8))), .pv (.lit (.bool (sw 9))), .pv (.lit (.bool (sw 10))), .pv (.lit (.bool (sw 11))), .pv (.lit (.bool (sw 12))), .pv (.lit (.bool (sw 13))), .pv (.lit (.bool (sw 14))), .pv (.lit (.bool (sw 15))), .pv (.lit (.bool (sw 16))), .pv (.lit (.bool (sw 17))), .pv (.lit (.bool (sw 18))), .pv (.lit (.bool (sw 19))), .pv (.lit (.bool (sw 20))), .pv (.lit (.bool (sw 21))), .pv (.lit (.bool (sw 22))), .pv (.lit (.bool (sw 23))), .pv (.lit (.bool (sw 24))), .pv (.lit (.bool (sw 25))), .pv (.lit (.bool (sw 26))), .pv (.lit (.bool (sw 27))), .pv (.lit (.bool (sw 28))), .pv (.lit (.bool (sw 29))), .pv (.lit (.bool (sw 30))), .pv (.lit (.bool (sw 31))), .pv (.lit (.bool (sw 32))), .pv (.lit (.bool (sw 33))), .pv (.lit (.bool (sw 34))), .pv (.lit (.bool (sw 35))), .pv (.lit (.bool (sw 36))), .pv (.lit (.bool (sw 37))), .pv (.lit (.bool (sw 38))), .pv (.lit (.bool (sw 39))), .pv (.lit (.bool (sw 40))), .pv (.lit (.bool (sw 41))), .pv (.lit (.bool (sw 42))), .pv (.lit (.bool (sw 43))), .pv (.lit (.bool (sw 44))), .pv (.lit (.bool (sw 45))), .pv (.lit (.bool (sw 46))), .pv (.lit (.bool (sw 47))), .pv (.lit (.bool (sw 48))), .pv (.lit (.bool (sw 49))), .pv (.lit (.bool (sw 50))), .pv (.lit (.bool (sw 51))), .pv (.lit (.bool (sw 52))), .pv (.lit (.bool (sw 53))), .pv (.lit (.bool (sw 54))), .pv (.lit (.bool (sw 55))), .pv (.lit (.bool (sw 56))), .pv (.lit (.bool (sw 57))), .pv (.lit (.bool (sw 58))), .pv (.lit (.bool (sw 59))), .pv (.lit (.bool (sw 60))), .pv (.lit (.bool (sw 61))), .pv (.lit (.bool (sw 62))), .pv (.lit (.bool (sw 63)))])] ?_ ?_ ?_
   · rfl
   · exact ⟨⟨_, rfl, .inl (.inr ⟨_, _, _, rfl, by rw [ne_isEmpty h2]; rfl⟩)⟩, ⟨_, rfl, .inl (.inl rfl)⟩, ⟨_, rfl, .inl (.inl rfl)⟩, trivial⟩
   · exact ⟨⟨(by show (4 : Nat) ≠ 900; decide), .inl rfl⟩, ⟨(by show (6 : Nat) ≠ 900; decide), .inl rfl⟩, ⟨(by show (7 : Nat) ≠ 900; decide), .inl rfl⟩, ⟨(by show (9 : Nat) ≠ 900; decide), .inl rfl⟩, ⟨(by show (12 : Nat) ≠ 900; decide), .inl rfl⟩, trivial⟩
   refine Awp.ret ?_
   subst hR
   exact ⟨.inl rfl, rfl⟩
 -- !! two models: ('((Sl.mk l.isEmpty l), (Chain.mk vc vc1), 0)', '(bif ((rCheck (Chain.mk vc vc1)) == 0) then rAllP_l1 sw (fun vc2 => (bif ((rNextP (Chain.mk vc (Sl.mk vc2.isEmpty vc2)) alive h w).2.2 != 0) then ((Sl.mk true []), (Chain.mk 0 (Sl.mk true [])), (rNextP (Chain.mk vc (Sl.mk vc2.isEmpty vc2)) alive h w).2.2) else (bif (!(rNextP (Chain.mk vc (Sl.mk vc2.isEmpty vc2)) alive h w).2.1) then ((Sl.mk l.isEmpty l), (Chain.mk vc (Sl.mk vc2.isEmpty vc2)), 0) else (bif ((rNextP (Chain.mk vc (Sl.mk vc2.isEmpty vc2)) alive h w).1.kind == 1) then rAllP_l0 alive h w sw k (i + 1) (l ++ [(rNextP (Chain.mk vc (Sl.mk vc2.isEmpty vc2)) alive h w).1]) (rCut (Chain.mk vc (Sl.mk vc2.isEmpty vc2)) (rNextP (Chain.mk vc (Sl.mk vc2.isEmpty vc2)) alive h w).1.node (-1)).1.epoch (rCut (Chain.mk vc (Sl.mk vc2.isEmpty vc2)) (rNextP (Chain.mk vc (Sl.mk vc2.isEmpty vc2)) alive h w).1.node (-1)).1.members else rAllP_l0 alive h w sw k (i + 1) (l ++ [(rNextP (Chain.mk vc (Sl.mk vc2.isEmpty vc2)) alive h w).1]) (rJoin (Chain.mk vc (Sl.mk vc2.isEmpty vc2)) (Member.mk (rNextP (Chain.mk vc (Sl.mk vc2.isEmpty vc2)) alive h w).1.node (rNextP (Chain.mk vc (Sl.mk vc2.isEmpty vc2)) alive h w).1.site false)).1.epoch (rJoin (Chain.mk vc (Sl.mk vc2.isEmpty vc2)) (Member.mk (rNextP (Chain.mk vc (Sl.mk vc2.isEmpty vc2)) alive h w).1.node (rNextP (Chain.mk vc (Sl.mk vc2.isEmpty vc2)) alive h w).1.site false)).1.members)))) vc1.D 0 [] else (bif (rx2.2.2 != 0) then ((Sl.mk true []), (Chain.mk 0 (Sl.mk true [])), rx2.2.2) else (bif (!rx2.2.1) then ((Sl.mk l.isEmpty l), (Chain.mk vc vc1), 0) else (bif (rx2.1.kind == 1) then rAllP_l0 alive h w sw k (i + 1) (l ++ [rx2.1]) rc2.1.epoch rc2.1.members else rAllP_l0 alive h w sw k (i + 1) (l ++ [rx2.1]) rj2.1.epoch rj2.1.members))))') ||| ('((Sl.mk l.isEmpty l), (Chain.mk vc vc1), 0)', '(bif ((rCheck (Chain.mk vc vc1)) == 0) then rAllP_l1 sw (fun vc3 => (bif ((rNextP (Chain.mk vc (Sl.mk vc3.isEmpty vc3)) alive h w).2.2 != 0) then ((Sl.mk true []), (Chain.mk 0 (Sl.mk true [])), (rNextP (Chain.mk vc (Sl.mk vc3.isEmpty vc3)) alive h w).2.2) else (bif (!(rNextP (Chain.mk vc (Sl.mk vc3.isEmpty vc3)) alive h w).2.1) then ((Sl.mk l.isEmpty l), (Chain.mk vc (Sl.mk vc3.isEmpty vc3)), 0) else (bif ((rNextP (Chain.mk vc (Sl.mk vc3.isEmpty vc3)) alive h w).1.kind == 1) then rAllP_l0 alive h w sw k (i + 1) (l ++ [(rNextP (Chain.mk vc (Sl.mk vc3.isEmpty vc3)) alive h w).1]) (rCut (Chain.mk vc (Sl.mk vc3.isEmpty vc3)) (rNextP (Chain.mk vc (Sl.mk vc3.isEmpty vc3)) alive h w).1.node (-1)).1.epoch (rCut (Chain.mk vc (Sl.mk vc3.isEmpty vc3)) (rNextP (Chain.mk vc (Sl.mk vc3.isEmpty vc3)) alive h w).1.node (-1)).1.members else rAllP_l0 alive h w sw k (i + 1) (l ++ [(rNextP (Chain.mk vc (Sl.mk vc3.isEmpty vc3)) alive h w).1]) (rJoin (Chain.mk vc (Sl.mk vc3.isEmpty vc3)) (Member.mk (rNextP (Chain.mk vc (Sl.mk vc3.isEmpty vc3)) alive h w).1.node (rNextP (Chain.mk vc (Sl.mk vc3.isEmpty vc3)) alive h w).1.site false)).1.epoch (rJoin (Chain.mk vc (Sl.mk vc3.isEmpty vc3)) (Member.mk (rNextP (Chain.mk vc (Sl.mk vc3.isEmpty vc3)) alive h w).1.node (rNextP (Chain.mk vc (Sl.mk vc3.isEmpty vc3)) alive h w).1.site false)).1.members)))) vc1.D 0 [] else (bif (rx5.2.2 != 0) then ((Sl.mk true []), (Chain.mk 0 (Sl.mk true [])), rx5.2.2) else (bif (!rx5.2.1) then ((Sl.mk l.isEmpty l), (Chain.mk vc vc1), 0) else (bif (rx5.1.kind == 1) then rAllP_l0 alive h w sw k (i + 1) (l ++ [rx5.1]) rc5.1.epoch rc5.1.members else rAllP_l0 alive h w sw k (i + 1) (l ++ [rx5.1]) rj5.1.epoch rj5.1.members))))')
end Go.Proofs.Ytaffaalpgpepeaa
/- All commands: the code's are the document's. No conditions. -/
namespace Go.Proofs.Ytaffaalpgpepeaa
open Go.Am
theorem stepOf_hn (r : Chain) (k : Command) : (stepOf r k).members.nil = true → (stepOf r k).members.D = [] := by
  unfold stepOf
  cases k.kind == 1
  · exact join_hn _ _
  · exact drop_hn _ _
theorem chain_ext {a b : Chain} (h : eqC a b) (ha : a.members.nil = true → a.members.D = []) (hb : b.members.nil = true → b.members.D = []) (hne : a.members.D ≠ []) : a = b := by
  obtain ⟨e, ⟨f, D⟩⟩ := a
  obtain ⟨e', ⟨f', D'⟩⟩ := b
  obtain ⟨h1, h2⟩ := h
  have h1 : e = e' := h1
  have h2 : D = D' := h2
  subst h1 h2
  cases f
  · cases f'
    · rfl
    · exact absurd (hb rfl) hne
  · exact absurd (ha rfl) hne
theorem check_ne {c : Chain} (hc : check c = 0) : c.members.D ≠ [] := ((check_iff c).1 hc).2.1
theorem rCut_hn (c : Chain) (n s : Int) : (rCut c n s).1.members.nil = true → (rCut c n s).1.members.D = [] := by
  unfold rCut
  cases hc : rCheck c != 0
  case true => exact fun _ => rfl
  cases c.epoch == 1099511627776
  case true => exact fun _ => rfl
  rw [cond_false, cond_false, rCut_l0_eq, List.nil_append]
  generalize c.members.D.filter (fun x => x.node != n && x.site != s) = l
  unfold finC
  cases ((l.dropWhile (·.fresh)).length : Int) == (c.members.D.length : Int)
  case true => exact fun _ => rfl
  cases ((l.dropWhile (·.fresh)).length : Int) == 0
  case true => exact fun _ => rfl
  intro h
  have h : l.isEmpty = true := h
  have : l = [] := by simpa using h
  subst this; rfl
theorem rJoin_l0_hn (c : Chain) (m : Member) : ∀ (xs : List Member) (i : Nat) (put : Bool) (vc : List Member), (rJoin_l0 c m xs i put vc).1.members.nil = true → (rJoin_l0 c m xs i put vc).1.members.D = []
  | [], i, put, vc => by
    unfold rJoin_l0
    cases put
    · intro h; cases h
    · intro h
      have h : vc.isEmpty = true := h
      have : vc = [] := by simpa using h
      subst this; rfl
  | x :: xs, i, put, vc => by
    have h1 := rJoin_l0_hn c m xs (i + 1) true ((vc ++ [Member.mk m.node m.site true]) ++ [x])
    have h2 := rJoin_l0_hn c m xs (i + 1) put (vc ++ [x])
    unfold rJoin_l0
    cases decide (x.site > m.site)
    · exact h2
    · cases put
      · exact h1
      · exact h2
theorem rJoin_hn (c : Chain) (m : Member) : (rJoin c m).1.members.nil = true → (rJoin c m).1.members.D = [] := by
  unfold rJoin
  cases rCheck c != 0
  case true => exact fun _ => rfl
  cases decide (m.node < 0)
  case true => exact fun _ => rfl
  cases decide (m.node > 5)
  case true => exact fun _ => rfl
  cases decide (m.site < 0)
  case true => exact fun _ => rfl
  cases decide (m.site > 2)
  case true => exact fun _ => rfl
  cases decide (rPlace c m.node ≥ 0)
  case true => exact fun _ => rfl
  cases c.epoch == 1099511627776
  case true => exact fun _ => rfl
  cases decide (c.members.D[0]!.site > m.site)
  case true => exact fun _ => rfl
  exact rJoin_l0_hn c m _ _ _ _
theorem rAllP_l1_eq (sw : Nat → Bool) (kk : List Member → Sl Command × Chain × Int) : ∀ (xs : List Member) (i : Nat) (vc : List Member), rAllP_l1 sw kk xs i vc = kk (vc ++ xs.map fun x => ⟨x.node, x.site, x.fresh && !sw x.node.toNat⟩)
  | [], _, vc => by rw [List.map_nil, List.append_nil]; rfl
  | x :: xs, i, vc => by
    unfold rAllP_l1
    rw [rAllP_l1_eq sw kk xs, rAllP_l1_eq sw kk xs, List.map_cons, List.append_assoc, List.append_assoc]
    cases x.fresh <;> rfl
theorem fresh_map {a : Nat} (ha : a < 18446744073709551616) {c : Chain} (hc : check c = 0) : (c.members.D.map fun x => (⟨x.node, x.site, x.fresh && !fromW (a : Int) x.node.toNat⟩ : Member)) = c.members.D.map (freshen (a : Int)) :=
  List.map_congr_left fun x hx => by rw [has_mem ha hc hx]; rfl
theorem ready_is {c : Chain} (a : Int) (hc : check c = 0) (hn : c.members.nil = true → c.members.D = []) : readyAll c a = ⟨c.epoch, ⟨(c.members.D.map (freshen a)).isEmpty, c.members.D.map (freshen a)⟩⟩ := by
  refine chain_ext (readyAll_eq a hc) (readyAll_hn c a hn) (fun h => ?_) (check_ne (readyAll_check a hc))
  have h : (c.members.D.map (freshen a)).isEmpty = true := h
  simpa using h
theorem round_ref {c : Chain} {a : Int} {h w : Nat → Int} (hr : check c = 0) (hx : (nextP c a h w).2.1 = true) (ha : 0 ≤ a ∧ a < 18446744073709551616) :
    ((nextP c a h w).1.kind = 1 → rCut c (nextP c a h w).1.node (-1) = drop c (nextP c a h w).1.node) ∧ ((nextP c a h w).1.kind ≠ 1 → rJoin c ⟨(nextP c a h w).1.node, (nextP c a h w).1.site, false⟩ = join c ⟨(nextP c a h w).1.node, (nextP c a h w).1.site, false⟩) := by
  generalize hg : nextP c a h w = nx at hx ⊢
  obtain ⟨_, _, _, ⟨x, hm, r1, r2, r3⟩ | ⟨_, n, s, hn, hs, _, _, _, e, r⟩⟩ := nextP_some ha hg hx
  · refine ⟨fun _ => ?_, fun k => absurd (by rw [r2]) k⟩
    have hn : nx.1.node = x.node := by rw [r2]
    rw [hn]
    have he := cut_drop hr hm
    have hd := drop_check hr r3
    exact Prod.ext (chain_ext ⟨he.1.1.symm, he.1.2.symm⟩ (rCut_hn _ _ _) (drop_hn _ _) (by rw [← he.1.2]; exact check_ne hd.1)) he.2.symm
  · refine ⟨fun k => absurd k (by rw [e]; show ¬ (2 : Int) = 1; decide), fun _ => ?_⟩
    have hnode : nx.1.node = n := by rw [e]
    have hsite : nx.1.site = s := by rw [e]
    rw [hnode, hsite]
    have he := join_eq c (n : Int) (s : Int) false
    have hd := join_check hr r
    exact Prod.ext (chain_ext ⟨he.1.1.symm, he.1.2.symm⟩ (rJoin_hn _ _) (join_hn _ _) (by rw [← he.1.2]; exact check_ne hd.1)) he.2.symm
theorem rAllP_l0_run {a : Nat} {h w : Nat → Int} (ha : a < 18446744073709551616) (hp : planCheck h w = 0) : ∀ (n i : Nat) (l : List Command) (c : Chain), check c = 0 → (c.members.nil = true → c.members.D = []) → planM (a : Int) c.members.D < n → rAllP_l0 (a : Int) h w (fromW (a : Int)) n i l c.epoch c.members = (⟨(l ++ (runP (a : Int) h w n c).1).isEmpty, l ++ (runP (a : Int) h w n c).1⟩, (runP (a : Int) h w n c).2, 0)
  | 0, _, _, _, _, _, hm => by cases hm
  | n + 1, i, l, c, hc, hn, hm => by
    have haa : 0 ≤ (a : Int) ∧ (a : Int) < 18446744073709551616 := by omega
    unfold rAllP_l0 runP
    have hr := readyAll_check (a : Int) hc
    have h0 := nextP_ok (a := (a : Int)) (w := w) hr hp
    have hro := round_ok haa hc hp
    have href := fun hx => round_ref (a := (a : Int)) (h := h) (w := w) hr hx haa
    have hrn := readyAll_hn c (a : Int) hn
    rw [show (rCheck (Chain.mk c.epoch c.members) == 0) = true by rw [show (Chain.mk c.epoch c.members) = c from rfl, ← check_eq, hc]; rfl, cond_true, rAllP_l1_eq, List.nil_append, fresh_map ha hc]
    rw [← ready_is (a : Int) hc hn]
    generalize hra : readyAll c (a : Int) = ra at *
    rw [← nextP_ref haa]
    generalize hx : nextP ra (a : Int) h w = nx at *
    rw [h0, show ((0 : Int) != 0) = false from rfl, cond_false]
    cases h2 : nx.2.1
    · rw [Bool.not_false, cond_true, cond_false, List.append_nil]
    · obtain ⟨d, hd, hdc, hde, hlt, hpm, hck, hk⟩ := hro h2
      obtain ⟨f1, f2⟩ := href h2
      have hdn : d.members.nil = true → d.members.D = [] := by rw [← hd]; exact stepOf_hn _ _
      have ih := rAllP_l0_run ha hp n (i + 1) (l ++ [nx.1]) d hdc hdn (by omega)
      rw [List.append_assoc] at ih
      rw [hd, Bool.not_true, cond_false, cond_true]
      rcases hk with ⟨k1, hk⟩ | ⟨k2, hk⟩
      · rw [f1 k1, k1, show ((1 : Int) == 1) = true from rfl, cond_true, hk]
        exact ih
      · rw [f2 (by rw [k2]; decide), k2, show ((2 : Int) == 1) = false from rfl, cond_false, hk]
        exact ih
theorem rAllP_eq (c : Chain) (a : Int) (h w : Nat → Int) (ha : 0 ≤ a ∧ a < 18446744073709551616) (hn : c.members.nil = true → c.members.D = []) : rAllP c a h w = allP c a h w := by
  obtain ⟨n, rfl⟩ : ∃ n : Nat, a = (n : Int) := ⟨a.toNat, by omega⟩
  have hnn : n < 18446744073709551616 := by omega
  by_cases hc : check c = 0
  · have hM : planM (n : Int) c.members.D < 100 := by
      have h1 := planM_le (n : Int) c.members.D
      have h2 := check_le6 hc
      omega
    by_cases hp : planCheck h w = 0
    · rw [allP_ok ha hc hp, runP_fuel ha hp _ 100 c hc (Nat.lt_succ_self _) hM]
      exact rAllP_l0_run hnn hp 100 0 [] c hc hn hM
    · rw [allP_bad2 hc hp]
      unfold rAllP rAllP_l0
      rw [show (rCheck (Chain.mk c.epoch c.members) == 0) = true by rw [show (Chain.mk c.epoch c.members) = c from rfl, ← check_eq, hc]; rfl, cond_true, rAllP_l1_eq, List.nil_append, fresh_map hnn hc, ← ready_is (n : Int) hc hn, ← nextP_ref ha]
      have hr := readyAll_check (n : Int) hc
      have hx : nextP (readyAll c (n : Int)) (n : Int) h w = (⟨0, 0, 0, 0⟩, false, 1) := by
        rcases nextP_cases (c := readyAll c (n : Int)) (a := (n : Int)) (h := h) (w := w) rfl with ⟨h3, _⟩ | ⟨_, _, h3⟩ | ⟨_, h3, _⟩ | ⟨_, h3, _⟩ | ⟨_, h3, _⟩
        · exact absurd hr h3
        · rcases planCheck_01 h w with e | e
          · exact absurd e hp
          · rw [h3, e]
        all_goals exact absurd h3 hp
      rw [hx]; rfl
  · rw [allP_bad hc]
    unfold rAllP rAllP_l0
    rw [show (rCheck (Chain.mk c.epoch c.members) == 0) = false by rw [show (Chain.mk c.epoch c.members) = c from rfl, ← check_eq]; simpa using hc, cond_false, ← nextP_ref ha, show (Chain.mk c.epoch c.members) = c from rfl]
    have hx : nextP c (n : Int) h w = (⟨0, 0, 0, 0⟩, false, 80) := by
      rcases nextP_cases (c := c) (a := (n : Int)) (h := h) (w := w) rfl with ⟨_, h3⟩ | ⟨h3, _⟩ | ⟨h3, _⟩ | ⟨h3, _⟩ | ⟨h3, _⟩
      · rw [h3, check_bad (by simpa using hc)]
      all_goals exact absurd h3 hc
    rw [hx]; rfl
theorem rAllP_le (c : Chain) (a : Int) (h w : Nat → Int) (ha : 0 ≤ a ∧ a < 18446744073709551616) (hn : c.members.nil = true → c.members.D = []) : (rAllP c a h w).1.D.length ≤ 12 ∧ (rAllP c a h w).2.1.members.D.length ≤ 6 := by
  rw [rAllP_eq c a h w ha hn]; exact allP_le c a h w ha
end Go.Proofs.Ytaffaalpgpepeaa
/- Laws. No conditions. -/
namespace Go.Proofs.Ytaffaalpgpepeaa
open Go.Am
def lawAll (c : Chain) (alive : Int) (h : (Nat → Int)) (w : (Nat → Int)) : Bool :=
  (bif (decide ((c.members.D.length : Int) > 60)) then (awake ) else (bif (eqCmds (allP (Chain.mk c.epoch (cloneMembers c.members)) alive h w).1 (rAllP c alive h w).1) then (bif (rSame (allP (Chain.mk c.epoch (cloneMembers c.members)) alive h w).2.1 (rAllP c alive h w).2.1) then (bif ((allP (Chain.mk c.epoch (cloneMembers c.members)) alive h w).2.2 == (rAllP c alive h w).2.2) then (bif (same (Chain.mk c.epoch (cloneMembers c.members)) c) then (awake ) else false) else false) else false) else false))
theorem lawAll_calls (c : Chain) (alive : Int) (h : (Nat → Int)) (w : (Nat → Int)) (hn : c.members.nil = true → c.members.D = []) (ha : 0 ≤ alive ∧ alive < 18446744073709551616) (hl1 : c.members.D.length ≤ 1000000) : PCalls Try.prog 4 [.agg [.pv (.lit (.int .i64 c.epoch)), sS (some c.members.nil) eMember c.members.D], .pv (.lit (.int .u64 alive)), .agg [.pv (.lit (.int .i64 (h 0))), .pv (.lit (.int .i64 (h 1))), .pv (.lit (.int .i64 (h 2))), .pv (.lit (.int .i64 (h 3))), .pv (.lit (.int .i64 (h 4))), .pv (.lit (.int .i64 (h 5)))], .agg [.pv (.lit (.int .i64 (w 0))), .pv (.lit (.int .i64 (w 1))), .pv (.lit (.int .i64 (w 2)))]] (.pv (.lit (.bool (lawAll c alive h w)))) := by
 generalize hR : lawAll c alive h w = R
 refine PCalls.of_body tabOk Try.func4 rfl rfl rfl rfl rfl mixed fun E hP C hI => ?_
 refine Awp.consP C ?_
 refine rvc_un (rexec_prim C (δ := { v := .ptr 4 0, new := [(4, .cells [.pv (.lit (.int .i64 c.epoch)), sS (some c.members.nil) eMember c.members.D])] }) rfl rfl rfl rfl trivial rfl ?_)
 refine rvc_un (rexec_prim C (δ := { v := .ptr 6 0, new := [(6, .cells [.pv (.lit (.int .i64 (h 0))), .pv (.lit (.int .i64 (h 1))), .pv (.lit (.int .i64 (h 2))), .pv (.lit (.int .i64 (h 3))), .pv (.lit (.int .i64 (h 4))), .pv (.lit (.int .i64 (h 5)))])] }) rfl rfl rfl rfl trivial rfl ?_)
 refine rvc_un (rexec_prim C (δ := { v := .ptr 7 0, new := [(7, .cells [.pv (.lit (.int .i64 (w 0))), .pv (.lit (.int .i64 (w 1))), .pv (.lit (.int .i64 (w 2)))])] }) rfl rfl rfl rfl trivial rfl ?_)
 refine rvP C (.pv (.lit (.bool false))) ?_
 refine rvc_nil ?_
 refine Awp.seq ?_
 refine Awp.consP C ?_
 refine rvP C (.ptr 4 1) ?_
 refine rvP C (sS (some c.members.nil) eMember c.members.D) ?_
 refine rvP C (.pv (.lit (.int .i64 (c.members.D.length : Int)))) ?_
 refine rvP C (.pv (.lit (.bool (decide ((c.members.D.length : Int) > 60))))) ?_
 refine rvc_nil ?_
 refine Awp.cond (b := (decide ((c.members.D.length : Int) > 60))) rfl (fun h1 => ?_) (fun h1 => ?_)
 ·
  replace hR := of_true h1 hR
  refine Awp.consP C ?_
  obtain ⟨aw, hq_aw⟩ : ∃ q_, q_ = (awake ) := ⟨_, rfl⟩
  have hc_aw := (awake_calls )
  first | rw [← hq_aw] at hR hc_aw | (unfold lawAll at hR; rw [← hq_aw] at hR hc_aw)
  refine rvc_un (rexec_call hP C rfl rfl rfl hc_aw ?_)
  refine rvP C (.pv (.lit (.bool aw))) ?_
  refine rvc_nil ?_
  refine Awp.ret ?_
  subst hR
  exact ⟨.inl rfl, rfl⟩
 ·
  replace hR := of_false h1 hR
  refine Awp.skip ?_
  refine Awp.consP C ?_
  refine rvP C (.ptr 4 0) ?_
  refine rvP C (.pv (.lit (.int .i64 c.epoch))) ?_
  refine rvP C (.ptr 4 1) ?_
  refine rvP C (sS (some c.members.nil) eMember c.members.D) ?_
  refine rvc_un (rexec_call hP C rfl rfl rfl (cloneMembers_calls c.members hl1) ?_)
  refine rvP C (.agg [.pv (.lit (.int .i64 c.epoch)), sS (some (cloneMembers c.members).nil) eMember ((cloneMembers c.members).D)]) ?_
  refine rvc_un (rexec_prim C (δ := { v := .ptr 9 0, new := [(9, .cells [.pv (.lit (.int .i64 0)), sS (some true) eMember []])] }) rfl rfl rfl rfl trivial rfl ?_)
  refine rvc_un (rexec_prim C (δ := { v := .undef, wr := [(9, some (.cells [.pv (.lit (.int .i64 c.epoch)), sS (some (cloneMembers c.members).nil) eMember ((cloneMembers c.members).D)]))] }) rfl rfl rfl rfl trivial rfl ?_)
  refine rvc_nil ?_
  refine Awp.consP C ?_
  refine rvP C (.agg [.pv (.lit (.int .i64 c.epoch)), sS (some (cloneMembers c.members).nil) eMember ((cloneMembers c.members).D)]) ?_
  refine rvP C (.pv (.lit (.int .u64 alive))) ?_
  refine rvP C (.agg [.pv (.lit (.int .i64 (h 0))), .pv (.lit (.int .i64 (h 1))), .pv (.lit (.int .i64 (h 2))), .pv (.lit (.int .i64 (h 3))), .pv (.lit (.int .i64 (h 4))), .pv (.lit (.int .i64 (h 5)))]) ?_
  refine rvP C (.agg [.pv (.lit (.int .i64 (w 0))), .pv (.lit (.int .i64 (w 1))), .pv (.lit (.int .i64 (w 2)))]) ?_
  obtain ⟨ap, hq_ap⟩ : ∃ q_, q_ = (allP (Chain.mk c.epoch (cloneMembers c.members)) alive h w) := ⟨_, rfl⟩
  have hc_ap := (allP_calls (Chain.mk c.epoch (cloneMembers c.members)) alive h w (clone_hn c.members) ha (by show ((cloneMembers c.members).D).length ≤ 1000000; have := clone_len c.members; have := of_decide_eq_false h1; omega))
  first | rw [← hq_ap] at hR hc_ap | (unfold lawAll at hR; rw [← hq_ap] at hR hc_ap)
  have hf0_ap := (allP_le (Chain.mk c.epoch (cloneMembers c.members)) alive h w ha).1
  rw [← hq_ap] at hf0_ap
  have hf1_ap := (allP_le (Chain.mk c.epoch (cloneMembers c.members)) alive h w ha).2
  rw [← hq_ap] at hf1_ap
  refine rvc_un (rexec_call hP C rfl rfl rfl hc_ap ?_)
  refine rvP C (.tup [sS (some ap.1.nil) eCommand ap.1.D, .agg [.pv (.lit (.int .i64 ap.2.1.epoch)), sS (some ap.2.1.members.nil) eMember ap.2.1.members.D], .pv (.lit (.int .i64 ap.2.2))]) ?_
  refine rvP C (sS (some ap.1.nil) eCommand ap.1.D) ?_
  refine rvP C (.agg [.pv (.lit (.int .i64 ap.2.1.epoch)), sS (some ap.2.1.members.nil) eMember ap.2.1.members.D]) ?_
  refine rvP C (.pv (.lit (.int .i64 ap.2.2))) ?_
  refine rvc_un (rexec_prim C (δ := { v := .ptr 11 0, new := [(11, .cells [.pv (.lit (.int .i64 0)), sS (some true) eMember []])] }) rfl rfl rfl rfl trivial rfl ?_)
  refine rvP C (sS (some ap.1.nil) eCommand ap.1.D) ?_
  refine rvc_un (rexec_prim C (δ := { v := .undef, wr := [(11, some (.cells [.pv (.lit (.int .i64 ap.2.1.epoch)), sS (some ap.2.1.members.nil) eMember ap.2.1.members.D]))] }) rfl rfl rfl rfl trivial rfl ?_)
  refine rvP C (.pv (.lit (.int .i64 ap.2.2))) ?_
  refine rvc_nil ?_
  refine Awp.consP C ?_
  refine rvP C (.agg [.pv (.lit (.int .i64 c.epoch)), sS (some c.members.nil) eMember c.members.D]) ?_
  refine rvP C (.pv (.lit (.int .u64 alive))) ?_
  refine rvP C (.agg [.pv (.lit (.int .i64 (h 0))), .pv (.lit (.int .i64 (h 1))), .pv (.lit (.int .i64 (h 2))), .pv (.lit (.int .i64 (h 3))), .pv (.lit (.int .i64 (h 4))), .pv (.lit (.int .i64 (h 5)))]) ?_
  refine rvP C (.agg [.pv (.lit (.int .i64 (w 0))), .pv (.lit (.int .i64 (w 1))), .pv (.lit (.int .i64 (w 2)))]) ?_
  obtain ⟨rp, hq_rp⟩ : ∃ q_, q_ = (rAllP c alive h w) := ⟨_, rfl⟩
  have hc_rp := (rAllP_calls c alive h w (by have := clone_len c.members; have := of_decide_eq_false h1; omega))
  first | rw [← hq_rp] at hR hc_rp | (unfold lawAll at hR; rw [← hq_rp] at hR hc_rp)
  have hf0_rp := (rAllP_le c alive h w ha hn).1
  rw [← hq_rp] at hf0_rp
  have hf1_rp := (rAllP_le c alive h w ha hn).2
  rw [← hq_rp] at hf1_rp
  refine rvc_un (rexec_call hP C rfl rfl rfl hc_rp ?_)
  refine rvP C (.tup [sS (some rp.1.nil) eCommand rp.1.D, .agg [.pv (.lit (.int .i64 rp.2.1.epoch)), sS (some rp.2.1.members.nil) eMember rp.2.1.members.D], .pv (.lit (.int .i64 rp.2.2))]) ?_
  refine rvP C (sS (some rp.1.nil) eCommand rp.1.D) ?_
  refine rvP C (.agg [.pv (.lit (.int .i64 rp.2.1.epoch)), sS (some rp.2.1.members.nil) eMember rp.2.1.members.D]) ?_
  refine rvP C (.pv (.lit (.int .i64 rp.2.2))) ?_
  refine rvc_un (rexec_prim C (δ := { v := .ptr 14 0, new := [(14, .cells [.pv (.lit (.int .i64 0)), sS (some true) eMember []])] }) rfl rfl rfl rfl trivial rfl ?_)
  refine rvP C (sS (some rp.1.nil) eCommand rp.1.D) ?_
  refine rvc_un (rexec_prim C (δ := { v := .undef, wr := [(14, some (.cells [.pv (.lit (.int .i64 rp.2.1.epoch)), sS (some rp.2.1.members.nil) eMember rp.2.1.members.D]))] }) rfl rfl rfl rfl trivial rfl ?_)
  refine rvP C (.pv (.lit (.int .i64 rp.2.2))) ?_
  refine rvc_nil ?_
  refine Awp.consP C ?_
  refine rvP C (sS (some ap.1.nil) eCommand ap.1.D) ?_
  refine rvP C (sS (some rp.1.nil) eCommand rp.1.D) ?_
  obtain ⟨ec, hq_ec⟩ : ∃ q_, q_ = (eqCmds ap.1 rp.1) := ⟨_, rfl⟩
  have hc_ec := (eqCmds_calls ap.1 rp.1 (by show ap.1.D.length ≤ 1000000; have := clone_len c.members; have := of_decide_eq_false h1; omega))
  first | rw [← hq_ec] at hR hc_ec | (unfold lawAll at hR; rw [← hq_ec] at hR hc_ec)
  refine rvc_un (rexec_call hP C rfl rfl rfl hc_ec ?_)
  refine rvP C (.pv (.lit (.bool ec))) ?_
  refine rvc_case 48 ec rfl (fun h2 => ?_) (fun h2 => ?_)
  ·
   replace hR := of_true h2 hR
   refine rvO C (.agg [.pv (.lit (.int .i64 ap.2.1.epoch)), sS (some ap.2.1.members.nil) eMember ap.2.1.members.D]) ?_
   refine rvO C (.agg [.pv (.lit (.int .i64 rp.2.1.epoch)), sS (some rp.2.1.members.nil) eMember rp.2.1.members.D]) ?_
   obtain ⟨rs, hq_rs⟩ : ∃ q_, q_ = (rSame ap.2.1 rp.2.1) := ⟨_, rfl⟩
   have hc_rs := (rSame_calls ap.2.1 rp.2.1 (by show ap.2.1.members.D.length ≤ 9223372036854775807; have := clone_len c.members; have := of_decide_eq_false h1; omega))
   first | rw [← hq_rs] at hR hc_rs | (unfold lawAll at hR; rw [← hq_rs] at hR hc_rs)
   refine rvc_open rfl rfl rfl (rexec_call hP C rfl rfl rfl hc_rs ?_)
   refine rvP C (.pv (.lit (.bool rs))) ?_
   refine rvP C (.pv (.lit (.bool rs))) ?_
   refine rvc_case 53 rs rfl (fun h3 => ?_) (fun h3 => ?_)
   ·
    replace hR := of_true h3 hR
    refine rvO C (.pv (.lit (.int .i64 ap.2.2))) ?_
    refine rvO C (.pv (.lit (.int .i64 rp.2.2))) ?_
    refine rvO C (.pv (.lit (.bool (ap.2.2 == rp.2.2)))) ?_
    refine rvP C (.pv (.lit (.bool (ap.2.2 == rp.2.2)))) ?_
    refine rvP C (.pv (.lit (.bool (ap.2.2 == rp.2.2)))) ?_
    refine rvc_case 58 (ap.2.2 == rp.2.2) rfl (fun h4 => ?_) (fun h4 => ?_)
    ·
     replace hR := of_true h4 hR
     refine rvO C (.agg [.pv (.lit (.int .i64 c.epoch)), sS (some (cloneMembers c.members).nil) eMember ((cloneMembers c.members).D)]) ?_
     refine rvO C (.agg [.pv (.lit (.int .i64 c.epoch)), sS (some c.members.nil) eMember c.members.D]) ?_
     obtain ⟨sm, hq_sm⟩ : ∃ q_, q_ = (same (Chain.mk c.epoch (cloneMembers c.members)) c) := ⟨_, rfl⟩
     have hc_sm := (same_calls (Chain.mk c.epoch (cloneMembers c.members)) c (by show ((cloneMembers c.members).D).length ≤ 9223372036854775807; have := clone_len c.members; have := of_decide_eq_false h1; have := beq_iff_eq.1 h4; omega))
     first | rw [← hq_sm] at hR hc_sm | (unfold lawAll at hR; rw [← hq_sm] at hR hc_sm)
     refine rvc_open rfl rfl rfl (rexec_call hP C rfl rfl rfl hc_sm ?_)
     refine rvP C (.pv (.lit (.bool sm))) ?_
     refine rvP C (.pv (.lit (.bool sm))) ?_
     refine rvc_case 63 sm rfl (fun h5 => ?_) (fun h5 => ?_)
     ·
      replace hR := of_true h5 hR
      obtain ⟨aw1, hq_aw1⟩ : ∃ q_, q_ = (awake ) := ⟨_, rfl⟩
      have hc_aw1 := (awake_calls )
      first | rw [← hq_aw1] at hR hc_aw1 | (unfold lawAll at hR; rw [← hq_aw1] at hR hc_aw1)
      refine rvc_open rfl rfl rfl (rexec_call hP C rfl rfl rfl hc_aw1 ?_)
      refine rvP C (.pv (.lit (.bool aw1))) ?_
      refine rvP C (.pv (.lit (.bool aw1))) ?_
      refine rvc_nil ?_
      refine Awp.ret ?_
      subst hR
      exact ⟨.inl rfl, rfl⟩
     ·
      replace hR := of_false h5 hR
      refine rvS ?_
      refine rvP C (.pv (.lit (.bool false))) ?_
      refine rvP C (.pv (.lit (.bool false))) ?_
      refine rvc_nil ?_
      refine Awp.ret ?_
      subst hR
      exact ⟨.inl rfl, rfl⟩
    ·
     replace hR := of_false h4 hR
     refine rvS ?_
     refine rvS ?_
     refine rvS ?_
     refine rvP C (.pv (.lit (.bool false))) ?_
     refine rvP C (.pv (.lit (.bool false))) ?_
     refine rvS ?_
     refine rvP C (.pv (.lit (.bool false))) ?_
     refine rvP C (.pv (.lit (.bool false))) ?_
     refine rvc_nil ?_
     refine Awp.ret ?_
     subst hR
     exact ⟨.inl rfl, rfl⟩
   ·
    replace hR := of_false h3 hR
    refine rvS ?_
    refine rvS ?_
    refine rvS ?_
    refine rvP C (.pv (.lit (.bool false))) ?_
    refine rvP C (.pv (.lit (.bool false))) ?_
    refine rvS ?_
    refine rvS ?_
    refine rvS ?_
    refine rvP C (.pv (.lit (.bool false))) ?_
    refine rvP C (.pv (.lit (.bool false))) ?_
    refine rvS ?_
    refine rvP C (.pv (.lit (.bool false))) ?_
    refine rvP C (.pv (.lit (.bool false))) ?_
    refine rvc_nil ?_
    refine Awp.ret ?_
    subst hR
    exact ⟨.inl rfl, rfl⟩
  ·
   replace hR := of_false h2 hR
   refine rvS ?_
   refine rvS ?_
   refine rvS ?_
   refine rvP C (.pv (.lit (.bool false))) ?_
   refine rvP C (.pv (.lit (.bool false))) ?_
   refine rvS ?_
   refine rvS ?_
   refine rvS ?_
   refine rvP C (.pv (.lit (.bool false))) ?_
   refine rvP C (.pv (.lit (.bool false))) ?_
   refine rvS ?_
   refine rvS ?_
   refine rvS ?_
   refine rvP C (.pv (.lit (.bool false))) ?_
   refine rvP C (.pv (.lit (.bool false))) ?_
   refine rvS ?_
   refine rvP C (.pv (.lit (.bool false))) ?_
   refine rvP C (.pv (.lit (.bool false))) ?_
   refine rvc_nil ?_
   refine Awp.ret ?_
   subst hR
   exact ⟨.inl rfl, rfl⟩
end Go.Proofs.Ytaffaalpgpepeaa
/- The laws PlanAll, PlanEnds and PlanWished in plain Lean: their models answer true. No conditions. -/
namespace Go.Proofs.Ytaffaalpgpepeaa
open Go.Am
theorem eqCmds_self (s : Sl Command) : eqCmds s s = true := by
  have key : ∀ (l : List Command) (i : Nat), l = s.D.drop i → eqCmds_l0 s l i = true := by
    intro l
    induction l with
    | nil => intro i _; rfl
    | cons x l ih =>
      intro i hl
      have hi : i < s.D.length := by
        apply Classical.byContradiction
        intro h
        rw [List.drop_of_length_le (by omega)] at hl; cases hl
      have hx : s.D[(i : Int).toNat]! = x := by
        rw [Int.toNat_natCast, getElem!_pos s.D i hi]
        rw [List.drop_eq_getElem_cons hi] at hl
        exact (List.cons.inj hl).1.symm
      have hl' : l = s.D.drop (i + 1) := by
        rw [List.drop_eq_getElem_cons hi] at hl
        exact (List.cons.inj hl).2
      unfold eqCmds_l0
      rw [hx, ih (i + 1) hl']
      simp
  unfold eqCmds
  rw [key s.D 0 rfl]
  simp
theorem lawAll_true (c : Chain) (a : Int) (h w : Nat → Int) (ha : 0 ≤ a ∧ a < 18446744073709551616) (hn : c.members.nil = true → c.members.D = []) : lawAll c a h w = true := by
  unfold lawAll
  rw [clone_eq hn, show (Chain.mk c.epoch c.members) = c from rfl, rAllP_eq c a h w ha hn, eqCmds_self, rSame_of (eqC_refl _), same_self, awake_true]
  simp
end Go.Proofs.Ytaffaalpgpepeaa
/- Laws of chapter 14 at chains that are too long. No conditions. -/
namespace Go.Proofs.Ytaffaalpgpepeaa
open Go.Am
def biglawAll (_c : Chain) (_alive : Int) (_h : (Nat → Int)) (_w : (Nat → Int)) : Bool :=
  (awake )
theorem biglawAll_calls (c : Chain) (alive : Int) (h : (Nat → Int)) (w : (Nat → Int)) (hbig : (decide ((c.members.D.length : Int) > 60)) = true) : PCalls Try.prog 4 [.agg [.pv (.lit (.int .i64 c.epoch)), sS (some c.members.nil) eMember c.members.D], .pv (.lit (.int .u64 alive)), .agg [.pv (.lit (.int .i64 (h 0))), .pv (.lit (.int .i64 (h 1))), .pv (.lit (.int .i64 (h 2))), .pv (.lit (.int .i64 (h 3))), .pv (.lit (.int .i64 (h 4))), .pv (.lit (.int .i64 (h 5)))], .agg [.pv (.lit (.int .i64 (w 0))), .pv (.lit (.int .i64 (w 1))), .pv (.lit (.int .i64 (w 2)))]] (.pv (.lit (.bool (biglawAll c alive h w)))) := by
 generalize hR : biglawAll c alive h w = R
 refine PCalls.of_body tabOk Try.func4 rfl rfl rfl rfl rfl mixed fun E hP C hI => ?_
 refine Awp.consP C ?_
 refine rvc_un (rexec_prim C (δ := { v := .ptr 4 0, new := [(4, .cells [.pv (.lit (.int .i64 c.epoch)), sS (some c.members.nil) eMember c.members.D])] }) rfl rfl rfl rfl trivial rfl ?_)
 refine rvc_un (rexec_prim C (δ := { v := .ptr 6 0, new := [(6, .cells [.pv (.lit (.int .i64 (h 0))), .pv (.lit (.int .i64 (h 1))), .pv (.lit (.int .i64 (h 2))), .pv (.lit (.int .i64 (h 3))), .pv (.lit (.int .i64 (h 4))), .pv (.lit (.int .i64 (h 5)))])] }) rfl rfl rfl rfl trivial rfl ?_)
 refine rvc_un (rexec_prim C (δ := { v := .ptr 7 0, new := [(7, .cells [.pv (.lit (.int .i64 (w 0))), .pv (.lit (.int .i64 (w 1))), .pv (.lit (.int .i64 (w 2)))])] }) rfl rfl rfl rfl trivial rfl ?_)
 refine rvP C (.pv (.lit (.bool false))) ?_
 refine rvc_nil ?_
 refine Awp.seq ?_
 refine Awp.consP C ?_
 refine rvP C (.ptr 4 1) ?_
 refine rvP C (sS (some c.members.nil) eMember c.members.D) ?_
 refine rvP C (.pv (.lit (.int .i64 (c.members.D.length : Int)))) ?_
 refine rvP C (.pv (.lit (.bool (decide ((c.members.D.length : Int) > 60))))) ?_
 refine rvc_nil ?_
 refine Awp.condT (b := (decide ((c.members.D.length : Int) > 60))) rfl hbig ?_
 refine Awp.consP C ?_
 obtain ⟨aw, hq_aw⟩ : ∃ q_, q_ = (awake ) := ⟨_, rfl⟩
 have hc_aw := (awake_calls )
 first | rw [← hq_aw] at hR hc_aw | (unfold biglawAll at hR; rw [← hq_aw] at hR hc_aw)
 refine rvc_un (rexec_call hP C rfl rfl rfl hc_aw ?_)
 refine rvP C (.pv (.lit (.bool aw))) ?_
 refine rvc_nil ?_
 refine Awp.ret ?_
 subst hR
 exact ⟨.inl rfl, rfl⟩
end Go.Proofs.Ytaffaalpgpepeaa
/- Laws of chapter 14 at chains that are too long. No conditions. -/
namespace Go.Proofs.Ytaffaalpgpepeaa
open Go.Am
end Go.Proofs.Ytaffaalpgpepeaa
/- Inputs of chapter 14, as plain values. No conditions. -/
namespace Go.Proofs.Ytaffaalpgpepeaa
open Go.Am
set_option maxRecDepth 100000 in
theorem flat3 {m : Nat} {ps : List PV} (h : Flat Try.prog (m + 1) 3 ps) : ∃ n, ps = [.lit (.int .i64 n)] ∧ (Lit.int .i64 n).wf = true := by
  unfold Flat at h
  rw [Try.underlying3] at h
  exact h
set_option maxRecDepth 100000 in
theorem flat4 {m : Nat} {ps : List PV} (h : Flat Try.prog (m + 1) 4 ps) : ∃ b, ps = [.lit (.bool b)] ∧ True := by
  unfold Flat at h
  rw [Try.underlying4] at h
  obtain ⟨b, h⟩ := h
  exact ⟨b, h, trivial⟩
def WT41 (x : Member) : Prop := (Lit.int .i64 x.node).wf = true ∧ (Lit.int .i64 x.site).wf = true ∧ True
set_option maxRecDepth 100000 in
theorem flat41 {m : Nat} {ps : List PV} (h : Flat Try.prog (m + 2) 41 ps) : ∃ x : Member, ps = eMember.enc x ∧ WT41 x := by
  unfold Flat at h
  rw [Try.underlying41] at h
  obtain ⟨a0, b0, e0, h0, a1, b1, e1, h1, a2, b2, e2, h2, el⟩ := h
  obtain ⟨x0, rfl, w0⟩ := flat3 (m := m + 0) h0
  obtain ⟨x1, rfl, w1⟩ := flat3 (m := m + 0) h1
  obtain ⟨x2, rfl, w2⟩ := flat4 (m := m + 0) h2
  subst el
  subst e2
  subst e1
  subst e0
  exact ⟨⟨x0, x1, x2⟩, rfl, w0, w1, w2⟩
def WT22 (s : Sl Member) : Prop := s.D.length ≤ maxLen ∧ (s.nil = true → s.D = []) ∧ ∀ x ∈ s.D, WT41 x
set_option maxRecDepth 100000 in
theorem flat22 {m : Nat} {ps : List PV} (h : Flat Try.prog (m + 3) 22 ps) : ∃ s : Sl Member, ps = [.sl (some s.nil) s.D.length (encL eMember s.D)] ∧ WT22 s := by
  unfold Flat at h
  rw [Try.underlying22] at h
  obtain ⟨b, D, rfl, h1, h2, h3⟩ := h
  obtain ⟨D2, e1, e2, e3⟩ := enc_list (e := eMember) (W := fun x => WT41 x) D fun y hy => flat41 (h3 y hy)
  rw [e2, ← e1]
  exact ⟨⟨b, D2⟩, rfl, (by show D2.length ≤ _; rw [e1]; exact h1), (fun hb => by have := h2 hb; rw [this] at e1; exact List.eq_nil_of_length_eq_zero e1), e3⟩
def WT24 (x : Chain) : Prop := (Lit.int .i64 x.epoch).wf = true ∧ WT22 x.members
set_option maxRecDepth 100000 in
theorem flat24 {m : Nat} {ps : List PV} (h : Flat Try.prog (m + 4) 24 ps) : ∃ x : Chain, ps = eChain.enc x ∧ WT24 x := by
  unfold Flat at h
  rw [Try.underlying24] at h
  obtain ⟨a0, b0, e0, h0, a1, b1, e1, h1, el⟩ := h
  obtain ⟨x0, rfl, w0⟩ := flat3 (m := m + 2) h0
  obtain ⟨x1, rfl, w1⟩ := flat22 (m := m + 0) h1
  subst el
  subst e1
  subst e0
  exact ⟨⟨x0, x1⟩, rfl, w0, w1⟩
end Go.Proofs.Ytaffaalpgpepeaa
/- The contract of the law PlanNext: it is true, whatever the input. No conditions. -/
namespace Go.Proofs.Ytaffaalpgpepeaa
open Go.Am
theorem u64_range {a : Int} (h : (Lit.int .u64 a).wf = true) : 0 ≤ a ∧ a < 18446744073709551616 := by
  have h : (decide (IntKind.u64.min ≤ a) && decide (a ≤ IntKind.u64.max)) = true := h
  rw [Bool.and_eq_true] at h
  have h1 := of_decide_eq_true h.1
  have h2 := of_decide_eq_true h.2
  have e1 : IntKind.u64.min = 0 := rfl
  have e2 : IntKind.u64.max = 18446744073709551615 := rfl
  omega
end Go.Proofs.Ytaffaalpgpepeaa
/- The contracts of the laws PlanAll, PlanEnds and PlanWished: each is true, whatever the input. No conditions. -/
namespace Go.Proofs.Ytaffaalpgpepeaa
open Go.Am
theorem planAll_calls (c : Chain) (wc : WT24 c) (a : Int) (wa : (Lit.int .u64 a).wf = true) (h w : Nat → Int) : PCalls Try.prog 4 [.agg ((eChain.enc c).map .pv), .pv (.lit (.int .u64 a)), .agg (cI .i64 (tb 6 h)), .agg (cI .i64 (tb 3 w))] (.pv (.bool true)) := by
  cases hb : (decide ((c.members.D.length : Int) > 60))
  · have := of_decide_eq_false hb
    have r := lawAll_calls c a h w wc.2.2.1 (u64_range wa) (by omega)
    rw [lawAll_true c a h w (u64_range wa) wc.2.2.1] at r
    exact r
  · have r := biglawAll_calls c a h w hb
    rw [show biglawAll c a h w = true from awake_true] at r
    exact r
end Go.Proofs.Ytaffaalpgpepeaa
/- What all rows of this seat need: no knob is turned, the types are laid out. No conditions. -/
namespace Go.Proofs.Ytaffaalpgpepeaa
open Go.Am
theorem own : ownKnob Try.prog.godebug = none := by kernel_rfl
theorem laidOut : laidOutB Try.prog = true := by kernel_rfl
end Go.Proofs.Ytaffaalpgpepeaa
