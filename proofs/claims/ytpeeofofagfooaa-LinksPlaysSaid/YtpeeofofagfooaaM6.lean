import Derived.Test.YtpeeofofagfooaaM1
import Derived.Test.YtpeeofofagfooaaM2
import Derived.Test.YtpeeofofagfooaaM3
import Derived.Test.YtpeeofofagfooaaM5
/- A law: plays. No conditions. -/
namespace Go.Proofs.Ytpeeofofagfooaa
open Go.Am
def lawPlays_l2 (kk : (List Int) → Bool) : List Int → Nat → (List Int) → Bool
  | [], _, vc2 => kk vc2
  | _ :: x1s, i2, vc2 => lawPlays_l2 kk x1s (i2 + 1) (vc2.set i2 (bitI .xor .u8 (vc2[i2]!) 255))
def lawPlays_l3 (kk : (List Int) → Bool) : List Int → Nat → (List Int) → Bool
  | [], _, vc2 => kk vc2
  | _ :: x1s, i2, vc2 => lawPlays_l3 kk x1s (i2 + 1) (vc2.set i2 (bitI .xor .u8 (vc2[i2]!) 255))
def lawPlays_l1 (kk : (List Int) → Bool) : List Int → Nat → (List Int) → Bool
  | [], _, vc2 => kk vc2
  | _ :: x1s, i2, vc2 => lawPlays_l1 kk x1s (i2 + 1) (vc2.set i2 (bitI .xor .u8 (vc2[i2]!) 255))
def lawPlays_l0 (i : Int) : List Do → Nat → Net → Net51 → Bool
  | [], _, vc, vc1 => (bif (eqLinks (nBusy vc) (rBusy vc1)) then (awake ) else false)
  | x :: xs, i1, vc, vc1 => (bif x.b.nil then (bif (does vc (Do.mk x.op x.i x.l (Sl.mk true []) x.side)).2.1.nil then (bif (!((strOf []).toList == (also vc1 x).2.1.toList)) then false else (bif (!((does vc (Do.mk x.op x.i x.l (Sl.mk true []) x.side)).2.2.1 == (also vc1 x).2.2.1)) then false else (bif ((does vc (Do.mk x.op x.i x.l (Sl.mk true []) x.side)).2.2.2 != (also vc1 x).2.2.2) then false else (bif ((nLost (does vc (Do.mk x.op x.i x.l (Sl.mk true []) x.side)).1) != (also vc1 x).1.lost) then false else (bif ((nLen (does vc (Do.mk x.op x.i x.l (Sl.mk true []) x.side)).1 x.l) != (rLen (also vc1 x).1 x.l)) then false else (bif (nPeek (does vc (Do.mk x.op x.i x.l (Sl.mk true []) x.side)).1 x.l i).1.nil then (bif (!((strOf []).toList == ((rPeek (also vc1 x).1 x.l i).1).toList)) then false else (bif (((nPeek (does vc (Do.mk x.op x.i x.l (Sl.mk true []) x.side)).1 x.l i).2) != ((rPeek (also vc1 x).1 x.l i).2)) then false else lawPlays_l0 i xs (i1 + 1) (does vc (Do.mk x.op x.i x.l (Sl.mk true []) x.side)).1 (also vc1 x).1)) else (bif (!((strOf ((nPeek (does vc (Do.mk x.op x.i x.l (Sl.mk true []) x.side)).1 x.l i).1.D)).toList == ((rPeek (also vc1 x).1 x.l i).1).toList)) then false else (bif (((nPeek (does vc (Do.mk x.op x.i x.l (Sl.mk true []) x.side)).1 x.l i).2) != ((rPeek (also vc1 x).1 x.l i).2)) then false else lawPlays_l2 (fun _vc2 => lawPlays_l0 i xs (i1 + 1) (does vc (Do.mk x.op x.i x.l (Sl.mk true []) x.side)).1 (also vc1 x).1) ((nPeek (does vc (Do.mk x.op x.i x.l (Sl.mk true []) x.side)).1 x.l i).1.D) 0 ((nPeek (does vc (Do.mk x.op x.i x.l (Sl.mk true []) x.side)).1 x.l i).1.D))))))))) else (bif (!((strOf (does vc (Do.mk x.op x.i x.l (Sl.mk true []) x.side)).2.1.D).toList == (also vc1 x).2.1.toList)) then false else (bif (!((does vc (Do.mk x.op x.i x.l (Sl.mk true []) x.side)).2.2.1 == (also vc1 x).2.2.1)) then false else (bif ((does vc (Do.mk x.op x.i x.l (Sl.mk true []) x.side)).2.2.2 != (also vc1 x).2.2.2) then false else (bif ((nLost (does vc (Do.mk x.op x.i x.l (Sl.mk true []) x.side)).1) != (also vc1 x).1.lost) then false else (bif ((nLen (does vc (Do.mk x.op x.i x.l (Sl.mk true []) x.side)).1 x.l) != (rLen (also vc1 x).1 x.l)) then false else (bif (nPeek (does vc (Do.mk x.op x.i x.l (Sl.mk true []) x.side)).1 x.l i).1.nil then (bif (!((strOf []).toList == ((rPeek (also vc1 x).1 x.l i).1).toList)) then false else (bif (((nPeek (does vc (Do.mk x.op x.i x.l (Sl.mk true []) x.side)).1 x.l i).2) != ((rPeek (also vc1 x).1 x.l i).2)) then false else lawPlays_l3 (fun _vc2 => lawPlays_l0 i xs (i1 + 1) (does vc (Do.mk x.op x.i x.l (Sl.mk true []) x.side)).1 (also vc1 x).1) (does vc (Do.mk x.op x.i x.l (Sl.mk true []) x.side)).2.1.D 0 (does vc (Do.mk x.op x.i x.l (Sl.mk true []) x.side)).2.1.D)) else (bif (!((strOf ((nPeek (does vc (Do.mk x.op x.i x.l (Sl.mk true []) x.side)).1 x.l i).1.D)).toList == ((rPeek (also vc1 x).1 x.l i).1).toList)) then false else (bif (((nPeek (does vc (Do.mk x.op x.i x.l (Sl.mk true []) x.side)).1 x.l i).2) != ((rPeek (also vc1 x).1 x.l i).2)) then false else lawPlays_l2 (fun _vc2 => lawPlays_l3 (fun _vc3 => lawPlays_l0 i xs (i1 + 1) (does vc (Do.mk x.op x.i x.l (Sl.mk true []) x.side)).1 (also vc1 x).1) (does vc (Do.mk x.op x.i x.l (Sl.mk true []) x.side)).2.1.D 0 (does vc (Do.mk x.op x.i x.l (Sl.mk true []) x.side)).2.1.D) ((nPeek (does vc (Do.mk x.op x.i x.l (Sl.mk true []) x.side)).1 x.l i).1.D) 0 ((nPeek (does vc (Do.mk x.op x.i x.l (Sl.mk true []) x.side)).1 x.l i).1.D)))))))))) else (bif (does vc (Do.mk x.op x.i x.l (Sl.mk false x.b.D) x.side)).2.1.nil then lawPlays_l1 (fun _vc2 => (bif (!((strOf []).toList == (also vc1 x).2.1.toList)) then false else (bif (!((does vc (Do.mk x.op x.i x.l (Sl.mk false x.b.D) x.side)).2.2.1 == (also vc1 x).2.2.1)) then false else (bif ((does vc (Do.mk x.op x.i x.l (Sl.mk false x.b.D) x.side)).2.2.2 != (also vc1 x).2.2.2) then false else (bif ((nLost (does vc (Do.mk x.op x.i x.l (Sl.mk false x.b.D) x.side)).1) != (also vc1 x).1.lost) then false else (bif ((nLen (does vc (Do.mk x.op x.i x.l (Sl.mk false x.b.D) x.side)).1 x.l) != (rLen (also vc1 x).1 x.l)) then false else (bif (nPeek (does vc (Do.mk x.op x.i x.l (Sl.mk false x.b.D) x.side)).1 x.l i).1.nil then (bif (!((strOf []).toList == ((rPeek (also vc1 x).1 x.l i).1).toList)) then false else (bif (((nPeek (does vc (Do.mk x.op x.i x.l (Sl.mk false x.b.D) x.side)).1 x.l i).2) != ((rPeek (also vc1 x).1 x.l i).2)) then false else lawPlays_l0 i xs (i1 + 1) (does vc (Do.mk x.op x.i x.l (Sl.mk false x.b.D) x.side)).1 (also vc1 x).1)) else (bif (!((strOf ((nPeek (does vc (Do.mk x.op x.i x.l (Sl.mk false x.b.D) x.side)).1 x.l i).1.D)).toList == ((rPeek (also vc1 x).1 x.l i).1).toList)) then false else (bif (((nPeek (does vc (Do.mk x.op x.i x.l (Sl.mk false x.b.D) x.side)).1 x.l i).2) != ((rPeek (also vc1 x).1 x.l i).2)) then false else lawPlays_l2 (fun _vc3 => lawPlays_l0 i xs (i1 + 1) (does vc (Do.mk x.op x.i x.l (Sl.mk false x.b.D) x.side)).1 (also vc1 x).1) ((nPeek (does vc (Do.mk x.op x.i x.l (Sl.mk false x.b.D) x.side)).1 x.l i).1.D) 0 ((nPeek (does vc (Do.mk x.op x.i x.l (Sl.mk false x.b.D) x.side)).1 x.l i).1.D)))))))))) x.b.D 0 x.b.D else lawPlays_l1 (fun _vc2 => (bif (!((strOf (does vc (Do.mk x.op x.i x.l (Sl.mk false x.b.D) x.side)).2.1.D).toList == (also vc1 x).2.1.toList)) then false else (bif (!((does vc (Do.mk x.op x.i x.l (Sl.mk false x.b.D) x.side)).2.2.1 == (also vc1 x).2.2.1)) then false else (bif ((does vc (Do.mk x.op x.i x.l (Sl.mk false x.b.D) x.side)).2.2.2 != (also vc1 x).2.2.2) then false else (bif ((nLost (does vc (Do.mk x.op x.i x.l (Sl.mk false x.b.D) x.side)).1) != (also vc1 x).1.lost) then false else (bif ((nLen (does vc (Do.mk x.op x.i x.l (Sl.mk false x.b.D) x.side)).1 x.l) != (rLen (also vc1 x).1 x.l)) then false else (bif (nPeek (does vc (Do.mk x.op x.i x.l (Sl.mk false x.b.D) x.side)).1 x.l i).1.nil then (bif (!((strOf []).toList == ((rPeek (also vc1 x).1 x.l i).1).toList)) then false else (bif (((nPeek (does vc (Do.mk x.op x.i x.l (Sl.mk false x.b.D) x.side)).1 x.l i).2) != ((rPeek (also vc1 x).1 x.l i).2)) then false else lawPlays_l3 (fun _vc3 => lawPlays_l0 i xs (i1 + 1) (does vc (Do.mk x.op x.i x.l (Sl.mk false x.b.D) x.side)).1 (also vc1 x).1) (does vc (Do.mk x.op x.i x.l (Sl.mk false x.b.D) x.side)).2.1.D 0 (does vc (Do.mk x.op x.i x.l (Sl.mk false x.b.D) x.side)).2.1.D)) else (bif (!((strOf ((nPeek (does vc (Do.mk x.op x.i x.l (Sl.mk false x.b.D) x.side)).1 x.l i).1.D)).toList == ((rPeek (also vc1 x).1 x.l i).1).toList)) then false else (bif (((nPeek (does vc (Do.mk x.op x.i x.l (Sl.mk false x.b.D) x.side)).1 x.l i).2) != ((rPeek (also vc1 x).1 x.l i).2)) then false else lawPlays_l2 (fun _vc3 => lawPlays_l3 (fun _vc4 => lawPlays_l0 i xs (i1 + 1) (does vc (Do.mk x.op x.i x.l (Sl.mk false x.b.D) x.side)).1 (also vc1 x).1) (does vc (Do.mk x.op x.i x.l (Sl.mk false x.b.D) x.side)).2.1.D 0 (does vc (Do.mk x.op x.i x.l (Sl.mk false x.b.D) x.side)).2.1.D) ((nPeek (does vc (Do.mk x.op x.i x.l (Sl.mk false x.b.D) x.side)).1 x.l i).1.D) 0 ((nPeek (does vc (Do.mk x.op x.i x.l (Sl.mk false x.b.D) x.side)).1 x.l i).1.D)))))))))) x.b.D 0 x.b.D))
def lawPlays (l : (Sl Do)) (i : Int) : Bool :=
  (bif (!(short (Sl.mk false [l]))) then (awake ) else lawPlays_l0 i l.D 0 newN (Net51.mk (Sl.mk true []) (ofL [false, false, false, false, false, false, false, false, false, false, false, false, false, false, false, false, false, false, false, false, false, false, false, false, false, false, false, false, false, false, false, false, false, false, false, false, false, false, false, false, false, false, false, false, false, false, false, false, false, false, false, false, false, false, false, false, false, false, false, false, false, false, false, false]) 0))
set_option maxRecDepth 100000 in
set_option maxHeartbeats 8000000 in
theorem lawPlays_calls (l : (Sl Do)) (i : Int) (_hl1 : l.D.length ≤ 9223372036854775807) : PCalls Try.prog 6 [sS (some l.nil) eDo l.D, .pv (.lit (.int .i64 i))] (.pv (.lit (.bool (lawPlays l i)))) := by
  generalize hR : lawPlays l i = R
  refine PCalls.of_body tabOk Try.func6 rfl rfl rfl rfl rfl mixed fun E hP C hI => ?_
  refine Awp.consP C ?_
  refine rvP C (.pv (.lit (.bool false))) ?_
  refine rvc_nil ?_
  refine Awp.seq ?_
  refine Awp.consP C ?_
  refine rvP C (sS (some l.nil) eDo l.D) ?_
  refine rvc_un (rexec_buildSliceF C (eSl eDo) [l] rfl rfl rfl rfl rfl rfl rfl (by decide) rfl ?_)
  refine rvc_un (rexec_call hP C rfl rfl rfl (short_calls (Sl.mk false [l]) (by simp)) ?_)
  refine rvP C (.pv (.lit (.bool (!(short (Sl.mk false [l])))))) ?_
  refine rvc_nil ?_
  refine Awp.cond (b := (!(short (Sl.mk false [l])))) rfl (fun h1 => ?_) (fun h1 => ?_)
  ·
    replace hR := of_true h1 hR
    refine Awp.consP C ?_
    refine rvc_un (rexec_call hP C rfl rfl rfl (awake_calls ) ?_)
    refine rvP C (.pv (.lit (.bool (awake )))) ?_
    refine rvc_nil ?_
    refine Awp.ret ?_
    subst hR
    exact ⟨.inl rfl, rfl⟩
  ·
    replace hR := of_false h1 hR
    refine Awp.skip ?_
    refine Awp.cons C (fun _ => .quiet) (by kernel_rfl) ?_
    refine rvc_un (rexec_callNew hP C 526 rfl rfl rfl rfl rfl rfl newN_calls ?_)
    refine rvP C (.agg [sS (some true) eItem [], .pv (.lit (.bool false)), .pv (.lit (.bool false)), .pv (.lit (.bool false)), .pv (.lit (.bool false)), .pv (.lit (.bool false)), .pv (.lit (.bool false)), .pv (.lit (.bool false)), .pv (.lit (.bool false)), .pv (.lit (.bool false)), .pv (.lit (.bool false)), .pv (.lit (.bool false)), .pv (.lit (.bool false)), .pv (.lit (.bool false)), .pv (.lit (.bool false)), .pv (.lit (.bool false)), .pv (.lit (.bool false)), .pv (.lit (.bool false)), .pv (.lit (.bool false)), .pv (.lit (.bool false)), .pv (.lit (.bool false)), .pv (.lit (.bool false)), .pv (.lit (.bool false)), .pv (.lit (.bool false)), .pv (.lit (.bool false)), .pv (.lit (.bool false)), .pv (.lit (.bool false)), .pv (.lit (.bool false)), .pv (.lit (.bool false)), .pv (.lit (.bool false)), .pv (.lit (.bool false)), .pv (.lit (.bool false)), .pv (.lit (.bool false)), .pv (.lit (.bool false)), .pv (.lit (.bool false)), .pv (.lit (.bool false)), .pv (.lit (.bool false)), .pv (.lit (.bool false)), .pv (.lit (.bool false)), .pv (.lit (.bool false)), .pv (.lit (.bool false)), .pv (.lit (.bool false)), .pv (.lit (.bool false)), .pv (.lit (.bool false)), .pv (.lit (.bool false)), .pv (.lit (.bool false)), .pv (.lit (.bool false)), .pv (.lit (.bool false)), .pv (.lit (.bool false)), .pv (.lit (.bool false)), .pv (.lit (.bool false)), .pv (.lit (.bool false)), .pv (.lit (.bool false)), .pv (.lit (.bool false)), .pv (.lit (.bool false)), .pv (.lit (.bool false)), .pv (.lit (.bool false)), .pv (.lit (.bool false)), .pv (.lit (.bool false)), .pv (.lit (.bool false)), .pv (.lit (.bool false)), .pv (.lit (.bool false)), .pv (.lit (.bool false)), .pv (.lit (.bool false)), .pv (.lit (.bool false)), .pv (.lit (.int .i64 0))]) ?_
    refine rvc_un (rexec_prim C (δ := { v := .ptr 28 0, new := [(28, .cells [sS (some true) eItem [], .pv (.lit (.bool false)), .pv (.lit (.bool false)), .pv (.lit (.bool false)), .pv (.lit (.bool false)), .pv (.lit (.bool false)), .pv (.lit (.bool false)), .pv (.lit (.bool false)), .pv (.lit (.bool false)), .pv (.lit (.bool false)), .pv (.lit (.bool false)), .pv (.lit (.bool false)), .pv (.lit (.bool false)), .pv (.lit (.bool false)), .pv (.lit (.bool false)), .pv (.lit (.bool false)), .pv (.lit (.bool false)), .pv (.lit (.bool false)), .pv (.lit (.bool false)), .pv (.lit (.bool false)), .pv (.lit (.bool false)), .pv (.lit (.bool false)), .pv (.lit (.bool false)), .pv (.lit (.bool false)), .pv (.lit (.bool false)), .pv (.lit (.bool false)), .pv (.lit (.bool false)), .pv (.lit (.bool false)), .pv (.lit (.bool false)), .pv (.lit (.bool false)), .pv (.lit (.bool false)), .pv (.lit (.bool false)), .pv (.lit (.bool false)), .pv (.lit (.bool false)), .pv (.lit (.bool false)), .pv (.lit (.bool false)), .pv (.lit (.bool false)), .pv (.lit (.bool false)), .pv (.lit (.bool false)), .pv (.lit (.bool false)), .pv (.lit (.bool false)), .pv (.lit (.bool false)), .pv (.lit (.bool false)), .pv (.lit (.bool false)), .pv (.lit (.bool false)), .pv (.lit (.bool false)), .pv (.lit (.bool false)), .pv (.lit (.bool false)), .pv (.lit (.bool false)), .pv (.lit (.bool false)), .pv (.lit (.bool false)), .pv (.lit (.bool false)), .pv (.lit (.bool false)), .pv (.lit (.bool false)), .pv (.lit (.bool false)), .pv (.lit (.bool false)), .pv (.lit (.bool false)), .pv (.lit (.bool false)), .pv (.lit (.bool false)), .pv (.lit (.bool false)), .pv (.lit (.bool false)), .pv (.lit (.bool false)), .pv (.lit (.bool false)), .pv (.lit (.bool false)), .pv (.lit (.bool false)), .pv (.lit (.int .i64 0))])] }) rfl rfl rfl rfl trivial rfl ?_)
    refine rvP C (.ptr 26 0) ?_
    refine rvP C (.ptr 28 0) ?_
    refine rvc_nil ?_
    refine Awp.seq ?_
    refine Awp.consP C ?_
    refine rvP C (sS (some l.nil) eDo l.D) ?_
    refine rvP C (.pv (.lit (.int .i64 (l.D.length : Int)))) ?_
    refine rvP C (.pv (.lit (.int .i64 0))) ?_
    refine rvc_nil ?_
    refine Awp.block ?_
    refine Awp.forR (σ := Net × Net51) (l.D.length) (fun i1 v => [(1, .pv (.lit (.int .i64 i))), (5, .ptr 26 0), (6, .ptr 28 0), (29, sS (some l.nil) eDo l.D), (30, .pv (.lit (.int .i64 (l.D.length : Int)))), (31, .pv (.lit (.int .i64 (i1 : Int))))]) (fun i1 v => [(526, mapE kLink vT77.enc v.1.of_), (26, .cells [.mp 526, .pv (.lit (.int .u64 v.1.side)), .pv (.lit (.int .i64 v.1.lost)), .pv (.lit (.bool v.1.made))]), (28, .cells [sS (some v.2.items.nil) eItem v.2.items.D, .pv (.lit (.bool (v.2.side 0))), .pv (.lit (.bool (v.2.side 1))), .pv (.lit (.bool (v.2.side 2))), .pv (.lit (.bool (v.2.side 3))), .pv (.lit (.bool (v.2.side 4))), .pv (.lit (.bool (v.2.side 5))), .pv (.lit (.bool (v.2.side 6))), .pv (.lit (.bool (v.2.side 7))), .pv (.lit (.bool (v.2.side 8))), .pv (.lit (.bool (v.2.side 9))), .pv (.lit (.bool (v.2.side 10))), .pv (.lit (.bool (v.2.side 11))), .pv (.lit (.bool (v.2.side 12))), .pv (.lit (.bool (v.2.side 13))), .pv (.lit (.bool (v.2.side 14))), .pv (.lit (.bool (v.2.side 15))), .pv (.lit (.bool (v.2.side 16))), .pv (.lit (.bool (v.2.side 17))), .pv (.lit (.bool (v.2.side 18))), .pv (.lit (.bool (v.2.side 19))), .pv (.lit (.bool (v.2.side 20))), .pv (.lit (.bool (v.2.side 21))), .pv (.lit (.bool (v.2.side 22))), .pv (.lit (.bool (v.2.side 23))), .pv (.lit (.bool (v.2.side 24))), .pv (.lit (.bool (v.2.side 25))), .pv (.lit (.bool (v.2.side 26))), .pv (.lit (.bool (v.2.side 27))), .pv (.lit (.bool (v.2.side 28))), .pv (.lit (.bool (v.2.side 29))), .pv (.lit (.bool (v.2.side 30))), .pv (.lit (.bool (v.2.side 31))), .pv (.lit (.bool (v.2.side 32))), .pv (.lit (.bool (v.2.side 33))), .pv (.lit (.bool (v.2.side 34))), .pv (.lit (.bool (v.2.side 35))), .pv (.lit (.bool (v.2.side 36))), .pv (.lit (.bool (v.2.side 37))), .pv (.lit (.bool (v.2.side 38))), .pv (.lit (.bool (v.2.side 39))), .pv (.lit (.bool (v.2.side 40))), .pv (.lit (.bool (v.2.side 41))), .pv (.lit (.bool (v.2.side 42))), .pv (.lit (.bool (v.2.side 43))), .pv (.lit (.bool (v.2.side 44))), .pv (.lit (.bool (v.2.side 45))), .pv (.lit (.bool (v.2.side 46))), .pv (.lit (.bool (v.2.side 47))), .pv (.lit (.bool (v.2.side 48))), .pv (.lit (.bool (v.2.side 49))), .pv (.lit (.bool (v.2.side 50))), .pv (.lit (.bool (v.2.side 51))), .pv (.lit (.bool (v.2.side 52))), .pv (.lit (.bool (v.2.side 53))), .pv (.lit (.bool (v.2.side 54))), .pv (.lit (.bool (v.2.side 55))), .pv (.lit (.bool (v.2.side 56))), .pv (.lit (.bool (v.2.side 57))), .pv (.lit (.bool (v.2.side 58))), .pv (.lit (.bool (v.2.side 59))), .pv (.lit (.bool (v.2.side 60))), .pv (.lit (.bool (v.2.side 61))), .pv (.lit (.bool (v.2.side 62))), .pv (.lit (.bool (v.2.side 63))), .pv (.lit (.int .i64 v.2.lost))])]) [26, 28, 526] (fun i1 v => (lawPlays_l0 i (l.D.drop i1) i1 v.1 v.2 = R) ∧ (okN v.1 ∧ okF v.1 ∧ okRL i1 v.2 ∧ i1 ≤ l.D.length)) (newN, (Net51.mk (Sl.mk true []) (ofL [false, false, false, false, false, false, false, false, false, false, false, false, false, false, false, false, false, false, false, false, false, false, false, false, false, false, false, false, false, false, false, false, false, false, false, false, false, false, false, false, false, false, false, false, false, false, false, false, false, false, false, false, false, false, false, false, false, false, false, false, false, false, false, false]) 0)) ?_ ?_ (fun i1 v h2 hR => ?_)
    · exact ⟨hR, ⟨newN_ok, newN_okF, ⟨(fun _ h => by cases h), Nat.le_refl _⟩, Nat.zero_le _⟩⟩
    · exact ⟨fun b => b, WeakerR.ofL (Ks := [26, 28, 526]) hI ⟨⟨rfl, rfl⟩, ⟨rfl, rfl⟩, ⟨rfl, rfl⟩, ⟨rfl, rfl⟩, ⟨rfl, rfl⟩, ⟨rfl, rfl⟩, trivial⟩ (okH_map rfl rfl rfl (okH_cons rfl rfl rfl rfl (okH_cons rfl rfl rfl rfl (okH_nil)))) rfl⟩
    obtain ⟨vc, vc1⟩ := v
    obtain ⟨hR, ⟨hVo, hVf, hVx, hVi⟩⟩ := hR
    refine Awp.consP C ?_
    refine rvP C (.pv (.lit (.bool (decide ((i1 : Int) < (l.D.length : Int)))))) ?_
    refine rvc_nil ?_
    refine Awp.seq ?_
    refine Awp.cond (b := (decide ((i1 : Int) < (l.D.length : Int)))) rfl (fun h3 => ?_) (fun h3 => ?_)
    ·
      have h4 : i1 < l.D.length := by have := of_decide_eq_true h3; omega
      obtain ⟨x, h5⟩ := getX h4
      rw [drop_at h5] at hR
      refine Awp.skip ?_
      refine Awp.seq ?_
      refine Awp.block ?_
      refine Awp.consP C ?_
      refine rvc_un (rexec_idxS C rfl rfl rfl rfl rfl rfl x (Int.natCast_nonneg _) h5 ?_)
      refine rvP C (.agg [.pv (.lit (.int .i64 x.op)), .pv (.lit (.int .i64 x.i)), .pv (.lit (.int .i64 x.l.from_)), .pv (.lit (.int .i64 x.l.to)), sS (some x.b.nil) (eI .u8) x.b.D, .pv (.lit (.int .u64 x.side))]) ?_
      refine rvc_un (rexec_prim C (δ := { v := .ptr 8 0, new := [(8, .cells [.pv (.lit (.int .i64 0)), .pv (.lit (.int .i64 0)), .pv (.lit (.int .i64 0)), .pv (.lit (.int .i64 0)), sS (some true) (eI .u8) [], .pv (.lit (.int .u64 0))])] }) rfl rfl rfl rfl trivial rfl ?_)
      refine rvc_un (rexec_prim C (δ := { v := .undef, wr := [(8, some (.cells [.pv (.lit (.int .i64 x.op)), .pv (.lit (.int .i64 x.i)), .pv (.lit (.int .i64 x.l.from_)), .pv (.lit (.int .i64 x.l.to)), sS (some x.b.nil) (eI .u8) x.b.D, .pv (.lit (.int .u64 x.side))]))] }) rfl rfl rfl rfl trivial rfl ?_)
      refine rvc_nil ?_
      refine Awp.consP C ?_
      refine rvP C (.agg [.pv (.lit (.int .i64 x.op)), .pv (.lit (.int .i64 x.i)), .pv (.lit (.int .i64 x.l.from_)), .pv (.lit (.int .i64 x.l.to)), sS (some x.b.nil) (eI .u8) x.b.D, .pv (.lit (.int .u64 x.side))]) ?_
      refine rvc_un (rexec_prim C (δ := { v := .ptr 9 0, new := [(9, .cells [.pv (.lit (.int .i64 0)), .pv (.lit (.int .i64 0)), .pv (.lit (.int .i64 0)), .pv (.lit (.int .i64 0)), sS (some true) (eI .u8) [], .pv (.lit (.int .u64 0))])] }) rfl rfl rfl rfl trivial rfl ?_)
      refine rvc_un (rexec_prim C (δ := { v := .undef, wr := [(9, some (.cells [.pv (.lit (.int .i64 x.op)), .pv (.lit (.int .i64 x.i)), .pv (.lit (.int .i64 x.l.from_)), .pv (.lit (.int .i64 x.l.to)), sS (some x.b.nil) (eI .u8) x.b.D, .pv (.lit (.int .u64 x.side))]))] }) rfl rfl rfl rfl trivial rfl ?_)
      refine rvc_nil ?_
      refine Awp.cons C (fun _ => .writer) (by kernel_rfl) ?_
      refine rvP C (.ptr 8 4) ?_
      refine rvP C (sS (some x.b.nil) (eI .u8) x.b.D) ?_
      rcases Bool.eq_false_or_eq_true x.b.nil with h6 | h6
      ·
        replace hR := of_true h6 hR
        refine rvc_un (rexec_call hP C rfl rfl rfl (cloneBytesO_nil x.b h6 (Nat.le_trans ((short_ok ‹(!(short (Sl.mk false [l]))) = false› l (by simp)).2 x (List.mem_of_getElem? (by assumption))) (by decide))) ?_)
        refine rvP C (.ptr 9 4) ?_
        refine rvc_un (rexec_prim C (δ := { v := .undef, wr := [(9, some (.cells [.pv (.lit (.int .i64 x.op)), .pv (.lit (.int .i64 x.i)), .pv (.lit (.int .i64 x.l.from_)), .pv (.lit (.int .i64 x.l.to)), sS (some true) (eI .u8) [], .pv (.lit (.int .u64 x.side))]))] }) rfl rfl rfl rfl trivial rfl ?_)
        refine rvc_nil ?_
        refine Awp.cons C (fun _ => .writer) (by kernel_rfl) ?_
        refine rvP C (.ptr 26 0) ?_
        refine rvP C (.agg [.pv (.lit (.int .i64 x.op)), .pv (.lit (.int .i64 x.i)), .pv (.lit (.int .i64 x.l.from_)), .pv (.lit (.int .i64 x.l.to)), sS (some true) (eI .u8) [], .pv (.lit (.int .u64 x.side))]) ?_
        rcases Bool.eq_false_or_eq_true ((does vc (Do.mk x.op x.i x.l (Sl.mk true []) x.side)).2.1.nil) with h7 | h7
        ·
          replace hR := of_true h7 hR
          obtain ⟨dn, hq_dn⟩ : ∃ q_, q_ = (does vc (Do.mk x.op x.i x.l (Sl.mk true []) x.side)) := ⟨_, rfl⟩
          have hc_dn := (doesZ_calls vc (Do.mk x.op x.i x.l (Sl.mk true []) x.side) hVo h7 (by first | exact (Nat.le_trans ((short_ok ‹(!(short (Sl.mk false [l]))) = false› l (by simp)).2 x (List.mem_of_getElem? (by assumption))) (by decide)) | exact Nat.zero_le _))
          first | rw [← hq_dn] at hR hc_dn | (unfold lawPlays at hR; rw [← hq_dn] at hR hc_dn) | (unfold lawPlays_l0 at hR; rw [← hq_dn] at hR hc_dn) | (unfold lawPlays_l1 at hR; rw [← hq_dn] at hR hc_dn) | (unfold lawPlays_l2 at hR; rw [← hq_dn] at hR hc_dn) | (unfold lawPlays_l3 at hR; rw [← hq_dn] at hR hc_dn)
          have hf0_dn := does_ok (n := vc) hVo (Do.mk x.op x.i x.l (Sl.mk true []) x.side)
          rw [← hq_dn] at hf0_dn
          have hf1_dn := does_okF (n := vc) hVf (Do.mk x.op x.i x.l (Sl.mk true []) x.side)
          rw [← hq_dn] at hf1_dn
          have hf2_dn := does_len (n := vc) hVo (Do.mk x.op x.i x.l (Sl.mk true []) x.side)
          rw [← hq_dn] at hf2_dn
          refine rvc_un (rexec_callObj hP C (fun b => bif b == 0 then 26 else bif b == 1 then 526 else b) [] rfl rfl rfl hc_dn rfl rfl ⟨rfl, trivial⟩ (of_decide_eq_true rfl) rfl (of_decide_eq_true rfl) (of_decide_eq_true rfl) allB_nil allB_nil (allB_cons rfl allB_nil) ?_ rfl (allB_cons rfl allB_nil))
          refine rvP C (.tup [sS (some true) (eI .u8) [], .pv (.lit (.bool dn.2.2.1)), .pv (.lit (.int .i64 dn.2.2.2))]) ?_
          refine rvP C (sS (some true) (eI .u8) []) ?_
          refine rvP C (.pv (.lit (.bool dn.2.2.1))) ?_
          refine rvP C (.pv (.lit (.int .i64 dn.2.2.2))) ?_
          refine rvP C (sS (some true) (eI .u8) []) ?_
          refine rvP C (.pv (.lit (.bool dn.2.2.1))) ?_
          refine rvP C (.pv (.lit (.int .i64 dn.2.2.2))) ?_
          refine rvc_nil ?_
          refine Awp.cons C (fun _ => .writer) (by kernel_rfl) ?_
          refine rvP C (.ptr 28 0) ?_
          refine rvP C (.agg [.pv (.lit (.int .i64 x.op)), .pv (.lit (.int .i64 x.i)), .pv (.lit (.int .i64 x.l.from_)), .pv (.lit (.int .i64 x.l.to)), sS (some x.b.nil) (eI .u8) x.b.D, .pv (.lit (.int .u64 x.side))]) ?_
          obtain ⟨dx, hq_dx⟩ : ∃ q_, q_ = (also vc1 x) := ⟨_, rfl⟩
          have hc_dx := (also_calls vc1 x hVx.1 (Nat.le_trans hVx.2 (by have h1_ := (short_ok ‹(!(short (Sl.mk false [l]))) = false› l (by simp)).1; omega)))
          first | rw [← hq_dx] at hR hc_dx | (unfold lawPlays at hR; rw [← hq_dx] at hR hc_dx) | (unfold lawPlays_l0 at hR; rw [← hq_dx] at hR hc_dx) | (unfold lawPlays_l1 at hR; rw [← hq_dx] at hR hc_dx) | (unfold lawPlays_l2 at hR; rw [← hq_dx] at hR hc_dx) | (unfold lawPlays_l3 at hR; rw [← hq_dx] at hR hc_dx)
          have hf0_dx := also_ok (x := vc1) hVx (by have h1_ := (short_ok ‹(!(short (Sl.mk false [l]))) = false› l (by simp)).1; omega) x
          rw [← hq_dx] at hf0_dx
          refine rvc_un (rexec_callM hP C (b := 28) rfl rfl rfl hc_dx rfl rfl ?_)
          refine rvP C (.tup [.pv (.lit (.string dx.2.1)), .pv (.lit (.bool dx.2.2.1)), .pv (.lit (.int .i64 dx.2.2.2))]) ?_
          refine rvP C (.pv (.lit (.string dx.2.1))) ?_
          refine rvP C (.pv (.lit (.bool dx.2.2.1))) ?_
          refine rvP C (.pv (.lit (.int .i64 dx.2.2.2))) ?_
          refine rvP C (.pv (.lit (.string dx.2.1))) ?_
          refine rvP C (.pv (.lit (.bool dx.2.2.1))) ?_
          refine rvP C (.pv (.lit (.int .i64 dx.2.2.2))) ?_
          refine rvc_nil ?_
          refine Awp.seq ?_
          refine Awp.consP C ?_
          refine rvP C (.ptr 9 4) ?_
          refine rvP C (sS (some true) (eI .u8) []) ?_
          refine rvP C (.pv (.lit (.int .i64 0))) ?_
          refine rvP C (.pv (.lit (.int .i64 0))) ?_
          refine rvc_nil ?_
          refine Awp.block ?_
          refine Awp.rounds 1 ?_
          refine Arounds.succ ?_
          refine Awp.consP C ?_
          refine rvP C (.pv (.lit (.bool false))) ?_
          refine rvc_nil ?_
          refine Awp.seq ?_
          refine Awp.condF (b := false) rfl rfl ?_
          refine Awp.exit ?_
          refine Awp.seq ?_
          refine Awp.cons C (fun o => match o.dst with | some 69 => .reads [43] | some 84 => .writes [26, 526] | some 88 => .reads [28] | some 94 => .reads [8] | some 95 => .writes [26, 526] | some 98 => .reads [8] | some 99 => .writes [28] | _ => .pure) (by kernel_rfl) ?_
          refine rvP C (sS (some true) (eI .u8) []) ?_
          refine rvc_un (rexec_convS C rfl rfl rfl rfl rfl rfl rfl rfl ?_)
          refine rvP C (.pv (.lit (.string dx.2.1))) ?_
          refine rvP C (.pv (.lit (.bool (!((strOf []).toList == dx.2.1.toList))))) ?_
          refine rvP C (.pv (.lit (.bool (!((strOf []).toList == dx.2.1.toList))))) ?_
          refine rvc_case 72 (!((strOf []).toList == dx.2.1.toList)) rfl (fun h8 => ?_) (fun h8 => ?_)
          ·
            replace hR := of_true h8 hR
            refine rvS ?_
            refine rvS ?_
            refine rvS ?_
            refine rvP C (.pv (.lit (.bool true))) ?_
            refine rvP C (.pv (.lit (.bool true))) ?_
            refine rvS ?_
            refine rvS ?_
            refine rvS ?_
            refine rvP C (.pv (.lit (.bool true))) ?_
            refine rvP C (.pv (.lit (.bool true))) ?_
            refine rvS ?_
            refine rvS ?_
            refine rvS ?_
            refine rvS ?_
            refine rvS ?_
            refine rvS ?_
            refine rvS ?_
            refine rvP C (.pv (.lit (.bool true))) ?_
            refine rvP C (.pv (.lit (.bool true))) ?_
            refine rvS ?_
            refine rvS ?_
            refine rvS ?_
            refine rvS ?_
            refine rvS ?_
            refine rvS ?_
            refine rvS ?_
            refine rvS ?_
            refine rvS ?_
            refine rvP C (.pv (.lit (.bool true))) ?_
            refine rvc_nil ?_
            refine Awp.condT (b := true) rfl rfl ?_
            refine Awp.consP C ?_
            refine rvP C (.pv (.lit (.bool false))) ?_
            refine rvc_nil ?_
            refine Awp.ret ?_
            subst hR
            exact ⟨.inl rfl, rfl⟩
          ·
            replace hR := of_false h8 hR
            refine rvO C (.pv (.lit (.bool dn.2.2.1))) ?_
            refine rvO C (.pv (.lit (.bool dx.2.2.1))) ?_
            refine rvO C (.pv (.lit (.bool (!(dn.2.2.1 == dx.2.2.1))))) ?_
            refine rvP C (.pv (.lit (.bool (!(dn.2.2.1 == dx.2.2.1))))) ?_
            refine rvP C (.pv (.lit (.bool (!(dn.2.2.1 == dx.2.2.1))))) ?_
            refine rvc_case 77 (!(dn.2.2.1 == dx.2.2.1)) rfl (fun h9 => ?_) (fun h9 => ?_)
            ·
              replace hR := of_true h9 hR
              refine rvS ?_
              refine rvS ?_
              refine rvS ?_
              refine rvP C (.pv (.lit (.bool true))) ?_
              refine rvP C (.pv (.lit (.bool true))) ?_
              refine rvS ?_
              refine rvS ?_
              refine rvS ?_
              refine rvS ?_
              refine rvS ?_
              refine rvS ?_
              refine rvS ?_
              refine rvP C (.pv (.lit (.bool true))) ?_
              refine rvP C (.pv (.lit (.bool true))) ?_
              refine rvS ?_
              refine rvS ?_
              refine rvS ?_
              refine rvS ?_
              refine rvS ?_
              refine rvS ?_
              refine rvS ?_
              refine rvS ?_
              refine rvS ?_
              refine rvP C (.pv (.lit (.bool true))) ?_
              refine rvc_nil ?_
              refine Awp.condT (b := true) rfl rfl ?_
              refine Awp.consP C ?_
              refine rvP C (.pv (.lit (.bool false))) ?_
              refine rvc_nil ?_
              refine Awp.ret ?_
              subst hR
              exact ⟨.inl rfl, rfl⟩
            ·
              replace hR := of_false h9 hR
              refine rvO C (.pv (.lit (.int .i64 dn.2.2.2))) ?_
              refine rvO C (.pv (.lit (.int .i64 dx.2.2.2))) ?_
              refine rvO C (.pv (.lit (.bool (dn.2.2.2 != dx.2.2.2)))) ?_
              refine rvP C (.pv (.lit (.bool (dn.2.2.2 != dx.2.2.2)))) ?_
              refine rvP C (.pv (.lit (.bool (dn.2.2.2 != dx.2.2.2)))) ?_
              refine rvc_case 82 (dn.2.2.2 != dx.2.2.2) rfl (fun h10 => ?_) (fun h10 => ?_)
              ·
                replace hR := of_true h10 hR
                refine rvS ?_
                refine rvS ?_
                refine rvS ?_
                refine rvS ?_
                refine rvS ?_
                refine rvS ?_
                refine rvS ?_
                refine rvP C (.pv (.lit (.bool true))) ?_
                refine rvP C (.pv (.lit (.bool true))) ?_
                refine rvS ?_
                refine rvS ?_
                refine rvS ?_
                refine rvS ?_
                refine rvS ?_
                refine rvS ?_
                refine rvS ?_
                refine rvS ?_
                refine rvS ?_
                refine rvP C (.pv (.lit (.bool true))) ?_
                refine rvc_nil ?_
                refine Awp.condT (b := true) rfl rfl ?_
                refine Awp.consP C ?_
                refine rvP C (.pv (.lit (.bool false))) ?_
                refine rvc_nil ?_
                refine Awp.ret ?_
                subst hR
                exact ⟨.inl rfl, rfl⟩
              ·
                replace hR := of_false h10 hR
                refine rvO C (.ptr 26 0) ?_
                refine rvc_open rfl rfl rfl (rexec_callObj hP C (fun b => bif b == 0 then 26 else bif b == 1 then 526 else b) [] rfl rfl rfl (nLost_calls dn.1) rfl rfl ⟨rfl, trivial⟩ (of_decide_eq_true rfl) rfl (of_decide_eq_true rfl) (of_decide_eq_true rfl) allB_nil allB_nil (allB_cons rfl allB_nil) ?_ rfl (allB_cons rfl allB_nil))
                refine rvO C (.ptr 28 0) ?_
                refine rvO C (.ptr 28 0) ?_
                refine rvO C (.ptr 28 65) ?_
                refine rvO C (.pv (.lit (.int .i64 dx.1.lost))) ?_
                refine rvO C (.pv (.lit (.bool ((nLost dn.1) != dx.1.lost)))) ?_
                refine rvP C (.pv (.lit (.bool ((nLost dn.1) != dx.1.lost)))) ?_
                refine rvP C (.pv (.lit (.bool ((nLost dn.1) != dx.1.lost)))) ?_
                refine rvc_case 91 ((nLost dn.1) != dx.1.lost) rfl (fun h11 => ?_) (fun h11 => ?_)
                ·
                  replace hR := of_true h11 hR
                  refine rvS ?_
                  refine rvS ?_
                  refine rvS ?_
                  refine rvS ?_
                  refine rvS ?_
                  refine rvS ?_
                  refine rvS ?_
                  refine rvS ?_
                  refine rvS ?_
                  refine rvP C (.pv (.lit (.bool true))) ?_
                  refine rvc_nil ?_
                  refine Awp.condT (b := true) rfl rfl ?_
                  refine Awp.consP C ?_
                  refine rvP C (.pv (.lit (.bool false))) ?_
                  refine rvc_nil ?_
                  refine Awp.ret ?_
                  subst hR
                  exact ⟨.inl rfl, rfl⟩
                ·
                  replace hR := of_false h11 hR
                  refine rvO C (.ptr 26 0) ?_
                  refine rvO C (.ptr 8 2) ?_
                  refine rvO C (.agg [.pv (.lit (.int .i64 x.l.from_)), .pv (.lit (.int .i64 x.l.to))]) ?_
                  refine rvc_open rfl rfl rfl (rexec_callObj hP C (fun b => bif b == 0 then 26 else bif b == 1 then 526 else b) [] rfl rfl rfl (nLen_calls dn.1 x.l) rfl rfl ⟨rfl, trivial⟩ (of_decide_eq_true rfl) rfl (of_decide_eq_true rfl) (of_decide_eq_true rfl) allB_nil allB_nil (allB_cons rfl allB_nil) ?_ rfl (allB_cons rfl allB_nil))
                  refine rvO C (.ptr 28 0) ?_
                  refine rvO C (.ptr 8 2) ?_
                  refine rvO C (.agg [.pv (.lit (.int .i64 x.l.from_)), .pv (.lit (.int .i64 x.l.to))]) ?_
                  refine rvc_open rfl rfl rfl (rexec_callM hP C (b := 28) rfl rfl rfl (rLen_calls dx.1 x.l (Nat.le_trans hf0_dx.2 (by have h1_ := (short_ok ‹(!(short (Sl.mk false [l]))) = false› l (by simp)).1; omega))) rfl rfl ?_)
                  refine rvO C (.pv (.lit (.bool ((nLen dn.1 x.l) != (rLen dx.1 x.l))))) ?_
                  refine rvP C (.pv (.lit (.bool ((nLen dn.1 x.l) != (rLen dx.1 x.l))))) ?_
                  refine rvc_nil ?_
                  refine Awp.cond (b := ((nLen dn.1 x.l) != (rLen dx.1 x.l))) rfl (fun h12 => ?_) (fun h12 => ?_)
                  ·
                    replace hR := of_true h12 hR
                    refine Awp.consP C ?_
                    refine rvP C (.pv (.lit (.bool false))) ?_
                    refine rvc_nil ?_
                    refine Awp.ret ?_
                    subst hR
                    exact ⟨.inl rfl, rfl⟩
                  ·
                    replace hR := of_false h12 hR
                    refine Awp.skip ?_
                    refine Awp.cons C (fun _ => .writer) (by kernel_rfl) ?_
                    refine rvP C (.ptr 26 0) ?_
                    refine rvP C (.ptr 8 2) ?_
                    refine rvP C (.agg [.pv (.lit (.int .i64 x.l.from_)), .pv (.lit (.int .i64 x.l.to))]) ?_
                    refine rvP C (.pv (.lit (.int .i64 i))) ?_
                    rcases Bool.eq_false_or_eq_true ((nPeek dn.1 x.l i).1.nil) with h13 | h13
                    ·
                      replace hR := of_true h13 hR
                      refine rvc_un (rexec_callObj hP C (fun b => bif b == 0 then 26 else bif b == 1 then 526 else b) [] rfl rfl rfl (nPeekZ_calls dn.1 x.l i hf0_dn h13) rfl rfl ⟨rfl, trivial⟩ (of_decide_eq_true rfl) rfl (of_decide_eq_true rfl) (of_decide_eq_true rfl) allB_nil allB_nil (allB_cons rfl allB_nil) ?_ rfl (allB_cons rfl allB_nil))
                      refine rvP C (.tup [sS (some true) (eI .u8) [], .pv (.lit (.int .i64 ((nPeek dn.1 x.l i).2)))]) ?_
                      refine rvP C (sS (some true) (eI .u8) []) ?_
                      refine rvP C (.pv (.lit (.int .i64 ((nPeek dn.1 x.l i).2)))) ?_
                      refine rvP C (sS (some true) (eI .u8) []) ?_
                      refine rvP C (.pv (.lit (.int .i64 ((nPeek dn.1 x.l i).2)))) ?_
                      refine rvc_nil ?_
                      refine Awp.cons C (fun _ => .writer) (by kernel_rfl) ?_
                      refine rvP C (.ptr 28 0) ?_
                      refine rvP C (.ptr 8 2) ?_
                      refine rvP C (.agg [.pv (.lit (.int .i64 x.l.from_)), .pv (.lit (.int .i64 x.l.to))]) ?_
                      refine rvP C (.pv (.lit (.int .i64 i))) ?_
                      refine rvc_un (rexec_callM hP C (b := 28) rfl rfl rfl (rPeek_calls dx.1 x.l i (Nat.le_trans hf0_dx.2 (by have h1_ := (short_ok ‹(!(short (Sl.mk false [l]))) = false› l (by simp)).1; omega))) rfl rfl ?_)
                      refine rvP C (.tup [.pv (.lit (.string ((rPeek dx.1 x.l i).1))), .pv (.lit (.int .i64 ((rPeek dx.1 x.l i).2)))]) ?_
                      refine rvP C (.pv (.lit (.string ((rPeek dx.1 x.l i).1)))) ?_
                      refine rvP C (.pv (.lit (.int .i64 ((rPeek dx.1 x.l i).2)))) ?_
                      refine rvP C (.pv (.lit (.string ((rPeek dx.1 x.l i).1)))) ?_
                      refine rvP C (.pv (.lit (.int .i64 ((rPeek dx.1 x.l i).2)))) ?_
                      refine rvc_nil ?_
                      refine Awp.seq ?_
                      refine Awp.cons C (fun o => match o.dst with | some 119 => .reads [107] | _ => .pure) (by kernel_rfl) ?_
                      refine rvP C (sS (some true) (eI .u8) []) ?_
                      refine rvc_un (rexec_convS C rfl rfl rfl rfl rfl rfl rfl rfl ?_)
                      refine rvP C (.pv (.lit (.string ((rPeek dx.1 x.l i).1)))) ?_
                      refine rvP C (.pv (.lit (.bool (!((strOf []).toList == ((rPeek dx.1 x.l i).1).toList))))) ?_
                      refine rvP C (.pv (.lit (.bool (!((strOf []).toList == ((rPeek dx.1 x.l i).1).toList))))) ?_
                      refine rvc_case 122 (!((strOf []).toList == ((rPeek dx.1 x.l i).1).toList)) rfl (fun h14 => ?_) (fun h14 => ?_)
                      ·
                        replace hR := of_true h14 hR
                        refine rvS ?_
                        refine rvS ?_
                        refine rvS ?_
                        refine rvP C (.pv (.lit (.bool true))) ?_
                        refine rvc_nil ?_
                        refine Awp.condT (b := true) rfl rfl ?_
                        refine Awp.consP C ?_
                        refine rvP C (.pv (.lit (.bool false))) ?_
                        refine rvc_nil ?_
                        refine Awp.ret ?_
                        subst hR
                        exact ⟨.inl rfl, rfl⟩
                      ·
                        replace hR := of_false h14 hR
                        refine rvO C (.pv (.lit (.int .i64 ((nPeek dn.1 x.l i).2)))) ?_
                        refine rvO C (.pv (.lit (.int .i64 ((rPeek dx.1 x.l i).2)))) ?_
                        refine rvO C (.pv (.lit (.bool (((nPeek dn.1 x.l i).2) != ((rPeek dx.1 x.l i).2))))) ?_
                        refine rvP C (.pv (.lit (.bool (((nPeek dn.1 x.l i).2) != ((rPeek dx.1 x.l i).2))))) ?_
                        refine rvc_nil ?_
                        refine Awp.cond (b := (((nPeek dn.1 x.l i).2) != ((rPeek dx.1 x.l i).2))) rfl (fun h15 => ?_) (fun h15 => ?_)
                        ·
                          replace hR := of_true h15 hR
                          refine Awp.consP C ?_
                          refine rvP C (.pv (.lit (.bool false))) ?_
                          refine rvc_nil ?_
                          refine Awp.ret ?_
                          subst hR
                          exact ⟨.inl rfl, rfl⟩
                        ·
                          replace hR := of_false h15 hR
                          refine Awp.skip ?_
                          refine Awp.seq ?_
                          refine Awp.consP C ?_
                          refine rvP C (sS (some true) (eI .u8) []) ?_
                          refine rvP C (.pv (.lit (.int .i64 0))) ?_
                          refine rvP C (.pv (.lit (.int .i64 0))) ?_
                          refine rvc_nil ?_
                          refine Awp.block ?_
                          refine Awp.rounds 1 ?_
                          refine Arounds.succ ?_
                          refine Awp.consP C ?_
                          refine rvP C (.pv (.lit (.bool false))) ?_
                          refine rvc_nil ?_
                          refine Awp.seq ?_
                          refine Awp.condF (b := false) rfl rfl ?_
                          refine Awp.exit ?_
                          refine Awp.consP C ?_
                          refine rvP C (sS (some true) (eI .u8) []) ?_
                          refine rvP C (.pv (.lit (.int .i64 0))) ?_
                          refine rvP C (.pv (.lit (.int .i64 0))) ?_
                          refine rvc_nil ?_
                          refine Awp.block ?_
                          refine Awp.rounds 1 ?_
                          refine Arounds.succ ?_
                          refine Awp.consP C ?_
                          refine rvP C (.pv (.lit (.bool false))) ?_
                          refine rvc_nil ?_
                          refine Awp.seq ?_
                          refine Awp.condF (b := false) rfl rfl ?_
                          refine Awp.exit ?_
                          refine Awp.regionP C ?_
                          refine rvP C (.pv (.lit (.int .i64 (IntKind.i64.wrap ((i1 : Int) + 1))))) ?_
                          refine rvP C (.pv (.lit (.int .i64 (IntKind.i64.wrap ((i1 : Int) + 1))))) ?_
                          refine rvc_nil ?_
                          refine ⟨h4, (dn.1, dx.1), ?_, ?_⟩
                          · exact ⟨hR, ⟨hf0_dn, hf1_dn, hf0_dx, by omega⟩⟩
                          · exact ⟨fun b => b, WeakerR.ofL (Ks := [26, 28, 526]) hI ⟨⟨rfl, rfl⟩, ⟨rfl, rfl⟩, ⟨rfl, rfl⟩, ⟨rfl, rfl⟩, ⟨rfl, rfl⟩, ⟨lit_cast (wrap_i64 (by omega) (by omega)), rfl⟩, trivial⟩ (okH_map rfl rfl rfl (okH_cons rfl rfl rfl rfl (okH_cons rfl rfl rfl rfl (okH_nil)))) rfl⟩
                    ·
                      replace hR := of_false h13 hR
                      refine rvc_un (rexec_callObjR hP C (fun b => bif b == 0 then 26 else bif b == 1 then 526 else b) [(107, 2)] rfl rfl rfl (nPeekR_calls dn.1 x.l i hf0_dn h13) rfl rfl ⟨rfl, trivial⟩ (of_decide_eq_true rfl) rfl (of_decide_eq_true rfl) (of_decide_eq_true rfl) (allB_cons rfl allB_nil) (allB_cons rfl allB_nil) (allB_cons rfl (allB_cons rfl allB_nil)) ?_ rfl (allB_cons rfl allB_nil))
                      refine rvP C (.tup [.sl 107 0 ((nPeek dn.1 x.l i).1.D.length) 1 false, .pv (.lit (.int .i64 ((nPeek dn.1 x.l i).2)))]) ?_
                      refine rvP C (.sl 107 0 ((nPeek dn.1 x.l i).1.D.length) 1 false) ?_
                      refine rvP C (.pv (.lit (.int .i64 ((nPeek dn.1 x.l i).2)))) ?_
                      refine rvP C (.sl 107 0 ((nPeek dn.1 x.l i).1.D.length) 1 false) ?_
                      refine rvP C (.pv (.lit (.int .i64 ((nPeek dn.1 x.l i).2)))) ?_
                      refine rvc_nil ?_
                      refine Awp.cons C (fun _ => .writer) (by kernel_rfl) ?_
                      refine rvP C (.ptr 28 0) ?_
                      refine rvP C (.ptr 8 2) ?_
                      refine rvP C (.agg [.pv (.lit (.int .i64 x.l.from_)), .pv (.lit (.int .i64 x.l.to))]) ?_
                      refine rvP C (.pv (.lit (.int .i64 i))) ?_
                      refine rvc_un (rexec_callM hP C (b := 28) rfl rfl rfl (rPeek_calls dx.1 x.l i (Nat.le_trans hf0_dx.2 (by have h1_ := (short_ok ‹(!(short (Sl.mk false [l]))) = false› l (by simp)).1; omega))) rfl rfl ?_)
                      refine rvP C (.tup [.pv (.lit (.string ((rPeek dx.1 x.l i).1))), .pv (.lit (.int .i64 ((rPeek dx.1 x.l i).2)))]) ?_
                      refine rvP C (.pv (.lit (.string ((rPeek dx.1 x.l i).1)))) ?_
                      refine rvP C (.pv (.lit (.int .i64 ((rPeek dx.1 x.l i).2)))) ?_
                      refine rvP C (.pv (.lit (.string ((rPeek dx.1 x.l i).1)))) ?_
                      refine rvP C (.pv (.lit (.int .i64 ((rPeek dx.1 x.l i).2)))) ?_
                      refine rvc_nil ?_
                      refine Awp.seq ?_
                      refine Awp.cons C (fun o => match o.dst with | some 119 => .reads [107] | _ => .pure) (by kernel_rfl) ?_
                      refine rvP C (.sl 107 0 ((nPeek dn.1 x.l i).1.D.length) 1 false) ?_
                      refine rvc_un (rexec_convR C rfl rfl rfl (by first | rfl | omega | simp) rfl rfl rfl rfl rfl rfl ?_)
                      refine rvP C (.pv (.lit (.string ((rPeek dx.1 x.l i).1)))) ?_
                      refine rvP C (.pv (.lit (.bool (!((strOf ((nPeek dn.1 x.l i).1.D)).toList == ((rPeek dx.1 x.l i).1).toList))))) ?_
                      refine rvP C (.pv (.lit (.bool (!((strOf ((nPeek dn.1 x.l i).1.D)).toList == ((rPeek dx.1 x.l i).1).toList))))) ?_
                      refine rvc_case 122 (!((strOf ((nPeek dn.1 x.l i).1.D)).toList == ((rPeek dx.1 x.l i).1).toList)) rfl (fun h16 => ?_) (fun h16 => ?_)
                      ·
                        replace hR := of_true h16 hR
                        refine rvS ?_
                        refine rvS ?_
                        refine rvS ?_
                        refine rvP C (.pv (.lit (.bool true))) ?_
                        refine rvc_nil ?_
                        refine Awp.condT (b := true) rfl rfl ?_
                        refine Awp.consP C ?_
                        refine rvP C (.pv (.lit (.bool false))) ?_
                        refine rvc_nil ?_
                        refine Awp.ret ?_
                        subst hR
                        exact ⟨.inl rfl, rfl⟩
                      ·
                        replace hR := of_false h16 hR
                        refine rvO C (.pv (.lit (.int .i64 ((nPeek dn.1 x.l i).2)))) ?_
                        refine rvO C (.pv (.lit (.int .i64 ((rPeek dx.1 x.l i).2)))) ?_
                        refine rvO C (.pv (.lit (.bool (((nPeek dn.1 x.l i).2) != ((rPeek dx.1 x.l i).2))))) ?_
                        refine rvP C (.pv (.lit (.bool (((nPeek dn.1 x.l i).2) != ((rPeek dx.1 x.l i).2))))) ?_
                        refine rvc_nil ?_
                        refine Awp.cond (b := (((nPeek dn.1 x.l i).2) != ((rPeek dx.1 x.l i).2))) rfl (fun h17 => ?_) (fun h17 => ?_)
                        ·
                          replace hR := of_true h17 hR
                          refine Awp.consP C ?_
                          refine rvP C (.pv (.lit (.bool false))) ?_
                          refine rvc_nil ?_
                          refine Awp.ret ?_
                          subst hR
                          exact ⟨.inl rfl, rfl⟩
                        ·
                          replace hR := of_false h17 hR
                          refine Awp.skip ?_
                          refine Awp.seq ?_
                          refine Awp.consP C ?_
                          refine rvP C (.sl 107 0 ((nPeek dn.1 x.l i).1.D.length) 1 false) ?_
                          refine rvP C (.pv (.lit (.int .i64 (((nPeek dn.1 x.l i).1.D.length) : Int)))) ?_
                          refine rvP C (.pv (.lit (.int .i64 0))) ?_
                          refine rvc_nil ?_
                          refine Awp.block ?_
                          refine Awp.forR (σ := ((List Int))) (((nPeek dn.1 x.l i).1.D).length) (fun i2 v => [(1, .pv (.lit (.int .i64 i))), (5, .ptr 26 0), (6, .ptr 28 0), (10, sS (some true) (eI .u8) []), (17, .sl 107 0 ((nPeek dn.1 x.l i).1.D.length) 1 false), (29, sS (some l.nil) eDo l.D), (30, .pv (.lit (.int .i64 (l.D.length : Int)))), (31, .pv (.lit (.int .i64 (i1 : Int)))), (73, .pv (.lit (.bool dn.2.2.1))), (74, .pv (.lit (.bool dx.2.2.1))), (75, .pv (.lit (.bool (!(dn.2.2.1 == dx.2.2.1))))), (78, .pv (.lit (.int .i64 dn.2.2.2))), (79, .pv (.lit (.int .i64 dx.2.2.2))), (80, .pv (.lit (.bool (dn.2.2.2 != dx.2.2.2)))), (83, .ptr 26 0), (84, .pv (.lit (.int .i64 (nLost dn.1)))), (85, .ptr 28 0), (86, .ptr 28 0), (87, .ptr 28 65), (88, .pv (.lit (.int .i64 dx.1.lost))), (89, .pv (.lit (.bool ((nLost dn.1) != dx.1.lost)))), (92, .ptr 26 0), (93, .ptr 8 2), (94, .agg [.pv (.lit (.int .i64 x.l.from_)), .pv (.lit (.int .i64 x.l.to))]), (95, .pv (.lit (.int .i64 (nLen dn.1 x.l)))), (96, .ptr 28 0), (97, .ptr 8 2), (98, .agg [.pv (.lit (.int .i64 x.l.from_)), .pv (.lit (.int .i64 x.l.to))]), (99, .pv (.lit (.int .i64 (rLen dx.1 x.l)))), (100, .pv (.lit (.bool ((nLen dn.1 x.l) != (rLen dx.1 x.l))))), (123, .pv (.lit (.int .i64 ((nPeek dn.1 x.l i).2)))), (124, .pv (.lit (.int .i64 ((rPeek dx.1 x.l i).2)))), (125, .pv (.lit (.bool (((nPeek dn.1 x.l i).2) != ((rPeek dx.1 x.l i).2))))), (128, .pv (.lit (.int .i64 (((nPeek dn.1 x.l i).1.D.length) : Int)))), (129, .pv (.lit (.int .i64 (i2 : Int))))]) (fun i2 v => [(526, mapE kLink vT77.enc dn.1.of_), (26, .cells [.mp 526, .pv (.lit (.int .u64 dn.1.side)), .pv (.lit (.int .i64 dn.1.lost)), .pv (.lit (.bool dn.1.made))]), (28, .cells [sS (some dx.1.items.nil) eItem dx.1.items.D, .pv (.lit (.bool (dx.1.side 0))), .pv (.lit (.bool (dx.1.side 1))), .pv (.lit (.bool (dx.1.side 2))), .pv (.lit (.bool (dx.1.side 3))), .pv (.lit (.bool (dx.1.side 4))), .pv (.lit (.bool (dx.1.side 5))), .pv (.lit (.bool (dx.1.side 6))), .pv (.lit (.bool (dx.1.side 7))), .pv (.lit (.bool (dx.1.side 8))), .pv (.lit (.bool (dx.1.side 9))), .pv (.lit (.bool (dx.1.side 10))), .pv (.lit (.bool (dx.1.side 11))), .pv (.lit (.bool (dx.1.side 12))), .pv (.lit (.bool (dx.1.side 13))), .pv (.lit (.bool (dx.1.side 14))), .pv (.lit (.bool (dx.1.side 15))), .pv (.lit (.bool (dx.1.side 16))), .pv (.lit (.bool (dx.1.side 17))), .pv (.lit (.bool (dx.1.side 18))), .pv (.lit (.bool (dx.1.side 19))), .pv (.lit (.bool (dx.1.side 20))), .pv (.lit (.bool (dx.1.side 21))), .pv (.lit (.bool (dx.1.side 22))), .pv (.lit (.bool (dx.1.side 23))), .pv (.lit (.bool (dx.1.side 24))), .pv (.lit (.bool (dx.1.side 25))), .pv (.lit (.bool (dx.1.side 26))), .pv (.lit (.bool (dx.1.side 27))), .pv (.lit (.bool (dx.1.side 28))), .pv (.lit (.bool (dx.1.side 29))), .pv (.lit (.bool (dx.1.side 30))), .pv (.lit (.bool (dx.1.side 31))), .pv (.lit (.bool (dx.1.side 32))), .pv (.lit (.bool (dx.1.side 33))), .pv (.lit (.bool (dx.1.side 34))), .pv (.lit (.bool (dx.1.side 35))), .pv (.lit (.bool (dx.1.side 36))), .pv (.lit (.bool (dx.1.side 37))), .pv (.lit (.bool (dx.1.side 38))), .pv (.lit (.bool (dx.1.side 39))), .pv (.lit (.bool (dx.1.side 40))), .pv (.lit (.bool (dx.1.side 41))), .pv (.lit (.bool (dx.1.side 42))), .pv (.lit (.bool (dx.1.side 43))), .pv (.lit (.bool (dx.1.side 44))), .pv (.lit (.bool (dx.1.side 45))), .pv (.lit (.bool (dx.1.side 46))), .pv (.lit (.bool (dx.1.side 47))), .pv (.lit (.bool (dx.1.side 48))), .pv (.lit (.bool (dx.1.side 49))), .pv (.lit (.bool (dx.1.side 50))), .pv (.lit (.bool (dx.1.side 51))), .pv (.lit (.bool (dx.1.side 52))), .pv (.lit (.bool (dx.1.side 53))), .pv (.lit (.bool (dx.1.side 54))), .pv (.lit (.bool (dx.1.side 55))), .pv (.lit (.bool (dx.1.side 56))), .pv (.lit (.bool (dx.1.side 57))), .pv (.lit (.bool (dx.1.side 58))), .pv (.lit (.bool (dx.1.side 59))), .pv (.lit (.bool (dx.1.side 60))), .pv (.lit (.bool (dx.1.side 61))), .pv (.lit (.bool (dx.1.side 62))), .pv (.lit (.bool (dx.1.side 63))), .pv (.lit (.int .i64 dx.1.lost))]), (8, .cells [.pv (.lit (.int .i64 x.op)), .pv (.lit (.int .i64 x.i)), .pv (.lit (.int .i64 x.l.from_)), .pv (.lit (.int .i64 x.l.to)), sS (some x.b.nil) (eI .u8) x.b.D, .pv (.lit (.int .u64 x.side))]), (107, .cells (encC (eI .u8) v))]) [8, 26, 28, 107, 526] (fun i2 v => (lawPlays_l2 (fun vc2 => lawPlays_l0 i (l.D.drop (i1 + 1)) (i1 + 1) dn.1 dx.1) (((nPeek dn.1 x.l i).1.D).drop i2) i2 v = R) ∧ (v.length = (nPeek dn.1 x.l i).1.D.length)) ((nPeek dn.1 x.l i).1.D) ?_ ?_ (fun i2 vc2 h18 hR => ?_)
                          · exact ⟨hR, (by first | omega | (simp <;> omega))⟩
                          · exact ⟨fun b => b, WeakerR.ofL (Ks := [8, 26, 28, 107, 526]) hI ⟨⟨rfl, rfl⟩, ⟨rfl, rfl⟩, ⟨rfl, rfl⟩, ⟨rfl, rfl⟩, ⟨rfl, rfl⟩, ⟨rfl, rfl⟩, ⟨rfl, rfl⟩, ⟨rfl, rfl⟩, ⟨rfl, rfl⟩, ⟨rfl, rfl⟩, ⟨rfl, rfl⟩, ⟨rfl, rfl⟩, ⟨rfl, rfl⟩, ⟨rfl, rfl⟩, ⟨rfl, rfl⟩, ⟨rfl, rfl⟩, ⟨rfl, rfl⟩, ⟨rfl, rfl⟩, ⟨rfl, rfl⟩, ⟨rfl, rfl⟩, ⟨rfl, rfl⟩, ⟨rfl, rfl⟩, ⟨rfl, rfl⟩, ⟨rfl, rfl⟩, ⟨rfl, rfl⟩, ⟨rfl, rfl⟩, ⟨rfl, rfl⟩, ⟨rfl, rfl⟩, ⟨rfl, rfl⟩, ⟨rfl, rfl⟩, ⟨rfl, rfl⟩, ⟨rfl, rfl⟩, ⟨rfl, rfl⟩, ⟨rfl, rfl⟩, ⟨rfl, rfl⟩, trivial⟩ (okH_map rfl rfl rfl (okH_cons rfl rfl rfl rfl (okH_cons rfl rfl rfl rfl (okH_cons rfl rfl rfl rfl (okH_list rfl rfl rfl (okH_nil)))))) rfl⟩
                          obtain ⟨hR, hi_vc2⟩ := hR
                          replace hi_vc2 : vc2.length = (nPeek dn.1 x.l i).1.D.length := hi_vc2
                          have hb2_ := nPeek_len hf0_dn x.l i
                          refine Awp.consP C ?_
                          refine rvP C (.pv (.lit (.bool (decide ((i2 : Int) < (((nPeek dn.1 x.l i).1.D.length) : Int)))))) ?_
                          refine rvc_nil ?_
                          refine Awp.seq ?_
                          refine Awp.cond (b := (decide ((i2 : Int) < (((nPeek dn.1 x.l i).1.D.length) : Int)))) rfl (fun h19 => ?_) (fun h19 => ?_)
                          ·
                            have h20 : i2 < ((nPeek dn.1 x.l i).1.D).length := by have := of_decide_eq_true h19; omega
                            obtain ⟨x1, h21⟩ := getX h20
                            rw [drop_at h21] at hR
                            refine Awp.skip ?_
                            refine Awp.seq ?_
                            refine Awp.block ?_
                            refine Awp.consP C ?_
                            refine rvP C (.pv (.lit (.int .i64 (i2 : Int)))) ?_
                            refine rvP C (.pv (.lit (.int .i64 (i2 : Int)))) ?_
                            refine rvc_nil ?_
                            refine Awp.regionP C ?_
                            refine rvP C (.sl 107 0 ((nPeek dn.1 x.l i).1.D.length) 1 false) ?_
                            refine rvP C (.pv (.lit (.int .i64 (i2 : Int)))) ?_
                            have h22 : vc2[i2]? = some vc2[i2]! := getE (by have := rLen_le dx.1 x.l; have := of_decide_eq_true h3; have := beq_iff_eq.1 (not_false_of h9); have := eq_of_bne_false h10; have := eq_of_bne_false h11; have := eq_of_bne_false h12; have := eq_of_bne_false h17; have := of_decide_eq_true h19; omega)
                            refine rvc_un (rexec_prim C (δ := { v := .ptr 107 (0 + i2 * 1) }) rfl rfl rfl rfl ⟨(by have := rLen_le dx.1 x.l; have := of_decide_eq_true h3; have := beq_iff_eq.1 (not_false_of h9); have := eq_of_bne_false h10; have := eq_of_bne_false h11; have := eq_of_bne_false h12; have := eq_of_bne_false h17; have := of_decide_eq_true h19; omega), getlt h22 (by first | rfl | omega | (have := rLen_le dx.1 x.l; have := of_decide_eq_true h3; have := beq_iff_eq.1 (not_false_of h9); have := eq_of_bne_false h10; have := eq_of_bne_false h11; have := eq_of_bne_false h12; have := eq_of_bne_false h17; have := of_decide_eq_true h19; omega)) (by first | rfl | omega | simp)⟩ rfl ?_)
                            refine rvc_un (rexec_loadE C (e := (eI .u8)) i2 0 (vc2[i2]!) (.pv (.lit (.int .u8 (vc2[i2]!)))) rfl rfl rfl rfl h22 (by simp [eI]) (by decide) (by decide) rfl ?_)
                            refine rvP C (.pv (.lit (.int .u8 (bitI .xor .u8 (vc2[i2]!) 255)))) ?_
                            refine rvc_un (rexec_prim C (δ := { v := .ptr 107 (0 + i2 * 1) }) rfl rfl rfl rfl ⟨(by have := rLen_le dx.1 x.l; have := of_decide_eq_true h3; have := beq_iff_eq.1 (not_false_of h9); have := eq_of_bne_false h10; have := eq_of_bne_false h11; have := eq_of_bne_false h12; have := eq_of_bne_false h17; have := of_decide_eq_true h19; omega), getlt h22 (by first | rfl | omega | (have := rLen_le dx.1 x.l; have := of_decide_eq_true h3; have := beq_iff_eq.1 (not_false_of h9); have := eq_of_bne_false h10; have := eq_of_bne_false h11; have := eq_of_bne_false h12; have := eq_of_bne_false h17; have := of_decide_eq_true h19; omega)) (by first | rfl | omega | simp)⟩ rfl ?_)
                            refine rvc_un (rexec_storeE C (e := (eI .u8)) i2 0 (vc2[i2]!) (bitI .xor .u8 (vc2[i2]!) 255) rfl rfl rfl rfl h22 (by simp [eI]) rfl rfl rfl (of_decide_eq_true rfl) rfl ?_)
                            refine rvc_nil ?_
                            refine Awp.regionP C ?_
                            refine rvP C (.pv (.lit (.int .i64 (IntKind.i64.wrap ((i2 : Int) + 1))))) ?_
                            refine rvP C (.pv (.lit (.int .i64 (IntKind.i64.wrap ((i2 : Int) + 1))))) ?_
                            refine rvc_nil ?_
                            refine ⟨h20, (vc2.set i2 (bitI .xor .u8 (vc2[i2]!) 255)), ?_, ?_⟩
                            · exact ⟨hR, (by first | omega | (simp <;> omega))⟩
                            · exact ⟨fun b => b, WeakerR.ofL (Ks := [8, 26, 28, 107, 526]) hI ⟨⟨rfl, rfl⟩, ⟨rfl, rfl⟩, ⟨rfl, rfl⟩, ⟨rfl, rfl⟩, ⟨rfl, rfl⟩, ⟨rfl, rfl⟩, ⟨rfl, rfl⟩, ⟨rfl, rfl⟩, ⟨rfl, rfl⟩, ⟨rfl, rfl⟩, ⟨rfl, rfl⟩, ⟨rfl, rfl⟩, ⟨rfl, rfl⟩, ⟨rfl, rfl⟩, ⟨rfl, rfl⟩, ⟨rfl, rfl⟩, ⟨rfl, rfl⟩, ⟨rfl, rfl⟩, ⟨rfl, rfl⟩, ⟨rfl, rfl⟩, ⟨rfl, rfl⟩, ⟨rfl, rfl⟩, ⟨rfl, rfl⟩, ⟨rfl, rfl⟩, ⟨rfl, rfl⟩, ⟨rfl, rfl⟩, ⟨rfl, rfl⟩, ⟨rfl, rfl⟩, ⟨rfl, rfl⟩, ⟨rfl, rfl⟩, ⟨rfl, rfl⟩, ⟨rfl, rfl⟩, ⟨rfl, rfl⟩, ⟨rfl, rfl⟩, ⟨lit_cast (wrap_i64 (by omega) (by omega)), rfl⟩, trivial⟩ (okH_map rfl rfl rfl (okH_cons rfl rfl rfl rfl (okH_cons rfl rfl rfl rfl (okH_cons rfl rfl rfl rfl (okH_list rfl rfl rfl (okH_nil)))))) rfl⟩
                          ·
                            have h20 : ¬ i2 < ((nPeek dn.1 x.l i).1.D).length := by have := of_decide_eq_false h19; omega
                            rw [drop_end h20] at hR
                            refine Awp.exit ?_
                            refine Awp.consP C ?_
                            refine rvP C (sS (some true) (eI .u8) []) ?_
                            refine rvP C (.pv (.lit (.int .i64 0))) ?_
                            refine rvP C (.pv (.lit (.int .i64 0))) ?_
                            refine rvc_nil ?_
                            refine Awp.block ?_
                            refine Awp.rounds 1 ?_
                            refine Arounds.succ ?_
                            refine Awp.consP C ?_
                            refine rvP C (.pv (.lit (.bool false))) ?_
                            refine rvc_nil ?_
                            refine Awp.seq ?_
                            refine Awp.condF (b := false) rfl rfl ?_
                            refine Awp.exit ?_
                            refine Awp.regionP C ?_
                            refine rvP C (.pv (.lit (.int .i64 (IntKind.i64.wrap ((i1 : Int) + 1))))) ?_
                            refine rvP C (.pv (.lit (.int .i64 (IntKind.i64.wrap ((i1 : Int) + 1))))) ?_
                            refine rvc_nil ?_
                            refine ⟨h4, (dn.1, dx.1), ?_, ?_⟩
                            · exact ⟨hR, ⟨hf0_dn, hf1_dn, hf0_dx, by omega⟩⟩
                            · exact ⟨fun b => b, WeakerR.ofL (Ks := [26, 28, 526]) hI ⟨⟨rfl, rfl⟩, ⟨rfl, rfl⟩, ⟨rfl, rfl⟩, ⟨rfl, rfl⟩, ⟨rfl, rfl⟩, ⟨lit_cast (wrap_i64 (by omega) (by omega)), rfl⟩, trivial⟩ (okH_map rfl rfl rfl (okH_cons rfl rfl rfl rfl (okH_cons rfl rfl rfl rfl (okH_nil)))) rfl⟩
        ·
          replace hR := of_false h7 hR
          obtain ⟨dn, hq_dn⟩ : ∃ q_, q_ = (does vc (Do.mk x.op x.i x.l (Sl.mk true []) x.side)) := ⟨_, rfl⟩
          have hc_dn := (doesR_calls vc (Do.mk x.op x.i x.l (Sl.mk true []) x.side) hVo h7 (by first | exact (Nat.le_trans ((short_ok ‹(!(short (Sl.mk false [l]))) = false› l (by simp)).2 x (List.mem_of_getElem? (by assumption))) (by decide)) | exact Nat.zero_le _))
          first | rw [← hq_dn] at hR hc_dn | (unfold lawPlays at hR; rw [← hq_dn] at hR hc_dn) | (unfold lawPlays_l0 at hR; rw [← hq_dn] at hR hc_dn) | (unfold lawPlays_l1 at hR; rw [← hq_dn] at hR hc_dn) | (unfold lawPlays_l2 at hR; rw [← hq_dn] at hR hc_dn) | (unfold lawPlays_l3 at hR; rw [← hq_dn] at hR hc_dn)
          have hf0_dn := does_ok (n := vc) hVo (Do.mk x.op x.i x.l (Sl.mk true []) x.side)
          rw [← hq_dn] at hf0_dn
          have hf1_dn := does_okF (n := vc) hVf (Do.mk x.op x.i x.l (Sl.mk true []) x.side)
          rw [← hq_dn] at hf1_dn
          have hf2_dn := does_len (n := vc) hVo (Do.mk x.op x.i x.l (Sl.mk true []) x.side)
          rw [← hq_dn] at hf2_dn
          refine rvc_un (rexec_callObjR hP C (fun b => bif b == 0 then 26 else bif b == 1 then 526 else b) [(43, 2)] rfl rfl rfl hc_dn rfl rfl ⟨rfl, trivial⟩ (of_decide_eq_true rfl) rfl (of_decide_eq_true rfl) (of_decide_eq_true rfl) (allB_cons rfl allB_nil) (allB_cons rfl allB_nil) (allB_cons rfl (allB_cons rfl allB_nil)) ?_ rfl (allB_cons rfl allB_nil))
          refine rvP C (.tup [.sl 43 0 dn.2.1.D.length 1 false, .pv (.lit (.bool dn.2.2.1)), .pv (.lit (.int .i64 dn.2.2.2))]) ?_
          refine rvP C (.sl 43 0 dn.2.1.D.length 1 false) ?_
          refine rvP C (.pv (.lit (.bool dn.2.2.1))) ?_
          refine rvP C (.pv (.lit (.int .i64 dn.2.2.2))) ?_
          refine rvP C (.sl 43 0 dn.2.1.D.length 1 false) ?_
          refine rvP C (.pv (.lit (.bool dn.2.2.1))) ?_
          refine rvP C (.pv (.lit (.int .i64 dn.2.2.2))) ?_
          refine rvc_nil ?_
          refine Awp.cons C (fun _ => .writer) (by kernel_rfl) ?_
          refine rvP C (.ptr 28 0) ?_
          refine rvP C (.agg [.pv (.lit (.int .i64 x.op)), .pv (.lit (.int .i64 x.i)), .pv (.lit (.int .i64 x.l.from_)), .pv (.lit (.int .i64 x.l.to)), sS (some x.b.nil) (eI .u8) x.b.D, .pv (.lit (.int .u64 x.side))]) ?_
          obtain ⟨dx, hq_dx⟩ : ∃ q_, q_ = (also vc1 x) := ⟨_, rfl⟩
          have hc_dx := (also_calls vc1 x hVx.1 (Nat.le_trans hVx.2 (by have h1_ := (short_ok ‹(!(short (Sl.mk false [l]))) = false› l (by simp)).1; omega)))
          first | rw [← hq_dx] at hR hc_dx | (unfold lawPlays at hR; rw [← hq_dx] at hR hc_dx) | (unfold lawPlays_l0 at hR; rw [← hq_dx] at hR hc_dx) | (unfold lawPlays_l1 at hR; rw [← hq_dx] at hR hc_dx) | (unfold lawPlays_l2 at hR; rw [← hq_dx] at hR hc_dx) | (unfold lawPlays_l3 at hR; rw [← hq_dx] at hR hc_dx)
          have hf0_dx := also_ok (x := vc1) hVx (by have h1_ := (short_ok ‹(!(short (Sl.mk false [l]))) = false› l (by simp)).1; omega) x
          rw [← hq_dx] at hf0_dx
          refine rvc_un (rexec_callM hP C (b := 28) rfl rfl rfl hc_dx rfl rfl ?_)
          refine rvP C (.tup [.pv (.lit (.string dx.2.1)), .pv (.lit (.bool dx.2.2.1)), .pv (.lit (.int .i64 dx.2.2.2))]) ?_
          refine rvP C (.pv (.lit (.string dx.2.1))) ?_
          refine rvP C (.pv (.lit (.bool dx.2.2.1))) ?_
          refine rvP C (.pv (.lit (.int .i64 dx.2.2.2))) ?_
          refine rvP C (.pv (.lit (.string dx.2.1))) ?_
          refine rvP C (.pv (.lit (.bool dx.2.2.1))) ?_
          refine rvP C (.pv (.lit (.int .i64 dx.2.2.2))) ?_
          refine rvc_nil ?_
          refine Awp.seq ?_
          refine Awp.consP C ?_
          refine rvP C (.ptr 9 4) ?_
          refine rvP C (sS (some true) (eI .u8) []) ?_
          refine rvP C (.pv (.lit (.int .i64 0))) ?_
          refine rvP C (.pv (.lit (.int .i64 0))) ?_
          refine rvc_nil ?_
          refine Awp.block ?_
          refine Awp.rounds 1 ?_
          refine Arounds.succ ?_
          refine Awp.consP C ?_
          refine rvP C (.pv (.lit (.bool false))) ?_
          refine rvc_nil ?_
          refine Awp.seq ?_
          refine Awp.condF (b := false) rfl rfl ?_
          refine Awp.exit ?_
          refine Awp.seq ?_
          refine Awp.cons C (fun o => match o.dst with | some 69 => .reads [43] | some 84 => .writes [26, 526] | some 88 => .reads [28] | some 94 => .reads [8] | some 95 => .writes [26, 526] | some 98 => .reads [8] | some 99 => .writes [28] | _ => .pure) (by kernel_rfl) ?_
          refine rvP C (.sl 43 0 dn.2.1.D.length 1 false) ?_
          refine rvc_un (rexec_convR C rfl rfl rfl rfl rfl rfl rfl rfl rfl rfl ?_)
          refine rvP C (.pv (.lit (.string dx.2.1))) ?_
          refine rvP C (.pv (.lit (.bool (!((strOf dn.2.1.D).toList == dx.2.1.toList))))) ?_
          refine rvP C (.pv (.lit (.bool (!((strOf dn.2.1.D).toList == dx.2.1.toList))))) ?_
          refine rvc_case 72 (!((strOf dn.2.1.D).toList == dx.2.1.toList)) rfl (fun h23 => ?_) (fun h23 => ?_)
          ·
            replace hR := of_true h23 hR
            refine rvS ?_
            refine rvS ?_
            refine rvS ?_
            refine rvP C (.pv (.lit (.bool true))) ?_
            refine rvP C (.pv (.lit (.bool true))) ?_
            refine rvS ?_
            refine rvS ?_
            refine rvS ?_
            refine rvP C (.pv (.lit (.bool true))) ?_
            refine rvP C (.pv (.lit (.bool true))) ?_
            refine rvS ?_
            refine rvS ?_
            refine rvS ?_
            refine rvS ?_
            refine rvS ?_
            refine rvS ?_
            refine rvS ?_
            refine rvP C (.pv (.lit (.bool true))) ?_
            refine rvP C (.pv (.lit (.bool true))) ?_
            refine rvS ?_
            refine rvS ?_
            refine rvS ?_
            refine rvS ?_
            refine rvS ?_
            refine rvS ?_
            refine rvS ?_
            refine rvS ?_
            refine rvS ?_
            refine rvP C (.pv (.lit (.bool true))) ?_
            refine rvc_nil ?_
            refine Awp.condT (b := true) rfl rfl ?_
            refine Awp.consP C ?_
            refine rvP C (.pv (.lit (.bool false))) ?_
            refine rvc_nil ?_
            refine Awp.ret ?_
            subst hR
            exact ⟨.inl rfl, rfl⟩
          ·
            replace hR := of_false h23 hR
            refine rvO C (.pv (.lit (.bool dn.2.2.1))) ?_
            refine rvO C (.pv (.lit (.bool dx.2.2.1))) ?_
            refine rvO C (.pv (.lit (.bool (!(dn.2.2.1 == dx.2.2.1))))) ?_
            refine rvP C (.pv (.lit (.bool (!(dn.2.2.1 == dx.2.2.1))))) ?_
            refine rvP C (.pv (.lit (.bool (!(dn.2.2.1 == dx.2.2.1))))) ?_
            refine rvc_case 77 (!(dn.2.2.1 == dx.2.2.1)) rfl (fun h24 => ?_) (fun h24 => ?_)
            ·
              replace hR := of_true h24 hR
              refine rvS ?_
              refine rvS ?_
              refine rvS ?_
              refine rvP C (.pv (.lit (.bool true))) ?_
              refine rvP C (.pv (.lit (.bool true))) ?_
              refine rvS ?_
              refine rvS ?_
              refine rvS ?_
              refine rvS ?_
              refine rvS ?_
              refine rvS ?_
              refine rvS ?_
              refine rvP C (.pv (.lit (.bool true))) ?_
              refine rvP C (.pv (.lit (.bool true))) ?_
              refine rvS ?_
              refine rvS ?_
              refine rvS ?_
              refine rvS ?_
              refine rvS ?_
              refine rvS ?_
              refine rvS ?_
              refine rvS ?_
              refine rvS ?_
              refine rvP C (.pv (.lit (.bool true))) ?_
              refine rvc_nil ?_
              refine Awp.condT (b := true) rfl rfl ?_
              refine Awp.consP C ?_
              refine rvP C (.pv (.lit (.bool false))) ?_
              refine rvc_nil ?_
              refine Awp.ret ?_
              subst hR
              exact ⟨.inl rfl, rfl⟩
            ·
              replace hR := of_false h24 hR
              refine rvO C (.pv (.lit (.int .i64 dn.2.2.2))) ?_
              refine rvO C (.pv (.lit (.int .i64 dx.2.2.2))) ?_
              refine rvO C (.pv (.lit (.bool (dn.2.2.2 != dx.2.2.2)))) ?_
              refine rvP C (.pv (.lit (.bool (dn.2.2.2 != dx.2.2.2)))) ?_
              refine rvP C (.pv (.lit (.bool (dn.2.2.2 != dx.2.2.2)))) ?_
              refine rvc_case 82 (dn.2.2.2 != dx.2.2.2) rfl (fun h25 => ?_) (fun h25 => ?_)
              ·
                replace hR := of_true h25 hR
                refine rvS ?_
                refine rvS ?_
                refine rvS ?_
                refine rvS ?_
                refine rvS ?_
                refine rvS ?_
                refine rvS ?_
                refine rvP C (.pv (.lit (.bool true))) ?_
                refine rvP C (.pv (.lit (.bool true))) ?_
                refine rvS ?_
                refine rvS ?_
                refine rvS ?_
                refine rvS ?_
                refine rvS ?_
                refine rvS ?_
                refine rvS ?_
                refine rvS ?_
                refine rvS ?_
                refine rvP C (.pv (.lit (.bool true))) ?_
                refine rvc_nil ?_
                refine Awp.condT (b := true) rfl rfl ?_
                refine Awp.consP C ?_
                refine rvP C (.pv (.lit (.bool false))) ?_
                refine rvc_nil ?_
                refine Awp.ret ?_
                subst hR
                exact ⟨.inl rfl, rfl⟩
              ·
                replace hR := of_false h25 hR
                refine rvO C (.ptr 26 0) ?_
                refine rvc_open rfl rfl rfl (rexec_callObj hP C (fun b => bif b == 0 then 26 else bif b == 1 then 526 else b) [] rfl rfl rfl (nLost_calls dn.1) rfl rfl ⟨rfl, trivial⟩ (of_decide_eq_true rfl) rfl (of_decide_eq_true rfl) (of_decide_eq_true rfl) allB_nil allB_nil (allB_cons rfl allB_nil) ?_ rfl (allB_cons rfl allB_nil))
                refine rvO C (.ptr 28 0) ?_
                refine rvO C (.ptr 28 0) ?_
                refine rvO C (.ptr 28 65) ?_
                refine rvO C (.pv (.lit (.int .i64 dx.1.lost))) ?_
                refine rvO C (.pv (.lit (.bool ((nLost dn.1) != dx.1.lost)))) ?_
                refine rvP C (.pv (.lit (.bool ((nLost dn.1) != dx.1.lost)))) ?_
                refine rvP C (.pv (.lit (.bool ((nLost dn.1) != dx.1.lost)))) ?_
                refine rvc_case 91 ((nLost dn.1) != dx.1.lost) rfl (fun h26 => ?_) (fun h26 => ?_)
                ·
                  replace hR := of_true h26 hR
                  refine rvS ?_
                  refine rvS ?_
                  refine rvS ?_
                  refine rvS ?_
                  refine rvS ?_
                  refine rvS ?_
                  refine rvS ?_
                  refine rvS ?_
                  refine rvS ?_
                  refine rvP C (.pv (.lit (.bool true))) ?_
                  refine rvc_nil ?_
                  refine Awp.condT (b := true) rfl rfl ?_
                  refine Awp.consP C ?_
                  refine rvP C (.pv (.lit (.bool false))) ?_
                  refine rvc_nil ?_
                  refine Awp.ret ?_
                  subst hR
                  exact ⟨.inl rfl, rfl⟩
                ·
                  replace hR := of_false h26 hR
                  refine rvO C (.ptr 26 0) ?_
                  refine rvO C (.ptr 8 2) ?_
                  refine rvO C (.agg [.pv (.lit (.int .i64 x.l.from_)), .pv (.lit (.int .i64 x.l.to))]) ?_
                  refine rvc_open rfl rfl rfl (rexec_callObj hP C (fun b => bif b == 0 then 26 else bif b == 1 then 526 else b) [] rfl rfl rfl (nLen_calls dn.1 x.l) rfl rfl ⟨rfl, trivial⟩ (of_decide_eq_true rfl) rfl (of_decide_eq_true rfl) (of_decide_eq_true rfl) allB_nil allB_nil (allB_cons rfl allB_nil) ?_ rfl (allB_cons rfl allB_nil))
                  refine rvO C (.ptr 28 0) ?_
                  refine rvO C (.ptr 8 2) ?_
                  refine rvO C (.agg [.pv (.lit (.int .i64 x.l.from_)), .pv (.lit (.int .i64 x.l.to))]) ?_
                  refine rvc_open rfl rfl rfl (rexec_callM hP C (b := 28) rfl rfl rfl (rLen_calls dx.1 x.l (Nat.le_trans hf0_dx.2 (by have h1_ := (short_ok ‹(!(short (Sl.mk false [l]))) = false› l (by simp)).1; omega))) rfl rfl ?_)
                  refine rvO C (.pv (.lit (.bool ((nLen dn.1 x.l) != (rLen dx.1 x.l))))) ?_
                  refine rvP C (.pv (.lit (.bool ((nLen dn.1 x.l) != (rLen dx.1 x.l))))) ?_
                  refine rvc_nil ?_
                  refine Awp.cond (b := ((nLen dn.1 x.l) != (rLen dx.1 x.l))) rfl (fun h27 => ?_) (fun h27 => ?_)
                  ·
                    replace hR := of_true h27 hR
                    refine Awp.consP C ?_
                    refine rvP C (.pv (.lit (.bool false))) ?_
                    refine rvc_nil ?_
                    refine Awp.ret ?_
                    subst hR
                    exact ⟨.inl rfl, rfl⟩
                  ·
                    replace hR := of_false h27 hR
                    refine Awp.skip ?_
                    refine Awp.cons C (fun _ => .writer) (by kernel_rfl) ?_
                    refine rvP C (.ptr 26 0) ?_
                    refine rvP C (.ptr 8 2) ?_
                    refine rvP C (.agg [.pv (.lit (.int .i64 x.l.from_)), .pv (.lit (.int .i64 x.l.to))]) ?_
                    refine rvP C (.pv (.lit (.int .i64 i))) ?_
                    rcases Bool.eq_false_or_eq_true ((nPeek dn.1 x.l i).1.nil) with h28 | h28
                    ·
                      replace hR := of_true h28 hR
                      refine rvc_un (rexec_callObj hP C (fun b => bif b == 0 then 26 else bif b == 1 then 526 else b) [] rfl rfl rfl (nPeekZ_calls dn.1 x.l i hf0_dn h28) rfl rfl ⟨rfl, trivial⟩ (of_decide_eq_true rfl) rfl (of_decide_eq_true rfl) (of_decide_eq_true rfl) allB_nil allB_nil (allB_cons rfl allB_nil) ?_ rfl (allB_cons rfl allB_nil))
                      refine rvP C (.tup [sS (some true) (eI .u8) [], .pv (.lit (.int .i64 ((nPeek dn.1 x.l i).2)))]) ?_
                      refine rvP C (sS (some true) (eI .u8) []) ?_
                      refine rvP C (.pv (.lit (.int .i64 ((nPeek dn.1 x.l i).2)))) ?_
                      refine rvP C (sS (some true) (eI .u8) []) ?_
                      refine rvP C (.pv (.lit (.int .i64 ((nPeek dn.1 x.l i).2)))) ?_
                      refine rvc_nil ?_
                      refine Awp.cons C (fun _ => .writer) (by kernel_rfl) ?_
                      refine rvP C (.ptr 28 0) ?_
                      refine rvP C (.ptr 8 2) ?_
                      refine rvP C (.agg [.pv (.lit (.int .i64 x.l.from_)), .pv (.lit (.int .i64 x.l.to))]) ?_
                      refine rvP C (.pv (.lit (.int .i64 i))) ?_
                      refine rvc_un (rexec_callM hP C (b := 28) rfl rfl rfl (rPeek_calls dx.1 x.l i (Nat.le_trans hf0_dx.2 (by have h1_ := (short_ok ‹(!(short (Sl.mk false [l]))) = false› l (by simp)).1; omega))) rfl rfl ?_)
                      refine rvP C (.tup [.pv (.lit (.string ((rPeek dx.1 x.l i).1))), .pv (.lit (.int .i64 ((rPeek dx.1 x.l i).2)))]) ?_
                      refine rvP C (.pv (.lit (.string ((rPeek dx.1 x.l i).1)))) ?_
                      refine rvP C (.pv (.lit (.int .i64 ((rPeek dx.1 x.l i).2)))) ?_
                      refine rvP C (.pv (.lit (.string ((rPeek dx.1 x.l i).1)))) ?_
                      refine rvP C (.pv (.lit (.int .i64 ((rPeek dx.1 x.l i).2)))) ?_
                      refine rvc_nil ?_
                      refine Awp.seq ?_
                      refine Awp.cons C (fun o => match o.dst with | some 119 => .reads [107] | _ => .pure) (by kernel_rfl) ?_
                      refine rvP C (sS (some true) (eI .u8) []) ?_
                      refine rvc_un (rexec_convS C rfl rfl rfl rfl rfl rfl rfl rfl ?_)
                      refine rvP C (.pv (.lit (.string ((rPeek dx.1 x.l i).1)))) ?_
                      refine rvP C (.pv (.lit (.bool (!((strOf []).toList == ((rPeek dx.1 x.l i).1).toList))))) ?_
                      refine rvP C (.pv (.lit (.bool (!((strOf []).toList == ((rPeek dx.1 x.l i).1).toList))))) ?_
                      refine rvc_case 122 (!((strOf []).toList == ((rPeek dx.1 x.l i).1).toList)) rfl (fun h29 => ?_) (fun h29 => ?_)
                      ·
                        replace hR := of_true h29 hR
                        refine rvS ?_
                        refine rvS ?_
                        refine rvS ?_
                        refine rvP C (.pv (.lit (.bool true))) ?_
                        refine rvc_nil ?_
                        refine Awp.condT (b := true) rfl rfl ?_
                        refine Awp.consP C ?_
                        refine rvP C (.pv (.lit (.bool false))) ?_
                        refine rvc_nil ?_
                        refine Awp.ret ?_
                        subst hR
                        exact ⟨.inl rfl, rfl⟩
                      ·
                        replace hR := of_false h29 hR
                        refine rvO C (.pv (.lit (.int .i64 ((nPeek dn.1 x.l i).2)))) ?_
                        refine rvO C (.pv (.lit (.int .i64 ((rPeek dx.1 x.l i).2)))) ?_
                        refine rvO C (.pv (.lit (.bool (((nPeek dn.1 x.l i).2) != ((rPeek dx.1 x.l i).2))))) ?_
                        refine rvP C (.pv (.lit (.bool (((nPeek dn.1 x.l i).2) != ((rPeek dx.1 x.l i).2))))) ?_
                        refine rvc_nil ?_
                        refine Awp.cond (b := (((nPeek dn.1 x.l i).2) != ((rPeek dx.1 x.l i).2))) rfl (fun h30 => ?_) (fun h30 => ?_)
                        ·
                          replace hR := of_true h30 hR
                          refine Awp.consP C ?_
                          refine rvP C (.pv (.lit (.bool false))) ?_
                          refine rvc_nil ?_
                          refine Awp.ret ?_
                          subst hR
                          exact ⟨.inl rfl, rfl⟩
                        ·
                          replace hR := of_false h30 hR
                          refine Awp.skip ?_
                          refine Awp.seq ?_
                          refine Awp.consP C ?_
                          refine rvP C (sS (some true) (eI .u8) []) ?_
                          refine rvP C (.pv (.lit (.int .i64 0))) ?_
                          refine rvP C (.pv (.lit (.int .i64 0))) ?_
                          refine rvc_nil ?_
                          refine Awp.block ?_
                          refine Awp.rounds 1 ?_
                          refine Arounds.succ ?_
                          refine Awp.consP C ?_
                          refine rvP C (.pv (.lit (.bool false))) ?_
                          refine rvc_nil ?_
                          refine Awp.seq ?_
                          refine Awp.condF (b := false) rfl rfl ?_
                          refine Awp.exit ?_
                          refine Awp.consP C ?_
                          refine rvP C (.sl 43 0 dn.2.1.D.length 1 false) ?_
                          refine rvP C (.pv (.lit (.int .i64 (dn.2.1.D.length : Int)))) ?_
                          refine rvP C (.pv (.lit (.int .i64 0))) ?_
                          refine rvc_nil ?_
                          refine Awp.block ?_
                          refine Awp.forR (σ := ((List Int))) (dn.2.1.D.length) (fun i2 v => [(1, .pv (.lit (.int .i64 i))), (5, .ptr 26 0), (6, .ptr 28 0), (10, .sl 43 0 dn.2.1.D.length 1 false), (29, sS (some l.nil) eDo l.D), (30, .pv (.lit (.int .i64 (l.D.length : Int)))), (31, .pv (.lit (.int .i64 (i1 : Int)))), (73, .pv (.lit (.bool dn.2.2.1))), (74, .pv (.lit (.bool dx.2.2.1))), (75, .pv (.lit (.bool (!(dn.2.2.1 == dx.2.2.1))))), (78, .pv (.lit (.int .i64 dn.2.2.2))), (79, .pv (.lit (.int .i64 dx.2.2.2))), (80, .pv (.lit (.bool (dn.2.2.2 != dx.2.2.2)))), (83, .ptr 26 0), (84, .pv (.lit (.int .i64 (nLost dn.1)))), (85, .ptr 28 0), (86, .ptr 28 0), (87, .ptr 28 65), (88, .pv (.lit (.int .i64 dx.1.lost))), (89, .pv (.lit (.bool ((nLost dn.1) != dx.1.lost)))), (92, .ptr 26 0), (93, .ptr 8 2), (94, .agg [.pv (.lit (.int .i64 x.l.from_)), .pv (.lit (.int .i64 x.l.to))]), (95, .pv (.lit (.int .i64 (nLen dn.1 x.l)))), (96, .ptr 28 0), (97, .ptr 8 2), (98, .agg [.pv (.lit (.int .i64 x.l.from_)), .pv (.lit (.int .i64 x.l.to))]), (99, .pv (.lit (.int .i64 (rLen dx.1 x.l)))), (100, .pv (.lit (.bool ((nLen dn.1 x.l) != (rLen dx.1 x.l))))), (123, .pv (.lit (.int .i64 ((nPeek dn.1 x.l i).2)))), (124, .pv (.lit (.int .i64 ((rPeek dx.1 x.l i).2)))), (125, .pv (.lit (.bool (((nPeek dn.1 x.l i).2) != ((rPeek dx.1 x.l i).2))))), (140, .pv (.lit (.int .i64 (dn.2.1.D.length : Int)))), (141, .pv (.lit (.int .i64 (i2 : Int))))]) (fun i2 v => [(526, mapE kLink vT77.enc dn.1.of_), (26, .cells [.mp 526, .pv (.lit (.int .u64 dn.1.side)), .pv (.lit (.int .i64 dn.1.lost)), .pv (.lit (.bool dn.1.made))]), (28, .cells [sS (some dx.1.items.nil) eItem dx.1.items.D, .pv (.lit (.bool (dx.1.side 0))), .pv (.lit (.bool (dx.1.side 1))), .pv (.lit (.bool (dx.1.side 2))), .pv (.lit (.bool (dx.1.side 3))), .pv (.lit (.bool (dx.1.side 4))), .pv (.lit (.bool (dx.1.side 5))), .pv (.lit (.bool (dx.1.side 6))), .pv (.lit (.bool (dx.1.side 7))), .pv (.lit (.bool (dx.1.side 8))), .pv (.lit (.bool (dx.1.side 9))), .pv (.lit (.bool (dx.1.side 10))), .pv (.lit (.bool (dx.1.side 11))), .pv (.lit (.bool (dx.1.side 12))), .pv (.lit (.bool (dx.1.side 13))), .pv (.lit (.bool (dx.1.side 14))), .pv (.lit (.bool (dx.1.side 15))), .pv (.lit (.bool (dx.1.side 16))), .pv (.lit (.bool (dx.1.side 17))), .pv (.lit (.bool (dx.1.side 18))), .pv (.lit (.bool (dx.1.side 19))), .pv (.lit (.bool (dx.1.side 20))), .pv (.lit (.bool (dx.1.side 21))), .pv (.lit (.bool (dx.1.side 22))), .pv (.lit (.bool (dx.1.side 23))), .pv (.lit (.bool (dx.1.side 24))), .pv (.lit (.bool (dx.1.side 25))), .pv (.lit (.bool (dx.1.side 26))), .pv (.lit (.bool (dx.1.side 27))), .pv (.lit (.bool (dx.1.side 28))), .pv (.lit (.bool (dx.1.side 29))), .pv (.lit (.bool (dx.1.side 30))), .pv (.lit (.bool (dx.1.side 31))), .pv (.lit (.bool (dx.1.side 32))), .pv (.lit (.bool (dx.1.side 33))), .pv (.lit (.bool (dx.1.side 34))), .pv (.lit (.bool (dx.1.side 35))), .pv (.lit (.bool (dx.1.side 36))), .pv (.lit (.bool (dx.1.side 37))), .pv (.lit (.bool (dx.1.side 38))), .pv (.lit (.bool (dx.1.side 39))), .pv (.lit (.bool (dx.1.side 40))), .pv (.lit (.bool (dx.1.side 41))), .pv (.lit (.bool (dx.1.side 42))), .pv (.lit (.bool (dx.1.side 43))), .pv (.lit (.bool (dx.1.side 44))), .pv (.lit (.bool (dx.1.side 45))), .pv (.lit (.bool (dx.1.side 46))), .pv (.lit (.bool (dx.1.side 47))), .pv (.lit (.bool (dx.1.side 48))), .pv (.lit (.bool (dx.1.side 49))), .pv (.lit (.bool (dx.1.side 50))), .pv (.lit (.bool (dx.1.side 51))), .pv (.lit (.bool (dx.1.side 52))), .pv (.lit (.bool (dx.1.side 53))), .pv (.lit (.bool (dx.1.side 54))), .pv (.lit (.bool (dx.1.side 55))), .pv (.lit (.bool (dx.1.side 56))), .pv (.lit (.bool (dx.1.side 57))), .pv (.lit (.bool (dx.1.side 58))), .pv (.lit (.bool (dx.1.side 59))), .pv (.lit (.bool (dx.1.side 60))), .pv (.lit (.bool (dx.1.side 61))), .pv (.lit (.bool (dx.1.side 62))), .pv (.lit (.bool (dx.1.side 63))), .pv (.lit (.int .i64 dx.1.lost))]), (8, .cells [.pv (.lit (.int .i64 x.op)), .pv (.lit (.int .i64 x.i)), .pv (.lit (.int .i64 x.l.from_)), .pv (.lit (.int .i64 x.l.to)), sS (some x.b.nil) (eI .u8) x.b.D, .pv (.lit (.int .u64 x.side))]), (43, .cells (encC (eI .u8) v))]) [8, 26, 28, 43, 526] (fun i2 v => (lawPlays_l3 (fun vc2 => lawPlays_l0 i (l.D.drop (i1 + 1)) (i1 + 1) dn.1 dx.1) (dn.2.1.D.drop i2) i2 v = R) ∧ (v.length = dn.2.1.D.length)) dn.2.1.D ?_ ?_ (fun i2 vc2 h31 hR => ?_)
                          · exact ⟨hR, (by first | omega | (simp <;> omega))⟩
                          · exact ⟨fun b => b, WeakerR.ofL (Ks := [8, 26, 28, 43, 526]) hI ⟨⟨rfl, rfl⟩, ⟨rfl, rfl⟩, ⟨rfl, rfl⟩, ⟨rfl, rfl⟩, ⟨rfl, rfl⟩, ⟨rfl, rfl⟩, ⟨rfl, rfl⟩, ⟨rfl, rfl⟩, ⟨rfl, rfl⟩, ⟨rfl, rfl⟩, ⟨rfl, rfl⟩, ⟨rfl, rfl⟩, ⟨rfl, rfl⟩, ⟨rfl, rfl⟩, ⟨rfl, rfl⟩, ⟨rfl, rfl⟩, ⟨rfl, rfl⟩, ⟨rfl, rfl⟩, ⟨rfl, rfl⟩, ⟨rfl, rfl⟩, ⟨rfl, rfl⟩, ⟨rfl, rfl⟩, ⟨rfl, rfl⟩, ⟨rfl, rfl⟩, ⟨rfl, rfl⟩, ⟨rfl, rfl⟩, ⟨rfl, rfl⟩, ⟨rfl, rfl⟩, ⟨rfl, rfl⟩, ⟨rfl, rfl⟩, ⟨rfl, rfl⟩, ⟨rfl, rfl⟩, ⟨rfl, rfl⟩, ⟨rfl, rfl⟩, trivial⟩ (okH_map rfl rfl rfl (okH_cons rfl rfl rfl rfl (okH_cons rfl rfl rfl rfl (okH_cons rfl rfl rfl rfl (okH_list rfl rfl rfl (okH_nil)))))) rfl⟩
                          obtain ⟨hR, hi_vc2⟩ := hR
                          replace hi_vc2 : vc2.length = dn.2.1.D.length := hi_vc2
                          refine Awp.consP C ?_
                          refine rvP C (.pv (.lit (.bool (decide ((i2 : Int) < (dn.2.1.D.length : Int)))))) ?_
                          refine rvc_nil ?_
                          refine Awp.seq ?_
                          refine Awp.cond (b := (decide ((i2 : Int) < (dn.2.1.D.length : Int)))) rfl (fun h32 => ?_) (fun h32 => ?_)
                          ·
                            have h33 : i2 < dn.2.1.D.length := by have := of_decide_eq_true h32; omega
                            obtain ⟨x1, h34⟩ := getX h33
                            rw [drop_at h34] at hR
                            refine Awp.skip ?_
                            refine Awp.seq ?_
                            refine Awp.block ?_
                            refine Awp.consP C ?_
                            refine rvP C (.pv (.lit (.int .i64 (i2 : Int)))) ?_
                            refine rvP C (.pv (.lit (.int .i64 (i2 : Int)))) ?_
                            refine rvc_nil ?_
                            refine Awp.regionP C ?_
                            refine rvP C (.sl 43 0 dn.2.1.D.length 1 false) ?_
                            refine rvP C (.pv (.lit (.int .i64 (i2 : Int)))) ?_
                            have h35 : vc2[i2]? = some vc2[i2]! := getE (by have := rLen_le dx.1 x.l; have := of_decide_eq_true h3; have := beq_iff_eq.1 (not_false_of h24); have := eq_of_bne_false h25; have := eq_of_bne_false h26; have := eq_of_bne_false h27; have := eq_of_bne_false h30; have := of_decide_eq_true h32; omega)
                            refine rvc_un (rexec_prim C (δ := { v := .ptr 43 (0 + i2 * 1) }) rfl rfl rfl rfl ⟨(by have := rLen_le dx.1 x.l; have := of_decide_eq_true h3; have := beq_iff_eq.1 (not_false_of h24); have := eq_of_bne_false h25; have := eq_of_bne_false h26; have := eq_of_bne_false h27; have := eq_of_bne_false h30; have := of_decide_eq_true h32; omega), getlt h35 (by first | rfl | omega | (have := rLen_le dx.1 x.l; have := of_decide_eq_true h3; have := beq_iff_eq.1 (not_false_of h24); have := eq_of_bne_false h25; have := eq_of_bne_false h26; have := eq_of_bne_false h27; have := eq_of_bne_false h30; have := of_decide_eq_true h32; omega)) (by first | rfl | omega | simp)⟩ rfl ?_)
                            refine rvc_un (rexec_loadE C (e := (eI .u8)) i2 0 (vc2[i2]!) (.pv (.lit (.int .u8 (vc2[i2]!)))) rfl rfl rfl rfl h35 (by simp [eI]) (by decide) (by decide) rfl ?_)
                            refine rvP C (.pv (.lit (.int .u8 (bitI .xor .u8 (vc2[i2]!) 255)))) ?_
                            refine rvc_un (rexec_prim C (δ := { v := .ptr 43 (0 + i2 * 1) }) rfl rfl rfl rfl ⟨(by have := rLen_le dx.1 x.l; have := of_decide_eq_true h3; have := beq_iff_eq.1 (not_false_of h24); have := eq_of_bne_false h25; have := eq_of_bne_false h26; have := eq_of_bne_false h27; have := eq_of_bne_false h30; have := of_decide_eq_true h32; omega), getlt h35 (by first | rfl | omega | (have := rLen_le dx.1 x.l; have := of_decide_eq_true h3; have := beq_iff_eq.1 (not_false_of h24); have := eq_of_bne_false h25; have := eq_of_bne_false h26; have := eq_of_bne_false h27; have := eq_of_bne_false h30; have := of_decide_eq_true h32; omega)) (by first | rfl | omega | simp)⟩ rfl ?_)
                            refine rvc_un (rexec_storeE C (e := (eI .u8)) i2 0 (vc2[i2]!) (bitI .xor .u8 (vc2[i2]!) 255) rfl rfl rfl rfl h35 (by simp [eI]) rfl rfl rfl (of_decide_eq_true rfl) rfl ?_)
                            refine rvc_nil ?_
                            refine Awp.regionP C ?_
                            refine rvP C (.pv (.lit (.int .i64 (IntKind.i64.wrap ((i2 : Int) + 1))))) ?_
                            refine rvP C (.pv (.lit (.int .i64 (IntKind.i64.wrap ((i2 : Int) + 1))))) ?_
                            refine rvc_nil ?_
                            refine ⟨h33, (vc2.set i2 (bitI .xor .u8 (vc2[i2]!) 255)), ?_, ?_⟩
                            · exact ⟨hR, (by first | omega | (simp <;> omega))⟩
                            · exact ⟨fun b => b, WeakerR.ofL (Ks := [8, 26, 28, 43, 526]) hI ⟨⟨rfl, rfl⟩, ⟨rfl, rfl⟩, ⟨rfl, rfl⟩, ⟨rfl, rfl⟩, ⟨rfl, rfl⟩, ⟨rfl, rfl⟩, ⟨rfl, rfl⟩, ⟨rfl, rfl⟩, ⟨rfl, rfl⟩, ⟨rfl, rfl⟩, ⟨rfl, rfl⟩, ⟨rfl, rfl⟩, ⟨rfl, rfl⟩, ⟨rfl, rfl⟩, ⟨rfl, rfl⟩, ⟨rfl, rfl⟩, ⟨rfl, rfl⟩, ⟨rfl, rfl⟩, ⟨rfl, rfl⟩, ⟨rfl, rfl⟩, ⟨rfl, rfl⟩, ⟨rfl, rfl⟩, ⟨rfl, rfl⟩, ⟨rfl, rfl⟩, ⟨rfl, rfl⟩, ⟨rfl, rfl⟩, ⟨rfl, rfl⟩, ⟨rfl, rfl⟩, ⟨rfl, rfl⟩, ⟨rfl, rfl⟩, ⟨rfl, rfl⟩, ⟨rfl, rfl⟩, ⟨rfl, rfl⟩, ⟨lit_cast (wrap_i64 (by omega) (by omega)), rfl⟩, trivial⟩ (okH_map rfl rfl rfl (okH_cons rfl rfl rfl rfl (okH_cons rfl rfl rfl rfl (okH_cons rfl rfl rfl rfl (okH_list rfl rfl rfl (okH_nil)))))) rfl⟩
                          ·
                            have h33 : ¬ i2 < dn.2.1.D.length := by have := of_decide_eq_false h32; omega
                            rw [drop_end h33] at hR
                            refine Awp.exit ?_
                            refine Awp.regionP C ?_
                            refine rvP C (.pv (.lit (.int .i64 (IntKind.i64.wrap ((i1 : Int) + 1))))) ?_
                            refine rvP C (.pv (.lit (.int .i64 (IntKind.i64.wrap ((i1 : Int) + 1))))) ?_
                            refine rvc_nil ?_
                            refine ⟨h4, (dn.1, dx.1), ?_, ?_⟩
                            · exact ⟨hR, ⟨hf0_dn, hf1_dn, hf0_dx, by omega⟩⟩
                            · exact ⟨fun b => b, WeakerR.ofL (Ks := [26, 28, 526]) hI ⟨⟨rfl, rfl⟩, ⟨rfl, rfl⟩, ⟨rfl, rfl⟩, ⟨rfl, rfl⟩, ⟨rfl, rfl⟩, ⟨lit_cast (wrap_i64 (by omega) (by omega)), rfl⟩, trivial⟩ (okH_map rfl rfl rfl (okH_cons rfl rfl rfl rfl (okH_cons rfl rfl rfl rfl (okH_nil)))) rfl⟩
                    ·
                      replace hR := of_false h28 hR
                      refine rvc_un (rexec_callObjR hP C (fun b => bif b == 0 then 26 else bif b == 1 then 526 else b) [(107, 2)] rfl rfl rfl (nPeekR_calls dn.1 x.l i hf0_dn h28) rfl rfl ⟨rfl, trivial⟩ (of_decide_eq_true rfl) rfl (of_decide_eq_true rfl) (of_decide_eq_true rfl) (allB_cons rfl allB_nil) (allB_cons rfl allB_nil) (allB_cons rfl (allB_cons rfl allB_nil)) ?_ rfl (allB_cons rfl allB_nil))
                      refine rvP C (.tup [.sl 107 0 ((nPeek dn.1 x.l i).1.D.length) 1 false, .pv (.lit (.int .i64 ((nPeek dn.1 x.l i).2)))]) ?_
                      refine rvP C (.sl 107 0 ((nPeek dn.1 x.l i).1.D.length) 1 false) ?_
                      refine rvP C (.pv (.lit (.int .i64 ((nPeek dn.1 x.l i).2)))) ?_
                      refine rvP C (.sl 107 0 ((nPeek dn.1 x.l i).1.D.length) 1 false) ?_
                      refine rvP C (.pv (.lit (.int .i64 ((nPeek dn.1 x.l i).2)))) ?_
                      refine rvc_nil ?_
                      refine Awp.cons C (fun _ => .writer) (by kernel_rfl) ?_
                      refine rvP C (.ptr 28 0) ?_
                      refine rvP C (.ptr 8 2) ?_
                      refine rvP C (.agg [.pv (.lit (.int .i64 x.l.from_)), .pv (.lit (.int .i64 x.l.to))]) ?_
                      refine rvP C (.pv (.lit (.int .i64 i))) ?_
                      refine rvc_un (rexec_callM hP C (b := 28) rfl rfl rfl (rPeek_calls dx.1 x.l i (Nat.le_trans hf0_dx.2 (by have h1_ := (short_ok ‹(!(short (Sl.mk false [l]))) = false› l (by simp)).1; omega))) rfl rfl ?_)
                      refine rvP C (.tup [.pv (.lit (.string ((rPeek dx.1 x.l i).1))), .pv (.lit (.int .i64 ((rPeek dx.1 x.l i).2)))]) ?_
                      refine rvP C (.pv (.lit (.string ((rPeek dx.1 x.l i).1)))) ?_
                      refine rvP C (.pv (.lit (.int .i64 ((rPeek dx.1 x.l i).2)))) ?_
                      refine rvP C (.pv (.lit (.string ((rPeek dx.1 x.l i).1)))) ?_
                      refine rvP C (.pv (.lit (.int .i64 ((rPeek dx.1 x.l i).2)))) ?_
                      refine rvc_nil ?_
                      refine Awp.seq ?_
                      refine Awp.cons C (fun o => match o.dst with | some 119 => .reads [107] | _ => .pure) (by kernel_rfl) ?_
                      refine rvP C (.sl 107 0 ((nPeek dn.1 x.l i).1.D.length) 1 false) ?_
                      refine rvc_un (rexec_convR C rfl rfl rfl (by first | rfl | omega | simp) rfl rfl rfl rfl rfl rfl ?_)
                      refine rvP C (.pv (.lit (.string ((rPeek dx.1 x.l i).1)))) ?_
                      refine rvP C (.pv (.lit (.bool (!((strOf ((nPeek dn.1 x.l i).1.D)).toList == ((rPeek dx.1 x.l i).1).toList))))) ?_
                      refine rvP C (.pv (.lit (.bool (!((strOf ((nPeek dn.1 x.l i).1.D)).toList == ((rPeek dx.1 x.l i).1).toList))))) ?_
                      refine rvc_case 122 (!((strOf ((nPeek dn.1 x.l i).1.D)).toList == ((rPeek dx.1 x.l i).1).toList)) rfl (fun h36 => ?_) (fun h36 => ?_)
                      ·
                        replace hR := of_true h36 hR
                        refine rvS ?_
                        refine rvS ?_
                        refine rvS ?_
                        refine rvP C (.pv (.lit (.bool true))) ?_
                        refine rvc_nil ?_
                        refine Awp.condT (b := true) rfl rfl ?_
                        refine Awp.consP C ?_
                        refine rvP C (.pv (.lit (.bool false))) ?_
                        refine rvc_nil ?_
                        refine Awp.ret ?_
                        subst hR
                        exact ⟨.inl rfl, rfl⟩
                      ·
                        replace hR := of_false h36 hR
                        refine rvO C (.pv (.lit (.int .i64 ((nPeek dn.1 x.l i).2)))) ?_
                        refine rvO C (.pv (.lit (.int .i64 ((rPeek dx.1 x.l i).2)))) ?_
                        refine rvO C (.pv (.lit (.bool (((nPeek dn.1 x.l i).2) != ((rPeek dx.1 x.l i).2))))) ?_
                        refine rvP C (.pv (.lit (.bool (((nPeek dn.1 x.l i).2) != ((rPeek dx.1 x.l i).2))))) ?_
                        refine rvc_nil ?_
                        refine Awp.cond (b := (((nPeek dn.1 x.l i).2) != ((rPeek dx.1 x.l i).2))) rfl (fun h37 => ?_) (fun h37 => ?_)
                        ·
                          replace hR := of_true h37 hR
                          refine Awp.consP C ?_
                          refine rvP C (.pv (.lit (.bool false))) ?_
                          refine rvc_nil ?_
                          refine Awp.ret ?_
                          subst hR
                          exact ⟨.inl rfl, rfl⟩
                        ·
                          replace hR := of_false h37 hR
                          refine Awp.skip ?_
                          refine Awp.seq ?_
                          refine Awp.consP C ?_
                          refine rvP C (.sl 107 0 ((nPeek dn.1 x.l i).1.D.length) 1 false) ?_
                          refine rvP C (.pv (.lit (.int .i64 (((nPeek dn.1 x.l i).1.D.length) : Int)))) ?_
                          refine rvP C (.pv (.lit (.int .i64 0))) ?_
                          refine rvc_nil ?_
                          refine Awp.block ?_
                          refine Awp.forR (σ := ((List Int))) (((nPeek dn.1 x.l i).1.D).length) (fun i2 v => [(1, .pv (.lit (.int .i64 i))), (5, .ptr 26 0), (6, .ptr 28 0), (10, .sl 43 0 dn.2.1.D.length 1 false), (17, .sl 107 0 ((nPeek dn.1 x.l i).1.D.length) 1 false), (29, sS (some l.nil) eDo l.D), (30, .pv (.lit (.int .i64 (l.D.length : Int)))), (31, .pv (.lit (.int .i64 (i1 : Int)))), (73, .pv (.lit (.bool dn.2.2.1))), (74, .pv (.lit (.bool dx.2.2.1))), (75, .pv (.lit (.bool (!(dn.2.2.1 == dx.2.2.1))))), (78, .pv (.lit (.int .i64 dn.2.2.2))), (79, .pv (.lit (.int .i64 dx.2.2.2))), (80, .pv (.lit (.bool (dn.2.2.2 != dx.2.2.2)))), (83, .ptr 26 0), (84, .pv (.lit (.int .i64 (nLost dn.1)))), (85, .ptr 28 0), (86, .ptr 28 0), (87, .ptr 28 65), (88, .pv (.lit (.int .i64 dx.1.lost))), (89, .pv (.lit (.bool ((nLost dn.1) != dx.1.lost)))), (92, .ptr 26 0), (93, .ptr 8 2), (94, .agg [.pv (.lit (.int .i64 x.l.from_)), .pv (.lit (.int .i64 x.l.to))]), (95, .pv (.lit (.int .i64 (nLen dn.1 x.l)))), (96, .ptr 28 0), (97, .ptr 8 2), (98, .agg [.pv (.lit (.int .i64 x.l.from_)), .pv (.lit (.int .i64 x.l.to))]), (99, .pv (.lit (.int .i64 (rLen dx.1 x.l)))), (100, .pv (.lit (.bool ((nLen dn.1 x.l) != (rLen dx.1 x.l))))), (123, .pv (.lit (.int .i64 ((nPeek dn.1 x.l i).2)))), (124, .pv (.lit (.int .i64 ((rPeek dx.1 x.l i).2)))), (125, .pv (.lit (.bool (((nPeek dn.1 x.l i).2) != ((rPeek dx.1 x.l i).2))))), (128, .pv (.lit (.int .i64 (((nPeek dn.1 x.l i).1.D.length) : Int)))), (129, .pv (.lit (.int .i64 (i2 : Int))))]) (fun i2 v => [(526, mapE kLink vT77.enc dn.1.of_), (26, .cells [.mp 526, .pv (.lit (.int .u64 dn.1.side)), .pv (.lit (.int .i64 dn.1.lost)), .pv (.lit (.bool dn.1.made))]), (28, .cells [sS (some dx.1.items.nil) eItem dx.1.items.D, .pv (.lit (.bool (dx.1.side 0))), .pv (.lit (.bool (dx.1.side 1))), .pv (.lit (.bool (dx.1.side 2))), .pv (.lit (.bool (dx.1.side 3))), .pv (.lit (.bool (dx.1.side 4))), .pv (.lit (.bool (dx.1.side 5))), .pv (.lit (.bool (dx.1.side 6))), .pv (.lit (.bool (dx.1.side 7))), .pv (.lit (.bool (dx.1.side 8))), .pv (.lit (.bool (dx.1.side 9))), .pv (.lit (.bool (dx.1.side 10))), .pv (.lit (.bool (dx.1.side 11))), .pv (.lit (.bool (dx.1.side 12))), .pv (.lit (.bool (dx.1.side 13))), .pv (.lit (.bool (dx.1.side 14))), .pv (.lit (.bool (dx.1.side 15))), .pv (.lit (.bool (dx.1.side 16))), .pv (.lit (.bool (dx.1.side 17))), .pv (.lit (.bool (dx.1.side 18))), .pv (.lit (.bool (dx.1.side 19))), .pv (.lit (.bool (dx.1.side 20))), .pv (.lit (.bool (dx.1.side 21))), .pv (.lit (.bool (dx.1.side 22))), .pv (.lit (.bool (dx.1.side 23))), .pv (.lit (.bool (dx.1.side 24))), .pv (.lit (.bool (dx.1.side 25))), .pv (.lit (.bool (dx.1.side 26))), .pv (.lit (.bool (dx.1.side 27))), .pv (.lit (.bool (dx.1.side 28))), .pv (.lit (.bool (dx.1.side 29))), .pv (.lit (.bool (dx.1.side 30))), .pv (.lit (.bool (dx.1.side 31))), .pv (.lit (.bool (dx.1.side 32))), .pv (.lit (.bool (dx.1.side 33))), .pv (.lit (.bool (dx.1.side 34))), .pv (.lit (.bool (dx.1.side 35))), .pv (.lit (.bool (dx.1.side 36))), .pv (.lit (.bool (dx.1.side 37))), .pv (.lit (.bool (dx.1.side 38))), .pv (.lit (.bool (dx.1.side 39))), .pv (.lit (.bool (dx.1.side 40))), .pv (.lit (.bool (dx.1.side 41))), .pv (.lit (.bool (dx.1.side 42))), .pv (.lit (.bool (dx.1.side 43))), .pv (.lit (.bool (dx.1.side 44))), .pv (.lit (.bool (dx.1.side 45))), .pv (.lit (.bool (dx.1.side 46))), .pv (.lit (.bool (dx.1.side 47))), .pv (.lit (.bool (dx.1.side 48))), .pv (.lit (.bool (dx.1.side 49))), .pv (.lit (.bool (dx.1.side 50))), .pv (.lit (.bool (dx.1.side 51))), .pv (.lit (.bool (dx.1.side 52))), .pv (.lit (.bool (dx.1.side 53))), .pv (.lit (.bool (dx.1.side 54))), .pv (.lit (.bool (dx.1.side 55))), .pv (.lit (.bool (dx.1.side 56))), .pv (.lit (.bool (dx.1.side 57))), .pv (.lit (.bool (dx.1.side 58))), .pv (.lit (.bool (dx.1.side 59))), .pv (.lit (.bool (dx.1.side 60))), .pv (.lit (.bool (dx.1.side 61))), .pv (.lit (.bool (dx.1.side 62))), .pv (.lit (.bool (dx.1.side 63))), .pv (.lit (.int .i64 dx.1.lost))]), (8, .cells [.pv (.lit (.int .i64 x.op)), .pv (.lit (.int .i64 x.i)), .pv (.lit (.int .i64 x.l.from_)), .pv (.lit (.int .i64 x.l.to)), sS (some x.b.nil) (eI .u8) x.b.D, .pv (.lit (.int .u64 x.side))]), (43, .cells (encC (eI .u8) dn.2.1.D)), (107, .cells (encC (eI .u8) v))]) [8, 26, 28, 43, 107, 526] (fun i2 v => (lawPlays_l2 (fun vc2 => lawPlays_l3 (fun vc3 => lawPlays_l0 i (l.D.drop (i1 + 1)) (i1 + 1) dn.1 dx.1) dn.2.1.D 0 dn.2.1.D) (((nPeek dn.1 x.l i).1.D).drop i2) i2 v = R) ∧ (v.length = (nPeek dn.1 x.l i).1.D.length)) ((nPeek dn.1 x.l i).1.D) ?_ ?_ (fun i2 vc2 h38 hR => ?_)
                          · exact ⟨hR, (by first | omega | (simp <;> omega))⟩
                          · exact ⟨fun b => b, WeakerR.ofL (Ks := [8, 26, 28, 43, 107, 526]) hI ⟨⟨rfl, rfl⟩, ⟨rfl, rfl⟩, ⟨rfl, rfl⟩, ⟨rfl, rfl⟩, ⟨rfl, rfl⟩, ⟨rfl, rfl⟩, ⟨rfl, rfl⟩, ⟨rfl, rfl⟩, ⟨rfl, rfl⟩, ⟨rfl, rfl⟩, ⟨rfl, rfl⟩, ⟨rfl, rfl⟩, ⟨rfl, rfl⟩, ⟨rfl, rfl⟩, ⟨rfl, rfl⟩, ⟨rfl, rfl⟩, ⟨rfl, rfl⟩, ⟨rfl, rfl⟩, ⟨rfl, rfl⟩, ⟨rfl, rfl⟩, ⟨rfl, rfl⟩, ⟨rfl, rfl⟩, ⟨rfl, rfl⟩, ⟨rfl, rfl⟩, ⟨rfl, rfl⟩, ⟨rfl, rfl⟩, ⟨rfl, rfl⟩, ⟨rfl, rfl⟩, ⟨rfl, rfl⟩, ⟨rfl, rfl⟩, ⟨rfl, rfl⟩, ⟨rfl, rfl⟩, ⟨rfl, rfl⟩, ⟨rfl, rfl⟩, ⟨rfl, rfl⟩, trivial⟩ (okH_map rfl rfl rfl (okH_cons rfl rfl rfl rfl (okH_cons rfl rfl rfl rfl (okH_cons rfl rfl rfl rfl (okH_list rfl rfl rfl (okH_list rfl rfl rfl (okH_nil))))))) rfl⟩
                          obtain ⟨hR, hi_vc2⟩ := hR
                          replace hi_vc2 : vc2.length = (nPeek dn.1 x.l i).1.D.length := hi_vc2
                          have hb2_ := nPeek_len hf0_dn x.l i
                          refine Awp.consP C ?_
                          refine rvP C (.pv (.lit (.bool (decide ((i2 : Int) < (((nPeek dn.1 x.l i).1.D.length) : Int)))))) ?_
                          refine rvc_nil ?_
                          refine Awp.seq ?_
                          refine Awp.cond (b := (decide ((i2 : Int) < (((nPeek dn.1 x.l i).1.D.length) : Int)))) rfl (fun h39 => ?_) (fun h39 => ?_)
                          ·
                            have h40 : i2 < ((nPeek dn.1 x.l i).1.D).length := by have := of_decide_eq_true h39; omega
                            obtain ⟨x1, h41⟩ := getX h40
                            rw [drop_at h41] at hR
                            refine Awp.skip ?_
                            refine Awp.seq ?_
                            refine Awp.block ?_
                            refine Awp.consP C ?_
                            refine rvP C (.pv (.lit (.int .i64 (i2 : Int)))) ?_
                            refine rvP C (.pv (.lit (.int .i64 (i2 : Int)))) ?_
                            refine rvc_nil ?_
                            refine Awp.regionP C ?_
                            refine rvP C (.sl 107 0 ((nPeek dn.1 x.l i).1.D.length) 1 false) ?_
                            refine rvP C (.pv (.lit (.int .i64 (i2 : Int)))) ?_
                            have h42 : vc2[i2]? = some vc2[i2]! := getE (by have := rLen_le dx.1 x.l; have := of_decide_eq_true h3; have := beq_iff_eq.1 (not_false_of h24); have := eq_of_bne_false h25; have := eq_of_bne_false h26; have := eq_of_bne_false h27; have := eq_of_bne_false h37; have := of_decide_eq_true h39; omega)
                            refine rvc_un (rexec_prim C (δ := { v := .ptr 107 (0 + i2 * 1) }) rfl rfl rfl rfl ⟨(by have := rLen_le dx.1 x.l; have := of_decide_eq_true h3; have := beq_iff_eq.1 (not_false_of h24); have := eq_of_bne_false h25; have := eq_of_bne_false h26; have := eq_of_bne_false h27; have := eq_of_bne_false h37; have := of_decide_eq_true h39; omega), getlt h42 (by first | rfl | omega | (have := rLen_le dx.1 x.l; have := of_decide_eq_true h3; have := beq_iff_eq.1 (not_false_of h24); have := eq_of_bne_false h25; have := eq_of_bne_false h26; have := eq_of_bne_false h27; have := eq_of_bne_false h37; have := of_decide_eq_true h39; omega)) (by first | rfl | omega | simp)⟩ rfl ?_)
                            refine rvc_un (rexec_loadE C (e := (eI .u8)) i2 0 (vc2[i2]!) (.pv (.lit (.int .u8 (vc2[i2]!)))) rfl rfl rfl rfl h42 (by simp [eI]) (by decide) (by decide) rfl ?_)
                            refine rvP C (.pv (.lit (.int .u8 (bitI .xor .u8 (vc2[i2]!) 255)))) ?_
                            refine rvc_un (rexec_prim C (δ := { v := .ptr 107 (0 + i2 * 1) }) rfl rfl rfl rfl ⟨(by have := rLen_le dx.1 x.l; have := of_decide_eq_true h3; have := beq_iff_eq.1 (not_false_of h24); have := eq_of_bne_false h25; have := eq_of_bne_false h26; have := eq_of_bne_false h27; have := eq_of_bne_false h37; have := of_decide_eq_true h39; omega), getlt h42 (by first | rfl | omega | (have := rLen_le dx.1 x.l; have := of_decide_eq_true h3; have := beq_iff_eq.1 (not_false_of h24); have := eq_of_bne_false h25; have := eq_of_bne_false h26; have := eq_of_bne_false h27; have := eq_of_bne_false h37; have := of_decide_eq_true h39; omega)) (by first | rfl | omega | simp)⟩ rfl ?_)
                            refine rvc_un (rexec_storeE C (e := (eI .u8)) i2 0 (vc2[i2]!) (bitI .xor .u8 (vc2[i2]!) 255) rfl rfl rfl rfl h42 (by simp [eI]) rfl rfl rfl (of_decide_eq_true rfl) rfl ?_)
                            refine rvc_nil ?_
                            refine Awp.regionP C ?_
                            refine rvP C (.pv (.lit (.int .i64 (IntKind.i64.wrap ((i2 : Int) + 1))))) ?_
                            refine rvP C (.pv (.lit (.int .i64 (IntKind.i64.wrap ((i2 : Int) + 1))))) ?_
                            refine rvc_nil ?_
                            refine ⟨h40, (vc2.set i2 (bitI .xor .u8 (vc2[i2]!) 255)), ?_, ?_⟩
                            · exact ⟨hR, (by first | omega | (simp <;> omega))⟩
                            · exact ⟨fun b => b, WeakerR.ofL (Ks := [8, 26, 28, 43, 107, 526]) hI ⟨⟨rfl, rfl⟩, ⟨rfl, rfl⟩, ⟨rfl, rfl⟩, ⟨rfl, rfl⟩, ⟨rfl, rfl⟩, ⟨rfl, rfl⟩, ⟨rfl, rfl⟩, ⟨rfl, rfl⟩, ⟨rfl, rfl⟩, ⟨rfl, rfl⟩, ⟨rfl, rfl⟩, ⟨rfl, rfl⟩, ⟨rfl, rfl⟩, ⟨rfl, rfl⟩, ⟨rfl, rfl⟩, ⟨rfl, rfl⟩, ⟨rfl, rfl⟩, ⟨rfl, rfl⟩, ⟨rfl, rfl⟩, ⟨rfl, rfl⟩, ⟨rfl, rfl⟩, ⟨rfl, rfl⟩, ⟨rfl, rfl⟩, ⟨rfl, rfl⟩, ⟨rfl, rfl⟩, ⟨rfl, rfl⟩, ⟨rfl, rfl⟩, ⟨rfl, rfl⟩, ⟨rfl, rfl⟩, ⟨rfl, rfl⟩, ⟨rfl, rfl⟩, ⟨rfl, rfl⟩, ⟨rfl, rfl⟩, ⟨rfl, rfl⟩, ⟨lit_cast (wrap_i64 (by omega) (by omega)), rfl⟩, trivial⟩ (okH_map rfl rfl rfl (okH_cons rfl rfl rfl rfl (okH_cons rfl rfl rfl rfl (okH_cons rfl rfl rfl rfl (okH_list rfl rfl rfl (okH_list rfl rfl rfl (okH_nil))))))) rfl⟩
                          ·
                            have h40 : ¬ i2 < ((nPeek dn.1 x.l i).1.D).length := by have := of_decide_eq_false h39; omega
                            rw [drop_end h40] at hR
                            refine Awp.exit ?_
                            refine Awp.consP C ?_
                            refine rvP C (.sl 43 0 dn.2.1.D.length 1 false) ?_
                            refine rvP C (.pv (.lit (.int .i64 (dn.2.1.D.length : Int)))) ?_
                            refine rvP C (.pv (.lit (.int .i64 0))) ?_
                            refine rvc_nil ?_
                            refine Awp.block ?_
                            refine Awp.forR (σ := ((List Int))) (dn.2.1.D.length) (fun i3 v => [(1, .pv (.lit (.int .i64 i))), (5, .ptr 26 0), (6, .ptr 28 0), (10, .sl 43 0 dn.2.1.D.length 1 false), (29, sS (some l.nil) eDo l.D), (30, .pv (.lit (.int .i64 (l.D.length : Int)))), (31, .pv (.lit (.int .i64 (i1 : Int)))), (73, .pv (.lit (.bool dn.2.2.1))), (74, .pv (.lit (.bool dx.2.2.1))), (75, .pv (.lit (.bool (!(dn.2.2.1 == dx.2.2.1))))), (78, .pv (.lit (.int .i64 dn.2.2.2))), (79, .pv (.lit (.int .i64 dx.2.2.2))), (80, .pv (.lit (.bool (dn.2.2.2 != dx.2.2.2)))), (83, .ptr 26 0), (84, .pv (.lit (.int .i64 (nLost dn.1)))), (85, .ptr 28 0), (86, .ptr 28 0), (87, .ptr 28 65), (88, .pv (.lit (.int .i64 dx.1.lost))), (89, .pv (.lit (.bool ((nLost dn.1) != dx.1.lost)))), (92, .ptr 26 0), (93, .ptr 8 2), (94, .agg [.pv (.lit (.int .i64 x.l.from_)), .pv (.lit (.int .i64 x.l.to))]), (95, .pv (.lit (.int .i64 (nLen dn.1 x.l)))), (96, .ptr 28 0), (97, .ptr 8 2), (98, .agg [.pv (.lit (.int .i64 x.l.from_)), .pv (.lit (.int .i64 x.l.to))]), (99, .pv (.lit (.int .i64 (rLen dx.1 x.l)))), (100, .pv (.lit (.bool ((nLen dn.1 x.l) != (rLen dx.1 x.l))))), (123, .pv (.lit (.int .i64 ((nPeek dn.1 x.l i).2)))), (124, .pv (.lit (.int .i64 ((rPeek dx.1 x.l i).2)))), (125, .pv (.lit (.bool (((nPeek dn.1 x.l i).2) != ((rPeek dx.1 x.l i).2))))), (140, .pv (.lit (.int .i64 (dn.2.1.D.length : Int)))), (141, .pv (.lit (.int .i64 (i3 : Int))))]) (fun i3 v => [(526, mapE kLink vT77.enc dn.1.of_), (26, .cells [.mp 526, .pv (.lit (.int .u64 dn.1.side)), .pv (.lit (.int .i64 dn.1.lost)), .pv (.lit (.bool dn.1.made))]), (28, .cells [sS (some dx.1.items.nil) eItem dx.1.items.D, .pv (.lit (.bool (dx.1.side 0))), .pv (.lit (.bool (dx.1.side 1))), .pv (.lit (.bool (dx.1.side 2))), .pv (.lit (.bool (dx.1.side 3))), .pv (.lit (.bool (dx.1.side 4))), .pv (.lit (.bool (dx.1.side 5))), .pv (.lit (.bool (dx.1.side 6))), .pv (.lit (.bool (dx.1.side 7))), .pv (.lit (.bool (dx.1.side 8))), .pv (.lit (.bool (dx.1.side 9))), .pv (.lit (.bool (dx.1.side 10))), .pv (.lit (.bool (dx.1.side 11))), .pv (.lit (.bool (dx.1.side 12))), .pv (.lit (.bool (dx.1.side 13))), .pv (.lit (.bool (dx.1.side 14))), .pv (.lit (.bool (dx.1.side 15))), .pv (.lit (.bool (dx.1.side 16))), .pv (.lit (.bool (dx.1.side 17))), .pv (.lit (.bool (dx.1.side 18))), .pv (.lit (.bool (dx.1.side 19))), .pv (.lit (.bool (dx.1.side 20))), .pv (.lit (.bool (dx.1.side 21))), .pv (.lit (.bool (dx.1.side 22))), .pv (.lit (.bool (dx.1.side 23))), .pv (.lit (.bool (dx.1.side 24))), .pv (.lit (.bool (dx.1.side 25))), .pv (.lit (.bool (dx.1.side 26))), .pv (.lit (.bool (dx.1.side 27))), .pv (.lit (.bool (dx.1.side 28))), .pv (.lit (.bool (dx.1.side 29))), .pv (.lit (.bool (dx.1.side 30))), .pv (.lit (.bool (dx.1.side 31))), .pv (.lit (.bool (dx.1.side 32))), .pv (.lit (.bool (dx.1.side 33))), .pv (.lit (.bool (dx.1.side 34))), .pv (.lit (.bool (dx.1.side 35))), .pv (.lit (.bool (dx.1.side 36))), .pv (.lit (.bool (dx.1.side 37))), .pv (.lit (.bool (dx.1.side 38))), .pv (.lit (.bool (dx.1.side 39))), .pv (.lit (.bool (dx.1.side 40))), .pv (.lit (.bool (dx.1.side 41))), .pv (.lit (.bool (dx.1.side 42))), .pv (.lit (.bool (dx.1.side 43))), .pv (.lit (.bool (dx.1.side 44))), .pv (.lit (.bool (dx.1.side 45))), .pv (.lit (.bool (dx.1.side 46))), .pv (.lit (.bool (dx.1.side 47))), .pv (.lit (.bool (dx.1.side 48))), .pv (.lit (.bool (dx.1.side 49))), .pv (.lit (.bool (dx.1.side 50))), .pv (.lit (.bool (dx.1.side 51))), .pv (.lit (.bool (dx.1.side 52))), .pv (.lit (.bool (dx.1.side 53))), .pv (.lit (.bool (dx.1.side 54))), .pv (.lit (.bool (dx.1.side 55))), .pv (.lit (.bool (dx.1.side 56))), .pv (.lit (.bool (dx.1.side 57))), .pv (.lit (.bool (dx.1.side 58))), .pv (.lit (.bool (dx.1.side 59))), .pv (.lit (.bool (dx.1.side 60))), .pv (.lit (.bool (dx.1.side 61))), .pv (.lit (.bool (dx.1.side 62))), .pv (.lit (.bool (dx.1.side 63))), .pv (.lit (.int .i64 dx.1.lost))]), (8, .cells [.pv (.lit (.int .i64 x.op)), .pv (.lit (.int .i64 x.i)), .pv (.lit (.int .i64 x.l.from_)), .pv (.lit (.int .i64 x.l.to)), sS (some x.b.nil) (eI .u8) x.b.D, .pv (.lit (.int .u64 x.side))]), (43, .cells (encC (eI .u8) v))]) [8, 26, 28, 43, 526] (fun i3 v => (lawPlays_l3 (fun vc3 => lawPlays_l0 i (l.D.drop (i1 + 1)) (i1 + 1) dn.1 dx.1) (dn.2.1.D.drop i3) i3 v = R) ∧ (v.length = dn.2.1.D.length)) dn.2.1.D ?_ ?_ (fun i3 vc3 h43 hR => ?_)
                            · exact ⟨hR, (by first | omega | (simp <;> omega))⟩
                            · exact ⟨fun b => b, WeakerR.ofL (Ks := [8, 26, 28, 43, 526]) hI ⟨⟨rfl, rfl⟩, ⟨rfl, rfl⟩, ⟨rfl, rfl⟩, ⟨rfl, rfl⟩, ⟨rfl, rfl⟩, ⟨rfl, rfl⟩, ⟨rfl, rfl⟩, ⟨rfl, rfl⟩, ⟨rfl, rfl⟩, ⟨rfl, rfl⟩, ⟨rfl, rfl⟩, ⟨rfl, rfl⟩, ⟨rfl, rfl⟩, ⟨rfl, rfl⟩, ⟨rfl, rfl⟩, ⟨rfl, rfl⟩, ⟨rfl, rfl⟩, ⟨rfl, rfl⟩, ⟨rfl, rfl⟩, ⟨rfl, rfl⟩, ⟨rfl, rfl⟩, ⟨rfl, rfl⟩, ⟨rfl, rfl⟩, ⟨rfl, rfl⟩, ⟨rfl, rfl⟩, ⟨rfl, rfl⟩, ⟨rfl, rfl⟩, ⟨rfl, rfl⟩, ⟨rfl, rfl⟩, ⟨rfl, rfl⟩, ⟨rfl, rfl⟩, ⟨rfl, rfl⟩, ⟨rfl, rfl⟩, ⟨rfl, rfl⟩, trivial⟩ (okH_map rfl rfl rfl (okH_cons rfl rfl rfl rfl (okH_cons rfl rfl rfl rfl (okH_cons rfl rfl rfl rfl (okH_list rfl rfl rfl (okH_nil)))))) rfl⟩
                            obtain ⟨hR, hi_vc3⟩ := hR
                            replace hi_vc3 : vc3.length = dn.2.1.D.length := hi_vc3
                            refine Awp.consP C ?_
                            refine rvP C (.pv (.lit (.bool (decide ((i3 : Int) < (dn.2.1.D.length : Int)))))) ?_
                            refine rvc_nil ?_
                            refine Awp.seq ?_
                            refine Awp.cond (b := (decide ((i3 : Int) < (dn.2.1.D.length : Int)))) rfl (fun h44 => ?_) (fun h44 => ?_)
                            ·
                              have h45 : i3 < dn.2.1.D.length := by have := of_decide_eq_true h44; omega
                              obtain ⟨x2, h46⟩ := getX h45
                              rw [drop_at h46] at hR
                              refine Awp.skip ?_
                              refine Awp.seq ?_
                              refine Awp.block ?_
                              refine Awp.consP C ?_
                              refine rvP C (.pv (.lit (.int .i64 (i3 : Int)))) ?_
                              refine rvP C (.pv (.lit (.int .i64 (i3 : Int)))) ?_
                              refine rvc_nil ?_
                              refine Awp.regionP C ?_
                              refine rvP C (.sl 43 0 dn.2.1.D.length 1 false) ?_
                              refine rvP C (.pv (.lit (.int .i64 (i3 : Int)))) ?_
                              have h47 : vc3[i3]? = some vc3[i3]! := getE (by have := rLen_le dx.1 x.l; have := of_decide_eq_true h3; have := beq_iff_eq.1 (not_false_of h24); have := eq_of_bne_false h25; have := eq_of_bne_false h26; have := eq_of_bne_false h27; have := eq_of_bne_false h37; have := of_decide_eq_false h39; have := of_decide_eq_true h44; omega)
                              refine rvc_un (rexec_prim C (δ := { v := .ptr 43 (0 + i3 * 1) }) rfl rfl rfl rfl ⟨(by have := rLen_le dx.1 x.l; have := of_decide_eq_true h3; have := beq_iff_eq.1 (not_false_of h24); have := eq_of_bne_false h25; have := eq_of_bne_false h26; have := eq_of_bne_false h27; have := eq_of_bne_false h37; have := of_decide_eq_false h39; have := of_decide_eq_true h44; omega), getlt h47 (by first | rfl | omega | (have := rLen_le dx.1 x.l; have := of_decide_eq_true h3; have := beq_iff_eq.1 (not_false_of h24); have := eq_of_bne_false h25; have := eq_of_bne_false h26; have := eq_of_bne_false h27; have := eq_of_bne_false h37; have := of_decide_eq_false h39; have := of_decide_eq_true h44; omega)) (by first | rfl | omega | simp)⟩ rfl ?_)
                              refine rvc_un (rexec_loadE C (e := (eI .u8)) i3 0 (vc3[i3]!) (.pv (.lit (.int .u8 (vc3[i3]!)))) rfl rfl rfl rfl h47 (by simp [eI]) (by decide) (by decide) rfl ?_)
                              refine rvP C (.pv (.lit (.int .u8 (bitI .xor .u8 (vc3[i3]!) 255)))) ?_
                              refine rvc_un (rexec_prim C (δ := { v := .ptr 43 (0 + i3 * 1) }) rfl rfl rfl rfl ⟨(by have := rLen_le dx.1 x.l; have := of_decide_eq_true h3; have := beq_iff_eq.1 (not_false_of h24); have := eq_of_bne_false h25; have := eq_of_bne_false h26; have := eq_of_bne_false h27; have := eq_of_bne_false h37; have := of_decide_eq_false h39; have := of_decide_eq_true h44; omega), getlt h47 (by first | rfl | omega | (have := rLen_le dx.1 x.l; have := of_decide_eq_true h3; have := beq_iff_eq.1 (not_false_of h24); have := eq_of_bne_false h25; have := eq_of_bne_false h26; have := eq_of_bne_false h27; have := eq_of_bne_false h37; have := of_decide_eq_false h39; have := of_decide_eq_true h44; omega)) (by first | rfl | omega | simp)⟩ rfl ?_)
                              refine rvc_un (rexec_storeE C (e := (eI .u8)) i3 0 (vc3[i3]!) (bitI .xor .u8 (vc3[i3]!) 255) rfl rfl rfl rfl h47 (by simp [eI]) rfl rfl rfl (of_decide_eq_true rfl) rfl ?_)
                              refine rvc_nil ?_
                              refine Awp.regionP C ?_
                              refine rvP C (.pv (.lit (.int .i64 (IntKind.i64.wrap ((i3 : Int) + 1))))) ?_
                              refine rvP C (.pv (.lit (.int .i64 (IntKind.i64.wrap ((i3 : Int) + 1))))) ?_
                              refine rvc_nil ?_
                              refine ⟨h45, (vc3.set i3 (bitI .xor .u8 (vc3[i3]!) 255)), ?_, ?_⟩
                              · exact ⟨hR, (by first | omega | (simp <;> omega))⟩
                              · exact ⟨fun b => b, WeakerR.ofL (Ks := [8, 26, 28, 43, 526]) hI ⟨⟨rfl, rfl⟩, ⟨rfl, rfl⟩, ⟨rfl, rfl⟩, ⟨rfl, rfl⟩, ⟨rfl, rfl⟩, ⟨rfl, rfl⟩, ⟨rfl, rfl⟩, ⟨rfl, rfl⟩, ⟨rfl, rfl⟩, ⟨rfl, rfl⟩, ⟨rfl, rfl⟩, ⟨rfl, rfl⟩, ⟨rfl, rfl⟩, ⟨rfl, rfl⟩, ⟨rfl, rfl⟩, ⟨rfl, rfl⟩, ⟨rfl, rfl⟩, ⟨rfl, rfl⟩, ⟨rfl, rfl⟩, ⟨rfl, rfl⟩, ⟨rfl, rfl⟩, ⟨rfl, rfl⟩, ⟨rfl, rfl⟩, ⟨rfl, rfl⟩, ⟨rfl, rfl⟩, ⟨rfl, rfl⟩, ⟨rfl, rfl⟩, ⟨rfl, rfl⟩, ⟨rfl, rfl⟩, ⟨rfl, rfl⟩, ⟨rfl, rfl⟩, ⟨rfl, rfl⟩, ⟨rfl, rfl⟩, ⟨lit_cast (wrap_i64 (by omega) (by omega)), rfl⟩, trivial⟩ (okH_map rfl rfl rfl (okH_cons rfl rfl rfl rfl (okH_cons rfl rfl rfl rfl (okH_cons rfl rfl rfl rfl (okH_list rfl rfl rfl (okH_nil)))))) rfl⟩
                            ·
                              have h45 : ¬ i3 < dn.2.1.D.length := by have := of_decide_eq_false h44; omega
                              rw [drop_end h45] at hR
                              refine Awp.exit ?_
                              refine Awp.regionP C ?_
                              refine rvP C (.pv (.lit (.int .i64 (IntKind.i64.wrap ((i1 : Int) + 1))))) ?_
                              refine rvP C (.pv (.lit (.int .i64 (IntKind.i64.wrap ((i1 : Int) + 1))))) ?_
                              refine rvc_nil ?_
                              refine ⟨h4, (dn.1, dx.1), ?_, ?_⟩
                              · exact ⟨hR, ⟨hf0_dn, hf1_dn, hf0_dx, by omega⟩⟩
                              · exact ⟨fun b => b, WeakerR.ofL (Ks := [26, 28, 526]) hI ⟨⟨rfl, rfl⟩, ⟨rfl, rfl⟩, ⟨rfl, rfl⟩, ⟨rfl, rfl⟩, ⟨rfl, rfl⟩, ⟨lit_cast (wrap_i64 (by omega) (by omega)), rfl⟩, trivial⟩ (okH_map rfl rfl rfl (okH_cons rfl rfl rfl rfl (okH_cons rfl rfl rfl rfl (okH_nil)))) rfl⟩
      ·
        replace hR := of_false h6 hR
        refine rvc_un (rexec_callO hP C rfl rfl rfl rfl (cloneBytesO_calls x.b h6 (Nat.le_trans ((short_ok ‹(!(short (Sl.mk false [l]))) = false› l (by simp)).2 x (List.mem_of_getElem? (by assumption))) (by decide))) ?_)
        refine rvP C (.ptr 9 4) ?_
        refine rvc_un (rexec_prim C (δ := { v := .undef, wr := [(9, some (.cells [.pv (.lit (.int .i64 x.op)), .pv (.lit (.int .i64 x.i)), .pv (.lit (.int .i64 x.l.from_)), .pv (.lit (.int .i64 x.l.to)), .sl 38 0 x.b.D.length 1 false, .pv (.lit (.int .u64 x.side))]))] }) rfl rfl rfl rfl trivial rfl ?_)
        refine rvc_nil ?_
        refine Awp.cons C (fun _ => .writer) (by kernel_rfl) ?_
        refine rvP C (.ptr 26 0) ?_
        refine rvP C (.agg [.pv (.lit (.int .i64 x.op)), .pv (.lit (.int .i64 x.i)), .pv (.lit (.int .i64 x.l.from_)), .pv (.lit (.int .i64 x.l.to)), .sl 38 0 x.b.D.length 1 false, .pv (.lit (.int .u64 x.side))]) ?_
        rcases Bool.eq_false_or_eq_true ((does vc (Do.mk x.op x.i x.l (Sl.mk false x.b.D) x.side)).2.1.nil) with h48 | h48
        ·
          replace hR := of_true h48 hR
          obtain ⟨dn, hq_dn⟩ : ∃ q_, q_ = (does vc (Do.mk x.op x.i x.l (Sl.mk false x.b.D) x.side)) := ⟨_, rfl⟩
          have hc_dn := (doesWZ_calls vc (Do.mk x.op x.i x.l (Sl.mk false x.b.D) x.side) x.b.D.length false rfl hVo h48 rfl (by first | exact (Nat.le_trans ((short_ok ‹(!(short (Sl.mk false [l]))) = false› l (by simp)).2 x (List.mem_of_getElem? (by assumption))) (by decide)) | exact Nat.zero_le _))
          first | rw [← hq_dn] at hR hc_dn | (unfold lawPlays at hR; rw [← hq_dn] at hR hc_dn) | (unfold lawPlays_l0 at hR; rw [← hq_dn] at hR hc_dn) | (unfold lawPlays_l1 at hR; rw [← hq_dn] at hR hc_dn) | (unfold lawPlays_l2 at hR; rw [← hq_dn] at hR hc_dn) | (unfold lawPlays_l3 at hR; rw [← hq_dn] at hR hc_dn)
          have hf0_dn := does_ok (n := vc) hVo (Do.mk x.op x.i x.l (Sl.mk false x.b.D) x.side)
          rw [← hq_dn] at hf0_dn
          have hf1_dn := does_okF (n := vc) hVf (Do.mk x.op x.i x.l (Sl.mk false x.b.D) x.side)
          rw [← hq_dn] at hf1_dn
          have hf2_dn := does_len (n := vc) hVo (Do.mk x.op x.i x.l (Sl.mk false x.b.D) x.side)
          rw [← hq_dn] at hf2_dn
          refine rvc_un (rexec_callObj hP C (fun b => bif b == 0 then 26 else bif b == 1 then 526 else bif b == 2 then 38 else b) [] rfl rfl rfl hc_dn rfl rfl ⟨rfl, rfl, trivial⟩ (of_decide_eq_true rfl) rfl (of_decide_eq_true rfl) (of_decide_eq_true rfl) allB_nil allB_nil (allB_cons rfl (allB_cons rfl allB_nil)) ?_ rfl (allB_cons rfl (allB_cons rfl allB_nil)))
          refine rvP C (.tup [sS (some true) (eI .u8) [], .pv (.lit (.bool dn.2.2.1)), .pv (.lit (.int .i64 dn.2.2.2))]) ?_
          refine rvP C (sS (some true) (eI .u8) []) ?_
          refine rvP C (.pv (.lit (.bool dn.2.2.1))) ?_
          refine rvP C (.pv (.lit (.int .i64 dn.2.2.2))) ?_
          refine rvP C (sS (some true) (eI .u8) []) ?_
          refine rvP C (.pv (.lit (.bool dn.2.2.1))) ?_
          refine rvP C (.pv (.lit (.int .i64 dn.2.2.2))) ?_
          refine rvc_nil ?_
          refine Awp.cons C (fun _ => .writer) (by kernel_rfl) ?_
          refine rvP C (.ptr 28 0) ?_
          refine rvP C (.agg [.pv (.lit (.int .i64 x.op)), .pv (.lit (.int .i64 x.i)), .pv (.lit (.int .i64 x.l.from_)), .pv (.lit (.int .i64 x.l.to)), sS (some x.b.nil) (eI .u8) x.b.D, .pv (.lit (.int .u64 x.side))]) ?_
          obtain ⟨dx, hq_dx⟩ : ∃ q_, q_ = (also vc1 x) := ⟨_, rfl⟩
          have hc_dx := (also_calls vc1 x hVx.1 (Nat.le_trans hVx.2 (by have h1_ := (short_ok ‹(!(short (Sl.mk false [l]))) = false› l (by simp)).1; omega)))
          first | rw [← hq_dx] at hR hc_dx | (unfold lawPlays at hR; rw [← hq_dx] at hR hc_dx) | (unfold lawPlays_l0 at hR; rw [← hq_dx] at hR hc_dx) | (unfold lawPlays_l1 at hR; rw [← hq_dx] at hR hc_dx) | (unfold lawPlays_l2 at hR; rw [← hq_dx] at hR hc_dx) | (unfold lawPlays_l3 at hR; rw [← hq_dx] at hR hc_dx)
          have hf0_dx := also_ok (x := vc1) hVx (by have h1_ := (short_ok ‹(!(short (Sl.mk false [l]))) = false› l (by simp)).1; omega) x
          rw [← hq_dx] at hf0_dx
          refine rvc_un (rexec_callM hP C (b := 28) rfl rfl rfl hc_dx rfl rfl ?_)
          refine rvP C (.tup [.pv (.lit (.string dx.2.1)), .pv (.lit (.bool dx.2.2.1)), .pv (.lit (.int .i64 dx.2.2.2))]) ?_
          refine rvP C (.pv (.lit (.string dx.2.1))) ?_
          refine rvP C (.pv (.lit (.bool dx.2.2.1))) ?_
          refine rvP C (.pv (.lit (.int .i64 dx.2.2.2))) ?_
          refine rvP C (.pv (.lit (.string dx.2.1))) ?_
          refine rvP C (.pv (.lit (.bool dx.2.2.1))) ?_
          refine rvP C (.pv (.lit (.int .i64 dx.2.2.2))) ?_
          refine rvc_nil ?_
          refine Awp.seq ?_
          refine Awp.consP C ?_
          refine rvP C (.ptr 9 4) ?_
          refine rvP C (.sl 38 0 x.b.D.length 1 false) ?_
          refine rvP C (.pv (.lit (.int .i64 (x.b.D.length : Int)))) ?_
          refine rvP C (.pv (.lit (.int .i64 0))) ?_
          refine rvc_nil ?_
          refine Awp.block ?_
          refine Awp.forR (σ := ((List Int))) (x.b.D.length) (fun i2 v => [(1, .pv (.lit (.int .i64 i))), (5, .ptr 26 0), (6, .ptr 28 0), (8, .ptr 8 0), (9, .ptr 9 0), (10, sS (some true) (eI .u8) []), (11, .pv (.lit (.bool dn.2.2.1))), (12, .pv (.lit (.int .i64 dn.2.2.2))), (13, .pv (.lit (.string dx.2.1))), (14, .pv (.lit (.bool dx.2.2.1))), (15, .pv (.lit (.int .i64 dx.2.2.2))), (29, sS (some l.nil) eDo l.D), (30, .pv (.lit (.int .i64 (l.D.length : Int)))), (31, .pv (.lit (.int .i64 (i1 : Int)))), (56, .pv (.lit (.int .i64 (x.b.D.length : Int)))), (57, .pv (.lit (.int .i64 (i2 : Int))))]) (fun i2 v => [(526, mapE kLink vT77.enc dn.1.of_), (26, .cells [.mp 526, .pv (.lit (.int .u64 dn.1.side)), .pv (.lit (.int .i64 dn.1.lost)), .pv (.lit (.bool dn.1.made))]), (28, .cells [sS (some dx.1.items.nil) eItem dx.1.items.D, .pv (.lit (.bool (dx.1.side 0))), .pv (.lit (.bool (dx.1.side 1))), .pv (.lit (.bool (dx.1.side 2))), .pv (.lit (.bool (dx.1.side 3))), .pv (.lit (.bool (dx.1.side 4))), .pv (.lit (.bool (dx.1.side 5))), .pv (.lit (.bool (dx.1.side 6))), .pv (.lit (.bool (dx.1.side 7))), .pv (.lit (.bool (dx.1.side 8))), .pv (.lit (.bool (dx.1.side 9))), .pv (.lit (.bool (dx.1.side 10))), .pv (.lit (.bool (dx.1.side 11))), .pv (.lit (.bool (dx.1.side 12))), .pv (.lit (.bool (dx.1.side 13))), .pv (.lit (.bool (dx.1.side 14))), .pv (.lit (.bool (dx.1.side 15))), .pv (.lit (.bool (dx.1.side 16))), .pv (.lit (.bool (dx.1.side 17))), .pv (.lit (.bool (dx.1.side 18))), .pv (.lit (.bool (dx.1.side 19))), .pv (.lit (.bool (dx.1.side 20))), .pv (.lit (.bool (dx.1.side 21))), .pv (.lit (.bool (dx.1.side 22))), .pv (.lit (.bool (dx.1.side 23))), .pv (.lit (.bool (dx.1.side 24))), .pv (.lit (.bool (dx.1.side 25))), .pv (.lit (.bool (dx.1.side 26))), .pv (.lit (.bool (dx.1.side 27))), .pv (.lit (.bool (dx.1.side 28))), .pv (.lit (.bool (dx.1.side 29))), .pv (.lit (.bool (dx.1.side 30))), .pv (.lit (.bool (dx.1.side 31))), .pv (.lit (.bool (dx.1.side 32))), .pv (.lit (.bool (dx.1.side 33))), .pv (.lit (.bool (dx.1.side 34))), .pv (.lit (.bool (dx.1.side 35))), .pv (.lit (.bool (dx.1.side 36))), .pv (.lit (.bool (dx.1.side 37))), .pv (.lit (.bool (dx.1.side 38))), .pv (.lit (.bool (dx.1.side 39))), .pv (.lit (.bool (dx.1.side 40))), .pv (.lit (.bool (dx.1.side 41))), .pv (.lit (.bool (dx.1.side 42))), .pv (.lit (.bool (dx.1.side 43))), .pv (.lit (.bool (dx.1.side 44))), .pv (.lit (.bool (dx.1.side 45))), .pv (.lit (.bool (dx.1.side 46))), .pv (.lit (.bool (dx.1.side 47))), .pv (.lit (.bool (dx.1.side 48))), .pv (.lit (.bool (dx.1.side 49))), .pv (.lit (.bool (dx.1.side 50))), .pv (.lit (.bool (dx.1.side 51))), .pv (.lit (.bool (dx.1.side 52))), .pv (.lit (.bool (dx.1.side 53))), .pv (.lit (.bool (dx.1.side 54))), .pv (.lit (.bool (dx.1.side 55))), .pv (.lit (.bool (dx.1.side 56))), .pv (.lit (.bool (dx.1.side 57))), .pv (.lit (.bool (dx.1.side 58))), .pv (.lit (.bool (dx.1.side 59))), .pv (.lit (.bool (dx.1.side 60))), .pv (.lit (.bool (dx.1.side 61))), .pv (.lit (.bool (dx.1.side 62))), .pv (.lit (.bool (dx.1.side 63))), .pv (.lit (.int .i64 dx.1.lost))]), (8, .cells [.pv (.lit (.int .i64 x.op)), .pv (.lit (.int .i64 x.i)), .pv (.lit (.int .i64 x.l.from_)), .pv (.lit (.int .i64 x.l.to)), sS (some x.b.nil) (eI .u8) x.b.D, .pv (.lit (.int .u64 x.side))]), (9, .cells [.pv (.lit (.int .i64 x.op)), .pv (.lit (.int .i64 x.i)), .pv (.lit (.int .i64 x.l.from_)), .pv (.lit (.int .i64 x.l.to)), .sl 38 0 x.b.D.length 1 false, .pv (.lit (.int .u64 x.side))]), (38, .cells (encC (eI .u8) v))]) [8, 9, 26, 28, 38, 526] (fun i2 v => (lawPlays_l1 (fun vc2 => (bif (!((strOf []).toList == dx.2.1.toList)) then false else (bif (!(dn.2.2.1 == dx.2.2.1)) then false else (bif (dn.2.2.2 != dx.2.2.2) then false else (bif ((nLost dn.1) != dx.1.lost) then false else (bif ((nLen dn.1 x.l) != (rLen dx.1 x.l)) then false else (bif (nPeek dn.1 x.l i).1.nil then (bif (!((strOf []).toList == ((rPeek dx.1 x.l i).1).toList)) then false else (bif (((nPeek dn.1 x.l i).2) != ((rPeek dx.1 x.l i).2)) then false else lawPlays_l0 i (l.D.drop (i1 + 1)) (i1 + 1) dn.1 dx.1)) else (bif (!((strOf ((nPeek dn.1 x.l i).1.D)).toList == ((rPeek dx.1 x.l i).1).toList)) then false else (bif (((nPeek dn.1 x.l i).2) != ((rPeek dx.1 x.l i).2)) then false else lawPlays_l2 (fun vc3 => lawPlays_l0 i (l.D.drop (i1 + 1)) (i1 + 1) dn.1 dx.1) ((nPeek dn.1 x.l i).1.D) 0 ((nPeek dn.1 x.l i).1.D)))))))))) (x.b.D.drop i2) i2 v = R) ∧ (v.length = x.b.D.length)) x.b.D ?_ ?_ (fun i2 vc2 h49 hR => ?_)
          · exact ⟨hR, (by first | omega | (simp <;> omega))⟩
          · exact ⟨fun b => b, WeakerR.ofL (Ks := [8, 9, 26, 28, 38, 526]) hI ⟨⟨rfl, rfl⟩, ⟨rfl, rfl⟩, ⟨rfl, rfl⟩, ⟨rfl, rfl⟩, ⟨rfl, rfl⟩, ⟨rfl, rfl⟩, ⟨rfl, rfl⟩, ⟨rfl, rfl⟩, ⟨rfl, rfl⟩, ⟨rfl, rfl⟩, ⟨rfl, rfl⟩, ⟨rfl, rfl⟩, ⟨rfl, rfl⟩, ⟨rfl, rfl⟩, ⟨rfl, rfl⟩, ⟨rfl, rfl⟩, trivial⟩ (okH_map rfl rfl rfl (okH_cons rfl rfl rfl rfl (okH_cons rfl rfl rfl rfl (okH_cons rfl rfl rfl rfl (okH_cons rfl rfl rfl rfl (okH_list rfl rfl rfl (okH_nil))))))) rfl⟩
          obtain ⟨hR, hi_vc2⟩ := hR
          replace hi_vc2 : vc2.length = x.b.D.length := hi_vc2
          have hb1_ : x.b.D.length ≤ 1000000 := (Nat.le_trans ((short_ok ‹(!(short (Sl.mk false [l]))) = false› l (by simp)).2 x (List.mem_of_getElem? (by assumption))) (by decide))
          refine Awp.consP C ?_
          refine rvP C (.pv (.lit (.bool (decide ((i2 : Int) < (x.b.D.length : Int)))))) ?_
          refine rvc_nil ?_
          refine Awp.seq ?_
          refine Awp.cond (b := (decide ((i2 : Int) < (x.b.D.length : Int)))) rfl (fun h50 => ?_) (fun h50 => ?_)
          ·
            have h51 : i2 < x.b.D.length := by have := of_decide_eq_true h50; omega
            obtain ⟨x1, h52⟩ := getX h51
            rw [drop_at h52] at hR
            refine Awp.skip ?_
            refine Awp.seq ?_
            refine Awp.block ?_
            refine Awp.consP C ?_
            refine rvP C (.pv (.lit (.int .i64 (i2 : Int)))) ?_
            refine rvP C (.pv (.lit (.int .i64 (i2 : Int)))) ?_
            refine rvc_nil ?_
            refine Awp.regionP C ?_
            refine rvP C (.ptr 9 4) ?_
            refine rvP C (.sl 38 0 x.b.D.length 1 false) ?_
            refine rvP C (.pv (.lit (.int .i64 (i2 : Int)))) ?_
            have h53 : vc2[i2]? = some vc2[i2]! := getE (by have := of_decide_eq_true h3; have := of_decide_eq_true h50; omega)
            refine rvc_un (rexec_prim C (δ := { v := .ptr 38 (0 + i2 * 1) }) rfl rfl rfl rfl ⟨(by have := of_decide_eq_true h3; have := of_decide_eq_true h50; omega), getlt h53 (by first | rfl | omega | (have := of_decide_eq_true h3; have := of_decide_eq_true h50; omega)) (by first | rfl | omega | simp)⟩ rfl ?_)
            refine rvc_un (rexec_loadE C (e := (eI .u8)) i2 0 (vc2[i2]!) (.pv (.lit (.int .u8 (vc2[i2]!)))) rfl rfl rfl rfl h53 (by simp [eI]) (by decide) (by decide) rfl ?_)
            refine rvP C (.pv (.lit (.int .u8 (bitI .xor .u8 (vc2[i2]!) 255)))) ?_
            refine rvc_un (rexec_prim C (δ := { v := .ptr 38 (0 + i2 * 1) }) rfl rfl rfl rfl ⟨(by have := of_decide_eq_true h3; have := of_decide_eq_true h50; omega), getlt h53 (by first | rfl | omega | (have := of_decide_eq_true h3; have := of_decide_eq_true h50; omega)) (by first | rfl | omega | simp)⟩ rfl ?_)
            refine rvc_un (rexec_storeE C (e := (eI .u8)) i2 0 (vc2[i2]!) (bitI .xor .u8 (vc2[i2]!) 255) rfl rfl rfl rfl h53 (by simp [eI]) rfl rfl rfl (of_decide_eq_true rfl) rfl ?_)
            refine rvc_nil ?_
            refine Awp.regionP C ?_
            refine rvP C (.pv (.lit (.int .i64 (IntKind.i64.wrap ((i2 : Int) + 1))))) ?_
            refine rvP C (.pv (.lit (.int .i64 (IntKind.i64.wrap ((i2 : Int) + 1))))) ?_
            refine rvc_nil ?_
            refine ⟨h51, (vc2.set i2 (bitI .xor .u8 (vc2[i2]!) 255)), ?_, ?_⟩
            · exact ⟨hR, (by first | omega | (simp <;> omega))⟩
            · exact ⟨fun b => b, WeakerR.ofL (Ks := [8, 9, 26, 28, 38, 526]) hI ⟨⟨rfl, rfl⟩, ⟨rfl, rfl⟩, ⟨rfl, rfl⟩, ⟨rfl, rfl⟩, ⟨rfl, rfl⟩, ⟨rfl, rfl⟩, ⟨rfl, rfl⟩, ⟨rfl, rfl⟩, ⟨rfl, rfl⟩, ⟨rfl, rfl⟩, ⟨rfl, rfl⟩, ⟨rfl, rfl⟩, ⟨rfl, rfl⟩, ⟨rfl, rfl⟩, ⟨rfl, rfl⟩, ⟨lit_cast (wrap_i64 (by omega) (by omega)), rfl⟩, trivial⟩ (okH_map rfl rfl rfl (okH_cons rfl rfl rfl rfl (okH_cons rfl rfl rfl rfl (okH_cons rfl rfl rfl rfl (okH_cons rfl rfl rfl rfl (okH_list rfl rfl rfl (okH_nil))))))) rfl⟩
          ·
            have h51 : ¬ i2 < x.b.D.length := by have := of_decide_eq_false h50; omega
            rw [drop_end h51] at hR
            refine Awp.exit ?_
            refine Awp.seq ?_
            refine Awp.cons C (fun o => match o.dst with | some 69 => .reads [43] | some 84 => .writes [26, 526] | some 88 => .reads [28] | some 94 => .reads [8] | some 95 => .writes [26, 526] | some 98 => .reads [8] | some 99 => .writes [28] | _ => .pure) (by kernel_rfl) ?_
            refine rvP C (sS (some true) (eI .u8) []) ?_
            refine rvc_un (rexec_convS C rfl rfl rfl rfl rfl rfl rfl rfl ?_)
            refine rvP C (.pv (.lit (.string dx.2.1))) ?_
            refine rvP C (.pv (.lit (.bool (!((strOf []).toList == dx.2.1.toList))))) ?_
            refine rvP C (.pv (.lit (.bool (!((strOf []).toList == dx.2.1.toList))))) ?_
            refine rvc_case 72 (!((strOf []).toList == dx.2.1.toList)) rfl (fun h54 => ?_) (fun h54 => ?_)
            ·
              replace hR := of_true h54 hR
              refine rvS ?_
              refine rvS ?_
              refine rvS ?_
              refine rvP C (.pv (.lit (.bool true))) ?_
              refine rvP C (.pv (.lit (.bool true))) ?_
              refine rvS ?_
              refine rvS ?_
              refine rvS ?_
              refine rvP C (.pv (.lit (.bool true))) ?_
              refine rvP C (.pv (.lit (.bool true))) ?_
              refine rvS ?_
              refine rvS ?_
              refine rvS ?_
              refine rvS ?_
              refine rvS ?_
              refine rvS ?_
              refine rvS ?_
              refine rvP C (.pv (.lit (.bool true))) ?_
              refine rvP C (.pv (.lit (.bool true))) ?_
              refine rvS ?_
              refine rvS ?_
              refine rvS ?_
              refine rvS ?_
              refine rvS ?_
              refine rvS ?_
              refine rvS ?_
              refine rvS ?_
              refine rvS ?_
              refine rvP C (.pv (.lit (.bool true))) ?_
              refine rvc_nil ?_
              refine Awp.condT (b := true) rfl rfl ?_
              refine Awp.consP C ?_
              refine rvP C (.pv (.lit (.bool false))) ?_
              refine rvc_nil ?_
              refine Awp.ret ?_
              subst hR
              exact ⟨.inl rfl, rfl⟩
            ·
              replace hR := of_false h54 hR
              refine rvO C (.pv (.lit (.bool dn.2.2.1))) ?_
              refine rvO C (.pv (.lit (.bool dx.2.2.1))) ?_
              refine rvO C (.pv (.lit (.bool (!(dn.2.2.1 == dx.2.2.1))))) ?_
              refine rvP C (.pv (.lit (.bool (!(dn.2.2.1 == dx.2.2.1))))) ?_
              refine rvP C (.pv (.lit (.bool (!(dn.2.2.1 == dx.2.2.1))))) ?_
              refine rvc_case 77 (!(dn.2.2.1 == dx.2.2.1)) rfl (fun h55 => ?_) (fun h55 => ?_)
              ·
                replace hR := of_true h55 hR
                refine rvS ?_
                refine rvS ?_
                refine rvS ?_
                refine rvP C (.pv (.lit (.bool true))) ?_
                refine rvP C (.pv (.lit (.bool true))) ?_
                refine rvS ?_
                refine rvS ?_
                refine rvS ?_
                refine rvS ?_
                refine rvS ?_
                refine rvS ?_
                refine rvS ?_
                refine rvP C (.pv (.lit (.bool true))) ?_
                refine rvP C (.pv (.lit (.bool true))) ?_
                refine rvS ?_
                refine rvS ?_
                refine rvS ?_
                refine rvS ?_
                refine rvS ?_
                refine rvS ?_
                refine rvS ?_
                refine rvS ?_
                refine rvS ?_
                refine rvP C (.pv (.lit (.bool true))) ?_
                refine rvc_nil ?_
                refine Awp.condT (b := true) rfl rfl ?_
                refine Awp.consP C ?_
                refine rvP C (.pv (.lit (.bool false))) ?_
                refine rvc_nil ?_
                refine Awp.ret ?_
                subst hR
                exact ⟨.inl rfl, rfl⟩
              ·
                replace hR := of_false h55 hR
                refine rvO C (.pv (.lit (.int .i64 dn.2.2.2))) ?_
                refine rvO C (.pv (.lit (.int .i64 dx.2.2.2))) ?_
                refine rvO C (.pv (.lit (.bool (dn.2.2.2 != dx.2.2.2)))) ?_
                refine rvP C (.pv (.lit (.bool (dn.2.2.2 != dx.2.2.2)))) ?_
                refine rvP C (.pv (.lit (.bool (dn.2.2.2 != dx.2.2.2)))) ?_
                refine rvc_case 82 (dn.2.2.2 != dx.2.2.2) rfl (fun h56 => ?_) (fun h56 => ?_)
                ·
                  replace hR := of_true h56 hR
                  refine rvS ?_
                  refine rvS ?_
                  refine rvS ?_
                  refine rvS ?_
                  refine rvS ?_
                  refine rvS ?_
                  refine rvS ?_
                  refine rvP C (.pv (.lit (.bool true))) ?_
                  refine rvP C (.pv (.lit (.bool true))) ?_
                  refine rvS ?_
                  refine rvS ?_
                  refine rvS ?_
                  refine rvS ?_
                  refine rvS ?_
                  refine rvS ?_
                  refine rvS ?_
                  refine rvS ?_
                  refine rvS ?_
                  refine rvP C (.pv (.lit (.bool true))) ?_
                  refine rvc_nil ?_
                  refine Awp.condT (b := true) rfl rfl ?_
                  refine Awp.consP C ?_
                  refine rvP C (.pv (.lit (.bool false))) ?_
                  refine rvc_nil ?_
                  refine Awp.ret ?_
                  subst hR
                  exact ⟨.inl rfl, rfl⟩
                ·
                  replace hR := of_false h56 hR
                  refine rvO C (.ptr 26 0) ?_
                  refine rvc_open rfl rfl rfl (rexec_callObj hP C (fun b => bif b == 0 then 26 else bif b == 1 then 526 else b) [] rfl rfl rfl (nLost_calls dn.1) rfl rfl ⟨rfl, trivial⟩ (of_decide_eq_true rfl) rfl (of_decide_eq_true rfl) (of_decide_eq_true rfl) allB_nil allB_nil (allB_cons rfl allB_nil) ?_ rfl (allB_cons rfl allB_nil))
                  refine rvO C (.ptr 28 0) ?_
                  refine rvO C (.ptr 28 0) ?_
                  refine rvO C (.ptr 28 65) ?_
                  refine rvO C (.pv (.lit (.int .i64 dx.1.lost))) ?_
                  refine rvO C (.pv (.lit (.bool ((nLost dn.1) != dx.1.lost)))) ?_
                  refine rvP C (.pv (.lit (.bool ((nLost dn.1) != dx.1.lost)))) ?_
                  refine rvP C (.pv (.lit (.bool ((nLost dn.1) != dx.1.lost)))) ?_
                  refine rvc_case 91 ((nLost dn.1) != dx.1.lost) rfl (fun h57 => ?_) (fun h57 => ?_)
                  ·
                    replace hR := of_true h57 hR
                    refine rvS ?_
                    refine rvS ?_
                    refine rvS ?_
                    refine rvS ?_
                    refine rvS ?_
                    refine rvS ?_
                    refine rvS ?_
                    refine rvS ?_
                    refine rvS ?_
                    refine rvP C (.pv (.lit (.bool true))) ?_
                    refine rvc_nil ?_
                    refine Awp.condT (b := true) rfl rfl ?_
                    refine Awp.consP C ?_
                    refine rvP C (.pv (.lit (.bool false))) ?_
                    refine rvc_nil ?_
                    refine Awp.ret ?_
                    subst hR
                    exact ⟨.inl rfl, rfl⟩
                  ·
                    replace hR := of_false h57 hR
                    refine rvO C (.ptr 26 0) ?_
                    refine rvO C (.ptr 8 2) ?_
                    refine rvO C (.agg [.pv (.lit (.int .i64 x.l.from_)), .pv (.lit (.int .i64 x.l.to))]) ?_
                    refine rvc_open rfl rfl rfl (rexec_callObj hP C (fun b => bif b == 0 then 26 else bif b == 1 then 526 else b) [] rfl rfl rfl (nLen_calls dn.1 x.l) rfl rfl ⟨rfl, trivial⟩ (of_decide_eq_true rfl) rfl (of_decide_eq_true rfl) (of_decide_eq_true rfl) allB_nil allB_nil (allB_cons rfl allB_nil) ?_ rfl (allB_cons rfl allB_nil))
                    refine rvO C (.ptr 28 0) ?_
                    refine rvO C (.ptr 8 2) ?_
                    refine rvO C (.agg [.pv (.lit (.int .i64 x.l.from_)), .pv (.lit (.int .i64 x.l.to))]) ?_
                    refine rvc_open rfl rfl rfl (rexec_callM hP C (b := 28) rfl rfl rfl (rLen_calls dx.1 x.l (Nat.le_trans hf0_dx.2 (by have h1_ := (short_ok ‹(!(short (Sl.mk false [l]))) = false› l (by simp)).1; omega))) rfl rfl ?_)
                    refine rvO C (.pv (.lit (.bool ((nLen dn.1 x.l) != (rLen dx.1 x.l))))) ?_
                    refine rvP C (.pv (.lit (.bool ((nLen dn.1 x.l) != (rLen dx.1 x.l))))) ?_
                    refine rvc_nil ?_
                    refine Awp.cond (b := ((nLen dn.1 x.l) != (rLen dx.1 x.l))) rfl (fun h58 => ?_) (fun h58 => ?_)
                    ·
                      replace hR := of_true h58 hR
                      refine Awp.consP C ?_
                      refine rvP C (.pv (.lit (.bool false))) ?_
                      refine rvc_nil ?_
                      refine Awp.ret ?_
                      subst hR
                      exact ⟨.inl rfl, rfl⟩
                    ·
                      replace hR := of_false h58 hR
                      refine Awp.skip ?_
                      refine Awp.cons C (fun _ => .writer) (by kernel_rfl) ?_
                      refine rvP C (.ptr 26 0) ?_
                      refine rvP C (.ptr 8 2) ?_
                      refine rvP C (.agg [.pv (.lit (.int .i64 x.l.from_)), .pv (.lit (.int .i64 x.l.to))]) ?_
                      refine rvP C (.pv (.lit (.int .i64 i))) ?_
                      rcases Bool.eq_false_or_eq_true ((nPeek dn.1 x.l i).1.nil) with h59 | h59
                      ·
                        replace hR := of_true h59 hR
                        refine rvc_un (rexec_callObj hP C (fun b => bif b == 0 then 26 else bif b == 1 then 526 else b) [] rfl rfl rfl (nPeekZ_calls dn.1 x.l i hf0_dn h59) rfl rfl ⟨rfl, trivial⟩ (of_decide_eq_true rfl) rfl (of_decide_eq_true rfl) (of_decide_eq_true rfl) allB_nil allB_nil (allB_cons rfl allB_nil) ?_ rfl (allB_cons rfl allB_nil))
                        refine rvP C (.tup [sS (some true) (eI .u8) [], .pv (.lit (.int .i64 ((nPeek dn.1 x.l i).2)))]) ?_
                        refine rvP C (sS (some true) (eI .u8) []) ?_
                        refine rvP C (.pv (.lit (.int .i64 ((nPeek dn.1 x.l i).2)))) ?_
                        refine rvP C (sS (some true) (eI .u8) []) ?_
                        refine rvP C (.pv (.lit (.int .i64 ((nPeek dn.1 x.l i).2)))) ?_
                        refine rvc_nil ?_
                        refine Awp.cons C (fun _ => .writer) (by kernel_rfl) ?_
                        refine rvP C (.ptr 28 0) ?_
                        refine rvP C (.ptr 8 2) ?_
                        refine rvP C (.agg [.pv (.lit (.int .i64 x.l.from_)), .pv (.lit (.int .i64 x.l.to))]) ?_
                        refine rvP C (.pv (.lit (.int .i64 i))) ?_
                        refine rvc_un (rexec_callM hP C (b := 28) rfl rfl rfl (rPeek_calls dx.1 x.l i (Nat.le_trans hf0_dx.2 (by have h1_ := (short_ok ‹(!(short (Sl.mk false [l]))) = false› l (by simp)).1; omega))) rfl rfl ?_)
                        refine rvP C (.tup [.pv (.lit (.string ((rPeek dx.1 x.l i).1))), .pv (.lit (.int .i64 ((rPeek dx.1 x.l i).2)))]) ?_
                        refine rvP C (.pv (.lit (.string ((rPeek dx.1 x.l i).1)))) ?_
                        refine rvP C (.pv (.lit (.int .i64 ((rPeek dx.1 x.l i).2)))) ?_
                        refine rvP C (.pv (.lit (.string ((rPeek dx.1 x.l i).1)))) ?_
                        refine rvP C (.pv (.lit (.int .i64 ((rPeek dx.1 x.l i).2)))) ?_
                        refine rvc_nil ?_
                        refine Awp.seq ?_
                        refine Awp.cons C (fun o => match o.dst with | some 119 => .reads [107] | _ => .pure) (by kernel_rfl) ?_
                        refine rvP C (sS (some true) (eI .u8) []) ?_
                        refine rvc_un (rexec_convS C rfl rfl rfl rfl rfl rfl rfl rfl ?_)
                        refine rvP C (.pv (.lit (.string ((rPeek dx.1 x.l i).1)))) ?_
                        refine rvP C (.pv (.lit (.bool (!((strOf []).toList == ((rPeek dx.1 x.l i).1).toList))))) ?_
                        refine rvP C (.pv (.lit (.bool (!((strOf []).toList == ((rPeek dx.1 x.l i).1).toList))))) ?_
                        refine rvc_case 122 (!((strOf []).toList == ((rPeek dx.1 x.l i).1).toList)) rfl (fun h60 => ?_) (fun h60 => ?_)
                        ·
                          replace hR := of_true h60 hR
                          refine rvS ?_
                          refine rvS ?_
                          refine rvS ?_
                          refine rvP C (.pv (.lit (.bool true))) ?_
                          refine rvc_nil ?_
                          refine Awp.condT (b := true) rfl rfl ?_
                          refine Awp.consP C ?_
                          refine rvP C (.pv (.lit (.bool false))) ?_
                          refine rvc_nil ?_
                          refine Awp.ret ?_
                          subst hR
                          exact ⟨.inl rfl, rfl⟩
                        ·
                          replace hR := of_false h60 hR
                          refine rvO C (.pv (.lit (.int .i64 ((nPeek dn.1 x.l i).2)))) ?_
                          refine rvO C (.pv (.lit (.int .i64 ((rPeek dx.1 x.l i).2)))) ?_
                          refine rvO C (.pv (.lit (.bool (((nPeek dn.1 x.l i).2) != ((rPeek dx.1 x.l i).2))))) ?_
                          refine rvP C (.pv (.lit (.bool (((nPeek dn.1 x.l i).2) != ((rPeek dx.1 x.l i).2))))) ?_
                          refine rvc_nil ?_
                          refine Awp.cond (b := (((nPeek dn.1 x.l i).2) != ((rPeek dx.1 x.l i).2))) rfl (fun h61 => ?_) (fun h61 => ?_)
                          ·
                            replace hR := of_true h61 hR
                            refine Awp.consP C ?_
                            refine rvP C (.pv (.lit (.bool false))) ?_
                            refine rvc_nil ?_
                            refine Awp.ret ?_
                            subst hR
                            exact ⟨.inl rfl, rfl⟩
                          ·
                            replace hR := of_false h61 hR
                            refine Awp.skip ?_
                            refine Awp.seq ?_
                            refine Awp.consP C ?_
                            refine rvP C (sS (some true) (eI .u8) []) ?_
                            refine rvP C (.pv (.lit (.int .i64 0))) ?_
                            refine rvP C (.pv (.lit (.int .i64 0))) ?_
                            refine rvc_nil ?_
                            refine Awp.block ?_
                            refine Awp.rounds 1 ?_
                            refine Arounds.succ ?_
                            refine Awp.consP C ?_
                            refine rvP C (.pv (.lit (.bool false))) ?_
                            refine rvc_nil ?_
                            refine Awp.seq ?_
                            refine Awp.condF (b := false) rfl rfl ?_
                            refine Awp.exit ?_
                            refine Awp.consP C ?_
                            refine rvP C (sS (some true) (eI .u8) []) ?_
                            refine rvP C (.pv (.lit (.int .i64 0))) ?_
                            refine rvP C (.pv (.lit (.int .i64 0))) ?_
                            refine rvc_nil ?_
                            refine Awp.block ?_
                            refine Awp.rounds 1 ?_
                            refine Arounds.succ ?_
                            refine Awp.consP C ?_
                            refine rvP C (.pv (.lit (.bool false))) ?_
                            refine rvc_nil ?_
                            refine Awp.seq ?_
                            refine Awp.condF (b := false) rfl rfl ?_
                            refine Awp.exit ?_
                            refine Awp.regionP C ?_
                            refine rvP C (.pv (.lit (.int .i64 (IntKind.i64.wrap ((i1 : Int) + 1))))) ?_
                            refine rvP C (.pv (.lit (.int .i64 (IntKind.i64.wrap ((i1 : Int) + 1))))) ?_
                            refine rvc_nil ?_
                            refine ⟨h4, (dn.1, dx.1), ?_, ?_⟩
                            · exact ⟨hR, ⟨hf0_dn, hf1_dn, hf0_dx, by omega⟩⟩
                            · exact ⟨fun b => b, WeakerR.ofL (Ks := [26, 28, 526]) hI ⟨⟨rfl, rfl⟩, ⟨rfl, rfl⟩, ⟨rfl, rfl⟩, ⟨rfl, rfl⟩, ⟨rfl, rfl⟩, ⟨lit_cast (wrap_i64 (by omega) (by omega)), rfl⟩, trivial⟩ (okH_map rfl rfl rfl (okH_cons rfl rfl rfl rfl (okH_cons rfl rfl rfl rfl (okH_nil)))) rfl⟩
                      ·
                        replace hR := of_false h59 hR
                        refine rvc_un (rexec_callObjR hP C (fun b => bif b == 0 then 26 else bif b == 1 then 526 else b) [(107, 2)] rfl rfl rfl (nPeekR_calls dn.1 x.l i hf0_dn h59) rfl rfl ⟨rfl, trivial⟩ (of_decide_eq_true rfl) rfl (of_decide_eq_true rfl) (of_decide_eq_true rfl) (allB_cons rfl allB_nil) (allB_cons rfl allB_nil) (allB_cons rfl (allB_cons rfl allB_nil)) ?_ rfl (allB_cons rfl allB_nil))
                        refine rvP C (.tup [.sl 107 0 ((nPeek dn.1 x.l i).1.D.length) 1 false, .pv (.lit (.int .i64 ((nPeek dn.1 x.l i).2)))]) ?_
                        refine rvP C (.sl 107 0 ((nPeek dn.1 x.l i).1.D.length) 1 false) ?_
                        refine rvP C (.pv (.lit (.int .i64 ((nPeek dn.1 x.l i).2)))) ?_
                        refine rvP C (.sl 107 0 ((nPeek dn.1 x.l i).1.D.length) 1 false) ?_
                        refine rvP C (.pv (.lit (.int .i64 ((nPeek dn.1 x.l i).2)))) ?_
                        refine rvc_nil ?_
                        refine Awp.cons C (fun _ => .writer) (by kernel_rfl) ?_
                        refine rvP C (.ptr 28 0) ?_
                        refine rvP C (.ptr 8 2) ?_
                        refine rvP C (.agg [.pv (.lit (.int .i64 x.l.from_)), .pv (.lit (.int .i64 x.l.to))]) ?_
                        refine rvP C (.pv (.lit (.int .i64 i))) ?_
                        refine rvc_un (rexec_callM hP C (b := 28) rfl rfl rfl (rPeek_calls dx.1 x.l i (Nat.le_trans hf0_dx.2 (by have h1_ := (short_ok ‹(!(short (Sl.mk false [l]))) = false› l (by simp)).1; omega))) rfl rfl ?_)
                        refine rvP C (.tup [.pv (.lit (.string ((rPeek dx.1 x.l i).1))), .pv (.lit (.int .i64 ((rPeek dx.1 x.l i).2)))]) ?_
                        refine rvP C (.pv (.lit (.string ((rPeek dx.1 x.l i).1)))) ?_
                        refine rvP C (.pv (.lit (.int .i64 ((rPeek dx.1 x.l i).2)))) ?_
                        refine rvP C (.pv (.lit (.string ((rPeek dx.1 x.l i).1)))) ?_
                        refine rvP C (.pv (.lit (.int .i64 ((rPeek dx.1 x.l i).2)))) ?_
                        refine rvc_nil ?_
                        refine Awp.seq ?_
                        refine Awp.cons C (fun o => match o.dst with | some 119 => .reads [107] | _ => .pure) (by kernel_rfl) ?_
                        refine rvP C (.sl 107 0 ((nPeek dn.1 x.l i).1.D.length) 1 false) ?_
                        refine rvc_un (rexec_convR C rfl rfl rfl (by first | rfl | omega | simp) rfl rfl rfl rfl rfl rfl ?_)
                        refine rvP C (.pv (.lit (.string ((rPeek dx.1 x.l i).1)))) ?_
                        refine rvP C (.pv (.lit (.bool (!((strOf ((nPeek dn.1 x.l i).1.D)).toList == ((rPeek dx.1 x.l i).1).toList))))) ?_
                        refine rvP C (.pv (.lit (.bool (!((strOf ((nPeek dn.1 x.l i).1.D)).toList == ((rPeek dx.1 x.l i).1).toList))))) ?_
                        refine rvc_case 122 (!((strOf ((nPeek dn.1 x.l i).1.D)).toList == ((rPeek dx.1 x.l i).1).toList)) rfl (fun h62 => ?_) (fun h62 => ?_)
                        ·
                          replace hR := of_true h62 hR
                          refine rvS ?_
                          refine rvS ?_
                          refine rvS ?_
                          refine rvP C (.pv (.lit (.bool true))) ?_
                          refine rvc_nil ?_
                          refine Awp.condT (b := true) rfl rfl ?_
                          refine Awp.consP C ?_
                          refine rvP C (.pv (.lit (.bool false))) ?_
                          refine rvc_nil ?_
                          refine Awp.ret ?_
                          subst hR
                          exact ⟨.inl rfl, rfl⟩
                        ·
                          replace hR := of_false h62 hR
                          refine rvO C (.pv (.lit (.int .i64 ((nPeek dn.1 x.l i).2)))) ?_
                          refine rvO C (.pv (.lit (.int .i64 ((rPeek dx.1 x.l i).2)))) ?_
                          refine rvO C (.pv (.lit (.bool (((nPeek dn.1 x.l i).2) != ((rPeek dx.1 x.l i).2))))) ?_
                          refine rvP C (.pv (.lit (.bool (((nPeek dn.1 x.l i).2) != ((rPeek dx.1 x.l i).2))))) ?_
                          refine rvc_nil ?_
                          refine Awp.cond (b := (((nPeek dn.1 x.l i).2) != ((rPeek dx.1 x.l i).2))) rfl (fun h63 => ?_) (fun h63 => ?_)
                          ·
                            replace hR := of_true h63 hR
                            refine Awp.consP C ?_
                            refine rvP C (.pv (.lit (.bool false))) ?_
                            refine rvc_nil ?_
                            refine Awp.ret ?_
                            subst hR
                            exact ⟨.inl rfl, rfl⟩
                          ·
                            replace hR := of_false h63 hR
                            refine Awp.skip ?_
                            refine Awp.seq ?_
                            refine Awp.consP C ?_
                            refine rvP C (.sl 107 0 ((nPeek dn.1 x.l i).1.D.length) 1 false) ?_
                            refine rvP C (.pv (.lit (.int .i64 (((nPeek dn.1 x.l i).1.D.length) : Int)))) ?_
                            refine rvP C (.pv (.lit (.int .i64 0))) ?_
                            refine rvc_nil ?_
                            refine Awp.block ?_
                            refine Awp.forR (σ := ((List Int))) (((nPeek dn.1 x.l i).1.D).length) (fun i3 v => [(1, .pv (.lit (.int .i64 i))), (5, .ptr 26 0), (6, .ptr 28 0), (10, sS (some true) (eI .u8) []), (17, .sl 107 0 ((nPeek dn.1 x.l i).1.D.length) 1 false), (29, sS (some l.nil) eDo l.D), (30, .pv (.lit (.int .i64 (l.D.length : Int)))), (31, .pv (.lit (.int .i64 (i1 : Int)))), (73, .pv (.lit (.bool dn.2.2.1))), (74, .pv (.lit (.bool dx.2.2.1))), (75, .pv (.lit (.bool (!(dn.2.2.1 == dx.2.2.1))))), (78, .pv (.lit (.int .i64 dn.2.2.2))), (79, .pv (.lit (.int .i64 dx.2.2.2))), (80, .pv (.lit (.bool (dn.2.2.2 != dx.2.2.2)))), (83, .ptr 26 0), (84, .pv (.lit (.int .i64 (nLost dn.1)))), (85, .ptr 28 0), (86, .ptr 28 0), (87, .ptr 28 65), (88, .pv (.lit (.int .i64 dx.1.lost))), (89, .pv (.lit (.bool ((nLost dn.1) != dx.1.lost)))), (92, .ptr 26 0), (93, .ptr 8 2), (94, .agg [.pv (.lit (.int .i64 x.l.from_)), .pv (.lit (.int .i64 x.l.to))]), (95, .pv (.lit (.int .i64 (nLen dn.1 x.l)))), (96, .ptr 28 0), (97, .ptr 8 2), (98, .agg [.pv (.lit (.int .i64 x.l.from_)), .pv (.lit (.int .i64 x.l.to))]), (99, .pv (.lit (.int .i64 (rLen dx.1 x.l)))), (100, .pv (.lit (.bool ((nLen dn.1 x.l) != (rLen dx.1 x.l))))), (123, .pv (.lit (.int .i64 ((nPeek dn.1 x.l i).2)))), (124, .pv (.lit (.int .i64 ((rPeek dx.1 x.l i).2)))), (125, .pv (.lit (.bool (((nPeek dn.1 x.l i).2) != ((rPeek dx.1 x.l i).2))))), (128, .pv (.lit (.int .i64 (((nPeek dn.1 x.l i).1.D.length) : Int)))), (129, .pv (.lit (.int .i64 (i3 : Int))))]) (fun i3 v => [(526, mapE kLink vT77.enc dn.1.of_), (26, .cells [.mp 526, .pv (.lit (.int .u64 dn.1.side)), .pv (.lit (.int .i64 dn.1.lost)), .pv (.lit (.bool dn.1.made))]), (28, .cells [sS (some dx.1.items.nil) eItem dx.1.items.D, .pv (.lit (.bool (dx.1.side 0))), .pv (.lit (.bool (dx.1.side 1))), .pv (.lit (.bool (dx.1.side 2))), .pv (.lit (.bool (dx.1.side 3))), .pv (.lit (.bool (dx.1.side 4))), .pv (.lit (.bool (dx.1.side 5))), .pv (.lit (.bool (dx.1.side 6))), .pv (.lit (.bool (dx.1.side 7))), .pv (.lit (.bool (dx.1.side 8))), .pv (.lit (.bool (dx.1.side 9))), .pv (.lit (.bool (dx.1.side 10))), .pv (.lit (.bool (dx.1.side 11))), .pv (.lit (.bool (dx.1.side 12))), .pv (.lit (.bool (dx.1.side 13))), .pv (.lit (.bool (dx.1.side 14))), .pv (.lit (.bool (dx.1.side 15))), .pv (.lit (.bool (dx.1.side 16))), .pv (.lit (.bool (dx.1.side 17))), .pv (.lit (.bool (dx.1.side 18))), .pv (.lit (.bool (dx.1.side 19))), .pv (.lit (.bool (dx.1.side 20))), .pv (.lit (.bool (dx.1.side 21))), .pv (.lit (.bool (dx.1.side 22))), .pv (.lit (.bool (dx.1.side 23))), .pv (.lit (.bool (dx.1.side 24))), .pv (.lit (.bool (dx.1.side 25))), .pv (.lit (.bool (dx.1.side 26))), .pv (.lit (.bool (dx.1.side 27))), .pv (.lit (.bool (dx.1.side 28))), .pv (.lit (.bool (dx.1.side 29))), .pv (.lit (.bool (dx.1.side 30))), .pv (.lit (.bool (dx.1.side 31))), .pv (.lit (.bool (dx.1.side 32))), .pv (.lit (.bool (dx.1.side 33))), .pv (.lit (.bool (dx.1.side 34))), .pv (.lit (.bool (dx.1.side 35))), .pv (.lit (.bool (dx.1.side 36))), .pv (.lit (.bool (dx.1.side 37))), .pv (.lit (.bool (dx.1.side 38))), .pv (.lit (.bool (dx.1.side 39))), .pv (.lit (.bool (dx.1.side 40))), .pv (.lit (.bool (dx.1.side 41))), .pv (.lit (.bool (dx.1.side 42))), .pv (.lit (.bool (dx.1.side 43))), .pv (.lit (.bool (dx.1.side 44))), .pv (.lit (.bool (dx.1.side 45))), .pv (.lit (.bool (dx.1.side 46))), .pv (.lit (.bool (dx.1.side 47))), .pv (.lit (.bool (dx.1.side 48))), .pv (.lit (.bool (dx.1.side 49))), .pv (.lit (.bool (dx.1.side 50))), .pv (.lit (.bool (dx.1.side 51))), .pv (.lit (.bool (dx.1.side 52))), .pv (.lit (.bool (dx.1.side 53))), .pv (.lit (.bool (dx.1.side 54))), .pv (.lit (.bool (dx.1.side 55))), .pv (.lit (.bool (dx.1.side 56))), .pv (.lit (.bool (dx.1.side 57))), .pv (.lit (.bool (dx.1.side 58))), .pv (.lit (.bool (dx.1.side 59))), .pv (.lit (.bool (dx.1.side 60))), .pv (.lit (.bool (dx.1.side 61))), .pv (.lit (.bool (dx.1.side 62))), .pv (.lit (.bool (dx.1.side 63))), .pv (.lit (.int .i64 dx.1.lost))]), (8, .cells [.pv (.lit (.int .i64 x.op)), .pv (.lit (.int .i64 x.i)), .pv (.lit (.int .i64 x.l.from_)), .pv (.lit (.int .i64 x.l.to)), sS (some x.b.nil) (eI .u8) x.b.D, .pv (.lit (.int .u64 x.side))]), (107, .cells (encC (eI .u8) v))]) [8, 26, 28, 107, 526] (fun i3 v => (lawPlays_l2 (fun vc3 => lawPlays_l0 i (l.D.drop (i1 + 1)) (i1 + 1) dn.1 dx.1) (((nPeek dn.1 x.l i).1.D).drop i3) i3 v = R) ∧ (v.length = (nPeek dn.1 x.l i).1.D.length)) ((nPeek dn.1 x.l i).1.D) ?_ ?_ (fun i3 vc3 h64 hR => ?_)
                            · exact ⟨hR, (by first | omega | (simp <;> omega))⟩
                            · exact ⟨fun b => b, WeakerR.ofL (Ks := [8, 26, 28, 107, 526]) hI ⟨⟨rfl, rfl⟩, ⟨rfl, rfl⟩, ⟨rfl, rfl⟩, ⟨rfl, rfl⟩, ⟨rfl, rfl⟩, ⟨rfl, rfl⟩, ⟨rfl, rfl⟩, ⟨rfl, rfl⟩, ⟨rfl, rfl⟩, ⟨rfl, rfl⟩, ⟨rfl, rfl⟩, ⟨rfl, rfl⟩, ⟨rfl, rfl⟩, ⟨rfl, rfl⟩, ⟨rfl, rfl⟩, ⟨rfl, rfl⟩, ⟨rfl, rfl⟩, ⟨rfl, rfl⟩, ⟨rfl, rfl⟩, ⟨rfl, rfl⟩, ⟨rfl, rfl⟩, ⟨rfl, rfl⟩, ⟨rfl, rfl⟩, ⟨rfl, rfl⟩, ⟨rfl, rfl⟩, ⟨rfl, rfl⟩, ⟨rfl, rfl⟩, ⟨rfl, rfl⟩, ⟨rfl, rfl⟩, ⟨rfl, rfl⟩, ⟨rfl, rfl⟩, ⟨rfl, rfl⟩, ⟨rfl, rfl⟩, ⟨rfl, rfl⟩, ⟨rfl, rfl⟩, trivial⟩ (okH_map rfl rfl rfl (okH_cons rfl rfl rfl rfl (okH_cons rfl rfl rfl rfl (okH_cons rfl rfl rfl rfl (okH_list rfl rfl rfl (okH_nil)))))) rfl⟩
                            obtain ⟨hR, hi_vc3⟩ := hR
                            replace hi_vc3 : vc3.length = (nPeek dn.1 x.l i).1.D.length := hi_vc3
                            have hb2_ := nPeek_len hf0_dn x.l i
                            refine Awp.consP C ?_
                            refine rvP C (.pv (.lit (.bool (decide ((i3 : Int) < (((nPeek dn.1 x.l i).1.D.length) : Int)))))) ?_
                            refine rvc_nil ?_
                            refine Awp.seq ?_
                            refine Awp.cond (b := (decide ((i3 : Int) < (((nPeek dn.1 x.l i).1.D.length) : Int)))) rfl (fun h65 => ?_) (fun h65 => ?_)
                            ·
                              have h66 : i3 < ((nPeek dn.1 x.l i).1.D).length := by have := of_decide_eq_true h65; omega
                              obtain ⟨x2, h67⟩ := getX h66
                              rw [drop_at h67] at hR
                              refine Awp.skip ?_
                              refine Awp.seq ?_
                              refine Awp.block ?_
                              refine Awp.consP C ?_
                              refine rvP C (.pv (.lit (.int .i64 (i3 : Int)))) ?_
                              refine rvP C (.pv (.lit (.int .i64 (i3 : Int)))) ?_
                              refine rvc_nil ?_
                              refine Awp.regionP C ?_
                              refine rvP C (.sl 107 0 ((nPeek dn.1 x.l i).1.D.length) 1 false) ?_
                              refine rvP C (.pv (.lit (.int .i64 (i3 : Int)))) ?_
                              have h68 : vc3[i3]? = some vc3[i3]! := getE (by have := rLen_le dx.1 x.l; have := of_decide_eq_true h3; have := of_decide_eq_false h50; have := beq_iff_eq.1 (not_false_of h55); have := eq_of_bne_false h56; have := eq_of_bne_false h57; have := eq_of_bne_false h58; have := eq_of_bne_false h63; have := of_decide_eq_true h65; omega)
                              refine rvc_un (rexec_prim C (δ := { v := .ptr 107 (0 + i3 * 1) }) rfl rfl rfl rfl ⟨(by have := rLen_le dx.1 x.l; have := of_decide_eq_true h3; have := of_decide_eq_false h50; have := beq_iff_eq.1 (not_false_of h55); have := eq_of_bne_false h56; have := eq_of_bne_false h57; have := eq_of_bne_false h58; have := eq_of_bne_false h63; have := of_decide_eq_true h65; omega), getlt h68 (by first | rfl | omega | (have := rLen_le dx.1 x.l; have := of_decide_eq_true h3; have := of_decide_eq_false h50; have := beq_iff_eq.1 (not_false_of h55); have := eq_of_bne_false h56; have := eq_of_bne_false h57; have := eq_of_bne_false h58; have := eq_of_bne_false h63; have := of_decide_eq_true h65; omega)) (by first | rfl | omega | simp)⟩ rfl ?_)
                              refine rvc_un (rexec_loadE C (e := (eI .u8)) i3 0 (vc3[i3]!) (.pv (.lit (.int .u8 (vc3[i3]!)))) rfl rfl rfl rfl h68 (by simp [eI]) (by decide) (by decide) rfl ?_)
                              refine rvP C (.pv (.lit (.int .u8 (bitI .xor .u8 (vc3[i3]!) 255)))) ?_
                              refine rvc_un (rexec_prim C (δ := { v := .ptr 107 (0 + i3 * 1) }) rfl rfl rfl rfl ⟨(by have := rLen_le dx.1 x.l; have := of_decide_eq_true h3; have := of_decide_eq_false h50; have := beq_iff_eq.1 (not_false_of h55); have := eq_of_bne_false h56; have := eq_of_bne_false h57; have := eq_of_bne_false h58; have := eq_of_bne_false h63; have := of_decide_eq_true h65; omega), getlt h68 (by first | rfl | omega | (have := rLen_le dx.1 x.l; have := of_decide_eq_true h3; have := of_decide_eq_false h50; have := beq_iff_eq.1 (not_false_of h55); have := eq_of_bne_false h56; have := eq_of_bne_false h57; have := eq_of_bne_false h58; have := eq_of_bne_false h63; have := of_decide_eq_true h65; omega)) (by first | rfl | omega | simp)⟩ rfl ?_)
                              refine rvc_un (rexec_storeE C (e := (eI .u8)) i3 0 (vc3[i3]!) (bitI .xor .u8 (vc3[i3]!) 255) rfl rfl rfl rfl h68 (by simp [eI]) rfl rfl rfl (of_decide_eq_true rfl) rfl ?_)
                              refine rvc_nil ?_
                              refine Awp.regionP C ?_
                              refine rvP C (.pv (.lit (.int .i64 (IntKind.i64.wrap ((i3 : Int) + 1))))) ?_
                              refine rvP C (.pv (.lit (.int .i64 (IntKind.i64.wrap ((i3 : Int) + 1))))) ?_
                              refine rvc_nil ?_
                              refine ⟨h66, (vc3.set i3 (bitI .xor .u8 (vc3[i3]!) 255)), ?_, ?_⟩
                              · exact ⟨hR, (by first | omega | (simp <;> omega))⟩
                              · exact ⟨fun b => b, WeakerR.ofL (Ks := [8, 26, 28, 107, 526]) hI ⟨⟨rfl, rfl⟩, ⟨rfl, rfl⟩, ⟨rfl, rfl⟩, ⟨rfl, rfl⟩, ⟨rfl, rfl⟩, ⟨rfl, rfl⟩, ⟨rfl, rfl⟩, ⟨rfl, rfl⟩, ⟨rfl, rfl⟩, ⟨rfl, rfl⟩, ⟨rfl, rfl⟩, ⟨rfl, rfl⟩, ⟨rfl, rfl⟩, ⟨rfl, rfl⟩, ⟨rfl, rfl⟩, ⟨rfl, rfl⟩, ⟨rfl, rfl⟩, ⟨rfl, rfl⟩, ⟨rfl, rfl⟩, ⟨rfl, rfl⟩, ⟨rfl, rfl⟩, ⟨rfl, rfl⟩, ⟨rfl, rfl⟩, ⟨rfl, rfl⟩, ⟨rfl, rfl⟩, ⟨rfl, rfl⟩, ⟨rfl, rfl⟩, ⟨rfl, rfl⟩, ⟨rfl, rfl⟩, ⟨rfl, rfl⟩, ⟨rfl, rfl⟩, ⟨rfl, rfl⟩, ⟨rfl, rfl⟩, ⟨rfl, rfl⟩, ⟨lit_cast (wrap_i64 (by omega) (by omega)), rfl⟩, trivial⟩ (okH_map rfl rfl rfl (okH_cons rfl rfl rfl rfl (okH_cons rfl rfl rfl rfl (okH_cons rfl rfl rfl rfl (okH_list rfl rfl rfl (okH_nil)))))) rfl⟩
                            ·
                              have h66 : ¬ i3 < ((nPeek dn.1 x.l i).1.D).length := by have := of_decide_eq_false h65; omega
                              rw [drop_end h66] at hR
                              refine Awp.exit ?_
                              refine Awp.consP C ?_
                              refine rvP C (sS (some true) (eI .u8) []) ?_
                              refine rvP C (.pv (.lit (.int .i64 0))) ?_
                              refine rvP C (.pv (.lit (.int .i64 0))) ?_
                              refine rvc_nil ?_
                              refine Awp.block ?_
                              refine Awp.rounds 1 ?_
                              refine Arounds.succ ?_
                              refine Awp.consP C ?_
                              refine rvP C (.pv (.lit (.bool false))) ?_
                              refine rvc_nil ?_
                              refine Awp.seq ?_
                              refine Awp.condF (b := false) rfl rfl ?_
                              refine Awp.exit ?_
                              refine Awp.regionP C ?_
                              refine rvP C (.pv (.lit (.int .i64 (IntKind.i64.wrap ((i1 : Int) + 1))))) ?_
                              refine rvP C (.pv (.lit (.int .i64 (IntKind.i64.wrap ((i1 : Int) + 1))))) ?_
                              refine rvc_nil ?_
                              refine ⟨h4, (dn.1, dx.1), ?_, ?_⟩
                              · exact ⟨hR, ⟨hf0_dn, hf1_dn, hf0_dx, by omega⟩⟩
                              · exact ⟨fun b => b, WeakerR.ofL (Ks := [26, 28, 526]) hI ⟨⟨rfl, rfl⟩, ⟨rfl, rfl⟩, ⟨rfl, rfl⟩, ⟨rfl, rfl⟩, ⟨rfl, rfl⟩, ⟨lit_cast (wrap_i64 (by omega) (by omega)), rfl⟩, trivial⟩ (okH_map rfl rfl rfl (okH_cons rfl rfl rfl rfl (okH_cons rfl rfl rfl rfl (okH_nil)))) rfl⟩
        ·
          replace hR := of_false h48 hR
          obtain ⟨dn, hq_dn⟩ : ∃ q_, q_ = (does vc (Do.mk x.op x.i x.l (Sl.mk false x.b.D) x.side)) := ⟨_, rfl⟩
          have hc_dn := (doesWR_calls vc (Do.mk x.op x.i x.l (Sl.mk false x.b.D) x.side) x.b.D.length false rfl hVo h48 rfl (by first | exact (Nat.le_trans ((short_ok ‹(!(short (Sl.mk false [l]))) = false› l (by simp)).2 x (List.mem_of_getElem? (by assumption))) (by decide)) | exact Nat.zero_le _))
          first | rw [← hq_dn] at hR hc_dn | (unfold lawPlays at hR; rw [← hq_dn] at hR hc_dn) | (unfold lawPlays_l0 at hR; rw [← hq_dn] at hR hc_dn) | (unfold lawPlays_l1 at hR; rw [← hq_dn] at hR hc_dn) | (unfold lawPlays_l2 at hR; rw [← hq_dn] at hR hc_dn) | (unfold lawPlays_l3 at hR; rw [← hq_dn] at hR hc_dn)
          have hf0_dn := does_ok (n := vc) hVo (Do.mk x.op x.i x.l (Sl.mk false x.b.D) x.side)
          rw [← hq_dn] at hf0_dn
          have hf1_dn := does_okF (n := vc) hVf (Do.mk x.op x.i x.l (Sl.mk false x.b.D) x.side)
          rw [← hq_dn] at hf1_dn
          have hf2_dn := does_len (n := vc) hVo (Do.mk x.op x.i x.l (Sl.mk false x.b.D) x.side)
          rw [← hq_dn] at hf2_dn
          refine rvc_un (rexec_callObjR hP C (fun b => bif b == 0 then 26 else bif b == 1 then 526 else bif b == 2 then 38 else b) [(43, 3)] rfl rfl rfl hc_dn rfl rfl ⟨rfl, rfl, trivial⟩ (of_decide_eq_true rfl) rfl (of_decide_eq_true rfl) (of_decide_eq_true rfl) (allB_cons rfl allB_nil) (allB_cons rfl allB_nil) (allB_cons rfl (allB_cons rfl (allB_cons rfl allB_nil))) ?_ rfl (allB_cons rfl (allB_cons rfl allB_nil)))
          refine rvP C (.tup [.sl 43 0 dn.2.1.D.length 1 false, .pv (.lit (.bool dn.2.2.1)), .pv (.lit (.int .i64 dn.2.2.2))]) ?_
          refine rvP C (.sl 43 0 dn.2.1.D.length 1 false) ?_
          refine rvP C (.pv (.lit (.bool dn.2.2.1))) ?_
          refine rvP C (.pv (.lit (.int .i64 dn.2.2.2))) ?_
          refine rvP C (.sl 43 0 dn.2.1.D.length 1 false) ?_
          refine rvP C (.pv (.lit (.bool dn.2.2.1))) ?_
          refine rvP C (.pv (.lit (.int .i64 dn.2.2.2))) ?_
          refine rvc_nil ?_
          refine Awp.cons C (fun _ => .writer) (by kernel_rfl) ?_
          refine rvP C (.ptr 28 0) ?_
          refine rvP C (.agg [.pv (.lit (.int .i64 x.op)), .pv (.lit (.int .i64 x.i)), .pv (.lit (.int .i64 x.l.from_)), .pv (.lit (.int .i64 x.l.to)), sS (some x.b.nil) (eI .u8) x.b.D, .pv (.lit (.int .u64 x.side))]) ?_
          obtain ⟨dx, hq_dx⟩ : ∃ q_, q_ = (also vc1 x) := ⟨_, rfl⟩
          have hc_dx := (also_calls vc1 x hVx.1 (Nat.le_trans hVx.2 (by have h1_ := (short_ok ‹(!(short (Sl.mk false [l]))) = false› l (by simp)).1; omega)))
          first | rw [← hq_dx] at hR hc_dx | (unfold lawPlays at hR; rw [← hq_dx] at hR hc_dx) | (unfold lawPlays_l0 at hR; rw [← hq_dx] at hR hc_dx) | (unfold lawPlays_l1 at hR; rw [← hq_dx] at hR hc_dx) | (unfold lawPlays_l2 at hR; rw [← hq_dx] at hR hc_dx) | (unfold lawPlays_l3 at hR; rw [← hq_dx] at hR hc_dx)
          have hf0_dx := also_ok (x := vc1) hVx (by have h1_ := (short_ok ‹(!(short (Sl.mk false [l]))) = false› l (by simp)).1; omega) x
          rw [← hq_dx] at hf0_dx
          refine rvc_un (rexec_callM hP C (b := 28) rfl rfl rfl hc_dx rfl rfl ?_)
          refine rvP C (.tup [.pv (.lit (.string dx.2.1)), .pv (.lit (.bool dx.2.2.1)), .pv (.lit (.int .i64 dx.2.2.2))]) ?_
          refine rvP C (.pv (.lit (.string dx.2.1))) ?_
          refine rvP C (.pv (.lit (.bool dx.2.2.1))) ?_
          refine rvP C (.pv (.lit (.int .i64 dx.2.2.2))) ?_
          refine rvP C (.pv (.lit (.string dx.2.1))) ?_
          refine rvP C (.pv (.lit (.bool dx.2.2.1))) ?_
          refine rvP C (.pv (.lit (.int .i64 dx.2.2.2))) ?_
          refine rvc_nil ?_
          refine Awp.seq ?_
          refine Awp.consP C ?_
          refine rvP C (.ptr 9 4) ?_
          refine rvP C (.sl 38 0 x.b.D.length 1 false) ?_
          refine rvP C (.pv (.lit (.int .i64 (x.b.D.length : Int)))) ?_
          refine rvP C (.pv (.lit (.int .i64 0))) ?_
          refine rvc_nil ?_
          refine Awp.block ?_
          refine Awp.forR (σ := ((List Int))) (x.b.D.length) (fun i2 v => [(1, .pv (.lit (.int .i64 i))), (5, .ptr 26 0), (6, .ptr 28 0), (8, .ptr 8 0), (9, .ptr 9 0), (10, .sl 43 0 dn.2.1.D.length 1 false), (11, .pv (.lit (.bool dn.2.2.1))), (12, .pv (.lit (.int .i64 dn.2.2.2))), (13, .pv (.lit (.string dx.2.1))), (14, .pv (.lit (.bool dx.2.2.1))), (15, .pv (.lit (.int .i64 dx.2.2.2))), (29, sS (some l.nil) eDo l.D), (30, .pv (.lit (.int .i64 (l.D.length : Int)))), (31, .pv (.lit (.int .i64 (i1 : Int)))), (56, .pv (.lit (.int .i64 (x.b.D.length : Int)))), (57, .pv (.lit (.int .i64 (i2 : Int))))]) (fun i2 v => [(526, mapE kLink vT77.enc dn.1.of_), (26, .cells [.mp 526, .pv (.lit (.int .u64 dn.1.side)), .pv (.lit (.int .i64 dn.1.lost)), .pv (.lit (.bool dn.1.made))]), (28, .cells [sS (some dx.1.items.nil) eItem dx.1.items.D, .pv (.lit (.bool (dx.1.side 0))), .pv (.lit (.bool (dx.1.side 1))), .pv (.lit (.bool (dx.1.side 2))), .pv (.lit (.bool (dx.1.side 3))), .pv (.lit (.bool (dx.1.side 4))), .pv (.lit (.bool (dx.1.side 5))), .pv (.lit (.bool (dx.1.side 6))), .pv (.lit (.bool (dx.1.side 7))), .pv (.lit (.bool (dx.1.side 8))), .pv (.lit (.bool (dx.1.side 9))), .pv (.lit (.bool (dx.1.side 10))), .pv (.lit (.bool (dx.1.side 11))), .pv (.lit (.bool (dx.1.side 12))), .pv (.lit (.bool (dx.1.side 13))), .pv (.lit (.bool (dx.1.side 14))), .pv (.lit (.bool (dx.1.side 15))), .pv (.lit (.bool (dx.1.side 16))), .pv (.lit (.bool (dx.1.side 17))), .pv (.lit (.bool (dx.1.side 18))), .pv (.lit (.bool (dx.1.side 19))), .pv (.lit (.bool (dx.1.side 20))), .pv (.lit (.bool (dx.1.side 21))), .pv (.lit (.bool (dx.1.side 22))), .pv (.lit (.bool (dx.1.side 23))), .pv (.lit (.bool (dx.1.side 24))), .pv (.lit (.bool (dx.1.side 25))), .pv (.lit (.bool (dx.1.side 26))), .pv (.lit (.bool (dx.1.side 27))), .pv (.lit (.bool (dx.1.side 28))), .pv (.lit (.bool (dx.1.side 29))), .pv (.lit (.bool (dx.1.side 30))), .pv (.lit (.bool (dx.1.side 31))), .pv (.lit (.bool (dx.1.side 32))), .pv (.lit (.bool (dx.1.side 33))), .pv (.lit (.bool (dx.1.side 34))), .pv (.lit (.bool (dx.1.side 35))), .pv (.lit (.bool (dx.1.side 36))), .pv (.lit (.bool (dx.1.side 37))), .pv (.lit (.bool (dx.1.side 38))), .pv (.lit (.bool (dx.1.side 39))), .pv (.lit (.bool (dx.1.side 40))), .pv (.lit (.bool (dx.1.side 41))), .pv (.lit (.bool (dx.1.side 42))), .pv (.lit (.bool (dx.1.side 43))), .pv (.lit (.bool (dx.1.side 44))), .pv (.lit (.bool (dx.1.side 45))), .pv (.lit (.bool (dx.1.side 46))), .pv (.lit (.bool (dx.1.side 47))), .pv (.lit (.bool (dx.1.side 48))), .pv (.lit (.bool (dx.1.side 49))), .pv (.lit (.bool (dx.1.side 50))), .pv (.lit (.bool (dx.1.side 51))), .pv (.lit (.bool (dx.1.side 52))), .pv (.lit (.bool (dx.1.side 53))), .pv (.lit (.bool (dx.1.side 54))), .pv (.lit (.bool (dx.1.side 55))), .pv (.lit (.bool (dx.1.side 56))), .pv (.lit (.bool (dx.1.side 57))), .pv (.lit (.bool (dx.1.side 58))), .pv (.lit (.bool (dx.1.side 59))), .pv (.lit (.bool (dx.1.side 60))), .pv (.lit (.bool (dx.1.side 61))), .pv (.lit (.bool (dx.1.side 62))), .pv (.lit (.bool (dx.1.side 63))), .pv (.lit (.int .i64 dx.1.lost))]), (8, .cells [.pv (.lit (.int .i64 x.op)), .pv (.lit (.int .i64 x.i)), .pv (.lit (.int .i64 x.l.from_)), .pv (.lit (.int .i64 x.l.to)), sS (some x.b.nil) (eI .u8) x.b.D, .pv (.lit (.int .u64 x.side))]), (9, .cells [.pv (.lit (.int .i64 x.op)), .pv (.lit (.int .i64 x.i)), .pv (.lit (.int .i64 x.l.from_)), .pv (.lit (.int .i64 x.l.to)), .sl 38 0 x.b.D.length 1 false, .pv (.lit (.int .u64 x.side))]), (38, .cells (encC (eI .u8) v)), (43, .cells (encC (eI .u8) dn.2.1.D))]) [8, 9, 26, 28, 38, 43, 526] (fun i2 v => (lawPlays_l1 (fun vc2 => (bif (!((strOf dn.2.1.D).toList == dx.2.1.toList)) then false else (bif (!(dn.2.2.1 == dx.2.2.1)) then false else (bif (dn.2.2.2 != dx.2.2.2) then false else (bif ((nLost dn.1) != dx.1.lost) then false else (bif ((nLen dn.1 x.l) != (rLen dx.1 x.l)) then false else (bif (nPeek dn.1 x.l i).1.nil then (bif (!((strOf []).toList == ((rPeek dx.1 x.l i).1).toList)) then false else (bif (((nPeek dn.1 x.l i).2) != ((rPeek dx.1 x.l i).2)) then false else lawPlays_l3 (fun vc3 => lawPlays_l0 i (l.D.drop (i1 + 1)) (i1 + 1) dn.1 dx.1) dn.2.1.D 0 dn.2.1.D)) else (bif (!((strOf ((nPeek dn.1 x.l i).1.D)).toList == ((rPeek dx.1 x.l i).1).toList)) then false else (bif (((nPeek dn.1 x.l i).2) != ((rPeek dx.1 x.l i).2)) then false else lawPlays_l2 (fun vc3 => lawPlays_l3 (fun vc4 => lawPlays_l0 i (l.D.drop (i1 + 1)) (i1 + 1) dn.1 dx.1) dn.2.1.D 0 dn.2.1.D) ((nPeek dn.1 x.l i).1.D) 0 ((nPeek dn.1 x.l i).1.D)))))))))) (x.b.D.drop i2) i2 v = R) ∧ (v.length = x.b.D.length)) x.b.D ?_ ?_ (fun i2 vc2 h69 hR => ?_)
          · exact ⟨hR, (by first | omega | (simp <;> omega))⟩
          · exact ⟨fun b => b, WeakerR.ofL (Ks := [8, 9, 26, 28, 38, 43, 526]) hI ⟨⟨rfl, rfl⟩, ⟨rfl, rfl⟩, ⟨rfl, rfl⟩, ⟨rfl, rfl⟩, ⟨rfl, rfl⟩, ⟨rfl, rfl⟩, ⟨rfl, rfl⟩, ⟨rfl, rfl⟩, ⟨rfl, rfl⟩, ⟨rfl, rfl⟩, ⟨rfl, rfl⟩, ⟨rfl, rfl⟩, ⟨rfl, rfl⟩, ⟨rfl, rfl⟩, ⟨rfl, rfl⟩, ⟨rfl, rfl⟩, trivial⟩ (okH_map rfl rfl rfl (okH_cons rfl rfl rfl rfl (okH_cons rfl rfl rfl rfl (okH_cons rfl rfl rfl rfl (okH_cons rfl rfl rfl rfl (okH_list rfl rfl rfl (okH_list rfl rfl rfl (okH_nil)))))))) rfl⟩
          obtain ⟨hR, hi_vc2⟩ := hR
          replace hi_vc2 : vc2.length = x.b.D.length := hi_vc2
          have hb1_ : x.b.D.length ≤ 1000000 := (Nat.le_trans ((short_ok ‹(!(short (Sl.mk false [l]))) = false› l (by simp)).2 x (List.mem_of_getElem? (by assumption))) (by decide))
          refine Awp.consP C ?_
          refine rvP C (.pv (.lit (.bool (decide ((i2 : Int) < (x.b.D.length : Int)))))) ?_
          refine rvc_nil ?_
          refine Awp.seq ?_
          refine Awp.cond (b := (decide ((i2 : Int) < (x.b.D.length : Int)))) rfl (fun h70 => ?_) (fun h70 => ?_)
          ·
            have h71 : i2 < x.b.D.length := by have := of_decide_eq_true h70; omega
            obtain ⟨x1, h72⟩ := getX h71
            rw [drop_at h72] at hR
            refine Awp.skip ?_
            refine Awp.seq ?_
            refine Awp.block ?_
            refine Awp.consP C ?_
            refine rvP C (.pv (.lit (.int .i64 (i2 : Int)))) ?_
            refine rvP C (.pv (.lit (.int .i64 (i2 : Int)))) ?_
            refine rvc_nil ?_
            refine Awp.regionP C ?_
            refine rvP C (.ptr 9 4) ?_
            refine rvP C (.sl 38 0 x.b.D.length 1 false) ?_
            refine rvP C (.pv (.lit (.int .i64 (i2 : Int)))) ?_
            have h73 : vc2[i2]? = some vc2[i2]! := getE (by have := of_decide_eq_true h3; have := of_decide_eq_true h70; omega)
            refine rvc_un (rexec_prim C (δ := { v := .ptr 38 (0 + i2 * 1) }) rfl rfl rfl rfl ⟨(by have := of_decide_eq_true h3; have := of_decide_eq_true h70; omega), getlt h73 (by first | rfl | omega | (have := of_decide_eq_true h3; have := of_decide_eq_true h70; omega)) (by first | rfl | omega | simp)⟩ rfl ?_)
            refine rvc_un (rexec_loadE C (e := (eI .u8)) i2 0 (vc2[i2]!) (.pv (.lit (.int .u8 (vc2[i2]!)))) rfl rfl rfl rfl h73 (by simp [eI]) (by decide) (by decide) rfl ?_)
            refine rvP C (.pv (.lit (.int .u8 (bitI .xor .u8 (vc2[i2]!) 255)))) ?_
            refine rvc_un (rexec_prim C (δ := { v := .ptr 38 (0 + i2 * 1) }) rfl rfl rfl rfl ⟨(by have := of_decide_eq_true h3; have := of_decide_eq_true h70; omega), getlt h73 (by first | rfl | omega | (have := of_decide_eq_true h3; have := of_decide_eq_true h70; omega)) (by first | rfl | omega | simp)⟩ rfl ?_)
            refine rvc_un (rexec_storeE C (e := (eI .u8)) i2 0 (vc2[i2]!) (bitI .xor .u8 (vc2[i2]!) 255) rfl rfl rfl rfl h73 (by simp [eI]) rfl rfl rfl (of_decide_eq_true rfl) rfl ?_)
            refine rvc_nil ?_
            refine Awp.regionP C ?_
            refine rvP C (.pv (.lit (.int .i64 (IntKind.i64.wrap ((i2 : Int) + 1))))) ?_
            refine rvP C (.pv (.lit (.int .i64 (IntKind.i64.wrap ((i2 : Int) + 1))))) ?_
            refine rvc_nil ?_
            refine ⟨h71, (vc2.set i2 (bitI .xor .u8 (vc2[i2]!) 255)), ?_, ?_⟩
            · exact ⟨hR, (by first | omega | (simp <;> omega))⟩
            · exact ⟨fun b => b, WeakerR.ofL (Ks := [8, 9, 26, 28, 38, 43, 526]) hI ⟨⟨rfl, rfl⟩, ⟨rfl, rfl⟩, ⟨rfl, rfl⟩, ⟨rfl, rfl⟩, ⟨rfl, rfl⟩, ⟨rfl, rfl⟩, ⟨rfl, rfl⟩, ⟨rfl, rfl⟩, ⟨rfl, rfl⟩, ⟨rfl, rfl⟩, ⟨rfl, rfl⟩, ⟨rfl, rfl⟩, ⟨rfl, rfl⟩, ⟨rfl, rfl⟩, ⟨rfl, rfl⟩, ⟨lit_cast (wrap_i64 (by omega) (by omega)), rfl⟩, trivial⟩ (okH_map rfl rfl rfl (okH_cons rfl rfl rfl rfl (okH_cons rfl rfl rfl rfl (okH_cons rfl rfl rfl rfl (okH_cons rfl rfl rfl rfl (okH_list rfl rfl rfl (okH_list rfl rfl rfl (okH_nil)))))))) rfl⟩
          ·
            have h71 : ¬ i2 < x.b.D.length := by have := of_decide_eq_false h70; omega
            rw [drop_end h71] at hR
            refine Awp.exit ?_
            refine Awp.seq ?_
            refine Awp.cons C (fun o => match o.dst with | some 69 => .reads [43] | some 84 => .writes [26, 526] | some 88 => .reads [28] | some 94 => .reads [8] | some 95 => .writes [26, 526] | some 98 => .reads [8] | some 99 => .writes [28] | _ => .pure) (by kernel_rfl) ?_
            refine rvP C (.sl 43 0 dn.2.1.D.length 1 false) ?_
            refine rvc_un (rexec_convR C rfl rfl rfl rfl rfl rfl rfl rfl rfl rfl ?_)
            refine rvP C (.pv (.lit (.string dx.2.1))) ?_
            refine rvP C (.pv (.lit (.bool (!((strOf dn.2.1.D).toList == dx.2.1.toList))))) ?_
            refine rvP C (.pv (.lit (.bool (!((strOf dn.2.1.D).toList == dx.2.1.toList))))) ?_
            refine rvc_case 72 (!((strOf dn.2.1.D).toList == dx.2.1.toList)) rfl (fun h74 => ?_) (fun h74 => ?_)
            ·
              replace hR := of_true h74 hR
              refine rvS ?_
              refine rvS ?_
              refine rvS ?_
              refine rvP C (.pv (.lit (.bool true))) ?_
              refine rvP C (.pv (.lit (.bool true))) ?_
              refine rvS ?_
              refine rvS ?_
              refine rvS ?_
              refine rvP C (.pv (.lit (.bool true))) ?_
              refine rvP C (.pv (.lit (.bool true))) ?_
              refine rvS ?_
              refine rvS ?_
              refine rvS ?_
              refine rvS ?_
              refine rvS ?_
              refine rvS ?_
              refine rvS ?_
              refine rvP C (.pv (.lit (.bool true))) ?_
              refine rvP C (.pv (.lit (.bool true))) ?_
              refine rvS ?_
              refine rvS ?_
              refine rvS ?_
              refine rvS ?_
              refine rvS ?_
              refine rvS ?_
              refine rvS ?_
              refine rvS ?_
              refine rvS ?_
              refine rvP C (.pv (.lit (.bool true))) ?_
              refine rvc_nil ?_
              refine Awp.condT (b := true) rfl rfl ?_
              refine Awp.consP C ?_
              refine rvP C (.pv (.lit (.bool false))) ?_
              refine rvc_nil ?_
              refine Awp.ret ?_
              subst hR
              exact ⟨.inl rfl, rfl⟩
            ·
              replace hR := of_false h74 hR
              refine rvO C (.pv (.lit (.bool dn.2.2.1))) ?_
              refine rvO C (.pv (.lit (.bool dx.2.2.1))) ?_
              refine rvO C (.pv (.lit (.bool (!(dn.2.2.1 == dx.2.2.1))))) ?_
              refine rvP C (.pv (.lit (.bool (!(dn.2.2.1 == dx.2.2.1))))) ?_
              refine rvP C (.pv (.lit (.bool (!(dn.2.2.1 == dx.2.2.1))))) ?_
              refine rvc_case 77 (!(dn.2.2.1 == dx.2.2.1)) rfl (fun h75 => ?_) (fun h75 => ?_)
              ·
                replace hR := of_true h75 hR
                refine rvS ?_
                refine rvS ?_
                refine rvS ?_
                refine rvP C (.pv (.lit (.bool true))) ?_
                refine rvP C (.pv (.lit (.bool true))) ?_
                refine rvS ?_
                refine rvS ?_
                refine rvS ?_
                refine rvS ?_
                refine rvS ?_
                refine rvS ?_
                refine rvS ?_
                refine rvP C (.pv (.lit (.bool true))) ?_
                refine rvP C (.pv (.lit (.bool true))) ?_
                refine rvS ?_
                refine rvS ?_
                refine rvS ?_
                refine rvS ?_
                refine rvS ?_
                refine rvS ?_
                refine rvS ?_
                refine rvS ?_
                refine rvS ?_
                refine rvP C (.pv (.lit (.bool true))) ?_
                refine rvc_nil ?_
                refine Awp.condT (b := true) rfl rfl ?_
                refine Awp.consP C ?_
                refine rvP C (.pv (.lit (.bool false))) ?_
                refine rvc_nil ?_
                refine Awp.ret ?_
                subst hR
                exact ⟨.inl rfl, rfl⟩
              ·
                replace hR := of_false h75 hR
                refine rvO C (.pv (.lit (.int .i64 dn.2.2.2))) ?_
                refine rvO C (.pv (.lit (.int .i64 dx.2.2.2))) ?_
                refine rvO C (.pv (.lit (.bool (dn.2.2.2 != dx.2.2.2)))) ?_
                refine rvP C (.pv (.lit (.bool (dn.2.2.2 != dx.2.2.2)))) ?_
                refine rvP C (.pv (.lit (.bool (dn.2.2.2 != dx.2.2.2)))) ?_
                refine rvc_case 82 (dn.2.2.2 != dx.2.2.2) rfl (fun h76 => ?_) (fun h76 => ?_)
                ·
                  replace hR := of_true h76 hR
                  refine rvS ?_
                  refine rvS ?_
                  refine rvS ?_
                  refine rvS ?_
                  refine rvS ?_
                  refine rvS ?_
                  refine rvS ?_
                  refine rvP C (.pv (.lit (.bool true))) ?_
                  refine rvP C (.pv (.lit (.bool true))) ?_
                  refine rvS ?_
                  refine rvS ?_
                  refine rvS ?_
                  refine rvS ?_
                  refine rvS ?_
                  refine rvS ?_
                  refine rvS ?_
                  refine rvS ?_
                  refine rvS ?_
                  refine rvP C (.pv (.lit (.bool true))) ?_
                  refine rvc_nil ?_
                  refine Awp.condT (b := true) rfl rfl ?_
                  refine Awp.consP C ?_
                  refine rvP C (.pv (.lit (.bool false))) ?_
                  refine rvc_nil ?_
                  refine Awp.ret ?_
                  subst hR
                  exact ⟨.inl rfl, rfl⟩
                ·
                  replace hR := of_false h76 hR
                  refine rvO C (.ptr 26 0) ?_
                  refine rvc_open rfl rfl rfl (rexec_callObj hP C (fun b => bif b == 0 then 26 else bif b == 1 then 526 else b) [] rfl rfl rfl (nLost_calls dn.1) rfl rfl ⟨rfl, trivial⟩ (of_decide_eq_true rfl) rfl (of_decide_eq_true rfl) (of_decide_eq_true rfl) allB_nil allB_nil (allB_cons rfl allB_nil) ?_ rfl (allB_cons rfl allB_nil))
                  refine rvO C (.ptr 28 0) ?_
                  refine rvO C (.ptr 28 0) ?_
                  refine rvO C (.ptr 28 65) ?_
                  refine rvO C (.pv (.lit (.int .i64 dx.1.lost))) ?_
                  refine rvO C (.pv (.lit (.bool ((nLost dn.1) != dx.1.lost)))) ?_
                  refine rvP C (.pv (.lit (.bool ((nLost dn.1) != dx.1.lost)))) ?_
                  refine rvP C (.pv (.lit (.bool ((nLost dn.1) != dx.1.lost)))) ?_
                  refine rvc_case 91 ((nLost dn.1) != dx.1.lost) rfl (fun h77 => ?_) (fun h77 => ?_)
                  ·
                    replace hR := of_true h77 hR
                    refine rvS ?_
                    refine rvS ?_
                    refine rvS ?_
                    refine rvS ?_
                    refine rvS ?_
                    refine rvS ?_
                    refine rvS ?_
                    refine rvS ?_
                    refine rvS ?_
                    refine rvP C (.pv (.lit (.bool true))) ?_
                    refine rvc_nil ?_
                    refine Awp.condT (b := true) rfl rfl ?_
                    refine Awp.consP C ?_
                    refine rvP C (.pv (.lit (.bool false))) ?_
                    refine rvc_nil ?_
                    refine Awp.ret ?_
                    subst hR
                    exact ⟨.inl rfl, rfl⟩
                  ·
                    replace hR := of_false h77 hR
                    refine rvO C (.ptr 26 0) ?_
                    refine rvO C (.ptr 8 2) ?_
                    refine rvO C (.agg [.pv (.lit (.int .i64 x.l.from_)), .pv (.lit (.int .i64 x.l.to))]) ?_
                    refine rvc_open rfl rfl rfl (rexec_callObj hP C (fun b => bif b == 0 then 26 else bif b == 1 then 526 else b) [] rfl rfl rfl (nLen_calls dn.1 x.l) rfl rfl ⟨rfl, trivial⟩ (of_decide_eq_true rfl) rfl (of_decide_eq_true rfl) (of_decide_eq_true rfl) allB_nil allB_nil (allB_cons rfl allB_nil) ?_ rfl (allB_cons rfl allB_nil))
                    refine rvO C (.ptr 28 0) ?_
                    refine rvO C (.ptr 8 2) ?_
                    refine rvO C (.agg [.pv (.lit (.int .i64 x.l.from_)), .pv (.lit (.int .i64 x.l.to))]) ?_
                    refine rvc_open rfl rfl rfl (rexec_callM hP C (b := 28) rfl rfl rfl (rLen_calls dx.1 x.l (Nat.le_trans hf0_dx.2 (by have h1_ := (short_ok ‹(!(short (Sl.mk false [l]))) = false› l (by simp)).1; omega))) rfl rfl ?_)
                    refine rvO C (.pv (.lit (.bool ((nLen dn.1 x.l) != (rLen dx.1 x.l))))) ?_
                    refine rvP C (.pv (.lit (.bool ((nLen dn.1 x.l) != (rLen dx.1 x.l))))) ?_
                    refine rvc_nil ?_
                    refine Awp.cond (b := ((nLen dn.1 x.l) != (rLen dx.1 x.l))) rfl (fun h78 => ?_) (fun h78 => ?_)
                    ·
                      replace hR := of_true h78 hR
                      refine Awp.consP C ?_
                      refine rvP C (.pv (.lit (.bool false))) ?_
                      refine rvc_nil ?_
                      refine Awp.ret ?_
                      subst hR
                      exact ⟨.inl rfl, rfl⟩
                    ·
                      replace hR := of_false h78 hR
                      refine Awp.skip ?_
                      refine Awp.cons C (fun _ => .writer) (by kernel_rfl) ?_
                      refine rvP C (.ptr 26 0) ?_
                      refine rvP C (.ptr 8 2) ?_
                      refine rvP C (.agg [.pv (.lit (.int .i64 x.l.from_)), .pv (.lit (.int .i64 x.l.to))]) ?_
                      refine rvP C (.pv (.lit (.int .i64 i))) ?_
                      rcases Bool.eq_false_or_eq_true ((nPeek dn.1 x.l i).1.nil) with h79 | h79
                      ·
                        replace hR := of_true h79 hR
                        refine rvc_un (rexec_callObj hP C (fun b => bif b == 0 then 26 else bif b == 1 then 526 else b) [] rfl rfl rfl (nPeekZ_calls dn.1 x.l i hf0_dn h79) rfl rfl ⟨rfl, trivial⟩ (of_decide_eq_true rfl) rfl (of_decide_eq_true rfl) (of_decide_eq_true rfl) allB_nil allB_nil (allB_cons rfl allB_nil) ?_ rfl (allB_cons rfl allB_nil))
                        refine rvP C (.tup [sS (some true) (eI .u8) [], .pv (.lit (.int .i64 ((nPeek dn.1 x.l i).2)))]) ?_
                        refine rvP C (sS (some true) (eI .u8) []) ?_
                        refine rvP C (.pv (.lit (.int .i64 ((nPeek dn.1 x.l i).2)))) ?_
                        refine rvP C (sS (some true) (eI .u8) []) ?_
                        refine rvP C (.pv (.lit (.int .i64 ((nPeek dn.1 x.l i).2)))) ?_
                        refine rvc_nil ?_
                        refine Awp.cons C (fun _ => .writer) (by kernel_rfl) ?_
                        refine rvP C (.ptr 28 0) ?_
                        refine rvP C (.ptr 8 2) ?_
                        refine rvP C (.agg [.pv (.lit (.int .i64 x.l.from_)), .pv (.lit (.int .i64 x.l.to))]) ?_
                        refine rvP C (.pv (.lit (.int .i64 i))) ?_
                        refine rvc_un (rexec_callM hP C (b := 28) rfl rfl rfl (rPeek_calls dx.1 x.l i (Nat.le_trans hf0_dx.2 (by have h1_ := (short_ok ‹(!(short (Sl.mk false [l]))) = false› l (by simp)).1; omega))) rfl rfl ?_)
                        refine rvP C (.tup [.pv (.lit (.string ((rPeek dx.1 x.l i).1))), .pv (.lit (.int .i64 ((rPeek dx.1 x.l i).2)))]) ?_
                        refine rvP C (.pv (.lit (.string ((rPeek dx.1 x.l i).1)))) ?_
                        refine rvP C (.pv (.lit (.int .i64 ((rPeek dx.1 x.l i).2)))) ?_
                        refine rvP C (.pv (.lit (.string ((rPeek dx.1 x.l i).1)))) ?_
                        refine rvP C (.pv (.lit (.int .i64 ((rPeek dx.1 x.l i).2)))) ?_
                        refine rvc_nil ?_
                        refine Awp.seq ?_
                        refine Awp.cons C (fun o => match o.dst with | some 119 => .reads [107] | _ => .pure) (by kernel_rfl) ?_
                        refine rvP C (sS (some true) (eI .u8) []) ?_
                        refine rvc_un (rexec_convS C rfl rfl rfl rfl rfl rfl rfl rfl ?_)
                        refine rvP C (.pv (.lit (.string ((rPeek dx.1 x.l i).1)))) ?_
                        refine rvP C (.pv (.lit (.bool (!((strOf []).toList == ((rPeek dx.1 x.l i).1).toList))))) ?_
                        refine rvP C (.pv (.lit (.bool (!((strOf []).toList == ((rPeek dx.1 x.l i).1).toList))))) ?_
                        refine rvc_case 122 (!((strOf []).toList == ((rPeek dx.1 x.l i).1).toList)) rfl (fun h80 => ?_) (fun h80 => ?_)
                        ·
                          replace hR := of_true h80 hR
                          refine rvS ?_
                          refine rvS ?_
                          refine rvS ?_
                          refine rvP C (.pv (.lit (.bool true))) ?_
                          refine rvc_nil ?_
                          refine Awp.condT (b := true) rfl rfl ?_
                          refine Awp.consP C ?_
                          refine rvP C (.pv (.lit (.bool false))) ?_
                          refine rvc_nil ?_
                          refine Awp.ret ?_
                          subst hR
                          exact ⟨.inl rfl, rfl⟩
                        ·
                          replace hR := of_false h80 hR
                          refine rvO C (.pv (.lit (.int .i64 ((nPeek dn.1 x.l i).2)))) ?_
                          refine rvO C (.pv (.lit (.int .i64 ((rPeek dx.1 x.l i).2)))) ?_
                          refine rvO C (.pv (.lit (.bool (((nPeek dn.1 x.l i).2) != ((rPeek dx.1 x.l i).2))))) ?_
                          refine rvP C (.pv (.lit (.bool (((nPeek dn.1 x.l i).2) != ((rPeek dx.1 x.l i).2))))) ?_
                          refine rvc_nil ?_
                          refine Awp.cond (b := (((nPeek dn.1 x.l i).2) != ((rPeek dx.1 x.l i).2))) rfl (fun h81 => ?_) (fun h81 => ?_)
                          ·
                            replace hR := of_true h81 hR
                            refine Awp.consP C ?_
                            refine rvP C (.pv (.lit (.bool false))) ?_
                            refine rvc_nil ?_
                            refine Awp.ret ?_
                            subst hR
                            exact ⟨.inl rfl, rfl⟩
                          ·
                            replace hR := of_false h81 hR
                            refine Awp.skip ?_
                            refine Awp.seq ?_
                            refine Awp.consP C ?_
                            refine rvP C (sS (some true) (eI .u8) []) ?_
                            refine rvP C (.pv (.lit (.int .i64 0))) ?_
                            refine rvP C (.pv (.lit (.int .i64 0))) ?_
                            refine rvc_nil ?_
                            refine Awp.block ?_
                            refine Awp.rounds 1 ?_
                            refine Arounds.succ ?_
                            refine Awp.consP C ?_
                            refine rvP C (.pv (.lit (.bool false))) ?_
                            refine rvc_nil ?_
                            refine Awp.seq ?_
                            refine Awp.condF (b := false) rfl rfl ?_
                            refine Awp.exit ?_
                            refine Awp.consP C ?_
                            refine rvP C (.sl 43 0 dn.2.1.D.length 1 false) ?_
                            refine rvP C (.pv (.lit (.int .i64 (dn.2.1.D.length : Int)))) ?_
                            refine rvP C (.pv (.lit (.int .i64 0))) ?_
                            refine rvc_nil ?_
                            refine Awp.block ?_
                            refine Awp.forR (σ := ((List Int))) (dn.2.1.D.length) (fun i3 v => [(1, .pv (.lit (.int .i64 i))), (5, .ptr 26 0), (6, .ptr 28 0), (10, .sl 43 0 dn.2.1.D.length 1 false), (29, sS (some l.nil) eDo l.D), (30, .pv (.lit (.int .i64 (l.D.length : Int)))), (31, .pv (.lit (.int .i64 (i1 : Int)))), (73, .pv (.lit (.bool dn.2.2.1))), (74, .pv (.lit (.bool dx.2.2.1))), (75, .pv (.lit (.bool (!(dn.2.2.1 == dx.2.2.1))))), (78, .pv (.lit (.int .i64 dn.2.2.2))), (79, .pv (.lit (.int .i64 dx.2.2.2))), (80, .pv (.lit (.bool (dn.2.2.2 != dx.2.2.2)))), (83, .ptr 26 0), (84, .pv (.lit (.int .i64 (nLost dn.1)))), (85, .ptr 28 0), (86, .ptr 28 0), (87, .ptr 28 65), (88, .pv (.lit (.int .i64 dx.1.lost))), (89, .pv (.lit (.bool ((nLost dn.1) != dx.1.lost)))), (92, .ptr 26 0), (93, .ptr 8 2), (94, .agg [.pv (.lit (.int .i64 x.l.from_)), .pv (.lit (.int .i64 x.l.to))]), (95, .pv (.lit (.int .i64 (nLen dn.1 x.l)))), (96, .ptr 28 0), (97, .ptr 8 2), (98, .agg [.pv (.lit (.int .i64 x.l.from_)), .pv (.lit (.int .i64 x.l.to))]), (99, .pv (.lit (.int .i64 (rLen dx.1 x.l)))), (100, .pv (.lit (.bool ((nLen dn.1 x.l) != (rLen dx.1 x.l))))), (123, .pv (.lit (.int .i64 ((nPeek dn.1 x.l i).2)))), (124, .pv (.lit (.int .i64 ((rPeek dx.1 x.l i).2)))), (125, .pv (.lit (.bool (((nPeek dn.1 x.l i).2) != ((rPeek dx.1 x.l i).2))))), (140, .pv (.lit (.int .i64 (dn.2.1.D.length : Int)))), (141, .pv (.lit (.int .i64 (i3 : Int))))]) (fun i3 v => [(526, mapE kLink vT77.enc dn.1.of_), (26, .cells [.mp 526, .pv (.lit (.int .u64 dn.1.side)), .pv (.lit (.int .i64 dn.1.lost)), .pv (.lit (.bool dn.1.made))]), (28, .cells [sS (some dx.1.items.nil) eItem dx.1.items.D, .pv (.lit (.bool (dx.1.side 0))), .pv (.lit (.bool (dx.1.side 1))), .pv (.lit (.bool (dx.1.side 2))), .pv (.lit (.bool (dx.1.side 3))), .pv (.lit (.bool (dx.1.side 4))), .pv (.lit (.bool (dx.1.side 5))), .pv (.lit (.bool (dx.1.side 6))), .pv (.lit (.bool (dx.1.side 7))), .pv (.lit (.bool (dx.1.side 8))), .pv (.lit (.bool (dx.1.side 9))), .pv (.lit (.bool (dx.1.side 10))), .pv (.lit (.bool (dx.1.side 11))), .pv (.lit (.bool (dx.1.side 12))), .pv (.lit (.bool (dx.1.side 13))), .pv (.lit (.bool (dx.1.side 14))), .pv (.lit (.bool (dx.1.side 15))), .pv (.lit (.bool (dx.1.side 16))), .pv (.lit (.bool (dx.1.side 17))), .pv (.lit (.bool (dx.1.side 18))), .pv (.lit (.bool (dx.1.side 19))), .pv (.lit (.bool (dx.1.side 20))), .pv (.lit (.bool (dx.1.side 21))), .pv (.lit (.bool (dx.1.side 22))), .pv (.lit (.bool (dx.1.side 23))), .pv (.lit (.bool (dx.1.side 24))), .pv (.lit (.bool (dx.1.side 25))), .pv (.lit (.bool (dx.1.side 26))), .pv (.lit (.bool (dx.1.side 27))), .pv (.lit (.bool (dx.1.side 28))), .pv (.lit (.bool (dx.1.side 29))), .pv (.lit (.bool (dx.1.side 30))), .pv (.lit (.bool (dx.1.side 31))), .pv (.lit (.bool (dx.1.side 32))), .pv (.lit (.bool (dx.1.side 33))), .pv (.lit (.bool (dx.1.side 34))), .pv (.lit (.bool (dx.1.side 35))), .pv (.lit (.bool (dx.1.side 36))), .pv (.lit (.bool (dx.1.side 37))), .pv (.lit (.bool (dx.1.side 38))), .pv (.lit (.bool (dx.1.side 39))), .pv (.lit (.bool (dx.1.side 40))), .pv (.lit (.bool (dx.1.side 41))), .pv (.lit (.bool (dx.1.side 42))), .pv (.lit (.bool (dx.1.side 43))), .pv (.lit (.bool (dx.1.side 44))), .pv (.lit (.bool (dx.1.side 45))), .pv (.lit (.bool (dx.1.side 46))), .pv (.lit (.bool (dx.1.side 47))), .pv (.lit (.bool (dx.1.side 48))), .pv (.lit (.bool (dx.1.side 49))), .pv (.lit (.bool (dx.1.side 50))), .pv (.lit (.bool (dx.1.side 51))), .pv (.lit (.bool (dx.1.side 52))), .pv (.lit (.bool (dx.1.side 53))), .pv (.lit (.bool (dx.1.side 54))), .pv (.lit (.bool (dx.1.side 55))), .pv (.lit (.bool (dx.1.side 56))), .pv (.lit (.bool (dx.1.side 57))), .pv (.lit (.bool (dx.1.side 58))), .pv (.lit (.bool (dx.1.side 59))), .pv (.lit (.bool (dx.1.side 60))), .pv (.lit (.bool (dx.1.side 61))), .pv (.lit (.bool (dx.1.side 62))), .pv (.lit (.bool (dx.1.side 63))), .pv (.lit (.int .i64 dx.1.lost))]), (8, .cells [.pv (.lit (.int .i64 x.op)), .pv (.lit (.int .i64 x.i)), .pv (.lit (.int .i64 x.l.from_)), .pv (.lit (.int .i64 x.l.to)), sS (some x.b.nil) (eI .u8) x.b.D, .pv (.lit (.int .u64 x.side))]), (43, .cells (encC (eI .u8) v))]) [8, 26, 28, 43, 526] (fun i3 v => (lawPlays_l3 (fun vc3 => lawPlays_l0 i (l.D.drop (i1 + 1)) (i1 + 1) dn.1 dx.1) (dn.2.1.D.drop i3) i3 v = R) ∧ (v.length = dn.2.1.D.length)) dn.2.1.D ?_ ?_ (fun i3 vc3 h82 hR => ?_)
                            · exact ⟨hR, (by first | omega | (simp <;> omega))⟩
                            · exact ⟨fun b => b, WeakerR.ofL (Ks := [8, 26, 28, 43, 526]) hI ⟨⟨rfl, rfl⟩, ⟨rfl, rfl⟩, ⟨rfl, rfl⟩, ⟨rfl, rfl⟩, ⟨rfl, rfl⟩, ⟨rfl, rfl⟩, ⟨rfl, rfl⟩, ⟨rfl, rfl⟩, ⟨rfl, rfl⟩, ⟨rfl, rfl⟩, ⟨rfl, rfl⟩, ⟨rfl, rfl⟩, ⟨rfl, rfl⟩, ⟨rfl, rfl⟩, ⟨rfl, rfl⟩, ⟨rfl, rfl⟩, ⟨rfl, rfl⟩, ⟨rfl, rfl⟩, ⟨rfl, rfl⟩, ⟨rfl, rfl⟩, ⟨rfl, rfl⟩, ⟨rfl, rfl⟩, ⟨rfl, rfl⟩, ⟨rfl, rfl⟩, ⟨rfl, rfl⟩, ⟨rfl, rfl⟩, ⟨rfl, rfl⟩, ⟨rfl, rfl⟩, ⟨rfl, rfl⟩, ⟨rfl, rfl⟩, ⟨rfl, rfl⟩, ⟨rfl, rfl⟩, ⟨rfl, rfl⟩, ⟨rfl, rfl⟩, trivial⟩ (okH_map rfl rfl rfl (okH_cons rfl rfl rfl rfl (okH_cons rfl rfl rfl rfl (okH_cons rfl rfl rfl rfl (okH_list rfl rfl rfl (okH_nil)))))) rfl⟩
                            obtain ⟨hR, hi_vc3⟩ := hR
                            replace hi_vc3 : vc3.length = dn.2.1.D.length := hi_vc3
                            refine Awp.consP C ?_
                            refine rvP C (.pv (.lit (.bool (decide ((i3 : Int) < (dn.2.1.D.length : Int)))))) ?_
                            refine rvc_nil ?_
                            refine Awp.seq ?_
                            refine Awp.cond (b := (decide ((i3 : Int) < (dn.2.1.D.length : Int)))) rfl (fun h83 => ?_) (fun h83 => ?_)
                            ·
                              have h84 : i3 < dn.2.1.D.length := by have := of_decide_eq_true h83; omega
                              obtain ⟨x2, h85⟩ := getX h84
                              rw [drop_at h85] at hR
                              refine Awp.skip ?_
                              refine Awp.seq ?_
                              refine Awp.block ?_
                              refine Awp.consP C ?_
                              refine rvP C (.pv (.lit (.int .i64 (i3 : Int)))) ?_
                              refine rvP C (.pv (.lit (.int .i64 (i3 : Int)))) ?_
                              refine rvc_nil ?_
                              refine Awp.regionP C ?_
                              refine rvP C (.sl 43 0 dn.2.1.D.length 1 false) ?_
                              refine rvP C (.pv (.lit (.int .i64 (i3 : Int)))) ?_
                              have h86 : vc3[i3]? = some vc3[i3]! := getE (by have := rLen_le dx.1 x.l; have := of_decide_eq_true h3; have := of_decide_eq_false h70; have := beq_iff_eq.1 (not_false_of h75); have := eq_of_bne_false h76; have := eq_of_bne_false h77; have := eq_of_bne_false h78; have := eq_of_bne_false h81; have := of_decide_eq_true h83; omega)
                              refine rvc_un (rexec_prim C (δ := { v := .ptr 43 (0 + i3 * 1) }) rfl rfl rfl rfl ⟨(by have := rLen_le dx.1 x.l; have := of_decide_eq_true h3; have := of_decide_eq_false h70; have := beq_iff_eq.1 (not_false_of h75); have := eq_of_bne_false h76; have := eq_of_bne_false h77; have := eq_of_bne_false h78; have := eq_of_bne_false h81; have := of_decide_eq_true h83; omega), getlt h86 (by first | rfl | omega | (have := rLen_le dx.1 x.l; have := of_decide_eq_true h3; have := of_decide_eq_false h70; have := beq_iff_eq.1 (not_false_of h75); have := eq_of_bne_false h76; have := eq_of_bne_false h77; have := eq_of_bne_false h78; have := eq_of_bne_false h81; have := of_decide_eq_true h83; omega)) (by first | rfl | omega | simp)⟩ rfl ?_)
                              refine rvc_un (rexec_loadE C (e := (eI .u8)) i3 0 (vc3[i3]!) (.pv (.lit (.int .u8 (vc3[i3]!)))) rfl rfl rfl rfl h86 (by simp [eI]) (by decide) (by decide) rfl ?_)
                              refine rvP C (.pv (.lit (.int .u8 (bitI .xor .u8 (vc3[i3]!) 255)))) ?_
                              refine rvc_un (rexec_prim C (δ := { v := .ptr 43 (0 + i3 * 1) }) rfl rfl rfl rfl ⟨(by have := rLen_le dx.1 x.l; have := of_decide_eq_true h3; have := of_decide_eq_false h70; have := beq_iff_eq.1 (not_false_of h75); have := eq_of_bne_false h76; have := eq_of_bne_false h77; have := eq_of_bne_false h78; have := eq_of_bne_false h81; have := of_decide_eq_true h83; omega), getlt h86 (by first | rfl | omega | (have := rLen_le dx.1 x.l; have := of_decide_eq_true h3; have := of_decide_eq_false h70; have := beq_iff_eq.1 (not_false_of h75); have := eq_of_bne_false h76; have := eq_of_bne_false h77; have := eq_of_bne_false h78; have := eq_of_bne_false h81; have := of_decide_eq_true h83; omega)) (by first | rfl | omega | simp)⟩ rfl ?_)
                              refine rvc_un (rexec_storeE C (e := (eI .u8)) i3 0 (vc3[i3]!) (bitI .xor .u8 (vc3[i3]!) 255) rfl rfl rfl rfl h86 (by simp [eI]) rfl rfl rfl (of_decide_eq_true rfl) rfl ?_)
                              refine rvc_nil ?_
                              refine Awp.regionP C ?_
                              refine rvP C (.pv (.lit (.int .i64 (IntKind.i64.wrap ((i3 : Int) + 1))))) ?_
                              refine rvP C (.pv (.lit (.int .i64 (IntKind.i64.wrap ((i3 : Int) + 1))))) ?_
                              refine rvc_nil ?_
                              refine ⟨h84, (vc3.set i3 (bitI .xor .u8 (vc3[i3]!) 255)), ?_, ?_⟩
                              · exact ⟨hR, (by first | omega | (simp <;> omega))⟩
                              · exact ⟨fun b => b, WeakerR.ofL (Ks := [8, 26, 28, 43, 526]) hI ⟨⟨rfl, rfl⟩, ⟨rfl, rfl⟩, ⟨rfl, rfl⟩, ⟨rfl, rfl⟩, ⟨rfl, rfl⟩, ⟨rfl, rfl⟩, ⟨rfl, rfl⟩, ⟨rfl, rfl⟩, ⟨rfl, rfl⟩, ⟨rfl, rfl⟩, ⟨rfl, rfl⟩, ⟨rfl, rfl⟩, ⟨rfl, rfl⟩, ⟨rfl, rfl⟩, ⟨rfl, rfl⟩, ⟨rfl, rfl⟩, ⟨rfl, rfl⟩, ⟨rfl, rfl⟩, ⟨rfl, rfl⟩, ⟨rfl, rfl⟩, ⟨rfl, rfl⟩, ⟨rfl, rfl⟩, ⟨rfl, rfl⟩, ⟨rfl, rfl⟩, ⟨rfl, rfl⟩, ⟨rfl, rfl⟩, ⟨rfl, rfl⟩, ⟨rfl, rfl⟩, ⟨rfl, rfl⟩, ⟨rfl, rfl⟩, ⟨rfl, rfl⟩, ⟨rfl, rfl⟩, ⟨rfl, rfl⟩, ⟨lit_cast (wrap_i64 (by omega) (by omega)), rfl⟩, trivial⟩ (okH_map rfl rfl rfl (okH_cons rfl rfl rfl rfl (okH_cons rfl rfl rfl rfl (okH_cons rfl rfl rfl rfl (okH_list rfl rfl rfl (okH_nil)))))) rfl⟩
                            ·
                              have h84 : ¬ i3 < dn.2.1.D.length := by have := of_decide_eq_false h83; omega
                              rw [drop_end h84] at hR
                              refine Awp.exit ?_
                              refine Awp.regionP C ?_
                              refine rvP C (.pv (.lit (.int .i64 (IntKind.i64.wrap ((i1 : Int) + 1))))) ?_
                              refine rvP C (.pv (.lit (.int .i64 (IntKind.i64.wrap ((i1 : Int) + 1))))) ?_
                              refine rvc_nil ?_
                              refine ⟨h4, (dn.1, dx.1), ?_, ?_⟩
                              · exact ⟨hR, ⟨hf0_dn, hf1_dn, hf0_dx, by omega⟩⟩
                              · exact ⟨fun b => b, WeakerR.ofL (Ks := [26, 28, 526]) hI ⟨⟨rfl, rfl⟩, ⟨rfl, rfl⟩, ⟨rfl, rfl⟩, ⟨rfl, rfl⟩, ⟨rfl, rfl⟩, ⟨lit_cast (wrap_i64 (by omega) (by omega)), rfl⟩, trivial⟩ (okH_map rfl rfl rfl (okH_cons rfl rfl rfl rfl (okH_cons rfl rfl rfl rfl (okH_nil)))) rfl⟩
                      ·
                        replace hR := of_false h79 hR
                        refine rvc_un (rexec_callObjR hP C (fun b => bif b == 0 then 26 else bif b == 1 then 526 else b) [(107, 2)] rfl rfl rfl (nPeekR_calls dn.1 x.l i hf0_dn h79) rfl rfl ⟨rfl, trivial⟩ (of_decide_eq_true rfl) rfl (of_decide_eq_true rfl) (of_decide_eq_true rfl) (allB_cons rfl allB_nil) (allB_cons rfl allB_nil) (allB_cons rfl (allB_cons rfl allB_nil)) ?_ rfl (allB_cons rfl allB_nil))
                        refine rvP C (.tup [.sl 107 0 ((nPeek dn.1 x.l i).1.D.length) 1 false, .pv (.lit (.int .i64 ((nPeek dn.1 x.l i).2)))]) ?_
                        refine rvP C (.sl 107 0 ((nPeek dn.1 x.l i).1.D.length) 1 false) ?_
                        refine rvP C (.pv (.lit (.int .i64 ((nPeek dn.1 x.l i).2)))) ?_
                        refine rvP C (.sl 107 0 ((nPeek dn.1 x.l i).1.D.length) 1 false) ?_
                        refine rvP C (.pv (.lit (.int .i64 ((nPeek dn.1 x.l i).2)))) ?_
                        refine rvc_nil ?_
                        refine Awp.cons C (fun _ => .writer) (by kernel_rfl) ?_
                        refine rvP C (.ptr 28 0) ?_
                        refine rvP C (.ptr 8 2) ?_
                        refine rvP C (.agg [.pv (.lit (.int .i64 x.l.from_)), .pv (.lit (.int .i64 x.l.to))]) ?_
                        refine rvP C (.pv (.lit (.int .i64 i))) ?_
                        refine rvc_un (rexec_callM hP C (b := 28) rfl rfl rfl (rPeek_calls dx.1 x.l i (Nat.le_trans hf0_dx.2 (by have h1_ := (short_ok ‹(!(short (Sl.mk false [l]))) = false› l (by simp)).1; omega))) rfl rfl ?_)
                        refine rvP C (.tup [.pv (.lit (.string ((rPeek dx.1 x.l i).1))), .pv (.lit (.int .i64 ((rPeek dx.1 x.l i).2)))]) ?_
                        refine rvP C (.pv (.lit (.string ((rPeek dx.1 x.l i).1)))) ?_
                        refine rvP C (.pv (.lit (.int .i64 ((rPeek dx.1 x.l i).2)))) ?_
                        refine rvP C (.pv (.lit (.string ((rPeek dx.1 x.l i).1)))) ?_
                        refine rvP C (.pv (.lit (.int .i64 ((rPeek dx.1 x.l i).2)))) ?_
                        refine rvc_nil ?_
                        refine Awp.seq ?_
                        refine Awp.cons C (fun o => match o.dst with | some 119 => .reads [107] | _ => .pure) (by kernel_rfl) ?_
                        refine rvP C (.sl 107 0 ((nPeek dn.1 x.l i).1.D.length) 1 false) ?_
                        refine rvc_un (rexec_convR C rfl rfl rfl (by first | rfl | omega | simp) rfl rfl rfl rfl rfl rfl ?_)
                        refine rvP C (.pv (.lit (.string ((rPeek dx.1 x.l i).1)))) ?_
                        refine rvP C (.pv (.lit (.bool (!((strOf ((nPeek dn.1 x.l i).1.D)).toList == ((rPeek dx.1 x.l i).1).toList))))) ?_
                        refine rvP C (.pv (.lit (.bool (!((strOf ((nPeek dn.1 x.l i).1.D)).toList == ((rPeek dx.1 x.l i).1).toList))))) ?_
                        refine rvc_case 122 (!((strOf ((nPeek dn.1 x.l i).1.D)).toList == ((rPeek dx.1 x.l i).1).toList)) rfl (fun h87 => ?_) (fun h87 => ?_)
                        ·
                          replace hR := of_true h87 hR
                          refine rvS ?_
                          refine rvS ?_
                          refine rvS ?_
                          refine rvP C (.pv (.lit (.bool true))) ?_
                          refine rvc_nil ?_
                          refine Awp.condT (b := true) rfl rfl ?_
                          refine Awp.consP C ?_
                          refine rvP C (.pv (.lit (.bool false))) ?_
                          refine rvc_nil ?_
                          refine Awp.ret ?_
                          subst hR
                          exact ⟨.inl rfl, rfl⟩
                        ·
                          replace hR := of_false h87 hR
                          refine rvO C (.pv (.lit (.int .i64 ((nPeek dn.1 x.l i).2)))) ?_
                          refine rvO C (.pv (.lit (.int .i64 ((rPeek dx.1 x.l i).2)))) ?_
                          refine rvO C (.pv (.lit (.bool (((nPeek dn.1 x.l i).2) != ((rPeek dx.1 x.l i).2))))) ?_
                          refine rvP C (.pv (.lit (.bool (((nPeek dn.1 x.l i).2) != ((rPeek dx.1 x.l i).2))))) ?_
                          refine rvc_nil ?_
                          refine Awp.cond (b := (((nPeek dn.1 x.l i).2) != ((rPeek dx.1 x.l i).2))) rfl (fun h88 => ?_) (fun h88 => ?_)
                          ·
                            replace hR := of_true h88 hR
                            refine Awp.consP C ?_
                            refine rvP C (.pv (.lit (.bool false))) ?_
                            refine rvc_nil ?_
                            refine Awp.ret ?_
                            subst hR
                            exact ⟨.inl rfl, rfl⟩
                          ·
                            replace hR := of_false h88 hR
                            refine Awp.skip ?_
                            refine Awp.seq ?_
                            refine Awp.consP C ?_
                            refine rvP C (.sl 107 0 ((nPeek dn.1 x.l i).1.D.length) 1 false) ?_
                            refine rvP C (.pv (.lit (.int .i64 (((nPeek dn.1 x.l i).1.D.length) : Int)))) ?_
                            refine rvP C (.pv (.lit (.int .i64 0))) ?_
                            refine rvc_nil ?_
                            refine Awp.block ?_
                            refine Awp.forR (σ := ((List Int))) (((nPeek dn.1 x.l i).1.D).length) (fun i3 v => [(1, .pv (.lit (.int .i64 i))), (5, .ptr 26 0), (6, .ptr 28 0), (10, .sl 43 0 dn.2.1.D.length 1 false), (17, .sl 107 0 ((nPeek dn.1 x.l i).1.D.length) 1 false), (29, sS (some l.nil) eDo l.D), (30, .pv (.lit (.int .i64 (l.D.length : Int)))), (31, .pv (.lit (.int .i64 (i1 : Int)))), (73, .pv (.lit (.bool dn.2.2.1))), (74, .pv (.lit (.bool dx.2.2.1))), (75, .pv (.lit (.bool (!(dn.2.2.1 == dx.2.2.1))))), (78, .pv (.lit (.int .i64 dn.2.2.2))), (79, .pv (.lit (.int .i64 dx.2.2.2))), (80, .pv (.lit (.bool (dn.2.2.2 != dx.2.2.2)))), (83, .ptr 26 0), (84, .pv (.lit (.int .i64 (nLost dn.1)))), (85, .ptr 28 0), (86, .ptr 28 0), (87, .ptr 28 65), (88, .pv (.lit (.int .i64 dx.1.lost))), (89, .pv (.lit (.bool ((nLost dn.1) != dx.1.lost)))), (92, .ptr 26 0), (93, .ptr 8 2), (94, .agg [.pv (.lit (.int .i64 x.l.from_)), .pv (.lit (.int .i64 x.l.to))]), (95, .pv (.lit (.int .i64 (nLen dn.1 x.l)))), (96, .ptr 28 0), (97, .ptr 8 2), (98, .agg [.pv (.lit (.int .i64 x.l.from_)), .pv (.lit (.int .i64 x.l.to))]), (99, .pv (.lit (.int .i64 (rLen dx.1 x.l)))), (100, .pv (.lit (.bool ((nLen dn.1 x.l) != (rLen dx.1 x.l))))), (123, .pv (.lit (.int .i64 ((nPeek dn.1 x.l i).2)))), (124, .pv (.lit (.int .i64 ((rPeek dx.1 x.l i).2)))), (125, .pv (.lit (.bool (((nPeek dn.1 x.l i).2) != ((rPeek dx.1 x.l i).2))))), (128, .pv (.lit (.int .i64 (((nPeek dn.1 x.l i).1.D.length) : Int)))), (129, .pv (.lit (.int .i64 (i3 : Int))))]) (fun i3 v => [(526, mapE kLink vT77.enc dn.1.of_), (26, .cells [.mp 526, .pv (.lit (.int .u64 dn.1.side)), .pv (.lit (.int .i64 dn.1.lost)), .pv (.lit (.bool dn.1.made))]), (28, .cells [sS (some dx.1.items.nil) eItem dx.1.items.D, .pv (.lit (.bool (dx.1.side 0))), .pv (.lit (.bool (dx.1.side 1))), .pv (.lit (.bool (dx.1.side 2))), .pv (.lit (.bool (dx.1.side 3))), .pv (.lit (.bool (dx.1.side 4))), .pv (.lit (.bool (dx.1.side 5))), .pv (.lit (.bool (dx.1.side 6))), .pv (.lit (.bool (dx.1.side 7))), .pv (.lit (.bool (dx.1.side 8))), .pv (.lit (.bool (dx.1.side 9))), .pv (.lit (.bool (dx.1.side 10))), .pv (.lit (.bool (dx.1.side 11))), .pv (.lit (.bool (dx.1.side 12))), .pv (.lit (.bool (dx.1.side 13))), .pv (.lit (.bool (dx.1.side 14))), .pv (.lit (.bool (dx.1.side 15))), .pv (.lit (.bool (dx.1.side 16))), .pv (.lit (.bool (dx.1.side 17))), .pv (.lit (.bool (dx.1.side 18))), .pv (.lit (.bool (dx.1.side 19))), .pv (.lit (.bool (dx.1.side 20))), .pv (.lit (.bool (dx.1.side 21))), .pv (.lit (.bool (dx.1.side 22))), .pv (.lit (.bool (dx.1.side 23))), .pv (.lit (.bool (dx.1.side 24))), .pv (.lit (.bool (dx.1.side 25))), .pv (.lit (.bool (dx.1.side 26))), .pv (.lit (.bool (dx.1.side 27))), .pv (.lit (.bool (dx.1.side 28))), .pv (.lit (.bool (dx.1.side 29))), .pv (.lit (.bool (dx.1.side 30))), .pv (.lit (.bool (dx.1.side 31))), .pv (.lit (.bool (dx.1.side 32))), .pv (.lit (.bool (dx.1.side 33))), .pv (.lit (.bool (dx.1.side 34))), .pv (.lit (.bool (dx.1.side 35))), .pv (.lit (.bool (dx.1.side 36))), .pv (.lit (.bool (dx.1.side 37))), .pv (.lit (.bool (dx.1.side 38))), .pv (.lit (.bool (dx.1.side 39))), .pv (.lit (.bool (dx.1.side 40))), .pv (.lit (.bool (dx.1.side 41))), .pv (.lit (.bool (dx.1.side 42))), .pv (.lit (.bool (dx.1.side 43))), .pv (.lit (.bool (dx.1.side 44))), .pv (.lit (.bool (dx.1.side 45))), .pv (.lit (.bool (dx.1.side 46))), .pv (.lit (.bool (dx.1.side 47))), .pv (.lit (.bool (dx.1.side 48))), .pv (.lit (.bool (dx.1.side 49))), .pv (.lit (.bool (dx.1.side 50))), .pv (.lit (.bool (dx.1.side 51))), .pv (.lit (.bool (dx.1.side 52))), .pv (.lit (.bool (dx.1.side 53))), .pv (.lit (.bool (dx.1.side 54))), .pv (.lit (.bool (dx.1.side 55))), .pv (.lit (.bool (dx.1.side 56))), .pv (.lit (.bool (dx.1.side 57))), .pv (.lit (.bool (dx.1.side 58))), .pv (.lit (.bool (dx.1.side 59))), .pv (.lit (.bool (dx.1.side 60))), .pv (.lit (.bool (dx.1.side 61))), .pv (.lit (.bool (dx.1.side 62))), .pv (.lit (.bool (dx.1.side 63))), .pv (.lit (.int .i64 dx.1.lost))]), (8, .cells [.pv (.lit (.int .i64 x.op)), .pv (.lit (.int .i64 x.i)), .pv (.lit (.int .i64 x.l.from_)), .pv (.lit (.int .i64 x.l.to)), sS (some x.b.nil) (eI .u8) x.b.D, .pv (.lit (.int .u64 x.side))]), (43, .cells (encC (eI .u8) dn.2.1.D)), (107, .cells (encC (eI .u8) v))]) [8, 26, 28, 43, 107, 526] (fun i3 v => (lawPlays_l2 (fun vc3 => lawPlays_l3 (fun vc4 => lawPlays_l0 i (l.D.drop (i1 + 1)) (i1 + 1) dn.1 dx.1) dn.2.1.D 0 dn.2.1.D) (((nPeek dn.1 x.l i).1.D).drop i3) i3 v = R) ∧ (v.length = (nPeek dn.1 x.l i).1.D.length)) ((nPeek dn.1 x.l i).1.D) ?_ ?_ (fun i3 vc3 h89 hR => ?_)
                            · exact ⟨hR, (by first | omega | (simp <;> omega))⟩
                            · exact ⟨fun b => b, WeakerR.ofL (Ks := [8, 26, 28, 43, 107, 526]) hI ⟨⟨rfl, rfl⟩, ⟨rfl, rfl⟩, ⟨rfl, rfl⟩, ⟨rfl, rfl⟩, ⟨rfl, rfl⟩, ⟨rfl, rfl⟩, ⟨rfl, rfl⟩, ⟨rfl, rfl⟩, ⟨rfl, rfl⟩, ⟨rfl, rfl⟩, ⟨rfl, rfl⟩, ⟨rfl, rfl⟩, ⟨rfl, rfl⟩, ⟨rfl, rfl⟩, ⟨rfl, rfl⟩, ⟨rfl, rfl⟩, ⟨rfl, rfl⟩, ⟨rfl, rfl⟩, ⟨rfl, rfl⟩, ⟨rfl, rfl⟩, ⟨rfl, rfl⟩, ⟨rfl, rfl⟩, ⟨rfl, rfl⟩, ⟨rfl, rfl⟩, ⟨rfl, rfl⟩, ⟨rfl, rfl⟩, ⟨rfl, rfl⟩, ⟨rfl, rfl⟩, ⟨rfl, rfl⟩, ⟨rfl, rfl⟩, ⟨rfl, rfl⟩, ⟨rfl, rfl⟩, ⟨rfl, rfl⟩, ⟨rfl, rfl⟩, ⟨rfl, rfl⟩, trivial⟩ (okH_map rfl rfl rfl (okH_cons rfl rfl rfl rfl (okH_cons rfl rfl rfl rfl (okH_cons rfl rfl rfl rfl (okH_list rfl rfl rfl (okH_list rfl rfl rfl (okH_nil))))))) rfl⟩
                            obtain ⟨hR, hi_vc3⟩ := hR
                            replace hi_vc3 : vc3.length = (nPeek dn.1 x.l i).1.D.length := hi_vc3
                            have hb2_ := nPeek_len hf0_dn x.l i
                            refine Awp.consP C ?_
                            refine rvP C (.pv (.lit (.bool (decide ((i3 : Int) < (((nPeek dn.1 x.l i).1.D.length) : Int)))))) ?_
                            refine rvc_nil ?_
                            refine Awp.seq ?_
                            refine Awp.cond (b := (decide ((i3 : Int) < (((nPeek dn.1 x.l i).1.D.length) : Int)))) rfl (fun h90 => ?_) (fun h90 => ?_)
                            ·
                              have h91 : i3 < ((nPeek dn.1 x.l i).1.D).length := by have := of_decide_eq_true h90; omega
                              obtain ⟨x2, h92⟩ := getX h91
                              rw [drop_at h92] at hR
                              refine Awp.skip ?_
                              refine Awp.seq ?_
                              refine Awp.block ?_
                              refine Awp.consP C ?_
                              refine rvP C (.pv (.lit (.int .i64 (i3 : Int)))) ?_
                              refine rvP C (.pv (.lit (.int .i64 (i3 : Int)))) ?_
                              refine rvc_nil ?_
                              refine Awp.regionP C ?_
                              refine rvP C (.sl 107 0 ((nPeek dn.1 x.l i).1.D.length) 1 false) ?_
                              refine rvP C (.pv (.lit (.int .i64 (i3 : Int)))) ?_
                              have h93 : vc3[i3]? = some vc3[i3]! := getE (by have := rLen_le dx.1 x.l; have := of_decide_eq_true h3; have := of_decide_eq_false h70; have := beq_iff_eq.1 (not_false_of h75); have := eq_of_bne_false h76; have := eq_of_bne_false h77; have := eq_of_bne_false h78; have := eq_of_bne_false h88; have := of_decide_eq_true h90; omega)
                              refine rvc_un (rexec_prim C (δ := { v := .ptr 107 (0 + i3 * 1) }) rfl rfl rfl rfl ⟨(by have := rLen_le dx.1 x.l; have := of_decide_eq_true h3; have := of_decide_eq_false h70; have := beq_iff_eq.1 (not_false_of h75); have := eq_of_bne_false h76; have := eq_of_bne_false h77; have := eq_of_bne_false h78; have := eq_of_bne_false h88; have := of_decide_eq_true h90; omega), getlt h93 (by first | rfl | omega | (have := rLen_le dx.1 x.l; have := of_decide_eq_true h3; have := of_decide_eq_false h70; have := beq_iff_eq.1 (not_false_of h75); have := eq_of_bne_false h76; have := eq_of_bne_false h77; have := eq_of_bne_false h78; have := eq_of_bne_false h88; have := of_decide_eq_true h90; omega)) (by first | rfl | omega | simp)⟩ rfl ?_)
                              refine rvc_un (rexec_loadE C (e := (eI .u8)) i3 0 (vc3[i3]!) (.pv (.lit (.int .u8 (vc3[i3]!)))) rfl rfl rfl rfl h93 (by simp [eI]) (by decide) (by decide) rfl ?_)
                              refine rvP C (.pv (.lit (.int .u8 (bitI .xor .u8 (vc3[i3]!) 255)))) ?_
                              refine rvc_un (rexec_prim C (δ := { v := .ptr 107 (0 + i3 * 1) }) rfl rfl rfl rfl ⟨(by have := rLen_le dx.1 x.l; have := of_decide_eq_true h3; have := of_decide_eq_false h70; have := beq_iff_eq.1 (not_false_of h75); have := eq_of_bne_false h76; have := eq_of_bne_false h77; have := eq_of_bne_false h78; have := eq_of_bne_false h88; have := of_decide_eq_true h90; omega), getlt h93 (by first | rfl | omega | (have := rLen_le dx.1 x.l; have := of_decide_eq_true h3; have := of_decide_eq_false h70; have := beq_iff_eq.1 (not_false_of h75); have := eq_of_bne_false h76; have := eq_of_bne_false h77; have := eq_of_bne_false h78; have := eq_of_bne_false h88; have := of_decide_eq_true h90; omega)) (by first | rfl | omega | simp)⟩ rfl ?_)
                              refine rvc_un (rexec_storeE C (e := (eI .u8)) i3 0 (vc3[i3]!) (bitI .xor .u8 (vc3[i3]!) 255) rfl rfl rfl rfl h93 (by simp [eI]) rfl rfl rfl (of_decide_eq_true rfl) rfl ?_)
                              refine rvc_nil ?_
                              refine Awp.regionP C ?_
                              refine rvP C (.pv (.lit (.int .i64 (IntKind.i64.wrap ((i3 : Int) + 1))))) ?_
                              refine rvP C (.pv (.lit (.int .i64 (IntKind.i64.wrap ((i3 : Int) + 1))))) ?_
                              refine rvc_nil ?_
                              refine ⟨h91, (vc3.set i3 (bitI .xor .u8 (vc3[i3]!) 255)), ?_, ?_⟩
                              · exact ⟨hR, (by first | omega | (simp <;> omega))⟩
                              · exact ⟨fun b => b, WeakerR.ofL (Ks := [8, 26, 28, 43, 107, 526]) hI ⟨⟨rfl, rfl⟩, ⟨rfl, rfl⟩, ⟨rfl, rfl⟩, ⟨rfl, rfl⟩, ⟨rfl, rfl⟩, ⟨rfl, rfl⟩, ⟨rfl, rfl⟩, ⟨rfl, rfl⟩, ⟨rfl, rfl⟩, ⟨rfl, rfl⟩, ⟨rfl, rfl⟩, ⟨rfl, rfl⟩, ⟨rfl, rfl⟩, ⟨rfl, rfl⟩, ⟨rfl, rfl⟩, ⟨rfl, rfl⟩, ⟨rfl, rfl⟩, ⟨rfl, rfl⟩, ⟨rfl, rfl⟩, ⟨rfl, rfl⟩, ⟨rfl, rfl⟩, ⟨rfl, rfl⟩, ⟨rfl, rfl⟩, ⟨rfl, rfl⟩, ⟨rfl, rfl⟩, ⟨rfl, rfl⟩, ⟨rfl, rfl⟩, ⟨rfl, rfl⟩, ⟨rfl, rfl⟩, ⟨rfl, rfl⟩, ⟨rfl, rfl⟩, ⟨rfl, rfl⟩, ⟨rfl, rfl⟩, ⟨rfl, rfl⟩, ⟨lit_cast (wrap_i64 (by omega) (by omega)), rfl⟩, trivial⟩ (okH_map rfl rfl rfl (okH_cons rfl rfl rfl rfl (okH_cons rfl rfl rfl rfl (okH_cons rfl rfl rfl rfl (okH_list rfl rfl rfl (okH_list rfl rfl rfl (okH_nil))))))) rfl⟩
                            ·
                              have h91 : ¬ i3 < ((nPeek dn.1 x.l i).1.D).length := by have := of_decide_eq_false h90; omega
                              rw [drop_end h91] at hR
                              refine Awp.exit ?_
                              refine Awp.consP C ?_
                              refine rvP C (.sl 43 0 dn.2.1.D.length 1 false) ?_
                              refine rvP C (.pv (.lit (.int .i64 (dn.2.1.D.length : Int)))) ?_
                              refine rvP C (.pv (.lit (.int .i64 0))) ?_
                              refine rvc_nil ?_
                              refine Awp.block ?_
                              refine Awp.forR (σ := ((List Int))) (dn.2.1.D.length) (fun i4 v => [(1, .pv (.lit (.int .i64 i))), (5, .ptr 26 0), (6, .ptr 28 0), (10, .sl 43 0 dn.2.1.D.length 1 false), (29, sS (some l.nil) eDo l.D), (30, .pv (.lit (.int .i64 (l.D.length : Int)))), (31, .pv (.lit (.int .i64 (i1 : Int)))), (73, .pv (.lit (.bool dn.2.2.1))), (74, .pv (.lit (.bool dx.2.2.1))), (75, .pv (.lit (.bool (!(dn.2.2.1 == dx.2.2.1))))), (78, .pv (.lit (.int .i64 dn.2.2.2))), (79, .pv (.lit (.int .i64 dx.2.2.2))), (80, .pv (.lit (.bool (dn.2.2.2 != dx.2.2.2)))), (83, .ptr 26 0), (84, .pv (.lit (.int .i64 (nLost dn.1)))), (85, .ptr 28 0), (86, .ptr 28 0), (87, .ptr 28 65), (88, .pv (.lit (.int .i64 dx.1.lost))), (89, .pv (.lit (.bool ((nLost dn.1) != dx.1.lost)))), (92, .ptr 26 0), (93, .ptr 8 2), (94, .agg [.pv (.lit (.int .i64 x.l.from_)), .pv (.lit (.int .i64 x.l.to))]), (95, .pv (.lit (.int .i64 (nLen dn.1 x.l)))), (96, .ptr 28 0), (97, .ptr 8 2), (98, .agg [.pv (.lit (.int .i64 x.l.from_)), .pv (.lit (.int .i64 x.l.to))]), (99, .pv (.lit (.int .i64 (rLen dx.1 x.l)))), (100, .pv (.lit (.bool ((nLen dn.1 x.l) != (rLen dx.1 x.l))))), (123, .pv (.lit (.int .i64 ((nPeek dn.1 x.l i).2)))), (124, .pv (.lit (.int .i64 ((rPeek dx.1 x.l i).2)))), (125, .pv (.lit (.bool (((nPeek dn.1 x.l i).2) != ((rPeek dx.1 x.l i).2))))), (140, .pv (.lit (.int .i64 (dn.2.1.D.length : Int)))), (141, .pv (.lit (.int .i64 (i4 : Int))))]) (fun i4 v => [(526, mapE kLink vT77.enc dn.1.of_), (26, .cells [.mp 526, .pv (.lit (.int .u64 dn.1.side)), .pv (.lit (.int .i64 dn.1.lost)), .pv (.lit (.bool dn.1.made))]), (28, .cells [sS (some dx.1.items.nil) eItem dx.1.items.D, .pv (.lit (.bool (dx.1.side 0))), .pv (.lit (.bool (dx.1.side 1))), .pv (.lit (.bool (dx.1.side 2))), .pv (.lit (.bool (dx.1.side 3))), .pv (.lit (.bool (dx.1.side 4))), .pv (.lit (.bool (dx.1.side 5))), .pv (.lit (.bool (dx.1.side 6))), .pv (.lit (.bool (dx.1.side 7))), .pv (.lit (.bool (dx.1.side 8))), .pv (.lit (.bool (dx.1.side 9))), .pv (.lit (.bool (dx.1.side 10))), .pv (.lit (.bool (dx.1.side 11))), .pv (.lit (.bool (dx.1.side 12))), .pv (.lit (.bool (dx.1.side 13))), .pv (.lit (.bool (dx.1.side 14))), .pv (.lit (.bool (dx.1.side 15))), .pv (.lit (.bool (dx.1.side 16))), .pv (.lit (.bool (dx.1.side 17))), .pv (.lit (.bool (dx.1.side 18))), .pv (.lit (.bool (dx.1.side 19))), .pv (.lit (.bool (dx.1.side 20))), .pv (.lit (.bool (dx.1.side 21))), .pv (.lit (.bool (dx.1.side 22))), .pv (.lit (.bool (dx.1.side 23))), .pv (.lit (.bool (dx.1.side 24))), .pv (.lit (.bool (dx.1.side 25))), .pv (.lit (.bool (dx.1.side 26))), .pv (.lit (.bool (dx.1.side 27))), .pv (.lit (.bool (dx.1.side 28))), .pv (.lit (.bool (dx.1.side 29))), .pv (.lit (.bool (dx.1.side 30))), .pv (.lit (.bool (dx.1.side 31))), .pv (.lit (.bool (dx.1.side 32))), .pv (.lit (.bool (dx.1.side 33))), .pv (.lit (.bool (dx.1.side 34))), .pv (.lit (.bool (dx.1.side 35))), .pv (.lit (.bool (dx.1.side 36))), .pv (.lit (.bool (dx.1.side 37))), .pv (.lit (.bool (dx.1.side 38))), .pv (.lit (.bool (dx.1.side 39))), .pv (.lit (.bool (dx.1.side 40))), .pv (.lit (.bool (dx.1.side 41))), .pv (.lit (.bool (dx.1.side 42))), .pv (.lit (.bool (dx.1.side 43))), .pv (.lit (.bool (dx.1.side 44))), .pv (.lit (.bool (dx.1.side 45))), .pv (.lit (.bool (dx.1.side 46))), .pv (.lit (.bool (dx.1.side 47))), .pv (.lit (.bool (dx.1.side 48))), .pv (.lit (.bool (dx.1.side 49))), .pv (.lit (.bool (dx.1.side 50))), .pv (.lit (.bool (dx.1.side 51))), .pv (.lit (.bool (dx.1.side 52))), .pv (.lit (.bool (dx.1.side 53))), .pv (.lit (.bool (dx.1.side 54))), .pv (.lit (.bool (dx.1.side 55))), .pv (.lit (.bool (dx.1.side 56))), .pv (.lit (.bool (dx.1.side 57))), .pv (.lit (.bool (dx.1.side 58))), .pv (.lit (.bool (dx.1.side 59))), .pv (.lit (.bool (dx.1.side 60))), .pv (.lit (.bool (dx.1.side 61))), .pv (.lit (.bool (dx.1.side 62))), .pv (.lit (.bool (dx.1.side 63))), .pv (.lit (.int .i64 dx.1.lost))]), (8, .cells [.pv (.lit (.int .i64 x.op)), .pv (.lit (.int .i64 x.i)), .pv (.lit (.int .i64 x.l.from_)), .pv (.lit (.int .i64 x.l.to)), sS (some x.b.nil) (eI .u8) x.b.D, .pv (.lit (.int .u64 x.side))]), (43, .cells (encC (eI .u8) v))]) [8, 26, 28, 43, 526] (fun i4 v => (lawPlays_l3 (fun vc4 => lawPlays_l0 i (l.D.drop (i1 + 1)) (i1 + 1) dn.1 dx.1) (dn.2.1.D.drop i4) i4 v = R) ∧ (v.length = dn.2.1.D.length)) dn.2.1.D ?_ ?_ (fun i4 vc4 h94 hR => ?_)
                              · exact ⟨hR, (by first | omega | (simp <;> omega))⟩
                              · exact ⟨fun b => b, WeakerR.ofL (Ks := [8, 26, 28, 43, 526]) hI ⟨⟨rfl, rfl⟩, ⟨rfl, rfl⟩, ⟨rfl, rfl⟩, ⟨rfl, rfl⟩, ⟨rfl, rfl⟩, ⟨rfl, rfl⟩, ⟨rfl, rfl⟩, ⟨rfl, rfl⟩, ⟨rfl, rfl⟩, ⟨rfl, rfl⟩, ⟨rfl, rfl⟩, ⟨rfl, rfl⟩, ⟨rfl, rfl⟩, ⟨rfl, rfl⟩, ⟨rfl, rfl⟩, ⟨rfl, rfl⟩, ⟨rfl, rfl⟩, ⟨rfl, rfl⟩, ⟨rfl, rfl⟩, ⟨rfl, rfl⟩, ⟨rfl, rfl⟩, ⟨rfl, rfl⟩, ⟨rfl, rfl⟩, ⟨rfl, rfl⟩, ⟨rfl, rfl⟩, ⟨rfl, rfl⟩, ⟨rfl, rfl⟩, ⟨rfl, rfl⟩, ⟨rfl, rfl⟩, ⟨rfl, rfl⟩, ⟨rfl, rfl⟩, ⟨rfl, rfl⟩, ⟨rfl, rfl⟩, ⟨rfl, rfl⟩, trivial⟩ (okH_map rfl rfl rfl (okH_cons rfl rfl rfl rfl (okH_cons rfl rfl rfl rfl (okH_cons rfl rfl rfl rfl (okH_list rfl rfl rfl (okH_nil)))))) rfl⟩
                              obtain ⟨hR, hi_vc4⟩ := hR
                              replace hi_vc4 : vc4.length = dn.2.1.D.length := hi_vc4
                              refine Awp.consP C ?_
                              refine rvP C (.pv (.lit (.bool (decide ((i4 : Int) < (dn.2.1.D.length : Int)))))) ?_
                              refine rvc_nil ?_
                              refine Awp.seq ?_
                              refine Awp.cond (b := (decide ((i4 : Int) < (dn.2.1.D.length : Int)))) rfl (fun h95 => ?_) (fun h95 => ?_)
                              ·
                                have h96 : i4 < dn.2.1.D.length := by have := of_decide_eq_true h95; omega
                                obtain ⟨x3, h97⟩ := getX h96
                                rw [drop_at h97] at hR
                                refine Awp.skip ?_
                                refine Awp.seq ?_
                                refine Awp.block ?_
                                refine Awp.consP C ?_
                                refine rvP C (.pv (.lit (.int .i64 (i4 : Int)))) ?_
                                refine rvP C (.pv (.lit (.int .i64 (i4 : Int)))) ?_
                                refine rvc_nil ?_
                                refine Awp.regionP C ?_
                                refine rvP C (.sl 43 0 dn.2.1.D.length 1 false) ?_
                                refine rvP C (.pv (.lit (.int .i64 (i4 : Int)))) ?_
                                have h98 : vc4[i4]? = some vc4[i4]! := getE (by have := rLen_le dx.1 x.l; have := of_decide_eq_true h3; have := of_decide_eq_false h70; have := beq_iff_eq.1 (not_false_of h75); have := eq_of_bne_false h76; have := eq_of_bne_false h77; have := eq_of_bne_false h78; have := eq_of_bne_false h88; have := of_decide_eq_false h90; have := of_decide_eq_true h95; omega)
                                refine rvc_un (rexec_prim C (δ := { v := .ptr 43 (0 + i4 * 1) }) rfl rfl rfl rfl ⟨(by have := rLen_le dx.1 x.l; have := of_decide_eq_true h3; have := of_decide_eq_false h70; have := beq_iff_eq.1 (not_false_of h75); have := eq_of_bne_false h76; have := eq_of_bne_false h77; have := eq_of_bne_false h78; have := eq_of_bne_false h88; have := of_decide_eq_false h90; have := of_decide_eq_true h95; omega), getlt h98 (by first | rfl | omega | (have := rLen_le dx.1 x.l; have := of_decide_eq_true h3; have := of_decide_eq_false h70; have := beq_iff_eq.1 (not_false_of h75); have := eq_of_bne_false h76; have := eq_of_bne_false h77; have := eq_of_bne_false h78; have := eq_of_bne_false h88; have := of_decide_eq_false h90; have := of_decide_eq_true h95; omega)) (by first | rfl | omega | simp)⟩ rfl ?_)
                                refine rvc_un (rexec_loadE C (e := (eI .u8)) i4 0 (vc4[i4]!) (.pv (.lit (.int .u8 (vc4[i4]!)))) rfl rfl rfl rfl h98 (by simp [eI]) (by decide) (by decide) rfl ?_)
                                refine rvP C (.pv (.lit (.int .u8 (bitI .xor .u8 (vc4[i4]!) 255)))) ?_
                                refine rvc_un (rexec_prim C (δ := { v := .ptr 43 (0 + i4 * 1) }) rfl rfl rfl rfl ⟨(by have := rLen_le dx.1 x.l; have := of_decide_eq_true h3; have := of_decide_eq_false h70; have := beq_iff_eq.1 (not_false_of h75); have := eq_of_bne_false h76; have := eq_of_bne_false h77; have := eq_of_bne_false h78; have := eq_of_bne_false h88; have := of_decide_eq_false h90; have := of_decide_eq_true h95; omega), getlt h98 (by first | rfl | omega | (have := rLen_le dx.1 x.l; have := of_decide_eq_true h3; have := of_decide_eq_false h70; have := beq_iff_eq.1 (not_false_of h75); have := eq_of_bne_false h76; have := eq_of_bne_false h77; have := eq_of_bne_false h78; have := eq_of_bne_false h88; have := of_decide_eq_false h90; have := of_decide_eq_true h95; omega)) (by first | rfl | omega | simp)⟩ rfl ?_)
                                refine rvc_un (rexec_storeE C (e := (eI .u8)) i4 0 (vc4[i4]!) (bitI .xor .u8 (vc4[i4]!) 255) rfl rfl rfl rfl h98 (by simp [eI]) rfl rfl rfl (of_decide_eq_true rfl) rfl ?_)
                                refine rvc_nil ?_
                                refine Awp.regionP C ?_
                                refine rvP C (.pv (.lit (.int .i64 (IntKind.i64.wrap ((i4 : Int) + 1))))) ?_
                                refine rvP C (.pv (.lit (.int .i64 (IntKind.i64.wrap ((i4 : Int) + 1))))) ?_
                                refine rvc_nil ?_
                                refine ⟨h96, (vc4.set i4 (bitI .xor .u8 (vc4[i4]!) 255)), ?_, ?_⟩
                                · exact ⟨hR, (by first | omega | (simp <;> omega))⟩
                                · exact ⟨fun b => b, WeakerR.ofL (Ks := [8, 26, 28, 43, 526]) hI ⟨⟨rfl, rfl⟩, ⟨rfl, rfl⟩, ⟨rfl, rfl⟩, ⟨rfl, rfl⟩, ⟨rfl, rfl⟩, ⟨rfl, rfl⟩, ⟨rfl, rfl⟩, ⟨rfl, rfl⟩, ⟨rfl, rfl⟩, ⟨rfl, rfl⟩, ⟨rfl, rfl⟩, ⟨rfl, rfl⟩, ⟨rfl, rfl⟩, ⟨rfl, rfl⟩, ⟨rfl, rfl⟩, ⟨rfl, rfl⟩, ⟨rfl, rfl⟩, ⟨rfl, rfl⟩, ⟨rfl, rfl⟩, ⟨rfl, rfl⟩, ⟨rfl, rfl⟩, ⟨rfl, rfl⟩, ⟨rfl, rfl⟩, ⟨rfl, rfl⟩, ⟨rfl, rfl⟩, ⟨rfl, rfl⟩, ⟨rfl, rfl⟩, ⟨rfl, rfl⟩, ⟨rfl, rfl⟩, ⟨rfl, rfl⟩, ⟨rfl, rfl⟩, ⟨rfl, rfl⟩, ⟨rfl, rfl⟩, ⟨lit_cast (wrap_i64 (by omega) (by omega)), rfl⟩, trivial⟩ (okH_map rfl rfl rfl (okH_cons rfl rfl rfl rfl (okH_cons rfl rfl rfl rfl (okH_cons rfl rfl rfl rfl (okH_list rfl rfl rfl (okH_nil)))))) rfl⟩
                              ·
                                have h96 : ¬ i4 < dn.2.1.D.length := by have := of_decide_eq_false h95; omega
                                rw [drop_end h96] at hR
                                refine Awp.exit ?_
                                refine Awp.regionP C ?_
                                refine rvP C (.pv (.lit (.int .i64 (IntKind.i64.wrap ((i1 : Int) + 1))))) ?_
                                refine rvP C (.pv (.lit (.int .i64 (IntKind.i64.wrap ((i1 : Int) + 1))))) ?_
                                refine rvc_nil ?_
                                refine ⟨h4, (dn.1, dx.1), ?_, ?_⟩
                                · exact ⟨hR, ⟨hf0_dn, hf1_dn, hf0_dx, by omega⟩⟩
                                · exact ⟨fun b => b, WeakerR.ofL (Ks := [26, 28, 526]) hI ⟨⟨rfl, rfl⟩, ⟨rfl, rfl⟩, ⟨rfl, rfl⟩, ⟨rfl, rfl⟩, ⟨rfl, rfl⟩, ⟨lit_cast (wrap_i64 (by omega) (by omega)), rfl⟩, trivial⟩ (okH_map rfl rfl rfl (okH_cons rfl rfl rfl rfl (okH_cons rfl rfl rfl rfl (okH_nil)))) rfl⟩
    ·
      have h4 : ¬ i1 < l.D.length := by have := of_decide_eq_false h3; omega
      rw [drop_end h4] at hR
      refine Awp.exit ?_
      refine Awp.cons C (fun _ => .writer) (by kernel_rfl) ?_
      refine rvP C (.ptr 26 0) ?_
      refine rvc_un (rexec_callObj hP C (fun b => bif b == 0 then 26 else bif b == 1 then 526 else b) [] rfl rfl rfl (nBusy_calls vc hVo hVf) rfl rfl ⟨rfl, trivial⟩ (of_decide_eq_true rfl) rfl (of_decide_eq_true rfl) (of_decide_eq_true rfl) allB_nil allB_nil (allB_cons rfl allB_nil) ?_ rfl (allB_cons rfl allB_nil))
      refine rvP C (.ptr 28 0) ?_
      refine rvc_un (rexec_callM hP C (b := 28) rfl rfl rfl (rBusy_calls vc1 (Nat.le_trans hVx.2 (by have h1_ := (short_ok ‹(!(short (Sl.mk false [l]))) = false› l (by simp)).1; omega))) rfl rfl ?_)
      refine rvc_un (rexec_call hP C rfl rfl rfl (eqLinks_calls (nBusy vc) (rBusy vc1) (by show ((nBusy vc).D).length ≤ 9223372036854775807; have := nBusy_len vc; have := of_decide_eq_false h3; omega)) ?_)
      refine rvP C (.pv (.lit (.bool (eqLinks (nBusy vc) (rBusy vc1))))) ?_
      refine rvc_case 157 (eqLinks (nBusy vc) (rBusy vc1)) rfl (fun h99 => ?_) (fun h99 => ?_)
      ·
        replace hR := of_true h99 hR
        refine rvc_open rfl rfl rfl (rexec_call hP C rfl rfl rfl (awake_calls ) ?_)
        refine rvP C (.pv (.lit (.bool (awake )))) ?_
        refine rvP C (.pv (.lit (.bool (awake )))) ?_
        refine rvc_nil ?_
        refine Awp.ret ?_
        subst hR
        exact ⟨.inl rfl, rfl⟩
      ·
        replace hR := of_false h99 hR
        refine rvS ?_
        refine rvP C (.pv (.lit (.bool false))) ?_
        refine rvP C (.pv (.lit (.bool false))) ?_
        refine rvc_nil ?_
        refine Awp.ret ?_
        subst hR
        exact ⟨.inl rfl, rfl⟩
theorem lawPlays_l1_true {kk : List Int → Bool} (h : ∀ v, kk v = true) : ∀ (D : List Int) (j : Nat) (v : List Int), lawPlays_l1 kk D j v = true
  | [], _, v => h v
  | _ :: D, j, _ => lawPlays_l1_true h D (j + 1) _
theorem lawPlays_l2_true {kk : List Int → Bool} (h : ∀ v, kk v = true) : ∀ (D : List Int) (j : Nat) (v : List Int), lawPlays_l2 kk D j v = true
  | [], _, v => h v
  | _ :: D, j, _ => lawPlays_l2_true h D (j + 1) _
theorem lawPlays_l3_true {kk : List Int → Bool} (h : ∀ v, kk v = true) : ∀ (D : List Int) (j : Nat) (v : List Int), lawPlays_l3 kk D j v = true
  | [], _, v => h v
  | _ :: D, j, _ => lawPlays_l3_true h D (j + 1) _
theorem Rel.nlen {N : Nat} {n : Net} {x : Net51} (h : Rel N n x) (hN : N ≤ 1000000) (l : Link) : nLen n l = rLen x l := by
  have hd : nDead n = false := by unfold nDead; rw [h.made]; rfl
  rw [rLen_eq x l (Nat.le_trans h.okR.2 hN), ← h.len l]
  unfold nLen
  rw [hd, cond_false]
  rfl
theorem Rel.nlost {N : Nat} {n : Net} {x : Net51} (h : Rel N n x) : nLost n = x.lost := by
  have hd : nDead n = false := by unfold nDead; rw [h.made]; rfl
  unfold nLost; rw [hd, cond_false]; exact h.lost
theorem lawPlays_l0_true (i : Int) : ∀ (ls : List Do) (j N : Nat) (n : Net) (x : Net51), Rel N n x → N + ls.length ≤ 1000000 → (∀ y ∈ ls, goodD y) → lawPlays_l0 i ls j n x = true
  | [], _, N, n, x, h, hN, _ => by
    unfold lawPlays_l0
    rw [eqLinks_same (h.busy (by simpa using hN)), awake_true]; rfl
  | k :: ls, j, N, n, x, h, hN, hw => by
    have hk := hw k (List.mem_cons_self ..)
    rw [List.length_cons] at hN
    have hs := h.step (by omega) k hk.1 hk.2
    have r := lawPlays_l0_true i ls (j + 1) (N + 1) _ _ hs.1 (by omega) fun y hy => hw y (List.mem_cons_of_mem _ hy)
    obtain ⟨s1, s2, s3⟩ := hs.2
    have hl := hs.1.nlost
    have hn := hs.1.nlen (by omega) k.l
    obtain ⟨p1, p2⟩ := hs.1.peek (by omega) k.l i
    have eT : k.b.nil = true → Do.mk k.op k.i k.l (Sl.mk true []) k.side = k := fun hb => by
      have : Sl.mk true [] = k.b := by rw [← hb, ← hk.1 hb]
      rw [this]
    have eF : k.b.nil = false → Do.mk k.op k.i k.l (Sl.mk false k.b.D) k.side = k := fun hb => by
      have : Sl.mk false k.b.D = k.b := by rw [← hb]
      rw [this]
    have c1 := does_nilD n k
    have c2 := nPeek_nilD (does n k).1 k.l i
    unfold lawPlays_l0
    cases hb : k.b.nil
    · rw [eF hb]
      generalize does n k = d at *
      generalize also x k = a at *
      generalize nPeek d.1 k.l i = p at *
      generalize rPeek a.1 k.l i = q at *
      cases hd : d.2.1.nil <;> cases hp : p.1.nil <;> simp only [cond_true, cond_false]
      all_goals refine lawPlays_l1_true (fun _ => ?_) _ _ _
      all_goals first | rw [c1 hd] at s1 | skip
      all_goals first | rw [c2 hp] at p1 | skip
      all_goals simp only [s1, s2, s3, hl, hn, p1, p2, beq_self_eq_true, bne_self_eq_false, Bool.not_true, cond_false]
      · exact lawPlays_l2_true (fun _ => lawPlays_l3_true (fun _ => r) _ _ _) _ _ _
      · exact lawPlays_l3_true (fun _ => r) _ _ _
      · exact lawPlays_l2_true (fun _ => r) _ _ _
      · rw [s1.symm.trans p1]
        simp only [beq_self_eq_true, Bool.not_true, cond_false]
        exact r
    · rw [eT hb]
      generalize does n k = d at *
      generalize also x k = a at *
      generalize nPeek d.1 k.l i = p at *
      generalize rPeek a.1 k.l i = q at *
      cases hd : d.2.1.nil <;> cases hp : p.1.nil <;> simp only [cond_true, cond_false]
      all_goals first | rw [c1 hd] at s1 | skip
      all_goals first | rw [c2 hp] at p1 | skip
      all_goals simp only [s1, s2, s3, hl, hn, p1, p2, beq_self_eq_true, bne_self_eq_false, Bool.not_true, cond_false]
      · exact lawPlays_l2_true (fun _ => lawPlays_l3_true (fun _ => r) _ _ _) _ _ _
      · exact lawPlays_l3_true (fun _ => r) _ _ _
      · exact lawPlays_l2_true (fun _ => r) _ _ _
      · rw [s1.symm.trans p1]
        simp only [beq_self_eq_true, Bool.not_true, cond_false]
        exact r
theorem lawPlays_true (l : Sl Do) (i : Int) (w : ∀ y ∈ l.D, goodD y) : lawPlays l i = true := by
  unfold lawPlays
  cases h : !(short (Sl.mk false [l]))
  · rw [cond_false]
    have h1 := (short_ok h l (by simp)).1
    exact lawPlays_l0_true i l.D 0 0 _ _ rel_new (by omega) w
  · exact awake_true
theorem linksPlays_calls (l : Sl Do) (w : WT22 l) (i : Int) (_wi : (Lit.int .i64 i).wf = true) : PCalls Try.prog 6 [sS (some l.nil) eDo l.D, .pv (.lit (.int .i64 i))] (.pv (.bool true)) := by
  have r := lawPlays_calls l i (Nat.le_trans w.1 (by decide))
  rw [lawPlays_true l i w.goods] at r
  exact r
theorem own : ownKnob Try.prog.godebug = none := by kernel_rfl
theorem laidOut : laidOutB Try.prog = true := by kernel_rfl
end Go.Proofs.Ytpeeofofagfooaa
