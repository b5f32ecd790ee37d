import Derived.Test.YtpeeofofagfooaaM5
import Derived.Test.YtpeeofofagfooaaM2
/- A law: refused. No conditions. -/
namespace Go.Proofs.Ytpeeofofagfooaa
open Go.Am
def lawRefused_l0 (k : Do) : List Do → Nat → Net → Net51 → Bool
  | [], _, vc, vc1 => (bif ((does vc k).2.2.2 == 0) then (awake ) else (bif ((does vc k).2.2.2 == 7) then (bif (decide ((IntKind.i64.wrap ((IntKind.u64.wrap k.op).tmod 9)) < 3)) then (bif (same (does vc k).1 (Net51.mk vc1.items vc1.side (IntKind.i64.wrap ((nLost vc) + 1)))) then (awake ) else false) else (bif (same (does vc k).1 (Net51.mk vc1.items vc1.side (nLost vc))) then (awake ) else false)) else (bif (same (does vc k).1 (Net51.mk vc1.items vc1.side (nLost vc))) then (awake ) else false)))
  | x :: xs, i, vc, vc1 => lawRefused_l0 k xs (i + 1) (does vc x).1 (also vc1 x).1
def lawRefused (l : (Sl Do)) (k : Do) : Bool :=
  (bif (!(short (Sl.mk false [l, (Sl.mk false [k])]))) then (awake ) else lawRefused_l0 k l.D 0 newN (Net51.mk (Sl.mk true []) (ofL [false, false, false, false, false, false, false, false, false, false, false, false, false, false, false, false, false, false, false, false, false, false, false, false, false, false, false, false, false, false, false, false, false, false, false, false, false, false, false, false, false, false, false, false, false, false, false, false, false, false, false, false, false, false, false, false, false, false, false, false, false, false, false, false]) 0))
set_option maxHeartbeats 4000000 in
theorem lawRefused_calls (l : (Sl Do)) (k : Do) (hl1 : l.D.length ≤ 9223372036854775807) (_hl2 : k.b.D.length ≤ 9223372036854775807) : PCalls Try.prog 7 [sS (some l.nil) eDo l.D, .agg [.pv (.lit (.int .i64 k.op)), .pv (.lit (.int .i64 k.i)), .pv (.lit (.int .i64 k.l.from_)), .pv (.lit (.int .i64 k.l.to)), sS (some k.b.nil) (eI .u8) k.b.D, .pv (.lit (.int .u64 k.side))]] (.pv (.lit (.bool (lawRefused l k)))) := by
 generalize hR : lawRefused l k = R
 refine PCalls.of_body tabOk Try.func7 rfl rfl rfl rfl rfl mixed fun E hP C hI => ?_
 refine Awp.consP C ?_
 refine rvc_un (rexec_prim C (δ := { v := .ptr 3 0, new := [(3, .cells [.pv (.lit (.int .i64 k.op)), .pv (.lit (.int .i64 k.i)), .pv (.lit (.int .i64 k.l.from_)), .pv (.lit (.int .i64 k.l.to)), sS (some k.b.nil) (eI .u8) k.b.D, .pv (.lit (.int .u64 k.side))])] }) rfl rfl rfl rfl trivial rfl ?_)
 refine rvP C (.pv (.lit (.bool false))) ?_
 refine rvc_nil ?_
 refine Awp.seq ?_
 refine Awp.consP C ?_
 refine rvP C (sS (some l.nil) eDo l.D) ?_
 refine rvP C (.agg [.pv (.lit (.int .i64 k.op)), .pv (.lit (.int .i64 k.i)), .pv (.lit (.int .i64 k.l.from_)), .pv (.lit (.int .i64 k.l.to)), sS (some k.b.nil) (eI .u8) k.b.D, .pv (.lit (.int .u64 k.side))]) ?_
 refine rvc_un (rexec_buildSliceF C eDo [k] rfl rfl rfl rfl rfl rfl rfl (by decide) rfl ?_)
 refine rvc_un (rexec_buildSliceF C (eSl eDo) [l, (Sl.mk false [k])] rfl rfl rfl rfl rfl rfl rfl (by decide) rfl ?_)
 refine rvc_un (rexec_call hP C rfl rfl rfl (short_calls (Sl.mk false [l, (Sl.mk false [k])]) (by simp)) ?_)
 refine rvP C (.pv (.lit (.bool (!(short (Sl.mk false [l, (Sl.mk false [k])])))))) ?_
 refine rvc_nil ?_
 refine Awp.cond (b := (!(short (Sl.mk false [l, (Sl.mk false [k])])))) rfl (fun h1 => ?_) (fun h1 => ?_)
 ·
  replace hR := of_true h1 hR
  refine Awp.consP C ?_
  refine rvc_un (rexec_call hP C rfl rfl rfl (awake_calls ) ?_)
  refine rvP C (.pv (.lit (.bool (awake )))) ?_
  refine rvc_nil ?_
  refine Awp.ret ?_
  subst hR
  exact ⟨.inl rfl, rfl⟩
 ·
  replace hR := of_false h1 hR
  refine Awp.skip ?_
  refine Awp.cons C (fun _ => .quiet) (by kernel_rfl) ?_
  refine rvc_un (rexec_callNew hP C 520 rfl rfl rfl rfl rfl rfl newN_calls ?_)
  refine rvP C (.agg [sS (some true) eItem [], .pv (.lit (.bool false)), .pv (.lit (.bool false)), .pv (.lit (.bool false)), .pv (.lit (.bool false)), .pv (.lit (.bool false)), .pv (.lit (.bool false)), .pv (.lit (.bool false)), .pv (.lit (.bool false)), .pv (.lit (.bool false)), .pv (.lit (.bool false)), .pv (.lit (.bool false)), .pv (.lit (.bool false)), .pv (.lit (.bool false)), .pv (.lit (.bool false)), .pv (.lit (.bool false)), .pv (.lit (.bool false)), .pv (.lit (.bool false)), .pv (.lit (.bool false)), .pv (.lit (.bool false)), .pv (.lit (.bool false)), .pv (.lit (.bool false)), .pv (.lit (.bool false)), .pv (.lit (.bool false)), .pv (.lit (.bool false)), .pv (.lit (.bool false)), .pv (.lit (.bool false)), .pv (.lit (.bool false)), .pv (.lit (.bool false)), .pv (.lit (.bool false)), .pv (.lit (.bool false)), .pv (.lit (.bool false)), .pv (.lit (.bool false)), .pv (.lit (.bool false)), .pv (.lit (.bool false)), .pv (.lit (.bool false)), .pv (.lit (.bool false)), .pv (.lit (.bool false)), .pv (.lit (.bool false)), .pv (.lit (.bool false)), .pv (.lit (.bool false)), .pv (.lit (.bool false)), .pv (.lit (.bool false)), .pv (.lit (.bool false)), .pv (.lit (.bool false)), .pv (.lit (.bool false)), .pv (.lit (.bool false)), .pv (.lit (.bool false)), .pv (.lit (.bool false)), .pv (.lit (.bool false)), .pv (.lit (.bool false)), .pv (.lit (.bool false)), .pv (.lit (.bool false)), .pv (.lit (.bool false)), .pv (.lit (.bool false)), .pv (.lit (.bool false)), .pv (.lit (.bool false)), .pv (.lit (.bool false)), .pv (.lit (.bool false)), .pv (.lit (.bool false)), .pv (.lit (.bool false)), .pv (.lit (.bool false)), .pv (.lit (.bool false)), .pv (.lit (.bool false)), .pv (.lit (.bool false)), .pv (.lit (.int .i64 0))]) ?_
  refine rvc_un (rexec_prim C (δ := { v := .ptr 22 0, new := [(22, .cells [sS (some true) eItem [], .pv (.lit (.bool false)), .pv (.lit (.bool false)), .pv (.lit (.bool false)), .pv (.lit (.bool false)), .pv (.lit (.bool false)), .pv (.lit (.bool false)), .pv (.lit (.bool false)), .pv (.lit (.bool false)), .pv (.lit (.bool false)), .pv (.lit (.bool false)), .pv (.lit (.bool false)), .pv (.lit (.bool false)), .pv (.lit (.bool false)), .pv (.lit (.bool false)), .pv (.lit (.bool false)), .pv (.lit (.bool false)), .pv (.lit (.bool false)), .pv (.lit (.bool false)), .pv (.lit (.bool false)), .pv (.lit (.bool false)), .pv (.lit (.bool false)), .pv (.lit (.bool false)), .pv (.lit (.bool false)), .pv (.lit (.bool false)), .pv (.lit (.bool false)), .pv (.lit (.bool false)), .pv (.lit (.bool false)), .pv (.lit (.bool false)), .pv (.lit (.bool false)), .pv (.lit (.bool false)), .pv (.lit (.bool false)), .pv (.lit (.bool false)), .pv (.lit (.bool false)), .pv (.lit (.bool false)), .pv (.lit (.bool false)), .pv (.lit (.bool false)), .pv (.lit (.bool false)), .pv (.lit (.bool false)), .pv (.lit (.bool false)), .pv (.lit (.bool false)), .pv (.lit (.bool false)), .pv (.lit (.bool false)), .pv (.lit (.bool false)), .pv (.lit (.bool false)), .pv (.lit (.bool false)), .pv (.lit (.bool false)), .pv (.lit (.bool false)), .pv (.lit (.bool false)), .pv (.lit (.bool false)), .pv (.lit (.bool false)), .pv (.lit (.bool false)), .pv (.lit (.bool false)), .pv (.lit (.bool false)), .pv (.lit (.bool false)), .pv (.lit (.bool false)), .pv (.lit (.bool false)), .pv (.lit (.bool false)), .pv (.lit (.bool false)), .pv (.lit (.bool false)), .pv (.lit (.bool false)), .pv (.lit (.bool false)), .pv (.lit (.bool false)), .pv (.lit (.bool false)), .pv (.lit (.bool false)), .pv (.lit (.int .i64 0))])] }) rfl rfl rfl rfl trivial rfl ?_)
  refine rvP C (.ptr 20 0) ?_
  refine rvP C (.ptr 22 0) ?_
  refine rvc_nil ?_
  refine Awp.seq ?_
  refine Awp.consP C ?_
  refine rvP C (sS (some l.nil) eDo l.D) ?_
  refine rvP C (.pv (.lit (.int .i64 (l.D.length : Int)))) ?_
  refine rvP C (.pv (.lit (.int .i64 0))) ?_
  refine rvc_nil ?_
  refine Awp.block ?_
  refine Awp.forR (σ := Net × Net51) (l.D.length) (fun i v => [(3, .ptr 3 0), (5, .ptr 20 0), (6, .ptr 22 0), (23, sS (some l.nil) eDo l.D), (24, .pv (.lit (.int .i64 (l.D.length : Int)))), (25, .pv (.lit (.int .i64 (i : Int))))]) (fun i v => [(3, .cells [.pv (.lit (.int .i64 k.op)), .pv (.lit (.int .i64 k.i)), .pv (.lit (.int .i64 k.l.from_)), .pv (.lit (.int .i64 k.l.to)), sS (some k.b.nil) (eI .u8) k.b.D, .pv (.lit (.int .u64 k.side))]), (520, mapE kLink vT77.enc v.1.of_), (20, .cells [.mp 520, .pv (.lit (.int .u64 v.1.side)), .pv (.lit (.int .i64 v.1.lost)), .pv (.lit (.bool v.1.made))]), (22, .cells [sS (some v.2.items.nil) eItem v.2.items.D, .pv (.lit (.bool (v.2.side 0))), .pv (.lit (.bool (v.2.side 1))), .pv (.lit (.bool (v.2.side 2))), .pv (.lit (.bool (v.2.side 3))), .pv (.lit (.bool (v.2.side 4))), .pv (.lit (.bool (v.2.side 5))), .pv (.lit (.bool (v.2.side 6))), .pv (.lit (.bool (v.2.side 7))), .pv (.lit (.bool (v.2.side 8))), .pv (.lit (.bool (v.2.side 9))), .pv (.lit (.bool (v.2.side 10))), .pv (.lit (.bool (v.2.side 11))), .pv (.lit (.bool (v.2.side 12))), .pv (.lit (.bool (v.2.side 13))), .pv (.lit (.bool (v.2.side 14))), .pv (.lit (.bool (v.2.side 15))), .pv (.lit (.bool (v.2.side 16))), .pv (.lit (.bool (v.2.side 17))), .pv (.lit (.bool (v.2.side 18))), .pv (.lit (.bool (v.2.side 19))), .pv (.lit (.bool (v.2.side 20))), .pv (.lit (.bool (v.2.side 21))), .pv (.lit (.bool (v.2.side 22))), .pv (.lit (.bool (v.2.side 23))), .pv (.lit (.bool (v.2.side 24))), .pv (.lit (.bool (v.2.side 25))), .pv (.lit (.bool (v.2.side 26))), .pv (.lit (.bool (v.2.side 27))), .pv (.lit (.bool (v.2.side 28))), .pv (.lit (.bool (v.2.side 29))), .pv (.lit (.bool (v.2.side 30))), .pv (.lit (.bool (v.2.side 31))), .pv (.lit (.bool (v.2.side 32))), .pv (.lit (.bool (v.2.side 33))), .pv (.lit (.bool (v.2.side 34))), .pv (.lit (.bool (v.2.side 35))), .pv (.lit (.bool (v.2.side 36))), .pv (.lit (.bool (v.2.side 37))), .pv (.lit (.bool (v.2.side 38))), .pv (.lit (.bool (v.2.side 39))), .pv (.lit (.bool (v.2.side 40))), .pv (.lit (.bool (v.2.side 41))), .pv (.lit (.bool (v.2.side 42))), .pv (.lit (.bool (v.2.side 43))), .pv (.lit (.bool (v.2.side 44))), .pv (.lit (.bool (v.2.side 45))), .pv (.lit (.bool (v.2.side 46))), .pv (.lit (.bool (v.2.side 47))), .pv (.lit (.bool (v.2.side 48))), .pv (.lit (.bool (v.2.side 49))), .pv (.lit (.bool (v.2.side 50))), .pv (.lit (.bool (v.2.side 51))), .pv (.lit (.bool (v.2.side 52))), .pv (.lit (.bool (v.2.side 53))), .pv (.lit (.bool (v.2.side 54))), .pv (.lit (.bool (v.2.side 55))), .pv (.lit (.bool (v.2.side 56))), .pv (.lit (.bool (v.2.side 57))), .pv (.lit (.bool (v.2.side 58))), .pv (.lit (.bool (v.2.side 59))), .pv (.lit (.bool (v.2.side 60))), .pv (.lit (.bool (v.2.side 61))), .pv (.lit (.bool (v.2.side 62))), .pv (.lit (.bool (v.2.side 63))), .pv (.lit (.int .i64 v.2.lost))])]) [3, 20, 22, 520] (fun i v => (lawRefused_l0 k (l.D.drop i) i v.1 v.2 = R) ∧ (okN v.1 ∧ okF v.1 ∧ okRL i v.2 ∧ i ≤ l.D.length)) (newN, (Net51.mk (Sl.mk true []) (ofL [false, false, false, false, false, false, false, false, false, false, false, false, false, false, false, false, false, false, false, false, false, false, false, false, false, false, false, false, false, false, false, false, false, false, false, false, false, false, false, false, false, false, false, false, false, false, false, false, false, false, false, false, false, false, false, false, false, false, false, false, false, false, false, false]) 0)) ?_ ?_ (fun i v h2 hR => ?_)
  · exact ⟨hR, ⟨newN_ok, newN_okF, ⟨(fun _ h => by cases h), Nat.le_refl _⟩, Nat.zero_le _⟩⟩
  · exact ⟨fun b => b, WeakerR.ofL (Ks := [3, 20, 22, 520]) hI ⟨⟨rfl, rfl⟩, ⟨rfl, rfl⟩, ⟨rfl, rfl⟩, ⟨rfl, rfl⟩, ⟨rfl, rfl⟩, ⟨rfl, rfl⟩, trivial⟩ (okH_cons rfl rfl rfl rfl (okH_map rfl rfl rfl (okH_cons rfl rfl rfl rfl (okH_cons rfl rfl rfl rfl (okH_nil))))) rfl⟩
  obtain ⟨vc, vc1⟩ := v
  obtain ⟨hR, ⟨hVo, hVf, hVx, hVi⟩⟩ := hR
  refine Awp.consP C ?_
  refine rvP C (.pv (.lit (.bool (decide ((i : Int) < (l.D.length : Int)))))) ?_
  refine rvc_nil ?_
  refine Awp.seq ?_
  refine Awp.cond (b := (decide ((i : Int) < (l.D.length : Int)))) rfl (fun h3 => ?_) (fun h3 => ?_)
  ·
   have h4 : i < l.D.length := by have := of_decide_eq_true h3; omega
   obtain ⟨x, h5⟩ := getX h4
   rw [drop_at h5] at hR
   refine Awp.skip ?_
   refine Awp.seq ?_
   refine Awp.block ?_
   refine Awp.consP C ?_
   refine rvc_un (rexec_idxS C rfl rfl rfl rfl rfl rfl x (Int.natCast_nonneg _) h5 ?_)
   refine rvP C (.agg [.pv (.lit (.int .i64 x.op)), .pv (.lit (.int .i64 x.i)), .pv (.lit (.int .i64 x.l.from_)), .pv (.lit (.int .i64 x.l.to)), sS (some x.b.nil) (eI .u8) x.b.D, .pv (.lit (.int .u64 x.side))]) ?_
   refine rvc_un (rexec_prim C (δ := { v := .ptr 8 0, new := [(8, .cells [.pv (.lit (.int .i64 0)), .pv (.lit (.int .i64 0)), .pv (.lit (.int .i64 0)), .pv (.lit (.int .i64 0)), sS (some true) (eI .u8) [], .pv (.lit (.int .u64 0))])] }) rfl rfl rfl rfl trivial rfl ?_)
   refine rvc_un (rexec_prim C (δ := { v := .undef, wr := [(8, some (.cells [.pv (.lit (.int .i64 x.op)), .pv (.lit (.int .i64 x.i)), .pv (.lit (.int .i64 x.l.from_)), .pv (.lit (.int .i64 x.l.to)), sS (some x.b.nil) (eI .u8) x.b.D, .pv (.lit (.int .u64 x.side))]))] }) rfl rfl rfl rfl trivial rfl ?_)
   refine rvc_nil ?_
   refine Awp.cons C (fun _ => .writer) (by kernel_rfl) ?_
   refine rvP C (.ptr 20 0) ?_
   refine rvP C (.agg [.pv (.lit (.int .i64 x.op)), .pv (.lit (.int .i64 x.i)), .pv (.lit (.int .i64 x.l.from_)), .pv (.lit (.int .i64 x.l.to)), sS (some x.b.nil) (eI .u8) x.b.D, .pv (.lit (.int .u64 x.side))]) ?_
   obtain ⟨dn, hq_dn⟩ : ∃ q_, q_ = (does vc x) := ⟨_, rfl⟩
   have hc_dn := (does_calls vc x hVo (Nat.le_trans ((short_ok ‹(!(short (Sl.mk false [l, (Sl.mk false [k])]))) = false› l (by simp)).2 x (List.mem_of_getElem? (by assumption))) (by decide)))
   first | rw [← hq_dn] at hR hc_dn | (unfold lawRefused at hR; rw [← hq_dn] at hR hc_dn) | (unfold lawRefused_l0 at hR; rw [← hq_dn] at hR hc_dn)
   have hf0_dn := does_ok (n := vc) hVo x
   rw [← hq_dn] at hf0_dn
   have hf1_dn := does_okF (n := vc) hVf x
   rw [← hq_dn] at hf1_dn
   refine rvc_un (rexec_callObj hP C (fun b => bif b == 0 then 20 else bif b == 1 then 520 else b) [] rfl rfl rfl hc_dn rfl rfl ⟨rfl, trivial⟩ (of_decide_eq_true rfl) rfl (of_decide_eq_true rfl) (of_decide_eq_true rfl) allB_nil allB_nil (allB_cons rfl allB_nil) ?_ rfl (allB_cons rfl allB_nil))
   refine rvc_nil ?_
   refine Awp.region C (fun _ => .writer) (by kernel_rfl) ?_
   refine rvP C (.ptr 22 0) ?_
   refine rvP C (.agg [.pv (.lit (.int .i64 x.op)), .pv (.lit (.int .i64 x.i)), .pv (.lit (.int .i64 x.l.from_)), .pv (.lit (.int .i64 x.l.to)), sS (some x.b.nil) (eI .u8) x.b.D, .pv (.lit (.int .u64 x.side))]) ?_
   obtain ⟨dx, hq_dx⟩ : ∃ q_, q_ = (also vc1 x) := ⟨_, rfl⟩
   have hc_dx := (also_calls vc1 x hVx.1 (Nat.le_trans hVx.2 (by have h1_ := (short_ok ‹(!(short (Sl.mk false [l, (Sl.mk false [k])]))) = false› l (by simp)).1; omega)))
   first | rw [← hq_dx] at hR hc_dx | (unfold lawRefused at hR; rw [← hq_dx] at hR hc_dx) | (unfold lawRefused_l0 at hR; rw [← hq_dx] at hR hc_dx)
   have hf0_dx := also_ok (x := vc1) hVx (by have h1_ := (short_ok ‹(!(short (Sl.mk false [l, (Sl.mk false [k])]))) = false› l (by simp)).1; omega) x
   rw [← hq_dx] at hf0_dx
   refine rvc_un (rexec_callM hP C (b := 22) rfl rfl rfl hc_dx rfl rfl ?_)
   refine rvc_nil ?_
   refine Awp.regionP C ?_
   refine rvP C (.pv (.lit (.int .i64 (IntKind.i64.wrap ((i : Int) + 1))))) ?_
   refine rvP C (.pv (.lit (.int .i64 (IntKind.i64.wrap ((i : Int) + 1))))) ?_
   refine rvc_nil ?_
   refine ⟨h4, (dn.1, dx.1), ?_, ?_⟩
   · exact ⟨hR, ⟨hf0_dn, hf1_dn, hf0_dx, by omega⟩⟩
   · exact ⟨fun b => b, WeakerR.ofL (Ks := [3, 20, 22, 520]) hI ⟨⟨rfl, rfl⟩, ⟨rfl, rfl⟩, ⟨rfl, rfl⟩, ⟨rfl, rfl⟩, ⟨rfl, rfl⟩, ⟨lit_cast (wrap_i64 (by omega) (by omega)), rfl⟩, trivial⟩ (okH_cons rfl rfl rfl rfl (okH_map rfl rfl rfl (okH_cons rfl rfl rfl rfl (okH_cons rfl rfl rfl rfl (okH_nil))))) rfl⟩
  ·
   have h4 : ¬ i < l.D.length := by have := of_decide_eq_false h3; omega
   rw [drop_end h4] at hR
   refine Awp.exit ?_
   refine Awp.cons C (fun _ => .writer) (by kernel_rfl) ?_
   refine rvP C (.ptr 20 0) ?_
   refine rvc_un (rexec_callObj hP C (fun b => bif b == 0 then 20 else bif b == 1 then 520 else b) [] rfl rfl rfl (nLost_calls vc) rfl rfl ⟨rfl, trivial⟩ (of_decide_eq_true rfl) rfl (of_decide_eq_true rfl) (of_decide_eq_true rfl) allB_nil allB_nil (allB_cons rfl allB_nil) ?_ rfl (allB_cons rfl allB_nil))
   refine rvP C (.pv (.lit (.int .i64 (nLost vc)))) ?_
   refine rvc_nil ?_
   refine Awp.cons C (fun _ => .writer) (by kernel_rfl) ?_
   refine rvP C (.ptr 20 0) ?_
   refine rvP C (.agg [.pv (.lit (.int .i64 k.op)), .pv (.lit (.int .i64 k.i)), .pv (.lit (.int .i64 k.l.from_)), .pv (.lit (.int .i64 k.l.to)), sS (some k.b.nil) (eI .u8) k.b.D, .pv (.lit (.int .u64 k.side))]) ?_
   obtain ⟨dk, hq_dk⟩ : ∃ q_, q_ = (does vc k) := ⟨_, rfl⟩
   have hc_dk := (does_calls vc k hVo (Nat.le_trans ((short_ok ‹(!(short (Sl.mk false [l, (Sl.mk false [k])]))) = false› (Sl.mk false [k]) (by simp)).2 k (by simp)) (by decide)))
   first | rw [← hq_dk] at hR hc_dk | (unfold lawRefused at hR; rw [← hq_dk] at hR hc_dk) | (unfold lawRefused_l0 at hR; rw [← hq_dk] at hR hc_dk)
   have hf0_dk := does_ok (n := vc) hVo k
   rw [← hq_dk] at hf0_dk
   have hf1_dk := does_okF (n := vc) hVf k
   rw [← hq_dk] at hf1_dk
   refine rvc_un (rexec_callObj hP C (fun b => bif b == 0 then 20 else bif b == 1 then 520 else b) [] rfl rfl rfl hc_dk rfl rfl ⟨rfl, trivial⟩ (of_decide_eq_true rfl) rfl (of_decide_eq_true rfl) (of_decide_eq_true rfl) allB_nil allB_nil (allB_cons rfl allB_nil) ?_ rfl (allB_cons rfl allB_nil))
   refine rvP C (.tup [sS (some dk.2.1.nil) (eI .u8) dk.2.1.D, .pv (.lit (.bool dk.2.2.1)), .pv (.lit (.int .i64 dk.2.2.2))]) ?_
   refine rvP C (sS (some dk.2.1.nil) (eI .u8) dk.2.1.D) ?_
   refine rvP C (.pv (.lit (.bool dk.2.2.1))) ?_
   refine rvP C (.pv (.lit (.int .i64 dk.2.2.2))) ?_
   refine rvP C (sS (some dk.2.1.nil) (eI .u8) dk.2.1.D) ?_
   refine rvP C (.pv (.lit (.bool dk.2.2.1))) ?_
   refine rvP C (.pv (.lit (.int .i64 dk.2.2.2))) ?_
   refine rvc_nil ?_
   refine Awp.seq ?_
   refine Awp.consP C ?_
   refine rvP C (.pv (.lit (.int .i64 dk.2.2.2))) ?_
   refine rvP C (.pv (.lit (.bool (dk.2.2.2 == 0)))) ?_
   refine rvc_nil ?_
   refine Awp.cond (b := (dk.2.2.2 == 0)) rfl (fun h6 => ?_) (fun h6 => ?_)
   ·
    replace hR := of_true h6 hR
    refine Awp.consP C ?_
    refine rvc_un (rexec_call hP C rfl rfl rfl (awake_calls ) ?_)
    refine rvP C (.pv (.lit (.bool (awake )))) ?_
    refine rvc_nil ?_
    refine Awp.ret ?_
    subst hR
    exact ⟨.inl rfl, rfl⟩
   ·
    replace hR := of_false h6 hR
    refine Awp.skip ?_
    refine Awp.seq ?_
    refine Awp.consP C ?_
    refine rvP C (.pv (.lit (.int .i64 dk.2.2.2))) ?_
    refine rvP C (.pv (.lit (.bool (dk.2.2.2 == 7)))) ?_
    refine rvP C (.pv (.lit (.bool (dk.2.2.2 == 7)))) ?_
    refine rvc_case 50 (dk.2.2.2 == 7) rfl (fun h7 => ?_) (fun h7 => ?_)
    ·
     replace hR := of_true h7 hR
     refine rvO C (.ptr 3 0) ?_
     refine rvO C (.pv (.lit (.int .i64 k.op))) ?_
     refine rvO C (.pv (.lit (.int .u64 (IntKind.u64.wrap k.op)))) ?_
     refine rvc_open rfl rfl rfl (rexec_prim C (δ := { v := .pv (.lit (.int .u64 ((IntKind.u64.wrap k.op).tmod 9))) }) rfl rfl rfl rfl (by first | decide | omega) rfl ?_)
     refine rvO C (.pv (.lit (.int .i64 (IntKind.i64.wrap ((IntKind.u64.wrap k.op).tmod 9))))) ?_
     refine rvO C (.pv (.lit (.bool (decide ((IntKind.i64.wrap ((IntKind.u64.wrap k.op).tmod 9)) < 3))))) ?_
     refine rvP C (.pv (.lit (.bool (decide ((IntKind.i64.wrap ((IntKind.u64.wrap k.op).tmod 9)) < 3))))) ?_
     refine rvc_nil ?_
     refine Awp.cond (b := (decide ((IntKind.i64.wrap ((IntKind.u64.wrap k.op).tmod 9)) < 3))) rfl (fun h8 => ?_) (fun h8 => ?_)
     ·
      replace hR := of_true h8 hR
      refine Awp.regionP C ?_
      refine rvP C (.pv (.lit (.int .i64 (nLost vc)))) ?_
      refine rvP C (.pv (.lit (.int .i64 (IntKind.i64.wrap ((nLost vc) + 1))))) ?_
      refine rvP C (.pv (.lit (.int .i64 (IntKind.i64.wrap ((nLost vc) + 1))))) ?_
      refine rvc_nil ?_
      refine Awp.consP C ?_
      refine rvP C (.ptr 22 0) ?_
      refine rvP C (.pv (.lit (.int .i64 (IntKind.i64.wrap ((nLost vc) + 1))))) ?_
      refine rvP C (.ptr 22 0) ?_
      refine rvP C (.ptr 22 65) ?_
      refine rvc_un (rexec_prim C (δ := { v := .undef, wr := [(22, some (.cells [sS (some vc1.items.nil) eItem vc1.items.D, .pv (.lit (.bool (vc1.side 0))), .pv (.lit (.bool (vc1.side 1))), .pv (.lit (.bool (vc1.side 2))), .pv (.lit (.bool (vc1.side 3))), .pv (.lit (.bool (vc1.side 4))), .pv (.lit (.bool (vc1.side 5))), .pv (.lit (.bool (vc1.side 6))), .pv (.lit (.bool (vc1.side 7))), .pv (.lit (.bool (vc1.side 8))), .pv (.lit (.bool (vc1.side 9))), .pv (.lit (.bool (vc1.side 10))), .pv (.lit (.bool (vc1.side 11))), .pv (.lit (.bool (vc1.side 12))), .pv (.lit (.bool (vc1.side 13))), .pv (.lit (.bool (vc1.side 14))), .pv (.lit (.bool (vc1.side 15))), .pv (.lit (.bool (vc1.side 16))), .pv (.lit (.bool (vc1.side 17))), .pv (.lit (.bool (vc1.side 18))), .pv (.lit (.bool (vc1.side 19))), .pv (.lit (.bool (vc1.side 20))), .pv (.lit (.bool (vc1.side 21))), .pv (.lit (.bool (vc1.side 22))), .pv (.lit (.bool (vc1.side 23))), .pv (.lit (.bool (vc1.side 24))), .pv (.lit (.bool (vc1.side 25))), .pv (.lit (.bool (vc1.side 26))), .pv (.lit (.bool (vc1.side 27))), .pv (.lit (.bool (vc1.side 28))), .pv (.lit (.bool (vc1.side 29))), .pv (.lit (.bool (vc1.side 30))), .pv (.lit (.bool (vc1.side 31))), .pv (.lit (.bool (vc1.side 32))), .pv (.lit (.bool (vc1.side 33))), .pv (.lit (.bool (vc1.side 34))), .pv (.lit (.bool (vc1.side 35))), .pv (.lit (.bool (vc1.side 36))), .pv (.lit (.bool (vc1.side 37))), .pv (.lit (.bool (vc1.side 38))), .pv (.lit (.bool (vc1.side 39))), .pv (.lit (.bool (vc1.side 40))), .pv (.lit (.bool (vc1.side 41))), .pv (.lit (.bool (vc1.side 42))), .pv (.lit (.bool (vc1.side 43))), .pv (.lit (.bool (vc1.side 44))), .pv (.lit (.bool (vc1.side 45))), .pv (.lit (.bool (vc1.side 46))), .pv (.lit (.bool (vc1.side 47))), .pv (.lit (.bool (vc1.side 48))), .pv (.lit (.bool (vc1.side 49))), .pv (.lit (.bool (vc1.side 50))), .pv (.lit (.bool (vc1.side 51))), .pv (.lit (.bool (vc1.side 52))), .pv (.lit (.bool (vc1.side 53))), .pv (.lit (.bool (vc1.side 54))), .pv (.lit (.bool (vc1.side 55))), .pv (.lit (.bool (vc1.side 56))), .pv (.lit (.bool (vc1.side 57))), .pv (.lit (.bool (vc1.side 58))), .pv (.lit (.bool (vc1.side 59))), .pv (.lit (.bool (vc1.side 60))), .pv (.lit (.bool (vc1.side 61))), .pv (.lit (.bool (vc1.side 62))), .pv (.lit (.bool (vc1.side 63))), .pv (.lit (.int .i64 (IntKind.i64.wrap ((nLost vc) + 1))))]))] }) rfl rfl rfl rfl trivial rfl ?_)
      refine rvc_nil ?_
      refine Awp.cons C (fun _ => .writer) (by kernel_rfl) ?_
      refine rvP C (.ptr 20 0) ?_
      refine rvP C (.ptr 22 0) ?_
      refine rvc_un (rexec_callObj hP C (fun b => bif b == 0 then 20 else bif b == 1 then 520 else bif b == 2 then 22 else b) [] rfl rfl rfl (same_calls dk.1 (Net51.mk vc1.items vc1.side (IntKind.i64.wrap ((nLost vc) + 1))) hf0_dk hf1_dk (Nat.le_trans hVx.2 (by have h1_ := (short_ok ‹(!(short (Sl.mk false [l, (Sl.mk false [k])]))) = false› l (by simp)).1; omega))) rfl rfl ⟨rfl, rfl, trivial⟩ (of_decide_eq_true rfl) rfl (of_decide_eq_true rfl) (of_decide_eq_true rfl) allB_nil allB_nil (allB_cons rfl (allB_cons rfl allB_nil)) ?_ rfl (allB_cons rfl (allB_cons rfl allB_nil)))
      refine rvP C (.pv (.lit (.bool (same dk.1 (Net51.mk vc1.items vc1.side (IntKind.i64.wrap ((nLost vc) + 1))))))) ?_
      refine rvc_case 67 (same dk.1 (Net51.mk vc1.items vc1.side (IntKind.i64.wrap ((nLost vc) + 1)))) rfl (fun h9 => ?_) (fun h9 => ?_)
      ·
       replace hR := of_true h9 hR
       refine rvc_open rfl rfl rfl (rexec_call hP C rfl rfl rfl (awake_calls ) ?_)
       refine rvP C (.pv (.lit (.bool (awake )))) ?_
       refine rvP C (.pv (.lit (.bool (awake )))) ?_
       refine rvc_nil ?_
       refine Awp.ret ?_
       subst hR
       exact ⟨.inl rfl, rfl⟩
      ·
       replace hR := of_false h9 hR
       refine rvS ?_
       refine rvP C (.pv (.lit (.bool false))) ?_
       refine rvP C (.pv (.lit (.bool false))) ?_
       refine rvc_nil ?_
       refine Awp.ret ?_
       subst hR
       exact ⟨.inl rfl, rfl⟩
     ·
      replace hR := of_false h8 hR
      refine Awp.skip ?_
      refine Awp.consP C ?_
      refine rvP C (.ptr 22 0) ?_
      refine rvP C (.pv (.lit (.int .i64 (nLost vc)))) ?_
      refine rvP C (.ptr 22 0) ?_
      refine rvP C (.ptr 22 65) ?_
      refine rvc_un (rexec_prim C (δ := { v := .undef, wr := [(22, some (.cells [sS (some vc1.items.nil) eItem vc1.items.D, .pv (.lit (.bool (vc1.side 0))), .pv (.lit (.bool (vc1.side 1))), .pv (.lit (.bool (vc1.side 2))), .pv (.lit (.bool (vc1.side 3))), .pv (.lit (.bool (vc1.side 4))), .pv (.lit (.bool (vc1.side 5))), .pv (.lit (.bool (vc1.side 6))), .pv (.lit (.bool (vc1.side 7))), .pv (.lit (.bool (vc1.side 8))), .pv (.lit (.bool (vc1.side 9))), .pv (.lit (.bool (vc1.side 10))), .pv (.lit (.bool (vc1.side 11))), .pv (.lit (.bool (vc1.side 12))), .pv (.lit (.bool (vc1.side 13))), .pv (.lit (.bool (vc1.side 14))), .pv (.lit (.bool (vc1.side 15))), .pv (.lit (.bool (vc1.side 16))), .pv (.lit (.bool (vc1.side 17))), .pv (.lit (.bool (vc1.side 18))), .pv (.lit (.bool (vc1.side 19))), .pv (.lit (.bool (vc1.side 20))), .pv (.lit (.bool (vc1.side 21))), .pv (.lit (.bool (vc1.side 22))), .pv (.lit (.bool (vc1.side 23))), .pv (.lit (.bool (vc1.side 24))), .pv (.lit (.bool (vc1.side 25))), .pv (.lit (.bool (vc1.side 26))), .pv (.lit (.bool (vc1.side 27))), .pv (.lit (.bool (vc1.side 28))), .pv (.lit (.bool (vc1.side 29))), .pv (.lit (.bool (vc1.side 30))), .pv (.lit (.bool (vc1.side 31))), .pv (.lit (.bool (vc1.side 32))), .pv (.lit (.bool (vc1.side 33))), .pv (.lit (.bool (vc1.side 34))), .pv (.lit (.bool (vc1.side 35))), .pv (.lit (.bool (vc1.side 36))), .pv (.lit (.bool (vc1.side 37))), .pv (.lit (.bool (vc1.side 38))), .pv (.lit (.bool (vc1.side 39))), .pv (.lit (.bool (vc1.side 40))), .pv (.lit (.bool (vc1.side 41))), .pv (.lit (.bool (vc1.side 42))), .pv (.lit (.bool (vc1.side 43))), .pv (.lit (.bool (vc1.side 44))), .pv (.lit (.bool (vc1.side 45))), .pv (.lit (.bool (vc1.side 46))), .pv (.lit (.bool (vc1.side 47))), .pv (.lit (.bool (vc1.side 48))), .pv (.lit (.bool (vc1.side 49))), .pv (.lit (.bool (vc1.side 50))), .pv (.lit (.bool (vc1.side 51))), .pv (.lit (.bool (vc1.side 52))), .pv (.lit (.bool (vc1.side 53))), .pv (.lit (.bool (vc1.side 54))), .pv (.lit (.bool (vc1.side 55))), .pv (.lit (.bool (vc1.side 56))), .pv (.lit (.bool (vc1.side 57))), .pv (.lit (.bool (vc1.side 58))), .pv (.lit (.bool (vc1.side 59))), .pv (.lit (.bool (vc1.side 60))), .pv (.lit (.bool (vc1.side 61))), .pv (.lit (.bool (vc1.side 62))), .pv (.lit (.bool (vc1.side 63))), .pv (.lit (.int .i64 (nLost vc)))]))] }) rfl rfl rfl rfl trivial rfl ?_)
      refine rvc_nil ?_
      refine Awp.cons C (fun _ => .writer) (by kernel_rfl) ?_
      refine rvP C (.ptr 20 0) ?_
      refine rvP C (.ptr 22 0) ?_
      refine rvc_un (rexec_callObj hP C (fun b => bif b == 0 then 20 else bif b == 1 then 520 else bif b == 2 then 22 else b) [] rfl rfl rfl (same_calls dk.1 (Net51.mk vc1.items vc1.side (nLost vc)) hf0_dk hf1_dk (Nat.le_trans hVx.2 (by have h1_ := (short_ok ‹(!(short (Sl.mk false [l, (Sl.mk false [k])]))) = false› l (by simp)).1; omega))) rfl rfl ⟨rfl, rfl, trivial⟩ (of_decide_eq_true rfl) rfl (of_decide_eq_true rfl) (of_decide_eq_true rfl) allB_nil allB_nil (allB_cons rfl (allB_cons rfl allB_nil)) ?_ rfl (allB_cons rfl (allB_cons rfl allB_nil)))
      refine rvP C (.pv (.lit (.bool (same dk.1 (Net51.mk vc1.items vc1.side (nLost vc)))))) ?_
      refine rvc_case 67 (same dk.1 (Net51.mk vc1.items vc1.side (nLost vc))) rfl (fun h10 => ?_) (fun h10 => ?_)
      ·
       replace hR := of_true h10 hR
       refine rvc_open rfl rfl rfl (rexec_call hP C rfl rfl rfl (awake_calls ) ?_)
       refine rvP C (.pv (.lit (.bool (awake )))) ?_
       refine rvP C (.pv (.lit (.bool (awake )))) ?_
       refine rvc_nil ?_
       refine Awp.ret ?_
       subst hR
       exact ⟨.inl rfl, rfl⟩
      ·
       replace hR := of_false h10 hR
       refine rvS ?_
       refine rvP C (.pv (.lit (.bool false))) ?_
       refine rvP C (.pv (.lit (.bool false))) ?_
       refine rvc_nil ?_
       refine Awp.ret ?_
       subst hR
       exact ⟨.inl rfl, rfl⟩
    ·
     replace hR := of_false h7 hR
     refine rvS ?_
     refine rvS ?_
     refine rvS ?_
     refine rvS ?_
     refine rvS ?_
     refine rvS ?_
     refine rvP C (.pv (.lit (.bool false))) ?_
     refine rvc_nil ?_
     refine Awp.condF (b := false) rfl rfl ?_
     refine Awp.skip ?_
     refine Awp.consP C ?_
     refine rvP C (.ptr 22 0) ?_
     refine rvP C (.pv (.lit (.int .i64 (nLost vc)))) ?_
     refine rvP C (.ptr 22 0) ?_
     refine rvP C (.ptr 22 65) ?_
     refine rvc_un (rexec_prim C (δ := { v := .undef, wr := [(22, some (.cells [sS (some vc1.items.nil) eItem vc1.items.D, .pv (.lit (.bool (vc1.side 0))), .pv (.lit (.bool (vc1.side 1))), .pv (.lit (.bool (vc1.side 2))), .pv (.lit (.bool (vc1.side 3))), .pv (.lit (.bool (vc1.side 4))), .pv (.lit (.bool (vc1.side 5))), .pv (.lit (.bool (vc1.side 6))), .pv (.lit (.bool (vc1.side 7))), .pv (.lit (.bool (vc1.side 8))), .pv (.lit (.bool (vc1.side 9))), .pv (.lit (.bool (vc1.side 10))), .pv (.lit (.bool (vc1.side 11))), .pv (.lit (.bool (vc1.side 12))), .pv (.lit (.bool (vc1.side 13))), .pv (.lit (.bool (vc1.side 14))), .pv (.lit (.bool (vc1.side 15))), .pv (.lit (.bool (vc1.side 16))), .pv (.lit (.bool (vc1.side 17))), .pv (.lit (.bool (vc1.side 18))), .pv (.lit (.bool (vc1.side 19))), .pv (.lit (.bool (vc1.side 20))), .pv (.lit (.bool (vc1.side 21))), .pv (.lit (.bool (vc1.side 22))), .pv (.lit (.bool (vc1.side 23))), .pv (.lit (.bool (vc1.side 24))), .pv (.lit (.bool (vc1.side 25))), .pv (.lit (.bool (vc1.side 26))), .pv (.lit (.bool (vc1.side 27))), .pv (.lit (.bool (vc1.side 28))), .pv (.lit (.bool (vc1.side 29))), .pv (.lit (.bool (vc1.side 30))), .pv (.lit (.bool (vc1.side 31))), .pv (.lit (.bool (vc1.side 32))), .pv (.lit (.bool (vc1.side 33))), .pv (.lit (.bool (vc1.side 34))), .pv (.lit (.bool (vc1.side 35))), .pv (.lit (.bool (vc1.side 36))), .pv (.lit (.bool (vc1.side 37))), .pv (.lit (.bool (vc1.side 38))), .pv (.lit (.bool (vc1.side 39))), .pv (.lit (.bool (vc1.side 40))), .pv (.lit (.bool (vc1.side 41))), .pv (.lit (.bool (vc1.side 42))), .pv (.lit (.bool (vc1.side 43))), .pv (.lit (.bool (vc1.side 44))), .pv (.lit (.bool (vc1.side 45))), .pv (.lit (.bool (vc1.side 46))), .pv (.lit (.bool (vc1.side 47))), .pv (.lit (.bool (vc1.side 48))), .pv (.lit (.bool (vc1.side 49))), .pv (.lit (.bool (vc1.side 50))), .pv (.lit (.bool (vc1.side 51))), .pv (.lit (.bool (vc1.side 52))), .pv (.lit (.bool (vc1.side 53))), .pv (.lit (.bool (vc1.side 54))), .pv (.lit (.bool (vc1.side 55))), .pv (.lit (.bool (vc1.side 56))), .pv (.lit (.bool (vc1.side 57))), .pv (.lit (.bool (vc1.side 58))), .pv (.lit (.bool (vc1.side 59))), .pv (.lit (.bool (vc1.side 60))), .pv (.lit (.bool (vc1.side 61))), .pv (.lit (.bool (vc1.side 62))), .pv (.lit (.bool (vc1.side 63))), .pv (.lit (.int .i64 (nLost vc)))]))] }) rfl rfl rfl rfl trivial rfl ?_)
     refine rvc_nil ?_
     refine Awp.cons C (fun _ => .writer) (by kernel_rfl) ?_
     refine rvP C (.ptr 20 0) ?_
     refine rvP C (.ptr 22 0) ?_
     refine rvc_un (rexec_callObj hP C (fun b => bif b == 0 then 20 else bif b == 1 then 520 else bif b == 2 then 22 else b) [] rfl rfl rfl (same_calls dk.1 (Net51.mk vc1.items vc1.side (nLost vc)) hf0_dk hf1_dk (Nat.le_trans hVx.2 (by have h1_ := (short_ok ‹(!(short (Sl.mk false [l, (Sl.mk false [k])]))) = false› l (by simp)).1; omega))) rfl rfl ⟨rfl, rfl, trivial⟩ (of_decide_eq_true rfl) rfl (of_decide_eq_true rfl) (of_decide_eq_true rfl) allB_nil allB_nil (allB_cons rfl (allB_cons rfl allB_nil)) ?_ rfl (allB_cons rfl (allB_cons rfl allB_nil)))
     refine rvP C (.pv (.lit (.bool (same dk.1 (Net51.mk vc1.items vc1.side (nLost vc)))))) ?_
     refine rvc_case 67 (same dk.1 (Net51.mk vc1.items vc1.side (nLost vc))) rfl (fun h11 => ?_) (fun h11 => ?_)
     ·
      replace hR := of_true h11 hR
      refine rvc_open rfl rfl rfl (rexec_call hP C rfl rfl rfl (awake_calls ) ?_)
      refine rvP C (.pv (.lit (.bool (awake )))) ?_
      refine rvP C (.pv (.lit (.bool (awake )))) ?_
      refine rvc_nil ?_
      refine Awp.ret ?_
      subst hR
      exact ⟨.inl rfl, rfl⟩
     ·
      replace hR := of_false h11 hR
      refine rvS ?_
      refine rvP C (.pv (.lit (.bool false))) ?_
      refine rvP C (.pv (.lit (.bool false))) ?_
      refine rvc_nil ?_
      refine Awp.ret ?_
      subst hR
      exact ⟨.inl rfl, rfl⟩
end Go.Proofs.Ytpeeofofagfooaa
/- A law: room. No conditions. -/
namespace Go.Proofs.Ytpeeofofagfooaa
open Go.Am
end Go.Proofs.Ytpeeofofagfooaa
/- The law LinksRoom: no link ever has more than eight. No conditions. -/
namespace Go.Proofs.Ytpeeofofagfooaa
open Go.Am
theorem awake_true : awake = true := by decide +kernel
end Go.Proofs.Ytpeeofofagfooaa
/- The law LinksRefused in plain Lean. No conditions. -/
namespace Go.Proofs.Ytpeeofofagfooaa
open Go.Am
/-- What has an error changes nothing but how many had no room. -/
theorem does_bad {n : Net} (hm : n.made = true) (k : Do) (h : (does n k).2.2.2 ≠ 0) : (does n k).1 = bif (does n k).2.2.2 == 7 then (bif decide ((IntKind.i64.wrap ((IntKind.u64.wrap k.op).tmod 9)) < 3) then Net.mk n.of_ n.side (IntKind.i64.wrap (n.lost + 1)) n.made else n) else n := by
  have hd : nDead n = false := by unfold nDead; rw [hm]; rfl
  have hr : 0 ≤ (IntKind.i64.wrap ((IntKind.u64.wrap k.op).tmod 9)) ∧ (IntKind.i64.wrap ((IntKind.u64.wrap k.op).tmod 9)) < 9 := by
    have h1 : 0 ≤ IntKind.u64.wrap k.op := by rw [wrap64]; omega
    have h2 : (IntKind.u64.wrap k.op).tmod 9 = IntKind.u64.wrap k.op % 9 := Int.tmod_eq_emod_of_nonneg h1
    rw [h2, wrapI _ (by show -9223372036854775808 ≤ _ ∧ _ ≤ 9223372036854775807; omega)]
    omega
  have ab : ∀ l i, able n l i = 0 ∨ able n l i = 40 := fun l i => by
    unfold able
    rw [hd, cond_false]
    cases !(fitsL l) <;> cases decide (i < 0) <;> cases decide (i ≥ ((((mGet kLink l n.of_).getD (Sl.mk true [])).D).length : Int)) <;> simp
  revert h
  unfold does
  revert hr
  generalize (IntKind.i64.wrap ((IntKind.u64.wrap k.op).tmod 9)) = o
  intro hr
  have take : (nTake n k.l k.i).2.2.2 ≠ 0 → (nTake n k.l k.i).1 = n ∧ (nTake n k.l k.i).2.2.2 ≠ 7 := by
    unfold nTake
    rcases ab k.l k.i with h | h
    · rw [h, show ((0 : Int) != 0) = false from rfl, cond_false]
      cases !((mHas ((nCut n k.l k.i).1.side) k.l.from_) == (mHas ((nCut n k.l k.i).1.side) k.l.to))
      · exact fun h => absurd rfl h
      · exact fun h => absurd rfl h
    · rw [h, show ((40 : Int) != 0) = true from rfl, cond_true]
      exact fun _ => ⟨rfl, by show (40 : Int) ≠ 7; decide⟩
  have noth : ∀ {m : Net} {e : Int}, m = n ∧ e ≠ 7 → m = bif e == 7 then (bif decide (o < 3) then Net.mk n.of_ n.side (IntKind.i64.wrap (n.lost + 1)) n.made else n) else n := fun {m e} h => by
    rw [show (e == 7) = false by simpa using h.2, cond_false]; exact h.1
  cases h3 : o == 3
  case true => exact fun h => noth (take h)
  rw [cond_false]
  cases h4 : o == 4
  case true => exact fun h => noth (take h)
  rw [cond_false]
  cases h5 : o == 5
  case true =>
    intro h
    refine noth ?_
    revert h
    show (nLose n k.l k.i).2 ≠ 0 → (nLose n k.l k.i).1 = n ∧ (nLose n k.l k.i).2 ≠ 7
    unfold nLose
    rcases ab k.l k.i with h | h
    · rw [h]; exact fun h => absurd rfl h
    · rw [h]; exact fun _ => ⟨rfl, by show (40 : Int) ≠ 7; decide⟩
  rw [cond_false]
  cases h6 : o == 6
  case true =>
    have h6' : o = 6 := by simpa using h6
    rw [cond_true, decide_eq_false (show ¬ o < 3 by omega), cond_false]
    intro h
    have : (nDouble n k.l k.i).1 = n := by
      revert h
      show (nDouble n k.l k.i).2 ≠ 0 → _
      unfold nDouble
      rcases ab k.l k.i with h | h
      · rw [h, show ((0 : Int) != 0) = false from rfl, cond_false]
        cases decide (((((mGet kLink k.l n.of_).getD (Sl.mk true [])).D).length : Int) ≥ 8)
        · exact fun h => absurd rfl h
        · exact fun _ => rfl
      · rw [h]; exact fun _ => rfl
    show (nDouble n k.l k.i).1 = bif (nDouble n k.l k.i).2 == 7 then n else n
    rw [this]
    cases (nDouble n k.l k.i).2 == 7 <;> rfl
  rw [cond_false]
  cases h7 : o == 7
  case true =>
    intro h
    exact absurd (show (nWall n k.side).2 = 0 by unfold nWall; rw [hd]; rfl) h
  rw [cond_false]
  cases h8 : o == 8
  case true =>
    intro h
    exact absurd (show (nForget n k.i).2 = 0 by unfold nForget; rw [hd]; rfl) h
  rw [cond_false]
  have hlt : o < 3 := by
    have e3 : o ≠ 3 := by simpa using h3
    have e4 : o ≠ 4 := by simpa using h4
    have e5 : o ≠ 5 := by simpa using h5
    have e6 : o ≠ 6 := by simpa using h6
    have e7 : o ≠ 7 := by simpa using h7
    have e8 : o ≠ 8 := by simpa using h8
    omega
  rw [decide_eq_true hlt, cond_true]
  show (nSend n k.l k.b).2 ≠ 0 → (nSend n k.l k.b).1 = bif (nSend n k.l k.b).2 == 7 then _ else n
  unfold nSend
  rw [hd, cond_false]
  cases !(fitsL k.l)
  case true => exact fun _ => rfl
  rw [cond_false]
  cases decide ((k.b.D.length : Int) > 8192)
  case true => exact fun _ => rfl
  rw [cond_false]
  cases decide (((((mGet kLink k.l n.of_).getD (Sl.mk true [])).D).length : Int) ≥ 8)
  case true => exact fun _ => rfl
  rw [cond_false]
  cases ((mGet kLink k.l n.of_).getD (Sl.mk true [])).nil <;> exact fun h => absurd rfl h
theorem lawRefused_l0_true (k : Do) : ∀ (l : List Do) (i : Nat) (n : Net) (x : Net51) (N : Nat), Rel N n x → N + l.length ≤ 1000000 → (∀ y ∈ l, (y.b.nil = true → y.b.D = []) ∧ 0 ≤ y.side ∧ y.side < 18446744073709551616) → lawRefused_l0 k l i n x = true
  | [], i, n, x, N, h, hN, _ => by
    have hN' : N ≤ 1000000 := by simpa using hN
    have hd : nDead n = false := by unfold nDead; rw [h.made]; rfl
    have hl : nLost n = x.lost := by unfold nLost; rw [hd, cond_false]; exact h.lost
    unfold lawRefused_l0
    rw [awake_true, hl]
    by_cases h0 : (does n k).2.2.2 = 0
    · rw [show ((does n k).2.2.2 == 0) = true by simpa using h0]; rfl
    rw [show ((does n k).2.2.2 == 0) = false by simpa using h0, cond_false]
    have hb := does_bad h.made k h0
    have s1 : same n (Net51.mk x.items x.side x.lost) = true := h.same hN'
    have s2 : same (Net.mk n.of_ n.side (IntKind.i64.wrap (n.lost + 1)) n.made) (Net51.mk x.items x.side (IntKind.i64.wrap (x.lost + 1))) = true :=
      (show Rel N (Net.mk n.of_ n.side (IntKind.i64.wrap (n.lost + 1)) n.made) (Net51.mk x.items x.side (IntKind.i64.wrap (x.lost + 1))) from ⟨h.ok, h.okF, h.okR, h.made, h.on, by show IntKind.i64.wrap (n.lost + 1) = IntKind.i64.wrap (x.lost + 1); rw [h.lost], h.side⟩).same hN'
    revert hb
    cases (does n k).2.2.2 == 7
    · rw [cond_false, cond_false]
      intro hb
      rw [hb, s1]; rfl
    · rw [cond_true, cond_true]
      cases decide ((IntKind.i64.wrap ((IntKind.u64.wrap k.op).tmod 9)) < 3)
      · rw [cond_false, cond_false]
        intro hb
        rw [hb, s1]; rfl
      · rw [cond_true, cond_true]
        intro hb
        rw [hb, s2]; rfl
  | y :: l, i, n, x, N, h, hN, hw => by
    have hy := hw y (List.mem_cons_self ..)
    rw [List.length_cons] at hN
    unfold lawRefused_l0
    exact lawRefused_l0_true k l (i + 1) _ _ (N + 1) (h.step (by omega) y hy.1 hy.2).1 (by omega) fun z hz => hw z (List.mem_cons_of_mem _ hz)
theorem lawRefused_true (l : Sl Do) (k : Do) (hw : ∀ y ∈ l.D, (y.b.nil = true → y.b.D = []) ∧ 0 ≤ y.side ∧ y.side < 18446744073709551616) : lawRefused l k = true := by
  unfold lawRefused
  cases h : !(short (Sl.mk false [l, (Sl.mk false [k])]))
  · rw [cond_false]
    have := (short_ok h l (by simp)).1
    exact lawRefused_l0_true k l.D 0 _ _ 0 rel_new (by omega) hw
  · rw [cond_true]; exact awake_true
end Go.Proofs.Ytpeeofofagfooaa
/- Inputs of chapter 4, as plain values. No conditions. -/
namespace Go.Proofs.Ytpeeofofagfooaa
open Go.Am
set_option maxRecDepth 100000 in
theorem flat3 {m : Nat} {ps : List PV} (h : Flat Try.prog (m + 1) 3 ps) : ∃ n, ps = [.lit (.int .i64 n)] ∧ (Lit.int .i64 n).wf = true := by
  unfold Flat at h
  rw [Try.underlying3] at h
  exact h
def WT29 (x : Link) : Prop := (Lit.int .i64 x.from_).wf = true ∧ (Lit.int .i64 x.to).wf = true
set_option maxRecDepth 100000 in
theorem flat29 {m : Nat} {ps : List PV} (h : Flat Try.prog (m + 2) 29 ps) : ∃ x : Link, ps = eLink.enc x ∧ WT29 x := by
  unfold Flat at h
  rw [Try.underlying29] at h
  obtain ⟨a0, b0, e0, h0, a1, b1, e1, h1, el⟩ := h
  obtain ⟨x0, rfl, w0⟩ := flat3 (m := m + 0) h0
  obtain ⟨x1, rfl, w1⟩ := flat3 (m := m + 0) h1
  subst el
  subst e1
  subst e0
  exact ⟨⟨x0, x1⟩, rfl, w0, w1⟩
set_option maxRecDepth 100000 in
theorem flat5 {m : Nat} {ps : List PV} (h : Flat Try.prog (m + 1) 5 ps) : ∃ n, ps = [.lit (.int .u8 n)] ∧ (Lit.int .u8 n).wf = true := by
  unfold Flat at h
  rw [Try.underlying5] at h
  exact h
def WT30 (s : Sl Int) : Prop := s.D.length ≤ maxLen ∧ (s.nil = true → s.D = []) ∧ ∀ x ∈ s.D, (Lit.int .u8 x).wf = true
set_option maxRecDepth 100000 in
theorem flat30 {m : Nat} {ps : List PV} (h : Flat Try.prog (m + 2) 30 ps) : ∃ s : Sl Int, ps = [.sl (some s.nil) s.D.length (encL (eI .u8) s.D)] ∧ WT30 s := by
  unfold Flat at h
  rw [Try.underlying30] at h
  obtain ⟨b, D, rfl, h1, h2, h3⟩ := h
  obtain ⟨D2, e1, e2, e3⟩ := enc_list (e := (eI .u8)) (W := fun x => (Lit.int .u8 x).wf = true) D fun y hy => flat5 (h3 y hy)
  rw [e2, ← e1]
  exact ⟨⟨b, D2⟩, rfl, (by show D2.length ≤ _; rw [e1]; exact h1), (fun hb => by have := h2 hb; rw [this] at e1; exact List.eq_nil_of_length_eq_zero e1), e3⟩
set_option maxRecDepth 100000 in
theorem flat31 {m : Nat} {ps : List PV} (h : Flat Try.prog (m + 1) 31 ps) : ∃ n, ps = [.lit (.int .u64 n)] ∧ (Lit.int .u64 n).wf = true := by
  unfold Flat at h
  rw [Try.underlying31] at h
  exact h
def WT33 (x : Do) : Prop := (Lit.int .i64 x.op).wf = true ∧ (Lit.int .i64 x.i).wf = true ∧ WT29 x.l ∧ WT30 x.b ∧ (Lit.int .u64 x.side).wf = true
set_option maxRecDepth 100000 in
theorem flat33 {m : Nat} {ps : List PV} (h : Flat Try.prog (m + 3) 33 ps) : ∃ x : Do, ps = eDo.enc x ∧ WT33 x := by
  unfold Flat at h
  rw [Try.underlying33] at h
  obtain ⟨a0, b0, e0, h0, a1, b1, e1, h1, a2, b2, e2, h2, a3, b3, e3, h3, a4, b4, e4, h4, el⟩ := h
  obtain ⟨x0, rfl, w0⟩ := flat3 (m := m + 1) h0
  obtain ⟨x1, rfl, w1⟩ := flat3 (m := m + 1) h1
  obtain ⟨x2, rfl, w2⟩ := flat29 (m := m + 0) h2
  obtain ⟨x3, rfl, w3⟩ := flat30 (m := m + 0) h3
  obtain ⟨x4, rfl, w4⟩ := flat31 (m := m + 1) h4
  subst el
  subst e4
  subst e3
  subst e2
  subst e1
  subst e0
  exact ⟨⟨x0, x1, x2, x3, x4⟩, rfl, w0, w1, w2, w3, w4⟩
def WT22 (s : Sl Do) : Prop := s.D.length ≤ maxLen ∧ (s.nil = true → s.D = []) ∧ ∀ x ∈ s.D, WT33 x
set_option maxRecDepth 100000 in
theorem flat22 {m : Nat} {ps : List PV} (h : Flat Try.prog (m + 4) 22 ps) : ∃ s : Sl Do, ps = [.sl (some s.nil) s.D.length (encL eDo s.D)] ∧ WT22 s := by
  unfold Flat at h
  rw [Try.underlying22] at h
  obtain ⟨b, D, rfl, h1, h2, h3⟩ := h
  obtain ⟨D2, e1, e2, e3⟩ := enc_list (e := eDo) (W := fun x => WT33 x) D fun y hy => flat33 (h3 y hy)
  rw [e2, ← e1]
  exact ⟨⟨b, D2⟩, rfl, (by show D2.length ≤ _; rw [e1]; exact h1), (fun hb => by have := h2 hb; rw [this] at e1; exact List.eq_nil_of_length_eq_zero e1), e3⟩
end Go.Proofs.Ytpeeofofagfooaa
/- The contract of the law LinksRefused: it is true, whatever the input. No conditions. -/
namespace Go.Proofs.Ytpeeofofagfooaa
open Go.Am
theorem wf_u64 {x : Int} (h : (Lit.int .u64 x).wf = true) : 0 ≤ x ∧ x < 18446744073709551616 := by
  simp [Lit.wf, IntKind.min, IntKind.max, IntKind.bits, IntKind.signed] at h
  omega
theorem WT22.well {l : Sl Do} (w : WT22 l) : ∀ y ∈ l.D, (y.b.nil = true → y.b.D = []) ∧ 0 ≤ y.side ∧ y.side < 18446744073709551616 :=
  fun y hy => ⟨(w.2.2 y hy).2.2.2.1.2.1, wf_u64 (w.2.2 y hy).2.2.2.2⟩
theorem linksRefused_calls (l : Sl Do) (w : WT22 l) (k : Do) (wk : WT33 k) : PCalls Try.prog 7 [sS (some l.nil) eDo l.D, .agg [.pv (.lit (.int .i64 k.op)), .pv (.lit (.int .i64 k.i)), .pv (.lit (.int .i64 k.l.from_)), .pv (.lit (.int .i64 k.l.to)), sS (some k.b.nil) (eI .u8) k.b.D, .pv (.lit (.int .u64 k.side))]] (.pv (.bool true)) := by
  have r := lawRefused_calls l k (Nat.le_trans w.1 (by decide)) (Nat.le_trans wk.2.2.2.1.1 (by decide))
  rw [lawRefused_true l k w.well] at r
  exact r
end Go.Proofs.Ytpeeofofagfooaa
/- An abstract machine over the kit's calls, part 34: three rows of three numbers that are handed in. No conditions. -/
namespace Go.Am
section
variable {H : Type} {enc : TypeId × Value → H} {P : Program} {w : World} {base : Nat} {spare : Nat → Bool} {held : Bool}
end
end Go.Am
/- What all rows of this seat need: no knob is turned, the types are laid out. No conditions. -/
namespace Go.Proofs.Ytpeeofofagfooaa
open Go.Am
theorem own : ownKnob Try.prog.godebug = none := by kernel_rfl
theorem laidOut : laidOutB Try.prog = true := by kernel_rfl
end Go.Proofs.Ytpeeofofagfooaa
