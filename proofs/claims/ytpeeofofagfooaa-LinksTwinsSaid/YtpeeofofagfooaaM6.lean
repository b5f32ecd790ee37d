import Derived.Test.YtpeeofofagfooaaM5
import Derived.Test.YtpeeofofagfooaaM2
import Derived.Test.YtpeeofofagfooaaM4
/- The document plays. No conditions. -/
namespace Go.Proofs.Ytpeeofofagfooaa
open Go.Am
def cloneDos (s : (Sl Do)) : (Sl Do) :=
  (bif s.nil then (Sl.mk true []) else (Sl.mk false s.D))
theorem cloneDos_calls (s : (Sl Do)) (_hl1 : s.D.length ≤ 1000000) : PCalls Try.prog 27 [sS (some s.nil) eDo s.D] (sS (some (cloneDos s).nil) eDo ((cloneDos s).D)) := by
 generalize hR : cloneDos s = R
 refine PCalls.of_body tabOk Try.func27 rfl rfl rfl rfl rfl mixed fun E hP C hI => ?_
 refine Awp.consP C ?_
 refine rvP C (sS (some true) eDo []) ?_
 refine rvc_nil ?_
 refine Awp.seq ?_
 refine Awp.consP C ?_
 refine rvP C (sS (some s.nil) eDo s.D) ?_
 refine rvc_un (rexec_eqNil C (f := s.nil) rfl rfl rfl rfl ?_)
 refine rvc_nil ?_
 refine Awp.cond (b := s.nil) rfl (fun h1 => ?_) (fun h1 => ?_)
 ·
  replace hR := of_true h1 hR
  refine Awp.consP C ?_
  refine rvP C (sS (some true) eDo []) ?_
  refine rvc_nil ?_
  refine Awp.ret ?_
  subst hR
  exact ⟨.inl rfl, rfl⟩
 ·
  replace hR := of_false h1 hR
  refine Awp.skip ?_
  refine Awp.consP C ?_
  refine rvc_un (rexec_prim C (δ := { v := .sl 5 0 0 6 true, new := [(5, .cells (encC eDo []))] }) rfl rfl rfl rfl trivial rfl ?_)
  refine rvP C (sS (some s.nil) eDo s.D) ?_
  refine rvc_un (rexec_append C rfl rfl rfl rfl rfl rfl rfl rfl (fun _ h => by cases h) rfl (en := eDo) (D0 := []) (D := s.D) rfl rfl rfl rfl (by first | omega | (simp <;> omega)) (by decide) (nn := s.D.length) (by simp) ?_)
  refine rvP C (.sl 7 0 s.D.length 6 false) ?_
  refine rvc_nil ?_
  refine Awp.freezeW 7 (encL eDo s.D) ?_ [(2, sS (some false) eDo s.D)] [] ?_ ?_ ?_
  · rfl
  · exact ⟨⟨_, rfl, .inl (.inr ⟨_, _, _, rfl, rfl⟩)⟩, trivial⟩
  · exact trivial
  refine Awp.ret ?_
  subst hR
  exact ⟨.inl rfl, rfl⟩
def cloneDosO (s : (Sl Do)) : List Do :=
  s.D
theorem cloneDosO_calls (s : (Sl Do)) (hn : s.nil = false) (_hl1 : s.D.length ≤ 1000000) : OCalls Try.prog 27 [sS (some s.nil) eDo s.D] (.sl 0 0 (cloneDosO s).length 6 false) (.cells (encC eDo (cloneDosO s))) := by
 generalize hR : cloneDosO s = R
 refine OCalls.of_body tabOk Try.func27 rfl rfl rfl rfl rfl (encC_within _ _) mixed fun E hP C hI => ?_
 refine Awp.consP C ?_
 refine rvP C (sS (some true) eDo []) ?_
 refine rvc_nil ?_
 refine Awp.seq ?_
 refine Awp.consP C ?_
 refine rvP C (sS (some s.nil) eDo s.D) ?_
 refine rvc_un (rexec_eqNil C (f := s.nil) rfl rfl rfl rfl ?_)
 refine rvc_nil ?_
 refine Awp.condF (b := s.nil) rfl hn ?_
 refine Awp.skip ?_
 refine Awp.consP C ?_
 refine rvc_un (rexec_prim C (δ := { v := .sl 5 0 0 6 true, new := [(5, .cells (encC eDo []))] }) rfl rfl rfl rfl trivial rfl ?_)
 refine rvP C (sS (some s.nil) eDo s.D) ?_
 refine rvc_un (rexec_append C rfl rfl rfl rfl rfl rfl rfl rfl (fun _ h => by cases h) rfl (en := eDo) (D0 := []) (D := s.D) rfl rfl rfl rfl (by first | omega | (simp <;> omega)) (by decide) (nn := s.D.length) (by simp) ?_)
 refine rvP C (.sl 7 0 s.D.length 6 false) ?_
 refine rvc_nil ?_
 refine Awp.weakenR (S := [(2, .sl 0 0 s.D.length 6 false)]) (H := [(0, .cells (encC eDo s.D))]) (U := [0]) (fun x => bif x == 0 then 7 else x) (WeakerR.ofL (Ks := [0]) hI ⟨⟨rfl, rfl⟩, trivial⟩ (okH_list rfl rfl rfl okH_nil) rfl) ?_
 refine Awp.ret ?_
 subst hR
 exact ⟨.inl rfl, rfl, rfl⟩
theorem cloneDosO_nil (s : Sl Do) (h : s.nil = true) (hl : s.D.length ≤ 1000000) : PCalls Try.prog 27 [sS (some s.nil) eDo s.D] (sS (some true) eDo []) := by
  have r := cloneDos_calls s hl
  rw [show cloneDos s = Sl.mk true [] by unfold cloneDos; rw [h]; rfl] at r
  exact r
def playT_l0 : List Do → Nat → Net51 → Net51
  | [], _, vc => vc
  | x :: xs, i, vc => playT_l0 xs (i + 1) (also vc x).1
def playT (l : (Sl Do)) (more : (Sl Do)) : Net51 :=
  (bif l.nil then (bif more.D.isEmpty then playT_l0 ([] : List Do) 0 (Net51.mk (Sl.mk true []) (ofL [false, false, false, false, false, false, false, false, false, false, false, false, false, false, false, false, false, false, false, false, false, false, false, false, false, false, false, false, false, false, false, false, false, false, false, false, false, false, false, false, false, false, false, false, false, false, false, false, false, false, false, false, false, false, false, false, false, false, false, false, false, false, false, false]) 0) else playT_l0 more.D 0 (Net51.mk (Sl.mk true []) (ofL [false, false, false, false, false, false, false, false, false, false, false, false, false, false, false, false, false, false, false, false, false, false, false, false, false, false, false, false, false, false, false, false, false, false, false, false, false, false, false, false, false, false, false, false, false, false, false, false, false, false, false, false, false, false, false, false, false, false, false, false, false, false, false, false]) 0)) else playT_l0 (l.D ++ more.D) 0 (Net51.mk (Sl.mk true []) (ofL [false, false, false, false, false, false, false, false, false, false, false, false, false, false, false, false, false, false, false, false, false, false, false, false, false, false, false, false, false, false, false, false, false, false, false, false, false, false, false, false, false, false, false, false, false, false, false, false, false, false, false, false, false, false, false, false, false, false, false, false, false, false, false, false]) 0))
theorem playT_calls (l : (Sl Do)) (more : (Sl Do)) (_hl1 : more.D.length ≤ 1000) (_hl2 : l.D.length ≤ 1000) : OCalls Try.prog 26 [sS (some l.nil) eDo l.D, sS (some more.nil) eDo more.D] (.ptr 0 0) (.cells [sS (some (playT l more).items.nil) eItem ((playT l more).items.D), .pv (.lit (.bool ((playT l more).side 0))), .pv (.lit (.bool ((playT l more).side 1))), .pv (.lit (.bool ((playT l more).side 2))), .pv (.lit (.bool ((playT l more).side 3))), .pv (.lit (.bool ((playT l more).side 4))), .pv (.lit (.bool ((playT l more).side 5))), .pv (.lit (.bool ((playT l more).side 6))), .pv (.lit (.bool ((playT l more).side 7))), .pv (.lit (.bool ((playT l more).side 8))), .pv (.lit (.bool ((playT l more).side 9))), .pv (.lit (.bool ((playT l more).side 10))), .pv (.lit (.bool ((playT l more).side 11))), .pv (.lit (.bool ((playT l more).side 12))), .pv (.lit (.bool ((playT l more).side 13))), .pv (.lit (.bool ((playT l more).side 14))), .pv (.lit (.bool ((playT l more).side 15))), .pv (.lit (.bool ((playT l more).side 16))), .pv (.lit (.bool ((playT l more).side 17))), .pv (.lit (.bool ((playT l more).side 18))), .pv (.lit (.bool ((playT l more).side 19))), .pv (.lit (.bool ((playT l more).side 20))), .pv (.lit (.bool ((playT l more).side 21))), .pv (.lit (.bool ((playT l more).side 22))), .pv (.lit (.bool ((playT l more).side 23))), .pv (.lit (.bool ((playT l more).side 24))), .pv (.lit (.bool ((playT l more).side 25))), .pv (.lit (.bool ((playT l more).side 26))), .pv (.lit (.bool ((playT l more).side 27))), .pv (.lit (.bool ((playT l more).side 28))), .pv (.lit (.bool ((playT l more).side 29))), .pv (.lit (.bool ((playT l more).side 30))), .pv (.lit (.bool ((playT l more).side 31))), .pv (.lit (.bool ((playT l more).side 32))), .pv (.lit (.bool ((playT l more).side 33))), .pv (.lit (.bool ((playT l more).side 34))), .pv (.lit (.bool ((playT l more).side 35))), .pv (.lit (.bool ((playT l more).side 36))), .pv (.lit (.bool ((playT l more).side 37))), .pv (.lit (.bool ((playT l more).side 38))), .pv (.lit (.bool ((playT l more).side 39))), .pv (.lit (.bool ((playT l more).side 40))), .pv (.lit (.bool ((playT l more).side 41))), .pv (.lit (.bool ((playT l more).side 42))), .pv (.lit (.bool ((playT l more).side 43))), .pv (.lit (.bool ((playT l more).side 44))), .pv (.lit (.bool ((playT l more).side 45))), .pv (.lit (.bool ((playT l more).side 46))), .pv (.lit (.bool ((playT l more).side 47))), .pv (.lit (.bool ((playT l more).side 48))), .pv (.lit (.bool ((playT l more).side 49))), .pv (.lit (.bool ((playT l more).side 50))), .pv (.lit (.bool ((playT l more).side 51))), .pv (.lit (.bool ((playT l more).side 52))), .pv (.lit (.bool ((playT l more).side 53))), .pv (.lit (.bool ((playT l more).side 54))), .pv (.lit (.bool ((playT l more).side 55))), .pv (.lit (.bool ((playT l more).side 56))), .pv (.lit (.bool ((playT l more).side 57))), .pv (.lit (.bool ((playT l more).side 58))), .pv (.lit (.bool ((playT l more).side 59))), .pv (.lit (.bool ((playT l more).side 60))), .pv (.lit (.bool ((playT l more).side 61))), .pv (.lit (.bool ((playT l more).side 62))), .pv (.lit (.bool ((playT l more).side 63))), .pv (.lit (.int .i64 ((playT l more).lost)))]) := by
 generalize hR : playT l more = R
 refine OCalls.of_body tabOk Try.func26 rfl rfl rfl rfl rfl rfl mixed fun E hP C hI => ?_
 refine Awp.consP C ?_
 refine rvP C (.pv (.lit (.pointer none))) ?_
 refine rvc_nil ?_
 refine Awp.consP C ?_
 refine rvP C (.agg [sS (some true) eItem [], .pv (.lit (.bool false)), .pv (.lit (.bool false)), .pv (.lit (.bool false)), .pv (.lit (.bool false)), .pv (.lit (.bool false)), .pv (.lit (.bool false)), .pv (.lit (.bool false)), .pv (.lit (.bool false)), .pv (.lit (.bool false)), .pv (.lit (.bool false)), .pv (.lit (.bool false)), .pv (.lit (.bool false)), .pv (.lit (.bool false)), .pv (.lit (.bool false)), .pv (.lit (.bool false)), .pv (.lit (.bool false)), .pv (.lit (.bool false)), .pv (.lit (.bool false)), .pv (.lit (.bool false)), .pv (.lit (.bool false)), .pv (.lit (.bool false)), .pv (.lit (.bool false)), .pv (.lit (.bool false)), .pv (.lit (.bool false)), .pv (.lit (.bool false)), .pv (.lit (.bool false)), .pv (.lit (.bool false)), .pv (.lit (.bool false)), .pv (.lit (.bool false)), .pv (.lit (.bool false)), .pv (.lit (.bool false)), .pv (.lit (.bool false)), .pv (.lit (.bool false)), .pv (.lit (.bool false)), .pv (.lit (.bool false)), .pv (.lit (.bool false)), .pv (.lit (.bool false)), .pv (.lit (.bool false)), .pv (.lit (.bool false)), .pv (.lit (.bool false)), .pv (.lit (.bool false)), .pv (.lit (.bool false)), .pv (.lit (.bool false)), .pv (.lit (.bool false)), .pv (.lit (.bool false)), .pv (.lit (.bool false)), .pv (.lit (.bool false)), .pv (.lit (.bool false)), .pv (.lit (.bool false)), .pv (.lit (.bool false)), .pv (.lit (.bool false)), .pv (.lit (.bool false)), .pv (.lit (.bool false)), .pv (.lit (.bool false)), .pv (.lit (.bool false)), .pv (.lit (.bool false)), .pv (.lit (.bool false)), .pv (.lit (.bool false)), .pv (.lit (.bool false)), .pv (.lit (.bool false)), .pv (.lit (.bool false)), .pv (.lit (.bool false)), .pv (.lit (.bool false)), .pv (.lit (.bool false)), .pv (.lit (.int .i64 0))]) ?_
 refine rvc_un (rexec_prim C (δ := { v := .ptr 9 0, new := [(9, .cells [sS (some true) eItem [], .pv (.lit (.bool false)), .pv (.lit (.bool false)), .pv (.lit (.bool false)), .pv (.lit (.bool false)), .pv (.lit (.bool false)), .pv (.lit (.bool false)), .pv (.lit (.bool false)), .pv (.lit (.bool false)), .pv (.lit (.bool false)), .pv (.lit (.bool false)), .pv (.lit (.bool false)), .pv (.lit (.bool false)), .pv (.lit (.bool false)), .pv (.lit (.bool false)), .pv (.lit (.bool false)), .pv (.lit (.bool false)), .pv (.lit (.bool false)), .pv (.lit (.bool false)), .pv (.lit (.bool false)), .pv (.lit (.bool false)), .pv (.lit (.bool false)), .pv (.lit (.bool false)), .pv (.lit (.bool false)), .pv (.lit (.bool false)), .pv (.lit (.bool false)), .pv (.lit (.bool false)), .pv (.lit (.bool false)), .pv (.lit (.bool false)), .pv (.lit (.bool false)), .pv (.lit (.bool false)), .pv (.lit (.bool false)), .pv (.lit (.bool false)), .pv (.lit (.bool false)), .pv (.lit (.bool false)), .pv (.lit (.bool false)), .pv (.lit (.bool false)), .pv (.lit (.bool false)), .pv (.lit (.bool false)), .pv (.lit (.bool false)), .pv (.lit (.bool false)), .pv (.lit (.bool false)), .pv (.lit (.bool false)), .pv (.lit (.bool false)), .pv (.lit (.bool false)), .pv (.lit (.bool false)), .pv (.lit (.bool false)), .pv (.lit (.bool false)), .pv (.lit (.bool false)), .pv (.lit (.bool false)), .pv (.lit (.bool false)), .pv (.lit (.bool false)), .pv (.lit (.bool false)), .pv (.lit (.bool false)), .pv (.lit (.bool false)), .pv (.lit (.bool false)), .pv (.lit (.bool false)), .pv (.lit (.bool false)), .pv (.lit (.bool false)), .pv (.lit (.bool false)), .pv (.lit (.bool false)), .pv (.lit (.bool false)), .pv (.lit (.bool false)), .pv (.lit (.bool false)), .pv (.lit (.bool false)), .pv (.lit (.int .i64 0))])] }) rfl rfl rfl rfl trivial rfl ?_)
 refine rvP C (.ptr 9 0) ?_
 refine rvc_nil ?_
 refine Awp.seq ?_
 refine Awp.cons C (fun _ => .quiet) (by kernel_rfl) ?_
 refine rvP C (sS (some l.nil) eDo l.D) ?_
 rcases Bool.eq_false_or_eq_true l.nil with h1 | h1
 ·
  replace hR := of_true h1 hR
  refine rvc_un (rexec_call hP C rfl rfl rfl (cloneDosO_nil l h1 (by omega)) ?_)
  refine rvP C (sS (some more.nil) eDo more.D) ?_
  rcases Bool.eq_false_or_eq_true more.D.isEmpty with h2 | h2
  ·
   replace hR := of_true h2 hR
   refine rvc_un (rexec_append00 C rfl rfl rfl rfl rfl rfl rfl (fun _ h => by cases h) (by decide) (en := eDo) (D := more.D) rfl (List.isEmpty_iff.1 h2) ?_)
   refine rvP C (.pv (.lit (.int .i64 (([] : List Do).length : Int)))) ?_
   refine rvP C (.pv (.lit (.int .i64 0))) ?_
   refine rvc_nil ?_
   refine Awp.block ?_
   refine Awp.forR (σ := Net51) (([] : List Do).length) (fun i v => [(5, .ptr 9 0), (13, sS (some true) eDo ([] : List Do)), (14, .pv (.lit (.int .i64 (([] : List Do).length : Int)))), (15, .pv (.lit (.int .i64 (i : Int))))]) (fun i v => [(9, .cells [sS (some v.items.nil) eItem v.items.D, .pv (.lit (.bool (v.side 0))), .pv (.lit (.bool (v.side 1))), .pv (.lit (.bool (v.side 2))), .pv (.lit (.bool (v.side 3))), .pv (.lit (.bool (v.side 4))), .pv (.lit (.bool (v.side 5))), .pv (.lit (.bool (v.side 6))), .pv (.lit (.bool (v.side 7))), .pv (.lit (.bool (v.side 8))), .pv (.lit (.bool (v.side 9))), .pv (.lit (.bool (v.side 10))), .pv (.lit (.bool (v.side 11))), .pv (.lit (.bool (v.side 12))), .pv (.lit (.bool (v.side 13))), .pv (.lit (.bool (v.side 14))), .pv (.lit (.bool (v.side 15))), .pv (.lit (.bool (v.side 16))), .pv (.lit (.bool (v.side 17))), .pv (.lit (.bool (v.side 18))), .pv (.lit (.bool (v.side 19))), .pv (.lit (.bool (v.side 20))), .pv (.lit (.bool (v.side 21))), .pv (.lit (.bool (v.side 22))), .pv (.lit (.bool (v.side 23))), .pv (.lit (.bool (v.side 24))), .pv (.lit (.bool (v.side 25))), .pv (.lit (.bool (v.side 26))), .pv (.lit (.bool (v.side 27))), .pv (.lit (.bool (v.side 28))), .pv (.lit (.bool (v.side 29))), .pv (.lit (.bool (v.side 30))), .pv (.lit (.bool (v.side 31))), .pv (.lit (.bool (v.side 32))), .pv (.lit (.bool (v.side 33))), .pv (.lit (.bool (v.side 34))), .pv (.lit (.bool (v.side 35))), .pv (.lit (.bool (v.side 36))), .pv (.lit (.bool (v.side 37))), .pv (.lit (.bool (v.side 38))), .pv (.lit (.bool (v.side 39))), .pv (.lit (.bool (v.side 40))), .pv (.lit (.bool (v.side 41))), .pv (.lit (.bool (v.side 42))), .pv (.lit (.bool (v.side 43))), .pv (.lit (.bool (v.side 44))), .pv (.lit (.bool (v.side 45))), .pv (.lit (.bool (v.side 46))), .pv (.lit (.bool (v.side 47))), .pv (.lit (.bool (v.side 48))), .pv (.lit (.bool (v.side 49))), .pv (.lit (.bool (v.side 50))), .pv (.lit (.bool (v.side 51))), .pv (.lit (.bool (v.side 52))), .pv (.lit (.bool (v.side 53))), .pv (.lit (.bool (v.side 54))), .pv (.lit (.bool (v.side 55))), .pv (.lit (.bool (v.side 56))), .pv (.lit (.bool (v.side 57))), .pv (.lit (.bool (v.side 58))), .pv (.lit (.bool (v.side 59))), .pv (.lit (.bool (v.side 60))), .pv (.lit (.bool (v.side 61))), .pv (.lit (.bool (v.side 62))), .pv (.lit (.bool (v.side 63))), .pv (.lit (.int .i64 v.lost))])]) [9] (fun i v => (playT_l0 (([] : List Do).drop i) i v = R) ∧ (okRL i v ∧ i ≤ 2000)) (Net51.mk (Sl.mk true []) (ofL [false, false, false, false, false, false, false, false, false, false, false, false, false, false, false, false, false, false, false, false, false, false, false, false, false, false, false, false, false, false, false, false, false, false, false, false, false, false, false, false, false, false, false, false, false, false, false, false, false, false, false, false, false, false, false, false, false, false, false, false, false, false, false, false]) 0) ?_ ?_ (fun i vc h3 hR => ?_)
   · exact ⟨hR, ⟨⟨(fun _ h => by cases h), Nat.le_refl _⟩, Nat.zero_le _⟩⟩
   · exact ⟨fun b => b, WeakerR.ofL (Ks := [9]) hI ⟨⟨rfl, rfl⟩, ⟨rfl, rfl⟩, ⟨rfl, rfl⟩, ⟨rfl, rfl⟩, trivial⟩ (okH_cons rfl rfl rfl rfl (okH_nil)) rfl⟩
   obtain ⟨hR, ⟨hVx, hVi⟩⟩ := hR
   refine Awp.consP C ?_
   refine rvP C (.pv (.lit (.bool (decide ((i : Int) < (([] : List Do).length : Int)))))) ?_
   refine rvc_nil ?_
   refine Awp.seq ?_
   refine Awp.cond (b := (decide ((i : Int) < (([] : List Do).length : Int)))) rfl (fun h4 => ?_) (fun h4 => ?_)
   ·
    have h5 : i < ([] : List Do).length := by have := of_decide_eq_true h4; omega
    obtain ⟨x, h6⟩ := getX h5
    rw [drop_at h6] at hR
    refine Awp.skip ?_
    refine Awp.seq ?_
    refine Awp.block ?_
    refine Awp.consP C ?_
    refine rvc_un (rexec_idxS C rfl rfl rfl rfl rfl rfl x (Int.natCast_nonneg _) h6 ?_)
    refine rvP C (.agg [.pv (.lit (.int .i64 x.op)), .pv (.lit (.int .i64 x.i)), .pv (.lit (.int .i64 x.l.from_)), .pv (.lit (.int .i64 x.l.to)), sS (some x.b.nil) (eI .u8) x.b.D, .pv (.lit (.int .u64 x.side))]) ?_
    refine rvc_un (rexec_prim C (δ := { v := .ptr 7 0, new := [(7, .cells [.pv (.lit (.int .i64 0)), .pv (.lit (.int .i64 0)), .pv (.lit (.int .i64 0)), .pv (.lit (.int .i64 0)), sS (some true) (eI .u8) [], .pv (.lit (.int .u64 0))])] }) rfl rfl rfl rfl trivial rfl ?_)
    refine rvc_un (rexec_prim C (δ := { v := .undef, wr := [(7, some (.cells [.pv (.lit (.int .i64 x.op)), .pv (.lit (.int .i64 x.i)), .pv (.lit (.int .i64 x.l.from_)), .pv (.lit (.int .i64 x.l.to)), sS (some x.b.nil) (eI .u8) x.b.D, .pv (.lit (.int .u64 x.side))]))] }) rfl rfl rfl rfl trivial rfl ?_)
    refine rvc_nil ?_
    refine Awp.region C (fun _ => .writer) (by kernel_rfl) ?_
    refine rvP C (.ptr 9 0) ?_
    refine rvP C (.agg [.pv (.lit (.int .i64 x.op)), .pv (.lit (.int .i64 x.i)), .pv (.lit (.int .i64 x.l.from_)), .pv (.lit (.int .i64 x.l.to)), sS (some x.b.nil) (eI .u8) x.b.D, .pv (.lit (.int .u64 x.side))]) ?_
    obtain ⟨dx, hq_dx⟩ : ∃ q_, q_ = (also vc x) := ⟨_, rfl⟩
    have hc_dx := (also_calls vc x hVx.1 (Nat.le_trans hVx.2 (by omega)))
    first | rw [← hq_dx] at hR hc_dx | (unfold playT at hR; rw [← hq_dx] at hR hc_dx) | (unfold playT_l0 at hR; rw [← hq_dx] at hR hc_dx)
    have hf0_dx := also_ok (x := vc) hVx (by omega) x
    rw [← hq_dx] at hf0_dx
    refine rvc_un (rexec_callM hP C (b := 9) rfl rfl rfl hc_dx rfl rfl ?_)
    refine rvc_nil ?_
    refine Awp.regionP C ?_
    refine rvP C (.pv (.lit (.int .i64 (IntKind.i64.wrap ((i : Int) + 1))))) ?_
    refine rvP C (.pv (.lit (.int .i64 (IntKind.i64.wrap ((i : Int) + 1))))) ?_
    refine rvc_nil ?_
    refine ⟨h5, dx.1, ?_, ?_⟩
    · exact ⟨hR, ⟨hf0_dx, by first | omega | (simp at * <;> omega)⟩⟩
    · exact ⟨fun b => b, WeakerR.ofL (Ks := [9]) hI ⟨⟨rfl, rfl⟩, ⟨rfl, rfl⟩, ⟨rfl, rfl⟩, ⟨lit_cast (wrap_i64 (by omega) (by omega)), rfl⟩, trivial⟩ (okH_cons rfl rfl rfl rfl (okH_nil)) rfl⟩
   ·
    have h5 : ¬ i < ([] : List Do).length := by have := of_decide_eq_false h4; omega
    rw [drop_end h5] at hR
    refine Awp.exit ?_
    refine Awp.consP C ?_
    refine rvP C (.ptr 9 0) ?_
    refine rvP C (.ptr 9 0) ?_
    refine rvc_nil ?_
    refine Awp.weakenR (S := [(4, .ptr 0 0)]) (H := [(0, .cells [sS (some vc.items.nil) eItem vc.items.D, .pv (.lit (.bool (vc.side 0))), .pv (.lit (.bool (vc.side 1))), .pv (.lit (.bool (vc.side 2))), .pv (.lit (.bool (vc.side 3))), .pv (.lit (.bool (vc.side 4))), .pv (.lit (.bool (vc.side 5))), .pv (.lit (.bool (vc.side 6))), .pv (.lit (.bool (vc.side 7))), .pv (.lit (.bool (vc.side 8))), .pv (.lit (.bool (vc.side 9))), .pv (.lit (.bool (vc.side 10))), .pv (.lit (.bool (vc.side 11))), .pv (.lit (.bool (vc.side 12))), .pv (.lit (.bool (vc.side 13))), .pv (.lit (.bool (vc.side 14))), .pv (.lit (.bool (vc.side 15))), .pv (.lit (.bool (vc.side 16))), .pv (.lit (.bool (vc.side 17))), .pv (.lit (.bool (vc.side 18))), .pv (.lit (.bool (vc.side 19))), .pv (.lit (.bool (vc.side 20))), .pv (.lit (.bool (vc.side 21))), .pv (.lit (.bool (vc.side 22))), .pv (.lit (.bool (vc.side 23))), .pv (.lit (.bool (vc.side 24))), .pv (.lit (.bool (vc.side 25))), .pv (.lit (.bool (vc.side 26))), .pv (.lit (.bool (vc.side 27))), .pv (.lit (.bool (vc.side 28))), .pv (.lit (.bool (vc.side 29))), .pv (.lit (.bool (vc.side 30))), .pv (.lit (.bool (vc.side 31))), .pv (.lit (.bool (vc.side 32))), .pv (.lit (.bool (vc.side 33))), .pv (.lit (.bool (vc.side 34))), .pv (.lit (.bool (vc.side 35))), .pv (.lit (.bool (vc.side 36))), .pv (.lit (.bool (vc.side 37))), .pv (.lit (.bool (vc.side 38))), .pv (.lit (.bool (vc.side 39))), .pv (.lit (.bool (vc.side 40))), .pv (.lit (.bool (vc.side 41))), .pv (.lit (.bool (vc.side 42))), .pv (.lit (.bool (vc.side 43))), .pv (.lit (.bool (vc.side 44))), .pv (.lit (.bool (vc.side 45))), .pv (.lit (.bool (vc.side 46))), .pv (.lit (.bool (vc.side 47))), .pv (.lit (.bool (vc.side 48))), .pv (.lit (.bool (vc.side 49))), .pv (.lit (.bool (vc.side 50))), .pv (.lit (.bool (vc.side 51))), .pv (.lit (.bool (vc.side 52))), .pv (.lit (.bool (vc.side 53))), .pv (.lit (.bool (vc.side 54))), .pv (.lit (.bool (vc.side 55))), .pv (.lit (.bool (vc.side 56))), .pv (.lit (.bool (vc.side 57))), .pv (.lit (.bool (vc.side 58))), .pv (.lit (.bool (vc.side 59))), .pv (.lit (.bool (vc.side 60))), .pv (.lit (.bool (vc.side 61))), .pv (.lit (.bool (vc.side 62))), .pv (.lit (.bool (vc.side 63))), .pv (.lit (.int .i64 vc.lost))])]) (U := [0]) (fun x => bif x == 0 then 9 else x) (WeakerR.ofL (Ks := [0]) hI ⟨⟨rfl, rfl⟩, trivial⟩ (okH_cons rfl rfl rfl rfl okH_nil) rfl) ?_
    refine Awp.ret ?_
    subst hR
    exact ⟨.inl rfl, rfl, rfl⟩
  ·
   replace hR := of_false h2 hR
   refine rvc_un (rexec_appendN C rfl rfl rfl rfl rfl rfl rfl rfl (fun _ h => by cases h) rfl (en := eDo) (D := more.D) rfl rfl (List.length_pos_iff.2 (by simpa using ‹more.D.isEmpty = false›)) (by simp; omega) (by decide) (nn := more.D.length) rfl ?_)
   refine rvP C (.pv (.lit (.int .i64 (more.D.length : Int)))) ?_
   refine rvP C (.pv (.lit (.int .i64 0))) ?_
   refine rvc_nil ?_
   refine Awp.block ?_
   refine Awp.freezeW 13 (encL eDo more.D) ?_ [(4, .pv (.lit (.pointer none))), (5, .ptr 9 0), (13, sS (some false) eDo more.D), (14, .pv (.lit (.int .i64 (more.D.length : Int)))), (15, .pv (.lit (.int .i64 0)))] [(9, .cells [sS (some true) eItem [], .pv (.lit (.bool false)), .pv (.lit (.bool false)), .pv (.lit (.bool false)), .pv (.lit (.bool false)), .pv (.lit (.bool false)), .pv (.lit (.bool false)), .pv (.lit (.bool false)), .pv (.lit (.bool false)), .pv (.lit (.bool false)), .pv (.lit (.bool false)), .pv (.lit (.bool false)), .pv (.lit (.bool false)), .pv (.lit (.bool false)), .pv (.lit (.bool false)), .pv (.lit (.bool false)), .pv (.lit (.bool false)), .pv (.lit (.bool false)), .pv (.lit (.bool false)), .pv (.lit (.bool false)), .pv (.lit (.bool false)), .pv (.lit (.bool false)), .pv (.lit (.bool false)), .pv (.lit (.bool false)), .pv (.lit (.bool false)), .pv (.lit (.bool false)), .pv (.lit (.bool false)), .pv (.lit (.bool false)), .pv (.lit (.bool false)), .pv (.lit (.bool false)), .pv (.lit (.bool false)), .pv (.lit (.bool false)), .pv (.lit (.bool false)), .pv (.lit (.bool false)), .pv (.lit (.bool false)), .pv (.lit (.bool false)), .pv (.lit (.bool false)), .pv (.lit (.bool false)), .pv (.lit (.bool false)), .pv (.lit (.bool false)), .pv (.lit (.bool false)), .pv (.lit (.bool false)), .pv (.lit (.bool false)), .pv (.lit (.bool false)), .pv (.lit (.bool false)), .pv (.lit (.bool false)), .pv (.lit (.bool false)), .pv (.lit (.bool false)), .pv (.lit (.bool false)), .pv (.lit (.bool false)), .pv (.lit (.bool false)), .pv (.lit (.bool false)), .pv (.lit (.bool false)), .pv (.lit (.bool false)), .pv (.lit (.bool false)), .pv (.lit (.bool false)), .pv (.lit (.bool false)), .pv (.lit (.bool false)), .pv (.lit (.bool false)), .pv (.lit (.bool false)), .pv (.lit (.bool false)), .pv (.lit (.bool false)), .pv (.lit (.bool false)), .pv (.lit (.bool false)), .pv (.lit (.bool false)), .pv (.lit (.int .i64 0))])] ?_ ?_ ?_
   · rfl
   · exact ⟨⟨_, rfl, .inl (.inl rfl)⟩, ⟨_, rfl, .inl (.inl rfl)⟩, ⟨_, rfl, .inl (.inr ⟨_, _, _, rfl, rfl⟩)⟩, ⟨_, rfl, .inl (.inl rfl)⟩, ⟨_, rfl, .inl (.inl rfl)⟩, trivial⟩
   · exact ⟨⟨(by show (9 : Nat) ≠ 13; decide), .inl rfl⟩, trivial⟩
   refine Awp.forR (σ := Net51) (more.D.length) (fun i v => [(5, .ptr 9 0), (13, sS (some false) eDo more.D), (14, .pv (.lit (.int .i64 (more.D.length : Int)))), (15, .pv (.lit (.int .i64 (i : Int))))]) (fun i v => [(9, .cells [sS (some v.items.nil) eItem v.items.D, .pv (.lit (.bool (v.side 0))), .pv (.lit (.bool (v.side 1))), .pv (.lit (.bool (v.side 2))), .pv (.lit (.bool (v.side 3))), .pv (.lit (.bool (v.side 4))), .pv (.lit (.bool (v.side 5))), .pv (.lit (.bool (v.side 6))), .pv (.lit (.bool (v.side 7))), .pv (.lit (.bool (v.side 8))), .pv (.lit (.bool (v.side 9))), .pv (.lit (.bool (v.side 10))), .pv (.lit (.bool (v.side 11))), .pv (.lit (.bool (v.side 12))), .pv (.lit (.bool (v.side 13))), .pv (.lit (.bool (v.side 14))), .pv (.lit (.bool (v.side 15))), .pv (.lit (.bool (v.side 16))), .pv (.lit (.bool (v.side 17))), .pv (.lit (.bool (v.side 18))), .pv (.lit (.bool (v.side 19))), .pv (.lit (.bool (v.side 20))), .pv (.lit (.bool (v.side 21))), .pv (.lit (.bool (v.side 22))), .pv (.lit (.bool (v.side 23))), .pv (.lit (.bool (v.side 24))), .pv (.lit (.bool (v.side 25))), .pv (.lit (.bool (v.side 26))), .pv (.lit (.bool (v.side 27))), .pv (.lit (.bool (v.side 28))), .pv (.lit (.bool (v.side 29))), .pv (.lit (.bool (v.side 30))), .pv (.lit (.bool (v.side 31))), .pv (.lit (.bool (v.side 32))), .pv (.lit (.bool (v.side 33))), .pv (.lit (.bool (v.side 34))), .pv (.lit (.bool (v.side 35))), .pv (.lit (.bool (v.side 36))), .pv (.lit (.bool (v.side 37))), .pv (.lit (.bool (v.side 38))), .pv (.lit (.bool (v.side 39))), .pv (.lit (.bool (v.side 40))), .pv (.lit (.bool (v.side 41))), .pv (.lit (.bool (v.side 42))), .pv (.lit (.bool (v.side 43))), .pv (.lit (.bool (v.side 44))), .pv (.lit (.bool (v.side 45))), .pv (.lit (.bool (v.side 46))), .pv (.lit (.bool (v.side 47))), .pv (.lit (.bool (v.side 48))), .pv (.lit (.bool (v.side 49))), .pv (.lit (.bool (v.side 50))), .pv (.lit (.bool (v.side 51))), .pv (.lit (.bool (v.side 52))), .pv (.lit (.bool (v.side 53))), .pv (.lit (.bool (v.side 54))), .pv (.lit (.bool (v.side 55))), .pv (.lit (.bool (v.side 56))), .pv (.lit (.bool (v.side 57))), .pv (.lit (.bool (v.side 58))), .pv (.lit (.bool (v.side 59))), .pv (.lit (.bool (v.side 60))), .pv (.lit (.bool (v.side 61))), .pv (.lit (.bool (v.side 62))), .pv (.lit (.bool (v.side 63))), .pv (.lit (.int .i64 v.lost))])]) [9] (fun i v => (playT_l0 (more.D.drop i) i v = R) ∧ (okRL i v ∧ i ≤ 2000)) (Net51.mk (Sl.mk true []) (ofL [false, false, false, false, false, false, false, false, false, false, false, false, false, false, false, false, false, false, false, false, false, false, false, false, false, false, false, false, false, false, false, false, false, false, false, false, false, false, false, false, false, false, false, false, false, false, false, false, false, false, false, false, false, false, false, false, false, false, false, false, false, false, false, false]) 0) ?_ ?_ (fun i vc h7 hR => ?_)
   · exact ⟨hR, ⟨⟨(fun _ h => by cases h), Nat.le_refl _⟩, Nat.zero_le _⟩⟩
   · exact ⟨fun b => b, WeakerR.ofL (Ks := [9]) hI ⟨⟨rfl, rfl⟩, ⟨rfl, rfl⟩, ⟨rfl, rfl⟩, ⟨rfl, rfl⟩, trivial⟩ (okH_cons rfl rfl rfl rfl (okH_nil)) rfl⟩
   obtain ⟨hR, ⟨hVx, hVi⟩⟩ := hR
   refine Awp.consP C ?_
   refine rvP C (.pv (.lit (.bool (decide ((i : Int) < (more.D.length : Int)))))) ?_
   refine rvc_nil ?_
   refine Awp.seq ?_
   refine Awp.cond (b := (decide ((i : Int) < (more.D.length : Int)))) rfl (fun h8 => ?_) (fun h8 => ?_)
   ·
    have h9 : i < more.D.length := by have := of_decide_eq_true h8; omega
    obtain ⟨x, h10⟩ := getX h9
    rw [drop_at h10] at hR
    refine Awp.skip ?_
    refine Awp.seq ?_
    refine Awp.block ?_
    refine Awp.consP C ?_
    refine rvc_un (rexec_idxS C rfl rfl rfl rfl rfl rfl x (Int.natCast_nonneg _) h10 ?_)
    refine rvP C (.agg [.pv (.lit (.int .i64 x.op)), .pv (.lit (.int .i64 x.i)), .pv (.lit (.int .i64 x.l.from_)), .pv (.lit (.int .i64 x.l.to)), sS (some x.b.nil) (eI .u8) x.b.D, .pv (.lit (.int .u64 x.side))]) ?_
    refine rvc_un (rexec_prim C (δ := { v := .ptr 7 0, new := [(7, .cells [.pv (.lit (.int .i64 0)), .pv (.lit (.int .i64 0)), .pv (.lit (.int .i64 0)), .pv (.lit (.int .i64 0)), sS (some true) (eI .u8) [], .pv (.lit (.int .u64 0))])] }) rfl rfl rfl rfl trivial rfl ?_)
    refine rvc_un (rexec_prim C (δ := { v := .undef, wr := [(7, some (.cells [.pv (.lit (.int .i64 x.op)), .pv (.lit (.int .i64 x.i)), .pv (.lit (.int .i64 x.l.from_)), .pv (.lit (.int .i64 x.l.to)), sS (some x.b.nil) (eI .u8) x.b.D, .pv (.lit (.int .u64 x.side))]))] }) rfl rfl rfl rfl trivial rfl ?_)
    refine rvc_nil ?_
    refine Awp.region C (fun _ => .writer) (by kernel_rfl) ?_
    refine rvP C (.ptr 9 0) ?_
    refine rvP C (.agg [.pv (.lit (.int .i64 x.op)), .pv (.lit (.int .i64 x.i)), .pv (.lit (.int .i64 x.l.from_)), .pv (.lit (.int .i64 x.l.to)), sS (some x.b.nil) (eI .u8) x.b.D, .pv (.lit (.int .u64 x.side))]) ?_
    obtain ⟨dx, hq_dx⟩ : ∃ q_, q_ = (also vc x) := ⟨_, rfl⟩
    have hc_dx := (also_calls vc x hVx.1 (Nat.le_trans hVx.2 (by omega)))
    first | rw [← hq_dx] at hR hc_dx | (unfold playT at hR; rw [← hq_dx] at hR hc_dx) | (unfold playT_l0 at hR; rw [← hq_dx] at hR hc_dx)
    have hf0_dx := also_ok (x := vc) hVx (by omega) x
    rw [← hq_dx] at hf0_dx
    refine rvc_un (rexec_callM hP C (b := 9) rfl rfl rfl hc_dx rfl rfl ?_)
    refine rvc_nil ?_
    refine Awp.regionP C ?_
    refine rvP C (.pv (.lit (.int .i64 (IntKind.i64.wrap ((i : Int) + 1))))) ?_
    refine rvP C (.pv (.lit (.int .i64 (IntKind.i64.wrap ((i : Int) + 1))))) ?_
    refine rvc_nil ?_
    refine ⟨h9, dx.1, ?_, ?_⟩
    · exact ⟨hR, ⟨hf0_dx, by first | omega | (simp at * <;> omega)⟩⟩
    · exact ⟨fun b => b, WeakerR.ofL (Ks := [9]) hI ⟨⟨rfl, rfl⟩, ⟨rfl, rfl⟩, ⟨rfl, rfl⟩, ⟨lit_cast (wrap_i64 (by omega) (by omega)), rfl⟩, trivial⟩ (okH_cons rfl rfl rfl rfl (okH_nil)) rfl⟩
   ·
    have h9 : ¬ i < more.D.length := by have := of_decide_eq_false h8; omega
    rw [drop_end h9] at hR
    refine Awp.exit ?_
    refine Awp.consP C ?_
    refine rvP C (.ptr 9 0) ?_
    refine rvP C (.ptr 9 0) ?_
    refine rvc_nil ?_
    refine Awp.weakenR (S := [(4, .ptr 0 0)]) (H := [(0, .cells [sS (some vc.items.nil) eItem vc.items.D, .pv (.lit (.bool (vc.side 0))), .pv (.lit (.bool (vc.side 1))), .pv (.lit (.bool (vc.side 2))), .pv (.lit (.bool (vc.side 3))), .pv (.lit (.bool (vc.side 4))), .pv (.lit (.bool (vc.side 5))), .pv (.lit (.bool (vc.side 6))), .pv (.lit (.bool (vc.side 7))), .pv (.lit (.bool (vc.side 8))), .pv (.lit (.bool (vc.side 9))), .pv (.lit (.bool (vc.side 10))), .pv (.lit (.bool (vc.side 11))), .pv (.lit (.bool (vc.side 12))), .pv (.lit (.bool (vc.side 13))), .pv (.lit (.bool (vc.side 14))), .pv (.lit (.bool (vc.side 15))), .pv (.lit (.bool (vc.side 16))), .pv (.lit (.bool (vc.side 17))), .pv (.lit (.bool (vc.side 18))), .pv (.lit (.bool (vc.side 19))), .pv (.lit (.bool (vc.side 20))), .pv (.lit (.bool (vc.side 21))), .pv (.lit (.bool (vc.side 22))), .pv (.lit (.bool (vc.side 23))), .pv (.lit (.bool (vc.side 24))), .pv (.lit (.bool (vc.side 25))), .pv (.lit (.bool (vc.side 26))), .pv (.lit (.bool (vc.side 27))), .pv (.lit (.bool (vc.side 28))), .pv (.lit (.bool (vc.side 29))), .pv (.lit (.bool (vc.side 30))), .pv (.lit (.bool (vc.side 31))), .pv (.lit (.bool (vc.side 32))), .pv (.lit (.bool (vc.side 33))), .pv (.lit (.bool (vc.side 34))), .pv (.lit (.bool (vc.side 35))), .pv (.lit (.bool (vc.side 36))), .pv (.lit (.bool (vc.side 37))), .pv (.lit (.bool (vc.side 38))), .pv (.lit (.bool (vc.side 39))), .pv (.lit (.bool (vc.side 40))), .pv (.lit (.bool (vc.side 41))), .pv (.lit (.bool (vc.side 42))), .pv (.lit (.bool (vc.side 43))), .pv (.lit (.bool (vc.side 44))), .pv (.lit (.bool (vc.side 45))), .pv (.lit (.bool (vc.side 46))), .pv (.lit (.bool (vc.side 47))), .pv (.lit (.bool (vc.side 48))), .pv (.lit (.bool (vc.side 49))), .pv (.lit (.bool (vc.side 50))), .pv (.lit (.bool (vc.side 51))), .pv (.lit (.bool (vc.side 52))), .pv (.lit (.bool (vc.side 53))), .pv (.lit (.bool (vc.side 54))), .pv (.lit (.bool (vc.side 55))), .pv (.lit (.bool (vc.side 56))), .pv (.lit (.bool (vc.side 57))), .pv (.lit (.bool (vc.side 58))), .pv (.lit (.bool (vc.side 59))), .pv (.lit (.bool (vc.side 60))), .pv (.lit (.bool (vc.side 61))), .pv (.lit (.bool (vc.side 62))), .pv (.lit (.bool (vc.side 63))), .pv (.lit (.int .i64 vc.lost))])]) (U := [0]) (fun x => bif x == 0 then 9 else x) (WeakerR.ofL (Ks := [0]) hI ⟨⟨rfl, rfl⟩, trivial⟩ (okH_cons rfl rfl rfl rfl okH_nil) rfl) ?_
    refine Awp.ret ?_
    subst hR
    exact ⟨.inl rfl, rfl, rfl⟩
 ·
  replace hR := of_false h1 hR
  refine rvc_un (rexec_callO hP C rfl rfl rfl rfl (cloneDosO_calls l h1 (by omega)) ?_)
  refine rvP C (sS (some more.nil) eDo more.D) ?_
  refine rvc_un (rexec_append C rfl rfl rfl rfl rfl rfl rfl rfl (fun _ h => by cases h) rfl (en := eDo) (D0 := l.D) (D := more.D) rfl rfl rfl rfl (by simp; omega) (by decide) (nn := (l.D ++ more.D).length) (by simp) ?_)
  refine rvP C (.pv (.lit (.int .i64 (((l.D ++ more.D).length) : Int)))) ?_
  refine rvP C (.pv (.lit (.int .i64 0))) ?_
  refine rvc_nil ?_
  refine Awp.block ?_
  refine Awp.freezeW 13 (encL eDo (l.D ++ more.D)) ?_ [(4, .pv (.lit (.pointer none))), (5, .ptr 9 0), (13, sS (some false) eDo (l.D ++ more.D)), (14, .pv (.lit (.int .i64 (((l.D ++ more.D).length) : Int)))), (15, .pv (.lit (.int .i64 0)))] [(9, .cells [sS (some true) eItem [], .pv (.lit (.bool false)), .pv (.lit (.bool false)), .pv (.lit (.bool false)), .pv (.lit (.bool false)), .pv (.lit (.bool false)), .pv (.lit (.bool false)), .pv (.lit (.bool false)), .pv (.lit (.bool false)), .pv (.lit (.bool false)), .pv (.lit (.bool false)), .pv (.lit (.bool false)), .pv (.lit (.bool false)), .pv (.lit (.bool false)), .pv (.lit (.bool false)), .pv (.lit (.bool false)), .pv (.lit (.bool false)), .pv (.lit (.bool false)), .pv (.lit (.bool false)), .pv (.lit (.bool false)), .pv (.lit (.bool false)), .pv (.lit (.bool false)), .pv (.lit (.bool false)), .pv (.lit (.bool false)), .pv (.lit (.bool false)), .pv (.lit (.bool false)), .pv (.lit (.bool false)), .pv (.lit (.bool false)), .pv (.lit (.bool false)), .pv (.lit (.bool false)), .pv (.lit (.bool false)), .pv (.lit (.bool false)), .pv (.lit (.bool false)), .pv (.lit (.bool false)), .pv (.lit (.bool false)), .pv (.lit (.bool false)), .pv (.lit (.bool false)), .pv (.lit (.bool false)), .pv (.lit (.bool false)), .pv (.lit (.bool false)), .pv (.lit (.bool false)), .pv (.lit (.bool false)), .pv (.lit (.bool false)), .pv (.lit (.bool false)), .pv (.lit (.bool false)), .pv (.lit (.bool false)), .pv (.lit (.bool false)), .pv (.lit (.bool false)), .pv (.lit (.bool false)), .pv (.lit (.bool false)), .pv (.lit (.bool false)), .pv (.lit (.bool false)), .pv (.lit (.bool false)), .pv (.lit (.bool false)), .pv (.lit (.bool false)), .pv (.lit (.bool false)), .pv (.lit (.bool false)), .pv (.lit (.bool false)), .pv (.lit (.bool false)), .pv (.lit (.bool false)), .pv (.lit (.bool false)), .pv (.lit (.bool false)), .pv (.lit (.bool false)), .pv (.lit (.bool false)), .pv (.lit (.bool false)), .pv (.lit (.int .i64 0))])] ?_ ?_ ?_
  · rfl
  · exact ⟨⟨_, rfl, .inl (.inl rfl)⟩, ⟨_, rfl, .inl (.inl rfl)⟩, ⟨_, rfl, .inl (.inr ⟨_, _, _, rfl, rfl⟩)⟩, ⟨_, rfl, .inl (.inl rfl)⟩, ⟨_, rfl, .inl (.inl rfl)⟩, trivial⟩
  · exact ⟨⟨(by show (9 : Nat) ≠ 13; decide), .inl rfl⟩, trivial⟩
  refine Awp.forR (σ := Net51) ((l.D ++ more.D).length) (fun i v => [(5, .ptr 9 0), (13, sS (some false) eDo (l.D ++ more.D)), (14, .pv (.lit (.int .i64 (((l.D ++ more.D).length) : Int)))), (15, .pv (.lit (.int .i64 (i : Int))))]) (fun i v => [(9, .cells [sS (some v.items.nil) eItem v.items.D, .pv (.lit (.bool (v.side 0))), .pv (.lit (.bool (v.side 1))), .pv (.lit (.bool (v.side 2))), .pv (.lit (.bool (v.side 3))), .pv (.lit (.bool (v.side 4))), .pv (.lit (.bool (v.side 5))), .pv (.lit (.bool (v.side 6))), .pv (.lit (.bool (v.side 7))), .pv (.lit (.bool (v.side 8))), .pv (.lit (.bool (v.side 9))), .pv (.lit (.bool (v.side 10))), .pv (.lit (.bool (v.side 11))), .pv (.lit (.bool (v.side 12))), .pv (.lit (.bool (v.side 13))), .pv (.lit (.bool (v.side 14))), .pv (.lit (.bool (v.side 15))), .pv (.lit (.bool (v.side 16))), .pv (.lit (.bool (v.side 17))), .pv (.lit (.bool (v.side 18))), .pv (.lit (.bool (v.side 19))), .pv (.lit (.bool (v.side 20))), .pv (.lit (.bool (v.side 21))), .pv (.lit (.bool (v.side 22))), .pv (.lit (.bool (v.side 23))), .pv (.lit (.bool (v.side 24))), .pv (.lit (.bool (v.side 25))), .pv (.lit (.bool (v.side 26))), .pv (.lit (.bool (v.side 27))), .pv (.lit (.bool (v.side 28))), .pv (.lit (.bool (v.side 29))), .pv (.lit (.bool (v.side 30))), .pv (.lit (.bool (v.side 31))), .pv (.lit (.bool (v.side 32))), .pv (.lit (.bool (v.side 33))), .pv (.lit (.bool (v.side 34))), .pv (.lit (.bool (v.side 35))), .pv (.lit (.bool (v.side 36))), .pv (.lit (.bool (v.side 37))), .pv (.lit (.bool (v.side 38))), .pv (.lit (.bool (v.side 39))), .pv (.lit (.bool (v.side 40))), .pv (.lit (.bool (v.side 41))), .pv (.lit (.bool (v.side 42))), .pv (.lit (.bool (v.side 43))), .pv (.lit (.bool (v.side 44))), .pv (.lit (.bool (v.side 45))), .pv (.lit (.bool (v.side 46))), .pv (.lit (.bool (v.side 47))), .pv (.lit (.bool (v.side 48))), .pv (.lit (.bool (v.side 49))), .pv (.lit (.bool (v.side 50))), .pv (.lit (.bool (v.side 51))), .pv (.lit (.bool (v.side 52))), .pv (.lit (.bool (v.side 53))), .pv (.lit (.bool (v.side 54))), .pv (.lit (.bool (v.side 55))), .pv (.lit (.bool (v.side 56))), .pv (.lit (.bool (v.side 57))), .pv (.lit (.bool (v.side 58))), .pv (.lit (.bool (v.side 59))), .pv (.lit (.bool (v.side 60))), .pv (.lit (.bool (v.side 61))), .pv (.lit (.bool (v.side 62))), .pv (.lit (.bool (v.side 63))), .pv (.lit (.int .i64 v.lost))])]) [9] (fun i v => (playT_l0 ((l.D ++ more.D).drop i) i v = R) ∧ (okRL i v ∧ i ≤ 2000)) (Net51.mk (Sl.mk true []) (ofL [false, false, false, false, false, false, false, false, false, false, false, false, false, false, false, false, false, false, false, false, false, false, false, false, false, false, false, false, false, false, false, false, false, false, false, false, false, false, false, false, false, false, false, false, false, false, false, false, false, false, false, false, false, false, false, false, false, false, false, false, false, false, false, false]) 0) ?_ ?_ (fun i vc h11 hR => ?_)
  · exact ⟨hR, ⟨⟨(fun _ h => by cases h), Nat.le_refl _⟩, Nat.zero_le _⟩⟩
  · exact ⟨fun b => b, WeakerR.ofL (Ks := [9]) hI ⟨⟨rfl, rfl⟩, ⟨rfl, rfl⟩, ⟨rfl, rfl⟩, ⟨rfl, rfl⟩, trivial⟩ (okH_cons rfl rfl rfl rfl (okH_nil)) rfl⟩
  obtain ⟨hR, ⟨hVx, hVi⟩⟩ := hR
  refine Awp.consP C ?_
  refine rvP C (.pv (.lit (.bool (decide ((i : Int) < (((l.D ++ more.D).length) : Int)))))) ?_
  refine rvc_nil ?_
  refine Awp.seq ?_
  refine Awp.cond (b := (decide ((i : Int) < (((l.D ++ more.D).length) : Int)))) rfl (fun h12 => ?_) (fun h12 => ?_)
  ·
   have h13 : i < (l.D ++ more.D).length := by have := of_decide_eq_true h12; omega
   obtain ⟨x, h14⟩ := getX h13
   rw [drop_at h14] at hR
   refine Awp.skip ?_
   refine Awp.seq ?_
   refine Awp.block ?_
   refine Awp.consP C ?_
   refine rvc_un (rexec_idxS C rfl rfl rfl rfl rfl rfl x (Int.natCast_nonneg _) h14 ?_)
   refine rvP C (.agg [.pv (.lit (.int .i64 x.op)), .pv (.lit (.int .i64 x.i)), .pv (.lit (.int .i64 x.l.from_)), .pv (.lit (.int .i64 x.l.to)), sS (some x.b.nil) (eI .u8) x.b.D, .pv (.lit (.int .u64 x.side))]) ?_
   refine rvc_un (rexec_prim C (δ := { v := .ptr 7 0, new := [(7, .cells [.pv (.lit (.int .i64 0)), .pv (.lit (.int .i64 0)), .pv (.lit (.int .i64 0)), .pv (.lit (.int .i64 0)), sS (some true) (eI .u8) [], .pv (.lit (.int .u64 0))])] }) rfl rfl rfl rfl trivial rfl ?_)
   refine rvc_un (rexec_prim C (δ := { v := .undef, wr := [(7, some (.cells [.pv (.lit (.int .i64 x.op)), .pv (.lit (.int .i64 x.i)), .pv (.lit (.int .i64 x.l.from_)), .pv (.lit (.int .i64 x.l.to)), sS (some x.b.nil) (eI .u8) x.b.D, .pv (.lit (.int .u64 x.side))]))] }) rfl rfl rfl rfl trivial rfl ?_)
   refine rvc_nil ?_
   refine Awp.region C (fun _ => .writer) (by kernel_rfl) ?_
   refine rvP C (.ptr 9 0) ?_
   refine rvP C (.agg [.pv (.lit (.int .i64 x.op)), .pv (.lit (.int .i64 x.i)), .pv (.lit (.int .i64 x.l.from_)), .pv (.lit (.int .i64 x.l.to)), sS (some x.b.nil) (eI .u8) x.b.D, .pv (.lit (.int .u64 x.side))]) ?_
   obtain ⟨dx, hq_dx⟩ : ∃ q_, q_ = (also vc x) := ⟨_, rfl⟩
   have hc_dx := (also_calls vc x hVx.1 (Nat.le_trans hVx.2 (by omega)))
   first | rw [← hq_dx] at hR hc_dx | (unfold playT at hR; rw [← hq_dx] at hR hc_dx) | (unfold playT_l0 at hR; rw [← hq_dx] at hR hc_dx)
   have hf0_dx := also_ok (x := vc) hVx (by omega) x
   rw [← hq_dx] at hf0_dx
   refine rvc_un (rexec_callM hP C (b := 9) rfl rfl rfl hc_dx rfl rfl ?_)
   refine rvc_nil ?_
   refine Awp.regionP C ?_
   refine rvP C (.pv (.lit (.int .i64 (IntKind.i64.wrap ((i : Int) + 1))))) ?_
   refine rvP C (.pv (.lit (.int .i64 (IntKind.i64.wrap ((i : Int) + 1))))) ?_
   refine rvc_nil ?_
   refine ⟨h13, dx.1, ?_, ?_⟩
   · exact ⟨hR, ⟨hf0_dx, by first | omega | (simp at * <;> omega)⟩⟩
   · exact ⟨fun b => b, WeakerR.ofL (Ks := [9]) hI ⟨⟨rfl, rfl⟩, ⟨rfl, rfl⟩, ⟨rfl, rfl⟩, ⟨lit_cast (wrap_i64 (by omega) (by omega)), rfl⟩, trivial⟩ (okH_cons rfl rfl rfl rfl (okH_nil)) rfl⟩
  ·
   have h13 : ¬ i < (l.D ++ more.D).length := by have := of_decide_eq_false h12; omega
   rw [drop_end h13] at hR
   refine Awp.exit ?_
   refine Awp.consP C ?_
   refine rvP C (.ptr 9 0) ?_
   refine rvP C (.ptr 9 0) ?_
   refine rvc_nil ?_
   refine Awp.weakenR (S := [(4, .ptr 0 0)]) (H := [(0, .cells [sS (some vc.items.nil) eItem vc.items.D, .pv (.lit (.bool (vc.side 0))), .pv (.lit (.bool (vc.side 1))), .pv (.lit (.bool (vc.side 2))), .pv (.lit (.bool (vc.side 3))), .pv (.lit (.bool (vc.side 4))), .pv (.lit (.bool (vc.side 5))), .pv (.lit (.bool (vc.side 6))), .pv (.lit (.bool (vc.side 7))), .pv (.lit (.bool (vc.side 8))), .pv (.lit (.bool (vc.side 9))), .pv (.lit (.bool (vc.side 10))), .pv (.lit (.bool (vc.side 11))), .pv (.lit (.bool (vc.side 12))), .pv (.lit (.bool (vc.side 13))), .pv (.lit (.bool (vc.side 14))), .pv (.lit (.bool (vc.side 15))), .pv (.lit (.bool (vc.side 16))), .pv (.lit (.bool (vc.side 17))), .pv (.lit (.bool (vc.side 18))), .pv (.lit (.bool (vc.side 19))), .pv (.lit (.bool (vc.side 20))), .pv (.lit (.bool (vc.side 21))), .pv (.lit (.bool (vc.side 22))), .pv (.lit (.bool (vc.side 23))), .pv (.lit (.bool (vc.side 24))), .pv (.lit (.bool (vc.side 25))), .pv (.lit (.bool (vc.side 26))), .pv (.lit (.bool (vc.side 27))), .pv (.lit (.bool (vc.side 28))), .pv (.lit (.bool (vc.side 29))), .pv (.lit (.bool (vc.side 30))), .pv (.lit (.bool (vc.side 31))), .pv (.lit (.bool (vc.side 32))), .pv (.lit (.bool (vc.side 33))), .pv (.lit (.bool (vc.side 34))), .pv (.lit (.bool (vc.side 35))), .pv (.lit (.bool (vc.side 36))), .pv (.lit (.bool (vc.side 37))), .pv (.lit (.bool (vc.side 38))), .pv (.lit (.bool (vc.side 39))), .pv (.lit (.bool (vc.side 40))), .pv (.lit (.bool (vc.side 41))), .pv (.lit (.bool (vc.side 42))), .pv (.lit (.bool (vc.side 43))), .pv (.lit (.bool (vc.side 44))), .pv (.lit (.bool (vc.side 45))), .pv (.lit (.bool (vc.side 46))), .pv (.lit (.bool (vc.side 47))), .pv (.lit (.bool (vc.side 48))), .pv (.lit (.bool (vc.side 49))), .pv (.lit (.bool (vc.side 50))), .pv (.lit (.bool (vc.side 51))), .pv (.lit (.bool (vc.side 52))), .pv (.lit (.bool (vc.side 53))), .pv (.lit (.bool (vc.side 54))), .pv (.lit (.bool (vc.side 55))), .pv (.lit (.bool (vc.side 56))), .pv (.lit (.bool (vc.side 57))), .pv (.lit (.bool (vc.side 58))), .pv (.lit (.bool (vc.side 59))), .pv (.lit (.bool (vc.side 60))), .pv (.lit (.bool (vc.side 61))), .pv (.lit (.bool (vc.side 62))), .pv (.lit (.bool (vc.side 63))), .pv (.lit (.int .i64 vc.lost))])]) (U := [0]) (fun x => bif x == 0 then 9 else x) (WeakerR.ofL (Ks := [0]) hI ⟨⟨rfl, rfl⟩, trivial⟩ (okH_cons rfl rfl rfl rfl okH_nil) rfl) ?_
   refine Awp.ret ?_
   subst hR
   exact ⟨.inl rfl, rfl, rfl⟩
end Go.Proofs.Ytpeeofofagfooaa
/- The document plays, in plain words. No conditions. -/
namespace Go.Proofs.Ytpeeofofagfooaa
open Go.Am
abbrev zeroR : Net51 := Net51.mk (Sl.mk true []) (ofL [false, false, false, false, false, false, false, false, false, false, false, false, false, false, false, false, false, false, false, false, false, false, false, false, false, false, false, false, false, false, false, false, false, false, false, false, false, false, false, false, false, false, false, false, false, false, false, false, false, false, false, false, false, false, false, false, false, false, false, false, false, false, false, false]) 0
theorem playT_l0_ok : ∀ (ls : List Do) (i N : Nat) (x : Net51), okRL N x → N + ls.length ≤ 1000000 → okRL (N + ls.length) (playT_l0 ls i x)
  | [], _, _, _, h, _ => h
  | k :: ls, i, N, x, h, hN => by
    rw [List.length_cons] at hN ⊢
    unfold playT_l0
    have := playT_l0_ok ls (i + 1) (N + 1) _ (also_ok h (by omega) k) (by omega)
    rw [show N + (ls.length + 1) = N + 1 + ls.length by omega]; exact this
theorem playT_len (l more : Sl Do) (h1 : l.D.length ≤ 150) (h2 : more.D.length ≤ 150) : (playT l more).items.D.length ≤ 1000000 := by
  have key : ∀ ls : List Do, ls.length ≤ 300 → (playT_l0 ls 0 zeroR).items.D.length ≤ 1000000 := fun ls hl => by
    have := (playT_l0_ok ls 0 0 zeroR ⟨(fun _ h => by cases h), Nat.le_refl _⟩ (by omega)).2
    omega
  unfold playT
  cases l.nil
  · rw [cond_false]; exact key _ (by rw [List.length_append]; omega)
  · rw [cond_true]
    cases more.D.isEmpty
    · exact key _ (by omega)
    · exact key _ (Nat.zero_le _)
theorem max9 {a b : Nat} (h1 : a ≤ 150) (h2 : b ≤ 150) : (bif decide ((a : Int) < (b : Int)) then (b : Int) else (a : Int)) ≤ 150 := by
  cases decide ((a : Int) < (b : Int))
  · rw [cond_false]; omega
  · rw [cond_true]; omega
theorem playT_eq {l : Sl Do} (more : Sl Do) (h : l.nil = true → l.D = []) : playT l more = playT_l0 (l.D ++ more.D) 0 zeroR := by
  unfold playT
  cases h1 : l.nil
  · rfl
  · rw [cond_true, h h1, List.nil_append]
    cases h2 : more.D.isEmpty
    · rfl
    · rw [cond_true, List.isEmpty_iff.1 h2]
end Go.Proofs.Ytpeeofofagfooaa
/- An abstract machine over the kit's calls, part 61: a call that is handed an object with a map and makes another one. No conditions. -/
namespace Go.Am
section
variable {E : Env} {T : Tab} {n : Nat} {cq : Oper → Cls}
/-- A call that is handed an object (block 0, its map block 1), leaves it, and makes another one (block 2, its map block 3). -/
structure CloCalls (P : Program) (f : FuncId) (cs : List AV) (k : Blk) (cs2 : List AV) (k2 : Blk) : Prop where
  fn : ∃ fn, P.funcs[f]? = some fn ∧ (fn.name == "runtime.NumGoroutine") = false ∧ fn.body.isNone = false
  c0 : AV.withinL (fun b => b == 1) cs = true
  b0 : k.within (fun _ => false) = true
  c2 : AV.withinL (fun b => b == 3) cs2 = true
  b2 : k2.within (fun _ => false) = true
  calls : ACalls P f [0, 1] [.ptr 0 0] [(0, .cells cs), (1, k)] (.ptr 2 0) [(0, .cells cs), (1, k), (2, .cells cs2), (3, k2)]
theorem CloCalls.of_body {P : Program} {T : Tab} (hT : TabOk P T) {f : FuncId} {fn : Func} {body : Code} (hf : P.funcs[f]? = some fn) (hb : fn.body = some body) (hn : (fn.name == "runtime.NumGoroutine") = false) {cs cs2 : List AV} {k k2 : Blk} (hl : decide (1 ≤ fn.ntmps) = true) (c0 : AV.withinL (fun b => b == 1) cs = true) (b0 : k.within (fun _ => false) = true) (c2 : AV.withinL (fun b => b == 3) cs2 = true) (b2 : k2.within (fun _ => false) = true) (hm : P.follows .mixedOrders = true)
    (h : ∀ E : Env, E.P = P → Cx E T fn.ntmps → E.I = [0, 1] → Awp E body (entry [.ptr 0 0] [(0, .cells cs), (1, k)] [0, 1]) fun e st => (e = .ret ∨ e = .normal) ∧ resAV T st fn.results.toList = some (.ptr 2 0) ∧ st.H 0 = some (.cells cs) ∧ st.H 1 = some k ∧ st.H 2 = some (.cells cs2) ∧ st.H 3 = some k2) : CloCalls P f cs k cs2 k2 where
  fn := ⟨fn, hf, hn, by simp [hb]⟩
  c0 := c0
  b0 := b0
  c2 := c2
  b2 := b2
  calls := ACalls.of_body hT hf hb (by simpa using hl) fun E hP hE hI => (h E hP ⟨hP ▸ hT, hE, hP ▸ hm⟩ hI).mono fun e st ⟨h1, h2, h3, h4, h5, h6⟩ => ⟨h1, h2, fun x hx => by
    simp only [List.mem_cons, List.not_mem_nil, or_false] at hx
    rcases hx with rfl | rfl | rfl | rfl
    · exact h3
    · exact h4
    · exact h5
    · exact h6⟩
theorem rexec_callClo {P : Program} (hP : E.P = P) (C : Cx E T n) {f : FuncId} {cs cs2 : List AV} {k k2 : Blk} {d : Nat} (b0 b1 d2 : Nat) {c : Call} {ty : TypeId} {pos : String} {af : Array Edge} {g : Option (Nat × Bool)} {st : St} {K : St → Prop} (h1 : dstB n ⟨some d, .call c, ty, pos, af, g⟩ = true) (hU : st.U d = false) (hU2 : st.U d2 = false) (hne : (d == d2) = false) (hbb : (b0 == b1) = false) (hc : c.callee = .value (.func f)) (hv : evls st.S c.args.toList = some [.ptr b0 0])
    (F : CloCalls P f cs k cs2 k2) (hb : st.H b0 = some (.cells (AV.renL (two b0 b1) cs))) (hb1 : st.H b1 = some k) (hmp : AV.withinL (fun b => b != b1) (AV.renL (two b0 b1) cs) = false)
    (h7 : K (st.after (some d) { v := .ptr d 0, new := [(d, .cells (AV.renL (fun _ => d2) cs2)), (d2, k2)], wr := [(b0, some (.cells (AV.renL (two b0 b1) cs))), (b1, some k)] }))
    (hp : clsOf cq ⟨some d, .call c, ty, pos, af, g⟩ ≠ .pure := by decide) (hq : clsOf cq ⟨some d, .call c, ty, pos, af, g⟩ ≠ .quiet := by decide)
    (hft : footB (clsOf cq ⟨some d, .call c, ty, pos, af, g⟩) [(b0, .cells (AV.renL (two b0 b1) cs)), (b1, k)] { v := .ptr d 0, new := [(d, .cells (AV.renL (fun _ => d2) cs2)), (d2, k2)], wr := [(b0, some (.cells (AV.renL (two b0 b1) cs))), (b1, some k)] } = true := by rfl) : rexec E cq n ⟨some d, .call c, ty, pos, af, g⟩ st K := by
  subst hP
  obtain ⟨fn, q1, q2, q3⟩ := F.fn
  have hd : ∀ x, some d = some x → x < E.n := dst_lt C h1
  have hnd : d ≠ d2 := by simpa using hne
  have hbn : b0 ≠ b1 := by simpa using hbb
  have hnone : ∀ (U : Nat → Bool) (b : Nat), (fun _ : Nat => false) b = true → U b = true := fun _ _ h => by cases h
  have iI : ∀ b, inI [0, 1] b = true → b = 0 ∨ b = 1 := fun b h => by simpa [inI] using h
  let N : Names := ⟨two b0 b1, [(d, 2), (d2, 3)]⟩
  have k0 : Names.knows N [0, 1] 0 = true := rfl
  have k1 : Names.knows N [0, 1] 1 = true := rfl
  have k2' : Names.knows N [0, 1] 2 = true := rfl
  have k3 : Names.knows N [0, 1] 3 = true := rfl
  have m1 : ∀ b, (fun b : Nat => b == 1) b = true → Names.knows N [0, 1] b = true := fun b h => by
    have : b = 1 := by simpa using h
    rw [this]
    exact k1
  have m3 : ∀ b, (fun b : Nat => b == 3) b = true → Names.knows N [0, 1] b = true := fun b h => by
    have : b = 3 := by simpa using h
    rw [this]
    exact k3
  have ok : CallOk N [0, 1] [.ptr 0 0] [(0, .cells cs), (1, k)] [(0, .cells cs), (1, k), (2, .cells cs2), (3, k2)] (.ptr 2 0) := by
    refine { args := rfl, ids := ?_, blks := ?_, nodup := by simp, inj := ?_, nodupL := by simp [N, hnd], nodupR := by simp [N], fresh := ?_, res := k2', res' := ?_, kept := ?_, all := ?_, used := ?_ }
    · intro x hx
      simp only [List.mem_cons, List.not_mem_nil, or_false] at hx
      rcases hx with rfl | rfl <;> rfl
    · intro x hx
      simp only [List.mem_cons, List.not_mem_nil, or_false] at hx
      rcases hx with rfl | rfl
      · exact AV.withinL_mono (fun b hb => by have : b = 1 := by simpa using hb
                                              rw [this]; rfl) cs F.c0
      · exact Blk.within_mono (hnone _) k F.b0
    · intro b c hb hc e
      rcases iI b hb with rfl | rfl <;> rcases iI c hc with rfl | rfl
      · rfl
      · exact (hbn e).elim
      · exact (hbn e.symm).elim
      · rfl
    · intro x hx
      simp only [N, List.mem_cons, List.not_mem_nil, or_false] at hx
      rcases hx with rfl | rfl <;> rfl
    · intro x hx
      simp only [List.mem_cons, List.not_mem_nil, or_false] at hx
      rcases hx with rfl | rfl | rfl | rfl
      · exact ⟨k0, AV.withinL_mono m1 cs F.c0⟩
      · exact ⟨k1, Blk.within_mono (hnone _) k F.b0⟩
      · exact ⟨k2', AV.withinL_mono m3 cs2 F.c2⟩
      · exact ⟨k3, Blk.within_mono (hnone _) k2 F.b2⟩
    · intro x hx hI
      rcases iI x.1 hI with h | h
      · exact ⟨.cells cs, by rw [h]; exact List.mem_cons_self ..⟩
      · exact ⟨k, by rw [h]; exact List.mem_cons_of_mem _ (List.mem_cons_self ..)⟩
    · intro x hx
      simp only [N, List.mem_cons, List.not_mem_nil, or_false] at hx
      rcases hx with rfl | rfl <;> rfl
    · intro b hb
      rcases iI b hb with rfl | rfl
      · exact .inr rfl
      · exact .inr rfl
  have hdo := does_call (E := E) (o := ⟨some d, .call c, ty, pos, af, g⟩) (c := c) rfl hc hd q1 q2 q3 F.calls ok (args := [.ptr b0 0]) (caps := []) rfl
  have t1 : Names.τ N [0, 1] 1 = b1 := rfl
  have t3 : Names.τ N [0, 1] 3 = d2 := rfl
  have hcs : AV.renL (Names.τ N [0, 1]) cs = AV.renL (two b0 b1) cs := by
    refine AV.renL_congr (U := fun b => b == 1) (fun b hb => ?_) cs F.c0
    have : b = 1 := by simpa using hb
    subst this; rfl
  have hcs2 : AV.renL (Names.τ N [0, 1]) cs2 = AV.renL (fun _ => d2) cs2 := by
    refine AV.renL_congr (U := fun b => b == 3) (fun b hb => ?_) cs2 F.c2
    have : b = 3 := by simpa using hb
    subst this; rfl
  have hH : ([(0, Blk.cells cs), (1, k)].map fun x => (N.σ x.1, x.2.ren N.σ)) = [(b0, .cells (AV.renL (two b0 b1) cs)), (b1, k)] := by
    simp only [List.map_cons, List.map_nil]
    rw [Blk.ren_none F.b0]; rfl
  have he : Names.delta N [0, 1] [(0, .cells cs), (1, k)] [(0, .cells cs), (1, k), (2, .cells cs2), (3, k2)] (.ptr 2 0) = { v := .ptr d 0, new := [(d, .cells (AV.renL (fun _ => d2) cs2)), (d2, k2)], wr := [(b0, some (.cells (AV.renL (two b0 b1) cs))), (b1, some k)] } := by
    show Delta.mk (.ptr d 0) [(d, .cells (AV.renL (Names.τ N [0, 1]) cs2)), (d2, k2.ren (Names.τ N [0, 1]))] [(b0, some (.cells (AV.renL (Names.τ N [0, 1]) cs))), (b1, some (k.ren (Names.τ N [0, 1])))] = _
    rw [Blk.ren_none F.b0, Blk.ren_none F.b2, hcs, hcs2]
  rw [he, hH] at hdo
  have hops : (Op.operands (.call c)).toList = .func f :: c.args.toList := by simp [Op.operands, Call.operands, hc]
  have hr0 : ∀ hs, refs [.fn f [] [], .ptr b0 0] hs b0 = true := fun hs => by simp [refs, AV.withinL, AV.within]
  have hr1 : ∀ hs, (b0, Blk.cells (AV.renL (two b0 b1) cs)) ∈ hs → refs [.fn f [] [], .ptr b0 0] hs b1 = true := fun hs hm => by
    simp only [refs, Bool.or_eq_true, Bool.not_eq_true', List.any_eq_true]
    exact .inr ⟨_, hm, by simpa [Blk.within] using hmp⟩
  refine ⟨h1, [.fn f [] [], .ptr b0 0], _, _, { vals := ?_, deps := ?_, fresh := ?_, does := hdo, reach := ?_, inV := ?_, inN := ?_, inW := ?_, wr := ?_, pure := fun h => absurd h hp, quiet := fun h => absurd h hq, foot := hft }, h7⟩
  · show evls st.S (Op.operands (.call c)).toList = _
    rw [hops]; simp only [evls, evl, hv]
  · intro x hx
    simp only [List.mem_cons, List.not_mem_nil, or_false] at hx
    rcases hx with rfl | rfl
    · exact hb
    · exact hb1
  · intro x hx
    simp only [List.mem_cons, List.not_mem_nil, or_false] at hx
    rcases hx with rfl | rfl
    · exact hU
    · exact hU2
  · simp only [reachB, Bool.and_eq_true]
    exact ⟨hr0 [], hr1 _ (List.mem_cons_self ..), trivial⟩
  · simp [AV.within, List.lookup]
  · intro x hx
    simp only [List.mem_cons, List.not_mem_nil, or_false] at hx
    rcases hx with rfl | rfl
    · refine AV.withinL_ren (U := fun b => b == 3) (fun b hb => ?_) cs2 F.c2
      have h2 : (d2 == d) = false := by simpa using Ne.symm hnd
      simp [List.lookup, h2]
    · exact Blk.within_mono (hnone _) k2 F.b2
  · intro x hx y hy
    simp only [List.mem_cons, List.not_mem_nil, or_false] at hx
    rcases hx with rfl | rfl
    · injection hy with hy
      subst hy
      refine AV.withinL_ren (U := fun b => b == 1) (fun b hb => ?_) cs F.c0
      have : b = 1 := by simpa using hb
      subst this
      rw [Bool.or_eq_true]
      exact .inr (hr1 _ (List.mem_cons_self ..))
    · injection hy with hy
      subst hy
      exact Blk.within_mono (hnone _) k F.b0
  · intro x hx
    simp only [List.mem_cons, List.not_mem_nil, or_false] at hx
    rw [Bool.or_eq_true]
    rcases hx with rfl | rfl
    · exact .inr (hr0 _)
    · exact .inr (hr1 _ (List.mem_cons_self ..))
end
end Go.Am
/- A net cloned. No conditions. -/
namespace Go.Proofs.Ytpeeofofagfooaa
open Go.Am
theorem mSet_fresh {κ β : Type} {KE : KEnc κ} {k : κ} {x : β} : ∀ {D : List (κ × β)}, (∀ e ∈ D, ¬ KE.eq k e.1 = true) → mSet KE k x D = D ++ [(k, x)]
  | [], _ => rfl
  | e :: D, h => by
    unfold mSet
    rw [if_neg (h e (List.mem_cons_self ..)), mSet_fresh fun f hf => h f (List.mem_cons_of_mem _ hf)]
    rfl
theorem nClone_calls (n : Net) (hd : nDead n = false) : CloCalls Try.prog 17 [.mp 1, .pv (.lit (.int .u64 n.side)), .pv (.lit (.int .i64 n.lost)), .pv (.lit (.bool n.made))] (mapE kLink vT77.enc n.of_) [.mp 3, .pv (.lit (.int .u64 n.side)), .pv (.lit (.int .i64 n.lost)), .pv (.lit (.bool n.made))] (mapE kLink vT77.enc n.of_) := by
 refine CloCalls.of_body tabOk Try.func17 rfl rfl rfl rfl (mapE_within _ _) rfl (mapE_within _ _) mixed fun E hP C hI => ?_
 refine Awp.consP C ?_
 refine rvc_prim C rfl rfl rfl rfl trivial rfl ?_
 refine rvc_nil ?_
 refine Awp.seq ?_
 refine Awp.cons C (fun _ => .writer) (by kernel_rfl) ?_
 refine rvc_prim C rfl rfl rfl rfl trivial rfl ?_
 refine rvc_un (rexec_callObj hP C (fun b => bif b == 0 then 0 else bif b == 1 then 1 else b) [] rfl rfl rfl (nDead_calls n) rfl rfl ⟨rfl, trivial⟩ (of_decide_eq_true rfl) rfl (of_decide_eq_true rfl) (of_decide_eq_true rfl) allB_nil allB_nil (allB_cons rfl allB_nil) ?_ rfl (allB_cons rfl allB_nil))
 refine rvc_nil ?_
 refine Awp.condF (b := nDead n) rfl hd ?_
 refine Awp.skip ?_
 refine Awp.cons C (fun _ => .quiet) (by kernel_rfl) ?_
 refine rvc_prim C rfl rfl rfl rfl trivial rfl ?_
 refine rvc_prim C rfl rfl rfl rfl trivial rfl ?_
 refine rvc_prim C rfl rfl rfl rfl trivial rfl ?_
 refine rvc_prim C rfl rfl rfl rfl trivial rfl ?_
 refine rvc_prim C rfl rfl rfl rfl trivial rfl ?_
 refine rvc_nil ?_
 refine Awp.cons C (fun _ => .quiet) (by kernel_rfl) ?_
 refine rvc_un (rexec_makeMap C rfl rfl kLink vT77 ?_)
 refine rvc_prim C rfl rfl rfl rfl trivial rfl ?_
 refine rvc_prim C rfl rfl rfl rfl trivial rfl ?_
 refine rvc_nil ?_
 refine Awp.openMap (KE := kLink) (VE := vT77) (b := 1) (D := n.of_) rfl (fun X q hp ho hn hl => ?_)
 refine Awp.seq ?_
 refine Awp.cons C (fun _ => .quiet) (by kernel_rfl) ?_
 refine rvc_prim C rfl rfl rfl rfl trivial rfl ?_
 refine rvc_prim C rfl rfl rfl rfl trivial rfl ?_
 refine rvc_prim C rfl rfl rfl rfl trivial rfl ?_
 refine rvc_prim C rfl rfl rfl rfl trivial rfl ?_
 refine rvc_un (rexec_rangeX (KE := kLink) (VE := vT77) (b := 1) (X := X) (q := q) C rfl rfl rfl rfl rfl rfl ?_)
 refine rvc_nil ?_
 refine Awp.block ?_
 refine Awp.forM (σ := List Nat × List (Link × Que)) (fun _ => [(0, .ptr 0 0), (3, .ptr 3 0), (17, .ptr 17 0)]) (fun x => [(0, .cells [.mp 1, .pv (.lit (.int .u64 n.side)), .pv (.lit (.int .i64 n.lost)), .pv (.lit (.bool n.made))]), (1, mapX kLink vT77.enc X q), (17, .iter 1 q x.1 q), (3, .cells [.mp 11, .pv (.lit (.int .u64 n.side)), .pv (.lit (.int .i64 n.lost)), .pv (.lit (.bool n.made))]), (11, mapE kLink vT77.enc x.2)]) [0, 1, 17, 3, 11] (fun m x => m = restX x.1 X ∧ x.2.Perm ((X.filter fun e => x.1.contains e.2).map (·.1))) (restX [] X) ([], []) ⟨rfl, by simp⟩
  ⟨fun b => b, WeakerR.ofLI (Ks := [0, 1, 17, 3, 11]) hI ⟨⟨rfl, rfl⟩, ⟨rfl, rfl⟩, ⟨rfl, rfl⟩, trivial⟩ (okH_cons rfl rfl rfl rfl (okH_mapx rfl rfl rfl rfl (okH_iter rfl rfl rfl rfl (okH_cons rfl rfl rfl rfl (okH_map rfl rfl rfl okH_nil))))) rfl rfl⟩ (fun m x hm => ?_)
 obtain ⟨s, D2⟩ := x
 obtain ⟨rfl, hout⟩ := hm
 dsimp only at hout
 refine Awp.seq ?_
 refine Awp.next (KE := kLink) (ve := vT77.enc) C (fun _ => .writer) (X := X) rfl rfl rfl rfl hl (Nat.le_refl _) (fun hall => ?_) (fun e he hs => ?_)
 ·
  refine rvc_prim C rfl rfl rfl rfl trivial rfl ?_
  refine rvc_nil ?_
  refine Awp.seq ?_
  refine Awp.condF (b := false) rfl rfl ?_
  refine Awp.exit ?_
  rw [met_all hall] at hout
  refine Awp.closeMap (KE := kLink) (VE := vT77) (b := 1) (X := X) rfl n.of_ hp ?_
  refine Awp.openMap (KE := kLink) (VE := vT77) (b := 11) (D := D2) rfl (fun X2 q2 hp2 ho2 hn2 hl2 => ?_)
  refine Awp.closeMap (KE := kLink) (VE := vT77) (b := 11) (X := X2) rfl n.of_ ((hp.trans hout.symm).trans hp2) ?_
  refine Awp.consP C ?_
  refine rvc_prim C rfl rfl rfl rfl trivial rfl ?_
  refine rvc_nil ?_
  refine Awp.weakenR (S := [(2, .ptr 2 0)]) (H := [(0, .cells [.mp 1, .pv (.lit (.int .u64 n.side)), .pv (.lit (.int .i64 n.lost)), .pv (.lit (.bool n.made))]), (1, mapE kLink vT77.enc n.of_), (2, .cells [.mp 3, .pv (.lit (.int .u64 n.side)), .pv (.lit (.int .i64 n.lost)), .pv (.lit (.bool n.made))]), (3, mapE kLink vT77.enc n.of_)]) (U := [0, 1, 2, 3]) (fun b => bif b == 2 then 3 else bif b == 3 then 11 else b) (WeakerR.ofLI (I := [0, 1]) (Ks := [0, 1, 2, 3]) hI ⟨⟨rfl, rfl⟩, trivial⟩ (okH_cons rfl rfl rfl rfl (okH_map rfl rfl rfl (okH_cons rfl rfl rfl rfl (okH_map rfl rfl rfl okH_nil)))) rfl rfl) ?_
  refine Awp.ret ?_
  exact ⟨.inl rfl, rfl, rfl, rfl, rfl, rfl⟩
 ·
  refine rvc_prim C rfl rfl rfl rfl trivial rfl ?_
  refine rvc_nil ?_
  refine Awp.seq ?_
  refine Awp.condT (b := true) rfl rfl ?_
  refine Awp.skip ?_
  refine Awp.block ?_
  refine Awp.cons C (fun _ => .quiet) (by kernel_rfl) ?_
  refine rvc_un (rexec_entryX (KE := kLink) (VE := vT77) C rfl e he rfl rfl rfl ?_)
  refine rvc_prim C rfl rfl rfl rfl trivial rfl ?_
  refine rvc_prim C rfl rfl rfl rfl trivial rfl ?_
  refine rvc_prim C rfl rfl rfl rfl trivial rfl ?_
  refine rvc_prim C rfl rfl rfl rfl trivial rfl ?_
  refine rvc_prim C rfl rfl rfl rfl trivial rfl ?_
  refine rvc_nil ?_
  have hnew : ∀ f ∈ D2, ¬ kLink.eq e.1.1 f.1 = true := by
   intro f hf hk
   obtain ⟨g, hg, rfl⟩ := List.mem_map.1 (hout.subset hf)
   obtain ⟨hgX, hgs⟩ := List.mem_filter.1 hg
   have hkey : e.1.1 = g.1.1 := link_eq.1 hk
   have hnd := keys_nodup ho
   rw [List.map_map] at hnd
   have : e = g := nodup_inj hnd he hgX hkey
   rw [this] at hs
   exact hs (by simpa using hgs)
  have hnext : (mSet kLink e.1.1 e.1.2 D2).Perm ((X.filter fun x => (s ++ [e.2]).contains x.2).map (·.1)) := by
   rw [mSet_fresh hnew]
   have h1 := (met_more hn he hs).map (·.1)
   rw [List.map_append] at h1
   exact (hout.append_right _).trans h1
  refine Awp.region C (fun _ => .writer) (by kernel_rfl) ?_
  refine rvc_prim C rfl rfl rfl rfl trivial rfl ?_
  refine rvc_prim C rfl rfl rfl rfl trivial rfl ?_
  refine rvc_prim C rfl rfl rfl rfl trivial rfl ?_
  refine rvc_prim C rfl rfl rfl rfl trivial rfl ?_
  refine rvc_un (rexec_mapUpdate (KE := kLink) (VE := vT77) hP C e.1.1 e.1.2 rfl rfl rfl rfl rfl rfl kLink_ok ?_)
  refine rvc_nil ?_
  exact ⟨_, (s ++ [e.2], mSet kLink e.1.1 e.1.2 D2), restX_lt he hs, ⟨rfl, hnext⟩, fun b => b, WeakerR.ofLI (Ks := [0, 1, 17, 3, 11]) hI ⟨⟨rfl, rfl⟩, ⟨rfl, rfl⟩, ⟨rfl, rfl⟩, trivial⟩ (okH_cons rfl rfl rfl rfl (okH_mapx rfl rfl rfl rfl (okH_iter rfl rfl rfl rfl (okH_cons rfl rfl rfl rfl (okH_map rfl rfl rfl okH_nil))))) rfl rfl⟩
end Go.Proofs.Ytpeeofofagfooaa
/- What calls leave, in short. No conditions. -/
namespace Go.Proofs.Ytpeeofofagfooaa
open Go.Am
theorem does_made (n : Net) (k : Do) : (does n k).1.made = n.made := by
  have hc : ∀ l i, (nCut n l i).1.made = n.made := fun l i => by
    unfold nCut
    cases ((List.eraseIdx (((mGet kLink l n.of_).getD (Sl.mk true [])).D) (i).toNat).length : Int) == 0 <;> rfl
  have ht : (nTake n k.l k.i).1.made = n.made := by
    unfold nTake
    cases able n k.l k.i != 0
    · rw [cond_false]
      cases !((mHas ((nCut n k.l k.i).1.side) k.l.from_) == (mHas ((nCut n k.l k.i).1.side) k.l.to)) <;> exact hc _ _
    · rfl
  have hlo : (nLose n k.l k.i).1.made = n.made := by
    unfold nLose
    cases able n k.l k.i != 0
    · exact hc _ _
    · rfl
  have hd : (nDouble n k.l k.i).1.made = n.made := by
    unfold nDouble
    cases able n k.l k.i != 0
    · rw [cond_false]
      cases decide (((((mGet kLink k.l n.of_).getD (Sl.mk true [])).D).length : Int) ≥ 8) <;> rfl
    · rfl
  have hw : (nWall n k.side).1.made = n.made := by
    unfold nWall
    cases nDead n <;> rfl
  have hf : (nForget n k.i).1.made = n.made := by
    unfold nForget
    cases nDead n <;> rfl
  have hs : (nSend n k.l k.b).1.made = n.made := by
    unfold nSend
    cases nDead n
    case true => rfl
    rw [cond_false]
    cases !(fitsL k.l)
    case true => rfl
    rw [cond_false]
    cases decide ((k.b.D.length : Int) > 8192)
    case true => rfl
    rw [cond_false]
    cases decide (((((mGet kLink k.l n.of_).getD (Sl.mk true [])).D).length : Int) ≥ 8)
    case true => rfl
    rw [cond_false]
    cases ((mGet kLink k.l n.of_).getD (Sl.mk true [])).nil <;> rfl
  unfold does
  generalize (IntKind.i64.wrap ((IntKind.u64.wrap k.op).tmod 9)) = o
  cases o == 3
  case true => exact ht
  rw [cond_false]
  cases o == 4
  case true => exact ht
  rw [cond_false]
  cases o == 5
  case true => exact hlo
  rw [cond_false]
  cases o == 6
  case true => exact hd
  rw [cond_false]
  cases o == 7
  case true => exact hw
  rw [cond_false]
  cases o == 8
  case true => exact hf
  exact hs
theorem does_live {n : Net} (h : nDead n = false) (k : Do) : nDead (does n k).1 = false := by
  unfold nDead at h ⊢
  rw [does_made]; exact h
end Go.Proofs.Ytpeeofofagfooaa
/- An abstract machine over the kit's calls, part 62: a function value is called, and what comes is one's own. No conditions. -/
namespace Go.Am
section
variable {E : Env} {T : Tab} {n : Nat} {cq : Oper → Cls}
theorem rexec_callOV {P : Program} (hP : E.P = P) (C : Cx E T n) {f : FuncId} {avs : List AV} {av : AV} {k : Blk} {d : Nat} {c : Call} {x : Operand} {ty : TypeId} {pos : String} {af : Array Edge} {g : Option (Nat × Bool)} {st : St} {K : St → Prop} (h1 : dstB n ⟨some d, .call c, ty, pos, af, g⟩ = true) (hU : st.U d = false) (hc : c.callee = .value x) (hx : evl st.S x = some (.fn f [] [])) (hv : evls st.S c.args.toList = some avs)
    (F : OCalls P f avs av k) (h7 : K (st.after (some d) { v := av.ren fun _ => d, new := [(d, k)] })) (hcl : clsOf cq ⟨some d, .call c, ty, pos, af, g⟩ ≠ .pure := by decide) (hft : footB (clsOf cq ⟨some d, .call c, ty, pos, af, g⟩) [] { v := av.ren fun _ => d, new := [(d, k)] } = true := by rfl) : rexec E cq n ⟨some d, .call c, ty, pos, af, g⟩ st K := by
  subst hP
  obtain ⟨fn, q1, q2, q3⟩ := F.fn
  have hd : ∀ x, some d = some x → x < E.n := fun x e => by
    simp only [dstB, decide_eq_true_eq] at h1
    simp only [Option.some.injEq] at e
    subst e
    exact C.n ▸ h1
  have kn : ∀ b, Names.knows ⟨fun b => b, [(d, 0)]⟩ [] b = (b == 0) := fun b => by
    simp [Names.knows, inI, BEq.comm]
  have kn' : Names.knows ⟨fun b => b, [(d, 0)]⟩ [] = fun b => b == 0 := funext kn
  have ok : CallOk ⟨fun b => b, [(d, 0)]⟩ [] avs [] [(0, k)] av := by
    refine { args := F.args, ids := ?_, blks := ?_, nodup := by simp, inj := ?_, nodupL := by simp, nodupR := by simp, fresh := ?_, res := ?_, res' := ?_, kept := ?_, all := ?_, used := ?_ }
    · intro x hx; cases hx
    · intro x hx; cases hx
    · intro b c hb; cases hb
    · intro x _; rfl
    · rw [kn']; exact F.res
    · intro x hx
      simp only [List.mem_singleton] at hx
      subst hx
      rw [kn']
      exact ⟨rfl, Blk.within_mono (fun b hb => by cases hb) k F.blk⟩
    · intro x _ hx; cases hx
    · intro x hx
      simp only [List.mem_singleton] at hx
      subst hx; rfl
    · intro b hb; cases hb
  have hdo := does_call (E := E) (o := ⟨some d, .call c, ty, pos, af, g⟩) (c := c) rfl hc hd q1 q2 q3 F.calls ok (args := avs) (caps := []) (by rw [AV.renL_none avs F.args]; simp)
  have hτ : Names.τ ⟨fun b => b, [(d, 0)]⟩ [] 0 = d := by simp [Names.τ, inI]
  have hav : av.ren (Names.τ ⟨fun b => b, [(d, 0)]⟩ []) = av.ren fun _ => d := by
    refine AV.ren_congr (U := fun b => b == 0) (fun b hb => ?_) av F.res
    have : b = 0 := by simpa using hb
    subst this; exact hτ
  have hk : k.ren (Names.τ ⟨fun b => b, [(d, 0)]⟩ []) = k := Blk.ren_none F.blk
  have he : Names.delta ⟨fun b => b, [(d, 0)]⟩ [] [] [(0, k)] av = { v := av.ren fun _ => d, new := [(d, k)] } := by
    simp only [Names.delta, List.map_nil, List.map_cons, hav]
    have : (heapOf [(0, k)] 0).getD (.cells []) = k := rfl
    rw [this, hk]
  rw [he] at hdo
  have hops : (Op.operands (.call c)).toList = x :: c.args.toList := by simp [Op.operands, Call.operands, hc]
  refine ⟨h1, .fn f [] [] :: avs, [], _, { vals := ?_, deps := ?_, fresh := ?_, does := hdo, reach := ?_, inV := ?_, inN := ?_, inW := ?_, wr := ?_, pure := fun h => absurd h hcl, quiet := fun _ => rfl, foot := hft }, h7⟩
  · show evls st.S (Op.operands (.call c)).toList = _
    rw [hops]; simp only [evls, hx, hv]
  · intro x hx; cases hx
  · intro x hx; simp only [List.mem_singleton] at hx; subst hx; exact hU
  · rfl
  · refine AV.within_mono (U := fun b => b == d) (fun b hb => ?_) _ (AV.within_at _ F.res)
    have : b = d := by simpa using hb
    subst this; simp
  · intro x hx
    simp only [List.mem_singleton] at hx
    subst hx
    exact Blk.within_mono (fun b hb => by cases hb) k F.blk
  · intro x hx; cases hx
  · intro x hx; cases hx
end
end Go.Am
/- A law: twins. No conditions. -/
namespace Go.Proofs.Ytpeeofofagfooaa
open Go.Am
def lawTwins_l1 (l : (Sl Do)) (one : (Sl Do)) (two : (Sl Do)) : Nat → Nat → Net → Net → Bool
  | 0, _, vc1, vc2 => (bif (same vc1 (playT l one)) then (bif (same vc2 (playT l two)) then (awake ) else false) else false)
  | k + 1, i1, vc1, vc2 => (bif (decide ((i1 : Int) < (one.D.length : Int))) then (bif (decide ((i1 : Int) < (two.D.length : Int))) then lawTwins_l1 l one two k (i1 + 1) (does vc1 (one.D[(i1 : Int).toNat]!)).1 (does vc2 (two.D[(i1 : Int).toNat]!)).1 else lawTwins_l1 l one two k (i1 + 1) (does vc1 (one.D[(i1 : Int).toNat]!)).1 vc2) else (bif (decide ((i1 : Int) < (two.D.length : Int))) then lawTwins_l1 l one two k (i1 + 1) vc1 (does vc2 (two.D[(i1 : Int).toNat]!)).1 else lawTwins_l1 l one two k (i1 + 1) vc1 vc2))
def lawTwins_l0 (l : (Sl Do)) (one : (Sl Do)) (two : (Sl Do)) : List Do → Nat → Net → Bool
  | [], _, vc => lawTwins_l1 l one two (bif (decide ((one.D.length : Int) < (two.D.length : Int))) then (two.D.length : Int) else (one.D.length : Int)).toNat 0 vc vc
  | x :: xs, i, vc => lawTwins_l0 l one two xs (i + 1) (does vc x).1
def lawTwins (l : (Sl Do)) (one : (Sl Do)) (two : (Sl Do)) : Bool :=
  (bif (!(short (Sl.mk false [l, one, two]))) then (awake ) else lawTwins_l0 l one two l.D 0 newN)
set_option maxHeartbeats 4000000 in
theorem lawTwins_calls (l : (Sl Do)) (one : (Sl Do)) (two : (Sl Do)) (_hl1 : l.D.length ≤ 9223372036854775807) : PCalls Try.prog 9 [sS (some l.nil) eDo l.D, sS (some one.nil) eDo one.D, sS (some two.nil) eDo two.D] (.pv (.lit (.bool (lawTwins l one two)))) := by
 generalize hR : lawTwins l one two = R
 refine PCalls.of_body tabOk Try.func9 rfl rfl rfl rfl rfl mixed fun E hP C hI => ?_
 refine Awp.consP C ?_
 refine rvP C (.pv (.lit (.bool false))) ?_
 refine rvc_nil ?_
 refine Awp.seq ?_
 refine Awp.consP C ?_
 refine rvP C (sS (some l.nil) eDo l.D) ?_
 refine rvP C (sS (some one.nil) eDo one.D) ?_
 refine rvP C (sS (some two.nil) eDo two.D) ?_
 refine rvc_un (rexec_buildSliceF C (eSl eDo) [l, one, two] rfl rfl rfl rfl rfl rfl rfl (by decide) rfl ?_)
 refine rvc_un (rexec_call hP C rfl rfl rfl (short_calls (Sl.mk false [l, one, two]) (by simp)) ?_)
 refine rvP C (.pv (.lit (.bool (!(short (Sl.mk false [l, one, two])))))) ?_
 refine rvc_nil ?_
 refine Awp.cond (b := (!(short (Sl.mk false [l, one, two])))) rfl (fun h1 => ?_) (fun h1 => ?_)
 ·
  replace hR := of_true h1 hR
  refine Awp.consP C ?_
  refine rvc_un (rexec_call hP C rfl rfl rfl (awake_calls ) ?_)
  refine rvP C (.pv (.lit (.bool (awake )))) ?_
  refine rvc_nil ?_
  refine Awp.ret ?_
  subst hR
  exact ⟨.inl rfl, rfl⟩
 ·
  replace hR := of_false h1 hR
  refine Awp.skip ?_
  refine Awp.consP C ?_
  refine rvP C (.fn 26 [] []) ?_
  refine rvc_nil ?_
  refine Awp.cons C (fun _ => .quiet) (by kernel_rfl) ?_
  refine rvc_un (rexec_callNew hP C 522 rfl rfl rfl rfl rfl rfl newN_calls ?_)
  refine rvP C (.ptr 22 0) ?_
  refine rvc_nil ?_
  refine Awp.seq ?_
  refine Awp.consP C ?_
  refine rvP C (sS (some l.nil) eDo l.D) ?_
  refine rvP C (.pv (.lit (.int .i64 (l.D.length : Int)))) ?_
  refine rvP C (.pv (.lit (.int .i64 0))) ?_
  refine rvc_nil ?_
  refine Awp.block ?_
  refine Awp.forR (σ := Net) (l.D.length) (fun i v => [(0, sS (some l.nil) eDo l.D), (1, sS (some one.nil) eDo one.D), (2, sS (some two.nil) eDo two.D), (7, .fn 26 [] []), (8, .ptr 22 0), (23, sS (some l.nil) eDo l.D), (24, .pv (.lit (.int .i64 (l.D.length : Int)))), (25, .pv (.lit (.int .i64 (i : Int))))]) (fun i v => [(522, mapE kLink vT77.enc v.of_), (22, .cells [.mp 522, .pv (.lit (.int .u64 v.side)), .pv (.lit (.int .i64 v.lost)), .pv (.lit (.bool v.made))])]) [22, 522] (fun i v => (lawTwins_l0 l one two (l.D.drop i) i v = R) ∧ ((okN v ∧ okF v ∧ nDead v = false))) newN ?_ ?_ (fun i vc h2 hR => ?_)
  · exact ⟨hR, ⟨newN_ok, newN_okF, rfl⟩⟩
  · exact ⟨fun b => b, WeakerR.ofL (Ks := [22, 522]) hI ⟨⟨rfl, rfl⟩, ⟨rfl, rfl⟩, ⟨rfl, rfl⟩, ⟨rfl, rfl⟩, ⟨rfl, rfl⟩, ⟨rfl, rfl⟩, ⟨rfl, rfl⟩, ⟨rfl, rfl⟩, trivial⟩ (okH_map rfl rfl rfl (okH_cons rfl rfl rfl rfl (okH_nil))) rfl⟩
  obtain ⟨hR, ⟨hVo, hVf, hVm⟩⟩ := hR
  refine Awp.consP C ?_
  refine rvP C (.pv (.lit (.bool (decide ((i : Int) < (l.D.length : Int)))))) ?_
  refine rvc_nil ?_
  refine Awp.seq ?_
  refine Awp.cond (b := (decide ((i : Int) < (l.D.length : Int)))) rfl (fun h3 => ?_) (fun h3 => ?_)
  ·
   have h4 : i < l.D.length := by have := of_decide_eq_true h3; omega
   obtain ⟨x, h5⟩ := getX h4
   rw [drop_at h5] at hR
   refine Awp.skip ?_
   refine Awp.seq ?_
   refine Awp.block ?_
   refine Awp.consP C ?_
   refine rvc_un (rexec_idxS C rfl rfl rfl rfl rfl rfl x (Int.natCast_nonneg _) h5 ?_)
   refine rvP C (.agg [.pv (.lit (.int .i64 x.op)), .pv (.lit (.int .i64 x.i)), .pv (.lit (.int .i64 x.l.from_)), .pv (.lit (.int .i64 x.l.to)), sS (some x.b.nil) (eI .u8) x.b.D, .pv (.lit (.int .u64 x.side))]) ?_
   refine rvc_un (rexec_prim C (δ := { v := .ptr 10 0, new := [(10, .cells [.pv (.lit (.int .i64 0)), .pv (.lit (.int .i64 0)), .pv (.lit (.int .i64 0)), .pv (.lit (.int .i64 0)), sS (some true) (eI .u8) [], .pv (.lit (.int .u64 0))])] }) rfl rfl rfl rfl trivial rfl ?_)
   refine rvc_un (rexec_prim C (δ := { v := .undef, wr := [(10, some (.cells [.pv (.lit (.int .i64 x.op)), .pv (.lit (.int .i64 x.i)), .pv (.lit (.int .i64 x.l.from_)), .pv (.lit (.int .i64 x.l.to)), sS (some x.b.nil) (eI .u8) x.b.D, .pv (.lit (.int .u64 x.side))]))] }) rfl rfl rfl rfl trivial rfl ?_)
   refine rvc_nil ?_
   refine Awp.region C (fun _ => .writer) (by kernel_rfl) ?_
   refine rvP C (.ptr 22 0) ?_
   refine rvP C (.agg [.pv (.lit (.int .i64 x.op)), .pv (.lit (.int .i64 x.i)), .pv (.lit (.int .i64 x.l.from_)), .pv (.lit (.int .i64 x.l.to)), sS (some x.b.nil) (eI .u8) x.b.D, .pv (.lit (.int .u64 x.side))]) ?_
   obtain ⟨dn, hq_dn⟩ : ∃ q_, q_ = (does vc x) := ⟨_, rfl⟩
   have hc_dn := (does_calls vc x hVo (Nat.le_trans ((short_ok ‹(!(short (Sl.mk false [l, one, two]))) = false› l (by simp)).2 x (List.mem_of_getElem? (by assumption))) (by decide)))
   first | rw [← hq_dn] at hR hc_dn | (unfold lawTwins at hR; rw [← hq_dn] at hR hc_dn) | (unfold lawTwins_l0 at hR; rw [← hq_dn] at hR hc_dn)
   have hf0_dn := does_ok (n := vc) hVo x
   rw [← hq_dn] at hf0_dn
   have hf1_dn := does_okF (n := vc) hVf x
   rw [← hq_dn] at hf1_dn
   have hf2_dn := does_live (n := vc) hVm x
   rw [← hq_dn] at hf2_dn
   refine rvc_un (rexec_callObj hP C (fun b => bif b == 0 then 22 else bif b == 1 then 522 else b) [] rfl rfl rfl hc_dn rfl rfl ⟨rfl, trivial⟩ (of_decide_eq_true rfl) rfl (of_decide_eq_true rfl) (of_decide_eq_true rfl) allB_nil allB_nil (allB_cons rfl allB_nil) ?_ rfl (allB_cons rfl allB_nil))
   refine rvc_nil ?_
   refine Awp.regionP C ?_
   refine rvP C (.pv (.lit (.int .i64 (IntKind.i64.wrap ((i : Int) + 1))))) ?_
   refine rvP C (.pv (.lit (.int .i64 (IntKind.i64.wrap ((i : Int) + 1))))) ?_
   refine rvc_nil ?_
   refine ⟨h4, dn.1, ?_, ?_⟩
   · exact ⟨hR, ⟨hf0_dn, hf1_dn, hf2_dn⟩⟩
   · exact ⟨fun b => b, WeakerR.ofL (Ks := [22, 522]) hI ⟨⟨rfl, rfl⟩, ⟨rfl, rfl⟩, ⟨rfl, rfl⟩, ⟨rfl, rfl⟩, ⟨rfl, rfl⟩, ⟨rfl, rfl⟩, ⟨rfl, rfl⟩, ⟨lit_cast (wrap_i64 (by omega) (by omega)), rfl⟩, trivial⟩ (okH_map rfl rfl rfl (okH_cons rfl rfl rfl rfl (okH_nil))) rfl⟩
  ·
   have h4 : ¬ i < l.D.length := by have := of_decide_eq_false h3; omega
   rw [drop_end h4] at hR
   refine Awp.exit ?_
   refine Awp.cons C (fun _ => .writer) (by kernel_rfl) ?_
   refine rvP C (.ptr 22 0) ?_
   refine rvc_un (rexec_callClo hP C 22 522 534 rfl rfl rfl rfl rfl rfl rfl (nClone_calls vc hVm) rfl rfl rfl ?_)
   refine rvP C (.ptr 34 0) ?_
   refine rvc_nil ?_
   refine Awp.seq ?_
   refine Awp.consP C ?_
   refine rvP C (sS (some one.nil) eDo one.D) ?_
   refine rvP C (.pv (.lit (.int .i64 (one.D.length : Int)))) ?_
   refine rvP C (sS (some two.nil) eDo two.D) ?_
   refine rvP C (.pv (.lit (.int .i64 (two.D.length : Int)))) ?_
   refine rvc_un (rexec_max C rfl rfl rfl ?_)
   refine rvP C (.pv (.lit (.int .i64 0))) ?_
   refine rvc_nil ?_
   refine Awp.block ?_
   refine Awp.forR (σ := Net × Net) ((bif (decide ((one.D.length : Int) < (two.D.length : Int))) then (two.D.length : Int) else (one.D.length : Int)).toNat) (fun i1 v => [(0, sS (some l.nil) eDo l.D), (1, sS (some one.nil) eDo one.D), (2, sS (some two.nil) eDo two.D), (7, .fn 26 [] []), (8, .ptr 22 0), (11, .ptr 34 0), (39, .pv (.lit (.int .i64 (bif (decide ((one.D.length : Int) < (two.D.length : Int))) then (two.D.length : Int) else (one.D.length : Int))))), (40, .pv (.lit (.int .i64 (i1 : Int))))]) (fun i1 v => [(522, mapE kLink vT77.enc v.1.of_), (22, .cells [.mp 522, .pv (.lit (.int .u64 v.1.side)), .pv (.lit (.int .i64 v.1.lost)), .pv (.lit (.bool v.1.made))]), (534, mapE kLink vT77.enc v.2.of_), (34, .cells [.mp 534, .pv (.lit (.int .u64 v.2.side)), .pv (.lit (.int .i64 v.2.lost)), .pv (.lit (.bool v.2.made))])]) [22, 34, 522, 534] (fun i1 v => (lawTwins_l1 l one two ((bif (decide ((one.D.length : Int) < (two.D.length : Int))) then (two.D.length : Int) else (one.D.length : Int)).toNat - i1) i1 v.1 v.2 = R) ∧ ((okN v.1 ∧ okF v.1 ∧ nDead v.1 = false) ∧ (okN v.2 ∧ okF v.2 ∧ nDead v.2 = false))) (vc, vc) ?_ ?_ (fun i1 v h6 hR => ?_)
   · exact ⟨hR, ⟨⟨hVo, hVf, hVm⟩, hVo, hVf, hVm⟩⟩
   · exact ⟨fun b => b, WeakerR.ofL (Ks := [22, 34, 522, 534]) hI ⟨⟨rfl, rfl⟩, ⟨rfl, rfl⟩, ⟨rfl, rfl⟩, ⟨rfl, rfl⟩, ⟨rfl, rfl⟩, ⟨rfl, rfl⟩, ⟨rfl, rfl⟩, ⟨rfl, rfl⟩, trivial⟩ (okH_map rfl rfl rfl (okH_cons rfl rfl rfl rfl (okH_map rfl rfl rfl (okH_cons rfl rfl rfl rfl (okH_nil))))) rfl⟩
   obtain ⟨vc1, vc2⟩ := v
   obtain ⟨hR, ⟨⟨hVo, hVf, hVm⟩, hWo, hWf, hWm⟩⟩ := hR
   have hb_ := max9 (short_ok ‹(!(short (Sl.mk false [l, one, two]))) = false› one (by simp)).1 (short_ok ‹(!(short (Sl.mk false [l, one, two]))) = false› two (by simp)).1
   refine Awp.consP C ?_
   refine rvP C (.pv (.lit (.bool (decide ((i1 : Int) < (bif (decide ((one.D.length : Int) < (two.D.length : Int))) then (two.D.length : Int) else (one.D.length : Int))))))) ?_
   refine rvc_nil ?_
   refine Awp.seq ?_
   refine Awp.cond (b := (decide ((i1 : Int) < (bif (decide ((one.D.length : Int) < (two.D.length : Int))) then (two.D.length : Int) else (one.D.length : Int))))) rfl (fun h7 => ?_) (fun h7 => ?_)
   ·
    have h8 : i1 < (bif (decide ((one.D.length : Int) < (two.D.length : Int))) then (two.D.length : Int) else (one.D.length : Int)).toNat := by have := of_decide_eq_true h7; omega
    obtain ⟨k, h9⟩ : ∃ k, (bif (decide ((one.D.length : Int) < (two.D.length : Int))) then (two.D.length : Int) else (one.D.length : Int)).toNat - i1 = k + 1 := ⟨(bif (decide ((one.D.length : Int) < (two.D.length : Int))) then (two.D.length : Int) else (one.D.length : Int)).toNat - i1 - 1, by omega⟩
    rw [h9] at hR
    refine Awp.skip ?_
    refine Awp.seq ?_
    refine Awp.block ?_
    refine Awp.consP C ?_
    refine rvP C (.pv (.lit (.int .i64 (i1 : Int)))) ?_
    refine rvP C (.pv (.lit (.int .i64 (i1 : Int)))) ?_
    refine rvc_nil ?_
    refine Awp.seq ?_
    refine Awp.consP C ?_
    refine rvP C (.pv (.lit (.int .i64 (i1 : Int)))) ?_
    refine rvP C (sS (some one.nil) eDo one.D) ?_
    refine rvP C (.pv (.lit (.int .i64 (one.D.length : Int)))) ?_
    refine rvP C (.pv (.lit (.bool (decide ((i1 : Int) < (one.D.length : Int)))))) ?_
    refine rvc_nil ?_
    refine Awp.cond (b := (decide ((i1 : Int) < (one.D.length : Int)))) rfl (fun h10 => ?_) (fun h10 => ?_)
    ·
     replace hR := of_true h10 hR
     refine Awp.region C (fun _ => .writer) (by kernel_rfl) ?_
     refine rvP C (.ptr 22 0) ?_
     refine rvP C (sS (some one.nil) eDo one.D) ?_
     refine rvP C (.pv (.lit (.int .i64 (i1 : Int)))) ?_
     have h11 : one.D[(i1 : Int).toNat]? = some one.D[(i1 : Int).toNat]! := getE (by have := of_decide_eq_false h3; have := of_decide_eq_true h7; have := of_decide_eq_true h10; omega)
     refine rvc_un (rexec_idxS C rfl rfl rfl rfl rfl rfl (one.D[(i1 : Int).toNat]!) (Int.natCast_nonneg _) h11 ?_)
     refine rvP C (.agg [.pv (.lit (.int .i64 (one.D[(i1 : Int).toNat]!.op))), .pv (.lit (.int .i64 (one.D[(i1 : Int).toNat]!.i))), .pv (.lit (.int .i64 (one.D[(i1 : Int).toNat]!.l.from_))), .pv (.lit (.int .i64 (one.D[(i1 : Int).toNat]!.l.to))), sS (some one.D[(i1 : Int).toNat]!.b.nil) (eI .u8) (one.D[(i1 : Int).toNat]!.b.D), .pv (.lit (.int .u64 (one.D[(i1 : Int).toNat]!.side)))]) ?_
     obtain ⟨da, hq_da⟩ : ∃ q_, q_ = (does vc1 (one.D[(i1 : Int).toNat]!)) := ⟨_, rfl⟩
     have hc_da := (does_calls vc1 (one.D[(i1 : Int).toNat]!) hVo (Nat.le_trans ((short_ok ‹(!(short (Sl.mk false [l, one, two]))) = false› one (by simp)).2 _ (List.mem_of_getElem? (by assumption))) (by decide)))
     first | rw [← hq_da] at hR hc_da | (unfold lawTwins at hR; rw [← hq_da] at hR hc_da) | (unfold lawTwins_l0 at hR; rw [← hq_da] at hR hc_da) | (unfold lawTwins_l1 at hR; rw [← hq_da] at hR hc_da)
     have hf0_da := does_ok (n := vc1) hVo (one.D[(i1 : Int).toNat]!)
     rw [← hq_da] at hf0_da
     have hf1_da := does_okF (n := vc1) hVf (one.D[(i1 : Int).toNat]!)
     rw [← hq_da] at hf1_da
     have hf2_da := does_live (n := vc1) hVm (one.D[(i1 : Int).toNat]!)
     rw [← hq_da] at hf2_da
     refine rvc_un (rexec_callObj hP C (fun b => bif b == 0 then 22 else bif b == 1 then 522 else b) [] rfl rfl rfl hc_da rfl rfl ⟨rfl, trivial⟩ (of_decide_eq_true rfl) rfl (of_decide_eq_true rfl) (of_decide_eq_true rfl) allB_nil allB_nil (allB_cons rfl allB_nil) ?_ rfl (allB_cons rfl allB_nil))
     refine rvc_nil ?_
     refine Awp.consP C ?_
     refine rvP C (.pv (.lit (.int .i64 (i1 : Int)))) ?_
     refine rvP C (sS (some two.nil) eDo two.D) ?_
     refine rvP C (.pv (.lit (.int .i64 (two.D.length : Int)))) ?_
     refine rvP C (.pv (.lit (.bool (decide ((i1 : Int) < (two.D.length : Int)))))) ?_
     refine rvc_nil ?_
     refine Awp.cond (b := (decide ((i1 : Int) < (two.D.length : Int)))) rfl (fun h12 => ?_) (fun h12 => ?_)
     ·
      replace hR := of_true h12 hR
      refine Awp.region C (fun _ => .writer) (by kernel_rfl) ?_
      refine rvP C (.ptr 34 0) ?_
      refine rvP C (sS (some two.nil) eDo two.D) ?_
      refine rvP C (.pv (.lit (.int .i64 (i1 : Int)))) ?_
      have h13 : two.D[(i1 : Int).toNat]? = some two.D[(i1 : Int).toNat]! := getE (by have := of_decide_eq_false h3; have := of_decide_eq_true h7; have := of_decide_eq_true h10; have := of_decide_eq_true h12; omega)
      refine rvc_un (rexec_idxS C rfl rfl rfl rfl rfl rfl (two.D[(i1 : Int).toNat]!) (Int.natCast_nonneg _) h13 ?_)
      refine rvP C (.agg [.pv (.lit (.int .i64 (two.D[(i1 : Int).toNat]!.op))), .pv (.lit (.int .i64 (two.D[(i1 : Int).toNat]!.i))), .pv (.lit (.int .i64 (two.D[(i1 : Int).toNat]!.l.from_))), .pv (.lit (.int .i64 (two.D[(i1 : Int).toNat]!.l.to))), sS (some two.D[(i1 : Int).toNat]!.b.nil) (eI .u8) (two.D[(i1 : Int).toNat]!.b.D), .pv (.lit (.int .u64 (two.D[(i1 : Int).toNat]!.side)))]) ?_
      obtain ⟨db, hq_db⟩ : ∃ q_, q_ = (does vc2 (two.D[(i1 : Int).toNat]!)) := ⟨_, rfl⟩
      have hc_db := (does_calls vc2 (two.D[(i1 : Int).toNat]!) hWo (Nat.le_trans ((short_ok ‹(!(short (Sl.mk false [l, one, two]))) = false› two (by simp)).2 _ (List.mem_of_getElem? (by assumption))) (by decide)))
      first | rw [← hq_db] at hR hc_db | (unfold lawTwins at hR; rw [← hq_db] at hR hc_db) | (unfold lawTwins_l0 at hR; rw [← hq_db] at hR hc_db) | (unfold lawTwins_l1 at hR; rw [← hq_db] at hR hc_db)
      have hf0_db := does_ok (n := vc2) hWo (two.D[(i1 : Int).toNat]!)
      rw [← hq_db] at hf0_db
      have hf1_db := does_okF (n := vc2) hWf (two.D[(i1 : Int).toNat]!)
      rw [← hq_db] at hf1_db
      have hf2_db := does_live (n := vc2) hWm (two.D[(i1 : Int).toNat]!)
      rw [← hq_db] at hf2_db
      refine rvc_un (rexec_callObj hP C (fun b => bif b == 0 then 34 else bif b == 1 then 534 else b) [] rfl rfl rfl hc_db rfl rfl ⟨rfl, trivial⟩ (of_decide_eq_true rfl) rfl (of_decide_eq_true rfl) (of_decide_eq_true rfl) allB_nil allB_nil (allB_cons rfl allB_nil) ?_ rfl (allB_cons rfl allB_nil))
      refine rvc_nil ?_
      refine Awp.regionP C ?_
      refine rvP C (.pv (.lit (.int .i64 (IntKind.i64.wrap ((i1 : Int) + 1))))) ?_
      refine rvP C (.pv (.lit (.int .i64 (IntKind.i64.wrap ((i1 : Int) + 1))))) ?_
      refine rvc_nil ?_
      refine ⟨h8, (da.1, db.1), ?_, ?_⟩
      · exact ⟨(by rw [show (bif (decide ((one.D.length : Int) < (two.D.length : Int))) then (two.D.length : Int) else (one.D.length : Int)).toNat - (i1 + 1) = k by omega]; exact hR), ⟨⟨(by assumption), (by assumption), (by assumption)⟩, (by assumption), (by assumption), (by assumption)⟩⟩
      · exact ⟨fun b => b, WeakerR.ofL (Ks := [22, 34, 522, 534]) hI ⟨⟨rfl, rfl⟩, ⟨rfl, rfl⟩, ⟨rfl, rfl⟩, ⟨rfl, rfl⟩, ⟨rfl, rfl⟩, ⟨rfl, rfl⟩, ⟨rfl, rfl⟩, ⟨lit_cast (wrap_i64 (by omega) (by omega)), rfl⟩, trivial⟩ (okH_map rfl rfl rfl (okH_cons rfl rfl rfl rfl (okH_map rfl rfl rfl (okH_cons rfl rfl rfl rfl (okH_nil))))) rfl⟩
     ·
      replace hR := of_false h12 hR
      refine Awp.skip ?_
      refine Awp.regionP C ?_
      refine rvP C (.pv (.lit (.int .i64 (IntKind.i64.wrap ((i1 : Int) + 1))))) ?_
      refine rvP C (.pv (.lit (.int .i64 (IntKind.i64.wrap ((i1 : Int) + 1))))) ?_
      refine rvc_nil ?_
      refine ⟨h8, (da.1, vc2), ?_, ?_⟩
      · exact ⟨(by rw [show (bif (decide ((one.D.length : Int) < (two.D.length : Int))) then (two.D.length : Int) else (one.D.length : Int)).toNat - (i1 + 1) = k by omega]; exact hR), ⟨⟨(by assumption), (by assumption), (by assumption)⟩, (by assumption), (by assumption), (by assumption)⟩⟩
      · exact ⟨fun b => b, WeakerR.ofL (Ks := [22, 34, 522, 534]) hI ⟨⟨rfl, rfl⟩, ⟨rfl, rfl⟩, ⟨rfl, rfl⟩, ⟨rfl, rfl⟩, ⟨rfl, rfl⟩, ⟨rfl, rfl⟩, ⟨rfl, rfl⟩, ⟨lit_cast (wrap_i64 (by omega) (by omega)), rfl⟩, trivial⟩ (okH_map rfl rfl rfl (okH_cons rfl rfl rfl rfl (okH_map rfl rfl rfl (okH_cons rfl rfl rfl rfl (okH_nil))))) rfl⟩
    ·
     replace hR := of_false h10 hR
     refine Awp.skip ?_
     refine Awp.consP C ?_
     refine rvP C (.pv (.lit (.int .i64 (i1 : Int)))) ?_
     refine rvP C (sS (some two.nil) eDo two.D) ?_
     refine rvP C (.pv (.lit (.int .i64 (two.D.length : Int)))) ?_
     refine rvP C (.pv (.lit (.bool (decide ((i1 : Int) < (two.D.length : Int)))))) ?_
     refine rvc_nil ?_
     refine Awp.cond (b := (decide ((i1 : Int) < (two.D.length : Int)))) rfl (fun h14 => ?_) (fun h14 => ?_)
     ·
      replace hR := of_true h14 hR
      refine Awp.region C (fun _ => .writer) (by kernel_rfl) ?_
      refine rvP C (.ptr 34 0) ?_
      refine rvP C (sS (some two.nil) eDo two.D) ?_
      refine rvP C (.pv (.lit (.int .i64 (i1 : Int)))) ?_
      have h15 : two.D[(i1 : Int).toNat]? = some two.D[(i1 : Int).toNat]! := getE (by have := of_decide_eq_false h3; have := of_decide_eq_true h7; have := of_decide_eq_false h10; have := of_decide_eq_true h14; omega)
      refine rvc_un (rexec_idxS C rfl rfl rfl rfl rfl rfl (two.D[(i1 : Int).toNat]!) (Int.natCast_nonneg _) h15 ?_)
      refine rvP C (.agg [.pv (.lit (.int .i64 (two.D[(i1 : Int).toNat]!.op))), .pv (.lit (.int .i64 (two.D[(i1 : Int).toNat]!.i))), .pv (.lit (.int .i64 (two.D[(i1 : Int).toNat]!.l.from_))), .pv (.lit (.int .i64 (two.D[(i1 : Int).toNat]!.l.to))), sS (some two.D[(i1 : Int).toNat]!.b.nil) (eI .u8) (two.D[(i1 : Int).toNat]!.b.D), .pv (.lit (.int .u64 (two.D[(i1 : Int).toNat]!.side)))]) ?_
      obtain ⟨db1, hq_db1⟩ : ∃ q_, q_ = (does vc2 (two.D[(i1 : Int).toNat]!)) := ⟨_, rfl⟩
      have hc_db1 := (does_calls vc2 (two.D[(i1 : Int).toNat]!) hWo (Nat.le_trans ((short_ok ‹(!(short (Sl.mk false [l, one, two]))) = false› two (by simp)).2 _ (List.mem_of_getElem? (by assumption))) (by decide)))
      first | rw [← hq_db1] at hR hc_db1 | (unfold lawTwins at hR; rw [← hq_db1] at hR hc_db1) | (unfold lawTwins_l0 at hR; rw [← hq_db1] at hR hc_db1) | (unfold lawTwins_l1 at hR; rw [← hq_db1] at hR hc_db1)
      have hf0_db1 := does_ok (n := vc2) hWo (two.D[(i1 : Int).toNat]!)
      rw [← hq_db1] at hf0_db1
      have hf1_db1 := does_okF (n := vc2) hWf (two.D[(i1 : Int).toNat]!)
      rw [← hq_db1] at hf1_db1
      have hf2_db1 := does_live (n := vc2) hWm (two.D[(i1 : Int).toNat]!)
      rw [← hq_db1] at hf2_db1
      refine rvc_un (rexec_callObj hP C (fun b => bif b == 0 then 34 else bif b == 1 then 534 else b) [] rfl rfl rfl hc_db1 rfl rfl ⟨rfl, trivial⟩ (of_decide_eq_true rfl) rfl (of_decide_eq_true rfl) (of_decide_eq_true rfl) allB_nil allB_nil (allB_cons rfl allB_nil) ?_ rfl (allB_cons rfl allB_nil))
      refine rvc_nil ?_
      refine Awp.regionP C ?_
      refine rvP C (.pv (.lit (.int .i64 (IntKind.i64.wrap ((i1 : Int) + 1))))) ?_
      refine rvP C (.pv (.lit (.int .i64 (IntKind.i64.wrap ((i1 : Int) + 1))))) ?_
      refine rvc_nil ?_
      refine ⟨h8, (vc1, db1.1), ?_, ?_⟩
      · exact ⟨(by rw [show (bif (decide ((one.D.length : Int) < (two.D.length : Int))) then (two.D.length : Int) else (one.D.length : Int)).toNat - (i1 + 1) = k by omega]; exact hR), ⟨⟨(by assumption), (by assumption), (by assumption)⟩, (by assumption), (by assumption), (by assumption)⟩⟩
      · exact ⟨fun b => b, WeakerR.ofL (Ks := [22, 34, 522, 534]) hI ⟨⟨rfl, rfl⟩, ⟨rfl, rfl⟩, ⟨rfl, rfl⟩, ⟨rfl, rfl⟩, ⟨rfl, rfl⟩, ⟨rfl, rfl⟩, ⟨rfl, rfl⟩, ⟨lit_cast (wrap_i64 (by omega) (by omega)), rfl⟩, trivial⟩ (okH_map rfl rfl rfl (okH_cons rfl rfl rfl rfl (okH_map rfl rfl rfl (okH_cons rfl rfl rfl rfl (okH_nil))))) rfl⟩
     ·
      replace hR := of_false h14 hR
      refine Awp.skip ?_
      refine Awp.regionP C ?_
      refine rvP C (.pv (.lit (.int .i64 (IntKind.i64.wrap ((i1 : Int) + 1))))) ?_
      refine rvP C (.pv (.lit (.int .i64 (IntKind.i64.wrap ((i1 : Int) + 1))))) ?_
      refine rvc_nil ?_
      refine ⟨h8, (vc1, vc2), ?_, ?_⟩
      · exact ⟨(by rw [show (bif (decide ((one.D.length : Int) < (two.D.length : Int))) then (two.D.length : Int) else (one.D.length : Int)).toNat - (i1 + 1) = k by omega]; exact hR), ⟨⟨(by assumption), (by assumption), (by assumption)⟩, (by assumption), (by assumption), (by assumption)⟩⟩
      · exact ⟨fun b => b, WeakerR.ofL (Ks := [22, 34, 522, 534]) hI ⟨⟨rfl, rfl⟩, ⟨rfl, rfl⟩, ⟨rfl, rfl⟩, ⟨rfl, rfl⟩, ⟨rfl, rfl⟩, ⟨rfl, rfl⟩, ⟨rfl, rfl⟩, ⟨lit_cast (wrap_i64 (by omega) (by omega)), rfl⟩, trivial⟩ (okH_map rfl rfl rfl (okH_cons rfl rfl rfl rfl (okH_map rfl rfl rfl (okH_cons rfl rfl rfl rfl (okH_nil))))) rfl⟩
   ·
    rw [show (bif (decide ((one.D.length : Int) < (two.D.length : Int))) then (two.D.length : Int) else (one.D.length : Int)).toNat - i1 = 0 by have := of_decide_eq_false h7; omega] at hR
    refine Awp.exit ?_
    refine Awp.cons C (fun _ => .writer) (by kernel_rfl) ?_
    refine rvP C (.fn 26 [] []) ?_
    refine rvP C (sS (some l.nil) eDo l.D) ?_
    refine rvP C (sS (some one.nil) eDo one.D) ?_
    refine rvc_un (rexec_callOV hP C rfl rfl rfl rfl rfl (playT_calls l one (Nat.le_trans (short_ok ‹(!(short (Sl.mk false [l, one, two]))) = false› one (by simp)).1 (by decide)) (Nat.le_trans (short_ok ‹(!(short (Sl.mk false [l, one, two]))) = false› l (by simp)).1 (by decide))) ?_)
    refine rvP C (.fn 26 [] []) ?_
    refine rvP C (sS (some l.nil) eDo l.D) ?_
    refine rvP C (sS (some two.nil) eDo two.D) ?_
    refine rvc_un (rexec_callOV hP C rfl rfl rfl rfl rfl (playT_calls l two (Nat.le_trans (short_ok ‹(!(short (Sl.mk false [l, one, two]))) = false› two (by simp)).1 (by decide)) (Nat.le_trans (short_ok ‹(!(short (Sl.mk false [l, one, two]))) = false› l (by simp)).1 (by decide))) ?_)
    refine rvP C (.ptr 67 0) ?_
    refine rvP C (.ptr 71 0) ?_
    refine rvc_nil ?_
    refine Awp.cons C (fun _ => .writer) (by kernel_rfl) ?_
    refine rvP C (.ptr 22 0) ?_
    refine rvP C (.ptr 67 0) ?_
    refine rvc_un (rexec_callObj hP C (fun b => bif b == 0 then 22 else bif b == 1 then 522 else bif b == 2 then 67 else b) [] rfl rfl rfl (same_calls vc1 (playT l one) hVo hVf (playT_len l one (short_ok ‹(!(short (Sl.mk false [l, one, two]))) = false› l (by simp)).1 (short_ok ‹(!(short (Sl.mk false [l, one, two]))) = false› one (by simp)).1)) rfl rfl ⟨rfl, rfl, trivial⟩ (of_decide_eq_true rfl) rfl (of_decide_eq_true rfl) (of_decide_eq_true rfl) allB_nil allB_nil (allB_cons rfl (allB_cons rfl allB_nil)) ?_ rfl (allB_cons rfl (allB_cons rfl allB_nil)))
    refine rvP C (.pv (.lit (.bool (same vc1 (playT l one))))) ?_
    refine rvc_case 75 (same vc1 (playT l one)) rfl (fun h16 => ?_) (fun h16 => ?_)
    ·
     replace hR := of_true h16 hR
     refine rvO C (.ptr 34 0) ?_
     refine rvO C (.ptr 71 0) ?_
     refine rvc_open rfl rfl rfl (rexec_callObj hP C (fun b => bif b == 0 then 34 else bif b == 1 then 534 else bif b == 2 then 71 else b) [] rfl rfl rfl (same_calls vc2 (playT l two) hWo hWf (playT_len l two (short_ok ‹(!(short (Sl.mk false [l, one, two]))) = false› l (by simp)).1 (short_ok ‹(!(short (Sl.mk false [l, one, two]))) = false› two (by simp)).1)) rfl rfl ⟨rfl, rfl, trivial⟩ (of_decide_eq_true rfl) rfl (of_decide_eq_true rfl) (of_decide_eq_true rfl) allB_nil allB_nil (allB_cons rfl (allB_cons rfl allB_nil)) ?_ rfl (allB_cons rfl (allB_cons rfl allB_nil)))
     refine rvP C (.pv (.lit (.bool (same vc2 (playT l two))))) ?_
     refine rvP C (.pv (.lit (.bool (same vc2 (playT l two))))) ?_
     refine rvc_case 80 (same vc2 (playT l two)) rfl (fun h17 => ?_) (fun h17 => ?_)
     ·
      replace hR := of_true h17 hR
      refine rvc_open rfl rfl rfl (rexec_call hP C rfl rfl rfl (awake_calls ) ?_)
      refine rvP C (.pv (.lit (.bool (awake )))) ?_
      refine rvP C (.pv (.lit (.bool (awake )))) ?_
      refine rvc_nil ?_
      refine Awp.ret ?_
      subst hR
      exact ⟨.inl rfl, rfl⟩
     ·
      replace hR := of_false h17 hR
      refine rvS ?_
      refine rvP C (.pv (.lit (.bool false))) ?_
      refine rvP C (.pv (.lit (.bool false))) ?_
      refine rvc_nil ?_
      refine Awp.ret ?_
      subst hR
      exact ⟨.inl rfl, rfl⟩
    ·
     replace hR := of_false h16 hR
     refine rvS ?_
     refine rvS ?_
     refine rvS ?_
     refine rvP C (.pv (.lit (.bool false))) ?_
     refine rvP C (.pv (.lit (.bool false))) ?_
     refine rvS ?_
     refine rvP C (.pv (.lit (.bool false))) ?_
     refine rvP C (.pv (.lit (.bool false))) ?_
     refine rvc_nil ?_
     refine Awp.ret ?_
     subst hR
     exact ⟨.inl rfl, rfl⟩
end Go.Proofs.Ytpeeofofagfooaa
/- A law: room. No conditions. -/
namespace Go.Proofs.Ytpeeofofagfooaa
open Go.Am
end Go.Proofs.Ytpeeofofagfooaa
/- The law LinksRoom: no link ever has more than eight. No conditions. -/
namespace Go.Proofs.Ytpeeofofagfooaa
open Go.Am
theorem awake_true : awake = true := by decide +kernel
end Go.Proofs.Ytpeeofofagfooaa
/- The law LinksTwins in plain Lean. No conditions. -/
namespace Go.Proofs.Ytpeeofofagfooaa
open Go.Am
def foldX (ls : List Do) (x : Net51) : Net51 := ls.foldl (fun x k => (also x k).1) x
def foldN (ls : List Do) (n : Net) : Net := ls.foldl (fun n k => (does n k).1) n
theorem playT_l0_eq : ∀ (ls : List Do) (i : Nat) (x : Net51), playT_l0 ls i x = foldX ls x
  | [], _, _ => rfl
  | k :: ls, i, x => by unfold playT_l0 foldX; rw [playT_l0_eq ls]; rfl
def goodD (y : Do) : Prop := (y.b.nil = true → y.b.D = []) ∧ 0 ≤ y.side ∧ y.side < 18446744073709551616
theorem Rel.fold : ∀ (ls : List Do) {N : Nat} {n : Net} {x : Net51}, Rel N n x → N + ls.length ≤ 1000000 → (∀ y ∈ ls, goodD y) → Rel (N + ls.length) (foldN ls n) (foldX ls x)
  | [], _, _, _, h, _, _ => h
  | k :: ls, N, n, x, h, hN, hw => by
    have hk := hw k (List.mem_cons_self ..)
    rw [List.length_cons] at hN ⊢
    have r := Rel.fold ls (h.step (by omega) k hk.1 hk.2).1 (by omega) fun y hy => hw y (List.mem_cons_of_mem _ hy)
    rw [show N + (ls.length + 1) = N + 1 + ls.length by omega]
    exact r
theorem fold_succ (D : List Do) (n : Net) {i : Nat} (h : (i : Int) < (D.length : Int)) : (does (foldN (D.take i) n) (D[(i : Int).toNat]!)).1 = foldN (D.take (i + 1)) n := by
  have hi : i < D.length := by omega
  rw [Int.toNat_natCast, getElem!_pos _ i hi, List.take_succ_eq_append_getElem hi]
  unfold foldN
  rw [List.foldl_append]; rfl
theorem fold_stay (D : List Do) (n : Net) {i : Nat} (h : ¬ (i : Int) < (D.length : Int)) : foldN (D.take i) n = foldN (D.take (i + 1)) n := by
  rw [List.take_of_length_le (by omega), List.take_of_length_le (by omega)]
theorem lawTwins_l1_true {l one two : Sl Do} {n : Net} (h1 : same (foldN one.D n) (playT l one) = true) (h2 : same (foldN two.D n) (playT l two) = true) : ∀ (k i : Nat), one.D.length ≤ i + k → two.D.length ≤ i + k → lawTwins_l1 l one two k i (foldN (one.D.take i) n) (foldN (two.D.take i) n) = true
  | 0, i, g1, g2 => by
    unfold lawTwins_l1
    rw [List.take_of_length_le (by omega), List.take_of_length_le (by omega), h1, h2, awake_true]; rfl
  | k + 1, i, g1, g2 => by
    have r := lawTwins_l1_true h1 h2 k (i + 1) (by omega) (by omega)
    unfold lawTwins_l1
    by_cases e1 : (i : Int) < (one.D.length : Int)
    · rw [decide_eq_true e1, cond_true]
      by_cases e2 : (i : Int) < (two.D.length : Int)
      · rw [decide_eq_true e2, cond_true, fold_succ _ _ e1, fold_succ _ _ e2]; exact r
      · rw [decide_eq_false e2, cond_false, fold_succ _ _ e1, fold_stay _ _ e2]; exact r
    · rw [decide_eq_false e1, cond_false]
      by_cases e2 : (i : Int) < (two.D.length : Int)
      · rw [decide_eq_true e2, cond_true, fold_stay _ _ e1, fold_succ _ _ e2]; exact r
      · rw [decide_eq_false e2, cond_false, fold_stay _ _ e1, fold_stay _ _ e2]; exact r
theorem lawTwins_l0_eq (l one two : Sl Do) : ∀ (ls : List Do) (i : Nat) (n : Net), lawTwins_l0 l one two ls i n = lawTwins_l1 l one two (bif (decide ((one.D.length : Int) < (two.D.length : Int))) then (two.D.length : Int) else (one.D.length : Int)).toNat 0 (foldN ls n) (foldN ls n)
  | [], _, _ => rfl
  | k :: ls, i, n => by unfold lawTwins_l0; rw [lawTwins_l0_eq l one two ls]; rfl
theorem lawTwins_true (l one two : Sl Do) (hl : l.nil = true → l.D = []) (w1 : ∀ y ∈ l.D, goodD y) (w2 : ∀ y ∈ one.D, goodD y) (w3 : ∀ y ∈ two.D, goodD y) : lawTwins l one two = true := by
  unfold lawTwins
  cases h : !(short (Sl.mk false [l, one, two]))
  case true => rw [cond_true]; exact awake_true
  have b1 := (short_ok h l (by simp)).1
  have b2 := (short_ok h one (by simp)).1
  have b3 := (short_ok h two (by simp)).1
  rw [cond_false, lawTwins_l0_eq]
  have both : ∀ more : Sl Do, more.D.length ≤ 150 → (∀ y ∈ more.D, goodD y) → same (foldN more.D (foldN l.D newN)) (playT l more) = true := fun more hm hw => by
    have e : foldN more.D (foldN l.D newN) = foldN (l.D ++ more.D) newN := by unfold foldN; rw [List.foldl_append]
    rw [e, playT_eq more hl, playT_l0_eq]
    refine (Rel.fold (l.D ++ more.D) rel_new (by rw [List.length_append]; omega) fun y hy => ?_).same (by rw [List.length_append]; omega)
    rcases List.mem_append.1 hy with hy | hy
    · exact w1 y hy
    · exact hw y hy
  refine lawTwins_l1_true (both one b2 w2) (both two b3 w3) _ 0 ?_ ?_
  · cases hd : decide ((one.D.length : Int) < (two.D.length : Int))
    · rw [cond_false]; omega
    · rw [cond_true]; have := of_decide_eq_true hd; omega
  · cases hd : decide ((one.D.length : Int) < (two.D.length : Int))
    · rw [cond_false]; have := of_decide_eq_false hd; omega
    · rw [cond_true]; omega
end Go.Proofs.Ytpeeofofagfooaa
/- Inputs of chapter 4, as plain values. No conditions. -/
namespace Go.Proofs.Ytpeeofofagfooaa
open Go.Am
set_option maxRecDepth 100000 in
theorem flat3 {m : Nat} {ps : List PV} (h : Flat Try.prog (m + 1) 3 ps) : ∃ n, ps = [.lit (.int .i64 n)] ∧ (Lit.int .i64 n).wf = true := by
  unfold Flat at h
  rw [Try.underlying3] at h
  exact h
def WT29 (x : Link) : Prop := (Lit.int .i64 x.from_).wf = true ∧ (Lit.int .i64 x.to).wf = true
set_option maxRecDepth 100000 in
theorem flat29 {m : Nat} {ps : List PV} (h : Flat Try.prog (m + 2) 29 ps) : ∃ x : Link, ps = eLink.enc x ∧ WT29 x := by
  unfold Flat at h
  rw [Try.underlying29] at h
  obtain ⟨a0, b0, e0, h0, a1, b1, e1, h1, el⟩ := h
  obtain ⟨x0, rfl, w0⟩ := flat3 (m := m + 0) h0
  obtain ⟨x1, rfl, w1⟩ := flat3 (m := m + 0) h1
  subst el
  subst e1
  subst e0
  exact ⟨⟨x0, x1⟩, rfl, w0, w1⟩
set_option maxRecDepth 100000 in
theorem flat5 {m : Nat} {ps : List PV} (h : Flat Try.prog (m + 1) 5 ps) : ∃ n, ps = [.lit (.int .u8 n)] ∧ (Lit.int .u8 n).wf = true := by
  unfold Flat at h
  rw [Try.underlying5] at h
  exact h
def WT30 (s : Sl Int) : Prop := s.D.length ≤ maxLen ∧ (s.nil = true → s.D = []) ∧ ∀ x ∈ s.D, (Lit.int .u8 x).wf = true
set_option maxRecDepth 100000 in
theorem flat30 {m : Nat} {ps : List PV} (h : Flat Try.prog (m + 2) 30 ps) : ∃ s : Sl Int, ps = [.sl (some s.nil) s.D.length (encL (eI .u8) s.D)] ∧ WT30 s := by
  unfold Flat at h
  rw [Try.underlying30] at h
  obtain ⟨b, D, rfl, h1, h2, h3⟩ := h
  obtain ⟨D2, e1, e2, e3⟩ := enc_list (e := (eI .u8)) (W := fun x => (Lit.int .u8 x).wf = true) D fun y hy => flat5 (h3 y hy)
  rw [e2, ← e1]
  exact ⟨⟨b, D2⟩, rfl, (by show D2.length ≤ _; rw [e1]; exact h1), (fun hb => by have := h2 hb; rw [this] at e1; exact List.eq_nil_of_length_eq_zero e1), e3⟩
set_option maxRecDepth 100000 in
theorem flat31 {m : Nat} {ps : List PV} (h : Flat Try.prog (m + 1) 31 ps) : ∃ n, ps = [.lit (.int .u64 n)] ∧ (Lit.int .u64 n).wf = true := by
  unfold Flat at h
  rw [Try.underlying31] at h
  exact h
def WT33 (x : Do) : Prop := (Lit.int .i64 x.op).wf = true ∧ (Lit.int .i64 x.i).wf = true ∧ WT29 x.l ∧ WT30 x.b ∧ (Lit.int .u64 x.side).wf = true
set_option maxRecDepth 100000 in
theorem flat33 {m : Nat} {ps : List PV} (h : Flat Try.prog (m + 3) 33 ps) : ∃ x : Do, ps = eDo.enc x ∧ WT33 x := by
  unfold Flat at h
  rw [Try.underlying33] at h
  obtain ⟨a0, b0, e0, h0, a1, b1, e1, h1, a2, b2, e2, h2, a3, b3, e3, h3, a4, b4, e4, h4, el⟩ := h
  obtain ⟨x0, rfl, w0⟩ := flat3 (m := m + 1) h0
  obtain ⟨x1, rfl, w1⟩ := flat3 (m := m + 1) h1
  obtain ⟨x2, rfl, w2⟩ := flat29 (m := m + 0) h2
  obtain ⟨x3, rfl, w3⟩ := flat30 (m := m + 0) h3
  obtain ⟨x4, rfl, w4⟩ := flat31 (m := m + 1) h4
  subst el
  subst e4
  subst e3
  subst e2
  subst e1
  subst e0
  exact ⟨⟨x0, x1, x2, x3, x4⟩, rfl, w0, w1, w2, w3, w4⟩
def WT22 (s : Sl Do) : Prop := s.D.length ≤ maxLen ∧ (s.nil = true → s.D = []) ∧ ∀ x ∈ s.D, WT33 x
set_option maxRecDepth 100000 in
theorem flat22 {m : Nat} {ps : List PV} (h : Flat Try.prog (m + 4) 22 ps) : ∃ s : Sl Do, ps = [.sl (some s.nil) s.D.length (encL eDo s.D)] ∧ WT22 s := by
  unfold Flat at h
  rw [Try.underlying22] at h
  obtain ⟨b, D, rfl, h1, h2, h3⟩ := h
  obtain ⟨D2, e1, e2, e3⟩ := enc_list (e := eDo) (W := fun x => WT33 x) D fun y hy => flat33 (h3 y hy)
  rw [e2, ← e1]
  exact ⟨⟨b, D2⟩, rfl, (by show D2.length ≤ _; rw [e1]; exact h1), (fun hb => by have := h2 hb; rw [this] at e1; exact List.eq_nil_of_length_eq_zero e1), e3⟩
end Go.Proofs.Ytpeeofofagfooaa
/- The contract of the law LinksTwins: it is true, whatever the input. No conditions. -/
namespace Go.Proofs.Ytpeeofofagfooaa
open Go.Am
theorem WT22.goods {l : Sl Do} (w : WT22 l) : ∀ y ∈ l.D, goodD y := fun y hy => by
  have h := (w.2.2 y hy).2.2.2.2
  simp [Lit.wf, IntKind.min, IntKind.max, IntKind.bits, IntKind.signed] at h
  exact ⟨(w.2.2 y hy).2.2.2.1.2.1, by omega, by omega⟩
theorem linksTwins_calls (l : Sl Do) (w : WT22 l) (one : Sl Do) (w1 : WT22 one) (two : Sl Do) (w2 : WT22 two) : PCalls Try.prog 9 [sS (some l.nil) eDo l.D, sS (some one.nil) eDo one.D, sS (some two.nil) eDo two.D] (.pv (.bool true)) := by
  have r := lawTwins_calls l one two (Nat.le_trans w.1 (by decide))
  rw [lawTwins_true l one two w.2.1 w.goods w1.goods w2.goods] at r
  exact r
end Go.Proofs.Ytpeeofofagfooaa
/- An abstract machine over the kit's calls, part 34: three rows of three numbers that are handed in. No conditions. -/
namespace Go.Am
section
variable {H : Type} {enc : TypeId × Value → H} {P : Program} {w : World} {base : Nat} {spare : Nat → Bool} {held : Bool}
end
end Go.Am
/- What all rows of this seat need: no knob is turned, the types are laid out. No conditions. -/
namespace Go.Proofs.Ytpeeofofagfooaa
open Go.Am
theorem own : ownKnob Try.prog.godebug = none := by kernel_rfl
theorem laidOut : laidOutB Try.prog = true := by kernel_rfl
end Go.Proofs.Ytpeeofofagfooaa
