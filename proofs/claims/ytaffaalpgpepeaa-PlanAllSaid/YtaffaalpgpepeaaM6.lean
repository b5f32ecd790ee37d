import Derived.Test.YtaffaalpgpepeaaM5
/- The example, a law. No conditions. -/
namespace Go.Proofs.Ytaffaalpgpepeaa
open Go.Am
def awake  : Bool :=
  (bif ((allP (Chain.mk 1 (Sl.mk false [(Member.mk 0 0 false), (Member.mk 1 1 false)])) (maskOf (Sl.mk false [0, 2])) (ofL [0, 1, 1, 0, 0, 0]) (ofL [1, 1, 0])).2.2 == 0) then (bif (eqCmds (allP (Chain.mk 1 (Sl.mk false [(Member.mk 0 0 false), (Member.mk 1 1 false)])) (maskOf (Sl.mk false [0, 2])) (ofL [0, 1, 1, 0, 0, 0]) (ofL [1, 1, 0])).1 (Sl.mk false [(Command.mk 1 1 0 1), (Command.mk 2 2 1 2)])) then (same (allP (Chain.mk 1 (Sl.mk false [(Member.mk 0 0 false), (Member.mk 1 1 false)])) (maskOf (Sl.mk false [0, 2])) (ofL [0, 1, 1, 0, 0, 0]) (ofL [1, 1, 0])).2.1 (Chain.mk 3 (Sl.mk false [(Member.mk 0 0 false), (Member.mk 2 1 false)]))) else false) else false)
theorem awake_calls   : PCalls Try.prog 9 [] (.pv (.lit (.bool (awake )))) := by
 generalize hR : awake  = R
 refine PCalls.of_body tabOk Try.func9 rfl rfl rfl rfl rfl mixed fun E hP C hI => ?_
 refine Awp.consP C ?_
 refine rvP C (.pv (.lit (.bool false))) ?_
 refine rvc_nil ?_
 refine Awp.consP C ?_
 refine rvP C (.agg [.pv (.lit (.int .i64 0)), .pv (.lit (.int .i64 0)), .pv (.lit (.bool false))]) ?_
 refine rvP C (.agg [.pv (.lit (.int .i64 1)), .pv (.lit (.int .i64 1)), .pv (.lit (.bool false))]) ?_
 refine rvc_un (rexec_buildSliceF C eMember [(Member.mk 0 0 false), (Member.mk 1 1 false)] rfl rfl rfl rfl rfl rfl rfl (by decide) rfl ?_)
 refine rvP C (.agg [.pv (.lit (.int .i64 1)), sS (some false) eMember [(Member.mk 0 0 false), (Member.mk 1 1 false)]]) ?_
 refine rvc_un (rexec_prim C (δ := { v := .ptr 1 0, new := [(1, .cells [.pv (.lit (.int .i64 0)), sS (some true) eMember []])] }) rfl rfl rfl rfl trivial rfl ?_)
 refine rvc_un (rexec_prim C (δ := { v := .undef, wr := [(1, some (.cells [.pv (.lit (.int .i64 1)), sS (some false) eMember [(Member.mk 0 0 false), (Member.mk 1 1 false)]]))] }) rfl rfl rfl rfl trivial rfl ?_)
 refine rvc_nil ?_
 refine Awp.consP C ?_
 refine rvP C (.agg [.pv (.lit (.int .i64 1)), sS (some false) eMember [(Member.mk 0 0 false), (Member.mk 1 1 false)]]) ?_
 refine rvc_un (rexec_buildSliceF C (eI .i64) [0, 2] rfl rfl rfl rfl rfl rfl rfl (by decide) rfl ?_)
 obtain ⟨ma, hq_ma⟩ : ∃ q_, q_ = (maskOf (Sl.mk false [0, 2])) := ⟨_, rfl⟩
 have hc_ma := (maskOf_calls (Sl.mk false [0, 2]) (of_decide_eq_true (by kernel_rfl)))
 first | rw [← hq_ma] at hR hc_ma | (unfold awake at hR; rw [← hq_ma] at hR hc_ma)
 have hf0_ma := maskOf_range (Sl.mk false [0, 2])
 rw [← hq_ma] at hf0_ma
 refine rvc_un (rexec_call hP C rfl rfl rfl hc_ma ?_)
 refine rvP C (.agg [.pv (.lit (.int .i64 0)), .pv (.lit (.int .i64 1)), .pv (.lit (.int .i64 1)), .pv (.lit (.int .i64 0)), .pv (.lit (.int .i64 0)), .pv (.lit (.int .i64 0))]) ?_
 refine rvP C (.agg [.pv (.lit (.int .i64 1)), .pv (.lit (.int .i64 1)), .pv (.lit (.int .i64 0))]) ?_
 obtain ⟨ap, hq_ap⟩ : ∃ q_, q_ = (allP (Chain.mk 1 (Sl.mk false [(Member.mk 0 0 false), (Member.mk 1 1 false)])) ma (ofL [0, 1, 1, 0, 0, 0]) (ofL [1, 1, 0])) := ⟨_, rfl⟩
 have hc_ap := (allP_calls (Chain.mk 1 (Sl.mk false [(Member.mk 0 0 false), (Member.mk 1 1 false)])) ma (ofL [0, 1, 1, 0, 0, 0]) (ofL [1, 1, 0]) (fun h => Bool.noConfusion h) (by assumption) (of_decide_eq_true (by kernel_rfl)))
 first | rw [← hq_ap] at hR hc_ap | (unfold awake at hR; rw [← hq_ap] at hR hc_ap)
 have hf0_ap := (allP_le (Chain.mk 1 (Sl.mk false [(Member.mk 0 0 false), (Member.mk 1 1 false)])) ma (ofL [0, 1, 1, 0, 0, 0]) (ofL [1, 1, 0]) (by assumption)).1
 rw [← hq_ap] at hf0_ap
 have hf1_ap := (allP_le (Chain.mk 1 (Sl.mk false [(Member.mk 0 0 false), (Member.mk 1 1 false)])) ma (ofL [0, 1, 1, 0, 0, 0]) (ofL [1, 1, 0]) (by assumption)).2
 rw [← hq_ap] at hf1_ap
 refine rvc_un (rexec_call hP C rfl rfl rfl hc_ap ?_)
 refine rvP C (.tup [sS (some ap.1.nil) eCommand ap.1.D, .agg [.pv (.lit (.int .i64 ap.2.1.epoch)), sS (some ap.2.1.members.nil) eMember ap.2.1.members.D], .pv (.lit (.int .i64 ap.2.2))]) ?_
 refine rvP C (sS (some ap.1.nil) eCommand ap.1.D) ?_
 refine rvP C (.agg [.pv (.lit (.int .i64 ap.2.1.epoch)), sS (some ap.2.1.members.nil) eMember ap.2.1.members.D]) ?_
 refine rvP C (.pv (.lit (.int .i64 ap.2.2))) ?_
 refine rvc_un (rexec_prim C (δ := { v := .ptr 3 0, new := [(3, .cells [.pv (.lit (.int .i64 0)), sS (some true) eMember []])] }) rfl rfl rfl rfl trivial rfl ?_)
 refine rvP C (sS (some ap.1.nil) eCommand ap.1.D) ?_
 refine rvc_un (rexec_prim C (δ := { v := .undef, wr := [(3, some (.cells [.pv (.lit (.int .i64 ap.2.1.epoch)), sS (some ap.2.1.members.nil) eMember ap.2.1.members.D]))] }) rfl rfl rfl rfl trivial rfl ?_)
 refine rvP C (.pv (.lit (.int .i64 ap.2.2))) ?_
 refine rvc_nil ?_
 refine Awp.consP C ?_
 refine rvP C (.pv (.lit (.int .i64 ap.2.2))) ?_
 refine rvP C (.pv (.lit (.bool (ap.2.2 == 0)))) ?_
 refine rvP C (.pv (.lit (.bool (ap.2.2 == 0)))) ?_
 refine rvc_case 21 (ap.2.2 == 0) rfl (fun h1 => ?_) (fun h1 => ?_)
 ·
  replace hR := of_true h1 hR
  refine rvO C (sS (some ap.1.nil) eCommand ap.1.D) ?_
  refine rvO C (.agg [.pv (.lit (.int .i64 1)), .pv (.lit (.int .i64 1)), .pv (.lit (.int .i64 0)), .pv (.lit (.int .i64 1))]) ?_
  refine rvO C (.agg [.pv (.lit (.int .i64 2)), .pv (.lit (.int .i64 2)), .pv (.lit (.int .i64 1)), .pv (.lit (.int .i64 2))]) ?_
  refine rvc_open rfl rfl rfl (rexec_buildSliceF C eCommand [(Command.mk 1 1 0 1), (Command.mk 2 2 1 2)] rfl rfl rfl rfl rfl rfl rfl (by decide) rfl ?_)
  obtain ⟨ec, hq_ec⟩ : ∃ q_, q_ = (eqCmds ap.1 (Sl.mk false [(Command.mk 1 1 0 1), (Command.mk 2 2 1 2)])) := ⟨_, rfl⟩
  have hc_ec := (eqCmds_calls ap.1 (Sl.mk false [(Command.mk 1 1 0 1), (Command.mk 2 2 1 2)]) (by first | omega | decide))
  first | rw [← hq_ec] at hR hc_ec | (unfold awake at hR; rw [← hq_ec] at hR hc_ec)
  refine rvc_open rfl rfl rfl (rexec_call hP C rfl rfl rfl hc_ec ?_)
  refine rvP C (.pv (.lit (.bool ec))) ?_
  refine rvP C (.pv (.lit (.bool ec))) ?_
  refine rvc_case 28 ec rfl (fun h2 => ?_) (fun h2 => ?_)
  ·
   replace hR := of_true h2 hR
   refine rvO C (.agg [.pv (.lit (.int .i64 ap.2.1.epoch)), sS (some ap.2.1.members.nil) eMember ap.2.1.members.D]) ?_
   refine rvO C (.agg [.pv (.lit (.int .i64 0)), .pv (.lit (.int .i64 0)), .pv (.lit (.bool false))]) ?_
   refine rvO C (.agg [.pv (.lit (.int .i64 2)), .pv (.lit (.int .i64 1)), .pv (.lit (.bool false))]) ?_
   refine rvc_open rfl rfl rfl (rexec_buildSliceF C eMember [(Member.mk 0 0 false), (Member.mk 2 1 false)] rfl rfl rfl rfl rfl rfl rfl (by decide) rfl ?_)
   refine rvO C (.agg [.pv (.lit (.int .i64 3)), sS (some false) eMember [(Member.mk 0 0 false), (Member.mk 2 1 false)]]) ?_
   obtain ⟨sm, hq_sm⟩ : ∃ q_, q_ = (same ap.2.1 (Chain.mk 3 (Sl.mk false [(Member.mk 0 0 false), (Member.mk 2 1 false)]))) := ⟨_, rfl⟩
   have hc_sm := (same_calls ap.2.1 (Chain.mk 3 (Sl.mk false [(Member.mk 0 0 false), (Member.mk 2 1 false)])) (by first | omega | decide))
   first | rw [← hq_sm] at hR hc_sm | (unfold awake at hR; rw [← hq_sm] at hR hc_sm)
   refine rvc_open rfl rfl rfl (rexec_call hP C rfl rfl rfl hc_sm ?_)
   refine rvP C (.pv (.lit (.bool sm))) ?_
   refine rvP C (.pv (.lit (.bool sm))) ?_
   refine rvc_nil ?_
   refine Awp.ret ?_
   subst hR
   exact ⟨.inl rfl, rfl⟩
  ·
   replace hR := of_false h2 hR
   refine rvS ?_
   refine rvS ?_
   refine rvS ?_
   refine rvS ?_
   refine rvS ?_
   refine rvS ?_
   refine rvP C (.pv (.lit (.bool false))) ?_
   refine rvP C (.pv (.lit (.bool false))) ?_
   refine rvc_nil ?_
   refine Awp.ret ?_
   subst hR
   exact ⟨.inl rfl, rfl⟩
 ·
  replace hR := of_false h1 hR
  refine rvS ?_
  refine rvS ?_
  refine rvS ?_
  refine rvS ?_
  refine rvS ?_
  refine rvP C (.pv (.lit (.bool false))) ?_
  refine rvP C (.pv (.lit (.bool false))) ?_
  refine rvS ?_
  refine rvS ?_
  refine rvS ?_
  refine rvS ?_
  refine rvS ?_
  refine rvS ?_
  refine rvP C (.pv (.lit (.bool false))) ?_
  refine rvP C (.pv (.lit (.bool false))) ?_
  refine rvc_nil ?_
  refine Awp.ret ?_
  subst hR
  exact ⟨.inl rfl, rfl⟩
end Go.Proofs.Ytaffaalpgpepeaa
/- The law PlanChecks in plain Lean: its model answers true. No conditions. -/
namespace Go.Proofs.Ytaffaalpgpepeaa
open Go.Am
theorem awake_true : awake = true := by kernel_rfl
theorem many_eq (c : Chain) (s : Int) : rMany c s = many c s := by
  have key : ∀ (l : List Member) (i : Nat) (n : Int), rMany_l0 s l i n = many_l0 s l i n := by
    intro l
    induction l with
    | nil => intro i n; rfl
    | cons x l ih =>
      intro i n
      unfold rMany_l0 many_l0
      rw [ih, ih]
  exact key _ _ _
theorem planCheck_eq (h w : Nat → Int) : rPlanCheck h w = planCheck h w := by
  have k1 : ∀ k i, rPlanCheck_l1 w k i = planCheck_l1 w k i := by
    intro k
    induction k with
    | zero => intro i; rfl
    | succ k ih =>
      intro i
      unfold rPlanCheck_l1 planCheck_l1
      rw [ih]
  have k0 : ∀ k i, rPlanCheck_l0 h w k i = planCheck_l0 h w k i := by
    intro k
    induction k with
    | zero => intro i; exact k1 3 0
    | succ k ih =>
      intro i
      unfold rPlanCheck_l0 planCheck_l0
      rw [ih, show decide (h i > 2) = decide (h i ≥ 3) from decide_eq_decide.2 (by omega)]
  exact k0 6 0
end Go.Proofs.Ytaffaalpgpepeaa
/- The reference: the next command; a law. No conditions. -/
namespace Go.Proofs.Ytaffaalpgpepeaa
open Go.Am
def fromW_l0 : Nat → Nat → Int → (Nat → Bool) → (Nat → Bool)
  | 0, _, _, vc => vc
  | k + 1, i, w1, vc => fromW_l0 k (i + 1) (IntKind.u64.wrap (w1.tdiv 2)) (updA vc i ((w1.tmod 2) == 1))
def fromW (w : Int) : (Nat → Bool) :=
  fromW_l0 64 0 w (ofL [false, false, false, false, false, false, false, false, false, false, false, false, false, false, false, false, false, false, false, false, false, false, false, false, false, false, false, false, false, false, false, false, false, false, false, false, false, false, false, false, false, false, false, false, false, false, false, false, false, false, false, false, false, false, false, false, false, false, false, false, false, false, false, false])
theorem fromW_calls (w : Int)  : PCalls Try.prog 41 [.pv (.lit (.int .u64 w))] (.agg [.pv (.lit (.bool ((fromW w) 0))), .pv (.lit (.bool ((fromW w) 1))), .pv (.lit (.bool ((fromW w) 2))), .pv (.lit (.bool ((fromW w) 3))), .pv (.lit (.bool ((fromW w) 4))), .pv (.lit (.bool ((fromW w) 5))), .pv (.lit (.bool ((fromW w) 6))), .pv (.lit (.bool ((fromW w) 7))), .pv (.lit (.bool ((fromW w) 8))), .pv (.lit (.bool ((fromW w) 9))), .pv (.lit (.bool ((fromW w) 10))), .pv (.lit (.bool ((fromW w) 11))), .pv (.lit (.bool ((fromW w) 12))), .pv (.lit (.bool ((fromW w) 13))), .pv (.lit (.bool ((fromW w) 14))), .pv (.lit (.bool ((fromW w) 15))), .pv (.lit (.bool ((fromW w) 16))), .pv (.lit (.bool ((fromW w) 17))), .pv (.lit (.bool ((fromW w) 18))), .pv (.lit (.bool ((fromW w) 19))), .pv (.lit (.bool ((fromW w) 20))), .pv (.lit (.bool ((fromW w) 21))), .pv (.lit (.bool ((fromW w) 22))), .pv (.lit (.bool ((fromW w) 23))), .pv (.lit (.bool ((fromW w) 24))), .pv (.lit (.bool ((fromW w) 25))), .pv (.lit (.bool ((fromW w) 26))), .pv (.lit (.bool ((fromW w) 27))), .pv (.lit (.bool ((fromW w) 28))), .pv (.lit (.bool ((fromW w) 29))), .pv (.lit (.bool ((fromW w) 30))), .pv (.lit (.bool ((fromW w) 31))), .pv (.lit (.bool ((fromW w) 32))), .pv (.lit (.bool ((fromW w) 33))), .pv (.lit (.bool ((fromW w) 34))), .pv (.lit (.bool ((fromW w) 35))), .pv (.lit (.bool ((fromW w) 36))), .pv (.lit (.bool ((fromW w) 37))), .pv (.lit (.bool ((fromW w) 38))), .pv (.lit (.bool ((fromW w) 39))), .pv (.lit (.bool ((fromW w) 40))), .pv (.lit (.bool ((fromW w) 41))), .pv (.lit (.bool ((fromW w) 42))), .pv (.lit (.bool ((fromW w) 43))), .pv (.lit (.bool ((fromW w) 44))), .pv (.lit (.bool ((fromW w) 45))), .pv (.lit (.bool ((fromW w) 46))), .pv (.lit (.bool ((fromW w) 47))), .pv (.lit (.bool ((fromW w) 48))), .pv (.lit (.bool ((fromW w) 49))), .pv (.lit (.bool ((fromW w) 50))), .pv (.lit (.bool ((fromW w) 51))), .pv (.lit (.bool ((fromW w) 52))), .pv (.lit (.bool ((fromW w) 53))), .pv (.lit (.bool ((fromW w) 54))), .pv (.lit (.bool ((fromW w) 55))), .pv (.lit (.bool ((fromW w) 56))), .pv (.lit (.bool ((fromW w) 57))), .pv (.lit (.bool ((fromW w) 58))), .pv (.lit (.bool ((fromW w) 59))), .pv (.lit (.bool ((fromW w) 60))), .pv (.lit (.bool ((fromW w) 61))), .pv (.lit (.bool ((fromW w) 62))), .pv (.lit (.bool ((fromW w) 63)))]) := by
 generalize hR : fromW w = R
 refine PCalls.of_body tabOk Try.func41 rfl rfl rfl rfl rfl mixed fun E hP C hI => ?_
 refine Awp.consP C ?_
 refine rvc_un (rexec_prim C (δ := { v := .ptr 2 0, new := [(2, .cells [.pv (.lit (.bool false)), .pv (.lit (.bool false)), .pv (.lit (.bool false)), .pv (.lit (.bool false)), .pv (.lit (.bool false)), .pv (.lit (.bool false)), .pv (.lit (.bool false)), .pv (.lit (.bool false)), .pv (.lit (.bool false)), .pv (.lit (.bool false)), .pv (.lit (.bool false)), .pv (.lit (.bool false)), .pv (.lit (.bool false)), .pv (.lit (.bool false)), .pv (.lit (.bool false)), .pv (.lit (.bool false)), .pv (.lit (.bool false)), .pv (.lit (.bool false)), .pv (.lit (.bool false)), .pv (.lit (.bool false)), .pv (.lit (.bool false)), .pv (.lit (.bool false)), .pv (.lit (.bool false)), .pv (.lit (.bool false)), .pv (.lit (.bool false)), .pv (.lit (.bool false)), .pv (.lit (.bool false)), .pv (.lit (.bool false)), .pv (.lit (.bool false)), .pv (.lit (.bool false)), .pv (.lit (.bool false)), .pv (.lit (.bool false)), .pv (.lit (.bool false)), .pv (.lit (.bool false)), .pv (.lit (.bool false)), .pv (.lit (.bool false)), .pv (.lit (.bool false)), .pv (.lit (.bool false)), .pv (.lit (.bool false)), .pv (.lit (.bool false)), .pv (.lit (.bool false)), .pv (.lit (.bool false)), .pv (.lit (.bool false)), .pv (.lit (.bool false)), .pv (.lit (.bool false)), .pv (.lit (.bool false)), .pv (.lit (.bool false)), .pv (.lit (.bool false)), .pv (.lit (.bool false)), .pv (.lit (.bool false)), .pv (.lit (.bool false)), .pv (.lit (.bool false)), .pv (.lit (.bool false)), .pv (.lit (.bool false)), .pv (.lit (.bool false)), .pv (.lit (.bool false)), .pv (.lit (.bool false)), .pv (.lit (.bool false)), .pv (.lit (.bool false)), .pv (.lit (.bool false)), .pv (.lit (.bool false)), .pv (.lit (.bool false)), .pv (.lit (.bool false)), .pv (.lit (.bool false))])] }) rfl rfl rfl rfl trivial rfl ?_)
 refine rvc_nil ?_
 refine Awp.consP C ?_
 refine rvc_un (rexec_prim C (δ := { v := .ptr 3 0, new := [(3, .cells [.pv (.lit (.bool false)), .pv (.lit (.bool false)), .pv (.lit (.bool false)), .pv (.lit (.bool false)), .pv (.lit (.bool false)), .pv (.lit (.bool false)), .pv (.lit (.bool false)), .pv (.lit (.bool false)), .pv (.lit (.bool false)), .pv (.lit (.bool false)), .pv (.lit (.bool false)), .pv (.lit (.bool false)), .pv (.lit (.bool false)), .pv (.lit (.bool false)), .pv (.lit (.bool false)), .pv (.lit (.bool false)), .pv (.lit (.bool false)), .pv (.lit (.bool false)), .pv (.lit (.bool false)), .pv (.lit (.bool false)), .pv (.lit (.bool false)), .pv (.lit (.bool false)), .pv (.lit (.bool false)), .pv (.lit (.bool false)), .pv (.lit (.bool false)), .pv (.lit (.bool false)), .pv (.lit (.bool false)), .pv (.lit (.bool false)), .pv (.lit (.bool false)), .pv (.lit (.bool false)), .pv (.lit (.bool false)), .pv (.lit (.bool false)), .pv (.lit (.bool false)), .pv (.lit (.bool false)), .pv (.lit (.bool false)), .pv (.lit (.bool false)), .pv (.lit (.bool false)), .pv (.lit (.bool false)), .pv (.lit (.bool false)), .pv (.lit (.bool false)), .pv (.lit (.bool false)), .pv (.lit (.bool false)), .pv (.lit (.bool false)), .pv (.lit (.bool false)), .pv (.lit (.bool false)), .pv (.lit (.bool false)), .pv (.lit (.bool false)), .pv (.lit (.bool false)), .pv (.lit (.bool false)), .pv (.lit (.bool false)), .pv (.lit (.bool false)), .pv (.lit (.bool false)), .pv (.lit (.bool false)), .pv (.lit (.bool false)), .pv (.lit (.bool false)), .pv (.lit (.bool false)), .pv (.lit (.bool false)), .pv (.lit (.bool false)), .pv (.lit (.bool false)), .pv (.lit (.bool false)), .pv (.lit (.bool false)), .pv (.lit (.bool false)), .pv (.lit (.bool false)), .pv (.lit (.bool false))])] }) rfl rfl rfl rfl trivial rfl ?_)
 refine rvc_nil ?_
 refine Awp.seq ?_
 refine Awp.consP C ?_
 refine rvP C (.pv (.lit (.int .i64 0))) ?_
 refine rvc_nil ?_
 refine Awp.block ?_
 refine Awp.forR (σ := Int × ((Nat → Bool))) (64) (fun i v => [(0, .pv (.lit (.int .u64 v.1))), (2, .ptr 2 0), (3, .ptr 3 0), (5, .pv (.lit (.int .i64 (i : Int))))]) (fun i v => [(2, .cells [.pv (.lit (.bool false)), .pv (.lit (.bool false)), .pv (.lit (.bool false)), .pv (.lit (.bool false)), .pv (.lit (.bool false)), .pv (.lit (.bool false)), .pv (.lit (.bool false)), .pv (.lit (.bool false)), .pv (.lit (.bool false)), .pv (.lit (.bool false)), .pv (.lit (.bool false)), .pv (.lit (.bool false)), .pv (.lit (.bool false)), .pv (.lit (.bool false)), .pv (.lit (.bool false)), .pv (.lit (.bool false)), .pv (.lit (.bool false)), .pv (.lit (.bool false)), .pv (.lit (.bool false)), .pv (.lit (.bool false)), .pv (.lit (.bool false)), .pv (.lit (.bool false)), .pv (.lit (.bool false)), .pv (.lit (.bool false)), .pv (.lit (.bool false)), .pv (.lit (.bool false)), .pv (.lit (.bool false)), .pv (.lit (.bool false)), .pv (.lit (.bool false)), .pv (.lit (.bool false)), .pv (.lit (.bool false)), .pv (.lit (.bool false)), .pv (.lit (.bool false)), .pv (.lit (.bool false)), .pv (.lit (.bool false)), .pv (.lit (.bool false)), .pv (.lit (.bool false)), .pv (.lit (.bool false)), .pv (.lit (.bool false)), .pv (.lit (.bool false)), .pv (.lit (.bool false)), .pv (.lit (.bool false)), .pv (.lit (.bool false)), .pv (.lit (.bool false)), .pv (.lit (.bool false)), .pv (.lit (.bool false)), .pv (.lit (.bool false)), .pv (.lit (.bool false)), .pv (.lit (.bool false)), .pv (.lit (.bool false)), .pv (.lit (.bool false)), .pv (.lit (.bool false)), .pv (.lit (.bool false)), .pv (.lit (.bool false)), .pv (.lit (.bool false)), .pv (.lit (.bool false)), .pv (.lit (.bool false)), .pv (.lit (.bool false)), .pv (.lit (.bool false)), .pv (.lit (.bool false)), .pv (.lit (.bool false)), .pv (.lit (.bool false)), .pv (.lit (.bool false)), .pv (.lit (.bool false))]), (3, .cells [.pv (.lit (.bool (v.2 0))), .pv (.lit (.bool (v.2 1))), .pv (.lit (.bool (v.2 2))), .pv (.lit (.bool (v.2 3))), .pv (.lit (.bool (v.2 4))), .pv (.lit (.bool (v.2 5))), .pv (.lit (.bool (v.2 6))), .pv (.lit (.bool (v.2 7))), .pv (.lit (.bool (v.2 8))), .pv (.lit (.bool (v.2 9))), .pv (.lit (.bool (v.2 10))), .pv (.lit (.bool (v.2 11))), .pv (.lit (.bool (v.2 12))), .pv (.lit (.bool (v.2 13))), .pv (.lit (.bool (v.2 14))), .pv (.lit (.bool (v.2 15))), .pv (.lit (.bool (v.2 16))), .pv (.lit (.bool (v.2 17))), .pv (.lit (.bool (v.2 18))), .pv (.lit (.bool (v.2 19))), .pv (.lit (.bool (v.2 20))), .pv (.lit (.bool (v.2 21))), .pv (.lit (.bool (v.2 22))), .pv (.lit (.bool (v.2 23))), .pv (.lit (.bool (v.2 24))), .pv (.lit (.bool (v.2 25))), .pv (.lit (.bool (v.2 26))), .pv (.lit (.bool (v.2 27))), .pv (.lit (.bool (v.2 28))), .pv (.lit (.bool (v.2 29))), .pv (.lit (.bool (v.2 30))), .pv (.lit (.bool (v.2 31))), .pv (.lit (.bool (v.2 32))), .pv (.lit (.bool (v.2 33))), .pv (.lit (.bool (v.2 34))), .pv (.lit (.bool (v.2 35))), .pv (.lit (.bool (v.2 36))), .pv (.lit (.bool (v.2 37))), .pv (.lit (.bool (v.2 38))), .pv (.lit (.bool (v.2 39))), .pv (.lit (.bool (v.2 40))), .pv (.lit (.bool (v.2 41))), .pv (.lit (.bool (v.2 42))), .pv (.lit (.bool (v.2 43))), .pv (.lit (.bool (v.2 44))), .pv (.lit (.bool (v.2 45))), .pv (.lit (.bool (v.2 46))), .pv (.lit (.bool (v.2 47))), .pv (.lit (.bool (v.2 48))), .pv (.lit (.bool (v.2 49))), .pv (.lit (.bool (v.2 50))), .pv (.lit (.bool (v.2 51))), .pv (.lit (.bool (v.2 52))), .pv (.lit (.bool (v.2 53))), .pv (.lit (.bool (v.2 54))), .pv (.lit (.bool (v.2 55))), .pv (.lit (.bool (v.2 56))), .pv (.lit (.bool (v.2 57))), .pv (.lit (.bool (v.2 58))), .pv (.lit (.bool (v.2 59))), .pv (.lit (.bool (v.2 60))), .pv (.lit (.bool (v.2 61))), .pv (.lit (.bool (v.2 62))), .pv (.lit (.bool (v.2 63)))])]) [2, 3] (fun i v => fromW_l0 (64 - i) i v.1 v.2 = R) (w, (ofL [false, false, false, false, false, false, false, false, false, false, false, false, false, false, false, false, false, false, false, false, false, false, false, false, false, false, false, false, false, false, false, false, false, false, false, false, false, false, false, false, false, false, false, false, false, false, false, false, false, false, false, false, false, false, false, false, false, false, false, false, false, false, false, false])) ?_ ?_ (fun i v h1 hR => ?_)
 · exact hR
 · exact ⟨fun b => b, WeakerR.ofL (Ks := [2, 3]) hI ⟨⟨rfl, rfl⟩, ⟨rfl, rfl⟩, ⟨rfl, rfl⟩, ⟨rfl, rfl⟩, trivial⟩ (okH_cons rfl rfl rfl rfl (okH_cons rfl rfl rfl rfl (okH_nil))) rfl⟩
 obtain ⟨w1, vc⟩ := v
 refine Awp.consP C ?_
 refine rvP C (.pv (.lit (.bool (decide ((i : Int) < 64))))) ?_
 refine rvc_nil ?_
 refine Awp.seq ?_
 refine Awp.cond (b := (decide ((i : Int) < 64))) rfl (fun h2 => ?_) (fun h2 => ?_)
 ·
  have h3 : i < 64 := by have := of_decide_eq_true h2; omega
  obtain ⟨k, h4⟩ : ∃ k, 64 - i = k + 1 := ⟨64 - i - 1, by omega⟩
  rw [h4] at hR
  refine Awp.skip ?_
  refine Awp.seq ?_
  refine Awp.block ?_
  refine Awp.consP C ?_
  refine rvP C (.pv (.lit (.int .i64 (i : Int)))) ?_
  refine rvP C (.pv (.lit (.int .i64 (i : Int)))) ?_
  refine rvc_nil ?_
  refine Awp.consP C ?_
  refine rvP C (.pv (.lit (.int .i64 (i : Int)))) ?_
  refine rvP C (.pv (.lit (.int .u64 w1))) ?_
  refine rvc_un (rexec_prim C (δ := { v := .pv (.lit (.int .u64 (w1.tmod 2))) }) rfl rfl rfl rfl (by first | decide | omega) rfl ?_)
  refine rvP C (.pv (.lit (.bool ((w1.tmod 2) == 1)))) ?_
  refine rvc_un (rexec_prim C (δ := { v := .ptr 3 (0 + i * 1) }) rfl rfl rfl rfl ⟨(by have := of_decide_eq_true h2; omega), (by have := of_decide_eq_true h2; omega)⟩ rfl ?_)
  refine rvc_un (rexec_storeA C [] [] (fun z => .lit (.bool z)) vc 64 i ((w1.tmod 2) == 1) [.pv (.lit (.bool ((updA vc i ((w1.tmod 2) == 1)) 0))), .pv (.lit (.bool ((updA vc i ((w1.tmod 2) == 1)) 1))), .pv (.lit (.bool ((updA vc i ((w1.tmod 2) == 1)) 2))), .pv (.lit (.bool ((updA vc i ((w1.tmod 2) == 1)) 3))), .pv (.lit (.bool ((updA vc i ((w1.tmod 2) == 1)) 4))), .pv (.lit (.bool ((updA vc i ((w1.tmod 2) == 1)) 5))), .pv (.lit (.bool ((updA vc i ((w1.tmod 2) == 1)) 6))), .pv (.lit (.bool ((updA vc i ((w1.tmod 2) == 1)) 7))), .pv (.lit (.bool ((updA vc i ((w1.tmod 2) == 1)) 8))), .pv (.lit (.bool ((updA vc i ((w1.tmod 2) == 1)) 9))), .pv (.lit (.bool ((updA vc i ((w1.tmod 2) == 1)) 10))), .pv (.lit (.bool ((updA vc i ((w1.tmod 2) == 1)) 11))), .pv (.lit (.bool ((updA vc i ((w1.tmod 2) == 1)) 12))), .pv (.lit (.bool ((updA vc i ((w1.tmod 2) == 1)) 13))), .pv (.lit (.bool ((updA vc i ((w1.tmod 2) == 1)) 14))), .pv (.lit (.bool ((updA vc i ((w1.tmod 2) == 1)) 15))), .pv (.lit (.bool ((updA vc i ((w1.tmod 2) == 1)) 16))), .pv (.lit (.bool ((updA vc i ((w1.tmod 2) == 1)) 17))), .pv (.lit (.bool ((updA vc i ((w1.tmod 2) == 1)) 18))), .pv (.lit (.bool ((updA vc i ((w1.tmod 2) == 1)) 19))), .pv (.lit (.bool ((updA vc i ((w1.tmod 2) == 1)) 20))), .pv (.lit (.bool ((updA vc i ((w1.tmod 2) == 1)) 21))), .pv (.lit (.bool ((updA vc i ((w1.tmod 2) == 1)) 22))), .pv (.lit (.bool ((updA vc i ((w1.tmod 2) == 1)) 23))), .pv (.lit (.bool ((updA vc i ((w1.tmod 2) == 1)) 24))), .pv (.lit (.bool ((updA vc i ((w1.tmod 2) == 1)) 25))), .pv (.lit (.bool ((updA vc i ((w1.tmod 2) == 1)) 26))), .pv (.lit (.bool ((updA vc i ((w1.tmod 2) == 1)) 27))), .pv (.lit (.bool ((updA vc i ((w1.tmod 2) == 1)) 28))), .pv (.lit (.bool ((updA vc i ((w1.tmod 2) == 1)) 29))), .pv (.lit (.bool ((updA vc i ((w1.tmod 2) == 1)) 30))), .pv (.lit (.bool ((updA vc i ((w1.tmod 2) == 1)) 31))), .pv (.lit (.bool ((updA vc i ((w1.tmod 2) == 1)) 32))), .pv (.lit (.bool ((updA vc i ((w1.tmod 2) == 1)) 33))), .pv (.lit (.bool ((updA vc i ((w1.tmod 2) == 1)) 34))), .pv (.lit (.bool ((updA vc i ((w1.tmod 2) == 1)) 35))), .pv (.lit (.bool ((updA vc i ((w1.tmod 2) == 1)) 36))), .pv (.lit (.bool ((updA vc i ((w1.tmod 2) == 1)) 37))), .pv (.lit (.bool ((updA vc i ((w1.tmod 2) == 1)) 38))), .pv (.lit (.bool ((updA vc i ((w1.tmod 2) == 1)) 39))), .pv (.lit (.bool ((updA vc i ((w1.tmod 2) == 1)) 40))), .pv (.lit (.bool ((updA vc i ((w1.tmod 2) == 1)) 41))), .pv (.lit (.bool ((updA vc i ((w1.tmod 2) == 1)) 42))), .pv (.lit (.bool ((updA vc i ((w1.tmod 2) == 1)) 43))), .pv (.lit (.bool ((updA vc i ((w1.tmod 2) == 1)) 44))), .pv (.lit (.bool ((updA vc i ((w1.tmod 2) == 1)) 45))), .pv (.lit (.bool ((updA vc i ((w1.tmod 2) == 1)) 46))), .pv (.lit (.bool ((updA vc i ((w1.tmod 2) == 1)) 47))), .pv (.lit (.bool ((updA vc i ((w1.tmod 2) == 1)) 48))), .pv (.lit (.bool ((updA vc i ((w1.tmod 2) == 1)) 49))), .pv (.lit (.bool ((updA vc i ((w1.tmod 2) == 1)) 50))), .pv (.lit (.bool ((updA vc i ((w1.tmod 2) == 1)) 51))), .pv (.lit (.bool ((updA vc i ((w1.tmod 2) == 1)) 52))), .pv (.lit (.bool ((updA vc i ((w1.tmod 2) == 1)) 53))), .pv (.lit (.bool ((updA vc i ((w1.tmod 2) == 1)) 54))), .pv (.lit (.bool ((updA vc i ((w1.tmod 2) == 1)) 55))), .pv (.lit (.bool ((updA vc i ((w1.tmod 2) == 1)) 56))), .pv (.lit (.bool ((updA vc i ((w1.tmod 2) == 1)) 57))), .pv (.lit (.bool ((updA vc i ((w1.tmod 2) == 1)) 58))), .pv (.lit (.bool ((updA vc i ((w1.tmod 2) == 1)) 59))), .pv (.lit (.bool ((updA vc i ((w1.tmod 2) == 1)) 60))), .pv (.lit (.bool ((updA vc i ((w1.tmod 2) == 1)) 61))), .pv (.lit (.bool ((updA vc i ((w1.tmod 2) == 1)) 62))), .pv (.lit (.bool ((updA vc i ((w1.tmod 2) == 1)) 63)))] rfl rfl rfl rfl rfl rfl (by have := of_decide_eq_true h2; omega) rfl ?_)
  refine rvc_nil ?_
  refine Awp.regionP C ?_
  refine rvP C (.pv (.lit (.int .u64 w1))) ?_
  refine rvc_un (rexec_prim C (δ := { v := .pv (.lit (.int .u64 (IntKind.u64.wrap (w1.tdiv 2)))) }) rfl rfl rfl rfl (by first | decide | omega) rfl ?_)
  refine rvP C (.pv (.lit (.int .u64 (IntKind.u64.wrap (w1.tdiv 2))))) ?_
  refine rvc_nil ?_
  refine Awp.regionP C ?_
  refine rvP C (.pv (.lit (.int .i64 (IntKind.i64.wrap ((i : Int) + 1))))) ?_
  refine rvP C (.pv (.lit (.int .i64 (IntKind.i64.wrap ((i : Int) + 1))))) ?_
  refine rvc_nil ?_
  refine ⟨h3, ((IntKind.u64.wrap (w1.tdiv 2)), (updA vc i ((w1.tmod 2) == 1))), ?_, ?_⟩
  · exact (by rw [show 64 - (i + 1) = k by omega]; exact hR)
  · exact ⟨fun b => b, WeakerR.ofL (Ks := [2, 3]) hI ⟨⟨rfl, rfl⟩, ⟨rfl, rfl⟩, ⟨rfl, rfl⟩, ⟨lit_cast (wrap_i64 (by omega) (by omega)), rfl⟩, trivial⟩ (okH_cons rfl rfl rfl rfl (okH_cons rfl rfl rfl rfl (okH_nil))) rfl⟩
 ·
  rw [show 64 - i = 0 by have := of_decide_eq_false h2; omega] at hR
  refine Awp.exit ?_
  refine Awp.consP C ?_
  refine rvP C (.agg [.pv (.lit (.bool (vc 0))), .pv (.lit (.bool (vc 1))), .pv (.lit (.bool (vc 2))), .pv (.lit (.bool (vc 3))), .pv (.lit (.bool (vc 4))), .pv (.lit (.bool (vc 5))), .pv (.lit (.bool (vc 6))), .pv (.lit (.bool (vc 7))), .pv (.lit (.bool (vc 8))), .pv (.lit (.bool (vc 9))), .pv (.lit (.bool (vc 10))), .pv (.lit (.bool (vc 11))), .pv (.lit (.bool (vc 12))), .pv (.lit (.bool (vc 13))), .pv (.lit (.bool (vc 14))), .pv (.lit (.bool (vc 15))), .pv (.lit (.bool (vc 16))), .pv (.lit (.bool (vc 17))), .pv (.lit (.bool (vc 18))), .pv (.lit (.bool (vc 19))), .pv (.lit (.bool (vc 20))), .pv (.lit (.bool (vc 21))), .pv (.lit (.bool (vc 22))), .pv (.lit (.bool (vc 23))), .pv (.lit (.bool (vc 24))), .pv (.lit (.bool (vc 25))), .pv (.lit (.bool (vc 26))), .pv (.lit (.bool (vc 27))), .pv (.lit (.bool (vc 28))), .pv (.lit (.bool (vc 29))), .pv (.lit (.bool (vc 30))), .pv (.lit (.bool (vc 31))), .pv (.lit (.bool (vc 32))), .pv (.lit (.bool (vc 33))), .pv (.lit (.bool (vc 34))), .pv (.lit (.bool (vc 35))), .pv (.lit (.bool (vc 36))), .pv (.lit (.bool (vc 37))), .pv (.lit (.bool (vc 38))), .pv (.lit (.bool (vc 39))), .pv (.lit (.bool (vc 40))), .pv (.lit (.bool (vc 41))), .pv (.lit (.bool (vc 42))), .pv (.lit (.bool (vc 43))), .pv (.lit (.bool (vc 44))), .pv (.lit (.bool (vc 45))), .pv (.lit (.bool (vc 46))), .pv (.lit (.bool (vc 47))), .pv (.lit (.bool (vc 48))), .pv (.lit (.bool (vc 49))), .pv (.lit (.bool (vc 50))), .pv (.lit (.bool (vc 51))), .pv (.lit (.bool (vc 52))), .pv (.lit (.bool (vc 53))), .pv (.lit (.bool (vc 54))), .pv (.lit (.bool (vc 55))), .pv (.lit (.bool (vc 56))), .pv (.lit (.bool (vc 57))), .pv (.lit (.bool (vc 58))), .pv (.lit (.bool (vc 59))), .pv (.lit (.bool (vc 60))), .pv (.lit (.bool (vc 61))), .pv (.lit (.bool (vc 62))), .pv (.lit (.bool (vc 63)))]) ?_
  refine rvc_un (rexec_prim C (δ := { v := .undef, wr := [(2, some (.cells [.pv (.lit (.bool (vc 0))), .pv (.lit (.bool (vc 1))), .pv (.lit (.bool (vc 2))), .pv (.lit (.bool (vc 3))), .pv (.lit (.bool (vc 4))), .pv (.lit (.bool (vc 5))), .pv (.lit (.bool (vc 6))), .pv (.lit (.bool (vc 7))), .pv (.lit (.bool (vc 8))), .pv (.lit (.bool (vc 9))), .pv (.lit (.bool (vc 10))), .pv (.lit (.bool (vc 11))), .pv (.lit (.bool (vc 12))), .pv (.lit (.bool (vc 13))), .pv (.lit (.bool (vc 14))), .pv (.lit (.bool (vc 15))), .pv (.lit (.bool (vc 16))), .pv (.lit (.bool (vc 17))), .pv (.lit (.bool (vc 18))), .pv (.lit (.bool (vc 19))), .pv (.lit (.bool (vc 20))), .pv (.lit (.bool (vc 21))), .pv (.lit (.bool (vc 22))), .pv (.lit (.bool (vc 23))), .pv (.lit (.bool (vc 24))), .pv (.lit (.bool (vc 25))), .pv (.lit (.bool (vc 26))), .pv (.lit (.bool (vc 27))), .pv (.lit (.bool (vc 28))), .pv (.lit (.bool (vc 29))), .pv (.lit (.bool (vc 30))), .pv (.lit (.bool (vc 31))), .pv (.lit (.bool (vc 32))), .pv (.lit (.bool (vc 33))), .pv (.lit (.bool (vc 34))), .pv (.lit (.bool (vc 35))), .pv (.lit (.bool (vc 36))), .pv (.lit (.bool (vc 37))), .pv (.lit (.bool (vc 38))), .pv (.lit (.bool (vc 39))), .pv (.lit (.bool (vc 40))), .pv (.lit (.bool (vc 41))), .pv (.lit (.bool (vc 42))), .pv (.lit (.bool (vc 43))), .pv (.lit (.bool (vc 44))), .pv (.lit (.bool (vc 45))), .pv (.lit (.bool (vc 46))), .pv (.lit (.bool (vc 47))), .pv (.lit (.bool (vc 48))), .pv (.lit (.bool (vc 49))), .pv (.lit (.bool (vc 50))), .pv (.lit (.bool (vc 51))), .pv (.lit (.bool (vc 52))), .pv (.lit (.bool (vc 53))), .pv (.lit (.bool (vc 54))), .pv (.lit (.bool (vc 55))), .pv (.lit (.bool (vc 56))), .pv (.lit (.bool (vc 57))), .pv (.lit (.bool (vc 58))), .pv (.lit (.bool (vc 59))), .pv (.lit (.bool (vc 60))), .pv (.lit (.bool (vc 61))), .pv (.lit (.bool (vc 62))), .pv (.lit (.bool (vc 63)))]))] }) rfl rfl rfl rfl trivial rfl ?_)
  refine rvc_nil ?_
  refine Awp.ret ?_
  subst hR
  exact ⟨.inl rfl, rfl⟩
def rSpare_l0 (c : Chain) (h : (Nat → Int)) (site : Int) (sw : (Nat → Bool)) : Nat → Nat → Int
  | 0, _ => (-1)
  | k + 1, i => (bif (sw i) then (bif ((h i) == site) then (bif (decide ((rPlace c (i : Int)) < 0)) then (i : Int) else rSpare_l0 c h site sw k (i + 1) ) else rSpare_l0 c h site sw k (i + 1) ) else rSpare_l0 c h site sw k (i + 1) )
def rSpare (c : Chain) (alive : Int) (h : (Nat → Int)) (site : Int) : Int :=
  rSpare_l0 c h site (fromW alive) 6 0
theorem rSpare_calls (c : Chain) (alive : Int) (h : (Nat → Int)) (site : Int) (hl1 : c.members.D.length ≤ 1000000) : PCalls Try.prog 28 [.agg [.pv (.lit (.int .i64 c.epoch)), sS (some c.members.nil) eMember c.members.D], .pv (.lit (.int .u64 alive)), .agg [.pv (.lit (.int .i64 (h 0))), .pv (.lit (.int .i64 (h 1))), .pv (.lit (.int .i64 (h 2))), .pv (.lit (.int .i64 (h 3))), .pv (.lit (.int .i64 (h 4))), .pv (.lit (.int .i64 (h 5)))], .pv (.lit (.int .i64 site))] (.pv (.lit (.int .i64 (rSpare c alive h site)))) := by
 generalize hR : rSpare c alive h site = R
 refine PCalls.of_body tabOk Try.func28 rfl rfl rfl rfl rfl mixed fun E hP C hI => ?_
 refine Awp.consP C ?_
 refine rvc_un (rexec_prim C (δ := { v := .ptr 4 0, new := [(4, .cells [.pv (.lit (.int .i64 c.epoch)), sS (some c.members.nil) eMember c.members.D])] }) rfl rfl rfl rfl trivial rfl ?_)
 refine rvc_un (rexec_prim C (δ := { v := .ptr 6 0, new := [(6, .cells [.pv (.lit (.int .i64 (h 0))), .pv (.lit (.int .i64 (h 1))), .pv (.lit (.int .i64 (h 2))), .pv (.lit (.int .i64 (h 3))), .pv (.lit (.int .i64 (h 4))), .pv (.lit (.int .i64 (h 5)))])] }) rfl rfl rfl rfl trivial rfl ?_)
 refine rvP C (.pv (.lit (.int .i64 0))) ?_
 refine rvc_nil ?_
 refine Awp.consP C ?_
 refine rvP C (.pv (.lit (.int .u64 alive))) ?_
 obtain ⟨sw, hq_sw⟩ : ∃ q_, q_ = (fromW alive) := ⟨_, rfl⟩
 have hc_sw := (fromW_calls alive)
 first | rw [← hq_sw] at hR hc_sw | (unfold rSpare at hR; rw [← hq_sw] at hR hc_sw)
 refine rvc_un (rexec_call hP C rfl rfl rfl hc_sw ?_)
 refine rvc_un (rexec_prim C (δ := { v := .ptr 9 0, new := [(9, .cells [.pv (.lit (.bool false)), .pv (.lit (.bool false)), .pv (.lit (.bool false)), .pv (.lit (.bool false)), .pv (.lit (.bool false)), .pv (.lit (.bool false)), .pv (.lit (.bool false)), .pv (.lit (.bool false)), .pv (.lit (.bool false)), .pv (.lit (.bool false)), .pv (.lit (.bool false)), .pv (.lit (.bool false)), .pv (.lit (.bool false)), .pv (.lit (.bool false)), .pv (.lit (.bool false)), .pv (.lit (.bool false)), .pv (.lit (.bool false)), .pv (.lit (.bool false)), .pv (.lit (.bool false)), .pv (.lit (.bool false)), .pv (.lit (.bool false)), .pv (.lit (.bool false)), .pv (.lit (.bool false)), .pv (.lit (.bool false)), .pv (.lit (.bool false)), .pv (.lit (.bool false)), .pv (.lit (.bool false)), .pv (.lit (.bool false)), .pv (.lit (.bool false)), .pv (.lit (.bool false)), .pv (.lit (.bool false)), .pv (.lit (.bool false)), .pv (.lit (.bool false)), .pv (.lit (.bool false)), .pv (.lit (.bool false)), .pv (.lit (.bool false)), .pv (.lit (.bool false)), .pv (.lit (.bool false)), .pv (.lit (.bool false)), .pv (.lit (.bool false)), .pv (.lit (.bool false)), .pv (.lit (.bool false)), .pv (.lit (.bool false)), .pv (.lit (.bool false)), .pv (.lit (.bool false)), .pv (.lit (.bool false)), .pv (.lit (.bool false)), .pv (.lit (.bool false)), .pv (.lit (.bool false)), .pv (.lit (.bool false)), .pv (.lit (.bool false)), .pv (.lit (.bool false)), .pv (.lit (.bool false)), .pv (.lit (.bool false)), .pv (.lit (.bool false)), .pv (.lit (.bool false)), .pv (.lit (.bool false)), .pv (.lit (.bool false)), .pv (.lit (.bool false)), .pv (.lit (.bool false)), .pv (.lit (.bool false)), .pv (.lit (.bool false)), .pv (.lit (.bool false)), .pv (.lit (.bool false))])] }) rfl rfl rfl rfl trivial rfl ?_)
 refine rvc_un (rexec_prim C (δ := { v := .undef, wr := [(9, some (.cells [.pv (.lit (.bool (sw 0))), .pv (.lit (.bool (sw 1))), .pv (.lit (.bool (sw 2))), .pv (.lit (.bool (sw 3))), .pv (.lit (.bool (sw 4))), .pv (.lit (.bool (sw 5))), .pv (.lit (.bool (sw 6))), .pv (.lit (.bool (sw 7))), .pv (.lit (.bool (sw 8))), .pv (.lit (.bool (sw 9))), .pv (.lit (.bool (sw 10))), .pv (.lit (.bool (sw 11))), .pv (.lit (.bool (sw 12))), .pv (.lit (.bool (sw 13))), .pv (.lit (.bool (sw 14))), .pv (.lit (.bool (sw 15))), .pv (.lit (.bool (sw 16))), .pv (.lit (.bool (sw 17))), .pv (.lit (.bool (sw 18))), .pv (.lit (.bool (sw 19))), .pv (.lit (.bool (sw 20))), .pv (.lit (.bool (sw 21))), .pv (.lit (.bool (sw 22))), .pv (.lit (.bool (sw 23))), .pv (.lit (.bool (sw 24))), .pv (.lit (.bool (sw 25))), .pv (.lit (.bool (sw 26))), .pv (.lit (.bool (sw 27))), .pv (.lit (.bool (sw 28))), .pv (.lit (.bool (sw 29))), .pv (.lit (.bool (sw 30))), .pv (.lit (.bool (sw 31))), .pv (.lit (.bool (sw 32))), .pv (.lit (.bool (sw 33))), .pv (.lit (.bool (sw 34))), .pv (.lit (.bool (sw 35))), .pv (.lit (.bool (sw 36))), .pv (.lit (.bool (sw 37))), .pv (.lit (.bool (sw 38))), .pv (.lit (.bool (sw 39))), .pv (.lit (.bool (sw 40))), .pv (.lit (.bool (sw 41))), .pv (.lit (.bool (sw 42))), .pv (.lit (.bool (sw 43))), .pv (.lit (.bool (sw 44))), .pv (.lit (.bool (sw 45))), .pv (.lit (.bool (sw 46))), .pv (.lit (.bool (sw 47))), .pv (.lit (.bool (sw 48))), .pv (.lit (.bool (sw 49))), .pv (.lit (.bool (sw 50))), .pv (.lit (.bool (sw 51))), .pv (.lit (.bool (sw 52))), .pv (.lit (.bool (sw 53))), .pv (.lit (.bool (sw 54))), .pv (.lit (.bool (sw 55))), .pv (.lit (.bool (sw 56))), .pv (.lit (.bool (sw 57))), .pv (.lit (.bool (sw 58))), .pv (.lit (.bool (sw 59))), .pv (.lit (.bool (sw 60))), .pv (.lit (.bool (sw 61))), .pv (.lit (.bool (sw 62))), .pv (.lit (.bool (sw 63)))]))] }) rfl rfl rfl rfl trivial rfl ?_)
 refine rvc_nil ?_
 refine Awp.seq ?_
 refine Awp.consP C ?_
 refine rvP C (.pv (.lit (.int .i64 0))) ?_
 refine rvc_nil ?_
 refine Awp.block ?_
 refine Awp.forR (σ := Unit) (6) (fun i _v => [(3, .pv (.lit (.int .i64 site))), (4, .ptr 4 0), (6, .ptr 6 0), (9, .ptr 9 0), (13, .pv (.lit (.int .i64 (i : Int))))]) (fun i _v => [(4, .cells [.pv (.lit (.int .i64 c.epoch)), sS (some c.members.nil) eMember c.members.D]), (6, .cells [.pv (.lit (.int .i64 (h 0))), .pv (.lit (.int .i64 (h 1))), .pv (.lit (.int .i64 (h 2))), .pv (.lit (.int .i64 (h 3))), .pv (.lit (.int .i64 (h 4))), .pv (.lit (.int .i64 (h 5)))]), (9, .cells [.pv (.lit (.bool (sw 0))), .pv (.lit (.bool (sw 1))), .pv (.lit (.bool (sw 2))), .pv (.lit (.bool (sw 3))), .pv (.lit (.bool (sw 4))), .pv (.lit (.bool (sw 5))), .pv (.lit (.bool (sw 6))), .pv (.lit (.bool (sw 7))), .pv (.lit (.bool (sw 8))), .pv (.lit (.bool (sw 9))), .pv (.lit (.bool (sw 10))), .pv (.lit (.bool (sw 11))), .pv (.lit (.bool (sw 12))), .pv (.lit (.bool (sw 13))), .pv (.lit (.bool (sw 14))), .pv (.lit (.bool (sw 15))), .pv (.lit (.bool (sw 16))), .pv (.lit (.bool (sw 17))), .pv (.lit (.bool (sw 18))), .pv (.lit (.bool (sw 19))), .pv (.lit (.bool (sw 20))), .pv (.lit (.bool (sw 21))), .pv (.lit (.bool (sw 22))), .pv (.lit (.bool (sw 23))), .pv (.lit (.bool (sw 24))), .pv (.lit (.bool (sw 25))), .pv (.lit (.bool (sw 26))), .pv (.lit (.bool (sw 27))), .pv (.lit (.bool (sw 28))), .pv (.lit (.bool (sw 29))), .pv (.lit (.bool (sw 30))), .pv (.lit (.bool (sw 31))), .pv (.lit (.bool (sw 32))), .pv (.lit (.bool (sw 33))), .pv (.lit (.bool (sw 34))), .pv (.lit (.bool (sw 35))), .pv (.lit (.bool (sw 36))), .pv (.lit (.bool (sw 37))), .pv (.lit (.bool (sw 38))), .pv (.lit (.bool (sw 39))), .pv (.lit (.bool (sw 40))), .pv (.lit (.bool (sw 41))), .pv (.lit (.bool (sw 42))), .pv (.lit (.bool (sw 43))), .pv (.lit (.bool (sw 44))), .pv (.lit (.bool (sw 45))), .pv (.lit (.bool (sw 46))), .pv (.lit (.bool (sw 47))), .pv (.lit (.bool (sw 48))), .pv (.lit (.bool (sw 49))), .pv (.lit (.bool (sw 50))), .pv (.lit (.bool (sw 51))), .pv (.lit (.bool (sw 52))), .pv (.lit (.bool (sw 53))), .pv (.lit (.bool (sw 54))), .pv (.lit (.bool (sw 55))), .pv (.lit (.bool (sw 56))), .pv (.lit (.bool (sw 57))), .pv (.lit (.bool (sw 58))), .pv (.lit (.bool (sw 59))), .pv (.lit (.bool (sw 60))), .pv (.lit (.bool (sw 61))), .pv (.lit (.bool (sw 62))), .pv (.lit (.bool (sw 63)))])]) [4, 6, 9] (fun i _v => rSpare_l0 c h site sw (6 - i) i  = R) () ?_ ?_ (fun i _v h1 hR => ?_)
 · exact hR
 · exact ⟨fun b => b, WeakerR.ofL (Ks := [4, 6, 9]) hI ⟨⟨rfl, rfl⟩, ⟨rfl, rfl⟩, ⟨rfl, rfl⟩, ⟨rfl, rfl⟩, ⟨rfl, rfl⟩, trivial⟩ (okH_cons rfl rfl rfl rfl (okH_cons rfl rfl rfl rfl (okH_cons rfl rfl rfl rfl (okH_nil)))) rfl⟩
 refine Awp.consP C ?_
 refine rvP C (.pv (.lit (.bool (decide ((i : Int) < 6))))) ?_
 refine rvc_nil ?_
 refine Awp.seq ?_
 refine Awp.cond (b := (decide ((i : Int) < 6))) rfl (fun h2 => ?_) (fun h2 => ?_)
 ·
  have h3 : i < 6 := by have := of_decide_eq_true h2; omega
  obtain ⟨k, h4⟩ : ∃ k, 6 - i = k + 1 := ⟨6 - i - 1, by omega⟩
  rw [h4] at hR
  refine Awp.skip ?_
  refine Awp.seq ?_
  refine Awp.block ?_
  refine Awp.consP C ?_
  refine rvP C (.pv (.lit (.int .i64 (i : Int)))) ?_
  refine rvP C (.pv (.lit (.int .i64 (i : Int)))) ?_
  refine rvc_nil ?_
  refine Awp.consP C ?_
  refine rvP C (.pv (.lit (.int .i64 (i : Int)))) ?_
  refine rvc_un (rexec_prim C (δ := { v := .ptr 9 (0 + i * 1) }) rfl rfl rfl rfl ⟨(by have := of_decide_eq_true h2; omega), (by have := of_decide_eq_true h2; omega)⟩ rfl ?_)
  refine rvc_un (rexec_loadA C [] [] (fun j => .pv (.lit (.bool (sw j)))) 64 i (.pv (.lit (.bool (sw i)))) rfl rfl rfl rfl rfl rfl rfl (by have := of_decide_eq_true h2; omega) rfl ?_)
  refine rvP C (.pv (.lit (.bool (sw i)))) ?_
  refine rvc_case 19 (sw i) rfl (fun h5 => ?_) (fun h5 => ?_)
  ·
   replace hR := of_true h5 hR
   refine rvO C (.pv (.lit (.int .i64 (i : Int)))) ?_
   refine rvc_open rfl rfl rfl (rexec_prim C (δ := { v := .ptr 6 (0 + i * 1) }) rfl rfl rfl rfl ⟨(by have := of_decide_eq_true h2; omega), (by have := of_decide_eq_true h2; omega)⟩ rfl ?_)
   refine rvc_open rfl rfl rfl (rexec_loadA C [] [] (fun j => .pv (.lit (.int .i64 (h j)))) 6 i (.pv (.lit (.int .i64 (h i)))) rfl rfl rfl rfl rfl rfl rfl (by have := of_decide_eq_true h2; omega) rfl ?_)
   refine rvO C (.pv (.lit (.int .i64 site))) ?_
   refine rvO C (.pv (.lit (.bool ((h i) == site)))) ?_
   refine rvP C (.pv (.lit (.bool ((h i) == site)))) ?_
   refine rvP C (.pv (.lit (.bool ((h i) == site)))) ?_
   refine rvc_case 26 ((h i) == site) rfl (fun h6 => ?_) (fun h6 => ?_)
   ·
    replace hR := of_true h6 hR
    refine rvO C (.agg [.pv (.lit (.int .i64 c.epoch)), sS (some c.members.nil) eMember c.members.D]) ?_
    refine rvO C (.pv (.lit (.int .i64 (i : Int)))) ?_
    refine rvc_open rfl rfl rfl (rexec_call hP C rfl rfl rfl (rPlace_calls c (i : Int) (Nat.le_trans hl1 (by decide))) ?_)
    refine rvO C (.pv (.lit (.bool (decide ((rPlace c (i : Int)) < 0))))) ?_
    refine rvP C (.pv (.lit (.bool (decide ((rPlace c (i : Int)) < 0))))) ?_
    refine rvc_nil ?_
    refine Awp.cond (b := (decide ((rPlace c (i : Int)) < 0))) rfl (fun h7 => ?_) (fun h7 => ?_)
    ·
     replace hR := of_true h7 hR
     refine Awp.consP C ?_
     refine rvP C (.pv (.lit (.int .i64 (i : Int)))) ?_
     refine rvP C (.pv (.lit (.int .i64 (i : Int)))) ?_
     refine rvc_nil ?_
     refine Awp.ret ?_
     subst hR
     exact ⟨.inl rfl, rfl⟩
    ·
     replace hR := of_false h7 hR
     refine Awp.skip ?_
     refine Awp.regionP C ?_
     refine rvP C (.pv (.lit (.int .i64 (IntKind.i64.wrap ((i : Int) + 1))))) ?_
     refine rvP C (.pv (.lit (.int .i64 (IntKind.i64.wrap ((i : Int) + 1))))) ?_
     refine rvc_nil ?_
     refine ⟨h3, (), ?_, ?_⟩
     · exact (by rw [show 6 - (i + 1) = k by omega]; exact hR)
     · exact ⟨fun b => b, WeakerR.ofL (Ks := [4, 6, 9]) hI ⟨⟨rfl, rfl⟩, ⟨rfl, rfl⟩, ⟨rfl, rfl⟩, ⟨rfl, rfl⟩, ⟨lit_cast (wrap_i64 (by omega) (by omega)), rfl⟩, trivial⟩ (okH_cons rfl rfl rfl rfl (okH_cons rfl rfl rfl rfl (okH_cons rfl rfl rfl rfl (okH_nil)))) rfl⟩
   ·
    replace hR := of_false h6 hR
    refine rvS ?_
    refine rvS ?_
    refine rvS ?_
    refine rvS ?_
    refine rvP C (.pv (.lit (.bool false))) ?_
    refine rvc_nil ?_
    refine Awp.condF (b := false) rfl rfl ?_
    refine Awp.skip ?_
    refine Awp.regionP C ?_
    refine rvP C (.pv (.lit (.int .i64 (IntKind.i64.wrap ((i : Int) + 1))))) ?_
    refine rvP C (.pv (.lit (.int .i64 (IntKind.i64.wrap ((i : Int) + 1))))) ?_
    refine rvc_nil ?_
    refine ⟨h3, (), ?_, ?_⟩
    · exact (by rw [show 6 - (i + 1) = k by omega]; exact hR)
    · exact ⟨fun b => b, WeakerR.ofL (Ks := [4, 6, 9]) hI ⟨⟨rfl, rfl⟩, ⟨rfl, rfl⟩, ⟨rfl, rfl⟩, ⟨rfl, rfl⟩, ⟨lit_cast (wrap_i64 (by omega) (by omega)), rfl⟩, trivial⟩ (okH_cons rfl rfl rfl rfl (okH_cons rfl rfl rfl rfl (okH_cons rfl rfl rfl rfl (okH_nil)))) rfl⟩
  ·
   replace hR := of_false h5 hR
   refine rvS ?_
   refine rvS ?_
   refine rvS ?_
   refine rvS ?_
   refine rvS ?_
   refine rvP C (.pv (.lit (.bool false))) ?_
   refine rvP C (.pv (.lit (.bool false))) ?_
   refine rvS ?_
   refine rvS ?_
   refine rvS ?_
   refine rvS ?_
   refine rvP C (.pv (.lit (.bool false))) ?_
   refine rvc_nil ?_
   refine Awp.condF (b := false) rfl rfl ?_
   refine Awp.skip ?_
   refine Awp.regionP C ?_
   refine rvP C (.pv (.lit (.int .i64 (IntKind.i64.wrap ((i : Int) + 1))))) ?_
   refine rvP C (.pv (.lit (.int .i64 (IntKind.i64.wrap ((i : Int) + 1))))) ?_
   refine rvc_nil ?_
   refine ⟨h3, (), ?_, ?_⟩
   · exact (by rw [show 6 - (i + 1) = k by omega]; exact hR)
   · exact ⟨fun b => b, WeakerR.ofL (Ks := [4, 6, 9]) hI ⟨⟨rfl, rfl⟩, ⟨rfl, rfl⟩, ⟨rfl, rfl⟩, ⟨rfl, rfl⟩, ⟨lit_cast (wrap_i64 (by omega) (by omega)), rfl⟩, trivial⟩ (okH_cons rfl rfl rfl rfl (okH_cons rfl rfl rfl rfl (okH_cons rfl rfl rfl rfl (okH_nil)))) rfl⟩
 ·
  rw [show 6 - i = 0 by have := of_decide_eq_false h2; omega] at hR
  refine Awp.exit ?_
  refine Awp.consP C ?_
  refine rvP C (.pv (.lit (.int .i64 (-1)))) ?_
  refine rvc_nil ?_
  refine Awp.ret ?_
  subst hR
  exact ⟨.inl rfl, rfl⟩
def rNextP_l1 (c : Chain) (alive : Int) (h : (Nat → Int)) (w : (Nat → Int)) (fresh : Bool) : Nat → Nat → Command × Bool × Int
  | 0, _ => ((Command.mk 0 0 0 0), false, 0)
  | k + 1, i1 => (bif fresh then rNextP_l1 c alive h w fresh k (i1 + 1)  else (bif (decide ((rSpare c alive h (i1 : Int)) < 0)) then rNextP_l1 c alive h w fresh k (i1 + 1)  else (bif (decide ((rMany c (i1 : Int)) ≥ (w i1))) then rNextP_l1 c alive h w fresh k (i1 + 1)  else (bif ((rJoin c (Member.mk (rSpare c alive h (i1 : Int)) (i1 : Int) false)).2 == 0) then ((Command.mk 2 (rSpare c alive h (i1 : Int)) (i1 : Int) c.epoch), true, 0) else rNextP_l1 c alive h w fresh k (i1 + 1) ))))
def rNextP_l0 (c : Chain) (alive : Int) (h : (Nat → Int)) (w : (Nat → Int)) (sw : (Nat → Bool)) : List Member → Nat → Bool → Command × Bool × Int
  | [], _, fresh => rNextP_l1 c alive h w fresh 3 0 
  | x :: xs, i, fresh => (bif ((rCut c x.node (-1)).2 == 0) then (bif (!(sw x.node.toNat)) then ((Command.mk 1 x.node 0 c.epoch), true, 0) else (bif fresh then rNextP_l0 c alive h w sw xs (i + 1) true else rNextP_l0 c alive h w sw xs (i + 1) x.fresh)) else (bif fresh then rNextP_l0 c alive h w sw xs (i + 1) true else rNextP_l0 c alive h w sw xs (i + 1) x.fresh))
def rNextP (c : Chain) (alive : Int) (h : (Nat → Int)) (w : (Nat → Int)) : Command × Bool × Int :=
  (bif ((rCheck c) != 0) then ((Command.mk 0 0 0 0), false, 80) else (bif ((rPlanCheck h w) != 0) then ((Command.mk 0 0 0 0), false, 1) else rNextP_l0 c alive h w (fromW alive) c.members.D 0 false))
theorem rNextP_calls (c : Chain) (alive : Int) (h : (Nat → Int)) (w : (Nat → Int)) (hl1 : c.members.D.length ≤ 1000000) : PCalls Try.prog 11 [.agg [.pv (.lit (.int .i64 c.epoch)), sS (some c.members.nil) eMember c.members.D], .pv (.lit (.int .u64 alive)), .agg [.pv (.lit (.int .i64 (h 0))), .pv (.lit (.int .i64 (h 1))), .pv (.lit (.int .i64 (h 2))), .pv (.lit (.int .i64 (h 3))), .pv (.lit (.int .i64 (h 4))), .pv (.lit (.int .i64 (h 5)))], .agg [.pv (.lit (.int .i64 (w 0))), .pv (.lit (.int .i64 (w 1))), .pv (.lit (.int .i64 (w 2)))]] (.tup [.agg [.pv (.lit (.int .i64 ((rNextP c alive h w).1.kind))), .pv (.lit (.int .i64 ((rNextP c alive h w).1.node))), .pv (.lit (.int .i64 ((rNextP c alive h w).1.site))), .pv (.lit (.int .i64 ((rNextP c alive h w).1.epoch)))], .pv (.lit (.bool ((rNextP c alive h w).2.1))), .pv (.lit (.int .i64 ((rNextP c alive h w).2.2)))]) := by
 generalize hR : rNextP c alive h w = R
 refine PCalls.of_body tabOk Try.func11 rfl rfl rfl rfl rfl mixed fun E hP C hI => ?_
 refine Awp.consP C ?_
 refine rvc_un (rexec_prim C (δ := { v := .ptr 4 0, new := [(4, .cells [.pv (.lit (.int .i64 c.epoch)), sS (some c.members.nil) eMember c.members.D])] }) rfl rfl rfl rfl trivial rfl ?_)
 refine rvc_un (rexec_prim C (δ := { v := .ptr 6 0, new := [(6, .cells [.pv (.lit (.int .i64 (h 0))), .pv (.lit (.int .i64 (h 1))), .pv (.lit (.int .i64 (h 2))), .pv (.lit (.int .i64 (h 3))), .pv (.lit (.int .i64 (h 4))), .pv (.lit (.int .i64 (h 5)))])] }) rfl rfl rfl rfl trivial rfl ?_)
 refine rvc_un (rexec_prim C (δ := { v := .ptr 7 0, new := [(7, .cells [.pv (.lit (.int .i64 (w 0))), .pv (.lit (.int .i64 (w 1))), .pv (.lit (.int .i64 (w 2)))])] }) rfl rfl rfl rfl trivial rfl ?_)
 refine rvc_un (rexec_prim C (δ := { v := .ptr 8 0, new := [(8, .cells [.pv (.lit (.int .i64 0)), .pv (.lit (.int .i64 0)), .pv (.lit (.int .i64 0)), .pv (.lit (.int .i64 0))])] }) rfl rfl rfl rfl trivial rfl ?_)
 refine rvP C (.pv (.lit (.bool false))) ?_
 refine rvP C (.pv (.lit (.int .i64 0))) ?_
 refine rvc_nil ?_
 refine Awp.seq ?_
 refine Awp.consP C ?_
 refine rvP C (.agg [.pv (.lit (.int .i64 c.epoch)), sS (some c.members.nil) eMember c.members.D]) ?_
 refine rvc_un (rexec_call hP C rfl rfl rfl (rCheck_calls c (Nat.le_trans hl1 (by decide))) ?_)
 refine rvP C (.pv (.lit (.bool ((rCheck c) != 0)))) ?_
 refine rvc_nil ?_
 refine Awp.cond (b := ((rCheck c) != 0)) rfl (fun h1 => ?_) (fun h1 => ?_)
 ·
  replace hR := of_true h1 hR
  refine Awp.consP C ?_
  refine rvP C (.agg [.pv (.lit (.int .i64 0)), .pv (.lit (.int .i64 0)), .pv (.lit (.int .i64 0)), .pv (.lit (.int .i64 0))]) ?_
  refine rvc_un (rexec_prim C (δ := { v := .undef, wr := [(8, some (.cells [.pv (.lit (.int .i64 0)), .pv (.lit (.int .i64 0)), .pv (.lit (.int .i64 0)), .pv (.lit (.int .i64 0))]))] }) rfl rfl rfl rfl trivial rfl ?_)
  refine rvP C (.pv (.lit (.bool false))) ?_
  refine rvP C (.pv (.lit (.int .i64 80))) ?_
  refine rvc_nil ?_
  refine Awp.ret ?_
  subst hR
  exact ⟨.inl rfl, rfl⟩
 ·
  replace hR := of_false h1 hR
  refine Awp.skip ?_
  refine Awp.seq ?_
  refine Awp.consP C ?_
  refine rvP C (.agg [.pv (.lit (.int .i64 (h 0))), .pv (.lit (.int .i64 (h 1))), .pv (.lit (.int .i64 (h 2))), .pv (.lit (.int .i64 (h 3))), .pv (.lit (.int .i64 (h 4))), .pv (.lit (.int .i64 (h 5)))]) ?_
  refine rvP C (.agg [.pv (.lit (.int .i64 (w 0))), .pv (.lit (.int .i64 (w 1))), .pv (.lit (.int .i64 (w 2)))]) ?_
  refine rvc_un (rexec_call hP C rfl rfl rfl (rPlanCheck_calls h w) ?_)
  refine rvP C (.pv (.lit (.bool ((rPlanCheck h w) != 0)))) ?_
  refine rvc_nil ?_
  refine Awp.cond (b := ((rPlanCheck h w) != 0)) rfl (fun h2 => ?_) (fun h2 => ?_)
  ·
   replace hR := of_true h2 hR
   refine Awp.consP C ?_
   refine rvP C (.agg [.pv (.lit (.int .i64 0)), .pv (.lit (.int .i64 0)), .pv (.lit (.int .i64 0)), .pv (.lit (.int .i64 0))]) ?_
   refine rvc_un (rexec_prim C (δ := { v := .undef, wr := [(8, some (.cells [.pv (.lit (.int .i64 0)), .pv (.lit (.int .i64 0)), .pv (.lit (.int .i64 0)), .pv (.lit (.int .i64 0))]))] }) rfl rfl rfl rfl trivial rfl ?_)
   refine rvP C (.pv (.lit (.bool false))) ?_
   refine rvP C (.pv (.lit (.int .i64 1))) ?_
   refine rvc_nil ?_
   refine Awp.ret ?_
   subst hR
   exact ⟨.inl rfl, rfl⟩
  ·
   replace hR := of_false h2 hR
   refine Awp.skip ?_
   refine Awp.consP C ?_
   refine rvP C (.pv (.lit (.int .u64 alive))) ?_
   obtain ⟨sw, hq_sw⟩ : ∃ q_, q_ = (fromW alive) := ⟨_, rfl⟩
   have hc_sw := (fromW_calls alive)
   first | rw [← hq_sw] at hR hc_sw | (unfold rNextP at hR; rw [← hq_sw] at hR hc_sw)
   refine rvc_un (rexec_call hP C rfl rfl rfl hc_sw ?_)
   refine rvc_un (rexec_prim C (δ := { v := .ptr 11 0, new := [(11, .cells [.pv (.lit (.bool false)), .pv (.lit (.bool false)), .pv (.lit (.bool false)), .pv (.lit (.bool false)), .pv (.lit (.bool false)), .pv (.lit (.bool false)), .pv (.lit (.bool false)), .pv (.lit (.bool false)), .pv (.lit (.bool false)), .pv (.lit (.bool false)), .pv (.lit (.bool false)), .pv (.lit (.bool false)), .pv (.lit (.bool false)), .pv (.lit (.bool false)), .pv (.lit (.bool false)), .pv (.lit (.bool false)), .pv (.lit (.bool false)), .pv (.lit (.bool false)), .pv (.lit (.bool false)), .pv (.lit (.bool false)), .pv (.lit (.bool false)), .pv (.lit (.bool false)), .pv (.lit (.bool false)), .pv (.lit (.bool false)), .pv (.lit (.bool false)), .pv (.lit (.bool false)), .pv (.lit (.bool false)), .pv (.lit (.bool false)), .pv (.lit (.bool false)), .pv (.lit (.bool false)), .pv (.lit (.bool false)), .pv (.lit (.bool false)), .pv (.lit (.bool false)), .pv (.lit (.bool false)), .pv (.lit (.bool false)), .pv (.lit (.bool false)), .pv (.lit (.bool false)), .pv (.lit (.bool false)), .pv (.lit (.bool false)), .pv (.lit (.bool false)), .pv (.lit (.bool false)), .pv (.lit (.bool false)), .pv (.lit (.bool false)), .pv (.lit (.bool false)), .pv (.lit (.bool false)), .pv (.lit (.bool false)), .pv (.lit (.bool false)), .pv (.lit (.bool false)), .pv (.lit (.bool false)), .pv (.lit (.bool false)), .pv (.lit (.bool false)), .pv (.lit (.bool false)), .pv (.lit (.bool false)), .pv (.lit (.bool false)), .pv (.lit (.bool false)), .pv (.lit (.bool false)), .pv (.lit (.bool false)), .pv (.lit (.bool false)), .pv (.lit (.bool false)), .pv (.lit (.bool false)), .pv (.lit (.bool false)), .pv (.lit (.bool false)), .pv (.lit (.bool false)), .pv (.lit (.bool false))])] }) rfl rfl rfl rfl trivial rfl ?_)
   refine rvc_un (rexec_prim C (δ := { v := .undef, wr := [(11, some (.cells [.pv (.lit (.bool (sw 0))), .pv (.lit (.bool (sw 1))), .pv (.lit (.bool (sw 2))), .pv (.lit (.bool (sw 3))), .pv (.lit (.bool (sw 4))), .pv (.lit (.bool (sw 5))), .pv (.lit (.bool (sw 6))), .pv (.lit (.bool (sw 7))), .pv (.lit (.bool (sw 8))), .pv (.lit (.bool (sw 9))), .pv (.lit (.bool (sw 10))), .pv (.lit (.bool (sw 11))), .pv (.lit (.bool (sw 12))), .pv (.lit (.bool (sw 13))), .pv (.lit (.bool (sw 14))), .pv (.lit (.bool (sw 15))), .pv (.lit (.bool (sw 16))), .pv (.lit (.bool (sw 17))), .pv (.lit (.bool (sw 18))), .pv (.lit (.bool (sw 19))), .pv (.lit (.bool (sw 20))), .pv (.lit (.bool (sw 21))), .pv (.lit (.bool (sw 22))), .pv (.lit (.bool (sw 23))), .pv (.lit (.bool (sw 24))), .pv (.lit (.bool (sw 25))), .pv (.lit (.bool (sw 26))), .pv (.lit (.bool (sw 27))), .pv (.lit (.bool (sw 28))), .pv (.lit (.bool (sw 29))), .pv (.lit (.bool (sw 30))), .pv (.lit (.bool (sw 31))), .pv (.lit (.bool (sw 32))), .pv (.lit (.bool (sw 33))), .pv (.lit (.bool (sw 34))), .pv (.lit (.bool (sw 35))), .pv (.lit (.bool (sw 36))), .pv (.lit (.bool (sw 37))), .pv (.lit (.bool (sw 38))), .pv (.lit (.bool (sw 39))), .pv (.lit (.bool (sw 40))), .pv (.lit (.bool (sw 41))), .pv (.lit (.bool (sw 42))), .pv (.lit (.bool (sw 43))), .pv (.lit (.bool (sw 44))), .pv (.lit (.bool (sw 45))), .pv (.lit (.bool (sw 46))), .pv (.lit (.bool (sw 47))), .pv (.lit (.bool (sw 48))), .pv (.lit (.bool (sw 49))), .pv (.lit (.bool (sw 50))), .pv (.lit (.bool (sw 51))), .pv (.lit (.bool (sw 52))), .pv (.lit (.bool (sw 53))), .pv (.lit (.bool (sw 54))), .pv (.lit (.bool (sw 55))), .pv (.lit (.bool (sw 56))), .pv (.lit (.bool (sw 57))), .pv (.lit (.bool (sw 58))), .pv (.lit (.bool (sw 59))), .pv (.lit (.bool (sw 60))), .pv (.lit (.bool (sw 61))), .pv (.lit (.bool (sw 62))), .pv (.lit (.bool (sw 63)))]))] }) rfl rfl rfl rfl trivial rfl ?_)
   refine rvc_nil ?_
   refine Awp.consP C ?_
   refine rvP C (.pv (.lit (.bool false))) ?_
   refine rvc_nil ?_
   refine Awp.seq ?_
   refine Awp.consP C ?_
   refine rvP C (.ptr 4 1) ?_
   refine rvP C (sS (some c.members.nil) eMember c.members.D) ?_
   refine rvP C (.pv (.lit (.int .i64 (c.members.D.length : Int)))) ?_
   refine rvP C (.pv (.lit (.int .i64 0))) ?_
   refine rvc_nil ?_
   refine Awp.block ?_
   refine Awp.forR (σ := Bool) (c.members.D.length) (fun i v => [(1, .pv (.lit (.int .u64 alive))), (4, .ptr 4 0), (6, .ptr 6 0), (7, .ptr 7 0), (8, .ptr 8 0), (11, .ptr 11 0), (12, .pv (.lit (.bool v))), (33, sS (some c.members.nil) eMember c.members.D), (34, .pv (.lit (.int .i64 (c.members.D.length : Int)))), (35, .pv (.lit (.int .i64 (i : Int))))]) (fun i v => [(4, .cells [.pv (.lit (.int .i64 c.epoch)), sS (some c.members.nil) eMember c.members.D]), (6, .cells [.pv (.lit (.int .i64 (h 0))), .pv (.lit (.int .i64 (h 1))), .pv (.lit (.int .i64 (h 2))), .pv (.lit (.int .i64 (h 3))), .pv (.lit (.int .i64 (h 4))), .pv (.lit (.int .i64 (h 5)))]), (7, .cells [.pv (.lit (.int .i64 (w 0))), .pv (.lit (.int .i64 (w 1))), .pv (.lit (.int .i64 (w 2)))]), (8, .cells [.pv (.lit (.int .i64 0)), .pv (.lit (.int .i64 0)), .pv (.lit (.int .i64 0)), .pv (.lit (.int .i64 0))]), (11, .cells [.pv (.lit (.bool (sw 0))), .pv (.lit (.bool (sw 1))), .pv (.lit (.bool (sw 2))), .pv (.lit (.bool (sw 3))), .pv (.lit (.bool (sw 4))), .pv (.lit (.bool (sw 5))), .pv (.lit (.bool (sw 6))), .pv (.lit (.bool (sw 7))), .pv (.lit (.bool (sw 8))), .pv (.lit (.bool (sw 9))), .pv (.lit (.bool (sw 10))), .pv (.lit (.bool (sw 11))), .pv (.lit (.bool (sw 12))), .pv (.lit (.bool (sw 13))), .pv (.lit (.bool (sw 14))), .pv (.lit (.bool (sw 15))), .pv (.lit (.bool (sw 16))), .pv (.lit (.bool (sw 17))), .pv (.lit (.bool (sw 18))), .pv (.lit (.bool (sw 19))), .pv (.lit (.bool (sw 20))), .pv (.lit (.bool (sw 21))), .pv (.lit (.bool (sw 22))), .pv (.lit (.bool (sw 23))), .pv (.lit (.bool (sw 24))), .pv (.lit (.bool (sw 25))), .pv (.lit (.bool (sw 26))), .pv (.lit (.bool (sw 27))), .pv (.lit (.bool (sw 28))), .pv (.lit (.bool (sw 29))), .pv (.lit (.bool (sw 30))), .pv (.lit (.bool (sw 31))), .pv (.lit (.bool (sw 32))), .pv (.lit (.bool (sw 33))), .pv (.lit (.bool (sw 34))), .pv (.lit (.bool (sw 35))), .pv (.lit (.bool (sw 36))), .pv (.lit (.bool (sw 37))), .pv (.lit (.bool (sw 38))), .pv (.lit (.bool (sw 39))), .pv (.lit (.bool (sw 40))), .pv (.lit (.bool (sw 41))), .pv (.lit (.bool (sw 42))), .pv (.lit (.bool (sw 43))), .pv (.lit (.bool (sw 44))), .pv (.lit (.bool (sw 45))), .pv (.lit (.bool (sw 46))), .pv (.lit (.bool (sw 47))), .pv (.lit (.bool (sw 48))), .pv (.lit (.bool (sw 49))), .pv (.lit (.bool (sw 50))), .pv (.lit (.bool (sw 51))), .pv (.lit (.bool (sw 52))), .pv (.lit (.bool (sw 53))), .pv (.lit (.bool (sw 54))), .pv (.lit (.bool (sw 55))), .pv (.lit (.bool (sw 56))), .pv (.lit (.bool (sw 57))), .pv (.lit (.bool (sw 58))), .pv (.lit (.bool (sw 59))), .pv (.lit (.bool (sw 60))), .pv (.lit (.bool (sw 61))), .pv (.lit (.bool (sw 62))), .pv (.lit (.bool (sw 63)))])]) [4, 6, 7, 8, 11] (fun i v => rNextP_l0 c alive h w sw (c.members.D.drop i) i v = R) false ?_ ?_ (fun i fresh h3 hR => ?_)
   · exact hR
   · exact ⟨fun b => b, WeakerR.ofL (Ks := [4, 6, 7, 8, 11]) hI ⟨⟨rfl, rfl⟩, ⟨rfl, rfl⟩, ⟨rfl, rfl⟩, ⟨rfl, rfl⟩, ⟨rfl, rfl⟩, ⟨rfl, rfl⟩, ⟨rfl, rfl⟩, ⟨rfl, rfl⟩, ⟨rfl, rfl⟩, ⟨rfl, rfl⟩, trivial⟩ (okH_cons rfl rfl rfl rfl (okH_cons rfl rfl rfl rfl (okH_cons rfl rfl rfl rfl (okH_cons rfl rfl rfl rfl (okH_cons rfl rfl rfl rfl (okH_nil)))))) rfl⟩
   refine Awp.consP C ?_
   refine rvP C (.pv (.lit (.bool (decide ((i : Int) < (c.members.D.length : Int)))))) ?_
   refine rvc_nil ?_
   refine Awp.seq ?_
   refine Awp.cond (b := (decide ((i : Int) < (c.members.D.length : Int)))) rfl (fun h4 => ?_) (fun h4 => ?_)
   ·
    have h5 : i < c.members.D.length := by have := of_decide_eq_true h4; omega
    obtain ⟨x, h6⟩ := getX h5
    rw [drop_at h6] at hR
    refine Awp.skip ?_
    refine Awp.seq ?_
    refine Awp.block ?_
    refine Awp.consP C ?_
    refine rvc_un (rexec_idxS C rfl rfl rfl rfl rfl rfl x (Int.natCast_nonneg _) h6 ?_)
    refine rvP C (.agg [.pv (.lit (.int .i64 x.node)), .pv (.lit (.int .i64 x.site)), .pv (.lit (.bool x.fresh))]) ?_
    refine rvc_un (rexec_prim C (δ := { v := .ptr 14 0, new := [(14, .cells [.pv (.lit (.int .i64 0)), .pv (.lit (.int .i64 0)), .pv (.lit (.bool false))])] }) rfl rfl rfl rfl trivial rfl ?_)
    refine rvc_un (rexec_prim C (δ := { v := .undef, wr := [(14, some (.cells [.pv (.lit (.int .i64 x.node)), .pv (.lit (.int .i64 x.site)), .pv (.lit (.bool x.fresh))]))] }) rfl rfl rfl rfl trivial rfl ?_)
    refine rvc_nil ?_
    refine Awp.seq ?_
    refine Awp.consP C ?_
    refine rvP C (.agg [.pv (.lit (.int .i64 c.epoch)), sS (some c.members.nil) eMember c.members.D]) ?_
    refine rvP C (.ptr 14 0) ?_
    refine rvP C (.pv (.lit (.int .i64 x.node))) ?_
    obtain ⟨rc, hq_rc⟩ : ∃ q_, q_ = (rCut c x.node (-1)) := ⟨_, rfl⟩
    have hc_rc := (rCut_calls c x.node (-1) hl1)
    first | rw [← hq_rc] at hR hc_rc | (unfold rNextP at hR; rw [← hq_rc] at hR hc_rc) | (unfold rNextP_l0 at hR; rw [← hq_rc] at hR hc_rc)
    refine rvc_un (rexec_call hP C rfl rfl rfl hc_rc ?_)
    refine rvP C (.tup [.agg [.pv (.lit (.int .i64 rc.1.epoch)), sS (some rc.1.members.nil) eMember rc.1.members.D], .pv (.lit (.int .i64 rc.2))]) ?_
    refine rvP C (.agg [.pv (.lit (.int .i64 rc.1.epoch)), sS (some rc.1.members.nil) eMember rc.1.members.D]) ?_
    refine rvP C (.pv (.lit (.int .i64 rc.2))) ?_
    refine rvc_un (rexec_prim C (δ := { v := .ptr 15 0, new := [(15, .cells [.pv (.lit (.int .i64 0)), sS (some true) eMember []])] }) rfl rfl rfl rfl trivial rfl ?_)
    refine rvc_un (rexec_prim C (δ := { v := .undef, wr := [(15, some (.cells [.pv (.lit (.int .i64 rc.1.epoch)), sS (some rc.1.members.nil) eMember rc.1.members.D]))] }) rfl rfl rfl rfl trivial rfl ?_)
    refine rvP C (.pv (.lit (.int .i64 rc.2))) ?_
    refine rvc_nil ?_
    refine Awp.consP C ?_
    refine rvP C (.pv (.lit (.int .i64 rc.2))) ?_
    refine rvP C (.pv (.lit (.bool (rc.2 == 0)))) ?_
    refine rvP C (.pv (.lit (.bool (rc.2 == 0)))) ?_
    refine rvc_case 48 (rc.2 == 0) rfl (fun h7 => ?_) (fun h7 => ?_)
    ·
     replace hR := of_true h7 hR
     refine rvO C (.ptr 14 0) ?_
     refine rvO C (.pv (.lit (.int .i64 x.node))) ?_
     refine rvc_open rfl rfl rfl (rexec_prim C (δ := { v := .ptr 11 (0 + x.node.toNat * 1) }) rfl rfl rfl rfl ⟨(by have h0_ := mem_ok ((check_eq c).trans (eq_of_bne_false h1)) (List.mem_of_getElem? (by assumption)); omega), (by have h0_ := mem_ok ((check_eq c).trans (eq_of_bne_false h1)) (List.mem_of_getElem? (by assumption)); omega)⟩ rfl ?_)
     refine rvc_open rfl rfl rfl (rexec_loadA C [] [] (fun j => .pv (.lit (.bool (sw j)))) 64 x.node.toNat (.pv (.lit (.bool (sw x.node.toNat)))) rfl rfl rfl rfl rfl rfl rfl (by have h0_ := mem_ok ((check_eq c).trans (eq_of_bne_false h1)) (List.mem_of_getElem? (by assumption)); omega) rfl ?_)
     refine rvO C (.pv (.lit (.bool (!(sw x.node.toNat))))) ?_
     refine rvP C (.pv (.lit (.bool (!(sw x.node.toNat))))) ?_
     refine rvc_nil ?_
     refine Awp.cond (b := (!(sw x.node.toNat))) rfl (fun h8 => ?_) (fun h8 => ?_)
     ·
      replace hR := of_true h8 hR
      refine Awp.consP C ?_
      refine rvP C (.ptr 14 0) ?_
      refine rvP C (.pv (.lit (.int .i64 x.node))) ?_
      refine rvP C (.ptr 4 0) ?_
      refine rvP C (.pv (.lit (.int .i64 c.epoch))) ?_
      refine rvP C (.agg [.pv (.lit (.int .i64 1)), .pv (.lit (.int .i64 x.node)), .pv (.lit (.int .i64 0)), .pv (.lit (.int .i64 c.epoch))]) ?_
      refine rvc_un (rexec_prim C (δ := { v := .undef, wr := [(8, some (.cells [.pv (.lit (.int .i64 1)), .pv (.lit (.int .i64 x.node)), .pv (.lit (.int .i64 0)), .pv (.lit (.int .i64 c.epoch))]))] }) rfl rfl rfl rfl trivial rfl ?_)
      refine rvP C (.pv (.lit (.bool true))) ?_
      refine rvP C (.pv (.lit (.int .i64 0))) ?_
      refine rvc_nil ?_
      refine Awp.ret ?_
      subst hR
      exact ⟨.inl rfl, rfl⟩
     ·
      replace hR := of_false h8 hR
      refine Awp.skip ?_
      refine Awp.regionP C ?_
      refine rvP C (.pv (.lit (.bool fresh))) ?_
      refine rvP C (.pv (.lit (.bool fresh))) ?_
      refine rvc_case 61 fresh rfl (fun h9 => ?_) (fun h9 => ?_)
      ·
       replace hR := of_true h9 hR
       refine rvS ?_
       refine rvS ?_
       refine rvP C (.pv (.lit (.bool true))) ?_
       refine rvP C (.pv (.lit (.bool true))) ?_
       refine rvc_nil ?_
       refine Awp.regionP C ?_
       refine rvP C (.pv (.lit (.int .i64 (IntKind.i64.wrap ((i : Int) + 1))))) ?_
       refine rvP C (.pv (.lit (.int .i64 (IntKind.i64.wrap ((i : Int) + 1))))) ?_
       refine rvc_nil ?_
       refine ⟨h5, true, ?_, ?_⟩
       · exact hR
       · exact ⟨fun b => b, WeakerR.ofL (Ks := [4, 6, 7, 8, 11]) hI ⟨⟨rfl, rfl⟩, ⟨rfl, rfl⟩, ⟨rfl, rfl⟩, ⟨rfl, rfl⟩, ⟨rfl, rfl⟩, ⟨rfl, rfl⟩, ⟨rfl, rfl⟩, ⟨rfl, rfl⟩, ⟨rfl, rfl⟩, ⟨lit_cast (wrap_i64 (by omega) (by omega)), rfl⟩, trivial⟩ (okH_cons rfl rfl rfl rfl (okH_cons rfl rfl rfl rfl (okH_cons rfl rfl rfl rfl (okH_cons rfl rfl rfl rfl (okH_cons rfl rfl rfl rfl (okH_nil)))))) rfl⟩
      ·
       replace hR := of_false h9 hR
       refine rvO C (.ptr 14 2) ?_
       refine rvO C (.pv (.lit (.bool x.fresh))) ?_
       refine rvP C (.pv (.lit (.bool x.fresh))) ?_
       refine rvP C (.pv (.lit (.bool x.fresh))) ?_
       refine rvc_nil ?_
       refine Awp.regionP C ?_
       refine rvP C (.pv (.lit (.int .i64 (IntKind.i64.wrap ((i : Int) + 1))))) ?_
       refine rvP C (.pv (.lit (.int .i64 (IntKind.i64.wrap ((i : Int) + 1))))) ?_
       refine rvc_nil ?_
       refine ⟨h5, x.fresh, ?_, ?_⟩
       · exact hR
       · exact ⟨fun b => b, WeakerR.ofL (Ks := [4, 6, 7, 8, 11]) hI ⟨⟨rfl, rfl⟩, ⟨rfl, rfl⟩, ⟨rfl, rfl⟩, ⟨rfl, rfl⟩, ⟨rfl, rfl⟩, ⟨rfl, rfl⟩, ⟨rfl, rfl⟩, ⟨rfl, rfl⟩, ⟨rfl, rfl⟩, ⟨lit_cast (wrap_i64 (by omega) (by omega)), rfl⟩, trivial⟩ (okH_cons rfl rfl rfl rfl (okH_cons rfl rfl rfl rfl (okH_cons rfl rfl rfl rfl (okH_cons rfl rfl rfl rfl (okH_cons rfl rfl rfl rfl (okH_nil)))))) rfl⟩
    ·
     replace hR := of_false h7 hR
     refine rvS ?_
     refine rvS ?_
     refine rvS ?_
     refine rvS ?_
     refine rvS ?_
     refine rvP C (.pv (.lit (.bool false))) ?_
     refine rvc_nil ?_
     refine Awp.condF (b := false) rfl rfl ?_
     refine Awp.skip ?_
     refine Awp.regionP C ?_
     refine rvP C (.pv (.lit (.bool fresh))) ?_
     refine rvP C (.pv (.lit (.bool fresh))) ?_
     refine rvc_case 61 fresh rfl (fun h10 => ?_) (fun h10 => ?_)
     ·
      replace hR := of_true h10 hR
      refine rvS ?_
      refine rvS ?_
      refine rvP C (.pv (.lit (.bool true))) ?_
      refine rvP C (.pv (.lit (.bool true))) ?_
      refine rvc_nil ?_
      refine Awp.regionP C ?_
      refine rvP C (.pv (.lit (.int .i64 (IntKind.i64.wrap ((i : Int) + 1))))) ?_
      refine rvP C (.pv (.lit (.int .i64 (IntKind.i64.wrap ((i : Int) + 1))))) ?_
      refine rvc_nil ?_
      refine ⟨h5, true, ?_, ?_⟩
      · exact hR
      · exact ⟨fun b => b, WeakerR.ofL (Ks := [4, 6, 7, 8, 11]) hI ⟨⟨rfl, rfl⟩, ⟨rfl, rfl⟩, ⟨rfl, rfl⟩, ⟨rfl, rfl⟩, ⟨rfl, rfl⟩, ⟨rfl, rfl⟩, ⟨rfl, rfl⟩, ⟨rfl, rfl⟩, ⟨rfl, rfl⟩, ⟨lit_cast (wrap_i64 (by omega) (by omega)), rfl⟩, trivial⟩ (okH_cons rfl rfl rfl rfl (okH_cons rfl rfl rfl rfl (okH_cons rfl rfl rfl rfl (okH_cons rfl rfl rfl rfl (okH_cons rfl rfl rfl rfl (okH_nil)))))) rfl⟩
     ·
      replace hR := of_false h10 hR
      refine rvO C (.ptr 14 2) ?_
      refine rvO C (.pv (.lit (.bool x.fresh))) ?_
      refine rvP C (.pv (.lit (.bool x.fresh))) ?_
      refine rvP C (.pv (.lit (.bool x.fresh))) ?_
      refine rvc_nil ?_
      refine Awp.regionP C ?_
      refine rvP C (.pv (.lit (.int .i64 (IntKind.i64.wrap ((i : Int) + 1))))) ?_
      refine rvP C (.pv (.lit (.int .i64 (IntKind.i64.wrap ((i : Int) + 1))))) ?_
      refine rvc_nil ?_
      refine ⟨h5, x.fresh, ?_, ?_⟩
      · exact hR
      · exact ⟨fun b => b, WeakerR.ofL (Ks := [4, 6, 7, 8, 11]) hI ⟨⟨rfl, rfl⟩, ⟨rfl, rfl⟩, ⟨rfl, rfl⟩, ⟨rfl, rfl⟩, ⟨rfl, rfl⟩, ⟨rfl, rfl⟩, ⟨rfl, rfl⟩, ⟨rfl, rfl⟩, ⟨rfl, rfl⟩, ⟨lit_cast (wrap_i64 (by omega) (by omega)), rfl⟩, trivial⟩ (okH_cons rfl rfl rfl rfl (okH_cons rfl rfl rfl rfl (okH_cons rfl rfl rfl rfl (okH_cons rfl rfl rfl rfl (okH_cons rfl rfl rfl rfl (okH_nil)))))) rfl⟩
   ·
    have h5 : ¬ i < c.members.D.length := by have := of_decide_eq_false h4; omega
    rw [drop_end h5] at hR
    refine Awp.exit ?_
    refine Awp.seq ?_
    refine Awp.consP C ?_
    refine rvP C (.pv (.lit (.int .i64 0))) ?_
    refine rvc_nil ?_
    refine Awp.block ?_
    refine Awp.forR (σ := Unit) (3) (fun i1 _v => [(1, .pv (.lit (.int .u64 alive))), (4, .ptr 4 0), (6, .ptr 6 0), (7, .ptr 7 0), (8, .ptr 8 0), (12, .pv (.lit (.bool fresh))), (66, .pv (.lit (.int .i64 (i1 : Int))))]) (fun i1 _v => [(4, .cells [.pv (.lit (.int .i64 c.epoch)), sS (some c.members.nil) eMember c.members.D]), (6, .cells [.pv (.lit (.int .i64 (h 0))), .pv (.lit (.int .i64 (h 1))), .pv (.lit (.int .i64 (h 2))), .pv (.lit (.int .i64 (h 3))), .pv (.lit (.int .i64 (h 4))), .pv (.lit (.int .i64 (h 5)))]), (7, .cells [.pv (.lit (.int .i64 (w 0))), .pv (.lit (.int .i64 (w 1))), .pv (.lit (.int .i64 (w 2)))]), (8, .cells [.pv (.lit (.int .i64 0)), .pv (.lit (.int .i64 0)), .pv (.lit (.int .i64 0)), .pv (.lit (.int .i64 0))])]) [4, 6, 7, 8] (fun i1 _v => rNextP_l1 c alive h w fresh (3 - i1) i1  = R) () ?_ ?_ (fun i1 _v h11 hR => ?_)
    · exact hR
    · exact ⟨fun b => b, WeakerR.ofL (Ks := [4, 6, 7, 8]) hI ⟨⟨rfl, rfl⟩, ⟨rfl, rfl⟩, ⟨rfl, rfl⟩, ⟨rfl, rfl⟩, ⟨rfl, rfl⟩, ⟨rfl, rfl⟩, ⟨rfl, rfl⟩, trivial⟩ (okH_cons rfl rfl rfl rfl (okH_cons rfl rfl rfl rfl (okH_cons rfl rfl rfl rfl (okH_cons rfl rfl rfl rfl (okH_nil))))) rfl⟩
    refine Awp.consP C ?_
    refine rvP C (.pv (.lit (.bool (decide ((i1 : Int) < 3))))) ?_
    refine rvc_nil ?_
    refine Awp.seq ?_
    refine Awp.cond (b := (decide ((i1 : Int) < 3))) rfl (fun h12 => ?_) (fun h12 => ?_)
    ·
     have h13 : i1 < 3 := by have := of_decide_eq_true h12; omega
     obtain ⟨k, h14⟩ : ∃ k, 3 - i1 = k + 1 := ⟨3 - i1 - 1, by omega⟩
     rw [h14] at hR
     refine Awp.skip ?_
     refine Awp.seq ?_
     refine Awp.block ?_
     refine Awp.consP C ?_
     refine rvP C (.pv (.lit (.int .i64 (i1 : Int)))) ?_
     refine rvP C (.pv (.lit (.int .i64 (i1 : Int)))) ?_
     refine rvc_nil ?_
     refine Awp.consP C ?_
     refine rvP C (.agg [.pv (.lit (.int .i64 c.epoch)), sS (some c.members.nil) eMember c.members.D]) ?_
     refine rvP C (.pv (.lit (.int .u64 alive))) ?_
     refine rvP C (.agg [.pv (.lit (.int .i64 (h 0))), .pv (.lit (.int .i64 (h 1))), .pv (.lit (.int .i64 (h 2))), .pv (.lit (.int .i64 (h 3))), .pv (.lit (.int .i64 (h 4))), .pv (.lit (.int .i64 (h 5)))]) ?_
     refine rvP C (.pv (.lit (.int .i64 (i1 : Int)))) ?_
     obtain ⟨sp, hq_sp⟩ : ∃ q_, q_ = (rSpare c alive h (i1 : Int)) := ⟨_, rfl⟩
     have hc_sp := (rSpare_calls c alive h (i1 : Int) hl1)
     first | rw [← hq_sp] at hR hc_sp | (unfold rNextP at hR; rw [← hq_sp] at hR hc_sp) | (unfold rNextP_l0 at hR; rw [← hq_sp] at hR hc_sp) | (unfold rNextP_l1 at hR; rw [← hq_sp] at hR hc_sp)
     refine rvc_un (rexec_call hP C rfl rfl rfl hc_sp ?_)
     refine rvP C (.pv (.lit (.int .i64 sp))) ?_
     refine rvc_nil ?_
     refine Awp.seq ?_
     refine Awp.consP C ?_
     refine rvP C (.pv (.lit (.bool fresh))) ?_
     refine rvP C (.pv (.lit (.bool fresh))) ?_
     refine rvc_case 75 fresh rfl (fun h15 => ?_) (fun h15 => ?_)
     ·
      replace hR := of_true h15 hR
      refine rvS ?_
      refine rvS ?_
      refine rvP C (.pv (.lit (.bool true))) ?_
      refine rvP C (.pv (.lit (.bool true))) ?_
      refine rvS ?_
      refine rvS ?_
      refine rvS ?_
      refine rvS ?_
      refine rvS ?_
      refine rvS ?_
      refine rvS ?_
      refine rvP C (.pv (.lit (.bool true))) ?_
      refine rvc_nil ?_
      refine Awp.condT (b := true) rfl rfl ?_
      refine Awp.exit ?_
      refine Awp.regionP C ?_
      refine rvP C (.pv (.lit (.int .i64 (IntKind.i64.wrap ((i1 : Int) + 1))))) ?_
      refine rvP C (.pv (.lit (.int .i64 (IntKind.i64.wrap ((i1 : Int) + 1))))) ?_
      refine rvc_nil ?_
      refine ⟨h13, (), ?_, ?_⟩
      · exact (by rw [show 3 - (i1 + 1) = k by omega]; exact hR)
      · exact ⟨fun b => b, WeakerR.ofL (Ks := [4, 6, 7, 8]) hI ⟨⟨rfl, rfl⟩, ⟨rfl, rfl⟩, ⟨rfl, rfl⟩, ⟨rfl, rfl⟩, ⟨rfl, rfl⟩, ⟨rfl, rfl⟩, ⟨lit_cast (wrap_i64 (by omega) (by omega)), rfl⟩, trivial⟩ (okH_cons rfl rfl rfl rfl (okH_cons rfl rfl rfl rfl (okH_cons rfl rfl rfl rfl (okH_cons rfl rfl rfl rfl (okH_nil))))) rfl⟩
     ·
      replace hR := of_false h15 hR
      refine rvO C (.pv (.lit (.int .i64 sp))) ?_
      refine rvO C (.pv (.lit (.bool (decide (sp < 0))))) ?_
      refine rvP C (.pv (.lit (.bool (decide (sp < 0))))) ?_
      refine rvP C (.pv (.lit (.bool (decide (sp < 0))))) ?_
      refine rvc_case 79 (decide (sp < 0)) rfl (fun h16 => ?_) (fun h16 => ?_)
      ·
       replace hR := of_true h16 hR
       refine rvS ?_
       refine rvS ?_
       refine rvS ?_
       refine rvS ?_
       refine rvS ?_
       refine rvS ?_
       refine rvS ?_
       refine rvP C (.pv (.lit (.bool true))) ?_
       refine rvc_nil ?_
       refine Awp.condT (b := true) rfl rfl ?_
       refine Awp.exit ?_
       refine Awp.regionP C ?_
       refine rvP C (.pv (.lit (.int .i64 (IntKind.i64.wrap ((i1 : Int) + 1))))) ?_
       refine rvP C (.pv (.lit (.int .i64 (IntKind.i64.wrap ((i1 : Int) + 1))))) ?_
       refine rvc_nil ?_
       refine ⟨h13, (), ?_, ?_⟩
       · exact (by rw [show 3 - (i1 + 1) = k by omega]; exact hR)
       · exact ⟨fun b => b, WeakerR.ofL (Ks := [4, 6, 7, 8]) hI ⟨⟨rfl, rfl⟩, ⟨rfl, rfl⟩, ⟨rfl, rfl⟩, ⟨rfl, rfl⟩, ⟨rfl, rfl⟩, ⟨rfl, rfl⟩, ⟨lit_cast (wrap_i64 (by omega) (by omega)), rfl⟩, trivial⟩ (okH_cons rfl rfl rfl rfl (okH_cons rfl rfl rfl rfl (okH_cons rfl rfl rfl rfl (okH_cons rfl rfl rfl rfl (okH_nil))))) rfl⟩
      ·
       replace hR := of_false h16 hR
       refine rvO C (.agg [.pv (.lit (.int .i64 c.epoch)), sS (some c.members.nil) eMember c.members.D]) ?_
       refine rvO C (.pv (.lit (.int .i64 (i1 : Int)))) ?_
       refine rvc_open rfl rfl rfl (rexec_call hP C rfl rfl rfl (rMany_calls c (i1 : Int) hl1) ?_)
       refine rvO C (.pv (.lit (.int .i64 (i1 : Int)))) ?_
       refine rvc_open rfl rfl rfl (rexec_prim C (δ := { v := .ptr 7 (0 + i1 * 1) }) rfl rfl rfl rfl ⟨(by have := check_r (c := c); have := rCheck_le6 (c := c); have := eq_of_bne_false h1; have := eq_of_bne_false h2; have := of_decide_eq_false h4; have := of_decide_eq_true h12; have := of_decide_eq_false h16; omega), (by have := check_r (c := c); have := rCheck_le6 (c := c); have := eq_of_bne_false h1; have := eq_of_bne_false h2; have := of_decide_eq_false h4; have := of_decide_eq_true h12; have := of_decide_eq_false h16; omega)⟩ rfl ?_)
       refine rvc_open rfl rfl rfl (rexec_loadA C [] [] (fun j => .pv (.lit (.int .i64 (w j)))) 3 i1 (.pv (.lit (.int .i64 (w i1)))) rfl rfl rfl rfl rfl rfl rfl (by have := check_r (c := c); have := rCheck_le6 (c := c); have := eq_of_bne_false h1; have := eq_of_bne_false h2; have := of_decide_eq_false h4; have := of_decide_eq_true h12; have := of_decide_eq_false h16; omega) rfl ?_)
       refine rvO C (.pv (.lit (.bool (decide ((rMany c (i1 : Int)) ≥ (w i1)))))) ?_
       refine rvP C (.pv (.lit (.bool (decide ((rMany c (i1 : Int)) ≥ (w i1)))))) ?_
       refine rvc_nil ?_
       refine Awp.cond (b := (decide ((rMany c (i1 : Int)) ≥ (w i1)))) rfl (fun h17 => ?_) (fun h17 => ?_)
       ·
        replace hR := of_true h17 hR
        refine Awp.exit ?_
        refine Awp.regionP C ?_
        refine rvP C (.pv (.lit (.int .i64 (IntKind.i64.wrap ((i1 : Int) + 1))))) ?_
        refine rvP C (.pv (.lit (.int .i64 (IntKind.i64.wrap ((i1 : Int) + 1))))) ?_
        refine rvc_nil ?_
        refine ⟨h13, (), ?_, ?_⟩
        · exact (by rw [show 3 - (i1 + 1) = k by omega]; exact hR)
        · exact ⟨fun b => b, WeakerR.ofL (Ks := [4, 6, 7, 8]) hI ⟨⟨rfl, rfl⟩, ⟨rfl, rfl⟩, ⟨rfl, rfl⟩, ⟨rfl, rfl⟩, ⟨rfl, rfl⟩, ⟨rfl, rfl⟩, ⟨lit_cast (wrap_i64 (by omega) (by omega)), rfl⟩, trivial⟩ (okH_cons rfl rfl rfl rfl (okH_cons rfl rfl rfl rfl (okH_cons rfl rfl rfl rfl (okH_cons rfl rfl rfl rfl (okH_nil))))) rfl⟩
       ·
        replace hR := of_false h17 hR
        refine Awp.skip ?_
        refine Awp.consP C ?_
        refine rvP C (.agg [.pv (.lit (.int .i64 c.epoch)), sS (some c.members.nil) eMember c.members.D]) ?_
        refine rvP C (.pv (.lit (.int .i64 sp))) ?_
        refine rvP C (.pv (.lit (.int .i64 (i1 : Int)))) ?_
        refine rvP C (.agg [.pv (.lit (.int .i64 sp)), .pv (.lit (.int .i64 (i1 : Int))), .pv (.lit (.bool false))]) ?_
        obtain ⟨rj, hq_rj⟩ : ∃ q_, q_ = (rJoin c (Member.mk sp (i1 : Int) false)) := ⟨_, rfl⟩
        have hc_rj := (rJoin_calls c (Member.mk sp (i1 : Int) false) hl1)
        first | rw [← hq_rj] at hR hc_rj | (unfold rNextP at hR; rw [← hq_rj] at hR hc_rj) | (unfold rNextP_l0 at hR; rw [← hq_rj] at hR hc_rj) | (unfold rNextP_l1 at hR; rw [← hq_rj] at hR hc_rj)
        refine rvc_un (rexec_call hP C rfl rfl rfl hc_rj ?_)
        refine rvP C (.tup [.agg [.pv (.lit (.int .i64 rj.1.epoch)), sS (some rj.1.members.nil) eMember rj.1.members.D], .pv (.lit (.int .i64 rj.2))]) ?_
        refine rvP C (.agg [.pv (.lit (.int .i64 rj.1.epoch)), sS (some rj.1.members.nil) eMember rj.1.members.D]) ?_
        refine rvP C (.pv (.lit (.int .i64 rj.2))) ?_
        refine rvc_un (rexec_prim C (δ := { v := .ptr 19 0, new := [(19, .cells [.pv (.lit (.int .i64 0)), sS (some true) eMember []])] }) rfl rfl rfl rfl trivial rfl ?_)
        refine rvc_un (rexec_prim C (δ := { v := .undef, wr := [(19, some (.cells [.pv (.lit (.int .i64 rj.1.epoch)), sS (some rj.1.members.nil) eMember rj.1.members.D]))] }) rfl rfl rfl rfl trivial rfl ?_)
        refine rvP C (.pv (.lit (.int .i64 rj.2))) ?_
        refine rvc_nil ?_
        refine Awp.consP C ?_
        refine rvP C (.pv (.lit (.int .i64 rj.2))) ?_
        refine rvP C (.pv (.lit (.bool (rj.2 == 0)))) ?_
        refine rvc_nil ?_
        refine Awp.cond (b := (rj.2 == 0)) rfl (fun h18 => ?_) (fun h18 => ?_)
        ·
         replace hR := of_true h18 hR
         refine Awp.consP C ?_
         refine rvP C (.pv (.lit (.int .i64 sp))) ?_
         refine rvP C (.pv (.lit (.int .i64 (i1 : Int)))) ?_
         refine rvP C (.ptr 4 0) ?_
         refine rvP C (.pv (.lit (.int .i64 c.epoch))) ?_
         refine rvP C (.agg [.pv (.lit (.int .i64 2)), .pv (.lit (.int .i64 sp)), .pv (.lit (.int .i64 (i1 : Int))), .pv (.lit (.int .i64 c.epoch))]) ?_
         refine rvc_un (rexec_prim C (δ := { v := .undef, wr := [(8, some (.cells [.pv (.lit (.int .i64 2)), .pv (.lit (.int .i64 sp)), .pv (.lit (.int .i64 (i1 : Int))), .pv (.lit (.int .i64 c.epoch))]))] }) rfl rfl rfl rfl trivial rfl ?_)
         refine rvP C (.pv (.lit (.bool true))) ?_
         refine rvP C (.pv (.lit (.int .i64 0))) ?_
         refine rvc_nil ?_
         refine Awp.ret ?_
         subst hR
         exact ⟨.inl rfl, rfl⟩
        ·
         replace hR := of_false h18 hR
         refine Awp.skip ?_
         refine Awp.regionP C ?_
         refine rvP C (.pv (.lit (.int .i64 (IntKind.i64.wrap ((i1 : Int) + 1))))) ?_
         refine rvP C (.pv (.lit (.int .i64 (IntKind.i64.wrap ((i1 : Int) + 1))))) ?_
         refine rvc_nil ?_
         refine ⟨h13, (), ?_, ?_⟩
         · exact (by rw [show 3 - (i1 + 1) = k by omega]; exact hR)
         · exact ⟨fun b => b, WeakerR.ofL (Ks := [4, 6, 7, 8]) hI ⟨⟨rfl, rfl⟩, ⟨rfl, rfl⟩, ⟨rfl, rfl⟩, ⟨rfl, rfl⟩, ⟨rfl, rfl⟩, ⟨rfl, rfl⟩, ⟨lit_cast (wrap_i64 (by omega) (by omega)), rfl⟩, trivial⟩ (okH_cons rfl rfl rfl rfl (okH_cons rfl rfl rfl rfl (okH_cons rfl rfl rfl rfl (okH_cons rfl rfl rfl rfl (okH_nil))))) rfl⟩
    ·
     rw [show 3 - i1 = 0 by have := of_decide_eq_false h12; omega] at hR
     refine Awp.exit ?_
     refine Awp.consP C ?_
     refine rvP C (.agg [.pv (.lit (.int .i64 0)), .pv (.lit (.int .i64 0)), .pv (.lit (.int .i64 0)), .pv (.lit (.int .i64 0))]) ?_
     refine rvc_un (rexec_prim C (δ := { v := .undef, wr := [(8, some (.cells [.pv (.lit (.int .i64 0)), .pv (.lit (.int .i64 0)), .pv (.lit (.int .i64 0)), .pv (.lit (.int .i64 0))]))] }) rfl rfl rfl rfl trivial rfl ?_)
     refine rvP C (.pv (.lit (.bool false))) ?_
     refine rvP C (.pv (.lit (.int .i64 0))) ?_
     refine rvc_nil ?_
     refine Awp.ret ?_
     subst hR
     exact ⟨.inl rfl, rfl⟩
end Go.Proofs.Ytaffaalpgpepeaa
/- The law PlanNext in plain Lean: the code's next command is the document's. No conditions. -/
namespace Go.Proofs.Ytaffaalpgpepeaa
open Go.Am
theorem fromW_l0_at : ∀ (k i S : Nat) (g : Nat → Bool) (j : Nat), S < 18446744073709551616 → fromW_l0 k i (S : Int) g j = if i ≤ j ∧ j < i + k then S.testBit (j - i) else g j
  | 0, i, S, g, j, _ => by
    rw [if_neg (by omega)]; rfl
  | k + 1, i, S, g, j, hS => by
    unfold fromW_l0
    have e1 : IntKind.u64.wrap ((S : Int).tdiv 2) = ((S / 2 : Nat) : Int) := by
      rw [show (S : Int).tdiv 2 = ((S / 2 : Nat) : Int) from rfl, wrap64]; omega
    have e2 : ((S : Int).tmod 2 == 1) = S.testBit 0 := by
      rw [show (S : Int).tmod 2 = ((S % 2 : Nat) : Int) from rfl, Nat.testBit_zero]
      rw [Bool.eq_iff_iff]; simp; omega
    rw [e1, e2, fromW_l0_at k (i + 1) (S / 2) _ j (by omega)]
    unfold updA
    by_cases h1 : j = i
    · subst h1
      rw [if_neg (by omega), if_pos (by omega)]; simp
    · rw [show (j == i) = false by simpa using h1, cond_false]
      by_cases h2 : i + 1 ≤ j ∧ j < i + 1 + k
      · rw [if_pos h2, if_pos (by omega), show j - i = (j - (i + 1)) + 1 by omega, Nat.testBit_succ]
      · rw [if_neg h2, if_neg (by omega)]
theorem fromW_at {S j : Nat} (hS : S < 18446744073709551616) (hj : j < 64) : fromW (S : Int) j = S.testBit j := by
  unfold fromW
  rw [fromW_l0_at 64 0 S _ j hS, if_pos (by omega)]; rfl
theorem find_congr {α : Type} {p q : α → Bool} : ∀ {l : List α}, (∀ x ∈ l, p x = q x) → l.find? p = l.find? q
  | [], _ => rfl
  | x :: l, h => by
    rw [List.find?_cons, List.find?_cons, h x (List.mem_cons_self ..), find_congr fun y hy => h y (List.mem_cons_of_mem _ hy)]
theorem find_filter {α : Type} {p q : α → Bool} : ∀ (l : List α), (l.filter p).find? q = l.find? fun x => p x && q x
  | [] => rfl
  | x :: l => by
    rw [List.filter_cons, List.find?_cons, ← find_filter l]
    cases hp : p x
    · simp
    · simp only [if_true, List.find?_cons, Bool.true_and]
theorem rPlace_l0_node (n : Int) : ∀ (l : List Member) (i : Nat), 0 ≤ rPlace_l0 n l i → ∃ x, l[(rPlace_l0 n l i).toNat - i]? = some x ∧ x.node = n ∧ i ≤ (rPlace_l0 n l i).toNat
  | [], _, h => absurd h (by show ¬ (0 : Int) ≤ -1; decide)
  | x :: l, i, h => by
    unfold rPlace_l0 at h ⊢
    cases hx : x.node == n
    · rw [hx, cond_false] at h
      obtain ⟨y, h1, h2, h3⟩ := rPlace_l0_node n l (i + 1) h
      rw [cond_false]
      refine ⟨y, ?_, h2, by omega⟩
      rw [show (rPlace_l0 n l (i + 1)).toNat - i = ((rPlace_l0 n l (i + 1)).toNat - (i + 1)) + 1 by omega, List.getElem?_cons_succ]
      exact h1
    · rw [cond_true]
      exact ⟨x, by simp, by simpa using hx, by omega⟩
theorem place_mem {c : Chain} {n : Int} (h : 0 ≤ rPlace c n) : ∃ x ∈ c.members.D, x.node = n := by
  unfold rPlace at h
  cases hc : rCheck c != 0
  · rw [hc, cond_false] at h
    obtain ⟨x, h1, h2, _⟩ := rPlace_l0_node n c.members.D 0 h
    exact ⟨x, List.mem_of_getElem? h1, h2⟩
  · rw [hc] at h; exact absurd h (by show ¬ (0 : Int) ≤ -1; decide)
theorem spare_l0_find (f : Fleet) (s : Int) : ∀ (l : List Int) (i : Nat), spare_l0 f s l i = match l.find? (fun x => decide (x < 6) && (f.home x.toNat == s)) with | some x => (x, true) | none => (0, false)
  | [], _ => rfl
  | x :: l, i => by
    unfold spare_l0
    rw [List.find?_cons, spare_l0_find f s l (i + 1)]
    cases decide (x < 6)
    · rfl
    · cases f.home x.toNat == s <;> rfl
def spareN (a : Nat) (h : Nat → Int) (c : Chain) (s : Int) : Option Nat := (List.range 6).find? fun n => a.testBit n && (h n == s) && !(c.members.D.any fun x => x.node == (n : Int))
theorem spare_eqN {a : Nat} (h w : Nat → Int) (c : Chain) (s : Int) : spare ⟨(a : Int), h, w⟩ c s = match spareN a h c s with | some n => ((n : Int), true) | none => (0, false) := by
  obtain ⟨U, hU, hb⟩ := butNodes a c
  have e : spare ⟨(a : Int), h, w⟩ c s = spare_l0 ⟨(a : Int), h, w⟩ s (setL U) 0 := by unfold spare; rw [hU]
  rw [e, spare_l0_find]
  have key : (setL U).find? (fun x => decide (x < 6) && (h x.toNat == s)) = (spareN a h c s).map Int.ofNat := by
    have h0 : (setL U).find? (fun x => decide (x < 6) && (h x.toNat == s)) = ((List.range 64).find? fun n => U.testBit n && (decide (n < 6) && (h n == s))).map Int.ofNat := by
      unfold setL
      rw [List.find?_map, find_filter]
      congr 1
    rw [h0, show (List.range 64) = List.range 6 ++ List.range' 6 58 by decide, List.find?_append]
    have h1 : (List.range' 6 58).find? (fun n => U.testBit n && (decide (n < 6) && (h n == s))) = none := List.find?_eq_none.2 fun n hn => by
      have := (List.mem_range'_1.1 hn).1
      rw [decide_eq_false (by omega)]; simp
    have h2 : (List.range 6).find? (fun n => U.testBit n && (decide (n < 6) && (h n == s))) = spareN a h c s := by
      refine find_congr fun n hn => ?_
      have hn := List.mem_range.1 hn
      rw [hb n (by omega), decide_eq_true hn]
      cases a.testBit n <;> cases h n == s <;> simp
    rw [h1, h2, Option.or_none]
  rw [key]
  cases spareN a h c s <;> rfl
theorem rSpare_l0_find (c : Chain) (h : Nat → Int) (s : Int) (sw : Nat → Bool) : ∀ (k i : Nat), rSpare_l0 c h s sw k i = match (List.range' i k).find? (fun n => sw n && ((h n == s) && decide (rPlace c (n : Int) < 0))) with | some n => (n : Int) | none => -1
  | 0, _ => rfl
  | k + 1, i => by
    unfold rSpare_l0
    rw [List.range'_succ, List.find?_cons, rSpare_l0_find c h s sw k (i + 1)]
    cases sw i
    · rfl
    · cases h i == s
      · rfl
      · cases decide (rPlace c (i : Int) < 0) <;> rfl
theorem place_any {c : Chain} (hc : check c = 0) (n : Int) : decide (rPlace c n < 0) = !(c.members.D.any fun x => x.node == n) := by
  cases hd : decide (rPlace c n < 0)
  · symm
    rw [Bool.not_eq_false', List.any_eq_true]
    have h0 : 0 ≤ rPlace c n := by have := of_decide_eq_false hd; omega
    obtain ⟨x, h1, h2⟩ := place_mem h0
    exact ⟨x, h1, by simpa using h2⟩
  · symm
    rw [Bool.not_eq_true', List.any_eq_false]
    exact fun x hx => by simpa using place_none hc (of_decide_eq_true hd) x hx
theorem rSpare_eqN {a : Nat} (ha : a < 18446744073709551616) {c : Chain} (hc : check c = 0) (h : Nat → Int) (s : Int) : rSpare c (a : Int) h s = match spareN a h c s with | some n => (n : Int) | none => -1 := by
  unfold rSpare spareN
  rw [rSpare_l0_find, List.range_eq_range']
  rw [find_congr (l := List.range' 0 6) (q := fun n => a.testBit n && (h n == s) && !(c.members.D.any fun x => x.node == (n : Int))) fun n hn => by
    have := (List.mem_range'_1.1 hn).2
    rw [fromW_at ha (by omega), place_any hc, Bool.and_assoc]]
end Go.Proofs.Ytaffaalpgpepeaa
/- The law PlanNext in plain Lean: its model answers true. No conditions. -/
namespace Go.Proofs.Ytaffaalpgpepeaa
open Go.Am
theorem cut_drop {c : Chain} (hc : check c = 0) {x : Member} (hx : x ∈ c.members.D) : eqP (drop c x.node) (rCut c x.node (-1)) := by
  have h := drop_eq c x.node
  have := mem_ok hc hx
  rw [show (x.node == -1) = false by simp; omega, cond_false] at h
  exact h
theorem has_mem {a : Nat} (ha : a < 18446744073709551616) {c : Chain} (hc : check c = 0) {x : Member} (hx : x ∈ c.members.D) : fromW (a : Int) x.node.toNat = mHas (a : Int) x.node := by
  have := mem_ok hc hx
  obtain ⟨n, hn⟩ : ∃ n : Nat, x.node = (n : Int) := ⟨x.node.toNat, by omega⟩
  rw [hn, Int.toNat_natCast, fromW_at ha (by omega), has_nat ha (by omega)]
theorem rNext_l0_eq {a : Nat} (ha : a < 18446744073709551616) {c : Chain} (hc : check c = 0) (h w : Nat → Int) : ∀ (l : List Member) (i : Nat) (fresh : Bool), (∀ x ∈ l, x ∈ c.members.D) → rNextP_l0 c (a : Int) h w (fromW (a : Int)) l i fresh = bif (deadOf_l0 ⟨(a : Int), h, w⟩ c l i).2 then ((deadOf_l0 ⟨(a : Int), h, w⟩ c l i).1, true, 0) else rNextP_l1 c (a : Int) h w (fresh || l.any (·.fresh)) 3 0
  | [], i, fresh, _ => by
    unfold rNextP_l0 deadOf_l0
    rw [List.any_nil, Bool.or_false]; rfl
  | x :: l, i, fresh, hl => by
    have hx := hl x (List.mem_cons_self ..)
    have ih := fun f => rNext_l0_eq ha hc h w l (i + 1) f fun y hy => hl y (List.mem_cons_of_mem _ hy)
    unfold rNextP_l0 deadOf_l0
    rw [may_drop, has_mem ha hc hx, (cut_drop hc hx).2, List.any_cons, ih true, ih x.fresh, ← Bool.or_assoc]
    show _ = bif (bif !mHas (a : Int) x.node then _ else _ : Command × Bool).2 then _ else _
    cases mHas (a : Int) x.node
    · cases (rCut c x.node (-1)).2 == 0
      · cases fresh <;> rfl
      · rfl
    · cases (rCut c x.node (-1)).2 == 0 <;> cases fresh <;> rfl
theorem rNext_l1_fresh (c : Chain) (a : Int) (h w : Nat → Int) : ∀ k i, rNextP_l1 c a h w true k i = (⟨0, 0, 0, 0⟩, false, 0)
  | 0, _ => rfl
  | k + 1, i => by
    unfold rNextP_l1
    rw [cond_true]
    exact rNext_l1_fresh c a h w k (i + 1)
theorem rNext_l1_eq {a : Nat} (ha : a < 18446744073709551616) {c : Chain} (hc : check c = 0) (h w : Nat → Int) : ∀ k i, rNextP_l1 c (a : Int) h w false k i = ((lackOf_l0 ⟨(a : Int), h, w⟩ c k i).1, (lackOf_l0 ⟨(a : Int), h, w⟩ c k i).2, 0)
  | 0, _ => rfl
  | k + 1, i => by
    unfold rNextP_l1 lackOf_l0
    rw [rSpare_eqN ha hc, spare_eqN, may_join, many_eq, rNext_l1_eq ha hc h w k (i + 1), cond_false]
    show _ = ((bif decide (many c (i : Int) ≥ w i) then _ else _ : Command × Bool).1, (bif decide (many c (i : Int) ≥ w i) then _ else _ : Command × Bool).2, 0)
    cases hs : spareN a h c (i : Int) with
    | none =>
      cases decide (many c (i : Int) ≥ w i) <;> rfl
    | some n =>
      have hj := (join_eq c (n : Int) (i : Int) false).2
      simp only [hj]
      rw [decide_eq_false (by omega), cond_false]
      cases decide (many c (i : Int) ≥ w i)
      · cases (rJoin c ⟨(n : Int), (i : Int), false⟩).2 == 0 <;> rfl
      · rfl
theorem fresh_whole {c : Chain} (hc : check c = 0) : (whole c != nodes c) = c.members.D.any (·.fresh) := by
  obtain ⟨U, e1, h1, b1⟩ := whole_nat c
  obtain ⟨V, e2, h2, b2⟩ := nodes_nat c
  rw [e1, e2]
  cases hf : c.members.D.any (·.fresh)
  · have : U = V := Nat.eq_of_testBit_eq fun k => by
      by_cases hk : k < 64
      · rw [b1 k hk, b2 k hk, Bool.eq_iff_iff, List.any_eq_true, List.any_eq_true]
        have hno := List.any_eq_false.1 hf
        constructor
        · rintro ⟨x, hx, he⟩
          rw [Bool.and_eq_true] at he
          exact ⟨x, hx, he.1⟩
        · rintro ⟨x, hx, he⟩
          exact ⟨x, hx, by rw [he]; have := hno x hx; simpa using this⟩
      · have h64 : (2 : Nat) ^ 64 ≤ 2 ^ k := Nat.pow_le_pow_right (by decide) (by omega)
        have h' : (2 : Nat) ^ 64 = 18446744073709551616 := by decide
        rw [Nat.testBit_lt_two_pow (x := U) (by omega), Nat.testBit_lt_two_pow (by omega)]
    rw [this]; simp
  · obtain ⟨x, hx, hfr⟩ := List.any_eq_true.1 hf
    have hm := mem_ok hc hx
    obtain ⟨n, hn⟩ : ∃ n : Nat, x.node = (n : Int) := ⟨x.node.toNat, by omega⟩
    have hV : V.testBit n = true := by
      rw [b2 n (by omega)]
      exact List.any_eq_true.2 ⟨x, hx, by simpa using hn⟩
    have hU : U.testBit n = false := by
      rw [b1 n (by omega)]
      refine List.any_eq_false.2 fun y hy he => ?_
      rw [Bool.and_eq_true] at he
      have : y = x := ok_inj _ _ (ok_of_check hc) y hy x hx (by rw [hn]; simpa using he.1)
      rw [this, hfr] at he
      exact absurd he.2 (by decide)
    have : U ≠ V := fun e => by rw [e, hV] at hU; cases hU
    simpa using (fun e => this (by omega) : ¬ (U : Int) = (V : Int))
theorem nextP_ref {a : Int} (ha : 0 ≤ a ∧ a < 18446744073709551616) (c : Chain) (h w : Nat → Int) : nextP c a h w = rNextP c a h w := by
  obtain ⟨n, rfl⟩ : ∃ n : Nat, a = (n : Int) := ⟨a.toNat, by omega⟩
  have hn : n < 18446744073709551616 := by omega
  unfold nextP rNextP
  rw [← check_eq, planCheck_eq]
  cases hc : check c != 0
  case true => rw [check_bad hc]; rfl
  have hc0 := eq_of_bne_false hc
  cases hp : planCheck h w != 0
  case true =>
    rcases planCheck_01 h w with e | e
    · rw [e] at hp; cases hp
    · rw [e]; rfl
  rw [cond_false, cond_false, cond_false, cond_false, rNext_l0_eq hn hc0 h w _ _ _ (fun _ h => h), fresh_whole hc0, Bool.false_or]
  unfold deadOf lackOf
  cases (deadOf_l0 ⟨(n : Int), h, w⟩ c c.members.D 0).2
  case true => rfl
  cases c.members.D.any (·.fresh)
  · rw [cond_false, cond_false, cond_false, rNext_l1_eq hn hc0]
  · rw [cond_false, cond_true, cond_false, rNext_l1_fresh]
end Go.Proofs.Ytaffaalpgpepeaa
/- Changes of the reference's chains: no longer than that. No conditions. -/
namespace Go.Proofs.Ytaffaalpgpepeaa
open Go.Am
theorem finC_len (c : Chain) (l : Sl Member) : (finC c l).1.members.D.length ≤ l.D.length := by
  unfold finC
  cases (l.D.length : Int) == (c.members.D.length : Int)
  case true => exact Nat.zero_le _
  cases (l.D.length : Int) == 0
  case true => exact Nat.zero_le _
  exact Nat.le_refl _
theorem rCut_6 (c : Chain) (n s : Int) : (rCut c n s).1.members.D.length ≤ 6 := by
  unfold rCut
  cases hc : rCheck c != 0
  case true => exact Nat.zero_le _
  cases c.epoch == 1099511627776
  case true => exact Nat.zero_le _
  rw [cond_false, cond_false, rCut_l0_eq]
  have h6 := rCheck_le6 (eq_of_bne_false hc)
  refine Nat.le_trans (finC_len c _) (Nat.le_trans (List.dropWhile_sublist _).length_le ?_)
  rw [List.nil_append]
  exact Nat.le_trans (List.length_filter_le _ _) h6
theorem rJoin_l0_len (c : Chain) (m : Member) : ∀ (xs : List Member) (i : Nat) (put : Bool) (vc : List Member), (rJoin_l0 c m xs i put vc).1.members.D.length ≤ vc.length + xs.length + (bif put then 0 else 1)
  | [], i, put, vc => by
    unfold rJoin_l0
    cases put
    · show (vc ++ [_]).length ≤ _; simp
    · exact Nat.le_refl _
  | x :: xs, i, put, vc => by
    unfold rJoin_l0
    have h1 := rJoin_l0_len c m xs (i + 1) true ((vc ++ [Member.mk m.node m.site true]) ++ [x])
    have h2 := rJoin_l0_len c m xs (i + 1) put (vc ++ [x])
    simp only [List.length_append, List.length_cons, List.length_nil, cond_true] at h1 h2 ⊢
    cases decide (x.site > m.site)
    · rw [cond_false]; omega
    · cases put
      · simp only [Bool.not_false, cond_true, cond_false]; omega
      · simp only [Bool.not_true, cond_true, cond_false] at h2 ⊢; omega
theorem rJoin_7 (c : Chain) (m : Member) : (rJoin c m).1.members.D.length ≤ 7 := by
  unfold rJoin
  cases hc : rCheck c != 0
  case true => exact Nat.zero_le _
  cases decide (m.node < 0)
  case true => exact Nat.zero_le _
  cases decide (m.node > 5)
  case true => exact Nat.zero_le _
  cases decide (m.site < 0)
  case true => exact Nat.zero_le _
  cases decide (m.site > 2)
  case true => exact Nat.zero_le _
  cases decide (rPlace c m.node ≥ 0)
  case true => exact Nat.zero_le _
  cases c.epoch == 1099511627776
  case true => exact Nat.zero_le _
  cases decide (c.members.D[0]!.site > m.site)
  case true => exact Nat.zero_le _
  have h1 := rJoin_l0_len c m c.members.D 0 false []
  have h6 := rCheck_le6 (eq_of_bne_false hc)
  simp only [List.length_nil, cond_false] at h1
  show (rJoin_l0 c m c.members.D 0 false []).1.members.D.length ≤ 7
  omega
end Go.Proofs.Ytaffaalpgpepeaa
