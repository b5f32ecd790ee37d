import Derived.Test.YtpgenmflgdkfiaaM3
/- Readers made, and asked for small numbers. No conditions. -/
namespace Go.Proofs.Ytpgenmflgdkfiaa
open Go.Am
structure Command where
  kind : Int
  node : Int
  site : Int
  epoch : Int
  deriving Inhabited
def eCommand : Enc Command := ⟨4, fun x => [.lit (.int .i64 x.kind), .lit (.int .i64 x.node), .lit (.int .i64 x.site), .lit (.int .i64 x.epoch)], fun _ => rfl⟩
def rdNew (b : (Sl Int)) : Reader :=
  (Reader.mk (Sl.mk false b.D) 0 0 true)
theorem rdNew_calls (b : (Sl Int)) (hl1 : b.D.length ≤ 1000000) : OCalls Try.prog 47 [sS (some b.nil) (eI .u8) b.D] (.ptr 0 0) (.cells [sS (some (rdNew b).b.nil) (eI .u8) ((rdNew b).b.D), .pv (.lit (.int .i64 ((rdNew b).at_))), .pv (.lit (.int .i64 ((rdNew b).err))), .pv (.lit (.bool ((rdNew b).made)))]) := by
 generalize hR : rdNew b = R
 refine OCalls.of_body tabOk Try.func47 rfl rfl rfl rfl rfl rfl mixed fun E hP C hI => ?_
 refine Awp.consP C ?_
 refine rvP C (.pv (.lit (.pointer none))) ?_
 refine rvc_nil ?_
 refine Awp.consP C ?_
 refine rvc_un (rexec_prim C (δ := { v := .sl 3 0 0 1 true, new := [(3, .cells (encC (eI .u8) []))] }) rfl rfl rfl rfl trivial rfl ?_)
 refine rvP C (sS (some b.nil) (eI .u8) b.D) ?_
 refine rvc_un (rexec_append C rfl rfl rfl rfl rfl rfl rfl rfl (fun _ h => by cases h) rfl (en := (eI .u8)) (D0 := []) (D := b.D) rfl rfl rfl rfl (by first | omega | (simp <;> omega)) (by decide) (nn := b.D.length) (by simp) ?_)
 refine rvP C (.agg [.sl 5 0 b.D.length 1 false, .pv (.lit (.int .i64 0)), .pv (.lit (.int .i64 0)), .pv (.lit (.bool true))]) ?_
 refine rvc_un (rexec_prim C (δ := { v := .ptr 7 0, new := [(7, .cells [.sl 5 0 b.D.length 1 false, .pv (.lit (.int .i64 0)), .pv (.lit (.int .i64 0)), .pv (.lit (.bool true))])] }) rfl rfl rfl rfl trivial rfl ?_)
 refine rvP C (.ptr 7 0) ?_
 refine rvc_nil ?_
 refine Awp.freezeW 5 (encL (eI .u8) b.D) ?_ [(2, .ptr 7 0)] [(7, .cells [sS (some false) (eI .u8) b.D, .pv (.lit (.int .i64 0)), .pv (.lit (.int .i64 0)), .pv (.lit (.bool true))])] ?_ ?_ ?_
 · rfl
 · exact ⟨⟨_, rfl, .inl (.inl rfl)⟩, trivial⟩
 · exact ⟨⟨(by show (7 : Nat) ≠ 5; decide), .inr ⟨_, _, rfl, rfl, ⟨.inr ⟨_, _, _, rfl, rfl⟩, .inl rfl, .inl rfl, .inl rfl, trivial⟩⟩⟩, trivial⟩
 refine Awp.weakenR (S := [(2, .ptr 0 0)]) (H := [(0, .cells [sS (some false) (eI .u8) b.D, .pv (.lit (.int .i64 0)), .pv (.lit (.int .i64 0)), .pv (.lit (.bool true))])]) (U := [0]) (fun x => bif x == 0 then 7 else x) (WeakerR.ofL (Ks := [0]) hI ⟨⟨rfl, rfl⟩, trivial⟩ (okH_cons rfl rfl rfl rfl okH_nil) rfl) ?_
 refine Awp.ret ?_
 subst hR
 exact ⟨.inl rfl, rfl, rfl⟩
def rdIn (r : Reader) (lo : Int) (hi : Int) : Reader × Int :=
  (bif ((rdErr (rdNum r).1) != 0) then ((rdNum r).1, 0) else (bif (decide ((rdNum r).2 > 4611686018427387904)) then ((rdStop (rdNum r).1 (IntKind.i64.wrap (((rdNum r).1.b.D.length : Int) - (rdLeft r))) 5), 0) else (bif (decide ((IntKind.i64.wrap (rdNum r).2) < lo)) then ((rdStop (rdNum r).1 (IntKind.i64.wrap (((rdNum r).1.b.D.length : Int) - (rdLeft r))) 5), 0) else (bif (decide ((IntKind.i64.wrap (rdNum r).2) > hi)) then ((rdStop (rdNum r).1 (IntKind.i64.wrap (((rdNum r).1.b.D.length : Int) - (rdLeft r))) 5), 0) else ((rdNum r).1, (IntKind.i64.wrap (rdNum r).2))))))
theorem rdIn_calls (r : Reader) (lo : Int) (hi : Int) (hk : (0 ≤ r.at_ ∧ r.at_ ≤ (r.b.D.length : Int)) ∧ r.b.D.length ≤ 1000000) : MCalls Try.prog 48 [.ptr 0 0, .pv (.lit (.int .i64 lo)), .pv (.lit (.int .i64 hi))] (.cells [sS (some r.b.nil) (eI .u8) r.b.D, .pv (.lit (.int .i64 r.at_)), .pv (.lit (.int .i64 r.err)), .pv (.lit (.bool r.made))]) (.pv (.lit (.int .i64 ((rdIn r lo hi).2)))) (.cells [sS (some (rdIn r lo hi).1.b.nil) (eI .u8) ((rdIn r lo hi).1.b.D), .pv (.lit (.int .i64 ((rdIn r lo hi).1.at_))), .pv (.lit (.int .i64 ((rdIn r lo hi).1.err))), .pv (.lit (.bool ((rdIn r lo hi).1.made)))]) := by
 generalize hR : rdIn r lo hi = R
 refine MCalls.of_body tabOk Try.func48 rfl rfl rfl rfl rfl rfl rfl mixed fun E hP C hI => ?_
 refine Awp.consP C ?_
 refine rvP C (.pv (.lit (.int .i64 0))) ?_
 refine rvc_nil ?_
 refine Awp.cons C (fun _ => .writer) (by kernel_rfl) ?_
 refine rvP C (.ptr 0 0) ?_
 refine rvc_un (rexec_callM hP C (b := 0) rfl rfl rfl (rdLeft_calls r) rfl rfl ?_)
 refine rvP C (.pv (.lit (.int .i64 (rdLeft r)))) ?_
 refine rvc_nil ?_
 refine Awp.cons C (fun _ => .writer) (by kernel_rfl) ?_
 refine rvP C (.ptr 0 0) ?_
 obtain ⟨nu, hq_nu⟩ : ∃ q_, q_ = (rdNum r) := ⟨_, rfl⟩
 have hc_nu := (rdNum_calls r hk)
 first | rw [← hq_nu] at hR hc_nu | (unfold rdIn at hR; rw [← hq_nu] at hR hc_nu)
 refine rvc_un (rexec_callM hP C (b := 0) rfl rfl rfl hc_nu rfl rfl ?_)
 refine rvP C (.pv (.lit (.int .u64 nu.2))) ?_
 refine rvc_nil ?_
 refine Awp.seq ?_
 refine Awp.cons C (fun _ => .writer) (by kernel_rfl) ?_
 refine rvP C (.ptr 0 0) ?_
 refine rvc_un (rexec_callM hP C (b := 0) rfl rfl rfl (rdErr_calls nu.1) rfl rfl ?_)
 refine rvP C (.pv (.lit (.bool ((rdErr nu.1) != 0)))) ?_
 refine rvc_nil ?_
 refine Awp.cond (b := ((rdErr nu.1) != 0)) rfl (fun h1 => ?_) (fun h1 => ?_)
 ·
  replace hR := of_true h1 hR
  refine Awp.consP C ?_
  refine rvP C (.pv (.lit (.int .i64 0))) ?_
  refine rvc_nil ?_
  refine Awp.ret ?_
  subst hR
  exact ⟨.inl rfl, rfl, rfl⟩
 ·
  replace hR := of_false h1 hR
  refine Awp.skip ?_
  refine Awp.seq ?_
  refine Awp.consP C ?_
  refine rvP C (.pv (.lit (.int .u64 nu.2))) ?_
  refine rvP C (.pv (.lit (.bool (decide (nu.2 > 4611686018427387904))))) ?_
  refine rvP C (.pv (.lit (.bool (decide (nu.2 > 4611686018427387904))))) ?_
  refine rvc_case 18 (decide (nu.2 > 4611686018427387904)) rfl (fun h2 => ?_) (fun h2 => ?_)
  ·
   replace hR := of_true h2 hR
   refine rvS ?_
   refine rvS ?_
   refine rvS ?_
   refine rvS ?_
   refine rvP C (.pv (.lit (.bool true))) ?_
   refine rvP C (.pv (.lit (.bool true))) ?_
   refine rvS ?_
   refine rvS ?_
   refine rvS ?_
   refine rvS ?_
   refine rvP C (.pv (.lit (.bool true))) ?_
   refine rvc_nil ?_
   refine Awp.condT (b := true) rfl rfl ?_
   refine Awp.cons C (fun _ => .writer) (by kernel_rfl) ?_
   refine rvP C (.ptr 0 0) ?_
   refine rvP C (.ptr 0 0) ?_
   refine rvP C (.ptr 0 0) ?_
   refine rvP C (.ptr 0 0) ?_
   refine rvP C (sS (some nu.1.b.nil) (eI .u8) nu.1.b.D) ?_
   refine rvP C (.pv (.lit (.int .i64 (nu.1.b.D.length : Int)))) ?_
   refine rvP C (.pv (.lit (.int .i64 (rdLeft r)))) ?_
   refine rvP C (.pv (.lit (.int .i64 (IntKind.i64.wrap ((nu.1.b.D.length : Int) - (rdLeft r)))))) ?_
   refine rvc_un (rexec_callM hP C (b := 0) rfl rfl rfl (rdStop_calls nu.1 (IntKind.i64.wrap ((nu.1.b.D.length : Int) - (rdLeft r))) 5) rfl rfl ?_)
   refine rvc_nil ?_
   refine Awp.consP C ?_
   refine rvP C (.pv (.lit (.int .i64 0))) ?_
   refine rvc_nil ?_
   refine Awp.ret ?_
   subst hR
   exact ⟨.inl rfl, rfl, rfl⟩
  ·
   replace hR := of_false h2 hR
   refine rvO C (.pv (.lit (.int .u64 nu.2))) ?_
   refine rvO C (.pv (.lit (.int .i64 (IntKind.i64.wrap nu.2)))) ?_
   refine rvO C (.pv (.lit (.int .i64 lo))) ?_
   refine rvO C (.pv (.lit (.bool (decide ((IntKind.i64.wrap nu.2) < lo))))) ?_
   refine rvP C (.pv (.lit (.bool (decide ((IntKind.i64.wrap nu.2) < lo))))) ?_
   refine rvP C (.pv (.lit (.bool (decide ((IntKind.i64.wrap nu.2) < lo))))) ?_
   refine rvc_case 24 (decide ((IntKind.i64.wrap nu.2) < lo)) rfl (fun h3 => ?_) (fun h3 => ?_)
   ·
    replace hR := of_true h3 hR
    refine rvS ?_
    refine rvS ?_
    refine rvS ?_
    refine rvS ?_
    refine rvP C (.pv (.lit (.bool true))) ?_
    refine rvc_nil ?_
    refine Awp.condT (b := true) rfl rfl ?_
    refine Awp.cons C (fun _ => .writer) (by kernel_rfl) ?_
    refine rvP C (.ptr 0 0) ?_
    refine rvP C (.ptr 0 0) ?_
    refine rvP C (.ptr 0 0) ?_
    refine rvP C (.ptr 0 0) ?_
    refine rvP C (sS (some nu.1.b.nil) (eI .u8) nu.1.b.D) ?_
    refine rvP C (.pv (.lit (.int .i64 (nu.1.b.D.length : Int)))) ?_
    refine rvP C (.pv (.lit (.int .i64 (rdLeft r)))) ?_
    refine rvP C (.pv (.lit (.int .i64 (IntKind.i64.wrap ((nu.1.b.D.length : Int) - (rdLeft r)))))) ?_
    refine rvc_un (rexec_callM hP C (b := 0) rfl rfl rfl (rdStop_calls nu.1 (IntKind.i64.wrap ((nu.1.b.D.length : Int) - (rdLeft r))) 5) rfl rfl ?_)
    refine rvc_nil ?_
    refine Awp.consP C ?_
    refine rvP C (.pv (.lit (.int .i64 0))) ?_
    refine rvc_nil ?_
    refine Awp.ret ?_
    subst hR
    exact ⟨.inl rfl, rfl, rfl⟩
   ·
    replace hR := of_false h3 hR
    refine rvO C (.pv (.lit (.int .u64 nu.2))) ?_
    refine rvO C (.pv (.lit (.int .i64 (IntKind.i64.wrap nu.2)))) ?_
    refine rvO C (.pv (.lit (.int .i64 hi))) ?_
    refine rvO C (.pv (.lit (.bool (decide ((IntKind.i64.wrap nu.2) > hi))))) ?_
    refine rvP C (.pv (.lit (.bool (decide ((IntKind.i64.wrap nu.2) > hi))))) ?_
    refine rvc_nil ?_
    refine Awp.cond (b := (decide ((IntKind.i64.wrap nu.2) > hi))) rfl (fun h4 => ?_) (fun h4 => ?_)
    ·
     replace hR := of_true h4 hR
     refine Awp.cons C (fun _ => .writer) (by kernel_rfl) ?_
     refine rvP C (.ptr 0 0) ?_
     refine rvP C (.ptr 0 0) ?_
     refine rvP C (.ptr 0 0) ?_
     refine rvP C (.ptr 0 0) ?_
     refine rvP C (sS (some nu.1.b.nil) (eI .u8) nu.1.b.D) ?_
     refine rvP C (.pv (.lit (.int .i64 (nu.1.b.D.length : Int)))) ?_
     refine rvP C (.pv (.lit (.int .i64 (rdLeft r)))) ?_
     refine rvP C (.pv (.lit (.int .i64 (IntKind.i64.wrap ((nu.1.b.D.length : Int) - (rdLeft r)))))) ?_
     refine rvc_un (rexec_callM hP C (b := 0) rfl rfl rfl (rdStop_calls nu.1 (IntKind.i64.wrap ((nu.1.b.D.length : Int) - (rdLeft r))) 5) rfl rfl ?_)
     refine rvc_nil ?_
     refine Awp.consP C ?_
     refine rvP C (.pv (.lit (.int .i64 0))) ?_
     refine rvc_nil ?_
     refine Awp.ret ?_
     subst hR
     exact ⟨.inl rfl, rfl, rfl⟩
    ·
     replace hR := of_false h4 hR
     refine Awp.skip ?_
     refine Awp.consP C ?_
     refine rvP C (.pv (.lit (.int .u64 nu.2))) ?_
     refine rvP C (.pv (.lit (.int .i64 (IntKind.i64.wrap nu.2)))) ?_
     refine rvP C (.pv (.lit (.int .i64 (IntKind.i64.wrap nu.2)))) ?_
     refine rvc_nil ?_
     refine Awp.ret ?_
     subst hR
     exact ⟨.inl rfl, rfl, rfl⟩
def cmdCheck (c : Command) : Int :=
  (bif (decide (c.node ≥ 0)) then (bif (decide (c.site ≥ 0)) then (bif (decide (c.epoch ≥ 1)) then (bif (c.kind == 1) then (bif (decide (c.epoch ≤ 1099511627776)) then (bif (decide (c.node < 6)) then (bif (!(c.site == 0)) then 120 else 0) else 120) else 120) else (bif (c.kind == 3) then (bif (decide (c.epoch ≤ 1099511627776)) then (bif (decide (c.node < 6)) then (bif (!(c.site == 0)) then 120 else 0) else 120) else 120) else (bif (c.kind == 4) then (bif (decide (c.epoch ≤ 1099511627776)) then (bif (decide (c.node < 6)) then (bif (!(c.site == 0)) then 120 else 0) else 120) else 120) else (bif (c.kind == 2) then (bif (decide (c.epoch ≤ 1099511627776)) then (bif (decide (c.node < 6)) then (bif (!(decide (c.site < 3))) then 120 else 0) else 120) else 120) else (bif (c.kind == 5) then (bif (decide (c.epoch ≤ 1099511627776)) then (bif (decide (c.site < 3)) then (bif (!(c.node == 0)) then 120 else 0) else 120) else 120) else 120))))) else (bif (c.kind == 1) then 120 else (bif (c.kind == 3) then 120 else (bif (c.kind == 4) then 120 else (bif (c.kind == 2) then 120 else (bif (c.kind == 5) then 120 else 120)))))) else (bif (decide (c.epoch ≥ 1)) then (bif (c.kind == 1) then (bif (decide (c.epoch ≤ 1099511627776)) then (bif (decide (c.node < 6)) then (bif (!(c.site == 0)) then 120 else 0) else 120) else 120) else (bif (c.kind == 3) then (bif (decide (c.epoch ≤ 1099511627776)) then (bif (decide (c.node < 6)) then (bif (!(c.site == 0)) then 120 else 0) else 120) else 120) else (bif (c.kind == 4) then (bif (decide (c.epoch ≤ 1099511627776)) then (bif (decide (c.node < 6)) then (bif (!(c.site == 0)) then 120 else 0) else 120) else 120) else (bif (c.kind == 2) then (bif (decide (c.epoch ≤ 1099511627776)) then (bif (decide (c.node < 6)) then 120 else 120) else 120) else (bif (c.kind == 5) then (bif (decide (c.epoch ≤ 1099511627776)) then 120 else 120) else 120))))) else (bif (c.kind == 1) then 120 else (bif (c.kind == 3) then 120 else (bif (c.kind == 4) then 120 else (bif (c.kind == 2) then 120 else (bif (c.kind == 5) then 120 else 120))))))) else (bif (decide (c.site ≥ 0)) then (bif (decide (c.epoch ≥ 1)) then (bif (c.kind == 1) then (bif (decide (c.epoch ≤ 1099511627776)) then 120 else 120) else (bif (c.kind == 3) then (bif (decide (c.epoch ≤ 1099511627776)) then 120 else 120) else (bif (c.kind == 4) then (bif (decide (c.epoch ≤ 1099511627776)) then 120 else 120) else (bif (c.kind == 2) then (bif (decide (c.epoch ≤ 1099511627776)) then 120 else 120) else (bif (c.kind == 5) then (bif (decide (c.epoch ≤ 1099511627776)) then (bif (decide (c.site < 3)) then (bif (!(c.node == 0)) then 120 else 0) else 120) else 120) else 120))))) else (bif (c.kind == 1) then 120 else (bif (c.kind == 3) then 120 else (bif (c.kind == 4) then 120 else (bif (c.kind == 2) then 120 else (bif (c.kind == 5) then 120 else 120)))))) else (bif (decide (c.epoch ≥ 1)) then (bif (c.kind == 1) then (bif (decide (c.epoch ≤ 1099511627776)) then 120 else 120) else (bif (c.kind == 3) then (bif (decide (c.epoch ≤ 1099511627776)) then 120 else 120) else (bif (c.kind == 4) then (bif (decide (c.epoch ≤ 1099511627776)) then 120 else 120) else (bif (c.kind == 2) then (bif (decide (c.epoch ≤ 1099511627776)) then 120 else 120) else (bif (c.kind == 5) then (bif (decide (c.epoch ≤ 1099511627776)) then 120 else 120) else 120))))) else (bif (c.kind == 1) then 120 else (bif (c.kind == 3) then 120 else (bif (c.kind == 4) then 120 else (bif (c.kind == 2) then 120 else (bif (c.kind == 5) then 120 else 120))))))))
theorem cmdCheck_calls (c : Command)  : PCalls Try.prog 24 [.agg [.pv (.lit (.int .i64 c.kind)), .pv (.lit (.int .i64 c.node)), .pv (.lit (.int .i64 c.site)), .pv (.lit (.int .i64 c.epoch))]] (.pv (.lit (.int .i64 (cmdCheck c)))) := by
 generalize hR : cmdCheck c = R
 refine PCalls.of_body tabOk Try.func24 rfl rfl rfl rfl rfl mixed fun E hP C hI => ?_
 refine Awp.consP C ?_
 refine rvc_un (rexec_prim C (δ := { v := .ptr 1 0, new := [(1, .cells [.pv (.lit (.int .i64 c.kind)), .pv (.lit (.int .i64 c.node)), .pv (.lit (.int .i64 c.site)), .pv (.lit (.int .i64 c.epoch))])] }) rfl rfl rfl rfl trivial rfl ?_)
 refine rvP C (.pv (.lit (.int .i64 0))) ?_
 refine rvc_nil ?_
 refine Awp.consP C ?_
 refine rvP C (.ptr 1 1) ?_
 refine rvP C (.pv (.lit (.int .i64 c.node))) ?_
 refine rvP C (.pv (.lit (.bool (decide (c.node ≥ 0))))) ?_
 refine rvP C (.pv (.lit (.bool (decide (c.node ≥ 0))))) ?_
 refine rvc_case 9 (decide (c.node ≥ 0)) rfl (fun h1 => ?_) (fun h1 => ?_)
 ·
  replace hR := of_true h1 hR
  refine rvO C (.ptr 1 1) ?_
  refine rvO C (.pv (.lit (.int .i64 c.node))) ?_
  refine rvO C (.pv (.lit (.bool (decide (c.node < 6))))) ?_
  refine rvP C (.pv (.lit (.bool (decide (c.node < 6))))) ?_
  refine rvP C (.pv (.lit (.bool (decide (c.node < 6))))) ?_
  refine rvc_nil ?_
  refine Awp.consP C ?_
  refine rvP C (.ptr 1 2) ?_
  refine rvP C (.pv (.lit (.int .i64 c.site))) ?_
  refine rvP C (.pv (.lit (.bool (decide (c.site ≥ 0))))) ?_
  refine rvP C (.pv (.lit (.bool (decide (c.site ≥ 0))))) ?_
  refine rvc_case 17 (decide (c.site ≥ 0)) rfl (fun h2 => ?_) (fun h2 => ?_)
  ·
   replace hR := of_true h2 hR
   refine rvO C (.ptr 1 2) ?_
   refine rvO C (.pv (.lit (.int .i64 c.site))) ?_
   refine rvO C (.pv (.lit (.bool (decide (c.site < 3))))) ?_
   refine rvP C (.pv (.lit (.bool (decide (c.site < 3))))) ?_
   refine rvP C (.pv (.lit (.bool (decide (c.site < 3))))) ?_
   refine rvc_nil ?_
   refine Awp.consP C ?_
   refine rvP C (.ptr 1 3) ?_
   refine rvP C (.pv (.lit (.int .i64 c.epoch))) ?_
   refine rvP C (.pv (.lit (.bool (decide (c.epoch ≥ 1))))) ?_
   refine rvP C (.pv (.lit (.bool (decide (c.epoch ≥ 1))))) ?_
   refine rvc_case 25 (decide (c.epoch ≥ 1)) rfl (fun h3 => ?_) (fun h3 => ?_)
   ·
    replace hR := of_true h3 hR
    refine rvO C (.ptr 1 3) ?_
    refine rvO C (.pv (.lit (.int .i64 c.epoch))) ?_
    refine rvO C (.pv (.lit (.bool (decide (c.epoch ≤ 1099511627776))))) ?_
    refine rvP C (.pv (.lit (.bool (decide (c.epoch ≤ 1099511627776))))) ?_
    refine rvP C (.pv (.lit (.bool (decide (c.epoch ≤ 1099511627776))))) ?_
    refine rvc_nil ?_
    refine Awp.seq ?_
    refine Awp.consP C ?_
    refine rvP C (.ptr 1 0) ?_
    refine rvP C (.pv (.lit (.int .i64 c.kind))) ?_
    refine rvc_nil ?_
    refine Awp.block ?_
    refine Awp.seq ?_
    refine Awp.consP C ?_
    refine rvP C (.pv (.lit (.bool (c.kind == 1)))) ?_
    refine rvP C (.pv (.lit (.bool (c.kind == 1)))) ?_
    refine rvc_nil ?_
    refine Awp.cond (b := (c.kind == 1)) rfl (fun h4 => ?_) (fun h4 => ?_)
    ·
     replace hR := of_true h4 hR
     refine Awp.skip ?_
     refine Awp.condT (b := (c.kind == 1)) rfl h4 ?_
     refine Awp.regionP C ?_
     refine rvP C (.pv (.lit (.bool (decide (c.epoch ≤ 1099511627776))))) ?_
     refine rvP C (.pv (.lit (.bool (decide (c.epoch ≤ 1099511627776))))) ?_
     refine rvc_case 37 (decide (c.epoch ≤ 1099511627776)) rfl (fun h5 => ?_) (fun h5 => ?_)
     ·
      replace hR := of_true h5 hR
      refine rvO C (.pv (.lit (.bool (decide (c.node < 6))))) ?_
      refine rvP C (.pv (.lit (.bool (decide (c.node < 6))))) ?_
      refine rvP C (.pv (.lit (.bool (decide (c.node < 6))))) ?_
      refine rvc_case 40 (decide (c.node < 6)) rfl (fun h6 => ?_) (fun h6 => ?_)
      ·
       replace hR := of_true h6 hR
       refine rvO C (.ptr 1 2) ?_
       refine rvO C (.pv (.lit (.int .i64 c.site))) ?_
       refine rvO C (.pv (.lit (.bool (c.site == 0)))) ?_
       refine rvP C (.pv (.lit (.bool (c.site == 0)))) ?_
       refine rvP C (.pv (.lit (.bool (c.site == 0)))) ?_
       refine rvc_nil ?_
       refine Awp.seq ?_
       refine Awp.consP C ?_
       refine rvP C (.pv (.lit (.bool (c.site == 0)))) ?_
       refine rvP C (.pv (.lit (.bool (!(c.site == 0))))) ?_
       refine rvc_nil ?_
       refine Awp.cond (b := (!(c.site == 0))) rfl (fun h7 => ?_) (fun h7 => ?_)
       ·
        replace hR := of_true h7 hR
        refine Awp.consP C ?_
        refine rvP C (.pv (.lit (.int .i64 120))) ?_
        refine rvc_nil ?_
        refine Awp.ret ?_
        subst hR
        exact ⟨.inl rfl, rfl⟩
       ·
        replace hR := of_false h7 hR
        refine Awp.skip ?_
        refine Awp.consP C ?_
        refine rvP C (.pv (.lit (.int .i64 0))) ?_
        refine rvc_nil ?_
        refine Awp.ret ?_
        subst hR
        exact ⟨.inl rfl, rfl⟩
      ·
       replace hR := of_false h6 hR
       refine rvS ?_
       refine rvS ?_
       refine rvS ?_
       refine rvP C (.pv (.lit (.bool false))) ?_
       refine rvP C (.pv (.lit (.bool false))) ?_
       refine rvc_nil ?_
       refine Awp.seq ?_
       refine Awp.consP C ?_
       refine rvP C (.pv (.lit (.bool false))) ?_
       refine rvP C (.pv (.lit (.bool true))) ?_
       refine rvc_nil ?_
       refine Awp.condT (b := true) rfl rfl ?_
       refine Awp.consP C ?_
       refine rvP C (.pv (.lit (.int .i64 120))) ?_
       refine rvc_nil ?_
       refine Awp.ret ?_
       subst hR
       exact ⟨.inl rfl, rfl⟩
     ·
      replace hR := of_false h5 hR
      refine rvS ?_
      refine rvP C (.pv (.lit (.bool false))) ?_
      refine rvP C (.pv (.lit (.bool false))) ?_
      refine rvS ?_
      refine rvS ?_
      refine rvS ?_
      refine rvP C (.pv (.lit (.bool false))) ?_
      refine rvP C (.pv (.lit (.bool false))) ?_
      refine rvc_nil ?_
      refine Awp.seq ?_
      refine Awp.consP C ?_
      refine rvP C (.pv (.lit (.bool false))) ?_
      refine rvP C (.pv (.lit (.bool true))) ?_
      refine rvc_nil ?_
      refine Awp.condT (b := true) rfl rfl ?_
      refine Awp.consP C ?_
      refine rvP C (.pv (.lit (.int .i64 120))) ?_
      refine rvc_nil ?_
      refine Awp.ret ?_
      subst hR
      exact ⟨.inl rfl, rfl⟩
    ·
     replace hR := of_false h4 hR
     refine Awp.consP C ?_
     refine rvP C (.pv (.lit (.bool (c.kind == 3)))) ?_
     refine rvP C (.pv (.lit (.bool (c.kind == 3)))) ?_
     refine rvc_nil ?_
     refine Awp.cond (b := (c.kind == 3)) rfl (fun h8 => ?_) (fun h8 => ?_)
     ·
      replace hR := of_true h8 hR
      refine Awp.skip ?_
      refine Awp.condT (b := (c.kind == 3)) rfl h8 ?_
      refine Awp.regionP C ?_
      refine rvP C (.pv (.lit (.bool (decide (c.epoch ≤ 1099511627776))))) ?_
      refine rvP C (.pv (.lit (.bool (decide (c.epoch ≤ 1099511627776))))) ?_
      refine rvc_case 37 (decide (c.epoch ≤ 1099511627776)) rfl (fun h9 => ?_) (fun h9 => ?_)
      ·
       replace hR := of_true h9 hR
       refine rvO C (.pv (.lit (.bool (decide (c.node < 6))))) ?_
       refine rvP C (.pv (.lit (.bool (decide (c.node < 6))))) ?_
       refine rvP C (.pv (.lit (.bool (decide (c.node < 6))))) ?_
       refine rvc_case 40 (decide (c.node < 6)) rfl (fun h10 => ?_) (fun h10 => ?_)
       ·
        replace hR := of_true h10 hR
        refine rvO C (.ptr 1 2) ?_
        refine rvO C (.pv (.lit (.int .i64 c.site))) ?_
        refine rvO C (.pv (.lit (.bool (c.site == 0)))) ?_
        refine rvP C (.pv (.lit (.bool (c.site == 0)))) ?_
        refine rvP C (.pv (.lit (.bool (c.site == 0)))) ?_
        refine rvc_nil ?_
        refine Awp.seq ?_
        refine Awp.consP C ?_
        refine rvP C (.pv (.lit (.bool (c.site == 0)))) ?_
        refine rvP C (.pv (.lit (.bool (!(c.site == 0))))) ?_
        refine rvc_nil ?_
        refine Awp.cond (b := (!(c.site == 0))) rfl (fun h11 => ?_) (fun h11 => ?_)
        ·
         replace hR := of_true h11 hR
         refine Awp.consP C ?_
         refine rvP C (.pv (.lit (.int .i64 120))) ?_
         refine rvc_nil ?_
         refine Awp.ret ?_
         subst hR
         exact ⟨.inl rfl, rfl⟩
        ·
         replace hR := of_false h11 hR
         refine Awp.skip ?_
         refine Awp.consP C ?_
         refine rvP C (.pv (.lit (.int .i64 0))) ?_
         refine rvc_nil ?_
         refine Awp.ret ?_
         subst hR
         exact ⟨.inl rfl, rfl⟩
       ·
        replace hR := of_false h10 hR
        refine rvS ?_
        refine rvS ?_
        refine rvS ?_
        refine rvP C (.pv (.lit (.bool false))) ?_
        refine rvP C (.pv (.lit (.bool false))) ?_
        refine rvc_nil ?_
        refine Awp.seq ?_
        refine Awp.consP C ?_
        refine rvP C (.pv (.lit (.bool false))) ?_
        refine rvP C (.pv (.lit (.bool true))) ?_
        refine rvc_nil ?_
        refine Awp.condT (b := true) rfl rfl ?_
        refine Awp.consP C ?_
        refine rvP C (.pv (.lit (.int .i64 120))) ?_
        refine rvc_nil ?_
        refine Awp.ret ?_
        subst hR
        exact ⟨.inl rfl, rfl⟩
      ·
       replace hR := of_false h9 hR
       refine rvS ?_
       refine rvP C (.pv (.lit (.bool false))) ?_
       refine rvP C (.pv (.lit (.bool false))) ?_
       refine rvS ?_
       refine rvS ?_
       refine rvS ?_
       refine rvP C (.pv (.lit (.bool false))) ?_
       refine rvP C (.pv (.lit (.bool false))) ?_
       refine rvc_nil ?_
       refine Awp.seq ?_
       refine Awp.consP C ?_
       refine rvP C (.pv (.lit (.bool false))) ?_
       refine rvP C (.pv (.lit (.bool true))) ?_
       refine rvc_nil ?_
       refine Awp.condT (b := true) rfl rfl ?_
       refine Awp.consP C ?_
       refine rvP C (.pv (.lit (.int .i64 120))) ?_
       refine rvc_nil ?_
       refine Awp.ret ?_
       subst hR
       exact ⟨.inl rfl, rfl⟩
     ·
      replace hR := of_false h8 hR
      refine Awp.regionP C ?_
      refine rvP C (.pv (.lit (.bool (c.kind == 4)))) ?_
      refine rvP C (.pv (.lit (.bool (c.kind == 4)))) ?_
      refine rvc_nil ?_
      refine Awp.cond (b := (c.kind == 4)) rfl (fun h12 => ?_) (fun h12 => ?_)
      ·
       replace hR := of_true h12 hR
       refine Awp.regionP C ?_
       refine rvP C (.pv (.lit (.bool (decide (c.epoch ≤ 1099511627776))))) ?_
       refine rvP C (.pv (.lit (.bool (decide (c.epoch ≤ 1099511627776))))) ?_
       refine rvc_case 37 (decide (c.epoch ≤ 1099511627776)) rfl (fun h13 => ?_) (fun h13 => ?_)
       ·
        replace hR := of_true h13 hR
        refine rvO C (.pv (.lit (.bool (decide (c.node < 6))))) ?_
        refine rvP C (.pv (.lit (.bool (decide (c.node < 6))))) ?_
        refine rvP C (.pv (.lit (.bool (decide (c.node < 6))))) ?_
        refine rvc_case 40 (decide (c.node < 6)) rfl (fun h14 => ?_) (fun h14 => ?_)
        ·
         replace hR := of_true h14 hR
         refine rvO C (.ptr 1 2) ?_
         refine rvO C (.pv (.lit (.int .i64 c.site))) ?_
         refine rvO C (.pv (.lit (.bool (c.site == 0)))) ?_
         refine rvP C (.pv (.lit (.bool (c.site == 0)))) ?_
         refine rvP C (.pv (.lit (.bool (c.site == 0)))) ?_
         refine rvc_nil ?_
         refine Awp.seq ?_
         refine Awp.consP C ?_
         refine rvP C (.pv (.lit (.bool (c.site == 0)))) ?_
         refine rvP C (.pv (.lit (.bool (!(c.site == 0))))) ?_
         refine rvc_nil ?_
         refine Awp.cond (b := (!(c.site == 0))) rfl (fun h15 => ?_) (fun h15 => ?_)
         ·
          replace hR := of_true h15 hR
          refine Awp.consP C ?_
          refine rvP C (.pv (.lit (.int .i64 120))) ?_
          refine rvc_nil ?_
          refine Awp.ret ?_
          subst hR
          exact ⟨.inl rfl, rfl⟩
         ·
          replace hR := of_false h15 hR
          refine Awp.skip ?_
          refine Awp.consP C ?_
          refine rvP C (.pv (.lit (.int .i64 0))) ?_
          refine rvc_nil ?_
          refine Awp.ret ?_
          subst hR
          exact ⟨.inl rfl, rfl⟩
        ·
         replace hR := of_false h14 hR
         refine rvS ?_
         refine rvS ?_
         refine rvS ?_
         refine rvP C (.pv (.lit (.bool false))) ?_
         refine rvP C (.pv (.lit (.bool false))) ?_
         refine rvc_nil ?_
         refine Awp.seq ?_
         refine Awp.consP C ?_
         refine rvP C (.pv (.lit (.bool false))) ?_
         refine rvP C (.pv (.lit (.bool true))) ?_
         refine rvc_nil ?_
         refine Awp.condT (b := true) rfl rfl ?_
         refine Awp.consP C ?_
         refine rvP C (.pv (.lit (.int .i64 120))) ?_
         refine rvc_nil ?_
         refine Awp.ret ?_
         subst hR
         exact ⟨.inl rfl, rfl⟩
       ·
        replace hR := of_false h13 hR
        refine rvS ?_
        refine rvP C (.pv (.lit (.bool false))) ?_
        refine rvP C (.pv (.lit (.bool false))) ?_
        refine rvS ?_
        refine rvS ?_
        refine rvS ?_
        refine rvP C (.pv (.lit (.bool false))) ?_
        refine rvP C (.pv (.lit (.bool false))) ?_
        refine rvc_nil ?_
        refine Awp.seq ?_
        refine Awp.consP C ?_
        refine rvP C (.pv (.lit (.bool false))) ?_
        refine rvP C (.pv (.lit (.bool true))) ?_
        refine rvc_nil ?_
        refine Awp.condT (b := true) rfl rfl ?_
        refine Awp.consP C ?_
        refine rvP C (.pv (.lit (.int .i64 120))) ?_
        refine rvc_nil ?_
        refine Awp.ret ?_
        subst hR
        exact ⟨.inl rfl, rfl⟩
      ·
       replace hR := of_false h12 hR
       refine Awp.consP C ?_
       refine rvP C (.pv (.lit (.bool (c.kind == 2)))) ?_
       refine rvP C (.pv (.lit (.bool (c.kind == 2)))) ?_
       refine rvc_nil ?_
       refine Awp.cond (b := (c.kind == 2)) rfl (fun h16 => ?_) (fun h16 => ?_)
       ·
        replace hR := of_true h16 hR
        refine Awp.regionP C ?_
        refine rvP C (.pv (.lit (.bool (decide (c.epoch ≤ 1099511627776))))) ?_
        refine rvP C (.pv (.lit (.bool (decide (c.epoch ≤ 1099511627776))))) ?_
        refine rvc_case 48 (decide (c.epoch ≤ 1099511627776)) rfl (fun h17 => ?_) (fun h17 => ?_)
        ·
         replace hR := of_true h17 hR
         refine rvO C (.pv (.lit (.bool (decide (c.node < 6))))) ?_
         refine rvP C (.pv (.lit (.bool (decide (c.node < 6))))) ?_
         refine rvP C (.pv (.lit (.bool (decide (c.node < 6))))) ?_
         refine rvc_case 51 (decide (c.node < 6)) rfl (fun h18 => ?_) (fun h18 => ?_)
         ·
          replace hR := of_true h18 hR
          refine rvO C (.pv (.lit (.bool (decide (c.site < 3))))) ?_
          refine rvP C (.pv (.lit (.bool (decide (c.site < 3))))) ?_
          refine rvP C (.pv (.lit (.bool (decide (c.site < 3))))) ?_
          refine rvc_nil ?_
          refine Awp.seq ?_
          refine Awp.consP C ?_
          refine rvP C (.pv (.lit (.bool (decide (c.site < 3))))) ?_
          refine rvP C (.pv (.lit (.bool (!(decide (c.site < 3)))))) ?_
          refine rvc_nil ?_
          refine Awp.cond (b := (!(decide (c.site < 3)))) rfl (fun h19 => ?_) (fun h19 => ?_)
          ·
           replace hR := of_true h19 hR
           refine Awp.consP C ?_
           refine rvP C (.pv (.lit (.int .i64 120))) ?_
           refine rvc_nil ?_
           refine Awp.ret ?_
           subst hR
           exact ⟨.inl rfl, rfl⟩
          ·
           replace hR := of_false h19 hR
           refine Awp.skip ?_
           refine Awp.consP C ?_
           refine rvP C (.pv (.lit (.int .i64 0))) ?_
           refine rvc_nil ?_
           refine Awp.ret ?_
           subst hR
           exact ⟨.inl rfl, rfl⟩
         ·
          replace hR := of_false h18 hR
          refine rvS ?_
          refine rvP C (.pv (.lit (.bool false))) ?_
          refine rvP C (.pv (.lit (.bool false))) ?_
          refine rvc_nil ?_
          refine Awp.seq ?_
          refine Awp.consP C ?_
          refine rvP C (.pv (.lit (.bool false))) ?_
          refine rvP C (.pv (.lit (.bool true))) ?_
          refine rvc_nil ?_
          refine Awp.condT (b := true) rfl rfl ?_
          refine Awp.consP C ?_
          refine rvP C (.pv (.lit (.int .i64 120))) ?_
          refine rvc_nil ?_
          refine Awp.ret ?_
          subst hR
          exact ⟨.inl rfl, rfl⟩
        ·
         replace hR := of_false h17 hR
         refine rvS ?_
         refine rvP C (.pv (.lit (.bool false))) ?_
         refine rvP C (.pv (.lit (.bool false))) ?_
         refine rvS ?_
         refine rvP C (.pv (.lit (.bool false))) ?_
         refine rvP C (.pv (.lit (.bool false))) ?_
         refine rvc_nil ?_
         refine Awp.seq ?_
         refine Awp.consP C ?_
         refine rvP C (.pv (.lit (.bool false))) ?_
         refine rvP C (.pv (.lit (.bool true))) ?_
         refine rvc_nil ?_
         refine Awp.condT (b := true) rfl rfl ?_
         refine Awp.consP C ?_
         refine rvP C (.pv (.lit (.int .i64 120))) ?_
         refine rvc_nil ?_
         refine Awp.ret ?_
         subst hR
         exact ⟨.inl rfl, rfl⟩
       ·
        replace hR := of_false h16 hR
        refine Awp.consP C ?_
        refine rvP C (.pv (.lit (.bool (c.kind == 5)))) ?_
        refine rvP C (.pv (.lit (.bool (c.kind == 5)))) ?_
        refine rvc_nil ?_
        refine Awp.cond (b := (c.kind == 5)) rfl (fun h20 => ?_) (fun h20 => ?_)
        ·
         replace hR := of_true h20 hR
         refine Awp.regionP C ?_
         refine rvP C (.pv (.lit (.bool (decide (c.epoch ≤ 1099511627776))))) ?_
         refine rvP C (.pv (.lit (.bool (decide (c.epoch ≤ 1099511627776))))) ?_
         refine rvc_case 57 (decide (c.epoch ≤ 1099511627776)) rfl (fun h21 => ?_) (fun h21 => ?_)
         ·
          replace hR := of_true h21 hR
          refine rvO C (.pv (.lit (.bool (decide (c.site < 3))))) ?_
          refine rvP C (.pv (.lit (.bool (decide (c.site < 3))))) ?_
          refine rvP C (.pv (.lit (.bool (decide (c.site < 3))))) ?_
          refine rvc_case 60 (decide (c.site < 3)) rfl (fun h22 => ?_) (fun h22 => ?_)
          ·
           replace hR := of_true h22 hR
           refine rvO C (.ptr 1 1) ?_
           refine rvO C (.pv (.lit (.int .i64 c.node))) ?_
           refine rvO C (.pv (.lit (.bool (c.node == 0)))) ?_
           refine rvP C (.pv (.lit (.bool (c.node == 0)))) ?_
           refine rvP C (.pv (.lit (.bool (c.node == 0)))) ?_
           refine rvc_nil ?_
           refine Awp.seq ?_
           refine Awp.consP C ?_
           refine rvP C (.pv (.lit (.bool (c.node == 0)))) ?_
           refine rvP C (.pv (.lit (.bool (!(c.node == 0))))) ?_
           refine rvc_nil ?_
           refine Awp.cond (b := (!(c.node == 0))) rfl (fun h23 => ?_) (fun h23 => ?_)
           ·
            replace hR := of_true h23 hR
            refine Awp.consP C ?_
            refine rvP C (.pv (.lit (.int .i64 120))) ?_
            refine rvc_nil ?_
            refine Awp.ret ?_
            subst hR
            exact ⟨.inl rfl, rfl⟩
           ·
            replace hR := of_false h23 hR
            refine Awp.skip ?_
            refine Awp.consP C ?_
            refine rvP C (.pv (.lit (.int .i64 0))) ?_
            refine rvc_nil ?_
            refine Awp.ret ?_
            subst hR
            exact ⟨.inl rfl, rfl⟩
          ·
           replace hR := of_false h22 hR
           refine rvS ?_
           refine rvS ?_
           refine rvS ?_
           refine rvP C (.pv (.lit (.bool false))) ?_
           refine rvP C (.pv (.lit (.bool false))) ?_
           refine rvc_nil ?_
           refine Awp.seq ?_
           refine Awp.consP C ?_
           refine rvP C (.pv (.lit (.bool false))) ?_
           refine rvP C (.pv (.lit (.bool true))) ?_
           refine rvc_nil ?_
           refine Awp.condT (b := true) rfl rfl ?_
           refine Awp.consP C ?_
           refine rvP C (.pv (.lit (.int .i64 120))) ?_
           refine rvc_nil ?_
           refine Awp.ret ?_
           subst hR
           exact ⟨.inl rfl, rfl⟩
         ·
          replace hR := of_false h21 hR
          refine rvS ?_
          refine rvP C (.pv (.lit (.bool false))) ?_
          refine rvP C (.pv (.lit (.bool false))) ?_
          refine rvS ?_
          refine rvS ?_
          refine rvS ?_
          refine rvP C (.pv (.lit (.bool false))) ?_
          refine rvP C (.pv (.lit (.bool false))) ?_
          refine rvc_nil ?_
          refine Awp.seq ?_
          refine Awp.consP C ?_
          refine rvP C (.pv (.lit (.bool false))) ?_
          refine rvP C (.pv (.lit (.bool true))) ?_
          refine rvc_nil ?_
          refine Awp.condT (b := true) rfl rfl ?_
          refine Awp.consP C ?_
          refine rvP C (.pv (.lit (.int .i64 120))) ?_
          refine rvc_nil ?_
          refine Awp.ret ?_
          subst hR
          exact ⟨.inl rfl, rfl⟩
        ·
         replace hR := of_false h20 hR
         refine Awp.regionP C ?_
         refine rvP C (.pv (.lit (.bool false))) ?_
         refine rvc_nil ?_
         refine Awp.seq ?_
         refine Awp.consP C ?_
         refine rvP C (.pv (.lit (.bool false))) ?_
         refine rvP C (.pv (.lit (.bool true))) ?_
         refine rvc_nil ?_
         refine Awp.condT (b := true) rfl rfl ?_
         refine Awp.consP C ?_
         refine rvP C (.pv (.lit (.int .i64 120))) ?_
         refine rvc_nil ?_
         refine Awp.ret ?_
         subst hR
         exact ⟨.inl rfl, rfl⟩
   ·
    replace hR := of_false h3 hR
    refine rvS ?_
    refine rvS ?_
    refine rvS ?_
    refine rvP C (.pv (.lit (.bool false))) ?_
    refine rvP C (.pv (.lit (.bool false))) ?_
    refine rvc_nil ?_
    refine Awp.seq ?_
    refine Awp.consP C ?_
    refine rvP C (.ptr 1 0) ?_
    refine rvP C (.pv (.lit (.int .i64 c.kind))) ?_
    refine rvc_nil ?_
    refine Awp.block ?_
    refine Awp.seq ?_
    refine Awp.consP C ?_
    refine rvP C (.pv (.lit (.bool (c.kind == 1)))) ?_
    refine rvP C (.pv (.lit (.bool (c.kind == 1)))) ?_
    refine rvc_nil ?_
    refine Awp.cond (b := (c.kind == 1)) rfl (fun h24 => ?_) (fun h24 => ?_)
    ·
     replace hR := of_true h24 hR
     refine Awp.skip ?_
     refine Awp.condT (b := (c.kind == 1)) rfl h24 ?_
     refine Awp.regionP C ?_
     refine rvP C (.pv (.lit (.bool false))) ?_
     refine rvP C (.pv (.lit (.bool false))) ?_
     refine rvS ?_
     refine rvP C (.pv (.lit (.bool false))) ?_
     refine rvP C (.pv (.lit (.bool false))) ?_
     refine rvS ?_
     refine rvS ?_
     refine rvS ?_
     refine rvP C (.pv (.lit (.bool false))) ?_
     refine rvP C (.pv (.lit (.bool false))) ?_
     refine rvc_nil ?_
     refine Awp.seq ?_
     refine Awp.consP C ?_
     refine rvP C (.pv (.lit (.bool false))) ?_
     refine rvP C (.pv (.lit (.bool true))) ?_
     refine rvc_nil ?_
     refine Awp.condT (b := true) rfl rfl ?_
     refine Awp.consP C ?_
     refine rvP C (.pv (.lit (.int .i64 120))) ?_
     refine rvc_nil ?_
     refine Awp.ret ?_
     subst hR
     exact ⟨.inl rfl, rfl⟩
    ·
     replace hR := of_false h24 hR
     refine Awp.consP C ?_
     refine rvP C (.pv (.lit (.bool (c.kind == 3)))) ?_
     refine rvP C (.pv (.lit (.bool (c.kind == 3)))) ?_
     refine rvc_nil ?_
     refine Awp.cond (b := (c.kind == 3)) rfl (fun h25 => ?_) (fun h25 => ?_)
     ·
      replace hR := of_true h25 hR
      refine Awp.skip ?_
      refine Awp.condT (b := (c.kind == 3)) rfl h25 ?_
      refine Awp.regionP C ?_
      refine rvP C (.pv (.lit (.bool false))) ?_
      refine rvP C (.pv (.lit (.bool false))) ?_
      refine rvS ?_
      refine rvP C (.pv (.lit (.bool false))) ?_
      refine rvP C (.pv (.lit (.bool false))) ?_
      refine rvS ?_
      refine rvS ?_
      refine rvS ?_
      refine rvP C (.pv (.lit (.bool false))) ?_
      refine rvP C (.pv (.lit (.bool false))) ?_
      refine rvc_nil ?_
      refine Awp.seq ?_
      refine Awp.consP C ?_
      refine rvP C (.pv (.lit (.bool false))) ?_
      refine rvP C (.pv (.lit (.bool true))) ?_
      refine rvc_nil ?_
      refine Awp.condT (b := true) rfl rfl ?_
      refine Awp.consP C ?_
      refine rvP C (.pv (.lit (.int .i64 120))) ?_
      refine rvc_nil ?_
      refine Awp.ret ?_
      subst hR
      exact ⟨.inl rfl, rfl⟩
     ·
      replace hR := of_false h25 hR
      refine Awp.regionP C ?_
      refine rvP C (.pv (.lit (.bool (c.kind == 4)))) ?_
      refine rvP C (.pv (.lit (.bool (c.kind == 4)))) ?_
      refine rvc_nil ?_
      refine Awp.cond (b := (c.kind == 4)) rfl (fun h26 => ?_) (fun h26 => ?_)
      ·
       replace hR := of_true h26 hR
       refine Awp.regionP C ?_
       refine rvP C (.pv (.lit (.bool false))) ?_
       refine rvP C (.pv (.lit (.bool false))) ?_
       refine rvS ?_
       refine rvP C (.pv (.lit (.bool false))) ?_
       refine rvP C (.pv (.lit (.bool false))) ?_
       refine rvS ?_
       refine rvS ?_
       refine rvS ?_
       refine rvP C (.pv (.lit (.bool false))) ?_
       refine rvP C (.pv (.lit (.bool false))) ?_
       refine rvc_nil ?_
       refine Awp.seq ?_
       refine Awp.consP C ?_
       refine rvP C (.pv (.lit (.bool false))) ?_
       refine rvP C (.pv (.lit (.bool true))) ?_
       refine rvc_nil ?_
       refine Awp.condT (b := true) rfl rfl ?_
       refine Awp.consP C ?_
       refine rvP C (.pv (.lit (.int .i64 120))) ?_
       refine rvc_nil ?_
       refine Awp.ret ?_
       subst hR
       exact ⟨.inl rfl, rfl⟩
      ·
       replace hR := of_false h26 hR
       refine Awp.consP C ?_
       refine rvP C (.pv (.lit (.bool (c.kind == 2)))) ?_
       refine rvP C (.pv (.lit (.bool (c.kind == 2)))) ?_
       refine rvc_nil ?_
       refine Awp.cond (b := (c.kind == 2)) rfl (fun h27 => ?_) (fun h27 => ?_)
       ·
        replace hR := of_true h27 hR
        refine Awp.regionP C ?_
        refine rvP C (.pv (.lit (.bool false))) ?_
        refine rvP C (.pv (.lit (.bool false))) ?_
        refine rvS ?_
        refine rvP C (.pv (.lit (.bool false))) ?_
        refine rvP C (.pv (.lit (.bool false))) ?_
        refine rvS ?_
        refine rvP C (.pv (.lit (.bool false))) ?_
        refine rvP C (.pv (.lit (.bool false))) ?_
        refine rvc_nil ?_
        refine Awp.seq ?_
        refine Awp.consP C ?_
        refine rvP C (.pv (.lit (.bool false))) ?_
        refine rvP C (.pv (.lit (.bool true))) ?_
        refine rvc_nil ?_
        refine Awp.condT (b := true) rfl rfl ?_
        refine Awp.consP C ?_
        refine rvP C (.pv (.lit (.int .i64 120))) ?_
        refine rvc_nil ?_
        refine Awp.ret ?_
        subst hR
        exact ⟨.inl rfl, rfl⟩
       ·
        replace hR := of_false h27 hR
        refine Awp.consP C ?_
        refine rvP C (.pv (.lit (.bool (c.kind == 5)))) ?_
        refine rvP C (.pv (.lit (.bool (c.kind == 5)))) ?_
        refine rvc_nil ?_
        refine Awp.cond (b := (c.kind == 5)) rfl (fun h28 => ?_) (fun h28 => ?_)
        ·
         replace hR := of_true h28 hR
         refine Awp.regionP C ?_
         refine rvP C (.pv (.lit (.bool false))) ?_
         refine rvP C (.pv (.lit (.bool false))) ?_
         refine rvS ?_
         refine rvP C (.pv (.lit (.bool false))) ?_
         refine rvP C (.pv (.lit (.bool false))) ?_
         refine rvS ?_
         refine rvS ?_
         refine rvS ?_
         refine rvP C (.pv (.lit (.bool false))) ?_
         refine rvP C (.pv (.lit (.bool false))) ?_
         refine rvc_nil ?_
         refine Awp.seq ?_
         refine Awp.consP C ?_
         refine rvP C (.pv (.lit (.bool false))) ?_
         refine rvP C (.pv (.lit (.bool true))) ?_
         refine rvc_nil ?_
         refine Awp.condT (b := true) rfl rfl ?_
         refine Awp.consP C ?_
         refine rvP C (.pv (.lit (.int .i64 120))) ?_
         refine rvc_nil ?_
         refine Awp.ret ?_
         subst hR
         exact ⟨.inl rfl, rfl⟩
        ·
         replace hR := of_false h28 hR
         refine Awp.regionP C ?_
         refine rvP C (.pv (.lit (.bool false))) ?_
         refine rvc_nil ?_
         refine Awp.seq ?_
         refine Awp.consP C ?_
         refine rvP C (.pv (.lit (.bool false))) ?_
         refine rvP C (.pv (.lit (.bool true))) ?_
         refine rvc_nil ?_
         refine Awp.condT (b := true) rfl rfl ?_
         refine Awp.consP C ?_
         refine rvP C (.pv (.lit (.int .i64 120))) ?_
         refine rvc_nil ?_
         refine Awp.ret ?_
         subst hR
         exact ⟨.inl rfl, rfl⟩
  ·
   replace hR := of_false h2 hR
   refine rvS ?_
   refine rvS ?_
   refine rvS ?_
   refine rvP C (.pv (.lit (.bool false))) ?_
   refine rvP C (.pv (.lit (.bool false))) ?_
   refine rvc_nil ?_
   refine Awp.consP C ?_
   refine rvP C (.ptr 1 3) ?_
   refine rvP C (.pv (.lit (.int .i64 c.epoch))) ?_
   refine rvP C (.pv (.lit (.bool (decide (c.epoch ≥ 1))))) ?_
   refine rvP C (.pv (.lit (.bool (decide (c.epoch ≥ 1))))) ?_
   refine rvc_case 25 (decide (c.epoch ≥ 1)) rfl (fun h29 => ?_) (fun h29 => ?_)
   ·
    replace hR := of_true h29 hR
    refine rvO C (.ptr 1 3) ?_
    refine rvO C (.pv (.lit (.int .i64 c.epoch))) ?_
    refine rvO C (.pv (.lit (.bool (decide (c.epoch ≤ 1099511627776))))) ?_
    refine rvP C (.pv (.lit (.bool (decide (c.epoch ≤ 1099511627776))))) ?_
    refine rvP C (.pv (.lit (.bool (decide (c.epoch ≤ 1099511627776))))) ?_
    refine rvc_nil ?_
    refine Awp.seq ?_
    refine Awp.consP C ?_
    refine rvP C (.ptr 1 0) ?_
    refine rvP C (.pv (.lit (.int .i64 c.kind))) ?_
    refine rvc_nil ?_
    refine Awp.block ?_
    refine Awp.seq ?_
    refine Awp.consP C ?_
    refine rvP C (.pv (.lit (.bool (c.kind == 1)))) ?_
    refine rvP C (.pv (.lit (.bool (c.kind == 1)))) ?_
    refine rvc_nil ?_
    refine Awp.cond (b := (c.kind == 1)) rfl (fun h30 => ?_) (fun h30 => ?_)
    ·
     replace hR := of_true h30 hR
     refine Awp.skip ?_
     refine Awp.condT (b := (c.kind == 1)) rfl h30 ?_
     refine Awp.regionP C ?_
     refine rvP C (.pv (.lit (.bool (decide (c.epoch ≤ 1099511627776))))) ?_
     refine rvP C (.pv (.lit (.bool (decide (c.epoch ≤ 1099511627776))))) ?_
     refine rvc_case 37 (decide (c.epoch ≤ 1099511627776)) rfl (fun h31 => ?_) (fun h31 => ?_)
     ·
      replace hR := of_true h31 hR
      refine rvO C (.pv (.lit (.bool (decide (c.node < 6))))) ?_
      refine rvP C (.pv (.lit (.bool (decide (c.node < 6))))) ?_
      refine rvP C (.pv (.lit (.bool (decide (c.node < 6))))) ?_
      refine rvc_case 40 (decide (c.node < 6)) rfl (fun h32 => ?_) (fun h32 => ?_)
      ·
       replace hR := of_true h32 hR
       refine rvO C (.ptr 1 2) ?_
       refine rvO C (.pv (.lit (.int .i64 c.site))) ?_
       refine rvO C (.pv (.lit (.bool (c.site == 0)))) ?_
       refine rvP C (.pv (.lit (.bool (c.site == 0)))) ?_
       refine rvP C (.pv (.lit (.bool (c.site == 0)))) ?_
       refine rvc_nil ?_
       refine Awp.seq ?_
       refine Awp.consP C ?_
       refine rvP C (.pv (.lit (.bool (c.site == 0)))) ?_
       refine rvP C (.pv (.lit (.bool (!(c.site == 0))))) ?_
       refine rvc_nil ?_
       refine Awp.cond (b := (!(c.site == 0))) rfl (fun h33 => ?_) (fun h33 => ?_)
       ·
        replace hR := of_true h33 hR
        refine Awp.consP C ?_
        refine rvP C (.pv (.lit (.int .i64 120))) ?_
        refine rvc_nil ?_
        refine Awp.ret ?_
        subst hR
        exact ⟨.inl rfl, rfl⟩
       ·
        replace hR := of_false h33 hR
        refine Awp.skip ?_
        refine Awp.consP C ?_
        refine rvP C (.pv (.lit (.int .i64 0))) ?_
        refine rvc_nil ?_
        refine Awp.ret ?_
        subst hR
        exact ⟨.inl rfl, rfl⟩
      ·
       replace hR := of_false h32 hR
       refine rvS ?_
       refine rvS ?_
       refine rvS ?_
       refine rvP C (.pv (.lit (.bool false))) ?_
       refine rvP C (.pv (.lit (.bool false))) ?_
       refine rvc_nil ?_
       refine Awp.seq ?_
       refine Awp.consP C ?_
       refine rvP C (.pv (.lit (.bool false))) ?_
       refine rvP C (.pv (.lit (.bool true))) ?_
       refine rvc_nil ?_
       refine Awp.condT (b := true) rfl rfl ?_
       refine Awp.consP C ?_
       refine rvP C (.pv (.lit (.int .i64 120))) ?_
       refine rvc_nil ?_
       refine Awp.ret ?_
       subst hR
       exact ⟨.inl rfl, rfl⟩
     ·
      replace hR := of_false h31 hR
      refine rvS ?_
      refine rvP C (.pv (.lit (.bool false))) ?_
      refine rvP C (.pv (.lit (.bool false))) ?_
      refine rvS ?_
      refine rvS ?_
      refine rvS ?_
      refine rvP C (.pv (.lit (.bool false))) ?_
      refine rvP C (.pv (.lit (.bool false))) ?_
      refine rvc_nil ?_
      refine Awp.seq ?_
      refine Awp.consP C ?_
      refine rvP C (.pv (.lit (.bool false))) ?_
      refine rvP C (.pv (.lit (.bool true))) ?_
      refine rvc_nil ?_
      refine Awp.condT (b := true) rfl rfl ?_
      refine Awp.consP C ?_
      refine rvP C (.pv (.lit (.int .i64 120))) ?_
      refine rvc_nil ?_
      refine Awp.ret ?_
      subst hR
      exact ⟨.inl rfl, rfl⟩
    ·
     replace hR := of_false h30 hR
     refine Awp.consP C ?_
     refine rvP C (.pv (.lit (.bool (c.kind == 3)))) ?_
     refine rvP C (.pv (.lit (.bool (c.kind == 3)))) ?_
     refine rvc_nil ?_
     refine Awp.cond (b := (c.kind == 3)) rfl (fun h34 => ?_) (fun h34 => ?_)
     ·
      replace hR := of_true h34 hR
      refine Awp.skip ?_
      refine Awp.condT (b := (c.kind == 3)) rfl h34 ?_
      refine Awp.regionP C ?_
      refine rvP C (.pv (.lit (.bool (decide (c.epoch ≤ 1099511627776))))) ?_
      refine rvP C (.pv (.lit (.bool (decide (c.epoch ≤ 1099511627776))))) ?_
      refine rvc_case 37 (decide (c.epoch ≤ 1099511627776)) rfl (fun h35 => ?_) (fun h35 => ?_)
      ·
       replace hR := of_true h35 hR
       refine rvO C (.pv (.lit (.bool (decide (c.node < 6))))) ?_
       refine rvP C (.pv (.lit (.bool (decide (c.node < 6))))) ?_
       refine rvP C (.pv (.lit (.bool (decide (c.node < 6))))) ?_
       refine rvc_case 40 (decide (c.node < 6)) rfl (fun h36 => ?_) (fun h36 => ?_)
       ·
        replace hR := of_true h36 hR
        refine rvO C (.ptr 1 2) ?_
        refine rvO C (.pv (.lit (.int .i64 c.site))) ?_
        refine rvO C (.pv (.lit (.bool (c.site == 0)))) ?_
        refine rvP C (.pv (.lit (.bool (c.site == 0)))) ?_
        refine rvP C (.pv (.lit (.bool (c.site == 0)))) ?_
        refine rvc_nil ?_
        refine Awp.seq ?_
        refine Awp.consP C ?_
        refine rvP C (.pv (.lit (.bool (c.site == 0)))) ?_
        refine rvP C (.pv (.lit (.bool (!(c.site == 0))))) ?_
        refine rvc_nil ?_
        refine Awp.cond (b := (!(c.site == 0))) rfl (fun h37 => ?_) (fun h37 => ?_)
        ·
         replace hR := of_true h37 hR
         refine Awp.consP C ?_
         refine rvP C (.pv (.lit (.int .i64 120))) ?_
         refine rvc_nil ?_
         refine Awp.ret ?_
         subst hR
         exact ⟨.inl rfl, rfl⟩
        ·
         replace hR := of_false h37 hR
         refine Awp.skip ?_
         refine Awp.consP C ?_
         refine rvP C (.pv (.lit (.int .i64 0))) ?_
         refine rvc_nil ?_
         refine Awp.ret ?_
         subst hR
         exact ⟨.inl rfl, rfl⟩
       ·
        replace hR := of_false h36 hR
        refine rvS ?_
        refine rvS ?_
        refine rvS ?_
        refine rvP C (.pv (.lit (.bool false))) ?_
        refine rvP C (.pv (.lit (.bool false))) ?_
        refine rvc_nil ?_
        refine Awp.seq ?_
        refine Awp.consP C ?_
        refine rvP C (.pv (.lit (.bool false))) ?_
        refine rvP C (.pv (.lit (.bool true))) ?_
        refine rvc_nil ?_
        refine Awp.condT (b := true) rfl rfl ?_
        refine Awp.consP C ?_
        refine rvP C (.pv (.lit (.int .i64 120))) ?_
        refine rvc_nil ?_
        refine Awp.ret ?_
        subst hR
        exact ⟨.inl rfl, rfl⟩
      ·
       replace hR := of_false h35 hR
       refine rvS ?_
       refine rvP C (.pv (.lit (.bool false))) ?_
       refine rvP C (.pv (.lit (.bool false))) ?_
       refine rvS ?_
       refine rvS ?_
       refine rvS ?_
       refine rvP C (.pv (.lit (.bool false))) ?_
       refine rvP C (.pv (.lit (.bool false))) ?_
       refine rvc_nil ?_
       refine Awp.seq ?_
       refine Awp.consP C ?_
       refine rvP C (.pv (.lit (.bool false))) ?_
       refine rvP C (.pv (.lit (.bool true))) ?_
       refine rvc_nil ?_
       refine Awp.condT (b := true) rfl rfl ?_
       refine Awp.consP C ?_
       refine rvP C (.pv (.lit (.int .i64 120))) ?_
       refine rvc_nil ?_
       refine Awp.ret ?_
       subst hR
       exact ⟨.inl rfl, rfl⟩
     ·
      replace hR := of_false h34 hR
      refine Awp.regionP C ?_
      refine rvP C (.pv (.lit (.bool (c.kind == 4)))) ?_
      refine rvP C (.pv (.lit (.bool (c.kind == 4)))) ?_
      refine rvc_nil ?_
      refine Awp.cond (b := (c.kind == 4)) rfl (fun h38 => ?_) (fun h38 => ?_)
      ·
       replace hR := of_true h38 hR
       refine Awp.regionP C ?_
       refine rvP C (.pv (.lit (.bool (decide (c.epoch ≤ 1099511627776))))) ?_
       refine rvP C (.pv (.lit (.bool (decide (c.epoch ≤ 1099511627776))))) ?_
       refine rvc_case 37 (decide (c.epoch ≤ 1099511627776)) rfl (fun h39 => ?_) (fun h39 => ?_)
       ·
        replace hR := of_true h39 hR
        refine rvO C (.pv (.lit (.bool (decide (c.node < 6))))) ?_
        refine rvP C (.pv (.lit (.bool (decide (c.node < 6))))) ?_
        refine rvP C (.pv (.lit (.bool (decide (c.node < 6))))) ?_
        refine rvc_case 40 (decide (c.node < 6)) rfl (fun h40 => ?_) (fun h40 => ?_)
        ·
         replace hR := of_true h40 hR
         refine rvO C (.ptr 1 2) ?_
         refine rvO C (.pv (.lit (.int .i64 c.site))) ?_
         refine rvO C (.pv (.lit (.bool (c.site == 0)))) ?_
         refine rvP C (.pv (.lit (.bool (c.site == 0)))) ?_
         refine rvP C (.pv (.lit (.bool (c.site == 0)))) ?_
         refine rvc_nil ?_
         refine Awp.seq ?_
         refine Awp.consP C ?_
         refine rvP C (.pv (.lit (.bool (c.site == 0)))) ?_
         refine rvP C (.pv (.lit (.bool (!(c.site == 0))))) ?_
         refine rvc_nil ?_
         refine Awp.cond (b := (!(c.site == 0))) rfl (fun h41 => ?_) (fun h41 => ?_)
         ·
          replace hR := of_true h41 hR
          refine Awp.consP C ?_
          refine rvP C (.pv (.lit (.int .i64 120))) ?_
          refine rvc_nil ?_
          refine Awp.ret ?_
          subst hR
          exact ⟨.inl rfl, rfl⟩
         ·
          replace hR := of_false h41 hR
          refine Awp.skip ?_
          refine Awp.consP C ?_
          refine rvP C (.pv (.lit (.int .i64 0))) ?_
          refine rvc_nil ?_
          refine Awp.ret ?_
          subst hR
          exact ⟨.inl rfl, rfl⟩
        ·
         replace hR := of_false h40 hR
         refine rvS ?_
         refine rvS ?_
         refine rvS ?_
         refine rvP C (.pv (.lit (.bool false))) ?_
         refine rvP C (.pv (.lit (.bool false))) ?_
         refine rvc_nil ?_
         refine Awp.seq ?_
         refine Awp.consP C ?_
         refine rvP C (.pv (.lit (.bool false))) ?_
         refine rvP C (.pv (.lit (.bool true))) ?_
         refine rvc_nil ?_
         refine Awp.condT (b := true) rfl rfl ?_
         refine Awp.consP C ?_
         refine rvP C (.pv (.lit (.int .i64 120))) ?_
         refine rvc_nil ?_
         refine Awp.ret ?_
         subst hR
         exact ⟨.inl rfl, rfl⟩
       ·
        replace hR := of_false h39 hR
        refine rvS ?_
        refine rvP C (.pv (.lit (.bool false))) ?_
        refine rvP C (.pv (.lit (.bool false))) ?_
        refine rvS ?_
        refine rvS ?_
        refine rvS ?_
        refine rvP C (.pv (.lit (.bool false))) ?_
        refine rvP C (.pv (.lit (.bool false))) ?_
        refine rvc_nil ?_
        refine Awp.seq ?_
        refine Awp.consP C ?_
        refine rvP C (.pv (.lit (.bool false))) ?_
        refine rvP C (.pv (.lit (.bool true))) ?_
        refine rvc_nil ?_
        refine Awp.condT (b := true) rfl rfl ?_
        refine Awp.consP C ?_
        refine rvP C (.pv (.lit (.int .i64 120))) ?_
        refine rvc_nil ?_
        refine Awp.ret ?_
        subst hR
        exact ⟨.inl rfl, rfl⟩
      ·
       replace hR := of_false h38 hR
       refine Awp.consP C ?_
       refine rvP C (.pv (.lit (.bool (c.kind == 2)))) ?_
       refine rvP C (.pv (.lit (.bool (c.kind == 2)))) ?_
       refine rvc_nil ?_
       refine Awp.cond (b := (c.kind == 2)) rfl (fun h42 => ?_) (fun h42 => ?_)
       ·
        replace hR := of_true h42 hR
        refine Awp.regionP C ?_
        refine rvP C (.pv (.lit (.bool (decide (c.epoch ≤ 1099511627776))))) ?_
        refine rvP C (.pv (.lit (.bool (decide (c.epoch ≤ 1099511627776))))) ?_
        refine rvc_case 48 (decide (c.epoch ≤ 1099511627776)) rfl (fun h43 => ?_) (fun h43 => ?_)
        ·
         replace hR := of_true h43 hR
         refine rvO C (.pv (.lit (.bool (decide (c.node < 6))))) ?_
         refine rvP C (.pv (.lit (.bool (decide (c.node < 6))))) ?_
         refine rvP C (.pv (.lit (.bool (decide (c.node < 6))))) ?_
         refine rvc_case 51 (decide (c.node < 6)) rfl (fun h44 => ?_) (fun h44 => ?_)
         ·
          replace hR := of_true h44 hR
          refine rvO C (.pv (.lit (.bool false))) ?_
          refine rvP C (.pv (.lit (.bool false))) ?_
          refine rvP C (.pv (.lit (.bool false))) ?_
          refine rvc_nil ?_
          refine Awp.seq ?_
          refine Awp.consP C ?_
          refine rvP C (.pv (.lit (.bool false))) ?_
          refine rvP C (.pv (.lit (.bool true))) ?_
          refine rvc_nil ?_
          refine Awp.condT (b := true) rfl rfl ?_
          refine Awp.consP C ?_
          refine rvP C (.pv (.lit (.int .i64 120))) ?_
          refine rvc_nil ?_
          refine Awp.ret ?_
          subst hR
          exact ⟨.inl rfl, rfl⟩
         ·
          replace hR := of_false h44 hR
          refine rvS ?_
          refine rvP C (.pv (.lit (.bool false))) ?_
          refine rvP C (.pv (.lit (.bool false))) ?_
          refine rvc_nil ?_
          refine Awp.seq ?_
          refine Awp.consP C ?_
          refine rvP C (.pv (.lit (.bool false))) ?_
          refine rvP C (.pv (.lit (.bool true))) ?_
          refine rvc_nil ?_
          refine Awp.condT (b := true) rfl rfl ?_
          refine Awp.consP C ?_
          refine rvP C (.pv (.lit (.int .i64 120))) ?_
          refine rvc_nil ?_
          refine Awp.ret ?_
          subst hR
          exact ⟨.inl rfl, rfl⟩
        ·
         replace hR := of_false h43 hR
         refine rvS ?_
         refine rvP C (.pv (.lit (.bool false))) ?_
         refine rvP C (.pv (.lit (.bool false))) ?_
         refine rvS ?_
         refine rvP C (.pv (.lit (.bool false))) ?_
         refine rvP C (.pv (.lit (.bool false))) ?_
         refine rvc_nil ?_
         refine Awp.seq ?_
         refine Awp.consP C ?_
         refine rvP C (.pv (.lit (.bool false))) ?_
         refine rvP C (.pv (.lit (.bool true))) ?_
         refine rvc_nil ?_
         refine Awp.condT (b := true) rfl rfl ?_
         refine Awp.consP C ?_
         refine rvP C (.pv (.lit (.int .i64 120))) ?_
         refine rvc_nil ?_
         refine Awp.ret ?_
         subst hR
         exact ⟨.inl rfl, rfl⟩
       ·
        replace hR := of_false h42 hR
        refine Awp.consP C ?_
        refine rvP C (.pv (.lit (.bool (c.kind == 5)))) ?_
        refine rvP C (.pv (.lit (.bool (c.kind == 5)))) ?_
        refine rvc_nil ?_
        refine Awp.cond (b := (c.kind == 5)) rfl (fun h45 => ?_) (fun h45 => ?_)
        ·
         replace hR := of_true h45 hR
         refine Awp.regionP C ?_
         refine rvP C (.pv (.lit (.bool (decide (c.epoch ≤ 1099511627776))))) ?_
         refine rvP C (.pv (.lit (.bool (decide (c.epoch ≤ 1099511627776))))) ?_
         refine rvc_case 57 (decide (c.epoch ≤ 1099511627776)) rfl (fun h46 => ?_) (fun h46 => ?_)
         ·
          replace hR := of_true h46 hR
          refine rvO C (.pv (.lit (.bool false))) ?_
          refine rvP C (.pv (.lit (.bool false))) ?_
          refine rvP C (.pv (.lit (.bool false))) ?_
          refine rvS ?_
          refine rvS ?_
          refine rvS ?_
          refine rvP C (.pv (.lit (.bool false))) ?_
          refine rvP C (.pv (.lit (.bool false))) ?_
          refine rvc_nil ?_
          refine Awp.seq ?_
          refine Awp.consP C ?_
          refine rvP C (.pv (.lit (.bool false))) ?_
          refine rvP C (.pv (.lit (.bool true))) ?_
          refine rvc_nil ?_
          refine Awp.condT (b := true) rfl rfl ?_
          refine Awp.consP C ?_
          refine rvP C (.pv (.lit (.int .i64 120))) ?_
          refine rvc_nil ?_
          refine Awp.ret ?_
          subst hR
          exact ⟨.inl rfl, rfl⟩
         ·
          replace hR := of_false h46 hR
          refine rvS ?_
          refine rvP C (.pv (.lit (.bool false))) ?_
          refine rvP C (.pv (.lit (.bool false))) ?_
          refine rvS ?_
          refine rvS ?_
          refine rvS ?_
          refine rvP C (.pv (.lit (.bool false))) ?_
          refine rvP C (.pv (.lit (.bool false))) ?_
          refine rvc_nil ?_
          refine Awp.seq ?_
          refine Awp.consP C ?_
          refine rvP C (.pv (.lit (.bool false))) ?_
          refine rvP C (.pv (.lit (.bool true))) ?_
          refine rvc_nil ?_
          refine Awp.condT (b := true) rfl rfl ?_
          refine Awp.consP C ?_
          refine rvP C (.pv (.lit (.int .i64 120))) ?_
          refine rvc_nil ?_
          refine Awp.ret ?_
          subst hR
          exact ⟨.inl rfl, rfl⟩
        ·
         replace hR := of_false h45 hR
         refine Awp.regionP C ?_
         refine rvP C (.pv (.lit (.bool false))) ?_
         refine rvc_nil ?_
         refine Awp.seq ?_
         refine Awp.consP C ?_
         refine rvP C (.pv (.lit (.bool false))) ?_
         refine rvP C (.pv (.lit (.bool true))) ?_
         refine rvc_nil ?_
         refine Awp.condT (b := true) rfl rfl ?_
         refine Awp.consP C ?_
         refine rvP C (.pv (.lit (.int .i64 120))) ?_
         refine rvc_nil ?_
         refine Awp.ret ?_
         subst hR
         exact ⟨.inl rfl, rfl⟩
   ·
    replace hR := of_false h29 hR
    refine rvS ?_
    refine rvS ?_
    refine rvS ?_
    refine rvP C (.pv (.lit (.bool false))) ?_
    refine rvP C (.pv (.lit (.bool false))) ?_
    refine rvc_nil ?_
    refine Awp.seq ?_
    refine Awp.consP C ?_
    refine rvP C (.ptr 1 0) ?_
    refine rvP C (.pv (.lit (.int .i64 c.kind))) ?_
    refine rvc_nil ?_
    refine Awp.block ?_
    refine Awp.seq ?_
    refine Awp.consP C ?_
    refine rvP C (.pv (.lit (.bool (c.kind == 1)))) ?_
    refine rvP C (.pv (.lit (.bool (c.kind == 1)))) ?_
    refine rvc_nil ?_
    refine Awp.cond (b := (c.kind == 1)) rfl (fun h47 => ?_) (fun h47 => ?_)
    ·
     replace hR := of_true h47 hR
     refine Awp.skip ?_
     refine Awp.condT (b := (c.kind == 1)) rfl h47 ?_
     refine Awp.regionP C ?_
     refine rvP C (.pv (.lit (.bool false))) ?_
     refine rvP C (.pv (.lit (.bool false))) ?_
     refine rvS ?_
     refine rvP C (.pv (.lit (.bool false))) ?_
     refine rvP C (.pv (.lit (.bool false))) ?_
     refine rvS ?_
     refine rvS ?_
     refine rvS ?_
     refine rvP C (.pv (.lit (.bool false))) ?_
     refine rvP C (.pv (.lit (.bool false))) ?_
     refine rvc_nil ?_
     refine Awp.seq ?_
     refine Awp.consP C ?_
     refine rvP C (.pv (.lit (.bool false))) ?_
     refine rvP C (.pv (.lit (.bool true))) ?_
     refine rvc_nil ?_
     refine Awp.condT (b := true) rfl rfl ?_
     refine Awp.consP C ?_
     refine rvP C (.pv (.lit (.int .i64 120))) ?_
     refine rvc_nil ?_
     refine Awp.ret ?_
     subst hR
     exact ⟨.inl rfl, rfl⟩
    ·
     replace hR := of_false h47 hR
     refine Awp.consP C ?_
     refine rvP C (.pv (.lit (.bool (c.kind == 3)))) ?_
     refine rvP C (.pv (.lit (.bool (c.kind == 3)))) ?_
     refine rvc_nil ?_
     refine Awp.cond (b := (c.kind == 3)) rfl (fun h48 => ?_) (fun h48 => ?_)
     ·
      replace hR := of_true h48 hR
      refine Awp.skip ?_
      refine Awp.condT (b := (c.kind == 3)) rfl h48 ?_
      refine Awp.regionP C ?_
      refine rvP C (.pv (.lit (.bool false))) ?_
      refine rvP C (.pv (.lit (.bool false))) ?_
      refine rvS ?_
      refine rvP C (.pv (.lit (.bool false))) ?_
      refine rvP C (.pv (.lit (.bool false))) ?_
      refine rvS ?_
      refine rvS ?_
      refine rvS ?_
      refine rvP C (.pv (.lit (.bool false))) ?_
      refine rvP C (.pv (.lit (.bool false))) ?_
      refine rvc_nil ?_
      refine Awp.seq ?_
      refine Awp.consP C ?_
      refine rvP C (.pv (.lit (.bool false))) ?_
      refine rvP C (.pv (.lit (.bool true))) ?_
      refine rvc_nil ?_
      refine Awp.condT (b := true) rfl rfl ?_
      refine Awp.consP C ?_
      refine rvP C (.pv (.lit (.int .i64 120))) ?_
      refine rvc_nil ?_
      refine Awp.ret ?_
      subst hR
      exact ⟨.inl rfl, rfl⟩
     ·
      replace hR := of_false h48 hR
      refine Awp.regionP C ?_
      refine rvP C (.pv (.lit (.bool (c.kind == 4)))) ?_
      refine rvP C (.pv (.lit (.bool (c.kind == 4)))) ?_
      refine rvc_nil ?_
      refine Awp.cond (b := (c.kind == 4)) rfl (fun h49 => ?_) (fun h49 => ?_)
      ·
       replace hR := of_true h49 hR
       refine Awp.regionP C ?_
       refine rvP C (.pv (.lit (.bool false))) ?_
       refine rvP C (.pv (.lit (.bool false))) ?_
       refine rvS ?_
       refine rvP C (.pv (.lit (.bool false))) ?_
       refine rvP C (.pv (.lit (.bool false))) ?_
       refine rvS ?_
       refine rvS ?_
       refine rvS ?_
       refine rvP C (.pv (.lit (.bool false))) ?_
       refine rvP C (.pv (.lit (.bool false))) ?_
       refine rvc_nil ?_
       refine Awp.seq ?_
       refine Awp.consP C ?_
       refine rvP C (.pv (.lit (.bool false))) ?_
       refine rvP C (.pv (.lit (.bool true))) ?_
       refine rvc_nil ?_
       refine Awp.condT (b := true) rfl rfl ?_
       refine Awp.consP C ?_
       refine rvP C (.pv (.lit (.int .i64 120))) ?_
       refine rvc_nil ?_
       refine Awp.ret ?_
       subst hR
       exact ⟨.inl rfl, rfl⟩
      ·
       replace hR := of_false h49 hR
       refine Awp.consP C ?_
       refine rvP C (.pv (.lit (.bool (c.kind == 2)))) ?_
       refine rvP C (.pv (.lit (.bool (c.kind == 2)))) ?_
       refine rvc_nil ?_
       refine Awp.cond (b := (c.kind == 2)) rfl (fun h50 => ?_) (fun h50 => ?_)
       ·
        replace hR := of_true h50 hR
        refine Awp.regionP C ?_
        refine rvP C (.pv (.lit (.bool false))) ?_
        refine rvP C (.pv (.lit (.bool false))) ?_
        refine rvS ?_
        refine rvP C (.pv (.lit (.bool false))) ?_
        refine rvP C (.pv (.lit (.bool false))) ?_
        refine rvS ?_
        refine rvP C (.pv (.lit (.bool false))) ?_
        refine rvP C (.pv (.lit (.bool false))) ?_
        refine rvc_nil ?_
        refine Awp.seq ?_
        refine Awp.consP C ?_
        refine rvP C (.pv (.lit (.bool false))) ?_
        refine rvP C (.pv (.lit (.bool true))) ?_
        refine rvc_nil ?_
        refine Awp.condT (b := true) rfl rfl ?_
        refine Awp.consP C ?_
        refine rvP C (.pv (.lit (.int .i64 120))) ?_
        refine rvc_nil ?_
        refine Awp.ret ?_
        subst hR
        exact ⟨.inl rfl, rfl⟩
       ·
        replace hR := of_false h50 hR
        refine Awp.consP C ?_
        refine rvP C (.pv (.lit (.bool (c.kind == 5)))) ?_
        refine rvP C (.pv (.lit (.bool (c.kind == 5)))) ?_
        refine rvc_nil ?_
        refine Awp.cond (b := (c.kind == 5)) rfl (fun h51 => ?_) (fun h51 => ?_)
        ·
         replace hR := of_true h51 hR
         refine Awp.regionP C ?_
         refine rvP C (.pv (.lit (.bool false))) ?_
         refine rvP C (.pv (.lit (.bool false))) ?_
         refine rvS ?_
         refine rvP C (.pv (.lit (.bool false))) ?_
         refine rvP C (.pv (.lit (.bool false))) ?_
         refine rvS ?_
         refine rvS ?_
         refine rvS ?_
         refine rvP C (.pv (.lit (.bool false))) ?_
         refine rvP C (.pv (.lit (.bool false))) ?_
         refine rvc_nil ?_
         refine Awp.seq ?_
         refine Awp.consP C ?_
         refine rvP C (.pv (.lit (.bool false))) ?_
         refine rvP C (.pv (.lit (.bool true))) ?_
         refine rvc_nil ?_
         refine Awp.condT (b := true) rfl rfl ?_
         refine Awp.consP C ?_
         refine rvP C (.pv (.lit (.int .i64 120))) ?_
         refine rvc_nil ?_
         refine Awp.ret ?_
         subst hR
         exact ⟨.inl rfl, rfl⟩
        ·
         replace hR := of_false h51 hR
         refine Awp.regionP C ?_
         refine rvP C (.pv (.lit (.bool false))) ?_
         refine rvc_nil ?_
         refine Awp.seq ?_
         refine Awp.consP C ?_
         refine rvP C (.pv (.lit (.bool false))) ?_
         refine rvP C (.pv (.lit (.bool true))) ?_
         refine rvc_nil ?_
         refine Awp.condT (b := true) rfl rfl ?_
         refine Awp.consP C ?_
         refine rvP C (.pv (.lit (.int .i64 120))) ?_
         refine rvc_nil ?_
         refine Awp.ret ?_
         subst hR
         exact ⟨.inl rfl, rfl⟩
 ·
  replace hR := of_false h1 hR
  refine rvS ?_
  refine rvS ?_
  refine rvS ?_
  refine rvP C (.pv (.lit (.bool false))) ?_
  refine rvP C (.pv (.lit (.bool false))) ?_
  refine rvc_nil ?_
  refine Awp.consP C ?_
  refine rvP C (.ptr 1 2) ?_
  refine rvP C (.pv (.lit (.int .i64 c.site))) ?_
  refine rvP C (.pv (.lit (.bool (decide (c.site ≥ 0))))) ?_
  refine rvP C (.pv (.lit (.bool (decide (c.site ≥ 0))))) ?_
  refine rvc_case 17 (decide (c.site ≥ 0)) rfl (fun h52 => ?_) (fun h52 => ?_)
  ·
   replace hR := of_true h52 hR
   refine rvO C (.ptr 1 2) ?_
   refine rvO C (.pv (.lit (.int .i64 c.site))) ?_
   refine rvO C (.pv (.lit (.bool (decide (c.site < 3))))) ?_
   refine rvP C (.pv (.lit (.bool (decide (c.site < 3))))) ?_
   refine rvP C (.pv (.lit (.bool (decide (c.site < 3))))) ?_
   refine rvc_nil ?_
   refine Awp.consP C ?_
   refine rvP C (.ptr 1 3) ?_
   refine rvP C (.pv (.lit (.int .i64 c.epoch))) ?_
   refine rvP C (.pv (.lit (.bool (decide (c.epoch ≥ 1))))) ?_
   refine rvP C (.pv (.lit (.bool (decide (c.epoch ≥ 1))))) ?_
   refine rvc_case 25 (decide (c.epoch ≥ 1)) rfl (fun h53 => ?_) (fun h53 => ?_)
   ·
    replace hR := of_true h53 hR
    refine rvO C (.ptr 1 3) ?_
    refine rvO C (.pv (.lit (.int .i64 c.epoch))) ?_
    refine rvO C (.pv (.lit (.bool (decide (c.epoch ≤ 1099511627776))))) ?_
    refine rvP C (.pv (.lit (.bool (decide (c.epoch ≤ 1099511627776))))) ?_
    refine rvP C (.pv (.lit (.bool (decide (c.epoch ≤ 1099511627776))))) ?_
    refine rvc_nil ?_
    refine Awp.seq ?_
    refine Awp.consP C ?_
    refine rvP C (.ptr 1 0) ?_
    refine rvP C (.pv (.lit (.int .i64 c.kind))) ?_
    refine rvc_nil ?_
    refine Awp.block ?_
    refine Awp.seq ?_
    refine Awp.consP C ?_
    refine rvP C (.pv (.lit (.bool (c.kind == 1)))) ?_
    refine rvP C (.pv (.lit (.bool (c.kind == 1)))) ?_
    refine rvc_nil ?_
    refine Awp.cond (b := (c.kind == 1)) rfl (fun h54 => ?_) (fun h54 => ?_)
    ·
     replace hR := of_true h54 hR
     refine Awp.skip ?_
     refine Awp.condT (b := (c.kind == 1)) rfl h54 ?_
     refine Awp.regionP C ?_
     refine rvP C (.pv (.lit (.bool (decide (c.epoch ≤ 1099511627776))))) ?_
     refine rvP C (.pv (.lit (.bool (decide (c.epoch ≤ 1099511627776))))) ?_
     refine rvc_case 37 (decide (c.epoch ≤ 1099511627776)) rfl (fun h55 => ?_) (fun h55 => ?_)
     ·
      replace hR := of_true h55 hR
      refine rvO C (.pv (.lit (.bool false))) ?_
      refine rvP C (.pv (.lit (.bool false))) ?_
      refine rvP C (.pv (.lit (.bool false))) ?_
      refine rvS ?_
      refine rvS ?_
      refine rvS ?_
      refine rvP C (.pv (.lit (.bool false))) ?_
      refine rvP C (.pv (.lit (.bool false))) ?_
      refine rvc_nil ?_
      refine Awp.seq ?_
      refine Awp.consP C ?_
      refine rvP C (.pv (.lit (.bool false))) ?_
      refine rvP C (.pv (.lit (.bool true))) ?_
      refine rvc_nil ?_
      refine Awp.condT (b := true) rfl rfl ?_
      refine Awp.consP C ?_
      refine rvP C (.pv (.lit (.int .i64 120))) ?_
      refine rvc_nil ?_
      refine Awp.ret ?_
      subst hR
      exact ⟨.inl rfl, rfl⟩
     ·
      replace hR := of_false h55 hR
      refine rvS ?_
      refine rvP C (.pv (.lit (.bool false))) ?_
      refine rvP C (.pv (.lit (.bool false))) ?_
      refine rvS ?_
      refine rvS ?_
      refine rvS ?_
      refine rvP C (.pv (.lit (.bool false))) ?_
      refine rvP C (.pv (.lit (.bool false))) ?_
      refine rvc_nil ?_
      refine Awp.seq ?_
      refine Awp.consP C ?_
      refine rvP C (.pv (.lit (.bool false))) ?_
      refine rvP C (.pv (.lit (.bool true))) ?_
      refine rvc_nil ?_
      refine Awp.condT (b := true) rfl rfl ?_
      refine Awp.consP C ?_
      refine rvP C (.pv (.lit (.int .i64 120))) ?_
      refine rvc_nil ?_
      refine Awp.ret ?_
      subst hR
      exact ⟨.inl rfl, rfl⟩
    ·
     replace hR := of_false h54 hR
     refine Awp.consP C ?_
     refine rvP C (.pv (.lit (.bool (c.kind == 3)))) ?_
     refine rvP C (.pv (.lit (.bool (c.kind == 3)))) ?_
     refine rvc_nil ?_
     refine Awp.cond (b := (c.kind == 3)) rfl (fun h56 => ?_) (fun h56 => ?_)
     ·
      replace hR := of_true h56 hR
      refine Awp.skip ?_
      refine Awp.condT (b := (c.kind == 3)) rfl h56 ?_
      refine Awp.regionP C ?_
      refine rvP C (.pv (.lit (.bool (decide (c.epoch ≤ 1099511627776))))) ?_
      refine rvP C (.pv (.lit (.bool (decide (c.epoch ≤ 1099511627776))))) ?_
      refine rvc_case 37 (decide (c.epoch ≤ 1099511627776)) rfl (fun h57 => ?_) (fun h57 => ?_)
      ·
       replace hR := of_true h57 hR
       refine rvO C (.pv (.lit (.bool false))) ?_
       refine rvP C (.pv (.lit (.bool false))) ?_
       refine rvP C (.pv (.lit (.bool false))) ?_
       refine rvS ?_
       refine rvS ?_
       refine rvS ?_
       refine rvP C (.pv (.lit (.bool false))) ?_
       refine rvP C (.pv (.lit (.bool false))) ?_
       refine rvc_nil ?_
       refine Awp.seq ?_
       refine Awp.consP C ?_
       refine rvP C (.pv (.lit (.bool false))) ?_
       refine rvP C (.pv (.lit (.bool true))) ?_
       refine rvc_nil ?_
       refine Awp.condT (b := true) rfl rfl ?_
       refine Awp.consP C ?_
       refine rvP C (.pv (.lit (.int .i64 120))) ?_
       refine rvc_nil ?_
       refine Awp.ret ?_
       subst hR
       exact ⟨.inl rfl, rfl⟩
      ·
       replace hR := of_false h57 hR
       refine rvS ?_
       refine rvP C (.pv (.lit (.bool false))) ?_
       refine rvP C (.pv (.lit (.bool false))) ?_
       refine rvS ?_
       refine rvS ?_
       refine rvS ?_
       refine rvP C (.pv (.lit (.bool false))) ?_
       refine rvP C (.pv (.lit (.bool false))) ?_
       refine rvc_nil ?_
       refine Awp.seq ?_
       refine Awp.consP C ?_
       refine rvP C (.pv (.lit (.bool false))) ?_
       refine rvP C (.pv (.lit (.bool true))) ?_
       refine rvc_nil ?_
       refine Awp.condT (b := true) rfl rfl ?_
       refine Awp.consP C ?_
       refine rvP C (.pv (.lit (.int .i64 120))) ?_
       refine rvc_nil ?_
       refine Awp.ret ?_
       subst hR
       exact ⟨.inl rfl, rfl⟩
     ·
      replace hR := of_false h56 hR
      refine Awp.regionP C ?_
      refine rvP C (.pv (.lit (.bool (c.kind == 4)))) ?_
      refine rvP C (.pv (.lit (.bool (c.kind == 4)))) ?_
      refine rvc_nil ?_
      refine Awp.cond (b := (c.kind == 4)) rfl (fun h58 => ?_) (fun h58 => ?_)
      ·
       replace hR := of_true h58 hR
       refine Awp.regionP C ?_
       refine rvP C (.pv (.lit (.bool (decide (c.epoch ≤ 1099511627776))))) ?_
       refine rvP C (.pv (.lit (.bool (decide (c.epoch ≤ 1099511627776))))) ?_
       refine rvc_case 37 (decide (c.epoch ≤ 1099511627776)) rfl (fun h59 => ?_) (fun h59 => ?_)
       ·
        replace hR := of_true h59 hR
        refine rvO C (.pv (.lit (.bool false))) ?_
        refine rvP C (.pv (.lit (.bool false))) ?_
        refine rvP C (.pv (.lit (.bool false))) ?_
        refine rvS ?_
        refine rvS ?_
        refine rvS ?_
        refine rvP C (.pv (.lit (.bool false))) ?_
        refine rvP C (.pv (.lit (.bool false))) ?_
        refine rvc_nil ?_
        refine Awp.seq ?_
        refine Awp.consP C ?_
        refine rvP C (.pv (.lit (.bool false))) ?_
        refine rvP C (.pv (.lit (.bool true))) ?_
        refine rvc_nil ?_
        refine Awp.condT (b := true) rfl rfl ?_
        refine Awp.consP C ?_
        refine rvP C (.pv (.lit (.int .i64 120))) ?_
        refine rvc_nil ?_
        refine Awp.ret ?_
        subst hR
        exact ⟨.inl rfl, rfl⟩
       ·
        replace hR := of_false h59 hR
        refine rvS ?_
        refine rvP C (.pv (.lit (.bool false))) ?_
        refine rvP C (.pv (.lit (.bool false))) ?_
        refine rvS ?_
        refine rvS ?_
        refine rvS ?_
        refine rvP C (.pv (.lit (.bool false))) ?_
        refine rvP C (.pv (.lit (.bool false))) ?_
        refine rvc_nil ?_
        refine Awp.seq ?_
        refine Awp.consP C ?_
        refine rvP C (.pv (.lit (.bool false))) ?_
        refine rvP C (.pv (.lit (.bool true))) ?_
        refine rvc_nil ?_
        refine Awp.condT (b := true) rfl rfl ?_
        refine Awp.consP C ?_
        refine rvP C (.pv (.lit (.int .i64 120))) ?_
        refine rvc_nil ?_
        refine Awp.ret ?_
        subst hR
        exact ⟨.inl rfl, rfl⟩
      ·
       replace hR := of_false h58 hR
       refine Awp.consP C ?_
       refine rvP C (.pv (.lit (.bool (c.kind == 2)))) ?_
       refine rvP C (.pv (.lit (.bool (c.kind == 2)))) ?_
       refine rvc_nil ?_
       refine Awp.cond (b := (c.kind == 2)) rfl (fun h60 => ?_) (fun h60 => ?_)
       ·
        replace hR := of_true h60 hR
        refine Awp.regionP C ?_
        refine rvP C (.pv (.lit (.bool (decide (c.epoch ≤ 1099511627776))))) ?_
        refine rvP C (.pv (.lit (.bool (decide (c.epoch ≤ 1099511627776))))) ?_
        refine rvc_case 48 (decide (c.epoch ≤ 1099511627776)) rfl (fun h61 => ?_) (fun h61 => ?_)
        ·
         replace hR := of_true h61 hR
         refine rvO C (.pv (.lit (.bool false))) ?_
         refine rvP C (.pv (.lit (.bool false))) ?_
         refine rvP C (.pv (.lit (.bool false))) ?_
         refine rvS ?_
         refine rvP C (.pv (.lit (.bool false))) ?_
         refine rvP C (.pv (.lit (.bool false))) ?_
         refine rvc_nil ?_
         refine Awp.seq ?_
         refine Awp.consP C ?_
         refine rvP C (.pv (.lit (.bool false))) ?_
         refine rvP C (.pv (.lit (.bool true))) ?_
         refine rvc_nil ?_
         refine Awp.condT (b := true) rfl rfl ?_
         refine Awp.consP C ?_
         refine rvP C (.pv (.lit (.int .i64 120))) ?_
         refine rvc_nil ?_
         refine Awp.ret ?_
         subst hR
         exact ⟨.inl rfl, rfl⟩
        ·
         replace hR := of_false h61 hR
         refine rvS ?_
         refine rvP C (.pv (.lit (.bool false))) ?_
         refine rvP C (.pv (.lit (.bool false))) ?_
         refine rvS ?_
         refine rvP C (.pv (.lit (.bool false))) ?_
         refine rvP C (.pv (.lit (.bool false))) ?_
         refine rvc_nil ?_
         refine Awp.seq ?_
         refine Awp.consP C ?_
         refine rvP C (.pv (.lit (.bool false))) ?_
         refine rvP C (.pv (.lit (.bool true))) ?_
         refine rvc_nil ?_
         refine Awp.condT (b := true) rfl rfl ?_
         refine Awp.consP C ?_
         refine rvP C (.pv (.lit (.int .i64 120))) ?_
         refine rvc_nil ?_
         refine Awp.ret ?_
         subst hR
         exact ⟨.inl rfl, rfl⟩
       ·
        replace hR := of_false h60 hR
        refine Awp.consP C ?_
        refine rvP C (.pv (.lit (.bool (c.kind == 5)))) ?_
        refine rvP C (.pv (.lit (.bool (c.kind == 5)))) ?_
        refine rvc_nil ?_
        refine Awp.cond (b := (c.kind == 5)) rfl (fun h62 => ?_) (fun h62 => ?_)
        ·
         replace hR := of_true h62 hR
         refine Awp.regionP C ?_
         refine rvP C (.pv (.lit (.bool (decide (c.epoch ≤ 1099511627776))))) ?_
         refine rvP C (.pv (.lit (.bool (decide (c.epoch ≤ 1099511627776))))) ?_
         refine rvc_case 57 (decide (c.epoch ≤ 1099511627776)) rfl (fun h63 => ?_) (fun h63 => ?_)
         ·
          replace hR := of_true h63 hR
          refine rvO C (.pv (.lit (.bool (decide (c.site < 3))))) ?_
          refine rvP C (.pv (.lit (.bool (decide (c.site < 3))))) ?_
          refine rvP C (.pv (.lit (.bool (decide (c.site < 3))))) ?_
          refine rvc_case 60 (decide (c.site < 3)) rfl (fun h64 => ?_) (fun h64 => ?_)
          ·
           replace hR := of_true h64 hR
           refine rvO C (.ptr 1 1) ?_
           refine rvO C (.pv (.lit (.int .i64 c.node))) ?_
           refine rvO C (.pv (.lit (.bool (c.node == 0)))) ?_
           refine rvP C (.pv (.lit (.bool (c.node == 0)))) ?_
           refine rvP C (.pv (.lit (.bool (c.node == 0)))) ?_
           refine rvc_nil ?_
           refine Awp.seq ?_
           refine Awp.consP C ?_
           refine rvP C (.pv (.lit (.bool (c.node == 0)))) ?_
           refine rvP C (.pv (.lit (.bool (!(c.node == 0))))) ?_
           refine rvc_nil ?_
           refine Awp.cond (b := (!(c.node == 0))) rfl (fun h65 => ?_) (fun h65 => ?_)
           ·
            replace hR := of_true h65 hR
            refine Awp.consP C ?_
            refine rvP C (.pv (.lit (.int .i64 120))) ?_
            refine rvc_nil ?_
            refine Awp.ret ?_
            subst hR
            exact ⟨.inl rfl, rfl⟩
           ·
            replace hR := of_false h65 hR
            refine Awp.skip ?_
            refine Awp.consP C ?_
            refine rvP C (.pv (.lit (.int .i64 0))) ?_
            refine rvc_nil ?_
            refine Awp.ret ?_
            subst hR
            exact ⟨.inl rfl, rfl⟩
          ·
           replace hR := of_false h64 hR
           refine rvS ?_
           refine rvS ?_
           refine rvS ?_
           refine rvP C (.pv (.lit (.bool false))) ?_
           refine rvP C (.pv (.lit (.bool false))) ?_
           refine rvc_nil ?_
           refine Awp.seq ?_
           refine Awp.consP C ?_
           refine rvP C (.pv (.lit (.bool false))) ?_
           refine rvP C (.pv (.lit (.bool true))) ?_
           refine rvc_nil ?_
           refine Awp.condT (b := true) rfl rfl ?_
           refine Awp.consP C ?_
           refine rvP C (.pv (.lit (.int .i64 120))) ?_
           refine rvc_nil ?_
           refine Awp.ret ?_
           subst hR
           exact ⟨.inl rfl, rfl⟩
         ·
          replace hR := of_false h63 hR
          refine rvS ?_
          refine rvP C (.pv (.lit (.bool false))) ?_
          refine rvP C (.pv (.lit (.bool false))) ?_
          refine rvS ?_
          refine rvS ?_
          refine rvS ?_
          refine rvP C (.pv (.lit (.bool false))) ?_
          refine rvP C (.pv (.lit (.bool false))) ?_
          refine rvc_nil ?_
          refine Awp.seq ?_
          refine Awp.consP C ?_
          refine rvP C (.pv (.lit (.bool false))) ?_
          refine rvP C (.pv (.lit (.bool true))) ?_
          refine rvc_nil ?_
          refine Awp.condT (b := true) rfl rfl ?_
          refine Awp.consP C ?_
          refine rvP C (.pv (.lit (.int .i64 120))) ?_
          refine rvc_nil ?_
          refine Awp.ret ?_
          subst hR
          exact ⟨.inl rfl, rfl⟩
        ·
         replace hR := of_false h62 hR
         refine Awp.regionP C ?_
         refine rvP C (.pv (.lit (.bool false))) ?_
         refine rvc_nil ?_
         refine Awp.seq ?_
         refine Awp.consP C ?_
         refine rvP C (.pv (.lit (.bool false))) ?_
         refine rvP C (.pv (.lit (.bool true))) ?_
         refine rvc_nil ?_
         refine Awp.condT (b := true) rfl rfl ?_
         refine Awp.consP C ?_
         refine rvP C (.pv (.lit (.int .i64 120))) ?_
         refine rvc_nil ?_
         refine Awp.ret ?_
         subst hR
         exact ⟨.inl rfl, rfl⟩
   ·
    replace hR := of_false h53 hR
    refine rvS ?_
    refine rvS ?_
    refine rvS ?_
    refine rvP C (.pv (.lit (.bool false))) ?_
    refine rvP C (.pv (.lit (.bool false))) ?_
    refine rvc_nil ?_
    refine Awp.seq ?_
    refine Awp.consP C ?_
    refine rvP C (.ptr 1 0) ?_
    refine rvP C (.pv (.lit (.int .i64 c.kind))) ?_
    refine rvc_nil ?_
    refine Awp.block ?_
    refine Awp.seq ?_
    refine Awp.consP C ?_
    refine rvP C (.pv (.lit (.bool (c.kind == 1)))) ?_
    refine rvP C (.pv (.lit (.bool (c.kind == 1)))) ?_
    refine rvc_nil ?_
    refine Awp.cond (b := (c.kind == 1)) rfl (fun h66 => ?_) (fun h66 => ?_)
    ·
     replace hR := of_true h66 hR
     refine Awp.skip ?_
     refine Awp.condT (b := (c.kind == 1)) rfl h66 ?_
     refine Awp.regionP C ?_
     refine rvP C (.pv (.lit (.bool false))) ?_
     refine rvP C (.pv (.lit (.bool false))) ?_
     refine rvS ?_
     refine rvP C (.pv (.lit (.bool false))) ?_
     refine rvP C (.pv (.lit (.bool false))) ?_
     refine rvS ?_
     refine rvS ?_
     refine rvS ?_
     refine rvP C (.pv (.lit (.bool false))) ?_
     refine rvP C (.pv (.lit (.bool false))) ?_
     refine rvc_nil ?_
     refine Awp.seq ?_
     refine Awp.consP C ?_
     refine rvP C (.pv (.lit (.bool false))) ?_
     refine rvP C (.pv (.lit (.bool true))) ?_
     refine rvc_nil ?_
     refine Awp.condT (b := true) rfl rfl ?_
     refine Awp.consP C ?_
     refine rvP C (.pv (.lit (.int .i64 120))) ?_
     refine rvc_nil ?_
     refine Awp.ret ?_
     subst hR
     exact ⟨.inl rfl, rfl⟩
    ·
     replace hR := of_false h66 hR
     refine Awp.consP C ?_
     refine rvP C (.pv (.lit (.bool (c.kind == 3)))) ?_
     refine rvP C (.pv (.lit (.bool (c.kind == 3)))) ?_
     refine rvc_nil ?_
     refine Awp.cond (b := (c.kind == 3)) rfl (fun h67 => ?_) (fun h67 => ?_)
     ·
      replace hR := of_true h67 hR
      refine Awp.skip ?_
      refine Awp.condT (b := (c.kind == 3)) rfl h67 ?_
      refine Awp.regionP C ?_
      refine rvP C (.pv (.lit (.bool false))) ?_
      refine rvP C (.pv (.lit (.bool false))) ?_
      refine rvS ?_
      refine rvP C (.pv (.lit (.bool false))) ?_
      refine rvP C (.pv (.lit (.bool false))) ?_
      refine rvS ?_
      refine rvS ?_
      refine rvS ?_
      refine rvP C (.pv (.lit (.bool false))) ?_
      refine rvP C (.pv (.lit (.bool false))) ?_
      refine rvc_nil ?_
      refine Awp.seq ?_
      refine Awp.consP C ?_
      refine rvP C (.pv (.lit (.bool false))) ?_
      refine rvP C (.pv (.lit (.bool true))) ?_
      refine rvc_nil ?_
      refine Awp.condT (b := true) rfl rfl ?_
      refine Awp.consP C ?_
      refine rvP C (.pv (.lit (.int .i64 120))) ?_
      refine rvc_nil ?_
      refine Awp.ret ?_
      subst hR
      exact ⟨.inl rfl, rfl⟩
     ·
      replace hR := of_false h67 hR
      refine Awp.regionP C ?_
      refine rvP C (.pv (.lit (.bool (c.kind == 4)))) ?_
      refine rvP C (.pv (.lit (.bool (c.kind == 4)))) ?_
      refine rvc_nil ?_
      refine Awp.cond (b := (c.kind == 4)) rfl (fun h68 => ?_) (fun h68 => ?_)
      ·
       replace hR := of_true h68 hR
       refine Awp.regionP C ?_
       refine rvP C (.pv (.lit (.bool false))) ?_
       refine rvP C (.pv (.lit (.bool false))) ?_
       refine rvS ?_
       refine rvP C (.pv (.lit (.bool false))) ?_
       refine rvP C (.pv (.lit (.bool false))) ?_
       refine rvS ?_
       refine rvS ?_
       refine rvS ?_
       refine rvP C (.pv (.lit (.bool false))) ?_
       refine rvP C (.pv (.lit (.bool false))) ?_
       refine rvc_nil ?_
       refine Awp.seq ?_
       refine Awp.consP C ?_
       refine rvP C (.pv (.lit (.bool false))) ?_
       refine rvP C (.pv (.lit (.bool true))) ?_
       refine rvc_nil ?_
       refine Awp.condT (b := true) rfl rfl ?_
       refine Awp.consP C ?_
       refine rvP C (.pv (.lit (.int .i64 120))) ?_
       refine rvc_nil ?_
       refine Awp.ret ?_
       subst hR
       exact ⟨.inl rfl, rfl⟩
      ·
       replace hR := of_false h68 hR
       refine Awp.consP C ?_
       refine rvP C (.pv (.lit (.bool (c.kind == 2)))) ?_
       refine rvP C (.pv (.lit (.bool (c.kind == 2)))) ?_
       refine rvc_nil ?_
       refine Awp.cond (b := (c.kind == 2)) rfl (fun h69 => ?_) (fun h69 => ?_)
       ·
        replace hR := of_true h69 hR
        refine Awp.regionP C ?_
        refine rvP C (.pv (.lit (.bool false))) ?_
        refine rvP C (.pv (.lit (.bool false))) ?_
        refine rvS ?_
        refine rvP C (.pv (.lit (.bool false))) ?_
        refine rvP C (.pv (.lit (.bool false))) ?_
        refine rvS ?_
        refine rvP C (.pv (.lit (.bool false))) ?_
        refine rvP C (.pv (.lit (.bool false))) ?_
        refine rvc_nil ?_
        refine Awp.seq ?_
        refine Awp.consP C ?_
        refine rvP C (.pv (.lit (.bool false))) ?_
        refine rvP C (.pv (.lit (.bool true))) ?_
        refine rvc_nil ?_
        refine Awp.condT (b := true) rfl rfl ?_
        refine Awp.consP C ?_
        refine rvP C (.pv (.lit (.int .i64 120))) ?_
        refine rvc_nil ?_
        refine Awp.ret ?_
        subst hR
        exact ⟨.inl rfl, rfl⟩
       ·
        replace hR := of_false h69 hR
        refine Awp.consP C ?_
        refine rvP C (.pv (.lit (.bool (c.kind == 5)))) ?_
        refine rvP C (.pv (.lit (.bool (c.kind == 5)))) ?_
        refine rvc_nil ?_
        refine Awp.cond (b := (c.kind == 5)) rfl (fun h70 => ?_) (fun h70 => ?_)
        ·
         replace hR := of_true h70 hR
         refine Awp.regionP C ?_
         refine rvP C (.pv (.lit (.bool false))) ?_
         refine rvP C (.pv (.lit (.bool false))) ?_
         refine rvS ?_
         refine rvP C (.pv (.lit (.bool false))) ?_
         refine rvP C (.pv (.lit (.bool false))) ?_
         refine rvS ?_
         refine rvS ?_
         refine rvS ?_
         refine rvP C (.pv (.lit (.bool false))) ?_
         refine rvP C (.pv (.lit (.bool false))) ?_
         refine rvc_nil ?_
         refine Awp.seq ?_
         refine Awp.consP C ?_
         refine rvP C (.pv (.lit (.bool false))) ?_
         refine rvP C (.pv (.lit (.bool true))) ?_
         refine rvc_nil ?_
         refine Awp.condT (b := true) rfl rfl ?_
         refine Awp.consP C ?_
         refine rvP C (.pv (.lit (.int .i64 120))) ?_
         refine rvc_nil ?_
         refine Awp.ret ?_
         subst hR
         exact ⟨.inl rfl, rfl⟩
        ·
         replace hR := of_false h70 hR
         refine Awp.regionP C ?_
         refine rvP C (.pv (.lit (.bool false))) ?_
         refine rvc_nil ?_
         refine Awp.seq ?_
         refine Awp.consP C ?_
         refine rvP C (.pv (.lit (.bool false))) ?_
         refine rvP C (.pv (.lit (.bool true))) ?_
         refine rvc_nil ?_
         refine Awp.condT (b := true) rfl rfl ?_
         refine Awp.consP C ?_
         refine rvP C (.pv (.lit (.int .i64 120))) ?_
         refine rvc_nil ?_
         refine Awp.ret ?_
         subst hR
         exact ⟨.inl rfl, rfl⟩
  ·
   replace hR := of_false h52 hR
   refine rvS ?_
   refine rvS ?_
   refine rvS ?_
   refine rvP C (.pv (.lit (.bool false))) ?_
   refine rvP C (.pv (.lit (.bool false))) ?_
   refine rvc_nil ?_
   refine Awp.consP C ?_
   refine rvP C (.ptr 1 3) ?_
   refine rvP C (.pv (.lit (.int .i64 c.epoch))) ?_
   refine rvP C (.pv (.lit (.bool (decide (c.epoch ≥ 1))))) ?_
   refine rvP C (.pv (.lit (.bool (decide (c.epoch ≥ 1))))) ?_
   refine rvc_case 25 (decide (c.epoch ≥ 1)) rfl (fun h71 => ?_) (fun h71 => ?_)
   ·
    replace hR := of_true h71 hR
    refine rvO C (.ptr 1 3) ?_
    refine rvO C (.pv (.lit (.int .i64 c.epoch))) ?_
    refine rvO C (.pv (.lit (.bool (decide (c.epoch ≤ 1099511627776))))) ?_
    refine rvP C (.pv (.lit (.bool (decide (c.epoch ≤ 1099511627776))))) ?_
    refine rvP C (.pv (.lit (.bool (decide (c.epoch ≤ 1099511627776))))) ?_
    refine rvc_nil ?_
    refine Awp.seq ?_
    refine Awp.consP C ?_
    refine rvP C (.ptr 1 0) ?_
    refine rvP C (.pv (.lit (.int .i64 c.kind))) ?_
    refine rvc_nil ?_
    refine Awp.block ?_
    refine Awp.seq ?_
    refine Awp.consP C ?_
    refine rvP C (.pv (.lit (.bool (c.kind == 1)))) ?_
    refine rvP C (.pv (.lit (.bool (c.kind == 1)))) ?_
    refine rvc_nil ?_
    refine Awp.cond (b := (c.kind == 1)) rfl (fun h72 => ?_) (fun h72 => ?_)
    ·
     replace hR := of_true h72 hR
     refine Awp.skip ?_
     refine Awp.condT (b := (c.kind == 1)) rfl h72 ?_
     refine Awp.regionP C ?_
     refine rvP C (.pv (.lit (.bool (decide (c.epoch ≤ 1099511627776))))) ?_
     refine rvP C (.pv (.lit (.bool (decide (c.epoch ≤ 1099511627776))))) ?_
     refine rvc_case 37 (decide (c.epoch ≤ 1099511627776)) rfl (fun h73 => ?_) (fun h73 => ?_)
     ·
      replace hR := of_true h73 hR
      refine rvO C (.pv (.lit (.bool false))) ?_
      refine rvP C (.pv (.lit (.bool false))) ?_
      refine rvP C (.pv (.lit (.bool false))) ?_
      refine rvS ?_
      refine rvS ?_
      refine rvS ?_
      refine rvP C (.pv (.lit (.bool false))) ?_
      refine rvP C (.pv (.lit (.bool false))) ?_
      refine rvc_nil ?_
      refine Awp.seq ?_
      refine Awp.consP C ?_
      refine rvP C (.pv (.lit (.bool false))) ?_
      refine rvP C (.pv (.lit (.bool true))) ?_
      refine rvc_nil ?_
      refine Awp.condT (b := true) rfl rfl ?_
      refine Awp.consP C ?_
      refine rvP C (.pv (.lit (.int .i64 120))) ?_
      refine rvc_nil ?_
      refine Awp.ret ?_
      subst hR
      exact ⟨.inl rfl, rfl⟩
     ·
      replace hR := of_false h73 hR
      refine rvS ?_
      refine rvP C (.pv (.lit (.bool false))) ?_
      refine rvP C (.pv (.lit (.bool false))) ?_
      refine rvS ?_
      refine rvS ?_
      refine rvS ?_
      refine rvP C (.pv (.lit (.bool false))) ?_
      refine rvP C (.pv (.lit (.bool false))) ?_
      refine rvc_nil ?_
      refine Awp.seq ?_
      refine Awp.consP C ?_
      refine rvP C (.pv (.lit (.bool false))) ?_
      refine rvP C (.pv (.lit (.bool true))) ?_
      refine rvc_nil ?_
      refine Awp.condT (b := true) rfl rfl ?_
      refine Awp.consP C ?_
      refine rvP C (.pv (.lit (.int .i64 120))) ?_
      refine rvc_nil ?_
      refine Awp.ret ?_
      subst hR
      exact ⟨.inl rfl, rfl⟩
    ·
     replace hR := of_false h72 hR
     refine Awp.consP C ?_
     refine rvP C (.pv (.lit (.bool (c.kind == 3)))) ?_
     refine rvP C (.pv (.lit (.bool (c.kind == 3)))) ?_
     refine rvc_nil ?_
     refine Awp.cond (b := (c.kind == 3)) rfl (fun h74 => ?_) (fun h74 => ?_)
     ·
      replace hR := of_true h74 hR
      refine Awp.skip ?_
      refine Awp.condT (b := (c.kind == 3)) rfl h74 ?_
      refine Awp.regionP C ?_
      refine rvP C (.pv (.lit (.bool (decide (c.epoch ≤ 1099511627776))))) ?_
      refine rvP C (.pv (.lit (.bool (decide (c.epoch ≤ 1099511627776))))) ?_
      refine rvc_case 37 (decide (c.epoch ≤ 1099511627776)) rfl (fun h75 => ?_) (fun h75 => ?_)
      ·
       replace hR := of_true h75 hR
       refine rvO C (.pv (.lit (.bool false))) ?_
       refine rvP C (.pv (.lit (.bool false))) ?_
       refine rvP C (.pv (.lit (.bool false))) ?_
       refine rvS ?_
       refine rvS ?_
       refine rvS ?_
       refine rvP C (.pv (.lit (.bool false))) ?_
       refine rvP C (.pv (.lit (.bool false))) ?_
       refine rvc_nil ?_
       refine Awp.seq ?_
       refine Awp.consP C ?_
       refine rvP C (.pv (.lit (.bool false))) ?_
       refine rvP C (.pv (.lit (.bool true))) ?_
       refine rvc_nil ?_
       refine Awp.condT (b := true) rfl rfl ?_
       refine Awp.consP C ?_
       refine rvP C (.pv (.lit (.int .i64 120))) ?_
       refine rvc_nil ?_
       refine Awp.ret ?_
       subst hR
       exact ⟨.inl rfl, rfl⟩
      ·
       replace hR := of_false h75 hR
       refine rvS ?_
       refine rvP C (.pv (.lit (.bool false))) ?_
       refine rvP C (.pv (.lit (.bool false))) ?_
       refine rvS ?_
       refine rvS ?_
       refine rvS ?_
       refine rvP C (.pv (.lit (.bool false))) ?_
       refine rvP C (.pv (.lit (.bool false))) ?_
       refine rvc_nil ?_
       refine Awp.seq ?_
       refine Awp.consP C ?_
       refine rvP C (.pv (.lit (.bool false))) ?_
       refine rvP C (.pv (.lit (.bool true))) ?_
       refine rvc_nil ?_
       refine Awp.condT (b := true) rfl rfl ?_
       refine Awp.consP C ?_
       refine rvP C (.pv (.lit (.int .i64 120))) ?_
       refine rvc_nil ?_
       refine Awp.ret ?_
       subst hR
       exact ⟨.inl rfl, rfl⟩
     ·
      replace hR := of_false h74 hR
      refine Awp.regionP C ?_
      refine rvP C (.pv (.lit (.bool (c.kind == 4)))) ?_
      refine rvP C (.pv (.lit (.bool (c.kind == 4)))) ?_
      refine rvc_nil ?_
      refine Awp.cond (b := (c.kind == 4)) rfl (fun h76 => ?_) (fun h76 => ?_)
      ·
       replace hR := of_true h76 hR
       refine Awp.regionP C ?_
       refine rvP C (.pv (.lit (.bool (decide (c.epoch ≤ 1099511627776))))) ?_
       refine rvP C (.pv (.lit (.bool (decide (c.epoch ≤ 1099511627776))))) ?_
       refine rvc_case 37 (decide (c.epoch ≤ 1099511627776)) rfl (fun h77 => ?_) (fun h77 => ?_)
       ·
        replace hR := of_true h77 hR
        refine rvO C (.pv (.lit (.bool false))) ?_
        refine rvP C (.pv (.lit (.bool false))) ?_
        refine rvP C (.pv (.lit (.bool false))) ?_
        refine rvS ?_
        refine rvS ?_
        refine rvS ?_
        refine rvP C (.pv (.lit (.bool false))) ?_
        refine rvP C (.pv (.lit (.bool false))) ?_
        refine rvc_nil ?_
        refine Awp.seq ?_
        refine Awp.consP C ?_
        refine rvP C (.pv (.lit (.bool false))) ?_
        refine rvP C (.pv (.lit (.bool true))) ?_
        refine rvc_nil ?_
        refine Awp.condT (b := true) rfl rfl ?_
        refine Awp.consP C ?_
        refine rvP C (.pv (.lit (.int .i64 120))) ?_
        refine rvc_nil ?_
        refine Awp.ret ?_
        subst hR
        exact ⟨.inl rfl, rfl⟩
       ·
        replace hR := of_false h77 hR
        refine rvS ?_
        refine rvP C (.pv (.lit (.bool false))) ?_
        refine rvP C (.pv (.lit (.bool false))) ?_
        refine rvS ?_
        refine rvS ?_
        refine rvS ?_
        refine rvP C (.pv (.lit (.bool false))) ?_
        refine rvP C (.pv (.lit (.bool false))) ?_
        refine rvc_nil ?_
        refine Awp.seq ?_
        refine Awp.consP C ?_
        refine rvP C (.pv (.lit (.bool false))) ?_
        refine rvP C (.pv (.lit (.bool true))) ?_
        refine rvc_nil ?_
        refine Awp.condT (b := true) rfl rfl ?_
        refine Awp.consP C ?_
        refine rvP C (.pv (.lit (.int .i64 120))) ?_
        refine rvc_nil ?_
        refine Awp.ret ?_
        subst hR
        exact ⟨.inl rfl, rfl⟩
      ·
       replace hR := of_false h76 hR
       refine Awp.consP C ?_
       refine rvP C (.pv (.lit (.bool (c.kind == 2)))) ?_
       refine rvP C (.pv (.lit (.bool (c.kind == 2)))) ?_
       refine rvc_nil ?_
       refine Awp.cond (b := (c.kind == 2)) rfl (fun h78 => ?_) (fun h78 => ?_)
       ·
        replace hR := of_true h78 hR
        refine Awp.regionP C ?_
        refine rvP C (.pv (.lit (.bool (decide (c.epoch ≤ 1099511627776))))) ?_
        refine rvP C (.pv (.lit (.bool (decide (c.epoch ≤ 1099511627776))))) ?_
        refine rvc_case 48 (decide (c.epoch ≤ 1099511627776)) rfl (fun h79 => ?_) (fun h79 => ?_)
        ·
         replace hR := of_true h79 hR
         refine rvO C (.pv (.lit (.bool false))) ?_
         refine rvP C (.pv (.lit (.bool false))) ?_
         refine rvP C (.pv (.lit (.bool false))) ?_
         refine rvS ?_
         refine rvP C (.pv (.lit (.bool false))) ?_
         refine rvP C (.pv (.lit (.bool false))) ?_
         refine rvc_nil ?_
         refine Awp.seq ?_
         refine Awp.consP C ?_
         refine rvP C (.pv (.lit (.bool false))) ?_
         refine rvP C (.pv (.lit (.bool true))) ?_
         refine rvc_nil ?_
         refine Awp.condT (b := true) rfl rfl ?_
         refine Awp.consP C ?_
         refine rvP C (.pv (.lit (.int .i64 120))) ?_
         refine rvc_nil ?_
         refine Awp.ret ?_
         subst hR
         exact ⟨.inl rfl, rfl⟩
        ·
         replace hR := of_false h79 hR
         refine rvS ?_
         refine rvP C (.pv (.lit (.bool false))) ?_
         refine rvP C (.pv (.lit (.bool false))) ?_
         refine rvS ?_
         refine rvP C (.pv (.lit (.bool false))) ?_
         refine rvP C (.pv (.lit (.bool false))) ?_
         refine rvc_nil ?_
         refine Awp.seq ?_
         refine Awp.consP C ?_
         refine rvP C (.pv (.lit (.bool false))) ?_
         refine rvP C (.pv (.lit (.bool true))) ?_
         refine rvc_nil ?_
         refine Awp.condT (b := true) rfl rfl ?_
         refine Awp.consP C ?_
         refine rvP C (.pv (.lit (.int .i64 120))) ?_
         refine rvc_nil ?_
         refine Awp.ret ?_
         subst hR
         exact ⟨.inl rfl, rfl⟩
       ·
        replace hR := of_false h78 hR
        refine Awp.consP C ?_
        refine rvP C (.pv (.lit (.bool (c.kind == 5)))) ?_
        refine rvP C (.pv (.lit (.bool (c.kind == 5)))) ?_
        refine rvc_nil ?_
        refine Awp.cond (b := (c.kind == 5)) rfl (fun h80 => ?_) (fun h80 => ?_)
        ·
         replace hR := of_true h80 hR
         refine Awp.regionP C ?_
         refine rvP C (.pv (.lit (.bool (decide (c.epoch ≤ 1099511627776))))) ?_
         refine rvP C (.pv (.lit (.bool (decide (c.epoch ≤ 1099511627776))))) ?_
         refine rvc_case 57 (decide (c.epoch ≤ 1099511627776)) rfl (fun h81 => ?_) (fun h81 => ?_)
         ·
          replace hR := of_true h81 hR
          refine rvO C (.pv (.lit (.bool false))) ?_
          refine rvP C (.pv (.lit (.bool false))) ?_
          refine rvP C (.pv (.lit (.bool false))) ?_
          refine rvS ?_
          refine rvS ?_
          refine rvS ?_
          refine rvP C (.pv (.lit (.bool false))) ?_
          refine rvP C (.pv (.lit (.bool false))) ?_
          refine rvc_nil ?_
          refine Awp.seq ?_
          refine Awp.consP C ?_
          refine rvP C (.pv (.lit (.bool false))) ?_
          refine rvP C (.pv (.lit (.bool true))) ?_
          refine rvc_nil ?_
          refine Awp.condT (b := true) rfl rfl ?_
          refine Awp.consP C ?_
          refine rvP C (.pv (.lit (.int .i64 120))) ?_
          refine rvc_nil ?_
          refine Awp.ret ?_
          subst hR
          exact ⟨.inl rfl, rfl⟩
         ·
          replace hR := of_false h81 hR
          refine rvS ?_
          refine rvP C (.pv (.lit (.bool false))) ?_
          refine rvP C (.pv (.lit (.bool false))) ?_
          refine rvS ?_
          refine rvS ?_
          refine rvS ?_
          refine rvP C (.pv (.lit (.bool false))) ?_
          refine rvP C (.pv (.lit (.bool false))) ?_
          refine rvc_nil ?_
          refine Awp.seq ?_
          refine Awp.consP C ?_
          refine rvP C (.pv (.lit (.bool false))) ?_
          refine rvP C (.pv (.lit (.bool true))) ?_
          refine rvc_nil ?_
          refine Awp.condT (b := true) rfl rfl ?_
          refine Awp.consP C ?_
          refine rvP C (.pv (.lit (.int .i64 120))) ?_
          refine rvc_nil ?_
          refine Awp.ret ?_
          subst hR
          exact ⟨.inl rfl, rfl⟩
        ·
         replace hR := of_false h80 hR
         refine Awp.regionP C ?_
         refine rvP C (.pv (.lit (.bool false))) ?_
         refine rvc_nil ?_
         refine Awp.seq ?_
         refine Awp.consP C ?_
         refine rvP C (.pv (.lit (.bool false))) ?_
         refine rvP C (.pv (.lit (.bool true))) ?_
         refine rvc_nil ?_
         refine Awp.condT (b := true) rfl rfl ?_
         refine Awp.consP C ?_
         refine rvP C (.pv (.lit (.int .i64 120))) ?_
         refine rvc_nil ?_
         refine Awp.ret ?_
         subst hR
         exact ⟨.inl rfl, rfl⟩
   ·
    replace hR := of_false h71 hR
    refine rvS ?_
    refine rvS ?_
    refine rvS ?_
    refine rvP C (.pv (.lit (.bool false))) ?_
    refine rvP C (.pv (.lit (.bool false))) ?_
    refine rvc_nil ?_
    refine Awp.seq ?_
    refine Awp.consP C ?_
    refine rvP C (.ptr 1 0) ?_
    refine rvP C (.pv (.lit (.int .i64 c.kind))) ?_
    refine rvc_nil ?_
    refine Awp.block ?_
    refine Awp.seq ?_
    refine Awp.consP C ?_
    refine rvP C (.pv (.lit (.bool (c.kind == 1)))) ?_
    refine rvP C (.pv (.lit (.bool (c.kind == 1)))) ?_
    refine rvc_nil ?_
    refine Awp.cond (b := (c.kind == 1)) rfl (fun h82 => ?_) (fun h82 => ?_)
    ·
     replace hR := of_true h82 hR
     refine Awp.skip ?_
     refine Awp.condT (b := (c.kind == 1)) rfl h82 ?_
     refine Awp.regionP C ?_
     refine rvP C (.pv (.lit (.bool false))) ?_
     refine rvP C (.pv (.lit (.bool false))) ?_
     refine rvS ?_
     refine rvP C (.pv (.lit (.bool false))) ?_
     refine rvP C (.pv (.lit (.bool false))) ?_
     refine rvS ?_
     refine rvS ?_
     refine rvS ?_
     refine rvP C (.pv (.lit (.bool false))) ?_
     refine rvP C (.pv (.lit (.bool false))) ?_
     refine rvc_nil ?_
     refine Awp.seq ?_
     refine Awp.consP C ?_
     refine rvP C (.pv (.lit (.bool false))) ?_
     refine rvP C (.pv (.lit (.bool true))) ?_
     refine rvc_nil ?_
     refine Awp.condT (b := true) rfl rfl ?_
     refine Awp.consP C ?_
     refine rvP C (.pv (.lit (.int .i64 120))) ?_
     refine rvc_nil ?_
     refine Awp.ret ?_
     subst hR
     exact ⟨.inl rfl, rfl⟩
    ·
     replace hR := of_false h82 hR
     refine Awp.consP C ?_
     refine rvP C (.pv (.lit (.bool (c.kind == 3)))) ?_
     refine rvP C (.pv (.lit (.bool (c.kind == 3)))) ?_
     refine rvc_nil ?_
     refine Awp.cond (b := (c.kind == 3)) rfl (fun h83 => ?_) (fun h83 => ?_)
     ·
      replace hR := of_true h83 hR
      refine Awp.skip ?_
      refine Awp.condT (b := (c.kind == 3)) rfl h83 ?_
      refine Awp.regionP C ?_
      refine rvP C (.pv (.lit (.bool false))) ?_
      refine rvP C (.pv (.lit (.bool false))) ?_
      refine rvS ?_
      refine rvP C (.pv (.lit (.bool false))) ?_
      refine rvP C (.pv (.lit (.bool false))) ?_
      refine rvS ?_
      refine rvS ?_
      refine rvS ?_
      refine rvP C (.pv (.lit (.bool false))) ?_
      refine rvP C (.pv (.lit (.bool false))) ?_
      refine rvc_nil ?_
      refine Awp.seq ?_
      refine Awp.consP C ?_
      refine rvP C (.pv (.lit (.bool false))) ?_
      refine rvP C (.pv (.lit (.bool true))) ?_
      refine rvc_nil ?_
      refine Awp.condT (b := true) rfl rfl ?_
      refine Awp.consP C ?_
      refine rvP C (.pv (.lit (.int .i64 120))) ?_
      refine rvc_nil ?_
      refine Awp.ret ?_
      subst hR
      exact ⟨.inl rfl, rfl⟩
     ·
      replace hR := of_false h83 hR
      refine Awp.regionP C ?_
      refine rvP C (.pv (.lit (.bool (c.kind == 4)))) ?_
      refine rvP C (.pv (.lit (.bool (c.kind == 4)))) ?_
      refine rvc_nil ?_
      refine Awp.cond (b := (c.kind == 4)) rfl (fun h84 => ?_) (fun h84 => ?_)
      ·
       replace hR := of_true h84 hR
       refine Awp.regionP C ?_
       refine rvP C (.pv (.lit (.bool false))) ?_
       refine rvP C (.pv (.lit (.bool false))) ?_
       refine rvS ?_
       refine rvP C (.pv (.lit (.bool false))) ?_
       refine rvP C (.pv (.lit (.bool false))) ?_
       refine rvS ?_
       refine rvS ?_
       refine rvS ?_
       refine rvP C (.pv (.lit (.bool false))) ?_
       refine rvP C (.pv (.lit (.bool false))) ?_
       refine rvc_nil ?_
       refine Awp.seq ?_
       refine Awp.consP C ?_
       refine rvP C (.pv (.lit (.bool false))) ?_
       refine rvP C (.pv (.lit (.bool true))) ?_
       refine rvc_nil ?_
       refine Awp.condT (b := true) rfl rfl ?_
       refine Awp.consP C ?_
       refine rvP C (.pv (.lit (.int .i64 120))) ?_
       refine rvc_nil ?_
       refine Awp.ret ?_
       subst hR
       exact ⟨.inl rfl, rfl⟩
      ·
       replace hR := of_false h84 hR
       refine Awp.consP C ?_
       refine rvP C (.pv (.lit (.bool (c.kind == 2)))) ?_
       refine rvP C (.pv (.lit (.bool (c.kind == 2)))) ?_
       refine rvc_nil ?_
       refine Awp.cond (b := (c.kind == 2)) rfl (fun h85 => ?_) (fun h85 => ?_)
       ·
        replace hR := of_true h85 hR
        refine Awp.regionP C ?_
        refine rvP C (.pv (.lit (.bool false))) ?_
        refine rvP C (.pv (.lit (.bool false))) ?_
        refine rvS ?_
        refine rvP C (.pv (.lit (.bool false))) ?_
        refine rvP C (.pv (.lit (.bool false))) ?_
        refine rvS ?_
        refine rvP C (.pv (.lit (.bool false))) ?_
        refine rvP C (.pv (.lit (.bool false))) ?_
        refine rvc_nil ?_
        refine Awp.seq ?_
        refine Awp.consP C ?_
        refine rvP C (.pv (.lit (.bool false))) ?_
        refine rvP C (.pv (.lit (.bool true))) ?_
        refine rvc_nil ?_
        refine Awp.condT (b := true) rfl rfl ?_
        refine Awp.consP C ?_
        refine rvP C (.pv (.lit (.int .i64 120))) ?_
        refine rvc_nil ?_
        refine Awp.ret ?_
        subst hR
        exact ⟨.inl rfl, rfl⟩
       ·
        replace hR := of_false h85 hR
        refine Awp.consP C ?_
        refine rvP C (.pv (.lit (.bool (c.kind == 5)))) ?_
        refine rvP C (.pv (.lit (.bool (c.kind == 5)))) ?_
        refine rvc_nil ?_
        refine Awp.cond (b := (c.kind == 5)) rfl (fun h86 => ?_) (fun h86 => ?_)
        ·
         replace hR := of_true h86 hR
         refine Awp.regionP C ?_
         refine rvP C (.pv (.lit (.bool false))) ?_
         refine rvP C (.pv (.lit (.bool false))) ?_
         refine rvS ?_
         refine rvP C (.pv (.lit (.bool false))) ?_
         refine rvP C (.pv (.lit (.bool false))) ?_
         refine rvS ?_
         refine rvS ?_
         refine rvS ?_
         refine rvP C (.pv (.lit (.bool false))) ?_
         refine rvP C (.pv (.lit (.bool false))) ?_
         refine rvc_nil ?_
         refine Awp.seq ?_
         refine Awp.consP C ?_
         refine rvP C (.pv (.lit (.bool false))) ?_
         refine rvP C (.pv (.lit (.bool true))) ?_
         refine rvc_nil ?_
         refine Awp.condT (b := true) rfl rfl ?_
         refine Awp.consP C ?_
         refine rvP C (.pv (.lit (.int .i64 120))) ?_
         refine rvc_nil ?_
         refine Awp.ret ?_
         subst hR
         exact ⟨.inl rfl, rfl⟩
        ·
         replace hR := of_false h86 hR
         refine Awp.regionP C ?_
         refine rvP C (.pv (.lit (.bool false))) ?_
         refine rvc_nil ?_
         refine Awp.seq ?_
         refine Awp.consP C ?_
         refine rvP C (.pv (.lit (.bool false))) ?_
         refine rvP C (.pv (.lit (.bool true))) ?_
         refine rvc_nil ?_
         refine Awp.condT (b := true) rfl rfl ?_
         refine Awp.consP C ?_
         refine rvP C (.pv (.lit (.int .i64 120))) ?_
         refine rvc_nil ?_
         refine Awp.ret ?_
         subst hR
         exact ⟨.inl rfl, rfl⟩
def rCmdCheck (c : Command) : Int :=
  (bif (c.kind == 1) then (bif (c.kind == 2) then (bif (decide (c.epoch ≥ 1)) then (bif (decide (c.epoch ≤ 1099511627776)) then (bif (decide (c.node ≥ 0)) then (bif (decide (c.node ≤ 5)) then (bif (decide (c.site ≥ 0)) then (bif (!(decide (c.site ≤ 2))) then 120 else 0) else 120) else 120) else 120) else 120) else 120) else (bif (decide (c.epoch ≥ 1)) then (bif (decide (c.epoch ≤ 1099511627776)) then (bif (decide (c.node ≥ 0)) then (bif (decide (c.node ≤ 5)) then (bif (decide (c.site ≥ 0)) then (bif (!(decide (c.site ≤ 2))) then 120 else (bif (!(c.kind == 5)) then (bif (c.site != 0) then 120 else 0) else 0)) else 120) else 120) else 120) else 120) else 120)) else (bif (c.kind == 2) then (bif (decide (c.epoch ≥ 1)) then (bif (decide (c.epoch ≤ 1099511627776)) then (bif (decide (c.node ≥ 0)) then (bif (decide (c.node ≤ 5)) then (bif (decide (c.site ≥ 0)) then (bif (!(decide (c.site ≤ 2))) then 120 else 0) else 120) else 120) else 120) else 120) else 120) else (bif (c.kind == 3) then (bif (decide (c.epoch ≥ 1)) then (bif (decide (c.epoch ≤ 1099511627776)) then (bif (decide (c.node ≥ 0)) then (bif (decide (c.node ≤ 5)) then (bif (decide (c.site ≥ 0)) then (bif (!(decide (c.site ≤ 2))) then 120 else (bif (!(c.kind == 5)) then (bif (c.site != 0) then 120 else 0) else 0)) else 120) else 120) else 120) else 120) else 120) else (bif (c.kind == 4) then (bif (decide (c.epoch ≥ 1)) then (bif (decide (c.epoch ≤ 1099511627776)) then (bif (decide (c.node ≥ 0)) then (bif (decide (c.node ≤ 5)) then (bif (decide (c.site ≥ 0)) then (bif (!(decide (c.site ≤ 2))) then 120 else (bif (!(c.kind == 4)) then (bif (c.node != 0) then 120 else (bif (!(c.kind == 5)) then (bif (c.site != 0) then 120 else 0) else 0)) else (bif (!(c.kind == 5)) then (bif (c.site != 0) then 120 else 0) else 0))) else 120) else 120) else 120) else 120) else 120) else (bif (c.kind == 5) then (bif (decide (c.epoch ≥ 1)) then (bif (decide (c.epoch ≤ 1099511627776)) then (bif (decide (c.node ≥ 0)) then (bif (decide (c.node ≤ 5)) then (bif (decide (c.site ≥ 0)) then (bif (!(decide (c.site ≤ 2))) then 120 else (bif (!(c.kind == 4)) then (bif (c.node != 0) then 120 else (bif (!(c.kind == 5)) then (bif (c.site != 0) then 120 else 0) else 0)) else (bif (!(c.kind == 5)) then (bif (c.site != 0) then 120 else 0) else 0))) else 120) else 120) else 120) else 120) else 120) else 120)))))
theorem rCmdCheck_calls (c : Command)  : PCalls Try.prog 25 [.agg [.pv (.lit (.int .i64 c.kind)), .pv (.lit (.int .i64 c.node)), .pv (.lit (.int .i64 c.site)), .pv (.lit (.int .i64 c.epoch))]] (.pv (.lit (.int .i64 (rCmdCheck c)))) := by
 generalize hR : rCmdCheck c = R
 refine PCalls.of_body tabOk Try.func25 rfl rfl rfl rfl rfl mixed fun E hP C hI => ?_
 refine Awp.consP C ?_
 refine rvc_un (rexec_prim C (δ := { v := .ptr 1 0, new := [(1, .cells [.pv (.lit (.int .i64 c.kind)), .pv (.lit (.int .i64 c.node)), .pv (.lit (.int .i64 c.site)), .pv (.lit (.int .i64 c.epoch))])] }) rfl rfl rfl rfl trivial rfl ?_)
 refine rvP C (.pv (.lit (.int .i64 0))) ?_
 refine rvc_nil ?_
 refine Awp.consP C ?_
 refine rvP C (.ptr 1 0) ?_
 refine rvP C (.pv (.lit (.int .i64 c.kind))) ?_
 refine rvP C (.pv (.lit (.bool (c.kind == 1)))) ?_
 refine rvP C (.pv (.lit (.bool (c.kind == 1)))) ?_
 refine rvc_case 9 (c.kind == 1) rfl (fun h1 => ?_) (fun h1 => ?_)
 ·
  replace hR := of_true h1 hR
  refine rvS ?_
  refine rvS ?_
  refine rvS ?_
  refine rvP C (.pv (.lit (.bool true))) ?_
  refine rvP C (.pv (.lit (.bool true))) ?_
  refine rvS ?_
  refine rvS ?_
  refine rvS ?_
  refine rvP C (.pv (.lit (.bool true))) ?_
  refine rvP C (.pv (.lit (.bool true))) ?_
  refine rvS ?_
  refine rvS ?_
  refine rvS ?_
  refine rvP C (.pv (.lit (.bool true))) ?_
  refine rvP C (.pv (.lit (.bool true))) ?_
  refine rvc_nil ?_
  refine Awp.consP C ?_
  refine rvP C (.ptr 1 0) ?_
  refine rvP C (.pv (.lit (.int .i64 c.kind))) ?_
  refine rvP C (.pv (.lit (.bool (c.kind == 2)))) ?_
  refine rvP C (.pv (.lit (.bool (c.kind == 2)))) ?_
  refine rvc_case 27 (c.kind == 2) rfl (fun h2 => ?_) (fun h2 => ?_)
  ·
   replace hR := of_true h2 hR
   refine rvS ?_
   refine rvS ?_
   refine rvS ?_
   refine rvP C (.pv (.lit (.bool true))) ?_
   refine rvP C (.pv (.lit (.bool true))) ?_
   refine rvc_nil ?_
   refine Awp.consP C ?_
   refine rvP C (.pv (.lit (.bool true))) ?_
   refine rvP C (.pv (.lit (.bool true))) ?_
   refine rvS ?_
   refine rvP C (.pv (.lit (.bool true))) ?_
   refine rvP C (.pv (.lit (.bool true))) ?_
   refine rvO C (.ptr 1 3) ?_
   refine rvO C (.pv (.lit (.int .i64 c.epoch))) ?_
   refine rvO C (.pv (.lit (.bool (decide (c.epoch ≥ 1))))) ?_
   refine rvP C (.pv (.lit (.bool (decide (c.epoch ≥ 1))))) ?_
   refine rvP C (.pv (.lit (.bool (decide (c.epoch ≥ 1))))) ?_
   refine rvc_case 41 (decide (c.epoch ≥ 1)) rfl (fun h3 => ?_) (fun h3 => ?_)
   ·
    replace hR := of_true h3 hR
    refine rvO C (.ptr 1 3) ?_
    refine rvO C (.pv (.lit (.int .i64 c.epoch))) ?_
    refine rvO C (.pv (.lit (.bool (decide (c.epoch ≤ 1099511627776))))) ?_
    refine rvP C (.pv (.lit (.bool (decide (c.epoch ≤ 1099511627776))))) ?_
    refine rvP C (.pv (.lit (.bool (decide (c.epoch ≤ 1099511627776))))) ?_
    refine rvc_case 46 (decide (c.epoch ≤ 1099511627776)) rfl (fun h4 => ?_) (fun h4 => ?_)
    ·
     replace hR := of_true h4 hR
     refine rvO C (.ptr 1 1) ?_
     refine rvO C (.pv (.lit (.int .i64 c.node))) ?_
     refine rvO C (.pv (.lit (.bool (decide (c.node ≥ 0))))) ?_
     refine rvP C (.pv (.lit (.bool (decide (c.node ≥ 0))))) ?_
     refine rvP C (.pv (.lit (.bool (decide (c.node ≥ 0))))) ?_
     refine rvc_case 51 (decide (c.node ≥ 0)) rfl (fun h5 => ?_) (fun h5 => ?_)
     ·
      replace hR := of_true h5 hR
      refine rvO C (.ptr 1 1) ?_
      refine rvO C (.pv (.lit (.int .i64 c.node))) ?_
      refine rvO C (.pv (.lit (.bool (decide (c.node ≤ 5))))) ?_
      refine rvP C (.pv (.lit (.bool (decide (c.node ≤ 5))))) ?_
      refine rvP C (.pv (.lit (.bool (decide (c.node ≤ 5))))) ?_
      refine rvc_case 56 (decide (c.node ≤ 5)) rfl (fun h6 => ?_) (fun h6 => ?_)
      ·
       replace hR := of_true h6 hR
       refine rvO C (.ptr 1 2) ?_
       refine rvO C (.pv (.lit (.int .i64 c.site))) ?_
       refine rvO C (.pv (.lit (.bool (decide (c.site ≥ 0))))) ?_
       refine rvP C (.pv (.lit (.bool (decide (c.site ≥ 0))))) ?_
       refine rvP C (.pv (.lit (.bool (decide (c.site ≥ 0))))) ?_
       refine rvc_case 61 (decide (c.site ≥ 0)) rfl (fun h7 => ?_) (fun h7 => ?_)
       ·
        replace hR := of_true h7 hR
        refine rvO C (.ptr 1 2) ?_
        refine rvO C (.pv (.lit (.int .i64 c.site))) ?_
        refine rvO C (.pv (.lit (.bool (decide (c.site ≤ 2))))) ?_
        refine rvP C (.pv (.lit (.bool (decide (c.site ≤ 2))))) ?_
        refine rvP C (.pv (.lit (.bool (decide (c.site ≤ 2))))) ?_
        refine rvc_nil ?_
        refine Awp.seq ?_
        refine Awp.consP C ?_
        refine rvP C (.pv (.lit (.bool (decide (c.site ≤ 2))))) ?_
        refine rvP C (.pv (.lit (.bool (!(decide (c.site ≤ 2)))))) ?_
        refine rvP C (.pv (.lit (.bool (!(decide (c.site ≤ 2)))))) ?_
        refine rvc_case 68 (!(decide (c.site ≤ 2))) rfl (fun h8 => ?_) (fun h8 => ?_)
        ·
         replace hR := of_true h8 hR
         refine rvS ?_
         refine rvS ?_
         refine rvS ?_
         refine rvc_shutU rfl rfl rfl ?_
         refine rvc_shutU rfl rfl rfl ?_
         refine rvc_shutU rfl rfl rfl ?_
         refine rvS ?_
         refine rvP C (.pv (.lit (.bool true))) ?_
         refine rvP C (.pv (.lit (.bool true))) ?_
         refine rvS ?_
         refine rvS ?_
         refine rvS ?_
         refine rvc_shutU rfl rfl rfl ?_
         refine rvc_shutU rfl rfl rfl ?_
         refine rvc_shutU rfl rfl rfl ?_
         refine rvS ?_
         refine rvP C (.pv (.lit (.bool true))) ?_
         refine rvc_nil ?_
         refine Awp.condT (b := true) rfl rfl ?_
         refine Awp.consP C ?_
         refine rvP C (.pv (.lit (.int .i64 120))) ?_
         refine rvc_nil ?_
         refine Awp.ret ?_
         subst hR
         exact ⟨.inl rfl, rfl⟩
        ·
         replace hR := of_false h8 hR
         refine rvO C (.pv (.lit (.bool true))) ?_
         refine rvO C (.pv (.lit (.bool false))) ?_
         refine rvO C (.pv (.lit (.bool false))) ?_
         refine rvS ?_
         refine rvS ?_
         refine rvS ?_
         refine rvO C (.pv (.lit (.bool false))) ?_
         refine rvP C (.pv (.lit (.bool false))) ?_
         refine rvP C (.pv (.lit (.bool false))) ?_
         refine rvO C (.pv (.lit (.bool true))) ?_
         refine rvO C (.pv (.lit (.bool false))) ?_
         refine rvO C (.pv (.lit (.bool false))) ?_
         refine rvS ?_
         refine rvS ?_
         refine rvS ?_
         refine rvO C (.pv (.lit (.bool false))) ?_
         refine rvP C (.pv (.lit (.bool false))) ?_
         refine rvc_nil ?_
         refine Awp.condF (b := false) rfl rfl ?_
         refine Awp.skip ?_
         refine Awp.consP C ?_
         refine rvP C (.pv (.lit (.int .i64 0))) ?_
         refine rvc_nil ?_
         refine Awp.ret ?_
         subst hR
         exact ⟨.inl rfl, rfl⟩
       ·
        replace hR := of_false h7 hR
        refine rvS ?_
        refine rvS ?_
        refine rvS ?_
        refine rvP C (.pv (.lit (.bool false))) ?_
        refine rvP C (.pv (.lit (.bool false))) ?_
        refine rvc_nil ?_
        refine Awp.seq ?_
        refine Awp.consP C ?_
        refine rvP C (.pv (.lit (.bool false))) ?_
        refine rvP C (.pv (.lit (.bool true))) ?_
        refine rvP C (.pv (.lit (.bool true))) ?_
        refine rvS ?_
        refine rvS ?_
        refine rvS ?_
        refine rvc_shutU rfl rfl rfl ?_
        refine rvc_shutU rfl rfl rfl ?_
        refine rvc_shutU rfl rfl rfl ?_
        refine rvS ?_
        refine rvP C (.pv (.lit (.bool true))) ?_
        refine rvP C (.pv (.lit (.bool true))) ?_
        refine rvS ?_
        refine rvS ?_
        refine rvS ?_
        refine rvc_shutU rfl rfl rfl ?_
        refine rvc_shutU rfl rfl rfl ?_
        refine rvc_shutU rfl rfl rfl ?_
        refine rvS ?_
        refine rvP C (.pv (.lit (.bool true))) ?_
        refine rvc_nil ?_
        refine Awp.condT (b := true) rfl rfl ?_
        refine Awp.consP C ?_
        refine rvP C (.pv (.lit (.int .i64 120))) ?_
        refine rvc_nil ?_
        refine Awp.ret ?_
        subst hR
        exact ⟨.inl rfl, rfl⟩
      ·
       replace hR := of_false h6 hR
       refine rvS ?_
       refine rvS ?_
       refine rvS ?_
       refine rvP C (.pv (.lit (.bool false))) ?_
       refine rvP C (.pv (.lit (.bool false))) ?_
       refine rvS ?_
       refine rvS ?_
       refine rvS ?_
       refine rvP C (.pv (.lit (.bool false))) ?_
       refine rvP C (.pv (.lit (.bool false))) ?_
       refine rvc_nil ?_
       refine Awp.seq ?_
       refine Awp.consP C ?_
       refine rvP C (.pv (.lit (.bool false))) ?_
       refine rvP C (.pv (.lit (.bool true))) ?_
       refine rvP C (.pv (.lit (.bool true))) ?_
       refine rvS ?_
       refine rvS ?_
       refine rvS ?_
       refine rvc_shutU rfl rfl rfl ?_
       refine rvc_shutU rfl rfl rfl ?_
       refine rvc_shutU rfl rfl rfl ?_
       refine rvS ?_
       refine rvP C (.pv (.lit (.bool true))) ?_
       refine rvP C (.pv (.lit (.bool true))) ?_
       refine rvS ?_
       refine rvS ?_
       refine rvS ?_
       refine rvc_shutU rfl rfl rfl ?_
       refine rvc_shutU rfl rfl rfl ?_
       refine rvc_shutU rfl rfl rfl ?_
       refine rvS ?_
       refine rvP C (.pv (.lit (.bool true))) ?_
       refine rvc_nil ?_
       refine Awp.condT (b := true) rfl rfl ?_
       refine Awp.consP C ?_
       refine rvP C (.pv (.lit (.int .i64 120))) ?_
       refine rvc_nil ?_
       refine Awp.ret ?_
       subst hR
       exact ⟨.inl rfl, rfl⟩
     ·
      replace hR := of_false h5 hR
      refine rvS ?_
      refine rvS ?_
      refine rvS ?_
      refine rvP C (.pv (.lit (.bool false))) ?_
      refine rvP C (.pv (.lit (.bool false))) ?_
      refine rvS ?_
      refine rvS ?_
      refine rvS ?_
      refine rvP C (.pv (.lit (.bool false))) ?_
      refine rvP C (.pv (.lit (.bool false))) ?_
      refine rvS ?_
      refine rvS ?_
      refine rvS ?_
      refine rvP C (.pv (.lit (.bool false))) ?_
      refine rvP C (.pv (.lit (.bool false))) ?_
      refine rvc_nil ?_
      refine Awp.seq ?_
      refine Awp.consP C ?_
      refine rvP C (.pv (.lit (.bool false))) ?_
      refine rvP C (.pv (.lit (.bool true))) ?_
      refine rvP C (.pv (.lit (.bool true))) ?_
      refine rvS ?_
      refine rvS ?_
      refine rvS ?_
      refine rvc_shutU rfl rfl rfl ?_
      refine rvc_shutU rfl rfl rfl ?_
      refine rvc_shutU rfl rfl rfl ?_
      refine rvS ?_
      refine rvP C (.pv (.lit (.bool true))) ?_
      refine rvP C (.pv (.lit (.bool true))) ?_
      refine rvS ?_
      refine rvS ?_
      refine rvS ?_
      refine rvc_shutU rfl rfl rfl ?_
      refine rvc_shutU rfl rfl rfl ?_
      refine rvc_shutU rfl rfl rfl ?_
      refine rvS ?_
      refine rvP C (.pv (.lit (.bool true))) ?_
      refine rvc_nil ?_
      refine Awp.condT (b := true) rfl rfl ?_
      refine Awp.consP C ?_
      refine rvP C (.pv (.lit (.int .i64 120))) ?_
      refine rvc_nil ?_
      refine Awp.ret ?_
      subst hR
      exact ⟨.inl rfl, rfl⟩
    ·
     replace hR := of_false h4 hR
     refine rvS ?_
     refine rvS ?_
     refine rvS ?_
     refine rvP C (.pv (.lit (.bool false))) ?_
     refine rvP C (.pv (.lit (.bool false))) ?_
     refine rvS ?_
     refine rvS ?_
     refine rvS ?_
     refine rvP C (.pv (.lit (.bool false))) ?_
     refine rvP C (.pv (.lit (.bool false))) ?_
     refine rvS ?_
     refine rvS ?_
     refine rvS ?_
     refine rvP C (.pv (.lit (.bool false))) ?_
     refine rvP C (.pv (.lit (.bool false))) ?_
     refine rvS ?_
     refine rvS ?_
     refine rvS ?_
     refine rvP C (.pv (.lit (.bool false))) ?_
     refine rvP C (.pv (.lit (.bool false))) ?_
     refine rvc_nil ?_
     refine Awp.seq ?_
     refine Awp.consP C ?_
     refine rvP C (.pv (.lit (.bool false))) ?_
     refine rvP C (.pv (.lit (.bool true))) ?_
     refine rvP C (.pv (.lit (.bool true))) ?_
     refine rvS ?_
     refine rvS ?_
     refine rvS ?_
     refine rvc_shutU rfl rfl rfl ?_
     refine rvc_shutU rfl rfl rfl ?_
     refine rvc_shutU rfl rfl rfl ?_
     refine rvS ?_
     refine rvP C (.pv (.lit (.bool true))) ?_
     refine rvP C (.pv (.lit (.bool true))) ?_
     refine rvS ?_
     refine rvS ?_
     refine rvS ?_
     refine rvc_shutU rfl rfl rfl ?_
     refine rvc_shutU rfl rfl rfl ?_
     refine rvc_shutU rfl rfl rfl ?_
     refine rvS ?_
     refine rvP C (.pv (.lit (.bool true))) ?_
     refine rvc_nil ?_
     refine Awp.condT (b := true) rfl rfl ?_
     refine Awp.consP C ?_
     refine rvP C (.pv (.lit (.int .i64 120))) ?_
     refine rvc_nil ?_
     refine Awp.ret ?_
     subst hR
     exact ⟨.inl rfl, rfl⟩
   ·
    replace hR := of_false h3 hR
    refine rvS ?_
    refine rvS ?_
    refine rvS ?_
    refine rvP C (.pv (.lit (.bool false))) ?_
    refine rvP C (.pv (.lit (.bool false))) ?_
    refine rvS ?_
    refine rvS ?_
    refine rvS ?_
    refine rvP C (.pv (.lit (.bool false))) ?_
    refine rvP C (.pv (.lit (.bool false))) ?_
    refine rvS ?_
    refine rvS ?_
    refine rvS ?_
    refine rvP C (.pv (.lit (.bool false))) ?_
    refine rvP C (.pv (.lit (.bool false))) ?_
    refine rvS ?_
    refine rvS ?_
    refine rvS ?_
    refine rvP C (.pv (.lit (.bool false))) ?_
    refine rvP C (.pv (.lit (.bool false))) ?_
    refine rvS ?_
    refine rvS ?_
    refine rvS ?_
    refine rvP C (.pv (.lit (.bool false))) ?_
    refine rvP C (.pv (.lit (.bool false))) ?_
    refine rvc_nil ?_
    refine Awp.seq ?_
    refine Awp.consP C ?_
    refine rvP C (.pv (.lit (.bool false))) ?_
    refine rvP C (.pv (.lit (.bool true))) ?_
    refine rvP C (.pv (.lit (.bool true))) ?_
    refine rvS ?_
    refine rvS ?_
    refine rvS ?_
    refine rvc_shutU rfl rfl rfl ?_
    refine rvc_shutU rfl rfl rfl ?_
    refine rvc_shutU rfl rfl rfl ?_
    refine rvS ?_
    refine rvP C (.pv (.lit (.bool true))) ?_
    refine rvP C (.pv (.lit (.bool true))) ?_
    refine rvS ?_
    refine rvS ?_
    refine rvS ?_
    refine rvc_shutU rfl rfl rfl ?_
    refine rvc_shutU rfl rfl rfl ?_
    refine rvc_shutU rfl rfl rfl ?_
    refine rvS ?_
    refine rvP C (.pv (.lit (.bool true))) ?_
    refine rvc_nil ?_
    refine Awp.condT (b := true) rfl rfl ?_
    refine Awp.consP C ?_
    refine rvP C (.pv (.lit (.int .i64 120))) ?_
    refine rvc_nil ?_
    refine Awp.ret ?_
    subst hR
    exact ⟨.inl rfl, rfl⟩
  ·
   replace hR := of_false h2 hR
   refine rvO C (.ptr 1 0) ?_
   refine rvO C (.pv (.lit (.int .i64 c.kind))) ?_
   refine rvO C (.pv (.lit (.bool (c.kind == 5)))) ?_
   refine rvP C (.pv (.lit (.bool (c.kind == 5)))) ?_
   refine rvP C (.pv (.lit (.bool (c.kind == 5)))) ?_
   refine rvc_nil ?_
   refine Awp.consP C ?_
   refine rvP C (.pv (.lit (.bool true))) ?_
   refine rvP C (.pv (.lit (.bool true))) ?_
   refine rvS ?_
   refine rvP C (.pv (.lit (.bool true))) ?_
   refine rvP C (.pv (.lit (.bool true))) ?_
   refine rvO C (.ptr 1 3) ?_
   refine rvO C (.pv (.lit (.int .i64 c.epoch))) ?_
   refine rvO C (.pv (.lit (.bool (decide (c.epoch ≥ 1))))) ?_
   refine rvP C (.pv (.lit (.bool (decide (c.epoch ≥ 1))))) ?_
   refine rvP C (.pv (.lit (.bool (decide (c.epoch ≥ 1))))) ?_
   refine rvc_case 41 (decide (c.epoch ≥ 1)) rfl (fun h9 => ?_) (fun h9 => ?_)
   ·
    replace hR := of_true h9 hR
    refine rvO C (.ptr 1 3) ?_
    refine rvO C (.pv (.lit (.int .i64 c.epoch))) ?_
    refine rvO C (.pv (.lit (.bool (decide (c.epoch ≤ 1099511627776))))) ?_
    refine rvP C (.pv (.lit (.bool (decide (c.epoch ≤ 1099511627776))))) ?_
    refine rvP C (.pv (.lit (.bool (decide (c.epoch ≤ 1099511627776))))) ?_
    refine rvc_case 46 (decide (c.epoch ≤ 1099511627776)) rfl (fun h10 => ?_) (fun h10 => ?_)
    ·
     replace hR := of_true h10 hR
     refine rvO C (.ptr 1 1) ?_
     refine rvO C (.pv (.lit (.int .i64 c.node))) ?_
     refine rvO C (.pv (.lit (.bool (decide (c.node ≥ 0))))) ?_
     refine rvP C (.pv (.lit (.bool (decide (c.node ≥ 0))))) ?_
     refine rvP C (.pv (.lit (.bool (decide (c.node ≥ 0))))) ?_
     refine rvc_case 51 (decide (c.node ≥ 0)) rfl (fun h11 => ?_) (fun h11 => ?_)
     ·
      replace hR := of_true h11 hR
      refine rvO C (.ptr 1 1) ?_
      refine rvO C (.pv (.lit (.int .i64 c.node))) ?_
      refine rvO C (.pv (.lit (.bool (decide (c.node ≤ 5))))) ?_
      refine rvP C (.pv (.lit (.bool (decide (c.node ≤ 5))))) ?_
      refine rvP C (.pv (.lit (.bool (decide (c.node ≤ 5))))) ?_
      refine rvc_case 56 (decide (c.node ≤ 5)) rfl (fun h12 => ?_) (fun h12 => ?_)
      ·
       replace hR := of_true h12 hR
       refine rvO C (.ptr 1 2) ?_
       refine rvO C (.pv (.lit (.int .i64 c.site))) ?_
       refine rvO C (.pv (.lit (.bool (decide (c.site ≥ 0))))) ?_
       refine rvP C (.pv (.lit (.bool (decide (c.site ≥ 0))))) ?_
       refine rvP C (.pv (.lit (.bool (decide (c.site ≥ 0))))) ?_
       refine rvc_case 61 (decide (c.site ≥ 0)) rfl (fun h13 => ?_) (fun h13 => ?_)
       ·
        replace hR := of_true h13 hR
        refine rvO C (.ptr 1 2) ?_
        refine rvO C (.pv (.lit (.int .i64 c.site))) ?_
        refine rvO C (.pv (.lit (.bool (decide (c.site ≤ 2))))) ?_
        refine rvP C (.pv (.lit (.bool (decide (c.site ≤ 2))))) ?_
        refine rvP C (.pv (.lit (.bool (decide (c.site ≤ 2))))) ?_
        refine rvc_nil ?_
        refine Awp.seq ?_
        refine Awp.consP C ?_
        refine rvP C (.pv (.lit (.bool (decide (c.site ≤ 2))))) ?_
        refine rvP C (.pv (.lit (.bool (!(decide (c.site ≤ 2)))))) ?_
        refine rvP C (.pv (.lit (.bool (!(decide (c.site ≤ 2)))))) ?_
        refine rvc_case 68 (!(decide (c.site ≤ 2))) rfl (fun h14 => ?_) (fun h14 => ?_)
        ·
         replace hR := of_true h14 hR
         refine rvS ?_
         refine rvS ?_
         refine rvS ?_
         refine rvc_shutU rfl rfl rfl ?_
         refine rvc_shutU rfl rfl rfl ?_
         refine rvc_shutU rfl rfl rfl ?_
         refine rvS ?_
         refine rvP C (.pv (.lit (.bool true))) ?_
         refine rvP C (.pv (.lit (.bool true))) ?_
         refine rvS ?_
         refine rvS ?_
         refine rvS ?_
         refine rvc_shutU rfl rfl rfl ?_
         refine rvc_shutU rfl rfl rfl ?_
         refine rvc_shutU rfl rfl rfl ?_
         refine rvS ?_
         refine rvP C (.pv (.lit (.bool true))) ?_
         refine rvc_nil ?_
         refine Awp.condT (b := true) rfl rfl ?_
         refine Awp.consP C ?_
         refine rvP C (.pv (.lit (.int .i64 120))) ?_
         refine rvc_nil ?_
         refine Awp.ret ?_
         subst hR
         exact ⟨.inl rfl, rfl⟩
        ·
         replace hR := of_false h14 hR
         refine rvO C (.pv (.lit (.bool true))) ?_
         refine rvO C (.pv (.lit (.bool false))) ?_
         refine rvO C (.pv (.lit (.bool false))) ?_
         refine rvS ?_
         refine rvS ?_
         refine rvS ?_
         refine rvO C (.pv (.lit (.bool false))) ?_
         refine rvP C (.pv (.lit (.bool false))) ?_
         refine rvP C (.pv (.lit (.bool false))) ?_
         refine rvO C (.pv (.lit (.bool (c.kind == 5)))) ?_
         refine rvO C (.pv (.lit (.bool (!(c.kind == 5))))) ?_
         refine rvO C (.pv (.lit (.bool (!(c.kind == 5))))) ?_
         refine rvc_case 80 (!(c.kind == 5)) rfl (fun h15 => ?_) (fun h15 => ?_)
         ·
          replace hR := of_true h15 hR
          refine rvO C (.ptr 1 2) ?_
          refine rvO C (.pv (.lit (.int .i64 c.site))) ?_
          refine rvO C (.pv (.lit (.bool (c.site != 0)))) ?_
          refine rvO C (.pv (.lit (.bool (c.site != 0)))) ?_
          refine rvP C (.pv (.lit (.bool (c.site != 0)))) ?_
          refine rvc_nil ?_
          refine Awp.cond (b := (c.site != 0)) rfl (fun h16 => ?_) (fun h16 => ?_)
          ·
           replace hR := of_true h16 hR
           refine Awp.consP C ?_
           refine rvP C (.pv (.lit (.int .i64 120))) ?_
           refine rvc_nil ?_
           refine Awp.ret ?_
           subst hR
           exact ⟨.inl rfl, rfl⟩
          ·
           replace hR := of_false h16 hR
           refine Awp.skip ?_
           refine Awp.consP C ?_
           refine rvP C (.pv (.lit (.int .i64 0))) ?_
           refine rvc_nil ?_
           refine Awp.ret ?_
           subst hR
           exact ⟨.inl rfl, rfl⟩
         ·
          replace hR := of_false h15 hR
          refine rvS ?_
          refine rvS ?_
          refine rvS ?_
          refine rvO C (.pv (.lit (.bool false))) ?_
          refine rvP C (.pv (.lit (.bool false))) ?_
          refine rvc_nil ?_
          refine Awp.condF (b := false) rfl rfl ?_
          refine Awp.skip ?_
          refine Awp.consP C ?_
          refine rvP C (.pv (.lit (.int .i64 0))) ?_
          refine rvc_nil ?_
          refine Awp.ret ?_
          subst hR
          exact ⟨.inl rfl, rfl⟩
       ·
        replace hR := of_false h13 hR
        refine rvS ?_
        refine rvS ?_
        refine rvS ?_
        refine rvP C (.pv (.lit (.bool false))) ?_
        refine rvP C (.pv (.lit (.bool false))) ?_
        refine rvc_nil ?_
        refine Awp.seq ?_
        refine Awp.consP C ?_
        refine rvP C (.pv (.lit (.bool false))) ?_
        refine rvP C (.pv (.lit (.bool true))) ?_
        refine rvP C (.pv (.lit (.bool true))) ?_
        refine rvS ?_
        refine rvS ?_
        refine rvS ?_
        refine rvc_shutU rfl rfl rfl ?_
        refine rvc_shutU rfl rfl rfl ?_
        refine rvc_shutU rfl rfl rfl ?_
        refine rvS ?_
        refine rvP C (.pv (.lit (.bool true))) ?_
        refine rvP C (.pv (.lit (.bool true))) ?_
        refine rvS ?_
        refine rvS ?_
        refine rvS ?_
        refine rvc_shutU rfl rfl rfl ?_
        refine rvc_shutU rfl rfl rfl ?_
        refine rvc_shutU rfl rfl rfl ?_
        refine rvS ?_
        refine rvP C (.pv (.lit (.bool true))) ?_
        refine rvc_nil ?_
        refine Awp.condT (b := true) rfl rfl ?_
        refine Awp.consP C ?_
        refine rvP C (.pv (.lit (.int .i64 120))) ?_
        refine rvc_nil ?_
        refine Awp.ret ?_
        subst hR
        exact ⟨.inl rfl, rfl⟩
      ·
       replace hR := of_false h12 hR
       refine rvS ?_
       refine rvS ?_
       refine rvS ?_
       refine rvP C (.pv (.lit (.bool false))) ?_
       refine rvP C (.pv (.lit (.bool false))) ?_
       refine rvS ?_
       refine rvS ?_
       refine rvS ?_
       refine rvP C (.pv (.lit (.bool false))) ?_
       refine rvP C (.pv (.lit (.bool false))) ?_
       refine rvc_nil ?_
       refine Awp.seq ?_
       refine Awp.consP C ?_
       refine rvP C (.pv (.lit (.bool false))) ?_
       refine rvP C (.pv (.lit (.bool true))) ?_
       refine rvP C (.pv (.lit (.bool true))) ?_
       refine rvS ?_
       refine rvS ?_
       refine rvS ?_
       refine rvc_shutU rfl rfl rfl ?_
       refine rvc_shutU rfl rfl rfl ?_
       refine rvc_shutU rfl rfl rfl ?_
       refine rvS ?_
       refine rvP C (.pv (.lit (.bool true))) ?_
       refine rvP C (.pv (.lit (.bool true))) ?_
       refine rvS ?_
       refine rvS ?_
       refine rvS ?_
       refine rvc_shutU rfl rfl rfl ?_
       refine rvc_shutU rfl rfl rfl ?_
       refine rvc_shutU rfl rfl rfl ?_
       refine rvS ?_
       refine rvP C (.pv (.lit (.bool true))) ?_
       refine rvc_nil ?_
       refine Awp.condT (b := true) rfl rfl ?_
       refine Awp.consP C ?_
       refine rvP C (.pv (.lit (.int .i64 120))) ?_
       refine rvc_nil ?_
       refine Awp.ret ?_
       subst hR
       exact ⟨.inl rfl, rfl⟩
     ·
      replace hR := of_false h11 hR
      refine rvS ?_
      refine rvS ?_
      refine rvS ?_
      refine rvP C (.pv (.lit (.bool false))) ?_
      refine rvP C (.pv (.lit (.bool false))) ?_
      refine rvS ?_
      refine rvS ?_
      refine rvS ?_
      refine rvP C (.pv (.lit (.bool false))) ?_
      refine rvP C (.pv (.lit (.bool false))) ?_
      refine rvS ?_
      refine rvS ?_
      refine rvS ?_
      refine rvP C (.pv (.lit (.bool false))) ?_
      refine rvP C (.pv (.lit (.bool false))) ?_
      refine rvc_nil ?_
      refine Awp.seq ?_
      refine Awp.consP C ?_
      refine rvP C (.pv (.lit (.bool false))) ?_
      refine rvP C (.pv (.lit (.bool true))) ?_
      refine rvP C (.pv (.lit (.bool true))) ?_
      refine rvS ?_
      refine rvS ?_
      refine rvS ?_
      refine rvc_shutU rfl rfl rfl ?_
      refine rvc_shutU rfl rfl rfl ?_
      refine rvc_shutU rfl rfl rfl ?_
      refine rvS ?_
      refine rvP C (.pv (.lit (.bool true))) ?_
      refine rvP C (.pv (.lit (.bool true))) ?_
      refine rvS ?_
      refine rvS ?_
      refine rvS ?_
      refine rvc_shutU rfl rfl rfl ?_
      refine rvc_shutU rfl rfl rfl ?_
      refine rvc_shutU rfl rfl rfl ?_
      refine rvS ?_
      refine rvP C (.pv (.lit (.bool true))) ?_
      refine rvc_nil ?_
      refine Awp.condT (b := true) rfl rfl ?_
      refine Awp.consP C ?_
      refine rvP C (.pv (.lit (.int .i64 120))) ?_
      refine rvc_nil ?_
      refine Awp.ret ?_
      subst hR
      exact ⟨.inl rfl, rfl⟩
    ·
     replace hR := of_false h10 hR
     refine rvS ?_
     refine rvS ?_
     refine rvS ?_
     refine rvP C (.pv (.lit (.bool false))) ?_
     refine rvP C (.pv (.lit (.bool false))) ?_
     refine rvS ?_
     refine rvS ?_
     refine rvS ?_
     refine rvP C (.pv (.lit (.bool false))) ?_
     refine rvP C (.pv (.lit (.bool false))) ?_
     refine rvS ?_
     refine rvS ?_
     refine rvS ?_
     refine rvP C (.pv (.lit (.bool false))) ?_
     refine rvP C (.pv (.lit (.bool false))) ?_
     refine rvS ?_
     refine rvS ?_
     refine rvS ?_
     refine rvP C (.pv (.lit (.bool false))) ?_
     refine rvP C (.pv (.lit (.bool false))) ?_
     refine rvc_nil ?_
     refine Awp.seq ?_
     refine Awp.consP C ?_
     refine rvP C (.pv (.lit (.bool false))) ?_
     refine rvP C (.pv (.lit (.bool true))) ?_
     refine rvP C (.pv (.lit (.bool true))) ?_
     refine rvS ?_
     refine rvS ?_
     refine rvS ?_
     refine rvc_shutU rfl rfl rfl ?_
     refine rvc_shutU rfl rfl rfl ?_
     refine rvc_shutU rfl rfl rfl ?_
     refine rvS ?_
     refine rvP C (.pv (.lit (.bool true))) ?_
     refine rvP C (.pv (.lit (.bool true))) ?_
     refine rvS ?_
     refine rvS ?_
     refine rvS ?_
     refine rvc_shutU rfl rfl rfl ?_
     refine rvc_shutU rfl rfl rfl ?_
     refine rvc_shutU rfl rfl rfl ?_
     refine rvS ?_
     refine rvP C (.pv (.lit (.bool true))) ?_
     refine rvc_nil ?_
     refine Awp.condT (b := true) rfl rfl ?_
     refine Awp.consP C ?_
     refine rvP C (.pv (.lit (.int .i64 120))) ?_
     refine rvc_nil ?_
     refine Awp.ret ?_
     subst hR
     exact ⟨.inl rfl, rfl⟩
   ·
    replace hR := of_false h9 hR
    refine rvS ?_
    refine rvS ?_
    refine rvS ?_
    refine rvP C (.pv (.lit (.bool false))) ?_
    refine rvP C (.pv (.lit (.bool false))) ?_
    refine rvS ?_
    refine rvS ?_
    refine rvS ?_
    refine rvP C (.pv (.lit (.bool false))) ?_
    refine rvP C (.pv (.lit (.bool false))) ?_
    refine rvS ?_
    refine rvS ?_
    refine rvS ?_
    refine rvP C (.pv (.lit (.bool false))) ?_
    refine rvP C (.pv (.lit (.bool false))) ?_
    refine rvS ?_
    refine rvS ?_
    refine rvS ?_
    refine rvP C (.pv (.lit (.bool false))) ?_
    refine rvP C (.pv (.lit (.bool false))) ?_
    refine rvS ?_
    refine rvS ?_
    refine rvS ?_
    refine rvP C (.pv (.lit (.bool false))) ?_
    refine rvP C (.pv (.lit (.bool false))) ?_
    refine rvc_nil ?_
    refine Awp.seq ?_
    refine Awp.consP C ?_
    refine rvP C (.pv (.lit (.bool false))) ?_
    refine rvP C (.pv (.lit (.bool true))) ?_
    refine rvP C (.pv (.lit (.bool true))) ?_
    refine rvS ?_
    refine rvS ?_
    refine rvS ?_
    refine rvc_shutU rfl rfl rfl ?_
    refine rvc_shutU rfl rfl rfl ?_
    refine rvc_shutU rfl rfl rfl ?_
    refine rvS ?_
    refine rvP C (.pv (.lit (.bool true))) ?_
    refine rvP C (.pv (.lit (.bool true))) ?_
    refine rvS ?_
    refine rvS ?_
    refine rvS ?_
    refine rvc_shutU rfl rfl rfl ?_
    refine rvc_shutU rfl rfl rfl ?_
    refine rvc_shutU rfl rfl rfl ?_
    refine rvS ?_
    refine rvP C (.pv (.lit (.bool true))) ?_
    refine rvc_nil ?_
    refine Awp.condT (b := true) rfl rfl ?_
    refine Awp.consP C ?_
    refine rvP C (.pv (.lit (.int .i64 120))) ?_
    refine rvc_nil ?_
    refine Awp.ret ?_
    subst hR
    exact ⟨.inl rfl, rfl⟩
 ·
  replace hR := of_false h1 hR
  refine rvO C (.ptr 1 0) ?_
  refine rvO C (.pv (.lit (.int .i64 c.kind))) ?_
  refine rvO C (.pv (.lit (.bool (c.kind == 2)))) ?_
  refine rvP C (.pv (.lit (.bool (c.kind == 2)))) ?_
  refine rvP C (.pv (.lit (.bool (c.kind == 2)))) ?_
  refine rvc_case 14 (c.kind == 2) rfl (fun h17 => ?_) (fun h17 => ?_)
  ·
   replace hR := of_true h17 hR
   refine rvS ?_
   refine rvS ?_
   refine rvS ?_
   refine rvP C (.pv (.lit (.bool true))) ?_
   refine rvP C (.pv (.lit (.bool true))) ?_
   refine rvS ?_
   refine rvS ?_
   refine rvS ?_
   refine rvP C (.pv (.lit (.bool true))) ?_
   refine rvP C (.pv (.lit (.bool true))) ?_
   refine rvc_nil ?_
   refine Awp.consP C ?_
   refine rvP C (.ptr 1 0) ?_
   refine rvP C (.pv (.lit (.int .i64 c.kind))) ?_
   refine rvP C (.pv (.lit (.bool (c.kind == 2)))) ?_
   refine rvP C (.pv (.lit (.bool (c.kind == 2)))) ?_
   refine rvc_known 27 (c.kind == 2) true rfl h17 ?_
   refine rvS ?_
   refine rvS ?_
   refine rvS ?_
   refine rvP C (.pv (.lit (.bool true))) ?_
   refine rvP C (.pv (.lit (.bool true))) ?_
   refine rvc_nil ?_
   refine Awp.consP C ?_
   refine rvP C (.pv (.lit (.bool true))) ?_
   refine rvP C (.pv (.lit (.bool true))) ?_
   refine rvS ?_
   refine rvP C (.pv (.lit (.bool true))) ?_
   refine rvP C (.pv (.lit (.bool true))) ?_
   refine rvO C (.ptr 1 3) ?_
   refine rvO C (.pv (.lit (.int .i64 c.epoch))) ?_
   refine rvO C (.pv (.lit (.bool (decide (c.epoch ≥ 1))))) ?_
   refine rvP C (.pv (.lit (.bool (decide (c.epoch ≥ 1))))) ?_
   refine rvP C (.pv (.lit (.bool (decide (c.epoch ≥ 1))))) ?_
   refine rvc_case 41 (decide (c.epoch ≥ 1)) rfl (fun h18 => ?_) (fun h18 => ?_)
   ·
    replace hR := of_true h18 hR
    refine rvO C (.ptr 1 3) ?_
    refine rvO C (.pv (.lit (.int .i64 c.epoch))) ?_
    refine rvO C (.pv (.lit (.bool (decide (c.epoch ≤ 1099511627776))))) ?_
    refine rvP C (.pv (.lit (.bool (decide (c.epoch ≤ 1099511627776))))) ?_
    refine rvP C (.pv (.lit (.bool (decide (c.epoch ≤ 1099511627776))))) ?_
    refine rvc_case 46 (decide (c.epoch ≤ 1099511627776)) rfl (fun h19 => ?_) (fun h19 => ?_)
    ·
     replace hR := of_true h19 hR
     refine rvO C (.ptr 1 1) ?_
     refine rvO C (.pv (.lit (.int .i64 c.node))) ?_
     refine rvO C (.pv (.lit (.bool (decide (c.node ≥ 0))))) ?_
     refine rvP C (.pv (.lit (.bool (decide (c.node ≥ 0))))) ?_
     refine rvP C (.pv (.lit (.bool (decide (c.node ≥ 0))))) ?_
     refine rvc_case 51 (decide (c.node ≥ 0)) rfl (fun h20 => ?_) (fun h20 => ?_)
     ·
      replace hR := of_true h20 hR
      refine rvO C (.ptr 1 1) ?_
      refine rvO C (.pv (.lit (.int .i64 c.node))) ?_
      refine rvO C (.pv (.lit (.bool (decide (c.node ≤ 5))))) ?_
      refine rvP C (.pv (.lit (.bool (decide (c.node ≤ 5))))) ?_
      refine rvP C (.pv (.lit (.bool (decide (c.node ≤ 5))))) ?_
      refine rvc_case 56 (decide (c.node ≤ 5)) rfl (fun h21 => ?_) (fun h21 => ?_)
      ·
       replace hR := of_true h21 hR
       refine rvO C (.ptr 1 2) ?_
       refine rvO C (.pv (.lit (.int .i64 c.site))) ?_
       refine rvO C (.pv (.lit (.bool (decide (c.site ≥ 0))))) ?_
       refine rvP C (.pv (.lit (.bool (decide (c.site ≥ 0))))) ?_
       refine rvP C (.pv (.lit (.bool (decide (c.site ≥ 0))))) ?_
       refine rvc_case 61 (decide (c.site ≥ 0)) rfl (fun h22 => ?_) (fun h22 => ?_)
       ·
        replace hR := of_true h22 hR
        refine rvO C (.ptr 1 2) ?_
        refine rvO C (.pv (.lit (.int .i64 c.site))) ?_
        refine rvO C (.pv (.lit (.bool (decide (c.site ≤ 2))))) ?_
        refine rvP C (.pv (.lit (.bool (decide (c.site ≤ 2))))) ?_
        refine rvP C (.pv (.lit (.bool (decide (c.site ≤ 2))))) ?_
        refine rvc_nil ?_
        refine Awp.seq ?_
        refine Awp.consP C ?_
        refine rvP C (.pv (.lit (.bool (decide (c.site ≤ 2))))) ?_
        refine rvP C (.pv (.lit (.bool (!(decide (c.site ≤ 2)))))) ?_
        refine rvP C (.pv (.lit (.bool (!(decide (c.site ≤ 2)))))) ?_
        refine rvc_case 68 (!(decide (c.site ≤ 2))) rfl (fun h23 => ?_) (fun h23 => ?_)
        ·
         replace hR := of_true h23 hR
         refine rvS ?_
         refine rvS ?_
         refine rvS ?_
         refine rvc_shutU rfl rfl rfl ?_
         refine rvc_shutU rfl rfl rfl ?_
         refine rvc_shutU rfl rfl rfl ?_
         refine rvS ?_
         refine rvP C (.pv (.lit (.bool true))) ?_
         refine rvP C (.pv (.lit (.bool true))) ?_
         refine rvS ?_
         refine rvS ?_
         refine rvS ?_
         refine rvc_shutU rfl rfl rfl ?_
         refine rvc_shutU rfl rfl rfl ?_
         refine rvc_shutU rfl rfl rfl ?_
         refine rvS ?_
         refine rvP C (.pv (.lit (.bool true))) ?_
         refine rvc_nil ?_
         refine Awp.condT (b := true) rfl rfl ?_
         refine Awp.consP C ?_
         refine rvP C (.pv (.lit (.int .i64 120))) ?_
         refine rvc_nil ?_
         refine Awp.ret ?_
         subst hR
         exact ⟨.inl rfl, rfl⟩
        ·
         replace hR := of_false h23 hR
         refine rvO C (.pv (.lit (.bool true))) ?_
         refine rvO C (.pv (.lit (.bool false))) ?_
         refine rvO C (.pv (.lit (.bool false))) ?_
         refine rvS ?_
         refine rvS ?_
         refine rvS ?_
         refine rvO C (.pv (.lit (.bool false))) ?_
         refine rvP C (.pv (.lit (.bool false))) ?_
         refine rvP C (.pv (.lit (.bool false))) ?_
         refine rvO C (.pv (.lit (.bool true))) ?_
         refine rvO C (.pv (.lit (.bool false))) ?_
         refine rvO C (.pv (.lit (.bool false))) ?_
         refine rvS ?_
         refine rvS ?_
         refine rvS ?_
         refine rvO C (.pv (.lit (.bool false))) ?_
         refine rvP C (.pv (.lit (.bool false))) ?_
         refine rvc_nil ?_
         refine Awp.condF (b := false) rfl rfl ?_
         refine Awp.skip ?_
         refine Awp.consP C ?_
         refine rvP C (.pv (.lit (.int .i64 0))) ?_
         refine rvc_nil ?_
         refine Awp.ret ?_
         subst hR
         exact ⟨.inl rfl, rfl⟩
       ·
        replace hR := of_false h22 hR
        refine rvS ?_
        refine rvS ?_
        refine rvS ?_
        refine rvP C (.pv (.lit (.bool false))) ?_
        refine rvP C (.pv (.lit (.bool false))) ?_
        refine rvc_nil ?_
        refine Awp.seq ?_
        refine Awp.consP C ?_
        refine rvP C (.pv (.lit (.bool false))) ?_
        refine rvP C (.pv (.lit (.bool true))) ?_
        refine rvP C (.pv (.lit (.bool true))) ?_
        refine rvS ?_
        refine rvS ?_
        refine rvS ?_
        refine rvc_shutU rfl rfl rfl ?_
        refine rvc_shutU rfl rfl rfl ?_
        refine rvc_shutU rfl rfl rfl ?_
        refine rvS ?_
        refine rvP C (.pv (.lit (.bool true))) ?_
        refine rvP C (.pv (.lit (.bool true))) ?_
        refine rvS ?_
        refine rvS ?_
        refine rvS ?_
        refine rvc_shutU rfl rfl rfl ?_
        refine rvc_shutU rfl rfl rfl ?_
        refine rvc_shutU rfl rfl rfl ?_
        refine rvS ?_
        refine rvP C (.pv (.lit (.bool true))) ?_
        refine rvc_nil ?_
        refine Awp.condT (b := true) rfl rfl ?_
        refine Awp.consP C ?_
        refine rvP C (.pv (.lit (.int .i64 120))) ?_
        refine rvc_nil ?_
        refine Awp.ret ?_
        subst hR
        exact ⟨.inl rfl, rfl⟩
      ·
       replace hR := of_false h21 hR
       refine rvS ?_
       refine rvS ?_
       refine rvS ?_
       refine rvP C (.pv (.lit (.bool false))) ?_
       refine rvP C (.pv (.lit (.bool false))) ?_
       refine rvS ?_
       refine rvS ?_
       refine rvS ?_
       refine rvP C (.pv (.lit (.bool false))) ?_
       refine rvP C (.pv (.lit (.bool false))) ?_
       refine rvc_nil ?_
       refine Awp.seq ?_
       refine Awp.consP C ?_
       refine rvP C (.pv (.lit (.bool false))) ?_
       refine rvP C (.pv (.lit (.bool true))) ?_
       refine rvP C (.pv (.lit (.bool true))) ?_
       refine rvS ?_
       refine rvS ?_
       refine rvS ?_
       refine rvc_shutU rfl rfl rfl ?_
       refine rvc_shutU rfl rfl rfl ?_
       refine rvc_shutU rfl rfl rfl ?_
       refine rvS ?_
       refine rvP C (.pv (.lit (.bool true))) ?_
       refine rvP C (.pv (.lit (.bool true))) ?_
       refine rvS ?_
       refine rvS ?_
       refine rvS ?_
       refine rvc_shutU rfl rfl rfl ?_
       refine rvc_shutU rfl rfl rfl ?_
       refine rvc_shutU rfl rfl rfl ?_
       refine rvS ?_
       refine rvP C (.pv (.lit (.bool true))) ?_
       refine rvc_nil ?_
       refine Awp.condT (b := true) rfl rfl ?_
       refine Awp.consP C ?_
       refine rvP C (.pv (.lit (.int .i64 120))) ?_
       refine rvc_nil ?_
       refine Awp.ret ?_
       subst hR
       exact ⟨.inl rfl, rfl⟩
     ·
      replace hR := of_false h20 hR
      refine rvS ?_
      refine rvS ?_
      refine rvS ?_
      refine rvP C (.pv (.lit (.bool false))) ?_
      refine rvP C (.pv (.lit (.bool false))) ?_
      refine rvS ?_
      refine rvS ?_
      refine rvS ?_
      refine rvP C (.pv (.lit (.bool false))) ?_
      refine rvP C (.pv (.lit (.bool false))) ?_
      refine rvS ?_
      refine rvS ?_
      refine rvS ?_
      refine rvP C (.pv (.lit (.bool false))) ?_
      refine rvP C (.pv (.lit (.bool false))) ?_
      refine rvc_nil ?_
      refine Awp.seq ?_
      refine Awp.consP C ?_
      refine rvP C (.pv (.lit (.bool false))) ?_
      refine rvP C (.pv (.lit (.bool true))) ?_
      refine rvP C (.pv (.lit (.bool true))) ?_
      refine rvS ?_
      refine rvS ?_
      refine rvS ?_
      refine rvc_shutU rfl rfl rfl ?_
      refine rvc_shutU rfl rfl rfl ?_
      refine rvc_shutU rfl rfl rfl ?_
      refine rvS ?_
      refine rvP C (.pv (.lit (.bool true))) ?_
      refine rvP C (.pv (.lit (.bool true))) ?_
      refine rvS ?_
      refine rvS ?_
      refine rvS ?_
      refine rvc_shutU rfl rfl rfl ?_
      refine rvc_shutU rfl rfl rfl ?_
      refine rvc_shutU rfl rfl rfl ?_
      refine rvS ?_
      refine rvP C (.pv (.lit (.bool true))) ?_
      refine rvc_nil ?_
      refine Awp.condT (b := true) rfl rfl ?_
      refine Awp.consP C ?_
      refine rvP C (.pv (.lit (.int .i64 120))) ?_
      refine rvc_nil ?_
      refine Awp.ret ?_
      subst hR
      exact ⟨.inl rfl, rfl⟩
    ·
     replace hR := of_false h19 hR
     refine rvS ?_
     refine rvS ?_
     refine rvS ?_
     refine rvP C (.pv (.lit (.bool false))) ?_
     refine rvP C (.pv (.lit (.bool false))) ?_
     refine rvS ?_
     refine rvS ?_
     refine rvS ?_
     refine rvP C (.pv (.lit (.bool false))) ?_
     refine rvP C (.pv (.lit (.bool false))) ?_
     refine rvS ?_
     refine rvS ?_
     refine rvS ?_
     refine rvP C (.pv (.lit (.bool false))) ?_
     refine rvP C (.pv (.lit (.bool false))) ?_
     refine rvS ?_
     refine rvS ?_
     refine rvS ?_
     refine rvP C (.pv (.lit (.bool false))) ?_
     refine rvP C (.pv (.lit (.bool false))) ?_
     refine rvc_nil ?_
     refine Awp.seq ?_
     refine Awp.consP C ?_
     refine rvP C (.pv (.lit (.bool false))) ?_
     refine rvP C (.pv (.lit (.bool true))) ?_
     refine rvP C (.pv (.lit (.bool true))) ?_
     refine rvS ?_
     refine rvS ?_
     refine rvS ?_
     refine rvc_shutU rfl rfl rfl ?_
     refine rvc_shutU rfl rfl rfl ?_
     refine rvc_shutU rfl rfl rfl ?_
     refine rvS ?_
     refine rvP C (.pv (.lit (.bool true))) ?_
     refine rvP C (.pv (.lit (.bool true))) ?_
     refine rvS ?_
     refine rvS ?_
     refine rvS ?_
     refine rvc_shutU rfl rfl rfl ?_
     refine rvc_shutU rfl rfl rfl ?_
     refine rvc_shutU rfl rfl rfl ?_
     refine rvS ?_
     refine rvP C (.pv (.lit (.bool true))) ?_
     refine rvc_nil ?_
     refine Awp.condT (b := true) rfl rfl ?_
     refine Awp.consP C ?_
     refine rvP C (.pv (.lit (.int .i64 120))) ?_
     refine rvc_nil ?_
     refine Awp.ret ?_
     subst hR
     exact ⟨.inl rfl, rfl⟩
   ·
    replace hR := of_false h18 hR
    refine rvS ?_
    refine rvS ?_
    refine rvS ?_
    refine rvP C (.pv (.lit (.bool false))) ?_
    refine rvP C (.pv (.lit (.bool false))) ?_
    refine rvS ?_
    refine rvS ?_
    refine rvS ?_
    refine rvP C (.pv (.lit (.bool false))) ?_
    refine rvP C (.pv (.lit (.bool false))) ?_
    refine rvS ?_
    refine rvS ?_
    refine rvS ?_
    refine rvP C (.pv (.lit (.bool false))) ?_
    refine rvP C (.pv (.lit (.bool false))) ?_
    refine rvS ?_
    refine rvS ?_
    refine rvS ?_
    refine rvP C (.pv (.lit (.bool false))) ?_
    refine rvP C (.pv (.lit (.bool false))) ?_
    refine rvS ?_
    refine rvS ?_
    refine rvS ?_
    refine rvP C (.pv (.lit (.bool false))) ?_
    refine rvP C (.pv (.lit (.bool false))) ?_
    refine rvc_nil ?_
    refine Awp.seq ?_
    refine Awp.consP C ?_
    refine rvP C (.pv (.lit (.bool false))) ?_
    refine rvP C (.pv (.lit (.bool true))) ?_
    refine rvP C (.pv (.lit (.bool true))) ?_
    refine rvS ?_
    refine rvS ?_
    refine rvS ?_
    refine rvc_shutU rfl rfl rfl ?_
    refine rvc_shutU rfl rfl rfl ?_
    refine rvc_shutU rfl rfl rfl ?_
    refine rvS ?_
    refine rvP C (.pv (.lit (.bool true))) ?_
    refine rvP C (.pv (.lit (.bool true))) ?_
    refine rvS ?_
    refine rvS ?_
    refine rvS ?_
    refine rvc_shutU rfl rfl rfl ?_
    refine rvc_shutU rfl rfl rfl ?_
    refine rvc_shutU rfl rfl rfl ?_
    refine rvS ?_
    refine rvP C (.pv (.lit (.bool true))) ?_
    refine rvc_nil ?_
    refine Awp.condT (b := true) rfl rfl ?_
    refine Awp.consP C ?_
    refine rvP C (.pv (.lit (.int .i64 120))) ?_
    refine rvc_nil ?_
    refine Awp.ret ?_
    subst hR
    exact ⟨.inl rfl, rfl⟩
  ·
   replace hR := of_false h17 hR
   refine rvO C (.ptr 1 0) ?_
   refine rvO C (.pv (.lit (.int .i64 c.kind))) ?_
   refine rvO C (.pv (.lit (.bool (c.kind == 3)))) ?_
   refine rvP C (.pv (.lit (.bool (c.kind == 3)))) ?_
   refine rvP C (.pv (.lit (.bool (c.kind == 3)))) ?_
   refine rvc_case 19 (c.kind == 3) rfl (fun h24 => ?_) (fun h24 => ?_)
   ·
    replace hR := of_true h24 hR
    refine rvS ?_
    refine rvS ?_
    refine rvS ?_
    refine rvP C (.pv (.lit (.bool true))) ?_
    refine rvP C (.pv (.lit (.bool true))) ?_
    refine rvc_nil ?_
    refine Awp.consP C ?_
    refine rvP C (.ptr 1 0) ?_
    refine rvP C (.pv (.lit (.int .i64 c.kind))) ?_
    refine rvP C (.pv (.lit (.bool (c.kind == 2)))) ?_
    refine rvP C (.pv (.lit (.bool (c.kind == 2)))) ?_
    refine rvc_known 27 (c.kind == 2) false rfl h17 ?_
    refine rvO C (.ptr 1 0) ?_
    refine rvO C (.pv (.lit (.int .i64 c.kind))) ?_
    refine rvO C (.pv (.lit (.bool (c.kind == 5)))) ?_
    refine rvP C (.pv (.lit (.bool (c.kind == 5)))) ?_
    refine rvP C (.pv (.lit (.bool (c.kind == 5)))) ?_
    refine rvc_nil ?_
    refine Awp.consP C ?_
    refine rvP C (.pv (.lit (.bool true))) ?_
    refine rvP C (.pv (.lit (.bool true))) ?_
    refine rvS ?_
    refine rvP C (.pv (.lit (.bool true))) ?_
    refine rvP C (.pv (.lit (.bool true))) ?_
    refine rvO C (.ptr 1 3) ?_
    refine rvO C (.pv (.lit (.int .i64 c.epoch))) ?_
    refine rvO C (.pv (.lit (.bool (decide (c.epoch ≥ 1))))) ?_
    refine rvP C (.pv (.lit (.bool (decide (c.epoch ≥ 1))))) ?_
    refine rvP C (.pv (.lit (.bool (decide (c.epoch ≥ 1))))) ?_
    refine rvc_case 41 (decide (c.epoch ≥ 1)) rfl (fun h25 => ?_) (fun h25 => ?_)
    ·
     replace hR := of_true h25 hR
     refine rvO C (.ptr 1 3) ?_
     refine rvO C (.pv (.lit (.int .i64 c.epoch))) ?_
     refine rvO C (.pv (.lit (.bool (decide (c.epoch ≤ 1099511627776))))) ?_
     refine rvP C (.pv (.lit (.bool (decide (c.epoch ≤ 1099511627776))))) ?_
     refine rvP C (.pv (.lit (.bool (decide (c.epoch ≤ 1099511627776))))) ?_
     refine rvc_case 46 (decide (c.epoch ≤ 1099511627776)) rfl (fun h26 => ?_) (fun h26 => ?_)
     ·
      replace hR := of_true h26 hR
      refine rvO C (.ptr 1 1) ?_
      refine rvO C (.pv (.lit (.int .i64 c.node))) ?_
      refine rvO C (.pv (.lit (.bool (decide (c.node ≥ 0))))) ?_
      refine rvP C (.pv (.lit (.bool (decide (c.node ≥ 0))))) ?_
      refine rvP C (.pv (.lit (.bool (decide (c.node ≥ 0))))) ?_
      refine rvc_case 51 (decide (c.node ≥ 0)) rfl (fun h27 => ?_) (fun h27 => ?_)
      ·
       replace hR := of_true h27 hR
       refine rvO C (.ptr 1 1) ?_
       refine rvO C (.pv (.lit (.int .i64 c.node))) ?_
       refine rvO C (.pv (.lit (.bool (decide (c.node ≤ 5))))) ?_
       refine rvP C (.pv (.lit (.bool (decide (c.node ≤ 5))))) ?_
       refine rvP C (.pv (.lit (.bool (decide (c.node ≤ 5))))) ?_
       refine rvc_case 56 (decide (c.node ≤ 5)) rfl (fun h28 => ?_) (fun h28 => ?_)
       ·
        replace hR := of_true h28 hR
        refine rvO C (.ptr 1 2) ?_
        refine rvO C (.pv (.lit (.int .i64 c.site))) ?_
        refine rvO C (.pv (.lit (.bool (decide (c.site ≥ 0))))) ?_
        refine rvP C (.pv (.lit (.bool (decide (c.site ≥ 0))))) ?_
        refine rvP C (.pv (.lit (.bool (decide (c.site ≥ 0))))) ?_
        refine rvc_case 61 (decide (c.site ≥ 0)) rfl (fun h29 => ?_) (fun h29 => ?_)
        ·
         replace hR := of_true h29 hR
         refine rvO C (.ptr 1 2) ?_
         refine rvO C (.pv (.lit (.int .i64 c.site))) ?_
         refine rvO C (.pv (.lit (.bool (decide (c.site ≤ 2))))) ?_
         refine rvP C (.pv (.lit (.bool (decide (c.site ≤ 2))))) ?_
         refine rvP C (.pv (.lit (.bool (decide (c.site ≤ 2))))) ?_
         refine rvc_nil ?_
         refine Awp.seq ?_
         refine Awp.consP C ?_
         refine rvP C (.pv (.lit (.bool (decide (c.site ≤ 2))))) ?_
         refine rvP C (.pv (.lit (.bool (!(decide (c.site ≤ 2)))))) ?_
         refine rvP C (.pv (.lit (.bool (!(decide (c.site ≤ 2)))))) ?_
         refine rvc_case 68 (!(decide (c.site ≤ 2))) rfl (fun h30 => ?_) (fun h30 => ?_)
         ·
          replace hR := of_true h30 hR
          refine rvS ?_
          refine rvS ?_
          refine rvS ?_
          refine rvc_shutU rfl rfl rfl ?_
          refine rvc_shutU rfl rfl rfl ?_
          refine rvc_shutU rfl rfl rfl ?_
          refine rvS ?_
          refine rvP C (.pv (.lit (.bool true))) ?_
          refine rvP C (.pv (.lit (.bool true))) ?_
          refine rvS ?_
          refine rvS ?_
          refine rvS ?_
          refine rvc_shutU rfl rfl rfl ?_
          refine rvc_shutU rfl rfl rfl ?_
          refine rvc_shutU rfl rfl rfl ?_
          refine rvS ?_
          refine rvP C (.pv (.lit (.bool true))) ?_
          refine rvc_nil ?_
          refine Awp.condT (b := true) rfl rfl ?_
          refine Awp.consP C ?_
          refine rvP C (.pv (.lit (.int .i64 120))) ?_
          refine rvc_nil ?_
          refine Awp.ret ?_
          subst hR
          exact ⟨.inl rfl, rfl⟩
         ·
          replace hR := of_false h30 hR
          refine rvO C (.pv (.lit (.bool true))) ?_
          refine rvO C (.pv (.lit (.bool false))) ?_
          refine rvO C (.pv (.lit (.bool false))) ?_
          refine rvS ?_
          refine rvS ?_
          refine rvS ?_
          refine rvO C (.pv (.lit (.bool false))) ?_
          refine rvP C (.pv (.lit (.bool false))) ?_
          refine rvP C (.pv (.lit (.bool false))) ?_
          refine rvO C (.pv (.lit (.bool (c.kind == 5)))) ?_
          refine rvO C (.pv (.lit (.bool (!(c.kind == 5))))) ?_
          refine rvO C (.pv (.lit (.bool (!(c.kind == 5))))) ?_
          refine rvc_case 80 (!(c.kind == 5)) rfl (fun h31 => ?_) (fun h31 => ?_)
          ·
           replace hR := of_true h31 hR
           refine rvO C (.ptr 1 2) ?_
           refine rvO C (.pv (.lit (.int .i64 c.site))) ?_
           refine rvO C (.pv (.lit (.bool (c.site != 0)))) ?_
           refine rvO C (.pv (.lit (.bool (c.site != 0)))) ?_
           refine rvP C (.pv (.lit (.bool (c.site != 0)))) ?_
           refine rvc_nil ?_
           refine Awp.cond (b := (c.site != 0)) rfl (fun h32 => ?_) (fun h32 => ?_)
           ·
            replace hR := of_true h32 hR
            refine Awp.consP C ?_
            refine rvP C (.pv (.lit (.int .i64 120))) ?_
            refine rvc_nil ?_
            refine Awp.ret ?_
            subst hR
            exact ⟨.inl rfl, rfl⟩
           ·
            replace hR := of_false h32 hR
            refine Awp.skip ?_
            refine Awp.consP C ?_
            refine rvP C (.pv (.lit (.int .i64 0))) ?_
            refine rvc_nil ?_
            refine Awp.ret ?_
            subst hR
            exact ⟨.inl rfl, rfl⟩
          ·
           replace hR := of_false h31 hR
           refine rvS ?_
           refine rvS ?_
           refine rvS ?_
           refine rvO C (.pv (.lit (.bool false))) ?_
           refine rvP C (.pv (.lit (.bool false))) ?_
           refine rvc_nil ?_
           refine Awp.condF (b := false) rfl rfl ?_
           refine Awp.skip ?_
           refine Awp.consP C ?_
           refine rvP C (.pv (.lit (.int .i64 0))) ?_
           refine rvc_nil ?_
           refine Awp.ret ?_
           subst hR
           exact ⟨.inl rfl, rfl⟩
        ·
         replace hR := of_false h29 hR
         refine rvS ?_
         refine rvS ?_
         refine rvS ?_
         refine rvP C (.pv (.lit (.bool false))) ?_
         refine rvP C (.pv (.lit (.bool false))) ?_
         refine rvc_nil ?_
         refine Awp.seq ?_
         refine Awp.consP C ?_
         refine rvP C (.pv (.lit (.bool false))) ?_
         refine rvP C (.pv (.lit (.bool true))) ?_
         refine rvP C (.pv (.lit (.bool true))) ?_
         refine rvS ?_
         refine rvS ?_
         refine rvS ?_
         refine rvc_shutU rfl rfl rfl ?_
         refine rvc_shutU rfl rfl rfl ?_
         refine rvc_shutU rfl rfl rfl ?_
         refine rvS ?_
         refine rvP C (.pv (.lit (.bool true))) ?_
         refine rvP C (.pv (.lit (.bool true))) ?_
         refine rvS ?_
         refine rvS ?_
         refine rvS ?_
         refine rvc_shutU rfl rfl rfl ?_
         refine rvc_shutU rfl rfl rfl ?_
         refine rvc_shutU rfl rfl rfl ?_
         refine rvS ?_
         refine rvP C (.pv (.lit (.bool true))) ?_
         refine rvc_nil ?_
         refine Awp.condT (b := true) rfl rfl ?_
         refine Awp.consP C ?_
         refine rvP C (.pv (.lit (.int .i64 120))) ?_
         refine rvc_nil ?_
         refine Awp.ret ?_
         subst hR
         exact ⟨.inl rfl, rfl⟩
       ·
        replace hR := of_false h28 hR
        refine rvS ?_
        refine rvS ?_
        refine rvS ?_
        refine rvP C (.pv (.lit (.bool false))) ?_
        refine rvP C (.pv (.lit (.bool false))) ?_
        refine rvS ?_
        refine rvS ?_
        refine rvS ?_
        refine rvP C (.pv (.lit (.bool false))) ?_
        refine rvP C (.pv (.lit (.bool false))) ?_
        refine rvc_nil ?_
        refine Awp.seq ?_
        refine Awp.consP C ?_
        refine rvP C (.pv (.lit (.bool false))) ?_
        refine rvP C (.pv (.lit (.bool true))) ?_
        refine rvP C (.pv (.lit (.bool true))) ?_
        refine rvS ?_
        refine rvS ?_
        refine rvS ?_
        refine rvc_shutU rfl rfl rfl ?_
        refine rvc_shutU rfl rfl rfl ?_
        refine rvc_shutU rfl rfl rfl ?_
        refine rvS ?_
        refine rvP C (.pv (.lit (.bool true))) ?_
        refine rvP C (.pv (.lit (.bool true))) ?_
        refine rvS ?_
        refine rvS ?_
        refine rvS ?_
        refine rvc_shutU rfl rfl rfl ?_
        refine rvc_shutU rfl rfl rfl ?_
        refine rvc_shutU rfl rfl rfl ?_
        refine rvS ?_
        refine rvP C (.pv (.lit (.bool true))) ?_
        refine rvc_nil ?_
        refine Awp.condT (b := true) rfl rfl ?_
        refine Awp.consP C ?_
        refine rvP C (.pv (.lit (.int .i64 120))) ?_
        refine rvc_nil ?_
        refine Awp.ret ?_
        subst hR
        exact ⟨.inl rfl, rfl⟩
      ·
       replace hR := of_false h27 hR
       refine rvS ?_
       refine rvS ?_
       refine rvS ?_
       refine rvP C (.pv (.lit (.bool false))) ?_
       refine rvP C (.pv (.lit (.bool false))) ?_
       refine rvS ?_
       refine rvS ?_
       refine rvS ?_
       refine rvP C (.pv (.lit (.bool false))) ?_
       refine rvP C (.pv (.lit (.bool false))) ?_
       refine rvS ?_
       refine rvS ?_
       refine rvS ?_
       refine rvP C (.pv (.lit (.bool false))) ?_
       refine rvP C (.pv (.lit (.bool false))) ?_
       refine rvc_nil ?_
       refine Awp.seq ?_
       refine Awp.consP C ?_
       refine rvP C (.pv (.lit (.bool false))) ?_
       refine rvP C (.pv (.lit (.bool true))) ?_
       refine rvP C (.pv (.lit (.bool true))) ?_
       refine rvS ?_
       refine rvS ?_
       refine rvS ?_
       refine rvc_shutU rfl rfl rfl ?_
       refine rvc_shutU rfl rfl rfl ?_
       refine rvc_shutU rfl rfl rfl ?_
       refine rvS ?_
       refine rvP C (.pv (.lit (.bool true))) ?_
       refine rvP C (.pv (.lit (.bool true))) ?_
       refine rvS ?_
       refine rvS ?_
       refine rvS ?_
       refine rvc_shutU rfl rfl rfl ?_
       refine rvc_shutU rfl rfl rfl ?_
       refine rvc_shutU rfl rfl rfl ?_
       refine rvS ?_
       refine rvP C (.pv (.lit (.bool true))) ?_
       refine rvc_nil ?_
       refine Awp.condT (b := true) rfl rfl ?_
       refine Awp.consP C ?_
       refine rvP C (.pv (.lit (.int .i64 120))) ?_
       refine rvc_nil ?_
       refine Awp.ret ?_
       subst hR
       exact ⟨.inl rfl, rfl⟩
     ·
      replace hR := of_false h26 hR
      refine rvS ?_
      refine rvS ?_
      refine rvS ?_
      refine rvP C (.pv (.lit (.bool false))) ?_
      refine rvP C (.pv (.lit (.bool false))) ?_
      refine rvS ?_
      refine rvS ?_
      refine rvS ?_
      refine rvP C (.pv (.lit (.bool false))) ?_
      refine rvP C (.pv (.lit (.bool false))) ?_
      refine rvS ?_
      refine rvS ?_
      refine rvS ?_
      refine rvP C (.pv (.lit (.bool false))) ?_
      refine rvP C (.pv (.lit (.bool false))) ?_
      refine rvS ?_
      refine rvS ?_
      refine rvS ?_
      refine rvP C (.pv (.lit (.bool false))) ?_
      refine rvP C (.pv (.lit (.bool false))) ?_
      refine rvc_nil ?_
      refine Awp.seq ?_
      refine Awp.consP C ?_
      refine rvP C (.pv (.lit (.bool false))) ?_
      refine rvP C (.pv (.lit (.bool true))) ?_
      refine rvP C (.pv (.lit (.bool true))) ?_
      refine rvS ?_
      refine rvS ?_
      refine rvS ?_
      refine rvc_shutU rfl rfl rfl ?_
      refine rvc_shutU rfl rfl rfl ?_
      refine rvc_shutU rfl rfl rfl ?_
      refine rvS ?_
      refine rvP C (.pv (.lit (.bool true))) ?_
      refine rvP C (.pv (.lit (.bool true))) ?_
      refine rvS ?_
      refine rvS ?_
      refine rvS ?_
      refine rvc_shutU rfl rfl rfl ?_
      refine rvc_shutU rfl rfl rfl ?_
      refine rvc_shutU rfl rfl rfl ?_
      refine rvS ?_
      refine rvP C (.pv (.lit (.bool true))) ?_
      refine rvc_nil ?_
      refine Awp.condT (b := true) rfl rfl ?_
      refine Awp.consP C ?_
      refine rvP C (.pv (.lit (.int .i64 120))) ?_
      refine rvc_nil ?_
      refine Awp.ret ?_
      subst hR
      exact ⟨.inl rfl, rfl⟩
    ·
     replace hR := of_false h25 hR
     refine rvS ?_
     refine rvS ?_
     refine rvS ?_
     refine rvP C (.pv (.lit (.bool false))) ?_
     refine rvP C (.pv (.lit (.bool false))) ?_
     refine rvS ?_
     refine rvS ?_
     refine rvS ?_
     refine rvP C (.pv (.lit (.bool false))) ?_
     refine rvP C (.pv (.lit (.bool false))) ?_
     refine rvS ?_
     refine rvS ?_
     refine rvS ?_
     refine rvP C (.pv (.lit (.bool false))) ?_
     refine rvP C (.pv (.lit (.bool false))) ?_
     refine rvS ?_
     refine rvS ?_
     refine rvS ?_
     refine rvP C (.pv (.lit (.bool false))) ?_
     refine rvP C (.pv (.lit (.bool false))) ?_
     refine rvS ?_
     refine rvS ?_
     refine rvS ?_
     refine rvP C (.pv (.lit (.bool false))) ?_
     refine rvP C (.pv (.lit (.bool false))) ?_
     refine rvc_nil ?_
     refine Awp.seq ?_
     refine Awp.consP C ?_
     refine rvP C (.pv (.lit (.bool false))) ?_
     refine rvP C (.pv (.lit (.bool true))) ?_
     refine rvP C (.pv (.lit (.bool true))) ?_
     refine rvS ?_
     refine rvS ?_
     refine rvS ?_
     refine rvc_shutU rfl rfl rfl ?_
     refine rvc_shutU rfl rfl rfl ?_
     refine rvc_shutU rfl rfl rfl ?_
     refine rvS ?_
     refine rvP C (.pv (.lit (.bool true))) ?_
     refine rvP C (.pv (.lit (.bool true))) ?_
     refine rvS ?_
     refine rvS ?_
     refine rvS ?_
     refine rvc_shutU rfl rfl rfl ?_
     refine rvc_shutU rfl rfl rfl ?_
     refine rvc_shutU rfl rfl rfl ?_
     refine rvS ?_
     refine rvP C (.pv (.lit (.bool true))) ?_
     refine rvc_nil ?_
     refine Awp.condT (b := true) rfl rfl ?_
     refine Awp.consP C ?_
     refine rvP C (.pv (.lit (.int .i64 120))) ?_
     refine rvc_nil ?_
     refine Awp.ret ?_
     subst hR
     exact ⟨.inl rfl, rfl⟩
   ·
    replace hR := of_false h24 hR
    refine rvO C (.ptr 1 0) ?_
    refine rvO C (.pv (.lit (.int .i64 c.kind))) ?_
    refine rvO C (.pv (.lit (.bool (c.kind == 4)))) ?_
    refine rvP C (.pv (.lit (.bool (c.kind == 4)))) ?_
    refine rvP C (.pv (.lit (.bool (c.kind == 4)))) ?_
    refine rvc_nil ?_
    refine Awp.consP C ?_
    refine rvP C (.ptr 1 0) ?_
    refine rvP C (.pv (.lit (.int .i64 c.kind))) ?_
    refine rvP C (.pv (.lit (.bool (c.kind == 2)))) ?_
    refine rvP C (.pv (.lit (.bool (c.kind == 2)))) ?_
    refine rvc_known 27 (c.kind == 2) false rfl h17 ?_
    refine rvO C (.ptr 1 0) ?_
    refine rvO C (.pv (.lit (.int .i64 c.kind))) ?_
    refine rvO C (.pv (.lit (.bool (c.kind == 5)))) ?_
    refine rvP C (.pv (.lit (.bool (c.kind == 5)))) ?_
    refine rvP C (.pv (.lit (.bool (c.kind == 5)))) ?_
    refine rvc_nil ?_
    refine Awp.consP C ?_
    refine rvP C (.pv (.lit (.bool (c.kind == 4)))) ?_
    refine rvP C (.pv (.lit (.bool (c.kind == 4)))) ?_
    refine rvc_case 33 (c.kind == 4) rfl (fun h33 => ?_) (fun h33 => ?_)
    ·
     replace hR := of_true h33 hR
     refine rvS ?_
     refine rvP C (.pv (.lit (.bool true))) ?_
     refine rvP C (.pv (.lit (.bool true))) ?_
     refine rvO C (.ptr 1 3) ?_
     refine rvO C (.pv (.lit (.int .i64 c.epoch))) ?_
     refine rvO C (.pv (.lit (.bool (decide (c.epoch ≥ 1))))) ?_
     refine rvP C (.pv (.lit (.bool (decide (c.epoch ≥ 1))))) ?_
     refine rvP C (.pv (.lit (.bool (decide (c.epoch ≥ 1))))) ?_
     refine rvc_case 41 (decide (c.epoch ≥ 1)) rfl (fun h34 => ?_) (fun h34 => ?_)
     ·
      replace hR := of_true h34 hR
      refine rvO C (.ptr 1 3) ?_
      refine rvO C (.pv (.lit (.int .i64 c.epoch))) ?_
      refine rvO C (.pv (.lit (.bool (decide (c.epoch ≤ 1099511627776))))) ?_
      refine rvP C (.pv (.lit (.bool (decide (c.epoch ≤ 1099511627776))))) ?_
      refine rvP C (.pv (.lit (.bool (decide (c.epoch ≤ 1099511627776))))) ?_
      refine rvc_case 46 (decide (c.epoch ≤ 1099511627776)) rfl (fun h35 => ?_) (fun h35 => ?_)
      ·
       replace hR := of_true h35 hR
       refine rvO C (.ptr 1 1) ?_
       refine rvO C (.pv (.lit (.int .i64 c.node))) ?_
       refine rvO C (.pv (.lit (.bool (decide (c.node ≥ 0))))) ?_
       refine rvP C (.pv (.lit (.bool (decide (c.node ≥ 0))))) ?_
       refine rvP C (.pv (.lit (.bool (decide (c.node ≥ 0))))) ?_
       refine rvc_case 51 (decide (c.node ≥ 0)) rfl (fun h36 => ?_) (fun h36 => ?_)
       ·
        replace hR := of_true h36 hR
        refine rvO C (.ptr 1 1) ?_
        refine rvO C (.pv (.lit (.int .i64 c.node))) ?_
        refine rvO C (.pv (.lit (.bool (decide (c.node ≤ 5))))) ?_
        refine rvP C (.pv (.lit (.bool (decide (c.node ≤ 5))))) ?_
        refine rvP C (.pv (.lit (.bool (decide (c.node ≤ 5))))) ?_
        refine rvc_case 56 (decide (c.node ≤ 5)) rfl (fun h37 => ?_) (fun h37 => ?_)
        ·
         replace hR := of_true h37 hR
         refine rvO C (.ptr 1 2) ?_
         refine rvO C (.pv (.lit (.int .i64 c.site))) ?_
         refine rvO C (.pv (.lit (.bool (decide (c.site ≥ 0))))) ?_
         refine rvP C (.pv (.lit (.bool (decide (c.site ≥ 0))))) ?_
         refine rvP C (.pv (.lit (.bool (decide (c.site ≥ 0))))) ?_
         refine rvc_case 61 (decide (c.site ≥ 0)) rfl (fun h38 => ?_) (fun h38 => ?_)
         ·
          replace hR := of_true h38 hR
          refine rvO C (.ptr 1 2) ?_
          refine rvO C (.pv (.lit (.int .i64 c.site))) ?_
          refine rvO C (.pv (.lit (.bool (decide (c.site ≤ 2))))) ?_
          refine rvP C (.pv (.lit (.bool (decide (c.site ≤ 2))))) ?_
          refine rvP C (.pv (.lit (.bool (decide (c.site ≤ 2))))) ?_
          refine rvc_nil ?_
          refine Awp.seq ?_
          refine Awp.consP C ?_
          refine rvP C (.pv (.lit (.bool (decide (c.site ≤ 2))))) ?_
          refine rvP C (.pv (.lit (.bool (!(decide (c.site ≤ 2)))))) ?_
          refine rvP C (.pv (.lit (.bool (!(decide (c.site ≤ 2)))))) ?_
          refine rvc_case 68 (!(decide (c.site ≤ 2))) rfl (fun h39 => ?_) (fun h39 => ?_)
          ·
           replace hR := of_true h39 hR
           refine rvS ?_
           refine rvS ?_
           refine rvS ?_
           refine rvc_shutU rfl rfl rfl ?_
           refine rvc_shutU rfl rfl rfl ?_
           refine rvc_shutU rfl rfl rfl ?_
           refine rvS ?_
           refine rvP C (.pv (.lit (.bool true))) ?_
           refine rvP C (.pv (.lit (.bool true))) ?_
           refine rvS ?_
           refine rvS ?_
           refine rvS ?_
           refine rvc_shutU rfl rfl rfl ?_
           refine rvc_shutU rfl rfl rfl ?_
           refine rvc_shutU rfl rfl rfl ?_
           refine rvS ?_
           refine rvP C (.pv (.lit (.bool true))) ?_
           refine rvc_nil ?_
           refine Awp.condT (b := true) rfl rfl ?_
           refine Awp.consP C ?_
           refine rvP C (.pv (.lit (.int .i64 120))) ?_
           refine rvc_nil ?_
           refine Awp.ret ?_
           subst hR
           exact ⟨.inl rfl, rfl⟩
          ·
           replace hR := of_false h39 hR
           refine rvO C (.pv (.lit (.bool (c.kind == 4)))) ?_
           refine rvO C (.pv (.lit (.bool (!(c.kind == 4))))) ?_
           refine rvO C (.pv (.lit (.bool (!(c.kind == 4))))) ?_
           refine rvc_case 71 (!(c.kind == 4)) rfl (fun h40 => ?_) (fun h40 => ?_)
           ·
            replace hR := of_true h40 hR
            refine rvO C (.ptr 1 1) ?_
            refine rvO C (.pv (.lit (.int .i64 c.node))) ?_
            refine rvO C (.pv (.lit (.bool (c.node != 0)))) ?_
            refine rvO C (.pv (.lit (.bool (c.node != 0)))) ?_
            refine rvP C (.pv (.lit (.bool (c.node != 0)))) ?_
            refine rvP C (.pv (.lit (.bool (c.node != 0)))) ?_
            refine rvc_case 77 (c.node != 0) rfl (fun h41 => ?_) (fun h41 => ?_)
            ·
             replace hR := of_true h41 hR
             refine rvS ?_
             refine rvS ?_
             refine rvS ?_
             refine rvc_shutU rfl rfl rfl ?_
             refine rvc_shutU rfl rfl rfl ?_
             refine rvc_shutU rfl rfl rfl ?_
             refine rvS ?_
             refine rvP C (.pv (.lit (.bool true))) ?_
             refine rvc_nil ?_
             refine Awp.condT (b := true) rfl rfl ?_
             refine Awp.consP C ?_
             refine rvP C (.pv (.lit (.int .i64 120))) ?_
             refine rvc_nil ?_
             refine Awp.ret ?_
             subst hR
             exact ⟨.inl rfl, rfl⟩
            ·
             replace hR := of_false h41 hR
             refine rvO C (.pv (.lit (.bool (c.kind == 5)))) ?_
             refine rvO C (.pv (.lit (.bool (!(c.kind == 5))))) ?_
             refine rvO C (.pv (.lit (.bool (!(c.kind == 5))))) ?_
             refine rvc_case 80 (!(c.kind == 5)) rfl (fun h42 => ?_) (fun h42 => ?_)
             ·
              replace hR := of_true h42 hR
              refine rvO C (.ptr 1 2) ?_
              refine rvO C (.pv (.lit (.int .i64 c.site))) ?_
              refine rvO C (.pv (.lit (.bool (c.site != 0)))) ?_
              refine rvO C (.pv (.lit (.bool (c.site != 0)))) ?_
              refine rvP C (.pv (.lit (.bool (c.site != 0)))) ?_
              refine rvc_nil ?_
              refine Awp.cond (b := (c.site != 0)) rfl (fun h43 => ?_) (fun h43 => ?_)
              ·
               replace hR := of_true h43 hR
               refine Awp.consP C ?_
               refine rvP C (.pv (.lit (.int .i64 120))) ?_
               refine rvc_nil ?_
               refine Awp.ret ?_
               subst hR
               exact ⟨.inl rfl, rfl⟩
              ·
               replace hR := of_false h43 hR
               refine Awp.skip ?_
               refine Awp.consP C ?_
               refine rvP C (.pv (.lit (.int .i64 0))) ?_
               refine rvc_nil ?_
               refine Awp.ret ?_
               subst hR
               exact ⟨.inl rfl, rfl⟩
             ·
              replace hR := of_false h42 hR
              refine rvS ?_
              refine rvS ?_
              refine rvS ?_
              refine rvO C (.pv (.lit (.bool false))) ?_
              refine rvP C (.pv (.lit (.bool false))) ?_
              refine rvc_nil ?_
              refine Awp.condF (b := false) rfl rfl ?_
              refine Awp.skip ?_
              refine Awp.consP C ?_
              refine rvP C (.pv (.lit (.int .i64 0))) ?_
              refine rvc_nil ?_
              refine Awp.ret ?_
              subst hR
              exact ⟨.inl rfl, rfl⟩
           ·
            replace hR := of_false h40 hR
            refine rvS ?_
            refine rvS ?_
            refine rvS ?_
            refine rvO C (.pv (.lit (.bool false))) ?_
            refine rvP C (.pv (.lit (.bool false))) ?_
            refine rvP C (.pv (.lit (.bool false))) ?_
            refine rvO C (.pv (.lit (.bool (c.kind == 5)))) ?_
            refine rvO C (.pv (.lit (.bool (!(c.kind == 5))))) ?_
            refine rvO C (.pv (.lit (.bool (!(c.kind == 5))))) ?_
            refine rvc_case 80 (!(c.kind == 5)) rfl (fun h44 => ?_) (fun h44 => ?_)
            ·
             replace hR := of_true h44 hR
             refine rvO C (.ptr 1 2) ?_
             refine rvO C (.pv (.lit (.int .i64 c.site))) ?_
             refine rvO C (.pv (.lit (.bool (c.site != 0)))) ?_
             refine rvO C (.pv (.lit (.bool (c.site != 0)))) ?_
             refine rvP C (.pv (.lit (.bool (c.site != 0)))) ?_
             refine rvc_nil ?_
             refine Awp.cond (b := (c.site != 0)) rfl (fun h45 => ?_) (fun h45 => ?_)
             ·
              replace hR := of_true h45 hR
              refine Awp.consP C ?_
              refine rvP C (.pv (.lit (.int .i64 120))) ?_
              refine rvc_nil ?_
              refine Awp.ret ?_
              subst hR
              exact ⟨.inl rfl, rfl⟩
             ·
              replace hR := of_false h45 hR
              refine Awp.skip ?_
              refine Awp.consP C ?_
              refine rvP C (.pv (.lit (.int .i64 0))) ?_
              refine rvc_nil ?_
              refine Awp.ret ?_
              subst hR
              exact ⟨.inl rfl, rfl⟩
            ·
             replace hR := of_false h44 hR
             refine rvS ?_
             refine rvS ?_
             refine rvS ?_
             refine rvO C (.pv (.lit (.bool false))) ?_
             refine rvP C (.pv (.lit (.bool false))) ?_
             refine rvc_nil ?_
             refine Awp.condF (b := false) rfl rfl ?_
             refine Awp.skip ?_
             refine Awp.consP C ?_
             refine rvP C (.pv (.lit (.int .i64 0))) ?_
             refine rvc_nil ?_
             refine Awp.ret ?_
             subst hR
             exact ⟨.inl rfl, rfl⟩
         ·
          replace hR := of_false h38 hR
          refine rvS ?_
          refine rvS ?_
          refine rvS ?_
          refine rvP C (.pv (.lit (.bool false))) ?_
          refine rvP C (.pv (.lit (.bool false))) ?_
          refine rvc_nil ?_
          refine Awp.seq ?_
          refine Awp.consP C ?_
          refine rvP C (.pv (.lit (.bool false))) ?_
          refine rvP C (.pv (.lit (.bool true))) ?_
          refine rvP C (.pv (.lit (.bool true))) ?_
          refine rvS ?_
          refine rvS ?_
          refine rvS ?_
          refine rvc_shutU rfl rfl rfl ?_
          refine rvc_shutU rfl rfl rfl ?_
          refine rvc_shutU rfl rfl rfl ?_
          refine rvS ?_
          refine rvP C (.pv (.lit (.bool true))) ?_
          refine rvP C (.pv (.lit (.bool true))) ?_
          refine rvS ?_
          refine rvS ?_
          refine rvS ?_
          refine rvc_shutU rfl rfl rfl ?_
          refine rvc_shutU rfl rfl rfl ?_
          refine rvc_shutU rfl rfl rfl ?_
          refine rvS ?_
          refine rvP C (.pv (.lit (.bool true))) ?_
          refine rvc_nil ?_
          refine Awp.condT (b := true) rfl rfl ?_
          refine Awp.consP C ?_
          refine rvP C (.pv (.lit (.int .i64 120))) ?_
          refine rvc_nil ?_
          refine Awp.ret ?_
          subst hR
          exact ⟨.inl rfl, rfl⟩
        ·
         replace hR := of_false h37 hR
         refine rvS ?_
         refine rvS ?_
         refine rvS ?_
         refine rvP C (.pv (.lit (.bool false))) ?_
         refine rvP C (.pv (.lit (.bool false))) ?_
         refine rvS ?_
         refine rvS ?_
         refine rvS ?_
         refine rvP C (.pv (.lit (.bool false))) ?_
         refine rvP C (.pv (.lit (.bool false))) ?_
         refine rvc_nil ?_
         refine Awp.seq ?_
         refine Awp.consP C ?_
         refine rvP C (.pv (.lit (.bool false))) ?_
         refine rvP C (.pv (.lit (.bool true))) ?_
         refine rvP C (.pv (.lit (.bool true))) ?_
         refine rvS ?_
         refine rvS ?_
         refine rvS ?_
         refine rvc_shutU rfl rfl rfl ?_
         refine rvc_shutU rfl rfl rfl ?_
         refine rvc_shutU rfl rfl rfl ?_
         refine rvS ?_
         refine rvP C (.pv (.lit (.bool true))) ?_
         refine rvP C (.pv (.lit (.bool true))) ?_
         refine rvS ?_
         refine rvS ?_
         refine rvS ?_
         refine rvc_shutU rfl rfl rfl ?_
         refine rvc_shutU rfl rfl rfl ?_
         refine rvc_shutU rfl rfl rfl ?_
         refine rvS ?_
         refine rvP C (.pv (.lit (.bool true))) ?_
         refine rvc_nil ?_
         refine Awp.condT (b := true) rfl rfl ?_
         refine Awp.consP C ?_
         refine rvP C (.pv (.lit (.int .i64 120))) ?_
         refine rvc_nil ?_
         refine Awp.ret ?_
         subst hR
         exact ⟨.inl rfl, rfl⟩
       ·
        replace hR := of_false h36 hR
        refine rvS ?_
        refine rvS ?_
        refine rvS ?_
        refine rvP C (.pv (.lit (.bool false))) ?_
        refine rvP C (.pv (.lit (.bool false))) ?_
        refine rvS ?_
        refine rvS ?_
        refine rvS ?_
        refine rvP C (.pv (.lit (.bool false))) ?_
        refine rvP C (.pv (.lit (.bool false))) ?_
        refine rvS ?_
        refine rvS ?_
        refine rvS ?_
        refine rvP C (.pv (.lit (.bool false))) ?_
        refine rvP C (.pv (.lit (.bool false))) ?_
        refine rvc_nil ?_
        refine Awp.seq ?_
        refine Awp.consP C ?_
        refine rvP C (.pv (.lit (.bool false))) ?_
        refine rvP C (.pv (.lit (.bool true))) ?_
        refine rvP C (.pv (.lit (.bool true))) ?_
        refine rvS ?_
        refine rvS ?_
        refine rvS ?_
        refine rvc_shutU rfl rfl rfl ?_
        refine rvc_shutU rfl rfl rfl ?_
        refine rvc_shutU rfl rfl rfl ?_
        refine rvS ?_
        refine rvP C (.pv (.lit (.bool true))) ?_
        refine rvP C (.pv (.lit (.bool true))) ?_
        refine rvS ?_
        refine rvS ?_
        refine rvS ?_
        refine rvc_shutU rfl rfl rfl ?_
        refine rvc_shutU rfl rfl rfl ?_
        refine rvc_shutU rfl rfl rfl ?_
        refine rvS ?_
        refine rvP C (.pv (.lit (.bool true))) ?_
        refine rvc_nil ?_
        refine Awp.condT (b := true) rfl rfl ?_
        refine Awp.consP C ?_
        refine rvP C (.pv (.lit (.int .i64 120))) ?_
        refine rvc_nil ?_
        refine Awp.ret ?_
        subst hR
        exact ⟨.inl rfl, rfl⟩
      ·
       replace hR := of_false h35 hR
       refine rvS ?_
       refine rvS ?_
       refine rvS ?_
       refine rvP C (.pv (.lit (.bool false))) ?_
       refine rvP C (.pv (.lit (.bool false))) ?_
       refine rvS ?_
       refine rvS ?_
       refine rvS ?_
       refine rvP C (.pv (.lit (.bool false))) ?_
       refine rvP C (.pv (.lit (.bool false))) ?_
       refine rvS ?_
       refine rvS ?_
       refine rvS ?_
       refine rvP C (.pv (.lit (.bool false))) ?_
       refine rvP C (.pv (.lit (.bool false))) ?_
       refine rvS ?_
       refine rvS ?_
       refine rvS ?_
       refine rvP C (.pv (.lit (.bool false))) ?_
       refine rvP C (.pv (.lit (.bool false))) ?_
       refine rvc_nil ?_
       refine Awp.seq ?_
       refine Awp.consP C ?_
       refine rvP C (.pv (.lit (.bool false))) ?_
       refine rvP C (.pv (.lit (.bool true))) ?_
       refine rvP C (.pv (.lit (.bool true))) ?_
       refine rvS ?_
       refine rvS ?_
       refine rvS ?_
       refine rvc_shutU rfl rfl rfl ?_
       refine rvc_shutU rfl rfl rfl ?_
       refine rvc_shutU rfl rfl rfl ?_
       refine rvS ?_
       refine rvP C (.pv (.lit (.bool true))) ?_
       refine rvP C (.pv (.lit (.bool true))) ?_
       refine rvS ?_
       refine rvS ?_
       refine rvS ?_
       refine rvc_shutU rfl rfl rfl ?_
       refine rvc_shutU rfl rfl rfl ?_
       refine rvc_shutU rfl rfl rfl ?_
       refine rvS ?_
       refine rvP C (.pv (.lit (.bool true))) ?_
       refine rvc_nil ?_
       refine Awp.condT (b := true) rfl rfl ?_
       refine Awp.consP C ?_
       refine rvP C (.pv (.lit (.int .i64 120))) ?_
       refine rvc_nil ?_
       refine Awp.ret ?_
       subst hR
       exact ⟨.inl rfl, rfl⟩
     ·
      replace hR := of_false h34 hR
      refine rvS ?_
      refine rvS ?_
      refine rvS ?_
      refine rvP C (.pv (.lit (.bool false))) ?_
      refine rvP C (.pv (.lit (.bool false))) ?_
      refine rvS ?_
      refine rvS ?_
      refine rvS ?_
      refine rvP C (.pv (.lit (.bool false))) ?_
      refine rvP C (.pv (.lit (.bool false))) ?_
      refine rvS ?_
      refine rvS ?_
      refine rvS ?_
      refine rvP C (.pv (.lit (.bool false))) ?_
      refine rvP C (.pv (.lit (.bool false))) ?_
      refine rvS ?_
      refine rvS ?_
      refine rvS ?_
      refine rvP C (.pv (.lit (.bool false))) ?_
      refine rvP C (.pv (.lit (.bool false))) ?_
      refine rvS ?_
      refine rvS ?_
      refine rvS ?_
      refine rvP C (.pv (.lit (.bool false))) ?_
      refine rvP C (.pv (.lit (.bool false))) ?_
      refine rvc_nil ?_
      refine Awp.seq ?_
      refine Awp.consP C ?_
      refine rvP C (.pv (.lit (.bool false))) ?_
      refine rvP C (.pv (.lit (.bool true))) ?_
      refine rvP C (.pv (.lit (.bool true))) ?_
      refine rvS ?_
      refine rvS ?_
      refine rvS ?_
      refine rvc_shutU rfl rfl rfl ?_
      refine rvc_shutU rfl rfl rfl ?_
      refine rvc_shutU rfl rfl rfl ?_
      refine rvS ?_
      refine rvP C (.pv (.lit (.bool true))) ?_
      refine rvP C (.pv (.lit (.bool true))) ?_
      refine rvS ?_
      refine rvS ?_
      refine rvS ?_
      refine rvc_shutU rfl rfl rfl ?_
      refine rvc_shutU rfl rfl rfl ?_
      refine rvc_shutU rfl rfl rfl ?_
      refine rvS ?_
      refine rvP C (.pv (.lit (.bool true))) ?_
      refine rvc_nil ?_
      refine Awp.condT (b := true) rfl rfl ?_
      refine Awp.consP C ?_
      refine rvP C (.pv (.lit (.int .i64 120))) ?_
      refine rvc_nil ?_
      refine Awp.ret ?_
      subst hR
      exact ⟨.inl rfl, rfl⟩
    ·
     replace hR := of_false h33 hR
     refine rvO C (.pv (.lit (.bool (c.kind == 5)))) ?_
     refine rvP C (.pv (.lit (.bool (c.kind == 5)))) ?_
     refine rvP C (.pv (.lit (.bool (c.kind == 5)))) ?_
     refine rvc_case 36 (c.kind == 5) rfl (fun h46 => ?_) (fun h46 => ?_)
     ·
      replace hR := of_true h46 hR
      refine rvO C (.ptr 1 3) ?_
      refine rvO C (.pv (.lit (.int .i64 c.epoch))) ?_
      refine rvO C (.pv (.lit (.bool (decide (c.epoch ≥ 1))))) ?_
      refine rvP C (.pv (.lit (.bool (decide (c.epoch ≥ 1))))) ?_
      refine rvP C (.pv (.lit (.bool (decide (c.epoch ≥ 1))))) ?_
      refine rvc_case 41 (decide (c.epoch ≥ 1)) rfl (fun h47 => ?_) (fun h47 => ?_)
      ·
       replace hR := of_true h47 hR
       refine rvO C (.ptr 1 3) ?_
       refine rvO C (.pv (.lit (.int .i64 c.epoch))) ?_
       refine rvO C (.pv (.lit (.bool (decide (c.epoch ≤ 1099511627776))))) ?_
       refine rvP C (.pv (.lit (.bool (decide (c.epoch ≤ 1099511627776))))) ?_
       refine rvP C (.pv (.lit (.bool (decide (c.epoch ≤ 1099511627776))))) ?_
       refine rvc_case 46 (decide (c.epoch ≤ 1099511627776)) rfl (fun h48 => ?_) (fun h48 => ?_)
       ·
        replace hR := of_true h48 hR
        refine rvO C (.ptr 1 1) ?_
        refine rvO C (.pv (.lit (.int .i64 c.node))) ?_
        refine rvO C (.pv (.lit (.bool (decide (c.node ≥ 0))))) ?_
        refine rvP C (.pv (.lit (.bool (decide (c.node ≥ 0))))) ?_
        refine rvP C (.pv (.lit (.bool (decide (c.node ≥ 0))))) ?_
        refine rvc_case 51 (decide (c.node ≥ 0)) rfl (fun h49 => ?_) (fun h49 => ?_)
        ·
         replace hR := of_true h49 hR
         refine rvO C (.ptr 1 1) ?_
         refine rvO C (.pv (.lit (.int .i64 c.node))) ?_
         refine rvO C (.pv (.lit (.bool (decide (c.node ≤ 5))))) ?_
         refine rvP C (.pv (.lit (.bool (decide (c.node ≤ 5))))) ?_
         refine rvP C (.pv (.lit (.bool (decide (c.node ≤ 5))))) ?_
         refine rvc_case 56 (decide (c.node ≤ 5)) rfl (fun h50 => ?_) (fun h50 => ?_)
         ·
          replace hR := of_true h50 hR
          refine rvO C (.ptr 1 2) ?_
          refine rvO C (.pv (.lit (.int .i64 c.site))) ?_
          refine rvO C (.pv (.lit (.bool (decide (c.site ≥ 0))))) ?_
          refine rvP C (.pv (.lit (.bool (decide (c.site ≥ 0))))) ?_
          refine rvP C (.pv (.lit (.bool (decide (c.site ≥ 0))))) ?_
          refine rvc_case 61 (decide (c.site ≥ 0)) rfl (fun h51 => ?_) (fun h51 => ?_)
          ·
           replace hR := of_true h51 hR
           refine rvO C (.ptr 1 2) ?_
           refine rvO C (.pv (.lit (.int .i64 c.site))) ?_
           refine rvO C (.pv (.lit (.bool (decide (c.site ≤ 2))))) ?_
           refine rvP C (.pv (.lit (.bool (decide (c.site ≤ 2))))) ?_
           refine rvP C (.pv (.lit (.bool (decide (c.site ≤ 2))))) ?_
           refine rvc_nil ?_
           refine Awp.seq ?_
           refine Awp.consP C ?_
           refine rvP C (.pv (.lit (.bool (decide (c.site ≤ 2))))) ?_
           refine rvP C (.pv (.lit (.bool (!(decide (c.site ≤ 2)))))) ?_
           refine rvP C (.pv (.lit (.bool (!(decide (c.site ≤ 2)))))) ?_
           refine rvc_case 68 (!(decide (c.site ≤ 2))) rfl (fun h52 => ?_) (fun h52 => ?_)
           ·
            replace hR := of_true h52 hR
            refine rvS ?_
            refine rvS ?_
            refine rvS ?_
            refine rvc_shutU rfl rfl rfl ?_
            refine rvc_shutU rfl rfl rfl ?_
            refine rvc_shutU rfl rfl rfl ?_
            refine rvS ?_
            refine rvP C (.pv (.lit (.bool true))) ?_
            refine rvP C (.pv (.lit (.bool true))) ?_
            refine rvS ?_
            refine rvS ?_
            refine rvS ?_
            refine rvc_shutU rfl rfl rfl ?_
            refine rvc_shutU rfl rfl rfl ?_
            refine rvc_shutU rfl rfl rfl ?_
            refine rvS ?_
            refine rvP C (.pv (.lit (.bool true))) ?_
            refine rvc_nil ?_
            refine Awp.condT (b := true) rfl rfl ?_
            refine Awp.consP C ?_
            refine rvP C (.pv (.lit (.int .i64 120))) ?_
            refine rvc_nil ?_
            refine Awp.ret ?_
            subst hR
            exact ⟨.inl rfl, rfl⟩
           ·
            replace hR := of_false h52 hR
            refine rvO C (.pv (.lit (.bool (c.kind == 4)))) ?_
            refine rvO C (.pv (.lit (.bool (!(c.kind == 4))))) ?_
            refine rvO C (.pv (.lit (.bool (!(c.kind == 4))))) ?_
            refine rvc_case 71 (!(c.kind == 4)) rfl (fun h53 => ?_) (fun h53 => ?_)
            ·
             replace hR := of_true h53 hR
             refine rvO C (.ptr 1 1) ?_
             refine rvO C (.pv (.lit (.int .i64 c.node))) ?_
             refine rvO C (.pv (.lit (.bool (c.node != 0)))) ?_
             refine rvO C (.pv (.lit (.bool (c.node != 0)))) ?_
             refine rvP C (.pv (.lit (.bool (c.node != 0)))) ?_
             refine rvP C (.pv (.lit (.bool (c.node != 0)))) ?_
             refine rvc_case 77 (c.node != 0) rfl (fun h54 => ?_) (fun h54 => ?_)
             ·
              replace hR := of_true h54 hR
              refine rvS ?_
              refine rvS ?_
              refine rvS ?_
              refine rvc_shutU rfl rfl rfl ?_
              refine rvc_shutU rfl rfl rfl ?_
              refine rvc_shutU rfl rfl rfl ?_
              refine rvS ?_
              refine rvP C (.pv (.lit (.bool true))) ?_
              refine rvc_nil ?_
              refine Awp.condT (b := true) rfl rfl ?_
              refine Awp.consP C ?_
              refine rvP C (.pv (.lit (.int .i64 120))) ?_
              refine rvc_nil ?_
              refine Awp.ret ?_
              subst hR
              exact ⟨.inl rfl, rfl⟩
             ·
              replace hR := of_false h54 hR
              refine rvO C (.pv (.lit (.bool (c.kind == 5)))) ?_
              refine rvO C (.pv (.lit (.bool (!(c.kind == 5))))) ?_
              refine rvO C (.pv (.lit (.bool (!(c.kind == 5))))) ?_
              refine rvc_case 80 (!(c.kind == 5)) rfl (fun h55 => ?_) (fun h55 => ?_)
              ·
               replace hR := of_true h55 hR
               refine rvO C (.ptr 1 2) ?_
               refine rvO C (.pv (.lit (.int .i64 c.site))) ?_
               refine rvO C (.pv (.lit (.bool (c.site != 0)))) ?_
               refine rvO C (.pv (.lit (.bool (c.site != 0)))) ?_
               refine rvP C (.pv (.lit (.bool (c.site != 0)))) ?_
               refine rvc_nil ?_
               refine Awp.cond (b := (c.site != 0)) rfl (fun h56 => ?_) (fun h56 => ?_)
               ·
                replace hR := of_true h56 hR
                refine Awp.consP C ?_
                refine rvP C (.pv (.lit (.int .i64 120))) ?_
                refine rvc_nil ?_
                refine Awp.ret ?_
                subst hR
                exact ⟨.inl rfl, rfl⟩
               ·
                replace hR := of_false h56 hR
                refine Awp.skip ?_
                refine Awp.consP C ?_
                refine rvP C (.pv (.lit (.int .i64 0))) ?_
                refine rvc_nil ?_
                refine Awp.ret ?_
                subst hR
                exact ⟨.inl rfl, rfl⟩
              ·
               replace hR := of_false h55 hR
               refine rvS ?_
               refine rvS ?_
               refine rvS ?_
               refine rvO C (.pv (.lit (.bool false))) ?_
               refine rvP C (.pv (.lit (.bool false))) ?_
               refine rvc_nil ?_
               refine Awp.condF (b := false) rfl rfl ?_
               refine Awp.skip ?_
               refine Awp.consP C ?_
               refine rvP C (.pv (.lit (.int .i64 0))) ?_
               refine rvc_nil ?_
               refine Awp.ret ?_
               subst hR
               exact ⟨.inl rfl, rfl⟩
            ·
             replace hR := of_false h53 hR
             refine rvS ?_
             refine rvS ?_
             refine rvS ?_
             refine rvO C (.pv (.lit (.bool false))) ?_
             refine rvP C (.pv (.lit (.bool false))) ?_
             refine rvP C (.pv (.lit (.bool false))) ?_
             refine rvO C (.pv (.lit (.bool (c.kind == 5)))) ?_
             refine rvO C (.pv (.lit (.bool (!(c.kind == 5))))) ?_
             refine rvO C (.pv (.lit (.bool (!(c.kind == 5))))) ?_
             refine rvc_case 80 (!(c.kind == 5)) rfl (fun h57 => ?_) (fun h57 => ?_)
             ·
              replace hR := of_true h57 hR
              refine rvO C (.ptr 1 2) ?_
              refine rvO C (.pv (.lit (.int .i64 c.site))) ?_
              refine rvO C (.pv (.lit (.bool (c.site != 0)))) ?_
              refine rvO C (.pv (.lit (.bool (c.site != 0)))) ?_
              refine rvP C (.pv (.lit (.bool (c.site != 0)))) ?_
              refine rvc_nil ?_
              refine Awp.cond (b := (c.site != 0)) rfl (fun h58 => ?_) (fun h58 => ?_)
              ·
               replace hR := of_true h58 hR
               refine Awp.consP C ?_
               refine rvP C (.pv (.lit (.int .i64 120))) ?_
               refine rvc_nil ?_
               refine Awp.ret ?_
               subst hR
               exact ⟨.inl rfl, rfl⟩
              ·
               replace hR := of_false h58 hR
               refine Awp.skip ?_
               refine Awp.consP C ?_
               refine rvP C (.pv (.lit (.int .i64 0))) ?_
               refine rvc_nil ?_
               refine Awp.ret ?_
               subst hR
               exact ⟨.inl rfl, rfl⟩
             ·
              replace hR := of_false h57 hR
              refine rvS ?_
              refine rvS ?_
              refine rvS ?_
              refine rvO C (.pv (.lit (.bool false))) ?_
              refine rvP C (.pv (.lit (.bool false))) ?_
              refine rvc_nil ?_
              refine Awp.condF (b := false) rfl rfl ?_
              refine Awp.skip ?_
              refine Awp.consP C ?_
              refine rvP C (.pv (.lit (.int .i64 0))) ?_
              refine rvc_nil ?_
              refine Awp.ret ?_
              subst hR
              exact ⟨.inl rfl, rfl⟩
          ·
           replace hR := of_false h51 hR
           refine rvS ?_
           refine rvS ?_
           refine rvS ?_
           refine rvP C (.pv (.lit (.bool false))) ?_
           refine rvP C (.pv (.lit (.bool false))) ?_
           refine rvc_nil ?_
           refine Awp.seq ?_
           refine Awp.consP C ?_
           refine rvP C (.pv (.lit (.bool false))) ?_
           refine rvP C (.pv (.lit (.bool true))) ?_
           refine rvP C (.pv (.lit (.bool true))) ?_
           refine rvS ?_
           refine rvS ?_
           refine rvS ?_
           refine rvc_shutU rfl rfl rfl ?_
           refine rvc_shutU rfl rfl rfl ?_
           refine rvc_shutU rfl rfl rfl ?_
           refine rvS ?_
           refine rvP C (.pv (.lit (.bool true))) ?_
           refine rvP C (.pv (.lit (.bool true))) ?_
           refine rvS ?_
           refine rvS ?_
           refine rvS ?_
           refine rvc_shutU rfl rfl rfl ?_
           refine rvc_shutU rfl rfl rfl ?_
           refine rvc_shutU rfl rfl rfl ?_
           refine rvS ?_
           refine rvP C (.pv (.lit (.bool true))) ?_
           refine rvc_nil ?_
           refine Awp.condT (b := true) rfl rfl ?_
           refine Awp.consP C ?_
           refine rvP C (.pv (.lit (.int .i64 120))) ?_
           refine rvc_nil ?_
           refine Awp.ret ?_
           subst hR
           exact ⟨.inl rfl, rfl⟩
         ·
          replace hR := of_false h50 hR
          refine rvS ?_
          refine rvS ?_
          refine rvS ?_
          refine rvP C (.pv (.lit (.bool false))) ?_
          refine rvP C (.pv (.lit (.bool false))) ?_
          refine rvS ?_
          refine rvS ?_
          refine rvS ?_
          refine rvP C (.pv (.lit (.bool false))) ?_
          refine rvP C (.pv (.lit (.bool false))) ?_
          refine rvc_nil ?_
          refine Awp.seq ?_
          refine Awp.consP C ?_
          refine rvP C (.pv (.lit (.bool false))) ?_
          refine rvP C (.pv (.lit (.bool true))) ?_
          refine rvP C (.pv (.lit (.bool true))) ?_
          refine rvS ?_
          refine rvS ?_
          refine rvS ?_
          refine rvc_shutU rfl rfl rfl ?_
          refine rvc_shutU rfl rfl rfl ?_
          refine rvc_shutU rfl rfl rfl ?_
          refine rvS ?_
          refine rvP C (.pv (.lit (.bool true))) ?_
          refine rvP C (.pv (.lit (.bool true))) ?_
          refine rvS ?_
          refine rvS ?_
          refine rvS ?_
          refine rvc_shutU rfl rfl rfl ?_
          refine rvc_shutU rfl rfl rfl ?_
          refine rvc_shutU rfl rfl rfl ?_
          refine rvS ?_
          refine rvP C (.pv (.lit (.bool true))) ?_
          refine rvc_nil ?_
          refine Awp.condT (b := true) rfl rfl ?_
          refine Awp.consP C ?_
          refine rvP C (.pv (.lit (.int .i64 120))) ?_
          refine rvc_nil ?_
          refine Awp.ret ?_
          subst hR
          exact ⟨.inl rfl, rfl⟩
        ·
         replace hR := of_false h49 hR
         refine rvS ?_
         refine rvS ?_
         refine rvS ?_
         refine rvP C (.pv (.lit (.bool false))) ?_
         refine rvP C (.pv (.lit (.bool false))) ?_
         refine rvS ?_
         refine rvS ?_
         refine rvS ?_
         refine rvP C (.pv (.lit (.bool false))) ?_
         refine rvP C (.pv (.lit (.bool false))) ?_
         refine rvS ?_
         refine rvS ?_
         refine rvS ?_
         refine rvP C (.pv (.lit (.bool false))) ?_
         refine rvP C (.pv (.lit (.bool false))) ?_
         refine rvc_nil ?_
         refine Awp.seq ?_
         refine Awp.consP C ?_
         refine rvP C (.pv (.lit (.bool false))) ?_
         refine rvP C (.pv (.lit (.bool true))) ?_
         refine rvP C (.pv (.lit (.bool true))) ?_
         refine rvS ?_
         refine rvS ?_
         refine rvS ?_
         refine rvc_shutU rfl rfl rfl ?_
         refine rvc_shutU rfl rfl rfl ?_
         refine rvc_shutU rfl rfl rfl ?_
         refine rvS ?_
         refine rvP C (.pv (.lit (.bool true))) ?_
         refine rvP C (.pv (.lit (.bool true))) ?_
         refine rvS ?_
         refine rvS ?_
         refine rvS ?_
         refine rvc_shutU rfl rfl rfl ?_
         refine rvc_shutU rfl rfl rfl ?_
         refine rvc_shutU rfl rfl rfl ?_
         refine rvS ?_
         refine rvP C (.pv (.lit (.bool true))) ?_
         refine rvc_nil ?_
         refine Awp.condT (b := true) rfl rfl ?_
         refine Awp.consP C ?_
         refine rvP C (.pv (.lit (.int .i64 120))) ?_
         refine rvc_nil ?_
         refine Awp.ret ?_
         subst hR
         exact ⟨.inl rfl, rfl⟩
       ·
        replace hR := of_false h48 hR
        refine rvS ?_
        refine rvS ?_
        refine rvS ?_
        refine rvP C (.pv (.lit (.bool false))) ?_
        refine rvP C (.pv (.lit (.bool false))) ?_
        refine rvS ?_
        refine rvS ?_
        refine rvS ?_
        refine rvP C (.pv (.lit (.bool false))) ?_
        refine rvP C (.pv (.lit (.bool false))) ?_
        refine rvS ?_
        refine rvS ?_
        refine rvS ?_
        refine rvP C (.pv (.lit (.bool false))) ?_
        refine rvP C (.pv (.lit (.bool false))) ?_
        refine rvS ?_
        refine rvS ?_
        refine rvS ?_
        refine rvP C (.pv (.lit (.bool false))) ?_
        refine rvP C (.pv (.lit (.bool false))) ?_
        refine rvc_nil ?_
        refine Awp.seq ?_
        refine Awp.consP C ?_
        refine rvP C (.pv (.lit (.bool false))) ?_
        refine rvP C (.pv (.lit (.bool true))) ?_
        refine rvP C (.pv (.lit (.bool true))) ?_
        refine rvS ?_
        refine rvS ?_
        refine rvS ?_
        refine rvc_shutU rfl rfl rfl ?_
        refine rvc_shutU rfl rfl rfl ?_
        refine rvc_shutU rfl rfl rfl ?_
        refine rvS ?_
        refine rvP C (.pv (.lit (.bool true))) ?_
        refine rvP C (.pv (.lit (.bool true))) ?_
        refine rvS ?_
        refine rvS ?_
        refine rvS ?_
        refine rvc_shutU rfl rfl rfl ?_
        refine rvc_shutU rfl rfl rfl ?_
        refine rvc_shutU rfl rfl rfl ?_
        refine rvS ?_
        refine rvP C (.pv (.lit (.bool true))) ?_
        refine rvc_nil ?_
        refine Awp.condT (b := true) rfl rfl ?_
        refine Awp.consP C ?_
        refine rvP C (.pv (.lit (.int .i64 120))) ?_
        refine rvc_nil ?_
        refine Awp.ret ?_
        subst hR
        exact ⟨.inl rfl, rfl⟩
      ·
       replace hR := of_false h47 hR
       refine rvS ?_
       refine rvS ?_
       refine rvS ?_
       refine rvP C (.pv (.lit (.bool false))) ?_
       refine rvP C (.pv (.lit (.bool false))) ?_
       refine rvS ?_
       refine rvS ?_
       refine rvS ?_
       refine rvP C (.pv (.lit (.bool false))) ?_
       refine rvP C (.pv (.lit (.bool false))) ?_
       refine rvS ?_
       refine rvS ?_
       refine rvS ?_
       refine rvP C (.pv (.lit (.bool false))) ?_
       refine rvP C (.pv (.lit (.bool false))) ?_
       refine rvS ?_
       refine rvS ?_
       refine rvS ?_
       refine rvP C (.pv (.lit (.bool false))) ?_
       refine rvP C (.pv (.lit (.bool false))) ?_
       refine rvS ?_
       refine rvS ?_
       refine rvS ?_
       refine rvP C (.pv (.lit (.bool false))) ?_
       refine rvP C (.pv (.lit (.bool false))) ?_
       refine rvc_nil ?_
       refine Awp.seq ?_
       refine Awp.consP C ?_
       refine rvP C (.pv (.lit (.bool false))) ?_
       refine rvP C (.pv (.lit (.bool true))) ?_
       refine rvP C (.pv (.lit (.bool true))) ?_
       refine rvS ?_
       refine rvS ?_
       refine rvS ?_
       refine rvc_shutU rfl rfl rfl ?_
       refine rvc_shutU rfl rfl rfl ?_
       refine rvc_shutU rfl rfl rfl ?_
       refine rvS ?_
       refine rvP C (.pv (.lit (.bool true))) ?_
       refine rvP C (.pv (.lit (.bool true))) ?_
       refine rvS ?_
       refine rvS ?_
       refine rvS ?_
       refine rvc_shutU rfl rfl rfl ?_
       refine rvc_shutU rfl rfl rfl ?_
       refine rvc_shutU rfl rfl rfl ?_
       refine rvS ?_
       refine rvP C (.pv (.lit (.bool true))) ?_
       refine rvc_nil ?_
       refine Awp.condT (b := true) rfl rfl ?_
       refine Awp.consP C ?_
       refine rvP C (.pv (.lit (.int .i64 120))) ?_
       refine rvc_nil ?_
       refine Awp.ret ?_
       subst hR
       exact ⟨.inl rfl, rfl⟩
     ·
      replace hR := of_false h46 hR
      refine rvS ?_
      refine rvS ?_
      refine rvS ?_
      refine rvP C (.pv (.lit (.bool false))) ?_
      refine rvP C (.pv (.lit (.bool false))) ?_
      refine rvS ?_
      refine rvS ?_
      refine rvS ?_
      refine rvP C (.pv (.lit (.bool false))) ?_
      refine rvP C (.pv (.lit (.bool false))) ?_
      refine rvS ?_
      refine rvS ?_
      refine rvS ?_
      refine rvP C (.pv (.lit (.bool false))) ?_
      refine rvP C (.pv (.lit (.bool false))) ?_
      refine rvS ?_
      refine rvS ?_
      refine rvS ?_
      refine rvP C (.pv (.lit (.bool false))) ?_
      refine rvP C (.pv (.lit (.bool false))) ?_
      refine rvS ?_
      refine rvS ?_
      refine rvS ?_
      refine rvP C (.pv (.lit (.bool false))) ?_
      refine rvP C (.pv (.lit (.bool false))) ?_
      refine rvS ?_
      refine rvS ?_
      refine rvS ?_
      refine rvP C (.pv (.lit (.bool false))) ?_
      refine rvP C (.pv (.lit (.bool false))) ?_
      refine rvc_nil ?_
      refine Awp.seq ?_
      refine Awp.consP C ?_
      refine rvP C (.pv (.lit (.bool false))) ?_
      refine rvP C (.pv (.lit (.bool true))) ?_
      refine rvP C (.pv (.lit (.bool true))) ?_
      refine rvS ?_
      refine rvS ?_
      refine rvS ?_
      refine rvc_shutU rfl rfl rfl ?_
      refine rvc_shutU rfl rfl rfl ?_
      refine rvc_shutU rfl rfl rfl ?_
      refine rvS ?_
      refine rvP C (.pv (.lit (.bool true))) ?_
      refine rvP C (.pv (.lit (.bool true))) ?_
      refine rvS ?_
      refine rvS ?_
      refine rvS ?_
      refine rvc_shutU rfl rfl rfl ?_
      refine rvc_shutU rfl rfl rfl ?_
      refine rvc_shutU rfl rfl rfl ?_
      refine rvS ?_
      refine rvP C (.pv (.lit (.bool true))) ?_
      refine rvc_nil ?_
      refine Awp.condT (b := true) rfl rfl ?_
      refine Awp.consP C ?_
      refine rvP C (.pv (.lit (.int .i64 120))) ?_
      refine rvc_nil ?_
      refine Awp.ret ?_
      subst hR
      exact ⟨.inl rfl, rfl⟩
end Go.Proofs.Ytpgenmflgdkfiaa
/- Readers of bytes: where they stand. No conditions. -/
namespace Go.Proofs.Ytpgenmflgdkfiaa
open Go.Am
def okR (r : Reader) : Prop := (0 ≤ r.at_ ∧ r.at_ ≤ (r.b.D.length : Int)) ∧ r.b.D.length ≤ 1000000
theorem rdNew_ok (b : Sl Int) (h : b.D.length ≤ 1000000) : okR (rdNew b) := ⟨⟨Int.le_refl _, Int.natCast_nonneg _⟩, h⟩
theorem rdStop_ok {r : Reader} {a e : Int} (h : okR r) (ha : 0 ≤ a ∧ a ≤ (r.b.D.length : Int)) : okR (rdStop r a e) := by
  unfold rdStop
  cases r.err == 0
  · exact h
  · exact ⟨ha, h.2⟩
theorem bif_pair {P : Reader → Prop} {a : Bool} {x y : Reader × Int} (hx : P x.1) (hy : P y.1) : P (bif a then x else y).1 := by cases a <;> assumption
theorem rdNum_l0_ok (r : Reader) (h : okR r) : ∀ (f : Nat) (n s : Int) (v : Reader), f = v.b.D.length - v.at_.toNat + 1 → v.b = r.b → okR v → okR (rdNum_l0 r f n s v).1
  | 0, _, _, _, hf, _, _ => by omega
  | f + 1, n, s, v, hf, hb, hv => by
    have hw : 0 ≤ r.at_ ∧ r.at_ ≤ (v.b.D.length : Int) := by rw [hb]; exact h.1
    have h1 := hv.1
    have h2 := hv.2
    unfold rdNum_l0
    cases e1 : v.at_ == (v.b.D.length : Int)
    · have hne := ne_of_beq_false e1
      have hv' : okR (Reader.mk v.b (IntKind.i64.wrap (v.at_ + 1)) v.err v.made) := by
        have := wrapI (v.at_ + 1)
        refine ⟨⟨?_, ?_⟩, hv.2⟩ <;> (dsimp only; omega)
      have ih : ∀ n s, okR (rdNum_l0 r f n s (Reader.mk v.b (IntKind.i64.wrap (v.at_ + 1)) v.err v.made)).1 := fun n s => by
        refine rdNum_l0_ok r h f n s _ ?_ hb hv'
        have := wrapI (v.at_ + 1)
        dsimp only
        omega
      simp only [cond_false]
      repeat' (first | exact ih _ _ | exact rdStop_ok hv' hw | exact hv' | (apply bif_pair))
    · exact rdStop_ok hv hw
theorem rdNum_ok (r : Reader) (h : okR r) : okR (rdNum r).1 := by
  unfold rdNum
  refine bif_pair (P := okR) h ?_
  exact rdNum_l0_ok r h _ _ _ _ rfl rfl h
theorem rdNum_b_l0 (r : Reader) : ∀ (f : Nat) (n s : Int) (v : Reader), f = v.b.D.length - v.at_.toNat + 1 → okR v → v.b = r.b → (rdNum_l0 r f n s v).1.b = r.b
  | 0, _, _, _, hf, _, _ => by omega
  | f + 1, n, s, v, hf, hv, hb => by
    have st : ∀ {x : Reader} {a e : Int}, x.b = r.b → (rdStop x a e).b = r.b := fun {x a e} hx => by
      unfold rdStop; cases x.err == 0 <;> exact hx
    have h1 := hv.1
    have h2 := hv.2
    unfold rdNum_l0
    cases e1 : v.at_ == (v.b.D.length : Int)
    · have hne := ne_of_beq_false e1
      have hv' : okR (Reader.mk v.b (IntKind.i64.wrap (v.at_ + 1)) v.err v.made) := by
        have := wrapI (v.at_ + 1)
        refine ⟨⟨?_, ?_⟩, hv.2⟩ <;> (dsimp only; omega)
      have ih : ∀ n s, (rdNum_l0 r f n s (Reader.mk v.b (IntKind.i64.wrap (v.at_ + 1)) v.err v.made)).1.b = r.b := fun n s => by
        refine rdNum_b_l0 r f n s _ ?_ hv' hb
        have := wrapI (v.at_ + 1)
        dsimp only
        omega
      simp only [cond_false]
      repeat' (first | exact ih _ _ | exact st hb | exact hb | (apply bif_pair (P := fun x => x.b = r.b)))
    · exact st hb
theorem rdNum_b (r : Reader) (h : okR r) : (rdNum r).1.b = r.b := by
  unfold rdNum
  refine bif_pair (P := fun x => x.b = r.b) rfl ?_
  exact rdNum_b_l0 r _ _ _ _ rfl h rfl
theorem rdNum_err (r : Reader) (h : (rdErr r != 0) = true) : rdNum r = (r, 0) := by unfold rdNum; rw [h]; rfl
theorem rdLeft_eq (r : Reader) (h : okR r) (e : rdErr r = 0) : rdLeft r = (r.b.D.length : Int) - r.at_ := by
  unfold rdLeft
  rw [e]
  have := wrapI ((r.b.D.length : Int) - r.at_)
  have h1 := h.1
  have h2 := h.2
  show IntKind.i64.wrap _ = _
  omega
theorem rdIn_back (r : Reader) (h : okR r) (e : rdErr r = 0) : IntKind.i64.wrap (((rdNum r).1.b.D.length : Int) - rdLeft r) = r.at_ := by
  rw [rdLeft_eq r h e, rdNum_b r h]
  have := wrapI ((r.b.D.length : Int) - ((r.b.D.length : Int) - r.at_))
  have h1 := h.1
  have h2 := h.2
  omega
theorem rdIn_ok (r : Reader) (lo hi : Int) (h : okR r) : okR (rdIn r lo hi).1 := by
  have h1 := rdNum_ok r h
  cases e0 : rdErr r != 0
  · have hs : okR (rdStop (rdNum r).1 (IntKind.i64.wrap (((rdNum r).1.b.D.length : Int) - rdLeft r)) 5) := by
      rw [rdIn_back r h (eq_of_bne_false e0)]
      exact rdStop_ok h1 (by rw [rdNum_b r h]; exact h.1)
    unfold rdIn
    repeat' (first | exact h1 | exact hs | (apply bif_pair))
  · unfold rdIn
    rw [rdNum_err r e0]
    dsimp only
    rw [e0]
    exact h
theorem wrapU (n : Int) : IntKind.u64.wrap n = n % 18446744073709551616 := by
  simp [IntKind.wrap, IntKind.bits, IntKind.signed]
theorem wrap_lt64 (n : Int) : IntKind.u64.wrap n < 18446744073709551616 := by rw [wrapU]; omega
theorem wPut_l1_len {b : Nat} {x : Int} (hx : x < 18446744073709551616) : ∀ (f : Nat) (b1 : List Int) (n : Int), n.toNat < f → putInv b x b1 n → (wPut_l1 (fun b1 n => (Sl.mk false (b1 ++ [(IntKind.u8.wrap n)]))) f b1 n).D.length ≤ b + 10
  | 0, _, _, h, _ => by omega
  | f + 1, b1, n, h, hI => by
    unfold wPut_l1
    cases e1 : decide (n ≥ 128)
    · have := putInv_le hI hx
      show (b1 ++ [_]).length ≤ _
      rw [List.length_append, List.length_singleton]; omega
    · have hn := of_decide_eq_true e1
      exact wPut_l1_len hx f _ _ (by rw [shr7]; omega) (putInv_step hI hn)
theorem wPut_len (b : Sl Int) (x : Int) (hx : x < 18446744073709551616) : (wPut b x).D.length ≤ b.D.length + 10 := by
  unfold wPut
  cases e1 : decide (x ≥ 128)
  · show (b.D ++ [_]).length ≤ _
    rw [List.length_append, List.length_singleton]; omega
  · exact wPut_l1_len hx _ _ _ (by rw [shr7]; omega) (putInv_start (of_decide_eq_true e1))
end Go.Proofs.Ytpgenmflgdkfiaa
/- Commands as bytes. No conditions. -/
namespace Go.Proofs.Ytpgenmflgdkfiaa
open Go.Am
def cmdPut (c : Command) : (Sl Int) × Int :=
  (bif ((cmdCheck c) != 0) then ((Sl.mk true []), (cmdCheck c)) else ((wPut (wPut (wPut (wPut (Sl.mk true []) (IntKind.u64.wrap c.kind)) (IntKind.u64.wrap c.node)) (IntKind.u64.wrap c.site)) (IntKind.u64.wrap c.epoch)), 0))
theorem cmdPut_calls (c : Command)  : PCalls Try.prog 20 [.agg [.pv (.lit (.int .i64 c.kind)), .pv (.lit (.int .i64 c.node)), .pv (.lit (.int .i64 c.site)), .pv (.lit (.int .i64 c.epoch))]] (.tup [sS (some (cmdPut c).1.nil) (eI .u8) ((cmdPut c).1.D), .pv (.lit (.int .i64 ((cmdPut c).2)))]) := by
 generalize hR : cmdPut c = R
 refine PCalls.of_body tabOk Try.func20 rfl rfl rfl rfl rfl mixed fun E hP C hI => ?_
 refine Awp.consP C ?_
 refine rvc_un (rexec_prim C (δ := { v := .ptr 1 0, new := [(1, .cells [.pv (.lit (.int .i64 c.kind)), .pv (.lit (.int .i64 c.node)), .pv (.lit (.int .i64 c.site)), .pv (.lit (.int .i64 c.epoch))])] }) rfl rfl rfl rfl trivial rfl ?_)
 refine rvP C (sS (some true) (eI .u8) []) ?_
 refine rvP C (.pv (.lit (.int .i64 0))) ?_
 refine rvc_nil ?_
 refine Awp.seq ?_
 refine Awp.consP C ?_
 refine rvP C (.agg [.pv (.lit (.int .i64 c.kind)), .pv (.lit (.int .i64 c.node)), .pv (.lit (.int .i64 c.site)), .pv (.lit (.int .i64 c.epoch))]) ?_
 refine rvc_un (rexec_call hP C rfl rfl rfl (cmdCheck_calls c) ?_)
 refine rvP C (.pv (.lit (.int .i64 (cmdCheck c)))) ?_
 refine rvc_nil ?_
 refine Awp.consP C ?_
 refine rvP C (.pv (.lit (.int .i64 (cmdCheck c)))) ?_
 refine rvP C (.pv (.lit (.bool ((cmdCheck c) != 0)))) ?_
 refine rvc_nil ?_
 refine Awp.cond (b := ((cmdCheck c) != 0)) rfl (fun h1 => ?_) (fun h1 => ?_)
 ·
  replace hR := of_true h1 hR
  refine Awp.consP C ?_
  refine rvP C (.pv (.lit (.int .i64 (cmdCheck c)))) ?_
  refine rvP C (sS (some true) (eI .u8) []) ?_
  refine rvP C (.pv (.lit (.int .i64 (cmdCheck c)))) ?_
  refine rvc_nil ?_
  refine Awp.ret ?_
  subst hR
  exact ⟨.inl rfl, rfl⟩
 ·
  replace hR := of_false h1 hR
  refine Awp.skip ?_
  refine Awp.consP C ?_
  refine rvP C (sS (some true) (eI .u8) []) ?_
  refine rvc_nil ?_
  refine Awp.seq ?_
  refine Awp.consP C ?_
  refine rvP C (.ptr 1 0) ?_
  refine rvP C (.pv (.lit (.int .i64 c.kind))) ?_
  refine rvP C (.ptr 1 1) ?_
  refine rvP C (.pv (.lit (.int .i64 c.node))) ?_
  refine rvP C (.ptr 1 2) ?_
  refine rvP C (.pv (.lit (.int .i64 c.site))) ?_
  refine rvP C (.ptr 1 3) ?_
  refine rvP C (.pv (.lit (.int .i64 c.epoch))) ?_
  refine rvc_un (rexec_buildSliceF C (eI .i64) [c.kind, c.node, c.site, c.epoch] rfl rfl rfl rfl rfl rfl rfl (by decide) rfl ?_)
  refine rvP C (.pv (.lit (.int .i64 4))) ?_
  refine rvP C (.pv (.lit (.int .i64 0))) ?_
  refine rvc_nil ?_
  refine Awp.block ?_
  refine Awp.rounds 5 ?_
  refine Arounds.succ ?_
  refine Awp.consP C ?_
  refine rvP C (.pv (.lit (.bool true))) ?_
  refine rvc_nil ?_
  refine Awp.seq ?_
  refine Awp.condT (b := true) rfl rfl ?_
  refine Awp.skip ?_
  refine Awp.seq ?_
  refine Awp.block ?_
  refine Awp.consP C ?_
  have h2 : [c.kind, c.node, c.site, c.epoch][0]? = some c.kind := rfl
  refine rvc_un (rexec_idxS C rfl rfl rfl rfl rfl rfl c.kind (Int.natCast_nonneg _) h2 ?_)
  refine rvP C (.pv (.lit (.int .i64 c.kind))) ?_
  refine rvP C (.pv (.lit (.int .i64 c.kind))) ?_
  refine rvc_nil ?_
  refine Awp.regionP C ?_
  refine rvP C (sS (some true) (eI .u8) []) ?_
  refine rvP C (.pv (.lit (.int .i64 c.kind))) ?_
  refine rvP C (.pv (.lit (.int .u64 (IntKind.u64.wrap c.kind)))) ?_
  refine rvc_un (rexec_buildSliceF C (eI .u64) [(IntKind.u64.wrap c.kind)] rfl rfl rfl rfl rfl rfl rfl (by decide) rfl ?_)
  refine rvc_un (rexec_call hP C rfl rfl rfl (wPut_calls (Sl.mk true []) (IntKind.u64.wrap c.kind) (wrap_lt64 _) (by simp)) ?_)
  refine rvP C (sS (some (wPut (Sl.mk true []) (IntKind.u64.wrap c.kind)).nil) (eI .u8) ((wPut (Sl.mk true []) (IntKind.u64.wrap c.kind)).D)) ?_
  refine rvc_nil ?_
  refine Awp.regionP C ?_
  refine rvP C (.pv (.lit (.int .i64 1))) ?_
  refine rvP C (.pv (.lit (.int .i64 1))) ?_
  refine rvc_nil ?_
  refine Arounds.succ ?_
  refine Awp.consP C ?_
  refine rvP C (.pv (.lit (.bool true))) ?_
  refine rvc_nil ?_
  refine Awp.seq ?_
  refine Awp.condT (b := true) rfl rfl ?_
  refine Awp.skip ?_
  refine Awp.seq ?_
  refine Awp.block ?_
  refine Awp.consP C ?_
  have h3 : [c.kind, c.node, c.site, c.epoch][1]? = some c.node := rfl
  refine rvc_un (rexec_idxS C rfl rfl rfl rfl rfl rfl c.node (Int.natCast_nonneg _) h3 ?_)
  refine rvP C (.pv (.lit (.int .i64 c.node))) ?_
  refine rvP C (.pv (.lit (.int .i64 c.node))) ?_
  refine rvc_nil ?_
  refine Awp.regionP C ?_
  refine rvP C (sS (some (wPut (Sl.mk true []) (IntKind.u64.wrap c.kind)).nil) (eI .u8) ((wPut (Sl.mk true []) (IntKind.u64.wrap c.kind)).D)) ?_
  refine rvP C (.pv (.lit (.int .i64 c.node))) ?_
  refine rvP C (.pv (.lit (.int .u64 (IntKind.u64.wrap c.node)))) ?_
  refine rvc_un (rexec_buildSliceF C (eI .u64) [(IntKind.u64.wrap c.node)] rfl rfl rfl rfl rfl rfl rfl (by decide) rfl ?_)
  refine rvc_un (rexec_call hP C rfl rfl rfl (wPut_calls (wPut (Sl.mk true []) (IntKind.u64.wrap c.kind)) (IntKind.u64.wrap c.node) (wrap_lt64 _) (by show ((wPut (Sl.mk true []) (IntKind.u64.wrap c.kind)).D).length ≤ 1000000; have := wPut_len (Sl.mk true []) (IntKind.u64.wrap c.kind) (wrap_lt64 _); (try dsimp only [List.length_nil] at this); have := eq_of_bne_false h1; omega)) ?_)
  refine rvP C (sS (some (wPut (wPut (Sl.mk true []) (IntKind.u64.wrap c.kind)) (IntKind.u64.wrap c.node)).nil) (eI .u8) ((wPut (wPut (Sl.mk true []) (IntKind.u64.wrap c.kind)) (IntKind.u64.wrap c.node)).D)) ?_
  refine rvc_nil ?_
  refine Awp.regionP C ?_
  refine rvP C (.pv (.lit (.int .i64 2))) ?_
  refine rvP C (.pv (.lit (.int .i64 2))) ?_
  refine rvc_nil ?_
  refine Arounds.succ ?_
  refine Awp.consP C ?_
  refine rvP C (.pv (.lit (.bool true))) ?_
  refine rvc_nil ?_
  refine Awp.seq ?_
  refine Awp.condT (b := true) rfl rfl ?_
  refine Awp.skip ?_
  refine Awp.seq ?_
  refine Awp.block ?_
  refine Awp.consP C ?_
  have h4 : [c.kind, c.node, c.site, c.epoch][2]? = some c.site := rfl
  refine rvc_un (rexec_idxS C rfl rfl rfl rfl rfl rfl c.site (Int.natCast_nonneg _) h4 ?_)
  refine rvP C (.pv (.lit (.int .i64 c.site))) ?_
  refine rvP C (.pv (.lit (.int .i64 c.site))) ?_
  refine rvc_nil ?_
  refine Awp.regionP C ?_
  refine rvP C (sS (some (wPut (wPut (Sl.mk true []) (IntKind.u64.wrap c.kind)) (IntKind.u64.wrap c.node)).nil) (eI .u8) ((wPut (wPut (Sl.mk true []) (IntKind.u64.wrap c.kind)) (IntKind.u64.wrap c.node)).D)) ?_
  refine rvP C (.pv (.lit (.int .i64 c.site))) ?_
  refine rvP C (.pv (.lit (.int .u64 (IntKind.u64.wrap c.site)))) ?_
  refine rvc_un (rexec_buildSliceF C (eI .u64) [(IntKind.u64.wrap c.site)] rfl rfl rfl rfl rfl rfl rfl (by decide) rfl ?_)
  refine rvc_un (rexec_call hP C rfl rfl rfl (wPut_calls (wPut (wPut (Sl.mk true []) (IntKind.u64.wrap c.kind)) (IntKind.u64.wrap c.node)) (IntKind.u64.wrap c.site) (wrap_lt64 _) (by show ((wPut (wPut (Sl.mk true []) (IntKind.u64.wrap c.kind)) (IntKind.u64.wrap c.node)).D).length ≤ 1000000; have := wPut_len (Sl.mk true []) (IntKind.u64.wrap c.kind) (wrap_lt64 _); (try dsimp only [List.length_nil] at this); have := wPut_len (wPut (Sl.mk true []) (IntKind.u64.wrap c.kind)) (IntKind.u64.wrap c.node) (wrap_lt64 _); (try dsimp only [List.length_nil] at this); have := eq_of_bne_false h1; omega)) ?_)
  refine rvP C (sS (some (wPut (wPut (wPut (Sl.mk true []) (IntKind.u64.wrap c.kind)) (IntKind.u64.wrap c.node)) (IntKind.u64.wrap c.site)).nil) (eI .u8) ((wPut (wPut (wPut (Sl.mk true []) (IntKind.u64.wrap c.kind)) (IntKind.u64.wrap c.node)) (IntKind.u64.wrap c.site)).D)) ?_
  refine rvc_nil ?_
  refine Awp.regionP C ?_
  refine rvP C (.pv (.lit (.int .i64 3))) ?_
  refine rvP C (.pv (.lit (.int .i64 3))) ?_
  refine rvc_nil ?_
  refine Arounds.succ ?_
  refine Awp.consP C ?_
  refine rvP C (.pv (.lit (.bool true))) ?_
  refine rvc_nil ?_
  refine Awp.seq ?_
  refine Awp.condT (b := true) rfl rfl ?_
  refine Awp.skip ?_
  refine Awp.seq ?_
  refine Awp.block ?_
  refine Awp.consP C ?_
  have h5 : [c.kind, c.node, c.site, c.epoch][3]? = some c.epoch := rfl
  refine rvc_un (rexec_idxS C rfl rfl rfl rfl rfl rfl c.epoch (Int.natCast_nonneg _) h5 ?_)
  refine rvP C (.pv (.lit (.int .i64 c.epoch))) ?_
  refine rvP C (.pv (.lit (.int .i64 c.epoch))) ?_
  refine rvc_nil ?_
  refine Awp.regionP C ?_
  refine rvP C (sS (some (wPut (wPut (wPut (Sl.mk true []) (IntKind.u64.wrap c.kind)) (IntKind.u64.wrap c.node)) (IntKind.u64.wrap c.site)).nil) (eI .u8) ((wPut (wPut (wPut (Sl.mk true []) (IntKind.u64.wrap c.kind)) (IntKind.u64.wrap c.node)) (IntKind.u64.wrap c.site)).D)) ?_
  refine rvP C (.pv (.lit (.int .i64 c.epoch))) ?_
  refine rvP C (.pv (.lit (.int .u64 (IntKind.u64.wrap c.epoch)))) ?_
  refine rvc_un (rexec_buildSliceF C (eI .u64) [(IntKind.u64.wrap c.epoch)] rfl rfl rfl rfl rfl rfl rfl (by decide) rfl ?_)
  refine rvc_un (rexec_call hP C rfl rfl rfl (wPut_calls (wPut (wPut (wPut (Sl.mk true []) (IntKind.u64.wrap c.kind)) (IntKind.u64.wrap c.node)) (IntKind.u64.wrap c.site)) (IntKind.u64.wrap c.epoch) (wrap_lt64 _) (by show ((wPut (wPut (wPut (Sl.mk true []) (IntKind.u64.wrap c.kind)) (IntKind.u64.wrap c.node)) (IntKind.u64.wrap c.site)).D).length ≤ 1000000; have := wPut_len (Sl.mk true []) (IntKind.u64.wrap c.kind) (wrap_lt64 _); (try dsimp only [List.length_nil] at this); have := wPut_len (wPut (Sl.mk true []) (IntKind.u64.wrap c.kind)) (IntKind.u64.wrap c.node) (wrap_lt64 _); (try dsimp only [List.length_nil] at this); have := wPut_len (wPut (wPut (Sl.mk true []) (IntKind.u64.wrap c.kind)) (IntKind.u64.wrap c.node)) (IntKind.u64.wrap c.site) (wrap_lt64 _); (try dsimp only [List.length_nil] at this); have := eq_of_bne_false h1; omega)) ?_)
  refine rvP C (sS (some (wPut (wPut (wPut (wPut (Sl.mk true []) (IntKind.u64.wrap c.kind)) (IntKind.u64.wrap c.node)) (IntKind.u64.wrap c.site)) (IntKind.u64.wrap c.epoch)).nil) (eI .u8) ((wPut (wPut (wPut (wPut (Sl.mk true []) (IntKind.u64.wrap c.kind)) (IntKind.u64.wrap c.node)) (IntKind.u64.wrap c.site)) (IntKind.u64.wrap c.epoch)).D)) ?_
  refine rvc_nil ?_
  refine Awp.regionP C ?_
  refine rvP C (.pv (.lit (.int .i64 4))) ?_
  refine rvP C (.pv (.lit (.int .i64 4))) ?_
  refine rvc_nil ?_
  refine Arounds.succ ?_
  refine Awp.consP C ?_
  refine rvP C (.pv (.lit (.bool false))) ?_
  refine rvc_nil ?_
  refine Awp.seq ?_
  refine Awp.condF (b := false) rfl rfl ?_
  refine Awp.exit ?_
  refine Awp.consP C ?_
  refine rvP C (sS (some (wPut (wPut (wPut (wPut (Sl.mk true []) (IntKind.u64.wrap c.kind)) (IntKind.u64.wrap c.node)) (IntKind.u64.wrap c.site)) (IntKind.u64.wrap c.epoch)).nil) (eI .u8) ((wPut (wPut (wPut (wPut (Sl.mk true []) (IntKind.u64.wrap c.kind)) (IntKind.u64.wrap c.node)) (IntKind.u64.wrap c.site)) (IntKind.u64.wrap c.epoch)).D)) ?_
  refine rvP C (sS (some (wPut (wPut (wPut (wPut (Sl.mk true []) (IntKind.u64.wrap c.kind)) (IntKind.u64.wrap c.node)) (IntKind.u64.wrap c.site)) (IntKind.u64.wrap c.epoch)).nil) (eI .u8) ((wPut (wPut (wPut (wPut (Sl.mk true []) (IntKind.u64.wrap c.kind)) (IntKind.u64.wrap c.node)) (IntKind.u64.wrap c.site)) (IntKind.u64.wrap c.epoch)).D)) ?_
  refine rvP C (.pv (.lit (.int .i64 0))) ?_
  refine rvc_nil ?_
  refine Awp.ret ?_
  subst hR
  exact ⟨.inl rfl, rfl⟩
def rCmdPut (c : Command) : (Sl Int) × Int :=
  (bif ((rCmdCheck c) != 0) then ((Sl.mk true []), (rCmdCheck c)) else ((rPut (Sl.mk true []) (Sl.mk false [(IntKind.u64.wrap c.kind), (IntKind.u64.wrap c.node), (IntKind.u64.wrap c.site), (IntKind.u64.wrap c.epoch)])), 0))
theorem rCmdPut_calls (c : Command)  : PCalls Try.prog 21 [.agg [.pv (.lit (.int .i64 c.kind)), .pv (.lit (.int .i64 c.node)), .pv (.lit (.int .i64 c.site)), .pv (.lit (.int .i64 c.epoch))]] (.tup [sS (some (rCmdPut c).1.nil) (eI .u8) ((rCmdPut c).1.D), .pv (.lit (.int .i64 ((rCmdPut c).2)))]) := by
 generalize hR : rCmdPut c = R
 refine PCalls.of_body tabOk Try.func21 rfl rfl rfl rfl rfl mixed fun E hP C hI => ?_
 refine Awp.consP C ?_
 refine rvc_un (rexec_prim C (δ := { v := .ptr 1 0, new := [(1, .cells [.pv (.lit (.int .i64 c.kind)), .pv (.lit (.int .i64 c.node)), .pv (.lit (.int .i64 c.site)), .pv (.lit (.int .i64 c.epoch))])] }) rfl rfl rfl rfl trivial rfl ?_)
 refine rvP C (sS (some true) (eI .u8) []) ?_
 refine rvP C (.pv (.lit (.int .i64 0))) ?_
 refine rvc_nil ?_
 refine Awp.seq ?_
 refine Awp.consP C ?_
 refine rvP C (.agg [.pv (.lit (.int .i64 c.kind)), .pv (.lit (.int .i64 c.node)), .pv (.lit (.int .i64 c.site)), .pv (.lit (.int .i64 c.epoch))]) ?_
 refine rvc_un (rexec_call hP C rfl rfl rfl (rCmdCheck_calls c) ?_)
 refine rvP C (.pv (.lit (.int .i64 (rCmdCheck c)))) ?_
 refine rvc_nil ?_
 refine Awp.consP C ?_
 refine rvP C (.pv (.lit (.int .i64 (rCmdCheck c)))) ?_
 refine rvP C (.pv (.lit (.bool ((rCmdCheck c) != 0)))) ?_
 refine rvc_nil ?_
 refine Awp.cond (b := ((rCmdCheck c) != 0)) rfl (fun h1 => ?_) (fun h1 => ?_)
 ·
  replace hR := of_true h1 hR
  refine Awp.consP C ?_
  refine rvP C (.pv (.lit (.int .i64 (rCmdCheck c)))) ?_
  refine rvP C (sS (some true) (eI .u8) []) ?_
  refine rvP C (.pv (.lit (.int .i64 (rCmdCheck c)))) ?_
  refine rvc_nil ?_
  refine Awp.ret ?_
  subst hR
  exact ⟨.inl rfl, rfl⟩
 ·
  replace hR := of_false h1 hR
  refine Awp.skip ?_
  refine Awp.consP C ?_
  refine rvP C (.ptr 1 0) ?_
  refine rvP C (.pv (.lit (.int .i64 c.kind))) ?_
  refine rvP C (.pv (.lit (.int .u64 (IntKind.u64.wrap c.kind)))) ?_
  refine rvP C (.ptr 1 1) ?_
  refine rvP C (.pv (.lit (.int .i64 c.node))) ?_
  refine rvP C (.pv (.lit (.int .u64 (IntKind.u64.wrap c.node)))) ?_
  refine rvP C (.ptr 1 2) ?_
  refine rvP C (.pv (.lit (.int .i64 c.site))) ?_
  refine rvP C (.pv (.lit (.int .u64 (IntKind.u64.wrap c.site)))) ?_
  refine rvP C (.ptr 1 3) ?_
  refine rvP C (.pv (.lit (.int .i64 c.epoch))) ?_
  refine rvP C (.pv (.lit (.int .u64 (IntKind.u64.wrap c.epoch)))) ?_
  refine rvc_un (rexec_buildSliceF C (eI .u64) [(IntKind.u64.wrap c.kind), (IntKind.u64.wrap c.node), (IntKind.u64.wrap c.site), (IntKind.u64.wrap c.epoch)] rfl rfl rfl rfl rfl rfl rfl (by decide) rfl ?_)
  refine rvc_un (rexec_call hP C rfl rfl rfl (rPut_calls (Sl.mk true []) (Sl.mk false [(IntKind.u64.wrap c.kind), (IntKind.u64.wrap c.node), (IntKind.u64.wrap c.site), (IntKind.u64.wrap c.epoch)]) (by simp) (by simp)) ?_)
  refine rvP C (sS (some (rPut (Sl.mk true []) (Sl.mk false [(IntKind.u64.wrap c.kind), (IntKind.u64.wrap c.node), (IntKind.u64.wrap c.site), (IntKind.u64.wrap c.epoch)])).nil) (eI .u8) ((rPut (Sl.mk true []) (Sl.mk false [(IntKind.u64.wrap c.kind), (IntKind.u64.wrap c.node), (IntKind.u64.wrap c.site), (IntKind.u64.wrap c.epoch)])).D)) ?_
  refine rvP C (.pv (.lit (.int .i64 0))) ?_
  refine rvc_nil ?_
  refine Awp.ret ?_
  subst hR
  exact ⟨.inl rfl, rfl⟩
def cmdGet (b : (Sl Int)) : Command × Int :=
  (bif ((rdEnd (rdIn (rdIn (rdIn (rdIn (rdNew b) 0 99).1 0 6).1 0 3).1 0 1099511627776).1) != 0) then ((Command.mk 0 0 0 0), 120) else (bif ((cmdCheck (Command.mk (rdIn (rdNew b) 0 99).2 (rdIn (rdIn (rdNew b) 0 99).1 0 6).2 (rdIn (rdIn (rdIn (rdNew b) 0 99).1 0 6).1 0 3).2 (rdIn (rdIn (rdIn (rdIn (rdNew b) 0 99).1 0 6).1 0 3).1 0 1099511627776).2)) != 0) then ((Command.mk 0 0 0 0), 120) else ((Command.mk (rdIn (rdNew b) 0 99).2 (rdIn (rdIn (rdNew b) 0 99).1 0 6).2 (rdIn (rdIn (rdIn (rdNew b) 0 99).1 0 6).1 0 3).2 (rdIn (rdIn (rdIn (rdIn (rdNew b) 0 99).1 0 6).1 0 3).1 0 1099511627776).2), 0)))
theorem cmdGet_calls (b : (Sl Int)) (hl1 : b.D.length ≤ 1000000) : PCalls Try.prog 22 [sS (some b.nil) (eI .u8) b.D] (.tup [.agg [.pv (.lit (.int .i64 ((cmdGet b).1.kind))), .pv (.lit (.int .i64 ((cmdGet b).1.node))), .pv (.lit (.int .i64 ((cmdGet b).1.site))), .pv (.lit (.int .i64 ((cmdGet b).1.epoch)))], .pv (.lit (.int .i64 ((cmdGet b).2)))]) := by
 generalize hR : cmdGet b = R
 refine PCalls.of_body tabOk Try.func22 rfl rfl rfl rfl rfl mixed fun E hP C hI => ?_
 refine Awp.consP C ?_
 refine rvc_un (rexec_prim C (δ := { v := .ptr 2 0, new := [(2, .cells [.pv (.lit (.int .i64 0)), .pv (.lit (.int .i64 0)), .pv (.lit (.int .i64 0)), .pv (.lit (.int .i64 0))])] }) rfl rfl rfl rfl trivial rfl ?_)
 refine rvP C (.pv (.lit (.int .i64 0))) ?_
 refine rvc_nil ?_
 refine Awp.cons C (fun _ => .quiet) (by kernel_rfl) ?_
 refine rvP C (sS (some b.nil) (eI .u8) b.D) ?_
 refine rvc_un (rexec_callO hP C rfl rfl rfl rfl (rdNew_calls b hl1) ?_)
 refine rvP C (.ptr 7 0) ?_
 refine rvc_nil ?_
 refine Awp.cons C (fun _ => .writer) (by kernel_rfl) ?_
 refine rvP C (.ptr 7 0) ?_
 obtain ⟨q1, hq_q1⟩ : ∃ q_, q_ = (rdIn (rdNew b) 0 99) := ⟨_, rfl⟩
 have hc_q1 := (rdIn_calls (rdNew b) 0 99 (rdNew_ok b hl1))
 first | rw [← hq_q1] at hR hc_q1 | (unfold cmdGet at hR; rw [← hq_q1] at hR hc_q1)
 have hf0_q1 := rdIn_ok (rdNew b) 0 99 (rdNew_ok b hl1)
 rw [← hq_q1] at hf0_q1
 refine rvc_un (rexec_callM hP C (b := 7) rfl rfl rfl hc_q1 rfl rfl ?_)
 refine rvP C (.ptr 7 0) ?_
 obtain ⟨q2, hq_q2⟩ : ∃ q_, q_ = (rdIn q1.1 0 6) := ⟨_, rfl⟩
 have hc_q2 := (rdIn_calls q1.1 0 6 hf0_q1)
 first | rw [← hq_q2] at hR hc_q2 | (unfold cmdGet at hR; rw [← hq_q2] at hR hc_q2)
 have hf0_q2 := rdIn_ok q1.1 0 6 hf0_q1
 rw [← hq_q2] at hf0_q2
 refine rvc_un (rexec_callM hP C (b := 7) rfl rfl rfl hc_q2 rfl rfl ?_)
 refine rvP C (.ptr 7 0) ?_
 obtain ⟨q3, hq_q3⟩ : ∃ q_, q_ = (rdIn q2.1 0 3) := ⟨_, rfl⟩
 have hc_q3 := (rdIn_calls q2.1 0 3 hf0_q2)
 first | rw [← hq_q3] at hR hc_q3 | (unfold cmdGet at hR; rw [← hq_q3] at hR hc_q3)
 have hf0_q3 := rdIn_ok q2.1 0 3 hf0_q2
 rw [← hq_q3] at hf0_q3
 refine rvc_un (rexec_callM hP C (b := 7) rfl rfl rfl hc_q3 rfl rfl ?_)
 refine rvP C (.ptr 7 0) ?_
 obtain ⟨q4, hq_q4⟩ : ∃ q_, q_ = (rdIn q3.1 0 1099511627776) := ⟨_, rfl⟩
 have hc_q4 := (rdIn_calls q3.1 0 1099511627776 hf0_q3)
 first | rw [← hq_q4] at hR hc_q4 | (unfold cmdGet at hR; rw [← hq_q4] at hR hc_q4)
 have hf0_q4 := rdIn_ok q3.1 0 1099511627776 hf0_q3
 rw [← hq_q4] at hf0_q4
 refine rvc_un (rexec_callM hP C (b := 7) rfl rfl rfl hc_q4 rfl rfl ?_)
 refine rvP C (.agg [.pv (.lit (.int .i64 q1.2)), .pv (.lit (.int .i64 q2.2)), .pv (.lit (.int .i64 q3.2)), .pv (.lit (.int .i64 q4.2))]) ?_
 refine rvc_un (rexec_prim C (δ := { v := .ptr 5 0, new := [(5, .cells [.pv (.lit (.int .i64 0)), .pv (.lit (.int .i64 0)), .pv (.lit (.int .i64 0)), .pv (.lit (.int .i64 0))])] }) rfl rfl rfl rfl trivial rfl ?_)
 refine rvc_un (rexec_prim C (δ := { v := .undef, wr := [(5, some (.cells [.pv (.lit (.int .i64 q1.2)), .pv (.lit (.int .i64 q2.2)), .pv (.lit (.int .i64 q3.2)), .pv (.lit (.int .i64 q4.2))]))] }) rfl rfl rfl rfl trivial rfl ?_)
 refine rvc_nil ?_
 refine Awp.seq ?_
 refine Awp.cons C (fun _ => .writer) (by kernel_rfl) ?_
 refine rvP C (.ptr 7 0) ?_
 refine rvc_un (rexec_callM hP C (b := 7) rfl rfl rfl (rdEnd_calls q4.1) rfl rfl ?_)
 refine rvP C (.pv (.lit (.bool ((rdEnd q4.1) != 0)))) ?_
 refine rvP C (.pv (.lit (.bool ((rdEnd q4.1) != 0)))) ?_
 refine rvc_case 20 ((rdEnd q4.1) != 0) rfl (fun h1 => ?_) (fun h1 => ?_)
 ·
  replace hR := of_true h1 hR
  refine rvS ?_
  refine rvS ?_
  refine rvS ?_
  refine rvP C (.pv (.lit (.bool true))) ?_
  refine rvc_nil ?_
  refine Awp.condT (b := true) rfl rfl ?_
  refine Awp.consP C ?_
  refine rvP C (.agg [.pv (.lit (.int .i64 0)), .pv (.lit (.int .i64 0)), .pv (.lit (.int .i64 0)), .pv (.lit (.int .i64 0))]) ?_
  refine rvc_un (rexec_prim C (δ := { v := .undef, wr := [(2, some (.cells [.pv (.lit (.int .i64 0)), .pv (.lit (.int .i64 0)), .pv (.lit (.int .i64 0)), .pv (.lit (.int .i64 0))]))] }) rfl rfl rfl rfl trivial rfl ?_)
  refine rvP C (.pv (.lit (.int .i64 120))) ?_
  refine rvc_nil ?_
  refine Awp.ret ?_
  subst hR
  exact ⟨.inl rfl, rfl⟩
 ·
  replace hR := of_false h1 hR
  refine rvO C (.agg [.pv (.lit (.int .i64 q1.2)), .pv (.lit (.int .i64 q2.2)), .pv (.lit (.int .i64 q3.2)), .pv (.lit (.int .i64 q4.2))]) ?_
  refine rvc_open rfl rfl rfl (rexec_call hP C rfl rfl rfl (cmdCheck_calls (Command.mk q1.2 q2.2 q3.2 q4.2)) ?_)
  refine rvO C (.pv (.lit (.bool ((cmdCheck (Command.mk q1.2 q2.2 q3.2 q4.2)) != 0)))) ?_
  refine rvP C (.pv (.lit (.bool ((cmdCheck (Command.mk q1.2 q2.2 q3.2 q4.2)) != 0)))) ?_
  refine rvc_nil ?_
  refine Awp.cond (b := ((cmdCheck (Command.mk q1.2 q2.2 q3.2 q4.2)) != 0)) rfl (fun h2 => ?_) (fun h2 => ?_)
  ·
   replace hR := of_true h2 hR
   refine Awp.consP C ?_
   refine rvP C (.agg [.pv (.lit (.int .i64 0)), .pv (.lit (.int .i64 0)), .pv (.lit (.int .i64 0)), .pv (.lit (.int .i64 0))]) ?_
   refine rvc_un (rexec_prim C (δ := { v := .undef, wr := [(2, some (.cells [.pv (.lit (.int .i64 0)), .pv (.lit (.int .i64 0)), .pv (.lit (.int .i64 0)), .pv (.lit (.int .i64 0))]))] }) rfl rfl rfl rfl trivial rfl ?_)
   refine rvP C (.pv (.lit (.int .i64 120))) ?_
   refine rvc_nil ?_
   refine Awp.ret ?_
   subst hR
   exact ⟨.inl rfl, rfl⟩
  ·
   replace hR := of_false h2 hR
   refine Awp.skip ?_
   refine Awp.consP C ?_
   refine rvP C (.agg [.pv (.lit (.int .i64 q1.2)), .pv (.lit (.int .i64 q2.2)), .pv (.lit (.int .i64 q3.2)), .pv (.lit (.int .i64 q4.2))]) ?_
   refine rvc_un (rexec_prim C (δ := { v := .undef, wr := [(2, some (.cells [.pv (.lit (.int .i64 q1.2)), .pv (.lit (.int .i64 q2.2)), .pv (.lit (.int .i64 q3.2)), .pv (.lit (.int .i64 q4.2))]))] }) rfl rfl rfl rfl trivial rfl ?_)
   refine rvP C (.pv (.lit (.int .i64 0))) ?_
   refine rvc_nil ?_
   refine Awp.ret ?_
   subst hR
   exact ⟨.inl rfl, rfl⟩
end Go.Proofs.Ytpgenmflgdkfiaa
