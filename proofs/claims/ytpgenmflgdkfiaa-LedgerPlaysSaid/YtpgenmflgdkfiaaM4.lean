import Derived.Test.YtpgenmflgdkfiaaM3
import Derived.Test.YtpgenmflgdkfiaaM2
/- Commands as bytes. No conditions. -/
namespace Go.Proofs.Ytpgenmflgdkfiaa
open Go.Am
def cmdPut (c : Command) : (Sl Int) × Int :=
  (bif ((cmdCheck c) != 0) then ((Sl.mk true []), (cmdCheck c)) else ((wPut (wPut (wPut (wPut (Sl.mk true []) (IntKind.u64.wrap c.kind)) (IntKind.u64.wrap c.node)) (IntKind.u64.wrap c.site)) (IntKind.u64.wrap c.epoch)), 0))
theorem cmdPut_calls (c : Command)  : PCalls Try.prog 20 [.agg [.pv (.lit (.int .i64 c.kind)), .pv (.lit (.int .i64 c.node)), .pv (.lit (.int .i64 c.site)), .pv (.lit (.int .i64 c.epoch))]] (.tup [sS (some (cmdPut c).1.nil) (eI .u8) ((cmdPut c).1.D), .pv (.lit (.int .i64 ((cmdPut c).2)))]) := by
 generalize hR : cmdPut c = R
 refine PCalls.of_body tabOk Try.func20 rfl rfl rfl rfl rfl mixed fun E hP C hI => ?_
 refine Awp.consP C ?_
 refine rvc_un (rexec_prim C (δ := { v := .ptr 1 0, new := [(1, .cells [.pv (.lit (.int .i64 c.kind)), .pv (.lit (.int .i64 c.node)), .pv (.lit (.int .i64 c.site)), .pv (.lit (.int .i64 c.epoch))])] }) rfl rfl rfl rfl trivial rfl ?_)
 refine rvP C (sS (some true) (eI .u8) []) ?_
 refine rvP C (.pv (.lit (.int .i64 0))) ?_
 refine rvc_nil ?_
 refine Awp.seq ?_
 refine Awp.consP C ?_
 refine rvP C (.agg [.pv (.lit (.int .i64 c.kind)), .pv (.lit (.int .i64 c.node)), .pv (.lit (.int .i64 c.site)), .pv (.lit (.int .i64 c.epoch))]) ?_
 refine rvc_un (rexec_call hP C rfl rfl rfl (cmdCheck_calls c) ?_)
 refine rvP C (.pv (.lit (.int .i64 (cmdCheck c)))) ?_
 refine rvc_nil ?_
 refine Awp.consP C ?_
 refine rvP C (.pv (.lit (.int .i64 (cmdCheck c)))) ?_
 refine rvP C (.pv (.lit (.bool ((cmdCheck c) != 0)))) ?_
 refine rvc_nil ?_
 refine Awp.cond (b := ((cmdCheck c) != 0)) rfl (fun h1 => ?_) (fun h1 => ?_)
 ·
  replace hR := of_true h1 hR
  refine Awp.consP C ?_
  refine rvP C (.pv (.lit (.int .i64 (cmdCheck c)))) ?_
  refine rvP C (sS (some true) (eI .u8) []) ?_
  refine rvP C (.pv (.lit (.int .i64 (cmdCheck c)))) ?_
  refine rvc_nil ?_
  refine Awp.ret ?_
  subst hR
  exact ⟨.inl rfl, rfl⟩
 ·
  replace hR := of_false h1 hR
  refine Awp.skip ?_
  refine Awp.consP C ?_
  refine rvP C (sS (some true) (eI .u8) []) ?_
  refine rvc_nil ?_
  refine Awp.seq ?_
  refine Awp.consP C ?_
  refine rvP C (.ptr 1 0) ?_
  refine rvP C (.pv (.lit (.int .i64 c.kind))) ?_
  refine rvP C (.ptr 1 1) ?_
  refine rvP C (.pv (.lit (.int .i64 c.node))) ?_
  refine rvP C (.ptr 1 2) ?_
  refine rvP C (.pv (.lit (.int .i64 c.site))) ?_
  refine rvP C (.ptr 1 3) ?_
  refine rvP C (.pv (.lit (.int .i64 c.epoch))) ?_
  refine rvc_un (rexec_buildSliceF C (eI .i64) [c.kind, c.node, c.site, c.epoch] rfl rfl rfl rfl rfl rfl rfl (by decide) rfl ?_)
  refine rvP C (.pv (.lit (.int .i64 4))) ?_
  refine rvP C (.pv (.lit (.int .i64 0))) ?_
  refine rvc_nil ?_
  refine Awp.block ?_
  refine Awp.rounds 5 ?_
  refine Arounds.succ ?_
  refine Awp.consP C ?_
  refine rvP C (.pv (.lit (.bool true))) ?_
  refine rvc_nil ?_
  refine Awp.seq ?_
  refine Awp.condT (b := true) rfl rfl ?_
  refine Awp.skip ?_
  refine Awp.seq ?_
  refine Awp.block ?_
  refine Awp.consP C ?_
  have h2 : [c.kind, c.node, c.site, c.epoch][0]? = some c.kind := rfl
  refine rvc_un (rexec_idxS C rfl rfl rfl rfl rfl rfl c.kind (Int.natCast_nonneg _) h2 ?_)
  refine rvP C (.pv (.lit (.int .i64 c.kind))) ?_
  refine rvP C (.pv (.lit (.int .i64 c.kind))) ?_
  refine rvc_nil ?_
  refine Awp.regionP C ?_
  refine rvP C (sS (some true) (eI .u8) []) ?_
  refine rvP C (.pv (.lit (.int .i64 c.kind))) ?_
  refine rvP C (.pv (.lit (.int .u64 (IntKind.u64.wrap c.kind)))) ?_
  refine rvc_un (rexec_buildSliceF C (eI .u64) [(IntKind.u64.wrap c.kind)] rfl rfl rfl rfl rfl rfl rfl (by decide) rfl ?_)
  refine rvc_un (rexec_call hP C rfl rfl rfl (wPut_calls (Sl.mk true []) (IntKind.u64.wrap c.kind) (wrap_lt64 _) (by simp)) ?_)
  refine rvP C (sS (some (wPut (Sl.mk true []) (IntKind.u64.wrap c.kind)).nil) (eI .u8) ((wPut (Sl.mk true []) (IntKind.u64.wrap c.kind)).D)) ?_
  refine rvc_nil ?_
  refine Awp.regionP C ?_
  refine rvP C (.pv (.lit (.int .i64 1))) ?_
  refine rvP C (.pv (.lit (.int .i64 1))) ?_
  refine rvc_nil ?_
  refine Arounds.succ ?_
  refine Awp.consP C ?_
  refine rvP C (.pv (.lit (.bool true))) ?_
  refine rvc_nil ?_
  refine Awp.seq ?_
  refine Awp.condT (b := true) rfl rfl ?_
  refine Awp.skip ?_
  refine Awp.seq ?_
  refine Awp.block ?_
  refine Awp.consP C ?_
  have h3 : [c.kind, c.node, c.site, c.epoch][1]? = some c.node := rfl
  refine rvc_un (rexec_idxS C rfl rfl rfl rfl rfl rfl c.node (Int.natCast_nonneg _) h3 ?_)
  refine rvP C (.pv (.lit (.int .i64 c.node))) ?_
  refine rvP C (.pv (.lit (.int .i64 c.node))) ?_
  refine rvc_nil ?_
  refine Awp.regionP C ?_
  refine rvP C (sS (some (wPut (Sl.mk true []) (IntKind.u64.wrap c.kind)).nil) (eI .u8) ((wPut (Sl.mk true []) (IntKind.u64.wrap c.kind)).D)) ?_
  refine rvP C (.pv (.lit (.int .i64 c.node))) ?_
  refine rvP C (.pv (.lit (.int .u64 (IntKind.u64.wrap c.node)))) ?_
  refine rvc_un (rexec_buildSliceF C (eI .u64) [(IntKind.u64.wrap c.node)] rfl rfl rfl rfl rfl rfl rfl (by decide) rfl ?_)
  refine rvc_un (rexec_call hP C rfl rfl rfl (wPut_calls (wPut (Sl.mk true []) (IntKind.u64.wrap c.kind)) (IntKind.u64.wrap c.node) (wrap_lt64 _) (by show ((wPut (Sl.mk true []) (IntKind.u64.wrap c.kind)).D).length ≤ 1000000; have := wPut_len (Sl.mk true []) (IntKind.u64.wrap c.kind) (wrap_lt64 _); (try dsimp only [List.length_nil] at this); have := eq_of_bne_false h1; omega)) ?_)
  refine rvP C (sS (some (wPut (wPut (Sl.mk true []) (IntKind.u64.wrap c.kind)) (IntKind.u64.wrap c.node)).nil) (eI .u8) ((wPut (wPut (Sl.mk true []) (IntKind.u64.wrap c.kind)) (IntKind.u64.wrap c.node)).D)) ?_
  refine rvc_nil ?_
  refine Awp.regionP C ?_
  refine rvP C (.pv (.lit (.int .i64 2))) ?_
  refine rvP C (.pv (.lit (.int .i64 2))) ?_
  refine rvc_nil ?_
  refine Arounds.succ ?_
  refine Awp.consP C ?_
  refine rvP C (.pv (.lit (.bool true))) ?_
  refine rvc_nil ?_
  refine Awp.seq ?_
  refine Awp.condT (b := true) rfl rfl ?_
  refine Awp.skip ?_
  refine Awp.seq ?_
  refine Awp.block ?_
  refine Awp.consP C ?_
  have h4 : [c.kind, c.node, c.site, c.epoch][2]? = some c.site := rfl
  refine rvc_un (rexec_idxS C rfl rfl rfl rfl rfl rfl c.site (Int.natCast_nonneg _) h4 ?_)
  refine rvP C (.pv (.lit (.int .i64 c.site))) ?_
  refine rvP C (.pv (.lit (.int .i64 c.site))) ?_
  refine rvc_nil ?_
  refine Awp.regionP C ?_
  refine rvP C (sS (some (wPut (wPut (Sl.mk true []) (IntKind.u64.wrap c.kind)) (IntKind.u64.wrap c.node)).nil) (eI .u8) ((wPut (wPut (Sl.mk true []) (IntKind.u64.wrap c.kind)) (IntKind.u64.wrap c.node)).D)) ?_
  refine rvP C (.pv (.lit (.int .i64 c.site))) ?_
  refine rvP C (.pv (.lit (.int .u64 (IntKind.u64.wrap c.site)))) ?_
  refine rvc_un (rexec_buildSliceF C (eI .u64) [(IntKind.u64.wrap c.site)] rfl rfl rfl rfl rfl rfl rfl (by decide) rfl ?_)
  refine rvc_un (rexec_call hP C rfl rfl rfl (wPut_calls (wPut (wPut (Sl.mk true []) (IntKind.u64.wrap c.kind)) (IntKind.u64.wrap c.node)) (IntKind.u64.wrap c.site) (wrap_lt64 _) (by show ((wPut (wPut (Sl.mk true []) (IntKind.u64.wrap c.kind)) (IntKind.u64.wrap c.node)).D).length ≤ 1000000; have := wPut_len (Sl.mk true []) (IntKind.u64.wrap c.kind) (wrap_lt64 _); (try dsimp only [List.length_nil] at this); have := wPut_len (wPut (Sl.mk true []) (IntKind.u64.wrap c.kind)) (IntKind.u64.wrap c.node) (wrap_lt64 _); (try dsimp only [List.length_nil] at this); have := eq_of_bne_false h1; omega)) ?_)
  refine rvP C (sS (some (wPut (wPut (wPut (Sl.mk true []) (IntKind.u64.wrap c.kind)) (IntKind.u64.wrap c.node)) (IntKind.u64.wrap c.site)).nil) (eI .u8) ((wPut (wPut (wPut (Sl.mk true []) (IntKind.u64.wrap c.kind)) (IntKind.u64.wrap c.node)) (IntKind.u64.wrap c.site)).D)) ?_
  refine rvc_nil ?_
  refine Awp.regionP C ?_
  refine rvP C (.pv (.lit (.int .i64 3))) ?_
  refine rvP C (.pv (.lit (.int .i64 3))) ?_
  refine rvc_nil ?_
  refine Arounds.succ ?_
  refine Awp.consP C ?_
  refine rvP C (.pv (.lit (.bool true))) ?_
  refine rvc_nil ?_
  refine Awp.seq ?_
  refine Awp.condT (b := true) rfl rfl ?_
  refine Awp.skip ?_
  refine Awp.seq ?_
  refine Awp.block ?_
  refine Awp.consP C ?_
  have h5 : [c.kind, c.node, c.site, c.epoch][3]? = some c.epoch := rfl
  refine rvc_un (rexec_idxS C rfl rfl rfl rfl rfl rfl c.epoch (Int.natCast_nonneg _) h5 ?_)
  refine rvP C (.pv (.lit (.int .i64 c.epoch))) ?_
  refine rvP C (.pv (.lit (.int .i64 c.epoch))) ?_
  refine rvc_nil ?_
  refine Awp.regionP C ?_
  refine rvP C (sS (some (wPut (wPut (wPut (Sl.mk true []) (IntKind.u64.wrap c.kind)) (IntKind.u64.wrap c.node)) (IntKind.u64.wrap c.site)).nil) (eI .u8) ((wPut (wPut (wPut (Sl.mk true []) (IntKind.u64.wrap c.kind)) (IntKind.u64.wrap c.node)) (IntKind.u64.wrap c.site)).D)) ?_
  refine rvP C (.pv (.lit (.int .i64 c.epoch))) ?_
  refine rvP C (.pv (.lit (.int .u64 (IntKind.u64.wrap c.epoch)))) ?_
  refine rvc_un (rexec_buildSliceF C (eI .u64) [(IntKind.u64.wrap c.epoch)] rfl rfl rfl rfl rfl rfl rfl (by decide) rfl ?_)
  refine rvc_un (rexec_call hP C rfl rfl rfl (wPut_calls (wPut (wPut (wPut (Sl.mk true []) (IntKind.u64.wrap c.kind)) (IntKind.u64.wrap c.node)) (IntKind.u64.wrap c.site)) (IntKind.u64.wrap c.epoch) (wrap_lt64 _) (by show ((wPut (wPut (wPut (Sl.mk true []) (IntKind.u64.wrap c.kind)) (IntKind.u64.wrap c.node)) (IntKind.u64.wrap c.site)).D).length ≤ 1000000; have := wPut_len (Sl.mk true []) (IntKind.u64.wrap c.kind) (wrap_lt64 _); (try dsimp only [List.length_nil] at this); have := wPut_len (wPut (Sl.mk true []) (IntKind.u64.wrap c.kind)) (IntKind.u64.wrap c.node) (wrap_lt64 _); (try dsimp only [List.length_nil] at this); have := wPut_len (wPut (wPut (Sl.mk true []) (IntKind.u64.wrap c.kind)) (IntKind.u64.wrap c.node)) (IntKind.u64.wrap c.site) (wrap_lt64 _); (try dsimp only [List.length_nil] at this); have := eq_of_bne_false h1; omega)) ?_)
  refine rvP C (sS (some (wPut (wPut (wPut (wPut (Sl.mk true []) (IntKind.u64.wrap c.kind)) (IntKind.u64.wrap c.node)) (IntKind.u64.wrap c.site)) (IntKind.u64.wrap c.epoch)).nil) (eI .u8) ((wPut (wPut (wPut (wPut (Sl.mk true []) (IntKind.u64.wrap c.kind)) (IntKind.u64.wrap c.node)) (IntKind.u64.wrap c.site)) (IntKind.u64.wrap c.epoch)).D)) ?_
  refine rvc_nil ?_
  refine Awp.regionP C ?_
  refine rvP C (.pv (.lit (.int .i64 4))) ?_
  refine rvP C (.pv (.lit (.int .i64 4))) ?_
  refine rvc_nil ?_
  refine Arounds.succ ?_
  refine Awp.consP C ?_
  refine rvP C (.pv (.lit (.bool false))) ?_
  refine rvc_nil ?_
  refine Awp.seq ?_
  refine Awp.condF (b := false) rfl rfl ?_
  refine Awp.exit ?_
  refine Awp.consP C ?_
  refine rvP C (sS (some (wPut (wPut (wPut (wPut (Sl.mk true []) (IntKind.u64.wrap c.kind)) (IntKind.u64.wrap c.node)) (IntKind.u64.wrap c.site)) (IntKind.u64.wrap c.epoch)).nil) (eI .u8) ((wPut (wPut (wPut (wPut (Sl.mk true []) (IntKind.u64.wrap c.kind)) (IntKind.u64.wrap c.node)) (IntKind.u64.wrap c.site)) (IntKind.u64.wrap c.epoch)).D)) ?_
  refine rvP C (sS (some (wPut (wPut (wPut (wPut (Sl.mk true []) (IntKind.u64.wrap c.kind)) (IntKind.u64.wrap c.node)) (IntKind.u64.wrap c.site)) (IntKind.u64.wrap c.epoch)).nil) (eI .u8) ((wPut (wPut (wPut (wPut (Sl.mk true []) (IntKind.u64.wrap c.kind)) (IntKind.u64.wrap c.node)) (IntKind.u64.wrap c.site)) (IntKind.u64.wrap c.epoch)).D)) ?_
  refine rvP C (.pv (.lit (.int .i64 0))) ?_
  refine rvc_nil ?_
  refine Awp.ret ?_
  subst hR
  exact ⟨.inl rfl, rfl⟩
def rCmdPut (c : Command) : (Sl Int) × Int :=
  (bif ((rCmdCheck c) != 0) then ((Sl.mk true []), (rCmdCheck c)) else ((rPut (Sl.mk true []) (Sl.mk false [(IntKind.u64.wrap c.kind), (IntKind.u64.wrap c.node), (IntKind.u64.wrap c.site), (IntKind.u64.wrap c.epoch)])), 0))
theorem rCmdPut_calls (c : Command)  : PCalls Try.prog 21 [.agg [.pv (.lit (.int .i64 c.kind)), .pv (.lit (.int .i64 c.node)), .pv (.lit (.int .i64 c.site)), .pv (.lit (.int .i64 c.epoch))]] (.tup [sS (some (rCmdPut c).1.nil) (eI .u8) ((rCmdPut c).1.D), .pv (.lit (.int .i64 ((rCmdPut c).2)))]) := by
 generalize hR : rCmdPut c = R
 refine PCalls.of_body tabOk Try.func21 rfl rfl rfl rfl rfl mixed fun E hP C hI => ?_
 refine Awp.consP C ?_
 refine rvc_un (rexec_prim C (δ := { v := .ptr 1 0, new := [(1, .cells [.pv (.lit (.int .i64 c.kind)), .pv (.lit (.int .i64 c.node)), .pv (.lit (.int .i64 c.site)), .pv (.lit (.int .i64 c.epoch))])] }) rfl rfl rfl rfl trivial rfl ?_)
 refine rvP C (sS (some true) (eI .u8) []) ?_
 refine rvP C (.pv (.lit (.int .i64 0))) ?_
 refine rvc_nil ?_
 refine Awp.seq ?_
 refine Awp.consP C ?_
 refine rvP C (.agg [.pv (.lit (.int .i64 c.kind)), .pv (.lit (.int .i64 c.node)), .pv (.lit (.int .i64 c.site)), .pv (.lit (.int .i64 c.epoch))]) ?_
 refine rvc_un (rexec_call hP C rfl rfl rfl (rCmdCheck_calls c) ?_)
 refine rvP C (.pv (.lit (.int .i64 (rCmdCheck c)))) ?_
 refine rvc_nil ?_
 refine Awp.consP C ?_
 refine rvP C (.pv (.lit (.int .i64 (rCmdCheck c)))) ?_
 refine rvP C (.pv (.lit (.bool ((rCmdCheck c) != 0)))) ?_
 refine rvc_nil ?_
 refine Awp.cond (b := ((rCmdCheck c) != 0)) rfl (fun h1 => ?_) (fun h1 => ?_)
 ·
  replace hR := of_true h1 hR
  refine Awp.consP C ?_
  refine rvP C (.pv (.lit (.int .i64 (rCmdCheck c)))) ?_
  refine rvP C (sS (some true) (eI .u8) []) ?_
  refine rvP C (.pv (.lit (.int .i64 (rCmdCheck c)))) ?_
  refine rvc_nil ?_
  refine Awp.ret ?_
  subst hR
  exact ⟨.inl rfl, rfl⟩
 ·
  replace hR := of_false h1 hR
  refine Awp.skip ?_
  refine Awp.consP C ?_
  refine rvP C (.ptr 1 0) ?_
  refine rvP C (.pv (.lit (.int .i64 c.kind))) ?_
  refine rvP C (.pv (.lit (.int .u64 (IntKind.u64.wrap c.kind)))) ?_
  refine rvP C (.ptr 1 1) ?_
  refine rvP C (.pv (.lit (.int .i64 c.node))) ?_
  refine rvP C (.pv (.lit (.int .u64 (IntKind.u64.wrap c.node)))) ?_
  refine rvP C (.ptr 1 2) ?_
  refine rvP C (.pv (.lit (.int .i64 c.site))) ?_
  refine rvP C (.pv (.lit (.int .u64 (IntKind.u64.wrap c.site)))) ?_
  refine rvP C (.ptr 1 3) ?_
  refine rvP C (.pv (.lit (.int .i64 c.epoch))) ?_
  refine rvP C (.pv (.lit (.int .u64 (IntKind.u64.wrap c.epoch)))) ?_
  refine rvc_un (rexec_buildSliceF C (eI .u64) [(IntKind.u64.wrap c.kind), (IntKind.u64.wrap c.node), (IntKind.u64.wrap c.site), (IntKind.u64.wrap c.epoch)] rfl rfl rfl rfl rfl rfl rfl (by decide) rfl ?_)
  refine rvc_un (rexec_call hP C rfl rfl rfl (rPut_calls (Sl.mk true []) (Sl.mk false [(IntKind.u64.wrap c.kind), (IntKind.u64.wrap c.node), (IntKind.u64.wrap c.site), (IntKind.u64.wrap c.epoch)]) (by simp) (by simp)) ?_)
  refine rvP C (sS (some (rPut (Sl.mk true []) (Sl.mk false [(IntKind.u64.wrap c.kind), (IntKind.u64.wrap c.node), (IntKind.u64.wrap c.site), (IntKind.u64.wrap c.epoch)])).nil) (eI .u8) ((rPut (Sl.mk true []) (Sl.mk false [(IntKind.u64.wrap c.kind), (IntKind.u64.wrap c.node), (IntKind.u64.wrap c.site), (IntKind.u64.wrap c.epoch)])).D)) ?_
  refine rvP C (.pv (.lit (.int .i64 0))) ?_
  refine rvc_nil ?_
  refine Awp.ret ?_
  subst hR
  exact ⟨.inl rfl, rfl⟩
def cmdGet (b : (Sl Int)) : Command × Int :=
  (bif ((rdEnd (rdIn (rdIn (rdIn (rdIn (rdNew b) 0 99).1 0 6).1 0 3).1 0 1099511627776).1) != 0) then ((Command.mk 0 0 0 0), 120) else (bif ((cmdCheck (Command.mk (rdIn (rdNew b) 0 99).2 (rdIn (rdIn (rdNew b) 0 99).1 0 6).2 (rdIn (rdIn (rdIn (rdNew b) 0 99).1 0 6).1 0 3).2 (rdIn (rdIn (rdIn (rdIn (rdNew b) 0 99).1 0 6).1 0 3).1 0 1099511627776).2)) != 0) then ((Command.mk 0 0 0 0), 120) else ((Command.mk (rdIn (rdNew b) 0 99).2 (rdIn (rdIn (rdNew b) 0 99).1 0 6).2 (rdIn (rdIn (rdIn (rdNew b) 0 99).1 0 6).1 0 3).2 (rdIn (rdIn (rdIn (rdIn (rdNew b) 0 99).1 0 6).1 0 3).1 0 1099511627776).2), 0)))
theorem cmdGet_calls (b : (Sl Int)) (hl1 : b.D.length ≤ 1000000) : PCalls Try.prog 22 [sS (some b.nil) (eI .u8) b.D] (.tup [.agg [.pv (.lit (.int .i64 ((cmdGet b).1.kind))), .pv (.lit (.int .i64 ((cmdGet b).1.node))), .pv (.lit (.int .i64 ((cmdGet b).1.site))), .pv (.lit (.int .i64 ((cmdGet b).1.epoch)))], .pv (.lit (.int .i64 ((cmdGet b).2)))]) := by
 generalize hR : cmdGet b = R
 refine PCalls.of_body tabOk Try.func22 rfl rfl rfl rfl rfl mixed fun E hP C hI => ?_
 refine Awp.consP C ?_
 refine rvc_un (rexec_prim C (δ := { v := .ptr 2 0, new := [(2, .cells [.pv (.lit (.int .i64 0)), .pv (.lit (.int .i64 0)), .pv (.lit (.int .i64 0)), .pv (.lit (.int .i64 0))])] }) rfl rfl rfl rfl trivial rfl ?_)
 refine rvP C (.pv (.lit (.int .i64 0))) ?_
 refine rvc_nil ?_
 refine Awp.cons C (fun _ => .quiet) (by kernel_rfl) ?_
 refine rvP C (sS (some b.nil) (eI .u8) b.D) ?_
 refine rvc_un (rexec_callO hP C rfl rfl rfl rfl (rdNew_calls b hl1) ?_)
 refine rvP C (.ptr 7 0) ?_
 refine rvc_nil ?_
 refine Awp.cons C (fun _ => .writer) (by kernel_rfl) ?_
 refine rvP C (.ptr 7 0) ?_
 obtain ⟨q1, hq_q1⟩ : ∃ q_, q_ = (rdIn (rdNew b) 0 99) := ⟨_, rfl⟩
 have hc_q1 := (rdIn_calls (rdNew b) 0 99 (rdNew_ok b hl1))
 first | rw [← hq_q1] at hR hc_q1 | (unfold cmdGet at hR; rw [← hq_q1] at hR hc_q1)
 have hf0_q1 := rdIn_ok (rdNew b) 0 99 (rdNew_ok b hl1)
 rw [← hq_q1] at hf0_q1
 refine rvc_un (rexec_callM hP C (b := 7) rfl rfl rfl hc_q1 rfl rfl ?_)
 refine rvP C (.ptr 7 0) ?_
 obtain ⟨q2, hq_q2⟩ : ∃ q_, q_ = (rdIn q1.1 0 6) := ⟨_, rfl⟩
 have hc_q2 := (rdIn_calls q1.1 0 6 hf0_q1)
 first | rw [← hq_q2] at hR hc_q2 | (unfold cmdGet at hR; rw [← hq_q2] at hR hc_q2)
 have hf0_q2 := rdIn_ok q1.1 0 6 hf0_q1
 rw [← hq_q2] at hf0_q2
 refine rvc_un (rexec_callM hP C (b := 7) rfl rfl rfl hc_q2 rfl rfl ?_)
 refine rvP C (.ptr 7 0) ?_
 obtain ⟨q3, hq_q3⟩ : ∃ q_, q_ = (rdIn q2.1 0 3) := ⟨_, rfl⟩
 have hc_q3 := (rdIn_calls q2.1 0 3 hf0_q2)
 first | rw [← hq_q3] at hR hc_q3 | (unfold cmdGet at hR; rw [← hq_q3] at hR hc_q3)
 have hf0_q3 := rdIn_ok q2.1 0 3 hf0_q2
 rw [← hq_q3] at hf0_q3
 refine rvc_un (rexec_callM hP C (b := 7) rfl rfl rfl hc_q3 rfl rfl ?_)
 refine rvP C (.ptr 7 0) ?_
 obtain ⟨q4, hq_q4⟩ : ∃ q_, q_ = (rdIn q3.1 0 1099511627776) := ⟨_, rfl⟩
 have hc_q4 := (rdIn_calls q3.1 0 1099511627776 hf0_q3)
 first | rw [← hq_q4] at hR hc_q4 | (unfold cmdGet at hR; rw [← hq_q4] at hR hc_q4)
 have hf0_q4 := rdIn_ok q3.1 0 1099511627776 hf0_q3
 rw [← hq_q4] at hf0_q4
 refine rvc_un (rexec_callM hP C (b := 7) rfl rfl rfl hc_q4 rfl rfl ?_)
 refine rvP C (.agg [.pv (.lit (.int .i64 q1.2)), .pv (.lit (.int .i64 q2.2)), .pv (.lit (.int .i64 q3.2)), .pv (.lit (.int .i64 q4.2))]) ?_
 refine rvc_un (rexec_prim C (δ := { v := .ptr 5 0, new := [(5, .cells [.pv (.lit (.int .i64 0)), .pv (.lit (.int .i64 0)), .pv (.lit (.int .i64 0)), .pv (.lit (.int .i64 0))])] }) rfl rfl rfl rfl trivial rfl ?_)
 refine rvc_un (rexec_prim C (δ := { v := .undef, wr := [(5, some (.cells [.pv (.lit (.int .i64 q1.2)), .pv (.lit (.int .i64 q2.2)), .pv (.lit (.int .i64 q3.2)), .pv (.lit (.int .i64 q4.2))]))] }) rfl rfl rfl rfl trivial rfl ?_)
 refine rvc_nil ?_
 refine Awp.seq ?_
 refine Awp.cons C (fun _ => .writer) (by kernel_rfl) ?_
 refine rvP C (.ptr 7 0) ?_
 refine rvc_un (rexec_callM hP C (b := 7) rfl rfl rfl (rdEnd_calls q4.1) rfl rfl ?_)
 refine rvP C (.pv (.lit (.bool ((rdEnd q4.1) != 0)))) ?_
 refine rvP C (.pv (.lit (.bool ((rdEnd q4.1) != 0)))) ?_
 refine rvc_case 20 ((rdEnd q4.1) != 0) rfl (fun h1 => ?_) (fun h1 => ?_)
 ·
  replace hR := of_true h1 hR
  refine rvS ?_
  refine rvS ?_
  refine rvS ?_
  refine rvP C (.pv (.lit (.bool true))) ?_
  refine rvc_nil ?_
  refine Awp.condT (b := true) rfl rfl ?_
  refine Awp.consP C ?_
  refine rvP C (.agg [.pv (.lit (.int .i64 0)), .pv (.lit (.int .i64 0)), .pv (.lit (.int .i64 0)), .pv (.lit (.int .i64 0))]) ?_
  refine rvc_un (rexec_prim C (δ := { v := .undef, wr := [(2, some (.cells [.pv (.lit (.int .i64 0)), .pv (.lit (.int .i64 0)), .pv (.lit (.int .i64 0)), .pv (.lit (.int .i64 0))]))] }) rfl rfl rfl rfl trivial rfl ?_)
  refine rvP C (.pv (.lit (.int .i64 120))) ?_
  refine rvc_nil ?_
  refine Awp.ret ?_
  subst hR
  exact ⟨.inl rfl, rfl⟩
 ·
  replace hR := of_false h1 hR
  refine rvO C (.agg [.pv (.lit (.int .i64 q1.2)), .pv (.lit (.int .i64 q2.2)), .pv (.lit (.int .i64 q3.2)), .pv (.lit (.int .i64 q4.2))]) ?_
  refine rvc_open rfl rfl rfl (rexec_call hP C rfl rfl rfl (cmdCheck_calls (Command.mk q1.2 q2.2 q3.2 q4.2)) ?_)
  refine rvO C (.pv (.lit (.bool ((cmdCheck (Command.mk q1.2 q2.2 q3.2 q4.2)) != 0)))) ?_
  refine rvP C (.pv (.lit (.bool ((cmdCheck (Command.mk q1.2 q2.2 q3.2 q4.2)) != 0)))) ?_
  refine rvc_nil ?_
  refine Awp.cond (b := ((cmdCheck (Command.mk q1.2 q2.2 q3.2 q4.2)) != 0)) rfl (fun h2 => ?_) (fun h2 => ?_)
  ·
   replace hR := of_true h2 hR
   refine Awp.consP C ?_
   refine rvP C (.agg [.pv (.lit (.int .i64 0)), .pv (.lit (.int .i64 0)), .pv (.lit (.int .i64 0)), .pv (.lit (.int .i64 0))]) ?_
   refine rvc_un (rexec_prim C (δ := { v := .undef, wr := [(2, some (.cells [.pv (.lit (.int .i64 0)), .pv (.lit (.int .i64 0)), .pv (.lit (.int .i64 0)), .pv (.lit (.int .i64 0))]))] }) rfl rfl rfl rfl trivial rfl ?_)
   refine rvP C (.pv (.lit (.int .i64 120))) ?_
   refine rvc_nil ?_
   refine Awp.ret ?_
   subst hR
   exact ⟨.inl rfl, rfl⟩
  ·
   replace hR := of_false h2 hR
   refine Awp.skip ?_
   refine Awp.consP C ?_
   refine rvP C (.agg [.pv (.lit (.int .i64 q1.2)), .pv (.lit (.int .i64 q2.2)), .pv (.lit (.int .i64 q3.2)), .pv (.lit (.int .i64 q4.2))]) ?_
   refine rvc_un (rexec_prim C (δ := { v := .undef, wr := [(2, some (.cells [.pv (.lit (.int .i64 q1.2)), .pv (.lit (.int .i64 q2.2)), .pv (.lit (.int .i64 q3.2)), .pv (.lit (.int .i64 q4.2))]))] }) rfl rfl rfl rfl trivial rfl ?_)
   refine rvP C (.pv (.lit (.int .i64 0))) ?_
   refine rvc_nil ?_
   refine Awp.ret ?_
   subst hR
   exact ⟨.inl rfl, rfl⟩
def rCmdGet_l0 : Nat → Nat → Reader94 → (Nat → Int) → Command × Int
  | 0, _, vc, vc1 => (bif ((rrEnd vc) != 0) then ((Command.mk 0 0 0 0), 120) else (bif ((rCmdCheck (Command.mk (vc1 0) (vc1 1) (vc1 2) (vc1 3))) != 0) then ((Command.mk 0 0 0 0), 120) else ((Command.mk (vc1 0) (vc1 1) (vc1 2) (vc1 3)), 0)))
  | k + 1, i, vc, vc1 => rCmdGet_l0 k (i + 1) ((rrIn vc 0 1099511627776).1) (updA vc1 i ((rrIn vc 0 1099511627776).2))
def rCmdGet (b : (Sl Int)) : Command × Int :=
  rCmdGet_l0 4 0 (Reader94.mk b 0 0) (ofL [(0 : Int), 0, 0, 0])
theorem rCmdGet_calls (b : (Sl Int)) (hl1 : b.D.length ≤ 1000000) : PCalls Try.prog 23 [sS (some b.nil) (eI .u8) b.D] (.tup [.agg [.pv (.lit (.int .i64 ((rCmdGet b).1.kind))), .pv (.lit (.int .i64 ((rCmdGet b).1.node))), .pv (.lit (.int .i64 ((rCmdGet b).1.site))), .pv (.lit (.int .i64 ((rCmdGet b).1.epoch)))], .pv (.lit (.int .i64 ((rCmdGet b).2)))]) := by
 generalize hR : rCmdGet b = R
 refine PCalls.of_body tabOk Try.func23 rfl rfl rfl rfl rfl mixed fun E hP C hI => ?_
 refine Awp.consP C ?_
 refine rvc_un (rexec_prim C (δ := { v := .ptr 2 0, new := [(2, .cells [.pv (.lit (.int .i64 0)), .pv (.lit (.int .i64 0)), .pv (.lit (.int .i64 0)), .pv (.lit (.int .i64 0))])] }) rfl rfl rfl rfl trivial rfl ?_)
 refine rvP C (.pv (.lit (.int .i64 0))) ?_
 refine rvc_nil ?_
 refine Awp.consP C ?_
 refine rvP C (sS (some b.nil) (eI .u8) b.D) ?_
 refine rvP C (.agg [sS (some b.nil) (eI .u8) b.D, .pv (.lit (.int .i64 0)), .pv (.lit (.int .i64 0))]) ?_
 refine rvc_un (rexec_prim C (δ := { v := .ptr 10 0, new := [(10, .cells [sS (some b.nil) (eI .u8) b.D, .pv (.lit (.int .i64 0)), .pv (.lit (.int .i64 0))])] }) rfl rfl rfl rfl trivial rfl ?_)
 refine rvP C (.ptr 10 0) ?_
 refine rvc_nil ?_
 refine Awp.consP C ?_
 refine rvc_un (rexec_prim C (δ := { v := .ptr 5 0, new := [(5, .cells [.pv (.lit (.int .i64 0)), .pv (.lit (.int .i64 0)), .pv (.lit (.int .i64 0)), .pv (.lit (.int .i64 0))])] }) rfl rfl rfl rfl trivial rfl ?_)
 refine rvc_nil ?_
 refine Awp.seq ?_
 refine Awp.consP C ?_
 refine rvP C (.pv (.lit (.int .i64 0))) ?_
 refine rvc_nil ?_
 refine Awp.block ?_
 refine Awp.forR (σ := Reader94 × ((Nat → Int))) (4) (fun i v => [(2, .ptr 2 0), (4, .ptr 10 0), (5, .ptr 5 0), (11, .pv (.lit (.int .i64 (i : Int))))]) (fun i v => [(2, .cells [.pv (.lit (.int .i64 0)), .pv (.lit (.int .i64 0)), .pv (.lit (.int .i64 0)), .pv (.lit (.int .i64 0))]), (10, .cells [sS (some v.1.b.nil) (eI .u8) v.1.b.D, .pv (.lit (.int .i64 v.1.at_)), .pv (.lit (.int .i64 v.1.e_))]), (5, .cells [.pv (.lit (.int .i64 (v.2 0))), .pv (.lit (.int .i64 (v.2 1))), .pv (.lit (.int .i64 (v.2 2))), .pv (.lit (.int .i64 (v.2 3)))])]) [2, 5, 10] (fun i v => (rCmdGet_l0 (4 - i) i v.1 v.2 = R) ∧ (okRR v.1)) ((Reader94.mk b 0 0), (ofL [(0 : Int), 0, 0, 0])) ?_ ?_ (fun i v h1 hR => ?_)
 · exact ⟨hR, ⟨⟨Int.le_refl _, Int.natCast_nonneg _⟩, hl1⟩⟩
 · exact ⟨fun b => b, WeakerR.ofL (Ks := [2, 5, 10]) hI ⟨⟨rfl, rfl⟩, ⟨rfl, rfl⟩, ⟨rfl, rfl⟩, ⟨rfl, rfl⟩, trivial⟩ (okH_cons rfl rfl rfl rfl (okH_cons rfl rfl rfl rfl (okH_cons rfl rfl rfl rfl (okH_nil)))) rfl⟩
 obtain ⟨vc, vc1⟩ := v
 obtain ⟨hR, hV⟩ := hR
 refine Awp.consP C ?_
 refine rvP C (.pv (.lit (.bool (decide ((i : Int) < 4))))) ?_
 refine rvc_nil ?_
 refine Awp.seq ?_
 refine Awp.cond (b := (decide ((i : Int) < 4))) rfl (fun h2 => ?_) (fun h2 => ?_)
 ·
  have h3 : i < 4 := by have := of_decide_eq_true h2; omega
  obtain ⟨k, h4⟩ : ∃ k, 4 - i = k + 1 := ⟨4 - i - 1, by omega⟩
  rw [h4] at hR
  refine Awp.skip ?_
  refine Awp.seq ?_
  refine Awp.block ?_
  refine Awp.consP C ?_
  refine rvP C (.pv (.lit (.int .i64 (i : Int)))) ?_
  refine rvP C (.pv (.lit (.int .i64 (i : Int)))) ?_
  refine rvc_nil ?_
  refine Awp.region C (fun _ => .writer) (by kernel_rfl) ?_
  refine rvP C (.pv (.lit (.int .i64 (i : Int)))) ?_
  refine rvP C (.ptr 10 0) ?_
  refine rvc_un (rexec_callM hP C (b := 10) rfl rfl rfl (rrIn_calls vc 0 1099511627776 hV) rfl rfl ?_)
  refine rvc_un (rexec_prim C (δ := { v := .ptr 5 (0 + i * 1) }) rfl rfl rfl rfl ⟨(by have := of_decide_eq_true h2; omega), (by have := of_decide_eq_true h2; omega)⟩ rfl ?_)
  refine rvc_un (rexec_storeA C [] [] (fun z => .lit (.int .i64 z)) vc1 4 i ((rrIn vc 0 1099511627776).2) [.pv (.lit (.int .i64 ((updA vc1 i ((rrIn vc 0 1099511627776).2)) 0))), .pv (.lit (.int .i64 ((updA vc1 i ((rrIn vc 0 1099511627776).2)) 1))), .pv (.lit (.int .i64 ((updA vc1 i ((rrIn vc 0 1099511627776).2)) 2))), .pv (.lit (.int .i64 ((updA vc1 i ((rrIn vc 0 1099511627776).2)) 3)))] rfl rfl rfl rfl rfl rfl (by have := of_decide_eq_true h2; omega) rfl ?_)
  refine rvc_nil ?_
  refine Awp.regionP C ?_
  refine rvP C (.pv (.lit (.int .i64 (IntKind.i64.wrap ((i : Int) + 1))))) ?_
  refine rvP C (.pv (.lit (.int .i64 (IntKind.i64.wrap ((i : Int) + 1))))) ?_
  refine rvc_nil ?_
  refine ⟨h3, ((rrIn vc 0 1099511627776).1, (updA vc1 i ((rrIn vc 0 1099511627776).2))), ?_, ?_⟩
  · exact ⟨(by rw [show 4 - (i + 1) = k by omega]; exact hR), (rrIn_ok _ _ _ hV)⟩
  · exact ⟨fun b => b, WeakerR.ofL (Ks := [2, 5, 10]) hI ⟨⟨rfl, rfl⟩, ⟨rfl, rfl⟩, ⟨rfl, rfl⟩, ⟨lit_cast (wrap_i64 (by omega) (by omega)), rfl⟩, trivial⟩ (okH_cons rfl rfl rfl rfl (okH_cons rfl rfl rfl rfl (okH_cons rfl rfl rfl rfl (okH_nil)))) rfl⟩
 ·
  rw [show 4 - i = 0 by have := of_decide_eq_false h2; omega] at hR
  refine Awp.exit ?_
  refine Awp.consP C ?_
  refine rvc_un (rexec_prim C (δ := { v := .ptr 5 0 }) rfl rfl rfl rfl (by decide) rfl ?_)
  refine rvP C (.pv (.lit (.int .i64 (vc1 0)))) ?_
  refine rvc_un (rexec_prim C (δ := { v := .ptr 5 1 }) rfl rfl rfl rfl (by decide) rfl ?_)
  refine rvP C (.pv (.lit (.int .i64 (vc1 1)))) ?_
  refine rvc_un (rexec_prim C (δ := { v := .ptr 5 2 }) rfl rfl rfl rfl (by decide) rfl ?_)
  refine rvP C (.pv (.lit (.int .i64 (vc1 2)))) ?_
  refine rvc_un (rexec_prim C (δ := { v := .ptr 5 3 }) rfl rfl rfl rfl (by decide) rfl ?_)
  refine rvP C (.pv (.lit (.int .i64 (vc1 3)))) ?_
  refine rvP C (.agg [.pv (.lit (.int .i64 (vc1 0))), .pv (.lit (.int .i64 (vc1 1))), .pv (.lit (.int .i64 (vc1 2))), .pv (.lit (.int .i64 (vc1 3)))]) ?_
  refine rvc_un (rexec_prim C (δ := { v := .ptr 7 0, new := [(7, .cells [.pv (.lit (.int .i64 0)), .pv (.lit (.int .i64 0)), .pv (.lit (.int .i64 0)), .pv (.lit (.int .i64 0))])] }) rfl rfl rfl rfl trivial rfl ?_)
  refine rvc_un (rexec_prim C (δ := { v := .undef, wr := [(7, some (.cells [.pv (.lit (.int .i64 (vc1 0))), .pv (.lit (.int .i64 (vc1 1))), .pv (.lit (.int .i64 (vc1 2))), .pv (.lit (.int .i64 (vc1 3)))]))] }) rfl rfl rfl rfl trivial rfl ?_)
  refine rvc_nil ?_
  refine Awp.seq ?_
  refine Awp.cons C (fun _ => .writer) (by kernel_rfl) ?_
  refine rvP C (.ptr 10 0) ?_
  refine rvc_un (rexec_callM hP C (b := 10) rfl rfl rfl (rrEnd_calls vc) rfl rfl ?_)
  refine rvP C (.pv (.lit (.bool ((rrEnd vc) != 0)))) ?_
  refine rvP C (.pv (.lit (.bool ((rrEnd vc) != 0)))) ?_
  refine rvc_case 31 ((rrEnd vc) != 0) rfl (fun h5 => ?_) (fun h5 => ?_)
  ·
   replace hR := of_true h5 hR
   refine rvS ?_
   refine rvS ?_
   refine rvS ?_
   refine rvP C (.pv (.lit (.bool true))) ?_
   refine rvc_nil ?_
   refine Awp.condT (b := true) rfl rfl ?_
   refine Awp.consP C ?_
   refine rvP C (.agg [.pv (.lit (.int .i64 0)), .pv (.lit (.int .i64 0)), .pv (.lit (.int .i64 0)), .pv (.lit (.int .i64 0))]) ?_
   refine rvc_un (rexec_prim C (δ := { v := .undef, wr := [(2, some (.cells [.pv (.lit (.int .i64 0)), .pv (.lit (.int .i64 0)), .pv (.lit (.int .i64 0)), .pv (.lit (.int .i64 0))]))] }) rfl rfl rfl rfl trivial rfl ?_)
   refine rvP C (.pv (.lit (.int .i64 120))) ?_
   refine rvc_nil ?_
   refine Awp.ret ?_
   subst hR
   exact ⟨.inl rfl, rfl⟩
  ·
   replace hR := of_false h5 hR
   refine rvO C (.agg [.pv (.lit (.int .i64 (vc1 0))), .pv (.lit (.int .i64 (vc1 1))), .pv (.lit (.int .i64 (vc1 2))), .pv (.lit (.int .i64 (vc1 3)))]) ?_
   refine rvc_open rfl rfl rfl (rexec_call hP C rfl rfl rfl (rCmdCheck_calls (Command.mk (vc1 0) (vc1 1) (vc1 2) (vc1 3))) ?_)
   refine rvO C (.pv (.lit (.bool ((rCmdCheck (Command.mk (vc1 0) (vc1 1) (vc1 2) (vc1 3))) != 0)))) ?_
   refine rvP C (.pv (.lit (.bool ((rCmdCheck (Command.mk (vc1 0) (vc1 1) (vc1 2) (vc1 3))) != 0)))) ?_
   refine rvc_nil ?_
   refine Awp.cond (b := ((rCmdCheck (Command.mk (vc1 0) (vc1 1) (vc1 2) (vc1 3))) != 0)) rfl (fun h6 => ?_) (fun h6 => ?_)
   ·
    replace hR := of_true h6 hR
    refine Awp.consP C ?_
    refine rvP C (.agg [.pv (.lit (.int .i64 0)), .pv (.lit (.int .i64 0)), .pv (.lit (.int .i64 0)), .pv (.lit (.int .i64 0))]) ?_
    refine rvc_un (rexec_prim C (δ := { v := .undef, wr := [(2, some (.cells [.pv (.lit (.int .i64 0)), .pv (.lit (.int .i64 0)), .pv (.lit (.int .i64 0)), .pv (.lit (.int .i64 0))]))] }) rfl rfl rfl rfl trivial rfl ?_)
    refine rvP C (.pv (.lit (.int .i64 120))) ?_
    refine rvc_nil ?_
    refine Awp.ret ?_
    subst hR
    exact ⟨.inl rfl, rfl⟩
   ·
    replace hR := of_false h6 hR
    refine Awp.skip ?_
    refine Awp.consP C ?_
    refine rvP C (.agg [.pv (.lit (.int .i64 (vc1 0))), .pv (.lit (.int .i64 (vc1 1))), .pv (.lit (.int .i64 (vc1 2))), .pv (.lit (.int .i64 (vc1 3)))]) ?_
    refine rvc_un (rexec_prim C (δ := { v := .undef, wr := [(2, some (.cells [.pv (.lit (.int .i64 (vc1 0))), .pv (.lit (.int .i64 (vc1 1))), .pv (.lit (.int .i64 (vc1 2))), .pv (.lit (.int .i64 (vc1 3)))]))] }) rfl rfl rfl rfl trivial rfl ?_)
    refine rvP C (.pv (.lit (.int .i64 0))) ?_
    refine rvc_nil ?_
    refine Awp.ret ?_
    subst hR
    exact ⟨.inl rfl, rfl⟩
end Go.Proofs.Ytpgenmflgdkfiaa
/- Small functions of layout. No conditions. -/
namespace Go.Proofs.Ytpgenmflgdkfiaa
open Go.Am
structure Member where
  node : Int
  site : Int
  fresh : Bool
  deriving Inhabited
def eMember : Enc Member := ⟨3, fun x => [.lit (.int .i64 x.node), .lit (.int .i64 x.site), .lit (.bool x.fresh)], fun _ => rfl⟩
structure Chain where
  epoch : Int
  members : (Sl Member)
  deriving Inhabited
def eChain : Enc Chain := ⟨2, fun x => [.lit (.int .i64 x.epoch), .sl (some x.members.nil) x.members.D.length (encL eMember x.members.D)], fun _ => rfl⟩
def mIn (n : Int) : Bool :=
  (bif (decide (n ≥ 0)) then (decide (n < 64)) else false)
theorem mIn_calls (n : Int)  : PCalls Try.prog 77 [.pv (.lit (.int .i64 n))] (.pv (.lit (.bool (mIn n)))) := by
 generalize hR : mIn n = R
 refine PCalls.of_body tabOk Try.func77 rfl rfl rfl rfl rfl mixed fun E hP C hI => ?_
 refine Awp.consP C ?_
 refine rvP C (.pv (.lit (.bool false))) ?_
 refine rvc_nil ?_
 refine Awp.consP C ?_
 refine rvP C (.pv (.lit (.int .i64 n))) ?_
 refine rvP C (.pv (.lit (.bool (decide (n ≥ 0))))) ?_
 refine rvP C (.pv (.lit (.bool (decide (n ≥ 0))))) ?_
 refine rvc_case 5 (decide (n ≥ 0)) rfl (fun h1 => ?_) (fun h1 => ?_)
 ·
  replace hR := of_true h1 hR
  refine rvO C (.pv (.lit (.int .i64 n))) ?_
  refine rvO C (.pv (.lit (.bool (decide (n < 64))))) ?_
  refine rvP C (.pv (.lit (.bool (decide (n < 64))))) ?_
  refine rvP C (.pv (.lit (.bool (decide (n < 64))))) ?_
  refine rvc_nil ?_
  refine Awp.ret ?_
  subst hR
  exact ⟨.inl rfl, rfl⟩
 ·
  replace hR := of_false h1 hR
  refine rvS ?_
  refine rvS ?_
  refine rvP C (.pv (.lit (.bool false))) ?_
  refine rvP C (.pv (.lit (.bool false))) ?_
  refine rvc_nil ?_
  refine Awp.ret ?_
  subst hR
  exact ⟨.inl rfl, rfl⟩
def mHas (s : Int) (n : Int) : Bool :=
  (bif (mIn n) then ((bitI .and .u64 (shrI .u64 s n) 1) == 1) else false)
theorem mHas_calls (s : Int) (n : Int)  : PCalls Try.prog 56 [.pv (.lit (.int .u64 s)), .pv (.lit (.int .i64 n))] (.pv (.lit (.bool (mHas s n)))) := by
 generalize hR : mHas s n = R
 refine PCalls.of_body tabOk Try.func56 rfl rfl rfl rfl rfl mixed fun E hP C hI => ?_
 refine Awp.consP C ?_
 refine rvP C (.pv (.lit (.bool false))) ?_
 refine rvc_nil ?_
 refine Awp.consP C ?_
 refine rvP C (.pv (.lit (.int .i64 n))) ?_
 refine rvc_un (rexec_call hP C rfl rfl rfl (mIn_calls n) ?_)
 refine rvP C (.pv (.lit (.bool (mIn n)))) ?_
 refine rvc_case 7 (mIn n) rfl (fun h1 => ?_) (fun h1 => ?_)
 ·
  replace hR := of_true h1 hR
  refine rvO C (.pv (.lit (.int .u64 s))) ?_
  refine rvO C (.pv (.lit (.int .i64 n))) ?_
  refine rvc_open rfl rfl rfl (rexec_prim C (δ := { v := .pv (.lit (.int .u64 (shrI .u64 s n))) }) rfl rfl rfl rfl (by simp [mIn] at h1; omega) rfl ?_)
  refine rvO C (.pv (.lit (.int .u64 (bitI .and .u64 (shrI .u64 s n) 1)))) ?_
  refine rvO C (.pv (.lit (.bool ((bitI .and .u64 (shrI .u64 s n) 1) == 1)))) ?_
  refine rvP C (.pv (.lit (.bool ((bitI .and .u64 (shrI .u64 s n) 1) == 1)))) ?_
  refine rvP C (.pv (.lit (.bool ((bitI .and .u64 (shrI .u64 s n) 1) == 1)))) ?_
  refine rvc_nil ?_
  refine Awp.ret ?_
  subst hR
  exact ⟨.inl rfl, rfl⟩
 ·
  replace hR := of_false h1 hR
  refine rvS ?_
  refine rvS ?_
  refine rvS ?_
  refine rvS ?_
  refine rvS ?_
  refine rvP C (.pv (.lit (.bool false))) ?_
  refine rvP C (.pv (.lit (.bool false))) ?_
  refine rvc_nil ?_
  refine Awp.ret ?_
  subst hR
  exact ⟨.inl rfl, rfl⟩
def mWith (s : Int) (n : Int) : Int :=
  (bif (!(mIn n)) then s else (bitI .or .u64 s (shlI .u64 1 n)))
theorem mWith_calls (s : Int) (n : Int)  : PCalls Try.prog 57 [.pv (.lit (.int .u64 s)), .pv (.lit (.int .i64 n))] (.pv (.lit (.int .u64 (mWith s n)))) := by
 generalize hR : mWith s n = R
 refine PCalls.of_body tabOk Try.func57 rfl rfl rfl rfl rfl mixed fun E hP C hI => ?_
 refine Awp.consP C ?_
 refine rvP C (.pv (.lit (.int .u64 0))) ?_
 refine rvc_nil ?_
 refine Awp.seq ?_
 refine Awp.consP C ?_
 refine rvP C (.pv (.lit (.int .i64 n))) ?_
 refine rvc_un (rexec_call hP C rfl rfl rfl (mIn_calls n) ?_)
 refine rvP C (.pv (.lit (.bool (!(mIn n))))) ?_
 refine rvc_nil ?_
 refine Awp.cond (b := (!(mIn n))) rfl (fun h1 => ?_) (fun h1 => ?_)
 ·
  replace hR := of_true h1 hR
  refine Awp.consP C ?_
  refine rvP C (.pv (.lit (.int .u64 s))) ?_
  refine rvP C (.pv (.lit (.int .u64 s))) ?_
  refine rvc_nil ?_
  refine Awp.ret ?_
  subst hR
  exact ⟨.inl rfl, rfl⟩
 ·
  replace hR := of_false h1 hR
  refine Awp.skip ?_
  refine Awp.consP C ?_
  refine rvP C (.pv (.lit (.int .u64 s))) ?_
  refine rvP C (.pv (.lit (.int .i64 n))) ?_
  refine rvc_un (rexec_prim C (δ := { v := .pv (.lit (.int .u64 (shlI .u64 1 n))) }) rfl rfl rfl rfl (by simp [mIn] at h1; omega) rfl ?_)
  refine rvP C (.pv (.lit (.int .u64 (bitI .or .u64 s (shlI .u64 1 n))))) ?_
  refine rvP C (.pv (.lit (.int .u64 (bitI .or .u64 s (shlI .u64 1 n))))) ?_
  refine rvc_nil ?_
  refine Awp.ret ?_
  subst hR
  exact ⟨.inl rfl, rfl⟩
def mLen (s : Int) : Int :=
  (IntKind.i64.wrap (shrI .u64 (IntKind.u64.wrap ((bitI .and .u64 (IntKind.u64.wrap ((IntKind.u64.wrap ((bitI .and .u64 (IntKind.u64.wrap (s - (bitI .and .u64 (shrI .u64 s 1) 6148914691236517205))) 3689348814741910323) + (bitI .and .u64 (shrI .u64 (IntKind.u64.wrap (s - (bitI .and .u64 (shrI .u64 s 1) 6148914691236517205))) 2) 3689348814741910323))) + (shrI .u64 (IntKind.u64.wrap ((bitI .and .u64 (IntKind.u64.wrap (s - (bitI .and .u64 (shrI .u64 s 1) 6148914691236517205))) 3689348814741910323) + (bitI .and .u64 (shrI .u64 (IntKind.u64.wrap (s - (bitI .and .u64 (shrI .u64 s 1) 6148914691236517205))) 2) 3689348814741910323))) 4))) 1085102592571150095) * 72340172838076673)) 56))
def member (m : Member) : Bool :=
  (bif (decide (m.node ≥ 0)) then (bif (decide (m.node < 6)) then (bif (decide (m.site ≥ 0)) then (decide (m.site < 3)) else false) else false) else false)
theorem member_calls (m : Member)  : PCalls Try.prog 55 [.agg [.pv (.lit (.int .i64 m.node)), .pv (.lit (.int .i64 m.site)), .pv (.lit (.bool m.fresh))]] (.pv (.lit (.bool (member m)))) := by
 generalize hR : member m = R
 refine PCalls.of_body tabOk Try.func55 rfl rfl rfl rfl rfl mixed fun E hP C hI => ?_
 refine Awp.consP C ?_
 refine rvc_un (rexec_prim C (δ := { v := .ptr 1 0, new := [(1, .cells [.pv (.lit (.int .i64 m.node)), .pv (.lit (.int .i64 m.site)), .pv (.lit (.bool m.fresh))])] }) rfl rfl rfl rfl trivial rfl ?_)
 refine rvP C (.pv (.lit (.bool false))) ?_
 refine rvc_nil ?_
 refine Awp.consP C ?_
 refine rvP C (.ptr 1 0) ?_
 refine rvP C (.pv (.lit (.int .i64 m.node))) ?_
 refine rvP C (.pv (.lit (.bool (decide (m.node ≥ 0))))) ?_
 refine rvP C (.pv (.lit (.bool (decide (m.node ≥ 0))))) ?_
 refine rvc_case 6 (decide (m.node ≥ 0)) rfl (fun h1 => ?_) (fun h1 => ?_)
 ·
  replace hR := of_true h1 hR
  refine rvO C (.ptr 1 0) ?_
  refine rvO C (.pv (.lit (.int .i64 m.node))) ?_
  refine rvO C (.pv (.lit (.bool (decide (m.node < 6))))) ?_
  refine rvP C (.pv (.lit (.bool (decide (m.node < 6))))) ?_
  refine rvP C (.pv (.lit (.bool (decide (m.node < 6))))) ?_
  refine rvc_case 11 (decide (m.node < 6)) rfl (fun h2 => ?_) (fun h2 => ?_)
  ·
   replace hR := of_true h2 hR
   refine rvO C (.ptr 1 1) ?_
   refine rvO C (.pv (.lit (.int .i64 m.site))) ?_
   refine rvO C (.pv (.lit (.bool (decide (m.site ≥ 0))))) ?_
   refine rvP C (.pv (.lit (.bool (decide (m.site ≥ 0))))) ?_
   refine rvP C (.pv (.lit (.bool (decide (m.site ≥ 0))))) ?_
   refine rvc_case 16 (decide (m.site ≥ 0)) rfl (fun h3 => ?_) (fun h3 => ?_)
   ·
    replace hR := of_true h3 hR
    refine rvO C (.ptr 1 1) ?_
    refine rvO C (.pv (.lit (.int .i64 m.site))) ?_
    refine rvO C (.pv (.lit (.bool (decide (m.site < 3))))) ?_
    refine rvP C (.pv (.lit (.bool (decide (m.site < 3))))) ?_
    refine rvP C (.pv (.lit (.bool (decide (m.site < 3))))) ?_
    refine rvc_nil ?_
    refine Awp.ret ?_
    subst hR
    exact ⟨.inl rfl, rfl⟩
   ·
    replace hR := of_false h3 hR
    refine rvS ?_
    refine rvS ?_
    refine rvS ?_
    refine rvP C (.pv (.lit (.bool false))) ?_
    refine rvP C (.pv (.lit (.bool false))) ?_
    refine rvc_nil ?_
    refine Awp.ret ?_
    subst hR
    exact ⟨.inl rfl, rfl⟩
  ·
   replace hR := of_false h2 hR
   refine rvS ?_
   refine rvS ?_
   refine rvS ?_
   refine rvP C (.pv (.lit (.bool false))) ?_
   refine rvP C (.pv (.lit (.bool false))) ?_
   refine rvS ?_
   refine rvS ?_
   refine rvS ?_
   refine rvP C (.pv (.lit (.bool false))) ?_
   refine rvP C (.pv (.lit (.bool false))) ?_
   refine rvc_nil ?_
   refine Awp.ret ?_
   subst hR
   exact ⟨.inl rfl, rfl⟩
 ·
  replace hR := of_false h1 hR
  refine rvS ?_
  refine rvS ?_
  refine rvS ?_
  refine rvP C (.pv (.lit (.bool false))) ?_
  refine rvP C (.pv (.lit (.bool false))) ?_
  refine rvS ?_
  refine rvS ?_
  refine rvS ?_
  refine rvP C (.pv (.lit (.bool false))) ?_
  refine rvP C (.pv (.lit (.bool false))) ?_
  refine rvS ?_
  refine rvS ?_
  refine rvS ?_
  refine rvP C (.pv (.lit (.bool false))) ?_
  refine rvP C (.pv (.lit (.bool false))) ?_
  refine rvc_nil ?_
  refine Awp.ret ?_
  subst hR
  exact ⟨.inl rfl, rfl⟩
def after (c : Chain) (l : (Sl Member)) : Chain :=
  (Chain.mk (IntKind.i64.wrap (c.epoch + 1)) l)
theorem after_calls (c : Chain) (l : (Sl Member))  : PCalls Try.prog 82 [.agg [.pv (.lit (.int .i64 c.epoch)), sS (some c.members.nil) eMember c.members.D], sS (some l.nil) eMember l.D] (.agg [.pv (.lit (.int .i64 ((after c l).epoch))), sS (some (after c l).members.nil) eMember ((after c l).members.D)]) := by
 generalize hR : after c l = R
 refine PCalls.of_body tabOk Try.func82 rfl rfl rfl rfl rfl mixed fun E hP C hI => ?_
 refine Awp.consP C ?_
 refine rvc_un (rexec_prim C (δ := { v := .ptr 2 0, new := [(2, .cells [.pv (.lit (.int .i64 c.epoch)), sS (some c.members.nil) eMember c.members.D])] }) rfl rfl rfl rfl trivial rfl ?_)
 refine rvc_un (rexec_prim C (δ := { v := .ptr 4 0, new := [(4, .cells [.pv (.lit (.int .i64 0)), sS (some true) eMember []])] }) rfl rfl rfl rfl trivial rfl ?_)
 refine rvc_nil ?_
 refine Awp.consP C ?_
 refine rvP C (.ptr 2 0) ?_
 refine rvP C (.pv (.lit (.int .i64 c.epoch))) ?_
 refine rvP C (.pv (.lit (.int .i64 (IntKind.i64.wrap (c.epoch + 1))))) ?_
 refine rvP C (sS (some l.nil) eMember l.D) ?_
 refine rvP C (.agg [.pv (.lit (.int .i64 (IntKind.i64.wrap (c.epoch + 1)))), sS (some l.nil) eMember l.D]) ?_
 refine rvc_un (rexec_prim C (δ := { v := .undef, wr := [(4, some (.cells [.pv (.lit (.int .i64 (IntKind.i64.wrap (c.epoch + 1)))), sS (some l.nil) eMember l.D]))] }) rfl rfl rfl rfl trivial rfl ?_)
 refine rvc_nil ?_
 refine Awp.ret ?_
 subst hR
 exact ⟨.inl rfl, rfl⟩
def check_l0 : List Member → Nat → Int → Int → Int
  | [], _, _, _ => 0
  | x :: xs, i, seen, site => (bif (!(member x)) then 80 else (bif (mHas seen x.node) then 80 else (bif (decide (x.site < site)) then 80 else check_l0 xs (i + 1) (mWith seen x.node) x.site)))
def check (c : Chain) : Int :=
  (bif (decide (c.epoch < 1)) then 80 else (bif (decide (c.epoch > 1099511627776)) then 80 else (bif ((c.members.D.length : Int) == 0) then 80 else (bif c.members.D[0]!.fresh then 80 else check_l0 c.members.D 0 0 0))))
theorem check_calls (c : Chain) (hl1 : c.members.D.length ≤ 9223372036854775807) : PCalls Try.prog 35 [.agg [.pv (.lit (.int .i64 c.epoch)), sS (some c.members.nil) eMember c.members.D]] (.pv (.lit (.int .i64 (check c)))) := by
 generalize hR : check c = R
 refine PCalls.of_body tabOk Try.func35 rfl rfl rfl rfl rfl mixed fun E hP C hI => ?_
 refine Awp.consP C ?_
 refine rvc_un (rexec_prim C (δ := { v := .ptr 1 0, new := [(1, .cells [.pv (.lit (.int .i64 c.epoch)), sS (some c.members.nil) eMember c.members.D])] }) rfl rfl rfl rfl trivial rfl ?_)
 refine rvP C (.pv (.lit (.int .i64 0))) ?_
 refine rvc_nil ?_
 refine Awp.seq ?_
 refine Awp.consP C ?_
 refine rvP C (.ptr 1 0) ?_
 refine rvP C (.pv (.lit (.int .i64 c.epoch))) ?_
 refine rvP C (.pv (.lit (.bool (decide (c.epoch < 1))))) ?_
 refine rvP C (.pv (.lit (.bool (decide (c.epoch < 1))))) ?_
 refine rvc_case 10 (decide (c.epoch < 1)) rfl (fun h1 => ?_) (fun h1 => ?_)
 ·
  replace hR := of_true h1 hR
  refine rvS ?_
  refine rvS ?_
  refine rvS ?_
  refine rvP C (.pv (.lit (.bool true))) ?_
  refine rvP C (.pv (.lit (.bool true))) ?_
  refine rvS ?_
  refine rvS ?_
  refine rvS ?_
  refine rvS ?_
  refine rvP C (.pv (.lit (.bool true))) ?_
  refine rvP C (.pv (.lit (.bool true))) ?_
  refine rvS ?_
  refine rvS ?_
  refine rvS ?_
  refine rvS ?_
  refine rvS ?_
  refine rvP C (.pv (.lit (.bool true))) ?_
  refine rvc_nil ?_
  refine Awp.condT (b := true) rfl rfl ?_
  refine Awp.consP C ?_
  refine rvP C (.pv (.lit (.int .i64 80))) ?_
  refine rvc_nil ?_
  refine Awp.ret ?_
  subst hR
  exact ⟨.inl rfl, rfl⟩
 ·
  replace hR := of_false h1 hR
  refine rvO C (.ptr 1 0) ?_
  refine rvO C (.pv (.lit (.int .i64 c.epoch))) ?_
  refine rvO C (.pv (.lit (.bool (decide (c.epoch > 1099511627776))))) ?_
  refine rvP C (.pv (.lit (.bool (decide (c.epoch > 1099511627776))))) ?_
  refine rvP C (.pv (.lit (.bool (decide (c.epoch > 1099511627776))))) ?_
  refine rvc_case 15 (decide (c.epoch > 1099511627776)) rfl (fun h2 => ?_) (fun h2 => ?_)
  ·
   replace hR := of_true h2 hR
   refine rvS ?_
   refine rvS ?_
   refine rvS ?_
   refine rvS ?_
   refine rvP C (.pv (.lit (.bool true))) ?_
   refine rvP C (.pv (.lit (.bool true))) ?_
   refine rvS ?_
   refine rvS ?_
   refine rvS ?_
   refine rvS ?_
   refine rvS ?_
   refine rvP C (.pv (.lit (.bool true))) ?_
   refine rvc_nil ?_
   refine Awp.condT (b := true) rfl rfl ?_
   refine Awp.consP C ?_
   refine rvP C (.pv (.lit (.int .i64 80))) ?_
   refine rvc_nil ?_
   refine Awp.ret ?_
   subst hR
   exact ⟨.inl rfl, rfl⟩
  ·
   replace hR := of_false h2 hR
   refine rvO C (.ptr 1 1) ?_
   refine rvO C (sS (some c.members.nil) eMember c.members.D) ?_
   refine rvO C (.pv (.lit (.int .i64 (c.members.D.length : Int)))) ?_
   refine rvO C (.pv (.lit (.bool ((c.members.D.length : Int) == 0)))) ?_
   refine rvP C (.pv (.lit (.bool ((c.members.D.length : Int) == 0)))) ?_
   refine rvP C (.pv (.lit (.bool ((c.members.D.length : Int) == 0)))) ?_
   refine rvc_case 21 ((c.members.D.length : Int) == 0) rfl (fun h3 => ?_) (fun h3 => ?_)
   ·
    replace hR := of_true h3 hR
    refine rvS ?_
    refine rvS ?_
    refine rvS ?_
    refine rvS ?_
    refine rvS ?_
    refine rvP C (.pv (.lit (.bool true))) ?_
    refine rvc_nil ?_
    refine Awp.condT (b := true) rfl rfl ?_
    refine Awp.consP C ?_
    refine rvP C (.pv (.lit (.int .i64 80))) ?_
    refine rvc_nil ?_
    refine Awp.ret ?_
    subst hR
    exact ⟨.inl rfl, rfl⟩
   ·
    replace hR := of_false h3 hR
    refine rvO C (.ptr 1 1) ?_
    refine rvO C (sS (some c.members.nil) eMember c.members.D) ?_
    have h4 : c.members.D[0]? = some c.members.D[0]! := getE (by have := of_decide_eq_false h1; have := of_decide_eq_false h2; have := ne_of_beq_false h3; omega)
    refine rvc_open rfl rfl rfl (rexec_idxS C rfl rfl rfl rfl rfl rfl (c.members.D[0]!) (Int.natCast_nonneg _) h4 ?_)
    refine rvO C (.rp [.lit (.bool (c.members.D[0]!.fresh))]) ?_
    refine rvO C (.pv (.lit (.bool (c.members.D[0]!.fresh)))) ?_
    refine rvP C (.pv (.lit (.bool (c.members.D[0]!.fresh)))) ?_
    refine rvc_nil ?_
    refine Awp.cond (b := c.members.D[0]!.fresh) rfl (fun h5 => ?_) (fun h5 => ?_)
    ·
     replace hR := of_true h5 hR
     refine Awp.consP C ?_
     refine rvP C (.pv (.lit (.int .i64 80))) ?_
     refine rvc_nil ?_
     refine Awp.ret ?_
     subst hR
     exact ⟨.inl rfl, rfl⟩
    ·
     replace hR := of_false h5 hR
     refine Awp.skip ?_
     refine Awp.consP C ?_
     refine rvP C (.pv (.lit (.int .u64 0))) ?_
     refine rvc_nil ?_
     refine Awp.consP C ?_
     refine rvP C (.pv (.lit (.int .i64 0))) ?_
     refine rvc_nil ?_
     refine Awp.seq ?_
     refine Awp.consP C ?_
     refine rvP C (.ptr 1 1) ?_
     refine rvP C (sS (some c.members.nil) eMember c.members.D) ?_
     refine rvP C (.pv (.lit (.int .i64 (c.members.D.length : Int)))) ?_
     refine rvP C (.pv (.lit (.int .i64 0))) ?_
     refine rvc_nil ?_
     refine Awp.block ?_
     refine Awp.forR (σ := Int × Int) (c.members.D.length) (fun i v => [(3, .pv (.lit (.int .u64 v.1))), (4, .pv (.lit (.int .i64 v.2))), (29, sS (some c.members.nil) eMember c.members.D), (30, .pv (.lit (.int .i64 (c.members.D.length : Int)))), (31, .pv (.lit (.int .i64 (i : Int))))]) (fun i v => []) [] (fun i v => check_l0 (c.members.D.drop i) i v.1 v.2 = R) (0, 0) ?_ ?_ (fun i v h6 hR => ?_)
     · exact hR
     · exact ⟨fun b => b, WeakerR.ofL (Ks := []) hI ⟨⟨rfl, rfl⟩, ⟨rfl, rfl⟩, ⟨rfl, rfl⟩, ⟨rfl, rfl⟩, ⟨rfl, rfl⟩, trivial⟩ (okH_nil) rfl⟩
     obtain ⟨seen, site⟩ := v
     refine Awp.consP C ?_
     refine rvP C (.pv (.lit (.bool (decide ((i : Int) < (c.members.D.length : Int)))))) ?_
     refine rvc_nil ?_
     refine Awp.seq ?_
     refine Awp.cond (b := (decide ((i : Int) < (c.members.D.length : Int)))) rfl (fun h7 => ?_) (fun h7 => ?_)
     ·
      have h8 : i < c.members.D.length := by have := of_decide_eq_true h7; omega
      obtain ⟨x, h9⟩ := getX h8
      rw [drop_at h9] at hR
      refine Awp.skip ?_
      refine Awp.seq ?_
      refine Awp.block ?_
      refine Awp.consP C ?_
      refine rvc_un (rexec_idxS C rfl rfl rfl rfl rfl rfl x (Int.natCast_nonneg _) h9 ?_)
      refine rvP C (.agg [.pv (.lit (.int .i64 x.node)), .pv (.lit (.int .i64 x.site)), .pv (.lit (.bool x.fresh))]) ?_
      refine rvc_un (rexec_prim C (δ := { v := .ptr 6 0, new := [(6, .cells [.pv (.lit (.int .i64 0)), .pv (.lit (.int .i64 0)), .pv (.lit (.bool false))])] }) rfl rfl rfl rfl trivial rfl ?_)
      refine rvc_un (rexec_prim C (δ := { v := .undef, wr := [(6, some (.cells [.pv (.lit (.int .i64 x.node)), .pv (.lit (.int .i64 x.site)), .pv (.lit (.bool x.fresh))]))] }) rfl rfl rfl rfl trivial rfl ?_)
      refine rvc_nil ?_
      refine Awp.seq ?_
      refine Awp.consP C ?_
      refine rvP C (.agg [.pv (.lit (.int .i64 x.node)), .pv (.lit (.int .i64 x.site)), .pv (.lit (.bool x.fresh))]) ?_
      refine rvc_un (rexec_call hP C rfl rfl rfl (member_calls x) ?_)
      refine rvP C (.pv (.lit (.bool (!(member x))))) ?_
      refine rvP C (.pv (.lit (.bool (!(member x))))) ?_
      refine rvc_case 38 (!(member x)) rfl (fun h10 => ?_) (fun h10 => ?_)
      ·
       replace hR := of_true h10 hR
       refine rvS ?_
       refine rvS ?_
       refine rvS ?_
       refine rvS ?_
       refine rvP C (.pv (.lit (.bool true))) ?_
       refine rvP C (.pv (.lit (.bool true))) ?_
       refine rvS ?_
       refine rvS ?_
       refine rvS ?_
       refine rvS ?_
       refine rvP C (.pv (.lit (.bool true))) ?_
       refine rvc_nil ?_
       refine Awp.condT (b := true) rfl rfl ?_
       refine Awp.consP C ?_
       refine rvP C (.pv (.lit (.int .i64 80))) ?_
       refine rvc_nil ?_
       refine Awp.ret ?_
       subst hR
       exact ⟨.inl rfl, rfl⟩
      ·
       replace hR := of_false h10 hR
       refine rvO C (.pv (.lit (.int .u64 seen))) ?_
       refine rvO C (.ptr 6 0) ?_
       refine rvO C (.pv (.lit (.int .i64 x.node))) ?_
       refine rvc_open rfl rfl rfl (rexec_call hP C rfl rfl rfl (mHas_calls seen x.node) ?_)
       refine rvP C (.pv (.lit (.bool (mHas seen x.node)))) ?_
       refine rvP C (.pv (.lit (.bool (mHas seen x.node)))) ?_
       refine rvc_case 44 (mHas seen x.node) rfl (fun h11 => ?_) (fun h11 => ?_)
       ·
        replace hR := of_true h11 hR
        refine rvS ?_
        refine rvS ?_
        refine rvS ?_
        refine rvS ?_
        refine rvP C (.pv (.lit (.bool true))) ?_
        refine rvc_nil ?_
        refine Awp.condT (b := true) rfl rfl ?_
        refine Awp.consP C ?_
        refine rvP C (.pv (.lit (.int .i64 80))) ?_
        refine rvc_nil ?_
        refine Awp.ret ?_
        subst hR
        exact ⟨.inl rfl, rfl⟩
       ·
        replace hR := of_false h11 hR
        refine rvO C (.ptr 6 1) ?_
        refine rvO C (.pv (.lit (.int .i64 x.site))) ?_
        refine rvO C (.pv (.lit (.int .i64 site))) ?_
        refine rvO C (.pv (.lit (.bool (decide (x.site < site))))) ?_
        refine rvP C (.pv (.lit (.bool (decide (x.site < site))))) ?_
        refine rvc_nil ?_
        refine Awp.cond (b := (decide (x.site < site))) rfl (fun h12 => ?_) (fun h12 => ?_)
        ·
         replace hR := of_true h12 hR
         refine Awp.consP C ?_
         refine rvP C (.pv (.lit (.int .i64 80))) ?_
         refine rvc_nil ?_
         refine Awp.ret ?_
         subst hR
         exact ⟨.inl rfl, rfl⟩
        ·
         replace hR := of_false h12 hR
         refine Awp.skip ?_
         refine Awp.regionP C ?_
         refine rvP C (.pv (.lit (.int .u64 seen))) ?_
         refine rvP C (.ptr 6 0) ?_
         refine rvP C (.pv (.lit (.int .i64 x.node))) ?_
         refine rvc_un (rexec_call hP C rfl rfl rfl (mWith_calls seen x.node) ?_)
         refine rvP C (.ptr 6 1) ?_
         refine rvP C (.pv (.lit (.int .i64 x.site))) ?_
         refine rvP C (.pv (.lit (.int .u64 (mWith seen x.node)))) ?_
         refine rvP C (.pv (.lit (.int .i64 x.site))) ?_
         refine rvc_nil ?_
         refine Awp.regionP C ?_
         refine rvP C (.pv (.lit (.int .i64 (IntKind.i64.wrap ((i : Int) + 1))))) ?_
         refine rvP C (.pv (.lit (.int .i64 (IntKind.i64.wrap ((i : Int) + 1))))) ?_
         refine rvc_nil ?_
         refine ⟨h8, ((mWith seen x.node), x.site), ?_, ?_⟩
         · exact hR
         · exact ⟨fun b => b, WeakerR.ofL (Ks := []) hI ⟨⟨rfl, rfl⟩, ⟨rfl, rfl⟩, ⟨rfl, rfl⟩, ⟨rfl, rfl⟩, ⟨lit_cast (wrap_i64 (by omega) (by omega)), rfl⟩, trivial⟩ (okH_nil) rfl⟩
     ·
      have h8 : ¬ i < c.members.D.length := by have := of_decide_eq_false h7; omega
      rw [drop_end h8] at hR
      refine Awp.exit ?_
      refine Awp.consP C ?_
      refine rvP C (.pv (.lit (.int .i64 0))) ?_
      refine rvc_nil ?_
      refine Awp.ret ?_
      subst hR
      exact ⟨.inl rfl, rfl⟩
def eqMembers_l0 (s2 : (Sl Member)) : List Member → Nat → Bool
  | [], _ => true
  | x :: xs, i => (bif (!((x.node == (s2.D[(i : Int).toNat]!.node)) && ((x.site == (s2.D[(i : Int).toNat]!.site)) && ((x.fresh == (s2.D[(i : Int).toNat]!.fresh)) && true)))) then false else eqMembers_l0 s2 xs (i + 1) )
def eqMembers (s1 : (Sl Member)) (s2 : (Sl Member)) : Bool :=
  (bif ((s1.D.length : Int) != (s2.D.length : Int)) then false else eqMembers_l0 s2 s1.D 0 )
theorem eqMembers_calls (s1 : (Sl Member)) (s2 : (Sl Member)) (hl1 : s1.D.length ≤ 9223372036854775807) : PCalls Try.prog 44 [sS (some s1.nil) eMember s1.D, sS (some s2.nil) eMember s2.D] (.pv (.lit (.bool (eqMembers s1 s2)))) := by
 generalize hR : eqMembers s1 s2 = R
 refine PCalls.of_body tabOk Try.func44 rfl rfl rfl rfl rfl mixed fun E hP C hI => ?_
 refine Awp.consP C ?_
 refine rvP C (.pv (.lit (.bool false))) ?_
 refine rvc_nil ?_
 refine Awp.seq ?_
 refine Awp.consP C ?_
 refine rvP C (sS (some s1.nil) eMember s1.D) ?_
 refine rvP C (.pv (.lit (.int .i64 (s1.D.length : Int)))) ?_
 refine rvP C (sS (some s2.nil) eMember s2.D) ?_
 refine rvP C (.pv (.lit (.int .i64 (s2.D.length : Int)))) ?_
 refine rvP C (.pv (.lit (.bool ((s1.D.length : Int) != (s2.D.length : Int))))) ?_
 refine rvc_nil ?_
 refine Awp.cond (b := ((s1.D.length : Int) != (s2.D.length : Int))) rfl (fun h1 => ?_) (fun h1 => ?_)
 ·
  replace hR := of_true h1 hR
  refine Awp.consP C ?_
  refine rvP C (.pv (.lit (.bool false))) ?_
  refine rvc_nil ?_
  refine Awp.ret ?_
  subst hR
  exact ⟨.inl rfl, rfl⟩
 ·
  replace hR := of_false h1 hR
  refine Awp.skip ?_
  refine Awp.seq ?_
  refine Awp.consP C ?_
  refine rvP C (sS (some s1.nil) eMember s1.D) ?_
  refine rvP C (.pv (.lit (.int .i64 (s1.D.length : Int)))) ?_
  refine rvP C (.pv (.lit (.int .i64 0))) ?_
  refine rvc_nil ?_
  refine Awp.block ?_
  refine Awp.forR (σ := Unit) (s1.D.length) (fun i _v => [(0, sS (some s1.nil) eMember s1.D), (1, sS (some s2.nil) eMember s2.D), (12, .pv (.lit (.int .i64 (s1.D.length : Int)))), (13, .pv (.lit (.int .i64 (i : Int))))]) (fun i _v => []) [] (fun i _v => eqMembers_l0 s2 (s1.D.drop i) i  = R) () ?_ ?_ (fun i _v h2 hR => ?_)
  · exact hR
  · exact ⟨fun b => b, WeakerR.ofL (Ks := []) hI ⟨⟨rfl, rfl⟩, ⟨rfl, rfl⟩, ⟨rfl, rfl⟩, ⟨rfl, rfl⟩, trivial⟩ (okH_nil) rfl⟩
  refine Awp.consP C ?_
  refine rvP C (.pv (.lit (.bool (decide ((i : Int) < (s1.D.length : Int)))))) ?_
  refine rvc_nil ?_
  refine Awp.seq ?_
  refine Awp.cond (b := (decide ((i : Int) < (s1.D.length : Int)))) rfl (fun h3 => ?_) (fun h3 => ?_)
  ·
   have h4 : i < s1.D.length := by have := of_decide_eq_true h3; omega
   obtain ⟨x, h5⟩ := getX h4
   rw [drop_at h5] at hR
   refine Awp.skip ?_
   refine Awp.seq ?_
   refine Awp.block ?_
   refine Awp.consP C ?_
   refine rvP C (.pv (.lit (.int .i64 (i : Int)))) ?_
   refine rvP C (.pv (.lit (.int .i64 (i : Int)))) ?_
   refine rvc_nil ?_
   refine Awp.consP C ?_
   refine rvP C (sS (some s1.nil) eMember s1.D) ?_
   refine rvP C (.pv (.lit (.int .i64 (i : Int)))) ?_
   refine rvc_un (rexec_idxS C rfl rfl rfl rfl rfl rfl x (Int.natCast_nonneg _) h5 ?_)
   refine rvP C (.agg [.pv (.lit (.int .i64 x.node)), .pv (.lit (.int .i64 x.site)), .pv (.lit (.bool x.fresh))]) ?_
   refine rvP C (sS (some s2.nil) eMember s2.D) ?_
   refine rvP C (.pv (.lit (.int .i64 (i : Int)))) ?_
   have h6 : s2.D[(i : Int).toNat]? = some s2.D[(i : Int).toNat]! := getE (by have := eq_of_bne_false h1; have := of_decide_eq_true h3; omega)
   refine rvc_un (rexec_idxS C rfl rfl rfl rfl rfl rfl (s2.D[(i : Int).toNat]!) (Int.natCast_nonneg _) h6 ?_)
   refine rvP C (.agg [.pv (.lit (.int .i64 (s2.D[(i : Int).toNat]!.node))), .pv (.lit (.int .i64 (s2.D[(i : Int).toNat]!.site))), .pv (.lit (.bool (s2.D[(i : Int).toNat]!.fresh)))]) ?_
   refine rvP C (.pv (.lit (.bool (!((x.node == (s2.D[(i : Int).toNat]!.node)) && ((x.site == (s2.D[(i : Int).toNat]!.site)) && ((x.fresh == (s2.D[(i : Int).toNat]!.fresh)) && true))))))) ?_
   refine rvc_nil ?_
   refine Awp.cond (b := (!((x.node == (s2.D[(i : Int).toNat]!.node)) && ((x.site == (s2.D[(i : Int).toNat]!.site)) && ((x.fresh == (s2.D[(i : Int).toNat]!.fresh)) && true))))) rfl (fun h7 => ?_) (fun h7 => ?_)
   ·
    replace hR := of_true h7 hR
    refine Awp.consP C ?_
    refine rvP C (.pv (.lit (.bool false))) ?_
    refine rvc_nil ?_
    refine Awp.ret ?_
    subst hR
    exact ⟨.inl rfl, rfl⟩
   ·
    replace hR := of_false h7 hR
    refine Awp.skip ?_
    refine Awp.regionP C ?_
    refine rvP C (.pv (.lit (.int .i64 (IntKind.i64.wrap ((i : Int) + 1))))) ?_
    refine rvP C (.pv (.lit (.int .i64 (IntKind.i64.wrap ((i : Int) + 1))))) ?_
    refine rvc_nil ?_
    refine ⟨h4, (), ?_, ?_⟩
    · exact hR
    · exact ⟨fun b => b, WeakerR.ofL (Ks := []) hI ⟨⟨rfl, rfl⟩, ⟨rfl, rfl⟩, ⟨rfl, rfl⟩, ⟨lit_cast (wrap_i64 (by omega) (by omega)), rfl⟩, trivial⟩ (okH_nil) rfl⟩
  ·
   have h4 : ¬ i < s1.D.length := by have := of_decide_eq_false h3; omega
   rw [drop_end h4] at hR
   refine Awp.exit ?_
   refine Awp.consP C ?_
   refine rvP C (.pv (.lit (.bool true))) ?_
   refine rvc_nil ?_
   refine Awp.ret ?_
   subst hR
   exact ⟨.inl rfl, rfl⟩
def same (a : Chain) (b : Chain) : Bool :=
  (bif (a.epoch == b.epoch) then (eqMembers a.members b.members) else false)
theorem same_calls (a : Chain) (b : Chain) (hl1 : a.members.D.length ≤ 9223372036854775807) : PCalls Try.prog 19 [.agg [.pv (.lit (.int .i64 a.epoch)), sS (some a.members.nil) eMember a.members.D], .agg [.pv (.lit (.int .i64 b.epoch)), sS (some b.members.nil) eMember b.members.D]] (.pv (.lit (.bool (same a b)))) := by
 generalize hR : same a b = R
 refine PCalls.of_body tabOk Try.func19 rfl rfl rfl rfl rfl mixed fun E hP C hI => ?_
 refine Awp.consP C ?_
 refine rvc_un (rexec_prim C (δ := { v := .ptr 2 0, new := [(2, .cells [.pv (.lit (.int .i64 a.epoch)), sS (some a.members.nil) eMember a.members.D])] }) rfl rfl rfl rfl trivial rfl ?_)
 refine rvc_un (rexec_prim C (δ := { v := .ptr 3 0, new := [(3, .cells [.pv (.lit (.int .i64 b.epoch)), sS (some b.members.nil) eMember b.members.D])] }) rfl rfl rfl rfl trivial rfl ?_)
 refine rvP C (.pv (.lit (.bool false))) ?_
 refine rvc_nil ?_
 refine Awp.consP C ?_
 refine rvP C (.ptr 2 0) ?_
 refine rvP C (.pv (.lit (.int .i64 a.epoch))) ?_
 refine rvP C (.ptr 3 0) ?_
 refine rvP C (.pv (.lit (.int .i64 b.epoch))) ?_
 refine rvP C (.pv (.lit (.bool (a.epoch == b.epoch)))) ?_
 refine rvP C (.pv (.lit (.bool (a.epoch == b.epoch)))) ?_
 refine rvc_case 10 (a.epoch == b.epoch) rfl (fun h1 => ?_) (fun h1 => ?_)
 ·
  replace hR := of_true h1 hR
  refine rvO C (.ptr 2 1) ?_
  refine rvO C (sS (some a.members.nil) eMember a.members.D) ?_
  refine rvO C (.ptr 3 1) ?_
  refine rvO C (sS (some b.members.nil) eMember b.members.D) ?_
  refine rvc_open rfl rfl rfl (rexec_call hP C rfl rfl rfl (eqMembers_calls a.members b.members hl1) ?_)
  refine rvP C (.pv (.lit (.bool (eqMembers a.members b.members)))) ?_
  refine rvP C (.pv (.lit (.bool (eqMembers a.members b.members)))) ?_
  refine rvc_nil ?_
  refine Awp.ret ?_
  subst hR
  exact ⟨.inl rfl, rfl⟩
 ·
  replace hR := of_false h1 hR
  refine rvS ?_
  refine rvS ?_
  refine rvS ?_
  refine rvS ?_
  refine rvS ?_
  refine rvP C (.pv (.lit (.bool false))) ?_
  refine rvP C (.pv (.lit (.bool false))) ?_
  refine rvc_nil ?_
  refine Awp.ret ?_
  subst hR
  exact ⟨.inl rfl, rfl⟩
def rCheck_l1 (x : Member) (kk : Int) : List Member → Nat → Int
  | [], _ => kk 
  | x1 :: x1s, i1 => (bif (x1.node == x.node) then 80 else (bif (decide (x1.site > x.site)) then 80 else rCheck_l1 x kk x1s (i1 + 1) ))
def rCheck_l0 (c : Chain) : List Member → Nat → Int
  | [], _ => 0
  | x :: xs, i => (bif (decide (x.node < 0)) then 80 else (bif (decide (x.node > 5)) then 80 else (bif (decide (x.site < 0)) then 80 else (bif (decide (x.site > 2)) then 80 else rCheck_l1 x (rCheck_l0 c xs (i + 1) ) (c.members.D.take i) 0 ))))
def rCheck (c : Chain) : Int :=
  (bif (decide (c.epoch < 1)) then 80 else (bif (decide (c.epoch > 1099511627776)) then 80 else (bif ((c.members.D.length : Int) == 0) then 80 else (bif (decide ((c.members.D.length : Int) > 6)) then 80 else (bif c.members.D[0]!.fresh then 80 else rCheck_l0 c c.members.D 0 )))))
theorem rCheck_calls (c : Chain) (hl1 : c.members.D.length ≤ 9223372036854775807) : PCalls Try.prog 70 [.agg [.pv (.lit (.int .i64 c.epoch)), sS (some c.members.nil) eMember c.members.D]] (.pv (.lit (.int .i64 (rCheck c)))) := by
 generalize hR : rCheck c = R
 refine PCalls.of_body tabOk Try.func70 rfl rfl rfl rfl rfl mixed fun E hP C hI => ?_
 refine Awp.consP C ?_
 refine rvc_un (rexec_prim C (δ := { v := .ptr 1 0, new := [(1, .cells [.pv (.lit (.int .i64 c.epoch)), sS (some c.members.nil) eMember c.members.D])] }) rfl rfl rfl rfl trivial rfl ?_)
 refine rvP C (.pv (.lit (.int .i64 0))) ?_
 refine rvc_nil ?_
 refine Awp.seq ?_
 refine Awp.consP C ?_
 refine rvP C (.ptr 1 0) ?_
 refine rvP C (.pv (.lit (.int .i64 c.epoch))) ?_
 refine rvP C (.pv (.lit (.bool (decide (c.epoch < 1))))) ?_
 refine rvP C (.pv (.lit (.bool (decide (c.epoch < 1))))) ?_
 refine rvc_case 10 (decide (c.epoch < 1)) rfl (fun h1 => ?_) (fun h1 => ?_)
 ·
  replace hR := of_true h1 hR
  refine rvS ?_
  refine rvS ?_
  refine rvS ?_
  refine rvP C (.pv (.lit (.bool true))) ?_
  refine rvP C (.pv (.lit (.bool true))) ?_
  refine rvS ?_
  refine rvS ?_
  refine rvS ?_
  refine rvS ?_
  refine rvP C (.pv (.lit (.bool true))) ?_
  refine rvP C (.pv (.lit (.bool true))) ?_
  refine rvS ?_
  refine rvS ?_
  refine rvS ?_
  refine rvS ?_
  refine rvP C (.pv (.lit (.bool true))) ?_
  refine rvc_nil ?_
  refine Awp.condT (b := true) rfl rfl ?_
  refine Awp.consP C ?_
  refine rvP C (.pv (.lit (.int .i64 80))) ?_
  refine rvc_nil ?_
  refine Awp.ret ?_
  subst hR
  exact ⟨.inl rfl, rfl⟩
 ·
  replace hR := of_false h1 hR
  refine rvO C (.ptr 1 0) ?_
  refine rvO C (.pv (.lit (.int .i64 c.epoch))) ?_
  refine rvO C (.pv (.lit (.bool (decide (c.epoch > 1099511627776))))) ?_
  refine rvP C (.pv (.lit (.bool (decide (c.epoch > 1099511627776))))) ?_
  refine rvP C (.pv (.lit (.bool (decide (c.epoch > 1099511627776))))) ?_
  refine rvc_case 15 (decide (c.epoch > 1099511627776)) rfl (fun h2 => ?_) (fun h2 => ?_)
  ·
   replace hR := of_true h2 hR
   refine rvS ?_
   refine rvS ?_
   refine rvS ?_
   refine rvS ?_
   refine rvP C (.pv (.lit (.bool true))) ?_
   refine rvP C (.pv (.lit (.bool true))) ?_
   refine rvS ?_
   refine rvS ?_
   refine rvS ?_
   refine rvS ?_
   refine rvP C (.pv (.lit (.bool true))) ?_
   refine rvc_nil ?_
   refine Awp.condT (b := true) rfl rfl ?_
   refine Awp.consP C ?_
   refine rvP C (.pv (.lit (.int .i64 80))) ?_
   refine rvc_nil ?_
   refine Awp.ret ?_
   subst hR
   exact ⟨.inl rfl, rfl⟩
  ·
   replace hR := of_false h2 hR
   refine rvO C (.ptr 1 1) ?_
   refine rvO C (sS (some c.members.nil) eMember c.members.D) ?_
   refine rvO C (.pv (.lit (.int .i64 (c.members.D.length : Int)))) ?_
   refine rvO C (.pv (.lit (.bool ((c.members.D.length : Int) == 0)))) ?_
   refine rvP C (.pv (.lit (.bool ((c.members.D.length : Int) == 0)))) ?_
   refine rvP C (.pv (.lit (.bool ((c.members.D.length : Int) == 0)))) ?_
   refine rvc_case 21 ((c.members.D.length : Int) == 0) rfl (fun h3 => ?_) (fun h3 => ?_)
   ·
    replace hR := of_true h3 hR
    refine rvS ?_
    refine rvS ?_
    refine rvS ?_
    refine rvS ?_
    refine rvP C (.pv (.lit (.bool true))) ?_
    refine rvc_nil ?_
    refine Awp.condT (b := true) rfl rfl ?_
    refine Awp.consP C ?_
    refine rvP C (.pv (.lit (.int .i64 80))) ?_
    refine rvc_nil ?_
    refine Awp.ret ?_
    subst hR
    exact ⟨.inl rfl, rfl⟩
   ·
    replace hR := of_false h3 hR
    refine rvO C (.ptr 1 1) ?_
    refine rvO C (sS (some c.members.nil) eMember c.members.D) ?_
    refine rvO C (.pv (.lit (.int .i64 (c.members.D.length : Int)))) ?_
    refine rvO C (.pv (.lit (.bool (decide ((c.members.D.length : Int) > 6))))) ?_
    refine rvP C (.pv (.lit (.bool (decide ((c.members.D.length : Int) > 6))))) ?_
    refine rvc_nil ?_
    refine Awp.cond (b := (decide ((c.members.D.length : Int) > 6))) rfl (fun h4 => ?_) (fun h4 => ?_)
    ·
     replace hR := of_true h4 hR
     refine Awp.consP C ?_
     refine rvP C (.pv (.lit (.int .i64 80))) ?_
     refine rvc_nil ?_
     refine Awp.ret ?_
     subst hR
     exact ⟨.inl rfl, rfl⟩
    ·
     replace hR := of_false h4 hR
     refine Awp.skip ?_
     refine Awp.seq ?_
     refine Awp.consP C ?_
     refine rvP C (.ptr 1 1) ?_
     refine rvP C (sS (some c.members.nil) eMember c.members.D) ?_
     have h5 : c.members.D[0]? = some c.members.D[0]! := getE (by have := of_decide_eq_false h1; have := of_decide_eq_false h2; have := ne_of_beq_false h3; have := of_decide_eq_false h4; omega)
     refine rvc_un (rexec_idxS C rfl rfl rfl rfl rfl rfl (c.members.D[0]!) (Int.natCast_nonneg _) h5 ?_)
     refine rvP C (.rp [.lit (.bool (c.members.D[0]!.fresh))]) ?_
     refine rvP C (.pv (.lit (.bool (c.members.D[0]!.fresh)))) ?_
     refine rvc_nil ?_
     refine Awp.cond (b := c.members.D[0]!.fresh) rfl (fun h6 => ?_) (fun h6 => ?_)
     ·
      replace hR := of_true h6 hR
      refine Awp.consP C ?_
      refine rvP C (.pv (.lit (.int .i64 80))) ?_
      refine rvc_nil ?_
      refine Awp.ret ?_
      subst hR
      exact ⟨.inl rfl, rfl⟩
     ·
      replace hR := of_false h6 hR
      refine Awp.skip ?_
      refine Awp.seq ?_
      refine Awp.consP C ?_
      refine rvP C (.ptr 1 1) ?_
      refine rvP C (sS (some c.members.nil) eMember c.members.D) ?_
      refine rvP C (.pv (.lit (.int .i64 (c.members.D.length : Int)))) ?_
      refine rvP C (.pv (.lit (.int .i64 0))) ?_
      refine rvc_nil ?_
      refine Awp.block ?_
      refine Awp.forR (σ := Unit) (c.members.D.length) (fun i _v => [(1, .ptr 1 0), (33, sS (some c.members.nil) eMember c.members.D), (34, .pv (.lit (.int .i64 (c.members.D.length : Int)))), (35, .pv (.lit (.int .i64 (i : Int))))]) (fun i _v => [(1, .cells [.pv (.lit (.int .i64 c.epoch)), sS (some c.members.nil) eMember c.members.D])]) [1] (fun i _v => rCheck_l0 c (c.members.D.drop i) i  = R) () ?_ ?_ (fun i _v h7 hR => ?_)
      · exact hR
      · exact ⟨fun b => b, WeakerR.ofL (Ks := [1]) hI ⟨⟨rfl, rfl⟩, ⟨rfl, rfl⟩, ⟨rfl, rfl⟩, ⟨rfl, rfl⟩, trivial⟩ (okH_cons rfl rfl rfl rfl (okH_nil)) rfl⟩
      refine Awp.consP C ?_
      refine rvP C (.pv (.lit (.bool (decide ((i : Int) < (c.members.D.length : Int)))))) ?_
      refine rvc_nil ?_
      refine Awp.seq ?_
      refine Awp.cond (b := (decide ((i : Int) < (c.members.D.length : Int)))) rfl (fun h8 => ?_) (fun h8 => ?_)
      ·
       have h9 : i < c.members.D.length := by have := of_decide_eq_true h8; omega
       obtain ⟨x, h10⟩ := getX h9
       rw [drop_at h10] at hR
       refine Awp.skip ?_
       refine Awp.seq ?_
       refine Awp.block ?_
       refine Awp.consP C ?_
       refine rvP C (.pv (.lit (.int .i64 (i : Int)))) ?_
       refine rvc_un (rexec_idxS C rfl rfl rfl rfl rfl rfl x (Int.natCast_nonneg _) h10 ?_)
       refine rvP C (.agg [.pv (.lit (.int .i64 x.node)), .pv (.lit (.int .i64 x.site)), .pv (.lit (.bool x.fresh))]) ?_
       refine rvc_un (rexec_prim C (δ := { v := .ptr 4 0, new := [(4, .cells [.pv (.lit (.int .i64 0)), .pv (.lit (.int .i64 0)), .pv (.lit (.bool false))])] }) rfl rfl rfl rfl trivial rfl ?_)
       refine rvP C (.pv (.lit (.int .i64 (i : Int)))) ?_
       refine rvc_un (rexec_prim C (δ := { v := .undef, wr := [(4, some (.cells [.pv (.lit (.int .i64 x.node)), .pv (.lit (.int .i64 x.site)), .pv (.lit (.bool x.fresh))]))] }) rfl rfl rfl rfl trivial rfl ?_)
       refine rvc_nil ?_
       refine Awp.seq ?_
       refine Awp.consP C ?_
       refine rvP C (.ptr 4 0) ?_
       refine rvP C (.pv (.lit (.int .i64 x.node))) ?_
       refine rvP C (.pv (.lit (.bool (decide (x.node < 0))))) ?_
       refine rvP C (.pv (.lit (.bool (decide (x.node < 0))))) ?_
       refine rvc_case 43 (decide (x.node < 0)) rfl (fun h11 => ?_) (fun h11 => ?_)
       ·
        replace hR := of_true h11 hR
        refine rvS ?_
        refine rvS ?_
        refine rvS ?_
        refine rvP C (.pv (.lit (.bool true))) ?_
        refine rvP C (.pv (.lit (.bool true))) ?_
        refine rvS ?_
        refine rvS ?_
        refine rvS ?_
        refine rvP C (.pv (.lit (.bool true))) ?_
        refine rvP C (.pv (.lit (.bool true))) ?_
        refine rvS ?_
        refine rvS ?_
        refine rvS ?_
        refine rvP C (.pv (.lit (.bool true))) ?_
        refine rvc_nil ?_
        refine Awp.condT (b := true) rfl rfl ?_
        refine Awp.consP C ?_
        refine rvP C (.pv (.lit (.int .i64 80))) ?_
        refine rvc_nil ?_
        refine Awp.ret ?_
        subst hR
        exact ⟨.inl rfl, rfl⟩
       ·
        replace hR := of_false h11 hR
        refine rvO C (.ptr 4 0) ?_
        refine rvO C (.pv (.lit (.int .i64 x.node))) ?_
        refine rvO C (.pv (.lit (.bool (decide (x.node > 5))))) ?_
        refine rvP C (.pv (.lit (.bool (decide (x.node > 5))))) ?_
        refine rvP C (.pv (.lit (.bool (decide (x.node > 5))))) ?_
        refine rvc_case 48 (decide (x.node > 5)) rfl (fun h12 => ?_) (fun h12 => ?_)
        ·
         replace hR := of_true h12 hR
         refine rvS ?_
         refine rvS ?_
         refine rvS ?_
         refine rvP C (.pv (.lit (.bool true))) ?_
         refine rvP C (.pv (.lit (.bool true))) ?_
         refine rvS ?_
         refine rvS ?_
         refine rvS ?_
         refine rvP C (.pv (.lit (.bool true))) ?_
         refine rvc_nil ?_
         refine Awp.condT (b := true) rfl rfl ?_
         refine Awp.consP C ?_
         refine rvP C (.pv (.lit (.int .i64 80))) ?_
         refine rvc_nil ?_
         refine Awp.ret ?_
         subst hR
         exact ⟨.inl rfl, rfl⟩
        ·
         replace hR := of_false h12 hR
         refine rvO C (.ptr 4 1) ?_
         refine rvO C (.pv (.lit (.int .i64 x.site))) ?_
         refine rvO C (.pv (.lit (.bool (decide (x.site < 0))))) ?_
         refine rvP C (.pv (.lit (.bool (decide (x.site < 0))))) ?_
         refine rvP C (.pv (.lit (.bool (decide (x.site < 0))))) ?_
         refine rvc_case 53 (decide (x.site < 0)) rfl (fun h13 => ?_) (fun h13 => ?_)
         ·
          replace hR := of_true h13 hR
          refine rvS ?_
          refine rvS ?_
          refine rvS ?_
          refine rvP C (.pv (.lit (.bool true))) ?_
          refine rvc_nil ?_
          refine Awp.condT (b := true) rfl rfl ?_
          refine Awp.consP C ?_
          refine rvP C (.pv (.lit (.int .i64 80))) ?_
          refine rvc_nil ?_
          refine Awp.ret ?_
          subst hR
          exact ⟨.inl rfl, rfl⟩
         ·
          replace hR := of_false h13 hR
          refine rvO C (.ptr 4 1) ?_
          refine rvO C (.pv (.lit (.int .i64 x.site))) ?_
          refine rvO C (.pv (.lit (.bool (decide (x.site > 2))))) ?_
          refine rvP C (.pv (.lit (.bool (decide (x.site > 2))))) ?_
          refine rvc_nil ?_
          refine Awp.cond (b := (decide (x.site > 2))) rfl (fun h14 => ?_) (fun h14 => ?_)
          ·
           replace hR := of_true h14 hR
           refine Awp.consP C ?_
           refine rvP C (.pv (.lit (.int .i64 80))) ?_
           refine rvc_nil ?_
           refine Awp.ret ?_
           subst hR
           exact ⟨.inl rfl, rfl⟩
          ·
           replace hR := of_false h14 hR
           refine Awp.skip ?_
           refine Awp.consP C ?_
           refine rvP C (.ptr 1 1) ?_
           refine rvP C (sS (some c.members.nil) eMember c.members.D) ?_
           refine rvP C (.pv (.lit (.int .i64 (i : Int)))) ?_
           refine rvc_un (rexec_sliceS C (e := eMember) (D := c.members.D) 0 i rfl rfl rfl rfl rfl rfl rfl rfl rfl rfl (by have := of_decide_eq_false h1; have := of_decide_eq_false h2; have := ne_of_beq_false h3; have := of_decide_eq_false h4; have := of_decide_eq_true h8; have := of_decide_eq_false h11; have := of_decide_eq_false h12; have := of_decide_eq_false h13; have := of_decide_eq_false h14; omega) (by have := of_decide_eq_false h1; have := of_decide_eq_false h2; have := ne_of_beq_false h3; have := of_decide_eq_false h4; have := of_decide_eq_true h8; have := of_decide_eq_false h11; have := of_decide_eq_false h12; have := of_decide_eq_false h13; have := of_decide_eq_false h14; omega) (c.members.D.take i) (by simp) ?_)
           refine rvP C (.pv (.lit (.int .i64 ((c.members.D.take i).length : Int)))) ?_
           refine rvP C (.pv (.lit (.int .i64 0))) ?_
           refine rvc_nil ?_
           refine Awp.block ?_
           refine Awp.forR (σ := Unit) ((c.members.D.take i).length) (fun i1 _v => [(1, .ptr 1 0), (4, .ptr 4 0), (33, sS (some c.members.nil) eMember c.members.D), (34, .pv (.lit (.int .i64 (c.members.D.length : Int)))), (35, .pv (.lit (.int .i64 (i : Int)))), (44, .ptr 4 0), (45, .pv (.lit (.int .i64 x.node))), (46, .pv (.lit (.bool (decide (x.node > 5))))), (49, .ptr 4 1), (50, .pv (.lit (.int .i64 x.site))), (51, .pv (.lit (.bool (decide (x.site < 0))))), (54, .ptr 4 1), (55, .pv (.lit (.int .i64 x.site))), (56, .pv (.lit (.bool (decide (x.site > 2))))), (61, sS (some c.members.nil) eMember (c.members.D.take i)), (62, .pv (.lit (.int .i64 ((c.members.D.take i).length : Int)))), (63, .pv (.lit (.int .i64 (i1 : Int))))]) (fun i1 _v => [(1, .cells [.pv (.lit (.int .i64 c.epoch)), sS (some c.members.nil) eMember c.members.D]), (4, .cells [.pv (.lit (.int .i64 x.node)), .pv (.lit (.int .i64 x.site)), .pv (.lit (.bool x.fresh))])]) [1, 4] (fun i1 _v => rCheck_l1 x (rCheck_l0 c (c.members.D.drop (i + 1)) (i + 1) ) ((c.members.D.take i).drop i1) i1  = R) () ?_ ?_ (fun i1 _v h15 hR => ?_)
           · exact hR
           · exact ⟨fun b => b, WeakerR.ofL (Ks := [1, 4]) hI ⟨⟨rfl, rfl⟩, ⟨rfl, rfl⟩, ⟨rfl, rfl⟩, ⟨rfl, rfl⟩, ⟨rfl, rfl⟩, ⟨rfl, rfl⟩, ⟨rfl, rfl⟩, ⟨rfl, rfl⟩, ⟨rfl, rfl⟩, ⟨rfl, rfl⟩, ⟨rfl, rfl⟩, ⟨rfl, rfl⟩, ⟨rfl, rfl⟩, ⟨rfl, rfl⟩, ⟨rfl, rfl⟩, ⟨rfl, rfl⟩, ⟨rfl, rfl⟩, trivial⟩ (okH_cons rfl rfl rfl rfl (okH_cons rfl rfl rfl rfl (okH_nil))) rfl⟩
           have := List.length_take_le i c.members.D
           refine Awp.consP C ?_
           refine rvP C (.pv (.lit (.bool (decide ((i1 : Int) < ((c.members.D.take i).length : Int)))))) ?_
           refine rvc_nil ?_
           refine Awp.seq ?_
           refine Awp.cond (b := (decide ((i1 : Int) < ((c.members.D.take i).length : Int)))) rfl (fun h16 => ?_) (fun h16 => ?_)
           ·
            have h17 : i1 < (c.members.D.take i).length := by have := of_decide_eq_true h16; omega
            obtain ⟨x1, h18⟩ := getX h17
            rw [drop_at h18] at hR
            refine Awp.skip ?_
            refine Awp.seq ?_
            refine Awp.block ?_
            refine Awp.consP C ?_
            refine rvc_un (rexec_idxS C rfl rfl rfl rfl rfl rfl x1 (Int.natCast_nonneg _) h18 ?_)
            refine rvP C (.agg [.pv (.lit (.int .i64 x1.node)), .pv (.lit (.int .i64 x1.site)), .pv (.lit (.bool x1.fresh))]) ?_
            refine rvc_un (rexec_prim C (δ := { v := .ptr 6 0, new := [(6, .cells [.pv (.lit (.int .i64 0)), .pv (.lit (.int .i64 0)), .pv (.lit (.bool false))])] }) rfl rfl rfl rfl trivial rfl ?_)
            refine rvc_un (rexec_prim C (δ := { v := .undef, wr := [(6, some (.cells [.pv (.lit (.int .i64 x1.node)), .pv (.lit (.int .i64 x1.site)), .pv (.lit (.bool x1.fresh))]))] }) rfl rfl rfl rfl trivial rfl ?_)
            refine rvc_nil ?_
            refine Awp.consP C ?_
            refine rvP C (.ptr 6 0) ?_
            refine rvP C (.pv (.lit (.int .i64 x1.node))) ?_
            refine rvP C (.ptr 4 0) ?_
            refine rvP C (.pv (.lit (.int .i64 x.node))) ?_
            refine rvP C (.pv (.lit (.bool (x1.node == x.node)))) ?_
            refine rvP C (.pv (.lit (.bool (x1.node == x.node)))) ?_
            refine rvc_case 72 (x1.node == x.node) rfl (fun h19 => ?_) (fun h19 => ?_)
            ·
             replace hR := of_true h19 hR
             refine rvS ?_
             refine rvS ?_
             refine rvS ?_
             refine rvS ?_
             refine rvS ?_
             refine rvP C (.pv (.lit (.bool true))) ?_
             refine rvc_nil ?_
             refine Awp.condT (b := true) rfl rfl ?_
             refine Awp.consP C ?_
             refine rvP C (.pv (.lit (.int .i64 80))) ?_
             refine rvc_nil ?_
             refine Awp.ret ?_
             subst hR
             exact ⟨.inl rfl, rfl⟩
            ·
             replace hR := of_false h19 hR
             refine rvO C (.ptr 6 1) ?_
             refine rvO C (.pv (.lit (.int .i64 x1.site))) ?_
             refine rvO C (.ptr 4 1) ?_
             refine rvO C (.pv (.lit (.int .i64 x.site))) ?_
             refine rvO C (.pv (.lit (.bool (decide (x1.site > x.site))))) ?_
             refine rvP C (.pv (.lit (.bool (decide (x1.site > x.site))))) ?_
             refine rvc_nil ?_
             refine Awp.cond (b := (decide (x1.site > x.site))) rfl (fun h20 => ?_) (fun h20 => ?_)
             ·
              replace hR := of_true h20 hR
              refine Awp.consP C ?_
              refine rvP C (.pv (.lit (.int .i64 80))) ?_
              refine rvc_nil ?_
              refine Awp.ret ?_
              subst hR
              exact ⟨.inl rfl, rfl⟩
             ·
              replace hR := of_false h20 hR
              refine Awp.skip ?_
              refine Awp.regionP C ?_
              refine rvP C (.pv (.lit (.int .i64 (IntKind.i64.wrap ((i1 : Int) + 1))))) ?_
              refine rvP C (.pv (.lit (.int .i64 (IntKind.i64.wrap ((i1 : Int) + 1))))) ?_
              refine rvc_nil ?_
              refine ⟨h17, (), ?_, ?_⟩
              · exact hR
              · exact ⟨fun b => b, WeakerR.ofL (Ks := [1, 4]) hI ⟨⟨rfl, rfl⟩, ⟨rfl, rfl⟩, ⟨rfl, rfl⟩, ⟨rfl, rfl⟩, ⟨rfl, rfl⟩, ⟨rfl, rfl⟩, ⟨rfl, rfl⟩, ⟨rfl, rfl⟩, ⟨rfl, rfl⟩, ⟨rfl, rfl⟩, ⟨rfl, rfl⟩, ⟨rfl, rfl⟩, ⟨rfl, rfl⟩, ⟨rfl, rfl⟩, ⟨rfl, rfl⟩, ⟨rfl, rfl⟩, ⟨lit_cast (wrap_i64 (by omega) (by omega)), rfl⟩, trivial⟩ (okH_cons rfl rfl rfl rfl (okH_cons rfl rfl rfl rfl (okH_nil))) rfl⟩
           ·
            have h17 : ¬ i1 < (c.members.D.take i).length := by have := of_decide_eq_false h16; omega
            rw [drop_end h17] at hR
            refine Awp.exit ?_
            refine Awp.regionP C ?_
            refine rvP C (.pv (.lit (.int .i64 (IntKind.i64.wrap ((i : Int) + 1))))) ?_
            refine rvP C (.pv (.lit (.int .i64 (IntKind.i64.wrap ((i : Int) + 1))))) ?_
            refine rvc_nil ?_
            refine ⟨h9, (), ?_, ?_⟩
            · exact hR
            · exact ⟨fun b => b, WeakerR.ofL (Ks := [1]) hI ⟨⟨rfl, rfl⟩, ⟨rfl, rfl⟩, ⟨rfl, rfl⟩, ⟨lit_cast (wrap_i64 (by omega) (by omega)), rfl⟩, trivial⟩ (okH_cons rfl rfl rfl rfl (okH_nil)) rfl⟩
      ·
       have h9 : ¬ i < c.members.D.length := by have := of_decide_eq_false h8; omega
       rw [drop_end h9] at hR
       refine Awp.exit ?_
       refine Awp.consP C ?_
       refine rvP C (.pv (.lit (.int .i64 0))) ?_
       refine rvc_nil ?_
       refine Awp.ret ?_
       subst hR
       exact ⟨.inl rfl, rfl⟩
def rSame_l0 (b : Chain) : List Member → Nat → Bool
  | [], _ => true
  | x :: xs, i => (bif (!((x.node == (b.members.D[(i : Int).toNat]!.node)) && ((x.site == (b.members.D[(i : Int).toNat]!.site)) && ((x.fresh == (b.members.D[(i : Int).toNat]!.fresh)) && true)))) then false else rSame_l0 b xs (i + 1) )
def rSame (a : Chain) (b : Chain) : Bool :=
  (bif (a.epoch != b.epoch) then false else (bif ((a.members.D.length : Int) != (b.members.D.length : Int)) then false else rSame_l0 b a.members.D 0 ))
theorem rSame_calls (a : Chain) (b : Chain) (hl1 : a.members.D.length ≤ 9223372036854775807) : PCalls Try.prog 32 [.agg [.pv (.lit (.int .i64 a.epoch)), sS (some a.members.nil) eMember a.members.D], .agg [.pv (.lit (.int .i64 b.epoch)), sS (some b.members.nil) eMember b.members.D]] (.pv (.lit (.bool (rSame a b)))) := by
 generalize hR : rSame a b = R
 refine PCalls.of_body tabOk Try.func32 rfl rfl rfl rfl rfl mixed fun E hP C hI => ?_
 refine Awp.consP C ?_
 refine rvc_un (rexec_prim C (δ := { v := .ptr 2 0, new := [(2, .cells [.pv (.lit (.int .i64 a.epoch)), sS (some a.members.nil) eMember a.members.D])] }) rfl rfl rfl rfl trivial rfl ?_)
 refine rvc_un (rexec_prim C (δ := { v := .ptr 3 0, new := [(3, .cells [.pv (.lit (.int .i64 b.epoch)), sS (some b.members.nil) eMember b.members.D])] }) rfl rfl rfl rfl trivial rfl ?_)
 refine rvP C (.pv (.lit (.bool false))) ?_
 refine rvc_nil ?_
 refine Awp.seq ?_
 refine Awp.consP C ?_
 refine rvP C (.ptr 2 0) ?_
 refine rvP C (.pv (.lit (.int .i64 a.epoch))) ?_
 refine rvP C (.ptr 3 0) ?_
 refine rvP C (.pv (.lit (.int .i64 b.epoch))) ?_
 refine rvP C (.pv (.lit (.bool (a.epoch != b.epoch)))) ?_
 refine rvP C (.pv (.lit (.bool (a.epoch != b.epoch)))) ?_
 refine rvc_case 11 (a.epoch != b.epoch) rfl (fun h1 => ?_) (fun h1 => ?_)
 ·
  replace hR := of_true h1 hR
  refine rvS ?_
  refine rvS ?_
  refine rvS ?_
  refine rvS ?_
  refine rvS ?_
  refine rvS ?_
  refine rvS ?_
  refine rvP C (.pv (.lit (.bool true))) ?_
  refine rvc_nil ?_
  refine Awp.condT (b := true) rfl rfl ?_
  refine Awp.consP C ?_
  refine rvP C (.pv (.lit (.bool false))) ?_
  refine rvc_nil ?_
  refine Awp.ret ?_
  subst hR
  exact ⟨.inl rfl, rfl⟩
 ·
  replace hR := of_false h1 hR
  refine rvO C (.ptr 2 1) ?_
  refine rvO C (sS (some a.members.nil) eMember a.members.D) ?_
  refine rvO C (.pv (.lit (.int .i64 (a.members.D.length : Int)))) ?_
  refine rvO C (.ptr 3 1) ?_
  refine rvO C (sS (some b.members.nil) eMember b.members.D) ?_
  refine rvO C (.pv (.lit (.int .i64 (b.members.D.length : Int)))) ?_
  refine rvO C (.pv (.lit (.bool ((a.members.D.length : Int) != (b.members.D.length : Int))))) ?_
  refine rvP C (.pv (.lit (.bool ((a.members.D.length : Int) != (b.members.D.length : Int))))) ?_
  refine rvc_nil ?_
  refine Awp.cond (b := ((a.members.D.length : Int) != (b.members.D.length : Int))) rfl (fun h2 => ?_) (fun h2 => ?_)
  ·
   replace hR := of_true h2 hR
   refine Awp.consP C ?_
   refine rvP C (.pv (.lit (.bool false))) ?_
   refine rvc_nil ?_
   refine Awp.ret ?_
   subst hR
   exact ⟨.inl rfl, rfl⟩
  ·
   replace hR := of_false h2 hR
   refine Awp.skip ?_
   refine Awp.seq ?_
   refine Awp.consP C ?_
   refine rvP C (.ptr 2 1) ?_
   refine rvP C (sS (some a.members.nil) eMember a.members.D) ?_
   refine rvP C (.pv (.lit (.int .i64 (a.members.D.length : Int)))) ?_
   refine rvP C (.pv (.lit (.int .i64 0))) ?_
   refine rvc_nil ?_
   refine Awp.block ?_
   refine Awp.forR (σ := Unit) (a.members.D.length) (fun i _v => [(2, .ptr 2 0), (3, .ptr 3 0), (22, .pv (.lit (.int .i64 (a.members.D.length : Int)))), (23, .pv (.lit (.int .i64 (i : Int))))]) (fun i _v => [(2, .cells [.pv (.lit (.int .i64 a.epoch)), sS (some a.members.nil) eMember a.members.D]), (3, .cells [.pv (.lit (.int .i64 b.epoch)), sS (some b.members.nil) eMember b.members.D])]) [2, 3] (fun i _v => rSame_l0 b (a.members.D.drop i) i  = R) () ?_ ?_ (fun i _v h3 hR => ?_)
   · exact hR
   · exact ⟨fun b => b, WeakerR.ofL (Ks := [2, 3]) hI ⟨⟨rfl, rfl⟩, ⟨rfl, rfl⟩, ⟨rfl, rfl⟩, ⟨rfl, rfl⟩, trivial⟩ (okH_cons rfl rfl rfl rfl (okH_cons rfl rfl rfl rfl (okH_nil))) rfl⟩
   refine Awp.consP C ?_
   refine rvP C (.pv (.lit (.bool (decide ((i : Int) < (a.members.D.length : Int)))))) ?_
   refine rvc_nil ?_
   refine Awp.seq ?_
   refine Awp.cond (b := (decide ((i : Int) < (a.members.D.length : Int)))) rfl (fun h4 => ?_) (fun h4 => ?_)
   ·
    have h5 : i < a.members.D.length := by have := of_decide_eq_true h4; omega
    obtain ⟨x, h6⟩ := getX h5
    rw [drop_at h6] at hR
    refine Awp.skip ?_
    refine Awp.seq ?_
    refine Awp.block ?_
    refine Awp.consP C ?_
    refine rvP C (.pv (.lit (.int .i64 (i : Int)))) ?_
    refine rvP C (.pv (.lit (.int .i64 (i : Int)))) ?_
    refine rvc_nil ?_
    refine Awp.consP C ?_
    refine rvP C (.ptr 2 1) ?_
    refine rvP C (sS (some a.members.nil) eMember a.members.D) ?_
    refine rvP C (.pv (.lit (.int .i64 (i : Int)))) ?_
    refine rvc_un (rexec_idxS C rfl rfl rfl rfl rfl rfl x (Int.natCast_nonneg _) h6 ?_)
    refine rvP C (.agg [.pv (.lit (.int .i64 x.node)), .pv (.lit (.int .i64 x.site)), .pv (.lit (.bool x.fresh))]) ?_
    refine rvP C (.ptr 3 1) ?_
    refine rvP C (sS (some b.members.nil) eMember b.members.D) ?_
    refine rvP C (.pv (.lit (.int .i64 (i : Int)))) ?_
    have h7 : b.members.D[(i : Int).toNat]? = some b.members.D[(i : Int).toNat]! := getE (by have := eq_of_bne_false h1; have := eq_of_bne_false h2; have := of_decide_eq_true h4; omega)
    refine rvc_un (rexec_idxS C rfl rfl rfl rfl rfl rfl (b.members.D[(i : Int).toNat]!) (Int.natCast_nonneg _) h7 ?_)
    refine rvP C (.agg [.pv (.lit (.int .i64 (b.members.D[(i : Int).toNat]!.node))), .pv (.lit (.int .i64 (b.members.D[(i : Int).toNat]!.site))), .pv (.lit (.bool (b.members.D[(i : Int).toNat]!.fresh)))]) ?_
    refine rvP C (.pv (.lit (.bool (!((x.node == (b.members.D[(i : Int).toNat]!.node)) && ((x.site == (b.members.D[(i : Int).toNat]!.site)) && ((x.fresh == (b.members.D[(i : Int).toNat]!.fresh)) && true))))))) ?_
    refine rvc_nil ?_
    refine Awp.cond (b := (!((x.node == (b.members.D[(i : Int).toNat]!.node)) && ((x.site == (b.members.D[(i : Int).toNat]!.site)) && ((x.fresh == (b.members.D[(i : Int).toNat]!.fresh)) && true))))) rfl (fun h8 => ?_) (fun h8 => ?_)
    ·
     replace hR := of_true h8 hR
     refine Awp.consP C ?_
     refine rvP C (.pv (.lit (.bool false))) ?_
     refine rvc_nil ?_
     refine Awp.ret ?_
     subst hR
     exact ⟨.inl rfl, rfl⟩
    ·
     replace hR := of_false h8 hR
     refine Awp.skip ?_
     refine Awp.regionP C ?_
     refine rvP C (.pv (.lit (.int .i64 (IntKind.i64.wrap ((i : Int) + 1))))) ?_
     refine rvP C (.pv (.lit (.int .i64 (IntKind.i64.wrap ((i : Int) + 1))))) ?_
     refine rvc_nil ?_
     refine ⟨h5, (), ?_, ?_⟩
     · exact hR
     · exact ⟨fun b => b, WeakerR.ofL (Ks := [2, 3]) hI ⟨⟨rfl, rfl⟩, ⟨rfl, rfl⟩, ⟨rfl, rfl⟩, ⟨lit_cast (wrap_i64 (by omega) (by omega)), rfl⟩, trivial⟩ (okH_cons rfl rfl rfl rfl (okH_cons rfl rfl rfl rfl (okH_nil))) rfl⟩
   ·
    have h5 : ¬ i < a.members.D.length := by have := of_decide_eq_false h4; omega
    rw [drop_end h5] at hR
    refine Awp.exit ?_
    refine Awp.consP C ?_
    refine rvP C (.pv (.lit (.bool true))) ?_
    refine rvc_nil ?_
    refine Awp.ret ?_
    subst hR
    exact ⟨.inl rfl, rfl⟩
def cloneMembers (s : (Sl Member)) : (Sl Member) :=
  (bif s.nil then (Sl.mk true []) else (Sl.mk false s.D))
theorem cloneMembers_calls (s : (Sl Member)) (hl1 : s.D.length ≤ 1000000) : PCalls Try.prog 59 [sS (some s.nil) eMember s.D] (sS (some (cloneMembers s).nil) eMember ((cloneMembers s).D)) := by
 generalize hR : cloneMembers s = R
 refine PCalls.of_body tabOk Try.func59 rfl rfl rfl rfl rfl mixed fun E hP C hI => ?_
 refine Awp.consP C ?_
 refine rvP C (sS (some true) eMember []) ?_
 refine rvc_nil ?_
 refine Awp.seq ?_
 refine Awp.consP C ?_
 refine rvP C (sS (some s.nil) eMember s.D) ?_
 refine rvc_un (rexec_eqNil C (f := s.nil) rfl rfl rfl rfl ?_)
 refine rvc_nil ?_
 refine Awp.cond (b := s.nil) rfl (fun h1 => ?_) (fun h1 => ?_)
 ·
  replace hR := of_true h1 hR
  refine Awp.consP C ?_
  refine rvP C (sS (some true) eMember []) ?_
  refine rvc_nil ?_
  refine Awp.ret ?_
  subst hR
  exact ⟨.inl rfl, rfl⟩
 ·
  replace hR := of_false h1 hR
  refine Awp.skip ?_
  refine Awp.consP C ?_
  refine rvc_un (rexec_prim C (δ := { v := .sl 5 0 0 3 true, new := [(5, .cells (encC eMember []))] }) rfl rfl rfl rfl trivial rfl ?_)
  refine rvP C (sS (some s.nil) eMember s.D) ?_
  refine rvc_un (rexec_append C rfl rfl rfl rfl rfl rfl rfl rfl (fun _ h => by cases h) rfl (en := eMember) (D0 := []) (D := s.D) rfl rfl rfl rfl (by first | omega | (simp <;> omega)) (by decide) (nn := s.D.length) (by simp) ?_)
  refine rvP C (.sl 7 0 s.D.length 3 false) ?_
  refine rvc_nil ?_
  refine Awp.freezeW 7 (encL eMember s.D) ?_ [(2, sS (some false) eMember s.D)] [] ?_ ?_ ?_
  · rfl
  · exact ⟨⟨_, rfl, .inl (.inr ⟨_, _, _, rfl, rfl⟩)⟩, trivial⟩
  · exact trivial
  refine Awp.ret ?_
  subst hR
  exact ⟨.inl rfl, rfl⟩
def nodes_l0 : List Member → Nat → Int → Int
  | [], _, s => s
  | x :: xs, i, s => nodes_l0 xs (i + 1) (mWith s x.node)
def nodes (c : Chain) : Int :=
  nodes_l0 c.members.D 0 0
def maskOf_l0 : List Int → Nat → Int → Int
  | [], _, s => s
  | x :: xs, i, s => maskOf_l0 xs (i + 1) (mWith s x)
def maskOf (l : (Sl Int)) : Int :=
  maskOf_l0 l.D 0 0
theorem maskOf_calls (l : (Sl Int)) (hl1 : l.D.length ≤ 1000000) : PCalls Try.prog 81 [sS (some l.nil) (eI .i64) l.D] (.pv (.lit (.int .u64 (maskOf l)))) := by
 generalize hR : maskOf l = R
 refine PCalls.of_body tabOk Try.func81 rfl rfl rfl rfl rfl mixed fun E hP C hI => ?_
 refine Awp.consP C ?_
 refine rvP C (.pv (.lit (.int .u64 0))) ?_
 refine rvc_nil ?_
 refine Awp.consP C ?_
 refine rvP C (.pv (.lit (.int .u64 0))) ?_
 refine rvc_nil ?_
 refine Awp.seq ?_
 refine Awp.consP C ?_
 refine rvP C (sS (some l.nil) (eI .i64) l.D) ?_
 refine rvP C (.pv (.lit (.int .i64 (l.D.length : Int)))) ?_
 refine rvP C (.pv (.lit (.int .i64 0))) ?_
 refine rvc_nil ?_
 refine Awp.block ?_
 refine Awp.forR (σ := Int) (l.D.length) (fun i v => [(3, .pv (.lit (.int .u64 v))), (6, sS (some l.nil) (eI .i64) l.D), (7, .pv (.lit (.int .i64 (l.D.length : Int)))), (8, .pv (.lit (.int .i64 (i : Int))))]) (fun i v => []) [] (fun i v => maskOf_l0 (l.D.drop i) i v = R) 0 ?_ ?_ (fun i s h1 hR => ?_)
 · exact hR
 · exact ⟨fun b => b, WeakerR.ofL (Ks := []) hI ⟨⟨rfl, rfl⟩, ⟨rfl, rfl⟩, ⟨rfl, rfl⟩, ⟨rfl, rfl⟩, trivial⟩ (okH_nil) rfl⟩
 refine Awp.consP C ?_
 refine rvP C (.pv (.lit (.bool (decide ((i : Int) < (l.D.length : Int)))))) ?_
 refine rvc_nil ?_
 refine Awp.seq ?_
 refine Awp.cond (b := (decide ((i : Int) < (l.D.length : Int)))) rfl (fun h2 => ?_) (fun h2 => ?_)
 ·
  have h3 : i < l.D.length := by have := of_decide_eq_true h2; omega
  obtain ⟨x, h4⟩ := getX h3
  rw [drop_at h4] at hR
  refine Awp.skip ?_
  refine Awp.seq ?_
  refine Awp.block ?_
  refine Awp.consP C ?_
  refine rvc_un (rexec_idxS C rfl rfl rfl rfl rfl rfl x (Int.natCast_nonneg _) h4 ?_)
  refine rvP C (.pv (.lit (.int .i64 x))) ?_
  refine rvP C (.pv (.lit (.int .i64 x))) ?_
  refine rvc_nil ?_
  refine Awp.regionP C ?_
  refine rvP C (.pv (.lit (.int .u64 s))) ?_
  refine rvP C (.pv (.lit (.int .i64 x))) ?_
  refine rvc_un (rexec_call hP C rfl rfl rfl (mWith_calls s x) ?_)
  refine rvP C (.pv (.lit (.int .u64 (mWith s x)))) ?_
  refine rvc_nil ?_
  refine Awp.regionP C ?_
  refine rvP C (.pv (.lit (.int .i64 (IntKind.i64.wrap ((i : Int) + 1))))) ?_
  refine rvP C (.pv (.lit (.int .i64 (IntKind.i64.wrap ((i : Int) + 1))))) ?_
  refine rvc_nil ?_
  refine ⟨h3, (mWith s x), ?_, ?_⟩
  · exact hR
  · exact ⟨fun b => b, WeakerR.ofL (Ks := []) hI ⟨⟨rfl, rfl⟩, ⟨rfl, rfl⟩, ⟨rfl, rfl⟩, ⟨lit_cast (wrap_i64 (by omega) (by omega)), rfl⟩, trivial⟩ (okH_nil) rfl⟩
 ·
  have h3 : ¬ i < l.D.length := by have := of_decide_eq_false h2; omega
  rw [drop_end h3] at hR
  refine Awp.exit ?_
  refine Awp.consP C ?_
  refine rvP C (.pv (.lit (.int .u64 s))) ?_
  refine rvP C (.pv (.lit (.int .u64 s))) ?_
  refine rvc_nil ?_
  refine Awp.ret ?_
  subst hR
  exact ⟨.inl rfl, rfl⟩
def without_l0 (c : Chain) (gone : Int) : List Member → Nat → (List Member) → Chain × Int
  | [], _, l => (bif (decide (c.epoch ≥ 1099511627776)) then ((Chain.mk 0 (Sl.mk true [])), 5) else (bif ((l.length : Int) == (c.members.D.length : Int)) then ((Chain.mk 0 (Sl.mk true [])), 81) else (bif ((l.length : Int) == 0) then ((Chain.mk 0 (Sl.mk true [])), 83) else ((after c (Sl.mk l.isEmpty l)), 0))))
  | x :: xs, i, l => (bif (!(mHas gone x.node)) then (bif (decide ((l.length : Int) > 0)) then without_l0 c gone xs (i + 1) (l ++ [x]) else (bif (!x.fresh) then without_l0 c gone xs (i + 1) (l ++ [x]) else without_l0 c gone xs (i + 1) l)) else without_l0 c gone xs (i + 1) l)
def without (c : Chain) (gone : Int) : Chain × Int :=
  without_l0 c gone c.members.D 0 []
theorem without_calls (c : Chain) (gone : Int) (hl1 : c.members.D.length ≤ 1000000) : PCalls Try.prog 80 [.agg [.pv (.lit (.int .i64 c.epoch)), sS (some c.members.nil) eMember c.members.D], .pv (.lit (.int .u64 gone))] (.tup [.agg [.pv (.lit (.int .i64 ((without c gone).1.epoch))), sS (some (without c gone).1.members.nil) eMember ((without c gone).1.members.D)], .pv (.lit (.int .i64 ((without c gone).2)))]) := by
 generalize hR : without c gone = R
 refine PCalls.of_body tabOk Try.func80 rfl rfl rfl rfl rfl mixed fun E hP C hI => ?_
 refine Awp.consP C ?_
 refine rvc_un (rexec_prim C (δ := { v := .ptr 2 0, new := [(2, .cells [.pv (.lit (.int .i64 c.epoch)), sS (some c.members.nil) eMember c.members.D])] }) rfl rfl rfl rfl trivial rfl ?_)
 refine rvc_un (rexec_prim C (δ := { v := .ptr 4 0, new := [(4, .cells [.pv (.lit (.int .i64 0)), sS (some true) eMember []])] }) rfl rfl rfl rfl trivial rfl ?_)
 refine rvP C (.pv (.lit (.int .i64 0))) ?_
 refine rvc_nil ?_
 refine Awp.consP C ?_
 refine rvP C (sS (some true) eMember []) ?_
 refine rvc_nil ?_
 refine Awp.seq ?_
 refine Awp.consP C ?_
 refine rvP C (.ptr 2 1) ?_
 refine rvP C (sS (some c.members.nil) eMember c.members.D) ?_
 refine rvP C (.pv (.lit (.int .i64 (c.members.D.length : Int)))) ?_
 refine rvP C (.pv (.lit (.int .i64 0))) ?_
 refine rvc_nil ?_
 refine Awp.block ?_
 refine Awp.forR (σ := ((List Member))) (c.members.D.length) (fun i v => [(1, .pv (.lit (.int .u64 gone))), (2, .ptr 2 0), (4, .ptr 4 0), (6, grow 900 eMember v), (10, sS (some c.members.nil) eMember c.members.D), (11, .pv (.lit (.int .i64 (c.members.D.length : Int)))), (12, .pv (.lit (.int .i64 (i : Int))))]) (fun i v => (growH 900 eMember v ++ ([(2, .cells [.pv (.lit (.int .i64 c.epoch)), sS (some c.members.nil) eMember c.members.D]), (4, .cells [.pv (.lit (.int .i64 0)), sS (some true) eMember []])]))) [2, 4, 900] (fun i v => (without_l0 c gone (c.members.D.drop i) i v = R) ∧ (v.length ≤ i)) [] ?_ ?_ (fun i l h1 hR => ?_)
 · exact ⟨hR, (by first | omega | (simp <;> omega))⟩
 · exact ⟨fun b => b, WeakerR.ofL (Ks := [2, 4, 900]) hI ⟨⟨rfl, rfl⟩, ⟨rfl, rfl⟩, ⟨rfl, rfl⟩, ⟨rfl, rfl⟩, ⟨rfl, rfl⟩, ⟨rfl, rfl⟩, ⟨rfl, rfl⟩, trivial⟩ (okH_grow (fun hne => absurd rfl hne) rfl rfl (okH_cons rfl rfl rfl rfl (okH_cons rfl rfl rfl rfl (okH_nil)))) rfl⟩
 obtain ⟨hR, hi_l⟩ := hR
 replace hi_l : l.length ≤ i := hi_l
 by_cases h2 : l = []
 ·
  refine Awp.wordsR [(1, .pv (.lit (.int .u64 gone))), (2, .ptr 2 0), (4, .ptr 4 0), (6, sS (some l.isEmpty) eMember l), (10, sS (some c.members.nil) eMember c.members.D), (11, .pv (.lit (.int .i64 (c.members.D.length : Int)))), (12, .pv (.lit (.int .i64 (i : Int))))] [(2, .cells [.pv (.lit (.int .i64 c.epoch)), sS (some c.members.nil) eMember c.members.D]), (4, .cells [.pv (.lit (.int .i64 0)), sS (some true) eMember []])] [2, 4] (WeakerR.ofL (Ks := [2, 4]) hI ⟨⟨rfl, rfl⟩, ⟨rfl, rfl⟩, ⟨rfl, rfl⟩, ⟨(by exact grow_at_nil (b := 900) (e := eMember) (l := l) rfl h2), rfl⟩, ⟨rfl, rfl⟩, ⟨rfl, rfl⟩, ⟨rfl, rfl⟩, trivial⟩ (okH_cons (look_nil h2 rfl) rfl rfl rfl (okH_cons (look_nil h2 rfl) rfl rfl rfl (okH_nil))) rfl) ?_
  refine Awp.consP C ?_
  refine rvP C (.pv (.lit (.bool (decide ((i : Int) < (c.members.D.length : Int)))))) ?_
  refine rvc_nil ?_
  refine Awp.seq ?_
  refine Awp.cond (b := (decide ((i : Int) < (c.members.D.length : Int)))) rfl (fun h3 => ?_) (fun h3 => ?_)
  ·
   have h4 : i < c.members.D.length := by have := of_decide_eq_true h3; omega
   obtain ⟨x, h5⟩ := getX h4
   rw [drop_at h5] at hR
   refine Awp.skip ?_
   refine Awp.seq ?_
   refine Awp.block ?_
   refine Awp.consP C ?_
   refine rvc_un (rexec_idxS C rfl rfl rfl rfl rfl rfl x (Int.natCast_nonneg _) h5 ?_)
   refine rvP C (.agg [.pv (.lit (.int .i64 x.node)), .pv (.lit (.int .i64 x.site)), .pv (.lit (.bool x.fresh))]) ?_
   refine rvc_un (rexec_prim C (δ := { v := .ptr 8 0, new := [(8, .cells [.pv (.lit (.int .i64 0)), .pv (.lit (.int .i64 0)), .pv (.lit (.bool false))])] }) rfl rfl rfl rfl trivial rfl ?_)
   refine rvc_un (rexec_prim C (δ := { v := .undef, wr := [(8, some (.cells [.pv (.lit (.int .i64 x.node)), .pv (.lit (.int .i64 x.site)), .pv (.lit (.bool x.fresh))]))] }) rfl rfl rfl rfl trivial rfl ?_)
   refine rvc_nil ?_
   refine Awp.consP C ?_
   refine rvP C (.pv (.lit (.int .u64 gone))) ?_
   refine rvP C (.ptr 8 0) ?_
   refine rvP C (.pv (.lit (.int .i64 x.node))) ?_
   refine rvc_un (rexec_call hP C rfl rfl rfl (mHas_calls gone x.node) ?_)
   refine rvP C (.pv (.lit (.bool (!(mHas gone x.node))))) ?_
   refine rvP C (.pv (.lit (.bool (!(mHas gone x.node))))) ?_
   refine rvc_case 21 (!(mHas gone x.node)) rfl (fun h6 => ?_) (fun h6 => ?_)
   ·
    replace hR := of_true h6 hR
    refine rvO C (sS (some l.isEmpty) eMember l) ?_
    refine rvO C (.pv (.lit (.int .i64 (l.length : Int)))) ?_
    refine rvO C (.pv (.lit (.bool (decide ((l.length : Int) > 0))))) ?_
    refine rvO C (.pv (.lit (.bool (decide ((l.length : Int) > 0))))) ?_
    refine rvc_case 25 (decide ((l.length : Int) > 0)) rfl (fun h7 => ?_) (fun h7 => ?_)
    ·
     replace hR := of_true h7 hR
     refine rvS ?_
     refine rvS ?_
     refine rvS ?_
     refine rvO C (.pv (.lit (.bool true))) ?_
     refine rvP C (.pv (.lit (.bool true))) ?_
     refine rvc_nil ?_
     refine Awp.condT (b := true) rfl rfl ?_
     refine Awp.regionP C ?_
     refine rvP C (sS (some l.isEmpty) eMember l) ?_
     refine rvP C (.agg [.pv (.lit (.int .i64 x.node)), .pv (.lit (.int .i64 x.site)), .pv (.lit (.bool x.fresh))]) ?_
     refine rvc_un (rexec_buildSliceF C eMember [x] rfl rfl rfl rfl rfl rfl rfl (by decide) rfl ?_)
     refine rvc_un (rexec_appendG C rfl rfl rfl rfl rfl rfl rfl rfl (fun _ h => by cases h) rfl (en := eMember) (l := l) (D := [x]) rfl rfl h2 (by rw [h2]; rfl) (by simp) (by have := of_decide_eq_true h3; have := of_decide_eq_true h7; first | omega | (simp <;> omega)) (by decide) (nn := (l ++ [x]).length) (by simp) ?_)
     refine rvP C (.sl 34 0 ((l ++ [x]).length) 3 false) ?_
     refine rvc_nil ?_
     refine Awp.regionP C ?_
     refine rvP C (.pv (.lit (.int .i64 (IntKind.i64.wrap ((i : Int) + 1))))) ?_
     refine rvP C (.pv (.lit (.int .i64 (IntKind.i64.wrap ((i : Int) + 1))))) ?_
     refine rvc_nil ?_
     refine ⟨h4, (l ++ [x]), ?_, ?_⟩
     · exact ⟨hR, (by first | omega | (simp <;> omega))⟩
     · exact ⟨fun b => bif b == 900 then 34 else (fun b => b) b, WeakerR.ofL (Ks := [2, 4, 900]) hI ⟨⟨rfl, rfl⟩, ⟨rfl, rfl⟩, ⟨rfl, rfl⟩, ⟨grow_to rfl rfl app_ne rfl rfl, grow_within rfl⟩, ⟨rfl, rfl⟩, ⟨rfl, rfl⟩, ⟨lit_cast (wrap_i64 (by omega) (by omega)), rfl⟩, trivial⟩ (okH_grow (fun _ => rfl) rfl rfl (okH_cons rfl rfl rfl rfl (okH_cons rfl rfl rfl rfl (okH_nil)))) rfl⟩
    ·
     replace hR := of_false h7 hR
     refine rvO C (.ptr 8 2) ?_
     refine rvO C (.pv (.lit (.bool x.fresh))) ?_
     refine rvO C (.pv (.lit (.bool (!x.fresh)))) ?_
     refine rvO C (.pv (.lit (.bool (!x.fresh)))) ?_
     refine rvP C (.pv (.lit (.bool (!x.fresh)))) ?_
     refine rvc_nil ?_
     refine Awp.cond (b := (!x.fresh)) rfl (fun h8 => ?_) (fun h8 => ?_)
     ·
      replace hR := of_true h8 hR
      refine Awp.regionP C ?_
      refine rvP C (sS (some l.isEmpty) eMember l) ?_
      refine rvP C (.agg [.pv (.lit (.int .i64 x.node)), .pv (.lit (.int .i64 x.site)), .pv (.lit (.bool x.fresh))]) ?_
      refine rvc_un (rexec_buildSliceF C eMember [x] rfl rfl rfl rfl rfl rfl rfl (by decide) rfl ?_)
      refine rvc_un (rexec_appendG C rfl rfl rfl rfl rfl rfl rfl rfl (fun _ h => by cases h) rfl (en := eMember) (l := l) (D := [x]) rfl rfl h2 (by rw [h2]; rfl) (by simp) (by have := of_decide_eq_true h3; have := of_decide_eq_false h7; first | omega | (simp <;> omega)) (by decide) (nn := (l ++ [x]).length) (by simp) ?_)
      refine rvP C (.sl 34 0 ((l ++ [x]).length) 3 false) ?_
      refine rvc_nil ?_
      refine Awp.regionP C ?_
      refine rvP C (.pv (.lit (.int .i64 (IntKind.i64.wrap ((i : Int) + 1))))) ?_
      refine rvP C (.pv (.lit (.int .i64 (IntKind.i64.wrap ((i : Int) + 1))))) ?_
      refine rvc_nil ?_
      refine ⟨h4, (l ++ [x]), ?_, ?_⟩
      · exact ⟨hR, (by first | omega | (simp <;> omega))⟩
      · exact ⟨fun b => bif b == 900 then 34 else (fun b => b) b, WeakerR.ofL (Ks := [2, 4, 900]) hI ⟨⟨rfl, rfl⟩, ⟨rfl, rfl⟩, ⟨rfl, rfl⟩, ⟨grow_to rfl rfl app_ne rfl rfl, grow_within rfl⟩, ⟨rfl, rfl⟩, ⟨rfl, rfl⟩, ⟨lit_cast (wrap_i64 (by omega) (by omega)), rfl⟩, trivial⟩ (okH_grow (fun _ => rfl) rfl rfl (okH_cons rfl rfl rfl rfl (okH_cons rfl rfl rfl rfl (okH_nil)))) rfl⟩
     ·
      replace hR := of_false h8 hR
      refine Awp.skip ?_
      refine Awp.regionP C ?_
      refine rvP C (.pv (.lit (.int .i64 (IntKind.i64.wrap ((i : Int) + 1))))) ?_
      refine rvP C (.pv (.lit (.int .i64 (IntKind.i64.wrap ((i : Int) + 1))))) ?_
      refine rvc_nil ?_
      refine ⟨h4, l, ?_, ?_⟩
      · exact ⟨hR, (by first | omega | (simp <;> omega))⟩
      · exact ⟨fun b => b, WeakerR.ofL (Ks := [2, 4, 900]) hI ⟨⟨rfl, rfl⟩, ⟨rfl, rfl⟩, ⟨rfl, rfl⟩, ⟨grow_to_nil rfl h2 (.inr rfl), grow_within rfl⟩, ⟨rfl, rfl⟩, ⟨rfl, rfl⟩, ⟨lit_cast (wrap_i64 (by omega) (by omega)), rfl⟩, trivial⟩ (okH_grow (fun hne => absurd h2 hne) rfl rfl (okH_cons rfl rfl rfl rfl (okH_cons rfl rfl rfl rfl (okH_nil)))) rfl⟩
   ·
    replace hR := of_false h6 hR
    refine rvS ?_
    refine rvS ?_
    refine rvS ?_
    refine rvS ?_
    refine rvc_shutU rfl rfl rfl ?_
    refine rvc_shutU rfl rfl rfl ?_
    refine rvc_shutU rfl rfl rfl ?_
    refine rvS ?_
    refine rvP C (.pv (.lit (.bool false))) ?_
    refine rvc_nil ?_
    refine Awp.condF (b := false) rfl rfl ?_
    refine Awp.skip ?_
    refine Awp.regionP C ?_
    refine rvP C (.pv (.lit (.int .i64 (IntKind.i64.wrap ((i : Int) + 1))))) ?_
    refine rvP C (.pv (.lit (.int .i64 (IntKind.i64.wrap ((i : Int) + 1))))) ?_
    refine rvc_nil ?_
    refine ⟨h4, l, ?_, ?_⟩
    · exact ⟨hR, (by first | omega | (simp <;> omega))⟩
    · exact ⟨fun b => b, WeakerR.ofL (Ks := [2, 4, 900]) hI ⟨⟨rfl, rfl⟩, ⟨rfl, rfl⟩, ⟨rfl, rfl⟩, ⟨grow_to_nil rfl h2 (.inr rfl), grow_within rfl⟩, ⟨rfl, rfl⟩, ⟨rfl, rfl⟩, ⟨lit_cast (wrap_i64 (by omega) (by omega)), rfl⟩, trivial⟩ (okH_grow (fun hne => absurd h2 hne) rfl rfl (okH_cons rfl rfl rfl rfl (okH_cons rfl rfl rfl rfl (okH_nil)))) rfl⟩
  ·
   have h4 : ¬ i < c.members.D.length := by have := of_decide_eq_false h3; omega
   rw [drop_end h4] at hR
   refine Awp.exit ?_
   refine Awp.seq ?_
   refine Awp.block ?_
   refine Awp.consP C ?_
   refine rvP C (.ptr 2 0) ?_
   refine rvP C (.pv (.lit (.int .i64 c.epoch))) ?_
   refine rvP C (.pv (.lit (.bool (decide (c.epoch ≥ 1099511627776))))) ?_
   refine rvP C (.pv (.lit (.bool (decide (c.epoch ≥ 1099511627776))))) ?_
   refine rvc_nil ?_
   refine Awp.cond (b := (decide (c.epoch ≥ 1099511627776))) rfl (fun h9 => ?_) (fun h9 => ?_)
   ·
    replace hR := of_true h9 hR
    refine Awp.consP C ?_
    refine rvP C (.agg [.pv (.lit (.int .i64 0)), sS (some true) eMember []]) ?_
    refine rvc_un (rexec_prim C (δ := { v := .undef, wr := [(4, some (.cells [.pv (.lit (.int .i64 0)), sS (some true) eMember []]))] }) rfl rfl rfl rfl trivial rfl ?_)
    refine rvP C (.pv (.lit (.int .i64 5))) ?_
    refine rvc_nil ?_
    refine Awp.ret ?_
    subst hR
    exact ⟨.inl rfl, rfl⟩
   ·
    replace hR := of_false h9 hR
    refine Awp.consP C ?_
    refine rvP C (sS (some l.isEmpty) eMember l) ?_
    refine rvP C (.pv (.lit (.int .i64 (l.length : Int)))) ?_
    refine rvP C (.ptr 2 1) ?_
    refine rvP C (sS (some c.members.nil) eMember c.members.D) ?_
    refine rvP C (.pv (.lit (.int .i64 (c.members.D.length : Int)))) ?_
    refine rvP C (.pv (.lit (.bool ((l.length : Int) == (c.members.D.length : Int))))) ?_
    refine rvP C (.pv (.lit (.bool ((l.length : Int) == (c.members.D.length : Int))))) ?_
    refine rvc_nil ?_
    refine Awp.cond (b := ((l.length : Int) == (c.members.D.length : Int))) rfl (fun h10 => ?_) (fun h10 => ?_)
    ·
     replace hR := of_true h10 hR
     refine Awp.consP C ?_
     refine rvP C (.agg [.pv (.lit (.int .i64 0)), sS (some true) eMember []]) ?_
     refine rvc_un (rexec_prim C (δ := { v := .undef, wr := [(4, some (.cells [.pv (.lit (.int .i64 0)), sS (some true) eMember []]))] }) rfl rfl rfl rfl trivial rfl ?_)
     refine rvP C (.pv (.lit (.int .i64 81))) ?_
     refine rvc_nil ?_
     refine Awp.ret ?_
     subst hR
     exact ⟨.inl rfl, rfl⟩
    ·
     replace hR := of_false h10 hR
     refine Awp.consP C ?_
     refine rvP C (sS (some l.isEmpty) eMember l) ?_
     refine rvP C (.pv (.lit (.int .i64 (l.length : Int)))) ?_
     refine rvP C (.pv (.lit (.bool ((l.length : Int) == 0)))) ?_
     refine rvP C (.pv (.lit (.bool ((l.length : Int) == 0)))) ?_
     refine rvc_nil ?_
     refine Awp.cond (b := ((l.length : Int) == 0)) rfl (fun h11 => ?_) (fun h11 => ?_)
     ·
      replace hR := of_true h11 hR
      refine Awp.consP C ?_
      refine rvP C (.agg [.pv (.lit (.int .i64 0)), sS (some true) eMember []]) ?_
      refine rvc_un (rexec_prim C (δ := { v := .undef, wr := [(4, some (.cells [.pv (.lit (.int .i64 0)), sS (some true) eMember []]))] }) rfl rfl rfl rfl trivial rfl ?_)
      refine rvP C (.pv (.lit (.int .i64 83))) ?_
      refine rvc_nil ?_
      refine Awp.ret ?_
      subst hR
      exact ⟨.inl rfl, rfl⟩
     ·
      replace hR := of_false h11 hR
      refine Awp.skip ?_
      refine Awp.consP C ?_
      refine rvP C (.agg [.pv (.lit (.int .i64 c.epoch)), sS (some c.members.nil) eMember c.members.D]) ?_
      refine rvP C (sS (some l.isEmpty) eMember l) ?_
      refine rvc_un (rexec_call hP C rfl rfl rfl (after_calls c (Sl.mk l.isEmpty l)) ?_)
      refine rvc_un (rexec_prim C (δ := { v := .undef, wr := [(4, some (.cells [.pv (.lit (.int .i64 ((after c (Sl.mk l.isEmpty l)).epoch))), sS (some (after c (Sl.mk l.isEmpty l)).members.nil) eMember ((after c (Sl.mk l.isEmpty l)).members.D)]))] }) rfl rfl rfl rfl trivial rfl ?_)
      refine rvP C (.pv (.lit (.int .i64 0))) ?_
      refine rvc_nil ?_
      refine Awp.ret ?_
      subst hR
      exact ⟨.inl rfl, rfl⟩
 ·
  refine Awp.wordsR [(1, .pv (.lit (.int .u64 gone))), (2, .ptr 2 0), (4, .ptr 4 0), (6, .sl 900 0 l.length 3 false), (10, sS (some c.members.nil) eMember c.members.D), (11, .pv (.lit (.int .i64 (c.members.D.length : Int)))), (12, .pv (.lit (.int .i64 (i : Int))))] [(900, .cells (encC eMember l)), (2, .cells [.pv (.lit (.int .i64 c.epoch)), sS (some c.members.nil) eMember c.members.D]), (4, .cells [.pv (.lit (.int .i64 0)), sS (some true) eMember []])] [2, 4, 900] (WeakerR.ofL (Ks := [2, 4, 900]) hI ⟨⟨rfl, rfl⟩, ⟨rfl, rfl⟩, ⟨rfl, rfl⟩, ⟨(by exact grow_at_cons (b := 900) (b' := 900) (e := eMember) (l := l) rfl h2 rfl rfl rfl), rfl⟩, ⟨rfl, rfl⟩, ⟨rfl, rfl⟩, ⟨rfl, rfl⟩, trivial⟩ (okH_list (look_cons h2 rfl) rfl rfl (okH_cons (look_cons h2 rfl) rfl rfl rfl (okH_cons (look_cons h2 rfl) rfl rfl rfl (okH_nil)))) rfl) ?_
  refine Awp.consP C ?_
  refine rvP C (.pv (.lit (.bool (decide ((i : Int) < (c.members.D.length : Int)))))) ?_
  refine rvc_nil ?_
  refine Awp.seq ?_
  refine Awp.cond (b := (decide ((i : Int) < (c.members.D.length : Int)))) rfl (fun h12 => ?_) (fun h12 => ?_)
  ·
   have h13 : i < c.members.D.length := by have := of_decide_eq_true h12; omega
   obtain ⟨x, h14⟩ := getX h13
   rw [drop_at h14] at hR
   refine Awp.skip ?_
   refine Awp.seq ?_
   refine Awp.block ?_
   refine Awp.consP C ?_
   refine rvc_un (rexec_idxS C rfl rfl rfl rfl rfl rfl x (Int.natCast_nonneg _) h14 ?_)
   refine rvP C (.agg [.pv (.lit (.int .i64 x.node)), .pv (.lit (.int .i64 x.site)), .pv (.lit (.bool x.fresh))]) ?_
   refine rvc_un (rexec_prim C (δ := { v := .ptr 8 0, new := [(8, .cells [.pv (.lit (.int .i64 0)), .pv (.lit (.int .i64 0)), .pv (.lit (.bool false))])] }) rfl rfl rfl rfl trivial rfl ?_)
   refine rvc_un (rexec_prim C (δ := { v := .undef, wr := [(8, some (.cells [.pv (.lit (.int .i64 x.node)), .pv (.lit (.int .i64 x.site)), .pv (.lit (.bool x.fresh))]))] }) rfl rfl rfl rfl trivial rfl ?_)
   refine rvc_nil ?_
   refine Awp.consP C ?_
   refine rvP C (.pv (.lit (.int .u64 gone))) ?_
   refine rvP C (.ptr 8 0) ?_
   refine rvP C (.pv (.lit (.int .i64 x.node))) ?_
   refine rvc_un (rexec_call hP C rfl rfl rfl (mHas_calls gone x.node) ?_)
   refine rvP C (.pv (.lit (.bool (!(mHas gone x.node))))) ?_
   refine rvP C (.pv (.lit (.bool (!(mHas gone x.node))))) ?_
   refine rvc_case 21 (!(mHas gone x.node)) rfl (fun h15 => ?_) (fun h15 => ?_)
   ·
    replace hR := of_true h15 hR
    refine rvO C (.sl 900 0 l.length 3 false) ?_
    refine rvO C (.pv (.lit (.int .i64 (l.length : Int)))) ?_
    refine rvO C (.pv (.lit (.bool (decide ((l.length : Int) > 0))))) ?_
    refine rvO C (.pv (.lit (.bool (decide ((l.length : Int) > 0))))) ?_
    refine rvc_case 25 (decide ((l.length : Int) > 0)) rfl (fun h16 => ?_) (fun h16 => ?_)
    ·
     replace hR := of_true h16 hR
     refine rvS ?_
     refine rvS ?_
     refine rvS ?_
     refine rvO C (.pv (.lit (.bool true))) ?_
     refine rvP C (.pv (.lit (.bool true))) ?_
     refine rvc_nil ?_
     refine Awp.condT (b := true) rfl rfl ?_
     refine Awp.regionP C ?_
     refine rvP C (.sl 900 0 l.length 3 false) ?_
     refine rvP C (.agg [.pv (.lit (.int .i64 x.node)), .pv (.lit (.int .i64 x.site)), .pv (.lit (.bool x.fresh))]) ?_
     refine rvc_un (rexec_buildSliceF C eMember [x] rfl rfl rfl rfl rfl rfl rfl (by decide) rfl ?_)
     refine rvc_un (rexec_append C rfl rfl rfl rfl rfl rfl rfl rfl (fun _ h => by cases h) rfl (en := eMember) (D0 := l) (D := [x]) rfl rfl rfl rfl (by have := of_decide_eq_true h12; have := of_decide_eq_true h16; first | omega | (simp <;> omega)) (by decide) (nn := (l ++ [x]).length) (by simp) ?_)
     refine rvP C (.sl 34 0 ((l ++ [x]).length) 3 false) ?_
     refine rvc_nil ?_
     refine Awp.regionP C ?_
     refine rvP C (.pv (.lit (.int .i64 (IntKind.i64.wrap ((i : Int) + 1))))) ?_
     refine rvP C (.pv (.lit (.int .i64 (IntKind.i64.wrap ((i : Int) + 1))))) ?_
     refine rvc_nil ?_
     refine ⟨h13, (l ++ [x]), ?_, ?_⟩
     · exact ⟨hR, (by first | omega | (simp <;> omega))⟩
     · exact ⟨fun b => bif b == 900 then 34 else (fun b => b) b, WeakerR.ofL (Ks := [2, 4, 900]) hI ⟨⟨rfl, rfl⟩, ⟨rfl, rfl⟩, ⟨rfl, rfl⟩, ⟨grow_to rfl rfl app_ne rfl rfl, grow_within rfl⟩, ⟨rfl, rfl⟩, ⟨rfl, rfl⟩, ⟨lit_cast (wrap_i64 (by omega) (by omega)), rfl⟩, trivial⟩ (okH_grow (fun _ => rfl) rfl rfl (okH_cons rfl rfl rfl rfl (okH_cons rfl rfl rfl rfl (okH_nil)))) rfl⟩
    ·
     replace hR := of_false h16 hR
     refine rvO C (.ptr 8 2) ?_
     refine rvO C (.pv (.lit (.bool x.fresh))) ?_
     refine rvO C (.pv (.lit (.bool (!x.fresh)))) ?_
     refine rvO C (.pv (.lit (.bool (!x.fresh)))) ?_
     refine rvP C (.pv (.lit (.bool (!x.fresh)))) ?_
     refine rvc_nil ?_
     refine Awp.cond (b := (!x.fresh)) rfl (fun h17 => ?_) (fun h17 => ?_)
     ·
      replace hR := of_true h17 hR
      refine Awp.regionP C ?_
      refine rvP C (.sl 900 0 l.length 3 false) ?_
      refine rvP C (.agg [.pv (.lit (.int .i64 x.node)), .pv (.lit (.int .i64 x.site)), .pv (.lit (.bool x.fresh))]) ?_
      refine rvc_un (rexec_buildSliceF C eMember [x] rfl rfl rfl rfl rfl rfl rfl (by decide) rfl ?_)
      refine rvc_un (rexec_append C rfl rfl rfl rfl rfl rfl rfl rfl (fun _ h => by cases h) rfl (en := eMember) (D0 := l) (D := [x]) rfl rfl rfl rfl (by have := of_decide_eq_true h12; have := of_decide_eq_false h16; first | omega | (simp <;> omega)) (by decide) (nn := (l ++ [x]).length) (by simp) ?_)
      refine rvP C (.sl 34 0 ((l ++ [x]).length) 3 false) ?_
      refine rvc_nil ?_
      refine Awp.regionP C ?_
      refine rvP C (.pv (.lit (.int .i64 (IntKind.i64.wrap ((i : Int) + 1))))) ?_
      refine rvP C (.pv (.lit (.int .i64 (IntKind.i64.wrap ((i : Int) + 1))))) ?_
      refine rvc_nil ?_
      refine ⟨h13, (l ++ [x]), ?_, ?_⟩
      · exact ⟨hR, (by first | omega | (simp <;> omega))⟩
      · exact ⟨fun b => bif b == 900 then 34 else (fun b => b) b, WeakerR.ofL (Ks := [2, 4, 900]) hI ⟨⟨rfl, rfl⟩, ⟨rfl, rfl⟩, ⟨rfl, rfl⟩, ⟨grow_to rfl rfl app_ne rfl rfl, grow_within rfl⟩, ⟨rfl, rfl⟩, ⟨rfl, rfl⟩, ⟨lit_cast (wrap_i64 (by omega) (by omega)), rfl⟩, trivial⟩ (okH_grow (fun _ => rfl) rfl rfl (okH_cons rfl rfl rfl rfl (okH_cons rfl rfl rfl rfl (okH_nil)))) rfl⟩
     ·
      replace hR := of_false h17 hR
      refine Awp.skip ?_
      refine Awp.regionP C ?_
      refine rvP C (.pv (.lit (.int .i64 (IntKind.i64.wrap ((i : Int) + 1))))) ?_
      refine rvP C (.pv (.lit (.int .i64 (IntKind.i64.wrap ((i : Int) + 1))))) ?_
      refine rvc_nil ?_
      refine ⟨h13, l, ?_, ?_⟩
      · exact ⟨hR, (by first | omega | (simp <;> omega))⟩
      · exact ⟨fun b => b, WeakerR.ofL (Ks := [2, 4, 900]) hI ⟨⟨rfl, rfl⟩, ⟨rfl, rfl⟩, ⟨rfl, rfl⟩, ⟨grow_to rfl rfl h2 rfl rfl, grow_within rfl⟩, ⟨rfl, rfl⟩, ⟨rfl, rfl⟩, ⟨lit_cast (wrap_i64 (by omega) (by omega)), rfl⟩, trivial⟩ (okH_grow (fun _ => rfl) rfl rfl (okH_cons rfl rfl rfl rfl (okH_cons rfl rfl rfl rfl (okH_nil)))) rfl⟩
   ·
    replace hR := of_false h15 hR
    refine rvS ?_
    refine rvS ?_
    refine rvS ?_
    refine rvS ?_
    refine rvc_shutU rfl rfl rfl ?_
    refine rvc_shutU rfl rfl rfl ?_
    refine rvc_shutU rfl rfl rfl ?_
    refine rvS ?_
    refine rvP C (.pv (.lit (.bool false))) ?_
    refine rvc_nil ?_
    refine Awp.condF (b := false) rfl rfl ?_
    refine Awp.skip ?_
    refine Awp.regionP C ?_
    refine rvP C (.pv (.lit (.int .i64 (IntKind.i64.wrap ((i : Int) + 1))))) ?_
    refine rvP C (.pv (.lit (.int .i64 (IntKind.i64.wrap ((i : Int) + 1))))) ?_
    refine rvc_nil ?_
    refine ⟨h13, l, ?_, ?_⟩
    · exact ⟨hR, (by first | omega | (simp <;> omega))⟩
    · exact ⟨fun b => b, WeakerR.ofL (Ks := [2, 4, 900]) hI ⟨⟨rfl, rfl⟩, ⟨rfl, rfl⟩, ⟨rfl, rfl⟩, ⟨grow_to rfl rfl h2 rfl rfl, grow_within rfl⟩, ⟨rfl, rfl⟩, ⟨rfl, rfl⟩, ⟨lit_cast (wrap_i64 (by omega) (by omega)), rfl⟩, trivial⟩ (okH_grow (fun _ => rfl) rfl rfl (okH_cons rfl rfl rfl rfl (okH_cons rfl rfl rfl rfl (okH_nil)))) rfl⟩
  ·
   have h13 : ¬ i < c.members.D.length := by have := of_decide_eq_false h12; omega
   rw [drop_end h13] at hR
   refine Awp.exit ?_
   refine Awp.seq ?_
   refine Awp.block ?_
   refine Awp.consP C ?_
   refine rvP C (.ptr 2 0) ?_
   refine rvP C (.pv (.lit (.int .i64 c.epoch))) ?_
   refine rvP C (.pv (.lit (.bool (decide (c.epoch ≥ 1099511627776))))) ?_
   refine rvP C (.pv (.lit (.bool (decide (c.epoch ≥ 1099511627776))))) ?_
   refine rvc_nil ?_
   refine Awp.cond (b := (decide (c.epoch ≥ 1099511627776))) rfl (fun h18 => ?_) (fun h18 => ?_)
   ·
    replace hR := of_true h18 hR
    refine Awp.consP C ?_
    refine rvP C (.agg [.pv (.lit (.int .i64 0)), sS (some true) eMember []]) ?_
    refine rvc_un (rexec_prim C (δ := { v := .undef, wr := [(4, some (.cells [.pv (.lit (.int .i64 0)), sS (some true) eMember []]))] }) rfl rfl rfl rfl trivial rfl ?_)
    refine rvP C (.pv (.lit (.int .i64 5))) ?_
    refine rvc_nil ?_
    refine Awp.ret ?_
    subst hR
    exact ⟨.inl rfl, rfl⟩
   ·
    replace hR := of_false h18 hR
    refine Awp.consP C ?_
    refine rvP C (.sl 900 0 l.length 3 false) ?_
    refine rvP C (.pv (.lit (.int .i64 (l.length : Int)))) ?_
    refine rvP C (.ptr 2 1) ?_
    refine rvP C (sS (some c.members.nil) eMember c.members.D) ?_
    refine rvP C (.pv (.lit (.int .i64 (c.members.D.length : Int)))) ?_
    refine rvP C (.pv (.lit (.bool ((l.length : Int) == (c.members.D.length : Int))))) ?_
    refine rvP C (.pv (.lit (.bool ((l.length : Int) == (c.members.D.length : Int))))) ?_
    refine rvc_nil ?_
    refine Awp.cond (b := ((l.length : Int) == (c.members.D.length : Int))) rfl (fun h19 => ?_) (fun h19 => ?_)
    ·
     replace hR := of_true h19 hR
     refine Awp.consP C ?_
     refine rvP C (.agg [.pv (.lit (.int .i64 0)), sS (some true) eMember []]) ?_
     refine rvc_un (rexec_prim C (δ := { v := .undef, wr := [(4, some (.cells [.pv (.lit (.int .i64 0)), sS (some true) eMember []]))] }) rfl rfl rfl rfl trivial rfl ?_)
     refine rvP C (.pv (.lit (.int .i64 81))) ?_
     refine rvc_nil ?_
     refine Awp.ret ?_
     subst hR
     exact ⟨.inl rfl, rfl⟩
    ·
     replace hR := of_false h19 hR
     refine Awp.consP C ?_
     refine rvP C (.sl 900 0 l.length 3 false) ?_
     refine rvP C (.pv (.lit (.int .i64 (l.length : Int)))) ?_
     refine rvP C (.pv (.lit (.bool ((l.length : Int) == 0)))) ?_
     refine rvP C (.pv (.lit (.bool ((l.length : Int) == 0)))) ?_
     refine rvc_nil ?_
     refine Awp.cond (b := ((l.length : Int) == 0)) rfl (fun h20 => ?_) (fun h20 => ?_)
     ·
      replace hR := of_true h20 hR
      refine Awp.consP C ?_
      refine rvP C (.agg [.pv (.lit (.int .i64 0)), sS (some true) eMember []]) ?_
      refine rvc_un (rexec_prim C (δ := { v := .undef, wr := [(4, some (.cells [.pv (.lit (.int .i64 0)), sS (some true) eMember []]))] }) rfl rfl rfl rfl trivial rfl ?_)
      refine rvP C (.pv (.lit (.int .i64 83))) ?_
      refine rvc_nil ?_
      refine Awp.ret ?_
      subst hR
      exact ⟨.inl rfl, rfl⟩
     ·
      replace hR := of_false h20 hR
      refine Awp.skip ?_
      refine Awp.freezeW 900 (encL eMember l) ?_ [(2, .ptr 2 0), (4, .ptr 4 0), (6, sS (some l.isEmpty) eMember l)] [(2, .cells [.pv (.lit (.int .i64 c.epoch)), sS (some c.members.nil) eMember c.members.D]), (4, .cells [.pv (.lit (.int .i64 0)), sS (some true) eMember []])] ?_ ?_ ?_
      · rfl
      · exact ⟨⟨_, rfl, .inl (.inl rfl)⟩, ⟨_, rfl, .inl (.inl rfl)⟩, ⟨_, rfl, .inl (.inr ⟨_, _, _, rfl, by rw [ne_isEmpty h2]; rfl⟩)⟩, trivial⟩
      · exact ⟨⟨(by show (2 : Nat) ≠ 900; decide), .inl rfl⟩, ⟨(by show (4 : Nat) ≠ 900; decide), .inl rfl⟩, trivial⟩
      refine Awp.consP C ?_
      refine rvP C (.agg [.pv (.lit (.int .i64 c.epoch)), sS (some c.members.nil) eMember c.members.D]) ?_
      refine rvP C (sS (some l.isEmpty) eMember l) ?_
      refine rvc_un (rexec_call hP C rfl rfl rfl (after_calls c (Sl.mk l.isEmpty l)) ?_)
      refine rvc_un (rexec_prim C (δ := { v := .undef, wr := [(4, some (.cells [.pv (.lit (.int .i64 ((after c (Sl.mk l.isEmpty l)).epoch))), sS (some (after c (Sl.mk l.isEmpty l)).members.nil) eMember ((after c (Sl.mk l.isEmpty l)).members.D)]))] }) rfl rfl rfl rfl trivial rfl ?_)
      refine rvP C (.pv (.lit (.int .i64 0))) ?_
      refine rvc_nil ?_
      refine Awp.ret ?_
      subst hR
      exact ⟨.inl rfl, rfl⟩
def firstC_l1 (i : Nat) (kk : (List Member) → (Chain × Int)) : List Member → Nat → (List Member) → Chain × Int
  | [], _, vc1 => kk vc1
  | x :: xs, i1, vc1 => (bif (x.site == (i : Int)) then firstC_l1 i kk xs (i1 + 1) (vc1 ++ [(Member.mk x.node x.site false)]) else firstC_l1 i kk xs (i1 + 1) vc1)
def firstC_l0 (l : (Sl Member)) : Nat → Nat → (List Member) → Chain × Int
  | 0, _, vc => (bif ((vc.length : Int) != (l.D.length : Int)) then ((Chain.mk 0 (Sl.mk true [])), 80) else (bif ((check (Chain.mk 1 (Sl.mk vc.isEmpty vc))) != 0) then ((Chain.mk 0 (Sl.mk true [])), 80) else ((Chain.mk 1 (Sl.mk vc.isEmpty vc)), 0)))
  | k + 1, i, vc => firstC_l1 i (fun vc2 => firstC_l0 l k (i + 1) vc2) l.D 0 vc
def firstC (l : (Sl Member)) : Chain × Int :=
  firstC_l0 l 3 0 []
theorem firstC_calls (l : (Sl Member)) (hl1 : l.D.length ≤ 1000000) : PCalls Try.prog 40 [sS (some l.nil) eMember l.D] (.tup [.agg [.pv (.lit (.int .i64 ((firstC l).1.epoch))), sS (some (firstC l).1.members.nil) eMember ((firstC l).1.members.D)], .pv (.lit (.int .i64 ((firstC l).2)))]) := by
 generalize hR : firstC l = R
 refine PCalls.of_body tabOk Try.func40 rfl rfl rfl rfl rfl mixed fun E hP C hI => ?_
 refine Awp.consP C ?_
 refine rvc_un (rexec_prim C (δ := { v := .ptr 2 0, new := [(2, .cells [.pv (.lit (.int .i64 0)), sS (some true) eMember []])] }) rfl rfl rfl rfl trivial rfl ?_)
 refine rvP C (.pv (.lit (.int .i64 0))) ?_
 refine rvc_nil ?_
 refine Awp.consP C ?_
 refine rvP C (.agg [.pv (.lit (.int .i64 1)), sS (some true) eMember []]) ?_
 refine rvc_un (rexec_prim C (δ := { v := .ptr 4 0, new := [(4, .cells [.pv (.lit (.int .i64 0)), sS (some true) eMember []])] }) rfl rfl rfl rfl trivial rfl ?_)
 refine rvc_un (rexec_prim C (δ := { v := .undef, wr := [(4, some (.cells [.pv (.lit (.int .i64 1)), sS (some true) eMember []]))] }) rfl rfl rfl rfl trivial rfl ?_)
 refine rvc_nil ?_
 refine Awp.seq ?_
 refine Awp.consP C ?_
 refine rvP C (.pv (.lit (.int .i64 0))) ?_
 refine rvc_nil ?_
 refine Awp.block ?_
 refine Awp.forR (σ := ((List Member))) (3) (fun i v => [(0, sS (some l.nil) eMember l.D), (2, .ptr 2 0), (4, .ptr 4 0), (9, .pv (.lit (.int .i64 (i : Int))))]) (fun i v => (growH 900 eMember v ++ ([(2, .cells [.pv (.lit (.int .i64 0)), sS (some true) eMember []]), (4, .cells [.pv (.lit (.int .i64 1)), grow 900 eMember v])]))) [2, 4, 900] (fun i v => (firstC_l0 l (3 - i) i v = R) ∧ (v.length ≤ i * 1000000)) [] ?_ ?_ (fun i vc h1 hR => ?_)
 · exact ⟨hR, (by first | omega | (simp <;> omega))⟩
 · exact ⟨fun b => b, WeakerR.ofL (Ks := [2, 4, 900]) hI ⟨⟨rfl, rfl⟩, ⟨rfl, rfl⟩, ⟨rfl, rfl⟩, ⟨rfl, rfl⟩, trivial⟩ (okH_grow (fun hne => absurd rfl hne) rfl rfl (okH_cons rfl rfl rfl rfl (okH_cons (cellsTo rfl (by exact ⟨rfl, grow_to_nil rfl rfl (.inl rfl), trivial⟩)) rfl rfl (win_cells (by exact ⟨rfl, grow_within rfl, trivial⟩)) (okH_nil)))) rfl⟩
 obtain ⟨hR, hi_vc⟩ := hR
 replace hi_vc : vc.length ≤ i * 1000000 := hi_vc
 by_cases h2 : vc = []
 ·
  refine Awp.wordsR [(0, sS (some l.nil) eMember l.D), (2, .ptr 2 0), (4, .ptr 4 0), (9, .pv (.lit (.int .i64 (i : Int))))] [(2, .cells [.pv (.lit (.int .i64 0)), sS (some true) eMember []]), (4, .cells [.pv (.lit (.int .i64 1)), sS (some vc.isEmpty) eMember vc])] [2, 4] (WeakerR.ofL (Ks := [2, 4]) hI ⟨⟨rfl, rfl⟩, ⟨rfl, rfl⟩, ⟨rfl, rfl⟩, ⟨rfl, rfl⟩, trivial⟩ (okH_cons (look_nil h2 rfl) rfl rfl rfl (okH_cons (cellsTo (look_nil h2 rfl) (by exact ⟨rfl, (by exact grow_at_nil (b := 900) (e := eMember) (l := vc) rfl h2), trivial⟩)) rfl rfl (win_cells (by exact ⟨rfl, rfl, trivial⟩)) (okH_nil))) rfl) ?_
  refine Awp.consP C ?_
  refine rvP C (.pv (.lit (.bool (decide ((i : Int) < 3))))) ?_
  refine rvc_nil ?_
  refine Awp.seq ?_
  refine Awp.cond (b := (decide ((i : Int) < 3))) rfl (fun h3 => ?_) (fun h3 => ?_)
  ·
   have h4 : i < 3 := by have := of_decide_eq_true h3; omega
   obtain ⟨k, h5⟩ : ∃ k, 3 - i = k + 1 := ⟨3 - i - 1, by omega⟩
   rw [h5] at hR
   refine Awp.skip ?_
   refine Awp.seq ?_
   refine Awp.block ?_
   refine Awp.consP C ?_
   refine rvP C (.pv (.lit (.int .i64 (i : Int)))) ?_
   refine rvP C (.pv (.lit (.int .i64 (i : Int)))) ?_
   refine rvc_nil ?_
   refine Awp.consP C ?_
   refine rvP C (sS (some l.nil) eMember l.D) ?_
   refine rvP C (.pv (.lit (.int .i64 (l.D.length : Int)))) ?_
   refine rvP C (.pv (.lit (.int .i64 0))) ?_
   refine rvc_nil ?_
   refine Awp.block ?_
   refine Awp.forR (σ := ((List Member))) (l.D.length) (fun i1 v => [(0, sS (some l.nil) eMember l.D), (2, .ptr 2 0), (4, .ptr 4 0), (5, .pv (.lit (.int .i64 (i : Int)))), (9, .pv (.lit (.int .i64 (i : Int)))), (12, sS (some l.nil) eMember l.D), (13, .pv (.lit (.int .i64 (l.D.length : Int)))), (14, .pv (.lit (.int .i64 (i1 : Int))))]) (fun i1 v => (growH 901 eMember v ++ ([(2, .cells [.pv (.lit (.int .i64 0)), sS (some true) eMember []]), (4, .cells [.pv (.lit (.int .i64 1)), grow 901 eMember v])]))) [2, 4, 901] (fun i1 v => (firstC_l1 i (fun vc1 => firstC_l0 l k (i + 1) vc1) (l.D.drop i1) i1 v = R) ∧ (v.length ≤ vc.length + i1)) vc ?_ ?_ (fun i1 vc1 h6 hR => ?_)
   · exact ⟨hR, (by first | omega | (simp <;> omega))⟩
   · exact ⟨fun b => b, WeakerR.ofL (Ks := [2, 4, 901]) hI ⟨⟨rfl, rfl⟩, ⟨rfl, rfl⟩, ⟨rfl, rfl⟩, ⟨rfl, rfl⟩, ⟨rfl, rfl⟩, ⟨rfl, rfl⟩, ⟨rfl, rfl⟩, ⟨rfl, rfl⟩, trivial⟩ (okH_grow (fun hne => absurd h2 hne) rfl rfl (okH_cons rfl rfl rfl rfl (okH_cons (cellsTo rfl (by exact ⟨rfl, grow_to_nil rfl h2 (.inr rfl), trivial⟩)) rfl rfl (win_cells (by exact ⟨rfl, grow_within rfl, trivial⟩)) (okH_nil)))) rfl⟩
   obtain ⟨hR, hi_vc1⟩ := hR
   replace hi_vc1 : vc1.length ≤ vc.length + i1 := hi_vc1
   by_cases h7 : vc1 = []
   ·
    refine Awp.wordsR [(0, sS (some l.nil) eMember l.D), (2, .ptr 2 0), (4, .ptr 4 0), (5, .pv (.lit (.int .i64 (i : Int)))), (9, .pv (.lit (.int .i64 (i : Int)))), (12, sS (some l.nil) eMember l.D), (13, .pv (.lit (.int .i64 (l.D.length : Int)))), (14, .pv (.lit (.int .i64 (i1 : Int))))] [(2, .cells [.pv (.lit (.int .i64 0)), sS (some true) eMember []]), (4, .cells [.pv (.lit (.int .i64 1)), sS (some vc1.isEmpty) eMember vc1])] [2, 4] (WeakerR.ofL (Ks := [2, 4]) hI ⟨⟨rfl, rfl⟩, ⟨rfl, rfl⟩, ⟨rfl, rfl⟩, ⟨rfl, rfl⟩, ⟨rfl, rfl⟩, ⟨rfl, rfl⟩, ⟨rfl, rfl⟩, ⟨rfl, rfl⟩, trivial⟩ (okH_cons (look_nil h7 rfl) rfl rfl rfl (okH_cons (cellsTo (look_nil h7 rfl) (by exact ⟨rfl, (by exact grow_at_nil (b := 901) (e := eMember) (l := vc1) rfl h7), trivial⟩)) rfl rfl (win_cells (by exact ⟨rfl, rfl, trivial⟩)) (okH_nil))) rfl) ?_
    refine Awp.consP C ?_
    refine rvP C (.pv (.lit (.bool (decide ((i1 : Int) < (l.D.length : Int)))))) ?_
    refine rvc_nil ?_
    refine Awp.seq ?_
    refine Awp.cond (b := (decide ((i1 : Int) < (l.D.length : Int)))) rfl (fun h8 => ?_) (fun h8 => ?_)
    ·
     have h9 : i1 < l.D.length := by have := of_decide_eq_true h8; omega
     obtain ⟨x, h10⟩ := getX h9
     rw [drop_at h10] at hR
     refine Awp.skip ?_
     refine Awp.seq ?_
     refine Awp.block ?_
     refine Awp.consP C ?_
     refine rvc_un (rexec_idxS C rfl rfl rfl rfl rfl rfl x (Int.natCast_nonneg _) h10 ?_)
     refine rvP C (.agg [.pv (.lit (.int .i64 x.node)), .pv (.lit (.int .i64 x.site)), .pv (.lit (.bool x.fresh))]) ?_
     refine rvc_un (rexec_prim C (δ := { v := .ptr 7 0, new := [(7, .cells [.pv (.lit (.int .i64 0)), .pv (.lit (.int .i64 0)), .pv (.lit (.bool false))])] }) rfl rfl rfl rfl trivial rfl ?_)
     refine rvc_un (rexec_prim C (δ := { v := .undef, wr := [(7, some (.cells [.pv (.lit (.int .i64 x.node)), .pv (.lit (.int .i64 x.site)), .pv (.lit (.bool x.fresh))]))] }) rfl rfl rfl rfl trivial rfl ?_)
     refine rvc_nil ?_
     refine Awp.consP C ?_
     refine rvP C (.ptr 7 1) ?_
     refine rvP C (.pv (.lit (.int .i64 x.site))) ?_
     refine rvP C (.pv (.lit (.int .i64 (i : Int)))) ?_
     refine rvP C (.pv (.lit (.bool (x.site == (i : Int))))) ?_
     refine rvc_nil ?_
     refine Awp.cond (b := (x.site == (i : Int))) rfl (fun h11 => ?_) (fun h11 => ?_)
     ·
      replace hR := of_true h11 hR
      refine Awp.consP C ?_
      refine rvP C (.ptr 7 2) ?_
      refine rvc_un (rexec_prim C (δ := { v := .undef, wr := [(7, some (.cells [.pv (.lit (.int .i64 x.node)), .pv (.lit (.int .i64 x.site)), .pv (.lit (.bool false))]))] }) rfl rfl rfl rfl trivial rfl ?_)
      refine rvc_nil ?_
      refine Awp.regionP C ?_
      refine rvP C (.ptr 4 1) ?_
      refine rvP C (sS (some vc1.isEmpty) eMember vc1) ?_
      refine rvP C (.agg [.pv (.lit (.int .i64 x.node)), .pv (.lit (.int .i64 x.site)), .pv (.lit (.bool false))]) ?_
      refine rvc_un (rexec_buildSliceF C eMember [(Member.mk x.node x.site false)] rfl rfl rfl rfl rfl rfl rfl (by decide) rfl ?_)
      refine rvc_un (rexec_appendG C rfl rfl rfl rfl rfl rfl rfl rfl (fun _ h => by cases h) rfl (en := eMember) (l := vc1) (D := [(Member.mk x.node x.site false)]) rfl rfl h7 (by rw [h7]; rfl) (by simp) (by have := of_decide_eq_true h3; have := of_decide_eq_true h8; have := beq_iff_eq.1 h11; first | omega | (simp <;> omega)) (by decide) (nn := (vc1 ++ [(Member.mk x.node x.site false)]).length) (by simp) ?_)
      refine rvP C (.ptr 4 1) ?_
      refine rvc_un (rexec_prim C (δ := { v := .undef, wr := [(4, some (.cells [.pv (.lit (.int .i64 1)), .sl 27 0 ((vc1 ++ [(Member.mk x.node x.site false)]).length) 3 false]))] }) rfl rfl rfl rfl trivial rfl ?_)
      refine rvc_nil ?_
      refine Awp.regionP C ?_
      refine rvP C (.pv (.lit (.int .i64 (IntKind.i64.wrap ((i1 : Int) + 1))))) ?_
      refine rvP C (.pv (.lit (.int .i64 (IntKind.i64.wrap ((i1 : Int) + 1))))) ?_
      refine rvc_nil ?_
      refine ⟨h9, (vc1 ++ [(Member.mk x.node x.site false)]), ?_, ?_⟩
      · exact ⟨hR, (by first | omega | (simp <;> omega))⟩
      · exact ⟨fun b => bif b == 901 then 27 else (fun b => b) b, WeakerR.ofL (Ks := [2, 4, 901]) hI ⟨⟨rfl, rfl⟩, ⟨rfl, rfl⟩, ⟨rfl, rfl⟩, ⟨rfl, rfl⟩, ⟨rfl, rfl⟩, ⟨rfl, rfl⟩, ⟨rfl, rfl⟩, ⟨lit_cast (wrap_i64 (by omega) (by omega)), rfl⟩, trivial⟩ (okH_grow (fun _ => rfl) rfl rfl (okH_cons rfl rfl rfl rfl (okH_cons (cellsTo rfl (by exact ⟨rfl, grow_to rfl rfl app_ne rfl rfl, trivial⟩)) rfl rfl (win_cells (by exact ⟨rfl, grow_within rfl, trivial⟩)) (okH_nil)))) rfl⟩
     ·
      replace hR := of_false h11 hR
      refine Awp.skip ?_
      refine Awp.regionP C ?_
      refine rvP C (.pv (.lit (.int .i64 (IntKind.i64.wrap ((i1 : Int) + 1))))) ?_
      refine rvP C (.pv (.lit (.int .i64 (IntKind.i64.wrap ((i1 : Int) + 1))))) ?_
      refine rvc_nil ?_
      refine ⟨h9, vc1, ?_, ?_⟩
      · exact ⟨hR, (by first | omega | (simp <;> omega))⟩
      · exact ⟨fun b => b, WeakerR.ofL (Ks := [2, 4, 901]) hI ⟨⟨rfl, rfl⟩, ⟨rfl, rfl⟩, ⟨rfl, rfl⟩, ⟨rfl, rfl⟩, ⟨rfl, rfl⟩, ⟨rfl, rfl⟩, ⟨rfl, rfl⟩, ⟨lit_cast (wrap_i64 (by omega) (by omega)), rfl⟩, trivial⟩ (okH_grow (fun hne => absurd h7 hne) rfl rfl (okH_cons rfl rfl rfl rfl (okH_cons (cellsTo rfl (by exact ⟨rfl, grow_to_nil rfl h7 (.inr rfl), trivial⟩)) rfl rfl (win_cells (by exact ⟨rfl, grow_within rfl, trivial⟩)) (okH_nil)))) rfl⟩
    ·
     have h9 : ¬ i1 < l.D.length := by have := of_decide_eq_false h8; omega
     rw [drop_end h9] at hR
     refine Awp.exit ?_
     refine Awp.regionP C ?_
     refine rvP C (.pv (.lit (.int .i64 (IntKind.i64.wrap ((i : Int) + 1))))) ?_
     refine rvP C (.pv (.lit (.int .i64 (IntKind.i64.wrap ((i : Int) + 1))))) ?_
     refine rvc_nil ?_
     refine ⟨h4, vc1, ?_, ?_⟩
     · exact ⟨(by rw [show 3 - (i + 1) = k by omega]; exact hR), (by first | omega | (simp <;> omega))⟩
     · exact ⟨fun b => b, WeakerR.ofL (Ks := [2, 4, 900]) hI ⟨⟨rfl, rfl⟩, ⟨rfl, rfl⟩, ⟨rfl, rfl⟩, ⟨lit_cast (wrap_i64 (by omega) (by omega)), rfl⟩, trivial⟩ (okH_grow (fun hne => absurd h7 hne) rfl rfl (okH_cons rfl rfl rfl rfl (okH_cons (cellsTo rfl (by exact ⟨rfl, grow_to_nil rfl h7 (.inr rfl), trivial⟩)) rfl rfl (win_cells (by exact ⟨rfl, grow_within rfl, trivial⟩)) (okH_nil)))) rfl⟩
   ·
    refine Awp.wordsR [(0, sS (some l.nil) eMember l.D), (2, .ptr 2 0), (4, .ptr 4 0), (5, .pv (.lit (.int .i64 (i : Int)))), (9, .pv (.lit (.int .i64 (i : Int)))), (12, sS (some l.nil) eMember l.D), (13, .pv (.lit (.int .i64 (l.D.length : Int)))), (14, .pv (.lit (.int .i64 (i1 : Int))))] [(901, .cells (encC eMember vc1)), (2, .cells [.pv (.lit (.int .i64 0)), sS (some true) eMember []]), (4, .cells [.pv (.lit (.int .i64 1)), .sl 901 0 vc1.length 3 false])] [2, 4, 901] (WeakerR.ofL (Ks := [2, 4, 901]) hI ⟨⟨rfl, rfl⟩, ⟨rfl, rfl⟩, ⟨rfl, rfl⟩, ⟨rfl, rfl⟩, ⟨rfl, rfl⟩, ⟨rfl, rfl⟩, ⟨rfl, rfl⟩, ⟨rfl, rfl⟩, trivial⟩ (okH_list (look_cons h7 rfl) rfl rfl (okH_cons (look_cons h7 rfl) rfl rfl rfl (okH_cons (cellsTo (look_cons h7 rfl) (by exact ⟨rfl, (by exact grow_at_cons (b := 901) (b' := 901) (e := eMember) (l := vc1) rfl h7 rfl rfl rfl), trivial⟩)) rfl rfl (win_cells (by exact ⟨rfl, rfl, trivial⟩)) (okH_nil)))) rfl) ?_
    refine Awp.consP C ?_
    refine rvP C (.pv (.lit (.bool (decide ((i1 : Int) < (l.D.length : Int)))))) ?_
    refine rvc_nil ?_
    refine Awp.seq ?_
    refine Awp.cond (b := (decide ((i1 : Int) < (l.D.length : Int)))) rfl (fun h12 => ?_) (fun h12 => ?_)
    ·
     have h13 : i1 < l.D.length := by have := of_decide_eq_true h12; omega
     obtain ⟨x, h14⟩ := getX h13
     rw [drop_at h14] at hR
     refine Awp.skip ?_
     refine Awp.seq ?_
     refine Awp.block ?_
     refine Awp.consP C ?_
     refine rvc_un (rexec_idxS C rfl rfl rfl rfl rfl rfl x (Int.natCast_nonneg _) h14 ?_)
     refine rvP C (.agg [.pv (.lit (.int .i64 x.node)), .pv (.lit (.int .i64 x.site)), .pv (.lit (.bool x.fresh))]) ?_
     refine rvc_un (rexec_prim C (δ := { v := .ptr 7 0, new := [(7, .cells [.pv (.lit (.int .i64 0)), .pv (.lit (.int .i64 0)), .pv (.lit (.bool false))])] }) rfl rfl rfl rfl trivial rfl ?_)
     refine rvc_un (rexec_prim C (δ := { v := .undef, wr := [(7, some (.cells [.pv (.lit (.int .i64 x.node)), .pv (.lit (.int .i64 x.site)), .pv (.lit (.bool x.fresh))]))] }) rfl rfl rfl rfl trivial rfl ?_)
     refine rvc_nil ?_
     refine Awp.consP C ?_
     refine rvP C (.ptr 7 1) ?_
     refine rvP C (.pv (.lit (.int .i64 x.site))) ?_
     refine rvP C (.pv (.lit (.int .i64 (i : Int)))) ?_
     refine rvP C (.pv (.lit (.bool (x.site == (i : Int))))) ?_
     refine rvc_nil ?_
     refine Awp.cond (b := (x.site == (i : Int))) rfl (fun h15 => ?_) (fun h15 => ?_)
     ·
      replace hR := of_true h15 hR
      refine Awp.consP C ?_
      refine rvP C (.ptr 7 2) ?_
      refine rvc_un (rexec_prim C (δ := { v := .undef, wr := [(7, some (.cells [.pv (.lit (.int .i64 x.node)), .pv (.lit (.int .i64 x.site)), .pv (.lit (.bool false))]))] }) rfl rfl rfl rfl trivial rfl ?_)
      refine rvc_nil ?_
      refine Awp.regionP C ?_
      refine rvP C (.ptr 4 1) ?_
      refine rvP C (.sl 901 0 vc1.length 3 false) ?_
      refine rvP C (.agg [.pv (.lit (.int .i64 x.node)), .pv (.lit (.int .i64 x.site)), .pv (.lit (.bool false))]) ?_
      refine rvc_un (rexec_buildSliceF C eMember [(Member.mk x.node x.site false)] rfl rfl rfl rfl rfl rfl rfl (by decide) rfl ?_)
      refine rvc_un (rexec_append C rfl rfl rfl rfl rfl rfl rfl rfl (fun _ h => by cases h) rfl (en := eMember) (D0 := vc1) (D := [(Member.mk x.node x.site false)]) rfl rfl rfl rfl (by have := of_decide_eq_true h3; have := of_decide_eq_true h12; have := beq_iff_eq.1 h15; first | omega | (simp <;> omega)) (by decide) (nn := (vc1 ++ [(Member.mk x.node x.site false)]).length) (by simp) ?_)
      refine rvP C (.ptr 4 1) ?_
      refine rvc_un (rexec_prim C (δ := { v := .undef, wr := [(4, some (.cells [.pv (.lit (.int .i64 1)), .sl 27 0 ((vc1 ++ [(Member.mk x.node x.site false)]).length) 3 false]))] }) rfl rfl rfl rfl trivial rfl ?_)
      refine rvc_nil ?_
      refine Awp.regionP C ?_
      refine rvP C (.pv (.lit (.int .i64 (IntKind.i64.wrap ((i1 : Int) + 1))))) ?_
      refine rvP C (.pv (.lit (.int .i64 (IntKind.i64.wrap ((i1 : Int) + 1))))) ?_
      refine rvc_nil ?_
      refine ⟨h13, (vc1 ++ [(Member.mk x.node x.site false)]), ?_, ?_⟩
      · exact ⟨hR, (by first | omega | (simp <;> omega))⟩
      · exact ⟨fun b => bif b == 901 then 27 else (fun b => b) b, WeakerR.ofL (Ks := [2, 4, 901]) hI ⟨⟨rfl, rfl⟩, ⟨rfl, rfl⟩, ⟨rfl, rfl⟩, ⟨rfl, rfl⟩, ⟨rfl, rfl⟩, ⟨rfl, rfl⟩, ⟨rfl, rfl⟩, ⟨lit_cast (wrap_i64 (by omega) (by omega)), rfl⟩, trivial⟩ (okH_grow (fun _ => rfl) rfl rfl (okH_cons rfl rfl rfl rfl (okH_cons (cellsTo rfl (by exact ⟨rfl, grow_to rfl rfl app_ne rfl rfl, trivial⟩)) rfl rfl (win_cells (by exact ⟨rfl, grow_within rfl, trivial⟩)) (okH_nil)))) rfl⟩
     ·
      replace hR := of_false h15 hR
      refine Awp.skip ?_
      refine Awp.regionP C ?_
      refine rvP C (.pv (.lit (.int .i64 (IntKind.i64.wrap ((i1 : Int) + 1))))) ?_
      refine rvP C (.pv (.lit (.int .i64 (IntKind.i64.wrap ((i1 : Int) + 1))))) ?_
      refine rvc_nil ?_
      refine ⟨h13, vc1, ?_, ?_⟩
      · exact ⟨hR, (by first | omega | (simp <;> omega))⟩
      · exact ⟨fun b => b, WeakerR.ofL (Ks := [2, 4, 901]) hI ⟨⟨rfl, rfl⟩, ⟨rfl, rfl⟩, ⟨rfl, rfl⟩, ⟨rfl, rfl⟩, ⟨rfl, rfl⟩, ⟨rfl, rfl⟩, ⟨rfl, rfl⟩, ⟨lit_cast (wrap_i64 (by omega) (by omega)), rfl⟩, trivial⟩ (okH_grow (fun _ => rfl) rfl rfl (okH_cons rfl rfl rfl rfl (okH_cons (cellsTo rfl (by exact ⟨rfl, grow_to rfl rfl h7 rfl rfl, trivial⟩)) rfl rfl (win_cells (by exact ⟨rfl, grow_within rfl, trivial⟩)) (okH_nil)))) rfl⟩
    ·
     have h13 : ¬ i1 < l.D.length := by have := of_decide_eq_false h12; omega
     rw [drop_end h13] at hR
     refine Awp.exit ?_
     refine Awp.regionP C ?_
     refine rvP C (.pv (.lit (.int .i64 (IntKind.i64.wrap ((i : Int) + 1))))) ?_
     refine rvP C (.pv (.lit (.int .i64 (IntKind.i64.wrap ((i : Int) + 1))))) ?_
     refine rvc_nil ?_
     refine ⟨h4, vc1, ?_, ?_⟩
     · exact ⟨(by rw [show 3 - (i + 1) = k by omega]; exact hR), (by first | omega | (simp <;> omega))⟩
     · exact ⟨fun b => bif b == 900 then 901 else (fun b => b) b, WeakerR.ofL (Ks := [2, 4, 900]) hI ⟨⟨rfl, rfl⟩, ⟨rfl, rfl⟩, ⟨rfl, rfl⟩, ⟨lit_cast (wrap_i64 (by omega) (by omega)), rfl⟩, trivial⟩ (okH_grow (fun _ => rfl) rfl rfl (okH_cons rfl rfl rfl rfl (okH_cons (cellsTo rfl (by exact ⟨rfl, grow_to rfl rfl h7 rfl rfl, trivial⟩)) rfl rfl (win_cells (by exact ⟨rfl, grow_within rfl, trivial⟩)) (okH_nil)))) rfl⟩
  ·
   rw [show 3 - i = 0 by have := of_decide_eq_false h3; omega] at hR
   refine Awp.exit ?_
   refine Awp.seq ?_
   refine Awp.consP C ?_
   refine rvP C (.ptr 4 1) ?_
   refine rvP C (sS (some vc.isEmpty) eMember vc) ?_
   refine rvP C (.pv (.lit (.int .i64 (vc.length : Int)))) ?_
   refine rvP C (sS (some l.nil) eMember l.D) ?_
   refine rvP C (.pv (.lit (.int .i64 (l.D.length : Int)))) ?_
   refine rvP C (.pv (.lit (.bool ((vc.length : Int) != (l.D.length : Int))))) ?_
   refine rvP C (.pv (.lit (.bool ((vc.length : Int) != (l.D.length : Int))))) ?_
   refine rvc_case 37 ((vc.length : Int) != (l.D.length : Int)) rfl (fun h16 => ?_) (fun h16 => ?_)
   ·
    replace hR := of_true h16 hR
    refine rvS ?_
    refine rvS ?_
    refine rvS ?_
    refine rvP C (.pv (.lit (.bool true))) ?_
    refine rvc_nil ?_
    refine Awp.condT (b := true) rfl rfl ?_
    refine Awp.consP C ?_
    refine rvP C (.agg [.pv (.lit (.int .i64 0)), sS (some true) eMember []]) ?_
    refine rvc_un (rexec_prim C (δ := { v := .undef, wr := [(2, some (.cells [.pv (.lit (.int .i64 0)), sS (some true) eMember []]))] }) rfl rfl rfl rfl trivial rfl ?_)
    refine rvP C (.pv (.lit (.int .i64 80))) ?_
    refine rvc_nil ?_
    refine Awp.ret ?_
    subst hR
    exact ⟨.inl rfl, rfl⟩
   ·
    replace hR := of_false h16 hR
    refine rvO C (.agg [.pv (.lit (.int .i64 1)), sS (some vc.isEmpty) eMember vc]) ?_
    refine rvc_open rfl rfl rfl (rexec_call hP C rfl rfl rfl (check_calls (Chain.mk 1 (Sl.mk vc.isEmpty vc)) (by show vc.length ≤ 9223372036854775807; have := of_decide_eq_false h3; have := eq_of_bne_false h16; omega)) ?_)
    refine rvO C (.pv (.lit (.bool ((check (Chain.mk 1 (Sl.mk vc.isEmpty vc))) != 0)))) ?_
    refine rvP C (.pv (.lit (.bool ((check (Chain.mk 1 (Sl.mk vc.isEmpty vc))) != 0)))) ?_
    refine rvc_nil ?_
    refine Awp.cond (b := ((check (Chain.mk 1 (Sl.mk vc.isEmpty vc))) != 0)) rfl (fun h17 => ?_) (fun h17 => ?_)
    ·
     replace hR := of_true h17 hR
     refine Awp.consP C ?_
     refine rvP C (.agg [.pv (.lit (.int .i64 0)), sS (some true) eMember []]) ?_
     refine rvc_un (rexec_prim C (δ := { v := .undef, wr := [(2, some (.cells [.pv (.lit (.int .i64 0)), sS (some true) eMember []]))] }) rfl rfl rfl rfl trivial rfl ?_)
     refine rvP C (.pv (.lit (.int .i64 80))) ?_
     refine rvc_nil ?_
     refine Awp.ret ?_
     subst hR
     exact ⟨.inl rfl, rfl⟩
    ·
     replace hR := of_false h17 hR
     refine Awp.skip ?_
     refine Awp.consP C ?_
     refine rvP C (.agg [.pv (.lit (.int .i64 1)), sS (some vc.isEmpty) eMember vc]) ?_
     refine rvc_un (rexec_prim C (δ := { v := .undef, wr := [(2, some (.cells [.pv (.lit (.int .i64 1)), sS (some vc.isEmpty) eMember vc]))] }) rfl rfl rfl rfl trivial rfl ?_)
     refine rvP C (.pv (.lit (.int .i64 0))) ?_
     refine rvc_nil ?_
     refine Awp.ret ?_
     subst hR
     exact ⟨.inl rfl, rfl⟩
 ·
  refine Awp.wordsR [(0, sS (some l.nil) eMember l.D), (2, .ptr 2 0), (4, .ptr 4 0), (9, .pv (.lit (.int .i64 (i : Int))))] [(900, .cells (encC eMember vc)), (2, .cells [.pv (.lit (.int .i64 0)), sS (some true) eMember []]), (4, .cells [.pv (.lit (.int .i64 1)), .sl 900 0 vc.length 3 false])] [2, 4, 900] (WeakerR.ofL (Ks := [2, 4, 900]) hI ⟨⟨rfl, rfl⟩, ⟨rfl, rfl⟩, ⟨rfl, rfl⟩, ⟨rfl, rfl⟩, trivial⟩ (okH_list (look_cons h2 rfl) rfl rfl (okH_cons (look_cons h2 rfl) rfl rfl rfl (okH_cons (cellsTo (look_cons h2 rfl) (by exact ⟨rfl, (by exact grow_at_cons (b := 900) (b' := 900) (e := eMember) (l := vc) rfl h2 rfl rfl rfl), trivial⟩)) rfl rfl (win_cells (by exact ⟨rfl, rfl, trivial⟩)) (okH_nil)))) rfl) ?_
  refine Awp.consP C ?_
  refine rvP C (.pv (.lit (.bool (decide ((i : Int) < 3))))) ?_
  refine rvc_nil ?_
  refine Awp.seq ?_
  refine Awp.cond (b := (decide ((i : Int) < 3))) rfl (fun h18 => ?_) (fun h18 => ?_)
  ·
   have h19 : i < 3 := by have := of_decide_eq_true h18; omega
   obtain ⟨k, h20⟩ : ∃ k, 3 - i = k + 1 := ⟨3 - i - 1, by omega⟩
   rw [h20] at hR
   refine Awp.skip ?_
   refine Awp.seq ?_
   refine Awp.block ?_
   refine Awp.consP C ?_
   refine rvP C (.pv (.lit (.int .i64 (i : Int)))) ?_
   refine rvP C (.pv (.lit (.int .i64 (i : Int)))) ?_
   refine rvc_nil ?_
   refine Awp.consP C ?_
   refine rvP C (sS (some l.nil) eMember l.D) ?_
   refine rvP C (.pv (.lit (.int .i64 (l.D.length : Int)))) ?_
   refine rvP C (.pv (.lit (.int .i64 0))) ?_
   refine rvc_nil ?_
   refine Awp.block ?_
   refine Awp.forR (σ := ((List Member))) (l.D.length) (fun i2 v => [(0, sS (some l.nil) eMember l.D), (2, .ptr 2 0), (4, .ptr 4 0), (5, .pv (.lit (.int .i64 (i : Int)))), (9, .pv (.lit (.int .i64 (i : Int)))), (12, sS (some l.nil) eMember l.D), (13, .pv (.lit (.int .i64 (l.D.length : Int)))), (14, .pv (.lit (.int .i64 (i2 : Int))))]) (fun i2 v => [(2, .cells [.pv (.lit (.int .i64 0)), sS (some true) eMember []]), (4, .cells [.pv (.lit (.int .i64 1)), .sl 902 0 v.length 3 false]), (902, .cells (encC eMember v))]) [2, 4, 902] (fun i2 v => (firstC_l1 i (fun vc2 => firstC_l0 l k (i + 1) vc2) (l.D.drop i2) i2 v = R) ∧ (v ≠ [] ∧ v.length ≤ vc.length + i2)) vc ?_ ?_ (fun i2 vc2 h21 hR => ?_)
   · exact ⟨hR, ⟨h2, (by first | omega | (simp <;> omega))⟩⟩
   · exact ⟨fun b => bif b == 902 then 900 else (fun b => b) b, WeakerR.ofL (Ks := [2, 4, 902]) hI ⟨⟨rfl, rfl⟩, ⟨rfl, rfl⟩, ⟨rfl, rfl⟩, ⟨rfl, rfl⟩, ⟨rfl, rfl⟩, ⟨rfl, rfl⟩, ⟨rfl, rfl⟩, ⟨rfl, rfl⟩, trivial⟩ (okH_cons rfl rfl rfl rfl (okH_cons rfl rfl rfl rfl (okH_list rfl rfl rfl (okH_nil)))) rfl⟩
   obtain ⟨hR, ⟨hn_vc2, hi_vc2⟩⟩ := hR
   replace hi_vc2 : vc2.length ≤ vc.length + i2 := hi_vc2
   refine Awp.consP C ?_
   refine rvP C (.pv (.lit (.bool (decide ((i2 : Int) < (l.D.length : Int)))))) ?_
   refine rvc_nil ?_
   refine Awp.seq ?_
   refine Awp.cond (b := (decide ((i2 : Int) < (l.D.length : Int)))) rfl (fun h22 => ?_) (fun h22 => ?_)
   ·
    have h23 : i2 < l.D.length := by have := of_decide_eq_true h22; omega
    obtain ⟨x1, h24⟩ := getX h23
    rw [drop_at h24] at hR
    refine Awp.skip ?_
    refine Awp.seq ?_
    refine Awp.block ?_
    refine Awp.consP C ?_
    refine rvc_un (rexec_idxS C rfl rfl rfl rfl rfl rfl x1 (Int.natCast_nonneg _) h24 ?_)
    refine rvP C (.agg [.pv (.lit (.int .i64 x1.node)), .pv (.lit (.int .i64 x1.site)), .pv (.lit (.bool x1.fresh))]) ?_
    refine rvc_un (rexec_prim C (δ := { v := .ptr 7 0, new := [(7, .cells [.pv (.lit (.int .i64 0)), .pv (.lit (.int .i64 0)), .pv (.lit (.bool false))])] }) rfl rfl rfl rfl trivial rfl ?_)
    refine rvc_un (rexec_prim C (δ := { v := .undef, wr := [(7, some (.cells [.pv (.lit (.int .i64 x1.node)), .pv (.lit (.int .i64 x1.site)), .pv (.lit (.bool x1.fresh))]))] }) rfl rfl rfl rfl trivial rfl ?_)
    refine rvc_nil ?_
    refine Awp.consP C ?_
    refine rvP C (.ptr 7 1) ?_
    refine rvP C (.pv (.lit (.int .i64 x1.site))) ?_
    refine rvP C (.pv (.lit (.int .i64 (i : Int)))) ?_
    refine rvP C (.pv (.lit (.bool (x1.site == (i : Int))))) ?_
    refine rvc_nil ?_
    refine Awp.cond (b := (x1.site == (i : Int))) rfl (fun h25 => ?_) (fun h25 => ?_)
    ·
     replace hR := of_true h25 hR
     refine Awp.consP C ?_
     refine rvP C (.ptr 7 2) ?_
     refine rvc_un (rexec_prim C (δ := { v := .undef, wr := [(7, some (.cells [.pv (.lit (.int .i64 x1.node)), .pv (.lit (.int .i64 x1.site)), .pv (.lit (.bool false))]))] }) rfl rfl rfl rfl trivial rfl ?_)
     refine rvc_nil ?_
     refine Awp.regionP C ?_
     refine rvP C (.ptr 4 1) ?_
     refine rvP C (.sl 902 0 vc2.length 3 false) ?_
     refine rvP C (.agg [.pv (.lit (.int .i64 x1.node)), .pv (.lit (.int .i64 x1.site)), .pv (.lit (.bool false))]) ?_
     refine rvc_un (rexec_buildSliceF C eMember [(Member.mk x1.node x1.site false)] rfl rfl rfl rfl rfl rfl rfl (by decide) rfl ?_)
     refine rvc_un (rexec_append C rfl rfl rfl rfl rfl rfl rfl rfl (fun _ h => by cases h) rfl (en := eMember) (D0 := vc2) (D := [(Member.mk x1.node x1.site false)]) rfl rfl rfl rfl (by have := of_decide_eq_true h18; have := of_decide_eq_true h22; have := beq_iff_eq.1 h25; first | omega | (simp <;> omega)) (by decide) (nn := (vc2 ++ [(Member.mk x1.node x1.site false)]).length) (by simp) ?_)
     refine rvP C (.ptr 4 1) ?_
     refine rvc_un (rexec_prim C (δ := { v := .undef, wr := [(4, some (.cells [.pv (.lit (.int .i64 1)), .sl 27 0 ((vc2 ++ [(Member.mk x1.node x1.site false)]).length) 3 false]))] }) rfl rfl rfl rfl trivial rfl ?_)
     refine rvc_nil ?_
     refine Awp.regionP C ?_
     refine rvP C (.pv (.lit (.int .i64 (IntKind.i64.wrap ((i2 : Int) + 1))))) ?_
     refine rvP C (.pv (.lit (.int .i64 (IntKind.i64.wrap ((i2 : Int) + 1))))) ?_
     refine rvc_nil ?_
     refine ⟨h23, (vc2 ++ [(Member.mk x1.node x1.site false)]), ?_, ?_⟩
     · exact ⟨hR, ⟨app_ne, (by first | omega | (simp <;> omega))⟩⟩
     · exact ⟨fun b => bif b == 902 then 27 else (fun b => b) b, WeakerR.ofL (Ks := [2, 4, 902]) hI ⟨⟨rfl, rfl⟩, ⟨rfl, rfl⟩, ⟨rfl, rfl⟩, ⟨rfl, rfl⟩, ⟨rfl, rfl⟩, ⟨rfl, rfl⟩, ⟨rfl, rfl⟩, ⟨lit_cast (wrap_i64 (by omega) (by omega)), rfl⟩, trivial⟩ (okH_cons rfl rfl rfl rfl (okH_cons rfl rfl rfl rfl (okH_list rfl rfl rfl (okH_nil)))) rfl⟩
    ·
     replace hR := of_false h25 hR
     refine Awp.skip ?_
     refine Awp.regionP C ?_
     refine rvP C (.pv (.lit (.int .i64 (IntKind.i64.wrap ((i2 : Int) + 1))))) ?_
     refine rvP C (.pv (.lit (.int .i64 (IntKind.i64.wrap ((i2 : Int) + 1))))) ?_
     refine rvc_nil ?_
     refine ⟨h23, vc2, ?_, ?_⟩
     · exact ⟨hR, ⟨hn_vc2, (by first | omega | (simp <;> omega))⟩⟩
     · exact ⟨fun b => b, WeakerR.ofL (Ks := [2, 4, 902]) hI ⟨⟨rfl, rfl⟩, ⟨rfl, rfl⟩, ⟨rfl, rfl⟩, ⟨rfl, rfl⟩, ⟨rfl, rfl⟩, ⟨rfl, rfl⟩, ⟨rfl, rfl⟩, ⟨lit_cast (wrap_i64 (by omega) (by omega)), rfl⟩, trivial⟩ (okH_cons rfl rfl rfl rfl (okH_cons rfl rfl rfl rfl (okH_list rfl rfl rfl (okH_nil)))) rfl⟩
   ·
    have h23 : ¬ i2 < l.D.length := by have := of_decide_eq_false h22; omega
    rw [drop_end h23] at hR
    refine Awp.exit ?_
    refine Awp.regionP C ?_
    refine rvP C (.pv (.lit (.int .i64 (IntKind.i64.wrap ((i : Int) + 1))))) ?_
    refine rvP C (.pv (.lit (.int .i64 (IntKind.i64.wrap ((i : Int) + 1))))) ?_
    refine rvc_nil ?_
    refine ⟨h19, vc2, ?_, ?_⟩
    · exact ⟨(by rw [show 3 - (i + 1) = k by omega]; exact hR), (by first | omega | (simp <;> omega))⟩
    · exact ⟨fun b => bif b == 900 then 902 else (fun b => b) b, WeakerR.ofL (Ks := [2, 4, 900]) hI ⟨⟨rfl, rfl⟩, ⟨rfl, rfl⟩, ⟨rfl, rfl⟩, ⟨lit_cast (wrap_i64 (by omega) (by omega)), rfl⟩, trivial⟩ (okH_grow (fun _ => rfl) rfl rfl (okH_cons rfl rfl rfl rfl (okH_cons (cellsTo rfl (by exact ⟨rfl, grow_to rfl rfl hn_vc2 rfl rfl, trivial⟩)) rfl rfl (win_cells (by exact ⟨rfl, grow_within rfl, trivial⟩)) (okH_nil)))) rfl⟩
  ·
   rw [show 3 - i = 0 by have := of_decide_eq_false h18; omega] at hR
   refine Awp.exit ?_
   refine Awp.seq ?_
   refine Awp.freezeW 900 (encL eMember vc) ?_ [(0, sS (some l.nil) eMember l.D), (2, .ptr 2 0), (4, .ptr 4 0)] [(2, .cells [.pv (.lit (.int .i64 0)), sS (some true) eMember []]), (4, .cells [.pv (.lit (.int .i64 1)), sS (some vc.isEmpty) eMember vc])] ?_ ?_ ?_
   · rfl
   · exact ⟨⟨_, rfl, .inl (.inl rfl)⟩, ⟨_, rfl, .inl (.inl rfl)⟩, ⟨_, rfl, .inl (.inl rfl)⟩, trivial⟩
   · exact ⟨⟨(by show (2 : Nat) ≠ 900; decide), .inl rfl⟩, ⟨(by show (4 : Nat) ≠ 900; decide), .inr ⟨_, _, rfl, rfl, ⟨.inl rfl, .inr ⟨_, _, _, rfl, by rw [ne_isEmpty h2]; rfl⟩, trivial⟩⟩⟩, trivial⟩
   refine Awp.consP C ?_
   refine rvP C (.ptr 4 1) ?_
   refine rvP C (sS (some vc.isEmpty) eMember vc) ?_
   refine rvP C (.pv (.lit (.int .i64 (vc.length : Int)))) ?_
   refine rvP C (sS (some l.nil) eMember l.D) ?_
   refine rvP C (.pv (.lit (.int .i64 (l.D.length : Int)))) ?_
   refine rvP C (.pv (.lit (.bool ((vc.length : Int) != (l.D.length : Int))))) ?_
   refine rvP C (.pv (.lit (.bool ((vc.length : Int) != (l.D.length : Int))))) ?_
   refine rvc_case 37 ((vc.length : Int) != (l.D.length : Int)) rfl (fun h26 => ?_) (fun h26 => ?_)
   ·
    replace hR := of_true h26 hR
    refine rvS ?_
    refine rvS ?_
    refine rvS ?_
    refine rvP C (.pv (.lit (.bool true))) ?_
    refine rvc_nil ?_
    refine Awp.condT (b := true) rfl rfl ?_
    refine Awp.consP C ?_
    refine rvP C (.agg [.pv (.lit (.int .i64 0)), sS (some true) eMember []]) ?_
    refine rvc_un (rexec_prim C (δ := { v := .undef, wr := [(2, some (.cells [.pv (.lit (.int .i64 0)), sS (some true) eMember []]))] }) rfl rfl rfl rfl trivial rfl ?_)
    refine rvP C (.pv (.lit (.int .i64 80))) ?_
    refine rvc_nil ?_
    refine Awp.ret ?_
    subst hR
    exact ⟨.inl rfl, rfl⟩
   ·
    replace hR := of_false h26 hR
    refine rvO C (.agg [.pv (.lit (.int .i64 1)), sS (some vc.isEmpty) eMember vc]) ?_
    refine rvc_open rfl rfl rfl (rexec_call hP C rfl rfl rfl (check_calls (Chain.mk 1 (Sl.mk vc.isEmpty vc)) (by show vc.length ≤ 9223372036854775807; have := of_decide_eq_false h18; have := eq_of_bne_false h26; omega)) ?_)
    refine rvO C (.pv (.lit (.bool ((check (Chain.mk 1 (Sl.mk vc.isEmpty vc))) != 0)))) ?_
    refine rvP C (.pv (.lit (.bool ((check (Chain.mk 1 (Sl.mk vc.isEmpty vc))) != 0)))) ?_
    refine rvc_nil ?_
    refine Awp.cond (b := ((check (Chain.mk 1 (Sl.mk vc.isEmpty vc))) != 0)) rfl (fun h27 => ?_) (fun h27 => ?_)
    ·
     replace hR := of_true h27 hR
     refine Awp.consP C ?_
     refine rvP C (.agg [.pv (.lit (.int .i64 0)), sS (some true) eMember []]) ?_
     refine rvc_un (rexec_prim C (δ := { v := .undef, wr := [(2, some (.cells [.pv (.lit (.int .i64 0)), sS (some true) eMember []]))] }) rfl rfl rfl rfl trivial rfl ?_)
     refine rvP C (.pv (.lit (.int .i64 80))) ?_
     refine rvc_nil ?_
     refine Awp.ret ?_
     subst hR
     exact ⟨.inl rfl, rfl⟩
    ·
     replace hR := of_false h27 hR
     refine Awp.skip ?_
     refine Awp.consP C ?_
     refine rvP C (.agg [.pv (.lit (.int .i64 1)), sS (some vc.isEmpty) eMember vc]) ?_
     refine rvc_un (rexec_prim C (δ := { v := .undef, wr := [(2, some (.cells [.pv (.lit (.int .i64 1)), sS (some vc.isEmpty) eMember vc]))] }) rfl rfl rfl rfl trivial rfl ?_)
     refine rvP C (.pv (.lit (.int .i64 0))) ?_
     refine rvc_nil ?_
     refine Awp.ret ?_
     subst hR
     exact ⟨.inl rfl, rfl⟩
 -- !! two models: ('(bif ((vc.length : Int) != (l.D.length : Int)) then ((Chain.mk 0 (Sl.mk true [])), 80) else (bif ((check (Chain.mk 1 (Sl.mk vc.isEmpty vc))) != 0) then ((Chain.mk 0 (Sl.mk true [])), 80) else ((Chain.mk 1 (Sl.mk vc.isEmpty vc)), 0)))', 'firstC_l1 i (fun vc1 => firstC_l0 l k (i + 1) vc1) l.D 0 vc') ||| ('(bif ((vc.length : Int) != (l.D.length : Int)) then ((Chain.mk 0 (Sl.mk true [])), 80) else (bif ((check (Chain.mk 1 (Sl.mk vc.isEmpty vc))) != 0) then ((Chain.mk 0 (Sl.mk true [])), 80) else ((Chain.mk 1 (Sl.mk vc.isEmpty vc)), 0)))', 'firstC_l1 i (fun vc2 => firstC_l0 l k (i + 1) vc2) l.D 0 vc')
def indexFunc_l0 (f : Member → Bool) : List Member → Nat → Int
  | [], _ => (-1)
  | x :: xs, i => (bif (f x) then (i : Int) else indexFunc_l0 f xs (i + 1) )
def indexFunc (s : (Sl Member)) (f : Member → Bool) : Int :=
  indexFunc_l0 f s.D 0
theorem indexFunc_calls (s : (Sl Member)) (f : Member → Bool) (g1 : Nat) (caps1 : List AV) (hp1 : ∀ (x0 : Member), PCalls Try.prog g1 ([.agg [.pv (.lit (.int .i64 x0.node)), .pv (.lit (.int .i64 x0.site)), .pv (.lit (.bool x0.fresh))]] ++ caps1) (.pv (.lit (.bool (f x0))))) (hw1 : AV.withinL (fun _ => false) caps1 = true) (hl1 : s.D.length ≤ 9223372036854775807) : PCalls Try.prog 78 [sS (some s.nil) eMember s.D, .fn g1 [] caps1] (.pv (.lit (.int .i64 (indexFunc s f)))) := by
 generalize hR : indexFunc s f = R
 refine PCalls.of_body tabOk Try.func78 rfl rfl rfl (by simp [AV.withinL, AV.within, sS, hw1]) rfl mixed fun E hP C hI => ?_
 refine Awp.consP C ?_
 refine rvP C (.pv (.lit (.int .i64 0))) ?_
 refine rvc_nil ?_
 refine Awp.seq ?_
 refine Awp.consP C ?_
 refine rvP C (sS (some s.nil) eMember s.D) ?_
 refine rvP C (.pv (.lit (.int .i64 (s.D.length : Int)))) ?_
 refine rvP C (.pv (.lit (.int .i64 0))) ?_
 refine rvc_nil ?_
 refine Awp.block ?_
 refine Awp.forR (σ := Unit) (s.D.length) (fun i _v => [(0, sS (some s.nil) eMember s.D), (1, .fn g1 [] caps1), (7, .pv (.lit (.int .i64 (s.D.length : Int)))), (8, .pv (.lit (.int .i64 (i : Int))))]) (fun i _v => []) [] (fun i _v => indexFunc_l0 f (s.D.drop i) i  = R) () ?_ ?_ (fun i _v h1 hR => ?_)
 · exact hR
 · exact ⟨fun b => b, WeakerR.ofL (Ks := []) hI ⟨⟨rfl, rfl⟩, ⟨fn_to rfl hw1, fn_win hw1⟩, ⟨rfl, rfl⟩, ⟨rfl, rfl⟩, trivial⟩ (okH_nil) rfl⟩
 refine Awp.consP C ?_
 refine rvP C (.pv (.lit (.bool (decide ((i : Int) < (s.D.length : Int)))))) ?_
 refine rvc_nil ?_
 refine Awp.seq ?_
 refine Awp.cond (b := (decide ((i : Int) < (s.D.length : Int)))) rfl (fun h2 => ?_) (fun h2 => ?_)
 ·
  have h3 : i < s.D.length := by have := of_decide_eq_true h2; omega
  obtain ⟨x, h4⟩ := getX h3
  rw [drop_at h4] at hR
  refine Awp.skip ?_
  refine Awp.seq ?_
  refine Awp.block ?_
  refine Awp.consP C ?_
  refine rvP C (.pv (.lit (.int .i64 (i : Int)))) ?_
  refine rvP C (.pv (.lit (.int .i64 (i : Int)))) ?_
  refine rvc_nil ?_
  refine Awp.consP C ?_
  refine rvP C (.fn g1 [] caps1) ?_
  refine rvP C (sS (some s.nil) eMember s.D) ?_
  refine rvP C (.pv (.lit (.int .i64 (i : Int)))) ?_
  refine rvc_un (rexec_idxS C rfl rfl rfl rfl rfl rfl x (Int.natCast_nonneg _) h4 ?_)
  refine rvP C (.agg [.pv (.lit (.int .i64 x.node)), .pv (.lit (.int .i64 x.site)), .pv (.lit (.bool x.fresh))]) ?_
  refine rvc_un (rexec_callV hP C rfl rfl rfl rfl (hp1 x) rfl ?_)
  refine rvc_nil ?_
  refine Awp.cond (b := (f x)) rfl (fun h5 => ?_) (fun h5 => ?_)
  ·
   replace hR := of_true h5 hR
   refine Awp.consP C ?_
   refine rvP C (.pv (.lit (.int .i64 (i : Int)))) ?_
   refine rvP C (.pv (.lit (.int .i64 (i : Int)))) ?_
   refine rvc_nil ?_
   refine Awp.ret ?_
   subst hR
   exact ⟨.inl rfl, rfl⟩
  ·
   replace hR := of_false h5 hR
   refine Awp.skip ?_
   refine Awp.regionP C ?_
   refine rvP C (.pv (.lit (.int .i64 (IntKind.i64.wrap ((i : Int) + 1))))) ?_
   refine rvP C (.pv (.lit (.int .i64 (IntKind.i64.wrap ((i : Int) + 1))))) ?_
   refine rvc_nil ?_
   refine ⟨h3, (), ?_, ?_⟩
   · exact hR
   · exact ⟨fun b => b, WeakerR.ofL (Ks := []) hI ⟨⟨rfl, rfl⟩, ⟨fn_to rfl hw1, fn_win hw1⟩, ⟨rfl, rfl⟩, ⟨lit_cast (wrap_i64 (by omega) (by omega)), rfl⟩, trivial⟩ (okH_nil) rfl⟩
 ·
  have h3 : ¬ i < s.D.length := by have := of_decide_eq_false h2; omega
  rw [drop_end h3] at hR
  refine Awp.exit ?_
  refine Awp.consP C ?_
  refine rvP C (.pv (.lit (.int .i64 (-1)))) ?_
  refine rvc_nil ?_
  refine Awp.ret ?_
  subst hR
  exact ⟨.inl rfl, rfl⟩
def placeF (m : Member) (c0 : Int) : Bool :=
  (m.node == c0)
theorem placeF_calls (m : Member) (c0 : Int)  : PCalls Try.prog 79 [.agg [.pv (.lit (.int .i64 m.node)), .pv (.lit (.int .i64 m.site)), .pv (.lit (.bool m.fresh))], .rp [.lit (.int .i64 c0)]] (.pv (.lit (.bool (placeF m c0)))) := by
 generalize hR : placeF m c0 = R
 refine PCalls.of_body tabOk Try.func79 rfl rfl rfl rfl rfl mixed fun E hP C hI => ?_
 refine Awp.consP C ?_
 refine rvc_un (rexec_prim C (δ := { v := .ptr 2 0, new := [(2, .cells [.pv (.lit (.int .i64 m.node)), .pv (.lit (.int .i64 m.site)), .pv (.lit (.bool m.fresh))])] }) rfl rfl rfl rfl trivial rfl ?_)
 refine rvP C (.pv (.lit (.bool false))) ?_
 refine rvc_nil ?_
 refine Awp.consP C ?_
 refine rvP C (.ptr 2 0) ?_
 refine rvP C (.pv (.lit (.int .i64 m.node))) ?_
 refine rvP C (.pv (.lit (.int .i64 c0))) ?_
 refine rvP C (.pv (.lit (.bool (m.node == c0)))) ?_
 refine rvP C (.pv (.lit (.bool (m.node == c0)))) ?_
 refine rvc_nil ?_
 refine Awp.ret ?_
 subst hR
 exact ⟨.inl rfl, rfl⟩
def placeIn (c : Chain) (node : Int) : Int :=
  (indexFunc c.members (fun x0 => placeF x0 node))
theorem placeIn_calls (c : Chain) (node : Int) (hl1 : c.members.D.length ≤ 9223372036854775807) : PCalls Try.prog 58 [.agg [.pv (.lit (.int .i64 c.epoch)), sS (some c.members.nil) eMember c.members.D], .pv (.lit (.int .i64 node))] (.pv (.lit (.int .i64 (placeIn c node)))) := by
 generalize hR : placeIn c node = R
 refine PCalls.of_body tabOk Try.func58 rfl rfl rfl rfl rfl mixed fun E hP C hI => ?_
 refine Awp.consP C ?_
 refine rvc_un (rexec_prim C (δ := { v := .ptr 2 0, new := [(2, .cells [.pv (.lit (.int .i64 c.epoch)), sS (some c.members.nil) eMember c.members.D])] }) rfl rfl rfl rfl trivial rfl ?_)
 refine rvc_un (rexec_boxF C [.lit (.int .i64 node)] rfl rfl rfl rfl ?_)
 refine rvP C (.pv (.lit (.int .i64 0))) ?_
 refine rvc_nil ?_
 refine Awp.consP C ?_
 refine rvP C (.ptr 2 1) ?_
 refine rvP C (sS (some c.members.nil) eMember c.members.D) ?_
 refine rvP C (.fn 79 [] [.rp [.lit (.int .i64 node)]]) ?_
 refine rvc_un (rexec_call hP C rfl rfl rfl (indexFunc_calls c.members (fun x0 => placeF x0 node) 79 [.rp [.lit (.int .i64 node)]] (fun x0 => placeF_calls x0 node) rfl hl1) ?_)
 refine rvP C (.pv (.lit (.int .i64 (indexFunc c.members (fun x0 => placeF x0 node))))) ?_
 refine rvc_nil ?_
 refine Awp.ret ?_
 subst hR
 exact ⟨.inl rfl, rfl⟩
def place0 (c : Chain) (node : Int) : Int :=
  (bif ((check c) != 0) then (-1) else (placeIn c node))
def rPlace_l0 (node : Int) : List Member → Nat → Int
  | [], _ => (-1)
  | x :: xs, i => (bif (x.node == node) then (i : Int) else rPlace_l0 node xs (i + 1) )
def rPlace (c : Chain) (node : Int) : Int :=
  (bif ((rCheck c) != 0) then (-1) else rPlace_l0 node c.members.D 0 )
theorem rPlace_calls (c : Chain) (node : Int) (hl1 : c.members.D.length ≤ 9223372036854775807) : PCalls Try.prog 84 [.agg [.pv (.lit (.int .i64 c.epoch)), sS (some c.members.nil) eMember c.members.D], .pv (.lit (.int .i64 node))] (.pv (.lit (.int .i64 (rPlace c node)))) := by
 generalize hR : rPlace c node = R
 refine PCalls.of_body tabOk Try.func84 rfl rfl rfl rfl rfl mixed fun E hP C hI => ?_
 refine Awp.consP C ?_
 refine rvc_un (rexec_prim C (δ := { v := .ptr 2 0, new := [(2, .cells [.pv (.lit (.int .i64 c.epoch)), sS (some c.members.nil) eMember c.members.D])] }) rfl rfl rfl rfl trivial rfl ?_)
 refine rvP C (.pv (.lit (.int .i64 0))) ?_
 refine rvc_nil ?_
 refine Awp.seq ?_
 refine Awp.consP C ?_
 refine rvP C (.agg [.pv (.lit (.int .i64 c.epoch)), sS (some c.members.nil) eMember c.members.D]) ?_
 refine rvc_un (rexec_call hP C rfl rfl rfl (rCheck_calls c hl1) ?_)
 refine rvP C (.pv (.lit (.bool ((rCheck c) != 0)))) ?_
 refine rvc_nil ?_
 refine Awp.cond (b := ((rCheck c) != 0)) rfl (fun h1 => ?_) (fun h1 => ?_)
 ·
  replace hR := of_true h1 hR
  refine Awp.consP C ?_
  refine rvP C (.pv (.lit (.int .i64 (-1)))) ?_
  refine rvc_nil ?_
  refine Awp.ret ?_
  subst hR
  exact ⟨.inl rfl, rfl⟩
 ·
  replace hR := of_false h1 hR
  refine Awp.skip ?_
  refine Awp.seq ?_
  refine Awp.consP C ?_
  refine rvP C (.ptr 2 1) ?_
  refine rvP C (sS (some c.members.nil) eMember c.members.D) ?_
  refine rvP C (.pv (.lit (.int .i64 (c.members.D.length : Int)))) ?_
  refine rvP C (.pv (.lit (.int .i64 0))) ?_
  refine rvc_nil ?_
  refine Awp.block ?_
  refine Awp.forR (σ := Unit) (c.members.D.length) (fun i _v => [(1, .pv (.lit (.int .i64 node))), (11, sS (some c.members.nil) eMember c.members.D), (12, .pv (.lit (.int .i64 (c.members.D.length : Int)))), (13, .pv (.lit (.int .i64 (i : Int))))]) (fun i _v => []) [] (fun i _v => rPlace_l0 node (c.members.D.drop i) i  = R) () ?_ ?_ (fun i _v h2 hR => ?_)
  · exact hR
  · exact ⟨fun b => b, WeakerR.ofL (Ks := []) hI ⟨⟨rfl, rfl⟩, ⟨rfl, rfl⟩, ⟨rfl, rfl⟩, ⟨rfl, rfl⟩, trivial⟩ (okH_nil) rfl⟩
  refine Awp.consP C ?_
  refine rvP C (.pv (.lit (.bool (decide ((i : Int) < (c.members.D.length : Int)))))) ?_
  refine rvc_nil ?_
  refine Awp.seq ?_
  refine Awp.cond (b := (decide ((i : Int) < (c.members.D.length : Int)))) rfl (fun h3 => ?_) (fun h3 => ?_)
  ·
   have h4 : i < c.members.D.length := by have := of_decide_eq_true h3; omega
   obtain ⟨x, h5⟩ := getX h4
   rw [drop_at h5] at hR
   refine Awp.skip ?_
   refine Awp.seq ?_
   refine Awp.block ?_
   refine Awp.consP C ?_
   refine rvP C (.pv (.lit (.int .i64 (i : Int)))) ?_
   refine rvc_un (rexec_idxS C rfl rfl rfl rfl rfl rfl x (Int.natCast_nonneg _) h5 ?_)
   refine rvP C (.agg [.pv (.lit (.int .i64 x.node)), .pv (.lit (.int .i64 x.site)), .pv (.lit (.bool x.fresh))]) ?_
   refine rvc_un (rexec_prim C (δ := { v := .ptr 6 0, new := [(6, .cells [.pv (.lit (.int .i64 0)), .pv (.lit (.int .i64 0)), .pv (.lit (.bool false))])] }) rfl rfl rfl rfl trivial rfl ?_)
   refine rvP C (.pv (.lit (.int .i64 (i : Int)))) ?_
   refine rvc_un (rexec_prim C (δ := { v := .undef, wr := [(6, some (.cells [.pv (.lit (.int .i64 x.node)), .pv (.lit (.int .i64 x.site)), .pv (.lit (.bool x.fresh))]))] }) rfl rfl rfl rfl trivial rfl ?_)
   refine rvc_nil ?_
   refine Awp.consP C ?_
   refine rvP C (.ptr 6 0) ?_
   refine rvP C (.pv (.lit (.int .i64 x.node))) ?_
   refine rvP C (.pv (.lit (.int .i64 node))) ?_
   refine rvP C (.pv (.lit (.bool (x.node == node)))) ?_
   refine rvc_nil ?_
   refine Awp.cond (b := (x.node == node)) rfl (fun h6 => ?_) (fun h6 => ?_)
   ·
    replace hR := of_true h6 hR
    refine Awp.consP C ?_
    refine rvP C (.pv (.lit (.int .i64 (i : Int)))) ?_
    refine rvP C (.pv (.lit (.int .i64 (i : Int)))) ?_
    refine rvc_nil ?_
    refine Awp.ret ?_
    subst hR
    exact ⟨.inl rfl, rfl⟩
   ·
    replace hR := of_false h6 hR
    refine Awp.skip ?_
    refine Awp.regionP C ?_
    refine rvP C (.pv (.lit (.int .i64 (IntKind.i64.wrap ((i : Int) + 1))))) ?_
    refine rvP C (.pv (.lit (.int .i64 (IntKind.i64.wrap ((i : Int) + 1))))) ?_
    refine rvc_nil ?_
    refine ⟨h4, (), ?_, ?_⟩
    · exact hR
    · exact ⟨fun b => b, WeakerR.ofL (Ks := []) hI ⟨⟨rfl, rfl⟩, ⟨rfl, rfl⟩, ⟨rfl, rfl⟩, ⟨lit_cast (wrap_i64 (by omega) (by omega)), rfl⟩, trivial⟩ (okH_nil) rfl⟩
  ·
   have h4 : ¬ i < c.members.D.length := by have := of_decide_eq_false h3; omega
   rw [drop_end h4] at hR
   refine Awp.exit ?_
   refine Awp.consP C ?_
   refine rvP C (.pv (.lit (.int .i64 (-1)))) ?_
   refine rvc_nil ?_
   refine Awp.ret ?_
   subst hR
   exact ⟨.inl rfl, rfl⟩
end Go.Proofs.Ytpgenmflgdkfiaa
/- Sets of small numbers as bits, in plain words. No conditions. -/
namespace Go.Proofs.Ytpgenmflgdkfiaa
open Go.Am
theorem wrap64 (n : Int) : IntKind.u64.wrap n = n % 18446744073709551616 := by
  simp [IntKind.wrap, IntKind.bits, IntKind.signed]
theorem bv64 (a : Nat) (h : a < 18446744073709551616) : (BitVec.ofInt 64 (a : Int)).toNat = a := by
  rw [BitVec.toNat_ofInt]
  have : ((2 ^ 64 : Nat) : Int) = 18446744073709551616 := by decide
  rw [this]; omega
theorem or64 {a b : Nat} (ha : a < 18446744073709551616) (hb : b < 18446744073709551616) : bitI .or .u64 a b = ((a ||| b : Nat) : Int) := by
  have : a ||| b < 18446744073709551616 := Nat.or_lt_two_pow (n := 64) ha hb
  show IntKind.u64.wrap (((BitVec.ofInt 64 (a : Int) ||| BitVec.ofInt 64 (b : Int) : BitVec 64).toNat : Nat) : Int) = _
  rw [BitVec.toNat_or, bv64 a ha, bv64 b hb, wrap64]; omega
theorem and64 {a b : Nat} (ha : a < 18446744073709551616) (hb : b < 18446744073709551616) : bitI .and .u64 a b = ((a &&& b : Nat) : Int) := by
  have : a &&& b < 18446744073709551616 := Nat.lt_of_le_of_lt Nat.and_le_left ha
  show IntKind.u64.wrap (((BitVec.ofInt 64 (a : Int) &&& BitVec.ofInt 64 (b : Int) : BitVec 64).toNat : Nat) : Int) = _
  rw [BitVec.toNat_and, bv64 a ha, bv64 b hb, wrap64]; omega
theorem shr64 {a n : Nat} (hn : n < 64) : shrI .u64 (a : Int) (n : Int) = ((a >>> n : Nat) : Int) := by
  show (a : Int) / 2 ^ (min ((n : Int).toNat) 64) = _
  rw [Int.toNat_natCast, Nat.min_eq_left (by omega), Nat.shiftRight_eq_div_pow]
  simp
theorem shl64 {n : Nat} (hn : n < 64) : shlI .u64 1 (n : Int) = ((2 ^ n : Nat) : Int) := by
  show IntKind.u64.wrap (1 * 2 ^ (min ((n : Int).toNat) 64)) = _
  have h : 2 ^ n < 2 ^ 64 := Nat.pow_lt_pow_right (by decide) hn
  have h' : (2 : Nat) ^ 64 = 18446744073709551616 := by decide
  rw [Int.toNat_natCast, Nat.min_eq_left (by omega), wrap64, Int.one_mul]
  have e : (2 : Int) ^ n = ((2 ^ n : Nat) : Int) := by simp
  rw [e]
  rw [h'] at h
  clear e h'
  generalize (2 : Nat) ^ n = p at h ⊢
  omega
theorem in_nat {n : Nat} : mIn (n : Int) = decide (n < 64) := by
  unfold mIn
  have h0 : decide ((n : Int) ≥ 0) = true := by simp
  rw [h0]
  simp only [cond_true]
  congr 1
  exact propext ⟨fun h => by omega, fun h => by omega⟩
theorem has_nat {S n : Nat} (hS : S < 18446744073709551616) (hn : n < 64) : mHas (S : Int) (n : Int) = S.testBit n := by
  unfold mHas
  have hlt : S >>> n < 18446744073709551616 := Nat.lt_of_le_of_lt (Nat.shiftRight_le _ _) hS
  have h1 : (1 : Int) = ((1 : Nat) : Int) := rfl
  rw [in_nat, decide_eq_true hn, cond_true, shr64 hn, h1, and64 hlt (by decide)]
  rw [Nat.testBit_eq_decide_div_mod_eq, Nat.and_one_is_mod, Nat.shiftRight_eq_div_pow]
  by_cases h : S / 2 ^ n % 2 = 1
  · simp [h]
  · have : S / 2 ^ n % 2 = 0 := by omega
    simp [this]
theorem with_nat {S n : Nat} (hS : S < 18446744073709551616) (hn : n < 64) : mWith (S : Int) (n : Int) = ((S ||| 2 ^ n : Nat) : Int) := by
  unfold mWith
  have h : 2 ^ n < 2 ^ 64 := Nat.pow_lt_pow_right (by decide) hn
  have h' : (2 : Nat) ^ 64 = 18446744073709551616 := by decide
  rw [in_nat, decide_eq_true hn, Bool.not_true, cond_false, shl64 hn, or64 hS (by omega)]
theorem with_lt {S n : Nat} (hS : S < 18446744073709551616) (hn : n < 64) : S ||| 2 ^ n < 18446744073709551616 :=
  Nat.or_lt_two_pow (n := 64) hS (Nat.pow_lt_pow_right (by decide) hn)
theorem with_out {s n : Int} (h : mIn n = false) : mWith s n = s := by unfold mWith; rw [h]; rfl
theorem has_with {S n m : Nat} (hS : S < 18446744073709551616) (hn : n < 64) (hm : m < 64) : mHas (mWith (S : Int) (n : Int)) (m : Int) = (mHas (S : Int) (m : Int) || decide (n = m)) := by
  rw [with_nat hS hn, has_nat (with_lt hS hn) hm, has_nat hS hm, Nat.testBit_or, Nat.testBit_two_pow]
end Go.Proofs.Ytpgenmflgdkfiaa
/- What the checks of chains, and places in them, say, in plain words. No conditions. -/
namespace Go.Proofs.Ytpgenmflgdkfiaa
open Go.Am
theorem bif_const {a : Bool} {x y z : Int} (hx : x ≠ z) (h : (bif a then x else y) = z) : a = false ∧ y = z := by
  cases a
  · exact ⟨rfl, h⟩
  · exact absurd h hx
theorem check_len {c : Chain} (h : check c = 0) : 0 < c.members.D.length := by
  unfold check at h
  obtain ⟨_, h⟩ := bif_const (by decide) h
  obtain ⟨_, h⟩ := bif_const (by decide) h
  obtain ⟨h3, h⟩ := bif_const (by decide) h
  have := ne_of_beq_false h3
  omega
theorem check_r {c : Chain} (h : rCheck c = 0) : 0 < c.members.D.length := by
  unfold rCheck at h
  obtain ⟨_, h⟩ := bif_const (by decide) h
  obtain ⟨_, h⟩ := bif_const (by decide) h
  obtain ⟨h3, h⟩ := bif_const (by decide) h
  have := ne_of_beq_false h3
  omega
theorem indexFunc_l0_lt (f : Member → Bool) : ∀ (l : List Member) (i : Nat), indexFunc_l0 f l i < ((i + l.length : Nat) : Int) ∧ -1 ≤ indexFunc_l0 f l i
  | [], i => by simp only [indexFunc_l0, List.length_nil]; omega
  | x :: l, i => by
    have := indexFunc_l0_lt f l (i + 1)
    simp only [indexFunc_l0, List.length_cons]
    cases f x <;> simp only [cond_true, cond_false] <;> omega
theorem placeIn_lt (c : Chain) (n : Int) : placeIn c n < (c.members.D.length : Int) ∧ -1 ≤ placeIn c n := by
  have := indexFunc_l0_lt (fun x0 => placeF x0 n) c.members.D 0
  simp only [placeIn, indexFunc]; omega
theorem rPlace_l0_lt (n : Int) : ∀ (l : List Member) (i : Nat), rPlace_l0 n l i < ((i + l.length : Nat) : Int) ∧ -1 ≤ rPlace_l0 n l i
  | [], i => by simp only [rPlace_l0, List.length_nil]; omega
  | x :: l, i => by
    have := rPlace_l0_lt n l (i + 1)
    simp only [rPlace_l0, List.length_cons]
    cases x.node == n <;> simp only [cond_true, cond_false] <;> omega
theorem rPlace_lt (c : Chain) (n : Int) : rPlace c n < (c.members.D.length : Int) ∧ -1 ≤ rPlace c n := by
  have := rPlace_l0_lt n c.members.D 0
  unfold rPlace
  cases rCheck c != 0 <;> simp only [cond_true, cond_false] <;> omega
theorem nil_false {α : Type} {b : Bool} {D : List α} (h : b = true → D = []) (hl : 0 < D.length) : b = false := by
  cases b
  · rfl
  · rw [h rfl] at hl; simp at hl
theorem clone_hn (s : Sl Member) (h : (cloneMembers s).nil = true) : (cloneMembers s).D = [] := by
  unfold cloneMembers at h ⊢
  cases hs : s.nil
  · rw [hs] at h; cases h
  · rfl
theorem clone_len (s : Sl Member) : (cloneMembers s).D.length ≤ s.D.length := by
  unfold cloneMembers
  cases hs : s.nil
  · exact Nat.le_refl _
  · exact Nat.zero_le _
end Go.Proofs.Ytpgenmflgdkfiaa
/- The program's check of chains is the document's; so is whether two are the same. No conditions. -/
namespace Go.Proofs.Ytpgenmflgdkfiaa
open Go.Am
/-- May members stand behind others? -/
def okFrom (pre : List Member) : List Member → Bool
  | [] => true
  | x :: xs => member x && pre.all (fun y => !(y.node == x.node) && !(decide (y.site > x.site))) && okFrom (pre ++ [x]) xs
theorem member_iff (m : Member) : member m = true ↔ 0 ≤ m.node ∧ m.node ≤ 5 ∧ 0 ≤ m.site ∧ m.site ≤ 2 := by
  unfold member
  by_cases h1 : m.node ≥ 0 <;> by_cases h2 : m.node < 6 <;> by_cases h3 : m.site ≥ 0 <;> by_cases h4 : m.site < 3 <;> simp [h1, h2, h3, h4] <;> omega
theorem rCheck_l1_eq (x : Member) (kk : Int) : ∀ (l : List Member) (i : Nat), rCheck_l1 x kk l i = bif l.all (fun y => !(y.node == x.node) && !(decide (y.site > x.site))) then kk else 80
  | [], _ => rfl
  | y :: l, i => by
    simp only [rCheck_l1, List.all_cons]
    cases h1 : y.node == x.node
    · cases h2 : decide (y.site > x.site)
      · simp [rCheck_l1_eq x kk l (i + 1)]
      · simp
    · simp
theorem rCheck_l0_eq (c : Chain) : ∀ (xs : List Member) (i : Nat), xs = c.members.D.drop i → rCheck_l0 c xs i = bif okFrom (c.members.D.take i) xs then 0 else 80
  | [], i, _ => rfl
  | x :: xs, i, h => by
    have hi : c.members.D[i]? = some x := by
      have := congrArg (fun l => l[0]?) h
      simpa using this.symm
    have hx : xs = c.members.D.drop (i + 1) := by
      have := drop_at hi
      rw [← h] at this
      simpa using this
    have ht : c.members.D.take i ++ [x] = c.members.D.take (i + 1) := by
      rw [List.take_add_one, hi]; rfl
    have ih := rCheck_l0_eq c xs (i + 1) hx
    simp only [rCheck_l0, okFrom, ht, rCheck_l1_eq, ih]
    by_cases hm : member x = true
    · have := (member_iff x).1 hm
      rw [hm]
      have e1 : decide (x.node < 0) = false := by simp; omega
      have e2 : decide (x.node > 5) = false := by simp; omega
      have e3 : decide (x.site < 0) = false := by simp; omega
      have e4 : decide (x.site > 2) = false := by simp; omega
      rw [e1, e2, e3, e4]
      simp only [cond_false, Bool.true_and]
      cases (c.members.D.take i).all (fun y => !(y.node == x.node) && !(decide (y.site > x.site))) <;> simp
    · have hm' : member x = false := by simpa using hm
      rw [hm']
      have : x.node < 0 ∨ x.node > 5 ∨ x.site < 0 ∨ x.site > 2 := by
        have := mt (member_iff x).2 hm
        omega
      simp only [Bool.false_and, cond_false]
      by_cases e1 : x.node < 0
      · simp [e1]
      · by_cases e2 : x.node > 5
        · simp [e1, e2]
        · by_cases e3 : x.site < 0
          · simp [e1, e2, e3]
          · have e4 : x.site > 2 := by omega
            simp [e1, e2, e3, e4]
/-- What the program's loop knows of those ahead. -/
structure Inv (pre : List Member) (S : Nat) (site : Int) : Prop where
  lt : S < 18446744073709551616
  has : ∀ n : Nat, n < 6 → mHas (S : Int) (n : Int) = pre.any (fun y => y.node == (n : Int))
  le : ∀ y ∈ pre, y.site ≤ site
  at_ : site = 0 ∨ ∃ y ∈ pre, y.site = site
theorem check_l0_eq : ∀ (xs pre : List Member) (i S : Nat) (site : Int), Inv pre S site → check_l0 xs i (S : Int) site = bif okFrom pre xs then 0 else 80
  | [], _, _, _, _, _ => rfl
  | x :: xs, pre, i, S, site, inv => by
    simp only [check_l0, okFrom]
    by_cases hm : member x = true
    · obtain ⟨m1, m2, m3, m4⟩ := (member_iff x).1 hm
      rw [hm]
      simp only [Bool.not_true, cond_false, Bool.true_and]
      obtain ⟨k, hk⟩ : ∃ k : Nat, x.node = (k : Int) := ⟨x.node.toNat, by omega⟩
      have hk6 : k < 6 := by omega
      have hh := inv.has k hk6
      rw [hk, hh]
      cases ha : pre.any (fun y => y.node == (k : Int))
      · simp only [cond_false]
        by_cases hs : x.site < site
        · have : pre.all (fun y => !(y.node == (k : Int)) && !(decide (y.site > x.site))) = false := by
            rcases inv.at_ with h0 | ⟨y, hy, he⟩
            · omega
            · rw [Bool.eq_false_iff]
              intro hall
              have := List.all_eq_true.1 hall y hy
              simp at this
              omega
          simp [hs, this]
        · have hall : pre.all (fun y => !(y.node == (k : Int)) && !(decide (y.site > x.site))) = true := by
            rw [List.all_eq_true]
            intro y hy
            have h1 : (y.node == (k : Int)) = false := by
              rw [Bool.eq_false_iff]
              intro he
              rw [Bool.eq_false_iff] at ha
              exact ha (List.any_eq_true.2 ⟨y, hy, he⟩)
            have := inv.le y hy
            simp [h1]; omega
          have hs' : decide (x.site < site) = false := by simp; omega
          rw [hall, hs', with_nat inv.lt (by omega)]
          simp only [cond_false, Bool.true_and]
          refine check_l0_eq xs (pre ++ [x]) (i + 1) _ _ ⟨with_lt inv.lt (by omega), fun n hn => ?_, fun y hy => ?_, .inr ⟨x, by simp, rfl⟩⟩
          · rw [← with_nat inv.lt (by omega), has_with inv.lt (by omega) (by omega), inv.has n hn, List.any_append]
            congr 1
            simp only [List.any_cons, List.any_nil, Bool.or_false, hk]
            by_cases h : k = n
            · subst h; simp
            · have : ¬ ((k : Int) = (n : Int)) := by omega
              simp [h, this]
          · rcases List.mem_append.1 hy with hy | hy
            · have := inv.le y hy; omega
            · simp only [List.mem_singleton] at hy; subst hy; exact Int.le_refl _
      · simp only [cond_true]
        have : pre.all (fun y => !(y.node == (k : Int)) && !(decide (y.site > x.site))) = false := by
          obtain ⟨y, hy, he⟩ := List.any_eq_true.1 ha
          rw [Bool.eq_false_iff]
          intro hall
          have := List.all_eq_true.1 hall y hy
          simp at this he
          exact this.1 he
        simp [this]
    · have hm' : member x = false := by simpa using hm
      rw [hm']; rfl
def hasN (pre : List Member) (n : Int) : Nat := (pre.any fun y => y.node == n).toNat
def cnt (pre : List Member) : Nat := hasN pre 0 + hasN pre 1 + hasN pre 2 + hasN pre 3 + hasN pre 4 + hasN pre 5
theorem hasN_le (pre : List Member) (n : Int) : hasN pre n ≤ 1 := by unfold hasN; cases pre.any fun y => y.node == n <;> simp
theorem cnt_step {pre : List Member} {x : Member} (h0 : 0 ≤ x.node) (h5 : x.node ≤ 5) (ha : pre.any (fun y => y.node == x.node) = false) : cnt (pre ++ [x]) = cnt pre + 1 := by
  have key : ∀ n : Int, hasN (pre ++ [x]) n = if x.node = n then 1 else hasN pre n := fun n => by
    unfold hasN
    rw [List.any_append]
    simp only [List.any_cons, List.any_nil, Bool.or_false]
    by_cases h : x.node = n
    · subst h; simp
    · have : (x.node == n) = false := by simpa using h
      rw [this]; simp [h]
  have hz : hasN pre x.node = 0 := by unfold hasN; rw [ha]; rfl
  simp only [cnt, key]
  rcases (by omega : x.node = 0 ∨ x.node = 1 ∨ x.node = 2 ∨ x.node = 3 ∨ x.node = 4 ∨ x.node = 5) with h | h | h | h | h | h <;> rw [h] at hz ⊢ <;> simp [hz] <;> omega
theorem ok_len : ∀ (xs pre : List Member), okFrom pre xs = true → pre.length = cnt pre → pre.length + xs.length ≤ 6
  | [], pre, _, hc => by
    have := hasN_le pre 0; have := hasN_le pre 1; have := hasN_le pre 2; have := hasN_le pre 3; have := hasN_le pre 4; have := hasN_le pre 5
    simp only [List.length_nil, hc, cnt]; omega
  | x :: xs, pre, h, hc => by
    simp only [okFrom, Bool.and_eq_true] at h
    obtain ⟨⟨h1, h2⟩, h3⟩ := h
    obtain ⟨m1, m2, _, _⟩ := (member_iff x).1 h1
    have ha : pre.any (fun y => y.node == x.node) = false := by
      rw [Bool.eq_false_iff]
      intro he
      obtain ⟨y, hy, he⟩ := List.any_eq_true.1 he
      have := List.all_eq_true.1 h2 y hy
      rw [he] at this
      simp at this
    have := ok_len xs (pre ++ [x]) h3 (by rw [cnt_step m1 m2 ha, List.length_append, hc]; rfl)
    simp only [List.length_append, List.length_cons, List.length_nil] at this ⊢
    omega
theorem check_eq (c : Chain) : check c = rCheck c := by
  unfold check rCheck
  have h1 : check_l0 c.members.D 0 0 0 = bif okFrom [] c.members.D then 0 else 80 := check_l0_eq c.members.D [] 0 0 0 ⟨by decide, fun n hn => by
    have := has_nat (S := 0) (n := n) (by decide) (by omega)
    rw [this]; simp, fun y hy => (by cases hy), .inl rfl⟩
  have h2 : rCheck_l0 c c.members.D 0 = bif okFrom [] c.members.D then 0 else 80 := rCheck_l0_eq c c.members.D 0 rfl
  rw [h1, h2]
  cases decide (c.epoch < 1) <;> cases decide (c.epoch > 1099511627776) <;> cases ((c.members.D.length : Int) == 0) <;> simp only [cond_true, cond_false]
  cases hd : decide ((c.members.D.length : Int) > 6)
  · rfl
  · have hl : c.members.D.length > 6 := by have := of_decide_eq_true hd; omega
    cases ho : okFrom [] c.members.D
    · simp
    · have := ok_len c.members.D [] ho rfl
      simp at this; omega
theorem rCheck_le6 {c : Chain} (h : rCheck c = 0) : c.members.D.length ≤ 6 := by
  unfold rCheck at h
  obtain ⟨_, h⟩ := bif_const (by decide) h
  obtain ⟨_, h⟩ := bif_const (by decide) h
  obtain ⟨_, h⟩ := bif_const (by decide) h
  obtain ⟨h4, h⟩ := bif_const (by decide) h
  have := of_decide_eq_false h4
  omega
theorem check_le6 {c : Chain} (h : check c = 0) : c.members.D.length ≤ 6 := rCheck_le6 (by rw [← check_eq]; exact h)
theorem rSame_l0_eq (b : Chain) : ∀ (l : List Member) (i : Nat), rSame_l0 b l i = eqMembers_l0 b.members l i
  | [], _ => rfl
  | x :: l, i => by simp only [rSame_l0, eqMembers_l0, rSame_l0_eq b l (i + 1)]
theorem same_eq (a b : Chain) : same a b = rSame a b := by
  unfold same rSame eqMembers
  rw [rSame_l0_eq]
  rw [show (a.epoch != b.epoch) = !(a.epoch == b.epoch) from rfl]
  cases a.epoch == b.epoch <;> rfl
theorem eqMembers_self (s : Sl Member) : ∀ (l : List Member) (i : Nat), l = s.D.drop i → eqMembers_l0 s l i = true
  | [], _, _ => rfl
  | x :: l, i, h => by
    have hi : s.D[i]? = some x := by
      have := congrArg (fun l => l[0]?) h
      simpa using this.symm
    have hx : l = s.D.drop (i + 1) := by
      have := drop_at hi
      rw [← h] at this
      simpa using this
    have hg : s.D[(i : Int).toNat]! = x := by
      rw [Int.toNat_natCast, List.getElem!_eq_getElem?_getD, hi]; rfl
    simp only [eqMembers_l0, hg, eqMembers_self s l (i + 1) hx]
    simp
theorem same_self (c : Chain) : same c c = true := by
  unfold same eqMembers
  rw [eqMembers_self c.members c.members.D 0 rfl]
  simp
end Go.Proofs.Ytpgenmflgdkfiaa
/- slices.Clone, once more. No conditions. -/
namespace Go.Proofs.Ytpgenmflgdkfiaa
open Go.Am
def cloneO (s : (Sl Member)) : List Member :=
  s.D
theorem cloneO_calls (s : (Sl Member)) (hn : s.nil = false) (hl1 : s.D.length ≤ 1000000) : OCalls Try.prog 59 [sS (some s.nil) eMember s.D] (.sl 0 0 (cloneO s).length 3 false) (.cells (encC eMember (cloneO s))) := by
 generalize hR : cloneO s = R
 refine OCalls.of_body tabOk Try.func59 rfl rfl rfl rfl rfl (encC_within _ _) mixed fun E hP C hI => ?_
 refine Awp.consP C ?_
 refine rvP C (sS (some true) eMember []) ?_
 refine rvc_nil ?_
 refine Awp.seq ?_
 refine Awp.consP C ?_
 refine rvP C (sS (some s.nil) eMember s.D) ?_
 refine rvc_un (rexec_eqNil C (f := s.nil) rfl rfl rfl rfl ?_)
 refine rvc_nil ?_
 refine Awp.condF (b := s.nil) rfl hn ?_
 refine Awp.skip ?_
 refine Awp.consP C ?_
 refine rvc_un (rexec_prim C (δ := { v := .sl 5 0 0 3 true, new := [(5, .cells (encC eMember []))] }) rfl rfl rfl rfl trivial rfl ?_)
 refine rvP C (sS (some s.nil) eMember s.D) ?_
 refine rvc_un (rexec_append C rfl rfl rfl rfl rfl rfl rfl rfl (fun _ h => by cases h) rfl (en := eMember) (D0 := []) (D := s.D) rfl rfl rfl rfl (by first | omega | (simp <;> omega)) (by decide) (nn := s.D.length) (by simp) ?_)
 refine rvP C (.sl 7 0 s.D.length 3 false) ?_
 refine rvc_nil ?_
 refine Awp.weakenR (S := [(2, .sl 0 0 s.D.length 3 false)]) (H := [(0, .cells (encC eMember s.D))]) (U := [0]) (fun x => bif x == 0 then 7 else x) (WeakerR.ofL (Ks := [0]) hI ⟨⟨rfl, rfl⟩, trivial⟩ (okH_list rfl rfl rfl okH_nil) rfl) ?_
 refine Awp.ret ?_
 subst hR
 exact ⟨.inl rfl, rfl, rfl⟩
end Go.Proofs.Ytpgenmflgdkfiaa
/- slices.Insert over a row of one's own: its contract. No conditions. -/
namespace Go.Proofs.Ytpgenmflgdkfiaa
open Go.Am
theorem insertM_calls (D : List Member) (i : Nat) (v : Sl Member) (hi : i ≤ D.length) (hv : 0 < v.D.length) (hl1 : D.length ≤ 1000000) (hl2 : v.D.length ≤ 1000000) : XCalls Try.prog 83 [.sl 0 0 D.length 3 false, .pv (.lit (.int .i64 (i : Int))), sS (some v.nil) eMember v.D] (.cells (encC eMember D)) (sS (some false) eMember (insertL D i v.D)) := by
 have hm0 : ((v.D.length : Int) == 0) = false := by simp; intro h; rw [h] at hv; simp at hv
 have hrep : D.take i ++ List.replicate (D.length + v.D.length - i) (Member.mk 0 0 false) = D.take i ++ List.replicate v.D.length (Member.mk 0 0 false) ++ List.replicate (D.length - i) (Member.mk 0 0 false) := by
  rw [List.append_assoc, List.replicate_append_replicate]; congr 2; omega
 refine XCalls.of_body tabOk Try.func83 rfl rfl rfl rfl rfl (encC_within _ _) mixed fun E hP C hI => ?_
 refine Awp.capOf 0 0 D.length 3 false (encC eMember D) rfl rfl (by rw [encC_len]; rfl) fun c hc0 => ?_
 refine Awp.cons C (fun _ => .pure) (by kernel_rfl) ?_ -- region 0 false
 refine rvc_prim C rfl rfl rfl rfl (trivial) rfl ?_
 refine rvc_nil ?_
 refine Awp.cons C (fun _ => .pure) (by kernel_rfl) ?_ -- region 1 false
 refine rvc_prim C rfl rfl rfl rfl (trivial) rfl ?_
 refine rvc_prim C rfl rfl rfl rfl (trivial) rfl ?_
 refine rvc_un (rexec_sliceLoC C rfl rfl rfl rfl rfl rfl hi ?_)
 refine rvc_nil ?_
 refine Awp.cons C (fun _ => .pure) (by kernel_rfl) ?_ -- region 2 false
 refine rvc_prim C rfl rfl rfl rfl (trivial) rfl ?_
 refine rvc_prim C rfl rfl rfl rfl (trivial) rfl ?_
 refine rvc_prim C rfl rfl rfl rfl (trivial) rfl ?_
 refine rvc_nil ?_
 refine Awp.seq ?_
 refine Awp.cons C (fun _ => .pure) (by kernel_rfl) ?_ -- region 3 false
 refine rvc_prim C rfl rfl rfl rfl (trivial) rfl ?_
 refine rvc_prim C rfl rfl rfl rfl (trivial) rfl ?_
 refine rvc_nil ?_
 refine Awp.condF rfl (hm0) ?_
 refine Awp.skip ?_
 refine Awp.cons C (fun _ => .pure) (by kernel_rfl) ?_ -- region 5 false
 refine rvc_prim C rfl rfl rfl rfl (trivial) rfl ?_
 refine rvc_un (rexec_lenC C rfl rfl rfl rfl rfl rfl ?_)
 refine rvc_prim C rfl rfl rfl rfl (trivial) rfl ?_
 refine rvc_nil ?_
 refine Awp.seq ?_
 refine Awp.cons C (fun _ => .pure) (by kernel_rfl) ?_ -- region 6 false
 refine rvc_prim C rfl rfl rfl rfl (trivial) rfl ?_
 refine rvc_prim C rfl rfl rfl rfl (trivial) rfl ?_
 refine rvc_prim C rfl rfl rfl rfl (trivial) rfl ?_
 refine rvc_nil ?_
 refine Awp.cond rfl (fun hc => ?_) (fun hc => ?_)
 ·
  refine Awp.dropCap 0 0 0 D.length 3 c rfl ?_
  have hin : i = D.length := by have := beq_iff_eq.1 hc; omega
  refine Awp.cons C (fun _ => .pure) (by kernel_rfl) ?_ -- region 7 false
  refine rvc_prim C rfl rfl rfl rfl (trivial) rfl ?_
  refine rvc_prim C rfl rfl rfl rfl (trivial) rfl ?_
  refine rvc_un (rexec_append C rfl rfl rfl rfl rfl rfl rfl rfl (fun _ h => by cases h) rfl (en := eMember) (D0 := D) (D := v.D) rfl rfl rfl rfl (by show (2 * (D.length + v.D.length) + 192) * 24 ≤ _; omega) (by decide) (nn := (D ++ v.D).length) (by simp) ?_)
  refine rvc_prim C rfl rfl rfl rfl (trivial) rfl ?_
  refine rvc_nil ?_
  refine Awp.freezeW 25 (encL eMember (insertL D i v.D)) ?_ [(6, sS (some false) eMember (insertL D i v.D))] [] ?_ ?_ ?_
  · rw [show insertL D i v.D = D ++ v.D by subst hin; simp [insertL]]; rfl
  · exact ⟨⟨_, rfl, .inl (.inr ⟨_, _, _, rfl, by simp only [sS]; congr 2; rw [insertL_len (D := D) (M := v.D) hi]; simp⟩)⟩, trivial⟩
  · exact trivial
  refine Awp.ret ?_
  exact ⟨.inl rfl, rfl⟩
 ·
  have hne : i ≠ D.length := by have := ne_of_beq_false hc; omega
  refine Awp.skip ?_
  refine Awp.seq ?_
  refine Awp.cons C (fun _ => .pure) (by kernel_rfl) ?_ -- region 8 false
  refine rvc_prim C rfl rfl rfl rfl (trivial) rfl ?_
  refine rvc_prim C rfl rfl rfl rfl (trivial) rfl ?_
  refine rvc_un (rexec_primv C { v := .pv (.lit (.int .i64 ((D.length + v.D.length : Nat) : Int))) } rfl rfl rfl rfl trivial (delta_int (by rw [wrapI _ (by omega)]; omega)) rfl ?_)
  refine rvc_prim C rfl rfl rfl rfl (trivial) rfl ?_
  refine rvc_un (rexec_capC C rfl rfl rfl rfl rfl rfl ?_)
  refine rvc_prim C rfl rfl rfl rfl (trivial) rfl ?_
  refine rvc_nil ?_
  refine Awp.cond rfl (fun hc => ?_) (fun hc => ?_)
  ·
   have hgt : c < D.length + v.D.length := by have := of_decide_eq_true hc; omega
   refine Awp.cons C (fun _ => .pure) (by kernel_rfl) ?_ -- region 9 false
   refine rvc_prim C rfl rfl rfl rfl (trivial) rfl ?_
   refine rvc_prim C rfl rfl rfl rfl (trivial) rfl ?_
   refine rvc_un (rexec_sliceHiC C i rfl rfl rfl rfl rfl rfl (by omega) ?_)
   refine rvc_prim C rfl rfl rfl rfl (trivial) rfl ?_
   refine rvc_prim C rfl rfl rfl rfl (trivial) rfl ?_
   refine rvc_un (rexec_primv C { v := .pv (.lit (.int .i64 ((D.length + v.D.length : Nat) : Int))) } rfl rfl rfl rfl trivial (delta_int (by rw [wrapI _ (by omega)]; omega)) rfl ?_)
   refine rvc_prim C rfl rfl rfl rfl (trivial) rfl ?_
   refine rvc_un (rexec_primv C { v := .pv (.lit (.int .i64 ((D.length + v.D.length - i : Nat) : Int))) } rfl rfl rfl rfl trivial (delta_int (by rw [wrapI _ (by omega)]; omega)) rfl ?_)
   refine rvc_un (rexec_appendZ C rfl rfl rfl rfl rfl rfl rfl rfl rfl (Member.mk 0 0 false) D i (D.length + v.D.length - i) rfl rfl rfl hi (by omega) (by omega) (by show (2 * (i + (D.length + v.D.length - i)) + 192) * 24 ≤ _; omega) (by decide) (by decide) rfl rfl ?_)
   refine rvc_prim C rfl rfl rfl rfl (trivial) rfl ?_
   refine rvc_nil ?_
   refine Awp.cons C (fun _ => .pure) (by kernel_rfl) ?_ -- region 10 false
   refine rvc_prim C rfl rfl rfl rfl (trivial) rfl ?_
   refine rvc_prim C rfl rfl rfl rfl (trivial) rfl ?_
   refine rvc_un (rexec_sliceOwn C (l := i) rfl rfl rfl rfl rfl rfl (by omega) ?_)
   refine rvc_prim C rfl rfl rfl rfl (trivial) rfl ?_
   refine rvc_un (rexec_copyS C rfl rfl rfl rfl rfl rfl (e := eMember) v.D (encC eMember (D.take i ++ v.D ++ List.replicate (D.length - i) (Member.mk 0 0 false))) rfl rfl rfl (by omega) (by rw [encC_len]; simp [eMember]; omega) (by rw [hrep]; exact set_mid (by simp) (by simp [eMember]; omega)) ?_)
   refine rvc_nil ?_
   refine Awp.dropCap 0 0 0 D.length 3 c rfl ?_
   refine Awp.consP C ?_
   refine rvc_prim C rfl rfl rfl rfl (trivial) rfl ?_
   refine rvc_prim C rfl rfl rfl rfl (trivial) rfl ?_
   refine rvc_prim C rfl rfl rfl rfl (trivial) rfl ?_
   refine rvc_un (rexec_primv C { v := .pv (.lit (.int .i64 ((i + v.D.length : Nat) : Int))) } rfl rfl rfl rfl trivial (delta_int (by rw [wrapI _ (by omega)]; omega)) rfl ?_)
   refine rvc_un (rexec_sliceOwn C (l := i + v.D.length) rfl rfl rfl rfl rfl rfl (by omega) ?_)
   refine rvc_prim C rfl rfl rfl rfl (trivial) rfl ?_
   refine rvc_prim C rfl rfl rfl rfl (trivial) rfl ?_
   refine rvc_un (rexec_sliceOwn C (l := i) rfl rfl rfl rfl rfl rfl (by omega) ?_)
   refine rvc_un (rexec_copyO C rfl rfl rfl rfl rfl rfl (e := eMember) (D.drop i) (encC eMember (insertL D i v.D)) rfl rfl rfl rfl (by rw [encC_len]; simp [eMember]; omega) (by have := tail_of (e := eMember) (D := D) (Z := []) (i := i) (k := D.length - i) (j := (D.drop i).length * 3) hi (Nat.le_refl _) (by simp [eMember]); simpa [eMember] using this) (by simp; omega) (by rw [encC_len]; simp [eMember]; omega) (by have := set_mid (e := eMember) (A := D.take i ++ v.D) (B := List.replicate (D.length - i) (Member.mk 0 0 false)) (B' := D.drop i) (C := []) (k := (i + v.D.length) * 3) (by simp) (by simp [eMember]; omega); simpa [insertL] using this) ?_ rfl)
   refine rvc_nil ?_
   refine Awp.cons C (fun _ => .pure) (by kernel_rfl) ?_ -- region 12 false
   refine rvc_prim C rfl rfl rfl rfl (trivial) rfl ?_
   refine rvc_prim C rfl rfl rfl rfl (trivial) rfl ?_
   refine rvc_nil ?_
   refine Awp.freezeW 40 (encL eMember (insertL D i v.D)) ?_ [(6, sS (some false) eMember (insertL D i v.D))] [] ?_ ?_ ?_
   · rfl
   · exact ⟨⟨_, rfl, .inl (.inr ⟨_, _, _, rfl, by simp only [sS]; congr 2; rw [insertL_len (D := D) (M := v.D) hi]; omega⟩)⟩, trivial⟩
   · exact trivial
   refine Awp.ret ?_
   exact ⟨.inl rfl, rfl⟩
  ·
   have hle : D.length + v.D.length ≤ c := by have := of_decide_eq_false hc; omega
   refine Awp.skip ?_
   refine Awp.cons C (fun _ => .pure) (by kernel_rfl) ?_ -- region 13 false
   refine rvc_prim C rfl rfl rfl rfl (trivial) rfl ?_
   refine rvc_prim C rfl rfl rfl rfl (trivial) rfl ?_
   refine rvc_prim C rfl rfl rfl rfl (trivial) rfl ?_
   refine rvc_un (rexec_primv C { v := .pv (.lit (.int .i64 ((D.length + v.D.length : Nat) : Int))) } rfl rfl rfl rfl trivial (delta_int (by rw [wrapI _ (by omega)]; omega)) rfl ?_)
   refine rvc_un (rexec_sliceHiC C (D.length + v.D.length) rfl rfl rfl rfl rfl rfl (by omega) ?_)
   refine rvc_prim C rfl rfl rfl rfl (trivial) rfl ?_
   refine rvc_nil ?_
   refine Awp.seq ?_
   refine Awp.extend 0 0 (D.length + v.D.length) 3 c (encC eMember D) rfl rfl (by rw [encC_len]; simp [eMember]; omega) ?_
   refine Awp.dropCap 0 0 0 (D.length + v.D.length) 3 c rfl ?_
   refine Awp.cons C (fun _ => .writer) (by kernel_rfl) ?_ -- region 14 false
   refine rvc_prim C rfl rfl rfl rfl (trivial) rfl ?_
   refine rvc_prim C rfl rfl rfl rfl (trivial) rfl ?_
   refine rvc_prim C rfl rfl rfl rfl (trivial) rfl ?_
   refine rvc_prim C rfl rfl rfl rfl (trivial) rfl ?_
   refine rvc_un (rexec_primv C { v := .pv (.lit (.int .i64 ((i + v.D.length : Nat) : Int))) } rfl rfl rfl rfl trivial (delta_int (by rw [wrapI _ (by omega)]; omega)) rfl ?_)
   refine rvc_un (rexec_sliceOwn C (l := i + v.D.length) rfl rfl rfl rfl rfl rfl (by omega) ?_)
   refine rvc_un (rexec_overlaps C (fn := Try.f85) (t := 22) (tR := 4) rfl rfl (by rw [hP]; exact Try.func85) rfl rfl rfl (by kernel_rfl) rfl rfl rfl (fl := some v.nil) (m := v.D.length) (ps := encL eMember v.D) rfl rfl (encL_ne hv (by decide)) (encC_ne (by omega) (by decide)) ?_)
   refine rvc_prim C rfl rfl rfl rfl (trivial) rfl ?_
   refine rvc_nil ?_
   refine Awp.condT rfl (rfl) ?_
   refine Awp.consP C ?_
   refine rvc_prim C rfl rfl rfl rfl (trivial) rfl ?_
   refine rvc_prim C rfl rfl rfl rfl (trivial) rfl ?_
   refine rvc_prim C rfl rfl rfl rfl (trivial) rfl ?_
   refine rvc_un (rexec_primv C { v := .pv (.lit (.int .i64 ((i + v.D.length : Nat) : Int))) } rfl rfl rfl rfl trivial (delta_int (by rw [wrapI _ (by omega)]; omega)) rfl ?_)
   refine rvc_un (rexec_sliceOwn C (l := i + v.D.length) rfl rfl rfl rfl rfl rfl (by omega) ?_)
   refine rvc_prim C rfl rfl rfl rfl (trivial) rfl ?_
   refine rvc_prim C rfl rfl rfl rfl (trivial) rfl ?_
   refine rvc_un (rexec_sliceOwn C (l := i) rfl rfl rfl rfl rfl rfl (by omega) ?_)
   refine rvc_un (rexec_copyO C rfl rfl rfl rfl rfl rfl (e := eMember) (D.drop i) (setRange (encC eMember D ++ List.replicate (c * 3 - (encC eMember D).length) AV.undef) ((i + v.D.length) * 3) (encC eMember (D.drop i))) rfl rfl rfl rfl (by rw [List.length_append, encC_len, List.length_replicate]; simp [eMember]; omega) (by have := tail_of (e := eMember) (D := D) (Z := List.replicate (c * 3 - (encC eMember D).length) AV.undef) (i := i) (k := D.length + v.D.length - i) (j := (D.drop i).length * 3) hi (by omega) (by simp [eMember]); simpa [eMember] using this) (by simp; omega) (by rw [List.length_append, encC_len, List.length_replicate]; simp [eMember]; omega) (by congr 1; simp) ?_ rfl)
   refine rvc_nil ?_
   refine Awp.cons C (fun _ => .pure) (by kernel_rfl) ?_ -- region 16 false
   refine rvc_prim C rfl rfl rfl rfl (trivial) rfl ?_
   refine rvc_prim C rfl rfl rfl rfl (trivial) rfl ?_
   refine rvc_un (rexec_sliceOwn C (l := i) rfl rfl rfl rfl rfl rfl (by omega) ?_)
   refine rvc_prim C rfl rfl rfl rfl (trivial) rfl ?_
   refine rvc_un (rexec_copyS C rfl rfl rfl rfl rfl rfl (e := eMember) v.D (encC eMember (insertL D i v.D) ++ (List.replicate (c * 3 - (encC eMember D).length) AV.undef).drop (v.D.length * 3)) rfl rfl rfl (by omega) (by rw [setRange_length (by simp only [encC_len, List.length_append, List.length_replicate, List.length_drop, show eMember.sz = 3 from rfl]; omega)]; simp only [encC_len, List.length_append, List.length_replicate, show eMember.sz = 3 from rfl]; omega) (by have := insert_inplace (e := eMember) (D := D) (M := v.D) (Z := List.replicate (c * 3 - (encC eMember D).length) AV.undef) (i := i) hi (by rw [List.length_replicate, encC_len]; simp [eMember]; omega); simpa [eMember] using this) ?_)
   refine rvc_nil ?_
   refine Awp.cons C (fun _ => .pure) (by kernel_rfl) ?_ -- region 17 false
   refine rvc_prim C rfl rfl rfl rfl (trivial) rfl ?_
   refine rvc_prim C rfl rfl rfl rfl (trivial) rfl ?_
   refine rvc_nil ?_
   refine Awp.trim 0 (encC eMember (insertL D i v.D)) ((List.replicate (c * 3 - (encC eMember D).length) AV.undef).drop (v.D.length * 3)) rfl ?_
   refine Awp.freezeW 0 (encL eMember (insertL D i v.D)) ?_ [(6, sS (some false) eMember (insertL D i v.D))] [] ?_ ?_ ?_
   · rfl
   · exact ⟨⟨_, rfl, .inl (.inr ⟨_, _, _, rfl, by simp only [sS]; congr 2; rw [insertL_len (D := D) (M := v.D) hi]⟩)⟩, trivial⟩
   · exact trivial
   refine Awp.ret ?_
   exact ⟨.inl rfl, rfl⟩
end Go.Proofs.Ytpgenmflgdkfiaa
/- Changes of chains. No conditions. -/
namespace Go.Proofs.Ytpgenmflgdkfiaa
open Go.Am
def join_l0 (c : Chain) (m : Member) : Nat → Int → Chain × Int
  | 0, _ => default
  | nn + 1, i => (bif (decide (i < (c.members.D.length : Int))) then (bif (decide ((c.members.D[i.toNat]!.site) ≤ m.site)) then join_l0 c m nn (IntKind.i64.wrap (i + 1)) else (bif (i == 0) then ((Chain.mk 0 (Sl.mk true [])), 152) else ((after c (Sl.mk false (insertL c.members.D i.toNat [(Member.mk m.node m.site true)]))), 0))) else (bif (i == 0) then ((Chain.mk 0 (Sl.mk true [])), 152) else ((after c (Sl.mk false (insertL c.members.D i.toNat [(Member.mk m.node m.site true)]))), 0)))
def join (c : Chain) (m : Member) : Chain × Int :=
  (bif ((check c) != 0) then ((Chain.mk 0 (Sl.mk true [])), (check c)) else (bif (!(member (Member.mk m.node m.site true))) then ((Chain.mk 0 (Sl.mk true [])), 81) else (bif (decide ((placeIn c m.node) ≥ 0)) then ((Chain.mk 0 (Sl.mk true [])), 82) else (bif (decide (c.epoch ≥ 1099511627776)) then ((Chain.mk 0 (Sl.mk true [])), 5) else join_l0 c m ((c.members.D.length - (0 : Int).toNat) + 1) 0))))
theorem join_calls (c : Chain) (m : Member) (hn : c.members.nil = true → c.members.D = []) (hl1 : c.members.D.length ≤ 1000000) : PCalls Try.prog 62 [.agg [.pv (.lit (.int .i64 c.epoch)), sS (some c.members.nil) eMember c.members.D], .agg [.pv (.lit (.int .i64 m.node)), .pv (.lit (.int .i64 m.site)), .pv (.lit (.bool m.fresh))]] (.tup [.agg [.pv (.lit (.int .i64 ((join c m).1.epoch))), sS (some (join c m).1.members.nil) eMember ((join c m).1.members.D)], .pv (.lit (.int .i64 ((join c m).2)))]) := by
 generalize hR : join c m = R
 refine PCalls.of_body tabOk Try.func62 rfl rfl rfl rfl rfl mixed fun E hP C hI => ?_
 refine Awp.consP C ?_
 refine rvc_un (rexec_prim C (δ := { v := .ptr 2 0, new := [(2, .cells [.pv (.lit (.int .i64 c.epoch)), sS (some c.members.nil) eMember c.members.D])] }) rfl rfl rfl rfl trivial rfl ?_)
 refine rvc_un (rexec_prim C (δ := { v := .ptr 3 0, new := [(3, .cells [.pv (.lit (.int .i64 m.node)), .pv (.lit (.int .i64 m.site)), .pv (.lit (.bool m.fresh))])] }) rfl rfl rfl rfl trivial rfl ?_)
 refine rvc_un (rexec_prim C (δ := { v := .ptr 4 0, new := [(4, .cells [.pv (.lit (.int .i64 0)), sS (some true) eMember []])] }) rfl rfl rfl rfl trivial rfl ?_)
 refine rvP C (.pv (.lit (.int .i64 0))) ?_
 refine rvc_nil ?_
 refine Awp.seq ?_
 refine Awp.consP C ?_
 refine rvP C (.agg [.pv (.lit (.int .i64 c.epoch)), sS (some c.members.nil) eMember c.members.D]) ?_
 refine rvc_un (rexec_call hP C rfl rfl rfl (check_calls c (Nat.le_trans hl1 (by decide))) ?_)
 refine rvP C (.pv (.lit (.int .i64 (check c)))) ?_
 refine rvc_nil ?_
 refine Awp.consP C ?_
 refine rvP C (.pv (.lit (.int .i64 (check c)))) ?_
 refine rvP C (.pv (.lit (.bool ((check c) != 0)))) ?_
 refine rvc_nil ?_
 refine Awp.cond (b := ((check c) != 0)) rfl (fun h1 => ?_) (fun h1 => ?_)
 ·
  replace hR := of_true h1 hR
  refine Awp.consP C ?_
  refine rvP C (.agg [.pv (.lit (.int .i64 0)), sS (some true) eMember []]) ?_
  refine rvP C (.pv (.lit (.int .i64 (check c)))) ?_
  refine rvc_un (rexec_prim C (δ := { v := .undef, wr := [(4, some (.cells [.pv (.lit (.int .i64 0)), sS (some true) eMember []]))] }) rfl rfl rfl rfl trivial rfl ?_)
  refine rvP C (.pv (.lit (.int .i64 (check c)))) ?_
  refine rvc_nil ?_
  refine Awp.ret ?_
  subst hR
  exact ⟨.inl rfl, rfl⟩
 ·
  replace hR := of_false h1 hR
  refine Awp.skip ?_
  refine Awp.consP C ?_
  refine rvP C (.ptr 3 2) ?_
  refine rvc_un (rexec_prim C (δ := { v := .undef, wr := [(3, some (.cells [.pv (.lit (.int .i64 m.node)), .pv (.lit (.int .i64 m.site)), .pv (.lit (.bool true))]))] }) rfl rfl rfl rfl trivial rfl ?_)
  refine rvc_nil ?_
  refine Awp.seq ?_
  refine Awp.block ?_
  refine Awp.consP C ?_
  refine rvP C (.agg [.pv (.lit (.int .i64 m.node)), .pv (.lit (.int .i64 m.site)), .pv (.lit (.bool true))]) ?_
  refine rvc_un (rexec_call hP C rfl rfl rfl (member_calls (Member.mk m.node m.site true)) ?_)
  refine rvP C (.pv (.lit (.bool (!(member (Member.mk m.node m.site true)))))) ?_
  refine rvP C (.pv (.lit (.bool (!(member (Member.mk m.node m.site true)))))) ?_
  refine rvc_nil ?_
  refine Awp.cond (b := (!(member (Member.mk m.node m.site true)))) rfl (fun h2 => ?_) (fun h2 => ?_)
  ·
   replace hR := of_true h2 hR
   refine Awp.consP C ?_
   refine rvP C (.agg [.pv (.lit (.int .i64 0)), sS (some true) eMember []]) ?_
   refine rvc_un (rexec_prim C (δ := { v := .undef, wr := [(4, some (.cells [.pv (.lit (.int .i64 0)), sS (some true) eMember []]))] }) rfl rfl rfl rfl trivial rfl ?_)
   refine rvP C (.pv (.lit (.int .i64 81))) ?_
   refine rvc_nil ?_
   refine Awp.ret ?_
   subst hR
   exact ⟨.inl rfl, rfl⟩
  ·
   replace hR := of_false h2 hR
   refine Awp.consP C ?_
   refine rvP C (.agg [.pv (.lit (.int .i64 c.epoch)), sS (some c.members.nil) eMember c.members.D]) ?_
   refine rvP C (.ptr 3 0) ?_
   refine rvP C (.pv (.lit (.int .i64 m.node))) ?_
   refine rvc_un (rexec_call hP C rfl rfl rfl (placeIn_calls c m.node (Nat.le_trans hl1 (by decide))) ?_)
   refine rvP C (.pv (.lit (.bool (decide ((placeIn c m.node) ≥ 0))))) ?_
   refine rvP C (.pv (.lit (.bool (decide ((placeIn c m.node) ≥ 0))))) ?_
   refine rvc_nil ?_
   refine Awp.cond (b := (decide ((placeIn c m.node) ≥ 0))) rfl (fun h3 => ?_) (fun h3 => ?_)
   ·
    replace hR := of_true h3 hR
    refine Awp.consP C ?_
    refine rvP C (.agg [.pv (.lit (.int .i64 0)), sS (some true) eMember []]) ?_
    refine rvc_un (rexec_prim C (δ := { v := .undef, wr := [(4, some (.cells [.pv (.lit (.int .i64 0)), sS (some true) eMember []]))] }) rfl rfl rfl rfl trivial rfl ?_)
    refine rvP C (.pv (.lit (.int .i64 82))) ?_
    refine rvc_nil ?_
    refine Awp.ret ?_
    subst hR
    exact ⟨.inl rfl, rfl⟩
   ·
    replace hR := of_false h3 hR
    refine Awp.consP C ?_
    refine rvP C (.ptr 2 0) ?_
    refine rvP C (.pv (.lit (.int .i64 c.epoch))) ?_
    refine rvP C (.pv (.lit (.bool (decide (c.epoch ≥ 1099511627776))))) ?_
    refine rvP C (.pv (.lit (.bool (decide (c.epoch ≥ 1099511627776))))) ?_
    refine rvc_nil ?_
    refine Awp.cond (b := (decide (c.epoch ≥ 1099511627776))) rfl (fun h4 => ?_) (fun h4 => ?_)
    ·
     replace hR := of_true h4 hR
     refine Awp.consP C ?_
     refine rvP C (.agg [.pv (.lit (.int .i64 0)), sS (some true) eMember []]) ?_
     refine rvc_un (rexec_prim C (δ := { v := .undef, wr := [(4, some (.cells [.pv (.lit (.int .i64 0)), sS (some true) eMember []]))] }) rfl rfl rfl rfl trivial rfl ?_)
     refine rvP C (.pv (.lit (.int .i64 5))) ?_
     refine rvc_nil ?_
     refine Awp.ret ?_
     subst hR
     exact ⟨.inl rfl, rfl⟩
    ·
     replace hR := of_false h4 hR
     refine Awp.skip ?_
     refine Awp.consP C ?_
     refine rvP C (.pv (.lit (.int .i64 0))) ?_
     refine rvc_nil ?_
     refine Awp.seq ?_
     refine Awp.block ?_
     refine Awp.forM (σ := Int) (fun v => [(2, .ptr 2 0), (3, .ptr 3 0), (4, .ptr 4 0), (7, .pv (.lit (.int .i64 v)))]) (fun v => [(2, .cells [.pv (.lit (.int .i64 c.epoch)), sS (some c.members.nil) eMember c.members.D]), (3, .cells [.pv (.lit (.int .i64 m.node)), .pv (.lit (.int .i64 m.site)), .pv (.lit (.bool true))]), (4, .cells [.pv (.lit (.int .i64 0)), sS (some true) eMember []])]) [2, 3, 4] (fun n v => n = (c.members.D.length - (v : Int).toNat) ∧ join_l0 c m ((c.members.D.length - (v : Int).toNat) + 1) v = R ∧ (0 ≤ v ∧ v ≤ (c.members.D.length : Int))) ((c.members.D.length - (0 : Int).toNat)) 0 ?_ ?_ (fun _ i h5 => ?_)
     · exact ⟨rfl, hR, by simp⟩
     · exact ⟨fun b => b, WeakerR.ofL (Ks := [2, 3, 4]) hI ⟨⟨rfl, rfl⟩, ⟨rfl, rfl⟩, ⟨rfl, rfl⟩, ⟨rfl, rfl⟩, trivial⟩ (okH_cons rfl rfl rfl rfl (okH_cons rfl rfl rfl rfl (okH_cons rfl rfl rfl rfl (okH_nil)))) rfl⟩
     obtain ⟨rfl, hR, hV⟩ := h5
     refine Awp.seq ?_
     refine Awp.consP C ?_
     refine rvP C (.pv (.lit (.int .i64 i))) ?_
     refine rvP C (.ptr 2 1) ?_
     refine rvP C (sS (some c.members.nil) eMember c.members.D) ?_
     refine rvP C (.pv (.lit (.int .i64 (c.members.D.length : Int)))) ?_
     refine rvP C (.pv (.lit (.bool (decide (i < (c.members.D.length : Int)))))) ?_
     refine rvP C (.pv (.lit (.bool (decide (i < (c.members.D.length : Int)))))) ?_
     refine rvc_case 37 (decide (i < (c.members.D.length : Int))) rfl (fun h7 => ?_) (fun h7 => ?_)
     ·
      replace hR := of_true h7 hR
      refine rvO C (.ptr 2 1) ?_
      refine rvO C (sS (some c.members.nil) eMember c.members.D) ?_
      refine rvO C (.pv (.lit (.int .i64 i))) ?_
      have h8 : c.members.D[i.toNat]? = some c.members.D[i.toNat]! := getE (by have := check_len (c := c); have := check_le6 (c := c); have := placeIn_lt c m.node; have := eq_of_bne_false h1; have := of_decide_eq_false h3; have := of_decide_eq_false h4; have := of_decide_eq_true h7; omega)
      refine rvc_open rfl rfl rfl (rexec_idxS C rfl rfl rfl rfl rfl rfl (c.members.D[i.toNat]!) (by have := check_len (c := c); have := check_le6 (c := c); have := placeIn_lt c m.node; have := eq_of_bne_false h1; have := of_decide_eq_false h3; have := of_decide_eq_false h4; have := of_decide_eq_true h7; omega) h8 ?_)
      refine rvO C (.rp [.lit (.int .i64 (c.members.D[i.toNat]!.site))]) ?_
      refine rvO C (.pv (.lit (.int .i64 (c.members.D[i.toNat]!.site)))) ?_
      refine rvO C (.ptr 3 1) ?_
      refine rvO C (.pv (.lit (.int .i64 m.site))) ?_
      refine rvO C (.pv (.lit (.bool (decide ((c.members.D[i.toNat]!.site) ≤ m.site))))) ?_
      refine rvP C (.pv (.lit (.bool (decide ((c.members.D[i.toNat]!.site) ≤ m.site))))) ?_
      refine rvc_nil ?_
      refine Awp.cond (b := (decide ((c.members.D[i.toNat]!.site) ≤ m.site))) rfl (fun h9 => ?_) (fun h9 => ?_)
      ·
       replace hR := of_true h9 hR
       refine Awp.skip ?_
       refine Awp.block ?_
       refine Awp.regionP C ?_
       refine rvP C (.pv (.lit (.int .i64 i))) ?_
       refine rvP C (.pv (.lit (.int .i64 (IntKind.i64.wrap (i + 1))))) ?_
       refine rvP C (.pv (.lit (.int .i64 (IntKind.i64.wrap (i + 1))))) ?_
       refine rvc_nil ?_
       refine ⟨_, (IntKind.i64.wrap (i + 1)), ?_, ⟨rfl, (by rw [show (c.members.D.length - ((IntKind.i64.wrap (i + 1)) : Int).toNat) + 1 = (c.members.D.length - (i : Int).toNat) by have := wrapI (i + 1); have := check_len (c := c); have := check_le6 (c := c); have := placeIn_lt c m.node; have := eq_of_bne_false h1; have := of_decide_eq_false h3; have := of_decide_eq_false h4; have := of_decide_eq_true h7; have := of_decide_eq_true h9; first | omega | (simp only [List.length_drop]; omega)]; exact hR), (by have := wrapI (i + 1); have := check_len (c := c); have := check_le6 (c := c); have := placeIn_lt c m.node; have := eq_of_bne_false h1; have := of_decide_eq_false h3; have := of_decide_eq_false h4; have := of_decide_eq_true h7; have := of_decide_eq_true h9; omega)⟩, ?_⟩
       · show (c.members.D.length - ((IntKind.i64.wrap (i + 1)) : Int).toNat) < (c.members.D.length - (i : Int).toNat); have := wrapI (i + 1); have := check_len (c := c); have := check_le6 (c := c); have := placeIn_lt c m.node; have := eq_of_bne_false h1; have := of_decide_eq_false h3; have := of_decide_eq_false h4; have := of_decide_eq_true h7; have := of_decide_eq_true h9; first | omega | (simp only [List.length_drop]; omega)
       · exact ⟨fun b => b, WeakerR.ofL (Ks := [2, 3, 4]) hI ⟨⟨rfl, rfl⟩, ⟨rfl, rfl⟩, ⟨rfl, rfl⟩, ⟨rfl, rfl⟩, trivial⟩ (okH_cons rfl rfl rfl rfl (okH_cons rfl rfl rfl rfl (okH_cons rfl rfl rfl rfl (okH_nil)))) rfl⟩
      ·
       replace hR := of_false h9 hR
       refine Awp.exit ?_
       refine Awp.seq ?_
       refine Awp.consP C ?_
       refine rvP C (.pv (.lit (.int .i64 i))) ?_
       refine rvP C (.pv (.lit (.bool (i == 0)))) ?_
       refine rvc_nil ?_
       refine Awp.cond (b := (i == 0)) rfl (fun h10 => ?_) (fun h10 => ?_)
       ·
        replace hR := of_true h10 hR
        refine Awp.consP C ?_
        refine rvP C (.agg [.pv (.lit (.int .i64 0)), sS (some true) eMember []]) ?_
        refine rvc_un (rexec_prim C (δ := { v := .undef, wr := [(4, some (.cells [.pv (.lit (.int .i64 0)), sS (some true) eMember []]))] }) rfl rfl rfl rfl trivial rfl ?_)
        refine rvP C (.pv (.lit (.int .i64 152))) ?_
        refine rvc_nil ?_
        refine Awp.ret ?_
        subst hR
        exact ⟨.inl rfl, rfl⟩
       ·
        replace hR := of_false h10 hR
        refine Awp.skip ?_
        refine Awp.cons C (fun o => match o.dst with | some 53 => .reads [2] | some 55 => .reads [2] | some 58 => .reads [3] | some 60 => .writes [56] | some 56 => .quiet | _ => .pure) (by kernel_rfl) ?_
        refine rvP C (.agg [.pv (.lit (.int .i64 c.epoch)), sS (some c.members.nil) eMember c.members.D]) ?_
        refine rvP C (.ptr 2 1) ?_
        refine rvP C (sS (some c.members.nil) eMember c.members.D) ?_
        refine rvc_un (rexec_callO hP C rfl rfl rfl rfl (cloneO_calls c.members (nil_false hn (by have := check_len (c := c); have := check_le6 (c := c); have := placeIn_lt c m.node; have := eq_of_bne_false h1; have := of_decide_eq_false h3; have := of_decide_eq_false h4; have := of_decide_eq_true h7; have := of_decide_eq_false h9; have := ne_of_beq_false h10; omega)) hl1) ?_)
        refine rvP C (.pv (.lit (.int .i64 i))) ?_
        refine rvP C (.agg [.pv (.lit (.int .i64 m.node)), .pv (.lit (.int .i64 m.site)), .pv (.lit (.bool true))]) ?_
        refine rvc_un (rexec_buildSliceF C eMember [(Member.mk m.node m.site true)] rfl rfl rfl rfl rfl rfl rfl (by decide) rfl ?_)
        refine rvc_slot 57 (.pv (.lit (.int .i64 ((i.toNat : Nat) : Int)))) (by rw [show ((i.toNat : Nat) : Int) = i by omega]; rfl) ?_
        refine rvc_un (rexec_callX hP C (b := 56) rfl rfl rfl (insertM_calls c.members.D i.toNat (Sl.mk false [(Member.mk m.node m.site true)]) (by have := check_len (c := c); have := check_le6 (c := c); have := placeIn_lt c m.node; have := eq_of_bne_false h1; have := of_decide_eq_false h3; have := of_decide_eq_false h4; have := of_decide_eq_true h7; have := of_decide_eq_false h9; have := ne_of_beq_false h10; omega) (by simp) hl1 (by simp)) rfl rfl ?_)
        refine rvc_un (rexec_call hP C rfl rfl rfl (after_calls c (Sl.mk false (insertL c.members.D i.toNat [(Member.mk m.node m.site true)]))) ?_)
        refine rvc_un (rexec_prim C (δ := { v := .undef, wr := [(4, some (.cells [.pv (.lit (.int .i64 ((after c (Sl.mk false (insertL c.members.D i.toNat [(Member.mk m.node m.site true)]))).epoch))), sS (some (after c (Sl.mk false (insertL c.members.D i.toNat [(Member.mk m.node m.site true)]))).members.nil) eMember ((after c (Sl.mk false (insertL c.members.D i.toNat [(Member.mk m.node m.site true)]))).members.D)]))] }) rfl rfl rfl rfl trivial rfl ?_)
        refine rvP C (.pv (.lit (.int .i64 0))) ?_
        refine rvc_nil ?_
        refine Awp.ret ?_
        subst hR
        exact ⟨.inl rfl, rfl⟩
     ·
      replace hR := of_false h7 hR
      refine rvS ?_
      refine rvS ?_
      refine rvS ?_
      refine rvS ?_
      refine rvS ?_
      refine rvS ?_
      refine rvS ?_
      refine rvS ?_
      refine rvS ?_
      refine rvP C (.pv (.lit (.bool false))) ?_
      refine rvc_nil ?_
      refine Awp.condF (b := false) rfl rfl ?_
      refine Awp.exit ?_
      refine Awp.seq ?_
      refine Awp.consP C ?_
      refine rvP C (.pv (.lit (.int .i64 i))) ?_
      refine rvP C (.pv (.lit (.bool (i == 0)))) ?_
      refine rvc_nil ?_
      refine Awp.cond (b := (i == 0)) rfl (fun h11 => ?_) (fun h11 => ?_)
      ·
       replace hR := of_true h11 hR
       refine Awp.consP C ?_
       refine rvP C (.agg [.pv (.lit (.int .i64 0)), sS (some true) eMember []]) ?_
       refine rvc_un (rexec_prim C (δ := { v := .undef, wr := [(4, some (.cells [.pv (.lit (.int .i64 0)), sS (some true) eMember []]))] }) rfl rfl rfl rfl trivial rfl ?_)
       refine rvP C (.pv (.lit (.int .i64 152))) ?_
       refine rvc_nil ?_
       refine Awp.ret ?_
       subst hR
       exact ⟨.inl rfl, rfl⟩
      ·
       replace hR := of_false h11 hR
       refine Awp.skip ?_
       refine Awp.cons C (fun o => match o.dst with | some 53 => .reads [2] | some 55 => .reads [2] | some 58 => .reads [3] | some 60 => .writes [56] | some 56 => .quiet | _ => .pure) (by kernel_rfl) ?_
       refine rvP C (.agg [.pv (.lit (.int .i64 c.epoch)), sS (some c.members.nil) eMember c.members.D]) ?_
       refine rvP C (.ptr 2 1) ?_
       refine rvP C (sS (some c.members.nil) eMember c.members.D) ?_
       refine rvc_un (rexec_callO hP C rfl rfl rfl rfl (cloneO_calls c.members (nil_false hn (by have := check_len (c := c); have := check_le6 (c := c); have := placeIn_lt c m.node; have := eq_of_bne_false h1; have := of_decide_eq_false h3; have := of_decide_eq_false h4; have := of_decide_eq_false h7; have := ne_of_beq_false h11; omega)) hl1) ?_)
       refine rvP C (.pv (.lit (.int .i64 i))) ?_
       refine rvP C (.agg [.pv (.lit (.int .i64 m.node)), .pv (.lit (.int .i64 m.site)), .pv (.lit (.bool true))]) ?_
       refine rvc_un (rexec_buildSliceF C eMember [(Member.mk m.node m.site true)] rfl rfl rfl rfl rfl rfl rfl (by decide) rfl ?_)
       refine rvc_slot 57 (.pv (.lit (.int .i64 ((i.toNat : Nat) : Int)))) (by rw [show ((i.toNat : Nat) : Int) = i by omega]; rfl) ?_
       refine rvc_un (rexec_callX hP C (b := 56) rfl rfl rfl (insertM_calls c.members.D i.toNat (Sl.mk false [(Member.mk m.node m.site true)]) (by have := check_len (c := c); have := check_le6 (c := c); have := placeIn_lt c m.node; have := eq_of_bne_false h1; have := of_decide_eq_false h3; have := of_decide_eq_false h4; have := of_decide_eq_false h7; have := ne_of_beq_false h11; omega) (by simp) hl1 (by simp)) rfl rfl ?_)
       refine rvc_un (rexec_call hP C rfl rfl rfl (after_calls c (Sl.mk false (insertL c.members.D i.toNat [(Member.mk m.node m.site true)]))) ?_)
       refine rvc_un (rexec_prim C (δ := { v := .undef, wr := [(4, some (.cells [.pv (.lit (.int .i64 ((after c (Sl.mk false (insertL c.members.D i.toNat [(Member.mk m.node m.site true)]))).epoch))), sS (some (after c (Sl.mk false (insertL c.members.D i.toNat [(Member.mk m.node m.site true)]))).members.nil) eMember ((after c (Sl.mk false (insertL c.members.D i.toNat [(Member.mk m.node m.site true)]))).members.D)]))] }) rfl rfl rfl rfl trivial rfl ?_)
       refine rvP C (.pv (.lit (.int .i64 0))) ?_
       refine rvc_nil ?_
       refine Awp.ret ?_
       subst hR
       exact ⟨.inl rfl, rfl⟩
def drop (c : Chain) (node : Int) : Chain × Int :=
  (bif ((check c) != 0) then ((Chain.mk 0 (Sl.mk true [])), (check c)) else ((without c (maskOf (Sl.mk false [node]))).1, (without c (maskOf (Sl.mk false [node]))).2))
theorem drop_calls (c : Chain) (node : Int) (hl1 : c.members.D.length ≤ 1000000) : PCalls Try.prog 60 [.agg [.pv (.lit (.int .i64 c.epoch)), sS (some c.members.nil) eMember c.members.D], .pv (.lit (.int .i64 node))] (.tup [.agg [.pv (.lit (.int .i64 ((drop c node).1.epoch))), sS (some (drop c node).1.members.nil) eMember ((drop c node).1.members.D)], .pv (.lit (.int .i64 ((drop c node).2)))]) := by
 generalize hR : drop c node = R
 refine PCalls.of_body tabOk Try.func60 rfl rfl rfl rfl rfl mixed fun E hP C hI => ?_
 refine Awp.consP C ?_
 refine rvc_un (rexec_prim C (δ := { v := .ptr 2 0, new := [(2, .cells [.pv (.lit (.int .i64 c.epoch)), sS (some c.members.nil) eMember c.members.D])] }) rfl rfl rfl rfl trivial rfl ?_)
 refine rvc_un (rexec_prim C (δ := { v := .ptr 4 0, new := [(4, .cells [.pv (.lit (.int .i64 0)), sS (some true) eMember []])] }) rfl rfl rfl rfl trivial rfl ?_)
 refine rvP C (.pv (.lit (.int .i64 0))) ?_
 refine rvc_nil ?_
 refine Awp.seq ?_
 refine Awp.consP C ?_
 refine rvP C (.agg [.pv (.lit (.int .i64 c.epoch)), sS (some c.members.nil) eMember c.members.D]) ?_
 refine rvc_un (rexec_call hP C rfl rfl rfl (check_calls c (Nat.le_trans hl1 (by decide))) ?_)
 refine rvP C (.pv (.lit (.int .i64 (check c)))) ?_
 refine rvc_nil ?_
 refine Awp.consP C ?_
 refine rvP C (.pv (.lit (.int .i64 (check c)))) ?_
 refine rvP C (.pv (.lit (.bool ((check c) != 0)))) ?_
 refine rvc_nil ?_
 refine Awp.cond (b := ((check c) != 0)) rfl (fun h1 => ?_) (fun h1 => ?_)
 ·
  replace hR := of_true h1 hR
  refine Awp.consP C ?_
  refine rvP C (.agg [.pv (.lit (.int .i64 0)), sS (some true) eMember []]) ?_
  refine rvP C (.pv (.lit (.int .i64 (check c)))) ?_
  refine rvc_un (rexec_prim C (δ := { v := .undef, wr := [(4, some (.cells [.pv (.lit (.int .i64 0)), sS (some true) eMember []]))] }) rfl rfl rfl rfl trivial rfl ?_)
  refine rvP C (.pv (.lit (.int .i64 (check c)))) ?_
  refine rvc_nil ?_
  refine Awp.ret ?_
  subst hR
  exact ⟨.inl rfl, rfl⟩
 ·
  replace hR := of_false h1 hR
  refine Awp.skip ?_
  refine Awp.consP C ?_
  refine rvP C (.agg [.pv (.lit (.int .i64 c.epoch)), sS (some c.members.nil) eMember c.members.D]) ?_
  refine rvP C (.pv (.lit (.int .i64 node))) ?_
  refine rvc_un (rexec_buildSliceF C (eI .i64) [node] rfl rfl rfl rfl rfl rfl rfl (by decide) rfl ?_)
  refine rvc_un (rexec_call hP C rfl rfl rfl (maskOf_calls (Sl.mk false [node]) (by simp)) ?_)
  refine rvc_un (rexec_call hP C rfl rfl rfl (without_calls c (maskOf (Sl.mk false [node])) hl1) ?_)
  refine rvP C (.agg [.pv (.lit (.int .i64 ((without c (maskOf (Sl.mk false [node]))).1.epoch))), sS (some (without c (maskOf (Sl.mk false [node]))).1.members.nil) eMember ((without c (maskOf (Sl.mk false [node]))).1.members.D)]) ?_
  refine rvP C (.pv (.lit (.int .i64 ((without c (maskOf (Sl.mk false [node]))).2)))) ?_
  refine rvc_un (rexec_prim C (δ := { v := .undef, wr := [(4, some (.cells [.pv (.lit (.int .i64 ((without c (maskOf (Sl.mk false [node]))).1.epoch))), sS (some (without c (maskOf (Sl.mk false [node]))).1.members.nil) eMember ((without c (maskOf (Sl.mk false [node]))).1.members.D)]))] }) rfl rfl rfl rfl trivial rfl ?_)
  refine rvP C (.pv (.lit (.int .i64 ((without c (maskOf (Sl.mk false [node]))).2)))) ?_
  refine rvc_nil ?_
  refine Awp.ret ?_
  subst hR
  exact ⟨.inl rfl, rfl⟩
def dropSite_l0 (c : Chain) (site : Int) : List Member → Nat → Int → Chain × Int
  | [], _, gone => ((without c gone).1, (without c gone).2)
  | x :: xs, i, gone => (bif (x.site == site) then dropSite_l0 c site xs (i + 1) (mWith gone x.node) else dropSite_l0 c site xs (i + 1) gone)
def dropSite (c : Chain) (site : Int) : Chain × Int :=
  (bif ((check c) != 0) then ((Chain.mk 0 (Sl.mk true [])), (check c)) else dropSite_l0 c site c.members.D 0 0)
theorem dropSite_calls (c : Chain) (site : Int) (hl1 : c.members.D.length ≤ 1000000) : PCalls Try.prog 61 [.agg [.pv (.lit (.int .i64 c.epoch)), sS (some c.members.nil) eMember c.members.D], .pv (.lit (.int .i64 site))] (.tup [.agg [.pv (.lit (.int .i64 ((dropSite c site).1.epoch))), sS (some (dropSite c site).1.members.nil) eMember ((dropSite c site).1.members.D)], .pv (.lit (.int .i64 ((dropSite c site).2)))]) := by
 generalize hR : dropSite c site = R
 refine PCalls.of_body tabOk Try.func61 rfl rfl rfl rfl rfl mixed fun E hP C hI => ?_
 refine Awp.consP C ?_
 refine rvc_un (rexec_prim C (δ := { v := .ptr 2 0, new := [(2, .cells [.pv (.lit (.int .i64 c.epoch)), sS (some c.members.nil) eMember c.members.D])] }) rfl rfl rfl rfl trivial rfl ?_)
 refine rvc_un (rexec_prim C (δ := { v := .ptr 4 0, new := [(4, .cells [.pv (.lit (.int .i64 0)), sS (some true) eMember []])] }) rfl rfl rfl rfl trivial rfl ?_)
 refine rvP C (.pv (.lit (.int .i64 0))) ?_
 refine rvc_nil ?_
 refine Awp.seq ?_
 refine Awp.consP C ?_
 refine rvP C (.agg [.pv (.lit (.int .i64 c.epoch)), sS (some c.members.nil) eMember c.members.D]) ?_
 refine rvc_un (rexec_call hP C rfl rfl rfl (check_calls c (Nat.le_trans hl1 (by decide))) ?_)
 refine rvP C (.pv (.lit (.int .i64 (check c)))) ?_
 refine rvc_nil ?_
 refine Awp.consP C ?_
 refine rvP C (.pv (.lit (.int .i64 (check c)))) ?_
 refine rvP C (.pv (.lit (.bool ((check c) != 0)))) ?_
 refine rvc_nil ?_
 refine Awp.cond (b := ((check c) != 0)) rfl (fun h1 => ?_) (fun h1 => ?_)
 ·
  replace hR := of_true h1 hR
  refine Awp.consP C ?_
  refine rvP C (.agg [.pv (.lit (.int .i64 0)), sS (some true) eMember []]) ?_
  refine rvP C (.pv (.lit (.int .i64 (check c)))) ?_
  refine rvc_un (rexec_prim C (δ := { v := .undef, wr := [(4, some (.cells [.pv (.lit (.int .i64 0)), sS (some true) eMember []]))] }) rfl rfl rfl rfl trivial rfl ?_)
  refine rvP C (.pv (.lit (.int .i64 (check c)))) ?_
  refine rvc_nil ?_
  refine Awp.ret ?_
  subst hR
  exact ⟨.inl rfl, rfl⟩
 ·
  replace hR := of_false h1 hR
  refine Awp.skip ?_
  refine Awp.consP C ?_
  refine rvP C (.pv (.lit (.int .u64 0))) ?_
  refine rvc_nil ?_
  refine Awp.seq ?_
  refine Awp.consP C ?_
  refine rvP C (.ptr 2 1) ?_
  refine rvP C (sS (some c.members.nil) eMember c.members.D) ?_
  refine rvP C (.pv (.lit (.int .i64 (c.members.D.length : Int)))) ?_
  refine rvP C (.pv (.lit (.int .i64 0))) ?_
  refine rvc_nil ?_
  refine Awp.block ?_
  refine Awp.forR (σ := Int) (c.members.D.length) (fun i v => [(1, .pv (.lit (.int .i64 site))), (2, .ptr 2 0), (4, .ptr 4 0), (7, .pv (.lit (.int .u64 v))), (17, sS (some c.members.nil) eMember c.members.D), (18, .pv (.lit (.int .i64 (c.members.D.length : Int)))), (19, .pv (.lit (.int .i64 (i : Int))))]) (fun i v => [(2, .cells [.pv (.lit (.int .i64 c.epoch)), sS (some c.members.nil) eMember c.members.D]), (4, .cells [.pv (.lit (.int .i64 0)), sS (some true) eMember []])]) [2, 4] (fun i v => dropSite_l0 c site (c.members.D.drop i) i v = R) 0 ?_ ?_ (fun i gone h2 hR => ?_)
  · exact hR
  · exact ⟨fun b => b, WeakerR.ofL (Ks := [2, 4]) hI ⟨⟨rfl, rfl⟩, ⟨rfl, rfl⟩, ⟨rfl, rfl⟩, ⟨rfl, rfl⟩, ⟨rfl, rfl⟩, ⟨rfl, rfl⟩, ⟨rfl, rfl⟩, trivial⟩ (okH_cons rfl rfl rfl rfl (okH_cons rfl rfl rfl rfl (okH_nil))) rfl⟩
  refine Awp.consP C ?_
  refine rvP C (.pv (.lit (.bool (decide ((i : Int) < (c.members.D.length : Int)))))) ?_
  refine rvc_nil ?_
  refine Awp.seq ?_
  refine Awp.cond (b := (decide ((i : Int) < (c.members.D.length : Int)))) rfl (fun h3 => ?_) (fun h3 => ?_)
  ·
   have h4 : i < c.members.D.length := by have := of_decide_eq_true h3; omega
   obtain ⟨x, h5⟩ := getX h4
   rw [drop_at h5] at hR
   refine Awp.skip ?_
   refine Awp.seq ?_
   refine Awp.block ?_
   refine Awp.consP C ?_
   refine rvc_un (rexec_idxS C rfl rfl rfl rfl rfl rfl x (Int.natCast_nonneg _) h5 ?_)
   refine rvP C (.agg [.pv (.lit (.int .i64 x.node)), .pv (.lit (.int .i64 x.site)), .pv (.lit (.bool x.fresh))]) ?_
   refine rvc_un (rexec_prim C (δ := { v := .ptr 9 0, new := [(9, .cells [.pv (.lit (.int .i64 0)), .pv (.lit (.int .i64 0)), .pv (.lit (.bool false))])] }) rfl rfl rfl rfl trivial rfl ?_)
   refine rvc_un (rexec_prim C (δ := { v := .undef, wr := [(9, some (.cells [.pv (.lit (.int .i64 x.node)), .pv (.lit (.int .i64 x.site)), .pv (.lit (.bool x.fresh))]))] }) rfl rfl rfl rfl trivial rfl ?_)
   refine rvc_nil ?_
   refine Awp.consP C ?_
   refine rvP C (.ptr 9 1) ?_
   refine rvP C (.pv (.lit (.int .i64 x.site))) ?_
   refine rvP C (.pv (.lit (.int .i64 site))) ?_
   refine rvP C (.pv (.lit (.bool (x.site == site)))) ?_
   refine rvc_nil ?_
   refine Awp.cond (b := (x.site == site)) rfl (fun h6 => ?_) (fun h6 => ?_)
   ·
    replace hR := of_true h6 hR
    refine Awp.regionP C ?_
    refine rvP C (.pv (.lit (.int .u64 gone))) ?_
    refine rvP C (.ptr 9 0) ?_
    refine rvP C (.pv (.lit (.int .i64 x.node))) ?_
    refine rvc_un (rexec_call hP C rfl rfl rfl (mWith_calls gone x.node) ?_)
    refine rvP C (.pv (.lit (.int .u64 (mWith gone x.node)))) ?_
    refine rvc_nil ?_
    refine Awp.regionP C ?_
    refine rvP C (.pv (.lit (.int .i64 (IntKind.i64.wrap ((i : Int) + 1))))) ?_
    refine rvP C (.pv (.lit (.int .i64 (IntKind.i64.wrap ((i : Int) + 1))))) ?_
    refine rvc_nil ?_
    refine ⟨h4, (mWith gone x.node), ?_, ?_⟩
    · exact hR
    · exact ⟨fun b => b, WeakerR.ofL (Ks := [2, 4]) hI ⟨⟨rfl, rfl⟩, ⟨rfl, rfl⟩, ⟨rfl, rfl⟩, ⟨rfl, rfl⟩, ⟨rfl, rfl⟩, ⟨rfl, rfl⟩, ⟨lit_cast (wrap_i64 (by omega) (by omega)), rfl⟩, trivial⟩ (okH_cons rfl rfl rfl rfl (okH_cons rfl rfl rfl rfl (okH_nil))) rfl⟩
   ·
    replace hR := of_false h6 hR
    refine Awp.skip ?_
    refine Awp.regionP C ?_
    refine rvP C (.pv (.lit (.int .i64 (IntKind.i64.wrap ((i : Int) + 1))))) ?_
    refine rvP C (.pv (.lit (.int .i64 (IntKind.i64.wrap ((i : Int) + 1))))) ?_
    refine rvc_nil ?_
    refine ⟨h4, gone, ?_, ?_⟩
    · exact hR
    · exact ⟨fun b => b, WeakerR.ofL (Ks := [2, 4]) hI ⟨⟨rfl, rfl⟩, ⟨rfl, rfl⟩, ⟨rfl, rfl⟩, ⟨rfl, rfl⟩, ⟨rfl, rfl⟩, ⟨rfl, rfl⟩, ⟨lit_cast (wrap_i64 (by omega) (by omega)), rfl⟩, trivial⟩ (okH_cons rfl rfl rfl rfl (okH_cons rfl rfl rfl rfl (okH_nil))) rfl⟩
  ·
   have h4 : ¬ i < c.members.D.length := by have := of_decide_eq_false h3; omega
   rw [drop_end h4] at hR
   refine Awp.exit ?_
   refine Awp.consP C ?_
   refine rvP C (.agg [.pv (.lit (.int .i64 c.epoch)), sS (some c.members.nil) eMember c.members.D]) ?_
   refine rvP C (.pv (.lit (.int .u64 gone))) ?_
   refine rvc_un (rexec_call hP C rfl rfl rfl (without_calls c gone hl1) ?_)
   refine rvP C (.agg [.pv (.lit (.int .i64 ((without c gone).1.epoch))), sS (some (without c gone).1.members.nil) eMember ((without c gone).1.members.D)]) ?_
   refine rvP C (.pv (.lit (.int .i64 ((without c gone).2)))) ?_
   refine rvc_un (rexec_prim C (δ := { v := .undef, wr := [(4, some (.cells [.pv (.lit (.int .i64 ((without c gone).1.epoch))), sS (some (without c gone).1.members.nil) eMember ((without c gone).1.members.D)]))] }) rfl rfl rfl rfl trivial rfl ?_)
   refine rvP C (.pv (.lit (.int .i64 ((without c gone).2)))) ?_
   refine rvc_nil ?_
   refine Awp.ret ?_
   subst hR
   exact ⟨.inl rfl, rfl⟩
def again (c : Chain) (node : Int) : Chain × Int :=
  (bif ((check c) != 0) then ((Chain.mk 0 (Sl.mk true [])), (check c)) else (bif (decide ((placeIn c node) < 0)) then ((Chain.mk 0 (Sl.mk true [])), 81) else (bif (decide (c.epoch ≥ 1099511627776)) then ((Chain.mk 0 (Sl.mk true [])), 5) else ((after c (cloneMembers c.members)), 0))))
theorem again_calls (c : Chain) (node : Int) (hl1 : c.members.D.length ≤ 1000000) : PCalls Try.prog 63 [.agg [.pv (.lit (.int .i64 c.epoch)), sS (some c.members.nil) eMember c.members.D], .pv (.lit (.int .i64 node))] (.tup [.agg [.pv (.lit (.int .i64 ((again c node).1.epoch))), sS (some (again c node).1.members.nil) eMember ((again c node).1.members.D)], .pv (.lit (.int .i64 ((again c node).2)))]) := by
 generalize hR : again c node = R
 refine PCalls.of_body tabOk Try.func63 rfl rfl rfl rfl rfl mixed fun E hP C hI => ?_
 refine Awp.consP C ?_
 refine rvc_un (rexec_prim C (δ := { v := .ptr 2 0, new := [(2, .cells [.pv (.lit (.int .i64 c.epoch)), sS (some c.members.nil) eMember c.members.D])] }) rfl rfl rfl rfl trivial rfl ?_)
 refine rvc_un (rexec_prim C (δ := { v := .ptr 4 0, new := [(4, .cells [.pv (.lit (.int .i64 0)), sS (some true) eMember []])] }) rfl rfl rfl rfl trivial rfl ?_)
 refine rvP C (.pv (.lit (.int .i64 0))) ?_
 refine rvc_nil ?_
 refine Awp.seq ?_
 refine Awp.consP C ?_
 refine rvP C (.agg [.pv (.lit (.int .i64 c.epoch)), sS (some c.members.nil) eMember c.members.D]) ?_
 refine rvc_un (rexec_call hP C rfl rfl rfl (check_calls c (Nat.le_trans hl1 (by decide))) ?_)
 refine rvP C (.pv (.lit (.int .i64 (check c)))) ?_
 refine rvc_nil ?_
 refine Awp.consP C ?_
 refine rvP C (.pv (.lit (.int .i64 (check c)))) ?_
 refine rvP C (.pv (.lit (.bool ((check c) != 0)))) ?_
 refine rvc_nil ?_
 refine Awp.cond (b := ((check c) != 0)) rfl (fun h1 => ?_) (fun h1 => ?_)
 ·
  replace hR := of_true h1 hR
  refine Awp.consP C ?_
  refine rvP C (.agg [.pv (.lit (.int .i64 0)), sS (some true) eMember []]) ?_
  refine rvP C (.pv (.lit (.int .i64 (check c)))) ?_
  refine rvc_un (rexec_prim C (δ := { v := .undef, wr := [(4, some (.cells [.pv (.lit (.int .i64 0)), sS (some true) eMember []]))] }) rfl rfl rfl rfl trivial rfl ?_)
  refine rvP C (.pv (.lit (.int .i64 (check c)))) ?_
  refine rvc_nil ?_
  refine Awp.ret ?_
  subst hR
  exact ⟨.inl rfl, rfl⟩
 ·
  replace hR := of_false h1 hR
  refine Awp.skip ?_
  refine Awp.seq ?_
  refine Awp.block ?_
  refine Awp.consP C ?_
  refine rvP C (.agg [.pv (.lit (.int .i64 c.epoch)), sS (some c.members.nil) eMember c.members.D]) ?_
  refine rvP C (.pv (.lit (.int .i64 node))) ?_
  refine rvc_un (rexec_call hP C rfl rfl rfl (placeIn_calls c node (Nat.le_trans hl1 (by decide))) ?_)
  refine rvP C (.pv (.lit (.bool (decide ((placeIn c node) < 0))))) ?_
  refine rvP C (.pv (.lit (.bool (decide ((placeIn c node) < 0))))) ?_
  refine rvc_nil ?_
  refine Awp.cond (b := (decide ((placeIn c node) < 0))) rfl (fun h2 => ?_) (fun h2 => ?_)
  ·
   replace hR := of_true h2 hR
   refine Awp.consP C ?_
   refine rvP C (.agg [.pv (.lit (.int .i64 0)), sS (some true) eMember []]) ?_
   refine rvc_un (rexec_prim C (δ := { v := .undef, wr := [(4, some (.cells [.pv (.lit (.int .i64 0)), sS (some true) eMember []]))] }) rfl rfl rfl rfl trivial rfl ?_)
   refine rvP C (.pv (.lit (.int .i64 81))) ?_
   refine rvc_nil ?_
   refine Awp.ret ?_
   subst hR
   exact ⟨.inl rfl, rfl⟩
  ·
   replace hR := of_false h2 hR
   refine Awp.consP C ?_
   refine rvP C (.ptr 2 0) ?_
   refine rvP C (.pv (.lit (.int .i64 c.epoch))) ?_
   refine rvP C (.pv (.lit (.bool (decide (c.epoch ≥ 1099511627776))))) ?_
   refine rvP C (.pv (.lit (.bool (decide (c.epoch ≥ 1099511627776))))) ?_
   refine rvc_nil ?_
   refine Awp.cond (b := (decide (c.epoch ≥ 1099511627776))) rfl (fun h3 => ?_) (fun h3 => ?_)
   ·
    replace hR := of_true h3 hR
    refine Awp.consP C ?_
    refine rvP C (.agg [.pv (.lit (.int .i64 0)), sS (some true) eMember []]) ?_
    refine rvc_un (rexec_prim C (δ := { v := .undef, wr := [(4, some (.cells [.pv (.lit (.int .i64 0)), sS (some true) eMember []]))] }) rfl rfl rfl rfl trivial rfl ?_)
    refine rvP C (.pv (.lit (.int .i64 5))) ?_
    refine rvc_nil ?_
    refine Awp.ret ?_
    subst hR
    exact ⟨.inl rfl, rfl⟩
   ·
    replace hR := of_false h3 hR
    refine Awp.skip ?_
    refine Awp.consP C ?_
    refine rvP C (.agg [.pv (.lit (.int .i64 c.epoch)), sS (some c.members.nil) eMember c.members.D]) ?_
    refine rvP C (.ptr 2 1) ?_
    refine rvP C (sS (some c.members.nil) eMember c.members.D) ?_
    refine rvc_un (rexec_call hP C rfl rfl rfl (cloneMembers_calls c.members hl1) ?_)
    refine rvc_un (rexec_call hP C rfl rfl rfl (after_calls c (cloneMembers c.members)) ?_)
    refine rvc_un (rexec_prim C (δ := { v := .undef, wr := [(4, some (.cells [.pv (.lit (.int .i64 ((after c (cloneMembers c.members)).epoch))), sS (some (after c (cloneMembers c.members)).members.nil) eMember ((after c (cloneMembers c.members)).members.D)]))] }) rfl rfl rfl rfl trivial rfl ?_)
    refine rvP C (.pv (.lit (.int .i64 0))) ?_
    refine rvc_nil ?_
    refine Awp.ret ?_
    subst hR
    exact ⟨.inl rfl, rfl⟩
end Go.Proofs.Ytpgenmflgdkfiaa
