import Derived.Test.YtpgenmflgdkfiaaM5
import Derived.Test.YtpgenmflgdkfiaaM2
import Derived.Test.YtpgenmflgdkfiaaM3
/- The ledger: commands done. No conditions. -/
namespace Go.Proofs.Ytpgenmflgdkfiaa
open Go.Am
structure Ledger60 where
  c : Chain
  all : (Sl Chain)
  at_ : Int
  deriving Inhabited
structure Do where
  c : Command
  b : (Sl Int)
  raw : Bool
  by_ : Int
  off : Int
  deriving Inhabited
def eDo : Enc Do := ⟨8, fun x => [.lit (.int .i64 x.c.kind), .lit (.int .i64 x.c.node), .lit (.int .i64 x.c.site), .lit (.int .i64 x.c.epoch), .sl (some x.b.nil) x.b.D.length (encL (eI .u8) x.b.D), .lit (.bool x.raw), .lit (.int .i64 x.by_), .lit (.int .i64 x.off)], fun _ => rfl⟩
def lApply (l : Ledger) (index : Int) (data : (Sl Int)) : Ledger × Int :=
  (bif (lDead l) then (l, 6) else (bif (decide (index > 1099511627776)) then (l, 90) else (bif (decide (index < 1)) then (l, 90) else (bif ((IntKind.i64.wrap (index - 1)) != l.at_) then (l, 90) else (bif ((data.D.length : Int) == 0) then ((Ledger.mk l.past l.chain index), 0) else (bif ((cmdGet data).2 != 0) then ((Ledger.mk l.past l.chain index), (cmdGet data).2) else (bif ((nextL l.chain (cmdGet data).1).2 != 0) then ((Ledger.mk l.past l.chain index), (nextL l.chain (cmdGet data).1).2) else (bif (decide ((nextL l.chain (cmdGet data).1).1.epoch > l.chain.epoch)) then ((Ledger.mk (Past.mk (Sl.mk false (l.past.all.D ++ [(copied (nextL l.chain (cmdGet data).1).1)]))) (nextL l.chain (cmdGet data).1).1 index), 0) else ((Ledger.mk l.past (nextL l.chain (cmdGet data).1).1 index), 0)))))))))
theorem lApply_calls (l : Ledger) (index : Int) (data : (Sl Int)) (hn : l.chain.members.nil = true → l.chain.members.D = []) (hl1 : data.D.length ≤ 1000000) (hl2 : l.chain.members.D.length ≤ 1000000) (hl3 : l.past.all.D.length ≤ 1000000) : MCalls Try.prog 16 [.ptr 0 0, .pv (.lit (.int .i64 index)), sS (some data.nil) (eI .u8) data.D] (.cells [sS (some l.past.all.nil) eChain l.past.all.D, .pv (.lit (.int .i64 l.chain.epoch)), sS (some l.chain.members.nil) eMember l.chain.members.D, .pv (.lit (.int .i64 l.at_))]) (.pv (.lit (.int .i64 ((lApply l index data).2)))) (.cells [sS (some (lApply l index data).1.past.all.nil) eChain ((lApply l index data).1.past.all.D), .pv (.lit (.int .i64 ((lApply l index data).1.chain.epoch))), sS (some (lApply l index data).1.chain.members.nil) eMember ((lApply l index data).1.chain.members.D), .pv (.lit (.int .i64 ((lApply l index data).1.at_)))]) := by
 generalize hR : lApply l index data = R
 refine MCalls.of_body tabOk Try.func16 rfl rfl rfl rfl rfl rfl rfl mixed fun E hP C hI => ?_
 refine Awp.consP C ?_
 refine rvP C (.pv (.lit (.int .i64 0))) ?_
 refine rvc_nil ?_
 refine Awp.seq ?_
 refine Awp.block ?_
 refine Awp.cons C (fun _ => .writer) (by kernel_rfl) ?_
 refine rvP C (.ptr 0 0) ?_
 refine rvc_un (rexec_callM hP C (b := 0) rfl rfl rfl (lDead_calls l) rfl rfl ?_)
 refine rvP C (.pv (.lit (.bool (lDead l)))) ?_
 refine rvc_nil ?_
 refine Awp.cond (b := (lDead l)) rfl (fun h1 => ?_) (fun h1 => ?_)
 ·
  replace hR := of_true h1 hR
  refine Awp.consP C ?_
  refine rvP C (.pv (.lit (.int .i64 6))) ?_
  refine rvc_nil ?_
  refine Awp.ret ?_
  subst hR
  exact ⟨.inl rfl, rfl, rfl⟩
 ·
  replace hR := of_false h1 hR
  refine Awp.consP C ?_
  refine rvP C (.pv (.lit (.int .i64 index))) ?_
  refine rvP C (.pv (.lit (.bool (decide (index > 1099511627776))))) ?_
  refine rvP C (.pv (.lit (.bool (decide (index > 1099511627776))))) ?_
  refine rvc_case 16 (decide (index > 1099511627776)) rfl (fun h2 => ?_) (fun h2 => ?_)
  ·
   replace hR := of_true h2 hR
   refine rvS ?_
   refine rvS ?_
   refine rvP C (.pv (.lit (.bool true))) ?_
   refine rvP C (.pv (.lit (.bool true))) ?_
   refine rvS ?_
   refine rvS ?_
   refine rvS ?_
   refine rvS ?_
   refine rvS ?_
   refine rvS ?_
   refine rvS ?_
   refine rvP C (.pv (.lit (.bool true))) ?_
   refine rvP C (.pv (.lit (.bool true))) ?_
   refine rvc_nil ?_
   refine Awp.condT (b := true) rfl rfl ?_
   refine Awp.consP C ?_
   refine rvP C (.pv (.lit (.int .i64 90))) ?_
   refine rvc_nil ?_
   refine Awp.ret ?_
   subst hR
   exact ⟨.inl rfl, rfl, rfl⟩
  ·
   replace hR := of_false h2 hR
   refine rvO C (.pv (.lit (.int .i64 index))) ?_
   refine rvO C (.pv (.lit (.bool (decide (index < 1))))) ?_
   refine rvP C (.pv (.lit (.bool (decide (index < 1))))) ?_
   refine rvP C (.pv (.lit (.bool (decide (index < 1))))) ?_
   refine rvc_case 20 (decide (index < 1)) rfl (fun h3 => ?_) (fun h3 => ?_)
   ·
    replace hR := of_true h3 hR
    refine rvS ?_
    refine rvS ?_
    refine rvS ?_
    refine rvS ?_
    refine rvS ?_
    refine rvS ?_
    refine rvS ?_
    refine rvP C (.pv (.lit (.bool true))) ?_
    refine rvP C (.pv (.lit (.bool true))) ?_
    refine rvc_nil ?_
    refine Awp.condT (b := true) rfl rfl ?_
    refine Awp.consP C ?_
    refine rvP C (.pv (.lit (.int .i64 90))) ?_
    refine rvc_nil ?_
    refine Awp.ret ?_
    subst hR
    exact ⟨.inl rfl, rfl, rfl⟩
   ·
    replace hR := of_false h3 hR
    refine rvO C (.pv (.lit (.int .i64 index))) ?_
    refine rvO C (.pv (.lit (.int .i64 (IntKind.i64.wrap (index - 1))))) ?_
    refine rvO C (.ptr 0 0) ?_
    refine rvO C (.ptr 0 0) ?_
    refine rvO C (.ptr 0 3) ?_
    refine rvO C (.pv (.lit (.int .i64 l.at_))) ?_
    refine rvO C (.pv (.lit (.bool ((IntKind.i64.wrap (index - 1)) != l.at_)))) ?_
    refine rvP C (.pv (.lit (.bool ((IntKind.i64.wrap (index - 1)) != l.at_)))) ?_
    refine rvP C (.pv (.lit (.bool ((IntKind.i64.wrap (index - 1)) != l.at_)))) ?_
    refine rvc_nil ?_
    refine Awp.cond (b := ((IntKind.i64.wrap (index - 1)) != l.at_)) rfl (fun h4 => ?_) (fun h4 => ?_)
    ·
     replace hR := of_true h4 hR
     refine Awp.consP C ?_
     refine rvP C (.pv (.lit (.int .i64 90))) ?_
     refine rvc_nil ?_
     refine Awp.ret ?_
     subst hR
     exact ⟨.inl rfl, rfl, rfl⟩
    ·
     replace hR := of_false h4 hR
     refine Awp.skip ?_
     refine Awp.consP C ?_
     refine rvP C (.ptr 0 0) ?_
     refine rvP C (.pv (.lit (.int .i64 index))) ?_
     refine rvP C (.ptr 0 0) ?_
     refine rvP C (.ptr 0 3) ?_
     refine rvc_un (rexec_prim C (δ := { v := .undef, wr := [(0, some (.cells [sS (some l.past.all.nil) eChain l.past.all.D, .pv (.lit (.int .i64 l.chain.epoch)), sS (some l.chain.members.nil) eMember l.chain.members.D, .pv (.lit (.int .i64 index))]))] }) rfl rfl rfl rfl trivial rfl ?_)
     refine rvc_nil ?_
     refine Awp.seq ?_
     refine Awp.consP C ?_
     refine rvP C (sS (some data.nil) (eI .u8) data.D) ?_
     refine rvP C (.pv (.lit (.int .i64 (data.D.length : Int)))) ?_
     refine rvP C (.pv (.lit (.bool ((data.D.length : Int) == 0)))) ?_
     refine rvc_nil ?_
     refine Awp.cond (b := ((data.D.length : Int) == 0)) rfl (fun h5 => ?_) (fun h5 => ?_)
     ·
      replace hR := of_true h5 hR
      refine Awp.consP C ?_
      refine rvP C (.pv (.lit (.int .i64 0))) ?_
      refine rvc_nil ?_
      refine Awp.ret ?_
      subst hR
      exact ⟨.inl rfl, rfl, rfl⟩
     ·
      replace hR := of_false h5 hR
      refine Awp.skip ?_
      refine Awp.consP C ?_
      refine rvP C (sS (some data.nil) (eI .u8) data.D) ?_
      obtain ⟨gt, hq_gt⟩ : ∃ q_, q_ = (cmdGet data) := ⟨_, rfl⟩
      have hc_gt := (cmdGet_calls data hl1)
      first | rw [← hq_gt] at hR hc_gt | (unfold lApply at hR; rw [← hq_gt] at hR hc_gt)
      refine rvc_un (rexec_call hP C rfl rfl rfl hc_gt ?_)
      refine rvP C (.tup [.agg [.pv (.lit (.int .i64 gt.1.kind)), .pv (.lit (.int .i64 gt.1.node)), .pv (.lit (.int .i64 gt.1.site)), .pv (.lit (.int .i64 gt.1.epoch))], .pv (.lit (.int .i64 gt.2))]) ?_
      refine rvP C (.agg [.pv (.lit (.int .i64 gt.1.kind)), .pv (.lit (.int .i64 gt.1.node)), .pv (.lit (.int .i64 gt.1.site)), .pv (.lit (.int .i64 gt.1.epoch))]) ?_
      refine rvP C (.pv (.lit (.int .i64 gt.2))) ?_
      refine rvc_un (rexec_prim C (δ := { v := .ptr 7 0, new := [(7, .cells [.pv (.lit (.int .i64 0)), .pv (.lit (.int .i64 0)), .pv (.lit (.int .i64 0)), .pv (.lit (.int .i64 0))])] }) rfl rfl rfl rfl trivial rfl ?_)
      refine rvc_un (rexec_prim C (δ := { v := .undef, wr := [(7, some (.cells [.pv (.lit (.int .i64 gt.1.kind)), .pv (.lit (.int .i64 gt.1.node)), .pv (.lit (.int .i64 gt.1.site)), .pv (.lit (.int .i64 gt.1.epoch))]))] }) rfl rfl rfl rfl trivial rfl ?_)
      refine rvP C (.pv (.lit (.int .i64 gt.2))) ?_
      refine rvc_nil ?_
      refine Awp.seq ?_
      refine Awp.consP C ?_
      refine rvP C (.pv (.lit (.int .i64 gt.2))) ?_
      refine rvP C (.pv (.lit (.bool (gt.2 != 0)))) ?_
      refine rvc_nil ?_
      refine Awp.cond (b := (gt.2 != 0)) rfl (fun h6 => ?_) (fun h6 => ?_)
      ·
       replace hR := of_true h6 hR
       refine Awp.consP C ?_
       refine rvP C (.pv (.lit (.int .i64 gt.2))) ?_
       refine rvP C (.pv (.lit (.int .i64 gt.2))) ?_
       refine rvc_nil ?_
       refine Awp.ret ?_
       subst hR
       exact ⟨.inl rfl, rfl, rfl⟩
      ·
       replace hR := of_false h6 hR
       refine Awp.skip ?_
       refine Awp.consP C ?_
       refine rvP C (.ptr 0 0) ?_
       refine rvP C (.ptr 0 0) ?_
       refine rvP C (.ptr 0 1) ?_
       refine rvP C (.agg [.pv (.lit (.int .i64 l.chain.epoch)), sS (some l.chain.members.nil) eMember l.chain.members.D]) ?_
       refine rvP C (.agg [.pv (.lit (.int .i64 gt.1.kind)), .pv (.lit (.int .i64 gt.1.node)), .pv (.lit (.int .i64 gt.1.site)), .pv (.lit (.int .i64 gt.1.epoch))]) ?_
       obtain ⟨nx, hq_nx⟩ : ∃ q_, q_ = (nextL l.chain gt.1) := ⟨_, rfl⟩
       have hc_nx := (nextL_calls l.chain gt.1 hn hl2)
       first | rw [← hq_nx] at hR hc_nx | (unfold lApply at hR; rw [← hq_nx] at hR hc_nx)
       have hf0_nx := few_next l.chain gt.1
       rw [← hq_nx] at hf0_nx
       refine rvc_un (rexec_call hP C rfl rfl rfl hc_nx ?_)
       refine rvP C (.tup [.agg [.pv (.lit (.int .i64 nx.1.epoch)), sS (some nx.1.members.nil) eMember nx.1.members.D], .pv (.lit (.int .i64 nx.2))]) ?_
       refine rvP C (.agg [.pv (.lit (.int .i64 nx.1.epoch)), sS (some nx.1.members.nil) eMember nx.1.members.D]) ?_
       refine rvP C (.pv (.lit (.int .i64 nx.2))) ?_
       refine rvc_un (rexec_prim C (δ := { v := .ptr 9 0, new := [(9, .cells [.pv (.lit (.int .i64 0)), sS (some true) eMember []])] }) rfl rfl rfl rfl trivial rfl ?_)
       refine rvc_un (rexec_prim C (δ := { v := .undef, wr := [(9, some (.cells [.pv (.lit (.int .i64 nx.1.epoch)), sS (some nx.1.members.nil) eMember nx.1.members.D]))] }) rfl rfl rfl rfl trivial rfl ?_)
       refine rvP C (.pv (.lit (.int .i64 nx.2))) ?_
       refine rvc_nil ?_
       refine Awp.seq ?_
       refine Awp.consP C ?_
       refine rvP C (.pv (.lit (.int .i64 nx.2))) ?_
       refine rvP C (.pv (.lit (.bool (nx.2 != 0)))) ?_
       refine rvc_nil ?_
       refine Awp.cond (b := (nx.2 != 0)) rfl (fun h7 => ?_) (fun h7 => ?_)
       ·
        replace hR := of_true h7 hR
        refine Awp.consP C ?_
        refine rvP C (.pv (.lit (.int .i64 nx.2))) ?_
        refine rvP C (.pv (.lit (.int .i64 nx.2))) ?_
        refine rvc_nil ?_
        refine Awp.ret ?_
        subst hR
        exact ⟨.inl rfl, rfl, rfl⟩
       ·
        replace hR := of_false h7 hR
        refine Awp.skip ?_
        refine Awp.seq ?_
        refine Awp.consP C ?_
        refine rvP C (.ptr 9 0) ?_
        refine rvP C (.pv (.lit (.int .i64 nx.1.epoch))) ?_
        refine rvP C (.ptr 0 0) ?_
        refine rvP C (.ptr 0 0) ?_
        refine rvP C (.ptr 0 1) ?_
        refine rvP C (.ptr 0 1) ?_
        refine rvP C (.pv (.lit (.int .i64 l.chain.epoch))) ?_
        refine rvP C (.pv (.lit (.bool (decide (nx.1.epoch > l.chain.epoch))))) ?_
        refine rvc_nil ?_
        refine Awp.cond (b := (decide (nx.1.epoch > l.chain.epoch))) rfl (fun h8 => ?_) (fun h8 => ?_)
        ·
         replace hR := of_true h8 hR
         refine Awp.regionP C ?_
         refine rvP C (.ptr 0 0) ?_
         refine rvP C (.ptr 0 0) ?_
         refine rvP C (.ptr 0 0) ?_
         refine rvP C (.ptr 0 0) ?_
         refine rvP C (.ptr 0 0) ?_
         refine rvP C (sS (some l.past.all.nil) eChain l.past.all.D) ?_
         refine rvP C (.ptr 0 0) ?_
         refine rvP C (.ptr 0 0) ?_
         refine rvP C (.ptr 0 0) ?_
         refine rvP C (.ptr 0 0) ?_
         refine rvP C (sS (some l.past.all.nil) eChain l.past.all.D) ?_
         refine rvP C (.pv (.lit (.int .i64 (l.past.all.D.length : Int)))) ?_
         refine rvP C (.ptr 0 0) ?_
         refine rvP C (.ptr 0 0) ?_
         refine rvP C (.ptr 0 0) ?_
         refine rvP C (.ptr 0 0) ?_
         refine rvP C (sS (some l.past.all.nil) eChain l.past.all.D) ?_
         refine rvP C (.pv (.lit (.int .i64 (l.past.all.D.length : Int)))) ?_
         refine rvc_un (rexec_slice3 C (e := eChain) (D := l.past.all.D) rfl rfl rfl rfl rfl rfl ?_)
         refine rvP C (.agg [.pv (.lit (.int .i64 nx.1.epoch)), sS (some nx.1.members.nil) eMember nx.1.members.D]) ?_
         refine rvc_un (rexec_call hP C rfl rfl rfl (copied_calls nx.1 (Nat.le_trans hf0_nx.2 (by decide))) ?_)
         refine rvc_un (rexec_buildSliceF C eChain [(copied nx.1)] rfl rfl rfl rfl rfl rfl rfl (by decide) rfl ?_)
         refine rvc_un (rexec_appendT C rfl rfl rfl rfl rfl rfl rfl rfl (fun _ h => by cases h) rfl (en := eChain) (D0 := l.past.all.D) (D := [(copied nx.1)]) rfl rfl (by simp) (by have := wrapI (index - 1); have := of_decide_eq_false h2; have := of_decide_eq_false h3; have := eq_of_bne_false h4; have := ne_of_beq_false h5; have := eq_of_bne_false h6; have := eq_of_bne_false h7; have := of_decide_eq_true h8; first | omega | (simp <;> omega)) (by decide) (nn := (l.past.all.D ++ [(copied nx.1)]).length) (by simp) ?_)
         refine rvP C (.ptr 0 0) ?_
         refine rvP C (.ptr 0 0) ?_
         refine rvP C (.ptr 0 0) ?_
         refine rvc_un (rexec_prim C (δ := { v := .undef, wr := [(0, some (.cells [.sl 86 0 ((l.past.all.D ++ [(copied nx.1)]).length) 2 false, .pv (.lit (.int .i64 l.chain.epoch)), sS (some l.chain.members.nil) eMember l.chain.members.D, .pv (.lit (.int .i64 index))]))] }) rfl rfl rfl rfl trivial rfl ?_)
         refine rvc_nil ?_
         refine Awp.consP C ?_
         refine rvP C (.ptr 0 0) ?_
         refine rvP C (.agg [.pv (.lit (.int .i64 nx.1.epoch)), sS (some nx.1.members.nil) eMember nx.1.members.D]) ?_
         refine rvP C (.ptr 0 0) ?_
         refine rvP C (.ptr 0 1) ?_
         refine rvc_un (rexec_prim C (δ := { v := .undef, wr := [(0, some (.cells [.sl 86 0 ((l.past.all.D ++ [(copied nx.1)]).length) 2 false, .pv (.lit (.int .i64 nx.1.epoch)), sS (some nx.1.members.nil) eMember nx.1.members.D, .pv (.lit (.int .i64 index))]))] }) rfl rfl rfl rfl trivial rfl ?_)
         refine rvc_nil ?_
         refine Awp.consP C ?_
         refine rvP C (.pv (.lit (.int .i64 0))) ?_
         refine rvc_nil ?_
         refine Awp.freezeW 86 (encL eChain (l.past.all.D ++ [(copied nx.1)])) ?_ [(6, .pv (.lit (.int .i64 0)))] [(0, .cells [sS (some false) eChain (l.past.all.D ++ [(copied nx.1)]), .pv (.lit (.int .i64 nx.1.epoch)), sS (some nx.1.members.nil) eMember nx.1.members.D, .pv (.lit (.int .i64 index))]), (7, .cells [.pv (.lit (.int .i64 gt.1.kind)), .pv (.lit (.int .i64 gt.1.node)), .pv (.lit (.int .i64 gt.1.site)), .pv (.lit (.int .i64 gt.1.epoch))]), (9, .cells [.pv (.lit (.int .i64 nx.1.epoch)), sS (some nx.1.members.nil) eMember nx.1.members.D])] ?_ ?_ ?_
         · rfl
         · exact ⟨⟨_, rfl, .inl (.inl rfl)⟩, trivial⟩
         · exact ⟨⟨(by show (0 : Nat) ≠ 86; decide), .inr ⟨_, _, rfl, rfl, ⟨.inr ⟨_, _, _, rfl, rfl⟩, .inl rfl, .inl rfl, .inl rfl, trivial⟩⟩⟩, ⟨(by show (7 : Nat) ≠ 86; decide), .inl rfl⟩, ⟨(by show (9 : Nat) ≠ 86; decide), .inl rfl⟩, trivial⟩
         refine Awp.ret ?_
         subst hR
         exact ⟨.inl rfl, rfl, rfl⟩
        ·
         replace hR := of_false h8 hR
         refine Awp.skip ?_
         refine Awp.consP C ?_
         refine rvP C (.ptr 0 0) ?_
         refine rvP C (.agg [.pv (.lit (.int .i64 nx.1.epoch)), sS (some nx.1.members.nil) eMember nx.1.members.D]) ?_
         refine rvP C (.ptr 0 0) ?_
         refine rvP C (.ptr 0 1) ?_
         refine rvc_un (rexec_prim C (δ := { v := .undef, wr := [(0, some (.cells [sS (some l.past.all.nil) eChain l.past.all.D, .pv (.lit (.int .i64 nx.1.epoch)), sS (some nx.1.members.nil) eMember nx.1.members.D, .pv (.lit (.int .i64 index))]))] }) rfl rfl rfl rfl trivial rfl ?_)
         refine rvc_nil ?_
         refine Awp.consP C ?_
         refine rvP C (.pv (.lit (.int .i64 0))) ?_
         refine rvc_nil ?_
         refine Awp.ret ?_
         subst hR
         exact ⟨.inl rfl, rfl, rfl⟩
def rApply (l : Ledger60) (index : Int) (data : (Sl Int)) : Ledger60 × Int :=
  (bif (decide (index > 1099511627776)) then (l, 90) else (bif (index != (IntKind.i64.wrap (l.at_ + 1))) then (l, 90) else (bif ((data.D.length : Int) == 0) then ((Ledger60.mk l.c l.all index), 0) else (bif ((rCmdGet data).2 != 0) then ((Ledger60.mk l.c l.all index), (rCmdGet data).2) else (bif ((rNext l.c (rCmdGet data).1).2 != 0) then ((Ledger60.mk l.c l.all index), (rNext l.c (rCmdGet data).1).2) else (bif ((rNext l.c (rCmdGet data).1).1.epoch != l.c.epoch) then ((Ledger60.mk (rNext l.c (rCmdGet data).1).1 (Sl.mk false (l.all.D ++ [(rNext l.c (rCmdGet data).1).1])) index), 0) else ((Ledger60.mk (rNext l.c (rCmdGet data).1).1 l.all index), 0)))))))
theorem rApply_calls (l : Ledger60) (index : Int) (data : (Sl Int)) (hl : data.D.length ≤ 1000000) (hl1 : l.c.members.D.length ≤ 1000000) (hl2 : l.all.D.length ≤ 1000000) : MCalls Try.prog 31 [.ptr 0 0, .pv (.lit (.int .i64 index)), sS (some data.nil) (eI .u8) data.D] (.cells [.pv (.lit (.int .i64 l.c.epoch)), sS (some l.c.members.nil) eMember l.c.members.D, sS (some l.all.nil) eChain l.all.D, .pv (.lit (.int .i64 l.at_))]) (.pv (.lit (.int .i64 ((rApply l index data).2)))) (.cells [.pv (.lit (.int .i64 ((rApply l index data).1.c.epoch))), sS (some (rApply l index data).1.c.members.nil) eMember ((rApply l index data).1.c.members.D), sS (some (rApply l index data).1.all.nil) eChain ((rApply l index data).1.all.D), .pv (.lit (.int .i64 ((rApply l index data).1.at_)))]) := by
 generalize hR : rApply l index data = R
 refine MCalls.of_body tabOk Try.func31 rfl rfl rfl rfl rfl rfl rfl mixed fun E hP C hI => ?_
 refine Awp.consP C ?_
 refine rvP C (.pv (.lit (.int .i64 0))) ?_
 refine rvc_nil ?_
 refine Awp.seq ?_
 refine Awp.consP C ?_
 refine rvP C (.pv (.lit (.int .i64 index))) ?_
 refine rvP C (.pv (.lit (.bool (decide (index > 1099511627776))))) ?_
 refine rvP C (.pv (.lit (.bool (decide (index > 1099511627776))))) ?_
 refine rvc_case 12 (decide (index > 1099511627776)) rfl (fun h1 => ?_) (fun h1 => ?_)
 ·
  replace hR := of_true h1 hR
  refine rvS ?_
  refine rvS ?_
  refine rvS ?_
  refine rvS ?_
  refine rvS ?_
  refine rvS ?_
  refine rvS ?_
  refine rvP C (.pv (.lit (.bool true))) ?_
  refine rvc_nil ?_
  refine Awp.condT (b := true) rfl rfl ?_
  refine Awp.consP C ?_
  refine rvP C (.pv (.lit (.int .i64 90))) ?_
  refine rvc_nil ?_
  refine Awp.ret ?_
  subst hR
  exact ⟨.inl rfl, rfl, rfl⟩
 ·
  replace hR := of_false h1 hR
  refine rvO C (.pv (.lit (.int .i64 index))) ?_
  refine rvO C (.ptr 0 0) ?_
  refine rvO C (.ptr 0 0) ?_
  refine rvO C (.ptr 0 3) ?_
  refine rvO C (.pv (.lit (.int .i64 l.at_))) ?_
  refine rvO C (.pv (.lit (.int .i64 (IntKind.i64.wrap (l.at_ + 1))))) ?_
  refine rvO C (.pv (.lit (.bool (index != (IntKind.i64.wrap (l.at_ + 1)))))) ?_
  refine rvP C (.pv (.lit (.bool (index != (IntKind.i64.wrap (l.at_ + 1)))))) ?_
  refine rvc_nil ?_
  refine Awp.cond (b := (index != (IntKind.i64.wrap (l.at_ + 1)))) rfl (fun h2 => ?_) (fun h2 => ?_)
  ·
   replace hR := of_true h2 hR
   refine Awp.consP C ?_
   refine rvP C (.pv (.lit (.int .i64 90))) ?_
   refine rvc_nil ?_
   refine Awp.ret ?_
   subst hR
   exact ⟨.inl rfl, rfl, rfl⟩
  ·
   replace hR := of_false h2 hR
   refine Awp.skip ?_
   refine Awp.consP C ?_
   refine rvP C (.ptr 0 0) ?_
   refine rvP C (.pv (.lit (.int .i64 index))) ?_
   refine rvP C (.ptr 0 0) ?_
   refine rvP C (.ptr 0 3) ?_
   refine rvc_un (rexec_prim C (δ := { v := .undef, wr := [(0, some (.cells [.pv (.lit (.int .i64 l.c.epoch)), sS (some l.c.members.nil) eMember l.c.members.D, sS (some l.all.nil) eChain l.all.D, .pv (.lit (.int .i64 index))]))] }) rfl rfl rfl rfl trivial rfl ?_)
   refine rvc_nil ?_
   refine Awp.seq ?_
   refine Awp.consP C ?_
   refine rvP C (sS (some data.nil) (eI .u8) data.D) ?_
   refine rvP C (.pv (.lit (.int .i64 (data.D.length : Int)))) ?_
   refine rvP C (.pv (.lit (.bool ((data.D.length : Int) == 0)))) ?_
   refine rvc_nil ?_
   refine Awp.cond (b := ((data.D.length : Int) == 0)) rfl (fun h3 => ?_) (fun h3 => ?_)
   ·
    replace hR := of_true h3 hR
    refine Awp.consP C ?_
    refine rvP C (.pv (.lit (.int .i64 0))) ?_
    refine rvc_nil ?_
    refine Awp.ret ?_
    subst hR
    exact ⟨.inl rfl, rfl, rfl⟩
   ·
    replace hR := of_false h3 hR
    refine Awp.skip ?_
    refine Awp.consP C ?_
    refine rvP C (sS (some data.nil) (eI .u8) data.D) ?_
    obtain ⟨gt, hq_gt⟩ : ∃ q_, q_ = (rCmdGet data) := ⟨_, rfl⟩
    have hc_gt := (rCmdGet_calls data hl)
    first | rw [← hq_gt] at hR hc_gt | (unfold rApply at hR; rw [← hq_gt] at hR hc_gt)
    refine rvc_un (rexec_call hP C rfl rfl rfl hc_gt ?_)
    refine rvP C (.tup [.agg [.pv (.lit (.int .i64 gt.1.kind)), .pv (.lit (.int .i64 gt.1.node)), .pv (.lit (.int .i64 gt.1.site)), .pv (.lit (.int .i64 gt.1.epoch))], .pv (.lit (.int .i64 gt.2))]) ?_
    refine rvP C (.agg [.pv (.lit (.int .i64 gt.1.kind)), .pv (.lit (.int .i64 gt.1.node)), .pv (.lit (.int .i64 gt.1.site)), .pv (.lit (.int .i64 gt.1.epoch))]) ?_
    refine rvP C (.pv (.lit (.int .i64 gt.2))) ?_
    refine rvc_un (rexec_prim C (δ := { v := .ptr 7 0, new := [(7, .cells [.pv (.lit (.int .i64 0)), .pv (.lit (.int .i64 0)), .pv (.lit (.int .i64 0)), .pv (.lit (.int .i64 0))])] }) rfl rfl rfl rfl trivial rfl ?_)
    refine rvc_un (rexec_prim C (δ := { v := .undef, wr := [(7, some (.cells [.pv (.lit (.int .i64 gt.1.kind)), .pv (.lit (.int .i64 gt.1.node)), .pv (.lit (.int .i64 gt.1.site)), .pv (.lit (.int .i64 gt.1.epoch))]))] }) rfl rfl rfl rfl trivial rfl ?_)
    refine rvP C (.pv (.lit (.int .i64 gt.2))) ?_
    refine rvc_nil ?_
    refine Awp.seq ?_
    refine Awp.consP C ?_
    refine rvP C (.pv (.lit (.int .i64 gt.2))) ?_
    refine rvP C (.pv (.lit (.bool (gt.2 != 0)))) ?_
    refine rvc_nil ?_
    refine Awp.cond (b := (gt.2 != 0)) rfl (fun h4 => ?_) (fun h4 => ?_)
    ·
     replace hR := of_true h4 hR
     refine Awp.consP C ?_
     refine rvP C (.pv (.lit (.int .i64 gt.2))) ?_
     refine rvP C (.pv (.lit (.int .i64 gt.2))) ?_
     refine rvc_nil ?_
     refine Awp.ret ?_
     subst hR
     exact ⟨.inl rfl, rfl, rfl⟩
    ·
     replace hR := of_false h4 hR
     refine Awp.skip ?_
     refine Awp.consP C ?_
     refine rvP C (.ptr 0 0) ?_
     refine rvP C (.ptr 0 0) ?_
     refine rvP C (.ptr 0 0) ?_
     refine rvP C (.agg [.pv (.lit (.int .i64 l.c.epoch)), sS (some l.c.members.nil) eMember l.c.members.D]) ?_
     refine rvP C (.agg [.pv (.lit (.int .i64 gt.1.kind)), .pv (.lit (.int .i64 gt.1.node)), .pv (.lit (.int .i64 gt.1.site)), .pv (.lit (.int .i64 gt.1.epoch))]) ?_
     obtain ⟨nx, hq_nx⟩ : ∃ q_, q_ = (rNext l.c gt.1) := ⟨_, rfl⟩
     have hc_nx := (rNext_calls l.c gt.1 hl1)
     first | rw [← hq_nx] at hR hc_nx | (unfold rApply at hR; rw [← hq_nx] at hR hc_nx)
     refine rvc_un (rexec_call hP C rfl rfl rfl hc_nx ?_)
     refine rvP C (.tup [.agg [.pv (.lit (.int .i64 nx.1.epoch)), sS (some nx.1.members.nil) eMember nx.1.members.D], .pv (.lit (.int .i64 nx.2))]) ?_
     refine rvP C (.agg [.pv (.lit (.int .i64 nx.1.epoch)), sS (some nx.1.members.nil) eMember nx.1.members.D]) ?_
     refine rvP C (.pv (.lit (.int .i64 nx.2))) ?_
     refine rvc_un (rexec_prim C (δ := { v := .ptr 9 0, new := [(9, .cells [.pv (.lit (.int .i64 0)), sS (some true) eMember []])] }) rfl rfl rfl rfl trivial rfl ?_)
     refine rvc_un (rexec_prim C (δ := { v := .undef, wr := [(9, some (.cells [.pv (.lit (.int .i64 nx.1.epoch)), sS (some nx.1.members.nil) eMember nx.1.members.D]))] }) rfl rfl rfl rfl trivial rfl ?_)
     refine rvP C (.pv (.lit (.int .i64 nx.2))) ?_
     refine rvc_nil ?_
     refine Awp.seq ?_
     refine Awp.consP C ?_
     refine rvP C (.pv (.lit (.int .i64 nx.2))) ?_
     refine rvP C (.pv (.lit (.bool (nx.2 != 0)))) ?_
     refine rvc_nil ?_
     refine Awp.cond (b := (nx.2 != 0)) rfl (fun h5 => ?_) (fun h5 => ?_)
     ·
      replace hR := of_true h5 hR
      refine Awp.consP C ?_
      refine rvP C (.pv (.lit (.int .i64 nx.2))) ?_
      refine rvP C (.pv (.lit (.int .i64 nx.2))) ?_
      refine rvc_nil ?_
      refine Awp.ret ?_
      subst hR
      exact ⟨.inl rfl, rfl, rfl⟩
     ·
      replace hR := of_false h5 hR
      refine Awp.skip ?_
      refine Awp.seq ?_
      refine Awp.consP C ?_
      refine rvP C (.ptr 9 0) ?_
      refine rvP C (.pv (.lit (.int .i64 nx.1.epoch))) ?_
      refine rvP C (.ptr 0 0) ?_
      refine rvP C (.ptr 0 0) ?_
      refine rvP C (.ptr 0 0) ?_
      refine rvP C (.ptr 0 0) ?_
      refine rvP C (.pv (.lit (.int .i64 l.c.epoch))) ?_
      refine rvP C (.pv (.lit (.bool (nx.1.epoch != l.c.epoch)))) ?_
      refine rvc_nil ?_
      refine Awp.cond (b := (nx.1.epoch != l.c.epoch)) rfl (fun h6 => ?_) (fun h6 => ?_)
      ·
       replace hR := of_true h6 hR
       refine Awp.region C (fun o => match o.dst with | some 57 => .writes [57] | some 64 => .writes [] | some 62 => .writes [57, 62] | some 61 => .reads [0] | some 63 => .reads [9] | some 65 => .writes [62, 65] | _ => .pure) (by kernel_rfl) ?_
       refine rvP C (.ptr 0 0) ?_
       refine rvc_un (rexec_prim C (δ := { v := .sl 57 0 0 2 true, new := [(57, .cells (encC eChain []))] }) rfl rfl rfl rfl trivial rfl ?_)
       refine rvP C (.ptr 0 0) ?_
       refine rvP C (.ptr 0 0) ?_
       refine rvP C (.ptr 0 2) ?_
       refine rvP C (sS (some l.all.nil) eChain l.all.D) ?_
       refine rvc_un (rexec_append C rfl rfl rfl rfl rfl rfl rfl rfl (fun _ h => by cases h) rfl (en := eChain) (D0 := []) (D := l.all.D) rfl rfl rfl rfl (by have := wrapI (l.at_ + 1); have := of_decide_eq_false h1; have := eq_of_bne_false h2; have := ne_of_beq_false h3; have := eq_of_bne_false h4; have := eq_of_bne_false h5; have := bne_iff_ne.1 h6; first | omega | (simp <;> omega)) (by decide) (nn := l.all.D.length) (by simp) ?_)
       refine rvP C (.agg [.pv (.lit (.int .i64 nx.1.epoch)), sS (some nx.1.members.nil) eMember nx.1.members.D]) ?_
       refine rvc_un (rexec_buildSliceF C eChain [nx.1] rfl rfl rfl rfl rfl rfl rfl (by decide) rfl ?_)
       refine rvc_un (rexec_append C rfl rfl rfl rfl rfl rfl rfl rfl (fun _ h => by cases h) rfl (en := eChain) (D0 := l.all.D) (D := [nx.1]) rfl rfl rfl rfl (by have := wrapI (l.at_ + 1); have := of_decide_eq_false h1; have := eq_of_bne_false h2; have := ne_of_beq_false h3; have := eq_of_bne_false h4; have := eq_of_bne_false h5; have := bne_iff_ne.1 h6; first | omega | (simp <;> omega)) (by decide) (nn := (l.all.D ++ [nx.1]).length) (by simp) ?_)
       refine rvP C (.ptr 0 0) ?_
       refine rvP C (.ptr 0 2) ?_
       refine rvc_un (rexec_prim C (δ := { v := .undef, wr := [(0, some (.cells [.pv (.lit (.int .i64 l.c.epoch)), sS (some l.c.members.nil) eMember l.c.members.D, .sl 65 0 ((l.all.D ++ [nx.1]).length) 2 false, .pv (.lit (.int .i64 index))]))] }) rfl rfl rfl rfl trivial rfl ?_)
       refine rvc_nil ?_
       refine Awp.consP C ?_
       refine rvP C (.ptr 0 0) ?_
       refine rvP C (.agg [.pv (.lit (.int .i64 nx.1.epoch)), sS (some nx.1.members.nil) eMember nx.1.members.D]) ?_
       refine rvP C (.ptr 0 0) ?_
       refine rvP C (.ptr 0 0) ?_
       refine rvc_un (rexec_prim C (δ := { v := .undef, wr := [(0, some (.cells [.pv (.lit (.int .i64 nx.1.epoch)), sS (some nx.1.members.nil) eMember nx.1.members.D, .sl 65 0 ((l.all.D ++ [nx.1]).length) 2 false, .pv (.lit (.int .i64 index))]))] }) rfl rfl rfl rfl trivial rfl ?_)
       refine rvc_nil ?_
       refine Awp.consP C ?_
       refine rvP C (.pv (.lit (.int .i64 0))) ?_
       refine rvc_nil ?_
       refine Awp.freezeW 65 (encL eChain (l.all.D ++ [nx.1])) ?_ [(6, .pv (.lit (.int .i64 0)))] [(0, .cells [.pv (.lit (.int .i64 nx.1.epoch)), sS (some nx.1.members.nil) eMember nx.1.members.D, sS (some false) eChain (l.all.D ++ [nx.1]), .pv (.lit (.int .i64 index))]), (7, .cells [.pv (.lit (.int .i64 gt.1.kind)), .pv (.lit (.int .i64 gt.1.node)), .pv (.lit (.int .i64 gt.1.site)), .pv (.lit (.int .i64 gt.1.epoch))]), (9, .cells [.pv (.lit (.int .i64 nx.1.epoch)), sS (some nx.1.members.nil) eMember nx.1.members.D])] ?_ ?_ ?_
       · rfl
       · exact ⟨⟨_, rfl, .inl (.inl rfl)⟩, trivial⟩
       · exact ⟨⟨(by show (0 : Nat) ≠ 65; decide), .inr ⟨_, _, rfl, rfl, ⟨.inl rfl, .inl rfl, .inr ⟨_, _, _, rfl, rfl⟩, .inl rfl, trivial⟩⟩⟩, ⟨(by show (7 : Nat) ≠ 65; decide), .inl rfl⟩, ⟨(by show (9 : Nat) ≠ 65; decide), .inl rfl⟩, trivial⟩
       refine Awp.ret ?_
       subst hR
       exact ⟨.inl rfl, rfl, rfl⟩
      ·
       replace hR := of_false h6 hR
       refine Awp.skip ?_
       refine Awp.consP C ?_
       refine rvP C (.ptr 0 0) ?_
       refine rvP C (.agg [.pv (.lit (.int .i64 nx.1.epoch)), sS (some nx.1.members.nil) eMember nx.1.members.D]) ?_
       refine rvP C (.ptr 0 0) ?_
       refine rvP C (.ptr 0 0) ?_
       refine rvc_un (rexec_prim C (δ := { v := .undef, wr := [(0, some (.cells [.pv (.lit (.int .i64 nx.1.epoch)), sS (some nx.1.members.nil) eMember nx.1.members.D, sS (some l.all.nil) eChain l.all.D, .pv (.lit (.int .i64 index))]))] }) rfl rfl rfl rfl trivial rfl ?_)
       refine rvc_nil ?_
       refine Awp.consP C ?_
       refine rvP C (.pv (.lit (.int .i64 0))) ?_
       refine rvc_nil ?_
       refine Awp.ret ?_
       subst hR
       exact ⟨.inl rfl, rfl, rfl⟩
def rOf_l0 (epoch : Int) : List Chain → Nat → Chain × Bool
  | [], _ => ((Chain.mk 0 (Sl.mk true [])), false)
  | x :: xs, i => (bif (x.epoch == epoch) then (x, true) else rOf_l0 epoch xs (i + 1) )
def rOf (l : Ledger60) (epoch : Int) : Chain × Bool :=
  rOf_l0 epoch l.all.D 0
theorem rOf_calls (l : Ledger60) (epoch : Int) (hl1 : l.all.D.length ≤ 1000000) : MCalls Try.prog 34 [.ptr 0 0, .pv (.lit (.int .i64 epoch))] (.cells [.pv (.lit (.int .i64 l.c.epoch)), sS (some l.c.members.nil) eMember l.c.members.D, sS (some l.all.nil) eChain l.all.D, .pv (.lit (.int .i64 l.at_))]) (.tup [.agg [.pv (.lit (.int .i64 ((rOf l epoch).1.epoch))), sS (some (rOf l epoch).1.members.nil) eMember ((rOf l epoch).1.members.D)], .pv (.lit (.bool ((rOf l epoch).2)))]) (.cells [.pv (.lit (.int .i64 l.c.epoch)), sS (some l.c.members.nil) eMember l.c.members.D, sS (some l.all.nil) eChain l.all.D, .pv (.lit (.int .i64 l.at_))]) := by
 generalize hR : rOf l epoch = R
 refine MCalls.of_body tabOk Try.func34 rfl rfl rfl rfl rfl rfl rfl mixed fun E hP C hI => ?_
 refine Awp.consP C ?_
 refine rvc_un (rexec_prim C (δ := { v := .ptr 4 0, new := [(4, .cells [.pv (.lit (.int .i64 0)), sS (some true) eMember []])] }) rfl rfl rfl rfl trivial rfl ?_)
 refine rvP C (.pv (.lit (.bool false))) ?_
 refine rvc_nil ?_
 refine Awp.seq ?_
 refine Awp.consP C ?_
 refine rvP C (.ptr 0 0) ?_
 refine rvP C (.ptr 0 0) ?_
 refine rvP C (.ptr 0 2) ?_
 refine rvP C (sS (some l.all.nil) eChain l.all.D) ?_
 refine rvP C (.pv (.lit (.int .i64 (l.all.D.length : Int)))) ?_
 refine rvP C (.pv (.lit (.int .i64 0))) ?_
 refine rvc_nil ?_
 refine Awp.block ?_
 refine Awp.forR (σ := Unit) (l.all.D.length) (fun i _v => [(0, .ptr 0 0), (1, .pv (.lit (.int .i64 epoch))), (4, .ptr 4 0), (11, sS (some l.all.nil) eChain l.all.D), (12, .pv (.lit (.int .i64 (l.all.D.length : Int)))), (13, .pv (.lit (.int .i64 (i : Int))))]) (fun i _v => [(0, .cells [.pv (.lit (.int .i64 l.c.epoch)), sS (some l.c.members.nil) eMember l.c.members.D, sS (some l.all.nil) eChain l.all.D, .pv (.lit (.int .i64 l.at_))]), (4, .cells [.pv (.lit (.int .i64 0)), sS (some true) eMember []])]) [0, 4] (fun i _v => rOf_l0 epoch (l.all.D.drop i) i  = R) () ?_ ?_ (fun i _v h1 hR => ?_)
 · exact hR
 · exact ⟨fun b => b, WeakerR.ofLI (I := [0]) (Ks := [0, 4]) hI ⟨⟨rfl, rfl⟩, ⟨rfl, rfl⟩, ⟨rfl, rfl⟩, ⟨rfl, rfl⟩, ⟨rfl, rfl⟩, ⟨rfl, rfl⟩, trivial⟩ (okH_cons rfl rfl rfl rfl (okH_cons rfl rfl rfl rfl (okH_nil))) rfl rfl⟩
 refine Awp.consP C ?_
 refine rvP C (.pv (.lit (.bool (decide ((i : Int) < (l.all.D.length : Int)))))) ?_
 refine rvc_nil ?_
 refine Awp.seq ?_
 refine Awp.cond (b := (decide ((i : Int) < (l.all.D.length : Int)))) rfl (fun h2 => ?_) (fun h2 => ?_)
 ·
  have h3 : i < l.all.D.length := by have := of_decide_eq_true h2; omega
  obtain ⟨x, h4⟩ := getX h3
  rw [drop_at h4] at hR
  refine Awp.skip ?_
  refine Awp.seq ?_
  refine Awp.block ?_
  refine Awp.consP C ?_
  refine rvc_un (rexec_idxS C rfl rfl rfl rfl rfl rfl x (Int.natCast_nonneg _) h4 ?_)
  refine rvP C (.agg [.pv (.lit (.int .i64 x.epoch)), sS (some x.members.nil) eMember x.members.D]) ?_
  refine rvc_un (rexec_prim C (δ := { v := .ptr 7 0, new := [(7, .cells [.pv (.lit (.int .i64 0)), sS (some true) eMember []])] }) rfl rfl rfl rfl trivial rfl ?_)
  refine rvc_un (rexec_prim C (δ := { v := .undef, wr := [(7, some (.cells [.pv (.lit (.int .i64 x.epoch)), sS (some x.members.nil) eMember x.members.D]))] }) rfl rfl rfl rfl trivial rfl ?_)
  refine rvc_nil ?_
  refine Awp.consP C ?_
  refine rvP C (.ptr 7 0) ?_
  refine rvP C (.pv (.lit (.int .i64 x.epoch))) ?_
  refine rvP C (.pv (.lit (.int .i64 epoch))) ?_
  refine rvP C (.pv (.lit (.bool (x.epoch == epoch)))) ?_
  refine rvc_nil ?_
  refine Awp.cond (b := (x.epoch == epoch)) rfl (fun h5 => ?_) (fun h5 => ?_)
  ·
   replace hR := of_true h5 hR
   refine Awp.consP C ?_
   refine rvP C (.agg [.pv (.lit (.int .i64 x.epoch)), sS (some x.members.nil) eMember x.members.D]) ?_
   refine rvc_un (rexec_prim C (δ := { v := .undef, wr := [(4, some (.cells [.pv (.lit (.int .i64 x.epoch)), sS (some x.members.nil) eMember x.members.D]))] }) rfl rfl rfl rfl trivial rfl ?_)
   refine rvP C (.pv (.lit (.bool true))) ?_
   refine rvc_nil ?_
   refine Awp.ret ?_
   subst hR
   exact ⟨.inl rfl, rfl, rfl⟩
  ·
   replace hR := of_false h5 hR
   refine Awp.skip ?_
   refine Awp.regionP C ?_
   refine rvP C (.pv (.lit (.int .i64 (IntKind.i64.wrap ((i : Int) + 1))))) ?_
   refine rvP C (.pv (.lit (.int .i64 (IntKind.i64.wrap ((i : Int) + 1))))) ?_
   refine rvc_nil ?_
   refine ⟨h3, (), ?_, ?_⟩
   · exact hR
   · exact ⟨fun b => b, WeakerR.ofLI (I := [0]) (Ks := [0, 4]) hI ⟨⟨rfl, rfl⟩, ⟨rfl, rfl⟩, ⟨rfl, rfl⟩, ⟨rfl, rfl⟩, ⟨rfl, rfl⟩, ⟨lit_cast (wrap_i64 (by omega) (by omega)), rfl⟩, trivial⟩ (okH_cons rfl rfl rfl rfl (okH_cons rfl rfl rfl rfl (okH_nil))) rfl rfl⟩
 ·
  have h3 : ¬ i < l.all.D.length := by have := of_decide_eq_false h2; omega
  rw [drop_end h3] at hR
  refine Awp.exit ?_
  refine Awp.consP C ?_
  refine rvP C (.agg [.pv (.lit (.int .i64 0)), sS (some true) eMember []]) ?_
  refine rvc_un (rexec_prim C (δ := { v := .undef, wr := [(4, some (.cells [.pv (.lit (.int .i64 0)), sS (some true) eMember []]))] }) rfl rfl rfl rfl trivial rfl ?_)
  refine rvP C (.pv (.lit (.bool false))) ?_
  refine rvc_nil ?_
  refine Awp.ret ?_
  subst hR
  exact ⟨.inl rfl, rfl, rfl⟩
def doIndex (k : Do) (at_ : Int) : Int :=
  (bif (decide (k.by_ > (-3))) then (bif (decide (k.by_ < 3)) then (IntKind.i64.wrap ((IntKind.i64.wrap (at_ + 1)) + k.by_)) else (IntKind.i64.wrap (at_ + 1))) else (IntKind.i64.wrap (at_ + 1)))
theorem doIndex_calls (k : Do) (at_ : Int)  : PCalls Try.prog 18 [.agg [.pv (.lit (.int .i64 k.c.kind)), .pv (.lit (.int .i64 k.c.node)), .pv (.lit (.int .i64 k.c.site)), .pv (.lit (.int .i64 k.c.epoch)), sS (some k.b.nil) (eI .u8) k.b.D, .pv (.lit (.bool k.raw)), .pv (.lit (.int .i64 k.by_)), .pv (.lit (.int .i64 k.off))], .pv (.lit (.int .i64 at_))] (.pv (.lit (.int .i64 (doIndex k at_)))) := by
 generalize hR : doIndex k at_ = R
 refine PCalls.of_body tabOk Try.func18 rfl rfl rfl rfl rfl mixed fun E hP C hI => ?_
 refine Awp.consP C ?_
 refine rvc_un (rexec_prim C (δ := { v := .ptr 2 0, new := [(2, .cells [.pv (.lit (.int .i64 k.c.kind)), .pv (.lit (.int .i64 k.c.node)), .pv (.lit (.int .i64 k.c.site)), .pv (.lit (.int .i64 k.c.epoch)), sS (some k.b.nil) (eI .u8) k.b.D, .pv (.lit (.bool k.raw)), .pv (.lit (.int .i64 k.by_)), .pv (.lit (.int .i64 k.off))])] }) rfl rfl rfl rfl trivial rfl ?_)
 refine rvP C (.pv (.lit (.int .i64 0))) ?_
 refine rvc_nil ?_
 refine Awp.seq ?_
 refine Awp.consP C ?_
 refine rvP C (.ptr 2 6) ?_
 refine rvP C (.pv (.lit (.int .i64 k.by_))) ?_
 refine rvP C (.pv (.lit (.bool (decide (k.by_ > (-3)))))) ?_
 refine rvP C (.pv (.lit (.bool (decide (k.by_ > (-3)))))) ?_
 refine rvc_case 8 (decide (k.by_ > (-3))) rfl (fun h1 => ?_) (fun h1 => ?_)
 ·
  replace hR := of_true h1 hR
  refine rvO C (.ptr 2 6) ?_
  refine rvO C (.pv (.lit (.int .i64 k.by_))) ?_
  refine rvO C (.pv (.lit (.bool (decide (k.by_ < 3))))) ?_
  refine rvP C (.pv (.lit (.bool (decide (k.by_ < 3))))) ?_
  refine rvc_nil ?_
  refine Awp.cond (b := (decide (k.by_ < 3))) rfl (fun h2 => ?_) (fun h2 => ?_)
  ·
   replace hR := of_true h2 hR
   refine Awp.consP C ?_
   refine rvP C (.pv (.lit (.int .i64 at_))) ?_
   refine rvP C (.pv (.lit (.int .i64 (IntKind.i64.wrap (at_ + 1))))) ?_
   refine rvP C (.ptr 2 6) ?_
   refine rvP C (.pv (.lit (.int .i64 k.by_))) ?_
   refine rvP C (.pv (.lit (.int .i64 (IntKind.i64.wrap ((IntKind.i64.wrap (at_ + 1)) + k.by_))))) ?_
   refine rvP C (.pv (.lit (.int .i64 (IntKind.i64.wrap ((IntKind.i64.wrap (at_ + 1)) + k.by_))))) ?_
   refine rvc_nil ?_
   refine Awp.ret ?_
   subst hR
   exact ⟨.inl rfl, rfl⟩
  ·
   replace hR := of_false h2 hR
   refine Awp.skip ?_
   refine Awp.consP C ?_
   refine rvP C (.pv (.lit (.int .i64 at_))) ?_
   refine rvP C (.pv (.lit (.int .i64 (IntKind.i64.wrap (at_ + 1))))) ?_
   refine rvP C (.pv (.lit (.int .i64 (IntKind.i64.wrap (at_ + 1))))) ?_
   refine rvc_nil ?_
   refine Awp.ret ?_
   subst hR
   exact ⟨.inl rfl, rfl⟩
 ·
  replace hR := of_false h1 hR
  refine rvS ?_
  refine rvS ?_
  refine rvS ?_
  refine rvP C (.pv (.lit (.bool false))) ?_
  refine rvc_nil ?_
  refine Awp.condF (b := false) rfl rfl ?_
  refine Awp.skip ?_
  refine Awp.consP C ?_
  refine rvP C (.pv (.lit (.int .i64 at_))) ?_
  refine rvP C (.pv (.lit (.int .i64 (IntKind.i64.wrap (at_ + 1))))) ?_
  refine rvP C (.pv (.lit (.int .i64 (IntKind.i64.wrap (at_ + 1))))) ?_
  refine rvc_nil ?_
  refine Awp.ret ?_
  subst hR
  exact ⟨.inl rfl, rfl⟩
def doData (k : Do) (epoch : Int) : (Sl Int) :=
  (bif k.raw then k.b else (bif (decide (k.off > (-4))) then (bif (decide (k.off < 4)) then (rCmdPut (Command.mk k.c.kind k.c.node k.c.site (IntKind.i64.wrap (epoch + k.off)))).1 else (rCmdPut k.c).1) else (rCmdPut k.c).1))
theorem doData_calls (k : Do) (epoch : Int)  : PCalls Try.prog 15 [.agg [.pv (.lit (.int .i64 k.c.kind)), .pv (.lit (.int .i64 k.c.node)), .pv (.lit (.int .i64 k.c.site)), .pv (.lit (.int .i64 k.c.epoch)), sS (some k.b.nil) (eI .u8) k.b.D, .pv (.lit (.bool k.raw)), .pv (.lit (.int .i64 k.by_)), .pv (.lit (.int .i64 k.off))], .pv (.lit (.int .i64 epoch))] (sS (some (doData k epoch).nil) (eI .u8) ((doData k epoch).D)) := by
 generalize hR : doData k epoch = R
 refine PCalls.of_body tabOk Try.func15 rfl rfl rfl rfl rfl mixed fun E hP C hI => ?_
 refine Awp.consP C ?_
 refine rvc_un (rexec_prim C (δ := { v := .ptr 2 0, new := [(2, .cells [.pv (.lit (.int .i64 k.c.kind)), .pv (.lit (.int .i64 k.c.node)), .pv (.lit (.int .i64 k.c.site)), .pv (.lit (.int .i64 k.c.epoch)), sS (some k.b.nil) (eI .u8) k.b.D, .pv (.lit (.bool k.raw)), .pv (.lit (.int .i64 k.by_)), .pv (.lit (.int .i64 k.off))])] }) rfl rfl rfl rfl trivial rfl ?_)
 refine rvP C (sS (some true) (eI .u8) []) ?_
 refine rvc_nil ?_
 refine Awp.seq ?_
 refine Awp.consP C ?_
 refine rvP C (.ptr 2 5) ?_
 refine rvP C (.pv (.lit (.bool k.raw))) ?_
 refine rvc_nil ?_
 refine Awp.cond (b := k.raw) rfl (fun h1 => ?_) (fun h1 => ?_)
 ·
  replace hR := of_true h1 hR
  refine Awp.consP C ?_
  refine rvP C (.ptr 2 4) ?_
  refine rvP C (sS (some k.b.nil) (eI .u8) k.b.D) ?_
  refine rvP C (sS (some k.b.nil) (eI .u8) k.b.D) ?_
  refine rvc_nil ?_
  refine Awp.ret ?_
  subst hR
  exact ⟨.inl rfl, rfl⟩
 ·
  replace hR := of_false h1 hR
  refine Awp.skip ?_
  refine Awp.consP C ?_
  refine rvP C (.ptr 2 0) ?_
  refine rvP C (.agg [.pv (.lit (.int .i64 k.c.kind)), .pv (.lit (.int .i64 k.c.node)), .pv (.lit (.int .i64 k.c.site)), .pv (.lit (.int .i64 k.c.epoch))]) ?_
  refine rvc_un (rexec_prim C (δ := { v := .ptr 5 0, new := [(5, .cells [.pv (.lit (.int .i64 0)), .pv (.lit (.int .i64 0)), .pv (.lit (.int .i64 0)), .pv (.lit (.int .i64 0))])] }) rfl rfl rfl rfl trivial rfl ?_)
  refine rvc_un (rexec_prim C (δ := { v := .undef, wr := [(5, some (.cells [.pv (.lit (.int .i64 k.c.kind)), .pv (.lit (.int .i64 k.c.node)), .pv (.lit (.int .i64 k.c.site)), .pv (.lit (.int .i64 k.c.epoch))]))] }) rfl rfl rfl rfl trivial rfl ?_)
  refine rvc_nil ?_
  refine Awp.seq ?_
  refine Awp.consP C ?_
  refine rvP C (.ptr 2 7) ?_
  refine rvP C (.pv (.lit (.int .i64 k.off))) ?_
  refine rvP C (.pv (.lit (.bool (decide (k.off > (-4)))))) ?_
  refine rvP C (.pv (.lit (.bool (decide (k.off > (-4)))))) ?_
  refine rvc_case 17 (decide (k.off > (-4))) rfl (fun h2 => ?_) (fun h2 => ?_)
  ·
   replace hR := of_true h2 hR
   refine rvO C (.ptr 2 7) ?_
   refine rvO C (.pv (.lit (.int .i64 k.off))) ?_
   refine rvO C (.pv (.lit (.bool (decide (k.off < 4))))) ?_
   refine rvP C (.pv (.lit (.bool (decide (k.off < 4))))) ?_
   refine rvc_nil ?_
   refine Awp.cond (b := (decide (k.off < 4))) rfl (fun h3 => ?_) (fun h3 => ?_)
   ·
    replace hR := of_true h3 hR
    refine Awp.regionP C ?_
    refine rvP C (.pv (.lit (.int .i64 epoch))) ?_
    refine rvP C (.ptr 2 7) ?_
    refine rvP C (.pv (.lit (.int .i64 k.off))) ?_
    refine rvP C (.pv (.lit (.int .i64 (IntKind.i64.wrap (epoch + k.off))))) ?_
    refine rvP C (.ptr 5 3) ?_
    refine rvc_un (rexec_prim C (δ := { v := .undef, wr := [(5, some (.cells [.pv (.lit (.int .i64 k.c.kind)), .pv (.lit (.int .i64 k.c.node)), .pv (.lit (.int .i64 k.c.site)), .pv (.lit (.int .i64 (IntKind.i64.wrap (epoch + k.off))))]))] }) rfl rfl rfl rfl trivial rfl ?_)
    refine rvc_nil ?_
    refine Awp.consP C ?_
    refine rvP C (.agg [.pv (.lit (.int .i64 k.c.kind)), .pv (.lit (.int .i64 k.c.node)), .pv (.lit (.int .i64 k.c.site)), .pv (.lit (.int .i64 (IntKind.i64.wrap (epoch + k.off))))]) ?_
    refine rvc_un (rexec_call hP C rfl rfl rfl (rCmdPut_calls (Command.mk k.c.kind k.c.node k.c.site (IntKind.i64.wrap (epoch + k.off)))) ?_)
    refine rvP C (.tup [sS (some (rCmdPut (Command.mk k.c.kind k.c.node k.c.site (IntKind.i64.wrap (epoch + k.off)))).1.nil) (eI .u8) ((rCmdPut (Command.mk k.c.kind k.c.node k.c.site (IntKind.i64.wrap (epoch + k.off)))).1.D), .pv (.lit (.int .i64 ((rCmdPut (Command.mk k.c.kind k.c.node k.c.site (IntKind.i64.wrap (epoch + k.off)))).2)))]) ?_
    refine rvP C (sS (some (rCmdPut (Command.mk k.c.kind k.c.node k.c.site (IntKind.i64.wrap (epoch + k.off)))).1.nil) (eI .u8) ((rCmdPut (Command.mk k.c.kind k.c.node k.c.site (IntKind.i64.wrap (epoch + k.off)))).1.D)) ?_
    refine rvP C (.pv (.lit (.int .i64 ((rCmdPut (Command.mk k.c.kind k.c.node k.c.site (IntKind.i64.wrap (epoch + k.off)))).2)))) ?_
    refine rvP C (sS (some (rCmdPut (Command.mk k.c.kind k.c.node k.c.site (IntKind.i64.wrap (epoch + k.off)))).1.nil) (eI .u8) ((rCmdPut (Command.mk k.c.kind k.c.node k.c.site (IntKind.i64.wrap (epoch + k.off)))).1.D)) ?_
    refine rvP C (.pv (.lit (.int .i64 ((rCmdPut (Command.mk k.c.kind k.c.node k.c.site (IntKind.i64.wrap (epoch + k.off)))).2)))) ?_
    refine rvc_nil ?_
    refine Awp.consP C ?_
    refine rvP C (sS (some (rCmdPut (Command.mk k.c.kind k.c.node k.c.site (IntKind.i64.wrap (epoch + k.off)))).1.nil) (eI .u8) ((rCmdPut (Command.mk k.c.kind k.c.node k.c.site (IntKind.i64.wrap (epoch + k.off)))).1.D)) ?_
    refine rvP C (sS (some (rCmdPut (Command.mk k.c.kind k.c.node k.c.site (IntKind.i64.wrap (epoch + k.off)))).1.nil) (eI .u8) ((rCmdPut (Command.mk k.c.kind k.c.node k.c.site (IntKind.i64.wrap (epoch + k.off)))).1.D)) ?_
    refine rvc_nil ?_
    refine Awp.ret ?_
    subst hR
    exact ⟨.inl rfl, rfl⟩
   ·
    replace hR := of_false h3 hR
    refine Awp.skip ?_
    refine Awp.consP C ?_
    refine rvP C (.agg [.pv (.lit (.int .i64 k.c.kind)), .pv (.lit (.int .i64 k.c.node)), .pv (.lit (.int .i64 k.c.site)), .pv (.lit (.int .i64 k.c.epoch))]) ?_
    refine rvc_un (rexec_call hP C rfl rfl rfl (rCmdPut_calls k.c) ?_)
    refine rvP C (.tup [sS (some (rCmdPut k.c).1.nil) (eI .u8) ((rCmdPut k.c).1.D), .pv (.lit (.int .i64 ((rCmdPut k.c).2)))]) ?_
    refine rvP C (sS (some (rCmdPut k.c).1.nil) (eI .u8) ((rCmdPut k.c).1.D)) ?_
    refine rvP C (.pv (.lit (.int .i64 ((rCmdPut k.c).2)))) ?_
    refine rvP C (sS (some (rCmdPut k.c).1.nil) (eI .u8) ((rCmdPut k.c).1.D)) ?_
    refine rvP C (.pv (.lit (.int .i64 ((rCmdPut k.c).2)))) ?_
    refine rvc_nil ?_
    refine Awp.consP C ?_
    refine rvP C (sS (some (rCmdPut k.c).1.nil) (eI .u8) ((rCmdPut k.c).1.D)) ?_
    refine rvP C (sS (some (rCmdPut k.c).1.nil) (eI .u8) ((rCmdPut k.c).1.D)) ?_
    refine rvc_nil ?_
    refine Awp.ret ?_
    subst hR
    exact ⟨.inl rfl, rfl⟩
  ·
   replace hR := of_false h2 hR
   refine rvS ?_
   refine rvS ?_
   refine rvS ?_
   refine rvP C (.pv (.lit (.bool false))) ?_
   refine rvc_nil ?_
   refine Awp.condF (b := false) rfl rfl ?_
   refine Awp.skip ?_
   refine Awp.consP C ?_
   refine rvP C (.agg [.pv (.lit (.int .i64 k.c.kind)), .pv (.lit (.int .i64 k.c.node)), .pv (.lit (.int .i64 k.c.site)), .pv (.lit (.int .i64 k.c.epoch))]) ?_
   refine rvc_un (rexec_call hP C rfl rfl rfl (rCmdPut_calls k.c) ?_)
   refine rvP C (.tup [sS (some (rCmdPut k.c).1.nil) (eI .u8) ((rCmdPut k.c).1.D), .pv (.lit (.int .i64 ((rCmdPut k.c).2)))]) ?_
   refine rvP C (sS (some (rCmdPut k.c).1.nil) (eI .u8) ((rCmdPut k.c).1.D)) ?_
   refine rvP C (.pv (.lit (.int .i64 ((rCmdPut k.c).2)))) ?_
   refine rvP C (sS (some (rCmdPut k.c).1.nil) (eI .u8) ((rCmdPut k.c).1.D)) ?_
   refine rvP C (.pv (.lit (.int .i64 ((rCmdPut k.c).2)))) ?_
   refine rvc_nil ?_
   refine Awp.consP C ?_
   refine rvP C (sS (some (rCmdPut k.c).1.nil) (eI .u8) ((rCmdPut k.c).1.D)) ?_
   refine rvP C (sS (some (rCmdPut k.c).1.nil) (eI .u8) ((rCmdPut k.c).1.D)) ?_
   refine rvc_nil ?_
   refine Awp.ret ?_
   subst hR
   exact ⟨.inl rfl, rfl⟩
def short_l1 (x : (Sl Do)) (kk : Int → Int → Int → Bool) : Nat → Int → Int → Int → Bool
  | 0, _, _, _ => default
  | nn + 1, n1, acts1, i1 => (bif (decide (i1 < (x.D.length : Int))) then (bif (decide (acts1 ≤ 150)) then (bif (decide (n1 ≤ 4096)) then short_l1 x kk nn (IntKind.i64.wrap (n1 + (bif (decide ((4097 : Int) < ((x.D[i1.toNat]!.b.D).length : Int))) then (4097 : Int) else ((x.D[i1.toNat]!.b.D).length : Int)))) (IntKind.i64.wrap (acts1 + 1)) (IntKind.i64.wrap (i1 + 1)) else kk n1 acts1 i1) else kk n1 acts1 i1) else kk n1 acts1 i1)
def short_l0 : List (Sl Do) → Nat → Int → Int → Bool
  | [], _, n, acts => (bif (decide (acts ≤ 150)) then (decide (n ≤ 4096)) else false)
  | x :: xs, i, n, acts => short_l1 x (fun n1 acts1 _ => short_l0 xs (i + 1) n1 acts1) ((x.D.length - (0 : Int).toNat) + 1) n acts 0
def short (lists : (Sl (Sl Do))) : Bool :=
  short_l0 lists.D 0 0 0
theorem short_calls (lists : (Sl (Sl Do))) (hl1 : lists.D.length ≤ 9223372036854775807) : PCalls Try.prog 10 [sS (some lists.nil) (eSl eDo) lists.D] (.pv (.lit (.bool (short lists)))) := by
 generalize hR : short lists = R
 refine PCalls.of_body tabOk Try.func10 rfl rfl rfl rfl rfl mixed fun E hP C hI => ?_
 refine Awp.consP C ?_
 refine rvP C (.pv (.lit (.bool false))) ?_
 refine rvc_nil ?_
 refine Awp.consP C ?_
 refine rvP C (.pv (.lit (.int .i64 0))) ?_
 refine rvP C (.pv (.lit (.int .i64 0))) ?_
 refine rvc_nil ?_
 refine Awp.seq ?_
 refine Awp.consP C ?_
 refine rvP C (sS (some lists.nil) (eSl eDo) lists.D) ?_
 refine rvP C (.pv (.lit (.int .i64 (lists.D.length : Int)))) ?_
 refine rvP C (.pv (.lit (.int .i64 0))) ?_
 refine rvc_nil ?_
 refine Awp.block ?_
 refine Awp.forR (σ := Int × Int) (lists.D.length) (fun i v => [(3, .pv (.lit (.int .i64 v.1))), (4, .pv (.lit (.int .i64 v.2))), (8, sS (some lists.nil) (eSl eDo) lists.D), (9, .pv (.lit (.int .i64 (lists.D.length : Int)))), (10, .pv (.lit (.int .i64 (i : Int))))]) (fun i v => []) [] (fun i v => (short_l0 (lists.D.drop i) i v.1 v.2 = R) ∧ ((0 ≤ v.2 ∧ v.2 ≤ 151) ∧ (0 ≤ v.1 ∧ v.1 ≤ 8193))) (0, 0) ?_ ?_ (fun i v h1 hR => ?_)
 · exact ⟨hR, (by dsimp only; omega)⟩
 · exact ⟨fun b => b, WeakerR.ofL (Ks := []) hI ⟨⟨rfl, rfl⟩, ⟨rfl, rfl⟩, ⟨rfl, rfl⟩, ⟨rfl, rfl⟩, ⟨rfl, rfl⟩, trivial⟩ (okH_nil) rfl⟩
 obtain ⟨n, acts⟩ := v
 obtain ⟨hR, hV⟩ := hR
 replace hV : (0 ≤ acts ∧ acts ≤ 151) ∧ (0 ≤ n ∧ n ≤ 8193) := hV
 refine Awp.consP C ?_
 refine rvP C (.pv (.lit (.bool (decide ((i : Int) < (lists.D.length : Int)))))) ?_
 refine rvc_nil ?_
 refine Awp.seq ?_
 refine Awp.cond (b := (decide ((i : Int) < (lists.D.length : Int)))) rfl (fun h2 => ?_) (fun h2 => ?_)
 ·
  have h3 : i < lists.D.length := by have := of_decide_eq_true h2; omega
  obtain ⟨x, h4⟩ := getX h3
  rw [drop_at h4] at hR
  refine Awp.skip ?_
  refine Awp.seq ?_
  refine Awp.block ?_
  refine Awp.consP C ?_
  refine rvc_un (rexec_idxS C rfl rfl rfl rfl rfl rfl x (Int.natCast_nonneg _) h4 ?_)
  refine rvP C (sS (some x.nil) eDo x.D) ?_
  refine rvP C (sS (some x.nil) eDo x.D) ?_
  refine rvc_nil ?_
  refine Awp.consP C ?_
  refine rvP C (.pv (.lit (.int .i64 0))) ?_
  refine rvc_nil ?_
  refine Awp.block ?_
  refine Awp.forM (σ := Int × Int × Int) (fun v => [(3, .pv (.lit (.int .i64 v.1))), (4, .pv (.lit (.int .i64 v.2.1))), (6, sS (some x.nil) eDo x.D), (7, .pv (.lit (.int .i64 v.2.2))), (8, sS (some lists.nil) (eSl eDo) lists.D), (9, .pv (.lit (.int .i64 (lists.D.length : Int)))), (10, .pv (.lit (.int .i64 (i : Int))))]) (fun v => []) [] (fun n v => n = (x.D.length - (v.2.2 : Int).toNat) ∧ short_l1 x (fun n1 acts1 _ => short_l0 (lists.D.drop (i + 1)) (i + 1) n1 acts1) ((x.D.length - (v.2.2 : Int).toNat) + 1) v.1 v.2.1 v.2.2 = R ∧ (((0 ≤ v.2.1 ∧ v.2.1 ≤ 151) ∧ (0 ≤ v.1 ∧ v.1 ≤ 8193)) ∧ 0 ≤ v.2.2 ∧ v.2.2 ≤ (x.D.length : Int) ∧ v.2.2 ≤ v.2.1)) ((x.D.length - (0 : Int).toNat)) (n, acts, 0) ?_ ?_ (fun _ v h5 => ?_)
  · exact ⟨rfl, hR, (by dsimp only; omega)⟩
  · exact ⟨fun b => b, WeakerR.ofL (Ks := []) hI ⟨⟨rfl, rfl⟩, ⟨rfl, rfl⟩, ⟨rfl, rfl⟩, ⟨rfl, rfl⟩, ⟨rfl, rfl⟩, ⟨rfl, rfl⟩, ⟨rfl, rfl⟩, trivial⟩ (okH_nil) rfl⟩
  obtain ⟨n1, acts1, i1⟩ := v
  obtain ⟨rfl, hR, hW⟩ := h5
  replace hW : ((0 ≤ acts1 ∧ acts1 ≤ 151) ∧ (0 ≤ n1 ∧ n1 ≤ 8193)) ∧ 0 ≤ i1 ∧ i1 ≤ (x.D.length : Int) ∧ i1 ≤ acts1 := hW
  refine Awp.seq ?_
  refine Awp.consP C ?_
  refine rvP C (.pv (.lit (.int .i64 i1))) ?_
  refine rvP C (sS (some x.nil) eDo x.D) ?_
  refine rvP C (.pv (.lit (.int .i64 (x.D.length : Int)))) ?_
  refine rvP C (.pv (.lit (.bool (decide (i1 < (x.D.length : Int)))))) ?_
  refine rvP C (.pv (.lit (.bool (decide (i1 < (x.D.length : Int)))))) ?_
  refine rvc_case 18 (decide (i1 < (x.D.length : Int))) rfl (fun h7 => ?_) (fun h7 => ?_)
  ·
   replace hR := of_true h7 hR
   refine rvO C (.pv (.lit (.int .i64 acts1))) ?_
   refine rvO C (.pv (.lit (.bool (decide (acts1 ≤ 150))))) ?_
   refine rvP C (.pv (.lit (.bool (decide (acts1 ≤ 150))))) ?_
   refine rvP C (.pv (.lit (.bool (decide (acts1 ≤ 150))))) ?_
   refine rvc_case 22 (decide (acts1 ≤ 150)) rfl (fun h8 => ?_) (fun h8 => ?_)
   ·
    replace hR := of_true h8 hR
    refine rvO C (.pv (.lit (.int .i64 n1))) ?_
    refine rvO C (.pv (.lit (.bool (decide (n1 ≤ 4096))))) ?_
    refine rvP C (.pv (.lit (.bool (decide (n1 ≤ 4096))))) ?_
    refine rvc_nil ?_
    refine Awp.cond (b := (decide (n1 ≤ 4096))) rfl (fun h9 => ?_) (fun h9 => ?_)
    ·
     replace hR := of_true h9 hR
     refine Awp.skip ?_
     refine Awp.seq ?_
     refine Awp.block ?_
     refine Awp.consP C ?_
     refine rvP C (.pv (.lit (.int .i64 acts1))) ?_
     refine rvP C (.pv (.lit (.int .i64 (IntKind.i64.wrap (acts1 + 1))))) ?_
     refine rvP C (.pv (.lit (.int .i64 (IntKind.i64.wrap (acts1 + 1))))) ?_
     refine rvc_nil ?_
     refine Awp.regionP C ?_
     refine rvP C (.pv (.lit (.int .i64 n1))) ?_
     refine rvP C (sS (some x.nil) eDo x.D) ?_
     refine rvP C (.pv (.lit (.int .i64 i1))) ?_
     have h10 : x.D[i1.toNat]? = some x.D[i1.toNat]! := getE (by have := of_decide_eq_true h2; have := of_decide_eq_true h7; have := of_decide_eq_true h8; have := of_decide_eq_true h9; omega)
     refine rvc_un (rexec_idxS C rfl rfl rfl rfl rfl rfl (x.D[i1.toNat]!) (by have := of_decide_eq_true h2; have := of_decide_eq_true h7; have := of_decide_eq_true h8; have := of_decide_eq_true h9; omega) h10 ?_)
     refine rvP C (.rp [.sl (some x.D[i1.toNat]!.b.nil) (x.D[i1.toNat]!.b.D).length (encL (eI .u8) (x.D[i1.toNat]!.b.D))]) ?_
     refine rvP C (sS (some x.D[i1.toNat]!.b.nil) (eI .u8) (x.D[i1.toNat]!.b.D)) ?_
     refine rvP C (.pv (.lit (.int .i64 ((x.D[i1.toNat]!.b.D).length : Int)))) ?_
     refine rvc_un (rexec_min C rfl rfl rfl ?_)
     refine rvP C (.pv (.lit (.int .i64 (IntKind.i64.wrap (n1 + (bif (decide ((4097 : Int) < ((x.D[i1.toNat]!.b.D).length : Int))) then (4097 : Int) else ((x.D[i1.toNat]!.b.D).length : Int))))))) ?_
     refine rvP C (.pv (.lit (.int .i64 (IntKind.i64.wrap (n1 + (bif (decide ((4097 : Int) < ((x.D[i1.toNat]!.b.D).length : Int))) then (4097 : Int) else ((x.D[i1.toNat]!.b.D).length : Int))))))) ?_
     refine rvc_nil ?_
     refine Awp.regionP C ?_
     refine rvP C (.pv (.lit (.int .i64 i1))) ?_
     refine rvP C (.pv (.lit (.int .i64 (IntKind.i64.wrap (i1 + 1))))) ?_
     refine rvP C (.pv (.lit (.int .i64 (IntKind.i64.wrap (i1 + 1))))) ?_
     refine rvc_nil ?_
     refine ⟨_, ((IntKind.i64.wrap (n1 + (bif (decide ((4097 : Int) < ((x.D[i1.toNat]!.b.D).length : Int))) then (4097 : Int) else ((x.D[i1.toNat]!.b.D).length : Int)))), (IntKind.i64.wrap (acts1 + 1)), (IntKind.i64.wrap (i1 + 1))), ?_, ⟨rfl, (by rw [show (x.D.length - ((IntKind.i64.wrap (i1 + 1)) : Int).toNat) + 1 = (x.D.length - (i1 : Int).toNat) by have := wrapI (n1 + (bif (decide ((4097 : Int) < ((x.D[i1.toNat]!.b.D).length : Int))) then (4097 : Int) else ((x.D[i1.toNat]!.b.D).length : Int))); have := wrapI (acts1 + 1); have := wrapI (i1 + 1); have := of_decide_eq_true h2; have := of_decide_eq_true h7; have := of_decide_eq_true h8; have := of_decide_eq_true h9; first | omega | (simp only [List.length_drop]; omega)]; exact hR), (by have hm_ := min97 ((x.D[i1.toNat]!.b.D).length : Int); have := wrapI (n1 + (bif (decide ((4097 : Int) < ((x.D[i1.toNat]!.b.D).length : Int))) then (4097 : Int) else ((x.D[i1.toNat]!.b.D).length : Int))); have := wrapI (acts1 + 1); have := wrapI (i1 + 1); have := of_decide_eq_true ‹decide (i1 < (x.D.length : Int)) = true›; have := of_decide_eq_true ‹decide (acts1 ≤ 150) = true›; have := of_decide_eq_true ‹decide (n1 ≤ 4096) = true›; have := hm_ (Int.natCast_nonneg _); dsimp only; omega)⟩, ?_⟩
     · show (x.D.length - ((IntKind.i64.wrap (i1 + 1)) : Int).toNat) < (x.D.length - (i1 : Int).toNat); have := wrapI (n1 + (bif (decide ((4097 : Int) < ((x.D[i1.toNat]!.b.D).length : Int))) then (4097 : Int) else ((x.D[i1.toNat]!.b.D).length : Int))); have := wrapI (acts1 + 1); have := wrapI (i1 + 1); have := of_decide_eq_true h2; have := of_decide_eq_true h7; have := of_decide_eq_true h8; have := of_decide_eq_true h9; first | omega | (simp only [List.length_drop]; omega)
     · exact ⟨fun b => b, WeakerR.ofL (Ks := []) hI ⟨⟨rfl, rfl⟩, ⟨rfl, rfl⟩, ⟨rfl, rfl⟩, ⟨rfl, rfl⟩, ⟨rfl, rfl⟩, ⟨rfl, rfl⟩, ⟨rfl, rfl⟩, trivial⟩ (okH_nil) rfl⟩
    ·
     replace hR := of_false h9 hR
     refine Awp.exit ?_
     refine Awp.regionP C ?_
     refine rvP C (.pv (.lit (.int .i64 (IntKind.i64.wrap ((i : Int) + 1))))) ?_
     refine rvP C (.pv (.lit (.int .i64 (IntKind.i64.wrap ((i : Int) + 1))))) ?_
     refine rvc_nil ?_
     refine ⟨h3, (n1, acts1), ?_, ?_⟩
     · exact ⟨hR, hW.1⟩
     · exact ⟨fun b => b, WeakerR.ofL (Ks := []) hI ⟨⟨rfl, rfl⟩, ⟨rfl, rfl⟩, ⟨rfl, rfl⟩, ⟨rfl, rfl⟩, ⟨lit_cast (wrap_i64 (by omega) (by omega)), rfl⟩, trivial⟩ (okH_nil) rfl⟩
   ·
    replace hR := of_false h8 hR
    refine rvS ?_
    refine rvS ?_
    refine rvP C (.pv (.lit (.bool false))) ?_
    refine rvc_nil ?_
    refine Awp.condF (b := false) rfl rfl ?_
    refine Awp.exit ?_
    refine Awp.regionP C ?_
    refine rvP C (.pv (.lit (.int .i64 (IntKind.i64.wrap ((i : Int) + 1))))) ?_
    refine rvP C (.pv (.lit (.int .i64 (IntKind.i64.wrap ((i : Int) + 1))))) ?_
    refine rvc_nil ?_
    refine ⟨h3, (n1, acts1), ?_, ?_⟩
    · exact ⟨hR, hW.1⟩
    · exact ⟨fun b => b, WeakerR.ofL (Ks := []) hI ⟨⟨rfl, rfl⟩, ⟨rfl, rfl⟩, ⟨rfl, rfl⟩, ⟨rfl, rfl⟩, ⟨lit_cast (wrap_i64 (by omega) (by omega)), rfl⟩, trivial⟩ (okH_nil) rfl⟩
  ·
   replace hR := of_false h7 hR
   refine rvS ?_
   refine rvS ?_
   refine rvP C (.pv (.lit (.bool false))) ?_
   refine rvP C (.pv (.lit (.bool false))) ?_
   refine rvS ?_
   refine rvS ?_
   refine rvP C (.pv (.lit (.bool false))) ?_
   refine rvc_nil ?_
   refine Awp.condF (b := false) rfl rfl ?_
   refine Awp.exit ?_
   refine Awp.regionP C ?_
   refine rvP C (.pv (.lit (.int .i64 (IntKind.i64.wrap ((i : Int) + 1))))) ?_
   refine rvP C (.pv (.lit (.int .i64 (IntKind.i64.wrap ((i : Int) + 1))))) ?_
   refine rvc_nil ?_
   refine ⟨h3, (n1, acts1), ?_, ?_⟩
   · exact ⟨hR, hW.1⟩
   · exact ⟨fun b => b, WeakerR.ofL (Ks := []) hI ⟨⟨rfl, rfl⟩, ⟨rfl, rfl⟩, ⟨rfl, rfl⟩, ⟨rfl, rfl⟩, ⟨lit_cast (wrap_i64 (by omega) (by omega)), rfl⟩, trivial⟩ (okH_nil) rfl⟩
 ·
  have h3 : ¬ i < lists.D.length := by have := of_decide_eq_false h2; omega
  rw [drop_end h3] at hR
  refine Awp.exit ?_
  refine Awp.consP C ?_
  refine rvP C (.pv (.lit (.int .i64 acts))) ?_
  refine rvP C (.pv (.lit (.bool (decide (acts ≤ 150))))) ?_
  refine rvP C (.pv (.lit (.bool (decide (acts ≤ 150))))) ?_
  refine rvc_case 42 (decide (acts ≤ 150)) rfl (fun h11 => ?_) (fun h11 => ?_)
  ·
   replace hR := of_true h11 hR
   refine rvO C (.pv (.lit (.int .i64 n))) ?_
   refine rvO C (.pv (.lit (.bool (decide (n ≤ 4096))))) ?_
   refine rvP C (.pv (.lit (.bool (decide (n ≤ 4096))))) ?_
   refine rvP C (.pv (.lit (.bool (decide (n ≤ 4096))))) ?_
   refine rvc_nil ?_
   refine Awp.ret ?_
   subst hR
   exact ⟨.inl rfl, rfl⟩
  ·
   replace hR := of_false h11 hR
   refine rvS ?_
   refine rvS ?_
   refine rvP C (.pv (.lit (.bool false))) ?_
   refine rvP C (.pv (.lit (.bool false))) ?_
   refine rvc_nil ?_
   refine Awp.ret ?_
   subst hR
   exact ⟨.inl rfl, rfl⟩
end Go.Proofs.Ytpgenmflgdkfiaa
/- Ledgers made. No conditions. -/
namespace Go.Proofs.Ytpgenmflgdkfiaa
open Go.Am
def newL (l : (Sl Member)) : Ledger × Int :=
  ((Ledger.mk (Past.mk (Sl.mk false [(firstC l).1])) ((firstC l).1) 0), 0)
theorem newL_calls (l : (Sl Member)) (h0 : (((firstC l).2) != 0) = false) (hl1 : l.D.length ≤ 1000000) : OCalls Try.prog 12 [sS (some l.nil) eMember l.D] (.tup [.ptr 0 0, .pv (.lit (.int .i64 ((newL l).2)))]) (.cells [sS (some (newL l).1.past.all.nil) eChain ((newL l).1.past.all.D), .pv (.lit (.int .i64 ((newL l).1.chain.epoch))), sS (some (newL l).1.chain.members.nil) eMember ((newL l).1.chain.members.D), .pv (.lit (.int .i64 ((newL l).1.at_)))]) := by
 generalize hR : newL l = R
 refine OCalls.of_body tabOk Try.func12 rfl rfl rfl rfl rfl rfl mixed fun E hP C hI => ?_
 refine Awp.consP C ?_
 refine rvP C (.pv (.lit (.pointer none))) ?_
 refine rvP C (.pv (.lit (.int .i64 0))) ?_
 refine rvc_nil ?_
 refine Awp.consP C ?_
 refine rvP C (sS (some l.nil) eMember l.D) ?_
 refine rvc_un (rexec_call hP C rfl rfl rfl (firstC_calls l hl1) ?_)
 refine rvP C (.tup [.agg [.pv (.lit (.int .i64 ((firstC l).1.epoch))), sS (some (firstC l).1.members.nil) eMember ((firstC l).1.members.D)], .pv (.lit (.int .i64 ((firstC l).2)))]) ?_
 refine rvP C (.agg [.pv (.lit (.int .i64 ((firstC l).1.epoch))), sS (some (firstC l).1.members.nil) eMember ((firstC l).1.members.D)]) ?_
 refine rvP C (.pv (.lit (.int .i64 ((firstC l).2)))) ?_
 refine rvc_un (rexec_prim C (δ := { v := .ptr 4 0, new := [(4, .cells [.pv (.lit (.int .i64 0)), sS (some true) eMember []])] }) rfl rfl rfl rfl trivial rfl ?_)
 refine rvc_un (rexec_prim C (δ := { v := .undef, wr := [(4, some (.cells [.pv (.lit (.int .i64 ((firstC l).1.epoch))), sS (some (firstC l).1.members.nil) eMember ((firstC l).1.members.D)]))] }) rfl rfl rfl rfl trivial rfl ?_)
 refine rvP C (.pv (.lit (.int .i64 ((firstC l).2)))) ?_
 refine rvc_nil ?_
 refine Awp.seq ?_
 refine Awp.consP C ?_
 refine rvP C (.pv (.lit (.int .i64 ((firstC l).2)))) ?_
 refine rvP C (.pv (.lit (.bool (((firstC l).2) != 0)))) ?_
 refine rvc_nil ?_
 refine Awp.condF (b := (((firstC l).2) != 0)) rfl h0 ?_
 refine Awp.skip ?_
 refine Awp.consP C ?_
 refine rvP C (.agg [.pv (.lit (.int .i64 ((firstC l).1.epoch))), sS (some (firstC l).1.members.nil) eMember ((firstC l).1.members.D)]) ?_
 refine rvc_un (rexec_buildSliceF C eChain [(firstC l).1] rfl rfl rfl rfl rfl rfl rfl (by decide) rfl ?_)
 refine rvP C (.agg [sS (some false) eChain [(firstC l).1]]) ?_
 refine rvP C (.agg [.pv (.lit (.int .i64 ((firstC l).1.epoch))), sS (some (firstC l).1.members.nil) eMember ((firstC l).1.members.D)]) ?_
 refine rvP C (.agg [sS (some false) eChain [(firstC l).1], .pv (.lit (.int .i64 ((firstC l).1.epoch))), sS (some (firstC l).1.members.nil) eMember ((firstC l).1.members.D), .pv (.lit (.int .i64 0))]) ?_
 refine rvc_un (rexec_prim C (δ := { v := .ptr 19 0, new := [(19, .cells [sS (some false) eChain [(firstC l).1], .pv (.lit (.int .i64 ((firstC l).1.epoch))), sS (some (firstC l).1.members.nil) eMember ((firstC l).1.members.D), .pv (.lit (.int .i64 0))])] }) rfl rfl rfl rfl trivial rfl ?_)
 refine rvP C (.ptr 19 0) ?_
 refine rvP C (.pv (.lit (.int .i64 0))) ?_
 refine rvc_nil ?_
 refine Awp.weakenR (S := [(2, .ptr 0 0), (3, .pv (.lit (.int .i64 0)))]) (H := [(0, .cells [sS (some false) eChain [(firstC l).1], .pv (.lit (.int .i64 ((firstC l).1.epoch))), sS (some (firstC l).1.members.nil) eMember ((firstC l).1.members.D), .pv (.lit (.int .i64 0))])]) (U := [0]) (fun x => bif x == 0 then 19 else x) (WeakerR.ofL (Ks := [0]) hI ⟨⟨rfl, rfl⟩, ⟨rfl, rfl⟩, trivial⟩ (okH_cons rfl rfl rfl rfl okH_nil) rfl) ?_
 refine Awp.ret ?_
 subst hR
 exact ⟨.inl rfl, rfl, rfl⟩
def newNil (l : (Sl Member)) : Unit × Int :=
  ((), (firstC l).2)
theorem newNil_calls (l : (Sl Member)) (h0 : (((firstC l).2) != 0) = true) (hl1 : l.D.length ≤ 1000000) : PCalls Try.prog 12 [sS (some l.nil) eMember l.D] (.tup [.pv (.lit (.pointer none)), .pv (.lit (.int .i64 ((newNil l).2)))]) := by
 generalize hR : newNil l = R
 refine PCalls.of_body tabOk Try.func12 rfl rfl rfl rfl rfl mixed fun E hP C hI => ?_
 refine Awp.consP C ?_
 refine rvP C (.pv (.lit (.pointer none))) ?_
 refine rvP C (.pv (.lit (.int .i64 0))) ?_
 refine rvc_nil ?_
 refine Awp.consP C ?_
 refine rvP C (sS (some l.nil) eMember l.D) ?_
 refine rvc_un (rexec_call hP C rfl rfl rfl (firstC_calls l hl1) ?_)
 refine rvP C (.tup [.agg [.pv (.lit (.int .i64 ((firstC l).1.epoch))), sS (some (firstC l).1.members.nil) eMember ((firstC l).1.members.D)], .pv (.lit (.int .i64 ((firstC l).2)))]) ?_
 refine rvP C (.agg [.pv (.lit (.int .i64 ((firstC l).1.epoch))), sS (some (firstC l).1.members.nil) eMember ((firstC l).1.members.D)]) ?_
 refine rvP C (.pv (.lit (.int .i64 ((firstC l).2)))) ?_
 refine rvc_un (rexec_prim C (δ := { v := .ptr 4 0, new := [(4, .cells [.pv (.lit (.int .i64 0)), sS (some true) eMember []])] }) rfl rfl rfl rfl trivial rfl ?_)
 refine rvc_un (rexec_prim C (δ := { v := .undef, wr := [(4, some (.cells [.pv (.lit (.int .i64 ((firstC l).1.epoch))), sS (some (firstC l).1.members.nil) eMember ((firstC l).1.members.D)]))] }) rfl rfl rfl rfl trivial rfl ?_)
 refine rvP C (.pv (.lit (.int .i64 ((firstC l).2)))) ?_
 refine rvc_nil ?_
 refine Awp.seq ?_
 refine Awp.consP C ?_
 refine rvP C (.pv (.lit (.int .i64 ((firstC l).2)))) ?_
 refine rvP C (.pv (.lit (.bool (((firstC l).2) != 0)))) ?_
 refine rvc_nil ?_
 refine Awp.condT (b := (((firstC l).2) != 0)) rfl h0 ?_
 refine Awp.consP C ?_
 refine rvP C (.pv (.lit (.int .i64 ((firstC l).2)))) ?_
 refine rvP C (.pv (.lit (.pointer none))) ?_
 refine rvP C (.pv (.lit (.int .i64 ((firstC l).2)))) ?_
 refine rvc_nil ?_
 refine Awp.ret ?_
 subst hR
 exact ⟨.inl rfl, rfl⟩
def rNewL (l : (Sl Member)) : Ledger60 × Int :=
  ((Ledger60.mk ((rFirst l).1) (Sl.mk false [(rFirst l).1]) 0), 0)
theorem rNewL_calls (l : (Sl Member)) (h0 : (((rFirst l).2) != 0) = false) (hl1 : l.D.length ≤ 1000000) : OCalls Try.prog 29 [sS (some l.nil) eMember l.D] (.tup [.ptr 0 0, .pv (.lit (.int .i64 ((rNewL l).2)))]) (.cells [.pv (.lit (.int .i64 ((rNewL l).1.c.epoch))), sS (some (rNewL l).1.c.members.nil) eMember ((rNewL l).1.c.members.D), sS (some (rNewL l).1.all.nil) eChain ((rNewL l).1.all.D), .pv (.lit (.int .i64 ((rNewL l).1.at_)))]) := by
 generalize hR : rNewL l = R
 refine OCalls.of_body tabOk Try.func29 rfl rfl rfl rfl rfl rfl mixed fun E hP C hI => ?_
 refine Awp.consP C ?_
 refine rvP C (.pv (.lit (.pointer none))) ?_
 refine rvP C (.pv (.lit (.int .i64 0))) ?_
 refine rvc_nil ?_
 refine Awp.consP C ?_
 refine rvP C (sS (some l.nil) eMember l.D) ?_
 refine rvc_un (rexec_call hP C rfl rfl rfl (rFirst_calls l hl1) ?_)
 refine rvP C (.tup [.agg [.pv (.lit (.int .i64 ((rFirst l).1.epoch))), sS (some (rFirst l).1.members.nil) eMember ((rFirst l).1.members.D)], .pv (.lit (.int .i64 ((rFirst l).2)))]) ?_
 refine rvP C (.agg [.pv (.lit (.int .i64 ((rFirst l).1.epoch))), sS (some (rFirst l).1.members.nil) eMember ((rFirst l).1.members.D)]) ?_
 refine rvP C (.pv (.lit (.int .i64 ((rFirst l).2)))) ?_
 refine rvc_un (rexec_prim C (δ := { v := .ptr 4 0, new := [(4, .cells [.pv (.lit (.int .i64 0)), sS (some true) eMember []])] }) rfl rfl rfl rfl trivial rfl ?_)
 refine rvc_un (rexec_prim C (δ := { v := .undef, wr := [(4, some (.cells [.pv (.lit (.int .i64 ((rFirst l).1.epoch))), sS (some (rFirst l).1.members.nil) eMember ((rFirst l).1.members.D)]))] }) rfl rfl rfl rfl trivial rfl ?_)
 refine rvP C (.pv (.lit (.int .i64 ((rFirst l).2)))) ?_
 refine rvc_nil ?_
 refine Awp.seq ?_
 refine Awp.consP C ?_
 refine rvP C (.pv (.lit (.int .i64 ((rFirst l).2)))) ?_
 refine rvP C (.pv (.lit (.bool (((rFirst l).2) != 0)))) ?_
 refine rvc_nil ?_
 refine Awp.condF (b := (((rFirst l).2) != 0)) rfl h0 ?_
 refine Awp.skip ?_
 refine Awp.consP C ?_
 refine rvP C (.agg [.pv (.lit (.int .i64 ((rFirst l).1.epoch))), sS (some (rFirst l).1.members.nil) eMember ((rFirst l).1.members.D)]) ?_
 refine rvP C (.agg [.pv (.lit (.int .i64 ((rFirst l).1.epoch))), sS (some (rFirst l).1.members.nil) eMember ((rFirst l).1.members.D)]) ?_
 refine rvc_un (rexec_buildSliceF C eChain [(rFirst l).1] rfl rfl rfl rfl rfl rfl rfl (by decide) rfl ?_)
 refine rvP C (.agg [.pv (.lit (.int .i64 ((rFirst l).1.epoch))), sS (some (rFirst l).1.members.nil) eMember ((rFirst l).1.members.D), sS (some false) eChain [(rFirst l).1], .pv (.lit (.int .i64 0))]) ?_
 refine rvc_un (rexec_prim C (δ := { v := .ptr 18 0, new := [(18, .cells [.pv (.lit (.int .i64 ((rFirst l).1.epoch))), sS (some (rFirst l).1.members.nil) eMember ((rFirst l).1.members.D), sS (some false) eChain [(rFirst l).1], .pv (.lit (.int .i64 0))])] }) rfl rfl rfl rfl trivial rfl ?_)
 refine rvP C (.ptr 18 0) ?_
 refine rvP C (.pv (.lit (.int .i64 0))) ?_
 refine rvc_nil ?_
 refine Awp.weakenR (S := [(2, .ptr 0 0), (3, .pv (.lit (.int .i64 0)))]) (H := [(0, .cells [.pv (.lit (.int .i64 ((rFirst l).1.epoch))), sS (some (rFirst l).1.members.nil) eMember ((rFirst l).1.members.D), sS (some false) eChain [(rFirst l).1], .pv (.lit (.int .i64 0))])]) (U := [0]) (fun x => bif x == 0 then 18 else x) (WeakerR.ofL (Ks := [0]) hI ⟨⟨rfl, rfl⟩, ⟨rfl, rfl⟩, trivial⟩ (okH_cons rfl rfl rfl rfl okH_nil) rfl) ?_
 refine Awp.ret ?_
 subst hR
 exact ⟨.inl rfl, rfl, rfl⟩
def rNewNil (l : (Sl Member)) : Unit × Int :=
  ((), (rFirst l).2)
theorem rNewNil_calls (l : (Sl Member)) (h0 : (((rFirst l).2) != 0) = true) (hl1 : l.D.length ≤ 1000000) : PCalls Try.prog 29 [sS (some l.nil) eMember l.D] (.tup [.pv (.lit (.pointer none)), .pv (.lit (.int .i64 ((rNewNil l).2)))]) := by
 generalize hR : rNewNil l = R
 refine PCalls.of_body tabOk Try.func29 rfl rfl rfl rfl rfl mixed fun E hP C hI => ?_
 refine Awp.consP C ?_
 refine rvP C (.pv (.lit (.pointer none))) ?_
 refine rvP C (.pv (.lit (.int .i64 0))) ?_
 refine rvc_nil ?_
 refine Awp.consP C ?_
 refine rvP C (sS (some l.nil) eMember l.D) ?_
 refine rvc_un (rexec_call hP C rfl rfl rfl (rFirst_calls l hl1) ?_)
 refine rvP C (.tup [.agg [.pv (.lit (.int .i64 ((rFirst l).1.epoch))), sS (some (rFirst l).1.members.nil) eMember ((rFirst l).1.members.D)], .pv (.lit (.int .i64 ((rFirst l).2)))]) ?_
 refine rvP C (.agg [.pv (.lit (.int .i64 ((rFirst l).1.epoch))), sS (some (rFirst l).1.members.nil) eMember ((rFirst l).1.members.D)]) ?_
 refine rvP C (.pv (.lit (.int .i64 ((rFirst l).2)))) ?_
 refine rvc_un (rexec_prim C (δ := { v := .ptr 4 0, new := [(4, .cells [.pv (.lit (.int .i64 0)), sS (some true) eMember []])] }) rfl rfl rfl rfl trivial rfl ?_)
 refine rvc_un (rexec_prim C (δ := { v := .undef, wr := [(4, some (.cells [.pv (.lit (.int .i64 ((rFirst l).1.epoch))), sS (some (rFirst l).1.members.nil) eMember ((rFirst l).1.members.D)]))] }) rfl rfl rfl rfl trivial rfl ?_)
 refine rvP C (.pv (.lit (.int .i64 ((rFirst l).2)))) ?_
 refine rvc_nil ?_
 refine Awp.seq ?_
 refine Awp.consP C ?_
 refine rvP C (.pv (.lit (.int .i64 ((rFirst l).2)))) ?_
 refine rvP C (.pv (.lit (.bool (((rFirst l).2) != 0)))) ?_
 refine rvc_nil ?_
 refine Awp.condT (b := (((rFirst l).2) != 0)) rfl h0 ?_
 refine Awp.consP C ?_
 refine rvP C (.pv (.lit (.int .i64 ((rFirst l).2)))) ?_
 refine rvP C (.pv (.lit (.pointer none))) ?_
 refine rvP C (.pv (.lit (.int .i64 ((rFirst l).2)))) ?_
 refine rvc_nil ?_
 refine Awp.ret ?_
 subst hR
 exact ⟨.inl rfl, rfl⟩
end Go.Proofs.Ytpgenmflgdkfiaa
/- Ledgers behind calls: how long chains and commands' bytes are. No conditions. -/
namespace Go.Proofs.Ytpgenmflgdkfiaa
open Go.Am
theorem rPut_l1_len {B : Nat} (kk : List Int → Int → Sl Int) : ∀ (k i : Nat) (out : List Int) (n : Int), (∀ out' n', out'.length ≤ out.length + k → (kk out' n').D.length ≤ B) → (rPut_l1 kk k i out n).D.length ≤ B
  | 0, _, out, n, h => h out n (Nat.le_refl _)
  | k + 1, i, out, n, h => by
    unfold rPut_l1
    cases decide (n < 128)
    · exact rPut_l1_len kk k (i + 1) _ _ fun o m ho => h o m (by rw [List.length_append, List.length_singleton] at ho; omega)
    · exact h out n (by omega)
theorem rPut_l0_len : ∀ (l : List Int) (i : Nat) (out : List Int), (rPut_l0 l i out).D.length ≤ out.length + 11 * l.length
  | [], _, out => Nat.le_refl _
  | x :: l, i, out => by
    unfold rPut_l0
    refine rPut_l1_len _ 10 0 out x fun o n ho => ?_
    have := rPut_l0_len l (i + 1) (o ++ [IntKind.u8.wrap n])
    rw [List.length_append, List.length_singleton] at this
    simp only [List.length_cons]
    omega
theorem rCmdPut_len (c : Command) : (rCmdPut c).1.D.length ≤ 44 := by
  unfold rCmdPut
  cases (rCmdCheck c) != 0
  · exact rPut_l0_len _ 0 []
  · exact Nat.zero_le _
theorem data_len (k : Do) (e : Int) (h : k.b.D.length ≤ 100000) : (doData k e).D.length ≤ 1000000 := by
  unfold doData
  have h1 := rCmdPut_len k.c
  have h2 := rCmdPut_len (Command.mk k.c.kind k.c.node k.c.site (IntKind.i64.wrap (e + k.off)))
  cases k.raw
  · cases decide (k.off > (-4))
    · simp only [cond_false]; omega
    · cases decide (k.off < 4)
      · simp only [cond_false, cond_true]; omega
      · simp only [cond_false, cond_true]; omega
  · simp only [cond_true]; omega
theorem newL_e (m : Sl Member) : (((newL m).2) != 0) = false := rfl
theorem rNewL_e (m : Sl Member) : (((rNewL m).2) != 0) = false := rfl
theorem newL_ok (m : Sl Member) (h : m.D.length ≤ 1000000) : okL (newL m).1 ∧ (newL m).1.past.all.D.length ≤ 1 + 0 := by
  have h1 := firstC_len m
  refine ⟨⟨firstC_hn m, Nat.le_trans h1 h, fun x hx => ?_⟩, Nat.le_refl _⟩
  have : x = (firstC m).1 := by simpa [newL] using hx
  rw [this]; exact Nat.le_trans h1 h
theorem copied_len (c : Chain) : (copied c).members.D.length ≤ c.members.D.length := clone_len c.members
theorem apply_okL {g : Ledger} (h : okL g) (i : Int) (d : Sl Int) : okL (lApply g i d).1 := by
  obtain ⟨h1, h2, h3⟩ := h
  have hf := few_next g.chain (cmdGet d).1
  unfold lApply
  cases lDead g
  · cases decide (i > 1099511627776)
    · cases decide (i < 1)
      · cases (IntKind.i64.wrap (i - 1)) != g.at_
        · cases (d.D.length : Int) == 0
          · cases (cmdGet d).2 != 0
            · cases (nextL g.chain (cmdGet d).1).2 != 0
              · cases decide ((nextL g.chain (cmdGet d).1).1.epoch > g.chain.epoch)
                · exact ⟨hf.1, Nat.le_trans hf.2 (by decide), h3⟩
                · refine ⟨hf.1, Nat.le_trans hf.2 (by decide), fun x hx => ?_⟩
                  rcases List.mem_append.1 hx with hx | hx
                  · exact h3 x hx
                  · rw [List.mem_singleton.1 hx]
                    exact Nat.le_trans (copied_len _) (Nat.le_trans hf.2 (by decide))
              · exact ⟨h1, h2, h3⟩
            · exact ⟨h1, h2, h3⟩
          · exact ⟨h1, h2, h3⟩
        · exact ⟨h1, h2, h3⟩
      · exact ⟨h1, h2, h3⟩
    · exact ⟨h1, h2, h3⟩
  · exact ⟨h1, h2, h3⟩
theorem apply_all (g : Ledger) (i : Int) (d : Sl Int) : (lApply g i d).1.past.all.D.length ≤ g.past.all.D.length + 1 := by
  unfold lApply
  cases lDead g
  · cases decide (i > 1099511627776)
    · cases decide (i < 1)
      · cases (IntKind.i64.wrap (i - 1)) != g.at_
        · cases (d.D.length : Int) == 0
          · cases (cmdGet d).2 != 0
            · cases (nextL g.chain (cmdGet d).1).2 != 0
              · cases decide ((nextL g.chain (cmdGet d).1).1.epoch > g.chain.epoch)
                · exact Nat.le_succ _
                · show (_ ++ [_]).length ≤ _
                  rw [List.length_append, List.length_singleton]; exact Nat.le_refl _
              · exact Nat.le_succ _
            · exact Nat.le_succ _
          · exact Nat.le_succ _
        · exact Nat.le_succ _
      · exact Nat.le_succ _
    · exact Nat.le_succ _
  · exact Nat.le_succ _
end Go.Proofs.Ytpgenmflgdkfiaa
/- A ledger behind calls. No conditions. -/
namespace Go.Proofs.Ytpgenmflgdkfiaa
open Go.Am
def made_l0 : List Do → Nat → Ledger → Ledger
  | [], _, vc => vc
  | x :: xs, i, vc => made_l0 xs (i + 1) ((lApply vc (doIndex x (lAt vc)) (doData x ((lChain vc).epoch))).1)
def made (m : (Sl Member)) (l : (Sl Do)) : Ledger :=
  made_l0 l.D 0 ((newL m).1)
end Go.Proofs.Ytpgenmflgdkfiaa
/- Ledgers behind calls: they may be asked. No conditions. -/
namespace Go.Proofs.Ytpgenmflgdkfiaa
open Go.Am
theorem lChain_len {l : Ledger} (h : okL l) : (lChain l).members.D.length ≤ 1000000 := by
  unfold lChain
  cases lDead l
  · exact Nat.le_trans (copied_len _) h.2.1
  · exact Nat.zero_le _
end Go.Proofs.Ytpgenmflgdkfiaa
/- The example; a law. No conditions. -/
namespace Go.Proofs.Ytpgenmflgdkfiaa
open Go.Am
def awake  : Bool :=
  (bif (((cmdPut (Command.mk 1 0 0 1)).2) != 0) then false else (bif (((lApply ((newL (Sl.mk false [(Member.mk 0 0 false), (Member.mk 1 0 false)])).1) 1 ((cmdPut (Command.mk 1 0 0 1)).1)).2) != 0) then false else (bif (same (lChain ((lApply ((newL (Sl.mk false [(Member.mk 0 0 false), (Member.mk 1 0 false)])).1) 1 ((cmdPut (Command.mk 1 0 0 1)).1)).1)) (Chain.mk 2 (Sl.mk false [(Member.mk 1 0 false)]))) then (bif (((lApply ((lApply ((newL (Sl.mk false [(Member.mk 0 0 false), (Member.mk 1 0 false)])).1) 1 ((cmdPut (Command.mk 1 0 0 1)).1)).1) 2 ((cmdPut (Command.mk 1 0 0 1)).1)).2) == 150) then (bif ((lAt ((lApply ((lApply ((newL (Sl.mk false [(Member.mk 0 0 false), (Member.mk 1 0 false)])).1) 1 ((cmdPut (Command.mk 1 0 0 1)).1)).1) 2 ((cmdPut (Command.mk 1 0 0 1)).1)).1)) == 2) then (((lApply ((lApply ((lApply ((newL (Sl.mk false [(Member.mk 0 0 false), (Member.mk 1 0 false)])).1) 1 ((cmdPut (Command.mk 1 0 0 1)).1)).1) 2 ((cmdPut (Command.mk 1 0 0 1)).1)).1) 2 (Sl.mk true [])).2) == 90) else false) else false) else false)))
theorem awake_calls   : PCalls Try.prog 11 [] (.pv (.lit (.bool (awake )))) := by
 generalize hR : awake  = R
 refine PCalls.of_body tabOk Try.func11 rfl rfl rfl rfl rfl mixed fun E hP C hI => ?_
 refine Awp.consP C ?_
 refine rvP C (.pv (.lit (.bool false))) ?_
 refine rvc_nil ?_
 refine Awp.cons C (fun _ => .quiet) (by kernel_rfl) ?_
 refine rvP C (.agg [.pv (.lit (.int .i64 0)), .pv (.lit (.int .i64 0)), .pv (.lit (.bool false))]) ?_
 refine rvP C (.agg [.pv (.lit (.int .i64 1)), .pv (.lit (.int .i64 0)), .pv (.lit (.bool false))]) ?_
 refine rvc_un (rexec_buildSliceF C eMember [(Member.mk 0 0 false), (Member.mk 1 0 false)] rfl rfl rfl rfl rfl rfl rfl (by decide) rfl ?_)
 refine rvc_un (rexec_callO hP C rfl rfl rfl rfl (newL_calls (Sl.mk false [(Member.mk 0 0 false), (Member.mk 1 0 false)]) (by kernel_rfl) (by simp)) ?_)
 refine rvP C (.tup [.ptr 9 0, .pv (.lit (.int .i64 ((newL (Sl.mk false [(Member.mk 0 0 false), (Member.mk 1 0 false)])).2)))]) ?_
 refine rvP C (.ptr 9 0) ?_
 refine rvP C (.pv (.lit (.int .i64 ((newL (Sl.mk false [(Member.mk 0 0 false), (Member.mk 1 0 false)])).2)))) ?_
 refine rvP C (.ptr 9 0) ?_
 refine rvP C (.pv (.lit (.int .i64 ((newL (Sl.mk false [(Member.mk 0 0 false), (Member.mk 1 0 false)])).2)))) ?_
 refine rvc_nil ?_
 refine Awp.consP C ?_
 refine rvP C (.agg [.pv (.lit (.int .i64 1)), .pv (.lit (.int .i64 0)), .pv (.lit (.int .i64 0)), .pv (.lit (.int .i64 1))]) ?_
 refine rvc_un (rexec_call hP C rfl rfl rfl (cmdPut_calls (Command.mk 1 0 0 1)) ?_)
 refine rvP C (.tup [sS (some (cmdPut (Command.mk 1 0 0 1)).1.nil) (eI .u8) ((cmdPut (Command.mk 1 0 0 1)).1.D), .pv (.lit (.int .i64 ((cmdPut (Command.mk 1 0 0 1)).2)))]) ?_
 refine rvP C (sS (some (cmdPut (Command.mk 1 0 0 1)).1.nil) (eI .u8) ((cmdPut (Command.mk 1 0 0 1)).1.D)) ?_
 refine rvP C (.pv (.lit (.int .i64 ((cmdPut (Command.mk 1 0 0 1)).2)))) ?_
 refine rvP C (sS (some (cmdPut (Command.mk 1 0 0 1)).1.nil) (eI .u8) ((cmdPut (Command.mk 1 0 0 1)).1.D)) ?_
 refine rvP C (.pv (.lit (.int .i64 ((cmdPut (Command.mk 1 0 0 1)).2)))) ?_
 refine rvc_nil ?_
 refine Awp.seq ?_
 refine Awp.cons C (fun _ => .writer) (by kernel_rfl) ?_
 refine rvP C (.pv (.lit (.int .i64 ((newL (Sl.mk false [(Member.mk 0 0 false), (Member.mk 1 0 false)])).2)))) ?_
 refine rvP C (.pv (.lit (.bool (((newL (Sl.mk false [(Member.mk 0 0 false), (Member.mk 1 0 false)])).2) != 0)))) ?_
 refine rvP C (.pv (.lit (.bool (((newL (Sl.mk false [(Member.mk 0 0 false), (Member.mk 1 0 false)])).2) != 0)))) ?_
 refine rvc_known 19 (((newL (Sl.mk false [(Member.mk 0 0 false), (Member.mk 1 0 false)])).2) != 0) false rfl (newL_e (Sl.mk false [(Member.mk 0 0 false), (Member.mk 1 0 false)])) ?_
 refine rvO C (.pv (.lit (.int .i64 ((cmdPut (Command.mk 1 0 0 1)).2)))) ?_
 refine rvO C (.pv (.lit (.bool (((cmdPut (Command.mk 1 0 0 1)).2) != 0)))) ?_
 refine rvP C (.pv (.lit (.bool (((cmdPut (Command.mk 1 0 0 1)).2) != 0)))) ?_
 refine rvP C (.pv (.lit (.bool (((cmdPut (Command.mk 1 0 0 1)).2) != 0)))) ?_
 refine rvc_case 23 (((cmdPut (Command.mk 1 0 0 1)).2) != 0) rfl (fun h1 => ?_) (fun h1 => ?_)
 ·
  replace hR := of_true h1 hR
  refine rvS ?_
  refine rvS ?_
  refine rvS ?_
  refine rvS ?_
  refine rvP C (.pv (.lit (.bool true))) ?_
  refine rvc_nil ?_
  refine Awp.condT (b := true) rfl rfl ?_
  refine Awp.consP C ?_
  refine rvP C (.pv (.lit (.bool false))) ?_
  refine rvc_nil ?_
  refine Awp.ret ?_
  subst hR
  exact ⟨.inl rfl, rfl⟩
 ·
  replace hR := of_false h1 hR
  refine rvO C (.ptr 9 0) ?_
  refine rvO C (sS (some (cmdPut (Command.mk 1 0 0 1)).1.nil) (eI .u8) ((cmdPut (Command.mk 1 0 0 1)).1.D)) ?_
  refine rvc_open rfl rfl rfl (rexec_callM hP C (b := 9) rfl rfl rfl (lApply_calls ((newL (Sl.mk false [(Member.mk 0 0 false), (Member.mk 1 0 false)])).1) 1 ((cmdPut (Command.mk 1 0 0 1)).1) (fun h => absurd (h.symm.trans (by kernel_rfl : _ = false)) Bool.noConfusion) (of_decide_eq_true (by kernel_rfl)) (of_decide_eq_true (by kernel_rfl)) (of_decide_eq_true (by kernel_rfl))) rfl rfl ?_)
  refine rvO C (.pv (.lit (.bool (((lApply ((newL (Sl.mk false [(Member.mk 0 0 false), (Member.mk 1 0 false)])).1) 1 ((cmdPut (Command.mk 1 0 0 1)).1)).2) != 0)))) ?_
  refine rvP C (.pv (.lit (.bool (((lApply ((newL (Sl.mk false [(Member.mk 0 0 false), (Member.mk 1 0 false)])).1) 1 ((cmdPut (Command.mk 1 0 0 1)).1)).2) != 0)))) ?_
  refine rvc_nil ?_
  refine Awp.cond (b := (((lApply ((newL (Sl.mk false [(Member.mk 0 0 false), (Member.mk 1 0 false)])).1) 1 ((cmdPut (Command.mk 1 0 0 1)).1)).2) != 0)) rfl (fun h2 => ?_) (fun h2 => ?_)
  ·
   replace hR := of_true h2 hR
   refine Awp.consP C ?_
   refine rvP C (.pv (.lit (.bool false))) ?_
   refine rvc_nil ?_
   refine Awp.ret ?_
   subst hR
   exact ⟨.inl rfl, rfl⟩
  ·
   replace hR := of_false h2 hR
   refine Awp.skip ?_
   refine Awp.cons C (fun _ => .writer) (by kernel_rfl) ?_
   refine rvP C (.ptr 9 0) ?_
   refine rvc_un (rexec_callM hP C (b := 9) rfl rfl rfl (lChain_calls ((lApply ((newL (Sl.mk false [(Member.mk 0 0 false), (Member.mk 1 0 false)])).1) 1 ((cmdPut (Command.mk 1 0 0 1)).1)).1) (of_decide_eq_true (by kernel_rfl))) rfl rfl ?_)
   refine rvP C (.agg [.pv (.lit (.int .i64 1)), .pv (.lit (.int .i64 0)), .pv (.lit (.bool false))]) ?_
   refine rvc_un (rexec_buildSliceF C eMember [(Member.mk 1 0 false)] rfl rfl rfl rfl rfl rfl rfl (by decide) rfl ?_)
   refine rvP C (.agg [.pv (.lit (.int .i64 2)), sS (some false) eMember [(Member.mk 1 0 false)]]) ?_
   refine rvc_un (rexec_call hP C rfl rfl rfl (same_calls (lChain ((lApply ((newL (Sl.mk false [(Member.mk 0 0 false), (Member.mk 1 0 false)])).1) 1 ((cmdPut (Command.mk 1 0 0 1)).1)).1)) (Chain.mk 2 (Sl.mk false [(Member.mk 1 0 false)])) (of_decide_eq_true (by kernel_rfl))) ?_)
   refine rvP C (.pv (.lit (.bool (same (lChain ((lApply ((newL (Sl.mk false [(Member.mk 0 0 false), (Member.mk 1 0 false)])).1) 1 ((cmdPut (Command.mk 1 0 0 1)).1)).1)) (Chain.mk 2 (Sl.mk false [(Member.mk 1 0 false)])))))) ?_
   refine rvc_case 35 (same (lChain ((lApply ((newL (Sl.mk false [(Member.mk 0 0 false), (Member.mk 1 0 false)])).1) 1 ((cmdPut (Command.mk 1 0 0 1)).1)).1)) (Chain.mk 2 (Sl.mk false [(Member.mk 1 0 false)]))) rfl (fun h3 => ?_) (fun h3 => ?_)
   ·
    replace hR := of_true h3 hR
    refine rvO C (.ptr 9 0) ?_
    refine rvO C (sS (some (cmdPut (Command.mk 1 0 0 1)).1.nil) (eI .u8) ((cmdPut (Command.mk 1 0 0 1)).1.D)) ?_
    refine rvc_open rfl rfl rfl (rexec_callM hP C (b := 9) rfl rfl rfl (lApply_calls ((lApply ((newL (Sl.mk false [(Member.mk 0 0 false), (Member.mk 1 0 false)])).1) 1 ((cmdPut (Command.mk 1 0 0 1)).1)).1) 2 ((cmdPut (Command.mk 1 0 0 1)).1) (fun h => absurd (h.symm.trans (by kernel_rfl : _ = false)) Bool.noConfusion) (of_decide_eq_true (by kernel_rfl)) (of_decide_eq_true (by kernel_rfl)) (of_decide_eq_true (by kernel_rfl))) rfl rfl ?_)
    refine rvO C (.pv (.lit (.bool (((lApply ((lApply ((newL (Sl.mk false [(Member.mk 0 0 false), (Member.mk 1 0 false)])).1) 1 ((cmdPut (Command.mk 1 0 0 1)).1)).1) 2 ((cmdPut (Command.mk 1 0 0 1)).1)).2) == 150)))) ?_
    refine rvP C (.pv (.lit (.bool (((lApply ((lApply ((newL (Sl.mk false [(Member.mk 0 0 false), (Member.mk 1 0 false)])).1) 1 ((cmdPut (Command.mk 1 0 0 1)).1)).1) 2 ((cmdPut (Command.mk 1 0 0 1)).1)).2) == 150)))) ?_
    refine rvP C (.pv (.lit (.bool (((lApply ((lApply ((newL (Sl.mk false [(Member.mk 0 0 false), (Member.mk 1 0 false)])).1) 1 ((cmdPut (Command.mk 1 0 0 1)).1)).1) 2 ((cmdPut (Command.mk 1 0 0 1)).1)).2) == 150)))) ?_
    refine rvc_case 41 (((lApply ((lApply ((newL (Sl.mk false [(Member.mk 0 0 false), (Member.mk 1 0 false)])).1) 1 ((cmdPut (Command.mk 1 0 0 1)).1)).1) 2 ((cmdPut (Command.mk 1 0 0 1)).1)).2) == 150) rfl (fun h4 => ?_) (fun h4 => ?_)
    ·
     replace hR := of_true h4 hR
     refine rvO C (.ptr 9 0) ?_
     refine rvc_open rfl rfl rfl (rexec_callM hP C (b := 9) rfl rfl rfl (lAt_calls ((lApply ((lApply ((newL (Sl.mk false [(Member.mk 0 0 false), (Member.mk 1 0 false)])).1) 1 ((cmdPut (Command.mk 1 0 0 1)).1)).1) 2 ((cmdPut (Command.mk 1 0 0 1)).1)).1)) rfl rfl ?_)
     refine rvO C (.pv (.lit (.bool ((lAt ((lApply ((lApply ((newL (Sl.mk false [(Member.mk 0 0 false), (Member.mk 1 0 false)])).1) 1 ((cmdPut (Command.mk 1 0 0 1)).1)).1) 2 ((cmdPut (Command.mk 1 0 0 1)).1)).1)) == 2)))) ?_
     refine rvP C (.pv (.lit (.bool ((lAt ((lApply ((lApply ((newL (Sl.mk false [(Member.mk 0 0 false), (Member.mk 1 0 false)])).1) 1 ((cmdPut (Command.mk 1 0 0 1)).1)).1) 2 ((cmdPut (Command.mk 1 0 0 1)).1)).1)) == 2)))) ?_
     refine rvP C (.pv (.lit (.bool ((lAt ((lApply ((lApply ((newL (Sl.mk false [(Member.mk 0 0 false), (Member.mk 1 0 false)])).1) 1 ((cmdPut (Command.mk 1 0 0 1)).1)).1) 2 ((cmdPut (Command.mk 1 0 0 1)).1)).1)) == 2)))) ?_
     refine rvc_case 46 ((lAt ((lApply ((lApply ((newL (Sl.mk false [(Member.mk 0 0 false), (Member.mk 1 0 false)])).1) 1 ((cmdPut (Command.mk 1 0 0 1)).1)).1) 2 ((cmdPut (Command.mk 1 0 0 1)).1)).1)) == 2) rfl (fun h5 => ?_) (fun h5 => ?_)
     ·
      replace hR := of_true h5 hR
      refine rvO C (.ptr 9 0) ?_
      refine rvc_open rfl rfl rfl (rexec_callM hP C (b := 9) rfl rfl rfl (lApply_calls ((lApply ((lApply ((newL (Sl.mk false [(Member.mk 0 0 false), (Member.mk 1 0 false)])).1) 1 ((cmdPut (Command.mk 1 0 0 1)).1)).1) 2 ((cmdPut (Command.mk 1 0 0 1)).1)).1) 2 (Sl.mk true []) (fun h => absurd (h.symm.trans (by kernel_rfl : _ = false)) Bool.noConfusion) (of_decide_eq_true (by kernel_rfl)) (of_decide_eq_true (by kernel_rfl)) (of_decide_eq_true (by kernel_rfl))) rfl rfl ?_)
      refine rvO C (.pv (.lit (.bool (((lApply ((lApply ((lApply ((newL (Sl.mk false [(Member.mk 0 0 false), (Member.mk 1 0 false)])).1) 1 ((cmdPut (Command.mk 1 0 0 1)).1)).1) 2 ((cmdPut (Command.mk 1 0 0 1)).1)).1) 2 (Sl.mk true [])).2) == 90)))) ?_
      refine rvP C (.pv (.lit (.bool (((lApply ((lApply ((lApply ((newL (Sl.mk false [(Member.mk 0 0 false), (Member.mk 1 0 false)])).1) 1 ((cmdPut (Command.mk 1 0 0 1)).1)).1) 2 ((cmdPut (Command.mk 1 0 0 1)).1)).1) 2 (Sl.mk true [])).2) == 90)))) ?_
      refine rvP C (.pv (.lit (.bool (((lApply ((lApply ((lApply ((newL (Sl.mk false [(Member.mk 0 0 false), (Member.mk 1 0 false)])).1) 1 ((cmdPut (Command.mk 1 0 0 1)).1)).1) 2 ((cmdPut (Command.mk 1 0 0 1)).1)).1) 2 (Sl.mk true [])).2) == 90)))) ?_
      refine rvc_nil ?_
      refine Awp.ret ?_
      subst hR
      exact ⟨.inl rfl, rfl⟩
     ·
      replace hR := of_false h5 hR
      refine rvS ?_
      refine rvS ?_
      refine rvS ?_
      refine rvP C (.pv (.lit (.bool false))) ?_
      refine rvP C (.pv (.lit (.bool false))) ?_
      refine rvc_nil ?_
      refine Awp.ret ?_
      subst hR
      exact ⟨.inl rfl, rfl⟩
    ·
     replace hR := of_false h4 hR
     refine rvS ?_
     refine rvS ?_
     refine rvS ?_
     refine rvP C (.pv (.lit (.bool false))) ?_
     refine rvP C (.pv (.lit (.bool false))) ?_
     refine rvS ?_
     refine rvS ?_
     refine rvS ?_
     refine rvP C (.pv (.lit (.bool false))) ?_
     refine rvP C (.pv (.lit (.bool false))) ?_
     refine rvc_nil ?_
     refine Awp.ret ?_
     subst hR
     exact ⟨.inl rfl, rfl⟩
   ·
    replace hR := of_false h3 hR
    refine rvS ?_
    refine rvS ?_
    refine rvS ?_
    refine rvS ?_
    refine rvP C (.pv (.lit (.bool false))) ?_
    refine rvP C (.pv (.lit (.bool false))) ?_
    refine rvS ?_
    refine rvS ?_
    refine rvS ?_
    refine rvP C (.pv (.lit (.bool false))) ?_
    refine rvP C (.pv (.lit (.bool false))) ?_
    refine rvS ?_
    refine rvS ?_
    refine rvS ?_
    refine rvP C (.pv (.lit (.bool false))) ?_
    refine rvP C (.pv (.lit (.bool false))) ?_
    refine rvc_nil ?_
    refine Awp.ret ?_
    subst hR
    exact ⟨.inl rfl, rfl⟩
end Go.Proofs.Ytpgenmflgdkfiaa
/- Calls that may be gone through are few. No conditions. -/
namespace Go.Proofs.Ytpgenmflgdkfiaa
open Go.Am
theorem short_l1_ok (x : Sl Do) (kk : Int → Int → Int → Bool) (hk : ∀ n a i, 0 ≤ a → a ≤ 151 → 0 ≤ n → n ≤ 8193 → kk n a i = true → a ≤ 150 ∧ n ≤ 4096) : ∀ (f : Nat) (n a i : Int), f = x.D.length - i.toNat + 1 → 0 ≤ i → i ≤ (x.D.length : Int) → i ≤ a → a ≤ 151 → 0 ≤ n → n ≤ 8193 → short_l1 x kk f n a i = true →
    (a ≤ 150 ∧ n ≤ 4096) ∧ (x.D.length : Int) - i + a ≤ 150 ∧ ∀ j, i.toNat ≤ j → ∀ y, x.D[j]? = some y → y.b.D.length ≤ 4096
  | 0, _, _, _, hf, _, _, _, _, _, _, _ => by omega
  | f + 1, n, a, i, hf, h0, h1, h2, h3, h4, h5, h => by
    unfold short_l1 at h
    cases e1 : decide (i < (x.D.length : Int))
    · rw [e1] at h
      have h6 := of_decide_eq_false e1
      have h7 := hk n a i (by omega) h3 h4 h5 h
      refine ⟨h7, by omega, fun j hj y hy => ?_⟩
      rw [List.getElem?_eq_none (by omega)] at hy; cases hy
    · have h6 := of_decide_eq_true e1
      rw [e1] at h
      simp only [cond_true] at h
      cases e2 : decide (a ≤ 150)
      · rw [e2] at h
        have := of_decide_eq_false e2
        have := (hk n a i (by omega) h3 h4 h5 h).1
        omega
      · have h7 := of_decide_eq_true e2
        rw [e2] at h
        simp only [cond_true] at h
        cases e3 : decide (n ≤ 4096)
        · rw [e3] at h
          have := of_decide_eq_false e3
          have := (hk n a i (by omega) h3 h4 h5 h).2
          omega
        · have h8 := of_decide_eq_true e3
          rw [e3] at h
          simp only [cond_true] at h
          have hm := min97 ((x.D[i.toNat]!.b.D).length : Int) (Int.natCast_nonneg _)
          have hw1 := wrapI (n + (bif (decide ((4097 : Int) < ((x.D[i.toNat]!.b.D).length : Int))) then (4097 : Int) else ((x.D[i.toNat]!.b.D).length : Int)))
          have hw2 := wrapI (a + 1)
          have hw3 := wrapI (i + 1)
          have ih := short_l1_ok x kk hk f _ _ _ (by omega) (by omega) (by omega) (by omega) (by omega) (by omega) (by omega) h
          obtain ⟨⟨i1, i2⟩, i3, i4⟩ := ih
          refine ⟨⟨h7, h8⟩, by omega, fun j hj y hy => ?_⟩
          rcases Nat.lt_or_ge i.toNat j with hlt | hge
          · exact i4 j (by omega) y hy
          · have hji : j = i.toNat := by omega
            subst hji
            have hy2 : x.D[i.toNat]! = y := by
              rw [getElem!_def, hy]
            rw [hy2] at hw1 hm i2
            cases e4 : decide ((4097 : Int) < (y.b.D.length : Int))
            · have := of_decide_eq_false e4
              rw [e4] at hw1 i2
              simp only [cond_false] at hw1 i2
              omega
            · rw [e4] at hw1 i2
              simp only [cond_true] at hw1 i2
              omega
theorem short_l0_ok : ∀ (l : List (Sl Do)) (i : Nat) (n a : Int), 0 ≤ a → a ≤ 151 → 0 ≤ n → n ≤ 8193 → short_l0 l i n a = true → (a ≤ 150 ∧ n ≤ 4096) ∧ ∀ x ∈ l, x.D.length ≤ 150 ∧ ∀ y ∈ x.D, y.b.D.length ≤ 4096
  | [], _, n, a, _, _, _, _, h => by
    unfold short_l0 at h
    cases e1 : decide (a ≤ 150)
    · rw [e1] at h; cases h
    · rw [e1] at h
      exact ⟨⟨of_decide_eq_true e1, of_decide_eq_true h⟩, fun x hx => by cases hx⟩
  | x :: l, i, n, a, h0, h1, h2, h3, h => by
    unfold short_l0 at h
    -- what follows holds of what the rounds leave
    by_cases hx : (a ≤ 150 ∧ n ≤ 4096) ∧ (x.D.length : Int) - 0 + a ≤ 150 ∧ ∀ j, (0 : Int).toNat ≤ j → ∀ y, x.D[j]? = some y → y.b.D.length ≤ 4096
    · obtain ⟨p1, p2, p3⟩ := hx
      have hx1 : x.D.length ≤ 150 ∧ ∀ y ∈ x.D, y.b.D.length ≤ 4096 := ⟨by omega, fun y hy => by
        obtain ⟨j, hj⟩ := List.getElem?_of_mem hy
        exact p3 j (Nat.zero_le _) y hj⟩
      refine ⟨p1, fun z hz => ?_⟩
      cases hz with
      | head => exact hx1
      | tail _ hz =>
        -- the rest
        have key : ∀ (f : Nat) (n a i' : Int), 0 ≤ i' → i' ≤ a → a ≤ 151 → 0 ≤ n → n ≤ 8193 → f = x.D.length - i'.toNat + 1 → i' ≤ (x.D.length : Int) → short_l1 x (fun n1 acts1 _ => short_l0 l (i + 1) n1 acts1) f n a i' = true → ∃ n1 a1, 0 ≤ a1 ∧ a1 ≤ 151 ∧ 0 ≤ n1 ∧ n1 ≤ 8193 ∧ short_l0 l (i + 1) n1 a1 = true := by
          intro f
          induction f with
          | zero => intro n a i' _ _ _ _ _ hf; omega
          | succ f ih =>
            intro n a i' q0 q1 q2 q3 q4 q5 q6 q
            unfold short_l1 at q
            cases e1 : decide (i' < (x.D.length : Int))
            · rw [e1] at q; exact ⟨n, a, by omega, q2, q3, q4, q⟩
            · have h6 := of_decide_eq_true e1
              rw [e1] at q
              simp only [cond_true] at q
              cases e2 : decide (a ≤ 150)
              · rw [e2] at q; exact ⟨n, a, by omega, q2, q3, q4, q⟩
              · have h7 := of_decide_eq_true e2
                rw [e2] at q
                simp only [cond_true] at q
                cases e3 : decide (n ≤ 4096)
                · rw [e3] at q; exact ⟨n, a, by omega, q2, q3, q4, q⟩
                · have h8 := of_decide_eq_true e3
                  rw [e3] at q
                  simp only [cond_true] at q
                  have hm := min97 ((x.D[i'.toNat]!.b.D).length : Int) (Int.natCast_nonneg _)
                  have hw1 := wrapI (n + (bif (decide ((4097 : Int) < ((x.D[i'.toNat]!.b.D).length : Int))) then (4097 : Int) else ((x.D[i'.toNat]!.b.D).length : Int)))
                  have hw2 := wrapI (a + 1)
                  have hw3 := wrapI (i' + 1)
                  exact ih _ _ _ (by omega) (by omega) (by omega) (by omega) (by omega) (by omega) (by omega) q
        obtain ⟨n1, a1, k1, k2, k3, k4, k5⟩ := key _ n a 0 (Int.le_refl _) h0 h1 h2 h3 rfl (by omega) h
        exact (short_l0_ok l (i + 1) n1 a1 k1 k2 k3 k4 k5).2 z hz
    · exact absurd (short_l1_ok x _ (fun n1 a1 _ g0 g1 g2 g3 hh => (short_l0_ok l (i + 1) n1 a1 g0 g1 g2 g3 hh).1) _ n a 0 rfl (Int.le_refl _) (by omega) h0 h1 h2 h3 h) hx
theorem short_ok {ls : Sl (Sl Do)} (h : (!(short ls)) = false) (l : Sl Do) (hl : l ∈ ls.D) : l.D.length ≤ 150 ∧ ∀ y ∈ l.D, y.b.D.length ≤ 4096 :=
  (short_l0_ok ls.D 0 0 0 (Int.le_refl _) (by decide) (Int.le_refl _) (by decide) (by simpa [short] using h)).2 l hl
end Go.Proofs.Ytpgenmflgdkfiaa
/- Laws: once; refused. No conditions. -/
namespace Go.Proofs.Ytpgenmflgdkfiaa
open Go.Am
end Go.Proofs.Ytpgenmflgdkfiaa
/- Numbers as bytes, in plain words: put, and read. No conditions. -/
namespace Go.Proofs.Ytpgenmflgdkfiaa
open Go.Am
/-- A number's bytes. -/
def vb (n : Nat) : List Int := if n < 128 then [(n : Int)] else ((n % 128 + 128 : Nat) : Int) :: vb (n / 128)
theorem vb_lt {n : Nat} (h : n < 128) : vb n = [(n : Int)] := by rw [vb, if_pos h]
theorem vb_ge {n : Nat} (h : 128 ≤ n) : vb n = ((n % 128 + 128 : Nat) : Int) :: vb (n / 128) := by rw [vb, if_neg (by omega)]
theorem wrap8 (n : Int) : IntKind.u8.wrap n = n % 256 := by simp [IntKind.wrap, IntKind.bits, IntKind.signed]
theorem bv8 (a : Nat) (h : a < 256) : (BitVec.ofInt 8 (a : Int)).toNat = a := by
  rw [BitVec.toNat_ofInt]
  show (((a : Int) % 256)).toNat = a
  omega
theorem or8 {a b : Nat} (ha : a < 256) (hb : b < 256) : bitI .or .u8 (a : Int) (b : Int) = ((a ||| b : Nat) : Int) := by
  unfold bitI
  show IntKind.u8.wrap ((BitVec.ofInt 8 (a : Int) ||| BitVec.ofInt 8 (b : Int)).toNat : Int) = _
  rw [BitVec.toNat_or, bv8 a ha, bv8 b hb, wrap8]
  have : a ||| b < 2 ^ 8 := Nat.or_lt_two_pow ha hb
  omega
theorem and8 {a b : Nat} (ha : a < 256) (hb : b < 256) : bitI .and .u8 (a : Int) (b : Int) = ((a &&& b : Nat) : Int) := by
  unfold bitI
  show IntKind.u8.wrap ((BitVec.ofInt 8 (a : Int) &&& BitVec.ofInt 8 (b : Int)).toNat : Int) = _
  rw [BitVec.toNat_and, bv8 a ha, bv8 b hb, wrap8]
  have : a &&& b ≤ a := Nat.and_le_left
  omega
theorem or128 : ∀ y : Fin 256, (y.val ||| 128) = y.val % 128 + 128 := by decide +kernel
theorem low_byte {n : Int} (h : 0 ≤ n) : bitI .or .u8 (IntKind.u8.wrap n) 128 = ((n.toNat % 128 + 128 : Nat) : Int) := by
  have e : IntKind.u8.wrap n = ((n.toNat % 256 : Nat) : Int) := by rw [wrap8]; omega
  rw [e, show (128 : Int) = ((128 : Nat) : Int) from rfl, or8 (by omega) (by decide), or128 ⟨n.toNat % 256, by omega⟩]
  show ((n.toNat % 256 % 128 + 128 : Nat) : Int) = _
  omega
theorem wPut_l1_eq : ∀ (f : Nat) (b1 : List Int) (n : Int), 0 ≤ n → n.toNat < f → wPut_l1 (fun b1 n => (Sl.mk false (b1 ++ [(IntKind.u8.wrap n)]))) f b1 n = Sl.mk false (b1 ++ vb n.toNat)
  | 0, _, _, _, h => by omega
  | f + 1, b1, n, h0, h => by
    unfold wPut_l1
    cases e1 : decide (n ≥ 128)
    · have := of_decide_eq_false e1
      rw [vb_lt (by omega)]
      show Sl.mk false (b1 ++ [IntKind.u8.wrap n]) = _
      rw [wrap8, show n % 256 = ((n.toNat : Nat) : Int) by omega]
    · have hn := of_decide_eq_true e1
      show wPut_l1 _ f (b1 ++ [bitI .or .u8 (IntKind.u8.wrap n) 128]) (shrI .u64 n 7) = _
      rw [wPut_l1_eq f _ _ (by rw [shr7]; omega) (by rw [shr7]; omega), low_byte h0, vb_ge (n := n.toNat) (by omega), shr7, show (n / 128).toNat = n.toNat / 128 by omega]
      simp
theorem wPut_eq (b : Sl Int) (x : Int) (h0 : 0 ≤ x) : wPut b x = Sl.mk false (b.D ++ vb x.toNat) := by
  unfold wPut
  cases e1 : decide (x ≥ 128)
  · have := of_decide_eq_false e1
    rw [vb_lt (by omega)]
    show Sl.mk false (b.D ++ [IntKind.u8.wrap x]) = _
    rw [wrap8, show x % 256 = ((x.toNat : Nat) : Int) by omega]
  · have hn := of_decide_eq_true e1
    show wPut_l1 _ _ (b.D ++ [bitI .or .u8 (IntKind.u8.wrap x) 128]) (shrI .u64 x 7) = _
    rw [wPut_l1_eq _ _ _ (by rw [shr7]; omega) (by omega), low_byte h0, vb_ge (n := x.toNat) (by omega), shr7, show (x / 128).toNat = x.toNat / 128 by omega]
    simp
theorem rPut_l1_eq (g : List Int → Sl Int) : ∀ (k i : Nat) (out : List Int) (n : Int), 0 ≤ n → n.toNat < 128 ^ (k + 1) → n < 18446744073709551616 → rPut_l1 (fun out1 n => g (out1 ++ [(IntKind.u8.wrap n)])) k i out n = g (out ++ vb n.toNat)
  | 0, i, out, n, h0, h, h2 => by
    rw [vb_lt (by simpa using h)]
    show g (out ++ [IntKind.u8.wrap n]) = _
    have : n.toNat < 128 := by simpa using h
    rw [wrap8, show n % 256 = ((n.toNat : Nat) : Int) by omega]
  | k + 1, i, out, n, h0, h, h2 => by
    unfold rPut_l1
    cases e1 : decide (n < 128)
    · have hn := of_decide_eq_false e1
      have e2 : IntKind.u64.wrap (n.tdiv 128) = n / 128 := by rw [wrapU, Int.tdiv_eq_ediv_of_nonneg h0]; omega
      have e3 : IntKind.u8.wrap (IntKind.u64.wrap (128 + (n.tmod 128))) = ((n.toNat % 128 + 128 : Nat) : Int) := by
        rw [wrapU, wrap8, Int.tmod_eq_emod_of_nonneg h0]; omega
      show rPut_l1 _ k (i + 1) (out ++ [IntKind.u8.wrap (IntKind.u64.wrap (128 + (n.tmod 128)))]) (IntKind.u64.wrap (n.tdiv 128)) = _
      have h3 : n.toNat / 128 < 128 ^ (k + 1) := by
        rw [Nat.pow_succ] at h
        exact Nat.div_lt_of_lt_mul (by rw [Nat.mul_comm]; exact h)
      rw [e2, e3, rPut_l1_eq g k (i + 1) _ _ (by omega) (by rw [show (n / 128).toNat = n.toNat / 128 by omega]; exact h3) (by omega), vb_ge (n := n.toNat) (by omega), show (n / 128).toNat = n.toNat / 128 by omega]
      simp
    · have hn := of_decide_eq_true e1
      rw [vb_lt (by omega)]
      show g (out ++ [IntKind.u8.wrap n]) = _
      rw [wrap8, show n % 256 = ((n.toNat : Nat) : Int) by omega]
def vbs : List Int → List Int
  | [] => []
  | x :: l => vb x.toNat ++ vbs l
theorem rPut_l0_eq : ∀ (l : List Int) (i : Nat) (out : List Int), (∀ x ∈ l, 0 ≤ x ∧ x < 18446744073709551616) → rPut_l0 l i out = Sl.mk false (out ++ vbs l)
  | [], _, out, _ => by simp [rPut_l0, vbs]
  | x :: l, i, out, h => by
    unfold rPut_l0
    have hx := h x (List.mem_cons_self ..)
    have h11 : (128 : Nat) ^ (10 + 1) = 151115727451828646838272 := by decide
    rw [rPut_l1_eq (fun o => rPut_l0 l (i + 1) o) 10 0 out x hx.1 (by omega) hx.2]
    show rPut_l0 l (i + 1) (out ++ vb x.toNat) = _
    rw [rPut_l0_eq l (i + 1) _ fun y hy => h y (List.mem_cons_of_mem _ hy)]
    simp [vbs]
/-- The number that bytes begin with, and what follows. -/
def vd : Nat → List Int → Option (Nat × List Int)
  | _, [] => none
  | i, x :: l => if (i = 9 ∧ 1 < x.toNat % 128) ∨ 9 < i then none else if x = 0 ∧ 0 < i then none else if x < 128 then some (x.toNat, l) else
    match vd (i + 1) l with
    | some (n, r) => some (x.toNat % 128 + 128 * n, r)
    | none => none
/-- What is read is put so. -/
theorem vd_vb : ∀ (i : Nat) (l : List Int) (n : Nat) (r : List Int), (∀ x ∈ l, 0 ≤ x ∧ x < 256) → vd i l = some (n, r) → l = vb n ++ r ∧ (0 < i → 0 < n) ∧ n * 128 ^ i < 18446744073709551616
  | _, [], _, _, _, h => by simp [vd] at h
  | i, x :: l, n, r, hb, h => by
    have hx := hb x (List.mem_cons_self ..)
    have hl : ∀ y ∈ l, 0 ≤ y ∧ y < 256 := fun y hy => hb y (List.mem_cons_of_mem _ hy)
    rw [vd] at h
    split at h
    · cases h
    · rename_i h1
      have hi : i ≤ 9 := by omega
      have hp : 128 ^ i ≤ 9223372036854775808 := Nat.le_trans (Nat.pow_le_pow_right (by decide) hi) (by decide)
      split at h
      · cases h
      · rename_i h2
        split at h
        · rename_i h3
          simp only [Option.some.injEq, Prod.mk.injEq] at h
          obtain ⟨rfl, rfl⟩ := h
          refine ⟨?_, fun hi => by omega, ?_⟩
          · rw [vb_lt (by omega), show ((x.toNat : Nat) : Int) = x by omega]; rfl
          · rcases Nat.lt_or_ge i 9 with h9 | h9
            · have : 128 ^ i ≤ 72057594037927936 := Nat.le_trans (Nat.pow_le_pow_right (by decide) (show i ≤ 8 by omega)) (by decide)
              have h5 : x.toNat * 128 ^ i ≤ 127 * 72057594037927936 := Nat.mul_le_mul (by omega) this
              omega
            · have h5 : x.toNat * 128 ^ i ≤ 1 * 9223372036854775808 := Nat.mul_le_mul (by omega) hp
              omega
        · rename_i h3
          split at h
          · rename_i m r' hm
            simp only [Option.some.injEq, Prod.mk.injEq] at h
            obtain ⟨rfl, rfl⟩ := h
            obtain ⟨e1, e2, e3⟩ := vd_vb (i + 1) l m r' hl hm
            have hm0 := e2 (by omega)
            refine ⟨?_, fun _ => by omega, ?_⟩
            · rw [vb_ge (by omega), show (x.toNat % 128 + 128 * m) / 128 = m by omega, show (((x.toNat % 128 + 128 * m) % 128 + 128 : Nat) : Int) = x by omega, e1]; rfl
            · rw [Nat.pow_succ] at e3
              have h4 : (x.toNat % 128 + 128 * m) * 128 ^ i = x.toNat % 128 * 128 ^ i + m * (128 ^ i * 128) := by
                rw [Nat.add_mul, Nat.mul_comm (128 ^ i) 128, ← Nat.mul_assoc, Nat.mul_comm 128 m]
              have hlt : x.toNat % 128 * 128 ^ i < 128 ^ i * 128 := by
                rw [Nat.mul_comm (128 ^ i)]
                exact Nat.mul_lt_mul_of_pos_right (Nat.mod_lt _ (by decide)) (Nat.pow_pos (by decide))
              have hdiv : 128 ^ i * 128 ∣ 18446744073709551616 ∨ 9 ≤ i := by
                rcases Nat.lt_or_ge i 9 with h9 | h9
                · left
                  rw [← Nat.pow_succ]
                  have : (18446744073709551616 : Nat) = 2 ^ 64 := by decide
                  rw [this, show (128 : Nat) = 2 ^ 7 from rfl, ← Nat.pow_mul]
                  exact Nat.pow_dvd_pow 2 (by omega)
                · exact .inr h9
              rcases hdiv with ⟨q, hq⟩ | h9
              · rw [h4]
                have hmq : m < q := by
                  have h5 : m * (128 ^ i * 128) < (128 ^ i * 128) * q := by rw [← hq]; exact e3
                  rw [Nat.mul_comm m] at h5
                  exact Nat.lt_of_mul_lt_mul_left h5
                have h6 : (m + 1) * (128 ^ i * 128) ≤ q * (128 ^ i * 128) := Nat.mul_le_mul_right _ hmq
                rw [Nat.mul_comm q, ← hq, Nat.add_mul, Nat.one_mul] at h6
                omega
              · exfalso
                -- a tenth byte is the last one
                have hi9 : i = 9 := by omega
                subst hi9
                cases l with
                | nil => simp [vd] at hm
                | cons y l => rw [vd, if_pos (.inr (by decide))] at hm; cases hm
          · cases h
end Go.Proofs.Ytpgenmflgdkfiaa
/- What readers of bytes read, in plain words. No conditions. -/
namespace Go.Proofs.Ytpgenmflgdkfiaa
open Go.Am
theorem bif_num {α : Type} {a b c d e : Bool} {S5 S10 T : α} : (bif a then (bif b then S5 else (bif c then S5 else (bif d then (bif e then S10 else T) else T))) else (bif c then S5 else (bif d then (bif e then S10 else T) else T))) = (bif (a && b) || c then S5 else (bif d && e then S10 else T)) := by
  cases a <;> cases b <;> cases c <;> cases d <;> cases e <;> rfl
theorem bif_num2 {α : Type} {a b c d e : Bool} {S5 S10 T : α} : (bif c then S5 else (bif a then (bif b then S5 else (bif d then (bif e then S10 else T) else T)) else (bif d then (bif e then S10 else T) else T))) = (bif (a && b) || c then S5 else (bif d && e then S10 else T)) := by
  cases a <;> cases b <;> cases c <;> cases d <;> cases e <;> rfl
theorem and127 : ∀ y : Fin 256, (y.val &&& 127) = y.val % 128 := by decide +kernel
theorem low7 {x : Int} (h : 0 ≤ x ∧ x < 256) : IntKind.u64.wrap (bitI .and .u8 x 127) = ((x.toNat % 128 : Nat) : Int) := by
  have e : x = ((x.toNat : Nat) : Int) := by omega
  rw [e, show (127 : Int) = ((127 : Nat) : Int) from rfl, and8 (by omega) (by decide), and127 ⟨x.toNat, by omega⟩, wrapU]
  show ((x.toNat % 128 : Nat) : Int) % 18446744073709551616 = ((((x.toNat : Nat) : Int)).toNat % 128 : Nat)
  omega
theorem pow7 (i : Nat) : (2 : Nat) ^ (7 * i) = 128 ^ i := by rw [Nat.pow_mul]
theorem orshl {acc low i : Nat} (hi : i ≤ 9) (h1 : acc < 128 ^ i) (h2 : low * 128 ^ i < 18446744073709551616) : bitI .or .u64 (acc : Int) (shlI .u64 (low : Int) ((7 * i : Nat) : Int)) = ((acc + low * 128 ^ i : Nat) : Int) := by
  have hs : shlI .u64 (low : Int) ((7 * i : Nat) : Int) = ((low * 128 ^ i : Nat) : Int) := by
    show IntKind.u64.wrap ((low : Int) * 2 ^ (min (((7 * i : Nat) : Int).toNat) 64)) = _
    rw [Int.toNat_natCast, Nat.min_eq_left (by omega), wrapU, ← pow7]
    have : (low : Int) * 2 ^ (7 * i) = ((low * 2 ^ (7 * i) : Nat) : Int) := by simp
    rw [this]
    rw [← pow7] at h2
    omega
  have hp : 128 ^ i ≤ 9223372036854775808 := Nat.le_trans (Nat.pow_le_pow_right (by decide) hi) (by decide)
  rw [hs, or64 (by omega) h2]
  have := Nat.shiftLeft_add_eq_or_of_lt (b := acc) (i := 7 * i) (by rw [pow7]; exact h1) low
  rw [Nat.shiftLeft_eq, pow7] at this
  rw [Nat.or_comm, ← this, Nat.add_comm]
theorem getBang {D : List Int} {n : Nat} {x : Int} (h : D[n]? = some x) : D[n]! = x := by rw [getElem!_def, h]
theorem low_le {x i : Nat} (h : ¬ ((i = 9 ∧ 1 < x % 128) ∨ 9 < i)) : x % 128 * 128 ^ i < 18446744073709551616 := by
  rcases Nat.lt_or_ge i 9 with h9 | h9
  · have : 128 ^ i ≤ 72057594037927936 := Nat.le_trans (Nat.pow_le_pow_right (by decide) (show i ≤ 8 by omega)) (by decide)
    have h5 : x % 128 * 128 ^ i ≤ 127 * 72057594037927936 := Nat.mul_le_mul (by omega) this
    omega
  · have hi9 : i = 9 := by omega
    subst hi9
    have h6 : (128 : Nat) ^ 9 = 9223372036854775808 := by decide
    rw [h6]; omega
theorem acc_le {x i acc : Nat} (h1 : acc < 128 ^ i) : acc + x % 128 * 128 ^ i < 128 ^ (i + 1) := by
  rw [Nat.pow_succ, Nat.mul_comm (128 ^ i)]
  have h5 : x % 128 * 128 ^ i ≤ 127 * 128 ^ i := Nat.mul_le_mul_right _ (by omega)
  omega
theorem rdNum_l0_eq {D : List Int} (hD : ∀ x ∈ D, 0 ≤ x ∧ x < 256) (hl : D.length ≤ 1000000) (r : Reader) : ∀ (f i acc : Nat) (v : Reader), f = D.length - v.at_.toNat + 1 → v.b.D = D → 0 ≤ v.at_ → v.at_ ≤ (D.length : Int) → v.err = 0 → v.made = true → i ≤ 10 → acc < 128 ^ i →
    match vd i (D.drop v.at_.toNat) with
    | some (m, rest) => rdNum_l0 r f (acc : Int) ((7 * i : Nat) : Int) v = (Reader.mk v.b ((D.length : Int) - rest.length) 0 true, ((acc + m * 128 ^ i : Nat) : Int))
    | none => rdErr (rdNum_l0 r f (acc : Int) ((7 * i : Nat) : Int) v).1 ≠ 0
  | 0, _, _, _, hf, _, _, _, _, _, _, _ => by omega
  | f + 1, i, acc, v, hf, hb, h0, h1, he, hm, hi, hacc => by
    by_cases hat : v.at_ = (D.length : Int)
    · have e : (v.at_ == (v.b.D.length : Int)) = true := by rw [hb]; simpa using hat
      rw [List.drop_eq_nil_of_le (by omega), vd]
      unfold rdNum_l0
      rw [e]
      show rdErr (rdStop v r.at_ 2) ≠ 0
      unfold rdStop rdErr
      rw [he]
      show (bif !v.made then (6 : Int) else 2) ≠ 0
      rw [hm]; decide
    · have e : (v.at_ == (v.b.D.length : Int)) = false := by rw [hb]; simpa using hat
      obtain ⟨x, hx⟩ : ∃ x, D[v.at_.toNat]? = some x := ⟨_, List.getElem?_eq_getElem (by omega)⟩
      have hxb := hD x (List.mem_of_getElem? hx)
      have hw : IntKind.i64.wrap (v.at_ + 1) = v.at_ + 1 := by have := wrapI (v.at_ + 1); omega
      have hw2 : IntKind.i64.wrap (((7 * i : Nat) : Int) + 7) = ((7 * (i + 1) : Nat) : Int) := by have := wrapI (((7 * i : Nat) : Int) + 7); omega
      have hs : ∀ a q, q ≠ 0 → rdErr (rdStop (Reader.mk v.b (v.at_ + 1) v.err v.made) a q) ≠ 0 := fun a q hq => by
        unfold rdStop rdErr
        rw [he, hm]
        exact hq
      have hc : (((((7 * i : Nat) : Int) == 63) && decide (((x.toNat % 128 : Nat) : Int) > 1)) || decide (((7 * i : Nat) : Int) > 63)) = decide ((i = 9 ∧ 1 < x.toNat % 128) ∨ 9 < i) := by
        rw [Bool.eq_iff_iff]
        simp only [Bool.or_eq_true, Bool.and_eq_true, beq_iff_eq, decide_eq_true_eq]
        omega
      have hd : ((x == 0) && decide (((7 * i : Nat) : Int) > 0)) = decide (x = 0 ∧ 0 < i) := by
        rw [Bool.eq_iff_iff]
        simp only [Bool.and_eq_true, beq_iff_eq, decide_eq_true_eq]
        omega
      rw [drop_at hx, vd]
      unfold rdNum_l0
      rw [e, cond_false, hb, getBang hx, low7 hxb, hw, hw2, bif_num, hc, hd]
      by_cases c1 : (i = 9 ∧ 1 < x.toNat % 128) ∨ 9 < i
      · rw [if_pos c1, decide_eq_true c1]
        exact hs _ _ (by decide)
      · rw [if_neg c1, decide_eq_false c1, cond_false]
        by_cases c2 : x = 0 ∧ 0 < i
        · rw [if_pos c2, decide_eq_true c2]
          exact hs _ _ (by decide)
        · rw [if_neg c2, decide_eq_false c2, cond_false]
          have hor := orshl (acc := acc) (low := x.toNat % 128) (i := i) (by omega) hacc (low_le c1)
          rw [hor]
          by_cases c3 : x < 128
          · rw [if_pos c3, decide_eq_true c3, cond_true]
            have hx' : x.toNat % 128 = x.toNat := by omega
            show (Reader.mk v.b (v.at_ + 1) v.err v.made, _) = (Reader.mk v.b ((D.length : Int) - ((D.drop (v.at_.toNat + 1)).length : Int)) 0 true, _)
            rw [he, hm, hx', List.length_drop]
            have : v.at_ + 1 = (D.length : Int) - ((D.length - (v.at_.toNat + 1) : Nat) : Int) := by omega
            rw [this]
          · rw [if_neg c3, decide_eq_false c3, cond_false]
            have ih := rdNum_l0_eq hD hl r f (i + 1) (acc + x.toNat % 128 * 128 ^ i) (Reader.mk v.b (v.at_ + 1) v.err v.made) (by dsimp only; omega) hb (by dsimp only; omega) (by dsimp only; omega) he hm (by omega) (acc_le hacc)
            dsimp only at ih
            rw [show (v.at_ + 1).toNat = v.at_.toNat + 1 by omega] at ih
            cases hv : vd (i + 1) (D.drop (v.at_.toNat + 1)) with
            | none => rw [hv] at ih; exact ih
            | some q =>
              obtain ⟨m, rest⟩ := q
              rw [hv] at ih
              dsimp only at ih ⊢
              rw [ih]
              have : acc + x.toNat % 128 * 128 ^ i + m * 128 ^ (i + 1) = acc + (x.toNat % 128 + 128 * m) * 128 ^ i := by
                rw [Nat.pow_succ, Nat.add_mul, Nat.mul_comm (128 ^ i) 128, ← Nat.mul_assoc, Nat.mul_comm m 128]; omega
              rw [this]
/-- A reader of these bytes, with no error, ahead of those. -/
structure RdAt (r : Reader) (D l : List Int) : Prop where
  b : r.b.D = D
  made : r.made = true
  err : r.err = 0
  suf : l <:+ D
  at' : r.at_ = (D.length : Int) - l.length
theorem vd_suffix : ∀ (i : Nat) (l : List Int) (n : Nat) (r : List Int), vd i l = some (n, r) → r <:+ l
  | _, [], _, _, h => by simp [vd] at h
  | i, x :: l, n, r, h => by
    rw [vd] at h
    split at h
    · cases h
    · split at h
      · cases h
      · split at h
        · simp only [Option.some.injEq, Prod.mk.injEq] at h; rw [← h.2]; exact List.suffix_cons x l
        · split at h
          · rename_i m r' hm
            simp only [Option.some.injEq, Prod.mk.injEq] at h
            rw [← h.2]
            exact (vd_suffix (i + 1) l m r' hm).trans (List.suffix_cons x l)
          · cases h
theorem RdAt.drop {r : Reader} {D l : List Int} (h : RdAt r D l) : D.drop r.at_.toNat = l := by
  have h1 := List.suffix_iff_eq_drop.1 h.suf
  have h2 := h.suf.length_le
  have : r.at_.toNat = D.length - l.length := by have := h.at'; omega
  rw [this]; exact h1.symm
theorem RdAt.ok {r : Reader} {D l : List Int} (h : RdAt r D l) (hl : D.length ≤ 1000000) : okR r := by
  have h2 := h.suf.length_le
  have h3 := h.at'
  have h4 := h.b
  exact ⟨⟨by omega, by rw [h4]; omega⟩, by rw [h4]; exact hl⟩
theorem RdAt.err0 {r : Reader} {D l : List Int} (h : RdAt r D l) : rdErr r = 0 := by unfold rdErr; rw [h.made, h.err]; rfl
theorem rdNum_at {r : Reader} {D l : List Int} (h : RdAt r D l) (hD : ∀ x ∈ D, 0 ≤ x ∧ x < 256) (hl : D.length ≤ 1000000) :
    match vd 0 l with
    | some (m, rest) => RdAt (rdNum r).1 D rest ∧ (rdNum r).2 = (m : Int)
    | none => rdErr (rdNum r).1 ≠ 0 := by
  have hk := h.ok hl
  have hb := h.b
  have key := rdNum_l0_eq hD hl r (r.b.D.length - r.at_.toNat + 1) 0 0 r (by rw [hb]) hb hk.1.1 (by have := hk.1.2; rw [hb] at this; exact this) h.err h.made (by decide) (by decide)
  rw [h.drop] at key
  unfold rdNum
  rw [h.err0]
  simp only [bne_self_eq_false, cond_false]
  cases hv : vd 0 l with
  | none => rw [hv] at key; exact key
  | some q =>
    obtain ⟨m, rest⟩ := q
    rw [hv] at key
    dsimp only at key ⊢
    have key' : rdNum_l0 r (r.b.D.length - r.at_.toNat + 1) 0 0 r = _ := key
    rw [key']
    refine ⟨⟨hb, rfl, rfl, (vd_suffix 0 l m rest hv).trans h.suf, rfl⟩, ?_⟩
    simp
/-- A number within bounds. -/
def rin (lo hi : Int) (l : List Int) : Option (Nat × List Int) :=
  match vd 0 l with
  | some (n, r) => if (n : Int) ≤ 4611686018427387904 ∧ lo ≤ (n : Int) ∧ (n : Int) ≤ hi then some (n, r) else none
  | none => none
theorem bif3 {α : Type} {a b c : Bool} {S T : α} : (bif a then S else (bif b then S else (bif c then S else T))) = (bif a || b || c then S else T) := by cases a <;> cases b <;> cases c <;> rfl
theorem vd_lt {l : List Int} (hD : ∀ x ∈ l, 0 ≤ x ∧ x < 256) {n : Nat} {r : List Int} (h : vd 0 l = some (n, r)) : n < 18446744073709551616 := by
  have := (vd_vb 0 l n r hD h).2.2
  simpa using this
theorem rdIn_at {r : Reader} {D l : List Int} (lo hi : Int) (h : RdAt r D l) (hD : ∀ x ∈ D, 0 ≤ x ∧ x < 256) (hl : D.length ≤ 1000000) :
    match rin lo hi l with
    | some (m, rest) => RdAt (rdIn r lo hi).1 D rest ∧ (rdIn r lo hi).2 = (m : Int)
    | none => rdErr (rdIn r lo hi).1 ≠ 0 := by
  have h1 := rdNum_at h hD hl
  unfold rin rdIn
  cases hv : vd 0 l with
  | none =>
    rw [hv] at h1
    dsimp only at h1 ⊢
    have : (rdErr (rdNum r).1 != 0) = true := by simpa using h1
    rw [this]; exact h1
  | some q =>
    obtain ⟨m, rest⟩ := q
    rw [hv] at h1
    dsimp only at h1 ⊢
    obtain ⟨h2, h3⟩ := h1
    rw [h2.err0, h3]
    simp only [bne_self_eq_false, cond_false]
    have hml := vd_lt (fun x hx => hD x (h.suf.subset hx)) hv
    rw [bif3]
    by_cases hc : (m : Int) ≤ 4611686018427387904 ∧ lo ≤ (m : Int) ∧ (m : Int) ≤ hi
    · have hw : IntKind.i64.wrap (m : Int) = (m : Int) := by have := wrapI (m : Int); omega
      have : (decide ((m : Int) > 4611686018427387904) || decide (IntKind.i64.wrap (m : Int) < lo) || decide (IntKind.i64.wrap (m : Int) > hi)) = false := by
        rw [hw]; simp only [Bool.or_eq_false_iff, decide_eq_false_iff_not]; omega
      rw [if_pos hc, this]
      exact ⟨h2, hw⟩
    · have : (decide ((m : Int) > 4611686018427387904) || decide (IntKind.i64.wrap (m : Int) < lo) || decide (IntKind.i64.wrap (m : Int) > hi)) = true := by
        rcases Int.lt_or_le 4611686018427387904 (m : Int) with hgt | hle
        · simp [hgt]
        · have hw : IntKind.i64.wrap (m : Int) = (m : Int) := by have := wrapI (m : Int); omega
          rw [hw]; simp only [Bool.or_eq_true, decide_eq_true_eq]; omega
      rw [if_neg hc, this]
      show rdErr (rdStop (rdNum r).1 _ 5) ≠ 0
      unfold rdStop rdErr
      rw [h2.err]
      show (bif !(rdNum r).1.made then (6 : Int) else 5) ≠ 0
      rw [h2.made]; decide
theorem rdIn_err {r : Reader} (lo hi : Int) (h : rdErr r ≠ 0) : rdErr (rdIn r lo hi).1 ≠ 0 := by
  have e : (rdErr r != 0) = true := by simpa using h
  unfold rdIn
  rw [rdNum_err r e]
  dsimp only
  rw [e]
  exact h
theorem rdEnd_at {r : Reader} {D l : List Int} (h : RdAt r D l) : (rdEnd r != 0) = !l.isEmpty := by
  unfold rdEnd
  rw [h.err0]
  have h2 := h.suf.length_le
  have h3 := h.at'
  rw [h.b]
  cases l with
  | nil =>
    have : decide (r.at_ < (D.length : Int)) = false := decide_eq_false (by simp at h3; omega)
    rw [this]; rfl
  | cons x l =>
    have : decide (r.at_ < (D.length : Int)) = true := decide_eq_true (by simp at h3; omega)
    rw [this]; rfl
theorem rdEnd_err {r : Reader} (h : rdErr r ≠ 0) : (rdEnd r != 0) = true := by
  have e : (rdErr r != 0) = true := by simpa using h
  unfold rdEnd
  rw [e]; exact e
end Go.Proofs.Ytpgenmflgdkfiaa
/- What the reference's readers of bytes read, in plain words. No conditions. -/
namespace Go.Proofs.Ytpgenmflgdkfiaa
open Go.Am
theorem step_add {acc low i : Nat} {step : Int} (hi : i ≤ 9) (hst : step = ((128 ^ i : Nat) : Int)) (hacc : acc < 128 ^ i) (h2 : low * 128 ^ i < 18446744073709551616) : IntKind.u64.wrap ((acc : Int) + IntKind.u64.wrap ((low : Int) * step)) = (((acc + low * 128 ^ i) % 18446744073709551616 : Nat) : Int) := by
  have e : (low : Int) * step = ((low * 128 ^ i : Nat) : Int) := by rw [hst]; simp
  rw [e, wrapU, wrapU]
  omega
theorem acc64 {x i acc : Nat} (hi : i ≤ 9) (h1 : acc < 128 ^ i) (h2 : ¬ ((i = 9 ∧ 1 < x % 128) ∨ 9 < i)) : acc + x % 128 * 128 ^ i < 18446744073709551616 := by
  rcases Nat.lt_or_ge i 9 with h9 | h9
  · have h3 := acc_le (x := x) h1
    have : 128 ^ (i + 1) ≤ 9223372036854775808 := Nat.le_trans (Nat.pow_le_pow_right (by decide) (show i + 1 ≤ 9 by omega)) (by decide)
    omega
  · have hi9 : i = 9 := by omega
    subst hi9
    have h6 : (128 : Nat) ^ 9 = 9223372036854775808 := by decide
    rw [h6] at h1 ⊢
    omega
theorem rrNum_l0_eq {D : List Int} (hD : ∀ x ∈ D, 0 ≤ x ∧ x < 256) (hl : D.length ≤ 1000000) (r : Reader94) (hb : r.b.D = D) (h0 : 0 ≤ r.at_) (h1 : r.at_ ≤ (D.length : Int)) (he : r.e_ = 0) : ∀ (k i acc : Nat) (step : Int), k + i = 10 → r.at_.toNat + i ≤ D.length → step = IntKind.u64.wrap ((128 ^ i : Nat) : Int) → acc < 128 ^ i →
    match vd i (D.drop (r.at_.toNat + i)) with
    | some (m, rest) => rrNum_l0 r (k + 1) i (acc : Int) step = (Reader94.mk r.b ((D.length : Int) - rest.length) 0, ((acc + m * 128 ^ i : Nat) : Int))
    | none => (rrNum_l0 r (k + 1) i (acc : Int) step).1.e_ ≠ 0
  | k, i, acc, step, hk, hle, hst, hacc => by
    have hwi := wrapI (r.at_ + (i : Int))
    have hw : IntKind.i64.wrap (r.at_ + (i : Int)) = r.at_ + (i : Int) := by omega
    unfold rrNum_l0
    rw [hw, hb]
    by_cases hat : r.at_.toNat + i = D.length
    · have e : decide (r.at_ + (i : Int) ≥ (D.length : Int)) = true := decide_eq_true (by omega)
      rw [List.drop_eq_nil_of_le (by omega), vd, e]
      exact (by decide : (2 : Int) ≠ 0)
    · have e : decide (r.at_ + (i : Int) ≥ (D.length : Int)) = false := decide_eq_false (by omega)
      obtain ⟨x, hx⟩ : ∃ x, D[r.at_.toNat + i]? = some x := ⟨_, List.getElem?_eq_getElem (by omega)⟩
      have hxb := hD x (List.mem_of_getElem? hx)
      have hx2 : D[(r.at_ + (i : Int)).toNat]! = x := by rw [show (r.at_ + (i : Int)).toNat = r.at_.toNat + i by omega]; exact getBang hx
      have hw2 : IntKind.i64.wrap (r.at_ + (i : Int) + 1) = r.at_ + (i : Int) + 1 := by have := wrapI (r.at_ + (i : Int) + 1); omega
      have hlow : IntKind.u64.wrap (x.tmod 128) = ((x.toNat % 128 : Nat) : Int) := by rw [wrapU, Int.tmod_eq_emod_of_nonneg hxb.1]; omega
      have hc : ((((i : Int) == 9) && decide (((x.toNat % 128 : Nat) : Int) > 1)) || ((i : Int) == 10)) = decide ((i = 9 ∧ 1 < x.toNat % 128) ∨ 9 < i) := by
        rw [Bool.eq_iff_iff]
        simp only [Bool.or_eq_true, Bool.and_eq_true, beq_iff_eq, decide_eq_true_eq]
        omega
      have hd : ((x == 0) && decide ((i : Int) > 0)) = decide (x = 0 ∧ 0 < i) := by
        rw [Bool.eq_iff_iff]
        simp only [Bool.and_eq_true, beq_iff_eq, decide_eq_true_eq]
        omega
      rw [drop_at hx, vd, e, cond_false, hx2, hlow, hw2, bif_num2, hc, hd]
      by_cases c1 : (i = 9 ∧ 1 < x.toNat % 128) ∨ 9 < i
      · rw [if_pos c1, decide_eq_true c1]
        exact (by decide : (5 : Int) ≠ 0)
      · rw [if_neg c1, decide_eq_false c1, cond_false]
        by_cases c2 : x = 0 ∧ 0 < i
        · rw [if_pos c2, decide_eq_true c2]
          exact (by decide : (10 : Int) ≠ 0)
        · rw [if_neg c2, decide_eq_false c2, cond_false]
          have hp : 128 ^ i ≤ 9223372036854775808 := Nat.le_trans (Nat.pow_le_pow_right (by decide) (show i ≤ 9 by omega)) (by decide)
          have hst' : step = ((128 ^ i : Nat) : Int) := by rw [hst, wrapU]; omega
          rw [step_add (by omega) hst' hacc (low_le c1), Nat.mod_eq_of_lt (acc64 (by omega) hacc c1)]
          by_cases c3 : x < 128
          · rw [if_pos c3, decide_eq_true c3, cond_true]
            have hx' : x.toNat % 128 = x.toNat := by omega
            show (Reader94.mk r.b (r.at_ + (i : Int) + 1) r.e_, _) = (Reader94.mk r.b ((D.length : Int) - ((D.drop (r.at_.toNat + i + 1)).length : Int)) 0, _)
            rw [he, hx', List.length_drop]
            have : r.at_ + (i : Int) + 1 = (D.length : Int) - ((D.length - (r.at_.toNat + i + 1) : Nat) : Int) := by omega
            rw [this]
          · rw [if_neg c3, decide_eq_false c3, cond_false]
            have hsw : IntKind.u64.wrap (step * 128) = IntKind.u64.wrap ((128 ^ (i + 1) : Nat) : Int) := by
              have : step * 128 = ((128 ^ (i + 1) : Nat) : Int) := by rw [hst', Nat.pow_succ]; simp
              rw [this]
            obtain ⟨k', rfl⟩ : ∃ k', k = k' + 1 := ⟨k - 1, by omega⟩
            have ih := rrNum_l0_eq hD hl r hb h0 h1 he k' (i + 1) (acc + x.toNat % 128 * 128 ^ i) (IntKind.u64.wrap (step * 128)) (by omega) (by omega) hsw (acc_le hacc)
            rw [show r.at_.toNat + (i + 1) = r.at_.toNat + i + 1 by omega] at ih
            cases hv : vd (i + 1) (D.drop (r.at_.toNat + i + 1)) with
            | none => rw [hv] at ih; exact ih
            | some q =>
              obtain ⟨m, rest⟩ := q
              rw [hv] at ih
              dsimp only at ih ⊢
              rw [ih]
              have : acc + x.toNat % 128 * 128 ^ i + m * 128 ^ (i + 1) = acc + (x.toNat % 128 + 128 * m) * 128 ^ i := by
                rw [Nat.pow_succ, Nat.add_mul, Nat.mul_comm (128 ^ i) 128, ← Nat.mul_assoc, Nat.mul_comm m 128]; omega
              rw [this]
termination_by k => k
/-- A reader of the reference, likewise. -/
structure RrAt (r : Reader94) (D l : List Int) : Prop where
  b : r.b.D = D
  err : r.e_ = 0
  suf : l <:+ D
  at' : r.at_ = (D.length : Int) - l.length
theorem RrAt.drop {r : Reader94} {D l : List Int} (h : RrAt r D l) : D.drop r.at_.toNat = l := by
  have h1 := List.suffix_iff_eq_drop.1 h.suf
  have h2 := h.suf.length_le
  have : r.at_.toNat = D.length - l.length := by have := h.at'; omega
  rw [this]; exact h1.symm
theorem rrNum_at {r : Reader94} {D l : List Int} (h : RrAt r D l) (hD : ∀ x ∈ D, 0 ≤ x ∧ x < 256) (hl : D.length ≤ 1000000) :
    match vd 0 l with
    | some (m, rest) => RrAt (rrNum r).1 D rest ∧ (rrNum r).2 = (m : Int)
    | none => (rrNum r).1.e_ ≠ 0 := by
  have h2 := h.suf.length_le
  have h3 := h.at'
  have key := rrNum_l0_eq hD hl r h.b (by omega) (by omega) h.err 10 0 0 1 (by decide) (by omega) (by decide) (by decide)
  rw [show r.at_.toNat + 0 = r.at_.toNat from rfl, h.drop] at key
  unfold rrNum
  rw [h.err]
  simp only [bne_self_eq_false, cond_false]
  cases hv : vd 0 l with
  | none => rw [hv] at key; exact key
  | some q =>
    obtain ⟨m, rest⟩ := q
    rw [hv] at key
    dsimp only at key ⊢
    have key' : rrNum_l0 r 11 0 0 1 = _ := key
    rw [key']
    refine ⟨⟨h.b, rfl, (vd_suffix 0 l m rest hv).trans h.suf, rfl⟩, ?_⟩
    simp
theorem rrIn_at {r : Reader94} {D l : List Int} (lo hi : Int) (h : RrAt r D l) (hD : ∀ x ∈ D, 0 ≤ x ∧ x < 256) (hl : D.length ≤ 1000000) :
    match rin lo hi l with
    | some (m, rest) => RrAt (rrIn r lo hi).1 D rest ∧ (rrIn r lo hi).2 = (m : Int)
    | none => (rrIn r lo hi).1.e_ ≠ 0 := by
  have h1 := rrNum_at h hD hl
  unfold rin rrIn
  cases hv : vd 0 l with
  | none =>
    rw [hv] at h1
    dsimp only at h1 ⊢
    have e1 : ((rrNum r).1.e_ == 0) = false := by simpa using h1
    have e2 : ((rrNum r).1.e_ != 0) = true := by simpa using h1
    rw [e1, e2]; exact h1
  | some q =>
    obtain ⟨m, rest⟩ := q
    rw [hv] at h1
    dsimp only at h1 ⊢
    obtain ⟨h2, h3⟩ := h1
    have e1 : ((rrNum r).1.e_ == 0) = true := by simpa using h2.err
    have e2 : ((rrNum r).1.e_ != 0) = false := by simpa using h2.err
    have e5 : ((5 : Int) != 0) = true := by decide
    rw [e1, e2, e5, h3]
    simp only [cond_true, cond_false]
    have hml := vd_lt (fun x hx => hD x (h.suf.subset hx)) hv
    rw [bif3]
    by_cases hc : (m : Int) ≤ 4611686018427387904 ∧ lo ≤ (m : Int) ∧ (m : Int) ≤ hi
    · have hw : IntKind.i64.wrap (m : Int) = (m : Int) := by have := wrapI (m : Int); omega
      have : (decide ((m : Int) > 4611686018427387904) || decide (IntKind.i64.wrap (m : Int) < lo) || decide (IntKind.i64.wrap (m : Int) > hi)) = false := by
        rw [hw]; simp only [Bool.or_eq_false_iff, decide_eq_false_iff_not]; omega
      rw [if_pos hc, this]
      exact ⟨h2, hw⟩
    · have : (decide ((m : Int) > 4611686018427387904) || decide (IntKind.i64.wrap (m : Int) < lo) || decide (IntKind.i64.wrap (m : Int) > hi)) = true := by
        rcases Int.lt_or_le 4611686018427387904 (m : Int) with hgt | hle
        · simp [hgt]
        · have hw : IntKind.i64.wrap (m : Int) = (m : Int) := by have := wrapI (m : Int); omega
          rw [hw]; simp only [Bool.or_eq_true, decide_eq_true_eq]; omega
      rw [if_neg hc, this]
      exact (by decide : (5 : Int) ≠ 0)
theorem rrIn_err {r : Reader94} (lo hi : Int) (h : r.e_ ≠ 0) : (rrIn r lo hi).1.e_ ≠ 0 := by
  have e : (r.e_ != 0) = true := by simpa using h
  have e1 : (r.e_ == 0) = false := by simpa using h
  unfold rrIn rrNum
  rw [e]
  dsimp only [cond_true]
  rw [e1, e]
  exact h
theorem rrEnd_at {r : Reader94} {D l : List Int} (h : RrAt r D l) : (rrEnd r != 0) = !l.isEmpty := by
  unfold rrEnd
  have e1 : (r.e_ == 0) = true := by simpa using h.err
  rw [e1, h.err]
  have h2 := h.suf.length_le
  have h3 := h.at'
  rw [h.b]
  cases l with
  | nil =>
    have : decide (r.at_ < (D.length : Int)) = false := decide_eq_false (by simp at h3; omega)
    rw [this]; rfl
  | cons x l =>
    have : decide (r.at_ < (D.length : Int)) = true := decide_eq_true (by simp at h3; omega)
    rw [this]; rfl
theorem rrEnd_err {r : Reader94} (h : r.e_ ≠ 0) : (rrEnd r != 0) = true := by
  have e : (r.e_ != 0) = true := by simpa using h
  have e1 : (r.e_ == 0) = false := by simpa using h
  unfold rrEnd
  rw [e1]; exact e
end Go.Proofs.Ytpgenmflgdkfiaa
/- Commands as bytes, in plain words. No conditions. -/
namespace Go.Proofs.Ytpgenmflgdkfiaa
open Go.Am
/-- May a command be? -/
def okC (c : Command) : Prop := (1 ≤ c.epoch ∧ c.epoch ≤ 1099511627776) ∧ (((c.kind = 1 ∨ c.kind = 3 ∨ c.kind = 4) ∧ (0 ≤ c.node ∧ c.node < 6) ∧ c.site = 0) ∨ (c.kind = 2 ∧ (0 ≤ c.node ∧ c.node < 6) ∧ (0 ≤ c.site ∧ c.site < 3)) ∨ (c.kind = 5 ∧ c.node = 0 ∧ (0 ≤ c.site ∧ c.site < 3)))
theorem cmdCheck_spec (c : Command) : (cmdCheck c = 0 ∧ okC c) ∨ (cmdCheck c = 120 ∧ ¬ okC c) := by
  obtain ⟨k, n, s, e⟩ := c
  unfold cmdCheck okC
  simp only [Bool.cond_false_right, Bool.cond_true_left]
  simp only [Bool.cond_eq_ite, Bool.and_eq_true, Bool.or_eq_true, Bool.not_eq_true', Bool.and_eq_false_iff, Bool.or_eq_false_iff, decide_eq_true_eq, beq_iff_eq, Bool.not_eq_true', beq_eq_false_iff_ne, decide_eq_false_iff_not, ne_eq]
  repeat' split
  all_goals omega
theorem rCmdCheck_spec (c : Command) : (rCmdCheck c = 0 ∧ okC c) ∨ (rCmdCheck c = 120 ∧ ¬ okC c) := by
  obtain ⟨k, n, s, e⟩ := c
  unfold rCmdCheck okC
  simp only [Bool.cond_false_right, Bool.cond_true_left]
  simp only [Bool.cond_eq_ite, Bool.and_eq_true, Bool.or_eq_true, Bool.not_eq_true', Bool.and_eq_false_iff, Bool.or_eq_false_iff, decide_eq_true_eq, beq_iff_eq, Bool.not_eq_true', beq_eq_false_iff_ne, decide_eq_false_iff_not, ne_eq, bne_iff_ne]
  repeat' split
  all_goals omega
theorem cmdCheck_eq (c : Command) : cmdCheck c = rCmdCheck c := by
  rcases cmdCheck_spec c with h | h <;> rcases rCmdCheck_spec c with g | g
  · rw [h.1, g.1]
  · exact absurd h.2 g.2
  · exact absurd g.2 h.2
  · rw [h.1, g.1]
theorem okC_of {c : Command} (h : cmdCheck c = 0) : okC c := by
  rcases cmdCheck_spec c with g | g
  · exact g.2
  · omega
def get4 (h1 h2 h3 h4 : Int) (D : List Int) : Option Command :=
  match rin 0 h1 D with
  | none => none
  | some (k, l1) => match rin 0 h2 l1 with
    | none => none
    | some (n, l2) => match rin 0 h3 l2 with
      | none => none
      | some (s, l3) => match rin 0 h4 l3 with
        | none => none
        | some (e, l4) => bif l4.isEmpty then some ⟨k, n, s, e⟩ else none
def zeroC : Command := ⟨0, 0, 0, 0⟩
def asked (o : Option Command) : Command × Int :=
  match o with
  | some c => bif cmdCheck c != 0 then (zeroC, 120) else (c, 0)
  | none => (zeroC, 120)
theorem cmdGet_eq (b : Sl Int) (hD : ∀ x ∈ b.D, 0 ≤ x ∧ x < 256) (hl : b.D.length ≤ 1000000) : cmdGet b = asked (get4 99 6 3 1099511627776 b.D) := by
  have h0 : RdAt (rdNew b) b.D b.D := ⟨rfl, rfl, rfl, List.suffix_refl _, by show (0 : Int) = _; omega⟩
  unfold cmdGet get4
  have k1 := rdIn_at 0 99 h0 hD hl
  generalize rdIn (rdNew b) 0 99 = q1 at k1 ⊢
  cases e1 : rin 0 99 b.D with
  | none =>
    rw [e1] at k1
    have := rdEnd_err (rdIn_err 0 1099511627776 (rdIn_err 0 3 (rdIn_err 0 6 k1)))
    rw [this]; rfl
  | some p1 =>
    obtain ⟨n1, l1⟩ := p1
    rw [e1] at k1
    obtain ⟨a1, v1⟩ := k1
    dsimp only
    have k2 := rdIn_at 0 6 a1 hD hl
    generalize rdIn q1.1 0 6 = q2 at k2 ⊢
    cases e2 : rin 0 6 l1 with
    | none =>
      rw [e2] at k2
      have := rdEnd_err (rdIn_err 0 1099511627776 (rdIn_err 0 3 k2))
      rw [this]; rfl
    | some p2 =>
      obtain ⟨n2, l2⟩ := p2
      rw [e2] at k2
      obtain ⟨a2, v2⟩ := k2
      dsimp only
      have k3 := rdIn_at 0 3 a2 hD hl
      generalize rdIn q2.1 0 3 = q3 at k3 ⊢
      cases e3 : rin 0 3 l2 with
      | none =>
        rw [e3] at k3
        have := rdEnd_err (rdIn_err 0 1099511627776 k3)
        rw [this]; rfl
      | some p3 =>
        obtain ⟨n3, l3⟩ := p3
        rw [e3] at k3
        obtain ⟨a3, v3⟩ := k3
        dsimp only
        have k4 := rdIn_at 0 1099511627776 a3 hD hl
        generalize rdIn q3.1 0 1099511627776 = q4 at k4 ⊢
        cases e4 : rin 0 1099511627776 l3 with
        | none =>
          rw [e4] at k4
          have := rdEnd_err k4
          rw [this]; rfl
        | some p4 =>
          obtain ⟨n4, l4⟩ := p4
          rw [e4] at k4
          obtain ⟨a4, v4⟩ := k4
          dsimp only
          rw [rdEnd_at a4, v1, v2, v3, v4]
          cases l4 with
          | nil => rfl
          | cons x l => rfl
theorem rCmdGet_eq (b : Sl Int) (hD : ∀ x ∈ b.D, 0 ≤ x ∧ x < 256) (hl : b.D.length ≤ 1000000) : rCmdGet b = asked (get4 1099511627776 1099511627776 1099511627776 1099511627776 b.D) := by
  have h0 : RrAt (Reader94.mk b 0 0) b.D b.D := ⟨rfl, rfl, List.suffix_refl _, by show (0 : Int) = _; omega⟩
  unfold rCmdGet get4
  simp only [rCmdGet_l0]
  have k1 := rrIn_at 0 1099511627776 h0 hD hl
  generalize rrIn (Reader94.mk b 0 0) 0 1099511627776 = q1 at k1 ⊢
  cases e1 : rin 0 1099511627776 b.D with
  | none =>
    rw [e1] at k1
    have := rrEnd_err (rrIn_err 0 1099511627776 (rrIn_err 0 1099511627776 (rrIn_err 0 1099511627776 k1)))
    rw [this]; rfl
  | some p1 =>
    obtain ⟨n1, l1⟩ := p1
    rw [e1] at k1
    obtain ⟨a1, v1⟩ := k1
    dsimp only
    have k2 := rrIn_at 0 1099511627776 a1 hD hl
    generalize rrIn q1.1 0 1099511627776 = q2 at k2 ⊢
    cases e2 : rin 0 1099511627776 l1 with
    | none =>
      rw [e2] at k2
      have := rrEnd_err (rrIn_err 0 1099511627776 (rrIn_err 0 1099511627776 k2))
      rw [this]; rfl
    | some p2 =>
      obtain ⟨n2, l2⟩ := p2
      rw [e2] at k2
      obtain ⟨a2, v2⟩ := k2
      dsimp only
      have k3 := rrIn_at 0 1099511627776 a2 hD hl
      generalize rrIn q2.1 0 1099511627776 = q3 at k3 ⊢
      cases e3 : rin 0 1099511627776 l2 with
      | none =>
        rw [e3] at k3
        have := rrEnd_err (rrIn_err 0 1099511627776 k3)
        rw [this]; rfl
      | some p3 =>
        obtain ⟨n3, l3⟩ := p3
        rw [e3] at k3
        obtain ⟨a3, v3⟩ := k3
        dsimp only
        have k4 := rrIn_at 0 1099511627776 a3 hD hl
        generalize rrIn q3.1 0 1099511627776 = q4 at k4 ⊢
        cases e4 : rin 0 1099511627776 l3 with
        | none =>
          rw [e4] at k4
          have := rrEnd_err k4
          rw [this]; rfl
        | some p4 =>
          obtain ⟨n4, l4⟩ := p4
          rw [e4] at k4
          obtain ⟨a4, v4⟩ := k4
          dsimp only
          rw [rrEnd_at a4, v1, v2, v3, v4]
          have hc : rCmdCheck ⟨n1, n2, n3, n4⟩ = cmdCheck ⟨n1, n2, n3, n4⟩ := (cmdCheck_eq _).symm
          cases l4 with
          | nil =>
            show (bif rCmdCheck ⟨n1, n2, n3, n4⟩ != 0 then _ else _) = _
            rw [hc]; rfl
          | cons x l => rfl
end Go.Proofs.Ytpgenmflgdkfiaa
/- The law of commands. No conditions. -/
namespace Go.Proofs.Ytpgenmflgdkfiaa
open Go.Am
theorem rin_some {hi : Int} {l : List Int} {n : Nat} {r : List Int} : rin 0 hi l = some (n, r) ↔ vd 0 l = some (n, r) ∧ (n : Int) ≤ 4611686018427387904 ∧ (n : Int) ≤ hi := by
  unfold rin
  cases vd 0 l with
  | none => simp
  | some q =>
    obtain ⟨m, t⟩ := q
    dsimp only
    by_cases hc : (m : Int) ≤ 4611686018427387904 ∧ (0 : Int) ≤ (m : Int) ∧ (m : Int) ≤ hi
    · rw [if_pos hc]
      constructor
      · intro h; cases h; exact ⟨rfl, hc.1, hc.2.2⟩
      · intro h; exact h.1
    · rw [if_neg hc]
      constructor
      · intro h; cases h
      · rintro ⟨h, h2, h3⟩; cases h; exact absurd ⟨h2, Int.natCast_nonneg _, h3⟩ hc
theorem get4_some {h1 h2 h3 h4 : Int} {D : List Int} {c : Command} : get4 h1 h2 h3 h4 D = some c ↔ ∃ n1 n2 n3 n4 l1 l2 l3, rin 0 h1 D = some (n1, l1) ∧ rin 0 h2 l1 = some (n2, l2) ∧ rin 0 h3 l2 = some (n3, l3) ∧ rin 0 h4 l3 = some (n4, []) ∧ c = ⟨(n1 : Nat), (n2 : Nat), (n3 : Nat), (n4 : Nat)⟩ := by
  unfold get4
  constructor
  · intro h
    split at h
    · cases h
    · rename_i n1 l1 e1
      split at h
      · cases h
      · rename_i n2 l2 e2
        split at h
        · cases h
        · rename_i n3 l3 e3
          split at h
          · cases h
          · rename_i n4 l4 e4
            cases l4 with
            | nil => cases h; exact ⟨n1, n2, n3, n4, l1, l2, l3, e1, e2, e3, e4, rfl⟩
            | cons x l => cases h
  · rintro ⟨n1, n2, n3, n4, l1, l2, l3, e1, e2, e3, e4, rfl⟩
    simp [e1, e2, e3, e4]
theorem get4_to {D : List Int} {c : Command} (h : get4 99 6 3 1099511627776 D = some c) : get4 1099511627776 1099511627776 1099511627776 1099511627776 D = some c := by
  obtain ⟨n1, n2, n3, n4, l1, l2, l3, e1, e2, e3, e4, rfl⟩ := get4_some.1 h
  rw [rin_some] at e1 e2 e3
  exact get4_some.2 ⟨n1, n2, n3, n4, l1, l2, l3, rin_some.2 ⟨e1.1, e1.2.1, by omega⟩, rin_some.2 ⟨e2.1, e2.2.1, by omega⟩, rin_some.2 ⟨e3.1, e3.2.1, by omega⟩, e4, rfl⟩
theorem get4_back {D : List Int} {c : Command} (h : get4 1099511627776 1099511627776 1099511627776 1099511627776 D = some c) (hc : okC c) : get4 99 6 3 1099511627776 D = some c := by
  obtain ⟨n1, n2, n3, n4, l1, l2, l3, e1, e2, e3, e4, rfl⟩ := get4_some.1 h
  rw [rin_some] at e1 e2 e3
  unfold okC at hc
  dsimp only at hc
  exact get4_some.2 ⟨n1, n2, n3, n4, l1, l2, l3, rin_some.2 ⟨e1.1, e1.2.1, by omega⟩, rin_some.2 ⟨e2.1, e2.2.1, by omega⟩, rin_some.2 ⟨e3.1, e3.2.1, by omega⟩, e4, rfl⟩
theorem get_eq (b : Sl Int) (hD : ∀ x ∈ b.D, 0 ≤ x ∧ x < 256) (hl : b.D.length ≤ 1000000) : cmdGet b = rCmdGet b := by
  rw [cmdGet_eq b hD hl, rCmdGet_eq b hD hl]
  cases h : get4 99 6 3 1099511627776 b.D with
  | some c => rw [get4_to h]
  | none =>
    cases h2 : get4 1099511627776 1099511627776 1099511627776 1099511627776 b.D with
    | none => rfl
    | some c =>
      unfold asked
      have : (cmdCheck c != 0) = true := by
        rcases cmdCheck_spec c with g | g
        · rw [get4_back h2 g.2] at h; cases h
        · rw [g.1]; rfl
      dsimp only
      rw [this]; rfl
/-- A command's bytes. -/
def cb (c : Command) : List Int := vb c.kind.toNat ++ (vb c.node.toNat ++ (vb c.site.toNat ++ vb c.epoch.toNat))
theorem wrapU_id {x : Int} (h : 0 ≤ x) (h2 : x < 18446744073709551616) : IntKind.u64.wrap x = x := by rw [wrapU]; omega
theorem cmdPut_eq (c : Command) : cmdPut c = bif cmdCheck c != 0 then (Sl.mk true [], cmdCheck c) else (Sl.mk false (cb c), 0) := by
  unfold cmdPut
  rcases cmdCheck_spec c with ⟨h, hk⟩ | ⟨h, hk⟩
  · rw [h]
    unfold okC at hk
    simp only [bne_self_eq_false, cond_false]
    rw [wrapU_id (x := c.kind) (by omega) (by omega), wrapU_id (x := c.node) (by omega) (by omega), wrapU_id (x := c.site) (by omega) (by omega), wrapU_id (x := c.epoch) (by omega) (by omega)]
    rw [wPut_eq _ c.kind (by omega), wPut_eq _ c.node (by omega), wPut_eq _ c.site (by omega), wPut_eq _ c.epoch (by omega)]
    simp [cb]
  · rw [h]; rfl
theorem rCmdPut_eq (c : Command) : rCmdPut c = bif cmdCheck c != 0 then (Sl.mk true [], cmdCheck c) else (Sl.mk false (cb c), 0) := by
  unfold rCmdPut
  rw [← cmdCheck_eq]
  rcases cmdCheck_spec c with ⟨h, hk⟩ | ⟨h, hk⟩
  · rw [h]
    unfold okC at hk
    simp only [bne_self_eq_false, cond_false]
    rw [wrapU_id (x := c.kind) (by omega) (by omega), wrapU_id (x := c.node) (by omega) (by omega), wrapU_id (x := c.site) (by omega) (by omega), wrapU_id (x := c.epoch) (by omega) (by omega)]
    unfold rPut
    rw [rPut_l0_eq _ 0 _ (fun x hx => by
      simp only [List.mem_cons, List.not_mem_nil, or_false] at hx
      rcases hx with rfl | rfl | rfl | rfl <;> omega)]
    simp [cb, vbs]
  · rw [h]; rfl
theorem vb_bytes : ∀ (n : Nat), ∀ x ∈ vb n, 0 ≤ x ∧ x < 256 := by
  intro n
  induction n using Nat.strongRecOn with
  | _ n ih =>
    intro x hx
    rcases Nat.lt_or_ge n 128 with hn | hn
    · rw [vb_lt hn] at hx
      simp only [List.mem_singleton] at hx
      omega
    · rw [vb_ge hn] at hx
      cases hx with
      | head => omega
      | tail _ hx => exact ih (n / 128) (by omega) x hx
theorem cb_bytes (c : Command) : ∀ x ∈ cb c, 0 ≤ x ∧ x < 256 := by
  intro x hx
  simp only [cb, List.mem_append] at hx
  rcases hx with h | h | h | h <;> exact vb_bytes _ x h
theorem awake_true : awake = true := by decide +kernel
end Go.Proofs.Ytpgenmflgdkfiaa
/- Inputs of chapter 12, as plain values. No conditions. -/
namespace Go.Proofs.Ytpgenmflgdkfiaa
open Go.Am
set_option maxRecDepth 100000 in
theorem flat3 {m : Nat} {ps : List PV} (h : Flat Try.prog (m + 1) 3 ps) : ∃ n, ps = [.lit (.int .i64 n)] ∧ (Lit.int .i64 n).wf = true := by
  unfold Flat at h
  rw [Try.underlying3] at h
  exact h
def WT25 (x : Command) : Prop := (Lit.int .i64 x.kind).wf = true ∧ (Lit.int .i64 x.node).wf = true ∧ (Lit.int .i64 x.site).wf = true ∧ (Lit.int .i64 x.epoch).wf = true
set_option maxRecDepth 100000 in
theorem flat25 {m : Nat} {ps : List PV} (h : Flat Try.prog (m + 2) 25 ps) : ∃ x : Command, ps = eCommand.enc x ∧ WT25 x := by
  unfold Flat at h
  rw [Try.underlying25] at h
  obtain ⟨a0, b0, e0, h0, a1, b1, e1, h1, a2, b2, e2, h2, a3, b3, e3, h3, el⟩ := h
  obtain ⟨x0, rfl, w0⟩ := flat3 (m := m + 0) h0
  obtain ⟨x1, rfl, w1⟩ := flat3 (m := m + 0) h1
  obtain ⟨x2, rfl, w2⟩ := flat3 (m := m + 0) h2
  obtain ⟨x3, rfl, w3⟩ := flat3 (m := m + 0) h3
  subst el
  subst e3
  subst e2
  subst e1
  subst e0
  exact ⟨⟨x0, x1, x2, x3⟩, rfl, w0, w1, w2, w3⟩
set_option maxRecDepth 100000 in
theorem flat5 {m : Nat} {ps : List PV} (h : Flat Try.prog (m + 1) 5 ps) : ∃ n, ps = [.lit (.int .u8 n)] ∧ (Lit.int .u8 n).wf = true := by
  unfold Flat at h
  rw [Try.underlying5] at h
  exact h
def WT26 (s : Sl Int) : Prop := s.D.length ≤ maxLen ∧ (s.nil = true → s.D = []) ∧ ∀ x ∈ s.D, (Lit.int .u8 x).wf = true
set_option maxRecDepth 100000 in
theorem flat26 {m : Nat} {ps : List PV} (h : Flat Try.prog (m + 2) 26 ps) : ∃ s : Sl Int, ps = [.sl (some s.nil) s.D.length (encL (eI .u8) s.D)] ∧ WT26 s := by
  unfold Flat at h
  rw [Try.underlying26] at h
  obtain ⟨b, D, rfl, h1, h2, h3⟩ := h
  obtain ⟨D2, e1, e2, e3⟩ := enc_list (e := (eI .u8)) (W := fun x => (Lit.int .u8 x).wf = true) D fun y hy => flat5 (h3 y hy)
  rw [e2, ← e1]
  exact ⟨⟨b, D2⟩, rfl, (by show D2.length ≤ _; rw [e1]; exact h1), (fun hb => by have := h2 hb; rw [this] at e1; exact List.eq_nil_of_length_eq_zero e1), e3⟩
set_option maxRecDepth 100000 in
theorem flat4 {m : Nat} {ps : List PV} (h : Flat Try.prog (m + 1) 4 ps) : ∃ b, ps = [.lit (.bool b)] ∧ True := by
  unfold Flat at h
  rw [Try.underlying4] at h
  obtain ⟨b, h⟩ := h
  exact ⟨b, h, trivial⟩
def WT63 (x : Member) : Prop := (Lit.int .i64 x.node).wf = true ∧ (Lit.int .i64 x.site).wf = true ∧ True
set_option maxRecDepth 100000 in
theorem flat63 {m : Nat} {ps : List PV} (h : Flat Try.prog (m + 2) 63 ps) : ∃ x : Member, ps = eMember.enc x ∧ WT63 x := by
  unfold Flat at h
  rw [Try.underlying63] at h
  obtain ⟨a0, b0, e0, h0, a1, b1, e1, h1, a2, b2, e2, h2, el⟩ := h
  obtain ⟨x0, rfl, w0⟩ := flat3 (m := m + 0) h0
  obtain ⟨x1, rfl, w1⟩ := flat3 (m := m + 0) h1
  obtain ⟨x2, rfl, w2⟩ := flat4 (m := m + 0) h2
  subst el
  subst e2
  subst e1
  subst e0
  exact ⟨⟨x0, x1, x2⟩, rfl, w0, w1, w2⟩
def WT22 (s : Sl Member) : Prop := s.D.length ≤ maxLen ∧ (s.nil = true → s.D = []) ∧ ∀ x ∈ s.D, WT63 x
set_option maxRecDepth 100000 in
theorem flat22 {m : Nat} {ps : List PV} (h : Flat Try.prog (m + 3) 22 ps) : ∃ s : Sl Member, ps = [.sl (some s.nil) s.D.length (encL eMember s.D)] ∧ WT22 s := by
  unfold Flat at h
  rw [Try.underlying22] at h
  obtain ⟨b, D, rfl, h1, h2, h3⟩ := h
  obtain ⟨D2, e1, e2, e3⟩ := enc_list (e := eMember) (W := fun x => WT63 x) D fun y hy => flat63 (h3 y hy)
  rw [e2, ← e1]
  exact ⟨⟨b, D2⟩, rfl, (by show D2.length ≤ _; rw [e1]; exact h1), (fun hb => by have := h2 hb; rw [this] at e1; exact List.eq_nil_of_length_eq_zero e1), e3⟩
def WT28 (x : Do) : Prop := WT25 x.c ∧ WT26 x.b ∧ True ∧ (Lit.int .i64 x.by_).wf = true ∧ (Lit.int .i64 x.off).wf = true
set_option maxRecDepth 100000 in
theorem flat28 {m : Nat} {ps : List PV} (h : Flat Try.prog (m + 3) 28 ps) : ∃ x : Do, ps = eDo.enc x ∧ WT28 x := by
  unfold Flat at h
  rw [Try.underlying28] at h
  obtain ⟨a0, b0, e0, h0, a1, b1, e1, h1, a2, b2, e2, h2, a3, b3, e3, h3, a4, b4, e4, h4, el⟩ := h
  obtain ⟨x0, rfl, w0⟩ := flat25 (m := m + 0) h0
  obtain ⟨x1, rfl, w1⟩ := flat26 (m := m + 0) h1
  obtain ⟨x2, rfl, w2⟩ := flat4 (m := m + 1) h2
  obtain ⟨x3, rfl, w3⟩ := flat3 (m := m + 1) h3
  obtain ⟨x4, rfl, w4⟩ := flat3 (m := m + 1) h4
  subst el
  subst e4
  subst e3
  subst e2
  subst e1
  subst e0
  exact ⟨⟨x0, x1, x2, x3, x4⟩, rfl, w0, w1, w2, w3, w4⟩
def WT23 (s : Sl Do) : Prop := s.D.length ≤ maxLen ∧ (s.nil = true → s.D = []) ∧ ∀ x ∈ s.D, WT28 x
set_option maxRecDepth 100000 in
theorem flat23 {m : Nat} {ps : List PV} (h : Flat Try.prog (m + 4) 23 ps) : ∃ s : Sl Do, ps = [.sl (some s.nil) s.D.length (encL eDo s.D)] ∧ WT23 s := by
  unfold Flat at h
  rw [Try.underlying23] at h
  obtain ⟨b, D, rfl, h1, h2, h3⟩ := h
  obtain ⟨D2, e1, e2, e3⟩ := enc_list (e := eDo) (W := fun x => WT28 x) D fun y hy => flat28 (h3 y hy)
  rw [e2, ← e1]
  exact ⟨⟨b, D2⟩, rfl, (by show D2.length ≤ _; rw [e1]; exact h1), (fun hb => by have := h2 hb; rw [this] at e1; exact List.eq_nil_of_length_eq_zero e1), e3⟩
end Go.Proofs.Ytpgenmflgdkfiaa
/- The contract of LedgerCommands. No conditions. -/
namespace Go.Proofs.Ytpgenmflgdkfiaa
open Go.Am
theorem byte_of {x : Int} (h : (Lit.int .u8 x).wf = true) : 0 ≤ x ∧ x < 256 := by
  simp [Lit.wf, IntKind.min, IntKind.max, IntKind.bits, IntKind.signed] at h
  omega
end Go.Proofs.Ytpgenmflgdkfiaa
/- The epoch behind a command; what is not told by one. No conditions. -/
namespace Go.Proofs.Ytpgenmflgdkfiaa
open Go.Am
/-- What a change of a chain tells. -/
def told (c : Chain) (x : Chain × Int) : Prop := (x.2 = 0 → (x.1.epoch = c.epoch ∨ x.1.epoch = c.epoch + 1) ∧ check c = 0) ∧ x.2 ≠ 90
theorem told_err (c d : Chain) {e : Int} (h0 : e ≠ 0) (h : e ≠ 90) : told c (d, e) := ⟨fun h => absurd h h0, h⟩
theorem told_bif {c : Chain} {b : Bool} {x y : Chain × Int} (hx : b = true → told c x) (hy : b = false → told c y) : told c (bif b then x else y) := by
  cases b
  · exact hy rfl
  · exact hx rfl
theorem told_after {c : Chain} (h : check c = 0) (l : Sl Member) : told c (after c l, 0) :=
  ⟨fun _ => ⟨.inr (wrap_epoch h), h⟩, by show (0 : Int) ≠ 90; decide⟩
theorem told_check {c d : Chain} (h : (check c != 0) = true) : told c (d, check c) := by
  rcases check_80 c with e | e
  · rw [e] at h; cases h
  · rw [e]; exact told_err _ _ (by decide) (by decide)
theorem told_finW {c : Chain} (h : check c = 0) (l : List Member) : told c (finW c l) := by
  unfold finW
  refine told_bif (fun _ => told_err _ _ (by decide) (by decide)) fun _ => told_bif (fun _ => told_err _ _ (by decide) (by decide)) fun _ => told_bif (fun _ => told_err _ _ (by decide) (by decide)) fun _ => told_after h _
theorem told_without {c : Chain} (h : check c = 0) (g : Int) : told c (without c g) := by rw [without_eq]; exact told_finW h _
theorem told_drop (c : Chain) (n : Int) : told c (drop c n) := by
  unfold drop
  exact told_bif (fun h => told_check h) fun h => told_without (eq_of_bne_false h) _
theorem told_dropSite_l0 {c : Chain} (h : check c = 0) (s : Int) : ∀ (l : List Member) (i : Nat) (g : Int), told c (dropSite_l0 c s l i g)
  | [], _, g => by unfold dropSite_l0; exact told_without h g
  | x :: l, i, g => by
    unfold dropSite_l0
    exact told_bif (fun _ => told_dropSite_l0 h s l _ _) fun _ => told_dropSite_l0 h s l _ _
theorem told_dropSite (c : Chain) (s : Int) : told c (dropSite c s) := by
  unfold dropSite
  exact told_bif (fun h => told_check h) fun h => told_dropSite_l0 (eq_of_bne_false h) _ _ _ _
theorem told_join_l0 {c : Chain} (h : check c = 0) (m : Member) : ∀ (f : Nat) (i : Int), f = c.members.D.length - i.toNat + 1 → 0 ≤ i → i ≤ (c.members.D.length : Int) → told c (join_l0 c m f i)
  | 0, _, hf, _, _ => by omega
  | f + 1, i, hf, h0, h1 => by
    have h6 := check_le6 h
    unfold join_l0
    have e : told c (bif (i == 0) then ((Chain.mk 0 (Sl.mk true [])), (152 : Int)) else ((after c (Sl.mk false (insertL c.members.D i.toNat [(Member.mk m.node m.site true)]))), 0)) :=
      told_bif (fun _ => told_err _ _ (by decide) (by decide)) fun _ => told_after h _
    refine told_bif (fun hlt => told_bif (fun _ => ?_) fun _ => e) fun _ => e
    have := of_decide_eq_true hlt
    have := wrapI (i + 1)
    exact told_join_l0 h m f _ (by omega) (by omega) (by omega)
theorem told_join (c : Chain) (m : Member) : told c (join c m) := by
  unfold join
  refine told_bif (fun h => told_check h) fun h => told_bif (fun _ => told_err _ _ (by decide) (by decide)) fun _ => told_bif (fun _ => told_err _ _ (by decide) (by decide)) fun _ => told_bif (fun _ => told_err _ _ (by decide) (by decide)) fun _ => ?_
  exact told_join_l0 (eq_of_bne_false h) m _ 0 (by omega) (Int.le_refl _) (by omega)
theorem told_again (c : Chain) (n : Int) : told c (again c n) := by
  unfold again
  exact told_bif (fun h => told_check h) fun h => told_bif (fun _ => told_err _ _ (by decide) (by decide)) fun _ => told_bif (fun _ => told_err _ _ (by decide) (by decide)) fun _ => told_after (eq_of_bne_false h) _
theorem told_ready (c : Chain) (n : Int) : told c (ready c n) := by
  unfold ready
  exact told_bif (fun h => told_check h) fun h => told_bif (fun _ => told_err _ _ (by decide) (by decide)) fun _ => told_bif (fun _ => told_err _ _ (by decide) (by decide)) fun _ => ⟨fun _ => ⟨.inl rfl, eq_of_bne_false h⟩, by show (0 : Int) ≠ 90; decide⟩
theorem told_next (c : Chain) (k : Command) : told c (nextL c k) := by
  unfold nextL
  exact told_bif (fun _ => told_err _ _ (by decide) (by decide)) fun _ => told_bif (fun _ => told_drop _ _) fun _ => told_bif (fun _ => told_dropSite _ _) fun _ => told_bif (fun _ => told_join _ _) fun _ => told_bif (fun _ => told_again _ _) fun _ => told_ready _ _
theorem get_code (b : Sl Int) : (cmdGet b).2 = 0 ∨ (cmdGet b).2 = 120 := by
  unfold cmdGet
  cases (rdEnd (rdIn (rdIn (rdIn (rdIn (rdNew b) 0 99).1 0 6).1 0 3).1 0 1099511627776).1) != 0
  · simp only [cond_false]
    cases cmdCheck _ != 0
    · exact .inl rfl
    · exact .inr rfl
  · exact .inr rfl
/-- A ledger behind so many calls. -/
structure Lived (g : Ledger) (n : Nat) : Prop where
  lo : 1 ≤ g.chain.epoch
  hi : g.chain.epoch ≤ 1 + (n : Int)
  at0 : 0 ≤ g.at_
  at1 : g.at_ ≤ (n : Int)
theorem Lived.dead {g : Ledger} {n : Nat} (h : Lived g n) : lDead g = false := by
  have := h.lo
  unfold lDead
  simp; omega
theorem Lived.chain {g : Ledger} {n : Nat} (h : Lived g n) : lChain g = copied g.chain := by unfold lChain; rw [h.dead]; rfl
theorem Lived.at_ {g : Ledger} {n : Nat} (h : Lived g n) : lAt g = g.at_ := by unfold lAt; rw [h.dead]; rfl
/-- What Apply does, told by cases. -/
theorem apply_cases {g : Ledger} {n : Nat} (h : Lived g n) (_ : n ≤ 1000) (i : Int) (d : Sl Int) :
    (lApply g i d = (g, 90)) ∨
    (i = g.at_ + 1 ∧ ((lApply g i d = (Ledger.mk g.past g.chain i, 0) ∧ d.D.length = 0) ∨ (lApply g i d = (Ledger.mk g.past g.chain i, (cmdGet d).2) ∧ (cmdGet d).2 = 120) ∨
      ((cmdGet d).2 = 0 ∧ lApply g i d = (Ledger.mk g.past g.chain i, (nextL g.chain (cmdGet d).1).2) ∧ (nextL g.chain (cmdGet d).1).2 ≠ 0) ∨
      ((cmdGet d).2 = 0 ∧ (nextL g.chain (cmdGet d).1).2 = 0 ∧ (((nextL g.chain (cmdGet d).1).1.epoch > g.chain.epoch ∧ lApply g i d = (Ledger.mk (Past.mk (Sl.mk false (g.past.all.D ++ [copied (nextL g.chain (cmdGet d).1).1]))) (nextL g.chain (cmdGet d).1).1 i, 0)) ∨
        (¬ (nextL g.chain (cmdGet d).1).1.epoch > g.chain.epoch ∧ lApply g i d = (Ledger.mk g.past (nextL g.chain (cmdGet d).1).1 i, 0)))))) := by
  have h1 := h.at0
  have h2 := h.at1
  unfold lApply
  rw [h.dead, cond_false]
  cases e1 : decide (i > 1099511627776)
  · have f1 := of_decide_eq_false e1
    rw [cond_false]
    cases e2 : decide (i < 1)
    · have f2 := of_decide_eq_false e2
      rw [cond_false]
      cases e3 : IntKind.i64.wrap (i - 1) != g.at_
      · have f3 := eq_of_bne_false e3
        have := wrapI (i - 1)
        have hi : i = g.at_ + 1 := by omega
        rw [cond_false]
        refine .inr ⟨hi, ?_⟩
        cases e4 : (d.D.length : Int) == 0
        · rw [cond_false]
          refine .inr ?_
          rcases get_code d with e5 | e5
          · rw [e5]
            simp only [bne_self_eq_false, cond_false]
            refine .inr ?_
            cases e6 : (nextL g.chain (cmdGet d).1).2 != 0
            · have f6 := eq_of_bne_false e6
              rw [cond_false]
              refine .inr ⟨by first | rfl | trivial, f6, ?_⟩
              cases e7 : decide ((nextL g.chain (cmdGet d).1).1.epoch > g.chain.epoch)
              · exact .inr ⟨of_decide_eq_false e7, rfl⟩
              · exact .inl ⟨of_decide_eq_true e7, rfl⟩
            · exact .inl ⟨by first | rfl | trivial, rfl, by simpa using e6⟩
          · rw [e5]
            exact .inl ⟨rfl, rfl⟩
        · exact .inl ⟨rfl, by simpa using e4⟩
      · exact .inl rfl
    · exact .inl rfl
  · exact .inl rfl
theorem Lived.apply {g : Ledger} {n : Nat} (h : Lived g n) (hn : n ≤ 1000) (i : Int) (d : Sl Int) : Lived (lApply g i d).1 (n + 1) := by
  have a := h.lo; have b := h.hi; have c := h.at0; have e := h.at1
  rcases apply_cases h hn i d with q | ⟨hi, ⟨q, _⟩ | ⟨q, _⟩ | ⟨_, q, _⟩ | ⟨_, q0, ⟨_, q⟩ | ⟨_, q⟩⟩⟩
  · rw [q]; exact ⟨a, by dsimp only; omega, c, by dsimp only; omega⟩
  · rw [q]; exact ⟨a, by dsimp only; omega, by dsimp only; omega, by dsimp only; omega⟩
  · rw [q]; exact ⟨a, by dsimp only; omega, by dsimp only; omega, by dsimp only; omega⟩
  · rw [q]; exact ⟨a, by dsimp only; omega, by dsimp only; omega, by dsimp only; omega⟩
  · rw [q]
    have := ((told_next g.chain (cmdGet d).1).1 q0).1
    exact ⟨by dsimp only; omega, by dsimp only; omega, by dsimp only; omega, by dsimp only; omega⟩
  · rw [q]
    have := ((told_next g.chain (cmdGet d).1).1 q0).1
    exact ⟨by dsimp only; omega, by dsimp only; omega, by dsimp only; omega, by dsimp only; omega⟩
theorem newL_lived {m : Sl Member} (h : (firstC m).2 = 0) : Lived (newL m).1 0 := by
  have e : (firstC m).1.epoch = 1 := by
    rw [firstC_eq] at h ⊢
    unfold finF at h ⊢
    generalize bySite m.D 0 ++ bySite m.D 1 ++ bySite m.D 2 = vc at h ⊢
    cases e1 : ((vc.length : Int) != (m.D.length : Int))
    · rw [e1] at h
      simp only [cond_false] at h ⊢
      cases e2 : check (Chain.mk 1 (Sl.mk vc.isEmpty vc)) != 0
      · rfl
      · rw [e2] at h; cases h
    · rw [e1] at h; cases h
  exact ⟨by show 1 ≤ (firstC m).1.epoch; omega, by show (firstC m).1.epoch ≤ _; omega, Int.le_refl _, Int.le_refl _⟩
end Go.Proofs.Ytpgenmflgdkfiaa
/- The laws: a command is done once; what is refused changes nothing. No conditions. -/
namespace Go.Proofs.Ytpgenmflgdkfiaa
open Go.Am
end Go.Proofs.Ytpgenmflgdkfiaa
/- Ledgers once more. No conditions. -/
namespace Go.Proofs.Ytpgenmflgdkfiaa
open Go.Am
end Go.Proofs.Ytpgenmflgdkfiaa
/- Law: ledgers alike. No conditions. -/
namespace Go.Proofs.Ytpgenmflgdkfiaa
open Go.Am
end Go.Proofs.Ytpgenmflgdkfiaa
/- Ledgers that no call made. No conditions. -/
namespace Go.Proofs.Ytpgenmflgdkfiaa
open Go.Am
end Go.Proofs.Ytpgenmflgdkfiaa
/- Law: ledgers that no call made. No conditions. -/
namespace Go.Proofs.Ytpgenmflgdkfiaa
open Go.Am
end Go.Proofs.Ytpgenmflgdkfiaa
/- The law of ledgers that no call made; its contract. No conditions. -/
namespace Go.Proofs.Ytpgenmflgdkfiaa
open Go.Am
end Go.Proofs.Ytpgenmflgdkfiaa
/- The law of ledgers that applied the same; its contract. No conditions. -/
namespace Go.Proofs.Ytpgenmflgdkfiaa
open Go.Am
end Go.Proofs.Ytpgenmflgdkfiaa
/- The program's ledger and the reference's go side by side. No conditions. -/
namespace Go.Proofs.Ytpgenmflgdkfiaa
open Go.Am
def hnC (c : Chain) : Prop := c.members.nil = true → c.members.D = []
theorem bySite_len : ∀ (l : List Member), (bySite l 0).length + (bySite l 1).length + (bySite l 2).length ≤ l.length
  | [] => by simp [bySite]
  | x :: l => by
    have ih := bySite_len l
    simp only [bySite, List.length_map, List.filter_cons, List.length_cons] at ih ⊢
    by_cases h0 : x.site = 0
    · have e0 : (x.site == ((0 : Nat) : Int)) = true := by simp; omega
      have e1 : (x.site == ((1 : Nat) : Int)) = false := by simp; omega
      have e2 : (x.site == ((2 : Nat) : Int)) = false := by simp; omega
      simp only [e0, e1, e2, if_true, Bool.false_eq_true, if_false, List.length_cons]; omega
    · by_cases h1 : x.site = 1
      · have e0 : (x.site == ((0 : Nat) : Int)) = false := by simp; omega
        have e1 : (x.site == ((1 : Nat) : Int)) = true := by simp; omega
        have e2 : (x.site == ((2 : Nat) : Int)) = false := by simp; omega
        simp only [e0, e1, e2, if_true, Bool.false_eq_true, if_false, List.length_cons]; omega
      · have e0 : (x.site == ((0 : Nat) : Int)) = false := by simp; omega
        have e1 : (x.site == ((1 : Nat) : Int)) = false := by simp; omega
        simp only [e0, e1, Bool.false_eq_true, if_false]
        split
        · rw [List.length_cons]; omega
        · omega
theorem rFirst_l1_eq (i : Nat) (kk : List Member → Chain × Int) : ∀ (xs : List Member) (j : Nat) (vc : List Member), rFirst_l1 i kk xs j vc = kk (vc ++ (xs.filter fun x => x.site == (i : Int)).map unf)
  | [], _, vc => by simp [rFirst_l1]
  | x :: xs, j, vc => by
    unfold rFirst_l1
    cases h : x.site == (i : Int)
    · simp [rFirst_l1_eq i kk xs, h]
    · simp [rFirst_l1_eq i kk xs, h, unf]
theorem rFirst_eq (l : Sl Member) : rFirst l = firstC l := by
  rw [firstC_eq]
  unfold rFirst rFirst_l0
  rw [rFirst_l1_eq]
  unfold rFirst_l0
  rw [rFirst_l1_eq]
  unfold rFirst_l0
  rw [rFirst_l1_eq]
  unfold rFirst_l0 finF
  rw [List.nil_append]
  show (bif decide (((bySite l.D 0 ++ bySite l.D 1 ++ bySite l.D 2).length : Int) < (l.D.length : Int)) then _ else bif rCheck (Chain.mk 1 (Sl.mk (bySite l.D 0 ++ bySite l.D 1 ++ bySite l.D 2).isEmpty (bySite l.D 0 ++ bySite l.D 1 ++ bySite l.D 2))) != 0 then _ else _) = _
  have hb := bySite_len l.D
  have hc : decide (((bySite l.D 0 ++ bySite l.D 1 ++ bySite l.D 2).length : Int) < (l.D.length : Int)) = (((bySite l.D 0 ++ bySite l.D 1 ++ bySite l.D 2).length : Int) != (l.D.length : Int)) := by
    simp only [List.length_append]
    rw [Bool.eq_iff_iff, decide_eq_true_eq, bne_iff_ne]
    constructor <;> intro h <;> omega
  rw [hc, ← check_eq]
  rfl
theorem bif_hn {b : Bool} {x y : Chain × Int} (hx : hnC x.1) (hy : hnC y.1) : hnC (bif b then x else y).1 := by cases b <;> assumption
theorem rCut_hn (c : Chain) (n s : Int) : hnC (rCut c n s).1 := by
  unfold rCut
  cases rCheck c != 0
  · cases c.epoch == 1099511627776
    · rw [cond_false, cond_false, rCut_l0_eq]
      unfold finC
      refine bif_hn (fun _ => rfl) (bif_hn (fun _ => rfl) ?_)
      intro h
      have h : (([] : List Member) ++ c.members.D.filter fun x => x.node != n && x.site != s).isEmpty = true := h
      show (([] : List Member) ++ c.members.D.filter fun x => x.node != n && x.site != s).dropWhile (·.fresh) = []
      rw [List.isEmpty_iff.1 h]; rfl
    · exact fun _ => rfl
  · exact fun _ => rfl
theorem rJoin_l0_hn (c : Chain) (m : Member) : ∀ (xs : List Member) (i : Nat) (put : Bool) (vc : List Member), hnC (rJoin_l0 c m xs i put vc).1
  | [], _, put, vc => by
    unfold rJoin_l0
    cases put
    · exact fun h => by cases h
    · exact fun h => List.isEmpty_iff.1 (show vc.isEmpty = true from h)
  | x :: xs, i, put, vc => by
    unfold rJoin_l0
    cases decide (x.site > m.site)
    · exact rJoin_l0_hn c m xs _ _ _
    · cases put
      · exact rJoin_l0_hn c m xs _ _ _
      · exact rJoin_l0_hn c m xs _ _ _
theorem rJoin_hn (c : Chain) (m : Member) : hnC (rJoin c m).1 := by
  unfold rJoin
  repeat' (first | exact fun _ => rfl | exact rJoin_l0_hn _ _ _ _ _ _ | (refine bif_hn ?_ ?_))
theorem rAgain_hn (c : Chain) (n : Int) : hnC (rAgain c n).1 := by
  unfold rAgain
  cases rCheck c != 0
  · cases decide (rPlace c n < 0)
    · cases c.epoch == 1099511627776
      · exact fun h => by cases h
      · exact fun _ => rfl
    · exact fun _ => rfl
  · exact fun _ => rfl
theorem rReady_hn (c : Chain) (n : Int) : hnC (rReady c n).1 := by
  unfold rReady
  cases rCheck c != 0
  · cases decide (rPlace c n < 0)
    · cases !(c.members.D[(rPlace c n).toNat]!.fresh)
      · rw [cond_false, cond_false, cond_false, rReady_l0_eq]
        exact fun h => List.isEmpty_iff.1 h
      · exact fun _ => rfl
    · exact fun _ => rfl
  · exact fun _ => rfl
theorem rNext_hn (c : Chain) (k : Command) : hnC (rNext c k).1 := by
  unfold rNext
  cases k.epoch != c.epoch
  · cases k.kind == 1
    · cases k.kind == 5
      · cases k.kind == 2
        · cases k.kind == 3
          · exact rReady_hn _ _
          · exact rAgain_hn _ _
        · exact rJoin_hn _ _
      · exact rCut_hn _ _ _
    · exact rCut_hn _ _ _
  · exact fun _ => rfl
theorem next_eq {c : Chain} (hn : hnC c) {k : Command} (hk : okC k) : eqP (nextL c k) (rNext c k) := by
  have h1 := drop_eq c k.node
  have h2 := dropSite_eq c k.site
  have h3 := join_eq c k.node k.site false
  have h4 := again_eq c hn k.node
  have h5 := ready_eq c k.node
  obtain ⟨_, hk⟩ := hk
  have n1 : (k.node == -1) = false := by simp; omega
  have n2 : (k.site == -1) = false := by simp; omega
  rw [n1, cond_false] at h1
  rw [n2, cond_false] at h2
  unfold nextL rNext
  cases k.epoch != c.epoch
  · cases k.kind == 1
    · cases k.kind == 5
      · cases k.kind == 2
        · cases k.kind == 3
          · exact ⟨h5.1, h5.2⟩
          · exact ⟨h4.1, h4.2⟩
        · exact ⟨h3.1, h3.2⟩
      · exact ⟨h2.1, h2.2⟩
    · exact ⟨h1.1, h1.2⟩
  · exact ⟨⟨rfl, rfl⟩, rfl⟩
/-- A step of a chain, by what becomes of its nodes. -/
structure Comes (c d : Chain) : Prop where
  chk : check d = 0
  ep : d.epoch = c.epoch + 1
  old : ∀ x ∈ d.members.D, x.fresh = false → x.node ∈ c.members.D.map (·.node)
  row : ((d.members.D.map (·.node)).filter fun n => (c.members.D.map (·.node)).contains n).Sublist (c.members.D.map (·.node))
  one : ∃ x ∈ d.members.D, x.node ∈ c.members.D.map (·.node)
end Go.Proofs.Ytpgenmflgdkfiaa
/- Steps of chains in plain Lean: what chapter 8 shows of them. No conditions. -/
namespace Go.Proofs.Ytpgenmflgdkfiaa
open Go.Am
def mBut (s : Int) (t : Int) : Int :=
  (bitI .andNot .u64 s t)
def isNaN (x : Int) : Bool :=
  (x != x)
def less (x : Int) (y : Int) : Bool :=
  (bif (isNaN x) then (bif (!(isNaN y)) then true else (decide (x < y))) else (decide (x < y)))
def whole_l0 : List Member → Nat → Int → Int
  | [], _, s => s
  | x :: xs, i, s => (bif (!x.fresh) then whole_l0 xs (i + 1) (mWith s x.node) else whole_l0 xs (i + 1) s)
def whole (c : Chain) : Int :=
  whole_l0 c.members.D 0 0
theorem whole_l0_eq : ∀ (l : List Member) (i S : Nat), S < 18446744073709551616 → whole_l0 l i (S : Int) = (bitsOf (fun x => !x.fresh) l S : Nat) ∧ bitsOf (fun x => !x.fresh) l S < 18446744073709551616
  | [], _, S, hS => ⟨rfl, hS⟩
  | x :: l, i, S, hS => by
    simp only [whole_l0]
    cases hf : x.fresh
    · have := whole_l0_eq l (i + 1) _ (with_cast_lt hS x.node)
      simp only [Bool.not_false, cond_true, with_cast hS, this.1]
      simp only [bitsOf, List.foldl_cons, hf, Bool.not_false, Bool.true_and] at this ⊢
      exact ⟨trivial, this.2⟩
    · have := whole_l0_eq l (i + 1) S hS
      simp only [Bool.not_true, cond_false, this.1]
      simp only [bitsOf, List.foldl_cons, hf, Bool.not_true, Bool.false_and] at this ⊢
      exact ⟨by simp, by simpa using this.2⟩
def rFollows_l0 (a : Chain) : List Member → Nat → Int → Bool
  | [], _, last => (decide (last ≥ 0))
  | x :: xs, i, last => (bif (!x.fresh) then (bif (decide ((rPlace a x.node) < 0)) then false else (bif a.members.D[(rPlace a x.node).toNat]!.fresh then false else (bif (decide ((rPlace a x.node) ≥ 0)) then (bif (decide ((rPlace a x.node) < last)) then false else rFollows_l0 a xs (i + 1) (rPlace a x.node)) else rFollows_l0 a xs (i + 1) last))) else (bif (decide ((rPlace a x.node) ≥ 0)) then (bif (decide ((rPlace a x.node) < last)) then false else rFollows_l0 a xs (i + 1) (rPlace a x.node)) else rFollows_l0 a xs (i + 1) last))
def rFollows (a : Chain) (b : Chain) : Bool :=
  (bif ((rCheck a) != 0) then false else (bif ((rCheck b) != 0) then false else (bif (decide (b.epoch ≤ a.epoch)) then false else rFollows_l0 a b.members.D 0 (-1))))
def isSorted_l0 (x : (Sl Int)) : Nat → Int → Bool
  | 0, _ => default
  | nn + 1, i => (bif (decide (i > 0)) then (bif (less (x.D[i.toNat]!) (x.D[(IntKind.i64.wrap (i - 1)).toNat]!)) then false else isSorted_l0 x nn (IntKind.i64.wrap (i - 1))) else true)
def isSorted (x : (Sl Int)) : Bool :=
  isSorted_l0 x ((IntKind.i64.wrap ((x.D.length : Int) - 1)).toNat + 1) (IntKind.i64.wrap ((x.D.length : Int) - 1))
def follows_l0 (a : Chain) : List Member → Nat → (List Int) → Bool
  | [], _, stay => (bif (isSorted (Sl.mk stay.isEmpty stay)) then (decide ((stay.length : Int) > 0)) else false)
  | x :: xs, i, stay => (bif (decide ((placeIn a x.node) ≥ 0)) then follows_l0 a xs (i + 1) (stay ++ [(placeIn a x.node)]) else follows_l0 a xs (i + 1) stay)
def follows (a : Chain) (b : Chain) : Bool :=
  (bif ((check a) != 0) then false else (bif ((check b) != 0) then false else (bif (decide (a.epoch ≥ b.epoch)) then false else (bif ((mBut (whole b) (whole a)) != 0) then false else follows_l0 a b.members.D 0 []))))
theorem unique_at (n : Int) : ∀ (l pre : List Member), okFrom pre l = true → (l.any fun y => y.node == n && !y.fresh) = (decide (0 ≤ rPlace_l0 n l pre.length) && !((pre ++ l)[(rPlace_l0 n l pre.length).toNat]!.fresh))
  | [], _, _ => by simp [rPlace_l0]
  | x :: l, pre, h => by
    have h' := h
    simp only [okFrom, Bool.and_eq_true] at h
    obtain ⟨_, h3⟩ := h
    cases hx : x.node == n
    · have ih := unique_at n l (pre ++ [x]) h3
      have hl : (pre ++ [x]).length = pre.length + 1 := by simp
      rw [hl] at ih
      simp only [List.any_cons, hx, Bool.false_and, Bool.false_or, rPlace_l0, cond_false, ih]
      simp
    · have hnone : (l.any fun y => y.node == n && !y.fresh) = false := by
        rw [Bool.eq_false_iff]
        intro he
        obtain ⟨y, hy, he⟩ := List.any_eq_true.1 he
        have := ok_apart l (pre ++ [x]) h3 y hy x (by simp)
        simp only [Bool.and_eq_true, beq_iff_eq] at he hx
        exact this (hx.trans he.1.symm)
      simp only [List.any_cons, hx, Bool.true_and, hnone, Bool.or_false, rPlace_l0, cond_true]
      simp
def goodNF (a : Chain) (x : Member) : Bool := x.fresh || (decide (0 ≤ rPlace a x.node) && !(a.members.D[(rPlace a x.node).toNat]!.fresh))
def asc (last : Int) : List Int → Bool
  | [] => true
  | p :: ps => !(decide (p < last)) && asc p ps
def stayOf (a : Chain) : List Member → List Int
  | [] => []
  | x :: l => if 0 ≤ rPlace a x.node then rPlace a x.node :: stayOf a l else stayOf a l
theorem rFollows_l0_eq (a : Chain) : ∀ (l : List Member) (i : Nat) (last : Int), rFollows_l0 a l i last = (l.all (goodNF a) && asc last (stayOf a l) && (decide (last ≥ 0) || !(stayOf a l).isEmpty))
  | [], _, last => by simp [rFollows_l0, stayOf, asc]
  | x :: l, i, last => by
    have h1 := rFollows_l0_eq a l (i + 1) last
    have h2 := rFollows_l0_eq a l (i + 1) (rPlace a x.node)
    simp only [rFollows_l0, List.all_cons, stayOf, goodNF]
    by_cases hp : 0 ≤ rPlace a x.node
    · have e1 : decide (rPlace a x.node < 0) = false := by simp; omega
      have e2 : decide (rPlace a x.node ≥ 0) = true := by simp; omega
      have e3 : decide (0 ≤ rPlace a x.node) = true := by simp; omega
      simp only [e1, e2, if_pos hp, asc, h2, Bool.true_and, cond_true, cond_false, List.isEmpty_cons, Bool.not_false, Bool.or_true, Bool.and_true, Bool.true_or]
      cases x.fresh <;> cases (a.members.D[(rPlace a x.node).toNat]!).fresh <;> cases decide (rPlace a x.node < last) <;> simp
    · have e1 : decide (rPlace a x.node < 0) = true := by simp; omega
      have e2 : decide (rPlace a x.node ≥ 0) = false := by simp; omega
      have e3 : decide (0 ≤ rPlace a x.node) = false := by simp; omega
      simp only [e1, e2, if_neg hp, h1, Bool.false_and, cond_true, cond_false, Bool.or_false]
      cases x.fresh <;> simp
theorem follows_l0_eq (a : Chain) (hp : ∀ n, placeIn a n = rPlace a n) : ∀ (l : List Member) (i : Nat) (stay : List Int), follows_l0 a l i stay = (isSorted ⟨(stay ++ stayOf a l).isEmpty, stay ++ stayOf a l⟩ && decide (((stay ++ stayOf a l).length : Int) > 0))
  | [], _, stay => by
    simp only [follows_l0, stayOf, List.append_nil]
    cases isSorted ⟨stay.isEmpty, stay⟩ <;> rfl
  | x :: l, i, stay => by
    show (bif decide (placeIn a x.node ≥ 0) then follows_l0 a l (i + 1) (stay ++ [placeIn a x.node]) else follows_l0 a l (i + 1) stay) = _
    rw [hp]
    by_cases h : 0 ≤ rPlace a x.node
    · have e2 : decide (rPlace a x.node ≥ 0) = true := by simp; omega
      have hs : stayOf a (x :: l) = rPlace a x.node :: stayOf a l := by simp [stayOf, h]
      rw [e2, hs, cond_true, follows_l0_eq a hp l, List.append_assoc, List.singleton_append]
    · have e2 : decide (rPlace a x.node ≥ 0) = false := by simp; omega
      have hs : stayOf a (x :: l) = stayOf a l := by simp [stayOf, h]
      rw [e2, hs, cond_false, follows_l0_eq a hp l]
theorem less_eq (x y : Int) : less x y = decide (x < y) := by unfold less isNaN; simp
theorem isSorted_l0_eq (x : Sl Int) : ∀ (i : Nat), i ≤ 1000000 → isSorted_l0 x (i + 1) (i : Int) = (List.range i).all fun j => !(decide (x.D[j + 1]! < x.D[j]!))
  | 0, _ => by simp [isSorted_l0]
  | i + 1, hi => by
    have ih := isSorted_l0_eq x i (by omega)
    have e1 : decide (((i + 1 : Nat) : Int) > 0) = true := by simp
    have e2 : IntKind.i64.wrap (((i + 1 : Nat) : Int) - 1) = (i : Int) := by rw [wrapI _ (by omega)]; omega
    rw [isSorted_l0, e1, e2, cond_true, less_eq, ih, List.range_succ, List.all_append]
    simp only [Int.toNat_natCast, List.all_cons, List.all_nil, Bool.and_true]
    cases decide (x.D[i + 1]! < x.D[i]!) <;> simp
theorem asc_eq : ∀ (ps : List Int) (p : Int), asc p ps = (List.range ps.length).all fun j => !(decide ((p :: ps)[j + 1]! < (p :: ps)[j]!))
  | [], _ => rfl
  | q :: ps, p => by
    rw [asc, asc_eq ps q, List.length_cons, List.range_succ_eq_map]
    rw [List.all_cons, List.all_map]
    rfl
theorem isSorted_eq (f : Bool) : ∀ (l : List Int), l.length ≤ 1000000 → isSorted ⟨f, l⟩ = match l with | [] => true | p :: ps => asc p ps
  | [], _ => by
    unfold isSorted
    have : IntKind.i64.wrap (((([] : List Int).length : Nat) : Int) - 1) = -1 := by rw [wrapI _ (by simp)]; rfl
    simp only [this]
    rfl
  | p :: ps, h => by
    unfold isSorted
    have : IntKind.i64.wrap ((((p :: ps).length : Nat) : Int) - 1) = (ps.length : Int) := by
      rw [wrapI _ (by simp only [List.length_cons] at h ⊢; omega)]; simp
    simp only [this, Int.toNat_natCast]
    rw [isSorted_l0_eq _ _ (by simp only [List.length_cons] at h; omega), asc_eq]
theorem stay_len (a : Chain) : ∀ (l : List Member), (stayOf a l).length ≤ l.length
  | [] => Nat.le_refl _
  | x :: l => by
    have := stay_len a l
    simp only [stayOf, List.length_cons]
    split
    · simp only [List.length_cons]; omega
    · omega
theorem stay_pos (a : Chain) : ∀ (l : List Member), ∀ p ∈ stayOf a l, 0 ≤ p
  | [], p, hp => by cases hp
  | x :: l, p, hp => by
    simp only [stayOf] at hp
    split at hp
    · cases hp with
      | head => assumption
      | tail _ hm => exact stay_pos a l p hm
    · exact stay_pos a l p hp
theorem but_zero {s t : Nat} (_ : s < 18446744073709551616) (_ : t < 18446744073709551616) : mBut (s : Int) (t : Int) = 0 ↔ ∀ n, n < 64 → s.testBit n = true → t.testBit n = true := by
  have e1 : mBut (s : Int) (t : Int) = (((BitVec.ofNat 64 s &&& ~~~ BitVec.ofNat 64 t : BitVec 64).toNat : Nat) : Int) := by
    show IntKind.u64.wrap (((BitVec.ofInt 64 (s : Int) &&& ~~~ BitVec.ofInt 64 (t : Int) : BitVec 64).toNat : Nat) : Int) = _
    rw [BitVec.ofInt_natCast, BitVec.ofInt_natCast, wrap64]
    have := (BitVec.ofNat 64 s &&& ~~~ BitVec.ofNat 64 t : BitVec 64).isLt
    have h' : (2 : Nat) ^ 64 = 18446744073709551616 := by decide
    omega
  rw [e1]
  constructor
  · intro h n hn hsn
    have h0 : (BitVec.ofNat 64 s &&& ~~~ BitVec.ofNat 64 t : BitVec 64) = 0#64 := BitVec.eq_of_toNat_eq (by simpa using h)
    have := congrArg (fun v => v.getLsbD n) h0
    simp only [BitVec.getLsbD_and, BitVec.getLsbD_not, BitVec.getLsbD_ofNat, hn, decide_true, Bool.true_and, hsn] at this
    cases ht' : t.testBit n
    · rw [ht'] at this; simp at this
    · rfl
  · intro h
    have h0 : (BitVec.ofNat 64 s &&& ~~~ BitVec.ofNat 64 t : BitVec 64) = 0#64 := by
      apply BitVec.eq_of_getLsbD_eq
      intro n hn
      simp only [BitVec.getLsbD_and, BitVec.getLsbD_not, BitVec.getLsbD_ofNat, hn, decide_true, Bool.true_and]
      cases hs' : s.testBit n
      · simp
      · rw [h n hn hs']; simp
    rw [h0]; rfl
theorem follows_eq (a b : Chain) : follows a b = rFollows a b := by
  unfold follows rFollows
  rw [← check_eq, ← check_eq]
  cases ha : check a != 0
  case true => rfl
  cases hb : check b != 0
  case true => rfl
  have ha := eq_of_bne_false ha
  have hb := eq_of_bne_false hb
  simp only [cond_false]
  rw [show decide (a.epoch ≥ b.epoch) = decide (b.epoch ≤ a.epoch) from rfl]
  cases he : decide (b.epoch ≤ a.epoch)
  case true => rfl
  simp only [cond_false]
  have hp : ∀ n, placeIn a n = rPlace a n := fun n => by
    rw [← place_eq]; unfold place0; rw [ha]; rfl
  have hl := stay_len a b.members.D
  have hb6 := check_le6 hb
  rw [rFollows_l0_eq, follows_l0_eq a hp, List.nil_append, isSorted_eq _ _ (by omega)]
  obtain ⟨b1, b2⟩ := whole_l0_eq b.members.D 0 0 (by decide)
  obtain ⟨a1, a2⟩ := whole_l0_eq a.members.D 0 0 (by decide)
  have hoka := ok_of_check ha
  have hokb := ok_of_check hb
  have hgood : ∀ x ∈ b.members.D, goodNF a x = (x.fresh || a.members.D.any fun y => y.node == x.node && !y.fresh) := fun x _ => by
    have := unique_at x.node a.members.D [] hoka
    simp only [List.length_nil, List.nil_append] at this
    have hr : rPlace a x.node = rPlace_l0 x.node a.members.D 0 := by unfold rPlace; rw [← check_eq, ha]; rfl
    rw [goodNF, hr, this]
  have hbut : (mBut (whole b) (whole a) != 0) = !(b.members.D.all (goodNF a)) := by
    have e : mBut (whole b) (whole a) = 0 ↔ b.members.D.all (goodNF a) = true := by
      unfold whole
      rw [show (0 : Int) = ((0 : Nat) : Int) from rfl, b1, a1]
      rw [show ((0 : Nat) : Int) = (0 : Int) from rfl, but_zero b2 a2, List.all_eq_true]
      constructor
      · intro h x hx
        rw [hgood x hx]
        cases hf : x.fresh
        · obtain ⟨m1, m2, _, _⟩ := (member_iff x).1 (ok_member _ _ hokb x hx)
          obtain ⟨k, hk⟩ : ∃ k : Nat, x.node = (k : Int) := ⟨x.node.toNat, by omega⟩
          have := h k (by omega) (by
            rw [bits_test _ (by omega)]
            have : (b.members.D.any fun y => y.node == (k : Int) && !y.fresh) = true := List.any_eq_true.2 ⟨x, hx, by simp [hk, hf]⟩
            rw [this]; simp)
          rw [bits_test _ (by omega)] at this
          simpa [hk] using this
        · rfl
      · intro h n hn hbn
        rw [bits_test _ hn] at hbn ⊢
        have hbn : (b.members.D.any fun y => y.node == (n : Int) && !y.fresh) = true := by simpa using hbn
        obtain ⟨x, hx, hxx⟩ := List.any_eq_true.1 hbn
        simp only [Bool.and_eq_true, beq_iff_eq, Bool.not_eq_true'] at hxx
        have := h x hx
        rw [hgood x hx, hxx.2, hxx.1] at this
        simp only [Bool.false_or] at this
        rw [this]; simp
    cases hall : b.members.D.all (goodNF a)
    · rw [hall] at e
      have : mBut (whole b) (whole a) ≠ 0 := fun h => by have := e.1 h; cases this
      simp [this]
    · rw [hall] at e
      rw [e.2 rfl]; rfl
  rw [hbut]
  cases hall : b.members.D.all (goodNF a)
  · rfl
  · simp only [Bool.not_true, cond_false, Bool.true_and]
    cases hst : stayOf a b.members.D with
    | nil => simp
    | cons p ps =>
      have hp0 : 0 ≤ p := stay_pos a b.members.D p (by rw [hst]; exact List.mem_cons_self ..)
      have e1 : decide (p < -1) = false := by simp; omega
      simp [asc, e1]
theorem popcount : ∀ S : Nat, S < 64 → mLen (S : Int) = (((S.testBit 0).toNat + (S.testBit 1).toNat + (S.testBit 2).toNat + (S.testBit 3).toNat + (S.testBit 4).toNat + (S.testBit 5).toNat : Nat) : Int) := by
  have h : ∀ S : Fin 64, mLen ((S : Nat) : Int) = ((((S : Nat).testBit 0).toNat + ((S : Nat).testBit 1).toNat + ((S : Nat).testBit 2).toNat + ((S : Nat).testBit 3).toNat + ((S : Nat).testBit 4).toNat + ((S : Nat).testBit 5).toNat : Nat) : Int) := of_decide_eq_true (by kernel_rfl)
  exact fun S hS => h ⟨S, hS⟩
theorem asc_of_sub {c : Chain} (hc : check c = 0) {l s : List Member} (h : l.Sublist s) : ∀ (j : Nat) (last : Int), s = c.members.D.drop j → last ≤ (j : Int) → asc last (stayOf c l) = true := by
  induction h with
  | slnil => exact fun _ _ _ _ => rfl
  | cons x h ih =>
    intro j last hs hl
    have hj : j < c.members.D.length := by
      rcases Nat.lt_or_ge j c.members.D.length with h | h
      · exact h
      · rw [List.drop_eq_nil_of_le h] at hs; cases hs
    rw [List.drop_eq_getElem_cons hj] at hs
    injection hs with _ hs
    exact ih (j + 1) last hs (by omega)
  | cons_cons x h ih =>
    intro j last hs hl
    have hj : j < c.members.D.length := by
      rcases Nat.lt_or_ge j c.members.D.length with h | h
      · exact h
      · rw [List.drop_eq_nil_of_le h] at hs; cases hs
    rw [List.drop_eq_getElem_cons hj] at hs
    injection hs with hx hs
    have hp := place_at hc hj
    rw [getElem!_pos _ j hj, ← hx, place_eq] at hp
    have h0 : (0 : Int) ≤ rPlace c x.node := by omega
    rw [stayOf, if_pos h0, asc, hp, ih (j + 1) (j : Int) hs (by omega)]
    have : decide ((j : Int) < last) = false := by simp; omega
    rw [this]; rfl
theorem stay_append (c : Chain) : ∀ (l m : List Member), stayOf c (l ++ m) = stayOf c l ++ stayOf c m
  | [], _ => rfl
  | x :: l, m => by
    simp only [List.cons_append, stayOf, stay_append c l m]
    split <;> simp
theorem stay_ne {c : Chain} (hc : check c = 0) {x : Member} (hx : x ∈ c.members.D) : ∀ (l : List Member), x ∈ l → stayOf c l ≠ []
  | [], h => by cases h
  | y :: l, h => by
    cases h with
    | head =>
      obtain ⟨j, hj, e⟩ := List.getElem_of_mem hx
      have hp := place_at hc hj
      rw [getElem!_pos _ j hj, e, place_eq] at hp
      have h0 : (0 : Int) ≤ rPlace c x.node := by omega
      rw [stayOf, if_pos h0]; simp
    | tail _ h =>
      have := stay_ne hc hx l h
      rw [stayOf]
      split
      · simp
      · exact this
theorem follows_of {c d : Chain} (hc : check c = 0) (hd : check d = 0) (he : c.epoch < d.epoch) (hw : ∀ x ∈ d.members.D, x.fresh = false → x ∈ c.members.D) {l : List Member} (hs : stayOf c d.members.D = stayOf c l) (hl : l.Sublist c.members.D) (hne : ∃ x ∈ d.members.D, x ∈ c.members.D) : follows c d = true := by
  rw [follows_eq]
  unfold rFollows
  rw [← check_eq, ← check_eq, hc, hd]
  have e1 : decide (d.epoch ≤ c.epoch) = false := by simp; omega
  rw [e1, rFollows_l0_eq, hs, asc_of_sub hc hl 0 (-1) rfl (by omega)]
  obtain ⟨x, hx, hxc⟩ := hne
  have h1 := stay_ne hc hxc _ hx
  rw [hs] at h1
  have h2 : (stayOf c l).isEmpty = false := by
    cases h : stayOf c l
    · exact absurd h h1
    · rfl
  have h3 : d.members.D.all (goodNF c) = true := List.all_eq_true.2 fun y hy => by
    unfold goodNF
    cases hf : y.fresh
    · have hyc := hw y hy hf
      obtain ⟨j, hj, e⟩ := List.getElem_of_mem hyc
      have hp := place_at hc hj
      rw [getElem!_pos _ j hj, e, place_eq] at hp
      rw [hp, Int.toNat_natCast, getElem!_pos _ j hj, e, hf]
      simp
    · rfl
  rw [h2, h3]; simp
/-- What a change that was done gives. -/
def Next (c d : Chain) : Prop := check d = 0 ∧ d.epoch = c.epoch + 1 ∧ follows c d = true
theorem sub_next {c : Chain} (hc : check c = 0) (he : ¬ c.epoch ≥ 1099511627776) {l : List Member} (hl : l.Sublist c.members.D) (hne : l ≠ []) (hf : l[0]!.fresh = false) (f : Bool) : Next c (Chain.mk (IntKind.i64.wrap (c.epoch + 1)) (Sl.mk f l)) := by
  obtain ⟨⟨e1, e2⟩, _, _, hm, hp⟩ := (check_iff c).1 hc
  have hw := wrap_epoch hc
  have hd : check (Chain.mk (IntKind.i64.wrap (c.epoch + 1)) (Sl.mk f l)) = 0 := (check_iff _).2 ⟨by rw [hw]; exact ⟨(by omega : 1 ≤ c.epoch + 1), (by omega : c.epoch + 1 ≤ 1099511627776)⟩, hne, hf, fun x hx => hm x (hl.subset hx), hp.sublist hl⟩
  refine ⟨hd, hw, follows_of hc hd (by show _ < IntKind.i64.wrap _; rw [hw]; omega) (fun x hx _ => hl.subset hx) rfl hl ?_⟩
  cases l with
  | nil => exact absurd rfl hne
  | cons x l => exact ⟨x, List.mem_cons_self .., hl.subset (List.mem_cons_self ..)⟩
theorem without_next {c : Chain} (hc : check c = 0) (gone : Int) : ((without c gone).2 = 0 → Next c (without c gone).1) ∧ ((without c gone).2 ≠ 0 → (without c gone).1.members.D = []) := by
  rw [without_eq]
  have hs : ((c.members.D.filter fun x => !mHas gone x.node).dropWhile (·.fresh)).Sublist c.members.D := (List.dropWhile_sublist _).trans List.filter_sublist
  have hh := drop_head (l := c.members.D.filter fun x => !mHas gone x.node)
  revert hs hh
  generalize ((c.members.D.filter fun x => !mHas gone x.node).dropWhile (·.fresh)) = l
  intro hs hh
  unfold finW
  cases h1 : decide (c.epoch ≥ 1099511627776)
  case true => exact ⟨fun h => (by cases h), fun _ => rfl⟩
  cases h2 : ((l.length : Int) == (c.members.D.length : Int))
  case true => exact ⟨fun h => (by cases h), fun _ => rfl⟩
  cases h3 : ((l.length : Int) == 0)
  case true => exact ⟨fun h => (by cases h), fun _ => rfl⟩
  have hne : l ≠ [] := fun e => by rw [e] at h3; cases h3
  exact ⟨fun _ => sub_next hc (of_decide_eq_false h1) hs hne (hh hne) _, fun h => absurd rfl h⟩
theorem drop_next {c : Chain} (hc : check c = 0) (n : Int) : ((drop c n).2 = 0 → Next c (drop c n).1) ∧ ((drop c n).2 ≠ 0 → (drop c n).1.members.D = []) := by
  unfold drop; rw [hc]; exact without_next hc _
theorem dropSite_next {c : Chain} (hc : check c = 0) (s : Int) : ((dropSite c s).2 = 0 → Next c (dropSite c s).1) ∧ ((dropSite c s).2 ≠ 0 → (dropSite c s).1.members.D = []) := by
  unfold dropSite; rw [hc]
  have := (dropSite_l0_eq c s c.members.D 0 0 (by decide)).1
  rw [show ((0 : Nat) : Int) = 0 from rfl] at this
  show ((dropSite_l0 c s c.members.D 0 0).2 = 0 → Next c (dropSite_l0 c s c.members.D 0 0).1) ∧ _
  rw [this]
  exact without_next hc _
theorem again_next {c : Chain} (hn : c.members.nil = true → c.members.D = []) (hc : check c = 0) (n : Int) : ((again c n).2 = 0 → Next c (again c n).1) ∧ ((again c n).2 ≠ 0 → (again c n).1.members.D = []) := by
  unfold again; rw [hc]
  show ((bif decide (placeIn c n < 0) then _ else _ : Chain × Int).2 = 0 → _) ∧ _
  cases decide (placeIn c n < 0)
  case true => exact ⟨fun h => (by cases h), fun _ => rfl⟩
  cases h1 : decide (c.epoch ≥ 1099511627776)
  case true => exact ⟨fun h => (by cases h), fun _ => rfl⟩
  obtain ⟨_, hne, hf, _⟩ := (check_iff c).1 hc
  rw [clone_eq hn]
  exact ⟨fun _ => sub_next hc (of_decide_eq_false h1) (List.Sublist.refl _) hne hf _, fun h => absurd rfl h⟩
theorem join_next {c : Chain} (hc : check c = 0) (n s : Int) (f : Bool) : ((join c ⟨n, s, f⟩).2 = 0 → Next c (join c ⟨n, s, f⟩).1) ∧ ((join c ⟨n, s, f⟩).2 ≠ 0 → (join c ⟨n, s, f⟩).1.members.D = []) := by
  have hl := check_le6 hc
  obtain ⟨⟨e1, e2⟩, hne, hf, hmm, hpp⟩ := (check_iff c).1 hc
  have hp : placeIn c n = rPlace c n := by rw [← place_eq]; unfold place0; rw [hc]; rfl
  unfold join
  rw [hc, hp]
  show ((bif !member ⟨n, s, true⟩ then _ else _ : Chain × Int).2 = 0 → _) ∧ _
  cases hm : member ⟨n, s, true⟩
  case false => exact ⟨fun h => (by cases h), fun _ => rfl⟩
  cases h1 : decide (rPlace c n ≥ 0)
  case true => exact ⟨fun h => (by cases h), fun _ => rfl⟩
  cases h2 : decide (c.epoch ≥ 1099511627776)
  case true => exact ⟨fun h => (by cases h), fun _ => rfl⟩
  have hj := join_l0_eq c ⟨n, s, f⟩ (by omega) (c.members.D.length - (0 : Int).toNat + 1) 0 (by omega) (by simp)
  rw [show ((0 : Nat) : Int) = 0 from rfl] at hj
  show ((join_l0 c ⟨n, s, f⟩ (c.members.D.length - (0 : Int).toNat + 1) 0).2 = 0 → Next c (join_l0 c ⟨n, s, f⟩ (c.members.D.length - (0 : Int).toNat + 1) 0).1) ∧ ((join_l0 c ⟨n, s, f⟩ (c.members.D.length - (0 : Int).toNat + 1) 0).2 ≠ 0 → (join_l0 c ⟨n, s, f⟩ (c.members.D.length - (0 : Int).toNat + 1) 0).1.members.D = [])
  rw [hj]
  simp only [List.drop_zero, Nat.zero_add]
  cases h3 : ((c.members.D.takeWhile fun x => decide (x.site ≤ s)).length == 0)
  case true => exact ⟨fun h => (by cases h), fun _ => rfl⟩
  refine ⟨fun _ => ?_, fun h => absurd rfl h⟩
  have hnone := place_none hc (n := n) (by have := of_decide_eq_false h1; omega)
  have hw := wrap_epoch hc
  have he := of_decide_eq_false h2
  -- the members
  have hD : insertL c.members.D (c.members.D.takeWhile fun x => decide (x.site ≤ s)).length [Member.mk n s true] = (c.members.D.takeWhile fun x => decide (x.site ≤ s)) ++ Member.mk n s true :: (c.members.D.dropWhile fun x => decide (x.site ≤ s)) := by
    unfold insertL
    have ht : c.members.D.take (c.members.D.takeWhile fun x => decide (x.site ≤ s)).length = c.members.D.takeWhile fun x => decide (x.site ≤ s) := by
      conv => lhs; rhs; rw [← List.takeWhile_append_dropWhile (p := fun x : Member => decide (x.site ≤ s)) (l := c.members.D)]
      exact List.take_left' rfl
    have hdd : c.members.D.drop (c.members.D.takeWhile fun x => decide (x.site ≤ s)).length = c.members.D.dropWhile fun x => decide (x.site ≤ s) := by
      conv => lhs; rhs; rw [← List.takeWhile_append_dropWhile (p := fun x : Member => decide (x.site ≤ s)) (l := c.members.D)]
      exact List.drop_left' rfl
    rw [ht, hdd]; simp
  have hcat := List.takeWhile_append_dropWhile (p := fun x : Member => decide (x.site ≤ s)) (l := c.members.D)
  have hT := takeWhile_true (fun x : Member => decide (x.site ≤ s)) c.members.D
  have hDW := dropWhile_sites s c.members.D hpp
  have hsp := fun x => mem_split (c := c) (fun x : Member => decide (x.site ≤ s)) (x := x)
  show Next c (after c (Sl.mk false (insertL c.members.D _ [Member.mk n s true])))
  rw [hD]
  revert h3 hcat hT hDW hsp
  generalize (c.members.D.takeWhile fun x => decide (x.site ≤ s)) = A
  generalize (c.members.D.dropWhile fun x => decide (x.site ≤ s)) = B
  intro h3 hcat hT hDW hsp
  have hAB := hpp
  rw [← hcat, List.pairwise_append] at hAB
  obtain ⟨pA, pB, pAB⟩ := hAB
  have hd : check (after c (Sl.mk false (A ++ Member.mk n s true :: B))) = 0 := by
    refine (check_iff _).2 ⟨?_, ?_, ?_, ?_, ?_⟩
    · show 1 ≤ IntKind.i64.wrap (c.epoch + 1) ∧ IntKind.i64.wrap (c.epoch + 1) ≤ _
      rw [hw]; omega
    · show A ++ _ ≠ []; simp
    · cases A with
      | nil => cases h3
      | cons a A =>
        rw [← hcat] at hf
        exact hf
    · intro x hx
      rcases List.mem_append.1 hx with hx | hx
      · exact hmm x (hsp x (.inl hx))
      · cases hx with
        | head => exact hm
        | tail _ hx => exact hmm x (hsp x (.inr hx))
    · refine List.pairwise_append.2 ⟨pA, List.pairwise_cons.2 ⟨fun b hb => ⟨fun e => hnone b (hsp b (.inr hb)) e.symm, hDW b hb⟩, pB⟩, fun a ha b hb => ?_⟩
      cases hb with
      | head => exact ⟨fun e => hnone a (hsp a (.inl ha)) e, of_decide_eq_true (hT a ha)⟩
      | tail _ hb => exact pAB a ha b hb
  refine ⟨hd, hw, follows_of hc hd (by show _ < IntKind.i64.wrap _; rw [hw]; omega) (fun x hx hxf => ?_) (l := A ++ B) ?_ ?_ ?_⟩
  · rcases List.mem_append.1 hx with hx | hx
    · exact hsp x (.inl hx)
    · cases hx with
      | head => cases hxf
      | tail _ hx => exact hsp x (.inr hx)
  · show stayOf c (A ++ Member.mk n s true :: B) = _
    rw [stay_append, stay_append]
    congr 1
    have : ¬ 0 ≤ rPlace c n := by have := of_decide_eq_false h1; omega
    rw [stayOf, if_neg this]
  · rw [hcat]; exact List.Sublist.refl _
  · cases A with
    | nil => cases h3
    | cons a A => exact ⟨a, List.mem_append.2 (.inl (List.mem_cons_self ..)), hsp a (.inl (List.mem_cons_self ..))⟩
def IsReady (c d : Chain) : Prop := check d = 0 ∧ d.epoch = c.epoch ∧ nodes d = nodes c ∧ mLen (mBut (whole d) (whole c)) = 1
theorem mBut_nat {s t : Nat} : mBut (s : Int) (t : Int) = (((BitVec.ofNat 64 s &&& ~~~ BitVec.ofNat 64 t : BitVec 64).toNat : Nat) : Int) := by
  show IntKind.u64.wrap (((BitVec.ofInt 64 (s : Int) &&& ~~~ BitVec.ofInt 64 (t : Int) : BitVec 64).toNat : Nat) : Int) = _
  rw [BitVec.ofInt_natCast, BitVec.ofInt_natCast, wrap64]
  have := (BitVec.ofNat 64 s &&& ~~~ BitVec.ofNat 64 t : BitVec 64).isLt
  have h' : (2 : Nat) ^ 64 = 18446744073709551616 := by decide
  omega
theorem but_one {s t n : Nat} (hn : n < 64) (h : ∀ k, k < 64 → (s.testBit k && !t.testBit k) = decide (n = k)) : mBut (s : Int) (t : Int) = ((2 ^ n : Nat) : Int) := by
  rw [mBut_nat]
  have : (BitVec.ofNat 64 s &&& ~~~ BitVec.ofNat 64 t : BitVec 64) = BitVec.ofNat 64 (2 ^ n) := by
    apply BitVec.eq_of_getLsbD_eq
    intro k hk
    simp only [BitVec.getLsbD_and, BitVec.getLsbD_not, BitVec.getLsbD_ofNat, hk, decide_true, Bool.true_and]
    rw [h k hk, Nat.testBit_two_pow]
  rw [this, BitVec.toNat_ofNat, Nat.mod_eq_of_lt (Nat.pow_lt_pow_right (by decide) hn)]
theorem ready_is {c : Chain} (hc : check c = 0) (n : Int) : ((ready c n).2 = 0 → IsReady c (ready c n).1) ∧ ((ready c n).2 ≠ 0 → (ready c n).1.members.D = []) := by
  obtain ⟨⟨e1, e2⟩, hne, hf, hmm, hpp⟩ := (check_iff c).1 hc
  have hp : placeIn c n = rPlace c n := by rw [← place_eq]; unfold place0; rw [hc]; rfl
  unfold ready
  rw [hc, hp]
  show ((bif decide (rPlace c n < 0) then _ else _ : Chain × Int).2 = 0 → _) ∧ _
  cases h1 : decide (rPlace c n < 0)
  case true => exact ⟨fun h => (by cases h), fun _ => rfl⟩
  have h1 := of_decide_eq_false h1
  have hlt := (rPlace_lt c n).1
  obtain ⟨p, hpn⟩ : ∃ p : Nat, rPlace c n = (p : Int) := ⟨(rPlace c n).toNat, by omega⟩
  rw [hpn, Int.toNat_natCast]
  have hpl : p < c.members.D.length := by omega
  cases h2 : (c.members.D[p]!).fresh
  case false => exact ⟨fun h => (by cases h), fun _ => rfl⟩
  refine ⟨fun _ => ?_, fun h => absurd rfl h⟩
  show IsReady c (Chain.mk c.epoch (Sl.mk false (c.members.D.set p (Member.mk (c.members.D[p]!.node) (c.members.D[p]!.site) false))))
  have hg : c.members.D[p]! = c.members.D[p] := getElem!_pos _ p hpl
  rw [hg] at h2 ⊢
  generalize hy : Member.mk (c.members.D[p].node) (c.members.D[p].site) false = y
  have yn : y.node = c.members.D[p].node := by rw [← hy]
  have ys : y.site = c.members.D[p].site := by rw [← hy]
  have yf : y.fresh = false := by rw [← hy]
  have mapN := set_map (fun m => m.node) hpl (y := y) yn
  have mapNS := set_map (fun m => (m.node, m.site)) hpl (y := y) (by rw [yn, ys])
  have hmem : ∀ x ∈ c.members.D.set p y, ∃ z ∈ c.members.D, z.node = x.node ∧ z.site = x.site := fun x hx => by
    have : (x.node, x.site) ∈ (c.members.D.set p y).map (fun m => (m.node, m.site)) := List.mem_map.2 ⟨x, hx, rfl⟩
    rw [mapNS] at this
    obtain ⟨z, hz, e⟩ := List.mem_map.1 this
    injection e with e1 e2
    exact ⟨z, hz, e1, e2⟩
  have hd : check (Chain.mk c.epoch (Sl.mk false (c.members.D.set p y))) = 0 := by
    refine (check_iff _).2 ⟨⟨e1, e2⟩, ?_, ?_, ?_, ?_⟩
    · intro e
      have : (c.members.D.set p y).length = 0 := by
        have e : c.members.D.set p y = [] := e
        rw [e]; rfl
      rw [List.length_set] at this
      omega
    · show (c.members.D.set p y)[0]!.fresh = false
      have hl0 : 0 < c.members.D.length := by omega
      rw [getElem!_pos _ 0 (by rw [List.length_set]; exact hl0), List.getElem_set]
      rw [getElem!_pos _ 0 hl0] at hf
      split
      · exact yf
      · exact hf
    · intro x hx
      obtain ⟨z, hz, e3, e4⟩ := hmem x hx
      have := (member_iff z).1 (hmm z hz)
      exact (member_iff x).2 (by omega)
    · have h3 : (c.members.D.map (fun m => (m.node, m.site))).Pairwise (fun a b => a.1 ≠ b.1 ∧ a.2 ≤ b.2) := List.pairwise_map.2 hpp
      rw [← mapNS, List.pairwise_map] at h3
      exact h3
  refine ⟨hd, rfl, nodes_map _ _ 0 0 0 mapN, ?_⟩
  obtain ⟨m1, m2, _, _⟩ := (member_iff _).1 (hmm _ (List.getElem_mem hpl))
  obtain ⟨k, hk⟩ : ∃ k : Nat, c.members.D[p].node = (k : Int) := ⟨c.members.D[p].node.toNat, by omega⟩
  obtain ⟨w1, w2⟩ := whole_l0_eq c.members.D 0 0 (by decide)
  obtain ⟨v1, v2⟩ := whole_l0_eq (c.members.D.set p y) 0 0 (by decide)
  have hw : whole c = ((bitsOf (fun x => !x.fresh) c.members.D 0 : Nat) : Int) := w1
  have hv : whole (Chain.mk c.epoch (Sl.mk false (c.members.D.set p y))) = ((bitsOf (fun x => !x.fresh) (c.members.D.set p y) 0 : Nat) : Int) := v1
  rw [hw, hv, but_one (n := k) (by omega) fun j hj => ?_, popcount (2 ^ k) (by
    have : 2 ^ k ≤ 2 ^ 5 := Nat.pow_le_pow_right (by decide) (by omega)
    omega)]
  · rcases (by omega : k = 0 ∨ k = 1 ∨ k = 2 ∨ k = 3 ∨ k = 4 ∨ k = 5) with rfl | rfl | rfl | rfl | rfl | rfl <;> rfl
  · rw [bits_test _ hj, bits_test _ hj]
    simp only [Nat.zero_testBit, Bool.false_or]
    by_cases hkj : k = j
    · subst hkj
      have t1 : ((c.members.D.set p y).any fun x => x.node == (k : Int) && !x.fresh) = true := by
        refine List.any_eq_true.2 ⟨y, ?_, by rw [yn, hk, yf]; simp⟩
        exact List.mem_set hpl y
      have t2 : (c.members.D.any fun x => x.node == (k : Int) && !x.fresh) = false := by
        rw [Bool.eq_false_iff]
        intro h
        obtain ⟨x, hx, hxx⟩ := List.any_eq_true.1 h
        simp only [Bool.and_eq_true, beq_iff_eq, Bool.not_eq_true'] at hxx
        have := ok_inj _ _ (ok_of_check hc) x hx _ (List.getElem_mem hpl) (by rw [hxx.1, hk])
        rw [this, h2] at hxx
        cases hxx.2
      rw [t1, t2]; simp
    · have : ((c.members.D.set p y).any fun x => x.node == (j : Int) && !x.fresh) = (c.members.D.any fun x => x.node == (j : Int) && !x.fresh) := by
        rw [Bool.eq_iff_iff, List.any_eq_true, List.any_eq_true]
        constructor
        · rintro ⟨x, hx, hxx⟩
          rcases List.mem_or_eq_of_mem_set hx with hx | rfl
          · exact ⟨x, hx, hxx⟩
          · simp only [Bool.and_eq_true, beq_iff_eq, yn, hk] at hxx
            omega
        · rintro ⟨x, hx, hxx⟩
          obtain ⟨i, hi, e⟩ := List.getElem_of_mem hx
          refine ⟨x, ?_, hxx⟩
          have hip : p ≠ i := by
            rintro rfl
            rw [e] at hk
            simp only [Bool.and_eq_true, beq_iff_eq] at hxx
            omega
          have : (c.members.D.set p y)[i]'(by rw [List.length_set]; exact hi) = x := by rw [List.getElem_set, if_neg hip, e]
          rw [← this]
          exact List.getElem_mem _
      rw [this]
      have e : decide (k = j) = false := decide_eq_false hkj
      rw [e]
      cases (c.members.D.any fun x => x.node == (j : Int) && !x.fresh) <;> rfl
end Go.Proofs.Ytpgenmflgdkfiaa
/- The ledger behind calls: its chains may be, and come of one another; the reference's ledger is its twin. No conditions. -/
namespace Go.Proofs.Ytpgenmflgdkfiaa
open Go.Am
theorem finW_some {c : Chain} {l : List Member} (h : (finW c l).2 = 0) : (finW c l).1.members.D = l ∧ l ≠ [] := by
  unfold finW at h ⊢
  cases h1 : decide (c.epoch ≥ 1099511627776)
  · rw [h1, cond_false] at h
    rw [cond_false]
    cases h2 : ((l.length : Int) == (c.members.D.length : Int))
    · rw [h2, cond_false] at h
      rw [cond_false]
      cases h3 : ((l.length : Int) == 0)
      · refine ⟨rfl, fun e => ?_⟩
        rw [e] at h3; simp at h3
      · rw [h3] at h; cases h
    · rw [h2] at h; cases h
  · rw [h1] at h; cases h
theorem comes_sub {c d : Chain} (hd : check d = 0) (he : d.epoch = c.epoch + 1) {l : List Member} (hl : l.Sublist c.members.D) (hD : d.members.D = l) (hne : l ≠ []) : Comes c d where
  chk := hd
  ep := he
  old := fun x hx _ => List.mem_map.2 ⟨x, hl.subset (hD ▸ hx), rfl⟩
  row := by rw [hD]; exact List.filter_sublist.trans (hl.map _)
  one := by
    obtain ⟨x, hx⟩ := List.exists_mem_of_ne_nil l hne
    exact ⟨x, hD ▸ hx, List.mem_map.2 ⟨x, hl.subset hx, rfl⟩⟩
theorem comes_drop {c : Chain} (hc : check c = 0) {n : Int} (h : (drop c n).2 = 0) : Comes c (drop c n).1 := by
  obtain ⟨q1, q2, _⟩ := (drop_next hc n).1 h
  rw [drop_form hc] at h
  obtain ⟨e1, e2⟩ := finW_some h
  rw [← drop_form hc] at e1
  exact comes_sub q1 q2 ((List.dropWhile_sublist _).trans List.filter_sublist) e1 e2
theorem comes_dropSite {c : Chain} (hc : check c = 0) {s : Int} (h : (dropSite c s).2 = 0) : Comes c (dropSite c s).1 := by
  obtain ⟨q1, q2, _⟩ := (dropSite_next hc s).1 h
  have e0 : ∃ g, dropSite c s = without c g := by
    unfold dropSite
    rw [hc, show ((0 : Int) != 0) = false from rfl, cond_false]
    have := (dropSite_l0_eq c s c.members.D 0 0 (by decide)).1
    exact ⟨_, this⟩
  obtain ⟨g, e0⟩ := e0
  rw [without_eq] at e0
  rw [e0] at h
  obtain ⟨e1, e2⟩ := finW_some h
  rw [← e0] at e1
  exact comes_sub q1 q2 ((List.dropWhile_sublist _).trans List.filter_sublist) e1 e2
theorem again_members {c : Chain} (hn : hnC c) {n : Int} (h : (again c n).2 = 0) : (again c n).1.members.D = c.members.D := by
  unfold again at h ⊢
  cases h1 : check c != 0
  · rw [h1, cond_false] at h
    rw [cond_false]
    cases h2 : decide (placeIn c n < 0)
    · rw [h2, cond_false] at h
      rw [cond_false]
      cases h3 : decide (c.epoch ≥ 1099511627776)
      · show (cloneMembers c.members).D = _
        rw [clone_eq hn]
      · rw [h3] at h; cases h
    · rw [h2] at h; cases h
  · rw [h1, cond_true] at h
    have := ne_of_beq_false (by simpa using h1 : (check c == 0) = false)
    exact absurd h this
theorem comes_again {c : Chain} (hn : hnC c) (hc : check c = 0) {n : Int} (h : (again c n).2 = 0) : Comes c (again c n).1 := by
  obtain ⟨q1, q2, _⟩ := (again_next hn hc n).1 h
  exact comes_sub q1 q2 (List.Sublist.refl _) (again_members hn h) ((check_iff c).1 hc).2.1
theorem comes_join {c : Chain} (hc : check c = 0) {n s : Int} {f : Bool} (h : (join c ⟨n, s, f⟩).2 = 0) : Comes c (join c ⟨n, s, f⟩).1 := by
  obtain ⟨q1, q2, _⟩ := (join_next hc n s f).1 h
  obtain ⟨e1, _, _, hp, hk⟩ := join_some hc h
  have hp : rPlace c n < 0 := by rw [← place_eq]; unfold place0; rw [hc]; exact hp
  have hno := place_none hc hp
  have hD : (join c ⟨n, s, f⟩).1.members.D = c.members.D.take (c.members.D.takeWhile fun x => decide (x.site ≤ s)).length ++ [⟨n, s, true⟩] ++ c.members.D.drop (c.members.D.takeWhile fun x => decide (x.site ≤ s)).length := by rw [e1]; rfl
  generalize (c.members.D.takeWhile fun x => decide (x.site ≤ s)).length = k at hD
  have hmem : ∀ x ∈ (join c ⟨n, s, f⟩).1.members.D, x = ⟨n, s, true⟩ ∨ x ∈ c.members.D := fun x hx => by
    rw [hD] at hx
    rcases List.mem_append.1 hx with hx | hx
    · rcases List.mem_append.1 hx with hx | hx
      · exact .inr (List.mem_of_mem_take hx)
      · exact .inl (List.mem_singleton.1 hx)
    · exact .inr (List.mem_of_mem_drop hx)
  refine ⟨q1, q2, fun x hx hf => ?_, ?_, ?_⟩
  · rcases hmem x hx with rfl | hx
    · cases hf
    · exact List.mem_map.2 ⟨x, hx, rfl⟩
  · rw [hD]
    have hin : ∀ y ∈ c.members.D, ((c.members.D.map (·.node)).contains y.node) = true := fun y hy => List.contains_iff_mem.2 (List.mem_map.2 ⟨y, hy, rfl⟩)
    have hout : ((c.members.D.map (·.node)).contains n) = false := by
      cases e : (c.members.D.map (·.node)).contains n
      · rfl
      · obtain ⟨y, hy, ey⟩ := List.mem_map.1 (List.contains_iff_mem.1 e)
        exact absurd ey (hno y hy)
    have all : ∀ (l : List Member), (∀ y ∈ l, y ∈ c.members.D) → (l.map (·.node)).filter (fun n => (c.members.D.map (·.node)).contains n) = l.map (·.node) := fun l hl =>
      List.filter_eq_self.2 fun m hm => by
        obtain ⟨y, hy, ey⟩ := List.mem_map.1 hm
        rw [← ey]; exact hin y (hl y hy)
    rw [List.map_append, List.map_append, List.filter_append, List.filter_append, all _ fun y hy => List.mem_of_mem_take hy, all _ fun y hy => List.mem_of_mem_drop hy]
    simp only [List.map_cons, List.map_nil, List.filter_cons, hout, Bool.false_eq_true, if_false, List.filter_nil, List.append_nil]
    rw [← List.map_append, List.take_append_drop]
    exact List.Sublist.refl _
  · obtain ⟨x, hx⟩ := List.exists_mem_of_ne_nil _ ((check_iff c).1 hc).2.1
    refine ⟨x, ?_, List.mem_map.2 ⟨x, hx, rfl⟩⟩
    rw [hD]
    rw [← List.take_append_drop k c.members.D] at hx
    rcases List.mem_append.1 hx with hx | hx
    · exact List.mem_append_left _ (List.mem_append_left _ hx)
    · exact List.mem_append_right _ hx
theorem ready_nodes {c : Chain} (hc : check c = 0) {n : Int} (h : (ready c n).2 = 0) : check (ready c n).1 = 0 ∧ (ready c n).1.epoch = c.epoch ∧ (ready c n).1.members.D.map (·.node) = c.members.D.map (·.node) := by
  obtain ⟨q1, q2, _, _⟩ := (ready_is hc n).1 h
  refine ⟨q1, q2, ?_⟩
  unfold ready at h ⊢
  rw [hc, show ((0 : Int) != 0) = false from rfl, cond_false] at h ⊢
  cases h1 : decide (placeIn c n < 0)
  · rw [h1, cond_false] at h
    rw [cond_false]
    have hp : placeIn c n = rPlace c n := by rw [← place_eq]; unfold place0; rw [hc]; rfl
    have hlt := (rPlace_lt c n).1
    have h1 := of_decide_eq_false h1
    rw [hp] at h h1 ⊢
    obtain ⟨p, hpn⟩ : ∃ p : Nat, rPlace c n = (p : Int) := ⟨(rPlace c n).toNat, by omega⟩
    rw [hpn, Int.toNat_natCast] at h ⊢
    have hpl : p < c.members.D.length := by omega
    cases h2 : !(c.members.D[p]!.fresh)
    · show (c.members.D.set p (Member.mk (c.members.D[p]!.node) (c.members.D[p]!.site) false)).map (·.node) = _
      rw [getElem!_pos _ p hpl]
      exact set_map (fun m => m.node) hpl rfl
    · rw [h2] at h; cases h
  · rw [h1] at h; cases h
/-- What a step is. -/
theorem step_next {c : Chain} (hn : hnC c) (hc : check c = 0) {k : Command} (h : (nextL c k).2 = 0) : check (nextL c k).1 = 0 ∧ ((nextL c k).1.epoch = c.epoch + 1 ∧ Comes c (nextL c k).1 ∨ (nextL c k).1.epoch = c.epoch ∧ (nextL c k).1.members.D.map (·.node) = c.members.D.map (·.node)) := by
  unfold nextL at h ⊢
  cases h0 : k.epoch != c.epoch
  · rw [h0, cond_false] at h
    rw [cond_false]
    cases h1 : k.kind == 1
    · rw [h1, cond_false] at h
      rw [cond_false]
      cases h2 : k.kind == 5
      · rw [h2, cond_false] at h
        rw [cond_false]
        cases h3 : k.kind == 2
        · rw [h3, cond_false] at h
          rw [cond_false]
          cases h4 : k.kind == 3
          · rw [h4, cond_false] at h
            obtain ⟨a, b, d⟩ := ready_nodes hc h
            exact ⟨a, .inr ⟨b, d⟩⟩
          · rw [h4, cond_true] at h
            have q := comes_again hn hc h
            exact ⟨q.chk, .inl ⟨q.ep, q⟩⟩
        · rw [h3, cond_true] at h
          have q := comes_join hc h
          exact ⟨q.chk, .inl ⟨q.ep, q⟩⟩
      · rw [h2, cond_true] at h
        have q := comes_dropSite hc h
        exact ⟨q.chk, .inl ⟨q.ep, q⟩⟩
    · rw [h1, cond_true] at h
      have q := comes_drop hc h
      exact ⟨q.chk, .inl ⟨q.ep, q⟩⟩
  · rw [h0] at h; cases h
/-- A ledger as the reference has it. -/
def twin (g : Ledger) : Ledger60 := ⟨g.chain, g.past.all, g.at_⟩
structure Good (g : Ledger) (n : Nat) : Prop where
  lived : Lived g n
  ok : okL g
  chk : check g.chain = 0
  hnA : ∀ y ∈ g.past.all.D, hnC y
  cnt : g.past.all.D.length ≤ 1 + n
theorem Good.hn {g : Ledger} {n : Nat} (h : Good g n) : hnC g.chain := h.ok.1
theorem Good.nil {g : Ledger} {n : Nat} (h : Good g n) : g.chain.members.nil = false := by
  cases e : g.chain.members.nil
  · rfl
  · exact absurd (h.hn e) ((check_iff _).1 h.chk).2.1
theorem copied_eq {c : Chain} (h : hnC c) : copied c = c := by
  unfold copied
  rw [clone_eq h]
theorem get_okC {b : Sl Int} (h : (cmdGet b).2 = 0) : okC (cmdGet b).1 := by
  unfold cmdGet at h ⊢
  cases h1 : (rdEnd (rdIn (rdIn (rdIn (rdIn (rdNew b) 0 99).1 0 6).1 0 3).1 0 1099511627776).1) != 0
  · rw [h1, cond_false] at h
    rw [cond_false]
    cases h2 : ((cmdCheck (Command.mk (rdIn (rdNew b) 0 99).2 (rdIn (rdIn (rdNew b) 0 99).1 0 6).2 (rdIn (rdIn (rdIn (rdNew b) 0 99).1 0 6).1 0 3).2 (rdIn (rdIn (rdIn (rdIn (rdNew b) 0 99).1 0 6).1 0 3).1 0 1099511627776).2)) != 0)
    · exact okC_of (eq_of_bne_false h2)
    · rw [h2] at h; cases h
  · rw [h1] at h; cases h
theorem Good.mate {g : Ledger} {n : Nat} (h : Good g n) (hn : n ≤ 1000) (i : Int) (d : Sl Int) (hd : ∀ x ∈ d.D, 0 ≤ x ∧ x < 256) (hl : d.D.length ≤ 1000000) : rApply (twin g) i d = (twin (lApply g i d).1, (lApply g i d).2) := by
  have a0 := h.lived.at0
  have a1 := h.lived.at1
  unfold lApply rApply
  rw [h.lived.dead, cond_false]
  rw [← get_eq d hd hl]
  simp only [show (twin g).c = g.chain from rfl, show (twin g).all = g.past.all from rfl, show (twin g).at_ = g.at_ from rfl]
  cases e1 : decide (i > 1099511627776)
  · have f1 := of_decide_eq_false e1
    simp only [cond_false]
    have w1 := wrapI (g.at_ + 1)
    have w2 := wrapI (i - 1)
    cases e2 : decide (i < 1)
    · have f2 := of_decide_eq_false e2
      simp only [cond_false]
      cases e3 : IntKind.i64.wrap (i - 1) != g.at_
      · have f3 := eq_of_bne_false e3
        have e4 : (i != IntKind.i64.wrap (g.at_ + 1)) = false := by
          rw [bne_eq_false_iff_eq]; omega
        rw [e4]
        simp only [cond_false]
        cases e5 : (d.D.length : Int) == 0
        · simp only [cond_false]
          cases e6 : (cmdGet d).2 != 0
          · have hk := get_okC (eq_of_bne_false e6)
            obtain ⟨hc, he⟩ := next_eq h.hn hk
            simp only [cond_false]
            simp only [← he]
            cases e7 : (nextL g.chain (cmdGet d).1).2 != 0
            · have h0 := eq_of_bne_false e7
              simp only [cond_false]
              obtain ⟨s1, _⟩ := step_next h.hn h.chk h0
              have n1 := (few_next g.chain (cmdGet d).1).1
              have n2 := rNext_hn g.chain (cmdGet d).1
              have hne := ((check_iff _).1 s1).2.1
              have heq : rNext g.chain (cmdGet d).1 = nextL g.chain (cmdGet d).1 := by
                generalize nextL g.chain (cmdGet d).1 = a at *
                generalize rNext g.chain (cmdGet d).1 = b at *
                obtain ⟨⟨ea, ⟨fa, Da⟩⟩, za⟩ := a
                obtain ⟨⟨eb, ⟨fb, Db⟩⟩, zb⟩ := b
                obtain ⟨hc1, hc2⟩ := hc
                simp only at hc1 hc2 he hne
                subst hc1; subst hc2; subst he
                have k1 : fa = false := by
                  cases fa
                  · rfl
                  · exact absurd (n1 rfl) hne
                have k2 : fb = false := by
                  cases fb
                  · rfl
                  · exact absurd (n2 rfl) hne
                rw [k1, k2]
              simp only [heq]
              have ht := ((told_next g.chain (cmdGet d).1).1 h0).1
              have hb : ((nextL g.chain (cmdGet d).1).1.epoch != g.chain.epoch) = decide ((nextL g.chain (cmdGet d).1).1.epoch > g.chain.epoch) := by
                rw [Bool.eq_iff_iff, decide_eq_true_eq, bne_iff_ne]
                constructor <;> intro _ <;> omega
              rw [hb]
              cases e8 : decide ((nextL g.chain (cmdGet d).1).1.epoch > g.chain.epoch)
              · rfl
              · simp only [cond_true]
                rw [copied_eq n1]; rfl
            · rfl
          · rfl
        · rfl
      · have f3 : IntKind.i64.wrap (i - 1) ≠ g.at_ := by simpa using e3
        have e4 : (i != IntKind.i64.wrap (g.at_ + 1)) = true := by
          rw [bne_iff_ne]; omega
        rw [e4]; rfl
    · have f2 := of_decide_eq_true e2
      have e4 : (i != IntKind.i64.wrap (g.at_ + 1)) = true := by
        rw [bne_iff_ne]; omega
      rw [e4]; rfl
  · rfl
theorem Good.apply {g : Ledger} {n : Nat} (h : Good g n) (hn : n ≤ 1000) (i : Int) (d : Sl Int) : Good (lApply g i d).1 (n + 1) := by
  have hl := h.lived.apply hn i d
  have ho := apply_okL h.ok i d
  have hc := apply_all g i d
  have hcnt := h.cnt
  refine ⟨hl, ho, ?_, ?_, by omega⟩
  · rcases apply_cases h.lived hn i d with q | ⟨_, ⟨q, _⟩ | ⟨q, _⟩ | ⟨_, q, _⟩ | ⟨_, q0, ⟨_, q⟩ | ⟨_, q⟩⟩⟩ <;> rw [q]
    · exact h.chk
    · exact h.chk
    · exact h.chk
    · exact h.chk
    · exact (step_next h.hn h.chk q0).1
    · exact (step_next h.hn h.chk q0).1
  · rcases apply_cases h.lived hn i d with q | ⟨_, ⟨q, _⟩ | ⟨q, _⟩ | ⟨_, q, _⟩ | ⟨_, q0, ⟨_, q⟩ | ⟨_, q⟩⟩⟩ <;> rw [q]
    · exact h.hnA
    · exact h.hnA
    · exact h.hnA
    · exact h.hnA
    · intro y hy
      rcases List.mem_append.1 hy with hy | hy
      · exact h.hnA y hy
      · rw [List.mem_singleton.1 hy, copied_eq (few_next _ _).1]
        exact (few_next _ _).1
    · exact h.hnA
theorem newL_good {m : Sl Member} (h : (firstC m).2 = 0) (hm : m.D.length ≤ 1000000) : Good (newL m).1 0 where
  lived := newL_lived h
  ok := (newL_ok m hm).1
  chk := firstC_ok h
  hnA := fun y hy => by
    have : y = (firstC m).1 := by simpa [newL] using hy
    rw [this]; exact firstC_hn m
  cnt := (newL_ok m hm).2
theorem rNewL_twin (m : Sl Member) : (rNewL m).1 = twin (newL m).1 := by
  unfold rNewL newL twin
  rw [rFirst_eq]
theorem of_l0_eq (e : Int) : ∀ (l r : List Chain), (∀ y ∈ r, hnC y) → (bif decide (indexFuncC_l0 (fun x0 => pastF x0 e) r l.length < 0) then ((Chain.mk 0 (Sl.mk true []), false) : Chain × Bool) else (copied ((l ++ r)[(indexFuncC_l0 (fun x0 => pastF x0 e) r l.length).toNat]!), true)) = rOf_l0 e r l.length
  | l, [], _ => rfl
  | l, x :: r, h => by
    unfold indexFuncC_l0 rOf_l0
    show (bif decide ((bif (x.epoch == e) then ((l.length : Nat) : Int) else indexFuncC_l0 _ r (l.length + 1)) < 0) then _ else (copied ((l ++ x :: r)[(bif (x.epoch == e) then ((l.length : Nat) : Int) else indexFuncC_l0 _ r (l.length + 1)).toNat]!), true)) = _
    cases hx : x.epoch == e
    · have := of_l0_eq e (l ++ [x]) r fun y hy => h y (List.mem_cons_of_mem _ hy)
      simp only [List.length_append, List.length_singleton, List.append_assoc, List.singleton_append] at this
      simpa only [cond_false] using this
    · simp only [cond_true, Int.toNat_natCast]
      have e1 : decide (((l.length : Nat) : Int) < 0) = false := by simp
      rw [e1, cond_false]
      have e2 : (l ++ x :: r)[l.length]! = x := by simp
      rw [e2, copied_eq (h x (List.mem_cons_self ..))]
theorem lOf_eq {g : Ledger} {n : Nat} (h : Good g n) (e : Int) : lOf g e = rOf (twin g) e := by
  unfold lOf
  rw [h.lived.dead]
  exact of_l0_eq e [] g.past.all.D h.hnA
end Go.Proofs.Ytpgenmflgdkfiaa
/- Chains handed out as rows of their own. No conditions. -/
namespace Go.Proofs.Ytpgenmflgdkfiaa
open Go.Am
def copiedO (c : Chain) : Chain :=
  (Chain.mk c.epoch (Sl.mk false c.members.D))
theorem copiedO_calls (c : Chain) (hn : c.members.nil = false) (hl1 : c.members.D.length ≤ 1000000) : OCalls Try.prog 42 [.agg [.pv (.lit (.int .i64 c.epoch)), sS (some c.members.nil) eMember c.members.D]] (.agg [.pv (.lit (.int .i64 ((copiedO c).epoch))), .sl 0 0 ((copiedO c).members.D).length 3 false]) (.cells (encC eMember ((copiedO c).members.D))) := by
 generalize hR : copiedO c = R
 refine OCalls.of_body tabOk Try.func42 rfl rfl rfl rfl rfl (encC_within _ _) mixed fun E hP C hI => ?_
 refine Awp.consP C ?_
 refine rvc_un (rexec_prim C (δ := { v := .ptr 1 0, new := [(1, .cells [.pv (.lit (.int .i64 c.epoch)), sS (some c.members.nil) eMember c.members.D])] }) rfl rfl rfl rfl trivial rfl ?_)
 refine rvc_un (rexec_prim C (δ := { v := .ptr 2 0, new := [(2, .cells [.pv (.lit (.int .i64 0)), sS (some true) eMember []])] }) rfl rfl rfl rfl trivial rfl ?_)
 refine rvc_nil ?_
 refine Awp.cons C (fun _ => .quiet) (by kernel_rfl) ?_
 refine rvP C (.ptr 1 1) ?_
 refine rvP C (sS (some c.members.nil) eMember c.members.D) ?_
 refine rvc_un (rexec_callO hP C rfl rfl rfl rfl (cloneO_calls c.members hn hl1) ?_)
 refine rvP C (.ptr 1 1) ?_
 refine rvc_un (rexec_prim C (δ := { v := .undef, wr := [(1, some (.cells [.pv (.lit (.int .i64 c.epoch)), .sl 5 0 c.members.D.length 3 false]))] }) rfl rfl rfl rfl trivial rfl ?_)
 refine rvc_nil ?_
 refine Awp.consP C ?_
 refine rvP C (.agg [.pv (.lit (.int .i64 c.epoch)), .sl 5 0 c.members.D.length 3 false]) ?_
 refine rvc_un (rexec_prim C (δ := { v := .undef, wr := [(2, some (.cells [.pv (.lit (.int .i64 c.epoch)), .sl 5 0 c.members.D.length 3 false]))] }) rfl rfl rfl rfl trivial rfl ?_)
 refine rvc_nil ?_
 refine Awp.weakenR (S := [(2, .ptr 2 0)]) (H := [(0, .cells (encC eMember c.members.D)), (2, .cells [.pv (.lit (.int .i64 c.epoch)), .sl 0 0 c.members.D.length 3 false])]) (U := [0, 2]) (fun x => bif x == 0 then 5 else x) (WeakerR.ofL (Ks := [0, 2]) hI ⟨⟨rfl, rfl⟩, trivial⟩ (okH_list rfl rfl rfl (okH_cons rfl rfl rfl rfl (okH_nil))) rfl) ?_
 refine Awp.ret ?_
 subst hR
 exact ⟨.inl rfl, rfl, rfl⟩
def lChainO (l : Ledger) : Chain :=
  (Chain.mk ((copiedO l.chain).epoch) (Sl.mk false ((copiedO l.chain).members.D)))
theorem lChainO_calls (l : Ledger) (h0 : (lDead l) = false) (hn : l.chain.members.nil = false) (hl1 : l.chain.members.D.length ≤ 1000000) : NCalls Try.prog 14 [.ptr 0 0] (.cells [sS (some l.past.all.nil) eChain l.past.all.D, .pv (.lit (.int .i64 l.chain.epoch)), sS (some l.chain.members.nil) eMember l.chain.members.D, .pv (.lit (.int .i64 l.at_))]) (.agg [.pv (.lit (.int .i64 ((lChainO l).epoch))), .sl 1 0 ((lChainO l).members.D).length 3 false]) (.cells [sS (some l.past.all.nil) eChain l.past.all.D, .pv (.lit (.int .i64 l.chain.epoch)), sS (some l.chain.members.nil) eMember l.chain.members.D, .pv (.lit (.int .i64 l.at_))]) (.cells (encC eMember ((lChainO l).members.D))) := by
 generalize hR : lChainO l = R
 refine NCalls.of_body tabOk Try.func14 rfl rfl rfl rfl rfl rfl rfl (encC_within _ _) mixed fun E hP C hI => ?_
 refine Awp.consP C ?_
 refine rvc_un (rexec_prim C (δ := { v := .ptr 2 0, new := [(2, .cells [.pv (.lit (.int .i64 0)), sS (some true) eMember []])] }) rfl rfl rfl rfl trivial rfl ?_)
 refine rvc_nil ?_
 refine Awp.seq ?_
 refine Awp.cons C (fun _ => .writer) (by kernel_rfl) ?_
 refine rvP C (.ptr 0 0) ?_
 refine rvc_un (rexec_callM hP C (b := 0) rfl rfl rfl (lDead_calls l) rfl rfl ?_)
 refine rvc_nil ?_
 refine Awp.condF (b := (lDead l)) rfl h0 ?_
 refine Awp.skip ?_
 refine Awp.cons C (fun _ => .quiet) (by kernel_rfl) ?_
 refine rvP C (.ptr 0 0) ?_
 refine rvP C (.ptr 0 0) ?_
 refine rvP C (.ptr 0 1) ?_
 refine rvP C (.agg [.pv (.lit (.int .i64 l.chain.epoch)), sS (some l.chain.members.nil) eMember l.chain.members.D]) ?_
 refine rvc_un (rexec_callO hP C rfl rfl rfl rfl (copiedO_calls l.chain hn hl1) ?_)
 refine rvc_un (rexec_prim C (δ := { v := .undef, wr := [(2, some (.cells [.pv (.lit (.int .i64 ((copiedO l.chain).epoch))), .sl 10 0 (((copiedO l.chain).members.D).length) 3 false]))] }) rfl rfl rfl rfl trivial rfl ?_)
 refine rvc_nil ?_
 refine Awp.weakenR (S := [(2, .ptr 2 0)]) (H := [(0, .cells [sS (some l.past.all.nil) eChain l.past.all.D, .pv (.lit (.int .i64 l.chain.epoch)), sS (some l.chain.members.nil) eMember l.chain.members.D, .pv (.lit (.int .i64 l.at_))]), (1, .cells (encC eMember ((copiedO l.chain).members.D))), (2, .cells [.pv (.lit (.int .i64 ((copiedO l.chain).epoch))), .sl 1 0 (((copiedO l.chain).members.D).length) 3 false])]) (U := [0, 1, 2]) (fun x => bif x == 1 then 10 else x) (WeakerR.ofLI (I := [0]) (Ks := [0, 1, 2]) hI ⟨⟨rfl, rfl⟩, trivial⟩ (okH_cons rfl rfl rfl rfl (okH_list rfl rfl rfl (okH_cons rfl rfl rfl rfl (okH_nil)))) rfl rfl) ?_
 refine Awp.ret ?_
 subst hR
 exact ⟨.inl rfl, rfl, rfl, rfl⟩
end Go.Proofs.Ytpgenmflgdkfiaa
/- What the law of plays needs of a step. No conditions. -/
namespace Go.Proofs.Ytpgenmflgdkfiaa
open Go.Am
def okDo (x : Do) : Prop := (x.b.nil = true → x.b.D = []) ∧ (∀ y ∈ x.b.D, 0 ≤ y ∧ y < 256)
theorem cloneB_eq {s : Sl Int} (h : s.nil = true → s.D = []) : cloneBytes s = s := by
  unfold cloneBytes
  cases s with
  | mk f D =>
    cases f
    · rfl
    · have h : D = [] := h rfl
      rw [h]; rfl
theorem cloneB_len (s : Sl Int) : (cloneBytes s).D.length ≤ s.D.length := by
  unfold cloneBytes
  cases s.nil
  · exact Nat.le_refl _
  · exact Nat.zero_le _
theorem newNil_ne {m : Sl Member} (h : (((firstC m).2) != 0) = true) : (((newNil m).2) != ((rNewL m).2)) = true := h
theorem newL_ne {m : Sl Member} (h : (((rFirst m).2) != 0) = true) : (((newL m).2) != ((rNewNil m).2)) = true := by
  show ((0 : Int) != (rFirst m).2) = true
  simp at h ⊢; exact fun e => h e.symm
theorem lOf_len {l : Ledger} (h : okL l) (e : Int) : (lOf l e).1.members.D.length ≤ 1000000 := by
  unfold lOf
  cases lDead l
  · show (pastOf l.past e).1.members.D.length ≤ 1000000
    unfold pastOf
    cases h1 : decide (indexFuncC l.past.all (fun x0 => pastF x0 e) < 0)
    · refine Nat.le_trans (copied_len _) ?_
      have hi := indexFuncC_lt l.past.all (fun x0 => pastF x0 e)
      have h1 := of_decide_eq_false h1
      refine h.2.2 _ ?_
      rw [getElem!_pos _ _ (by omega)]
      exact List.getElem_mem _
    · exact Nat.zero_le _
  · exact Nat.zero_le _
theorem data_ok {k : Do} (h : okDo k) (hl : k.b.D.length ≤ 100000) (e : Int) : ((doData k e).nil = true → (doData k e).D = []) ∧ (∀ y ∈ (doData k e).D, 0 ≤ y ∧ y < 256) ∧ (doData k e).D.length ≤ 1000000 := by
  have put : ∀ c : Command, ((rCmdPut c).1.nil = true → (rCmdPut c).1.D = []) ∧ (∀ y ∈ (rCmdPut c).1.D, 0 ≤ y ∧ y < 256) := fun c => by
    rw [rCmdPut_eq]
    cases cmdCheck c != 0
    · exact ⟨fun h => (by cases h), cb_bytes c⟩
    · exact ⟨fun _ => rfl, fun y hy => (by cases hy)⟩
  refine ⟨?_, ?_, data_len k e hl⟩
  · unfold doData
    cases k.raw
    · cases decide (k.off > (-4))
      · exact (put _).1
      · cases decide (k.off < 4)
        · exact (put _).1
        · exact (put _).1
    · exact h.1
  · unfold doData
    cases k.raw
    · cases decide (k.off > (-4))
      · exact (put _).2
      · cases decide (k.off < 4)
        · exact (put _).2
        · exact (put _).2
    · exact h.2
theorem plays_ep {vc : Ledger} {vc1 : Ledger60} {i : Nat} (h : Good vc i ∧ vc1 = twin vc) (hi : i ≤ 1000) : IntKind.i64.wrap (vc1.c.epoch + 2) = vc.chain.epoch + 2 ∧ 1 ≤ vc.chain.epoch ∧ vc.chain.epoch ≤ 1001 := by
  have a := h.1.lived.lo
  have b := h.1.lived.hi
  have e : vc1.c.epoch = vc.chain.epoch := by rw [h.2]; rfl
  rw [e]
  have := wrapI (vc.chain.epoch + 2)
  refine ⟨?_, a, ?_⟩ <;> omega
theorem plays_x {vc : Ledger} {vc1 : Ledger60} {i : Nat} {ix : Int} {cb d : Sl Int} {ga : Ledger × Int} (h : Good vc i ∧ vc1 = twin vc) (hi : i ≤ 1000) (hcb : cb = cloneBytes d) (hga : ga = lApply vc ix cb) (hd : (d.nil = true → d.D = []) ∧ (∀ y ∈ d.D, 0 ≤ y ∧ y < 256) ∧ d.D.length ≤ 1000000) : rApply vc1 ix d = (twin ga.1, ga.2) := by
  rw [hga, hcb, cloneB_eq hd.1, h.2]
  exact h.1.mate hi ix d hd.2.1 hd.2.2
end Go.Proofs.Ytpgenmflgdkfiaa
