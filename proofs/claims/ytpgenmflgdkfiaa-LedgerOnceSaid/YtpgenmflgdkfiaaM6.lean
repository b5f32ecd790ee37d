import Derived.Test.YtpgenmflgdkfiaaM5
import Derived.Test.YtpgenmflgdkfiaaM2
/- The ledger: commands done. No conditions. -/
namespace Go.Proofs.Ytpgenmflgdkfiaa
open Go.Am
structure Ledger60 where
  c : Chain
  all : (Sl Chain)
  at_ : Int
  deriving Inhabited
structure Do where
  c : Command
  b : (Sl Int)
  raw : Bool
  by_ : Int
  off : Int
  deriving Inhabited
def eDo : Enc Do := ⟨8, fun x => [.lit (.int .i64 x.c.kind), .lit (.int .i64 x.c.node), .lit (.int .i64 x.c.site), .lit (.int .i64 x.c.epoch), .sl (some x.b.nil) x.b.D.length (encL (eI .u8) x.b.D), .lit (.bool x.raw), .lit (.int .i64 x.by_), .lit (.int .i64 x.off)], fun _ => rfl⟩
def lApply (l : Ledger) (index : Int) (data : (Sl Int)) : Ledger × Int :=
  (bif (lDead l) then (l, 6) else (bif (decide (index > 1099511627776)) then (l, 90) else (bif (decide (index < 1)) then (l, 90) else (bif ((IntKind.i64.wrap (index - 1)) != l.at_) then (l, 90) else (bif ((data.D.length : Int) == 0) then ((Ledger.mk l.past l.chain index), 0) else (bif ((cmdGet data).2 != 0) then ((Ledger.mk l.past l.chain index), (cmdGet data).2) else (bif ((nextL l.chain (cmdGet data).1).2 != 0) then ((Ledger.mk l.past l.chain index), (nextL l.chain (cmdGet data).1).2) else (bif (decide ((nextL l.chain (cmdGet data).1).1.epoch > l.chain.epoch)) then ((Ledger.mk (Past.mk (Sl.mk false (l.past.all.D ++ [(copied (nextL l.chain (cmdGet data).1).1)]))) (nextL l.chain (cmdGet data).1).1 index), 0) else ((Ledger.mk l.past (nextL l.chain (cmdGet data).1).1 index), 0)))))))))
theorem lApply_calls (l : Ledger) (index : Int) (data : (Sl Int)) (hn : l.chain.members.nil = true → l.chain.members.D = []) (hl1 : data.D.length ≤ 1000000) (hl2 : l.chain.members.D.length ≤ 1000000) (hl3 : l.past.all.D.length ≤ 1000000) : MCalls Try.prog 16 [.ptr 0 0, .pv (.lit (.int .i64 index)), sS (some data.nil) (eI .u8) data.D] (.cells [sS (some l.past.all.nil) eChain l.past.all.D, .pv (.lit (.int .i64 l.chain.epoch)), sS (some l.chain.members.nil) eMember l.chain.members.D, .pv (.lit (.int .i64 l.at_))]) (.pv (.lit (.int .i64 ((lApply l index data).2)))) (.cells [sS (some (lApply l index data).1.past.all.nil) eChain ((lApply l index data).1.past.all.D), .pv (.lit (.int .i64 ((lApply l index data).1.chain.epoch))), sS (some (lApply l index data).1.chain.members.nil) eMember ((lApply l index data).1.chain.members.D), .pv (.lit (.int .i64 ((lApply l index data).1.at_)))]) := by
 generalize hR : lApply l index data = R
 refine MCalls.of_body tabOk Try.func16 rfl rfl rfl rfl rfl rfl rfl mixed fun E hP C hI => ?_
 refine Awp.consP C ?_
 refine rvP C (.pv (.lit (.int .i64 0))) ?_
 refine rvc_nil ?_
 refine Awp.seq ?_
 refine Awp.block ?_
 refine Awp.cons C (fun _ => .writer) (by kernel_rfl) ?_
 refine rvP C (.ptr 0 0) ?_
 refine rvc_un (rexec_callM hP C (b := 0) rfl rfl rfl (lDead_calls l) rfl rfl ?_)
 refine rvP C (.pv (.lit (.bool (lDead l)))) ?_
 refine rvc_nil ?_
 refine Awp.cond (b := (lDead l)) rfl (fun h1 => ?_) (fun h1 => ?_)
 ·
  replace hR := of_true h1 hR
  refine Awp.consP C ?_
  refine rvP C (.pv (.lit (.int .i64 6))) ?_
  refine rvc_nil ?_
  refine Awp.ret ?_
  subst hR
  exact ⟨.inl rfl, rfl, rfl⟩
 ·
  replace hR := of_false h1 hR
  refine Awp.consP C ?_
  refine rvP C (.pv (.lit (.int .i64 index))) ?_
  refine rvP C (.pv (.lit (.bool (decide (index > 1099511627776))))) ?_
  refine rvP C (.pv (.lit (.bool (decide (index > 1099511627776))))) ?_
  refine rvc_case 16 (decide (index > 1099511627776)) rfl (fun h2 => ?_) (fun h2 => ?_)
  ·
   replace hR := of_true h2 hR
   refine rvS ?_
   refine rvS ?_
   refine rvP C (.pv (.lit (.bool true))) ?_
   refine rvP C (.pv (.lit (.bool true))) ?_
   refine rvS ?_
   refine rvS ?_
   refine rvS ?_
   refine rvS ?_
   refine rvS ?_
   refine rvS ?_
   refine rvS ?_
   refine rvP C (.pv (.lit (.bool true))) ?_
   refine rvP C (.pv (.lit (.bool true))) ?_
   refine rvc_nil ?_
   refine Awp.condT (b := true) rfl rfl ?_
   refine Awp.consP C ?_
   refine rvP C (.pv (.lit (.int .i64 90))) ?_
   refine rvc_nil ?_
   refine Awp.ret ?_
   subst hR
   exact ⟨.inl rfl, rfl, rfl⟩
  ·
   replace hR := of_false h2 hR
   refine rvO C (.pv (.lit (.int .i64 index))) ?_
   refine rvO C (.pv (.lit (.bool (decide (index < 1))))) ?_
   refine rvP C (.pv (.lit (.bool (decide (index < 1))))) ?_
   refine rvP C (.pv (.lit (.bool (decide (index < 1))))) ?_
   refine rvc_case 20 (decide (index < 1)) rfl (fun h3 => ?_) (fun h3 => ?_)
   ·
    replace hR := of_true h3 hR
    refine rvS ?_
    refine rvS ?_
    refine rvS ?_
    refine rvS ?_
    refine rvS ?_
    refine rvS ?_
    refine rvS ?_
    refine rvP C (.pv (.lit (.bool true))) ?_
    refine rvP C (.pv (.lit (.bool true))) ?_
    refine rvc_nil ?_
    refine Awp.condT (b := true) rfl rfl ?_
    refine Awp.consP C ?_
    refine rvP C (.pv (.lit (.int .i64 90))) ?_
    refine rvc_nil ?_
    refine Awp.ret ?_
    subst hR
    exact ⟨.inl rfl, rfl, rfl⟩
   ·
    replace hR := of_false h3 hR
    refine rvO C (.pv (.lit (.int .i64 index))) ?_
    refine rvO C (.pv (.lit (.int .i64 (IntKind.i64.wrap (index - 1))))) ?_
    refine rvO C (.ptr 0 0) ?_
    refine rvO C (.ptr 0 0) ?_
    refine rvO C (.ptr 0 3) ?_
    refine rvO C (.pv (.lit (.int .i64 l.at_))) ?_
    refine rvO C (.pv (.lit (.bool ((IntKind.i64.wrap (index - 1)) != l.at_)))) ?_
    refine rvP C (.pv (.lit (.bool ((IntKind.i64.wrap (index - 1)) != l.at_)))) ?_
    refine rvP C (.pv (.lit (.bool ((IntKind.i64.wrap (index - 1)) != l.at_)))) ?_
    refine rvc_nil ?_
    refine Awp.cond (b := ((IntKind.i64.wrap (index - 1)) != l.at_)) rfl (fun h4 => ?_) (fun h4 => ?_)
    ·
     replace hR := of_true h4 hR
     refine Awp.consP C ?_
     refine rvP C (.pv (.lit (.int .i64 90))) ?_
     refine rvc_nil ?_
     refine Awp.ret ?_
     subst hR
     exact ⟨.inl rfl, rfl, rfl⟩
    ·
     replace hR := of_false h4 hR
     refine Awp.skip ?_
     refine Awp.consP C ?_
     refine rvP C (.ptr 0 0) ?_
     refine rvP C (.pv (.lit (.int .i64 index))) ?_
     refine rvP C (.ptr 0 0) ?_
     refine rvP C (.ptr 0 3) ?_
     refine rvc_un (rexec_prim C (δ := { v := .undef, wr := [(0, some (.cells [sS (some l.past.all.nil) eChain l.past.all.D, .pv (.lit (.int .i64 l.chain.epoch)), sS (some l.chain.members.nil) eMember l.chain.members.D, .pv (.lit (.int .i64 index))]))] }) rfl rfl rfl rfl trivial rfl ?_)
     refine rvc_nil ?_
     refine Awp.seq ?_
     refine Awp.consP C ?_
     refine rvP C (sS (some data.nil) (eI .u8) data.D) ?_
     refine rvP C (.pv (.lit (.int .i64 (data.D.length : Int)))) ?_
     refine rvP C (.pv (.lit (.bool ((data.D.length : Int) == 0)))) ?_
     refine rvc_nil ?_
     refine Awp.cond (b := ((data.D.length : Int) == 0)) rfl (fun h5 => ?_) (fun h5 => ?_)
     ·
      replace hR := of_true h5 hR
      refine Awp.consP C ?_
      refine rvP C (.pv (.lit (.int .i64 0))) ?_
      refine rvc_nil ?_
      refine Awp.ret ?_
      subst hR
      exact ⟨.inl rfl, rfl, rfl⟩
     ·
      replace hR := of_false h5 hR
      refine Awp.skip ?_
      refine Awp.consP C ?_
      refine rvP C (sS (some data.nil) (eI .u8) data.D) ?_
      obtain ⟨gt, hq_gt⟩ : ∃ q_, q_ = (cmdGet data) := ⟨_, rfl⟩
      have hc_gt := (cmdGet_calls data hl1)
      first | rw [← hq_gt] at hR hc_gt | (unfold lApply at hR; rw [← hq_gt] at hR hc_gt)
      refine rvc_un (rexec_call hP C rfl rfl rfl hc_gt ?_)
      refine rvP C (.tup [.agg [.pv (.lit (.int .i64 gt.1.kind)), .pv (.lit (.int .i64 gt.1.node)), .pv (.lit (.int .i64 gt.1.site)), .pv (.lit (.int .i64 gt.1.epoch))], .pv (.lit (.int .i64 gt.2))]) ?_
      refine rvP C (.agg [.pv (.lit (.int .i64 gt.1.kind)), .pv (.lit (.int .i64 gt.1.node)), .pv (.lit (.int .i64 gt.1.site)), .pv (.lit (.int .i64 gt.1.epoch))]) ?_
      refine rvP C (.pv (.lit (.int .i64 gt.2))) ?_
      refine rvc_un (rexec_prim C (δ := { v := .ptr 7 0, new := [(7, .cells [.pv (.lit (.int .i64 0)), .pv (.lit (.int .i64 0)), .pv (.lit (.int .i64 0)), .pv (.lit (.int .i64 0))])] }) rfl rfl rfl rfl trivial rfl ?_)
      refine rvc_un (rexec_prim C (δ := { v := .undef, wr := [(7, some (.cells [.pv (.lit (.int .i64 gt.1.kind)), .pv (.lit (.int .i64 gt.1.node)), .pv (.lit (.int .i64 gt.1.site)), .pv (.lit (.int .i64 gt.1.epoch))]))] }) rfl rfl rfl rfl trivial rfl ?_)
      refine rvP C (.pv (.lit (.int .i64 gt.2))) ?_
      refine rvc_nil ?_
      refine Awp.seq ?_
      refine Awp.consP C ?_
      refine rvP C (.pv (.lit (.int .i64 gt.2))) ?_
      refine rvP C (.pv (.lit (.bool (gt.2 != 0)))) ?_
      refine rvc_nil ?_
      refine Awp.cond (b := (gt.2 != 0)) rfl (fun h6 => ?_) (fun h6 => ?_)
      ·
       replace hR := of_true h6 hR
       refine Awp.consP C ?_
       refine rvP C (.pv (.lit (.int .i64 gt.2))) ?_
       refine rvP C (.pv (.lit (.int .i64 gt.2))) ?_
       refine rvc_nil ?_
       refine Awp.ret ?_
       subst hR
       exact ⟨.inl rfl, rfl, rfl⟩
      ·
       replace hR := of_false h6 hR
       refine Awp.skip ?_
       refine Awp.consP C ?_
       refine rvP C (.ptr 0 0) ?_
       refine rvP C (.ptr 0 0) ?_
       refine rvP C (.ptr 0 1) ?_
       refine rvP C (.agg [.pv (.lit (.int .i64 l.chain.epoch)), sS (some l.chain.members.nil) eMember l.chain.members.D]) ?_
       refine rvP C (.agg [.pv (.lit (.int .i64 gt.1.kind)), .pv (.lit (.int .i64 gt.1.node)), .pv (.lit (.int .i64 gt.1.site)), .pv (.lit (.int .i64 gt.1.epoch))]) ?_
       obtain ⟨nx, hq_nx⟩ : ∃ q_, q_ = (nextL l.chain gt.1) := ⟨_, rfl⟩
       have hc_nx := (nextL_calls l.chain gt.1 hn hl2)
       first | rw [← hq_nx] at hR hc_nx | (unfold lApply at hR; rw [← hq_nx] at hR hc_nx)
       have hf0_nx := few_next l.chain gt.1
       rw [← hq_nx] at hf0_nx
       refine rvc_un (rexec_call hP C rfl rfl rfl hc_nx ?_)
       refine rvP C (.tup [.agg [.pv (.lit (.int .i64 nx.1.epoch)), sS (some nx.1.members.nil) eMember nx.1.members.D], .pv (.lit (.int .i64 nx.2))]) ?_
       refine rvP C (.agg [.pv (.lit (.int .i64 nx.1.epoch)), sS (some nx.1.members.nil) eMember nx.1.members.D]) ?_
       refine rvP C (.pv (.lit (.int .i64 nx.2))) ?_
       refine rvc_un (rexec_prim C (δ := { v := .ptr 9 0, new := [(9, .cells [.pv (.lit (.int .i64 0)), sS (some true) eMember []])] }) rfl rfl rfl rfl trivial rfl ?_)
       refine rvc_un (rexec_prim C (δ := { v := .undef, wr := [(9, some (.cells [.pv (.lit (.int .i64 nx.1.epoch)), sS (some nx.1.members.nil) eMember nx.1.members.D]))] }) rfl rfl rfl rfl trivial rfl ?_)
       refine rvP C (.pv (.lit (.int .i64 nx.2))) ?_
       refine rvc_nil ?_
       refine Awp.seq ?_
       refine Awp.consP C ?_
       refine rvP C (.pv (.lit (.int .i64 nx.2))) ?_
       refine rvP C (.pv (.lit (.bool (nx.2 != 0)))) ?_
       refine rvc_nil ?_
       refine Awp.cond (b := (nx.2 != 0)) rfl (fun h7 => ?_) (fun h7 => ?_)
       ·
        replace hR := of_true h7 hR
        refine Awp.consP C ?_
        refine rvP C (.pv (.lit (.int .i64 nx.2))) ?_
        refine rvP C (.pv (.lit (.int .i64 nx.2))) ?_
        refine rvc_nil ?_
        refine Awp.ret ?_
        subst hR
        exact ⟨.inl rfl, rfl, rfl⟩
       ·
        replace hR := of_false h7 hR
        refine Awp.skip ?_
        refine Awp.seq ?_
        refine Awp.consP C ?_
        refine rvP C (.ptr 9 0) ?_
        refine rvP C (.pv (.lit (.int .i64 nx.1.epoch))) ?_
        refine rvP C (.ptr 0 0) ?_
        refine rvP C (.ptr 0 0) ?_
        refine rvP C (.ptr 0 1) ?_
        refine rvP C (.ptr 0 1) ?_
        refine rvP C (.pv (.lit (.int .i64 l.chain.epoch))) ?_
        refine rvP C (.pv (.lit (.bool (decide (nx.1.epoch > l.chain.epoch))))) ?_
        refine rvc_nil ?_
        refine Awp.cond (b := (decide (nx.1.epoch > l.chain.epoch))) rfl (fun h8 => ?_) (fun h8 => ?_)
        ·
         replace hR := of_true h8 hR
         refine Awp.regionP C ?_
         refine rvP C (.ptr 0 0) ?_
         refine rvP C (.ptr 0 0) ?_
         refine rvP C (.ptr 0 0) ?_
         refine rvP C (.ptr 0 0) ?_
         refine rvP C (.ptr 0 0) ?_
         refine rvP C (sS (some l.past.all.nil) eChain l.past.all.D) ?_
         refine rvP C (.ptr 0 0) ?_
         refine rvP C (.ptr 0 0) ?_
         refine rvP C (.ptr 0 0) ?_
         refine rvP C (.ptr 0 0) ?_
         refine rvP C (sS (some l.past.all.nil) eChain l.past.all.D) ?_
         refine rvP C (.pv (.lit (.int .i64 (l.past.all.D.length : Int)))) ?_
         refine rvP C (.ptr 0 0) ?_
         refine rvP C (.ptr 0 0) ?_
         refine rvP C (.ptr 0 0) ?_
         refine rvP C (.ptr 0 0) ?_
         refine rvP C (sS (some l.past.all.nil) eChain l.past.all.D) ?_
         refine rvP C (.pv (.lit (.int .i64 (l.past.all.D.length : Int)))) ?_
         refine rvc_un (rexec_slice3 C (e := eChain) (D := l.past.all.D) rfl rfl rfl rfl rfl rfl ?_)
         refine rvP C (.agg [.pv (.lit (.int .i64 nx.1.epoch)), sS (some nx.1.members.nil) eMember nx.1.members.D]) ?_
         refine rvc_un (rexec_call hP C rfl rfl rfl (copied_calls nx.1 (Nat.le_trans hf0_nx.2 (by decide))) ?_)
         refine rvc_un (rexec_buildSliceF C eChain [(copied nx.1)] rfl rfl rfl rfl rfl rfl rfl (by decide) rfl ?_)
         refine rvc_un (rexec_appendT C rfl rfl rfl rfl rfl rfl rfl rfl (fun _ h => by cases h) rfl (en := eChain) (D0 := l.past.all.D) (D := [(copied nx.1)]) rfl rfl (by simp) (by have := wrapI (index - 1); have := of_decide_eq_false h2; have := of_decide_eq_false h3; have := eq_of_bne_false h4; have := ne_of_beq_false h5; have := eq_of_bne_false h6; have := eq_of_bne_false h7; have := of_decide_eq_true h8; first | omega | (simp <;> omega)) (by decide) (nn := (l.past.all.D ++ [(copied nx.1)]).length) (by simp) ?_)
         refine rvP C (.ptr 0 0) ?_
         refine rvP C (.ptr 0 0) ?_
         refine rvP C (.ptr 0 0) ?_
         refine rvc_un (rexec_prim C (δ := { v := .undef, wr := [(0, some (.cells [.sl 86 0 ((l.past.all.D ++ [(copied nx.1)]).length) 2 false, .pv (.lit (.int .i64 l.chain.epoch)), sS (some l.chain.members.nil) eMember l.chain.members.D, .pv (.lit (.int .i64 index))]))] }) rfl rfl rfl rfl trivial rfl ?_)
         refine rvc_nil ?_
         refine Awp.consP C ?_
         refine rvP C (.ptr 0 0) ?_
         refine rvP C (.agg [.pv (.lit (.int .i64 nx.1.epoch)), sS (some nx.1.members.nil) eMember nx.1.members.D]) ?_
         refine rvP C (.ptr 0 0) ?_
         refine rvP C (.ptr 0 1) ?_
         refine rvc_un (rexec_prim C (δ := { v := .undef, wr := [(0, some (.cells [.sl 86 0 ((l.past.all.D ++ [(copied nx.1)]).length) 2 false, .pv (.lit (.int .i64 nx.1.epoch)), sS (some nx.1.members.nil) eMember nx.1.members.D, .pv (.lit (.int .i64 index))]))] }) rfl rfl rfl rfl trivial rfl ?_)
         refine rvc_nil ?_
         refine Awp.consP C ?_
         refine rvP C (.pv (.lit (.int .i64 0))) ?_
         refine rvc_nil ?_
         refine Awp.freezeW 86 (encL eChain (l.past.all.D ++ [(copied nx.1)])) ?_ [(6, .pv (.lit (.int .i64 0)))] [(0, .cells [sS (some false) eChain (l.past.all.D ++ [(copied nx.1)]), .pv (.lit (.int .i64 nx.1.epoch)), sS (some nx.1.members.nil) eMember nx.1.members.D, .pv (.lit (.int .i64 index))]), (7, .cells [.pv (.lit (.int .i64 gt.1.kind)), .pv (.lit (.int .i64 gt.1.node)), .pv (.lit (.int .i64 gt.1.site)), .pv (.lit (.int .i64 gt.1.epoch))]), (9, .cells [.pv (.lit (.int .i64 nx.1.epoch)), sS (some nx.1.members.nil) eMember nx.1.members.D])] ?_ ?_ ?_
         · rfl
         · exact ⟨⟨_, rfl, .inl (.inl rfl)⟩, trivial⟩
         · exact ⟨⟨(by show (0 : Nat) ≠ 86; decide), .inr ⟨_, _, rfl, rfl, ⟨.inr ⟨_, _, _, rfl, rfl⟩, .inl rfl, .inl rfl, .inl rfl, trivial⟩⟩⟩, ⟨(by show (7 : Nat) ≠ 86; decide), .inl rfl⟩, ⟨(by show (9 : Nat) ≠ 86; decide), .inl rfl⟩, trivial⟩
         refine Awp.ret ?_
         subst hR
         exact ⟨.inl rfl, rfl, rfl⟩
        ·
         replace hR := of_false h8 hR
         refine Awp.skip ?_
         refine Awp.consP C ?_
         refine rvP C (.ptr 0 0) ?_
         refine rvP C (.agg [.pv (.lit (.int .i64 nx.1.epoch)), sS (some nx.1.members.nil) eMember nx.1.members.D]) ?_
         refine rvP C (.ptr 0 0) ?_
         refine rvP C (.ptr 0 1) ?_
         refine rvc_un (rexec_prim C (δ := { v := .undef, wr := [(0, some (.cells [sS (some l.past.all.nil) eChain l.past.all.D, .pv (.lit (.int .i64 nx.1.epoch)), sS (some nx.1.members.nil) eMember nx.1.members.D, .pv (.lit (.int .i64 index))]))] }) rfl rfl rfl rfl trivial rfl ?_)
         refine rvc_nil ?_
         refine Awp.consP C ?_
         refine rvP C (.pv (.lit (.int .i64 0))) ?_
         refine rvc_nil ?_
         refine Awp.ret ?_
         subst hR
         exact ⟨.inl rfl, rfl, rfl⟩
def doIndex (k : Do) (at_ : Int) : Int :=
  (bif (decide (k.by_ > (-3))) then (bif (decide (k.by_ < 3)) then (IntKind.i64.wrap ((IntKind.i64.wrap (at_ + 1)) + k.by_)) else (IntKind.i64.wrap (at_ + 1))) else (IntKind.i64.wrap (at_ + 1)))
theorem doIndex_calls (k : Do) (at_ : Int)  : PCalls Try.prog 18 [.agg [.pv (.lit (.int .i64 k.c.kind)), .pv (.lit (.int .i64 k.c.node)), .pv (.lit (.int .i64 k.c.site)), .pv (.lit (.int .i64 k.c.epoch)), sS (some k.b.nil) (eI .u8) k.b.D, .pv (.lit (.bool k.raw)), .pv (.lit (.int .i64 k.by_)), .pv (.lit (.int .i64 k.off))], .pv (.lit (.int .i64 at_))] (.pv (.lit (.int .i64 (doIndex k at_)))) := by
 generalize hR : doIndex k at_ = R
 refine PCalls.of_body tabOk Try.func18 rfl rfl rfl rfl rfl mixed fun E hP C hI => ?_
 refine Awp.consP C ?_
 refine rvc_un (rexec_prim C (δ := { v := .ptr 2 0, new := [(2, .cells [.pv (.lit (.int .i64 k.c.kind)), .pv (.lit (.int .i64 k.c.node)), .pv (.lit (.int .i64 k.c.site)), .pv (.lit (.int .i64 k.c.epoch)), sS (some k.b.nil) (eI .u8) k.b.D, .pv (.lit (.bool k.raw)), .pv (.lit (.int .i64 k.by_)), .pv (.lit (.int .i64 k.off))])] }) rfl rfl rfl rfl trivial rfl ?_)
 refine rvP C (.pv (.lit (.int .i64 0))) ?_
 refine rvc_nil ?_
 refine Awp.seq ?_
 refine Awp.consP C ?_
 refine rvP C (.ptr 2 6) ?_
 refine rvP C (.pv (.lit (.int .i64 k.by_))) ?_
 refine rvP C (.pv (.lit (.bool (decide (k.by_ > (-3)))))) ?_
 refine rvP C (.pv (.lit (.bool (decide (k.by_ > (-3)))))) ?_
 refine rvc_case 8 (decide (k.by_ > (-3))) rfl (fun h1 => ?_) (fun h1 => ?_)
 ·
  replace hR := of_true h1 hR
  refine rvO C (.ptr 2 6) ?_
  refine rvO C (.pv (.lit (.int .i64 k.by_))) ?_
  refine rvO C (.pv (.lit (.bool (decide (k.by_ < 3))))) ?_
  refine rvP C (.pv (.lit (.bool (decide (k.by_ < 3))))) ?_
  refine rvc_nil ?_
  refine Awp.cond (b := (decide (k.by_ < 3))) rfl (fun h2 => ?_) (fun h2 => ?_)
  ·
   replace hR := of_true h2 hR
   refine Awp.consP C ?_
   refine rvP C (.pv (.lit (.int .i64 at_))) ?_
   refine rvP C (.pv (.lit (.int .i64 (IntKind.i64.wrap (at_ + 1))))) ?_
   refine rvP C (.ptr 2 6) ?_
   refine rvP C (.pv (.lit (.int .i64 k.by_))) ?_
   refine rvP C (.pv (.lit (.int .i64 (IntKind.i64.wrap ((IntKind.i64.wrap (at_ + 1)) + k.by_))))) ?_
   refine rvP C (.pv (.lit (.int .i64 (IntKind.i64.wrap ((IntKind.i64.wrap (at_ + 1)) + k.by_))))) ?_
   refine rvc_nil ?_
   refine Awp.ret ?_
   subst hR
   exact ⟨.inl rfl, rfl⟩
  ·
   replace hR := of_false h2 hR
   refine Awp.skip ?_
   refine Awp.consP C ?_
   refine rvP C (.pv (.lit (.int .i64 at_))) ?_
   refine rvP C (.pv (.lit (.int .i64 (IntKind.i64.wrap (at_ + 1))))) ?_
   refine rvP C (.pv (.lit (.int .i64 (IntKind.i64.wrap (at_ + 1))))) ?_
   refine rvc_nil ?_
   refine Awp.ret ?_
   subst hR
   exact ⟨.inl rfl, rfl⟩
 ·
  replace hR := of_false h1 hR
  refine rvS ?_
  refine rvS ?_
  refine rvS ?_
  refine rvP C (.pv (.lit (.bool false))) ?_
  refine rvc_nil ?_
  refine Awp.condF (b := false) rfl rfl ?_
  refine Awp.skip ?_
  refine Awp.consP C ?_
  refine rvP C (.pv (.lit (.int .i64 at_))) ?_
  refine rvP C (.pv (.lit (.int .i64 (IntKind.i64.wrap (at_ + 1))))) ?_
  refine rvP C (.pv (.lit (.int .i64 (IntKind.i64.wrap (at_ + 1))))) ?_
  refine rvc_nil ?_
  refine Awp.ret ?_
  subst hR
  exact ⟨.inl rfl, rfl⟩
def doData (k : Do) (epoch : Int) : (Sl Int) :=
  (bif k.raw then k.b else (bif (decide (k.off > (-4))) then (bif (decide (k.off < 4)) then (rCmdPut (Command.mk k.c.kind k.c.node k.c.site (IntKind.i64.wrap (epoch + k.off)))).1 else (rCmdPut k.c).1) else (rCmdPut k.c).1))
theorem doData_calls (k : Do) (epoch : Int)  : PCalls Try.prog 15 [.agg [.pv (.lit (.int .i64 k.c.kind)), .pv (.lit (.int .i64 k.c.node)), .pv (.lit (.int .i64 k.c.site)), .pv (.lit (.int .i64 k.c.epoch)), sS (some k.b.nil) (eI .u8) k.b.D, .pv (.lit (.bool k.raw)), .pv (.lit (.int .i64 k.by_)), .pv (.lit (.int .i64 k.off))], .pv (.lit (.int .i64 epoch))] (sS (some (doData k epoch).nil) (eI .u8) ((doData k epoch).D)) := by
 generalize hR : doData k epoch = R
 refine PCalls.of_body tabOk Try.func15 rfl rfl rfl rfl rfl mixed fun E hP C hI => ?_
 refine Awp.consP C ?_
 refine rvc_un (rexec_prim C (δ := { v := .ptr 2 0, new := [(2, .cells [.pv (.lit (.int .i64 k.c.kind)), .pv (.lit (.int .i64 k.c.node)), .pv (.lit (.int .i64 k.c.site)), .pv (.lit (.int .i64 k.c.epoch)), sS (some k.b.nil) (eI .u8) k.b.D, .pv (.lit (.bool k.raw)), .pv (.lit (.int .i64 k.by_)), .pv (.lit (.int .i64 k.off))])] }) rfl rfl rfl rfl trivial rfl ?_)
 refine rvP C (sS (some true) (eI .u8) []) ?_
 refine rvc_nil ?_
 refine Awp.seq ?_
 refine Awp.consP C ?_
 refine rvP C (.ptr 2 5) ?_
 refine rvP C (.pv (.lit (.bool k.raw))) ?_
 refine rvc_nil ?_
 refine Awp.cond (b := k.raw) rfl (fun h1 => ?_) (fun h1 => ?_)
 ·
  replace hR := of_true h1 hR
  refine Awp.consP C ?_
  refine rvP C (.ptr 2 4) ?_
  refine rvP C (sS (some k.b.nil) (eI .u8) k.b.D) ?_
  refine rvP C (sS (some k.b.nil) (eI .u8) k.b.D) ?_
  refine rvc_nil ?_
  refine Awp.ret ?_
  subst hR
  exact ⟨.inl rfl, rfl⟩
 ·
  replace hR := of_false h1 hR
  refine Awp.skip ?_
  refine Awp.consP C ?_
  refine rvP C (.ptr 2 0) ?_
  refine rvP C (.agg [.pv (.lit (.int .i64 k.c.kind)), .pv (.lit (.int .i64 k.c.node)), .pv (.lit (.int .i64 k.c.site)), .pv (.lit (.int .i64 k.c.epoch))]) ?_
  refine rvc_un (rexec_prim C (δ := { v := .ptr 5 0, new := [(5, .cells [.pv (.lit (.int .i64 0)), .pv (.lit (.int .i64 0)), .pv (.lit (.int .i64 0)), .pv (.lit (.int .i64 0))])] }) rfl rfl rfl rfl trivial rfl ?_)
  refine rvc_un (rexec_prim C (δ := { v := .undef, wr := [(5, some (.cells [.pv (.lit (.int .i64 k.c.kind)), .pv (.lit (.int .i64 k.c.node)), .pv (.lit (.int .i64 k.c.site)), .pv (.lit (.int .i64 k.c.epoch))]))] }) rfl rfl rfl rfl trivial rfl ?_)
  refine rvc_nil ?_
  refine Awp.seq ?_
  refine Awp.consP C ?_
  refine rvP C (.ptr 2 7) ?_
  refine rvP C (.pv (.lit (.int .i64 k.off))) ?_
  refine rvP C (.pv (.lit (.bool (decide (k.off > (-4)))))) ?_
  refine rvP C (.pv (.lit (.bool (decide (k.off > (-4)))))) ?_
  refine rvc_case 17 (decide (k.off > (-4))) rfl (fun h2 => ?_) (fun h2 => ?_)
  ·
   replace hR := of_true h2 hR
   refine rvO C (.ptr 2 7) ?_
   refine rvO C (.pv (.lit (.int .i64 k.off))) ?_
   refine rvO C (.pv (.lit (.bool (decide (k.off < 4))))) ?_
   refine rvP C (.pv (.lit (.bool (decide (k.off < 4))))) ?_
   refine rvc_nil ?_
   refine Awp.cond (b := (decide (k.off < 4))) rfl (fun h3 => ?_) (fun h3 => ?_)
   ·
    replace hR := of_true h3 hR
    refine Awp.regionP C ?_
    refine rvP C (.pv (.lit (.int .i64 epoch))) ?_
    refine rvP C (.ptr 2 7) ?_
    refine rvP C (.pv (.lit (.int .i64 k.off))) ?_
    refine rvP C (.pv (.lit (.int .i64 (IntKind.i64.wrap (epoch + k.off))))) ?_
    refine rvP C (.ptr 5 3) ?_
    refine rvc_un (rexec_prim C (δ := { v := .undef, wr := [(5, some (.cells [.pv (.lit (.int .i64 k.c.kind)), .pv (.lit (.int .i64 k.c.node)), .pv (.lit (.int .i64 k.c.site)), .pv (.lit (.int .i64 (IntKind.i64.wrap (epoch + k.off))))]))] }) rfl rfl rfl rfl trivial rfl ?_)
    refine rvc_nil ?_
    refine Awp.consP C ?_
    refine rvP C (.agg [.pv (.lit (.int .i64 k.c.kind)), .pv (.lit (.int .i64 k.c.node)), .pv (.lit (.int .i64 k.c.site)), .pv (.lit (.int .i64 (IntKind.i64.wrap (epoch + k.off))))]) ?_
    refine rvc_un (rexec_call hP C rfl rfl rfl (rCmdPut_calls (Command.mk k.c.kind k.c.node k.c.site (IntKind.i64.wrap (epoch + k.off)))) ?_)
    refine rvP C (.tup [sS (some (rCmdPut (Command.mk k.c.kind k.c.node k.c.site (IntKind.i64.wrap (epoch + k.off)))).1.nil) (eI .u8) ((rCmdPut (Command.mk k.c.kind k.c.node k.c.site (IntKind.i64.wrap (epoch + k.off)))).1.D), .pv (.lit (.int .i64 ((rCmdPut (Command.mk k.c.kind k.c.node k.c.site (IntKind.i64.wrap (epoch + k.off)))).2)))]) ?_
    refine rvP C (sS (some (rCmdPut (Command.mk k.c.kind k.c.node k.c.site (IntKind.i64.wrap (epoch + k.off)))).1.nil) (eI .u8) ((rCmdPut (Command.mk k.c.kind k.c.node k.c.site (IntKind.i64.wrap (epoch + k.off)))).1.D)) ?_
    refine rvP C (.pv (.lit (.int .i64 ((rCmdPut (Command.mk k.c.kind k.c.node k.c.site (IntKind.i64.wrap (epoch + k.off)))).2)))) ?_
    refine rvP C (sS (some (rCmdPut (Command.mk k.c.kind k.c.node k.c.site (IntKind.i64.wrap (epoch + k.off)))).1.nil) (eI .u8) ((rCmdPut (Command.mk k.c.kind k.c.node k.c.site (IntKind.i64.wrap (epoch + k.off)))).1.D)) ?_
    refine rvP C (.pv (.lit (.int .i64 ((rCmdPut (Command.mk k.c.kind k.c.node k.c.site (IntKind.i64.wrap (epoch + k.off)))).2)))) ?_
    refine rvc_nil ?_
    refine Awp.consP C ?_
    refine rvP C (sS (some (rCmdPut (Command.mk k.c.kind k.c.node k.c.site (IntKind.i64.wrap (epoch + k.off)))).1.nil) (eI .u8) ((rCmdPut (Command.mk k.c.kind k.c.node k.c.site (IntKind.i64.wrap (epoch + k.off)))).1.D)) ?_
    refine rvP C (sS (some (rCmdPut (Command.mk k.c.kind k.c.node k.c.site (IntKind.i64.wrap (epoch + k.off)))).1.nil) (eI .u8) ((rCmdPut (Command.mk k.c.kind k.c.node k.c.site (IntKind.i64.wrap (epoch + k.off)))).1.D)) ?_
    refine rvc_nil ?_
    refine Awp.ret ?_
    subst hR
    exact ⟨.inl rfl, rfl⟩
   ·
    replace hR := of_false h3 hR
    refine Awp.skip ?_
    refine Awp.consP C ?_
    refine rvP C (.agg [.pv (.lit (.int .i64 k.c.kind)), .pv (.lit (.int .i64 k.c.node)), .pv (.lit (.int .i64 k.c.site)), .pv (.lit (.int .i64 k.c.epoch))]) ?_
    refine rvc_un (rexec_call hP C rfl rfl rfl (rCmdPut_calls k.c) ?_)
    refine rvP C (.tup [sS (some (rCmdPut k.c).1.nil) (eI .u8) ((rCmdPut k.c).1.D), .pv (.lit (.int .i64 ((rCmdPut k.c).2)))]) ?_
    refine rvP C (sS (some (rCmdPut k.c).1.nil) (eI .u8) ((rCmdPut k.c).1.D)) ?_
    refine rvP C (.pv (.lit (.int .i64 ((rCmdPut k.c).2)))) ?_
    refine rvP C (sS (some (rCmdPut k.c).1.nil) (eI .u8) ((rCmdPut k.c).1.D)) ?_
    refine rvP C (.pv (.lit (.int .i64 ((rCmdPut k.c).2)))) ?_
    refine rvc_nil ?_
    refine Awp.consP C ?_
    refine rvP C (sS (some (rCmdPut k.c).1.nil) (eI .u8) ((rCmdPut k.c).1.D)) ?_
    refine rvP C (sS (some (rCmdPut k.c).1.nil) (eI .u8) ((rCmdPut k.c).1.D)) ?_
    refine rvc_nil ?_
    refine Awp.ret ?_
    subst hR
    exact ⟨.inl rfl, rfl⟩
  ·
   replace hR := of_false h2 hR
   refine rvS ?_
   refine rvS ?_
   refine rvS ?_
   refine rvP C (.pv (.lit (.bool false))) ?_
   refine rvc_nil ?_
   refine Awp.condF (b := false) rfl rfl ?_
   refine Awp.skip ?_
   refine Awp.consP C ?_
   refine rvP C (.agg [.pv (.lit (.int .i64 k.c.kind)), .pv (.lit (.int .i64 k.c.node)), .pv (.lit (.int .i64 k.c.site)), .pv (.lit (.int .i64 k.c.epoch))]) ?_
   refine rvc_un (rexec_call hP C rfl rfl rfl (rCmdPut_calls k.c) ?_)
   refine rvP C (.tup [sS (some (rCmdPut k.c).1.nil) (eI .u8) ((rCmdPut k.c).1.D), .pv (.lit (.int .i64 ((rCmdPut k.c).2)))]) ?_
   refine rvP C (sS (some (rCmdPut k.c).1.nil) (eI .u8) ((rCmdPut k.c).1.D)) ?_
   refine rvP C (.pv (.lit (.int .i64 ((rCmdPut k.c).2)))) ?_
   refine rvP C (sS (some (rCmdPut k.c).1.nil) (eI .u8) ((rCmdPut k.c).1.D)) ?_
   refine rvP C (.pv (.lit (.int .i64 ((rCmdPut k.c).2)))) ?_
   refine rvc_nil ?_
   refine Awp.consP C ?_
   refine rvP C (sS (some (rCmdPut k.c).1.nil) (eI .u8) ((rCmdPut k.c).1.D)) ?_
   refine rvP C (sS (some (rCmdPut k.c).1.nil) (eI .u8) ((rCmdPut k.c).1.D)) ?_
   refine rvc_nil ?_
   refine Awp.ret ?_
   subst hR
   exact ⟨.inl rfl, rfl⟩
def short_l1 (x : (Sl Do)) (kk : Int → Int → Int → Bool) : Nat → Int → Int → Int → Bool
  | 0, _, _, _ => default
  | nn + 1, n1, acts1, i1 => (bif (decide (i1 < (x.D.length : Int))) then (bif (decide (acts1 ≤ 150)) then (bif (decide (n1 ≤ 4096)) then short_l1 x kk nn (IntKind.i64.wrap (n1 + (bif (decide ((4097 : Int) < ((x.D[i1.toNat]!.b.D).length : Int))) then (4097 : Int) else ((x.D[i1.toNat]!.b.D).length : Int)))) (IntKind.i64.wrap (acts1 + 1)) (IntKind.i64.wrap (i1 + 1)) else kk n1 acts1 i1) else kk n1 acts1 i1) else kk n1 acts1 i1)
def short_l0 : List (Sl Do) → Nat → Int → Int → Bool
  | [], _, n, acts => (bif (decide (acts ≤ 150)) then (decide (n ≤ 4096)) else false)
  | x :: xs, i, n, acts => short_l1 x (fun n1 acts1 _ => short_l0 xs (i + 1) n1 acts1) ((x.D.length - (0 : Int).toNat) + 1) n acts 0
def short (lists : (Sl (Sl Do))) : Bool :=
  short_l0 lists.D 0 0 0
theorem short_calls (lists : (Sl (Sl Do))) (hl1 : lists.D.length ≤ 9223372036854775807) : PCalls Try.prog 10 [sS (some lists.nil) (eSl eDo) lists.D] (.pv (.lit (.bool (short lists)))) := by
 generalize hR : short lists = R
 refine PCalls.of_body tabOk Try.func10 rfl rfl rfl rfl rfl mixed fun E hP C hI => ?_
 refine Awp.consP C ?_
 refine rvP C (.pv (.lit (.bool false))) ?_
 refine rvc_nil ?_
 refine Awp.consP C ?_
 refine rvP C (.pv (.lit (.int .i64 0))) ?_
 refine rvP C (.pv (.lit (.int .i64 0))) ?_
 refine rvc_nil ?_
 refine Awp.seq ?_
 refine Awp.consP C ?_
 refine rvP C (sS (some lists.nil) (eSl eDo) lists.D) ?_
 refine rvP C (.pv (.lit (.int .i64 (lists.D.length : Int)))) ?_
 refine rvP C (.pv (.lit (.int .i64 0))) ?_
 refine rvc_nil ?_
 refine Awp.block ?_
 refine Awp.forR (σ := Int × Int) (lists.D.length) (fun i v => [(3, .pv (.lit (.int .i64 v.1))), (4, .pv (.lit (.int .i64 v.2))), (8, sS (some lists.nil) (eSl eDo) lists.D), (9, .pv (.lit (.int .i64 (lists.D.length : Int)))), (10, .pv (.lit (.int .i64 (i : Int))))]) (fun i v => []) [] (fun i v => (short_l0 (lists.D.drop i) i v.1 v.2 = R) ∧ ((0 ≤ v.2 ∧ v.2 ≤ 151) ∧ (0 ≤ v.1 ∧ v.1 ≤ 8193))) (0, 0) ?_ ?_ (fun i v h1 hR => ?_)
 · exact ⟨hR, (by dsimp only; omega)⟩
 · exact ⟨fun b => b, WeakerR.ofL (Ks := []) hI ⟨⟨rfl, rfl⟩, ⟨rfl, rfl⟩, ⟨rfl, rfl⟩, ⟨rfl, rfl⟩, ⟨rfl, rfl⟩, trivial⟩ (okH_nil) rfl⟩
 obtain ⟨n, acts⟩ := v
 obtain ⟨hR, hV⟩ := hR
 replace hV : (0 ≤ acts ∧ acts ≤ 151) ∧ (0 ≤ n ∧ n ≤ 8193) := hV
 refine Awp.consP C ?_
 refine rvP C (.pv (.lit (.bool (decide ((i : Int) < (lists.D.length : Int)))))) ?_
 refine rvc_nil ?_
 refine Awp.seq ?_
 refine Awp.cond (b := (decide ((i : Int) < (lists.D.length : Int)))) rfl (fun h2 => ?_) (fun h2 => ?_)
 ·
  have h3 : i < lists.D.length := by have := of_decide_eq_true h2; omega
  obtain ⟨x, h4⟩ := getX h3
  rw [drop_at h4] at hR
  refine Awp.skip ?_
  refine Awp.seq ?_
  refine Awp.block ?_
  refine Awp.consP C ?_
  refine rvc_un (rexec_idxS C rfl rfl rfl rfl rfl rfl x (Int.natCast_nonneg _) h4 ?_)
  refine rvP C (sS (some x.nil) eDo x.D) ?_
  refine rvP C (sS (some x.nil) eDo x.D) ?_
  refine rvc_nil ?_
  refine Awp.consP C ?_
  refine rvP C (.pv (.lit (.int .i64 0))) ?_
  refine rvc_nil ?_
  refine Awp.block ?_
  refine Awp.forM (σ := Int × Int × Int) (fun v => [(3, .pv (.lit (.int .i64 v.1))), (4, .pv (.lit (.int .i64 v.2.1))), (6, sS (some x.nil) eDo x.D), (7, .pv (.lit (.int .i64 v.2.2))), (8, sS (some lists.nil) (eSl eDo) lists.D), (9, .pv (.lit (.int .i64 (lists.D.length : Int)))), (10, .pv (.lit (.int .i64 (i : Int))))]) (fun v => []) [] (fun n v => n = (x.D.length - (v.2.2 : Int).toNat) ∧ short_l1 x (fun n1 acts1 _ => short_l0 (lists.D.drop (i + 1)) (i + 1) n1 acts1) ((x.D.length - (v.2.2 : Int).toNat) + 1) v.1 v.2.1 v.2.2 = R ∧ (((0 ≤ v.2.1 ∧ v.2.1 ≤ 151) ∧ (0 ≤ v.1 ∧ v.1 ≤ 8193)) ∧ 0 ≤ v.2.2 ∧ v.2.2 ≤ (x.D.length : Int) ∧ v.2.2 ≤ v.2.1)) ((x.D.length - (0 : Int).toNat)) (n, acts, 0) ?_ ?_ (fun _ v h5 => ?_)
  · exact ⟨rfl, hR, (by dsimp only; omega)⟩
  · exact ⟨fun b => b, WeakerR.ofL (Ks := []) hI ⟨⟨rfl, rfl⟩, ⟨rfl, rfl⟩, ⟨rfl, rfl⟩, ⟨rfl, rfl⟩, ⟨rfl, rfl⟩, ⟨rfl, rfl⟩, ⟨rfl, rfl⟩, trivial⟩ (okH_nil) rfl⟩
  obtain ⟨n1, acts1, i1⟩ := v
  obtain ⟨rfl, hR, hW⟩ := h5
  replace hW : ((0 ≤ acts1 ∧ acts1 ≤ 151) ∧ (0 ≤ n1 ∧ n1 ≤ 8193)) ∧ 0 ≤ i1 ∧ i1 ≤ (x.D.length : Int) ∧ i1 ≤ acts1 := hW
  refine Awp.seq ?_
  refine Awp.consP C ?_
  refine rvP C (.pv (.lit (.int .i64 i1))) ?_
  refine rvP C (sS (some x.nil) eDo x.D) ?_
  refine rvP C (.pv (.lit (.int .i64 (x.D.length : Int)))) ?_
  refine rvP C (.pv (.lit (.bool (decide (i1 < (x.D.length : Int)))))) ?_
  refine rvP C (.pv (.lit (.bool (decide (i1 < (x.D.length : Int)))))) ?_
  refine rvc_case 18 (decide (i1 < (x.D.length : Int))) rfl (fun h7 => ?_) (fun h7 => ?_)
  ·
   replace hR := of_true h7 hR
   refine rvO C (.pv (.lit (.int .i64 acts1))) ?_
   refine rvO C (.pv (.lit (.bool (decide (acts1 ≤ 150))))) ?_
   refine rvP C (.pv (.lit (.bool (decide (acts1 ≤ 150))))) ?_
   refine rvP C (.pv (.lit (.bool (decide (acts1 ≤ 150))))) ?_
   refine rvc_case 22 (decide (acts1 ≤ 150)) rfl (fun h8 => ?_) (fun h8 => ?_)
   ·
    replace hR := of_true h8 hR
    refine rvO C (.pv (.lit (.int .i64 n1))) ?_
    refine rvO C (.pv (.lit (.bool (decide (n1 ≤ 4096))))) ?_
    refine rvP C (.pv (.lit (.bool (decide (n1 ≤ 4096))))) ?_
    refine rvc_nil ?_
    refine Awp.cond (b := (decide (n1 ≤ 4096))) rfl (fun h9 => ?_) (fun h9 => ?_)
    ·
     replace hR := of_true h9 hR
     refine Awp.skip ?_
     refine Awp.seq ?_
     refine Awp.block ?_
     refine Awp.consP C ?_
     refine rvP C (.pv (.lit (.int .i64 acts1))) ?_
     refine rvP C (.pv (.lit (.int .i64 (IntKind.i64.wrap (acts1 + 1))))) ?_
     refine rvP C (.pv (.lit (.int .i64 (IntKind.i64.wrap (acts1 + 1))))) ?_
     refine rvc_nil ?_
     refine Awp.regionP C ?_
     refine rvP C (.pv (.lit (.int .i64 n1))) ?_
     refine rvP C (sS (some x.nil) eDo x.D) ?_
     refine rvP C (.pv (.lit (.int .i64 i1))) ?_
     have h10 : x.D[i1.toNat]? = some x.D[i1.toNat]! := getE (by have := of_decide_eq_true h2; have := of_decide_eq_true h7; have := of_decide_eq_true h8; have := of_decide_eq_true h9; omega)
     refine rvc_un (rexec_idxS C rfl rfl rfl rfl rfl rfl (x.D[i1.toNat]!) (by have := of_decide_eq_true h2; have := of_decide_eq_true h7; have := of_decide_eq_true h8; have := of_decide_eq_true h9; omega) h10 ?_)
     refine rvP C (.rp [.sl (some x.D[i1.toNat]!.b.nil) (x.D[i1.toNat]!.b.D).length (encL (eI .u8) (x.D[i1.toNat]!.b.D))]) ?_
     refine rvP C (sS (some x.D[i1.toNat]!.b.nil) (eI .u8) (x.D[i1.toNat]!.b.D)) ?_
     refine rvP C (.pv (.lit (.int .i64 ((x.D[i1.toNat]!.b.D).length : Int)))) ?_
     refine rvc_un (rexec_min C rfl rfl rfl ?_)
     refine rvP C (.pv (.lit (.int .i64 (IntKind.i64.wrap (n1 + (bif (decide ((4097 : Int) < ((x.D[i1.toNat]!.b.D).length : Int))) then (4097 : Int) else ((x.D[i1.toNat]!.b.D).length : Int))))))) ?_
     refine rvP C (.pv (.lit (.int .i64 (IntKind.i64.wrap (n1 + (bif (decide ((4097 : Int) < ((x.D[i1.toNat]!.b.D).length : Int))) then (4097 : Int) else ((x.D[i1.toNat]!.b.D).length : Int))))))) ?_
     refine rvc_nil ?_
     refine Awp.regionP C ?_
     refine rvP C (.pv (.lit (.int .i64 i1))) ?_
     refine rvP C (.pv (.lit (.int .i64 (IntKind.i64.wrap (i1 + 1))))) ?_
     refine rvP C (.pv (.lit (.int .i64 (IntKind.i64.wrap (i1 + 1))))) ?_
     refine rvc_nil ?_
     refine ⟨_, ((IntKind.i64.wrap (n1 + (bif (decide ((4097 : Int) < ((x.D[i1.toNat]!.b.D).length : Int))) then (4097 : Int) else ((x.D[i1.toNat]!.b.D).length : Int)))), (IntKind.i64.wrap (acts1 + 1)), (IntKind.i64.wrap (i1 + 1))), ?_, ⟨rfl, (by rw [show (x.D.length - ((IntKind.i64.wrap (i1 + 1)) : Int).toNat) + 1 = (x.D.length - (i1 : Int).toNat) by have := wrapI (n1 + (bif (decide ((4097 : Int) < ((x.D[i1.toNat]!.b.D).length : Int))) then (4097 : Int) else ((x.D[i1.toNat]!.b.D).length : Int))); have := wrapI (acts1 + 1); have := wrapI (i1 + 1); have := of_decide_eq_true h2; have := of_decide_eq_true h7; have := of_decide_eq_true h8; have := of_decide_eq_true h9; first | omega | (simp only [List.length_drop]; omega)]; exact hR), (by have hm_ := min97 ((x.D[i1.toNat]!.b.D).length : Int); have := wrapI (n1 + (bif (decide ((4097 : Int) < ((x.D[i1.toNat]!.b.D).length : Int))) then (4097 : Int) else ((x.D[i1.toNat]!.b.D).length : Int))); have := wrapI (acts1 + 1); have := wrapI (i1 + 1); have := of_decide_eq_true ‹decide (i1 < (x.D.length : Int)) = true›; have := of_decide_eq_true ‹decide (acts1 ≤ 150) = true›; have := of_decide_eq_true ‹decide (n1 ≤ 4096) = true›; have := hm_ (Int.natCast_nonneg _); dsimp only; omega)⟩, ?_⟩
     · show (x.D.length - ((IntKind.i64.wrap (i1 + 1)) : Int).toNat) < (x.D.length - (i1 : Int).toNat); have := wrapI (n1 + (bif (decide ((4097 : Int) < ((x.D[i1.toNat]!.b.D).length : Int))) then (4097 : Int) else ((x.D[i1.toNat]!.b.D).length : Int))); have := wrapI (acts1 + 1); have := wrapI (i1 + 1); have := of_decide_eq_true h2; have := of_decide_eq_true h7; have := of_decide_eq_true h8; have := of_decide_eq_true h9; first | omega | (simp only [List.length_drop]; omega)
     · exact ⟨fun b => b, WeakerR.ofL (Ks := []) hI ⟨⟨rfl, rfl⟩, ⟨rfl, rfl⟩, ⟨rfl, rfl⟩, ⟨rfl, rfl⟩, ⟨rfl, rfl⟩, ⟨rfl, rfl⟩, ⟨rfl, rfl⟩, trivial⟩ (okH_nil) rfl⟩
    ·
     replace hR := of_false h9 hR
     refine Awp.exit ?_
     refine Awp.regionP C ?_
     refine rvP C (.pv (.lit (.int .i64 (IntKind.i64.wrap ((i : Int) + 1))))) ?_
     refine rvP C (.pv (.lit (.int .i64 (IntKind.i64.wrap ((i : Int) + 1))))) ?_
     refine rvc_nil ?_
     refine ⟨h3, (n1, acts1), ?_, ?_⟩
     · exact ⟨hR, hW.1⟩
     · exact ⟨fun b => b, WeakerR.ofL (Ks := []) hI ⟨⟨rfl, rfl⟩, ⟨rfl, rfl⟩, ⟨rfl, rfl⟩, ⟨rfl, rfl⟩, ⟨lit_cast (wrap_i64 (by omega) (by omega)), rfl⟩, trivial⟩ (okH_nil) rfl⟩
   ·
    replace hR := of_false h8 hR
    refine rvS ?_
    refine rvS ?_
    refine rvP C (.pv (.lit (.bool false))) ?_
    refine rvc_nil ?_
    refine Awp.condF (b := false) rfl rfl ?_
    refine Awp.exit ?_
    refine Awp.regionP C ?_
    refine rvP C (.pv (.lit (.int .i64 (IntKind.i64.wrap ((i : Int) + 1))))) ?_
    refine rvP C (.pv (.lit (.int .i64 (IntKind.i64.wrap ((i : Int) + 1))))) ?_
    refine rvc_nil ?_
    refine ⟨h3, (n1, acts1), ?_, ?_⟩
    · exact ⟨hR, hW.1⟩
    · exact ⟨fun b => b, WeakerR.ofL (Ks := []) hI ⟨⟨rfl, rfl⟩, ⟨rfl, rfl⟩, ⟨rfl, rfl⟩, ⟨rfl, rfl⟩, ⟨lit_cast (wrap_i64 (by omega) (by omega)), rfl⟩, trivial⟩ (okH_nil) rfl⟩
  ·
   replace hR := of_false h7 hR
   refine rvS ?_
   refine rvS ?_
   refine rvP C (.pv (.lit (.bool false))) ?_
   refine rvP C (.pv (.lit (.bool false))) ?_
   refine rvS ?_
   refine rvS ?_
   refine rvP C (.pv (.lit (.bool false))) ?_
   refine rvc_nil ?_
   refine Awp.condF (b := false) rfl rfl ?_
   refine Awp.exit ?_
   refine Awp.regionP C ?_
   refine rvP C (.pv (.lit (.int .i64 (IntKind.i64.wrap ((i : Int) + 1))))) ?_
   refine rvP C (.pv (.lit (.int .i64 (IntKind.i64.wrap ((i : Int) + 1))))) ?_
   refine rvc_nil ?_
   refine ⟨h3, (n1, acts1), ?_, ?_⟩
   · exact ⟨hR, hW.1⟩
   · exact ⟨fun b => b, WeakerR.ofL (Ks := []) hI ⟨⟨rfl, rfl⟩, ⟨rfl, rfl⟩, ⟨rfl, rfl⟩, ⟨rfl, rfl⟩, ⟨lit_cast (wrap_i64 (by omega) (by omega)), rfl⟩, trivial⟩ (okH_nil) rfl⟩
 ·
  have h3 : ¬ i < lists.D.length := by have := of_decide_eq_false h2; omega
  rw [drop_end h3] at hR
  refine Awp.exit ?_
  refine Awp.consP C ?_
  refine rvP C (.pv (.lit (.int .i64 acts))) ?_
  refine rvP C (.pv (.lit (.bool (decide (acts ≤ 150))))) ?_
  refine rvP C (.pv (.lit (.bool (decide (acts ≤ 150))))) ?_
  refine rvc_case 42 (decide (acts ≤ 150)) rfl (fun h11 => ?_) (fun h11 => ?_)
  ·
   replace hR := of_true h11 hR
   refine rvO C (.pv (.lit (.int .i64 n))) ?_
   refine rvO C (.pv (.lit (.bool (decide (n ≤ 4096))))) ?_
   refine rvP C (.pv (.lit (.bool (decide (n ≤ 4096))))) ?_
   refine rvP C (.pv (.lit (.bool (decide (n ≤ 4096))))) ?_
   refine rvc_nil ?_
   refine Awp.ret ?_
   subst hR
   exact ⟨.inl rfl, rfl⟩
  ·
   replace hR := of_false h11 hR
   refine rvS ?_
   refine rvS ?_
   refine rvP C (.pv (.lit (.bool false))) ?_
   refine rvP C (.pv (.lit (.bool false))) ?_
   refine rvc_nil ?_
   refine Awp.ret ?_
   subst hR
   exact ⟨.inl rfl, rfl⟩
end Go.Proofs.Ytpgenmflgdkfiaa
/- Ledgers made. No conditions. -/
namespace Go.Proofs.Ytpgenmflgdkfiaa
open Go.Am
def newL (l : (Sl Member)) : Ledger × Int :=
  ((Ledger.mk (Past.mk (Sl.mk false [(firstC l).1])) ((firstC l).1) 0), 0)
theorem newL_calls (l : (Sl Member)) (h0 : (((firstC l).2) != 0) = false) (hl1 : l.D.length ≤ 1000000) : OCalls Try.prog 12 [sS (some l.nil) eMember l.D] (.tup [.ptr 0 0, .pv (.lit (.int .i64 ((newL l).2)))]) (.cells [sS (some (newL l).1.past.all.nil) eChain ((newL l).1.past.all.D), .pv (.lit (.int .i64 ((newL l).1.chain.epoch))), sS (some (newL l).1.chain.members.nil) eMember ((newL l).1.chain.members.D), .pv (.lit (.int .i64 ((newL l).1.at_)))]) := by
 generalize hR : newL l = R
 refine OCalls.of_body tabOk Try.func12 rfl rfl rfl rfl rfl rfl mixed fun E hP C hI => ?_
 refine Awp.consP C ?_
 refine rvP C (.pv (.lit (.pointer none))) ?_
 refine rvP C (.pv (.lit (.int .i64 0))) ?_
 refine rvc_nil ?_
 refine Awp.consP C ?_
 refine rvP C (sS (some l.nil) eMember l.D) ?_
 refine rvc_un (rexec_call hP C rfl rfl rfl (firstC_calls l hl1) ?_)
 refine rvP C (.tup [.agg [.pv (.lit (.int .i64 ((firstC l).1.epoch))), sS (some (firstC l).1.members.nil) eMember ((firstC l).1.members.D)], .pv (.lit (.int .i64 ((firstC l).2)))]) ?_
 refine rvP C (.agg [.pv (.lit (.int .i64 ((firstC l).1.epoch))), sS (some (firstC l).1.members.nil) eMember ((firstC l).1.members.D)]) ?_
 refine rvP C (.pv (.lit (.int .i64 ((firstC l).2)))) ?_
 refine rvc_un (rexec_prim C (δ := { v := .ptr 4 0, new := [(4, .cells [.pv (.lit (.int .i64 0)), sS (some true) eMember []])] }) rfl rfl rfl rfl trivial rfl ?_)
 refine rvc_un (rexec_prim C (δ := { v := .undef, wr := [(4, some (.cells [.pv (.lit (.int .i64 ((firstC l).1.epoch))), sS (some (firstC l).1.members.nil) eMember ((firstC l).1.members.D)]))] }) rfl rfl rfl rfl trivial rfl ?_)
 refine rvP C (.pv (.lit (.int .i64 ((firstC l).2)))) ?_
 refine rvc_nil ?_
 refine Awp.seq ?_
 refine Awp.consP C ?_
 refine rvP C (.pv (.lit (.int .i64 ((firstC l).2)))) ?_
 refine rvP C (.pv (.lit (.bool (((firstC l).2) != 0)))) ?_
 refine rvc_nil ?_
 refine Awp.condF (b := (((firstC l).2) != 0)) rfl h0 ?_
 refine Awp.skip ?_
 refine Awp.consP C ?_
 refine rvP C (.agg [.pv (.lit (.int .i64 ((firstC l).1.epoch))), sS (some (firstC l).1.members.nil) eMember ((firstC l).1.members.D)]) ?_
 refine rvc_un (rexec_buildSliceF C eChain [(firstC l).1] rfl rfl rfl rfl rfl rfl rfl (by decide) rfl ?_)
 refine rvP C (.agg [sS (some false) eChain [(firstC l).1]]) ?_
 refine rvP C (.agg [.pv (.lit (.int .i64 ((firstC l).1.epoch))), sS (some (firstC l).1.members.nil) eMember ((firstC l).1.members.D)]) ?_
 refine rvP C (.agg [sS (some false) eChain [(firstC l).1], .pv (.lit (.int .i64 ((firstC l).1.epoch))), sS (some (firstC l).1.members.nil) eMember ((firstC l).1.members.D), .pv (.lit (.int .i64 0))]) ?_
 refine rvc_un (rexec_prim C (δ := { v := .ptr 19 0, new := [(19, .cells [sS (some false) eChain [(firstC l).1], .pv (.lit (.int .i64 ((firstC l).1.epoch))), sS (some (firstC l).1.members.nil) eMember ((firstC l).1.members.D), .pv (.lit (.int .i64 0))])] }) rfl rfl rfl rfl trivial rfl ?_)
 refine rvP C (.ptr 19 0) ?_
 refine rvP C (.pv (.lit (.int .i64 0))) ?_
 refine rvc_nil ?_
 refine Awp.weakenR (S := [(2, .ptr 0 0), (3, .pv (.lit (.int .i64 0)))]) (H := [(0, .cells [sS (some false) eChain [(firstC l).1], .pv (.lit (.int .i64 ((firstC l).1.epoch))), sS (some (firstC l).1.members.nil) eMember ((firstC l).1.members.D), .pv (.lit (.int .i64 0))])]) (U := [0]) (fun x => bif x == 0 then 19 else x) (WeakerR.ofL (Ks := [0]) hI ⟨⟨rfl, rfl⟩, ⟨rfl, rfl⟩, trivial⟩ (okH_cons rfl rfl rfl rfl okH_nil) rfl) ?_
 refine Awp.ret ?_
 subst hR
 exact ⟨.inl rfl, rfl, rfl⟩
def newNil (l : (Sl Member)) : Unit × Int :=
  ((), (firstC l).2)
theorem newNil_calls (l : (Sl Member)) (h0 : (((firstC l).2) != 0) = true) (hl1 : l.D.length ≤ 1000000) : PCalls Try.prog 12 [sS (some l.nil) eMember l.D] (.tup [.pv (.lit (.pointer none)), .pv (.lit (.int .i64 ((newNil l).2)))]) := by
 generalize hR : newNil l = R
 refine PCalls.of_body tabOk Try.func12 rfl rfl rfl rfl rfl mixed fun E hP C hI => ?_
 refine Awp.consP C ?_
 refine rvP C (.pv (.lit (.pointer none))) ?_
 refine rvP C (.pv (.lit (.int .i64 0))) ?_
 refine rvc_nil ?_
 refine Awp.consP C ?_
 refine rvP C (sS (some l.nil) eMember l.D) ?_
 refine rvc_un (rexec_call hP C rfl rfl rfl (firstC_calls l hl1) ?_)
 refine rvP C (.tup [.agg [.pv (.lit (.int .i64 ((firstC l).1.epoch))), sS (some (firstC l).1.members.nil) eMember ((firstC l).1.members.D)], .pv (.lit (.int .i64 ((firstC l).2)))]) ?_
 refine rvP C (.agg [.pv (.lit (.int .i64 ((firstC l).1.epoch))), sS (some (firstC l).1.members.nil) eMember ((firstC l).1.members.D)]) ?_
 refine rvP C (.pv (.lit (.int .i64 ((firstC l).2)))) ?_
 refine rvc_un (rexec_prim C (δ := { v := .ptr 4 0, new := [(4, .cells [.pv (.lit (.int .i64 0)), sS (some true) eMember []])] }) rfl rfl rfl rfl trivial rfl ?_)
 refine rvc_un (rexec_prim C (δ := { v := .undef, wr := [(4, some (.cells [.pv (.lit (.int .i64 ((firstC l).1.epoch))), sS (some (firstC l).1.members.nil) eMember ((firstC l).1.members.D)]))] }) rfl rfl rfl rfl trivial rfl ?_)
 refine rvP C (.pv (.lit (.int .i64 ((firstC l).2)))) ?_
 refine rvc_nil ?_
 refine Awp.seq ?_
 refine Awp.consP C ?_
 refine rvP C (.pv (.lit (.int .i64 ((firstC l).2)))) ?_
 refine rvP C (.pv (.lit (.bool (((firstC l).2) != 0)))) ?_
 refine rvc_nil ?_
 refine Awp.condT (b := (((firstC l).2) != 0)) rfl h0 ?_
 refine Awp.consP C ?_
 refine rvP C (.pv (.lit (.int .i64 ((firstC l).2)))) ?_
 refine rvP C (.pv (.lit (.pointer none))) ?_
 refine rvP C (.pv (.lit (.int .i64 ((firstC l).2)))) ?_
 refine rvc_nil ?_
 refine Awp.ret ?_
 subst hR
 exact ⟨.inl rfl, rfl⟩
end Go.Proofs.Ytpgenmflgdkfiaa
/- Ledgers behind calls: how long chains and commands' bytes are. No conditions. -/
namespace Go.Proofs.Ytpgenmflgdkfiaa
open Go.Am
theorem rPut_l1_len {B : Nat} (kk : List Int → Int → Sl Int) : ∀ (k i : Nat) (out : List Int) (n : Int), (∀ out' n', out'.length ≤ out.length + k → (kk out' n').D.length ≤ B) → (rPut_l1 kk k i out n).D.length ≤ B
  | 0, _, out, n, h => h out n (Nat.le_refl _)
  | k + 1, i, out, n, h => by
    unfold rPut_l1
    cases decide (n < 128)
    · exact rPut_l1_len kk k (i + 1) _ _ fun o m ho => h o m (by rw [List.length_append, List.length_singleton] at ho; omega)
    · exact h out n (by omega)
theorem rPut_l0_len : ∀ (l : List Int) (i : Nat) (out : List Int), (rPut_l0 l i out).D.length ≤ out.length + 11 * l.length
  | [], _, out => Nat.le_refl _
  | x :: l, i, out => by
    unfold rPut_l0
    refine rPut_l1_len _ 10 0 out x fun o n ho => ?_
    have := rPut_l0_len l (i + 1) (o ++ [IntKind.u8.wrap n])
    rw [List.length_append, List.length_singleton] at this
    simp only [List.length_cons]
    omega
theorem rCmdPut_len (c : Command) : (rCmdPut c).1.D.length ≤ 44 := by
  unfold rCmdPut
  cases (rCmdCheck c) != 0
  · exact rPut_l0_len _ 0 []
  · exact Nat.zero_le _
theorem data_len (k : Do) (e : Int) (h : k.b.D.length ≤ 100000) : (doData k e).D.length ≤ 1000000 := by
  unfold doData
  have h1 := rCmdPut_len k.c
  have h2 := rCmdPut_len (Command.mk k.c.kind k.c.node k.c.site (IntKind.i64.wrap (e + k.off)))
  cases k.raw
  · cases decide (k.off > (-4))
    · simp only [cond_false]; omega
    · cases decide (k.off < 4)
      · simp only [cond_false, cond_true]; omega
      · simp only [cond_false, cond_true]; omega
  · simp only [cond_true]; omega
theorem newL_e (m : Sl Member) : (((newL m).2) != 0) = false := rfl
theorem newL_ok (m : Sl Member) (h : m.D.length ≤ 1000000) : okL (newL m).1 ∧ (newL m).1.past.all.D.length ≤ 1 + 0 := by
  have h1 := firstC_len m
  refine ⟨⟨firstC_hn m, Nat.le_trans h1 h, fun x hx => ?_⟩, Nat.le_refl _⟩
  have : x = (firstC m).1 := by simpa [newL] using hx
  rw [this]; exact Nat.le_trans h1 h
theorem copied_len (c : Chain) : (copied c).members.D.length ≤ c.members.D.length := clone_len c.members
theorem apply_okL {g : Ledger} (h : okL g) (i : Int) (d : Sl Int) : okL (lApply g i d).1 := by
  obtain ⟨h1, h2, h3⟩ := h
  have hf := few_next g.chain (cmdGet d).1
  unfold lApply
  cases lDead g
  · cases decide (i > 1099511627776)
    · cases decide (i < 1)
      · cases (IntKind.i64.wrap (i - 1)) != g.at_
        · cases (d.D.length : Int) == 0
          · cases (cmdGet d).2 != 0
            · cases (nextL g.chain (cmdGet d).1).2 != 0
              · cases decide ((nextL g.chain (cmdGet d).1).1.epoch > g.chain.epoch)
                · exact ⟨hf.1, Nat.le_trans hf.2 (by decide), h3⟩
                · refine ⟨hf.1, Nat.le_trans hf.2 (by decide), fun x hx => ?_⟩
                  rcases List.mem_append.1 hx with hx | hx
                  · exact h3 x hx
                  · rw [List.mem_singleton.1 hx]
                    exact Nat.le_trans (copied_len _) (Nat.le_trans hf.2 (by decide))
              · exact ⟨h1, h2, h3⟩
            · exact ⟨h1, h2, h3⟩
          · exact ⟨h1, h2, h3⟩
        · exact ⟨h1, h2, h3⟩
      · exact ⟨h1, h2, h3⟩
    · exact ⟨h1, h2, h3⟩
  · exact ⟨h1, h2, h3⟩
theorem apply_all (g : Ledger) (i : Int) (d : Sl Int) : (lApply g i d).1.past.all.D.length ≤ g.past.all.D.length + 1 := by
  unfold lApply
  cases lDead g
  · cases decide (i > 1099511627776)
    · cases decide (i < 1)
      · cases (IntKind.i64.wrap (i - 1)) != g.at_
        · cases (d.D.length : Int) == 0
          · cases (cmdGet d).2 != 0
            · cases (nextL g.chain (cmdGet d).1).2 != 0
              · cases decide ((nextL g.chain (cmdGet d).1).1.epoch > g.chain.epoch)
                · exact Nat.le_succ _
                · show (_ ++ [_]).length ≤ _
                  rw [List.length_append, List.length_singleton]; exact Nat.le_refl _
              · exact Nat.le_succ _
            · exact Nat.le_succ _
          · exact Nat.le_succ _
        · exact Nat.le_succ _
      · exact Nat.le_succ _
    · exact Nat.le_succ _
  · exact Nat.le_succ _
theorem apply_ok {g : Ledger} {n : Nat} (h : okL g) (ha : g.past.all.D.length ≤ 1 + n) {i : Int} {d : Sl Int} : okL (lApply g i d).1 ∧ (lApply g i d).1.past.all.D.length ≤ 1 + (n + 1) :=
  ⟨apply_okL h i d, by have := apply_all g i d; omega⟩
end Go.Proofs.Ytpgenmflgdkfiaa
/- A ledger behind calls. No conditions. -/
namespace Go.Proofs.Ytpgenmflgdkfiaa
open Go.Am
def made_l0 : List Do → Nat → Ledger → Ledger
  | [], _, vc => vc
  | x :: xs, i, vc => made_l0 xs (i + 1) ((lApply vc (doIndex x (lAt vc)) (doData x ((lChain vc).epoch))).1)
def made (m : (Sl Member)) (l : (Sl Do)) : Ledger :=
  made_l0 l.D 0 ((newL m).1)
theorem made_calls (m : (Sl Member)) (l : (Sl Do)) (h0 : (((firstC m).2) != 0) = false) (hL : l.D.length ≤ 1000) (hB : ∀ x ∈ l.D, x.b.D.length ≤ 100000) (hl1 : m.D.length ≤ 1000000) (_hl2 : l.D.length ≤ 1000000) : OCalls Try.prog 13 [sS (some m.nil) eMember m.D, sS (some l.nil) eDo l.D] (.ptr 0 0) (.cells [sS (some (made m l).past.all.nil) eChain ((made m l).past.all.D), .pv (.lit (.int .i64 ((made m l).chain.epoch))), sS (some (made m l).chain.members.nil) eMember ((made m l).chain.members.D), .pv (.lit (.int .i64 ((made m l).at_)))]) := by
 generalize hR : made m l = R
 refine OCalls.of_body tabOk Try.func13 rfl rfl rfl rfl rfl rfl mixed fun E hP C hI => ?_
 refine Awp.consP C ?_
 refine rvP C (.pv (.lit (.pointer none))) ?_
 refine rvc_nil ?_
 refine Awp.cons C (fun _ => .quiet) (by kernel_rfl) ?_
 refine rvP C (sS (some m.nil) eMember m.D) ?_
 refine rvc_un (rexec_callO hP C rfl rfl rfl rfl (newL_calls m h0 hl1) ?_)
 refine rvP C (.tup [.ptr 11 0, .pv (.lit (.int .i64 ((newL m).2)))]) ?_
 refine rvP C (.ptr 11 0) ?_
 refine rvP C (.pv (.lit (.int .i64 ((newL m).2)))) ?_
 refine rvP C (.ptr 11 0) ?_
 refine rvP C (.pv (.lit (.int .i64 ((newL m).2)))) ?_
 refine rvc_nil ?_
 refine Awp.seq ?_
 refine Awp.consP C ?_
 refine rvP C (sS (some l.nil) eDo l.D) ?_
 refine rvP C (.pv (.lit (.int .i64 (l.D.length : Int)))) ?_
 refine rvP C (.pv (.lit (.int .i64 0))) ?_
 refine rvc_nil ?_
 refine Awp.block ?_
 refine Awp.forR (σ := Ledger) (l.D.length) (fun i v => [(5, .ptr 11 0), (14, sS (some l.nil) eDo l.D), (15, .pv (.lit (.int .i64 (l.D.length : Int)))), (16, .pv (.lit (.int .i64 (i : Int))))]) (fun i v => [(11, .cells [sS (some v.past.all.nil) eChain v.past.all.D, .pv (.lit (.int .i64 v.chain.epoch)), sS (some v.chain.members.nil) eMember v.chain.members.D, .pv (.lit (.int .i64 v.at_))])]) [11] (fun i v => (made_l0 (l.D.drop i) i v = R) ∧ (okL v ∧ v.past.all.D.length ≤ 1 + i)) ((newL m).1) ?_ ?_ (fun i vc h1 hR => ?_)
 · exact ⟨hR, (newL_ok m hl1)⟩
 · exact ⟨fun b => b, WeakerR.ofL (Ks := [11]) hI ⟨⟨rfl, rfl⟩, ⟨rfl, rfl⟩, ⟨rfl, rfl⟩, ⟨rfl, rfl⟩, trivial⟩ (okH_cons rfl rfl rfl rfl (okH_nil)) rfl⟩
 obtain ⟨hR, ⟨hVk, hVa⟩⟩ := hR
 refine Awp.consP C ?_
 refine rvP C (.pv (.lit (.bool (decide ((i : Int) < (l.D.length : Int)))))) ?_
 refine rvc_nil ?_
 refine Awp.seq ?_
 refine Awp.cond (b := (decide ((i : Int) < (l.D.length : Int)))) rfl (fun h2 => ?_) (fun h2 => ?_)
 ·
  have h3 : i < l.D.length := by have := of_decide_eq_true h2; omega
  obtain ⟨x, h4⟩ := getX h3
  rw [drop_at h4] at hR
  refine Awp.skip ?_
  refine Awp.seq ?_
  refine Awp.block ?_
  refine Awp.consP C ?_
  refine rvc_un (rexec_idxS C rfl rfl rfl rfl rfl rfl x (Int.natCast_nonneg _) h4 ?_)
  refine rvP C (.agg [.pv (.lit (.int .i64 x.c.kind)), .pv (.lit (.int .i64 x.c.node)), .pv (.lit (.int .i64 x.c.site)), .pv (.lit (.int .i64 x.c.epoch)), sS (some x.b.nil) (eI .u8) x.b.D, .pv (.lit (.bool x.raw)), .pv (.lit (.int .i64 x.by_)), .pv (.lit (.int .i64 x.off))]) ?_
  refine rvc_un (rexec_prim C (δ := { v := .ptr 8 0, new := [(8, .cells [.pv (.lit (.int .i64 0)), .pv (.lit (.int .i64 0)), .pv (.lit (.int .i64 0)), .pv (.lit (.int .i64 0)), sS (some true) (eI .u8) [], .pv (.lit (.bool false)), .pv (.lit (.int .i64 0)), .pv (.lit (.int .i64 0))])] }) rfl rfl rfl rfl trivial rfl ?_)
  refine rvc_un (rexec_prim C (δ := { v := .undef, wr := [(8, some (.cells [.pv (.lit (.int .i64 x.c.kind)), .pv (.lit (.int .i64 x.c.node)), .pv (.lit (.int .i64 x.c.site)), .pv (.lit (.int .i64 x.c.epoch)), sS (some x.b.nil) (eI .u8) x.b.D, .pv (.lit (.bool x.raw)), .pv (.lit (.int .i64 x.by_)), .pv (.lit (.int .i64 x.off))]))] }) rfl rfl rfl rfl trivial rfl ?_)
  refine rvc_nil ?_
  refine Awp.region C (fun o => match o.dst with | some 21 => .reads [8] | some 23 => .writes [11] | some 25 => .reads [8] | some 27 => .writes [11] | some 30 => .writes [11] | _ => .pure) (by kernel_rfl) ?_
  refine rvP C (.ptr 11 0) ?_
  refine rvP C (.agg [.pv (.lit (.int .i64 x.c.kind)), .pv (.lit (.int .i64 x.c.node)), .pv (.lit (.int .i64 x.c.site)), .pv (.lit (.int .i64 x.c.epoch)), sS (some x.b.nil) (eI .u8) x.b.D, .pv (.lit (.bool x.raw)), .pv (.lit (.int .i64 x.by_)), .pv (.lit (.int .i64 x.off))]) ?_
  refine rvP C (.ptr 11 0) ?_
  refine rvc_un (rexec_callM hP C (b := 11) rfl rfl rfl (lAt_calls vc) rfl rfl ?_)
  refine rvc_un (rexec_call hP C rfl rfl rfl (doIndex_calls x (lAt vc)) ?_)
  refine rvP C (.agg [.pv (.lit (.int .i64 x.c.kind)), .pv (.lit (.int .i64 x.c.node)), .pv (.lit (.int .i64 x.c.site)), .pv (.lit (.int .i64 x.c.epoch)), sS (some x.b.nil) (eI .u8) x.b.D, .pv (.lit (.bool x.raw)), .pv (.lit (.int .i64 x.by_)), .pv (.lit (.int .i64 x.off))]) ?_
  refine rvP C (.ptr 11 0) ?_
  refine rvc_un (rexec_callM hP C (b := 11) rfl rfl rfl (lChain_calls vc hVk.2.1) rfl rfl ?_)
  refine rvP C (.pv (.lit (.int .i64 ((lChain vc).epoch)))) ?_
  refine rvc_un (rexec_call hP C rfl rfl rfl (doData_calls x ((lChain vc).epoch)) ?_)
  refine rvc_un (rexec_callM hP C (b := 11) rfl rfl rfl (lApply_calls vc (doIndex x (lAt vc)) (doData x ((lChain vc).epoch)) hVk.1 (data_len x _ (hB x (List.mem_of_getElem? (by assumption)))) hVk.2.1 (by omega)) rfl rfl ?_)
  refine rvc_nil ?_
  refine Awp.regionP C ?_
  refine rvP C (.pv (.lit (.int .i64 (IntKind.i64.wrap ((i : Int) + 1))))) ?_
  refine rvP C (.pv (.lit (.int .i64 (IntKind.i64.wrap ((i : Int) + 1))))) ?_
  refine rvc_nil ?_
  refine ⟨h3, (lApply vc (doIndex x (lAt vc)) (doData x ((lChain vc).epoch))).1, ?_, ?_⟩
  · exact ⟨hR, (apply_ok hVk hVa)⟩
  · exact ⟨fun b => b, WeakerR.ofL (Ks := [11]) hI ⟨⟨rfl, rfl⟩, ⟨rfl, rfl⟩, ⟨rfl, rfl⟩, ⟨lit_cast (wrap_i64 (by omega) (by omega)), rfl⟩, trivial⟩ (okH_cons rfl rfl rfl rfl (okH_nil)) rfl⟩
 ·
  have h3 : ¬ i < l.D.length := by have := of_decide_eq_false h2; omega
  rw [drop_end h3] at hR
  refine Awp.exit ?_
  refine Awp.consP C ?_
  refine rvP C (.ptr 11 0) ?_
  refine rvP C (.ptr 11 0) ?_
  refine rvc_nil ?_
  refine Awp.weakenR (S := [(4, .ptr 0 0)]) (H := [(0, .cells [sS (some vc.past.all.nil) eChain vc.past.all.D, .pv (.lit (.int .i64 vc.chain.epoch)), sS (some vc.chain.members.nil) eMember vc.chain.members.D, .pv (.lit (.int .i64 vc.at_))])]) (U := [0]) (fun x => bif x == 0 then 11 else x) (WeakerR.ofL (Ks := [0]) hI ⟨⟨rfl, rfl⟩, trivial⟩ (okH_cons rfl rfl rfl rfl okH_nil) rfl) ?_
  refine Awp.ret ?_
  subst hR
  exact ⟨.inl rfl, rfl, rfl⟩
end Go.Proofs.Ytpgenmflgdkfiaa
/- Ledgers behind calls: they may be asked. No conditions. -/
namespace Go.Proofs.Ytpgenmflgdkfiaa
open Go.Am
theorem made_l0_ok : ∀ (l : List Do) (i : Nat) (g : Ledger), okL g → okL (made_l0 l i g) ∧ (made_l0 l i g).past.all.D.length ≤ g.past.all.D.length + l.length
  | [], _, g, h => ⟨h, Nat.le_refl _⟩
  | x :: l, i, g, h => by
    unfold made_l0
    have h1 := apply_okL h (doIndex x (lAt g)) (doData x (lChain g).epoch)
    have h2 := apply_all g (doIndex x (lAt g)) (doData x (lChain g).epoch)
    have h3 := made_l0_ok l (i + 1) _ h1
    exact ⟨h3.1, by simp only [List.length_cons]; omega⟩
theorem made_ok (m : Sl Member) (l : Sl Do) (h : m.D.length ≤ 1000000) : okL (made m l) ∧ (made m l).past.all.D.length ≤ 1 + l.D.length := by
  have h1 := newL_ok m h
  have := made_l0_ok l.D 0 _ h1.1
  exact ⟨this.1, by unfold made; omega⟩
end Go.Proofs.Ytpgenmflgdkfiaa
/- The example; a law. No conditions. -/
namespace Go.Proofs.Ytpgenmflgdkfiaa
open Go.Am
def awake  : Bool :=
  (bif (((cmdPut (Command.mk 1 0 0 1)).2) != 0) then false else (bif (((lApply ((newL (Sl.mk false [(Member.mk 0 0 false), (Member.mk 1 0 false)])).1) 1 ((cmdPut (Command.mk 1 0 0 1)).1)).2) != 0) then false else (bif (same (lChain ((lApply ((newL (Sl.mk false [(Member.mk 0 0 false), (Member.mk 1 0 false)])).1) 1 ((cmdPut (Command.mk 1 0 0 1)).1)).1)) (Chain.mk 2 (Sl.mk false [(Member.mk 1 0 false)]))) then (bif (((lApply ((lApply ((newL (Sl.mk false [(Member.mk 0 0 false), (Member.mk 1 0 false)])).1) 1 ((cmdPut (Command.mk 1 0 0 1)).1)).1) 2 ((cmdPut (Command.mk 1 0 0 1)).1)).2) == 150) then (bif ((lAt ((lApply ((lApply ((newL (Sl.mk false [(Member.mk 0 0 false), (Member.mk 1 0 false)])).1) 1 ((cmdPut (Command.mk 1 0 0 1)).1)).1) 2 ((cmdPut (Command.mk 1 0 0 1)).1)).1)) == 2) then (((lApply ((lApply ((lApply ((newL (Sl.mk false [(Member.mk 0 0 false), (Member.mk 1 0 false)])).1) 1 ((cmdPut (Command.mk 1 0 0 1)).1)).1) 2 ((cmdPut (Command.mk 1 0 0 1)).1)).1) 2 (Sl.mk true [])).2) == 90) else false) else false) else false)))
theorem awake_calls   : PCalls Try.prog 11 [] (.pv (.lit (.bool (awake )))) := by
 generalize hR : awake  = R
 refine PCalls.of_body tabOk Try.func11 rfl rfl rfl rfl rfl mixed fun E hP C hI => ?_
 refine Awp.consP C ?_
 refine rvP C (.pv (.lit (.bool false))) ?_
 refine rvc_nil ?_
 refine Awp.cons C (fun _ => .quiet) (by kernel_rfl) ?_
 refine rvP C (.agg [.pv (.lit (.int .i64 0)), .pv (.lit (.int .i64 0)), .pv (.lit (.bool false))]) ?_
 refine rvP C (.agg [.pv (.lit (.int .i64 1)), .pv (.lit (.int .i64 0)), .pv (.lit (.bool false))]) ?_
 refine rvc_un (rexec_buildSliceF C eMember [(Member.mk 0 0 false), (Member.mk 1 0 false)] rfl rfl rfl rfl rfl rfl rfl (by decide) rfl ?_)
 refine rvc_un (rexec_callO hP C rfl rfl rfl rfl (newL_calls (Sl.mk false [(Member.mk 0 0 false), (Member.mk 1 0 false)]) (by kernel_rfl) (by simp)) ?_)
 refine rvP C (.tup [.ptr 9 0, .pv (.lit (.int .i64 ((newL (Sl.mk false [(Member.mk 0 0 false), (Member.mk 1 0 false)])).2)))]) ?_
 refine rvP C (.ptr 9 0) ?_
 refine rvP C (.pv (.lit (.int .i64 ((newL (Sl.mk false [(Member.mk 0 0 false), (Member.mk 1 0 false)])).2)))) ?_
 refine rvP C (.ptr 9 0) ?_
 refine rvP C (.pv (.lit (.int .i64 ((newL (Sl.mk false [(Member.mk 0 0 false), (Member.mk 1 0 false)])).2)))) ?_
 refine rvc_nil ?_
 refine Awp.consP C ?_
 refine rvP C (.agg [.pv (.lit (.int .i64 1)), .pv (.lit (.int .i64 0)), .pv (.lit (.int .i64 0)), .pv (.lit (.int .i64 1))]) ?_
 refine rvc_un (rexec_call hP C rfl rfl rfl (cmdPut_calls (Command.mk 1 0 0 1)) ?_)
 refine rvP C (.tup [sS (some (cmdPut (Command.mk 1 0 0 1)).1.nil) (eI .u8) ((cmdPut (Command.mk 1 0 0 1)).1.D), .pv (.lit (.int .i64 ((cmdPut (Command.mk 1 0 0 1)).2)))]) ?_
 refine rvP C (sS (some (cmdPut (Command.mk 1 0 0 1)).1.nil) (eI .u8) ((cmdPut (Command.mk 1 0 0 1)).1.D)) ?_
 refine rvP C (.pv (.lit (.int .i64 ((cmdPut (Command.mk 1 0 0 1)).2)))) ?_
 refine rvP C (sS (some (cmdPut (Command.mk 1 0 0 1)).1.nil) (eI .u8) ((cmdPut (Command.mk 1 0 0 1)).1.D)) ?_
 refine rvP C (.pv (.lit (.int .i64 ((cmdPut (Command.mk 1 0 0 1)).2)))) ?_
 refine rvc_nil ?_
 refine Awp.seq ?_
 refine Awp.cons C (fun _ => .writer) (by kernel_rfl) ?_
 refine rvP C (.pv (.lit (.int .i64 ((newL (Sl.mk false [(Member.mk 0 0 false), (Member.mk 1 0 false)])).2)))) ?_
 refine rvP C (.pv (.lit (.bool (((newL (Sl.mk false [(Member.mk 0 0 false), (Member.mk 1 0 false)])).2) != 0)))) ?_
 refine rvP C (.pv (.lit (.bool (((newL (Sl.mk false [(Member.mk 0 0 false), (Member.mk 1 0 false)])).2) != 0)))) ?_
 refine rvc_known 19 (((newL (Sl.mk false [(Member.mk 0 0 false), (Member.mk 1 0 false)])).2) != 0) false rfl (newL_e (Sl.mk false [(Member.mk 0 0 false), (Member.mk 1 0 false)])) ?_
 refine rvO C (.pv (.lit (.int .i64 ((cmdPut (Command.mk 1 0 0 1)).2)))) ?_
 refine rvO C (.pv (.lit (.bool (((cmdPut (Command.mk 1 0 0 1)).2) != 0)))) ?_
 refine rvP C (.pv (.lit (.bool (((cmdPut (Command.mk 1 0 0 1)).2) != 0)))) ?_
 refine rvP C (.pv (.lit (.bool (((cmdPut (Command.mk 1 0 0 1)).2) != 0)))) ?_
 refine rvc_case 23 (((cmdPut (Command.mk 1 0 0 1)).2) != 0) rfl (fun h1 => ?_) (fun h1 => ?_)
 ·
  replace hR := of_true h1 hR
  refine rvS ?_
  refine rvS ?_
  refine rvS ?_
  refine rvS ?_
  refine rvP C (.pv (.lit (.bool true))) ?_
  refine rvc_nil ?_
  refine Awp.condT (b := true) rfl rfl ?_
  refine Awp.consP C ?_
  refine rvP C (.pv (.lit (.bool false))) ?_
  refine rvc_nil ?_
  refine Awp.ret ?_
  subst hR
  exact ⟨.inl rfl, rfl⟩
 ·
  replace hR := of_false h1 hR
  refine rvO C (.ptr 9 0) ?_
  refine rvO C (sS (some (cmdPut (Command.mk 1 0 0 1)).1.nil) (eI .u8) ((cmdPut (Command.mk 1 0 0 1)).1.D)) ?_
  refine rvc_open rfl rfl rfl (rexec_callM hP C (b := 9) rfl rfl rfl (lApply_calls ((newL (Sl.mk false [(Member.mk 0 0 false), (Member.mk 1 0 false)])).1) 1 ((cmdPut (Command.mk 1 0 0 1)).1) (fun h => absurd (h.symm.trans (by kernel_rfl : _ = false)) Bool.noConfusion) (of_decide_eq_true (by kernel_rfl)) (of_decide_eq_true (by kernel_rfl)) (of_decide_eq_true (by kernel_rfl))) rfl rfl ?_)
  refine rvO C (.pv (.lit (.bool (((lApply ((newL (Sl.mk false [(Member.mk 0 0 false), (Member.mk 1 0 false)])).1) 1 ((cmdPut (Command.mk 1 0 0 1)).1)).2) != 0)))) ?_
  refine rvP C (.pv (.lit (.bool (((lApply ((newL (Sl.mk false [(Member.mk 0 0 false), (Member.mk 1 0 false)])).1) 1 ((cmdPut (Command.mk 1 0 0 1)).1)).2) != 0)))) ?_
  refine rvc_nil ?_
  refine Awp.cond (b := (((lApply ((newL (Sl.mk false [(Member.mk 0 0 false), (Member.mk 1 0 false)])).1) 1 ((cmdPut (Command.mk 1 0 0 1)).1)).2) != 0)) rfl (fun h2 => ?_) (fun h2 => ?_)
  ·
   replace hR := of_true h2 hR
   refine Awp.consP C ?_
   refine rvP C (.pv (.lit (.bool false))) ?_
   refine rvc_nil ?_
   refine Awp.ret ?_
   subst hR
   exact ⟨.inl rfl, rfl⟩
  ·
   replace hR := of_false h2 hR
   refine Awp.skip ?_
   refine Awp.cons C (fun _ => .writer) (by kernel_rfl) ?_
   refine rvP C (.ptr 9 0) ?_
   refine rvc_un (rexec_callM hP C (b := 9) rfl rfl rfl (lChain_calls ((lApply ((newL (Sl.mk false [(Member.mk 0 0 false), (Member.mk 1 0 false)])).1) 1 ((cmdPut (Command.mk 1 0 0 1)).1)).1) (of_decide_eq_true (by kernel_rfl))) rfl rfl ?_)
   refine rvP C (.agg [.pv (.lit (.int .i64 1)), .pv (.lit (.int .i64 0)), .pv (.lit (.bool false))]) ?_
   refine rvc_un (rexec_buildSliceF C eMember [(Member.mk 1 0 false)] rfl rfl rfl rfl rfl rfl rfl (by decide) rfl ?_)
   refine rvP C (.agg [.pv (.lit (.int .i64 2)), sS (some false) eMember [(Member.mk 1 0 false)]]) ?_
   refine rvc_un (rexec_call hP C rfl rfl rfl (same_calls (lChain ((lApply ((newL (Sl.mk false [(Member.mk 0 0 false), (Member.mk 1 0 false)])).1) 1 ((cmdPut (Command.mk 1 0 0 1)).1)).1)) (Chain.mk 2 (Sl.mk false [(Member.mk 1 0 false)])) (of_decide_eq_true (by kernel_rfl))) ?_)
   refine rvP C (.pv (.lit (.bool (same (lChain ((lApply ((newL (Sl.mk false [(Member.mk 0 0 false), (Member.mk 1 0 false)])).1) 1 ((cmdPut (Command.mk 1 0 0 1)).1)).1)) (Chain.mk 2 (Sl.mk false [(Member.mk 1 0 false)])))))) ?_
   refine rvc_case 35 (same (lChain ((lApply ((newL (Sl.mk false [(Member.mk 0 0 false), (Member.mk 1 0 false)])).1) 1 ((cmdPut (Command.mk 1 0 0 1)).1)).1)) (Chain.mk 2 (Sl.mk false [(Member.mk 1 0 false)]))) rfl (fun h3 => ?_) (fun h3 => ?_)
   ·
    replace hR := of_true h3 hR
    refine rvO C (.ptr 9 0) ?_
    refine rvO C (sS (some (cmdPut (Command.mk 1 0 0 1)).1.nil) (eI .u8) ((cmdPut (Command.mk 1 0 0 1)).1.D)) ?_
    refine rvc_open rfl rfl rfl (rexec_callM hP C (b := 9) rfl rfl rfl (lApply_calls ((lApply ((newL (Sl.mk false [(Member.mk 0 0 false), (Member.mk 1 0 false)])).1) 1 ((cmdPut (Command.mk 1 0 0 1)).1)).1) 2 ((cmdPut (Command.mk 1 0 0 1)).1) (fun h => absurd (h.symm.trans (by kernel_rfl : _ = false)) Bool.noConfusion) (of_decide_eq_true (by kernel_rfl)) (of_decide_eq_true (by kernel_rfl)) (of_decide_eq_true (by kernel_rfl))) rfl rfl ?_)
    refine rvO C (.pv (.lit (.bool (((lApply ((lApply ((newL (Sl.mk false [(Member.mk 0 0 false), (Member.mk 1 0 false)])).1) 1 ((cmdPut (Command.mk 1 0 0 1)).1)).1) 2 ((cmdPut (Command.mk 1 0 0 1)).1)).2) == 150)))) ?_
    refine rvP C (.pv (.lit (.bool (((lApply ((lApply ((newL (Sl.mk false [(Member.mk 0 0 false), (Member.mk 1 0 false)])).1) 1 ((cmdPut (Command.mk 1 0 0 1)).1)).1) 2 ((cmdPut (Command.mk 1 0 0 1)).1)).2) == 150)))) ?_
    refine rvP C (.pv (.lit (.bool (((lApply ((lApply ((newL (Sl.mk false [(Member.mk 0 0 false), (Member.mk 1 0 false)])).1) 1 ((cmdPut (Command.mk 1 0 0 1)).1)).1) 2 ((cmdPut (Command.mk 1 0 0 1)).1)).2) == 150)))) ?_
    refine rvc_case 41 (((lApply ((lApply ((newL (Sl.mk false [(Member.mk 0 0 false), (Member.mk 1 0 false)])).1) 1 ((cmdPut (Command.mk 1 0 0 1)).1)).1) 2 ((cmdPut (Command.mk 1 0 0 1)).1)).2) == 150) rfl (fun h4 => ?_) (fun h4 => ?_)
    ·
     replace hR := of_true h4 hR
     refine rvO C (.ptr 9 0) ?_
     refine rvc_open rfl rfl rfl (rexec_callM hP C (b := 9) rfl rfl rfl (lAt_calls ((lApply ((lApply ((newL (Sl.mk false [(Member.mk 0 0 false), (Member.mk 1 0 false)])).1) 1 ((cmdPut (Command.mk 1 0 0 1)).1)).1) 2 ((cmdPut (Command.mk 1 0 0 1)).1)).1)) rfl rfl ?_)
     refine rvO C (.pv (.lit (.bool ((lAt ((lApply ((lApply ((newL (Sl.mk false [(Member.mk 0 0 false), (Member.mk 1 0 false)])).1) 1 ((cmdPut (Command.mk 1 0 0 1)).1)).1) 2 ((cmdPut (Command.mk 1 0 0 1)).1)).1)) == 2)))) ?_
     refine rvP C (.pv (.lit (.bool ((lAt ((lApply ((lApply ((newL (Sl.mk false [(Member.mk 0 0 false), (Member.mk 1 0 false)])).1) 1 ((cmdPut (Command.mk 1 0 0 1)).1)).1) 2 ((cmdPut (Command.mk 1 0 0 1)).1)).1)) == 2)))) ?_
     refine rvP C (.pv (.lit (.bool ((lAt ((lApply ((lApply ((newL (Sl.mk false [(Member.mk 0 0 false), (Member.mk 1 0 false)])).1) 1 ((cmdPut (Command.mk 1 0 0 1)).1)).1) 2 ((cmdPut (Command.mk 1 0 0 1)).1)).1)) == 2)))) ?_
     refine rvc_case 46 ((lAt ((lApply ((lApply ((newL (Sl.mk false [(Member.mk 0 0 false), (Member.mk 1 0 false)])).1) 1 ((cmdPut (Command.mk 1 0 0 1)).1)).1) 2 ((cmdPut (Command.mk 1 0 0 1)).1)).1)) == 2) rfl (fun h5 => ?_) (fun h5 => ?_)
     ·
      replace hR := of_true h5 hR
      refine rvO C (.ptr 9 0) ?_
      refine rvc_open rfl rfl rfl (rexec_callM hP C (b := 9) rfl rfl rfl (lApply_calls ((lApply ((lApply ((newL (Sl.mk false [(Member.mk 0 0 false), (Member.mk 1 0 false)])).1) 1 ((cmdPut (Command.mk 1 0 0 1)).1)).1) 2 ((cmdPut (Command.mk 1 0 0 1)).1)).1) 2 (Sl.mk true []) (fun h => absurd (h.symm.trans (by kernel_rfl : _ = false)) Bool.noConfusion) (of_decide_eq_true (by kernel_rfl)) (of_decide_eq_true (by kernel_rfl)) (of_decide_eq_true (by kernel_rfl))) rfl rfl ?_)
      refine rvO C (.pv (.lit (.bool (((lApply ((lApply ((lApply ((newL (Sl.mk false [(Member.mk 0 0 false), (Member.mk 1 0 false)])).1) 1 ((cmdPut (Command.mk 1 0 0 1)).1)).1) 2 ((cmdPut (Command.mk 1 0 0 1)).1)).1) 2 (Sl.mk true [])).2) == 90)))) ?_
      refine rvP C (.pv (.lit (.bool (((lApply ((lApply ((lApply ((newL (Sl.mk false [(Member.mk 0 0 false), (Member.mk 1 0 false)])).1) 1 ((cmdPut (Command.mk 1 0 0 1)).1)).1) 2 ((cmdPut (Command.mk 1 0 0 1)).1)).1) 2 (Sl.mk true [])).2) == 90)))) ?_
      refine rvP C (.pv (.lit (.bool (((lApply ((lApply ((lApply ((newL (Sl.mk false [(Member.mk 0 0 false), (Member.mk 1 0 false)])).1) 1 ((cmdPut (Command.mk 1 0 0 1)).1)).1) 2 ((cmdPut (Command.mk 1 0 0 1)).1)).1) 2 (Sl.mk true [])).2) == 90)))) ?_
      refine rvc_nil ?_
      refine Awp.ret ?_
      subst hR
      exact ⟨.inl rfl, rfl⟩
     ·
      replace hR := of_false h5 hR
      refine rvS ?_
      refine rvS ?_
      refine rvS ?_
      refine rvP C (.pv (.lit (.bool false))) ?_
      refine rvP C (.pv (.lit (.bool false))) ?_
      refine rvc_nil ?_
      refine Awp.ret ?_
      subst hR
      exact ⟨.inl rfl, rfl⟩
    ·
     replace hR := of_false h4 hR
     refine rvS ?_
     refine rvS ?_
     refine rvS ?_
     refine rvP C (.pv (.lit (.bool false))) ?_
     refine rvP C (.pv (.lit (.bool false))) ?_
     refine rvS ?_
     refine rvS ?_
     refine rvS ?_
     refine rvP C (.pv (.lit (.bool false))) ?_
     refine rvP C (.pv (.lit (.bool false))) ?_
     refine rvc_nil ?_
     refine Awp.ret ?_
     subst hR
     exact ⟨.inl rfl, rfl⟩
   ·
    replace hR := of_false h3 hR
    refine rvS ?_
    refine rvS ?_
    refine rvS ?_
    refine rvS ?_
    refine rvP C (.pv (.lit (.bool false))) ?_
    refine rvP C (.pv (.lit (.bool false))) ?_
    refine rvS ?_
    refine rvS ?_
    refine rvS ?_
    refine rvP C (.pv (.lit (.bool false))) ?_
    refine rvP C (.pv (.lit (.bool false))) ?_
    refine rvS ?_
    refine rvS ?_
    refine rvS ?_
    refine rvP C (.pv (.lit (.bool false))) ?_
    refine rvP C (.pv (.lit (.bool false))) ?_
    refine rvc_nil ?_
    refine Awp.ret ?_
    subst hR
    exact ⟨.inl rfl, rfl⟩
end Go.Proofs.Ytpgenmflgdkfiaa
/- Calls that may be gone through are few. No conditions. -/
namespace Go.Proofs.Ytpgenmflgdkfiaa
open Go.Am
theorem short_l1_ok (x : Sl Do) (kk : Int → Int → Int → Bool) (hk : ∀ n a i, 0 ≤ a → a ≤ 151 → 0 ≤ n → n ≤ 8193 → kk n a i = true → a ≤ 150 ∧ n ≤ 4096) : ∀ (f : Nat) (n a i : Int), f = x.D.length - i.toNat + 1 → 0 ≤ i → i ≤ (x.D.length : Int) → i ≤ a → a ≤ 151 → 0 ≤ n → n ≤ 8193 → short_l1 x kk f n a i = true →
    (a ≤ 150 ∧ n ≤ 4096) ∧ (x.D.length : Int) - i + a ≤ 150 ∧ ∀ j, i.toNat ≤ j → ∀ y, x.D[j]? = some y → y.b.D.length ≤ 4096
  | 0, _, _, _, hf, _, _, _, _, _, _, _ => by omega
  | f + 1, n, a, i, hf, h0, h1, h2, h3, h4, h5, h => by
    unfold short_l1 at h
    cases e1 : decide (i < (x.D.length : Int))
    · rw [e1] at h
      have h6 := of_decide_eq_false e1
      have h7 := hk n a i (by omega) h3 h4 h5 h
      refine ⟨h7, by omega, fun j hj y hy => ?_⟩
      rw [List.getElem?_eq_none (by omega)] at hy; cases hy
    · have h6 := of_decide_eq_true e1
      rw [e1] at h
      simp only [cond_true] at h
      cases e2 : decide (a ≤ 150)
      · rw [e2] at h
        have := of_decide_eq_false e2
        have := (hk n a i (by omega) h3 h4 h5 h).1
        omega
      · have h7 := of_decide_eq_true e2
        rw [e2] at h
        simp only [cond_true] at h
        cases e3 : decide (n ≤ 4096)
        · rw [e3] at h
          have := of_decide_eq_false e3
          have := (hk n a i (by omega) h3 h4 h5 h).2
          omega
        · have h8 := of_decide_eq_true e3
          rw [e3] at h
          simp only [cond_true] at h
          have hm := min97 ((x.D[i.toNat]!.b.D).length : Int) (Int.natCast_nonneg _)
          have hw1 := wrapI (n + (bif (decide ((4097 : Int) < ((x.D[i.toNat]!.b.D).length : Int))) then (4097 : Int) else ((x.D[i.toNat]!.b.D).length : Int)))
          have hw2 := wrapI (a + 1)
          have hw3 := wrapI (i + 1)
          have ih := short_l1_ok x kk hk f _ _ _ (by omega) (by omega) (by omega) (by omega) (by omega) (by omega) (by omega) h
          obtain ⟨⟨i1, i2⟩, i3, i4⟩ := ih
          refine ⟨⟨h7, h8⟩, by omega, fun j hj y hy => ?_⟩
          rcases Nat.lt_or_ge i.toNat j with hlt | hge
          · exact i4 j (by omega) y hy
          · have hji : j = i.toNat := by omega
            subst hji
            have hy2 : x.D[i.toNat]! = y := by
              rw [getElem!_def, hy]
            rw [hy2] at hw1 hm i2
            cases e4 : decide ((4097 : Int) < (y.b.D.length : Int))
            · have := of_decide_eq_false e4
              rw [e4] at hw1 i2
              simp only [cond_false] at hw1 i2
              omega
            · rw [e4] at hw1 i2
              simp only [cond_true] at hw1 i2
              omega
theorem short_l0_ok : ∀ (l : List (Sl Do)) (i : Nat) (n a : Int), 0 ≤ a → a ≤ 151 → 0 ≤ n → n ≤ 8193 → short_l0 l i n a = true → (a ≤ 150 ∧ n ≤ 4096) ∧ ∀ x ∈ l, x.D.length ≤ 150 ∧ ∀ y ∈ x.D, y.b.D.length ≤ 4096
  | [], _, n, a, _, _, _, _, h => by
    unfold short_l0 at h
    cases e1 : decide (a ≤ 150)
    · rw [e1] at h; cases h
    · rw [e1] at h
      exact ⟨⟨of_decide_eq_true e1, of_decide_eq_true h⟩, fun x hx => by cases hx⟩
  | x :: l, i, n, a, h0, h1, h2, h3, h => by
    unfold short_l0 at h
    -- what follows holds of what the rounds leave
    by_cases hx : (a ≤ 150 ∧ n ≤ 4096) ∧ (x.D.length : Int) - 0 + a ≤ 150 ∧ ∀ j, (0 : Int).toNat ≤ j → ∀ y, x.D[j]? = some y → y.b.D.length ≤ 4096
    · obtain ⟨p1, p2, p3⟩ := hx
      have hx1 : x.D.length ≤ 150 ∧ ∀ y ∈ x.D, y.b.D.length ≤ 4096 := ⟨by omega, fun y hy => by
        obtain ⟨j, hj⟩ := List.getElem?_of_mem hy
        exact p3 j (Nat.zero_le _) y hj⟩
      refine ⟨p1, fun z hz => ?_⟩
      cases hz with
      | head => exact hx1
      | tail _ hz =>
        -- the rest
        have key : ∀ (f : Nat) (n a i' : Int), 0 ≤ i' → i' ≤ a → a ≤ 151 → 0 ≤ n → n ≤ 8193 → f = x.D.length - i'.toNat + 1 → i' ≤ (x.D.length : Int) → short_l1 x (fun n1 acts1 _ => short_l0 l (i + 1) n1 acts1) f n a i' = true → ∃ n1 a1, 0 ≤ a1 ∧ a1 ≤ 151 ∧ 0 ≤ n1 ∧ n1 ≤ 8193 ∧ short_l0 l (i + 1) n1 a1 = true := by
          intro f
          induction f with
          | zero => intro n a i' _ _ _ _ _ hf; omega
          | succ f ih =>
            intro n a i' q0 q1 q2 q3 q4 q5 q6 q
            unfold short_l1 at q
            cases e1 : decide (i' < (x.D.length : Int))
            · rw [e1] at q; exact ⟨n, a, by omega, q2, q3, q4, q⟩
            · have h6 := of_decide_eq_true e1
              rw [e1] at q
              simp only [cond_true] at q
              cases e2 : decide (a ≤ 150)
              · rw [e2] at q; exact ⟨n, a, by omega, q2, q3, q4, q⟩
              · have h7 := of_decide_eq_true e2
                rw [e2] at q
                simp only [cond_true] at q
                cases e3 : decide (n ≤ 4096)
                · rw [e3] at q; exact ⟨n, a, by omega, q2, q3, q4, q⟩
                · have h8 := of_decide_eq_true e3
                  rw [e3] at q
                  simp only [cond_true] at q
                  have hm := min97 ((x.D[i'.toNat]!.b.D).length : Int) (Int.natCast_nonneg _)
                  have hw1 := wrapI (n + (bif (decide ((4097 : Int) < ((x.D[i'.toNat]!.b.D).length : Int))) then (4097 : Int) else ((x.D[i'.toNat]!.b.D).length : Int)))
                  have hw2 := wrapI (a + 1)
                  have hw3 := wrapI (i' + 1)
                  exact ih _ _ _ (by omega) (by omega) (by omega) (by omega) (by omega) (by omega) (by omega) q
        obtain ⟨n1, a1, k1, k2, k3, k4, k5⟩ := key _ n a 0 (Int.le_refl _) h0 h1 h2 h3 rfl (by omega) h
        exact (short_l0_ok l (i + 1) n1 a1 k1 k2 k3 k4 k5).2 z hz
    · exact absurd (short_l1_ok x _ (fun n1 a1 _ g0 g1 g2 g3 hh => (short_l0_ok l (i + 1) n1 a1 g0 g1 g2 g3 hh).1) _ n a 0 rfl (Int.le_refl _) (by omega) h0 h1 h2 h3 h) hx
theorem short_ok {ls : Sl (Sl Do)} (h : (!(short ls)) = false) (l : Sl Do) (hl : l ∈ ls.D) : l.D.length ≤ 150 ∧ ∀ y ∈ l.D, y.b.D.length ≤ 4096 :=
  (short_l0_ok ls.D 0 0 0 (Int.le_refl _) (by decide) (Int.le_refl _) (by decide) (by simpa [short] using h)).2 l hl
end Go.Proofs.Ytpgenmflgdkfiaa
/- Laws: once; refused. No conditions. -/
namespace Go.Proofs.Ytpgenmflgdkfiaa
open Go.Am
def lawOnce (m : (Sl Member)) (l : (Sl Do)) (k : Do) : Bool :=
  (bif (decide ((m.D.length : Int) > 60)) then (awake ) else (bif (!(short (Sl.mk false [l, (Sl.mk false [k])]))) then (awake ) else (bif (((firstC m).2) != 0) then (awake ) else (bif ((lApply (made m l) (IntKind.i64.wrap ((lAt (made m l)) + 1)) (doData k ((lChain (made m l)).epoch))).2 == 0) then (bif (decide (((lChain (lApply (made m l) (IntKind.i64.wrap ((lAt (made m l)) + 1)) (doData k ((lChain (made m l)).epoch))).1).epoch) > ((lChain (made m l)).epoch))) then (bif (((lChain (lApply (made m l) (IntKind.i64.wrap ((lAt (made m l)) + 1)) (doData k ((lChain (made m l)).epoch))).1).epoch) == (IntKind.i64.wrap (((lChain (made m l)).epoch) + 1))) then (bif (((lApply (lApply (made m l) (IntKind.i64.wrap ((lAt (made m l)) + 1)) (doData k ((lChain (made m l)).epoch))).1 (IntKind.i64.wrap ((lAt (lApply (made m l) (IntKind.i64.wrap ((lAt (made m l)) + 1)) (doData k ((lChain (made m l)).epoch))).1) + 1)) (doData k ((lChain (made m l)).epoch))).2) == 150) then (bif (((lChain ((lApply (lApply (made m l) (IntKind.i64.wrap ((lAt (made m l)) + 1)) (doData k ((lChain (made m l)).epoch))).1 (IntKind.i64.wrap ((lAt (lApply (made m l) (IntKind.i64.wrap ((lAt (made m l)) + 1)) (doData k ((lChain (made m l)).epoch))).1) + 1)) (doData k ((lChain (made m l)).epoch))).1)).epoch) == ((lChain (lApply (made m l) (IntKind.i64.wrap ((lAt (made m l)) + 1)) (doData k ((lChain (made m l)).epoch))).1).epoch)) then (awake ) else false) else false) else false) else (bif (((lChain (lApply (made m l) (IntKind.i64.wrap ((lAt (made m l)) + 1)) (doData k ((lChain (made m l)).epoch))).1).epoch) == ((lChain (made m l)).epoch)) then (awake ) else false)) else (bif (((lChain (lApply (made m l) (IntKind.i64.wrap ((lAt (made m l)) + 1)) (doData k ((lChain (made m l)).epoch))).1).epoch) == ((lChain (made m l)).epoch)) then (awake ) else false)))))
theorem lawOnce_calls (m : (Sl Member)) (l : (Sl Do)) (k : Do) (hl1 : m.D.length ≤ 9223372036854775807) : PCalls Try.prog 3 [sS (some m.nil) eMember m.D, sS (some l.nil) eDo l.D, .agg [.pv (.lit (.int .i64 k.c.kind)), .pv (.lit (.int .i64 k.c.node)), .pv (.lit (.int .i64 k.c.site)), .pv (.lit (.int .i64 k.c.epoch)), sS (some k.b.nil) (eI .u8) k.b.D, .pv (.lit (.bool k.raw)), .pv (.lit (.int .i64 k.by_)), .pv (.lit (.int .i64 k.off))]] (.pv (.lit (.bool (lawOnce m l k)))) := by
 generalize hR : lawOnce m l k = R
 refine PCalls.of_body tabOk Try.func3 rfl rfl rfl rfl rfl mixed fun E hP C hI => ?_
 refine Awp.consP C ?_
 refine rvc_un (rexec_prim C (δ := { v := .ptr 5 0, new := [(5, .cells [.pv (.lit (.int .i64 k.c.kind)), .pv (.lit (.int .i64 k.c.node)), .pv (.lit (.int .i64 k.c.site)), .pv (.lit (.int .i64 k.c.epoch)), sS (some k.b.nil) (eI .u8) k.b.D, .pv (.lit (.bool k.raw)), .pv (.lit (.int .i64 k.by_)), .pv (.lit (.int .i64 k.off))])] }) rfl rfl rfl rfl trivial rfl ?_)
 refine rvP C (.pv (.lit (.bool false))) ?_
 refine rvc_nil ?_
 refine Awp.seq ?_
 refine Awp.consP C ?_
 refine rvP C (sS (some m.nil) eMember m.D) ?_
 refine rvP C (.pv (.lit (.int .i64 (m.D.length : Int)))) ?_
 refine rvP C (.pv (.lit (.bool (decide ((m.D.length : Int) > 60))))) ?_
 refine rvP C (.pv (.lit (.bool (decide ((m.D.length : Int) > 60))))) ?_
 refine rvc_case 17 (decide ((m.D.length : Int) > 60)) rfl (fun h1 => ?_) (fun h1 => ?_)
 ·
  replace hR := of_true h1 hR
  refine rvS ?_
  refine rvS ?_
  refine rvS ?_
  refine rvS ?_
  refine rvS ?_
  refine rvS ?_
  refine rvP C (.pv (.lit (.bool true))) ?_
  refine rvc_nil ?_
  refine Awp.condT (b := true) rfl rfl ?_
  refine Awp.consP C ?_
  refine rvc_un (rexec_call hP C rfl rfl rfl (awake_calls ) ?_)
  refine rvP C (.pv (.lit (.bool (awake )))) ?_
  refine rvc_nil ?_
  refine Awp.ret ?_
  subst hR
  exact ⟨.inl rfl, rfl⟩
 ·
  replace hR := of_false h1 hR
  refine rvO C (sS (some l.nil) eDo l.D) ?_
  refine rvO C (.agg [.pv (.lit (.int .i64 k.c.kind)), .pv (.lit (.int .i64 k.c.node)), .pv (.lit (.int .i64 k.c.site)), .pv (.lit (.int .i64 k.c.epoch)), sS (some k.b.nil) (eI .u8) k.b.D, .pv (.lit (.bool k.raw)), .pv (.lit (.int .i64 k.by_)), .pv (.lit (.int .i64 k.off))]) ?_
  refine rvc_open rfl rfl rfl (rexec_buildSliceF C eDo [k] rfl rfl rfl rfl rfl rfl rfl (by decide) rfl ?_)
  refine rvc_open rfl rfl rfl (rexec_buildSliceF C (eSl eDo) [l, (Sl.mk false [k])] rfl rfl rfl rfl rfl rfl rfl (by decide) rfl ?_)
  refine rvc_open rfl rfl rfl (rexec_call hP C rfl rfl rfl (short_calls (Sl.mk false [l, (Sl.mk false [k])]) (by simp)) ?_)
  refine rvO C (.pv (.lit (.bool (!(short (Sl.mk false [l, (Sl.mk false [k])])))))) ?_
  refine rvP C (.pv (.lit (.bool (!(short (Sl.mk false [l, (Sl.mk false [k])])))))) ?_
  refine rvc_nil ?_
  refine Awp.cond (b := (!(short (Sl.mk false [l, (Sl.mk false [k])])))) rfl (fun h2 => ?_) (fun h2 => ?_)
  ·
   replace hR := of_true h2 hR
   refine Awp.consP C ?_
   refine rvc_un (rexec_call hP C rfl rfl rfl (awake_calls ) ?_)
   refine rvP C (.pv (.lit (.bool (awake )))) ?_
   refine rvc_nil ?_
   refine Awp.ret ?_
   subst hR
   exact ⟨.inl rfl, rfl⟩
  ·
   replace hR := of_false h2 hR
   refine Awp.skip ?_
   refine Awp.seq ?_
   refine Awp.cons C (fun _ => .quiet) (by kernel_rfl) ?_
   refine rvP C (sS (some m.nil) eMember m.D) ?_
   rcases Bool.eq_false_or_eq_true (((firstC m).2) != 0) with h3 | h3
   ·
    replace hR := of_true h3 hR
    refine rvc_un (rexec_call hP C rfl rfl rfl (newNil_calls m h3 (by have := of_decide_eq_false ‹decide ((m.D.length : Int) > 60) = false›; omega)) ?_)
    refine rvP C (.tup [.pv (.lit (.pointer none)), .pv (.lit (.int .i64 ((newNil m).2)))]) ?_
    refine rvP C (.pv (.lit (.pointer none))) ?_
    refine rvP C (.pv (.lit (.int .i64 ((newNil m).2)))) ?_
    refine rvP C (.pv (.lit (.pointer none))) ?_
    refine rvP C (.pv (.lit (.int .i64 ((newNil m).2)))) ?_
    refine rvc_nil ?_
    refine Awp.consP C ?_
    refine rvP C (.pv (.lit (.int .i64 ((newNil m).2)))) ?_
    refine rvP C (.pv (.lit (.bool (((newNil m).2) != 0)))) ?_
    refine rvc_nil ?_
    refine Awp.condT (b := (((newNil m).2) != 0)) rfl h3 ?_
    refine Awp.consP C ?_
    refine rvc_un (rexec_call hP C rfl rfl rfl (awake_calls ) ?_)
    refine rvP C (.pv (.lit (.bool (awake )))) ?_
    refine rvc_nil ?_
    refine Awp.ret ?_
    subst hR
    exact ⟨.inl rfl, rfl⟩
   ·
    replace hR := of_false h3 hR
    refine rvc_un (rexec_callO hP C rfl rfl rfl rfl (newL_calls m h3 (by have := of_decide_eq_false ‹decide ((m.D.length : Int) > 60) = false›; omega)) ?_)
    refine rvP C (.tup [.ptr 28 0, .pv (.lit (.int .i64 ((newL m).2)))]) ?_
    refine rvP C (.ptr 28 0) ?_
    refine rvP C (.pv (.lit (.int .i64 ((newL m).2)))) ?_
    refine rvP C (.ptr 28 0) ?_
    refine rvP C (.pv (.lit (.int .i64 ((newL m).2)))) ?_
    refine rvc_nil ?_
    refine Awp.consP C ?_
    refine rvP C (.pv (.lit (.int .i64 ((newL m).2)))) ?_
    refine rvP C (.pv (.lit (.bool (((newL m).2) != 0)))) ?_
    refine rvc_nil ?_
    refine Awp.condF (b := (((newL m).2) != 0)) rfl (newL_e m) ?_
    refine Awp.skip ?_
    refine Awp.cons C (fun _ => .quiet) (by kernel_rfl) ?_
    refine rvP C (sS (some m.nil) eMember m.D) ?_
    refine rvP C (sS (some l.nil) eDo l.D) ?_
    obtain ⟨g, hq_g⟩ : ∃ q_, q_ = (made m l) := ⟨_, rfl⟩
    have hc_g := (made_calls m l (by assumption) (Nat.le_trans (short_ok ‹(!(short (Sl.mk false [l, (Sl.mk false [k])]))) = false› l (by simp)).1 (by decide)) (fun x hx => Nat.le_trans ((short_ok ‹(!(short (Sl.mk false [l, (Sl.mk false [k])]))) = false› l (by simp)).2 x hx) (by decide)) (by have := of_decide_eq_false ‹decide ((m.D.length : Int) > 60) = false›; omega) (Nat.le_trans (short_ok ‹(!(short (Sl.mk false [l, (Sl.mk false [k])]))) = false› l (by simp)).1 (by decide)))
    first | rw [← hq_g] at hR hc_g | (unfold lawOnce at hR; rw [← hq_g] at hR hc_g)
    have hf0_g := made_ok m l (by have := of_decide_eq_false ‹decide ((m.D.length : Int) > 60) = false›; omega)
    rw [← hq_g] at hf0_g
    refine rvc_un (rexec_callO hP C rfl rfl rfl rfl hc_g ?_)
    refine rvP C (.ptr 36 0) ?_
    refine rvc_nil ?_
    refine Awp.cons C (fun _ => .writer) (by kernel_rfl) ?_
    refine rvP C (.ptr 36 0) ?_
    refine rvc_un (rexec_callM hP C (b := 36) rfl rfl rfl (lChain_calls g hf0_g.1.2.1) rfl rfl ?_)
    refine rvP C (.pv (.lit (.int .i64 ((lChain g).epoch)))) ?_
    refine rvP C (.pv (.lit (.int .i64 ((lChain g).epoch)))) ?_
    refine rvc_nil ?_
    refine Awp.consP C ?_
    refine rvP C (.agg [.pv (.lit (.int .i64 k.c.kind)), .pv (.lit (.int .i64 k.c.node)), .pv (.lit (.int .i64 k.c.site)), .pv (.lit (.int .i64 k.c.epoch)), sS (some k.b.nil) (eI .u8) k.b.D, .pv (.lit (.bool k.raw)), .pv (.lit (.int .i64 k.by_)), .pv (.lit (.int .i64 k.off))]) ?_
    refine rvP C (.pv (.lit (.int .i64 ((lChain g).epoch)))) ?_
    refine rvc_un (rexec_call hP C rfl rfl rfl (doData_calls k ((lChain g).epoch)) ?_)
    refine rvP C (sS (some (doData k ((lChain g).epoch)).nil) (eI .u8) ((doData k ((lChain g).epoch)).D)) ?_
    refine rvc_nil ?_
    refine Awp.cons C (fun _ => .writer) (by kernel_rfl) ?_
    refine rvP C (.ptr 36 0) ?_
    refine rvP C (.ptr 36 0) ?_
    refine rvc_un (rexec_callM hP C (b := 36) rfl rfl rfl (lAt_calls g) rfl rfl ?_)
    refine rvP C (.pv (.lit (.int .i64 (IntKind.i64.wrap ((lAt g) + 1))))) ?_
    refine rvP C (sS (some (doData k ((lChain g).epoch)).nil) (eI .u8) ((doData k ((lChain g).epoch)).D)) ?_
    obtain ⟨a, hq_a⟩ : ∃ q_, q_ = (lApply g (IntKind.i64.wrap ((lAt g) + 1)) (doData k ((lChain g).epoch))) := ⟨_, rfl⟩
    have hc_a := (lApply_calls g (IntKind.i64.wrap ((lAt g) + 1)) (doData k ((lChain g).epoch)) hf0_g.1.1 (data_len k _ (Nat.le_trans ((short_ok ‹(!(short (Sl.mk false [l, (Sl.mk false [k])]))) = false› (Sl.mk false [k]) (by simp)).2 k (by simp)) (by decide))) hf0_g.1.2.1 (by have h_ := hf0_g.2; have h2_ := (short_ok ‹(!(short (Sl.mk false [l, (Sl.mk false [k])]))) = false› l (by simp)).1; omega))
    first | rw [← hq_a] at hR hc_a | (unfold lawOnce at hR; rw [← hq_a] at hR hc_a)
    have hf0_a := apply_okL (g := g) hf0_g.1 (IntKind.i64.wrap ((lAt g) + 1)) (doData k ((lChain g).epoch))
    rw [← hq_a] at hf0_a
    have hf1_a := apply_all g (IntKind.i64.wrap ((lAt g) + 1)) (doData k ((lChain g).epoch))
    rw [← hq_a] at hf1_a
    refine rvc_un (rexec_callM hP C (b := 36) rfl rfl rfl hc_a rfl rfl ?_)
    refine rvP C (.pv (.lit (.int .i64 a.2))) ?_
    refine rvc_nil ?_
    refine Awp.seq ?_
    refine Awp.cons C (fun _ => .writer) (by kernel_rfl) ?_
    refine rvP C (.ptr 36 0) ?_
    refine rvc_un (rexec_callM hP C (b := 36) rfl rfl rfl (lChain_calls a.1 hf0_a.2.1) rfl rfl ?_)
    refine rvP C (.pv (.lit (.int .i64 ((lChain a.1).epoch)))) ?_
    refine rvP C (.pv (.lit (.int .i64 ((lChain a.1).epoch)))) ?_
    refine rvc_nil ?_
    refine Awp.consP C ?_
    refine rvP C (.pv (.lit (.int .i64 a.2))) ?_
    refine rvP C (.pv (.lit (.bool (a.2 == 0)))) ?_
    refine rvP C (.pv (.lit (.bool (a.2 == 0)))) ?_
    refine rvc_case 54 (a.2 == 0) rfl (fun h4 => ?_) (fun h4 => ?_)
    ·
     replace hR := of_true h4 hR
     refine rvO C (.pv (.lit (.int .i64 ((lChain a.1).epoch)))) ?_
     refine rvO C (.pv (.lit (.int .i64 ((lChain g).epoch)))) ?_
     refine rvO C (.pv (.lit (.bool (decide (((lChain a.1).epoch) > ((lChain g).epoch)))))) ?_
     refine rvP C (.pv (.lit (.bool (decide (((lChain a.1).epoch) > ((lChain g).epoch)))))) ?_
     refine rvc_nil ?_
     refine Awp.cond (b := (decide (((lChain a.1).epoch) > ((lChain g).epoch)))) rfl (fun h5 => ?_) (fun h5 => ?_)
     ·
      replace hR := of_true h5 hR
      refine Awp.cons C (fun _ => .writer) (by kernel_rfl) ?_
      refine rvP C (.pv (.lit (.int .i64 ((lChain a.1).epoch)))) ?_
      refine rvP C (.pv (.lit (.int .i64 ((lChain g).epoch)))) ?_
      refine rvP C (.pv (.lit (.int .i64 (IntKind.i64.wrap (((lChain g).epoch) + 1))))) ?_
      refine rvP C (.pv (.lit (.bool (((lChain a.1).epoch) == (IntKind.i64.wrap (((lChain g).epoch) + 1)))))) ?_
      refine rvP C (.pv (.lit (.bool (((lChain a.1).epoch) == (IntKind.i64.wrap (((lChain g).epoch) + 1)))))) ?_
      refine rvc_case 63 (((lChain a.1).epoch) == (IntKind.i64.wrap (((lChain g).epoch) + 1))) rfl (fun h6 => ?_) (fun h6 => ?_)
      ·
       replace hR := of_true h6 hR
       refine rvO C (.ptr 36 0) ?_
       refine rvO C (.ptr 36 0) ?_
       refine rvc_open rfl rfl rfl (rexec_callM hP C (b := 36) rfl rfl rfl (lAt_calls a.1) rfl rfl ?_)
       refine rvO C (.pv (.lit (.int .i64 (IntKind.i64.wrap ((lAt a.1) + 1))))) ?_
       refine rvO C (sS (some (doData k ((lChain g).epoch)).nil) (eI .u8) ((doData k ((lChain g).epoch)).D)) ?_
       refine rvc_open rfl rfl rfl (rexec_callM hP C (b := 36) rfl rfl rfl (lApply_calls a.1 (IntKind.i64.wrap ((lAt a.1) + 1)) (doData k ((lChain g).epoch)) hf0_a.1 (data_len k _ (Nat.le_trans ((short_ok ‹(!(short (Sl.mk false [l, (Sl.mk false [k])]))) = false› (Sl.mk false [k]) (by simp)).2 k (by simp)) (by decide))) hf0_a.2.1 (by have h_ := hf0_g.2; have h2_ := (short_ok ‹(!(short (Sl.mk false [l, (Sl.mk false [k])]))) = false› l (by simp)).1; have h3_ := hf1_a; omega)) rfl rfl ?_)
       refine rvO C (.pv (.lit (.bool (((lApply a.1 (IntKind.i64.wrap ((lAt a.1) + 1)) (doData k ((lChain g).epoch))).2) == 150)))) ?_
       refine rvP C (.pv (.lit (.bool (((lApply a.1 (IntKind.i64.wrap ((lAt a.1) + 1)) (doData k ((lChain g).epoch))).2) == 150)))) ?_
       refine rvP C (.pv (.lit (.bool (((lApply a.1 (IntKind.i64.wrap ((lAt a.1) + 1)) (doData k ((lChain g).epoch))).2) == 150)))) ?_
       refine rvc_case 72 (((lApply a.1 (IntKind.i64.wrap ((lAt a.1) + 1)) (doData k ((lChain g).epoch))).2) == 150) rfl (fun h7 => ?_) (fun h7 => ?_)
       ·
        replace hR := of_true h7 hR
        refine rvO C (.ptr 36 0) ?_
        refine rvc_open rfl rfl rfl (rexec_callM hP C (b := 36) rfl rfl rfl (lChain_calls ((lApply a.1 (IntKind.i64.wrap ((lAt a.1) + 1)) (doData k ((lChain g).epoch))).1) (apply_okL hf0_a _ _).2.1) rfl rfl ?_)
        refine rvO C (.pv (.lit (.int .i64 ((lChain ((lApply a.1 (IntKind.i64.wrap ((lAt a.1) + 1)) (doData k ((lChain g).epoch))).1)).epoch)))) ?_
        refine rvO C (.pv (.lit (.int .i64 ((lChain a.1).epoch)))) ?_
        refine rvO C (.pv (.lit (.bool (((lChain ((lApply a.1 (IntKind.i64.wrap ((lAt a.1) + 1)) (doData k ((lChain g).epoch))).1)).epoch) == ((lChain a.1).epoch))))) ?_
        refine rvP C (.pv (.lit (.bool (((lChain ((lApply a.1 (IntKind.i64.wrap ((lAt a.1) + 1)) (doData k ((lChain g).epoch))).1)).epoch) == ((lChain a.1).epoch))))) ?_
        refine rvP C (.pv (.lit (.bool (((lChain ((lApply a.1 (IntKind.i64.wrap ((lAt a.1) + 1)) (doData k ((lChain g).epoch))).1)).epoch) == ((lChain a.1).epoch))))) ?_
        refine rvc_case 79 (((lChain ((lApply a.1 (IntKind.i64.wrap ((lAt a.1) + 1)) (doData k ((lChain g).epoch))).1)).epoch) == ((lChain a.1).epoch)) rfl (fun h8 => ?_) (fun h8 => ?_)
        ·
         replace hR := of_true h8 hR
         refine rvc_open rfl rfl rfl (rexec_call hP C rfl rfl rfl (awake_calls ) ?_)
         refine rvP C (.pv (.lit (.bool (awake )))) ?_
         refine rvP C (.pv (.lit (.bool (awake )))) ?_
         refine rvc_nil ?_
         refine Awp.ret ?_
         subst hR
         exact ⟨.inl rfl, rfl⟩
        ·
         replace hR := of_false h8 hR
         refine rvS ?_
         refine rvP C (.pv (.lit (.bool false))) ?_
         refine rvP C (.pv (.lit (.bool false))) ?_
         refine rvc_nil ?_
         refine Awp.ret ?_
         subst hR
         exact ⟨.inl rfl, rfl⟩
       ·
        replace hR := of_false h7 hR
        refine rvS ?_
        refine rvS ?_
        refine rvS ?_
        refine rvS ?_
        refine rvS ?_
        refine rvP C (.pv (.lit (.bool false))) ?_
        refine rvP C (.pv (.lit (.bool false))) ?_
        refine rvS ?_
        refine rvP C (.pv (.lit (.bool false))) ?_
        refine rvP C (.pv (.lit (.bool false))) ?_
        refine rvc_nil ?_
        refine Awp.ret ?_
        subst hR
        exact ⟨.inl rfl, rfl⟩
      ·
       replace hR := of_false h6 hR
       refine rvS ?_
       refine rvS ?_
       refine rvS ?_
       refine rvS ?_
       refine rvS ?_
       refine rvS ?_
       refine rvS ?_
       refine rvP C (.pv (.lit (.bool false))) ?_
       refine rvP C (.pv (.lit (.bool false))) ?_
       refine rvS ?_
       refine rvS ?_
       refine rvS ?_
       refine rvS ?_
       refine rvS ?_
       refine rvP C (.pv (.lit (.bool false))) ?_
       refine rvP C (.pv (.lit (.bool false))) ?_
       refine rvS ?_
       refine rvP C (.pv (.lit (.bool false))) ?_
       refine rvP C (.pv (.lit (.bool false))) ?_
       refine rvc_nil ?_
       refine Awp.ret ?_
       subst hR
       exact ⟨.inl rfl, rfl⟩
     ·
      replace hR := of_false h5 hR
      refine Awp.skip ?_
      refine Awp.cons C (fun _ => .writer) (by kernel_rfl) ?_
      refine rvP C (.ptr 36 0) ?_
      refine rvc_un (rexec_callM hP C (b := 36) rfl rfl rfl (lChain_calls a.1 hf0_a.2.1) rfl rfl ?_)
      refine rvP C (.pv (.lit (.int .i64 ((lChain a.1).epoch)))) ?_
      refine rvP C (.pv (.lit (.int .i64 ((lChain g).epoch)))) ?_
      refine rvP C (.pv (.lit (.bool (((lChain a.1).epoch) == ((lChain g).epoch))))) ?_
      refine rvP C (.pv (.lit (.bool (((lChain a.1).epoch) == ((lChain g).epoch))))) ?_
      refine rvc_case 87 (((lChain a.1).epoch) == ((lChain g).epoch)) rfl (fun h9 => ?_) (fun h9 => ?_)
      ·
       replace hR := of_true h9 hR
       refine rvc_open rfl rfl rfl (rexec_call hP C rfl rfl rfl (awake_calls ) ?_)
       refine rvP C (.pv (.lit (.bool (awake )))) ?_
       refine rvP C (.pv (.lit (.bool (awake )))) ?_
       refine rvc_nil ?_
       refine Awp.ret ?_
       subst hR
       exact ⟨.inl rfl, rfl⟩
      ·
       replace hR := of_false h9 hR
       refine rvS ?_
       refine rvP C (.pv (.lit (.bool false))) ?_
       refine rvP C (.pv (.lit (.bool false))) ?_
       refine rvc_nil ?_
       refine Awp.ret ?_
       subst hR
       exact ⟨.inl rfl, rfl⟩
    ·
     replace hR := of_false h4 hR
     refine rvS ?_
     refine rvS ?_
     refine rvS ?_
     refine rvP C (.pv (.lit (.bool false))) ?_
     refine rvc_nil ?_
     refine Awp.condF (b := false) rfl rfl ?_
     refine Awp.skip ?_
     refine Awp.cons C (fun _ => .writer) (by kernel_rfl) ?_
     refine rvP C (.ptr 36 0) ?_
     refine rvc_un (rexec_callM hP C (b := 36) rfl rfl rfl (lChain_calls a.1 hf0_a.2.1) rfl rfl ?_)
     refine rvP C (.pv (.lit (.int .i64 ((lChain a.1).epoch)))) ?_
     refine rvP C (.pv (.lit (.int .i64 ((lChain g).epoch)))) ?_
     refine rvP C (.pv (.lit (.bool (((lChain a.1).epoch) == ((lChain g).epoch))))) ?_
     refine rvP C (.pv (.lit (.bool (((lChain a.1).epoch) == ((lChain g).epoch))))) ?_
     refine rvc_case 87 (((lChain a.1).epoch) == ((lChain g).epoch)) rfl (fun h10 => ?_) (fun h10 => ?_)
     ·
      replace hR := of_true h10 hR
      refine rvc_open rfl rfl rfl (rexec_call hP C rfl rfl rfl (awake_calls ) ?_)
      refine rvP C (.pv (.lit (.bool (awake )))) ?_
      refine rvP C (.pv (.lit (.bool (awake )))) ?_
      refine rvc_nil ?_
      refine Awp.ret ?_
      subst hR
      exact ⟨.inl rfl, rfl⟩
     ·
      replace hR := of_false h10 hR
      refine rvS ?_
      refine rvP C (.pv (.lit (.bool false))) ?_
      refine rvP C (.pv (.lit (.bool false))) ?_
      refine rvc_nil ?_
      refine Awp.ret ?_
      subst hR
      exact ⟨.inl rfl, rfl⟩
end Go.Proofs.Ytpgenmflgdkfiaa
/- Numbers as bytes, in plain words: put, and read. No conditions. -/
namespace Go.Proofs.Ytpgenmflgdkfiaa
open Go.Am
/-- A number's bytes. -/
def vb (n : Nat) : List Int := if n < 128 then [(n : Int)] else ((n % 128 + 128 : Nat) : Int) :: vb (n / 128)
theorem vb_lt {n : Nat} (h : n < 128) : vb n = [(n : Int)] := by rw [vb, if_pos h]
theorem vb_ge {n : Nat} (h : 128 ≤ n) : vb n = ((n % 128 + 128 : Nat) : Int) :: vb (n / 128) := by rw [vb, if_neg (by omega)]
theorem wrap8 (n : Int) : IntKind.u8.wrap n = n % 256 := by simp [IntKind.wrap, IntKind.bits, IntKind.signed]
theorem bv8 (a : Nat) (h : a < 256) : (BitVec.ofInt 8 (a : Int)).toNat = a := by
  rw [BitVec.toNat_ofInt]
  show (((a : Int) % 256)).toNat = a
  omega
theorem and8 {a b : Nat} (ha : a < 256) (hb : b < 256) : bitI .and .u8 (a : Int) (b : Int) = ((a &&& b : Nat) : Int) := by
  unfold bitI
  show IntKind.u8.wrap ((BitVec.ofInt 8 (a : Int) &&& BitVec.ofInt 8 (b : Int)).toNat : Int) = _
  rw [BitVec.toNat_and, bv8 a ha, bv8 b hb, wrap8]
  have : a &&& b ≤ a := Nat.and_le_left
  omega
/-- The number that bytes begin with, and what follows. -/
def vd : Nat → List Int → Option (Nat × List Int)
  | _, [] => none
  | i, x :: l => if (i = 9 ∧ 1 < x.toNat % 128) ∨ 9 < i then none else if x = 0 ∧ 0 < i then none else if x < 128 then some (x.toNat, l) else
    match vd (i + 1) l with
    | some (n, r) => some (x.toNat % 128 + 128 * n, r)
    | none => none
/-- What is read is put so. -/
theorem vd_vb : ∀ (i : Nat) (l : List Int) (n : Nat) (r : List Int), (∀ x ∈ l, 0 ≤ x ∧ x < 256) → vd i l = some (n, r) → l = vb n ++ r ∧ (0 < i → 0 < n) ∧ n * 128 ^ i < 18446744073709551616
  | _, [], _, _, _, h => by simp [vd] at h
  | i, x :: l, n, r, hb, h => by
    have hx := hb x (List.mem_cons_self ..)
    have hl : ∀ y ∈ l, 0 ≤ y ∧ y < 256 := fun y hy => hb y (List.mem_cons_of_mem _ hy)
    rw [vd] at h
    split at h
    · cases h
    · rename_i h1
      have hi : i ≤ 9 := by omega
      have hp : 128 ^ i ≤ 9223372036854775808 := Nat.le_trans (Nat.pow_le_pow_right (by decide) hi) (by decide)
      split at h
      · cases h
      · rename_i h2
        split at h
        · rename_i h3
          simp only [Option.some.injEq, Prod.mk.injEq] at h
          obtain ⟨rfl, rfl⟩ := h
          refine ⟨?_, fun hi => by omega, ?_⟩
          · rw [vb_lt (by omega), show ((x.toNat : Nat) : Int) = x by omega]; rfl
          · rcases Nat.lt_or_ge i 9 with h9 | h9
            · have : 128 ^ i ≤ 72057594037927936 := Nat.le_trans (Nat.pow_le_pow_right (by decide) (show i ≤ 8 by omega)) (by decide)
              have h5 : x.toNat * 128 ^ i ≤ 127 * 72057594037927936 := Nat.mul_le_mul (by omega) this
              omega
            · have h5 : x.toNat * 128 ^ i ≤ 1 * 9223372036854775808 := Nat.mul_le_mul (by omega) hp
              omega
        · rename_i h3
          split at h
          · rename_i m r' hm
            simp only [Option.some.injEq, Prod.mk.injEq] at h
            obtain ⟨rfl, rfl⟩ := h
            obtain ⟨e1, e2, e3⟩ := vd_vb (i + 1) l m r' hl hm
            have hm0 := e2 (by omega)
            refine ⟨?_, fun _ => by omega, ?_⟩
            · rw [vb_ge (by omega), show (x.toNat % 128 + 128 * m) / 128 = m by omega, show (((x.toNat % 128 + 128 * m) % 128 + 128 : Nat) : Int) = x by omega, e1]; rfl
            · rw [Nat.pow_succ] at e3
              have h4 : (x.toNat % 128 + 128 * m) * 128 ^ i = x.toNat % 128 * 128 ^ i + m * (128 ^ i * 128) := by
                rw [Nat.add_mul, Nat.mul_comm (128 ^ i) 128, ← Nat.mul_assoc, Nat.mul_comm 128 m]
              have hlt : x.toNat % 128 * 128 ^ i < 128 ^ i * 128 := by
                rw [Nat.mul_comm (128 ^ i)]
                exact Nat.mul_lt_mul_of_pos_right (Nat.mod_lt _ (by decide)) (Nat.pow_pos (by decide))
              have hdiv : 128 ^ i * 128 ∣ 18446744073709551616 ∨ 9 ≤ i := by
                rcases Nat.lt_or_ge i 9 with h9 | h9
                · left
                  rw [← Nat.pow_succ]
                  have : (18446744073709551616 : Nat) = 2 ^ 64 := by decide
                  rw [this, show (128 : Nat) = 2 ^ 7 from rfl, ← Nat.pow_mul]
                  exact Nat.pow_dvd_pow 2 (by omega)
                · exact .inr h9
              rcases hdiv with ⟨q, hq⟩ | h9
              · rw [h4]
                have hmq : m < q := by
                  have h5 : m * (128 ^ i * 128) < (128 ^ i * 128) * q := by rw [← hq]; exact e3
                  rw [Nat.mul_comm m] at h5
                  exact Nat.lt_of_mul_lt_mul_left h5
                have h6 : (m + 1) * (128 ^ i * 128) ≤ q * (128 ^ i * 128) := Nat.mul_le_mul_right _ hmq
                rw [Nat.mul_comm q, ← hq, Nat.add_mul, Nat.one_mul] at h6
                omega
              · exfalso
                -- a tenth byte is the last one
                have hi9 : i = 9 := by omega
                subst hi9
                cases l with
                | nil => simp [vd] at hm
                | cons y l => rw [vd, if_pos (.inr (by decide))] at hm; cases hm
          · cases h
end Go.Proofs.Ytpgenmflgdkfiaa
/- What readers of bytes read, in plain words. No conditions. -/
namespace Go.Proofs.Ytpgenmflgdkfiaa
open Go.Am
theorem bif_num {α : Type} {a b c d e : Bool} {S5 S10 T : α} : (bif a then (bif b then S5 else (bif c then S5 else (bif d then (bif e then S10 else T) else T))) else (bif c then S5 else (bif d then (bif e then S10 else T) else T))) = (bif (a && b) || c then S5 else (bif d && e then S10 else T)) := by
  cases a <;> cases b <;> cases c <;> cases d <;> cases e <;> rfl
theorem and127 : ∀ y : Fin 256, (y.val &&& 127) = y.val % 128 := by decide +kernel
theorem low7 {x : Int} (h : 0 ≤ x ∧ x < 256) : IntKind.u64.wrap (bitI .and .u8 x 127) = ((x.toNat % 128 : Nat) : Int) := by
  have e : x = ((x.toNat : Nat) : Int) := by omega
  rw [e, show (127 : Int) = ((127 : Nat) : Int) from rfl, and8 (by omega) (by decide), and127 ⟨x.toNat, by omega⟩, wrapU]
  show ((x.toNat % 128 : Nat) : Int) % 18446744073709551616 = ((((x.toNat : Nat) : Int)).toNat % 128 : Nat)
  omega
theorem pow7 (i : Nat) : (2 : Nat) ^ (7 * i) = 128 ^ i := by rw [Nat.pow_mul]
theorem orshl {acc low i : Nat} (hi : i ≤ 9) (h1 : acc < 128 ^ i) (h2 : low * 128 ^ i < 18446744073709551616) : bitI .or .u64 (acc : Int) (shlI .u64 (low : Int) ((7 * i : Nat) : Int)) = ((acc + low * 128 ^ i : Nat) : Int) := by
  have hs : shlI .u64 (low : Int) ((7 * i : Nat) : Int) = ((low * 128 ^ i : Nat) : Int) := by
    show IntKind.u64.wrap ((low : Int) * 2 ^ (min (((7 * i : Nat) : Int).toNat) 64)) = _
    rw [Int.toNat_natCast, Nat.min_eq_left (by omega), wrapU, ← pow7]
    have : (low : Int) * 2 ^ (7 * i) = ((low * 2 ^ (7 * i) : Nat) : Int) := by simp
    rw [this]
    rw [← pow7] at h2
    omega
  have hp : 128 ^ i ≤ 9223372036854775808 := Nat.le_trans (Nat.pow_le_pow_right (by decide) hi) (by decide)
  rw [hs, or64 (by omega) h2]
  have := Nat.shiftLeft_add_eq_or_of_lt (b := acc) (i := 7 * i) (by rw [pow7]; exact h1) low
  rw [Nat.shiftLeft_eq, pow7] at this
  rw [Nat.or_comm, ← this, Nat.add_comm]
theorem getBang {D : List Int} {n : Nat} {x : Int} (h : D[n]? = some x) : D[n]! = x := by rw [getElem!_def, h]
theorem low_le {x i : Nat} (h : ¬ ((i = 9 ∧ 1 < x % 128) ∨ 9 < i)) : x % 128 * 128 ^ i < 18446744073709551616 := by
  rcases Nat.lt_or_ge i 9 with h9 | h9
  · have : 128 ^ i ≤ 72057594037927936 := Nat.le_trans (Nat.pow_le_pow_right (by decide) (show i ≤ 8 by omega)) (by decide)
    have h5 : x % 128 * 128 ^ i ≤ 127 * 72057594037927936 := Nat.mul_le_mul (by omega) this
    omega
  · have hi9 : i = 9 := by omega
    subst hi9
    have h6 : (128 : Nat) ^ 9 = 9223372036854775808 := by decide
    rw [h6]; omega
theorem acc_le {x i acc : Nat} (h1 : acc < 128 ^ i) : acc + x % 128 * 128 ^ i < 128 ^ (i + 1) := by
  rw [Nat.pow_succ, Nat.mul_comm (128 ^ i)]
  have h5 : x % 128 * 128 ^ i ≤ 127 * 128 ^ i := Nat.mul_le_mul_right _ (by omega)
  omega
theorem rdNum_l0_eq {D : List Int} (hD : ∀ x ∈ D, 0 ≤ x ∧ x < 256) (hl : D.length ≤ 1000000) (r : Reader) : ∀ (f i acc : Nat) (v : Reader), f = D.length - v.at_.toNat + 1 → v.b.D = D → 0 ≤ v.at_ → v.at_ ≤ (D.length : Int) → v.err = 0 → v.made = true → i ≤ 10 → acc < 128 ^ i →
    match vd i (D.drop v.at_.toNat) with
    | some (m, rest) => rdNum_l0 r f (acc : Int) ((7 * i : Nat) : Int) v = (Reader.mk v.b ((D.length : Int) - rest.length) 0 true, ((acc + m * 128 ^ i : Nat) : Int))
    | none => rdErr (rdNum_l0 r f (acc : Int) ((7 * i : Nat) : Int) v).1 ≠ 0
  | 0, _, _, _, hf, _, _, _, _, _, _, _ => by omega
  | f + 1, i, acc, v, hf, hb, h0, h1, he, hm, hi, hacc => by
    by_cases hat : v.at_ = (D.length : Int)
    · have e : (v.at_ == (v.b.D.length : Int)) = true := by rw [hb]; simpa using hat
      rw [List.drop_eq_nil_of_le (by omega), vd]
      unfold rdNum_l0
      rw [e]
      show rdErr (rdStop v r.at_ 2) ≠ 0
      unfold rdStop rdErr
      rw [he]
      show (bif !v.made then (6 : Int) else 2) ≠ 0
      rw [hm]; decide
    · have e : (v.at_ == (v.b.D.length : Int)) = false := by rw [hb]; simpa using hat
      obtain ⟨x, hx⟩ : ∃ x, D[v.at_.toNat]? = some x := ⟨_, List.getElem?_eq_getElem (by omega)⟩
      have hxb := hD x (List.mem_of_getElem? hx)
      have hw : IntKind.i64.wrap (v.at_ + 1) = v.at_ + 1 := by have := wrapI (v.at_ + 1); omega
      have hw2 : IntKind.i64.wrap (((7 * i : Nat) : Int) + 7) = ((7 * (i + 1) : Nat) : Int) := by have := wrapI (((7 * i : Nat) : Int) + 7); omega
      have hs : ∀ a q, q ≠ 0 → rdErr (rdStop (Reader.mk v.b (v.at_ + 1) v.err v.made) a q) ≠ 0 := fun a q hq => by
        unfold rdStop rdErr
        rw [he, hm]
        exact hq
      have hc : (((((7 * i : Nat) : Int) == 63) && decide (((x.toNat % 128 : Nat) : Int) > 1)) || decide (((7 * i : Nat) : Int) > 63)) = decide ((i = 9 ∧ 1 < x.toNat % 128) ∨ 9 < i) := by
        rw [Bool.eq_iff_iff]
        simp only [Bool.or_eq_true, Bool.and_eq_true, beq_iff_eq, decide_eq_true_eq]
        omega
      have hd : ((x == 0) && decide (((7 * i : Nat) : Int) > 0)) = decide (x = 0 ∧ 0 < i) := by
        rw [Bool.eq_iff_iff]
        simp only [Bool.and_eq_true, beq_iff_eq, decide_eq_true_eq]
        omega
      rw [drop_at hx, vd]
      unfold rdNum_l0
      rw [e, cond_false, hb, getBang hx, low7 hxb, hw, hw2, bif_num, hc, hd]
      by_cases c1 : (i = 9 ∧ 1 < x.toNat % 128) ∨ 9 < i
      · rw [if_pos c1, decide_eq_true c1]
        exact hs _ _ (by decide)
      · rw [if_neg c1, decide_eq_false c1, cond_false]
        by_cases c2 : x = 0 ∧ 0 < i
        · rw [if_pos c2, decide_eq_true c2]
          exact hs _ _ (by decide)
        · rw [if_neg c2, decide_eq_false c2, cond_false]
          have hor := orshl (acc := acc) (low := x.toNat % 128) (i := i) (by omega) hacc (low_le c1)
          rw [hor]
          by_cases c3 : x < 128
          · rw [if_pos c3, decide_eq_true c3, cond_true]
            have hx' : x.toNat % 128 = x.toNat := by omega
            show (Reader.mk v.b (v.at_ + 1) v.err v.made, _) = (Reader.mk v.b ((D.length : Int) - ((D.drop (v.at_.toNat + 1)).length : Int)) 0 true, _)
            rw [he, hm, hx', List.length_drop]
            have : v.at_ + 1 = (D.length : Int) - ((D.length - (v.at_.toNat + 1) : Nat) : Int) := by omega
            rw [this]
          · rw [if_neg c3, decide_eq_false c3, cond_false]
            have ih := rdNum_l0_eq hD hl r f (i + 1) (acc + x.toNat % 128 * 128 ^ i) (Reader.mk v.b (v.at_ + 1) v.err v.made) (by dsimp only; omega) hb (by dsimp only; omega) (by dsimp only; omega) he hm (by omega) (acc_le hacc)
            dsimp only at ih
            rw [show (v.at_ + 1).toNat = v.at_.toNat + 1 by omega] at ih
            cases hv : vd (i + 1) (D.drop (v.at_.toNat + 1)) with
            | none => rw [hv] at ih; exact ih
            | some q =>
              obtain ⟨m, rest⟩ := q
              rw [hv] at ih
              dsimp only at ih ⊢
              rw [ih]
              have : acc + x.toNat % 128 * 128 ^ i + m * 128 ^ (i + 1) = acc + (x.toNat % 128 + 128 * m) * 128 ^ i := by
                rw [Nat.pow_succ, Nat.add_mul, Nat.mul_comm (128 ^ i) 128, ← Nat.mul_assoc, Nat.mul_comm m 128]; omega
              rw [this]
/-- A reader of these bytes, with no error, ahead of those. -/
structure RdAt (r : Reader) (D l : List Int) : Prop where
  b : r.b.D = D
  made : r.made = true
  err : r.err = 0
  suf : l <:+ D
  at' : r.at_ = (D.length : Int) - l.length
theorem vd_suffix : ∀ (i : Nat) (l : List Int) (n : Nat) (r : List Int), vd i l = some (n, r) → r <:+ l
  | _, [], _, _, h => by simp [vd] at h
  | i, x :: l, n, r, h => by
    rw [vd] at h
    split at h
    · cases h
    · split at h
      · cases h
      · split at h
        · simp only [Option.some.injEq, Prod.mk.injEq] at h; rw [← h.2]; exact List.suffix_cons x l
        · split at h
          · rename_i m r' hm
            simp only [Option.some.injEq, Prod.mk.injEq] at h
            rw [← h.2]
            exact (vd_suffix (i + 1) l m r' hm).trans (List.suffix_cons x l)
          · cases h
theorem RdAt.drop {r : Reader} {D l : List Int} (h : RdAt r D l) : D.drop r.at_.toNat = l := by
  have h1 := List.suffix_iff_eq_drop.1 h.suf
  have h2 := h.suf.length_le
  have : r.at_.toNat = D.length - l.length := by have := h.at'; omega
  rw [this]; exact h1.symm
theorem RdAt.ok {r : Reader} {D l : List Int} (h : RdAt r D l) (hl : D.length ≤ 1000000) : okR r := by
  have h2 := h.suf.length_le
  have h3 := h.at'
  have h4 := h.b
  exact ⟨⟨by omega, by rw [h4]; omega⟩, by rw [h4]; exact hl⟩
theorem RdAt.err0 {r : Reader} {D l : List Int} (h : RdAt r D l) : rdErr r = 0 := by unfold rdErr; rw [h.made, h.err]; rfl
theorem rdNum_at {r : Reader} {D l : List Int} (h : RdAt r D l) (hD : ∀ x ∈ D, 0 ≤ x ∧ x < 256) (hl : D.length ≤ 1000000) :
    match vd 0 l with
    | some (m, rest) => RdAt (rdNum r).1 D rest ∧ (rdNum r).2 = (m : Int)
    | none => rdErr (rdNum r).1 ≠ 0 := by
  have hk := h.ok hl
  have hb := h.b
  have key := rdNum_l0_eq hD hl r (r.b.D.length - r.at_.toNat + 1) 0 0 r (by rw [hb]) hb hk.1.1 (by have := hk.1.2; rw [hb] at this; exact this) h.err h.made (by decide) (by decide)
  rw [h.drop] at key
  unfold rdNum
  rw [h.err0]
  simp only [bne_self_eq_false, cond_false]
  cases hv : vd 0 l with
  | none => rw [hv] at key; exact key
  | some q =>
    obtain ⟨m, rest⟩ := q
    rw [hv] at key
    dsimp only at key ⊢
    have key' : rdNum_l0 r (r.b.D.length - r.at_.toNat + 1) 0 0 r = _ := key
    rw [key']
    refine ⟨⟨hb, rfl, rfl, (vd_suffix 0 l m rest hv).trans h.suf, rfl⟩, ?_⟩
    simp
/-- A number within bounds. -/
def rin (lo hi : Int) (l : List Int) : Option (Nat × List Int) :=
  match vd 0 l with
  | some (n, r) => if (n : Int) ≤ 4611686018427387904 ∧ lo ≤ (n : Int) ∧ (n : Int) ≤ hi then some (n, r) else none
  | none => none
theorem bif3 {α : Type} {a b c : Bool} {S T : α} : (bif a then S else (bif b then S else (bif c then S else T))) = (bif a || b || c then S else T) := by cases a <;> cases b <;> cases c <;> rfl
theorem vd_lt {l : List Int} (hD : ∀ x ∈ l, 0 ≤ x ∧ x < 256) {n : Nat} {r : List Int} (h : vd 0 l = some (n, r)) : n < 18446744073709551616 := by
  have := (vd_vb 0 l n r hD h).2.2
  simpa using this
theorem rdIn_at {r : Reader} {D l : List Int} (lo hi : Int) (h : RdAt r D l) (hD : ∀ x ∈ D, 0 ≤ x ∧ x < 256) (hl : D.length ≤ 1000000) :
    match rin lo hi l with
    | some (m, rest) => RdAt (rdIn r lo hi).1 D rest ∧ (rdIn r lo hi).2 = (m : Int)
    | none => rdErr (rdIn r lo hi).1 ≠ 0 := by
  have h1 := rdNum_at h hD hl
  unfold rin rdIn
  cases hv : vd 0 l with
  | none =>
    rw [hv] at h1
    dsimp only at h1 ⊢
    have : (rdErr (rdNum r).1 != 0) = true := by simpa using h1
    rw [this]; exact h1
  | some q =>
    obtain ⟨m, rest⟩ := q
    rw [hv] at h1
    dsimp only at h1 ⊢
    obtain ⟨h2, h3⟩ := h1
    rw [h2.err0, h3]
    simp only [bne_self_eq_false, cond_false]
    have hml := vd_lt (fun x hx => hD x (h.suf.subset hx)) hv
    rw [bif3]
    by_cases hc : (m : Int) ≤ 4611686018427387904 ∧ lo ≤ (m : Int) ∧ (m : Int) ≤ hi
    · have hw : IntKind.i64.wrap (m : Int) = (m : Int) := by have := wrapI (m : Int); omega
      have : (decide ((m : Int) > 4611686018427387904) || decide (IntKind.i64.wrap (m : Int) < lo) || decide (IntKind.i64.wrap (m : Int) > hi)) = false := by
        rw [hw]; simp only [Bool.or_eq_false_iff, decide_eq_false_iff_not]; omega
      rw [if_pos hc, this]
      exact ⟨h2, hw⟩
    · have : (decide ((m : Int) > 4611686018427387904) || decide (IntKind.i64.wrap (m : Int) < lo) || decide (IntKind.i64.wrap (m : Int) > hi)) = true := by
        rcases Int.lt_or_le 4611686018427387904 (m : Int) with hgt | hle
        · simp [hgt]
        · have hw : IntKind.i64.wrap (m : Int) = (m : Int) := by have := wrapI (m : Int); omega
          rw [hw]; simp only [Bool.or_eq_true, decide_eq_true_eq]; omega
      rw [if_neg hc, this]
      show rdErr (rdStop (rdNum r).1 _ 5) ≠ 0
      unfold rdStop rdErr
      rw [h2.err]
      show (bif !(rdNum r).1.made then (6 : Int) else 5) ≠ 0
      rw [h2.made]; decide
theorem rdIn_err {r : Reader} (lo hi : Int) (h : rdErr r ≠ 0) : rdErr (rdIn r lo hi).1 ≠ 0 := by
  have e : (rdErr r != 0) = true := by simpa using h
  unfold rdIn
  rw [rdNum_err r e]
  dsimp only
  rw [e]
  exact h
theorem rdEnd_at {r : Reader} {D l : List Int} (h : RdAt r D l) : (rdEnd r != 0) = !l.isEmpty := by
  unfold rdEnd
  rw [h.err0]
  have h2 := h.suf.length_le
  have h3 := h.at'
  rw [h.b]
  cases l with
  | nil =>
    have : decide (r.at_ < (D.length : Int)) = false := decide_eq_false (by simp at h3; omega)
    rw [this]; rfl
  | cons x l =>
    have : decide (r.at_ < (D.length : Int)) = true := decide_eq_true (by simp at h3; omega)
    rw [this]; rfl
theorem rdEnd_err {r : Reader} (h : rdErr r ≠ 0) : (rdEnd r != 0) = true := by
  have e : (rdErr r != 0) = true := by simpa using h
  unfold rdEnd
  rw [e]; exact e
end Go.Proofs.Ytpgenmflgdkfiaa
/- What the reference's readers of bytes read, in plain words. No conditions. -/
namespace Go.Proofs.Ytpgenmflgdkfiaa
open Go.Am
/-- A reader of the reference, likewise. -/
structure RrAt (r : Reader94) (D l : List Int) : Prop where
  b : r.b.D = D
  err : r.e_ = 0
  suf : l <:+ D
  at' : r.at_ = (D.length : Int) - l.length
theorem RrAt.drop {r : Reader94} {D l : List Int} (h : RrAt r D l) : D.drop r.at_.toNat = l := by
  have h1 := List.suffix_iff_eq_drop.1 h.suf
  have h2 := h.suf.length_le
  have : r.at_.toNat = D.length - l.length := by have := h.at'; omega
  rw [this]; exact h1.symm
end Go.Proofs.Ytpgenmflgdkfiaa
/- Commands as bytes, in plain words. No conditions. -/
namespace Go.Proofs.Ytpgenmflgdkfiaa
open Go.Am
def get4 (h1 h2 h3 h4 : Int) (D : List Int) : Option Command :=
  match rin 0 h1 D with
  | none => none
  | some (k, l1) => match rin 0 h2 l1 with
    | none => none
    | some (n, l2) => match rin 0 h3 l2 with
      | none => none
      | some (s, l3) => match rin 0 h4 l3 with
        | none => none
        | some (e, l4) => bif l4.isEmpty then some ⟨k, n, s, e⟩ else none
def zeroC : Command := ⟨0, 0, 0, 0⟩
def asked (o : Option Command) : Command × Int :=
  match o with
  | some c => bif cmdCheck c != 0 then (zeroC, 120) else (c, 0)
  | none => (zeroC, 120)
theorem cmdGet_eq (b : Sl Int) (hD : ∀ x ∈ b.D, 0 ≤ x ∧ x < 256) (hl : b.D.length ≤ 1000000) : cmdGet b = asked (get4 99 6 3 1099511627776 b.D) := by
  have h0 : RdAt (rdNew b) b.D b.D := ⟨rfl, rfl, rfl, List.suffix_refl _, by show (0 : Int) = _; omega⟩
  unfold cmdGet get4
  have k1 := rdIn_at 0 99 h0 hD hl
  generalize rdIn (rdNew b) 0 99 = q1 at k1 ⊢
  cases e1 : rin 0 99 b.D with
  | none =>
    rw [e1] at k1
    have := rdEnd_err (rdIn_err 0 1099511627776 (rdIn_err 0 3 (rdIn_err 0 6 k1)))
    rw [this]; rfl
  | some p1 =>
    obtain ⟨n1, l1⟩ := p1
    rw [e1] at k1
    obtain ⟨a1, v1⟩ := k1
    dsimp only
    have k2 := rdIn_at 0 6 a1 hD hl
    generalize rdIn q1.1 0 6 = q2 at k2 ⊢
    cases e2 : rin 0 6 l1 with
    | none =>
      rw [e2] at k2
      have := rdEnd_err (rdIn_err 0 1099511627776 (rdIn_err 0 3 k2))
      rw [this]; rfl
    | some p2 =>
      obtain ⟨n2, l2⟩ := p2
      rw [e2] at k2
      obtain ⟨a2, v2⟩ := k2
      dsimp only
      have k3 := rdIn_at 0 3 a2 hD hl
      generalize rdIn q2.1 0 3 = q3 at k3 ⊢
      cases e3 : rin 0 3 l2 with
      | none =>
        rw [e3] at k3
        have := rdEnd_err (rdIn_err 0 1099511627776 k3)
        rw [this]; rfl
      | some p3 =>
        obtain ⟨n3, l3⟩ := p3
        rw [e3] at k3
        obtain ⟨a3, v3⟩ := k3
        dsimp only
        have k4 := rdIn_at 0 1099511627776 a3 hD hl
        generalize rdIn q3.1 0 1099511627776 = q4 at k4 ⊢
        cases e4 : rin 0 1099511627776 l3 with
        | none =>
          rw [e4] at k4
          have := rdEnd_err k4
          rw [this]; rfl
        | some p4 =>
          obtain ⟨n4, l4⟩ := p4
          rw [e4] at k4
          obtain ⟨a4, v4⟩ := k4
          dsimp only
          rw [rdEnd_at a4, v1, v2, v3, v4]
          cases l4 with
          | nil => rfl
          | cons x l => rfl
end Go.Proofs.Ytpgenmflgdkfiaa
/- The law of commands. No conditions. -/
namespace Go.Proofs.Ytpgenmflgdkfiaa
open Go.Am
theorem awake_true : awake = true := by decide +kernel
end Go.Proofs.Ytpgenmflgdkfiaa
/- Inputs of chapter 12, as plain values. No conditions. -/
namespace Go.Proofs.Ytpgenmflgdkfiaa
open Go.Am
set_option maxRecDepth 100000 in
theorem flat3 {m : Nat} {ps : List PV} (h : Flat Try.prog (m + 1) 3 ps) : ∃ n, ps = [.lit (.int .i64 n)] ∧ (Lit.int .i64 n).wf = true := by
  unfold Flat at h
  rw [Try.underlying3] at h
  exact h
def WT25 (x : Command) : Prop := (Lit.int .i64 x.kind).wf = true ∧ (Lit.int .i64 x.node).wf = true ∧ (Lit.int .i64 x.site).wf = true ∧ (Lit.int .i64 x.epoch).wf = true
set_option maxRecDepth 100000 in
theorem flat25 {m : Nat} {ps : List PV} (h : Flat Try.prog (m + 2) 25 ps) : ∃ x : Command, ps = eCommand.enc x ∧ WT25 x := by
  unfold Flat at h
  rw [Try.underlying25] at h
  obtain ⟨a0, b0, e0, h0, a1, b1, e1, h1, a2, b2, e2, h2, a3, b3, e3, h3, el⟩ := h
  obtain ⟨x0, rfl, w0⟩ := flat3 (m := m + 0) h0
  obtain ⟨x1, rfl, w1⟩ := flat3 (m := m + 0) h1
  obtain ⟨x2, rfl, w2⟩ := flat3 (m := m + 0) h2
  obtain ⟨x3, rfl, w3⟩ := flat3 (m := m + 0) h3
  subst el
  subst e3
  subst e2
  subst e1
  subst e0
  exact ⟨⟨x0, x1, x2, x3⟩, rfl, w0, w1, w2, w3⟩
set_option maxRecDepth 100000 in
theorem flat5 {m : Nat} {ps : List PV} (h : Flat Try.prog (m + 1) 5 ps) : ∃ n, ps = [.lit (.int .u8 n)] ∧ (Lit.int .u8 n).wf = true := by
  unfold Flat at h
  rw [Try.underlying5] at h
  exact h
def WT26 (s : Sl Int) : Prop := s.D.length ≤ maxLen ∧ (s.nil = true → s.D = []) ∧ ∀ x ∈ s.D, (Lit.int .u8 x).wf = true
set_option maxRecDepth 100000 in
theorem flat26 {m : Nat} {ps : List PV} (h : Flat Try.prog (m + 2) 26 ps) : ∃ s : Sl Int, ps = [.sl (some s.nil) s.D.length (encL (eI .u8) s.D)] ∧ WT26 s := by
  unfold Flat at h
  rw [Try.underlying26] at h
  obtain ⟨b, D, rfl, h1, h2, h3⟩ := h
  obtain ⟨D2, e1, e2, e3⟩ := enc_list (e := (eI .u8)) (W := fun x => (Lit.int .u8 x).wf = true) D fun y hy => flat5 (h3 y hy)
  rw [e2, ← e1]
  exact ⟨⟨b, D2⟩, rfl, (by show D2.length ≤ _; rw [e1]; exact h1), (fun hb => by have := h2 hb; rw [this] at e1; exact List.eq_nil_of_length_eq_zero e1), e3⟩
set_option maxRecDepth 100000 in
theorem flat4 {m : Nat} {ps : List PV} (h : Flat Try.prog (m + 1) 4 ps) : ∃ b, ps = [.lit (.bool b)] ∧ True := by
  unfold Flat at h
  rw [Try.underlying4] at h
  obtain ⟨b, h⟩ := h
  exact ⟨b, h, trivial⟩
def WT63 (x : Member) : Prop := (Lit.int .i64 x.node).wf = true ∧ (Lit.int .i64 x.site).wf = true ∧ True
set_option maxRecDepth 100000 in
theorem flat63 {m : Nat} {ps : List PV} (h : Flat Try.prog (m + 2) 63 ps) : ∃ x : Member, ps = eMember.enc x ∧ WT63 x := by
  unfold Flat at h
  rw [Try.underlying63] at h
  obtain ⟨a0, b0, e0, h0, a1, b1, e1, h1, a2, b2, e2, h2, el⟩ := h
  obtain ⟨x0, rfl, w0⟩ := flat3 (m := m + 0) h0
  obtain ⟨x1, rfl, w1⟩ := flat3 (m := m + 0) h1
  obtain ⟨x2, rfl, w2⟩ := flat4 (m := m + 0) h2
  subst el
  subst e2
  subst e1
  subst e0
  exact ⟨⟨x0, x1, x2⟩, rfl, w0, w1, w2⟩
def WT22 (s : Sl Member) : Prop := s.D.length ≤ maxLen ∧ (s.nil = true → s.D = []) ∧ ∀ x ∈ s.D, WT63 x
set_option maxRecDepth 100000 in
theorem flat22 {m : Nat} {ps : List PV} (h : Flat Try.prog (m + 3) 22 ps) : ∃ s : Sl Member, ps = [.sl (some s.nil) s.D.length (encL eMember s.D)] ∧ WT22 s := by
  unfold Flat at h
  rw [Try.underlying22] at h
  obtain ⟨b, D, rfl, h1, h2, h3⟩ := h
  obtain ⟨D2, e1, e2, e3⟩ := enc_list (e := eMember) (W := fun x => WT63 x) D fun y hy => flat63 (h3 y hy)
  rw [e2, ← e1]
  exact ⟨⟨b, D2⟩, rfl, (by show D2.length ≤ _; rw [e1]; exact h1), (fun hb => by have := h2 hb; rw [this] at e1; exact List.eq_nil_of_length_eq_zero e1), e3⟩
def WT28 (x : Do) : Prop := WT25 x.c ∧ WT26 x.b ∧ True ∧ (Lit.int .i64 x.by_).wf = true ∧ (Lit.int .i64 x.off).wf = true
set_option maxRecDepth 100000 in
theorem flat28 {m : Nat} {ps : List PV} (h : Flat Try.prog (m + 3) 28 ps) : ∃ x : Do, ps = eDo.enc x ∧ WT28 x := by
  unfold Flat at h
  rw [Try.underlying28] at h
  obtain ⟨a0, b0, e0, h0, a1, b1, e1, h1, a2, b2, e2, h2, a3, b3, e3, h3, a4, b4, e4, h4, el⟩ := h
  obtain ⟨x0, rfl, w0⟩ := flat25 (m := m + 0) h0
  obtain ⟨x1, rfl, w1⟩ := flat26 (m := m + 0) h1
  obtain ⟨x2, rfl, w2⟩ := flat4 (m := m + 1) h2
  obtain ⟨x3, rfl, w3⟩ := flat3 (m := m + 1) h3
  obtain ⟨x4, rfl, w4⟩ := flat3 (m := m + 1) h4
  subst el
  subst e4
  subst e3
  subst e2
  subst e1
  subst e0
  exact ⟨⟨x0, x1, x2, x3, x4⟩, rfl, w0, w1, w2, w3, w4⟩
def WT23 (s : Sl Do) : Prop := s.D.length ≤ maxLen ∧ (s.nil = true → s.D = []) ∧ ∀ x ∈ s.D, WT28 x
set_option maxRecDepth 100000 in
theorem flat23 {m : Nat} {ps : List PV} (h : Flat Try.prog (m + 4) 23 ps) : ∃ s : Sl Do, ps = [.sl (some s.nil) s.D.length (encL eDo s.D)] ∧ WT23 s := by
  unfold Flat at h
  rw [Try.underlying23] at h
  obtain ⟨b, D, rfl, h1, h2, h3⟩ := h
  obtain ⟨D2, e1, e2, e3⟩ := enc_list (e := eDo) (W := fun x => WT28 x) D fun y hy => flat28 (h3 y hy)
  rw [e2, ← e1]
  exact ⟨⟨b, D2⟩, rfl, (by show D2.length ≤ _; rw [e1]; exact h1), (fun hb => by have := h2 hb; rw [this] at e1; exact List.eq_nil_of_length_eq_zero e1), e3⟩
end Go.Proofs.Ytpgenmflgdkfiaa
/- The contract of LedgerCommands. No conditions. -/
namespace Go.Proofs.Ytpgenmflgdkfiaa
open Go.Am
end Go.Proofs.Ytpgenmflgdkfiaa
/- The epoch behind a command; what is not told by one. No conditions. -/
namespace Go.Proofs.Ytpgenmflgdkfiaa
open Go.Am
/-- What a change of a chain tells. -/
def told (c : Chain) (x : Chain × Int) : Prop := (x.2 = 0 → (x.1.epoch = c.epoch ∨ x.1.epoch = c.epoch + 1) ∧ check c = 0) ∧ x.2 ≠ 90
theorem told_err (c d : Chain) {e : Int} (h0 : e ≠ 0) (h : e ≠ 90) : told c (d, e) := ⟨fun h => absurd h h0, h⟩
theorem told_bif {c : Chain} {b : Bool} {x y : Chain × Int} (hx : b = true → told c x) (hy : b = false → told c y) : told c (bif b then x else y) := by
  cases b
  · exact hy rfl
  · exact hx rfl
theorem told_after {c : Chain} (h : check c = 0) (l : Sl Member) : told c (after c l, 0) :=
  ⟨fun _ => ⟨.inr (wrap_epoch h), h⟩, by show (0 : Int) ≠ 90; decide⟩
theorem told_check {c d : Chain} (h : (check c != 0) = true) : told c (d, check c) := by
  rcases check_80 c with e | e
  · rw [e] at h; cases h
  · rw [e]; exact told_err _ _ (by decide) (by decide)
theorem told_finW {c : Chain} (h : check c = 0) (l : List Member) : told c (finW c l) := by
  unfold finW
  refine told_bif (fun _ => told_err _ _ (by decide) (by decide)) fun _ => told_bif (fun _ => told_err _ _ (by decide) (by decide)) fun _ => told_bif (fun _ => told_err _ _ (by decide) (by decide)) fun _ => told_after h _
theorem told_without {c : Chain} (h : check c = 0) (g : Int) : told c (without c g) := by rw [without_eq]; exact told_finW h _
theorem told_drop (c : Chain) (n : Int) : told c (drop c n) := by
  unfold drop
  exact told_bif (fun h => told_check h) fun h => told_without (eq_of_bne_false h) _
theorem told_dropSite_l0 {c : Chain} (h : check c = 0) (s : Int) : ∀ (l : List Member) (i : Nat) (g : Int), told c (dropSite_l0 c s l i g)
  | [], _, g => by unfold dropSite_l0; exact told_without h g
  | x :: l, i, g => by
    unfold dropSite_l0
    exact told_bif (fun _ => told_dropSite_l0 h s l _ _) fun _ => told_dropSite_l0 h s l _ _
theorem told_dropSite (c : Chain) (s : Int) : told c (dropSite c s) := by
  unfold dropSite
  exact told_bif (fun h => told_check h) fun h => told_dropSite_l0 (eq_of_bne_false h) _ _ _ _
theorem told_join_l0 {c : Chain} (h : check c = 0) (m : Member) : ∀ (f : Nat) (i : Int), f = c.members.D.length - i.toNat + 1 → 0 ≤ i → i ≤ (c.members.D.length : Int) → told c (join_l0 c m f i)
  | 0, _, hf, _, _ => by omega
  | f + 1, i, hf, h0, h1 => by
    have h6 := check_le6 h
    unfold join_l0
    have e : told c (bif (i == 0) then ((Chain.mk 0 (Sl.mk true [])), (152 : Int)) else ((after c (Sl.mk false (insertL c.members.D i.toNat [(Member.mk m.node m.site true)]))), 0)) :=
      told_bif (fun _ => told_err _ _ (by decide) (by decide)) fun _ => told_after h _
    refine told_bif (fun hlt => told_bif (fun _ => ?_) fun _ => e) fun _ => e
    have := of_decide_eq_true hlt
    have := wrapI (i + 1)
    exact told_join_l0 h m f _ (by omega) (by omega) (by omega)
theorem told_join (c : Chain) (m : Member) : told c (join c m) := by
  unfold join
  refine told_bif (fun h => told_check h) fun h => told_bif (fun _ => told_err _ _ (by decide) (by decide)) fun _ => told_bif (fun _ => told_err _ _ (by decide) (by decide)) fun _ => told_bif (fun _ => told_err _ _ (by decide) (by decide)) fun _ => ?_
  exact told_join_l0 (eq_of_bne_false h) m _ 0 (by omega) (Int.le_refl _) (by omega)
theorem told_again (c : Chain) (n : Int) : told c (again c n) := by
  unfold again
  exact told_bif (fun h => told_check h) fun h => told_bif (fun _ => told_err _ _ (by decide) (by decide)) fun _ => told_bif (fun _ => told_err _ _ (by decide) (by decide)) fun _ => told_after (eq_of_bne_false h) _
theorem told_ready (c : Chain) (n : Int) : told c (ready c n) := by
  unfold ready
  exact told_bif (fun h => told_check h) fun h => told_bif (fun _ => told_err _ _ (by decide) (by decide)) fun _ => told_bif (fun _ => told_err _ _ (by decide) (by decide)) fun _ => ⟨fun _ => ⟨.inl rfl, eq_of_bne_false h⟩, by show (0 : Int) ≠ 90; decide⟩
theorem told_next (c : Chain) (k : Command) : told c (nextL c k) := by
  unfold nextL
  exact told_bif (fun _ => told_err _ _ (by decide) (by decide)) fun _ => told_bif (fun _ => told_drop _ _) fun _ => told_bif (fun _ => told_dropSite _ _) fun _ => told_bif (fun _ => told_join _ _) fun _ => told_bif (fun _ => told_again _ _) fun _ => told_ready _ _
theorem next_epoch {c : Chain} {k : Command} (h : (nextL c k).2 = 0) : k.epoch = c.epoch := by
  unfold nextL at h
  cases e : k.epoch != c.epoch
  · exact eq_of_bne_false e
  · rw [e] at h; cases h
theorem next_late {c : Chain} {k : Command} (h : k.epoch ≠ c.epoch) : (nextL c k).2 = 150 := by
  unfold nextL
  have e : (k.epoch != c.epoch) = true := by simpa using h
  rw [e]; rfl
theorem get_code (b : Sl Int) : (cmdGet b).2 = 0 ∨ (cmdGet b).2 = 120 := by
  unfold cmdGet
  cases (rdEnd (rdIn (rdIn (rdIn (rdIn (rdNew b) 0 99).1 0 6).1 0 3).1 0 1099511627776).1) != 0
  · simp only [cond_false]
    cases cmdCheck _ != 0
    · exact .inl rfl
    · exact .inr rfl
  · exact .inr rfl
/-- A ledger behind so many calls. -/
structure Lived (g : Ledger) (n : Nat) : Prop where
  lo : 1 ≤ g.chain.epoch
  hi : g.chain.epoch ≤ 1 + (n : Int)
  at0 : 0 ≤ g.at_
  at1 : g.at_ ≤ (n : Int)
theorem Lived.dead {g : Ledger} {n : Nat} (h : Lived g n) : lDead g = false := by
  have := h.lo
  unfold lDead
  simp; omega
theorem Lived.chain {g : Ledger} {n : Nat} (h : Lived g n) : lChain g = copied g.chain := by unfold lChain; rw [h.dead]; rfl
theorem Lived.at_ {g : Ledger} {n : Nat} (h : Lived g n) : lAt g = g.at_ := by unfold lAt; rw [h.dead]; rfl
/-- What Apply does, told by cases. -/
theorem apply_cases {g : Ledger} {n : Nat} (h : Lived g n) (_ : n ≤ 1000) (i : Int) (d : Sl Int) :
    (lApply g i d = (g, 90)) ∨
    (i = g.at_ + 1 ∧ ((lApply g i d = (Ledger.mk g.past g.chain i, 0) ∧ d.D.length = 0) ∨ (lApply g i d = (Ledger.mk g.past g.chain i, (cmdGet d).2) ∧ (cmdGet d).2 = 120) ∨
      ((cmdGet d).2 = 0 ∧ lApply g i d = (Ledger.mk g.past g.chain i, (nextL g.chain (cmdGet d).1).2) ∧ (nextL g.chain (cmdGet d).1).2 ≠ 0) ∨
      ((cmdGet d).2 = 0 ∧ (nextL g.chain (cmdGet d).1).2 = 0 ∧ (((nextL g.chain (cmdGet d).1).1.epoch > g.chain.epoch ∧ lApply g i d = (Ledger.mk (Past.mk (Sl.mk false (g.past.all.D ++ [copied (nextL g.chain (cmdGet d).1).1]))) (nextL g.chain (cmdGet d).1).1 i, 0)) ∨
        (¬ (nextL g.chain (cmdGet d).1).1.epoch > g.chain.epoch ∧ lApply g i d = (Ledger.mk g.past (nextL g.chain (cmdGet d).1).1 i, 0)))))) := by
  have h1 := h.at0
  have h2 := h.at1
  unfold lApply
  rw [h.dead, cond_false]
  cases e1 : decide (i > 1099511627776)
  · have f1 := of_decide_eq_false e1
    rw [cond_false]
    cases e2 : decide (i < 1)
    · have f2 := of_decide_eq_false e2
      rw [cond_false]
      cases e3 : IntKind.i64.wrap (i - 1) != g.at_
      · have f3 := eq_of_bne_false e3
        have := wrapI (i - 1)
        have hi : i = g.at_ + 1 := by omega
        rw [cond_false]
        refine .inr ⟨hi, ?_⟩
        cases e4 : (d.D.length : Int) == 0
        · rw [cond_false]
          refine .inr ?_
          rcases get_code d with e5 | e5
          · rw [e5]
            simp only [bne_self_eq_false, cond_false]
            refine .inr ?_
            cases e6 : (nextL g.chain (cmdGet d).1).2 != 0
            · have f6 := eq_of_bne_false e6
              rw [cond_false]
              refine .inr ⟨by first | rfl | trivial, f6, ?_⟩
              cases e7 : decide ((nextL g.chain (cmdGet d).1).1.epoch > g.chain.epoch)
              · exact .inr ⟨of_decide_eq_false e7, rfl⟩
              · exact .inl ⟨of_decide_eq_true e7, rfl⟩
            · exact .inl ⟨by first | rfl | trivial, rfl, by simpa using e6⟩
          · rw [e5]
            exact .inl ⟨rfl, rfl⟩
        · exact .inl ⟨rfl, by simpa using e4⟩
      · exact .inl rfl
    · exact .inl rfl
  · exact .inl rfl
theorem Lived.apply {g : Ledger} {n : Nat} (h : Lived g n) (hn : n ≤ 1000) (i : Int) (d : Sl Int) : Lived (lApply g i d).1 (n + 1) := by
  have a := h.lo; have b := h.hi; have c := h.at0; have e := h.at1
  rcases apply_cases h hn i d with q | ⟨hi, ⟨q, _⟩ | ⟨q, _⟩ | ⟨_, q, _⟩ | ⟨_, q0, ⟨_, q⟩ | ⟨_, q⟩⟩⟩
  · rw [q]; exact ⟨a, by dsimp only; omega, c, by dsimp only; omega⟩
  · rw [q]; exact ⟨a, by dsimp only; omega, by dsimp only; omega, by dsimp only; omega⟩
  · rw [q]; exact ⟨a, by dsimp only; omega, by dsimp only; omega, by dsimp only; omega⟩
  · rw [q]; exact ⟨a, by dsimp only; omega, by dsimp only; omega, by dsimp only; omega⟩
  · rw [q]
    have := ((told_next g.chain (cmdGet d).1).1 q0).1
    exact ⟨by dsimp only; omega, by dsimp only; omega, by dsimp only; omega, by dsimp only; omega⟩
  · rw [q]
    have := ((told_next g.chain (cmdGet d).1).1 q0).1
    exact ⟨by dsimp only; omega, by dsimp only; omega, by dsimp only; omega, by dsimp only; omega⟩
theorem newL_lived {m : Sl Member} (h : (firstC m).2 = 0) : Lived (newL m).1 0 := by
  have e : (firstC m).1.epoch = 1 := by
    rw [firstC_eq] at h ⊢
    unfold finF at h ⊢
    generalize bySite m.D 0 ++ bySite m.D 1 ++ bySite m.D 2 = vc at h ⊢
    cases e1 : ((vc.length : Int) != (m.D.length : Int))
    · rw [e1] at h
      simp only [cond_false] at h ⊢
      cases e2 : check (Chain.mk 1 (Sl.mk vc.isEmpty vc)) != 0
      · rfl
      · rw [e2] at h; cases h
    · rw [e1] at h; cases h
  exact ⟨by show 1 ≤ (firstC m).1.epoch; omega, by show (firstC m).1.epoch ≤ _; omega, Int.le_refl _, Int.le_refl _⟩
theorem made_l0_lived : ∀ (l : List Do) (i n : Nat) (g : Ledger), Lived g n → n + l.length ≤ 1000 → Lived (made_l0 l i g) (n + l.length)
  | [], _, _, _, h, _ => h
  | x :: l, i, n, g, h, hn => by
    unfold made_l0
    rw [List.length_cons] at hn
    have := made_l0_lived l (i + 1) (n + 1) _ (h.apply (by omega) (doIndex x (lAt g)) (doData x (lChain g).epoch)) (by omega)
    rw [List.length_cons]
    rwa [show n + 1 + l.length = n + (l.length + 1) by omega] at this
theorem made_lived {m : Sl Member} {l : Sl Do} (h : (firstC m).2 = 0) (hl : l.D.length ≤ 1000) : Lived (made m l) l.D.length := by
  have := made_l0_lived l.D 0 0 _ (newL_lived h) (by omega)
  rwa [Nat.zero_add] at this
end Go.Proofs.Ytpgenmflgdkfiaa
/- The laws: a command is done once; what is refused changes nothing. No conditions. -/
namespace Go.Proofs.Ytpgenmflgdkfiaa
open Go.Am
def onceOf (g : Ledger) (a b : Ledger × Int) : Bool :=
  bif a.2 == 0 then (bif decide (a.1.chain.epoch > g.chain.epoch) then (bif a.1.chain.epoch == IntKind.i64.wrap (g.chain.epoch + 1) then (bif b.2 == 150 then (bif b.1.chain.epoch == a.1.chain.epoch then true else false) else false) else false) else (bif a.1.chain.epoch == g.chain.epoch then true else false)) else (bif a.1.chain.epoch == g.chain.epoch then true else false)
theorem onceOf_true {g : Ledger} {n : Nat} (hg : Lived g n) (hn : n ≤ 500) (d : Sl Int) : onceOf g (lApply g (g.at_ + 1) d) (lApply (lApply g (g.at_ + 1) d).1 (IntKind.i64.wrap ((lApply g (g.at_ + 1) d).1.at_ + 1)) d) = true := by
  have ha := hg.apply (by omega) (g.at_ + 1) d
  have h0 := hg.at0
  have h1 := hg.at1
  unfold onceOf
  rcases apply_cases hg (by omega) (g.at_ + 1) d with q | ⟨hi, ⟨q, _⟩ | ⟨q, qc⟩ | ⟨_, q, qn⟩ | ⟨g0, q0, ⟨qe, q⟩ | ⟨qe, q⟩⟩⟩
  · rw [q]; simp
  · rw [q]; simp
  · rw [q]; simp
  · rw [q]; simp
  · rw [q] at ha ⊢
    have ht := ((told_next g.chain (cmdGet d).1).1 q0).1
    have hk := next_epoch q0
    have hlo := hg.lo
    have hhi := hg.hi
    have hw2 := wrapI (g.chain.epoch + 1)
    have hiw2 : IntKind.i64.wrap (g.at_ + 1 + 1) = g.at_ + 1 + 1 := by have := wrapI (g.at_ + 1 + 1); omega
    dsimp only at ha ⊢
    have ne : (nextL g.chain (cmdGet d).1).1.epoch = g.chain.epoch + 1 := by omega
    have e5 : decide ((nextL g.chain (cmdGet d).1).1.epoch > g.chain.epoch) = true := decide_eq_true qe
    have e6 : ((nextL g.chain (cmdGet d).1).1.epoch == IntKind.i64.wrap (g.chain.epoch + 1)) = true := by rw [beq_iff_eq]; omega
    rw [hiw2, e5, e6]
    generalize hG : Ledger.mk (Past.mk (Sl.mk false (g.past.all.D ++ [copied (nextL g.chain (cmdGet d).1).1]))) (nextL g.chain (cmdGet d).1).1 (g.at_ + 1) = G at ha ⊢
    have gc : G.chain = (nextL g.chain (cmdGet d).1).1 := by rw [← hG]
    have gat : G.at_ = g.at_ + 1 := by rw [← hG]
    have late : (nextL G.chain (cmdGet d).1).2 = 150 := next_late (by rw [gc, hk, ne]; omega)
    have h9 : lApply G (g.at_ + 1 + 1) d = (Ledger.mk G.past G.chain (g.at_ + 1 + 1), 150) := by
      rcases apply_cases ha (by omega) (g.at_ + 1 + 1) d with r | ⟨ri, ⟨r, rz⟩ | ⟨r, rc⟩ | ⟨_, r, rn⟩ | ⟨_, r0, _⟩⟩
      · exfalso
        unfold lApply at r
        rw [ha.dead, cond_false] at r
        have f1 : decide (g.at_ + 1 + 1 > 1099511627776) = false := decide_eq_false (by omega)
        have f2 : decide (g.at_ + 1 + 1 < 1) = false := decide_eq_false (by omega)
        have f3 : (IntKind.i64.wrap (g.at_ + 1 + 1 - 1) != G.at_) = false := by
          have := wrapI (g.at_ + 1)
          rw [gat, show g.at_ + 1 + 1 - 1 = g.at_ + 1 by omega, show IntKind.i64.wrap (g.at_ + 1) = g.at_ + 1 by omega]
          simp
        rw [f1, f2, f3] at r
        simp only [cond_false] at r
        cases f4 : (d.D.length : Int) == 0
        · rw [f4, g0] at r
          simp only [bne_self_eq_false, cond_false] at r
          rw [late] at r
          have := congrArg Prod.snd r
          exact absurd this (by show ¬ ((150 : Int) = 90); decide)
        · rw [f4] at r
          have := congrArg Prod.snd r
          exact absurd this (by show ¬ ((0 : Int) = 90); decide)
      · exfalso
        have : (cmdGet d).2 ≠ 0 := by
          have hD : d.D = [] := List.eq_nil_of_length_eq_zero rz
          rw [cmdGet_eq _ (by rw [hD]; intro x hx; cases hx) (by rw [hD]; decide), hD]
          decide
        exact this g0
      · rw [g0] at rc; cases rc
      · rw [r, late]
      · rw [late] at r0; cases r0
    rw [h9]
    dsimp only
    rw [gc]
    simp
  · rw [q]
    have ht := ((told_next g.chain (cmdGet d).1).1 q0).1
    have ne : (nextL g.chain (cmdGet d).1).1.epoch = g.chain.epoch := by omega
    dsimp only
    rw [ne]; simp
theorem lawOnce_true (m : Sl Member) (l : Sl Do) (k : Do) : lawOnce m l k = true := by
  unfold lawOnce
  rw [awake_true]
  cases e1 : decide ((m.D.length : Int) > 60)
  · cases e2 : !(short (Sl.mk false [l, (Sl.mk false [k])]))
    · cases e3 : ((firstC m).2) != 0
      · have hl := (short_ok e2 l (by simp)).1
        have hg := made_lived (l := l) (eq_of_bne_false e3) (by omega)
        have ha := hg.apply (by omega) (IntKind.i64.wrap ((lAt (made m l)) + 1)) (doData k ((lChain (made m l)).epoch))
        have hb := ha.apply (by omega) (IntKind.i64.wrap ((lAt (lApply (made m l) (IntKind.i64.wrap ((lAt (made m l)) + 1)) (doData k ((lChain (made m l)).epoch))).1) + 1)) (doData k ((lChain (made m l)).epoch))
        simp only [cond_false]
        rw [hb.chain, ha.chain, ha.at_, hg.chain, hg.at_]
        have h0 := hg.at0
        have h1 := hg.at1
        have hw := wrapI ((made m l).at_ + 1)
        have hiw : IntKind.i64.wrap ((made m l).at_ + 1) = (made m l).at_ + 1 := by omega
        rw [hiw]
        exact onceOf_true hg (by omega) (doData k ((copied (made m l).chain).epoch))
      · rfl
    · rfl
  · rfl
theorem ledgerOnce_calls (m : Sl Member) (w : WT22 m) (l : Sl Do) (_ : WT23 l) (k : Do) (_ : WT28 k) : PCalls Try.prog 3 [sS (some m.nil) eMember m.D, sS (some l.nil) eDo l.D, .agg ((eDo.enc k).map .pv)] (.pv (.bool true)) := by
  have r := lawOnce_calls m l k (Nat.le_trans w.1 (by decide))
  rw [lawOnce_true] at r
  exact r
end Go.Proofs.Ytpgenmflgdkfiaa
/- An abstract machine over the kit's calls, part 34: three rows of three numbers that are handed in. No conditions. -/
namespace Go.Am
section
variable {H : Type} {enc : TypeId × Value → H} {P : Program} {w : World} {base : Nat} {spare : Nat → Bool} {held : Bool}
end
end Go.Am
/- What all rows of this seat need: no knob is turned, the types are laid out. No conditions. -/
namespace Go.Proofs.Ytpgenmflgdkfiaa
open Go.Am
theorem own : ownKnob Try.prog.godebug = none := by kernel_rfl
theorem laidOut : laidOutB Try.prog = true := by kernel_rfl
end Go.Proofs.Ytpgenmflgdkfiaa
