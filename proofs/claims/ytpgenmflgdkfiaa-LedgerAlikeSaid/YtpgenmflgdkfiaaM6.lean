import Derived.Test.YtpgenmflgdkfiaaM5
import Derived.Test.YtpgenmflgdkfiaaM2
import Derived.Test.YtpgenmflgdkfiaaM3
/- The ledger: commands done. No conditions. -/
namespace Go.Proofs.Ytpgenmflgdkfiaa
open Go.Am
structure Ledger60 where
  c : Chain
  all : (Sl Chain)
  at_ : Int
  deriving Inhabited
structure Do where
  c : Command
  b : (Sl Int)
  raw : Bool
  by_ : Int
  off : Int
  deriving Inhabited
def eDo : Enc Do := ⟨8, fun x => [.lit (.int .i64 x.c.kind), .lit (.int .i64 x.c.node), .lit (.int .i64 x.c.site), .lit (.int .i64 x.c.epoch), .sl (some x.b.nil) x.b.D.length (encL (eI .u8) x.b.D), .lit (.bool x.raw), .lit (.int .i64 x.by_), .lit (.int .i64 x.off)], fun _ => rfl⟩
def lApply (l : Ledger) (index : Int) (data : (Sl Int)) : Ledger × Int :=
  (bif (lDead l) then (l, 6) else (bif (decide (index > 1099511627776)) then (l, 90) else (bif (decide (index < 1)) then (l, 90) else (bif ((IntKind.i64.wrap (index - 1)) != l.at_) then (l, 90) else (bif ((data.D.length : Int) == 0) then ((Ledger.mk l.past l.chain index), 0) else (bif ((cmdGet data).2 != 0) then ((Ledger.mk l.past l.chain index), (cmdGet data).2) else (bif ((nextL l.chain (cmdGet data).1).2 != 0) then ((Ledger.mk l.past l.chain index), (nextL l.chain (cmdGet data).1).2) else (bif (decide ((nextL l.chain (cmdGet data).1).1.epoch > l.chain.epoch)) then ((Ledger.mk (Past.mk (Sl.mk false (l.past.all.D ++ [(copied (nextL l.chain (cmdGet data).1).1)]))) (nextL l.chain (cmdGet data).1).1 index), 0) else ((Ledger.mk l.past (nextL l.chain (cmdGet data).1).1 index), 0)))))))))
theorem lApply_calls (l : Ledger) (index : Int) (data : (Sl Int)) (hn : l.chain.members.nil = true → l.chain.members.D = []) (hl1 : data.D.length ≤ 1000000) (hl2 : l.chain.members.D.length ≤ 1000000) (hl3 : l.past.all.D.length ≤ 1000000) : MCalls Try.prog 16 [.ptr 0 0, .pv (.lit (.int .i64 index)), sS (some data.nil) (eI .u8) data.D] (.cells [sS (some l.past.all.nil) eChain l.past.all.D, .pv (.lit (.int .i64 l.chain.epoch)), sS (some l.chain.members.nil) eMember l.chain.members.D, .pv (.lit (.int .i64 l.at_))]) (.pv (.lit (.int .i64 ((lApply l index data).2)))) (.cells [sS (some (lApply l index data).1.past.all.nil) eChain ((lApply l index data).1.past.all.D), .pv (.lit (.int .i64 ((lApply l index data).1.chain.epoch))), sS (some (lApply l index data).1.chain.members.nil) eMember ((lApply l index data).1.chain.members.D), .pv (.lit (.int .i64 ((lApply l index data).1.at_)))]) := by
 generalize hR : lApply l index data = R
 refine MCalls.of_body tabOk Try.func16 rfl rfl rfl rfl rfl rfl rfl mixed fun E hP C hI => ?_
 refine Awp.consP C ?_
 refine rvP C (.pv (.lit (.int .i64 0))) ?_
 refine rvc_nil ?_
 refine Awp.seq ?_
 refine Awp.block ?_
 refine Awp.cons C (fun _ => .writer) (by kernel_rfl) ?_
 refine rvP C (.ptr 0 0) ?_
 refine rvc_un (rexec_callM hP C (b := 0) rfl rfl rfl (lDead_calls l) rfl rfl ?_)
 refine rvP C (.pv (.lit (.bool (lDead l)))) ?_
 refine rvc_nil ?_
 refine Awp.cond (b := (lDead l)) rfl (fun h1 => ?_) (fun h1 => ?_)
 ·
  replace hR := of_true h1 hR
  refine Awp.consP C ?_
  refine rvP C (.pv (.lit (.int .i64 6))) ?_
  refine rvc_nil ?_
  refine Awp.ret ?_
  subst hR
  exact ⟨.inl rfl, rfl, rfl⟩
 ·
  replace hR := of_false h1 hR
  refine Awp.consP C ?_
  refine rvP C (.pv (.lit (.int .i64 index))) ?_
  refine rvP C (.pv (.lit (.bool (decide (index > 1099511627776))))) ?_
  refine rvP C (.pv (.lit (.bool (decide (index > 1099511627776))))) ?_
  refine rvc_case 16 (decide (index > 1099511627776)) rfl (fun h2 => ?_) (fun h2 => ?_)
  ·
   replace hR := of_true h2 hR
   refine rvS ?_
   refine rvS ?_
   refine rvP C (.pv (.lit (.bool true))) ?_
   refine rvP C (.pv (.lit (.bool true))) ?_
   refine rvS ?_
   refine rvS ?_
   refine rvS ?_
   refine rvS ?_
   refine rvS ?_
   refine rvS ?_
   refine rvS ?_
   refine rvP C (.pv (.lit (.bool true))) ?_
   refine rvP C (.pv (.lit (.bool true))) ?_
   refine rvc_nil ?_
   refine Awp.condT (b := true) rfl rfl ?_
   refine Awp.consP C ?_
   refine rvP C (.pv (.lit (.int .i64 90))) ?_
   refine rvc_nil ?_
   refine Awp.ret ?_
   subst hR
   exact ⟨.inl rfl, rfl, rfl⟩
  ·
   replace hR := of_false h2 hR
   refine rvO C (.pv (.lit (.int .i64 index))) ?_
   refine rvO C (.pv (.lit (.bool (decide (index < 1))))) ?_
   refine rvP C (.pv (.lit (.bool (decide (index < 1))))) ?_
   refine rvP C (.pv (.lit (.bool (decide (index < 1))))) ?_
   refine rvc_case 20 (decide (index < 1)) rfl (fun h3 => ?_) (fun h3 => ?_)
   ·
    replace hR := of_true h3 hR
    refine rvS ?_
    refine rvS ?_
    refine rvS ?_
    refine rvS ?_
    refine rvS ?_
    refine rvS ?_
    refine rvS ?_
    refine rvP C (.pv (.lit (.bool true))) ?_
    refine rvP C (.pv (.lit (.bool true))) ?_
    refine rvc_nil ?_
    refine Awp.condT (b := true) rfl rfl ?_
    refine Awp.consP C ?_
    refine rvP C (.pv (.lit (.int .i64 90))) ?_
    refine rvc_nil ?_
    refine Awp.ret ?_
    subst hR
    exact ⟨.inl rfl, rfl, rfl⟩
   ·
    replace hR := of_false h3 hR
    refine rvO C (.pv (.lit (.int .i64 index))) ?_
    refine rvO C (.pv (.lit (.int .i64 (IntKind.i64.wrap (index - 1))))) ?_
    refine rvO C (.ptr 0 0) ?_
    refine rvO C (.ptr 0 0) ?_
    refine rvO C (.ptr 0 3) ?_
    refine rvO C (.pv (.lit (.int .i64 l.at_))) ?_
    refine rvO C (.pv (.lit (.bool ((IntKind.i64.wrap (index - 1)) != l.at_)))) ?_
    refine rvP C (.pv (.lit (.bool ((IntKind.i64.wrap (index - 1)) != l.at_)))) ?_
    refine rvP C (.pv (.lit (.bool ((IntKind.i64.wrap (index - 1)) != l.at_)))) ?_
    refine rvc_nil ?_
    refine Awp.cond (b := ((IntKind.i64.wrap (index - 1)) != l.at_)) rfl (fun h4 => ?_) (fun h4 => ?_)
    ·
     replace hR := of_true h4 hR
     refine Awp.consP C ?_
     refine rvP C (.pv (.lit (.int .i64 90))) ?_
     refine rvc_nil ?_
     refine Awp.ret ?_
     subst hR
     exact ⟨.inl rfl, rfl, rfl⟩
    ·
     replace hR := of_false h4 hR
     refine Awp.skip ?_
     refine Awp.consP C ?_
     refine rvP C (.ptr 0 0) ?_
     refine rvP C (.pv (.lit (.int .i64 index))) ?_
     refine rvP C (.ptr 0 0) ?_
     refine rvP C (.ptr 0 3) ?_
     refine rvc_un (rexec_prim C (δ := { v := .undef, wr := [(0, some (.cells [sS (some l.past.all.nil) eChain l.past.all.D, .pv (.lit (.int .i64 l.chain.epoch)), sS (some l.chain.members.nil) eMember l.chain.members.D, .pv (.lit (.int .i64 index))]))] }) rfl rfl rfl rfl trivial rfl ?_)
     refine rvc_nil ?_
     refine Awp.seq ?_
     refine Awp.consP C ?_
     refine rvP C (sS (some data.nil) (eI .u8) data.D) ?_
     refine rvP C (.pv (.lit (.int .i64 (data.D.length : Int)))) ?_
     refine rvP C (.pv (.lit (.bool ((data.D.length : Int) == 0)))) ?_
     refine rvc_nil ?_
     refine Awp.cond (b := ((data.D.length : Int) == 0)) rfl (fun h5 => ?_) (fun h5 => ?_)
     ·
      replace hR := of_true h5 hR
      refine Awp.consP C ?_
      refine rvP C (.pv (.lit (.int .i64 0))) ?_
      refine rvc_nil ?_
      refine Awp.ret ?_
      subst hR
      exact ⟨.inl rfl, rfl, rfl⟩
     ·
      replace hR := of_false h5 hR
      refine Awp.skip ?_
      refine Awp.consP C ?_
      refine rvP C (sS (some data.nil) (eI .u8) data.D) ?_
      obtain ⟨gt, hq_gt⟩ : ∃ q_, q_ = (cmdGet data) := ⟨_, rfl⟩
      have hc_gt := (cmdGet_calls data hl1)
      first | rw [← hq_gt] at hR hc_gt | (unfold lApply at hR; rw [← hq_gt] at hR hc_gt)
      refine rvc_un (rexec_call hP C rfl rfl rfl hc_gt ?_)
      refine rvP C (.tup [.agg [.pv (.lit (.int .i64 gt.1.kind)), .pv (.lit (.int .i64 gt.1.node)), .pv (.lit (.int .i64 gt.1.site)), .pv (.lit (.int .i64 gt.1.epoch))], .pv (.lit (.int .i64 gt.2))]) ?_
      refine rvP C (.agg [.pv (.lit (.int .i64 gt.1.kind)), .pv (.lit (.int .i64 gt.1.node)), .pv (.lit (.int .i64 gt.1.site)), .pv (.lit (.int .i64 gt.1.epoch))]) ?_
      refine rvP C (.pv (.lit (.int .i64 gt.2))) ?_
      refine rvc_un (rexec_prim C (δ := { v := .ptr 7 0, new := [(7, .cells [.pv (.lit (.int .i64 0)), .pv (.lit (.int .i64 0)), .pv (.lit (.int .i64 0)), .pv (.lit (.int .i64 0))])] }) rfl rfl rfl rfl trivial rfl ?_)
      refine rvc_un (rexec_prim C (δ := { v := .undef, wr := [(7, some (.cells [.pv (.lit (.int .i64 gt.1.kind)), .pv (.lit (.int .i64 gt.1.node)), .pv (.lit (.int .i64 gt.1.site)), .pv (.lit (.int .i64 gt.1.epoch))]))] }) rfl rfl rfl rfl trivial rfl ?_)
      refine rvP C (.pv (.lit (.int .i64 gt.2))) ?_
      refine rvc_nil ?_
      refine Awp.seq ?_
      refine Awp.consP C ?_
      refine rvP C (.pv (.lit (.int .i64 gt.2))) ?_
      refine rvP C (.pv (.lit (.bool (gt.2 != 0)))) ?_
      refine rvc_nil ?_
      refine Awp.cond (b := (gt.2 != 0)) rfl (fun h6 => ?_) (fun h6 => ?_)
      ·
       replace hR := of_true h6 hR
       refine Awp.consP C ?_
       refine rvP C (.pv (.lit (.int .i64 gt.2))) ?_
       refine rvP C (.pv (.lit (.int .i64 gt.2))) ?_
       refine rvc_nil ?_
       refine Awp.ret ?_
       subst hR
       exact ⟨.inl rfl, rfl, rfl⟩
      ·
       replace hR := of_false h6 hR
       refine Awp.skip ?_
       refine Awp.consP C ?_
       refine rvP C (.ptr 0 0) ?_
       refine rvP C (.ptr 0 0) ?_
       refine rvP C (.ptr 0 1) ?_
       refine rvP C (.agg [.pv (.lit (.int .i64 l.chain.epoch)), sS (some l.chain.members.nil) eMember l.chain.members.D]) ?_
       refine rvP C (.agg [.pv (.lit (.int .i64 gt.1.kind)), .pv (.lit (.int .i64 gt.1.node)), .pv (.lit (.int .i64 gt.1.site)), .pv (.lit (.int .i64 gt.1.epoch))]) ?_
       obtain ⟨nx, hq_nx⟩ : ∃ q_, q_ = (nextL l.chain gt.1) := ⟨_, rfl⟩
       have hc_nx := (nextL_calls l.chain gt.1 hn hl2)
       first | rw [← hq_nx] at hR hc_nx | (unfold lApply at hR; rw [← hq_nx] at hR hc_nx)
       have hf0_nx := few_next l.chain gt.1
       rw [← hq_nx] at hf0_nx
       refine rvc_un (rexec_call hP C rfl rfl rfl hc_nx ?_)
       refine rvP C (.tup [.agg [.pv (.lit (.int .i64 nx.1.epoch)), sS (some nx.1.members.nil) eMember nx.1.members.D], .pv (.lit (.int .i64 nx.2))]) ?_
       refine rvP C (.agg [.pv (.lit (.int .i64 nx.1.epoch)), sS (some nx.1.members.nil) eMember nx.1.members.D]) ?_
       refine rvP C (.pv (.lit (.int .i64 nx.2))) ?_
       refine rvc_un (rexec_prim C (δ := { v := .ptr 9 0, new := [(9, .cells [.pv (.lit (.int .i64 0)), sS (some true) eMember []])] }) rfl rfl rfl rfl trivial rfl ?_)
       refine rvc_un (rexec_prim C (δ := { v := .undef, wr := [(9, some (.cells [.pv (.lit (.int .i64 nx.1.epoch)), sS (some nx.1.members.nil) eMember nx.1.members.D]))] }) rfl rfl rfl rfl trivial rfl ?_)
       refine rvP C (.pv (.lit (.int .i64 nx.2))) ?_
       refine rvc_nil ?_
       refine Awp.seq ?_
       refine Awp.consP C ?_
       refine rvP C (.pv (.lit (.int .i64 nx.2))) ?_
       refine rvP C (.pv (.lit (.bool (nx.2 != 0)))) ?_
       refine rvc_nil ?_
       refine Awp.cond (b := (nx.2 != 0)) rfl (fun h7 => ?_) (fun h7 => ?_)
       ·
        replace hR := of_true h7 hR
        refine Awp.consP C ?_
        refine rvP C (.pv (.lit (.int .i64 nx.2))) ?_
        refine rvP C (.pv (.lit (.int .i64 nx.2))) ?_
        refine rvc_nil ?_
        refine Awp.ret ?_
        subst hR
        exact ⟨.inl rfl, rfl, rfl⟩
       ·
        replace hR := of_false h7 hR
        refine Awp.skip ?_
        refine Awp.seq ?_
        refine Awp.consP C ?_
        refine rvP C (.ptr 9 0) ?_
        refine rvP C (.pv (.lit (.int .i64 nx.1.epoch))) ?_
        refine rvP C (.ptr 0 0) ?_
        refine rvP C (.ptr 0 0) ?_
        refine rvP C (.ptr 0 1) ?_
        refine rvP C (.ptr 0 1) ?_
        refine rvP C (.pv (.lit (.int .i64 l.chain.epoch))) ?_
        refine rvP C (.pv (.lit (.bool (decide (nx.1.epoch > l.chain.epoch))))) ?_
        refine rvc_nil ?_
        refine Awp.cond (b := (decide (nx.1.epoch > l.chain.epoch))) rfl (fun h8 => ?_) (fun h8 => ?_)
        ·
         replace hR := of_true h8 hR
         refine Awp.regionP C ?_
         refine rvP C (.ptr 0 0) ?_
         refine rvP C (.ptr 0 0) ?_
         refine rvP C (.ptr 0 0) ?_
         refine rvP C (.ptr 0 0) ?_
         refine rvP C (.ptr 0 0) ?_
         refine rvP C (sS (some l.past.all.nil) eChain l.past.all.D) ?_
         refine rvP C (.ptr 0 0) ?_
         refine rvP C (.ptr 0 0) ?_
         refine rvP C (.ptr 0 0) ?_
         refine rvP C (.ptr 0 0) ?_
         refine rvP C (sS (some l.past.all.nil) eChain l.past.all.D) ?_
         refine rvP C (.pv (.lit (.int .i64 (l.past.all.D.length : Int)))) ?_
         refine rvP C (.ptr 0 0) ?_
         refine rvP C (.ptr 0 0) ?_
         refine rvP C (.ptr 0 0) ?_
         refine rvP C (.ptr 0 0) ?_
         refine rvP C (sS (some l.past.all.nil) eChain l.past.all.D) ?_
         refine rvP C (.pv (.lit (.int .i64 (l.past.all.D.length : Int)))) ?_
         refine rvc_un (rexec_slice3 C (e := eChain) (D := l.past.all.D) rfl rfl rfl rfl rfl rfl ?_)
         refine rvP C (.agg [.pv (.lit (.int .i64 nx.1.epoch)), sS (some nx.1.members.nil) eMember nx.1.members.D]) ?_
         refine rvc_un (rexec_call hP C rfl rfl rfl (copied_calls nx.1 (Nat.le_trans hf0_nx.2 (by decide))) ?_)
         refine rvc_un (rexec_buildSliceF C eChain [(copied nx.1)] rfl rfl rfl rfl rfl rfl rfl (by decide) rfl ?_)
         refine rvc_un (rexec_appendT C rfl rfl rfl rfl rfl rfl rfl rfl (fun _ h => by cases h) rfl (en := eChain) (D0 := l.past.all.D) (D := [(copied nx.1)]) rfl rfl (by simp) (by have := wrapI (index - 1); have := of_decide_eq_false h2; have := of_decide_eq_false h3; have := eq_of_bne_false h4; have := ne_of_beq_false h5; have := eq_of_bne_false h6; have := eq_of_bne_false h7; have := of_decide_eq_true h8; first | omega | (simp <;> omega)) (by decide) (nn := (l.past.all.D ++ [(copied nx.1)]).length) (by simp) ?_)
         refine rvP C (.ptr 0 0) ?_
         refine rvP C (.ptr 0 0) ?_
         refine rvP C (.ptr 0 0) ?_
         refine rvc_un (rexec_prim C (δ := { v := .undef, wr := [(0, some (.cells [.sl 86 0 ((l.past.all.D ++ [(copied nx.1)]).length) 2 false, .pv (.lit (.int .i64 l.chain.epoch)), sS (some l.chain.members.nil) eMember l.chain.members.D, .pv (.lit (.int .i64 index))]))] }) rfl rfl rfl rfl trivial rfl ?_)
         refine rvc_nil ?_
         refine Awp.consP C ?_
         refine rvP C (.ptr 0 0) ?_
         refine rvP C (.agg [.pv (.lit (.int .i64 nx.1.epoch)), sS (some nx.1.members.nil) eMember nx.1.members.D]) ?_
         refine rvP C (.ptr 0 0) ?_
         refine rvP C (.ptr 0 1) ?_
         refine rvc_un (rexec_prim C (δ := { v := .undef, wr := [(0, some (.cells [.sl 86 0 ((l.past.all.D ++ [(copied nx.1)]).length) 2 false, .pv (.lit (.int .i64 nx.1.epoch)), sS (some nx.1.members.nil) eMember nx.1.members.D, .pv (.lit (.int .i64 index))]))] }) rfl rfl rfl rfl trivial rfl ?_)
         refine rvc_nil ?_
         refine Awp.consP C ?_
         refine rvP C (.pv (.lit (.int .i64 0))) ?_
         refine rvc_nil ?_
         refine Awp.freezeW 86 (encL eChain (l.past.all.D ++ [(copied nx.1)])) ?_ [(6, .pv (.lit (.int .i64 0)))] [(0, .cells [sS (some false) eChain (l.past.all.D ++ [(copied nx.1)]), .pv (.lit (.int .i64 nx.1.epoch)), sS (some nx.1.members.nil) eMember nx.1.members.D, .pv (.lit (.int .i64 index))]), (7, .cells [.pv (.lit (.int .i64 gt.1.kind)), .pv (.lit (.int .i64 gt.1.node)), .pv (.lit (.int .i64 gt.1.site)), .pv (.lit (.int .i64 gt.1.epoch))]), (9, .cells [.pv (.lit (.int .i64 nx.1.epoch)), sS (some nx.1.members.nil) eMember nx.1.members.D])] ?_ ?_ ?_
         · rfl
         · exact ⟨⟨_, rfl, .inl (.inl rfl)⟩, trivial⟩
         · exact ⟨⟨(by show (0 : Nat) ≠ 86; decide), .inr ⟨_, _, rfl, rfl, ⟨.inr ⟨_, _, _, rfl, rfl⟩, .inl rfl, .inl rfl, .inl rfl, trivial⟩⟩⟩, ⟨(by show (7 : Nat) ≠ 86; decide), .inl rfl⟩, ⟨(by show (9 : Nat) ≠ 86; decide), .inl rfl⟩, trivial⟩
         refine Awp.ret ?_
         subst hR
         exact ⟨.inl rfl, rfl, rfl⟩
        ·
         replace hR := of_false h8 hR
         refine Awp.skip ?_
         refine Awp.consP C ?_
         refine rvP C (.ptr 0 0) ?_
         refine rvP C (.agg [.pv (.lit (.int .i64 nx.1.epoch)), sS (some nx.1.members.nil) eMember nx.1.members.D]) ?_
         refine rvP C (.ptr 0 0) ?_
         refine rvP C (.ptr 0 1) ?_
         refine rvc_un (rexec_prim C (δ := { v := .undef, wr := [(0, some (.cells [sS (some l.past.all.nil) eChain l.past.all.D, .pv (.lit (.int .i64 nx.1.epoch)), sS (some nx.1.members.nil) eMember nx.1.members.D, .pv (.lit (.int .i64 index))]))] }) rfl rfl rfl rfl trivial rfl ?_)
         refine rvc_nil ?_
         refine Awp.consP C ?_
         refine rvP C (.pv (.lit (.int .i64 0))) ?_
         refine rvc_nil ?_
         refine Awp.ret ?_
         subst hR
         exact ⟨.inl rfl, rfl, rfl⟩
def doIndex (k : Do) (at_ : Int) : Int :=
  (bif (decide (k.by_ > (-3))) then (bif (decide (k.by_ < 3)) then (IntKind.i64.wrap ((IntKind.i64.wrap (at_ + 1)) + k.by_)) else (IntKind.i64.wrap (at_ + 1))) else (IntKind.i64.wrap (at_ + 1)))
theorem doIndex_calls (k : Do) (at_ : Int)  : PCalls Try.prog 18 [.agg [.pv (.lit (.int .i64 k.c.kind)), .pv (.lit (.int .i64 k.c.node)), .pv (.lit (.int .i64 k.c.site)), .pv (.lit (.int .i64 k.c.epoch)), sS (some k.b.nil) (eI .u8) k.b.D, .pv (.lit (.bool k.raw)), .pv (.lit (.int .i64 k.by_)), .pv (.lit (.int .i64 k.off))], .pv (.lit (.int .i64 at_))] (.pv (.lit (.int .i64 (doIndex k at_)))) := by
 generalize hR : doIndex k at_ = R
 refine PCalls.of_body tabOk Try.func18 rfl rfl rfl rfl rfl mixed fun E hP C hI => ?_
 refine Awp.consP C ?_
 refine rvc_un (rexec_prim C (δ := { v := .ptr 2 0, new := [(2, .cells [.pv (.lit (.int .i64 k.c.kind)), .pv (.lit (.int .i64 k.c.node)), .pv (.lit (.int .i64 k.c.site)), .pv (.lit (.int .i64 k.c.epoch)), sS (some k.b.nil) (eI .u8) k.b.D, .pv (.lit (.bool k.raw)), .pv (.lit (.int .i64 k.by_)), .pv (.lit (.int .i64 k.off))])] }) rfl rfl rfl rfl trivial rfl ?_)
 refine rvP C (.pv (.lit (.int .i64 0))) ?_
 refine rvc_nil ?_
 refine Awp.seq ?_
 refine Awp.consP C ?_
 refine rvP C (.ptr 2 6) ?_
 refine rvP C (.pv (.lit (.int .i64 k.by_))) ?_
 refine rvP C (.pv (.lit (.bool (decide (k.by_ > (-3)))))) ?_
 refine rvP C (.pv (.lit (.bool (decide (k.by_ > (-3)))))) ?_
 refine rvc_case 8 (decide (k.by_ > (-3))) rfl (fun h1 => ?_) (fun h1 => ?_)
 ·
  replace hR := of_true h1 hR
  refine rvO C (.ptr 2 6) ?_
  refine rvO C (.pv (.lit (.int .i64 k.by_))) ?_
  refine rvO C (.pv (.lit (.bool (decide (k.by_ < 3))))) ?_
  refine rvP C (.pv (.lit (.bool (decide (k.by_ < 3))))) ?_
  refine rvc_nil ?_
  refine Awp.cond (b := (decide (k.by_ < 3))) rfl (fun h2 => ?_) (fun h2 => ?_)
  ·
   replace hR := of_true h2 hR
   refine Awp.consP C ?_
   refine rvP C (.pv (.lit (.int .i64 at_))) ?_
   refine rvP C (.pv (.lit (.int .i64 (IntKind.i64.wrap (at_ + 1))))) ?_
   refine rvP C (.ptr 2 6) ?_
   refine rvP C (.pv (.lit (.int .i64 k.by_))) ?_
   refine rvP C (.pv (.lit (.int .i64 (IntKind.i64.wrap ((IntKind.i64.wrap (at_ + 1)) + k.by_))))) ?_
   refine rvP C (.pv (.lit (.int .i64 (IntKind.i64.wrap ((IntKind.i64.wrap (at_ + 1)) + k.by_))))) ?_
   refine rvc_nil ?_
   refine Awp.ret ?_
   subst hR
   exact ⟨.inl rfl, rfl⟩
  ·
   replace hR := of_false h2 hR
   refine Awp.skip ?_
   refine Awp.consP C ?_
   refine rvP C (.pv (.lit (.int .i64 at_))) ?_
   refine rvP C (.pv (.lit (.int .i64 (IntKind.i64.wrap (at_ + 1))))) ?_
   refine rvP C (.pv (.lit (.int .i64 (IntKind.i64.wrap (at_ + 1))))) ?_
   refine rvc_nil ?_
   refine Awp.ret ?_
   subst hR
   exact ⟨.inl rfl, rfl⟩
 ·
  replace hR := of_false h1 hR
  refine rvS ?_
  refine rvS ?_
  refine rvS ?_
  refine rvP C (.pv (.lit (.bool false))) ?_
  refine rvc_nil ?_
  refine Awp.condF (b := false) rfl rfl ?_
  refine Awp.skip ?_
  refine Awp.consP C ?_
  refine rvP C (.pv (.lit (.int .i64 at_))) ?_
  refine rvP C (.pv (.lit (.int .i64 (IntKind.i64.wrap (at_ + 1))))) ?_
  refine rvP C (.pv (.lit (.int .i64 (IntKind.i64.wrap (at_ + 1))))) ?_
  refine rvc_nil ?_
  refine Awp.ret ?_
  subst hR
  exact ⟨.inl rfl, rfl⟩
def doData (k : Do) (epoch : Int) : (Sl Int) :=
  (bif k.raw then k.b else (bif (decide (k.off > (-4))) then (bif (decide (k.off < 4)) then (rCmdPut (Command.mk k.c.kind k.c.node k.c.site (IntKind.i64.wrap (epoch + k.off)))).1 else (rCmdPut k.c).1) else (rCmdPut k.c).1))
theorem doData_calls (k : Do) (epoch : Int)  : PCalls Try.prog 15 [.agg [.pv (.lit (.int .i64 k.c.kind)), .pv (.lit (.int .i64 k.c.node)), .pv (.lit (.int .i64 k.c.site)), .pv (.lit (.int .i64 k.c.epoch)), sS (some k.b.nil) (eI .u8) k.b.D, .pv (.lit (.bool k.raw)), .pv (.lit (.int .i64 k.by_)), .pv (.lit (.int .i64 k.off))], .pv (.lit (.int .i64 epoch))] (sS (some (doData k epoch).nil) (eI .u8) ((doData k epoch).D)) := by
 generalize hR : doData k epoch = R
 refine PCalls.of_body tabOk Try.func15 rfl rfl rfl rfl rfl mixed fun E hP C hI => ?_
 refine Awp.consP C ?_
 refine rvc_un (rexec_prim C (δ := { v := .ptr 2 0, new := [(2, .cells [.pv (.lit (.int .i64 k.c.kind)), .pv (.lit (.int .i64 k.c.node)), .pv (.lit (.int .i64 k.c.site)), .pv (.lit (.int .i64 k.c.epoch)), sS (some k.b.nil) (eI .u8) k.b.D, .pv (.lit (.bool k.raw)), .pv (.lit (.int .i64 k.by_)), .pv (.lit (.int .i64 k.off))])] }) rfl rfl rfl rfl trivial rfl ?_)
 refine rvP C (sS (some true) (eI .u8) []) ?_
 refine rvc_nil ?_
 refine Awp.seq ?_
 refine Awp.consP C ?_
 refine rvP C (.ptr 2 5) ?_
 refine rvP C (.pv (.lit (.bool k.raw))) ?_
 refine rvc_nil ?_
 refine Awp.cond (b := k.raw) rfl (fun h1 => ?_) (fun h1 => ?_)
 ·
  replace hR := of_true h1 hR
  refine Awp.consP C ?_
  refine rvP C (.ptr 2 4) ?_
  refine rvP C (sS (some k.b.nil) (eI .u8) k.b.D) ?_
  refine rvP C (sS (some k.b.nil) (eI .u8) k.b.D) ?_
  refine rvc_nil ?_
  refine Awp.ret ?_
  subst hR
  exact ⟨.inl rfl, rfl⟩
 ·
  replace hR := of_false h1 hR
  refine Awp.skip ?_
  refine Awp.consP C ?_
  refine rvP C (.ptr 2 0) ?_
  refine rvP C (.agg [.pv (.lit (.int .i64 k.c.kind)), .pv (.lit (.int .i64 k.c.node)), .pv (.lit (.int .i64 k.c.site)), .pv (.lit (.int .i64 k.c.epoch))]) ?_
  refine rvc_un (rexec_prim C (δ := { v := .ptr 5 0, new := [(5, .cells [.pv (.lit (.int .i64 0)), .pv (.lit (.int .i64 0)), .pv (.lit (.int .i64 0)), .pv (.lit (.int .i64 0))])] }) rfl rfl rfl rfl trivial rfl ?_)
  refine rvc_un (rexec_prim C (δ := { v := .undef, wr := [(5, some (.cells [.pv (.lit (.int .i64 k.c.kind)), .pv (.lit (.int .i64 k.c.node)), .pv (.lit (.int .i64 k.c.site)), .pv (.lit (.int .i64 k.c.epoch))]))] }) rfl rfl rfl rfl trivial rfl ?_)
  refine rvc_nil ?_
  refine Awp.seq ?_
  refine Awp.consP C ?_
  refine rvP C (.ptr 2 7) ?_
  refine rvP C (.pv (.lit (.int .i64 k.off))) ?_
  refine rvP C (.pv (.lit (.bool (decide (k.off > (-4)))))) ?_
  refine rvP C (.pv (.lit (.bool (decide (k.off > (-4)))))) ?_
  refine rvc_case 17 (decide (k.off > (-4))) rfl (fun h2 => ?_) (fun h2 => ?_)
  ·
   replace hR := of_true h2 hR
   refine rvO C (.ptr 2 7) ?_
   refine rvO C (.pv (.lit (.int .i64 k.off))) ?_
   refine rvO C (.pv (.lit (.bool (decide (k.off < 4))))) ?_
   refine rvP C (.pv (.lit (.bool (decide (k.off < 4))))) ?_
   refine rvc_nil ?_
   refine Awp.cond (b := (decide (k.off < 4))) rfl (fun h3 => ?_) (fun h3 => ?_)
   ·
    replace hR := of_true h3 hR
    refine Awp.regionP C ?_
    refine rvP C (.pv (.lit (.int .i64 epoch))) ?_
    refine rvP C (.ptr 2 7) ?_
    refine rvP C (.pv (.lit (.int .i64 k.off))) ?_
    refine rvP C (.pv (.lit (.int .i64 (IntKind.i64.wrap (epoch + k.off))))) ?_
    refine rvP C (.ptr 5 3) ?_
    refine rvc_un (rexec_prim C (δ := { v := .undef, wr := [(5, some (.cells [.pv (.lit (.int .i64 k.c.kind)), .pv (.lit (.int .i64 k.c.node)), .pv (.lit (.int .i64 k.c.site)), .pv (.lit (.int .i64 (IntKind.i64.wrap (epoch + k.off))))]))] }) rfl rfl rfl rfl trivial rfl ?_)
    refine rvc_nil ?_
    refine Awp.consP C ?_
    refine rvP C (.agg [.pv (.lit (.int .i64 k.c.kind)), .pv (.lit (.int .i64 k.c.node)), .pv (.lit (.int .i64 k.c.site)), .pv (.lit (.int .i64 (IntKind.i64.wrap (epoch + k.off))))]) ?_
    refine rvc_un (rexec_call hP C rfl rfl rfl (rCmdPut_calls (Command.mk k.c.kind k.c.node k.c.site (IntKind.i64.wrap (epoch + k.off)))) ?_)
    refine rvP C (.tup [sS (some (rCmdPut (Command.mk k.c.kind k.c.node k.c.site (IntKind.i64.wrap (epoch + k.off)))).1.nil) (eI .u8) ((rCmdPut (Command.mk k.c.kind k.c.node k.c.site (IntKind.i64.wrap (epoch + k.off)))).1.D), .pv (.lit (.int .i64 ((rCmdPut (Command.mk k.c.kind k.c.node k.c.site (IntKind.i64.wrap (epoch + k.off)))).2)))]) ?_
    refine rvP C (sS (some (rCmdPut (Command.mk k.c.kind k.c.node k.c.site (IntKind.i64.wrap (epoch + k.off)))).1.nil) (eI .u8) ((rCmdPut (Command.mk k.c.kind k.c.node k.c.site (IntKind.i64.wrap (epoch + k.off)))).1.D)) ?_
    refine rvP C (.pv (.lit (.int .i64 ((rCmdPut (Command.mk k.c.kind k.c.node k.c.site (IntKind.i64.wrap (epoch + k.off)))).2)))) ?_
    refine rvP C (sS (some (rCmdPut (Command.mk k.c.kind k.c.node k.c.site (IntKind.i64.wrap (epoch + k.off)))).1.nil) (eI .u8) ((rCmdPut (Command.mk k.c.kind k.c.node k.c.site (IntKind.i64.wrap (epoch + k.off)))).1.D)) ?_
    refine rvP C (.pv (.lit (.int .i64 ((rCmdPut (Command.mk k.c.kind k.c.node k.c.site (IntKind.i64.wrap (epoch + k.off)))).2)))) ?_
    refine rvc_nil ?_
    refine Awp.consP C ?_
    refine rvP C (sS (some (rCmdPut (Command.mk k.c.kind k.c.node k.c.site (IntKind.i64.wrap (epoch + k.off)))).1.nil) (eI .u8) ((rCmdPut (Command.mk k.c.kind k.c.node k.c.site (IntKind.i64.wrap (epoch + k.off)))).1.D)) ?_
    refine rvP C (sS (some (rCmdPut (Command.mk k.c.kind k.c.node k.c.site (IntKind.i64.wrap (epoch + k.off)))).1.nil) (eI .u8) ((rCmdPut (Command.mk k.c.kind k.c.node k.c.site (IntKind.i64.wrap (epoch + k.off)))).1.D)) ?_
    refine rvc_nil ?_
    refine Awp.ret ?_
    subst hR
    exact ⟨.inl rfl, rfl⟩
   ·
    replace hR := of_false h3 hR
    refine Awp.skip ?_
    refine Awp.consP C ?_
    refine rvP C (.agg [.pv (.lit (.int .i64 k.c.kind)), .pv (.lit (.int .i64 k.c.node)), .pv (.lit (.int .i64 k.c.site)), .pv (.lit (.int .i64 k.c.epoch))]) ?_
    refine rvc_un (rexec_call hP C rfl rfl rfl (rCmdPut_calls k.c) ?_)
    refine rvP C (.tup [sS (some (rCmdPut k.c).1.nil) (eI .u8) ((rCmdPut k.c).1.D), .pv (.lit (.int .i64 ((rCmdPut k.c).2)))]) ?_
    refine rvP C (sS (some (rCmdPut k.c).1.nil) (eI .u8) ((rCmdPut k.c).1.D)) ?_
    refine rvP C (.pv (.lit (.int .i64 ((rCmdPut k.c).2)))) ?_
    refine rvP C (sS (some (rCmdPut k.c).1.nil) (eI .u8) ((rCmdPut k.c).1.D)) ?_
    refine rvP C (.pv (.lit (.int .i64 ((rCmdPut k.c).2)))) ?_
    refine rvc_nil ?_
    refine Awp.consP C ?_
    refine rvP C (sS (some (rCmdPut k.c).1.nil) (eI .u8) ((rCmdPut k.c).1.D)) ?_
    refine rvP C (sS (some (rCmdPut k.c).1.nil) (eI .u8) ((rCmdPut k.c).1.D)) ?_
    refine rvc_nil ?_
    refine Awp.ret ?_
    subst hR
    exact ⟨.inl rfl, rfl⟩
  ·
   replace hR := of_false h2 hR
   refine rvS ?_
   refine rvS ?_
   refine rvS ?_
   refine rvP C (.pv (.lit (.bool false))) ?_
   refine rvc_nil ?_
   refine Awp.condF (b := false) rfl rfl ?_
   refine Awp.skip ?_
   refine Awp.consP C ?_
   refine rvP C (.agg [.pv (.lit (.int .i64 k.c.kind)), .pv (.lit (.int .i64 k.c.node)), .pv (.lit (.int .i64 k.c.site)), .pv (.lit (.int .i64 k.c.epoch))]) ?_
   refine rvc_un (rexec_call hP C rfl rfl rfl (rCmdPut_calls k.c) ?_)
   refine rvP C (.tup [sS (some (rCmdPut k.c).1.nil) (eI .u8) ((rCmdPut k.c).1.D), .pv (.lit (.int .i64 ((rCmdPut k.c).2)))]) ?_
   refine rvP C (sS (some (rCmdPut k.c).1.nil) (eI .u8) ((rCmdPut k.c).1.D)) ?_
   refine rvP C (.pv (.lit (.int .i64 ((rCmdPut k.c).2)))) ?_
   refine rvP C (sS (some (rCmdPut k.c).1.nil) (eI .u8) ((rCmdPut k.c).1.D)) ?_
   refine rvP C (.pv (.lit (.int .i64 ((rCmdPut k.c).2)))) ?_
   refine rvc_nil ?_
   refine Awp.consP C ?_
   refine rvP C (sS (some (rCmdPut k.c).1.nil) (eI .u8) ((rCmdPut k.c).1.D)) ?_
   refine rvP C (sS (some (rCmdPut k.c).1.nil) (eI .u8) ((rCmdPut k.c).1.D)) ?_
   refine rvc_nil ?_
   refine Awp.ret ?_
   subst hR
   exact ⟨.inl rfl, rfl⟩
def cloneDos (s : (Sl Do)) : (Sl Do) :=
  (bif s.nil then (Sl.mk true []) else (Sl.mk false s.D))
theorem cloneDos_calls (s : (Sl Do)) (hl1 : s.D.length ≤ 1000000) : PCalls Try.prog 28 [sS (some s.nil) eDo s.D] (sS (some (cloneDos s).nil) eDo ((cloneDos s).D)) := by
 generalize hR : cloneDos s = R
 refine PCalls.of_body tabOk Try.func28 rfl rfl rfl rfl rfl mixed fun E hP C hI => ?_
 refine Awp.consP C ?_
 refine rvP C (sS (some true) eDo []) ?_
 refine rvc_nil ?_
 refine Awp.seq ?_
 refine Awp.consP C ?_
 refine rvP C (sS (some s.nil) eDo s.D) ?_
 refine rvc_un (rexec_eqNil C (f := s.nil) rfl rfl rfl rfl ?_)
 refine rvc_nil ?_
 refine Awp.cond (b := s.nil) rfl (fun h1 => ?_) (fun h1 => ?_)
 ·
  replace hR := of_true h1 hR
  refine Awp.consP C ?_
  refine rvP C (sS (some true) eDo []) ?_
  refine rvc_nil ?_
  refine Awp.ret ?_
  subst hR
  exact ⟨.inl rfl, rfl⟩
 ·
  replace hR := of_false h1 hR
  refine Awp.skip ?_
  refine Awp.consP C ?_
  refine rvc_un (rexec_prim C (δ := { v := .sl 5 0 0 8 true, new := [(5, .cells (encC eDo []))] }) rfl rfl rfl rfl trivial rfl ?_)
  refine rvP C (sS (some s.nil) eDo s.D) ?_
  refine rvc_un (rexec_append C rfl rfl rfl rfl rfl rfl rfl rfl (fun _ h => by cases h) rfl (en := eDo) (D0 := []) (D := s.D) rfl rfl rfl rfl (by first | omega | (simp <;> omega)) (by decide) (nn := s.D.length) (by simp) ?_)
  refine rvP C (.sl 7 0 s.D.length 8 false) ?_
  refine rvc_nil ?_
  refine Awp.freezeW 7 (encL eDo s.D) ?_ [(2, sS (some false) eDo s.D)] [] ?_ ?_ ?_
  · rfl
  · exact ⟨⟨_, rfl, .inl (.inr ⟨_, _, _, rfl, rfl⟩)⟩, trivial⟩
  · exact trivial
  refine Awp.ret ?_
  subst hR
  exact ⟨.inl rfl, rfl⟩
def short_l1 (x : (Sl Do)) (kk : Int → Int → Int → Bool) : Nat → Int → Int → Int → Bool
  | 0, _, _, _ => default
  | nn + 1, n1, acts1, i1 => (bif (decide (i1 < (x.D.length : Int))) then (bif (decide (acts1 ≤ 150)) then (bif (decide (n1 ≤ 4096)) then short_l1 x kk nn (IntKind.i64.wrap (n1 + (bif (decide ((4097 : Int) < ((x.D[i1.toNat]!.b.D).length : Int))) then (4097 : Int) else ((x.D[i1.toNat]!.b.D).length : Int)))) (IntKind.i64.wrap (acts1 + 1)) (IntKind.i64.wrap (i1 + 1)) else kk n1 acts1 i1) else kk n1 acts1 i1) else kk n1 acts1 i1)
def short_l0 : List (Sl Do) → Nat → Int → Int → Bool
  | [], _, n, acts => (bif (decide (acts ≤ 150)) then (decide (n ≤ 4096)) else false)
  | x :: xs, i, n, acts => short_l1 x (fun n1 acts1 _ => short_l0 xs (i + 1) n1 acts1) ((x.D.length - (0 : Int).toNat) + 1) n acts 0
def short (lists : (Sl (Sl Do))) : Bool :=
  short_l0 lists.D 0 0 0
theorem short_calls (lists : (Sl (Sl Do))) (hl1 : lists.D.length ≤ 9223372036854775807) : PCalls Try.prog 10 [sS (some lists.nil) (eSl eDo) lists.D] (.pv (.lit (.bool (short lists)))) := by
 generalize hR : short lists = R
 refine PCalls.of_body tabOk Try.func10 rfl rfl rfl rfl rfl mixed fun E hP C hI => ?_
 refine Awp.consP C ?_
 refine rvP C (.pv (.lit (.bool false))) ?_
 refine rvc_nil ?_
 refine Awp.consP C ?_
 refine rvP C (.pv (.lit (.int .i64 0))) ?_
 refine rvP C (.pv (.lit (.int .i64 0))) ?_
 refine rvc_nil ?_
 refine Awp.seq ?_
 refine Awp.consP C ?_
 refine rvP C (sS (some lists.nil) (eSl eDo) lists.D) ?_
 refine rvP C (.pv (.lit (.int .i64 (lists.D.length : Int)))) ?_
 refine rvP C (.pv (.lit (.int .i64 0))) ?_
 refine rvc_nil ?_
 refine Awp.block ?_
 refine Awp.forR (σ := Int × Int) (lists.D.length) (fun i v => [(3, .pv (.lit (.int .i64 v.1))), (4, .pv (.lit (.int .i64 v.2))), (8, sS (some lists.nil) (eSl eDo) lists.D), (9, .pv (.lit (.int .i64 (lists.D.length : Int)))), (10, .pv (.lit (.int .i64 (i : Int))))]) (fun i v => []) [] (fun i v => (short_l0 (lists.D.drop i) i v.1 v.2 = R) ∧ ((0 ≤ v.2 ∧ v.2 ≤ 151) ∧ (0 ≤ v.1 ∧ v.1 ≤ 8193))) (0, 0) ?_ ?_ (fun i v h1 hR => ?_)
 · exact ⟨hR, (by dsimp only; omega)⟩
 · exact ⟨fun b => b, WeakerR.ofL (Ks := []) hI ⟨⟨rfl, rfl⟩, ⟨rfl, rfl⟩, ⟨rfl, rfl⟩, ⟨rfl, rfl⟩, ⟨rfl, rfl⟩, trivial⟩ (okH_nil) rfl⟩
 obtain ⟨n, acts⟩ := v
 obtain ⟨hR, hV⟩ := hR
 replace hV : (0 ≤ acts ∧ acts ≤ 151) ∧ (0 ≤ n ∧ n ≤ 8193) := hV
 refine Awp.consP C ?_
 refine rvP C (.pv (.lit (.bool (decide ((i : Int) < (lists.D.length : Int)))))) ?_
 refine rvc_nil ?_
 refine Awp.seq ?_
 refine Awp.cond (b := (decide ((i : Int) < (lists.D.length : Int)))) rfl (fun h2 => ?_) (fun h2 => ?_)
 ·
  have h3 : i < lists.D.length := by have := of_decide_eq_true h2; omega
  obtain ⟨x, h4⟩ := getX h3
  rw [drop_at h4] at hR
  refine Awp.skip ?_
  refine Awp.seq ?_
  refine Awp.block ?_
  refine Awp.consP C ?_
  refine rvc_un (rexec_idxS C rfl rfl rfl rfl rfl rfl x (Int.natCast_nonneg _) h4 ?_)
  refine rvP C (sS (some x.nil) eDo x.D) ?_
  refine rvP C (sS (some x.nil) eDo x.D) ?_
  refine rvc_nil ?_
  refine Awp.consP C ?_
  refine rvP C (.pv (.lit (.int .i64 0))) ?_
  refine rvc_nil ?_
  refine Awp.block ?_
  refine Awp.forM (σ := Int × Int × Int) (fun v => [(3, .pv (.lit (.int .i64 v.1))), (4, .pv (.lit (.int .i64 v.2.1))), (6, sS (some x.nil) eDo x.D), (7, .pv (.lit (.int .i64 v.2.2))), (8, sS (some lists.nil) (eSl eDo) lists.D), (9, .pv (.lit (.int .i64 (lists.D.length : Int)))), (10, .pv (.lit (.int .i64 (i : Int))))]) (fun v => []) [] (fun n v => n = (x.D.length - (v.2.2 : Int).toNat) ∧ short_l1 x (fun n1 acts1 _ => short_l0 (lists.D.drop (i + 1)) (i + 1) n1 acts1) ((x.D.length - (v.2.2 : Int).toNat) + 1) v.1 v.2.1 v.2.2 = R ∧ (((0 ≤ v.2.1 ∧ v.2.1 ≤ 151) ∧ (0 ≤ v.1 ∧ v.1 ≤ 8193)) ∧ 0 ≤ v.2.2 ∧ v.2.2 ≤ (x.D.length : Int) ∧ v.2.2 ≤ v.2.1)) ((x.D.length - (0 : Int).toNat)) (n, acts, 0) ?_ ?_ (fun _ v h5 => ?_)
  · exact ⟨rfl, hR, (by dsimp only; omega)⟩
  · exact ⟨fun b => b, WeakerR.ofL (Ks := []) hI ⟨⟨rfl, rfl⟩, ⟨rfl, rfl⟩, ⟨rfl, rfl⟩, ⟨rfl, rfl⟩, ⟨rfl, rfl⟩, ⟨rfl, rfl⟩, ⟨rfl, rfl⟩, trivial⟩ (okH_nil) rfl⟩
  obtain ⟨n1, acts1, i1⟩ := v
  obtain ⟨rfl, hR, hW⟩ := h5
  replace hW : ((0 ≤ acts1 ∧ acts1 ≤ 151) ∧ (0 ≤ n1 ∧ n1 ≤ 8193)) ∧ 0 ≤ i1 ∧ i1 ≤ (x.D.length : Int) ∧ i1 ≤ acts1 := hW
  refine Awp.seq ?_
  refine Awp.consP C ?_
  refine rvP C (.pv (.lit (.int .i64 i1))) ?_
  refine rvP C (sS (some x.nil) eDo x.D) ?_
  refine rvP C (.pv (.lit (.int .i64 (x.D.length : Int)))) ?_
  refine rvP C (.pv (.lit (.bool (decide (i1 < (x.D.length : Int)))))) ?_
  refine rvP C (.pv (.lit (.bool (decide (i1 < (x.D.length : Int)))))) ?_
  refine rvc_case 18 (decide (i1 < (x.D.length : Int))) rfl (fun h7 => ?_) (fun h7 => ?_)
  ·
   replace hR := of_true h7 hR
   refine rvO C (.pv (.lit (.int .i64 acts1))) ?_
   refine rvO C (.pv (.lit (.bool (decide (acts1 ≤ 150))))) ?_
   refine rvP C (.pv (.lit (.bool (decide (acts1 ≤ 150))))) ?_
   refine rvP C (.pv (.lit (.bool (decide (acts1 ≤ 150))))) ?_
   refine rvc_case 22 (decide (acts1 ≤ 150)) rfl (fun h8 => ?_) (fun h8 => ?_)
   ·
    replace hR := of_true h8 hR
    refine rvO C (.pv (.lit (.int .i64 n1))) ?_
    refine rvO C (.pv (.lit (.bool (decide (n1 ≤ 4096))))) ?_
    refine rvP C (.pv (.lit (.bool (decide (n1 ≤ 4096))))) ?_
    refine rvc_nil ?_
    refine Awp.cond (b := (decide (n1 ≤ 4096))) rfl (fun h9 => ?_) (fun h9 => ?_)
    ·
     replace hR := of_true h9 hR
     refine Awp.skip ?_
     refine Awp.seq ?_
     refine Awp.block ?_
     refine Awp.consP C ?_
     refine rvP C (.pv (.lit (.int .i64 acts1))) ?_
     refine rvP C (.pv (.lit (.int .i64 (IntKind.i64.wrap (acts1 + 1))))) ?_
     refine rvP C (.pv (.lit (.int .i64 (IntKind.i64.wrap (acts1 + 1))))) ?_
     refine rvc_nil ?_
     refine Awp.regionP C ?_
     refine rvP C (.pv (.lit (.int .i64 n1))) ?_
     refine rvP C (sS (some x.nil) eDo x.D) ?_
     refine rvP C (.pv (.lit (.int .i64 i1))) ?_
     have h10 : x.D[i1.toNat]? = some x.D[i1.toNat]! := getE (by have := of_decide_eq_true h2; have := of_decide_eq_true h7; have := of_decide_eq_true h8; have := of_decide_eq_true h9; omega)
     refine rvc_un (rexec_idxS C rfl rfl rfl rfl rfl rfl (x.D[i1.toNat]!) (by have := of_decide_eq_true h2; have := of_decide_eq_true h7; have := of_decide_eq_true h8; have := of_decide_eq_true h9; omega) h10 ?_)
     refine rvP C (.rp [.sl (some x.D[i1.toNat]!.b.nil) (x.D[i1.toNat]!.b.D).length (encL (eI .u8) (x.D[i1.toNat]!.b.D))]) ?_
     refine rvP C (sS (some x.D[i1.toNat]!.b.nil) (eI .u8) (x.D[i1.toNat]!.b.D)) ?_
     refine rvP C (.pv (.lit (.int .i64 ((x.D[i1.toNat]!.b.D).length : Int)))) ?_
     refine rvc_un (rexec_min C rfl rfl rfl ?_)
     refine rvP C (.pv (.lit (.int .i64 (IntKind.i64.wrap (n1 + (bif (decide ((4097 : Int) < ((x.D[i1.toNat]!.b.D).length : Int))) then (4097 : Int) else ((x.D[i1.toNat]!.b.D).length : Int))))))) ?_
     refine rvP C (.pv (.lit (.int .i64 (IntKind.i64.wrap (n1 + (bif (decide ((4097 : Int) < ((x.D[i1.toNat]!.b.D).length : Int))) then (4097 : Int) else ((x.D[i1.toNat]!.b.D).length : Int))))))) ?_
     refine rvc_nil ?_
     refine Awp.regionP C ?_
     refine rvP C (.pv (.lit (.int .i64 i1))) ?_
     refine rvP C (.pv (.lit (.int .i64 (IntKind.i64.wrap (i1 + 1))))) ?_
     refine rvP C (.pv (.lit (.int .i64 (IntKind.i64.wrap (i1 + 1))))) ?_
     refine rvc_nil ?_
     refine ⟨_, ((IntKind.i64.wrap (n1 + (bif (decide ((4097 : Int) < ((x.D[i1.toNat]!.b.D).length : Int))) then (4097 : Int) else ((x.D[i1.toNat]!.b.D).length : Int)))), (IntKind.i64.wrap (acts1 + 1)), (IntKind.i64.wrap (i1 + 1))), ?_, ⟨rfl, (by rw [show (x.D.length - ((IntKind.i64.wrap (i1 + 1)) : Int).toNat) + 1 = (x.D.length - (i1 : Int).toNat) by have := wrapI (n1 + (bif (decide ((4097 : Int) < ((x.D[i1.toNat]!.b.D).length : Int))) then (4097 : Int) else ((x.D[i1.toNat]!.b.D).length : Int))); have := wrapI (acts1 + 1); have := wrapI (i1 + 1); have := of_decide_eq_true h2; have := of_decide_eq_true h7; have := of_decide_eq_true h8; have := of_decide_eq_true h9; first | omega | (simp only [List.length_drop]; omega)]; exact hR), (by have hm_ := min97 ((x.D[i1.toNat]!.b.D).length : Int); have := wrapI (n1 + (bif (decide ((4097 : Int) < ((x.D[i1.toNat]!.b.D).length : Int))) then (4097 : Int) else ((x.D[i1.toNat]!.b.D).length : Int))); have := wrapI (acts1 + 1); have := wrapI (i1 + 1); have := of_decide_eq_true ‹decide (i1 < (x.D.length : Int)) = true›; have := of_decide_eq_true ‹decide (acts1 ≤ 150) = true›; have := of_decide_eq_true ‹decide (n1 ≤ 4096) = true›; have := hm_ (Int.natCast_nonneg _); dsimp only; omega)⟩, ?_⟩
     · show (x.D.length - ((IntKind.i64.wrap (i1 + 1)) : Int).toNat) < (x.D.length - (i1 : Int).toNat); have := wrapI (n1 + (bif (decide ((4097 : Int) < ((x.D[i1.toNat]!.b.D).length : Int))) then (4097 : Int) else ((x.D[i1.toNat]!.b.D).length : Int))); have := wrapI (acts1 + 1); have := wrapI (i1 + 1); have := of_decide_eq_true h2; have := of_decide_eq_true h7; have := of_decide_eq_true h8; have := of_decide_eq_true h9; first | omega | (simp only [List.length_drop]; omega)
     · exact ⟨fun b => b, WeakerR.ofL (Ks := []) hI ⟨⟨rfl, rfl⟩, ⟨rfl, rfl⟩, ⟨rfl, rfl⟩, ⟨rfl, rfl⟩, ⟨rfl, rfl⟩, ⟨rfl, rfl⟩, ⟨rfl, rfl⟩, trivial⟩ (okH_nil) rfl⟩
    ·
     replace hR := of_false h9 hR
     refine Awp.exit ?_
     refine Awp.regionP C ?_
     refine rvP C (.pv (.lit (.int .i64 (IntKind.i64.wrap ((i : Int) + 1))))) ?_
     refine rvP C (.pv (.lit (.int .i64 (IntKind.i64.wrap ((i : Int) + 1))))) ?_
     refine rvc_nil ?_
     refine ⟨h3, (n1, acts1), ?_, ?_⟩
     · exact ⟨hR, hW.1⟩
     · exact ⟨fun b => b, WeakerR.ofL (Ks := []) hI ⟨⟨rfl, rfl⟩, ⟨rfl, rfl⟩, ⟨rfl, rfl⟩, ⟨rfl, rfl⟩, ⟨lit_cast (wrap_i64 (by omega) (by omega)), rfl⟩, trivial⟩ (okH_nil) rfl⟩
   ·
    replace hR := of_false h8 hR
    refine rvS ?_
    refine rvS ?_
    refine rvP C (.pv (.lit (.bool false))) ?_
    refine rvc_nil ?_
    refine Awp.condF (b := false) rfl rfl ?_
    refine Awp.exit ?_
    refine Awp.regionP C ?_
    refine rvP C (.pv (.lit (.int .i64 (IntKind.i64.wrap ((i : Int) + 1))))) ?_
    refine rvP C (.pv (.lit (.int .i64 (IntKind.i64.wrap ((i : Int) + 1))))) ?_
    refine rvc_nil ?_
    refine ⟨h3, (n1, acts1), ?_, ?_⟩
    · exact ⟨hR, hW.1⟩
    · exact ⟨fun b => b, WeakerR.ofL (Ks := []) hI ⟨⟨rfl, rfl⟩, ⟨rfl, rfl⟩, ⟨rfl, rfl⟩, ⟨rfl, rfl⟩, ⟨lit_cast (wrap_i64 (by omega) (by omega)), rfl⟩, trivial⟩ (okH_nil) rfl⟩
  ·
   replace hR := of_false h7 hR
   refine rvS ?_
   refine rvS ?_
   refine rvP C (.pv (.lit (.bool false))) ?_
   refine rvP C (.pv (.lit (.bool false))) ?_
   refine rvS ?_
   refine rvS ?_
   refine rvP C (.pv (.lit (.bool false))) ?_
   refine rvc_nil ?_
   refine Awp.condF (b := false) rfl rfl ?_
   refine Awp.exit ?_
   refine Awp.regionP C ?_
   refine rvP C (.pv (.lit (.int .i64 (IntKind.i64.wrap ((i : Int) + 1))))) ?_
   refine rvP C (.pv (.lit (.int .i64 (IntKind.i64.wrap ((i : Int) + 1))))) ?_
   refine rvc_nil ?_
   refine ⟨h3, (n1, acts1), ?_, ?_⟩
   · exact ⟨hR, hW.1⟩
   · exact ⟨fun b => b, WeakerR.ofL (Ks := []) hI ⟨⟨rfl, rfl⟩, ⟨rfl, rfl⟩, ⟨rfl, rfl⟩, ⟨rfl, rfl⟩, ⟨lit_cast (wrap_i64 (by omega) (by omega)), rfl⟩, trivial⟩ (okH_nil) rfl⟩
 ·
  have h3 : ¬ i < lists.D.length := by have := of_decide_eq_false h2; omega
  rw [drop_end h3] at hR
  refine Awp.exit ?_
  refine Awp.consP C ?_
  refine rvP C (.pv (.lit (.int .i64 acts))) ?_
  refine rvP C (.pv (.lit (.bool (decide (acts ≤ 150))))) ?_
  refine rvP C (.pv (.lit (.bool (decide (acts ≤ 150))))) ?_
  refine rvc_case 42 (decide (acts ≤ 150)) rfl (fun h11 => ?_) (fun h11 => ?_)
  ·
   replace hR := of_true h11 hR
   refine rvO C (.pv (.lit (.int .i64 n))) ?_
   refine rvO C (.pv (.lit (.bool (decide (n ≤ 4096))))) ?_
   refine rvP C (.pv (.lit (.bool (decide (n ≤ 4096))))) ?_
   refine rvP C (.pv (.lit (.bool (decide (n ≤ 4096))))) ?_
   refine rvc_nil ?_
   refine Awp.ret ?_
   subst hR
   exact ⟨.inl rfl, rfl⟩
  ·
   replace hR := of_false h11 hR
   refine rvS ?_
   refine rvS ?_
   refine rvP C (.pv (.lit (.bool false))) ?_
   refine rvP C (.pv (.lit (.bool false))) ?_
   refine rvc_nil ?_
   refine Awp.ret ?_
   subst hR
   exact ⟨.inl rfl, rfl⟩
end Go.Proofs.Ytpgenmflgdkfiaa
/- Ledgers made. No conditions. -/
namespace Go.Proofs.Ytpgenmflgdkfiaa
open Go.Am
def newL (l : (Sl Member)) : Ledger × Int :=
  ((Ledger.mk (Past.mk (Sl.mk false [(firstC l).1])) ((firstC l).1) 0), 0)
theorem newL_calls (l : (Sl Member)) (h0 : (((firstC l).2) != 0) = false) (hl1 : l.D.length ≤ 1000000) : OCalls Try.prog 12 [sS (some l.nil) eMember l.D] (.tup [.ptr 0 0, .pv (.lit (.int .i64 ((newL l).2)))]) (.cells [sS (some (newL l).1.past.all.nil) eChain ((newL l).1.past.all.D), .pv (.lit (.int .i64 ((newL l).1.chain.epoch))), sS (some (newL l).1.chain.members.nil) eMember ((newL l).1.chain.members.D), .pv (.lit (.int .i64 ((newL l).1.at_)))]) := by
 generalize hR : newL l = R
 refine OCalls.of_body tabOk Try.func12 rfl rfl rfl rfl rfl rfl mixed fun E hP C hI => ?_
 refine Awp.consP C ?_
 refine rvP C (.pv (.lit (.pointer none))) ?_
 refine rvP C (.pv (.lit (.int .i64 0))) ?_
 refine rvc_nil ?_
 refine Awp.consP C ?_
 refine rvP C (sS (some l.nil) eMember l.D) ?_
 refine rvc_un (rexec_call hP C rfl rfl rfl (firstC_calls l hl1) ?_)
 refine rvP C (.tup [.agg [.pv (.lit (.int .i64 ((firstC l).1.epoch))), sS (some (firstC l).1.members.nil) eMember ((firstC l).1.members.D)], .pv (.lit (.int .i64 ((firstC l).2)))]) ?_
 refine rvP C (.agg [.pv (.lit (.int .i64 ((firstC l).1.epoch))), sS (some (firstC l).1.members.nil) eMember ((firstC l).1.members.D)]) ?_
 refine rvP C (.pv (.lit (.int .i64 ((firstC l).2)))) ?_
 refine rvc_un (rexec_prim C (δ := { v := .ptr 4 0, new := [(4, .cells [.pv (.lit (.int .i64 0)), sS (some true) eMember []])] }) rfl rfl rfl rfl trivial rfl ?_)
 refine rvc_un (rexec_prim C (δ := { v := .undef, wr := [(4, some (.cells [.pv (.lit (.int .i64 ((firstC l).1.epoch))), sS (some (firstC l).1.members.nil) eMember ((firstC l).1.members.D)]))] }) rfl rfl rfl rfl trivial rfl ?_)
 refine rvP C (.pv (.lit (.int .i64 ((firstC l).2)))) ?_
 refine rvc_nil ?_
 refine Awp.seq ?_
 refine Awp.consP C ?_
 refine rvP C (.pv (.lit (.int .i64 ((firstC l).2)))) ?_
 refine rvP C (.pv (.lit (.bool (((firstC l).2) != 0)))) ?_
 refine rvc_nil ?_
 refine Awp.condF (b := (((firstC l).2) != 0)) rfl h0 ?_
 refine Awp.skip ?_
 refine Awp.consP C ?_
 refine rvP C (.agg [.pv (.lit (.int .i64 ((firstC l).1.epoch))), sS (some (firstC l).1.members.nil) eMember ((firstC l).1.members.D)]) ?_
 refine rvc_un (rexec_buildSliceF C eChain [(firstC l).1] rfl rfl rfl rfl rfl rfl rfl (by decide) rfl ?_)
 refine rvP C (.agg [sS (some false) eChain [(firstC l).1]]) ?_
 refine rvP C (.agg [.pv (.lit (.int .i64 ((firstC l).1.epoch))), sS (some (firstC l).1.members.nil) eMember ((firstC l).1.members.D)]) ?_
 refine rvP C (.agg [sS (some false) eChain [(firstC l).1], .pv (.lit (.int .i64 ((firstC l).1.epoch))), sS (some (firstC l).1.members.nil) eMember ((firstC l).1.members.D), .pv (.lit (.int .i64 0))]) ?_
 refine rvc_un (rexec_prim C (δ := { v := .ptr 19 0, new := [(19, .cells [sS (some false) eChain [(firstC l).1], .pv (.lit (.int .i64 ((firstC l).1.epoch))), sS (some (firstC l).1.members.nil) eMember ((firstC l).1.members.D), .pv (.lit (.int .i64 0))])] }) rfl rfl rfl rfl trivial rfl ?_)
 refine rvP C (.ptr 19 0) ?_
 refine rvP C (.pv (.lit (.int .i64 0))) ?_
 refine rvc_nil ?_
 refine Awp.weakenR (S := [(2, .ptr 0 0), (3, .pv (.lit (.int .i64 0)))]) (H := [(0, .cells [sS (some false) eChain [(firstC l).1], .pv (.lit (.int .i64 ((firstC l).1.epoch))), sS (some (firstC l).1.members.nil) eMember ((firstC l).1.members.D), .pv (.lit (.int .i64 0))])]) (U := [0]) (fun x => bif x == 0 then 19 else x) (WeakerR.ofL (Ks := [0]) hI ⟨⟨rfl, rfl⟩, ⟨rfl, rfl⟩, trivial⟩ (okH_cons rfl rfl rfl rfl okH_nil) rfl) ?_
 refine Awp.ret ?_
 subst hR
 exact ⟨.inl rfl, rfl, rfl⟩
def newNil (l : (Sl Member)) : Unit × Int :=
  ((), (firstC l).2)
theorem newNil_calls (l : (Sl Member)) (h0 : (((firstC l).2) != 0) = true) (hl1 : l.D.length ≤ 1000000) : PCalls Try.prog 12 [sS (some l.nil) eMember l.D] (.tup [.pv (.lit (.pointer none)), .pv (.lit (.int .i64 ((newNil l).2)))]) := by
 generalize hR : newNil l = R
 refine PCalls.of_body tabOk Try.func12 rfl rfl rfl rfl rfl mixed fun E hP C hI => ?_
 refine Awp.consP C ?_
 refine rvP C (.pv (.lit (.pointer none))) ?_
 refine rvP C (.pv (.lit (.int .i64 0))) ?_
 refine rvc_nil ?_
 refine Awp.consP C ?_
 refine rvP C (sS (some l.nil) eMember l.D) ?_
 refine rvc_un (rexec_call hP C rfl rfl rfl (firstC_calls l hl1) ?_)
 refine rvP C (.tup [.agg [.pv (.lit (.int .i64 ((firstC l).1.epoch))), sS (some (firstC l).1.members.nil) eMember ((firstC l).1.members.D)], .pv (.lit (.int .i64 ((firstC l).2)))]) ?_
 refine rvP C (.agg [.pv (.lit (.int .i64 ((firstC l).1.epoch))), sS (some (firstC l).1.members.nil) eMember ((firstC l).1.members.D)]) ?_
 refine rvP C (.pv (.lit (.int .i64 ((firstC l).2)))) ?_
 refine rvc_un (rexec_prim C (δ := { v := .ptr 4 0, new := [(4, .cells [.pv (.lit (.int .i64 0)), sS (some true) eMember []])] }) rfl rfl rfl rfl trivial rfl ?_)
 refine rvc_un (rexec_prim C (δ := { v := .undef, wr := [(4, some (.cells [.pv (.lit (.int .i64 ((firstC l).1.epoch))), sS (some (firstC l).1.members.nil) eMember ((firstC l).1.members.D)]))] }) rfl rfl rfl rfl trivial rfl ?_)
 refine rvP C (.pv (.lit (.int .i64 ((firstC l).2)))) ?_
 refine rvc_nil ?_
 refine Awp.seq ?_
 refine Awp.consP C ?_
 refine rvP C (.pv (.lit (.int .i64 ((firstC l).2)))) ?_
 refine rvP C (.pv (.lit (.bool (((firstC l).2) != 0)))) ?_
 refine rvc_nil ?_
 refine Awp.condT (b := (((firstC l).2) != 0)) rfl h0 ?_
 refine Awp.consP C ?_
 refine rvP C (.pv (.lit (.int .i64 ((firstC l).2)))) ?_
 refine rvP C (.pv (.lit (.pointer none))) ?_
 refine rvP C (.pv (.lit (.int .i64 ((firstC l).2)))) ?_
 refine rvc_nil ?_
 refine Awp.ret ?_
 subst hR
 exact ⟨.inl rfl, rfl⟩
end Go.Proofs.Ytpgenmflgdkfiaa
/- Ledgers behind calls: how long chains and commands' bytes are. No conditions. -/
namespace Go.Proofs.Ytpgenmflgdkfiaa
open Go.Am
theorem rPut_l1_len {B : Nat} (kk : List Int → Int → Sl Int) : ∀ (k i : Nat) (out : List Int) (n : Int), (∀ out' n', out'.length ≤ out.length + k → (kk out' n').D.length ≤ B) → (rPut_l1 kk k i out n).D.length ≤ B
  | 0, _, out, n, h => h out n (Nat.le_refl _)
  | k + 1, i, out, n, h => by
    unfold rPut_l1
    cases decide (n < 128)
    · exact rPut_l1_len kk k (i + 1) _ _ fun o m ho => h o m (by rw [List.length_append, List.length_singleton] at ho; omega)
    · exact h out n (by omega)
theorem rPut_l0_len : ∀ (l : List Int) (i : Nat) (out : List Int), (rPut_l0 l i out).D.length ≤ out.length + 11 * l.length
  | [], _, out => Nat.le_refl _
  | x :: l, i, out => by
    unfold rPut_l0
    refine rPut_l1_len _ 10 0 out x fun o n ho => ?_
    have := rPut_l0_len l (i + 1) (o ++ [IntKind.u8.wrap n])
    rw [List.length_append, List.length_singleton] at this
    simp only [List.length_cons]
    omega
theorem rCmdPut_len (c : Command) : (rCmdPut c).1.D.length ≤ 44 := by
  unfold rCmdPut
  cases (rCmdCheck c) != 0
  · exact rPut_l0_len _ 0 []
  · exact Nat.zero_le _
theorem data_len (k : Do) (e : Int) (h : k.b.D.length ≤ 100000) : (doData k e).D.length ≤ 1000000 := by
  unfold doData
  have h1 := rCmdPut_len k.c
  have h2 := rCmdPut_len (Command.mk k.c.kind k.c.node k.c.site (IntKind.i64.wrap (e + k.off)))
  cases k.raw
  · cases decide (k.off > (-4))
    · simp only [cond_false]; omega
    · cases decide (k.off < 4)
      · simp only [cond_false, cond_true]; omega
      · simp only [cond_false, cond_true]; omega
  · simp only [cond_true]; omega
theorem newL_e (m : Sl Member) : (((newL m).2) != 0) = false := rfl
theorem newL_ok (m : Sl Member) (h : m.D.length ≤ 1000000) : okL (newL m).1 ∧ (newL m).1.past.all.D.length ≤ 1 + 0 := by
  have h1 := firstC_len m
  refine ⟨⟨firstC_hn m, Nat.le_trans h1 h, fun x hx => ?_⟩, Nat.le_refl _⟩
  have : x = (firstC m).1 := by simpa [newL] using hx
  rw [this]; exact Nat.le_trans h1 h
theorem copied_len (c : Chain) : (copied c).members.D.length ≤ c.members.D.length := clone_len c.members
theorem apply_okL {g : Ledger} (h : okL g) (i : Int) (d : Sl Int) : okL (lApply g i d).1 := by
  obtain ⟨h1, h2, h3⟩ := h
  have hf := few_next g.chain (cmdGet d).1
  unfold lApply
  cases lDead g
  · cases decide (i > 1099511627776)
    · cases decide (i < 1)
      · cases (IntKind.i64.wrap (i - 1)) != g.at_
        · cases (d.D.length : Int) == 0
          · cases (cmdGet d).2 != 0
            · cases (nextL g.chain (cmdGet d).1).2 != 0
              · cases decide ((nextL g.chain (cmdGet d).1).1.epoch > g.chain.epoch)
                · exact ⟨hf.1, Nat.le_trans hf.2 (by decide), h3⟩
                · refine ⟨hf.1, Nat.le_trans hf.2 (by decide), fun x hx => ?_⟩
                  rcases List.mem_append.1 hx with hx | hx
                  · exact h3 x hx
                  · rw [List.mem_singleton.1 hx]
                    exact Nat.le_trans (copied_len _) (Nat.le_trans hf.2 (by decide))
              · exact ⟨h1, h2, h3⟩
            · exact ⟨h1, h2, h3⟩
          · exact ⟨h1, h2, h3⟩
        · exact ⟨h1, h2, h3⟩
      · exact ⟨h1, h2, h3⟩
    · exact ⟨h1, h2, h3⟩
  · exact ⟨h1, h2, h3⟩
theorem apply_all (g : Ledger) (i : Int) (d : Sl Int) : (lApply g i d).1.past.all.D.length ≤ g.past.all.D.length + 1 := by
  unfold lApply
  cases lDead g
  · cases decide (i > 1099511627776)
    · cases decide (i < 1)
      · cases (IntKind.i64.wrap (i - 1)) != g.at_
        · cases (d.D.length : Int) == 0
          · cases (cmdGet d).2 != 0
            · cases (nextL g.chain (cmdGet d).1).2 != 0
              · cases decide ((nextL g.chain (cmdGet d).1).1.epoch > g.chain.epoch)
                · exact Nat.le_succ _
                · show (_ ++ [_]).length ≤ _
                  rw [List.length_append, List.length_singleton]; exact Nat.le_refl _
              · exact Nat.le_succ _
            · exact Nat.le_succ _
          · exact Nat.le_succ _
        · exact Nat.le_succ _
      · exact Nat.le_succ _
    · exact Nat.le_succ _
  · exact Nat.le_succ _
theorem apply_ok {g : Ledger} {n : Nat} (h : okL g) (ha : g.past.all.D.length ≤ 1 + n) {i : Int} {d : Sl Int} : okL (lApply g i d).1 ∧ (lApply g i d).1.past.all.D.length ≤ 1 + (n + 1) :=
  ⟨apply_okL h i d, by have := apply_all g i d; omega⟩
end Go.Proofs.Ytpgenmflgdkfiaa
/- A ledger behind calls. No conditions. -/
namespace Go.Proofs.Ytpgenmflgdkfiaa
open Go.Am
def made_l0 : List Do → Nat → Ledger → Ledger
  | [], _, vc => vc
  | x :: xs, i, vc => made_l0 xs (i + 1) ((lApply vc (doIndex x (lAt vc)) (doData x ((lChain vc).epoch))).1)
def made (m : (Sl Member)) (l : (Sl Do)) : Ledger :=
  made_l0 l.D 0 ((newL m).1)
theorem made_calls (m : (Sl Member)) (l : (Sl Do)) (h0 : (((firstC m).2) != 0) = false) (hL : l.D.length ≤ 1000) (hB : ∀ x ∈ l.D, x.b.D.length ≤ 100000) (hl1 : m.D.length ≤ 1000000) (_hl2 : l.D.length ≤ 1000000) : OCalls Try.prog 13 [sS (some m.nil) eMember m.D, sS (some l.nil) eDo l.D] (.ptr 0 0) (.cells [sS (some (made m l).past.all.nil) eChain ((made m l).past.all.D), .pv (.lit (.int .i64 ((made m l).chain.epoch))), sS (some (made m l).chain.members.nil) eMember ((made m l).chain.members.D), .pv (.lit (.int .i64 ((made m l).at_)))]) := by
 generalize hR : made m l = R
 refine OCalls.of_body tabOk Try.func13 rfl rfl rfl rfl rfl rfl mixed fun E hP C hI => ?_
 refine Awp.consP C ?_
 refine rvP C (.pv (.lit (.pointer none))) ?_
 refine rvc_nil ?_
 refine Awp.cons C (fun _ => .quiet) (by kernel_rfl) ?_
 refine rvP C (sS (some m.nil) eMember m.D) ?_
 refine rvc_un (rexec_callO hP C rfl rfl rfl rfl (newL_calls m h0 hl1) ?_)
 refine rvP C (.tup [.ptr 11 0, .pv (.lit (.int .i64 ((newL m).2)))]) ?_
 refine rvP C (.ptr 11 0) ?_
 refine rvP C (.pv (.lit (.int .i64 ((newL m).2)))) ?_
 refine rvP C (.ptr 11 0) ?_
 refine rvP C (.pv (.lit (.int .i64 ((newL m).2)))) ?_
 refine rvc_nil ?_
 refine Awp.seq ?_
 refine Awp.consP C ?_
 refine rvP C (sS (some l.nil) eDo l.D) ?_
 refine rvP C (.pv (.lit (.int .i64 (l.D.length : Int)))) ?_
 refine rvP C (.pv (.lit (.int .i64 0))) ?_
 refine rvc_nil ?_
 refine Awp.block ?_
 refine Awp.forR (σ := Ledger) (l.D.length) (fun i v => [(5, .ptr 11 0), (14, sS (some l.nil) eDo l.D), (15, .pv (.lit (.int .i64 (l.D.length : Int)))), (16, .pv (.lit (.int .i64 (i : Int))))]) (fun i v => [(11, .cells [sS (some v.past.all.nil) eChain v.past.all.D, .pv (.lit (.int .i64 v.chain.epoch)), sS (some v.chain.members.nil) eMember v.chain.members.D, .pv (.lit (.int .i64 v.at_))])]) [11] (fun i v => (made_l0 (l.D.drop i) i v = R) ∧ (okL v ∧ v.past.all.D.length ≤ 1 + i)) ((newL m).1) ?_ ?_ (fun i vc h1 hR => ?_)
 · exact ⟨hR, (newL_ok m hl1)⟩
 · exact ⟨fun b => b, WeakerR.ofL (Ks := [11]) hI ⟨⟨rfl, rfl⟩, ⟨rfl, rfl⟩, ⟨rfl, rfl⟩, ⟨rfl, rfl⟩, trivial⟩ (okH_cons rfl rfl rfl rfl (okH_nil)) rfl⟩
 obtain ⟨hR, ⟨hVk, hVa⟩⟩ := hR
 refine Awp.consP C ?_
 refine rvP C (.pv (.lit (.bool (decide ((i : Int) < (l.D.length : Int)))))) ?_
 refine rvc_nil ?_
 refine Awp.seq ?_
 refine Awp.cond (b := (decide ((i : Int) < (l.D.length : Int)))) rfl (fun h2 => ?_) (fun h2 => ?_)
 ·
  have h3 : i < l.D.length := by have := of_decide_eq_true h2; omega
  obtain ⟨x, h4⟩ := getX h3
  rw [drop_at h4] at hR
  refine Awp.skip ?_
  refine Awp.seq ?_
  refine Awp.block ?_
  refine Awp.consP C ?_
  refine rvc_un (rexec_idxS C rfl rfl rfl rfl rfl rfl x (Int.natCast_nonneg _) h4 ?_)
  refine rvP C (.agg [.pv (.lit (.int .i64 x.c.kind)), .pv (.lit (.int .i64 x.c.node)), .pv (.lit (.int .i64 x.c.site)), .pv (.lit (.int .i64 x.c.epoch)), sS (some x.b.nil) (eI .u8) x.b.D, .pv (.lit (.bool x.raw)), .pv (.lit (.int .i64 x.by_)), .pv (.lit (.int .i64 x.off))]) ?_
  refine rvc_un (rexec_prim C (δ := { v := .ptr 8 0, new := [(8, .cells [.pv (.lit (.int .i64 0)), .pv (.lit (.int .i64 0)), .pv (.lit (.int .i64 0)), .pv (.lit (.int .i64 0)), sS (some true) (eI .u8) [], .pv (.lit (.bool false)), .pv (.lit (.int .i64 0)), .pv (.lit (.int .i64 0))])] }) rfl rfl rfl rfl trivial rfl ?_)
  refine rvc_un (rexec_prim C (δ := { v := .undef, wr := [(8, some (.cells [.pv (.lit (.int .i64 x.c.kind)), .pv (.lit (.int .i64 x.c.node)), .pv (.lit (.int .i64 x.c.site)), .pv (.lit (.int .i64 x.c.epoch)), sS (some x.b.nil) (eI .u8) x.b.D, .pv (.lit (.bool x.raw)), .pv (.lit (.int .i64 x.by_)), .pv (.lit (.int .i64 x.off))]))] }) rfl rfl rfl rfl trivial rfl ?_)
  refine rvc_nil ?_
  refine Awp.region C (fun o => match o.dst with | some 21 => .reads [8] | some 23 => .writes [11] | some 25 => .reads [8] | some 27 => .writes [11] | some 30 => .writes [11] | _ => .pure) (by kernel_rfl) ?_
  refine rvP C (.ptr 11 0) ?_
  refine rvP C (.agg [.pv (.lit (.int .i64 x.c.kind)), .pv (.lit (.int .i64 x.c.node)), .pv (.lit (.int .i64 x.c.site)), .pv (.lit (.int .i64 x.c.epoch)), sS (some x.b.nil) (eI .u8) x.b.D, .pv (.lit (.bool x.raw)), .pv (.lit (.int .i64 x.by_)), .pv (.lit (.int .i64 x.off))]) ?_
  refine rvP C (.ptr 11 0) ?_
  refine rvc_un (rexec_callM hP C (b := 11) rfl rfl rfl (lAt_calls vc) rfl rfl ?_)
  refine rvc_un (rexec_call hP C rfl rfl rfl (doIndex_calls x (lAt vc)) ?_)
  refine rvP C (.agg [.pv (.lit (.int .i64 x.c.kind)), .pv (.lit (.int .i64 x.c.node)), .pv (.lit (.int .i64 x.c.site)), .pv (.lit (.int .i64 x.c.epoch)), sS (some x.b.nil) (eI .u8) x.b.D, .pv (.lit (.bool x.raw)), .pv (.lit (.int .i64 x.by_)), .pv (.lit (.int .i64 x.off))]) ?_
  refine rvP C (.ptr 11 0) ?_
  refine rvc_un (rexec_callM hP C (b := 11) rfl rfl rfl (lChain_calls vc hVk.2.1) rfl rfl ?_)
  refine rvP C (.pv (.lit (.int .i64 ((lChain vc).epoch)))) ?_
  refine rvc_un (rexec_call hP C rfl rfl rfl (doData_calls x ((lChain vc).epoch)) ?_)
  refine rvc_un (rexec_callM hP C (b := 11) rfl rfl rfl (lApply_calls vc (doIndex x (lAt vc)) (doData x ((lChain vc).epoch)) hVk.1 (data_len x _ (hB x (List.mem_of_getElem? (by assumption)))) hVk.2.1 (by omega)) rfl rfl ?_)
  refine rvc_nil ?_
  refine Awp.regionP C ?_
  refine rvP C (.pv (.lit (.int .i64 (IntKind.i64.wrap ((i : Int) + 1))))) ?_
  refine rvP C (.pv (.lit (.int .i64 (IntKind.i64.wrap ((i : Int) + 1))))) ?_
  refine rvc_nil ?_
  refine ⟨h3, (lApply vc (doIndex x (lAt vc)) (doData x ((lChain vc).epoch))).1, ?_, ?_⟩
  · exact ⟨hR, (apply_ok hVk hVa)⟩
  · exact ⟨fun b => b, WeakerR.ofL (Ks := [11]) hI ⟨⟨rfl, rfl⟩, ⟨rfl, rfl⟩, ⟨rfl, rfl⟩, ⟨lit_cast (wrap_i64 (by omega) (by omega)), rfl⟩, trivial⟩ (okH_cons rfl rfl rfl rfl (okH_nil)) rfl⟩
 ·
  have h3 : ¬ i < l.D.length := by have := of_decide_eq_false h2; omega
  rw [drop_end h3] at hR
  refine Awp.exit ?_
  refine Awp.consP C ?_
  refine rvP C (.ptr 11 0) ?_
  refine rvP C (.ptr 11 0) ?_
  refine rvc_nil ?_
  refine Awp.weakenR (S := [(4, .ptr 0 0)]) (H := [(0, .cells [sS (some vc.past.all.nil) eChain vc.past.all.D, .pv (.lit (.int .i64 vc.chain.epoch)), sS (some vc.chain.members.nil) eMember vc.chain.members.D, .pv (.lit (.int .i64 vc.at_))])]) (U := [0]) (fun x => bif x == 0 then 11 else x) (WeakerR.ofL (Ks := [0]) hI ⟨⟨rfl, rfl⟩, trivial⟩ (okH_cons rfl rfl rfl rfl okH_nil) rfl) ?_
  refine Awp.ret ?_
  subst hR
  exact ⟨.inl rfl, rfl, rfl⟩
end Go.Proofs.Ytpgenmflgdkfiaa
/- Ledgers behind calls: they may be asked. No conditions. -/
namespace Go.Proofs.Ytpgenmflgdkfiaa
open Go.Am
theorem made_l0_ok : ∀ (l : List Do) (i : Nat) (g : Ledger), okL g → okL (made_l0 l i g) ∧ (made_l0 l i g).past.all.D.length ≤ g.past.all.D.length + l.length
  | [], _, g, h => ⟨h, Nat.le_refl _⟩
  | x :: l, i, g, h => by
    unfold made_l0
    have h1 := apply_okL h (doIndex x (lAt g)) (doData x (lChain g).epoch)
    have h2 := apply_all g (doIndex x (lAt g)) (doData x (lChain g).epoch)
    have h3 := made_l0_ok l (i + 1) _ h1
    exact ⟨h3.1, by simp only [List.length_cons]; omega⟩
theorem made_ok (m : Sl Member) (l : Sl Do) (h : m.D.length ≤ 1000000) : okL (made m l) ∧ (made m l).past.all.D.length ≤ 1 + l.D.length := by
  have h1 := newL_ok m h
  have := made_l0_ok l.D 0 _ h1.1
  exact ⟨this.1, by unfold made; omega⟩
theorem lChain_len {l : Ledger} (h : okL l) : (lChain l).members.D.length ≤ 1000000 := by
  unfold lChain
  cases lDead l
  · exact Nat.le_trans (copied_len _) h.2.1
  · exact Nat.zero_le _
end Go.Proofs.Ytpgenmflgdkfiaa
/- The example; a law. No conditions. -/
namespace Go.Proofs.Ytpgenmflgdkfiaa
open Go.Am
def awake  : Bool :=
  (bif (((cmdPut (Command.mk 1 0 0 1)).2) != 0) then false else (bif (((lApply ((newL (Sl.mk false [(Member.mk 0 0 false), (Member.mk 1 0 false)])).1) 1 ((cmdPut (Command.mk 1 0 0 1)).1)).2) != 0) then false else (bif (same (lChain ((lApply ((newL (Sl.mk false [(Member.mk 0 0 false), (Member.mk 1 0 false)])).1) 1 ((cmdPut (Command.mk 1 0 0 1)).1)).1)) (Chain.mk 2 (Sl.mk false [(Member.mk 1 0 false)]))) then (bif (((lApply ((lApply ((newL (Sl.mk false [(Member.mk 0 0 false), (Member.mk 1 0 false)])).1) 1 ((cmdPut (Command.mk 1 0 0 1)).1)).1) 2 ((cmdPut (Command.mk 1 0 0 1)).1)).2) == 150) then (bif ((lAt ((lApply ((lApply ((newL (Sl.mk false [(Member.mk 0 0 false), (Member.mk 1 0 false)])).1) 1 ((cmdPut (Command.mk 1 0 0 1)).1)).1) 2 ((cmdPut (Command.mk 1 0 0 1)).1)).1)) == 2) then (((lApply ((lApply ((lApply ((newL (Sl.mk false [(Member.mk 0 0 false), (Member.mk 1 0 false)])).1) 1 ((cmdPut (Command.mk 1 0 0 1)).1)).1) 2 ((cmdPut (Command.mk 1 0 0 1)).1)).1) 2 (Sl.mk true [])).2) == 90) else false) else false) else false)))
theorem awake_calls   : PCalls Try.prog 11 [] (.pv (.lit (.bool (awake )))) := by
 generalize hR : awake  = R
 refine PCalls.of_body tabOk Try.func11 rfl rfl rfl rfl rfl mixed fun E hP C hI => ?_
 refine Awp.consP C ?_
 refine rvP C (.pv (.lit (.bool false))) ?_
 refine rvc_nil ?_
 refine Awp.cons C (fun _ => .quiet) (by kernel_rfl) ?_
 refine rvP C (.agg [.pv (.lit (.int .i64 0)), .pv (.lit (.int .i64 0)), .pv (.lit (.bool false))]) ?_
 refine rvP C (.agg [.pv (.lit (.int .i64 1)), .pv (.lit (.int .i64 0)), .pv (.lit (.bool false))]) ?_
 refine rvc_un (rexec_buildSliceF C eMember [(Member.mk 0 0 false), (Member.mk 1 0 false)] rfl rfl rfl rfl rfl rfl rfl (by decide) rfl ?_)
 refine rvc_un (rexec_callO hP C rfl rfl rfl rfl (newL_calls (Sl.mk false [(Member.mk 0 0 false), (Member.mk 1 0 false)]) (by kernel_rfl) (by simp)) ?_)
 refine rvP C (.tup [.ptr 9 0, .pv (.lit (.int .i64 ((newL (Sl.mk false [(Member.mk 0 0 false), (Member.mk 1 0 false)])).2)))]) ?_
 refine rvP C (.ptr 9 0) ?_
 refine rvP C (.pv (.lit (.int .i64 ((newL (Sl.mk false [(Member.mk 0 0 false), (Member.mk 1 0 false)])).2)))) ?_
 refine rvP C (.ptr 9 0) ?_
 refine rvP C (.pv (.lit (.int .i64 ((newL (Sl.mk false [(Member.mk 0 0 false), (Member.mk 1 0 false)])).2)))) ?_
 refine rvc_nil ?_
 refine Awp.consP C ?_
 refine rvP C (.agg [.pv (.lit (.int .i64 1)), .pv (.lit (.int .i64 0)), .pv (.lit (.int .i64 0)), .pv (.lit (.int .i64 1))]) ?_
 refine rvc_un (rexec_call hP C rfl rfl rfl (cmdPut_calls (Command.mk 1 0 0 1)) ?_)
 refine rvP C (.tup [sS (some (cmdPut (Command.mk 1 0 0 1)).1.nil) (eI .u8) ((cmdPut (Command.mk 1 0 0 1)).1.D), .pv (.lit (.int .i64 ((cmdPut (Command.mk 1 0 0 1)).2)))]) ?_
 refine rvP C (sS (some (cmdPut (Command.mk 1 0 0 1)).1.nil) (eI .u8) ((cmdPut (Command.mk 1 0 0 1)).1.D)) ?_
 refine rvP C (.pv (.lit (.int .i64 ((cmdPut (Command.mk 1 0 0 1)).2)))) ?_
 refine rvP C (sS (some (cmdPut (Command.mk 1 0 0 1)).1.nil) (eI .u8) ((cmdPut (Command.mk 1 0 0 1)).1.D)) ?_
 refine rvP C (.pv (.lit (.int .i64 ((cmdPut (Command.mk 1 0 0 1)).2)))) ?_
 refine rvc_nil ?_
 refine Awp.seq ?_
 refine Awp.cons C (fun _ => .writer) (by kernel_rfl) ?_
 refine rvP C (.pv (.lit (.int .i64 ((newL (Sl.mk false [(Member.mk 0 0 false), (Member.mk 1 0 false)])).2)))) ?_
 refine rvP C (.pv (.lit (.bool (((newL (Sl.mk false [(Member.mk 0 0 false), (Member.mk 1 0 false)])).2) != 0)))) ?_
 refine rvP C (.pv (.lit (.bool (((newL (Sl.mk false [(Member.mk 0 0 false), (Member.mk 1 0 false)])).2) != 0)))) ?_
 refine rvc_known 19 (((newL (Sl.mk false [(Member.mk 0 0 false), (Member.mk 1 0 false)])).2) != 0) false rfl (newL_e (Sl.mk false [(Member.mk 0 0 false), (Member.mk 1 0 false)])) ?_
 refine rvO C (.pv (.lit (.int .i64 ((cmdPut (Command.mk 1 0 0 1)).2)))) ?_
 refine rvO C (.pv (.lit (.bool (((cmdPut (Command.mk 1 0 0 1)).2) != 0)))) ?_
 refine rvP C (.pv (.lit (.bool (((cmdPut (Command.mk 1 0 0 1)).2) != 0)))) ?_
 refine rvP C (.pv (.lit (.bool (((cmdPut (Command.mk 1 0 0 1)).2) != 0)))) ?_
 refine rvc_case 23 (((cmdPut (Command.mk 1 0 0 1)).2) != 0) rfl (fun h1 => ?_) (fun h1 => ?_)
 ·
  replace hR := of_true h1 hR
  refine rvS ?_
  refine rvS ?_
  refine rvS ?_
  refine rvS ?_
  refine rvP C (.pv (.lit (.bool true))) ?_
  refine rvc_nil ?_
  refine Awp.condT (b := true) rfl rfl ?_
  refine Awp.consP C ?_
  refine rvP C (.pv (.lit (.bool false))) ?_
  refine rvc_nil ?_
  refine Awp.ret ?_
  subst hR
  exact ⟨.inl rfl, rfl⟩
 ·
  replace hR := of_false h1 hR
  refine rvO C (.ptr 9 0) ?_
  refine rvO C (sS (some (cmdPut (Command.mk 1 0 0 1)).1.nil) (eI .u8) ((cmdPut (Command.mk 1 0 0 1)).1.D)) ?_
  refine rvc_open rfl rfl rfl (rexec_callM hP C (b := 9) rfl rfl rfl (lApply_calls ((newL (Sl.mk false [(Member.mk 0 0 false), (Member.mk 1 0 false)])).1) 1 ((cmdPut (Command.mk 1 0 0 1)).1) (fun h => absurd (h.symm.trans (by kernel_rfl : _ = false)) Bool.noConfusion) (of_decide_eq_true (by kernel_rfl)) (of_decide_eq_true (by kernel_rfl)) (of_decide_eq_true (by kernel_rfl))) rfl rfl ?_)
  refine rvO C (.pv (.lit (.bool (((lApply ((newL (Sl.mk false [(Member.mk 0 0 false), (Member.mk 1 0 false)])).1) 1 ((cmdPut (Command.mk 1 0 0 1)).1)).2) != 0)))) ?_
  refine rvP C (.pv (.lit (.bool (((lApply ((newL (Sl.mk false [(Member.mk 0 0 false), (Member.mk 1 0 false)])).1) 1 ((cmdPut (Command.mk 1 0 0 1)).1)).2) != 0)))) ?_
  refine rvc_nil ?_
  refine Awp.cond (b := (((lApply ((newL (Sl.mk false [(Member.mk 0 0 false), (Member.mk 1 0 false)])).1) 1 ((cmdPut (Command.mk 1 0 0 1)).1)).2) != 0)) rfl (fun h2 => ?_) (fun h2 => ?_)
  ·
   replace hR := of_true h2 hR
   refine Awp.consP C ?_
   refine rvP C (.pv (.lit (.bool false))) ?_
   refine rvc_nil ?_
   refine Awp.ret ?_
   subst hR
   exact ⟨.inl rfl, rfl⟩
  ·
   replace hR := of_false h2 hR
   refine Awp.skip ?_
   refine Awp.cons C (fun _ => .writer) (by kernel_rfl) ?_
   refine rvP C (.ptr 9 0) ?_
   refine rvc_un (rexec_callM hP C (b := 9) rfl rfl rfl (lChain_calls ((lApply ((newL (Sl.mk false [(Member.mk 0 0 false), (Member.mk 1 0 false)])).1) 1 ((cmdPut (Command.mk 1 0 0 1)).1)).1) (of_decide_eq_true (by kernel_rfl))) rfl rfl ?_)
   refine rvP C (.agg [.pv (.lit (.int .i64 1)), .pv (.lit (.int .i64 0)), .pv (.lit (.bool false))]) ?_
   refine rvc_un (rexec_buildSliceF C eMember [(Member.mk 1 0 false)] rfl rfl rfl rfl rfl rfl rfl (by decide) rfl ?_)
   refine rvP C (.agg [.pv (.lit (.int .i64 2)), sS (some false) eMember [(Member.mk 1 0 false)]]) ?_
   refine rvc_un (rexec_call hP C rfl rfl rfl (same_calls (lChain ((lApply ((newL (Sl.mk false [(Member.mk 0 0 false), (Member.mk 1 0 false)])).1) 1 ((cmdPut (Command.mk 1 0 0 1)).1)).1)) (Chain.mk 2 (Sl.mk false [(Member.mk 1 0 false)])) (of_decide_eq_true (by kernel_rfl))) ?_)
   refine rvP C (.pv (.lit (.bool (same (lChain ((lApply ((newL (Sl.mk false [(Member.mk 0 0 false), (Member.mk 1 0 false)])).1) 1 ((cmdPut (Command.mk 1 0 0 1)).1)).1)) (Chain.mk 2 (Sl.mk false [(Member.mk 1 0 false)])))))) ?_
   refine rvc_case 35 (same (lChain ((lApply ((newL (Sl.mk false [(Member.mk 0 0 false), (Member.mk 1 0 false)])).1) 1 ((cmdPut (Command.mk 1 0 0 1)).1)).1)) (Chain.mk 2 (Sl.mk false [(Member.mk 1 0 false)]))) rfl (fun h3 => ?_) (fun h3 => ?_)
   ·
    replace hR := of_true h3 hR
    refine rvO C (.ptr 9 0) ?_
    refine rvO C (sS (some (cmdPut (Command.mk 1 0 0 1)).1.nil) (eI .u8) ((cmdPut (Command.mk 1 0 0 1)).1.D)) ?_
    refine rvc_open rfl rfl rfl (rexec_callM hP C (b := 9) rfl rfl rfl (lApply_calls ((lApply ((newL (Sl.mk false [(Member.mk 0 0 false), (Member.mk 1 0 false)])).1) 1 ((cmdPut (Command.mk 1 0 0 1)).1)).1) 2 ((cmdPut (Command.mk 1 0 0 1)).1) (fun h => absurd (h.symm.trans (by kernel_rfl : _ = false)) Bool.noConfusion) (of_decide_eq_true (by kernel_rfl)) (of_decide_eq_true (by kernel_rfl)) (of_decide_eq_true (by kernel_rfl))) rfl rfl ?_)
    refine rvO C (.pv (.lit (.bool (((lApply ((lApply ((newL (Sl.mk false [(Member.mk 0 0 false), (Member.mk 1 0 false)])).1) 1 ((cmdPut (Command.mk 1 0 0 1)).1)).1) 2 ((cmdPut (Command.mk 1 0 0 1)).1)).2) == 150)))) ?_
    refine rvP C (.pv (.lit (.bool (((lApply ((lApply ((newL (Sl.mk false [(Member.mk 0 0 false), (Member.mk 1 0 false)])).1) 1 ((cmdPut (Command.mk 1 0 0 1)).1)).1) 2 ((cmdPut (Command.mk 1 0 0 1)).1)).2) == 150)))) ?_
    refine rvP C (.pv (.lit (.bool (((lApply ((lApply ((newL (Sl.mk false [(Member.mk 0 0 false), (Member.mk 1 0 false)])).1) 1 ((cmdPut (Command.mk 1 0 0 1)).1)).1) 2 ((cmdPut (Command.mk 1 0 0 1)).1)).2) == 150)))) ?_
    refine rvc_case 41 (((lApply ((lApply ((newL (Sl.mk false [(Member.mk 0 0 false), (Member.mk 1 0 false)])).1) 1 ((cmdPut (Command.mk 1 0 0 1)).1)).1) 2 ((cmdPut (Command.mk 1 0 0 1)).1)).2) == 150) rfl (fun h4 => ?_) (fun h4 => ?_)
    ·
     replace hR := of_true h4 hR
     refine rvO C (.ptr 9 0) ?_
     refine rvc_open rfl rfl rfl (rexec_callM hP C (b := 9) rfl rfl rfl (lAt_calls ((lApply ((lApply ((newL (Sl.mk false [(Member.mk 0 0 false), (Member.mk 1 0 false)])).1) 1 ((cmdPut (Command.mk 1 0 0 1)).1)).1) 2 ((cmdPut (Command.mk 1 0 0 1)).1)).1)) rfl rfl ?_)
     refine rvO C (.pv (.lit (.bool ((lAt ((lApply ((lApply ((newL (Sl.mk false [(Member.mk 0 0 false), (Member.mk 1 0 false)])).1) 1 ((cmdPut (Command.mk 1 0 0 1)).1)).1) 2 ((cmdPut (Command.mk 1 0 0 1)).1)).1)) == 2)))) ?_
     refine rvP C (.pv (.lit (.bool ((lAt ((lApply ((lApply ((newL (Sl.mk false [(Member.mk 0 0 false), (Member.mk 1 0 false)])).1) 1 ((cmdPut (Command.mk 1 0 0 1)).1)).1) 2 ((cmdPut (Command.mk 1 0 0 1)).1)).1)) == 2)))) ?_
     refine rvP C (.pv (.lit (.bool ((lAt ((lApply ((lApply ((newL (Sl.mk false [(Member.mk 0 0 false), (Member.mk 1 0 false)])).1) 1 ((cmdPut (Command.mk 1 0 0 1)).1)).1) 2 ((cmdPut (Command.mk 1 0 0 1)).1)).1)) == 2)))) ?_
     refine rvc_case 46 ((lAt ((lApply ((lApply ((newL (Sl.mk false [(Member.mk 0 0 false), (Member.mk 1 0 false)])).1) 1 ((cmdPut (Command.mk 1 0 0 1)).1)).1) 2 ((cmdPut (Command.mk 1 0 0 1)).1)).1)) == 2) rfl (fun h5 => ?_) (fun h5 => ?_)
     ·
      replace hR := of_true h5 hR
      refine rvO C (.ptr 9 0) ?_
      refine rvc_open rfl rfl rfl (rexec_callM hP C (b := 9) rfl rfl rfl (lApply_calls ((lApply ((lApply ((newL (Sl.mk false [(Member.mk 0 0 false), (Member.mk 1 0 false)])).1) 1 ((cmdPut (Command.mk 1 0 0 1)).1)).1) 2 ((cmdPut (Command.mk 1 0 0 1)).1)).1) 2 (Sl.mk true []) (fun h => absurd (h.symm.trans (by kernel_rfl : _ = false)) Bool.noConfusion) (of_decide_eq_true (by kernel_rfl)) (of_decide_eq_true (by kernel_rfl)) (of_decide_eq_true (by kernel_rfl))) rfl rfl ?_)
      refine rvO C (.pv (.lit (.bool (((lApply ((lApply ((lApply ((newL (Sl.mk false [(Member.mk 0 0 false), (Member.mk 1 0 false)])).1) 1 ((cmdPut (Command.mk 1 0 0 1)).1)).1) 2 ((cmdPut (Command.mk 1 0 0 1)).1)).1) 2 (Sl.mk true [])).2) == 90)))) ?_
      refine rvP C (.pv (.lit (.bool (((lApply ((lApply ((lApply ((newL (Sl.mk false [(Member.mk 0 0 false), (Member.mk 1 0 false)])).1) 1 ((cmdPut (Command.mk 1 0 0 1)).1)).1) 2 ((cmdPut (Command.mk 1 0 0 1)).1)).1) 2 (Sl.mk true [])).2) == 90)))) ?_
      refine rvP C (.pv (.lit (.bool (((lApply ((lApply ((lApply ((newL (Sl.mk false [(Member.mk 0 0 false), (Member.mk 1 0 false)])).1) 1 ((cmdPut (Command.mk 1 0 0 1)).1)).1) 2 ((cmdPut (Command.mk 1 0 0 1)).1)).1) 2 (Sl.mk true [])).2) == 90)))) ?_
      refine rvc_nil ?_
      refine Awp.ret ?_
      subst hR
      exact ⟨.inl rfl, rfl⟩
     ·
      replace hR := of_false h5 hR
      refine rvS ?_
      refine rvS ?_
      refine rvS ?_
      refine rvP C (.pv (.lit (.bool false))) ?_
      refine rvP C (.pv (.lit (.bool false))) ?_
      refine rvc_nil ?_
      refine Awp.ret ?_
      subst hR
      exact ⟨.inl rfl, rfl⟩
    ·
     replace hR := of_false h4 hR
     refine rvS ?_
     refine rvS ?_
     refine rvS ?_
     refine rvP C (.pv (.lit (.bool false))) ?_
     refine rvP C (.pv (.lit (.bool false))) ?_
     refine rvS ?_
     refine rvS ?_
     refine rvS ?_
     refine rvP C (.pv (.lit (.bool false))) ?_
     refine rvP C (.pv (.lit (.bool false))) ?_
     refine rvc_nil ?_
     refine Awp.ret ?_
     subst hR
     exact ⟨.inl rfl, rfl⟩
   ·
    replace hR := of_false h3 hR
    refine rvS ?_
    refine rvS ?_
    refine rvS ?_
    refine rvS ?_
    refine rvP C (.pv (.lit (.bool false))) ?_
    refine rvP C (.pv (.lit (.bool false))) ?_
    refine rvS ?_
    refine rvS ?_
    refine rvS ?_
    refine rvP C (.pv (.lit (.bool false))) ?_
    refine rvP C (.pv (.lit (.bool false))) ?_
    refine rvS ?_
    refine rvS ?_
    refine rvS ?_
    refine rvP C (.pv (.lit (.bool false))) ?_
    refine rvP C (.pv (.lit (.bool false))) ?_
    refine rvc_nil ?_
    refine Awp.ret ?_
    subst hR
    exact ⟨.inl rfl, rfl⟩
end Go.Proofs.Ytpgenmflgdkfiaa
/- Calls that may be gone through are few. No conditions. -/
namespace Go.Proofs.Ytpgenmflgdkfiaa
open Go.Am
theorem short_l1_ok (x : Sl Do) (kk : Int → Int → Int → Bool) (hk : ∀ n a i, 0 ≤ a → a ≤ 151 → 0 ≤ n → n ≤ 8193 → kk n a i = true → a ≤ 150 ∧ n ≤ 4096) : ∀ (f : Nat) (n a i : Int), f = x.D.length - i.toNat + 1 → 0 ≤ i → i ≤ (x.D.length : Int) → i ≤ a → a ≤ 151 → 0 ≤ n → n ≤ 8193 → short_l1 x kk f n a i = true →
    (a ≤ 150 ∧ n ≤ 4096) ∧ (x.D.length : Int) - i + a ≤ 150 ∧ ∀ j, i.toNat ≤ j → ∀ y, x.D[j]? = some y → y.b.D.length ≤ 4096
  | 0, _, _, _, hf, _, _, _, _, _, _, _ => by omega
  | f + 1, n, a, i, hf, h0, h1, h2, h3, h4, h5, h => by
    unfold short_l1 at h
    cases e1 : decide (i < (x.D.length : Int))
    · rw [e1] at h
      have h6 := of_decide_eq_false e1
      have h7 := hk n a i (by omega) h3 h4 h5 h
      refine ⟨h7, by omega, fun j hj y hy => ?_⟩
      rw [List.getElem?_eq_none (by omega)] at hy; cases hy
    · have h6 := of_decide_eq_true e1
      rw [e1] at h
      simp only [cond_true] at h
      cases e2 : decide (a ≤ 150)
      · rw [e2] at h
        have := of_decide_eq_false e2
        have := (hk n a i (by omega) h3 h4 h5 h).1
        omega
      · have h7 := of_decide_eq_true e2
        rw [e2] at h
        simp only [cond_true] at h
        cases e3 : decide (n ≤ 4096)
        · rw [e3] at h
          have := of_decide_eq_false e3
          have := (hk n a i (by omega) h3 h4 h5 h).2
          omega
        · have h8 := of_decide_eq_true e3
          rw [e3] at h
          simp only [cond_true] at h
          have hm := min97 ((x.D[i.toNat]!.b.D).length : Int) (Int.natCast_nonneg _)
          have hw1 := wrapI (n + (bif (decide ((4097 : Int) < ((x.D[i.toNat]!.b.D).length : Int))) then (4097 : Int) else ((x.D[i.toNat]!.b.D).length : Int)))
          have hw2 := wrapI (a + 1)
          have hw3 := wrapI (i + 1)
          have ih := short_l1_ok x kk hk f _ _ _ (by omega) (by omega) (by omega) (by omega) (by omega) (by omega) (by omega) h
          obtain ⟨⟨i1, i2⟩, i3, i4⟩ := ih
          refine ⟨⟨h7, h8⟩, by omega, fun j hj y hy => ?_⟩
          rcases Nat.lt_or_ge i.toNat j with hlt | hge
          · exact i4 j (by omega) y hy
          · have hji : j = i.toNat := by omega
            subst hji
            have hy2 : x.D[i.toNat]! = y := by
              rw [getElem!_def, hy]
            rw [hy2] at hw1 hm i2
            cases e4 : decide ((4097 : Int) < (y.b.D.length : Int))
            · have := of_decide_eq_false e4
              rw [e4] at hw1 i2
              simp only [cond_false] at hw1 i2
              omega
            · rw [e4] at hw1 i2
              simp only [cond_true] at hw1 i2
              omega
theorem short_l0_ok : ∀ (l : List (Sl Do)) (i : Nat) (n a : Int), 0 ≤ a → a ≤ 151 → 0 ≤ n → n ≤ 8193 → short_l0 l i n a = true → (a ≤ 150 ∧ n ≤ 4096) ∧ ∀ x ∈ l, x.D.length ≤ 150 ∧ ∀ y ∈ x.D, y.b.D.length ≤ 4096
  | [], _, n, a, _, _, _, _, h => by
    unfold short_l0 at h
    cases e1 : decide (a ≤ 150)
    · rw [e1] at h; cases h
    · rw [e1] at h
      exact ⟨⟨of_decide_eq_true e1, of_decide_eq_true h⟩, fun x hx => by cases hx⟩
  | x :: l, i, n, a, h0, h1, h2, h3, h => by
    unfold short_l0 at h
    -- what follows holds of what the rounds leave
    by_cases hx : (a ≤ 150 ∧ n ≤ 4096) ∧ (x.D.length : Int) - 0 + a ≤ 150 ∧ ∀ j, (0 : Int).toNat ≤ j → ∀ y, x.D[j]? = some y → y.b.D.length ≤ 4096
    · obtain ⟨p1, p2, p3⟩ := hx
      have hx1 : x.D.length ≤ 150 ∧ ∀ y ∈ x.D, y.b.D.length ≤ 4096 := ⟨by omega, fun y hy => by
        obtain ⟨j, hj⟩ := List.getElem?_of_mem hy
        exact p3 j (Nat.zero_le _) y hj⟩
      refine ⟨p1, fun z hz => ?_⟩
      cases hz with
      | head => exact hx1
      | tail _ hz =>
        -- the rest
        have key : ∀ (f : Nat) (n a i' : Int), 0 ≤ i' → i' ≤ a → a ≤ 151 → 0 ≤ n → n ≤ 8193 → f = x.D.length - i'.toNat + 1 → i' ≤ (x.D.length : Int) → short_l1 x (fun n1 acts1 _ => short_l0 l (i + 1) n1 acts1) f n a i' = true → ∃ n1 a1, 0 ≤ a1 ∧ a1 ≤ 151 ∧ 0 ≤ n1 ∧ n1 ≤ 8193 ∧ short_l0 l (i + 1) n1 a1 = true := by
          intro f
          induction f with
          | zero => intro n a i' _ _ _ _ _ hf; omega
          | succ f ih =>
            intro n a i' q0 q1 q2 q3 q4 q5 q6 q
            unfold short_l1 at q
            cases e1 : decide (i' < (x.D.length : Int))
            · rw [e1] at q; exact ⟨n, a, by omega, q2, q3, q4, q⟩
            · have h6 := of_decide_eq_true e1
              rw [e1] at q
              simp only [cond_true] at q
              cases e2 : decide (a ≤ 150)
              · rw [e2] at q; exact ⟨n, a, by omega, q2, q3, q4, q⟩
              · have h7 := of_decide_eq_true e2
                rw [e2] at q
                simp only [cond_true] at q
                cases e3 : decide (n ≤ 4096)
                · rw [e3] at q; exact ⟨n, a, by omega, q2, q3, q4, q⟩
                · have h8 := of_decide_eq_true e3
                  rw [e3] at q
                  simp only [cond_true] at q
                  have hm := min97 ((x.D[i'.toNat]!.b.D).length : Int) (Int.natCast_nonneg _)
                  have hw1 := wrapI (n + (bif (decide ((4097 : Int) < ((x.D[i'.toNat]!.b.D).length : Int))) then (4097 : Int) else ((x.D[i'.toNat]!.b.D).length : Int)))
                  have hw2 := wrapI (a + 1)
                  have hw3 := wrapI (i' + 1)
                  exact ih _ _ _ (by omega) (by omega) (by omega) (by omega) (by omega) (by omega) (by omega) q
        obtain ⟨n1, a1, k1, k2, k3, k4, k5⟩ := key _ n a 0 (Int.le_refl _) h0 h1 h2 h3 rfl (by omega) h
        exact (short_l0_ok l (i + 1) n1 a1 k1 k2 k3 k4 k5).2 z hz
    · exact absurd (short_l1_ok x _ (fun n1 a1 _ g0 g1 g2 g3 hh => (short_l0_ok l (i + 1) n1 a1 g0 g1 g2 g3 hh).1) _ n a 0 rfl (Int.le_refl _) (by omega) h0 h1 h2 h3 h) hx
theorem short_ok {ls : Sl (Sl Do)} (h : (!(short ls)) = false) (l : Sl Do) (hl : l ∈ ls.D) : l.D.length ≤ 150 ∧ ∀ y ∈ l.D, y.b.D.length ≤ 4096 :=
  (short_l0_ok ls.D 0 0 0 (Int.le_refl _) (by decide) (Int.le_refl _) (by decide) (by simpa [short] using h)).2 l hl
end Go.Proofs.Ytpgenmflgdkfiaa
/- Laws: once; refused. No conditions. -/
namespace Go.Proofs.Ytpgenmflgdkfiaa
open Go.Am
end Go.Proofs.Ytpgenmflgdkfiaa
/- Numbers as bytes, in plain words: put, and read. No conditions. -/
namespace Go.Proofs.Ytpgenmflgdkfiaa
open Go.Am
end Go.Proofs.Ytpgenmflgdkfiaa
/- What readers of bytes read, in plain words. No conditions. -/
namespace Go.Proofs.Ytpgenmflgdkfiaa
open Go.Am
/-- A reader of these bytes, with no error, ahead of those. -/
structure RdAt (r : Reader) (D l : List Int) : Prop where
  b : r.b.D = D
  made : r.made = true
  err : r.err = 0
  suf : l <:+ D
  at' : r.at_ = (D.length : Int) - l.length
theorem RdAt.drop {r : Reader} {D l : List Int} (h : RdAt r D l) : D.drop r.at_.toNat = l := by
  have h1 := List.suffix_iff_eq_drop.1 h.suf
  have h2 := h.suf.length_le
  have : r.at_.toNat = D.length - l.length := by have := h.at'; omega
  rw [this]; exact h1.symm
theorem RdAt.ok {r : Reader} {D l : List Int} (h : RdAt r D l) (hl : D.length ≤ 1000000) : okR r := by
  have h2 := h.suf.length_le
  have h3 := h.at'
  have h4 := h.b
  exact ⟨⟨by omega, by rw [h4]; omega⟩, by rw [h4]; exact hl⟩
end Go.Proofs.Ytpgenmflgdkfiaa
/- What the reference's readers of bytes read, in plain words. No conditions. -/
namespace Go.Proofs.Ytpgenmflgdkfiaa
open Go.Am
/-- A reader of the reference, likewise. -/
structure RrAt (r : Reader94) (D l : List Int) : Prop where
  b : r.b.D = D
  err : r.e_ = 0
  suf : l <:+ D
  at' : r.at_ = (D.length : Int) - l.length
theorem RrAt.drop {r : Reader94} {D l : List Int} (h : RrAt r D l) : D.drop r.at_.toNat = l := by
  have h1 := List.suffix_iff_eq_drop.1 h.suf
  have h2 := h.suf.length_le
  have : r.at_.toNat = D.length - l.length := by have := h.at'; omega
  rw [this]; exact h1.symm
end Go.Proofs.Ytpgenmflgdkfiaa
/- Commands as bytes, in plain words. No conditions. -/
namespace Go.Proofs.Ytpgenmflgdkfiaa
open Go.Am
def zeroC : Command := ⟨0, 0, 0, 0⟩
def asked (o : Option Command) : Command × Int :=
  match o with
  | some c => bif cmdCheck c != 0 then (zeroC, 120) else (c, 0)
  | none => (zeroC, 120)
end Go.Proofs.Ytpgenmflgdkfiaa
/- The law of commands. No conditions. -/
namespace Go.Proofs.Ytpgenmflgdkfiaa
open Go.Am
theorem awake_true : awake = true := by decide +kernel
end Go.Proofs.Ytpgenmflgdkfiaa
/- Inputs of chapter 12, as plain values. No conditions. -/
namespace Go.Proofs.Ytpgenmflgdkfiaa
open Go.Am
set_option maxRecDepth 100000 in
theorem flat3 {m : Nat} {ps : List PV} (h : Flat Try.prog (m + 1) 3 ps) : ∃ n, ps = [.lit (.int .i64 n)] ∧ (Lit.int .i64 n).wf = true := by
  unfold Flat at h
  rw [Try.underlying3] at h
  exact h
def WT25 (x : Command) : Prop := (Lit.int .i64 x.kind).wf = true ∧ (Lit.int .i64 x.node).wf = true ∧ (Lit.int .i64 x.site).wf = true ∧ (Lit.int .i64 x.epoch).wf = true
set_option maxRecDepth 100000 in
theorem flat25 {m : Nat} {ps : List PV} (h : Flat Try.prog (m + 2) 25 ps) : ∃ x : Command, ps = eCommand.enc x ∧ WT25 x := by
  unfold Flat at h
  rw [Try.underlying25] at h
  obtain ⟨a0, b0, e0, h0, a1, b1, e1, h1, a2, b2, e2, h2, a3, b3, e3, h3, el⟩ := h
  obtain ⟨x0, rfl, w0⟩ := flat3 (m := m + 0) h0
  obtain ⟨x1, rfl, w1⟩ := flat3 (m := m + 0) h1
  obtain ⟨x2, rfl, w2⟩ := flat3 (m := m + 0) h2
  obtain ⟨x3, rfl, w3⟩ := flat3 (m := m + 0) h3
  subst el
  subst e3
  subst e2
  subst e1
  subst e0
  exact ⟨⟨x0, x1, x2, x3⟩, rfl, w0, w1, w2, w3⟩
set_option maxRecDepth 100000 in
theorem flat5 {m : Nat} {ps : List PV} (h : Flat Try.prog (m + 1) 5 ps) : ∃ n, ps = [.lit (.int .u8 n)] ∧ (Lit.int .u8 n).wf = true := by
  unfold Flat at h
  rw [Try.underlying5] at h
  exact h
def WT26 (s : Sl Int) : Prop := s.D.length ≤ maxLen ∧ (s.nil = true → s.D = []) ∧ ∀ x ∈ s.D, (Lit.int .u8 x).wf = true
set_option maxRecDepth 100000 in
theorem flat26 {m : Nat} {ps : List PV} (h : Flat Try.prog (m + 2) 26 ps) : ∃ s : Sl Int, ps = [.sl (some s.nil) s.D.length (encL (eI .u8) s.D)] ∧ WT26 s := by
  unfold Flat at h
  rw [Try.underlying26] at h
  obtain ⟨b, D, rfl, h1, h2, h3⟩ := h
  obtain ⟨D2, e1, e2, e3⟩ := enc_list (e := (eI .u8)) (W := fun x => (Lit.int .u8 x).wf = true) D fun y hy => flat5 (h3 y hy)
  rw [e2, ← e1]
  exact ⟨⟨b, D2⟩, rfl, (by show D2.length ≤ _; rw [e1]; exact h1), (fun hb => by have := h2 hb; rw [this] at e1; exact List.eq_nil_of_length_eq_zero e1), e3⟩
set_option maxRecDepth 100000 in
theorem flat4 {m : Nat} {ps : List PV} (h : Flat Try.prog (m + 1) 4 ps) : ∃ b, ps = [.lit (.bool b)] ∧ True := by
  unfold Flat at h
  rw [Try.underlying4] at h
  obtain ⟨b, h⟩ := h
  exact ⟨b, h, trivial⟩
def WT63 (x : Member) : Prop := (Lit.int .i64 x.node).wf = true ∧ (Lit.int .i64 x.site).wf = true ∧ True
set_option maxRecDepth 100000 in
theorem flat63 {m : Nat} {ps : List PV} (h : Flat Try.prog (m + 2) 63 ps) : ∃ x : Member, ps = eMember.enc x ∧ WT63 x := by
  unfold Flat at h
  rw [Try.underlying63] at h
  obtain ⟨a0, b0, e0, h0, a1, b1, e1, h1, a2, b2, e2, h2, el⟩ := h
  obtain ⟨x0, rfl, w0⟩ := flat3 (m := m + 0) h0
  obtain ⟨x1, rfl, w1⟩ := flat3 (m := m + 0) h1
  obtain ⟨x2, rfl, w2⟩ := flat4 (m := m + 0) h2
  subst el
  subst e2
  subst e1
  subst e0
  exact ⟨⟨x0, x1, x2⟩, rfl, w0, w1, w2⟩
def WT22 (s : Sl Member) : Prop := s.D.length ≤ maxLen ∧ (s.nil = true → s.D = []) ∧ ∀ x ∈ s.D, WT63 x
set_option maxRecDepth 100000 in
theorem flat22 {m : Nat} {ps : List PV} (h : Flat Try.prog (m + 3) 22 ps) : ∃ s : Sl Member, ps = [.sl (some s.nil) s.D.length (encL eMember s.D)] ∧ WT22 s := by
  unfold Flat at h
  rw [Try.underlying22] at h
  obtain ⟨b, D, rfl, h1, h2, h3⟩ := h
  obtain ⟨D2, e1, e2, e3⟩ := enc_list (e := eMember) (W := fun x => WT63 x) D fun y hy => flat63 (h3 y hy)
  rw [e2, ← e1]
  exact ⟨⟨b, D2⟩, rfl, (by show D2.length ≤ _; rw [e1]; exact h1), (fun hb => by have := h2 hb; rw [this] at e1; exact List.eq_nil_of_length_eq_zero e1), e3⟩
def WT28 (x : Do) : Prop := WT25 x.c ∧ WT26 x.b ∧ True ∧ (Lit.int .i64 x.by_).wf = true ∧ (Lit.int .i64 x.off).wf = true
set_option maxRecDepth 100000 in
theorem flat28 {m : Nat} {ps : List PV} (h : Flat Try.prog (m + 3) 28 ps) : ∃ x : Do, ps = eDo.enc x ∧ WT28 x := by
  unfold Flat at h
  rw [Try.underlying28] at h
  obtain ⟨a0, b0, e0, h0, a1, b1, e1, h1, a2, b2, e2, h2, a3, b3, e3, h3, a4, b4, e4, h4, el⟩ := h
  obtain ⟨x0, rfl, w0⟩ := flat25 (m := m + 0) h0
  obtain ⟨x1, rfl, w1⟩ := flat26 (m := m + 0) h1
  obtain ⟨x2, rfl, w2⟩ := flat4 (m := m + 1) h2
  obtain ⟨x3, rfl, w3⟩ := flat3 (m := m + 1) h3
  obtain ⟨x4, rfl, w4⟩ := flat3 (m := m + 1) h4
  subst el
  subst e4
  subst e3
  subst e2
  subst e1
  subst e0
  exact ⟨⟨x0, x1, x2, x3, x4⟩, rfl, w0, w1, w2, w3, w4⟩
def WT23 (s : Sl Do) : Prop := s.D.length ≤ maxLen ∧ (s.nil = true → s.D = []) ∧ ∀ x ∈ s.D, WT28 x
set_option maxRecDepth 100000 in
theorem flat23 {m : Nat} {ps : List PV} (h : Flat Try.prog (m + 4) 23 ps) : ∃ s : Sl Do, ps = [.sl (some s.nil) s.D.length (encL eDo s.D)] ∧ WT23 s := by
  unfold Flat at h
  rw [Try.underlying23] at h
  obtain ⟨b, D, rfl, h1, h2, h3⟩ := h
  obtain ⟨D2, e1, e2, e3⟩ := enc_list (e := eDo) (W := fun x => WT28 x) D fun y hy => flat28 (h3 y hy)
  rw [e2, ← e1]
  exact ⟨⟨b, D2⟩, rfl, (by show D2.length ≤ _; rw [e1]; exact h1), (fun hb => by have := h2 hb; rw [this] at e1; exact List.eq_nil_of_length_eq_zero e1), e3⟩
end Go.Proofs.Ytpgenmflgdkfiaa
/- The contract of LedgerCommands. No conditions. -/
namespace Go.Proofs.Ytpgenmflgdkfiaa
open Go.Am
end Go.Proofs.Ytpgenmflgdkfiaa
/- The epoch behind a command; what is not told by one. No conditions. -/
namespace Go.Proofs.Ytpgenmflgdkfiaa
open Go.Am
/-- What a change of a chain tells. -/
def told (c : Chain) (x : Chain × Int) : Prop := (x.2 = 0 → (x.1.epoch = c.epoch ∨ x.1.epoch = c.epoch + 1) ∧ check c = 0) ∧ x.2 ≠ 90
theorem told_err (c d : Chain) {e : Int} (h0 : e ≠ 0) (h : e ≠ 90) : told c (d, e) := ⟨fun h => absurd h h0, h⟩
theorem told_bif {c : Chain} {b : Bool} {x y : Chain × Int} (hx : b = true → told c x) (hy : b = false → told c y) : told c (bif b then x else y) := by
  cases b
  · exact hy rfl
  · exact hx rfl
theorem told_after {c : Chain} (h : check c = 0) (l : Sl Member) : told c (after c l, 0) :=
  ⟨fun _ => ⟨.inr (wrap_epoch h), h⟩, by show (0 : Int) ≠ 90; decide⟩
theorem told_check {c d : Chain} (h : (check c != 0) = true) : told c (d, check c) := by
  rcases check_80 c with e | e
  · rw [e] at h; cases h
  · rw [e]; exact told_err _ _ (by decide) (by decide)
theorem told_finW {c : Chain} (h : check c = 0) (l : List Member) : told c (finW c l) := by
  unfold finW
  refine told_bif (fun _ => told_err _ _ (by decide) (by decide)) fun _ => told_bif (fun _ => told_err _ _ (by decide) (by decide)) fun _ => told_bif (fun _ => told_err _ _ (by decide) (by decide)) fun _ => told_after h _
theorem told_without {c : Chain} (h : check c = 0) (g : Int) : told c (without c g) := by rw [without_eq]; exact told_finW h _
theorem told_drop (c : Chain) (n : Int) : told c (drop c n) := by
  unfold drop
  exact told_bif (fun h => told_check h) fun h => told_without (eq_of_bne_false h) _
theorem told_dropSite_l0 {c : Chain} (h : check c = 0) (s : Int) : ∀ (l : List Member) (i : Nat) (g : Int), told c (dropSite_l0 c s l i g)
  | [], _, g => by unfold dropSite_l0; exact told_without h g
  | x :: l, i, g => by
    unfold dropSite_l0
    exact told_bif (fun _ => told_dropSite_l0 h s l _ _) fun _ => told_dropSite_l0 h s l _ _
theorem told_dropSite (c : Chain) (s : Int) : told c (dropSite c s) := by
  unfold dropSite
  exact told_bif (fun h => told_check h) fun h => told_dropSite_l0 (eq_of_bne_false h) _ _ _ _
theorem told_join_l0 {c : Chain} (h : check c = 0) (m : Member) : ∀ (f : Nat) (i : Int), f = c.members.D.length - i.toNat + 1 → 0 ≤ i → i ≤ (c.members.D.length : Int) → told c (join_l0 c m f i)
  | 0, _, hf, _, _ => by omega
  | f + 1, i, hf, h0, h1 => by
    have h6 := check_le6 h
    unfold join_l0
    have e : told c (bif (i == 0) then ((Chain.mk 0 (Sl.mk true [])), (152 : Int)) else ((after c (Sl.mk false (insertL c.members.D i.toNat [(Member.mk m.node m.site true)]))), 0)) :=
      told_bif (fun _ => told_err _ _ (by decide) (by decide)) fun _ => told_after h _
    refine told_bif (fun hlt => told_bif (fun _ => ?_) fun _ => e) fun _ => e
    have := of_decide_eq_true hlt
    have := wrapI (i + 1)
    exact told_join_l0 h m f _ (by omega) (by omega) (by omega)
theorem told_join (c : Chain) (m : Member) : told c (join c m) := by
  unfold join
  refine told_bif (fun h => told_check h) fun h => told_bif (fun _ => told_err _ _ (by decide) (by decide)) fun _ => told_bif (fun _ => told_err _ _ (by decide) (by decide)) fun _ => told_bif (fun _ => told_err _ _ (by decide) (by decide)) fun _ => ?_
  exact told_join_l0 (eq_of_bne_false h) m _ 0 (by omega) (Int.le_refl _) (by omega)
theorem told_again (c : Chain) (n : Int) : told c (again c n) := by
  unfold again
  exact told_bif (fun h => told_check h) fun h => told_bif (fun _ => told_err _ _ (by decide) (by decide)) fun _ => told_bif (fun _ => told_err _ _ (by decide) (by decide)) fun _ => told_after (eq_of_bne_false h) _
theorem told_ready (c : Chain) (n : Int) : told c (ready c n) := by
  unfold ready
  exact told_bif (fun h => told_check h) fun h => told_bif (fun _ => told_err _ _ (by decide) (by decide)) fun _ => told_bif (fun _ => told_err _ _ (by decide) (by decide)) fun _ => ⟨fun _ => ⟨.inl rfl, eq_of_bne_false h⟩, by show (0 : Int) ≠ 90; decide⟩
theorem told_next (c : Chain) (k : Command) : told c (nextL c k) := by
  unfold nextL
  exact told_bif (fun _ => told_err _ _ (by decide) (by decide)) fun _ => told_bif (fun _ => told_drop _ _) fun _ => told_bif (fun _ => told_dropSite _ _) fun _ => told_bif (fun _ => told_join _ _) fun _ => told_bif (fun _ => told_again _ _) fun _ => told_ready _ _
theorem get_code (b : Sl Int) : (cmdGet b).2 = 0 ∨ (cmdGet b).2 = 120 := by
  unfold cmdGet
  cases (rdEnd (rdIn (rdIn (rdIn (rdIn (rdNew b) 0 99).1 0 6).1 0 3).1 0 1099511627776).1) != 0
  · simp only [cond_false]
    cases cmdCheck _ != 0
    · exact .inl rfl
    · exact .inr rfl
  · exact .inr rfl
/-- A ledger behind so many calls. -/
structure Lived (g : Ledger) (n : Nat) : Prop where
  lo : 1 ≤ g.chain.epoch
  hi : g.chain.epoch ≤ 1 + (n : Int)
  at0 : 0 ≤ g.at_
  at1 : g.at_ ≤ (n : Int)
theorem Lived.dead {g : Ledger} {n : Nat} (h : Lived g n) : lDead g = false := by
  have := h.lo
  unfold lDead
  simp; omega
theorem Lived.chain {g : Ledger} {n : Nat} (h : Lived g n) : lChain g = copied g.chain := by unfold lChain; rw [h.dead]; rfl
theorem Lived.at_ {g : Ledger} {n : Nat} (h : Lived g n) : lAt g = g.at_ := by unfold lAt; rw [h.dead]; rfl
/-- What Apply does, told by cases. -/
theorem apply_cases {g : Ledger} {n : Nat} (h : Lived g n) (_ : n ≤ 1000) (i : Int) (d : Sl Int) :
    (lApply g i d = (g, 90)) ∨
    (i = g.at_ + 1 ∧ ((lApply g i d = (Ledger.mk g.past g.chain i, 0) ∧ d.D.length = 0) ∨ (lApply g i d = (Ledger.mk g.past g.chain i, (cmdGet d).2) ∧ (cmdGet d).2 = 120) ∨
      ((cmdGet d).2 = 0 ∧ lApply g i d = (Ledger.mk g.past g.chain i, (nextL g.chain (cmdGet d).1).2) ∧ (nextL g.chain (cmdGet d).1).2 ≠ 0) ∨
      ((cmdGet d).2 = 0 ∧ (nextL g.chain (cmdGet d).1).2 = 0 ∧ (((nextL g.chain (cmdGet d).1).1.epoch > g.chain.epoch ∧ lApply g i d = (Ledger.mk (Past.mk (Sl.mk false (g.past.all.D ++ [copied (nextL g.chain (cmdGet d).1).1]))) (nextL g.chain (cmdGet d).1).1 i, 0)) ∨
        (¬ (nextL g.chain (cmdGet d).1).1.epoch > g.chain.epoch ∧ lApply g i d = (Ledger.mk g.past (nextL g.chain (cmdGet d).1).1 i, 0)))))) := by
  have h1 := h.at0
  have h2 := h.at1
  unfold lApply
  rw [h.dead, cond_false]
  cases e1 : decide (i > 1099511627776)
  · have f1 := of_decide_eq_false e1
    rw [cond_false]
    cases e2 : decide (i < 1)
    · have f2 := of_decide_eq_false e2
      rw [cond_false]
      cases e3 : IntKind.i64.wrap (i - 1) != g.at_
      · have f3 := eq_of_bne_false e3
        have := wrapI (i - 1)
        have hi : i = g.at_ + 1 := by omega
        rw [cond_false]
        refine .inr ⟨hi, ?_⟩
        cases e4 : (d.D.length : Int) == 0
        · rw [cond_false]
          refine .inr ?_
          rcases get_code d with e5 | e5
          · rw [e5]
            simp only [bne_self_eq_false, cond_false]
            refine .inr ?_
            cases e6 : (nextL g.chain (cmdGet d).1).2 != 0
            · have f6 := eq_of_bne_false e6
              rw [cond_false]
              refine .inr ⟨by first | rfl | trivial, f6, ?_⟩
              cases e7 : decide ((nextL g.chain (cmdGet d).1).1.epoch > g.chain.epoch)
              · exact .inr ⟨of_decide_eq_false e7, rfl⟩
              · exact .inl ⟨of_decide_eq_true e7, rfl⟩
            · exact .inl ⟨by first | rfl | trivial, rfl, by simpa using e6⟩
          · rw [e5]
            exact .inl ⟨rfl, rfl⟩
        · exact .inl ⟨rfl, by simpa using e4⟩
      · exact .inl rfl
    · exact .inl rfl
  · exact .inl rfl
theorem Lived.apply {g : Ledger} {n : Nat} (h : Lived g n) (hn : n ≤ 1000) (i : Int) (d : Sl Int) : Lived (lApply g i d).1 (n + 1) := by
  have a := h.lo; have b := h.hi; have c := h.at0; have e := h.at1
  rcases apply_cases h hn i d with q | ⟨hi, ⟨q, _⟩ | ⟨q, _⟩ | ⟨_, q, _⟩ | ⟨_, q0, ⟨_, q⟩ | ⟨_, q⟩⟩⟩
  · rw [q]; exact ⟨a, by dsimp only; omega, c, by dsimp only; omega⟩
  · rw [q]; exact ⟨a, by dsimp only; omega, by dsimp only; omega, by dsimp only; omega⟩
  · rw [q]; exact ⟨a, by dsimp only; omega, by dsimp only; omega, by dsimp only; omega⟩
  · rw [q]; exact ⟨a, by dsimp only; omega, by dsimp only; omega, by dsimp only; omega⟩
  · rw [q]
    have := ((told_next g.chain (cmdGet d).1).1 q0).1
    exact ⟨by dsimp only; omega, by dsimp only; omega, by dsimp only; omega, by dsimp only; omega⟩
  · rw [q]
    have := ((told_next g.chain (cmdGet d).1).1 q0).1
    exact ⟨by dsimp only; omega, by dsimp only; omega, by dsimp only; omega, by dsimp only; omega⟩
theorem newL_lived {m : Sl Member} (h : (firstC m).2 = 0) : Lived (newL m).1 0 := by
  have e : (firstC m).1.epoch = 1 := by
    rw [firstC_eq] at h ⊢
    unfold finF at h ⊢
    generalize bySite m.D 0 ++ bySite m.D 1 ++ bySite m.D 2 = vc at h ⊢
    cases e1 : ((vc.length : Int) != (m.D.length : Int))
    · rw [e1] at h
      simp only [cond_false] at h ⊢
      cases e2 : check (Chain.mk 1 (Sl.mk vc.isEmpty vc)) != 0
      · rfl
      · rw [e2] at h; cases h
    · rw [e1] at h; cases h
  exact ⟨by show 1 ≤ (firstC m).1.epoch; omega, by show (firstC m).1.epoch ≤ _; omega, Int.le_refl _, Int.le_refl _⟩
theorem made_l0_lived : ∀ (l : List Do) (i n : Nat) (g : Ledger), Lived g n → n + l.length ≤ 1000 → Lived (made_l0 l i g) (n + l.length)
  | [], _, _, _, h, _ => h
  | x :: l, i, n, g, h, hn => by
    unfold made_l0
    rw [List.length_cons] at hn
    have := made_l0_lived l (i + 1) (n + 1) _ (h.apply (by omega) (doIndex x (lAt g)) (doData x (lChain g).epoch)) (by omega)
    rw [List.length_cons]
    rwa [show n + 1 + l.length = n + (l.length + 1) by omega] at this
theorem made_lived {m : Sl Member} {l : Sl Do} (h : (firstC m).2 = 0) (hl : l.D.length ≤ 1000) : Lived (made m l) l.D.length := by
  have := made_l0_lived l.D 0 0 _ (newL_lived h) (by omega)
  rwa [Nat.zero_add] at this
end Go.Proofs.Ytpgenmflgdkfiaa
/- The laws: a command is done once; what is refused changes nothing. No conditions. -/
namespace Go.Proofs.Ytpgenmflgdkfiaa
open Go.Am
end Go.Proofs.Ytpgenmflgdkfiaa
/- An abstract machine over the kit's calls, part 36: calls that are handed a block and make one; append of nothing to nil. No conditions. -/
namespace Go.Am
section steps
variable {E : Env} {T : Tab} {cq : Oper → Cls} {n : Nat} {ops : Array Oper}
/-- A call that is handed a block (0), and makes one (1). -/
structure NCalls (P : Program) (f : FuncId) (avs : List AV) (k : Blk) (av : AV) (k1 k' : Blk) : Prop where
  fn : ∃ fn, P.funcs[f]? = some fn ∧ (fn.name == "runtime.NumGoroutine") = false ∧ fn.body.isNone = false
  args : AV.withinL (fun b => b == 0) avs = true
  res : av.within (fun b => b == 1) = true
  blk : k.within (fun _ => false) = true
  blk1 : k1.within (fun _ => false) = true
  blk' : k'.within (fun _ => false) = true
  calls : ACalls P f [0] avs [(0, k)] av [(0, k1), (1, k')]
theorem NCalls.of_body {P : Program} {T : Tab} (hT : TabOk P T) {f : FuncId} {fn : Func} {body : Code} (hf : P.funcs[f]? = some fn) (hb : fn.body = some body) (hn : (fn.name == "runtime.NumGoroutine") = false) {avs : List AV} {k k1 k' : Blk} {av : AV} (hl : decide (avs.length ≤ fn.ntmps) = true) (ha : AV.withinL (fun b => b == 0) avs = true) (hr : av.within (fun b => b == 1) = true) (hk : k.within (fun _ => false) = true) (hk1 : k1.within (fun _ => false) = true) (hk' : k'.within (fun _ => false) = true) (hm : P.follows .mixedOrders = true)
    (h : ∀ E : Env, E.P = P → Cx E T fn.ntmps → E.I = [0] → Awp E body (entry avs [(0, k)] [0]) fun e st => (e = .ret ∨ e = .normal) ∧ resAV T st fn.results.toList = some av ∧ st.H 0 = some k1 ∧ st.H 1 = some k') : NCalls P f avs k av k1 k' where
  fn := ⟨fn, hf, hn, by simp [hb]⟩
  args := ha
  res := hr
  blk := hk
  blk1 := hk1
  blk' := hk'
  calls := ACalls.of_body hT hf hb (by simpa using hl) fun E hP hE hI => (h E hP ⟨hP ▸ hT, hE, hP ▸ hm⟩ hI).mono fun e st ⟨h1, h2, h3, h4⟩ => ⟨h1, h2, fun x hx => by
    simp only [List.mem_cons, List.not_mem_nil, or_false] at hx
    rcases hx with rfl | rfl
    · exact h3
    · exact h4⟩
theorem rexec_callN {P : Program} (hP : E.P = P) (C : Cx E T n) {f : FuncId} {avs args : List AV} {av : AV} {k k1 k' : Blk} {d b : Nat} {c : Call} {ty : TypeId} {pos : String} {af : Array Edge} {g : Option (Nat × Bool)} {st : St} {K : St → Prop} (h1 : dstB n ⟨some d, .call c, ty, pos, af, g⟩ = true) (hU : st.U d = false) (hc : c.callee = .value (.func f)) (hv : evls st.S c.args.toList = some args)
    (F : NCalls P f avs k av k1 k') (ha : AV.renL (fun _ => b) avs = args) (hb : st.H b = some k) (h7 : K (st.after (some d) { v := av.ren fun _ => d, new := [(d, k')], wr := [(b, some k1)] })) (hreach : reachB (.fn f [] [] :: args) [] [(b, k)] = true := by rfl) (hbr : refs (.fn f [] [] :: args) [(b, k)] b = true := by rfl) (hp : clsOf cq ⟨some d, .call c, ty, pos, af, g⟩ ≠ .pure := by decide) (hq : clsOf cq ⟨some d, .call c, ty, pos, af, g⟩ ≠ .quiet := by decide) (hft : footB (clsOf cq ⟨some d, .call c, ty, pos, af, g⟩) [(b, k)] { v := av.ren fun _ => d, new := [(d, k')], wr := [(b, some k1)] } = true := by rfl) : rexec E cq n ⟨some d, .call c, ty, pos, af, g⟩ st K := by
  subst hP
  obtain ⟨fn, q1, q2, q3⟩ := F.fn
  have hd : ∀ x, some d = some x → x < E.n := fun x e => by
    simp only [dstB, decide_eq_true_eq] at h1
    simp only [Option.some.injEq] at e
    subst e
    exact C.n ▸ h1
  have hin : inI [0] = fun b => b == 0 := funext fun b => by cases b <;> rfl
  have hk0 : Names.knows ⟨fun _ => b, [(d, 1)]⟩ [0] 0 = true := by simp [Names.knows, inI]
  have hk1 : Names.knows ⟨fun _ => b, [(d, 1)]⟩ [0] 1 = true := by simp [Names.knows, inI]
  have ok : CallOk ⟨fun _ => b, [(d, 1)]⟩ [0] avs [(0, k)] [(0, k1), (1, k')] av := by
    refine { args := by rw [hin]; exact F.args, ids := ?_, blks := ?_, nodup := by simp, inj := ?_, nodupL := by simp, nodupR := by simp, fresh := ?_, res := ?_, res' := ?_, kept := ?_, all := ?_, used := ?_ }
    · intro x hx; simp only [List.mem_singleton] at hx; subst hx; rfl
    · intro x hx; simp only [List.mem_singleton] at hx; subst hx; exact Blk.within_mono (fun b hb => by cases hb) k F.blk
    · intro x y hx hy _; simp [inI] at hx hy; omega
    · intro x hx; simp only [List.mem_singleton] at hx; subst hx; rfl
    · refine AV.within_mono (fun x hx => ?_) av F.res
      have : x = 1 := by simpa using hx
      subst this; exact hk1
    · intro x hx
      simp only [List.mem_cons, List.not_mem_nil, or_false] at hx
      rcases hx with rfl | rfl
      · exact ⟨hk0, Blk.within_mono (fun b hb => by cases hb) k1 F.blk1⟩
      · exact ⟨hk1, Blk.within_mono (fun b hb => by cases hb) k' F.blk'⟩
    · intro x hx h0
      simp only [List.mem_cons, List.not_mem_nil, or_false] at hx
      rcases hx with rfl | rfl
      · exact ⟨k, List.mem_singleton.2 rfl⟩
      · simp [inI] at h0
    · intro x hx; simp only [List.mem_singleton] at hx; subst hx; rfl
    · intro x hx
      have : x = 0 := by simpa [inI] using hx
      subst this; exact .inr rfl
  have hdo := does_call (E := E) (o := ⟨some d, .call c, ty, pos, af, g⟩) (c := c) rfl hc hd q1 q2 q3 F.calls ok (args := args) (caps := []) (by simpa using ha)
  have hτ : Names.τ ⟨fun _ => b, [(d, 1)]⟩ [0] 1 = d := by simp [Names.τ, inI]
  have hav : av.ren (Names.τ ⟨fun _ => b, [(d, 1)]⟩ [0]) = av.ren fun _ => d := by
    refine AV.ren_congr (U := fun b => b == 1) (fun x hx => ?_) av F.res
    have : x = 1 := by simpa using hx
    subst this; exact hτ
  have he : Names.delta ⟨fun _ => b, [(d, 1)]⟩ [0] [(0, k)] [(0, k1), (1, k')] av = { v := av.ren fun _ => d, new := [(d, k')], wr := [(b, some k1)] } := by
    simp only [Names.delta, List.map_nil, List.map_cons, hav]
    have e1 : (heapOf [(0, k1), (1, k')] 1).getD (.cells []) = k' := rfl
    have e2 : heapOf [(0, k1), (1, k')] 0 = some k1 := rfl
    rw [e1, e2, Blk.ren_none F.blk', Option.map_some, Blk.ren_none F.blk1]
  have hH : ([(0, k)] : List (Nat × Blk)).map (fun x => ((fun _ => b) x.1, x.2.ren (fun _ => b))) = [(b, k)] := by
    simp only [List.map_cons, List.map_nil, Blk.ren_none F.blk]
  rw [he] at hdo
  have hdo' : Does E ⟨some d, .call c, ty, pos, af, g⟩ (.fn f [] [] :: args) [(b, k)] { v := av.ren fun _ => d, new := [(d, k')], wr := [(b, some k1)] } := by
    rw [← hH]; exact hdo
  have hops : (Op.operands (.call c)).toList = .func f :: c.args.toList := by simp [Op.operands, Call.operands, hc]
  refine ⟨h1, .fn f [] [] :: args, [(b, k)], _, { vals := ?_, deps := ?_, fresh := ?_, does := hdo', reach := hreach, inV := ?_, inN := ?_, inW := ?_, wr := ?_, pure := fun h => ?_, quiet := fun h => ?_, foot := hft }, h7⟩
  · show evls st.S (Op.operands (.call c)).toList = _
    rw [hops]; simp only [evls, evl, hv]
  · intro x hx; simp only [List.mem_singleton] at hx; subst hx; exact hb
  · intro x hx; simp only [List.mem_singleton] at hx; subst hx; exact hU
  · refine AV.within_mono (U := fun b => b == d) (fun x hx => ?_) _ (AV.within_const _)
    have : x = d := by simpa using hx
    subst this; simp
  · intro x hx
    simp only [List.mem_singleton] at hx
    subst hx
    exact Blk.within_mono (fun b hb => by cases hb) k' F.blk'
  · intro x hx q hq
    simp only [List.mem_singleton] at hx
    subst hx
    obtain rfl := Option.some.inj hq
    exact Blk.within_mono (fun b hb => by cases hb) k1 F.blk1
  · intro x hx
    simp only [List.mem_singleton] at hx
    subst hx
    rw [hbr]; simp
  · exact absurd h hp
  · exact absurd h hq
/-- An append of nothing to nil. -/
theorem does_append00 (hT : TabOk E.P T) {o : Oper} {c : Call} {t t2 : TypeId} (ho : o.op = .call c) (hc : c.callee = .builtin .append) (hty : c.argTypes = #[t, t2]) (hd : ∀ d, o.dst = some d → d < E.n) {r re r2 : TyRow} (hr : T.lookup t = some r) {e : TypeId} (hdesc : r.desc = .slice e) (hre : T.lookup e = some re) (hr2 : T.lookup t2 = some r2) (hd2 : ∀ k, r2.desc ≠ .int k) (hb : re.bytes ≤ 1000000)
    {f : Option Bool} : Does E o [.pv (.sl (some true) 0 []), .pv (.sl f 0 [])] [] { v := .pv (.sl (some true) 0 []) } := by
  refine Does.value hd fun ι imm st a w hs hv _ => ?_
  have hops : o.op.operands.toList = c.args.toList := by rw [ho]; simp [Op.operands, Call.operands, hc]
  rw [hops] at hv
  obtain ⟨v1, us1, he, hv1, hvs⟩ := hv
  obtain ⟨v2, us2, he2, hv2, hvs⟩ := hvs
  simp only [VHs] at hvs
  subst hvs
  subst he2
  have hargs : c.args.map a.eval = #[v1, v2] := by apply Array.ext'; simpa using he
  simp only [VH, PH] at hv1
  obtain ⟨A, cap, rfl, _, hnil, _, hz0, _⟩ := hv1
  have hA : A = none := hnil trivial
  subst hA
  obtain ⟨_, rfl, _⟩ := hz0 rfl
  obtain ⟨vsN, g1, g2, g3⟩ := run_src (H := st.H) (y := .pv (.sl f 0 [])) (sz := re.size) (m := 0) (hd := []) (cs := []) hs rfl (fun x hx => by cases hx) (by simp) hv2
  have hlN := g2.length
  have hN : vsN = [] := by simpa using hlN
  subst hN
  have hnew : ∀ w' : World, (∀ x, w'.cell? x = w.cell? x) → (Builtin.firstCells re.size 0 v2).run E.P w' = .ok (List.toArray []) w' := fun w' hw' => by
    have := g3 0 (Nat.le_refl _) w' hw'
    simpa using this
  have hold : ∀ w' : World, (∀ x, w'.cell? x = w.cell? x) → (Builtin.firstCells re.size 0 (.slice none 0 0)).run E.P w' = .ok (List.toArray []) w' := fun w' _ => by
    simp [Builtin.firstCells]
  obtain ⟨inplace, _⟩ := run_append hT hr hdesc hre hr2 hd2 (ty := o.type) (t := t) (n := 0) (cap := 0) (base := none) g1 hnew hold (by omega) (by omega)
  obtain ⟨s, hrun, hs0⟩ := inplace (Nat.le_refl _)
  refine ⟨.slice none 0 0, ?_, ?_⟩
  · have hs0' : s = 0 := by omega
    subst hs0'
    have hrun' : (Builtin.append_ #[t, t2] o.type #[.slice none 0 0, v2]).run E.P w = .ok (.slice none 0 0) w := by rw [hrun]; rfl
    simp only [execOp, ho, resolve, hc, run_bind', run_pure', invoke, builtin, hargs, hty, hrun']
  · exact ⟨none, 0, rfl, Nat.le_refl _, fun _ => rfl, fun h => (by cases h), fun _ => ⟨rfl, rfl, rfl⟩, fun _ h => (by cases h)⟩
theorem rexec_append00 (C : Cx E T n) {d : Option Nat} {c : Call} {t t2 : TypeId} {ty : TypeId} {pos : String} {af : Array Edge} {g : Option (Nat × Bool)} {st : St} {K : St → Prop} (hc : c.callee = .builtin .append) (hty : c.argTypes = #[t, t2]) (h1 : dstB n ⟨d, .call c, ty, pos, af, g⟩ = true)
    {r re r2 : TyRow} (hr : T.lookup t = some r) {e : TypeId} (hdesc : r.desc = .slice e) (hre : T.lookup e = some re) (hr2 : T.lookup t2 = some r2) (hd2 : ∀ k, r2.desc ≠ .int k) (hb : re.bytes ≤ 1000000) {α : Type} {en : Enc α} {f : Option Bool} {D : List α} (hv : evls st.S c.args.toList = some [.pv (.sl (some true) 0 []), sS f en D]) (hD : D = [])
    (h7 : K (st.after d { v := .pv (.sl (some true) 0 []) })) : rexec E cq n ⟨d, .call c, ty, pos, af, g⟩ st K := by
  subst hD
  have hd' : ∀ x, d = some x → x < E.n := fun x e => by
    simp only [dstB, e, decide_eq_true_eq] at h1
    exact C.n ▸ h1
  have hops : (Op.operands (.call c)).toList = c.args.toList := by simp [Op.operands, Call.operands, hc]
  refine ⟨h1, _, _, _, { vals := ?_, deps := fun _ h => (by cases h), fresh := fun _ h => (by cases h), does := does_append00 C.tab (o := ⟨d, .call c, ty, pos, af, g⟩) rfl hc hty hd' hr hdesc hre hr2 hd2 hb (f := f), reach := rfl, inV := rfl, inN := fun _ h => (by cases h), inW := fun _ h => (by cases h), wr := fun _ h => (by cases h), pure := fun _ => ⟨rfl, rfl, rfl⟩, quiet := fun _ => rfl, foot := by cases (clsOf cq ⟨d, .call c, ty, pos, af, g⟩) <;> rfl }, h7⟩
  show evls st.S (Op.operands (.call c)).toList = _
  rw [hops]; exact hv
end steps
end Go.Am
/- An abstract machine over the kit's calls, part 37: a call that is handed a row which nobody changes any more. No conditions. -/
namespace Go.Am
theorem VHs.split {ι : Nat → Option (Nat × Nat)} {imm : Nat → Prop} {w : World} : ∀ {xs ys : List AV} {vs : List Value}, VHs ι imm w (xs ++ ys) vs → ∃ us ws, vs = us ++ ws ∧ VHs ι imm w xs us ∧ VHs ι imm w ys ws
  | [], ys, vs, h => ⟨[], vs, rfl, rfl, h⟩
  | x :: xs, ys, vs, h => by
    simp only [List.cons_append, VHs] at h
    obtain ⟨v, us, rfl, h1, h2⟩ := h
    obtain ⟨us', ws, rfl, h3, h4⟩ := VHs.split h2
    exact ⟨v :: us', ws, rfl, ⟨v, us', rfl, h1, h3⟩, h4⟩
theorem VHs.lone {ι κ : Nat → Option (Nat × Nat)} {imm : Nat → Prop} {w : World} : ∀ {xs : List AV} {vs : List Value}, AV.withinL (fun _ => false) xs = true → VHs ι imm w xs vs → VHs κ imm w xs vs
  | [], _, _, h => h
  | x :: xs, vs, hu, h => by
    simp only [AV.withinL, Bool.and_eq_true] at hu
    simp only [VHs] at h ⊢
    obtain ⟨v, us, rfl, h1, h2⟩ := h
    refine ⟨v, us, rfl, ?_, VHs.lone hu.2 h2⟩
    have := (VH.ren (ι := ι) (κ := κ) (σ := fun b => b) (U := fun _ => false) (fun b hb => by cases hb) x v hu.1).2 h1
    rwa [AV.ren_id] at this
theorem TCalls.of_OCalls {P : Program} {f : FuncId} {avs : List AV} {av : AV} {k : Blk} {α : Type} {e : Enc α} {D : List α} (F : OCalls P f (avs ++ [sS (some false) e D]) av k) (h1 : AV.withinL (fun _ => false) avs = true) :
    TCalls P f (avs ++ [.sl 0 0 D.length e.sz false]) (.cells (encC e D)) (av.ren fun _ => 1) k where
  fn := F.fn
  args := by
    refine AV.withinL_of fun x hx => ?_
    rcases List.mem_append.1 hx with hx | hx
    · exact AV.within_mono (fun b hb => by cases hb) x (AV.withinL_mem h1 x hx)
    · rw [List.mem_singleton.1 hx]; rfl
  res := AV.within_const av
  blk := encC_within _ _
  blk' := F.blk
  calls := by
    intro ι imm w M vs hHR hvs hlt hdom
    obtain ⟨r, z, hι, hni, hM, c, te, fr, q4, q5, q6, q7⟩ := hHR.blk 0 (.cells (encC e D)) rfl
    have hrlt : r < w.heap.size := by
      rcases Nat.lt_or_ge r w.heap.size with h' | h'
      · exact h'
      · rw [Array.getElem?_eq_none h'] at q4; cases q4
    let imm1 : Nat → Prop := fun k => imm k ∨ k = r
    have g : Grows ι ι imm imm1 w w := ⟨fun _ _ h => h, ⟨fun _ hk => .inl hk, fun _ _ => rfl⟩, fun r c e f hr => ⟨c, f, hr, rfl⟩⟩
    obtain ⟨us, ws, rfl, hv1, hv2⟩ := VHs.split hvs
    simp only [VHs] at hv2
    obtain ⟨v2, _, rfl, hv2, rfl⟩ := hv2
    simp only [VH] at hv2
    obtain ⟨r', z', cap, i1, i2, i3, _⟩ := hv2
    rw [hι] at i1
    simp only [Option.some.injEq, Prod.mk.injEq] at i1
    obtain ⟨rfl, rfl⟩ := i1
    have hargs : VHs (fun _ => none) imm1 w (avs ++ [sS (some false) e D]) (us ++ [v2]) := by
      refine VHs.append (VHs.lone h1 (VHs.grows g _ _ hv1)) ⟨v2, [], rfl, ?_, rfl⟩
      rw [i2]
      simp only [sS, VH, PH]
      refine ⟨_, cap, rfl, i3, fun h => (by simp at h), fun _ h => (by simp at h), fun h => (by simp at h), fun A hA _ => ?_⟩
      simp only [Option.some.injEq] at hA
      subst hA
      exact ⟨rfl, .inr rfl, PHs.of_cells (i := imm) (ι := ι) (w := w) ⟨fun _ hk => .inl hk, fun _ _ => rfl⟩ (fun o => cell_of_heap q4 o) q7⟩
    have hcall := F.calls (fun _ => none) imm1 w M (us ++ [v2]) ⟨fun b k hb => (by cases hb), fun b b' k k' r z z' hb => (by cases hb)⟩ hargs (fun k hk => hk.elim (hlt k) fun e => e ▸ hrlt) (fun b x hb => by cases hb)
    refine hcall.mono ?_
    rintro en w' ⟨v, ι', imm', rfl, p1, p2, p3, p4, p5, p6⟩
    let ι2 : Nat → Option (Nat × Nat) := fun b => if b = 1 then ι' 0 else ι b
    have e1 : ι2 1 = ι' 0 := if_pos rfl
    have none1 : ι 1 = none := by
      cases hx : ι 1 with
      | none => rfl
      | some x => have := hdom 1 x hx; simp [inI] at this
    have hempty : ∀ r, ¬ Rof (fun _ : Nat => (none : Option (Nat × Nat))) ([] : List (Nat × Blk)) r := fun r h => by obtain ⟨b, k, z, h, _⟩ := h; cases h
    refine ⟨v, ι2, imm', rfl, ?_, ⟨fun b x hb => ?_, ⟨fun k hk => p2.stays.sub k (.inl hk), fun k hk => p2.stays.same k (.inl hk)⟩, p2.rows⟩, ⟨p3.os, p3.tape, p3.output, p3.size, fun k hk _ => p3.block k hk (hempty k)⟩, ⟨fun b kk hb => ?_, fun b b' kk kk' r z z' hb hb' _ _ => ?_⟩, fun k hk => ?_, p6⟩
    · have h0 : ∀ b : Nat, (b == 0) = true → ι2 1 = ι' b := fun b hb => by
        have h0 : b = 0 := by simpa using hb
        rw [h0]; exact e1
      exact (VH.ren (ι := ι') (κ := ι2) (σ := fun _ => 1) (U := fun b => b == 0) h0 av v F.res).2 p1
    · show (if b = 1 then ι' 0 else ι b) = some x
      by_cases h : b = 1
      · rw [h, none1] at hb; cases hb
      · rw [if_neg h]; exact hb
    · have hb1 : b = 1 ∧ kk = k := by
        have : List.lookup b [(1, k)] = some kk := hb
        simp only [List.lookup] at this
        split at this
        · rename_i h; exact ⟨by simpa using h, (Option.some.inj this).symm⟩
        · cases this
      obtain ⟨rfl, rfl⟩ := hb1
      obtain ⟨r2, z2, s1, s2, s3, s4⟩ := p4.blk 0 kk rfl
      refine ⟨r2, z2, e1.trans s1, s2, .inr (s3.resolve_left (hempty r2)), ?_⟩
      have := (BlkH.ren (ι := ι') (κ := ι2) (imm := imm') (w := w') (σ := fun _ => 1) (U := fun _ => false) (fun b hb => by cases hb) (r := r2) (z := z2) F.blk).2 s4
      rwa [Blk.ren_none F.blk] at this
    · have hone : ∀ {b : Nat} {kk : Blk}, heapOf [(1, k)] b = some kk → b = 1 := fun {b kk} h => by
        have : List.lookup b [(1, k)] = some kk := h
        simp only [List.lookup] at this
        split at this
        · rename_i h; simpa using h
        · cases this
      rw [hone hb, hone hb']
    · rcases p5 k hk with h | h | h
      · rcases h with h | h
        · exact .inl h
        · exact .inr (.inl ⟨0, _, z, rfl, by rw [hι, h]⟩)
      · exact absurd h (hempty k)
      · exact .inr (.inr h)
end Go.Am
/- Ledgers once more. No conditions. -/
namespace Go.Proofs.Ytpgenmflgdkfiaa
open Go.Am
def lClone (l : Ledger) : Ledger :=
  l
theorem lClone_calls (l : Ledger) (h0 : (lDead l) = false) : NCalls Try.prog 27 [.ptr 0 0] (.cells [sS (some l.past.all.nil) eChain l.past.all.D, .pv (.lit (.int .i64 l.chain.epoch)), sS (some l.chain.members.nil) eMember l.chain.members.D, .pv (.lit (.int .i64 l.at_))]) (.ptr 1 0) (.cells [sS (some l.past.all.nil) eChain l.past.all.D, .pv (.lit (.int .i64 l.chain.epoch)), sS (some l.chain.members.nil) eMember l.chain.members.D, .pv (.lit (.int .i64 l.at_))]) (.cells [sS (some (lClone l).past.all.nil) eChain ((lClone l).past.all.D), .pv (.lit (.int .i64 ((lClone l).chain.epoch))), sS (some (lClone l).chain.members.nil) eMember ((lClone l).chain.members.D), .pv (.lit (.int .i64 ((lClone l).at_)))]) := by
 generalize hR : lClone l = R
 refine NCalls.of_body tabOk Try.func27 rfl rfl rfl rfl rfl rfl rfl rfl mixed fun E hP C hI => ?_
 refine Awp.consP C ?_
 refine rvP C (.pv (.lit (.pointer none))) ?_
 refine rvc_nil ?_
 refine Awp.seq ?_
 refine Awp.cons C (fun _ => .writer) (by kernel_rfl) ?_
 refine rvP C (.ptr 0 0) ?_
 refine rvc_un (rexec_callM hP C (b := 0) rfl rfl rfl (lDead_calls l) rfl rfl ?_)
 refine rvc_nil ?_
 refine Awp.condF (b := (lDead l)) rfl h0 ?_
 refine Awp.skip ?_
 refine Awp.consP C ?_
 refine rvP C (.ptr 0 0) ?_
 refine rvP C (.ptr 0 0) ?_
 refine rvP C (.agg [sS (some l.past.all.nil) eChain l.past.all.D, .pv (.lit (.int .i64 l.chain.epoch)), sS (some l.chain.members.nil) eMember l.chain.members.D, .pv (.lit (.int .i64 l.at_))]) ?_
 refine rvc_un (rexec_prim C (δ := { v := .ptr 3 0, new := [(3, .cells [sS (some true) eChain [], .pv (.lit (.int .i64 0)), sS (some true) eMember [], .pv (.lit (.int .i64 0))])] }) rfl rfl rfl rfl trivial rfl ?_)
 refine rvc_un (rexec_prim C (δ := { v := .undef, wr := [(3, some (.cells [sS (some l.past.all.nil) eChain l.past.all.D, .pv (.lit (.int .i64 l.chain.epoch)), sS (some l.chain.members.nil) eMember l.chain.members.D, .pv (.lit (.int .i64 l.at_))]))] }) rfl rfl rfl rfl trivial rfl ?_)
 refine rvc_nil ?_
 refine Awp.consP C ?_
 refine rvP C (.ptr 3 0) ?_
 refine rvc_nil ?_
 refine Awp.weakenR (S := [(2, .ptr 1 0)]) (H := [(0, .cells [sS (some l.past.all.nil) eChain l.past.all.D, .pv (.lit (.int .i64 l.chain.epoch)), sS (some l.chain.members.nil) eMember l.chain.members.D, .pv (.lit (.int .i64 l.at_))]), (1, .cells [sS (some l.past.all.nil) eChain l.past.all.D, .pv (.lit (.int .i64 l.chain.epoch)), sS (some l.chain.members.nil) eMember l.chain.members.D, .pv (.lit (.int .i64 l.at_))])]) (U := [0, 1]) (fun x => bif x == 1 then 3 else x) (WeakerR.ofLI (I := [0]) (Ks := [0, 1]) hI ⟨⟨rfl, rfl⟩, trivial⟩ (okH_cons rfl rfl rfl rfl (okH_cons rfl rfl rfl rfl okH_nil)) rfl rfl) ?_
 refine Awp.ret ?_
 subst hR
 exact ⟨.inl rfl, rfl, rfl, rfl⟩
def cloneDosO (s : (Sl Do)) : List Do :=
  s.D
theorem cloneDosO_calls (s : (Sl Do)) (hn : s.nil = false) (hl1 : s.D.length ≤ 1000000) : OCalls Try.prog 28 [sS (some s.nil) eDo s.D] (.sl 0 0 (cloneDosO s).length 8 false) (.cells (encC eDo (cloneDosO s))) := by
 generalize hR : cloneDosO s = R
 refine OCalls.of_body tabOk Try.func28 rfl rfl rfl rfl rfl (encC_within _ _) mixed fun E hP C hI => ?_
 refine Awp.consP C ?_
 refine rvP C (sS (some true) eDo []) ?_
 refine rvc_nil ?_
 refine Awp.seq ?_
 refine Awp.consP C ?_
 refine rvP C (sS (some s.nil) eDo s.D) ?_
 refine rvc_un (rexec_eqNil C (f := s.nil) rfl rfl rfl rfl ?_)
 refine rvc_nil ?_
 refine Awp.condF (b := s.nil) rfl hn ?_
 refine Awp.skip ?_
 refine Awp.consP C ?_
 refine rvc_un (rexec_prim C (δ := { v := .sl 5 0 0 8 true, new := [(5, .cells (encC eDo []))] }) rfl rfl rfl rfl trivial rfl ?_)
 refine rvP C (sS (some s.nil) eDo s.D) ?_
 refine rvc_un (rexec_append C rfl rfl rfl rfl rfl rfl rfl rfl (fun _ h => by cases h) rfl (en := eDo) (D0 := []) (D := s.D) rfl rfl rfl rfl (by first | omega | (simp <;> omega)) (by decide) (nn := s.D.length) (by simp) ?_)
 refine rvP C (.sl 7 0 s.D.length 8 false) ?_
 refine rvc_nil ?_
 refine Awp.weakenR (S := [(2, .sl 0 0 s.D.length 8 false)]) (H := [(0, .cells (encC eDo s.D))]) (U := [0]) (fun x => bif x == 0 then 7 else x) (WeakerR.ofL (Ks := [0]) hI ⟨⟨rfl, rfl⟩, trivial⟩ (okH_list rfl rfl rfl okH_nil) rfl) ?_
 refine Awp.ret ?_
 subst hR
 exact ⟨.inl rfl, rfl, rfl⟩
theorem cloneDosN_calls (s : Sl Do) (hn : s.nil = true) (hl : s.D.length ≤ 1000000) : PCalls Try.prog 28 [sS (some s.nil) eDo s.D] (sS (some true) eDo []) := by
  have r := cloneDos_calls s hl
  rw [show cloneDos s = Sl.mk true [] by unfold cloneDos; rw [hn]; rfl] at r
  exact r
theorem apply_okN {g : Ledger} {N n : Nat} (h : okL g) (ha : g.past.all.D.length ≤ N + n) {i : Int} {d : Sl Int} : okL (lApply g i d).1 ∧ (lApply g i d).1.past.all.D.length ≤ N + (n + 1) :=
  ⟨apply_okL h i d, by have := apply_all g i d; omega⟩
end Go.Proofs.Ytpgenmflgdkfiaa
/- Law: ledgers alike. No conditions. -/
namespace Go.Proofs.Ytpgenmflgdkfiaa
open Go.Am
def lawAlike_l0 (m : (Sl Member)) (l : (Sl Do)) (more : (Sl Do)) : List Do → Nat → Ledger → Bool
  | [], _, vc => (bif l.nil then (bif more.D.isEmpty then (bif (same (lChain (made m l)) (lChain (lClone (made m l)))) then (bif ((lAt (made m l)) == (lAt (lClone (made m l)))) then (bif (same (lChain vc) (lChain (made m (Sl.mk true [])))) then (bif ((lAt vc) == (lAt (made m (Sl.mk true [])))) then (awake ) else false) else false) else false) else false) else (bif (same (lChain (made m l)) (lChain (lClone (made m l)))) then (bif ((lAt (made m l)) == (lAt (lClone (made m l)))) then (bif (same (lChain vc) (lChain (made m (Sl.mk false more.D)))) then (bif ((lAt vc) == (lAt (made m (Sl.mk false more.D)))) then (awake ) else false) else false) else false) else false)) else (bif (same (lChain (made m l)) (lChain (lClone (made m l)))) then (bif ((lAt (made m l)) == (lAt (lClone (made m l)))) then (bif (same (lChain vc) (lChain (made m (Sl.mk false (l.D ++ more.D))))) then (bif ((lAt vc) == (lAt (made m (Sl.mk false (l.D ++ more.D))))) then (awake ) else false) else false) else false) else false))
  | x :: xs, i, vc => lawAlike_l0 m l more xs (i + 1) ((lApply vc (doIndex x (lAt vc)) (doData x ((lChain vc).epoch))).1)
def lawAlike (m : (Sl Member)) (l : (Sl Do)) (more : (Sl Do)) : Bool :=
  (bif (decide ((m.D.length : Int) > 60)) then (awake ) else (bif (!(short (Sl.mk false [l, more]))) then (awake ) else (bif (((firstC m).2) != 0) then (awake ) else lawAlike_l0 m l more more.D 0 (made m l))))
theorem lawAlike_calls (m : (Sl Member)) (l : (Sl Do)) (more : (Sl Do)) (hl1 : m.D.length ≤ 9223372036854775807) (hl2 : more.D.length ≤ 9223372036854775807) : PCalls Try.prog 6 [sS (some m.nil) eMember m.D, sS (some l.nil) eDo l.D, sS (some more.nil) eDo more.D] (.pv (.lit (.bool (lawAlike m l more)))) := by
 generalize hR : lawAlike m l more = R
 refine PCalls.of_body tabOk Try.func6 rfl rfl rfl rfl rfl mixed fun E hP C hI => ?_
 refine Awp.consP C ?_
 refine rvP C (.pv (.lit (.bool false))) ?_
 refine rvc_nil ?_
 refine Awp.seq ?_
 refine Awp.consP C ?_
 refine rvP C (sS (some m.nil) eMember m.D) ?_
 refine rvP C (.pv (.lit (.int .i64 (m.D.length : Int)))) ?_
 refine rvP C (.pv (.lit (.bool (decide ((m.D.length : Int) > 60))))) ?_
 refine rvP C (.pv (.lit (.bool (decide ((m.D.length : Int) > 60))))) ?_
 refine rvc_case 18 (decide ((m.D.length : Int) > 60)) rfl (fun h1 => ?_) (fun h1 => ?_)
 ·
  replace hR := of_true h1 hR
  refine rvS ?_
  refine rvS ?_
  refine rvS ?_
  refine rvS ?_
  refine rvS ?_
  refine rvP C (.pv (.lit (.bool true))) ?_
  refine rvc_nil ?_
  refine Awp.condT (b := true) rfl rfl ?_
  refine Awp.consP C ?_
  refine rvc_un (rexec_call hP C rfl rfl rfl (awake_calls ) ?_)
  refine rvP C (.pv (.lit (.bool (awake )))) ?_
  refine rvc_nil ?_
  refine Awp.ret ?_
  subst hR
  exact ⟨.inl rfl, rfl⟩
 ·
  replace hR := of_false h1 hR
  refine rvO C (sS (some l.nil) eDo l.D) ?_
  refine rvO C (sS (some more.nil) eDo more.D) ?_
  refine rvc_open rfl rfl rfl (rexec_buildSliceF C (eSl eDo) [l, more] rfl rfl rfl rfl rfl rfl rfl (by decide) rfl ?_)
  refine rvc_open rfl rfl rfl (rexec_call hP C rfl rfl rfl (short_calls (Sl.mk false [l, more]) (by simp)) ?_)
  refine rvO C (.pv (.lit (.bool (!(short (Sl.mk false [l, more])))))) ?_
  refine rvP C (.pv (.lit (.bool (!(short (Sl.mk false [l, more])))))) ?_
  refine rvc_nil ?_
  refine Awp.cond (b := (!(short (Sl.mk false [l, more])))) rfl (fun h2 => ?_) (fun h2 => ?_)
  ·
   replace hR := of_true h2 hR
   refine Awp.consP C ?_
   refine rvc_un (rexec_call hP C rfl rfl rfl (awake_calls ) ?_)
   refine rvP C (.pv (.lit (.bool (awake )))) ?_
   refine rvc_nil ?_
   refine Awp.ret ?_
   subst hR
   exact ⟨.inl rfl, rfl⟩
  ·
   replace hR := of_false h2 hR
   refine Awp.skip ?_
   refine Awp.seq ?_
   refine Awp.cons C (fun _ => .quiet) (by kernel_rfl) ?_
   refine rvP C (sS (some m.nil) eMember m.D) ?_
   rcases Bool.eq_false_or_eq_true (((firstC m).2) != 0) with h3 | h3
   ·
    replace hR := of_true h3 hR
    refine rvc_un (rexec_call hP C rfl rfl rfl (newNil_calls m h3 (by have := of_decide_eq_false ‹decide ((m.D.length : Int) > 60) = false›; omega)) ?_)
    refine rvP C (.tup [.pv (.lit (.pointer none)), .pv (.lit (.int .i64 ((newNil m).2)))]) ?_
    refine rvP C (.pv (.lit (.pointer none))) ?_
    refine rvP C (.pv (.lit (.int .i64 ((newNil m).2)))) ?_
    refine rvP C (.pv (.lit (.pointer none))) ?_
    refine rvP C (.pv (.lit (.int .i64 ((newNil m).2)))) ?_
    refine rvc_nil ?_
    refine Awp.consP C ?_
    refine rvP C (.pv (.lit (.int .i64 ((newNil m).2)))) ?_
    refine rvP C (.pv (.lit (.bool (((newNil m).2) != 0)))) ?_
    refine rvc_nil ?_
    refine Awp.condT (b := (((newNil m).2) != 0)) rfl h3 ?_
    refine Awp.consP C ?_
    refine rvc_un (rexec_call hP C rfl rfl rfl (awake_calls ) ?_)
    refine rvP C (.pv (.lit (.bool (awake )))) ?_
    refine rvc_nil ?_
    refine Awp.ret ?_
    subst hR
    exact ⟨.inl rfl, rfl⟩
   ·
    replace hR := of_false h3 hR
    refine rvc_un (rexec_callO hP C rfl rfl rfl rfl (newL_calls m h3 (by have := of_decide_eq_false ‹decide ((m.D.length : Int) > 60) = false›; omega)) ?_)
    refine rvP C (.tup [.ptr 28 0, .pv (.lit (.int .i64 ((newL m).2)))]) ?_
    refine rvP C (.ptr 28 0) ?_
    refine rvP C (.pv (.lit (.int .i64 ((newL m).2)))) ?_
    refine rvP C (.ptr 28 0) ?_
    refine rvP C (.pv (.lit (.int .i64 ((newL m).2)))) ?_
    refine rvc_nil ?_
    refine Awp.consP C ?_
    refine rvP C (.pv (.lit (.int .i64 ((newL m).2)))) ?_
    refine rvP C (.pv (.lit (.bool (((newL m).2) != 0)))) ?_
    refine rvc_nil ?_
    refine Awp.condF (b := (((newL m).2) != 0)) rfl (newL_e m) ?_
    refine Awp.skip ?_
    refine Awp.cons C (fun _ => .quiet) (by kernel_rfl) ?_
    refine rvP C (sS (some m.nil) eMember m.D) ?_
    refine rvP C (sS (some l.nil) eDo l.D) ?_
    refine rvc_un (rexec_callO hP C rfl rfl rfl rfl (made_calls m l (by assumption) (Nat.le_trans (short_ok ‹(!(short (Sl.mk false [l, more]))) = false› l (by simp)).1 (by decide)) (fun x hx => Nat.le_trans ((short_ok ‹(!(short (Sl.mk false [l, more]))) = false› l (by simp)).2 x hx) (by decide)) (by have := of_decide_eq_false ‹decide ((m.D.length : Int) > 60) = false›; omega) (Nat.le_trans (short_ok ‹(!(short (Sl.mk false [l, more]))) = false› l (by simp)).1 (by decide))) ?_)
    refine rvP C (sS (some m.nil) eMember m.D) ?_
    refine rvP C (sS (some l.nil) eDo l.D) ?_
    refine rvc_un (rexec_callO hP C rfl rfl rfl rfl (made_calls m l (by assumption) (Nat.le_trans (short_ok ‹(!(short (Sl.mk false [l, more]))) = false› l (by simp)).1 (by decide)) (fun x hx => Nat.le_trans ((short_ok ‹(!(short (Sl.mk false [l, more]))) = false› l (by simp)).2 x hx) (by decide)) (by have := of_decide_eq_false ‹decide ((m.D.length : Int) > 60) = false›; omega) (Nat.le_trans (short_ok ‹(!(short (Sl.mk false [l, more]))) = false› l (by simp)).1 (by decide))) ?_)
    refine rvP C (.ptr 36 0) ?_
    refine rvP C (.ptr 39 0) ?_
    refine rvc_nil ?_
    refine Awp.cons C (fun _ => .writer) (by kernel_rfl) ?_
    refine rvP C (.ptr 36 0) ?_
    refine rvc_un (rexec_callN hP C (b := 36) rfl rfl rfl rfl (lClone_calls (made m l) (made_lived (m := m) (l := l) (eq_of_bne_false (by assumption)) (Nat.le_trans (short_ok ‹(!(short (Sl.mk false [l, more]))) = false› l (by simp)).1 (by decide))).dead) rfl rfl ?_)
    refine rvP C (.ptr 41 0) ?_
    refine rvc_nil ?_
    refine Awp.seq ?_
    refine Awp.consP C ?_
    refine rvP C (sS (some more.nil) eDo more.D) ?_
    refine rvP C (.pv (.lit (.int .i64 (more.D.length : Int)))) ?_
    refine rvP C (.pv (.lit (.int .i64 0))) ?_
    refine rvc_nil ?_
    refine Awp.block ?_
    refine Awp.forR (σ := Ledger) (more.D.length) (fun i v => [(0, sS (some m.nil) eMember m.D), (1, sS (some l.nil) eDo l.D), (2, sS (some more.nil) eDo more.D), (9, .ptr 36 0), (10, .ptr 39 0), (11, .ptr 41 0), (42, sS (some more.nil) eDo more.D), (43, .pv (.lit (.int .i64 (more.D.length : Int)))), (44, .pv (.lit (.int .i64 (i : Int))))]) (fun i v => [(36, .cells [sS (some v.past.all.nil) eChain v.past.all.D, .pv (.lit (.int .i64 v.chain.epoch)), sS (some v.chain.members.nil) eMember v.chain.members.D, .pv (.lit (.int .i64 v.at_))]), (39, .cells [sS (some (made m l).past.all.nil) eChain ((made m l).past.all.D), .pv (.lit (.int .i64 ((made m l).chain.epoch))), sS (some (made m l).chain.members.nil) eMember ((made m l).chain.members.D), .pv (.lit (.int .i64 ((made m l).at_)))]), (41, .cells [sS (some (lClone (made m l)).past.all.nil) eChain ((lClone (made m l)).past.all.D), .pv (.lit (.int .i64 ((lClone (made m l)).chain.epoch))), sS (some (lClone (made m l)).chain.members.nil) eMember ((lClone (made m l)).chain.members.D), .pv (.lit (.int .i64 ((lClone (made m l)).at_)))])]) [36, 39, 41] (fun i v => (lawAlike_l0 m l more (more.D.drop i) i v = R) ∧ (okL v ∧ v.past.all.D.length ≤ (1 + l.D.length) + i)) (made m l) ?_ ?_ (fun i vc h4 hR => ?_)
    · exact ⟨hR, (made_ok m l (by have := of_decide_eq_false ‹decide ((m.D.length : Int) > 60) = false›; omega))⟩
    · exact ⟨fun b => b, WeakerR.ofL (Ks := [36, 39, 41]) hI ⟨⟨rfl, rfl⟩, ⟨rfl, rfl⟩, ⟨rfl, rfl⟩, ⟨rfl, rfl⟩, ⟨rfl, rfl⟩, ⟨rfl, rfl⟩, ⟨rfl, rfl⟩, ⟨rfl, rfl⟩, ⟨rfl, rfl⟩, trivial⟩ (okH_cons rfl rfl rfl rfl (okH_cons rfl rfl rfl rfl (okH_cons rfl rfl rfl rfl (okH_nil)))) rfl⟩
    obtain ⟨hR, ⟨hVk, hVa⟩⟩ := hR
    refine Awp.consP C ?_
    refine rvP C (.pv (.lit (.bool (decide ((i : Int) < (more.D.length : Int)))))) ?_
    refine rvc_nil ?_
    refine Awp.seq ?_
    refine Awp.cond (b := (decide ((i : Int) < (more.D.length : Int)))) rfl (fun h5 => ?_) (fun h5 => ?_)
    ·
     have h6 : i < more.D.length := by have := of_decide_eq_true h5; omega
     obtain ⟨x, h7⟩ := getX h6
     rw [drop_at h7] at hR
     refine Awp.skip ?_
     refine Awp.seq ?_
     refine Awp.block ?_
     refine Awp.consP C ?_
     refine rvc_un (rexec_idxS C rfl rfl rfl rfl rfl rfl x (Int.natCast_nonneg _) h7 ?_)
     refine rvP C (.agg [.pv (.lit (.int .i64 x.c.kind)), .pv (.lit (.int .i64 x.c.node)), .pv (.lit (.int .i64 x.c.site)), .pv (.lit (.int .i64 x.c.epoch)), sS (some x.b.nil) (eI .u8) x.b.D, .pv (.lit (.bool x.raw)), .pv (.lit (.int .i64 x.by_)), .pv (.lit (.int .i64 x.off))]) ?_
     refine rvc_un (rexec_prim C (δ := { v := .ptr 13 0, new := [(13, .cells [.pv (.lit (.int .i64 0)), .pv (.lit (.int .i64 0)), .pv (.lit (.int .i64 0)), .pv (.lit (.int .i64 0)), sS (some true) (eI .u8) [], .pv (.lit (.bool false)), .pv (.lit (.int .i64 0)), .pv (.lit (.int .i64 0))])] }) rfl rfl rfl rfl trivial rfl ?_)
     refine rvc_un (rexec_prim C (δ := { v := .undef, wr := [(13, some (.cells [.pv (.lit (.int .i64 x.c.kind)), .pv (.lit (.int .i64 x.c.node)), .pv (.lit (.int .i64 x.c.site)), .pv (.lit (.int .i64 x.c.epoch)), sS (some x.b.nil) (eI .u8) x.b.D, .pv (.lit (.bool x.raw)), .pv (.lit (.int .i64 x.by_)), .pv (.lit (.int .i64 x.off))]))] }) rfl rfl rfl rfl trivial rfl ?_)
     refine rvc_nil ?_
     refine Awp.region C (fun o => match o.dst with | some 49 => .reads [13] | some 51 => .writes [36] | some 53 => .reads [13] | some 55 => .writes [36] | some 58 => .writes [36] | _ => .pure) (by kernel_rfl) ?_
     refine rvP C (.ptr 36 0) ?_
     refine rvP C (.agg [.pv (.lit (.int .i64 x.c.kind)), .pv (.lit (.int .i64 x.c.node)), .pv (.lit (.int .i64 x.c.site)), .pv (.lit (.int .i64 x.c.epoch)), sS (some x.b.nil) (eI .u8) x.b.D, .pv (.lit (.bool x.raw)), .pv (.lit (.int .i64 x.by_)), .pv (.lit (.int .i64 x.off))]) ?_
     refine rvP C (.ptr 36 0) ?_
     refine rvc_un (rexec_callM hP C (b := 36) rfl rfl rfl (lAt_calls vc) rfl rfl ?_)
     refine rvc_un (rexec_call hP C rfl rfl rfl (doIndex_calls x (lAt vc)) ?_)
     refine rvP C (.agg [.pv (.lit (.int .i64 x.c.kind)), .pv (.lit (.int .i64 x.c.node)), .pv (.lit (.int .i64 x.c.site)), .pv (.lit (.int .i64 x.c.epoch)), sS (some x.b.nil) (eI .u8) x.b.D, .pv (.lit (.bool x.raw)), .pv (.lit (.int .i64 x.by_)), .pv (.lit (.int .i64 x.off))]) ?_
     refine rvP C (.ptr 36 0) ?_
     refine rvc_un (rexec_callM hP C (b := 36) rfl rfl rfl (lChain_calls vc hVk.2.1) rfl rfl ?_)
     refine rvP C (.pv (.lit (.int .i64 ((lChain vc).epoch)))) ?_
     refine rvc_un (rexec_call hP C rfl rfl rfl (doData_calls x ((lChain vc).epoch)) ?_)
     refine rvc_un (rexec_callM hP C (b := 36) rfl rfl rfl (lApply_calls vc (doIndex x (lAt vc)) (doData x ((lChain vc).epoch)) hVk.1 (data_len x _ (Nat.le_trans ((short_ok ‹(!(short (Sl.mk false [l, more]))) = false› more (by simp)).2 x (List.mem_of_getElem? (by assumption))) (by decide))) hVk.2.1 (by have h1_ := (short_ok ‹(!(short (Sl.mk false [l, more]))) = false› l (by simp)).1; have h2_ := (short_ok ‹(!(short (Sl.mk false [l, more]))) = false› more (by simp)).1; omega)) rfl rfl ?_)
     refine rvc_nil ?_
     refine Awp.regionP C ?_
     refine rvP C (.pv (.lit (.int .i64 (IntKind.i64.wrap ((i : Int) + 1))))) ?_
     refine rvP C (.pv (.lit (.int .i64 (IntKind.i64.wrap ((i : Int) + 1))))) ?_
     refine rvc_nil ?_
     refine ⟨h6, (lApply vc (doIndex x (lAt vc)) (doData x ((lChain vc).epoch))).1, ?_, ?_⟩
     · exact ⟨hR, (apply_okN hVk hVa)⟩
     · exact ⟨fun b => b, WeakerR.ofL (Ks := [36, 39, 41]) hI ⟨⟨rfl, rfl⟩, ⟨rfl, rfl⟩, ⟨rfl, rfl⟩, ⟨rfl, rfl⟩, ⟨rfl, rfl⟩, ⟨rfl, rfl⟩, ⟨rfl, rfl⟩, ⟨rfl, rfl⟩, ⟨lit_cast (wrap_i64 (by omega) (by omega)), rfl⟩, trivial⟩ (okH_cons rfl rfl rfl rfl (okH_cons rfl rfl rfl rfl (okH_cons rfl rfl rfl rfl (okH_nil)))) rfl⟩
    ·
     have h6 : ¬ i < more.D.length := by have := of_decide_eq_false h5; omega
     rw [drop_end h6] at hR
     refine Awp.exit ?_
     refine Awp.cons C (fun _ => .writer) (by kernel_rfl) ?_
     refine rvP C (sS (some m.nil) eMember m.D) ?_
     refine rvP C (sS (some l.nil) eDo l.D) ?_
     rcases Bool.eq_false_or_eq_true l.nil with h8 | h8
     ·
      replace hR := of_true h8 hR
      refine rvc_un (rexec_call hP C rfl rfl rfl (cloneDosN_calls l h8 (Nat.le_trans (short_ok ‹(!(short (Sl.mk false [l, more]))) = false› l (by simp)).1 (by decide))) ?_)
      refine rvP C (sS (some more.nil) eDo more.D) ?_
      rcases Bool.eq_false_or_eq_true more.D.isEmpty with h9 | h9
      ·
       replace hR := of_true h9 hR
       refine rvc_un (rexec_append00 C rfl rfl rfl rfl rfl rfl rfl (fun _ h => by cases h) (by decide) (en := eDo) (D := more.D) rfl (List.isEmpty_iff.1 h9) ?_)
       refine rvc_un (rexec_callO hP C rfl rfl rfl rfl (made_calls m (Sl.mk true []) (by assumption) (by first | exact Nat.zero_le _ | exact Nat.le_trans (short_ok ‹(!(short (Sl.mk false [l, more]))) = false› more (by simp)).1 (by decide) | (show (l.D ++ more.D).length ≤ 1000; rw [List.length_append]; have h1_ := (short_ok ‹(!(short (Sl.mk false [l, more]))) = false› l (by simp)).1; have h2_ := (short_ok ‹(!(short (Sl.mk false [l, more]))) = false› more (by simp)).1; omega)) (by first | (intro x hx; cases hx; done) | exact fun x hx => Nat.le_trans ((short_ok ‹(!(short (Sl.mk false [l, more]))) = false› more (by simp)).2 x hx) (by decide) | exact fun x hx => (List.mem_append.1 hx).elim (fun hx => Nat.le_trans ((short_ok ‹(!(short (Sl.mk false [l, more]))) = false› l (by simp)).2 x hx) (by decide)) (fun hx => Nat.le_trans ((short_ok ‹(!(short (Sl.mk false [l, more]))) = false› more (by simp)).2 x hx) (by decide))) (by have := of_decide_eq_false ‹decide ((m.D.length : Int) > 60) = false›; omega) (Nat.zero_le _)) ?_)
       refine rvP C (.ptr 65 0) ?_
       refine rvc_nil ?_
       refine Awp.cons C (fun _ => .writer) (by kernel_rfl) ?_
       refine rvP C (.ptr 39 0) ?_
       refine rvc_un (rexec_callM hP C (b := 39) rfl rfl rfl (lChain_calls (made m l) (made_ok m _ (by have := of_decide_eq_false ‹decide ((m.D.length : Int) > 60) = false›; omega)).1.2.1) rfl rfl ?_)
       refine rvP C (.ptr 41 0) ?_
       refine rvc_un (rexec_callM hP C (b := 41) rfl rfl rfl (lChain_calls (lClone (made m l)) (made_ok m _ (by have := of_decide_eq_false ‹decide ((m.D.length : Int) > 60) = false›; omega)).1.2.1) rfl rfl ?_)
       refine rvc_un (rexec_call hP C rfl rfl rfl (same_calls (lChain (made m l)) (lChain (lClone (made m l))) (Nat.le_trans (lChain_len (made_ok m _ (by have := of_decide_eq_false ‹decide ((m.D.length : Int) > 60) = false›; omega)).1) (by decide))) ?_)
       refine rvP C (.pv (.lit (.bool (same (lChain (made m l)) (lChain (lClone (made m l))))))) ?_
       refine rvc_case 71 (same (lChain (made m l)) (lChain (lClone (made m l)))) rfl (fun h10 => ?_) (fun h10 => ?_)
       ·
        replace hR := of_true h10 hR
        refine rvO C (.ptr 39 0) ?_
        refine rvc_open rfl rfl rfl (rexec_callM hP C (b := 39) rfl rfl rfl (lAt_calls (made m l)) rfl rfl ?_)
        refine rvO C (.ptr 41 0) ?_
        refine rvc_open rfl rfl rfl (rexec_callM hP C (b := 41) rfl rfl rfl (lAt_calls (lClone (made m l))) rfl rfl ?_)
        refine rvO C (.pv (.lit (.bool ((lAt (made m l)) == (lAt (lClone (made m l))))))) ?_
        refine rvP C (.pv (.lit (.bool ((lAt (made m l)) == (lAt (lClone (made m l))))))) ?_
        refine rvP C (.pv (.lit (.bool ((lAt (made m l)) == (lAt (lClone (made m l))))))) ?_
        refine rvc_case 78 ((lAt (made m l)) == (lAt (lClone (made m l)))) rfl (fun h11 => ?_) (fun h11 => ?_)
        ·
         replace hR := of_true h11 hR
         refine rvO C (.ptr 36 0) ?_
         refine rvc_open rfl rfl rfl (rexec_callM hP C (b := 36) rfl rfl rfl (lChain_calls vc hVk.2.1) rfl rfl ?_)
         refine rvO C (.ptr 65 0) ?_
         refine rvc_open rfl rfl rfl (rexec_callM hP C (b := 65) rfl rfl rfl (lChain_calls (made m (Sl.mk true [])) (made_ok m _ (by have := of_decide_eq_false ‹decide ((m.D.length : Int) > 60) = false›; omega)).1.2.1) rfl rfl ?_)
         refine rvc_open rfl rfl rfl (rexec_call hP C rfl rfl rfl (same_calls (lChain vc) (lChain (made m (Sl.mk true []))) (Nat.le_trans (lChain_len hVk) (by decide))) ?_)
         refine rvP C (.pv (.lit (.bool (same (lChain vc) (lChain (made m (Sl.mk true []))))))) ?_
         refine rvP C (.pv (.lit (.bool (same (lChain vc) (lChain (made m (Sl.mk true []))))))) ?_
         refine rvc_case 85 (same (lChain vc) (lChain (made m (Sl.mk true [])))) rfl (fun h12 => ?_) (fun h12 => ?_)
         ·
          replace hR := of_true h12 hR
          refine rvO C (.ptr 36 0) ?_
          refine rvc_open rfl rfl rfl (rexec_callM hP C (b := 36) rfl rfl rfl (lAt_calls vc) rfl rfl ?_)
          refine rvO C (.ptr 65 0) ?_
          refine rvc_open rfl rfl rfl (rexec_callM hP C (b := 65) rfl rfl rfl (lAt_calls (made m (Sl.mk true []))) rfl rfl ?_)
          refine rvO C (.pv (.lit (.bool ((lAt vc) == (lAt (made m (Sl.mk true []))))))) ?_
          refine rvP C (.pv (.lit (.bool ((lAt vc) == (lAt (made m (Sl.mk true []))))))) ?_
          refine rvP C (.pv (.lit (.bool ((lAt vc) == (lAt (made m (Sl.mk true []))))))) ?_
          refine rvc_case 92 ((lAt vc) == (lAt (made m (Sl.mk true [])))) rfl (fun h13 => ?_) (fun h13 => ?_)
          ·
           replace hR := of_true h13 hR
           refine rvc_open rfl rfl rfl (rexec_call hP C rfl rfl rfl (awake_calls ) ?_)
           refine rvP C (.pv (.lit (.bool (awake )))) ?_
           refine rvP C (.pv (.lit (.bool (awake )))) ?_
           refine rvc_nil ?_
           refine Awp.ret ?_
           subst hR
           exact ⟨.inl rfl, rfl⟩
          ·
           replace hR := of_false h13 hR
           refine rvS ?_
           refine rvP C (.pv (.lit (.bool false))) ?_
           refine rvP C (.pv (.lit (.bool false))) ?_
           refine rvc_nil ?_
           refine Awp.ret ?_
           subst hR
           exact ⟨.inl rfl, rfl⟩
         ·
          replace hR := of_false h12 hR
          refine rvS ?_
          refine rvS ?_
          refine rvS ?_
          refine rvS ?_
          refine rvS ?_
          refine rvP C (.pv (.lit (.bool false))) ?_
          refine rvP C (.pv (.lit (.bool false))) ?_
          refine rvS ?_
          refine rvP C (.pv (.lit (.bool false))) ?_
          refine rvP C (.pv (.lit (.bool false))) ?_
          refine rvc_nil ?_
          refine Awp.ret ?_
          subst hR
          exact ⟨.inl rfl, rfl⟩
        ·
         replace hR := of_false h11 hR
         refine rvS ?_
         refine rvS ?_
         refine rvS ?_
         refine rvS ?_
         refine rvS ?_
         refine rvP C (.pv (.lit (.bool false))) ?_
         refine rvP C (.pv (.lit (.bool false))) ?_
         refine rvS ?_
         refine rvS ?_
         refine rvS ?_
         refine rvS ?_
         refine rvS ?_
         refine rvP C (.pv (.lit (.bool false))) ?_
         refine rvP C (.pv (.lit (.bool false))) ?_
         refine rvS ?_
         refine rvP C (.pv (.lit (.bool false))) ?_
         refine rvP C (.pv (.lit (.bool false))) ?_
         refine rvc_nil ?_
         refine Awp.ret ?_
         subst hR
         exact ⟨.inl rfl, rfl⟩
       ·
        replace hR := of_false h10 hR
        refine rvS ?_
        refine rvS ?_
        refine rvS ?_
        refine rvS ?_
        refine rvS ?_
        refine rvP C (.pv (.lit (.bool false))) ?_
        refine rvP C (.pv (.lit (.bool false))) ?_
        refine rvS ?_
        refine rvS ?_
        refine rvS ?_
        refine rvS ?_
        refine rvS ?_
        refine rvP C (.pv (.lit (.bool false))) ?_
        refine rvP C (.pv (.lit (.bool false))) ?_
        refine rvS ?_
        refine rvS ?_
        refine rvS ?_
        refine rvS ?_
        refine rvS ?_
        refine rvP C (.pv (.lit (.bool false))) ?_
        refine rvP C (.pv (.lit (.bool false))) ?_
        refine rvS ?_
        refine rvP C (.pv (.lit (.bool false))) ?_
        refine rvP C (.pv (.lit (.bool false))) ?_
        refine rvc_nil ?_
        refine Awp.ret ?_
        subst hR
        exact ⟨.inl rfl, rfl⟩
      ·
       replace hR := of_false h9 hR
       refine rvc_un (rexec_appendN C rfl rfl rfl rfl rfl rfl rfl rfl (fun _ h => by cases h) rfl (en := eDo) (D := more.D) rfl rfl (List.length_pos_iff.2 (by simpa using ‹more.D.isEmpty = false›)) (by have h1_ := (short_ok ‹(!(short (Sl.mk false [l, more]))) = false› l (by simp)).1; have h2_ := (short_ok ‹(!(short (Sl.mk false [l, more]))) = false› more (by simp)).1; simp; omega) (by decide) (nn := more.D.length) rfl ?_)
       refine rvc_un (rexec_callT hP C (b := 64) rfl rfl rfl rfl (TCalls.of_OCalls (avs := [sS (some m.nil) eMember m.D]) (e := eDo) (D := more.D) (made_calls m (Sl.mk false more.D) (by assumption) (by first | exact Nat.zero_le _ | exact Nat.le_trans (short_ok ‹(!(short (Sl.mk false [l, more]))) = false› more (by simp)).1 (by decide) | (show (l.D ++ more.D).length ≤ 1000; rw [List.length_append]; have h1_ := (short_ok ‹(!(short (Sl.mk false [l, more]))) = false› l (by simp)).1; have h2_ := (short_ok ‹(!(short (Sl.mk false [l, more]))) = false› more (by simp)).1; omega)) (by first | (intro x hx; cases hx; done) | exact fun x hx => Nat.le_trans ((short_ok ‹(!(short (Sl.mk false [l, more]))) = false› more (by simp)).2 x hx) (by decide) | exact fun x hx => (List.mem_append.1 hx).elim (fun hx => Nat.le_trans ((short_ok ‹(!(short (Sl.mk false [l, more]))) = false› l (by simp)).2 x hx) (by decide)) (fun hx => Nat.le_trans ((short_ok ‹(!(short (Sl.mk false [l, more]))) = false› more (by simp)).2 x hx) (by decide))) (by have := of_decide_eq_false ‹decide ((m.D.length : Int) > 60) = false›; omega) (Nat.le_trans (short_ok ‹(!(short (Sl.mk false [l, more]))) = false› more (by simp)).1 (by decide))) rfl) rfl rfl ?_)
       refine rvP C (.ptr 65 0) ?_
       refine rvc_nil ?_
       refine Awp.cons C (fun _ => .writer) (by kernel_rfl) ?_
       refine rvP C (.ptr 39 0) ?_
       refine rvc_un (rexec_callM hP C (b := 39) rfl rfl rfl (lChain_calls (made m l) (made_ok m _ (by have := of_decide_eq_false ‹decide ((m.D.length : Int) > 60) = false›; omega)).1.2.1) rfl rfl ?_)
       refine rvP C (.ptr 41 0) ?_
       refine rvc_un (rexec_callM hP C (b := 41) rfl rfl rfl (lChain_calls (lClone (made m l)) (made_ok m _ (by have := of_decide_eq_false ‹decide ((m.D.length : Int) > 60) = false›; omega)).1.2.1) rfl rfl ?_)
       refine rvc_un (rexec_call hP C rfl rfl rfl (same_calls (lChain (made m l)) (lChain (lClone (made m l))) (Nat.le_trans (lChain_len (made_ok m _ (by have := of_decide_eq_false ‹decide ((m.D.length : Int) > 60) = false›; omega)).1) (by decide))) ?_)
       refine rvP C (.pv (.lit (.bool (same (lChain (made m l)) (lChain (lClone (made m l))))))) ?_
       refine rvc_case 71 (same (lChain (made m l)) (lChain (lClone (made m l)))) rfl (fun h14 => ?_) (fun h14 => ?_)
       ·
        replace hR := of_true h14 hR
        refine rvO C (.ptr 39 0) ?_
        refine rvc_open rfl rfl rfl (rexec_callM hP C (b := 39) rfl rfl rfl (lAt_calls (made m l)) rfl rfl ?_)
        refine rvO C (.ptr 41 0) ?_
        refine rvc_open rfl rfl rfl (rexec_callM hP C (b := 41) rfl rfl rfl (lAt_calls (lClone (made m l))) rfl rfl ?_)
        refine rvO C (.pv (.lit (.bool ((lAt (made m l)) == (lAt (lClone (made m l))))))) ?_
        refine rvP C (.pv (.lit (.bool ((lAt (made m l)) == (lAt (lClone (made m l))))))) ?_
        refine rvP C (.pv (.lit (.bool ((lAt (made m l)) == (lAt (lClone (made m l))))))) ?_
        refine rvc_case 78 ((lAt (made m l)) == (lAt (lClone (made m l)))) rfl (fun h15 => ?_) (fun h15 => ?_)
        ·
         replace hR := of_true h15 hR
         refine rvO C (.ptr 36 0) ?_
         refine rvc_open rfl rfl rfl (rexec_callM hP C (b := 36) rfl rfl rfl (lChain_calls vc hVk.2.1) rfl rfl ?_)
         refine rvO C (.ptr 65 0) ?_
         refine rvc_open rfl rfl rfl (rexec_callM hP C (b := 65) rfl rfl rfl (lChain_calls (made m (Sl.mk false more.D)) (made_ok m _ (by have := of_decide_eq_false ‹decide ((m.D.length : Int) > 60) = false›; omega)).1.2.1) rfl rfl ?_)
         refine rvc_open rfl rfl rfl (rexec_call hP C rfl rfl rfl (same_calls (lChain vc) (lChain (made m (Sl.mk false more.D))) (Nat.le_trans (lChain_len hVk) (by decide))) ?_)
         refine rvP C (.pv (.lit (.bool (same (lChain vc) (lChain (made m (Sl.mk false more.D))))))) ?_
         refine rvP C (.pv (.lit (.bool (same (lChain vc) (lChain (made m (Sl.mk false more.D))))))) ?_
         refine rvc_case 85 (same (lChain vc) (lChain (made m (Sl.mk false more.D)))) rfl (fun h16 => ?_) (fun h16 => ?_)
         ·
          replace hR := of_true h16 hR
          refine rvO C (.ptr 36 0) ?_
          refine rvc_open rfl rfl rfl (rexec_callM hP C (b := 36) rfl rfl rfl (lAt_calls vc) rfl rfl ?_)
          refine rvO C (.ptr 65 0) ?_
          refine rvc_open rfl rfl rfl (rexec_callM hP C (b := 65) rfl rfl rfl (lAt_calls (made m (Sl.mk false more.D))) rfl rfl ?_)
          refine rvO C (.pv (.lit (.bool ((lAt vc) == (lAt (made m (Sl.mk false more.D))))))) ?_
          refine rvP C (.pv (.lit (.bool ((lAt vc) == (lAt (made m (Sl.mk false more.D))))))) ?_
          refine rvP C (.pv (.lit (.bool ((lAt vc) == (lAt (made m (Sl.mk false more.D))))))) ?_
          refine rvc_case 92 ((lAt vc) == (lAt (made m (Sl.mk false more.D)))) rfl (fun h17 => ?_) (fun h17 => ?_)
          ·
           replace hR := of_true h17 hR
           refine rvc_open rfl rfl rfl (rexec_call hP C rfl rfl rfl (awake_calls ) ?_)
           refine rvP C (.pv (.lit (.bool (awake )))) ?_
           refine rvP C (.pv (.lit (.bool (awake )))) ?_
           refine rvc_nil ?_
           refine Awp.ret ?_
           subst hR
           exact ⟨.inl rfl, rfl⟩
          ·
           replace hR := of_false h17 hR
           refine rvS ?_
           refine rvP C (.pv (.lit (.bool false))) ?_
           refine rvP C (.pv (.lit (.bool false))) ?_
           refine rvc_nil ?_
           refine Awp.ret ?_
           subst hR
           exact ⟨.inl rfl, rfl⟩
         ·
          replace hR := of_false h16 hR
          refine rvS ?_
          refine rvS ?_
          refine rvS ?_
          refine rvS ?_
          refine rvS ?_
          refine rvP C (.pv (.lit (.bool false))) ?_
          refine rvP C (.pv (.lit (.bool false))) ?_
          refine rvS ?_
          refine rvP C (.pv (.lit (.bool false))) ?_
          refine rvP C (.pv (.lit (.bool false))) ?_
          refine rvc_nil ?_
          refine Awp.ret ?_
          subst hR
          exact ⟨.inl rfl, rfl⟩
        ·
         replace hR := of_false h15 hR
         refine rvS ?_
         refine rvS ?_
         refine rvS ?_
         refine rvS ?_
         refine rvS ?_
         refine rvP C (.pv (.lit (.bool false))) ?_
         refine rvP C (.pv (.lit (.bool false))) ?_
         refine rvS ?_
         refine rvS ?_
         refine rvS ?_
         refine rvS ?_
         refine rvS ?_
         refine rvP C (.pv (.lit (.bool false))) ?_
         refine rvP C (.pv (.lit (.bool false))) ?_
         refine rvS ?_
         refine rvP C (.pv (.lit (.bool false))) ?_
         refine rvP C (.pv (.lit (.bool false))) ?_
         refine rvc_nil ?_
         refine Awp.ret ?_
         subst hR
         exact ⟨.inl rfl, rfl⟩
       ·
        replace hR := of_false h14 hR
        refine rvS ?_
        refine rvS ?_
        refine rvS ?_
        refine rvS ?_
        refine rvS ?_
        refine rvP C (.pv (.lit (.bool false))) ?_
        refine rvP C (.pv (.lit (.bool false))) ?_
        refine rvS ?_
        refine rvS ?_
        refine rvS ?_
        refine rvS ?_
        refine rvS ?_
        refine rvP C (.pv (.lit (.bool false))) ?_
        refine rvP C (.pv (.lit (.bool false))) ?_
        refine rvS ?_
        refine rvS ?_
        refine rvS ?_
        refine rvS ?_
        refine rvS ?_
        refine rvP C (.pv (.lit (.bool false))) ?_
        refine rvP C (.pv (.lit (.bool false))) ?_
        refine rvS ?_
        refine rvP C (.pv (.lit (.bool false))) ?_
        refine rvP C (.pv (.lit (.bool false))) ?_
        refine rvc_nil ?_
        refine Awp.ret ?_
        subst hR
        exact ⟨.inl rfl, rfl⟩
     ·
      replace hR := of_false h8 hR
      refine rvc_un (rexec_callO hP C rfl rfl rfl rfl (cloneDosO_calls l h8 (Nat.le_trans (short_ok ‹(!(short (Sl.mk false [l, more]))) = false› l (by simp)).1 (by decide))) ?_)
      refine rvP C (sS (some more.nil) eDo more.D) ?_
      refine rvc_un (rexec_append C rfl rfl rfl rfl rfl rfl rfl rfl (fun _ h => by cases h) rfl (en := eDo) (D0 := l.D) (D := more.D) rfl rfl rfl rfl (by have h1_ := (short_ok ‹(!(short (Sl.mk false [l, more]))) = false› l (by simp)).1; have h2_ := (short_ok ‹(!(short (Sl.mk false [l, more]))) = false› more (by simp)).1; simp; omega) (by decide) (nn := (l.D ++ more.D).length) (by simp) ?_)
      refine rvc_un (rexec_callT hP C (b := 64) rfl rfl rfl rfl (TCalls.of_OCalls (avs := [sS (some m.nil) eMember m.D]) (e := eDo) (D := (l.D ++ more.D)) (made_calls m (Sl.mk false (l.D ++ more.D)) (by assumption) (by first | exact Nat.zero_le _ | exact Nat.le_trans (short_ok ‹(!(short (Sl.mk false [l, more]))) = false› more (by simp)).1 (by decide) | (show (l.D ++ more.D).length ≤ 1000; rw [List.length_append]; have h1_ := (short_ok ‹(!(short (Sl.mk false [l, more]))) = false› l (by simp)).1; have h2_ := (short_ok ‹(!(short (Sl.mk false [l, more]))) = false› more (by simp)).1; omega)) (by first | (intro x hx; cases hx; done) | exact fun x hx => Nat.le_trans ((short_ok ‹(!(short (Sl.mk false [l, more]))) = false› more (by simp)).2 x hx) (by decide) | exact fun x hx => (List.mem_append.1 hx).elim (fun hx => Nat.le_trans ((short_ok ‹(!(short (Sl.mk false [l, more]))) = false› l (by simp)).2 x hx) (by decide)) (fun hx => Nat.le_trans ((short_ok ‹(!(short (Sl.mk false [l, more]))) = false› more (by simp)).2 x hx) (by decide))) (by have := of_decide_eq_false ‹decide ((m.D.length : Int) > 60) = false›; omega) (by show (l.D ++ more.D).length ≤ 1000000; rw [List.length_append]; have h1_ := (short_ok ‹(!(short (Sl.mk false [l, more]))) = false› l (by simp)).1; have h2_ := (short_ok ‹(!(short (Sl.mk false [l, more]))) = false› more (by simp)).1; omega)) rfl) rfl rfl ?_)
      refine rvP C (.ptr 65 0) ?_
      refine rvc_nil ?_
      refine Awp.cons C (fun _ => .writer) (by kernel_rfl) ?_
      refine rvP C (.ptr 39 0) ?_
      refine rvc_un (rexec_callM hP C (b := 39) rfl rfl rfl (lChain_calls (made m l) (made_ok m _ (by have := of_decide_eq_false ‹decide ((m.D.length : Int) > 60) = false›; omega)).1.2.1) rfl rfl ?_)
      refine rvP C (.ptr 41 0) ?_
      refine rvc_un (rexec_callM hP C (b := 41) rfl rfl rfl (lChain_calls (lClone (made m l)) (made_ok m _ (by have := of_decide_eq_false ‹decide ((m.D.length : Int) > 60) = false›; omega)).1.2.1) rfl rfl ?_)
      refine rvc_un (rexec_call hP C rfl rfl rfl (same_calls (lChain (made m l)) (lChain (lClone (made m l))) (Nat.le_trans (lChain_len (made_ok m _ (by have := of_decide_eq_false ‹decide ((m.D.length : Int) > 60) = false›; omega)).1) (by decide))) ?_)
      refine rvP C (.pv (.lit (.bool (same (lChain (made m l)) (lChain (lClone (made m l))))))) ?_
      refine rvc_case 71 (same (lChain (made m l)) (lChain (lClone (made m l)))) rfl (fun h18 => ?_) (fun h18 => ?_)
      ·
       replace hR := of_true h18 hR
       refine rvO C (.ptr 39 0) ?_
       refine rvc_open rfl rfl rfl (rexec_callM hP C (b := 39) rfl rfl rfl (lAt_calls (made m l)) rfl rfl ?_)
       refine rvO C (.ptr 41 0) ?_
       refine rvc_open rfl rfl rfl (rexec_callM hP C (b := 41) rfl rfl rfl (lAt_calls (lClone (made m l))) rfl rfl ?_)
       refine rvO C (.pv (.lit (.bool ((lAt (made m l)) == (lAt (lClone (made m l))))))) ?_
       refine rvP C (.pv (.lit (.bool ((lAt (made m l)) == (lAt (lClone (made m l))))))) ?_
       refine rvP C (.pv (.lit (.bool ((lAt (made m l)) == (lAt (lClone (made m l))))))) ?_
       refine rvc_case 78 ((lAt (made m l)) == (lAt (lClone (made m l)))) rfl (fun h19 => ?_) (fun h19 => ?_)
       ·
        replace hR := of_true h19 hR
        refine rvO C (.ptr 36 0) ?_
        refine rvc_open rfl rfl rfl (rexec_callM hP C (b := 36) rfl rfl rfl (lChain_calls vc hVk.2.1) rfl rfl ?_)
        refine rvO C (.ptr 65 0) ?_
        refine rvc_open rfl rfl rfl (rexec_callM hP C (b := 65) rfl rfl rfl (lChain_calls (made m (Sl.mk false (l.D ++ more.D))) (made_ok m _ (by have := of_decide_eq_false ‹decide ((m.D.length : Int) > 60) = false›; omega)).1.2.1) rfl rfl ?_)
        refine rvc_open rfl rfl rfl (rexec_call hP C rfl rfl rfl (same_calls (lChain vc) (lChain (made m (Sl.mk false (l.D ++ more.D)))) (Nat.le_trans (lChain_len hVk) (by decide))) ?_)
        refine rvP C (.pv (.lit (.bool (same (lChain vc) (lChain (made m (Sl.mk false (l.D ++ more.D)))))))) ?_
        refine rvP C (.pv (.lit (.bool (same (lChain vc) (lChain (made m (Sl.mk false (l.D ++ more.D)))))))) ?_
        refine rvc_case 85 (same (lChain vc) (lChain (made m (Sl.mk false (l.D ++ more.D))))) rfl (fun h20 => ?_) (fun h20 => ?_)
        ·
         replace hR := of_true h20 hR
         refine rvO C (.ptr 36 0) ?_
         refine rvc_open rfl rfl rfl (rexec_callM hP C (b := 36) rfl rfl rfl (lAt_calls vc) rfl rfl ?_)
         refine rvO C (.ptr 65 0) ?_
         refine rvc_open rfl rfl rfl (rexec_callM hP C (b := 65) rfl rfl rfl (lAt_calls (made m (Sl.mk false (l.D ++ more.D)))) rfl rfl ?_)
         refine rvO C (.pv (.lit (.bool ((lAt vc) == (lAt (made m (Sl.mk false (l.D ++ more.D)))))))) ?_
         refine rvP C (.pv (.lit (.bool ((lAt vc) == (lAt (made m (Sl.mk false (l.D ++ more.D)))))))) ?_
         refine rvP C (.pv (.lit (.bool ((lAt vc) == (lAt (made m (Sl.mk false (l.D ++ more.D)))))))) ?_
         refine rvc_case 92 ((lAt vc) == (lAt (made m (Sl.mk false (l.D ++ more.D))))) rfl (fun h21 => ?_) (fun h21 => ?_)
         ·
          replace hR := of_true h21 hR
          refine rvc_open rfl rfl rfl (rexec_call hP C rfl rfl rfl (awake_calls ) ?_)
          refine rvP C (.pv (.lit (.bool (awake )))) ?_
          refine rvP C (.pv (.lit (.bool (awake )))) ?_
          refine rvc_nil ?_
          refine Awp.ret ?_
          subst hR
          exact ⟨.inl rfl, rfl⟩
         ·
          replace hR := of_false h21 hR
          refine rvS ?_
          refine rvP C (.pv (.lit (.bool false))) ?_
          refine rvP C (.pv (.lit (.bool false))) ?_
          refine rvc_nil ?_
          refine Awp.ret ?_
          subst hR
          exact ⟨.inl rfl, rfl⟩
        ·
         replace hR := of_false h20 hR
         refine rvS ?_
         refine rvS ?_
         refine rvS ?_
         refine rvS ?_
         refine rvS ?_
         refine rvP C (.pv (.lit (.bool false))) ?_
         refine rvP C (.pv (.lit (.bool false))) ?_
         refine rvS ?_
         refine rvP C (.pv (.lit (.bool false))) ?_
         refine rvP C (.pv (.lit (.bool false))) ?_
         refine rvc_nil ?_
         refine Awp.ret ?_
         subst hR
         exact ⟨.inl rfl, rfl⟩
       ·
        replace hR := of_false h19 hR
        refine rvS ?_
        refine rvS ?_
        refine rvS ?_
        refine rvS ?_
        refine rvS ?_
        refine rvP C (.pv (.lit (.bool false))) ?_
        refine rvP C (.pv (.lit (.bool false))) ?_
        refine rvS ?_
        refine rvS ?_
        refine rvS ?_
        refine rvS ?_
        refine rvS ?_
        refine rvP C (.pv (.lit (.bool false))) ?_
        refine rvP C (.pv (.lit (.bool false))) ?_
        refine rvS ?_
        refine rvP C (.pv (.lit (.bool false))) ?_
        refine rvP C (.pv (.lit (.bool false))) ?_
        refine rvc_nil ?_
        refine Awp.ret ?_
        subst hR
        exact ⟨.inl rfl, rfl⟩
      ·
       replace hR := of_false h18 hR
       refine rvS ?_
       refine rvS ?_
       refine rvS ?_
       refine rvS ?_
       refine rvS ?_
       refine rvP C (.pv (.lit (.bool false))) ?_
       refine rvP C (.pv (.lit (.bool false))) ?_
       refine rvS ?_
       refine rvS ?_
       refine rvS ?_
       refine rvS ?_
       refine rvS ?_
       refine rvP C (.pv (.lit (.bool false))) ?_
       refine rvP C (.pv (.lit (.bool false))) ?_
       refine rvS ?_
       refine rvS ?_
       refine rvS ?_
       refine rvS ?_
       refine rvS ?_
       refine rvP C (.pv (.lit (.bool false))) ?_
       refine rvP C (.pv (.lit (.bool false))) ?_
       refine rvS ?_
       refine rvP C (.pv (.lit (.bool false))) ?_
       refine rvP C (.pv (.lit (.bool false))) ?_
       refine rvc_nil ?_
       refine Awp.ret ?_
       subst hR
       exact ⟨.inl rfl, rfl⟩
end Go.Proofs.Ytpgenmflgdkfiaa
/- Ledgers that no call made. No conditions. -/
namespace Go.Proofs.Ytpgenmflgdkfiaa
open Go.Am
end Go.Proofs.Ytpgenmflgdkfiaa
/- Law: ledgers that no call made. No conditions. -/
namespace Go.Proofs.Ytpgenmflgdkfiaa
open Go.Am
end Go.Proofs.Ytpgenmflgdkfiaa
/- The law of ledgers that no call made; its contract. No conditions. -/
namespace Go.Proofs.Ytpgenmflgdkfiaa
open Go.Am
end Go.Proofs.Ytpgenmflgdkfiaa
/- The law of ledgers that applied the same; its contract. No conditions. -/
namespace Go.Proofs.Ytpgenmflgdkfiaa
open Go.Am
theorem made_l0_at : ∀ (l : List Do) (i j : Nat) (g : Ledger), made_l0 l i g = made_l0 l j g
  | [], _, _, _ => rfl
  | x :: l, i, j, g => by unfold made_l0; exact made_l0_at l (i + 1) (j + 1) _
theorem made_l0_append : ∀ (l r : List Do) (i : Nat) (g : Ledger), made_l0 (l ++ r) i g = made_l0 r 0 (made_l0 l i g)
  | [], r, i, g => made_l0_at r i 0 g
  | x :: l, r, i, g => by
    show made_l0 (l ++ r) (i + 1) _ = made_l0 r 0 (made_l0 l (i + 1) _)
    exact made_l0_append l r (i + 1) _
theorem lawAlike_l0_true (m : Sl Member) (l more : Sl Do) (hn : l.nil = true → l.D = []) : ∀ (xs : List Do) (i : Nat) (vc : Ledger), made_l0 xs 0 vc = made_l0 more.D 0 (made m l) → lawAlike_l0 m l more xs i vc = true
  | [], i, vc, h => by
    have hv : vc = made_l0 more.D 0 (made m l) := h
    have e1 : made m (Sl.mk false (l.D ++ more.D)) = vc := by
      rw [hv]; exact made_l0_append l.D more.D 0 _
    unfold lawAlike_l0
    rw [awake_true]
    cases hl : l.nil
    · rw [e1]
      simp [same_self, lClone]
    · have hD := hn hl
      have e0 : made m l = (newL m).1 := by unfold made; rw [hD]; rfl
      cases hm : more.D.isEmpty
      · have e2 : made m (Sl.mk false more.D) = vc := by
          rw [hv, e0]; rfl
        rw [e2]
        simp [same_self, lClone]
      · have e3 : made m (Sl.mk true []) = vc := by
          rw [hv, e0, List.isEmpty_iff.1 hm]; rfl
        rw [e3]
        simp [same_self, lClone]
  | x :: xs, i, vc, h => by
    unfold lawAlike_l0
    refine lawAlike_l0_true m l more hn xs (i + 1) _ ?_
    rw [← h]
    show _ = made_l0 xs (0 + 1) _
    exact made_l0_at _ _ _ _
theorem lawAlike_true (m : Sl Member) (l more : Sl Do) (hn : l.nil = true → l.D = []) : lawAlike m l more = true := by
  unfold lawAlike
  rw [awake_true]
  cases decide ((m.D.length : Int) > 60)
  · cases !(short (Sl.mk false [l, more]))
    · cases ((firstC m).2) != 0
      · exact lawAlike_l0_true m l more hn more.D 0 _ rfl
      · rfl
    · rfl
  · rfl
theorem ledgerAlike_calls (m : Sl Member) (w : WT22 m) (l : Sl Do) (wl : WT23 l) (more : Sl Do) (wm : WT23 more) : PCalls Try.prog 6 [sS (some m.nil) eMember m.D, sS (some l.nil) eDo l.D, sS (some more.nil) eDo more.D] (.pv (.bool true)) := by
  have r := lawAlike_calls m l more (Nat.le_trans w.1 (by decide)) (Nat.le_trans wm.1 (by decide))
  rw [lawAlike_true m l more wl.2.1] at r
  exact r
end Go.Proofs.Ytpgenmflgdkfiaa
/- An abstract machine over the kit's calls, part 34: three rows of three numbers that are handed in. No conditions. -/
namespace Go.Am
section
variable {H : Type} {enc : TypeId × Value → H} {P : Program} {w : World} {base : Nat} {spare : Nat → Bool} {held : Bool}
end
end Go.Am
/- What all rows of this seat need: no knob is turned, the types are laid out. No conditions. -/
namespace Go.Proofs.Ytpgenmflgdkfiaa
open Go.Am
theorem own : ownKnob Try.prog.godebug = none := by kernel_rfl
theorem laidOut : laidOutB Try.prog = true := by kernel_rfl
end Go.Proofs.Ytpgenmflgdkfiaa
