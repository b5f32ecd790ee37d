import Derived.Test.YtpgenmflgdkfiaaM5
import Derived.Test.YtpgenmflgdkfiaaM3
import Derived.Test.YtpgenmflgdkfiaaM2
/- The ledger: commands done. No conditions. -/
namespace Go.Proofs.Ytpgenmflgdkfiaa
open Go.Am
structure Ledger60 where
  c : Chain
  all : (Sl Chain)
  at_ : Int
  deriving Inhabited
structure Do where
  c : Command
  b : (Sl Int)
  raw : Bool
  by_ : Int
  off : Int
  deriving Inhabited
def eDo : Enc Do := ⟨8, fun x => [.lit (.int .i64 x.c.kind), .lit (.int .i64 x.c.node), .lit (.int .i64 x.c.site), .lit (.int .i64 x.c.epoch), .sl (some x.b.nil) x.b.D.length (encL (eI .u8) x.b.D), .lit (.bool x.raw), .lit (.int .i64 x.by_), .lit (.int .i64 x.off)], fun _ => rfl⟩
def lApply (l : Ledger) (index : Int) (data : (Sl Int)) : Ledger × Int :=
  (bif (lDead l) then (l, 6) else (bif (decide (index > 1099511627776)) then (l, 90) else (bif (decide (index < 1)) then (l, 90) else (bif ((IntKind.i64.wrap (index - 1)) != l.at_) then (l, 90) else (bif ((data.D.length : Int) == 0) then ((Ledger.mk l.past l.chain index), 0) else (bif ((cmdGet data).2 != 0) then ((Ledger.mk l.past l.chain index), (cmdGet data).2) else (bif ((nextL l.chain (cmdGet data).1).2 != 0) then ((Ledger.mk l.past l.chain index), (nextL l.chain (cmdGet data).1).2) else (bif (decide ((nextL l.chain (cmdGet data).1).1.epoch > l.chain.epoch)) then ((Ledger.mk (Past.mk (Sl.mk false (l.past.all.D ++ [(copied (nextL l.chain (cmdGet data).1).1)]))) (nextL l.chain (cmdGet data).1).1 index), 0) else ((Ledger.mk l.past (nextL l.chain (cmdGet data).1).1 index), 0)))))))))
theorem lApply_calls (l : Ledger) (index : Int) (data : (Sl Int)) (hn : l.chain.members.nil = true → l.chain.members.D = []) (hl1 : data.D.length ≤ 1000000) (hl2 : l.chain.members.D.length ≤ 1000000) (hl3 : l.past.all.D.length ≤ 1000000) : MCalls Try.prog 16 [.ptr 0 0, .pv (.lit (.int .i64 index)), sS (some data.nil) (eI .u8) data.D] (.cells [sS (some l.past.all.nil) eChain l.past.all.D, .pv (.lit (.int .i64 l.chain.epoch)), sS (some l.chain.members.nil) eMember l.chain.members.D, .pv (.lit (.int .i64 l.at_))]) (.pv (.lit (.int .i64 ((lApply l index data).2)))) (.cells [sS (some (lApply l index data).1.past.all.nil) eChain ((lApply l index data).1.past.all.D), .pv (.lit (.int .i64 ((lApply l index data).1.chain.epoch))), sS (some (lApply l index data).1.chain.members.nil) eMember ((lApply l index data).1.chain.members.D), .pv (.lit (.int .i64 ((lApply l index data).1.at_)))]) := by
 generalize hR : lApply l index data = R
 refine MCalls.of_body tabOk Try.func16 rfl rfl rfl rfl rfl rfl rfl mixed fun E hP C hI => ?_
 refine Awp.consP C ?_
 refine rvP C (.pv (.lit (.int .i64 0))) ?_
 refine rvc_nil ?_
 refine Awp.seq ?_
 refine Awp.block ?_
 refine Awp.cons C (fun _ => .writer) (by kernel_rfl) ?_
 refine rvP C (.ptr 0 0) ?_
 refine rvc_un (rexec_callM hP C (b := 0) rfl rfl rfl (lDead_calls l) rfl rfl ?_)
 refine rvP C (.pv (.lit (.bool (lDead l)))) ?_
 refine rvc_nil ?_
 refine Awp.cond (b := (lDead l)) rfl (fun h1 => ?_) (fun h1 => ?_)
 ·
  replace hR := of_true h1 hR
  refine Awp.consP C ?_
  refine rvP C (.pv (.lit (.int .i64 6))) ?_
  refine rvc_nil ?_
  refine Awp.ret ?_
  subst hR
  exact ⟨.inl rfl, rfl, rfl⟩
 ·
  replace hR := of_false h1 hR
  refine Awp.consP C ?_
  refine rvP C (.pv (.lit (.int .i64 index))) ?_
  refine rvP C (.pv (.lit (.bool (decide (index > 1099511627776))))) ?_
  refine rvP C (.pv (.lit (.bool (decide (index > 1099511627776))))) ?_
  refine rvc_case 16 (decide (index > 1099511627776)) rfl (fun h2 => ?_) (fun h2 => ?_)
  ·
   replace hR := of_true h2 hR
   refine rvS ?_
   refine rvS ?_
   refine rvP C (.pv (.lit (.bool true))) ?_
   refine rvP C (.pv (.lit (.bool true))) ?_
   refine rvS ?_
   refine rvS ?_
   refine rvS ?_
   refine rvS ?_
   refine rvS ?_
   refine rvS ?_
   refine rvS ?_
   refine rvP C (.pv (.lit (.bool true))) ?_
   refine rvP C (.pv (.lit (.bool true))) ?_
   refine rvc_nil ?_
   refine Awp.condT (b := true) rfl rfl ?_
   refine Awp.consP C ?_
   refine rvP C (.pv (.lit (.int .i64 90))) ?_
   refine rvc_nil ?_
   refine Awp.ret ?_
   subst hR
   exact ⟨.inl rfl, rfl, rfl⟩
  ·
   replace hR := of_false h2 hR
   refine rvO C (.pv (.lit (.int .i64 index))) ?_
   refine rvO C (.pv (.lit (.bool (decide (index < 1))))) ?_
   refine rvP C (.pv (.lit (.bool (decide (index < 1))))) ?_
   refine rvP C (.pv (.lit (.bool (decide (index < 1))))) ?_
   refine rvc_case 20 (decide (index < 1)) rfl (fun h3 => ?_) (fun h3 => ?_)
   ·
    replace hR := of_true h3 hR
    refine rvS ?_
    refine rvS ?_
    refine rvS ?_
    refine rvS ?_
    refine rvS ?_
    refine rvS ?_
    refine rvS ?_
    refine rvP C (.pv (.lit (.bool true))) ?_
    refine rvP C (.pv (.lit (.bool true))) ?_
    refine rvc_nil ?_
    refine Awp.condT (b := true) rfl rfl ?_
    refine Awp.consP C ?_
    refine rvP C (.pv (.lit (.int .i64 90))) ?_
    refine rvc_nil ?_
    refine Awp.ret ?_
    subst hR
    exact ⟨.inl rfl, rfl, rfl⟩
   ·
    replace hR := of_false h3 hR
    refine rvO C (.pv (.lit (.int .i64 index))) ?_
    refine rvO C (.pv (.lit (.int .i64 (IntKind.i64.wrap (index - 1))))) ?_
    refine rvO C (.ptr 0 0) ?_
    refine rvO C (.ptr 0 0) ?_
    refine rvO C (.ptr 0 3) ?_
    refine rvO C (.pv (.lit (.int .i64 l.at_))) ?_
    refine rvO C (.pv (.lit (.bool ((IntKind.i64.wrap (index - 1)) != l.at_)))) ?_
    refine rvP C (.pv (.lit (.bool ((IntKind.i64.wrap (index - 1)) != l.at_)))) ?_
    refine rvP C (.pv (.lit (.bool ((IntKind.i64.wrap (index - 1)) != l.at_)))) ?_
    refine rvc_nil ?_
    refine Awp.cond (b := ((IntKind.i64.wrap (index - 1)) != l.at_)) rfl (fun h4 => ?_) (fun h4 => ?_)
    ·
     replace hR := of_true h4 hR
     refine Awp.consP C ?_
     refine rvP C (.pv (.lit (.int .i64 90))) ?_
     refine rvc_nil ?_
     refine Awp.ret ?_
     subst hR
     exact ⟨.inl rfl, rfl, rfl⟩
    ·
     replace hR := of_false h4 hR
     refine Awp.skip ?_
     refine Awp.consP C ?_
     refine rvP C (.ptr 0 0) ?_
     refine rvP C (.pv (.lit (.int .i64 index))) ?_
     refine rvP C (.ptr 0 0) ?_
     refine rvP C (.ptr 0 3) ?_
     refine rvc_un (rexec_prim C (δ := { v := .undef, wr := [(0, some (.cells [sS (some l.past.all.nil) eChain l.past.all.D, .pv (.lit (.int .i64 l.chain.epoch)), sS (some l.chain.members.nil) eMember l.chain.members.D, .pv (.lit (.int .i64 index))]))] }) rfl rfl rfl rfl trivial rfl ?_)
     refine rvc_nil ?_
     refine Awp.seq ?_
     refine Awp.consP C ?_
     refine rvP C (sS (some data.nil) (eI .u8) data.D) ?_
     refine rvP C (.pv (.lit (.int .i64 (data.D.length : Int)))) ?_
     refine rvP C (.pv (.lit (.bool ((data.D.length : Int) == 0)))) ?_
     refine rvc_nil ?_
     refine Awp.cond (b := ((data.D.length : Int) == 0)) rfl (fun h5 => ?_) (fun h5 => ?_)
     ·
      replace hR := of_true h5 hR
      refine Awp.consP C ?_
      refine rvP C (.pv (.lit (.int .i64 0))) ?_
      refine rvc_nil ?_
      refine Awp.ret ?_
      subst hR
      exact ⟨.inl rfl, rfl, rfl⟩
     ·
      replace hR := of_false h5 hR
      refine Awp.skip ?_
      refine Awp.consP C ?_
      refine rvP C (sS (some data.nil) (eI .u8) data.D) ?_
      obtain ⟨gt, hq_gt⟩ : ∃ q_, q_ = (cmdGet data) := ⟨_, rfl⟩
      have hc_gt := (cmdGet_calls data hl1)
      first | rw [← hq_gt] at hR hc_gt | (unfold lApply at hR; rw [← hq_gt] at hR hc_gt)
      refine rvc_un (rexec_call hP C rfl rfl rfl hc_gt ?_)
      refine rvP C (.tup [.agg [.pv (.lit (.int .i64 gt.1.kind)), .pv (.lit (.int .i64 gt.1.node)), .pv (.lit (.int .i64 gt.1.site)), .pv (.lit (.int .i64 gt.1.epoch))], .pv (.lit (.int .i64 gt.2))]) ?_
      refine rvP C (.agg [.pv (.lit (.int .i64 gt.1.kind)), .pv (.lit (.int .i64 gt.1.node)), .pv (.lit (.int .i64 gt.1.site)), .pv (.lit (.int .i64 gt.1.epoch))]) ?_
      refine rvP C (.pv (.lit (.int .i64 gt.2))) ?_
      refine rvc_un (rexec_prim C (δ := { v := .ptr 7 0, new := [(7, .cells [.pv (.lit (.int .i64 0)), .pv (.lit (.int .i64 0)), .pv (.lit (.int .i64 0)), .pv (.lit (.int .i64 0))])] }) rfl rfl rfl rfl trivial rfl ?_)
      refine rvc_un (rexec_prim C (δ := { v := .undef, wr := [(7, some (.cells [.pv (.lit (.int .i64 gt.1.kind)), .pv (.lit (.int .i64 gt.1.node)), .pv (.lit (.int .i64 gt.1.site)), .pv (.lit (.int .i64 gt.1.epoch))]))] }) rfl rfl rfl rfl trivial rfl ?_)
      refine rvP C (.pv (.lit (.int .i64 gt.2))) ?_
      refine rvc_nil ?_
      refine Awp.seq ?_
      refine Awp.consP C ?_
      refine rvP C (.pv (.lit (.int .i64 gt.2))) ?_
      refine rvP C (.pv (.lit (.bool (gt.2 != 0)))) ?_
      refine rvc_nil ?_
      refine Awp.cond (b := (gt.2 != 0)) rfl (fun h6 => ?_) (fun h6 => ?_)
      ·
       replace hR := of_true h6 hR
       refine Awp.consP C ?_
       refine rvP C (.pv (.lit (.int .i64 gt.2))) ?_
       refine rvP C (.pv (.lit (.int .i64 gt.2))) ?_
       refine rvc_nil ?_
       refine Awp.ret ?_
       subst hR
       exact ⟨.inl rfl, rfl, rfl⟩
      ·
       replace hR := of_false h6 hR
       refine Awp.skip ?_
       refine Awp.consP C ?_
       refine rvP C (.ptr 0 0) ?_
       refine rvP C (.ptr 0 0) ?_
       refine rvP C (.ptr 0 1) ?_
       refine rvP C (.agg [.pv (.lit (.int .i64 l.chain.epoch)), sS (some l.chain.members.nil) eMember l.chain.members.D]) ?_
       refine rvP C (.agg [.pv (.lit (.int .i64 gt.1.kind)), .pv (.lit (.int .i64 gt.1.node)), .pv (.lit (.int .i64 gt.1.site)), .pv (.lit (.int .i64 gt.1.epoch))]) ?_
       obtain ⟨nx, hq_nx⟩ : ∃ q_, q_ = (nextL l.chain gt.1) := ⟨_, rfl⟩
       have hc_nx := (nextL_calls l.chain gt.1 hn hl2)
       first | rw [← hq_nx] at hR hc_nx | (unfold lApply at hR; rw [← hq_nx] at hR hc_nx)
       have hf0_nx := few_next l.chain gt.1
       rw [← hq_nx] at hf0_nx
       refine rvc_un (rexec_call hP C rfl rfl rfl hc_nx ?_)
       refine rvP C (.tup [.agg [.pv (.lit (.int .i64 nx.1.epoch)), sS (some nx.1.members.nil) eMember nx.1.members.D], .pv (.lit (.int .i64 nx.2))]) ?_
       refine rvP C (.agg [.pv (.lit (.int .i64 nx.1.epoch)), sS (some nx.1.members.nil) eMember nx.1.members.D]) ?_
       refine rvP C (.pv (.lit (.int .i64 nx.2))) ?_
       refine rvc_un (rexec_prim C (δ := { v := .ptr 9 0, new := [(9, .cells [.pv (.lit (.int .i64 0)), sS (some true) eMember []])] }) rfl rfl rfl rfl trivial rfl ?_)
       refine rvc_un (rexec_prim C (δ := { v := .undef, wr := [(9, some (.cells [.pv (.lit (.int .i64 nx.1.epoch)), sS (some nx.1.members.nil) eMember nx.1.members.D]))] }) rfl rfl rfl rfl trivial rfl ?_)
       refine rvP C (.pv (.lit (.int .i64 nx.2))) ?_
       refine rvc_nil ?_
       refine Awp.seq ?_
       refine Awp.consP C ?_
       refine rvP C (.pv (.lit (.int .i64 nx.2))) ?_
       refine rvP C (.pv (.lit (.bool (nx.2 != 0)))) ?_
       refine rvc_nil ?_
       refine Awp.cond (b := (nx.2 != 0)) rfl (fun h7 => ?_) (fun h7 => ?_)
       ·
        replace hR := of_true h7 hR
        refine Awp.consP C ?_
        refine rvP C (.pv (.lit (.int .i64 nx.2))) ?_
        refine rvP C (.pv (.lit (.int .i64 nx.2))) ?_
        refine rvc_nil ?_
        refine Awp.ret ?_
        subst hR
        exact ⟨.inl rfl, rfl, rfl⟩
       ·
        replace hR := of_false h7 hR
        refine Awp.skip ?_
        refine Awp.seq ?_
        refine Awp.consP C ?_
        refine rvP C (.ptr 9 0) ?_
        refine rvP C (.pv (.lit (.int .i64 nx.1.epoch))) ?_
        refine rvP C (.ptr 0 0) ?_
        refine rvP C (.ptr 0 0) ?_
        refine rvP C (.ptr 0 1) ?_
        refine rvP C (.ptr 0 1) ?_
        refine rvP C (.pv (.lit (.int .i64 l.chain.epoch))) ?_
        refine rvP C (.pv (.lit (.bool (decide (nx.1.epoch > l.chain.epoch))))) ?_
        refine rvc_nil ?_
        refine Awp.cond (b := (decide (nx.1.epoch > l.chain.epoch))) rfl (fun h8 => ?_) (fun h8 => ?_)
        ·
         replace hR := of_true h8 hR
         refine Awp.regionP C ?_
         refine rvP C (.ptr 0 0) ?_
         refine rvP C (.ptr 0 0) ?_
         refine rvP C (.ptr 0 0) ?_
         refine rvP C (.ptr 0 0) ?_
         refine rvP C (.ptr 0 0) ?_
         refine rvP C (sS (some l.past.all.nil) eChain l.past.all.D) ?_
         refine rvP C (.ptr 0 0) ?_
         refine rvP C (.ptr 0 0) ?_
         refine rvP C (.ptr 0 0) ?_
         refine rvP C (.ptr 0 0) ?_
         refine rvP C (sS (some l.past.all.nil) eChain l.past.all.D) ?_
         refine rvP C (.pv (.lit (.int .i64 (l.past.all.D.length : Int)))) ?_
         refine rvP C (.ptr 0 0) ?_
         refine rvP C (.ptr 0 0) ?_
         refine rvP C (.ptr 0 0) ?_
         refine rvP C (.ptr 0 0) ?_
         refine rvP C (sS (some l.past.all.nil) eChain l.past.all.D) ?_
         refine rvP C (.pv (.lit (.int .i64 (l.past.all.D.length : Int)))) ?_
         refine rvc_un (rexec_slice3 C (e := eChain) (D := l.past.all.D) rfl rfl rfl rfl rfl rfl ?_)
         refine rvP C (.agg [.pv (.lit (.int .i64 nx.1.epoch)), sS (some nx.1.members.nil) eMember nx.1.members.D]) ?_
         refine rvc_un (rexec_call hP C rfl rfl rfl (copied_calls nx.1 (Nat.le_trans hf0_nx.2 (by decide))) ?_)
         refine rvc_un (rexec_buildSliceF C eChain [(copied nx.1)] rfl rfl rfl rfl rfl rfl rfl (by decide) rfl ?_)
         refine rvc_un (rexec_appendT C rfl rfl rfl rfl rfl rfl rfl rfl (fun _ h => by cases h) rfl (en := eChain) (D0 := l.past.all.D) (D := [(copied nx.1)]) rfl rfl (by simp) (by have := wrapI (index - 1); have := of_decide_eq_false h2; have := of_decide_eq_false h3; have := eq_of_bne_false h4; have := ne_of_beq_false h5; have := eq_of_bne_false h6; have := eq_of_bne_false h7; have := of_decide_eq_true h8; first | omega | (simp <;> omega)) (by decide) (nn := (l.past.all.D ++ [(copied nx.1)]).length) (by simp) ?_)
         refine rvP C (.ptr 0 0) ?_
         refine rvP C (.ptr 0 0) ?_
         refine rvP C (.ptr 0 0) ?_
         refine rvc_un (rexec_prim C (δ := { v := .undef, wr := [(0, some (.cells [.sl 86 0 ((l.past.all.D ++ [(copied nx.1)]).length) 2 false, .pv (.lit (.int .i64 l.chain.epoch)), sS (some l.chain.members.nil) eMember l.chain.members.D, .pv (.lit (.int .i64 index))]))] }) rfl rfl rfl rfl trivial rfl ?_)
         refine rvc_nil ?_
         refine Awp.consP C ?_
         refine rvP C (.ptr 0 0) ?_
         refine rvP C (.agg [.pv (.lit (.int .i64 nx.1.epoch)), sS (some nx.1.members.nil) eMember nx.1.members.D]) ?_
         refine rvP C (.ptr 0 0) ?_
         refine rvP C (.ptr 0 1) ?_
         refine rvc_un (rexec_prim C (δ := { v := .undef, wr := [(0, some (.cells [.sl 86 0 ((l.past.all.D ++ [(copied nx.1)]).length) 2 false, .pv (.lit (.int .i64 nx.1.epoch)), sS (some nx.1.members.nil) eMember nx.1.members.D, .pv (.lit (.int .i64 index))]))] }) rfl rfl rfl rfl trivial rfl ?_)
         refine rvc_nil ?_
         refine Awp.consP C ?_
         refine rvP C (.pv (.lit (.int .i64 0))) ?_
         refine rvc_nil ?_
         refine Awp.freezeW 86 (encL eChain (l.past.all.D ++ [(copied nx.1)])) ?_ [(6, .pv (.lit (.int .i64 0)))] [(0, .cells [sS (some false) eChain (l.past.all.D ++ [(copied nx.1)]), .pv (.lit (.int .i64 nx.1.epoch)), sS (some nx.1.members.nil) eMember nx.1.members.D, .pv (.lit (.int .i64 index))]), (7, .cells [.pv (.lit (.int .i64 gt.1.kind)), .pv (.lit (.int .i64 gt.1.node)), .pv (.lit (.int .i64 gt.1.site)), .pv (.lit (.int .i64 gt.1.epoch))]), (9, .cells [.pv (.lit (.int .i64 nx.1.epoch)), sS (some nx.1.members.nil) eMember nx.1.members.D])] ?_ ?_ ?_
         · rfl
         · exact ⟨⟨_, rfl, .inl (.inl rfl)⟩, trivial⟩
         · exact ⟨⟨(by show (0 : Nat) ≠ 86; decide), .inr ⟨_, _, rfl, rfl, ⟨.inr ⟨_, _, _, rfl, rfl⟩, .inl rfl, .inl rfl, .inl rfl, trivial⟩⟩⟩, ⟨(by show (7 : Nat) ≠ 86; decide), .inl rfl⟩, ⟨(by show (9 : Nat) ≠ 86; decide), .inl rfl⟩, trivial⟩
         refine Awp.ret ?_
         subst hR
         exact ⟨.inl rfl, rfl, rfl⟩
        ·
         replace hR := of_false h8 hR
         refine Awp.skip ?_
         refine Awp.consP C ?_
         refine rvP C (.ptr 0 0) ?_
         refine rvP C (.agg [.pv (.lit (.int .i64 nx.1.epoch)), sS (some nx.1.members.nil) eMember nx.1.members.D]) ?_
         refine rvP C (.ptr 0 0) ?_
         refine rvP C (.ptr 0 1) ?_
         refine rvc_un (rexec_prim C (δ := { v := .undef, wr := [(0, some (.cells [sS (some l.past.all.nil) eChain l.past.all.D, .pv (.lit (.int .i64 nx.1.epoch)), sS (some nx.1.members.nil) eMember nx.1.members.D, .pv (.lit (.int .i64 index))]))] }) rfl rfl rfl rfl trivial rfl ?_)
         refine rvc_nil ?_
         refine Awp.consP C ?_
         refine rvP C (.pv (.lit (.int .i64 0))) ?_
         refine rvc_nil ?_
         refine Awp.ret ?_
         subst hR
         exact ⟨.inl rfl, rfl, rfl⟩
def doIndex (k : Do) (at_ : Int) : Int :=
  (bif (decide (k.by_ > (-3))) then (bif (decide (k.by_ < 3)) then (IntKind.i64.wrap ((IntKind.i64.wrap (at_ + 1)) + k.by_)) else (IntKind.i64.wrap (at_ + 1))) else (IntKind.i64.wrap (at_ + 1)))
theorem doIndex_calls (k : Do) (at_ : Int)  : PCalls Try.prog 18 [.agg [.pv (.lit (.int .i64 k.c.kind)), .pv (.lit (.int .i64 k.c.node)), .pv (.lit (.int .i64 k.c.site)), .pv (.lit (.int .i64 k.c.epoch)), sS (some k.b.nil) (eI .u8) k.b.D, .pv (.lit (.bool k.raw)), .pv (.lit (.int .i64 k.by_)), .pv (.lit (.int .i64 k.off))], .pv (.lit (.int .i64 at_))] (.pv (.lit (.int .i64 (doIndex k at_)))) := by
 generalize hR : doIndex k at_ = R
 refine PCalls.of_body tabOk Try.func18 rfl rfl rfl rfl rfl mixed fun E hP C hI => ?_
 refine Awp.consP C ?_
 refine rvc_un (rexec_prim C (δ := { v := .ptr 2 0, new := [(2, .cells [.pv (.lit (.int .i64 k.c.kind)), .pv (.lit (.int .i64 k.c.node)), .pv (.lit (.int .i64 k.c.site)), .pv (.lit (.int .i64 k.c.epoch)), sS (some k.b.nil) (eI .u8) k.b.D, .pv (.lit (.bool k.raw)), .pv (.lit (.int .i64 k.by_)), .pv (.lit (.int .i64 k.off))])] }) rfl rfl rfl rfl trivial rfl ?_)
 refine rvP C (.pv (.lit (.int .i64 0))) ?_
 refine rvc_nil ?_
 refine Awp.seq ?_
 refine Awp.consP C ?_
 refine rvP C (.ptr 2 6) ?_
 refine rvP C (.pv (.lit (.int .i64 k.by_))) ?_
 refine rvP C (.pv (.lit (.bool (decide (k.by_ > (-3)))))) ?_
 refine rvP C (.pv (.lit (.bool (decide (k.by_ > (-3)))))) ?_
 refine rvc_case 8 (decide (k.by_ > (-3))) rfl (fun h1 => ?_) (fun h1 => ?_)
 ·
  replace hR := of_true h1 hR
  refine rvO C (.ptr 2 6) ?_
  refine rvO C (.pv (.lit (.int .i64 k.by_))) ?_
  refine rvO C (.pv (.lit (.bool (decide (k.by_ < 3))))) ?_
  refine rvP C (.pv (.lit (.bool (decide (k.by_ < 3))))) ?_
  refine rvc_nil ?_
  refine Awp.cond (b := (decide (k.by_ < 3))) rfl (fun h2 => ?_) (fun h2 => ?_)
  ·
   replace hR := of_true h2 hR
   refine Awp.consP C ?_
   refine rvP C (.pv (.lit (.int .i64 at_))) ?_
   refine rvP C (.pv (.lit (.int .i64 (IntKind.i64.wrap (at_ + 1))))) ?_
   refine rvP C (.ptr 2 6) ?_
   refine rvP C (.pv (.lit (.int .i64 k.by_))) ?_
   refine rvP C (.pv (.lit (.int .i64 (IntKind.i64.wrap ((IntKind.i64.wrap (at_ + 1)) + k.by_))))) ?_
   refine rvP C (.pv (.lit (.int .i64 (IntKind.i64.wrap ((IntKind.i64.wrap (at_ + 1)) + k.by_))))) ?_
   refine rvc_nil ?_
   refine Awp.ret ?_
   subst hR
   exact ⟨.inl rfl, rfl⟩
  ·
   replace hR := of_false h2 hR
   refine Awp.skip ?_
   refine Awp.consP C ?_
   refine rvP C (.pv (.lit (.int .i64 at_))) ?_
   refine rvP C (.pv (.lit (.int .i64 (IntKind.i64.wrap (at_ + 1))))) ?_
   refine rvP C (.pv (.lit (.int .i64 (IntKind.i64.wrap (at_ + 1))))) ?_
   refine rvc_nil ?_
   refine Awp.ret ?_
   subst hR
   exact ⟨.inl rfl, rfl⟩
 ·
  replace hR := of_false h1 hR
  refine rvS ?_
  refine rvS ?_
  refine rvS ?_
  refine rvP C (.pv (.lit (.bool false))) ?_
  refine rvc_nil ?_
  refine Awp.condF (b := false) rfl rfl ?_
  refine Awp.skip ?_
  refine Awp.consP C ?_
  refine rvP C (.pv (.lit (.int .i64 at_))) ?_
  refine rvP C (.pv (.lit (.int .i64 (IntKind.i64.wrap (at_ + 1))))) ?_
  refine rvP C (.pv (.lit (.int .i64 (IntKind.i64.wrap (at_ + 1))))) ?_
  refine rvc_nil ?_
  refine Awp.ret ?_
  subst hR
  exact ⟨.inl rfl, rfl⟩
def doData (k : Do) (epoch : Int) : (Sl Int) :=
  (bif k.raw then k.b else (bif (decide (k.off > (-4))) then (bif (decide (k.off < 4)) then (rCmdPut (Command.mk k.c.kind k.c.node k.c.site (IntKind.i64.wrap (epoch + k.off)))).1 else (rCmdPut k.c).1) else (rCmdPut k.c).1))
theorem doData_calls (k : Do) (epoch : Int)  : PCalls Try.prog 15 [.agg [.pv (.lit (.int .i64 k.c.kind)), .pv (.lit (.int .i64 k.c.node)), .pv (.lit (.int .i64 k.c.site)), .pv (.lit (.int .i64 k.c.epoch)), sS (some k.b.nil) (eI .u8) k.b.D, .pv (.lit (.bool k.raw)), .pv (.lit (.int .i64 k.by_)), .pv (.lit (.int .i64 k.off))], .pv (.lit (.int .i64 epoch))] (sS (some (doData k epoch).nil) (eI .u8) ((doData k epoch).D)) := by
 generalize hR : doData k epoch = R
 refine PCalls.of_body tabOk Try.func15 rfl rfl rfl rfl rfl mixed fun E hP C hI => ?_
 refine Awp.consP C ?_
 refine rvc_un (rexec_prim C (δ := { v := .ptr 2 0, new := [(2, .cells [.pv (.lit (.int .i64 k.c.kind)), .pv (.lit (.int .i64 k.c.node)), .pv (.lit (.int .i64 k.c.site)), .pv (.lit (.int .i64 k.c.epoch)), sS (some k.b.nil) (eI .u8) k.b.D, .pv (.lit (.bool k.raw)), .pv (.lit (.int .i64 k.by_)), .pv (.lit (.int .i64 k.off))])] }) rfl rfl rfl rfl trivial rfl ?_)
 refine rvP C (sS (some true) (eI .u8) []) ?_
 refine rvc_nil ?_
 refine Awp.seq ?_
 refine Awp.consP C ?_
 refine rvP C (.ptr 2 5) ?_
 refine rvP C (.pv (.lit (.bool k.raw))) ?_
 refine rvc_nil ?_
 refine Awp.cond (b := k.raw) rfl (fun h1 => ?_) (fun h1 => ?_)
 ·
  replace hR := of_true h1 hR
  refine Awp.consP C ?_
  refine rvP C (.ptr 2 4) ?_
  refine rvP C (sS (some k.b.nil) (eI .u8) k.b.D) ?_
  refine rvP C (sS (some k.b.nil) (eI .u8) k.b.D) ?_
  refine rvc_nil ?_
  refine Awp.ret ?_
  subst hR
  exact ⟨.inl rfl, rfl⟩
 ·
  replace hR := of_false h1 hR
  refine Awp.skip ?_
  refine Awp.consP C ?_
  refine rvP C (.ptr 2 0) ?_
  refine rvP C (.agg [.pv (.lit (.int .i64 k.c.kind)), .pv (.lit (.int .i64 k.c.node)), .pv (.lit (.int .i64 k.c.site)), .pv (.lit (.int .i64 k.c.epoch))]) ?_
  refine rvc_un (rexec_prim C (δ := { v := .ptr 5 0, new := [(5, .cells [.pv (.lit (.int .i64 0)), .pv (.lit (.int .i64 0)), .pv (.lit (.int .i64 0)), .pv (.lit (.int .i64 0))])] }) rfl rfl rfl rfl trivial rfl ?_)
  refine rvc_un (rexec_prim C (δ := { v := .undef, wr := [(5, some (.cells [.pv (.lit (.int .i64 k.c.kind)), .pv (.lit (.int .i64 k.c.node)), .pv (.lit (.int .i64 k.c.site)), .pv (.lit (.int .i64 k.c.epoch))]))] }) rfl rfl rfl rfl trivial rfl ?_)
  refine rvc_nil ?_
  refine Awp.seq ?_
  refine Awp.consP C ?_
  refine rvP C (.ptr 2 7) ?_
  refine rvP C (.pv (.lit (.int .i64 k.off))) ?_
  refine rvP C (.pv (.lit (.bool (decide (k.off > (-4)))))) ?_
  refine rvP C (.pv (.lit (.bool (decide (k.off > (-4)))))) ?_
  refine rvc_case 17 (decide (k.off > (-4))) rfl (fun h2 => ?_) (fun h2 => ?_)
  ·
   replace hR := of_true h2 hR
   refine rvO C (.ptr 2 7) ?_
   refine rvO C (.pv (.lit (.int .i64 k.off))) ?_
   refine rvO C (.pv (.lit (.bool (decide (k.off < 4))))) ?_
   refine rvP C (.pv (.lit (.bool (decide (k.off < 4))))) ?_
   refine rvc_nil ?_
   refine Awp.cond (b := (decide (k.off < 4))) rfl (fun h3 => ?_) (fun h3 => ?_)
   ·
    replace hR := of_true h3 hR
    refine Awp.regionP C ?_
    refine rvP C (.pv (.lit (.int .i64 epoch))) ?_
    refine rvP C (.ptr 2 7) ?_
    refine rvP C (.pv (.lit (.int .i64 k.off))) ?_
    refine rvP C (.pv (.lit (.int .i64 (IntKind.i64.wrap (epoch + k.off))))) ?_
    refine rvP C (.ptr 5 3) ?_
    refine rvc_un (rexec_prim C (δ := { v := .undef, wr := [(5, some (.cells [.pv (.lit (.int .i64 k.c.kind)), .pv (.lit (.int .i64 k.c.node)), .pv (.lit (.int .i64 k.c.site)), .pv (.lit (.int .i64 (IntKind.i64.wrap (epoch + k.off))))]))] }) rfl rfl rfl rfl trivial rfl ?_)
    refine rvc_nil ?_
    refine Awp.consP C ?_
    refine rvP C (.agg [.pv (.lit (.int .i64 k.c.kind)), .pv (.lit (.int .i64 k.c.node)), .pv (.lit (.int .i64 k.c.site)), .pv (.lit (.int .i64 (IntKind.i64.wrap (epoch + k.off))))]) ?_
    refine rvc_un (rexec_call hP C rfl rfl rfl (rCmdPut_calls (Command.mk k.c.kind k.c.node k.c.site (IntKind.i64.wrap (epoch + k.off)))) ?_)
    refine rvP C (.tup [sS (some (rCmdPut (Command.mk k.c.kind k.c.node k.c.site (IntKind.i64.wrap (epoch + k.off)))).1.nil) (eI .u8) ((rCmdPut (Command.mk k.c.kind k.c.node k.c.site (IntKind.i64.wrap (epoch + k.off)))).1.D), .pv (.lit (.int .i64 ((rCmdPut (Command.mk k.c.kind k.c.node k.c.site (IntKind.i64.wrap (epoch + k.off)))).2)))]) ?_
    refine rvP C (sS (some (rCmdPut (Command.mk k.c.kind k.c.node k.c.site (IntKind.i64.wrap (epoch + k.off)))).1.nil) (eI .u8) ((rCmdPut (Command.mk k.c.kind k.c.node k.c.site (IntKind.i64.wrap (epoch + k.off)))).1.D)) ?_
    refine rvP C (.pv (.lit (.int .i64 ((rCmdPut (Command.mk k.c.kind k.c.node k.c.site (IntKind.i64.wrap (epoch + k.off)))).2)))) ?_
    refine rvP C (sS (some (rCmdPut (Command.mk k.c.kind k.c.node k.c.site (IntKind.i64.wrap (epoch + k.off)))).1.nil) (eI .u8) ((rCmdPut (Command.mk k.c.kind k.c.node k.c.site (IntKind.i64.wrap (epoch + k.off)))).1.D)) ?_
    refine rvP C (.pv (.lit (.int .i64 ((rCmdPut (Command.mk k.c.kind k.c.node k.c.site (IntKind.i64.wrap (epoch + k.off)))).2)))) ?_
    refine rvc_nil ?_
    refine Awp.consP C ?_
    refine rvP C (sS (some (rCmdPut (Command.mk k.c.kind k.c.node k.c.site (IntKind.i64.wrap (epoch + k.off)))).1.nil) (eI .u8) ((rCmdPut (Command.mk k.c.kind k.c.node k.c.site (IntKind.i64.wrap (epoch + k.off)))).1.D)) ?_
    refine rvP C (sS (some (rCmdPut (Command.mk k.c.kind k.c.node k.c.site (IntKind.i64.wrap (epoch + k.off)))).1.nil) (eI .u8) ((rCmdPut (Command.mk k.c.kind k.c.node k.c.site (IntKind.i64.wrap (epoch + k.off)))).1.D)) ?_
    refine rvc_nil ?_
    refine Awp.ret ?_
    subst hR
    exact ⟨.inl rfl, rfl⟩
   ·
    replace hR := of_false h3 hR
    refine Awp.skip ?_
    refine Awp.consP C ?_
    refine rvP C (.agg [.pv (.lit (.int .i64 k.c.kind)), .pv (.lit (.int .i64 k.c.node)), .pv (.lit (.int .i64 k.c.site)), .pv (.lit (.int .i64 k.c.epoch))]) ?_
    refine rvc_un (rexec_call hP C rfl rfl rfl (rCmdPut_calls k.c) ?_)
    refine rvP C (.tup [sS (some (rCmdPut k.c).1.nil) (eI .u8) ((rCmdPut k.c).1.D), .pv (.lit (.int .i64 ((rCmdPut k.c).2)))]) ?_
    refine rvP C (sS (some (rCmdPut k.c).1.nil) (eI .u8) ((rCmdPut k.c).1.D)) ?_
    refine rvP C (.pv (.lit (.int .i64 ((rCmdPut k.c).2)))) ?_
    refine rvP C (sS (some (rCmdPut k.c).1.nil) (eI .u8) ((rCmdPut k.c).1.D)) ?_
    refine rvP C (.pv (.lit (.int .i64 ((rCmdPut k.c).2)))) ?_
    refine rvc_nil ?_
    refine Awp.consP C ?_
    refine rvP C (sS (some (rCmdPut k.c).1.nil) (eI .u8) ((rCmdPut k.c).1.D)) ?_
    refine rvP C (sS (some (rCmdPut k.c).1.nil) (eI .u8) ((rCmdPut k.c).1.D)) ?_
    refine rvc_nil ?_
    refine Awp.ret ?_
    subst hR
    exact ⟨.inl rfl, rfl⟩
  ·
   replace hR := of_false h2 hR
   refine rvS ?_
   refine rvS ?_
   refine rvS ?_
   refine rvP C (.pv (.lit (.bool false))) ?_
   refine rvc_nil ?_
   refine Awp.condF (b := false) rfl rfl ?_
   refine Awp.skip ?_
   refine Awp.consP C ?_
   refine rvP C (.agg [.pv (.lit (.int .i64 k.c.kind)), .pv (.lit (.int .i64 k.c.node)), .pv (.lit (.int .i64 k.c.site)), .pv (.lit (.int .i64 k.c.epoch))]) ?_
   refine rvc_un (rexec_call hP C rfl rfl rfl (rCmdPut_calls k.c) ?_)
   refine rvP C (.tup [sS (some (rCmdPut k.c).1.nil) (eI .u8) ((rCmdPut k.c).1.D), .pv (.lit (.int .i64 ((rCmdPut k.c).2)))]) ?_
   refine rvP C (sS (some (rCmdPut k.c).1.nil) (eI .u8) ((rCmdPut k.c).1.D)) ?_
   refine rvP C (.pv (.lit (.int .i64 ((rCmdPut k.c).2)))) ?_
   refine rvP C (sS (some (rCmdPut k.c).1.nil) (eI .u8) ((rCmdPut k.c).1.D)) ?_
   refine rvP C (.pv (.lit (.int .i64 ((rCmdPut k.c).2)))) ?_
   refine rvc_nil ?_
   refine Awp.consP C ?_
   refine rvP C (sS (some (rCmdPut k.c).1.nil) (eI .u8) ((rCmdPut k.c).1.D)) ?_
   refine rvP C (sS (some (rCmdPut k.c).1.nil) (eI .u8) ((rCmdPut k.c).1.D)) ?_
   refine rvc_nil ?_
   refine Awp.ret ?_
   subst hR
   exact ⟨.inl rfl, rfl⟩
def short_l1 (x : (Sl Do)) (kk : Int → Int → Int → Bool) : Nat → Int → Int → Int → Bool
  | 0, _, _, _ => default
  | nn + 1, n1, acts1, i1 => (bif (decide (i1 < (x.D.length : Int))) then (bif (decide (acts1 ≤ 150)) then (bif (decide (n1 ≤ 4096)) then short_l1 x kk nn (IntKind.i64.wrap (n1 + (bif (decide ((4097 : Int) < ((x.D[i1.toNat]!.b.D).length : Int))) then (4097 : Int) else ((x.D[i1.toNat]!.b.D).length : Int)))) (IntKind.i64.wrap (acts1 + 1)) (IntKind.i64.wrap (i1 + 1)) else kk n1 acts1 i1) else kk n1 acts1 i1) else kk n1 acts1 i1)
def short_l0 : List (Sl Do) → Nat → Int → Int → Bool
  | [], _, n, acts => (bif (decide (acts ≤ 150)) then (decide (n ≤ 4096)) else false)
  | x :: xs, i, n, acts => short_l1 x (fun n1 acts1 _ => short_l0 xs (i + 1) n1 acts1) ((x.D.length - (0 : Int).toNat) + 1) n acts 0
def short (lists : (Sl (Sl Do))) : Bool :=
  short_l0 lists.D 0 0 0
theorem short_calls (lists : (Sl (Sl Do))) (hl1 : lists.D.length ≤ 9223372036854775807) : PCalls Try.prog 10 [sS (some lists.nil) (eSl eDo) lists.D] (.pv (.lit (.bool (short lists)))) := by
 generalize hR : short lists = R
 refine PCalls.of_body tabOk Try.func10 rfl rfl rfl rfl rfl mixed fun E hP C hI => ?_
 refine Awp.consP C ?_
 refine rvP C (.pv (.lit (.bool false))) ?_
 refine rvc_nil ?_
 refine Awp.consP C ?_
 refine rvP C (.pv (.lit (.int .i64 0))) ?_
 refine rvP C (.pv (.lit (.int .i64 0))) ?_
 refine rvc_nil ?_
 refine Awp.seq ?_
 refine Awp.consP C ?_
 refine rvP C (sS (some lists.nil) (eSl eDo) lists.D) ?_
 refine rvP C (.pv (.lit (.int .i64 (lists.D.length : Int)))) ?_
 refine rvP C (.pv (.lit (.int .i64 0))) ?_
 refine rvc_nil ?_
 refine Awp.block ?_
 refine Awp.forR (σ := Int × Int) (lists.D.length) (fun i v => [(3, .pv (.lit (.int .i64 v.1))), (4, .pv (.lit (.int .i64 v.2))), (8, sS (some lists.nil) (eSl eDo) lists.D), (9, .pv (.lit (.int .i64 (lists.D.length : Int)))), (10, .pv (.lit (.int .i64 (i : Int))))]) (fun i v => []) [] (fun i v => (short_l0 (lists.D.drop i) i v.1 v.2 = R) ∧ ((0 ≤ v.2 ∧ v.2 ≤ 151) ∧ (0 ≤ v.1 ∧ v.1 ≤ 8193))) (0, 0) ?_ ?_ (fun i v h1 hR => ?_)
 · exact ⟨hR, (by dsimp only; omega)⟩
 · exact ⟨fun b => b, WeakerR.ofL (Ks := []) hI ⟨⟨rfl, rfl⟩, ⟨rfl, rfl⟩, ⟨rfl, rfl⟩, ⟨rfl, rfl⟩, ⟨rfl, rfl⟩, trivial⟩ (okH_nil) rfl⟩
 obtain ⟨n, acts⟩ := v
 obtain ⟨hR, hV⟩ := hR
 replace hV : (0 ≤ acts ∧ acts ≤ 151) ∧ (0 ≤ n ∧ n ≤ 8193) := hV
 refine Awp.consP C ?_
 refine rvP C (.pv (.lit (.bool (decide ((i : Int) < (lists.D.length : Int)))))) ?_
 refine rvc_nil ?_
 refine Awp.seq ?_
 refine Awp.cond (b := (decide ((i : Int) < (lists.D.length : Int)))) rfl (fun h2 => ?_) (fun h2 => ?_)
 ·
  have h3 : i < lists.D.length := by have := of_decide_eq_true h2; omega
  obtain ⟨x, h4⟩ := getX h3
  rw [drop_at h4] at hR
  refine Awp.skip ?_
  refine Awp.seq ?_
  refine Awp.block ?_
  refine Awp.consP C ?_
  refine rvc_un (rexec_idxS C rfl rfl rfl rfl rfl rfl x (Int.natCast_nonneg _) h4 ?_)
  refine rvP C (sS (some x.nil) eDo x.D) ?_
  refine rvP C (sS (some x.nil) eDo x.D) ?_
  refine rvc_nil ?_
  refine Awp.consP C ?_
  refine rvP C (.pv (.lit (.int .i64 0))) ?_
  refine rvc_nil ?_
  refine Awp.block ?_
  refine Awp.forM (σ := Int × Int × Int) (fun v => [(3, .pv (.lit (.int .i64 v.1))), (4, .pv (.lit (.int .i64 v.2.1))), (6, sS (some x.nil) eDo x.D), (7, .pv (.lit (.int .i64 v.2.2))), (8, sS (some lists.nil) (eSl eDo) lists.D), (9, .pv (.lit (.int .i64 (lists.D.length : Int)))), (10, .pv (.lit (.int .i64 (i : Int))))]) (fun v => []) [] (fun n v => n = (x.D.length - (v.2.2 : Int).toNat) ∧ short_l1 x (fun n1 acts1 _ => short_l0 (lists.D.drop (i + 1)) (i + 1) n1 acts1) ((x.D.length - (v.2.2 : Int).toNat) + 1) v.1 v.2.1 v.2.2 = R ∧ (((0 ≤ v.2.1 ∧ v.2.1 ≤ 151) ∧ (0 ≤ v.1 ∧ v.1 ≤ 8193)) ∧ 0 ≤ v.2.2 ∧ v.2.2 ≤ (x.D.length : Int) ∧ v.2.2 ≤ v.2.1)) ((x.D.length - (0 : Int).toNat)) (n, acts, 0) ?_ ?_ (fun _ v h5 => ?_)
  · exact ⟨rfl, hR, (by dsimp only; omega)⟩
  · exact ⟨fun b => b, WeakerR.ofL (Ks := []) hI ⟨⟨rfl, rfl⟩, ⟨rfl, rfl⟩, ⟨rfl, rfl⟩, ⟨rfl, rfl⟩, ⟨rfl, rfl⟩, ⟨rfl, rfl⟩, ⟨rfl, rfl⟩, trivial⟩ (okH_nil) rfl⟩
  obtain ⟨n1, acts1, i1⟩ := v
  obtain ⟨rfl, hR, hW⟩ := h5
  replace hW : ((0 ≤ acts1 ∧ acts1 ≤ 151) ∧ (0 ≤ n1 ∧ n1 ≤ 8193)) ∧ 0 ≤ i1 ∧ i1 ≤ (x.D.length : Int) ∧ i1 ≤ acts1 := hW
  refine Awp.seq ?_
  refine Awp.consP C ?_
  refine rvP C (.pv (.lit (.int .i64 i1))) ?_
  refine rvP C (sS (some x.nil) eDo x.D) ?_
  refine rvP C (.pv (.lit (.int .i64 (x.D.length : Int)))) ?_
  refine rvP C (.pv (.lit (.bool (decide (i1 < (x.D.length : Int)))))) ?_
  refine rvP C (.pv (.lit (.bool (decide (i1 < (x.D.length : Int)))))) ?_
  refine rvc_case 18 (decide (i1 < (x.D.length : Int))) rfl (fun h7 => ?_) (fun h7 => ?_)
  ·
   replace hR := of_true h7 hR
   refine rvO C (.pv (.lit (.int .i64 acts1))) ?_
   refine rvO C (.pv (.lit (.bool (decide (acts1 ≤ 150))))) ?_
   refine rvP C (.pv (.lit (.bool (decide (acts1 ≤ 150))))) ?_
   refine rvP C (.pv (.lit (.bool (decide (acts1 ≤ 150))))) ?_
   refine rvc_case 22 (decide (acts1 ≤ 150)) rfl (fun h8 => ?_) (fun h8 => ?_)
   ·
    replace hR := of_true h8 hR
    refine rvO C (.pv (.lit (.int .i64 n1))) ?_
    refine rvO C (.pv (.lit (.bool (decide (n1 ≤ 4096))))) ?_
    refine rvP C (.pv (.lit (.bool (decide (n1 ≤ 4096))))) ?_
    refine rvc_nil ?_
    refine Awp.cond (b := (decide (n1 ≤ 4096))) rfl (fun h9 => ?_) (fun h9 => ?_)
    ·
     replace hR := of_true h9 hR
     refine Awp.skip ?_
     refine Awp.seq ?_
     refine Awp.block ?_
     refine Awp.consP C ?_
     refine rvP C (.pv (.lit (.int .i64 acts1))) ?_
     refine rvP C (.pv (.lit (.int .i64 (IntKind.i64.wrap (acts1 + 1))))) ?_
     refine rvP C (.pv (.lit (.int .i64 (IntKind.i64.wrap (acts1 + 1))))) ?_
     refine rvc_nil ?_
     refine Awp.regionP C ?_
     refine rvP C (.pv (.lit (.int .i64 n1))) ?_
     refine rvP C (sS (some x.nil) eDo x.D) ?_
     refine rvP C (.pv (.lit (.int .i64 i1))) ?_
     have h10 : x.D[i1.toNat]? = some x.D[i1.toNat]! := getE (by have := of_decide_eq_true h2; have := of_decide_eq_true h7; have := of_decide_eq_true h8; have := of_decide_eq_true h9; omega)
     refine rvc_un (rexec_idxS C rfl rfl rfl rfl rfl rfl (x.D[i1.toNat]!) (by have := of_decide_eq_true h2; have := of_decide_eq_true h7; have := of_decide_eq_true h8; have := of_decide_eq_true h9; omega) h10 ?_)
     refine rvP C (.rp [.sl (some x.D[i1.toNat]!.b.nil) (x.D[i1.toNat]!.b.D).length (encL (eI .u8) (x.D[i1.toNat]!.b.D))]) ?_
     refine rvP C (sS (some x.D[i1.toNat]!.b.nil) (eI .u8) (x.D[i1.toNat]!.b.D)) ?_
     refine rvP C (.pv (.lit (.int .i64 ((x.D[i1.toNat]!.b.D).length : Int)))) ?_
     refine rvc_un (rexec_min C rfl rfl rfl ?_)
     refine rvP C (.pv (.lit (.int .i64 (IntKind.i64.wrap (n1 + (bif (decide ((4097 : Int) < ((x.D[i1.toNat]!.b.D).length : Int))) then (4097 : Int) else ((x.D[i1.toNat]!.b.D).length : Int))))))) ?_
     refine rvP C (.pv (.lit (.int .i64 (IntKind.i64.wrap (n1 + (bif (decide ((4097 : Int) < ((x.D[i1.toNat]!.b.D).length : Int))) then (4097 : Int) else ((x.D[i1.toNat]!.b.D).length : Int))))))) ?_
     refine rvc_nil ?_
     refine Awp.regionP C ?_
     refine rvP C (.pv (.lit (.int .i64 i1))) ?_
     refine rvP C (.pv (.lit (.int .i64 (IntKind.i64.wrap (i1 + 1))))) ?_
     refine rvP C (.pv (.lit (.int .i64 (IntKind.i64.wrap (i1 + 1))))) ?_
     refine rvc_nil ?_
     refine ⟨_, ((IntKind.i64.wrap (n1 + (bif (decide ((4097 : Int) < ((x.D[i1.toNat]!.b.D).length : Int))) then (4097 : Int) else ((x.D[i1.toNat]!.b.D).length : Int)))), (IntKind.i64.wrap (acts1 + 1)), (IntKind.i64.wrap (i1 + 1))), ?_, ⟨rfl, (by rw [show (x.D.length - ((IntKind.i64.wrap (i1 + 1)) : Int).toNat) + 1 = (x.D.length - (i1 : Int).toNat) by have := wrapI (n1 + (bif (decide ((4097 : Int) < ((x.D[i1.toNat]!.b.D).length : Int))) then (4097 : Int) else ((x.D[i1.toNat]!.b.D).length : Int))); have := wrapI (acts1 + 1); have := wrapI (i1 + 1); have := of_decide_eq_true h2; have := of_decide_eq_true h7; have := of_decide_eq_true h8; have := of_decide_eq_true h9; first | omega | (simp only [List.length_drop]; omega)]; exact hR), (by have hm_ := min97 ((x.D[i1.toNat]!.b.D).length : Int); have := wrapI (n1 + (bif (decide ((4097 : Int) < ((x.D[i1.toNat]!.b.D).length : Int))) then (4097 : Int) else ((x.D[i1.toNat]!.b.D).length : Int))); have := wrapI (acts1 + 1); have := wrapI (i1 + 1); have := of_decide_eq_true ‹decide (i1 < (x.D.length : Int)) = true›; have := of_decide_eq_true ‹decide (acts1 ≤ 150) = true›; have := of_decide_eq_true ‹decide (n1 ≤ 4096) = true›; have := hm_ (Int.natCast_nonneg _); dsimp only; omega)⟩, ?_⟩
     · show (x.D.length - ((IntKind.i64.wrap (i1 + 1)) : Int).toNat) < (x.D.length - (i1 : Int).toNat); have := wrapI (n1 + (bif (decide ((4097 : Int) < ((x.D[i1.toNat]!.b.D).length : Int))) then (4097 : Int) else ((x.D[i1.toNat]!.b.D).length : Int))); have := wrapI (acts1 + 1); have := wrapI (i1 + 1); have := of_decide_eq_true h2; have := of_decide_eq_true h7; have := of_decide_eq_true h8; have := of_decide_eq_true h9; first | omega | (simp only [List.length_drop]; omega)
     · exact ⟨fun b => b, WeakerR.ofL (Ks := []) hI ⟨⟨rfl, rfl⟩, ⟨rfl, rfl⟩, ⟨rfl, rfl⟩, ⟨rfl, rfl⟩, ⟨rfl, rfl⟩, ⟨rfl, rfl⟩, ⟨rfl, rfl⟩, trivial⟩ (okH_nil) rfl⟩
    ·
     replace hR := of_false h9 hR
     refine Awp.exit ?_
     refine Awp.regionP C ?_
     refine rvP C (.pv (.lit (.int .i64 (IntKind.i64.wrap ((i : Int) + 1))))) ?_
     refine rvP C (.pv (.lit (.int .i64 (IntKind.i64.wrap ((i : Int) + 1))))) ?_
     refine rvc_nil ?_
     refine ⟨h3, (n1, acts1), ?_, ?_⟩
     · exact ⟨hR, hW.1⟩
     · exact ⟨fun b => b, WeakerR.ofL (Ks := []) hI ⟨⟨rfl, rfl⟩, ⟨rfl, rfl⟩, ⟨rfl, rfl⟩, ⟨rfl, rfl⟩, ⟨lit_cast (wrap_i64 (by omega) (by omega)), rfl⟩, trivial⟩ (okH_nil) rfl⟩
   ·
    replace hR := of_false h8 hR
    refine rvS ?_
    refine rvS ?_
    refine rvP C (.pv (.lit (.bool false))) ?_
    refine rvc_nil ?_
    refine Awp.condF (b := false) rfl rfl ?_
    refine Awp.exit ?_
    refine Awp.regionP C ?_
    refine rvP C (.pv (.lit (.int .i64 (IntKind.i64.wrap ((i : Int) + 1))))) ?_
    refine rvP C (.pv (.lit (.int .i64 (IntKind.i64.wrap ((i : Int) + 1))))) ?_
    refine rvc_nil ?_
    refine ⟨h3, (n1, acts1), ?_, ?_⟩
    · exact ⟨hR, hW.1⟩
    · exact ⟨fun b => b, WeakerR.ofL (Ks := []) hI ⟨⟨rfl, rfl⟩, ⟨rfl, rfl⟩, ⟨rfl, rfl⟩, ⟨rfl, rfl⟩, ⟨lit_cast (wrap_i64 (by omega) (by omega)), rfl⟩, trivial⟩ (okH_nil) rfl⟩
  ·
   replace hR := of_false h7 hR
   refine rvS ?_
   refine rvS ?_
   refine rvP C (.pv (.lit (.bool false))) ?_
   refine rvP C (.pv (.lit (.bool false))) ?_
   refine rvS ?_
   refine rvS ?_
   refine rvP C (.pv (.lit (.bool false))) ?_
   refine rvc_nil ?_
   refine Awp.condF (b := false) rfl rfl ?_
   refine Awp.exit ?_
   refine Awp.regionP C ?_
   refine rvP C (.pv (.lit (.int .i64 (IntKind.i64.wrap ((i : Int) + 1))))) ?_
   refine rvP C (.pv (.lit (.int .i64 (IntKind.i64.wrap ((i : Int) + 1))))) ?_
   refine rvc_nil ?_
   refine ⟨h3, (n1, acts1), ?_, ?_⟩
   · exact ⟨hR, hW.1⟩
   · exact ⟨fun b => b, WeakerR.ofL (Ks := []) hI ⟨⟨rfl, rfl⟩, ⟨rfl, rfl⟩, ⟨rfl, rfl⟩, ⟨rfl, rfl⟩, ⟨lit_cast (wrap_i64 (by omega) (by omega)), rfl⟩, trivial⟩ (okH_nil) rfl⟩
 ·
  have h3 : ¬ i < lists.D.length := by have := of_decide_eq_false h2; omega
  rw [drop_end h3] at hR
  refine Awp.exit ?_
  refine Awp.consP C ?_
  refine rvP C (.pv (.lit (.int .i64 acts))) ?_
  refine rvP C (.pv (.lit (.bool (decide (acts ≤ 150))))) ?_
  refine rvP C (.pv (.lit (.bool (decide (acts ≤ 150))))) ?_
  refine rvc_case 42 (decide (acts ≤ 150)) rfl (fun h11 => ?_) (fun h11 => ?_)
  ·
   replace hR := of_true h11 hR
   refine rvO C (.pv (.lit (.int .i64 n))) ?_
   refine rvO C (.pv (.lit (.bool (decide (n ≤ 4096))))) ?_
   refine rvP C (.pv (.lit (.bool (decide (n ≤ 4096))))) ?_
   refine rvP C (.pv (.lit (.bool (decide (n ≤ 4096))))) ?_
   refine rvc_nil ?_
   refine Awp.ret ?_
   subst hR
   exact ⟨.inl rfl, rfl⟩
  ·
   replace hR := of_false h11 hR
   refine rvS ?_
   refine rvS ?_
   refine rvP C (.pv (.lit (.bool false))) ?_
   refine rvP C (.pv (.lit (.bool false))) ?_
   refine rvc_nil ?_
   refine Awp.ret ?_
   subst hR
   exact ⟨.inl rfl, rfl⟩
end Go.Proofs.Ytpgenmflgdkfiaa
/- Ledgers made. No conditions. -/
namespace Go.Proofs.Ytpgenmflgdkfiaa
open Go.Am
def newL (l : (Sl Member)) : Ledger × Int :=
  ((Ledger.mk (Past.mk (Sl.mk false [(firstC l).1])) ((firstC l).1) 0), 0)
theorem newL_calls (l : (Sl Member)) (h0 : (((firstC l).2) != 0) = false) (hl1 : l.D.length ≤ 1000000) : OCalls Try.prog 12 [sS (some l.nil) eMember l.D] (.tup [.ptr 0 0, .pv (.lit (.int .i64 ((newL l).2)))]) (.cells [sS (some (newL l).1.past.all.nil) eChain ((newL l).1.past.all.D), .pv (.lit (.int .i64 ((newL l).1.chain.epoch))), sS (some (newL l).1.chain.members.nil) eMember ((newL l).1.chain.members.D), .pv (.lit (.int .i64 ((newL l).1.at_)))]) := by
 generalize hR : newL l = R
 refine OCalls.of_body tabOk Try.func12 rfl rfl rfl rfl rfl rfl mixed fun E hP C hI => ?_
 refine Awp.consP C ?_
 refine rvP C (.pv (.lit (.pointer none))) ?_
 refine rvP C (.pv (.lit (.int .i64 0))) ?_
 refine rvc_nil ?_
 refine Awp.consP C ?_
 refine rvP C (sS (some l.nil) eMember l.D) ?_
 refine rvc_un (rexec_call hP C rfl rfl rfl (firstC_calls l hl1) ?_)
 refine rvP C (.tup [.agg [.pv (.lit (.int .i64 ((firstC l).1.epoch))), sS (some (firstC l).1.members.nil) eMember ((firstC l).1.members.D)], .pv (.lit (.int .i64 ((firstC l).2)))]) ?_
 refine rvP C (.agg [.pv (.lit (.int .i64 ((firstC l).1.epoch))), sS (some (firstC l).1.members.nil) eMember ((firstC l).1.members.D)]) ?_
 refine rvP C (.pv (.lit (.int .i64 ((firstC l).2)))) ?_
 refine rvc_un (rexec_prim C (δ := { v := .ptr 4 0, new := [(4, .cells [.pv (.lit (.int .i64 0)), sS (some true) eMember []])] }) rfl rfl rfl rfl trivial rfl ?_)
 refine rvc_un (rexec_prim C (δ := { v := .undef, wr := [(4, some (.cells [.pv (.lit (.int .i64 ((firstC l).1.epoch))), sS (some (firstC l).1.members.nil) eMember ((firstC l).1.members.D)]))] }) rfl rfl rfl rfl trivial rfl ?_)
 refine rvP C (.pv (.lit (.int .i64 ((firstC l).2)))) ?_
 refine rvc_nil ?_
 refine Awp.seq ?_
 refine Awp.consP C ?_
 refine rvP C (.pv (.lit (.int .i64 ((firstC l).2)))) ?_
 refine rvP C (.pv (.lit (.bool (((firstC l).2) != 0)))) ?_
 refine rvc_nil ?_
 refine Awp.condF (b := (((firstC l).2) != 0)) rfl h0 ?_
 refine Awp.skip ?_
 refine Awp.consP C ?_
 refine rvP C (.agg [.pv (.lit (.int .i64 ((firstC l).1.epoch))), sS (some (firstC l).1.members.nil) eMember ((firstC l).1.members.D)]) ?_
 refine rvc_un (rexec_buildSliceF C eChain [(firstC l).1] rfl rfl rfl rfl rfl rfl rfl (by decide) rfl ?_)
 refine rvP C (.agg [sS (some false) eChain [(firstC l).1]]) ?_
 refine rvP C (.agg [.pv (.lit (.int .i64 ((firstC l).1.epoch))), sS (some (firstC l).1.members.nil) eMember ((firstC l).1.members.D)]) ?_
 refine rvP C (.agg [sS (some false) eChain [(firstC l).1], .pv (.lit (.int .i64 ((firstC l).1.epoch))), sS (some (firstC l).1.members.nil) eMember ((firstC l).1.members.D), .pv (.lit (.int .i64 0))]) ?_
 refine rvc_un (rexec_prim C (δ := { v := .ptr 19 0, new := [(19, .cells [sS (some false) eChain [(firstC l).1], .pv (.lit (.int .i64 ((firstC l).1.epoch))), sS (some (firstC l).1.members.nil) eMember ((firstC l).1.members.D), .pv (.lit (.int .i64 0))])] }) rfl rfl rfl rfl trivial rfl ?_)
 refine rvP C (.ptr 19 0) ?_
 refine rvP C (.pv (.lit (.int .i64 0))) ?_
 refine rvc_nil ?_
 refine Awp.weakenR (S := [(2, .ptr 0 0), (3, .pv (.lit (.int .i64 0)))]) (H := [(0, .cells [sS (some false) eChain [(firstC l).1], .pv (.lit (.int .i64 ((firstC l).1.epoch))), sS (some (firstC l).1.members.nil) eMember ((firstC l).1.members.D), .pv (.lit (.int .i64 0))])]) (U := [0]) (fun x => bif x == 0 then 19 else x) (WeakerR.ofL (Ks := [0]) hI ⟨⟨rfl, rfl⟩, ⟨rfl, rfl⟩, trivial⟩ (okH_cons rfl rfl rfl rfl okH_nil) rfl) ?_
 refine Awp.ret ?_
 subst hR
 exact ⟨.inl rfl, rfl, rfl⟩
end Go.Proofs.Ytpgenmflgdkfiaa
/- Ledgers behind calls: how long chains and commands' bytes are. No conditions. -/
namespace Go.Proofs.Ytpgenmflgdkfiaa
open Go.Am
theorem rPut_l1_len {B : Nat} (kk : List Int → Int → Sl Int) : ∀ (k i : Nat) (out : List Int) (n : Int), (∀ out' n', out'.length ≤ out.length + k → (kk out' n').D.length ≤ B) → (rPut_l1 kk k i out n).D.length ≤ B
  | 0, _, out, n, h => h out n (Nat.le_refl _)
  | k + 1, i, out, n, h => by
    unfold rPut_l1
    cases decide (n < 128)
    · exact rPut_l1_len kk k (i + 1) _ _ fun o m ho => h o m (by rw [List.length_append, List.length_singleton] at ho; omega)
    · exact h out n (by omega)
theorem rPut_l0_len : ∀ (l : List Int) (i : Nat) (out : List Int), (rPut_l0 l i out).D.length ≤ out.length + 11 * l.length
  | [], _, out => Nat.le_refl _
  | x :: l, i, out => by
    unfold rPut_l0
    refine rPut_l1_len _ 10 0 out x fun o n ho => ?_
    have := rPut_l0_len l (i + 1) (o ++ [IntKind.u8.wrap n])
    rw [List.length_append, List.length_singleton] at this
    simp only [List.length_cons]
    omega
theorem rCmdPut_len (c : Command) : (rCmdPut c).1.D.length ≤ 44 := by
  unfold rCmdPut
  cases (rCmdCheck c) != 0
  · exact rPut_l0_len _ 0 []
  · exact Nat.zero_le _
theorem data_len (k : Do) (e : Int) (h : k.b.D.length ≤ 100000) : (doData k e).D.length ≤ 1000000 := by
  unfold doData
  have h1 := rCmdPut_len k.c
  have h2 := rCmdPut_len (Command.mk k.c.kind k.c.node k.c.site (IntKind.i64.wrap (e + k.off)))
  cases k.raw
  · cases decide (k.off > (-4))
    · simp only [cond_false]; omega
    · cases decide (k.off < 4)
      · simp only [cond_false, cond_true]; omega
      · simp only [cond_false, cond_true]; omega
  · simp only [cond_true]; omega
theorem newL_e (m : Sl Member) : (((newL m).2) != 0) = false := rfl
end Go.Proofs.Ytpgenmflgdkfiaa
/- A ledger behind calls. No conditions. -/
namespace Go.Proofs.Ytpgenmflgdkfiaa
open Go.Am
def made_l0 : List Do → Nat → Ledger → Ledger
  | [], _, vc => vc
  | x :: xs, i, vc => made_l0 xs (i + 1) ((lApply vc (doIndex x (lAt vc)) (doData x ((lChain vc).epoch))).1)
def made (m : (Sl Member)) (l : (Sl Do)) : Ledger :=
  made_l0 l.D 0 ((newL m).1)
end Go.Proofs.Ytpgenmflgdkfiaa
/- Ledgers behind calls: they may be asked. No conditions. -/
namespace Go.Proofs.Ytpgenmflgdkfiaa
open Go.Am
end Go.Proofs.Ytpgenmflgdkfiaa
/- The example; a law. No conditions. -/
namespace Go.Proofs.Ytpgenmflgdkfiaa
open Go.Am
def awake  : Bool :=
  (bif (((cmdPut (Command.mk 1 0 0 1)).2) != 0) then false else (bif (((lApply ((newL (Sl.mk false [(Member.mk 0 0 false), (Member.mk 1 0 false)])).1) 1 ((cmdPut (Command.mk 1 0 0 1)).1)).2) != 0) then false else (bif (same (lChain ((lApply ((newL (Sl.mk false [(Member.mk 0 0 false), (Member.mk 1 0 false)])).1) 1 ((cmdPut (Command.mk 1 0 0 1)).1)).1)) (Chain.mk 2 (Sl.mk false [(Member.mk 1 0 false)]))) then (bif (((lApply ((lApply ((newL (Sl.mk false [(Member.mk 0 0 false), (Member.mk 1 0 false)])).1) 1 ((cmdPut (Command.mk 1 0 0 1)).1)).1) 2 ((cmdPut (Command.mk 1 0 0 1)).1)).2) == 150) then (bif ((lAt ((lApply ((lApply ((newL (Sl.mk false [(Member.mk 0 0 false), (Member.mk 1 0 false)])).1) 1 ((cmdPut (Command.mk 1 0 0 1)).1)).1) 2 ((cmdPut (Command.mk 1 0 0 1)).1)).1)) == 2) then (((lApply ((lApply ((lApply ((newL (Sl.mk false [(Member.mk 0 0 false), (Member.mk 1 0 false)])).1) 1 ((cmdPut (Command.mk 1 0 0 1)).1)).1) 2 ((cmdPut (Command.mk 1 0 0 1)).1)).1) 2 (Sl.mk true [])).2) == 90) else false) else false) else false)))
theorem awake_calls   : PCalls Try.prog 11 [] (.pv (.lit (.bool (awake )))) := by
 generalize hR : awake  = R
 refine PCalls.of_body tabOk Try.func11 rfl rfl rfl rfl rfl mixed fun E hP C hI => ?_
 refine Awp.consP C ?_
 refine rvP C (.pv (.lit (.bool false))) ?_
 refine rvc_nil ?_
 refine Awp.cons C (fun _ => .quiet) (by kernel_rfl) ?_
 refine rvP C (.agg [.pv (.lit (.int .i64 0)), .pv (.lit (.int .i64 0)), .pv (.lit (.bool false))]) ?_
 refine rvP C (.agg [.pv (.lit (.int .i64 1)), .pv (.lit (.int .i64 0)), .pv (.lit (.bool false))]) ?_
 refine rvc_un (rexec_buildSliceF C eMember [(Member.mk 0 0 false), (Member.mk 1 0 false)] rfl rfl rfl rfl rfl rfl rfl (by decide) rfl ?_)
 refine rvc_un (rexec_callO hP C rfl rfl rfl rfl (newL_calls (Sl.mk false [(Member.mk 0 0 false), (Member.mk 1 0 false)]) (by kernel_rfl) (by simp)) ?_)
 refine rvP C (.tup [.ptr 9 0, .pv (.lit (.int .i64 ((newL (Sl.mk false [(Member.mk 0 0 false), (Member.mk 1 0 false)])).2)))]) ?_
 refine rvP C (.ptr 9 0) ?_
 refine rvP C (.pv (.lit (.int .i64 ((newL (Sl.mk false [(Member.mk 0 0 false), (Member.mk 1 0 false)])).2)))) ?_
 refine rvP C (.ptr 9 0) ?_
 refine rvP C (.pv (.lit (.int .i64 ((newL (Sl.mk false [(Member.mk 0 0 false), (Member.mk 1 0 false)])).2)))) ?_
 refine rvc_nil ?_
 refine Awp.consP C ?_
 refine rvP C (.agg [.pv (.lit (.int .i64 1)), .pv (.lit (.int .i64 0)), .pv (.lit (.int .i64 0)), .pv (.lit (.int .i64 1))]) ?_
 refine rvc_un (rexec_call hP C rfl rfl rfl (cmdPut_calls (Command.mk 1 0 0 1)) ?_)
 refine rvP C (.tup [sS (some (cmdPut (Command.mk 1 0 0 1)).1.nil) (eI .u8) ((cmdPut (Command.mk 1 0 0 1)).1.D), .pv (.lit (.int .i64 ((cmdPut (Command.mk 1 0 0 1)).2)))]) ?_
 refine rvP C (sS (some (cmdPut (Command.mk 1 0 0 1)).1.nil) (eI .u8) ((cmdPut (Command.mk 1 0 0 1)).1.D)) ?_
 refine rvP C (.pv (.lit (.int .i64 ((cmdPut (Command.mk 1 0 0 1)).2)))) ?_
 refine rvP C (sS (some (cmdPut (Command.mk 1 0 0 1)).1.nil) (eI .u8) ((cmdPut (Command.mk 1 0 0 1)).1.D)) ?_
 refine rvP C (.pv (.lit (.int .i64 ((cmdPut (Command.mk 1 0 0 1)).2)))) ?_
 refine rvc_nil ?_
 refine Awp.seq ?_
 refine Awp.cons C (fun _ => .writer) (by kernel_rfl) ?_
 refine rvP C (.pv (.lit (.int .i64 ((newL (Sl.mk false [(Member.mk 0 0 false), (Member.mk 1 0 false)])).2)))) ?_
 refine rvP C (.pv (.lit (.bool (((newL (Sl.mk false [(Member.mk 0 0 false), (Member.mk 1 0 false)])).2) != 0)))) ?_
 refine rvP C (.pv (.lit (.bool (((newL (Sl.mk false [(Member.mk 0 0 false), (Member.mk 1 0 false)])).2) != 0)))) ?_
 refine rvc_known 19 (((newL (Sl.mk false [(Member.mk 0 0 false), (Member.mk 1 0 false)])).2) != 0) false rfl (newL_e (Sl.mk false [(Member.mk 0 0 false), (Member.mk 1 0 false)])) ?_
 refine rvO C (.pv (.lit (.int .i64 ((cmdPut (Command.mk 1 0 0 1)).2)))) ?_
 refine rvO C (.pv (.lit (.bool (((cmdPut (Command.mk 1 0 0 1)).2) != 0)))) ?_
 refine rvP C (.pv (.lit (.bool (((cmdPut (Command.mk 1 0 0 1)).2) != 0)))) ?_
 refine rvP C (.pv (.lit (.bool (((cmdPut (Command.mk 1 0 0 1)).2) != 0)))) ?_
 refine rvc_case 23 (((cmdPut (Command.mk 1 0 0 1)).2) != 0) rfl (fun h1 => ?_) (fun h1 => ?_)
 ·
  replace hR := of_true h1 hR
  refine rvS ?_
  refine rvS ?_
  refine rvS ?_
  refine rvS ?_
  refine rvP C (.pv (.lit (.bool true))) ?_
  refine rvc_nil ?_
  refine Awp.condT (b := true) rfl rfl ?_
  refine Awp.consP C ?_
  refine rvP C (.pv (.lit (.bool false))) ?_
  refine rvc_nil ?_
  refine Awp.ret ?_
  subst hR
  exact ⟨.inl rfl, rfl⟩
 ·
  replace hR := of_false h1 hR
  refine rvO C (.ptr 9 0) ?_
  refine rvO C (sS (some (cmdPut (Command.mk 1 0 0 1)).1.nil) (eI .u8) ((cmdPut (Command.mk 1 0 0 1)).1.D)) ?_
  refine rvc_open rfl rfl rfl (rexec_callM hP C (b := 9) rfl rfl rfl (lApply_calls ((newL (Sl.mk false [(Member.mk 0 0 false), (Member.mk 1 0 false)])).1) 1 ((cmdPut (Command.mk 1 0 0 1)).1) (fun h => absurd (h.symm.trans (by kernel_rfl : _ = false)) Bool.noConfusion) (of_decide_eq_true (by kernel_rfl)) (of_decide_eq_true (by kernel_rfl)) (of_decide_eq_true (by kernel_rfl))) rfl rfl ?_)
  refine rvO C (.pv (.lit (.bool (((lApply ((newL (Sl.mk false [(Member.mk 0 0 false), (Member.mk 1 0 false)])).1) 1 ((cmdPut (Command.mk 1 0 0 1)).1)).2) != 0)))) ?_
  refine rvP C (.pv (.lit (.bool (((lApply ((newL (Sl.mk false [(Member.mk 0 0 false), (Member.mk 1 0 false)])).1) 1 ((cmdPut (Command.mk 1 0 0 1)).1)).2) != 0)))) ?_
  refine rvc_nil ?_
  refine Awp.cond (b := (((lApply ((newL (Sl.mk false [(Member.mk 0 0 false), (Member.mk 1 0 false)])).1) 1 ((cmdPut (Command.mk 1 0 0 1)).1)).2) != 0)) rfl (fun h2 => ?_) (fun h2 => ?_)
  ·
   replace hR := of_true h2 hR
   refine Awp.consP C ?_
   refine rvP C (.pv (.lit (.bool false))) ?_
   refine rvc_nil ?_
   refine Awp.ret ?_
   subst hR
   exact ⟨.inl rfl, rfl⟩
  ·
   replace hR := of_false h2 hR
   refine Awp.skip ?_
   refine Awp.cons C (fun _ => .writer) (by kernel_rfl) ?_
   refine rvP C (.ptr 9 0) ?_
   refine rvc_un (rexec_callM hP C (b := 9) rfl rfl rfl (lChain_calls ((lApply ((newL (Sl.mk false [(Member.mk 0 0 false), (Member.mk 1 0 false)])).1) 1 ((cmdPut (Command.mk 1 0 0 1)).1)).1) (of_decide_eq_true (by kernel_rfl))) rfl rfl ?_)
   refine rvP C (.agg [.pv (.lit (.int .i64 1)), .pv (.lit (.int .i64 0)), .pv (.lit (.bool false))]) ?_
   refine rvc_un (rexec_buildSliceF C eMember [(Member.mk 1 0 false)] rfl rfl rfl rfl rfl rfl rfl (by decide) rfl ?_)
   refine rvP C (.agg [.pv (.lit (.int .i64 2)), sS (some false) eMember [(Member.mk 1 0 false)]]) ?_
   refine rvc_un (rexec_call hP C rfl rfl rfl (same_calls (lChain ((lApply ((newL (Sl.mk false [(Member.mk 0 0 false), (Member.mk 1 0 false)])).1) 1 ((cmdPut (Command.mk 1 0 0 1)).1)).1)) (Chain.mk 2 (Sl.mk false [(Member.mk 1 0 false)])) (of_decide_eq_true (by kernel_rfl))) ?_)
   refine rvP C (.pv (.lit (.bool (same (lChain ((lApply ((newL (Sl.mk false [(Member.mk 0 0 false), (Member.mk 1 0 false)])).1) 1 ((cmdPut (Command.mk 1 0 0 1)).1)).1)) (Chain.mk 2 (Sl.mk false [(Member.mk 1 0 false)])))))) ?_
   refine rvc_case 35 (same (lChain ((lApply ((newL (Sl.mk false [(Member.mk 0 0 false), (Member.mk 1 0 false)])).1) 1 ((cmdPut (Command.mk 1 0 0 1)).1)).1)) (Chain.mk 2 (Sl.mk false [(Member.mk 1 0 false)]))) rfl (fun h3 => ?_) (fun h3 => ?_)
   ·
    replace hR := of_true h3 hR
    refine rvO C (.ptr 9 0) ?_
    refine rvO C (sS (some (cmdPut (Command.mk 1 0 0 1)).1.nil) (eI .u8) ((cmdPut (Command.mk 1 0 0 1)).1.D)) ?_
    refine rvc_open rfl rfl rfl (rexec_callM hP C (b := 9) rfl rfl rfl (lApply_calls ((lApply ((newL (Sl.mk false [(Member.mk 0 0 false), (Member.mk 1 0 false)])).1) 1 ((cmdPut (Command.mk 1 0 0 1)).1)).1) 2 ((cmdPut (Command.mk 1 0 0 1)).1) (fun h => absurd (h.symm.trans (by kernel_rfl : _ = false)) Bool.noConfusion) (of_decide_eq_true (by kernel_rfl)) (of_decide_eq_true (by kernel_rfl)) (of_decide_eq_true (by kernel_rfl))) rfl rfl ?_)
    refine rvO C (.pv (.lit (.bool (((lApply ((lApply ((newL (Sl.mk false [(Member.mk 0 0 false), (Member.mk 1 0 false)])).1) 1 ((cmdPut (Command.mk 1 0 0 1)).1)).1) 2 ((cmdPut (Command.mk 1 0 0 1)).1)).2) == 150)))) ?_
    refine rvP C (.pv (.lit (.bool (((lApply ((lApply ((newL (Sl.mk false [(Member.mk 0 0 false), (Member.mk 1 0 false)])).1) 1 ((cmdPut (Command.mk 1 0 0 1)).1)).1) 2 ((cmdPut (Command.mk 1 0 0 1)).1)).2) == 150)))) ?_
    refine rvP C (.pv (.lit (.bool (((lApply ((lApply ((newL (Sl.mk false [(Member.mk 0 0 false), (Member.mk 1 0 false)])).1) 1 ((cmdPut (Command.mk 1 0 0 1)).1)).1) 2 ((cmdPut (Command.mk 1 0 0 1)).1)).2) == 150)))) ?_
    refine rvc_case 41 (((lApply ((lApply ((newL (Sl.mk false [(Member.mk 0 0 false), (Member.mk 1 0 false)])).1) 1 ((cmdPut (Command.mk 1 0 0 1)).1)).1) 2 ((cmdPut (Command.mk 1 0 0 1)).1)).2) == 150) rfl (fun h4 => ?_) (fun h4 => ?_)
    ·
     replace hR := of_true h4 hR
     refine rvO C (.ptr 9 0) ?_
     refine rvc_open rfl rfl rfl (rexec_callM hP C (b := 9) rfl rfl rfl (lAt_calls ((lApply ((lApply ((newL (Sl.mk false [(Member.mk 0 0 false), (Member.mk 1 0 false)])).1) 1 ((cmdPut (Command.mk 1 0 0 1)).1)).1) 2 ((cmdPut (Command.mk 1 0 0 1)).1)).1)) rfl rfl ?_)
     refine rvO C (.pv (.lit (.bool ((lAt ((lApply ((lApply ((newL (Sl.mk false [(Member.mk 0 0 false), (Member.mk 1 0 false)])).1) 1 ((cmdPut (Command.mk 1 0 0 1)).1)).1) 2 ((cmdPut (Command.mk 1 0 0 1)).1)).1)) == 2)))) ?_
     refine rvP C (.pv (.lit (.bool ((lAt ((lApply ((lApply ((newL (Sl.mk false [(Member.mk 0 0 false), (Member.mk 1 0 false)])).1) 1 ((cmdPut (Command.mk 1 0 0 1)).1)).1) 2 ((cmdPut (Command.mk 1 0 0 1)).1)).1)) == 2)))) ?_
     refine rvP C (.pv (.lit (.bool ((lAt ((lApply ((lApply ((newL (Sl.mk false [(Member.mk 0 0 false), (Member.mk 1 0 false)])).1) 1 ((cmdPut (Command.mk 1 0 0 1)).1)).1) 2 ((cmdPut (Command.mk 1 0 0 1)).1)).1)) == 2)))) ?_
     refine rvc_case 46 ((lAt ((lApply ((lApply ((newL (Sl.mk false [(Member.mk 0 0 false), (Member.mk 1 0 false)])).1) 1 ((cmdPut (Command.mk 1 0 0 1)).1)).1) 2 ((cmdPut (Command.mk 1 0 0 1)).1)).1)) == 2) rfl (fun h5 => ?_) (fun h5 => ?_)
     ·
      replace hR := of_true h5 hR
      refine rvO C (.ptr 9 0) ?_
      refine rvc_open rfl rfl rfl (rexec_callM hP C (b := 9) rfl rfl rfl (lApply_calls ((lApply ((lApply ((newL (Sl.mk false [(Member.mk 0 0 false), (Member.mk 1 0 false)])).1) 1 ((cmdPut (Command.mk 1 0 0 1)).1)).1) 2 ((cmdPut (Command.mk 1 0 0 1)).1)).1) 2 (Sl.mk true []) (fun h => absurd (h.symm.trans (by kernel_rfl : _ = false)) Bool.noConfusion) (of_decide_eq_true (by kernel_rfl)) (of_decide_eq_true (by kernel_rfl)) (of_decide_eq_true (by kernel_rfl))) rfl rfl ?_)
      refine rvO C (.pv (.lit (.bool (((lApply ((lApply ((lApply ((newL (Sl.mk false [(Member.mk 0 0 false), (Member.mk 1 0 false)])).1) 1 ((cmdPut (Command.mk 1 0 0 1)).1)).1) 2 ((cmdPut (Command.mk 1 0 0 1)).1)).1) 2 (Sl.mk true [])).2) == 90)))) ?_
      refine rvP C (.pv (.lit (.bool (((lApply ((lApply ((lApply ((newL (Sl.mk false [(Member.mk 0 0 false), (Member.mk 1 0 false)])).1) 1 ((cmdPut (Command.mk 1 0 0 1)).1)).1) 2 ((cmdPut (Command.mk 1 0 0 1)).1)).1) 2 (Sl.mk true [])).2) == 90)))) ?_
      refine rvP C (.pv (.lit (.bool (((lApply ((lApply ((lApply ((newL (Sl.mk false [(Member.mk 0 0 false), (Member.mk 1 0 false)])).1) 1 ((cmdPut (Command.mk 1 0 0 1)).1)).1) 2 ((cmdPut (Command.mk 1 0 0 1)).1)).1) 2 (Sl.mk true [])).2) == 90)))) ?_
      refine rvc_nil ?_
      refine Awp.ret ?_
      subst hR
      exact ⟨.inl rfl, rfl⟩
     ·
      replace hR := of_false h5 hR
      refine rvS ?_
      refine rvS ?_
      refine rvS ?_
      refine rvP C (.pv (.lit (.bool false))) ?_
      refine rvP C (.pv (.lit (.bool false))) ?_
      refine rvc_nil ?_
      refine Awp.ret ?_
      subst hR
      exact ⟨.inl rfl, rfl⟩
    ·
     replace hR := of_false h4 hR
     refine rvS ?_
     refine rvS ?_
     refine rvS ?_
     refine rvP C (.pv (.lit (.bool false))) ?_
     refine rvP C (.pv (.lit (.bool false))) ?_
     refine rvS ?_
     refine rvS ?_
     refine rvS ?_
     refine rvP C (.pv (.lit (.bool false))) ?_
     refine rvP C (.pv (.lit (.bool false))) ?_
     refine rvc_nil ?_
     refine Awp.ret ?_
     subst hR
     exact ⟨.inl rfl, rfl⟩
   ·
    replace hR := of_false h3 hR
    refine rvS ?_
    refine rvS ?_
    refine rvS ?_
    refine rvS ?_
    refine rvP C (.pv (.lit (.bool false))) ?_
    refine rvP C (.pv (.lit (.bool false))) ?_
    refine rvS ?_
    refine rvS ?_
    refine rvS ?_
    refine rvP C (.pv (.lit (.bool false))) ?_
    refine rvP C (.pv (.lit (.bool false))) ?_
    refine rvS ?_
    refine rvS ?_
    refine rvS ?_
    refine rvP C (.pv (.lit (.bool false))) ?_
    refine rvP C (.pv (.lit (.bool false))) ?_
    refine rvc_nil ?_
    refine Awp.ret ?_
    subst hR
    exact ⟨.inl rfl, rfl⟩
end Go.Proofs.Ytpgenmflgdkfiaa
/- Calls that may be gone through are few. No conditions. -/
namespace Go.Proofs.Ytpgenmflgdkfiaa
open Go.Am
theorem short_l1_ok (x : Sl Do) (kk : Int → Int → Int → Bool) (hk : ∀ n a i, 0 ≤ a → a ≤ 151 → 0 ≤ n → n ≤ 8193 → kk n a i = true → a ≤ 150 ∧ n ≤ 4096) : ∀ (f : Nat) (n a i : Int), f = x.D.length - i.toNat + 1 → 0 ≤ i → i ≤ (x.D.length : Int) → i ≤ a → a ≤ 151 → 0 ≤ n → n ≤ 8193 → short_l1 x kk f n a i = true →
    (a ≤ 150 ∧ n ≤ 4096) ∧ (x.D.length : Int) - i + a ≤ 150 ∧ ∀ j, i.toNat ≤ j → ∀ y, x.D[j]? = some y → y.b.D.length ≤ 4096
  | 0, _, _, _, hf, _, _, _, _, _, _, _ => by omega
  | f + 1, n, a, i, hf, h0, h1, h2, h3, h4, h5, h => by
    unfold short_l1 at h
    cases e1 : decide (i < (x.D.length : Int))
    · rw [e1] at h
      have h6 := of_decide_eq_false e1
      have h7 := hk n a i (by omega) h3 h4 h5 h
      refine ⟨h7, by omega, fun j hj y hy => ?_⟩
      rw [List.getElem?_eq_none (by omega)] at hy; cases hy
    · have h6 := of_decide_eq_true e1
      rw [e1] at h
      simp only [cond_true] at h
      cases e2 : decide (a ≤ 150)
      · rw [e2] at h
        have := of_decide_eq_false e2
        have := (hk n a i (by omega) h3 h4 h5 h).1
        omega
      · have h7 := of_decide_eq_true e2
        rw [e2] at h
        simp only [cond_true] at h
        cases e3 : decide (n ≤ 4096)
        · rw [e3] at h
          have := of_decide_eq_false e3
          have := (hk n a i (by omega) h3 h4 h5 h).2
          omega
        · have h8 := of_decide_eq_true e3
          rw [e3] at h
          simp only [cond_true] at h
          have hm := min97 ((x.D[i.toNat]!.b.D).length : Int) (Int.natCast_nonneg _)
          have hw1 := wrapI (n + (bif (decide ((4097 : Int) < ((x.D[i.toNat]!.b.D).length : Int))) then (4097 : Int) else ((x.D[i.toNat]!.b.D).length : Int)))
          have hw2 := wrapI (a + 1)
          have hw3 := wrapI (i + 1)
          have ih := short_l1_ok x kk hk f _ _ _ (by omega) (by omega) (by omega) (by omega) (by omega) (by omega) (by omega) h
          obtain ⟨⟨i1, i2⟩, i3, i4⟩ := ih
          refine ⟨⟨h7, h8⟩, by omega, fun j hj y hy => ?_⟩
          rcases Nat.lt_or_ge i.toNat j with hlt | hge
          · exact i4 j (by omega) y hy
          · have hji : j = i.toNat := by omega
            subst hji
            have hy2 : x.D[i.toNat]! = y := by
              rw [getElem!_def, hy]
            rw [hy2] at hw1 hm i2
            cases e4 : decide ((4097 : Int) < (y.b.D.length : Int))
            · have := of_decide_eq_false e4
              rw [e4] at hw1 i2
              simp only [cond_false] at hw1 i2
              omega
            · rw [e4] at hw1 i2
              simp only [cond_true] at hw1 i2
              omega
theorem short_l0_ok : ∀ (l : List (Sl Do)) (i : Nat) (n a : Int), 0 ≤ a → a ≤ 151 → 0 ≤ n → n ≤ 8193 → short_l0 l i n a = true → (a ≤ 150 ∧ n ≤ 4096) ∧ ∀ x ∈ l, x.D.length ≤ 150 ∧ ∀ y ∈ x.D, y.b.D.length ≤ 4096
  | [], _, n, a, _, _, _, _, h => by
    unfold short_l0 at h
    cases e1 : decide (a ≤ 150)
    · rw [e1] at h; cases h
    · rw [e1] at h
      exact ⟨⟨of_decide_eq_true e1, of_decide_eq_true h⟩, fun x hx => by cases hx⟩
  | x :: l, i, n, a, h0, h1, h2, h3, h => by
    unfold short_l0 at h
    -- what follows holds of what the rounds leave
    by_cases hx : (a ≤ 150 ∧ n ≤ 4096) ∧ (x.D.length : Int) - 0 + a ≤ 150 ∧ ∀ j, (0 : Int).toNat ≤ j → ∀ y, x.D[j]? = some y → y.b.D.length ≤ 4096
    · obtain ⟨p1, p2, p3⟩ := hx
      have hx1 : x.D.length ≤ 150 ∧ ∀ y ∈ x.D, y.b.D.length ≤ 4096 := ⟨by omega, fun y hy => by
        obtain ⟨j, hj⟩ := List.getElem?_of_mem hy
        exact p3 j (Nat.zero_le _) y hj⟩
      refine ⟨p1, fun z hz => ?_⟩
      cases hz with
      | head => exact hx1
      | tail _ hz =>
        -- the rest
        have key : ∀ (f : Nat) (n a i' : Int), 0 ≤ i' → i' ≤ a → a ≤ 151 → 0 ≤ n → n ≤ 8193 → f = x.D.length - i'.toNat + 1 → i' ≤ (x.D.length : Int) → short_l1 x (fun n1 acts1 _ => short_l0 l (i + 1) n1 acts1) f n a i' = true → ∃ n1 a1, 0 ≤ a1 ∧ a1 ≤ 151 ∧ 0 ≤ n1 ∧ n1 ≤ 8193 ∧ short_l0 l (i + 1) n1 a1 = true := by
          intro f
          induction f with
          | zero => intro n a i' _ _ _ _ _ hf; omega
          | succ f ih =>
            intro n a i' q0 q1 q2 q3 q4 q5 q6 q
            unfold short_l1 at q
            cases e1 : decide (i' < (x.D.length : Int))
            · rw [e1] at q; exact ⟨n, a, by omega, q2, q3, q4, q⟩
            · have h6 := of_decide_eq_true e1
              rw [e1] at q
              simp only [cond_true] at q
              cases e2 : decide (a ≤ 150)
              · rw [e2] at q; exact ⟨n, a, by omega, q2, q3, q4, q⟩
              · have h7 := of_decide_eq_true e2
                rw [e2] at q
                simp only [cond_true] at q
                cases e3 : decide (n ≤ 4096)
                · rw [e3] at q; exact ⟨n, a, by omega, q2, q3, q4, q⟩
                · have h8 := of_decide_eq_true e3
                  rw [e3] at q
                  simp only [cond_true] at q
                  have hm := min97 ((x.D[i'.toNat]!.b.D).length : Int) (Int.natCast_nonneg _)
                  have hw1 := wrapI (n + (bif (decide ((4097 : Int) < ((x.D[i'.toNat]!.b.D).length : Int))) then (4097 : Int) else ((x.D[i'.toNat]!.b.D).length : Int)))
                  have hw2 := wrapI (a + 1)
                  have hw3 := wrapI (i' + 1)
                  exact ih _ _ _ (by omega) (by omega) (by omega) (by omega) (by omega) (by omega) (by omega) q
        obtain ⟨n1, a1, k1, k2, k3, k4, k5⟩ := key _ n a 0 (Int.le_refl _) h0 h1 h2 h3 rfl (by omega) h
        exact (short_l0_ok l (i + 1) n1 a1 k1 k2 k3 k4 k5).2 z hz
    · exact absurd (short_l1_ok x _ (fun n1 a1 _ g0 g1 g2 g3 hh => (short_l0_ok l (i + 1) n1 a1 g0 g1 g2 g3 hh).1) _ n a 0 rfl (Int.le_refl _) (by omega) h0 h1 h2 h3 h) hx
theorem short_ok {ls : Sl (Sl Do)} (h : (!(short ls)) = false) (l : Sl Do) (hl : l ∈ ls.D) : l.D.length ≤ 150 ∧ ∀ y ∈ l.D, y.b.D.length ≤ 4096 :=
  (short_l0_ok ls.D 0 0 0 (Int.le_refl _) (by decide) (Int.le_refl _) (by decide) (by simpa [short] using h)).2 l hl
end Go.Proofs.Ytpgenmflgdkfiaa
/- An abstract machine over the kit's calls, part 36: calls that are handed a block and make one; append of nothing to nil. No conditions. -/
namespace Go.Am
section steps
variable {E : Env} {T : Tab} {cq : Oper → Cls} {n : Nat} {ops : Array Oper}
/-- A call that is handed a block (0), and makes one (1). -/
structure NCalls (P : Program) (f : FuncId) (avs : List AV) (k : Blk) (av : AV) (k1 k' : Blk) : Prop where
  fn : ∃ fn, P.funcs[f]? = some fn ∧ (fn.name == "runtime.NumGoroutine") = false ∧ fn.body.isNone = false
  args : AV.withinL (fun b => b == 0) avs = true
  res : av.within (fun b => b == 1) = true
  blk : k.within (fun _ => false) = true
  blk1 : k1.within (fun _ => false) = true
  blk' : k'.within (fun _ => false) = true
  calls : ACalls P f [0] avs [(0, k)] av [(0, k1), (1, k')]
theorem NCalls.of_body {P : Program} {T : Tab} (hT : TabOk P T) {f : FuncId} {fn : Func} {body : Code} (hf : P.funcs[f]? = some fn) (hb : fn.body = some body) (hn : (fn.name == "runtime.NumGoroutine") = false) {avs : List AV} {k k1 k' : Blk} {av : AV} (hl : decide (avs.length ≤ fn.ntmps) = true) (ha : AV.withinL (fun b => b == 0) avs = true) (hr : av.within (fun b => b == 1) = true) (hk : k.within (fun _ => false) = true) (hk1 : k1.within (fun _ => false) = true) (hk' : k'.within (fun _ => false) = true) (hm : P.follows .mixedOrders = true)
    (h : ∀ E : Env, E.P = P → Cx E T fn.ntmps → E.I = [0] → Awp E body (entry avs [(0, k)] [0]) fun e st => (e = .ret ∨ e = .normal) ∧ resAV T st fn.results.toList = some av ∧ st.H 0 = some k1 ∧ st.H 1 = some k') : NCalls P f avs k av k1 k' where
  fn := ⟨fn, hf, hn, by simp [hb]⟩
  args := ha
  res := hr
  blk := hk
  blk1 := hk1
  blk' := hk'
  calls := ACalls.of_body hT hf hb (by simpa using hl) fun E hP hE hI => (h E hP ⟨hP ▸ hT, hE, hP ▸ hm⟩ hI).mono fun e st ⟨h1, h2, h3, h4⟩ => ⟨h1, h2, fun x hx => by
    simp only [List.mem_cons, List.not_mem_nil, or_false] at hx
    rcases hx with rfl | rfl
    · exact h3
    · exact h4⟩
end steps
end Go.Am
/- Ledgers that no call made. No conditions. -/
namespace Go.Proofs.Ytpgenmflgdkfiaa
open Go.Am
def lDeadN (_l : Unit) : Bool :=
  true
theorem lDeadN_calls (l : Unit)  : PCalls Try.prog 41 [.pv (.lit (.pointer none))] (.pv (.lit (.bool (lDeadN l)))) := by
 generalize hR : lDeadN l = R
 refine PCalls.of_body tabOk Try.func41 rfl rfl rfl rfl rfl mixed fun E hP C hI => ?_
 refine Awp.consP C ?_
 refine rvP C (.pv (.lit (.bool false))) ?_
 refine rvc_nil ?_
 refine Awp.consP C ?_
 refine rvP C (.pv (.lit (.pointer none))) ?_
 refine rvc_un (rexec_eqPtr C true true (z := .pv (.lit (.bool true))) rfl rfl rfl rfl rfl rfl rfl rfl rfl ?_)
 refine rvP C (.pv (.lit (.bool true))) ?_
 refine rvS ?_
 refine rvS ?_
 refine rvS ?_
 refine rvS ?_
 refine rvS ?_
 refine rvS ?_
 refine rvP C (.pv (.lit (.bool true))) ?_
 refine rvP C (.pv (.lit (.bool true))) ?_
 refine rvc_nil ?_
 refine Awp.ret ?_
 subst hR
 exact ⟨.inl rfl, rfl⟩
def lOfN (_l : Unit) (_epoch : Int) : Chain × Bool :=
  ((Chain.mk 0 (Sl.mk true [])), false)
theorem lOfN_calls (l : Unit) (epoch : Int)  : PCalls Try.prog 33 [.pv (.lit (.pointer none)), .pv (.lit (.int .i64 epoch))] (.tup [.agg [.pv (.lit (.int .i64 ((lOfN l epoch).1.epoch))), sS (some (lOfN l epoch).1.members.nil) eMember ((lOfN l epoch).1.members.D)], .pv (.lit (.bool ((lOfN l epoch).2)))]) := by
 generalize hR : lOfN l epoch = R
 refine PCalls.of_body tabOk Try.func33 rfl rfl rfl rfl rfl mixed fun E hP C hI => ?_
 refine Awp.consP C ?_
 refine rvc_un (rexec_prim C (δ := { v := .ptr 4 0, new := [(4, .cells [.pv (.lit (.int .i64 0)), sS (some true) eMember []])] }) rfl rfl rfl rfl trivial rfl ?_)
 refine rvP C (.pv (.lit (.bool false))) ?_
 refine rvc_nil ?_
 refine Awp.seq ?_
 refine Awp.cons C (fun _ => .writer) (by kernel_rfl) ?_
 refine rvP C (.pv (.lit (.pointer none))) ?_
 refine rvc_un (rexec_call hP C rfl rfl rfl (lDeadN_calls ()) ?_)
 refine rvc_nil ?_
 refine Awp.condT (b := (lDeadN ())) rfl rfl ?_
 refine Awp.consP C ?_
 refine rvP C (.agg [.pv (.lit (.int .i64 0)), sS (some true) eMember []]) ?_
 refine rvc_un (rexec_prim C (δ := { v := .undef, wr := [(4, some (.cells [.pv (.lit (.int .i64 0)), sS (some true) eMember []]))] }) rfl rfl rfl rfl trivial rfl ?_)
 refine rvP C (.pv (.lit (.bool false))) ?_
 refine rvc_nil ?_
 refine Awp.ret ?_
 subst hR
 exact ⟨.inl rfl, rfl⟩
def lChainN (_l : Unit) : Chain :=
  (Chain.mk 0 (Sl.mk true []))
theorem lChainN_calls (l : Unit)  : PCalls Try.prog 14 [.pv (.lit (.pointer none))] (.agg [.pv (.lit (.int .i64 ((lChainN l).epoch))), sS (some (lChainN l).members.nil) eMember ((lChainN l).members.D)]) := by
 generalize hR : lChainN l = R
 refine PCalls.of_body tabOk Try.func14 rfl rfl rfl rfl rfl mixed fun E hP C hI => ?_
 refine Awp.consP C ?_
 refine rvc_un (rexec_prim C (δ := { v := .ptr 2 0, new := [(2, .cells [.pv (.lit (.int .i64 0)), sS (some true) eMember []])] }) rfl rfl rfl rfl trivial rfl ?_)
 refine rvc_nil ?_
 refine Awp.seq ?_
 refine Awp.cons C (fun _ => .writer) (by kernel_rfl) ?_
 refine rvP C (.pv (.lit (.pointer none))) ?_
 refine rvc_un (rexec_call hP C rfl rfl rfl (lDeadN_calls ()) ?_)
 refine rvc_nil ?_
 refine Awp.condT (b := (lDeadN ())) rfl rfl ?_
 refine Awp.consP C ?_
 refine rvP C (.agg [.pv (.lit (.int .i64 0)), sS (some true) eMember []]) ?_
 refine rvc_un (rexec_prim C (δ := { v := .undef, wr := [(2, some (.cells [.pv (.lit (.int .i64 0)), sS (some true) eMember []]))] }) rfl rfl rfl rfl trivial rfl ?_)
 refine rvc_nil ?_
 refine Awp.ret ?_
 subst hR
 exact ⟨.inl rfl, rfl⟩
def lAtN (_l : Unit) : Int :=
  0
theorem lAtN_calls (l : Unit)  : PCalls Try.prog 17 [.pv (.lit (.pointer none))] (.pv (.lit (.int .i64 (lAtN l)))) := by
 generalize hR : lAtN l = R
 refine PCalls.of_body tabOk Try.func17 rfl rfl rfl rfl rfl mixed fun E hP C hI => ?_
 refine Awp.consP C ?_
 refine rvP C (.pv (.lit (.int .i64 0))) ?_
 refine rvc_nil ?_
 refine Awp.seq ?_
 refine Awp.cons C (fun _ => .writer) (by kernel_rfl) ?_
 refine rvP C (.pv (.lit (.pointer none))) ?_
 refine rvc_un (rexec_call hP C rfl rfl rfl (lDeadN_calls ()) ?_)
 refine rvc_nil ?_
 refine Awp.condT (b := (lDeadN ())) rfl rfl ?_
 refine Awp.consP C ?_
 refine rvP C (.pv (.lit (.int .i64 0))) ?_
 refine rvc_nil ?_
 refine Awp.ret ?_
 subst hR
 exact ⟨.inl rfl, rfl⟩
def lApplyN (_l : Unit) (_index : Int) (_data : (Sl Int)) : Int :=
  6
theorem lApplyN_calls (l : Unit) (index : Int) (data : (Sl Int))  : PCalls Try.prog 16 [.pv (.lit (.pointer none)), .pv (.lit (.int .i64 index)), sS (some data.nil) (eI .u8) data.D] (.pv (.lit (.int .i64 (lApplyN l index data)))) := by
 generalize hR : lApplyN l index data = R
 refine PCalls.of_body tabOk Try.func16 rfl rfl rfl rfl rfl mixed fun E hP C hI => ?_
 refine Awp.consP C ?_
 refine rvP C (.pv (.lit (.int .i64 0))) ?_
 refine rvc_nil ?_
 refine Awp.seq ?_
 refine Awp.block ?_
 refine Awp.cons C (fun _ => .writer) (by kernel_rfl) ?_
 refine rvP C (.pv (.lit (.pointer none))) ?_
 refine rvc_un (rexec_call hP C rfl rfl rfl (lDeadN_calls ()) ?_)
 refine rvP C (.pv (.lit (.bool (lDeadN ())))) ?_
 refine rvc_nil ?_
 refine Awp.condT (b := (lDeadN ())) rfl rfl ?_
 refine Awp.consP C ?_
 refine rvP C (.pv (.lit (.int .i64 6))) ?_
 refine rvc_nil ?_
 refine Awp.ret ?_
 subst hR
 exact ⟨.inl rfl, rfl⟩
def lCloneN (_l : Unit) : Unit :=
  ()
theorem lCloneN_calls (l : Unit)  : PCalls Try.prog 27 [.pv (.lit (.pointer none))] (.pv (.lit (.pointer none))) := by
 generalize hR : lCloneN l = R
 refine PCalls.of_body tabOk Try.func27 rfl rfl rfl rfl rfl mixed fun E hP C hI => ?_
 refine Awp.consP C ?_
 refine rvP C (.pv (.lit (.pointer none))) ?_
 refine rvc_nil ?_
 refine Awp.seq ?_
 refine Awp.cons C (fun _ => .writer) (by kernel_rfl) ?_
 refine rvP C (.pv (.lit (.pointer none))) ?_
 refine rvc_un (rexec_call hP C rfl rfl rfl (lDeadN_calls ()) ?_)
 refine rvc_nil ?_
 refine Awp.condT (b := (lDeadN ())) rfl rfl ?_
 refine Awp.consP C ?_
 refine rvP C (.pv (.lit (.pointer none))) ?_
 refine rvc_nil ?_
 refine Awp.ret ?_
 subst hR
 exact ⟨.inl rfl, rfl⟩
def lCloneD (_l : Ledger) : Unit :=
  ()
theorem lCloneD_calls (l : Ledger) (h0 : (lDead l) = true) : MCalls Try.prog 27 [.ptr 0 0] (.cells [sS (some l.past.all.nil) eChain l.past.all.D, .pv (.lit (.int .i64 l.chain.epoch)), sS (some l.chain.members.nil) eMember l.chain.members.D, .pv (.lit (.int .i64 l.at_))]) (.pv (.lit (.pointer none))) (.cells [sS (some l.past.all.nil) eChain l.past.all.D, .pv (.lit (.int .i64 l.chain.epoch)), sS (some l.chain.members.nil) eMember l.chain.members.D, .pv (.lit (.int .i64 l.at_))]) := by
 generalize hR : lCloneD l = R
 refine MCalls.of_body tabOk Try.func27 rfl rfl rfl rfl rfl rfl rfl mixed fun E hP C hI => ?_
 refine Awp.consP C ?_
 refine rvP C (.pv (.lit (.pointer none))) ?_
 refine rvc_nil ?_
 refine Awp.seq ?_
 refine Awp.cons C (fun _ => .writer) (by kernel_rfl) ?_
 refine rvP C (.ptr 0 0) ?_
 refine rvc_un (rexec_callM hP C (b := 0) rfl rfl rfl (lDead_calls l) rfl rfl ?_)
 refine rvc_nil ?_
 refine Awp.condT (b := (lDead l)) rfl h0 ?_
 refine Awp.consP C ?_
 refine rvP C (.pv (.lit (.pointer none))) ?_
 refine rvc_nil ?_
 refine Awp.ret ?_
 subst hR
 exact ⟨.inl rfl, rfl, rfl⟩
end Go.Proofs.Ytpgenmflgdkfiaa
/- Law: ledgers that no call made. No conditions. -/
namespace Go.Proofs.Ytpgenmflgdkfiaa
open Go.Am
def lawNobody (k : Do) (epoch : Int) : Bool :=
  (bif (!(short (Sl.mk false [(Sl.mk false [k])]))) then (awake ) else (bif ((lApplyN () (doIndex k 0) (doData k 1)) != 6) then false else (bif (!(same (lChainN ()) (Chain.mk 0 (Sl.mk true [])))) then false else (bif (!(same ((lOfN () epoch).1) (Chain.mk 0 (Sl.mk true [])))) then false else (bif (lOfN () epoch).2 then false else (bif ((lAtN ()) != 0) then false else (bif (((lApply (Ledger.mk (Past.mk (Sl.mk true [])) (Chain.mk 0 (Sl.mk true [])) 0) (doIndex k 0) (doData k 1)).2) != 6) then false else (bif (!(same (lChain ((lApply (Ledger.mk (Past.mk (Sl.mk true [])) (Chain.mk 0 (Sl.mk true [])) 0) (doIndex k 0) (doData k 1)).1)) (Chain.mk 0 (Sl.mk true [])))) then false else (bif (!(same ((lOf (Ledger.mk (Past.mk (Sl.mk true [])) (Chain.mk 0 (Sl.mk true [])) 0) epoch).1) (Chain.mk 0 (Sl.mk true [])))) then false else (bif (lOf (Ledger.mk (Past.mk (Sl.mk true [])) (Chain.mk 0 (Sl.mk true [])) 0) epoch).2 then false else (bif ((lAt ((lApply (Ledger.mk (Past.mk (Sl.mk true [])) (Chain.mk 0 (Sl.mk true [])) 0) (doIndex k 0) (doData k 1)).1)) != 0) then false else (awake ))))))))))))
theorem lawNobody_calls (k : Do) (epoch : Int)  : PCalls Try.prog 8 [.agg [.pv (.lit (.int .i64 k.c.kind)), .pv (.lit (.int .i64 k.c.node)), .pv (.lit (.int .i64 k.c.site)), .pv (.lit (.int .i64 k.c.epoch)), sS (some k.b.nil) (eI .u8) k.b.D, .pv (.lit (.bool k.raw)), .pv (.lit (.int .i64 k.by_)), .pv (.lit (.int .i64 k.off))], .pv (.lit (.int .i64 epoch))] (.pv (.lit (.bool (lawNobody k epoch)))) := by
 generalize hR : lawNobody k epoch = R
 refine PCalls.of_body tabOk Try.func8 rfl rfl rfl rfl rfl mixed fun E hP C hI => ?_
 refine Awp.consP C ?_
 refine rvc_un (rexec_prim C (δ := { v := .ptr 2 0, new := [(2, .cells [.pv (.lit (.int .i64 k.c.kind)), .pv (.lit (.int .i64 k.c.node)), .pv (.lit (.int .i64 k.c.site)), .pv (.lit (.int .i64 k.c.epoch)), sS (some k.b.nil) (eI .u8) k.b.D, .pv (.lit (.bool k.raw)), .pv (.lit (.int .i64 k.by_)), .pv (.lit (.int .i64 k.off))])] }) rfl rfl rfl rfl trivial rfl ?_)
 refine rvP C (.pv (.lit (.bool false))) ?_
 refine rvc_nil ?_
 refine Awp.seq ?_
 refine Awp.consP C ?_
 refine rvP C (.agg [.pv (.lit (.int .i64 k.c.kind)), .pv (.lit (.int .i64 k.c.node)), .pv (.lit (.int .i64 k.c.site)), .pv (.lit (.int .i64 k.c.epoch)), sS (some k.b.nil) (eI .u8) k.b.D, .pv (.lit (.bool k.raw)), .pv (.lit (.int .i64 k.by_)), .pv (.lit (.int .i64 k.off))]) ?_
 refine rvc_un (rexec_buildSliceF C eDo [k] rfl rfl rfl rfl rfl rfl rfl (by decide) rfl ?_)
 refine rvc_un (rexec_buildSliceF C (eSl eDo) [(Sl.mk false [k])] rfl rfl rfl rfl rfl rfl rfl (by decide) rfl ?_)
 refine rvc_un (rexec_call hP C rfl rfl rfl (short_calls (Sl.mk false [(Sl.mk false [k])]) (by simp)) ?_)
 refine rvP C (.pv (.lit (.bool (!(short (Sl.mk false [(Sl.mk false [k])])))))) ?_
 refine rvc_nil ?_
 refine Awp.cond (b := (!(short (Sl.mk false [(Sl.mk false [k])])))) rfl (fun h1 => ?_) (fun h1 => ?_)
 ·
  replace hR := of_true h1 hR
  refine Awp.consP C ?_
  refine rvc_un (rexec_call hP C rfl rfl rfl (awake_calls ) ?_)
  refine rvP C (.pv (.lit (.bool (awake )))) ?_
  refine rvc_nil ?_
  refine Awp.ret ?_
  subst hR
  exact ⟨.inl rfl, rfl⟩
 ·
  replace hR := of_false h1 hR
  refine Awp.skip ?_
  refine Awp.seq ?_
  refine Awp.consP C ?_
  refine rvP C (.agg [sS (some true) eChain [], .pv (.lit (.int .i64 0)), sS (some true) eMember [], .pv (.lit (.int .i64 0))]) ?_
  refine rvc_un (rexec_prim C (δ := { v := .ptr 16 0, new := [(16, .cells [sS (some true) eChain [], .pv (.lit (.int .i64 0)), sS (some true) eMember [], .pv (.lit (.int .i64 0))])] }) rfl rfl rfl rfl trivial rfl ?_)
  refine rvc_un (rexec_prim C (δ := { v := .sl 17 0 2 1 true, new := [(17, .cells [.pv (.lit (.pointer none)), .ptr 16 0])] }) rfl rfl rfl rfl trivial rfl ?_)
  refine rvP C (.pv (.lit (.int .i64 2))) ?_
  refine rvP C (.pv (.lit (.int .i64 0))) ?_
  refine rvc_nil ?_
  refine Awp.block ?_
  refine Awp.rounds 3 ?_
  refine Arounds.succ ?_
  refine Awp.consP C ?_
  refine rvP C (.pv (.lit (.bool true))) ?_
  refine rvc_nil ?_
  refine Awp.seq ?_
  refine Awp.condT (b := true) rfl rfl ?_
  refine Awp.skip ?_
  refine Awp.seq ?_
  refine Awp.block ?_
  refine Awp.consP C ?_
  refine rvc_un (rexec_prim C (δ := { v := .ptr 17 0 }) rfl rfl rfl rfl (by decide) rfl ?_)
  refine rvP C (.pv (.lit (.pointer none))) ?_
  refine rvP C (.pv (.lit (.pointer none))) ?_
  refine rvc_nil ?_
  refine Awp.cons C (fun _ => .writer) (by kernel_rfl) ?_
  refine rvP C (.pv (.lit (.pointer none))) ?_
  refine rvP C (.pv (.lit (.int .i64 epoch))) ?_
  refine rvc_un (rexec_call hP C rfl rfl rfl (lOfN_calls () epoch) ?_)
  refine rvP C (.tup [.agg [.pv (.lit (.int .i64 ((lOfN () epoch).1.epoch))), sS (some (lOfN () epoch).1.members.nil) eMember ((lOfN () epoch).1.members.D)], .pv (.lit (.bool ((lOfN () epoch).2)))]) ?_
  refine rvP C (.agg [.pv (.lit (.int .i64 ((lOfN () epoch).1.epoch))), sS (some (lOfN () epoch).1.members.nil) eMember ((lOfN () epoch).1.members.D)]) ?_
  refine rvP C (.pv (.lit (.bool ((lOfN () epoch).2)))) ?_
  refine rvc_un (rexec_prim C (δ := { v := .ptr 7 0, new := [(7, .cells [.pv (.lit (.int .i64 0)), sS (some true) eMember []])] }) rfl rfl rfl rfl trivial rfl ?_)
  refine rvc_un (rexec_prim C (δ := { v := .undef, wr := [(7, some (.cells [.pv (.lit (.int .i64 ((lOfN () epoch).1.epoch))), sS (some (lOfN () epoch).1.members.nil) eMember ((lOfN () epoch).1.members.D)]))] }) rfl rfl rfl rfl trivial rfl ?_)
  refine rvP C (.pv (.lit (.bool ((lOfN () epoch).2)))) ?_
  refine rvc_nil ?_
  refine Awp.cons C (fun o => match o.dst with | some 30 => .reads [2] | some 32 => .reads [2] | some 44 => .reads [7] | _ => .pure) (by kernel_rfl) ?_
  refine rvP C (.pv (.lit (.pointer none))) ?_
  refine rvP C (.agg [.pv (.lit (.int .i64 k.c.kind)), .pv (.lit (.int .i64 k.c.node)), .pv (.lit (.int .i64 k.c.site)), .pv (.lit (.int .i64 k.c.epoch)), sS (some k.b.nil) (eI .u8) k.b.D, .pv (.lit (.bool k.raw)), .pv (.lit (.int .i64 k.by_)), .pv (.lit (.int .i64 k.off))]) ?_
  refine rvc_un (rexec_call hP C rfl rfl rfl (doIndex_calls k 0) ?_)
  refine rvP C (.agg [.pv (.lit (.int .i64 k.c.kind)), .pv (.lit (.int .i64 k.c.node)), .pv (.lit (.int .i64 k.c.site)), .pv (.lit (.int .i64 k.c.epoch)), sS (some k.b.nil) (eI .u8) k.b.D, .pv (.lit (.bool k.raw)), .pv (.lit (.int .i64 k.by_)), .pv (.lit (.int .i64 k.off))]) ?_
  refine rvc_un (rexec_call hP C rfl rfl rfl (doData_calls k 1) ?_)
  refine rvc_un (rexec_call hP C rfl rfl rfl (lApplyN_calls () (doIndex k 0) (doData k 1)) ?_)
  refine rvP C (.pv (.lit (.bool ((lApplyN () (doIndex k 0) (doData k 1)) != 6)))) ?_
  refine rvP C (.pv (.lit (.bool ((lApplyN () (doIndex k 0) (doData k 1)) != 6)))) ?_
  refine rvc_case 36 ((lApplyN () (doIndex k 0) (doData k 1)) != 6) rfl (fun h2 => ?_) (fun h2 => ?_)
  ·
   replace hR := of_true h2 hR
   refine rvS ?_
   refine rvS ?_
   refine rvS ?_
   refine rvS ?_
   refine rvS ?_
   refine rvP C (.pv (.lit (.bool true))) ?_
   refine rvP C (.pv (.lit (.bool true))) ?_
   refine rvS ?_
   refine rvS ?_
   refine rvS ?_
   refine rvS ?_
   refine rvP C (.pv (.lit (.bool true))) ?_
   refine rvP C (.pv (.lit (.bool true))) ?_
   refine rvS ?_
   refine rvP C (.pv (.lit (.bool true))) ?_
   refine rvP C (.pv (.lit (.bool true))) ?_
   refine rvS ?_
   refine rvS ?_
   refine rvS ?_
   refine rvP C (.pv (.lit (.bool true))) ?_
   refine rvP C (.pv (.lit (.bool true))) ?_
   refine rvS ?_
   refine rvS ?_
   refine rvS ?_
   refine rvP C (.pv (.lit (.bool true))) ?_
   refine rvc_nil ?_
   refine Awp.condT (b := true) rfl rfl ?_
   refine Awp.consP C ?_
   refine rvP C (.pv (.lit (.bool false))) ?_
   refine rvc_nil ?_
   refine Awp.ret ?_
   subst hR
   exact ⟨.inl rfl, rfl⟩
  ·
   replace hR := of_false h2 hR
   refine rvO C (.pv (.lit (.pointer none))) ?_
   refine rvc_open rfl rfl rfl (rexec_call hP C rfl rfl rfl (lChainN_calls ()) ?_)
   refine rvO C (.agg [.pv (.lit (.int .i64 0)), sS (some true) eMember []]) ?_
   refine rvc_open rfl rfl rfl (rexec_call hP C rfl rfl rfl (same_calls (lChainN ()) (Chain.mk 0 (Sl.mk true [])) (Nat.zero_le _)) ?_)
   refine rvO C (.pv (.lit (.bool (!(same (lChainN ()) (Chain.mk 0 (Sl.mk true []))))))) ?_
   refine rvP C (.pv (.lit (.bool (!(same (lChainN ()) (Chain.mk 0 (Sl.mk true []))))))) ?_
   refine rvP C (.pv (.lit (.bool (!(same (lChainN ()) (Chain.mk 0 (Sl.mk true []))))))) ?_
   refine rvc_case 43 (!(same (lChainN ()) (Chain.mk 0 (Sl.mk true [])))) rfl (fun h3 => ?_) (fun h3 => ?_)
   ·
    replace hR := of_true h3 hR
    refine rvS ?_
    refine rvS ?_
    refine rvS ?_
    refine rvS ?_
    refine rvP C (.pv (.lit (.bool true))) ?_
    refine rvP C (.pv (.lit (.bool true))) ?_
    refine rvS ?_
    refine rvP C (.pv (.lit (.bool true))) ?_
    refine rvP C (.pv (.lit (.bool true))) ?_
    refine rvS ?_
    refine rvS ?_
    refine rvS ?_
    refine rvP C (.pv (.lit (.bool true))) ?_
    refine rvP C (.pv (.lit (.bool true))) ?_
    refine rvS ?_
    refine rvS ?_
    refine rvS ?_
    refine rvP C (.pv (.lit (.bool true))) ?_
    refine rvc_nil ?_
    refine Awp.condT (b := true) rfl rfl ?_
    refine Awp.consP C ?_
    refine rvP C (.pv (.lit (.bool false))) ?_
    refine rvc_nil ?_
    refine Awp.ret ?_
    subst hR
    exact ⟨.inl rfl, rfl⟩
   ·
    replace hR := of_false h3 hR
    refine rvO C (.agg [.pv (.lit (.int .i64 ((lOfN () epoch).1.epoch))), sS (some (lOfN () epoch).1.members.nil) eMember ((lOfN () epoch).1.members.D)]) ?_
    refine rvO C (.agg [.pv (.lit (.int .i64 0)), sS (some true) eMember []]) ?_
    refine rvc_open rfl rfl rfl (rexec_call hP C rfl rfl rfl (same_calls ((lOfN () epoch).1) (Chain.mk 0 (Sl.mk true [])) (Nat.zero_le _)) ?_)
    refine rvO C (.pv (.lit (.bool (!(same ((lOfN () epoch).1) (Chain.mk 0 (Sl.mk true []))))))) ?_
    refine rvP C (.pv (.lit (.bool (!(same ((lOfN () epoch).1) (Chain.mk 0 (Sl.mk true []))))))) ?_
    refine rvP C (.pv (.lit (.bool (!(same ((lOfN () epoch).1) (Chain.mk 0 (Sl.mk true []))))))) ?_
    refine rvc_case 49 (!(same ((lOfN () epoch).1) (Chain.mk 0 (Sl.mk true [])))) rfl (fun h4 => ?_) (fun h4 => ?_)
    ·
     replace hR := of_true h4 hR
     refine rvS ?_
     refine rvP C (.pv (.lit (.bool true))) ?_
     refine rvP C (.pv (.lit (.bool true))) ?_
     refine rvS ?_
     refine rvS ?_
     refine rvS ?_
     refine rvP C (.pv (.lit (.bool true))) ?_
     refine rvP C (.pv (.lit (.bool true))) ?_
     refine rvS ?_
     refine rvS ?_
     refine rvS ?_
     refine rvP C (.pv (.lit (.bool true))) ?_
     refine rvc_nil ?_
     refine Awp.condT (b := true) rfl rfl ?_
     refine Awp.consP C ?_
     refine rvP C (.pv (.lit (.bool false))) ?_
     refine rvc_nil ?_
     refine Awp.ret ?_
     subst hR
     exact ⟨.inl rfl, rfl⟩
    ·
     replace hR := of_false h4 hR
     refine rvO C (.pv (.lit (.bool ((lOfN () epoch).2)))) ?_
     refine rvP C (.pv (.lit (.bool ((lOfN () epoch).2)))) ?_
     refine rvP C (.pv (.lit (.bool ((lOfN () epoch).2)))) ?_
     refine rvc_case 52 ((lOfN () epoch).2) rfl (fun h5 => ?_) (fun h5 => ?_)
     ·
      replace hR := of_true h5 hR
      refine rvS ?_
      refine rvS ?_
      refine rvS ?_
      refine rvP C (.pv (.lit (.bool true))) ?_
      refine rvP C (.pv (.lit (.bool true))) ?_
      refine rvS ?_
      refine rvS ?_
      refine rvS ?_
      refine rvP C (.pv (.lit (.bool true))) ?_
      refine rvc_nil ?_
      refine Awp.condT (b := true) rfl rfl ?_
      refine Awp.consP C ?_
      refine rvP C (.pv (.lit (.bool false))) ?_
      refine rvc_nil ?_
      refine Awp.ret ?_
      subst hR
      exact ⟨.inl rfl, rfl⟩
     ·
      replace hR := of_false h5 hR
      refine rvO C (.pv (.lit (.pointer none))) ?_
      refine rvc_open rfl rfl rfl (rexec_call hP C rfl rfl rfl (lAtN_calls ()) ?_)
      refine rvO C (.pv (.lit (.bool ((lAtN ()) != 0)))) ?_
      refine rvP C (.pv (.lit (.bool ((lAtN ()) != 0)))) ?_
      refine rvP C (.pv (.lit (.bool ((lAtN ()) != 0)))) ?_
      refine rvc_case 57 ((lAtN ()) != 0) rfl (fun h6 => ?_) (fun h6 => ?_)
      ·
       replace hR := of_true h6 hR
       refine rvS ?_
       refine rvS ?_
       refine rvS ?_
       refine rvP C (.pv (.lit (.bool true))) ?_
       refine rvc_nil ?_
       refine Awp.condT (b := true) rfl rfl ?_
       refine Awp.consP C ?_
       refine rvP C (.pv (.lit (.bool false))) ?_
       refine rvc_nil ?_
       refine Awp.ret ?_
       subst hR
       exact ⟨.inl rfl, rfl⟩
      ·
       replace hR := of_false h6 hR
       refine rvO C (.pv (.lit (.pointer none))) ?_
       refine rvc_open rfl rfl rfl (rexec_call hP C rfl rfl rfl (lCloneN_calls ()) ?_)
       refine rvc_open rfl rfl rfl (rexec_eqPtr C true true (z := .pv (.lit (.bool false))) rfl rfl rfl rfl rfl rfl rfl rfl rfl ?_)
       refine rvP C (.pv (.lit (.bool false))) ?_
       refine rvc_nil ?_
       refine Awp.condF (b := false) rfl rfl ?_
       refine Awp.skip ?_
       refine Awp.regionP C ?_
       refine rvP C (.pv (.lit (.int .i64 1))) ?_
       refine rvP C (.pv (.lit (.int .i64 1))) ?_
       refine rvc_nil ?_
       refine Arounds.succ ?_
       refine Awp.wordsR [(1, .pv (.lit (.int .i64 epoch))), (2, .ptr 2 0), (17, .sl 17 0 2 1 true), (18, .pv (.lit (.int .i64 2))), (19, .pv (.lit (.int .i64 1))), (37, .pv (.lit (.pointer none))), (38, .agg [.pv (.lit (.int .i64 ((lChainN ()).epoch))), sS (some (lChainN ()).members.nil) eMember ((lChainN ()).members.D)]), (39, .agg [.pv (.lit (.int .i64 0)), sS (some true) eMember []]), (40, .pv (.lit (.bool (same (lChainN ()) (Chain.mk 0 (Sl.mk true [])))))), (41, .pv (.lit (.bool (!(same (lChainN ()) (Chain.mk 0 (Sl.mk true []))))))), (44, .agg [.pv (.lit (.int .i64 ((lOfN () epoch).1.epoch))), sS (some (lOfN () epoch).1.members.nil) eMember ((lOfN () epoch).1.members.D)]), (45, .agg [.pv (.lit (.int .i64 0)), sS (some true) eMember []]), (46, .pv (.lit (.bool (same ((lOfN () epoch).1) (Chain.mk 0 (Sl.mk true [])))))), (47, .pv (.lit (.bool (!(same ((lOfN () epoch).1) (Chain.mk 0 (Sl.mk true []))))))), (50, .pv (.lit (.bool ((lOfN () epoch).2)))), (53, .pv (.lit (.pointer none))), (54, .pv (.lit (.int .i64 (lAtN ())))), (55, .pv (.lit (.bool ((lAtN ()) != 0)))), (58, .pv (.lit (.pointer none))), (59, .pv (.lit (.pointer none))), (60, .pv (.lit (.bool false)))] [(2, .cells [.pv (.lit (.int .i64 k.c.kind)), .pv (.lit (.int .i64 k.c.node)), .pv (.lit (.int .i64 k.c.site)), .pv (.lit (.int .i64 k.c.epoch)), sS (some k.b.nil) (eI .u8) k.b.D, .pv (.lit (.bool k.raw)), .pv (.lit (.int .i64 k.by_)), .pv (.lit (.int .i64 k.off))]), (16, .cells [sS (some true) eChain [], .pv (.lit (.int .i64 0)), sS (some true) eMember [], .pv (.lit (.int .i64 0))]), (17, .cells [.pv (.lit (.pointer none)), .ptr 16 0])] [2, 16, 17] (WeakerR.ofL (Ks := [2, 16, 17]) hI ⟨⟨rfl, rfl⟩, ⟨rfl, rfl⟩, ⟨rfl, rfl⟩, ⟨rfl, rfl⟩, ⟨rfl, rfl⟩, ⟨rfl, rfl⟩, ⟨rfl, rfl⟩, ⟨rfl, rfl⟩, ⟨rfl, rfl⟩, ⟨rfl, rfl⟩, ⟨rfl, rfl⟩, ⟨rfl, rfl⟩, ⟨rfl, rfl⟩, ⟨rfl, rfl⟩, ⟨rfl, rfl⟩, ⟨rfl, rfl⟩, ⟨rfl, rfl⟩, ⟨rfl, rfl⟩, ⟨rfl, rfl⟩, ⟨rfl, rfl⟩, ⟨rfl, rfl⟩, trivial⟩ (okH_cons rfl rfl rfl rfl (okH_cons rfl rfl rfl rfl (okH_cons rfl rfl rfl rfl (okH_nil)))) rfl) ?_
       refine Awp.consP C ?_
       refine rvP C (.pv (.lit (.bool true))) ?_
       refine rvc_nil ?_
       refine Awp.seq ?_
       refine Awp.condT (b := true) rfl rfl ?_
       refine Awp.skip ?_
       refine Awp.seq ?_
       refine Awp.block ?_
       refine Awp.consP C ?_
       refine rvc_un (rexec_prim C (δ := { v := .ptr 17 1 }) rfl rfl rfl rfl (by decide) rfl ?_)
       refine rvP C (.ptr 16 0) ?_
       refine rvP C (.ptr 16 0) ?_
       refine rvc_nil ?_
       refine Awp.cons C (fun _ => .writer) (by kernel_rfl) ?_
       refine rvP C (.ptr 16 0) ?_
       refine rvP C (.pv (.lit (.int .i64 epoch))) ?_
       refine rvc_un (rexec_callM hP C (b := 16) rfl rfl rfl (lOf_calls (Ledger.mk (Past.mk (Sl.mk true [])) (Chain.mk 0 (Sl.mk true [])) 0) epoch (fun x hx => by cases hx) (Nat.zero_le _)) rfl rfl ?_)
       refine rvP C (.tup [.agg [.pv (.lit (.int .i64 ((lOf (Ledger.mk (Past.mk (Sl.mk true [])) (Chain.mk 0 (Sl.mk true [])) 0) epoch).1.epoch))), sS (some (lOf (Ledger.mk (Past.mk (Sl.mk true [])) (Chain.mk 0 (Sl.mk true [])) 0) epoch).1.members.nil) eMember ((lOf (Ledger.mk (Past.mk (Sl.mk true [])) (Chain.mk 0 (Sl.mk true [])) 0) epoch).1.members.D)], .pv (.lit (.bool ((lOf (Ledger.mk (Past.mk (Sl.mk true [])) (Chain.mk 0 (Sl.mk true [])) 0) epoch).2)))]) ?_
       refine rvP C (.agg [.pv (.lit (.int .i64 ((lOf (Ledger.mk (Past.mk (Sl.mk true [])) (Chain.mk 0 (Sl.mk true [])) 0) epoch).1.epoch))), sS (some (lOf (Ledger.mk (Past.mk (Sl.mk true [])) (Chain.mk 0 (Sl.mk true [])) 0) epoch).1.members.nil) eMember ((lOf (Ledger.mk (Past.mk (Sl.mk true [])) (Chain.mk 0 (Sl.mk true [])) 0) epoch).1.members.D)]) ?_
       refine rvP C (.pv (.lit (.bool ((lOf (Ledger.mk (Past.mk (Sl.mk true [])) (Chain.mk 0 (Sl.mk true [])) 0) epoch).2)))) ?_
       refine rvc_un (rexec_prim C (δ := { v := .ptr 7 0, new := [(7, .cells [.pv (.lit (.int .i64 0)), sS (some true) eMember []])] }) rfl rfl rfl rfl trivial rfl ?_)
       refine rvc_un (rexec_prim C (δ := { v := .undef, wr := [(7, some (.cells [.pv (.lit (.int .i64 ((lOf (Ledger.mk (Past.mk (Sl.mk true [])) (Chain.mk 0 (Sl.mk true [])) 0) epoch).1.epoch))), sS (some (lOf (Ledger.mk (Past.mk (Sl.mk true [])) (Chain.mk 0 (Sl.mk true [])) 0) epoch).1.members.nil) eMember ((lOf (Ledger.mk (Past.mk (Sl.mk true [])) (Chain.mk 0 (Sl.mk true [])) 0) epoch).1.members.D)]))] }) rfl rfl rfl rfl trivial rfl ?_)
       refine rvP C (.pv (.lit (.bool ((lOf (Ledger.mk (Past.mk (Sl.mk true [])) (Chain.mk 0 (Sl.mk true [])) 0) epoch).2)))) ?_
       refine rvc_nil ?_
       refine Awp.cons C (fun o => match o.dst with | some 30 => .reads [2] | some 32 => .reads [2] | some 34 => .writes [16] | some 38 => .writes [16] | some 44 => .reads [7] | some 54 => .writes [16] | some 59 => .writes [16] | _ => .pure) (by kernel_rfl) ?_
       refine rvP C (.ptr 16 0) ?_
       refine rvP C (.agg [.pv (.lit (.int .i64 k.c.kind)), .pv (.lit (.int .i64 k.c.node)), .pv (.lit (.int .i64 k.c.site)), .pv (.lit (.int .i64 k.c.epoch)), sS (some k.b.nil) (eI .u8) k.b.D, .pv (.lit (.bool k.raw)), .pv (.lit (.int .i64 k.by_)), .pv (.lit (.int .i64 k.off))]) ?_
       refine rvc_un (rexec_call hP C rfl rfl rfl (doIndex_calls k 0) ?_)
       refine rvP C (.agg [.pv (.lit (.int .i64 k.c.kind)), .pv (.lit (.int .i64 k.c.node)), .pv (.lit (.int .i64 k.c.site)), .pv (.lit (.int .i64 k.c.epoch)), sS (some k.b.nil) (eI .u8) k.b.D, .pv (.lit (.bool k.raw)), .pv (.lit (.int .i64 k.by_)), .pv (.lit (.int .i64 k.off))]) ?_
       refine rvc_un (rexec_call hP C rfl rfl rfl (doData_calls k 1) ?_)
       refine rvc_un (rexec_callM hP C (b := 16) rfl rfl rfl (lApply_calls (Ledger.mk (Past.mk (Sl.mk true [])) (Chain.mk 0 (Sl.mk true [])) 0) (doIndex k 0) (doData k 1) (fun _ => rfl) (data_len k _ (Nat.le_trans ((short_ok ‹(!(short (Sl.mk false [(Sl.mk false [k])]))) = false› (Sl.mk false [k]) (by simp)).2 k (by simp)) (by decide))) (Nat.zero_le _) (Nat.zero_le _)) rfl rfl ?_)
       refine rvP C (.pv (.lit (.bool (((lApply (Ledger.mk (Past.mk (Sl.mk true [])) (Chain.mk 0 (Sl.mk true [])) 0) (doIndex k 0) (doData k 1)).2) != 6)))) ?_
       refine rvP C (.pv (.lit (.bool (((lApply (Ledger.mk (Past.mk (Sl.mk true [])) (Chain.mk 0 (Sl.mk true [])) 0) (doIndex k 0) (doData k 1)).2) != 6)))) ?_
       refine rvc_case 36 (((lApply (Ledger.mk (Past.mk (Sl.mk true [])) (Chain.mk 0 (Sl.mk true [])) 0) (doIndex k 0) (doData k 1)).2) != 6) rfl (fun h7 => ?_) (fun h7 => ?_)
       ·
        replace hR := of_true h7 hR
        refine rvS ?_
        refine rvS ?_
        refine rvS ?_
        refine rvS ?_
        refine rvS ?_
        refine rvP C (.pv (.lit (.bool true))) ?_
        refine rvP C (.pv (.lit (.bool true))) ?_
        refine rvS ?_
        refine rvS ?_
        refine rvS ?_
        refine rvS ?_
        refine rvP C (.pv (.lit (.bool true))) ?_
        refine rvP C (.pv (.lit (.bool true))) ?_
        refine rvS ?_
        refine rvP C (.pv (.lit (.bool true))) ?_
        refine rvP C (.pv (.lit (.bool true))) ?_
        refine rvS ?_
        refine rvS ?_
        refine rvS ?_
        refine rvP C (.pv (.lit (.bool true))) ?_
        refine rvP C (.pv (.lit (.bool true))) ?_
        refine rvS ?_
        refine rvS ?_
        refine rvS ?_
        refine rvP C (.pv (.lit (.bool true))) ?_
        refine rvc_nil ?_
        refine Awp.condT (b := true) rfl rfl ?_
        refine Awp.consP C ?_
        refine rvP C (.pv (.lit (.bool false))) ?_
        refine rvc_nil ?_
        refine Awp.ret ?_
        subst hR
        exact ⟨.inl rfl, rfl⟩
       ·
        replace hR := of_false h7 hR
        refine rvO C (.ptr 16 0) ?_
        refine rvc_open rfl rfl rfl (rexec_callM hP C (b := 16) rfl rfl rfl (lChain_calls ((lApply (Ledger.mk (Past.mk (Sl.mk true [])) (Chain.mk 0 (Sl.mk true [])) 0) (doIndex k 0) (doData k 1)).1) (Nat.zero_le _)) rfl rfl ?_)
        refine rvO C (.agg [.pv (.lit (.int .i64 0)), sS (some true) eMember []]) ?_
        refine rvc_open rfl rfl rfl (rexec_call hP C rfl rfl rfl (same_calls (lChain ((lApply (Ledger.mk (Past.mk (Sl.mk true [])) (Chain.mk 0 (Sl.mk true [])) 0) (doIndex k 0) (doData k 1)).1)) (Chain.mk 0 (Sl.mk true [])) (Nat.zero_le _)) ?_)
        refine rvO C (.pv (.lit (.bool (!(same (lChain ((lApply (Ledger.mk (Past.mk (Sl.mk true [])) (Chain.mk 0 (Sl.mk true [])) 0) (doIndex k 0) (doData k 1)).1)) (Chain.mk 0 (Sl.mk true []))))))) ?_
        refine rvP C (.pv (.lit (.bool (!(same (lChain ((lApply (Ledger.mk (Past.mk (Sl.mk true [])) (Chain.mk 0 (Sl.mk true [])) 0) (doIndex k 0) (doData k 1)).1)) (Chain.mk 0 (Sl.mk true []))))))) ?_
        refine rvP C (.pv (.lit (.bool (!(same (lChain ((lApply (Ledger.mk (Past.mk (Sl.mk true [])) (Chain.mk 0 (Sl.mk true [])) 0) (doIndex k 0) (doData k 1)).1)) (Chain.mk 0 (Sl.mk true []))))))) ?_
        refine rvc_case 43 (!(same (lChain ((lApply (Ledger.mk (Past.mk (Sl.mk true [])) (Chain.mk 0 (Sl.mk true [])) 0) (doIndex k 0) (doData k 1)).1)) (Chain.mk 0 (Sl.mk true [])))) rfl (fun h8 => ?_) (fun h8 => ?_)
        ·
         replace hR := of_true h8 hR
         refine rvS ?_
         refine rvS ?_
         refine rvS ?_
         refine rvS ?_
         refine rvP C (.pv (.lit (.bool true))) ?_
         refine rvP C (.pv (.lit (.bool true))) ?_
         refine rvS ?_
         refine rvP C (.pv (.lit (.bool true))) ?_
         refine rvP C (.pv (.lit (.bool true))) ?_
         refine rvS ?_
         refine rvS ?_
         refine rvS ?_
         refine rvP C (.pv (.lit (.bool true))) ?_
         refine rvP C (.pv (.lit (.bool true))) ?_
         refine rvS ?_
         refine rvS ?_
         refine rvS ?_
         refine rvP C (.pv (.lit (.bool true))) ?_
         refine rvc_nil ?_
         refine Awp.condT (b := true) rfl rfl ?_
         refine Awp.consP C ?_
         refine rvP C (.pv (.lit (.bool false))) ?_
         refine rvc_nil ?_
         refine Awp.ret ?_
         subst hR
         exact ⟨.inl rfl, rfl⟩
        ·
         replace hR := of_false h8 hR
         refine rvO C (.agg [.pv (.lit (.int .i64 ((lOf (Ledger.mk (Past.mk (Sl.mk true [])) (Chain.mk 0 (Sl.mk true [])) 0) epoch).1.epoch))), sS (some (lOf (Ledger.mk (Past.mk (Sl.mk true [])) (Chain.mk 0 (Sl.mk true [])) 0) epoch).1.members.nil) eMember ((lOf (Ledger.mk (Past.mk (Sl.mk true [])) (Chain.mk 0 (Sl.mk true [])) 0) epoch).1.members.D)]) ?_
         refine rvO C (.agg [.pv (.lit (.int .i64 0)), sS (some true) eMember []]) ?_
         refine rvc_open rfl rfl rfl (rexec_call hP C rfl rfl rfl (same_calls ((lOf (Ledger.mk (Past.mk (Sl.mk true [])) (Chain.mk 0 (Sl.mk true [])) 0) epoch).1) (Chain.mk 0 (Sl.mk true [])) (Nat.zero_le _)) ?_)
         refine rvO C (.pv (.lit (.bool (!(same ((lOf (Ledger.mk (Past.mk (Sl.mk true [])) (Chain.mk 0 (Sl.mk true [])) 0) epoch).1) (Chain.mk 0 (Sl.mk true []))))))) ?_
         refine rvP C (.pv (.lit (.bool (!(same ((lOf (Ledger.mk (Past.mk (Sl.mk true [])) (Chain.mk 0 (Sl.mk true [])) 0) epoch).1) (Chain.mk 0 (Sl.mk true []))))))) ?_
         refine rvP C (.pv (.lit (.bool (!(same ((lOf (Ledger.mk (Past.mk (Sl.mk true [])) (Chain.mk 0 (Sl.mk true [])) 0) epoch).1) (Chain.mk 0 (Sl.mk true []))))))) ?_
         refine rvc_case 49 (!(same ((lOf (Ledger.mk (Past.mk (Sl.mk true [])) (Chain.mk 0 (Sl.mk true [])) 0) epoch).1) (Chain.mk 0 (Sl.mk true [])))) rfl (fun h9 => ?_) (fun h9 => ?_)
         ·
          replace hR := of_true h9 hR
          refine rvS ?_
          refine rvP C (.pv (.lit (.bool true))) ?_
          refine rvP C (.pv (.lit (.bool true))) ?_
          refine rvS ?_
          refine rvS ?_
          refine rvS ?_
          refine rvP C (.pv (.lit (.bool true))) ?_
          refine rvP C (.pv (.lit (.bool true))) ?_
          refine rvS ?_
          refine rvS ?_
          refine rvS ?_
          refine rvP C (.pv (.lit (.bool true))) ?_
          refine rvc_nil ?_
          refine Awp.condT (b := true) rfl rfl ?_
          refine Awp.consP C ?_
          refine rvP C (.pv (.lit (.bool false))) ?_
          refine rvc_nil ?_
          refine Awp.ret ?_
          subst hR
          exact ⟨.inl rfl, rfl⟩
         ·
          replace hR := of_false h9 hR
          refine rvO C (.pv (.lit (.bool ((lOf (Ledger.mk (Past.mk (Sl.mk true [])) (Chain.mk 0 (Sl.mk true [])) 0) epoch).2)))) ?_
          refine rvP C (.pv (.lit (.bool ((lOf (Ledger.mk (Past.mk (Sl.mk true [])) (Chain.mk 0 (Sl.mk true [])) 0) epoch).2)))) ?_
          refine rvP C (.pv (.lit (.bool ((lOf (Ledger.mk (Past.mk (Sl.mk true [])) (Chain.mk 0 (Sl.mk true [])) 0) epoch).2)))) ?_
          refine rvc_case 52 ((lOf (Ledger.mk (Past.mk (Sl.mk true [])) (Chain.mk 0 (Sl.mk true [])) 0) epoch).2) rfl (fun h10 => ?_) (fun h10 => ?_)
          ·
           replace hR := of_true h10 hR
           refine rvS ?_
           refine rvS ?_
           refine rvS ?_
           refine rvP C (.pv (.lit (.bool true))) ?_
           refine rvP C (.pv (.lit (.bool true))) ?_
           refine rvS ?_
           refine rvS ?_
           refine rvS ?_
           refine rvP C (.pv (.lit (.bool true))) ?_
           refine rvc_nil ?_
           refine Awp.condT (b := true) rfl rfl ?_
           refine Awp.consP C ?_
           refine rvP C (.pv (.lit (.bool false))) ?_
           refine rvc_nil ?_
           refine Awp.ret ?_
           subst hR
           exact ⟨.inl rfl, rfl⟩
          ·
           replace hR := of_false h10 hR
           refine rvO C (.ptr 16 0) ?_
           refine rvc_open rfl rfl rfl (rexec_callM hP C (b := 16) rfl rfl rfl (lAt_calls ((lApply (Ledger.mk (Past.mk (Sl.mk true [])) (Chain.mk 0 (Sl.mk true [])) 0) (doIndex k 0) (doData k 1)).1)) rfl rfl ?_)
           refine rvO C (.pv (.lit (.bool ((lAt ((lApply (Ledger.mk (Past.mk (Sl.mk true [])) (Chain.mk 0 (Sl.mk true [])) 0) (doIndex k 0) (doData k 1)).1)) != 0)))) ?_
           refine rvP C (.pv (.lit (.bool ((lAt ((lApply (Ledger.mk (Past.mk (Sl.mk true [])) (Chain.mk 0 (Sl.mk true [])) 0) (doIndex k 0) (doData k 1)).1)) != 0)))) ?_
           refine rvP C (.pv (.lit (.bool ((lAt ((lApply (Ledger.mk (Past.mk (Sl.mk true [])) (Chain.mk 0 (Sl.mk true [])) 0) (doIndex k 0) (doData k 1)).1)) != 0)))) ?_
           refine rvc_case 57 ((lAt ((lApply (Ledger.mk (Past.mk (Sl.mk true [])) (Chain.mk 0 (Sl.mk true [])) 0) (doIndex k 0) (doData k 1)).1)) != 0) rfl (fun h11 => ?_) (fun h11 => ?_)
           ·
            replace hR := of_true h11 hR
            refine rvS ?_
            refine rvS ?_
            refine rvS ?_
            refine rvP C (.pv (.lit (.bool true))) ?_
            refine rvc_nil ?_
            refine Awp.condT (b := true) rfl rfl ?_
            refine Awp.consP C ?_
            refine rvP C (.pv (.lit (.bool false))) ?_
            refine rvc_nil ?_
            refine Awp.ret ?_
            subst hR
            exact ⟨.inl rfl, rfl⟩
           ·
            replace hR := of_false h11 hR
            refine rvO C (.ptr 16 0) ?_
            refine rvc_open rfl rfl rfl (rexec_callM hP C (b := 16) rfl rfl rfl (lCloneD_calls ((lApply (Ledger.mk (Past.mk (Sl.mk true [])) (Chain.mk 0 (Sl.mk true [])) 0) (doIndex k 0) (doData k 1)).1) rfl) rfl rfl ?_)
            refine rvc_open rfl rfl rfl (rexec_eqPtr C true true (z := .pv (.lit (.bool false))) rfl rfl rfl rfl rfl rfl rfl rfl rfl ?_)
            refine rvP C (.pv (.lit (.bool false))) ?_
            refine rvc_nil ?_
            refine Awp.condF (b := false) rfl rfl ?_
            refine Awp.skip ?_
            refine Awp.regionP C ?_
            refine rvP C (.pv (.lit (.int .i64 2))) ?_
            refine rvP C (.pv (.lit (.int .i64 2))) ?_
            refine rvc_nil ?_
            refine Arounds.succ ?_
            refine Awp.wordsR [(1, .pv (.lit (.int .i64 epoch))), (2, .ptr 2 0), (17, .sl 17 0 2 1 true), (18, .pv (.lit (.int .i64 2))), (19, .pv (.lit (.int .i64 2))), (37, .ptr 16 0), (38, .agg [.pv (.lit (.int .i64 ((lChain ((lApply (Ledger.mk (Past.mk (Sl.mk true [])) (Chain.mk 0 (Sl.mk true [])) 0) (doIndex k 0) (doData k 1)).1)).epoch))), sS (some (lChain ((lApply (Ledger.mk (Past.mk (Sl.mk true [])) (Chain.mk 0 (Sl.mk true [])) 0) (doIndex k 0) (doData k 1)).1)).members.nil) eMember ((lChain ((lApply (Ledger.mk (Past.mk (Sl.mk true [])) (Chain.mk 0 (Sl.mk true [])) 0) (doIndex k 0) (doData k 1)).1)).members.D)]), (39, .agg [.pv (.lit (.int .i64 0)), sS (some true) eMember []]), (40, .pv (.lit (.bool (same (lChain ((lApply (Ledger.mk (Past.mk (Sl.mk true [])) (Chain.mk 0 (Sl.mk true [])) 0) (doIndex k 0) (doData k 1)).1)) (Chain.mk 0 (Sl.mk true [])))))), (41, .pv (.lit (.bool (!(same (lChain ((lApply (Ledger.mk (Past.mk (Sl.mk true [])) (Chain.mk 0 (Sl.mk true [])) 0) (doIndex k 0) (doData k 1)).1)) (Chain.mk 0 (Sl.mk true []))))))), (44, .agg [.pv (.lit (.int .i64 ((lOf (Ledger.mk (Past.mk (Sl.mk true [])) (Chain.mk 0 (Sl.mk true [])) 0) epoch).1.epoch))), sS (some (lOf (Ledger.mk (Past.mk (Sl.mk true [])) (Chain.mk 0 (Sl.mk true [])) 0) epoch).1.members.nil) eMember ((lOf (Ledger.mk (Past.mk (Sl.mk true [])) (Chain.mk 0 (Sl.mk true [])) 0) epoch).1.members.D)]), (45, .agg [.pv (.lit (.int .i64 0)), sS (some true) eMember []]), (46, .pv (.lit (.bool (same ((lOf (Ledger.mk (Past.mk (Sl.mk true [])) (Chain.mk 0 (Sl.mk true [])) 0) epoch).1) (Chain.mk 0 (Sl.mk true [])))))), (47, .pv (.lit (.bool (!(same ((lOf (Ledger.mk (Past.mk (Sl.mk true [])) (Chain.mk 0 (Sl.mk true [])) 0) epoch).1) (Chain.mk 0 (Sl.mk true []))))))), (50, .pv (.lit (.bool ((lOf (Ledger.mk (Past.mk (Sl.mk true [])) (Chain.mk 0 (Sl.mk true [])) 0) epoch).2)))), (53, .ptr 16 0), (54, .pv (.lit (.int .i64 (lAt ((lApply (Ledger.mk (Past.mk (Sl.mk true [])) (Chain.mk 0 (Sl.mk true [])) 0) (doIndex k 0) (doData k 1)).1))))), (55, .pv (.lit (.bool ((lAt ((lApply (Ledger.mk (Past.mk (Sl.mk true [])) (Chain.mk 0 (Sl.mk true [])) 0) (doIndex k 0) (doData k 1)).1)) != 0)))), (58, .ptr 16 0), (59, .pv (.lit (.pointer none))), (60, .pv (.lit (.bool false)))] [(2, .cells [.pv (.lit (.int .i64 k.c.kind)), .pv (.lit (.int .i64 k.c.node)), .pv (.lit (.int .i64 k.c.site)), .pv (.lit (.int .i64 k.c.epoch)), sS (some k.b.nil) (eI .u8) k.b.D, .pv (.lit (.bool k.raw)), .pv (.lit (.int .i64 k.by_)), .pv (.lit (.int .i64 k.off))]), (16, .cells [sS (some (lApply (Ledger.mk (Past.mk (Sl.mk true [])) (Chain.mk 0 (Sl.mk true [])) 0) (doIndex k 0) (doData k 1)).1.past.all.nil) eChain ((lApply (Ledger.mk (Past.mk (Sl.mk true [])) (Chain.mk 0 (Sl.mk true [])) 0) (doIndex k 0) (doData k 1)).1.past.all.D), .pv (.lit (.int .i64 ((lApply (Ledger.mk (Past.mk (Sl.mk true [])) (Chain.mk 0 (Sl.mk true [])) 0) (doIndex k 0) (doData k 1)).1.chain.epoch))), sS (some (lApply (Ledger.mk (Past.mk (Sl.mk true [])) (Chain.mk 0 (Sl.mk true [])) 0) (doIndex k 0) (doData k 1)).1.chain.members.nil) eMember ((lApply (Ledger.mk (Past.mk (Sl.mk true [])) (Chain.mk 0 (Sl.mk true [])) 0) (doIndex k 0) (doData k 1)).1.chain.members.D), .pv (.lit (.int .i64 ((lApply (Ledger.mk (Past.mk (Sl.mk true [])) (Chain.mk 0 (Sl.mk true [])) 0) (doIndex k 0) (doData k 1)).1.at_)))]), (17, .cells [.pv (.lit (.pointer none)), .ptr 16 0])] [2, 16, 17] (WeakerR.ofL (Ks := [2, 16, 17]) hI ⟨⟨rfl, rfl⟩, ⟨rfl, rfl⟩, ⟨rfl, rfl⟩, ⟨rfl, rfl⟩, ⟨rfl, rfl⟩, ⟨rfl, rfl⟩, ⟨rfl, rfl⟩, ⟨rfl, rfl⟩, ⟨rfl, rfl⟩, ⟨rfl, rfl⟩, ⟨rfl, rfl⟩, ⟨rfl, rfl⟩, ⟨rfl, rfl⟩, ⟨rfl, rfl⟩, ⟨rfl, rfl⟩, ⟨rfl, rfl⟩, ⟨rfl, rfl⟩, ⟨rfl, rfl⟩, ⟨rfl, rfl⟩, ⟨rfl, rfl⟩, ⟨rfl, rfl⟩, trivial⟩ (okH_cons rfl rfl rfl rfl (okH_cons rfl rfl rfl rfl (okH_cons rfl rfl rfl rfl (okH_nil)))) rfl) ?_
            refine Awp.consP C ?_
            refine rvP C (.pv (.lit (.bool false))) ?_
            refine rvc_nil ?_
            refine Awp.seq ?_
            refine Awp.condF (b := false) rfl rfl ?_
            refine Awp.exit ?_
            refine Awp.consP C ?_
            refine rvc_un (rexec_call hP C rfl rfl rfl (awake_calls ) ?_)
            refine rvP C (.pv (.lit (.bool (awake )))) ?_
            refine rvc_nil ?_
            refine Awp.ret ?_
            subst hR
            exact ⟨.inl rfl, rfl⟩
end Go.Proofs.Ytpgenmflgdkfiaa
/- Laws: once; refused. No conditions. -/
namespace Go.Proofs.Ytpgenmflgdkfiaa
open Go.Am
end Go.Proofs.Ytpgenmflgdkfiaa
/- Numbers as bytes, in plain words: put, and read. No conditions. -/
namespace Go.Proofs.Ytpgenmflgdkfiaa
open Go.Am
end Go.Proofs.Ytpgenmflgdkfiaa
/- What readers of bytes read, in plain words. No conditions. -/
namespace Go.Proofs.Ytpgenmflgdkfiaa
open Go.Am
/-- A reader of these bytes, with no error, ahead of those. -/
structure RdAt (r : Reader) (D l : List Int) : Prop where
  b : r.b.D = D
  made : r.made = true
  err : r.err = 0
  suf : l <:+ D
  at' : r.at_ = (D.length : Int) - l.length
theorem RdAt.drop {r : Reader} {D l : List Int} (h : RdAt r D l) : D.drop r.at_.toNat = l := by
  have h1 := List.suffix_iff_eq_drop.1 h.suf
  have h2 := h.suf.length_le
  have : r.at_.toNat = D.length - l.length := by have := h.at'; omega
  rw [this]; exact h1.symm
theorem RdAt.ok {r : Reader} {D l : List Int} (h : RdAt r D l) (hl : D.length ≤ 1000000) : okR r := by
  have h2 := h.suf.length_le
  have h3 := h.at'
  have h4 := h.b
  exact ⟨⟨by omega, by rw [h4]; omega⟩, by rw [h4]; exact hl⟩
end Go.Proofs.Ytpgenmflgdkfiaa
/- What the reference's readers of bytes read, in plain words. No conditions. -/
namespace Go.Proofs.Ytpgenmflgdkfiaa
open Go.Am
/-- A reader of the reference, likewise. -/
structure RrAt (r : Reader94) (D l : List Int) : Prop where
  b : r.b.D = D
  err : r.e_ = 0
  suf : l <:+ D
  at' : r.at_ = (D.length : Int) - l.length
theorem RrAt.drop {r : Reader94} {D l : List Int} (h : RrAt r D l) : D.drop r.at_.toNat = l := by
  have h1 := List.suffix_iff_eq_drop.1 h.suf
  have h2 := h.suf.length_le
  have : r.at_.toNat = D.length - l.length := by have := h.at'; omega
  rw [this]; exact h1.symm
end Go.Proofs.Ytpgenmflgdkfiaa
/- Commands as bytes, in plain words. No conditions. -/
namespace Go.Proofs.Ytpgenmflgdkfiaa
open Go.Am
end Go.Proofs.Ytpgenmflgdkfiaa
/- The law of commands. No conditions. -/
namespace Go.Proofs.Ytpgenmflgdkfiaa
open Go.Am
theorem awake_true : awake = true := by decide +kernel
end Go.Proofs.Ytpgenmflgdkfiaa
/- Inputs of chapter 12, as plain values. No conditions. -/
namespace Go.Proofs.Ytpgenmflgdkfiaa
open Go.Am
set_option maxRecDepth 100000 in
theorem flat3 {m : Nat} {ps : List PV} (h : Flat Try.prog (m + 1) 3 ps) : ∃ n, ps = [.lit (.int .i64 n)] ∧ (Lit.int .i64 n).wf = true := by
  unfold Flat at h
  rw [Try.underlying3] at h
  exact h
def WT25 (x : Command) : Prop := (Lit.int .i64 x.kind).wf = true ∧ (Lit.int .i64 x.node).wf = true ∧ (Lit.int .i64 x.site).wf = true ∧ (Lit.int .i64 x.epoch).wf = true
set_option maxRecDepth 100000 in
theorem flat25 {m : Nat} {ps : List PV} (h : Flat Try.prog (m + 2) 25 ps) : ∃ x : Command, ps = eCommand.enc x ∧ WT25 x := by
  unfold Flat at h
  rw [Try.underlying25] at h
  obtain ⟨a0, b0, e0, h0, a1, b1, e1, h1, a2, b2, e2, h2, a3, b3, e3, h3, el⟩ := h
  obtain ⟨x0, rfl, w0⟩ := flat3 (m := m + 0) h0
  obtain ⟨x1, rfl, w1⟩ := flat3 (m := m + 0) h1
  obtain ⟨x2, rfl, w2⟩ := flat3 (m := m + 0) h2
  obtain ⟨x3, rfl, w3⟩ := flat3 (m := m + 0) h3
  subst el
  subst e3
  subst e2
  subst e1
  subst e0
  exact ⟨⟨x0, x1, x2, x3⟩, rfl, w0, w1, w2, w3⟩
set_option maxRecDepth 100000 in
theorem flat5 {m : Nat} {ps : List PV} (h : Flat Try.prog (m + 1) 5 ps) : ∃ n, ps = [.lit (.int .u8 n)] ∧ (Lit.int .u8 n).wf = true := by
  unfold Flat at h
  rw [Try.underlying5] at h
  exact h
def WT26 (s : Sl Int) : Prop := s.D.length ≤ maxLen ∧ (s.nil = true → s.D = []) ∧ ∀ x ∈ s.D, (Lit.int .u8 x).wf = true
set_option maxRecDepth 100000 in
theorem flat26 {m : Nat} {ps : List PV} (h : Flat Try.prog (m + 2) 26 ps) : ∃ s : Sl Int, ps = [.sl (some s.nil) s.D.length (encL (eI .u8) s.D)] ∧ WT26 s := by
  unfold Flat at h
  rw [Try.underlying26] at h
  obtain ⟨b, D, rfl, h1, h2, h3⟩ := h
  obtain ⟨D2, e1, e2, e3⟩ := enc_list (e := (eI .u8)) (W := fun x => (Lit.int .u8 x).wf = true) D fun y hy => flat5 (h3 y hy)
  rw [e2, ← e1]
  exact ⟨⟨b, D2⟩, rfl, (by show D2.length ≤ _; rw [e1]; exact h1), (fun hb => by have := h2 hb; rw [this] at e1; exact List.eq_nil_of_length_eq_zero e1), e3⟩
set_option maxRecDepth 100000 in
theorem flat4 {m : Nat} {ps : List PV} (h : Flat Try.prog (m + 1) 4 ps) : ∃ b, ps = [.lit (.bool b)] ∧ True := by
  unfold Flat at h
  rw [Try.underlying4] at h
  obtain ⟨b, h⟩ := h
  exact ⟨b, h, trivial⟩
def WT28 (x : Do) : Prop := WT25 x.c ∧ WT26 x.b ∧ True ∧ (Lit.int .i64 x.by_).wf = true ∧ (Lit.int .i64 x.off).wf = true
set_option maxRecDepth 100000 in
theorem flat28 {m : Nat} {ps : List PV} (h : Flat Try.prog (m + 3) 28 ps) : ∃ x : Do, ps = eDo.enc x ∧ WT28 x := by
  unfold Flat at h
  rw [Try.underlying28] at h
  obtain ⟨a0, b0, e0, h0, a1, b1, e1, h1, a2, b2, e2, h2, a3, b3, e3, h3, a4, b4, e4, h4, el⟩ := h
  obtain ⟨x0, rfl, w0⟩ := flat25 (m := m + 0) h0
  obtain ⟨x1, rfl, w1⟩ := flat26 (m := m + 0) h1
  obtain ⟨x2, rfl, w2⟩ := flat4 (m := m + 1) h2
  obtain ⟨x3, rfl, w3⟩ := flat3 (m := m + 1) h3
  obtain ⟨x4, rfl, w4⟩ := flat3 (m := m + 1) h4
  subst el
  subst e4
  subst e3
  subst e2
  subst e1
  subst e0
  exact ⟨⟨x0, x1, x2, x3, x4⟩, rfl, w0, w1, w2, w3, w4⟩
end Go.Proofs.Ytpgenmflgdkfiaa
/- The contract of LedgerCommands. No conditions. -/
namespace Go.Proofs.Ytpgenmflgdkfiaa
open Go.Am
end Go.Proofs.Ytpgenmflgdkfiaa
/- The epoch behind a command; what is not told by one. No conditions. -/
namespace Go.Proofs.Ytpgenmflgdkfiaa
open Go.Am
/-- What a change of a chain tells. -/
def told (c : Chain) (x : Chain × Int) : Prop := (x.2 = 0 → (x.1.epoch = c.epoch ∨ x.1.epoch = c.epoch + 1) ∧ check c = 0) ∧ x.2 ≠ 90
theorem told_err (c d : Chain) {e : Int} (h0 : e ≠ 0) (h : e ≠ 90) : told c (d, e) := ⟨fun h => absurd h h0, h⟩
theorem told_bif {c : Chain} {b : Bool} {x y : Chain × Int} (hx : b = true → told c x) (hy : b = false → told c y) : told c (bif b then x else y) := by
  cases b
  · exact hy rfl
  · exact hx rfl
theorem told_after {c : Chain} (h : check c = 0) (l : Sl Member) : told c (after c l, 0) :=
  ⟨fun _ => ⟨.inr (wrap_epoch h), h⟩, by show (0 : Int) ≠ 90; decide⟩
theorem told_check {c d : Chain} (h : (check c != 0) = true) : told c (d, check c) := by
  rcases check_80 c with e | e
  · rw [e] at h; cases h
  · rw [e]; exact told_err _ _ (by decide) (by decide)
theorem told_finW {c : Chain} (h : check c = 0) (l : List Member) : told c (finW c l) := by
  unfold finW
  refine told_bif (fun _ => told_err _ _ (by decide) (by decide)) fun _ => told_bif (fun _ => told_err _ _ (by decide) (by decide)) fun _ => told_bif (fun _ => told_err _ _ (by decide) (by decide)) fun _ => told_after h _
theorem told_without {c : Chain} (h : check c = 0) (g : Int) : told c (without c g) := by rw [without_eq]; exact told_finW h _
theorem told_drop (c : Chain) (n : Int) : told c (drop c n) := by
  unfold drop
  exact told_bif (fun h => told_check h) fun h => told_without (eq_of_bne_false h) _
theorem told_dropSite_l0 {c : Chain} (h : check c = 0) (s : Int) : ∀ (l : List Member) (i : Nat) (g : Int), told c (dropSite_l0 c s l i g)
  | [], _, g => by unfold dropSite_l0; exact told_without h g
  | x :: l, i, g => by
    unfold dropSite_l0
    exact told_bif (fun _ => told_dropSite_l0 h s l _ _) fun _ => told_dropSite_l0 h s l _ _
theorem told_dropSite (c : Chain) (s : Int) : told c (dropSite c s) := by
  unfold dropSite
  exact told_bif (fun h => told_check h) fun h => told_dropSite_l0 (eq_of_bne_false h) _ _ _ _
theorem told_join_l0 {c : Chain} (h : check c = 0) (m : Member) : ∀ (f : Nat) (i : Int), f = c.members.D.length - i.toNat + 1 → 0 ≤ i → i ≤ (c.members.D.length : Int) → told c (join_l0 c m f i)
  | 0, _, hf, _, _ => by omega
  | f + 1, i, hf, h0, h1 => by
    have h6 := check_le6 h
    unfold join_l0
    have e : told c (bif (i == 0) then ((Chain.mk 0 (Sl.mk true [])), (152 : Int)) else ((after c (Sl.mk false (insertL c.members.D i.toNat [(Member.mk m.node m.site true)]))), 0)) :=
      told_bif (fun _ => told_err _ _ (by decide) (by decide)) fun _ => told_after h _
    refine told_bif (fun hlt => told_bif (fun _ => ?_) fun _ => e) fun _ => e
    have := of_decide_eq_true hlt
    have := wrapI (i + 1)
    exact told_join_l0 h m f _ (by omega) (by omega) (by omega)
theorem told_join (c : Chain) (m : Member) : told c (join c m) := by
  unfold join
  refine told_bif (fun h => told_check h) fun h => told_bif (fun _ => told_err _ _ (by decide) (by decide)) fun _ => told_bif (fun _ => told_err _ _ (by decide) (by decide)) fun _ => told_bif (fun _ => told_err _ _ (by decide) (by decide)) fun _ => ?_
  exact told_join_l0 (eq_of_bne_false h) m _ 0 (by omega) (Int.le_refl _) (by omega)
theorem told_again (c : Chain) (n : Int) : told c (again c n) := by
  unfold again
  exact told_bif (fun h => told_check h) fun h => told_bif (fun _ => told_err _ _ (by decide) (by decide)) fun _ => told_bif (fun _ => told_err _ _ (by decide) (by decide)) fun _ => told_after (eq_of_bne_false h) _
theorem told_ready (c : Chain) (n : Int) : told c (ready c n) := by
  unfold ready
  exact told_bif (fun h => told_check h) fun h => told_bif (fun _ => told_err _ _ (by decide) (by decide)) fun _ => told_bif (fun _ => told_err _ _ (by decide) (by decide)) fun _ => ⟨fun _ => ⟨.inl rfl, eq_of_bne_false h⟩, by show (0 : Int) ≠ 90; decide⟩
theorem told_next (c : Chain) (k : Command) : told c (nextL c k) := by
  unfold nextL
  exact told_bif (fun _ => told_err _ _ (by decide) (by decide)) fun _ => told_bif (fun _ => told_drop _ _) fun _ => told_bif (fun _ => told_dropSite _ _) fun _ => told_bif (fun _ => told_join _ _) fun _ => told_bif (fun _ => told_again _ _) fun _ => told_ready _ _
theorem get_code (b : Sl Int) : (cmdGet b).2 = 0 ∨ (cmdGet b).2 = 120 := by
  unfold cmdGet
  cases (rdEnd (rdIn (rdIn (rdIn (rdIn (rdNew b) 0 99).1 0 6).1 0 3).1 0 1099511627776).1) != 0
  · simp only [cond_false]
    cases cmdCheck _ != 0
    · exact .inl rfl
    · exact .inr rfl
  · exact .inr rfl
/-- A ledger behind so many calls. -/
structure Lived (g : Ledger) (n : Nat) : Prop where
  lo : 1 ≤ g.chain.epoch
  hi : g.chain.epoch ≤ 1 + (n : Int)
  at0 : 0 ≤ g.at_
  at1 : g.at_ ≤ (n : Int)
theorem Lived.dead {g : Ledger} {n : Nat} (h : Lived g n) : lDead g = false := by
  have := h.lo
  unfold lDead
  simp; omega
theorem Lived.chain {g : Ledger} {n : Nat} (h : Lived g n) : lChain g = copied g.chain := by unfold lChain; rw [h.dead]; rfl
theorem Lived.at_ {g : Ledger} {n : Nat} (h : Lived g n) : lAt g = g.at_ := by unfold lAt; rw [h.dead]; rfl
/-- What Apply does, told by cases. -/
theorem apply_cases {g : Ledger} {n : Nat} (h : Lived g n) (_ : n ≤ 1000) (i : Int) (d : Sl Int) :
    (lApply g i d = (g, 90)) ∨
    (i = g.at_ + 1 ∧ ((lApply g i d = (Ledger.mk g.past g.chain i, 0) ∧ d.D.length = 0) ∨ (lApply g i d = (Ledger.mk g.past g.chain i, (cmdGet d).2) ∧ (cmdGet d).2 = 120) ∨
      ((cmdGet d).2 = 0 ∧ lApply g i d = (Ledger.mk g.past g.chain i, (nextL g.chain (cmdGet d).1).2) ∧ (nextL g.chain (cmdGet d).1).2 ≠ 0) ∨
      ((cmdGet d).2 = 0 ∧ (nextL g.chain (cmdGet d).1).2 = 0 ∧ (((nextL g.chain (cmdGet d).1).1.epoch > g.chain.epoch ∧ lApply g i d = (Ledger.mk (Past.mk (Sl.mk false (g.past.all.D ++ [copied (nextL g.chain (cmdGet d).1).1]))) (nextL g.chain (cmdGet d).1).1 i, 0)) ∨
        (¬ (nextL g.chain (cmdGet d).1).1.epoch > g.chain.epoch ∧ lApply g i d = (Ledger.mk g.past (nextL g.chain (cmdGet d).1).1 i, 0)))))) := by
  have h1 := h.at0
  have h2 := h.at1
  unfold lApply
  rw [h.dead, cond_false]
  cases e1 : decide (i > 1099511627776)
  · have f1 := of_decide_eq_false e1
    rw [cond_false]
    cases e2 : decide (i < 1)
    · have f2 := of_decide_eq_false e2
      rw [cond_false]
      cases e3 : IntKind.i64.wrap (i - 1) != g.at_
      · have f3 := eq_of_bne_false e3
        have := wrapI (i - 1)
        have hi : i = g.at_ + 1 := by omega
        rw [cond_false]
        refine .inr ⟨hi, ?_⟩
        cases e4 : (d.D.length : Int) == 0
        · rw [cond_false]
          refine .inr ?_
          rcases get_code d with e5 | e5
          · rw [e5]
            simp only [bne_self_eq_false, cond_false]
            refine .inr ?_
            cases e6 : (nextL g.chain (cmdGet d).1).2 != 0
            · have f6 := eq_of_bne_false e6
              rw [cond_false]
              refine .inr ⟨by first | rfl | trivial, f6, ?_⟩
              cases e7 : decide ((nextL g.chain (cmdGet d).1).1.epoch > g.chain.epoch)
              · exact .inr ⟨of_decide_eq_false e7, rfl⟩
              · exact .inl ⟨of_decide_eq_true e7, rfl⟩
            · exact .inl ⟨by first | rfl | trivial, rfl, by simpa using e6⟩
          · rw [e5]
            exact .inl ⟨rfl, rfl⟩
        · exact .inl ⟨rfl, by simpa using e4⟩
      · exact .inl rfl
    · exact .inl rfl
  · exact .inl rfl
theorem Lived.apply {g : Ledger} {n : Nat} (h : Lived g n) (hn : n ≤ 1000) (i : Int) (d : Sl Int) : Lived (lApply g i d).1 (n + 1) := by
  have a := h.lo; have b := h.hi; have c := h.at0; have e := h.at1
  rcases apply_cases h hn i d with q | ⟨hi, ⟨q, _⟩ | ⟨q, _⟩ | ⟨_, q, _⟩ | ⟨_, q0, ⟨_, q⟩ | ⟨_, q⟩⟩⟩
  · rw [q]; exact ⟨a, by dsimp only; omega, c, by dsimp only; omega⟩
  · rw [q]; exact ⟨a, by dsimp only; omega, by dsimp only; omega, by dsimp only; omega⟩
  · rw [q]; exact ⟨a, by dsimp only; omega, by dsimp only; omega, by dsimp only; omega⟩
  · rw [q]; exact ⟨a, by dsimp only; omega, by dsimp only; omega, by dsimp only; omega⟩
  · rw [q]
    have := ((told_next g.chain (cmdGet d).1).1 q0).1
    exact ⟨by dsimp only; omega, by dsimp only; omega, by dsimp only; omega, by dsimp only; omega⟩
  · rw [q]
    have := ((told_next g.chain (cmdGet d).1).1 q0).1
    exact ⟨by dsimp only; omega, by dsimp only; omega, by dsimp only; omega, by dsimp only; omega⟩
end Go.Proofs.Ytpgenmflgdkfiaa
/- The laws: a command is done once; what is refused changes nothing. No conditions. -/
namespace Go.Proofs.Ytpgenmflgdkfiaa
open Go.Am
end Go.Proofs.Ytpgenmflgdkfiaa
/- The law of ledgers that no call made; its contract. No conditions. -/
namespace Go.Proofs.Ytpgenmflgdkfiaa
open Go.Am
theorem dead_apply (i : Int) (d : Sl Int) : lApply (Ledger.mk (Past.mk (Sl.mk true [])) (Chain.mk 0 (Sl.mk true [])) 0) i d = (Ledger.mk (Past.mk (Sl.mk true [])) (Chain.mk 0 (Sl.mk true [])) 0, 6) := rfl
theorem lawNobody_true (k : Do) (e : Int) : lawNobody k e = true := by
  unfold lawNobody
  rw [awake_true, dead_apply]
  cases !(short (Sl.mk false [(Sl.mk false [k])]))
  · rfl
  · rfl
theorem ledgerNobody_calls (k : Do) (_ : WT28 k) (e : Int) (_ : (Lit.int .i64 e).wf = true) : PCalls Try.prog 8 [.agg ((eDo.enc k).map .pv), .pv (.lit (.int .i64 e))] (.pv (.bool true)) := by
  have r := lawNobody_calls k e
  rw [lawNobody_true] at r
  exact r
end Go.Proofs.Ytpgenmflgdkfiaa
/- An abstract machine over the kit's calls, part 34: three rows of three numbers that are handed in. No conditions. -/
namespace Go.Am
section
variable {H : Type} {enc : TypeId × Value → H} {P : Program} {w : World} {base : Nat} {spare : Nat → Bool} {held : Bool}
end
end Go.Am
/- What all rows of this seat need: no knob is turned, the types are laid out. No conditions. -/
namespace Go.Proofs.Ytpgenmflgdkfiaa
open Go.Am
theorem own : ownKnob Try.prog.godebug = none := by kernel_rfl
theorem laidOut : laidOutB Try.prog = true := by kernel_rfl
end Go.Proofs.Ytpgenmflgdkfiaa
