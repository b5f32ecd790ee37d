import Derived.Test.YtpgenmflgdkfiaaM5
import Derived.Test.YtpgenmflgdkfiaaM2
/- The ledger: commands done. No conditions. -/
namespace Go.Proofs.Ytpgenmflgdkfiaa
open Go.Am
structure Ledger60 where
  c : Chain
  all : (Sl Chain)
  at_ : Int
  deriving Inhabited
structure Do where
  c : Command
  b : (Sl Int)
  raw : Bool
  by_ : Int
  off : Int
  deriving Inhabited
def lApply (l : Ledger) (index : Int) (data : (Sl Int)) : Ledger × Int :=
  (bif (lDead l) then (l, 6) else (bif (decide (index > 1099511627776)) then (l, 90) else (bif (decide (index < 1)) then (l, 90) else (bif ((IntKind.i64.wrap (index - 1)) != l.at_) then (l, 90) else (bif ((data.D.length : Int) == 0) then ((Ledger.mk l.past l.chain index), 0) else (bif ((cmdGet data).2 != 0) then ((Ledger.mk l.past l.chain index), (cmdGet data).2) else (bif ((nextL l.chain (cmdGet data).1).2 != 0) then ((Ledger.mk l.past l.chain index), (nextL l.chain (cmdGet data).1).2) else (bif (decide ((nextL l.chain (cmdGet data).1).1.epoch > l.chain.epoch)) then ((Ledger.mk (Past.mk (Sl.mk false (l.past.all.D ++ [(copied (nextL l.chain (cmdGet data).1).1)]))) (nextL l.chain (cmdGet data).1).1 index), 0) else ((Ledger.mk l.past (nextL l.chain (cmdGet data).1).1 index), 0)))))))))
theorem lApply_calls (l : Ledger) (index : Int) (data : (Sl Int)) (hn : l.chain.members.nil = true → l.chain.members.D = []) (hl1 : data.D.length ≤ 1000000) (hl2 : l.chain.members.D.length ≤ 1000000) (hl3 : l.past.all.D.length ≤ 1000000) : MCalls Try.prog 16 [.ptr 0 0, .pv (.lit (.int .i64 index)), sS (some data.nil) (eI .u8) data.D] (.cells [sS (some l.past.all.nil) eChain l.past.all.D, .pv (.lit (.int .i64 l.chain.epoch)), sS (some l.chain.members.nil) eMember l.chain.members.D, .pv (.lit (.int .i64 l.at_))]) (.pv (.lit (.int .i64 ((lApply l index data).2)))) (.cells [sS (some (lApply l index data).1.past.all.nil) eChain ((lApply l index data).1.past.all.D), .pv (.lit (.int .i64 ((lApply l index data).1.chain.epoch))), sS (some (lApply l index data).1.chain.members.nil) eMember ((lApply l index data).1.chain.members.D), .pv (.lit (.int .i64 ((lApply l index data).1.at_)))]) := by
 generalize hR : lApply l index data = R
 refine MCalls.of_body tabOk Try.func16 rfl rfl rfl rfl rfl rfl rfl mixed fun E hP C hI => ?_
 refine Awp.consP C ?_
 refine rvP C (.pv (.lit (.int .i64 0))) ?_
 refine rvc_nil ?_
 refine Awp.seq ?_
 refine Awp.block ?_
 refine Awp.cons C (fun _ => .writer) (by kernel_rfl) ?_
 refine rvP C (.ptr 0 0) ?_
 refine rvc_un (rexec_callM hP C (b := 0) rfl rfl rfl (lDead_calls l) rfl rfl ?_)
 refine rvP C (.pv (.lit (.bool (lDead l)))) ?_
 refine rvc_nil ?_
 refine Awp.cond (b := (lDead l)) rfl (fun h1 => ?_) (fun h1 => ?_)
 ·
  replace hR := of_true h1 hR
  refine Awp.consP C ?_
  refine rvP C (.pv (.lit (.int .i64 6))) ?_
  refine rvc_nil ?_
  refine Awp.ret ?_
  subst hR
  exact ⟨.inl rfl, rfl, rfl⟩
 ·
  replace hR := of_false h1 hR
  refine Awp.consP C ?_
  refine rvP C (.pv (.lit (.int .i64 index))) ?_
  refine rvP C (.pv (.lit (.bool (decide (index > 1099511627776))))) ?_
  refine rvP C (.pv (.lit (.bool (decide (index > 1099511627776))))) ?_
  refine rvc_case 16 (decide (index > 1099511627776)) rfl (fun h2 => ?_) (fun h2 => ?_)
  ·
   replace hR := of_true h2 hR
   refine rvS ?_
   refine rvS ?_
   refine rvP C (.pv (.lit (.bool true))) ?_
   refine rvP C (.pv (.lit (.bool true))) ?_
   refine rvS ?_
   refine rvS ?_
   refine rvS ?_
   refine rvS ?_
   refine rvS ?_
   refine rvS ?_
   refine rvS ?_
   refine rvP C (.pv (.lit (.bool true))) ?_
   refine rvP C (.pv (.lit (.bool true))) ?_
   refine rvc_nil ?_
   refine Awp.condT (b := true) rfl rfl ?_
   refine Awp.consP C ?_
   refine rvP C (.pv (.lit (.int .i64 90))) ?_
   refine rvc_nil ?_
   refine Awp.ret ?_
   subst hR
   exact ⟨.inl rfl, rfl, rfl⟩
  ·
   replace hR := of_false h2 hR
   refine rvO C (.pv (.lit (.int .i64 index))) ?_
   refine rvO C (.pv (.lit (.bool (decide (index < 1))))) ?_
   refine rvP C (.pv (.lit (.bool (decide (index < 1))))) ?_
   refine rvP C (.pv (.lit (.bool (decide (index < 1))))) ?_
   refine rvc_case 20 (decide (index < 1)) rfl (fun h3 => ?_) (fun h3 => ?_)
   ·
    replace hR := of_true h3 hR
    refine rvS ?_
    refine rvS ?_
    refine rvS ?_
    refine rvS ?_
    refine rvS ?_
    refine rvS ?_
    refine rvS ?_
    refine rvP C (.pv (.lit (.bool true))) ?_
    refine rvP C (.pv (.lit (.bool true))) ?_
    refine rvc_nil ?_
    refine Awp.condT (b := true) rfl rfl ?_
    refine Awp.consP C ?_
    refine rvP C (.pv (.lit (.int .i64 90))) ?_
    refine rvc_nil ?_
    refine Awp.ret ?_
    subst hR
    exact ⟨.inl rfl, rfl, rfl⟩
   ·
    replace hR := of_false h3 hR
    refine rvO C (.pv (.lit (.int .i64 index))) ?_
    refine rvO C (.pv (.lit (.int .i64 (IntKind.i64.wrap (index - 1))))) ?_
    refine rvO C (.ptr 0 0) ?_
    refine rvO C (.ptr 0 0) ?_
    refine rvO C (.ptr 0 3) ?_
    refine rvO C (.pv (.lit (.int .i64 l.at_))) ?_
    refine rvO C (.pv (.lit (.bool ((IntKind.i64.wrap (index - 1)) != l.at_)))) ?_
    refine rvP C (.pv (.lit (.bool ((IntKind.i64.wrap (index - 1)) != l.at_)))) ?_
    refine rvP C (.pv (.lit (.bool ((IntKind.i64.wrap (index - 1)) != l.at_)))) ?_
    refine rvc_nil ?_
    refine Awp.cond (b := ((IntKind.i64.wrap (index - 1)) != l.at_)) rfl (fun h4 => ?_) (fun h4 => ?_)
    ·
     replace hR := of_true h4 hR
     refine Awp.consP C ?_
     refine rvP C (.pv (.lit (.int .i64 90))) ?_
     refine rvc_nil ?_
     refine Awp.ret ?_
     subst hR
     exact ⟨.inl rfl, rfl, rfl⟩
    ·
     replace hR := of_false h4 hR
     refine Awp.skip ?_
     refine Awp.consP C ?_
     refine rvP C (.ptr 0 0) ?_
     refine rvP C (.pv (.lit (.int .i64 index))) ?_
     refine rvP C (.ptr 0 0) ?_
     refine rvP C (.ptr 0 3) ?_
     refine rvc_un (rexec_prim C (δ := { v := .undef, wr := [(0, some (.cells [sS (some l.past.all.nil) eChain l.past.all.D, .pv (.lit (.int .i64 l.chain.epoch)), sS (some l.chain.members.nil) eMember l.chain.members.D, .pv (.lit (.int .i64 index))]))] }) rfl rfl rfl rfl trivial rfl ?_)
     refine rvc_nil ?_
     refine Awp.seq ?_
     refine Awp.consP C ?_
     refine rvP C (sS (some data.nil) (eI .u8) data.D) ?_
     refine rvP C (.pv (.lit (.int .i64 (data.D.length : Int)))) ?_
     refine rvP C (.pv (.lit (.bool ((data.D.length : Int) == 0)))) ?_
     refine rvc_nil ?_
     refine Awp.cond (b := ((data.D.length : Int) == 0)) rfl (fun h5 => ?_) (fun h5 => ?_)
     ·
      replace hR := of_true h5 hR
      refine Awp.consP C ?_
      refine rvP C (.pv (.lit (.int .i64 0))) ?_
      refine rvc_nil ?_
      refine Awp.ret ?_
      subst hR
      exact ⟨.inl rfl, rfl, rfl⟩
     ·
      replace hR := of_false h5 hR
      refine Awp.skip ?_
      refine Awp.consP C ?_
      refine rvP C (sS (some data.nil) (eI .u8) data.D) ?_
      obtain ⟨gt, hq_gt⟩ : ∃ q_, q_ = (cmdGet data) := ⟨_, rfl⟩
      have hc_gt := (cmdGet_calls data hl1)
      first | rw [← hq_gt] at hR hc_gt | (unfold lApply at hR; rw [← hq_gt] at hR hc_gt)
      refine rvc_un (rexec_call hP C rfl rfl rfl hc_gt ?_)
      refine rvP C (.tup [.agg [.pv (.lit (.int .i64 gt.1.kind)), .pv (.lit (.int .i64 gt.1.node)), .pv (.lit (.int .i64 gt.1.site)), .pv (.lit (.int .i64 gt.1.epoch))], .pv (.lit (.int .i64 gt.2))]) ?_
      refine rvP C (.agg [.pv (.lit (.int .i64 gt.1.kind)), .pv (.lit (.int .i64 gt.1.node)), .pv (.lit (.int .i64 gt.1.site)), .pv (.lit (.int .i64 gt.1.epoch))]) ?_
      refine rvP C (.pv (.lit (.int .i64 gt.2))) ?_
      refine rvc_un (rexec_prim C (δ := { v := .ptr 7 0, new := [(7, .cells [.pv (.lit (.int .i64 0)), .pv (.lit (.int .i64 0)), .pv (.lit (.int .i64 0)), .pv (.lit (.int .i64 0))])] }) rfl rfl rfl rfl trivial rfl ?_)
      refine rvc_un (rexec_prim C (δ := { v := .undef, wr := [(7, some (.cells [.pv (.lit (.int .i64 gt.1.kind)), .pv (.lit (.int .i64 gt.1.node)), .pv (.lit (.int .i64 gt.1.site)), .pv (.lit (.int .i64 gt.1.epoch))]))] }) rfl rfl rfl rfl trivial rfl ?_)
      refine rvP C (.pv (.lit (.int .i64 gt.2))) ?_
      refine rvc_nil ?_
      refine Awp.seq ?_
      refine Awp.consP C ?_
      refine rvP C (.pv (.lit (.int .i64 gt.2))) ?_
      refine rvP C (.pv (.lit (.bool (gt.2 != 0)))) ?_
      refine rvc_nil ?_
      refine Awp.cond (b := (gt.2 != 0)) rfl (fun h6 => ?_) (fun h6 => ?_)
      ·
       replace hR := of_true h6 hR
       refine Awp.consP C ?_
       refine rvP C (.pv (.lit (.int .i64 gt.2))) ?_
       refine rvP C (.pv (.lit (.int .i64 gt.2))) ?_
       refine rvc_nil ?_
       refine Awp.ret ?_
       subst hR
       exact ⟨.inl rfl, rfl, rfl⟩
      ·
       replace hR := of_false h6 hR
       refine Awp.skip ?_
       refine Awp.consP C ?_
       refine rvP C (.ptr 0 0) ?_
       refine rvP C (.ptr 0 0) ?_
       refine rvP C (.ptr 0 1) ?_
       refine rvP C (.agg [.pv (.lit (.int .i64 l.chain.epoch)), sS (some l.chain.members.nil) eMember l.chain.members.D]) ?_
       refine rvP C (.agg [.pv (.lit (.int .i64 gt.1.kind)), .pv (.lit (.int .i64 gt.1.node)), .pv (.lit (.int .i64 gt.1.site)), .pv (.lit (.int .i64 gt.1.epoch))]) ?_
       obtain ⟨nx, hq_nx⟩ : ∃ q_, q_ = (nextL l.chain gt.1) := ⟨_, rfl⟩
       have hc_nx := (nextL_calls l.chain gt.1 hn hl2)
       first | rw [← hq_nx] at hR hc_nx | (unfold lApply at hR; rw [← hq_nx] at hR hc_nx)
       have hf0_nx := few_next l.chain gt.1
       rw [← hq_nx] at hf0_nx
       refine rvc_un (rexec_call hP C rfl rfl rfl hc_nx ?_)
       refine rvP C (.tup [.agg [.pv (.lit (.int .i64 nx.1.epoch)), sS (some nx.1.members.nil) eMember nx.1.members.D], .pv (.lit (.int .i64 nx.2))]) ?_
       refine rvP C (.agg [.pv (.lit (.int .i64 nx.1.epoch)), sS (some nx.1.members.nil) eMember nx.1.members.D]) ?_
       refine rvP C (.pv (.lit (.int .i64 nx.2))) ?_
       refine rvc_un (rexec_prim C (δ := { v := .ptr 9 0, new := [(9, .cells [.pv (.lit (.int .i64 0)), sS (some true) eMember []])] }) rfl rfl rfl rfl trivial rfl ?_)
       refine rvc_un (rexec_prim C (δ := { v := .undef, wr := [(9, some (.cells [.pv (.lit (.int .i64 nx.1.epoch)), sS (some nx.1.members.nil) eMember nx.1.members.D]))] }) rfl rfl rfl rfl trivial rfl ?_)
       refine rvP C (.pv (.lit (.int .i64 nx.2))) ?_
       refine rvc_nil ?_
       refine Awp.seq ?_
       refine Awp.consP C ?_
       refine rvP C (.pv (.lit (.int .i64 nx.2))) ?_
       refine rvP C (.pv (.lit (.bool (nx.2 != 0)))) ?_
       refine rvc_nil ?_
       refine Awp.cond (b := (nx.2 != 0)) rfl (fun h7 => ?_) (fun h7 => ?_)
       ·
        replace hR := of_true h7 hR
        refine Awp.consP C ?_
        refine rvP C (.pv (.lit (.int .i64 nx.2))) ?_
        refine rvP C (.pv (.lit (.int .i64 nx.2))) ?_
        refine rvc_nil ?_
        refine Awp.ret ?_
        subst hR
        exact ⟨.inl rfl, rfl, rfl⟩
       ·
        replace hR := of_false h7 hR
        refine Awp.skip ?_
        refine Awp.seq ?_
        refine Awp.consP C ?_
        refine rvP C (.ptr 9 0) ?_
        refine rvP C (.pv (.lit (.int .i64 nx.1.epoch))) ?_
        refine rvP C (.ptr 0 0) ?_
        refine rvP C (.ptr 0 0) ?_
        refine rvP C (.ptr 0 1) ?_
        refine rvP C (.ptr 0 1) ?_
        refine rvP C (.pv (.lit (.int .i64 l.chain.epoch))) ?_
        refine rvP C (.pv (.lit (.bool (decide (nx.1.epoch > l.chain.epoch))))) ?_
        refine rvc_nil ?_
        refine Awp.cond (b := (decide (nx.1.epoch > l.chain.epoch))) rfl (fun h8 => ?_) (fun h8 => ?_)
        ·
         replace hR := of_true h8 hR
         refine Awp.regionP C ?_
         refine rvP C (.ptr 0 0) ?_
         refine rvP C (.ptr 0 0) ?_
         refine rvP C (.ptr 0 0) ?_
         refine rvP C (.ptr 0 0) ?_
         refine rvP C (.ptr 0 0) ?_
         refine rvP C (sS (some l.past.all.nil) eChain l.past.all.D) ?_
         refine rvP C (.ptr 0 0) ?_
         refine rvP C (.ptr 0 0) ?_
         refine rvP C (.ptr 0 0) ?_
         refine rvP C (.ptr 0 0) ?_
         refine rvP C (sS (some l.past.all.nil) eChain l.past.all.D) ?_
         refine rvP C (.pv (.lit (.int .i64 (l.past.all.D.length : Int)))) ?_
         refine rvP C (.ptr 0 0) ?_
         refine rvP C (.ptr 0 0) ?_
         refine rvP C (.ptr 0 0) ?_
         refine rvP C (.ptr 0 0) ?_
         refine rvP C (sS (some l.past.all.nil) eChain l.past.all.D) ?_
         refine rvP C (.pv (.lit (.int .i64 (l.past.all.D.length : Int)))) ?_
         refine rvc_un (rexec_slice3 C (e := eChain) (D := l.past.all.D) rfl rfl rfl rfl rfl rfl ?_)
         refine rvP C (.agg [.pv (.lit (.int .i64 nx.1.epoch)), sS (some nx.1.members.nil) eMember nx.1.members.D]) ?_
         refine rvc_un (rexec_call hP C rfl rfl rfl (copied_calls nx.1 (Nat.le_trans hf0_nx.2 (by decide))) ?_)
         refine rvc_un (rexec_buildSliceF C eChain [(copied nx.1)] rfl rfl rfl rfl rfl rfl rfl (by decide) rfl ?_)
         refine rvc_un (rexec_appendT C rfl rfl rfl rfl rfl rfl rfl rfl (fun _ h => by cases h) rfl (en := eChain) (D0 := l.past.all.D) (D := [(copied nx.1)]) rfl rfl (by simp) (by have := wrapI (index - 1); have := of_decide_eq_false h2; have := of_decide_eq_false h3; have := eq_of_bne_false h4; have := ne_of_beq_false h5; have := eq_of_bne_false h6; have := eq_of_bne_false h7; have := of_decide_eq_true h8; first | omega | (simp <;> omega)) (by decide) (nn := (l.past.all.D ++ [(copied nx.1)]).length) (by simp) ?_)
         refine rvP C (.ptr 0 0) ?_
         refine rvP C (.ptr 0 0) ?_
         refine rvP C (.ptr 0 0) ?_
         refine rvc_un (rexec_prim C (δ := { v := .undef, wr := [(0, some (.cells [.sl 86 0 ((l.past.all.D ++ [(copied nx.1)]).length) 2 false, .pv (.lit (.int .i64 l.chain.epoch)), sS (some l.chain.members.nil) eMember l.chain.members.D, .pv (.lit (.int .i64 index))]))] }) rfl rfl rfl rfl trivial rfl ?_)
         refine rvc_nil ?_
         refine Awp.consP C ?_
         refine rvP C (.ptr 0 0) ?_
         refine rvP C (.agg [.pv (.lit (.int .i64 nx.1.epoch)), sS (some nx.1.members.nil) eMember nx.1.members.D]) ?_
         refine rvP C (.ptr 0 0) ?_
         refine rvP C (.ptr 0 1) ?_
         refine rvc_un (rexec_prim C (δ := { v := .undef, wr := [(0, some (.cells [.sl 86 0 ((l.past.all.D ++ [(copied nx.1)]).length) 2 false, .pv (.lit (.int .i64 nx.1.epoch)), sS (some nx.1.members.nil) eMember nx.1.members.D, .pv (.lit (.int .i64 index))]))] }) rfl rfl rfl rfl trivial rfl ?_)
         refine rvc_nil ?_
         refine Awp.consP C ?_
         refine rvP C (.pv (.lit (.int .i64 0))) ?_
         refine rvc_nil ?_
         refine Awp.freezeW 86 (encL eChain (l.past.all.D ++ [(copied nx.1)])) ?_ [(6, .pv (.lit (.int .i64 0)))] [(0, .cells [sS (some false) eChain (l.past.all.D ++ [(copied nx.1)]), .pv (.lit (.int .i64 nx.1.epoch)), sS (some nx.1.members.nil) eMember nx.1.members.D, .pv (.lit (.int .i64 index))]), (7, .cells [.pv (.lit (.int .i64 gt.1.kind)), .pv (.lit (.int .i64 gt.1.node)), .pv (.lit (.int .i64 gt.1.site)), .pv (.lit (.int .i64 gt.1.epoch))]), (9, .cells [.pv (.lit (.int .i64 nx.1.epoch)), sS (some nx.1.members.nil) eMember nx.1.members.D])] ?_ ?_ ?_
         · rfl
         · exact ⟨⟨_, rfl, .inl (.inl rfl)⟩, trivial⟩
         · exact ⟨⟨(by show (0 : Nat) ≠ 86; decide), .inr ⟨_, _, rfl, rfl, ⟨.inr ⟨_, _, _, rfl, rfl⟩, .inl rfl, .inl rfl, .inl rfl, trivial⟩⟩⟩, ⟨(by show (7 : Nat) ≠ 86; decide), .inl rfl⟩, ⟨(by show (9 : Nat) ≠ 86; decide), .inl rfl⟩, trivial⟩
         refine Awp.ret ?_
         subst hR
         exact ⟨.inl rfl, rfl, rfl⟩
        ·
         replace hR := of_false h8 hR
         refine Awp.skip ?_
         refine Awp.consP C ?_
         refine rvP C (.ptr 0 0) ?_
         refine rvP C (.agg [.pv (.lit (.int .i64 nx.1.epoch)), sS (some nx.1.members.nil) eMember nx.1.members.D]) ?_
         refine rvP C (.ptr 0 0) ?_
         refine rvP C (.ptr 0 1) ?_
         refine rvc_un (rexec_prim C (δ := { v := .undef, wr := [(0, some (.cells [sS (some l.past.all.nil) eChain l.past.all.D, .pv (.lit (.int .i64 nx.1.epoch)), sS (some nx.1.members.nil) eMember nx.1.members.D, .pv (.lit (.int .i64 index))]))] }) rfl rfl rfl rfl trivial rfl ?_)
         refine rvc_nil ?_
         refine Awp.consP C ?_
         refine rvP C (.pv (.lit (.int .i64 0))) ?_
         refine rvc_nil ?_
         refine Awp.ret ?_
         subst hR
         exact ⟨.inl rfl, rfl, rfl⟩
def doIndex (k : Do) (at_ : Int) : Int :=
  (bif (decide (k.by_ > (-3))) then (bif (decide (k.by_ < 3)) then (IntKind.i64.wrap ((IntKind.i64.wrap (at_ + 1)) + k.by_)) else (IntKind.i64.wrap (at_ + 1))) else (IntKind.i64.wrap (at_ + 1)))
def doData (k : Do) (epoch : Int) : (Sl Int) :=
  (bif k.raw then k.b else (bif (decide (k.off > (-4))) then (bif (decide (k.off < 4)) then (rCmdPut (Command.mk k.c.kind k.c.node k.c.site (IntKind.i64.wrap (epoch + k.off)))).1 else (rCmdPut k.c).1) else (rCmdPut k.c).1))
end Go.Proofs.Ytpgenmflgdkfiaa
/- Ledgers made. No conditions. -/
namespace Go.Proofs.Ytpgenmflgdkfiaa
open Go.Am
def newL (l : (Sl Member)) : Ledger × Int :=
  ((Ledger.mk (Past.mk (Sl.mk false [(firstC l).1])) ((firstC l).1) 0), 0)
theorem newL_calls (l : (Sl Member)) (h0 : (((firstC l).2) != 0) = false) (hl1 : l.D.length ≤ 1000000) : OCalls Try.prog 12 [sS (some l.nil) eMember l.D] (.tup [.ptr 0 0, .pv (.lit (.int .i64 ((newL l).2)))]) (.cells [sS (some (newL l).1.past.all.nil) eChain ((newL l).1.past.all.D), .pv (.lit (.int .i64 ((newL l).1.chain.epoch))), sS (some (newL l).1.chain.members.nil) eMember ((newL l).1.chain.members.D), .pv (.lit (.int .i64 ((newL l).1.at_)))]) := by
 generalize hR : newL l = R
 refine OCalls.of_body tabOk Try.func12 rfl rfl rfl rfl rfl rfl mixed fun E hP C hI => ?_
 refine Awp.consP C ?_
 refine rvP C (.pv (.lit (.pointer none))) ?_
 refine rvP C (.pv (.lit (.int .i64 0))) ?_
 refine rvc_nil ?_
 refine Awp.consP C ?_
 refine rvP C (sS (some l.nil) eMember l.D) ?_
 refine rvc_un (rexec_call hP C rfl rfl rfl (firstC_calls l hl1) ?_)
 refine rvP C (.tup [.agg [.pv (.lit (.int .i64 ((firstC l).1.epoch))), sS (some (firstC l).1.members.nil) eMember ((firstC l).1.members.D)], .pv (.lit (.int .i64 ((firstC l).2)))]) ?_
 refine rvP C (.agg [.pv (.lit (.int .i64 ((firstC l).1.epoch))), sS (some (firstC l).1.members.nil) eMember ((firstC l).1.members.D)]) ?_
 refine rvP C (.pv (.lit (.int .i64 ((firstC l).2)))) ?_
 refine rvc_un (rexec_prim C (δ := { v := .ptr 4 0, new := [(4, .cells [.pv (.lit (.int .i64 0)), sS (some true) eMember []])] }) rfl rfl rfl rfl trivial rfl ?_)
 refine rvc_un (rexec_prim C (δ := { v := .undef, wr := [(4, some (.cells [.pv (.lit (.int .i64 ((firstC l).1.epoch))), sS (some (firstC l).1.members.nil) eMember ((firstC l).1.members.D)]))] }) rfl rfl rfl rfl trivial rfl ?_)
 refine rvP C (.pv (.lit (.int .i64 ((firstC l).2)))) ?_
 refine rvc_nil ?_
 refine Awp.seq ?_
 refine Awp.consP C ?_
 refine rvP C (.pv (.lit (.int .i64 ((firstC l).2)))) ?_
 refine rvP C (.pv (.lit (.bool (((firstC l).2) != 0)))) ?_
 refine rvc_nil ?_
 refine Awp.condF (b := (((firstC l).2) != 0)) rfl h0 ?_
 refine Awp.skip ?_
 refine Awp.consP C ?_
 refine rvP C (.agg [.pv (.lit (.int .i64 ((firstC l).1.epoch))), sS (some (firstC l).1.members.nil) eMember ((firstC l).1.members.D)]) ?_
 refine rvc_un (rexec_buildSliceF C eChain [(firstC l).1] rfl rfl rfl rfl rfl rfl rfl (by decide) rfl ?_)
 refine rvP C (.agg [sS (some false) eChain [(firstC l).1]]) ?_
 refine rvP C (.agg [.pv (.lit (.int .i64 ((firstC l).1.epoch))), sS (some (firstC l).1.members.nil) eMember ((firstC l).1.members.D)]) ?_
 refine rvP C (.agg [sS (some false) eChain [(firstC l).1], .pv (.lit (.int .i64 ((firstC l).1.epoch))), sS (some (firstC l).1.members.nil) eMember ((firstC l).1.members.D), .pv (.lit (.int .i64 0))]) ?_
 refine rvc_un (rexec_prim C (δ := { v := .ptr 19 0, new := [(19, .cells [sS (some false) eChain [(firstC l).1], .pv (.lit (.int .i64 ((firstC l).1.epoch))), sS (some (firstC l).1.members.nil) eMember ((firstC l).1.members.D), .pv (.lit (.int .i64 0))])] }) rfl rfl rfl rfl trivial rfl ?_)
 refine rvP C (.ptr 19 0) ?_
 refine rvP C (.pv (.lit (.int .i64 0))) ?_
 refine rvc_nil ?_
 refine Awp.weakenR (S := [(2, .ptr 0 0), (3, .pv (.lit (.int .i64 0)))]) (H := [(0, .cells [sS (some false) eChain [(firstC l).1], .pv (.lit (.int .i64 ((firstC l).1.epoch))), sS (some (firstC l).1.members.nil) eMember ((firstC l).1.members.D), .pv (.lit (.int .i64 0))])]) (U := [0]) (fun x => bif x == 0 then 19 else x) (WeakerR.ofL (Ks := [0]) hI ⟨⟨rfl, rfl⟩, ⟨rfl, rfl⟩, trivial⟩ (okH_cons rfl rfl rfl rfl okH_nil) rfl) ?_
 refine Awp.ret ?_
 subst hR
 exact ⟨.inl rfl, rfl, rfl⟩
end Go.Proofs.Ytpgenmflgdkfiaa
/- Ledgers behind calls: how long chains and commands' bytes are. No conditions. -/
namespace Go.Proofs.Ytpgenmflgdkfiaa
open Go.Am
theorem newL_e (m : Sl Member) : (((newL m).2) != 0) = false := rfl
end Go.Proofs.Ytpgenmflgdkfiaa
/- A ledger behind calls. No conditions. -/
namespace Go.Proofs.Ytpgenmflgdkfiaa
open Go.Am
def made_l0 : List Do → Nat → Ledger → Ledger
  | [], _, vc => vc
  | x :: xs, i, vc => made_l0 xs (i + 1) ((lApply vc (doIndex x (lAt vc)) (doData x ((lChain vc).epoch))).1)
def made (m : (Sl Member)) (l : (Sl Do)) : Ledger :=
  made_l0 l.D 0 ((newL m).1)
end Go.Proofs.Ytpgenmflgdkfiaa
/- Ledgers behind calls: they may be asked. No conditions. -/
namespace Go.Proofs.Ytpgenmflgdkfiaa
open Go.Am
theorem cmdPut_len (c : Command) : (cmdPut c).1.D.length ≤ 40 := by
  unfold cmdPut
  have h1 := wPut_len (Sl.mk true []) (IntKind.u64.wrap c.kind) (wrap_lt64 _)
  have h2 := wPut_len (wPut (Sl.mk true []) (IntKind.u64.wrap c.kind)) (IntKind.u64.wrap c.node) (wrap_lt64 _)
  have h3 := wPut_len (wPut (wPut (Sl.mk true []) (IntKind.u64.wrap c.kind)) (IntKind.u64.wrap c.node)) (IntKind.u64.wrap c.site) (wrap_lt64 _)
  have h4 := wPut_len (wPut (wPut (wPut (Sl.mk true []) (IntKind.u64.wrap c.kind)) (IntKind.u64.wrap c.node)) (IntKind.u64.wrap c.site)) (IntKind.u64.wrap c.epoch) (wrap_lt64 _)
  dsimp only [List.length_nil] at h1
  cases (cmdCheck c) != 0
  · show (wPut (wPut (wPut (wPut (Sl.mk true []) _) _) _) _).D.length ≤ 40
    omega
  · exact Nat.zero_le _
end Go.Proofs.Ytpgenmflgdkfiaa
/- The example; a law. No conditions. -/
namespace Go.Proofs.Ytpgenmflgdkfiaa
open Go.Am
def awake  : Bool :=
  (bif (((cmdPut (Command.mk 1 0 0 1)).2) != 0) then false else (bif (((lApply ((newL (Sl.mk false [(Member.mk 0 0 false), (Member.mk 1 0 false)])).1) 1 ((cmdPut (Command.mk 1 0 0 1)).1)).2) != 0) then false else (bif (same (lChain ((lApply ((newL (Sl.mk false [(Member.mk 0 0 false), (Member.mk 1 0 false)])).1) 1 ((cmdPut (Command.mk 1 0 0 1)).1)).1)) (Chain.mk 2 (Sl.mk false [(Member.mk 1 0 false)]))) then (bif (((lApply ((lApply ((newL (Sl.mk false [(Member.mk 0 0 false), (Member.mk 1 0 false)])).1) 1 ((cmdPut (Command.mk 1 0 0 1)).1)).1) 2 ((cmdPut (Command.mk 1 0 0 1)).1)).2) == 150) then (bif ((lAt ((lApply ((lApply ((newL (Sl.mk false [(Member.mk 0 0 false), (Member.mk 1 0 false)])).1) 1 ((cmdPut (Command.mk 1 0 0 1)).1)).1) 2 ((cmdPut (Command.mk 1 0 0 1)).1)).1)) == 2) then (((lApply ((lApply ((lApply ((newL (Sl.mk false [(Member.mk 0 0 false), (Member.mk 1 0 false)])).1) 1 ((cmdPut (Command.mk 1 0 0 1)).1)).1) 2 ((cmdPut (Command.mk 1 0 0 1)).1)).1) 2 (Sl.mk true [])).2) == 90) else false) else false) else false)))
theorem awake_calls   : PCalls Try.prog 11 [] (.pv (.lit (.bool (awake )))) := by
 generalize hR : awake  = R
 refine PCalls.of_body tabOk Try.func11 rfl rfl rfl rfl rfl mixed fun E hP C hI => ?_
 refine Awp.consP C ?_
 refine rvP C (.pv (.lit (.bool false))) ?_
 refine rvc_nil ?_
 refine Awp.cons C (fun _ => .quiet) (by kernel_rfl) ?_
 refine rvP C (.agg [.pv (.lit (.int .i64 0)), .pv (.lit (.int .i64 0)), .pv (.lit (.bool false))]) ?_
 refine rvP C (.agg [.pv (.lit (.int .i64 1)), .pv (.lit (.int .i64 0)), .pv (.lit (.bool false))]) ?_
 refine rvc_un (rexec_buildSliceF C eMember [(Member.mk 0 0 false), (Member.mk 1 0 false)] rfl rfl rfl rfl rfl rfl rfl (by decide) rfl ?_)
 refine rvc_un (rexec_callO hP C rfl rfl rfl rfl (newL_calls (Sl.mk false [(Member.mk 0 0 false), (Member.mk 1 0 false)]) (by kernel_rfl) (by simp)) ?_)
 refine rvP C (.tup [.ptr 9 0, .pv (.lit (.int .i64 ((newL (Sl.mk false [(Member.mk 0 0 false), (Member.mk 1 0 false)])).2)))]) ?_
 refine rvP C (.ptr 9 0) ?_
 refine rvP C (.pv (.lit (.int .i64 ((newL (Sl.mk false [(Member.mk 0 0 false), (Member.mk 1 0 false)])).2)))) ?_
 refine rvP C (.ptr 9 0) ?_
 refine rvP C (.pv (.lit (.int .i64 ((newL (Sl.mk false [(Member.mk 0 0 false), (Member.mk 1 0 false)])).2)))) ?_
 refine rvc_nil ?_
 refine Awp.consP C ?_
 refine rvP C (.agg [.pv (.lit (.int .i64 1)), .pv (.lit (.int .i64 0)), .pv (.lit (.int .i64 0)), .pv (.lit (.int .i64 1))]) ?_
 refine rvc_un (rexec_call hP C rfl rfl rfl (cmdPut_calls (Command.mk 1 0 0 1)) ?_)
 refine rvP C (.tup [sS (some (cmdPut (Command.mk 1 0 0 1)).1.nil) (eI .u8) ((cmdPut (Command.mk 1 0 0 1)).1.D), .pv (.lit (.int .i64 ((cmdPut (Command.mk 1 0 0 1)).2)))]) ?_
 refine rvP C (sS (some (cmdPut (Command.mk 1 0 0 1)).1.nil) (eI .u8) ((cmdPut (Command.mk 1 0 0 1)).1.D)) ?_
 refine rvP C (.pv (.lit (.int .i64 ((cmdPut (Command.mk 1 0 0 1)).2)))) ?_
 refine rvP C (sS (some (cmdPut (Command.mk 1 0 0 1)).1.nil) (eI .u8) ((cmdPut (Command.mk 1 0 0 1)).1.D)) ?_
 refine rvP C (.pv (.lit (.int .i64 ((cmdPut (Command.mk 1 0 0 1)).2)))) ?_
 refine rvc_nil ?_
 refine Awp.seq ?_
 refine Awp.cons C (fun _ => .writer) (by kernel_rfl) ?_
 refine rvP C (.pv (.lit (.int .i64 ((newL (Sl.mk false [(Member.mk 0 0 false), (Member.mk 1 0 false)])).2)))) ?_
 refine rvP C (.pv (.lit (.bool (((newL (Sl.mk false [(Member.mk 0 0 false), (Member.mk 1 0 false)])).2) != 0)))) ?_
 refine rvP C (.pv (.lit (.bool (((newL (Sl.mk false [(Member.mk 0 0 false), (Member.mk 1 0 false)])).2) != 0)))) ?_
 refine rvc_known 19 (((newL (Sl.mk false [(Member.mk 0 0 false), (Member.mk 1 0 false)])).2) != 0) false rfl (newL_e (Sl.mk false [(Member.mk 0 0 false), (Member.mk 1 0 false)])) ?_
 refine rvO C (.pv (.lit (.int .i64 ((cmdPut (Command.mk 1 0 0 1)).2)))) ?_
 refine rvO C (.pv (.lit (.bool (((cmdPut (Command.mk 1 0 0 1)).2) != 0)))) ?_
 refine rvP C (.pv (.lit (.bool (((cmdPut (Command.mk 1 0 0 1)).2) != 0)))) ?_
 refine rvP C (.pv (.lit (.bool (((cmdPut (Command.mk 1 0 0 1)).2) != 0)))) ?_
 refine rvc_case 23 (((cmdPut (Command.mk 1 0 0 1)).2) != 0) rfl (fun h1 => ?_) (fun h1 => ?_)
 ·
  replace hR := of_true h1 hR
  refine rvS ?_
  refine rvS ?_
  refine rvS ?_
  refine rvS ?_
  refine rvP C (.pv (.lit (.bool true))) ?_
  refine rvc_nil ?_
  refine Awp.condT (b := true) rfl rfl ?_
  refine Awp.consP C ?_
  refine rvP C (.pv (.lit (.bool false))) ?_
  refine rvc_nil ?_
  refine Awp.ret ?_
  subst hR
  exact ⟨.inl rfl, rfl⟩
 ·
  replace hR := of_false h1 hR
  refine rvO C (.ptr 9 0) ?_
  refine rvO C (sS (some (cmdPut (Command.mk 1 0 0 1)).1.nil) (eI .u8) ((cmdPut (Command.mk 1 0 0 1)).1.D)) ?_
  refine rvc_open rfl rfl rfl (rexec_callM hP C (b := 9) rfl rfl rfl (lApply_calls ((newL (Sl.mk false [(Member.mk 0 0 false), (Member.mk 1 0 false)])).1) 1 ((cmdPut (Command.mk 1 0 0 1)).1) (fun h => absurd (h.symm.trans (by kernel_rfl : _ = false)) Bool.noConfusion) (of_decide_eq_true (by kernel_rfl)) (of_decide_eq_true (by kernel_rfl)) (of_decide_eq_true (by kernel_rfl))) rfl rfl ?_)
  refine rvO C (.pv (.lit (.bool (((lApply ((newL (Sl.mk false [(Member.mk 0 0 false), (Member.mk 1 0 false)])).1) 1 ((cmdPut (Command.mk 1 0 0 1)).1)).2) != 0)))) ?_
  refine rvP C (.pv (.lit (.bool (((lApply ((newL (Sl.mk false [(Member.mk 0 0 false), (Member.mk 1 0 false)])).1) 1 ((cmdPut (Command.mk 1 0 0 1)).1)).2) != 0)))) ?_
  refine rvc_nil ?_
  refine Awp.cond (b := (((lApply ((newL (Sl.mk false [(Member.mk 0 0 false), (Member.mk 1 0 false)])).1) 1 ((cmdPut (Command.mk 1 0 0 1)).1)).2) != 0)) rfl (fun h2 => ?_) (fun h2 => ?_)
  ·
   replace hR := of_true h2 hR
   refine Awp.consP C ?_
   refine rvP C (.pv (.lit (.bool false))) ?_
   refine rvc_nil ?_
   refine Awp.ret ?_
   subst hR
   exact ⟨.inl rfl, rfl⟩
  ·
   replace hR := of_false h2 hR
   refine Awp.skip ?_
   refine Awp.cons C (fun _ => .writer) (by kernel_rfl) ?_
   refine rvP C (.ptr 9 0) ?_
   refine rvc_un (rexec_callM hP C (b := 9) rfl rfl rfl (lChain_calls ((lApply ((newL (Sl.mk false [(Member.mk 0 0 false), (Member.mk 1 0 false)])).1) 1 ((cmdPut (Command.mk 1 0 0 1)).1)).1) (of_decide_eq_true (by kernel_rfl))) rfl rfl ?_)
   refine rvP C (.agg [.pv (.lit (.int .i64 1)), .pv (.lit (.int .i64 0)), .pv (.lit (.bool false))]) ?_
   refine rvc_un (rexec_buildSliceF C eMember [(Member.mk 1 0 false)] rfl rfl rfl rfl rfl rfl rfl (by decide) rfl ?_)
   refine rvP C (.agg [.pv (.lit (.int .i64 2)), sS (some false) eMember [(Member.mk 1 0 false)]]) ?_
   refine rvc_un (rexec_call hP C rfl rfl rfl (same_calls (lChain ((lApply ((newL (Sl.mk false [(Member.mk 0 0 false), (Member.mk 1 0 false)])).1) 1 ((cmdPut (Command.mk 1 0 0 1)).1)).1)) (Chain.mk 2 (Sl.mk false [(Member.mk 1 0 false)])) (of_decide_eq_true (by kernel_rfl))) ?_)
   refine rvP C (.pv (.lit (.bool (same (lChain ((lApply ((newL (Sl.mk false [(Member.mk 0 0 false), (Member.mk 1 0 false)])).1) 1 ((cmdPut (Command.mk 1 0 0 1)).1)).1)) (Chain.mk 2 (Sl.mk false [(Member.mk 1 0 false)])))))) ?_
   refine rvc_case 35 (same (lChain ((lApply ((newL (Sl.mk false [(Member.mk 0 0 false), (Member.mk 1 0 false)])).1) 1 ((cmdPut (Command.mk 1 0 0 1)).1)).1)) (Chain.mk 2 (Sl.mk false [(Member.mk 1 0 false)]))) rfl (fun h3 => ?_) (fun h3 => ?_)
   ·
    replace hR := of_true h3 hR
    refine rvO C (.ptr 9 0) ?_
    refine rvO C (sS (some (cmdPut (Command.mk 1 0 0 1)).1.nil) (eI .u8) ((cmdPut (Command.mk 1 0 0 1)).1.D)) ?_
    refine rvc_open rfl rfl rfl (rexec_callM hP C (b := 9) rfl rfl rfl (lApply_calls ((lApply ((newL (Sl.mk false [(Member.mk 0 0 false), (Member.mk 1 0 false)])).1) 1 ((cmdPut (Command.mk 1 0 0 1)).1)).1) 2 ((cmdPut (Command.mk 1 0 0 1)).1) (fun h => absurd (h.symm.trans (by kernel_rfl : _ = false)) Bool.noConfusion) (of_decide_eq_true (by kernel_rfl)) (of_decide_eq_true (by kernel_rfl)) (of_decide_eq_true (by kernel_rfl))) rfl rfl ?_)
    refine rvO C (.pv (.lit (.bool (((lApply ((lApply ((newL (Sl.mk false [(Member.mk 0 0 false), (Member.mk 1 0 false)])).1) 1 ((cmdPut (Command.mk 1 0 0 1)).1)).1) 2 ((cmdPut (Command.mk 1 0 0 1)).1)).2) == 150)))) ?_
    refine rvP C (.pv (.lit (.bool (((lApply ((lApply ((newL (Sl.mk false [(Member.mk 0 0 false), (Member.mk 1 0 false)])).1) 1 ((cmdPut (Command.mk 1 0 0 1)).1)).1) 2 ((cmdPut (Command.mk 1 0 0 1)).1)).2) == 150)))) ?_
    refine rvP C (.pv (.lit (.bool (((lApply ((lApply ((newL (Sl.mk false [(Member.mk 0 0 false), (Member.mk 1 0 false)])).1) 1 ((cmdPut (Command.mk 1 0 0 1)).1)).1) 2 ((cmdPut (Command.mk 1 0 0 1)).1)).2) == 150)))) ?_
    refine rvc_case 41 (((lApply ((lApply ((newL (Sl.mk false [(Member.mk 0 0 false), (Member.mk 1 0 false)])).1) 1 ((cmdPut (Command.mk 1 0 0 1)).1)).1) 2 ((cmdPut (Command.mk 1 0 0 1)).1)).2) == 150) rfl (fun h4 => ?_) (fun h4 => ?_)
    ·
     replace hR := of_true h4 hR
     refine rvO C (.ptr 9 0) ?_
     refine rvc_open rfl rfl rfl (rexec_callM hP C (b := 9) rfl rfl rfl (lAt_calls ((lApply ((lApply ((newL (Sl.mk false [(Member.mk 0 0 false), (Member.mk 1 0 false)])).1) 1 ((cmdPut (Command.mk 1 0 0 1)).1)).1) 2 ((cmdPut (Command.mk 1 0 0 1)).1)).1)) rfl rfl ?_)
     refine rvO C (.pv (.lit (.bool ((lAt ((lApply ((lApply ((newL (Sl.mk false [(Member.mk 0 0 false), (Member.mk 1 0 false)])).1) 1 ((cmdPut (Command.mk 1 0 0 1)).1)).1) 2 ((cmdPut (Command.mk 1 0 0 1)).1)).1)) == 2)))) ?_
     refine rvP C (.pv (.lit (.bool ((lAt ((lApply ((lApply ((newL (Sl.mk false [(Member.mk 0 0 false), (Member.mk 1 0 false)])).1) 1 ((cmdPut (Command.mk 1 0 0 1)).1)).1) 2 ((cmdPut (Command.mk 1 0 0 1)).1)).1)) == 2)))) ?_
     refine rvP C (.pv (.lit (.bool ((lAt ((lApply ((lApply ((newL (Sl.mk false [(Member.mk 0 0 false), (Member.mk 1 0 false)])).1) 1 ((cmdPut (Command.mk 1 0 0 1)).1)).1) 2 ((cmdPut (Command.mk 1 0 0 1)).1)).1)) == 2)))) ?_
     refine rvc_case 46 ((lAt ((lApply ((lApply ((newL (Sl.mk false [(Member.mk 0 0 false), (Member.mk 1 0 false)])).1) 1 ((cmdPut (Command.mk 1 0 0 1)).1)).1) 2 ((cmdPut (Command.mk 1 0 0 1)).1)).1)) == 2) rfl (fun h5 => ?_) (fun h5 => ?_)
     ·
      replace hR := of_true h5 hR
      refine rvO C (.ptr 9 0) ?_
      refine rvc_open rfl rfl rfl (rexec_callM hP C (b := 9) rfl rfl rfl (lApply_calls ((lApply ((lApply ((newL (Sl.mk false [(Member.mk 0 0 false), (Member.mk 1 0 false)])).1) 1 ((cmdPut (Command.mk 1 0 0 1)).1)).1) 2 ((cmdPut (Command.mk 1 0 0 1)).1)).1) 2 (Sl.mk true []) (fun h => absurd (h.symm.trans (by kernel_rfl : _ = false)) Bool.noConfusion) (of_decide_eq_true (by kernel_rfl)) (of_decide_eq_true (by kernel_rfl)) (of_decide_eq_true (by kernel_rfl))) rfl rfl ?_)
      refine rvO C (.pv (.lit (.bool (((lApply ((lApply ((lApply ((newL (Sl.mk false [(Member.mk 0 0 false), (Member.mk 1 0 false)])).1) 1 ((cmdPut (Command.mk 1 0 0 1)).1)).1) 2 ((cmdPut (Command.mk 1 0 0 1)).1)).1) 2 (Sl.mk true [])).2) == 90)))) ?_
      refine rvP C (.pv (.lit (.bool (((lApply ((lApply ((lApply ((newL (Sl.mk false [(Member.mk 0 0 false), (Member.mk 1 0 false)])).1) 1 ((cmdPut (Command.mk 1 0 0 1)).1)).1) 2 ((cmdPut (Command.mk 1 0 0 1)).1)).1) 2 (Sl.mk true [])).2) == 90)))) ?_
      refine rvP C (.pv (.lit (.bool (((lApply ((lApply ((lApply ((newL (Sl.mk false [(Member.mk 0 0 false), (Member.mk 1 0 false)])).1) 1 ((cmdPut (Command.mk 1 0 0 1)).1)).1) 2 ((cmdPut (Command.mk 1 0 0 1)).1)).1) 2 (Sl.mk true [])).2) == 90)))) ?_
      refine rvc_nil ?_
      refine Awp.ret ?_
      subst hR
      exact ⟨.inl rfl, rfl⟩
     ·
      replace hR := of_false h5 hR
      refine rvS ?_
      refine rvS ?_
      refine rvS ?_
      refine rvP C (.pv (.lit (.bool false))) ?_
      refine rvP C (.pv (.lit (.bool false))) ?_
      refine rvc_nil ?_
      refine Awp.ret ?_
      subst hR
      exact ⟨.inl rfl, rfl⟩
    ·
     replace hR := of_false h4 hR
     refine rvS ?_
     refine rvS ?_
     refine rvS ?_
     refine rvP C (.pv (.lit (.bool false))) ?_
     refine rvP C (.pv (.lit (.bool false))) ?_
     refine rvS ?_
     refine rvS ?_
     refine rvS ?_
     refine rvP C (.pv (.lit (.bool false))) ?_
     refine rvP C (.pv (.lit (.bool false))) ?_
     refine rvc_nil ?_
     refine Awp.ret ?_
     subst hR
     exact ⟨.inl rfl, rfl⟩
   ·
    replace hR := of_false h3 hR
    refine rvS ?_
    refine rvS ?_
    refine rvS ?_
    refine rvS ?_
    refine rvP C (.pv (.lit (.bool false))) ?_
    refine rvP C (.pv (.lit (.bool false))) ?_
    refine rvS ?_
    refine rvS ?_
    refine rvS ?_
    refine rvP C (.pv (.lit (.bool false))) ?_
    refine rvP C (.pv (.lit (.bool false))) ?_
    refine rvS ?_
    refine rvS ?_
    refine rvS ?_
    refine rvP C (.pv (.lit (.bool false))) ?_
    refine rvP C (.pv (.lit (.bool false))) ?_
    refine rvc_nil ?_
    refine Awp.ret ?_
    subst hR
    exact ⟨.inl rfl, rfl⟩
def lawCommands (c : Command) (b : (Sl Int)) : Bool :=
  (bif (decide ((b.D.length : Int) > 4096)) then (awake ) else (bif ((cmdCheck c) != (rCmdCheck c)) then false else (bif (!(eqBytes ((cmdPut c).1) ((rCmdPut c).1))) then false else (bif (((cmdPut c).2) != ((rCmdPut c).2)) then false else (bif (!((((cmdGet b).1.kind) == ((rCmdGet b).1.kind)) && ((((cmdGet b).1.node) == ((rCmdGet b).1.node)) && ((((cmdGet b).1.site) == ((rCmdGet b).1.site)) && ((((cmdGet b).1.epoch) == ((rCmdGet b).1.epoch)) && true))))) then false else (bif (((cmdGet b).2) != ((rCmdGet b).2)) then false else (bif (((cmdPut c).2) == 0) then (bif (!((((cmdGet ((cmdPut c).1)).1.kind) == c.kind) && ((((cmdGet ((cmdPut c).1)).1.node) == c.node) && ((((cmdGet ((cmdPut c).1)).1.site) == c.site) && ((((cmdGet ((cmdPut c).1)).1.epoch) == c.epoch) && true))))) then false else (bif (((cmdGet ((cmdPut c).1)).2) != 0) then false else (bif (((cmdGet b).2) == 0) then (bif (!(eqBytes ((cmdPut ((cmdGet b).1)).1) b)) then false else (bif (((cmdPut ((cmdGet b).1)).2) != 0) then false else (awake ))) else (awake )))) else (bif (((cmdGet b).2) == 0) then (bif (!(eqBytes ((cmdPut ((cmdGet b).1)).1) b)) then false else (bif (((cmdPut ((cmdGet b).1)).2) != 0) then false else (awake ))) else (awake )))))))))
theorem lawCommands_calls (c : Command) (b : (Sl Int)) (hl1 : b.D.length ≤ 9223372036854775807) : PCalls Try.prog 5 [.agg [.pv (.lit (.int .i64 c.kind)), .pv (.lit (.int .i64 c.node)), .pv (.lit (.int .i64 c.site)), .pv (.lit (.int .i64 c.epoch))], sS (some b.nil) (eI .u8) b.D] (.pv (.lit (.bool (lawCommands c b)))) := by
 generalize hR : lawCommands c b = R
 refine PCalls.of_body tabOk Try.func5 rfl rfl rfl rfl rfl mixed fun E hP C hI => ?_
 refine Awp.consP C ?_
 refine rvc_un (rexec_prim C (δ := { v := .ptr 2 0, new := [(2, .cells [.pv (.lit (.int .i64 c.kind)), .pv (.lit (.int .i64 c.node)), .pv (.lit (.int .i64 c.site)), .pv (.lit (.int .i64 c.epoch))])] }) rfl rfl rfl rfl trivial rfl ?_)
 refine rvP C (.pv (.lit (.bool false))) ?_
 refine rvc_nil ?_
 refine Awp.seq ?_
 refine Awp.consP C ?_
 refine rvP C (sS (some b.nil) (eI .u8) b.D) ?_
 refine rvP C (.pv (.lit (.int .i64 (b.D.length : Int)))) ?_
 refine rvP C (.pv (.lit (.bool (decide ((b.D.length : Int) > 4096))))) ?_
 refine rvc_nil ?_
 refine Awp.cond (b := (decide ((b.D.length : Int) > 4096))) rfl (fun h1 => ?_) (fun h1 => ?_)
 ·
  replace hR := of_true h1 hR
  refine Awp.consP C ?_
  refine rvc_un (rexec_call hP C rfl rfl rfl (awake_calls ) ?_)
  refine rvP C (.pv (.lit (.bool (awake )))) ?_
  refine rvc_nil ?_
  refine Awp.ret ?_
  subst hR
  exact ⟨.inl rfl, rfl⟩
 ·
  replace hR := of_false h1 hR
  refine Awp.skip ?_
  refine Awp.consP C ?_
  refine rvP C (.agg [.pv (.lit (.int .i64 c.kind)), .pv (.lit (.int .i64 c.node)), .pv (.lit (.int .i64 c.site)), .pv (.lit (.int .i64 c.epoch))]) ?_
  refine rvc_un (rexec_call hP C rfl rfl rfl (cmdPut_calls c) ?_)
  refine rvP C (.tup [sS (some (cmdPut c).1.nil) (eI .u8) ((cmdPut c).1.D), .pv (.lit (.int .i64 ((cmdPut c).2)))]) ?_
  refine rvP C (sS (some (cmdPut c).1.nil) (eI .u8) ((cmdPut c).1.D)) ?_
  refine rvP C (.pv (.lit (.int .i64 ((cmdPut c).2)))) ?_
  refine rvP C (sS (some (cmdPut c).1.nil) (eI .u8) ((cmdPut c).1.D)) ?_
  refine rvP C (.pv (.lit (.int .i64 ((cmdPut c).2)))) ?_
  refine rvc_nil ?_
  refine Awp.consP C ?_
  refine rvP C (.agg [.pv (.lit (.int .i64 c.kind)), .pv (.lit (.int .i64 c.node)), .pv (.lit (.int .i64 c.site)), .pv (.lit (.int .i64 c.epoch))]) ?_
  refine rvc_un (rexec_call hP C rfl rfl rfl (rCmdPut_calls c) ?_)
  refine rvP C (.tup [sS (some (rCmdPut c).1.nil) (eI .u8) ((rCmdPut c).1.D), .pv (.lit (.int .i64 ((rCmdPut c).2)))]) ?_
  refine rvP C (sS (some (rCmdPut c).1.nil) (eI .u8) ((rCmdPut c).1.D)) ?_
  refine rvP C (.pv (.lit (.int .i64 ((rCmdPut c).2)))) ?_
  refine rvP C (sS (some (rCmdPut c).1.nil) (eI .u8) ((rCmdPut c).1.D)) ?_
  refine rvP C (.pv (.lit (.int .i64 ((rCmdPut c).2)))) ?_
  refine rvc_nil ?_
  refine Awp.consP C ?_
  refine rvP C (sS (some b.nil) (eI .u8) b.D) ?_
  refine rvc_un (rexec_call hP C rfl rfl rfl (cmdGet_calls b (by show b.D.length ≤ 1000000; have := cmdPut_len c; have := of_decide_eq_false h1; omega)) ?_)
  refine rvP C (.tup [.agg [.pv (.lit (.int .i64 ((cmdGet b).1.kind))), .pv (.lit (.int .i64 ((cmdGet b).1.node))), .pv (.lit (.int .i64 ((cmdGet b).1.site))), .pv (.lit (.int .i64 ((cmdGet b).1.epoch)))], .pv (.lit (.int .i64 ((cmdGet b).2)))]) ?_
  refine rvP C (.agg [.pv (.lit (.int .i64 ((cmdGet b).1.kind))), .pv (.lit (.int .i64 ((cmdGet b).1.node))), .pv (.lit (.int .i64 ((cmdGet b).1.site))), .pv (.lit (.int .i64 ((cmdGet b).1.epoch)))]) ?_
  refine rvP C (.pv (.lit (.int .i64 ((cmdGet b).2)))) ?_
  refine rvc_un (rexec_prim C (δ := { v := .ptr 9 0, new := [(9, .cells [.pv (.lit (.int .i64 0)), .pv (.lit (.int .i64 0)), .pv (.lit (.int .i64 0)), .pv (.lit (.int .i64 0))])] }) rfl rfl rfl rfl trivial rfl ?_)
  refine rvc_un (rexec_prim C (δ := { v := .undef, wr := [(9, some (.cells [.pv (.lit (.int .i64 ((cmdGet b).1.kind))), .pv (.lit (.int .i64 ((cmdGet b).1.node))), .pv (.lit (.int .i64 ((cmdGet b).1.site))), .pv (.lit (.int .i64 ((cmdGet b).1.epoch)))]))] }) rfl rfl rfl rfl trivial rfl ?_)
  refine rvP C (.pv (.lit (.int .i64 ((cmdGet b).2)))) ?_
  refine rvc_nil ?_
  refine Awp.consP C ?_
  refine rvP C (sS (some b.nil) (eI .u8) b.D) ?_
  refine rvc_un (rexec_call hP C rfl rfl rfl (rCmdGet_calls b (by have := cmdPut_len c; have := of_decide_eq_false h1; omega)) ?_)
  refine rvP C (.tup [.agg [.pv (.lit (.int .i64 ((rCmdGet b).1.kind))), .pv (.lit (.int .i64 ((rCmdGet b).1.node))), .pv (.lit (.int .i64 ((rCmdGet b).1.site))), .pv (.lit (.int .i64 ((rCmdGet b).1.epoch)))], .pv (.lit (.int .i64 ((rCmdGet b).2)))]) ?_
  refine rvP C (.agg [.pv (.lit (.int .i64 ((rCmdGet b).1.kind))), .pv (.lit (.int .i64 ((rCmdGet b).1.node))), .pv (.lit (.int .i64 ((rCmdGet b).1.site))), .pv (.lit (.int .i64 ((rCmdGet b).1.epoch)))]) ?_
  refine rvP C (.pv (.lit (.int .i64 ((rCmdGet b).2)))) ?_
  refine rvc_un (rexec_prim C (δ := { v := .ptr 11 0, new := [(11, .cells [.pv (.lit (.int .i64 0)), .pv (.lit (.int .i64 0)), .pv (.lit (.int .i64 0)), .pv (.lit (.int .i64 0))])] }) rfl rfl rfl rfl trivial rfl ?_)
  refine rvc_un (rexec_prim C (δ := { v := .undef, wr := [(11, some (.cells [.pv (.lit (.int .i64 ((rCmdGet b).1.kind))), .pv (.lit (.int .i64 ((rCmdGet b).1.node))), .pv (.lit (.int .i64 ((rCmdGet b).1.site))), .pv (.lit (.int .i64 ((rCmdGet b).1.epoch)))]))] }) rfl rfl rfl rfl trivial rfl ?_)
  refine rvP C (.pv (.lit (.int .i64 ((rCmdGet b).2)))) ?_
  refine rvc_nil ?_
  refine Awp.seq ?_
  refine Awp.consP C ?_
  refine rvP C (.agg [.pv (.lit (.int .i64 c.kind)), .pv (.lit (.int .i64 c.node)), .pv (.lit (.int .i64 c.site)), .pv (.lit (.int .i64 c.epoch))]) ?_
  refine rvc_un (rexec_call hP C rfl rfl rfl (cmdCheck_calls c) ?_)
  refine rvP C (.agg [.pv (.lit (.int .i64 c.kind)), .pv (.lit (.int .i64 c.node)), .pv (.lit (.int .i64 c.site)), .pv (.lit (.int .i64 c.epoch))]) ?_
  refine rvc_un (rexec_call hP C rfl rfl rfl (rCmdCheck_calls c) ?_)
  refine rvP C (.pv (.lit (.bool ((cmdCheck c) != (rCmdCheck c))))) ?_
  refine rvP C (.pv (.lit (.bool ((cmdCheck c) != (rCmdCheck c))))) ?_
  refine rvc_case 46 ((cmdCheck c) != (rCmdCheck c)) rfl (fun h2 => ?_) (fun h2 => ?_)
  ·
   replace hR := of_true h2 hR
   refine rvS ?_
   refine rvS ?_
   refine rvS ?_
   refine rvS ?_
   refine rvP C (.pv (.lit (.bool true))) ?_
   refine rvP C (.pv (.lit (.bool true))) ?_
   refine rvS ?_
   refine rvS ?_
   refine rvS ?_
   refine rvP C (.pv (.lit (.bool true))) ?_
   refine rvP C (.pv (.lit (.bool true))) ?_
   refine rvS ?_
   refine rvS ?_
   refine rvS ?_
   refine rvP C (.pv (.lit (.bool true))) ?_
   refine rvP C (.pv (.lit (.bool true))) ?_
   refine rvS ?_
   refine rvS ?_
   refine rvS ?_
   refine rvP C (.pv (.lit (.bool true))) ?_
   refine rvc_nil ?_
   refine Awp.condT (b := true) rfl rfl ?_
   refine Awp.consP C ?_
   refine rvP C (.pv (.lit (.bool false))) ?_
   refine rvc_nil ?_
   refine Awp.ret ?_
   subst hR
   exact ⟨.inl rfl, rfl⟩
  ·
   replace hR := of_false h2 hR
   refine rvO C (sS (some (cmdPut c).1.nil) (eI .u8) ((cmdPut c).1.D)) ?_
   refine rvO C (sS (some (rCmdPut c).1.nil) (eI .u8) ((rCmdPut c).1.D)) ?_
   refine rvc_open rfl rfl rfl (rexec_call hP C rfl rfl rfl (eqBytes_calls ((cmdPut c).1) ((rCmdPut c).1)) ?_)
   refine rvO C (.pv (.lit (.bool (!(eqBytes ((cmdPut c).1) ((rCmdPut c).1)))))) ?_
   refine rvP C (.pv (.lit (.bool (!(eqBytes ((cmdPut c).1) ((rCmdPut c).1)))))) ?_
   refine rvP C (.pv (.lit (.bool (!(eqBytes ((cmdPut c).1) ((rCmdPut c).1)))))) ?_
   refine rvc_case 52 (!(eqBytes ((cmdPut c).1) ((rCmdPut c).1))) rfl (fun h3 => ?_) (fun h3 => ?_)
   ·
    replace hR := of_true h3 hR
    refine rvS ?_
    refine rvS ?_
    refine rvS ?_
    refine rvP C (.pv (.lit (.bool true))) ?_
    refine rvP C (.pv (.lit (.bool true))) ?_
    refine rvS ?_
    refine rvS ?_
    refine rvS ?_
    refine rvP C (.pv (.lit (.bool true))) ?_
    refine rvP C (.pv (.lit (.bool true))) ?_
    refine rvS ?_
    refine rvS ?_
    refine rvS ?_
    refine rvP C (.pv (.lit (.bool true))) ?_
    refine rvc_nil ?_
    refine Awp.condT (b := true) rfl rfl ?_
    refine Awp.consP C ?_
    refine rvP C (.pv (.lit (.bool false))) ?_
    refine rvc_nil ?_
    refine Awp.ret ?_
    subst hR
    exact ⟨.inl rfl, rfl⟩
   ·
    replace hR := of_false h3 hR
    refine rvO C (.pv (.lit (.int .i64 ((cmdPut c).2)))) ?_
    refine rvO C (.pv (.lit (.int .i64 ((rCmdPut c).2)))) ?_
    refine rvO C (.pv (.lit (.bool (((cmdPut c).2) != ((rCmdPut c).2))))) ?_
    refine rvP C (.pv (.lit (.bool (((cmdPut c).2) != ((rCmdPut c).2))))) ?_
    refine rvP C (.pv (.lit (.bool (((cmdPut c).2) != ((rCmdPut c).2))))) ?_
    refine rvc_case 57 (((cmdPut c).2) != ((rCmdPut c).2)) rfl (fun h4 => ?_) (fun h4 => ?_)
    ·
     replace hR := of_true h4 hR
     refine rvS ?_
     refine rvS ?_
     refine rvS ?_
     refine rvP C (.pv (.lit (.bool true))) ?_
     refine rvP C (.pv (.lit (.bool true))) ?_
     refine rvS ?_
     refine rvS ?_
     refine rvS ?_
     refine rvP C (.pv (.lit (.bool true))) ?_
     refine rvc_nil ?_
     refine Awp.condT (b := true) rfl rfl ?_
     refine Awp.consP C ?_
     refine rvP C (.pv (.lit (.bool false))) ?_
     refine rvc_nil ?_
     refine Awp.ret ?_
     subst hR
     exact ⟨.inl rfl, rfl⟩
    ·
     replace hR := of_false h4 hR
     refine rvO C (.agg [.pv (.lit (.int .i64 ((cmdGet b).1.kind))), .pv (.lit (.int .i64 ((cmdGet b).1.node))), .pv (.lit (.int .i64 ((cmdGet b).1.site))), .pv (.lit (.int .i64 ((cmdGet b).1.epoch)))]) ?_
     refine rvO C (.agg [.pv (.lit (.int .i64 ((rCmdGet b).1.kind))), .pv (.lit (.int .i64 ((rCmdGet b).1.node))), .pv (.lit (.int .i64 ((rCmdGet b).1.site))), .pv (.lit (.int .i64 ((rCmdGet b).1.epoch)))]) ?_
     refine rvO C (.pv (.lit (.bool (!((((cmdGet b).1.kind) == ((rCmdGet b).1.kind)) && ((((cmdGet b).1.node) == ((rCmdGet b).1.node)) && ((((cmdGet b).1.site) == ((rCmdGet b).1.site)) && ((((cmdGet b).1.epoch) == ((rCmdGet b).1.epoch)) && true)))))))) ?_
     refine rvP C (.pv (.lit (.bool (!((((cmdGet b).1.kind) == ((rCmdGet b).1.kind)) && ((((cmdGet b).1.node) == ((rCmdGet b).1.node)) && ((((cmdGet b).1.site) == ((rCmdGet b).1.site)) && ((((cmdGet b).1.epoch) == ((rCmdGet b).1.epoch)) && true)))))))) ?_
     refine rvP C (.pv (.lit (.bool (!((((cmdGet b).1.kind) == ((rCmdGet b).1.kind)) && ((((cmdGet b).1.node) == ((rCmdGet b).1.node)) && ((((cmdGet b).1.site) == ((rCmdGet b).1.site)) && ((((cmdGet b).1.epoch) == ((rCmdGet b).1.epoch)) && true)))))))) ?_
     refine rvc_case 62 (!((((cmdGet b).1.kind) == ((rCmdGet b).1.kind)) && ((((cmdGet b).1.node) == ((rCmdGet b).1.node)) && ((((cmdGet b).1.site) == ((rCmdGet b).1.site)) && ((((cmdGet b).1.epoch) == ((rCmdGet b).1.epoch)) && true))))) rfl (fun h5 => ?_) (fun h5 => ?_)
     ·
      replace hR := of_true h5 hR
      refine rvS ?_
      refine rvS ?_
      refine rvS ?_
      refine rvP C (.pv (.lit (.bool true))) ?_
      refine rvc_nil ?_
      refine Awp.condT (b := true) rfl rfl ?_
      refine Awp.consP C ?_
      refine rvP C (.pv (.lit (.bool false))) ?_
      refine rvc_nil ?_
      refine Awp.ret ?_
      subst hR
      exact ⟨.inl rfl, rfl⟩
     ·
      replace hR := of_false h5 hR
      refine rvO C (.pv (.lit (.int .i64 ((cmdGet b).2)))) ?_
      refine rvO C (.pv (.lit (.int .i64 ((rCmdGet b).2)))) ?_
      refine rvO C (.pv (.lit (.bool (((cmdGet b).2) != ((rCmdGet b).2))))) ?_
      refine rvP C (.pv (.lit (.bool (((cmdGet b).2) != ((rCmdGet b).2))))) ?_
      refine rvc_nil ?_
      refine Awp.cond (b := (((cmdGet b).2) != ((rCmdGet b).2))) rfl (fun h6 => ?_) (fun h6 => ?_)
      ·
       replace hR := of_true h6 hR
       refine Awp.consP C ?_
       refine rvP C (.pv (.lit (.bool false))) ?_
       refine rvc_nil ?_
       refine Awp.ret ?_
       subst hR
       exact ⟨.inl rfl, rfl⟩
      ·
       replace hR := of_false h6 hR
       refine Awp.skip ?_
       refine Awp.seq ?_
       refine Awp.consP C ?_
       refine rvP C (.pv (.lit (.int .i64 ((cmdPut c).2)))) ?_
       refine rvP C (.pv (.lit (.bool (((cmdPut c).2) == 0)))) ?_
       refine rvc_nil ?_
       refine Awp.cond (b := (((cmdPut c).2) == 0)) rfl (fun h7 => ?_) (fun h7 => ?_)
       ·
        replace hR := of_true h7 hR
        refine Awp.consP C ?_
        refine rvP C (sS (some (cmdPut c).1.nil) (eI .u8) ((cmdPut c).1.D)) ?_
        refine rvc_un (rexec_call hP C rfl rfl rfl (cmdGet_calls ((cmdPut c).1) (by show ((cmdPut c).1.D).length ≤ 1000000; have := cmdPut_len c; have := of_decide_eq_false h1; have := eq_of_bne_false h2; have := eq_of_bne_false h4; have := eq_of_bne_false h6; have := beq_iff_eq.1 h7; omega)) ?_)
        refine rvP C (.tup [.agg [.pv (.lit (.int .i64 ((cmdGet ((cmdPut c).1)).1.kind))), .pv (.lit (.int .i64 ((cmdGet ((cmdPut c).1)).1.node))), .pv (.lit (.int .i64 ((cmdGet ((cmdPut c).1)).1.site))), .pv (.lit (.int .i64 ((cmdGet ((cmdPut c).1)).1.epoch)))], .pv (.lit (.int .i64 ((cmdGet ((cmdPut c).1)).2)))]) ?_
        refine rvP C (.agg [.pv (.lit (.int .i64 ((cmdGet ((cmdPut c).1)).1.kind))), .pv (.lit (.int .i64 ((cmdGet ((cmdPut c).1)).1.node))), .pv (.lit (.int .i64 ((cmdGet ((cmdPut c).1)).1.site))), .pv (.lit (.int .i64 ((cmdGet ((cmdPut c).1)).1.epoch)))]) ?_
        refine rvP C (.pv (.lit (.int .i64 ((cmdGet ((cmdPut c).1)).2)))) ?_
        refine rvc_un (rexec_prim C (δ := { v := .ptr 13 0, new := [(13, .cells [.pv (.lit (.int .i64 0)), .pv (.lit (.int .i64 0)), .pv (.lit (.int .i64 0)), .pv (.lit (.int .i64 0))])] }) rfl rfl rfl rfl trivial rfl ?_)
        refine rvc_un (rexec_prim C (δ := { v := .undef, wr := [(13, some (.cells [.pv (.lit (.int .i64 ((cmdGet ((cmdPut c).1)).1.kind))), .pv (.lit (.int .i64 ((cmdGet ((cmdPut c).1)).1.node))), .pv (.lit (.int .i64 ((cmdGet ((cmdPut c).1)).1.site))), .pv (.lit (.int .i64 ((cmdGet ((cmdPut c).1)).1.epoch)))]))] }) rfl rfl rfl rfl trivial rfl ?_)
        refine rvP C (.pv (.lit (.int .i64 ((cmdGet ((cmdPut c).1)).2)))) ?_
        refine rvc_nil ?_
        refine Awp.consP C ?_
        refine rvP C (.agg [.pv (.lit (.int .i64 ((cmdGet ((cmdPut c).1)).1.kind))), .pv (.lit (.int .i64 ((cmdGet ((cmdPut c).1)).1.node))), .pv (.lit (.int .i64 ((cmdGet ((cmdPut c).1)).1.site))), .pv (.lit (.int .i64 ((cmdGet ((cmdPut c).1)).1.epoch)))]) ?_
        refine rvP C (.agg [.pv (.lit (.int .i64 c.kind)), .pv (.lit (.int .i64 c.node)), .pv (.lit (.int .i64 c.site)), .pv (.lit (.int .i64 c.epoch))]) ?_
        refine rvP C (.pv (.lit (.bool (!((((cmdGet ((cmdPut c).1)).1.kind) == c.kind) && ((((cmdGet ((cmdPut c).1)).1.node) == c.node) && ((((cmdGet ((cmdPut c).1)).1.site) == c.site) && ((((cmdGet ((cmdPut c).1)).1.epoch) == c.epoch) && true)))))))) ?_
        refine rvP C (.pv (.lit (.bool (!((((cmdGet ((cmdPut c).1)).1.kind) == c.kind) && ((((cmdGet ((cmdPut c).1)).1.node) == c.node) && ((((cmdGet ((cmdPut c).1)).1.site) == c.site) && ((((cmdGet ((cmdPut c).1)).1.epoch) == c.epoch) && true)))))))) ?_
        refine rvc_case 77 (!((((cmdGet ((cmdPut c).1)).1.kind) == c.kind) && ((((cmdGet ((cmdPut c).1)).1.node) == c.node) && ((((cmdGet ((cmdPut c).1)).1.site) == c.site) && ((((cmdGet ((cmdPut c).1)).1.epoch) == c.epoch) && true))))) rfl (fun h8 => ?_) (fun h8 => ?_)
        ·
         replace hR := of_true h8 hR
         refine rvS ?_
         refine rvS ?_
         refine rvP C (.pv (.lit (.bool true))) ?_
         refine rvc_nil ?_
         refine Awp.condT (b := true) rfl rfl ?_
         refine Awp.consP C ?_
         refine rvP C (.pv (.lit (.bool false))) ?_
         refine rvc_nil ?_
         refine Awp.ret ?_
         subst hR
         exact ⟨.inl rfl, rfl⟩
        ·
         replace hR := of_false h8 hR
         refine rvO C (.pv (.lit (.int .i64 ((cmdGet ((cmdPut c).1)).2)))) ?_
         refine rvO C (.pv (.lit (.bool (((cmdGet ((cmdPut c).1)).2) != 0)))) ?_
         refine rvP C (.pv (.lit (.bool (((cmdGet ((cmdPut c).1)).2) != 0)))) ?_
         refine rvc_nil ?_
         refine Awp.cond (b := (((cmdGet ((cmdPut c).1)).2) != 0)) rfl (fun h9 => ?_) (fun h9 => ?_)
         ·
          replace hR := of_true h9 hR
          refine Awp.consP C ?_
          refine rvP C (.pv (.lit (.bool false))) ?_
          refine rvc_nil ?_
          refine Awp.ret ?_
          subst hR
          exact ⟨.inl rfl, rfl⟩
         ·
          replace hR := of_false h9 hR
          refine Awp.skip ?_
          refine Awp.seq ?_
          refine Awp.consP C ?_
          refine rvP C (.pv (.lit (.int .i64 ((cmdGet b).2)))) ?_
          refine rvP C (.pv (.lit (.bool (((cmdGet b).2) == 0)))) ?_
          refine rvc_nil ?_
          refine Awp.cond (b := (((cmdGet b).2) == 0)) rfl (fun h10 => ?_) (fun h10 => ?_)
          ·
           replace hR := of_true h10 hR
           refine Awp.consP C ?_
           refine rvP C (.agg [.pv (.lit (.int .i64 ((cmdGet b).1.kind))), .pv (.lit (.int .i64 ((cmdGet b).1.node))), .pv (.lit (.int .i64 ((cmdGet b).1.site))), .pv (.lit (.int .i64 ((cmdGet b).1.epoch)))]) ?_
           refine rvc_un (rexec_call hP C rfl rfl rfl (cmdPut_calls ((cmdGet b).1)) ?_)
           refine rvP C (.tup [sS (some (cmdPut ((cmdGet b).1)).1.nil) (eI .u8) ((cmdPut ((cmdGet b).1)).1.D), .pv (.lit (.int .i64 ((cmdPut ((cmdGet b).1)).2)))]) ?_
           refine rvP C (sS (some (cmdPut ((cmdGet b).1)).1.nil) (eI .u8) ((cmdPut ((cmdGet b).1)).1.D)) ?_
           refine rvP C (.pv (.lit (.int .i64 ((cmdPut ((cmdGet b).1)).2)))) ?_
           refine rvP C (sS (some (cmdPut ((cmdGet b).1)).1.nil) (eI .u8) ((cmdPut ((cmdGet b).1)).1.D)) ?_
           refine rvP C (.pv (.lit (.int .i64 ((cmdPut ((cmdGet b).1)).2)))) ?_
           refine rvc_nil ?_
           refine Awp.consP C ?_
           refine rvP C (sS (some (cmdPut ((cmdGet b).1)).1.nil) (eI .u8) ((cmdPut ((cmdGet b).1)).1.D)) ?_
           refine rvP C (sS (some b.nil) (eI .u8) b.D) ?_
           refine rvc_un (rexec_call hP C rfl rfl rfl (eqBytes_calls ((cmdPut ((cmdGet b).1)).1) b) ?_)
           refine rvP C (.pv (.lit (.bool (!(eqBytes ((cmdPut ((cmdGet b).1)).1) b))))) ?_
           refine rvP C (.pv (.lit (.bool (!(eqBytes ((cmdPut ((cmdGet b).1)).1) b))))) ?_
           refine rvc_case 92 (!(eqBytes ((cmdPut ((cmdGet b).1)).1) b)) rfl (fun h11 => ?_) (fun h11 => ?_)
           ·
            replace hR := of_true h11 hR
            refine rvS ?_
            refine rvS ?_
            refine rvP C (.pv (.lit (.bool true))) ?_
            refine rvc_nil ?_
            refine Awp.condT (b := true) rfl rfl ?_
            refine Awp.consP C ?_
            refine rvP C (.pv (.lit (.bool false))) ?_
            refine rvc_nil ?_
            refine Awp.ret ?_
            subst hR
            exact ⟨.inl rfl, rfl⟩
           ·
            replace hR := of_false h11 hR
            refine rvO C (.pv (.lit (.int .i64 ((cmdPut ((cmdGet b).1)).2)))) ?_
            refine rvO C (.pv (.lit (.bool (((cmdPut ((cmdGet b).1)).2) != 0)))) ?_
            refine rvP C (.pv (.lit (.bool (((cmdPut ((cmdGet b).1)).2) != 0)))) ?_
            refine rvc_nil ?_
            refine Awp.cond (b := (((cmdPut ((cmdGet b).1)).2) != 0)) rfl (fun h12 => ?_) (fun h12 => ?_)
            ·
             replace hR := of_true h12 hR
             refine Awp.consP C ?_
             refine rvP C (.pv (.lit (.bool false))) ?_
             refine rvc_nil ?_
             refine Awp.ret ?_
             subst hR
             exact ⟨.inl rfl, rfl⟩
            ·
             replace hR := of_false h12 hR
             refine Awp.skip ?_
             refine Awp.consP C ?_
             refine rvc_un (rexec_call hP C rfl rfl rfl (awake_calls ) ?_)
             refine rvP C (.pv (.lit (.bool (awake )))) ?_
             refine rvc_nil ?_
             refine Awp.ret ?_
             subst hR
             exact ⟨.inl rfl, rfl⟩
          ·
           replace hR := of_false h10 hR
           refine Awp.skip ?_
           refine Awp.consP C ?_
           refine rvc_un (rexec_call hP C rfl rfl rfl (awake_calls ) ?_)
           refine rvP C (.pv (.lit (.bool (awake )))) ?_
           refine rvc_nil ?_
           refine Awp.ret ?_
           subst hR
           exact ⟨.inl rfl, rfl⟩
       ·
        replace hR := of_false h7 hR
        refine Awp.skip ?_
        refine Awp.seq ?_
        refine Awp.consP C ?_
        refine rvP C (.pv (.lit (.int .i64 ((cmdGet b).2)))) ?_
        refine rvP C (.pv (.lit (.bool (((cmdGet b).2) == 0)))) ?_
        refine rvc_nil ?_
        refine Awp.cond (b := (((cmdGet b).2) == 0)) rfl (fun h13 => ?_) (fun h13 => ?_)
        ·
         replace hR := of_true h13 hR
         refine Awp.consP C ?_
         refine rvP C (.agg [.pv (.lit (.int .i64 ((cmdGet b).1.kind))), .pv (.lit (.int .i64 ((cmdGet b).1.node))), .pv (.lit (.int .i64 ((cmdGet b).1.site))), .pv (.lit (.int .i64 ((cmdGet b).1.epoch)))]) ?_
         refine rvc_un (rexec_call hP C rfl rfl rfl (cmdPut_calls ((cmdGet b).1)) ?_)
         refine rvP C (.tup [sS (some (cmdPut ((cmdGet b).1)).1.nil) (eI .u8) ((cmdPut ((cmdGet b).1)).1.D), .pv (.lit (.int .i64 ((cmdPut ((cmdGet b).1)).2)))]) ?_
         refine rvP C (sS (some (cmdPut ((cmdGet b).1)).1.nil) (eI .u8) ((cmdPut ((cmdGet b).1)).1.D)) ?_
         refine rvP C (.pv (.lit (.int .i64 ((cmdPut ((cmdGet b).1)).2)))) ?_
         refine rvP C (sS (some (cmdPut ((cmdGet b).1)).1.nil) (eI .u8) ((cmdPut ((cmdGet b).1)).1.D)) ?_
         refine rvP C (.pv (.lit (.int .i64 ((cmdPut ((cmdGet b).1)).2)))) ?_
         refine rvc_nil ?_
         refine Awp.consP C ?_
         refine rvP C (sS (some (cmdPut ((cmdGet b).1)).1.nil) (eI .u8) ((cmdPut ((cmdGet b).1)).1.D)) ?_
         refine rvP C (sS (some b.nil) (eI .u8) b.D) ?_
         refine rvc_un (rexec_call hP C rfl rfl rfl (eqBytes_calls ((cmdPut ((cmdGet b).1)).1) b) ?_)
         refine rvP C (.pv (.lit (.bool (!(eqBytes ((cmdPut ((cmdGet b).1)).1) b))))) ?_
         refine rvP C (.pv (.lit (.bool (!(eqBytes ((cmdPut ((cmdGet b).1)).1) b))))) ?_
         refine rvc_case 92 (!(eqBytes ((cmdPut ((cmdGet b).1)).1) b)) rfl (fun h14 => ?_) (fun h14 => ?_)
         ·
          replace hR := of_true h14 hR
          refine rvS ?_
          refine rvS ?_
          refine rvP C (.pv (.lit (.bool true))) ?_
          refine rvc_nil ?_
          refine Awp.condT (b := true) rfl rfl ?_
          refine Awp.consP C ?_
          refine rvP C (.pv (.lit (.bool false))) ?_
          refine rvc_nil ?_
          refine Awp.ret ?_
          subst hR
          exact ⟨.inl rfl, rfl⟩
         ·
          replace hR := of_false h14 hR
          refine rvO C (.pv (.lit (.int .i64 ((cmdPut ((cmdGet b).1)).2)))) ?_
          refine rvO C (.pv (.lit (.bool (((cmdPut ((cmdGet b).1)).2) != 0)))) ?_
          refine rvP C (.pv (.lit (.bool (((cmdPut ((cmdGet b).1)).2) != 0)))) ?_
          refine rvc_nil ?_
          refine Awp.cond (b := (((cmdPut ((cmdGet b).1)).2) != 0)) rfl (fun h15 => ?_) (fun h15 => ?_)
          ·
           replace hR := of_true h15 hR
           refine Awp.consP C ?_
           refine rvP C (.pv (.lit (.bool false))) ?_
           refine rvc_nil ?_
           refine Awp.ret ?_
           subst hR
           exact ⟨.inl rfl, rfl⟩
          ·
           replace hR := of_false h15 hR
           refine Awp.skip ?_
           refine Awp.consP C ?_
           refine rvc_un (rexec_call hP C rfl rfl rfl (awake_calls ) ?_)
           refine rvP C (.pv (.lit (.bool (awake )))) ?_
           refine rvc_nil ?_
           refine Awp.ret ?_
           subst hR
           exact ⟨.inl rfl, rfl⟩
        ·
         replace hR := of_false h13 hR
         refine Awp.skip ?_
         refine Awp.consP C ?_
         refine rvc_un (rexec_call hP C rfl rfl rfl (awake_calls ) ?_)
         refine rvP C (.pv (.lit (.bool (awake )))) ?_
         refine rvc_nil ?_
         refine Awp.ret ?_
         subst hR
         exact ⟨.inl rfl, rfl⟩
end Go.Proofs.Ytpgenmflgdkfiaa
/- Calls that may be gone through are few. No conditions. -/
namespace Go.Proofs.Ytpgenmflgdkfiaa
open Go.Am
end Go.Proofs.Ytpgenmflgdkfiaa
/- Laws: once; refused. No conditions. -/
namespace Go.Proofs.Ytpgenmflgdkfiaa
open Go.Am
end Go.Proofs.Ytpgenmflgdkfiaa
/- Numbers as bytes, in plain words: put, and read. No conditions. -/
namespace Go.Proofs.Ytpgenmflgdkfiaa
open Go.Am
/-- A number's bytes. -/
def vb (n : Nat) : List Int := if n < 128 then [(n : Int)] else ((n % 128 + 128 : Nat) : Int) :: vb (n / 128)
theorem vb_lt {n : Nat} (h : n < 128) : vb n = [(n : Int)] := by rw [vb, if_pos h]
theorem vb_ge {n : Nat} (h : 128 ≤ n) : vb n = ((n % 128 + 128 : Nat) : Int) :: vb (n / 128) := by rw [vb, if_neg (by omega)]
theorem wrap8 (n : Int) : IntKind.u8.wrap n = n % 256 := by simp [IntKind.wrap, IntKind.bits, IntKind.signed]
theorem bv8 (a : Nat) (h : a < 256) : (BitVec.ofInt 8 (a : Int)).toNat = a := by
  rw [BitVec.toNat_ofInt]
  show (((a : Int) % 256)).toNat = a
  omega
theorem or8 {a b : Nat} (ha : a < 256) (hb : b < 256) : bitI .or .u8 (a : Int) (b : Int) = ((a ||| b : Nat) : Int) := by
  unfold bitI
  show IntKind.u8.wrap ((BitVec.ofInt 8 (a : Int) ||| BitVec.ofInt 8 (b : Int)).toNat : Int) = _
  rw [BitVec.toNat_or, bv8 a ha, bv8 b hb, wrap8]
  have : a ||| b < 2 ^ 8 := Nat.or_lt_two_pow ha hb
  omega
theorem and8 {a b : Nat} (ha : a < 256) (hb : b < 256) : bitI .and .u8 (a : Int) (b : Int) = ((a &&& b : Nat) : Int) := by
  unfold bitI
  show IntKind.u8.wrap ((BitVec.ofInt 8 (a : Int) &&& BitVec.ofInt 8 (b : Int)).toNat : Int) = _
  rw [BitVec.toNat_and, bv8 a ha, bv8 b hb, wrap8]
  have : a &&& b ≤ a := Nat.and_le_left
  omega
theorem or128 : ∀ y : Fin 256, (y.val ||| 128) = y.val % 128 + 128 := by decide +kernel
theorem low_byte {n : Int} (h : 0 ≤ n) : bitI .or .u8 (IntKind.u8.wrap n) 128 = ((n.toNat % 128 + 128 : Nat) : Int) := by
  have e : IntKind.u8.wrap n = ((n.toNat % 256 : Nat) : Int) := by rw [wrap8]; omega
  rw [e, show (128 : Int) = ((128 : Nat) : Int) from rfl, or8 (by omega) (by decide), or128 ⟨n.toNat % 256, by omega⟩]
  show ((n.toNat % 256 % 128 + 128 : Nat) : Int) = _
  omega
theorem wPut_l1_eq : ∀ (f : Nat) (b1 : List Int) (n : Int), 0 ≤ n → n.toNat < f → wPut_l1 (fun b1 n => (Sl.mk false (b1 ++ [(IntKind.u8.wrap n)]))) f b1 n = Sl.mk false (b1 ++ vb n.toNat)
  | 0, _, _, _, h => by omega
  | f + 1, b1, n, h0, h => by
    unfold wPut_l1
    cases e1 : decide (n ≥ 128)
    · have := of_decide_eq_false e1
      rw [vb_lt (by omega)]
      show Sl.mk false (b1 ++ [IntKind.u8.wrap n]) = _
      rw [wrap8, show n % 256 = ((n.toNat : Nat) : Int) by omega]
    · have hn := of_decide_eq_true e1
      show wPut_l1 _ f (b1 ++ [bitI .or .u8 (IntKind.u8.wrap n) 128]) (shrI .u64 n 7) = _
      rw [wPut_l1_eq f _ _ (by rw [shr7]; omega) (by rw [shr7]; omega), low_byte h0, vb_ge (n := n.toNat) (by omega), shr7, show (n / 128).toNat = n.toNat / 128 by omega]
      simp
theorem wPut_eq (b : Sl Int) (x : Int) (h0 : 0 ≤ x) : wPut b x = Sl.mk false (b.D ++ vb x.toNat) := by
  unfold wPut
  cases e1 : decide (x ≥ 128)
  · have := of_decide_eq_false e1
    rw [vb_lt (by omega)]
    show Sl.mk false (b.D ++ [IntKind.u8.wrap x]) = _
    rw [wrap8, show x % 256 = ((x.toNat : Nat) : Int) by omega]
  · have hn := of_decide_eq_true e1
    show wPut_l1 _ _ (b.D ++ [bitI .or .u8 (IntKind.u8.wrap x) 128]) (shrI .u64 x 7) = _
    rw [wPut_l1_eq _ _ _ (by rw [shr7]; omega) (by omega), low_byte h0, vb_ge (n := x.toNat) (by omega), shr7, show (x / 128).toNat = x.toNat / 128 by omega]
    simp
theorem rPut_l1_eq (g : List Int → Sl Int) : ∀ (k i : Nat) (out : List Int) (n : Int), 0 ≤ n → n.toNat < 128 ^ (k + 1) → n < 18446744073709551616 → rPut_l1 (fun out1 n => g (out1 ++ [(IntKind.u8.wrap n)])) k i out n = g (out ++ vb n.toNat)
  | 0, i, out, n, h0, h, h2 => by
    rw [vb_lt (by simpa using h)]
    show g (out ++ [IntKind.u8.wrap n]) = _
    have : n.toNat < 128 := by simpa using h
    rw [wrap8, show n % 256 = ((n.toNat : Nat) : Int) by omega]
  | k + 1, i, out, n, h0, h, h2 => by
    unfold rPut_l1
    cases e1 : decide (n < 128)
    · have hn := of_decide_eq_false e1
      have e2 : IntKind.u64.wrap (n.tdiv 128) = n / 128 := by rw [wrapU, Int.tdiv_eq_ediv_of_nonneg h0]; omega
      have e3 : IntKind.u8.wrap (IntKind.u64.wrap (128 + (n.tmod 128))) = ((n.toNat % 128 + 128 : Nat) : Int) := by
        rw [wrapU, wrap8, Int.tmod_eq_emod_of_nonneg h0]; omega
      show rPut_l1 _ k (i + 1) (out ++ [IntKind.u8.wrap (IntKind.u64.wrap (128 + (n.tmod 128)))]) (IntKind.u64.wrap (n.tdiv 128)) = _
      have h3 : n.toNat / 128 < 128 ^ (k + 1) := by
        rw [Nat.pow_succ] at h
        exact Nat.div_lt_of_lt_mul (by rw [Nat.mul_comm]; exact h)
      rw [e2, e3, rPut_l1_eq g k (i + 1) _ _ (by omega) (by rw [show (n / 128).toNat = n.toNat / 128 by omega]; exact h3) (by omega), vb_ge (n := n.toNat) (by omega), show (n / 128).toNat = n.toNat / 128 by omega]
      simp
    · have hn := of_decide_eq_true e1
      rw [vb_lt (by omega)]
      show g (out ++ [IntKind.u8.wrap n]) = _
      rw [wrap8, show n % 256 = ((n.toNat : Nat) : Int) by omega]
def vbs : List Int → List Int
  | [] => []
  | x :: l => vb x.toNat ++ vbs l
theorem rPut_l0_eq : ∀ (l : List Int) (i : Nat) (out : List Int), (∀ x ∈ l, 0 ≤ x ∧ x < 18446744073709551616) → rPut_l0 l i out = Sl.mk false (out ++ vbs l)
  | [], _, out, _ => by simp [rPut_l0, vbs]
  | x :: l, i, out, h => by
    unfold rPut_l0
    have hx := h x (List.mem_cons_self ..)
    have h11 : (128 : Nat) ^ (10 + 1) = 151115727451828646838272 := by decide
    rw [rPut_l1_eq (fun o => rPut_l0 l (i + 1) o) 10 0 out x hx.1 (by omega) hx.2]
    show rPut_l0 l (i + 1) (out ++ vb x.toNat) = _
    rw [rPut_l0_eq l (i + 1) _ fun y hy => h y (List.mem_cons_of_mem _ hy)]
    simp [vbs]
/-- The number that bytes begin with, and what follows. -/
def vd : Nat → List Int → Option (Nat × List Int)
  | _, [] => none
  | i, x :: l => if (i = 9 ∧ 1 < x.toNat % 128) ∨ 9 < i then none else if x = 0 ∧ 0 < i then none else if x < 128 then some (x.toNat, l) else
    match vd (i + 1) l with
    | some (n, r) => some (x.toNat % 128 + 128 * n, r)
    | none => none
/-- What is read is put so. -/
theorem vd_vb : ∀ (i : Nat) (l : List Int) (n : Nat) (r : List Int), (∀ x ∈ l, 0 ≤ x ∧ x < 256) → vd i l = some (n, r) → l = vb n ++ r ∧ (0 < i → 0 < n) ∧ n * 128 ^ i < 18446744073709551616
  | _, [], _, _, _, h => by simp [vd] at h
  | i, x :: l, n, r, hb, h => by
    have hx := hb x (List.mem_cons_self ..)
    have hl : ∀ y ∈ l, 0 ≤ y ∧ y < 256 := fun y hy => hb y (List.mem_cons_of_mem _ hy)
    rw [vd] at h
    split at h
    · cases h
    · rename_i h1
      have hi : i ≤ 9 := by omega
      have hp : 128 ^ i ≤ 9223372036854775808 := Nat.le_trans (Nat.pow_le_pow_right (by decide) hi) (by decide)
      split at h
      · cases h
      · rename_i h2
        split at h
        · rename_i h3
          simp only [Option.some.injEq, Prod.mk.injEq] at h
          obtain ⟨rfl, rfl⟩ := h
          refine ⟨?_, fun hi => by omega, ?_⟩
          · rw [vb_lt (by omega), show ((x.toNat : Nat) : Int) = x by omega]; rfl
          · rcases Nat.lt_or_ge i 9 with h9 | h9
            · have : 128 ^ i ≤ 72057594037927936 := Nat.le_trans (Nat.pow_le_pow_right (by decide) (show i ≤ 8 by omega)) (by decide)
              have h5 : x.toNat * 128 ^ i ≤ 127 * 72057594037927936 := Nat.mul_le_mul (by omega) this
              omega
            · have h5 : x.toNat * 128 ^ i ≤ 1 * 9223372036854775808 := Nat.mul_le_mul (by omega) hp
              omega
        · rename_i h3
          split at h
          · rename_i m r' hm
            simp only [Option.some.injEq, Prod.mk.injEq] at h
            obtain ⟨rfl, rfl⟩ := h
            obtain ⟨e1, e2, e3⟩ := vd_vb (i + 1) l m r' hl hm
            have hm0 := e2 (by omega)
            refine ⟨?_, fun _ => by omega, ?_⟩
            · rw [vb_ge (by omega), show (x.toNat % 128 + 128 * m) / 128 = m by omega, show (((x.toNat % 128 + 128 * m) % 128 + 128 : Nat) : Int) = x by omega, e1]; rfl
            · rw [Nat.pow_succ] at e3
              have h4 : (x.toNat % 128 + 128 * m) * 128 ^ i = x.toNat % 128 * 128 ^ i + m * (128 ^ i * 128) := by
                rw [Nat.add_mul, Nat.mul_comm (128 ^ i) 128, ← Nat.mul_assoc, Nat.mul_comm 128 m]
              have hlt : x.toNat % 128 * 128 ^ i < 128 ^ i * 128 := by
                rw [Nat.mul_comm (128 ^ i)]
                exact Nat.mul_lt_mul_of_pos_right (Nat.mod_lt _ (by decide)) (Nat.pow_pos (by decide))
              have hdiv : 128 ^ i * 128 ∣ 18446744073709551616 ∨ 9 ≤ i := by
                rcases Nat.lt_or_ge i 9 with h9 | h9
                · left
                  rw [← Nat.pow_succ]
                  have : (18446744073709551616 : Nat) = 2 ^ 64 := by decide
                  rw [this, show (128 : Nat) = 2 ^ 7 from rfl, ← Nat.pow_mul]
                  exact Nat.pow_dvd_pow 2 (by omega)
                · exact .inr h9
              rcases hdiv with ⟨q, hq⟩ | h9
              · rw [h4]
                have hmq : m < q := by
                  have h5 : m * (128 ^ i * 128) < (128 ^ i * 128) * q := by rw [← hq]; exact e3
                  rw [Nat.mul_comm m] at h5
                  exact Nat.lt_of_mul_lt_mul_left h5
                have h6 : (m + 1) * (128 ^ i * 128) ≤ q * (128 ^ i * 128) := Nat.mul_le_mul_right _ hmq
                rw [Nat.mul_comm q, ← hq, Nat.add_mul, Nat.one_mul] at h6
                omega
              · exfalso
                -- a tenth byte is the last one
                have hi9 : i = 9 := by omega
                subst hi9
                cases l with
                | nil => simp [vd] at hm
                | cons y l => rw [vd, if_pos (.inr (by decide))] at hm; cases hm
          · cases h
/-- What is put is read so. -/
theorem vb_vd : ∀ (n i : Nat) (r : List Int), n * 128 ^ i < 18446744073709551616 → (0 < i → 0 < n) → vd i (vb n ++ r) = some (n, r) := by
  intro n
  induction n using Nat.strongRecOn with
  | _ n ih =>
    intro i r h h0
    have hi : 0 < n → i ≤ 9 := fun hn => by
      rcases Nat.lt_or_ge i 10 with h9 | h9
      · omega
      · have h4 : 128 ^ 10 ≤ 128 ^ i := Nat.pow_le_pow_right (by decide) h9
        have h5 : 1 * 128 ^ i ≤ n * 128 ^ i := Nat.mul_le_mul_right _ hn
        have h6 : (128 : Nat) ^ 10 = 1180591620717411303424 := by decide
        omega
    have hi' : i ≤ 9 := by
      rcases Nat.eq_zero_or_pos i with e | e
      · omega
      · exact hi (h0 e)
    have hc : i = 9 → n ≤ 1 := fun e => by
      subst e
      have h6 : (128 : Nat) ^ 9 = 9223372036854775808 := by decide
      rw [h6] at h
      omega
    rcases Nat.lt_or_ge n 128 with hn | hn
    · rw [vb_lt hn]
      show vd i ((n : Int) :: r) = _
      rw [vd, if_neg (by omega), if_neg (by omega), if_pos (by omega), show ((n : Int)).toNat = n by omega]
    · rw [vb_ge hn]
      show vd i (((n % 128 + 128 : Nat) : Int) :: (vb (n / 128) ++ r)) = _
      have hne : i ≠ 9 := fun e => by have := hc e; omega
      have hstep : n / 128 * 128 ^ (i + 1) < 18446744073709551616 := by
        refine Nat.lt_of_le_of_lt ?_ h
        rw [Nat.pow_succ, Nat.mul_comm (128 ^ i), ← Nat.mul_assoc]
        exact Nat.mul_le_mul_right _ (Nat.div_mul_le_self n 128)
      rw [vd, if_neg (by omega), if_neg (by omega), if_neg (by omega), ih (n / 128) (by omega) (i + 1) r hstep (fun _ => by omega)]
      simp only [Option.some.injEq, Prod.mk.injEq, and_true]
      omega
end Go.Proofs.Ytpgenmflgdkfiaa
/- What readers of bytes read, in plain words. No conditions. -/
namespace Go.Proofs.Ytpgenmflgdkfiaa
open Go.Am
theorem bif_num {α : Type} {a b c d e : Bool} {S5 S10 T : α} : (bif a then (bif b then S5 else (bif c then S5 else (bif d then (bif e then S10 else T) else T))) else (bif c then S5 else (bif d then (bif e then S10 else T) else T))) = (bif (a && b) || c then S5 else (bif d && e then S10 else T)) := by
  cases a <;> cases b <;> cases c <;> cases d <;> cases e <;> rfl
theorem bif_num2 {α : Type} {a b c d e : Bool} {S5 S10 T : α} : (bif c then S5 else (bif a then (bif b then S5 else (bif d then (bif e then S10 else T) else T)) else (bif d then (bif e then S10 else T) else T))) = (bif (a && b) || c then S5 else (bif d && e then S10 else T)) := by
  cases a <;> cases b <;> cases c <;> cases d <;> cases e <;> rfl
theorem and127 : ∀ y : Fin 256, (y.val &&& 127) = y.val % 128 := by decide +kernel
theorem low7 {x : Int} (h : 0 ≤ x ∧ x < 256) : IntKind.u64.wrap (bitI .and .u8 x 127) = ((x.toNat % 128 : Nat) : Int) := by
  have e : x = ((x.toNat : Nat) : Int) := by omega
  rw [e, show (127 : Int) = ((127 : Nat) : Int) from rfl, and8 (by omega) (by decide), and127 ⟨x.toNat, by omega⟩, wrapU]
  show ((x.toNat % 128 : Nat) : Int) % 18446744073709551616 = ((((x.toNat : Nat) : Int)).toNat % 128 : Nat)
  omega
theorem pow7 (i : Nat) : (2 : Nat) ^ (7 * i) = 128 ^ i := by rw [Nat.pow_mul]
theorem orshl {acc low i : Nat} (hi : i ≤ 9) (h1 : acc < 128 ^ i) (h2 : low * 128 ^ i < 18446744073709551616) : bitI .or .u64 (acc : Int) (shlI .u64 (low : Int) ((7 * i : Nat) : Int)) = ((acc + low * 128 ^ i : Nat) : Int) := by
  have hs : shlI .u64 (low : Int) ((7 * i : Nat) : Int) = ((low * 128 ^ i : Nat) : Int) := by
    show IntKind.u64.wrap ((low : Int) * 2 ^ (min (((7 * i : Nat) : Int).toNat) 64)) = _
    rw [Int.toNat_natCast, Nat.min_eq_left (by omega), wrapU, ← pow7]
    have : (low : Int) * 2 ^ (7 * i) = ((low * 2 ^ (7 * i) : Nat) : Int) := by simp
    rw [this]
    rw [← pow7] at h2
    omega
  have hp : 128 ^ i ≤ 9223372036854775808 := Nat.le_trans (Nat.pow_le_pow_right (by decide) hi) (by decide)
  rw [hs, or64 (by omega) h2]
  have := Nat.shiftLeft_add_eq_or_of_lt (b := acc) (i := 7 * i) (by rw [pow7]; exact h1) low
  rw [Nat.shiftLeft_eq, pow7] at this
  rw [Nat.or_comm, ← this, Nat.add_comm]
theorem getBang {D : List Int} {n : Nat} {x : Int} (h : D[n]? = some x) : D[n]! = x := by rw [getElem!_def, h]
theorem low_le {x i : Nat} (h : ¬ ((i = 9 ∧ 1 < x % 128) ∨ 9 < i)) : x % 128 * 128 ^ i < 18446744073709551616 := by
  rcases Nat.lt_or_ge i 9 with h9 | h9
  · have : 128 ^ i ≤ 72057594037927936 := Nat.le_trans (Nat.pow_le_pow_right (by decide) (show i ≤ 8 by omega)) (by decide)
    have h5 : x % 128 * 128 ^ i ≤ 127 * 72057594037927936 := Nat.mul_le_mul (by omega) this
    omega
  · have hi9 : i = 9 := by omega
    subst hi9
    have h6 : (128 : Nat) ^ 9 = 9223372036854775808 := by decide
    rw [h6]; omega
theorem acc_le {x i acc : Nat} (h1 : acc < 128 ^ i) : acc + x % 128 * 128 ^ i < 128 ^ (i + 1) := by
  rw [Nat.pow_succ, Nat.mul_comm (128 ^ i)]
  have h5 : x % 128 * 128 ^ i ≤ 127 * 128 ^ i := Nat.mul_le_mul_right _ (by omega)
  omega
theorem rdNum_l0_eq {D : List Int} (hD : ∀ x ∈ D, 0 ≤ x ∧ x < 256) (hl : D.length ≤ 1000000) (r : Reader) : ∀ (f i acc : Nat) (v : Reader), f = D.length - v.at_.toNat + 1 → v.b.D = D → 0 ≤ v.at_ → v.at_ ≤ (D.length : Int) → v.err = 0 → v.made = true → i ≤ 10 → acc < 128 ^ i →
    match vd i (D.drop v.at_.toNat) with
    | some (m, rest) => rdNum_l0 r f (acc : Int) ((7 * i : Nat) : Int) v = (Reader.mk v.b ((D.length : Int) - rest.length) 0 true, ((acc + m * 128 ^ i : Nat) : Int))
    | none => rdErr (rdNum_l0 r f (acc : Int) ((7 * i : Nat) : Int) v).1 ≠ 0
  | 0, _, _, _, hf, _, _, _, _, _, _, _ => by omega
  | f + 1, i, acc, v, hf, hb, h0, h1, he, hm, hi, hacc => by
    by_cases hat : v.at_ = (D.length : Int)
    · have e : (v.at_ == (v.b.D.length : Int)) = true := by rw [hb]; simpa using hat
      rw [List.drop_eq_nil_of_le (by omega), vd]
      unfold rdNum_l0
      rw [e]
      show rdErr (rdStop v r.at_ 2) ≠ 0
      unfold rdStop rdErr
      rw [he]
      show (bif !v.made then (6 : Int) else 2) ≠ 0
      rw [hm]; decide
    · have e : (v.at_ == (v.b.D.length : Int)) = false := by rw [hb]; simpa using hat
      obtain ⟨x, hx⟩ : ∃ x, D[v.at_.toNat]? = some x := ⟨_, List.getElem?_eq_getElem (by omega)⟩
      have hxb := hD x (List.mem_of_getElem? hx)
      have hw : IntKind.i64.wrap (v.at_ + 1) = v.at_ + 1 := by have := wrapI (v.at_ + 1); omega
      have hw2 : IntKind.i64.wrap (((7 * i : Nat) : Int) + 7) = ((7 * (i + 1) : Nat) : Int) := by have := wrapI (((7 * i : Nat) : Int) + 7); omega
      have hs : ∀ a q, q ≠ 0 → rdErr (rdStop (Reader.mk v.b (v.at_ + 1) v.err v.made) a q) ≠ 0 := fun a q hq => by
        unfold rdStop rdErr
        rw [he, hm]
        exact hq
      have hc : (((((7 * i : Nat) : Int) == 63) && decide (((x.toNat % 128 : Nat) : Int) > 1)) || decide (((7 * i : Nat) : Int) > 63)) = decide ((i = 9 ∧ 1 < x.toNat % 128) ∨ 9 < i) := by
        rw [Bool.eq_iff_iff]
        simp only [Bool.or_eq_true, Bool.and_eq_true, beq_iff_eq, decide_eq_true_eq]
        omega
      have hd : ((x == 0) && decide (((7 * i : Nat) : Int) > 0)) = decide (x = 0 ∧ 0 < i) := by
        rw [Bool.eq_iff_iff]
        simp only [Bool.and_eq_true, beq_iff_eq, decide_eq_true_eq]
        omega
      rw [drop_at hx, vd]
      unfold rdNum_l0
      rw [e, cond_false, hb, getBang hx, low7 hxb, hw, hw2, bif_num, hc, hd]
      by_cases c1 : (i = 9 ∧ 1 < x.toNat % 128) ∨ 9 < i
      · rw [if_pos c1, decide_eq_true c1]
        exact hs _ _ (by decide)
      · rw [if_neg c1, decide_eq_false c1, cond_false]
        by_cases c2 : x = 0 ∧ 0 < i
        · rw [if_pos c2, decide_eq_true c2]
          exact hs _ _ (by decide)
        · rw [if_neg c2, decide_eq_false c2, cond_false]
          have hor := orshl (acc := acc) (low := x.toNat % 128) (i := i) (by omega) hacc (low_le c1)
          rw [hor]
          by_cases c3 : x < 128
          · rw [if_pos c3, decide_eq_true c3, cond_true]
            have hx' : x.toNat % 128 = x.toNat := by omega
            show (Reader.mk v.b (v.at_ + 1) v.err v.made, _) = (Reader.mk v.b ((D.length : Int) - ((D.drop (v.at_.toNat + 1)).length : Int)) 0 true, _)
            rw [he, hm, hx', List.length_drop]
            have : v.at_ + 1 = (D.length : Int) - ((D.length - (v.at_.toNat + 1) : Nat) : Int) := by omega
            rw [this]
          · rw [if_neg c3, decide_eq_false c3, cond_false]
            have ih := rdNum_l0_eq hD hl r f (i + 1) (acc + x.toNat % 128 * 128 ^ i) (Reader.mk v.b (v.at_ + 1) v.err v.made) (by dsimp only; omega) hb (by dsimp only; omega) (by dsimp only; omega) he hm (by omega) (acc_le hacc)
            dsimp only at ih
            rw [show (v.at_ + 1).toNat = v.at_.toNat + 1 by omega] at ih
            cases hv : vd (i + 1) (D.drop (v.at_.toNat + 1)) with
            | none => rw [hv] at ih; exact ih
            | some q =>
              obtain ⟨m, rest⟩ := q
              rw [hv] at ih
              dsimp only at ih ⊢
              rw [ih]
              have : acc + x.toNat % 128 * 128 ^ i + m * 128 ^ (i + 1) = acc + (x.toNat % 128 + 128 * m) * 128 ^ i := by
                rw [Nat.pow_succ, Nat.add_mul, Nat.mul_comm (128 ^ i) 128, ← Nat.mul_assoc, Nat.mul_comm m 128]; omega
              rw [this]
/-- A reader of these bytes, with no error, ahead of those. -/
structure RdAt (r : Reader) (D l : List Int) : Prop where
  b : r.b.D = D
  made : r.made = true
  err : r.err = 0
  suf : l <:+ D
  at' : r.at_ = (D.length : Int) - l.length
theorem vd_suffix : ∀ (i : Nat) (l : List Int) (n : Nat) (r : List Int), vd i l = some (n, r) → r <:+ l
  | _, [], _, _, h => by simp [vd] at h
  | i, x :: l, n, r, h => by
    rw [vd] at h
    split at h
    · cases h
    · split at h
      · cases h
      · split at h
        · simp only [Option.some.injEq, Prod.mk.injEq] at h; rw [← h.2]; exact List.suffix_cons x l
        · split at h
          · rename_i m r' hm
            simp only [Option.some.injEq, Prod.mk.injEq] at h
            rw [← h.2]
            exact (vd_suffix (i + 1) l m r' hm).trans (List.suffix_cons x l)
          · cases h
theorem RdAt.drop {r : Reader} {D l : List Int} (h : RdAt r D l) : D.drop r.at_.toNat = l := by
  have h1 := List.suffix_iff_eq_drop.1 h.suf
  have h2 := h.suf.length_le
  have : r.at_.toNat = D.length - l.length := by have := h.at'; omega
  rw [this]; exact h1.symm
theorem RdAt.ok {r : Reader} {D l : List Int} (h : RdAt r D l) (hl : D.length ≤ 1000000) : okR r := by
  have h2 := h.suf.length_le
  have h3 := h.at'
  have h4 := h.b
  exact ⟨⟨by omega, by rw [h4]; omega⟩, by rw [h4]; exact hl⟩
theorem RdAt.err0 {r : Reader} {D l : List Int} (h : RdAt r D l) : rdErr r = 0 := by unfold rdErr; rw [h.made, h.err]; rfl
theorem rdNum_at {r : Reader} {D l : List Int} (h : RdAt r D l) (hD : ∀ x ∈ D, 0 ≤ x ∧ x < 256) (hl : D.length ≤ 1000000) :
    match vd 0 l with
    | some (m, rest) => RdAt (rdNum r).1 D rest ∧ (rdNum r).2 = (m : Int)
    | none => rdErr (rdNum r).1 ≠ 0 := by
  have hk := h.ok hl
  have hb := h.b
  have key := rdNum_l0_eq hD hl r (r.b.D.length - r.at_.toNat + 1) 0 0 r (by rw [hb]) hb hk.1.1 (by have := hk.1.2; rw [hb] at this; exact this) h.err h.made (by decide) (by decide)
  rw [h.drop] at key
  unfold rdNum
  rw [h.err0]
  simp only [bne_self_eq_false, cond_false]
  cases hv : vd 0 l with
  | none => rw [hv] at key; exact key
  | some q =>
    obtain ⟨m, rest⟩ := q
    rw [hv] at key
    dsimp only at key ⊢
    have key' : rdNum_l0 r (r.b.D.length - r.at_.toNat + 1) 0 0 r = _ := key
    rw [key']
    refine ⟨⟨hb, rfl, rfl, (vd_suffix 0 l m rest hv).trans h.suf, rfl⟩, ?_⟩
    simp
/-- A number within bounds. -/
def rin (lo hi : Int) (l : List Int) : Option (Nat × List Int) :=
  match vd 0 l with
  | some (n, r) => if (n : Int) ≤ 4611686018427387904 ∧ lo ≤ (n : Int) ∧ (n : Int) ≤ hi then some (n, r) else none
  | none => none
theorem bif3 {α : Type} {a b c : Bool} {S T : α} : (bif a then S else (bif b then S else (bif c then S else T))) = (bif a || b || c then S else T) := by cases a <;> cases b <;> cases c <;> rfl
theorem vd_lt {l : List Int} (hD : ∀ x ∈ l, 0 ≤ x ∧ x < 256) {n : Nat} {r : List Int} (h : vd 0 l = some (n, r)) : n < 18446744073709551616 := by
  have := (vd_vb 0 l n r hD h).2.2
  simpa using this
theorem rdIn_at {r : Reader} {D l : List Int} (lo hi : Int) (h : RdAt r D l) (hD : ∀ x ∈ D, 0 ≤ x ∧ x < 256) (hl : D.length ≤ 1000000) :
    match rin lo hi l with
    | some (m, rest) => RdAt (rdIn r lo hi).1 D rest ∧ (rdIn r lo hi).2 = (m : Int)
    | none => rdErr (rdIn r lo hi).1 ≠ 0 := by
  have h1 := rdNum_at h hD hl
  unfold rin rdIn
  cases hv : vd 0 l with
  | none =>
    rw [hv] at h1
    dsimp only at h1 ⊢
    have : (rdErr (rdNum r).1 != 0) = true := by simpa using h1
    rw [this]; exact h1
  | some q =>
    obtain ⟨m, rest⟩ := q
    rw [hv] at h1
    dsimp only at h1 ⊢
    obtain ⟨h2, h3⟩ := h1
    rw [h2.err0, h3]
    simp only [bne_self_eq_false, cond_false]
    have hml := vd_lt (fun x hx => hD x (h.suf.subset hx)) hv
    rw [bif3]
    by_cases hc : (m : Int) ≤ 4611686018427387904 ∧ lo ≤ (m : Int) ∧ (m : Int) ≤ hi
    · have hw : IntKind.i64.wrap (m : Int) = (m : Int) := by have := wrapI (m : Int); omega
      have : (decide ((m : Int) > 4611686018427387904) || decide (IntKind.i64.wrap (m : Int) < lo) || decide (IntKind.i64.wrap (m : Int) > hi)) = false := by
        rw [hw]; simp only [Bool.or_eq_false_iff, decide_eq_false_iff_not]; omega
      rw [if_pos hc, this]
      exact ⟨h2, hw⟩
    · have : (decide ((m : Int) > 4611686018427387904) || decide (IntKind.i64.wrap (m : Int) < lo) || decide (IntKind.i64.wrap (m : Int) > hi)) = true := by
        rcases Int.lt_or_le 4611686018427387904 (m : Int) with hgt | hle
        · simp [hgt]
        · have hw : IntKind.i64.wrap (m : Int) = (m : Int) := by have := wrapI (m : Int); omega
          rw [hw]; simp only [Bool.or_eq_true, decide_eq_true_eq]; omega
      rw [if_neg hc, this]
      show rdErr (rdStop (rdNum r).1 _ 5) ≠ 0
      unfold rdStop rdErr
      rw [h2.err]
      show (bif !(rdNum r).1.made then (6 : Int) else 5) ≠ 0
      rw [h2.made]; decide
theorem rdIn_err {r : Reader} (lo hi : Int) (h : rdErr r ≠ 0) : rdErr (rdIn r lo hi).1 ≠ 0 := by
  have e : (rdErr r != 0) = true := by simpa using h
  unfold rdIn
  rw [rdNum_err r e]
  dsimp only
  rw [e]
  exact h
theorem rdEnd_at {r : Reader} {D l : List Int} (h : RdAt r D l) : (rdEnd r != 0) = !l.isEmpty := by
  unfold rdEnd
  rw [h.err0]
  have h2 := h.suf.length_le
  have h3 := h.at'
  rw [h.b]
  cases l with
  | nil =>
    have : decide (r.at_ < (D.length : Int)) = false := decide_eq_false (by simp at h3; omega)
    rw [this]; rfl
  | cons x l =>
    have : decide (r.at_ < (D.length : Int)) = true := decide_eq_true (by simp at h3; omega)
    rw [this]; rfl
theorem rdEnd_err {r : Reader} (h : rdErr r ≠ 0) : (rdEnd r != 0) = true := by
  have e : (rdErr r != 0) = true := by simpa using h
  unfold rdEnd
  rw [e]; exact e
end Go.Proofs.Ytpgenmflgdkfiaa
/- What the reference's readers of bytes read, in plain words. No conditions. -/
namespace Go.Proofs.Ytpgenmflgdkfiaa
open Go.Am
theorem step_add {acc low i : Nat} {step : Int} (hi : i ≤ 9) (hst : step = ((128 ^ i : Nat) : Int)) (hacc : acc < 128 ^ i) (h2 : low * 128 ^ i < 18446744073709551616) : IntKind.u64.wrap ((acc : Int) + IntKind.u64.wrap ((low : Int) * step)) = (((acc + low * 128 ^ i) % 18446744073709551616 : Nat) : Int) := by
  have e : (low : Int) * step = ((low * 128 ^ i : Nat) : Int) := by rw [hst]; simp
  rw [e, wrapU, wrapU]
  omega
theorem acc64 {x i acc : Nat} (hi : i ≤ 9) (h1 : acc < 128 ^ i) (h2 : ¬ ((i = 9 ∧ 1 < x % 128) ∨ 9 < i)) : acc + x % 128 * 128 ^ i < 18446744073709551616 := by
  rcases Nat.lt_or_ge i 9 with h9 | h9
  · have h3 := acc_le (x := x) h1
    have : 128 ^ (i + 1) ≤ 9223372036854775808 := Nat.le_trans (Nat.pow_le_pow_right (by decide) (show i + 1 ≤ 9 by omega)) (by decide)
    omega
  · have hi9 : i = 9 := by omega
    subst hi9
    have h6 : (128 : Nat) ^ 9 = 9223372036854775808 := by decide
    rw [h6] at h1 ⊢
    omega
theorem rrNum_l0_eq {D : List Int} (hD : ∀ x ∈ D, 0 ≤ x ∧ x < 256) (hl : D.length ≤ 1000000) (r : Reader94) (hb : r.b.D = D) (h0 : 0 ≤ r.at_) (h1 : r.at_ ≤ (D.length : Int)) (he : r.e_ = 0) : ∀ (k i acc : Nat) (step : Int), k + i = 10 → r.at_.toNat + i ≤ D.length → step = IntKind.u64.wrap ((128 ^ i : Nat) : Int) → acc < 128 ^ i →
    match vd i (D.drop (r.at_.toNat + i)) with
    | some (m, rest) => rrNum_l0 r (k + 1) i (acc : Int) step = (Reader94.mk r.b ((D.length : Int) - rest.length) 0, ((acc + m * 128 ^ i : Nat) : Int))
    | none => (rrNum_l0 r (k + 1) i (acc : Int) step).1.e_ ≠ 0
  | k, i, acc, step, hk, hle, hst, hacc => by
    have hwi := wrapI (r.at_ + (i : Int))
    have hw : IntKind.i64.wrap (r.at_ + (i : Int)) = r.at_ + (i : Int) := by omega
    unfold rrNum_l0
    rw [hw, hb]
    by_cases hat : r.at_.toNat + i = D.length
    · have e : decide (r.at_ + (i : Int) ≥ (D.length : Int)) = true := decide_eq_true (by omega)
      rw [List.drop_eq_nil_of_le (by omega), vd, e]
      exact (by decide : (2 : Int) ≠ 0)
    · have e : decide (r.at_ + (i : Int) ≥ (D.length : Int)) = false := decide_eq_false (by omega)
      obtain ⟨x, hx⟩ : ∃ x, D[r.at_.toNat + i]? = some x := ⟨_, List.getElem?_eq_getElem (by omega)⟩
      have hxb := hD x (List.mem_of_getElem? hx)
      have hx2 : D[(r.at_ + (i : Int)).toNat]! = x := by rw [show (r.at_ + (i : Int)).toNat = r.at_.toNat + i by omega]; exact getBang hx
      have hw2 : IntKind.i64.wrap (r.at_ + (i : Int) + 1) = r.at_ + (i : Int) + 1 := by have := wrapI (r.at_ + (i : Int) + 1); omega
      have hlow : IntKind.u64.wrap (x.tmod 128) = ((x.toNat % 128 : Nat) : Int) := by rw [wrapU, Int.tmod_eq_emod_of_nonneg hxb.1]; omega
      have hc : ((((i : Int) == 9) && decide (((x.toNat % 128 : Nat) : Int) > 1)) || ((i : Int) == 10)) = decide ((i = 9 ∧ 1 < x.toNat % 128) ∨ 9 < i) := by
        rw [Bool.eq_iff_iff]
        simp only [Bool.or_eq_true, Bool.and_eq_true, beq_iff_eq, decide_eq_true_eq]
        omega
      have hd : ((x == 0) && decide ((i : Int) > 0)) = decide (x = 0 ∧ 0 < i) := by
        rw [Bool.eq_iff_iff]
        simp only [Bool.and_eq_true, beq_iff_eq, decide_eq_true_eq]
        omega
      rw [drop_at hx, vd, e, cond_false, hx2, hlow, hw2, bif_num2, hc, hd]
      by_cases c1 : (i = 9 ∧ 1 < x.toNat % 128) ∨ 9 < i
      · rw [if_pos c1, decide_eq_true c1]
        exact (by decide : (5 : Int) ≠ 0)
      · rw [if_neg c1, decide_eq_false c1, cond_false]
        by_cases c2 : x = 0 ∧ 0 < i
        · rw [if_pos c2, decide_eq_true c2]
          exact (by decide : (10 : Int) ≠ 0)
        · rw [if_neg c2, decide_eq_false c2, cond_false]
          have hp : 128 ^ i ≤ 9223372036854775808 := Nat.le_trans (Nat.pow_le_pow_right (by decide) (show i ≤ 9 by omega)) (by decide)
          have hst' : step = ((128 ^ i : Nat) : Int) := by rw [hst, wrapU]; omega
          rw [step_add (by omega) hst' hacc (low_le c1), Nat.mod_eq_of_lt (acc64 (by omega) hacc c1)]
          by_cases c3 : x < 128
          · rw [if_pos c3, decide_eq_true c3, cond_true]
            have hx' : x.toNat % 128 = x.toNat := by omega
            show (Reader94.mk r.b (r.at_ + (i : Int) + 1) r.e_, _) = (Reader94.mk r.b ((D.length : Int) - ((D.drop (r.at_.toNat + i + 1)).length : Int)) 0, _)
            rw [he, hx', List.length_drop]
            have : r.at_ + (i : Int) + 1 = (D.length : Int) - ((D.length - (r.at_.toNat + i + 1) : Nat) : Int) := by omega
            rw [this]
          · rw [if_neg c3, decide_eq_false c3, cond_false]
            have hsw : IntKind.u64.wrap (step * 128) = IntKind.u64.wrap ((128 ^ (i + 1) : Nat) : Int) := by
              have : step * 128 = ((128 ^ (i + 1) : Nat) : Int) := by rw [hst', Nat.pow_succ]; simp
              rw [this]
            obtain ⟨k', rfl⟩ : ∃ k', k = k' + 1 := ⟨k - 1, by omega⟩
            have ih := rrNum_l0_eq hD hl r hb h0 h1 he k' (i + 1) (acc + x.toNat % 128 * 128 ^ i) (IntKind.u64.wrap (step * 128)) (by omega) (by omega) hsw (acc_le hacc)
            rw [show r.at_.toNat + (i + 1) = r.at_.toNat + i + 1 by omega] at ih
            cases hv : vd (i + 1) (D.drop (r.at_.toNat + i + 1)) with
            | none => rw [hv] at ih; exact ih
            | some q =>
              obtain ⟨m, rest⟩ := q
              rw [hv] at ih
              dsimp only at ih ⊢
              rw [ih]
              have : acc + x.toNat % 128 * 128 ^ i + m * 128 ^ (i + 1) = acc + (x.toNat % 128 + 128 * m) * 128 ^ i := by
                rw [Nat.pow_succ, Nat.add_mul, Nat.mul_comm (128 ^ i) 128, ← Nat.mul_assoc, Nat.mul_comm m 128]; omega
              rw [this]
termination_by k => k
/-- A reader of the reference, likewise. -/
structure RrAt (r : Reader94) (D l : List Int) : Prop where
  b : r.b.D = D
  err : r.e_ = 0
  suf : l <:+ D
  at' : r.at_ = (D.length : Int) - l.length
theorem RrAt.drop {r : Reader94} {D l : List Int} (h : RrAt r D l) : D.drop r.at_.toNat = l := by
  have h1 := List.suffix_iff_eq_drop.1 h.suf
  have h2 := h.suf.length_le
  have : r.at_.toNat = D.length - l.length := by have := h.at'; omega
  rw [this]; exact h1.symm
theorem rrNum_at {r : Reader94} {D l : List Int} (h : RrAt r D l) (hD : ∀ x ∈ D, 0 ≤ x ∧ x < 256) (hl : D.length ≤ 1000000) :
    match vd 0 l with
    | some (m, rest) => RrAt (rrNum r).1 D rest ∧ (rrNum r).2 = (m : Int)
    | none => (rrNum r).1.e_ ≠ 0 := by
  have h2 := h.suf.length_le
  have h3 := h.at'
  have key := rrNum_l0_eq hD hl r h.b (by omega) (by omega) h.err 10 0 0 1 (by decide) (by omega) (by decide) (by decide)
  rw [show r.at_.toNat + 0 = r.at_.toNat from rfl, h.drop] at key
  unfold rrNum
  rw [h.err]
  simp only [bne_self_eq_false, cond_false]
  cases hv : vd 0 l with
  | none => rw [hv] at key; exact key
  | some q =>
    obtain ⟨m, rest⟩ := q
    rw [hv] at key
    dsimp only at key ⊢
    have key' : rrNum_l0 r 11 0 0 1 = _ := key
    rw [key']
    refine ⟨⟨h.b, rfl, (vd_suffix 0 l m rest hv).trans h.suf, rfl⟩, ?_⟩
    simp
theorem rrIn_at {r : Reader94} {D l : List Int} (lo hi : Int) (h : RrAt r D l) (hD : ∀ x ∈ D, 0 ≤ x ∧ x < 256) (hl : D.length ≤ 1000000) :
    match rin lo hi l with
    | some (m, rest) => RrAt (rrIn r lo hi).1 D rest ∧ (rrIn r lo hi).2 = (m : Int)
    | none => (rrIn r lo hi).1.e_ ≠ 0 := by
  have h1 := rrNum_at h hD hl
  unfold rin rrIn
  cases hv : vd 0 l with
  | none =>
    rw [hv] at h1
    dsimp only at h1 ⊢
    have e1 : ((rrNum r).1.e_ == 0) = false := by simpa using h1
    have e2 : ((rrNum r).1.e_ != 0) = true := by simpa using h1
    rw [e1, e2]; exact h1
  | some q =>
    obtain ⟨m, rest⟩ := q
    rw [hv] at h1
    dsimp only at h1 ⊢
    obtain ⟨h2, h3⟩ := h1
    have e1 : ((rrNum r).1.e_ == 0) = true := by simpa using h2.err
    have e2 : ((rrNum r).1.e_ != 0) = false := by simpa using h2.err
    have e5 : ((5 : Int) != 0) = true := by decide
    rw [e1, e2, e5, h3]
    simp only [cond_true, cond_false]
    have hml := vd_lt (fun x hx => hD x (h.suf.subset hx)) hv
    rw [bif3]
    by_cases hc : (m : Int) ≤ 4611686018427387904 ∧ lo ≤ (m : Int) ∧ (m : Int) ≤ hi
    · have hw : IntKind.i64.wrap (m : Int) = (m : Int) := by have := wrapI (m : Int); omega
      have : (decide ((m : Int) > 4611686018427387904) || decide (IntKind.i64.wrap (m : Int) < lo) || decide (IntKind.i64.wrap (m : Int) > hi)) = false := by
        rw [hw]; simp only [Bool.or_eq_false_iff, decide_eq_false_iff_not]; omega
      rw [if_pos hc, this]
      exact ⟨h2, hw⟩
    · have : (decide ((m : Int) > 4611686018427387904) || decide (IntKind.i64.wrap (m : Int) < lo) || decide (IntKind.i64.wrap (m : Int) > hi)) = true := by
        rcases Int.lt_or_le 4611686018427387904 (m : Int) with hgt | hle
        · simp [hgt]
        · have hw : IntKind.i64.wrap (m : Int) = (m : Int) := by have := wrapI (m : Int); omega
          rw [hw]; simp only [Bool.or_eq_true, decide_eq_true_eq]; omega
      rw [if_neg hc, this]
      exact (by decide : (5 : Int) ≠ 0)
theorem rrIn_err {r : Reader94} (lo hi : Int) (h : r.e_ ≠ 0) : (rrIn r lo hi).1.e_ ≠ 0 := by
  have e : (r.e_ != 0) = true := by simpa using h
  have e1 : (r.e_ == 0) = false := by simpa using h
  unfold rrIn rrNum
  rw [e]
  dsimp only [cond_true]
  rw [e1, e]
  exact h
theorem rrEnd_at {r : Reader94} {D l : List Int} (h : RrAt r D l) : (rrEnd r != 0) = !l.isEmpty := by
  unfold rrEnd
  have e1 : (r.e_ == 0) = true := by simpa using h.err
  rw [e1, h.err]
  have h2 := h.suf.length_le
  have h3 := h.at'
  rw [h.b]
  cases l with
  | nil =>
    have : decide (r.at_ < (D.length : Int)) = false := decide_eq_false (by simp at h3; omega)
    rw [this]; rfl
  | cons x l =>
    have : decide (r.at_ < (D.length : Int)) = true := decide_eq_true (by simp at h3; omega)
    rw [this]; rfl
theorem rrEnd_err {r : Reader94} (h : r.e_ ≠ 0) : (rrEnd r != 0) = true := by
  have e : (r.e_ != 0) = true := by simpa using h
  have e1 : (r.e_ == 0) = false := by simpa using h
  unfold rrEnd
  rw [e1]; exact e
end Go.Proofs.Ytpgenmflgdkfiaa
/- Commands as bytes, in plain words. No conditions. -/
namespace Go.Proofs.Ytpgenmflgdkfiaa
open Go.Am
/-- May a command be? -/
def okC (c : Command) : Prop := (1 ≤ c.epoch ∧ c.epoch ≤ 1099511627776) ∧ (((c.kind = 1 ∨ c.kind = 3 ∨ c.kind = 4) ∧ (0 ≤ c.node ∧ c.node < 6) ∧ c.site = 0) ∨ (c.kind = 2 ∧ (0 ≤ c.node ∧ c.node < 6) ∧ (0 ≤ c.site ∧ c.site < 3)) ∨ (c.kind = 5 ∧ c.node = 0 ∧ (0 ≤ c.site ∧ c.site < 3)))
theorem cmdCheck_spec (c : Command) : (cmdCheck c = 0 ∧ okC c) ∨ (cmdCheck c = 120 ∧ ¬ okC c) := by
  obtain ⟨k, n, s, e⟩ := c
  unfold cmdCheck okC
  simp only [Bool.cond_eq_ite, decide_eq_true_eq, beq_iff_eq, Bool.not_eq_true', beq_eq_false_iff_ne, decide_eq_false_iff_not, ne_eq]
  repeat' split
  all_goals omega
theorem rCmdCheck_spec (c : Command) : (rCmdCheck c = 0 ∧ okC c) ∨ (rCmdCheck c = 120 ∧ ¬ okC c) := by
  obtain ⟨k, n, s, e⟩ := c
  unfold rCmdCheck okC
  simp only [Bool.cond_eq_ite, decide_eq_true_eq, beq_iff_eq, Bool.not_eq_true', beq_eq_false_iff_ne, decide_eq_false_iff_not, ne_eq, bne_iff_ne]
  repeat' split
  all_goals omega
theorem cmdCheck_eq (c : Command) : cmdCheck c = rCmdCheck c := by
  rcases cmdCheck_spec c with h | h <;> rcases rCmdCheck_spec c with g | g
  · rw [h.1, g.1]
  · exact absurd h.2 g.2
  · exact absurd g.2 h.2
  · rw [h.1, g.1]
def get4 (h1 h2 h3 h4 : Int) (D : List Int) : Option Command :=
  match rin 0 h1 D with
  | none => none
  | some (k, l1) => match rin 0 h2 l1 with
    | none => none
    | some (n, l2) => match rin 0 h3 l2 with
      | none => none
      | some (s, l3) => match rin 0 h4 l3 with
        | none => none
        | some (e, l4) => bif l4.isEmpty then some ⟨k, n, s, e⟩ else none
def zeroC : Command := ⟨0, 0, 0, 0⟩
def asked (o : Option Command) : Command × Int :=
  match o with
  | some c => bif cmdCheck c != 0 then (zeroC, 120) else (c, 0)
  | none => (zeroC, 120)
theorem cmdGet_eq (b : Sl Int) (hD : ∀ x ∈ b.D, 0 ≤ x ∧ x < 256) (hl : b.D.length ≤ 1000000) : cmdGet b = asked (get4 99 6 3 1099511627776 b.D) := by
  have h0 : RdAt (rdNew b) b.D b.D := ⟨rfl, rfl, rfl, List.suffix_refl _, by show (0 : Int) = _; omega⟩
  unfold cmdGet get4
  have k1 := rdIn_at 0 99 h0 hD hl
  generalize rdIn (rdNew b) 0 99 = q1 at k1 ⊢
  cases e1 : rin 0 99 b.D with
  | none =>
    rw [e1] at k1
    have := rdEnd_err (rdIn_err 0 1099511627776 (rdIn_err 0 3 (rdIn_err 0 6 k1)))
    rw [this]; rfl
  | some p1 =>
    obtain ⟨n1, l1⟩ := p1
    rw [e1] at k1
    obtain ⟨a1, v1⟩ := k1
    dsimp only
    have k2 := rdIn_at 0 6 a1 hD hl
    generalize rdIn q1.1 0 6 = q2 at k2 ⊢
    cases e2 : rin 0 6 l1 with
    | none =>
      rw [e2] at k2
      have := rdEnd_err (rdIn_err 0 1099511627776 (rdIn_err 0 3 k2))
      rw [this]; rfl
    | some p2 =>
      obtain ⟨n2, l2⟩ := p2
      rw [e2] at k2
      obtain ⟨a2, v2⟩ := k2
      dsimp only
      have k3 := rdIn_at 0 3 a2 hD hl
      generalize rdIn q2.1 0 3 = q3 at k3 ⊢
      cases e3 : rin 0 3 l2 with
      | none =>
        rw [e3] at k3
        have := rdEnd_err (rdIn_err 0 1099511627776 k3)
        rw [this]; rfl
      | some p3 =>
        obtain ⟨n3, l3⟩ := p3
        rw [e3] at k3
        obtain ⟨a3, v3⟩ := k3
        dsimp only
        have k4 := rdIn_at 0 1099511627776 a3 hD hl
        generalize rdIn q3.1 0 1099511627776 = q4 at k4 ⊢
        cases e4 : rin 0 1099511627776 l3 with
        | none =>
          rw [e4] at k4
          have := rdEnd_err k4
          rw [this]; rfl
        | some p4 =>
          obtain ⟨n4, l4⟩ := p4
          rw [e4] at k4
          obtain ⟨a4, v4⟩ := k4
          dsimp only
          rw [rdEnd_at a4, v1, v2, v3, v4]
          cases l4 with
          | nil => rfl
          | cons x l => rfl
theorem rCmdGet_eq (b : Sl Int) (hD : ∀ x ∈ b.D, 0 ≤ x ∧ x < 256) (hl : b.D.length ≤ 1000000) : rCmdGet b = asked (get4 1099511627776 1099511627776 1099511627776 1099511627776 b.D) := by
  have h0 : RrAt (Reader94.mk b 0 0) b.D b.D := ⟨rfl, rfl, List.suffix_refl _, by show (0 : Int) = _; omega⟩
  unfold rCmdGet get4
  simp only [rCmdGet_l0]
  have k1 := rrIn_at 0 1099511627776 h0 hD hl
  generalize rrIn (Reader94.mk b 0 0) 0 1099511627776 = q1 at k1 ⊢
  cases e1 : rin 0 1099511627776 b.D with
  | none =>
    rw [e1] at k1
    have := rrEnd_err (rrIn_err 0 1099511627776 (rrIn_err 0 1099511627776 (rrIn_err 0 1099511627776 k1)))
    rw [this]; rfl
  | some p1 =>
    obtain ⟨n1, l1⟩ := p1
    rw [e1] at k1
    obtain ⟨a1, v1⟩ := k1
    dsimp only
    have k2 := rrIn_at 0 1099511627776 a1 hD hl
    generalize rrIn q1.1 0 1099511627776 = q2 at k2 ⊢
    cases e2 : rin 0 1099511627776 l1 with
    | none =>
      rw [e2] at k2
      have := rrEnd_err (rrIn_err 0 1099511627776 (rrIn_err 0 1099511627776 k2))
      rw [this]; rfl
    | some p2 =>
      obtain ⟨n2, l2⟩ := p2
      rw [e2] at k2
      obtain ⟨a2, v2⟩ := k2
      dsimp only
      have k3 := rrIn_at 0 1099511627776 a2 hD hl
      generalize rrIn q2.1 0 1099511627776 = q3 at k3 ⊢
      cases e3 : rin 0 1099511627776 l2 with
      | none =>
        rw [e3] at k3
        have := rrEnd_err (rrIn_err 0 1099511627776 k3)
        rw [this]; rfl
      | some p3 =>
        obtain ⟨n3, l3⟩ := p3
        rw [e3] at k3
        obtain ⟨a3, v3⟩ := k3
        dsimp only
        have k4 := rrIn_at 0 1099511627776 a3 hD hl
        generalize rrIn q3.1 0 1099511627776 = q4 at k4 ⊢
        cases e4 : rin 0 1099511627776 l3 with
        | none =>
          rw [e4] at k4
          have := rrEnd_err k4
          rw [this]; rfl
        | some p4 =>
          obtain ⟨n4, l4⟩ := p4
          rw [e4] at k4
          obtain ⟨a4, v4⟩ := k4
          dsimp only
          rw [rrEnd_at a4, v1, v2, v3, v4]
          have hc : rCmdCheck ⟨n1, n2, n3, n4⟩ = cmdCheck ⟨n1, n2, n3, n4⟩ := (cmdCheck_eq _).symm
          cases l4 with
          | nil =>
            show (bif rCmdCheck ⟨n1, n2, n3, n4⟩ != 0 then _ else _) = _
            rw [hc]; rfl
          | cons x l => rfl
end Go.Proofs.Ytpgenmflgdkfiaa
/- The law of commands. No conditions. -/
namespace Go.Proofs.Ytpgenmflgdkfiaa
open Go.Am
theorem rin_some {hi : Int} {l : List Int} {n : Nat} {r : List Int} : rin 0 hi l = some (n, r) ↔ vd 0 l = some (n, r) ∧ (n : Int) ≤ 4611686018427387904 ∧ (n : Int) ≤ hi := by
  unfold rin
  cases vd 0 l with
  | none => simp
  | some q =>
    obtain ⟨m, t⟩ := q
    dsimp only
    by_cases hc : (m : Int) ≤ 4611686018427387904 ∧ (0 : Int) ≤ (m : Int) ∧ (m : Int) ≤ hi
    · rw [if_pos hc]
      constructor
      · intro h; cases h; exact ⟨rfl, hc.1, hc.2.2⟩
      · intro h; exact h.1
    · rw [if_neg hc]
      constructor
      · intro h; cases h
      · rintro ⟨h, h2, h3⟩; cases h; exact absurd ⟨h2, Int.natCast_nonneg _, h3⟩ hc
theorem get4_some {h1 h2 h3 h4 : Int} {D : List Int} {c : Command} : get4 h1 h2 h3 h4 D = some c ↔ ∃ n1 n2 n3 n4 l1 l2 l3, rin 0 h1 D = some (n1, l1) ∧ rin 0 h2 l1 = some (n2, l2) ∧ rin 0 h3 l2 = some (n3, l3) ∧ rin 0 h4 l3 = some (n4, []) ∧ c = ⟨(n1 : Nat), (n2 : Nat), (n3 : Nat), (n4 : Nat)⟩ := by
  unfold get4
  constructor
  · intro h
    split at h
    · cases h
    · rename_i n1 l1 e1
      split at h
      · cases h
      · rename_i n2 l2 e2
        split at h
        · cases h
        · rename_i n3 l3 e3
          split at h
          · cases h
          · rename_i n4 l4 e4
            cases l4 with
            | nil => cases h; exact ⟨n1, n2, n3, n4, l1, l2, l3, e1, e2, e3, e4, rfl⟩
            | cons x l => cases h
  · rintro ⟨n1, n2, n3, n4, l1, l2, l3, e1, e2, e3, e4, rfl⟩
    simp [e1, e2, e3, e4]
theorem get4_to {D : List Int} {c : Command} (h : get4 99 6 3 1099511627776 D = some c) : get4 1099511627776 1099511627776 1099511627776 1099511627776 D = some c := by
  obtain ⟨n1, n2, n3, n4, l1, l2, l3, e1, e2, e3, e4, rfl⟩ := get4_some.1 h
  rw [rin_some] at e1 e2 e3
  exact get4_some.2 ⟨n1, n2, n3, n4, l1, l2, l3, rin_some.2 ⟨e1.1, e1.2.1, by omega⟩, rin_some.2 ⟨e2.1, e2.2.1, by omega⟩, rin_some.2 ⟨e3.1, e3.2.1, by omega⟩, e4, rfl⟩
theorem get4_back {D : List Int} {c : Command} (h : get4 1099511627776 1099511627776 1099511627776 1099511627776 D = some c) (hc : okC c) : get4 99 6 3 1099511627776 D = some c := by
  obtain ⟨n1, n2, n3, n4, l1, l2, l3, e1, e2, e3, e4, rfl⟩ := get4_some.1 h
  rw [rin_some] at e1 e2 e3
  unfold okC at hc
  dsimp only at hc
  exact get4_some.2 ⟨n1, n2, n3, n4, l1, l2, l3, rin_some.2 ⟨e1.1, e1.2.1, by omega⟩, rin_some.2 ⟨e2.1, e2.2.1, by omega⟩, rin_some.2 ⟨e3.1, e3.2.1, by omega⟩, e4, rfl⟩
theorem get_eq (b : Sl Int) (hD : ∀ x ∈ b.D, 0 ≤ x ∧ x < 256) (hl : b.D.length ≤ 1000000) : cmdGet b = rCmdGet b := by
  rw [cmdGet_eq b hD hl, rCmdGet_eq b hD hl]
  cases h : get4 99 6 3 1099511627776 b.D with
  | some c => rw [get4_to h]
  | none =>
    cases h2 : get4 1099511627776 1099511627776 1099511627776 1099511627776 b.D with
    | none => rfl
    | some c =>
      unfold asked
      have : (cmdCheck c != 0) = true := by
        rcases cmdCheck_spec c with g | g
        · rw [get4_back h2 g.2] at h; cases h
        · rw [g.1]; rfl
      dsimp only
      rw [this]; rfl
/-- A command's bytes. -/
def cb (c : Command) : List Int := vb c.kind.toNat ++ (vb c.node.toNat ++ (vb c.site.toNat ++ vb c.epoch.toNat))
theorem wrapU_id {x : Int} (h : 0 ≤ x) (h2 : x < 18446744073709551616) : IntKind.u64.wrap x = x := by rw [wrapU]; omega
theorem cmdPut_eq (c : Command) : cmdPut c = bif cmdCheck c != 0 then (Sl.mk true [], cmdCheck c) else (Sl.mk false (cb c), 0) := by
  unfold cmdPut
  rcases cmdCheck_spec c with ⟨h, hk⟩ | ⟨h, hk⟩
  · rw [h]
    unfold okC at hk
    simp only [bne_self_eq_false, cond_false]
    rw [wrapU_id (x := c.kind) (by omega) (by omega), wrapU_id (x := c.node) (by omega) (by omega), wrapU_id (x := c.site) (by omega) (by omega), wrapU_id (x := c.epoch) (by omega) (by omega)]
    rw [wPut_eq _ c.kind (by omega), wPut_eq _ c.node (by omega), wPut_eq _ c.site (by omega), wPut_eq _ c.epoch (by omega)]
    simp [cb]
  · rw [h]; rfl
theorem rCmdPut_eq (c : Command) : rCmdPut c = bif cmdCheck c != 0 then (Sl.mk true [], cmdCheck c) else (Sl.mk false (cb c), 0) := by
  unfold rCmdPut
  rw [← cmdCheck_eq]
  rcases cmdCheck_spec c with ⟨h, hk⟩ | ⟨h, hk⟩
  · rw [h]
    unfold okC at hk
    simp only [bne_self_eq_false, cond_false]
    rw [wrapU_id (x := c.kind) (by omega) (by omega), wrapU_id (x := c.node) (by omega) (by omega), wrapU_id (x := c.site) (by omega) (by omega), wrapU_id (x := c.epoch) (by omega) (by omega)]
    unfold rPut
    rw [rPut_l0_eq _ 0 _ (fun x hx => by
      simp only [List.mem_cons, List.not_mem_nil, or_false] at hx
      rcases hx with rfl | rfl | rfl | rfl <;> omega)]
    simp [cb, vbs]
  · rw [h]; rfl
theorem put_eq (c : Command) : cmdPut c = rCmdPut c := by rw [cmdPut_eq, rCmdPut_eq]
theorem vb_bytes : ∀ (n : Nat), ∀ x ∈ vb n, 0 ≤ x ∧ x < 256 := by
  intro n
  induction n using Nat.strongRecOn with
  | _ n ih =>
    intro x hx
    rcases Nat.lt_or_ge n 128 with hn | hn
    · rw [vb_lt hn] at hx
      simp only [List.mem_singleton] at hx
      omega
    · rw [vb_ge hn] at hx
      cases hx with
      | head => omega
      | tail _ hx => exact ih (n / 128) (by omega) x hx
theorem cb_bytes (c : Command) : ∀ x ∈ cb c, 0 ≤ x ∧ x < 256 := by
  intro x hx
  simp only [cb, List.mem_append] at hx
  rcases hx with h | h | h | h <;> exact vb_bytes _ x h
theorem get_put {c : Command} (h : okC c) : get4 99 6 3 1099511627776 (cb c) = some c := by
  obtain ⟨k, n, s, e⟩ := c
  unfold okC at h
  dsimp only at h
  have key : ∀ {x : Int} {r : List Int}, 0 ≤ x → x < 18446744073709551616 → vd 0 (vb x.toNat ++ r) = some (x.toNat, r) := fun {x r} h0 h1 => vb_vd x.toNat 0 r (by simp; omega) (fun h => by omega)
  have hk : 0 ≤ k ∧ k ≤ 5 := by omega
  have hn : 0 ≤ n ∧ n ≤ 5 := by omega
  have hs : 0 ≤ s ∧ s ≤ 2 := by omega
  have he : 0 ≤ e ∧ e ≤ 1099511627776 := by omega
  have k4 : vd 0 (vb e.toNat) = some (e.toNat, []) := by have := key (x := e) (r := []) he.1 (by omega); rwa [List.append_nil] at this
  refine get4_some.2 ⟨k.toNat, n.toNat, s.toNat, e.toNat, _, _, _, rin_some.2 ⟨key (x := k) hk.1 (by omega), by omega, by omega⟩, rin_some.2 ⟨key (x := n) hn.1 (by omega), by omega, by omega⟩, rin_some.2 ⟨key (x := s) hs.1 (by omega), by omega, by omega⟩, rin_some.2 ⟨k4, by omega, by omega⟩, ?_⟩
  rw [show ((k.toNat : Nat) : Int) = k by omega, show ((n.toNat : Nat) : Int) = n by omega, show ((s.toNat : Nat) : Int) = s by omega, show ((e.toNat : Nat) : Int) = e by omega]
theorem put_get {D : List Int} (hD : ∀ x ∈ D, 0 ≤ x ∧ x < 256) {c : Command} (h : get4 99 6 3 1099511627776 D = some c) : D = cb c := by
  obtain ⟨n1, n2, n3, n4, l1, l2, l3, e1, e2, e3, e4, rfl⟩ := get4_some.1 h
  rw [rin_some] at e1 e2 e3 e4
  have s1 := vd_suffix 0 D n1 l1 e1.1
  have s2 := vd_suffix 0 l1 n2 l2 e2.1
  have s3 := vd_suffix 0 l2 n3 l3 e3.1
  have d1 := (vd_vb 0 D n1 l1 hD e1.1).1
  have d2 := (vd_vb 0 l1 n2 l2 (fun x hx => hD x (s1.subset hx)) e2.1).1
  have d3 := (vd_vb 0 l2 n3 l3 (fun x hx => hD x (s1.subset (s2.subset hx))) e3.1).1
  have d4 := (vd_vb 0 l3 n4 [] (fun x hx => hD x (s1.subset (s2.subset (s3.subset hx)))) e4.1).1
  rw [d1, d2, d3, d4]
  simp [cb]
theorem eqBytes_self {a b : Sl Int} (h : a.D = b.D) : eqBytes a b = true := by
  unfold eqBytes; rw [h]; exact beq_self_eq_true _
theorem awake_true : awake = true := by decide +kernel
theorem lawCommands_true (c : Command) (b : Sl Int) (hD : ∀ x ∈ b.D, 0 ≤ x ∧ x < 256) : lawCommands c b = true := by
  unfold lawCommands
  cases hlen : decide ((b.D.length : Int) > 4096)
  · have hl : b.D.length ≤ 1000000 := by have := of_decide_eq_false hlen; omega
    rw [cmdCheck_eq c, put_eq c, get_eq b hD hl]
    have hz : ((rCmdCheck c) != (rCmdCheck c)) = false := by simp
    have e1 : eqBytes (rCmdPut c).1 (rCmdPut c).1 = true := eqBytes_self rfl
    have e2 : ((rCmdPut c).2 != (rCmdPut c).2) = false := by simp
    have e3 : ((rCmdGet b).2 != (rCmdGet b).2) = false := by simp
    rw [hz, e1, e2, e3, awake_true]
    simp only [cond_false, Bool.not_true, beq_self_eq_true, Bool.and_self]
    -- what is put is got
    have p1 : ((rCmdPut c).2 == 0) = true → cmdGet (rCmdPut c).1 = (c, 0) := fun h => by
      rw [rCmdPut_eq] at h ⊢
      rcases cmdCheck_spec c with ⟨g, hk⟩ | ⟨g, hk⟩
      · rw [g]
        show cmdGet (Sl.mk false (cb c)) = _
        have hlen2 : (cb c).length ≤ 1000000 := by
          have := cmdPut_len c
          rw [cmdPut_eq, g] at this
          have h3 : (cb c).length ≤ 40 := this
          omega
        rw [cmdGet_eq _ (cb_bytes c) hlen2]
        show asked (get4 99 6 3 1099511627776 (cb c)) = _
        rw [get_put hk]
        unfold asked
        dsimp only
        rw [g]; rfl
      · rw [g] at h; cases h
    have p2 : ((rCmdGet b).2 == 0) = true → eqBytes (cmdPut (rCmdGet b).1).1 b = true ∧ (cmdPut (rCmdGet b).1).2 = 0 := fun h => by
      rw [← get_eq b hD hl] at h ⊢
      rw [cmdGet_eq b hD hl] at h ⊢
      cases hg : get4 99 6 3 1099511627776 b.D with
      | none => rw [hg] at h; cases h
      | some k =>
        rw [hg] at h
        unfold asked at h ⊢
        dsimp only at h ⊢
        rcases cmdCheck_spec k with ⟨g, hk⟩ | ⟨g, hk⟩
        · rw [g]
          simp only [bne_self_eq_false, cond_false]
          rw [cmdPut_eq, g]
          exact ⟨eqBytes_self (put_get hD hg).symm, rfl⟩
        · rw [g] at h; cases h
    cases hp : ((rCmdPut c).2 == 0)
    · cases hg : ((rCmdGet b).2 == 0)
      · rfl
      · rw [(p2 hg).1, (p2 hg).2]; rfl
    · rw [p1 hp]
      simp only [beq_self_eq_true, Bool.and_self, Bool.not_true, bne_self_eq_false, cond_false, cond_true]
      cases hg : ((rCmdGet b).2 == 0)
      · rfl
      · rw [(p2 hg).1, (p2 hg).2]; rfl
  · exact awake_true
end Go.Proofs.Ytpgenmflgdkfiaa
/- Inputs of chapter 12, as plain values. No conditions. -/
namespace Go.Proofs.Ytpgenmflgdkfiaa
open Go.Am
set_option maxRecDepth 100000 in
theorem flat3 {m : Nat} {ps : List PV} (h : Flat Try.prog (m + 1) 3 ps) : ∃ n, ps = [.lit (.int .i64 n)] ∧ (Lit.int .i64 n).wf = true := by
  unfold Flat at h
  rw [Try.underlying3] at h
  exact h
def WT25 (x : Command) : Prop := (Lit.int .i64 x.kind).wf = true ∧ (Lit.int .i64 x.node).wf = true ∧ (Lit.int .i64 x.site).wf = true ∧ (Lit.int .i64 x.epoch).wf = true
set_option maxRecDepth 100000 in
theorem flat25 {m : Nat} {ps : List PV} (h : Flat Try.prog (m + 2) 25 ps) : ∃ x : Command, ps = eCommand.enc x ∧ WT25 x := by
  unfold Flat at h
  rw [Try.underlying25] at h
  obtain ⟨a0, b0, e0, h0, a1, b1, e1, h1, a2, b2, e2, h2, a3, b3, e3, h3, el⟩ := h
  obtain ⟨x0, rfl, w0⟩ := flat3 (m := m + 0) h0
  obtain ⟨x1, rfl, w1⟩ := flat3 (m := m + 0) h1
  obtain ⟨x2, rfl, w2⟩ := flat3 (m := m + 0) h2
  obtain ⟨x3, rfl, w3⟩ := flat3 (m := m + 0) h3
  subst el
  subst e3
  subst e2
  subst e1
  subst e0
  exact ⟨⟨x0, x1, x2, x3⟩, rfl, w0, w1, w2, w3⟩
set_option maxRecDepth 100000 in
theorem flat5 {m : Nat} {ps : List PV} (h : Flat Try.prog (m + 1) 5 ps) : ∃ n, ps = [.lit (.int .u8 n)] ∧ (Lit.int .u8 n).wf = true := by
  unfold Flat at h
  rw [Try.underlying5] at h
  exact h
def WT26 (s : Sl Int) : Prop := s.D.length ≤ maxLen ∧ (s.nil = true → s.D = []) ∧ ∀ x ∈ s.D, (Lit.int .u8 x).wf = true
set_option maxRecDepth 100000 in
theorem flat26 {m : Nat} {ps : List PV} (h : Flat Try.prog (m + 2) 26 ps) : ∃ s : Sl Int, ps = [.sl (some s.nil) s.D.length (encL (eI .u8) s.D)] ∧ WT26 s := by
  unfold Flat at h
  rw [Try.underlying26] at h
  obtain ⟨b, D, rfl, h1, h2, h3⟩ := h
  obtain ⟨D2, e1, e2, e3⟩ := enc_list (e := (eI .u8)) (W := fun x => (Lit.int .u8 x).wf = true) D fun y hy => flat5 (h3 y hy)
  rw [e2, ← e1]
  exact ⟨⟨b, D2⟩, rfl, (by show D2.length ≤ _; rw [e1]; exact h1), (fun hb => by have := h2 hb; rw [this] at e1; exact List.eq_nil_of_length_eq_zero e1), e3⟩
end Go.Proofs.Ytpgenmflgdkfiaa
/- The contract of LedgerCommands. No conditions. -/
namespace Go.Proofs.Ytpgenmflgdkfiaa
open Go.Am
theorem byte_of {x : Int} (h : (Lit.int .u8 x).wf = true) : 0 ≤ x ∧ x < 256 := by
  simp [Lit.wf, IntKind.min, IntKind.max, IntKind.bits, IntKind.signed] at h
  omega
theorem ledgerCommands_calls (c : Command) (_ : WT25 c) (b : Sl Int) (w : WT26 b) : PCalls Try.prog 5 [.agg ((eCommand.enc c).map .pv), sS (some b.nil) (eI .u8) b.D] (.pv (.bool true)) := by
  have r := lawCommands_calls c b (Nat.le_trans w.1 (by decide))
  rw [lawCommands_true c b fun x hx => byte_of (w.2.2 x hx)] at r
  exact r
end Go.Proofs.Ytpgenmflgdkfiaa
/- An abstract machine over the kit's calls, part 34: three rows of three numbers that are handed in. No conditions. -/
namespace Go.Am
section
variable {H : Type} {enc : TypeId × Value → H} {P : Program} {w : World} {base : Nat} {spare : Nat → Bool} {held : Bool}
end
end Go.Am
/- What all rows of this seat need: no knob is turned, the types are laid out. No conditions. -/
namespace Go.Proofs.Ytpgenmflgdkfiaa
open Go.Am
theorem own : ownKnob Try.prog.godebug = none := by kernel_rfl
theorem laidOut : laidOutB Try.prog = true := by kernel_rfl
end Go.Proofs.Ytpgenmflgdkfiaa
