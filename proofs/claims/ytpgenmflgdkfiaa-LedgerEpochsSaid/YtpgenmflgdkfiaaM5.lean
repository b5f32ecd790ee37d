import Derived.Test.YtpgenmflgdkfiaaM4
import Derived.Test.YtpgenmflgdkfiaaM2
import Derived.Test.YtpgenmflgdkfiaaM3
/- The chain behind a command: how long it is. No conditions. -/
namespace Go.Proofs.Ytpgenmflgdkfiaa
open Go.Am
/-- A chain of few members; nil has none. -/
def fewC (c : Chain) : Prop := (c.members.nil = true → c.members.D = []) ∧ c.members.D.length ≤ 7
theorem few0 : fewC (Chain.mk 0 (Sl.mk true [])) := ⟨fun _ => rfl, Nat.zero_le _⟩
theorem few_drop (c : Chain) (n : Int) : fewC (drop c n).1 := by
  refine ⟨drop_hn c n, ?_⟩
  by_cases hc : check c = 0
  · have := drop_len c n; have := check_le6 hc; omega
  · have : (check c != 0) = true := by simpa using hc
    unfold drop; rw [this]; exact Nat.zero_le _
theorem dropSite_l0_few (c : Chain) (s : Int) (h : c.members.D.length ≤ 6) : ∀ (l : List Member) (i : Nat) (g : Int), fewC (dropSite_l0 c s l i g).1
  | [], _, g => by
    unfold dropSite_l0
    have := without_len c g
    exact ⟨without_hn c g, by show (without c g).1.members.D.length ≤ 7; omega⟩
  | x :: l, i, g => by
    unfold dropSite_l0
    cases x.site == s
    · exact dropSite_l0_few c s h l _ _
    · exact dropSite_l0_few c s h l _ _
theorem few_dropSite (c : Chain) (s : Int) : fewC (dropSite c s).1 := by
  unfold dropSite
  cases hc : check c != 0
  · exact dropSite_l0_few c s (check_le6 (eq_of_bne_false hc)) _ _ _
  · exact few0
theorem few_join (c : Chain) (m : Member) : fewC (join c m).1 := by
  refine ⟨join_hn c m, ?_⟩
  by_cases hc : check c = 0
  · have := join_len c m; have := check_le6 hc; omega
  · have : (check c != 0) = true := by simpa using hc
    unfold join; rw [this]; exact Nat.zero_le _
theorem few_again (c : Chain) (n : Int) : fewC (again c n).1 := by
  unfold again
  cases hc : check c != 0
  · have h6 := check_le6 (eq_of_bne_false hc)
    cases decide (placeIn c n < 0)
    · cases decide (c.epoch ≥ 1099511627776)
      · exact ⟨fun h => clone_hn _ h, by have := clone_len c.members; show (cloneMembers c.members).D.length ≤ 7; omega⟩
      · exact few0
    · exact few0
  · exact few0
theorem few_ready (c : Chain) (n : Int) : fewC (ready c n).1 := by
  refine ⟨ready_hn c n, ?_⟩
  by_cases hc : check c = 0
  · have := ready_len c n; have := check_le6 hc; omega
  · have : (check c != 0) = true := by simpa using hc
    unfold ready; rw [this]; exact Nat.zero_le _
theorem few_next (c : Chain) (k : Command) : fewC (nextL c k).1 := by
  unfold nextL
  cases k.epoch != c.epoch
  · cases k.kind == 1
    · cases k.kind == 5
      · cases k.kind == 2
        · cases k.kind == 3
          · exact few_ready _ _
          · exact few_again _ _
        · exact few_join _ _
      · exact few_dropSite _ _
    · exact few_drop _ _
  · exact few0
theorem min97 (x : Int) (h : 0 ≤ x) : 0 ≤ (bif (decide ((4097 : Int) < x)) then (4097 : Int) else x) ∧ (bif (decide ((4097 : Int) < x)) then (4097 : Int) else x) ≤ 4097 := by
  cases e : decide ((4097 : Int) < x)
  · have := of_decide_eq_false e; simp only [cond_false]; omega
  · simp only [cond_true]; omega
/-- What is asked of a ledger's chains. -/
def okL (l : Ledger) : Prop := (l.chain.members.nil = true → l.chain.members.D = []) ∧ l.chain.members.D.length ≤ 1000000 ∧ ∀ x ∈ l.past.all.D, x.members.D.length ≤ 1000000
end Go.Proofs.Ytpgenmflgdkfiaa
/- The ledger: commands done. No conditions. -/
namespace Go.Proofs.Ytpgenmflgdkfiaa
open Go.Am
structure Ledger60 where
  c : Chain
  all : (Sl Chain)
  at_ : Int
  deriving Inhabited
structure Do where
  c : Command
  b : (Sl Int)
  raw : Bool
  by_ : Int
  off : Int
  deriving Inhabited
def eDo : Enc Do := ⟨8, fun x => [.lit (.int .i64 x.c.kind), .lit (.int .i64 x.c.node), .lit (.int .i64 x.c.site), .lit (.int .i64 x.c.epoch), .sl (some x.b.nil) x.b.D.length (encL (eI .u8) x.b.D), .lit (.bool x.raw), .lit (.int .i64 x.by_), .lit (.int .i64 x.off)], fun _ => rfl⟩
def lApply (l : Ledger) (index : Int) (data : (Sl Int)) : Ledger × Int :=
  (bif (lDead l) then (l, 6) else (bif (decide (index > 1099511627776)) then (l, 90) else (bif (decide (index < 1)) then (l, 90) else (bif ((IntKind.i64.wrap (index - 1)) != l.at_) then (l, 90) else (bif ((data.D.length : Int) == 0) then ((Ledger.mk l.past l.chain index), 0) else (bif ((cmdGet data).2 != 0) then ((Ledger.mk l.past l.chain index), (cmdGet data).2) else (bif ((nextL l.chain (cmdGet data).1).2 != 0) then ((Ledger.mk l.past l.chain index), (nextL l.chain (cmdGet data).1).2) else (bif (decide ((nextL l.chain (cmdGet data).1).1.epoch > l.chain.epoch)) then ((Ledger.mk (Past.mk (Sl.mk false (l.past.all.D ++ [(copied (nextL l.chain (cmdGet data).1).1)]))) (nextL l.chain (cmdGet data).1).1 index), 0) else ((Ledger.mk l.past (nextL l.chain (cmdGet data).1).1 index), 0)))))))))
theorem lApply_calls (l : Ledger) (index : Int) (data : (Sl Int)) (hn : l.chain.members.nil = true → l.chain.members.D = []) (hl1 : data.D.length ≤ 1000000) (hl2 : l.chain.members.D.length ≤ 1000000) (hl3 : l.past.all.D.length ≤ 1000000) : MCalls Try.prog 16 [.ptr 0 0, .pv (.lit (.int .i64 index)), sS (some data.nil) (eI .u8) data.D] (.cells [sS (some l.past.all.nil) eChain l.past.all.D, .pv (.lit (.int .i64 l.chain.epoch)), sS (some l.chain.members.nil) eMember l.chain.members.D, .pv (.lit (.int .i64 l.at_))]) (.pv (.lit (.int .i64 ((lApply l index data).2)))) (.cells [sS (some (lApply l index data).1.past.all.nil) eChain ((lApply l index data).1.past.all.D), .pv (.lit (.int .i64 ((lApply l index data).1.chain.epoch))), sS (some (lApply l index data).1.chain.members.nil) eMember ((lApply l index data).1.chain.members.D), .pv (.lit (.int .i64 ((lApply l index data).1.at_)))]) := by
 generalize hR : lApply l index data = R
 refine MCalls.of_body tabOk Try.func16 rfl rfl rfl rfl rfl rfl rfl mixed fun E hP C hI => ?_
 refine Awp.consP C ?_
 refine rvP C (.pv (.lit (.int .i64 0))) ?_
 refine rvc_nil ?_
 refine Awp.seq ?_
 refine Awp.block ?_
 refine Awp.cons C (fun _ => .writer) (by kernel_rfl) ?_
 refine rvP C (.ptr 0 0) ?_
 refine rvc_un (rexec_callM hP C (b := 0) rfl rfl rfl (lDead_calls l) rfl rfl ?_)
 refine rvP C (.pv (.lit (.bool (lDead l)))) ?_
 refine rvc_nil ?_
 refine Awp.cond (b := (lDead l)) rfl (fun h1 => ?_) (fun h1 => ?_)
 ·
  replace hR := of_true h1 hR
  refine Awp.consP C ?_
  refine rvP C (.pv (.lit (.int .i64 6))) ?_
  refine rvc_nil ?_
  refine Awp.ret ?_
  subst hR
  exact ⟨.inl rfl, rfl, rfl⟩
 ·
  replace hR := of_false h1 hR
  refine Awp.consP C ?_
  refine rvP C (.pv (.lit (.int .i64 index))) ?_
  refine rvP C (.pv (.lit (.bool (decide (index > 1099511627776))))) ?_
  refine rvP C (.pv (.lit (.bool (decide (index > 1099511627776))))) ?_
  refine rvc_case 16 (decide (index > 1099511627776)) rfl (fun h2 => ?_) (fun h2 => ?_)
  ·
   replace hR := of_true h2 hR
   refine rvS ?_
   refine rvS ?_
   refine rvP C (.pv (.lit (.bool true))) ?_
   refine rvP C (.pv (.lit (.bool true))) ?_
   refine rvS ?_
   refine rvS ?_
   refine rvS ?_
   refine rvS ?_
   refine rvS ?_
   refine rvS ?_
   refine rvS ?_
   refine rvP C (.pv (.lit (.bool true))) ?_
   refine rvP C (.pv (.lit (.bool true))) ?_
   refine rvc_nil ?_
   refine Awp.condT (b := true) rfl rfl ?_
   refine Awp.consP C ?_
   refine rvP C (.pv (.lit (.int .i64 90))) ?_
   refine rvc_nil ?_
   refine Awp.ret ?_
   subst hR
   exact ⟨.inl rfl, rfl, rfl⟩
  ·
   replace hR := of_false h2 hR
   refine rvO C (.pv (.lit (.int .i64 index))) ?_
   refine rvO C (.pv (.lit (.bool (decide (index < 1))))) ?_
   refine rvP C (.pv (.lit (.bool (decide (index < 1))))) ?_
   refine rvP C (.pv (.lit (.bool (decide (index < 1))))) ?_
   refine rvc_case 20 (decide (index < 1)) rfl (fun h3 => ?_) (fun h3 => ?_)
   ·
    replace hR := of_true h3 hR
    refine rvS ?_
    refine rvS ?_
    refine rvS ?_
    refine rvS ?_
    refine rvS ?_
    refine rvS ?_
    refine rvS ?_
    refine rvP C (.pv (.lit (.bool true))) ?_
    refine rvP C (.pv (.lit (.bool true))) ?_
    refine rvc_nil ?_
    refine Awp.condT (b := true) rfl rfl ?_
    refine Awp.consP C ?_
    refine rvP C (.pv (.lit (.int .i64 90))) ?_
    refine rvc_nil ?_
    refine Awp.ret ?_
    subst hR
    exact ⟨.inl rfl, rfl, rfl⟩
   ·
    replace hR := of_false h3 hR
    refine rvO C (.pv (.lit (.int .i64 index))) ?_
    refine rvO C (.pv (.lit (.int .i64 (IntKind.i64.wrap (index - 1))))) ?_
    refine rvO C (.ptr 0 0) ?_
    refine rvO C (.ptr 0 0) ?_
    refine rvO C (.ptr 0 3) ?_
    refine rvO C (.pv (.lit (.int .i64 l.at_))) ?_
    refine rvO C (.pv (.lit (.bool ((IntKind.i64.wrap (index - 1)) != l.at_)))) ?_
    refine rvP C (.pv (.lit (.bool ((IntKind.i64.wrap (index - 1)) != l.at_)))) ?_
    refine rvP C (.pv (.lit (.bool ((IntKind.i64.wrap (index - 1)) != l.at_)))) ?_
    refine rvc_nil ?_
    refine Awp.cond (b := ((IntKind.i64.wrap (index - 1)) != l.at_)) rfl (fun h4 => ?_) (fun h4 => ?_)
    ·
     replace hR := of_true h4 hR
     refine Awp.consP C ?_
     refine rvP C (.pv (.lit (.int .i64 90))) ?_
     refine rvc_nil ?_
     refine Awp.ret ?_
     subst hR
     exact ⟨.inl rfl, rfl, rfl⟩
    ·
     replace hR := of_false h4 hR
     refine Awp.skip ?_
     refine Awp.consP C ?_
     refine rvP C (.ptr 0 0) ?_
     refine rvP C (.pv (.lit (.int .i64 index))) ?_
     refine rvP C (.ptr 0 0) ?_
     refine rvP C (.ptr 0 3) ?_
     refine rvc_un (rexec_prim C (δ := { v := .undef, wr := [(0, some (.cells [sS (some l.past.all.nil) eChain l.past.all.D, .pv (.lit (.int .i64 l.chain.epoch)), sS (some l.chain.members.nil) eMember l.chain.members.D, .pv (.lit (.int .i64 index))]))] }) rfl rfl rfl rfl trivial rfl ?_)
     refine rvc_nil ?_
     refine Awp.seq ?_
     refine Awp.consP C ?_
     refine rvP C (sS (some data.nil) (eI .u8) data.D) ?_
     refine rvP C (.pv (.lit (.int .i64 (data.D.length : Int)))) ?_
     refine rvP C (.pv (.lit (.bool ((data.D.length : Int) == 0)))) ?_
     refine rvc_nil ?_
     refine Awp.cond (b := ((data.D.length : Int) == 0)) rfl (fun h5 => ?_) (fun h5 => ?_)
     ·
      replace hR := of_true h5 hR
      refine Awp.consP C ?_
      refine rvP C (.pv (.lit (.int .i64 0))) ?_
      refine rvc_nil ?_
      refine Awp.ret ?_
      subst hR
      exact ⟨.inl rfl, rfl, rfl⟩
     ·
      replace hR := of_false h5 hR
      refine Awp.skip ?_
      refine Awp.consP C ?_
      refine rvP C (sS (some data.nil) (eI .u8) data.D) ?_
      obtain ⟨gt, hq_gt⟩ : ∃ q_, q_ = (cmdGet data) := ⟨_, rfl⟩
      have hc_gt := (cmdGet_calls data hl1)
      first | rw [← hq_gt] at hR hc_gt | (unfold lApply at hR; rw [← hq_gt] at hR hc_gt)
      refine rvc_un (rexec_call hP C rfl rfl rfl hc_gt ?_)
      refine rvP C (.tup [.agg [.pv (.lit (.int .i64 gt.1.kind)), .pv (.lit (.int .i64 gt.1.node)), .pv (.lit (.int .i64 gt.1.site)), .pv (.lit (.int .i64 gt.1.epoch))], .pv (.lit (.int .i64 gt.2))]) ?_
      refine rvP C (.agg [.pv (.lit (.int .i64 gt.1.kind)), .pv (.lit (.int .i64 gt.1.node)), .pv (.lit (.int .i64 gt.1.site)), .pv (.lit (.int .i64 gt.1.epoch))]) ?_
      refine rvP C (.pv (.lit (.int .i64 gt.2))) ?_
      refine rvc_un (rexec_prim C (δ := { v := .ptr 7 0, new := [(7, .cells [.pv (.lit (.int .i64 0)), .pv (.lit (.int .i64 0)), .pv (.lit (.int .i64 0)), .pv (.lit (.int .i64 0))])] }) rfl rfl rfl rfl trivial rfl ?_)
      refine rvc_un (rexec_prim C (δ := { v := .undef, wr := [(7, some (.cells [.pv (.lit (.int .i64 gt.1.kind)), .pv (.lit (.int .i64 gt.1.node)), .pv (.lit (.int .i64 gt.1.site)), .pv (.lit (.int .i64 gt.1.epoch))]))] }) rfl rfl rfl rfl trivial rfl ?_)
      refine rvP C (.pv (.lit (.int .i64 gt.2))) ?_
      refine rvc_nil ?_
      refine Awp.seq ?_
      refine Awp.consP C ?_
      refine rvP C (.pv (.lit (.int .i64 gt.2))) ?_
      refine rvP C (.pv (.lit (.bool (gt.2 != 0)))) ?_
      refine rvc_nil ?_
      refine Awp.cond (b := (gt.2 != 0)) rfl (fun h6 => ?_) (fun h6 => ?_)
      ·
       replace hR := of_true h6 hR
       refine Awp.consP C ?_
       refine rvP C (.pv (.lit (.int .i64 gt.2))) ?_
       refine rvP C (.pv (.lit (.int .i64 gt.2))) ?_
       refine rvc_nil ?_
       refine Awp.ret ?_
       subst hR
       exact ⟨.inl rfl, rfl, rfl⟩
      ·
       replace hR := of_false h6 hR
       refine Awp.skip ?_
       refine Awp.consP C ?_
       refine rvP C (.ptr 0 0) ?_
       refine rvP C (.ptr 0 0) ?_
       refine rvP C (.ptr 0 1) ?_
       refine rvP C (.agg [.pv (.lit (.int .i64 l.chain.epoch)), sS (some l.chain.members.nil) eMember l.chain.members.D]) ?_
       refine rvP C (.agg [.pv (.lit (.int .i64 gt.1.kind)), .pv (.lit (.int .i64 gt.1.node)), .pv (.lit (.int .i64 gt.1.site)), .pv (.lit (.int .i64 gt.1.epoch))]) ?_
       obtain ⟨nx, hq_nx⟩ : ∃ q_, q_ = (nextL l.chain gt.1) := ⟨_, rfl⟩
       have hc_nx := (nextL_calls l.chain gt.1 hn hl2)
       first | rw [← hq_nx] at hR hc_nx | (unfold lApply at hR; rw [← hq_nx] at hR hc_nx)
       have hf0_nx := few_next l.chain gt.1
       rw [← hq_nx] at hf0_nx
       refine rvc_un (rexec_call hP C rfl rfl rfl hc_nx ?_)
       refine rvP C (.tup [.agg [.pv (.lit (.int .i64 nx.1.epoch)), sS (some nx.1.members.nil) eMember nx.1.members.D], .pv (.lit (.int .i64 nx.2))]) ?_
       refine rvP C (.agg [.pv (.lit (.int .i64 nx.1.epoch)), sS (some nx.1.members.nil) eMember nx.1.members.D]) ?_
       refine rvP C (.pv (.lit (.int .i64 nx.2))) ?_
       refine rvc_un (rexec_prim C (δ := { v := .ptr 9 0, new := [(9, .cells [.pv (.lit (.int .i64 0)), sS (some true) eMember []])] }) rfl rfl rfl rfl trivial rfl ?_)
       refine rvc_un (rexec_prim C (δ := { v := .undef, wr := [(9, some (.cells [.pv (.lit (.int .i64 nx.1.epoch)), sS (some nx.1.members.nil) eMember nx.1.members.D]))] }) rfl rfl rfl rfl trivial rfl ?_)
       refine rvP C (.pv (.lit (.int .i64 nx.2))) ?_
       refine rvc_nil ?_
       refine Awp.seq ?_
       refine Awp.consP C ?_
       refine rvP C (.pv (.lit (.int .i64 nx.2))) ?_
       refine rvP C (.pv (.lit (.bool (nx.2 != 0)))) ?_
       refine rvc_nil ?_
       refine Awp.cond (b := (nx.2 != 0)) rfl (fun h7 => ?_) (fun h7 => ?_)
       ·
        replace hR := of_true h7 hR
        refine Awp.consP C ?_
        refine rvP C (.pv (.lit (.int .i64 nx.2))) ?_
        refine rvP C (.pv (.lit (.int .i64 nx.2))) ?_
        refine rvc_nil ?_
        refine Awp.ret ?_
        subst hR
        exact ⟨.inl rfl, rfl, rfl⟩
       ·
        replace hR := of_false h7 hR
        refine Awp.skip ?_
        refine Awp.seq ?_
        refine Awp.consP C ?_
        refine rvP C (.ptr 9 0) ?_
        refine rvP C (.pv (.lit (.int .i64 nx.1.epoch))) ?_
        refine rvP C (.ptr 0 0) ?_
        refine rvP C (.ptr 0 0) ?_
        refine rvP C (.ptr 0 1) ?_
        refine rvP C (.ptr 0 1) ?_
        refine rvP C (.pv (.lit (.int .i64 l.chain.epoch))) ?_
        refine rvP C (.pv (.lit (.bool (decide (nx.1.epoch > l.chain.epoch))))) ?_
        refine rvc_nil ?_
        refine Awp.cond (b := (decide (nx.1.epoch > l.chain.epoch))) rfl (fun h8 => ?_) (fun h8 => ?_)
        ·
         replace hR := of_true h8 hR
         refine Awp.regionP C ?_
         refine rvP C (.ptr 0 0) ?_
         refine rvP C (.ptr 0 0) ?_
         refine rvP C (.ptr 0 0) ?_
         refine rvP C (.ptr 0 0) ?_
         refine rvP C (.ptr 0 0) ?_
         refine rvP C (sS (some l.past.all.nil) eChain l.past.all.D) ?_
         refine rvP C (.ptr 0 0) ?_
         refine rvP C (.ptr 0 0) ?_
         refine rvP C (.ptr 0 0) ?_
         refine rvP C (.ptr 0 0) ?_
         refine rvP C (sS (some l.past.all.nil) eChain l.past.all.D) ?_
         refine rvP C (.pv (.lit (.int .i64 (l.past.all.D.length : Int)))) ?_
         refine rvP C (.ptr 0 0) ?_
         refine rvP C (.ptr 0 0) ?_
         refine rvP C (.ptr 0 0) ?_
         refine rvP C (.ptr 0 0) ?_
         refine rvP C (sS (some l.past.all.nil) eChain l.past.all.D) ?_
         refine rvP C (.pv (.lit (.int .i64 (l.past.all.D.length : Int)))) ?_
         refine rvc_un (rexec_slice3 C (e := eChain) (D := l.past.all.D) rfl rfl rfl rfl rfl rfl ?_)
         refine rvP C (.agg [.pv (.lit (.int .i64 nx.1.epoch)), sS (some nx.1.members.nil) eMember nx.1.members.D]) ?_
         refine rvc_un (rexec_call hP C rfl rfl rfl (copied_calls nx.1 (Nat.le_trans hf0_nx.2 (by decide))) ?_)
         refine rvc_un (rexec_buildSliceF C eChain [(copied nx.1)] rfl rfl rfl rfl rfl rfl rfl (by decide) rfl ?_)
         refine rvc_un (rexec_appendT C rfl rfl rfl rfl rfl rfl rfl rfl (fun _ h => by cases h) rfl (en := eChain) (D0 := l.past.all.D) (D := [(copied nx.1)]) rfl rfl (by simp) (by have := wrapI (index - 1); have := of_decide_eq_false h2; have := of_decide_eq_false h3; have := eq_of_bne_false h4; have := ne_of_beq_false h5; have := eq_of_bne_false h6; have := eq_of_bne_false h7; have := of_decide_eq_true h8; first | omega | (simp <;> omega)) (by decide) (nn := (l.past.all.D ++ [(copied nx.1)]).length) (by simp) ?_)
         refine rvP C (.ptr 0 0) ?_
         refine rvP C (.ptr 0 0) ?_
         refine rvP C (.ptr 0 0) ?_
         refine rvc_un (rexec_prim C (δ := { v := .undef, wr := [(0, some (.cells [.sl 86 0 ((l.past.all.D ++ [(copied nx.1)]).length) 2 false, .pv (.lit (.int .i64 l.chain.epoch)), sS (some l.chain.members.nil) eMember l.chain.members.D, .pv (.lit (.int .i64 index))]))] }) rfl rfl rfl rfl trivial rfl ?_)
         refine rvc_nil ?_
         refine Awp.consP C ?_
         refine rvP C (.ptr 0 0) ?_
         refine rvP C (.agg [.pv (.lit (.int .i64 nx.1.epoch)), sS (some nx.1.members.nil) eMember nx.1.members.D]) ?_
         refine rvP C (.ptr 0 0) ?_
         refine rvP C (.ptr 0 1) ?_
         refine rvc_un (rexec_prim C (δ := { v := .undef, wr := [(0, some (.cells [.sl 86 0 ((l.past.all.D ++ [(copied nx.1)]).length) 2 false, .pv (.lit (.int .i64 nx.1.epoch)), sS (some nx.1.members.nil) eMember nx.1.members.D, .pv (.lit (.int .i64 index))]))] }) rfl rfl rfl rfl trivial rfl ?_)
         refine rvc_nil ?_
         refine Awp.consP C ?_
         refine rvP C (.pv (.lit (.int .i64 0))) ?_
         refine rvc_nil ?_
         refine Awp.freezeW 86 (encL eChain (l.past.all.D ++ [(copied nx.1)])) ?_ [(6, .pv (.lit (.int .i64 0)))] [(0, .cells [sS (some false) eChain (l.past.all.D ++ [(copied nx.1)]), .pv (.lit (.int .i64 nx.1.epoch)), sS (some nx.1.members.nil) eMember nx.1.members.D, .pv (.lit (.int .i64 index))]), (7, .cells [.pv (.lit (.int .i64 gt.1.kind)), .pv (.lit (.int .i64 gt.1.node)), .pv (.lit (.int .i64 gt.1.site)), .pv (.lit (.int .i64 gt.1.epoch))]), (9, .cells [.pv (.lit (.int .i64 nx.1.epoch)), sS (some nx.1.members.nil) eMember nx.1.members.D])] ?_ ?_ ?_
         · rfl
         · exact ⟨⟨_, rfl, .inl (.inl rfl)⟩, trivial⟩
         · exact ⟨⟨(by show (0 : Nat) ≠ 86; decide), .inr ⟨_, _, rfl, rfl, ⟨.inr ⟨_, _, _, rfl, rfl⟩, .inl rfl, .inl rfl, .inl rfl, trivial⟩⟩⟩, ⟨(by show (7 : Nat) ≠ 86; decide), .inl rfl⟩, ⟨(by show (9 : Nat) ≠ 86; decide), .inl rfl⟩, trivial⟩
         refine Awp.ret ?_
         subst hR
         exact ⟨.inl rfl, rfl, rfl⟩
        ·
         replace hR := of_false h8 hR
         refine Awp.skip ?_
         refine Awp.consP C ?_
         refine rvP C (.ptr 0 0) ?_
         refine rvP C (.agg [.pv (.lit (.int .i64 nx.1.epoch)), sS (some nx.1.members.nil) eMember nx.1.members.D]) ?_
         refine rvP C (.ptr 0 0) ?_
         refine rvP C (.ptr 0 1) ?_
         refine rvc_un (rexec_prim C (δ := { v := .undef, wr := [(0, some (.cells [sS (some l.past.all.nil) eChain l.past.all.D, .pv (.lit (.int .i64 nx.1.epoch)), sS (some nx.1.members.nil) eMember nx.1.members.D, .pv (.lit (.int .i64 index))]))] }) rfl rfl rfl rfl trivial rfl ?_)
         refine rvc_nil ?_
         refine Awp.consP C ?_
         refine rvP C (.pv (.lit (.int .i64 0))) ?_
         refine rvc_nil ?_
         refine Awp.ret ?_
         subst hR
         exact ⟨.inl rfl, rfl, rfl⟩
def rOf_l0 (epoch : Int) : List Chain → Nat → Chain × Bool
  | [], _ => ((Chain.mk 0 (Sl.mk true [])), false)
  | x :: xs, i => (bif (x.epoch == epoch) then (x, true) else rOf_l0 epoch xs (i + 1) )
def rOf (l : Ledger60) (epoch : Int) : Chain × Bool :=
  rOf_l0 epoch l.all.D 0
def doIndex (k : Do) (at_ : Int) : Int :=
  (bif (decide (k.by_ > (-3))) then (bif (decide (k.by_ < 3)) then (IntKind.i64.wrap ((IntKind.i64.wrap (at_ + 1)) + k.by_)) else (IntKind.i64.wrap (at_ + 1))) else (IntKind.i64.wrap (at_ + 1)))
theorem doIndex_calls (k : Do) (at_ : Int)  : PCalls Try.prog 18 [.agg [.pv (.lit (.int .i64 k.c.kind)), .pv (.lit (.int .i64 k.c.node)), .pv (.lit (.int .i64 k.c.site)), .pv (.lit (.int .i64 k.c.epoch)), sS (some k.b.nil) (eI .u8) k.b.D, .pv (.lit (.bool k.raw)), .pv (.lit (.int .i64 k.by_)), .pv (.lit (.int .i64 k.off))], .pv (.lit (.int .i64 at_))] (.pv (.lit (.int .i64 (doIndex k at_)))) := by
 generalize hR : doIndex k at_ = R
 refine PCalls.of_body tabOk Try.func18 rfl rfl rfl rfl rfl mixed fun E hP C hI => ?_
 refine Awp.consP C ?_
 refine rvc_un (rexec_prim C (δ := { v := .ptr 2 0, new := [(2, .cells [.pv (.lit (.int .i64 k.c.kind)), .pv (.lit (.int .i64 k.c.node)), .pv (.lit (.int .i64 k.c.site)), .pv (.lit (.int .i64 k.c.epoch)), sS (some k.b.nil) (eI .u8) k.b.D, .pv (.lit (.bool k.raw)), .pv (.lit (.int .i64 k.by_)), .pv (.lit (.int .i64 k.off))])] }) rfl rfl rfl rfl trivial rfl ?_)
 refine rvP C (.pv (.lit (.int .i64 0))) ?_
 refine rvc_nil ?_
 refine Awp.seq ?_
 refine Awp.consP C ?_
 refine rvP C (.ptr 2 6) ?_
 refine rvP C (.pv (.lit (.int .i64 k.by_))) ?_
 refine rvP C (.pv (.lit (.bool (decide (k.by_ > (-3)))))) ?_
 refine rvP C (.pv (.lit (.bool (decide (k.by_ > (-3)))))) ?_
 refine rvc_case 8 (decide (k.by_ > (-3))) rfl (fun h1 => ?_) (fun h1 => ?_)
 ·
  replace hR := of_true h1 hR
  refine rvO C (.ptr 2 6) ?_
  refine rvO C (.pv (.lit (.int .i64 k.by_))) ?_
  refine rvO C (.pv (.lit (.bool (decide (k.by_ < 3))))) ?_
  refine rvP C (.pv (.lit (.bool (decide (k.by_ < 3))))) ?_
  refine rvc_nil ?_
  refine Awp.cond (b := (decide (k.by_ < 3))) rfl (fun h2 => ?_) (fun h2 => ?_)
  ·
   replace hR := of_true h2 hR
   refine Awp.consP C ?_
   refine rvP C (.pv (.lit (.int .i64 at_))) ?_
   refine rvP C (.pv (.lit (.int .i64 (IntKind.i64.wrap (at_ + 1))))) ?_
   refine rvP C (.ptr 2 6) ?_
   refine rvP C (.pv (.lit (.int .i64 k.by_))) ?_
   refine rvP C (.pv (.lit (.int .i64 (IntKind.i64.wrap ((IntKind.i64.wrap (at_ + 1)) + k.by_))))) ?_
   refine rvP C (.pv (.lit (.int .i64 (IntKind.i64.wrap ((IntKind.i64.wrap (at_ + 1)) + k.by_))))) ?_
   refine rvc_nil ?_
   refine Awp.ret ?_
   subst hR
   exact ⟨.inl rfl, rfl⟩
  ·
   replace hR := of_false h2 hR
   refine Awp.skip ?_
   refine Awp.consP C ?_
   refine rvP C (.pv (.lit (.int .i64 at_))) ?_
   refine rvP C (.pv (.lit (.int .i64 (IntKind.i64.wrap (at_ + 1))))) ?_
   refine rvP C (.pv (.lit (.int .i64 (IntKind.i64.wrap (at_ + 1))))) ?_
   refine rvc_nil ?_
   refine Awp.ret ?_
   subst hR
   exact ⟨.inl rfl, rfl⟩
 ·
  replace hR := of_false h1 hR
  refine rvS ?_
  refine rvS ?_
  refine rvS ?_
  refine rvP C (.pv (.lit (.bool false))) ?_
  refine rvc_nil ?_
  refine Awp.condF (b := false) rfl rfl ?_
  refine Awp.skip ?_
  refine Awp.consP C ?_
  refine rvP C (.pv (.lit (.int .i64 at_))) ?_
  refine rvP C (.pv (.lit (.int .i64 (IntKind.i64.wrap (at_ + 1))))) ?_
  refine rvP C (.pv (.lit (.int .i64 (IntKind.i64.wrap (at_ + 1))))) ?_
  refine rvc_nil ?_
  refine Awp.ret ?_
  subst hR
  exact ⟨.inl rfl, rfl⟩
def doData (k : Do) (epoch : Int) : (Sl Int) :=
  (bif k.raw then k.b else (bif (decide (k.off > (-4))) then (bif (decide (k.off < 4)) then (rCmdPut (Command.mk k.c.kind k.c.node k.c.site (IntKind.i64.wrap (epoch + k.off)))).1 else (rCmdPut k.c).1) else (rCmdPut k.c).1))
theorem doData_calls (k : Do) (epoch : Int)  : PCalls Try.prog 15 [.agg [.pv (.lit (.int .i64 k.c.kind)), .pv (.lit (.int .i64 k.c.node)), .pv (.lit (.int .i64 k.c.site)), .pv (.lit (.int .i64 k.c.epoch)), sS (some k.b.nil) (eI .u8) k.b.D, .pv (.lit (.bool k.raw)), .pv (.lit (.int .i64 k.by_)), .pv (.lit (.int .i64 k.off))], .pv (.lit (.int .i64 epoch))] (sS (some (doData k epoch).nil) (eI .u8) ((doData k epoch).D)) := by
 generalize hR : doData k epoch = R
 refine PCalls.of_body tabOk Try.func15 rfl rfl rfl rfl rfl mixed fun E hP C hI => ?_
 refine Awp.consP C ?_
 refine rvc_un (rexec_prim C (δ := { v := .ptr 2 0, new := [(2, .cells [.pv (.lit (.int .i64 k.c.kind)), .pv (.lit (.int .i64 k.c.node)), .pv (.lit (.int .i64 k.c.site)), .pv (.lit (.int .i64 k.c.epoch)), sS (some k.b.nil) (eI .u8) k.b.D, .pv (.lit (.bool k.raw)), .pv (.lit (.int .i64 k.by_)), .pv (.lit (.int .i64 k.off))])] }) rfl rfl rfl rfl trivial rfl ?_)
 refine rvP C (sS (some true) (eI .u8) []) ?_
 refine rvc_nil ?_
 refine Awp.seq ?_
 refine Awp.consP C ?_
 refine rvP C (.ptr 2 5) ?_
 refine rvP C (.pv (.lit (.bool k.raw))) ?_
 refine rvc_nil ?_
 refine Awp.cond (b := k.raw) rfl (fun h1 => ?_) (fun h1 => ?_)
 ·
  replace hR := of_true h1 hR
  refine Awp.consP C ?_
  refine rvP C (.ptr 2 4) ?_
  refine rvP C (sS (some k.b.nil) (eI .u8) k.b.D) ?_
  refine rvP C (sS (some k.b.nil) (eI .u8) k.b.D) ?_
  refine rvc_nil ?_
  refine Awp.ret ?_
  subst hR
  exact ⟨.inl rfl, rfl⟩
 ·
  replace hR := of_false h1 hR
  refine Awp.skip ?_
  refine Awp.consP C ?_
  refine rvP C (.ptr 2 0) ?_
  refine rvP C (.agg [.pv (.lit (.int .i64 k.c.kind)), .pv (.lit (.int .i64 k.c.node)), .pv (.lit (.int .i64 k.c.site)), .pv (.lit (.int .i64 k.c.epoch))]) ?_
  refine rvc_un (rexec_prim C (δ := { v := .ptr 5 0, new := [(5, .cells [.pv (.lit (.int .i64 0)), .pv (.lit (.int .i64 0)), .pv (.lit (.int .i64 0)), .pv (.lit (.int .i64 0))])] }) rfl rfl rfl rfl trivial rfl ?_)
  refine rvc_un (rexec_prim C (δ := { v := .undef, wr := [(5, some (.cells [.pv (.lit (.int .i64 k.c.kind)), .pv (.lit (.int .i64 k.c.node)), .pv (.lit (.int .i64 k.c.site)), .pv (.lit (.int .i64 k.c.epoch))]))] }) rfl rfl rfl rfl trivial rfl ?_)
  refine rvc_nil ?_
  refine Awp.seq ?_
  refine Awp.consP C ?_
  refine rvP C (.ptr 2 7) ?_
  refine rvP C (.pv (.lit (.int .i64 k.off))) ?_
  refine rvP C (.pv (.lit (.bool (decide (k.off > (-4)))))) ?_
  refine rvP C (.pv (.lit (.bool (decide (k.off > (-4)))))) ?_
  refine rvc_case 17 (decide (k.off > (-4))) rfl (fun h2 => ?_) (fun h2 => ?_)
  ·
   replace hR := of_true h2 hR
   refine rvO C (.ptr 2 7) ?_
   refine rvO C (.pv (.lit (.int .i64 k.off))) ?_
   refine rvO C (.pv (.lit (.bool (decide (k.off < 4))))) ?_
   refine rvP C (.pv (.lit (.bool (decide (k.off < 4))))) ?_
   refine rvc_nil ?_
   refine Awp.cond (b := (decide (k.off < 4))) rfl (fun h3 => ?_) (fun h3 => ?_)
   ·
    replace hR := of_true h3 hR
    refine Awp.regionP C ?_
    refine rvP C (.pv (.lit (.int .i64 epoch))) ?_
    refine rvP C (.ptr 2 7) ?_
    refine rvP C (.pv (.lit (.int .i64 k.off))) ?_
    refine rvP C (.pv (.lit (.int .i64 (IntKind.i64.wrap (epoch + k.off))))) ?_
    refine rvP C (.ptr 5 3) ?_
    refine rvc_un (rexec_prim C (δ := { v := .undef, wr := [(5, some (.cells [.pv (.lit (.int .i64 k.c.kind)), .pv (.lit (.int .i64 k.c.node)), .pv (.lit (.int .i64 k.c.site)), .pv (.lit (.int .i64 (IntKind.i64.wrap (epoch + k.off))))]))] }) rfl rfl rfl rfl trivial rfl ?_)
    refine rvc_nil ?_
    refine Awp.consP C ?_
    refine rvP C (.agg [.pv (.lit (.int .i64 k.c.kind)), .pv (.lit (.int .i64 k.c.node)), .pv (.lit (.int .i64 k.c.site)), .pv (.lit (.int .i64 (IntKind.i64.wrap (epoch + k.off))))]) ?_
    refine rvc_un (rexec_call hP C rfl rfl rfl (rCmdPut_calls (Command.mk k.c.kind k.c.node k.c.site (IntKind.i64.wrap (epoch + k.off)))) ?_)
    refine rvP C (.tup [sS (some (rCmdPut (Command.mk k.c.kind k.c.node k.c.site (IntKind.i64.wrap (epoch + k.off)))).1.nil) (eI .u8) ((rCmdPut (Command.mk k.c.kind k.c.node k.c.site (IntKind.i64.wrap (epoch + k.off)))).1.D), .pv (.lit (.int .i64 ((rCmdPut (Command.mk k.c.kind k.c.node k.c.site (IntKind.i64.wrap (epoch + k.off)))).2)))]) ?_
    refine rvP C (sS (some (rCmdPut (Command.mk k.c.kind k.c.node k.c.site (IntKind.i64.wrap (epoch + k.off)))).1.nil) (eI .u8) ((rCmdPut (Command.mk k.c.kind k.c.node k.c.site (IntKind.i64.wrap (epoch + k.off)))).1.D)) ?_
    refine rvP C (.pv (.lit (.int .i64 ((rCmdPut (Command.mk k.c.kind k.c.node k.c.site (IntKind.i64.wrap (epoch + k.off)))).2)))) ?_
    refine rvP C (sS (some (rCmdPut (Command.mk k.c.kind k.c.node k.c.site (IntKind.i64.wrap (epoch + k.off)))).1.nil) (eI .u8) ((rCmdPut (Command.mk k.c.kind k.c.node k.c.site (IntKind.i64.wrap (epoch + k.off)))).1.D)) ?_
    refine rvP C (.pv (.lit (.int .i64 ((rCmdPut (Command.mk k.c.kind k.c.node k.c.site (IntKind.i64.wrap (epoch + k.off)))).2)))) ?_
    refine rvc_nil ?_
    refine Awp.consP C ?_
    refine rvP C (sS (some (rCmdPut (Command.mk k.c.kind k.c.node k.c.site (IntKind.i64.wrap (epoch + k.off)))).1.nil) (eI .u8) ((rCmdPut (Command.mk k.c.kind k.c.node k.c.site (IntKind.i64.wrap (epoch + k.off)))).1.D)) ?_
    refine rvP C (sS (some (rCmdPut (Command.mk k.c.kind k.c.node k.c.site (IntKind.i64.wrap (epoch + k.off)))).1.nil) (eI .u8) ((rCmdPut (Command.mk k.c.kind k.c.node k.c.site (IntKind.i64.wrap (epoch + k.off)))).1.D)) ?_
    refine rvc_nil ?_
    refine Awp.ret ?_
    subst hR
    exact ⟨.inl rfl, rfl⟩
   ·
    replace hR := of_false h3 hR
    refine Awp.skip ?_
    refine Awp.consP C ?_
    refine rvP C (.agg [.pv (.lit (.int .i64 k.c.kind)), .pv (.lit (.int .i64 k.c.node)), .pv (.lit (.int .i64 k.c.site)), .pv (.lit (.int .i64 k.c.epoch))]) ?_
    refine rvc_un (rexec_call hP C rfl rfl rfl (rCmdPut_calls k.c) ?_)
    refine rvP C (.tup [sS (some (rCmdPut k.c).1.nil) (eI .u8) ((rCmdPut k.c).1.D), .pv (.lit (.int .i64 ((rCmdPut k.c).2)))]) ?_
    refine rvP C (sS (some (rCmdPut k.c).1.nil) (eI .u8) ((rCmdPut k.c).1.D)) ?_
    refine rvP C (.pv (.lit (.int .i64 ((rCmdPut k.c).2)))) ?_
    refine rvP C (sS (some (rCmdPut k.c).1.nil) (eI .u8) ((rCmdPut k.c).1.D)) ?_
    refine rvP C (.pv (.lit (.int .i64 ((rCmdPut k.c).2)))) ?_
    refine rvc_nil ?_
    refine Awp.consP C ?_
    refine rvP C (sS (some (rCmdPut k.c).1.nil) (eI .u8) ((rCmdPut k.c).1.D)) ?_
    refine rvP C (sS (some (rCmdPut k.c).1.nil) (eI .u8) ((rCmdPut k.c).1.D)) ?_
    refine rvc_nil ?_
    refine Awp.ret ?_
    subst hR
    exact ⟨.inl rfl, rfl⟩
  ·
   replace hR := of_false h2 hR
   refine rvS ?_
   refine rvS ?_
   refine rvS ?_
   refine rvP C (.pv (.lit (.bool false))) ?_
   refine rvc_nil ?_
   refine Awp.condF (b := false) rfl rfl ?_
   refine Awp.skip ?_
   refine Awp.consP C ?_
   refine rvP C (.agg [.pv (.lit (.int .i64 k.c.kind)), .pv (.lit (.int .i64 k.c.node)), .pv (.lit (.int .i64 k.c.site)), .pv (.lit (.int .i64 k.c.epoch))]) ?_
   refine rvc_un (rexec_call hP C rfl rfl rfl (rCmdPut_calls k.c) ?_)
   refine rvP C (.tup [sS (some (rCmdPut k.c).1.nil) (eI .u8) ((rCmdPut k.c).1.D), .pv (.lit (.int .i64 ((rCmdPut k.c).2)))]) ?_
   refine rvP C (sS (some (rCmdPut k.c).1.nil) (eI .u8) ((rCmdPut k.c).1.D)) ?_
   refine rvP C (.pv (.lit (.int .i64 ((rCmdPut k.c).2)))) ?_
   refine rvP C (sS (some (rCmdPut k.c).1.nil) (eI .u8) ((rCmdPut k.c).1.D)) ?_
   refine rvP C (.pv (.lit (.int .i64 ((rCmdPut k.c).2)))) ?_
   refine rvc_nil ?_
   refine Awp.consP C ?_
   refine rvP C (sS (some (rCmdPut k.c).1.nil) (eI .u8) ((rCmdPut k.c).1.D)) ?_
   refine rvP C (sS (some (rCmdPut k.c).1.nil) (eI .u8) ((rCmdPut k.c).1.D)) ?_
   refine rvc_nil ?_
   refine Awp.ret ?_
   subst hR
   exact ⟨.inl rfl, rfl⟩
def short_l1 (x : (Sl Do)) (kk : Int → Int → Int → Bool) : Nat → Int → Int → Int → Bool
  | 0, _, _, _ => default
  | nn + 1, n1, acts1, i1 => (bif (decide (i1 < (x.D.length : Int))) then (bif (decide (acts1 ≤ 150)) then (bif (decide (n1 ≤ 4096)) then short_l1 x kk nn (IntKind.i64.wrap (n1 + (bif (decide ((4097 : Int) < ((x.D[i1.toNat]!.b.D).length : Int))) then (4097 : Int) else ((x.D[i1.toNat]!.b.D).length : Int)))) (IntKind.i64.wrap (acts1 + 1)) (IntKind.i64.wrap (i1 + 1)) else kk n1 acts1 i1) else kk n1 acts1 i1) else kk n1 acts1 i1)
def short_l0 : List (Sl Do) → Nat → Int → Int → Bool
  | [], _, n, acts => (bif (decide (acts ≤ 150)) then (decide (n ≤ 4096)) else false)
  | x :: xs, i, n, acts => short_l1 x (fun n1 acts1 _ => short_l0 xs (i + 1) n1 acts1) ((x.D.length - (0 : Int).toNat) + 1) n acts 0
def short (lists : (Sl (Sl Do))) : Bool :=
  short_l0 lists.D 0 0 0
theorem short_calls (lists : (Sl (Sl Do))) (hl1 : lists.D.length ≤ 9223372036854775807) : PCalls Try.prog 10 [sS (some lists.nil) (eSl eDo) lists.D] (.pv (.lit (.bool (short lists)))) := by
 generalize hR : short lists = R
 refine PCalls.of_body tabOk Try.func10 rfl rfl rfl rfl rfl mixed fun E hP C hI => ?_
 refine Awp.consP C ?_
 refine rvP C (.pv (.lit (.bool false))) ?_
 refine rvc_nil ?_
 refine Awp.consP C ?_
 refine rvP C (.pv (.lit (.int .i64 0))) ?_
 refine rvP C (.pv (.lit (.int .i64 0))) ?_
 refine rvc_nil ?_
 refine Awp.seq ?_
 refine Awp.consP C ?_
 refine rvP C (sS (some lists.nil) (eSl eDo) lists.D) ?_
 refine rvP C (.pv (.lit (.int .i64 (lists.D.length : Int)))) ?_
 refine rvP C (.pv (.lit (.int .i64 0))) ?_
 refine rvc_nil ?_
 refine Awp.block ?_
 refine Awp.forR (σ := Int × Int) (lists.D.length) (fun i v => [(3, .pv (.lit (.int .i64 v.1))), (4, .pv (.lit (.int .i64 v.2))), (8, sS (some lists.nil) (eSl eDo) lists.D), (9, .pv (.lit (.int .i64 (lists.D.length : Int)))), (10, .pv (.lit (.int .i64 (i : Int))))]) (fun i v => []) [] (fun i v => (short_l0 (lists.D.drop i) i v.1 v.2 = R) ∧ ((0 ≤ v.2 ∧ v.2 ≤ 151) ∧ (0 ≤ v.1 ∧ v.1 ≤ 8193))) (0, 0) ?_ ?_ (fun i v h1 hR => ?_)
 · exact ⟨hR, (by dsimp only; omega)⟩
 · exact ⟨fun b => b, WeakerR.ofL (Ks := []) hI ⟨⟨rfl, rfl⟩, ⟨rfl, rfl⟩, ⟨rfl, rfl⟩, ⟨rfl, rfl⟩, ⟨rfl, rfl⟩, trivial⟩ (okH_nil) rfl⟩
 obtain ⟨n, acts⟩ := v
 obtain ⟨hR, hV⟩ := hR
 replace hV : (0 ≤ acts ∧ acts ≤ 151) ∧ (0 ≤ n ∧ n ≤ 8193) := hV
 refine Awp.consP C ?_
 refine rvP C (.pv (.lit (.bool (decide ((i : Int) < (lists.D.length : Int)))))) ?_
 refine rvc_nil ?_
 refine Awp.seq ?_
 refine Awp.cond (b := (decide ((i : Int) < (lists.D.length : Int)))) rfl (fun h2 => ?_) (fun h2 => ?_)
 ·
  have h3 : i < lists.D.length := by have := of_decide_eq_true h2; omega
  obtain ⟨x, h4⟩ := getX h3
  rw [drop_at h4] at hR
  refine Awp.skip ?_
  refine Awp.seq ?_
  refine Awp.block ?_
  refine Awp.consP C ?_
  refine rvc_un (rexec_idxS C rfl rfl rfl rfl rfl rfl x (Int.natCast_nonneg _) h4 ?_)
  refine rvP C (sS (some x.nil) eDo x.D) ?_
  refine rvP C (sS (some x.nil) eDo x.D) ?_
  refine rvc_nil ?_
  refine Awp.consP C ?_
  refine rvP C (.pv (.lit (.int .i64 0))) ?_
  refine rvc_nil ?_
  refine Awp.block ?_
  refine Awp.forM (σ := Int × Int × Int) (fun v => [(3, .pv (.lit (.int .i64 v.1))), (4, .pv (.lit (.int .i64 v.2.1))), (6, sS (some x.nil) eDo x.D), (7, .pv (.lit (.int .i64 v.2.2))), (8, sS (some lists.nil) (eSl eDo) lists.D), (9, .pv (.lit (.int .i64 (lists.D.length : Int)))), (10, .pv (.lit (.int .i64 (i : Int))))]) (fun v => []) [] (fun n v => n = (x.D.length - (v.2.2 : Int).toNat) ∧ short_l1 x (fun n1 acts1 _ => short_l0 (lists.D.drop (i + 1)) (i + 1) n1 acts1) ((x.D.length - (v.2.2 : Int).toNat) + 1) v.1 v.2.1 v.2.2 = R ∧ (((0 ≤ v.2.1 ∧ v.2.1 ≤ 151) ∧ (0 ≤ v.1 ∧ v.1 ≤ 8193)) ∧ 0 ≤ v.2.2 ∧ v.2.2 ≤ (x.D.length : Int) ∧ v.2.2 ≤ v.2.1)) ((x.D.length - (0 : Int).toNat)) (n, acts, 0) ?_ ?_ (fun _ v h5 => ?_)
  · exact ⟨rfl, hR, (by dsimp only; omega)⟩
  · exact ⟨fun b => b, WeakerR.ofL (Ks := []) hI ⟨⟨rfl, rfl⟩, ⟨rfl, rfl⟩, ⟨rfl, rfl⟩, ⟨rfl, rfl⟩, ⟨rfl, rfl⟩, ⟨rfl, rfl⟩, ⟨rfl, rfl⟩, trivial⟩ (okH_nil) rfl⟩
  obtain ⟨n1, acts1, i1⟩ := v
  obtain ⟨rfl, hR, hW⟩ := h5
  replace hW : ((0 ≤ acts1 ∧ acts1 ≤ 151) ∧ (0 ≤ n1 ∧ n1 ≤ 8193)) ∧ 0 ≤ i1 ∧ i1 ≤ (x.D.length : Int) ∧ i1 ≤ acts1 := hW
  refine Awp.seq ?_
  refine Awp.consP C ?_
  refine rvP C (.pv (.lit (.int .i64 i1))) ?_
  refine rvP C (sS (some x.nil) eDo x.D) ?_
  refine rvP C (.pv (.lit (.int .i64 (x.D.length : Int)))) ?_
  refine rvP C (.pv (.lit (.bool (decide (i1 < (x.D.length : Int)))))) ?_
  refine rvP C (.pv (.lit (.bool (decide (i1 < (x.D.length : Int)))))) ?_
  refine rvc_case 18 (decide (i1 < (x.D.length : Int))) rfl (fun h7 => ?_) (fun h7 => ?_)
  ·
   replace hR := of_true h7 hR
   refine rvO C (.pv (.lit (.int .i64 acts1))) ?_
   refine rvO C (.pv (.lit (.bool (decide (acts1 ≤ 150))))) ?_
   refine rvP C (.pv (.lit (.bool (decide (acts1 ≤ 150))))) ?_
   refine rvP C (.pv (.lit (.bool (decide (acts1 ≤ 150))))) ?_
   refine rvc_case 22 (decide (acts1 ≤ 150)) rfl (fun h8 => ?_) (fun h8 => ?_)
   ·
    replace hR := of_true h8 hR
    refine rvO C (.pv (.lit (.int .i64 n1))) ?_
    refine rvO C (.pv (.lit (.bool (decide (n1 ≤ 4096))))) ?_
    refine rvP C (.pv (.lit (.bool (decide (n1 ≤ 4096))))) ?_
    refine rvc_nil ?_
    refine Awp.cond (b := (decide (n1 ≤ 4096))) rfl (fun h9 => ?_) (fun h9 => ?_)
    ·
     replace hR := of_true h9 hR
     refine Awp.skip ?_
     refine Awp.seq ?_
     refine Awp.block ?_
     refine Awp.consP C ?_
     refine rvP C (.pv (.lit (.int .i64 acts1))) ?_
     refine rvP C (.pv (.lit (.int .i64 (IntKind.i64.wrap (acts1 + 1))))) ?_
     refine rvP C (.pv (.lit (.int .i64 (IntKind.i64.wrap (acts1 + 1))))) ?_
     refine rvc_nil ?_
     refine Awp.regionP C ?_
     refine rvP C (.pv (.lit (.int .i64 n1))) ?_
     refine rvP C (sS (some x.nil) eDo x.D) ?_
     refine rvP C (.pv (.lit (.int .i64 i1))) ?_
     have h10 : x.D[i1.toNat]? = some x.D[i1.toNat]! := getE (by have := of_decide_eq_true h2; have := of_decide_eq_true h7; have := of_decide_eq_true h8; have := of_decide_eq_true h9; omega)
     refine rvc_un (rexec_idxS C rfl rfl rfl rfl rfl rfl (x.D[i1.toNat]!) (by have := of_decide_eq_true h2; have := of_decide_eq_true h7; have := of_decide_eq_true h8; have := of_decide_eq_true h9; omega) h10 ?_)
     refine rvP C (.rp [.sl (some x.D[i1.toNat]!.b.nil) (x.D[i1.toNat]!.b.D).length (encL (eI .u8) (x.D[i1.toNat]!.b.D))]) ?_
     refine rvP C (sS (some x.D[i1.toNat]!.b.nil) (eI .u8) (x.D[i1.toNat]!.b.D)) ?_
     refine rvP C (.pv (.lit (.int .i64 ((x.D[i1.toNat]!.b.D).length : Int)))) ?_
     refine rvc_un (rexec_min C rfl rfl rfl ?_)
     refine rvP C (.pv (.lit (.int .i64 (IntKind.i64.wrap (n1 + (bif (decide ((4097 : Int) < ((x.D[i1.toNat]!.b.D).length : Int))) then (4097 : Int) else ((x.D[i1.toNat]!.b.D).length : Int))))))) ?_
     refine rvP C (.pv (.lit (.int .i64 (IntKind.i64.wrap (n1 + (bif (decide ((4097 : Int) < ((x.D[i1.toNat]!.b.D).length : Int))) then (4097 : Int) else ((x.D[i1.toNat]!.b.D).length : Int))))))) ?_
     refine rvc_nil ?_
     refine Awp.regionP C ?_
     refine rvP C (.pv (.lit (.int .i64 i1))) ?_
     refine rvP C (.pv (.lit (.int .i64 (IntKind.i64.wrap (i1 + 1))))) ?_
     refine rvP C (.pv (.lit (.int .i64 (IntKind.i64.wrap (i1 + 1))))) ?_
     refine rvc_nil ?_
     refine ⟨_, ((IntKind.i64.wrap (n1 + (bif (decide ((4097 : Int) < ((x.D[i1.toNat]!.b.D).length : Int))) then (4097 : Int) else ((x.D[i1.toNat]!.b.D).length : Int)))), (IntKind.i64.wrap (acts1 + 1)), (IntKind.i64.wrap (i1 + 1))), ?_, ⟨rfl, (by rw [show (x.D.length - ((IntKind.i64.wrap (i1 + 1)) : Int).toNat) + 1 = (x.D.length - (i1 : Int).toNat) by have := wrapI (n1 + (bif (decide ((4097 : Int) < ((x.D[i1.toNat]!.b.D).length : Int))) then (4097 : Int) else ((x.D[i1.toNat]!.b.D).length : Int))); have := wrapI (acts1 + 1); have := wrapI (i1 + 1); have := of_decide_eq_true h2; have := of_decide_eq_true h7; have := of_decide_eq_true h8; have := of_decide_eq_true h9; first | omega | (simp only [List.length_drop]; omega)]; exact hR), (by have hm_ := min97 ((x.D[i1.toNat]!.b.D).length : Int); have := wrapI (n1 + (bif (decide ((4097 : Int) < ((x.D[i1.toNat]!.b.D).length : Int))) then (4097 : Int) else ((x.D[i1.toNat]!.b.D).length : Int))); have := wrapI (acts1 + 1); have := wrapI (i1 + 1); have := of_decide_eq_true ‹decide (i1 < (x.D.length : Int)) = true›; have := of_decide_eq_true ‹decide (acts1 ≤ 150) = true›; have := of_decide_eq_true ‹decide (n1 ≤ 4096) = true›; have := hm_ (Int.natCast_nonneg _); dsimp only; omega)⟩, ?_⟩
     · show (x.D.length - ((IntKind.i64.wrap (i1 + 1)) : Int).toNat) < (x.D.length - (i1 : Int).toNat); have := wrapI (n1 + (bif (decide ((4097 : Int) < ((x.D[i1.toNat]!.b.D).length : Int))) then (4097 : Int) else ((x.D[i1.toNat]!.b.D).length : Int))); have := wrapI (acts1 + 1); have := wrapI (i1 + 1); have := of_decide_eq_true h2; have := of_decide_eq_true h7; have := of_decide_eq_true h8; have := of_decide_eq_true h9; first | omega | (simp only [List.length_drop]; omega)
     · exact ⟨fun b => b, WeakerR.ofL (Ks := []) hI ⟨⟨rfl, rfl⟩, ⟨rfl, rfl⟩, ⟨rfl, rfl⟩, ⟨rfl, rfl⟩, ⟨rfl, rfl⟩, ⟨rfl, rfl⟩, ⟨rfl, rfl⟩, trivial⟩ (okH_nil) rfl⟩
    ·
     replace hR := of_false h9 hR
     refine Awp.exit ?_
     refine Awp.regionP C ?_
     refine rvP C (.pv (.lit (.int .i64 (IntKind.i64.wrap ((i : Int) + 1))))) ?_
     refine rvP C (.pv (.lit (.int .i64 (IntKind.i64.wrap ((i : Int) + 1))))) ?_
     refine rvc_nil ?_
     refine ⟨h3, (n1, acts1), ?_, ?_⟩
     · exact ⟨hR, hW.1⟩
     · exact ⟨fun b => b, WeakerR.ofL (Ks := []) hI ⟨⟨rfl, rfl⟩, ⟨rfl, rfl⟩, ⟨rfl, rfl⟩, ⟨rfl, rfl⟩, ⟨lit_cast (wrap_i64 (by omega) (by omega)), rfl⟩, trivial⟩ (okH_nil) rfl⟩
   ·
    replace hR := of_false h8 hR
    refine rvS ?_
    refine rvS ?_
    refine rvP C (.pv (.lit (.bool false))) ?_
    refine rvc_nil ?_
    refine Awp.condF (b := false) rfl rfl ?_
    refine Awp.exit ?_
    refine Awp.regionP C ?_
    refine rvP C (.pv (.lit (.int .i64 (IntKind.i64.wrap ((i : Int) + 1))))) ?_
    refine rvP C (.pv (.lit (.int .i64 (IntKind.i64.wrap ((i : Int) + 1))))) ?_
    refine rvc_nil ?_
    refine ⟨h3, (n1, acts1), ?_, ?_⟩
    · exact ⟨hR, hW.1⟩
    · exact ⟨fun b => b, WeakerR.ofL (Ks := []) hI ⟨⟨rfl, rfl⟩, ⟨rfl, rfl⟩, ⟨rfl, rfl⟩, ⟨rfl, rfl⟩, ⟨lit_cast (wrap_i64 (by omega) (by omega)), rfl⟩, trivial⟩ (okH_nil) rfl⟩
  ·
   replace hR := of_false h7 hR
   refine rvS ?_
   refine rvS ?_
   refine rvP C (.pv (.lit (.bool false))) ?_
   refine rvP C (.pv (.lit (.bool false))) ?_
   refine rvS ?_
   refine rvS ?_
   refine rvP C (.pv (.lit (.bool false))) ?_
   refine rvc_nil ?_
   refine Awp.condF (b := false) rfl rfl ?_
   refine Awp.exit ?_
   refine Awp.regionP C ?_
   refine rvP C (.pv (.lit (.int .i64 (IntKind.i64.wrap ((i : Int) + 1))))) ?_
   refine rvP C (.pv (.lit (.int .i64 (IntKind.i64.wrap ((i : Int) + 1))))) ?_
   refine rvc_nil ?_
   refine ⟨h3, (n1, acts1), ?_, ?_⟩
   · exact ⟨hR, hW.1⟩
   · exact ⟨fun b => b, WeakerR.ofL (Ks := []) hI ⟨⟨rfl, rfl⟩, ⟨rfl, rfl⟩, ⟨rfl, rfl⟩, ⟨rfl, rfl⟩, ⟨lit_cast (wrap_i64 (by omega) (by omega)), rfl⟩, trivial⟩ (okH_nil) rfl⟩
 ·
  have h3 : ¬ i < lists.D.length := by have := of_decide_eq_false h2; omega
  rw [drop_end h3] at hR
  refine Awp.exit ?_
  refine Awp.consP C ?_
  refine rvP C (.pv (.lit (.int .i64 acts))) ?_
  refine rvP C (.pv (.lit (.bool (decide (acts ≤ 150))))) ?_
  refine rvP C (.pv (.lit (.bool (decide (acts ≤ 150))))) ?_
  refine rvc_case 42 (decide (acts ≤ 150)) rfl (fun h11 => ?_) (fun h11 => ?_)
  ·
   replace hR := of_true h11 hR
   refine rvO C (.pv (.lit (.int .i64 n))) ?_
   refine rvO C (.pv (.lit (.bool (decide (n ≤ 4096))))) ?_
   refine rvP C (.pv (.lit (.bool (decide (n ≤ 4096))))) ?_
   refine rvP C (.pv (.lit (.bool (decide (n ≤ 4096))))) ?_
   refine rvc_nil ?_
   refine Awp.ret ?_
   subst hR
   exact ⟨.inl rfl, rfl⟩
  ·
   replace hR := of_false h11 hR
   refine rvS ?_
   refine rvS ?_
   refine rvP C (.pv (.lit (.bool false))) ?_
   refine rvP C (.pv (.lit (.bool false))) ?_
   refine rvc_nil ?_
   refine Awp.ret ?_
   subst hR
   exact ⟨.inl rfl, rfl⟩
end Go.Proofs.Ytpgenmflgdkfiaa
/- Ledgers made. No conditions. -/
namespace Go.Proofs.Ytpgenmflgdkfiaa
open Go.Am
def newL (l : (Sl Member)) : Ledger × Int :=
  ((Ledger.mk (Past.mk (Sl.mk false [(firstC l).1])) ((firstC l).1) 0), 0)
theorem newL_calls (l : (Sl Member)) (h0 : (((firstC l).2) != 0) = false) (hl1 : l.D.length ≤ 1000000) : OCalls Try.prog 12 [sS (some l.nil) eMember l.D] (.tup [.ptr 0 0, .pv (.lit (.int .i64 ((newL l).2)))]) (.cells [sS (some (newL l).1.past.all.nil) eChain ((newL l).1.past.all.D), .pv (.lit (.int .i64 ((newL l).1.chain.epoch))), sS (some (newL l).1.chain.members.nil) eMember ((newL l).1.chain.members.D), .pv (.lit (.int .i64 ((newL l).1.at_)))]) := by
 generalize hR : newL l = R
 refine OCalls.of_body tabOk Try.func12 rfl rfl rfl rfl rfl rfl mixed fun E hP C hI => ?_
 refine Awp.consP C ?_
 refine rvP C (.pv (.lit (.pointer none))) ?_
 refine rvP C (.pv (.lit (.int .i64 0))) ?_
 refine rvc_nil ?_
 refine Awp.consP C ?_
 refine rvP C (sS (some l.nil) eMember l.D) ?_
 refine rvc_un (rexec_call hP C rfl rfl rfl (firstC_calls l hl1) ?_)
 refine rvP C (.tup [.agg [.pv (.lit (.int .i64 ((firstC l).1.epoch))), sS (some (firstC l).1.members.nil) eMember ((firstC l).1.members.D)], .pv (.lit (.int .i64 ((firstC l).2)))]) ?_
 refine rvP C (.agg [.pv (.lit (.int .i64 ((firstC l).1.epoch))), sS (some (firstC l).1.members.nil) eMember ((firstC l).1.members.D)]) ?_
 refine rvP C (.pv (.lit (.int .i64 ((firstC l).2)))) ?_
 refine rvc_un (rexec_prim C (δ := { v := .ptr 4 0, new := [(4, .cells [.pv (.lit (.int .i64 0)), sS (some true) eMember []])] }) rfl rfl rfl rfl trivial rfl ?_)
 refine rvc_un (rexec_prim C (δ := { v := .undef, wr := [(4, some (.cells [.pv (.lit (.int .i64 ((firstC l).1.epoch))), sS (some (firstC l).1.members.nil) eMember ((firstC l).1.members.D)]))] }) rfl rfl rfl rfl trivial rfl ?_)
 refine rvP C (.pv (.lit (.int .i64 ((firstC l).2)))) ?_
 refine rvc_nil ?_
 refine Awp.seq ?_
 refine Awp.consP C ?_
 refine rvP C (.pv (.lit (.int .i64 ((firstC l).2)))) ?_
 refine rvP C (.pv (.lit (.bool (((firstC l).2) != 0)))) ?_
 refine rvc_nil ?_
 refine Awp.condF (b := (((firstC l).2) != 0)) rfl h0 ?_
 refine Awp.skip ?_
 refine Awp.consP C ?_
 refine rvP C (.agg [.pv (.lit (.int .i64 ((firstC l).1.epoch))), sS (some (firstC l).1.members.nil) eMember ((firstC l).1.members.D)]) ?_
 refine rvc_un (rexec_buildSliceF C eChain [(firstC l).1] rfl rfl rfl rfl rfl rfl rfl (by decide) rfl ?_)
 refine rvP C (.agg [sS (some false) eChain [(firstC l).1]]) ?_
 refine rvP C (.agg [.pv (.lit (.int .i64 ((firstC l).1.epoch))), sS (some (firstC l).1.members.nil) eMember ((firstC l).1.members.D)]) ?_
 refine rvP C (.agg [sS (some false) eChain [(firstC l).1], .pv (.lit (.int .i64 ((firstC l).1.epoch))), sS (some (firstC l).1.members.nil) eMember ((firstC l).1.members.D), .pv (.lit (.int .i64 0))]) ?_
 refine rvc_un (rexec_prim C (δ := { v := .ptr 19 0, new := [(19, .cells [sS (some false) eChain [(firstC l).1], .pv (.lit (.int .i64 ((firstC l).1.epoch))), sS (some (firstC l).1.members.nil) eMember ((firstC l).1.members.D), .pv (.lit (.int .i64 0))])] }) rfl rfl rfl rfl trivial rfl ?_)
 refine rvP C (.ptr 19 0) ?_
 refine rvP C (.pv (.lit (.int .i64 0))) ?_
 refine rvc_nil ?_
 refine Awp.weakenR (S := [(2, .ptr 0 0), (3, .pv (.lit (.int .i64 0)))]) (H := [(0, .cells [sS (some false) eChain [(firstC l).1], .pv (.lit (.int .i64 ((firstC l).1.epoch))), sS (some (firstC l).1.members.nil) eMember ((firstC l).1.members.D), .pv (.lit (.int .i64 0))])]) (U := [0]) (fun x => bif x == 0 then 19 else x) (WeakerR.ofL (Ks := [0]) hI ⟨⟨rfl, rfl⟩, ⟨rfl, rfl⟩, trivial⟩ (okH_cons rfl rfl rfl rfl okH_nil) rfl) ?_
 refine Awp.ret ?_
 subst hR
 exact ⟨.inl rfl, rfl, rfl⟩
def newNil (l : (Sl Member)) : Unit × Int :=
  ((), (firstC l).2)
theorem newNil_calls (l : (Sl Member)) (h0 : (((firstC l).2) != 0) = true) (hl1 : l.D.length ≤ 1000000) : PCalls Try.prog 12 [sS (some l.nil) eMember l.D] (.tup [.pv (.lit (.pointer none)), .pv (.lit (.int .i64 ((newNil l).2)))]) := by
 generalize hR : newNil l = R
 refine PCalls.of_body tabOk Try.func12 rfl rfl rfl rfl rfl mixed fun E hP C hI => ?_
 refine Awp.consP C ?_
 refine rvP C (.pv (.lit (.pointer none))) ?_
 refine rvP C (.pv (.lit (.int .i64 0))) ?_
 refine rvc_nil ?_
 refine Awp.consP C ?_
 refine rvP C (sS (some l.nil) eMember l.D) ?_
 refine rvc_un (rexec_call hP C rfl rfl rfl (firstC_calls l hl1) ?_)
 refine rvP C (.tup [.agg [.pv (.lit (.int .i64 ((firstC l).1.epoch))), sS (some (firstC l).1.members.nil) eMember ((firstC l).1.members.D)], .pv (.lit (.int .i64 ((firstC l).2)))]) ?_
 refine rvP C (.agg [.pv (.lit (.int .i64 ((firstC l).1.epoch))), sS (some (firstC l).1.members.nil) eMember ((firstC l).1.members.D)]) ?_
 refine rvP C (.pv (.lit (.int .i64 ((firstC l).2)))) ?_
 refine rvc_un (rexec_prim C (δ := { v := .ptr 4 0, new := [(4, .cells [.pv (.lit (.int .i64 0)), sS (some true) eMember []])] }) rfl rfl rfl rfl trivial rfl ?_)
 refine rvc_un (rexec_prim C (δ := { v := .undef, wr := [(4, some (.cells [.pv (.lit (.int .i64 ((firstC l).1.epoch))), sS (some (firstC l).1.members.nil) eMember ((firstC l).1.members.D)]))] }) rfl rfl rfl rfl trivial rfl ?_)
 refine rvP C (.pv (.lit (.int .i64 ((firstC l).2)))) ?_
 refine rvc_nil ?_
 refine Awp.seq ?_
 refine Awp.consP C ?_
 refine rvP C (.pv (.lit (.int .i64 ((firstC l).2)))) ?_
 refine rvP C (.pv (.lit (.bool (((firstC l).2) != 0)))) ?_
 refine rvc_nil ?_
 refine Awp.condT (b := (((firstC l).2) != 0)) rfl h0 ?_
 refine Awp.consP C ?_
 refine rvP C (.pv (.lit (.int .i64 ((firstC l).2)))) ?_
 refine rvP C (.pv (.lit (.pointer none))) ?_
 refine rvP C (.pv (.lit (.int .i64 ((firstC l).2)))) ?_
 refine rvc_nil ?_
 refine Awp.ret ?_
 subst hR
 exact ⟨.inl rfl, rfl⟩
end Go.Proofs.Ytpgenmflgdkfiaa
/- Ledgers behind calls: how long chains and commands' bytes are. No conditions. -/
namespace Go.Proofs.Ytpgenmflgdkfiaa
open Go.Am
theorem rPut_l1_len {B : Nat} (kk : List Int → Int → Sl Int) : ∀ (k i : Nat) (out : List Int) (n : Int), (∀ out' n', out'.length ≤ out.length + k → (kk out' n').D.length ≤ B) → (rPut_l1 kk k i out n).D.length ≤ B
  | 0, _, out, n, h => h out n (Nat.le_refl _)
  | k + 1, i, out, n, h => by
    unfold rPut_l1
    cases decide (n < 128)
    · exact rPut_l1_len kk k (i + 1) _ _ fun o m ho => h o m (by rw [List.length_append, List.length_singleton] at ho; omega)
    · exact h out n (by omega)
theorem rPut_l0_len : ∀ (l : List Int) (i : Nat) (out : List Int), (rPut_l0 l i out).D.length ≤ out.length + 11 * l.length
  | [], _, out => Nat.le_refl _
  | x :: l, i, out => by
    unfold rPut_l0
    refine rPut_l1_len _ 10 0 out x fun o n ho => ?_
    have := rPut_l0_len l (i + 1) (o ++ [IntKind.u8.wrap n])
    rw [List.length_append, List.length_singleton] at this
    simp only [List.length_cons]
    omega
theorem rCmdPut_len (c : Command) : (rCmdPut c).1.D.length ≤ 44 := by
  unfold rCmdPut
  cases (rCmdCheck c) != 0
  · exact rPut_l0_len _ 0 []
  · exact Nat.zero_le _
theorem data_len (k : Do) (e : Int) (h : k.b.D.length ≤ 100000) : (doData k e).D.length ≤ 1000000 := by
  unfold doData
  have h1 := rCmdPut_len k.c
  have h2 := rCmdPut_len (Command.mk k.c.kind k.c.node k.c.site (IntKind.i64.wrap (e + k.off)))
  cases k.raw
  · cases decide (k.off > (-4))
    · simp only [cond_false]; omega
    · cases decide (k.off < 4)
      · simp only [cond_false, cond_true]; omega
      · simp only [cond_false, cond_true]; omega
  · simp only [cond_true]; omega
theorem newL_e (m : Sl Member) : (((newL m).2) != 0) = false := rfl
theorem newL_ok (m : Sl Member) (h : m.D.length ≤ 1000000) : okL (newL m).1 ∧ (newL m).1.past.all.D.length ≤ 1 + 0 := by
  have h1 := firstC_len m
  refine ⟨⟨firstC_hn m, Nat.le_trans h1 h, fun x hx => ?_⟩, Nat.le_refl _⟩
  have : x = (firstC m).1 := by simpa [newL] using hx
  rw [this]; exact Nat.le_trans h1 h
theorem copied_len (c : Chain) : (copied c).members.D.length ≤ c.members.D.length := clone_len c.members
theorem apply_okL {g : Ledger} (h : okL g) (i : Int) (d : Sl Int) : okL (lApply g i d).1 := by
  obtain ⟨h1, h2, h3⟩ := h
  have hf := few_next g.chain (cmdGet d).1
  unfold lApply
  cases lDead g
  · cases decide (i > 1099511627776)
    · cases decide (i < 1)
      · cases (IntKind.i64.wrap (i - 1)) != g.at_
        · cases (d.D.length : Int) == 0
          · cases (cmdGet d).2 != 0
            · cases (nextL g.chain (cmdGet d).1).2 != 0
              · cases decide ((nextL g.chain (cmdGet d).1).1.epoch > g.chain.epoch)
                · exact ⟨hf.1, Nat.le_trans hf.2 (by decide), h3⟩
                · refine ⟨hf.1, Nat.le_trans hf.2 (by decide), fun x hx => ?_⟩
                  rcases List.mem_append.1 hx with hx | hx
                  · exact h3 x hx
                  · rw [List.mem_singleton.1 hx]
                    exact Nat.le_trans (copied_len _) (Nat.le_trans hf.2 (by decide))
              · exact ⟨h1, h2, h3⟩
            · exact ⟨h1, h2, h3⟩
          · exact ⟨h1, h2, h3⟩
        · exact ⟨h1, h2, h3⟩
      · exact ⟨h1, h2, h3⟩
    · exact ⟨h1, h2, h3⟩
  · exact ⟨h1, h2, h3⟩
theorem apply_all (g : Ledger) (i : Int) (d : Sl Int) : (lApply g i d).1.past.all.D.length ≤ g.past.all.D.length + 1 := by
  unfold lApply
  cases lDead g
  · cases decide (i > 1099511627776)
    · cases decide (i < 1)
      · cases (IntKind.i64.wrap (i - 1)) != g.at_
        · cases (d.D.length : Int) == 0
          · cases (cmdGet d).2 != 0
            · cases (nextL g.chain (cmdGet d).1).2 != 0
              · cases decide ((nextL g.chain (cmdGet d).1).1.epoch > g.chain.epoch)
                · exact Nat.le_succ _
                · show (_ ++ [_]).length ≤ _
                  rw [List.length_append, List.length_singleton]; exact Nat.le_refl _
              · exact Nat.le_succ _
            · exact Nat.le_succ _
          · exact Nat.le_succ _
        · exact Nat.le_succ _
      · exact Nat.le_succ _
    · exact Nat.le_succ _
  · exact Nat.le_succ _
theorem apply_ok {g : Ledger} {n : Nat} (h : okL g) (ha : g.past.all.D.length ≤ 1 + n) {i : Int} {d : Sl Int} : okL (lApply g i d).1 ∧ (lApply g i d).1.past.all.D.length ≤ 1 + (n + 1) :=
  ⟨apply_okL h i d, by have := apply_all g i d; omega⟩
end Go.Proofs.Ytpgenmflgdkfiaa
/- A ledger behind calls. No conditions. -/
namespace Go.Proofs.Ytpgenmflgdkfiaa
open Go.Am
def made_l0 : List Do → Nat → Ledger → Ledger
  | [], _, vc => vc
  | x :: xs, i, vc => made_l0 xs (i + 1) ((lApply vc (doIndex x (lAt vc)) (doData x ((lChain vc).epoch))).1)
def made (m : (Sl Member)) (l : (Sl Do)) : Ledger :=
  made_l0 l.D 0 ((newL m).1)
theorem made_calls (m : (Sl Member)) (l : (Sl Do)) (h0 : (((firstC m).2) != 0) = false) (hL : l.D.length ≤ 1000) (hB : ∀ x ∈ l.D, x.b.D.length ≤ 100000) (hl1 : m.D.length ≤ 1000000) (_hl2 : l.D.length ≤ 1000000) : OCalls Try.prog 13 [sS (some m.nil) eMember m.D, sS (some l.nil) eDo l.D] (.ptr 0 0) (.cells [sS (some (made m l).past.all.nil) eChain ((made m l).past.all.D), .pv (.lit (.int .i64 ((made m l).chain.epoch))), sS (some (made m l).chain.members.nil) eMember ((made m l).chain.members.D), .pv (.lit (.int .i64 ((made m l).at_)))]) := by
 generalize hR : made m l = R
 refine OCalls.of_body tabOk Try.func13 rfl rfl rfl rfl rfl rfl mixed fun E hP C hI => ?_
 refine Awp.consP C ?_
 refine rvP C (.pv (.lit (.pointer none))) ?_
 refine rvc_nil ?_
 refine Awp.cons C (fun _ => .quiet) (by kernel_rfl) ?_
 refine rvP C (sS (some m.nil) eMember m.D) ?_
 refine rvc_un (rexec_callO hP C rfl rfl rfl rfl (newL_calls m h0 hl1) ?_)
 refine rvP C (.tup [.ptr 11 0, .pv (.lit (.int .i64 ((newL m).2)))]) ?_
 refine rvP C (.ptr 11 0) ?_
 refine rvP C (.pv (.lit (.int .i64 ((newL m).2)))) ?_
 refine rvP C (.ptr 11 0) ?_
 refine rvP C (.pv (.lit (.int .i64 ((newL m).2)))) ?_
 refine rvc_nil ?_
 refine Awp.seq ?_
 refine Awp.consP C ?_
 refine rvP C (sS (some l.nil) eDo l.D) ?_
 refine rvP C (.pv (.lit (.int .i64 (l.D.length : Int)))) ?_
 refine rvP C (.pv (.lit (.int .i64 0))) ?_
 refine rvc_nil ?_
 refine Awp.block ?_
 refine Awp.forR (σ := Ledger) (l.D.length) (fun i v => [(5, .ptr 11 0), (14, sS (some l.nil) eDo l.D), (15, .pv (.lit (.int .i64 (l.D.length : Int)))), (16, .pv (.lit (.int .i64 (i : Int))))]) (fun i v => [(11, .cells [sS (some v.past.all.nil) eChain v.past.all.D, .pv (.lit (.int .i64 v.chain.epoch)), sS (some v.chain.members.nil) eMember v.chain.members.D, .pv (.lit (.int .i64 v.at_))])]) [11] (fun i v => (made_l0 (l.D.drop i) i v = R) ∧ (okL v ∧ v.past.all.D.length ≤ 1 + i)) ((newL m).1) ?_ ?_ (fun i vc h1 hR => ?_)
 · exact ⟨hR, (newL_ok m hl1)⟩
 · exact ⟨fun b => b, WeakerR.ofL (Ks := [11]) hI ⟨⟨rfl, rfl⟩, ⟨rfl, rfl⟩, ⟨rfl, rfl⟩, ⟨rfl, rfl⟩, trivial⟩ (okH_cons rfl rfl rfl rfl (okH_nil)) rfl⟩
 obtain ⟨hR, ⟨hVk, hVa⟩⟩ := hR
 refine Awp.consP C ?_
 refine rvP C (.pv (.lit (.bool (decide ((i : Int) < (l.D.length : Int)))))) ?_
 refine rvc_nil ?_
 refine Awp.seq ?_
 refine Awp.cond (b := (decide ((i : Int) < (l.D.length : Int)))) rfl (fun h2 => ?_) (fun h2 => ?_)
 ·
  have h3 : i < l.D.length := by have := of_decide_eq_true h2; omega
  obtain ⟨x, h4⟩ := getX h3
  rw [drop_at h4] at hR
  refine Awp.skip ?_
  refine Awp.seq ?_
  refine Awp.block ?_
  refine Awp.consP C ?_
  refine rvc_un (rexec_idxS C rfl rfl rfl rfl rfl rfl x (Int.natCast_nonneg _) h4 ?_)
  refine rvP C (.agg [.pv (.lit (.int .i64 x.c.kind)), .pv (.lit (.int .i64 x.c.node)), .pv (.lit (.int .i64 x.c.site)), .pv (.lit (.int .i64 x.c.epoch)), sS (some x.b.nil) (eI .u8) x.b.D, .pv (.lit (.bool x.raw)), .pv (.lit (.int .i64 x.by_)), .pv (.lit (.int .i64 x.off))]) ?_
  refine rvc_un (rexec_prim C (δ := { v := .ptr 8 0, new := [(8, .cells [.pv (.lit (.int .i64 0)), .pv (.lit (.int .i64 0)), .pv (.lit (.int .i64 0)), .pv (.lit (.int .i64 0)), sS (some true) (eI .u8) [], .pv (.lit (.bool false)), .pv (.lit (.int .i64 0)), .pv (.lit (.int .i64 0))])] }) rfl rfl rfl rfl trivial rfl ?_)
  refine rvc_un (rexec_prim C (δ := { v := .undef, wr := [(8, some (.cells [.pv (.lit (.int .i64 x.c.kind)), .pv (.lit (.int .i64 x.c.node)), .pv (.lit (.int .i64 x.c.site)), .pv (.lit (.int .i64 x.c.epoch)), sS (some x.b.nil) (eI .u8) x.b.D, .pv (.lit (.bool x.raw)), .pv (.lit (.int .i64 x.by_)), .pv (.lit (.int .i64 x.off))]))] }) rfl rfl rfl rfl trivial rfl ?_)
  refine rvc_nil ?_
  refine Awp.region C (fun o => match o.dst with | some 21 => .reads [8] | some 23 => .writes [11] | some 25 => .reads [8] | some 27 => .writes [11] | some 30 => .writes [11] | _ => .pure) (by kernel_rfl) ?_
  refine rvP C (.ptr 11 0) ?_
  refine rvP C (.agg [.pv (.lit (.int .i64 x.c.kind)), .pv (.lit (.int .i64 x.c.node)), .pv (.lit (.int .i64 x.c.site)), .pv (.lit (.int .i64 x.c.epoch)), sS (some x.b.nil) (eI .u8) x.b.D, .pv (.lit (.bool x.raw)), .pv (.lit (.int .i64 x.by_)), .pv (.lit (.int .i64 x.off))]) ?_
  refine rvP C (.ptr 11 0) ?_
  refine rvc_un (rexec_callM hP C (b := 11) rfl rfl rfl (lAt_calls vc) rfl rfl ?_)
  refine rvc_un (rexec_call hP C rfl rfl rfl (doIndex_calls x (lAt vc)) ?_)
  refine rvP C (.agg [.pv (.lit (.int .i64 x.c.kind)), .pv (.lit (.int .i64 x.c.node)), .pv (.lit (.int .i64 x.c.site)), .pv (.lit (.int .i64 x.c.epoch)), sS (some x.b.nil) (eI .u8) x.b.D, .pv (.lit (.bool x.raw)), .pv (.lit (.int .i64 x.by_)), .pv (.lit (.int .i64 x.off))]) ?_
  refine rvP C (.ptr 11 0) ?_
  refine rvc_un (rexec_callM hP C (b := 11) rfl rfl rfl (lChain_calls vc hVk.2.1) rfl rfl ?_)
  refine rvP C (.pv (.lit (.int .i64 ((lChain vc).epoch)))) ?_
  refine rvc_un (rexec_call hP C rfl rfl rfl (doData_calls x ((lChain vc).epoch)) ?_)
  refine rvc_un (rexec_callM hP C (b := 11) rfl rfl rfl (lApply_calls vc (doIndex x (lAt vc)) (doData x ((lChain vc).epoch)) hVk.1 (data_len x _ (hB x (List.mem_of_getElem? (by assumption)))) hVk.2.1 (by omega)) rfl rfl ?_)
  refine rvc_nil ?_
  refine Awp.regionP C ?_
  refine rvP C (.pv (.lit (.int .i64 (IntKind.i64.wrap ((i : Int) + 1))))) ?_
  refine rvP C (.pv (.lit (.int .i64 (IntKind.i64.wrap ((i : Int) + 1))))) ?_
  refine rvc_nil ?_
  refine ⟨h3, (lApply vc (doIndex x (lAt vc)) (doData x ((lChain vc).epoch))).1, ?_, ?_⟩
  · exact ⟨hR, (apply_ok hVk hVa)⟩
  · exact ⟨fun b => b, WeakerR.ofL (Ks := [11]) hI ⟨⟨rfl, rfl⟩, ⟨rfl, rfl⟩, ⟨rfl, rfl⟩, ⟨lit_cast (wrap_i64 (by omega) (by omega)), rfl⟩, trivial⟩ (okH_cons rfl rfl rfl rfl (okH_nil)) rfl⟩
 ·
  have h3 : ¬ i < l.D.length := by have := of_decide_eq_false h2; omega
  rw [drop_end h3] at hR
  refine Awp.exit ?_
  refine Awp.consP C ?_
  refine rvP C (.ptr 11 0) ?_
  refine rvP C (.ptr 11 0) ?_
  refine rvc_nil ?_
  refine Awp.weakenR (S := [(4, .ptr 0 0)]) (H := [(0, .cells [sS (some vc.past.all.nil) eChain vc.past.all.D, .pv (.lit (.int .i64 vc.chain.epoch)), sS (some vc.chain.members.nil) eMember vc.chain.members.D, .pv (.lit (.int .i64 vc.at_))])]) (U := [0]) (fun x => bif x == 0 then 11 else x) (WeakerR.ofL (Ks := [0]) hI ⟨⟨rfl, rfl⟩, trivial⟩ (okH_cons rfl rfl rfl rfl okH_nil) rfl) ?_
  refine Awp.ret ?_
  subst hR
  exact ⟨.inl rfl, rfl, rfl⟩
end Go.Proofs.Ytpgenmflgdkfiaa
/- Ledgers behind calls: they may be asked. No conditions. -/
namespace Go.Proofs.Ytpgenmflgdkfiaa
open Go.Am
theorem lChain_len {l : Ledger} (h : okL l) : (lChain l).members.D.length ≤ 1000000 := by
  unfold lChain
  cases lDead l
  · exact Nat.le_trans (copied_len _) h.2.1
  · exact Nat.zero_le _
end Go.Proofs.Ytpgenmflgdkfiaa
/- The example; a law. No conditions. -/
namespace Go.Proofs.Ytpgenmflgdkfiaa
open Go.Am
def awake  : Bool :=
  (bif (((cmdPut (Command.mk 1 0 0 1)).2) != 0) then false else (bif (((lApply ((newL (Sl.mk false [(Member.mk 0 0 false), (Member.mk 1 0 false)])).1) 1 ((cmdPut (Command.mk 1 0 0 1)).1)).2) != 0) then false else (bif (same (lChain ((lApply ((newL (Sl.mk false [(Member.mk 0 0 false), (Member.mk 1 0 false)])).1) 1 ((cmdPut (Command.mk 1 0 0 1)).1)).1)) (Chain.mk 2 (Sl.mk false [(Member.mk 1 0 false)]))) then (bif (((lApply ((lApply ((newL (Sl.mk false [(Member.mk 0 0 false), (Member.mk 1 0 false)])).1) 1 ((cmdPut (Command.mk 1 0 0 1)).1)).1) 2 ((cmdPut (Command.mk 1 0 0 1)).1)).2) == 150) then (bif ((lAt ((lApply ((lApply ((newL (Sl.mk false [(Member.mk 0 0 false), (Member.mk 1 0 false)])).1) 1 ((cmdPut (Command.mk 1 0 0 1)).1)).1) 2 ((cmdPut (Command.mk 1 0 0 1)).1)).1)) == 2) then (((lApply ((lApply ((lApply ((newL (Sl.mk false [(Member.mk 0 0 false), (Member.mk 1 0 false)])).1) 1 ((cmdPut (Command.mk 1 0 0 1)).1)).1) 2 ((cmdPut (Command.mk 1 0 0 1)).1)).1) 2 (Sl.mk true [])).2) == 90) else false) else false) else false)))
theorem awake_calls   : PCalls Try.prog 11 [] (.pv (.lit (.bool (awake )))) := by
 generalize hR : awake  = R
 refine PCalls.of_body tabOk Try.func11 rfl rfl rfl rfl rfl mixed fun E hP C hI => ?_
 refine Awp.consP C ?_
 refine rvP C (.pv (.lit (.bool false))) ?_
 refine rvc_nil ?_
 refine Awp.cons C (fun _ => .quiet) (by kernel_rfl) ?_
 refine rvP C (.agg [.pv (.lit (.int .i64 0)), .pv (.lit (.int .i64 0)), .pv (.lit (.bool false))]) ?_
 refine rvP C (.agg [.pv (.lit (.int .i64 1)), .pv (.lit (.int .i64 0)), .pv (.lit (.bool false))]) ?_
 refine rvc_un (rexec_buildSliceF C eMember [(Member.mk 0 0 false), (Member.mk 1 0 false)] rfl rfl rfl rfl rfl rfl rfl (by decide) rfl ?_)
 refine rvc_un (rexec_callO hP C rfl rfl rfl rfl (newL_calls (Sl.mk false [(Member.mk 0 0 false), (Member.mk 1 0 false)]) (by kernel_rfl) (by simp)) ?_)
 refine rvP C (.tup [.ptr 9 0, .pv (.lit (.int .i64 ((newL (Sl.mk false [(Member.mk 0 0 false), (Member.mk 1 0 false)])).2)))]) ?_
 refine rvP C (.ptr 9 0) ?_
 refine rvP C (.pv (.lit (.int .i64 ((newL (Sl.mk false [(Member.mk 0 0 false), (Member.mk 1 0 false)])).2)))) ?_
 refine rvP C (.ptr 9 0) ?_
 refine rvP C (.pv (.lit (.int .i64 ((newL (Sl.mk false [(Member.mk 0 0 false), (Member.mk 1 0 false)])).2)))) ?_
 refine rvc_nil ?_
 refine Awp.consP C ?_
 refine rvP C (.agg [.pv (.lit (.int .i64 1)), .pv (.lit (.int .i64 0)), .pv (.lit (.int .i64 0)), .pv (.lit (.int .i64 1))]) ?_
 refine rvc_un (rexec_call hP C rfl rfl rfl (cmdPut_calls (Command.mk 1 0 0 1)) ?_)
 refine rvP C (.tup [sS (some (cmdPut (Command.mk 1 0 0 1)).1.nil) (eI .u8) ((cmdPut (Command.mk 1 0 0 1)).1.D), .pv (.lit (.int .i64 ((cmdPut (Command.mk 1 0 0 1)).2)))]) ?_
 refine rvP C (sS (some (cmdPut (Command.mk 1 0 0 1)).1.nil) (eI .u8) ((cmdPut (Command.mk 1 0 0 1)).1.D)) ?_
 refine rvP C (.pv (.lit (.int .i64 ((cmdPut (Command.mk 1 0 0 1)).2)))) ?_
 refine rvP C (sS (some (cmdPut (Command.mk 1 0 0 1)).1.nil) (eI .u8) ((cmdPut (Command.mk 1 0 0 1)).1.D)) ?_
 refine rvP C (.pv (.lit (.int .i64 ((cmdPut (Command.mk 1 0 0 1)).2)))) ?_
 refine rvc_nil ?_
 refine Awp.seq ?_
 refine Awp.cons C (fun _ => .writer) (by kernel_rfl) ?_
 refine rvP C (.pv (.lit (.int .i64 ((newL (Sl.mk false [(Member.mk 0 0 false), (Member.mk 1 0 false)])).2)))) ?_
 refine rvP C (.pv (.lit (.bool (((newL (Sl.mk false [(Member.mk 0 0 false), (Member.mk 1 0 false)])).2) != 0)))) ?_
 refine rvP C (.pv (.lit (.bool (((newL (Sl.mk false [(Member.mk 0 0 false), (Member.mk 1 0 false)])).2) != 0)))) ?_
 refine rvc_known 19 (((newL (Sl.mk false [(Member.mk 0 0 false), (Member.mk 1 0 false)])).2) != 0) false rfl (newL_e (Sl.mk false [(Member.mk 0 0 false), (Member.mk 1 0 false)])) ?_
 refine rvO C (.pv (.lit (.int .i64 ((cmdPut (Command.mk 1 0 0 1)).2)))) ?_
 refine rvO C (.pv (.lit (.bool (((cmdPut (Command.mk 1 0 0 1)).2) != 0)))) ?_
 refine rvP C (.pv (.lit (.bool (((cmdPut (Command.mk 1 0 0 1)).2) != 0)))) ?_
 refine rvP C (.pv (.lit (.bool (((cmdPut (Command.mk 1 0 0 1)).2) != 0)))) ?_
 refine rvc_case 23 (((cmdPut (Command.mk 1 0 0 1)).2) != 0) rfl (fun h1 => ?_) (fun h1 => ?_)
 ·
  replace hR := of_true h1 hR
  refine rvS ?_
  refine rvS ?_
  refine rvS ?_
  refine rvS ?_
  refine rvP C (.pv (.lit (.bool true))) ?_
  refine rvc_nil ?_
  refine Awp.condT (b := true) rfl rfl ?_
  refine Awp.consP C ?_
  refine rvP C (.pv (.lit (.bool false))) ?_
  refine rvc_nil ?_
  refine Awp.ret ?_
  subst hR
  exact ⟨.inl rfl, rfl⟩
 ·
  replace hR := of_false h1 hR
  refine rvO C (.ptr 9 0) ?_
  refine rvO C (sS (some (cmdPut (Command.mk 1 0 0 1)).1.nil) (eI .u8) ((cmdPut (Command.mk 1 0 0 1)).1.D)) ?_
  refine rvc_open rfl rfl rfl (rexec_callM hP C (b := 9) rfl rfl rfl (lApply_calls ((newL (Sl.mk false [(Member.mk 0 0 false), (Member.mk 1 0 false)])).1) 1 ((cmdPut (Command.mk 1 0 0 1)).1) (fun h => absurd (h.symm.trans (by kernel_rfl : _ = false)) Bool.noConfusion) (of_decide_eq_true (by kernel_rfl)) (of_decide_eq_true (by kernel_rfl)) (of_decide_eq_true (by kernel_rfl))) rfl rfl ?_)
  refine rvO C (.pv (.lit (.bool (((lApply ((newL (Sl.mk false [(Member.mk 0 0 false), (Member.mk 1 0 false)])).1) 1 ((cmdPut (Command.mk 1 0 0 1)).1)).2) != 0)))) ?_
  refine rvP C (.pv (.lit (.bool (((lApply ((newL (Sl.mk false [(Member.mk 0 0 false), (Member.mk 1 0 false)])).1) 1 ((cmdPut (Command.mk 1 0 0 1)).1)).2) != 0)))) ?_
  refine rvc_nil ?_
  refine Awp.cond (b := (((lApply ((newL (Sl.mk false [(Member.mk 0 0 false), (Member.mk 1 0 false)])).1) 1 ((cmdPut (Command.mk 1 0 0 1)).1)).2) != 0)) rfl (fun h2 => ?_) (fun h2 => ?_)
  ·
   replace hR := of_true h2 hR
   refine Awp.consP C ?_
   refine rvP C (.pv (.lit (.bool false))) ?_
   refine rvc_nil ?_
   refine Awp.ret ?_
   subst hR
   exact ⟨.inl rfl, rfl⟩
  ·
   replace hR := of_false h2 hR
   refine Awp.skip ?_
   refine Awp.cons C (fun _ => .writer) (by kernel_rfl) ?_
   refine rvP C (.ptr 9 0) ?_
   refine rvc_un (rexec_callM hP C (b := 9) rfl rfl rfl (lChain_calls ((lApply ((newL (Sl.mk false [(Member.mk 0 0 false), (Member.mk 1 0 false)])).1) 1 ((cmdPut (Command.mk 1 0 0 1)).1)).1) (of_decide_eq_true (by kernel_rfl))) rfl rfl ?_)
   refine rvP C (.agg [.pv (.lit (.int .i64 1)), .pv (.lit (.int .i64 0)), .pv (.lit (.bool false))]) ?_
   refine rvc_un (rexec_buildSliceF C eMember [(Member.mk 1 0 false)] rfl rfl rfl rfl rfl rfl rfl (by decide) rfl ?_)
   refine rvP C (.agg [.pv (.lit (.int .i64 2)), sS (some false) eMember [(Member.mk 1 0 false)]]) ?_
   refine rvc_un (rexec_call hP C rfl rfl rfl (same_calls (lChain ((lApply ((newL (Sl.mk false [(Member.mk 0 0 false), (Member.mk 1 0 false)])).1) 1 ((cmdPut (Command.mk 1 0 0 1)).1)).1)) (Chain.mk 2 (Sl.mk false [(Member.mk 1 0 false)])) (of_decide_eq_true (by kernel_rfl))) ?_)
   refine rvP C (.pv (.lit (.bool (same (lChain ((lApply ((newL (Sl.mk false [(Member.mk 0 0 false), (Member.mk 1 0 false)])).1) 1 ((cmdPut (Command.mk 1 0 0 1)).1)).1)) (Chain.mk 2 (Sl.mk false [(Member.mk 1 0 false)])))))) ?_
   refine rvc_case 35 (same (lChain ((lApply ((newL (Sl.mk false [(Member.mk 0 0 false), (Member.mk 1 0 false)])).1) 1 ((cmdPut (Command.mk 1 0 0 1)).1)).1)) (Chain.mk 2 (Sl.mk false [(Member.mk 1 0 false)]))) rfl (fun h3 => ?_) (fun h3 => ?_)
   ·
    replace hR := of_true h3 hR
    refine rvO C (.ptr 9 0) ?_
    refine rvO C (sS (some (cmdPut (Command.mk 1 0 0 1)).1.nil) (eI .u8) ((cmdPut (Command.mk 1 0 0 1)).1.D)) ?_
    refine rvc_open rfl rfl rfl (rexec_callM hP C (b := 9) rfl rfl rfl (lApply_calls ((lApply ((newL (Sl.mk false [(Member.mk 0 0 false), (Member.mk 1 0 false)])).1) 1 ((cmdPut (Command.mk 1 0 0 1)).1)).1) 2 ((cmdPut (Command.mk 1 0 0 1)).1) (fun h => absurd (h.symm.trans (by kernel_rfl : _ = false)) Bool.noConfusion) (of_decide_eq_true (by kernel_rfl)) (of_decide_eq_true (by kernel_rfl)) (of_decide_eq_true (by kernel_rfl))) rfl rfl ?_)
    refine rvO C (.pv (.lit (.bool (((lApply ((lApply ((newL (Sl.mk false [(Member.mk 0 0 false), (Member.mk 1 0 false)])).1) 1 ((cmdPut (Command.mk 1 0 0 1)).1)).1) 2 ((cmdPut (Command.mk 1 0 0 1)).1)).2) == 150)))) ?_
    refine rvP C (.pv (.lit (.bool (((lApply ((lApply ((newL (Sl.mk false [(Member.mk 0 0 false), (Member.mk 1 0 false)])).1) 1 ((cmdPut (Command.mk 1 0 0 1)).1)).1) 2 ((cmdPut (Command.mk 1 0 0 1)).1)).2) == 150)))) ?_
    refine rvP C (.pv (.lit (.bool (((lApply ((lApply ((newL (Sl.mk false [(Member.mk 0 0 false), (Member.mk 1 0 false)])).1) 1 ((cmdPut (Command.mk 1 0 0 1)).1)).1) 2 ((cmdPut (Command.mk 1 0 0 1)).1)).2) == 150)))) ?_
    refine rvc_case 41 (((lApply ((lApply ((newL (Sl.mk false [(Member.mk 0 0 false), (Member.mk 1 0 false)])).1) 1 ((cmdPut (Command.mk 1 0 0 1)).1)).1) 2 ((cmdPut (Command.mk 1 0 0 1)).1)).2) == 150) rfl (fun h4 => ?_) (fun h4 => ?_)
    ·
     replace hR := of_true h4 hR
     refine rvO C (.ptr 9 0) ?_
     refine rvc_open rfl rfl rfl (rexec_callM hP C (b := 9) rfl rfl rfl (lAt_calls ((lApply ((lApply ((newL (Sl.mk false [(Member.mk 0 0 false), (Member.mk 1 0 false)])).1) 1 ((cmdPut (Command.mk 1 0 0 1)).1)).1) 2 ((cmdPut (Command.mk 1 0 0 1)).1)).1)) rfl rfl ?_)
     refine rvO C (.pv (.lit (.bool ((lAt ((lApply ((lApply ((newL (Sl.mk false [(Member.mk 0 0 false), (Member.mk 1 0 false)])).1) 1 ((cmdPut (Command.mk 1 0 0 1)).1)).1) 2 ((cmdPut (Command.mk 1 0 0 1)).1)).1)) == 2)))) ?_
     refine rvP C (.pv (.lit (.bool ((lAt ((lApply ((lApply ((newL (Sl.mk false [(Member.mk 0 0 false), (Member.mk 1 0 false)])).1) 1 ((cmdPut (Command.mk 1 0 0 1)).1)).1) 2 ((cmdPut (Command.mk 1 0 0 1)).1)).1)) == 2)))) ?_
     refine rvP C (.pv (.lit (.bool ((lAt ((lApply ((lApply ((newL (Sl.mk false [(Member.mk 0 0 false), (Member.mk 1 0 false)])).1) 1 ((cmdPut (Command.mk 1 0 0 1)).1)).1) 2 ((cmdPut (Command.mk 1 0 0 1)).1)).1)) == 2)))) ?_
     refine rvc_case 46 ((lAt ((lApply ((lApply ((newL (Sl.mk false [(Member.mk 0 0 false), (Member.mk 1 0 false)])).1) 1 ((cmdPut (Command.mk 1 0 0 1)).1)).1) 2 ((cmdPut (Command.mk 1 0 0 1)).1)).1)) == 2) rfl (fun h5 => ?_) (fun h5 => ?_)
     ·
      replace hR := of_true h5 hR
      refine rvO C (.ptr 9 0) ?_
      refine rvc_open rfl rfl rfl (rexec_callM hP C (b := 9) rfl rfl rfl (lApply_calls ((lApply ((lApply ((newL (Sl.mk false [(Member.mk 0 0 false), (Member.mk 1 0 false)])).1) 1 ((cmdPut (Command.mk 1 0 0 1)).1)).1) 2 ((cmdPut (Command.mk 1 0 0 1)).1)).1) 2 (Sl.mk true []) (fun h => absurd (h.symm.trans (by kernel_rfl : _ = false)) Bool.noConfusion) (of_decide_eq_true (by kernel_rfl)) (of_decide_eq_true (by kernel_rfl)) (of_decide_eq_true (by kernel_rfl))) rfl rfl ?_)
      refine rvO C (.pv (.lit (.bool (((lApply ((lApply ((lApply ((newL (Sl.mk false [(Member.mk 0 0 false), (Member.mk 1 0 false)])).1) 1 ((cmdPut (Command.mk 1 0 0 1)).1)).1) 2 ((cmdPut (Command.mk 1 0 0 1)).1)).1) 2 (Sl.mk true [])).2) == 90)))) ?_
      refine rvP C (.pv (.lit (.bool (((lApply ((lApply ((lApply ((newL (Sl.mk false [(Member.mk 0 0 false), (Member.mk 1 0 false)])).1) 1 ((cmdPut (Command.mk 1 0 0 1)).1)).1) 2 ((cmdPut (Command.mk 1 0 0 1)).1)).1) 2 (Sl.mk true [])).2) == 90)))) ?_
      refine rvP C (.pv (.lit (.bool (((lApply ((lApply ((lApply ((newL (Sl.mk false [(Member.mk 0 0 false), (Member.mk 1 0 false)])).1) 1 ((cmdPut (Command.mk 1 0 0 1)).1)).1) 2 ((cmdPut (Command.mk 1 0 0 1)).1)).1) 2 (Sl.mk true [])).2) == 90)))) ?_
      refine rvc_nil ?_
      refine Awp.ret ?_
      subst hR
      exact ⟨.inl rfl, rfl⟩
     ·
      replace hR := of_false h5 hR
      refine rvS ?_
      refine rvS ?_
      refine rvS ?_
      refine rvP C (.pv (.lit (.bool false))) ?_
      refine rvP C (.pv (.lit (.bool false))) ?_
      refine rvc_nil ?_
      refine Awp.ret ?_
      subst hR
      exact ⟨.inl rfl, rfl⟩
    ·
     replace hR := of_false h4 hR
     refine rvS ?_
     refine rvS ?_
     refine rvS ?_
     refine rvP C (.pv (.lit (.bool false))) ?_
     refine rvP C (.pv (.lit (.bool false))) ?_
     refine rvS ?_
     refine rvS ?_
     refine rvS ?_
     refine rvP C (.pv (.lit (.bool false))) ?_
     refine rvP C (.pv (.lit (.bool false))) ?_
     refine rvc_nil ?_
     refine Awp.ret ?_
     subst hR
     exact ⟨.inl rfl, rfl⟩
   ·
    replace hR := of_false h3 hR
    refine rvS ?_
    refine rvS ?_
    refine rvS ?_
    refine rvS ?_
    refine rvP C (.pv (.lit (.bool false))) ?_
    refine rvP C (.pv (.lit (.bool false))) ?_
    refine rvS ?_
    refine rvS ?_
    refine rvS ?_
    refine rvP C (.pv (.lit (.bool false))) ?_
    refine rvP C (.pv (.lit (.bool false))) ?_
    refine rvS ?_
    refine rvS ?_
    refine rvS ?_
    refine rvP C (.pv (.lit (.bool false))) ?_
    refine rvP C (.pv (.lit (.bool false))) ?_
    refine rvc_nil ?_
    refine Awp.ret ?_
    subst hR
    exact ⟨.inl rfl, rfl⟩
end Go.Proofs.Ytpgenmflgdkfiaa
/- Calls that may be gone through are few. No conditions. -/
namespace Go.Proofs.Ytpgenmflgdkfiaa
open Go.Am
theorem short_l1_ok (x : Sl Do) (kk : Int → Int → Int → Bool) (hk : ∀ n a i, 0 ≤ a → a ≤ 151 → 0 ≤ n → n ≤ 8193 → kk n a i = true → a ≤ 150 ∧ n ≤ 4096) : ∀ (f : Nat) (n a i : Int), f = x.D.length - i.toNat + 1 → 0 ≤ i → i ≤ (x.D.length : Int) → i ≤ a → a ≤ 151 → 0 ≤ n → n ≤ 8193 → short_l1 x kk f n a i = true →
    (a ≤ 150 ∧ n ≤ 4096) ∧ (x.D.length : Int) - i + a ≤ 150 ∧ ∀ j, i.toNat ≤ j → ∀ y, x.D[j]? = some y → y.b.D.length ≤ 4096
  | 0, _, _, _, hf, _, _, _, _, _, _, _ => by omega
  | f + 1, n, a, i, hf, h0, h1, h2, h3, h4, h5, h => by
    unfold short_l1 at h
    cases e1 : decide (i < (x.D.length : Int))
    · rw [e1] at h
      have h6 := of_decide_eq_false e1
      have h7 := hk n a i (by omega) h3 h4 h5 h
      refine ⟨h7, by omega, fun j hj y hy => ?_⟩
      rw [List.getElem?_eq_none (by omega)] at hy; cases hy
    · have h6 := of_decide_eq_true e1
      rw [e1] at h
      simp only [cond_true] at h
      cases e2 : decide (a ≤ 150)
      · rw [e2] at h
        have := of_decide_eq_false e2
        have := (hk n a i (by omega) h3 h4 h5 h).1
        omega
      · have h7 := of_decide_eq_true e2
        rw [e2] at h
        simp only [cond_true] at h
        cases e3 : decide (n ≤ 4096)
        · rw [e3] at h
          have := of_decide_eq_false e3
          have := (hk n a i (by omega) h3 h4 h5 h).2
          omega
        · have h8 := of_decide_eq_true e3
          rw [e3] at h
          simp only [cond_true] at h
          have hm := min97 ((x.D[i.toNat]!.b.D).length : Int) (Int.natCast_nonneg _)
          have hw1 := wrapI (n + (bif (decide ((4097 : Int) < ((x.D[i.toNat]!.b.D).length : Int))) then (4097 : Int) else ((x.D[i.toNat]!.b.D).length : Int)))
          have hw2 := wrapI (a + 1)
          have hw3 := wrapI (i + 1)
          have ih := short_l1_ok x kk hk f _ _ _ (by omega) (by omega) (by omega) (by omega) (by omega) (by omega) (by omega) h
          obtain ⟨⟨i1, i2⟩, i3, i4⟩ := ih
          refine ⟨⟨h7, h8⟩, by omega, fun j hj y hy => ?_⟩
          rcases Nat.lt_or_ge i.toNat j with hlt | hge
          · exact i4 j (by omega) y hy
          · have hji : j = i.toNat := by omega
            subst hji
            have hy2 : x.D[i.toNat]! = y := by
              rw [getElem!_def, hy]
            rw [hy2] at hw1 hm i2
            cases e4 : decide ((4097 : Int) < (y.b.D.length : Int))
            · have := of_decide_eq_false e4
              rw [e4] at hw1 i2
              simp only [cond_false] at hw1 i2
              omega
            · rw [e4] at hw1 i2
              simp only [cond_true] at hw1 i2
              omega
theorem short_l0_ok : ∀ (l : List (Sl Do)) (i : Nat) (n a : Int), 0 ≤ a → a ≤ 151 → 0 ≤ n → n ≤ 8193 → short_l0 l i n a = true → (a ≤ 150 ∧ n ≤ 4096) ∧ ∀ x ∈ l, x.D.length ≤ 150 ∧ ∀ y ∈ x.D, y.b.D.length ≤ 4096
  | [], _, n, a, _, _, _, _, h => by
    unfold short_l0 at h
    cases e1 : decide (a ≤ 150)
    · rw [e1] at h; cases h
    · rw [e1] at h
      exact ⟨⟨of_decide_eq_true e1, of_decide_eq_true h⟩, fun x hx => by cases hx⟩
  | x :: l, i, n, a, h0, h1, h2, h3, h => by
    unfold short_l0 at h
    -- what follows holds of what the rounds leave
    by_cases hx : (a ≤ 150 ∧ n ≤ 4096) ∧ (x.D.length : Int) - 0 + a ≤ 150 ∧ ∀ j, (0 : Int).toNat ≤ j → ∀ y, x.D[j]? = some y → y.b.D.length ≤ 4096
    · obtain ⟨p1, p2, p3⟩ := hx
      have hx1 : x.D.length ≤ 150 ∧ ∀ y ∈ x.D, y.b.D.length ≤ 4096 := ⟨by omega, fun y hy => by
        obtain ⟨j, hj⟩ := List.getElem?_of_mem hy
        exact p3 j (Nat.zero_le _) y hj⟩
      refine ⟨p1, fun z hz => ?_⟩
      cases hz with
      | head => exact hx1
      | tail _ hz =>
        -- the rest
        have key : ∀ (f : Nat) (n a i' : Int), 0 ≤ i' → i' ≤ a → a ≤ 151 → 0 ≤ n → n ≤ 8193 → f = x.D.length - i'.toNat + 1 → i' ≤ (x.D.length : Int) → short_l1 x (fun n1 acts1 _ => short_l0 l (i + 1) n1 acts1) f n a i' = true → ∃ n1 a1, 0 ≤ a1 ∧ a1 ≤ 151 ∧ 0 ≤ n1 ∧ n1 ≤ 8193 ∧ short_l0 l (i + 1) n1 a1 = true := by
          intro f
          induction f with
          | zero => intro n a i' _ _ _ _ _ hf; omega
          | succ f ih =>
            intro n a i' q0 q1 q2 q3 q4 q5 q6 q
            unfold short_l1 at q
            cases e1 : decide (i' < (x.D.length : Int))
            · rw [e1] at q; exact ⟨n, a, by omega, q2, q3, q4, q⟩
            · have h6 := of_decide_eq_true e1
              rw [e1] at q
              simp only [cond_true] at q
              cases e2 : decide (a ≤ 150)
              · rw [e2] at q; exact ⟨n, a, by omega, q2, q3, q4, q⟩
              · have h7 := of_decide_eq_true e2
                rw [e2] at q
                simp only [cond_true] at q
                cases e3 : decide (n ≤ 4096)
                · rw [e3] at q; exact ⟨n, a, by omega, q2, q3, q4, q⟩
                · have h8 := of_decide_eq_true e3
                  rw [e3] at q
                  simp only [cond_true] at q
                  have hm := min97 ((x.D[i'.toNat]!.b.D).length : Int) (Int.natCast_nonneg _)
                  have hw1 := wrapI (n + (bif (decide ((4097 : Int) < ((x.D[i'.toNat]!.b.D).length : Int))) then (4097 : Int) else ((x.D[i'.toNat]!.b.D).length : Int)))
                  have hw2 := wrapI (a + 1)
                  have hw3 := wrapI (i' + 1)
                  exact ih _ _ _ (by omega) (by omega) (by omega) (by omega) (by omega) (by omega) (by omega) q
        obtain ⟨n1, a1, k1, k2, k3, k4, k5⟩ := key _ n a 0 (Int.le_refl _) h0 h1 h2 h3 rfl (by omega) h
        exact (short_l0_ok l (i + 1) n1 a1 k1 k2 k3 k4 k5).2 z hz
    · exact absurd (short_l1_ok x _ (fun n1 a1 _ g0 g1 g2 g3 hh => (short_l0_ok l (i + 1) n1 a1 g0 g1 g2 g3 hh).1) _ n a 0 rfl (Int.le_refl _) (by omega) h0 h1 h2 h3 h) hx
theorem short_ok {ls : Sl (Sl Do)} (h : (!(short ls)) = false) (l : Sl Do) (hl : l ∈ ls.D) : l.D.length ≤ 150 ∧ ∀ y ∈ l.D, y.b.D.length ≤ 4096 :=
  (short_l0_ok ls.D 0 0 0 (Int.le_refl _) (by decide) (Int.le_refl _) (by decide) (by simpa [short] using h)).2 l hl
end Go.Proofs.Ytpgenmflgdkfiaa
/- Laws: once; refused. No conditions. -/
namespace Go.Proofs.Ytpgenmflgdkfiaa
open Go.Am
end Go.Proofs.Ytpgenmflgdkfiaa
/- Numbers as bytes, in plain words: put, and read. No conditions. -/
namespace Go.Proofs.Ytpgenmflgdkfiaa
open Go.Am
end Go.Proofs.Ytpgenmflgdkfiaa
/- What readers of bytes read, in plain words. No conditions. -/
namespace Go.Proofs.Ytpgenmflgdkfiaa
open Go.Am
/-- A reader of these bytes, with no error, ahead of those. -/
structure RdAt (r : Reader) (D l : List Int) : Prop where
  b : r.b.D = D
  made : r.made = true
  err : r.err = 0
  suf : l <:+ D
  at' : r.at_ = (D.length : Int) - l.length
theorem RdAt.drop {r : Reader} {D l : List Int} (h : RdAt r D l) : D.drop r.at_.toNat = l := by
  have h1 := List.suffix_iff_eq_drop.1 h.suf
  have h2 := h.suf.length_le
  have : r.at_.toNat = D.length - l.length := by have := h.at'; omega
  rw [this]; exact h1.symm
theorem RdAt.ok {r : Reader} {D l : List Int} (h : RdAt r D l) (hl : D.length ≤ 1000000) : okR r := by
  have h2 := h.suf.length_le
  have h3 := h.at'
  have h4 := h.b
  exact ⟨⟨by omega, by rw [h4]; omega⟩, by rw [h4]; exact hl⟩
end Go.Proofs.Ytpgenmflgdkfiaa
/- What the reference's readers of bytes read, in plain words. No conditions. -/
namespace Go.Proofs.Ytpgenmflgdkfiaa
open Go.Am
/-- A reader of the reference, likewise. -/
structure RrAt (r : Reader94) (D l : List Int) : Prop where
  b : r.b.D = D
  err : r.e_ = 0
  suf : l <:+ D
  at' : r.at_ = (D.length : Int) - l.length
theorem RrAt.drop {r : Reader94} {D l : List Int} (h : RrAt r D l) : D.drop r.at_.toNat = l := by
  have h1 := List.suffix_iff_eq_drop.1 h.suf
  have h2 := h.suf.length_le
  have : r.at_.toNat = D.length - l.length := by have := h.at'; omega
  rw [this]; exact h1.symm
end Go.Proofs.Ytpgenmflgdkfiaa
/- Commands as bytes, in plain words. No conditions. -/
namespace Go.Proofs.Ytpgenmflgdkfiaa
open Go.Am
def zeroC : Command := ⟨0, 0, 0, 0⟩
def asked (o : Option Command) : Command × Int :=
  match o with
  | some c => bif cmdCheck c != 0 then (zeroC, 120) else (c, 0)
  | none => (zeroC, 120)
end Go.Proofs.Ytpgenmflgdkfiaa
/- The law of commands. No conditions. -/
namespace Go.Proofs.Ytpgenmflgdkfiaa
open Go.Am
theorem awake_true : awake = true := by decide +kernel
end Go.Proofs.Ytpgenmflgdkfiaa
/- Inputs of chapter 12, as plain values. No conditions. -/
namespace Go.Proofs.Ytpgenmflgdkfiaa
open Go.Am
set_option maxRecDepth 100000 in
theorem flat3 {m : Nat} {ps : List PV} (h : Flat Try.prog (m + 1) 3 ps) : ∃ n, ps = [.lit (.int .i64 n)] ∧ (Lit.int .i64 n).wf = true := by
  unfold Flat at h
  rw [Try.underlying3] at h
  exact h
def WT25 (x : Command) : Prop := (Lit.int .i64 x.kind).wf = true ∧ (Lit.int .i64 x.node).wf = true ∧ (Lit.int .i64 x.site).wf = true ∧ (Lit.int .i64 x.epoch).wf = true
set_option maxRecDepth 100000 in
theorem flat25 {m : Nat} {ps : List PV} (h : Flat Try.prog (m + 2) 25 ps) : ∃ x : Command, ps = eCommand.enc x ∧ WT25 x := by
  unfold Flat at h
  rw [Try.underlying25] at h
  obtain ⟨a0, b0, e0, h0, a1, b1, e1, h1, a2, b2, e2, h2, a3, b3, e3, h3, el⟩ := h
  obtain ⟨x0, rfl, w0⟩ := flat3 (m := m + 0) h0
  obtain ⟨x1, rfl, w1⟩ := flat3 (m := m + 0) h1
  obtain ⟨x2, rfl, w2⟩ := flat3 (m := m + 0) h2
  obtain ⟨x3, rfl, w3⟩ := flat3 (m := m + 0) h3
  subst el
  subst e3
  subst e2
  subst e1
  subst e0
  exact ⟨⟨x0, x1, x2, x3⟩, rfl, w0, w1, w2, w3⟩
set_option maxRecDepth 100000 in
theorem flat5 {m : Nat} {ps : List PV} (h : Flat Try.prog (m + 1) 5 ps) : ∃ n, ps = [.lit (.int .u8 n)] ∧ (Lit.int .u8 n).wf = true := by
  unfold Flat at h
  rw [Try.underlying5] at h
  exact h
def WT26 (s : Sl Int) : Prop := s.D.length ≤ maxLen ∧ (s.nil = true → s.D = []) ∧ ∀ x ∈ s.D, (Lit.int .u8 x).wf = true
set_option maxRecDepth 100000 in
theorem flat26 {m : Nat} {ps : List PV} (h : Flat Try.prog (m + 2) 26 ps) : ∃ s : Sl Int, ps = [.sl (some s.nil) s.D.length (encL (eI .u8) s.D)] ∧ WT26 s := by
  unfold Flat at h
  rw [Try.underlying26] at h
  obtain ⟨b, D, rfl, h1, h2, h3⟩ := h
  obtain ⟨D2, e1, e2, e3⟩ := enc_list (e := (eI .u8)) (W := fun x => (Lit.int .u8 x).wf = true) D fun y hy => flat5 (h3 y hy)
  rw [e2, ← e1]
  exact ⟨⟨b, D2⟩, rfl, (by show D2.length ≤ _; rw [e1]; exact h1), (fun hb => by have := h2 hb; rw [this] at e1; exact List.eq_nil_of_length_eq_zero e1), e3⟩
set_option maxRecDepth 100000 in
theorem flat4 {m : Nat} {ps : List PV} (h : Flat Try.prog (m + 1) 4 ps) : ∃ b, ps = [.lit (.bool b)] ∧ True := by
  unfold Flat at h
  rw [Try.underlying4] at h
  obtain ⟨b, h⟩ := h
  exact ⟨b, h, trivial⟩
def WT63 (x : Member) : Prop := (Lit.int .i64 x.node).wf = true ∧ (Lit.int .i64 x.site).wf = true ∧ True
set_option maxRecDepth 100000 in
theorem flat63 {m : Nat} {ps : List PV} (h : Flat Try.prog (m + 2) 63 ps) : ∃ x : Member, ps = eMember.enc x ∧ WT63 x := by
  unfold Flat at h
  rw [Try.underlying63] at h
  obtain ⟨a0, b0, e0, h0, a1, b1, e1, h1, a2, b2, e2, h2, el⟩ := h
  obtain ⟨x0, rfl, w0⟩ := flat3 (m := m + 0) h0
  obtain ⟨x1, rfl, w1⟩ := flat3 (m := m + 0) h1
  obtain ⟨x2, rfl, w2⟩ := flat4 (m := m + 0) h2
  subst el
  subst e2
  subst e1
  subst e0
  exact ⟨⟨x0, x1, x2⟩, rfl, w0, w1, w2⟩
def WT22 (s : Sl Member) : Prop := s.D.length ≤ maxLen ∧ (s.nil = true → s.D = []) ∧ ∀ x ∈ s.D, WT63 x
set_option maxRecDepth 100000 in
theorem flat22 {m : Nat} {ps : List PV} (h : Flat Try.prog (m + 3) 22 ps) : ∃ s : Sl Member, ps = [.sl (some s.nil) s.D.length (encL eMember s.D)] ∧ WT22 s := by
  unfold Flat at h
  rw [Try.underlying22] at h
  obtain ⟨b, D, rfl, h1, h2, h3⟩ := h
  obtain ⟨D2, e1, e2, e3⟩ := enc_list (e := eMember) (W := fun x => WT63 x) D fun y hy => flat63 (h3 y hy)
  rw [e2, ← e1]
  exact ⟨⟨b, D2⟩, rfl, (by show D2.length ≤ _; rw [e1]; exact h1), (fun hb => by have := h2 hb; rw [this] at e1; exact List.eq_nil_of_length_eq_zero e1), e3⟩
def WT28 (x : Do) : Prop := WT25 x.c ∧ WT26 x.b ∧ True ∧ (Lit.int .i64 x.by_).wf = true ∧ (Lit.int .i64 x.off).wf = true
set_option maxRecDepth 100000 in
theorem flat28 {m : Nat} {ps : List PV} (h : Flat Try.prog (m + 3) 28 ps) : ∃ x : Do, ps = eDo.enc x ∧ WT28 x := by
  unfold Flat at h
  rw [Try.underlying28] at h
  obtain ⟨a0, b0, e0, h0, a1, b1, e1, h1, a2, b2, e2, h2, a3, b3, e3, h3, a4, b4, e4, h4, el⟩ := h
  obtain ⟨x0, rfl, w0⟩ := flat25 (m := m + 0) h0
  obtain ⟨x1, rfl, w1⟩ := flat26 (m := m + 0) h1
  obtain ⟨x2, rfl, w2⟩ := flat4 (m := m + 1) h2
  obtain ⟨x3, rfl, w3⟩ := flat3 (m := m + 1) h3
  obtain ⟨x4, rfl, w4⟩ := flat3 (m := m + 1) h4
  subst el
  subst e4
  subst e3
  subst e2
  subst e1
  subst e0
  exact ⟨⟨x0, x1, x2, x3, x4⟩, rfl, w0, w1, w2, w3, w4⟩
def WT23 (s : Sl Do) : Prop := s.D.length ≤ maxLen ∧ (s.nil = true → s.D = []) ∧ ∀ x ∈ s.D, WT28 x
set_option maxRecDepth 100000 in
theorem flat23 {m : Nat} {ps : List PV} (h : Flat Try.prog (m + 4) 23 ps) : ∃ s : Sl Do, ps = [.sl (some s.nil) s.D.length (encL eDo s.D)] ∧ WT23 s := by
  unfold Flat at h
  rw [Try.underlying23] at h
  obtain ⟨b, D, rfl, h1, h2, h3⟩ := h
  obtain ⟨D2, e1, e2, e3⟩ := enc_list (e := eDo) (W := fun x => WT28 x) D fun y hy => flat28 (h3 y hy)
  rw [e2, ← e1]
  exact ⟨⟨b, D2⟩, rfl, (by show D2.length ≤ _; rw [e1]; exact h1), (fun hb => by have := h2 hb; rw [this] at e1; exact List.eq_nil_of_length_eq_zero e1), e3⟩
end Go.Proofs.Ytpgenmflgdkfiaa
/- The contract of LedgerCommands. No conditions. -/
namespace Go.Proofs.Ytpgenmflgdkfiaa
open Go.Am
end Go.Proofs.Ytpgenmflgdkfiaa
/- The epoch behind a command; what is not told by one. No conditions. -/
namespace Go.Proofs.Ytpgenmflgdkfiaa
open Go.Am
/-- What a change of a chain tells. -/
def told (c : Chain) (x : Chain × Int) : Prop := (x.2 = 0 → (x.1.epoch = c.epoch ∨ x.1.epoch = c.epoch + 1) ∧ check c = 0) ∧ x.2 ≠ 90
theorem told_err (c d : Chain) {e : Int} (h0 : e ≠ 0) (h : e ≠ 90) : told c (d, e) := ⟨fun h => absurd h h0, h⟩
theorem told_bif {c : Chain} {b : Bool} {x y : Chain × Int} (hx : b = true → told c x) (hy : b = false → told c y) : told c (bif b then x else y) := by
  cases b
  · exact hy rfl
  · exact hx rfl
theorem told_after {c : Chain} (h : check c = 0) (l : Sl Member) : told c (after c l, 0) :=
  ⟨fun _ => ⟨.inr (wrap_epoch h), h⟩, by show (0 : Int) ≠ 90; decide⟩
theorem told_check {c d : Chain} (h : (check c != 0) = true) : told c (d, check c) := by
  rcases check_80 c with e | e
  · rw [e] at h; cases h
  · rw [e]; exact told_err _ _ (by decide) (by decide)
theorem told_finW {c : Chain} (h : check c = 0) (l : List Member) : told c (finW c l) := by
  unfold finW
  refine told_bif (fun _ => told_err _ _ (by decide) (by decide)) fun _ => told_bif (fun _ => told_err _ _ (by decide) (by decide)) fun _ => told_bif (fun _ => told_err _ _ (by decide) (by decide)) fun _ => told_after h _
theorem told_without {c : Chain} (h : check c = 0) (g : Int) : told c (without c g) := by rw [without_eq]; exact told_finW h _
theorem told_drop (c : Chain) (n : Int) : told c (drop c n) := by
  unfold drop
  exact told_bif (fun h => told_check h) fun h => told_without (eq_of_bne_false h) _
theorem told_dropSite_l0 {c : Chain} (h : check c = 0) (s : Int) : ∀ (l : List Member) (i : Nat) (g : Int), told c (dropSite_l0 c s l i g)
  | [], _, g => by unfold dropSite_l0; exact told_without h g
  | x :: l, i, g => by
    unfold dropSite_l0
    exact told_bif (fun _ => told_dropSite_l0 h s l _ _) fun _ => told_dropSite_l0 h s l _ _
theorem told_dropSite (c : Chain) (s : Int) : told c (dropSite c s) := by
  unfold dropSite
  exact told_bif (fun h => told_check h) fun h => told_dropSite_l0 (eq_of_bne_false h) _ _ _ _
theorem told_join_l0 {c : Chain} (h : check c = 0) (m : Member) : ∀ (f : Nat) (i : Int), f = c.members.D.length - i.toNat + 1 → 0 ≤ i → i ≤ (c.members.D.length : Int) → told c (join_l0 c m f i)
  | 0, _, hf, _, _ => by omega
  | f + 1, i, hf, h0, h1 => by
    have h6 := check_le6 h
    unfold join_l0
    have e : told c (bif (i == 0) then ((Chain.mk 0 (Sl.mk true [])), (152 : Int)) else ((after c (Sl.mk false (insertL c.members.D i.toNat [(Member.mk m.node m.site true)]))), 0)) :=
      told_bif (fun _ => told_err _ _ (by decide) (by decide)) fun _ => told_after h _
    refine told_bif (fun hlt => told_bif (fun _ => ?_) fun _ => e) fun _ => e
    have := of_decide_eq_true hlt
    have := wrapI (i + 1)
    exact told_join_l0 h m f _ (by omega) (by omega) (by omega)
theorem told_join (c : Chain) (m : Member) : told c (join c m) := by
  unfold join
  refine told_bif (fun h => told_check h) fun h => told_bif (fun _ => told_err _ _ (by decide) (by decide)) fun _ => told_bif (fun _ => told_err _ _ (by decide) (by decide)) fun _ => told_bif (fun _ => told_err _ _ (by decide) (by decide)) fun _ => ?_
  exact told_join_l0 (eq_of_bne_false h) m _ 0 (by omega) (Int.le_refl _) (by omega)
theorem told_again (c : Chain) (n : Int) : told c (again c n) := by
  unfold again
  exact told_bif (fun h => told_check h) fun h => told_bif (fun _ => told_err _ _ (by decide) (by decide)) fun _ => told_bif (fun _ => told_err _ _ (by decide) (by decide)) fun _ => told_after (eq_of_bne_false h) _
theorem told_ready (c : Chain) (n : Int) : told c (ready c n) := by
  unfold ready
  exact told_bif (fun h => told_check h) fun h => told_bif (fun _ => told_err _ _ (by decide) (by decide)) fun _ => told_bif (fun _ => told_err _ _ (by decide) (by decide)) fun _ => ⟨fun _ => ⟨.inl rfl, eq_of_bne_false h⟩, by show (0 : Int) ≠ 90; decide⟩
theorem told_next (c : Chain) (k : Command) : told c (nextL c k) := by
  unfold nextL
  exact told_bif (fun _ => told_err _ _ (by decide) (by decide)) fun _ => told_bif (fun _ => told_drop _ _) fun _ => told_bif (fun _ => told_dropSite _ _) fun _ => told_bif (fun _ => told_join _ _) fun _ => told_bif (fun _ => told_again _ _) fun _ => told_ready _ _
theorem get_code (b : Sl Int) : (cmdGet b).2 = 0 ∨ (cmdGet b).2 = 120 := by
  unfold cmdGet
  cases (rdEnd (rdIn (rdIn (rdIn (rdIn (rdNew b) 0 99).1 0 6).1 0 3).1 0 1099511627776).1) != 0
  · simp only [cond_false]
    cases cmdCheck _ != 0
    · exact .inl rfl
    · exact .inr rfl
  · exact .inr rfl
/-- A ledger behind so many calls. -/
structure Lived (g : Ledger) (n : Nat) : Prop where
  lo : 1 ≤ g.chain.epoch
  hi : g.chain.epoch ≤ 1 + (n : Int)
  at0 : 0 ≤ g.at_
  at1 : g.at_ ≤ (n : Int)
theorem Lived.dead {g : Ledger} {n : Nat} (h : Lived g n) : lDead g = false := by
  have := h.lo
  unfold lDead
  simp; omega
theorem Lived.chain {g : Ledger} {n : Nat} (h : Lived g n) : lChain g = copied g.chain := by unfold lChain; rw [h.dead]; rfl
theorem Lived.at_ {g : Ledger} {n : Nat} (h : Lived g n) : lAt g = g.at_ := by unfold lAt; rw [h.dead]; rfl
/-- What Apply does, told by cases. -/
theorem apply_cases {g : Ledger} {n : Nat} (h : Lived g n) (_ : n ≤ 1000) (i : Int) (d : Sl Int) :
    (lApply g i d = (g, 90)) ∨
    (i = g.at_ + 1 ∧ ((lApply g i d = (Ledger.mk g.past g.chain i, 0) ∧ d.D.length = 0) ∨ (lApply g i d = (Ledger.mk g.past g.chain i, (cmdGet d).2) ∧ (cmdGet d).2 = 120) ∨
      ((cmdGet d).2 = 0 ∧ lApply g i d = (Ledger.mk g.past g.chain i, (nextL g.chain (cmdGet d).1).2) ∧ (nextL g.chain (cmdGet d).1).2 ≠ 0) ∨
      ((cmdGet d).2 = 0 ∧ (nextL g.chain (cmdGet d).1).2 = 0 ∧ (((nextL g.chain (cmdGet d).1).1.epoch > g.chain.epoch ∧ lApply g i d = (Ledger.mk (Past.mk (Sl.mk false (g.past.all.D ++ [copied (nextL g.chain (cmdGet d).1).1]))) (nextL g.chain (cmdGet d).1).1 i, 0)) ∨
        (¬ (nextL g.chain (cmdGet d).1).1.epoch > g.chain.epoch ∧ lApply g i d = (Ledger.mk g.past (nextL g.chain (cmdGet d).1).1 i, 0)))))) := by
  have h1 := h.at0
  have h2 := h.at1
  unfold lApply
  rw [h.dead, cond_false]
  cases e1 : decide (i > 1099511627776)
  · have f1 := of_decide_eq_false e1
    rw [cond_false]
    cases e2 : decide (i < 1)
    · have f2 := of_decide_eq_false e2
      rw [cond_false]
      cases e3 : IntKind.i64.wrap (i - 1) != g.at_
      · have f3 := eq_of_bne_false e3
        have := wrapI (i - 1)
        have hi : i = g.at_ + 1 := by omega
        rw [cond_false]
        refine .inr ⟨hi, ?_⟩
        cases e4 : (d.D.length : Int) == 0
        · rw [cond_false]
          refine .inr ?_
          rcases get_code d with e5 | e5
          · rw [e5]
            simp only [bne_self_eq_false, cond_false]
            refine .inr ?_
            cases e6 : (nextL g.chain (cmdGet d).1).2 != 0
            · have f6 := eq_of_bne_false e6
              rw [cond_false]
              refine .inr ⟨by first | rfl | trivial, f6, ?_⟩
              cases e7 : decide ((nextL g.chain (cmdGet d).1).1.epoch > g.chain.epoch)
              · exact .inr ⟨of_decide_eq_false e7, rfl⟩
              · exact .inl ⟨of_decide_eq_true e7, rfl⟩
            · exact .inl ⟨by first | rfl | trivial, rfl, by simpa using e6⟩
          · rw [e5]
            exact .inl ⟨rfl, rfl⟩
        · exact .inl ⟨rfl, by simpa using e4⟩
      · exact .inl rfl
    · exact .inl rfl
  · exact .inl rfl
theorem Lived.apply {g : Ledger} {n : Nat} (h : Lived g n) (hn : n ≤ 1000) (i : Int) (d : Sl Int) : Lived (lApply g i d).1 (n + 1) := by
  have a := h.lo; have b := h.hi; have c := h.at0; have e := h.at1
  rcases apply_cases h hn i d with q | ⟨hi, ⟨q, _⟩ | ⟨q, _⟩ | ⟨_, q, _⟩ | ⟨_, q0, ⟨_, q⟩ | ⟨_, q⟩⟩⟩
  · rw [q]; exact ⟨a, by dsimp only; omega, c, by dsimp only; omega⟩
  · rw [q]; exact ⟨a, by dsimp only; omega, by dsimp only; omega, by dsimp only; omega⟩
  · rw [q]; exact ⟨a, by dsimp only; omega, by dsimp only; omega, by dsimp only; omega⟩
  · rw [q]; exact ⟨a, by dsimp only; omega, by dsimp only; omega, by dsimp only; omega⟩
  · rw [q]
    have := ((told_next g.chain (cmdGet d).1).1 q0).1
    exact ⟨by dsimp only; omega, by dsimp only; omega, by dsimp only; omega, by dsimp only; omega⟩
  · rw [q]
    have := ((told_next g.chain (cmdGet d).1).1 q0).1
    exact ⟨by dsimp only; omega, by dsimp only; omega, by dsimp only; omega, by dsimp only; omega⟩
theorem newL_lived {m : Sl Member} (h : (firstC m).2 = 0) : Lived (newL m).1 0 := by
  have e : (firstC m).1.epoch = 1 := by
    rw [firstC_eq] at h ⊢
    unfold finF at h ⊢
    generalize bySite m.D 0 ++ bySite m.D 1 ++ bySite m.D 2 = vc at h ⊢
    cases e1 : ((vc.length : Int) != (m.D.length : Int))
    · rw [e1] at h
      simp only [cond_false] at h ⊢
      cases e2 : check (Chain.mk 1 (Sl.mk vc.isEmpty vc)) != 0
      · rfl
      · rw [e2] at h; cases h
    · rw [e1] at h; cases h
  exact ⟨by show 1 ≤ (firstC m).1.epoch; omega, by show (firstC m).1.epoch ≤ _; omega, Int.le_refl _, Int.le_refl _⟩
end Go.Proofs.Ytpgenmflgdkfiaa
/- The laws: a command is done once; what is refused changes nothing. No conditions. -/
namespace Go.Proofs.Ytpgenmflgdkfiaa
open Go.Am
end Go.Proofs.Ytpgenmflgdkfiaa
/- Ledgers once more. No conditions. -/
namespace Go.Proofs.Ytpgenmflgdkfiaa
open Go.Am
end Go.Proofs.Ytpgenmflgdkfiaa
/- Law: ledgers alike. No conditions. -/
namespace Go.Proofs.Ytpgenmflgdkfiaa
open Go.Am
end Go.Proofs.Ytpgenmflgdkfiaa
/- Ledgers that no call made. No conditions. -/
namespace Go.Proofs.Ytpgenmflgdkfiaa
open Go.Am
end Go.Proofs.Ytpgenmflgdkfiaa
/- Law: ledgers that no call made. No conditions. -/
namespace Go.Proofs.Ytpgenmflgdkfiaa
open Go.Am
end Go.Proofs.Ytpgenmflgdkfiaa
/- The law of ledgers that no call made; its contract. No conditions. -/
namespace Go.Proofs.Ytpgenmflgdkfiaa
open Go.Am
end Go.Proofs.Ytpgenmflgdkfiaa
/- The law of ledgers that applied the same; its contract. No conditions. -/
namespace Go.Proofs.Ytpgenmflgdkfiaa
open Go.Am
end Go.Proofs.Ytpgenmflgdkfiaa
/- The program's ledger and the reference's go side by side. No conditions. -/
namespace Go.Proofs.Ytpgenmflgdkfiaa
open Go.Am
def hnC (c : Chain) : Prop := c.members.nil = true → c.members.D = []
/-- A step of a chain, by what becomes of its nodes. -/
structure Comes (c d : Chain) : Prop where
  chk : check d = 0
  ep : d.epoch = c.epoch + 1
  old : ∀ x ∈ d.members.D, x.fresh = false → x.node ∈ c.members.D.map (·.node)
  row : ((d.members.D.map (·.node)).filter fun n => (c.members.D.map (·.node)).contains n).Sublist (c.members.D.map (·.node))
  one : ∃ x ∈ d.members.D, x.node ∈ c.members.D.map (·.node)
end Go.Proofs.Ytpgenmflgdkfiaa
/- Steps of chains in plain Lean: what chapter 8 shows of them. No conditions. -/
namespace Go.Proofs.Ytpgenmflgdkfiaa
open Go.Am
def mBut (s : Int) (t : Int) : Int :=
  (bitI .andNot .u64 s t)
def isNaN (x : Int) : Bool :=
  (x != x)
def less (x : Int) (y : Int) : Bool :=
  (bif (isNaN x) then (bif (!(isNaN y)) then true else (decide (x < y))) else (decide (x < y)))
def whole_l0 : List Member → Nat → Int → Int
  | [], _, s => s
  | x :: xs, i, s => (bif (!x.fresh) then whole_l0 xs (i + 1) (mWith s x.node) else whole_l0 xs (i + 1) s)
def whole (c : Chain) : Int :=
  whole_l0 c.members.D 0 0
theorem whole_l0_eq : ∀ (l : List Member) (i S : Nat), S < 18446744073709551616 → whole_l0 l i (S : Int) = (bitsOf (fun x => !x.fresh) l S : Nat) ∧ bitsOf (fun x => !x.fresh) l S < 18446744073709551616
  | [], _, S, hS => ⟨rfl, hS⟩
  | x :: l, i, S, hS => by
    simp only [whole_l0]
    cases hf : x.fresh
    · have := whole_l0_eq l (i + 1) _ (with_cast_lt hS x.node)
      simp only [Bool.not_false, cond_true, with_cast hS, this.1]
      simp only [bitsOf, List.foldl_cons, hf, Bool.not_false, Bool.true_and] at this ⊢
      exact ⟨trivial, this.2⟩
    · have := whole_l0_eq l (i + 1) S hS
      simp only [Bool.not_true, cond_false, this.1]
      simp only [bitsOf, List.foldl_cons, hf, Bool.not_true, Bool.false_and] at this ⊢
      exact ⟨by simp, by simpa using this.2⟩
def rFollows_l0 (a : Chain) : List Member → Nat → Int → Bool
  | [], _, last => (decide (last ≥ 0))
  | x :: xs, i, last => (bif (!x.fresh) then (bif (decide ((rPlace a x.node) < 0)) then false else (bif a.members.D[(rPlace a x.node).toNat]!.fresh then false else (bif (decide ((rPlace a x.node) ≥ 0)) then (bif (decide ((rPlace a x.node) < last)) then false else rFollows_l0 a xs (i + 1) (rPlace a x.node)) else rFollows_l0 a xs (i + 1) last))) else (bif (decide ((rPlace a x.node) ≥ 0)) then (bif (decide ((rPlace a x.node) < last)) then false else rFollows_l0 a xs (i + 1) (rPlace a x.node)) else rFollows_l0 a xs (i + 1) last))
def rFollows (a : Chain) (b : Chain) : Bool :=
  (bif ((rCheck a) != 0) then false else (bif ((rCheck b) != 0) then false else (bif (decide (b.epoch ≤ a.epoch)) then false else rFollows_l0 a b.members.D 0 (-1))))
def isSorted_l0 (x : (Sl Int)) : Nat → Int → Bool
  | 0, _ => default
  | nn + 1, i => (bif (decide (i > 0)) then (bif (less (x.D[i.toNat]!) (x.D[(IntKind.i64.wrap (i - 1)).toNat]!)) then false else isSorted_l0 x nn (IntKind.i64.wrap (i - 1))) else true)
def isSorted (x : (Sl Int)) : Bool :=
  isSorted_l0 x ((IntKind.i64.wrap ((x.D.length : Int) - 1)).toNat + 1) (IntKind.i64.wrap ((x.D.length : Int) - 1))
def follows_l0 (a : Chain) : List Member → Nat → (List Int) → Bool
  | [], _, stay => (bif (isSorted (Sl.mk stay.isEmpty stay)) then (decide ((stay.length : Int) > 0)) else false)
  | x :: xs, i, stay => (bif (decide ((placeIn a x.node) ≥ 0)) then follows_l0 a xs (i + 1) (stay ++ [(placeIn a x.node)]) else follows_l0 a xs (i + 1) stay)
def follows (a : Chain) (b : Chain) : Bool :=
  (bif ((check a) != 0) then false else (bif ((check b) != 0) then false else (bif (decide (a.epoch ≥ b.epoch)) then false else (bif ((mBut (whole b) (whole a)) != 0) then false else follows_l0 a b.members.D 0 []))))
theorem unique_at (n : Int) : ∀ (l pre : List Member), okFrom pre l = true → (l.any fun y => y.node == n && !y.fresh) = (decide (0 ≤ rPlace_l0 n l pre.length) && !((pre ++ l)[(rPlace_l0 n l pre.length).toNat]!.fresh))
  | [], _, _ => by simp [rPlace_l0]
  | x :: l, pre, h => by
    have h' := h
    simp only [okFrom, Bool.and_eq_true] at h
    obtain ⟨_, h3⟩ := h
    cases hx : x.node == n
    · have ih := unique_at n l (pre ++ [x]) h3
      have hl : (pre ++ [x]).length = pre.length + 1 := by simp
      rw [hl] at ih
      simp only [List.any_cons, hx, Bool.false_and, Bool.false_or, rPlace_l0, cond_false, ih]
      simp
    · have hnone : (l.any fun y => y.node == n && !y.fresh) = false := by
        rw [Bool.eq_false_iff]
        intro he
        obtain ⟨y, hy, he⟩ := List.any_eq_true.1 he
        have := ok_apart l (pre ++ [x]) h3 y hy x (by simp)
        simp only [Bool.and_eq_true, beq_iff_eq] at he hx
        exact this (hx.trans he.1.symm)
      simp only [List.any_cons, hx, Bool.true_and, hnone, Bool.or_false, rPlace_l0, cond_true]
      simp
def goodNF (a : Chain) (x : Member) : Bool := x.fresh || (decide (0 ≤ rPlace a x.node) && !(a.members.D[(rPlace a x.node).toNat]!.fresh))
def asc (last : Int) : List Int → Bool
  | [] => true
  | p :: ps => !(decide (p < last)) && asc p ps
def stayOf (a : Chain) : List Member → List Int
  | [] => []
  | x :: l => if 0 ≤ rPlace a x.node then rPlace a x.node :: stayOf a l else stayOf a l
theorem rFollows_l0_eq (a : Chain) : ∀ (l : List Member) (i : Nat) (last : Int), rFollows_l0 a l i last = (l.all (goodNF a) && asc last (stayOf a l) && (decide (last ≥ 0) || !(stayOf a l).isEmpty))
  | [], _, last => by simp [rFollows_l0, stayOf, asc]
  | x :: l, i, last => by
    have h1 := rFollows_l0_eq a l (i + 1) last
    have h2 := rFollows_l0_eq a l (i + 1) (rPlace a x.node)
    simp only [rFollows_l0, List.all_cons, stayOf, goodNF]
    by_cases hp : 0 ≤ rPlace a x.node
    · have e1 : decide (rPlace a x.node < 0) = false := by simp; omega
      have e2 : decide (rPlace a x.node ≥ 0) = true := by simp; omega
      have e3 : decide (0 ≤ rPlace a x.node) = true := by simp; omega
      simp only [e1, e2, if_pos hp, asc, h2, Bool.true_and, cond_true, cond_false, List.isEmpty_cons, Bool.not_false, Bool.or_true, Bool.and_true, Bool.true_or]
      cases x.fresh <;> cases (a.members.D[(rPlace a x.node).toNat]!).fresh <;> cases decide (rPlace a x.node < last) <;> simp
    · have e1 : decide (rPlace a x.node < 0) = true := by simp; omega
      have e2 : decide (rPlace a x.node ≥ 0) = false := by simp; omega
      have e3 : decide (0 ≤ rPlace a x.node) = false := by simp; omega
      simp only [e1, e2, if_neg hp, h1, Bool.false_and, cond_true, cond_false, Bool.or_false]
      cases x.fresh <;> simp
theorem follows_l0_eq (a : Chain) (hp : ∀ n, placeIn a n = rPlace a n) : ∀ (l : List Member) (i : Nat) (stay : List Int), follows_l0 a l i stay = (isSorted ⟨(stay ++ stayOf a l).isEmpty, stay ++ stayOf a l⟩ && decide (((stay ++ stayOf a l).length : Int) > 0))
  | [], _, stay => by
    simp only [follows_l0, stayOf, List.append_nil]
    cases isSorted ⟨stay.isEmpty, stay⟩ <;> rfl
  | x :: l, i, stay => by
    show (bif decide (placeIn a x.node ≥ 0) then follows_l0 a l (i + 1) (stay ++ [placeIn a x.node]) else follows_l0 a l (i + 1) stay) = _
    rw [hp]
    by_cases h : 0 ≤ rPlace a x.node
    · have e2 : decide (rPlace a x.node ≥ 0) = true := by simp; omega
      have hs : stayOf a (x :: l) = rPlace a x.node :: stayOf a l := by simp [stayOf, h]
      rw [e2, hs, cond_true, follows_l0_eq a hp l, List.append_assoc, List.singleton_append]
    · have e2 : decide (rPlace a x.node ≥ 0) = false := by simp; omega
      have hs : stayOf a (x :: l) = stayOf a l := by simp [stayOf, h]
      rw [e2, hs, cond_false, follows_l0_eq a hp l]
theorem less_eq (x y : Int) : less x y = decide (x < y) := by unfold less isNaN; simp
theorem isSorted_l0_eq (x : Sl Int) : ∀ (i : Nat), i ≤ 1000000 → isSorted_l0 x (i + 1) (i : Int) = (List.range i).all fun j => !(decide (x.D[j + 1]! < x.D[j]!))
  | 0, _ => by simp [isSorted_l0]
  | i + 1, hi => by
    have ih := isSorted_l0_eq x i (by omega)
    have e1 : decide (((i + 1 : Nat) : Int) > 0) = true := by simp
    have e2 : IntKind.i64.wrap (((i + 1 : Nat) : Int) - 1) = (i : Int) := by rw [wrapI _ (by omega)]; omega
    rw [isSorted_l0, e1, e2, cond_true, less_eq, ih, List.range_succ, List.all_append]
    simp only [Int.toNat_natCast, List.all_cons, List.all_nil, Bool.and_true]
    cases decide (x.D[i + 1]! < x.D[i]!) <;> simp
theorem asc_eq : ∀ (ps : List Int) (p : Int), asc p ps = (List.range ps.length).all fun j => !(decide ((p :: ps)[j + 1]! < (p :: ps)[j]!))
  | [], _ => rfl
  | q :: ps, p => by
    rw [asc, asc_eq ps q, List.length_cons, List.range_succ_eq_map]
    rw [List.all_cons, List.all_map]
    rfl
theorem isSorted_eq (f : Bool) : ∀ (l : List Int), l.length ≤ 1000000 → isSorted ⟨f, l⟩ = match l with | [] => true | p :: ps => asc p ps
  | [], _ => by
    unfold isSorted
    have : IntKind.i64.wrap (((([] : List Int).length : Nat) : Int) - 1) = -1 := by rw [wrapI _ (by simp)]; rfl
    simp only [this]
    rfl
  | p :: ps, h => by
    unfold isSorted
    have : IntKind.i64.wrap ((((p :: ps).length : Nat) : Int) - 1) = (ps.length : Int) := by
      rw [wrapI _ (by simp only [List.length_cons] at h ⊢; omega)]; simp
    simp only [this, Int.toNat_natCast]
    rw [isSorted_l0_eq _ _ (by simp only [List.length_cons] at h; omega), asc_eq]
theorem stay_len (a : Chain) : ∀ (l : List Member), (stayOf a l).length ≤ l.length
  | [] => Nat.le_refl _
  | x :: l => by
    have := stay_len a l
    simp only [stayOf, List.length_cons]
    split
    · simp only [List.length_cons]; omega
    · omega
theorem stay_pos (a : Chain) : ∀ (l : List Member), ∀ p ∈ stayOf a l, 0 ≤ p
  | [], p, hp => by cases hp
  | x :: l, p, hp => by
    simp only [stayOf] at hp
    split at hp
    · cases hp with
      | head => assumption
      | tail _ hm => exact stay_pos a l p hm
    · exact stay_pos a l p hp
theorem but_zero {s t : Nat} (_ : s < 18446744073709551616) (_ : t < 18446744073709551616) : mBut (s : Int) (t : Int) = 0 ↔ ∀ n, n < 64 → s.testBit n = true → t.testBit n = true := by
  have e1 : mBut (s : Int) (t : Int) = (((BitVec.ofNat 64 s &&& ~~~ BitVec.ofNat 64 t : BitVec 64).toNat : Nat) : Int) := by
    show IntKind.u64.wrap (((BitVec.ofInt 64 (s : Int) &&& ~~~ BitVec.ofInt 64 (t : Int) : BitVec 64).toNat : Nat) : Int) = _
    rw [BitVec.ofInt_natCast, BitVec.ofInt_natCast, wrap64]
    have := (BitVec.ofNat 64 s &&& ~~~ BitVec.ofNat 64 t : BitVec 64).isLt
    have h' : (2 : Nat) ^ 64 = 18446744073709551616 := by decide
    omega
  rw [e1]
  constructor
  · intro h n hn hsn
    have h0 : (BitVec.ofNat 64 s &&& ~~~ BitVec.ofNat 64 t : BitVec 64) = 0#64 := BitVec.eq_of_toNat_eq (by simpa using h)
    have := congrArg (fun v => v.getLsbD n) h0
    simp only [BitVec.getLsbD_and, BitVec.getLsbD_not, BitVec.getLsbD_ofNat, hn, decide_true, Bool.true_and, hsn] at this
    cases ht' : t.testBit n
    · rw [ht'] at this; simp at this
    · rfl
  · intro h
    have h0 : (BitVec.ofNat 64 s &&& ~~~ BitVec.ofNat 64 t : BitVec 64) = 0#64 := by
      apply BitVec.eq_of_getLsbD_eq
      intro n hn
      simp only [BitVec.getLsbD_and, BitVec.getLsbD_not, BitVec.getLsbD_ofNat, hn, decide_true, Bool.true_and]
      cases hs' : s.testBit n
      · simp
      · rw [h n hn hs']; simp
    rw [h0]; rfl
theorem follows_eq (a b : Chain) : follows a b = rFollows a b := by
  unfold follows rFollows
  rw [← check_eq, ← check_eq]
  cases ha : check a != 0
  case true => rfl
  cases hb : check b != 0
  case true => rfl
  have ha := eq_of_bne_false ha
  have hb := eq_of_bne_false hb
  simp only [cond_false]
  rw [show decide (a.epoch ≥ b.epoch) = decide (b.epoch ≤ a.epoch) from rfl]
  cases he : decide (b.epoch ≤ a.epoch)
  case true => rfl
  simp only [cond_false]
  have hp : ∀ n, placeIn a n = rPlace a n := fun n => by
    rw [← place_eq]; unfold place0; rw [ha]; rfl
  have hl := stay_len a b.members.D
  have hb6 := check_le6 hb
  rw [rFollows_l0_eq, follows_l0_eq a hp, List.nil_append, isSorted_eq _ _ (by omega)]
  obtain ⟨b1, b2⟩ := whole_l0_eq b.members.D 0 0 (by decide)
  obtain ⟨a1, a2⟩ := whole_l0_eq a.members.D 0 0 (by decide)
  have hoka := ok_of_check ha
  have hokb := ok_of_check hb
  have hgood : ∀ x ∈ b.members.D, goodNF a x = (x.fresh || a.members.D.any fun y => y.node == x.node && !y.fresh) := fun x _ => by
    have := unique_at x.node a.members.D [] hoka
    simp only [List.length_nil, List.nil_append] at this
    have hr : rPlace a x.node = rPlace_l0 x.node a.members.D 0 := by unfold rPlace; rw [← check_eq, ha]; rfl
    rw [goodNF, hr, this]
  have hbut : (mBut (whole b) (whole a) != 0) = !(b.members.D.all (goodNF a)) := by
    have e : mBut (whole b) (whole a) = 0 ↔ b.members.D.all (goodNF a) = true := by
      unfold whole
      rw [show (0 : Int) = ((0 : Nat) : Int) from rfl, b1, a1]
      rw [show ((0 : Nat) : Int) = (0 : Int) from rfl, but_zero b2 a2, List.all_eq_true]
      constructor
      · intro h x hx
        rw [hgood x hx]
        cases hf : x.fresh
        · obtain ⟨m1, m2, _, _⟩ := (member_iff x).1 (ok_member _ _ hokb x hx)
          obtain ⟨k, hk⟩ : ∃ k : Nat, x.node = (k : Int) := ⟨x.node.toNat, by omega⟩
          have := h k (by omega) (by
            rw [bits_test _ (by omega)]
            have : (b.members.D.any fun y => y.node == (k : Int) && !y.fresh) = true := List.any_eq_true.2 ⟨x, hx, by simp [hk, hf]⟩
            rw [this]; simp)
          rw [bits_test _ (by omega)] at this
          simpa [hk] using this
        · rfl
      · intro h n hn hbn
        rw [bits_test _ hn] at hbn ⊢
        have hbn : (b.members.D.any fun y => y.node == (n : Int) && !y.fresh) = true := by simpa using hbn
        obtain ⟨x, hx, hxx⟩ := List.any_eq_true.1 hbn
        simp only [Bool.and_eq_true, beq_iff_eq, Bool.not_eq_true'] at hxx
        have := h x hx
        rw [hgood x hx, hxx.2, hxx.1] at this
        simp only [Bool.false_or] at this
        rw [this]; simp
    cases hall : b.members.D.all (goodNF a)
    · rw [hall] at e
      have : mBut (whole b) (whole a) ≠ 0 := fun h => by have := e.1 h; cases this
      simp [this]
    · rw [hall] at e
      rw [e.2 rfl]; rfl
  rw [hbut]
  cases hall : b.members.D.all (goodNF a)
  · rfl
  · simp only [Bool.not_true, cond_false, Bool.true_and]
    cases hst : stayOf a b.members.D with
    | nil => simp
    | cons p ps =>
      have hp0 : 0 ≤ p := stay_pos a b.members.D p (by rw [hst]; exact List.mem_cons_self ..)
      have e1 : decide (p < -1) = false := by simp; omega
      simp [asc, e1]
theorem popcount : ∀ S : Nat, S < 64 → mLen (S : Int) = (((S.testBit 0).toNat + (S.testBit 1).toNat + (S.testBit 2).toNat + (S.testBit 3).toNat + (S.testBit 4).toNat + (S.testBit 5).toNat : Nat) : Int) := by
  have h : ∀ S : Fin 64, mLen ((S : Nat) : Int) = ((((S : Nat).testBit 0).toNat + ((S : Nat).testBit 1).toNat + ((S : Nat).testBit 2).toNat + ((S : Nat).testBit 3).toNat + ((S : Nat).testBit 4).toNat + ((S : Nat).testBit 5).toNat : Nat) : Int) := of_decide_eq_true (by kernel_rfl)
  exact fun S hS => h ⟨S, hS⟩
theorem asc_of_sub {c : Chain} (hc : check c = 0) {l s : List Member} (h : l.Sublist s) : ∀ (j : Nat) (last : Int), s = c.members.D.drop j → last ≤ (j : Int) → asc last (stayOf c l) = true := by
  induction h with
  | slnil => exact fun _ _ _ _ => rfl
  | cons x h ih =>
    intro j last hs hl
    have hj : j < c.members.D.length := by
      rcases Nat.lt_or_ge j c.members.D.length with h | h
      · exact h
      · rw [List.drop_eq_nil_of_le h] at hs; cases hs
    rw [List.drop_eq_getElem_cons hj] at hs
    injection hs with _ hs
    exact ih (j + 1) last hs (by omega)
  | cons_cons x h ih =>
    intro j last hs hl
    have hj : j < c.members.D.length := by
      rcases Nat.lt_or_ge j c.members.D.length with h | h
      · exact h
      · rw [List.drop_eq_nil_of_le h] at hs; cases hs
    rw [List.drop_eq_getElem_cons hj] at hs
    injection hs with hx hs
    have hp := place_at hc hj
    rw [getElem!_pos _ j hj, ← hx, place_eq] at hp
    have h0 : (0 : Int) ≤ rPlace c x.node := by omega
    rw [stayOf, if_pos h0, asc, hp, ih (j + 1) (j : Int) hs (by omega)]
    have : decide ((j : Int) < last) = false := by simp; omega
    rw [this]; rfl
theorem stay_append (c : Chain) : ∀ (l m : List Member), stayOf c (l ++ m) = stayOf c l ++ stayOf c m
  | [], _ => rfl
  | x :: l, m => by
    simp only [List.cons_append, stayOf, stay_append c l m]
    split <;> simp
theorem stay_ne {c : Chain} (hc : check c = 0) {x : Member} (hx : x ∈ c.members.D) : ∀ (l : List Member), x ∈ l → stayOf c l ≠ []
  | [], h => by cases h
  | y :: l, h => by
    cases h with
    | head =>
      obtain ⟨j, hj, e⟩ := List.getElem_of_mem hx
      have hp := place_at hc hj
      rw [getElem!_pos _ j hj, e, place_eq] at hp
      have h0 : (0 : Int) ≤ rPlace c x.node := by omega
      rw [stayOf, if_pos h0]; simp
    | tail _ h =>
      have := stay_ne hc hx l h
      rw [stayOf]
      split
      · simp
      · exact this
theorem follows_of {c d : Chain} (hc : check c = 0) (hd : check d = 0) (he : c.epoch < d.epoch) (hw : ∀ x ∈ d.members.D, x.fresh = false → x ∈ c.members.D) {l : List Member} (hs : stayOf c d.members.D = stayOf c l) (hl : l.Sublist c.members.D) (hne : ∃ x ∈ d.members.D, x ∈ c.members.D) : follows c d = true := by
  rw [follows_eq]
  unfold rFollows
  rw [← check_eq, ← check_eq, hc, hd]
  have e1 : decide (d.epoch ≤ c.epoch) = false := by simp; omega
  rw [e1, rFollows_l0_eq, hs, asc_of_sub hc hl 0 (-1) rfl (by omega)]
  obtain ⟨x, hx, hxc⟩ := hne
  have h1 := stay_ne hc hxc _ hx
  rw [hs] at h1
  have h2 : (stayOf c l).isEmpty = false := by
    cases h : stayOf c l
    · exact absurd h h1
    · rfl
  have h3 : d.members.D.all (goodNF c) = true := List.all_eq_true.2 fun y hy => by
    unfold goodNF
    cases hf : y.fresh
    · have hyc := hw y hy hf
      obtain ⟨j, hj, e⟩ := List.getElem_of_mem hyc
      have hp := place_at hc hj
      rw [getElem!_pos _ j hj, e, place_eq] at hp
      rw [hp, Int.toNat_natCast, getElem!_pos _ j hj, e, hf]
      simp
    · rfl
  rw [h2, h3]; simp
/-- What a change that was done gives. -/
def Next (c d : Chain) : Prop := check d = 0 ∧ d.epoch = c.epoch + 1 ∧ follows c d = true
theorem sub_next {c : Chain} (hc : check c = 0) (he : ¬ c.epoch ≥ 1099511627776) {l : List Member} (hl : l.Sublist c.members.D) (hne : l ≠ []) (hf : l[0]!.fresh = false) (f : Bool) : Next c (Chain.mk (IntKind.i64.wrap (c.epoch + 1)) (Sl.mk f l)) := by
  obtain ⟨⟨e1, e2⟩, _, _, hm, hp⟩ := (check_iff c).1 hc
  have hw := wrap_epoch hc
  have hd : check (Chain.mk (IntKind.i64.wrap (c.epoch + 1)) (Sl.mk f l)) = 0 := (check_iff _).2 ⟨by rw [hw]; exact ⟨(by omega : 1 ≤ c.epoch + 1), (by omega : c.epoch + 1 ≤ 1099511627776)⟩, hne, hf, fun x hx => hm x (hl.subset hx), hp.sublist hl⟩
  refine ⟨hd, hw, follows_of hc hd (by show _ < IntKind.i64.wrap _; rw [hw]; omega) (fun x hx _ => hl.subset hx) rfl hl ?_⟩
  cases l with
  | nil => exact absurd rfl hne
  | cons x l => exact ⟨x, List.mem_cons_self .., hl.subset (List.mem_cons_self ..)⟩
theorem without_next {c : Chain} (hc : check c = 0) (gone : Int) : ((without c gone).2 = 0 → Next c (without c gone).1) ∧ ((without c gone).2 ≠ 0 → (without c gone).1.members.D = []) := by
  rw [without_eq]
  have hs : ((c.members.D.filter fun x => !mHas gone x.node).dropWhile (·.fresh)).Sublist c.members.D := (List.dropWhile_sublist _).trans List.filter_sublist
  have hh := drop_head (l := c.members.D.filter fun x => !mHas gone x.node)
  revert hs hh
  generalize ((c.members.D.filter fun x => !mHas gone x.node).dropWhile (·.fresh)) = l
  intro hs hh
  unfold finW
  cases h1 : decide (c.epoch ≥ 1099511627776)
  case true => exact ⟨fun h => (by cases h), fun _ => rfl⟩
  cases h2 : ((l.length : Int) == (c.members.D.length : Int))
  case true => exact ⟨fun h => (by cases h), fun _ => rfl⟩
  cases h3 : ((l.length : Int) == 0)
  case true => exact ⟨fun h => (by cases h), fun _ => rfl⟩
  have hne : l ≠ [] := fun e => by rw [e] at h3; cases h3
  exact ⟨fun _ => sub_next hc (of_decide_eq_false h1) hs hne (hh hne) _, fun h => absurd rfl h⟩
theorem drop_next {c : Chain} (hc : check c = 0) (n : Int) : ((drop c n).2 = 0 → Next c (drop c n).1) ∧ ((drop c n).2 ≠ 0 → (drop c n).1.members.D = []) := by
  unfold drop; rw [hc]; exact without_next hc _
theorem dropSite_next {c : Chain} (hc : check c = 0) (s : Int) : ((dropSite c s).2 = 0 → Next c (dropSite c s).1) ∧ ((dropSite c s).2 ≠ 0 → (dropSite c s).1.members.D = []) := by
  unfold dropSite; rw [hc]
  have := (dropSite_l0_eq c s c.members.D 0 0 (by decide)).1
  rw [show ((0 : Nat) : Int) = 0 from rfl] at this
  show ((dropSite_l0 c s c.members.D 0 0).2 = 0 → Next c (dropSite_l0 c s c.members.D 0 0).1) ∧ _
  rw [this]
  exact without_next hc _
theorem again_next {c : Chain} (hn : c.members.nil = true → c.members.D = []) (hc : check c = 0) (n : Int) : ((again c n).2 = 0 → Next c (again c n).1) ∧ ((again c n).2 ≠ 0 → (again c n).1.members.D = []) := by
  unfold again; rw [hc]
  show ((bif decide (placeIn c n < 0) then _ else _ : Chain × Int).2 = 0 → _) ∧ _
  cases decide (placeIn c n < 0)
  case true => exact ⟨fun h => (by cases h), fun _ => rfl⟩
  cases h1 : decide (c.epoch ≥ 1099511627776)
  case true => exact ⟨fun h => (by cases h), fun _ => rfl⟩
  obtain ⟨_, hne, hf, _⟩ := (check_iff c).1 hc
  rw [clone_eq hn]
  exact ⟨fun _ => sub_next hc (of_decide_eq_false h1) (List.Sublist.refl _) hne hf _, fun h => absurd rfl h⟩
theorem join_next {c : Chain} (hc : check c = 0) (n s : Int) (f : Bool) : ((join c ⟨n, s, f⟩).2 = 0 → Next c (join c ⟨n, s, f⟩).1) ∧ ((join c ⟨n, s, f⟩).2 ≠ 0 → (join c ⟨n, s, f⟩).1.members.D = []) := by
  have hl := check_le6 hc
  obtain ⟨⟨e1, e2⟩, hne, hf, hmm, hpp⟩ := (check_iff c).1 hc
  have hp : placeIn c n = rPlace c n := by rw [← place_eq]; unfold place0; rw [hc]; rfl
  unfold join
  rw [hc, hp]
  show ((bif !member ⟨n, s, true⟩ then _ else _ : Chain × Int).2 = 0 → _) ∧ _
  cases hm : member ⟨n, s, true⟩
  case false => exact ⟨fun h => (by cases h), fun _ => rfl⟩
  cases h1 : decide (rPlace c n ≥ 0)
  case true => exact ⟨fun h => (by cases h), fun _ => rfl⟩
  cases h2 : decide (c.epoch ≥ 1099511627776)
  case true => exact ⟨fun h => (by cases h), fun _ => rfl⟩
  have hj := join_l0_eq c ⟨n, s, f⟩ (by omega) (c.members.D.length - (0 : Int).toNat + 1) 0 (by omega) (by simp)
  rw [show ((0 : Nat) : Int) = 0 from rfl] at hj
  show ((join_l0 c ⟨n, s, f⟩ (c.members.D.length - (0 : Int).toNat + 1) 0).2 = 0 → Next c (join_l0 c ⟨n, s, f⟩ (c.members.D.length - (0 : Int).toNat + 1) 0).1) ∧ ((join_l0 c ⟨n, s, f⟩ (c.members.D.length - (0 : Int).toNat + 1) 0).2 ≠ 0 → (join_l0 c ⟨n, s, f⟩ (c.members.D.length - (0 : Int).toNat + 1) 0).1.members.D = [])
  rw [hj]
  simp only [List.drop_zero, Nat.zero_add]
  cases h3 : ((c.members.D.takeWhile fun x => decide (x.site ≤ s)).length == 0)
  case true => exact ⟨fun h => (by cases h), fun _ => rfl⟩
  refine ⟨fun _ => ?_, fun h => absurd rfl h⟩
  have hnone := place_none hc (n := n) (by have := of_decide_eq_false h1; omega)
  have hw := wrap_epoch hc
  have he := of_decide_eq_false h2
  -- the members
  have hD : insertL c.members.D (c.members.D.takeWhile fun x => decide (x.site ≤ s)).length [Member.mk n s true] = (c.members.D.takeWhile fun x => decide (x.site ≤ s)) ++ Member.mk n s true :: (c.members.D.dropWhile fun x => decide (x.site ≤ s)) := by
    unfold insertL
    have ht : c.members.D.take (c.members.D.takeWhile fun x => decide (x.site ≤ s)).length = c.members.D.takeWhile fun x => decide (x.site ≤ s) := by
      conv => lhs; rhs; rw [← List.takeWhile_append_dropWhile (p := fun x : Member => decide (x.site ≤ s)) (l := c.members.D)]
      exact List.take_left' rfl
    have hdd : c.members.D.drop (c.members.D.takeWhile fun x => decide (x.site ≤ s)).length = c.members.D.dropWhile fun x => decide (x.site ≤ s) := by
      conv => lhs; rhs; rw [← List.takeWhile_append_dropWhile (p := fun x : Member => decide (x.site ≤ s)) (l := c.members.D)]
      exact List.drop_left' rfl
    rw [ht, hdd]; simp
  have hcat := List.takeWhile_append_dropWhile (p := fun x : Member => decide (x.site ≤ s)) (l := c.members.D)
  have hT := takeWhile_true (fun x : Member => decide (x.site ≤ s)) c.members.D
  have hDW := dropWhile_sites s c.members.D hpp
  have hsp := fun x => mem_split (c := c) (fun x : Member => decide (x.site ≤ s)) (x := x)
  show Next c (after c (Sl.mk false (insertL c.members.D _ [Member.mk n s true])))
  rw [hD]
  revert h3 hcat hT hDW hsp
  generalize (c.members.D.takeWhile fun x => decide (x.site ≤ s)) = A
  generalize (c.members.D.dropWhile fun x => decide (x.site ≤ s)) = B
  intro h3 hcat hT hDW hsp
  have hAB := hpp
  rw [← hcat, List.pairwise_append] at hAB
  obtain ⟨pA, pB, pAB⟩ := hAB
  have hd : check (after c (Sl.mk false (A ++ Member.mk n s true :: B))) = 0 := by
    refine (check_iff _).2 ⟨?_, ?_, ?_, ?_, ?_⟩
    · show 1 ≤ IntKind.i64.wrap (c.epoch + 1) ∧ IntKind.i64.wrap (c.epoch + 1) ≤ _
      rw [hw]; omega
    · show A ++ _ ≠ []; simp
    · cases A with
      | nil => cases h3
      | cons a A =>
        rw [← hcat] at hf
        exact hf
    · intro x hx
      rcases List.mem_append.1 hx with hx | hx
      · exact hmm x (hsp x (.inl hx))
      · cases hx with
        | head => exact hm
        | tail _ hx => exact hmm x (hsp x (.inr hx))
    · refine List.pairwise_append.2 ⟨pA, List.pairwise_cons.2 ⟨fun b hb => ⟨fun e => hnone b (hsp b (.inr hb)) e.symm, hDW b hb⟩, pB⟩, fun a ha b hb => ?_⟩
      cases hb with
      | head => exact ⟨fun e => hnone a (hsp a (.inl ha)) e, of_decide_eq_true (hT a ha)⟩
      | tail _ hb => exact pAB a ha b hb
  refine ⟨hd, hw, follows_of hc hd (by show _ < IntKind.i64.wrap _; rw [hw]; omega) (fun x hx hxf => ?_) (l := A ++ B) ?_ ?_ ?_⟩
  · rcases List.mem_append.1 hx with hx | hx
    · exact hsp x (.inl hx)
    · cases hx with
      | head => cases hxf
      | tail _ hx => exact hsp x (.inr hx)
  · show stayOf c (A ++ Member.mk n s true :: B) = _
    rw [stay_append, stay_append]
    congr 1
    have : ¬ 0 ≤ rPlace c n := by have := of_decide_eq_false h1; omega
    rw [stayOf, if_neg this]
  · rw [hcat]; exact List.Sublist.refl _
  · cases A with
    | nil => cases h3
    | cons a A => exact ⟨a, List.mem_append.2 (.inl (List.mem_cons_self ..)), hsp a (.inl (List.mem_cons_self ..))⟩
def IsReady (c d : Chain) : Prop := check d = 0 ∧ d.epoch = c.epoch ∧ nodes d = nodes c ∧ mLen (mBut (whole d) (whole c)) = 1
theorem mBut_nat {s t : Nat} : mBut (s : Int) (t : Int) = (((BitVec.ofNat 64 s &&& ~~~ BitVec.ofNat 64 t : BitVec 64).toNat : Nat) : Int) := by
  show IntKind.u64.wrap (((BitVec.ofInt 64 (s : Int) &&& ~~~ BitVec.ofInt 64 (t : Int) : BitVec 64).toNat : Nat) : Int) = _
  rw [BitVec.ofInt_natCast, BitVec.ofInt_natCast, wrap64]
  have := (BitVec.ofNat 64 s &&& ~~~ BitVec.ofNat 64 t : BitVec 64).isLt
  have h' : (2 : Nat) ^ 64 = 18446744073709551616 := by decide
  omega
theorem but_one {s t n : Nat} (hn : n < 64) (h : ∀ k, k < 64 → (s.testBit k && !t.testBit k) = decide (n = k)) : mBut (s : Int) (t : Int) = ((2 ^ n : Nat) : Int) := by
  rw [mBut_nat]
  have : (BitVec.ofNat 64 s &&& ~~~ BitVec.ofNat 64 t : BitVec 64) = BitVec.ofNat 64 (2 ^ n) := by
    apply BitVec.eq_of_getLsbD_eq
    intro k hk
    simp only [BitVec.getLsbD_and, BitVec.getLsbD_not, BitVec.getLsbD_ofNat, hk, decide_true, Bool.true_and]
    rw [h k hk, Nat.testBit_two_pow]
  rw [this, BitVec.toNat_ofNat, Nat.mod_eq_of_lt (Nat.pow_lt_pow_right (by decide) hn)]
theorem ready_is {c : Chain} (hc : check c = 0) (n : Int) : ((ready c n).2 = 0 → IsReady c (ready c n).1) ∧ ((ready c n).2 ≠ 0 → (ready c n).1.members.D = []) := by
  obtain ⟨⟨e1, e2⟩, hne, hf, hmm, hpp⟩ := (check_iff c).1 hc
  have hp : placeIn c n = rPlace c n := by rw [← place_eq]; unfold place0; rw [hc]; rfl
  unfold ready
  rw [hc, hp]
  show ((bif decide (rPlace c n < 0) then _ else _ : Chain × Int).2 = 0 → _) ∧ _
  cases h1 : decide (rPlace c n < 0)
  case true => exact ⟨fun h => (by cases h), fun _ => rfl⟩
  have h1 := of_decide_eq_false h1
  have hlt := (rPlace_lt c n).1
  obtain ⟨p, hpn⟩ : ∃ p : Nat, rPlace c n = (p : Int) := ⟨(rPlace c n).toNat, by omega⟩
  rw [hpn, Int.toNat_natCast]
  have hpl : p < c.members.D.length := by omega
  cases h2 : (c.members.D[p]!).fresh
  case false => exact ⟨fun h => (by cases h), fun _ => rfl⟩
  refine ⟨fun _ => ?_, fun h => absurd rfl h⟩
  show IsReady c (Chain.mk c.epoch (Sl.mk false (c.members.D.set p (Member.mk (c.members.D[p]!.node) (c.members.D[p]!.site) false))))
  have hg : c.members.D[p]! = c.members.D[p] := getElem!_pos _ p hpl
  rw [hg] at h2 ⊢
  generalize hy : Member.mk (c.members.D[p].node) (c.members.D[p].site) false = y
  have yn : y.node = c.members.D[p].node := by rw [← hy]
  have ys : y.site = c.members.D[p].site := by rw [← hy]
  have yf : y.fresh = false := by rw [← hy]
  have mapN := set_map (fun m => m.node) hpl (y := y) yn
  have mapNS := set_map (fun m => (m.node, m.site)) hpl (y := y) (by rw [yn, ys])
  have hmem : ∀ x ∈ c.members.D.set p y, ∃ z ∈ c.members.D, z.node = x.node ∧ z.site = x.site := fun x hx => by
    have : (x.node, x.site) ∈ (c.members.D.set p y).map (fun m => (m.node, m.site)) := List.mem_map.2 ⟨x, hx, rfl⟩
    rw [mapNS] at this
    obtain ⟨z, hz, e⟩ := List.mem_map.1 this
    injection e with e1 e2
    exact ⟨z, hz, e1, e2⟩
  have hd : check (Chain.mk c.epoch (Sl.mk false (c.members.D.set p y))) = 0 := by
    refine (check_iff _).2 ⟨⟨e1, e2⟩, ?_, ?_, ?_, ?_⟩
    · intro e
      have : (c.members.D.set p y).length = 0 := by
        have e : c.members.D.set p y = [] := e
        rw [e]; rfl
      rw [List.length_set] at this
      omega
    · show (c.members.D.set p y)[0]!.fresh = false
      have hl0 : 0 < c.members.D.length := by omega
      rw [getElem!_pos _ 0 (by rw [List.length_set]; exact hl0), List.getElem_set]
      rw [getElem!_pos _ 0 hl0] at hf
      split
      · exact yf
      · exact hf
    · intro x hx
      obtain ⟨z, hz, e3, e4⟩ := hmem x hx
      have := (member_iff z).1 (hmm z hz)
      exact (member_iff x).2 (by omega)
    · have h3 : (c.members.D.map (fun m => (m.node, m.site))).Pairwise (fun a b => a.1 ≠ b.1 ∧ a.2 ≤ b.2) := List.pairwise_map.2 hpp
      rw [← mapNS, List.pairwise_map] at h3
      exact h3
  refine ⟨hd, rfl, nodes_map _ _ 0 0 0 mapN, ?_⟩
  obtain ⟨m1, m2, _, _⟩ := (member_iff _).1 (hmm _ (List.getElem_mem hpl))
  obtain ⟨k, hk⟩ : ∃ k : Nat, c.members.D[p].node = (k : Int) := ⟨c.members.D[p].node.toNat, by omega⟩
  obtain ⟨w1, w2⟩ := whole_l0_eq c.members.D 0 0 (by decide)
  obtain ⟨v1, v2⟩ := whole_l0_eq (c.members.D.set p y) 0 0 (by decide)
  have hw : whole c = ((bitsOf (fun x => !x.fresh) c.members.D 0 : Nat) : Int) := w1
  have hv : whole (Chain.mk c.epoch (Sl.mk false (c.members.D.set p y))) = ((bitsOf (fun x => !x.fresh) (c.members.D.set p y) 0 : Nat) : Int) := v1
  rw [hw, hv, but_one (n := k) (by omega) fun j hj => ?_, popcount (2 ^ k) (by
    have : 2 ^ k ≤ 2 ^ 5 := Nat.pow_le_pow_right (by decide) (by omega)
    omega)]
  · rcases (by omega : k = 0 ∨ k = 1 ∨ k = 2 ∨ k = 3 ∨ k = 4 ∨ k = 5) with rfl | rfl | rfl | rfl | rfl | rfl <;> rfl
  · rw [bits_test _ hj, bits_test _ hj]
    simp only [Nat.zero_testBit, Bool.false_or]
    by_cases hkj : k = j
    · subst hkj
      have t1 : ((c.members.D.set p y).any fun x => x.node == (k : Int) && !x.fresh) = true := by
        refine List.any_eq_true.2 ⟨y, ?_, by rw [yn, hk, yf]; simp⟩
        exact List.mem_set hpl y
      have t2 : (c.members.D.any fun x => x.node == (k : Int) && !x.fresh) = false := by
        rw [Bool.eq_false_iff]
        intro h
        obtain ⟨x, hx, hxx⟩ := List.any_eq_true.1 h
        simp only [Bool.and_eq_true, beq_iff_eq, Bool.not_eq_true'] at hxx
        have := ok_inj _ _ (ok_of_check hc) x hx _ (List.getElem_mem hpl) (by rw [hxx.1, hk])
        rw [this, h2] at hxx
        cases hxx.2
      rw [t1, t2]; simp
    · have : ((c.members.D.set p y).any fun x => x.node == (j : Int) && !x.fresh) = (c.members.D.any fun x => x.node == (j : Int) && !x.fresh) := by
        rw [Bool.eq_iff_iff, List.any_eq_true, List.any_eq_true]
        constructor
        · rintro ⟨x, hx, hxx⟩
          rcases List.mem_or_eq_of_mem_set hx with hx | rfl
          · exact ⟨x, hx, hxx⟩
          · simp only [Bool.and_eq_true, beq_iff_eq, yn, hk] at hxx
            omega
        · rintro ⟨x, hx, hxx⟩
          obtain ⟨i, hi, e⟩ := List.getElem_of_mem hx
          refine ⟨x, ?_, hxx⟩
          have hip : p ≠ i := by
            rintro rfl
            rw [e] at hk
            simp only [Bool.and_eq_true, beq_iff_eq] at hxx
            omega
          have : (c.members.D.set p y)[i]'(by rw [List.length_set]; exact hi) = x := by rw [List.getElem_set, if_neg hip, e]
          rw [← this]
          exact List.getElem_mem _
      rw [this]
      have e : decide (k = j) = false := decide_eq_false hkj
      rw [e]
      cases (c.members.D.any fun x => x.node == (j : Int) && !x.fresh) <;> rfl
end Go.Proofs.Ytpgenmflgdkfiaa
/- The ledger behind calls: its chains may be, and come of one another; the reference's ledger is its twin. No conditions. -/
namespace Go.Proofs.Ytpgenmflgdkfiaa
open Go.Am
theorem finW_some {c : Chain} {l : List Member} (h : (finW c l).2 = 0) : (finW c l).1.members.D = l ∧ l ≠ [] := by
  unfold finW at h ⊢
  cases h1 : decide (c.epoch ≥ 1099511627776)
  · rw [h1, cond_false] at h
    rw [cond_false]
    cases h2 : ((l.length : Int) == (c.members.D.length : Int))
    · rw [h2, cond_false] at h
      rw [cond_false]
      cases h3 : ((l.length : Int) == 0)
      · refine ⟨rfl, fun e => ?_⟩
        rw [e] at h3; simp at h3
      · rw [h3] at h; cases h
    · rw [h2] at h; cases h
  · rw [h1] at h; cases h
theorem comes_sub {c d : Chain} (hd : check d = 0) (he : d.epoch = c.epoch + 1) {l : List Member} (hl : l.Sublist c.members.D) (hD : d.members.D = l) (hne : l ≠ []) : Comes c d where
  chk := hd
  ep := he
  old := fun x hx _ => List.mem_map.2 ⟨x, hl.subset (hD ▸ hx), rfl⟩
  row := by rw [hD]; exact List.filter_sublist.trans (hl.map _)
  one := by
    obtain ⟨x, hx⟩ := List.exists_mem_of_ne_nil l hne
    exact ⟨x, hD ▸ hx, List.mem_map.2 ⟨x, hl.subset hx, rfl⟩⟩
theorem comes_drop {c : Chain} (hc : check c = 0) {n : Int} (h : (drop c n).2 = 0) : Comes c (drop c n).1 := by
  obtain ⟨q1, q2, _⟩ := (drop_next hc n).1 h
  rw [drop_form hc] at h
  obtain ⟨e1, e2⟩ := finW_some h
  rw [← drop_form hc] at e1
  exact comes_sub q1 q2 ((List.dropWhile_sublist _).trans List.filter_sublist) e1 e2
theorem comes_dropSite {c : Chain} (hc : check c = 0) {s : Int} (h : (dropSite c s).2 = 0) : Comes c (dropSite c s).1 := by
  obtain ⟨q1, q2, _⟩ := (dropSite_next hc s).1 h
  have e0 : ∃ g, dropSite c s = without c g := by
    unfold dropSite
    rw [hc, show ((0 : Int) != 0) = false from rfl, cond_false]
    have := (dropSite_l0_eq c s c.members.D 0 0 (by decide)).1
    exact ⟨_, this⟩
  obtain ⟨g, e0⟩ := e0
  rw [without_eq] at e0
  rw [e0] at h
  obtain ⟨e1, e2⟩ := finW_some h
  rw [← e0] at e1
  exact comes_sub q1 q2 ((List.dropWhile_sublist _).trans List.filter_sublist) e1 e2
theorem again_members {c : Chain} (hn : hnC c) {n : Int} (h : (again c n).2 = 0) : (again c n).1.members.D = c.members.D := by
  unfold again at h ⊢
  cases h1 : check c != 0
  · rw [h1, cond_false] at h
    rw [cond_false]
    cases h2 : decide (placeIn c n < 0)
    · rw [h2, cond_false] at h
      rw [cond_false]
      cases h3 : decide (c.epoch ≥ 1099511627776)
      · show (cloneMembers c.members).D = _
        rw [clone_eq hn]
      · rw [h3] at h; cases h
    · rw [h2] at h; cases h
  · rw [h1, cond_true] at h
    have := ne_of_beq_false (by simpa using h1 : (check c == 0) = false)
    exact absurd h this
theorem comes_again {c : Chain} (hn : hnC c) (hc : check c = 0) {n : Int} (h : (again c n).2 = 0) : Comes c (again c n).1 := by
  obtain ⟨q1, q2, _⟩ := (again_next hn hc n).1 h
  exact comes_sub q1 q2 (List.Sublist.refl _) (again_members hn h) ((check_iff c).1 hc).2.1
theorem comes_join {c : Chain} (hc : check c = 0) {n s : Int} {f : Bool} (h : (join c ⟨n, s, f⟩).2 = 0) : Comes c (join c ⟨n, s, f⟩).1 := by
  obtain ⟨q1, q2, _⟩ := (join_next hc n s f).1 h
  obtain ⟨e1, _, _, hp, hk⟩ := join_some hc h
  have hp : rPlace c n < 0 := by rw [← place_eq]; unfold place0; rw [hc]; exact hp
  have hno := place_none hc hp
  have hD : (join c ⟨n, s, f⟩).1.members.D = c.members.D.take (c.members.D.takeWhile fun x => decide (x.site ≤ s)).length ++ [⟨n, s, true⟩] ++ c.members.D.drop (c.members.D.takeWhile fun x => decide (x.site ≤ s)).length := by rw [e1]; rfl
  generalize (c.members.D.takeWhile fun x => decide (x.site ≤ s)).length = k at hD
  have hmem : ∀ x ∈ (join c ⟨n, s, f⟩).1.members.D, x = ⟨n, s, true⟩ ∨ x ∈ c.members.D := fun x hx => by
    rw [hD] at hx
    rcases List.mem_append.1 hx with hx | hx
    · rcases List.mem_append.1 hx with hx | hx
      · exact .inr (List.mem_of_mem_take hx)
      · exact .inl (List.mem_singleton.1 hx)
    · exact .inr (List.mem_of_mem_drop hx)
  refine ⟨q1, q2, fun x hx hf => ?_, ?_, ?_⟩
  · rcases hmem x hx with rfl | hx
    · cases hf
    · exact List.mem_map.2 ⟨x, hx, rfl⟩
  · rw [hD]
    have hin : ∀ y ∈ c.members.D, ((c.members.D.map (·.node)).contains y.node) = true := fun y hy => List.contains_iff_mem.2 (List.mem_map.2 ⟨y, hy, rfl⟩)
    have hout : ((c.members.D.map (·.node)).contains n) = false := by
      cases e : (c.members.D.map (·.node)).contains n
      · rfl
      · obtain ⟨y, hy, ey⟩ := List.mem_map.1 (List.contains_iff_mem.1 e)
        exact absurd ey (hno y hy)
    have all : ∀ (l : List Member), (∀ y ∈ l, y ∈ c.members.D) → (l.map (·.node)).filter (fun n => (c.members.D.map (·.node)).contains n) = l.map (·.node) := fun l hl =>
      List.filter_eq_self.2 fun m hm => by
        obtain ⟨y, hy, ey⟩ := List.mem_map.1 hm
        rw [← ey]; exact hin y (hl y hy)
    rw [List.map_append, List.map_append, List.filter_append, List.filter_append, all _ fun y hy => List.mem_of_mem_take hy, all _ fun y hy => List.mem_of_mem_drop hy]
    simp only [List.map_cons, List.map_nil, List.filter_cons, hout, Bool.false_eq_true, if_false, List.filter_nil, List.append_nil]
    rw [← List.map_append, List.take_append_drop]
    exact List.Sublist.refl _
  · obtain ⟨x, hx⟩ := List.exists_mem_of_ne_nil _ ((check_iff c).1 hc).2.1
    refine ⟨x, ?_, List.mem_map.2 ⟨x, hx, rfl⟩⟩
    rw [hD]
    rw [← List.take_append_drop k c.members.D] at hx
    rcases List.mem_append.1 hx with hx | hx
    · exact List.mem_append_left _ (List.mem_append_left _ hx)
    · exact List.mem_append_right _ hx
theorem ready_nodes {c : Chain} (hc : check c = 0) {n : Int} (h : (ready c n).2 = 0) : check (ready c n).1 = 0 ∧ (ready c n).1.epoch = c.epoch ∧ (ready c n).1.members.D.map (·.node) = c.members.D.map (·.node) := by
  obtain ⟨q1, q2, _, _⟩ := (ready_is hc n).1 h
  refine ⟨q1, q2, ?_⟩
  unfold ready at h ⊢
  rw [hc, show ((0 : Int) != 0) = false from rfl, cond_false] at h ⊢
  cases h1 : decide (placeIn c n < 0)
  · rw [h1, cond_false] at h
    rw [cond_false]
    have hp : placeIn c n = rPlace c n := by rw [← place_eq]; unfold place0; rw [hc]; rfl
    have hlt := (rPlace_lt c n).1
    have h1 := of_decide_eq_false h1
    rw [hp] at h h1 ⊢
    obtain ⟨p, hpn⟩ : ∃ p : Nat, rPlace c n = (p : Int) := ⟨(rPlace c n).toNat, by omega⟩
    rw [hpn, Int.toNat_natCast] at h ⊢
    have hpl : p < c.members.D.length := by omega
    cases h2 : !(c.members.D[p]!.fresh)
    · show (c.members.D.set p (Member.mk (c.members.D[p]!.node) (c.members.D[p]!.site) false)).map (·.node) = _
      rw [getElem!_pos _ p hpl]
      exact set_map (fun m => m.node) hpl rfl
    · rw [h2] at h; cases h
  · rw [h1] at h; cases h
/-- What a step is. -/
theorem step_next {c : Chain} (hn : hnC c) (hc : check c = 0) {k : Command} (h : (nextL c k).2 = 0) : check (nextL c k).1 = 0 ∧ ((nextL c k).1.epoch = c.epoch + 1 ∧ Comes c (nextL c k).1 ∨ (nextL c k).1.epoch = c.epoch ∧ (nextL c k).1.members.D.map (·.node) = c.members.D.map (·.node)) := by
  unfold nextL at h ⊢
  cases h0 : k.epoch != c.epoch
  · rw [h0, cond_false] at h
    rw [cond_false]
    cases h1 : k.kind == 1
    · rw [h1, cond_false] at h
      rw [cond_false]
      cases h2 : k.kind == 5
      · rw [h2, cond_false] at h
        rw [cond_false]
        cases h3 : k.kind == 2
        · rw [h3, cond_false] at h
          rw [cond_false]
          cases h4 : k.kind == 3
          · rw [h4, cond_false] at h
            obtain ⟨a, b, d⟩ := ready_nodes hc h
            exact ⟨a, .inr ⟨b, d⟩⟩
          · rw [h4, cond_true] at h
            have q := comes_again hn hc h
            exact ⟨q.chk, .inl ⟨q.ep, q⟩⟩
        · rw [h3, cond_true] at h
          have q := comes_join hc h
          exact ⟨q.chk, .inl ⟨q.ep, q⟩⟩
      · rw [h2, cond_true] at h
        have q := comes_dropSite hc h
        exact ⟨q.chk, .inl ⟨q.ep, q⟩⟩
    · rw [h1, cond_true] at h
      have q := comes_drop hc h
      exact ⟨q.chk, .inl ⟨q.ep, q⟩⟩
  · rw [h0] at h; cases h
/-- A ledger as the reference has it. -/
def twin (g : Ledger) : Ledger60 := ⟨g.chain, g.past.all, g.at_⟩
structure Good (g : Ledger) (n : Nat) : Prop where
  lived : Lived g n
  ok : okL g
  chk : check g.chain = 0
  hnA : ∀ y ∈ g.past.all.D, hnC y
  cnt : g.past.all.D.length ≤ 1 + n
theorem Good.hn {g : Ledger} {n : Nat} (h : Good g n) : hnC g.chain := h.ok.1
theorem Good.nil {g : Ledger} {n : Nat} (h : Good g n) : g.chain.members.nil = false := by
  cases e : g.chain.members.nil
  · rfl
  · exact absurd (h.hn e) ((check_iff _).1 h.chk).2.1
theorem copied_eq {c : Chain} (h : hnC c) : copied c = c := by
  unfold copied
  rw [clone_eq h]
theorem Good.apply {g : Ledger} {n : Nat} (h : Good g n) (hn : n ≤ 1000) (i : Int) (d : Sl Int) : Good (lApply g i d).1 (n + 1) := by
  have hl := h.lived.apply hn i d
  have ho := apply_okL h.ok i d
  have hc := apply_all g i d
  have hcnt := h.cnt
  refine ⟨hl, ho, ?_, ?_, by omega⟩
  · rcases apply_cases h.lived hn i d with q | ⟨_, ⟨q, _⟩ | ⟨q, _⟩ | ⟨_, q, _⟩ | ⟨_, q0, ⟨_, q⟩ | ⟨_, q⟩⟩⟩ <;> rw [q]
    · exact h.chk
    · exact h.chk
    · exact h.chk
    · exact h.chk
    · exact (step_next h.hn h.chk q0).1
    · exact (step_next h.hn h.chk q0).1
  · rcases apply_cases h.lived hn i d with q | ⟨_, ⟨q, _⟩ | ⟨q, _⟩ | ⟨_, q, _⟩ | ⟨_, q0, ⟨_, q⟩ | ⟨_, q⟩⟩⟩ <;> rw [q]
    · exact h.hnA
    · exact h.hnA
    · exact h.hnA
    · exact h.hnA
    · intro y hy
      rcases List.mem_append.1 hy with hy | hy
      · exact h.hnA y hy
      · rw [List.mem_singleton.1 hy, copied_eq (few_next _ _).1]
        exact (few_next _ _).1
    · exact h.hnA
theorem newL_good {m : Sl Member} (h : (firstC m).2 = 0) (hm : m.D.length ≤ 1000000) : Good (newL m).1 0 where
  lived := newL_lived h
  ok := (newL_ok m hm).1
  chk := firstC_ok h
  hnA := fun y hy => by
    have : y = (firstC m).1 := by simpa [newL] using hy
    rw [this]; exact firstC_hn m
  cnt := (newL_ok m hm).2
theorem of_l0_eq (e : Int) : ∀ (l r : List Chain), (∀ y ∈ r, hnC y) → (bif decide (indexFuncC_l0 (fun x0 => pastF x0 e) r l.length < 0) then ((Chain.mk 0 (Sl.mk true []), false) : Chain × Bool) else (copied ((l ++ r)[(indexFuncC_l0 (fun x0 => pastF x0 e) r l.length).toNat]!), true)) = rOf_l0 e r l.length
  | l, [], _ => rfl
  | l, x :: r, h => by
    unfold indexFuncC_l0 rOf_l0
    show (bif decide ((bif (x.epoch == e) then ((l.length : Nat) : Int) else indexFuncC_l0 _ r (l.length + 1)) < 0) then _ else (copied ((l ++ x :: r)[(bif (x.epoch == e) then ((l.length : Nat) : Int) else indexFuncC_l0 _ r (l.length + 1)).toNat]!), true)) = _
    cases hx : x.epoch == e
    · have := of_l0_eq e (l ++ [x]) r fun y hy => h y (List.mem_cons_of_mem _ hy)
      simp only [List.length_append, List.length_singleton, List.append_assoc, List.singleton_append] at this
      simpa only [cond_false] using this
    · simp only [cond_true, Int.toNat_natCast]
      have e1 : decide (((l.length : Nat) : Int) < 0) = false := by simp
      rw [e1, cond_false]
      have e2 : (l ++ x :: r)[l.length]! = x := by simp
      rw [e2, copied_eq (h x (List.mem_cons_self ..))]
theorem lOf_eq {g : Ledger} {n : Nat} (h : Good g n) (e : Int) : lOf g e = rOf (twin g) e := by
  unfold lOf
  rw [h.lived.dead]
  exact of_l0_eq e [] g.past.all.D h.hnA
end Go.Proofs.Ytpgenmflgdkfiaa
/- Chains handed out as rows of their own. No conditions. -/
namespace Go.Proofs.Ytpgenmflgdkfiaa
open Go.Am
end Go.Proofs.Ytpgenmflgdkfiaa
/- What the law of plays needs of a step. No conditions. -/
namespace Go.Proofs.Ytpgenmflgdkfiaa
open Go.Am
theorem lOf_len {l : Ledger} (h : okL l) (e : Int) : (lOf l e).1.members.D.length ≤ 1000000 := by
  unfold lOf
  cases lDead l
  · show (pastOf l.past e).1.members.D.length ≤ 1000000
    unfold pastOf
    cases h1 : decide (indexFuncC l.past.all (fun x0 => pastF x0 e) < 0)
    · refine Nat.le_trans (copied_len _) ?_
      have hi := indexFuncC_lt l.past.all (fun x0 => pastF x0 e)
      have h1 := of_decide_eq_false h1
      refine h.2.2 _ ?_
      rw [getElem!_pos _ _ (by omega)]
      exact List.getElem_mem _
    · exact Nat.zero_le _
  · exact Nat.zero_le _
end Go.Proofs.Ytpgenmflgdkfiaa
/- Ledgers behind calls are good; the history of a ledger. No conditions. -/
namespace Go.Proofs.Ytpgenmflgdkfiaa
open Go.Am
theorem made_l0_good : ∀ (l : List Do) (i n : Nat) (g : Ledger), Good g n → n + l.length ≤ 1000 → Good (made_l0 l i g) (n + l.length)
  | [], _, _, _, h, _ => h
  | x :: l, i, n, g, h, hn => by
    unfold made_l0
    rw [List.length_cons] at hn
    have := made_l0_good l (i + 1) (n + 1) _ (h.apply (by omega) (doIndex x (lAt g)) (doData x (lChain g).epoch)) (by omega)
    rw [List.length_cons]
    rwa [show n + 1 + l.length = n + (l.length + 1) by omega] at this
theorem made_good {m : Sl Member} {l : Sl Do} (h : (firstC m).2 = 0) (hm : m.D.length ≤ 1000000) (hl : l.D.length ≤ 1000) : Good (made m l) l.D.length := by
  have := made_l0_good l.D 0 0 _ (newL_good h hm) (by omega)
  rwa [Nat.zero_add] at this
theorem lChain_hi {g : Ledger} {n : Nat} (h : Good g n) : 1 ≤ (lChain g).epoch ∧ (lChain g).epoch ≤ 1 + (n : Int) := by
  rw [h.lived.chain]
  exact ⟨h.lived.lo, h.lived.hi⟩
/-- All chains that there were, and the last one. -/
structure Hist (g : Ledger) : Prop where
  ep : ∀ (i : Nat) c, g.past.all.D[i]? = some c → c.epoch = (i : Int) + 1
  chk : ∀ (i : Nat) c, g.past.all.D[i]? = some c → check c = 0
  step : ∀ (i : Nat) c d, g.past.all.D[i]? = some c → g.past.all.D[i + 1]? = some d → Comes c d
  len : (g.past.all.D.length : Int) = g.chain.epoch
  last : ∀ c, g.past.all.D[g.past.all.D.length - 1]? = some c → c.members.D.map (·.node) = g.chain.members.D.map (·.node)
theorem comes_congr {c c' d : Chain} (h : Comes c d) (he : c'.epoch = c.epoch) (hm : c'.members.D.map (·.node) = c.members.D.map (·.node)) : Comes c' d where
  chk := h.chk
  ep := by rw [he]; exact h.ep
  old := by rw [hm]; exact h.old
  row := by rw [hm]; exact h.row
  one := by rw [hm]; exact h.one
theorem Hist.apply {g : Ledger} {n : Nat} (hg : Good g n) (hn : n ≤ 1000) (h : Hist g) (i : Int) (d : Sl Int) : Hist (lApply g i d).1 := by
  rcases apply_cases hg.lived hn i d with q | ⟨_, ⟨q, _⟩ | ⟨q, _⟩ | ⟨_, q, _⟩ | ⟨_, q0, ⟨qe, q⟩ | ⟨qe, q⟩⟩⟩ <;> rw [q]
  · exact h
  · exact ⟨h.ep, h.chk, h.step, h.len, h.last⟩
  · exact ⟨h.ep, h.chk, h.step, h.len, h.last⟩
  · exact ⟨h.ep, h.chk, h.step, h.len, h.last⟩
  · obtain ⟨s1, s2⟩ := step_next hg.hn hg.chk q0
    have hc : copied (nextL g.chain (cmdGet d).1).1 = (nextL g.chain (cmdGet d).1).1 := copied_eq (few_next _ _).1
    rw [hc]
    generalize nextL g.chain (cmdGet d).1 = x at *
    rcases s2 with ⟨e1, s2⟩ | ⟨e1, _⟩
    · have hlen := h.len
      have hlo := hg.lived.lo
      have hcases : ∀ (j : Nat) c, (g.past.all.D ++ [x.1])[j]? = some c → g.past.all.D[j]? = some c ∨ (j = g.past.all.D.length ∧ c = x.1) := fun j c hj => by
        rcases Nat.lt_or_ge j g.past.all.D.length with hl | hl
        · rw [List.getElem?_append_left hl] at hj; exact .inl hj
        · rw [List.getElem?_append_right hl] at hj
          rcases Nat.eq_zero_or_pos (j - g.past.all.D.length) with h0 | h0
          · rw [h0] at hj
            simp only [List.getElem?_cons_zero, Option.some.injEq] at hj
            exact .inr ⟨by omega, hj.symm⟩
          · rw [List.getElem?_eq_none (by simp; omega)] at hj; cases hj
      refine ⟨fun j c hj => ?_, fun j c hj => ?_, fun j c d hj hj' => ?_, ?_, fun c hj => ?_⟩
      · rcases hcases j c hj with hj | ⟨rfl, rfl⟩
        · exact h.ep j c hj
        · omega
      · rcases hcases j c hj with hj | ⟨rfl, rfl⟩
        · exact h.chk j c hj
        · exact s1
      · rcases hcases (j + 1) d hj' with hj' | ⟨ej, rfl⟩
        · rcases hcases j c hj with hj | ⟨e0, _⟩
          · exact h.step j c d hj hj'
          · rw [List.getElem?_eq_none (by omega)] at hj'; cases hj'
        · rcases hcases j c hj with hj | ⟨e0, _⟩
          · have hl := h.last c (by rw [show g.past.all.D.length - 1 = j by omega]; exact hj)
            exact comes_congr s2 (by rw [h.ep j c hj]; omega) hl
          · omega
      · show ((g.past.all.D ++ [x.1]).length : Int) = x.1.epoch
        rw [List.length_append, List.length_singleton]; omega
      · have hj : (g.past.all.D ++ [x.1])[(g.past.all.D ++ [x.1]).length - 1]? = some c := hj
        rw [List.length_append, List.length_singleton, Nat.add_sub_cancel] at hj
        rcases hcases _ c hj with hj | ⟨_, rfl⟩
        · rw [List.getElem?_eq_none (by omega)] at hj; cases hj
        · rfl
    · omega
  · obtain ⟨s1, s2⟩ := step_next hg.hn hg.chk q0
    rcases s2 with ⟨e1, _⟩ | ⟨e1, s2⟩
    · omega
    · exact ⟨h.ep, h.chk, h.step, by show (g.past.all.D.length : Int) = _; rw [e1]; exact h.len, fun c hc => (h.last c hc).trans s2.symm⟩
theorem newL_hist {m : Sl Member} (h : (firstC m).2 = 0) : Hist (newL m).1 := by
  have e : (firstC m).1.epoch = 1 := by
    have := (newL_lived h).lo
    have := (newL_lived h).hi
    show (newL m).1.chain.epoch = 1
    omega
  have h0 : ∀ (j : Nat) c, ([(firstC m).1])[j]? = some c → j = 0 ∧ c = (firstC m).1 := fun j c hj => by
    cases j with
    | zero => simp at hj; exact ⟨rfl, hj.symm⟩
    | succ j => simp at hj
  refine ⟨fun j c hj => ?_, fun j c hj => ?_, fun j c d hj hj' => ?_, ?_, fun c hj => ?_⟩
  · obtain ⟨rfl, rfl⟩ := h0 j c hj; rw [e]; rfl
  · obtain ⟨rfl, rfl⟩ := h0 j c hj; exact firstC_ok h
  · obtain ⟨h1, _⟩ := h0 (j + 1) d hj'; omega
  · show (1 : Int) = (firstC m).1.epoch; rw [e]
  · obtain ⟨_, rfl⟩ := h0 _ c hj; rfl
theorem made_l0_hist : ∀ (l : List Do) (i n : Nat) (g : Ledger), Good g n → Hist g → n + l.length ≤ 1000 → Hist (made_l0 l i g)
  | [], _, _, _, _, h, _ => h
  | x :: l, i, n, g, hg, h, hn => by
    unfold made_l0
    rw [List.length_cons] at hn
    exact made_l0_hist l (i + 1) (n + 1) _ (hg.apply (by omega) (doIndex x (lAt g)) (doData x (lChain g).epoch)) (h.apply hg (by omega) _ _) (by omega)
theorem made_hist {m : Sl Member} {l : Sl Do} (h : (firstC m).2 = 0) (hm : m.D.length ≤ 1000000) (hl : l.D.length ≤ 1000) : Hist (made m l) :=
  made_l0_hist l.D 0 0 _ (newL_good h hm) (newL_hist h) (by omega)
end Go.Proofs.Ytpgenmflgdkfiaa
/- Law: epochs. No conditions. -/
namespace Go.Proofs.Ytpgenmflgdkfiaa
open Go.Am
def lawEpochs_l2 (vc : Chain) (x : Member) (kk : Bool) : List Member → Nat → Bool
  | [], _ => kk 
  | x1 :: x1s, i1 => (bif (decide ((place0 vc x.node) ≥ 0)) then (bif (decide ((place0 vc x1.node) ≥ 0)) then (bif (decide ((place0 vc x.node) > (place0 vc x1.node))) then false else lawEpochs_l2 vc x kk x1s (i1 + 1) ) else lawEpochs_l2 vc x kk x1s (i1 + 1) ) else lawEpochs_l2 vc x kk x1s (i1 + 1) )
def lawEpochs_l1 (g : Ledger) (n : Int) (vc : Chain) (kk : Bool) : List Member → Nat → Bool
  | [], _ => kk 
  | x :: xs, i => lawEpochs_l2 vc x ((bif (!x.fresh) then (bif (decide ((place0 vc x.node) < 0)) then false else lawEpochs_l1 g n vc kk xs (i + 1) ) else lawEpochs_l1 g n vc kk xs (i + 1) )) (((lOf g n).1.members.D).drop ((IntKind.i64.wrap ((i : Int) + 1)).toNat)) 0
def lawEpochs_l0 (g : Ledger) : Nat → Int → Chain → Bool
  | 0, _, _ => default
  | nn + 1, n, vc => (bif (decide (n ≤ ((lChain g).epoch))) then (bif (!((lOf g n).2)) then false else (bif ((check ((lOf g n).1)) != 0) then false else (bif (((lOf g n).1.epoch) != n) then false else lawEpochs_l1 g n vc ((bif ((mLen (mAnd (nodes ((lOf g n).1)) (nodes vc))) == 0) then false else lawEpochs_l0 g nn (IntKind.i64.wrap (n + 1)) ((lOf g n).1))) ((lOf g n).1.members.D) 0 ))) else (bif (!((lOf g (IntKind.i64.wrap (((lChain g).epoch) + 1))).2)) then (bif ((nodes (lChain g)) == (nodes vc)) then (awake ) else false) else false))
def lawEpochs (m : (Sl Member)) (l : (Sl Do)) : Bool :=
  (bif (decide ((m.D.length : Int) > 60)) then (awake ) else (bif (!(short (Sl.mk false [l]))) then (awake ) else (bif (((firstC m).2) != 0) then (awake ) else lawEpochs_l0 (made m l) (((lChain (made m l)).epoch + 1 - 2).toNat + 1) 2 ((lOf (made m l) 1).1))))
theorem lawEpochs_calls (m : (Sl Member)) (l : (Sl Do)) (hl1 : m.D.length ≤ 9223372036854775807) : PCalls Try.prog 9 [sS (some m.nil) eMember m.D, sS (some l.nil) eDo l.D] (.pv (.lit (.bool (lawEpochs m l)))) := by
 generalize hR : lawEpochs m l = R
 refine PCalls.of_body tabOk Try.func9 rfl rfl rfl rfl rfl mixed fun E hP C hI => ?_
 refine Awp.consP C ?_
 refine rvP C (.pv (.lit (.bool false))) ?_
 refine rvc_nil ?_
 refine Awp.seq ?_
 refine Awp.consP C ?_
 refine rvP C (sS (some m.nil) eMember m.D) ?_
 refine rvP C (.pv (.lit (.int .i64 (m.D.length : Int)))) ?_
 refine rvP C (.pv (.lit (.bool (decide ((m.D.length : Int) > 60))))) ?_
 refine rvP C (.pv (.lit (.bool (decide ((m.D.length : Int) > 60))))) ?_
 refine rvc_case 24 (decide ((m.D.length : Int) > 60)) rfl (fun h1 => ?_) (fun h1 => ?_)
 ·
  replace hR := of_true h1 hR
  refine rvS ?_
  refine rvS ?_
  refine rvS ?_
  refine rvS ?_
  refine rvP C (.pv (.lit (.bool true))) ?_
  refine rvc_nil ?_
  refine Awp.condT (b := true) rfl rfl ?_
  refine Awp.consP C ?_
  refine rvc_un (rexec_call hP C rfl rfl rfl (awake_calls ) ?_)
  refine rvP C (.pv (.lit (.bool (awake )))) ?_
  refine rvc_nil ?_
  refine Awp.ret ?_
  subst hR
  exact ⟨.inl rfl, rfl⟩
 ·
  replace hR := of_false h1 hR
  refine rvO C (sS (some l.nil) eDo l.D) ?_
  refine rvc_open rfl rfl rfl (rexec_buildSliceF C (eSl eDo) [l] rfl rfl rfl rfl rfl rfl rfl (by decide) rfl ?_)
  refine rvc_open rfl rfl rfl (rexec_call hP C rfl rfl rfl (short_calls (Sl.mk false [l]) (by simp)) ?_)
  refine rvO C (.pv (.lit (.bool (!(short (Sl.mk false [l])))))) ?_
  refine rvP C (.pv (.lit (.bool (!(short (Sl.mk false [l])))))) ?_
  refine rvc_nil ?_
  refine Awp.cond (b := (!(short (Sl.mk false [l])))) rfl (fun h2 => ?_) (fun h2 => ?_)
  ·
   replace hR := of_true h2 hR
   refine Awp.consP C ?_
   refine rvc_un (rexec_call hP C rfl rfl rfl (awake_calls ) ?_)
   refine rvP C (.pv (.lit (.bool (awake )))) ?_
   refine rvc_nil ?_
   refine Awp.ret ?_
   subst hR
   exact ⟨.inl rfl, rfl⟩
  ·
   replace hR := of_false h2 hR
   refine Awp.skip ?_
   refine Awp.seq ?_
   refine Awp.cons C (fun _ => .quiet) (by kernel_rfl) ?_
   refine rvP C (sS (some m.nil) eMember m.D) ?_
   rcases Bool.eq_false_or_eq_true (((firstC m).2) != 0) with h3 | h3
   ·
    replace hR := of_true h3 hR
    refine rvc_un (rexec_call hP C rfl rfl rfl (newNil_calls m h3 (by have := of_decide_eq_false ‹decide ((m.D.length : Int) > 60) = false›; omega)) ?_)
    refine rvP C (.tup [.pv (.lit (.pointer none)), .pv (.lit (.int .i64 ((newNil m).2)))]) ?_
    refine rvP C (.pv (.lit (.pointer none))) ?_
    refine rvP C (.pv (.lit (.int .i64 ((newNil m).2)))) ?_
    refine rvP C (.pv (.lit (.pointer none))) ?_
    refine rvP C (.pv (.lit (.int .i64 ((newNil m).2)))) ?_
    refine rvc_nil ?_
    refine Awp.consP C ?_
    refine rvP C (.pv (.lit (.int .i64 ((newNil m).2)))) ?_
    refine rvP C (.pv (.lit (.bool (((newNil m).2) != 0)))) ?_
    refine rvc_nil ?_
    refine Awp.condT (b := (((newNil m).2) != 0)) rfl h3 ?_
    refine Awp.consP C ?_
    refine rvc_un (rexec_call hP C rfl rfl rfl (awake_calls ) ?_)
    refine rvP C (.pv (.lit (.bool (awake )))) ?_
    refine rvc_nil ?_
    refine Awp.ret ?_
    subst hR
    exact ⟨.inl rfl, rfl⟩
   ·
    replace hR := of_false h3 hR
    refine rvc_un (rexec_callO hP C rfl rfl rfl rfl (newL_calls m h3 (by have := of_decide_eq_false ‹decide ((m.D.length : Int) > 60) = false›; omega)) ?_)
    refine rvP C (.tup [.ptr 33 0, .pv (.lit (.int .i64 ((newL m).2)))]) ?_
    refine rvP C (.ptr 33 0) ?_
    refine rvP C (.pv (.lit (.int .i64 ((newL m).2)))) ?_
    refine rvP C (.ptr 33 0) ?_
    refine rvP C (.pv (.lit (.int .i64 ((newL m).2)))) ?_
    refine rvc_nil ?_
    refine Awp.consP C ?_
    refine rvP C (.pv (.lit (.int .i64 ((newL m).2)))) ?_
    refine rvP C (.pv (.lit (.bool (((newL m).2) != 0)))) ?_
    refine rvc_nil ?_
    refine Awp.condF (b := (((newL m).2) != 0)) rfl (newL_e m) ?_
    refine Awp.skip ?_
    refine Awp.cons C (fun _ => .quiet) (by kernel_rfl) ?_
    refine rvP C (sS (some m.nil) eMember m.D) ?_
    refine rvP C (sS (some l.nil) eDo l.D) ?_
    obtain ⟨g, hq_g⟩ : ∃ q_, q_ = (made m l) := ⟨_, rfl⟩
    have hc_g := (made_calls m l (by assumption) (Nat.le_trans (short_ok ‹(!(short (Sl.mk false [l]))) = false› l (by simp)).1 (by decide)) (fun x hx => Nat.le_trans ((short_ok ‹(!(short (Sl.mk false [l]))) = false› l (by simp)).2 x hx) (by decide)) (by have := of_decide_eq_false ‹decide ((m.D.length : Int) > 60) = false›; omega) (Nat.le_trans (short_ok ‹(!(short (Sl.mk false [l]))) = false› l (by simp)).1 (by decide)))
    first | rw [← hq_g] at hR hc_g | (unfold lawEpochs at hR; rw [← hq_g] at hR hc_g)
    have hf0_g := made_good (m := m) (l := l) (eq_of_bne_false (by assumption)) (by have := of_decide_eq_false ‹decide ((m.D.length : Int) > 60) = false›; omega) (Nat.le_trans (short_ok ‹(!(short (Sl.mk false [l]))) = false› l (by simp)).1 (by decide))
    rw [← hq_g] at hf0_g
    refine rvc_un (rexec_callO hP C rfl rfl rfl rfl hc_g ?_)
    refine rvP C (.ptr 41 0) ?_
    refine rvc_nil ?_
    refine Awp.cons C (fun _ => .writer) (by kernel_rfl) ?_
    refine rvP C (.ptr 41 0) ?_
    refine rvc_un (rexec_callM hP C (b := 41) rfl rfl rfl (lOf_calls g 1 hf0_g.ok.2.2 (by have h_ := hf0_g.cnt; have h2_ := (short_ok ‹(!(short (Sl.mk false [l]))) = false› l (by simp)).1; omega)) rfl rfl ?_)
    refine rvP C (.tup [.agg [.pv (.lit (.int .i64 ((lOf g 1).1.epoch))), sS (some (lOf g 1).1.members.nil) eMember ((lOf g 1).1.members.D)], .pv (.lit (.bool ((lOf g 1).2)))]) ?_
    refine rvP C (.agg [.pv (.lit (.int .i64 ((lOf g 1).1.epoch))), sS (some (lOf g 1).1.members.nil) eMember ((lOf g 1).1.members.D)]) ?_
    refine rvP C (.pv (.lit (.bool ((lOf g 1).2)))) ?_
    refine rvc_un (rexec_prim C (δ := { v := .ptr 8 0, new := [(8, .cells [.pv (.lit (.int .i64 0)), sS (some true) eMember []])] }) rfl rfl rfl rfl trivial rfl ?_)
    refine rvc_un (rexec_prim C (δ := { v := .undef, wr := [(8, some (.cells [.pv (.lit (.int .i64 ((lOf g 1).1.epoch))), sS (some (lOf g 1).1.members.nil) eMember ((lOf g 1).1.members.D)]))] }) rfl rfl rfl rfl trivial rfl ?_)
    refine rvP C (.pv (.lit (.bool ((lOf g 1).2)))) ?_
    refine rvc_nil ?_
    refine Awp.seq ?_
    refine Awp.consP C ?_
    refine rvP C (.pv (.lit (.int .i64 2))) ?_
    refine rvc_nil ?_
    refine Awp.block ?_
    refine Awp.forM (σ := Int × Chain) (fun v => [(7, .ptr 41 0), (8, .ptr 8 0), (10, .pv (.lit (.int .i64 v.1)))]) (fun v => [(41, .cells [sS (some g.past.all.nil) eChain g.past.all.D, .pv (.lit (.int .i64 g.chain.epoch)), sS (some g.chain.members.nil) eMember g.chain.members.D, .pv (.lit (.int .i64 g.at_))]), (8, .cells [.pv (.lit (.int .i64 v.2.epoch)), sS (some v.2.members.nil) eMember v.2.members.D])]) [8, 41] (fun n v => n = ((lChain g).epoch + 1 - v.1).toNat ∧ lawEpochs_l0 g (((lChain g).epoch + 1 - v.1).toNat + 1) v.1 v.2 = R ∧ ((2 ≤ v.1 ∧ v.1 ≤ (lChain g).epoch + 1) ∧ v.2.members.D.length ≤ 1000000)) (((lChain g).epoch + 1 - 2).toNat) (2, (lOf g 1).1) ?_ ?_ (fun _ v h4 => ?_)
    · exact ⟨rfl, hR, ⟨(by have hw_ := lChain_hi hf0_g; omega), lOf_len hf0_g.ok _⟩⟩
    · exact ⟨fun b => b, WeakerR.ofL (Ks := [8, 41]) hI ⟨⟨rfl, rfl⟩, ⟨rfl, rfl⟩, ⟨rfl, rfl⟩, trivial⟩ (okH_cons rfl rfl rfl rfl (okH_cons rfl rfl rfl rfl (okH_nil))) rfl⟩
    obtain ⟨n, vc⟩ := v
    obtain ⟨rfl, hR, ⟨hVn, hVl⟩⟩ := h4
    replace hVn : 2 ≤ n ∧ n ≤ (lChain g).epoch + 1 := hVn
    replace hVl : vc.members.D.length ≤ 1000000 := hVl
    have hw_ := lChain_hi hf0_g
    have hw2_ := (short_ok ‹(!(short (Sl.mk false [l]))) = false› l (by simp)).1
    refine Awp.seq ?_
    refine Awp.cons C (fun _ => .writer) (by kernel_rfl) ?_
    refine rvP C (.pv (.lit (.int .i64 n))) ?_
    refine rvP C (.ptr 41 0) ?_
    refine rvc_un (rexec_callM hP C (b := 41) rfl rfl rfl (lChain_calls g hf0_g.ok.2.1) rfl rfl ?_)
    refine rvP C (.pv (.lit (.int .i64 ((lChain g).epoch)))) ?_
    refine rvP C (.pv (.lit (.bool (decide (n ≤ ((lChain g).epoch)))))) ?_
    refine rvc_nil ?_
    refine Awp.cond (b := (decide (n ≤ ((lChain g).epoch)))) rfl (fun h6 => ?_) (fun h6 => ?_)
    ·
     replace hR := of_true h6 hR
     refine Awp.skip ?_
     refine Awp.seq ?_
     refine Awp.block ?_
     refine Awp.cons C (fun _ => .writer) (by kernel_rfl) ?_
     refine rvP C (.ptr 41 0) ?_
     refine rvP C (.pv (.lit (.int .i64 n))) ?_
     refine rvc_un (rexec_callM hP C (b := 41) rfl rfl rfl (lOf_calls g n hf0_g.ok.2.2 (by have h_ := hf0_g.cnt; have h2_ := (short_ok ‹(!(short (Sl.mk false [l]))) = false› l (by simp)).1; omega)) rfl rfl ?_)
     refine rvP C (.tup [.agg [.pv (.lit (.int .i64 ((lOf g n).1.epoch))), sS (some (lOf g n).1.members.nil) eMember ((lOf g n).1.members.D)], .pv (.lit (.bool ((lOf g n).2)))]) ?_
     refine rvP C (.agg [.pv (.lit (.int .i64 ((lOf g n).1.epoch))), sS (some (lOf g n).1.members.nil) eMember ((lOf g n).1.members.D)]) ?_
     refine rvP C (.pv (.lit (.bool ((lOf g n).2)))) ?_
     refine rvc_un (rexec_prim C (δ := { v := .ptr 11 0, new := [(11, .cells [.pv (.lit (.int .i64 0)), sS (some true) eMember []])] }) rfl rfl rfl rfl trivial rfl ?_)
     refine rvc_un (rexec_prim C (δ := { v := .undef, wr := [(11, some (.cells [.pv (.lit (.int .i64 ((lOf g n).1.epoch))), sS (some (lOf g n).1.members.nil) eMember ((lOf g n).1.members.D)]))] }) rfl rfl rfl rfl trivial rfl ?_)
     refine rvP C (.pv (.lit (.bool ((lOf g n).2)))) ?_
     refine rvc_nil ?_
     refine Awp.seq ?_
     refine Awp.consP C ?_
     refine rvP C (.pv (.lit (.bool ((lOf g n).2)))) ?_
     refine rvP C (.pv (.lit (.bool (!((lOf g n).2))))) ?_
     refine rvP C (.pv (.lit (.bool (!((lOf g n).2))))) ?_
     refine rvc_case 62 (!((lOf g n).2)) rfl (fun h7 => ?_) (fun h7 => ?_)
     ·
      replace hR := of_true h7 hR
      refine rvS ?_
      refine rvS ?_
      refine rvS ?_
      refine rvP C (.pv (.lit (.bool true))) ?_
      refine rvP C (.pv (.lit (.bool true))) ?_
      refine rvS ?_
      refine rvS ?_
      refine rvS ?_
      refine rvS ?_
      refine rvP C (.pv (.lit (.bool true))) ?_
      refine rvc_nil ?_
      refine Awp.condT (b := true) rfl rfl ?_
      refine Awp.consP C ?_
      refine rvP C (.pv (.lit (.bool false))) ?_
      refine rvc_nil ?_
      refine Awp.ret ?_
      subst hR
      exact ⟨.inl rfl, rfl⟩
     ·
      replace hR := of_false h7 hR
      refine rvO C (.agg [.pv (.lit (.int .i64 ((lOf g n).1.epoch))), sS (some (lOf g n).1.members.nil) eMember ((lOf g n).1.members.D)]) ?_
      refine rvc_open rfl rfl rfl (rexec_call hP C rfl rfl rfl (check_calls ((lOf g n).1) (Nat.le_trans (lOf_len hf0_g.ok _) (by decide))) ?_)
      refine rvO C (.pv (.lit (.bool ((check ((lOf g n).1)) != 0)))) ?_
      refine rvP C (.pv (.lit (.bool ((check ((lOf g n).1)) != 0)))) ?_
      refine rvP C (.pv (.lit (.bool ((check ((lOf g n).1)) != 0)))) ?_
      refine rvc_case 67 ((check ((lOf g n).1)) != 0) rfl (fun h8 => ?_) (fun h8 => ?_)
      ·
       replace hR := of_true h8 hR
       refine rvS ?_
       refine rvS ?_
       refine rvS ?_
       refine rvS ?_
       refine rvP C (.pv (.lit (.bool true))) ?_
       refine rvc_nil ?_
       refine Awp.condT (b := true) rfl rfl ?_
       refine Awp.consP C ?_
       refine rvP C (.pv (.lit (.bool false))) ?_
       refine rvc_nil ?_
       refine Awp.ret ?_
       subst hR
       exact ⟨.inl rfl, rfl⟩
      ·
       replace hR := of_false h8 hR
       refine rvO C (.ptr 11 0) ?_
       refine rvO C (.pv (.lit (.int .i64 ((lOf g n).1.epoch)))) ?_
       refine rvO C (.pv (.lit (.int .i64 n))) ?_
       refine rvO C (.pv (.lit (.bool (((lOf g n).1.epoch) != n)))) ?_
       refine rvP C (.pv (.lit (.bool (((lOf g n).1.epoch) != n)))) ?_
       refine rvc_nil ?_
       refine Awp.cond (b := (((lOf g n).1.epoch) != n)) rfl (fun h9 => ?_) (fun h9 => ?_)
       ·
        replace hR := of_true h9 hR
        refine Awp.consP C ?_
        refine rvP C (.pv (.lit (.bool false))) ?_
        refine rvc_nil ?_
        refine Awp.ret ?_
        subst hR
        exact ⟨.inl rfl, rfl⟩
       ·
        replace hR := of_false h9 hR
        refine Awp.skip ?_
        refine Awp.seq ?_
        refine Awp.consP C ?_
        refine rvP C (.ptr 11 1) ?_
        refine rvP C (sS (some (lOf g n).1.members.nil) eMember ((lOf g n).1.members.D)) ?_
        refine rvP C (.pv (.lit (.int .i64 (((lOf g n).1.members.D).length : Int)))) ?_
        refine rvP C (.pv (.lit (.int .i64 0))) ?_
        refine rvc_nil ?_
        refine Awp.block ?_
        refine Awp.forR (σ := Unit) (((lOf g n).1.members.D).length) (fun i _v => [(7, .ptr 41 0), (8, .ptr 8 0), (10, .pv (.lit (.int .i64 n))), (11, .ptr 11 0), (63, .agg [.pv (.lit (.int .i64 ((lOf g n).1.epoch))), sS (some (lOf g n).1.members.nil) eMember ((lOf g n).1.members.D)]), (64, .pv (.lit (.int .i64 (check ((lOf g n).1))))), (65, .pv (.lit (.bool ((check ((lOf g n).1)) != 0)))), (68, .ptr 11 0), (69, .pv (.lit (.int .i64 ((lOf g n).1.epoch)))), (70, .pv (.lit (.int .i64 n))), (71, .pv (.lit (.bool (((lOf g n).1.epoch) != n)))), (74, sS (some (lOf g n).1.members.nil) eMember ((lOf g n).1.members.D)), (75, .pv (.lit (.int .i64 (((lOf g n).1.members.D).length : Int)))), (76, .pv (.lit (.int .i64 (i : Int))))]) (fun i _v => [(41, .cells [sS (some g.past.all.nil) eChain g.past.all.D, .pv (.lit (.int .i64 g.chain.epoch)), sS (some g.chain.members.nil) eMember g.chain.members.D, .pv (.lit (.int .i64 g.at_))]), (8, .cells [.pv (.lit (.int .i64 vc.epoch)), sS (some vc.members.nil) eMember vc.members.D]), (11, .cells [.pv (.lit (.int .i64 ((lOf g n).1.epoch))), sS (some (lOf g n).1.members.nil) eMember ((lOf g n).1.members.D)])]) [8, 11, 41] (fun i _v => lawEpochs_l1 g n vc ((bif ((mLen (mAnd (nodes ((lOf g n).1)) (nodes vc))) == 0) then false else lawEpochs_l0 g (((lChain g).epoch + 1 - n).toNat) (IntKind.i64.wrap (n + 1)) ((lOf g n).1))) (((lOf g n).1.members.D).drop i) i  = R) () ?_ ?_ (fun i _v h10 hR => ?_)
        · exact hR
        · exact ⟨fun b => b, WeakerR.ofL (Ks := [8, 11, 41]) hI ⟨⟨rfl, rfl⟩, ⟨rfl, rfl⟩, ⟨rfl, rfl⟩, ⟨rfl, rfl⟩, ⟨rfl, rfl⟩, ⟨rfl, rfl⟩, ⟨rfl, rfl⟩, ⟨rfl, rfl⟩, ⟨rfl, rfl⟩, ⟨rfl, rfl⟩, ⟨rfl, rfl⟩, ⟨rfl, rfl⟩, ⟨rfl, rfl⟩, ⟨rfl, rfl⟩, trivial⟩ (okH_cons rfl rfl rfl rfl (okH_cons rfl rfl rfl rfl (okH_cons rfl rfl rfl rfl (okH_nil)))) rfl⟩
        have hq_ : (lOf g n).1.members.D.length ≤ 1000000 := lOf_len hf0_g.ok _
        refine Awp.consP C ?_
        refine rvP C (.pv (.lit (.bool (decide ((i : Int) < (((lOf g n).1.members.D).length : Int)))))) ?_
        refine rvc_nil ?_
        refine Awp.seq ?_
        refine Awp.cond (b := (decide ((i : Int) < (((lOf g n).1.members.D).length : Int)))) rfl (fun h11 => ?_) (fun h11 => ?_)
        ·
         have h12 : i < ((lOf g n).1.members.D).length := by have := of_decide_eq_true h11; omega
         obtain ⟨x, h13⟩ := getX h12
         rw [drop_at h13] at hR
         refine Awp.skip ?_
         refine Awp.seq ?_
         refine Awp.block ?_
         refine Awp.consP C ?_
         refine rvP C (.pv (.lit (.int .i64 (i : Int)))) ?_
         refine rvc_un (rexec_idxS C rfl rfl rfl rfl rfl rfl x (Int.natCast_nonneg _) h13 ?_)
         refine rvP C (.agg [.pv (.lit (.int .i64 x.node)), .pv (.lit (.int .i64 x.site)), .pv (.lit (.bool x.fresh))]) ?_
         refine rvc_un (rexec_prim C (δ := { v := .ptr 14 0, new := [(14, .cells [.pv (.lit (.int .i64 0)), .pv (.lit (.int .i64 0)), .pv (.lit (.bool false))])] }) rfl rfl rfl rfl trivial rfl ?_)
         refine rvP C (.pv (.lit (.int .i64 (i : Int)))) ?_
         refine rvc_un (rexec_prim C (δ := { v := .undef, wr := [(14, some (.cells [.pv (.lit (.int .i64 x.node)), .pv (.lit (.int .i64 x.site)), .pv (.lit (.bool x.fresh))]))] }) rfl rfl rfl rfl trivial rfl ?_)
         refine rvc_nil ?_
         refine Awp.seq ?_
         refine Awp.consP C ?_
         refine rvP C (.ptr 11 1) ?_
         refine rvP C (sS (some (lOf g n).1.members.nil) eMember ((lOf g n).1.members.D)) ?_
         refine rvP C (.pv (.lit (.int .i64 (i : Int)))) ?_
         refine rvP C (.pv (.lit (.int .i64 (IntKind.i64.wrap ((i : Int) + 1))))) ?_
         refine rvc_un (rexec_sliceS C (e := eMember) (D := ((lOf g n).1.members.D)) ((IntKind.i64.wrap ((i : Int) + 1)).toNat) (((lOf g n).1.members.D).length) rfl rfl rfl rfl rfl rfl rfl rfl (by have := wrapI ((i : Int) + 1); simp; omega) rfl (by have := wrapI ((i : Int) + 1); omega) (by have := wrapI ((i : Int) + 1); omega) (((lOf g n).1.members.D).drop ((IntKind.i64.wrap ((i : Int) + 1)).toNat)) (by rw [List.take_of_length_le (by simp)]) ?_)
         refine rvP C (.pv (.lit (.int .i64 ((((lOf g n).1.members.D).drop ((IntKind.i64.wrap ((i : Int) + 1)).toNat)).length : Int)))) ?_
         refine rvP C (.pv (.lit (.int .i64 0))) ?_
         refine rvc_nil ?_
         refine Awp.block ?_
         refine Awp.forR (σ := Unit) ((((lOf g n).1.members.D).drop ((IntKind.i64.wrap ((i : Int) + 1)).toNat)).length) (fun i1 _v => [(7, .ptr 41 0), (8, .ptr 8 0), (10, .pv (.lit (.int .i64 n))), (11, .ptr 11 0), (14, .ptr 14 0), (63, .agg [.pv (.lit (.int .i64 ((lOf g n).1.epoch))), sS (some (lOf g n).1.members.nil) eMember ((lOf g n).1.members.D)]), (64, .pv (.lit (.int .i64 (check ((lOf g n).1))))), (65, .pv (.lit (.bool ((check ((lOf g n).1)) != 0)))), (68, .ptr 11 0), (69, .pv (.lit (.int .i64 ((lOf g n).1.epoch)))), (70, .pv (.lit (.int .i64 n))), (71, .pv (.lit (.bool (((lOf g n).1.epoch) != n)))), (74, sS (some (lOf g n).1.members.nil) eMember ((lOf g n).1.members.D)), (75, .pv (.lit (.int .i64 (((lOf g n).1.members.D).length : Int)))), (76, .pv (.lit (.int .i64 (i : Int)))), (85, sS (some (lOf g n).1.members.nil) eMember (((lOf g n).1.members.D).drop ((IntKind.i64.wrap ((i : Int) + 1)).toNat))), (86, .pv (.lit (.int .i64 ((((lOf g n).1.members.D).drop ((IntKind.i64.wrap ((i : Int) + 1)).toNat)).length : Int)))), (87, .pv (.lit (.int .i64 (i1 : Int))))]) (fun i1 _v => [(41, .cells [sS (some g.past.all.nil) eChain g.past.all.D, .pv (.lit (.int .i64 g.chain.epoch)), sS (some g.chain.members.nil) eMember g.chain.members.D, .pv (.lit (.int .i64 g.at_))]), (8, .cells [.pv (.lit (.int .i64 vc.epoch)), sS (some vc.members.nil) eMember vc.members.D]), (11, .cells [.pv (.lit (.int .i64 ((lOf g n).1.epoch))), sS (some (lOf g n).1.members.nil) eMember ((lOf g n).1.members.D)]), (14, .cells [.pv (.lit (.int .i64 x.node)), .pv (.lit (.int .i64 x.site)), .pv (.lit (.bool x.fresh))])]) [8, 11, 14, 41] (fun i1 _v => lawEpochs_l2 vc x ((bif (!x.fresh) then (bif (decide ((place0 vc x.node) < 0)) then false else lawEpochs_l1 g n vc ((bif ((mLen (mAnd (nodes ((lOf g n).1)) (nodes vc))) == 0) then false else lawEpochs_l0 g (((lChain g).epoch + 1 - n).toNat) (IntKind.i64.wrap (n + 1)) ((lOf g n).1))) (((lOf g n).1.members.D).drop (i + 1)) (i + 1) ) else lawEpochs_l1 g n vc ((bif ((mLen (mAnd (nodes ((lOf g n).1)) (nodes vc))) == 0) then false else lawEpochs_l0 g (((lChain g).epoch + 1 - n).toNat) (IntKind.i64.wrap (n + 1)) ((lOf g n).1))) (((lOf g n).1.members.D).drop (i + 1)) (i + 1) )) ((((lOf g n).1.members.D).drop ((IntKind.i64.wrap ((i : Int) + 1)).toNat)).drop i1) i1  = R) () ?_ ?_ (fun i1 _v h14 hR => ?_)
         · exact hR
         · exact ⟨fun b => b, WeakerR.ofL (Ks := [8, 11, 14, 41]) hI ⟨⟨rfl, rfl⟩, ⟨rfl, rfl⟩, ⟨rfl, rfl⟩, ⟨rfl, rfl⟩, ⟨rfl, rfl⟩, ⟨rfl, rfl⟩, ⟨rfl, rfl⟩, ⟨rfl, rfl⟩, ⟨rfl, rfl⟩, ⟨rfl, rfl⟩, ⟨rfl, rfl⟩, ⟨rfl, rfl⟩, ⟨rfl, rfl⟩, ⟨rfl, rfl⟩, ⟨rfl, rfl⟩, ⟨rfl, rfl⟩, ⟨rfl, rfl⟩, ⟨rfl, rfl⟩, trivial⟩ (okH_cons rfl rfl rfl rfl (okH_cons rfl rfl rfl rfl (okH_cons rfl rfl rfl rfl (okH_cons rfl rfl rfl rfl (okH_nil))))) rfl⟩
         have hd_ := List.length_drop (i := (IntKind.i64.wrap ((i : Int) + 1)).toNat) (l := (lOf g n).1.members.D)
         refine Awp.consP C ?_
         refine rvP C (.pv (.lit (.bool (decide ((i1 : Int) < ((((lOf g n).1.members.D).drop ((IntKind.i64.wrap ((i : Int) + 1)).toNat)).length : Int)))))) ?_
         refine rvc_nil ?_
         refine Awp.seq ?_
         refine Awp.cond (b := (decide ((i1 : Int) < ((((lOf g n).1.members.D).drop ((IntKind.i64.wrap ((i : Int) + 1)).toNat)).length : Int)))) rfl (fun h15 => ?_) (fun h15 => ?_)
         ·
          have h16 : i1 < (((lOf g n).1.members.D).drop ((IntKind.i64.wrap ((i : Int) + 1)).toNat)).length := by have := of_decide_eq_true h15; omega
          obtain ⟨x1, h17⟩ := getX h16
          rw [drop_at h17] at hR
          refine Awp.skip ?_
          refine Awp.seq ?_
          refine Awp.block ?_
          refine Awp.consP C ?_
          refine rvc_un (rexec_idxS C rfl rfl rfl rfl rfl rfl x1 (Int.natCast_nonneg _) h17 ?_)
          refine rvP C (.agg [.pv (.lit (.int .i64 x1.node)), .pv (.lit (.int .i64 x1.site)), .pv (.lit (.bool x1.fresh))]) ?_
          refine rvc_un (rexec_prim C (δ := { v := .ptr 16 0, new := [(16, .cells [.pv (.lit (.int .i64 0)), .pv (.lit (.int .i64 0)), .pv (.lit (.bool false))])] }) rfl rfl rfl rfl trivial rfl ?_)
          refine rvc_un (rexec_prim C (δ := { v := .undef, wr := [(16, some (.cells [.pv (.lit (.int .i64 x1.node)), .pv (.lit (.int .i64 x1.site)), .pv (.lit (.bool x1.fresh))]))] }) rfl rfl rfl rfl trivial rfl ?_)
          refine rvc_nil ?_
          refine Awp.consP C ?_
          refine rvP C (.agg [.pv (.lit (.int .i64 vc.epoch)), sS (some vc.members.nil) eMember vc.members.D]) ?_
          refine rvP C (.ptr 14 0) ?_
          refine rvP C (.pv (.lit (.int .i64 x.node))) ?_
          refine rvc_un (rexec_call hP C rfl rfl rfl (place0_calls vc x.node (by show vc.members.D.length ≤ 9223372036854775807; have := wrapI ((i : Int) + 1); have := check_len (c := ((lOf g n).1)); have := check_le6 (c := ((lOf g n).1)); have := of_decide_eq_false h1; have := eq_of_bne_false h3; have := eq_of_bne_false (newL_e m); have := of_decide_eq_true h6; have := eq_of_bne_false h8; have := eq_of_bne_false h9; have := of_decide_eq_true h11; have := of_decide_eq_true h15; omega)) ?_)
          refine rvP C (.agg [.pv (.lit (.int .i64 vc.epoch)), sS (some vc.members.nil) eMember vc.members.D]) ?_
          refine rvP C (.ptr 16 0) ?_
          refine rvP C (.pv (.lit (.int .i64 x1.node))) ?_
          refine rvc_un (rexec_call hP C rfl rfl rfl (place0_calls vc x1.node (by show vc.members.D.length ≤ 9223372036854775807; have := wrapI ((i : Int) + 1); have := check_len (c := ((lOf g n).1)); have := check_le6 (c := ((lOf g n).1)); have := place0_lt vc x.node; have := of_decide_eq_false h1; have := eq_of_bne_false h3; have := eq_of_bne_false (newL_e m); have := of_decide_eq_true h6; have := eq_of_bne_false h8; have := eq_of_bne_false h9; have := of_decide_eq_true h11; have := of_decide_eq_true h15; omega)) ?_)
          refine rvP C (.pv (.lit (.int .i64 (place0 vc x.node)))) ?_
          refine rvP C (.pv (.lit (.int .i64 (place0 vc x1.node)))) ?_
          refine rvc_nil ?_
          refine Awp.consP C ?_
          refine rvP C (.pv (.lit (.int .i64 (place0 vc x.node)))) ?_
          refine rvP C (.pv (.lit (.bool (decide ((place0 vc x.node) ≥ 0))))) ?_
          refine rvP C (.pv (.lit (.bool (decide ((place0 vc x.node) ≥ 0))))) ?_
          refine rvc_case 101 (decide ((place0 vc x.node) ≥ 0)) rfl (fun h18 => ?_) (fun h18 => ?_)
          ·
           replace hR := of_true h18 hR
           refine rvO C (.pv (.lit (.int .i64 (place0 vc x1.node)))) ?_
           refine rvO C (.pv (.lit (.bool (decide ((place0 vc x1.node) ≥ 0))))) ?_
           refine rvP C (.pv (.lit (.bool (decide ((place0 vc x1.node) ≥ 0))))) ?_
           refine rvP C (.pv (.lit (.bool (decide ((place0 vc x1.node) ≥ 0))))) ?_
           refine rvc_case 105 (decide ((place0 vc x1.node) ≥ 0)) rfl (fun h19 => ?_) (fun h19 => ?_)
           ·
            replace hR := of_true h19 hR
            refine rvO C (.pv (.lit (.int .i64 (place0 vc x.node)))) ?_
            refine rvO C (.pv (.lit (.int .i64 (place0 vc x1.node)))) ?_
            refine rvO C (.pv (.lit (.bool (decide ((place0 vc x.node) > (place0 vc x1.node)))))) ?_
            refine rvP C (.pv (.lit (.bool (decide ((place0 vc x.node) > (place0 vc x1.node)))))) ?_
            refine rvc_nil ?_
            refine Awp.cond (b := (decide ((place0 vc x.node) > (place0 vc x1.node)))) rfl (fun h20 => ?_) (fun h20 => ?_)
            ·
             replace hR := of_true h20 hR
             refine Awp.consP C ?_
             refine rvP C (.pv (.lit (.bool false))) ?_
             refine rvc_nil ?_
             refine Awp.ret ?_
             subst hR
             exact ⟨.inl rfl, rfl⟩
            ·
             replace hR := of_false h20 hR
             refine Awp.skip ?_
             refine Awp.regionP C ?_
             refine rvP C (.pv (.lit (.int .i64 (IntKind.i64.wrap ((i1 : Int) + 1))))) ?_
             refine rvP C (.pv (.lit (.int .i64 (IntKind.i64.wrap ((i1 : Int) + 1))))) ?_
             refine rvc_nil ?_
             refine ⟨h16, (), ?_, ?_⟩
             · exact hR
             · exact ⟨fun b => b, WeakerR.ofL (Ks := [8, 11, 14, 41]) hI ⟨⟨rfl, rfl⟩, ⟨rfl, rfl⟩, ⟨rfl, rfl⟩, ⟨rfl, rfl⟩, ⟨rfl, rfl⟩, ⟨rfl, rfl⟩, ⟨rfl, rfl⟩, ⟨rfl, rfl⟩, ⟨rfl, rfl⟩, ⟨rfl, rfl⟩, ⟨rfl, rfl⟩, ⟨rfl, rfl⟩, ⟨rfl, rfl⟩, ⟨rfl, rfl⟩, ⟨rfl, rfl⟩, ⟨rfl, rfl⟩, ⟨rfl, rfl⟩, ⟨lit_cast (wrap_i64 (by omega) (by omega)), rfl⟩, trivial⟩ (okH_cons rfl rfl rfl rfl (okH_cons rfl rfl rfl rfl (okH_cons rfl rfl rfl rfl (okH_cons rfl rfl rfl rfl (okH_nil))))) rfl⟩
           ·
            replace hR := of_false h19 hR
            refine rvS ?_
            refine rvS ?_
            refine rvS ?_
            refine rvP C (.pv (.lit (.bool false))) ?_
            refine rvc_nil ?_
            refine Awp.condF (b := false) rfl rfl ?_
            refine Awp.skip ?_
            refine Awp.regionP C ?_
            refine rvP C (.pv (.lit (.int .i64 (IntKind.i64.wrap ((i1 : Int) + 1))))) ?_
            refine rvP C (.pv (.lit (.int .i64 (IntKind.i64.wrap ((i1 : Int) + 1))))) ?_
            refine rvc_nil ?_
            refine ⟨h16, (), ?_, ?_⟩
            · exact hR
            · exact ⟨fun b => b, WeakerR.ofL (Ks := [8, 11, 14, 41]) hI ⟨⟨rfl, rfl⟩, ⟨rfl, rfl⟩, ⟨rfl, rfl⟩, ⟨rfl, rfl⟩, ⟨rfl, rfl⟩, ⟨rfl, rfl⟩, ⟨rfl, rfl⟩, ⟨rfl, rfl⟩, ⟨rfl, rfl⟩, ⟨rfl, rfl⟩, ⟨rfl, rfl⟩, ⟨rfl, rfl⟩, ⟨rfl, rfl⟩, ⟨rfl, rfl⟩, ⟨rfl, rfl⟩, ⟨rfl, rfl⟩, ⟨rfl, rfl⟩, ⟨lit_cast (wrap_i64 (by omega) (by omega)), rfl⟩, trivial⟩ (okH_cons rfl rfl rfl rfl (okH_cons rfl rfl rfl rfl (okH_cons rfl rfl rfl rfl (okH_cons rfl rfl rfl rfl (okH_nil))))) rfl⟩
          ·
           replace hR := of_false h18 hR
           refine rvS ?_
           refine rvS ?_
           refine rvP C (.pv (.lit (.bool false))) ?_
           refine rvP C (.pv (.lit (.bool false))) ?_
           refine rvS ?_
           refine rvS ?_
           refine rvS ?_
           refine rvP C (.pv (.lit (.bool false))) ?_
           refine rvc_nil ?_
           refine Awp.condF (b := false) rfl rfl ?_
           refine Awp.skip ?_
           refine Awp.regionP C ?_
           refine rvP C (.pv (.lit (.int .i64 (IntKind.i64.wrap ((i1 : Int) + 1))))) ?_
           refine rvP C (.pv (.lit (.int .i64 (IntKind.i64.wrap ((i1 : Int) + 1))))) ?_
           refine rvc_nil ?_
           refine ⟨h16, (), ?_, ?_⟩
           · exact hR
           · exact ⟨fun b => b, WeakerR.ofL (Ks := [8, 11, 14, 41]) hI ⟨⟨rfl, rfl⟩, ⟨rfl, rfl⟩, ⟨rfl, rfl⟩, ⟨rfl, rfl⟩, ⟨rfl, rfl⟩, ⟨rfl, rfl⟩, ⟨rfl, rfl⟩, ⟨rfl, rfl⟩, ⟨rfl, rfl⟩, ⟨rfl, rfl⟩, ⟨rfl, rfl⟩, ⟨rfl, rfl⟩, ⟨rfl, rfl⟩, ⟨rfl, rfl⟩, ⟨rfl, rfl⟩, ⟨rfl, rfl⟩, ⟨rfl, rfl⟩, ⟨lit_cast (wrap_i64 (by omega) (by omega)), rfl⟩, trivial⟩ (okH_cons rfl rfl rfl rfl (okH_cons rfl rfl rfl rfl (okH_cons rfl rfl rfl rfl (okH_cons rfl rfl rfl rfl (okH_nil))))) rfl⟩
         ·
          have h16 : ¬ i1 < (((lOf g n).1.members.D).drop ((IntKind.i64.wrap ((i : Int) + 1)).toNat)).length := by have := of_decide_eq_false h15; omega
          rw [drop_end h16] at hR
          refine Awp.exit ?_
          refine Awp.consP C ?_
          refine rvP C (.ptr 14 2) ?_
          refine rvP C (.pv (.lit (.bool x.fresh))) ?_
          refine rvP C (.pv (.lit (.bool (!x.fresh)))) ?_
          refine rvP C (.pv (.lit (.bool (!x.fresh)))) ?_
          refine rvc_case 114 (!x.fresh) rfl (fun h21 => ?_) (fun h21 => ?_)
          ·
           replace hR := of_true h21 hR
           refine rvO C (.agg [.pv (.lit (.int .i64 vc.epoch)), sS (some vc.members.nil) eMember vc.members.D]) ?_
           refine rvO C (.ptr 14 0) ?_
           refine rvO C (.pv (.lit (.int .i64 x.node))) ?_
           refine rvc_open rfl rfl rfl (rexec_call hP C rfl rfl rfl (place0_calls vc x.node (by show vc.members.D.length ≤ 9223372036854775807; have := wrapI ((i : Int) + 1); have := check_len (c := ((lOf g n).1)); have := check_le6 (c := ((lOf g n).1)); have := of_decide_eq_false h1; have := eq_of_bne_false h3; have := eq_of_bne_false (newL_e m); have := of_decide_eq_true h6; have := eq_of_bne_false h8; have := eq_of_bne_false h9; have := of_decide_eq_true h11; have := of_decide_eq_false h15; omega)) ?_)
           refine rvO C (.pv (.lit (.bool (decide ((place0 vc x.node) < 0))))) ?_
           refine rvP C (.pv (.lit (.bool (decide ((place0 vc x.node) < 0))))) ?_
           refine rvc_nil ?_
           refine Awp.cond (b := (decide ((place0 vc x.node) < 0))) rfl (fun h22 => ?_) (fun h22 => ?_)
           ·
            replace hR := of_true h22 hR
            refine Awp.consP C ?_
            refine rvP C (.pv (.lit (.bool false))) ?_
            refine rvc_nil ?_
            refine Awp.ret ?_
            subst hR
            exact ⟨.inl rfl, rfl⟩
           ·
            replace hR := of_false h22 hR
            refine Awp.skip ?_
            refine Awp.regionP C ?_
            refine rvP C (.pv (.lit (.int .i64 (IntKind.i64.wrap ((i : Int) + 1))))) ?_
            refine rvP C (.pv (.lit (.int .i64 (IntKind.i64.wrap ((i : Int) + 1))))) ?_
            refine rvc_nil ?_
            refine ⟨h12, (), ?_, ?_⟩
            · exact hR
            · exact ⟨fun b => b, WeakerR.ofL (Ks := [8, 11, 41]) hI ⟨⟨rfl, rfl⟩, ⟨rfl, rfl⟩, ⟨rfl, rfl⟩, ⟨rfl, rfl⟩, ⟨rfl, rfl⟩, ⟨rfl, rfl⟩, ⟨rfl, rfl⟩, ⟨rfl, rfl⟩, ⟨rfl, rfl⟩, ⟨rfl, rfl⟩, ⟨rfl, rfl⟩, ⟨rfl, rfl⟩, ⟨rfl, rfl⟩, ⟨lit_cast (wrap_i64 (by omega) (by omega)), rfl⟩, trivial⟩ (okH_cons rfl rfl rfl rfl (okH_cons rfl rfl rfl rfl (okH_cons rfl rfl rfl rfl (okH_nil)))) rfl⟩
          ·
           replace hR := of_false h21 hR
           refine rvS ?_
           refine rvS ?_
           refine rvS ?_
           refine rvS ?_
           refine rvS ?_
           refine rvP C (.pv (.lit (.bool false))) ?_
           refine rvc_nil ?_
           refine Awp.condF (b := false) rfl rfl ?_
           refine Awp.skip ?_
           refine Awp.regionP C ?_
           refine rvP C (.pv (.lit (.int .i64 (IntKind.i64.wrap ((i : Int) + 1))))) ?_
           refine rvP C (.pv (.lit (.int .i64 (IntKind.i64.wrap ((i : Int) + 1))))) ?_
           refine rvc_nil ?_
           refine ⟨h12, (), ?_, ?_⟩
           · exact hR
           · exact ⟨fun b => b, WeakerR.ofL (Ks := [8, 11, 41]) hI ⟨⟨rfl, rfl⟩, ⟨rfl, rfl⟩, ⟨rfl, rfl⟩, ⟨rfl, rfl⟩, ⟨rfl, rfl⟩, ⟨rfl, rfl⟩, ⟨rfl, rfl⟩, ⟨rfl, rfl⟩, ⟨rfl, rfl⟩, ⟨rfl, rfl⟩, ⟨rfl, rfl⟩, ⟨rfl, rfl⟩, ⟨rfl, rfl⟩, ⟨lit_cast (wrap_i64 (by omega) (by omega)), rfl⟩, trivial⟩ (okH_cons rfl rfl rfl rfl (okH_cons rfl rfl rfl rfl (okH_cons rfl rfl rfl rfl (okH_nil)))) rfl⟩
        ·
         have h12 : ¬ i < ((lOf g n).1.members.D).length := by have := of_decide_eq_false h11; omega
         rw [drop_end h12] at hR
         refine Awp.exit ?_
         refine Awp.seq ?_
         refine Awp.consP C ?_
         refine rvP C (.agg [.pv (.lit (.int .i64 ((lOf g n).1.epoch))), sS (some (lOf g n).1.members.nil) eMember ((lOf g n).1.members.D)]) ?_
         refine rvc_un (rexec_call hP C rfl rfl rfl (nodes_calls ((lOf g n).1) (by show ((lOf g n).1.members.D).length ≤ 9223372036854775807; have := check_len (c := ((lOf g n).1)); have := check_le6 (c := ((lOf g n).1)); have := of_decide_eq_false h1; have := eq_of_bne_false h3; have := eq_of_bne_false (newL_e m); have := of_decide_eq_true h6; have := eq_of_bne_false h8; have := eq_of_bne_false h9; have := of_decide_eq_false h11; omega)) ?_)
         refine rvP C (.agg [.pv (.lit (.int .i64 vc.epoch)), sS (some vc.members.nil) eMember vc.members.D]) ?_
         refine rvc_un (rexec_call hP C rfl rfl rfl (nodes_calls vc (by show vc.members.D.length ≤ 9223372036854775807; have := check_len (c := ((lOf g n).1)); have := check_le6 (c := ((lOf g n).1)); have := of_decide_eq_false h1; have := eq_of_bne_false h3; have := eq_of_bne_false (newL_e m); have := of_decide_eq_true h6; have := eq_of_bne_false h8; have := eq_of_bne_false h9; have := of_decide_eq_false h11; omega)) ?_)
         refine rvc_un (rexec_call hP C rfl rfl rfl (mAnd_calls (nodes ((lOf g n).1)) (nodes vc)) ?_)
         refine rvc_un (rexec_call hP C rfl rfl rfl (mLen_calls (mAnd (nodes ((lOf g n).1)) (nodes vc))) ?_)
         refine rvP C (.pv (.lit (.bool ((mLen (mAnd (nodes ((lOf g n).1)) (nodes vc))) == 0)))) ?_
         refine rvc_nil ?_
         refine Awp.cond (b := ((mLen (mAnd (nodes ((lOf g n).1)) (nodes vc))) == 0)) rfl (fun h23 => ?_) (fun h23 => ?_)
         ·
          replace hR := of_true h23 hR
          refine Awp.consP C ?_
          refine rvP C (.pv (.lit (.bool false))) ?_
          refine rvc_nil ?_
          refine Awp.ret ?_
          subst hR
          exact ⟨.inl rfl, rfl⟩
         ·
          replace hR := of_false h23 hR
          refine Awp.skip ?_
          refine Awp.regionP C ?_
          refine rvP C (.agg [.pv (.lit (.int .i64 ((lOf g n).1.epoch))), sS (some (lOf g n).1.members.nil) eMember ((lOf g n).1.members.D)]) ?_
          refine rvc_un (rexec_prim C (δ := { v := .undef, wr := [(8, some (.cells [.pv (.lit (.int .i64 ((lOf g n).1.epoch))), sS (some (lOf g n).1.members.nil) eMember ((lOf g n).1.members.D)]))] }) rfl rfl rfl rfl trivial rfl ?_)
          refine rvc_nil ?_
          refine Awp.regionP C ?_
          refine rvP C (.pv (.lit (.int .i64 n))) ?_
          refine rvP C (.pv (.lit (.int .i64 (IntKind.i64.wrap (n + 1))))) ?_
          refine rvP C (.pv (.lit (.int .i64 (IntKind.i64.wrap (n + 1))))) ?_
          refine rvc_nil ?_
          refine ⟨_, ((IntKind.i64.wrap (n + 1)), (lOf g n).1), ?_, ⟨rfl, (by rw [show (((lChain g).epoch + 1 - (IntKind.i64.wrap (n + 1))).toNat) + 1 = (((lChain g).epoch + 1 - n).toNat) by (have := wrapI (n + 1); have := of_decide_eq_true ‹decide (n ≤ (lChain g).epoch) = true›; omega)]; exact hR), ⟨(by have := wrapI (n + 1); have := of_decide_eq_true ‹decide (n ≤ (lChain g).epoch) = true›; omega), lOf_len hf0_g.ok _⟩⟩, ?_⟩
          · show ((lChain g).epoch + 1 - (IntKind.i64.wrap (n + 1))).toNat < ((lChain g).epoch + 1 - n).toNat; (have := wrapI (n + 1); have := of_decide_eq_true ‹decide (n ≤ (lChain g).epoch) = true›; omega)
          · exact ⟨fun b => b, WeakerR.ofL (Ks := [8, 41]) hI ⟨⟨rfl, rfl⟩, ⟨rfl, rfl⟩, ⟨rfl, rfl⟩, trivial⟩ (okH_cons rfl rfl rfl rfl (okH_cons rfl rfl rfl rfl (okH_nil))) rfl⟩
    ·
     replace hR := of_false h6 hR
     refine Awp.exit ?_
     refine Awp.cons C (fun _ => .writer) (by kernel_rfl) ?_
     refine rvP C (.ptr 41 0) ?_
     refine rvP C (.ptr 41 0) ?_
     refine rvc_un (rexec_callM hP C (b := 41) rfl rfl rfl (lChain_calls g hf0_g.ok.2.1) rfl rfl ?_)
     refine rvP C (.pv (.lit (.int .i64 ((lChain g).epoch)))) ?_
     refine rvP C (.pv (.lit (.int .i64 (IntKind.i64.wrap (((lChain g).epoch) + 1))))) ?_
     refine rvc_un (rexec_callM hP C (b := 41) rfl rfl rfl (lOf_calls g (IntKind.i64.wrap (((lChain g).epoch) + 1)) hf0_g.ok.2.2 (by have h_ := hf0_g.cnt; have h2_ := (short_ok ‹(!(short (Sl.mk false [l]))) = false› l (by simp)).1; omega)) rfl rfl ?_)
     refine rvP C (.tup [.agg [.pv (.lit (.int .i64 ((lOf g (IntKind.i64.wrap (((lChain g).epoch) + 1))).1.epoch))), sS (some (lOf g (IntKind.i64.wrap (((lChain g).epoch) + 1))).1.members.nil) eMember ((lOf g (IntKind.i64.wrap (((lChain g).epoch) + 1))).1.members.D)], .pv (.lit (.bool ((lOf g (IntKind.i64.wrap (((lChain g).epoch) + 1))).2)))]) ?_
     refine rvP C (.agg [.pv (.lit (.int .i64 ((lOf g (IntKind.i64.wrap (((lChain g).epoch) + 1))).1.epoch))), sS (some (lOf g (IntKind.i64.wrap (((lChain g).epoch) + 1))).1.members.nil) eMember ((lOf g (IntKind.i64.wrap (((lChain g).epoch) + 1))).1.members.D)]) ?_
     refine rvP C (.pv (.lit (.bool ((lOf g (IntKind.i64.wrap (((lChain g).epoch) + 1))).2)))) ?_
     refine rvc_un (rexec_prim C (δ := { v := .ptr 19 0, new := [(19, .cells [.pv (.lit (.int .i64 0)), sS (some true) eMember []])] }) rfl rfl rfl rfl trivial rfl ?_)
     refine rvc_un (rexec_prim C (δ := { v := .undef, wr := [(19, some (.cells [.pv (.lit (.int .i64 ((lOf g (IntKind.i64.wrap (((lChain g).epoch) + 1))).1.epoch))), sS (some (lOf g (IntKind.i64.wrap (((lChain g).epoch) + 1))).1.members.nil) eMember ((lOf g (IntKind.i64.wrap (((lChain g).epoch) + 1))).1.members.D)]))] }) rfl rfl rfl rfl trivial rfl ?_)
     refine rvP C (.pv (.lit (.bool ((lOf g (IntKind.i64.wrap (((lChain g).epoch) + 1))).2)))) ?_
     refine rvc_nil ?_
     refine Awp.cons C (fun o => match o.dst with | some 143 => .writes [41] | some 145 => .reads [8] | _ => .pure) (by kernel_rfl) ?_
     refine rvP C (.pv (.lit (.bool ((lOf g (IntKind.i64.wrap (((lChain g).epoch) + 1))).2)))) ?_
     refine rvP C (.pv (.lit (.bool (!((lOf g (IntKind.i64.wrap (((lChain g).epoch) + 1))).2))))) ?_
     refine rvP C (.pv (.lit (.bool (!((lOf g (IntKind.i64.wrap (((lChain g).epoch) + 1))).2))))) ?_
     refine rvc_case 141 (!((lOf g (IntKind.i64.wrap (((lChain g).epoch) + 1))).2)) rfl (fun h24 => ?_) (fun h24 => ?_)
     ·
      replace hR := of_true h24 hR
      refine rvO C (.ptr 41 0) ?_
      refine rvc_open rfl rfl rfl (rexec_callM hP C (b := 41) rfl rfl rfl (lChain_calls g hf0_g.ok.2.1) rfl rfl ?_)
      refine rvc_open rfl rfl rfl (rexec_call hP C rfl rfl rfl (nodes_calls (lChain g) (Nat.le_trans (lChain_len hf0_g.ok) (by decide))) ?_)
      refine rvO C (.agg [.pv (.lit (.int .i64 vc.epoch)), sS (some vc.members.nil) eMember vc.members.D]) ?_
      refine rvc_open rfl rfl rfl (rexec_call hP C rfl rfl rfl (nodes_calls vc (by show vc.members.D.length ≤ 9223372036854775807; have := wrapI (((lChain g).epoch) + 1); have := of_decide_eq_false h1; have := eq_of_bne_false h3; have := eq_of_bne_false (newL_e m); have := of_decide_eq_false h6; omega)) ?_)
      refine rvO C (.pv (.lit (.bool ((nodes (lChain g)) == (nodes vc))))) ?_
      refine rvP C (.pv (.lit (.bool ((nodes (lChain g)) == (nodes vc))))) ?_
      refine rvP C (.pv (.lit (.bool ((nodes (lChain g)) == (nodes vc))))) ?_
      refine rvc_case 149 ((nodes (lChain g)) == (nodes vc)) rfl (fun h25 => ?_) (fun h25 => ?_)
      ·
       replace hR := of_true h25 hR
       refine rvc_open rfl rfl rfl (rexec_call hP C rfl rfl rfl (awake_calls ) ?_)
       refine rvP C (.pv (.lit (.bool (awake )))) ?_
       refine rvP C (.pv (.lit (.bool (awake )))) ?_
       refine rvc_nil ?_
       refine Awp.ret ?_
       subst hR
       exact ⟨.inl rfl, rfl⟩
      ·
       replace hR := of_false h25 hR
       refine rvS ?_
       refine rvP C (.pv (.lit (.bool false))) ?_
       refine rvP C (.pv (.lit (.bool false))) ?_
       refine rvc_nil ?_
       refine Awp.ret ?_
       subst hR
       exact ⟨.inl rfl, rfl⟩
     ·
      replace hR := of_false h24 hR
      refine rvS ?_
      refine rvS ?_
      refine rvS ?_
      refine rvS ?_
      refine rvS ?_
      refine rvS ?_
      refine rvP C (.pv (.lit (.bool false))) ?_
      refine rvP C (.pv (.lit (.bool false))) ?_
      refine rvS ?_
      refine rvP C (.pv (.lit (.bool false))) ?_
      refine rvP C (.pv (.lit (.bool false))) ?_
      refine rvc_nil ?_
      refine Awp.ret ?_
      subst hR
      exact ⟨.inl rfl, rfl⟩
end Go.Proofs.Ytpgenmflgdkfiaa
/- Law: plays. No conditions. -/
namespace Go.Proofs.Ytpgenmflgdkfiaa
open Go.Am
end Go.Proofs.Ytpgenmflgdkfiaa
/- The law of plays; its contract. No conditions. -/
namespace Go.Proofs.Ytpgenmflgdkfiaa
open Go.Am
end Go.Proofs.Ytpgenmflgdkfiaa
/- The law of epochs; its contract. No conditions. -/
namespace Go.Proofs.Ytpgenmflgdkfiaa
open Go.Am
theorem pair_at : ∀ (l : List Int) (a b : Int), [a, b].Sublist l → ∃ p q : Nat, p < q ∧ l[p]? = some a ∧ l[q]? = some b
  | [], _, _, h => by cases h
  | x :: l, a, b, h => by
    cases h with
    | cons _ h =>
      obtain ⟨p, q, h1, h2, h3⟩ := pair_at l a b h
      exact ⟨p + 1, q + 1, by omega, by simpa using h2, by simpa using h3⟩
    | cons_cons _ h =>
      have hb : b ∈ l := List.singleton_sublist.1 h
      obtain ⟨q, hq, e⟩ := List.getElem_of_mem hb
      exact ⟨0, q + 1, by omega, by simp, by simp [hq, e]⟩
theorem rPlace_l0_mem (n : Int) : ∀ (l : List Member) (i : Nat), 0 ≤ rPlace_l0 n l i → n ∈ l.map (·.node)
  | [], _, h => by unfold rPlace_l0 at h; omega
  | x :: l, i, h => by
    unfold rPlace_l0 at h
    cases hx : x.node == n
    · rw [hx, cond_false] at h
      exact List.mem_cons_of_mem _ (rPlace_l0_mem n l (i + 1) h)
    · rw [List.map_cons, beq_iff_eq.1 hx]; exact List.mem_cons_self ..
theorem place_mem {c : Chain} {n : Int} (hc : check c = 0) : 0 ≤ place0 c n ↔ n ∈ c.members.D.map (·.node) := by
  constructor
  · intro h
    rw [place_eq] at h
    unfold rPlace at h
    cases e : rCheck c != 0
    · rw [e, cond_false] at h; exact rPlace_l0_mem n _ _ h
    · rw [e, cond_true] at h; omega
  · intro h
    obtain ⟨x, hx, e⟩ := List.mem_map.1 h
    rcases Int.lt_or_le (place0 c n) 0 with h1 | h1
    · rw [place_eq] at h1
      exact absurd e (place_none hc h1 x hx)
    · exact h1
theorem place_nth {c : Chain} (hc : check c = 0) {p : Nat} {n : Int} (h : (c.members.D.map (·.node))[p]? = some n) : place0 c n = (p : Int) := by
  rw [List.getElem?_map] at h
  cases e : c.members.D[p]? with
  | none => rw [e] at h; cases h
  | some x =>
    rw [e] at h
    simp only [Option.map_some, Option.some.injEq] at h
    obtain ⟨hp, ex⟩ := List.getElem?_eq_some_iff.1 e
    have := place_at hc hp
    rwa [getElem!_pos _ p hp, ex, h] at this
theorem comes_order {c d : Chain} (hc : check c = 0) (h : Comes c d) {i : Nat} {x y : Member} (hx : d.members.D[i]? = some x) (hy : y ∈ d.members.D.drop (i + 1)) (h1 : 0 ≤ place0 c x.node) (h2 : 0 ≤ place0 c y.node) : place0 c x.node ≤ place0 c y.node := by
  have m1 := (place_mem hc).1 h1
  have m2 := (place_mem hc).1 h2
  have s1 : [x, y].Sublist d.members.D := by
    refine List.Sublist.trans ?_ (List.drop_sublist i d.members.D)
    rw [drop_at hx]
    exact List.Sublist.cons_cons x (List.singleton_sublist.2 hy)
  have s2 := ((s1.map (·.node)).filter fun n => (c.members.D.map (·.node)).contains n).trans h.row
  have e : (([x, y].map (·.node)).filter fun n => (c.members.D.map (·.node)).contains n) = [x.node, y.node] := by
    refine List.filter_eq_self.2 fun n hn => ?_
    simp only [List.map_cons, List.map_nil, List.mem_cons, List.not_mem_nil, or_false] at hn
    rcases hn with rfl | rfl
    · exact List.contains_iff_mem.2 m1
    · exact List.contains_iff_mem.2 m2
  rw [e] at s2
  obtain ⟨p, q, hpq, a, b⟩ := pair_at _ _ _ s2
  rw [place_nth hc a, place_nth hc b]
  omega
theorem epochs_l2_eq (c : Chain) (x : Member) (kk : Bool) : ∀ (ys : List Member) (i : Nat), (∀ y ∈ ys, 0 ≤ place0 c x.node → 0 ≤ place0 c y.node → place0 c x.node ≤ place0 c y.node) → lawEpochs_l2 c x kk ys i = kk
  | [], _, _ => rfl
  | y :: ys, i, h => by
    unfold lawEpochs_l2
    have ih := epochs_l2_eq c x kk ys (i + 1) fun z hz => h z (List.mem_cons_of_mem _ hz)
    cases h1 : decide (place0 c x.node ≥ 0)
    · exact ih
    · cases h2 : decide (place0 c y.node ≥ 0)
      · exact ih
      · have := h y (List.mem_cons_self ..) (of_decide_eq_true h1) (of_decide_eq_true h2)
        have e : decide (place0 c x.node > place0 c y.node) = false := by simp; omega
        rw [e]; exact ih
theorem epochs_l1_eq {g : Ledger} {n : Int} {c : Chain} (kk : Bool) (hc : check c = 0) (h : Comes c (lOf g n).1) (hl : (lOf g n).1.members.D.length ≤ 1000000) : ∀ (xs : List Member) (i : Nat), xs = (lOf g n).1.members.D.drop i → i ≤ (lOf g n).1.members.D.length → lawEpochs_l1 g n c kk xs i = kk
  | [], _, _, _ => rfl
  | x :: xs, i, hx, hi => by
    unfold lawEpochs_l1
    have hlt : i < (lOf g n).1.members.D.length := by
      rcases Nat.lt_or_ge i (lOf g n).1.members.D.length with h' | h'
      · exact h'
      · rw [List.drop_of_length_le h'] at hx; cases hx
    obtain ⟨x', hx'⟩ := getX hlt
    rw [drop_at hx'] at hx
    injection hx with e1 e2
    subst e1
    have hw : (IntKind.i64.wrap ((i : Int) + 1)).toNat = i + 1 := by have := wrapI ((i : Int) + 1); omega
    rw [hw, epochs_l2_eq c x _ _ 0 fun y hy a b => comes_order hc h hx' hy a b]
    have ih := epochs_l1_eq kk hc h hl xs (i + 1) e2 (by omega)
    cases hf : x.fresh
    · have hm := h.old x (List.mem_of_getElem? hx') hf
      have := (place_mem hc).2 hm
      have e : decide (place0 c x.node < 0) = false := by simp; omega
      rw [e]; exact ih
    · exact ih
theorem bits_lt64 (p : Member → Bool) : ∀ (l : List Member) (S : Nat), S < 64 → (∀ x ∈ l, 0 ≤ x.node ∧ x.node ≤ 5) → bitsOf p l S < 64
  | [], _, h, _ => h
  | x :: l, S, h, hm => by
    have e : bitsOf p (x :: l) S = bitsOf p l (if p x && mIn x.node then S ||| 2 ^ x.node.toNat else S) := rfl
    rw [e]
    refine bits_lt64 p l _ ?_ fun y hy => hm y (List.mem_cons_of_mem _ hy)
    split
    · have hx := hm x (List.mem_cons_self ..)
      have : 2 ^ x.node.toNat < 2 ^ 6 := Nat.pow_lt_pow_right (by decide) (by omega)
      exact Nat.or_lt_two_pow (n := 6) h this
    · exact h
theorem both_some {c d : Chain} (hc : check c = 0) (hd : check d = 0) {x : Member} (hx : x ∈ d.members.D) (hm : x.node ∈ c.members.D.map (·.node)) : (mLen (mAnd (nodes d) (nodes c)) == 0) = false := by
  obtain ⟨y, hy, e⟩ := List.mem_map.1 hm
  have r := mem_ok hd hx
  have hdn := (nodes_l0_eq d.members.D 0 0 (by decide)).1
  have hcn := (nodes_l0_eq c.members.D 0 0 (by decide)).1
  have ld := bits_lt64 (fun _ => true) d.members.D 0 (by decide) fun z hz => by have := mem_ok hd hz; omega
  have lc := bits_lt64 (fun _ => true) c.members.D 0 (by decide) fun z hz => by have := mem_ok hc hz; omega
  have e1 : nodes d = ((bitsOf (fun _ => true) d.members.D 0 : Nat) : Int) := hdn
  have e2 : nodes c = ((bitsOf (fun _ => true) c.members.D 0 : Nat) : Int) := hcn
  obtain ⟨k, hk⟩ : ∃ k : Nat, x.node = (k : Int) := ⟨x.node.toNat, by omega⟩
  have t1 : (bitsOf (fun _ => true) d.members.D 0).testBit k = true := by
    rw [bits_test _ (by omega)]
    simp only [Nat.zero_testBit, Bool.false_or, List.any_eq_true]
    exact ⟨x, hx, by simp [hk]⟩
  have t2 : (bitsOf (fun _ => true) c.members.D 0).testBit k = true := by
    rw [bits_test _ (by omega)]
    simp only [Nat.zero_testBit, Bool.false_or, List.any_eq_true]
    exact ⟨y, hy, by simp [e, hk]⟩
  unfold mAnd
  rw [e1, e2, and64 (by omega) (by omega)]
  generalize bitsOf (fun _ => true) d.members.D 0 = a at *
  generalize bitsOf (fun _ => true) c.members.D 0 = b at *
  have hab : a &&& b < 64 := Nat.lt_of_le_of_lt Nat.and_le_left ld
  have t : (a &&& b).testBit k = true := by rw [Nat.testBit_and, t1, t2]; rfl
  rw [popcount _ hab]
  have hk5 : k = 0 ∨ k = 1 ∨ k = 2 ∨ k = 3 ∨ k = 4 ∨ k = 5 := by omega
  rw [beq_eq_false_iff_ne]
  rcases hk5 with rfl | rfl | rfl | rfl | rfl | rfl <;> (rw [t]; simp only [Bool.toNat_true]; omega)
theorem rOf_l0_at (e : Int) : ∀ (l : List Chain) (i k : Nat), (∀ j c, l[j]? = some c → c.epoch = ((k + j : Nat) : Int) + 1) → (k : Int) + 1 ≤ e → (∀ c, l[(e - 1 - k).toNat]? = some c → rOf_l0 e l i = (c, true)) ∧ (e > k + l.length → (rOf_l0 e l i).2 = false)
  | [], _, _, _, _ => ⟨fun c h => by simp at h, fun _ => rfl⟩
  | x :: l, i, k, h, he => by
    have hx := h 0 x rfl
    unfold rOf_l0
    by_cases hk : e = (k : Int) + 1
    · have e1 : (x.epoch == e) = true := by rw [beq_iff_eq]; omega
      rw [e1, cond_true]
      refine ⟨fun c hc => ?_, fun hgt => ?_⟩
      · rw [show (e - 1 - k).toNat = 0 by omega] at hc
        simp only [List.getElem?_cons_zero, Option.some.injEq] at hc
        rw [hc]
      · simp only [List.length_cons] at hgt; omega
    · have e1 : (x.epoch == e) = false := by rw [beq_eq_false_iff_ne]; omega
      rw [e1, cond_false]
      obtain ⟨a, b⟩ := rOf_l0_at e l (i + 1) (k + 1) (fun j c hj => by have := h (j + 1) c (by simpa using hj); rw [this]; omega) (by omega)
      refine ⟨fun c hc => a c ?_, fun hgt => b ?_⟩
      · rw [show (e - 1 - k).toNat = (e - 1 - (k + 1 : Nat)).toNat + 1 by omega] at hc
        simpa using hc
      · simp only [List.length_cons] at hgt; omega
theorem lOf_at {g : Ledger} {n : Nat} (h : Good g n) (hh : Hist g) {e : Int} (he : 1 ≤ e) : (∀ c, g.past.all.D[(e - 1).toNat]? = some c → lOf g e = (c, true)) ∧ (e > g.chain.epoch → (lOf g e).2 = false) := by
  rw [lOf_eq h]
  obtain ⟨a, b⟩ := rOf_l0_at e g.past.all.D 0 0 (fun j c hj => by rw [hh.ep j c hj]; omega) (by omega)
  refine ⟨fun c hc => a c (by rw [show (e - 1 - (0 : Nat)).toNat = (e - 1).toNat by omega]; exact hc), fun hgt => b (by have := hh.len; omega)⟩
theorem epochs_l0_true {g : Ledger} {n0 : Nat} (h : Good g n0) (hn : n0 ≤ 1000) (hh : Hist g) : ∀ (nn : Nat) (n : Int) (vc : Chain), nn = (g.chain.epoch + 1 - n).toNat + 1 → 2 ≤ n → n ≤ g.chain.epoch + 1 → g.past.all.D[(n - 2).toNat]? = some vc → lawEpochs_l0 g nn n vc = true
  | 0, _, _, hf, _, _, _ => by omega
  | nn + 1, n, vc, hf, h2, h3, hv => by
    have hlo := h.lived.lo
    have hhi := h.lived.hi
    have hlen := hh.len
    have hep : (lChain g).epoch = g.chain.epoch := by rw [h.lived.chain]; rfl
    unfold lawEpochs_l0
    rw [hep]
    cases h1 : decide (n ≤ g.chain.epoch)
    · have h1 := of_decide_eq_false h1
      have hn1 : n = g.chain.epoch + 1 := by omega
      have hw : IntKind.i64.wrap (g.chain.epoch + 1) = g.chain.epoch + 1 := by have := wrapI (g.chain.epoch + 1); omega
      have hno : (lOf g (g.chain.epoch + 1)).2 = false := (lOf_at h hh (e := g.chain.epoch + 1) (by omega)).2 (by omega)
      rw [hw, awake_true]
      have hl := hh.last vc (by rw [show g.past.all.D.length - 1 = (n - 2).toNat by omega]; exact hv)
      have : nodes (lChain g) = nodes vc := by
        rw [h.lived.chain, copied_eq h.hn]
        exact nodes_map _ _ 0 0 0 hl.symm
      rw [this]
      simp only [hno, cond_false, cond_true, Bool.not_false, beq_self_eq_true]
    · have h1 := of_decide_eq_true h1
      obtain ⟨d, hd⟩ := getX (D := g.past.all.D) (i := (n - 1).toNat) (by omega)
      have eo := (lOf_at h hh (e := n) (by omega)).1 d hd
      have hcd := hh.step (n - 2).toNat vc d hv (by rw [show (n - 2).toNat + 1 = (n - 1).toNat by omega]; exact hd)
      have kc := hh.chk _ _ hv
      have kd := hh.chk _ _ hd
      have ed := hh.ep _ _ hd
      obtain ⟨x, hx, hxm⟩ := hcd.one
      have hlD : d.members.D.length ≤ 1000000 := h.ok.2.2 d (List.mem_of_getElem? hd)
      have hw : IntKind.i64.wrap (n + 1) = n + 1 := by have := wrapI (n + 1); omega
      rw [epochs_l1_eq _ kc (by rw [eo]; exact hcd) (by rw [eo]; exact hlD) (lOf g n).1.members.D 0 (List.drop_zero).symm (Nat.zero_le _)]
      rw [eo, hw]
      have e1 : (check d != 0) = false := by rw [kd]; rfl
      have e2 : (d.epoch != n) = false := by rw [bne_eq_false_iff_eq]; omega
      simp only [e1, e2, both_some kc kd hx hxm, Bool.not_true, cond_false, cond_true]
      exact epochs_l0_true h hn hh nn (n + 1) d (by omega) (by omega) (by omega) (by rw [show (n + 1 - 2).toNat = (n - 1).toNat by omega]; exact hd)
theorem lawEpochs_true (m : Sl Member) (l : Sl Do) : lawEpochs m l = true := by
  unfold lawEpochs
  rw [awake_true]
  cases e1 : decide ((m.D.length : Int) > 60)
  · cases e2 : !(short (Sl.mk false [l]))
    · have hl := (short_ok e2 l (by simp)).1
      have hm := of_decide_eq_false e1
      cases e3 : ((firstC m).2) != 0
      · have hg := made_good (l := l) (eq_of_bne_false e3) (by omega) (by omega)
        have hh := made_hist (l := l) (eq_of_bne_false e3) (by omega) (by omega)
        generalize made m l = g at *
        have hlo := hg.lived.lo
        have hlen := hh.len
        have hep : (lChain g).epoch = g.chain.epoch := by rw [hg.lived.chain]; rfl
        obtain ⟨c, hc⟩ := getX (D := g.past.all.D) (i := 0) (by omega)
        have e0 := (lOf_at hg hh (e := 1) (by omega)).1 c hc
        simp only [cond_false]
        rw [e0, hep]
        exact epochs_l0_true hg (by omega) hh _ 2 c rfl (by omega) (by omega) hc
      · rfl
    · rfl
  · rfl
theorem ledgerEpochs_calls (m : Sl Member) (w : WT22 m) (l : Sl Do) (_ : WT23 l) : PCalls Try.prog 9 [sS (some m.nil) eMember m.D, sS (some l.nil) eDo l.D] (.pv (.bool true)) := by
  have r := lawEpochs_calls m l (Nat.le_trans w.1 (by decide))
  rw [lawEpochs_true m l] at r
  exact r
end Go.Proofs.Ytpgenmflgdkfiaa
/- An abstract machine over the kit's calls, part 34: three rows of three numbers that are handed in. No conditions. -/
namespace Go.Am
section
variable {H : Type} {enc : TypeId × Value → H} {P : Program} {w : World} {base : Nat} {spare : Nat → Bool} {held : Bool}
end
end Go.Am
/- What all rows of this seat need: no knob is turned, the types are laid out. No conditions. -/
namespace Go.Proofs.Ytpgenmflgdkfiaa
open Go.Am
theorem own : ownKnob Try.prog.godebug = none := by kernel_rfl
theorem laidOut : laidOutB Try.prog = true := by kernel_rfl
end Go.Proofs.Ytpgenmflgdkfiaa
