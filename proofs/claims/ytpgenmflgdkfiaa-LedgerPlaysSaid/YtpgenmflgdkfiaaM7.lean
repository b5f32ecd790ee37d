import Derived.Test.YtpgenmflgdkfiaaM6
import Derived.Test.YtpgenmflgdkfiaaM2
/- Law: plays. No conditions. -/
namespace Go.Proofs.Ytpgenmflgdkfiaa
open Go.Am
def lawPlays_l1 (kk : (List Member) → Bool) : List Member → Nat → (List Member) → Bool
  | [], _, vc2 => kk vc2
  | _ :: x1s, i1, vc2 => lawPlays_l1 kk x1s (i1 + 1) (vc2.set i1 (Member.mk 99 (vc2[i1]!.site) (vc2[i1]!.fresh)))
def lawPlays_l2 (epoch : Int) (vc : Ledger) (vc1 : Ledger60) : Nat → Nat → Bool
  | 0, _ => (bif (((lOf vc epoch).2) == ((rOf vc1 epoch).2)) then (awake ) else false)
  | k + 1, i2 => (bif (!(((lOf vc (i2 : Int)).2) == ((rOf vc1 (i2 : Int)).2))) then false else (bif (!(rSame ((lOf vc (i2 : Int)).1) ((rOf vc1 (i2 : Int)).1))) then false else lawPlays_l2 epoch vc vc1 k (i2 + 1) ))
def lawPlays_l0 (epoch : Int) : List Do → Nat → Ledger → Ledger60 → Bool
  | [], _, vc, vc1 => lawPlays_l2 epoch vc vc1 (IntKind.i64.wrap (vc1.c.epoch + 2)).toNat 0 
  | x :: xs, i, vc, vc1 => (bif ((lApply vc (doIndex x vc1.at_) (cloneBytes (doData x vc1.c.epoch))).2 != (rApply vc1 (doIndex x vc1.at_) (doData x vc1.c.epoch)).2) then false else (bif ((lAt (lApply vc (doIndex x vc1.at_) (cloneBytes (doData x vc1.c.epoch))).1) != (rApply vc1 (doIndex x vc1.at_) (doData x vc1.c.epoch)).1.at_) then false else (bif (!(rSame (lChain (lApply vc (doIndex x vc1.at_) (cloneBytes (doData x vc1.c.epoch))).1) (rApply vc1 (doIndex x vc1.at_) (doData x vc1.c.epoch)).1.c)) then false else lawPlays_l1 (fun vc2 => lawPlays_l0 epoch xs (i + 1) (lApply vc (doIndex x vc1.at_) (cloneBytes (doData x vc1.c.epoch))).1 (rApply vc1 (doIndex x vc1.at_) (doData x vc1.c.epoch)).1) ((lChainO (lApply vc (doIndex x vc1.at_) (cloneBytes (doData x vc1.c.epoch))).1).members.D) 0 ((lChainO (lApply vc (doIndex x vc1.at_) (cloneBytes (doData x vc1.c.epoch))).1).members.D))))
def lawPlays (m : (Sl Member)) (l : (Sl Do)) (epoch : Int) : Bool :=
  (bif (decide ((m.D.length : Int) > 60)) then (awake ) else (bif (!(short (Sl.mk false [l]))) then (awake ) else (bif (((firstC m).2) != 0) then (bif (((rFirst m).2) != 0) then (bif (((newNil m).2) != ((rNewNil m).2)) then false else (bif (!(true == true)) then false else (awake ))) else false) else (bif (((rFirst m).2) != 0) then false else (bif (((newL m).2) != ((rNewL m).2)) then false else (bif (!(false == false)) then false else lawPlays_l0 epoch l.D 0 ((newL m).1) ((rNewL m).1)))))))
theorem lawPlays_calls (m : (Sl Member)) (l : (Sl Do)) (epoch : Int) (hb : ∀ x ∈ l.D, okDo x) (hl1 : m.D.length ≤ 9223372036854775807) (hl2 : l.D.length ≤ 9223372036854775807) : PCalls Try.prog 7 [sS (some m.nil) eMember m.D, sS (some l.nil) eDo l.D, .pv (.lit (.int .i64 epoch))] (.pv (.lit (.bool (lawPlays m l epoch)))) := by
 generalize hR : lawPlays m l epoch = R
 refine PCalls.of_body tabOk Try.func7 rfl rfl rfl rfl rfl mixed fun E hP C hI => ?_
 refine Awp.consP C ?_
 refine rvP C (.pv (.lit (.bool false))) ?_
 refine rvc_nil ?_
 refine Awp.seq ?_
 refine Awp.consP C ?_
 refine rvP C (sS (some m.nil) eMember m.D) ?_
 refine rvP C (.pv (.lit (.int .i64 (m.D.length : Int)))) ?_
 refine rvP C (.pv (.lit (.bool (decide ((m.D.length : Int) > 60))))) ?_
 refine rvP C (.pv (.lit (.bool (decide ((m.D.length : Int) > 60))))) ?_
 refine rvc_case 29 (decide ((m.D.length : Int) > 60)) rfl (fun h1 => ?_) (fun h1 => ?_)
 ·
  replace hR := of_true h1 hR
  refine rvS ?_
  refine rvS ?_
  refine rvS ?_
  refine rvS ?_
  refine rvP C (.pv (.lit (.bool true))) ?_
  refine rvc_nil ?_
  refine Awp.condT (b := true) rfl rfl ?_
  refine Awp.consP C ?_
  refine rvc_un (rexec_call hP C rfl rfl rfl (awake_calls ) ?_)
  refine rvP C (.pv (.lit (.bool (awake )))) ?_
  refine rvc_nil ?_
  refine Awp.ret ?_
  subst hR
  exact ⟨.inl rfl, rfl⟩
 ·
  replace hR := of_false h1 hR
  refine rvO C (sS (some l.nil) eDo l.D) ?_
  refine rvc_open rfl rfl rfl (rexec_buildSliceF C (eSl eDo) [l] rfl rfl rfl rfl rfl rfl rfl (by decide) rfl ?_)
  refine rvc_open rfl rfl rfl (rexec_call hP C rfl rfl rfl (short_calls (Sl.mk false [l]) (by simp)) ?_)
  refine rvO C (.pv (.lit (.bool (!(short (Sl.mk false [l])))))) ?_
  refine rvP C (.pv (.lit (.bool (!(short (Sl.mk false [l])))))) ?_
  refine rvc_nil ?_
  refine Awp.cond (b := (!(short (Sl.mk false [l])))) rfl (fun h2 => ?_) (fun h2 => ?_)
  ·
   replace hR := of_true h2 hR
   refine Awp.consP C ?_
   refine rvc_un (rexec_call hP C rfl rfl rfl (awake_calls ) ?_)
   refine rvP C (.pv (.lit (.bool (awake )))) ?_
   refine rvc_nil ?_
   refine Awp.ret ?_
   subst hR
   exact ⟨.inl rfl, rfl⟩
  ·
   replace hR := of_false h2 hR
   refine Awp.skip ?_
   refine Awp.cons C (fun _ => .quiet) (by kernel_rfl) ?_
   refine rvP C (sS (some m.nil) eMember m.D) ?_
   rcases Bool.eq_false_or_eq_true (((firstC m).2) != 0) with h3 | h3
   ·
    replace hR := of_true h3 hR
    refine rvc_un (rexec_call hP C rfl rfl rfl (newNil_calls m h3 (by have := of_decide_eq_false ‹decide ((m.D.length : Int) > 60) = false›; omega)) ?_)
    refine rvP C (.tup [.pv (.lit (.pointer none)), .pv (.lit (.int .i64 ((newNil m).2)))]) ?_
    refine rvP C (.pv (.lit (.pointer none))) ?_
    refine rvP C (.pv (.lit (.int .i64 ((newNil m).2)))) ?_
    refine rvP C (.pv (.lit (.pointer none))) ?_
    refine rvP C (.pv (.lit (.int .i64 ((newNil m).2)))) ?_
    refine rvc_nil ?_
    refine Awp.cons C (fun _ => .quiet) (by kernel_rfl) ?_
    refine rvP C (sS (some m.nil) eMember m.D) ?_
    rcases Bool.eq_false_or_eq_true (((rFirst m).2) != 0) with h4 | h4
    ·
     replace hR := of_true h4 hR
     refine rvc_un (rexec_call hP C rfl rfl rfl (rNewNil_calls m h4 (by have := of_decide_eq_false ‹decide ((m.D.length : Int) > 60) = false›; omega)) ?_)
     refine rvP C (.tup [.pv (.lit (.pointer none)), .pv (.lit (.int .i64 ((rNewNil m).2)))]) ?_
     refine rvP C (.pv (.lit (.pointer none))) ?_
     refine rvP C (.pv (.lit (.int .i64 ((rNewNil m).2)))) ?_
     refine rvP C (.pv (.lit (.pointer none))) ?_
     refine rvP C (.pv (.lit (.int .i64 ((rNewNil m).2)))) ?_
     refine rvc_nil ?_
     refine Awp.seq ?_
     refine Awp.consP C ?_
     refine rvP C (.pv (.lit (.int .i64 ((newNil m).2)))) ?_
     refine rvP C (.pv (.lit (.int .i64 ((rNewNil m).2)))) ?_
     refine rvP C (.pv (.lit (.bool (((newNil m).2) != ((rNewNil m).2))))) ?_
     refine rvP C (.pv (.lit (.bool (((newNil m).2) != ((rNewNil m).2))))) ?_
     refine rvc_case 49 (((newNil m).2) != ((rNewNil m).2)) rfl (fun h5 => ?_) (fun h5 => ?_)
     ·
      replace hR := of_true h5 hR
      refine rvS ?_
      refine rvS ?_
      refine rvS ?_
      refine rvS ?_
      refine rvS ?_
      refine rvP C (.pv (.lit (.bool true))) ?_
      refine rvc_nil ?_
      refine Awp.condT (b := true) rfl rfl ?_
      refine Awp.consP C ?_
      refine rvP C (.pv (.lit (.bool false))) ?_
      refine rvc_nil ?_
      refine Awp.ret ?_
      subst hR
      exact ⟨.inl rfl, rfl⟩
     ·
      replace hR := of_false h5 hR
      refine rvO C (.pv (.lit (.pointer none))) ?_
      refine rvc_open rfl rfl rfl (rexec_eqPtr C true true (z := .pv (.lit (.bool true))) rfl rfl rfl rfl rfl rfl rfl rfl rfl ?_)
      refine rvO C (.pv (.lit (.pointer none))) ?_
      refine rvc_open rfl rfl rfl (rexec_eqPtr C true true (z := .pv (.lit (.bool true))) rfl rfl rfl rfl rfl rfl rfl rfl rfl ?_)
      refine rvO C (.pv (.lit (.bool (!(true == true))))) ?_
      refine rvP C (.pv (.lit (.bool (!(true == true))))) ?_
      refine rvc_nil ?_
      refine Awp.cond (b := (!(true == true))) rfl (fun h6 => ?_) (fun h6 => ?_)
      ·
       replace hR := of_true h6 hR
       refine Awp.consP C ?_
       refine rvP C (.pv (.lit (.bool false))) ?_
       refine rvc_nil ?_
       refine Awp.ret ?_
       subst hR
       exact ⟨.inl rfl, rfl⟩
      ·
       replace hR := of_false h6 hR
       refine Awp.skip ?_
       refine Awp.seq ?_
       refine Awp.consP C ?_
       refine rvP C (.pv (.lit (.pointer none))) ?_
       refine rvc_un (rexec_eqPtr C true true (z := .pv (.lit (.bool true))) rfl rfl rfl rfl rfl rfl rfl rfl rfl ?_)
       refine rvc_nil ?_
       refine Awp.condT (b := true) rfl rfl ?_
       refine Awp.consP C ?_
       refine rvc_un (rexec_call hP C rfl rfl rfl (awake_calls ) ?_)
       refine rvP C (.pv (.lit (.bool (awake )))) ?_
       refine rvc_nil ?_
       refine Awp.ret ?_
       subst hR
       exact ⟨.inl rfl, rfl⟩
    ·
     replace hR := of_false h4 hR
     refine rvc_un (rexec_callO hP C rfl rfl rfl rfl (rNewL_calls m h4 (by have := of_decide_eq_false ‹decide ((m.D.length : Int) > 60) = false›; omega)) ?_)
     refine rvP C (.tup [.ptr 43 0, .pv (.lit (.int .i64 ((rNewL m).2)))]) ?_
     refine rvP C (.ptr 43 0) ?_
     refine rvP C (.pv (.lit (.int .i64 ((rNewL m).2)))) ?_
     refine rvP C (.ptr 43 0) ?_
     refine rvP C (.pv (.lit (.int .i64 ((rNewL m).2)))) ?_
     refine rvc_nil ?_
     refine Awp.seq ?_
     refine Awp.consP C ?_
     refine rvP C (.pv (.lit (.int .i64 ((newNil m).2)))) ?_
     refine rvP C (.pv (.lit (.int .i64 ((rNewL m).2)))) ?_
     refine rvP C (.pv (.lit (.bool (((newNil m).2) != ((rNewL m).2))))) ?_
     refine rvP C (.pv (.lit (.bool (((newNil m).2) != ((rNewL m).2))))) ?_
     refine rvc_known 49 (((newNil m).2) != ((rNewL m).2)) true rfl (newNil_ne (by assumption)) ?_
     refine rvS ?_
     refine rvS ?_
     refine rvS ?_
     refine rvS ?_
     refine rvS ?_
     refine rvP C (.pv (.lit (.bool true))) ?_
     refine rvc_nil ?_
     refine Awp.condT (b := true) rfl rfl ?_
     refine Awp.consP C ?_
     refine rvP C (.pv (.lit (.bool false))) ?_
     refine rvc_nil ?_
     refine Awp.ret ?_
     subst hR
     exact ⟨.inl rfl, rfl⟩
   ·
    replace hR := of_false h3 hR
    refine rvc_un (rexec_callO hP C rfl rfl rfl rfl (newL_calls m h3 (by have := of_decide_eq_false ‹decide ((m.D.length : Int) > 60) = false›; omega)) ?_)
    refine rvP C (.tup [.ptr 38 0, .pv (.lit (.int .i64 ((newL m).2)))]) ?_
    refine rvP C (.ptr 38 0) ?_
    refine rvP C (.pv (.lit (.int .i64 ((newL m).2)))) ?_
    refine rvP C (.ptr 38 0) ?_
    refine rvP C (.pv (.lit (.int .i64 ((newL m).2)))) ?_
    refine rvc_nil ?_
    refine Awp.cons C (fun _ => .quiet) (by kernel_rfl) ?_
    refine rvP C (sS (some m.nil) eMember m.D) ?_
    rcases Bool.eq_false_or_eq_true (((rFirst m).2) != 0) with h7 | h7
    ·
     replace hR := of_true h7 hR
     refine rvc_un (rexec_call hP C rfl rfl rfl (rNewNil_calls m h7 (by have := of_decide_eq_false ‹decide ((m.D.length : Int) > 60) = false›; omega)) ?_)
     refine rvP C (.tup [.pv (.lit (.pointer none)), .pv (.lit (.int .i64 ((rNewNil m).2)))]) ?_
     refine rvP C (.pv (.lit (.pointer none))) ?_
     refine rvP C (.pv (.lit (.int .i64 ((rNewNil m).2)))) ?_
     refine rvP C (.pv (.lit (.pointer none))) ?_
     refine rvP C (.pv (.lit (.int .i64 ((rNewNil m).2)))) ?_
     refine rvc_nil ?_
     refine Awp.seq ?_
     refine Awp.consP C ?_
     refine rvP C (.pv (.lit (.int .i64 ((newL m).2)))) ?_
     refine rvP C (.pv (.lit (.int .i64 ((rNewNil m).2)))) ?_
     refine rvP C (.pv (.lit (.bool (((newL m).2) != ((rNewNil m).2))))) ?_
     refine rvP C (.pv (.lit (.bool (((newL m).2) != ((rNewNil m).2))))) ?_
     refine rvc_known 49 (((newL m).2) != ((rNewNil m).2)) true rfl (newL_ne (by assumption)) ?_
     refine rvS ?_
     refine rvS ?_
     refine rvS ?_
     refine rvS ?_
     refine rvS ?_
     refine rvP C (.pv (.lit (.bool true))) ?_
     refine rvc_nil ?_
     refine Awp.condT (b := true) rfl rfl ?_
     refine Awp.consP C ?_
     refine rvP C (.pv (.lit (.bool false))) ?_
     refine rvc_nil ?_
     refine Awp.ret ?_
     subst hR
     exact ⟨.inl rfl, rfl⟩
    ·
     replace hR := of_false h7 hR
     refine rvc_un (rexec_callO hP C rfl rfl rfl rfl (rNewL_calls m h7 (by have := of_decide_eq_false ‹decide ((m.D.length : Int) > 60) = false›; omega)) ?_)
     refine rvP C (.tup [.ptr 43 0, .pv (.lit (.int .i64 ((rNewL m).2)))]) ?_
     refine rvP C (.ptr 43 0) ?_
     refine rvP C (.pv (.lit (.int .i64 ((rNewL m).2)))) ?_
     refine rvP C (.ptr 43 0) ?_
     refine rvP C (.pv (.lit (.int .i64 ((rNewL m).2)))) ?_
     refine rvc_nil ?_
     refine Awp.seq ?_
     refine Awp.consP C ?_
     refine rvP C (.pv (.lit (.int .i64 ((newL m).2)))) ?_
     refine rvP C (.pv (.lit (.int .i64 ((rNewL m).2)))) ?_
     refine rvP C (.pv (.lit (.bool (((newL m).2) != ((rNewL m).2))))) ?_
     refine rvP C (.pv (.lit (.bool (((newL m).2) != ((rNewL m).2))))) ?_
     refine rvc_case 49 (((newL m).2) != ((rNewL m).2)) rfl (fun h8 => ?_) (fun h8 => ?_)
     ·
      replace hR := of_true h8 hR
      refine rvS ?_
      refine rvS ?_
      refine rvS ?_
      refine rvS ?_
      refine rvS ?_
      refine rvP C (.pv (.lit (.bool true))) ?_
      refine rvc_nil ?_
      refine Awp.condT (b := true) rfl rfl ?_
      refine Awp.consP C ?_
      refine rvP C (.pv (.lit (.bool false))) ?_
      refine rvc_nil ?_
      refine Awp.ret ?_
      subst hR
      exact ⟨.inl rfl, rfl⟩
     ·
      replace hR := of_false h8 hR
      refine rvO C (.ptr 38 0) ?_
      refine rvc_open rfl rfl rfl (rexec_eqPtr C false true (z := .pv (.lit (.bool false))) rfl rfl rfl rfl rfl rfl rfl rfl rfl ?_)
      refine rvO C (.ptr 43 0) ?_
      refine rvc_open rfl rfl rfl (rexec_eqPtr C false true (z := .pv (.lit (.bool false))) rfl rfl rfl rfl rfl rfl rfl rfl rfl ?_)
      refine rvO C (.pv (.lit (.bool (!(false == false))))) ?_
      refine rvP C (.pv (.lit (.bool (!(false == false))))) ?_
      refine rvc_nil ?_
      refine Awp.cond (b := (!(false == false))) rfl (fun h9 => ?_) (fun h9 => ?_)
      ·
       replace hR := of_true h9 hR
       refine Awp.consP C ?_
       refine rvP C (.pv (.lit (.bool false))) ?_
       refine rvc_nil ?_
       refine Awp.ret ?_
       subst hR
       exact ⟨.inl rfl, rfl⟩
      ·
       replace hR := of_false h9 hR
       refine Awp.skip ?_
       refine Awp.seq ?_
       refine Awp.consP C ?_
       refine rvP C (.ptr 43 0) ?_
       refine rvc_un (rexec_eqPtr C false true (z := .pv (.lit (.bool false))) rfl rfl rfl rfl rfl rfl rfl rfl rfl ?_)
       refine rvc_nil ?_
       refine Awp.condF (b := false) rfl rfl ?_
       refine Awp.skip ?_
       refine Awp.seq ?_
       refine Awp.consP C ?_
       refine rvP C (sS (some l.nil) eDo l.D) ?_
       refine rvP C (.pv (.lit (.int .i64 (l.D.length : Int)))) ?_
       refine rvP C (.pv (.lit (.int .i64 0))) ?_
       refine rvc_nil ?_
       refine Awp.block ?_
       refine Awp.forR (σ := Ledger × Ledger60) (l.D.length) (fun i v => [(2, .pv (.lit (.int .i64 epoch))), (7, .ptr 38 0), (9, .ptr 43 0), (59, sS (some l.nil) eDo l.D), (60, .pv (.lit (.int .i64 (l.D.length : Int)))), (61, .pv (.lit (.int .i64 (i : Int))))]) (fun i v => [(38, .cells [sS (some v.1.past.all.nil) eChain v.1.past.all.D, .pv (.lit (.int .i64 v.1.chain.epoch)), sS (some v.1.chain.members.nil) eMember v.1.chain.members.D, .pv (.lit (.int .i64 v.1.at_))]), (43, .cells [.pv (.lit (.int .i64 v.2.c.epoch)), sS (some v.2.c.members.nil) eMember v.2.c.members.D, sS (some v.2.all.nil) eChain v.2.all.D, .pv (.lit (.int .i64 v.2.at_))])]) [38, 43] (fun i v => (lawPlays_l0 epoch (l.D.drop i) i v.1 v.2 = R) ∧ (Good v.1 i ∧ v.2 = twin v.1)) ((newL m).1, (rNewL m).1) ?_ ?_ (fun i v h10 hR => ?_)
       · exact ⟨hR, ⟨newL_good (eq_of_bne_false (by assumption)) (by have := of_decide_eq_false ‹decide ((m.D.length : Int) > 60) = false›; omega), rNewL_twin m⟩⟩
       · exact ⟨fun b => b, WeakerR.ofL (Ks := [38, 43]) hI ⟨⟨rfl, rfl⟩, ⟨rfl, rfl⟩, ⟨rfl, rfl⟩, ⟨rfl, rfl⟩, ⟨rfl, rfl⟩, ⟨rfl, rfl⟩, trivial⟩ (okH_cons rfl rfl rfl rfl (okH_cons rfl rfl rfl rfl (okH_nil))) rfl⟩
       obtain ⟨vc, vc1⟩ := v
       obtain ⟨hR, hV⟩ := hR
       replace hV : Good vc i ∧ vc1 = twin vc := hV
       refine Awp.consP C ?_
       refine rvP C (.pv (.lit (.bool (decide ((i : Int) < (l.D.length : Int)))))) ?_
       refine rvc_nil ?_
       refine Awp.seq ?_
       refine Awp.cond (b := (decide ((i : Int) < (l.D.length : Int)))) rfl (fun h11 => ?_) (fun h11 => ?_)
       ·
        have h12 : i < l.D.length := by have := of_decide_eq_true h11; omega
        obtain ⟨x, h13⟩ := getX h12
        rw [drop_at h13] at hR
        refine Awp.skip ?_
        refine Awp.seq ?_
        refine Awp.block ?_
        refine Awp.consP C ?_
        refine rvc_un (rexec_idxS C rfl rfl rfl rfl rfl rfl x (Int.natCast_nonneg _) h13 ?_)
        refine rvP C (.agg [.pv (.lit (.int .i64 x.c.kind)), .pv (.lit (.int .i64 x.c.node)), .pv (.lit (.int .i64 x.c.site)), .pv (.lit (.int .i64 x.c.epoch)), sS (some x.b.nil) (eI .u8) x.b.D, .pv (.lit (.bool x.raw)), .pv (.lit (.int .i64 x.by_)), .pv (.lit (.int .i64 x.off))]) ?_
        refine rvc_un (rexec_prim C (δ := { v := .ptr 12 0, new := [(12, .cells [.pv (.lit (.int .i64 0)), .pv (.lit (.int .i64 0)), .pv (.lit (.int .i64 0)), .pv (.lit (.int .i64 0)), sS (some true) (eI .u8) [], .pv (.lit (.bool false)), .pv (.lit (.int .i64 0)), .pv (.lit (.int .i64 0))])] }) rfl rfl rfl rfl trivial rfl ?_)
        refine rvc_un (rexec_prim C (δ := { v := .undef, wr := [(12, some (.cells [.pv (.lit (.int .i64 x.c.kind)), .pv (.lit (.int .i64 x.c.node)), .pv (.lit (.int .i64 x.c.site)), .pv (.lit (.int .i64 x.c.epoch)), sS (some x.b.nil) (eI .u8) x.b.D, .pv (.lit (.bool x.raw)), .pv (.lit (.int .i64 x.by_)), .pv (.lit (.int .i64 x.off))]))] }) rfl rfl rfl rfl trivial rfl ?_)
        refine rvc_nil ?_
        refine Awp.consP C ?_
        refine rvP C (.agg [.pv (.lit (.int .i64 x.c.kind)), .pv (.lit (.int .i64 x.c.node)), .pv (.lit (.int .i64 x.c.site)), .pv (.lit (.int .i64 x.c.epoch)), sS (some x.b.nil) (eI .u8) x.b.D, .pv (.lit (.bool x.raw)), .pv (.lit (.int .i64 x.by_)), .pv (.lit (.int .i64 x.off))]) ?_
        refine rvP C (.ptr 43 0) ?_
        refine rvP C (.ptr 43 0) ?_
        refine rvP C (.ptr 43 3) ?_
        refine rvP C (.pv (.lit (.int .i64 vc1.at_))) ?_
        refine rvc_un (rexec_call hP C rfl rfl rfl (doIndex_calls x vc1.at_) ?_)
        refine rvP C (.agg [.pv (.lit (.int .i64 x.c.kind)), .pv (.lit (.int .i64 x.c.node)), .pv (.lit (.int .i64 x.c.site)), .pv (.lit (.int .i64 x.c.epoch)), sS (some x.b.nil) (eI .u8) x.b.D, .pv (.lit (.bool x.raw)), .pv (.lit (.int .i64 x.by_)), .pv (.lit (.int .i64 x.off))]) ?_
        refine rvP C (.ptr 43 0) ?_
        refine rvP C (.ptr 43 0) ?_
        refine rvP C (.ptr 43 0) ?_
        refine rvP C (.ptr 43 0) ?_
        refine rvP C (.pv (.lit (.int .i64 vc1.c.epoch))) ?_
        refine rvc_un (rexec_call hP C rfl rfl rfl (doData_calls x vc1.c.epoch) ?_)
        refine rvP C (.pv (.lit (.int .i64 (doIndex x vc1.at_)))) ?_
        refine rvP C (sS (some (doData x vc1.c.epoch).nil) (eI .u8) ((doData x vc1.c.epoch).D)) ?_
        refine rvc_nil ?_
        refine Awp.seq ?_
        refine Awp.cons C (fun o => match o.dst with | some 82 => .writes [38] | some 86 => .writes [43] | some 90 => .writes [38] | some 94 => .reads [43] | some 99 => .writes [38] | some 103 => .reads [43] | _ => .pure) (by kernel_rfl) ?_
        refine rvP C (.ptr 38 0) ?_
        refine rvP C (.pv (.lit (.int .i64 (doIndex x vc1.at_)))) ?_
        refine rvP C (sS (some (doData x vc1.c.epoch).nil) (eI .u8) ((doData x vc1.c.epoch).D)) ?_
        obtain ⟨cb, hq_cb⟩ : ∃ q_, q_ = (cloneBytes (doData x vc1.c.epoch)) := ⟨_, rfl⟩
        have hc_cb := (cloneBytes_calls (doData x vc1.c.epoch) (data_ok (hb x (List.mem_of_getElem? (by assumption))) (Nat.le_trans ((short_ok ‹(!(short (Sl.mk false [l]))) = false› l (by simp)).2 x (List.mem_of_getElem? (by assumption))) (by decide)) _).2.2)
        first | rw [← hq_cb] at hR hc_cb | (unfold lawPlays at hR; rw [← hq_cb] at hR hc_cb) | (unfold lawPlays_l0 at hR; rw [← hq_cb] at hR hc_cb) | (unfold lawPlays_l1 at hR; rw [← hq_cb] at hR hc_cb)
        have hf0_cb := cloneB_len (doData x vc1.c.epoch)
        rw [← hq_cb] at hf0_cb
        refine rvc_un (rexec_call hP C rfl rfl rfl hc_cb ?_)
        obtain ⟨ga, hq_ga⟩ : ∃ q_, q_ = (lApply vc (doIndex x vc1.at_) cb) := ⟨_, rfl⟩
        have hc_ga := (lApply_calls vc (doIndex x vc1.at_) cb hV.1.hn (Nat.le_trans hf0_cb (data_ok (hb x (List.mem_of_getElem? (by assumption))) (Nat.le_trans ((short_ok ‹(!(short (Sl.mk false [l]))) = false› l (by simp)).2 x (List.mem_of_getElem? (by assumption))) (by decide)) _).2.2) hV.1.ok.2.1 (by have h_ := hV.1.cnt; have h2_ := (short_ok ‹(!(short (Sl.mk false [l]))) = false› l (by simp)).1; omega))
        first | rw [← hq_ga] at hR hc_ga | (unfold lawPlays at hR; rw [← hq_ga] at hR hc_ga) | (unfold lawPlays_l0 at hR; rw [← hq_ga] at hR hc_ga) | (unfold lawPlays_l1 at hR; rw [← hq_ga] at hR hc_ga)
        have hf0_ga := Good.apply (g := vc) hV.1 (Nat.le_trans (Nat.le_of_lt (by assumption)) (Nat.le_trans (short_ok ‹(!(short (Sl.mk false [l]))) = false› l (by simp)).1 (by decide))) (doIndex x vc1.at_) cb
        rw [← hq_ga] at hf0_ga
        refine rvc_un (rexec_callM hP C (b := 38) rfl rfl rfl hc_ga rfl rfl ?_)
        refine rvP C (.ptr 43 0) ?_
        refine rvP C (.pv (.lit (.int .i64 (doIndex x vc1.at_)))) ?_
        refine rvP C (sS (some (doData x vc1.c.epoch).nil) (eI .u8) ((doData x vc1.c.epoch).D)) ?_
        obtain ⟨xa, hq_xa⟩ : ∃ q_, q_ = (rApply vc1 (doIndex x vc1.at_) (doData x vc1.c.epoch)) := ⟨_, rfl⟩
        have hc_xa := (rApply_calls vc1 (doIndex x vc1.at_) (doData x vc1.c.epoch) (data_ok (hb x (List.mem_of_getElem? (by assumption))) (Nat.le_trans ((short_ok ‹(!(short (Sl.mk false [l]))) = false› l (by simp)).2 x (List.mem_of_getElem? (by assumption))) (by decide)) _).2.2 (by rw [hV.2]; exact hV.1.ok.2.1) (by rw [hV.2]; show vc.past.all.D.length ≤ 1000000; exact (by have h_ := hV.1.cnt; have h2_ := (short_ok ‹(!(short (Sl.mk false [l]))) = false› l (by simp)).1; omega)))
        first | rw [← hq_xa] at hR hc_xa | (unfold lawPlays at hR; rw [← hq_xa] at hR hc_xa) | (unfold lawPlays_l0 at hR; rw [← hq_xa] at hR hc_xa) | (unfold lawPlays_l1 at hR; rw [← hq_xa] at hR hc_xa)
        have hf0_xa := plays_x (vc1 := vc1) (ix := (doIndex x vc1.at_)) (d := (doData x vc1.c.epoch)) hV (Nat.le_trans (Nat.le_of_lt (by assumption)) (Nat.le_trans (short_ok ‹(!(short (Sl.mk false [l]))) = false› l (by simp)).1 (by decide))) hq_cb hq_ga (data_ok (hb x (List.mem_of_getElem? (by assumption))) (Nat.le_trans ((short_ok ‹(!(short (Sl.mk false [l]))) = false› l (by simp)).2 x (List.mem_of_getElem? (by assumption))) (by decide)) _)
        rw [← hq_xa] at hf0_xa
        refine rvc_un (rexec_callM hP C (b := 43) rfl rfl rfl hc_xa rfl rfl ?_)
        refine rvP C (.pv (.lit (.bool (ga.2 != xa.2)))) ?_
        refine rvP C (.pv (.lit (.bool (ga.2 != xa.2)))) ?_
        refine rvc_case 88 (ga.2 != xa.2) rfl (fun h14 => ?_) (fun h14 => ?_)
        ·
         replace hR := of_true h14 hR
         refine rvS ?_
         refine rvS ?_
         refine rvS ?_
         refine rvS ?_
         refine rvS ?_
         refine rvS ?_
         refine rvS ?_
         refine rvP C (.pv (.lit (.bool true))) ?_
         refine rvP C (.pv (.lit (.bool true))) ?_
         refine rvS ?_
         refine rvS ?_
         refine rvS ?_
         refine rvS ?_
         refine rvS ?_
         refine rvS ?_
         refine rvS ?_
         refine rvS ?_
         refine rvP C (.pv (.lit (.bool true))) ?_
         refine rvc_nil ?_
         refine Awp.condT (b := true) rfl rfl ?_
         refine Awp.consP C ?_
         refine rvP C (.pv (.lit (.bool false))) ?_
         refine rvc_nil ?_
         refine Awp.ret ?_
         subst hR
         exact ⟨.inl rfl, rfl⟩
        ·
         replace hR := of_false h14 hR
         refine rvO C (.ptr 38 0) ?_
         refine rvc_open rfl rfl rfl (rexec_callM hP C (b := 38) rfl rfl rfl (lAt_calls ga.1) rfl rfl ?_)
         refine rvO C (.ptr 43 0) ?_
         refine rvO C (.ptr 43 0) ?_
         refine rvO C (.ptr 43 3) ?_
         refine rvO C (.pv (.lit (.int .i64 xa.1.at_))) ?_
         refine rvO C (.pv (.lit (.bool ((lAt ga.1) != xa.1.at_)))) ?_
         refine rvP C (.pv (.lit (.bool ((lAt ga.1) != xa.1.at_)))) ?_
         refine rvP C (.pv (.lit (.bool ((lAt ga.1) != xa.1.at_)))) ?_
         refine rvc_case 97 ((lAt ga.1) != xa.1.at_) rfl (fun h15 => ?_) (fun h15 => ?_)
         ·
          replace hR := of_true h15 hR
          refine rvS ?_
          refine rvS ?_
          refine rvS ?_
          refine rvS ?_
          refine rvS ?_
          refine rvS ?_
          refine rvS ?_
          refine rvS ?_
          refine rvP C (.pv (.lit (.bool true))) ?_
          refine rvc_nil ?_
          refine Awp.condT (b := true) rfl rfl ?_
          refine Awp.consP C ?_
          refine rvP C (.pv (.lit (.bool false))) ?_
          refine rvc_nil ?_
          refine Awp.ret ?_
          subst hR
          exact ⟨.inl rfl, rfl⟩
         ·
          replace hR := of_false h15 hR
          refine rvO C (.ptr 38 0) ?_
          refine rvc_open rfl rfl rfl (rexec_callM hP C (b := 38) rfl rfl rfl (lChain_calls ga.1 hf0_ga.ok.2.1) rfl rfl ?_)
          refine rvO C (.ptr 43 0) ?_
          refine rvO C (.ptr 43 0) ?_
          refine rvO C (.ptr 43 0) ?_
          refine rvO C (.agg [.pv (.lit (.int .i64 xa.1.c.epoch)), sS (some xa.1.c.members.nil) eMember xa.1.c.members.D]) ?_
          refine rvc_open rfl rfl rfl (rexec_call hP C rfl rfl rfl (rSame_calls (lChain ga.1) xa.1.c (Nat.le_trans (lChain_len hf0_ga.ok) (by decide))) ?_)
          refine rvO C (.pv (.lit (.bool (!(rSame (lChain ga.1) xa.1.c))))) ?_
          refine rvP C (.pv (.lit (.bool (!(rSame (lChain ga.1) xa.1.c))))) ?_
          refine rvc_nil ?_
          refine Awp.cond (b := (!(rSame (lChain ga.1) xa.1.c))) rfl (fun h16 => ?_) (fun h16 => ?_)
          ·
           replace hR := of_true h16 hR
           refine Awp.consP C ?_
           refine rvP C (.pv (.lit (.bool false))) ?_
           refine rvc_nil ?_
           refine Awp.ret ?_
           subst hR
           exact ⟨.inl rfl, rfl⟩
          ·
           replace hR := of_false h16 hR
           refine Awp.skip ?_
           refine Awp.cons C (fun _ => .writer) (by kernel_rfl) ?_
           refine rvP C (.ptr 38 0) ?_
           refine rvc_un (rexec_callN hP C (b := 38) rfl rfl rfl rfl (lChainO_calls ga.1 hf0_ga.lived.dead hf0_ga.nil hf0_ga.ok.2.1) rfl rfl ?_)
           refine rvc_un (rexec_prim C (δ := { v := .ptr 15 0, new := [(15, .cells [.pv (.lit (.int .i64 0)), sS (some true) eMember []])] }) rfl rfl rfl rfl trivial rfl ?_)
           refine rvc_un (rexec_prim C (δ := { v := .undef, wr := [(15, some (.cells [.pv (.lit (.int .i64 ((lChainO ga.1).epoch))), .sl 108 0 (((lChainO ga.1).members.D).length) 3 false]))] }) rfl rfl rfl rfl trivial rfl ?_)
           refine rvc_nil ?_
           refine Awp.consP C ?_
           refine rvP C (.ptr 15 1) ?_
           refine rvP C (.sl 108 0 (((lChainO ga.1).members.D).length) 3 false) ?_
           refine rvP C (.pv (.lit (.int .i64 ((((lChainO ga.1).members.D).length) : Int)))) ?_
           refine rvP C (.pv (.lit (.int .i64 0))) ?_
           refine rvc_nil ?_
           refine Awp.block ?_
           refine Awp.forR (σ := ((List Member))) (((lChainO ga.1).members.D).length) (fun i1 v => [(2, .pv (.lit (.int .i64 epoch))), (7, .ptr 38 0), (9, .ptr 43 0), (15, .ptr 15 0), (59, sS (some l.nil) eDo l.D), (60, .pv (.lit (.int .i64 (l.D.length : Int)))), (61, .pv (.lit (.int .i64 (i : Int)))), (89, .ptr 38 0), (90, .pv (.lit (.int .i64 (lAt ga.1)))), (91, .ptr 43 0), (92, .ptr 43 0), (93, .ptr 43 3), (94, .pv (.lit (.int .i64 xa.1.at_))), (95, .pv (.lit (.bool ((lAt ga.1) != xa.1.at_)))), (98, .ptr 38 0), (99, .agg [.pv (.lit (.int .i64 ((lChain ga.1).epoch))), sS (some (lChain ga.1).members.nil) eMember ((lChain ga.1).members.D)]), (100, .ptr 43 0), (101, .ptr 43 0), (102, .ptr 43 0), (103, .agg [.pv (.lit (.int .i64 xa.1.c.epoch)), sS (some xa.1.c.members.nil) eMember xa.1.c.members.D]), (104, .pv (.lit (.bool (rSame (lChain ga.1) xa.1.c)))), (105, .pv (.lit (.bool (!(rSame (lChain ga.1) xa.1.c))))), (111, .pv (.lit (.int .i64 ((((lChainO ga.1).members.D).length) : Int)))), (112, .pv (.lit (.int .i64 (i1 : Int))))]) (fun i1 v => [(38, .cells [sS (some ga.1.past.all.nil) eChain ga.1.past.all.D, .pv (.lit (.int .i64 ga.1.chain.epoch)), sS (some ga.1.chain.members.nil) eMember ga.1.chain.members.D, .pv (.lit (.int .i64 ga.1.at_))]), (43, .cells [.pv (.lit (.int .i64 xa.1.c.epoch)), sS (some xa.1.c.members.nil) eMember xa.1.c.members.D, sS (some xa.1.all.nil) eChain xa.1.all.D, .pv (.lit (.int .i64 xa.1.at_))]), (108, .cells (encC eMember v)), (15, .cells [.pv (.lit (.int .i64 ((lChainO ga.1).epoch))), .sl 108 0 (((lChainO ga.1).members.D).length) 3 false])]) [15, 38, 43, 108] (fun i1 v => (lawPlays_l1 (fun vc2 => lawPlays_l0 epoch (l.D.drop (i + 1)) (i + 1) ga.1 xa.1) (((lChainO ga.1).members.D).drop i1) i1 v = R) ∧ (v.length = ((lChainO ga.1).members.D).length)) ((lChainO ga.1).members.D) ?_ ?_ (fun i1 vc2 h17 hR => ?_)
           · exact ⟨hR, (by first | omega | (simp <;> omega))⟩
           · exact ⟨fun b => b, WeakerR.ofL (Ks := [15, 38, 43, 108]) hI ⟨⟨rfl, rfl⟩, ⟨rfl, rfl⟩, ⟨rfl, rfl⟩, ⟨rfl, rfl⟩, ⟨rfl, rfl⟩, ⟨rfl, rfl⟩, ⟨rfl, rfl⟩, ⟨rfl, rfl⟩, ⟨rfl, rfl⟩, ⟨rfl, rfl⟩, ⟨rfl, rfl⟩, ⟨rfl, rfl⟩, ⟨rfl, rfl⟩, ⟨rfl, rfl⟩, ⟨rfl, rfl⟩, ⟨rfl, rfl⟩, ⟨rfl, rfl⟩, ⟨rfl, rfl⟩, ⟨rfl, rfl⟩, ⟨rfl, rfl⟩, ⟨rfl, rfl⟩, ⟨rfl, rfl⟩, ⟨rfl, rfl⟩, ⟨rfl, rfl⟩, trivial⟩ (okH_cons rfl rfl rfl rfl (okH_cons rfl rfl rfl rfl (okH_list rfl rfl rfl (okH_cons rfl rfl rfl rfl (okH_nil))))) rfl⟩
           obtain ⟨hR, hi_vc2⟩ := hR
           replace hi_vc2 : vc2.length = ((lChainO ga.1).members.D).length := hi_vc2
           have hq1_ : (lChainO ga.1).members.D.length ≤ 1000000 := hf0_ga.ok.2.1
           refine Awp.consP C ?_
           refine rvP C (.pv (.lit (.bool (decide ((i1 : Int) < ((((lChainO ga.1).members.D).length) : Int)))))) ?_
           refine rvc_nil ?_
           refine Awp.seq ?_
           refine Awp.cond (b := (decide ((i1 : Int) < ((((lChainO ga.1).members.D).length) : Int)))) rfl (fun h18 => ?_) (fun h18 => ?_)
           ·
            have h19 : i1 < ((lChainO ga.1).members.D).length := by have := of_decide_eq_true h18; omega
            obtain ⟨x1, h20⟩ := getX h19
            rw [drop_at h20] at hR
            refine Awp.skip ?_
            refine Awp.seq ?_
            refine Awp.block ?_
            refine Awp.consP C ?_
            refine rvP C (.pv (.lit (.int .i64 (i1 : Int)))) ?_
            refine rvP C (.pv (.lit (.int .i64 (i1 : Int)))) ?_
            refine rvc_nil ?_
            refine Awp.regionP C ?_
            refine rvP C (.ptr 15 1) ?_
            refine rvP C (.sl 108 0 (((lChainO ga.1).members.D).length) 3 false) ?_
            refine rvP C (.pv (.lit (.int .i64 (i1 : Int)))) ?_
            have h21 : vc2[i1]? = some vc2[i1]! := getE (by have := of_decide_eq_false h1; have := eq_of_bne_false h3; have := eq_of_bne_false (newL_e m); have := eq_of_bne_false h7; have := eq_of_bne_false (rNewL_e m); have := eq_of_bne_false h8; have := beq_iff_eq.1 (not_false_of h9); have := of_decide_eq_true h11; have := eq_of_bne_false h14; have := eq_of_bne_false h15; have := of_decide_eq_true h18; omega)
            refine rvc_un (rexec_prim C (δ := { v := .ptr 108 (0 + i1 * 3) }) rfl rfl rfl rfl ⟨(by have := of_decide_eq_false h1; have := eq_of_bne_false h3; have := eq_of_bne_false (newL_e m); have := eq_of_bne_false h7; have := eq_of_bne_false (rNewL_e m); have := eq_of_bne_false h8; have := beq_iff_eq.1 (not_false_of h9); have := of_decide_eq_true h11; have := eq_of_bne_false h14; have := eq_of_bne_false h15; have := of_decide_eq_true h18; omega), getlt h21 (by first | rfl | omega | (have := of_decide_eq_false h1; have := eq_of_bne_false h3; have := eq_of_bne_false (newL_e m); have := eq_of_bne_false h7; have := eq_of_bne_false (rNewL_e m); have := eq_of_bne_false h8; have := beq_iff_eq.1 (not_false_of h9); have := of_decide_eq_true h11; have := eq_of_bne_false h14; have := eq_of_bne_false h15; have := of_decide_eq_true h18; omega)) (by first | rfl | omega | simp)⟩ rfl ?_)
            refine rvP C (.ptr 108 (0 + i1 * 3 + 0)) ?_
            refine rvc_un (rexec_storeE C (e := eMember) i1 0 (vc2[i1]!) (Member.mk 99 (vc2[i1]!.site) (vc2[i1]!.fresh)) rfl rfl rfl rfl h21 (by simp [eMember]) rfl rfl rfl (of_decide_eq_true rfl) rfl ?_)
            refine rvc_nil ?_
            refine Awp.regionP C ?_
            refine rvP C (.pv (.lit (.int .i64 (IntKind.i64.wrap ((i1 : Int) + 1))))) ?_
            refine rvP C (.pv (.lit (.int .i64 (IntKind.i64.wrap ((i1 : Int) + 1))))) ?_
            refine rvc_nil ?_
            refine ⟨h19, (vc2.set i1 (Member.mk 99 (vc2[i1]!.site) (vc2[i1]!.fresh))), ?_, ?_⟩
            · exact ⟨hR, (by first | omega | (simp <;> omega))⟩
            · exact ⟨fun b => b, WeakerR.ofL (Ks := [15, 38, 43, 108]) hI ⟨⟨rfl, rfl⟩, ⟨rfl, rfl⟩, ⟨rfl, rfl⟩, ⟨rfl, rfl⟩, ⟨rfl, rfl⟩, ⟨rfl, rfl⟩, ⟨rfl, rfl⟩, ⟨rfl, rfl⟩, ⟨rfl, rfl⟩, ⟨rfl, rfl⟩, ⟨rfl, rfl⟩, ⟨rfl, rfl⟩, ⟨rfl, rfl⟩, ⟨rfl, rfl⟩, ⟨rfl, rfl⟩, ⟨rfl, rfl⟩, ⟨rfl, rfl⟩, ⟨rfl, rfl⟩, ⟨rfl, rfl⟩, ⟨rfl, rfl⟩, ⟨rfl, rfl⟩, ⟨rfl, rfl⟩, ⟨rfl, rfl⟩, ⟨lit_cast (wrap_i64 (by omega) (by omega)), rfl⟩, trivial⟩ (okH_cons rfl rfl rfl rfl (okH_cons rfl rfl rfl rfl (okH_list rfl rfl rfl (okH_cons rfl rfl rfl rfl (okH_nil))))) rfl⟩
           ·
            have h19 : ¬ i1 < ((lChainO ga.1).members.D).length := by have := of_decide_eq_false h18; omega
            rw [drop_end h19] at hR
            refine Awp.exit ?_
            refine Awp.regionP C ?_
            refine rvP C (.pv (.lit (.int .i64 (IntKind.i64.wrap ((i : Int) + 1))))) ?_
            refine rvP C (.pv (.lit (.int .i64 (IntKind.i64.wrap ((i : Int) + 1))))) ?_
            refine rvc_nil ?_
            refine ⟨h12, (ga.1, xa.1), ?_, ?_⟩
            · exact ⟨hR, ⟨hf0_ga, (by rw [hf0_xa])⟩⟩
            · exact ⟨fun b => b, WeakerR.ofL (Ks := [38, 43]) hI ⟨⟨rfl, rfl⟩, ⟨rfl, rfl⟩, ⟨rfl, rfl⟩, ⟨rfl, rfl⟩, ⟨rfl, rfl⟩, ⟨lit_cast (wrap_i64 (by omega) (by omega)), rfl⟩, trivial⟩ (okH_cons rfl rfl rfl rfl (okH_cons rfl rfl rfl rfl (okH_nil))) rfl⟩
       ·
        have h12 : ¬ i < l.D.length := by have := of_decide_eq_false h11; omega
        rw [drop_end h12] at hR
        refine Awp.exit ?_
        refine Awp.seq ?_
        refine Awp.consP C ?_
        refine rvP C (.ptr 43 0) ?_
        refine rvP C (.ptr 43 0) ?_
        refine rvP C (.ptr 43 0) ?_
        refine rvP C (.ptr 43 0) ?_
        refine rvP C (.pv (.lit (.int .i64 vc1.c.epoch))) ?_
        refine rvP C (.pv (.lit (.int .i64 (IntKind.i64.wrap (vc1.c.epoch + 2))))) ?_
        refine rvP C (.pv (.lit (.int .i64 0))) ?_
        refine rvc_nil ?_
        refine Awp.block ?_
        refine Awp.forR (σ := Unit) ((IntKind.i64.wrap (vc1.c.epoch + 2)).toNat) (fun i2 _v => [(2, .pv (.lit (.int .i64 epoch))), (7, .ptr 38 0), (9, .ptr 43 0), (127, .pv (.lit (.int .i64 (IntKind.i64.wrap (vc1.c.epoch + 2))))), (128, .pv (.lit (.int .i64 (i2 : Int))))]) (fun i2 _v => [(38, .cells [sS (some vc.past.all.nil) eChain vc.past.all.D, .pv (.lit (.int .i64 vc.chain.epoch)), sS (some vc.chain.members.nil) eMember vc.chain.members.D, .pv (.lit (.int .i64 vc.at_))]), (43, .cells [.pv (.lit (.int .i64 vc1.c.epoch)), sS (some vc1.c.members.nil) eMember vc1.c.members.D, sS (some vc1.all.nil) eChain vc1.all.D, .pv (.lit (.int .i64 vc1.at_))])]) [38, 43] (fun i2 _v => lawPlays_l2 epoch vc vc1 ((IntKind.i64.wrap (vc1.c.epoch + 2)).toNat - i2) i2  = R) () ?_ ?_ (fun i2 _v h22 hR => ?_)
        · exact hR
        · exact ⟨fun b => b, WeakerR.ofL (Ks := [38, 43]) hI ⟨⟨rfl, rfl⟩, ⟨rfl, rfl⟩, ⟨rfl, rfl⟩, ⟨rfl, rfl⟩, ⟨rfl, rfl⟩, trivial⟩ (okH_cons rfl rfl rfl rfl (okH_cons rfl rfl rfl rfl (okH_nil))) rfl⟩
        have hw_ := plays_ep hV (by have h2_ := (short_ok ‹(!(short (Sl.mk false [l]))) = false› l (by simp)).1; omega)
        refine Awp.consP C ?_
        refine rvP C (.pv (.lit (.bool (decide ((i2 : Int) < (IntKind.i64.wrap (vc1.c.epoch + 2))))))) ?_
        refine rvc_nil ?_
        refine Awp.seq ?_
        refine Awp.cond (b := (decide ((i2 : Int) < (IntKind.i64.wrap (vc1.c.epoch + 2))))) rfl (fun h23 => ?_) (fun h23 => ?_)
        ·
         have h24 : i2 < (IntKind.i64.wrap (vc1.c.epoch + 2)).toNat := by have := of_decide_eq_true h23; omega
         obtain ⟨k, h25⟩ : ∃ k, (IntKind.i64.wrap (vc1.c.epoch + 2)).toNat - i2 = k + 1 := ⟨(IntKind.i64.wrap (vc1.c.epoch + 2)).toNat - i2 - 1, by omega⟩
         rw [h25] at hR
         refine Awp.skip ?_
         refine Awp.seq ?_
         refine Awp.block ?_
         refine Awp.consP C ?_
         refine rvP C (.pv (.lit (.int .i64 (i2 : Int)))) ?_
         refine rvP C (.pv (.lit (.int .i64 (i2 : Int)))) ?_
         refine rvc_nil ?_
         refine Awp.cons C (fun _ => .writer) (by kernel_rfl) ?_
         refine rvP C (.ptr 38 0) ?_
         refine rvP C (.pv (.lit (.int .i64 (i2 : Int)))) ?_
         refine rvc_un (rexec_callM hP C (b := 38) rfl rfl rfl (lOf_calls vc (i2 : Int) hV.1.ok.2.2 (by have h_ := hV.1.cnt; have h2_ := (short_ok ‹(!(short (Sl.mk false [l]))) = false› l (by simp)).1; omega)) rfl rfl ?_)
         refine rvP C (.tup [.agg [.pv (.lit (.int .i64 ((lOf vc (i2 : Int)).1.epoch))), sS (some (lOf vc (i2 : Int)).1.members.nil) eMember ((lOf vc (i2 : Int)).1.members.D)], .pv (.lit (.bool ((lOf vc (i2 : Int)).2)))]) ?_
         refine rvP C (.agg [.pv (.lit (.int .i64 ((lOf vc (i2 : Int)).1.epoch))), sS (some (lOf vc (i2 : Int)).1.members.nil) eMember ((lOf vc (i2 : Int)).1.members.D)]) ?_
         refine rvP C (.pv (.lit (.bool ((lOf vc (i2 : Int)).2)))) ?_
         refine rvc_un (rexec_prim C (δ := { v := .ptr 18 0, new := [(18, .cells [.pv (.lit (.int .i64 0)), sS (some true) eMember []])] }) rfl rfl rfl rfl trivial rfl ?_)
         refine rvc_un (rexec_prim C (δ := { v := .undef, wr := [(18, some (.cells [.pv (.lit (.int .i64 ((lOf vc (i2 : Int)).1.epoch))), sS (some (lOf vc (i2 : Int)).1.members.nil) eMember ((lOf vc (i2 : Int)).1.members.D)]))] }) rfl rfl rfl rfl trivial rfl ?_)
         refine rvP C (.pv (.lit (.bool ((lOf vc (i2 : Int)).2)))) ?_
         refine rvc_nil ?_
         refine Awp.cons C (fun _ => .writer) (by kernel_rfl) ?_
         refine rvP C (.ptr 43 0) ?_
         refine rvP C (.pv (.lit (.int .i64 (i2 : Int)))) ?_
         refine rvc_un (rexec_callM hP C (b := 43) rfl rfl rfl (rOf_calls vc1 (i2 : Int) (by rw [hV.2]; show vc.past.all.D.length ≤ 1000000; exact (by have h_ := hV.1.cnt; have h2_ := (short_ok ‹(!(short (Sl.mk false [l]))) = false› l (by simp)).1; omega))) rfl rfl ?_)
         refine rvP C (.tup [.agg [.pv (.lit (.int .i64 ((rOf vc1 (i2 : Int)).1.epoch))), sS (some (rOf vc1 (i2 : Int)).1.members.nil) eMember ((rOf vc1 (i2 : Int)).1.members.D)], .pv (.lit (.bool ((rOf vc1 (i2 : Int)).2)))]) ?_
         refine rvP C (.agg [.pv (.lit (.int .i64 ((rOf vc1 (i2 : Int)).1.epoch))), sS (some (rOf vc1 (i2 : Int)).1.members.nil) eMember ((rOf vc1 (i2 : Int)).1.members.D)]) ?_
         refine rvP C (.pv (.lit (.bool ((rOf vc1 (i2 : Int)).2)))) ?_
         refine rvc_un (rexec_prim C (δ := { v := .ptr 20 0, new := [(20, .cells [.pv (.lit (.int .i64 0)), sS (some true) eMember []])] }) rfl rfl rfl rfl trivial rfl ?_)
         refine rvc_un (rexec_prim C (δ := { v := .undef, wr := [(20, some (.cells [.pv (.lit (.int .i64 ((rOf vc1 (i2 : Int)).1.epoch))), sS (some (rOf vc1 (i2 : Int)).1.members.nil) eMember ((rOf vc1 (i2 : Int)).1.members.D)]))] }) rfl rfl rfl rfl trivial rfl ?_)
         refine rvP C (.pv (.lit (.bool ((rOf vc1 (i2 : Int)).2)))) ?_
         refine rvc_nil ?_
         refine Awp.consP C ?_
         refine rvP C (.pv (.lit (.bool ((lOf vc (i2 : Int)).2)))) ?_
         refine rvP C (.pv (.lit (.bool ((rOf vc1 (i2 : Int)).2)))) ?_
         refine rvP C (.pv (.lit (.bool (!(((lOf vc (i2 : Int)).2) == ((rOf vc1 (i2 : Int)).2)))))) ?_
         refine rvP C (.pv (.lit (.bool (!(((lOf vc (i2 : Int)).2) == ((rOf vc1 (i2 : Int)).2)))))) ?_
         refine rvc_case 146 (!(((lOf vc (i2 : Int)).2) == ((rOf vc1 (i2 : Int)).2))) rfl (fun h26 => ?_) (fun h26 => ?_)
         ·
          replace hR := of_true h26 hR
          refine rvS ?_
          refine rvS ?_
          refine rvS ?_
          refine rvS ?_
          refine rvP C (.pv (.lit (.bool true))) ?_
          refine rvc_nil ?_
          refine Awp.condT (b := true) rfl rfl ?_
          refine Awp.consP C ?_
          refine rvP C (.pv (.lit (.bool false))) ?_
          refine rvc_nil ?_
          refine Awp.ret ?_
          subst hR
          exact ⟨.inl rfl, rfl⟩
         ·
          replace hR := of_false h26 hR
          refine rvO C (.agg [.pv (.lit (.int .i64 ((lOf vc (i2 : Int)).1.epoch))), sS (some (lOf vc (i2 : Int)).1.members.nil) eMember ((lOf vc (i2 : Int)).1.members.D)]) ?_
          refine rvO C (.agg [.pv (.lit (.int .i64 ((rOf vc1 (i2 : Int)).1.epoch))), sS (some (rOf vc1 (i2 : Int)).1.members.nil) eMember ((rOf vc1 (i2 : Int)).1.members.D)]) ?_
          refine rvc_open rfl rfl rfl (rexec_call hP C rfl rfl rfl (rSame_calls ((lOf vc (i2 : Int)).1) ((rOf vc1 (i2 : Int)).1) (Nat.le_trans (lOf_len hV.1.ok _) (by decide))) ?_)
          refine rvO C (.pv (.lit (.bool (!(rSame ((lOf vc (i2 : Int)).1) ((rOf vc1 (i2 : Int)).1)))))) ?_
          refine rvP C (.pv (.lit (.bool (!(rSame ((lOf vc (i2 : Int)).1) ((rOf vc1 (i2 : Int)).1)))))) ?_
          refine rvc_nil ?_
          refine Awp.cond (b := (!(rSame ((lOf vc (i2 : Int)).1) ((rOf vc1 (i2 : Int)).1)))) rfl (fun h27 => ?_) (fun h27 => ?_)
          ·
           replace hR := of_true h27 hR
           refine Awp.consP C ?_
           refine rvP C (.pv (.lit (.bool false))) ?_
           refine rvc_nil ?_
           refine Awp.ret ?_
           subst hR
           exact ⟨.inl rfl, rfl⟩
          ·
           replace hR := of_false h27 hR
           refine Awp.skip ?_
           refine Awp.regionP C ?_
           refine rvP C (.pv (.lit (.int .i64 (IntKind.i64.wrap ((i2 : Int) + 1))))) ?_
           refine rvP C (.pv (.lit (.int .i64 (IntKind.i64.wrap ((i2 : Int) + 1))))) ?_
           refine rvc_nil ?_
           refine ⟨h24, (), ?_, ?_⟩
           · exact (by rw [show (IntKind.i64.wrap (vc1.c.epoch + 2)).toNat - (i2 + 1) = k by omega]; exact hR)
           · exact ⟨fun b => b, WeakerR.ofL (Ks := [38, 43]) hI ⟨⟨rfl, rfl⟩, ⟨rfl, rfl⟩, ⟨rfl, rfl⟩, ⟨rfl, rfl⟩, ⟨lit_cast (wrap_i64 (by omega) (by omega)), rfl⟩, trivial⟩ (okH_cons rfl rfl rfl rfl (okH_cons rfl rfl rfl rfl (okH_nil))) rfl⟩
        ·
         rw [show (IntKind.i64.wrap (vc1.c.epoch + 2)).toNat - i2 = 0 by have := of_decide_eq_false h23; omega] at hR
         refine Awp.exit ?_
         refine Awp.cons C (fun _ => .writer) (by kernel_rfl) ?_
         refine rvP C (.ptr 38 0) ?_
         refine rvP C (.pv (.lit (.int .i64 epoch))) ?_
         refine rvc_un (rexec_callM hP C (b := 38) rfl rfl rfl (lOf_calls vc epoch hV.1.ok.2.2 (by have h_ := hV.1.cnt; have h2_ := (short_ok ‹(!(short (Sl.mk false [l]))) = false› l (by simp)).1; omega)) rfl rfl ?_)
         refine rvP C (.tup [.agg [.pv (.lit (.int .i64 ((lOf vc epoch).1.epoch))), sS (some (lOf vc epoch).1.members.nil) eMember ((lOf vc epoch).1.members.D)], .pv (.lit (.bool ((lOf vc epoch).2)))]) ?_
         refine rvP C (.agg [.pv (.lit (.int .i64 ((lOf vc epoch).1.epoch))), sS (some (lOf vc epoch).1.members.nil) eMember ((lOf vc epoch).1.members.D)]) ?_
         refine rvP C (.pv (.lit (.bool ((lOf vc epoch).2)))) ?_
         refine rvc_un (rexec_prim C (δ := { v := .ptr 22 0, new := [(22, .cells [.pv (.lit (.int .i64 0)), sS (some true) eMember []])] }) rfl rfl rfl rfl trivial rfl ?_)
         refine rvc_un (rexec_prim C (δ := { v := .undef, wr := [(22, some (.cells [.pv (.lit (.int .i64 ((lOf vc epoch).1.epoch))), sS (some (lOf vc epoch).1.members.nil) eMember ((lOf vc epoch).1.members.D)]))] }) rfl rfl rfl rfl trivial rfl ?_)
         refine rvP C (.pv (.lit (.bool ((lOf vc epoch).2)))) ?_
         refine rvc_nil ?_
         refine Awp.cons C (fun _ => .writer) (by kernel_rfl) ?_
         refine rvP C (.ptr 43 0) ?_
         refine rvP C (.pv (.lit (.int .i64 epoch))) ?_
         refine rvc_un (rexec_callM hP C (b := 43) rfl rfl rfl (rOf_calls vc1 epoch (by rw [hV.2]; show vc.past.all.D.length ≤ 1000000; exact (by have h_ := hV.1.cnt; have h2_ := (short_ok ‹(!(short (Sl.mk false [l]))) = false› l (by simp)).1; omega))) rfl rfl ?_)
         refine rvP C (.tup [.agg [.pv (.lit (.int .i64 ((rOf vc1 epoch).1.epoch))), sS (some (rOf vc1 epoch).1.members.nil) eMember ((rOf vc1 epoch).1.members.D)], .pv (.lit (.bool ((rOf vc1 epoch).2)))]) ?_
         refine rvP C (.agg [.pv (.lit (.int .i64 ((rOf vc1 epoch).1.epoch))), sS (some (rOf vc1 epoch).1.members.nil) eMember ((rOf vc1 epoch).1.members.D)]) ?_
         refine rvP C (.pv (.lit (.bool ((rOf vc1 epoch).2)))) ?_
         refine rvc_un (rexec_prim C (δ := { v := .ptr 24 0, new := [(24, .cells [.pv (.lit (.int .i64 0)), sS (some true) eMember []])] }) rfl rfl rfl rfl trivial rfl ?_)
         refine rvc_un (rexec_prim C (δ := { v := .undef, wr := [(24, some (.cells [.pv (.lit (.int .i64 ((rOf vc1 epoch).1.epoch))), sS (some (rOf vc1 epoch).1.members.nil) eMember ((rOf vc1 epoch).1.members.D)]))] }) rfl rfl rfl rfl trivial rfl ?_)
         refine rvP C (.pv (.lit (.bool ((rOf vc1 epoch).2)))) ?_
         refine rvc_nil ?_
         refine Awp.consP C ?_
         refine rvP C (.pv (.lit (.bool ((lOf vc epoch).2)))) ?_
         refine rvP C (.pv (.lit (.bool ((rOf vc1 epoch).2)))) ?_
         refine rvP C (.pv (.lit (.bool (((lOf vc epoch).2) == ((rOf vc1 epoch).2))))) ?_
         refine rvP C (.pv (.lit (.bool (((lOf vc epoch).2) == ((rOf vc1 epoch).2))))) ?_
         refine rvc_case 168 (((lOf vc epoch).2) == ((rOf vc1 epoch).2)) rfl (fun h28 => ?_) (fun h28 => ?_)
         ·
          replace hR := of_true h28 hR
          refine rvc_open rfl rfl rfl (rexec_call hP C rfl rfl rfl (awake_calls ) ?_)
          refine rvP C (.pv (.lit (.bool (awake )))) ?_
          refine rvP C (.pv (.lit (.bool (awake )))) ?_
          refine rvc_nil ?_
          refine Awp.ret ?_
          subst hR
          exact ⟨.inl rfl, rfl⟩
         ·
          replace hR := of_false h28 hR
          refine rvS ?_
          refine rvP C (.pv (.lit (.bool false))) ?_
          refine rvP C (.pv (.lit (.bool false))) ?_
          refine rvc_nil ?_
          refine Awp.ret ?_
          subst hR
          exact ⟨.inl rfl, rfl⟩
end Go.Proofs.Ytpgenmflgdkfiaa
/- The law of plays; its contract. No conditions. -/
namespace Go.Proofs.Ytpgenmflgdkfiaa
open Go.Am
theorem same_refl (a : Chain) : rSame a a = true := rSame_of (eqC_refl a)
theorem plays_l1_const (b : Bool) : ∀ (xs : List Member) (i : Nat) (v : List Member), lawPlays_l1 (fun _ => b) xs i v = b
  | [], _, _ => rfl
  | _ :: xs, i, v => by unfold lawPlays_l1; exact plays_l1_const b xs _ _
theorem plays_l2_true (epoch : Int) {g : Ledger} {n : Nat} (h : Good g n) : ∀ (k i : Nat), lawPlays_l2 epoch g (twin g) k i = true
  | 0, i => by
    unfold lawPlays_l2
    rw [lOf_eq h, awake_true]
    simp
  | k + 1, i => by
    unfold lawPlays_l2
    rw [lOf_eq h, same_refl, plays_l2_true epoch h k (i + 1)]
    simp
theorem plays_l0_true (epoch : Int) : ∀ (xs : List Do) (i : Nat) (g : Ledger), (∀ x ∈ xs, okDo x) → (∀ x ∈ xs, x.b.D.length ≤ 100000) → Good g i → i + xs.length ≤ 1000 → lawPlays_l0 epoch xs i g (twin g) = true
  | [], i, g, _, _, h, _ => by
    unfold lawPlays_l0
    exact plays_l2_true epoch h _ _
  | x :: xs, i, g, hb, hbl, h, hi => by
    unfold lawPlays_l0
    rw [List.length_cons] at hi
    have hd := data_ok (hb x (List.mem_cons_self ..)) (hbl x (List.mem_cons_self ..)) (twin g).c.epoch
    rw [plays_x (ix := doIndex x (twin g).at_) ⟨h, rfl⟩ (by omega) rfl rfl hd]
    have ha := h.apply (by omega) (doIndex x (twin g).at_) (cloneBytes (doData x (twin g).c.epoch))
    generalize lApply g (doIndex x (twin g).at_) (cloneBytes (doData x (twin g).c.epoch)) = a at ha ⊢
    have e1 : lAt a.1 = (twin a.1).at_ := ha.lived.at_
    have e2 : lChain a.1 = (twin a.1).c := by rw [ha.lived.chain, copied_eq ha.hn]; rfl
    rw [e1, e2]
    simp only [same_refl, bne_self_eq_false, cond_false, Bool.not_true]
    rw [plays_l1_const]
    exact plays_l0_true epoch xs (i + 1) a.1 (fun y hy => hb y (List.mem_cons_of_mem _ hy)) (fun y hy => hbl y (List.mem_cons_of_mem _ hy)) ha (by omega)
theorem lawPlays_true (m : Sl Member) (l : Sl Do) (epoch : Int) (hb : ∀ x ∈ l.D, okDo x) : lawPlays m l epoch = true := by
  unfold lawPlays
  rw [awake_true, rFirst_eq]
  cases e1 : decide ((m.D.length : Int) > 60)
  · cases e2 : !(short (Sl.mk false [l]))
    · have hl := (short_ok e2 l (by simp)).1
      have hm := of_decide_eq_false e1
      cases e3 : ((firstC m).2) != 0
      · have hg := newL_good (m := m) (eq_of_bne_false e3) (by omega)
        have n1 : (((newL m).2) != ((rNewL m).2)) = false := rfl
        rw [n1, rNewL_twin]
        exact plays_l0_true epoch l.D 0 _ hb (fun x hx => Nat.le_trans ((short_ok e2 l (by simp)).2 x hx) (by decide)) hg (by omega)
      · have n1 : (((newNil m).2) != ((rNewNil m).2)) = false := by
          show ((firstC m).2 != (rFirst m).2) = false
          rw [rFirst_eq]; simp
        rw [n1]; rfl
    · rfl
  · rfl
theorem okDo_of {l : Sl Do} (h : WT23 l) : ∀ x ∈ l.D, okDo x := fun x hx => by
  obtain ⟨_, _, h3⟩ := h
  obtain ⟨_, w, _⟩ := h3 x hx
  exact ⟨w.2.1, fun y hy => byte_of (w.2.2 y hy)⟩
theorem ledgerPlays_calls (m : Sl Member) (w : WT22 m) (l : Sl Do) (wl : WT23 l) (e : Int) (_ : (Lit.int .i64 e).wf = true) : PCalls Try.prog 7 [sS (some m.nil) eMember m.D, sS (some l.nil) eDo l.D, .pv (.lit (.int .i64 e))] (.pv (.bool true)) := by
  have r := lawPlays_calls m l e (okDo_of wl) (Nat.le_trans w.1 (by decide)) (Nat.le_trans wl.1 (by decide))
  rw [lawPlays_true m l e (okDo_of wl)] at r
  exact r
end Go.Proofs.Ytpgenmflgdkfiaa
/- An abstract machine over the kit's calls, part 34: three rows of three numbers that are handed in. No conditions. -/
namespace Go.Am
section
variable {H : Type} {enc : TypeId × Value → H} {P : Program} {w : World} {base : Nat} {spare : Nat → Bool} {held : Bool}
end
end Go.Am
/- What all rows of this seat need: no knob is turned, the types are laid out. No conditions. -/
namespace Go.Proofs.Ytpgenmflgdkfiaa
open Go.Am
theorem own : ownKnob Try.prog.godebug = none := by kernel_rfl
theorem laidOut : laidOutB Try.prog = true := by kernel_rfl
end Go.Proofs.Ytpgenmflgdkfiaa
