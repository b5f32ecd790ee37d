import Derived.Test.YtaoagcdljmpllaaM4
import Derived.Test.YtaoagcdljmpllaaM3
import Derived.Test.YtaoagcdljmpllaaM2
import Derived.SizedLaws
/- Does a row fit. No conditions. -/
namespace Go.Proofs.Ytaoagcdljmpllaa
open Go.Am
def nextW_l0 (l : (Sl Op)) (left : (Sl Bool)) (i : Int) : List Op → Nat → Bool
  | [], _ => true
  | x :: xs, i1 => (bif left.D[i1]! then (bif ((i1 : Int) != i) then (bif (before x (l.D[i.toNat]!)) then false else nextW_l0 l left i xs (i1 + 1) ) else nextW_l0 l left i xs (i1 + 1) ) else nextW_l0 l left i xs (i1 + 1) )
def nextW (l : (Sl Op)) (left : (Sl Bool)) (i : Int) : Bool :=
  nextW_l0 l left i l.D 0
theorem nextW_calls (l : (Sl Op)) (left : (Sl Bool)) (i : Int) (n_ : Nat) (tt_ : Bool) (hn_ : n_ = left.D.length) (hl : left.D.length = l.D.length) (hi : 0 ≤ i ∧ i < (l.D.length : Int)) (hl1 : l.D.length ≤ 9223372036854775807) : MCalls Try.prog 48 [sS (some l.nil) eOp l.D, .sl 0 0 n_ 1 tt_, .pv (.lit (.int .i64 i))] (.cells (encC eB left.D)) (.pv (.lit (.bool (nextW l left i)))) (.cells (encC eB left.D)) := by
 generalize hR : nextW l left i = R
 subst hn_
 refine MCalls.of_body tabOk Try.func48 rfl rfl rfl rfl rfl (encC_within _ _) (encC_within _ _) mixed fun E hP C hI => ?_
 refine Awp.consP C ?_
 refine rvP C (.pv (.lit (.bool false))) ?_
 refine rvc_nil ?_
 refine Awp.seq ?_
 refine Awp.consP C ?_
 refine rvP C (sS (some l.nil) eOp l.D) ?_
 refine rvP C (.pv (.lit (.int .i64 (l.D.length : Int)))) ?_
 refine rvP C (.pv (.lit (.int .i64 0))) ?_
 refine rvc_nil ?_
 refine Awp.block ?_
 refine Awp.forR (σ := Unit) (l.D.length) (fun i1 _v => [(0, sS (some l.nil) eOp l.D), (1, .sl 0 0 left.D.length 1 tt_), (2, .pv (.lit (.int .i64 i))), (9, sS (some l.nil) eOp l.D), (10, .pv (.lit (.int .i64 (l.D.length : Int)))), (11, .pv (.lit (.int .i64 (i1 : Int))))]) (fun i1 _v => [(0, .cells (encC eB left.D))]) [0] (fun i1 _v => nextW_l0 l left i (l.D.drop i1) i1  = R) () ?_ ?_ (fun i1 _v h1 hR => ?_)
 · exact hR
 · exact ⟨fun b => b, WeakerR.ofLI (I := [0]) (Ks := [0]) hI ⟨⟨rfl, rfl⟩, ⟨rfl, rfl⟩, ⟨rfl, rfl⟩, ⟨rfl, rfl⟩, ⟨rfl, rfl⟩, ⟨rfl, rfl⟩, trivial⟩ (okH_list rfl rfl rfl (okH_nil)) rfl rfl⟩
 refine Awp.consP C ?_
 refine rvP C (.pv (.lit (.bool (decide ((i1 : Int) < (l.D.length : Int)))))) ?_
 refine rvc_nil ?_
 refine Awp.seq ?_
 refine Awp.cond (b := (decide ((i1 : Int) < (l.D.length : Int)))) rfl (fun h2 => ?_) (fun h2 => ?_)
 ·
  have h3 : i1 < l.D.length := by have := of_decide_eq_true h2; omega
  obtain ⟨x, h4⟩ := getX h3
  rw [drop_at h4] at hR
  refine Awp.skip ?_
  refine Awp.seq ?_
  refine Awp.block ?_
  refine Awp.consP C ?_
  refine rvP C (.pv (.lit (.int .i64 (i1 : Int)))) ?_
  refine rvc_un (rexec_idxS C rfl rfl rfl rfl rfl rfl x (Int.natCast_nonneg _) h4 ?_)
  refine rvP C (.agg [.pv (.lit (.bool x.write)), .pv (.lit (.string x.value)), .pv (.lit (.int .i64 x.ver)), .pv (.lit (.int .i64 x.began)), .pv (.lit (.int .i64 x.ended))]) ?_
  refine rvc_un (rexec_prim C (δ := { v := .ptr 8 0, new := [(8, .cells [.pv (.lit (.bool false)), .pv (.lit (.string ⟨#[]⟩)), .pv (.lit (.int .i64 0)), .pv (.lit (.int .i64 0)), .pv (.lit (.int .i64 0))])] }) rfl rfl rfl rfl trivial rfl ?_)
  refine rvP C (.pv (.lit (.int .i64 (i1 : Int)))) ?_
  refine rvc_un (rexec_prim C (δ := { v := .undef, wr := [(8, some (.cells [.pv (.lit (.bool x.write)), .pv (.lit (.string x.value)), .pv (.lit (.int .i64 x.ver)), .pv (.lit (.int .i64 x.began)), .pv (.lit (.int .i64 x.ended))]))] }) rfl rfl rfl rfl trivial rfl ?_)
  refine rvc_nil ?_
  refine Awp.consP C ?_
  refine rvP C (.sl 0 0 left.D.length 1 tt_) ?_
  refine rvP C (.pv (.lit (.int .i64 (i1 : Int)))) ?_
  have h5 : left.D[i1]? = some left.D[i1]! := getE (by have := of_decide_eq_true h2; omega)
  refine rvc_un (rexec_prim C (δ := { v := .ptr 0 (0 + i1 * 1) }) rfl rfl rfl rfl ⟨(by have := of_decide_eq_true h2; omega), getlt h5 (by first | rfl | omega | (have := of_decide_eq_true h2; omega)) (by first | rfl | omega | simp)⟩ rfl ?_)
  refine rvc_un (rexec_loadE C (e := eB) i1 0 (left.D[i1]!) (.pv (.lit (.bool (left.D[i1]!)))) rfl rfl rfl rfl h5 (by simp [eB]) (by decide) (by decide) rfl ?_)
  refine rvP C (.pv (.lit (.bool (left.D[i1]!)))) ?_
  refine rvc_case 20 (left.D[i1]!) rfl (fun h6 => ?_) (fun h6 => ?_)
  ·
   replace hR := of_true h6 hR
   refine rvO C (.pv (.lit (.int .i64 (i1 : Int)))) ?_
   refine rvO C (.pv (.lit (.int .i64 i))) ?_
   refine rvO C (.pv (.lit (.bool ((i1 : Int) != i)))) ?_
   refine rvP C (.pv (.lit (.bool ((i1 : Int) != i)))) ?_
   refine rvP C (.pv (.lit (.bool ((i1 : Int) != i)))) ?_
   refine rvc_case 25 ((i1 : Int) != i) rfl (fun h7 => ?_) (fun h7 => ?_)
   ·
    replace hR := of_true h7 hR
    refine rvO C (.agg [.pv (.lit (.bool x.write)), .pv (.lit (.string x.value)), .pv (.lit (.int .i64 x.ver)), .pv (.lit (.int .i64 x.began)), .pv (.lit (.int .i64 x.ended))]) ?_
    refine rvO C (sS (some l.nil) eOp l.D) ?_
    refine rvO C (.pv (.lit (.int .i64 i))) ?_
    have h8 : l.D[i.toNat]? = some l.D[i.toNat]! := getE (by have := of_decide_eq_true h2; have := bne_iff_ne.1 h7; omega)
    refine rvc_open rfl rfl rfl (rexec_idxS C rfl rfl rfl rfl rfl rfl (l.D[i.toNat]!) (by have := of_decide_eq_true h2; have := bne_iff_ne.1 h7; omega) h8 ?_)
    refine rvO C (.agg [.pv (.lit (.bool (l.D[i.toNat]!.write))), .pv (.lit (.string (l.D[i.toNat]!.value))), .pv (.lit (.int .i64 (l.D[i.toNat]!.ver))), .pv (.lit (.int .i64 (l.D[i.toNat]!.began))), .pv (.lit (.int .i64 (l.D[i.toNat]!.ended)))]) ?_
    refine rvc_open rfl rfl rfl (rexec_call hP C rfl rfl rfl (before_calls x (l.D[i.toNat]!)) ?_)
    refine rvP C (.pv (.lit (.bool (before x (l.D[i.toNat]!))))) ?_
    refine rvc_nil ?_
    refine Awp.cond (b := (before x (l.D[i.toNat]!))) rfl (fun h9 => ?_) (fun h9 => ?_)
    ·
     replace hR := of_true h9 hR
     refine Awp.consP C ?_
     refine rvP C (.pv (.lit (.bool false))) ?_
     refine rvc_nil ?_
     refine Awp.ret ?_
     subst hR
     exact ⟨.inl rfl, rfl, rfl⟩
    ·
     replace hR := of_false h9 hR
     refine Awp.skip ?_
     refine Awp.regionP C ?_
     refine rvP C (.pv (.lit (.int .i64 (IntKind.i64.wrap ((i1 : Int) + 1))))) ?_
     refine rvP C (.pv (.lit (.int .i64 (IntKind.i64.wrap ((i1 : Int) + 1))))) ?_
     refine rvc_nil ?_
     refine ⟨h3, (), ?_, ?_⟩
     · exact hR
     · exact ⟨fun b => b, WeakerR.ofLI (I := [0]) (Ks := [0]) hI ⟨⟨rfl, rfl⟩, ⟨rfl, rfl⟩, ⟨rfl, rfl⟩, ⟨rfl, rfl⟩, ⟨rfl, rfl⟩, ⟨lit_cast (wrap_i64 (by omega) (by omega)), rfl⟩, trivial⟩ (okH_list rfl rfl rfl (okH_nil)) rfl rfl⟩
   ·
    replace hR := of_false h7 hR
    refine rvS ?_
    refine rvS ?_
    refine rvS ?_
    refine rvS ?_
    refine rvS ?_
    refine rvS ?_
    refine rvP C (.pv (.lit (.bool false))) ?_
    refine rvc_nil ?_
    refine Awp.condF (b := false) rfl rfl ?_
    refine Awp.skip ?_
    refine Awp.regionP C ?_
    refine rvP C (.pv (.lit (.int .i64 (IntKind.i64.wrap ((i1 : Int) + 1))))) ?_
    refine rvP C (.pv (.lit (.int .i64 (IntKind.i64.wrap ((i1 : Int) + 1))))) ?_
    refine rvc_nil ?_
    refine ⟨h3, (), ?_, ?_⟩
    · exact hR
    · exact ⟨fun b => b, WeakerR.ofLI (I := [0]) (Ks := [0]) hI ⟨⟨rfl, rfl⟩, ⟨rfl, rfl⟩, ⟨rfl, rfl⟩, ⟨rfl, rfl⟩, ⟨rfl, rfl⟩, ⟨lit_cast (wrap_i64 (by omega) (by omega)), rfl⟩, trivial⟩ (okH_list rfl rfl rfl (okH_nil)) rfl rfl⟩
  ·
   replace hR := of_false h6 hR
   refine rvS ?_
   refine rvS ?_
   refine rvS ?_
   refine rvP C (.pv (.lit (.bool false))) ?_
   refine rvP C (.pv (.lit (.bool false))) ?_
   refine rvS ?_
   refine rvS ?_
   refine rvS ?_
   refine rvS ?_
   refine rvS ?_
   refine rvS ?_
   refine rvP C (.pv (.lit (.bool false))) ?_
   refine rvc_nil ?_
   refine Awp.condF (b := false) rfl rfl ?_
   refine Awp.skip ?_
   refine Awp.regionP C ?_
   refine rvP C (.pv (.lit (.int .i64 (IntKind.i64.wrap ((i1 : Int) + 1))))) ?_
   refine rvP C (.pv (.lit (.int .i64 (IntKind.i64.wrap ((i1 : Int) + 1))))) ?_
   refine rvc_nil ?_
   refine ⟨h3, (), ?_, ?_⟩
   · exact hR
   · exact ⟨fun b => b, WeakerR.ofLI (I := [0]) (Ks := [0]) hI ⟨⟨rfl, rfl⟩, ⟨rfl, rfl⟩, ⟨rfl, rfl⟩, ⟨rfl, rfl⟩, ⟨rfl, rfl⟩, ⟨lit_cast (wrap_i64 (by omega) (by omega)), rfl⟩, trivial⟩ (okH_list rfl rfl rfl (okH_nil)) rfl rfl⟩
 ·
  have h3 : ¬ i1 < l.D.length := by have := of_decide_eq_false h2; omega
  rw [drop_end h3] at hR
  refine Awp.exit ?_
  refine Awp.consP C ?_
  refine rvP C (.pv (.lit (.bool true))) ?_
  refine rvc_nil ?_
  refine Awp.ret ?_
  subst hR
  exact ⟨.inl rfl, rfl, rfl⟩
def allSM_l0 (done : Int) : List Op → Nat → Bool
  | [], _ => true
  | x :: xs, i => (bif (x.ended != 0) then (bif (!(mHas done (i : Int))) then false else allSM_l0 done xs (i + 1) ) else allSM_l0 done xs (i + 1) )
def allSM (s : Search) (done : Int) : Bool :=
  allSM_l0 done s.l.D 0
theorem allSM_calls (s : Search) (done : Int) (hl1 : s.l.D.length ≤ 9223372036854775807) : ObjCalls Try.prog 52 [.ptr 0 0, .pv (.lit (.int .u64 done))] [sS (some s.l.nil) eOp s.l.D, .pv (.lit (.map none)), sS (some true) (eI .i64) []] [] (.pv (.lit (.bool (allSM s done)))) [sS (some s.l.nil) eOp s.l.D, .pv (.lit (.map none)), sS (some true) (eI .i64) []] [] := by
 generalize hR : allSM s done = R
 refine ObjCalls.of_body tabOk Try.func52 rfl rfl rfl rfl rfl allB_nil (of_decide_eq_true rfl) rfl rfl allB_nil (of_decide_eq_true rfl) mixed fun E hP C hI => ?_
 refine Awp.consP C ?_
 refine rvP C (.pv (.lit (.bool false))) ?_
 refine rvc_nil ?_
 refine Awp.seq ?_
 refine Awp.consP C ?_
 refine rvP C (.ptr 0 0) ?_
 refine rvP C (.ptr 0 0) ?_
 refine rvP C (.ptr 0 0) ?_
 refine rvP C (sS (some s.l.nil) eOp s.l.D) ?_
 refine rvP C (.pv (.lit (.int .i64 (s.l.D.length : Int)))) ?_
 refine rvP C (.pv (.lit (.int .i64 0))) ?_
 refine rvc_nil ?_
 refine Awp.block ?_
 refine Awp.forR (σ := Unit) (s.l.D.length) (fun i _v => [(0, .ptr 0 0), (1, .pv (.lit (.int .u64 done))), (10, sS (some s.l.nil) eOp s.l.D), (11, .pv (.lit (.int .i64 (s.l.D.length : Int)))), (12, .pv (.lit (.int .i64 (i : Int))))]) (fun i _v => [(0, .cells [sS (some s.l.nil) eOp s.l.D, .pv (.lit (.map none)), sS (some true) (eI .i64) []])]) [0] (fun i _v => allSM_l0 done (s.l.D.drop i) i  = R) () ?_ ?_ (fun i _v h1 hR => ?_)
 · exact hR
 · exact ⟨fun b => b, WeakerR.ofLI (I := [0]) (Ks := [0]) hI ⟨⟨rfl, rfl⟩, ⟨rfl, rfl⟩, ⟨rfl, rfl⟩, ⟨rfl, rfl⟩, ⟨rfl, rfl⟩, trivial⟩ (okH_cons rfl rfl rfl rfl (okH_nil)) rfl rfl⟩
 refine Awp.consP C ?_
 refine rvP C (.pv (.lit (.bool (decide ((i : Int) < (s.l.D.length : Int)))))) ?_
 refine rvc_nil ?_
 refine Awp.seq ?_
 refine Awp.cond (b := (decide ((i : Int) < (s.l.D.length : Int)))) rfl (fun h2 => ?_) (fun h2 => ?_)
 ·
  have h3 : i < s.l.D.length := by have := of_decide_eq_true h2; omega
  obtain ⟨x, h4⟩ := getX h3
  rw [drop_at h4] at hR
  refine Awp.skip ?_
  refine Awp.seq ?_
  refine Awp.block ?_
  refine Awp.consP C ?_
  refine rvP C (.pv (.lit (.int .i64 (i : Int)))) ?_
  refine rvc_un (rexec_idxS C rfl rfl rfl rfl rfl rfl x (Int.natCast_nonneg _) h4 ?_)
  refine rvP C (.agg [.pv (.lit (.bool x.write)), .pv (.lit (.string x.value)), .pv (.lit (.int .i64 x.ver)), .pv (.lit (.int .i64 x.began)), .pv (.lit (.int .i64 x.ended))]) ?_
  refine rvc_un (rexec_prim C (δ := { v := .ptr 6 0, new := [(6, .cells [.pv (.lit (.bool false)), .pv (.lit (.string ⟨#[]⟩)), .pv (.lit (.int .i64 0)), .pv (.lit (.int .i64 0)), .pv (.lit (.int .i64 0))])] }) rfl rfl rfl rfl trivial rfl ?_)
  refine rvP C (.pv (.lit (.int .i64 (i : Int)))) ?_
  refine rvc_un (rexec_prim C (δ := { v := .undef, wr := [(6, some (.cells [.pv (.lit (.bool x.write)), .pv (.lit (.string x.value)), .pv (.lit (.int .i64 x.ver)), .pv (.lit (.int .i64 x.began)), .pv (.lit (.int .i64 x.ended))]))] }) rfl rfl rfl rfl trivial rfl ?_)
  refine rvc_nil ?_
  refine Awp.consP C ?_
  refine rvP C (.ptr 6 4) ?_
  refine rvP C (.pv (.lit (.int .i64 x.ended))) ?_
  refine rvP C (.pv (.lit (.bool (x.ended != 0)))) ?_
  refine rvP C (.pv (.lit (.bool (x.ended != 0)))) ?_
  refine rvc_case 20 (x.ended != 0) rfl (fun h5 => ?_) (fun h5 => ?_)
  ·
   replace hR := of_true h5 hR
   refine rvO C (.pv (.lit (.int .u64 done))) ?_
   refine rvO C (.pv (.lit (.int .i64 (i : Int)))) ?_
   refine rvc_open rfl rfl rfl (rexec_call hP C rfl rfl rfl (mHas_calls done (i : Int)) ?_)
   refine rvO C (.pv (.lit (.bool (!(mHas done (i : Int)))))) ?_
   refine rvP C (.pv (.lit (.bool (!(mHas done (i : Int)))))) ?_
   refine rvc_nil ?_
   refine Awp.cond (b := (!(mHas done (i : Int)))) rfl (fun h6 => ?_) (fun h6 => ?_)
   ·
    replace hR := of_true h6 hR
    refine Awp.consP C ?_
    refine rvP C (.pv (.lit (.bool false))) ?_
    refine rvc_nil ?_
    refine Awp.ret ?_
    subst hR
    exact ⟨.inl rfl, rfl, rfl, trivial⟩
   ·
    replace hR := of_false h6 hR
    refine Awp.skip ?_
    refine Awp.regionP C ?_
    refine rvP C (.pv (.lit (.int .i64 (IntKind.i64.wrap ((i : Int) + 1))))) ?_
    refine rvP C (.pv (.lit (.int .i64 (IntKind.i64.wrap ((i : Int) + 1))))) ?_
    refine rvc_nil ?_
    refine ⟨h3, (), ?_, ?_⟩
    · exact hR
    · exact ⟨fun b => b, WeakerR.ofLI (I := [0]) (Ks := [0]) hI ⟨⟨rfl, rfl⟩, ⟨rfl, rfl⟩, ⟨rfl, rfl⟩, ⟨rfl, rfl⟩, ⟨lit_cast (wrap_i64 (by omega) (by omega)), rfl⟩, trivial⟩ (okH_cons rfl rfl rfl rfl (okH_nil)) rfl rfl⟩
  ·
   replace hR := of_false h5 hR
   refine rvS ?_
   refine rvS ?_
   refine rvS ?_
   refine rvS ?_
   refine rvP C (.pv (.lit (.bool false))) ?_
   refine rvc_nil ?_
   refine Awp.condF (b := false) rfl rfl ?_
   refine Awp.skip ?_
   refine Awp.regionP C ?_
   refine rvP C (.pv (.lit (.int .i64 (IntKind.i64.wrap ((i : Int) + 1))))) ?_
   refine rvP C (.pv (.lit (.int .i64 (IntKind.i64.wrap ((i : Int) + 1))))) ?_
   refine rvc_nil ?_
   refine ⟨h3, (), ?_, ?_⟩
   · exact hR
   · exact ⟨fun b => b, WeakerR.ofLI (I := [0]) (Ks := [0]) hI ⟨⟨rfl, rfl⟩, ⟨rfl, rfl⟩, ⟨rfl, rfl⟩, ⟨rfl, rfl⟩, ⟨lit_cast (wrap_i64 (by omega) (by omega)), rfl⟩, trivial⟩ (okH_cons rfl rfl rfl rfl (okH_nil)) rfl rfl⟩
 ·
  have h3 : ¬ i < s.l.D.length := by have := of_decide_eq_false h2; omega
  rw [drop_end h3] at hR
  refine Awp.exit ?_
  refine Awp.consP C ?_
  refine rvP C (.pv (.lit (.bool true))) ?_
  refine rvc_nil ?_
  refine Awp.ret ?_
  subst hR
  exact ⟨.inl rfl, rfl, rfl, trivial⟩
def firstSM_l0 (s : Search) (i : Int) (done : Int) : List Op → Nat → Bool
  | [], _ => true
  | x :: xs, i1 => (bif ((i1 : Int) != i) then (bif (!(mHas done (i1 : Int))) then (bif (decide ((over x) < (s.l.D[i.toNat]!.began))) then false else firstSM_l0 s i done xs (i1 + 1) ) else firstSM_l0 s i done xs (i1 + 1) ) else firstSM_l0 s i done xs (i1 + 1) )
def firstSM (s : Search) (i : Int) (done : Int) : Bool :=
  firstSM_l0 s i done s.l.D 0
theorem firstSM_calls (s : Search) (i : Int) (done : Int) (hi : 0 ≤ i ∧ i < (s.l.D.length : Int)) (hl1 : s.l.D.length ≤ 9223372036854775807) : ObjCalls Try.prog 50 [.ptr 0 0, .pv (.lit (.int .i64 i)), .pv (.lit (.int .u64 done))] [sS (some s.l.nil) eOp s.l.D, .pv (.lit (.map none)), sS (some true) (eI .i64) []] [] (.pv (.lit (.bool (firstSM s i done)))) [sS (some s.l.nil) eOp s.l.D, .pv (.lit (.map none)), sS (some true) (eI .i64) []] [] := by
 generalize hR : firstSM s i done = R
 refine ObjCalls.of_body tabOk Try.func50 rfl rfl rfl rfl rfl allB_nil (of_decide_eq_true rfl) rfl rfl allB_nil (of_decide_eq_true rfl) mixed fun E hP C hI => ?_
 refine Awp.consP C ?_
 refine rvP C (.pv (.lit (.bool false))) ?_
 refine rvc_nil ?_
 refine Awp.seq ?_
 refine Awp.consP C ?_
 refine rvP C (.ptr 0 0) ?_
 refine rvP C (.ptr 0 0) ?_
 refine rvP C (.ptr 0 0) ?_
 refine rvP C (sS (some s.l.nil) eOp s.l.D) ?_
 refine rvP C (.pv (.lit (.int .i64 (s.l.D.length : Int)))) ?_
 refine rvP C (.pv (.lit (.int .i64 0))) ?_
 refine rvc_nil ?_
 refine Awp.block ?_
 refine Awp.forR (σ := Unit) (s.l.D.length) (fun i1 _v => [(0, .ptr 0 0), (1, .pv (.lit (.int .i64 i))), (2, .pv (.lit (.int .u64 done))), (12, sS (some s.l.nil) eOp s.l.D), (13, .pv (.lit (.int .i64 (s.l.D.length : Int)))), (14, .pv (.lit (.int .i64 (i1 : Int))))]) (fun i1 _v => [(0, .cells [sS (some s.l.nil) eOp s.l.D, .pv (.lit (.map none)), sS (some true) (eI .i64) []])]) [0] (fun i1 _v => firstSM_l0 s i done (s.l.D.drop i1) i1  = R) () ?_ ?_ (fun i1 _v h1 hR => ?_)
 · exact hR
 · exact ⟨fun b => b, WeakerR.ofLI (I := [0]) (Ks := [0]) hI ⟨⟨rfl, rfl⟩, ⟨rfl, rfl⟩, ⟨rfl, rfl⟩, ⟨rfl, rfl⟩, ⟨rfl, rfl⟩, ⟨rfl, rfl⟩, trivial⟩ (okH_cons rfl rfl rfl rfl (okH_nil)) rfl rfl⟩
 refine Awp.consP C ?_
 refine rvP C (.pv (.lit (.bool (decide ((i1 : Int) < (s.l.D.length : Int)))))) ?_
 refine rvc_nil ?_
 refine Awp.seq ?_
 refine Awp.cond (b := (decide ((i1 : Int) < (s.l.D.length : Int)))) rfl (fun h2 => ?_) (fun h2 => ?_)
 ·
  have h3 : i1 < s.l.D.length := by have := of_decide_eq_true h2; omega
  obtain ⟨x, h4⟩ := getX h3
  rw [drop_at h4] at hR
  refine Awp.skip ?_
  refine Awp.seq ?_
  refine Awp.block ?_
  refine Awp.consP C ?_
  refine rvP C (.pv (.lit (.int .i64 (i1 : Int)))) ?_
  refine rvc_un (rexec_idxS C rfl rfl rfl rfl rfl rfl x (Int.natCast_nonneg _) h4 ?_)
  refine rvP C (.agg [.pv (.lit (.bool x.write)), .pv (.lit (.string x.value)), .pv (.lit (.int .i64 x.ver)), .pv (.lit (.int .i64 x.began)), .pv (.lit (.int .i64 x.ended))]) ?_
  refine rvc_un (rexec_prim C (δ := { v := .ptr 8 0, new := [(8, .cells [.pv (.lit (.bool false)), .pv (.lit (.string ⟨#[]⟩)), .pv (.lit (.int .i64 0)), .pv (.lit (.int .i64 0)), .pv (.lit (.int .i64 0))])] }) rfl rfl rfl rfl trivial rfl ?_)
  refine rvP C (.pv (.lit (.int .i64 (i1 : Int)))) ?_
  refine rvc_un (rexec_prim C (δ := { v := .undef, wr := [(8, some (.cells [.pv (.lit (.bool x.write)), .pv (.lit (.string x.value)), .pv (.lit (.int .i64 x.ver)), .pv (.lit (.int .i64 x.began)), .pv (.lit (.int .i64 x.ended))]))] }) rfl rfl rfl rfl trivial rfl ?_)
  refine rvc_nil ?_
  refine Awp.consP C ?_
  refine rvP C (.pv (.lit (.int .i64 (i1 : Int)))) ?_
  refine rvP C (.pv (.lit (.int .i64 i))) ?_
  refine rvP C (.pv (.lit (.bool ((i1 : Int) != i)))) ?_
  refine rvP C (.pv (.lit (.bool ((i1 : Int) != i)))) ?_
  refine rvc_case 22 ((i1 : Int) != i) rfl (fun h5 => ?_) (fun h5 => ?_)
  ·
   replace hR := of_true h5 hR
   refine rvO C (.pv (.lit (.int .u64 done))) ?_
   refine rvO C (.pv (.lit (.int .i64 (i1 : Int)))) ?_
   refine rvc_open rfl rfl rfl (rexec_call hP C rfl rfl rfl (mHas_calls done (i1 : Int)) ?_)
   refine rvO C (.pv (.lit (.bool (!(mHas done (i1 : Int)))))) ?_
   refine rvP C (.pv (.lit (.bool (!(mHas done (i1 : Int)))))) ?_
   refine rvP C (.pv (.lit (.bool (!(mHas done (i1 : Int)))))) ?_
   refine rvc_case 28 (!(mHas done (i1 : Int))) rfl (fun h6 => ?_) (fun h6 => ?_)
   ·
    replace hR := of_true h6 hR
    refine rvO C (.agg [.pv (.lit (.bool x.write)), .pv (.lit (.string x.value)), .pv (.lit (.int .i64 x.ver)), .pv (.lit (.int .i64 x.began)), .pv (.lit (.int .i64 x.ended))]) ?_
    refine rvc_open rfl rfl rfl (rexec_call hP C rfl rfl rfl (over_calls x) ?_)
    refine rvO C (.ptr 0 0) ?_
    refine rvO C (.ptr 0 0) ?_
    refine rvO C (.ptr 0 0) ?_
    refine rvO C (sS (some s.l.nil) eOp s.l.D) ?_
    refine rvO C (.pv (.lit (.int .i64 i))) ?_
    have h7 : s.l.D[i.toNat]? = some s.l.D[i.toNat]! := getE (by have := of_decide_eq_true h2; have := bne_iff_ne.1 h5; omega)
    refine rvc_open rfl rfl rfl (rexec_idxS C rfl rfl rfl rfl rfl rfl (s.l.D[i.toNat]!) (by have := of_decide_eq_true h2; have := bne_iff_ne.1 h5; omega) h7 ?_)
    refine rvO C (.rp [.lit (.int .i64 (s.l.D[i.toNat]!.began))]) ?_
    refine rvO C (.pv (.lit (.int .i64 (s.l.D[i.toNat]!.began)))) ?_
    refine rvO C (.pv (.lit (.bool (decide ((over x) < (s.l.D[i.toNat]!.began)))))) ?_
    refine rvP C (.pv (.lit (.bool (decide ((over x) < (s.l.D[i.toNat]!.began)))))) ?_
    refine rvc_nil ?_
    refine Awp.cond (b := (decide ((over x) < (s.l.D[i.toNat]!.began)))) rfl (fun h8 => ?_) (fun h8 => ?_)
    ·
     replace hR := of_true h8 hR
     refine Awp.consP C ?_
     refine rvP C (.pv (.lit (.bool false))) ?_
     refine rvc_nil ?_
     refine Awp.ret ?_
     subst hR
     exact ⟨.inl rfl, rfl, rfl, trivial⟩
    ·
     replace hR := of_false h8 hR
     refine Awp.skip ?_
     refine Awp.regionP C ?_
     refine rvP C (.pv (.lit (.int .i64 (IntKind.i64.wrap ((i1 : Int) + 1))))) ?_
     refine rvP C (.pv (.lit (.int .i64 (IntKind.i64.wrap ((i1 : Int) + 1))))) ?_
     refine rvc_nil ?_
     refine ⟨h3, (), ?_, ?_⟩
     · exact hR
     · exact ⟨fun b => b, WeakerR.ofLI (I := [0]) (Ks := [0]) hI ⟨⟨rfl, rfl⟩, ⟨rfl, rfl⟩, ⟨rfl, rfl⟩, ⟨rfl, rfl⟩, ⟨rfl, rfl⟩, ⟨lit_cast (wrap_i64 (by omega) (by omega)), rfl⟩, trivial⟩ (okH_cons rfl rfl rfl rfl (okH_nil)) rfl rfl⟩
   ·
    replace hR := of_false h6 hR
    refine rvS ?_
    refine rvS ?_
    refine rvS ?_
    refine rvS ?_
    refine rvS ?_
    refine rvS ?_
    refine rvS ?_
    refine rvS ?_
    refine rvS ?_
    refine rvS ?_
    refine rvS ?_
    refine rvP C (.pv (.lit (.bool false))) ?_
    refine rvc_nil ?_
    refine Awp.condF (b := false) rfl rfl ?_
    refine Awp.skip ?_
    refine Awp.regionP C ?_
    refine rvP C (.pv (.lit (.int .i64 (IntKind.i64.wrap ((i1 : Int) + 1))))) ?_
    refine rvP C (.pv (.lit (.int .i64 (IntKind.i64.wrap ((i1 : Int) + 1))))) ?_
    refine rvc_nil ?_
    refine ⟨h3, (), ?_, ?_⟩
    · exact hR
    · exact ⟨fun b => b, WeakerR.ofLI (I := [0]) (Ks := [0]) hI ⟨⟨rfl, rfl⟩, ⟨rfl, rfl⟩, ⟨rfl, rfl⟩, ⟨rfl, rfl⟩, ⟨rfl, rfl⟩, ⟨lit_cast (wrap_i64 (by omega) (by omega)), rfl⟩, trivial⟩ (okH_cons rfl rfl rfl rfl (okH_nil)) rfl rfl⟩
  ·
   replace hR := of_false h5 hR
   refine rvS ?_
   refine rvS ?_
   refine rvS ?_
   refine rvS ?_
   refine rvP C (.pv (.lit (.bool false))) ?_
   refine rvP C (.pv (.lit (.bool false))) ?_
   refine rvS ?_
   refine rvS ?_
   refine rvS ?_
   refine rvS ?_
   refine rvS ?_
   refine rvS ?_
   refine rvS ?_
   refine rvS ?_
   refine rvS ?_
   refine rvS ?_
   refine rvS ?_
   refine rvP C (.pv (.lit (.bool false))) ?_
   refine rvc_nil ?_
   refine Awp.condF (b := false) rfl rfl ?_
   refine Awp.skip ?_
   refine Awp.regionP C ?_
   refine rvP C (.pv (.lit (.int .i64 (IntKind.i64.wrap ((i1 : Int) + 1))))) ?_
   refine rvP C (.pv (.lit (.int .i64 (IntKind.i64.wrap ((i1 : Int) + 1))))) ?_
   refine rvc_nil ?_
   refine ⟨h3, (), ?_, ?_⟩
   · exact hR
   · exact ⟨fun b => b, WeakerR.ofLI (I := [0]) (Ks := [0]) hI ⟨⟨rfl, rfl⟩, ⟨rfl, rfl⟩, ⟨rfl, rfl⟩, ⟨rfl, rfl⟩, ⟨rfl, rfl⟩, ⟨lit_cast (wrap_i64 (by omega) (by omega)), rfl⟩, trivial⟩ (okH_cons rfl rfl rfl rfl (okH_nil)) rfl rfl⟩
 ·
  have h3 : ¬ i1 < s.l.D.length := by have := of_decide_eq_false h2; omega
  rw [drop_end h3] at hR
  refine Awp.exit ?_
  refine Awp.consP C ?_
  refine rvP C (.pv (.lit (.bool true))) ?_
  refine rvc_nil ?_
  refine Awp.ret ?_
  subst hR
  exact ⟨.inl rfl, rfl, rfl, trivial⟩
def fitsL_l0 (l : (Sl Op)) : List Int → Nat → Int → ByteArray → Bool
  | [], _, done, _ => (allSM (Search.mk l [] (Sl.mk true [])) done)
  | x :: xs, i, done, value => (bif (decide (x < 0)) then false else (bif (decide (x ≥ (l.D.length : Int))) then false else (bif (mHas done x) then false else (bif (!(firstSM (Search.mk l [] (Sl.mk true [])) x done)) then false else (bif (!(l.D[x.toNat]!.write)) then (bif (!((l.D[x.toNat]!.value).toList == value.toList)) then false else (bif l.D[x.toNat]!.write then fitsL_l0 l xs (i + 1) (mWith done x) (l.D[x.toNat]!.value) else fitsL_l0 l xs (i + 1) (mWith done x) value)) else (bif l.D[x.toNat]!.write then fitsL_l0 l xs (i + 1) (mWith done x) (l.D[x.toNat]!.value) else fitsL_l0 l xs (i + 1) (mWith done x) value))))))
def fitsL (row : (Sl Int)) (l : (Sl Op)) : Bool :=
  (bif ((rightL l) != 0) then false else fitsL_l0 l row.D 0 0 ⟨#[]⟩)
theorem fitsL_calls (row : (Sl Int)) (l : (Sl Op)) (hl1 : l.D.length ≤ 9223372036854775807) (hl2 : row.D.length ≤ 9223372036854775807) : PCalls Try.prog 33 [sS (some row.nil) (eI .i64) row.D, sS (some l.nil) eOp l.D] (.pv (.lit (.bool (fitsL row l)))) := by
 generalize hR : fitsL row l = R
 refine PCalls.of_body tabOk Try.func33 rfl rfl rfl rfl rfl mixed fun E hP C hI => ?_
 refine Awp.consP C ?_
 refine rvP C (.pv (.lit (.bool false))) ?_
 refine rvc_nil ?_
 refine Awp.seq ?_
 refine Awp.consP C ?_
 refine rvP C (sS (some l.nil) eOp l.D) ?_
 refine rvc_un (rexec_call hP C rfl rfl rfl (rightL_calls l hl1) ?_)
 refine rvP C (.pv (.lit (.bool ((rightL l) != 0)))) ?_
 refine rvc_nil ?_
 refine Awp.cond (b := ((rightL l) != 0)) rfl (fun h1 => ?_) (fun h1 => ?_)
 ·
  replace hR := of_true h1 hR
  refine Awp.consP C ?_
  refine rvP C (.pv (.lit (.bool false))) ?_
  refine rvc_nil ?_
  refine Awp.ret ?_
  subst hR
  exact ⟨.inl rfl, rfl⟩
 ·
  replace hR := of_false h1 hR
  refine Awp.skip ?_
  refine Awp.consP C ?_
  refine rvP C (sS (some l.nil) eOp l.D) ?_
  refine rvP C (.agg [sS (some l.nil) eOp l.D, .pv (.lit (.map none)), sS (some true) (eI .i64) []]) ?_
  refine rvc_un (rexec_prim C (δ := { v := .ptr 15 0, new := [(15, .cells [sS (some l.nil) eOp l.D, .pv (.lit (.map none)), sS (some true) (eI .i64) []])] }) rfl rfl rfl rfl trivial rfl ?_)
  refine rvP C (.ptr 15 0) ?_
  refine rvc_nil ?_
  refine Awp.consP C ?_
  refine rvP C (.pv (.lit (.int .u64 0))) ?_
  refine rvc_nil ?_
  refine Awp.consP C ?_
  refine rvP C (.pv (.lit (.string ⟨#[]⟩))) ?_
  refine rvc_nil ?_
  refine Awp.seq ?_
  refine Awp.consP C ?_
  refine rvP C (sS (some row.nil) (eI .i64) row.D) ?_
  refine rvP C (.pv (.lit (.int .i64 (row.D.length : Int)))) ?_
  refine rvP C (.pv (.lit (.int .i64 0))) ?_
  refine rvc_nil ?_
  refine Awp.block ?_
  refine Awp.forR (σ := Int × ByteArray) (row.D.length) (fun i v => [(1, sS (some l.nil) eOp l.D), (5, .ptr 15 0), (6, .pv (.lit (.int .u64 v.1))), (7, .pv (.lit (.string v.2))), (16, sS (some row.nil) (eI .i64) row.D), (17, .pv (.lit (.int .i64 (row.D.length : Int)))), (18, .pv (.lit (.int .i64 (i : Int))))]) (fun i v => [(15, .cells [sS (some l.nil) eOp l.D, .pv (.lit (.map none)), sS (some true) (eI .i64) []])]) [15] (fun i v => fitsL_l0 l (row.D.drop i) i v.1 v.2 = R) (0, ⟨#[]⟩) ?_ ?_ (fun i v h2 hR => ?_)
  · exact hR
  · exact ⟨fun b => b, WeakerR.ofL (Ks := [15]) hI ⟨⟨rfl, rfl⟩, ⟨rfl, rfl⟩, ⟨rfl, rfl⟩, ⟨rfl, rfl⟩, ⟨rfl, rfl⟩, ⟨rfl, rfl⟩, ⟨rfl, rfl⟩, trivial⟩ (okH_cons rfl rfl rfl rfl (okH_nil)) rfl⟩
  obtain ⟨done, value⟩ := v
  refine Awp.consP C ?_
  refine rvP C (.pv (.lit (.bool (decide ((i : Int) < (row.D.length : Int)))))) ?_
  refine rvc_nil ?_
  refine Awp.seq ?_
  refine Awp.cond (b := (decide ((i : Int) < (row.D.length : Int)))) rfl (fun h3 => ?_) (fun h3 => ?_)
  ·
   have h4 : i < row.D.length := by have := of_decide_eq_true h3; omega
   obtain ⟨x, h5⟩ := getX h4
   rw [drop_at h5] at hR
   refine Awp.skip ?_
   refine Awp.seq ?_
   refine Awp.block ?_
   refine Awp.consP C ?_
   refine rvc_un (rexec_idxS C rfl rfl rfl rfl rfl rfl x (Int.natCast_nonneg _) h5 ?_)
   refine rvP C (.pv (.lit (.int .i64 x))) ?_
   refine rvP C (.pv (.lit (.int .i64 x))) ?_
   refine rvc_nil ?_
   refine Awp.seq ?_
   refine Awp.cons C (fun _ => .writer) (by kernel_rfl) ?_
   refine rvP C (.pv (.lit (.int .i64 x))) ?_
   refine rvP C (.pv (.lit (.bool (decide (x < 0))))) ?_
   refine rvP C (.pv (.lit (.bool (decide (x < 0))))) ?_
   refine rvc_case 24 (decide (x < 0)) rfl (fun h6 => ?_) (fun h6 => ?_)
   ·
    replace hR := of_true h6 hR
    refine rvS ?_
    refine rvS ?_
    refine rvS ?_
    refine rvS ?_
    refine rvP C (.pv (.lit (.bool true))) ?_
    refine rvP C (.pv (.lit (.bool true))) ?_
    refine rvS ?_
    refine rvS ?_
    refine rvS ?_
    refine rvP C (.pv (.lit (.bool true))) ?_
    refine rvP C (.pv (.lit (.bool true))) ?_
    refine rvS ?_
    refine rvS ?_
    refine rvS ?_
    refine rvS ?_
    refine rvS ?_
    refine rvP C (.pv (.lit (.bool true))) ?_
    refine rvP C (.pv (.lit (.bool true))) ?_
    refine rvS ?_
    refine rvS ?_
    refine rvS ?_
    refine rvS ?_
    refine rvS ?_
    refine rvS ?_
    refine rvS ?_
    refine rvc_shutU rfl rfl rfl ?_
    refine rvc_shutU rfl rfl rfl ?_
    refine rvc_shutU rfl rfl rfl ?_
    refine rvc_shutU rfl rfl rfl ?_
    refine rvc_shutU rfl rfl rfl ?_
    refine rvc_shutU rfl rfl rfl ?_
    refine rvc_shutU rfl rfl rfl ?_
    refine rvS ?_
    refine rvP C (.pv (.lit (.bool true))) ?_
    refine rvc_nil ?_
    refine Awp.condT (b := true) rfl rfl ?_
    refine Awp.consP C ?_
    refine rvP C (.pv (.lit (.bool false))) ?_
    refine rvc_nil ?_
    refine Awp.ret ?_
    subst hR
    exact ⟨.inl rfl, rfl⟩
   ·
    replace hR := of_false h6 hR
    refine rvO C (.pv (.lit (.int .i64 x))) ?_
    refine rvO C (sS (some l.nil) eOp l.D) ?_
    refine rvO C (.pv (.lit (.int .i64 (l.D.length : Int)))) ?_
    refine rvO C (.pv (.lit (.bool (decide (x ≥ (l.D.length : Int)))))) ?_
    refine rvP C (.pv (.lit (.bool (decide (x ≥ (l.D.length : Int)))))) ?_
    refine rvP C (.pv (.lit (.bool (decide (x ≥ (l.D.length : Int)))))) ?_
    refine rvc_case 30 (decide (x ≥ (l.D.length : Int))) rfl (fun h7 => ?_) (fun h7 => ?_)
    ·
     replace hR := of_true h7 hR
     refine rvS ?_
     refine rvS ?_
     refine rvS ?_
     refine rvP C (.pv (.lit (.bool true))) ?_
     refine rvP C (.pv (.lit (.bool true))) ?_
     refine rvS ?_
     refine rvS ?_
     refine rvS ?_
     refine rvS ?_
     refine rvS ?_
     refine rvP C (.pv (.lit (.bool true))) ?_
     refine rvP C (.pv (.lit (.bool true))) ?_
     refine rvS ?_
     refine rvS ?_
     refine rvS ?_
     refine rvS ?_
     refine rvS ?_
     refine rvS ?_
     refine rvS ?_
     refine rvc_shutU rfl rfl rfl ?_
     refine rvc_shutU rfl rfl rfl ?_
     refine rvc_shutU rfl rfl rfl ?_
     refine rvc_shutU rfl rfl rfl ?_
     refine rvc_shutU rfl rfl rfl ?_
     refine rvc_shutU rfl rfl rfl ?_
     refine rvc_shutU rfl rfl rfl ?_
     refine rvS ?_
     refine rvP C (.pv (.lit (.bool true))) ?_
     refine rvc_nil ?_
     refine Awp.condT (b := true) rfl rfl ?_
     refine Awp.consP C ?_
     refine rvP C (.pv (.lit (.bool false))) ?_
     refine rvc_nil ?_
     refine Awp.ret ?_
     subst hR
     exact ⟨.inl rfl, rfl⟩
    ·
     replace hR := of_false h7 hR
     refine rvO C (.pv (.lit (.int .u64 done))) ?_
     refine rvO C (.pv (.lit (.int .i64 x))) ?_
     refine rvc_open rfl rfl rfl (rexec_call hP C rfl rfl rfl (mHas_calls done x) ?_)
     refine rvP C (.pv (.lit (.bool (mHas done x)))) ?_
     refine rvP C (.pv (.lit (.bool (mHas done x)))) ?_
     refine rvc_case 35 (mHas done x) rfl (fun h8 => ?_) (fun h8 => ?_)
     ·
      replace hR := of_true h8 hR
      refine rvS ?_
      refine rvS ?_
      refine rvS ?_
      refine rvS ?_
      refine rvS ?_
      refine rvP C (.pv (.lit (.bool true))) ?_
      refine rvP C (.pv (.lit (.bool true))) ?_
      refine rvS ?_
      refine rvS ?_
      refine rvS ?_
      refine rvS ?_
      refine rvS ?_
      refine rvS ?_
      refine rvS ?_
      refine rvc_shutU rfl rfl rfl ?_
      refine rvc_shutU rfl rfl rfl ?_
      refine rvc_shutU rfl rfl rfl ?_
      refine rvc_shutU rfl rfl rfl ?_
      refine rvc_shutU rfl rfl rfl ?_
      refine rvc_shutU rfl rfl rfl ?_
      refine rvc_shutU rfl rfl rfl ?_
      refine rvS ?_
      refine rvP C (.pv (.lit (.bool true))) ?_
      refine rvc_nil ?_
      refine Awp.condT (b := true) rfl rfl ?_
      refine Awp.consP C ?_
      refine rvP C (.pv (.lit (.bool false))) ?_
      refine rvc_nil ?_
      refine Awp.ret ?_
      subst hR
      exact ⟨.inl rfl, rfl⟩
     ·
      replace hR := of_false h8 hR
      refine rvO C (.ptr 15 0) ?_
      refine rvO C (.pv (.lit (.int .i64 x))) ?_
      refine rvO C (.pv (.lit (.int .u64 done))) ?_
      refine rvc_open rfl rfl rfl (rexec_callObj hP C (fun b => bif b == 0 then 15 else b) [] rfl rfl rfl (firstSM_calls (Search.mk l [] (Sl.mk true [])) x done ⟨by have h_ := of_decide_eq_false (show decide (x < 0) = false by assumption); omega, by have h_ := of_decide_eq_false (show decide (x ≥ (l.D.length : Int)) = false by assumption); show _ < (l.D.length : Int); omega⟩ hl1) rfl rfl trivial (of_decide_eq_true rfl) rfl (of_decide_eq_true rfl) (of_decide_eq_true rfl) allB_nil allB_nil allB_nil ?_ rfl allB_nil)
      refine rvO C (.pv (.lit (.bool (!(firstSM (Search.mk l [] (Sl.mk true [])) x done))))) ?_
      refine rvP C (.pv (.lit (.bool (!(firstSM (Search.mk l [] (Sl.mk true [])) x done))))) ?_
      refine rvP C (.pv (.lit (.bool (!(firstSM (Search.mk l [] (Sl.mk true [])) x done))))) ?_
      refine rvc_case 42 (!(firstSM (Search.mk l [] (Sl.mk true [])) x done)) rfl (fun h9 => ?_) (fun h9 => ?_)
      ·
       replace hR := of_true h9 hR
       refine rvS ?_
       refine rvS ?_
       refine rvS ?_
       refine rvS ?_
       refine rvS ?_
       refine rvS ?_
       refine rvS ?_
       refine rvc_shutU rfl rfl rfl ?_
       refine rvc_shutU rfl rfl rfl ?_
       refine rvc_shutU rfl rfl rfl ?_
       refine rvc_shutU rfl rfl rfl ?_
       refine rvc_shutU rfl rfl rfl ?_
       refine rvc_shutU rfl rfl rfl ?_
       refine rvc_shutU rfl rfl rfl ?_
       refine rvS ?_
       refine rvP C (.pv (.lit (.bool true))) ?_
       refine rvc_nil ?_
       refine Awp.condT (b := true) rfl rfl ?_
       refine Awp.consP C ?_
       refine rvP C (.pv (.lit (.bool false))) ?_
       refine rvc_nil ?_
       refine Awp.ret ?_
       subst hR
       exact ⟨.inl rfl, rfl⟩
      ·
       replace hR := of_false h9 hR
       refine rvO C (sS (some l.nil) eOp l.D) ?_
       refine rvO C (.pv (.lit (.int .i64 x))) ?_
       have h10 : l.D[x.toNat]? = some l.D[x.toNat]! := getE (by have := eq_of_bne_false h1; have := of_decide_eq_true h3; have := of_decide_eq_false h6; have := of_decide_eq_false h7; omega)
       refine rvc_open rfl rfl rfl (rexec_idxS C rfl rfl rfl rfl rfl rfl (l.D[x.toNat]!) (by have := eq_of_bne_false h1; have := of_decide_eq_true h3; have := of_decide_eq_false h6; have := of_decide_eq_false h7; omega) h10 ?_)
       refine rvO C (.rp [.lit (.bool (l.D[x.toNat]!.write))]) ?_
       refine rvO C (.pv (.lit (.bool (l.D[x.toNat]!.write)))) ?_
       refine rvO C (.pv (.lit (.bool (!(l.D[x.toNat]!.write))))) ?_
       refine rvO C (.pv (.lit (.bool (!(l.D[x.toNat]!.write))))) ?_
       refine rvc_case 49 (!(l.D[x.toNat]!.write)) rfl (fun h11 => ?_) (fun h11 => ?_)
       ·
        replace hR := of_true h11 hR
        refine rvO C (sS (some l.nil) eOp l.D) ?_
        refine rvO C (.pv (.lit (.int .i64 x))) ?_
        refine rvc_open rfl rfl rfl (rexec_idxS C rfl rfl rfl rfl rfl rfl (l.D[x.toNat]!) (by have := eq_of_bne_false h1; have := of_decide_eq_true h3; have := of_decide_eq_false h6; have := of_decide_eq_false h7; omega) h10 ?_)
        refine rvO C (.rp [.lit (.string (l.D[x.toNat]!.value))]) ?_
        refine rvO C (.pv (.lit (.string (l.D[x.toNat]!.value)))) ?_
        refine rvO C (.pv (.lit (.string value))) ?_
        refine rvO C (.pv (.lit (.bool (!((l.D[x.toNat]!.value).toList == value.toList))))) ?_
        refine rvO C (.pv (.lit (.bool (!((l.D[x.toNat]!.value).toList == value.toList))))) ?_
        refine rvP C (.pv (.lit (.bool (!((l.D[x.toNat]!.value).toList == value.toList))))) ?_
        refine rvc_nil ?_
        refine Awp.cond (b := (!((l.D[x.toNat]!.value).toList == value.toList))) rfl (fun h12 => ?_) (fun h12 => ?_)
        ·
         replace hR := of_true h12 hR
         refine Awp.consP C ?_
         refine rvP C (.pv (.lit (.bool false))) ?_
         refine rvc_nil ?_
         refine Awp.ret ?_
         subst hR
         exact ⟨.inl rfl, rfl⟩
        ·
         replace hR := of_false h12 hR
         refine Awp.skip ?_
         refine Awp.seq ?_
         refine Awp.consP C ?_
         refine rvP C (sS (some l.nil) eOp l.D) ?_
         refine rvP C (.pv (.lit (.int .i64 x))) ?_
         refine rvc_un (rexec_idxS C rfl rfl rfl rfl rfl rfl (l.D[x.toNat]!) (by have := eq_of_bne_false h1; have := of_decide_eq_true h3; have := of_decide_eq_false h6; have := of_decide_eq_false h7; omega) h10 ?_)
         refine rvP C (.rp [.lit (.bool (l.D[x.toNat]!.write))]) ?_
         refine rvP C (.pv (.lit (.bool (l.D[x.toNat]!.write)))) ?_
         refine rvc_nil ?_
         refine Awp.cond (b := l.D[x.toNat]!.write) rfl (fun h13 => ?_) (fun h13 => ?_)
         ·
          replace hR := of_true h13 hR
          refine Awp.regionP C ?_
          refine rvP C (sS (some l.nil) eOp l.D) ?_
          refine rvP C (.pv (.lit (.int .i64 x))) ?_
          refine rvc_un (rexec_idxS C rfl rfl rfl rfl rfl rfl (l.D[x.toNat]!) (by have := eq_of_bne_false h1; have := of_decide_eq_true h3; have := of_decide_eq_false h6; have := of_decide_eq_false h7; omega) h10 ?_)
          refine rvP C (.rp [.lit (.string (l.D[x.toNat]!.value))]) ?_
          refine rvP C (.pv (.lit (.string (l.D[x.toNat]!.value)))) ?_
          refine rvP C (.pv (.lit (.string (l.D[x.toNat]!.value)))) ?_
          refine rvc_nil ?_
          refine Awp.regionP C ?_
          refine rvP C (.pv (.lit (.int .u64 done))) ?_
          refine rvP C (.pv (.lit (.int .i64 x))) ?_
          refine rvc_un (rexec_call hP C rfl rfl rfl (mWith_calls done x) ?_)
          refine rvP C (.pv (.lit (.int .u64 (mWith done x)))) ?_
          refine rvc_nil ?_
          refine Awp.regionP C ?_
          refine rvP C (.pv (.lit (.int .i64 (IntKind.i64.wrap ((i : Int) + 1))))) ?_
          refine rvP C (.pv (.lit (.int .i64 (IntKind.i64.wrap ((i : Int) + 1))))) ?_
          refine rvc_nil ?_
          refine ⟨h4, ((mWith done x), l.D[x.toNat]!.value), ?_, ?_⟩
          · exact hR
          · exact ⟨fun b => b, WeakerR.ofL (Ks := [15]) hI ⟨⟨rfl, rfl⟩, ⟨rfl, rfl⟩, ⟨rfl, rfl⟩, ⟨rfl, rfl⟩, ⟨rfl, rfl⟩, ⟨rfl, rfl⟩, ⟨lit_cast (wrap_i64 (by omega) (by omega)), rfl⟩, trivial⟩ (okH_cons rfl rfl rfl rfl (okH_nil)) rfl⟩
         ·
          replace hR := of_false h13 hR
          refine Awp.skip ?_
          refine Awp.regionP C ?_
          refine rvP C (.pv (.lit (.int .u64 done))) ?_
          refine rvP C (.pv (.lit (.int .i64 x))) ?_
          refine rvc_un (rexec_call hP C rfl rfl rfl (mWith_calls done x) ?_)
          refine rvP C (.pv (.lit (.int .u64 (mWith done x)))) ?_
          refine rvc_nil ?_
          refine Awp.regionP C ?_
          refine rvP C (.pv (.lit (.int .i64 (IntKind.i64.wrap ((i : Int) + 1))))) ?_
          refine rvP C (.pv (.lit (.int .i64 (IntKind.i64.wrap ((i : Int) + 1))))) ?_
          refine rvc_nil ?_
          refine ⟨h4, ((mWith done x), value), ?_, ?_⟩
          · exact hR
          · exact ⟨fun b => b, WeakerR.ofL (Ks := [15]) hI ⟨⟨rfl, rfl⟩, ⟨rfl, rfl⟩, ⟨rfl, rfl⟩, ⟨rfl, rfl⟩, ⟨rfl, rfl⟩, ⟨rfl, rfl⟩, ⟨lit_cast (wrap_i64 (by omega) (by omega)), rfl⟩, trivial⟩ (okH_cons rfl rfl rfl rfl (okH_nil)) rfl⟩
       ·
        replace hR := of_false h11 hR
        refine rvS ?_
        refine rvS ?_
        refine rvS ?_
        refine rvS ?_
        refine rvS ?_
        refine rvS ?_
        refine rvS ?_
        refine rvO C (.pv (.lit (.bool false))) ?_
        refine rvP C (.pv (.lit (.bool false))) ?_
        refine rvc_nil ?_
        refine Awp.condF (b := false) rfl rfl ?_
        refine Awp.skip ?_
        refine Awp.seq ?_
        refine Awp.consP C ?_
        refine rvP C (sS (some l.nil) eOp l.D) ?_
        refine rvP C (.pv (.lit (.int .i64 x))) ?_
        refine rvc_un (rexec_idxS C rfl rfl rfl rfl rfl rfl (l.D[x.toNat]!) (by have := eq_of_bne_false h1; have := of_decide_eq_true h3; have := of_decide_eq_false h6; have := of_decide_eq_false h7; omega) h10 ?_)
        refine rvP C (.rp [.lit (.bool (l.D[x.toNat]!.write))]) ?_
        refine rvP C (.pv (.lit (.bool (l.D[x.toNat]!.write)))) ?_
        refine rvc_nil ?_
        refine Awp.cond (b := l.D[x.toNat]!.write) rfl (fun h14 => ?_) (fun h14 => ?_)
        ·
         replace hR := of_true h14 hR
         refine Awp.regionP C ?_
         refine rvP C (sS (some l.nil) eOp l.D) ?_
         refine rvP C (.pv (.lit (.int .i64 x))) ?_
         refine rvc_un (rexec_idxS C rfl rfl rfl rfl rfl rfl (l.D[x.toNat]!) (by have := eq_of_bne_false h1; have := of_decide_eq_true h3; have := of_decide_eq_false h6; have := of_decide_eq_false h7; omega) h10 ?_)
         refine rvP C (.rp [.lit (.string (l.D[x.toNat]!.value))]) ?_
         refine rvP C (.pv (.lit (.string (l.D[x.toNat]!.value)))) ?_
         refine rvP C (.pv (.lit (.string (l.D[x.toNat]!.value)))) ?_
         refine rvc_nil ?_
         refine Awp.regionP C ?_
         refine rvP C (.pv (.lit (.int .u64 done))) ?_
         refine rvP C (.pv (.lit (.int .i64 x))) ?_
         refine rvc_un (rexec_call hP C rfl rfl rfl (mWith_calls done x) ?_)
         refine rvP C (.pv (.lit (.int .u64 (mWith done x)))) ?_
         refine rvc_nil ?_
         refine Awp.regionP C ?_
         refine rvP C (.pv (.lit (.int .i64 (IntKind.i64.wrap ((i : Int) + 1))))) ?_
         refine rvP C (.pv (.lit (.int .i64 (IntKind.i64.wrap ((i : Int) + 1))))) ?_
         refine rvc_nil ?_
         refine ⟨h4, ((mWith done x), l.D[x.toNat]!.value), ?_, ?_⟩
         · exact hR
         · exact ⟨fun b => b, WeakerR.ofL (Ks := [15]) hI ⟨⟨rfl, rfl⟩, ⟨rfl, rfl⟩, ⟨rfl, rfl⟩, ⟨rfl, rfl⟩, ⟨rfl, rfl⟩, ⟨rfl, rfl⟩, ⟨lit_cast (wrap_i64 (by omega) (by omega)), rfl⟩, trivial⟩ (okH_cons rfl rfl rfl rfl (okH_nil)) rfl⟩
        ·
         replace hR := of_false h14 hR
         refine Awp.skip ?_
         refine Awp.regionP C ?_
         refine rvP C (.pv (.lit (.int .u64 done))) ?_
         refine rvP C (.pv (.lit (.int .i64 x))) ?_
         refine rvc_un (rexec_call hP C rfl rfl rfl (mWith_calls done x) ?_)
         refine rvP C (.pv (.lit (.int .u64 (mWith done x)))) ?_
         refine rvc_nil ?_
         refine Awp.regionP C ?_
         refine rvP C (.pv (.lit (.int .i64 (IntKind.i64.wrap ((i : Int) + 1))))) ?_
         refine rvP C (.pv (.lit (.int .i64 (IntKind.i64.wrap ((i : Int) + 1))))) ?_
         refine rvc_nil ?_
         refine ⟨h4, ((mWith done x), value), ?_, ?_⟩
         · exact hR
         · exact ⟨fun b => b, WeakerR.ofL (Ks := [15]) hI ⟨⟨rfl, rfl⟩, ⟨rfl, rfl⟩, ⟨rfl, rfl⟩, ⟨rfl, rfl⟩, ⟨rfl, rfl⟩, ⟨rfl, rfl⟩, ⟨lit_cast (wrap_i64 (by omega) (by omega)), rfl⟩, trivial⟩ (okH_cons rfl rfl rfl rfl (okH_nil)) rfl⟩
  ·
   have h4 : ¬ i < row.D.length := by have := of_decide_eq_false h3; omega
   rw [drop_end h4] at hR
   refine Awp.exit ?_
   refine Awp.cons C (fun _ => .writer) (by kernel_rfl) ?_
   refine rvP C (.ptr 15 0) ?_
   refine rvP C (.pv (.lit (.int .u64 done))) ?_
   refine rvc_un (rexec_callObj hP C (fun b => bif b == 0 then 15 else b) [] rfl rfl rfl (allSM_calls (Search.mk l [] (Sl.mk true [])) done hl1) rfl rfl trivial (of_decide_eq_true rfl) rfl (of_decide_eq_true rfl) (of_decide_eq_true rfl) allB_nil allB_nil allB_nil ?_ rfl allB_nil)
   refine rvP C (.pv (.lit (.bool (allSM (Search.mk l [] (Sl.mk true [])) done)))) ?_
   refine rvc_nil ?_
   refine Awp.ret ?_
   subst hR
   exact ⟨.inl rfl, rfl⟩
def rFits_l2 (vc1 : (List Bool)) : List Op → Nat → Bool
  | [], _ => true
  | x2 :: x2s, i2 => (bif vc1[i2]! then (bif (decide (x2.ended > 0)) then false else rFits_l2 vc1 x2s (i2 + 1) ) else rFits_l2 vc1 x2s (i2 + 1) )
def rFits_l1 (l : (Sl Op)) : List Int → Nat → ByteArray → (List Bool) → Bool
  | [], _, _, vc1 => rFits_l2 vc1 l.D 0 
  | x1 :: x1s, i1, value, vc1 => (bif (decide (x1 < 0)) then false else (bif (decide (x1 ≥ (l.D.length : Int))) then false else (bif (!(vc1[x1.toNat]!)) then false else (bif (!(nextW l (Sl.mk false vc1) x1)) then false else (bif l.D[x1.toNat]!.write then rFits_l1 l x1s (i1 + 1) (l.D[x1.toNat]!.value) (vc1.set x1.toNat false) else (bif (!((l.D[x1.toNat]!.value).toList == value.toList)) then false else rFits_l1 l x1s (i1 + 1) value (vc1.set x1.toNat false)))))))
def rFits_l0 (row : (Sl Int)) (l : (Sl Op)) : List Op → Nat → (List Bool) → Bool
  | [], _, vc => rFits_l1 l row.D 0 ⟨#[]⟩ vc
  | _ :: xs, i, vc => rFits_l0 row l xs (i + 1) (vc.set i true)
def rFits (row : (Sl Int)) (l : (Sl Op)) : Bool :=
  (bif ((refRight l) != 0) then false else rFits_l0 row l l.D 0 (List.replicate l.D.length false))
theorem rFits_calls (row : (Sl Int)) (l : (Sl Op)) (hl1 : l.D.length ≤ 9223372036854775807) (hl2 : row.D.length ≤ 9223372036854775807) : PCalls Try.prog 32 [sS (some row.nil) (eI .i64) row.D, sS (some l.nil) eOp l.D] (.pv (.lit (.bool (rFits row l)))) := by
 generalize hR : rFits row l = R
 refine PCalls.of_body tabOk Try.func32 rfl rfl rfl rfl rfl mixed fun E hP C hI => ?_
 refine Awp.consP C ?_
 refine rvP C (.pv (.lit (.bool false))) ?_
 refine rvc_nil ?_
 refine Awp.seq ?_
 refine Awp.consP C ?_
 refine rvP C (sS (some l.nil) eOp l.D) ?_
 refine rvc_un (rexec_call hP C rfl rfl rfl (refRight_calls l hl1) ?_)
 refine rvP C (.pv (.lit (.bool ((refRight l) != 0)))) ?_
 refine rvc_nil ?_
 refine Awp.cond (b := ((refRight l) != 0)) rfl (fun h1 => ?_) (fun h1 => ?_)
 ·
  replace hR := of_true h1 hR
  refine Awp.consP C ?_
  refine rvP C (.pv (.lit (.bool false))) ?_
  refine rvc_nil ?_
  refine Awp.ret ?_
  subst hR
  exact ⟨.inl rfl, rfl⟩
 ·
  replace hR := of_false h1 hR
  refine Awp.skip ?_
  refine Awp.consP C ?_
  refine rvP C (sS (some l.nil) eOp l.D) ?_
  refine rvP C (.pv (.lit (.int .i64 (l.D.length : Int)))) ?_
  refine rvc_un (rexec_makeSlice C eB false l.D.length rfl rfl rfl rfl rfl rfl ⟨by omega, by have := ref_len (by assumption); omega, by have := ref_len (by assumption); show (1 : Int) * (l.D.length : Int) ≤ 140737488355328; omega⟩ rfl rfl rfl rfl ?_)
  refine rvP C (.sl 17 0 l.D.length 1 true) ?_
  refine rvc_nil ?_
  refine Awp.seq ?_
  refine Awp.consP C ?_
  refine rvP C (sS (some l.nil) eOp l.D) ?_
  refine rvP C (.pv (.lit (.int .i64 (l.D.length : Int)))) ?_
  refine rvP C (.pv (.lit (.int .i64 0))) ?_
  refine rvc_nil ?_
  refine Awp.block ?_
  refine Awp.forR (σ := ((List Bool))) (l.D.length) (fun i v => [(0, sS (some row.nil) (eI .i64) row.D), (1, sS (some l.nil) eOp l.D), (5, .sl 17 0 l.D.length 1 true), (19, .pv (.lit (.int .i64 (l.D.length : Int)))), (20, .pv (.lit (.int .i64 (i : Int))))]) (fun i v => [(17, .cells (encC eB v))]) [17] (fun i v => (rFits_l0 row l (l.D.drop i) i v = R) ∧ (v.length = l.D.length)) (List.replicate l.D.length false) ?_ ?_ (fun i vc h2 hR => ?_)
  · exact ⟨hR, (by first | omega | (simp <;> omega))⟩
  · exact ⟨fun b => b, WeakerR.ofL (Ks := [17]) hI ⟨⟨rfl, rfl⟩, ⟨rfl, rfl⟩, ⟨rfl, rfl⟩, ⟨rfl, rfl⟩, ⟨rfl, rfl⟩, trivial⟩ (okH_list rfl rfl rfl (okH_nil)) rfl⟩
  obtain ⟨hR, hi_vc⟩ := hR
  replace hi_vc : vc.length = l.D.length := hi_vc
  refine Awp.consP C ?_
  refine rvP C (.pv (.lit (.bool (decide ((i : Int) < (l.D.length : Int)))))) ?_
  refine rvc_nil ?_
  refine Awp.seq ?_
  refine Awp.cond (b := (decide ((i : Int) < (l.D.length : Int)))) rfl (fun h3 => ?_) (fun h3 => ?_)
  ·
   have h4 : i < l.D.length := by have := of_decide_eq_true h3; omega
   obtain ⟨x, h5⟩ := getX h4
   rw [drop_at h5] at hR
   refine Awp.skip ?_
   refine Awp.seq ?_
   refine Awp.block ?_
   refine Awp.consP C ?_
   refine rvP C (.pv (.lit (.int .i64 (i : Int)))) ?_
   refine rvP C (.pv (.lit (.int .i64 (i : Int)))) ?_
   refine rvc_nil ?_
   refine Awp.regionP C ?_
   refine rvP C (.sl 17 0 l.D.length 1 true) ?_
   refine rvP C (.pv (.lit (.int .i64 (i : Int)))) ?_
   have h6 : vc[i]? = some vc[i]! := getE (by have := eq_of_bne_false h1; have := of_decide_eq_true h3; omega)
   refine rvc_un (rexec_prim C (δ := { v := .ptr 17 (0 + i * 1) }) rfl rfl rfl rfl ⟨(by have := eq_of_bne_false h1; have := of_decide_eq_true h3; omega), getlt h6 (by first | rfl | omega | (have := eq_of_bne_false h1; have := of_decide_eq_true h3; omega)) (by first | rfl | omega | simp)⟩ rfl ?_)
   refine rvc_un (rexec_storeE C (e := eB) i 0 (vc[i]!) true rfl rfl rfl rfl h6 (by simp [eB]) rfl rfl rfl (of_decide_eq_true rfl) rfl ?_)
   refine rvc_nil ?_
   refine Awp.regionP C ?_
   refine rvP C (.pv (.lit (.int .i64 (IntKind.i64.wrap ((i : Int) + 1))))) ?_
   refine rvP C (.pv (.lit (.int .i64 (IntKind.i64.wrap ((i : Int) + 1))))) ?_
   refine rvc_nil ?_
   refine ⟨h4, (vc.set i true), ?_, ?_⟩
   · exact ⟨hR, (by first | omega | (simp <;> omega))⟩
   · exact ⟨fun b => b, WeakerR.ofL (Ks := [17]) hI ⟨⟨rfl, rfl⟩, ⟨rfl, rfl⟩, ⟨rfl, rfl⟩, ⟨rfl, rfl⟩, ⟨lit_cast (wrap_i64 (by omega) (by omega)), rfl⟩, trivial⟩ (okH_list rfl rfl rfl (okH_nil)) rfl⟩
  ·
   have h4 : ¬ i < l.D.length := by have := of_decide_eq_false h3; omega
   rw [drop_end h4] at hR
   refine Awp.exit ?_
   refine Awp.consP C ?_
   refine rvP C (.pv (.lit (.string ⟨#[]⟩))) ?_
   refine rvc_nil ?_
   refine Awp.seq ?_
   refine Awp.consP C ?_
   refine rvP C (sS (some row.nil) (eI .i64) row.D) ?_
   refine rvP C (.pv (.lit (.int .i64 (row.D.length : Int)))) ?_
   refine rvP C (.pv (.lit (.int .i64 0))) ?_
   refine rvc_nil ?_
   refine Awp.block ?_
   refine Awp.forR (σ := ByteArray × ((List Bool))) (row.D.length) (fun i1 v => [(1, sS (some l.nil) eOp l.D), (5, .sl 17 0 l.D.length 1 true), (7, .pv (.lit (.string v.1))), (27, sS (some row.nil) (eI .i64) row.D), (28, .pv (.lit (.int .i64 (row.D.length : Int)))), (29, .pv (.lit (.int .i64 (i1 : Int))))]) (fun i1 v => [(17, .cells (encC eB v.2))]) [17] (fun i1 v => (rFits_l1 l (row.D.drop i1) i1 v.1 v.2 = R) ∧ (v.2.length = l.D.length)) (⟨#[]⟩, vc) ?_ ?_ (fun i1 v h7 hR => ?_)
   · exact ⟨hR, (by first | omega | (simp <;> omega))⟩
   · exact ⟨fun b => b, WeakerR.ofL (Ks := [17]) hI ⟨⟨rfl, rfl⟩, ⟨rfl, rfl⟩, ⟨rfl, rfl⟩, ⟨rfl, rfl⟩, ⟨rfl, rfl⟩, ⟨rfl, rfl⟩, trivial⟩ (okH_list rfl rfl rfl (okH_nil)) rfl⟩
   obtain ⟨value, vc1⟩ := v
   obtain ⟨hR, hi_vc1⟩ := hR
   replace hi_vc1 : vc1.length = l.D.length := hi_vc1
   refine Awp.consP C ?_
   refine rvP C (.pv (.lit (.bool (decide ((i1 : Int) < (row.D.length : Int)))))) ?_
   refine rvc_nil ?_
   refine Awp.seq ?_
   refine Awp.cond (b := (decide ((i1 : Int) < (row.D.length : Int)))) rfl (fun h8 => ?_) (fun h8 => ?_)
   ·
    have h9 : i1 < row.D.length := by have := of_decide_eq_true h8; omega
    obtain ⟨x1, h10⟩ := getX h9
    rw [drop_at h10] at hR
    refine Awp.skip ?_
    refine Awp.seq ?_
    refine Awp.block ?_
    refine Awp.consP C ?_
    refine rvc_un (rexec_idxS C rfl rfl rfl rfl rfl rfl x1 (Int.natCast_nonneg _) h10 ?_)
    refine rvP C (.pv (.lit (.int .i64 x1))) ?_
    refine rvP C (.pv (.lit (.int .i64 x1))) ?_
    refine rvc_nil ?_
    refine Awp.seq ?_
    refine Awp.cons C (fun _ => .writer) (by kernel_rfl) ?_
    refine rvP C (.pv (.lit (.int .i64 x1))) ?_
    refine rvP C (.pv (.lit (.bool (decide (x1 < 0))))) ?_
    refine rvP C (.pv (.lit (.bool (decide (x1 < 0))))) ?_
    refine rvc_case 35 (decide (x1 < 0)) rfl (fun h11 => ?_) (fun h11 => ?_)
    ·
     replace hR := of_true h11 hR
     refine rvS ?_
     refine rvS ?_
     refine rvS ?_
     refine rvS ?_
     refine rvP C (.pv (.lit (.bool true))) ?_
     refine rvP C (.pv (.lit (.bool true))) ?_
     refine rvS ?_
     refine rvS ?_
     refine rvS ?_
     refine rvS ?_
     refine rvS ?_
     refine rvP C (.pv (.lit (.bool true))) ?_
     refine rvP C (.pv (.lit (.bool true))) ?_
     refine rvS ?_
     refine rvS ?_
     refine rvS ?_
     refine rvS ?_
     refine rvS ?_
     refine rvP C (.pv (.lit (.bool true))) ?_
     refine rvc_nil ?_
     refine Awp.condT (b := true) rfl rfl ?_
     refine Awp.consP C ?_
     refine rvP C (.pv (.lit (.bool false))) ?_
     refine rvc_nil ?_
     refine Awp.ret ?_
     subst hR
     exact ⟨.inl rfl, rfl⟩
    ·
     replace hR := of_false h11 hR
     refine rvO C (.pv (.lit (.int .i64 x1))) ?_
     refine rvO C (sS (some l.nil) eOp l.D) ?_
     refine rvO C (.pv (.lit (.int .i64 (l.D.length : Int)))) ?_
     refine rvO C (.pv (.lit (.bool (decide (x1 ≥ (l.D.length : Int)))))) ?_
     refine rvP C (.pv (.lit (.bool (decide (x1 ≥ (l.D.length : Int)))))) ?_
     refine rvP C (.pv (.lit (.bool (decide (x1 ≥ (l.D.length : Int)))))) ?_
     refine rvc_case 41 (decide (x1 ≥ (l.D.length : Int))) rfl (fun h12 => ?_) (fun h12 => ?_)
     ·
      replace hR := of_true h12 hR
      refine rvS ?_
      refine rvS ?_
      refine rvS ?_
      refine rvS ?_
      refine rvS ?_
      refine rvP C (.pv (.lit (.bool true))) ?_
      refine rvP C (.pv (.lit (.bool true))) ?_
      refine rvS ?_
      refine rvS ?_
      refine rvS ?_
      refine rvS ?_
      refine rvS ?_
      refine rvP C (.pv (.lit (.bool true))) ?_
      refine rvc_nil ?_
      refine Awp.condT (b := true) rfl rfl ?_
      refine Awp.consP C ?_
      refine rvP C (.pv (.lit (.bool false))) ?_
      refine rvc_nil ?_
      refine Awp.ret ?_
      subst hR
      exact ⟨.inl rfl, rfl⟩
     ·
      replace hR := of_false h12 hR
      refine rvO C (.sl 17 0 l.D.length 1 true) ?_
      refine rvO C (.pv (.lit (.int .i64 x1))) ?_
      have h13 : vc1[x1.toNat]? = some vc1[x1.toNat]! := getE (by have := eq_of_bne_false h1; have := of_decide_eq_false h3; have := of_decide_eq_true h8; have := of_decide_eq_false h11; have := of_decide_eq_false h12; omega)
      refine rvc_open rfl rfl rfl (rexec_prim C (δ := { v := .ptr 17 (0 + x1.toNat * 1) }) rfl rfl rfl rfl ⟨(by have := eq_of_bne_false h1; have := of_decide_eq_false h3; have := of_decide_eq_true h8; have := of_decide_eq_false h11; have := of_decide_eq_false h12; omega), getlt h13 (by first | rfl | omega | (have := eq_of_bne_false h1; have := of_decide_eq_false h3; have := of_decide_eq_true h8; have := of_decide_eq_false h11; have := of_decide_eq_false h12; omega)) (by first | rfl | omega | simp)⟩ rfl ?_)
      refine rvc_open rfl rfl rfl (rexec_loadE C (e := eB) x1.toNat 0 (vc1[x1.toNat]!) (.pv (.lit (.bool (vc1[x1.toNat]!)))) rfl rfl rfl rfl h13 (by simp [eB]) (by decide) (by decide) rfl ?_)
      refine rvO C (.pv (.lit (.bool (!(vc1[x1.toNat]!))))) ?_
      refine rvP C (.pv (.lit (.bool (!(vc1[x1.toNat]!))))) ?_
      refine rvP C (.pv (.lit (.bool (!(vc1[x1.toNat]!))))) ?_
      refine rvc_case 48 (!(vc1[x1.toNat]!)) rfl (fun h14 => ?_) (fun h14 => ?_)
      ·
       replace hR := of_true h14 hR
       refine rvS ?_
       refine rvS ?_
       refine rvS ?_
       refine rvS ?_
       refine rvS ?_
       refine rvP C (.pv (.lit (.bool true))) ?_
       refine rvc_nil ?_
       refine Awp.condT (b := true) rfl rfl ?_
       refine Awp.consP C ?_
       refine rvP C (.pv (.lit (.bool false))) ?_
       refine rvc_nil ?_
       refine Awp.ret ?_
       subst hR
       exact ⟨.inl rfl, rfl⟩
      ·
       replace hR := of_false h14 hR
       refine rvO C (sS (some l.nil) eOp l.D) ?_
       refine rvO C (.sl 17 0 l.D.length 1 true) ?_
       refine rvO C (.pv (.lit (.int .i64 x1))) ?_
       refine rvc_open rfl rfl rfl (rexec_callM hP C (b := 17) rfl rfl rfl (nextW_calls l (Sl.mk false vc1) x1 l.D.length true (by first | rfl | omega | (simp <;> omega)) (by have := eq_of_bne_false h1; have := of_decide_eq_false h3; have := of_decide_eq_true h8; have := of_decide_eq_false h11; have := of_decide_eq_false h12; omega) (by have := eq_of_bne_false h1; have := of_decide_eq_false h3; have := of_decide_eq_true h8; have := of_decide_eq_false h11; have := of_decide_eq_false h12; omega) hl1) rfl rfl ?_)
       refine rvO C (.pv (.lit (.bool (!(nextW l (Sl.mk false vc1) x1))))) ?_
       refine rvP C (.pv (.lit (.bool (!(nextW l (Sl.mk false vc1) x1))))) ?_
       refine rvc_nil ?_
       refine Awp.cond (b := (!(nextW l (Sl.mk false vc1) x1))) rfl (fun h15 => ?_) (fun h15 => ?_)
       ·
        replace hR := of_true h15 hR
        refine Awp.consP C ?_
        refine rvP C (.pv (.lit (.bool false))) ?_
        refine rvc_nil ?_
        refine Awp.ret ?_
        subst hR
        exact ⟨.inl rfl, rfl⟩
       ·
        replace hR := of_false h15 hR
        refine Awp.skip ?_
        refine Awp.seq ?_
        refine Awp.consP C ?_
        refine rvP C (sS (some l.nil) eOp l.D) ?_
        refine rvP C (.pv (.lit (.int .i64 x1))) ?_
        have h16 : l.D[x1.toNat]? = some l.D[x1.toNat]! := getE (by have := eq_of_bne_false h1; have := of_decide_eq_false h3; have := of_decide_eq_true h8; have := of_decide_eq_false h11; have := of_decide_eq_false h12; omega)
        refine rvc_un (rexec_idxS C rfl rfl rfl rfl rfl rfl (l.D[x1.toNat]!) (by have := eq_of_bne_false h1; have := of_decide_eq_false h3; have := of_decide_eq_true h8; have := of_decide_eq_false h11; have := of_decide_eq_false h12; omega) h16 ?_)
        refine rvP C (.rp [.lit (.bool (l.D[x1.toNat]!.write))]) ?_
        refine rvP C (.pv (.lit (.bool (l.D[x1.toNat]!.write)))) ?_
        refine rvc_nil ?_
        refine Awp.cond (b := l.D[x1.toNat]!.write) rfl (fun h17 => ?_) (fun h17 => ?_)
        ·
         replace hR := of_true h17 hR
         refine Awp.regionP C ?_
         refine rvP C (sS (some l.nil) eOp l.D) ?_
         refine rvP C (.pv (.lit (.int .i64 x1))) ?_
         refine rvc_un (rexec_idxS C rfl rfl rfl rfl rfl rfl (l.D[x1.toNat]!) (by have := eq_of_bne_false h1; have := of_decide_eq_false h3; have := of_decide_eq_true h8; have := of_decide_eq_false h11; have := of_decide_eq_false h12; omega) h16 ?_)
         refine rvP C (.rp [.lit (.string (l.D[x1.toNat]!.value))]) ?_
         refine rvP C (.pv (.lit (.string (l.D[x1.toNat]!.value)))) ?_
         refine rvP C (.pv (.lit (.string (l.D[x1.toNat]!.value)))) ?_
         refine rvc_nil ?_
         refine Awp.regionP C ?_
         refine rvP C (.sl 17 0 l.D.length 1 true) ?_
         refine rvP C (.pv (.lit (.int .i64 x1))) ?_
         refine rvc_un (rexec_prim C (δ := { v := .ptr 17 (0 + x1.toNat * 1) }) rfl rfl rfl rfl ⟨(by have := eq_of_bne_false h1; have := of_decide_eq_false h3; have := of_decide_eq_true h8; have := of_decide_eq_false h11; have := of_decide_eq_false h12; omega), getlt h13 (by first | rfl | omega | (have := eq_of_bne_false h1; have := of_decide_eq_false h3; have := of_decide_eq_true h8; have := of_decide_eq_false h11; have := of_decide_eq_false h12; omega)) (by first | rfl | omega | simp)⟩ rfl ?_)
         refine rvc_un (rexec_storeE C (e := eB) x1.toNat 0 (vc1[x1.toNat]!) false rfl rfl rfl rfl h13 (by simp [eB]) rfl rfl rfl (of_decide_eq_true rfl) rfl ?_)
         refine rvc_nil ?_
         refine Awp.regionP C ?_
         refine rvP C (.pv (.lit (.int .i64 (IntKind.i64.wrap ((i1 : Int) + 1))))) ?_
         refine rvP C (.pv (.lit (.int .i64 (IntKind.i64.wrap ((i1 : Int) + 1))))) ?_
         refine rvc_nil ?_
         refine ⟨h9, (l.D[x1.toNat]!.value, (vc1.set x1.toNat false)), ?_, ?_⟩
         · exact ⟨hR, (by first | omega | (simp <;> omega))⟩
         · exact ⟨fun b => b, WeakerR.ofL (Ks := [17]) hI ⟨⟨rfl, rfl⟩, ⟨rfl, rfl⟩, ⟨rfl, rfl⟩, ⟨rfl, rfl⟩, ⟨rfl, rfl⟩, ⟨lit_cast (wrap_i64 (by omega) (by omega)), rfl⟩, trivial⟩ (okH_list rfl rfl rfl (okH_nil)) rfl⟩
        ·
         replace hR := of_false h17 hR
         refine Awp.consP C ?_
         refine rvP C (sS (some l.nil) eOp l.D) ?_
         refine rvP C (.pv (.lit (.int .i64 x1))) ?_
         refine rvc_un (rexec_idxS C rfl rfl rfl rfl rfl rfl (l.D[x1.toNat]!) (by have := eq_of_bne_false h1; have := of_decide_eq_false h3; have := of_decide_eq_true h8; have := of_decide_eq_false h11; have := of_decide_eq_false h12; omega) h16 ?_)
         refine rvP C (.rp [.lit (.string (l.D[x1.toNat]!.value))]) ?_
         refine rvP C (.pv (.lit (.string (l.D[x1.toNat]!.value)))) ?_
         refine rvP C (.pv (.lit (.string value))) ?_
         refine rvP C (.pv (.lit (.bool (!((l.D[x1.toNat]!.value).toList == value.toList))))) ?_
         refine rvc_nil ?_
         refine Awp.cond (b := (!((l.D[x1.toNat]!.value).toList == value.toList))) rfl (fun h18 => ?_) (fun h18 => ?_)
         ·
          replace hR := of_true h18 hR
          refine Awp.consP C ?_
          refine rvP C (.pv (.lit (.bool false))) ?_
          refine rvc_nil ?_
          refine Awp.ret ?_
          subst hR
          exact ⟨.inl rfl, rfl⟩
         ·
          replace hR := of_false h18 hR
          refine Awp.skip ?_
          refine Awp.regionP C ?_
          refine rvP C (.sl 17 0 l.D.length 1 true) ?_
          refine rvP C (.pv (.lit (.int .i64 x1))) ?_
          refine rvc_un (rexec_prim C (δ := { v := .ptr 17 (0 + x1.toNat * 1) }) rfl rfl rfl rfl ⟨(by have := eq_of_bne_false h1; have := of_decide_eq_false h3; have := of_decide_eq_true h8; have := of_decide_eq_false h11; have := of_decide_eq_false h12; omega), getlt h13 (by first | rfl | omega | (have := eq_of_bne_false h1; have := of_decide_eq_false h3; have := of_decide_eq_true h8; have := of_decide_eq_false h11; have := of_decide_eq_false h12; omega)) (by first | rfl | omega | simp)⟩ rfl ?_)
          refine rvc_un (rexec_storeE C (e := eB) x1.toNat 0 (vc1[x1.toNat]!) false rfl rfl rfl rfl h13 (by simp [eB]) rfl rfl rfl (of_decide_eq_true rfl) rfl ?_)
          refine rvc_nil ?_
          refine Awp.regionP C ?_
          refine rvP C (.pv (.lit (.int .i64 (IntKind.i64.wrap ((i1 : Int) + 1))))) ?_
          refine rvP C (.pv (.lit (.int .i64 (IntKind.i64.wrap ((i1 : Int) + 1))))) ?_
          refine rvc_nil ?_
          refine ⟨h9, (value, (vc1.set x1.toNat false)), ?_, ?_⟩
          · exact ⟨hR, (by first | omega | (simp <;> omega))⟩
          · exact ⟨fun b => b, WeakerR.ofL (Ks := [17]) hI ⟨⟨rfl, rfl⟩, ⟨rfl, rfl⟩, ⟨rfl, rfl⟩, ⟨rfl, rfl⟩, ⟨rfl, rfl⟩, ⟨lit_cast (wrap_i64 (by omega) (by omega)), rfl⟩, trivial⟩ (okH_list rfl rfl rfl (okH_nil)) rfl⟩
   ·
    have h9 : ¬ i1 < row.D.length := by have := of_decide_eq_false h8; omega
    rw [drop_end h9] at hR
    refine Awp.exit ?_
    refine Awp.seq ?_
    refine Awp.consP C ?_
    refine rvP C (sS (some l.nil) eOp l.D) ?_
    refine rvP C (.pv (.lit (.int .i64 (l.D.length : Int)))) ?_
    refine rvP C (.pv (.lit (.int .i64 0))) ?_
    refine rvc_nil ?_
    refine Awp.block ?_
    refine Awp.forR (σ := Unit) (l.D.length) (fun i2 _v => [(5, .sl 17 0 l.D.length 1 true), (76, sS (some l.nil) eOp l.D), (77, .pv (.lit (.int .i64 (l.D.length : Int)))), (78, .pv (.lit (.int .i64 (i2 : Int))))]) (fun i2 _v => [(17, .cells (encC eB vc1))]) [17] (fun i2 _v => rFits_l2 vc1 (l.D.drop i2) i2  = R) () ?_ ?_ (fun i2 _v h19 hR => ?_)
    · exact hR
    · exact ⟨fun b => b, WeakerR.ofL (Ks := [17]) hI ⟨⟨rfl, rfl⟩, ⟨rfl, rfl⟩, ⟨rfl, rfl⟩, ⟨rfl, rfl⟩, trivial⟩ (okH_list rfl rfl rfl (okH_nil)) rfl⟩
    refine Awp.consP C ?_
    refine rvP C (.pv (.lit (.bool (decide ((i2 : Int) < (l.D.length : Int)))))) ?_
    refine rvc_nil ?_
    refine Awp.seq ?_
    refine Awp.cond (b := (decide ((i2 : Int) < (l.D.length : Int)))) rfl (fun h20 => ?_) (fun h20 => ?_)
    ·
     have h21 : i2 < l.D.length := by have := of_decide_eq_true h20; omega
     obtain ⟨x2, h22⟩ := getX h21
     rw [drop_at h22] at hR
     refine Awp.skip ?_
     refine Awp.seq ?_
     refine Awp.block ?_
     refine Awp.consP C ?_
     refine rvP C (.pv (.lit (.int .i64 (i2 : Int)))) ?_
     refine rvc_un (rexec_idxS C rfl rfl rfl rfl rfl rfl x2 (Int.natCast_nonneg _) h22 ?_)
     refine rvP C (.agg [.pv (.lit (.bool x2.write)), .pv (.lit (.string x2.value)), .pv (.lit (.int .i64 x2.ver)), .pv (.lit (.int .i64 x2.began)), .pv (.lit (.int .i64 x2.ended))]) ?_
     refine rvc_un (rexec_prim C (δ := { v := .ptr 11 0, new := [(11, .cells [.pv (.lit (.bool false)), .pv (.lit (.string ⟨#[]⟩)), .pv (.lit (.int .i64 0)), .pv (.lit (.int .i64 0)), .pv (.lit (.int .i64 0))])] }) rfl rfl rfl rfl trivial rfl ?_)
     refine rvP C (.pv (.lit (.int .i64 (i2 : Int)))) ?_
     refine rvc_un (rexec_prim C (δ := { v := .undef, wr := [(11, some (.cells [.pv (.lit (.bool x2.write)), .pv (.lit (.string x2.value)), .pv (.lit (.int .i64 x2.ver)), .pv (.lit (.int .i64 x2.began)), .pv (.lit (.int .i64 x2.ended))]))] }) rfl rfl rfl rfl trivial rfl ?_)
     refine rvc_nil ?_
     refine Awp.consP C ?_
     refine rvP C (.sl 17 0 l.D.length 1 true) ?_
     refine rvP C (.pv (.lit (.int .i64 (i2 : Int)))) ?_
     have h23 : vc1[i2]? = some vc1[i2]! := getE (by have := eq_of_bne_false h1; have := of_decide_eq_false h3; have := of_decide_eq_false h8; have := of_decide_eq_true h20; omega)
     refine rvc_un (rexec_prim C (δ := { v := .ptr 17 (0 + i2 * 1) }) rfl rfl rfl rfl ⟨(by have := eq_of_bne_false h1; have := of_decide_eq_false h3; have := of_decide_eq_false h8; have := of_decide_eq_true h20; omega), getlt h23 (by first | rfl | omega | (have := eq_of_bne_false h1; have := of_decide_eq_false h3; have := of_decide_eq_false h8; have := of_decide_eq_true h20; omega)) (by first | rfl | omega | simp)⟩ rfl ?_)
     refine rvc_un (rexec_loadE C (e := eB) i2 0 (vc1[i2]!) (.pv (.lit (.bool (vc1[i2]!)))) rfl rfl rfl rfl h23 (by simp [eB]) (by decide) (by decide) rfl ?_)
     refine rvP C (.pv (.lit (.bool (vc1[i2]!)))) ?_
     refine rvc_case 87 (vc1[i2]!) rfl (fun h24 => ?_) (fun h24 => ?_)
     ·
      replace hR := of_true h24 hR
      refine rvO C (.ptr 11 4) ?_
      refine rvO C (.pv (.lit (.int .i64 x2.ended))) ?_
      refine rvO C (.pv (.lit (.bool (decide (x2.ended > 0))))) ?_
      refine rvP C (.pv (.lit (.bool (decide (x2.ended > 0))))) ?_
      refine rvc_nil ?_
      refine Awp.cond (b := (decide (x2.ended > 0))) rfl (fun h25 => ?_) (fun h25 => ?_)
      ·
       replace hR := of_true h25 hR
       refine Awp.consP C ?_
       refine rvP C (.pv (.lit (.bool false))) ?_
       refine rvc_nil ?_
       refine Awp.ret ?_
       subst hR
       exact ⟨.inl rfl, rfl⟩
      ·
       replace hR := of_false h25 hR
       refine Awp.skip ?_
       refine Awp.regionP C ?_
       refine rvP C (.pv (.lit (.int .i64 (IntKind.i64.wrap ((i2 : Int) + 1))))) ?_
       refine rvP C (.pv (.lit (.int .i64 (IntKind.i64.wrap ((i2 : Int) + 1))))) ?_
       refine rvc_nil ?_
       refine ⟨h21, (), ?_, ?_⟩
       · exact hR
       · exact ⟨fun b => b, WeakerR.ofL (Ks := [17]) hI ⟨⟨rfl, rfl⟩, ⟨rfl, rfl⟩, ⟨rfl, rfl⟩, ⟨lit_cast (wrap_i64 (by omega) (by omega)), rfl⟩, trivial⟩ (okH_list rfl rfl rfl (okH_nil)) rfl⟩
     ·
      replace hR := of_false h24 hR
      refine rvS ?_
      refine rvS ?_
      refine rvS ?_
      refine rvP C (.pv (.lit (.bool false))) ?_
      refine rvc_nil ?_
      refine Awp.condF (b := false) rfl rfl ?_
      refine Awp.skip ?_
      refine Awp.regionP C ?_
      refine rvP C (.pv (.lit (.int .i64 (IntKind.i64.wrap ((i2 : Int) + 1))))) ?_
      refine rvP C (.pv (.lit (.int .i64 (IntKind.i64.wrap ((i2 : Int) + 1))))) ?_
      refine rvc_nil ?_
      refine ⟨h21, (), ?_, ?_⟩
      · exact hR
      · exact ⟨fun b => b, WeakerR.ofL (Ks := [17]) hI ⟨⟨rfl, rfl⟩, ⟨rfl, rfl⟩, ⟨rfl, rfl⟩, ⟨lit_cast (wrap_i64 (by omega) (by omega)), rfl⟩, trivial⟩ (okH_list rfl rfl rfl (okH_nil)) rfl⟩
    ·
     have h21 : ¬ i2 < l.D.length := by have := of_decide_eq_false h20; omega
     rw [drop_end h21] at hR
     refine Awp.exit ?_
     refine Awp.consP C ?_
     refine rvP C (.pv (.lit (.bool true))) ?_
     refine rvc_nil ?_
     refine Awp.ret ?_
     subst hR
     exact ⟨.inl rfl, rfl⟩
end Go.Proofs.Ytaoagcdljmpllaa
/- The examples. No conditions. -/
namespace Go.Proofs.Ytaoagcdljmpllaa
open Go.Am
def awakeL  : Bool :=
  (bif (order (Sl.mk false [(Op.mk true ⟨#[97]⟩ 1 1 2), (Op.mk false ⟨#[97]⟩ 1 3 4)])).2.1 then (bif (((order (Sl.mk false [(Op.mk true ⟨#[97]⟩ 1 1 2), (Op.mk false ⟨#[97]⟩ 1 3 4)])).2.2) == 0) then (bif (eqInts ((order (Sl.mk false [(Op.mk true ⟨#[97]⟩ 1 1 2), (Op.mk false ⟨#[97]⟩ 1 3 4)])).1) (Sl.mk false [0, 1])) then (bif (!((order (Sl.mk false [(Op.mk true ⟨#[97]⟩ 1 1 2), (Op.mk false ⟨#[]⟩ 0 3 4)])).2.1)) then (bif (((order (Sl.mk false [(Op.mk true ⟨#[97]⟩ 1 1 2), (Op.mk false ⟨#[]⟩ 0 3 4)])).2.2) == 0) then (bif (!((order (Sl.mk false [(Op.mk true ⟨#[97]⟩ 1 1 0), (Op.mk false ⟨#[97]⟩ 0 3 4), (Op.mk false ⟨#[]⟩ 0 5 6)])).2.1)) then (bif (((order (Sl.mk false [(Op.mk true ⟨#[97]⟩ 1 1 0), (Op.mk false ⟨#[97]⟩ 0 3 4), (Op.mk false ⟨#[]⟩ 0 5 6)])).2.2) == 0) then ((rightL (Sl.mk false [(Op.mk false ⟨#[]⟩ 0 0 0)])) == 70) else false) else false) else false) else false) else false) else false) else false)
theorem awakeL_calls   : PCalls Try.prog 27 [] (.pv (.lit (.bool (awakeL )))) := by
 generalize hR : awakeL  = R
 refine PCalls.of_body tabOk Try.func27 rfl rfl rfl rfl rfl mixed fun E hP C hI => ?_
 refine Awp.consP C ?_
 refine rvP C (.pv (.lit (.bool false))) ?_
 refine rvc_nil ?_
 refine Awp.consP C ?_
 refine rvP C (.agg [.pv (.lit (.bool true)), .pv (.lit (.string ⟨#[97]⟩)), .pv (.lit (.int .i64 1)), .pv (.lit (.int .i64 1)), .pv (.lit (.int .i64 2))]) ?_
 refine rvc_un (rexec_prim C (δ := { v := .ptr 1 0, new := [(1, .cells [.pv (.lit (.bool false)), .pv (.lit (.string ⟨#[]⟩)), .pv (.lit (.int .i64 0)), .pv (.lit (.int .i64 0)), .pv (.lit (.int .i64 0))])] }) rfl rfl rfl rfl trivial rfl ?_)
 refine rvc_un (rexec_prim C (δ := { v := .undef, wr := [(1, some (.cells [.pv (.lit (.bool true)), .pv (.lit (.string ⟨#[97]⟩)), .pv (.lit (.int .i64 1)), .pv (.lit (.int .i64 1)), .pv (.lit (.int .i64 2))]))] }) rfl rfl rfl rfl trivial rfl ?_)
 refine rvc_nil ?_
 refine Awp.consP C ?_
 refine rvP C (.agg [.pv (.lit (.bool true)), .pv (.lit (.string ⟨#[97]⟩)), .pv (.lit (.int .i64 1)), .pv (.lit (.int .i64 1)), .pv (.lit (.int .i64 2))]) ?_
 refine rvP C (.agg [.pv (.lit (.bool false)), .pv (.lit (.string ⟨#[97]⟩)), .pv (.lit (.int .i64 1)), .pv (.lit (.int .i64 3)), .pv (.lit (.int .i64 4))]) ?_
 refine rvc_un (rexec_buildSliceF C eOp [(Op.mk true ⟨#[97]⟩ 1 1 2), (Op.mk false ⟨#[97]⟩ 1 3 4)] rfl rfl rfl rfl rfl rfl rfl (by decide) rfl ?_)
 refine rvc_un (rexec_call hP C rfl rfl rfl (order_calls (Sl.mk false [(Op.mk true ⟨#[97]⟩ 1 1 2), (Op.mk false ⟨#[97]⟩ 1 3 4)]) (of_decide_eq_true (by kernel_rfl))) ?_)
 refine rvP C (.tup [sS (some (order (Sl.mk false [(Op.mk true ⟨#[97]⟩ 1 1 2), (Op.mk false ⟨#[97]⟩ 1 3 4)])).1.nil) (eI .i64) ((order (Sl.mk false [(Op.mk true ⟨#[97]⟩ 1 1 2), (Op.mk false ⟨#[97]⟩ 1 3 4)])).1.D), .pv (.lit (.bool ((order (Sl.mk false [(Op.mk true ⟨#[97]⟩ 1 1 2), (Op.mk false ⟨#[97]⟩ 1 3 4)])).2.1))), .pv (.lit (.int .i64 ((order (Sl.mk false [(Op.mk true ⟨#[97]⟩ 1 1 2), (Op.mk false ⟨#[97]⟩ 1 3 4)])).2.2)))]) ?_
 refine rvP C (sS (some (order (Sl.mk false [(Op.mk true ⟨#[97]⟩ 1 1 2), (Op.mk false ⟨#[97]⟩ 1 3 4)])).1.nil) (eI .i64) ((order (Sl.mk false [(Op.mk true ⟨#[97]⟩ 1 1 2), (Op.mk false ⟨#[97]⟩ 1 3 4)])).1.D)) ?_
 refine rvP C (.pv (.lit (.bool ((order (Sl.mk false [(Op.mk true ⟨#[97]⟩ 1 1 2), (Op.mk false ⟨#[97]⟩ 1 3 4)])).2.1)))) ?_
 refine rvP C (.pv (.lit (.int .i64 ((order (Sl.mk false [(Op.mk true ⟨#[97]⟩ 1 1 2), (Op.mk false ⟨#[97]⟩ 1 3 4)])).2.2)))) ?_
 refine rvP C (sS (some (order (Sl.mk false [(Op.mk true ⟨#[97]⟩ 1 1 2), (Op.mk false ⟨#[97]⟩ 1 3 4)])).1.nil) (eI .i64) ((order (Sl.mk false [(Op.mk true ⟨#[97]⟩ 1 1 2), (Op.mk false ⟨#[97]⟩ 1 3 4)])).1.D)) ?_
 refine rvP C (.pv (.lit (.bool ((order (Sl.mk false [(Op.mk true ⟨#[97]⟩ 1 1 2), (Op.mk false ⟨#[97]⟩ 1 3 4)])).2.1)))) ?_
 refine rvP C (.pv (.lit (.int .i64 ((order (Sl.mk false [(Op.mk true ⟨#[97]⟩ 1 1 2), (Op.mk false ⟨#[97]⟩ 1 3 4)])).2.2)))) ?_
 refine rvc_nil ?_
 refine Awp.consP C ?_
 refine rvP C (.agg [.pv (.lit (.bool true)), .pv (.lit (.string ⟨#[97]⟩)), .pv (.lit (.int .i64 1)), .pv (.lit (.int .i64 1)), .pv (.lit (.int .i64 2))]) ?_
 refine rvP C (.agg [.pv (.lit (.bool false)), .pv (.lit (.string ⟨#[]⟩)), .pv (.lit (.int .i64 0)), .pv (.lit (.int .i64 3)), .pv (.lit (.int .i64 4))]) ?_
 refine rvc_un (rexec_buildSliceF C eOp [(Op.mk true ⟨#[97]⟩ 1 1 2), (Op.mk false ⟨#[]⟩ 0 3 4)] rfl rfl rfl rfl rfl rfl rfl (by decide) rfl ?_)
 refine rvc_un (rexec_call hP C rfl rfl rfl (order_calls (Sl.mk false [(Op.mk true ⟨#[97]⟩ 1 1 2), (Op.mk false ⟨#[]⟩ 0 3 4)]) (of_decide_eq_true (by kernel_rfl))) ?_)
 refine rvP C (.tup [sS (some (order (Sl.mk false [(Op.mk true ⟨#[97]⟩ 1 1 2), (Op.mk false ⟨#[]⟩ 0 3 4)])).1.nil) (eI .i64) ((order (Sl.mk false [(Op.mk true ⟨#[97]⟩ 1 1 2), (Op.mk false ⟨#[]⟩ 0 3 4)])).1.D), .pv (.lit (.bool ((order (Sl.mk false [(Op.mk true ⟨#[97]⟩ 1 1 2), (Op.mk false ⟨#[]⟩ 0 3 4)])).2.1))), .pv (.lit (.int .i64 ((order (Sl.mk false [(Op.mk true ⟨#[97]⟩ 1 1 2), (Op.mk false ⟨#[]⟩ 0 3 4)])).2.2)))]) ?_
 refine rvP C (sS (some (order (Sl.mk false [(Op.mk true ⟨#[97]⟩ 1 1 2), (Op.mk false ⟨#[]⟩ 0 3 4)])).1.nil) (eI .i64) ((order (Sl.mk false [(Op.mk true ⟨#[97]⟩ 1 1 2), (Op.mk false ⟨#[]⟩ 0 3 4)])).1.D)) ?_
 refine rvP C (.pv (.lit (.bool ((order (Sl.mk false [(Op.mk true ⟨#[97]⟩ 1 1 2), (Op.mk false ⟨#[]⟩ 0 3 4)])).2.1)))) ?_
 refine rvP C (.pv (.lit (.int .i64 ((order (Sl.mk false [(Op.mk true ⟨#[97]⟩ 1 1 2), (Op.mk false ⟨#[]⟩ 0 3 4)])).2.2)))) ?_
 refine rvP C (sS (some (order (Sl.mk false [(Op.mk true ⟨#[97]⟩ 1 1 2), (Op.mk false ⟨#[]⟩ 0 3 4)])).1.nil) (eI .i64) ((order (Sl.mk false [(Op.mk true ⟨#[97]⟩ 1 1 2), (Op.mk false ⟨#[]⟩ 0 3 4)])).1.D)) ?_
 refine rvP C (.pv (.lit (.bool ((order (Sl.mk false [(Op.mk true ⟨#[97]⟩ 1 1 2), (Op.mk false ⟨#[]⟩ 0 3 4)])).2.1)))) ?_
 refine rvP C (.pv (.lit (.int .i64 ((order (Sl.mk false [(Op.mk true ⟨#[97]⟩ 1 1 2), (Op.mk false ⟨#[]⟩ 0 3 4)])).2.2)))) ?_
 refine rvc_nil ?_
 refine Awp.consP C ?_
 refine rvP C (.ptr 1 4) ?_
 refine rvc_un (rexec_prim C (δ := { v := .undef, wr := [(1, some (.cells [.pv (.lit (.bool true)), .pv (.lit (.string ⟨#[97]⟩)), .pv (.lit (.int .i64 1)), .pv (.lit (.int .i64 1)), .pv (.lit (.int .i64 0))]))] }) rfl rfl rfl rfl trivial rfl ?_)
 refine rvc_nil ?_
 refine Awp.consP C ?_
 refine rvP C (.agg [.pv (.lit (.bool true)), .pv (.lit (.string ⟨#[97]⟩)), .pv (.lit (.int .i64 1)), .pv (.lit (.int .i64 1)), .pv (.lit (.int .i64 0))]) ?_
 refine rvP C (.agg [.pv (.lit (.bool false)), .pv (.lit (.string ⟨#[97]⟩)), .pv (.lit (.int .i64 0)), .pv (.lit (.int .i64 3)), .pv (.lit (.int .i64 4))]) ?_
 refine rvP C (.agg [.pv (.lit (.bool false)), .pv (.lit (.string ⟨#[]⟩)), .pv (.lit (.int .i64 0)), .pv (.lit (.int .i64 5)), .pv (.lit (.int .i64 6))]) ?_
 refine rvc_un (rexec_buildSliceF C eOp [(Op.mk true ⟨#[97]⟩ 1 1 0), (Op.mk false ⟨#[97]⟩ 0 3 4), (Op.mk false ⟨#[]⟩ 0 5 6)] rfl rfl rfl rfl rfl rfl rfl (by decide) rfl ?_)
 refine rvc_un (rexec_call hP C rfl rfl rfl (order_calls (Sl.mk false [(Op.mk true ⟨#[97]⟩ 1 1 0), (Op.mk false ⟨#[97]⟩ 0 3 4), (Op.mk false ⟨#[]⟩ 0 5 6)]) (of_decide_eq_true (by kernel_rfl))) ?_)
 refine rvP C (.tup [sS (some (order (Sl.mk false [(Op.mk true ⟨#[97]⟩ 1 1 0), (Op.mk false ⟨#[97]⟩ 0 3 4), (Op.mk false ⟨#[]⟩ 0 5 6)])).1.nil) (eI .i64) ((order (Sl.mk false [(Op.mk true ⟨#[97]⟩ 1 1 0), (Op.mk false ⟨#[97]⟩ 0 3 4), (Op.mk false ⟨#[]⟩ 0 5 6)])).1.D), .pv (.lit (.bool ((order (Sl.mk false [(Op.mk true ⟨#[97]⟩ 1 1 0), (Op.mk false ⟨#[97]⟩ 0 3 4), (Op.mk false ⟨#[]⟩ 0 5 6)])).2.1))), .pv (.lit (.int .i64 ((order (Sl.mk false [(Op.mk true ⟨#[97]⟩ 1 1 0), (Op.mk false ⟨#[97]⟩ 0 3 4), (Op.mk false ⟨#[]⟩ 0 5 6)])).2.2)))]) ?_
 refine rvP C (sS (some (order (Sl.mk false [(Op.mk true ⟨#[97]⟩ 1 1 0), (Op.mk false ⟨#[97]⟩ 0 3 4), (Op.mk false ⟨#[]⟩ 0 5 6)])).1.nil) (eI .i64) ((order (Sl.mk false [(Op.mk true ⟨#[97]⟩ 1 1 0), (Op.mk false ⟨#[97]⟩ 0 3 4), (Op.mk false ⟨#[]⟩ 0 5 6)])).1.D)) ?_
 refine rvP C (.pv (.lit (.bool ((order (Sl.mk false [(Op.mk true ⟨#[97]⟩ 1 1 0), (Op.mk false ⟨#[97]⟩ 0 3 4), (Op.mk false ⟨#[]⟩ 0 5 6)])).2.1)))) ?_
 refine rvP C (.pv (.lit (.int .i64 ((order (Sl.mk false [(Op.mk true ⟨#[97]⟩ 1 1 0), (Op.mk false ⟨#[97]⟩ 0 3 4), (Op.mk false ⟨#[]⟩ 0 5 6)])).2.2)))) ?_
 refine rvP C (sS (some (order (Sl.mk false [(Op.mk true ⟨#[97]⟩ 1 1 0), (Op.mk false ⟨#[97]⟩ 0 3 4), (Op.mk false ⟨#[]⟩ 0 5 6)])).1.nil) (eI .i64) ((order (Sl.mk false [(Op.mk true ⟨#[97]⟩ 1 1 0), (Op.mk false ⟨#[97]⟩ 0 3 4), (Op.mk false ⟨#[]⟩ 0 5 6)])).1.D)) ?_
 refine rvP C (.pv (.lit (.bool ((order (Sl.mk false [(Op.mk true ⟨#[97]⟩ 1 1 0), (Op.mk false ⟨#[97]⟩ 0 3 4), (Op.mk false ⟨#[]⟩ 0 5 6)])).2.1)))) ?_
 refine rvP C (.pv (.lit (.int .i64 ((order (Sl.mk false [(Op.mk true ⟨#[97]⟩ 1 1 0), (Op.mk false ⟨#[97]⟩ 0 3 4), (Op.mk false ⟨#[]⟩ 0 5 6)])).2.2)))) ?_
 refine rvc_nil ?_
 refine Awp.consP C ?_
 refine rvP C (.pv (.lit (.bool ((order (Sl.mk false [(Op.mk true ⟨#[97]⟩ 1 1 2), (Op.mk false ⟨#[97]⟩ 1 3 4)])).2.1)))) ?_
 refine rvP C (.pv (.lit (.bool ((order (Sl.mk false [(Op.mk true ⟨#[97]⟩ 1 1 2), (Op.mk false ⟨#[97]⟩ 1 3 4)])).2.1)))) ?_
 refine rvc_case 39 ((order (Sl.mk false [(Op.mk true ⟨#[97]⟩ 1 1 2), (Op.mk false ⟨#[97]⟩ 1 3 4)])).2.1) rfl (fun h1 => ?_) (fun h1 => ?_)
 ·
  replace hR := of_true h1 hR
  refine rvO C (.pv (.lit (.int .i64 ((order (Sl.mk false [(Op.mk true ⟨#[97]⟩ 1 1 2), (Op.mk false ⟨#[97]⟩ 1 3 4)])).2.2)))) ?_
  refine rvO C (.pv (.lit (.bool (((order (Sl.mk false [(Op.mk true ⟨#[97]⟩ 1 1 2), (Op.mk false ⟨#[97]⟩ 1 3 4)])).2.2) == 0)))) ?_
  refine rvP C (.pv (.lit (.bool (((order (Sl.mk false [(Op.mk true ⟨#[97]⟩ 1 1 2), (Op.mk false ⟨#[97]⟩ 1 3 4)])).2.2) == 0)))) ?_
  refine rvP C (.pv (.lit (.bool (((order (Sl.mk false [(Op.mk true ⟨#[97]⟩ 1 1 2), (Op.mk false ⟨#[97]⟩ 1 3 4)])).2.2) == 0)))) ?_
  refine rvc_case 43 (((order (Sl.mk false [(Op.mk true ⟨#[97]⟩ 1 1 2), (Op.mk false ⟨#[97]⟩ 1 3 4)])).2.2) == 0) rfl (fun h2 => ?_) (fun h2 => ?_)
  ·
   replace hR := of_true h2 hR
   refine rvO C (sS (some (order (Sl.mk false [(Op.mk true ⟨#[97]⟩ 1 1 2), (Op.mk false ⟨#[97]⟩ 1 3 4)])).1.nil) (eI .i64) ((order (Sl.mk false [(Op.mk true ⟨#[97]⟩ 1 1 2), (Op.mk false ⟨#[97]⟩ 1 3 4)])).1.D)) ?_
   refine rvc_open rfl rfl rfl (rexec_buildSliceF C (eI .i64) [0, 1] rfl rfl rfl rfl rfl rfl rfl (by decide) rfl ?_)
   refine rvc_open rfl rfl rfl (rexec_call hP C rfl rfl rfl (eqInts_calls ((order (Sl.mk false [(Op.mk true ⟨#[97]⟩ 1 1 2), (Op.mk false ⟨#[97]⟩ 1 3 4)])).1) (Sl.mk false [0, 1]) (of_decide_eq_true (by kernel_rfl))) ?_)
   refine rvP C (.pv (.lit (.bool (eqInts ((order (Sl.mk false [(Op.mk true ⟨#[97]⟩ 1 1 2), (Op.mk false ⟨#[97]⟩ 1 3 4)])).1) (Sl.mk false [0, 1]))))) ?_
   refine rvP C (.pv (.lit (.bool (eqInts ((order (Sl.mk false [(Op.mk true ⟨#[97]⟩ 1 1 2), (Op.mk false ⟨#[97]⟩ 1 3 4)])).1) (Sl.mk false [0, 1]))))) ?_
   refine rvc_case 48 (eqInts ((order (Sl.mk false [(Op.mk true ⟨#[97]⟩ 1 1 2), (Op.mk false ⟨#[97]⟩ 1 3 4)])).1) (Sl.mk false [0, 1])) rfl (fun h3 => ?_) (fun h3 => ?_)
   ·
    replace hR := of_true h3 hR
    refine rvO C (.pv (.lit (.bool ((order (Sl.mk false [(Op.mk true ⟨#[97]⟩ 1 1 2), (Op.mk false ⟨#[]⟩ 0 3 4)])).2.1)))) ?_
    refine rvO C (.pv (.lit (.bool (!((order (Sl.mk false [(Op.mk true ⟨#[97]⟩ 1 1 2), (Op.mk false ⟨#[]⟩ 0 3 4)])).2.1))))) ?_
    refine rvP C (.pv (.lit (.bool (!((order (Sl.mk false [(Op.mk true ⟨#[97]⟩ 1 1 2), (Op.mk false ⟨#[]⟩ 0 3 4)])).2.1))))) ?_
    refine rvP C (.pv (.lit (.bool (!((order (Sl.mk false [(Op.mk true ⟨#[97]⟩ 1 1 2), (Op.mk false ⟨#[]⟩ 0 3 4)])).2.1))))) ?_
    refine rvc_case 52 (!((order (Sl.mk false [(Op.mk true ⟨#[97]⟩ 1 1 2), (Op.mk false ⟨#[]⟩ 0 3 4)])).2.1)) rfl (fun h4 => ?_) (fun h4 => ?_)
    ·
     replace hR := of_true h4 hR
     refine rvO C (.pv (.lit (.int .i64 ((order (Sl.mk false [(Op.mk true ⟨#[97]⟩ 1 1 2), (Op.mk false ⟨#[]⟩ 0 3 4)])).2.2)))) ?_
     refine rvO C (.pv (.lit (.bool (((order (Sl.mk false [(Op.mk true ⟨#[97]⟩ 1 1 2), (Op.mk false ⟨#[]⟩ 0 3 4)])).2.2) == 0)))) ?_
     refine rvP C (.pv (.lit (.bool (((order (Sl.mk false [(Op.mk true ⟨#[97]⟩ 1 1 2), (Op.mk false ⟨#[]⟩ 0 3 4)])).2.2) == 0)))) ?_
     refine rvP C (.pv (.lit (.bool (((order (Sl.mk false [(Op.mk true ⟨#[97]⟩ 1 1 2), (Op.mk false ⟨#[]⟩ 0 3 4)])).2.2) == 0)))) ?_
     refine rvc_case 56 (((order (Sl.mk false [(Op.mk true ⟨#[97]⟩ 1 1 2), (Op.mk false ⟨#[]⟩ 0 3 4)])).2.2) == 0) rfl (fun h5 => ?_) (fun h5 => ?_)
     ·
      replace hR := of_true h5 hR
      refine rvO C (.pv (.lit (.bool ((order (Sl.mk false [(Op.mk true ⟨#[97]⟩ 1 1 0), (Op.mk false ⟨#[97]⟩ 0 3 4), (Op.mk false ⟨#[]⟩ 0 5 6)])).2.1)))) ?_
      refine rvO C (.pv (.lit (.bool (!((order (Sl.mk false [(Op.mk true ⟨#[97]⟩ 1 1 0), (Op.mk false ⟨#[97]⟩ 0 3 4), (Op.mk false ⟨#[]⟩ 0 5 6)])).2.1))))) ?_
      refine rvP C (.pv (.lit (.bool (!((order (Sl.mk false [(Op.mk true ⟨#[97]⟩ 1 1 0), (Op.mk false ⟨#[97]⟩ 0 3 4), (Op.mk false ⟨#[]⟩ 0 5 6)])).2.1))))) ?_
      refine rvP C (.pv (.lit (.bool (!((order (Sl.mk false [(Op.mk true ⟨#[97]⟩ 1 1 0), (Op.mk false ⟨#[97]⟩ 0 3 4), (Op.mk false ⟨#[]⟩ 0 5 6)])).2.1))))) ?_
      refine rvc_case 60 (!((order (Sl.mk false [(Op.mk true ⟨#[97]⟩ 1 1 0), (Op.mk false ⟨#[97]⟩ 0 3 4), (Op.mk false ⟨#[]⟩ 0 5 6)])).2.1)) rfl (fun h6 => ?_) (fun h6 => ?_)
      ·
       replace hR := of_true h6 hR
       refine rvO C (.pv (.lit (.int .i64 ((order (Sl.mk false [(Op.mk true ⟨#[97]⟩ 1 1 0), (Op.mk false ⟨#[97]⟩ 0 3 4), (Op.mk false ⟨#[]⟩ 0 5 6)])).2.2)))) ?_
       refine rvO C (.pv (.lit (.bool (((order (Sl.mk false [(Op.mk true ⟨#[97]⟩ 1 1 0), (Op.mk false ⟨#[97]⟩ 0 3 4), (Op.mk false ⟨#[]⟩ 0 5 6)])).2.2) == 0)))) ?_
       refine rvP C (.pv (.lit (.bool (((order (Sl.mk false [(Op.mk true ⟨#[97]⟩ 1 1 0), (Op.mk false ⟨#[97]⟩ 0 3 4), (Op.mk false ⟨#[]⟩ 0 5 6)])).2.2) == 0)))) ?_
       refine rvP C (.pv (.lit (.bool (((order (Sl.mk false [(Op.mk true ⟨#[97]⟩ 1 1 0), (Op.mk false ⟨#[97]⟩ 0 3 4), (Op.mk false ⟨#[]⟩ 0 5 6)])).2.2) == 0)))) ?_
       refine rvc_case 64 (((order (Sl.mk false [(Op.mk true ⟨#[97]⟩ 1 1 0), (Op.mk false ⟨#[97]⟩ 0 3 4), (Op.mk false ⟨#[]⟩ 0 5 6)])).2.2) == 0) rfl (fun h7 => ?_) (fun h7 => ?_)
       ·
        replace hR := of_true h7 hR
        refine rvO C (.agg [.pv (.lit (.bool false)), .pv (.lit (.string ⟨#[]⟩)), .pv (.lit (.int .i64 0)), .pv (.lit (.int .i64 0)), .pv (.lit (.int .i64 0))]) ?_
        refine rvc_open rfl rfl rfl (rexec_buildSliceF C eOp [(Op.mk false ⟨#[]⟩ 0 0 0)] rfl rfl rfl rfl rfl rfl rfl (by decide) rfl ?_)
        refine rvc_open rfl rfl rfl (rexec_call hP C rfl rfl rfl (rightL_calls (Sl.mk false [(Op.mk false ⟨#[]⟩ 0 0 0)]) (of_decide_eq_true (by kernel_rfl))) ?_)
        refine rvO C (.pv (.lit (.bool ((rightL (Sl.mk false [(Op.mk false ⟨#[]⟩ 0 0 0)])) == 70)))) ?_
        refine rvP C (.pv (.lit (.bool ((rightL (Sl.mk false [(Op.mk false ⟨#[]⟩ 0 0 0)])) == 70)))) ?_
        refine rvP C (.pv (.lit (.bool ((rightL (Sl.mk false [(Op.mk false ⟨#[]⟩ 0 0 0)])) == 70)))) ?_
        refine rvc_nil ?_
        refine Awp.ret ?_
        subst hR
        exact ⟨.inl rfl, rfl⟩
       ·
        replace hR := of_false h7 hR
        refine rvS ?_
        refine rvS ?_
        refine rvS ?_
        refine rvS ?_
        refine rvP C (.pv (.lit (.bool false))) ?_
        refine rvP C (.pv (.lit (.bool false))) ?_
        refine rvc_nil ?_
        refine Awp.ret ?_
        subst hR
        exact ⟨.inl rfl, rfl⟩
      ·
       replace hR := of_false h6 hR
       refine rvS ?_
       refine rvS ?_
       refine rvP C (.pv (.lit (.bool false))) ?_
       refine rvP C (.pv (.lit (.bool false))) ?_
       refine rvS ?_
       refine rvS ?_
       refine rvS ?_
       refine rvS ?_
       refine rvP C (.pv (.lit (.bool false))) ?_
       refine rvP C (.pv (.lit (.bool false))) ?_
       refine rvc_nil ?_
       refine Awp.ret ?_
       subst hR
       exact ⟨.inl rfl, rfl⟩
     ·
      replace hR := of_false h5 hR
      refine rvS ?_
      refine rvS ?_
      refine rvP C (.pv (.lit (.bool false))) ?_
      refine rvP C (.pv (.lit (.bool false))) ?_
      refine rvS ?_
      refine rvS ?_
      refine rvP C (.pv (.lit (.bool false))) ?_
      refine rvP C (.pv (.lit (.bool false))) ?_
      refine rvS ?_
      refine rvS ?_
      refine rvS ?_
      refine rvS ?_
      refine rvP C (.pv (.lit (.bool false))) ?_
      refine rvP C (.pv (.lit (.bool false))) ?_
      refine rvc_nil ?_
      refine Awp.ret ?_
      subst hR
      exact ⟨.inl rfl, rfl⟩
    ·
     replace hR := of_false h4 hR
     refine rvS ?_
     refine rvS ?_
     refine rvP C (.pv (.lit (.bool false))) ?_
     refine rvP C (.pv (.lit (.bool false))) ?_
     refine rvS ?_
     refine rvS ?_
     refine rvP C (.pv (.lit (.bool false))) ?_
     refine rvP C (.pv (.lit (.bool false))) ?_
     refine rvS ?_
     refine rvS ?_
     refine rvP C (.pv (.lit (.bool false))) ?_
     refine rvP C (.pv (.lit (.bool false))) ?_
     refine rvS ?_
     refine rvS ?_
     refine rvS ?_
     refine rvS ?_
     refine rvP C (.pv (.lit (.bool false))) ?_
     refine rvP C (.pv (.lit (.bool false))) ?_
     refine rvc_nil ?_
     refine Awp.ret ?_
     subst hR
     exact ⟨.inl rfl, rfl⟩
   ·
    replace hR := of_false h3 hR
    refine rvS ?_
    refine rvS ?_
    refine rvP C (.pv (.lit (.bool false))) ?_
    refine rvP C (.pv (.lit (.bool false))) ?_
    refine rvS ?_
    refine rvS ?_
    refine rvP C (.pv (.lit (.bool false))) ?_
    refine rvP C (.pv (.lit (.bool false))) ?_
    refine rvS ?_
    refine rvS ?_
    refine rvP C (.pv (.lit (.bool false))) ?_
    refine rvP C (.pv (.lit (.bool false))) ?_
    refine rvS ?_
    refine rvS ?_
    refine rvP C (.pv (.lit (.bool false))) ?_
    refine rvP C (.pv (.lit (.bool false))) ?_
    refine rvS ?_
    refine rvS ?_
    refine rvS ?_
    refine rvS ?_
    refine rvP C (.pv (.lit (.bool false))) ?_
    refine rvP C (.pv (.lit (.bool false))) ?_
    refine rvc_nil ?_
    refine Awp.ret ?_
    subst hR
    exact ⟨.inl rfl, rfl⟩
  ·
   replace hR := of_false h2 hR
   refine rvS ?_
   refine rvS ?_
   refine rvS ?_
   refine rvP C (.pv (.lit (.bool false))) ?_
   refine rvP C (.pv (.lit (.bool false))) ?_
   refine rvS ?_
   refine rvS ?_
   refine rvP C (.pv (.lit (.bool false))) ?_
   refine rvP C (.pv (.lit (.bool false))) ?_
   refine rvS ?_
   refine rvS ?_
   refine rvP C (.pv (.lit (.bool false))) ?_
   refine rvP C (.pv (.lit (.bool false))) ?_
   refine rvS ?_
   refine rvS ?_
   refine rvP C (.pv (.lit (.bool false))) ?_
   refine rvP C (.pv (.lit (.bool false))) ?_
   refine rvS ?_
   refine rvS ?_
   refine rvP C (.pv (.lit (.bool false))) ?_
   refine rvP C (.pv (.lit (.bool false))) ?_
   refine rvS ?_
   refine rvS ?_
   refine rvS ?_
   refine rvS ?_
   refine rvP C (.pv (.lit (.bool false))) ?_
   refine rvP C (.pv (.lit (.bool false))) ?_
   refine rvc_nil ?_
   refine Awp.ret ?_
   subst hR
   exact ⟨.inl rfl, rfl⟩
 ·
  replace hR := of_false h1 hR
  refine rvS ?_
  refine rvS ?_
  refine rvP C (.pv (.lit (.bool false))) ?_
  refine rvP C (.pv (.lit (.bool false))) ?_
  refine rvS ?_
  refine rvS ?_
  refine rvS ?_
  refine rvP C (.pv (.lit (.bool false))) ?_
  refine rvP C (.pv (.lit (.bool false))) ?_
  refine rvS ?_
  refine rvS ?_
  refine rvP C (.pv (.lit (.bool false))) ?_
  refine rvP C (.pv (.lit (.bool false))) ?_
  refine rvS ?_
  refine rvS ?_
  refine rvP C (.pv (.lit (.bool false))) ?_
  refine rvP C (.pv (.lit (.bool false))) ?_
  refine rvS ?_
  refine rvS ?_
  refine rvP C (.pv (.lit (.bool false))) ?_
  refine rvP C (.pv (.lit (.bool false))) ?_
  refine rvS ?_
  refine rvS ?_
  refine rvP C (.pv (.lit (.bool false))) ?_
  refine rvP C (.pv (.lit (.bool false))) ?_
  refine rvS ?_
  refine rvS ?_
  refine rvS ?_
  refine rvS ?_
  refine rvP C (.pv (.lit (.bool false))) ?_
  refine rvP C (.pv (.lit (.bool false))) ?_
  refine rvc_nil ?_
  refine Awp.ret ?_
  subst hR
  exact ⟨.inl rfl, rfl⟩
end Go.Proofs.Ytaoagcdljmpllaa
/- The laws. No conditions. -/
namespace Go.Proofs.Ytaoagcdljmpllaa
open Go.Am
end Go.Proofs.Ytaoagcdljmpllaa
/- The examples go through; what may be. No conditions. -/
namespace Go.Proofs.Ytaoagcdljmpllaa
open Go.Am
theorem awakeL_true : awakeL = true := by kernel_rfl
theorem right_l : ∀ (l : List Op) (i : Nat), rightL_l0 l i = refRight_l0 l i
  | [], _ => rfl
  | x :: xs, i => by
    unfold rightL_l0 refRight_l0
    rw [right_l xs (i + 1)]
    by_cases h1 : x.began < 1
    · rw [decide_eq_true h1]; rfl
    · rw [decide_eq_false h1]
      simp only [cond_false]
      rcases Int.lt_trichotomy x.ended 0 with h | h | h
      · have e1 : (x.ended != 0) = true := by simp; omega
        rw [e1, decide_eq_true (p := x.ended ≤ x.began) (by omega), decide_eq_true h]; rfl
      · have e1 : (x.ended != 0) = false := by rw [h]; rfl
        rw [e1, decide_eq_false (p := x.ended < 0) (by omega), decide_eq_false (p := x.ended > 0) (by omega)]; rfl
      · have e1 : (x.ended != 0) = true := by simp; omega
        rw [e1, decide_eq_false (p := x.ended < 0) (by omega), decide_eq_true (p := x.ended > 0) (by omega)]; rfl
theorem right_eq (l : Sl Op) : rightL l = refRight l := by unfold rightL refRight; rw [right_l]
end Go.Proofs.Ytaoagcdljmpllaa
/- Inputs of chapter 07, as plain values. No conditions. -/
namespace Go.Proofs.Ytaoagcdljmpllaa
open Go.Am
set_option maxRecDepth 100000 in
theorem flat4 {m : Nat} {ps : List PV} (h : Flat Try.prog (m + 1) 4 ps) : ∃ b, ps = [.lit (.bool b)] ∧ True := by
  unfold Flat at h
  rw [Try.underlying4] at h
  obtain ⟨b, h⟩ := h
  exact ⟨b, h, trivial⟩
set_option maxRecDepth 100000 in
theorem flat9 {m : Nat} {ps : List PV} (h : Flat Try.prog (m + 1) 9 ps) : ∃ s, ps = [.lit (.string s)] ∧ s.size ≤ maxLen := by
  unfold Flat at h
  rw [Try.underlying9] at h
  exact h
set_option maxRecDepth 100000 in
theorem flat3 {m : Nat} {ps : List PV} (h : Flat Try.prog (m + 1) 3 ps) : ∃ n, ps = [.lit (.int .i64 n)] ∧ (Lit.int .i64 n).wf = true := by
  unfold Flat at h
  rw [Try.underlying3] at h
  exact h
def WT47 (x : Op) : Prop := True ∧ x.value.size ≤ maxLen ∧ (Lit.int .i64 x.ver).wf = true ∧ (Lit.int .i64 x.began).wf = true ∧ (Lit.int .i64 x.ended).wf = true
set_option maxRecDepth 100000 in
theorem flat47 {m : Nat} {ps : List PV} (h : Flat Try.prog (m + 2) 47 ps) : ∃ x : Op, ps = eOp.enc x ∧ WT47 x := by
  unfold Flat at h
  rw [Try.underlying47] at h
  obtain ⟨a0, b0, e0, h0, a1, b1, e1, h1, a2, b2, e2, h2, a3, b3, e3, h3, a4, b4, e4, h4, el⟩ := h
  obtain ⟨x0, rfl, w0⟩ := flat4 (m := m + 0) h0
  obtain ⟨x1, rfl, w1⟩ := flat9 (m := m + 0) h1
  obtain ⟨x2, rfl, w2⟩ := flat3 (m := m + 0) h2
  obtain ⟨x3, rfl, w3⟩ := flat3 (m := m + 0) h3
  obtain ⟨x4, rfl, w4⟩ := flat3 (m := m + 0) h4
  subst el
  subst e4
  subst e3
  subst e2
  subst e1
  subst e0
  exact ⟨⟨x0, x1, x2, x3, x4⟩, rfl, w0, w1, w2, w3, w4⟩
def WT40 (s : Sl Op) : Prop := s.D.length ≤ maxLen ∧ (s.nil = true → s.D = []) ∧ ∀ x ∈ s.D, WT47 x
set_option maxRecDepth 100000 in
theorem flat40 {m : Nat} {ps : List PV} (h : Flat Try.prog (m + 3) 40 ps) : ∃ s : Sl Op, ps = [.sl (some s.nil) s.D.length (encL eOp s.D)] ∧ WT40 s := by
  unfold Flat at h
  rw [Try.underlying40] at h
  obtain ⟨b, D, rfl, h1, h2, h3⟩ := h
  obtain ⟨D2, e1, e2, e3⟩ := enc_list (e := eOp) (W := fun x => WT47 x) D fun y hy => flat47 (h3 y hy)
  rw [e2, ← e1]
  exact ⟨⟨b, D2⟩, rfl, (by show D2.length ≤ _; rw [e1]; exact h1), (fun hb => by have := h2 hb; rw [this] at e1; exact List.eq_nil_of_length_eq_zero e1), e3⟩
end Go.Proofs.Ytaoagcdljmpllaa
/- What the search asks, in plain words; a row fits here if it does there. No conditions. -/
namespace Go.Proofs.Ytaoagcdljmpllaa
open Go.Am
theorem loop_iff {α : Type} {f : List α → Nat → Bool} {c : Nat → α → Bool} (h0 : ∀ j, f [] j = true) (h1 : ∀ x xs j, f (x :: xs) j = bif c j x then false else f xs (j + 1)) : ∀ (ys : List α) (j : Nat), f ys j = true ↔ ∀ k x, ys[k]? = some x → c (j + k) x = false
  | [], j => by simp [h0]
  | y :: ys, j => by
    rw [h1]
    cases hc : c j y
    · rw [cond_false, loop_iff h0 h1 ys (j + 1)]
      constructor
      · intro h k x hk
        cases k with
        | zero => simp only [List.getElem?_cons_zero, Option.some.injEq] at hk; subst hk; exact hc
        | succ k => rw [List.getElem?_cons_succ] at hk; have := h k x hk; rwa [Nat.add_right_comm] at this
      · intro h k x hk
        have := h (k + 1) x (by rw [List.getElem?_cons_succ]; exact hk)
        rwa [show j + (k + 1) = j + 1 + k by omega] at this
    · rw [cond_true]
      constructor
      · intro h; cases h
      · intro h
        have := h 0 y rfl
        rw [Nat.add_zero, hc] at this; cases this
def firstC' (l : List Op) (i done : Int) (k : Nat) (x : Op) : Bool := ((k : Int) != i) && (!(mHas done (k : Int)) && decide (over x < (l[i.toNat]!.began)))
theorem firstSO_iff (s : Search) (i d : Int) : firstSO s i d = true ↔ ∀ k x, s.l.D[k]? = some x → firstC' s.l.D i d k x = false := by
  have := loop_iff (f := firstSO_l0 s i d) (c := firstC' s.l.D i d) (fun _ => rfl) (fun x xs j => by
    conv => lhs; unfold firstSO_l0
    unfold firstC'
    cases ((j : Int) != i) <;> cases (mHas d (j : Int)) <;> cases decide (over x < (s.l.D[i.toNat]!.began)) <;> rfl) s.l.D 0
  simp only [Nat.zero_add] at this
  exact this
theorem firstSM_eq (s : Search) (i d : Int) : firstSM s i d = firstSO s i d := by
  unfold firstSM firstSO
  suffices hh : ∀ (ys : List Op) (j : Nat), firstSM_l0 s i d ys j = firstSO_l0 s i d ys j from hh _ 0
  intro ys
  induction ys with
  | nil => intro j; rfl
  | cons y ys ih => intro j; unfold firstSM_l0 firstSO_l0; rw [ih]
theorem allSM_eq (s : Search) (d : Int) : allSM s d = allSO s d := by
  unfold allSM allSO
  suffices hh : ∀ (ys : List Op) (j : Nat), allSM_l0 d ys j = allSO_l0 d ys j from hh _ 0
  intro ys
  induction ys with
  | nil => intro j; rfl
  | cons y ys ih => intro j; unfold allSM_l0 allSO_l0; rw [ih]
theorem allSO_iff (s : Search) (d : Int) : allSO s d = true ↔ ∀ (k : Nat) (x : Op), s.l.D[k]? = some x → ((x.ended != 0) && !(mHas d (k : Int))) = false := by
  have := loop_iff (f := allSO_l0 d) (c := fun (k : Nat) (x : Op) => (x.ended != 0) && !(mHas d (k : Int))) (fun _ => rfl) (fun x xs j => by
    conv => lhs; unfold allSO_l0
    cases (x.ended != 0) <;> cases (mHas d (j : Int)) <;> rfl) s.l.D 0
  simp only [Nat.zero_add] at this
  exact this
def nextC (l : List Op) (left : List Bool) (i : Int) (k : Nat) (x : Op) : Bool := left[k]! && (((k : Int) != i) && before x (l[i.toNat]!))
theorem nextW_iff (l : Sl Op) (left : Sl Bool) (i : Int) : nextW l left i = true ↔ ∀ k x, l.D[k]? = some x → nextC l.D left.D i k x = false := by
  have := loop_iff (f := nextW_l0 l left i) (c := nextC l.D left.D i) (fun _ => rfl) (fun x xs j => by
    conv => lhs; unfold nextW_l0
    unfold nextC
    cases left.D[j]! <;> cases ((j : Int) != i) <;> cases before x (l.D[i.toNat]!) <;> rfl) l.D 0
  simp only [Nat.zero_add] at this
  exact this
theorem nextR_eq (l : Sl Op) (left : Sl Bool) (i : Int) : nextR l left i = nextW l left i := by
  unfold nextR nextW
  suffices hh : ∀ (ys : List Op) (j : Nat), nextR_l0 l left i ys j = nextW_l0 l left i ys j from hh _ 0
  intro ys
  induction ys with
  | nil => intro j; rfl
  | cons y ys ih => intro j; unfold nextR_l0 nextW_l0; rw [ih, Int.toNat_natCast]
theorem rFits2_iff (left : List Bool) (l : List Op) : rFits_l2 left l 0 = true ↔ ∀ (k : Nat) (x : Op), l[k]? = some x → (left[k]! && decide (x.ended > 0)) = false := by
  have := loop_iff (f := rFits_l2 left) (c := fun (k : Nat) (x : Op) => left[k]! && decide (x.ended > 0)) (fun _ => rfl) (fun x xs j => by
    conv => lhs; unfold rFits_l2
    cases left[j]! <;> cases decide (x.ended > 0) <;> rfl) l 0
  simp only [Nat.zero_add] at this
  exact this
/-- What is done, and what is left. -/
def Rel (l : List Op) (done : Int) (left : List Bool) : Prop := left.length = l.length ∧ ∀ k, k < l.length → left[k]! = !(mHas done (k : Int))
def okOp (x : Op) : Prop := 0 ≤ x.ended ∧ x.began ≤ 9223372036854775807
theorem over_before {a b : Op} (h : okOp a) (hb : okOp b) : decide (over a < b.began) = before a b := by
  obtain ⟨h1, _⟩ := h
  obtain ⟨_, h2⟩ := hb
  unfold over before
  by_cases e : a.ended = 0
  · have e1 : (a.ended == 0) = true := by simp [e]
    rw [e1, decide_eq_false (p := a.ended > 0) (by omega), cond_true, cond_false]
    exact decide_eq_false (by omega)
  · have e1 : (a.ended == 0) = false := by simp [e]
    rw [e1, decide_eq_true (p := a.ended > 0) (by omega), cond_true, cond_false]
theorem bool_iff {a b : Bool} (h : a = true ↔ b = true) : a = b := by
  cases a <;> cases b <;> simp_all
theorem getI {α : Type} [Inhabited α] {l : List α} {i : Nat} {x : α} (h : l[i]? = some x) : l[i]! = x := by
  rw [List.getElem!_eq_getElem?_getD, h]; rfl
theorem getO {α : Type} [Inhabited α] {l : List α} {i : Nat} (h : i < l.length) : l[i]? = some (l[i]!) := by
  rw [List.getElem!_eq_getElem?_getD, List.getElem?_eq_getElem h]; rfl
theorem lt_of_get {α : Type} {l : List α} {i : Nat} {x : α} (h : l[i]? = some x) : i < l.length := by
  rcases Nat.lt_or_ge i l.length with h1 | h1
  · exact h1
  · rw [List.getElem?_eq_none h1] at h; cases h
theorem next_first {l : Sl Op} (hl : ∀ x ∈ l.D, okOp x) {done : Int} {left : Sl Bool} (h : Rel l.D done left.D) {i : Int} (hi : 0 ≤ i ∧ i < (l.D.length : Int)) (s : Search) (hs : s.l.D = l.D) : firstSO s i done = nextW l left i := by
  apply bool_iff
  rw [firstSO_iff, nextW_iff, hs]
  have key : ∀ k x, l.D[k]? = some x → firstC' l.D i done k x = nextC l.D left.D i k x := fun k x hk => by
    unfold firstC' nextC
    have hlt := lt_of_get hk
    have hm : x ∈ l.D := List.mem_of_getElem? hk
    have hm2 : l.D[i.toNat]! ∈ l.D := List.mem_of_getElem? (getO (by omega))
    rw [h.2 k hlt, over_before (hl x hm) (hl _ hm2)]
    cases ((k : Int) != i) <;> cases mHas done (k : Int) <;> cases before x l.D[i.toNat]! <;> rfl
  constructor
  · intro hh k x hk; rw [← key k x hk]; exact hh k x hk
  · intro hh k x hk; rw [key k x hk]; exact hh k x hk
theorem all_left {l : List Op} (hl : ∀ x ∈ l, okOp x) {done : Int} {left : List Bool} (h : Rel l done left) (s : Search) (hs : s.l.D = l) : allSO s done = rFits_l2 left l 0 := by
  apply bool_iff
  rw [allSO_iff, rFits2_iff, hs]
  have key : ∀ (k : Nat) (x : Op), l[k]? = some x → ((x.ended != 0) && !(mHas done (k : Int))) = (left[k]! && decide (x.ended > 0)) := fun k x hk => by
    have hx := (hl x (List.mem_of_getElem? hk)).1
    rw [h.2 k (lt_of_get hk)]
    by_cases e : x.ended = 0
    · have e1 : (x.ended != 0) = false := by simp [e]
      rw [e1, decide_eq_false (p := x.ended > 0) (by omega)]; simp
    · have e1 : (x.ended != 0) = true := by simp [e]
      rw [e1, decide_eq_true (p := x.ended > 0) (by omega)]; simp
  constructor
  · intro hh k x hk; rw [← key k x hk]; exact hh k x hk
  · intro hh k x hk; rw [key k x hk]; exact hh k x hk
theorem set_get (left : List Bool) (n k : Nat) (hk : k < left.length) : (left.set n false)[k]! = (left[k]! && !(decide (n = k))) := by
  rw [List.getElem!_eq_getElem?_getD, List.getElem!_eq_getElem?_getD, List.getElem?_set]
  by_cases e : n = k
  · subst e
    rw [if_pos rfl, if_pos hk]; simp
  · rw [if_neg e]; simp [e]
theorem Rel.step {l : List Op} {done : Int} {left : List Bool} (hl : l.length ≤ 64) (hd : okD done) (h : Rel l done left) {n : Nat} (hn : n < l.length) : Rel l (mWith done (n : Int)) (left.set n false) := by
  refine ⟨by rw [List.length_set]; exact h.1, fun k hk => ?_⟩
  rw [set_get _ _ _ (by rw [h.1]; exact hk), h.2 k hk, has_withD hd (by omega) (by omega)]
  cases mHas done (k : Int) <;> simp
theorem Rel.zero (l : List Op) (hl : l.length ≤ 64) : Rel l 0 (List.replicate l.length true) := by
  refine ⟨by simp, fun k hk => ?_⟩
  have e : mHas 0 (k : Int) = false := by
    have := has_nat (S := 0) (n := k) (by decide) (by omega)
    rw [Nat.zero_testBit] at this
    exact this
  rw [e, List.getElem!_eq_getElem?_getD, List.getElem?_replicate, if_pos hk]; rfl
theorem okD0 : okD 0 := ⟨by decide, by decide⟩
theorem rep_set (i k : Nat) : (List.replicate i true ++ List.replicate (k + 1) false).set i true = List.replicate (i + 1) true ++ List.replicate k false := by
  rw [List.set_append_right _ _ (by simp)]
  simp only [List.length_replicate, Nat.sub_self, List.replicate_succ, List.set_cons_zero]
  rw [← List.replicate_succ, List.replicate_succ', List.append_assoc]; rfl
theorem rFits0_eq (row : Sl Int) (l : Sl Op) : ∀ (ys : List Op) (i : Nat), rFits_l0 row l ys i (List.replicate i true ++ List.replicate ys.length false) = rFits_l1 l row.D 0 ⟨#[]⟩ (List.replicate (i + ys.length) true)
  | [], i => by unfold rFits_l0; simp
  | y :: ys, i => by
    unfold rFits_l0
    rw [List.length_cons, rep_set, rFits0_eq row l ys (i + 1), show i + 1 + ys.length = i + (ys.length + 1) by omega]
theorem fits_l {l : Sl Op} (hl : ∀ x ∈ l.D, okOp x) (h64 : l.D.length ≤ 64) : ∀ (xs : List Int) (i j : Nat) (done : Int) (left : List Bool) (v : ByteArray), okD done → Rel l.D done left → fitsL_l0 l xs i done v = rFits_l1 l xs j v left
  | [], i, j, done, left, v, hd, hr => by
    unfold fitsL_l0 rFits_l1
    rw [allSM_eq, all_left hl hr _ rfl]
  | x :: xs, i, j, done, left, v, hd, hr => by
    unfold fitsL_l0 rFits_l1
    by_cases h1 : x < 0
    · rw [decide_eq_true h1]; rfl
    · by_cases h2 : x ≥ (l.D.length : Int)
      · rw [decide_eq_true h2, decide_eq_false h1]; rfl
      · rw [decide_eq_false h2, decide_eq_false h1]
        have hn : x.toNat < l.D.length := by omega
        have hx : x = ((x.toNat : Nat) : Int) := by omega
        have e1 := hr.2 _ hn
        rw [← hx] at e1
        rw [e1, firstSM_eq, next_first hl (left := Sl.mk false left) hr (by omega) _ rfl]
        have hs := hr.step h64 hd hn
        rw [← hx] at hs
        have hd' := with_okD hd (n := x.toNat) (by omega)
        rw [← hx] at hd'
        rw [fits_l hl h64 xs (i + 1) (j + 1) _ _ (l.D[x.toNat]!.value) hd' hs, fits_l hl h64 xs (i + 1) (j + 1) _ _ v hd' hs]
        cases mHas done x <;> cases nextW l (Sl.mk false left) x <;> cases l.D[x.toNat]!.write <;> cases (l.D[x.toNat]!.value.toList == v.toList) <;> rfl
theorem right_ended : ∀ (l : List Op) (i : Nat), refRight_l0 l i = 0 → ∀ x ∈ l, 0 ≤ x.ended
  | [], _, _, x, hx => by cases hx
  | y :: ys, i, h, x, hx => by
    unfold refRight_l0 at h
    by_cases h1 : y.ended < 0
    · rw [decide_eq_true h1] at h
      cases hb : decide (y.began < 1) <;> rw [hb] at h <;> cases h
    · rcases List.mem_cons.1 hx with rfl | hx
      · omega
      · refine right_ended ys (i + 1) ?_ x hx
        rw [decide_eq_false h1] at h
        revert h
        cases decide (y.began < 1) <;> cases decide (y.ended > 0) <;> cases decide (y.ended ≤ y.began) <;> cases decide (y.ver < 0) <;> cases decide (y.ver > 1099511627776) <;> cases decide ((y.value.size : Int) > 24) <;> intro h <;> first | exact h | cases h
theorem ok_of {l : Sl Op} (w : WT40 l) (h : (refRight l != 0) = false) : ∀ x ∈ l.D, okOp x := fun x hx => by
  have h0 : refRight l = 0 := by simpa using h
  unfold refRight at h0
  cases h1 : decide ((l.D.length : Int) > 24)
  · rw [h1, cond_false] at h0
    refine ⟨right_ended _ _ h0 x hx, ?_⟩
    have hw := (w.2.2 x hx)
    have hb := hw.2.2.2.1
    simp [Lit.wf, IntKind.min, IntKind.max, IntKind.signed, IntKind.bits] at hb
    omega
  · rw [h1] at h0; cases h0
theorem fits_eq (row : Sl Int) (l : Sl Op) (w : WT40 l) : fitsL row l = rFits row l := by
  unfold fitsL rFits
  rw [right_eq]
  cases h : (refRight l != 0)
  · rw [cond_false, cond_false]
    have h64 := ref_len h
    have := rFits0_eq row l l.D 0
    simp only [List.replicate_zero, List.nil_append, Nat.zero_add] at this
    rw [this]
    exact fits_l (ok_of w h) h64 row.D 0 0 0 _ _ okD0 (Rel.zero _ h64)
  · rfl
end Go.Proofs.Ytaoagcdljmpllaa
/- A search finds an order if there is one. No conditions. -/
namespace Go.Proofs.Ytaoagcdljmpllaa
open Go.Am
theorem kPoint_eq (a b : Point) : kPoint.eq a b = true ↔ a = b := by
  cases a; cases b
  show ((_ == _) && ((ByteArray.toList _ == ByteArray.toList _) && true)) = true ↔ _
  simp only [Bool.and_eq_true, beq_iff_eq, strEq, Point.mk.injEq, and_true]
def beenOf (been : List (Point × Bool)) (q : Point) : Bool := (mGet kPoint q been).getD false
theorem mGet_set (p q : Point) (b : Bool) : ∀ (D : List (Point × Bool)), mGet kPoint q (mSet kPoint p b D) = if kPoint.eq q p = true then some b else mGet kPoint q D
  | [] => rfl
  | e :: D => by
    unfold mSet
    by_cases h : p = e.1
    · rw [if_pos ((kPoint_eq p e.1).2 h)]
      unfold mGet
      by_cases h2 : q = p
      · rw [if_pos ((kPoint_eq q p).2 h2), if_pos ((kPoint_eq q e.1).2 (h2.trans h))]
      · rw [if_neg (fun e' => h2 ((kPoint_eq q p).1 e')), if_neg (fun e' => h2 (((kPoint_eq q e.1).1 e').trans h.symm)), if_neg (fun e' => h2 (((kPoint_eq q e.1).1 e').trans h.symm))]
    · rw [if_neg (fun e' => h ((kPoint_eq p e.1).1 e'))]
      unfold mGet
      by_cases h2 : q = e.1
      · rw [if_pos ((kPoint_eq q e.1).2 h2), if_pos ((kPoint_eq q e.1).2 h2), if_neg (fun e' => h (((kPoint_eq q p).1 e').symm.trans h2))]
      · rw [if_neg (fun e' => h2 ((kPoint_eq q e.1).1 e')), if_neg (fun e' => h2 ((kPoint_eq q e.1).1 e')), mGet_set p q b D]
theorem been_set {p q : Point} {D : List (Point × Bool)} (h : beenOf (mSet kPoint p true D) q = true) : q = p ∨ beenOf D q = true := by
  unfold beenOf at h
  rw [mGet_set] at h
  by_cases e : kPoint.eq q p = true
  · exact .inl ((kPoint_eq q p).1 e)
  · rw [if_neg e] at h; exact .inr h
def sr (l : List Op) : Search := Search.mk (Sl.mk false l) [] (Sl.mk false [])
/-- An order of the rest, from a point on. -/
def Sol (l : List Op) : Point → List Int → Prop
  | p, [] => allSO (sr l) p.done = true
  | p, i :: row => ∃ (k : Nat) (x : Op), i = (k : Int) ∧ l[k]? = some x ∧ cand l p k x = true ∧ Sol l (goOn p k x) row
def bad (l : List Op) (p : Point) : Prop := ∀ row, ¬ Sol l p row
theorem loop_spec {l : List Op} (h64 : l.length ≤ 64) {k : Nat} {s : Search} {p : Point} (hs : s.l.D = l) (hp : okD p.done) (hk : mu l p.done < k + 1)
    (rec_ : ∀ (s' : Search) (p' : Point), s'.l.D = l → okD p'.done → mu l p'.done < k → (∀ q, beenOf s'.been q = true → mu l q.done ≤ mu l p'.done → bad l q) →
      ((fromO k s' p').2 = true → ∃ row', Sol l p' row' ∧ (fromO k s' p').1.row.D = s'.row.D ++ row') ∧ ((fromO k s' p').2 = false → bad l p' ∧ ∀ q, beenOf (fromO k s' p').1.been q = true → beenOf s'.been q = true ∨ bad l q))
    (hpre : ∀ q, beenOf s.been q = true → mu l q.done ≤ mu l p.done → bad l q) :
    ∀ (ys : List Op) (i : Nat) (row : List Int) (been : List (Point × Bool)), ys = l.drop i → (∀ q, beenOf been q = true → beenOf s.been q = true ∨ q = p ∨ bad l q) →
      ((fromB_l0 (fromO k) s p ys i row been).2 = true → ∃ row', Sol l p row' ∧ (fromB_l0 (fromO k) s p ys i row been).1.row.D = row ++ row') ∧
      ((fromB_l0 (fromO k) s p ys i row been).2 = false → (∀ (j : Nat) (x : Op), i ≤ j → l[j]? = some x → cand l p j x = true → bad l (goOn p j x)) ∧ ∀ q, beenOf (fromB_l0 (fromO k) s p ys i row been).1.been q = true → beenOf s.been q = true ∨ q = p ∨ bad l q)
  | [], i, row, been, hys, hb => by
    refine ⟨fun h => (by unfold fromB_l0 at h; cases h), fun _ => ⟨fun j x hj hx _ => ?_, hb⟩⟩
    have h1 : l.length ≤ i := by
      have := congrArg List.length hys
      rw [List.length_drop] at this
      simp only [List.length_nil] at this; omega
    have h2 := lt_of_get hx
    omega
  | x :: xs, i, row, been, hys, hb => by
    have hx : l[i]? = some x := by
      have := congrArg (fun z => z[0]?) hys
      rw [List.getElem?_drop] at this
      exact this.symm
    have hxs : xs = l.drop (i + 1) := by
      have := congrArg List.tail hys
      rw [List.tail_drop] at this
      exact this
    have hi := lt_of_get hx
    have ih := fun row been => loop_spec h64 hs hp hk rec_ hpre xs (i + 1) row been hxs
    rw [fromB_step, hs]
    cases hc : cand l p i x
    · rw [cond_false]
      obtain ⟨h1, h2⟩ := ih row been hb
      refine ⟨h1, fun hf => ?_⟩
      obtain ⟨h3, h4⟩ := h2 hf
      refine ⟨fun j y hj hy hcy => ?_, h4⟩
      by_cases e : j = i
      · subst e
        rw [hx] at hy; injection hy with hy; subst hy
        rw [hc] at hcy; cases hcy
      · exact h3 j y (by omega) hy hcy
    · rw [cond_true]
      have hnd : mHas p.done (i : Int) = false := by
        unfold cand at hc
        simp only [Bool.and_eq_true, Bool.not_eq_true'] at hc
        exact hc.1
      have hmu : mu l (goOn p i x).done < mu l p.done := mu_with h64 hp hi hnd
      have hd' : okD (goOn p i x).done := with_okD hp (by omega)
      obtain ⟨r1, r2⟩ := rec_ (Search.mk s.l been (Sl.mk false (row ++ [(i : Int)]))) (goOn p i x) hs hd' (by omega) (fun q hq hm => by
        rcases hb q hq with h | rfl | h
        · exact hpre q h (by omega)
        · omega
        · exact h)
      have r3 := fromO_rowD k (Search.mk s.l been (Sl.mk false (row ++ [(i : Int)]))) (goOn p i x)
      generalize fromO k (Search.mk s.l been (Sl.mk false (row ++ [(i : Int)]))) (goOn p i x) = r at r1 r2 r3 ⊢
      unfold fromStep
      cases h2 : r.2
      · rw [cond_false]
        have e1 : r.1.row.D = row ++ [(i : Int)] := r3 h2
        obtain ⟨hbad, hbb⟩ := r2 h2
        rw [e1, List.dropLast_concat]
        obtain ⟨h3, h4⟩ := ih row r.1.been (fun q hq => by
          rcases hbb q hq with h | h
          · exact hb q h
          · exact .inr (.inr h))
        refine ⟨h3, fun hf => ?_⟩
        obtain ⟨h5, h6⟩ := h4 hf
        refine ⟨fun j y hj hy hcy => ?_, h6⟩
        by_cases e : j = i
        · subst e
          rw [hx] at hy; injection hy with hy; subst hy
          exact hbad
        · exact h5 j y (by omega) hy hcy
      · rw [cond_true]
        refine ⟨fun _ => ?_, fun h => by cases h⟩
        obtain ⟨row', h3, h4⟩ := r1 h2
        have h4 : r.1.row.D = (row ++ [(i : Int)]) ++ row' := h4
        exact ⟨(i : Int) :: row', ⟨i, x, rfl, hx, hc, h3⟩, by show r.1.row.D = _; rw [h4, List.append_assoc]; rfl⟩
theorem from_spec {l : List Op} (h64 : l.length ≤ 64) : ∀ (k : Nat) (s : Search) (p : Point), s.l.D = l → okD p.done → mu l p.done < k → (∀ q, beenOf s.been q = true → mu l q.done ≤ mu l p.done → bad l q) →
      ((fromO k s p).2 = true → ∃ row', Sol l p row' ∧ (fromO k s p).1.row.D = s.row.D ++ row') ∧ ((fromO k s p).2 = false → bad l p ∧ ∀ q, beenOf (fromO k s p).1.been q = true → beenOf s.been q = true ∨ bad l q)
  | 0, _, _, _, _, h, _ => absurd h (Nat.not_lt_zero _)
  | k + 1, s, p, hs, hp, hk, hpre => by
    have hl := loop_spec h64 hs hp hk (from_spec h64 k) hpre s.l.D 0 s.row.D (mSet kPoint p true s.been) (by rw [hs, List.drop_zero]) (fun q hq => by
      rcases been_set hq with h | h
      · exact .inr (.inl h)
      · exact .inl h)
    change ((fromB (fromO k) s p).2 = true → ∃ row', Sol l p row' ∧ (fromB (fromO k) s p).1.row.D = s.row.D ++ row') ∧ ((fromB (fromO k) s p).2 = false → bad l p ∧ ∀ q, beenOf (fromB (fromO k) s p).1.been q = true → beenOf s.been q = true ∨ bad l q)
    unfold fromB
    rw [allSO_eq (Search.mk s.l s.been (Sl.mk false s.row.D)) (sr l) hs]
    cases h1 : allSO (sr l) p.done
    · rw [cond_false]
      cases h2 : (mGet kPoint p s.been).getD false
      · rw [cond_false]
        refine ⟨hl.1, fun hf => ?_⟩
        obtain ⟨h3, h4⟩ := hl.2 hf
        have hbad : bad l p := fun row hrow => by
          cases row with
          | nil => have hrow : allSO (sr l) p.done = true := hrow; rw [h1] at hrow; cases hrow
          | cons i row =>
            obtain ⟨j, x, _, hx, hc, hr⟩ := hrow
            exact h3 j x (Nat.zero_le _) hx hc row hr
        refine ⟨hbad, fun q hq => ?_⟩
        rcases h4 q hq with h | rfl | h
        · exact .inl h
        · exact .inr hbad
        · exact .inr h
      · rw [cond_true]
        exact ⟨fun h => (by cases h), fun _ => ⟨hpre p h2 (Nat.le_refl _), fun q hq => .inl hq⟩⟩
    · rw [cond_true]
      exact ⟨fun _ => ⟨[], h1, (List.append_nil _).symm⟩, fun h => by cases h⟩
theorem fromB_nil (rec : Search → Point → Search × Bool) (s : Search) (p : Point) : ∀ (ys : List Op) (i : Nat) (row : List Int) (been : List (Point × Bool)), (fromB_l0 rec s p ys i row been).1.row.nil = false
  | [], _, _, _ => rfl
  | x :: xs, i, row, been => by
    rw [fromB_step]
    cases cand s.l.D p i x
    · exact fromB_nil rec s p xs _ _ _
    · rw [cond_true]
      unfold fromStep
      cases (rec (Search.mk s.l been (Sl.mk false (row ++ [(i : Int)]))) (goOn p i x)).2
      · exact fromB_nil rec s p xs _ _ _
      · rfl
theorem fromN_l0_nil (s : Search) (p : Point) : ∀ (ys : List Op) (i : Nat), (fromN_l0 s p ys i).1.row.nil = true → (fromN_l0 s p ys i).1.row.D = []
  | [], _, _ => rfl
  | x :: xs, i, h => by
    rw [fromN_step] at h ⊢
    cases hc : cand s.l.D p i x
    · rw [hc] at h; exact fromN_l0_nil s p xs _ h
    · rw [hc, cond_true] at h
      unfold fromStep at h
      revert h
      cases (fromO 65 (Search.mk s.l (mSet kPoint p true s.been) (Sl.mk false [(i : Int)])) (goOn p i x)).2
      · rw [cond_false, fromB_nil]; intro h; cases h
      · intro h; cases h
theorem fromN_nil (s : Search) (p : Point) : (fromN s p).1.row.nil = true → (fromN s p).1.row.D = [] := by
  unfold fromN
  cases allSN (Search.mk s.l s.been (Sl.mk true [])) p.done
  · cases (mGet kPoint p s.been).getD false
    · exact fromN_l0_nil s p _ _
    · exact fun _ => rfl
  · exact fun _ => rfl
theorem cloneInts_D {s : Sl Int} (h : s.nil = true → s.D = []) : (cloneInts s).D = s.D := by
  unfold cloneInts
  cases hn : s.nil
  · rfl
  · rw [h hn]; rfl
theorem order_spec {l : Sl Op} (h : (rightL l != 0) = false) : ((order l).2.1 = true → Sol l.D ⟨0, ⟨#[]⟩⟩ (order l).1.D) ∧ ((order l).2.1 = false → (order l).1.D = [] ∧ bad l.D ⟨0, ⟨#[]⟩⟩) ∧ (order l).2.2 = 0 := by
  have h64 := right_len h
  obtain ⟨e1, e2⟩ := fromN_eq (Search.mk l [] (Sl.mk true [])) rfl ⟨0, ⟨#[]⟩⟩
  obtain ⟨s1, s2⟩ := from_spec h64 66 (Search.mk l [] (Sl.mk true [])) ⟨0, ⟨#[]⟩⟩ rfl okD0 (by have := mu_le l.D 0; show mu l.D 0 < 66; omega) (fun q hq => by cases hq)
  unfold order
  rw [h, cond_false, e1]
  cases hf : (fromO 66 (Search.mk l [] (Sl.mk true [])) ⟨0, ⟨#[]⟩⟩).2
  · exact ⟨fun h => (by cases h), fun _ => ⟨rfl, (s2 hf).1⟩, rfl⟩
  · refine ⟨fun _ => ?_, fun h => (by cases h), rfl⟩
    obtain ⟨row', h1, h2⟩ := s1 hf
    have e3 : (cloneInts (fromN (Search.mk l [] (Sl.mk true [])) ⟨0, ⟨#[]⟩⟩).1.row).D = row' := by
      rw [cloneInts_D (fromN_nil _ _), e2, h2]; rfl
    show Sol l.D _ (cloneInts _).D
    rw [e3]; exact h1
end Go.Proofs.Ytaoagcdljmpllaa
/- LinSeen. No conditions. -/
namespace Go.Proofs.Ytaoagcdljmpllaa
open Go.Am
theorem cand_iff (l : List Op) (p : Point) (k : Nat) (x : Op) : cand l p k x = true ↔ mHas p.done (k : Int) = false ∧ (x.write = true ∨ (x.ended ≠ 0 ∧ x.value = p.value)) ∧ firstSO (sr l) (k : Int) p.done = true := by
  unfold cand sr
  simp only [Bool.and_eq_true, Bool.or_eq_true, Bool.not_eq_true', beq_eq_false_iff_ne, ne_eq, strBeq]
end Go.Proofs.Ytaoagcdljmpllaa
/- Copies are the same; an order is short. No conditions. -/
namespace Go.Proofs.Ytaoagcdljmpllaa
open Go.Am
theorem cloneOps_id (l : Sl Op) (h : l.nil = true → l.D = []) : cloneOps l = l := by
  cases l with
  | mk nil D =>
    unfold cloneOps
    cases nil
    · rfl
    · rw [show D = [] from h rfl]; rfl
theorem cnt65 {l : Sl Op} {v : List Bool} (h : (refRight l != 0) = false) (hv : v.length = l.D.length) : v.count true < 65 := by
  have h1 := List.count_le_length (a := true) (l := v)
  have h2 := ref_len h
  omega
theorem cloneInts_len (s : Sl Int) : (cloneInts s).D.length ≤ s.D.length := by
  unfold cloneInts
  cases s.nil
  · exact Nat.le_refl _
  · exact Nat.zero_le _
theorem order_len (l : Sl Op) : (order l).1.D.length ≤ 66 := by
  unfold order
  cases (rightL l != 0)
  · rw [cond_false]
    cases (fromN (Search.mk l [] (Sl.mk true [])) (Point.mk 0 ⟨#[]⟩)).2
    · exact Nat.zero_le _
    · exact Nat.le_trans (cloneInts_len _) (fromN_len _ rfl _)
  · exact Nat.zero_le _
end Go.Proofs.Ytaoagcdljmpllaa
/- LinOrders. No conditions. -/
namespace Go.Proofs.Ytaoagcdljmpllaa
open Go.Am
def lawOrders_l0 (l : (Sl Op)) : List Bool → Nat → (List Bool) → Bool
  | [], _, vc => (bif (((order (cloneOps l)).2.1) == (thereO 65 l (Sl.mk false vc) ⟨#[]⟩)) then (bif (!((order (cloneOps l)).2.1)) then (bif ((((order (cloneOps l)).1.D).length : Int) == 0) then (bif (eqOps (cloneOps l) l) then (awakeL ) else false) else (bif (order (cloneOps l)).2.1 then (bif (rFits ((order (cloneOps l)).1) l) then (bif (fitsL ((order (cloneOps l)).1) l) then (bif (eqOps (cloneOps l) l) then (awakeL ) else false) else false) else false) else false)) else (bif (order (cloneOps l)).2.1 then (bif (rFits ((order (cloneOps l)).1) l) then (bif (fitsL ((order (cloneOps l)).1) l) then (bif (eqOps (cloneOps l) l) then (awakeL ) else false) else false) else false) else false)) else false)
  | _ :: xs, i, vc => lawOrders_l0 l xs (i + 1) (vc.set i true)
def lawOrders (l : (Sl Op)) : Bool :=
  (bif (decide ((l.D.length : Int) > 7)) then (bif (decide ((l.D.length : Int) ≤ 24)) then (awakeL ) else (bif (((order (cloneOps l)).2.2) != (refRight l)) then (bif (((order (cloneOps l)).2.2) == (refRight l)) then (bif (!((order (cloneOps l)).2.1)) then (bif ((((order (cloneOps l)).1.D).length : Int) == 0) then (awakeL ) else false) else false) else false) else (bif ((refRight l) != 0) then (bif (((order (cloneOps l)).2.2) == (refRight l)) then (bif (!((order (cloneOps l)).2.1)) then (bif ((((order (cloneOps l)).1.D).length : Int) == 0) then (awakeL ) else false) else false) else false) else lawOrders_l0 l (List.replicate l.D.length false) 0 (List.replicate l.D.length false)))) else (bif (((order (cloneOps l)).2.2) != (refRight l)) then (bif (((order (cloneOps l)).2.2) == (refRight l)) then (bif (!((order (cloneOps l)).2.1)) then (bif ((((order (cloneOps l)).1.D).length : Int) == 0) then (awakeL ) else false) else false) else false) else (bif ((refRight l) != 0) then (bif (((order (cloneOps l)).2.2) == (refRight l)) then (bif (!((order (cloneOps l)).2.1)) then (bif ((((order (cloneOps l)).1.D).length : Int) == 0) then (awakeL ) else false) else false) else false) else lawOrders_l0 l (List.replicate l.D.length false) 0 (List.replicate l.D.length false))))
theorem lawOrders_calls (l : (Sl Op)) (hw : l.nil = true → l.D = []) (hl1 : l.D.length ≤ 2932031007317) : PCalls Try.prog 11 [sS (some l.nil) eOp l.D] (.pv (.lit (.bool (lawOrders l)))) := by
 generalize hR : lawOrders l = R
 refine PCalls.of_body tabOk Try.func11 rfl rfl rfl rfl rfl mixed fun E hP C hI => ?_
 refine Awp.consP C ?_
 refine rvP C (.pv (.lit (.bool false))) ?_
 refine rvc_nil ?_
 refine Awp.seq ?_
 refine Awp.consP C ?_
 refine rvP C (sS (some l.nil) eOp l.D) ?_
 refine rvP C (.pv (.lit (.int .i64 (l.D.length : Int)))) ?_
 refine rvP C (.pv (.lit (.bool (decide ((l.D.length : Int) > 7))))) ?_
 refine rvP C (.pv (.lit (.bool (decide ((l.D.length : Int) > 7))))) ?_
 refine rvc_case 14 (decide ((l.D.length : Int) > 7)) rfl (fun h1 => ?_) (fun h1 => ?_)
 ·
  replace hR := of_true h1 hR
  refine rvO C (sS (some l.nil) eOp l.D) ?_
  refine rvO C (.pv (.lit (.int .i64 (l.D.length : Int)))) ?_
  refine rvO C (.pv (.lit (.bool (decide ((l.D.length : Int) ≤ 24))))) ?_
  refine rvP C (.pv (.lit (.bool (decide ((l.D.length : Int) ≤ 24))))) ?_
  refine rvc_nil ?_
  refine Awp.cond (b := (decide ((l.D.length : Int) ≤ 24))) rfl (fun h2 => ?_) (fun h2 => ?_)
  ·
   replace hR := of_true h2 hR
   refine Awp.consP C ?_
   refine rvc_un (rexec_call hP C rfl rfl rfl (awakeL_calls ) ?_)
   refine rvP C (.pv (.lit (.bool (awakeL )))) ?_
   refine rvc_nil ?_
   refine Awp.ret ?_
   subst hR
   exact ⟨.inl rfl, rfl⟩
  ·
   replace hR := of_false h2 hR
   refine Awp.skip ?_
   refine Awp.consP C ?_
   refine rvP C (sS (some l.nil) eOp l.D) ?_
   refine rvc_un (rexec_call hP C rfl rfl rfl (cloneOps_calls l hl1) ?_)
   refine rvP C (sS (some (cloneOps l).nil) eOp ((cloneOps l).D)) ?_
   refine rvc_nil ?_
   refine Awp.consP C ?_
   refine rvP C (sS (some (cloneOps l).nil) eOp ((cloneOps l).D)) ?_
   refine rvc_un (rexec_call hP C rfl rfl rfl (order_calls (cloneOps l) (Nat.le_trans (Nat.le_trans (Nat.le_of_eq (congrArg (fun s : Sl Op => s.D.length) (cloneOps_id l hw))) hl1) (by decide))) ?_)
   refine rvP C (.tup [sS (some (order (cloneOps l)).1.nil) (eI .i64) ((order (cloneOps l)).1.D), .pv (.lit (.bool ((order (cloneOps l)).2.1))), .pv (.lit (.int .i64 ((order (cloneOps l)).2.2)))]) ?_
   refine rvP C (sS (some (order (cloneOps l)).1.nil) (eI .i64) ((order (cloneOps l)).1.D)) ?_
   refine rvP C (.pv (.lit (.bool ((order (cloneOps l)).2.1)))) ?_
   refine rvP C (.pv (.lit (.int .i64 ((order (cloneOps l)).2.2)))) ?_
   refine rvP C (sS (some (order (cloneOps l)).1.nil) (eI .i64) ((order (cloneOps l)).1.D)) ?_
   refine rvP C (.pv (.lit (.bool ((order (cloneOps l)).2.1)))) ?_
   refine rvP C (.pv (.lit (.int .i64 ((order (cloneOps l)).2.2)))) ?_
   refine rvc_nil ?_
   refine Awp.seq ?_
   refine Awp.consP C ?_
   refine rvP C (sS (some l.nil) eOp l.D) ?_
   refine rvc_un (rexec_call hP C rfl rfl rfl (refRight_calls l (Nat.le_trans hl1 (by decide))) ?_)
   refine rvP C (.pv (.lit (.int .i64 (refRight l)))) ?_
   refine rvc_nil ?_
   refine Awp.consP C ?_
   refine rvP C (.pv (.lit (.int .i64 ((order (cloneOps l)).2.2)))) ?_
   refine rvP C (.pv (.lit (.int .i64 (refRight l)))) ?_
   refine rvP C (.pv (.lit (.bool (((order (cloneOps l)).2.2) != (refRight l))))) ?_
   refine rvP C (.pv (.lit (.bool (((order (cloneOps l)).2.2) != (refRight l))))) ?_
   refine rvc_case 33 (((order (cloneOps l)).2.2) != (refRight l)) rfl (fun h3 => ?_) (fun h3 => ?_)
   ·
    replace hR := of_true h3 hR
    refine rvS ?_
    refine rvS ?_
    refine rvP C (.pv (.lit (.bool true))) ?_
    refine rvc_nil ?_
    refine Awp.condT (b := true) rfl rfl ?_
    refine Awp.consP C ?_
    refine rvP C (.pv (.lit (.int .i64 ((order (cloneOps l)).2.2)))) ?_
    refine rvP C (.pv (.lit (.int .i64 (refRight l)))) ?_
    refine rvP C (.pv (.lit (.bool (((order (cloneOps l)).2.2) == (refRight l))))) ?_
    refine rvP C (.pv (.lit (.bool (((order (cloneOps l)).2.2) == (refRight l))))) ?_
    refine rvc_case 40 (((order (cloneOps l)).2.2) == (refRight l)) rfl (fun h4 => ?_) (fun h4 => ?_)
    ·
     replace hR := of_true h4 hR
     refine rvO C (.pv (.lit (.bool ((order (cloneOps l)).2.1)))) ?_
     refine rvO C (.pv (.lit (.bool (!((order (cloneOps l)).2.1))))) ?_
     refine rvP C (.pv (.lit (.bool (!((order (cloneOps l)).2.1))))) ?_
     refine rvP C (.pv (.lit (.bool (!((order (cloneOps l)).2.1))))) ?_
     refine rvc_case 44 (!((order (cloneOps l)).2.1)) rfl (fun h5 => ?_) (fun h5 => ?_)
     ·
      replace hR := of_true h5 hR
      refine rvO C (sS (some (order (cloneOps l)).1.nil) (eI .i64) ((order (cloneOps l)).1.D)) ?_
      refine rvO C (.pv (.lit (.int .i64 (((order (cloneOps l)).1.D).length : Int)))) ?_
      refine rvO C (.pv (.lit (.bool ((((order (cloneOps l)).1.D).length : Int) == 0)))) ?_
      refine rvP C (.pv (.lit (.bool ((((order (cloneOps l)).1.D).length : Int) == 0)))) ?_
      refine rvP C (.pv (.lit (.bool ((((order (cloneOps l)).1.D).length : Int) == 0)))) ?_
      refine rvc_case 49 ((((order (cloneOps l)).1.D).length : Int) == 0) rfl (fun h6 => ?_) (fun h6 => ?_)
      ·
       replace hR := of_true h6 hR
       refine rvc_open rfl rfl rfl (rexec_call hP C rfl rfl rfl (awakeL_calls ) ?_)
       refine rvP C (.pv (.lit (.bool (awakeL )))) ?_
       refine rvP C (.pv (.lit (.bool (awakeL )))) ?_
       refine rvc_nil ?_
       refine Awp.ret ?_
       subst hR
       exact ⟨.inl rfl, rfl⟩
      ·
       replace hR := of_false h6 hR
       refine rvS ?_
       refine rvP C (.pv (.lit (.bool false))) ?_
       refine rvP C (.pv (.lit (.bool false))) ?_
       refine rvc_nil ?_
       refine Awp.ret ?_
       subst hR
       exact ⟨.inl rfl, rfl⟩
     ·
      replace hR := of_false h5 hR
      refine rvS ?_
      refine rvS ?_
      refine rvS ?_
      refine rvP C (.pv (.lit (.bool false))) ?_
      refine rvP C (.pv (.lit (.bool false))) ?_
      refine rvS ?_
      refine rvP C (.pv (.lit (.bool false))) ?_
      refine rvP C (.pv (.lit (.bool false))) ?_
      refine rvc_nil ?_
      refine Awp.ret ?_
      subst hR
      exact ⟨.inl rfl, rfl⟩
    ·
     replace hR := of_false h4 hR
     refine rvS ?_
     refine rvS ?_
     refine rvP C (.pv (.lit (.bool false))) ?_
     refine rvP C (.pv (.lit (.bool false))) ?_
     refine rvS ?_
     refine rvS ?_
     refine rvS ?_
     refine rvP C (.pv (.lit (.bool false))) ?_
     refine rvP C (.pv (.lit (.bool false))) ?_
     refine rvS ?_
     refine rvP C (.pv (.lit (.bool false))) ?_
     refine rvP C (.pv (.lit (.bool false))) ?_
     refine rvc_nil ?_
     refine Awp.ret ?_
     subst hR
     exact ⟨.inl rfl, rfl⟩
   ·
    replace hR := of_false h3 hR
    refine rvO C (.pv (.lit (.int .i64 (refRight l)))) ?_
    refine rvO C (.pv (.lit (.bool ((refRight l) != 0)))) ?_
    refine rvP C (.pv (.lit (.bool ((refRight l) != 0)))) ?_
    refine rvc_nil ?_
    refine Awp.cond (b := ((refRight l) != 0)) rfl (fun h7 => ?_) (fun h7 => ?_)
    ·
     replace hR := of_true h7 hR
     refine Awp.consP C ?_
     refine rvP C (.pv (.lit (.int .i64 ((order (cloneOps l)).2.2)))) ?_
     refine rvP C (.pv (.lit (.int .i64 (refRight l)))) ?_
     refine rvP C (.pv (.lit (.bool (((order (cloneOps l)).2.2) == (refRight l))))) ?_
     refine rvP C (.pv (.lit (.bool (((order (cloneOps l)).2.2) == (refRight l))))) ?_
     refine rvc_case 40 (((order (cloneOps l)).2.2) == (refRight l)) rfl (fun h8 => ?_) (fun h8 => ?_)
     ·
      replace hR := of_true h8 hR
      refine rvO C (.pv (.lit (.bool ((order (cloneOps l)).2.1)))) ?_
      refine rvO C (.pv (.lit (.bool (!((order (cloneOps l)).2.1))))) ?_
      refine rvP C (.pv (.lit (.bool (!((order (cloneOps l)).2.1))))) ?_
      refine rvP C (.pv (.lit (.bool (!((order (cloneOps l)).2.1))))) ?_
      refine rvc_case 44 (!((order (cloneOps l)).2.1)) rfl (fun h9 => ?_) (fun h9 => ?_)
      ·
       replace hR := of_true h9 hR
       refine rvO C (sS (some (order (cloneOps l)).1.nil) (eI .i64) ((order (cloneOps l)).1.D)) ?_
       refine rvO C (.pv (.lit (.int .i64 (((order (cloneOps l)).1.D).length : Int)))) ?_
       refine rvO C (.pv (.lit (.bool ((((order (cloneOps l)).1.D).length : Int) == 0)))) ?_
       refine rvP C (.pv (.lit (.bool ((((order (cloneOps l)).1.D).length : Int) == 0)))) ?_
       refine rvP C (.pv (.lit (.bool ((((order (cloneOps l)).1.D).length : Int) == 0)))) ?_
       refine rvc_case 49 ((((order (cloneOps l)).1.D).length : Int) == 0) rfl (fun h10 => ?_) (fun h10 => ?_)
       ·
        replace hR := of_true h10 hR
        refine rvc_open rfl rfl rfl (rexec_call hP C rfl rfl rfl (awakeL_calls ) ?_)
        refine rvP C (.pv (.lit (.bool (awakeL )))) ?_
        refine rvP C (.pv (.lit (.bool (awakeL )))) ?_
        refine rvc_nil ?_
        refine Awp.ret ?_
        subst hR
        exact ⟨.inl rfl, rfl⟩
       ·
        replace hR := of_false h10 hR
        refine rvS ?_
        refine rvP C (.pv (.lit (.bool false))) ?_
        refine rvP C (.pv (.lit (.bool false))) ?_
        refine rvc_nil ?_
        refine Awp.ret ?_
        subst hR
        exact ⟨.inl rfl, rfl⟩
      ·
       replace hR := of_false h9 hR
       refine rvS ?_
       refine rvS ?_
       refine rvS ?_
       refine rvP C (.pv (.lit (.bool false))) ?_
       refine rvP C (.pv (.lit (.bool false))) ?_
       refine rvS ?_
       refine rvP C (.pv (.lit (.bool false))) ?_
       refine rvP C (.pv (.lit (.bool false))) ?_
       refine rvc_nil ?_
       refine Awp.ret ?_
       subst hR
       exact ⟨.inl rfl, rfl⟩
     ·
      replace hR := of_false h8 hR
      refine rvS ?_
      refine rvS ?_
      refine rvP C (.pv (.lit (.bool false))) ?_
      refine rvP C (.pv (.lit (.bool false))) ?_
      refine rvS ?_
      refine rvS ?_
      refine rvS ?_
      refine rvP C (.pv (.lit (.bool false))) ?_
      refine rvP C (.pv (.lit (.bool false))) ?_
      refine rvS ?_
      refine rvP C (.pv (.lit (.bool false))) ?_
      refine rvP C (.pv (.lit (.bool false))) ?_
      refine rvc_nil ?_
      refine Awp.ret ?_
      subst hR
      exact ⟨.inl rfl, rfl⟩
    ·
     replace hR := of_false h7 hR
     refine Awp.skip ?_
     refine Awp.consP C ?_
     refine rvP C (sS (some l.nil) eOp l.D) ?_
     refine rvP C (.pv (.lit (.int .i64 (l.D.length : Int)))) ?_
     refine rvc_un (rexec_makeSlice C eB false l.D.length rfl rfl rfl rfl rfl rfl ⟨by omega, by have := ref_len (by assumption); omega, by have := ref_len (by assumption); show (1 : Int) * (l.D.length : Int) ≤ 140737488355328; omega⟩ rfl rfl rfl rfl ?_)
     refine rvP C (.sl 54 0 l.D.length 1 true) ?_
     refine rvc_nil ?_
     refine Awp.seq ?_
     refine Awp.consP C ?_
     refine rvP C (.sl 54 0 l.D.length 1 true) ?_
     refine rvP C (.pv (.lit (.int .i64 (l.D.length : Int)))) ?_
     refine rvP C (.pv (.lit (.int .i64 0))) ?_
     refine rvc_nil ?_
     refine Awp.block ?_
     refine Awp.forR (σ := ((List Bool))) ((List.replicate l.D.length false).length) (fun i v => [(0, sS (some l.nil) eOp l.D), (3, sS (some (cloneOps l).nil) eOp ((cloneOps l).D)), (4, sS (some (order (cloneOps l)).1.nil) (eI .i64) ((order (cloneOps l)).1.D)), (5, .pv (.lit (.bool ((order (cloneOps l)).2.1)))), (8, .sl 54 0 l.D.length 1 true), (56, .pv (.lit (.int .i64 (l.D.length : Int)))), (57, .pv (.lit (.int .i64 (i : Int))))]) (fun i v => [(54, .cells (encC eB v))]) [54] (fun i v => (lawOrders_l0 l ((List.replicate l.D.length false).drop i) i v = R) ∧ (v.length = l.D.length)) (List.replicate l.D.length false) ?_ ?_ (fun i vc h11 hR => ?_)
     · exact ⟨hR, (by first | omega | (simp <;> omega))⟩
     · exact ⟨fun b => b, WeakerR.ofL (Ks := [54]) hI ⟨⟨rfl, rfl⟩, ⟨rfl, rfl⟩, ⟨rfl, rfl⟩, ⟨rfl, rfl⟩, ⟨rfl, rfl⟩, ⟨rfl, rfl⟩, ⟨rfl, rfl⟩, trivial⟩ (okH_list rfl rfl rfl (okH_nil)) rfl⟩
     obtain ⟨hR, hi_vc⟩ := hR
     replace hi_vc : vc.length = l.D.length := hi_vc
     have hrep_ : (List.replicate l.D.length false).length = l.D.length := List.length_replicate
     refine Awp.consP C ?_
     refine rvP C (.pv (.lit (.bool (decide ((i : Int) < (l.D.length : Int)))))) ?_
     refine rvc_nil ?_
     refine Awp.seq ?_
     refine Awp.cond (b := (decide ((i : Int) < (l.D.length : Int)))) rfl (fun h12 => ?_) (fun h12 => ?_)
     ·
      have h13 : i < (List.replicate l.D.length false).length := by have := of_decide_eq_true h12; omega
      obtain ⟨x, h14⟩ := getX h13
      rw [drop_at h14] at hR
      refine Awp.skip ?_
      refine Awp.seq ?_
      refine Awp.block ?_
      refine Awp.consP C ?_
      refine rvP C (.pv (.lit (.int .i64 (i : Int)))) ?_
      refine rvP C (.pv (.lit (.int .i64 (i : Int)))) ?_
      refine rvc_nil ?_
      refine Awp.regionP C ?_
      refine rvP C (.sl 54 0 l.D.length 1 true) ?_
      refine rvP C (.pv (.lit (.int .i64 (i : Int)))) ?_
      have h15 : vc[i]? = some vc[i]! := getE (by have := of_decide_eq_true h1; have := of_decide_eq_false h2; have := eq_of_bne_false h3; have := eq_of_bne_false h7; have := of_decide_eq_true h12; omega)
      refine rvc_un (rexec_prim C (δ := { v := .ptr 54 (0 + i * 1) }) rfl rfl rfl rfl ⟨(by have := of_decide_eq_true h1; have := of_decide_eq_false h2; have := eq_of_bne_false h3; have := eq_of_bne_false h7; have := of_decide_eq_true h12; omega), getlt h15 (by first | rfl | omega | (have := of_decide_eq_true h1; have := of_decide_eq_false h2; have := eq_of_bne_false h3; have := eq_of_bne_false h7; have := of_decide_eq_true h12; omega)) (by first | rfl | omega | simp)⟩ rfl ?_)
      refine rvc_un (rexec_storeE C (e := eB) i 0 (vc[i]!) true rfl rfl rfl rfl h15 (by simp [eB]) rfl rfl rfl (of_decide_eq_true rfl) rfl ?_)
      refine rvc_nil ?_
      refine Awp.regionP C ?_
      refine rvP C (.pv (.lit (.int .i64 (IntKind.i64.wrap ((i : Int) + 1))))) ?_
      refine rvP C (.pv (.lit (.int .i64 (IntKind.i64.wrap ((i : Int) + 1))))) ?_
      refine rvc_nil ?_
      refine ⟨h13, (vc.set i true), ?_, ?_⟩
      · exact ⟨hR, (by first | omega | (simp <;> omega))⟩
      · exact ⟨fun b => b, WeakerR.ofL (Ks := [54]) hI ⟨⟨rfl, rfl⟩, ⟨rfl, rfl⟩, ⟨rfl, rfl⟩, ⟨rfl, rfl⟩, ⟨rfl, rfl⟩, ⟨rfl, rfl⟩, ⟨lit_cast (wrap_i64 (by omega) (by omega)), rfl⟩, trivial⟩ (okH_list rfl rfl rfl (okH_nil)) rfl⟩
     ·
      have h13 : ¬ i < (List.replicate l.D.length false).length := by have := of_decide_eq_false h12; omega
      rw [drop_end h13] at hR
      refine Awp.exit ?_
      refine Awp.freezeW 54 (encL eB vc) ?_ [(0, sS (some l.nil) eOp l.D), (3, sS (some (cloneOps l).nil) eOp ((cloneOps l).D)), (4, sS (some (order (cloneOps l)).1.nil) (eI .i64) ((order (cloneOps l)).1.D)), (5, .pv (.lit (.bool ((order (cloneOps l)).2.1)))), (8, sS (some false) eB vc)] [] ?_ ?_ ?_
      · rfl
      · exact ⟨⟨_, rfl, .inl (.inl rfl)⟩, ⟨_, rfl, .inl (.inl rfl)⟩, ⟨_, rfl, .inl (.inl rfl)⟩, ⟨_, rfl, .inl (.inl rfl)⟩, ⟨_, rfl, .inl (.inr ⟨_, _, _, rfl, by simp [sS] <;> omega⟩)⟩, trivial⟩
      · exact trivial
      refine Awp.consP C ?_
      refine rvP C (sS (some l.nil) eOp l.D) ?_
      refine rvP C (sS (some false) eB vc) ?_
      refine rvc_un (rexec_call hP C rfl rfl rfl (thereO_calls 65 l (Sl.mk false vc) ⟨#[]⟩ (by first | exact hi_vc | exact hi_vc1) (cnt65 (by assumption) (by first | exact hi_vc | exact hi_vc1)) (by have := ref_len (by assumption); omega)) ?_)
      refine rvP C (.pv (.lit (.bool (thereO 65 l (Sl.mk false vc) ⟨#[]⟩)))) ?_
      refine rvc_nil ?_
      refine Awp.consP C ?_
      refine rvP C (.pv (.lit (.bool ((order (cloneOps l)).2.1)))) ?_
      refine rvP C (.pv (.lit (.bool (thereO 65 l (Sl.mk false vc) ⟨#[]⟩)))) ?_
      refine rvP C (.pv (.lit (.bool (((order (cloneOps l)).2.1) == (thereO 65 l (Sl.mk false vc) ⟨#[]⟩))))) ?_
      refine rvP C (.pv (.lit (.bool (((order (cloneOps l)).2.1) == (thereO 65 l (Sl.mk false vc) ⟨#[]⟩))))) ?_
      refine rvc_case 70 (((order (cloneOps l)).2.1) == (thereO 65 l (Sl.mk false vc) ⟨#[]⟩)) rfl (fun h16 => ?_) (fun h16 => ?_)
      ·
       replace hR := of_true h16 hR
       refine rvO C (.pv (.lit (.bool ((order (cloneOps l)).2.1)))) ?_
       refine rvO C (.pv (.lit (.bool (!((order (cloneOps l)).2.1))))) ?_
       refine rvO C (.pv (.lit (.bool (!((order (cloneOps l)).2.1))))) ?_
       refine rvc_case 73 (!((order (cloneOps l)).2.1)) rfl (fun h17 => ?_) (fun h17 => ?_)
       ·
        replace hR := of_true h17 hR
        refine rvO C (sS (some (order (cloneOps l)).1.nil) (eI .i64) ((order (cloneOps l)).1.D)) ?_
        refine rvO C (.pv (.lit (.int .i64 (((order (cloneOps l)).1.D).length : Int)))) ?_
        refine rvO C (.pv (.lit (.bool ((((order (cloneOps l)).1.D).length : Int) == 0)))) ?_
        refine rvO C (.pv (.lit (.bool ((((order (cloneOps l)).1.D).length : Int) == 0)))) ?_
        refine rvO C (.pv (.lit (.bool ((((order (cloneOps l)).1.D).length : Int) == 0)))) ?_
        refine rvc_case 78 ((((order (cloneOps l)).1.D).length : Int) == 0) rfl (fun h18 => ?_) (fun h18 => ?_)
        ·
         replace hR := of_true h18 hR
         refine rvS ?_
         refine rvS ?_
         refine rvc_shutU rfl rfl rfl ?_
         refine rvc_shutU rfl rfl rfl ?_
         refine rvc_shutU rfl rfl rfl ?_
         refine rvS ?_
         refine rvS ?_
         refine rvc_shutU rfl rfl rfl ?_
         refine rvc_shutU rfl rfl rfl ?_
         refine rvc_shutU rfl rfl rfl ?_
         refine rvS ?_
         refine rvO C (.pv (.lit (.bool true))) ?_
         refine rvP C (.pv (.lit (.bool true))) ?_
         refine rvP C (.pv (.lit (.bool true))) ?_
         refine rvO C (sS (some (cloneOps l).nil) eOp ((cloneOps l).D)) ?_
         refine rvO C (sS (some l.nil) eOp l.D) ?_
         refine rvc_open rfl rfl rfl (rexec_call hP C rfl rfl rfl (eqOps_calls (cloneOps l) l (Nat.le_trans (Nat.le_trans (Nat.le_of_eq (congrArg (fun s : Sl Op => s.D.length) (cloneOps_id l hw))) hl1) (by decide))) ?_)
         refine rvP C (.pv (.lit (.bool (eqOps (cloneOps l) l)))) ?_
         refine rvP C (.pv (.lit (.bool (eqOps (cloneOps l) l)))) ?_
         refine rvc_case 97 (eqOps (cloneOps l) l) rfl (fun h19 => ?_) (fun h19 => ?_)
         ·
          replace hR := of_true h19 hR
          refine rvc_open rfl rfl rfl (rexec_call hP C rfl rfl rfl (awakeL_calls ) ?_)
          refine rvP C (.pv (.lit (.bool (awakeL )))) ?_
          refine rvP C (.pv (.lit (.bool (awakeL )))) ?_
          refine rvc_nil ?_
          refine Awp.ret ?_
          subst hR
          exact ⟨.inl rfl, rfl⟩
         ·
          replace hR := of_false h19 hR
          refine rvS ?_
          refine rvP C (.pv (.lit (.bool false))) ?_
          refine rvP C (.pv (.lit (.bool false))) ?_
          refine rvc_nil ?_
          refine Awp.ret ?_
          subst hR
          exact ⟨.inl rfl, rfl⟩
        ·
         replace hR := of_false h18 hR
         refine rvO C (.pv (.lit (.bool ((order (cloneOps l)).2.1)))) ?_
         refine rvO C (.pv (.lit (.bool ((order (cloneOps l)).2.1)))) ?_
         refine rvc_case 80 ((order (cloneOps l)).2.1) rfl (fun h20 => ?_) (fun h20 => ?_)
         ·
          replace hR := of_true h20 hR
          refine rvO C (sS (some (order (cloneOps l)).1.nil) (eI .i64) ((order (cloneOps l)).1.D)) ?_
          refine rvO C (sS (some l.nil) eOp l.D) ?_
          refine rvc_open rfl rfl rfl (rexec_call hP C rfl rfl rfl (rFits_calls ((order (cloneOps l)).1) l (Nat.le_trans hl1 (by decide)) (Nat.le_trans (order_len (cloneOps l)) (by decide))) ?_)
          refine rvO C (.pv (.lit (.bool (rFits ((order (cloneOps l)).1) l)))) ?_
          refine rvO C (.pv (.lit (.bool (rFits ((order (cloneOps l)).1) l)))) ?_
          refine rvc_case 85 (rFits ((order (cloneOps l)).1) l) rfl (fun h21 => ?_) (fun h21 => ?_)
          ·
           replace hR := of_true h21 hR
           refine rvO C (sS (some (order (cloneOps l)).1.nil) (eI .i64) ((order (cloneOps l)).1.D)) ?_
           refine rvO C (sS (some l.nil) eOp l.D) ?_
           refine rvc_open rfl rfl rfl (rexec_call hP C rfl rfl rfl (fitsL_calls ((order (cloneOps l)).1) l (Nat.le_trans hl1 (by decide)) (Nat.le_trans (order_len (cloneOps l)) (by decide))) ?_)
           refine rvO C (.pv (.lit (.bool (fitsL ((order (cloneOps l)).1) l)))) ?_
           refine rvO C (.pv (.lit (.bool (fitsL ((order (cloneOps l)).1) l)))) ?_
           refine rvP C (.pv (.lit (.bool (fitsL ((order (cloneOps l)).1) l)))) ?_
           refine rvP C (.pv (.lit (.bool (fitsL ((order (cloneOps l)).1) l)))) ?_
           refine rvc_case 92 (fitsL ((order (cloneOps l)).1) l) rfl (fun h22 => ?_) (fun h22 => ?_)
           ·
            replace hR := of_true h22 hR
            refine rvO C (sS (some (cloneOps l).nil) eOp ((cloneOps l).D)) ?_
            refine rvO C (sS (some l.nil) eOp l.D) ?_
            refine rvc_open rfl rfl rfl (rexec_call hP C rfl rfl rfl (eqOps_calls (cloneOps l) l (Nat.le_trans (Nat.le_trans (Nat.le_of_eq (congrArg (fun s : Sl Op => s.D.length) (cloneOps_id l hw))) hl1) (by decide))) ?_)
            refine rvP C (.pv (.lit (.bool (eqOps (cloneOps l) l)))) ?_
            refine rvP C (.pv (.lit (.bool (eqOps (cloneOps l) l)))) ?_
            refine rvc_case 97 (eqOps (cloneOps l) l) rfl (fun h23 => ?_) (fun h23 => ?_)
            ·
             replace hR := of_true h23 hR
             refine rvc_open rfl rfl rfl (rexec_call hP C rfl rfl rfl (awakeL_calls ) ?_)
             refine rvP C (.pv (.lit (.bool (awakeL )))) ?_
             refine rvP C (.pv (.lit (.bool (awakeL )))) ?_
             refine rvc_nil ?_
             refine Awp.ret ?_
             subst hR
             exact ⟨.inl rfl, rfl⟩
            ·
             replace hR := of_false h23 hR
             refine rvS ?_
             refine rvP C (.pv (.lit (.bool false))) ?_
             refine rvP C (.pv (.lit (.bool false))) ?_
             refine rvc_nil ?_
             refine Awp.ret ?_
             subst hR
             exact ⟨.inl rfl, rfl⟩
           ·
            replace hR := of_false h22 hR
            refine rvS ?_
            refine rvS ?_
            refine rvS ?_
            refine rvP C (.pv (.lit (.bool false))) ?_
            refine rvP C (.pv (.lit (.bool false))) ?_
            refine rvS ?_
            refine rvP C (.pv (.lit (.bool false))) ?_
            refine rvP C (.pv (.lit (.bool false))) ?_
            refine rvc_nil ?_
            refine Awp.ret ?_
            subst hR
            exact ⟨.inl rfl, rfl⟩
          ·
           replace hR := of_false h21 hR
           refine rvS ?_
           refine rvS ?_
           refine rvS ?_
           refine rvO C (.pv (.lit (.bool false))) ?_
           refine rvO C (.pv (.lit (.bool false))) ?_
           refine rvP C (.pv (.lit (.bool false))) ?_
           refine rvP C (.pv (.lit (.bool false))) ?_
           refine rvS ?_
           refine rvS ?_
           refine rvS ?_
           refine rvP C (.pv (.lit (.bool false))) ?_
           refine rvP C (.pv (.lit (.bool false))) ?_
           refine rvS ?_
           refine rvP C (.pv (.lit (.bool false))) ?_
           refine rvP C (.pv (.lit (.bool false))) ?_
           refine rvc_nil ?_
           refine Awp.ret ?_
           subst hR
           exact ⟨.inl rfl, rfl⟩
         ·
          replace hR := of_false h20 hR
          refine rvS ?_
          refine rvS ?_
          refine rvS ?_
          refine rvO C (.pv (.lit (.bool false))) ?_
          refine rvO C (.pv (.lit (.bool false))) ?_
          refine rvS ?_
          refine rvS ?_
          refine rvS ?_
          refine rvO C (.pv (.lit (.bool false))) ?_
          refine rvO C (.pv (.lit (.bool false))) ?_
          refine rvP C (.pv (.lit (.bool false))) ?_
          refine rvP C (.pv (.lit (.bool false))) ?_
          refine rvS ?_
          refine rvS ?_
          refine rvS ?_
          refine rvP C (.pv (.lit (.bool false))) ?_
          refine rvP C (.pv (.lit (.bool false))) ?_
          refine rvS ?_
          refine rvP C (.pv (.lit (.bool false))) ?_
          refine rvP C (.pv (.lit (.bool false))) ?_
          refine rvc_nil ?_
          refine Awp.ret ?_
          subst hR
          exact ⟨.inl rfl, rfl⟩
       ·
        replace hR := of_false h17 hR
        refine rvS ?_
        refine rvS ?_
        refine rvS ?_
        refine rvO C (.pv (.lit (.bool false))) ?_
        refine rvO C (.pv (.lit (.bool false))) ?_
        refine rvO C (.pv (.lit (.bool ((order (cloneOps l)).2.1)))) ?_
        refine rvO C (.pv (.lit (.bool ((order (cloneOps l)).2.1)))) ?_
        refine rvc_case 80 ((order (cloneOps l)).2.1) rfl (fun h24 => ?_) (fun h24 => ?_)
        ·
         replace hR := of_true h24 hR
         refine rvO C (sS (some (order (cloneOps l)).1.nil) (eI .i64) ((order (cloneOps l)).1.D)) ?_
         refine rvO C (sS (some l.nil) eOp l.D) ?_
         refine rvc_open rfl rfl rfl (rexec_call hP C rfl rfl rfl (rFits_calls ((order (cloneOps l)).1) l (Nat.le_trans hl1 (by decide)) (Nat.le_trans (order_len (cloneOps l)) (by decide))) ?_)
         refine rvO C (.pv (.lit (.bool (rFits ((order (cloneOps l)).1) l)))) ?_
         refine rvO C (.pv (.lit (.bool (rFits ((order (cloneOps l)).1) l)))) ?_
         refine rvc_case 85 (rFits ((order (cloneOps l)).1) l) rfl (fun h25 => ?_) (fun h25 => ?_)
         ·
          replace hR := of_true h25 hR
          refine rvO C (sS (some (order (cloneOps l)).1.nil) (eI .i64) ((order (cloneOps l)).1.D)) ?_
          refine rvO C (sS (some l.nil) eOp l.D) ?_
          refine rvc_open rfl rfl rfl (rexec_call hP C rfl rfl rfl (fitsL_calls ((order (cloneOps l)).1) l (Nat.le_trans hl1 (by decide)) (Nat.le_trans (order_len (cloneOps l)) (by decide))) ?_)
          refine rvO C (.pv (.lit (.bool (fitsL ((order (cloneOps l)).1) l)))) ?_
          refine rvO C (.pv (.lit (.bool (fitsL ((order (cloneOps l)).1) l)))) ?_
          refine rvP C (.pv (.lit (.bool (fitsL ((order (cloneOps l)).1) l)))) ?_
          refine rvP C (.pv (.lit (.bool (fitsL ((order (cloneOps l)).1) l)))) ?_
          refine rvc_case 92 (fitsL ((order (cloneOps l)).1) l) rfl (fun h26 => ?_) (fun h26 => ?_)
          ·
           replace hR := of_true h26 hR
           refine rvO C (sS (some (cloneOps l).nil) eOp ((cloneOps l).D)) ?_
           refine rvO C (sS (some l.nil) eOp l.D) ?_
           refine rvc_open rfl rfl rfl (rexec_call hP C rfl rfl rfl (eqOps_calls (cloneOps l) l (Nat.le_trans (Nat.le_trans (Nat.le_of_eq (congrArg (fun s : Sl Op => s.D.length) (cloneOps_id l hw))) hl1) (by decide))) ?_)
           refine rvP C (.pv (.lit (.bool (eqOps (cloneOps l) l)))) ?_
           refine rvP C (.pv (.lit (.bool (eqOps (cloneOps l) l)))) ?_
           refine rvc_case 97 (eqOps (cloneOps l) l) rfl (fun h27 => ?_) (fun h27 => ?_)
           ·
            replace hR := of_true h27 hR
            refine rvc_open rfl rfl rfl (rexec_call hP C rfl rfl rfl (awakeL_calls ) ?_)
            refine rvP C (.pv (.lit (.bool (awakeL )))) ?_
            refine rvP C (.pv (.lit (.bool (awakeL )))) ?_
            refine rvc_nil ?_
            refine Awp.ret ?_
            subst hR
            exact ⟨.inl rfl, rfl⟩
           ·
            replace hR := of_false h27 hR
            refine rvS ?_
            refine rvP C (.pv (.lit (.bool false))) ?_
            refine rvP C (.pv (.lit (.bool false))) ?_
            refine rvc_nil ?_
            refine Awp.ret ?_
            subst hR
            exact ⟨.inl rfl, rfl⟩
          ·
           replace hR := of_false h26 hR
           refine rvS ?_
           refine rvS ?_
           refine rvS ?_
           refine rvP C (.pv (.lit (.bool false))) ?_
           refine rvP C (.pv (.lit (.bool false))) ?_
           refine rvS ?_
           refine rvP C (.pv (.lit (.bool false))) ?_
           refine rvP C (.pv (.lit (.bool false))) ?_
           refine rvc_nil ?_
           refine Awp.ret ?_
           subst hR
           exact ⟨.inl rfl, rfl⟩
         ·
          replace hR := of_false h25 hR
          refine rvS ?_
          refine rvS ?_
          refine rvS ?_
          refine rvO C (.pv (.lit (.bool false))) ?_
          refine rvO C (.pv (.lit (.bool false))) ?_
          refine rvP C (.pv (.lit (.bool false))) ?_
          refine rvP C (.pv (.lit (.bool false))) ?_
          refine rvS ?_
          refine rvS ?_
          refine rvS ?_
          refine rvP C (.pv (.lit (.bool false))) ?_
          refine rvP C (.pv (.lit (.bool false))) ?_
          refine rvS ?_
          refine rvP C (.pv (.lit (.bool false))) ?_
          refine rvP C (.pv (.lit (.bool false))) ?_
          refine rvc_nil ?_
          refine Awp.ret ?_
          subst hR
          exact ⟨.inl rfl, rfl⟩
        ·
         replace hR := of_false h24 hR
         refine rvS ?_
         refine rvS ?_
         refine rvS ?_
         refine rvO C (.pv (.lit (.bool false))) ?_
         refine rvO C (.pv (.lit (.bool false))) ?_
         refine rvS ?_
         refine rvS ?_
         refine rvS ?_
         refine rvO C (.pv (.lit (.bool false))) ?_
         refine rvO C (.pv (.lit (.bool false))) ?_
         refine rvP C (.pv (.lit (.bool false))) ?_
         refine rvP C (.pv (.lit (.bool false))) ?_
         refine rvS ?_
         refine rvS ?_
         refine rvS ?_
         refine rvP C (.pv (.lit (.bool false))) ?_
         refine rvP C (.pv (.lit (.bool false))) ?_
         refine rvS ?_
         refine rvP C (.pv (.lit (.bool false))) ?_
         refine rvP C (.pv (.lit (.bool false))) ?_
         refine rvc_nil ?_
         refine Awp.ret ?_
         subst hR
         exact ⟨.inl rfl, rfl⟩
      ·
       replace hR := of_false h16 hR
       refine rvS ?_
       refine rvS ?_
       refine rvS ?_
       refine rvc_shutU rfl rfl rfl ?_
       refine rvc_shutU rfl rfl rfl ?_
       refine rvc_shutU rfl rfl rfl ?_
       refine rvS ?_
       refine rvS ?_
       refine rvc_shutU rfl rfl rfl ?_
       refine rvc_shutU rfl rfl rfl ?_
       refine rvc_shutU rfl rfl rfl ?_
       refine rvc_shutU rfl rfl rfl ?_
       refine rvc_shutU rfl rfl rfl ?_
       refine rvc_shutU rfl rfl rfl ?_
       refine rvc_shutU rfl rfl rfl ?_
       refine rvc_shutU rfl rfl rfl ?_
       refine rvc_shutU rfl rfl rfl ?_
       refine rvc_shutU rfl rfl rfl ?_
       refine rvc_shutU rfl rfl rfl ?_
       refine rvS ?_
       refine rvP C (.pv (.lit (.bool false))) ?_
       refine rvP C (.pv (.lit (.bool false))) ?_
       refine rvS ?_
       refine rvS ?_
       refine rvS ?_
       refine rvP C (.pv (.lit (.bool false))) ?_
       refine rvP C (.pv (.lit (.bool false))) ?_
       refine rvS ?_
       refine rvP C (.pv (.lit (.bool false))) ?_
       refine rvP C (.pv (.lit (.bool false))) ?_
       refine rvc_nil ?_
       refine Awp.ret ?_
       subst hR
       exact ⟨.inl rfl, rfl⟩
 ·
  replace hR := of_false h1 hR
  refine rvS ?_
  refine rvS ?_
  refine rvS ?_
  refine rvP C (.pv (.lit (.bool false))) ?_
  refine rvc_nil ?_
  refine Awp.condF (b := false) rfl rfl ?_
  refine Awp.skip ?_
  refine Awp.consP C ?_
  refine rvP C (sS (some l.nil) eOp l.D) ?_
  refine rvc_un (rexec_call hP C rfl rfl rfl (cloneOps_calls l hl1) ?_)
  refine rvP C (sS (some (cloneOps l).nil) eOp ((cloneOps l).D)) ?_
  refine rvc_nil ?_
  refine Awp.consP C ?_
  refine rvP C (sS (some (cloneOps l).nil) eOp ((cloneOps l).D)) ?_
  refine rvc_un (rexec_call hP C rfl rfl rfl (order_calls (cloneOps l) (Nat.le_trans (Nat.le_trans (Nat.le_of_eq (congrArg (fun s : Sl Op => s.D.length) (cloneOps_id l hw))) hl1) (by decide))) ?_)
  refine rvP C (.tup [sS (some (order (cloneOps l)).1.nil) (eI .i64) ((order (cloneOps l)).1.D), .pv (.lit (.bool ((order (cloneOps l)).2.1))), .pv (.lit (.int .i64 ((order (cloneOps l)).2.2)))]) ?_
  refine rvP C (sS (some (order (cloneOps l)).1.nil) (eI .i64) ((order (cloneOps l)).1.D)) ?_
  refine rvP C (.pv (.lit (.bool ((order (cloneOps l)).2.1)))) ?_
  refine rvP C (.pv (.lit (.int .i64 ((order (cloneOps l)).2.2)))) ?_
  refine rvP C (sS (some (order (cloneOps l)).1.nil) (eI .i64) ((order (cloneOps l)).1.D)) ?_
  refine rvP C (.pv (.lit (.bool ((order (cloneOps l)).2.1)))) ?_
  refine rvP C (.pv (.lit (.int .i64 ((order (cloneOps l)).2.2)))) ?_
  refine rvc_nil ?_
  refine Awp.seq ?_
  refine Awp.consP C ?_
  refine rvP C (sS (some l.nil) eOp l.D) ?_
  refine rvc_un (rexec_call hP C rfl rfl rfl (refRight_calls l (Nat.le_trans hl1 (by decide))) ?_)
  refine rvP C (.pv (.lit (.int .i64 (refRight l)))) ?_
  refine rvc_nil ?_
  refine Awp.consP C ?_
  refine rvP C (.pv (.lit (.int .i64 ((order (cloneOps l)).2.2)))) ?_
  refine rvP C (.pv (.lit (.int .i64 (refRight l)))) ?_
  refine rvP C (.pv (.lit (.bool (((order (cloneOps l)).2.2) != (refRight l))))) ?_
  refine rvP C (.pv (.lit (.bool (((order (cloneOps l)).2.2) != (refRight l))))) ?_
  refine rvc_case 33 (((order (cloneOps l)).2.2) != (refRight l)) rfl (fun h28 => ?_) (fun h28 => ?_)
  ·
   replace hR := of_true h28 hR
   refine rvS ?_
   refine rvS ?_
   refine rvP C (.pv (.lit (.bool true))) ?_
   refine rvc_nil ?_
   refine Awp.condT (b := true) rfl rfl ?_
   refine Awp.consP C ?_
   refine rvP C (.pv (.lit (.int .i64 ((order (cloneOps l)).2.2)))) ?_
   refine rvP C (.pv (.lit (.int .i64 (refRight l)))) ?_
   refine rvP C (.pv (.lit (.bool (((order (cloneOps l)).2.2) == (refRight l))))) ?_
   refine rvP C (.pv (.lit (.bool (((order (cloneOps l)).2.2) == (refRight l))))) ?_
   refine rvc_case 40 (((order (cloneOps l)).2.2) == (refRight l)) rfl (fun h29 => ?_) (fun h29 => ?_)
   ·
    replace hR := of_true h29 hR
    refine rvO C (.pv (.lit (.bool ((order (cloneOps l)).2.1)))) ?_
    refine rvO C (.pv (.lit (.bool (!((order (cloneOps l)).2.1))))) ?_
    refine rvP C (.pv (.lit (.bool (!((order (cloneOps l)).2.1))))) ?_
    refine rvP C (.pv (.lit (.bool (!((order (cloneOps l)).2.1))))) ?_
    refine rvc_case 44 (!((order (cloneOps l)).2.1)) rfl (fun h30 => ?_) (fun h30 => ?_)
    ·
     replace hR := of_true h30 hR
     refine rvO C (sS (some (order (cloneOps l)).1.nil) (eI .i64) ((order (cloneOps l)).1.D)) ?_
     refine rvO C (.pv (.lit (.int .i64 (((order (cloneOps l)).1.D).length : Int)))) ?_
     refine rvO C (.pv (.lit (.bool ((((order (cloneOps l)).1.D).length : Int) == 0)))) ?_
     refine rvP C (.pv (.lit (.bool ((((order (cloneOps l)).1.D).length : Int) == 0)))) ?_
     refine rvP C (.pv (.lit (.bool ((((order (cloneOps l)).1.D).length : Int) == 0)))) ?_
     refine rvc_case 49 ((((order (cloneOps l)).1.D).length : Int) == 0) rfl (fun h31 => ?_) (fun h31 => ?_)
     ·
      replace hR := of_true h31 hR
      refine rvc_open rfl rfl rfl (rexec_call hP C rfl rfl rfl (awakeL_calls ) ?_)
      refine rvP C (.pv (.lit (.bool (awakeL )))) ?_
      refine rvP C (.pv (.lit (.bool (awakeL )))) ?_
      refine rvc_nil ?_
      refine Awp.ret ?_
      subst hR
      exact ⟨.inl rfl, rfl⟩
     ·
      replace hR := of_false h31 hR
      refine rvS ?_
      refine rvP C (.pv (.lit (.bool false))) ?_
      refine rvP C (.pv (.lit (.bool false))) ?_
      refine rvc_nil ?_
      refine Awp.ret ?_
      subst hR
      exact ⟨.inl rfl, rfl⟩
    ·
     replace hR := of_false h30 hR
     refine rvS ?_
     refine rvS ?_
     refine rvS ?_
     refine rvP C (.pv (.lit (.bool false))) ?_
     refine rvP C (.pv (.lit (.bool false))) ?_
     refine rvS ?_
     refine rvP C (.pv (.lit (.bool false))) ?_
     refine rvP C (.pv (.lit (.bool false))) ?_
     refine rvc_nil ?_
     refine Awp.ret ?_
     subst hR
     exact ⟨.inl rfl, rfl⟩
   ·
    replace hR := of_false h29 hR
    refine rvS ?_
    refine rvS ?_
    refine rvP C (.pv (.lit (.bool false))) ?_
    refine rvP C (.pv (.lit (.bool false))) ?_
    refine rvS ?_
    refine rvS ?_
    refine rvS ?_
    refine rvP C (.pv (.lit (.bool false))) ?_
    refine rvP C (.pv (.lit (.bool false))) ?_
    refine rvS ?_
    refine rvP C (.pv (.lit (.bool false))) ?_
    refine rvP C (.pv (.lit (.bool false))) ?_
    refine rvc_nil ?_
    refine Awp.ret ?_
    subst hR
    exact ⟨.inl rfl, rfl⟩
  ·
   replace hR := of_false h28 hR
   refine rvO C (.pv (.lit (.int .i64 (refRight l)))) ?_
   refine rvO C (.pv (.lit (.bool ((refRight l) != 0)))) ?_
   refine rvP C (.pv (.lit (.bool ((refRight l) != 0)))) ?_
   refine rvc_nil ?_
   refine Awp.cond (b := ((refRight l) != 0)) rfl (fun h32 => ?_) (fun h32 => ?_)
   ·
    replace hR := of_true h32 hR
    refine Awp.consP C ?_
    refine rvP C (.pv (.lit (.int .i64 ((order (cloneOps l)).2.2)))) ?_
    refine rvP C (.pv (.lit (.int .i64 (refRight l)))) ?_
    refine rvP C (.pv (.lit (.bool (((order (cloneOps l)).2.2) == (refRight l))))) ?_
    refine rvP C (.pv (.lit (.bool (((order (cloneOps l)).2.2) == (refRight l))))) ?_
    refine rvc_case 40 (((order (cloneOps l)).2.2) == (refRight l)) rfl (fun h33 => ?_) (fun h33 => ?_)
    ·
     replace hR := of_true h33 hR
     refine rvO C (.pv (.lit (.bool ((order (cloneOps l)).2.1)))) ?_
     refine rvO C (.pv (.lit (.bool (!((order (cloneOps l)).2.1))))) ?_
     refine rvP C (.pv (.lit (.bool (!((order (cloneOps l)).2.1))))) ?_
     refine rvP C (.pv (.lit (.bool (!((order (cloneOps l)).2.1))))) ?_
     refine rvc_case 44 (!((order (cloneOps l)).2.1)) rfl (fun h34 => ?_) (fun h34 => ?_)
     ·
      replace hR := of_true h34 hR
      refine rvO C (sS (some (order (cloneOps l)).1.nil) (eI .i64) ((order (cloneOps l)).1.D)) ?_
      refine rvO C (.pv (.lit (.int .i64 (((order (cloneOps l)).1.D).length : Int)))) ?_
      refine rvO C (.pv (.lit (.bool ((((order (cloneOps l)).1.D).length : Int) == 0)))) ?_
      refine rvP C (.pv (.lit (.bool ((((order (cloneOps l)).1.D).length : Int) == 0)))) ?_
      refine rvP C (.pv (.lit (.bool ((((order (cloneOps l)).1.D).length : Int) == 0)))) ?_
      refine rvc_case 49 ((((order (cloneOps l)).1.D).length : Int) == 0) rfl (fun h35 => ?_) (fun h35 => ?_)
      ·
       replace hR := of_true h35 hR
       refine rvc_open rfl rfl rfl (rexec_call hP C rfl rfl rfl (awakeL_calls ) ?_)
       refine rvP C (.pv (.lit (.bool (awakeL )))) ?_
       refine rvP C (.pv (.lit (.bool (awakeL )))) ?_
       refine rvc_nil ?_
       refine Awp.ret ?_
       subst hR
       exact ⟨.inl rfl, rfl⟩
      ·
       replace hR := of_false h35 hR
       refine rvS ?_
       refine rvP C (.pv (.lit (.bool false))) ?_
       refine rvP C (.pv (.lit (.bool false))) ?_
       refine rvc_nil ?_
       refine Awp.ret ?_
       subst hR
       exact ⟨.inl rfl, rfl⟩
     ·
      replace hR := of_false h34 hR
      refine rvS ?_
      refine rvS ?_
      refine rvS ?_
      refine rvP C (.pv (.lit (.bool false))) ?_
      refine rvP C (.pv (.lit (.bool false))) ?_
      refine rvS ?_
      refine rvP C (.pv (.lit (.bool false))) ?_
      refine rvP C (.pv (.lit (.bool false))) ?_
      refine rvc_nil ?_
      refine Awp.ret ?_
      subst hR
      exact ⟨.inl rfl, rfl⟩
    ·
     replace hR := of_false h33 hR
     refine rvS ?_
     refine rvS ?_
     refine rvP C (.pv (.lit (.bool false))) ?_
     refine rvP C (.pv (.lit (.bool false))) ?_
     refine rvS ?_
     refine rvS ?_
     refine rvS ?_
     refine rvP C (.pv (.lit (.bool false))) ?_
     refine rvP C (.pv (.lit (.bool false))) ?_
     refine rvS ?_
     refine rvP C (.pv (.lit (.bool false))) ?_
     refine rvP C (.pv (.lit (.bool false))) ?_
     refine rvc_nil ?_
     refine Awp.ret ?_
     subst hR
     exact ⟨.inl rfl, rfl⟩
   ·
    replace hR := of_false h32 hR
    refine Awp.skip ?_
    refine Awp.consP C ?_
    refine rvP C (sS (some l.nil) eOp l.D) ?_
    refine rvP C (.pv (.lit (.int .i64 (l.D.length : Int)))) ?_
    refine rvc_un (rexec_makeSlice C eB false l.D.length rfl rfl rfl rfl rfl rfl ⟨by omega, by have := ref_len (by assumption); omega, by have := ref_len (by assumption); show (1 : Int) * (l.D.length : Int) ≤ 140737488355328; omega⟩ rfl rfl rfl rfl ?_)
    refine rvP C (.sl 54 0 l.D.length 1 true) ?_
    refine rvc_nil ?_
    refine Awp.seq ?_
    refine Awp.consP C ?_
    refine rvP C (.sl 54 0 l.D.length 1 true) ?_
    refine rvP C (.pv (.lit (.int .i64 (l.D.length : Int)))) ?_
    refine rvP C (.pv (.lit (.int .i64 0))) ?_
    refine rvc_nil ?_
    refine Awp.block ?_
    refine Awp.forR (σ := ((List Bool))) ((List.replicate l.D.length false).length) (fun i1 v => [(0, sS (some l.nil) eOp l.D), (3, sS (some (cloneOps l).nil) eOp ((cloneOps l).D)), (4, sS (some (order (cloneOps l)).1.nil) (eI .i64) ((order (cloneOps l)).1.D)), (5, .pv (.lit (.bool ((order (cloneOps l)).2.1)))), (8, .sl 54 0 l.D.length 1 true), (56, .pv (.lit (.int .i64 (l.D.length : Int)))), (57, .pv (.lit (.int .i64 (i1 : Int))))]) (fun i1 v => [(54, .cells (encC eB v))]) [54] (fun i1 v => (lawOrders_l0 l ((List.replicate l.D.length false).drop i1) i1 v = R) ∧ (v.length = l.D.length)) (List.replicate l.D.length false) ?_ ?_ (fun i1 vc1 h36 hR => ?_)
    · exact ⟨hR, (by first | omega | (simp <;> omega))⟩
    · exact ⟨fun b => b, WeakerR.ofL (Ks := [54]) hI ⟨⟨rfl, rfl⟩, ⟨rfl, rfl⟩, ⟨rfl, rfl⟩, ⟨rfl, rfl⟩, ⟨rfl, rfl⟩, ⟨rfl, rfl⟩, ⟨rfl, rfl⟩, trivial⟩ (okH_list rfl rfl rfl (okH_nil)) rfl⟩
    obtain ⟨hR, hi_vc1⟩ := hR
    replace hi_vc1 : vc1.length = l.D.length := hi_vc1
    have hrep_ : (List.replicate l.D.length false).length = l.D.length := List.length_replicate
    refine Awp.consP C ?_
    refine rvP C (.pv (.lit (.bool (decide ((i1 : Int) < (l.D.length : Int)))))) ?_
    refine rvc_nil ?_
    refine Awp.seq ?_
    refine Awp.cond (b := (decide ((i1 : Int) < (l.D.length : Int)))) rfl (fun h37 => ?_) (fun h37 => ?_)
    ·
     have h38 : i1 < (List.replicate l.D.length false).length := by have := of_decide_eq_true h37; omega
     obtain ⟨x1, h39⟩ := getX h38
     rw [drop_at h39] at hR
     refine Awp.skip ?_
     refine Awp.seq ?_
     refine Awp.block ?_
     refine Awp.consP C ?_
     refine rvP C (.pv (.lit (.int .i64 (i1 : Int)))) ?_
     refine rvP C (.pv (.lit (.int .i64 (i1 : Int)))) ?_
     refine rvc_nil ?_
     refine Awp.regionP C ?_
     refine rvP C (.sl 54 0 l.D.length 1 true) ?_
     refine rvP C (.pv (.lit (.int .i64 (i1 : Int)))) ?_
     have h40 : vc1[i1]? = some vc1[i1]! := getE (by have := of_decide_eq_false h1; have := eq_of_bne_false h28; have := eq_of_bne_false h32; have := of_decide_eq_true h37; omega)
     refine rvc_un (rexec_prim C (δ := { v := .ptr 54 (0 + i1 * 1) }) rfl rfl rfl rfl ⟨(by have := of_decide_eq_false h1; have := eq_of_bne_false h28; have := eq_of_bne_false h32; have := of_decide_eq_true h37; omega), getlt h40 (by first | rfl | omega | (have := of_decide_eq_false h1; have := eq_of_bne_false h28; have := eq_of_bne_false h32; have := of_decide_eq_true h37; omega)) (by first | rfl | omega | simp)⟩ rfl ?_)
     refine rvc_un (rexec_storeE C (e := eB) i1 0 (vc1[i1]!) true rfl rfl rfl rfl h40 (by simp [eB]) rfl rfl rfl (of_decide_eq_true rfl) rfl ?_)
     refine rvc_nil ?_
     refine Awp.regionP C ?_
     refine rvP C (.pv (.lit (.int .i64 (IntKind.i64.wrap ((i1 : Int) + 1))))) ?_
     refine rvP C (.pv (.lit (.int .i64 (IntKind.i64.wrap ((i1 : Int) + 1))))) ?_
     refine rvc_nil ?_
     refine ⟨h38, (vc1.set i1 true), ?_, ?_⟩
     · exact ⟨hR, (by first | omega | (simp <;> omega))⟩
     · exact ⟨fun b => b, WeakerR.ofL (Ks := [54]) hI ⟨⟨rfl, rfl⟩, ⟨rfl, rfl⟩, ⟨rfl, rfl⟩, ⟨rfl, rfl⟩, ⟨rfl, rfl⟩, ⟨rfl, rfl⟩, ⟨lit_cast (wrap_i64 (by omega) (by omega)), rfl⟩, trivial⟩ (okH_list rfl rfl rfl (okH_nil)) rfl⟩
    ·
     have h38 : ¬ i1 < (List.replicate l.D.length false).length := by have := of_decide_eq_false h37; omega
     rw [drop_end h38] at hR
     refine Awp.exit ?_
     refine Awp.freezeW 54 (encL eB vc1) ?_ [(0, sS (some l.nil) eOp l.D), (3, sS (some (cloneOps l).nil) eOp ((cloneOps l).D)), (4, sS (some (order (cloneOps l)).1.nil) (eI .i64) ((order (cloneOps l)).1.D)), (5, .pv (.lit (.bool ((order (cloneOps l)).2.1)))), (8, sS (some false) eB vc1)] [] ?_ ?_ ?_
     · rfl
     · exact ⟨⟨_, rfl, .inl (.inl rfl)⟩, ⟨_, rfl, .inl (.inl rfl)⟩, ⟨_, rfl, .inl (.inl rfl)⟩, ⟨_, rfl, .inl (.inl rfl)⟩, ⟨_, rfl, .inl (.inr ⟨_, _, _, rfl, by simp [sS] <;> omega⟩)⟩, trivial⟩
     · exact trivial
     refine Awp.consP C ?_
     refine rvP C (sS (some l.nil) eOp l.D) ?_
     refine rvP C (sS (some false) eB vc1) ?_
     refine rvc_un (rexec_call hP C rfl rfl rfl (thereO_calls 65 l (Sl.mk false vc1) ⟨#[]⟩ (by first | exact hi_vc | exact hi_vc1) (cnt65 (by assumption) (by first | exact hi_vc | exact hi_vc1)) (by have := ref_len (by assumption); omega)) ?_)
     refine rvP C (.pv (.lit (.bool (thereO 65 l (Sl.mk false vc1) ⟨#[]⟩)))) ?_
     refine rvc_nil ?_
     refine Awp.consP C ?_
     refine rvP C (.pv (.lit (.bool ((order (cloneOps l)).2.1)))) ?_
     refine rvP C (.pv (.lit (.bool (thereO 65 l (Sl.mk false vc1) ⟨#[]⟩)))) ?_
     refine rvP C (.pv (.lit (.bool (((order (cloneOps l)).2.1) == (thereO 65 l (Sl.mk false vc1) ⟨#[]⟩))))) ?_
     refine rvP C (.pv (.lit (.bool (((order (cloneOps l)).2.1) == (thereO 65 l (Sl.mk false vc1) ⟨#[]⟩))))) ?_
     refine rvc_case 70 (((order (cloneOps l)).2.1) == (thereO 65 l (Sl.mk false vc1) ⟨#[]⟩)) rfl (fun h41 => ?_) (fun h41 => ?_)
     ·
      replace hR := of_true h41 hR
      refine rvO C (.pv (.lit (.bool ((order (cloneOps l)).2.1)))) ?_
      refine rvO C (.pv (.lit (.bool (!((order (cloneOps l)).2.1))))) ?_
      refine rvO C (.pv (.lit (.bool (!((order (cloneOps l)).2.1))))) ?_
      refine rvc_case 73 (!((order (cloneOps l)).2.1)) rfl (fun h42 => ?_) (fun h42 => ?_)
      ·
       replace hR := of_true h42 hR
       refine rvO C (sS (some (order (cloneOps l)).1.nil) (eI .i64) ((order (cloneOps l)).1.D)) ?_
       refine rvO C (.pv (.lit (.int .i64 (((order (cloneOps l)).1.D).length : Int)))) ?_
       refine rvO C (.pv (.lit (.bool ((((order (cloneOps l)).1.D).length : Int) == 0)))) ?_
       refine rvO C (.pv (.lit (.bool ((((order (cloneOps l)).1.D).length : Int) == 0)))) ?_
       refine rvO C (.pv (.lit (.bool ((((order (cloneOps l)).1.D).length : Int) == 0)))) ?_
       refine rvc_case 78 ((((order (cloneOps l)).1.D).length : Int) == 0) rfl (fun h43 => ?_) (fun h43 => ?_)
       ·
        replace hR := of_true h43 hR
        refine rvS ?_
        refine rvS ?_
        refine rvc_shutU rfl rfl rfl ?_
        refine rvc_shutU rfl rfl rfl ?_
        refine rvc_shutU rfl rfl rfl ?_
        refine rvS ?_
        refine rvS ?_
        refine rvc_shutU rfl rfl rfl ?_
        refine rvc_shutU rfl rfl rfl ?_
        refine rvc_shutU rfl rfl rfl ?_
        refine rvS ?_
        refine rvO C (.pv (.lit (.bool true))) ?_
        refine rvP C (.pv (.lit (.bool true))) ?_
        refine rvP C (.pv (.lit (.bool true))) ?_
        refine rvO C (sS (some (cloneOps l).nil) eOp ((cloneOps l).D)) ?_
        refine rvO C (sS (some l.nil) eOp l.D) ?_
        refine rvc_open rfl rfl rfl (rexec_call hP C rfl rfl rfl (eqOps_calls (cloneOps l) l (Nat.le_trans (Nat.le_trans (Nat.le_of_eq (congrArg (fun s : Sl Op => s.D.length) (cloneOps_id l hw))) hl1) (by decide))) ?_)
        refine rvP C (.pv (.lit (.bool (eqOps (cloneOps l) l)))) ?_
        refine rvP C (.pv (.lit (.bool (eqOps (cloneOps l) l)))) ?_
        refine rvc_case 97 (eqOps (cloneOps l) l) rfl (fun h44 => ?_) (fun h44 => ?_)
        ·
         replace hR := of_true h44 hR
         refine rvc_open rfl rfl rfl (rexec_call hP C rfl rfl rfl (awakeL_calls ) ?_)
         refine rvP C (.pv (.lit (.bool (awakeL )))) ?_
         refine rvP C (.pv (.lit (.bool (awakeL )))) ?_
         refine rvc_nil ?_
         refine Awp.ret ?_
         subst hR
         exact ⟨.inl rfl, rfl⟩
        ·
         replace hR := of_false h44 hR
         refine rvS ?_
         refine rvP C (.pv (.lit (.bool false))) ?_
         refine rvP C (.pv (.lit (.bool false))) ?_
         refine rvc_nil ?_
         refine Awp.ret ?_
         subst hR
         exact ⟨.inl rfl, rfl⟩
       ·
        replace hR := of_false h43 hR
        refine rvO C (.pv (.lit (.bool ((order (cloneOps l)).2.1)))) ?_
        refine rvO C (.pv (.lit (.bool ((order (cloneOps l)).2.1)))) ?_
        refine rvc_case 80 ((order (cloneOps l)).2.1) rfl (fun h45 => ?_) (fun h45 => ?_)
        ·
         replace hR := of_true h45 hR
         refine rvO C (sS (some (order (cloneOps l)).1.nil) (eI .i64) ((order (cloneOps l)).1.D)) ?_
         refine rvO C (sS (some l.nil) eOp l.D) ?_
         refine rvc_open rfl rfl rfl (rexec_call hP C rfl rfl rfl (rFits_calls ((order (cloneOps l)).1) l (Nat.le_trans hl1 (by decide)) (Nat.le_trans (order_len (cloneOps l)) (by decide))) ?_)
         refine rvO C (.pv (.lit (.bool (rFits ((order (cloneOps l)).1) l)))) ?_
         refine rvO C (.pv (.lit (.bool (rFits ((order (cloneOps l)).1) l)))) ?_
         refine rvc_case 85 (rFits ((order (cloneOps l)).1) l) rfl (fun h46 => ?_) (fun h46 => ?_)
         ·
          replace hR := of_true h46 hR
          refine rvO C (sS (some (order (cloneOps l)).1.nil) (eI .i64) ((order (cloneOps l)).1.D)) ?_
          refine rvO C (sS (some l.nil) eOp l.D) ?_
          refine rvc_open rfl rfl rfl (rexec_call hP C rfl rfl rfl (fitsL_calls ((order (cloneOps l)).1) l (Nat.le_trans hl1 (by decide)) (Nat.le_trans (order_len (cloneOps l)) (by decide))) ?_)
          refine rvO C (.pv (.lit (.bool (fitsL ((order (cloneOps l)).1) l)))) ?_
          refine rvO C (.pv (.lit (.bool (fitsL ((order (cloneOps l)).1) l)))) ?_
          refine rvP C (.pv (.lit (.bool (fitsL ((order (cloneOps l)).1) l)))) ?_
          refine rvP C (.pv (.lit (.bool (fitsL ((order (cloneOps l)).1) l)))) ?_
          refine rvc_case 92 (fitsL ((order (cloneOps l)).1) l) rfl (fun h47 => ?_) (fun h47 => ?_)
          ·
           replace hR := of_true h47 hR
           refine rvO C (sS (some (cloneOps l).nil) eOp ((cloneOps l).D)) ?_
           refine rvO C (sS (some l.nil) eOp l.D) ?_
           refine rvc_open rfl rfl rfl (rexec_call hP C rfl rfl rfl (eqOps_calls (cloneOps l) l (Nat.le_trans (Nat.le_trans (Nat.le_of_eq (congrArg (fun s : Sl Op => s.D.length) (cloneOps_id l hw))) hl1) (by decide))) ?_)
           refine rvP C (.pv (.lit (.bool (eqOps (cloneOps l) l)))) ?_
           refine rvP C (.pv (.lit (.bool (eqOps (cloneOps l) l)))) ?_
           refine rvc_case 97 (eqOps (cloneOps l) l) rfl (fun h48 => ?_) (fun h48 => ?_)
           ·
            replace hR := of_true h48 hR
            refine rvc_open rfl rfl rfl (rexec_call hP C rfl rfl rfl (awakeL_calls ) ?_)
            refine rvP C (.pv (.lit (.bool (awakeL )))) ?_
            refine rvP C (.pv (.lit (.bool (awakeL )))) ?_
            refine rvc_nil ?_
            refine Awp.ret ?_
            subst hR
            exact ⟨.inl rfl, rfl⟩
           ·
            replace hR := of_false h48 hR
            refine rvS ?_
            refine rvP C (.pv (.lit (.bool false))) ?_
            refine rvP C (.pv (.lit (.bool false))) ?_
            refine rvc_nil ?_
            refine Awp.ret ?_
            subst hR
            exact ⟨.inl rfl, rfl⟩
          ·
           replace hR := of_false h47 hR
           refine rvS ?_
           refine rvS ?_
           refine rvS ?_
           refine rvP C (.pv (.lit (.bool false))) ?_
           refine rvP C (.pv (.lit (.bool false))) ?_
           refine rvS ?_
           refine rvP C (.pv (.lit (.bool false))) ?_
           refine rvP C (.pv (.lit (.bool false))) ?_
           refine rvc_nil ?_
           refine Awp.ret ?_
           subst hR
           exact ⟨.inl rfl, rfl⟩
         ·
          replace hR := of_false h46 hR
          refine rvS ?_
          refine rvS ?_
          refine rvS ?_
          refine rvO C (.pv (.lit (.bool false))) ?_
          refine rvO C (.pv (.lit (.bool false))) ?_
          refine rvP C (.pv (.lit (.bool false))) ?_
          refine rvP C (.pv (.lit (.bool false))) ?_
          refine rvS ?_
          refine rvS ?_
          refine rvS ?_
          refine rvP C (.pv (.lit (.bool false))) ?_
          refine rvP C (.pv (.lit (.bool false))) ?_
          refine rvS ?_
          refine rvP C (.pv (.lit (.bool false))) ?_
          refine rvP C (.pv (.lit (.bool false))) ?_
          refine rvc_nil ?_
          refine Awp.ret ?_
          subst hR
          exact ⟨.inl rfl, rfl⟩
        ·
         replace hR := of_false h45 hR
         refine rvS ?_
         refine rvS ?_
         refine rvS ?_
         refine rvO C (.pv (.lit (.bool false))) ?_
         refine rvO C (.pv (.lit (.bool false))) ?_
         refine rvS ?_
         refine rvS ?_
         refine rvS ?_
         refine rvO C (.pv (.lit (.bool false))) ?_
         refine rvO C (.pv (.lit (.bool false))) ?_
         refine rvP C (.pv (.lit (.bool false))) ?_
         refine rvP C (.pv (.lit (.bool false))) ?_
         refine rvS ?_
         refine rvS ?_
         refine rvS ?_
         refine rvP C (.pv (.lit (.bool false))) ?_
         refine rvP C (.pv (.lit (.bool false))) ?_
         refine rvS ?_
         refine rvP C (.pv (.lit (.bool false))) ?_
         refine rvP C (.pv (.lit (.bool false))) ?_
         refine rvc_nil ?_
         refine Awp.ret ?_
         subst hR
         exact ⟨.inl rfl, rfl⟩
      ·
       replace hR := of_false h42 hR
       refine rvS ?_
       refine rvS ?_
       refine rvS ?_
       refine rvO C (.pv (.lit (.bool false))) ?_
       refine rvO C (.pv (.lit (.bool false))) ?_
       refine rvO C (.pv (.lit (.bool ((order (cloneOps l)).2.1)))) ?_
       refine rvO C (.pv (.lit (.bool ((order (cloneOps l)).2.1)))) ?_
       refine rvc_case 80 ((order (cloneOps l)).2.1) rfl (fun h49 => ?_) (fun h49 => ?_)
       ·
        replace hR := of_true h49 hR
        refine rvO C (sS (some (order (cloneOps l)).1.nil) (eI .i64) ((order (cloneOps l)).1.D)) ?_
        refine rvO C (sS (some l.nil) eOp l.D) ?_
        refine rvc_open rfl rfl rfl (rexec_call hP C rfl rfl rfl (rFits_calls ((order (cloneOps l)).1) l (Nat.le_trans hl1 (by decide)) (Nat.le_trans (order_len (cloneOps l)) (by decide))) ?_)
        refine rvO C (.pv (.lit (.bool (rFits ((order (cloneOps l)).1) l)))) ?_
        refine rvO C (.pv (.lit (.bool (rFits ((order (cloneOps l)).1) l)))) ?_
        refine rvc_case 85 (rFits ((order (cloneOps l)).1) l) rfl (fun h50 => ?_) (fun h50 => ?_)
        ·
         replace hR := of_true h50 hR
         refine rvO C (sS (some (order (cloneOps l)).1.nil) (eI .i64) ((order (cloneOps l)).1.D)) ?_
         refine rvO C (sS (some l.nil) eOp l.D) ?_
         refine rvc_open rfl rfl rfl (rexec_call hP C rfl rfl rfl (fitsL_calls ((order (cloneOps l)).1) l (Nat.le_trans hl1 (by decide)) (Nat.le_trans (order_len (cloneOps l)) (by decide))) ?_)
         refine rvO C (.pv (.lit (.bool (fitsL ((order (cloneOps l)).1) l)))) ?_
         refine rvO C (.pv (.lit (.bool (fitsL ((order (cloneOps l)).1) l)))) ?_
         refine rvP C (.pv (.lit (.bool (fitsL ((order (cloneOps l)).1) l)))) ?_
         refine rvP C (.pv (.lit (.bool (fitsL ((order (cloneOps l)).1) l)))) ?_
         refine rvc_case 92 (fitsL ((order (cloneOps l)).1) l) rfl (fun h51 => ?_) (fun h51 => ?_)
         ·
          replace hR := of_true h51 hR
          refine rvO C (sS (some (cloneOps l).nil) eOp ((cloneOps l).D)) ?_
          refine rvO C (sS (some l.nil) eOp l.D) ?_
          refine rvc_open rfl rfl rfl (rexec_call hP C rfl rfl rfl (eqOps_calls (cloneOps l) l (Nat.le_trans (Nat.le_trans (Nat.le_of_eq (congrArg (fun s : Sl Op => s.D.length) (cloneOps_id l hw))) hl1) (by decide))) ?_)
          refine rvP C (.pv (.lit (.bool (eqOps (cloneOps l) l)))) ?_
          refine rvP C (.pv (.lit (.bool (eqOps (cloneOps l) l)))) ?_
          refine rvc_case 97 (eqOps (cloneOps l) l) rfl (fun h52 => ?_) (fun h52 => ?_)
          ·
           replace hR := of_true h52 hR
           refine rvc_open rfl rfl rfl (rexec_call hP C rfl rfl rfl (awakeL_calls ) ?_)
           refine rvP C (.pv (.lit (.bool (awakeL )))) ?_
           refine rvP C (.pv (.lit (.bool (awakeL )))) ?_
           refine rvc_nil ?_
           refine Awp.ret ?_
           subst hR
           exact ⟨.inl rfl, rfl⟩
          ·
           replace hR := of_false h52 hR
           refine rvS ?_
           refine rvP C (.pv (.lit (.bool false))) ?_
           refine rvP C (.pv (.lit (.bool false))) ?_
           refine rvc_nil ?_
           refine Awp.ret ?_
           subst hR
           exact ⟨.inl rfl, rfl⟩
         ·
          replace hR := of_false h51 hR
          refine rvS ?_
          refine rvS ?_
          refine rvS ?_
          refine rvP C (.pv (.lit (.bool false))) ?_
          refine rvP C (.pv (.lit (.bool false))) ?_
          refine rvS ?_
          refine rvP C (.pv (.lit (.bool false))) ?_
          refine rvP C (.pv (.lit (.bool false))) ?_
          refine rvc_nil ?_
          refine Awp.ret ?_
          subst hR
          exact ⟨.inl rfl, rfl⟩
        ·
         replace hR := of_false h50 hR
         refine rvS ?_
         refine rvS ?_
         refine rvS ?_
         refine rvO C (.pv (.lit (.bool false))) ?_
         refine rvO C (.pv (.lit (.bool false))) ?_
         refine rvP C (.pv (.lit (.bool false))) ?_
         refine rvP C (.pv (.lit (.bool false))) ?_
         refine rvS ?_
         refine rvS ?_
         refine rvS ?_
         refine rvP C (.pv (.lit (.bool false))) ?_
         refine rvP C (.pv (.lit (.bool false))) ?_
         refine rvS ?_
         refine rvP C (.pv (.lit (.bool false))) ?_
         refine rvP C (.pv (.lit (.bool false))) ?_
         refine rvc_nil ?_
         refine Awp.ret ?_
         subst hR
         exact ⟨.inl rfl, rfl⟩
       ·
        replace hR := of_false h49 hR
        refine rvS ?_
        refine rvS ?_
        refine rvS ?_
        refine rvO C (.pv (.lit (.bool false))) ?_
        refine rvO C (.pv (.lit (.bool false))) ?_
        refine rvS ?_
        refine rvS ?_
        refine rvS ?_
        refine rvO C (.pv (.lit (.bool false))) ?_
        refine rvO C (.pv (.lit (.bool false))) ?_
        refine rvP C (.pv (.lit (.bool false))) ?_
        refine rvP C (.pv (.lit (.bool false))) ?_
        refine rvS ?_
        refine rvS ?_
        refine rvS ?_
        refine rvP C (.pv (.lit (.bool false))) ?_
        refine rvP C (.pv (.lit (.bool false))) ?_
        refine rvS ?_
        refine rvP C (.pv (.lit (.bool false))) ?_
        refine rvP C (.pv (.lit (.bool false))) ?_
        refine rvc_nil ?_
        refine Awp.ret ?_
        subst hR
        exact ⟨.inl rfl, rfl⟩
     ·
      replace hR := of_false h41 hR
      refine rvS ?_
      refine rvS ?_
      refine rvS ?_
      refine rvc_shutU rfl rfl rfl ?_
      refine rvc_shutU rfl rfl rfl ?_
      refine rvc_shutU rfl rfl rfl ?_
      refine rvS ?_
      refine rvS ?_
      refine rvc_shutU rfl rfl rfl ?_
      refine rvc_shutU rfl rfl rfl ?_
      refine rvc_shutU rfl rfl rfl ?_
      refine rvc_shutU rfl rfl rfl ?_
      refine rvc_shutU rfl rfl rfl ?_
      refine rvc_shutU rfl rfl rfl ?_
      refine rvc_shutU rfl rfl rfl ?_
      refine rvc_shutU rfl rfl rfl ?_
      refine rvc_shutU rfl rfl rfl ?_
      refine rvc_shutU rfl rfl rfl ?_
      refine rvc_shutU rfl rfl rfl ?_
      refine rvS ?_
      refine rvP C (.pv (.lit (.bool false))) ?_
      refine rvP C (.pv (.lit (.bool false))) ?_
      refine rvS ?_
      refine rvS ?_
      refine rvS ?_
      refine rvP C (.pv (.lit (.bool false))) ?_
      refine rvP C (.pv (.lit (.bool false))) ?_
      refine rvS ?_
      refine rvP C (.pv (.lit (.bool false))) ?_
      refine rvP C (.pv (.lit (.bool false))) ?_
      refine rvc_nil ?_
      refine Awp.ret ?_
      subst hR
      exact ⟨.inl rfl, rfl⟩
end Go.Proofs.Ytaoagcdljmpllaa
/- LinOrders: a search finds an order if there is one; what it finds fits. No conditions. -/
namespace Go.Proofs.Ytaoagcdljmpllaa
open Go.Am
theorem eqOps_refl (l : Sl Op) : eqOps l l = true := by
  unfold eqOps
  have e : ((l.D.length : Int) != (l.D.length : Int)) = false := by simp
  rw [e, cond_false]
  have := (loop_iff (f := eqOps_l0 l) (c := fun (i : Nat) (x : Op) => !((x.write == (l.D[(i : Int).toNat]!.write)) && ((x.value.toList == (l.D[(i : Int).toNat]!.value).toList) && ((x.ver == (l.D[(i : Int).toNat]!.ver)) && ((x.began == (l.D[(i : Int).toNat]!.began)) && ((x.ended == (l.D[(i : Int).toNat]!.ended)) && true)))))) (fun _ => rfl) (fun x xs j => rfl) l.D 0).2
  refine this fun k x hk => ?_
  rw [Nat.zero_add, Int.toNat_natCast, getI hk]
  simp
theorem any_iff {α : Type} {f : List α → Nat → Bool} {c : Nat → α → Bool} (h0 : ∀ j, f [] j = false) (h1 : ∀ x xs j, f (x :: xs) j = bif c j x then true else f xs (j + 1)) : ∀ (ys : List α) (j : Nat), f ys j = true ↔ ∃ k x, ys[k]? = some x ∧ c (j + k) x = true
  | [], j => by simp [h0]
  | y :: ys, j => by
    rw [h1]
    cases hc : c j y
    · rw [cond_false, any_iff h0 h1 ys (j + 1)]
      constructor
      · rintro ⟨k, x, h2, h3⟩
        exact ⟨k + 1, x, by rw [List.getElem?_cons_succ]; exact h2, by rwa [show j + (k + 1) = j + 1 + k by omega]⟩
      · rintro ⟨k, x, h2, h3⟩
        cases k with
        | zero => simp only [List.getElem?_cons_zero, Option.some.injEq] at h2; subst h2; rw [Nat.add_zero, hc] at h3; cases h3
        | succ k => exact ⟨k, x, by rwa [List.getElem?_cons_succ] at h2, by rwa [show j + (k + 1) = j + 1 + k by omega] at h3⟩
    · rw [cond_true]
      exact ⟨fun _ => ⟨0, y, rfl, hc⟩, fun _ => rfl⟩
theorem there_must (rec : Sl Op → Sl Bool → ByteArray → Bool) (l : Sl Op) (left : Sl Bool) (v : ByteArray) : ∀ (ys : List Op) (i : Nat) (must : Bool), thereB_l0 rec l left v ys i must = bif (!must && rFits_l2 left.D ys i) then true else thereB_l1 rec l left v l.D 0
  | [], _, must => by unfold thereB_l0 rFits_l2; cases must <;> rfl
  | x :: xs, i, must => by
    unfold thereB_l0 rFits_l2
    simp only [there_must rec l left v xs (i + 1), Int.toNat_natCast]
    cases must <;> cases left.D[i]! <;> cases decide (x.ended > 0) <;> rfl
theorem thereB_eq (rec : Sl Op → Sl Bool → ByteArray → Bool) (l : Sl Op) (left : Sl Bool) (v : ByteArray) : thereB rec l left v = bif rFits_l2 left.D l.D 0 then true else thereB_l1 rec l left v l.D 0 := by
  unfold thereB; rw [there_must]; rfl
def thC (rec : Sl Op → Sl Bool → ByteArray → Bool) (l : Sl Op) (left : Sl Bool) (v : ByteArray) (k : Nat) (x : Op) : Bool :=
  left.D[k]! && (nextR l left (k : Int) && ((x.write || (x.value.toList == v.toList)) && rec l (Sl.mk false (left.D.set k false)) (bif x.write then x.value else v)))
theorem there_any (rec : Sl Op → Sl Bool → ByteArray → Bool) (l : Sl Op) (left : Sl Bool) (v : ByteArray) : thereB_l1 rec l left v l.D 0 = true ↔ ∃ (k : Nat) (x : Op), l.D[k]? = some x ∧ thC rec l left v k x = true := by
  have := any_iff (f := thereB_l1 rec l left v) (c := thC rec l left v) (fun _ => rfl) (fun x xs j => by
    conv => lhs; unfold thereB_l1
    unfold thC
    rw [Int.toNat_natCast]
    cases left.D[j]! <;> cases nextR l left (j : Int) <;> cases x.write <;> cases (x.value.toList == v.toList) <;> rfl) l.D 0
  simp only [Nat.zero_add] at this
  exact this
theorem sol_there {l : Sl Op} (hl : ∀ x ∈ l.D, okOp x) (h64 : l.D.length ≤ 64) : ∀ (row : List Int) (k : Nat) (done : Int) (left : Sl Bool) (v : ByteArray), okD done → Rel l.D done left.D → Sol l.D ⟨done, v⟩ row → mu l.D done < k → thereO k l left v = true
  | _, 0, _, _, _, _, _, _, h => absurd h (Nat.not_lt_zero _)
  | row, k + 1, done, left, v, hd, hr, hs, hk => by
    show thereB (thereO k) l left v = true
    rw [thereB_eq]
    cases h1 : rFits_l2 left.D l.D 0
    · rw [cond_false, there_any]
      cases row with
      | nil =>
        have hs : allSO (sr l.D) done = true := hs
        rw [all_left hl hr _ rfl, h1] at hs
        cases hs
      | cons i row =>
        obtain ⟨n, x, rfl, hx, hc, hs⟩ := hs
        obtain ⟨c1, c2, c3⟩ := (cand_iff _ _ _ _).1 hc
        have c1 : mHas done (n : Int) = false := c1
        have hn := lt_of_get hx
        have hrec : thereO k l (Sl.mk false (left.D.set n false)) (bif x.write then x.value else v) = true := by
          have hm := mu_with h64 hd hn c1
          exact sol_there hl h64 row k (mWith done (n : Int)) (Sl.mk false (left.D.set n false)) (bif x.write then x.value else v) (with_okD hd (by omega)) (hr.step h64 hd hn) hs (by omega)
        refine ⟨n, x, hx, ?_⟩
        unfold thC
        rw [hr.2 n hn, c1, nextR_eq, ← next_first hl hr (by omega) (sr l.D) rfl, c3, hrec]
        have c4 : (x.write || (x.value.toList == v.toList)) = true := by
          rcases c2 with c2 | ⟨_, c2⟩
          · rw [c2]; rfl
          · rw [(strBeq x.value v).2 c2]; simp
        rw [c4]; rfl
    · rfl
/-- What is done, and what is left: calls that were not answered, and are no writes, may be gone. -/
def RelW (l : List Op) (done : Int) (left : List Bool) : Prop := left.length = l.length ∧ ∀ (k : Nat) (x : Op), l[k]? = some x → left[k]! = !(mHas done (k : Int)) ∨ (x.write = false ∧ x.ended = 0 ∧ mHas done (k : Int) = false)
theorem Rel.weak {l : List Op} {done : Int} {left : List Bool} (h : Rel l done left) : RelW l done left := ⟨h.1, fun k _ hx => .inl (h.2 k (lt_of_get hx))⟩
theorem there_sol {l : Sl Op} (hl : ∀ x ∈ l.D, okOp x) (h64 : l.D.length ≤ 64) : ∀ (k : Nat) (done : Int) (left : Sl Bool) (v : ByteArray), okD done → RelW l.D done left.D → thereO k l left v = true → ∃ row, Sol l.D ⟨done, v⟩ row
  | 0, _, _, _, _, _, h => by cases h
  | k + 1, done, left, v, hd, hr, h => by
    have h : thereB (thereO k) l left v = true := h
    rw [thereB_eq] at h
    cases h1 : rFits_l2 left.D l.D 0
    · rw [h1, cond_false, there_any] at h
      obtain ⟨n, x, hx, hc⟩ := h
      unfold thC at hc
      simp only [Bool.and_eq_true] at hc
      obtain ⟨c1, c2, c3, c4⟩ := hc
      have hn := lt_of_get hx
      have hnd : mHas done (n : Int) = false := by
        rcases hr.2 n x hx with h | ⟨_, _, h⟩
        · rw [c1] at h
          cases hm : mHas done (n : Int)
          · rfl
          · rw [hm] at h; cases h
        · exact h
      by_cases hu : x.write = false ∧ x.ended = 0
      · rw [hu.1, cond_false] at c4
        refine there_sol hl h64 k done (Sl.mk false (left.D.set n false)) v hd ⟨by show (left.D.set n false).length = _; rw [List.length_set]; exact hr.1, fun j y hy => ?_⟩ c4
        show (left.D.set n false)[j]! = _ ∨ _
        rw [set_get _ _ _ (by rw [hr.1]; exact lt_of_get hy)]
        by_cases e : n = j
        · subst e
          rw [hx] at hy; injection hy with hy; subst hy
          exact .inr ⟨hu.1, hu.2, hnd⟩
        · rw [decide_eq_false e, Bool.not_false, Bool.and_true]
          exact hr.2 j y hy
      · have hcand : cand l.D ⟨done, v⟩ n x = true := by
          rw [cand_iff]
          refine ⟨hnd, ?_, ?_⟩
          · cases hw : x.write
            · refine .inr ⟨fun e => hu ⟨hw, e⟩, ?_⟩
              rw [hw, Bool.false_or] at c3
              exact (strBeq _ _).1 c3
            · exact .inl rfl
          · rw [firstSO_iff]
            intro j y hy
            have hy : l.D[j]? = some y := hy
            have c2' := (nextW_iff l left n).1 (by rw [← nextR_eq]; exact c2) j y hy
            show firstC' l.D (n : Int) done j y = false
            unfold firstC'
            unfold nextC at c2'
            rw [over_before (hl y (List.mem_of_getElem? hy)) (hl _ (List.mem_of_getElem? (getO (by omega))))]
            rcases hr.2 j y hy with e | ⟨_, e, _⟩
            · rw [e] at c2'
              revert c2'
              cases ((j : Int) != (n : Int)) <;> cases mHas done (j : Int) <;> cases before y l.D[(n : Int).toNat]! <;> simp
            · have : before y l.D[(n : Int).toNat]! = false := by
                unfold before
                rw [decide_eq_false (p := y.ended > 0) (by omega)]; rfl
              rw [this]; simp
        obtain ⟨row, hs⟩ := there_sol hl h64 k (mWith done (n : Int)) (Sl.mk false (left.D.set n false)) (bif x.write then x.value else v) (with_okD hd (by omega)) ⟨by show (left.D.set n false).length = _; rw [List.length_set]; exact hr.1, fun j y hy => by
          show (left.D.set n false)[j]! = _ ∨ _
          have hj := lt_of_get hy
          rw [set_get _ _ _ (by rw [hr.1]; exact hj), has_withD hd (by omega) (by omega)]
          by_cases e : n = j
          · subst e; left; simp
          · rw [decide_eq_false e, Bool.not_false, Bool.and_true, Bool.or_false]
            exact hr.2 j y hy⟩ c4
        exact ⟨(n : Int) :: row, n, x, rfl, hx, hcand, hs⟩
    · refine ⟨[], ?_⟩
      show allSO (sr l.D) done = true
      rw [allSO_iff]
      intro j y hy
      have hy : l.D[j]? = some y := hy
      have h2 := (rFits2_iff _ _).1 h1 j y hy
      have hy0 := (hl y (List.mem_of_getElem? hy)).1
      by_cases e : y.ended = 0
      · rw [e]; rfl
      · rw [decide_eq_true (p := y.ended > 0) (by omega), Bool.and_true] at h2
        rcases hr.2 j y hy with h3 | ⟨_, h3, _⟩
        · rw [h2] at h3
          rw [← h3]; simp
        · exact absurd h3 e
theorem sol_fits {l : Sl Op} : ∀ (row : List Int) (i : Nat) (done : Int) (v : ByteArray), Sol l.D ⟨done, v⟩ row → fitsL_l0 l row i done v = true
  | [], i, done, v, h => by unfold fitsL_l0; rw [allSM_eq, allSO_eq (Search.mk l [] (Sl.mk true [])) (sr l.D) rfl]; exact h
  | z :: row, i, done, v, h => by
    obtain ⟨n, x, rfl, hx, hc, hs⟩ := h
    obtain ⟨c1, c2, c3⟩ := (cand_iff _ _ _ _).1 hc
    have c1 : mHas done (n : Int) = false := c1
    have hn := lt_of_get hx
    unfold fitsL_l0
    rw [decide_eq_false (p := (n : Int) < 0) (by omega), decide_eq_false (p := (n : Int) ≥ (l.D.length : Int)) (by omega), c1, firstSM_eq, firstSO_eq (Search.mk l [] (Sl.mk true [])) (sr l.D) rfl, c3, Int.toNat_natCast, getI hx]
    have ih := sol_fits row (i + 1) _ _ hs
    cases hw : x.write
    · rw [hw] at ih
      rcases c2 with c2 | ⟨_, c2⟩
      · rw [hw] at c2; cases c2
      · rw [(strBeq x.value v).2 c2]; exact ih
    · rw [hw] at ih
      exact ih
theorem lawOrders0_eq (l : Sl Op) : ∀ (ys : List Bool) (i : Nat), lawOrders_l0 l ys i (List.replicate i true ++ List.replicate ys.length false) = lawOrders_l0 l [] 0 (List.replicate (i + ys.length) true)
  | [], i => by
    conv => lhs; unfold lawOrders_l0
    conv => rhs; unfold lawOrders_l0
    simp
  | y :: ys, i => by
    conv => lhs; unfold lawOrders_l0
    rw [List.length_cons, rep_set, lawOrders0_eq l ys (i + 1), show i + 1 + ys.length = i + (ys.length + 1) by omega]
theorem order_bad {l : Sl Op} (h : (rightL l != 0) = true) : order l = (Sl.mk true [], false, rightL l) := by
  unfold order; rw [h]; rfl
theorem lawOrders_true (l : Sl Op) (w : WT40 l) : lawOrders l = true := by
  have hc : cloneOps l = l := cloneOps_id l w.2.1
  unfold lawOrders
  rw [hc, awakeL_true, ← right_eq]
  have main : (rightL l != 0) = false → lawOrders_l0 l (List.replicate l.D.length false) 0 (List.replicate l.D.length false) = true := by
    intro h
    have h64 := right_len h
    have hl := ok_of w (by rw [← right_eq]; exact h)
    have e := lawOrders0_eq l (List.replicate l.D.length false) 0
    rw [List.length_replicate] at e
    simp only [List.replicate_zero, List.nil_append, Nat.zero_add] at e
    rw [e]
    unfold lawOrders_l0
    rw [hc, awakeL_true, eqOps_refl]
    obtain ⟨h1, h2, h3⟩ := order_spec h
    have hz := Rel.zero l.D h64
    cases ho : (order l).2.1
    · obtain ⟨h4, h5⟩ := h2 ho
      have ht : thereO 65 l (Sl.mk false (List.replicate l.D.length true)) ⟨#[]⟩ = false := by
        cases ht : thereO 65 l (Sl.mk false (List.replicate l.D.length true)) ⟨#[]⟩
        · rfl
        · obtain ⟨row, hr⟩ := there_sol hl h64 65 0 _ _ okD0 hz.weak ht
          exact absurd hr (h5 row)
      rw [ht, h4]; rfl
    · have h4 := h1 ho
      have ht : thereO 65 l (Sl.mk false (List.replicate l.D.length true)) ⟨#[]⟩ = true := sol_there hl h64 _ 65 0 _ _ okD0 hz h4 (by have := mu_le l.D 0; omega)
      have hf : fitsL (order l).1 l = true := by
        unfold fitsL
        rw [h, cond_false]
        exact sol_fits _ 0 0 _ h4
      rw [ht, ← fits_eq _ l w, hf]; rfl
  have ebad : (rightL l != 0) = true → ((order l).2.2 != rightL l) = false ∧ ((order l).2.2 == rightL l) = true ∧ (order l).2.1 = false ∧ (order l).1.D = [] := fun h => by
    rw [order_bad h]; simp
  have egood : (rightL l != 0) = false → ((order l).2.2 != rightL l) = false := fun h => by
    rw [(order_spec h).2.2]
    have : rightL l = 0 := by simpa using h
    rw [this]; rfl
  cases h : (rightL l != 0)
  · rw [main h, egood h]
    cases decide ((l.D.length : Int) > 7) <;> cases decide ((l.D.length : Int) ≤ 24) <;> rfl
  · obtain ⟨b1, b2, b3, b4⟩ := ebad h
    rw [b1, b2, b3, b4]
    cases decide ((l.D.length : Int) > 7) <;> cases decide ((l.D.length : Int) ≤ 24) <;> rfl
theorem linOrders_calls (l : Sl Op) (w : WT40 l) (hl : l.D.length ≤ 2932031007317) : PCalls Try.prog 11 [sS (some l.nil) eOp l.D] (.pv (.bool true)) := by
  have r := lawOrders_calls l w.2.1 hl
  rw [lawOrders_true l w] at r
  exact r
end Go.Proofs.Ytaoagcdljmpllaa
/- An abstract machine over the kit's calls, part 34: three rows of three numbers that are handed in. No conditions. -/
namespace Go.Am
section
variable {H : Type} {enc : TypeId × Value → H} {P : Program} {w : World} {base : Nat} {spare : Nat → Bool} {held : Bool}
end
end Go.Am
/- An abstract machine over the kit's calls, part 44: a list that is handed in is no longer than memory reaches. No conditions. -/
namespace Go.Am
open Go.ChangeShapes Go.WideShapes Go.ChangeAt Go.RowKit
theorem sized_len {H : Type} {enc : TypeId × Value → H} {P : Program} {w : World} {base : Nat} {spare : Nat → Bool} {held : Bool} {ts : List TypeId} {ds : List (DataW H)} (hsz : (DataW.weightsEach P ts ds).all (· ≤ reachBytes) = true) {j : Nat} {t e : TypeId} (hu : P.underlying t = some (.slice e)) {d : DataW H} {ps : List MemPlace} {v : Value}
    (ht : ts[j]? = some t) (hd : ds[j]? = some d) (h : DataW.Trod enc P w base spare held t v d ps) (hv : v.cells = #[v]) {ι : Nat → Option (Nat × Nat)} {imm : Nat → Prop} {f : Bool} {n : Nat} {cs : List PV} (g : VH ι imm w (.pv (.sl (some f) n cs)) v) : n * P.bytesOf e ≤ reachBytes := by
  obtain ⟨fuel, hf⟩ := h
  rw [hv] at hf
  simp only [VH, PH] at g
  obtain ⟨A, cap, h1, _⟩ := g
  rcases DataW.trod_slice hu hf with ⟨h2, h3⟩ | ⟨a, len, cap', elems, rest, m, _, h2, h3, _, _, _, h4, _⟩
  · have h2 : [v] = [Value.slice none 0 0] := h2
    injection h2 with h2 _
    rw [h2] at h1
    injection h1 with _ h1 _
    rw [← h1]; simp
  · have h2 : [v] = [Value.slice (some a) len cap'] := h2
    injection h2 with h2 _
    rw [h2] at h1
    injection h1 with _ h1 _
    injection h3 with h3 _
    have := sized_slice hsz ht (by rw [hd, h3]) hu
    rw [List.length_map, h4, h1, Nat.add_mul] at this
    omega
end Go.Am
/- What all rows of this seat need: no knob is turned, the types are laid out. No conditions. -/
namespace Go.Proofs.Ytaoagcdljmpllaa
open Go.Am
theorem own : ownKnob Try.prog.godebug = none := by kernel_rfl
theorem laidOut : laidOutB Try.prog = true := by kernel_rfl
end Go.Proofs.Ytaoagcdljmpllaa
