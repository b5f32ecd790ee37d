import Derived.Test.YtoieegmebadfkaaM1
import Derived.Test.YtoieegmebadfkaaM2
import Derived.Test.YtoieegmebadfkaaM3
import Derived.Test.YtoieegmebadfkaaM4
/- Calls handed rows of one's own, or rows without room, in the examples. No conditions. -/
namespace Go.Proofs.Ytoieegmebadfkaa
open Go.Am
theorem enc_ne {recs : List Record} (h : recs ≠ []) : encL eRecord recs ≠ [] := by
  cases recs with
  | nil => exact absurd rfl h
  | cons x xs => exact List.cons_ne_nil _ _
theorem jStrongW_calls (calls : Sl Call) (recs : Sl Record) (n_ : Nat) (tt_ : Bool) (hn_ : n_ = calls.D.length) (hne : recs.D ≠ []) (hl1 : calls.D.length ≤ 1000000) (hl2 : recs.D.length ≤ 1000000) : MCalls Try.prog 15 [.sl 0 0 n_ 19 tt_, .tsl recs.D.length (encL eRecord recs.D)] (.cells (encC eCall calls.D)) (.pv (.lit (.bool (jStrong (Sl.mk false calls.D) (Sl.mk false recs.D))))) (.cells (encC eCall calls.D)) := by
  subst hn_
  exact MCalls.of_PCalls (ps := encL eCall calls.D) ((jStrong_calls (Sl.mk false calls.D) (Sl.mk false recs.D) hl1 hl2).tsl (avs' := [sS (some false) eCall calls.D, .tsl recs.D.length (encL eRecord recs.D)]) ⟨.inl rfl, .inr ⟨_, _, enc_ne hne, rfl, rfl⟩, trivial⟩ rfl) ⟨.inr ⟨_, _, _, rfl, rfl⟩, .inl rfl, trivial⟩ rfl rfl
theorem jAllT_calls (calls : Sl Call) (recs : Sl Record) (hne : recs.D ≠ []) (hl1 : calls.D.length ≤ 1000000) (hl2 : recs.D.length ≤ 1000000) : PCalls Try.prog 19 [sS (some calls.nil) eCall calls.D, .tsl recs.D.length (encL eRecord recs.D)] (.pv (.lit (.bool (jAll calls (Sl.mk false recs.D))))) :=
  (jAll_calls calls (Sl.mk false recs.D) hl2 hl1).tsl ⟨.inl rfl, .inr ⟨_, _, enc_ne hne, rfl, rfl⟩, trivial⟩ rfl
theorem jAllW_calls (calls : Sl Call) (recs : Sl Record) (n_ : Nat) (tt_ : Bool) (hn_ : n_ = calls.D.length) (hne : recs.D ≠ []) (hl1 : calls.D.length ≤ 1000000) (hl2 : recs.D.length ≤ 1000000) : MCalls Try.prog 19 [.sl 0 0 n_ 19 tt_, .tsl recs.D.length (encL eRecord recs.D)] (.cells (encC eCall calls.D)) (.pv (.lit (.bool (jAll (Sl.mk false calls.D) (Sl.mk false recs.D))))) (.cells (encC eCall calls.D)) := by
  subst hn_
  exact MCalls.of_PCalls (ps := encL eCall calls.D) (jAllT_calls (Sl.mk false calls.D) recs hne hl1 hl2) ⟨.inr ⟨_, _, _, rfl, rfl⟩, .inl rfl, trivial⟩ rfl rfl
theorem jValuesT_calls (calls : Sl Call) (recs : Sl Record) (hne : recs.D ≠ []) (hl1 : calls.D.length ≤ 1000000) (hl2 : recs.D.length ≤ 1000000) : PCalls Try.prog 16 [sS (some calls.nil) eCall calls.D, .tsl recs.D.length (encL eRecord recs.D)] (.pv (.lit (.bool (jValues calls (Sl.mk false recs.D))))) :=
  (jValues_calls calls (Sl.mk false recs.D) hl2 hl1).tsl ⟨.inl rfl, .inr ⟨_, _, enc_ne hne, rfl, rfl⟩, trivial⟩ rfl
theorem jRightW_calls (recs : Sl Record) (n_ : Nat) (tt_ : Bool) (hn_ : n_ = recs.D.length) (hl1 : recs.D.length ≤ 1000000) : MCalls Try.prog 8 [.sl 0 0 n_ 14 tt_] (.cells (encC eRecord recs.D)) (.pv (.lit (.int .i64 (jRight (Sl.mk false recs.D))))) (.cells (encC eRecord recs.D)) := by
  subst hn_
  exact MCalls.of_PCalls (ps := encL eRecord recs.D) (jRight_calls (Sl.mk false recs.D) hl1) ⟨.inr ⟨_, _, _, rfl, rfl⟩, trivial⟩ rfl rfl
def awL : List Call := [(Call.mk 0 1 true (ofL [(97 : Int), 0, 0, 0, 0, 0, 0, 0]) ⟨#[120]⟩ 0 0 1 2 1 0 0), (Call.mk 1 1 false (ofL [(97 : Int), 0, 0, 0, 0, 0, 0, 0]) ⟨#[]⟩ 0 0 3 4 0 0 0)]
def awR : List Record := [(Record.mk 1 1 (ofL [(97 : Int), 0, 0, 0, 0, 0, 0, 0]) 1 ⟨#[120]⟩ (Req.mk 0 1))]
def awake  : Bool :=
  (bif (jStrong (Sl.mk false awL) (Sl.mk false awR)) then false else (bif (jAll (Sl.mk false awL) (Sl.mk false awR)) then false else (bif (jAll (Sl.mk false (awL.set 1 (Call.mk (awL[1]!.client) (awL[1]!.seq) (awL[1]!.write) (ofL [(awL[1]!.key 0), (awL[1]!.key 1), (awL[1]!.key 2), (awL[1]!.key 3), (awL[1]!.key 4), (awL[1]!.key 5), (awL[1]!.key 6), (awL[1]!.key 7)]) (awL[1]!.value) 2 (awL[1]!.bound) (awL[1]!.began) (awL[1]!.ended) (awL[1]!.ver) (awL[1]!.err) (awL[1]!.floor)))) (Sl.mk false awR)) then (bif (jValues (Sl.mk false (awL.set 1 (Call.mk (awL[1]!.client) (awL[1]!.seq) (awL[1]!.write) (ofL [(awL[1]!.key 0), (awL[1]!.key 1), (awL[1]!.key 2), (awL[1]!.key 3), (awL[1]!.key 4), (awL[1]!.key 5), (awL[1]!.key 6), (awL[1]!.key 7)]) (awL[1]!.value) 2 (awL[1]!.bound) (awL[1]!.began) (awL[1]!.ended) (awL[1]!.ver) (awL[1]!.err) (awL[1]!.floor)))) (Sl.mk false awR)) then (bif ((jRight (Sl.mk false (awR ++ awR))) == 200) then (eqKeys (jKeys (Sl.mk false (awL.set 1 (Call.mk (awL[1]!.client) (awL[1]!.seq) (awL[1]!.write) (ofL [(awL[1]!.key 0), (awL[1]!.key 1), (awL[1]!.key 2), (awL[1]!.key 3), (awL[1]!.key 4), (awL[1]!.key 5), (awL[1]!.key 6), (awL[1]!.key 7)]) (awL[1]!.value) 2 (awL[1]!.bound) (awL[1]!.began) (awL[1]!.ended) (awL[1]!.ver) (awL[1]!.err) (awL[1]!.floor))))) (Sl.mk false [(ofL [(97 : Int), 0, 0, 0, 0, 0, 0, 0])])) else false) else false) else false)))
theorem awake_calls   : PCalls Try.prog 10 [] (.pv (.lit (.bool (awake )))) := by
 generalize hR : awake  = R
 refine PCalls.of_body tabOk Try.func10 rfl rfl rfl rfl rfl mixed fun E hP C hI => ?_
 refine Awp.consP C ?_
 refine rvP C (.pv (.lit (.bool false))) ?_
 refine rvc_nil ?_
 refine Awp.consP C ?_
 refine rvP C (.agg [.pv (.lit (.int .u8 97)), .pv (.lit (.int .u8 0)), .pv (.lit (.int .u8 0)), .pv (.lit (.int .u8 0)), .pv (.lit (.int .u8 0)), .pv (.lit (.int .u8 0)), .pv (.lit (.int .u8 0)), .pv (.lit (.int .u8 0))]) ?_
 refine rvc_un (rexec_prim C (δ := { v := .ptr 1 0, new := [(1, .cells [.pv (.lit (.int .u8 0)), .pv (.lit (.int .u8 0)), .pv (.lit (.int .u8 0)), .pv (.lit (.int .u8 0)), .pv (.lit (.int .u8 0)), .pv (.lit (.int .u8 0)), .pv (.lit (.int .u8 0)), .pv (.lit (.int .u8 0))])] }) rfl rfl rfl rfl trivial rfl ?_)
 refine rvc_un (rexec_prim C (δ := { v := .undef, wr := [(1, some (.cells [.pv (.lit (.int .u8 97)), .pv (.lit (.int .u8 0)), .pv (.lit (.int .u8 0)), .pv (.lit (.int .u8 0)), .pv (.lit (.int .u8 0)), .pv (.lit (.int .u8 0)), .pv (.lit (.int .u8 0)), .pv (.lit (.int .u8 0))]))] }) rfl rfl rfl rfl trivial rfl ?_)
 refine rvc_nil ?_
 refine Awp.consP C ?_
 refine rvP C (.agg [.pv (.lit (.int .u8 97)), .pv (.lit (.int .u8 0)), .pv (.lit (.int .u8 0)), .pv (.lit (.int .u8 0)), .pv (.lit (.int .u8 0)), .pv (.lit (.int .u8 0)), .pv (.lit (.int .u8 0)), .pv (.lit (.int .u8 0))]) ?_
 refine rvP C (.agg [.pv (.lit (.int .i64 0)), .pv (.lit (.int .i64 1))]) ?_
 refine rvP C (.agg [.pv (.lit (.int .i64 1)), .pv (.lit (.int .i64 1)), .pv (.lit (.int .u8 97)), .pv (.lit (.int .u8 0)), .pv (.lit (.int .u8 0)), .pv (.lit (.int .u8 0)), .pv (.lit (.int .u8 0)), .pv (.lit (.int .u8 0)), .pv (.lit (.int .u8 0)), .pv (.lit (.int .u8 0)), .pv (.lit (.int .i64 1)), .pv (.lit (.string ⟨#[120]⟩)), .pv (.lit (.int .i64 0)), .pv (.lit (.int .i64 1))]) ?_
 refine rvc_un (rexec_prim C (δ := { v := .ptr 2 0, new := [(2, .cells [.pv (.lit (.int .i64 0)), .pv (.lit (.int .i64 0)), .pv (.lit (.int .u8 0)), .pv (.lit (.int .u8 0)), .pv (.lit (.int .u8 0)), .pv (.lit (.int .u8 0)), .pv (.lit (.int .u8 0)), .pv (.lit (.int .u8 0)), .pv (.lit (.int .u8 0)), .pv (.lit (.int .u8 0)), .pv (.lit (.int .i64 0)), .pv (.lit (.string ⟨#[]⟩)), .pv (.lit (.int .i64 0)), .pv (.lit (.int .i64 0))])] }) rfl rfl rfl rfl trivial rfl ?_)
 refine rvc_un (rexec_prim C (δ := { v := .undef, wr := [(2, some (.cells [.pv (.lit (.int .i64 1)), .pv (.lit (.int .i64 1)), .pv (.lit (.int .u8 97)), .pv (.lit (.int .u8 0)), .pv (.lit (.int .u8 0)), .pv (.lit (.int .u8 0)), .pv (.lit (.int .u8 0)), .pv (.lit (.int .u8 0)), .pv (.lit (.int .u8 0)), .pv (.lit (.int .u8 0)), .pv (.lit (.int .i64 1)), .pv (.lit (.string ⟨#[120]⟩)), .pv (.lit (.int .i64 0)), .pv (.lit (.int .i64 1))]))] }) rfl rfl rfl rfl trivial rfl ?_)
 refine rvc_nil ?_
 refine Awp.consP C ?_
 refine rvP C (.agg [.pv (.lit (.int .u8 97)), .pv (.lit (.int .u8 0)), .pv (.lit (.int .u8 0)), .pv (.lit (.int .u8 0)), .pv (.lit (.int .u8 0)), .pv (.lit (.int .u8 0)), .pv (.lit (.int .u8 0)), .pv (.lit (.int .u8 0))]) ?_
 refine rvP C (.agg [.pv (.lit (.int .i64 0)), .pv (.lit (.int .i64 1)), .pv (.lit (.bool true)), .pv (.lit (.int .u8 97)), .pv (.lit (.int .u8 0)), .pv (.lit (.int .u8 0)), .pv (.lit (.int .u8 0)), .pv (.lit (.int .u8 0)), .pv (.lit (.int .u8 0)), .pv (.lit (.int .u8 0)), .pv (.lit (.int .u8 0)), .pv (.lit (.string ⟨#[120]⟩)), .pv (.lit (.int .i64 0)), .pv (.lit (.int .i64 0)), .pv (.lit (.int .i64 1)), .pv (.lit (.int .i64 2)), .pv (.lit (.int .i64 1)), .pv (.lit (.int .i64 0)), .pv (.lit (.int .i64 0))]) ?_
 refine rvP C (.agg [.pv (.lit (.int .u8 97)), .pv (.lit (.int .u8 0)), .pv (.lit (.int .u8 0)), .pv (.lit (.int .u8 0)), .pv (.lit (.int .u8 0)), .pv (.lit (.int .u8 0)), .pv (.lit (.int .u8 0)), .pv (.lit (.int .u8 0))]) ?_
 refine rvP C (.agg [.pv (.lit (.int .i64 1)), .pv (.lit (.int .i64 1)), .pv (.lit (.bool false)), .pv (.lit (.int .u8 97)), .pv (.lit (.int .u8 0)), .pv (.lit (.int .u8 0)), .pv (.lit (.int .u8 0)), .pv (.lit (.int .u8 0)), .pv (.lit (.int .u8 0)), .pv (.lit (.int .u8 0)), .pv (.lit (.int .u8 0)), .pv (.lit (.string ⟨#[]⟩)), .pv (.lit (.int .i64 0)), .pv (.lit (.int .i64 0)), .pv (.lit (.int .i64 3)), .pv (.lit (.int .i64 4)), .pv (.lit (.int .i64 0)), .pv (.lit (.int .i64 0)), .pv (.lit (.int .i64 0))]) ?_
 refine rvc_un (rexec_prim C (δ := { v := .sl 13 0 (awL.length) 19 true, new := [(13, .cells (encC eCall awL))] }) rfl rfl rfl rfl trivial rfl ?_)
 refine rvP C (.sl 13 0 (awL.length) 19 true) ?_
 refine rvc_nil ?_
 refine Awp.consP C ?_
 refine rvP C (.agg [.pv (.lit (.int .i64 1)), .pv (.lit (.int .i64 1)), .pv (.lit (.int .u8 97)), .pv (.lit (.int .u8 0)), .pv (.lit (.int .u8 0)), .pv (.lit (.int .u8 0)), .pv (.lit (.int .u8 0)), .pv (.lit (.int .u8 0)), .pv (.lit (.int .u8 0)), .pv (.lit (.int .u8 0)), .pv (.lit (.int .i64 1)), .pv (.lit (.string ⟨#[120]⟩)), .pv (.lit (.int .i64 0)), .pv (.lit (.int .i64 1))]) ?_
 refine rvc_un (rexec_buildSliceT C eRecord awR rfl rfl rfl rfl rfl rfl rfl (by decide) rfl ?_)
 refine rvP C (.tsl awR.length (encL eRecord awR)) ?_
 refine rvc_nil ?_
 refine Awp.seq ?_
 refine Awp.cons C (fun _ => .writer) (by kernel_rfl) ?_
 refine rvP C (.sl 13 0 (awL.length) 19 true) ?_
 refine rvP C (.tsl awR.length (encL eRecord awR)) ?_
 refine rvc_un (rexec_callM hP C (b := 13) rfl rfl rfl (jStrongW_calls (Sl.mk false awL) (Sl.mk false awR) (awL.length) true rfl (List.cons_ne_nil _ _) (of_decide_eq_true (by kernel_rfl)) (of_decide_eq_true (by kernel_rfl))) rfl rfl ?_)
 refine rvP C (.pv (.lit (.bool (jStrong (Sl.mk false awL) (Sl.mk false awR))))) ?_
 refine rvc_case 19 (jStrong (Sl.mk false awL) (Sl.mk false awR)) rfl (fun h1 => ?_) (fun h1 => ?_)
 ·
  replace hR := of_true h1 hR
  refine rvS ?_
  refine rvS ?_
  refine rvS ?_
  refine rvP C (.pv (.lit (.bool true))) ?_
  refine rvc_nil ?_
  refine Awp.condT (b := true) rfl rfl ?_
  refine Awp.consP C ?_
  refine rvP C (.pv (.lit (.bool false))) ?_
  refine rvc_nil ?_
  refine Awp.ret ?_
  subst hR
  exact ⟨.inl rfl, rfl⟩
 ·
  replace hR := of_false h1 hR
  refine rvO C (.sl 13 0 (awL.length) 19 true) ?_
  refine rvO C (.tsl awR.length (encL eRecord awR)) ?_
  refine rvc_open rfl rfl rfl (rexec_callM hP C (b := 13) rfl rfl rfl (jAllW_calls (Sl.mk false awL) (Sl.mk false awR) (awL.length) true rfl (List.cons_ne_nil _ _) (of_decide_eq_true (by kernel_rfl)) (of_decide_eq_true (by kernel_rfl))) rfl rfl ?_)
  refine rvP C (.pv (.lit (.bool (jAll (Sl.mk false awL) (Sl.mk false awR))))) ?_
  refine rvc_nil ?_
  refine Awp.cond (b := (jAll (Sl.mk false awL) (Sl.mk false awR))) rfl (fun h2 => ?_) (fun h2 => ?_)
  ·
   replace hR := of_true h2 hR
   refine Awp.consP C ?_
   refine rvP C (.pv (.lit (.bool false))) ?_
   refine rvc_nil ?_
   refine Awp.ret ?_
   subst hR
   exact ⟨.inl rfl, rfl⟩
  ·
   replace hR := of_false h2 hR
   refine Awp.skip ?_
   refine Awp.consP C ?_
   refine rvP C (.sl 13 0 (awL.length) 19 true) ?_
   have h3 : awL[1]? = some awL[1]! := getE (by decide)
   refine rvc_un (rexec_prim C (δ := { v := .ptr 13 (0 + 1 * 19) }) rfl rfl rfl rfl ⟨by decide, by decide⟩ rfl ?_)
   refine rvP C (.ptr 13 (0 + 1 * 19 + 12)) ?_
   refine rvc_un (rexec_storeE C (e := eCall) 1 12 (awL[1]!) (Call.mk (awL[1]!.client) (awL[1]!.seq) (awL[1]!.write) (ofL [(awL[1]!.key 0), (awL[1]!.key 1), (awL[1]!.key 2), (awL[1]!.key 3), (awL[1]!.key 4), (awL[1]!.key 5), (awL[1]!.key 6), (awL[1]!.key 7)]) (awL[1]!.value) 2 (awL[1]!.bound) (awL[1]!.began) (awL[1]!.ended) (awL[1]!.ver) (awL[1]!.err) (awL[1]!.floor)) rfl rfl rfl rfl h3 (by simp [eCall]) rfl rfl rfl (of_decide_eq_true rfl) rfl ?_)
   refine rvc_nil ?_
   refine Awp.freezeW 13 (encL eCall (awL.set 1 (Call.mk (awL[1]!.client) (awL[1]!.seq) (awL[1]!.write) (ofL [(awL[1]!.key 0), (awL[1]!.key 1), (awL[1]!.key 2), (awL[1]!.key 3), (awL[1]!.key 4), (awL[1]!.key 5), (awL[1]!.key 6), (awL[1]!.key 7)]) (awL[1]!.value) 2 (awL[1]!.bound) (awL[1]!.began) (awL[1]!.ended) (awL[1]!.ver) (awL[1]!.err) (awL[1]!.floor)))) ?_ [(0, .pv (.lit (.bool false))), (1, .ptr 1 0), (2, .ptr 2 0), (3, sS (some false) eCall (awL.set 1 (Call.mk (awL[1]!.client) (awL[1]!.seq) (awL[1]!.write) (ofL [(awL[1]!.key 0), (awL[1]!.key 1), (awL[1]!.key 2), (awL[1]!.key 3), (awL[1]!.key 4), (awL[1]!.key 5), (awL[1]!.key 6), (awL[1]!.key 7)]) (awL[1]!.value) 2 (awL[1]!.bound) (awL[1]!.began) (awL[1]!.ended) (awL[1]!.ver) (awL[1]!.err) (awL[1]!.floor)))), (4, .tsl awR.length (encL eRecord awR))] [(1, .cells [.pv (.lit (.int .u8 97)), .pv (.lit (.int .u8 0)), .pv (.lit (.int .u8 0)), .pv (.lit (.int .u8 0)), .pv (.lit (.int .u8 0)), .pv (.lit (.int .u8 0)), .pv (.lit (.int .u8 0)), .pv (.lit (.int .u8 0))]), (2, .cells [.pv (.lit (.int .i64 1)), .pv (.lit (.int .i64 1)), .pv (.lit (.int .u8 97)), .pv (.lit (.int .u8 0)), .pv (.lit (.int .u8 0)), .pv (.lit (.int .u8 0)), .pv (.lit (.int .u8 0)), .pv (.lit (.int .u8 0)), .pv (.lit (.int .u8 0)), .pv (.lit (.int .u8 0)), .pv (.lit (.int .i64 1)), .pv (.lit (.string ⟨#[120]⟩)), .pv (.lit (.int .i64 0)), .pv (.lit (.int .i64 1))])] ?_ ?_ ?_
   · rfl
   · exact ⟨⟨_, rfl, .inl (.inl rfl)⟩, ⟨_, rfl, .inl (.inl rfl)⟩, ⟨_, rfl, .inl (.inl rfl)⟩, ⟨_, rfl, .inl (.inr ⟨_, _, _, rfl, by simp [sS] <;> omega⟩)⟩, ⟨_, rfl, .inl (.inl rfl)⟩, trivial⟩
   · exact ⟨⟨(by show (1 : Nat) ≠ 13; decide), .inl rfl⟩, ⟨(by show (2 : Nat) ≠ 13; decide), .inl rfl⟩, trivial⟩
   refine Awp.cons C (fun o => match o.dst with | some 37 => .reads [2] | some 46 => .reads [1] | some 38 => .writes [] | some 47 => .writes [] | some 39 => .writes [39] | some 40 => .writes [39] | _ => .pure) (by kernel_rfl) ?_
   refine rvP C (sS (some false) eCall (awL.set 1 (Call.mk (awL[1]!.client) (awL[1]!.seq) (awL[1]!.write) (ofL [(awL[1]!.key 0), (awL[1]!.key 1), (awL[1]!.key 2), (awL[1]!.key 3), (awL[1]!.key 4), (awL[1]!.key 5), (awL[1]!.key 6), (awL[1]!.key 7)]) (awL[1]!.value) 2 (awL[1]!.bound) (awL[1]!.began) (awL[1]!.ended) (awL[1]!.ver) (awL[1]!.err) (awL[1]!.floor)))) ?_
   refine rvP C (.tsl awR.length (encL eRecord awR)) ?_
   refine rvc_un (rexec_call hP C rfl rfl rfl (jAllT_calls (Sl.mk false (awL.set 1 (Call.mk (awL[1]!.client) (awL[1]!.seq) (awL[1]!.write) (ofL [(awL[1]!.key 0), (awL[1]!.key 1), (awL[1]!.key 2), (awL[1]!.key 3), (awL[1]!.key 4), (awL[1]!.key 5), (awL[1]!.key 6), (awL[1]!.key 7)]) (awL[1]!.value) 2 (awL[1]!.bound) (awL[1]!.began) (awL[1]!.ended) (awL[1]!.ver) (awL[1]!.err) (awL[1]!.floor)))) (Sl.mk false awR) (List.cons_ne_nil _ _) (of_decide_eq_true (by kernel_rfl)) (of_decide_eq_true (by kernel_rfl))) ?_)
   refine rvP C (.pv (.lit (.bool (jAll (Sl.mk false (awL.set 1 (Call.mk (awL[1]!.client) (awL[1]!.seq) (awL[1]!.write) (ofL [(awL[1]!.key 0), (awL[1]!.key 1), (awL[1]!.key 2), (awL[1]!.key 3), (awL[1]!.key 4), (awL[1]!.key 5), (awL[1]!.key 6), (awL[1]!.key 7)]) (awL[1]!.value) 2 (awL[1]!.bound) (awL[1]!.began) (awL[1]!.ended) (awL[1]!.ver) (awL[1]!.err) (awL[1]!.floor)))) (Sl.mk false awR))))) ?_
   refine rvc_case 30 (jAll (Sl.mk false (awL.set 1 (Call.mk (awL[1]!.client) (awL[1]!.seq) (awL[1]!.write) (ofL [(awL[1]!.key 0), (awL[1]!.key 1), (awL[1]!.key 2), (awL[1]!.key 3), (awL[1]!.key 4), (awL[1]!.key 5), (awL[1]!.key 6), (awL[1]!.key 7)]) (awL[1]!.value) 2 (awL[1]!.bound) (awL[1]!.began) (awL[1]!.ended) (awL[1]!.ver) (awL[1]!.err) (awL[1]!.floor)))) (Sl.mk false awR)) rfl (fun h4 => ?_) (fun h4 => ?_)
   ·
    replace hR := of_true h4 hR
    refine rvO C (sS (some false) eCall (awL.set 1 (Call.mk (awL[1]!.client) (awL[1]!.seq) (awL[1]!.write) (ofL [(awL[1]!.key 0), (awL[1]!.key 1), (awL[1]!.key 2), (awL[1]!.key 3), (awL[1]!.key 4), (awL[1]!.key 5), (awL[1]!.key 6), (awL[1]!.key 7)]) (awL[1]!.value) 2 (awL[1]!.bound) (awL[1]!.began) (awL[1]!.ended) (awL[1]!.ver) (awL[1]!.err) (awL[1]!.floor)))) ?_
    refine rvO C (.tsl awR.length (encL eRecord awR)) ?_
    refine rvc_open rfl rfl rfl (rexec_call hP C rfl rfl rfl (jValuesT_calls (Sl.mk false (awL.set 1 (Call.mk (awL[1]!.client) (awL[1]!.seq) (awL[1]!.write) (ofL [(awL[1]!.key 0), (awL[1]!.key 1), (awL[1]!.key 2), (awL[1]!.key 3), (awL[1]!.key 4), (awL[1]!.key 5), (awL[1]!.key 6), (awL[1]!.key 7)]) (awL[1]!.value) 2 (awL[1]!.bound) (awL[1]!.began) (awL[1]!.ended) (awL[1]!.ver) (awL[1]!.err) (awL[1]!.floor)))) (Sl.mk false awR) (List.cons_ne_nil _ _) (of_decide_eq_true (by kernel_rfl)) (of_decide_eq_true (by kernel_rfl))) ?_)
    refine rvP C (.pv (.lit (.bool (jValues (Sl.mk false (awL.set 1 (Call.mk (awL[1]!.client) (awL[1]!.seq) (awL[1]!.write) (ofL [(awL[1]!.key 0), (awL[1]!.key 1), (awL[1]!.key 2), (awL[1]!.key 3), (awL[1]!.key 4), (awL[1]!.key 5), (awL[1]!.key 6), (awL[1]!.key 7)]) (awL[1]!.value) 2 (awL[1]!.bound) (awL[1]!.began) (awL[1]!.ended) (awL[1]!.ver) (awL[1]!.err) (awL[1]!.floor)))) (Sl.mk false awR))))) ?_
    refine rvP C (.pv (.lit (.bool (jValues (Sl.mk false (awL.set 1 (Call.mk (awL[1]!.client) (awL[1]!.seq) (awL[1]!.write) (ofL [(awL[1]!.key 0), (awL[1]!.key 1), (awL[1]!.key 2), (awL[1]!.key 3), (awL[1]!.key 4), (awL[1]!.key 5), (awL[1]!.key 6), (awL[1]!.key 7)]) (awL[1]!.value) 2 (awL[1]!.bound) (awL[1]!.began) (awL[1]!.ended) (awL[1]!.ver) (awL[1]!.err) (awL[1]!.floor)))) (Sl.mk false awR))))) ?_
    refine rvc_case 35 (jValues (Sl.mk false (awL.set 1 (Call.mk (awL[1]!.client) (awL[1]!.seq) (awL[1]!.write) (ofL [(awL[1]!.key 0), (awL[1]!.key 1), (awL[1]!.key 2), (awL[1]!.key 3), (awL[1]!.key 4), (awL[1]!.key 5), (awL[1]!.key 6), (awL[1]!.key 7)]) (awL[1]!.value) 2 (awL[1]!.bound) (awL[1]!.began) (awL[1]!.ended) (awL[1]!.ver) (awL[1]!.err) (awL[1]!.floor)))) (Sl.mk false awR)) rfl (fun h5 => ?_) (fun h5 => ?_)
    ·
     replace hR := of_true h5 hR
     refine rvO C (.tsl awR.length (encL eRecord awR)) ?_
     refine rvO C (.agg [.pv (.lit (.int .i64 1)), .pv (.lit (.int .i64 1)), .pv (.lit (.int .u8 97)), .pv (.lit (.int .u8 0)), .pv (.lit (.int .u8 0)), .pv (.lit (.int .u8 0)), .pv (.lit (.int .u8 0)), .pv (.lit (.int .u8 0)), .pv (.lit (.int .u8 0)), .pv (.lit (.int .u8 0)), .pv (.lit (.int .i64 1)), .pv (.lit (.string ⟨#[120]⟩)), .pv (.lit (.int .i64 0)), .pv (.lit (.int .i64 1))]) ?_
     refine rvc_open rfl rfl rfl (rexec_buildSliceF C eRecord awR rfl rfl rfl rfl rfl rfl rfl (by decide) rfl ?_)
     refine rvc_open rfl rfl rfl (rexec_appendT C rfl rfl rfl rfl rfl rfl rfl rfl (fun _ h => by cases h) rfl (en := eRecord) (D0 := awR) (D := awR) rfl rfl (by decide) (by decide) (by decide) (nn := (awR ++ awR).length) (by decide) ?_)
     refine rvc_open rfl rfl rfl (rexec_callM hP C (b := 39) rfl rfl rfl (jRightW_calls (Sl.mk false (awR ++ awR)) ((awR ++ awR).length) false rfl (of_decide_eq_true (by kernel_rfl))) rfl rfl ?_)
     refine rvO C (.pv (.lit (.bool ((jRight (Sl.mk false (awR ++ awR))) == 200)))) ?_
     refine rvP C (.pv (.lit (.bool ((jRight (Sl.mk false (awR ++ awR))) == 200)))) ?_
     refine rvP C (.pv (.lit (.bool ((jRight (Sl.mk false (awR ++ awR))) == 200)))) ?_
     refine rvc_case 43 ((jRight (Sl.mk false (awR ++ awR))) == 200) rfl (fun h6 => ?_) (fun h6 => ?_)
     ·
      replace hR := of_true h6 hR
      refine rvO C (sS (some false) eCall (awL.set 1 (Call.mk (awL[1]!.client) (awL[1]!.seq) (awL[1]!.write) (ofL [(awL[1]!.key 0), (awL[1]!.key 1), (awL[1]!.key 2), (awL[1]!.key 3), (awL[1]!.key 4), (awL[1]!.key 5), (awL[1]!.key 6), (awL[1]!.key 7)]) (awL[1]!.value) 2 (awL[1]!.bound) (awL[1]!.began) (awL[1]!.ended) (awL[1]!.ver) (awL[1]!.err) (awL[1]!.floor)))) ?_
      refine rvc_open rfl rfl rfl (rexec_call hP C rfl rfl rfl (jKeys_calls (Sl.mk false (awL.set 1 (Call.mk (awL[1]!.client) (awL[1]!.seq) (awL[1]!.write) (ofL [(awL[1]!.key 0), (awL[1]!.key 1), (awL[1]!.key 2), (awL[1]!.key 3), (awL[1]!.key 4), (awL[1]!.key 5), (awL[1]!.key 6), (awL[1]!.key 7)]) (awL[1]!.value) 2 (awL[1]!.bound) (awL[1]!.began) (awL[1]!.ended) (awL[1]!.ver) (awL[1]!.err) (awL[1]!.floor)))) (of_decide_eq_true (by kernel_rfl))) ?_)
      refine rvO C (.agg [.pv (.lit (.int .u8 97)), .pv (.lit (.int .u8 0)), .pv (.lit (.int .u8 0)), .pv (.lit (.int .u8 0)), .pv (.lit (.int .u8 0)), .pv (.lit (.int .u8 0)), .pv (.lit (.int .u8 0)), .pv (.lit (.int .u8 0))]) ?_
      refine rvc_open rfl rfl rfl (rexec_buildSliceF C (eA8 .u8) [(ofL [(97 : Int), 0, 0, 0, 0, 0, 0, 0])] rfl rfl rfl rfl rfl rfl rfl (by decide) rfl ?_)
      refine rvc_open rfl rfl rfl (rexec_call hP C rfl rfl rfl (eqKeys_calls (jKeys (Sl.mk false (awL.set 1 (Call.mk (awL[1]!.client) (awL[1]!.seq) (awL[1]!.write) (ofL [(awL[1]!.key 0), (awL[1]!.key 1), (awL[1]!.key 2), (awL[1]!.key 3), (awL[1]!.key 4), (awL[1]!.key 5), (awL[1]!.key 6), (awL[1]!.key 7)]) (awL[1]!.value) 2 (awL[1]!.bound) (awL[1]!.began) (awL[1]!.ended) (awL[1]!.ver) (awL[1]!.err) (awL[1]!.floor))))) (Sl.mk false [(ofL [(97 : Int), 0, 0, 0, 0, 0, 0, 0])]) (of_decide_eq_true (by kernel_rfl))) ?_)
      refine rvP C (.pv (.lit (.bool (eqKeys (jKeys (Sl.mk false (awL.set 1 (Call.mk (awL[1]!.client) (awL[1]!.seq) (awL[1]!.write) (ofL [(awL[1]!.key 0), (awL[1]!.key 1), (awL[1]!.key 2), (awL[1]!.key 3), (awL[1]!.key 4), (awL[1]!.key 5), (awL[1]!.key 6), (awL[1]!.key 7)]) (awL[1]!.value) 2 (awL[1]!.bound) (awL[1]!.began) (awL[1]!.ended) (awL[1]!.ver) (awL[1]!.err) (awL[1]!.floor))))) (Sl.mk false [(ofL [(97 : Int), 0, 0, 0, 0, 0, 0, 0])]))))) ?_
      refine rvP C (.pv (.lit (.bool (eqKeys (jKeys (Sl.mk false (awL.set 1 (Call.mk (awL[1]!.client) (awL[1]!.seq) (awL[1]!.write) (ofL [(awL[1]!.key 0), (awL[1]!.key 1), (awL[1]!.key 2), (awL[1]!.key 3), (awL[1]!.key 4), (awL[1]!.key 5), (awL[1]!.key 6), (awL[1]!.key 7)]) (awL[1]!.value) 2 (awL[1]!.bound) (awL[1]!.began) (awL[1]!.ended) (awL[1]!.ver) (awL[1]!.err) (awL[1]!.floor))))) (Sl.mk false [(ofL [(97 : Int), 0, 0, 0, 0, 0, 0, 0])]))))) ?_
      refine rvc_nil ?_
      refine Awp.ret ?_
      subst hR
      exact ⟨.inl rfl, rfl⟩
     ·
      replace hR := of_false h6 hR
      refine rvS ?_
      refine rvS ?_
      refine rvS ?_
      refine rvS ?_
      refine rvS ?_
      refine rvP C (.pv (.lit (.bool false))) ?_
      refine rvP C (.pv (.lit (.bool false))) ?_
      refine rvc_nil ?_
      refine Awp.ret ?_
      subst hR
      exact ⟨.inl rfl, rfl⟩
    ·
     replace hR := of_false h5 hR
     refine rvS ?_
     refine rvS ?_
     refine rvS ?_
     refine rvS ?_
     refine rvS ?_
     refine rvS ?_
     refine rvP C (.pv (.lit (.bool false))) ?_
     refine rvP C (.pv (.lit (.bool false))) ?_
     refine rvS ?_
     refine rvS ?_
     refine rvS ?_
     refine rvS ?_
     refine rvS ?_
     refine rvP C (.pv (.lit (.bool false))) ?_
     refine rvP C (.pv (.lit (.bool false))) ?_
     refine rvc_nil ?_
     refine Awp.ret ?_
     subst hR
     exact ⟨.inl rfl, rfl⟩
   ·
    replace hR := of_false h4 hR
    refine rvS ?_
    refine rvS ?_
    refine rvS ?_
    refine rvP C (.pv (.lit (.bool false))) ?_
    refine rvP C (.pv (.lit (.bool false))) ?_
    refine rvS ?_
    refine rvS ?_
    refine rvS ?_
    refine rvS ?_
    refine rvS ?_
    refine rvS ?_
    refine rvP C (.pv (.lit (.bool false))) ?_
    refine rvP C (.pv (.lit (.bool false))) ?_
    refine rvS ?_
    refine rvS ?_
    refine rvS ?_
    refine rvS ?_
    refine rvS ?_
    refine rvP C (.pv (.lit (.bool false))) ?_
    refine rvP C (.pv (.lit (.bool false))) ?_
    refine rvc_nil ?_
    refine Awp.ret ?_
    subst hR
    exact ⟨.inl rfl, rfl⟩
def kA : Nat → Int := ofL [(97 : Int), 0, 0, 0, 0, 0, 0, 0]
def cA : Call := Call.mk 0 1 true kA ⟨#[120]⟩ 0 0 1 2 1 0 0
def cB : Call := Call.mk 1 1 false kA ⟨#[]⟩ 0 0 3 4 0 0 0
def cC : Call := Call.mk 1 1 false (ofL [(cB.key 0), (cB.key 1), (cB.key 2), (cB.key 3), (cB.key 4), (cB.key 5), (cB.key 6), (cB.key 7)]) ⟨#[]⟩ 2 0 3 4 0 0 0
def rA : Record := Record.mk 1 1 kA 1 ⟨#[120]⟩ (Req.mk 0 1)
theorem awake_def : awake = (bif (jStrong (Sl.mk false [cA, cB]) (Sl.mk false [rA])) then false else (bif (jAll (Sl.mk false [cA, cB]) (Sl.mk false [rA])) then false else (bif (jAll (Sl.mk false [cA, cC]) (Sl.mk false [rA])) then (bif (jValues (Sl.mk false [cA, cC]) (Sl.mk false [rA])) then (bif ((jRight (Sl.mk false ([rA] ++ [rA]))) == 200) then (eqKeys (jKeys (Sl.mk false [cA, cC])) (Sl.mk false [kA])) else false) else false) else false))) := rfl
theorem ops1 : opsOf (kL kA) (Sl.mk false [rA]) [cA, cB] = [Op.mk true ⟨#[120]⟩ 1 1 2, Op.mk false ⟨#[]⟩ 0 3 4] := by
  have e1 : sel (kL kA) cA = true := by decide
  have e2 : sel (kL kA) cB = true := by decide
  unfold opsOf
  rw [List.filter_cons_of_pos e1, List.filter_cons_of_pos e2]; rfl
theorem ops2 : opsOf (kL kA) (Sl.mk false [rA]) [cA, cC] = [Op.mk true ⟨#[120]⟩ 1 1 2] := by
  have e1 : sel (kL kA) cA = true := by decide
  have e2 : ¬ sel (kL kA) cC = true := by decide
  unfold opsOf
  rw [List.filter_cons_of_pos e1, List.filter_cons_of_neg e2]; rfl
theorem strong1 : jStrong (Sl.mk false [cA, cB]) (Sl.mk false [rA]) = false := by
  rw [← Bool.not_eq_true, jStrong_iff _ (by decide)]
  intro h
  have := h cA List.mem_cons_self
  rw [show kL cA.key = kL kA from rfl] at this
  have hv := this.ris (Op.mk true ⟨#[120]⟩ 1 1 2) (by rw [ops1]; simp) (Op.mk false ⟨#[]⟩ 0 3 4) (by rw [ops1]; simp)
  exact absurd hv (by decide)
theorem vp2 : VP [Op.mk true ⟨#[120]⟩ 1 1 2] where
  w0 x hx _ _ := by rw [List.mem_singleton.1 hx]; decide
  one i j x y hi hj hij _ _ _ := by
    cases i with
    | zero => cases j with
      | zero => omega
      | succ j => simp at hj
    | succ i => simp at hi
  rd x hx hw _ := by rw [List.mem_singleton.1 hx] at hw; cases hw
  ris a ha b hb := by rw [List.mem_singleton.1 ha, List.mem_singleton.1 hb]; decide
theorem strong2 : jStrong (Sl.mk false [cA, cC]) (Sl.mk false [rA]) = true := by
  rw [jStrong_iff _ (by decide)]
  intro x hx
  have : kL x.key = kL kA := by
    simp only [List.mem_cons, List.not_mem_nil, or_false] at hx
    rcases hx with rfl | rfl <;> rfl
  rw [this, ops2]
  exact vp2
theorem right1 : jRight (Sl.mk false [rA]) = 0 := by decide
theorem right2 : (jRight (Sl.mk false ([rA] ++ [rA])) == 200) = true := by decide
theorem values2 : jValues (Sl.mk false [cA, cC]) (Sl.mk false [rA]) = true := by
  rw [jValues_eq]
  show (okV (Sl.mk false [rA]) cA && (okV (Sl.mk false [rA]) cC && true)) = true
  have e1 : okV (Sl.mk false [rA]) cA = true := by
    have hl : lastC cA (Sl.mk false [rA]) = some rA := by rfl
    unfold okV
    rw [hl]
    show (!ans cA || ((rA.ver == cA.ver) && (decide (kL rA.key = kL cA.key) && ((⟨#[120]⟩ : ByteArray).toList == (⟨#[120]⟩ : ByteArray).toList)))) = true
    rw [beq_self_eq_true]; decide
  have e2 : okV (Sl.mk false [rA]) cC = true := by
    show (!ans cC || ((⟨#[]⟩ : ByteArray).toList == (⟨#[]⟩ : ByteArray).toList)) = true
    rw [beq_self_eq_true, Bool.or_true]
  rw [e1, e2]; rfl
theorem bounds2 : jBounds (Sl.mk false [cA, cC]) = true := by decide
theorem sess2 : jSessions (Sl.mk false [cA, cC]) = true := by decide
theorem keys2 : eqKeys (jKeys (Sl.mk false [cA, cC])) (Sl.mk false [kA]) = true := by
  refine eqKeys_of ?_
  obtain ⟨p1, p2⟩ := jKeys_spec (calls := Sl.mk false [cA, cC]) (by decide)
  refine asc_ext _ _ p1 (List.pairwise_cons.2 ⟨fun _ h => (by cases h), .nil⟩) fun y => (p2 y).trans ?_
  show y ∈ [kL kA, kL kA] ↔ y ∈ [kL kA]
  simp
theorem awake_true : awake = true := by
  have a1 : jAll (Sl.mk false [cA, cB]) (Sl.mk false [rA]) = false := by
    unfold jAll; rw [strong1]; cases (jRight (Sl.mk false [rA]) == 0) <;> rfl
  have a2 : jAll (Sl.mk false [cA, cC]) (Sl.mk false [rA]) = true := by
    unfold jAll; rw [strong2, right1, values2, bounds2, sess2]; rfl
  rw [awake_def, strong1, a1, a2, values2, right2, keys2]; rfl
theorem eraseIdx_eq {α : Type} (D : List α) (n : Nat) : D.eraseIdx n = D.take n ++ D.drop (n + 1) := List.eraseIdx_eq_take_drop_succ D n
theorem del_take (D : List Call) (n : Nat) (hn : n < D.length) : (setRange (encC eCall D) (n * 19) (encC eCall (D.drop (n + 1)))).take ((n + (D.length - (n + 1))) * 19) = encC eCall (D.eraseIdx n) := by
  unfold setRange
  rw [eraseIdx_eq, show n * 19 = n * eCall.sz from rfl, encC_takeN, ← encC_append, List.take_left' (by rw [encC_len]; simp only [List.length_append, List.length_take, List.length_drop]; show _ * 19 = _ * 19; omega)]
theorem del_last (D : List Call) (n : Nat) (hn : n + 1 = D.length) : (setRange (encC eCall D) (n * 19) []).take ((n + 0) * 19) = encC eCall (D.eraseIdx n) := by
  unfold setRange
  rw [eraseIdx_eq, show n * 19 = n * eCall.sz from rfl, encC_takeN, List.append_nil, show D.drop (n + 1) = [] from List.drop_of_length_le (by omega), List.append_nil]
  exact List.take_left' (by rw [encC_len]; simp only [List.length_take]; show _ * 19 = _ * 19; omega)
theorem zeroCall : ∀ v ∈ ((tab.lookup 34).get rfl).zero.cells.toList, single v := by
  intro v hv
  have e : ((tab.lookup 34).get rfl).zero.cells.toList = [.int .i64 0, .int .i64 0, .bool false, .int .u8 0, .int .u8 0, .int .u8 0, .int .u8 0, .int .u8 0, .int .u8 0, .int .u8 0, .int .u8 0, .string ⟨#[]⟩, .int .i64 0, .int .i64 0, .int .i64 0, .int .i64 0, .int .i64 0, .int .i64 0, .int .i64 0] := by kernel_rfl
  rw [e] at hv
  simp only [List.mem_cons, List.not_mem_nil, or_false] at hv
  rcases hv with rfl | rfl | rfl | rfl | rfl | rfl | rfl | rfl | rfl | rfl | rfl | rfl | rfl | rfl | rfl | rfl | rfl | rfl | rfl <;> exact ⟨fun c h => (by cases h), fun c h => (by cases h)⟩
theorem delCall_calls (D : List Call) (i j : Int) (hi : 0 ≤ i ∧ i < (D.length : Int)) (hj : j = i + 1) (hl : D.length ≤ 1000000) : XCalls Try.prog 28 [.sl 0 0 D.length 19 false, .pv (.lit (.int .i64 i)), .pv (.lit (.int .i64 j))] (.cells (encC eCall D)) (sS (some false) eCall (D.eraseIdx i.toNat)) := by
 subst hj
 obtain ⟨n, rfl⟩ : ∃ n : Nat, i = (n : Int) := ⟨i.toNat, by omega⟩
 have hn : n < D.length := by omega
 rw [Int.toNat_natCast, show (n : Int) + 1 = ((n + 1 : Nat) : Int) by omega]
 have hne : ((n : Int) == ((n + 1 : Nat) : Int)) = false := by simp; omega
 have hys : ((encC eCall D).drop ((n + 1) * 19)).take ((D.length - (n + 1)) * 19) = encC eCall (D.drop (n + 1)) := by
  rw [show (n + 1) * 19 = (n + 1) * eCall.sz from rfl, encC_dropN, encC_takeAll _ (by rw [List.length_drop]; exact Nat.le_refl _)]
 refine XCalls.of_body tabOk Try.func28 rfl rfl rfl rfl rfl (encC_within _ _) mixed fun E hP C hI => ?_
 refine Awp.capOf 0 0 D.length 19 false (encC eCall D) rfl rfl (by rw [encC_len]; rfl) fun c hc0 => ?_
 refine Awp.consP C ?_
 refine rvc_prim C rfl rfl rfl rfl trivial rfl ?_
 refine rvc_nil ?_
 refine Awp.consP C ?_
 refine rvc_prim C rfl rfl rfl rfl trivial rfl ?_
 refine rvc_prim C rfl rfl rfl rfl trivial rfl ?_
 refine rvc_prim C rfl rfl rfl rfl trivial rfl ?_
 refine rvc_prim C rfl rfl rfl rfl trivial rfl ?_
 refine rvc_un (rexec_lenC C rfl rfl rfl rfl rfl rfl ?_)
 refine rvc_un (rexec_slice3C C (l := n) (h := n + 1) (q := D.length) rfl rfl rfl rfl rfl rfl (by omega) (by omega) (by omega) ?_)
 refine rvc_nil ?_
 refine Awp.seq ?_
 refine Awp.consP C ?_
 refine rvc_prim C rfl rfl rfl rfl trivial rfl ?_
 refine rvc_prim C rfl rfl rfl rfl trivial rfl ?_
 refine rvc_prim C rfl rfl rfl rfl trivial rfl ?_
 refine rvc_nil ?_
 refine Awp.condF rfl hne ?_
 refine Awp.skip ?_
 refine Awp.consP C ?_
 refine rvc_prim C rfl rfl rfl rfl trivial rfl ?_
 refine rvc_un (rexec_lenC C rfl rfl rfl rfl rfl rfl ?_)
 refine rvc_prim C rfl rfl rfl rfl trivial rfl ?_
 refine rvc_nil ?_
 by_cases hlast : n + 1 < D.length
 ·
  refine Awp.cons C (fun o => match o.dst with | some 26 => .writer | _ => .pure) (by kernel_rfl) ?_
  refine rvc_prim C rfl rfl rfl rfl trivial rfl ?_
  refine rvc_prim C rfl rfl rfl rfl trivial rfl ?_
  refine rvc_un (rexec_sliceHiC C n rfl rfl rfl rfl rfl rfl (by omega) ?_)
  refine rvc_prim C rfl rfl rfl rfl trivial rfl ?_
  refine rvc_prim C rfl rfl rfl rfl trivial rfl ?_
  refine rvc_un (rexec_sliceC_from C (l := n + 1) rfl rfl rfl rfl rfl rfl (by omega) ?_)
  refine rvc_un (rexec_appendIn C rfl rfl rfl rfl rfl rfl rfl (fun _ h => by cases h) (m := n) (m' := D.length - (n + 1)) (ys := (encC eCall (D.drop (n + 1)))) (setRange (encC eCall D) (n * 19) (encC eCall (D.drop (n + 1)))) rfl rfl (by show some (_, _, ((encC eCall D).drop ((n + 1) * 19)).take ((D.length - (n + 1)) * 19)) = _; rw [hys]) (fun x hx => by simp only [List.mem_singleton] at hx; subst hx; rfl) (by rw [encC_len, List.length_drop]; rfl) (by omega) (by rw [encC_len]; show _ * 19 ≤ _ * 19; omega) (by omega) (pv_flat _) (fun U _ => within_pvs _ _) rfl ?_ rfl)
  refine rvc_prim C rfl rfl rfl rfl trivial rfl ?_
  refine rvc_nil ?_
  refine Awp.cons C (fun o => match o.dst with | none => .writer | _ => .pure) (by kernel_rfl) ?_
  refine rvc_prim C rfl rfl rfl rfl trivial rfl ?_
  refine rvc_prim C rfl rfl rfl rfl trivial rfl ?_
  refine rvc_un (rexec_lenC C rfl rfl rfl rfl rfl rfl ?_)
  refine rvc_prim C rfl rfl rfl rfl trivial rfl ?_
  refine rvc_un (rexec_sliceC_mid C (l := n + (D.length - (n + 1))) (h := D.length) rfl rfl rfl rfl rfl rfl (by omega) (by omega) ?_)
  refine rvc_un (rexec_clearEnd C rfl rfl rfl rfl rfl rfl (encC eCall (D.eraseIdx n)) rfl rfl (by rw [setRange_length (by simp only [encC_len, List.length_drop]; show n * 19 + _ ≤ _ * 19; first | omega | (show n * 19 + _ * 19 ≤ _ * 19; omega))]; rw [encC_len]; show _ * 19 + _ * 19 = _ * 19; omega) rfl zeroCall (by omega) (del_take D n hn) ?_ rfl)
  refine rvc_nil ?_
  refine Awp.consP C ?_
  refine rvc_prim C rfl rfl rfl rfl trivial rfl ?_
  refine rvc_prim C rfl rfl rfl rfl trivial rfl ?_
  refine rvc_nil ?_
  refine Awp.dropCap 6 0 0 (n + (D.length - (n + 1))) 19 c rfl ?_
  refine Awp.freezeW 0 (encL eCall (D.eraseIdx n)) ?_ [(6, sS (some false) eCall (D.eraseIdx n))] [] ?_ ?_ ?_
  · rfl
  · exact ⟨⟨_, rfl, .inl (.inr ⟨_, _, _, rfl, by simp only [sS]; congr 2; rw [List.length_eraseIdx_of_lt hn]; omega⟩)⟩, trivial⟩
  · exact trivial
  refine Awp.ret ?_
  exact ⟨.inl rfl, rfl⟩
 ·
  refine Awp.cons C (fun o => match o.dst with | some 26 => .writer | _ => .pure) (by kernel_rfl) ?_
  refine rvc_prim C rfl rfl rfl rfl trivial rfl ?_
  refine rvc_prim C rfl rfl rfl rfl trivial rfl ?_
  refine rvc_un (rexec_sliceHiC C n rfl rfl rfl rfl rfl rfl (by omega) ?_)
  refine rvc_prim C rfl rfl rfl rfl trivial rfl ?_
  refine rvc_prim C rfl rfl rfl rfl trivial rfl ?_
  refine rvc_un (rexec_sliceC_end C (l := n + 1) rfl rfl rfl rfl rfl rfl (by omega) ?_)
  refine rvc_un (rexec_appendIn C rfl rfl rfl rfl rfl rfl rfl (fun _ h => by cases h) (m := n) (m' := 0) (ys := []) (setRange (encC eCall D) (n * 19) []) rfl rfl rfl (fun x hx => by cases hx) (by simp) (by omega) (by rw [encC_len]; show _ * 19 ≤ _ * 19; omega) (by omega) rfl (fun U _ => rfl) rfl ?_ rfl)
  refine rvc_prim C rfl rfl rfl rfl trivial rfl ?_
  refine rvc_nil ?_
  refine Awp.cons C (fun o => match o.dst with | none => .writer | _ => .pure) (by kernel_rfl) ?_
  refine rvc_prim C rfl rfl rfl rfl trivial rfl ?_
  refine rvc_prim C rfl rfl rfl rfl trivial rfl ?_
  refine rvc_un (rexec_lenC C rfl rfl rfl rfl rfl rfl ?_)
  refine rvc_prim C rfl rfl rfl rfl trivial rfl ?_
  refine rvc_un (rexec_sliceC_mid C (l := n + (0)) (h := D.length) rfl rfl rfl rfl rfl rfl (by omega) (by omega) ?_)
  refine rvc_un (rexec_clearEnd C rfl rfl rfl rfl rfl rfl (encC eCall (D.eraseIdx n)) rfl rfl (by rw [setRange_length (by simp only [encC_len, List.length_nil]; show n * 19 + _ ≤ _ * 19; first | omega | (show n * 19 + _ * 19 ≤ _ * 19; omega))]; rw [encC_len]; show _ * 19 + _ * 19 = _ * 19; omega) rfl zeroCall (by omega) (del_last D n (by omega)) ?_ rfl)
  refine rvc_nil ?_
  refine Awp.consP C ?_
  refine rvc_prim C rfl rfl rfl rfl trivial rfl ?_
  refine rvc_prim C rfl rfl rfl rfl trivial rfl ?_
  refine rvc_nil ?_
  refine Awp.dropCap 6 0 0 (n + (0)) 19 c rfl ?_
  refine Awp.freezeW 0 (encL eCall (D.eraseIdx n)) ?_ [(6, sS (some false) eCall (D.eraseIdx n))] [] ?_ ?_ ?_
  · rfl
  · exact ⟨⟨_, rfl, .inl (.inr ⟨_, _, _, rfl, by simp only [sS]; congr 2; rw [List.length_eraseIdx_of_lt hn]; omega⟩)⟩, trivial⟩
  · exact trivial
  refine Awp.ret ?_
  exact ⟨.inl rfl, rfl⟩
theorem wrap64 (n : Int) : IntKind.u64.wrap n = n % 18446744073709551616 := by
  simp [IntKind.wrap, IntKind.bits, IntKind.signed]
theorem u64_of {n : Int} (h : 0 ≤ n ∧ n ≤ 9223372036854775807) : IntKind.u64.wrap n = n := by rw [wrap64]; omega
theorem u64_nn (n : Int) : 0 ≤ IntKind.u64.wrap n := by rw [wrap64]; omega
theorem nil_no {l : Sl Call} (hw : l.nil = true → l.D = []) (h : ((l.D.length : Int) == 0) = false) : l.nil = false := by
  cases hn : l.nil
  · rfl
  · rw [hw hn] at h; simp at h
theorem ix_ok (i : Int) {l : Sl Call} (h7 : decide ((l.D.length : Int) > 60) = false) (h0 : ((l.D.length : Int) == 0) = false) : 0 ≤ IntKind.i64.wrap ((IntKind.u64.wrap i).tmod (IntKind.u64.wrap (l.D.length : Int))) ∧ IntKind.i64.wrap ((IntKind.u64.wrap i).tmod (IntKind.u64.wrap (l.D.length : Int))) < (l.D.length : Int) := by
  have h7 := of_decide_eq_false h7
  have hp : 0 < (l.D.length : Int) := by
    have : (l.D.length : Int) ≠ 0 := by simpa using h0
    omega
  rw [u64_of (n := (l.D.length : Int)) (by omega), Int.tmod_eq_emod_of_nonneg (u64_nn i)]
  have h1 := Int.emod_nonneg (IntKind.u64.wrap i) (show (l.D.length : Int) ≠ 0 by omega)
  have h2 := Int.emod_lt_of_pos (IntKind.u64.wrap i) hp
  rw [wrap_i64 h1 (by omega)]
  exact ⟨h1, h2⟩
theorem ix_ne {l : Sl Call} (h7 : decide ((l.D.length : Int) > 60) = false) (h0 : ((l.D.length : Int) == 0) = false) : IntKind.u64.wrap (l.D.length : Int) ≠ 0 := by
  have h7 := of_decide_eq_false h7
  rw [u64_of (by omega)]; simpa using h0
set_option maxRecDepth 100000 in
theorem flat3 {m : Nat} {ps : List PV} (h : FlatA Try.prog (m + 1) 3 ps) : ∃ n, ps = [.lit (.int .i64 n)] ∧ (Lit.int .i64 n).wf = true := by
  unfold FlatA at h
  rw [Try.underlying3] at h
  exact h
set_option maxRecDepth 100000 in
theorem flat4 {m : Nat} {ps : List PV} (h : FlatA Try.prog (m + 1) 4 ps) : ∃ b, ps = [.lit (.bool b)] ∧ True := by
  unfold FlatA at h
  rw [Try.underlying4] at h
  obtain ⟨b, h⟩ := h
  exact ⟨b, h, trivial⟩
set_option maxRecDepth 100000 in
theorem flat5 {m : Nat} {ps : List PV} (h : FlatA Try.prog (m + 1) 5 ps) : ∃ n, ps = [.lit (.int .u8 n)] ∧ (Lit.int .u8 n).wf = true := by
  unfold FlatA at h
  rw [Try.underlying5] at h
  exact h
def WT31 (f : Nat → Int) : Prop := ∀ j, j < 8 → (Lit.int .u8 (f j)).wf = true
set_option maxRecDepth 100000 in
theorem flat31 {m : Nat} {ps : List PV} (h : FlatA Try.prog (m + 2) 31 ps) : ∃ f : Nat → Int, ps = [.lit (.int .u8 (f 0)), .lit (.int .u8 (f 1)), .lit (.int .u8 (f 2)), .lit (.int .u8 (f 3)), .lit (.int .u8 (f 4)), .lit (.int .u8 (f 5)), .lit (.int .u8 (f 6)), .lit (.int .u8 (f 7))] ∧ WT31 f := by
  unfold FlatA at h
  rw [Try.underlying31] at h
  obtain ⟨D, rfl, h1, h2⟩ := h
  obtain ⟨a0, a1, a2, a3, a4, a5, a6, a7, rfl⟩ := len8 h1
  obtain ⟨x0, rfl, w0⟩ := flat5 (m := m) (h2 a0 (by simp))
  obtain ⟨x1, rfl, w1⟩ := flat5 (m := m) (h2 a1 (by simp))
  obtain ⟨x2, rfl, w2⟩ := flat5 (m := m) (h2 a2 (by simp))
  obtain ⟨x3, rfl, w3⟩ := flat5 (m := m) (h2 a3 (by simp))
  obtain ⟨x4, rfl, w4⟩ := flat5 (m := m) (h2 a4 (by simp))
  obtain ⟨x5, rfl, w5⟩ := flat5 (m := m) (h2 a5 (by simp))
  obtain ⟨x6, rfl, w6⟩ := flat5 (m := m) (h2 a6 (by simp))
  obtain ⟨x7, rfl, w7⟩ := flat5 (m := m) (h2 a7 (by simp))
  refine ⟨ofL [x0, x1, x2, x3, x4, x5, x6, x7], rfl, fun j hj => ?_⟩
  rcases (by omega : j = 0 ∨ j = 1 ∨ j = 2 ∨ j = 3 ∨ j = 4 ∨ j = 5 ∨ j = 6 ∨ j = 7) with rfl | rfl | rfl | rfl | rfl | rfl | rfl | rfl
  · exact w0
  · exact w1
  · exact w2
  · exact w3
  · exact w4
  · exact w5
  · exact w6
  · exact w7
set_option maxRecDepth 100000 in
theorem flat9 {m : Nat} {ps : List PV} (h : FlatA Try.prog (m + 1) 9 ps) : ∃ s, ps = [.lit (.string s)] ∧ s.size ≤ maxLen := by
  unfold FlatA at h
  rw [Try.underlying9] at h
  exact h
set_option maxRecDepth 100000 in
theorem flat23 {m : Nat} {ps : List PV} (h : FlatA Try.prog (m + 1) 23 ps) : ∃ n, ps = [.lit (.int .i64 n)] ∧ (Lit.int .i64 n).wf = true := by
  unfold FlatA at h
  rw [Try.underlying23] at h
  exact h
def WT34 (x : Call) : Prop := (Lit.int .i64 x.client).wf = true ∧ (Lit.int .i64 x.seq).wf = true ∧ True ∧ WT31 x.key ∧ x.value.size ≤ maxLen ∧ (Lit.int .i64 x.mode).wf = true ∧ (Lit.int .i64 x.bound).wf = true ∧ (Lit.int .i64 x.began).wf = true ∧ (Lit.int .i64 x.ended).wf = true ∧ (Lit.int .i64 x.ver).wf = true ∧ (Lit.int .i64 x.err).wf = true ∧ (Lit.int .i64 x.floor).wf = true
set_option maxRecDepth 100000 in
theorem flat34 {m : Nat} {ps : List PV} (h : FlatA Try.prog (m + 3) 34 ps) : ∃ x : Call, ps = eCall.enc x ∧ WT34 x := by
  unfold FlatA at h
  rw [Try.underlying34] at h
  obtain ⟨a0, b0, e0, h0, a1, b1, e1, h1, a2, b2, e2, h2, a3, b3, e3, h3, a4, b4, e4, h4, a5, b5, e5, h5, a6, b6, e6, h6, a7, b7, e7, h7, a8, b8, e8, h8, a9, b9, e9, h9, a10, b10, e10, h10, a11, b11, e11, h11, el⟩ := h
  obtain ⟨x0, rfl, w0⟩ := flat3 (m := m + 1) h0
  obtain ⟨x1, rfl, w1⟩ := flat3 (m := m + 1) h1
  obtain ⟨x2, rfl, w2⟩ := flat4 (m := m + 1) h2
  obtain ⟨x3, rfl, w3⟩ := flat31 (m := m + 0) h3
  obtain ⟨x4, rfl, w4⟩ := flat9 (m := m + 1) h4
  obtain ⟨x5, rfl, w5⟩ := flat3 (m := m + 1) h5
  obtain ⟨x6, rfl, w6⟩ := flat3 (m := m + 1) h6
  obtain ⟨x7, rfl, w7⟩ := flat3 (m := m + 1) h7
  obtain ⟨x8, rfl, w8⟩ := flat3 (m := m + 1) h8
  obtain ⟨x9, rfl, w9⟩ := flat3 (m := m + 1) h9
  obtain ⟨x10, rfl, w10⟩ := flat23 (m := m + 1) h10
  obtain ⟨x11, rfl, w11⟩ := flat3 (m := m + 1) h11
  subst el
  subst e11
  subst e10
  subst e9
  subst e8
  subst e7
  subst e6
  subst e5
  subst e4
  subst e3
  subst e2
  subst e1
  subst e0
  exact ⟨⟨x0, x1, x2, x3, x4, x5, x6, x7, x8, x9, x10, x11⟩, rfl, w0, w1, w2, w3, w4, w5, w6, w7, w8, w9, w10, w11⟩
def WT27 (s : Sl Call) : Prop := s.D.length ≤ maxLen ∧ (s.nil = true → s.D = []) ∧ ∀ x ∈ s.D, WT34 x
set_option maxRecDepth 100000 in
theorem flat27 {m : Nat} {ps : List PV} (h : FlatA Try.prog (m + 4) 27 ps) : ∃ s : Sl Call, ps = [.sl (some s.nil) s.D.length (encL eCall s.D)] ∧ WT27 s := by
  unfold FlatA at h
  rw [Try.underlying27] at h
  obtain ⟨b, D, rfl, h1, h2, h3⟩ := h
  obtain ⟨D2, e1, e2, e3⟩ := enc_list (e := eCall) (W := fun x => WT34 x) D fun y hy => flat34 (h3 y hy)
  rw [e2, ← e1]
  exact ⟨⟨b, D2⟩, rfl, (by show D2.length ≤ _; rw [e1]; exact h1), (fun hb => by have := h2 hb; rw [this] at e1; exact List.eq_nil_of_length_eq_zero e1), e3⟩
def WT58 (x : Req) : Prop := (Lit.int .i64 x.client).wf = true ∧ (Lit.int .i64 x.seq).wf = true
set_option maxRecDepth 100000 in
theorem flat58 {m : Nat} {ps : List PV} (h : FlatA Try.prog (m + 2) 58 ps) : ∃ x : Req, ps = eReq.enc x ∧ WT58 x := by
  unfold FlatA at h
  rw [Try.underlying58] at h
  obtain ⟨a0, b0, e0, h0, a1, b1, e1, h1, el⟩ := h
  obtain ⟨x0, rfl, w0⟩ := flat3 (m := m + 0) h0
  obtain ⟨x1, rfl, w1⟩ := flat3 (m := m + 0) h1
  subst el
  subst e1
  subst e0
  exact ⟨⟨x0, x1⟩, rfl, w0, w1⟩
def WT60 (x : Record) : Prop := (Lit.int .i64 x.index).wf = true ∧ (Lit.int .i64 x.epoch).wf = true ∧ WT31 x.key ∧ (Lit.int .i64 x.ver).wf = true ∧ x.value.size ≤ maxLen ∧ WT58 x.req
set_option maxRecDepth 100000 in
theorem flat60 {m : Nat} {ps : List PV} (h : FlatA Try.prog (m + 3) 60 ps) : ∃ x : Record, ps = eRecord.enc x ∧ WT60 x := by
  unfold FlatA at h
  rw [Try.underlying60] at h
  obtain ⟨a0, b0, e0, h0, a1, b1, e1, h1, a2, b2, e2, h2, a3, b3, e3, h3, a4, b4, e4, h4, a5, b5, e5, h5, el⟩ := h
  obtain ⟨x0, rfl, w0⟩ := flat3 (m := m + 1) h0
  obtain ⟨x1, rfl, w1⟩ := flat3 (m := m + 1) h1
  obtain ⟨x2, rfl, w2⟩ := flat31 (m := m + 0) h2
  obtain ⟨x3, rfl, w3⟩ := flat3 (m := m + 1) h3
  obtain ⟨x4, rfl, w4⟩ := flat9 (m := m + 1) h4
  obtain ⟨x5, rfl, w5⟩ := flat58 (m := m + 0) h5
  subst el
  subst e5
  subst e4
  subst e3
  subst e2
  subst e1
  subst e0
  exact ⟨⟨x0, x1, x2, x3, x4, x5⟩, rfl, w0, w1, w2, w3, w4, w5⟩
def WT22 (s : Sl Record) : Prop := s.D.length ≤ maxLen ∧ (s.nil = true → s.D = []) ∧ ∀ x ∈ s.D, WT60 x
set_option maxRecDepth 100000 in
theorem flat22 {m : Nat} {ps : List PV} (h : FlatA Try.prog (m + 4) 22 ps) : ∃ s : Sl Record, ps = [.sl (some s.nil) s.D.length (encL eRecord s.D)] ∧ WT22 s := by
  unfold FlatA at h
  rw [Try.underlying22] at h
  obtain ⟨b, D, rfl, h1, h2, h3⟩ := h
  obtain ⟨D2, e1, e2, e3⟩ := enc_list (e := eRecord) (W := fun x => WT60 x) D fun y hy => flat60 (h3 y hy)
  rw [e2, ← e1]
  exact ⟨⟨b, D2⟩, rfl, (by show D2.length ≤ _; rw [e1]; exact h1), (fun hb => by have := h2 hb; rw [this] at e1; exact List.eq_nil_of_length_eq_zero e1), e3⟩
theorem big_le {n : Nat} (h : n ≤ maxLen) : n ≤ 9223372036854775807 := Nat.le_trans h (by decide)
def cloneCallsO (s : (Sl Call)) : List Call :=
  s.D
theorem cloneCallsO_calls (s : (Sl Call)) (hn : s.nil = false) (hl1 : s.D.length ≤ 1000000) : OCalls Try.prog 20 [sS (some s.nil) eCall s.D] (.sl 0 0 (cloneCallsO s).length 19 false) (.cells (encC eCall (cloneCallsO s))) := by
 generalize hR : cloneCallsO s = R
 refine OCalls.of_body tabOk Try.func20 rfl rfl rfl rfl rfl (encC_within _ _) mixed fun E hP C hI => ?_
 refine Awp.consP C ?_
 refine rvP C (sS (some true) eCall []) ?_
 refine rvc_nil ?_
 refine Awp.seq ?_
 refine Awp.consP C ?_
 refine rvP C (sS (some s.nil) eCall s.D) ?_
 refine rvc_un (rexec_eqNil C (f := s.nil) rfl rfl rfl rfl ?_)
 refine rvc_nil ?_
 refine Awp.condF (b := s.nil) rfl hn ?_
 refine Awp.skip ?_
 refine Awp.consP C ?_
 refine rvc_un (rexec_prim C (δ := { v := .sl 5 0 0 19 true, new := [(5, .cells (encC eCall []))] }) rfl rfl rfl rfl trivial rfl ?_)
 refine rvP C (sS (some s.nil) eCall s.D) ?_
 refine rvc_un (rexec_append C rfl rfl rfl rfl rfl rfl rfl rfl (fun _ h => by cases h) rfl (en := eCall) (D0 := []) (D := s.D) rfl rfl rfl rfl (by first | omega | (simp <;> omega)) (by decide) (nn := s.D.length) (by simp <;> omega) ?_)
 refine rvP C (.sl 7 0 s.D.length 19 false) ?_
 refine rvc_nil ?_
 refine Awp.weakenR (S := [(2, .sl 0 0 s.D.length 19 false)]) (H := [(0, .cells (encC eCall s.D))]) (U := [0]) (fun x => bif x == 0 then 7 else x) (WeakerR.ofL (Ks := [0]) hI ⟨⟨rfl, rfl⟩, trivial⟩ (okH_list rfl rfl rfl okH_nil) rfl) ?_
 refine Awp.ret ?_
 subst hR
 exact ⟨.inl rfl, rfl, rfl⟩
def lawFewer (calls : (Sl Call)) (recs : (Sl Record)) (i : Int) : Bool :=
  (bif (decide ((calls.D.length : Int) > 60)) then (awake ) else (bif (decide ((recs.D.length : Int) > 60)) then (awake ) else (bif ((calls.D.length : Int) == 0) then (awake ) else (bif (!(jAll calls recs)) then (awake ) else (bif calls.D[(IntKind.i64.wrap ((IntKind.u64.wrap i).tmod (IntKind.u64.wrap (calls.D.length : Int)))).toNat]!.write then (awake ) else (bif (jAll (Sl.mk false (List.eraseIdx calls.D ((IntKind.i64.wrap ((IntKind.u64.wrap i).tmod (IntKind.u64.wrap (calls.D.length : Int))))).toNat)) recs) then (awake ) else false))))))
theorem lawFewer_calls (calls : (Sl Call)) (recs : (Sl Record)) (i : Int) (hw : calls.nil = true → calls.D = []) (hl1 : recs.D.length ≤ 9223372036854775807) (hl2 : calls.D.length ≤ 9223372036854775807) : PCalls Try.prog 6 [sS (some calls.nil) eCall calls.D, sS (some recs.nil) eRecord recs.D, .pv (.lit (.int .i64 i))] (.pv (.lit (.bool (lawFewer calls recs i)))) := by
 generalize hR : lawFewer calls recs i = R
 refine PCalls.of_body tabOk Try.func6 rfl rfl rfl rfl rfl mixed fun E hP C hI => ?_
 refine Awp.consP C ?_
 refine rvP C (.pv (.lit (.bool false))) ?_
 refine rvc_nil ?_
 refine Awp.seq ?_
 refine Awp.consP C ?_
 refine rvP C (sS (some calls.nil) eCall calls.D) ?_
 refine rvP C (.pv (.lit (.int .i64 (calls.D.length : Int)))) ?_
 refine rvP C (.pv (.lit (.bool (decide ((calls.D.length : Int) > 60))))) ?_
 refine rvP C (.pv (.lit (.bool (decide ((calls.D.length : Int) > 60))))) ?_
 refine rvc_case 10 (decide ((calls.D.length : Int) > 60)) rfl (fun h1 => ?_) (fun h1 => ?_)
 ·
  replace hR := of_true h1 hR
  refine rvS ?_
  refine rvS ?_
  refine rvS ?_
  refine rvP C (.pv (.lit (.bool true))) ?_
  refine rvP C (.pv (.lit (.bool true))) ?_
  refine rvS ?_
  refine rvS ?_
  refine rvS ?_
  refine rvP C (.pv (.lit (.bool true))) ?_
  refine rvP C (.pv (.lit (.bool true))) ?_
  refine rvS ?_
  refine rvS ?_
  refine rvS ?_
  refine rvS ?_
  refine rvP C (.pv (.lit (.bool true))) ?_
  refine rvc_nil ?_
  refine Awp.condT (b := true) rfl rfl ?_
  refine Awp.consP C ?_
  refine rvc_un (rexec_call hP C rfl rfl rfl (awake_calls ) ?_)
  refine rvP C (.pv (.lit (.bool (awake )))) ?_
  refine rvc_nil ?_
  refine Awp.ret ?_
  subst hR
  exact ⟨.inl rfl, rfl⟩
 ·
  replace hR := of_false h1 hR
  refine rvO C (sS (some recs.nil) eRecord recs.D) ?_
  refine rvO C (.pv (.lit (.int .i64 (recs.D.length : Int)))) ?_
  refine rvO C (.pv (.lit (.bool (decide ((recs.D.length : Int) > 60))))) ?_
  refine rvP C (.pv (.lit (.bool (decide ((recs.D.length : Int) > 60))))) ?_
  refine rvP C (.pv (.lit (.bool (decide ((recs.D.length : Int) > 60))))) ?_
  refine rvc_case 15 (decide ((recs.D.length : Int) > 60)) rfl (fun h2 => ?_) (fun h2 => ?_)
  ·
   replace hR := of_true h2 hR
   refine rvS ?_
   refine rvS ?_
   refine rvS ?_
   refine rvP C (.pv (.lit (.bool true))) ?_
   refine rvP C (.pv (.lit (.bool true))) ?_
   refine rvS ?_
   refine rvS ?_
   refine rvS ?_
   refine rvS ?_
   refine rvP C (.pv (.lit (.bool true))) ?_
   refine rvc_nil ?_
   refine Awp.condT (b := true) rfl rfl ?_
   refine Awp.consP C ?_
   refine rvc_un (rexec_call hP C rfl rfl rfl (awake_calls ) ?_)
   refine rvP C (.pv (.lit (.bool (awake )))) ?_
   refine rvc_nil ?_
   refine Awp.ret ?_
   subst hR
   exact ⟨.inl rfl, rfl⟩
  ·
   replace hR := of_false h2 hR
   refine rvO C (sS (some calls.nil) eCall calls.D) ?_
   refine rvO C (.pv (.lit (.int .i64 (calls.D.length : Int)))) ?_
   refine rvO C (.pv (.lit (.bool ((calls.D.length : Int) == 0)))) ?_
   refine rvP C (.pv (.lit (.bool ((calls.D.length : Int) == 0)))) ?_
   refine rvP C (.pv (.lit (.bool ((calls.D.length : Int) == 0)))) ?_
   refine rvc_case 20 ((calls.D.length : Int) == 0) rfl (fun h3 => ?_) (fun h3 => ?_)
   ·
    replace hR := of_true h3 hR
    refine rvS ?_
    refine rvS ?_
    refine rvS ?_
    refine rvS ?_
    refine rvP C (.pv (.lit (.bool true))) ?_
    refine rvc_nil ?_
    refine Awp.condT (b := true) rfl rfl ?_
    refine Awp.consP C ?_
    refine rvc_un (rexec_call hP C rfl rfl rfl (awake_calls ) ?_)
    refine rvP C (.pv (.lit (.bool (awake )))) ?_
    refine rvc_nil ?_
    refine Awp.ret ?_
    subst hR
    exact ⟨.inl rfl, rfl⟩
   ·
    replace hR := of_false h3 hR
    refine rvO C (sS (some calls.nil) eCall calls.D) ?_
    refine rvO C (sS (some recs.nil) eRecord recs.D) ?_
    refine rvc_open rfl rfl rfl (rexec_call hP C rfl rfl rfl (jAll_calls calls recs (by show recs.D.length ≤ 1000000; have := of_decide_eq_false h1; have := of_decide_eq_false h2; have := ne_of_beq_false h3; omega) (by show calls.D.length ≤ 1000000; have := of_decide_eq_false h1; have := of_decide_eq_false h2; have := ne_of_beq_false h3; omega)) ?_)
    refine rvO C (.pv (.lit (.bool (!(jAll calls recs))))) ?_
    refine rvP C (.pv (.lit (.bool (!(jAll calls recs))))) ?_
    refine rvc_nil ?_
    refine Awp.cond (b := (!(jAll calls recs))) rfl (fun h4 => ?_) (fun h4 => ?_)
    ·
     replace hR := of_true h4 hR
     refine Awp.consP C ?_
     refine rvc_un (rexec_call hP C rfl rfl rfl (awake_calls ) ?_)
     refine rvP C (.pv (.lit (.bool (awake )))) ?_
     refine rvc_nil ?_
     refine Awp.ret ?_
     subst hR
     exact ⟨.inl rfl, rfl⟩
    ·
     replace hR := of_false h4 hR
     refine Awp.skip ?_
     refine Awp.consP C ?_
     refine rvP C (.pv (.lit (.int .i64 i))) ?_
     refine rvP C (.pv (.lit (.int .u64 (IntKind.u64.wrap i)))) ?_
     refine rvP C (sS (some calls.nil) eCall calls.D) ?_
     refine rvP C (.pv (.lit (.int .i64 (calls.D.length : Int)))) ?_
     refine rvP C (.pv (.lit (.int .u64 (IntKind.u64.wrap (calls.D.length : Int))))) ?_
     refine rvc_un (rexec_prim C (δ := { v := .pv (.lit (.int .u64 ((IntKind.u64.wrap i).tmod (IntKind.u64.wrap (calls.D.length : Int))))) }) rfl rfl rfl rfl (ix_ne (by assumption) (by assumption)) rfl ?_)
     refine rvP C (.pv (.lit (.int .i64 (IntKind.i64.wrap ((IntKind.u64.wrap i).tmod (IntKind.u64.wrap (calls.D.length : Int))))))) ?_
     refine rvP C (.pv (.lit (.int .i64 (IntKind.i64.wrap ((IntKind.u64.wrap i).tmod (IntKind.u64.wrap (calls.D.length : Int))))))) ?_
     refine rvc_nil ?_
     refine Awp.seq ?_
     refine Awp.consP C ?_
     refine rvP C (sS (some calls.nil) eCall calls.D) ?_
     refine rvP C (.pv (.lit (.int .i64 (IntKind.i64.wrap ((IntKind.u64.wrap i).tmod (IntKind.u64.wrap (calls.D.length : Int))))))) ?_
     have h5 : calls.D[(IntKind.i64.wrap ((IntKind.u64.wrap i).tmod (IntKind.u64.wrap (calls.D.length : Int)))).toNat]? = some calls.D[(IntKind.i64.wrap ((IntKind.u64.wrap i).tmod (IntKind.u64.wrap (calls.D.length : Int)))).toNat]! := getE (by have hx_ := ix_ok i (l := calls) (by assumption) (by assumption); omega)
     refine rvc_un (rexec_idxS C rfl rfl rfl rfl rfl rfl (calls.D[(IntKind.i64.wrap ((IntKind.u64.wrap i).tmod (IntKind.u64.wrap (calls.D.length : Int)))).toNat]!) (ix_ok i (l := calls) (by assumption) (by assumption)).1 h5 ?_)
     refine rvP C (.rp [.lit (.bool (calls.D[(IntKind.i64.wrap ((IntKind.u64.wrap i).tmod (IntKind.u64.wrap (calls.D.length : Int)))).toNat]!.write))]) ?_
     refine rvP C (.pv (.lit (.bool (calls.D[(IntKind.i64.wrap ((IntKind.u64.wrap i).tmod (IntKind.u64.wrap (calls.D.length : Int)))).toNat]!.write)))) ?_
     refine rvc_nil ?_
     refine Awp.cond (b := calls.D[(IntKind.i64.wrap ((IntKind.u64.wrap i).tmod (IntKind.u64.wrap (calls.D.length : Int)))).toNat]!.write) rfl (fun h6 => ?_) (fun h6 => ?_)
     ·
      replace hR := of_true h6 hR
      refine Awp.consP C ?_
      refine rvc_un (rexec_call hP C rfl rfl rfl (awake_calls ) ?_)
      refine rvP C (.pv (.lit (.bool (awake )))) ?_
      refine rvc_nil ?_
      refine Awp.ret ?_
      subst hR
      exact ⟨.inl rfl, rfl⟩
     ·
      replace hR := of_false h6 hR
      refine Awp.skip ?_
      refine Awp.cons C (fun _ => .writer) (by kernel_rfl) ?_
      refine rvP C (sS (some calls.nil) eCall calls.D) ?_
      have hx_ := ix_ok i (l := calls) (by assumption) (by assumption)
      have h7_ := of_decide_eq_false (show decide ((calls.D.length : Int) > 60) = false by assumption)
      refine rvc_un (rexec_callO hP C rfl rfl rfl rfl (cloneCallsO_calls calls (nil_no hw (by assumption)) (by have := wrapI ((IntKind.u64.wrap i).tmod (IntKind.u64.wrap (calls.D.length : Int))); have := of_decide_eq_false h1; have := of_decide_eq_false h2; have := ne_of_beq_false h3; omega)) ?_)
      refine rvP C (.pv (.lit (.int .i64 (IntKind.i64.wrap ((IntKind.u64.wrap i).tmod (IntKind.u64.wrap (calls.D.length : Int))))))) ?_
      refine rvP C (.pv (.lit (.int .i64 (IntKind.i64.wrap ((IntKind.u64.wrap i).tmod (IntKind.u64.wrap (calls.D.length : Int))))))) ?_
      refine rvP C (.pv (.lit (.int .i64 (IntKind.i64.wrap ((IntKind.i64.wrap ((IntKind.u64.wrap i).tmod (IntKind.u64.wrap (calls.D.length : Int)))) + 1))))) ?_
      refine rvc_un (rexec_callX hP C (b := 41) rfl rfl rfl (delCall_calls calls.D (IntKind.i64.wrap ((IntKind.u64.wrap i).tmod (IntKind.u64.wrap (calls.D.length : Int)))) (IntKind.i64.wrap ((IntKind.i64.wrap ((IntKind.u64.wrap i).tmod (IntKind.u64.wrap (calls.D.length : Int)))) + 1)) hx_ (wrap_i64 (by omega) (by omega)) (by omega)) rfl rfl ?_)
      refine rvP C (sS (some recs.nil) eRecord recs.D) ?_
      refine rvc_un (rexec_call hP C rfl rfl rfl (jAll_calls (Sl.mk false (List.eraseIdx calls.D ((IntKind.i64.wrap ((IntKind.u64.wrap i).tmod (IntKind.u64.wrap (calls.D.length : Int))))).toNat)) recs (by have c60_ := of_decide_eq_false ‹decide ((calls.D.length : Int) > 60) = false›; have r60_ := of_decide_eq_false ‹decide ((recs.D.length : Int) > 60) = false›; omega) (Nat.le_trans (List.length_eraseIdx_le _ _) (by have c60_ := of_decide_eq_false ‹decide ((calls.D.length : Int) > 60) = false›; have r60_ := of_decide_eq_false ‹decide ((recs.D.length : Int) > 60) = false›; omega))) ?_)
      refine rvP C (.pv (.lit (.bool (jAll (Sl.mk false (List.eraseIdx calls.D ((IntKind.i64.wrap ((IntKind.u64.wrap i).tmod (IntKind.u64.wrap (calls.D.length : Int))))).toNat)) recs)))) ?_
      refine rvc_case 48 (jAll (Sl.mk false (List.eraseIdx calls.D ((IntKind.i64.wrap ((IntKind.u64.wrap i).tmod (IntKind.u64.wrap (calls.D.length : Int))))).toNat)) recs) rfl (fun h7 => ?_) (fun h7 => ?_)
      ·
       replace hR := of_true h7 hR
       refine rvc_open rfl rfl rfl (rexec_call hP C rfl rfl rfl (awake_calls ) ?_)
       refine rvP C (.pv (.lit (.bool (awake )))) ?_
       refine rvP C (.pv (.lit (.bool (awake )))) ?_
       refine rvc_nil ?_
       refine Awp.ret ?_
       subst hR
       exact ⟨.inl rfl, rfl⟩
      ·
       replace hR := of_false h7 hR
       refine rvS ?_
       refine rvP C (.pv (.lit (.bool false))) ?_
       refine rvP C (.pv (.lit (.bool false))) ?_
       refine rvc_nil ?_
       refine Awp.ret ?_
       subst hR
       exact ⟨.inl rfl, rfl⟩
theorem VP.less {A B : List Op} {o : Op} (h : VP (A ++ o :: B)) (ho : o.write = false) : VP (A ++ B) := by
  have hm : ∀ x ∈ A ++ B, x ∈ A ++ o :: B := fun x hx => by
    rcases List.mem_append.1 hx with hx | hx
    · exact List.mem_append_left _ hx
    · exact List.mem_append_right _ (List.mem_cons_of_mem _ hx)
  have hg : ∀ i x, (A ++ B)[i]? = some x → (A ++ o :: B)[if i < A.length then i else i + 1]? = some x := fun i x hi => by
    by_cases h' : i < A.length
    · rw [if_pos h', List.getElem?_append_left h']
      rwa [List.getElem?_append_left h'] at hi
    · rw [if_neg h', List.getElem?_append_right (by omega), show i + 1 - A.length = (i - A.length) + 1 by omega, List.getElem?_cons_succ]
      rwa [List.getElem?_append_right (by omega)] at hi
  refine { w0 := fun x hx => h.w0 x (hm x hx), one := fun i j x y hi hj hij => h.one _ _ x y (hg i x hi) (hg j y hj) (by split <;> split <;> omega), rd := fun x hx hw he => ?_, ris := fun a ha b hb => h.ris a (hm a ha) b (hm b hb) }
  have := h.rd x (hm x hx) hw he
  unfold okB at this ⊢
  rw [List.any_append, List.any_cons, ho, Bool.false_and, Bool.false_or] at this
  rw [List.any_append]; exact this
theorem opOf_write (recs : Sl Record) (x : Call) : (opOf recs x).write = x.write := by
  unfold opOf; split <;> rfl
theorem opsOf_less (k : List Int) (recs : Sl Record) (A B : List Call) (x : Call) (hx : x.write = false) (h : VP (opsOf k recs (A ++ x :: B))) : VP (opsOf k recs (A ++ B)) := by
  unfold opsOf at h ⊢
  rw [List.filter_append, List.map_append] at h ⊢
  cases hs : sel k x
  · rw [List.filter_cons_of_neg (by rw [hs]; decide)] at h; exact h
  · rw [List.filter_cons_of_pos hs, List.map_cons] at h
    exact h.less (by rw [opOf_write]; exact hx)
theorem ahead_less (k : Nat → Int) (time : Int) (x : Call) (hx : x.write = false) (B : List Call) : ∀ (A : List Call) (i j : Nat) (most : Int), jAhead_l0 k time (A ++ x :: B) i most = jAhead_l0 k time (A ++ B) j most
  | [], i, j, most => by
    rw [List.nil_append, List.nil_append]
    conv => lhs; unfold jAhead_l0
    rw [hx, cond_false]
    have : ∀ (B : List Call) (i j : Nat) (most : Int), jAhead_l0 k time B i most = jAhead_l0 k time B j most := fun B => by
      induction B with
      | nil => intro i j most; unfold jAhead_l0; rfl
      | cons y ys ih =>
        intro i j most
        unfold jAhead_l0
        rw [ih (i + 1) (j + 1) (bif decide (most < y.ver) then y.ver else most), ih (i + 1) (j + 1) most]
    exact this B (i + 1) j most
  | y :: ys, i, j, most => by
    rw [List.cons_append, List.cons_append]
    unfold jAhead_l0
    rw [ahead_less k time x hx B ys (i + 1) (j + 1) (bif decide (most < y.ver) then y.ver else most), ahead_less k time x hx B ys (i + 1) (j + 1) most]
theorem all_less {calls : Sl Call} {recs : Sl Record} (hL : calls.D.length ≤ 1000000) {n : Nat} (hn : n < calls.D.length) (hx : (calls.D[n]).write = false) (h : jAll calls recs = true) : jAll (Sl.mk false (calls.D.eraseIdx n)) recs = true := by
  have hsp : calls.D = calls.D.take n ++ calls.D[n] :: calls.D.drop (n + 1) := by
    rw [← List.drop_eq_getElem_cons hn, List.take_append_drop]
  have her : calls.D.eraseIdx n = calls.D.take n ++ calls.D.drop (n + 1) := List.eraseIdx_eq_take_drop_succ _ _
  have hsub : ∀ y ∈ calls.D.eraseIdx n, y ∈ calls.D := fun y hy => List.mem_of_mem_eraseIdx hy
  unfold jAll at h
  cases h1 : (jRight recs == 0)
  · rw [h1] at h; cases h
  cases h2 : jStrong calls recs
  · rw [h1, h2] at h; cases h
  cases h3 : jValues calls recs
  · rw [h1, h2, h3] at h; cases h
  cases h4 : jBounds calls
  · rw [h1, h2, h3, h4] at h; cases h
  cases h5 : jSessions calls
  · rw [h1, h2, h3, h4, h5] at h; cases h
  have g2 : jStrong (Sl.mk false (calls.D.eraseIdx n)) recs = true := by
    rw [jStrong_iff recs (Nat.le_trans (List.length_eraseIdx_le _ _) hL)]
    rw [jStrong_iff recs hL] at h2
    intro y hy
    have := h2 y (hsub y hy)
    rw [hsp] at this
    show VP (opsOf (kL y.key) recs (calls.D.eraseIdx n))
    rw [her]
    exact opsOf_less _ _ _ _ _ hx this
  have g3 : jValues (Sl.mk false (calls.D.eraseIdx n)) recs = true := by
    rw [jValues_eq] at h3 ⊢
    exact List.all_eq_true.2 fun y hy => List.all_eq_true.1 h3 y (hsub y hy)
  have g4 : jBounds (Sl.mk false (calls.D.eraseIdx n)) = true := by
    unfold jBounds at h4 ⊢
    rw [containsF_eq, Bool.not_eq_true', List.any_eq_false] at h4 ⊢
    intro y hy
    have e : boundsF y (Sl.mk false (calls.D.eraseIdx n)) = boundsF y calls := by
      unfold boundsF
      have : jAhead y.key y.began (Sl.mk false (calls.D.eraseIdx n)) = jAhead y.key y.began calls := by
        unfold jAhead
        show jAhead_l0 y.key y.began (calls.D.eraseIdx n) 0 0 = _
        rw [her]
        conv => rhs; rw [hsp]
        exact (ahead_less _ _ _ hx _ _ _ _ _).symm
      rw [this]
    rw [e]
    exact h4 y (hsub y hy)
  have g5 : jSessions (Sl.mk false (calls.D.eraseIdx n)) = true := by
    unfold jSessions at h5 ⊢
    rw [containsF_eq, Bool.not_eq_true', List.any_eq_false] at h5 ⊢
    exact fun y hy => h5 y (hsub y hy)
  unfold jAll
  rw [h1, g2, g3, g4, g5]; rfl
theorem lawFewer_true {calls : Sl Call} {recs : Sl Record} (i : Int) : lawFewer calls recs i = true := by
  unfold lawFewer
  rw [awake_true]
  cases h1 : decide ((calls.D.length : Int) > 60)
  · cases h2 : decide ((recs.D.length : Int) > 60)
    · cases h3 : ((calls.D.length : Int) == 0)
      · cases h4 : jAll calls recs
        · rfl
        · obtain ⟨q1, q2⟩ := ix_ok i h1 h3
          generalize IntKind.i64.wrap ((IntKind.u64.wrap i).tmod (IntKind.u64.wrap (calls.D.length : Int))) = x at q1 q2 ⊢
          have h1 := of_decide_eq_false h1
          have hn : x.toNat < calls.D.length := by omega
          rw [getElem!_pos calls.D x.toNat hn]
          cases h5 : (calls.D[x.toNat]).write
          · rw [all_less (by omega) hn h5 h4]; rfl
          · rfl
      · rfl
    · rfl
  · rfl
theorem judgeFewer_calls (calls : Sl Call) (w : WT27 calls) (recs : Sl Record) (w2 : WT22 recs) (i : Int) (_wi : (Lit.int .i64 i).wf = true) : PCalls Try.prog 6 [sS (some calls.nil) eCall calls.D, sS (some recs.nil) eRecord recs.D, .pv (.lit (.int .i64 i))] (.pv (.lit (.bool true))) := by
  have h := lawFewer_calls calls recs i w.2.1 (big_le w2.1) (big_le w.1)
  rw [lawFewer_true] at h
  exact h
theorem own : ownKnob Try.prog.godebug = none := by kernel_rfl
theorem laidOut : laidOutB Try.prog = true := by kernel_rfl
end Go.Proofs.Ytoieegmebadfkaa
