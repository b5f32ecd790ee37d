import Derived.Test.YtoieegmebadfkaaM1
import Derived.Test.YtoieegmebadfkaaM2
import Derived.Test.YtoieegmebadfkaaM3
import Derived.Test.YtoieegmebadfkaaM4
/- Calls handed rows of one's own, or rows without room, in the examples. No conditions. -/
namespace Go.Proofs.Ytoieegmebadfkaa
open Go.Am
theorem enc_ne {recs : List Record} (h : recs ≠ []) : encL eRecord recs ≠ [] := by
  cases recs with
  | nil => exact absurd rfl h
  | cons x xs => exact List.cons_ne_nil _ _
theorem jStrongW_calls (calls : Sl Call) (recs : Sl Record) (n_ : Nat) (tt_ : Bool) (hn_ : n_ = calls.D.length) (hne : recs.D ≠ []) (hl1 : calls.D.length ≤ 1000000) (hl2 : recs.D.length ≤ 1000000) : MCalls Try.prog 15 [.sl 0 0 n_ 19 tt_, .tsl recs.D.length (encL eRecord recs.D)] (.cells (encC eCall calls.D)) (.pv (.lit (.bool (jStrong (Sl.mk false calls.D) (Sl.mk false recs.D))))) (.cells (encC eCall calls.D)) := by
  subst hn_
  exact MCalls.of_PCalls (ps := encL eCall calls.D) ((jStrong_calls (Sl.mk false calls.D) (Sl.mk false recs.D) hl1 hl2).tsl (avs' := [sS (some false) eCall calls.D, .tsl recs.D.length (encL eRecord recs.D)]) ⟨.inl rfl, .inr ⟨_, _, enc_ne hne, rfl, rfl⟩, trivial⟩ rfl) ⟨.inr ⟨_, _, _, rfl, rfl⟩, .inl rfl, trivial⟩ rfl rfl
theorem jAllT_calls (calls : Sl Call) (recs : Sl Record) (hne : recs.D ≠ []) (hl1 : calls.D.length ≤ 1000000) (hl2 : recs.D.length ≤ 1000000) : PCalls Try.prog 19 [sS (some calls.nil) eCall calls.D, .tsl recs.D.length (encL eRecord recs.D)] (.pv (.lit (.bool (jAll calls (Sl.mk false recs.D))))) :=
  (jAll_calls calls (Sl.mk false recs.D) hl2 hl1).tsl ⟨.inl rfl, .inr ⟨_, _, enc_ne hne, rfl, rfl⟩, trivial⟩ rfl
theorem jAllW_calls (calls : Sl Call) (recs : Sl Record) (n_ : Nat) (tt_ : Bool) (hn_ : n_ = calls.D.length) (hne : recs.D ≠ []) (hl1 : calls.D.length ≤ 1000000) (hl2 : recs.D.length ≤ 1000000) : MCalls Try.prog 19 [.sl 0 0 n_ 19 tt_, .tsl recs.D.length (encL eRecord recs.D)] (.cells (encC eCall calls.D)) (.pv (.lit (.bool (jAll (Sl.mk false calls.D) (Sl.mk false recs.D))))) (.cells (encC eCall calls.D)) := by
  subst hn_
  exact MCalls.of_PCalls (ps := encL eCall calls.D) (jAllT_calls (Sl.mk false calls.D) recs hne hl1 hl2) ⟨.inr ⟨_, _, _, rfl, rfl⟩, .inl rfl, trivial⟩ rfl rfl
theorem jValuesT_calls (calls : Sl Call) (recs : Sl Record) (hne : recs.D ≠ []) (hl1 : calls.D.length ≤ 1000000) (hl2 : recs.D.length ≤ 1000000) : PCalls Try.prog 16 [sS (some calls.nil) eCall calls.D, .tsl recs.D.length (encL eRecord recs.D)] (.pv (.lit (.bool (jValues calls (Sl.mk false recs.D))))) :=
  (jValues_calls calls (Sl.mk false recs.D) hl2 hl1).tsl ⟨.inl rfl, .inr ⟨_, _, enc_ne hne, rfl, rfl⟩, trivial⟩ rfl
theorem jRightW_calls (recs : Sl Record) (n_ : Nat) (tt_ : Bool) (hn_ : n_ = recs.D.length) (hl1 : recs.D.length ≤ 1000000) : MCalls Try.prog 8 [.sl 0 0 n_ 14 tt_] (.cells (encC eRecord recs.D)) (.pv (.lit (.int .i64 (jRight (Sl.mk false recs.D))))) (.cells (encC eRecord recs.D)) := by
  subst hn_
  exact MCalls.of_PCalls (ps := encL eRecord recs.D) (jRight_calls (Sl.mk false recs.D) hl1) ⟨.inr ⟨_, _, _, rfl, rfl⟩, trivial⟩ rfl rfl
def awL : List Call := [(Call.mk 0 1 true (ofL [(97 : Int), 0, 0, 0, 0, 0, 0, 0]) ⟨#[120]⟩ 0 0 1 2 1 0 0), (Call.mk 1 1 false (ofL [(97 : Int), 0, 0, 0, 0, 0, 0, 0]) ⟨#[]⟩ 0 0 3 4 0 0 0)]
def awR : List Record := [(Record.mk 1 1 (ofL [(97 : Int), 0, 0, 0, 0, 0, 0, 0]) 1 ⟨#[120]⟩ (Req.mk 0 1))]
def awake  : Bool :=
  (bif (jStrong (Sl.mk false awL) (Sl.mk false awR)) then false else (bif (jAll (Sl.mk false awL) (Sl.mk false awR)) then false else (bif (jAll (Sl.mk false (awL.set 1 (Call.mk (awL[1]!.client) (awL[1]!.seq) (awL[1]!.write) (ofL [(awL[1]!.key 0), (awL[1]!.key 1), (awL[1]!.key 2), (awL[1]!.key 3), (awL[1]!.key 4), (awL[1]!.key 5), (awL[1]!.key 6), (awL[1]!.key 7)]) (awL[1]!.value) 2 (awL[1]!.bound) (awL[1]!.began) (awL[1]!.ended) (awL[1]!.ver) (awL[1]!.err) (awL[1]!.floor)))) (Sl.mk false awR)) then (bif (jValues (Sl.mk false (awL.set 1 (Call.mk (awL[1]!.client) (awL[1]!.seq) (awL[1]!.write) (ofL [(awL[1]!.key 0), (awL[1]!.key 1), (awL[1]!.key 2), (awL[1]!.key 3), (awL[1]!.key 4), (awL[1]!.key 5), (awL[1]!.key 6), (awL[1]!.key 7)]) (awL[1]!.value) 2 (awL[1]!.bound) (awL[1]!.began) (awL[1]!.ended) (awL[1]!.ver) (awL[1]!.err) (awL[1]!.floor)))) (Sl.mk false awR)) then (bif ((jRight (Sl.mk false (awR ++ awR))) == 200) then (eqKeys (jKeys (Sl.mk false (awL.set 1 (Call.mk (awL[1]!.client) (awL[1]!.seq) (awL[1]!.write) (ofL [(awL[1]!.key 0), (awL[1]!.key 1), (awL[1]!.key 2), (awL[1]!.key 3), (awL[1]!.key 4), (awL[1]!.key 5), (awL[1]!.key 6), (awL[1]!.key 7)]) (awL[1]!.value) 2 (awL[1]!.bound) (awL[1]!.began) (awL[1]!.ended) (awL[1]!.ver) (awL[1]!.err) (awL[1]!.floor))))) (Sl.mk false [(ofL [(97 : Int), 0, 0, 0, 0, 0, 0, 0])])) else false) else false) else false)))
theorem awake_calls   : PCalls Try.prog 10 [] (.pv (.lit (.bool (awake )))) := by
 generalize hR : awake  = R
 refine PCalls.of_body tabOk Try.func10 rfl rfl rfl rfl rfl mixed fun E hP C hI => ?_
 refine Awp.consP C ?_
 refine rvP C (.pv (.lit (.bool false))) ?_
 refine rvc_nil ?_
 refine Awp.consP C ?_
 refine rvP C (.agg [.pv (.lit (.int .u8 97)), .pv (.lit (.int .u8 0)), .pv (.lit (.int .u8 0)), .pv (.lit (.int .u8 0)), .pv (.lit (.int .u8 0)), .pv (.lit (.int .u8 0)), .pv (.lit (.int .u8 0)), .pv (.lit (.int .u8 0))]) ?_
 refine rvc_un (rexec_prim C (δ := { v := .ptr 1 0, new := [(1, .cells [.pv (.lit (.int .u8 0)), .pv (.lit (.int .u8 0)), .pv (.lit (.int .u8 0)), .pv (.lit (.int .u8 0)), .pv (.lit (.int .u8 0)), .pv (.lit (.int .u8 0)), .pv (.lit (.int .u8 0)), .pv (.lit (.int .u8 0))])] }) rfl rfl rfl rfl trivial rfl ?_)
 refine rvc_un (rexec_prim C (δ := { v := .undef, wr := [(1, some (.cells [.pv (.lit (.int .u8 97)), .pv (.lit (.int .u8 0)), .pv (.lit (.int .u8 0)), .pv (.lit (.int .u8 0)), .pv (.lit (.int .u8 0)), .pv (.lit (.int .u8 0)), .pv (.lit (.int .u8 0)), .pv (.lit (.int .u8 0))]))] }) rfl rfl rfl rfl trivial rfl ?_)
 refine rvc_nil ?_
 refine Awp.consP C ?_
 refine rvP C (.agg [.pv (.lit (.int .u8 97)), .pv (.lit (.int .u8 0)), .pv (.lit (.int .u8 0)), .pv (.lit (.int .u8 0)), .pv (.lit (.int .u8 0)), .pv (.lit (.int .u8 0)), .pv (.lit (.int .u8 0)), .pv (.lit (.int .u8 0))]) ?_
 refine rvP C (.agg [.pv (.lit (.int .i64 0)), .pv (.lit (.int .i64 1))]) ?_
 refine rvP C (.agg [.pv (.lit (.int .i64 1)), .pv (.lit (.int .i64 1)), .pv (.lit (.int .u8 97)), .pv (.lit (.int .u8 0)), .pv (.lit (.int .u8 0)), .pv (.lit (.int .u8 0)), .pv (.lit (.int .u8 0)), .pv (.lit (.int .u8 0)), .pv (.lit (.int .u8 0)), .pv (.lit (.int .u8 0)), .pv (.lit (.int .i64 1)), .pv (.lit (.string ⟨#[120]⟩)), .pv (.lit (.int .i64 0)), .pv (.lit (.int .i64 1))]) ?_
 refine rvc_un (rexec_prim C (δ := { v := .ptr 2 0, new := [(2, .cells [.pv (.lit (.int .i64 0)), .pv (.lit (.int .i64 0)), .pv (.lit (.int .u8 0)), .pv (.lit (.int .u8 0)), .pv (.lit (.int .u8 0)), .pv (.lit (.int .u8 0)), .pv (.lit (.int .u8 0)), .pv (.lit (.int .u8 0)), .pv (.lit (.int .u8 0)), .pv (.lit (.int .u8 0)), .pv (.lit (.int .i64 0)), .pv (.lit (.string ⟨#[]⟩)), .pv (.lit (.int .i64 0)), .pv (.lit (.int .i64 0))])] }) rfl rfl rfl rfl trivial rfl ?_)
 refine rvc_un (rexec_prim C (δ := { v := .undef, wr := [(2, some (.cells [.pv (.lit (.int .i64 1)), .pv (.lit (.int .i64 1)), .pv (.lit (.int .u8 97)), .pv (.lit (.int .u8 0)), .pv (.lit (.int .u8 0)), .pv (.lit (.int .u8 0)), .pv (.lit (.int .u8 0)), .pv (.lit (.int .u8 0)), .pv (.lit (.int .u8 0)), .pv (.lit (.int .u8 0)), .pv (.lit (.int .i64 1)), .pv (.lit (.string ⟨#[120]⟩)), .pv (.lit (.int .i64 0)), .pv (.lit (.int .i64 1))]))] }) rfl rfl rfl rfl trivial rfl ?_)
 refine rvc_nil ?_
 refine Awp.consP C ?_
 refine rvP C (.agg [.pv (.lit (.int .u8 97)), .pv (.lit (.int .u8 0)), .pv (.lit (.int .u8 0)), .pv (.lit (.int .u8 0)), .pv (.lit (.int .u8 0)), .pv (.lit (.int .u8 0)), .pv (.lit (.int .u8 0)), .pv (.lit (.int .u8 0))]) ?_
 refine rvP C (.agg [.pv (.lit (.int .i64 0)), .pv (.lit (.int .i64 1)), .pv (.lit (.bool true)), .pv (.lit (.int .u8 97)), .pv (.lit (.int .u8 0)), .pv (.lit (.int .u8 0)), .pv (.lit (.int .u8 0)), .pv (.lit (.int .u8 0)), .pv (.lit (.int .u8 0)), .pv (.lit (.int .u8 0)), .pv (.lit (.int .u8 0)), .pv (.lit (.string ⟨#[120]⟩)), .pv (.lit (.int .i64 0)), .pv (.lit (.int .i64 0)), .pv (.lit (.int .i64 1)), .pv (.lit (.int .i64 2)), .pv (.lit (.int .i64 1)), .pv (.lit (.int .i64 0)), .pv (.lit (.int .i64 0))]) ?_
 refine rvP C (.agg [.pv (.lit (.int .u8 97)), .pv (.lit (.int .u8 0)), .pv (.lit (.int .u8 0)), .pv (.lit (.int .u8 0)), .pv (.lit (.int .u8 0)), .pv (.lit (.int .u8 0)), .pv (.lit (.int .u8 0)), .pv (.lit (.int .u8 0))]) ?_
 refine rvP C (.agg [.pv (.lit (.int .i64 1)), .pv (.lit (.int .i64 1)), .pv (.lit (.bool false)), .pv (.lit (.int .u8 97)), .pv (.lit (.int .u8 0)), .pv (.lit (.int .u8 0)), .pv (.lit (.int .u8 0)), .pv (.lit (.int .u8 0)), .pv (.lit (.int .u8 0)), .pv (.lit (.int .u8 0)), .pv (.lit (.int .u8 0)), .pv (.lit (.string ⟨#[]⟩)), .pv (.lit (.int .i64 0)), .pv (.lit (.int .i64 0)), .pv (.lit (.int .i64 3)), .pv (.lit (.int .i64 4)), .pv (.lit (.int .i64 0)), .pv (.lit (.int .i64 0)), .pv (.lit (.int .i64 0))]) ?_
 refine rvc_un (rexec_prim C (δ := { v := .sl 13 0 (awL.length) 19 true, new := [(13, .cells (encC eCall awL))] }) rfl rfl rfl rfl trivial rfl ?_)
 refine rvP C (.sl 13 0 (awL.length) 19 true) ?_
 refine rvc_nil ?_
 refine Awp.consP C ?_
 refine rvP C (.agg [.pv (.lit (.int .i64 1)), .pv (.lit (.int .i64 1)), .pv (.lit (.int .u8 97)), .pv (.lit (.int .u8 0)), .pv (.lit (.int .u8 0)), .pv (.lit (.int .u8 0)), .pv (.lit (.int .u8 0)), .pv (.lit (.int .u8 0)), .pv (.lit (.int .u8 0)), .pv (.lit (.int .u8 0)), .pv (.lit (.int .i64 1)), .pv (.lit (.string ⟨#[120]⟩)), .pv (.lit (.int .i64 0)), .pv (.lit (.int .i64 1))]) ?_
 refine rvc_un (rexec_buildSliceT C eRecord awR rfl rfl rfl rfl rfl rfl rfl (by decide) rfl ?_)
 refine rvP C (.tsl awR.length (encL eRecord awR)) ?_
 refine rvc_nil ?_
 refine Awp.seq ?_
 refine Awp.cons C (fun _ => .writer) (by kernel_rfl) ?_
 refine rvP C (.sl 13 0 (awL.length) 19 true) ?_
 refine rvP C (.tsl awR.length (encL eRecord awR)) ?_
 refine rvc_un (rexec_callM hP C (b := 13) rfl rfl rfl (jStrongW_calls (Sl.mk false awL) (Sl.mk false awR) (awL.length) true rfl (List.cons_ne_nil _ _) (of_decide_eq_true (by kernel_rfl)) (of_decide_eq_true (by kernel_rfl))) rfl rfl ?_)
 refine rvP C (.pv (.lit (.bool (jStrong (Sl.mk false awL) (Sl.mk false awR))))) ?_
 refine rvc_case 19 (jStrong (Sl.mk false awL) (Sl.mk false awR)) rfl (fun h1 => ?_) (fun h1 => ?_)
 ·
  replace hR := of_true h1 hR
  refine rvS ?_
  refine rvS ?_
  refine rvS ?_
  refine rvP C (.pv (.lit (.bool true))) ?_
  refine rvc_nil ?_
  refine Awp.condT (b := true) rfl rfl ?_
  refine Awp.consP C ?_
  refine rvP C (.pv (.lit (.bool false))) ?_
  refine rvc_nil ?_
  refine Awp.ret ?_
  subst hR
  exact ⟨.inl rfl, rfl⟩
 ·
  replace hR := of_false h1 hR
  refine rvO C (.sl 13 0 (awL.length) 19 true) ?_
  refine rvO C (.tsl awR.length (encL eRecord awR)) ?_
  refine rvc_open rfl rfl rfl (rexec_callM hP C (b := 13) rfl rfl rfl (jAllW_calls (Sl.mk false awL) (Sl.mk false awR) (awL.length) true rfl (List.cons_ne_nil _ _) (of_decide_eq_true (by kernel_rfl)) (of_decide_eq_true (by kernel_rfl))) rfl rfl ?_)
  refine rvP C (.pv (.lit (.bool (jAll (Sl.mk false awL) (Sl.mk false awR))))) ?_
  refine rvc_nil ?_
  refine Awp.cond (b := (jAll (Sl.mk false awL) (Sl.mk false awR))) rfl (fun h2 => ?_) (fun h2 => ?_)
  ·
   replace hR := of_true h2 hR
   refine Awp.consP C ?_
   refine rvP C (.pv (.lit (.bool false))) ?_
   refine rvc_nil ?_
   refine Awp.ret ?_
   subst hR
   exact ⟨.inl rfl, rfl⟩
  ·
   replace hR := of_false h2 hR
   refine Awp.skip ?_
   refine Awp.consP C ?_
   refine rvP C (.sl 13 0 (awL.length) 19 true) ?_
   have h3 : awL[1]? = some awL[1]! := getE (by decide)
   refine rvc_un (rexec_prim C (δ := { v := .ptr 13 (0 + 1 * 19) }) rfl rfl rfl rfl ⟨by decide, by decide⟩ rfl ?_)
   refine rvP C (.ptr 13 (0 + 1 * 19 + 12)) ?_
   refine rvc_un (rexec_storeE C (e := eCall) 1 12 (awL[1]!) (Call.mk (awL[1]!.client) (awL[1]!.seq) (awL[1]!.write) (ofL [(awL[1]!.key 0), (awL[1]!.key 1), (awL[1]!.key 2), (awL[1]!.key 3), (awL[1]!.key 4), (awL[1]!.key 5), (awL[1]!.key 6), (awL[1]!.key 7)]) (awL[1]!.value) 2 (awL[1]!.bound) (awL[1]!.began) (awL[1]!.ended) (awL[1]!.ver) (awL[1]!.err) (awL[1]!.floor)) rfl rfl rfl rfl h3 (by simp [eCall]) rfl rfl rfl (of_decide_eq_true rfl) rfl ?_)
   refine rvc_nil ?_
   refine Awp.freezeW 13 (encL eCall (awL.set 1 (Call.mk (awL[1]!.client) (awL[1]!.seq) (awL[1]!.write) (ofL [(awL[1]!.key 0), (awL[1]!.key 1), (awL[1]!.key 2), (awL[1]!.key 3), (awL[1]!.key 4), (awL[1]!.key 5), (awL[1]!.key 6), (awL[1]!.key 7)]) (awL[1]!.value) 2 (awL[1]!.bound) (awL[1]!.began) (awL[1]!.ended) (awL[1]!.ver) (awL[1]!.err) (awL[1]!.floor)))) ?_ [(0, .pv (.lit (.bool false))), (1, .ptr 1 0), (2, .ptr 2 0), (3, sS (some false) eCall (awL.set 1 (Call.mk (awL[1]!.client) (awL[1]!.seq) (awL[1]!.write) (ofL [(awL[1]!.key 0), (awL[1]!.key 1), (awL[1]!.key 2), (awL[1]!.key 3), (awL[1]!.key 4), (awL[1]!.key 5), (awL[1]!.key 6), (awL[1]!.key 7)]) (awL[1]!.value) 2 (awL[1]!.bound) (awL[1]!.began) (awL[1]!.ended) (awL[1]!.ver) (awL[1]!.err) (awL[1]!.floor)))), (4, .tsl awR.length (encL eRecord awR))] [(1, .cells [.pv (.lit (.int .u8 97)), .pv (.lit (.int .u8 0)), .pv (.lit (.int .u8 0)), .pv (.lit (.int .u8 0)), .pv (.lit (.int .u8 0)), .pv (.lit (.int .u8 0)), .pv (.lit (.int .u8 0)), .pv (.lit (.int .u8 0))]), (2, .cells [.pv (.lit (.int .i64 1)), .pv (.lit (.int .i64 1)), .pv (.lit (.int .u8 97)), .pv (.lit (.int .u8 0)), .pv (.lit (.int .u8 0)), .pv (.lit (.int .u8 0)), .pv (.lit (.int .u8 0)), .pv (.lit (.int .u8 0)), .pv (.lit (.int .u8 0)), .pv (.lit (.int .u8 0)), .pv (.lit (.int .i64 1)), .pv (.lit (.string ⟨#[120]⟩)), .pv (.lit (.int .i64 0)), .pv (.lit (.int .i64 1))])] ?_ ?_ ?_
   · rfl
   · exact ⟨⟨_, rfl, .inl (.inl rfl)⟩, ⟨_, rfl, .inl (.inl rfl)⟩, ⟨_, rfl, .inl (.inl rfl)⟩, ⟨_, rfl, .inl (.inr ⟨_, _, _, rfl, by simp [sS] <;> omega⟩)⟩, ⟨_, rfl, .inl (.inl rfl)⟩, trivial⟩
   · exact ⟨⟨(by show (1 : Nat) ≠ 13; decide), .inl rfl⟩, ⟨(by show (2 : Nat) ≠ 13; decide), .inl rfl⟩, trivial⟩
   refine Awp.cons C (fun o => match o.dst with | some 37 => .reads [2] | some 46 => .reads [1] | some 38 => .writes [] | some 47 => .writes [] | some 39 => .writes [39] | some 40 => .writes [39] | _ => .pure) (by kernel_rfl) ?_
   refine rvP C (sS (some false) eCall (awL.set 1 (Call.mk (awL[1]!.client) (awL[1]!.seq) (awL[1]!.write) (ofL [(awL[1]!.key 0), (awL[1]!.key 1), (awL[1]!.key 2), (awL[1]!.key 3), (awL[1]!.key 4), (awL[1]!.key 5), (awL[1]!.key 6), (awL[1]!.key 7)]) (awL[1]!.value) 2 (awL[1]!.bound) (awL[1]!.began) (awL[1]!.ended) (awL[1]!.ver) (awL[1]!.err) (awL[1]!.floor)))) ?_
   refine rvP C (.tsl awR.length (encL eRecord awR)) ?_
   refine rvc_un (rexec_call hP C rfl rfl rfl (jAllT_calls (Sl.mk false (awL.set 1 (Call.mk (awL[1]!.client) (awL[1]!.seq) (awL[1]!.write) (ofL [(awL[1]!.key 0), (awL[1]!.key 1), (awL[1]!.key 2), (awL[1]!.key 3), (awL[1]!.key 4), (awL[1]!.key 5), (awL[1]!.key 6), (awL[1]!.key 7)]) (awL[1]!.value) 2 (awL[1]!.bound) (awL[1]!.began) (awL[1]!.ended) (awL[1]!.ver) (awL[1]!.err) (awL[1]!.floor)))) (Sl.mk false awR) (List.cons_ne_nil _ _) (of_decide_eq_true (by kernel_rfl)) (of_decide_eq_true (by kernel_rfl))) ?_)
   refine rvP C (.pv (.lit (.bool (jAll (Sl.mk false (awL.set 1 (Call.mk (awL[1]!.client) (awL[1]!.seq) (awL[1]!.write) (ofL [(awL[1]!.key 0), (awL[1]!.key 1), (awL[1]!.key 2), (awL[1]!.key 3), (awL[1]!.key 4), (awL[1]!.key 5), (awL[1]!.key 6), (awL[1]!.key 7)]) (awL[1]!.value) 2 (awL[1]!.bound) (awL[1]!.began) (awL[1]!.ended) (awL[1]!.ver) (awL[1]!.err) (awL[1]!.floor)))) (Sl.mk false awR))))) ?_
   refine rvc_case 30 (jAll (Sl.mk false (awL.set 1 (Call.mk (awL[1]!.client) (awL[1]!.seq) (awL[1]!.write) (ofL [(awL[1]!.key 0), (awL[1]!.key 1), (awL[1]!.key 2), (awL[1]!.key 3), (awL[1]!.key 4), (awL[1]!.key 5), (awL[1]!.key 6), (awL[1]!.key 7)]) (awL[1]!.value) 2 (awL[1]!.bound) (awL[1]!.began) (awL[1]!.ended) (awL[1]!.ver) (awL[1]!.err) (awL[1]!.floor)))) (Sl.mk false awR)) rfl (fun h4 => ?_) (fun h4 => ?_)
   ·
    replace hR := of_true h4 hR
    refine rvO C (sS (some false) eCall (awL.set 1 (Call.mk (awL[1]!.client) (awL[1]!.seq) (awL[1]!.write) (ofL [(awL[1]!.key 0), (awL[1]!.key 1), (awL[1]!.key 2), (awL[1]!.key 3), (awL[1]!.key 4), (awL[1]!.key 5), (awL[1]!.key 6), (awL[1]!.key 7)]) (awL[1]!.value) 2 (awL[1]!.bound) (awL[1]!.began) (awL[1]!.ended) (awL[1]!.ver) (awL[1]!.err) (awL[1]!.floor)))) ?_
    refine rvO C (.tsl awR.length (encL eRecord awR)) ?_
    refine rvc_open rfl rfl rfl (rexec_call hP C rfl rfl rfl (jValuesT_calls (Sl.mk false (awL.set 1 (Call.mk (awL[1]!.client) (awL[1]!.seq) (awL[1]!.write) (ofL [(awL[1]!.key 0), (awL[1]!.key 1), (awL[1]!.key 2), (awL[1]!.key 3), (awL[1]!.key 4), (awL[1]!.key 5), (awL[1]!.key 6), (awL[1]!.key 7)]) (awL[1]!.value) 2 (awL[1]!.bound) (awL[1]!.began) (awL[1]!.ended) (awL[1]!.ver) (awL[1]!.err) (awL[1]!.floor)))) (Sl.mk false awR) (List.cons_ne_nil _ _) (of_decide_eq_true (by kernel_rfl)) (of_decide_eq_true (by kernel_rfl))) ?_)
    refine rvP C (.pv (.lit (.bool (jValues (Sl.mk false (awL.set 1 (Call.mk (awL[1]!.client) (awL[1]!.seq) (awL[1]!.write) (ofL [(awL[1]!.key 0), (awL[1]!.key 1), (awL[1]!.key 2), (awL[1]!.key 3), (awL[1]!.key 4), (awL[1]!.key 5), (awL[1]!.key 6), (awL[1]!.key 7)]) (awL[1]!.value) 2 (awL[1]!.bound) (awL[1]!.began) (awL[1]!.ended) (awL[1]!.ver) (awL[1]!.err) (awL[1]!.floor)))) (Sl.mk false awR))))) ?_
    refine rvP C (.pv (.lit (.bool (jValues (Sl.mk false (awL.set 1 (Call.mk (awL[1]!.client) (awL[1]!.seq) (awL[1]!.write) (ofL [(awL[1]!.key 0), (awL[1]!.key 1), (awL[1]!.key 2), (awL[1]!.key 3), (awL[1]!.key 4), (awL[1]!.key 5), (awL[1]!.key 6), (awL[1]!.key 7)]) (awL[1]!.value) 2 (awL[1]!.bound) (awL[1]!.began) (awL[1]!.ended) (awL[1]!.ver) (awL[1]!.err) (awL[1]!.floor)))) (Sl.mk false awR))))) ?_
    refine rvc_case 35 (jValues (Sl.mk false (awL.set 1 (Call.mk (awL[1]!.client) (awL[1]!.seq) (awL[1]!.write) (ofL [(awL[1]!.key 0), (awL[1]!.key 1), (awL[1]!.key 2), (awL[1]!.key 3), (awL[1]!.key 4), (awL[1]!.key 5), (awL[1]!.key 6), (awL[1]!.key 7)]) (awL[1]!.value) 2 (awL[1]!.bound) (awL[1]!.began) (awL[1]!.ended) (awL[1]!.ver) (awL[1]!.err) (awL[1]!.floor)))) (Sl.mk false awR)) rfl (fun h5 => ?_) (fun h5 => ?_)
    ·
     replace hR := of_true h5 hR
     refine rvO C (.tsl awR.length (encL eRecord awR)) ?_
     refine rvO C (.agg [.pv (.lit (.int .i64 1)), .pv (.lit (.int .i64 1)), .pv (.lit (.int .u8 97)), .pv (.lit (.int .u8 0)), .pv (.lit (.int .u8 0)), .pv (.lit (.int .u8 0)), .pv (.lit (.int .u8 0)), .pv (.lit (.int .u8 0)), .pv (.lit (.int .u8 0)), .pv (.lit (.int .u8 0)), .pv (.lit (.int .i64 1)), .pv (.lit (.string ⟨#[120]⟩)), .pv (.lit (.int .i64 0)), .pv (.lit (.int .i64 1))]) ?_
     refine rvc_open rfl rfl rfl (rexec_buildSliceF C eRecord awR rfl rfl rfl rfl rfl rfl rfl (by decide) rfl ?_)
     refine rvc_open rfl rfl rfl (rexec_appendT C rfl rfl rfl rfl rfl rfl rfl rfl (fun _ h => by cases h) rfl (en := eRecord) (D0 := awR) (D := awR) rfl rfl (by decide) (by decide) (by decide) (nn := (awR ++ awR).length) (by decide) ?_)
     refine rvc_open rfl rfl rfl (rexec_callM hP C (b := 39) rfl rfl rfl (jRightW_calls (Sl.mk false (awR ++ awR)) ((awR ++ awR).length) false rfl (of_decide_eq_true (by kernel_rfl))) rfl rfl ?_)
     refine rvO C (.pv (.lit (.bool ((jRight (Sl.mk false (awR ++ awR))) == 200)))) ?_
     refine rvP C (.pv (.lit (.bool ((jRight (Sl.mk false (awR ++ awR))) == 200)))) ?_
     refine rvP C (.pv (.lit (.bool ((jRight (Sl.mk false (awR ++ awR))) == 200)))) ?_
     refine rvc_case 43 ((jRight (Sl.mk false (awR ++ awR))) == 200) rfl (fun h6 => ?_) (fun h6 => ?_)
     ·
      replace hR := of_true h6 hR
      refine rvO C (sS (some false) eCall (awL.set 1 (Call.mk (awL[1]!.client) (awL[1]!.seq) (awL[1]!.write) (ofL [(awL[1]!.key 0), (awL[1]!.key 1), (awL[1]!.key 2), (awL[1]!.key 3), (awL[1]!.key 4), (awL[1]!.key 5), (awL[1]!.key 6), (awL[1]!.key 7)]) (awL[1]!.value) 2 (awL[1]!.bound) (awL[1]!.began) (awL[1]!.ended) (awL[1]!.ver) (awL[1]!.err) (awL[1]!.floor)))) ?_
      refine rvc_open rfl rfl rfl (rexec_call hP C rfl rfl rfl (jKeys_calls (Sl.mk false (awL.set 1 (Call.mk (awL[1]!.client) (awL[1]!.seq) (awL[1]!.write) (ofL [(awL[1]!.key 0), (awL[1]!.key 1), (awL[1]!.key 2), (awL[1]!.key 3), (awL[1]!.key 4), (awL[1]!.key 5), (awL[1]!.key 6), (awL[1]!.key 7)]) (awL[1]!.value) 2 (awL[1]!.bound) (awL[1]!.began) (awL[1]!.ended) (awL[1]!.ver) (awL[1]!.err) (awL[1]!.floor)))) (of_decide_eq_true (by kernel_rfl))) ?_)
      refine rvO C (.agg [.pv (.lit (.int .u8 97)), .pv (.lit (.int .u8 0)), .pv (.lit (.int .u8 0)), .pv (.lit (.int .u8 0)), .pv (.lit (.int .u8 0)), .pv (.lit (.int .u8 0)), .pv (.lit (.int .u8 0)), .pv (.lit (.int .u8 0))]) ?_
      refine rvc_open rfl rfl rfl (rexec_buildSliceF C (eA8 .u8) [(ofL [(97 : Int), 0, 0, 0, 0, 0, 0, 0])] rfl rfl rfl rfl rfl rfl rfl (by decide) rfl ?_)
      refine rvc_open rfl rfl rfl (rexec_call hP C rfl rfl rfl (eqKeys_calls (jKeys (Sl.mk false (awL.set 1 (Call.mk (awL[1]!.client) (awL[1]!.seq) (awL[1]!.write) (ofL [(awL[1]!.key 0), (awL[1]!.key 1), (awL[1]!.key 2), (awL[1]!.key 3), (awL[1]!.key 4), (awL[1]!.key 5), (awL[1]!.key 6), (awL[1]!.key 7)]) (awL[1]!.value) 2 (awL[1]!.bound) (awL[1]!.began) (awL[1]!.ended) (awL[1]!.ver) (awL[1]!.err) (awL[1]!.floor))))) (Sl.mk false [(ofL [(97 : Int), 0, 0, 0, 0, 0, 0, 0])]) (of_decide_eq_true (by kernel_rfl))) ?_)
      refine rvP C (.pv (.lit (.bool (eqKeys (jKeys (Sl.mk false (awL.set 1 (Call.mk (awL[1]!.client) (awL[1]!.seq) (awL[1]!.write) (ofL [(awL[1]!.key 0), (awL[1]!.key 1), (awL[1]!.key 2), (awL[1]!.key 3), (awL[1]!.key 4), (awL[1]!.key 5), (awL[1]!.key 6), (awL[1]!.key 7)]) (awL[1]!.value) 2 (awL[1]!.bound) (awL[1]!.began) (awL[1]!.ended) (awL[1]!.ver) (awL[1]!.err) (awL[1]!.floor))))) (Sl.mk false [(ofL [(97 : Int), 0, 0, 0, 0, 0, 0, 0])]))))) ?_
      refine rvP C (.pv (.lit (.bool (eqKeys (jKeys (Sl.mk false (awL.set 1 (Call.mk (awL[1]!.client) (awL[1]!.seq) (awL[1]!.write) (ofL [(awL[1]!.key 0), (awL[1]!.key 1), (awL[1]!.key 2), (awL[1]!.key 3), (awL[1]!.key 4), (awL[1]!.key 5), (awL[1]!.key 6), (awL[1]!.key 7)]) (awL[1]!.value) 2 (awL[1]!.bound) (awL[1]!.began) (awL[1]!.ended) (awL[1]!.ver) (awL[1]!.err) (awL[1]!.floor))))) (Sl.mk false [(ofL [(97 : Int), 0, 0, 0, 0, 0, 0, 0])]))))) ?_
      refine rvc_nil ?_
      refine Awp.ret ?_
      subst hR
      exact ⟨.inl rfl, rfl⟩
     ·
      replace hR := of_false h6 hR
      refine rvS ?_
      refine rvS ?_
      refine rvS ?_
      refine rvS ?_
      refine rvS ?_
      refine rvP C (.pv (.lit (.bool false))) ?_
      refine rvP C (.pv (.lit (.bool false))) ?_
      refine rvc_nil ?_
      refine Awp.ret ?_
      subst hR
      exact ⟨.inl rfl, rfl⟩
    ·
     replace hR := of_false h5 hR
     refine rvS ?_
     refine rvS ?_
     refine rvS ?_
     refine rvS ?_
     refine rvS ?_
     refine rvS ?_
     refine rvP C (.pv (.lit (.bool false))) ?_
     refine rvP C (.pv (.lit (.bool false))) ?_
     refine rvS ?_
     refine rvS ?_
     refine rvS ?_
     refine rvS ?_
     refine rvS ?_
     refine rvP C (.pv (.lit (.bool false))) ?_
     refine rvP C (.pv (.lit (.bool false))) ?_
     refine rvc_nil ?_
     refine Awp.ret ?_
     subst hR
     exact ⟨.inl rfl, rfl⟩
   ·
    replace hR := of_false h4 hR
    refine rvS ?_
    refine rvS ?_
    refine rvS ?_
    refine rvP C (.pv (.lit (.bool false))) ?_
    refine rvP C (.pv (.lit (.bool false))) ?_
    refine rvS ?_
    refine rvS ?_
    refine rvS ?_
    refine rvS ?_
    refine rvS ?_
    refine rvS ?_
    refine rvP C (.pv (.lit (.bool false))) ?_
    refine rvP C (.pv (.lit (.bool false))) ?_
    refine rvS ?_
    refine rvS ?_
    refine rvS ?_
    refine rvS ?_
    refine rvS ?_
    refine rvP C (.pv (.lit (.bool false))) ?_
    refine rvP C (.pv (.lit (.bool false))) ?_
    refine rvc_nil ?_
    refine Awp.ret ?_
    subst hR
    exact ⟨.inl rfl, rfl⟩
def kA : Nat → Int := ofL [(97 : Int), 0, 0, 0, 0, 0, 0, 0]
def cA : Call := Call.mk 0 1 true kA ⟨#[120]⟩ 0 0 1 2 1 0 0
def cB : Call := Call.mk 1 1 false kA ⟨#[]⟩ 0 0 3 4 0 0 0
def cC : Call := Call.mk 1 1 false (ofL [(cB.key 0), (cB.key 1), (cB.key 2), (cB.key 3), (cB.key 4), (cB.key 5), (cB.key 6), (cB.key 7)]) ⟨#[]⟩ 2 0 3 4 0 0 0
def rA : Record := Record.mk 1 1 kA 1 ⟨#[120]⟩ (Req.mk 0 1)
theorem awake_def : awake = (bif (jStrong (Sl.mk false [cA, cB]) (Sl.mk false [rA])) then false else (bif (jAll (Sl.mk false [cA, cB]) (Sl.mk false [rA])) then false else (bif (jAll (Sl.mk false [cA, cC]) (Sl.mk false [rA])) then (bif (jValues (Sl.mk false [cA, cC]) (Sl.mk false [rA])) then (bif ((jRight (Sl.mk false ([rA] ++ [rA]))) == 200) then (eqKeys (jKeys (Sl.mk false [cA, cC])) (Sl.mk false [kA])) else false) else false) else false))) := rfl
theorem ops1 : opsOf (kL kA) (Sl.mk false [rA]) [cA, cB] = [Op.mk true ⟨#[120]⟩ 1 1 2, Op.mk false ⟨#[]⟩ 0 3 4] := by
  have e1 : sel (kL kA) cA = true := by decide
  have e2 : sel (kL kA) cB = true := by decide
  unfold opsOf
  rw [List.filter_cons_of_pos e1, List.filter_cons_of_pos e2]; rfl
theorem ops2 : opsOf (kL kA) (Sl.mk false [rA]) [cA, cC] = [Op.mk true ⟨#[120]⟩ 1 1 2] := by
  have e1 : sel (kL kA) cA = true := by decide
  have e2 : ¬ sel (kL kA) cC = true := by decide
  unfold opsOf
  rw [List.filter_cons_of_pos e1, List.filter_cons_of_neg e2]; rfl
theorem strong1 : jStrong (Sl.mk false [cA, cB]) (Sl.mk false [rA]) = false := by
  rw [← Bool.not_eq_true, jStrong_iff _ (by decide)]
  intro h
  have := h cA List.mem_cons_self
  rw [show kL cA.key = kL kA from rfl] at this
  have hv := this.ris (Op.mk true ⟨#[120]⟩ 1 1 2) (by rw [ops1]; simp) (Op.mk false ⟨#[]⟩ 0 3 4) (by rw [ops1]; simp)
  exact absurd hv (by decide)
theorem vp2 : VP [Op.mk true ⟨#[120]⟩ 1 1 2] where
  w0 x hx _ _ := by rw [List.mem_singleton.1 hx]; decide
  one i j x y hi hj hij _ _ _ := by
    cases i with
    | zero => cases j with
      | zero => omega
      | succ j => simp at hj
    | succ i => simp at hi
  rd x hx hw _ := by rw [List.mem_singleton.1 hx] at hw; cases hw
  ris a ha b hb := by rw [List.mem_singleton.1 ha, List.mem_singleton.1 hb]; decide
theorem strong2 : jStrong (Sl.mk false [cA, cC]) (Sl.mk false [rA]) = true := by
  rw [jStrong_iff _ (by decide)]
  intro x hx
  have : kL x.key = kL kA := by
    simp only [List.mem_cons, List.not_mem_nil, or_false] at hx
    rcases hx with rfl | rfl <;> rfl
  rw [this, ops2]
  exact vp2
theorem right1 : jRight (Sl.mk false [rA]) = 0 := by decide
theorem right2 : (jRight (Sl.mk false ([rA] ++ [rA])) == 200) = true := by decide
theorem values2 : jValues (Sl.mk false [cA, cC]) (Sl.mk false [rA]) = true := by
  rw [jValues_eq]
  show (okV (Sl.mk false [rA]) cA && (okV (Sl.mk false [rA]) cC && true)) = true
  have e1 : okV (Sl.mk false [rA]) cA = true := by
    have hl : lastC cA (Sl.mk false [rA]) = some rA := by rfl
    unfold okV
    rw [hl]
    show (!ans cA || ((rA.ver == cA.ver) && (decide (kL rA.key = kL cA.key) && ((⟨#[120]⟩ : ByteArray).toList == (⟨#[120]⟩ : ByteArray).toList)))) = true
    rw [beq_self_eq_true]; decide
  have e2 : okV (Sl.mk false [rA]) cC = true := by
    show (!ans cC || ((⟨#[]⟩ : ByteArray).toList == (⟨#[]⟩ : ByteArray).toList)) = true
    rw [beq_self_eq_true, Bool.or_true]
  rw [e1, e2]; rfl
theorem bounds2 : jBounds (Sl.mk false [cA, cC]) = true := by decide
theorem sess2 : jSessions (Sl.mk false [cA, cC]) = true := by decide
theorem keys2 : eqKeys (jKeys (Sl.mk false [cA, cC])) (Sl.mk false [kA]) = true := by
  refine eqKeys_of ?_
  obtain ⟨p1, p2⟩ := jKeys_spec (calls := Sl.mk false [cA, cC]) (by decide)
  refine asc_ext _ _ p1 (List.pairwise_cons.2 ⟨fun _ h => (by cases h), .nil⟩) fun y => (p2 y).trans ?_
  show y ∈ [kL kA, kL kA] ↔ y ∈ [kL kA]
  simp
theorem awake_true : awake = true := by
  have a1 : jAll (Sl.mk false [cA, cB]) (Sl.mk false [rA]) = false := by
    unfold jAll; rw [strong1]; cases (jRight (Sl.mk false [rA]) == 0) <;> rfl
  have a2 : jAll (Sl.mk false [cA, cC]) (Sl.mk false [rA]) = true := by
    unfold jAll; rw [strong2, right1, values2, bounds2, sess2]; rfl
  rw [awake_def, strong1, a1, a2, values2, right2, keys2]; rfl
theorem bne_of_beq {a b : Int} (h : (a == b) = true) : (a != b) = false := by rw [bne, h]; rfl
set_option maxRecDepth 100000 in
theorem flat3 {m : Nat} {ps : List PV} (h : FlatA Try.prog (m + 1) 3 ps) : ∃ n, ps = [.lit (.int .i64 n)] ∧ (Lit.int .i64 n).wf = true := by
  unfold FlatA at h
  rw [Try.underlying3] at h
  exact h
set_option maxRecDepth 100000 in
theorem flat4 {m : Nat} {ps : List PV} (h : FlatA Try.prog (m + 1) 4 ps) : ∃ b, ps = [.lit (.bool b)] ∧ True := by
  unfold FlatA at h
  rw [Try.underlying4] at h
  obtain ⟨b, h⟩ := h
  exact ⟨b, h, trivial⟩
set_option maxRecDepth 100000 in
theorem flat5 {m : Nat} {ps : List PV} (h : FlatA Try.prog (m + 1) 5 ps) : ∃ n, ps = [.lit (.int .u8 n)] ∧ (Lit.int .u8 n).wf = true := by
  unfold FlatA at h
  rw [Try.underlying5] at h
  exact h
def WT31 (f : Nat → Int) : Prop := ∀ j, j < 8 → (Lit.int .u8 (f j)).wf = true
set_option maxRecDepth 100000 in
theorem flat31 {m : Nat} {ps : List PV} (h : FlatA Try.prog (m + 2) 31 ps) : ∃ f : Nat → Int, ps = [.lit (.int .u8 (f 0)), .lit (.int .u8 (f 1)), .lit (.int .u8 (f 2)), .lit (.int .u8 (f 3)), .lit (.int .u8 (f 4)), .lit (.int .u8 (f 5)), .lit (.int .u8 (f 6)), .lit (.int .u8 (f 7))] ∧ WT31 f := by
  unfold FlatA at h
  rw [Try.underlying31] at h
  obtain ⟨D, rfl, h1, h2⟩ := h
  obtain ⟨a0, a1, a2, a3, a4, a5, a6, a7, rfl⟩ := len8 h1
  obtain ⟨x0, rfl, w0⟩ := flat5 (m := m) (h2 a0 (by simp))
  obtain ⟨x1, rfl, w1⟩ := flat5 (m := m) (h2 a1 (by simp))
  obtain ⟨x2, rfl, w2⟩ := flat5 (m := m) (h2 a2 (by simp))
  obtain ⟨x3, rfl, w3⟩ := flat5 (m := m) (h2 a3 (by simp))
  obtain ⟨x4, rfl, w4⟩ := flat5 (m := m) (h2 a4 (by simp))
  obtain ⟨x5, rfl, w5⟩ := flat5 (m := m) (h2 a5 (by simp))
  obtain ⟨x6, rfl, w6⟩ := flat5 (m := m) (h2 a6 (by simp))
  obtain ⟨x7, rfl, w7⟩ := flat5 (m := m) (h2 a7 (by simp))
  refine ⟨ofL [x0, x1, x2, x3, x4, x5, x6, x7], rfl, fun j hj => ?_⟩
  rcases (by omega : j = 0 ∨ j = 1 ∨ j = 2 ∨ j = 3 ∨ j = 4 ∨ j = 5 ∨ j = 6 ∨ j = 7) with rfl | rfl | rfl | rfl | rfl | rfl | rfl | rfl
  · exact w0
  · exact w1
  · exact w2
  · exact w3
  · exact w4
  · exact w5
  · exact w6
  · exact w7
set_option maxRecDepth 100000 in
theorem flat9 {m : Nat} {ps : List PV} (h : FlatA Try.prog (m + 1) 9 ps) : ∃ s, ps = [.lit (.string s)] ∧ s.size ≤ maxLen := by
  unfold FlatA at h
  rw [Try.underlying9] at h
  exact h
set_option maxRecDepth 100000 in
theorem flat23 {m : Nat} {ps : List PV} (h : FlatA Try.prog (m + 1) 23 ps) : ∃ n, ps = [.lit (.int .i64 n)] ∧ (Lit.int .i64 n).wf = true := by
  unfold FlatA at h
  rw [Try.underlying23] at h
  exact h
def WT34 (x : Call) : Prop := (Lit.int .i64 x.client).wf = true ∧ (Lit.int .i64 x.seq).wf = true ∧ True ∧ WT31 x.key ∧ x.value.size ≤ maxLen ∧ (Lit.int .i64 x.mode).wf = true ∧ (Lit.int .i64 x.bound).wf = true ∧ (Lit.int .i64 x.began).wf = true ∧ (Lit.int .i64 x.ended).wf = true ∧ (Lit.int .i64 x.ver).wf = true ∧ (Lit.int .i64 x.err).wf = true ∧ (Lit.int .i64 x.floor).wf = true
set_option maxRecDepth 100000 in
theorem flat34 {m : Nat} {ps : List PV} (h : FlatA Try.prog (m + 3) 34 ps) : ∃ x : Call, ps = eCall.enc x ∧ WT34 x := by
  unfold FlatA at h
  rw [Try.underlying34] at h
  obtain ⟨a0, b0, e0, h0, a1, b1, e1, h1, a2, b2, e2, h2, a3, b3, e3, h3, a4, b4, e4, h4, a5, b5, e5, h5, a6, b6, e6, h6, a7, b7, e7, h7, a8, b8, e8, h8, a9, b9, e9, h9, a10, b10, e10, h10, a11, b11, e11, h11, el⟩ := h
  obtain ⟨x0, rfl, w0⟩ := flat3 (m := m + 1) h0
  obtain ⟨x1, rfl, w1⟩ := flat3 (m := m + 1) h1
  obtain ⟨x2, rfl, w2⟩ := flat4 (m := m + 1) h2
  obtain ⟨x3, rfl, w3⟩ := flat31 (m := m + 0) h3
  obtain ⟨x4, rfl, w4⟩ := flat9 (m := m + 1) h4
  obtain ⟨x5, rfl, w5⟩ := flat3 (m := m + 1) h5
  obtain ⟨x6, rfl, w6⟩ := flat3 (m := m + 1) h6
  obtain ⟨x7, rfl, w7⟩ := flat3 (m := m + 1) h7
  obtain ⟨x8, rfl, w8⟩ := flat3 (m := m + 1) h8
  obtain ⟨x9, rfl, w9⟩ := flat3 (m := m + 1) h9
  obtain ⟨x10, rfl, w10⟩ := flat23 (m := m + 1) h10
  obtain ⟨x11, rfl, w11⟩ := flat3 (m := m + 1) h11
  subst el
  subst e11
  subst e10
  subst e9
  subst e8
  subst e7
  subst e6
  subst e5
  subst e4
  subst e3
  subst e2
  subst e1
  subst e0
  exact ⟨⟨x0, x1, x2, x3, x4, x5, x6, x7, x8, x9, x10, x11⟩, rfl, w0, w1, w2, w3, w4, w5, w6, w7, w8, w9, w10, w11⟩
def WT27 (s : Sl Call) : Prop := s.D.length ≤ maxLen ∧ (s.nil = true → s.D = []) ∧ ∀ x ∈ s.D, WT34 x
set_option maxRecDepth 100000 in
theorem flat27 {m : Nat} {ps : List PV} (h : FlatA Try.prog (m + 4) 27 ps) : ∃ s : Sl Call, ps = [.sl (some s.nil) s.D.length (encL eCall s.D)] ∧ WT27 s := by
  unfold FlatA at h
  rw [Try.underlying27] at h
  obtain ⟨b, D, rfl, h1, h2, h3⟩ := h
  obtain ⟨D2, e1, e2, e3⟩ := enc_list (e := eCall) (W := fun x => WT34 x) D fun y hy => flat34 (h3 y hy)
  rw [e2, ← e1]
  exact ⟨⟨b, D2⟩, rfl, (by show D2.length ≤ _; rw [e1]; exact h1), (fun hb => by have := h2 hb; rw [this] at e1; exact List.eq_nil_of_length_eq_zero e1), e3⟩
def WT58 (x : Req) : Prop := (Lit.int .i64 x.client).wf = true ∧ (Lit.int .i64 x.seq).wf = true
set_option maxRecDepth 100000 in
theorem flat58 {m : Nat} {ps : List PV} (h : FlatA Try.prog (m + 2) 58 ps) : ∃ x : Req, ps = eReq.enc x ∧ WT58 x := by
  unfold FlatA at h
  rw [Try.underlying58] at h
  obtain ⟨a0, b0, e0, h0, a1, b1, e1, h1, el⟩ := h
  obtain ⟨x0, rfl, w0⟩ := flat3 (m := m + 0) h0
  obtain ⟨x1, rfl, w1⟩ := flat3 (m := m + 0) h1
  subst el
  subst e1
  subst e0
  exact ⟨⟨x0, x1⟩, rfl, w0, w1⟩
def WT60 (x : Record) : Prop := (Lit.int .i64 x.index).wf = true ∧ (Lit.int .i64 x.epoch).wf = true ∧ WT31 x.key ∧ (Lit.int .i64 x.ver).wf = true ∧ x.value.size ≤ maxLen ∧ WT58 x.req
set_option maxRecDepth 100000 in
theorem flat60 {m : Nat} {ps : List PV} (h : FlatA Try.prog (m + 3) 60 ps) : ∃ x : Record, ps = eRecord.enc x ∧ WT60 x := by
  unfold FlatA at h
  rw [Try.underlying60] at h
  obtain ⟨a0, b0, e0, h0, a1, b1, e1, h1, a2, b2, e2, h2, a3, b3, e3, h3, a4, b4, e4, h4, a5, b5, e5, h5, el⟩ := h
  obtain ⟨x0, rfl, w0⟩ := flat3 (m := m + 1) h0
  obtain ⟨x1, rfl, w1⟩ := flat3 (m := m + 1) h1
  obtain ⟨x2, rfl, w2⟩ := flat31 (m := m + 0) h2
  obtain ⟨x3, rfl, w3⟩ := flat3 (m := m + 1) h3
  obtain ⟨x4, rfl, w4⟩ := flat9 (m := m + 1) h4
  obtain ⟨x5, rfl, w5⟩ := flat58 (m := m + 0) h5
  subst el
  subst e5
  subst e4
  subst e3
  subst e2
  subst e1
  subst e0
  exact ⟨⟨x0, x1, x2, x3, x4, x5⟩, rfl, w0, w1, w2, w3, w4, w5⟩
def WT22 (s : Sl Record) : Prop := s.D.length ≤ maxLen ∧ (s.nil = true → s.D = []) ∧ ∀ x ∈ s.D, WT60 x
set_option maxRecDepth 100000 in
theorem flat22 {m : Nat} {ps : List PV} (h : FlatA Try.prog (m + 4) 22 ps) : ∃ s : Sl Record, ps = [.sl (some s.nil) s.D.length (encL eRecord s.D)] ∧ WT22 s := by
  unfold FlatA at h
  rw [Try.underlying22] at h
  obtain ⟨b, D, rfl, h1, h2, h3⟩ := h
  obtain ⟨D2, e1, e2, e3⟩ := enc_list (e := eRecord) (W := fun x => WT60 x) D fun y hy => flat60 (h3 y hy)
  rw [e2, ← e1]
  exact ⟨⟨b, D2⟩, rfl, (by show D2.length ≤ _; rw [e1]; exact h1), (fun hb => by have := h2 hb; rw [this] at e1; exact List.eq_nil_of_length_eq_zero e1), e3⟩
theorem big_le {n : Nat} (h : n ≤ maxLen) : n ≤ 9223372036854775807 := Nat.le_trans h (by decide)
theorem at_mem {α : Type} [Inhabited α] {D : List α} {n : Nat} (h : n < D.length) : D[n]! ∈ D := by
  rw [getElem!_pos D n h]; exact List.getElem_mem h
theorem swap_mem {α : Type} {P : α → Prop} {D : List α} (h : ∀ x ∈ D, P x) {i j : Nat} {x y : α} (hx : x ∈ D) (hy : y ∈ D) : ∀ z ∈ (D.set i x).set j y, P z := fun z hz => by
  rcases List.mem_or_eq_of_mem_set hz with hz | rfl
  · rcases List.mem_or_eq_of_mem_set hz with hz | rfl
    · exact h z hz
    · exact h _ hx
  · exact h _ hy
end Go.Proofs.Ytoieegmebadfkaa
namespace Go.Proofs.Ytoieegmebadfkaa
open Go.Am
variable {P_ : Int → Prop}
def insSort_l1 (a : Int) (cmp : Int → Int → Int) (kk : Int → (List Int) → List Int) : Nat → Int → (List Int) → List Int
  | 0, _, _ => default
  | nn + 1, j, vc1 => (bif (decide (j > a)) then (bif (decide ((cmp (vc1[j.toNat]!) (vc1[(IntKind.i64.wrap (j - 1)).toNat]!)) < 0)) then insSort_l1 a cmp kk nn (IntKind.i64.wrap (j - 1)) ((vc1.set j.toNat (vc1[(IntKind.i64.wrap (j - 1)).toNat]!)).set ((IntKind.i64.wrap (j - 1)).toNat) (vc1[j.toNat]!)) else kk j vc1) else kk j vc1)
def insSort_l0 (a : Int) (b : Int) (cmp : Int → Int → Int) : Nat → Int → (List Int) → List Int
  | 0, _, _ => default
  | nn + 1, i, vc => (bif (decide (i < b)) then insSort_l1 a cmp (fun _ vc1 => insSort_l0 a b cmp nn (IntKind.i64.wrap (i + 1)) vc1) ((i - a).toNat + 1) i vc else vc)
def insSort (data : List Int) (a : Int) (b : Int) (cmp : Int → Int → Int) : List Int :=
  insSort_l0 a b cmp ((b - (IntKind.i64.wrap (a + 1))).toNat + 1) (IntKind.i64.wrap (a + 1)) data
theorem insSort_calls (data : List Int) (a : Int) (b : Int) (cmp : Int → Int → Int) (g3 : Nat) (caps3 : List AV) (hp3 : ∀ (x0 : Int) (x1 : Int), P_ x0 → P_ x1 → PCalls Try.prog g3 ([.pv (.lit (.int .i64 x0)), .pv (.lit (.int .i64 x1))] ++ caps3) (.pv (.lit (.int .i64 (cmp x0 x1))))) (hw3 : AV.withinL (fun _ => false) caps3 = true) (hab : 0 ≤ a ∧ a ≤ b ∧ b ≤ (data.length : Int)) (hL : data.length ≤ 1000000) (hs : ∀ x ∈ data, P_ x) : MCalls Try.prog 75 [.sl 0 0 data.length 1 false, .pv (.lit (.int .i64 a)), .pv (.lit (.int .i64 b)), .fn g3 [] caps3] (.cells (encC (eI .i64) data)) (.tup []) (.cells (encC (eI .i64) (insSort data a b cmp))) := by
 generalize hR : insSort data a b cmp = R
 refine MCalls.of_body tabOk Try.func75 rfl rfl rfl (by simp [AV.withinL, AV.within, withinL0 hw3]) rfl (encC_within _ _) (encC_within _ _) mixed fun E hP C hI => ?_
 refine Awp.consP C ?_
 refine rvP C (.pv (.lit (.int .i64 a))) ?_
 refine rvP C (.pv (.lit (.int .i64 (IntKind.i64.wrap (a + 1))))) ?_
 refine rvP C (.pv (.lit (.int .i64 (IntKind.i64.wrap (a + 1))))) ?_
 refine rvc_nil ?_
 refine Awp.block ?_
 refine Awp.forM (σ := Int × ((List Int))) (fun v => [(0, .sl 0 0 data.length 1 false), (1, .pv (.lit (.int .i64 a))), (2, .pv (.lit (.int .i64 b))), (3, .fn g3 [] caps3), (8, .pv (.lit (.int .i64 v.1)))]) (fun v => [(0, .cells (encC (eI .i64) v.2))]) [0] (fun n v => n = (b - v.1).toNat ∧ insSort_l0 a b cmp ((b - v.1).toNat + 1) v.1 v.2 = R ∧ (a + 1 ≤ v.1 ∧ v.2.length = data.length ∧ ∀ x ∈ v.2, P_ x)) ((b - (IntKind.i64.wrap (a + 1))).toNat) ((IntKind.i64.wrap (a + 1)), data) ?_ ?_ (fun _ v h1 => ?_)
 · exact ⟨rfl, hR, ⟨(by show a + 1 ≤ IntKind.i64.wrap (a + 1); have := wrapI (a + 1); omega), rfl, hs⟩⟩
 · exact ⟨fun b => b, WeakerR.ofLI (I := [0]) (Ks := [0]) hI ⟨⟨rfl, rfl⟩, ⟨rfl, rfl⟩, ⟨rfl, rfl⟩, ⟨fn_to rfl hw3, fn_win hw3⟩, ⟨rfl, rfl⟩, trivial⟩ (okH_list rfl rfl rfl (okH_nil)) rfl rfl⟩
 obtain ⟨i, vc⟩ := v
 obtain ⟨rfl, hR, ⟨hVa, hVn, hVs⟩⟩ := h1
 replace hVa : a + 1 ≤ i := hVa
 replace hVn : vc.length = data.length := hVn
 replace hVs : ∀ x ∈ vc, P_ x := hVs
 refine Awp.seq ?_
 refine Awp.consP C ?_
 refine rvP C (.pv (.lit (.int .i64 i))) ?_
 refine rvP C (.pv (.lit (.int .i64 b))) ?_
 refine rvP C (.pv (.lit (.bool (decide (i < b))))) ?_
 refine rvc_nil ?_
 refine Awp.cond (b := (decide (i < b))) rfl (fun h3 => ?_) (fun h3 => ?_)
 ·
  replace hR := of_true h3 hR
  refine Awp.skip ?_
  refine Awp.seq ?_
  refine Awp.block ?_
  refine Awp.consP C ?_
  refine rvP C (.pv (.lit (.int .i64 i))) ?_
  refine rvP C (.pv (.lit (.int .i64 i))) ?_
  refine rvc_nil ?_
  refine Awp.block ?_
  refine Awp.forM (σ := Int × ((List Int))) (fun v => [(0, .sl 0 0 data.length 1 false), (1, .pv (.lit (.int .i64 a))), (2, .pv (.lit (.int .i64 b))), (3, .fn g3 [] caps3), (8, .pv (.lit (.int .i64 i))), (9, .pv (.lit (.int .i64 v.1)))]) (fun v => [(0, .cells (encC (eI .i64) v.2))]) [0] (fun n v => n = (v.1 - a).toNat ∧ insSort_l1 a cmp (fun _ vc1 => insSort_l0 a b cmp ((b - i).toNat) (IntKind.i64.wrap (i + 1)) vc1) ((v.1 - a).toNat + 1) v.1 v.2 = R ∧ ((a ≤ v.1 ∧ v.1 < (data.length : Int)) ∧ v.2.length = data.length ∧ ∀ x ∈ v.2, P_ x)) ((i - a).toNat) (i, vc) ?_ ?_ (fun _ v h4 => ?_)
  · exact ⟨rfl, hR, ⟨(by have := of_decide_eq_true ‹decide (i < b) = true›; dsimp only; omega), hVn, hVs⟩⟩
  · exact ⟨fun b => b, WeakerR.ofLI (I := [0]) (Ks := [0]) hI ⟨⟨rfl, rfl⟩, ⟨rfl, rfl⟩, ⟨rfl, rfl⟩, ⟨fn_to rfl hw3, fn_win hw3⟩, ⟨rfl, rfl⟩, ⟨rfl, rfl⟩, trivial⟩ (okH_list rfl rfl rfl (okH_nil)) rfl rfl⟩
  obtain ⟨j, vc1⟩ := v
  obtain ⟨rfl, hR, ⟨hWa, hWn, hWs⟩⟩ := h4
  replace hWa : a ≤ j ∧ j < (data.length : Int) := hWa
  replace hWn : vc1.length = data.length := hWn
  replace hWs : ∀ x ∈ vc1, P_ x := hWs
  refine Awp.seq ?_
  refine Awp.consP C ?_
  refine rvP C (.pv (.lit (.int .i64 j))) ?_
  refine rvP C (.pv (.lit (.int .i64 a))) ?_
  refine rvP C (.pv (.lit (.bool (decide (j > a))))) ?_
  refine rvP C (.pv (.lit (.bool (decide (j > a))))) ?_
  refine rvc_case 21 (decide (j > a)) rfl (fun h6 => ?_) (fun h6 => ?_)
  ·
   replace hR := of_true h6 hR
   refine rvO C (.fn g3 [] caps3) ?_
   refine rvO C (.sl 0 0 data.length 1 false) ?_
   refine rvO C (.pv (.lit (.int .i64 j))) ?_
   have h7 : vc1[j.toNat]? = some vc1[j.toNat]! := getE (by omega)
   refine rvc_open rfl rfl rfl (rexec_prim C (δ := { v := .ptr 0 (0 + j.toNat * 1) }) rfl rfl rfl rfl ⟨(by omega), (by omega)⟩ rfl ?_)
   refine rvc_open rfl rfl rfl (rexec_loadE C (e := (eI .i64)) j.toNat 0 (vc1[j.toNat]!) (.pv (.lit (.int .i64 (vc1[j.toNat]!)))) rfl rfl rfl rfl h7 (by simp [eI]) (by decide) (by decide) rfl ?_)
   refine rvO C (.sl 0 0 data.length 1 false) ?_
   refine rvO C (.pv (.lit (.int .i64 j))) ?_
   refine rvO C (.pv (.lit (.int .i64 (IntKind.i64.wrap (j - 1))))) ?_
   have h8 : vc1[(IntKind.i64.wrap (j - 1)).toNat]? = some vc1[(IntKind.i64.wrap (j - 1)).toNat]! := getE (by have := wrapI (j - 1); have := of_decide_eq_true ‹decide (j > a) = true›; omega)
   refine rvc_open rfl rfl rfl (rexec_prim C (δ := { v := .ptr 0 (0 + (IntKind.i64.wrap (j - 1)).toNat * 1) }) rfl rfl rfl rfl ⟨(by have := wrapI (j - 1); have := of_decide_eq_true ‹decide (j > a) = true›; omega), (by have := wrapI (j - 1); have := of_decide_eq_true ‹decide (j > a) = true›; omega)⟩ rfl ?_)
   refine rvc_open rfl rfl rfl (rexec_loadE C (e := (eI .i64)) ((IntKind.i64.wrap (j - 1)).toNat) 0 (vc1[(IntKind.i64.wrap (j - 1)).toNat]!) (.pv (.lit (.int .i64 (vc1[(IntKind.i64.wrap (j - 1)).toNat]!)))) rfl rfl rfl rfl h8 (by simp [eI]) (by decide) (by decide) rfl ?_)
   refine rvc_open rfl rfl rfl (rexec_callV hP C rfl rfl rfl rfl (hp3 (vc1[j.toNat]!) (vc1[(IntKind.i64.wrap (j - 1)).toNat]!) (hWs _ (at_mem (by omega))) (hWs _ (at_mem (by have := wrapI (j - 1); have := of_decide_eq_true ‹decide (j > a) = true›; omega)))) rfl ?_)
   refine rvO C (.pv (.lit (.bool (decide ((cmp (vc1[j.toNat]!) (vc1[(IntKind.i64.wrap (j - 1)).toNat]!)) < 0))))) ?_
   refine rvP C (.pv (.lit (.bool (decide ((cmp (vc1[j.toNat]!) (vc1[(IntKind.i64.wrap (j - 1)).toNat]!)) < 0))))) ?_
   refine rvc_nil ?_
   refine Awp.cond (b := (decide ((cmp (vc1[j.toNat]!) (vc1[(IntKind.i64.wrap (j - 1)).toNat]!)) < 0))) rfl (fun h9 => ?_) (fun h9 => ?_)
   ·
    replace hR := of_true h9 hR
    refine Awp.skip ?_
    refine Awp.seq ?_
    refine Awp.block ?_
    refine Awp.regionP C ?_
    refine rvP C (.sl 0 0 data.length 1 false) ?_
    refine rvP C (.pv (.lit (.int .i64 j))) ?_
    refine rvP C (.sl 0 0 data.length 1 false) ?_
    refine rvP C (.pv (.lit (.int .i64 j))) ?_
    refine rvP C (.pv (.lit (.int .i64 (IntKind.i64.wrap (j - 1))))) ?_
    refine rvP C (.sl 0 0 data.length 1 false) ?_
    refine rvP C (.pv (.lit (.int .i64 j))) ?_
    refine rvP C (.pv (.lit (.int .i64 (IntKind.i64.wrap (j - 1))))) ?_
    refine rvc_un (rexec_prim C (δ := { v := .ptr 0 (0 + (IntKind.i64.wrap (j - 1)).toNat * 1) }) rfl rfl rfl rfl ⟨(by have := wrapI (j - 1); have := of_decide_eq_true ‹decide (j > a) = true›; omega), (by have := wrapI (j - 1); have := of_decide_eq_true ‹decide (j > a) = true›; omega)⟩ rfl ?_)
    refine rvc_un (rexec_loadE C (e := (eI .i64)) ((IntKind.i64.wrap (j - 1)).toNat) 0 (vc1[(IntKind.i64.wrap (j - 1)).toNat]!) (.pv (.lit (.int .i64 (vc1[(IntKind.i64.wrap (j - 1)).toNat]!)))) rfl rfl rfl rfl h8 (by simp [eI]) (by decide) (by decide) rfl ?_)
    refine rvP C (.sl 0 0 data.length 1 false) ?_
    refine rvP C (.pv (.lit (.int .i64 j))) ?_
    refine rvc_un (rexec_prim C (δ := { v := .ptr 0 (0 + j.toNat * 1) }) rfl rfl rfl rfl ⟨(by omega), (by omega)⟩ rfl ?_)
    refine rvc_un (rexec_loadE C (e := (eI .i64)) j.toNat 0 (vc1[j.toNat]!) (.pv (.lit (.int .i64 (vc1[j.toNat]!)))) rfl rfl rfl rfl h7 (by simp [eI]) (by decide) (by decide) rfl ?_)
    refine rvc_un (rexec_prim C (δ := { v := .ptr 0 (0 + j.toNat * 1) }) rfl rfl rfl rfl ⟨(by omega), (by omega)⟩ rfl ?_)
    refine rvc_un (rexec_storeE C (e := (eI .i64)) j.toNat 0 (vc1[j.toNat]!) (vc1[(IntKind.i64.wrap (j - 1)).toNat]!) rfl rfl rfl rfl h7 (by simp [eI]) rfl rfl rfl (of_decide_eq_true rfl) rfl ?_)
    have h10 : (vc1.set j.toNat (vc1[(IntKind.i64.wrap (j - 1)).toNat]!))[(IntKind.i64.wrap (j - 1)).toNat]? = some (vc1.set j.toNat (vc1[(IntKind.i64.wrap (j - 1)).toNat]!))[(IntKind.i64.wrap (j - 1)).toNat]! := getE (by rw [List.length_set]; have := wrapI (j - 1); have := of_decide_eq_true ‹decide (j > a) = true›; omega)
    refine rvc_un (rexec_prim C (δ := { v := .ptr 0 (0 + (IntKind.i64.wrap (j - 1)).toNat * 1) }) rfl rfl rfl rfl ⟨(by have := wrapI (j - 1); have := of_decide_eq_true ‹decide (j > a) = true›; omega), (by have := wrapI (j - 1); have := of_decide_eq_true ‹decide (j > a) = true›; omega)⟩ rfl ?_)
    refine rvc_un (rexec_storeE C (e := (eI .i64)) ((IntKind.i64.wrap (j - 1)).toNat) 0 ((vc1.set j.toNat (vc1[(IntKind.i64.wrap (j - 1)).toNat]!))[(IntKind.i64.wrap (j - 1)).toNat]!) (vc1[j.toNat]!) rfl rfl rfl rfl h10 (by simp [eI]) rfl rfl rfl (of_decide_eq_true rfl) rfl ?_)
    refine rvc_nil ?_
    refine Awp.regionP C ?_
    refine rvP C (.pv (.lit (.int .i64 j))) ?_
    refine rvP C (.pv (.lit (.int .i64 (IntKind.i64.wrap (j - 1))))) ?_
    refine rvP C (.pv (.lit (.int .i64 (IntKind.i64.wrap (j - 1))))) ?_
    refine rvc_nil ?_
    refine ⟨_, ((IntKind.i64.wrap (j - 1)), ((vc1.set j.toNat (vc1[(IntKind.i64.wrap (j - 1)).toNat]!)).set ((IntKind.i64.wrap (j - 1)).toNat) (vc1[j.toNat]!))), ?_, ⟨rfl, (by rw [show (((IntKind.i64.wrap (j - 1)) - a).toNat) + 1 = ((j - a).toNat) by (have := wrapI (j - 1); have := of_decide_eq_true ‹decide (j > a) = true›; omega)]; exact hR), ⟨(by dsimp only; have := wrapI (j - 1); have := of_decide_eq_true ‹decide (j > a) = true›; omega), (by simpa using hWn), (swap_mem hWs (at_mem (by have := wrapI (j - 1); have := of_decide_eq_true ‹decide (j > a) = true›; omega)) (at_mem (by omega)))⟩⟩, ?_⟩
    · show ((IntKind.i64.wrap (j - 1)) - a).toNat < (j - a).toNat; (have := wrapI (j - 1); have := of_decide_eq_true ‹decide (j > a) = true›; omega)
    · exact ⟨fun b => b, WeakerR.ofLI (I := [0]) (Ks := [0]) hI ⟨⟨rfl, rfl⟩, ⟨rfl, rfl⟩, ⟨rfl, rfl⟩, ⟨fn_to rfl hw3, fn_win hw3⟩, ⟨rfl, rfl⟩, ⟨rfl, rfl⟩, trivial⟩ (okH_list rfl rfl rfl (okH_nil)) rfl rfl⟩
   ·
    replace hR := of_false h9 hR
    refine Awp.exit ?_
    refine Awp.regionP C ?_
    refine rvP C (.pv (.lit (.int .i64 i))) ?_
    refine rvP C (.pv (.lit (.int .i64 (IntKind.i64.wrap (i + 1))))) ?_
    refine rvP C (.pv (.lit (.int .i64 (IntKind.i64.wrap (i + 1))))) ?_
    refine rvc_nil ?_
    refine ⟨_, ((IntKind.i64.wrap (i + 1)), vc1), ?_, ⟨rfl, (by rw [show ((b - (IntKind.i64.wrap (i + 1))).toNat) + 1 = ((b - i).toNat) by (have := wrapI (i + 1); have := of_decide_eq_true ‹decide (i < b) = true›; omega)]; exact hR), ⟨(by dsimp only; have := wrapI (i + 1); have := of_decide_eq_true ‹decide (i < b) = true›; omega), hWn, hWs⟩⟩, ?_⟩
    · show (b - (IntKind.i64.wrap (i + 1))).toNat < (b - i).toNat; (have := wrapI (i + 1); have := of_decide_eq_true ‹decide (i < b) = true›; omega)
    · exact ⟨fun b => b, WeakerR.ofLI (I := [0]) (Ks := [0]) hI ⟨⟨rfl, rfl⟩, ⟨rfl, rfl⟩, ⟨rfl, rfl⟩, ⟨fn_to rfl hw3, fn_win hw3⟩, ⟨rfl, rfl⟩, trivial⟩ (okH_list rfl rfl rfl (okH_nil)) rfl rfl⟩
  ·
   replace hR := of_false h6 hR
   refine rvS ?_
   refine rvS ?_
   refine rvS ?_
   refine rvS ?_
   refine rvS ?_
   refine rvS ?_
   refine rvS ?_
   refine rvS ?_
   refine rvS ?_
   refine rvS ?_
   refine rvS ?_
   refine rvS ?_
   refine rvP C (.pv (.lit (.bool false))) ?_
   refine rvc_nil ?_
   refine Awp.condF (b := false) rfl rfl ?_
   refine Awp.exit ?_
   refine Awp.regionP C ?_
   refine rvP C (.pv (.lit (.int .i64 i))) ?_
   refine rvP C (.pv (.lit (.int .i64 (IntKind.i64.wrap (i + 1))))) ?_
   refine rvP C (.pv (.lit (.int .i64 (IntKind.i64.wrap (i + 1))))) ?_
   refine rvc_nil ?_
   refine ⟨_, ((IntKind.i64.wrap (i + 1)), vc1), ?_, ⟨rfl, (by rw [show ((b - (IntKind.i64.wrap (i + 1))).toNat) + 1 = ((b - i).toNat) by (have := wrapI (i + 1); have := of_decide_eq_true ‹decide (i < b) = true›; omega)]; exact hR), ⟨(by dsimp only; have := wrapI (i + 1); have := of_decide_eq_true ‹decide (i < b) = true›; omega), hWn, hWs⟩⟩, ?_⟩
   · show (b - (IntKind.i64.wrap (i + 1))).toNat < (b - i).toNat; (have := wrapI (i + 1); have := of_decide_eq_true ‹decide (i < b) = true›; omega)
   · exact ⟨fun b => b, WeakerR.ofLI (I := [0]) (Ks := [0]) hI ⟨⟨rfl, rfl⟩, ⟨rfl, rfl⟩, ⟨rfl, rfl⟩, ⟨fn_to rfl hw3, fn_win hw3⟩, ⟨rfl, rfl⟩, trivial⟩ (okH_list rfl rfl rfl (okH_nil)) rfl rfl⟩
 ·
  replace hR := of_false h3 hR
  refine Awp.exit ?_
  subst hR
  exact ⟨.inr rfl, rfl, rfl⟩
def swapRange_l0 (a : Int) (b : Int) (n : Int) : Nat → Int → (List Int) → List Int
  | 0, _, _ => default
  | nn + 1, i, vc => (bif (decide (i < n)) then swapRange_l0 a b n nn (IntKind.i64.wrap (i + 1)) ((vc.set ((IntKind.i64.wrap (a + i)).toNat) (vc[(IntKind.i64.wrap (b + i)).toNat]!)).set ((IntKind.i64.wrap (b + i)).toNat) (vc[(IntKind.i64.wrap (a + i)).toNat]!)) else vc)
def swapRange (data : List Int) (a : Int) (b : Int) (n : Int) (_cmp : Int → Int → Int) : List Int :=
  swapRange_l0 a b n ((n - 0).toNat + 1) 0 data
theorem swapRange_calls (data : List Int) (a : Int) (b : Int) (n : Int) (cmp : Int → Int → Int) (g4 : Nat) (caps4 : List AV) (_hp4 : ∀ (x0 : Int) (x1 : Int), P_ x0 → P_ x1 → PCalls Try.prog g4 ([.pv (.lit (.int .i64 x0)), .pv (.lit (.int .i64 x1))] ++ caps4) (.pv (.lit (.int .i64 (cmp x0 x1))))) (hw4 : AV.withinL (fun _ => false) caps4 = true) (hab : 0 ≤ a ∧ 0 ≤ b ∧ a + n ≤ (data.length : Int) ∧ b + n ≤ (data.length : Int)) (hL : data.length ≤ 1000000) : MCalls Try.prog 84 [.sl 0 0 data.length 1 false, .pv (.lit (.int .i64 a)), .pv (.lit (.int .i64 b)), .pv (.lit (.int .i64 n)), .fn g4 [] caps4] (.cells (encC (eI .i64) data)) (.tup []) (.cells (encC (eI .i64) (swapRange data a b n cmp))) := by
 generalize hR : swapRange data a b n cmp = R
 refine MCalls.of_body tabOk Try.func84 rfl rfl rfl (by simp [AV.withinL, AV.within, withinL0 hw4]) rfl (encC_within _ _) (encC_within _ _) mixed fun E hP C hI => ?_
 refine Awp.consP C ?_
 refine rvP C (.pv (.lit (.int .i64 0))) ?_
 refine rvc_nil ?_
 refine Awp.block ?_
 refine Awp.forM (σ := Int × ((List Int))) (fun v => [(0, .sl 0 0 data.length 1 false), (1, .pv (.lit (.int .i64 a))), (2, .pv (.lit (.int .i64 b))), (3, .pv (.lit (.int .i64 n))), (10, .pv (.lit (.int .i64 v.1)))]) (fun v => [(0, .cells (encC (eI .i64) v.2))]) [0] (fun m__ v => m__ = (n - v.1).toNat ∧ swapRange_l0 a b n ((n - v.1).toNat + 1) v.1 v.2 = R ∧ (0 ≤ v.1 ∧ v.2.length = data.length)) ((n - 0).toNat) (0, data) ?_ ?_ (fun _ v h1 => ?_)
 · exact ⟨rfl, hR, ⟨Int.le_refl _, rfl⟩⟩
 · exact ⟨fun b => b, WeakerR.ofLI (I := [0]) (Ks := [0]) hI ⟨⟨rfl, rfl⟩, ⟨rfl, rfl⟩, ⟨rfl, rfl⟩, ⟨rfl, rfl⟩, ⟨rfl, rfl⟩, trivial⟩ (okH_list rfl rfl rfl (okH_nil)) rfl rfl⟩
 obtain ⟨i, vc⟩ := v
 obtain ⟨rfl, hR, ⟨hVa, hVn⟩⟩ := h1
 replace hVa : 0 ≤ i := hVa
 replace hVn : vc.length = data.length := hVn
 refine Awp.seq ?_
 refine Awp.consP C ?_
 refine rvP C (.pv (.lit (.int .i64 i))) ?_
 refine rvP C (.pv (.lit (.int .i64 n))) ?_
 refine rvP C (.pv (.lit (.bool (decide (i < n))))) ?_
 refine rvc_nil ?_
 refine Awp.cond (b := (decide (i < n))) rfl (fun h3 => ?_) (fun h3 => ?_)
 ·
  replace hR := of_true h3 hR
  refine Awp.skip ?_
  refine Awp.seq ?_
  refine Awp.block ?_
  refine Awp.regionP C ?_
  refine rvP C (.sl 0 0 data.length 1 false) ?_
  refine rvP C (.pv (.lit (.int .i64 a))) ?_
  refine rvP C (.pv (.lit (.int .i64 i))) ?_
  refine rvP C (.pv (.lit (.int .i64 (IntKind.i64.wrap (a + i))))) ?_
  refine rvP C (.sl 0 0 data.length 1 false) ?_
  refine rvP C (.pv (.lit (.int .i64 b))) ?_
  refine rvP C (.pv (.lit (.int .i64 i))) ?_
  refine rvP C (.pv (.lit (.int .i64 (IntKind.i64.wrap (b + i))))) ?_
  refine rvP C (.sl 0 0 data.length 1 false) ?_
  refine rvP C (.pv (.lit (.int .i64 b))) ?_
  refine rvP C (.pv (.lit (.int .i64 i))) ?_
  refine rvP C (.pv (.lit (.int .i64 (IntKind.i64.wrap (b + i))))) ?_
  have h4 : vc[(IntKind.i64.wrap (b + i)).toNat]? = some vc[(IntKind.i64.wrap (b + i)).toNat]! := getE (by have := wrapI (i + 1); have := wrapI (a + i); have := wrapI (b + i); have := of_decide_eq_true ‹decide (i < n) = true›; omega)
  refine rvc_un (rexec_prim C (δ := { v := .ptr 0 (0 + (IntKind.i64.wrap (b + i)).toNat * 1) }) rfl rfl rfl rfl ⟨(by have := wrapI (i + 1); have := wrapI (a + i); have := wrapI (b + i); have := of_decide_eq_true ‹decide (i < n) = true›; omega), (by have := wrapI (i + 1); have := wrapI (a + i); have := wrapI (b + i); have := of_decide_eq_true ‹decide (i < n) = true›; omega)⟩ rfl ?_)
  refine rvc_un (rexec_loadE C (e := (eI .i64)) ((IntKind.i64.wrap (b + i)).toNat) 0 (vc[(IntKind.i64.wrap (b + i)).toNat]!) (.pv (.lit (.int .i64 (vc[(IntKind.i64.wrap (b + i)).toNat]!)))) rfl rfl rfl rfl h4 (by simp [eI]) (by decide) (by decide) rfl ?_)
  refine rvP C (.sl 0 0 data.length 1 false) ?_
  refine rvP C (.pv (.lit (.int .i64 a))) ?_
  refine rvP C (.pv (.lit (.int .i64 i))) ?_
  refine rvP C (.pv (.lit (.int .i64 (IntKind.i64.wrap (a + i))))) ?_
  have h5 : vc[(IntKind.i64.wrap (a + i)).toNat]? = some vc[(IntKind.i64.wrap (a + i)).toNat]! := getE (by have := wrapI (i + 1); have := wrapI (a + i); have := wrapI (b + i); have := of_decide_eq_true ‹decide (i < n) = true›; omega)
  refine rvc_un (rexec_prim C (δ := { v := .ptr 0 (0 + (IntKind.i64.wrap (a + i)).toNat * 1) }) rfl rfl rfl rfl ⟨(by have := wrapI (i + 1); have := wrapI (a + i); have := wrapI (b + i); have := of_decide_eq_true ‹decide (i < n) = true›; omega), (by have := wrapI (i + 1); have := wrapI (a + i); have := wrapI (b + i); have := of_decide_eq_true ‹decide (i < n) = true›; omega)⟩ rfl ?_)
  refine rvc_un (rexec_loadE C (e := (eI .i64)) ((IntKind.i64.wrap (a + i)).toNat) 0 (vc[(IntKind.i64.wrap (a + i)).toNat]!) (.pv (.lit (.int .i64 (vc[(IntKind.i64.wrap (a + i)).toNat]!)))) rfl rfl rfl rfl h5 (by simp [eI]) (by decide) (by decide) rfl ?_)
  refine rvc_un (rexec_prim C (δ := { v := .ptr 0 (0 + (IntKind.i64.wrap (a + i)).toNat * 1) }) rfl rfl rfl rfl ⟨(by have := wrapI (i + 1); have := wrapI (a + i); have := wrapI (b + i); have := of_decide_eq_true ‹decide (i < n) = true›; omega), (by have := wrapI (i + 1); have := wrapI (a + i); have := wrapI (b + i); have := of_decide_eq_true ‹decide (i < n) = true›; omega)⟩ rfl ?_)
  refine rvc_un (rexec_storeE C (e := (eI .i64)) ((IntKind.i64.wrap (a + i)).toNat) 0 (vc[(IntKind.i64.wrap (a + i)).toNat]!) (vc[(IntKind.i64.wrap (b + i)).toNat]!) rfl rfl rfl rfl h5 (by simp [eI]) rfl rfl rfl (of_decide_eq_true rfl) rfl ?_)
  have h6 : (vc.set ((IntKind.i64.wrap (a + i)).toNat) (vc[(IntKind.i64.wrap (b + i)).toNat]!))[(IntKind.i64.wrap (b + i)).toNat]? = some (vc.set ((IntKind.i64.wrap (a + i)).toNat) (vc[(IntKind.i64.wrap (b + i)).toNat]!))[(IntKind.i64.wrap (b + i)).toNat]! := getE (by rw [List.length_set]; have := wrapI (i + 1); have := wrapI (a + i); have := wrapI (b + i); have := of_decide_eq_true ‹decide (i < n) = true›; omega)
  refine rvc_un (rexec_prim C (δ := { v := .ptr 0 (0 + (IntKind.i64.wrap (b + i)).toNat * 1) }) rfl rfl rfl rfl ⟨(by have := wrapI (i + 1); have := wrapI (a + i); have := wrapI (b + i); have := of_decide_eq_true ‹decide (i < n) = true›; omega), (by have := wrapI (i + 1); have := wrapI (a + i); have := wrapI (b + i); have := of_decide_eq_true ‹decide (i < n) = true›; omega)⟩ rfl ?_)
  refine rvc_un (rexec_storeE C (e := (eI .i64)) ((IntKind.i64.wrap (b + i)).toNat) 0 ((vc.set ((IntKind.i64.wrap (a + i)).toNat) (vc[(IntKind.i64.wrap (b + i)).toNat]!))[(IntKind.i64.wrap (b + i)).toNat]!) (vc[(IntKind.i64.wrap (a + i)).toNat]!) rfl rfl rfl rfl h6 (by simp [eI]) rfl rfl rfl (of_decide_eq_true rfl) rfl ?_)
  refine rvc_nil ?_
  refine Awp.regionP C ?_
  refine rvP C (.pv (.lit (.int .i64 i))) ?_
  refine rvP C (.pv (.lit (.int .i64 (IntKind.i64.wrap (i + 1))))) ?_
  refine rvP C (.pv (.lit (.int .i64 (IntKind.i64.wrap (i + 1))))) ?_
  refine rvc_nil ?_
  refine ⟨_, ((IntKind.i64.wrap (i + 1)), ((vc.set ((IntKind.i64.wrap (a + i)).toNat) (vc[(IntKind.i64.wrap (b + i)).toNat]!)).set ((IntKind.i64.wrap (b + i)).toNat) (vc[(IntKind.i64.wrap (a + i)).toNat]!))), ?_, ⟨rfl, (by rw [show ((n - (IntKind.i64.wrap (i + 1))).toNat) + 1 = ((n - i).toNat) by (have := wrapI (i + 1); have := wrapI (a + i); have := wrapI (b + i); have := of_decide_eq_true ‹decide (i < n) = true›; omega)]; exact hR), ⟨(by dsimp only; have := wrapI (i + 1); have := wrapI (a + i); have := wrapI (b + i); have := of_decide_eq_true ‹decide (i < n) = true›; omega), (by simpa using hVn)⟩⟩, ?_⟩
  · show (n - (IntKind.i64.wrap (i + 1))).toNat < (n - i).toNat; (have := wrapI (i + 1); have := wrapI (a + i); have := wrapI (b + i); have := of_decide_eq_true ‹decide (i < n) = true›; omega)
  · exact ⟨fun b => b, WeakerR.ofLI (I := [0]) (Ks := [0]) hI ⟨⟨rfl, rfl⟩, ⟨rfl, rfl⟩, ⟨rfl, rfl⟩, ⟨rfl, rfl⟩, ⟨rfl, rfl⟩, trivial⟩ (okH_list rfl rfl rfl (okH_nil)) rfl rfl⟩
 ·
  replace hR := of_false h3 hR
  refine Awp.exit ?_
  subst hR
  exact ⟨.inr rfl, rfl, rfl⟩
end Go.Proofs.Ytoieegmebadfkaa
namespace Go.Proofs.Ytoieegmebadfkaa
open Go.Am
theorem swap_perm {D : List Int} {i j : Nat} (hi : i < D.length) (hj : j < D.length) : ((D.set i D[j]!).set j D[i]!).Perm D := by
  rw [getElem!_pos D i hi, getElem!_pos D j hj]
  exact List.set_set_perm hi hj
theorem get_set! {D : List Int} {i k : Nat} {x : Int} (hk : k < D.length) : (D.set i x)[k]! = if i = k then x else D[k]! := by
  rw [getElem!_pos _ k (by rw [List.length_set]; exact hk), List.getElem_set, getElem!_pos D k hk]
theorem swap_get {D : List Int} {i j k : Nat} (hk : k < D.length) : ((D.set i D[j]!).set j D[i]!)[k]! = if j = k then D[i]! else if i = k then D[j]! else D[k]! := by
  rw [get_set! (by rw [List.length_set]; exact hk), get_set! hk]
theorem swapRange_l0_perm {a b n : Int} : ∀ (k : Nat) (i : Int) (vc : List Int), (n - i).toNat = k → 0 ≤ i → 0 ≤ a → 0 ≤ b → a + n ≤ (vc.length : Int) → b + n ≤ (vc.length : Int) → vc.length ≤ 1000000 → (swapRange_l0 a b n (k + 1) i vc).Perm vc
  | k, i, vc, hk, hi, ha, hb, h1, h2, hL => by
    unfold swapRange_l0
    by_cases h : i < n
    · rw [decide_eq_true h, cond_true]
      obtain ⟨k, rfl⟩ : ∃ q, k = q + 1 := ⟨k - 1, by omega⟩
      rw [wrapI (i + 1) (by omega), wrapI (a + i) (by omega), wrapI (b + i) (by omega)]
      refine (swapRange_l0_perm k (i + 1) _ (by omega) (by omega) ha hb (by simpa using h1) (by simpa using h2) (by simpa using hL)).trans ?_
      exact swap_perm (by omega) (by omega)
    · rw [decide_eq_false h, cond_false]
theorem swapRange_perm {data : List Int} {a b n : Int} {cmp : Int → Int → Int} (hab : 0 ≤ a ∧ 0 ≤ b ∧ a + n ≤ (data.length : Int) ∧ b + n ≤ (data.length : Int)) (hL : data.length ≤ 1000000) : (swapRange data a b n cmp).Perm data :=
  swapRange_l0_perm _ _ _ rfl (Int.le_refl _) hab.1 hab.2.1 hab.2.2.1 hab.2.2.2 hL
def swapF (a b n : Nat) (f : Nat → Int) (k : Nat) : Int := if a ≤ k ∧ k < a + n then f (k - a + b) else if b ≤ k ∧ k < b + n then f (k - b + a) else f k
theorem swapRange_l0_get {a b n L : Nat} (hab : a + n ≤ b) (hbn : b + n ≤ L) (hL : L ≤ 1000000) : ∀ (j : Nat) (i : Nat) (vc : List Int), n - i = j → i ≤ n → vc.length = L → ∀ k, k < L → (swapRange_l0 a b n (j + 1) i vc)[k]! = swapF (a + i) (b + i) (n - i) (fun q => vc[q]!) k
  | j, i, vc, hj, hi, hv, k, hk => by
    unfold swapRange_l0
    by_cases h : (i : Int) < n
    · rw [decide_eq_true h, cond_true]
      obtain ⟨j, rfl⟩ : ∃ q, j = q + 1 := ⟨j - 1, by omega⟩
      rw [wrapI (i + 1) (by omega), wrapI (a + i) (by omega), wrapI (b + i) (by omega)]
      rw [show (i : Int) + 1 = ((i + 1 : Nat) : Int) from rfl, show (a : Int) + i = ((a + i : Nat) : Int) from rfl, show (b : Int) + i = ((b + i : Nat) : Int) from rfl, Int.toNat_natCast, Int.toNat_natCast]
      rw [swapRange_l0_get hab hbn hL j (i + 1) _ (by omega) (by omega) (by simpa using hv) k hk]
      have hg : ∀ q, q < L → ((vc.set (a + i) vc[b + i]!).set (b + i) vc[a + i]!)[q]! = if b + i = q then vc[a + i]! else if a + i = q then vc[b + i]! else vc[q]! := fun q hq => swap_get (by omega)
      generalize hw : ((vc.set (a + i) vc[b + i]!).set (b + i) vc[a + i]!) = w at hg
      unfold swapF
      dsimp only
      by_cases c1 : a + i ≤ k ∧ k < a + i + (n - i)
      · rw [if_pos c1]
        by_cases c2 : k = a + i
        · subst c2
          rw [if_neg (by omega), if_neg (by omega), hg _ (by omega), if_neg (by omega), if_pos rfl, show a + i - (a + i) + (b + i) = b + i by omega]
        · rw [if_pos (by omega), show k - (a + (i + 1)) + (b + (i + 1)) = k - (a + i) + (b + i) by omega, hg _ (by omega), if_neg (by omega), if_neg (by omega)]
      · rw [if_neg c1]
        by_cases c3 : b + i ≤ k ∧ k < b + i + (n - i)
        · rw [if_pos c3]
          by_cases c2 : k = b + i
          · subst c2
            rw [if_neg (by omega), if_neg (by omega), hg _ (by omega), if_pos rfl, show b + i - (b + i) + (a + i) = a + i by omega]
          · rw [if_neg (by omega), if_pos (by omega), show k - (b + (i + 1)) + (a + (i + 1)) = k - (b + i) + (a + i) by omega, hg _ (by omega), if_neg (by omega), if_neg (by omega)]
        · rw [if_neg c3, if_neg (by omega), if_neg (by omega), hg _ hk, if_neg (by omega), if_neg (by omega)]
    · rw [decide_eq_false h, cond_false]
      have : i = n := by omega
      subst this
      unfold swapF
      rw [if_neg (by omega), if_neg (by omega)]
theorem swapRange_get {data : List Int} {a b n : Nat} {cmp : Int → Int → Int} (hab : a + n ≤ b) (hbn : b + n ≤ data.length) (hL : data.length ≤ 1000000) {k : Nat} (hk : k < data.length) : (swapRange data a b n cmp)[k]! = swapF a b n (fun q => data[q]!) k := by
  have := swapRange_l0_get hab hbn hL n 0 data rfl (Nat.zero_le _) rfl k hk
  unfold swapRange
  rw [show (((n : Int) - 0).toNat) = n by omega]
  exact this
theorem rot_stepA {data vc : List Int} {a m b i j : Int} {cmp : Int → Int → Int} (hab : 0 ≤ a ∧ a < m ∧ m < b ∧ b ≤ (data.length : Int)) (hL : data.length ≤ 1000000) (hVa : 0 < i ∧ i ≤ m - a ∧ 0 < j ∧ j ≤ b - m) (hVp : vc.Perm data) (h4 : decide (i > j) = true) : (0 < IntKind.i64.wrap (i - j) ∧ IntKind.i64.wrap (i - j) ≤ m - a ∧ 0 < j ∧ j ≤ b - m) ∧ (swapRange vc (IntKind.i64.wrap (m - i)) m j cmp).Perm data := by
  have h := of_decide_eq_true h4
  have hn := hVp.length_eq
  rw [wrapI (i - j) (by omega), wrapI (m - i) (by omega)]
  exact ⟨by omega, (swapRange_perm (by omega) (by omega)).trans hVp⟩
theorem rot_stepB {data vc : List Int} {a m b i j : Int} {cmp : Int → Int → Int} (hab : 0 ≤ a ∧ a < m ∧ m < b ∧ b ≤ (data.length : Int)) (hL : data.length ≤ 1000000) (hVa : 0 < i ∧ i ≤ m - a ∧ 0 < j ∧ j ≤ b - m) (hVp : vc.Perm data) (h3 : (i != j) = true) (h4 : decide (i > j) = false) : (0 < i ∧ i ≤ m - a ∧ 0 < IntKind.i64.wrap (j - i) ∧ IntKind.i64.wrap (j - i) ≤ b - m) ∧ (swapRange vc (IntKind.i64.wrap (m - i)) (IntKind.i64.wrap (IntKind.i64.wrap (m + j) - i)) i cmp).Perm data := by
  have h := of_decide_eq_false h4
  have h' := bne_iff_ne.1 h3
  have hn := hVp.length_eq
  rw [wrapI (j - i) (by omega), wrapI (m - i) (by omega), wrapI (m + j) (by omega), wrapI (m + j - i) (by omega)]
  exact ⟨by omega, (swapRange_perm (by omega) (by omega)).trans hVp⟩
end Go.Proofs.Ytoieegmebadfkaa
namespace Go.Proofs.Ytoieegmebadfkaa
open Go.Am
variable {P_ : Int → Prop}
def rotate_l0 (m : Int) (cmp : Int → Int → Int) : Nat → Int → Int → (List Int) → List Int
  | 0, _, _, _ => default
  | nn + 1, i, j, vc => (bif (i != j) then (bif (decide (i > j)) then rotate_l0 m cmp nn (IntKind.i64.wrap (i - j)) j (swapRange vc (IntKind.i64.wrap (m - i)) m j cmp) else rotate_l0 m cmp nn i (IntKind.i64.wrap (j - i)) (swapRange vc (IntKind.i64.wrap (m - i)) (IntKind.i64.wrap ((IntKind.i64.wrap (m + j)) - i)) i cmp)) else (swapRange vc (IntKind.i64.wrap (m - i)) m i cmp))
def rotate (data : List Int) (a : Int) (m : Int) (b : Int) (cmp : Int → Int → Int) : List Int :=
  rotate_l0 m cmp (((IntKind.i64.wrap (m - a)) + (IntKind.i64.wrap (b - m))).toNat + 1) (IntKind.i64.wrap (m - a)) (IntKind.i64.wrap (b - m)) data
theorem rotate_calls (data : List Int) (a : Int) (m : Int) (b : Int) (cmp : Int → Int → Int) (g4 : Nat) (caps4 : List AV) (hp4 : ∀ (x0 : Int) (x1 : Int), P_ x0 → P_ x1 → PCalls Try.prog g4 ([.pv (.lit (.int .i64 x0)), .pv (.lit (.int .i64 x1))] ++ caps4) (.pv (.lit (.int .i64 (cmp x0 x1))))) (hw4 : AV.withinL (fun _ => false) caps4 = true) (hab : 0 ≤ a ∧ a < m ∧ m < b ∧ b ≤ (data.length : Int)) (hL : data.length ≤ 1000000) (_hs : ∀ x ∈ data, P_ x) : MCalls Try.prog 82 [.sl 0 0 data.length 1 false, .pv (.lit (.int .i64 a)), .pv (.lit (.int .i64 m)), .pv (.lit (.int .i64 b)), .fn g4 [] caps4] (.cells (encC (eI .i64) data)) (.tup []) (.cells (encC (eI .i64) (rotate data a m b cmp))) := by
 generalize hR : rotate data a m b cmp = R
 refine MCalls.of_body tabOk Try.func82 rfl rfl rfl (by simp [AV.withinL, AV.within, withinL0 hw4]) rfl (encC_within _ _) (encC_within _ _) mixed fun E hP C hI => ?_
 refine Awp.consP C ?_
 refine rvP C (.pv (.lit (.int .i64 m))) ?_
 refine rvP C (.pv (.lit (.int .i64 a))) ?_
 refine rvP C (.pv (.lit (.int .i64 (IntKind.i64.wrap (m - a))))) ?_
 refine rvP C (.pv (.lit (.int .i64 (IntKind.i64.wrap (m - a))))) ?_
 refine rvc_nil ?_
 refine Awp.consP C ?_
 refine rvP C (.pv (.lit (.int .i64 b))) ?_
 refine rvP C (.pv (.lit (.int .i64 m))) ?_
 refine rvP C (.pv (.lit (.int .i64 (IntKind.i64.wrap (b - m))))) ?_
 refine rvP C (.pv (.lit (.int .i64 (IntKind.i64.wrap (b - m))))) ?_
 refine rvc_nil ?_
 refine Awp.seq ?_
 refine Awp.block ?_
 refine Awp.forM (σ := Int × Int × ((List Int))) (fun v => [(0, .sl 0 0 data.length 1 false), (2, .pv (.lit (.int .i64 m))), (4, .fn g4 [] caps4), (10, .pv (.lit (.int .i64 v.1))), (11, .pv (.lit (.int .i64 v.2.1)))]) (fun v => [(0, .cells (encC (eI .i64) v.2.2))]) [0] (fun n v => (v.1 + v.2.1).toNat ≤ n ∧ rotate_l0 m cmp (n + 1) v.1 v.2.1 v.2.2 = R ∧ ((0 < v.1 ∧ v.1 ≤ m - a ∧ 0 < v.2.1 ∧ v.2.1 ≤ b - m) ∧ v.2.2.Perm data)) (((IntKind.i64.wrap (m - a)) + (IntKind.i64.wrap (b - m))).toNat) ((IntKind.i64.wrap (m - a)), (IntKind.i64.wrap (b - m)), data) ?_ ?_ (fun n_ v h1 => ?_)
 · exact ⟨Nat.le_refl _, hR, ⟨(by dsimp only; have := wrapI (m - a); have := wrapI (b - m); omega), List.Perm.refl _⟩⟩
 · exact ⟨fun b => b, WeakerR.ofLI (I := [0]) (Ks := [0]) hI ⟨⟨rfl, rfl⟩, ⟨rfl, rfl⟩, ⟨fn_to rfl hw4, fn_win hw4⟩, ⟨rfl, rfl⟩, ⟨rfl, rfl⟩, trivial⟩ (okH_list rfl rfl rfl (okH_nil)) rfl rfl⟩
 obtain ⟨i, j, vc⟩ := v
 obtain ⟨hm_, hR, ⟨hVa, hVp⟩⟩ := h1
 replace hm_ : (i + j).toNat ≤ n_ := hm_
 replace hVa : 0 < i ∧ i ≤ m - a ∧ 0 < j ∧ j ≤ b - m := hVa
 replace hVp : vc.Perm data := hVp
 refine Awp.seq ?_
 refine Awp.consP C ?_
 refine rvP C (.pv (.lit (.int .i64 i))) ?_
 refine rvP C (.pv (.lit (.int .i64 j))) ?_
 refine rvP C (.pv (.lit (.bool (i != j)))) ?_
 refine rvc_nil ?_
 refine Awp.cond (b := (i != j)) rfl (fun h3 => ?_) (fun h3 => ?_)
 ·
  replace hR := of_true h3 hR
  refine Awp.skip ?_
  refine Awp.block ?_
  refine Awp.consP C ?_
  refine rvP C (.pv (.lit (.int .i64 i))) ?_
  refine rvP C (.pv (.lit (.int .i64 j))) ?_
  refine rvP C (.pv (.lit (.bool (decide (i > j))))) ?_
  refine rvc_nil ?_
  refine Awp.cond (b := (decide (i > j))) rfl (fun h4 => ?_) (fun h4 => ?_)
  ·
   replace hR := of_true h4 hR
   refine Awp.cons C (fun _ => .writer) (by kernel_rfl) ?_
   refine rvP C (.sl 0 0 data.length 1 false) ?_
   refine rvP C (.pv (.lit (.int .i64 m))) ?_
   refine rvP C (.pv (.lit (.int .i64 i))) ?_
   refine rvP C (.pv (.lit (.int .i64 (IntKind.i64.wrap (m - i))))) ?_
   refine rvP C (.pv (.lit (.int .i64 m))) ?_
   refine rvP C (.pv (.lit (.int .i64 j))) ?_
   refine rvP C (.fn g4 [] caps4) ?_
   refine rvc_un (rexec_callM hP C (b := 0) rfl rfl rfl (swapRange_calls vc (IntKind.i64.wrap (m - i)) m j cmp g4 caps4 hp4 hw4 (by have hn_ := hVp.length_eq; have := bne_iff_ne.1 ‹(i != j) = true›; have := of_decide_eq_true ‹decide (i > j) = true›; rw [wrapI (m - i) (by omega)]; omega) (by have hn_ := hVp.length_eq; omega)) (by have hl_ : vc.length = data.length := hVp.length_eq; simp only [AV.renL, AV.ren, hl_, AV.renL_none _ hw4]) rfl ?_)
   refine rvc_nil ?_
   refine Awp.regionP C ?_
   refine rvP C (.pv (.lit (.int .i64 i))) ?_
   refine rvP C (.pv (.lit (.int .i64 j))) ?_
   refine rvP C (.pv (.lit (.int .i64 (IntKind.i64.wrap (i - j))))) ?_
   refine rvP C (.pv (.lit (.int .i64 (IntKind.i64.wrap (i - j))))) ?_
   refine rvc_nil ?_
   have h5 : ((IntKind.i64.wrap (i - j)) + j).toNat < (i + j).toNat := by (first | (have := wrapI (i - j); have := wrapI (j - i); have := wrapI (m - i); have := wrapI (m + j); have := wrapI (m + j - i); have hn_ := hVp.length_eq; have := bne_iff_ne.1 ‹(i != j) = true›; have := of_decide_eq_true ‹decide (i > j) = true›; omega) | (have := wrapI (i - j); have := wrapI (j - i); have := wrapI (m - i); have := wrapI (m + j); have := wrapI (m + j - i); have hn_ := hVp.length_eq; have := bne_iff_ne.1 ‹(i != j) = true›; have := of_decide_eq_false ‹decide (i > j) = false›; omega))
   obtain ⟨nn, rfl⟩ : ∃ nn, n_ = nn + 1 := ⟨n_ - 1, by omega⟩
   refine ⟨nn, ((IntKind.i64.wrap (i - j)), j, (swapRange vc (IntKind.i64.wrap (m - i)) m j cmp)), by omega, ⟨by show ((IntKind.i64.wrap (i - j)) + j).toNat ≤ nn; omega, hR, (by first | (have h_ := rot_stepA (cmp := cmp) hab hL hVa hVp (by assumption); exact h_) | (have h_ := rot_stepB (cmp := cmp) hab hL hVa hVp (by assumption) (by assumption); exact h_))⟩, ?_⟩
   · exact ⟨fun b => b, WeakerR.ofLI (I := [0]) (Ks := [0]) hI ⟨⟨rfl, rfl⟩, ⟨rfl, rfl⟩, ⟨fn_to rfl hw4, fn_win hw4⟩, ⟨rfl, rfl⟩, ⟨rfl, rfl⟩, trivial⟩ (okH_list rfl rfl rfl (okH_nil)) rfl rfl⟩
  ·
   replace hR := of_false h4 hR
   refine Awp.cons C (fun _ => .writer) (by kernel_rfl) ?_
   refine rvP C (.sl 0 0 data.length 1 false) ?_
   refine rvP C (.pv (.lit (.int .i64 m))) ?_
   refine rvP C (.pv (.lit (.int .i64 i))) ?_
   refine rvP C (.pv (.lit (.int .i64 (IntKind.i64.wrap (m - i))))) ?_
   refine rvP C (.pv (.lit (.int .i64 m))) ?_
   refine rvP C (.pv (.lit (.int .i64 j))) ?_
   refine rvP C (.pv (.lit (.int .i64 (IntKind.i64.wrap (m + j))))) ?_
   refine rvP C (.pv (.lit (.int .i64 i))) ?_
   refine rvP C (.pv (.lit (.int .i64 (IntKind.i64.wrap ((IntKind.i64.wrap (m + j)) - i))))) ?_
   refine rvP C (.pv (.lit (.int .i64 i))) ?_
   refine rvP C (.fn g4 [] caps4) ?_
   refine rvc_un (rexec_callM hP C (b := 0) rfl rfl rfl (swapRange_calls vc (IntKind.i64.wrap (m - i)) (IntKind.i64.wrap ((IntKind.i64.wrap (m + j)) - i)) i cmp g4 caps4 hp4 hw4 (by have hn_ := hVp.length_eq; have := bne_iff_ne.1 ‹(i != j) = true›; have := of_decide_eq_false ‹decide (i > j) = false›; rw [wrapI (m - i) (by omega), wrapI (m + j) (by omega), wrapI (m + j - i) (by omega)]; omega) (by have hn_ := hVp.length_eq; omega)) (by have hl_ : vc.length = data.length := hVp.length_eq; simp only [AV.renL, AV.ren, hl_, AV.renL_none _ hw4]) rfl ?_)
   refine rvc_nil ?_
   refine Awp.regionP C ?_
   refine rvP C (.pv (.lit (.int .i64 j))) ?_
   refine rvP C (.pv (.lit (.int .i64 i))) ?_
   refine rvP C (.pv (.lit (.int .i64 (IntKind.i64.wrap (j - i))))) ?_
   refine rvP C (.pv (.lit (.int .i64 (IntKind.i64.wrap (j - i))))) ?_
   refine rvc_nil ?_
   have h6 : (i + (IntKind.i64.wrap (j - i))).toNat < (i + j).toNat := by (first | (have := wrapI (i - j); have := wrapI (j - i); have := wrapI (m - i); have := wrapI (m + j); have := wrapI (m + j - i); have hn_ := hVp.length_eq; have := bne_iff_ne.1 ‹(i != j) = true›; have := of_decide_eq_true ‹decide (i > j) = true›; omega) | (have := wrapI (i - j); have := wrapI (j - i); have := wrapI (m - i); have := wrapI (m + j); have := wrapI (m + j - i); have hn_ := hVp.length_eq; have := bne_iff_ne.1 ‹(i != j) = true›; have := of_decide_eq_false ‹decide (i > j) = false›; omega))
   obtain ⟨nn, rfl⟩ : ∃ nn, n_ = nn + 1 := ⟨n_ - 1, by omega⟩
   refine ⟨nn, (i, (IntKind.i64.wrap (j - i)), (swapRange vc (IntKind.i64.wrap (m - i)) (IntKind.i64.wrap ((IntKind.i64.wrap (m + j)) - i)) i cmp)), by omega, ⟨by show (i + (IntKind.i64.wrap (j - i))).toNat ≤ nn; omega, hR, (by first | (have h_ := rot_stepA (cmp := cmp) hab hL hVa hVp (by assumption); exact h_) | (have h_ := rot_stepB (cmp := cmp) hab hL hVa hVp (by assumption) (by assumption); exact h_))⟩, ?_⟩
   · exact ⟨fun b => b, WeakerR.ofLI (I := [0]) (Ks := [0]) hI ⟨⟨rfl, rfl⟩, ⟨rfl, rfl⟩, ⟨fn_to rfl hw4, fn_win hw4⟩, ⟨rfl, rfl⟩, ⟨rfl, rfl⟩, trivial⟩ (okH_list rfl rfl rfl (okH_nil)) rfl rfl⟩
 ·
  replace hR := of_false h3 hR
  refine Awp.exit ?_
  refine Awp.region C (fun _ => .writer) (by kernel_rfl) ?_
  refine rvP C (.sl 0 0 data.length 1 false) ?_
  refine rvP C (.pv (.lit (.int .i64 m))) ?_
  refine rvP C (.pv (.lit (.int .i64 i))) ?_
  refine rvP C (.pv (.lit (.int .i64 (IntKind.i64.wrap (m - i))))) ?_
  refine rvP C (.pv (.lit (.int .i64 m))) ?_
  refine rvP C (.pv (.lit (.int .i64 i))) ?_
  refine rvP C (.fn g4 [] caps4) ?_
  refine rvc_un (rexec_callM hP C (b := 0) rfl rfl rfl (swapRange_calls vc (IntKind.i64.wrap (m - i)) m i cmp g4 caps4 hp4 hw4 (by have hn_ := hVp.length_eq; have := eq_of_bne_false ‹(i != j) = false›; rw [wrapI (m - i) (by omega)]; omega) (by have hn_ := hVp.length_eq; omega)) (by have hl_ : vc.length = data.length := hVp.length_eq; simp only [AV.renL, AV.ren, hl_, AV.renL_none _ hw4]) rfl ?_)
  refine rvc_nil ?_
  subst hR
  exact ⟨.inr rfl, rfl, rfl⟩
end Go.Proofs.Ytoieegmebadfkaa
namespace Go.Proofs.Ytoieegmebadfkaa
open Go.Am
theorem half_eq {x : Int} (h : 0 ≤ x ∧ x ≤ 4000000) : 2 * (IntKind.i64.wrap (shrI .u64 (IntKind.u64.wrap (IntKind.i64.wrap x)) 1)) ≤ x ∧ x < 2 * (IntKind.i64.wrap (shrI .u64 (IntKind.u64.wrap (IntKind.i64.wrap x)) 1)) + 2 := by
  rw [wrapI x (by omega)]
  have e : IntKind.u64.wrap x = x := by
    show x % 18446744073709551616 = x
    omega
  rw [e]
  have e2 : shrI .u64 x 1 = x / 2 := rfl
  rw [e2, wrapI (x / 2) (by omega)]
  omega
theorem rotate_l0_perm {data : List Int} {a m b : Int} {cmp : Int → Int → Int} (hab : 0 ≤ a ∧ a < m ∧ m < b ∧ b ≤ (data.length : Int)) (hL : data.length ≤ 1000000) : ∀ (k : Nat) (i j : Int) (vc : List Int), (i + j).toNat ≤ k → (0 < i ∧ i ≤ m - a ∧ 0 < j ∧ j ≤ b - m) → vc.Perm data → (rotate_l0 m cmp (k + 1) i j vc).Perm data
  | k, i, j, vc, hk, hVa, hVp => by
    unfold rotate_l0
    have hn := hVp.length_eq
    by_cases h : i = j
    · rw [bne_self h, cond_false, wrapI (m - i) (by omega)]
      exact (swapRange_perm (by omega) (by omega)).trans hVp
    · have h3 : (i != j) = true := bne_iff_ne.2 h
      rw [h3, cond_true]
      obtain ⟨k, rfl⟩ : ∃ q, k = q + 1 := ⟨k - 1, by omega⟩
      by_cases h4 : i > j
      · rw [decide_eq_true h4, cond_true]
        have hs := rot_stepA (cmp := cmp) hab hL hVa hVp (decide_eq_true h4)
        refine rotate_l0_perm hab hL k _ _ _ ?_ hs.1 hs.2
        rw [wrapI (i - j) (by omega)]; omega
      · rw [decide_eq_false h4, cond_false]
        have hs := rot_stepB (cmp := cmp) hab hL hVa hVp h3 (decide_eq_false h4)
        refine rotate_l0_perm hab hL k _ _ _ ?_ hs.1 hs.2
        rw [wrapI (j - i) (by omega)]; omega
where bne_self {i j : Int} (h : i = j) : (i != j) = false := by subst h; simp
theorem rotate_perm {data : List Int} {a m b : Int} {cmp : Int → Int → Int} (hab : 0 ≤ a ∧ a < m ∧ m < b ∧ b ≤ (data.length : Int)) (hL : data.length ≤ 1000000) : (rotate data a m b cmp).Perm data := by
  unfold rotate
  rw [wrapI (m - a) (by omega), wrapI (b - m) (by omega)]
  exact rotate_l0_perm hab hL _ _ _ _ (Nat.le_refl _) (by omega) (List.Perm.refl _)
theorem swap_permI {vc data : List Int} {i j : Int} (h : vc.Perm data) (hi : 0 ≤ i ∧ i < (data.length : Int)) (hj : 0 ≤ j ∧ j < (data.length : Int)) : ((vc.set i.toNat vc[j.toNat]!).set j.toNat vc[i.toNat]!).Perm data := by
  have := h.length_eq
  exact (swap_perm (by omega) (by omega)).trans h
theorem mem_perm {P : Int → Prop} {vc data : List Int} (h : vc.Perm data) (hs : ∀ x ∈ data, P x) : ∀ x ∈ vc, P x := fun x hx => hs x (h.mem_iff.1 hx)
end Go.Proofs.Ytoieegmebadfkaa
