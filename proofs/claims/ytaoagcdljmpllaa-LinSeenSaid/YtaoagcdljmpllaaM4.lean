import Derived.Test.YtaoagcdljmpllaaM3
import Derived.Test.YtaoagcdljmpllaaM2
/- An order of calls. No conditions. -/
namespace Go.Proofs.Ytaoagcdljmpllaa
open Go.Am
def cloneInts (s : (Sl Int)) : (Sl Int) :=
  (bif s.nil then (Sl.mk true []) else (Sl.mk false s.D))
theorem cloneInts_calls (s : (Sl Int)) (hl1 : s.D.length ≤ 1000000) : PCalls Try.prog 47 [sS (some s.nil) (eI .i64) s.D] (sS (some (cloneInts s).nil) (eI .i64) ((cloneInts s).D)) := by
 generalize hR : cloneInts s = R
 refine PCalls.of_body tabOk Try.func47 rfl rfl rfl rfl rfl mixed fun E hP C hI => ?_
 refine Awp.consP C ?_
 refine rvP C (sS (some true) (eI .i64) []) ?_
 refine rvc_nil ?_
 refine Awp.seq ?_
 refine Awp.consP C ?_
 refine rvP C (sS (some s.nil) (eI .i64) s.D) ?_
 refine rvc_un (rexec_eqNil C (f := s.nil) rfl rfl rfl rfl ?_)
 refine rvc_nil ?_
 refine Awp.cond (b := s.nil) rfl (fun h1 => ?_) (fun h1 => ?_)
 ·
  replace hR := of_true h1 hR
  refine Awp.consP C ?_
  refine rvP C (sS (some true) (eI .i64) []) ?_
  refine rvc_nil ?_
  refine Awp.ret ?_
  subst hR
  exact ⟨.inl rfl, rfl⟩
 ·
  replace hR := of_false h1 hR
  refine Awp.skip ?_
  refine Awp.consP C ?_
  refine rvc_un (rexec_prim C (δ := { v := .sl 5 0 0 1 true, new := [(5, .cells (encC (eI .i64) []))] }) rfl rfl rfl rfl trivial rfl ?_)
  refine rvP C (sS (some s.nil) (eI .i64) s.D) ?_
  refine rvc_un (rexec_append C rfl rfl rfl rfl rfl rfl rfl rfl (fun _ h => by cases h) rfl (en := (eI .i64)) (D0 := []) (D := s.D) rfl rfl rfl rfl (by first | omega | (simp <;> omega)) (by decide) (nn := s.D.length) (by simp) ?_)
  refine rvP C (.sl 7 0 s.D.length 1 false) ?_
  refine rvc_nil ?_
  refine Awp.freezeW 7 (encL (eI .i64) s.D) ?_ [(2, sS (some false) (eI .i64) s.D)] [] ?_ ?_ ?_
  · rfl
  · exact ⟨⟨_, rfl, .inl (.inr ⟨_, _, _, rfl, rfl⟩)⟩, trivial⟩
  · exact trivial
  refine Awp.ret ?_
  subst hR
  exact ⟨.inl rfl, rfl⟩
def order (l : (Sl Op)) : (Sl Int) × Bool × Int :=
  (bif ((rightL l) != 0) then ((Sl.mk true []), false, (rightL l)) else (bif (!((fromN (Search.mk l [] (Sl.mk true [])) (Point.mk 0 ⟨#[]⟩)).2)) then ((Sl.mk true []), false, 0) else ((cloneInts ((fromN (Search.mk l [] (Sl.mk true [])) (Point.mk 0 ⟨#[]⟩)).1.row)), true, 0)))
theorem order_calls (l : (Sl Op)) (hl1 : l.D.length ≤ 9223372036854775807) : PCalls Try.prog 28 [sS (some l.nil) eOp l.D] (.tup [sS (some (order l).1.nil) (eI .i64) ((order l).1.D), .pv (.lit (.bool ((order l).2.1))), .pv (.lit (.int .i64 ((order l).2.2)))]) := by
 generalize hR : order l = R
 refine PCalls.of_body tabOk Try.func28 rfl rfl rfl rfl rfl mixed fun E hP C hI => ?_
 refine Awp.consP C ?_
 refine rvP C (sS (some true) (eI .i64) []) ?_
 refine rvP C (.pv (.lit (.bool false))) ?_
 refine rvP C (.pv (.lit (.int .i64 0))) ?_
 refine rvc_nil ?_
 refine Awp.seq ?_
 refine Awp.consP C ?_
 refine rvP C (sS (some l.nil) eOp l.D) ?_
 refine rvc_un (rexec_call hP C rfl rfl rfl (rightL_calls l hl1) ?_)
 refine rvP C (.pv (.lit (.int .i64 (rightL l)))) ?_
 refine rvc_nil ?_
 refine Awp.consP C ?_
 refine rvP C (.pv (.lit (.int .i64 (rightL l)))) ?_
 refine rvP C (.pv (.lit (.bool ((rightL l) != 0)))) ?_
 refine rvc_nil ?_
 refine Awp.cond (b := ((rightL l) != 0)) rfl (fun h1 => ?_) (fun h1 => ?_)
 ·
  replace hR := of_true h1 hR
  refine Awp.consP C ?_
  refine rvP C (.pv (.lit (.int .i64 (rightL l)))) ?_
  refine rvP C (sS (some true) (eI .i64) []) ?_
  refine rvP C (.pv (.lit (.bool false))) ?_
  refine rvP C (.pv (.lit (.int .i64 (rightL l)))) ?_
  refine rvc_nil ?_
  refine Awp.ret ?_
  subst hR
  exact ⟨.inl rfl, rfl⟩
 ·
  replace hR := of_false h1 hR
  refine Awp.skip ?_
  refine Awp.consP C ?_
  refine rvP C (sS (some l.nil) eOp l.D) ?_
  refine rvc_un (rexec_makeMap C rfl rfl kPoint vBool ?_)
  refine rvP C (.agg [sS (some l.nil) eOp l.D, .mp 13, sS (some true) (eI .i64) []]) ?_
  refine rvc_un (rexec_prim C (δ := { v := .ptr 15 0, new := [(15, .cells [sS (some l.nil) eOp l.D, .mp 13, sS (some true) (eI .i64) []])] }) rfl rfl rfl rfl trivial rfl ?_)
  refine rvP C (.ptr 15 0) ?_
  refine rvc_nil ?_
  refine Awp.seq ?_
  refine Awp.cons C (fun _ => .writer) (by kernel_rfl) ?_
  refine rvP C (.ptr 15 0) ?_
  refine rvP C (.agg [.pv (.lit (.int .u64 0)), .pv (.lit (.string ⟨#[]⟩))]) ?_
  refine rvc_un (rexec_callObj hP C (fun b => bif b == 0 then 15 else bif b == 1 then 13 else b) [] rfl rfl rfl (fromN_calls (Search.mk l [] (Sl.mk true [])) (Point.mk 0 ⟨#[]⟩) (right_len (by assumption)) ⟨by decide, by decide⟩ hl1) rfl rfl ⟨rfl, trivial⟩ (of_decide_eq_true rfl) rfl (of_decide_eq_true rfl) (of_decide_eq_true rfl) allB_nil allB_nil (allB_cons rfl allB_nil) ?_ rfl (allB_cons rfl allB_nil))
  refine rvP C (.pv (.lit (.bool (!((fromN (Search.mk l [] (Sl.mk true [])) (Point.mk 0 ⟨#[]⟩)).2))))) ?_
  refine rvc_nil ?_
  refine Awp.cond (b := (!((fromN (Search.mk l [] (Sl.mk true [])) (Point.mk 0 ⟨#[]⟩)).2))) rfl (fun h2 => ?_) (fun h2 => ?_)
  ·
   replace hR := of_true h2 hR
   refine Awp.consP C ?_
   refine rvP C (sS (some true) (eI .i64) []) ?_
   refine rvP C (.pv (.lit (.bool false))) ?_
   refine rvP C (.pv (.lit (.int .i64 0))) ?_
   refine rvc_nil ?_
   refine Awp.ret ?_
   subst hR
   exact ⟨.inl rfl, rfl⟩
  ·
   replace hR := of_false h2 hR
   refine Awp.skip ?_
   refine Awp.consP C ?_
   refine rvP C (.ptr 15 0) ?_
   refine rvP C (.ptr 15 0) ?_
   refine rvP C (.ptr 15 2) ?_
   refine rvP C (sS (some (fromN (Search.mk l [] (Sl.mk true [])) (Point.mk 0 ⟨#[]⟩)).1.row.nil) (eI .i64) ((fromN (Search.mk l [] (Sl.mk true [])) (Point.mk 0 ⟨#[]⟩)).1.row.D)) ?_
   refine rvc_un (rexec_call hP C rfl rfl rfl (cloneInts_calls ((fromN (Search.mk l [] (Sl.mk true [])) (Point.mk 0 ⟨#[]⟩)).1.row) (Nat.le_trans (fromN_len _ rfl _) (by decide))) ?_)
   refine rvP C (sS (some (cloneInts ((fromN (Search.mk l [] (Sl.mk true [])) (Point.mk 0 ⟨#[]⟩)).1.row)).nil) (eI .i64) ((cloneInts ((fromN (Search.mk l [] (Sl.mk true [])) (Point.mk 0 ⟨#[]⟩)).1.row)).D)) ?_
   refine rvP C (.pv (.lit (.bool true))) ?_
   refine rvP C (.pv (.lit (.int .i64 0))) ?_
   refine rvc_nil ?_
   refine Awp.ret ?_
   subst hR
   exact ⟨.inl rfl, rfl⟩
end Go.Proofs.Ytaoagcdljmpllaa
/- What the reference asks. No conditions. -/
namespace Go.Proofs.Ytaoagcdljmpllaa
open Go.Am
def eqInts_l0 (s2 : (Sl Int)) : List Int → Nat → Bool
  | [], _ => true
  | x :: xs, i => (bif (x != (s2.D[(i : Int).toNat]!)) then false else eqInts_l0 s2 xs (i + 1) )
def eqInts (s1 : (Sl Int)) (s2 : (Sl Int)) : Bool :=
  (bif ((s1.D.length : Int) != (s2.D.length : Int)) then false else eqInts_l0 s2 s1.D 0 )
theorem eqInts_calls (s1 : (Sl Int)) (s2 : (Sl Int)) (hl1 : s1.D.length ≤ 9223372036854775807) : PCalls Try.prog 45 [sS (some s1.nil) (eI .i64) s1.D, sS (some s2.nil) (eI .i64) s2.D] (.pv (.lit (.bool (eqInts s1 s2)))) := by
 generalize hR : eqInts s1 s2 = R
 refine PCalls.of_body tabOk Try.func45 rfl rfl rfl rfl rfl mixed fun E hP C hI => ?_
 refine Awp.consP C ?_
 refine rvP C (.pv (.lit (.bool false))) ?_
 refine rvc_nil ?_
 refine Awp.seq ?_
 refine Awp.consP C ?_
 refine rvP C (sS (some s1.nil) (eI .i64) s1.D) ?_
 refine rvP C (.pv (.lit (.int .i64 (s1.D.length : Int)))) ?_
 refine rvP C (sS (some s2.nil) (eI .i64) s2.D) ?_
 refine rvP C (.pv (.lit (.int .i64 (s2.D.length : Int)))) ?_
 refine rvP C (.pv (.lit (.bool ((s1.D.length : Int) != (s2.D.length : Int))))) ?_
 refine rvc_nil ?_
 refine Awp.cond (b := ((s1.D.length : Int) != (s2.D.length : Int))) rfl (fun h1 => ?_) (fun h1 => ?_)
 ·
  replace hR := of_true h1 hR
  refine Awp.consP C ?_
  refine rvP C (.pv (.lit (.bool false))) ?_
  refine rvc_nil ?_
  refine Awp.ret ?_
  subst hR
  exact ⟨.inl rfl, rfl⟩
 ·
  replace hR := of_false h1 hR
  refine Awp.skip ?_
  refine Awp.seq ?_
  refine Awp.consP C ?_
  refine rvP C (sS (some s1.nil) (eI .i64) s1.D) ?_
  refine rvP C (.pv (.lit (.int .i64 (s1.D.length : Int)))) ?_
  refine rvP C (.pv (.lit (.int .i64 0))) ?_
  refine rvc_nil ?_
  refine Awp.block ?_
  refine Awp.forR (σ := Unit) (s1.D.length) (fun i _v => [(0, sS (some s1.nil) (eI .i64) s1.D), (1, sS (some s2.nil) (eI .i64) s2.D), (12, .pv (.lit (.int .i64 (s1.D.length : Int)))), (13, .pv (.lit (.int .i64 (i : Int))))]) (fun i _v => []) [] (fun i _v => eqInts_l0 s2 (s1.D.drop i) i  = R) () ?_ ?_ (fun i _v h2 hR => ?_)
  · exact hR
  · exact ⟨fun b => b, WeakerR.ofL (Ks := []) hI ⟨⟨rfl, rfl⟩, ⟨rfl, rfl⟩, ⟨rfl, rfl⟩, ⟨rfl, rfl⟩, trivial⟩ (okH_nil) rfl⟩
  refine Awp.consP C ?_
  refine rvP C (.pv (.lit (.bool (decide ((i : Int) < (s1.D.length : Int)))))) ?_
  refine rvc_nil ?_
  refine Awp.seq ?_
  refine Awp.cond (b := (decide ((i : Int) < (s1.D.length : Int)))) rfl (fun h3 => ?_) (fun h3 => ?_)
  ·
   have h4 : i < s1.D.length := by have := of_decide_eq_true h3; omega
   obtain ⟨x, h5⟩ := getX h4
   rw [drop_at h5] at hR
   refine Awp.skip ?_
   refine Awp.seq ?_
   refine Awp.block ?_
   refine Awp.consP C ?_
   refine rvP C (.pv (.lit (.int .i64 (i : Int)))) ?_
   refine rvP C (.pv (.lit (.int .i64 (i : Int)))) ?_
   refine rvc_nil ?_
   refine Awp.consP C ?_
   refine rvP C (sS (some s1.nil) (eI .i64) s1.D) ?_
   refine rvP C (.pv (.lit (.int .i64 (i : Int)))) ?_
   refine rvc_un (rexec_idxS C rfl rfl rfl rfl rfl rfl x (Int.natCast_nonneg _) h5 ?_)
   refine rvP C (.pv (.lit (.int .i64 x))) ?_
   refine rvP C (sS (some s2.nil) (eI .i64) s2.D) ?_
   refine rvP C (.pv (.lit (.int .i64 (i : Int)))) ?_
   have h6 : s2.D[(i : Int).toNat]? = some s2.D[(i : Int).toNat]! := getE (by have := eq_of_bne_false h1; have := of_decide_eq_true h3; omega)
   refine rvc_un (rexec_idxS C rfl rfl rfl rfl rfl rfl (s2.D[(i : Int).toNat]!) (Int.natCast_nonneg _) h6 ?_)
   refine rvP C (.pv (.lit (.int .i64 (s2.D[(i : Int).toNat]!)))) ?_
   refine rvP C (.pv (.lit (.bool (x != (s2.D[(i : Int).toNat]!))))) ?_
   refine rvc_nil ?_
   refine Awp.cond (b := (x != (s2.D[(i : Int).toNat]!))) rfl (fun h7 => ?_) (fun h7 => ?_)
   ·
    replace hR := of_true h7 hR
    refine Awp.consP C ?_
    refine rvP C (.pv (.lit (.bool false))) ?_
    refine rvc_nil ?_
    refine Awp.ret ?_
    subst hR
    exact ⟨.inl rfl, rfl⟩
   ·
    replace hR := of_false h7 hR
    refine Awp.skip ?_
    refine Awp.regionP C ?_
    refine rvP C (.pv (.lit (.int .i64 (IntKind.i64.wrap ((i : Int) + 1))))) ?_
    refine rvP C (.pv (.lit (.int .i64 (IntKind.i64.wrap ((i : Int) + 1))))) ?_
    refine rvc_nil ?_
    refine ⟨h4, (), ?_, ?_⟩
    · exact hR
    · exact ⟨fun b => b, WeakerR.ofL (Ks := []) hI ⟨⟨rfl, rfl⟩, ⟨rfl, rfl⟩, ⟨rfl, rfl⟩, ⟨lit_cast (wrap_i64 (by omega) (by omega)), rfl⟩, trivial⟩ (okH_nil) rfl⟩
  ·
   have h4 : ¬ i < s1.D.length := by have := of_decide_eq_false h3; omega
   rw [drop_end h4] at hR
   refine Awp.exit ?_
   refine Awp.consP C ?_
   refine rvP C (.pv (.lit (.bool true))) ?_
   refine rvc_nil ?_
   refine Awp.ret ?_
   subst hR
   exact ⟨.inl rfl, rfl⟩
end Go.Proofs.Ytaoagcdljmpllaa
/- Fewer are left. No conditions. -/
namespace Go.Proofs.Ytaoagcdljmpllaa
open Go.Am
end Go.Proofs.Ytaoagcdljmpllaa
/- Is there an order, one step. No conditions. -/
namespace Go.Proofs.Ytaoagcdljmpllaa
open Go.Am
end Go.Proofs.Ytaoagcdljmpllaa
/- Is there an order: by rounds. No conditions. -/
namespace Go.Proofs.Ytaoagcdljmpllaa
open Go.Am
end Go.Proofs.Ytaoagcdljmpllaa
/- Does a row fit. No conditions. -/
namespace Go.Proofs.Ytaoagcdljmpllaa
open Go.Am
end Go.Proofs.Ytaoagcdljmpllaa
/- The examples. No conditions. -/
namespace Go.Proofs.Ytaoagcdljmpllaa
open Go.Am
def awakeL  : Bool :=
  (bif (order (Sl.mk false [(Op.mk true ⟨#[97]⟩ 1 1 2), (Op.mk false ⟨#[97]⟩ 1 3 4)])).2.1 then (bif (((order (Sl.mk false [(Op.mk true ⟨#[97]⟩ 1 1 2), (Op.mk false ⟨#[97]⟩ 1 3 4)])).2.2) == 0) then (bif (eqInts ((order (Sl.mk false [(Op.mk true ⟨#[97]⟩ 1 1 2), (Op.mk false ⟨#[97]⟩ 1 3 4)])).1) (Sl.mk false [0, 1])) then (bif (!((order (Sl.mk false [(Op.mk true ⟨#[97]⟩ 1 1 2), (Op.mk false ⟨#[]⟩ 0 3 4)])).2.1)) then (bif (((order (Sl.mk false [(Op.mk true ⟨#[97]⟩ 1 1 2), (Op.mk false ⟨#[]⟩ 0 3 4)])).2.2) == 0) then (bif (!((order (Sl.mk false [(Op.mk true ⟨#[97]⟩ 1 1 0), (Op.mk false ⟨#[97]⟩ 0 3 4), (Op.mk false ⟨#[]⟩ 0 5 6)])).2.1)) then (bif (((order (Sl.mk false [(Op.mk true ⟨#[97]⟩ 1 1 0), (Op.mk false ⟨#[97]⟩ 0 3 4), (Op.mk false ⟨#[]⟩ 0 5 6)])).2.2) == 0) then ((rightL (Sl.mk false [(Op.mk false ⟨#[]⟩ 0 0 0)])) == 70) else false) else false) else false) else false) else false) else false) else false)
theorem awakeL_calls   : PCalls Try.prog 27 [] (.pv (.lit (.bool (awakeL )))) := by
 generalize hR : awakeL  = R
 refine PCalls.of_body tabOk Try.func27 rfl rfl rfl rfl rfl mixed fun E hP C hI => ?_
 refine Awp.consP C ?_
 refine rvP C (.pv (.lit (.bool false))) ?_
 refine rvc_nil ?_
 refine Awp.consP C ?_
 refine rvP C (.agg [.pv (.lit (.bool true)), .pv (.lit (.string ⟨#[97]⟩)), .pv (.lit (.int .i64 1)), .pv (.lit (.int .i64 1)), .pv (.lit (.int .i64 2))]) ?_
 refine rvc_un (rexec_prim C (δ := { v := .ptr 1 0, new := [(1, .cells [.pv (.lit (.bool false)), .pv (.lit (.string ⟨#[]⟩)), .pv (.lit (.int .i64 0)), .pv (.lit (.int .i64 0)), .pv (.lit (.int .i64 0))])] }) rfl rfl rfl rfl trivial rfl ?_)
 refine rvc_un (rexec_prim C (δ := { v := .undef, wr := [(1, some (.cells [.pv (.lit (.bool true)), .pv (.lit (.string ⟨#[97]⟩)), .pv (.lit (.int .i64 1)), .pv (.lit (.int .i64 1)), .pv (.lit (.int .i64 2))]))] }) rfl rfl rfl rfl trivial rfl ?_)
 refine rvc_nil ?_
 refine Awp.consP C ?_
 refine rvP C (.agg [.pv (.lit (.bool true)), .pv (.lit (.string ⟨#[97]⟩)), .pv (.lit (.int .i64 1)), .pv (.lit (.int .i64 1)), .pv (.lit (.int .i64 2))]) ?_
 refine rvP C (.agg [.pv (.lit (.bool false)), .pv (.lit (.string ⟨#[97]⟩)), .pv (.lit (.int .i64 1)), .pv (.lit (.int .i64 3)), .pv (.lit (.int .i64 4))]) ?_
 refine rvc_un (rexec_buildSliceF C eOp [(Op.mk true ⟨#[97]⟩ 1 1 2), (Op.mk false ⟨#[97]⟩ 1 3 4)] rfl rfl rfl rfl rfl rfl rfl (by decide) rfl ?_)
 refine rvc_un (rexec_call hP C rfl rfl rfl (order_calls (Sl.mk false [(Op.mk true ⟨#[97]⟩ 1 1 2), (Op.mk false ⟨#[97]⟩ 1 3 4)]) (of_decide_eq_true (by kernel_rfl))) ?_)
 refine rvP C (.tup [sS (some (order (Sl.mk false [(Op.mk true ⟨#[97]⟩ 1 1 2), (Op.mk false ⟨#[97]⟩ 1 3 4)])).1.nil) (eI .i64) ((order (Sl.mk false [(Op.mk true ⟨#[97]⟩ 1 1 2), (Op.mk false ⟨#[97]⟩ 1 3 4)])).1.D), .pv (.lit (.bool ((order (Sl.mk false [(Op.mk true ⟨#[97]⟩ 1 1 2), (Op.mk false ⟨#[97]⟩ 1 3 4)])).2.1))), .pv (.lit (.int .i64 ((order (Sl.mk false [(Op.mk true ⟨#[97]⟩ 1 1 2), (Op.mk false ⟨#[97]⟩ 1 3 4)])).2.2)))]) ?_
 refine rvP C (sS (some (order (Sl.mk false [(Op.mk true ⟨#[97]⟩ 1 1 2), (Op.mk false ⟨#[97]⟩ 1 3 4)])).1.nil) (eI .i64) ((order (Sl.mk false [(Op.mk true ⟨#[97]⟩ 1 1 2), (Op.mk false ⟨#[97]⟩ 1 3 4)])).1.D)) ?_
 refine rvP C (.pv (.lit (.bool ((order (Sl.mk false [(Op.mk true ⟨#[97]⟩ 1 1 2), (Op.mk false ⟨#[97]⟩ 1 3 4)])).2.1)))) ?_
 refine rvP C (.pv (.lit (.int .i64 ((order (Sl.mk false [(Op.mk true ⟨#[97]⟩ 1 1 2), (Op.mk false ⟨#[97]⟩ 1 3 4)])).2.2)))) ?_
 refine rvP C (sS (some (order (Sl.mk false [(Op.mk true ⟨#[97]⟩ 1 1 2), (Op.mk false ⟨#[97]⟩ 1 3 4)])).1.nil) (eI .i64) ((order (Sl.mk false [(Op.mk true ⟨#[97]⟩ 1 1 2), (Op.mk false ⟨#[97]⟩ 1 3 4)])).1.D)) ?_
 refine rvP C (.pv (.lit (.bool ((order (Sl.mk false [(Op.mk true ⟨#[97]⟩ 1 1 2), (Op.mk false ⟨#[97]⟩ 1 3 4)])).2.1)))) ?_
 refine rvP C (.pv (.lit (.int .i64 ((order (Sl.mk false [(Op.mk true ⟨#[97]⟩ 1 1 2), (Op.mk false ⟨#[97]⟩ 1 3 4)])).2.2)))) ?_
 refine rvc_nil ?_
 refine Awp.consP C ?_
 refine rvP C (.agg [.pv (.lit (.bool true)), .pv (.lit (.string ⟨#[97]⟩)), .pv (.lit (.int .i64 1)), .pv (.lit (.int .i64 1)), .pv (.lit (.int .i64 2))]) ?_
 refine rvP C (.agg [.pv (.lit (.bool false)), .pv (.lit (.string ⟨#[]⟩)), .pv (.lit (.int .i64 0)), .pv (.lit (.int .i64 3)), .pv (.lit (.int .i64 4))]) ?_
 refine rvc_un (rexec_buildSliceF C eOp [(Op.mk true ⟨#[97]⟩ 1 1 2), (Op.mk false ⟨#[]⟩ 0 3 4)] rfl rfl rfl rfl rfl rfl rfl (by decide) rfl ?_)
 refine rvc_un (rexec_call hP C rfl rfl rfl (order_calls (Sl.mk false [(Op.mk true ⟨#[97]⟩ 1 1 2), (Op.mk false ⟨#[]⟩ 0 3 4)]) (of_decide_eq_true (by kernel_rfl))) ?_)
 refine rvP C (.tup [sS (some (order (Sl.mk false [(Op.mk true ⟨#[97]⟩ 1 1 2), (Op.mk false ⟨#[]⟩ 0 3 4)])).1.nil) (eI .i64) ((order (Sl.mk false [(Op.mk true ⟨#[97]⟩ 1 1 2), (Op.mk false ⟨#[]⟩ 0 3 4)])).1.D), .pv (.lit (.bool ((order (Sl.mk false [(Op.mk true ⟨#[97]⟩ 1 1 2), (Op.mk false ⟨#[]⟩ 0 3 4)])).2.1))), .pv (.lit (.int .i64 ((order (Sl.mk false [(Op.mk true ⟨#[97]⟩ 1 1 2), (Op.mk false ⟨#[]⟩ 0 3 4)])).2.2)))]) ?_
 refine rvP C (sS (some (order (Sl.mk false [(Op.mk true ⟨#[97]⟩ 1 1 2), (Op.mk false ⟨#[]⟩ 0 3 4)])).1.nil) (eI .i64) ((order (Sl.mk false [(Op.mk true ⟨#[97]⟩ 1 1 2), (Op.mk false ⟨#[]⟩ 0 3 4)])).1.D)) ?_
 refine rvP C (.pv (.lit (.bool ((order (Sl.mk false [(Op.mk true ⟨#[97]⟩ 1 1 2), (Op.mk false ⟨#[]⟩ 0 3 4)])).2.1)))) ?_
 refine rvP C (.pv (.lit (.int .i64 ((order (Sl.mk false [(Op.mk true ⟨#[97]⟩ 1 1 2), (Op.mk false ⟨#[]⟩ 0 3 4)])).2.2)))) ?_
 refine rvP C (sS (some (order (Sl.mk false [(Op.mk true ⟨#[97]⟩ 1 1 2), (Op.mk false ⟨#[]⟩ 0 3 4)])).1.nil) (eI .i64) ((order (Sl.mk false [(Op.mk true ⟨#[97]⟩ 1 1 2), (Op.mk false ⟨#[]⟩ 0 3 4)])).1.D)) ?_
 refine rvP C (.pv (.lit (.bool ((order (Sl.mk false [(Op.mk true ⟨#[97]⟩ 1 1 2), (Op.mk false ⟨#[]⟩ 0 3 4)])).2.1)))) ?_
 refine rvP C (.pv (.lit (.int .i64 ((order (Sl.mk false [(Op.mk true ⟨#[97]⟩ 1 1 2), (Op.mk false ⟨#[]⟩ 0 3 4)])).2.2)))) ?_
 refine rvc_nil ?_
 refine Awp.consP C ?_
 refine rvP C (.ptr 1 4) ?_
 refine rvc_un (rexec_prim C (δ := { v := .undef, wr := [(1, some (.cells [.pv (.lit (.bool true)), .pv (.lit (.string ⟨#[97]⟩)), .pv (.lit (.int .i64 1)), .pv (.lit (.int .i64 1)), .pv (.lit (.int .i64 0))]))] }) rfl rfl rfl rfl trivial rfl ?_)
 refine rvc_nil ?_
 refine Awp.consP C ?_
 refine rvP C (.agg [.pv (.lit (.bool true)), .pv (.lit (.string ⟨#[97]⟩)), .pv (.lit (.int .i64 1)), .pv (.lit (.int .i64 1)), .pv (.lit (.int .i64 0))]) ?_
 refine rvP C (.agg [.pv (.lit (.bool false)), .pv (.lit (.string ⟨#[97]⟩)), .pv (.lit (.int .i64 0)), .pv (.lit (.int .i64 3)), .pv (.lit (.int .i64 4))]) ?_
 refine rvP C (.agg [.pv (.lit (.bool false)), .pv (.lit (.string ⟨#[]⟩)), .pv (.lit (.int .i64 0)), .pv (.lit (.int .i64 5)), .pv (.lit (.int .i64 6))]) ?_
 refine rvc_un (rexec_buildSliceF C eOp [(Op.mk true ⟨#[97]⟩ 1 1 0), (Op.mk false ⟨#[97]⟩ 0 3 4), (Op.mk false ⟨#[]⟩ 0 5 6)] rfl rfl rfl rfl rfl rfl rfl (by decide) rfl ?_)
 refine rvc_un (rexec_call hP C rfl rfl rfl (order_calls (Sl.mk false [(Op.mk true ⟨#[97]⟩ 1 1 0), (Op.mk false ⟨#[97]⟩ 0 3 4), (Op.mk false ⟨#[]⟩ 0 5 6)]) (of_decide_eq_true (by kernel_rfl))) ?_)
 refine rvP C (.tup [sS (some (order (Sl.mk false [(Op.mk true ⟨#[97]⟩ 1 1 0), (Op.mk false ⟨#[97]⟩ 0 3 4), (Op.mk false ⟨#[]⟩ 0 5 6)])).1.nil) (eI .i64) ((order (Sl.mk false [(Op.mk true ⟨#[97]⟩ 1 1 0), (Op.mk false ⟨#[97]⟩ 0 3 4), (Op.mk false ⟨#[]⟩ 0 5 6)])).1.D), .pv (.lit (.bool ((order (Sl.mk false [(Op.mk true ⟨#[97]⟩ 1 1 0), (Op.mk false ⟨#[97]⟩ 0 3 4), (Op.mk false ⟨#[]⟩ 0 5 6)])).2.1))), .pv (.lit (.int .i64 ((order (Sl.mk false [(Op.mk true ⟨#[97]⟩ 1 1 0), (Op.mk false ⟨#[97]⟩ 0 3 4), (Op.mk false ⟨#[]⟩ 0 5 6)])).2.2)))]) ?_
 refine rvP C (sS (some (order (Sl.mk false [(Op.mk true ⟨#[97]⟩ 1 1 0), (Op.mk false ⟨#[97]⟩ 0 3 4), (Op.mk false ⟨#[]⟩ 0 5 6)])).1.nil) (eI .i64) ((order (Sl.mk false [(Op.mk true ⟨#[97]⟩ 1 1 0), (Op.mk false ⟨#[97]⟩ 0 3 4), (Op.mk false ⟨#[]⟩ 0 5 6)])).1.D)) ?_
 refine rvP C (.pv (.lit (.bool ((order (Sl.mk false [(Op.mk true ⟨#[97]⟩ 1 1 0), (Op.mk false ⟨#[97]⟩ 0 3 4), (Op.mk false ⟨#[]⟩ 0 5 6)])).2.1)))) ?_
 refine rvP C (.pv (.lit (.int .i64 ((order (Sl.mk false [(Op.mk true ⟨#[97]⟩ 1 1 0), (Op.mk false ⟨#[97]⟩ 0 3 4), (Op.mk false ⟨#[]⟩ 0 5 6)])).2.2)))) ?_
 refine rvP C (sS (some (order (Sl.mk false [(Op.mk true ⟨#[97]⟩ 1 1 0), (Op.mk false ⟨#[97]⟩ 0 3 4), (Op.mk false ⟨#[]⟩ 0 5 6)])).1.nil) (eI .i64) ((order (Sl.mk false [(Op.mk true ⟨#[97]⟩ 1 1 0), (Op.mk false ⟨#[97]⟩ 0 3 4), (Op.mk false ⟨#[]⟩ 0 5 6)])).1.D)) ?_
 refine rvP C (.pv (.lit (.bool ((order (Sl.mk false [(Op.mk true ⟨#[97]⟩ 1 1 0), (Op.mk false ⟨#[97]⟩ 0 3 4), (Op.mk false ⟨#[]⟩ 0 5 6)])).2.1)))) ?_
 refine rvP C (.pv (.lit (.int .i64 ((order (Sl.mk false [(Op.mk true ⟨#[97]⟩ 1 1 0), (Op.mk false ⟨#[97]⟩ 0 3 4), (Op.mk false ⟨#[]⟩ 0 5 6)])).2.2)))) ?_
 refine rvc_nil ?_
 refine Awp.consP C ?_
 refine rvP C (.pv (.lit (.bool ((order (Sl.mk false [(Op.mk true ⟨#[97]⟩ 1 1 2), (Op.mk false ⟨#[97]⟩ 1 3 4)])).2.1)))) ?_
 refine rvP C (.pv (.lit (.bool ((order (Sl.mk false [(Op.mk true ⟨#[97]⟩ 1 1 2), (Op.mk false ⟨#[97]⟩ 1 3 4)])).2.1)))) ?_
 refine rvc_case 39 ((order (Sl.mk false [(Op.mk true ⟨#[97]⟩ 1 1 2), (Op.mk false ⟨#[97]⟩ 1 3 4)])).2.1) rfl (fun h1 => ?_) (fun h1 => ?_)
 ·
  replace hR := of_true h1 hR
  refine rvO C (.pv (.lit (.int .i64 ((order (Sl.mk false [(Op.mk true ⟨#[97]⟩ 1 1 2), (Op.mk false ⟨#[97]⟩ 1 3 4)])).2.2)))) ?_
  refine rvO C (.pv (.lit (.bool (((order (Sl.mk false [(Op.mk true ⟨#[97]⟩ 1 1 2), (Op.mk false ⟨#[97]⟩ 1 3 4)])).2.2) == 0)))) ?_
  refine rvP C (.pv (.lit (.bool (((order (Sl.mk false [(Op.mk true ⟨#[97]⟩ 1 1 2), (Op.mk false ⟨#[97]⟩ 1 3 4)])).2.2) == 0)))) ?_
  refine rvP C (.pv (.lit (.bool (((order (Sl.mk false [(Op.mk true ⟨#[97]⟩ 1 1 2), (Op.mk false ⟨#[97]⟩ 1 3 4)])).2.2) == 0)))) ?_
  refine rvc_case 43 (((order (Sl.mk false [(Op.mk true ⟨#[97]⟩ 1 1 2), (Op.mk false ⟨#[97]⟩ 1 3 4)])).2.2) == 0) rfl (fun h2 => ?_) (fun h2 => ?_)
  ·
   replace hR := of_true h2 hR
   refine rvO C (sS (some (order (Sl.mk false [(Op.mk true ⟨#[97]⟩ 1 1 2), (Op.mk false ⟨#[97]⟩ 1 3 4)])).1.nil) (eI .i64) ((order (Sl.mk false [(Op.mk true ⟨#[97]⟩ 1 1 2), (Op.mk false ⟨#[97]⟩ 1 3 4)])).1.D)) ?_
   refine rvc_open rfl rfl rfl (rexec_buildSliceF C (eI .i64) [0, 1] rfl rfl rfl rfl rfl rfl rfl (by decide) rfl ?_)
   refine rvc_open rfl rfl rfl (rexec_call hP C rfl rfl rfl (eqInts_calls ((order (Sl.mk false [(Op.mk true ⟨#[97]⟩ 1 1 2), (Op.mk false ⟨#[97]⟩ 1 3 4)])).1) (Sl.mk false [0, 1]) (of_decide_eq_true (by kernel_rfl))) ?_)
   refine rvP C (.pv (.lit (.bool (eqInts ((order (Sl.mk false [(Op.mk true ⟨#[97]⟩ 1 1 2), (Op.mk false ⟨#[97]⟩ 1 3 4)])).1) (Sl.mk false [0, 1]))))) ?_
   refine rvP C (.pv (.lit (.bool (eqInts ((order (Sl.mk false [(Op.mk true ⟨#[97]⟩ 1 1 2), (Op.mk false ⟨#[97]⟩ 1 3 4)])).1) (Sl.mk false [0, 1]))))) ?_
   refine rvc_case 48 (eqInts ((order (Sl.mk false [(Op.mk true ⟨#[97]⟩ 1 1 2), (Op.mk false ⟨#[97]⟩ 1 3 4)])).1) (Sl.mk false [0, 1])) rfl (fun h3 => ?_) (fun h3 => ?_)
   ·
    replace hR := of_true h3 hR
    refine rvO C (.pv (.lit (.bool ((order (Sl.mk false [(Op.mk true ⟨#[97]⟩ 1 1 2), (Op.mk false ⟨#[]⟩ 0 3 4)])).2.1)))) ?_
    refine rvO C (.pv (.lit (.bool (!((order (Sl.mk false [(Op.mk true ⟨#[97]⟩ 1 1 2), (Op.mk false ⟨#[]⟩ 0 3 4)])).2.1))))) ?_
    refine rvP C (.pv (.lit (.bool (!((order (Sl.mk false [(Op.mk true ⟨#[97]⟩ 1 1 2), (Op.mk false ⟨#[]⟩ 0 3 4)])).2.1))))) ?_
    refine rvP C (.pv (.lit (.bool (!((order (Sl.mk false [(Op.mk true ⟨#[97]⟩ 1 1 2), (Op.mk false ⟨#[]⟩ 0 3 4)])).2.1))))) ?_
    refine rvc_case 52 (!((order (Sl.mk false [(Op.mk true ⟨#[97]⟩ 1 1 2), (Op.mk false ⟨#[]⟩ 0 3 4)])).2.1)) rfl (fun h4 => ?_) (fun h4 => ?_)
    ·
     replace hR := of_true h4 hR
     refine rvO C (.pv (.lit (.int .i64 ((order (Sl.mk false [(Op.mk true ⟨#[97]⟩ 1 1 2), (Op.mk false ⟨#[]⟩ 0 3 4)])).2.2)))) ?_
     refine rvO C (.pv (.lit (.bool (((order (Sl.mk false [(Op.mk true ⟨#[97]⟩ 1 1 2), (Op.mk false ⟨#[]⟩ 0 3 4)])).2.2) == 0)))) ?_
     refine rvP C (.pv (.lit (.bool (((order (Sl.mk false [(Op.mk true ⟨#[97]⟩ 1 1 2), (Op.mk false ⟨#[]⟩ 0 3 4)])).2.2) == 0)))) ?_
     refine rvP C (.pv (.lit (.bool (((order (Sl.mk false [(Op.mk true ⟨#[97]⟩ 1 1 2), (Op.mk false ⟨#[]⟩ 0 3 4)])).2.2) == 0)))) ?_
     refine rvc_case 56 (((order (Sl.mk false [(Op.mk true ⟨#[97]⟩ 1 1 2), (Op.mk false ⟨#[]⟩ 0 3 4)])).2.2) == 0) rfl (fun h5 => ?_) (fun h5 => ?_)
     ·
      replace hR := of_true h5 hR
      refine rvO C (.pv (.lit (.bool ((order (Sl.mk false [(Op.mk true ⟨#[97]⟩ 1 1 0), (Op.mk false ⟨#[97]⟩ 0 3 4), (Op.mk false ⟨#[]⟩ 0 5 6)])).2.1)))) ?_
      refine rvO C (.pv (.lit (.bool (!((order (Sl.mk false [(Op.mk true ⟨#[97]⟩ 1 1 0), (Op.mk false ⟨#[97]⟩ 0 3 4), (Op.mk false ⟨#[]⟩ 0 5 6)])).2.1))))) ?_
      refine rvP C (.pv (.lit (.bool (!((order (Sl.mk false [(Op.mk true ⟨#[97]⟩ 1 1 0), (Op.mk false ⟨#[97]⟩ 0 3 4), (Op.mk false ⟨#[]⟩ 0 5 6)])).2.1))))) ?_
      refine rvP C (.pv (.lit (.bool (!((order (Sl.mk false [(Op.mk true ⟨#[97]⟩ 1 1 0), (Op.mk false ⟨#[97]⟩ 0 3 4), (Op.mk false ⟨#[]⟩ 0 5 6)])).2.1))))) ?_
      refine rvc_case 60 (!((order (Sl.mk false [(Op.mk true ⟨#[97]⟩ 1 1 0), (Op.mk false ⟨#[97]⟩ 0 3 4), (Op.mk false ⟨#[]⟩ 0 5 6)])).2.1)) rfl (fun h6 => ?_) (fun h6 => ?_)
      ·
       replace hR := of_true h6 hR
       refine rvO C (.pv (.lit (.int .i64 ((order (Sl.mk false [(Op.mk true ⟨#[97]⟩ 1 1 0), (Op.mk false ⟨#[97]⟩ 0 3 4), (Op.mk false ⟨#[]⟩ 0 5 6)])).2.2)))) ?_
       refine rvO C (.pv (.lit (.bool (((order (Sl.mk false [(Op.mk true ⟨#[97]⟩ 1 1 0), (Op.mk false ⟨#[97]⟩ 0 3 4), (Op.mk false ⟨#[]⟩ 0 5 6)])).2.2) == 0)))) ?_
       refine rvP C (.pv (.lit (.bool (((order (Sl.mk false [(Op.mk true ⟨#[97]⟩ 1 1 0), (Op.mk false ⟨#[97]⟩ 0 3 4), (Op.mk false ⟨#[]⟩ 0 5 6)])).2.2) == 0)))) ?_
       refine rvP C (.pv (.lit (.bool (((order (Sl.mk false [(Op.mk true ⟨#[97]⟩ 1 1 0), (Op.mk false ⟨#[97]⟩ 0 3 4), (Op.mk false ⟨#[]⟩ 0 5 6)])).2.2) == 0)))) ?_
       refine rvc_case 64 (((order (Sl.mk false [(Op.mk true ⟨#[97]⟩ 1 1 0), (Op.mk false ⟨#[97]⟩ 0 3 4), (Op.mk false ⟨#[]⟩ 0 5 6)])).2.2) == 0) rfl (fun h7 => ?_) (fun h7 => ?_)
       ·
        replace hR := of_true h7 hR
        refine rvO C (.agg [.pv (.lit (.bool false)), .pv (.lit (.string ⟨#[]⟩)), .pv (.lit (.int .i64 0)), .pv (.lit (.int .i64 0)), .pv (.lit (.int .i64 0))]) ?_
        refine rvc_open rfl rfl rfl (rexec_buildSliceF C eOp [(Op.mk false ⟨#[]⟩ 0 0 0)] rfl rfl rfl rfl rfl rfl rfl (by decide) rfl ?_)
        refine rvc_open rfl rfl rfl (rexec_call hP C rfl rfl rfl (rightL_calls (Sl.mk false [(Op.mk false ⟨#[]⟩ 0 0 0)]) (of_decide_eq_true (by kernel_rfl))) ?_)
        refine rvO C (.pv (.lit (.bool ((rightL (Sl.mk false [(Op.mk false ⟨#[]⟩ 0 0 0)])) == 70)))) ?_
        refine rvP C (.pv (.lit (.bool ((rightL (Sl.mk false [(Op.mk false ⟨#[]⟩ 0 0 0)])) == 70)))) ?_
        refine rvP C (.pv (.lit (.bool ((rightL (Sl.mk false [(Op.mk false ⟨#[]⟩ 0 0 0)])) == 70)))) ?_
        refine rvc_nil ?_
        refine Awp.ret ?_
        subst hR
        exact ⟨.inl rfl, rfl⟩
       ·
        replace hR := of_false h7 hR
        refine rvS ?_
        refine rvS ?_
        refine rvS ?_
        refine rvS ?_
        refine rvP C (.pv (.lit (.bool false))) ?_
        refine rvP C (.pv (.lit (.bool false))) ?_
        refine rvc_nil ?_
        refine Awp.ret ?_
        subst hR
        exact ⟨.inl rfl, rfl⟩
      ·
       replace hR := of_false h6 hR
       refine rvS ?_
       refine rvS ?_
       refine rvP C (.pv (.lit (.bool false))) ?_
       refine rvP C (.pv (.lit (.bool false))) ?_
       refine rvS ?_
       refine rvS ?_
       refine rvS ?_
       refine rvS ?_
       refine rvP C (.pv (.lit (.bool false))) ?_
       refine rvP C (.pv (.lit (.bool false))) ?_
       refine rvc_nil ?_
       refine Awp.ret ?_
       subst hR
       exact ⟨.inl rfl, rfl⟩
     ·
      replace hR := of_false h5 hR
      refine rvS ?_
      refine rvS ?_
      refine rvP C (.pv (.lit (.bool false))) ?_
      refine rvP C (.pv (.lit (.bool false))) ?_
      refine rvS ?_
      refine rvS ?_
      refine rvP C (.pv (.lit (.bool false))) ?_
      refine rvP C (.pv (.lit (.bool false))) ?_
      refine rvS ?_
      refine rvS ?_
      refine rvS ?_
      refine rvS ?_
      refine rvP C (.pv (.lit (.bool false))) ?_
      refine rvP C (.pv (.lit (.bool false))) ?_
      refine rvc_nil ?_
      refine Awp.ret ?_
      subst hR
      exact ⟨.inl rfl, rfl⟩
    ·
     replace hR := of_false h4 hR
     refine rvS ?_
     refine rvS ?_
     refine rvP C (.pv (.lit (.bool false))) ?_
     refine rvP C (.pv (.lit (.bool false))) ?_
     refine rvS ?_
     refine rvS ?_
     refine rvP C (.pv (.lit (.bool false))) ?_
     refine rvP C (.pv (.lit (.bool false))) ?_
     refine rvS ?_
     refine rvS ?_
     refine rvP C (.pv (.lit (.bool false))) ?_
     refine rvP C (.pv (.lit (.bool false))) ?_
     refine rvS ?_
     refine rvS ?_
     refine rvS ?_
     refine rvS ?_
     refine rvP C (.pv (.lit (.bool false))) ?_
     refine rvP C (.pv (.lit (.bool false))) ?_
     refine rvc_nil ?_
     refine Awp.ret ?_
     subst hR
     exact ⟨.inl rfl, rfl⟩
   ·
    replace hR := of_false h3 hR
    refine rvS ?_
    refine rvS ?_
    refine rvP C (.pv (.lit (.bool false))) ?_
    refine rvP C (.pv (.lit (.bool false))) ?_
    refine rvS ?_
    refine rvS ?_
    refine rvP C (.pv (.lit (.bool false))) ?_
    refine rvP C (.pv (.lit (.bool false))) ?_
    refine rvS ?_
    refine rvS ?_
    refine rvP C (.pv (.lit (.bool false))) ?_
    refine rvP C (.pv (.lit (.bool false))) ?_
    refine rvS ?_
    refine rvS ?_
    refine rvP C (.pv (.lit (.bool false))) ?_
    refine rvP C (.pv (.lit (.bool false))) ?_
    refine rvS ?_
    refine rvS ?_
    refine rvS ?_
    refine rvS ?_
    refine rvP C (.pv (.lit (.bool false))) ?_
    refine rvP C (.pv (.lit (.bool false))) ?_
    refine rvc_nil ?_
    refine Awp.ret ?_
    subst hR
    exact ⟨.inl rfl, rfl⟩
  ·
   replace hR := of_false h2 hR
   refine rvS ?_
   refine rvS ?_
   refine rvS ?_
   refine rvP C (.pv (.lit (.bool false))) ?_
   refine rvP C (.pv (.lit (.bool false))) ?_
   refine rvS ?_
   refine rvS ?_
   refine rvP C (.pv (.lit (.bool false))) ?_
   refine rvP C (.pv (.lit (.bool false))) ?_
   refine rvS ?_
   refine rvS ?_
   refine rvP C (.pv (.lit (.bool false))) ?_
   refine rvP C (.pv (.lit (.bool false))) ?_
   refine rvS ?_
   refine rvS ?_
   refine rvP C (.pv (.lit (.bool false))) ?_
   refine rvP C (.pv (.lit (.bool false))) ?_
   refine rvS ?_
   refine rvS ?_
   refine rvP C (.pv (.lit (.bool false))) ?_
   refine rvP C (.pv (.lit (.bool false))) ?_
   refine rvS ?_
   refine rvS ?_
   refine rvS ?_
   refine rvS ?_
   refine rvP C (.pv (.lit (.bool false))) ?_
   refine rvP C (.pv (.lit (.bool false))) ?_
   refine rvc_nil ?_
   refine Awp.ret ?_
   subst hR
   exact ⟨.inl rfl, rfl⟩
 ·
  replace hR := of_false h1 hR
  refine rvS ?_
  refine rvS ?_
  refine rvP C (.pv (.lit (.bool false))) ?_
  refine rvP C (.pv (.lit (.bool false))) ?_
  refine rvS ?_
  refine rvS ?_
  refine rvS ?_
  refine rvP C (.pv (.lit (.bool false))) ?_
  refine rvP C (.pv (.lit (.bool false))) ?_
  refine rvS ?_
  refine rvS ?_
  refine rvP C (.pv (.lit (.bool false))) ?_
  refine rvP C (.pv (.lit (.bool false))) ?_
  refine rvS ?_
  refine rvS ?_
  refine rvP C (.pv (.lit (.bool false))) ?_
  refine rvP C (.pv (.lit (.bool false))) ?_
  refine rvS ?_
  refine rvS ?_
  refine rvP C (.pv (.lit (.bool false))) ?_
  refine rvP C (.pv (.lit (.bool false))) ?_
  refine rvS ?_
  refine rvS ?_
  refine rvP C (.pv (.lit (.bool false))) ?_
  refine rvP C (.pv (.lit (.bool false))) ?_
  refine rvS ?_
  refine rvS ?_
  refine rvS ?_
  refine rvS ?_
  refine rvP C (.pv (.lit (.bool false))) ?_
  refine rvP C (.pv (.lit (.bool false))) ?_
  refine rvc_nil ?_
  refine Awp.ret ?_
  subst hR
  exact ⟨.inl rfl, rfl⟩
end Go.Proofs.Ytaoagcdljmpllaa
/- The laws. No conditions. -/
namespace Go.Proofs.Ytaoagcdljmpllaa
open Go.Am
def lawSeen (value : ByteArray) (told : ByteArray) (began : Int) : Bool :=
  (bif (decide ((value.size : Int) > 24)) then (awakeL ) else (bif (decide ((told.size : Int) > 24)) then (awakeL ) else (bif (((order (Sl.mk false [(Op.mk true value 0 (IntKind.i64.wrap (1 + (IntKind.i64.wrap ((IntKind.u64.wrap began).tmod 1000)))) (IntKind.i64.wrap ((IntKind.i64.wrap (1 + (IntKind.i64.wrap ((IntKind.u64.wrap began).tmod 1000)))) + 1))), (Op.mk false told 0 (IntKind.i64.wrap ((IntKind.i64.wrap (1 + (IntKind.i64.wrap ((IntKind.u64.wrap began).tmod 1000)))) + 2)) (IntKind.i64.wrap ((IntKind.i64.wrap (1 + (IntKind.i64.wrap ((IntKind.u64.wrap began).tmod 1000)))) + 3)))])).2.2) == 0) then (bif (((order (Sl.mk false [(Op.mk true value 0 (IntKind.i64.wrap (1 + (IntKind.i64.wrap ((IntKind.u64.wrap began).tmod 1000)))) (IntKind.i64.wrap ((IntKind.i64.wrap (1 + (IntKind.i64.wrap ((IntKind.u64.wrap began).tmod 1000)))) + 1))), (Op.mk false told 0 (IntKind.i64.wrap ((IntKind.i64.wrap (1 + (IntKind.i64.wrap ((IntKind.u64.wrap began).tmod 1000)))) + 2)) (IntKind.i64.wrap ((IntKind.i64.wrap (1 + (IntKind.i64.wrap ((IntKind.u64.wrap began).tmod 1000)))) + 3)))])).2.1) == (value.toList == told.toList)) then (awakeL ) else false) else false)))
theorem lawSeen_calls (value : ByteArray) (told : ByteArray) (began : Int)  : PCalls Try.prog 9 [.pv (.lit (.string value)), .pv (.lit (.string told)), .pv (.lit (.int .i64 began))] (.pv (.lit (.bool (lawSeen value told began)))) := by
 generalize hR : lawSeen value told began = R
 refine PCalls.of_body tabOk Try.func9 rfl rfl rfl rfl rfl mixed fun E hP C hI => ?_
 refine Awp.consP C ?_
 refine rvP C (.pv (.lit (.bool false))) ?_
 refine rvc_nil ?_
 refine Awp.seq ?_
 refine Awp.consP C ?_
 refine rvP C (.pv (.lit (.string value))) ?_
 refine rvP C (.pv (.lit (.int .i64 (value.size : Int)))) ?_
 refine rvP C (.pv (.lit (.bool (decide ((value.size : Int) > 24))))) ?_
 refine rvP C (.pv (.lit (.bool (decide ((value.size : Int) > 24))))) ?_
 refine rvc_case 13 (decide ((value.size : Int) > 24)) rfl (fun h1 => ?_) (fun h1 => ?_)
 ·
  replace hR := of_true h1 hR
  refine rvS ?_
  refine rvS ?_
  refine rvS ?_
  refine rvP C (.pv (.lit (.bool true))) ?_
  refine rvc_nil ?_
  refine Awp.condT (b := true) rfl rfl ?_
  refine Awp.consP C ?_
  refine rvc_un (rexec_call hP C rfl rfl rfl (awakeL_calls ) ?_)
  refine rvP C (.pv (.lit (.bool (awakeL )))) ?_
  refine rvc_nil ?_
  refine Awp.ret ?_
  subst hR
  exact ⟨.inl rfl, rfl⟩
 ·
  replace hR := of_false h1 hR
  refine rvO C (.pv (.lit (.string told))) ?_
  refine rvO C (.pv (.lit (.int .i64 (told.size : Int)))) ?_
  refine rvO C (.pv (.lit (.bool (decide ((told.size : Int) > 24))))) ?_
  refine rvP C (.pv (.lit (.bool (decide ((told.size : Int) > 24))))) ?_
  refine rvc_nil ?_
  refine Awp.cond (b := (decide ((told.size : Int) > 24))) rfl (fun h2 => ?_) (fun h2 => ?_)
  ·
   replace hR := of_true h2 hR
   refine Awp.consP C ?_
   refine rvc_un (rexec_call hP C rfl rfl rfl (awakeL_calls ) ?_)
   refine rvP C (.pv (.lit (.bool (awakeL )))) ?_
   refine rvc_nil ?_
   refine Awp.ret ?_
   subst hR
   exact ⟨.inl rfl, rfl⟩
  ·
   replace hR := of_false h2 hR
   refine Awp.skip ?_
   refine Awp.consP C ?_
   refine rvP C (.pv (.lit (.int .i64 began))) ?_
   refine rvP C (.pv (.lit (.int .u64 (IntKind.u64.wrap began)))) ?_
   refine rvc_un (rexec_prim C (δ := { v := .pv (.lit (.int .u64 ((IntKind.u64.wrap began).tmod 1000))) }) rfl rfl rfl rfl (by first | decide | omega) rfl ?_)
   refine rvP C (.pv (.lit (.int .i64 (IntKind.i64.wrap ((IntKind.u64.wrap began).tmod 1000))))) ?_
   refine rvP C (.pv (.lit (.int .i64 (IntKind.i64.wrap (1 + (IntKind.i64.wrap ((IntKind.u64.wrap began).tmod 1000))))))) ?_
   refine rvP C (.pv (.lit (.int .i64 (IntKind.i64.wrap (1 + (IntKind.i64.wrap ((IntKind.u64.wrap began).tmod 1000))))))) ?_
   refine rvc_nil ?_
   refine Awp.consP C ?_
   refine rvP C (.pv (.lit (.string value))) ?_
   refine rvP C (.pv (.lit (.int .i64 (IntKind.i64.wrap (1 + (IntKind.i64.wrap ((IntKind.u64.wrap began).tmod 1000))))))) ?_
   refine rvP C (.pv (.lit (.int .i64 (IntKind.i64.wrap (1 + (IntKind.i64.wrap ((IntKind.u64.wrap began).tmod 1000))))))) ?_
   refine rvP C (.pv (.lit (.int .i64 (IntKind.i64.wrap ((IntKind.i64.wrap (1 + (IntKind.i64.wrap ((IntKind.u64.wrap began).tmod 1000)))) + 1))))) ?_
   refine rvP C (.agg [.pv (.lit (.bool true)), .pv (.lit (.string value)), .pv (.lit (.int .i64 0)), .pv (.lit (.int .i64 (IntKind.i64.wrap (1 + (IntKind.i64.wrap ((IntKind.u64.wrap began).tmod 1000)))))), .pv (.lit (.int .i64 (IntKind.i64.wrap ((IntKind.i64.wrap (1 + (IntKind.i64.wrap ((IntKind.u64.wrap began).tmod 1000)))) + 1))))]) ?_
   refine rvP C (.pv (.lit (.string told))) ?_
   refine rvP C (.pv (.lit (.int .i64 (IntKind.i64.wrap (1 + (IntKind.i64.wrap ((IntKind.u64.wrap began).tmod 1000))))))) ?_
   refine rvP C (.pv (.lit (.int .i64 (IntKind.i64.wrap ((IntKind.i64.wrap (1 + (IntKind.i64.wrap ((IntKind.u64.wrap began).tmod 1000)))) + 2))))) ?_
   refine rvP C (.pv (.lit (.int .i64 (IntKind.i64.wrap (1 + (IntKind.i64.wrap ((IntKind.u64.wrap began).tmod 1000))))))) ?_
   refine rvP C (.pv (.lit (.int .i64 (IntKind.i64.wrap ((IntKind.i64.wrap (1 + (IntKind.i64.wrap ((IntKind.u64.wrap began).tmod 1000)))) + 3))))) ?_
   refine rvP C (.agg [.pv (.lit (.bool false)), .pv (.lit (.string told)), .pv (.lit (.int .i64 0)), .pv (.lit (.int .i64 (IntKind.i64.wrap ((IntKind.i64.wrap (1 + (IntKind.i64.wrap ((IntKind.u64.wrap began).tmod 1000)))) + 2)))), .pv (.lit (.int .i64 (IntKind.i64.wrap ((IntKind.i64.wrap (1 + (IntKind.i64.wrap ((IntKind.u64.wrap began).tmod 1000)))) + 3))))]) ?_
   refine rvc_un (rexec_buildSliceF C eOp [(Op.mk true value 0 (IntKind.i64.wrap (1 + (IntKind.i64.wrap ((IntKind.u64.wrap began).tmod 1000)))) (IntKind.i64.wrap ((IntKind.i64.wrap (1 + (IntKind.i64.wrap ((IntKind.u64.wrap began).tmod 1000)))) + 1))), (Op.mk false told 0 (IntKind.i64.wrap ((IntKind.i64.wrap (1 + (IntKind.i64.wrap ((IntKind.u64.wrap began).tmod 1000)))) + 2)) (IntKind.i64.wrap ((IntKind.i64.wrap (1 + (IntKind.i64.wrap ((IntKind.u64.wrap began).tmod 1000)))) + 3)))] rfl rfl rfl rfl rfl rfl rfl (by decide) rfl ?_)
   refine rvc_un (rexec_call hP C rfl rfl rfl (order_calls (Sl.mk false [(Op.mk true value 0 (IntKind.i64.wrap (1 + (IntKind.i64.wrap ((IntKind.u64.wrap began).tmod 1000)))) (IntKind.i64.wrap ((IntKind.i64.wrap (1 + (IntKind.i64.wrap ((IntKind.u64.wrap began).tmod 1000)))) + 1))), (Op.mk false told 0 (IntKind.i64.wrap ((IntKind.i64.wrap (1 + (IntKind.i64.wrap ((IntKind.u64.wrap began).tmod 1000)))) + 2)) (IntKind.i64.wrap ((IntKind.i64.wrap (1 + (IntKind.i64.wrap ((IntKind.u64.wrap began).tmod 1000)))) + 3)))]) (by simp)) ?_)
   refine rvP C (.tup [sS (some (order (Sl.mk false [(Op.mk true value 0 (IntKind.i64.wrap (1 + (IntKind.i64.wrap ((IntKind.u64.wrap began).tmod 1000)))) (IntKind.i64.wrap ((IntKind.i64.wrap (1 + (IntKind.i64.wrap ((IntKind.u64.wrap began).tmod 1000)))) + 1))), (Op.mk false told 0 (IntKind.i64.wrap ((IntKind.i64.wrap (1 + (IntKind.i64.wrap ((IntKind.u64.wrap began).tmod 1000)))) + 2)) (IntKind.i64.wrap ((IntKind.i64.wrap (1 + (IntKind.i64.wrap ((IntKind.u64.wrap began).tmod 1000)))) + 3)))])).1.nil) (eI .i64) ((order (Sl.mk false [(Op.mk true value 0 (IntKind.i64.wrap (1 + (IntKind.i64.wrap ((IntKind.u64.wrap began).tmod 1000)))) (IntKind.i64.wrap ((IntKind.i64.wrap (1 + (IntKind.i64.wrap ((IntKind.u64.wrap began).tmod 1000)))) + 1))), (Op.mk false told 0 (IntKind.i64.wrap ((IntKind.i64.wrap (1 + (IntKind.i64.wrap ((IntKind.u64.wrap began).tmod 1000)))) + 2)) (IntKind.i64.wrap ((IntKind.i64.wrap (1 + (IntKind.i64.wrap ((IntKind.u64.wrap began).tmod 1000)))) + 3)))])).1.D), .pv (.lit (.bool ((order (Sl.mk false [(Op.mk true value 0 (IntKind.i64.wrap (1 + (IntKind.i64.wrap ((IntKind.u64.wrap began).tmod 1000)))) (IntKind.i64.wrap ((IntKind.i64.wrap (1 + (IntKind.i64.wrap ((IntKind.u64.wrap began).tmod 1000)))) + 1))), (Op.mk false told 0 (IntKind.i64.wrap ((IntKind.i64.wrap (1 + (IntKind.i64.wrap ((IntKind.u64.wrap began).tmod 1000)))) + 2)) (IntKind.i64.wrap ((IntKind.i64.wrap (1 + (IntKind.i64.wrap ((IntKind.u64.wrap began).tmod 1000)))) + 3)))])).2.1))), .pv (.lit (.int .i64 ((order (Sl.mk false [(Op.mk true value 0 (IntKind.i64.wrap (1 + (IntKind.i64.wrap ((IntKind.u64.wrap began).tmod 1000)))) (IntKind.i64.wrap ((IntKind.i64.wrap (1 + (IntKind.i64.wrap ((IntKind.u64.wrap began).tmod 1000)))) + 1))), (Op.mk false told 0 (IntKind.i64.wrap ((IntKind.i64.wrap (1 + (IntKind.i64.wrap ((IntKind.u64.wrap began).tmod 1000)))) + 2)) (IntKind.i64.wrap ((IntKind.i64.wrap (1 + (IntKind.i64.wrap ((IntKind.u64.wrap began).tmod 1000)))) + 3)))])).2.2)))]) ?_
   refine rvP C (sS (some (order (Sl.mk false [(Op.mk true value 0 (IntKind.i64.wrap (1 + (IntKind.i64.wrap ((IntKind.u64.wrap began).tmod 1000)))) (IntKind.i64.wrap ((IntKind.i64.wrap (1 + (IntKind.i64.wrap ((IntKind.u64.wrap began).tmod 1000)))) + 1))), (Op.mk false told 0 (IntKind.i64.wrap ((IntKind.i64.wrap (1 + (IntKind.i64.wrap ((IntKind.u64.wrap began).tmod 1000)))) + 2)) (IntKind.i64.wrap ((IntKind.i64.wrap (1 + (IntKind.i64.wrap ((IntKind.u64.wrap began).tmod 1000)))) + 3)))])).1.nil) (eI .i64) ((order (Sl.mk false [(Op.mk true value 0 (IntKind.i64.wrap (1 + (IntKind.i64.wrap ((IntKind.u64.wrap began).tmod 1000)))) (IntKind.i64.wrap ((IntKind.i64.wrap (1 + (IntKind.i64.wrap ((IntKind.u64.wrap began).tmod 1000)))) + 1))), (Op.mk false told 0 (IntKind.i64.wrap ((IntKind.i64.wrap (1 + (IntKind.i64.wrap ((IntKind.u64.wrap began).tmod 1000)))) + 2)) (IntKind.i64.wrap ((IntKind.i64.wrap (1 + (IntKind.i64.wrap ((IntKind.u64.wrap began).tmod 1000)))) + 3)))])).1.D)) ?_
   refine rvP C (.pv (.lit (.bool ((order (Sl.mk false [(Op.mk true value 0 (IntKind.i64.wrap (1 + (IntKind.i64.wrap ((IntKind.u64.wrap began).tmod 1000)))) (IntKind.i64.wrap ((IntKind.i64.wrap (1 + (IntKind.i64.wrap ((IntKind.u64.wrap began).tmod 1000)))) + 1))), (Op.mk false told 0 (IntKind.i64.wrap ((IntKind.i64.wrap (1 + (IntKind.i64.wrap ((IntKind.u64.wrap began).tmod 1000)))) + 2)) (IntKind.i64.wrap ((IntKind.i64.wrap (1 + (IntKind.i64.wrap ((IntKind.u64.wrap began).tmod 1000)))) + 3)))])).2.1)))) ?_
   refine rvP C (.pv (.lit (.int .i64 ((order (Sl.mk false [(Op.mk true value 0 (IntKind.i64.wrap (1 + (IntKind.i64.wrap ((IntKind.u64.wrap began).tmod 1000)))) (IntKind.i64.wrap ((IntKind.i64.wrap (1 + (IntKind.i64.wrap ((IntKind.u64.wrap began).tmod 1000)))) + 1))), (Op.mk false told 0 (IntKind.i64.wrap ((IntKind.i64.wrap (1 + (IntKind.i64.wrap ((IntKind.u64.wrap began).tmod 1000)))) + 2)) (IntKind.i64.wrap ((IntKind.i64.wrap (1 + (IntKind.i64.wrap ((IntKind.u64.wrap began).tmod 1000)))) + 3)))])).2.2)))) ?_
   refine rvP C (sS (some (order (Sl.mk false [(Op.mk true value 0 (IntKind.i64.wrap (1 + (IntKind.i64.wrap ((IntKind.u64.wrap began).tmod 1000)))) (IntKind.i64.wrap ((IntKind.i64.wrap (1 + (IntKind.i64.wrap ((IntKind.u64.wrap began).tmod 1000)))) + 1))), (Op.mk false told 0 (IntKind.i64.wrap ((IntKind.i64.wrap (1 + (IntKind.i64.wrap ((IntKind.u64.wrap began).tmod 1000)))) + 2)) (IntKind.i64.wrap ((IntKind.i64.wrap (1 + (IntKind.i64.wrap ((IntKind.u64.wrap began).tmod 1000)))) + 3)))])).1.nil) (eI .i64) ((order (Sl.mk false [(Op.mk true value 0 (IntKind.i64.wrap (1 + (IntKind.i64.wrap ((IntKind.u64.wrap began).tmod 1000)))) (IntKind.i64.wrap ((IntKind.i64.wrap (1 + (IntKind.i64.wrap ((IntKind.u64.wrap began).tmod 1000)))) + 1))), (Op.mk false told 0 (IntKind.i64.wrap ((IntKind.i64.wrap (1 + (IntKind.i64.wrap ((IntKind.u64.wrap began).tmod 1000)))) + 2)) (IntKind.i64.wrap ((IntKind.i64.wrap (1 + (IntKind.i64.wrap ((IntKind.u64.wrap began).tmod 1000)))) + 3)))])).1.D)) ?_
   refine rvP C (.pv (.lit (.bool ((order (Sl.mk false [(Op.mk true value 0 (IntKind.i64.wrap (1 + (IntKind.i64.wrap ((IntKind.u64.wrap began).tmod 1000)))) (IntKind.i64.wrap ((IntKind.i64.wrap (1 + (IntKind.i64.wrap ((IntKind.u64.wrap began).tmod 1000)))) + 1))), (Op.mk false told 0 (IntKind.i64.wrap ((IntKind.i64.wrap (1 + (IntKind.i64.wrap ((IntKind.u64.wrap began).tmod 1000)))) + 2)) (IntKind.i64.wrap ((IntKind.i64.wrap (1 + (IntKind.i64.wrap ((IntKind.u64.wrap began).tmod 1000)))) + 3)))])).2.1)))) ?_
   refine rvP C (.pv (.lit (.int .i64 ((order (Sl.mk false [(Op.mk true value 0 (IntKind.i64.wrap (1 + (IntKind.i64.wrap ((IntKind.u64.wrap began).tmod 1000)))) (IntKind.i64.wrap ((IntKind.i64.wrap (1 + (IntKind.i64.wrap ((IntKind.u64.wrap began).tmod 1000)))) + 1))), (Op.mk false told 0 (IntKind.i64.wrap ((IntKind.i64.wrap (1 + (IntKind.i64.wrap ((IntKind.u64.wrap began).tmod 1000)))) + 2)) (IntKind.i64.wrap ((IntKind.i64.wrap (1 + (IntKind.i64.wrap ((IntKind.u64.wrap began).tmod 1000)))) + 3)))])).2.2)))) ?_
   refine rvc_nil ?_
   refine Awp.consP C ?_
   refine rvP C (.pv (.lit (.int .i64 ((order (Sl.mk false [(Op.mk true value 0 (IntKind.i64.wrap (1 + (IntKind.i64.wrap ((IntKind.u64.wrap began).tmod 1000)))) (IntKind.i64.wrap ((IntKind.i64.wrap (1 + (IntKind.i64.wrap ((IntKind.u64.wrap began).tmod 1000)))) + 1))), (Op.mk false told 0 (IntKind.i64.wrap ((IntKind.i64.wrap (1 + (IntKind.i64.wrap ((IntKind.u64.wrap began).tmod 1000)))) + 2)) (IntKind.i64.wrap ((IntKind.i64.wrap (1 + (IntKind.i64.wrap ((IntKind.u64.wrap began).tmod 1000)))) + 3)))])).2.2)))) ?_
   refine rvP C (.pv (.lit (.bool (((order (Sl.mk false [(Op.mk true value 0 (IntKind.i64.wrap (1 + (IntKind.i64.wrap ((IntKind.u64.wrap began).tmod 1000)))) (IntKind.i64.wrap ((IntKind.i64.wrap (1 + (IntKind.i64.wrap ((IntKind.u64.wrap began).tmod 1000)))) + 1))), (Op.mk false told 0 (IntKind.i64.wrap ((IntKind.i64.wrap (1 + (IntKind.i64.wrap ((IntKind.u64.wrap began).tmod 1000)))) + 2)) (IntKind.i64.wrap ((IntKind.i64.wrap (1 + (IntKind.i64.wrap ((IntKind.u64.wrap began).tmod 1000)))) + 3)))])).2.2) == 0)))) ?_
   refine rvP C (.pv (.lit (.bool (((order (Sl.mk false [(Op.mk true value 0 (IntKind.i64.wrap (1 + (IntKind.i64.wrap ((IntKind.u64.wrap began).tmod 1000)))) (IntKind.i64.wrap ((IntKind.i64.wrap (1 + (IntKind.i64.wrap ((IntKind.u64.wrap began).tmod 1000)))) + 1))), (Op.mk false told 0 (IntKind.i64.wrap ((IntKind.i64.wrap (1 + (IntKind.i64.wrap ((IntKind.u64.wrap began).tmod 1000)))) + 2)) (IntKind.i64.wrap ((IntKind.i64.wrap (1 + (IntKind.i64.wrap ((IntKind.u64.wrap began).tmod 1000)))) + 3)))])).2.2) == 0)))) ?_
   refine rvc_case 43 (((order (Sl.mk false [(Op.mk true value 0 (IntKind.i64.wrap (1 + (IntKind.i64.wrap ((IntKind.u64.wrap began).tmod 1000)))) (IntKind.i64.wrap ((IntKind.i64.wrap (1 + (IntKind.i64.wrap ((IntKind.u64.wrap began).tmod 1000)))) + 1))), (Op.mk false told 0 (IntKind.i64.wrap ((IntKind.i64.wrap (1 + (IntKind.i64.wrap ((IntKind.u64.wrap began).tmod 1000)))) + 2)) (IntKind.i64.wrap ((IntKind.i64.wrap (1 + (IntKind.i64.wrap ((IntKind.u64.wrap began).tmod 1000)))) + 3)))])).2.2) == 0) rfl (fun h3 => ?_) (fun h3 => ?_)
   ·
    replace hR := of_true h3 hR
    refine rvO C (.pv (.lit (.bool ((order (Sl.mk false [(Op.mk true value 0 (IntKind.i64.wrap (1 + (IntKind.i64.wrap ((IntKind.u64.wrap began).tmod 1000)))) (IntKind.i64.wrap ((IntKind.i64.wrap (1 + (IntKind.i64.wrap ((IntKind.u64.wrap began).tmod 1000)))) + 1))), (Op.mk false told 0 (IntKind.i64.wrap ((IntKind.i64.wrap (1 + (IntKind.i64.wrap ((IntKind.u64.wrap began).tmod 1000)))) + 2)) (IntKind.i64.wrap ((IntKind.i64.wrap (1 + (IntKind.i64.wrap ((IntKind.u64.wrap began).tmod 1000)))) + 3)))])).2.1)))) ?_
    refine rvO C (.pv (.lit (.string value))) ?_
    refine rvO C (.pv (.lit (.string told))) ?_
    refine rvO C (.pv (.lit (.bool (value.toList == told.toList)))) ?_
    refine rvO C (.pv (.lit (.bool (((order (Sl.mk false [(Op.mk true value 0 (IntKind.i64.wrap (1 + (IntKind.i64.wrap ((IntKind.u64.wrap began).tmod 1000)))) (IntKind.i64.wrap ((IntKind.i64.wrap (1 + (IntKind.i64.wrap ((IntKind.u64.wrap began).tmod 1000)))) + 1))), (Op.mk false told 0 (IntKind.i64.wrap ((IntKind.i64.wrap (1 + (IntKind.i64.wrap ((IntKind.u64.wrap began).tmod 1000)))) + 2)) (IntKind.i64.wrap ((IntKind.i64.wrap (1 + (IntKind.i64.wrap ((IntKind.u64.wrap began).tmod 1000)))) + 3)))])).2.1) == (value.toList == told.toList))))) ?_
    refine rvP C (.pv (.lit (.bool (((order (Sl.mk false [(Op.mk true value 0 (IntKind.i64.wrap (1 + (IntKind.i64.wrap ((IntKind.u64.wrap began).tmod 1000)))) (IntKind.i64.wrap ((IntKind.i64.wrap (1 + (IntKind.i64.wrap ((IntKind.u64.wrap began).tmod 1000)))) + 1))), (Op.mk false told 0 (IntKind.i64.wrap ((IntKind.i64.wrap (1 + (IntKind.i64.wrap ((IntKind.u64.wrap began).tmod 1000)))) + 2)) (IntKind.i64.wrap ((IntKind.i64.wrap (1 + (IntKind.i64.wrap ((IntKind.u64.wrap began).tmod 1000)))) + 3)))])).2.1) == (value.toList == told.toList))))) ?_
    refine rvP C (.pv (.lit (.bool (((order (Sl.mk false [(Op.mk true value 0 (IntKind.i64.wrap (1 + (IntKind.i64.wrap ((IntKind.u64.wrap began).tmod 1000)))) (IntKind.i64.wrap ((IntKind.i64.wrap (1 + (IntKind.i64.wrap ((IntKind.u64.wrap began).tmod 1000)))) + 1))), (Op.mk false told 0 (IntKind.i64.wrap ((IntKind.i64.wrap (1 + (IntKind.i64.wrap ((IntKind.u64.wrap began).tmod 1000)))) + 2)) (IntKind.i64.wrap ((IntKind.i64.wrap (1 + (IntKind.i64.wrap ((IntKind.u64.wrap began).tmod 1000)))) + 3)))])).2.1) == (value.toList == told.toList))))) ?_
    refine rvc_case 50 (((order (Sl.mk false [(Op.mk true value 0 (IntKind.i64.wrap (1 + (IntKind.i64.wrap ((IntKind.u64.wrap began).tmod 1000)))) (IntKind.i64.wrap ((IntKind.i64.wrap (1 + (IntKind.i64.wrap ((IntKind.u64.wrap began).tmod 1000)))) + 1))), (Op.mk false told 0 (IntKind.i64.wrap ((IntKind.i64.wrap (1 + (IntKind.i64.wrap ((IntKind.u64.wrap began).tmod 1000)))) + 2)) (IntKind.i64.wrap ((IntKind.i64.wrap (1 + (IntKind.i64.wrap ((IntKind.u64.wrap began).tmod 1000)))) + 3)))])).2.1) == (value.toList == told.toList)) rfl (fun h4 => ?_) (fun h4 => ?_)
    ·
     replace hR := of_true h4 hR
     refine rvc_open rfl rfl rfl (rexec_call hP C rfl rfl rfl (awakeL_calls ) ?_)
     refine rvP C (.pv (.lit (.bool (awakeL )))) ?_
     refine rvP C (.pv (.lit (.bool (awakeL )))) ?_
     refine rvc_nil ?_
     refine Awp.ret ?_
     subst hR
     exact ⟨.inl rfl, rfl⟩
    ·
     replace hR := of_false h4 hR
     refine rvS ?_
     refine rvP C (.pv (.lit (.bool false))) ?_
     refine rvP C (.pv (.lit (.bool false))) ?_
     refine rvc_nil ?_
     refine Awp.ret ?_
     subst hR
     exact ⟨.inl rfl, rfl⟩
   ·
    replace hR := of_false h3 hR
    refine rvS ?_
    refine rvS ?_
    refine rvS ?_
    refine rvS ?_
    refine rvS ?_
    refine rvP C (.pv (.lit (.bool false))) ?_
    refine rvP C (.pv (.lit (.bool false))) ?_
    refine rvS ?_
    refine rvP C (.pv (.lit (.bool false))) ?_
    refine rvP C (.pv (.lit (.bool false))) ?_
    refine rvc_nil ?_
    refine Awp.ret ?_
    subst hR
    exact ⟨.inl rfl, rfl⟩
end Go.Proofs.Ytaoagcdljmpllaa
/- The examples go through; what may be. No conditions. -/
namespace Go.Proofs.Ytaoagcdljmpllaa
open Go.Am
theorem awakeL_true : awakeL = true := by kernel_rfl
end Go.Proofs.Ytaoagcdljmpllaa
/- Inputs of chapter 07, as plain values. No conditions. -/
namespace Go.Proofs.Ytaoagcdljmpllaa
open Go.Am
set_option maxRecDepth 100000 in
theorem flat9 {m : Nat} {ps : List PV} (h : Flat Try.prog (m + 1) 9 ps) : ∃ s, ps = [.lit (.string s)] ∧ s.size ≤ maxLen := by
  unfold Flat at h
  rw [Try.underlying9] at h
  exact h
end Go.Proofs.Ytaoagcdljmpllaa
/- What the search asks, in plain words; a row fits here if it does there. No conditions. -/
namespace Go.Proofs.Ytaoagcdljmpllaa
open Go.Am
theorem loop_iff {α : Type} {f : List α → Nat → Bool} {c : Nat → α → Bool} (h0 : ∀ j, f [] j = true) (h1 : ∀ x xs j, f (x :: xs) j = bif c j x then false else f xs (j + 1)) : ∀ (ys : List α) (j : Nat), f ys j = true ↔ ∀ k x, ys[k]? = some x → c (j + k) x = false
  | [], j => by simp [h0]
  | y :: ys, j => by
    rw [h1]
    cases hc : c j y
    · rw [cond_false, loop_iff h0 h1 ys (j + 1)]
      constructor
      · intro h k x hk
        cases k with
        | zero => simp only [List.getElem?_cons_zero, Option.some.injEq] at hk; subst hk; exact hc
        | succ k => rw [List.getElem?_cons_succ] at hk; have := h k x hk; rwa [Nat.add_right_comm] at this
      · intro h k x hk
        have := h (k + 1) x (by rw [List.getElem?_cons_succ]; exact hk)
        rwa [show j + (k + 1) = j + 1 + k by omega] at this
    · rw [cond_true]
      constructor
      · intro h; cases h
      · intro h
        have := h 0 y rfl
        rw [Nat.add_zero, hc] at this; cases this
def firstC' (l : List Op) (i done : Int) (k : Nat) (x : Op) : Bool := ((k : Int) != i) && (!(mHas done (k : Int)) && decide (over x < (l[i.toNat]!.began)))
theorem firstSO_iff (s : Search) (i d : Int) : firstSO s i d = true ↔ ∀ k x, s.l.D[k]? = some x → firstC' s.l.D i d k x = false := by
  have := loop_iff (f := firstSO_l0 s i d) (c := firstC' s.l.D i d) (fun _ => rfl) (fun x xs j => by
    conv => lhs; unfold firstSO_l0
    unfold firstC'
    cases ((j : Int) != i) <;> cases (mHas d (j : Int)) <;> cases decide (over x < (s.l.D[i.toNat]!.began)) <;> rfl) s.l.D 0
  simp only [Nat.zero_add] at this
  exact this
theorem allSO_iff (s : Search) (d : Int) : allSO s d = true ↔ ∀ (k : Nat) (x : Op), s.l.D[k]? = some x → ((x.ended != 0) && !(mHas d (k : Int))) = false := by
  have := loop_iff (f := allSO_l0 d) (c := fun (k : Nat) (x : Op) => (x.ended != 0) && !(mHas d (k : Int))) (fun _ => rfl) (fun x xs j => by
    conv => lhs; unfold allSO_l0
    cases (x.ended != 0) <;> cases (mHas d (j : Int)) <;> rfl) s.l.D 0
  simp only [Nat.zero_add] at this
  exact this
/-- What is done, and what is left. -/
def Rel (l : List Op) (done : Int) (left : List Bool) : Prop := left.length = l.length ∧ ∀ k, k < l.length → left[k]! = !(mHas done (k : Int))
theorem bool_iff {a b : Bool} (h : a = true ↔ b = true) : a = b := by
  cases a <;> cases b <;> simp_all
theorem lt_of_get {α : Type} {l : List α} {i : Nat} {x : α} (h : l[i]? = some x) : i < l.length := by
  rcases Nat.lt_or_ge i l.length with h1 | h1
  · exact h1
  · rw [List.getElem?_eq_none h1] at h; cases h
theorem Rel.zero (l : List Op) (hl : l.length ≤ 64) : Rel l 0 (List.replicate l.length true) := by
  refine ⟨by simp, fun k hk => ?_⟩
  have e : mHas 0 (k : Int) = false := by
    have := has_nat (S := 0) (n := k) (by decide) (by omega)
    rw [Nat.zero_testBit] at this
    exact this
  rw [e, List.getElem!_eq_getElem?_getD, List.getElem?_replicate, if_pos hk]; rfl
theorem okD0 : okD 0 := ⟨by decide, by decide⟩
end Go.Proofs.Ytaoagcdljmpllaa
/- A search finds an order if there is one. No conditions. -/
namespace Go.Proofs.Ytaoagcdljmpllaa
open Go.Am
theorem kPoint_eq (a b : Point) : kPoint.eq a b = true ↔ a = b := by
  cases a; cases b
  show ((_ == _) && ((ByteArray.toList _ == ByteArray.toList _) && true)) = true ↔ _
  simp only [Bool.and_eq_true, beq_iff_eq, strEq, Point.mk.injEq, and_true]
def beenOf (been : List (Point × Bool)) (q : Point) : Bool := (mGet kPoint q been).getD false
theorem mGet_set (p q : Point) (b : Bool) : ∀ (D : List (Point × Bool)), mGet kPoint q (mSet kPoint p b D) = if kPoint.eq q p = true then some b else mGet kPoint q D
  | [] => rfl
  | e :: D => by
    unfold mSet
    by_cases h : p = e.1
    · rw [if_pos ((kPoint_eq p e.1).2 h)]
      unfold mGet
      by_cases h2 : q = p
      · rw [if_pos ((kPoint_eq q p).2 h2), if_pos ((kPoint_eq q e.1).2 (h2.trans h))]
      · rw [if_neg (fun e' => h2 ((kPoint_eq q p).1 e')), if_neg (fun e' => h2 (((kPoint_eq q e.1).1 e').trans h.symm)), if_neg (fun e' => h2 (((kPoint_eq q e.1).1 e').trans h.symm))]
    · rw [if_neg (fun e' => h ((kPoint_eq p e.1).1 e'))]
      unfold mGet
      by_cases h2 : q = e.1
      · rw [if_pos ((kPoint_eq q e.1).2 h2), if_pos ((kPoint_eq q e.1).2 h2), if_neg (fun e' => h (((kPoint_eq q p).1 e').symm.trans h2))]
      · rw [if_neg (fun e' => h2 ((kPoint_eq q e.1).1 e')), if_neg (fun e' => h2 ((kPoint_eq q e.1).1 e')), mGet_set p q b D]
theorem been_set {p q : Point} {D : List (Point × Bool)} (h : beenOf (mSet kPoint p true D) q = true) : q = p ∨ beenOf D q = true := by
  unfold beenOf at h
  rw [mGet_set] at h
  by_cases e : kPoint.eq q p = true
  · exact .inl ((kPoint_eq q p).1 e)
  · rw [if_neg e] at h; exact .inr h
def sr (l : List Op) : Search := Search.mk (Sl.mk false l) [] (Sl.mk false [])
/-- An order of the rest, from a point on. -/
def Sol (l : List Op) : Point → List Int → Prop
  | p, [] => allSO (sr l) p.done = true
  | p, i :: row => ∃ (k : Nat) (x : Op), i = (k : Int) ∧ l[k]? = some x ∧ cand l p k x = true ∧ Sol l (goOn p k x) row
def bad (l : List Op) (p : Point) : Prop := ∀ row, ¬ Sol l p row
theorem loop_spec {l : List Op} (h64 : l.length ≤ 64) {k : Nat} {s : Search} {p : Point} (hs : s.l.D = l) (hp : okD p.done) (hk : mu l p.done < k + 1)
    (rec_ : ∀ (s' : Search) (p' : Point), s'.l.D = l → okD p'.done → mu l p'.done < k → (∀ q, beenOf s'.been q = true → mu l q.done ≤ mu l p'.done → bad l q) →
      ((fromO k s' p').2 = true → ∃ row', Sol l p' row' ∧ (fromO k s' p').1.row.D = s'.row.D ++ row') ∧ ((fromO k s' p').2 = false → bad l p' ∧ ∀ q, beenOf (fromO k s' p').1.been q = true → beenOf s'.been q = true ∨ bad l q))
    (hpre : ∀ q, beenOf s.been q = true → mu l q.done ≤ mu l p.done → bad l q) :
    ∀ (ys : List Op) (i : Nat) (row : List Int) (been : List (Point × Bool)), ys = l.drop i → (∀ q, beenOf been q = true → beenOf s.been q = true ∨ q = p ∨ bad l q) →
      ((fromB_l0 (fromO k) s p ys i row been).2 = true → ∃ row', Sol l p row' ∧ (fromB_l0 (fromO k) s p ys i row been).1.row.D = row ++ row') ∧
      ((fromB_l0 (fromO k) s p ys i row been).2 = false → (∀ (j : Nat) (x : Op), i ≤ j → l[j]? = some x → cand l p j x = true → bad l (goOn p j x)) ∧ ∀ q, beenOf (fromB_l0 (fromO k) s p ys i row been).1.been q = true → beenOf s.been q = true ∨ q = p ∨ bad l q)
  | [], i, row, been, hys, hb => by
    refine ⟨fun h => (by unfold fromB_l0 at h; cases h), fun _ => ⟨fun j x hj hx _ => ?_, hb⟩⟩
    have h1 : l.length ≤ i := by
      have := congrArg List.length hys
      rw [List.length_drop] at this
      simp only [List.length_nil] at this; omega
    have h2 := lt_of_get hx
    omega
  | x :: xs, i, row, been, hys, hb => by
    have hx : l[i]? = some x := by
      have := congrArg (fun z => z[0]?) hys
      rw [List.getElem?_drop] at this
      exact this.symm
    have hxs : xs = l.drop (i + 1) := by
      have := congrArg List.tail hys
      rw [List.tail_drop] at this
      exact this
    have hi := lt_of_get hx
    have ih := fun row been => loop_spec h64 hs hp hk rec_ hpre xs (i + 1) row been hxs
    rw [fromB_step, hs]
    cases hc : cand l p i x
    · rw [cond_false]
      obtain ⟨h1, h2⟩ := ih row been hb
      refine ⟨h1, fun hf => ?_⟩
      obtain ⟨h3, h4⟩ := h2 hf
      refine ⟨fun j y hj hy hcy => ?_, h4⟩
      by_cases e : j = i
      · subst e
        rw [hx] at hy; injection hy with hy; subst hy
        rw [hc] at hcy; cases hcy
      · exact h3 j y (by omega) hy hcy
    · rw [cond_true]
      have hnd : mHas p.done (i : Int) = false := by
        unfold cand at hc
        simp only [Bool.and_eq_true, Bool.not_eq_true'] at hc
        exact hc.1
      have hmu : mu l (goOn p i x).done < mu l p.done := mu_with h64 hp hi hnd
      have hd' : okD (goOn p i x).done := with_okD hp (by omega)
      obtain ⟨r1, r2⟩ := rec_ (Search.mk s.l been (Sl.mk false (row ++ [(i : Int)]))) (goOn p i x) hs hd' (by omega) (fun q hq hm => by
        rcases hb q hq with h | rfl | h
        · exact hpre q h (by omega)
        · omega
        · exact h)
      have r3 := fromO_rowD k (Search.mk s.l been (Sl.mk false (row ++ [(i : Int)]))) (goOn p i x)
      generalize fromO k (Search.mk s.l been (Sl.mk false (row ++ [(i : Int)]))) (goOn p i x) = r at r1 r2 r3 ⊢
      unfold fromStep
      cases h2 : r.2
      · rw [cond_false]
        have e1 : r.1.row.D = row ++ [(i : Int)] := r3 h2
        obtain ⟨hbad, hbb⟩ := r2 h2
        rw [e1, List.dropLast_concat]
        obtain ⟨h3, h4⟩ := ih row r.1.been (fun q hq => by
          rcases hbb q hq with h | h
          · exact hb q h
          · exact .inr (.inr h))
        refine ⟨h3, fun hf => ?_⟩
        obtain ⟨h5, h6⟩ := h4 hf
        refine ⟨fun j y hj hy hcy => ?_, h6⟩
        by_cases e : j = i
        · subst e
          rw [hx] at hy; injection hy with hy; subst hy
          exact hbad
        · exact h5 j y (by omega) hy hcy
      · rw [cond_true]
        refine ⟨fun _ => ?_, fun h => by cases h⟩
        obtain ⟨row', h3, h4⟩ := r1 h2
        have h4 : r.1.row.D = (row ++ [(i : Int)]) ++ row' := h4
        exact ⟨(i : Int) :: row', ⟨i, x, rfl, hx, hc, h3⟩, by show r.1.row.D = _; rw [h4, List.append_assoc]; rfl⟩
theorem from_spec {l : List Op} (h64 : l.length ≤ 64) : ∀ (k : Nat) (s : Search) (p : Point), s.l.D = l → okD p.done → mu l p.done < k → (∀ q, beenOf s.been q = true → mu l q.done ≤ mu l p.done → bad l q) →
      ((fromO k s p).2 = true → ∃ row', Sol l p row' ∧ (fromO k s p).1.row.D = s.row.D ++ row') ∧ ((fromO k s p).2 = false → bad l p ∧ ∀ q, beenOf (fromO k s p).1.been q = true → beenOf s.been q = true ∨ bad l q)
  | 0, _, _, _, _, h, _ => absurd h (Nat.not_lt_zero _)
  | k + 1, s, p, hs, hp, hk, hpre => by
    have hl := loop_spec h64 hs hp hk (from_spec h64 k) hpre s.l.D 0 s.row.D (mSet kPoint p true s.been) (by rw [hs, List.drop_zero]) (fun q hq => by
      rcases been_set hq with h | h
      · exact .inr (.inl h)
      · exact .inl h)
    change ((fromB (fromO k) s p).2 = true → ∃ row', Sol l p row' ∧ (fromB (fromO k) s p).1.row.D = s.row.D ++ row') ∧ ((fromB (fromO k) s p).2 = false → bad l p ∧ ∀ q, beenOf (fromB (fromO k) s p).1.been q = true → beenOf s.been q = true ∨ bad l q)
    unfold fromB
    rw [allSO_eq (Search.mk s.l s.been (Sl.mk false s.row.D)) (sr l) hs]
    cases h1 : allSO (sr l) p.done
    · rw [cond_false]
      cases h2 : (mGet kPoint p s.been).getD false
      · rw [cond_false]
        refine ⟨hl.1, fun hf => ?_⟩
        obtain ⟨h3, h4⟩ := hl.2 hf
        have hbad : bad l p := fun row hrow => by
          cases row with
          | nil => have hrow : allSO (sr l) p.done = true := hrow; rw [h1] at hrow; cases hrow
          | cons i row =>
            obtain ⟨j, x, _, hx, hc, hr⟩ := hrow
            exact h3 j x (Nat.zero_le _) hx hc row hr
        refine ⟨hbad, fun q hq => ?_⟩
        rcases h4 q hq with h | rfl | h
        · exact .inl h
        · exact .inr hbad
        · exact .inr h
      · rw [cond_true]
        exact ⟨fun h => (by cases h), fun _ => ⟨hpre p h2 (Nat.le_refl _), fun q hq => .inl hq⟩⟩
    · rw [cond_true]
      exact ⟨fun _ => ⟨[], h1, (List.append_nil _).symm⟩, fun h => by cases h⟩
theorem fromB_nil (rec : Search → Point → Search × Bool) (s : Search) (p : Point) : ∀ (ys : List Op) (i : Nat) (row : List Int) (been : List (Point × Bool)), (fromB_l0 rec s p ys i row been).1.row.nil = false
  | [], _, _, _ => rfl
  | x :: xs, i, row, been => by
    rw [fromB_step]
    cases cand s.l.D p i x
    · exact fromB_nil rec s p xs _ _ _
    · rw [cond_true]
      unfold fromStep
      cases (rec (Search.mk s.l been (Sl.mk false (row ++ [(i : Int)]))) (goOn p i x)).2
      · exact fromB_nil rec s p xs _ _ _
      · rfl
theorem fromN_l0_nil (s : Search) (p : Point) : ∀ (ys : List Op) (i : Nat), (fromN_l0 s p ys i).1.row.nil = true → (fromN_l0 s p ys i).1.row.D = []
  | [], _, _ => rfl
  | x :: xs, i, h => by
    rw [fromN_step] at h ⊢
    cases hc : cand s.l.D p i x
    · rw [hc] at h; exact fromN_l0_nil s p xs _ h
    · rw [hc, cond_true] at h
      unfold fromStep at h
      revert h
      cases (fromO 65 (Search.mk s.l (mSet kPoint p true s.been) (Sl.mk false [(i : Int)])) (goOn p i x)).2
      · rw [cond_false, fromB_nil]; intro h; cases h
      · intro h; cases h
theorem fromN_nil (s : Search) (p : Point) : (fromN s p).1.row.nil = true → (fromN s p).1.row.D = [] := by
  unfold fromN
  cases allSN (Search.mk s.l s.been (Sl.mk true [])) p.done
  · cases (mGet kPoint p s.been).getD false
    · exact fromN_l0_nil s p _ _
    · exact fun _ => rfl
  · exact fun _ => rfl
theorem cloneInts_D {s : Sl Int} (h : s.nil = true → s.D = []) : (cloneInts s).D = s.D := by
  unfold cloneInts
  cases hn : s.nil
  · rfl
  · rw [h hn]; rfl
theorem order_spec {l : Sl Op} (h : (rightL l != 0) = false) : ((order l).2.1 = true → Sol l.D ⟨0, ⟨#[]⟩⟩ (order l).1.D) ∧ ((order l).2.1 = false → (order l).1.D = [] ∧ bad l.D ⟨0, ⟨#[]⟩⟩) ∧ (order l).2.2 = 0 := by
  have h64 := right_len h
  obtain ⟨e1, e2⟩ := fromN_eq (Search.mk l [] (Sl.mk true [])) rfl ⟨0, ⟨#[]⟩⟩
  obtain ⟨s1, s2⟩ := from_spec h64 66 (Search.mk l [] (Sl.mk true [])) ⟨0, ⟨#[]⟩⟩ rfl okD0 (by have := mu_le l.D 0; show mu l.D 0 < 66; omega) (fun q hq => by cases hq)
  unfold order
  rw [h, cond_false, e1]
  cases hf : (fromO 66 (Search.mk l [] (Sl.mk true [])) ⟨0, ⟨#[]⟩⟩).2
  · exact ⟨fun h => (by cases h), fun _ => ⟨rfl, (s2 hf).1⟩, rfl⟩
  · refine ⟨fun _ => ?_, fun h => (by cases h), rfl⟩
    obtain ⟨row', h1, h2⟩ := s1 hf
    have e3 : (cloneInts (fromN (Search.mk l [] (Sl.mk true [])) ⟨0, ⟨#[]⟩⟩).1.row).D = row' := by
      rw [cloneInts_D (fromN_nil _ _), e2, h2]; rfl
    show Sol l.D _ (cloneInts _).D
    rw [e3]; exact h1
end Go.Proofs.Ytaoagcdljmpllaa
/- LinSeen. No conditions. -/
namespace Go.Proofs.Ytaoagcdljmpllaa
open Go.Am
def okR (x : Op) : Prop := 1 ≤ x.began ∧ (x.ended = 0 ∨ x.began < x.ended) ∧ 0 ≤ x.ver ∧ x.ver ≤ 1099511627776 ∧ (x.value.size : Int) ≤ 24
theorem right_iff : ∀ (l : List Op) (i : Nat), rightL_l0 l i = 0 ↔ ∀ x ∈ l, okR x
  | [], _ => by simp [rightL_l0]
  | y :: ys, i => by
    have ih := right_iff ys (i + 1)
    have e : rightL_l0 (y :: ys) i = 0 ↔ okR y ∧ rightL_l0 ys (i + 1) = 0 := by
      conv => lhs; lhs; unfold rightL_l0
      unfold okR
      by_cases h1 : y.began < 1
      · rw [decide_eq_true h1]; simp; omega
      · by_cases h3 : y.ver < 0
        · rw [decide_eq_false h1, decide_eq_true h3]; cases (y.ended != 0) <;> cases decide (y.ended ≤ y.began) <;> simp <;> omega
        · by_cases h4 : y.ver > 1099511627776
          · rw [decide_eq_false h1, decide_eq_false h3, decide_eq_true h4]; cases (y.ended != 0) <;> cases decide (y.ended ≤ y.began) <;> simp <;> omega
          · by_cases h5 : (y.value.size : Int) > 24
            · rw [decide_eq_false h1, decide_eq_false h3, decide_eq_false h4, decide_eq_true h5]; cases (y.ended != 0) <;> cases decide (y.ended ≤ y.began) <;> simp <;> omega
            · rw [decide_eq_false h1, decide_eq_false h3, decide_eq_false h4, decide_eq_false h5]
              by_cases h2 : y.ended = 0
              · have e1 : (y.ended != 0) = false := by simp [h2]
                rw [e1]; simp; omega
              · have e1 : (y.ended != 0) = true := by simp [h2]
                rw [e1]
                by_cases h6 : y.ended ≤ y.began
                · rw [decide_eq_true h6]; simp; omega
                · rw [decide_eq_false h6]; simp; omega
    rw [e, ih]
    simp
theorem rightL_iff (l : Sl Op) : (rightL l != 0) = false ↔ l.D.length ≤ 24 ∧ ∀ x ∈ l.D, okR x := by
  unfold rightL
  by_cases h : (l.D.length : Int) > 24
  · rw [decide_eq_true h, cond_true]
    constructor
    · intro h; cases h
    · rintro ⟨h1, _⟩; omega
  · rw [decide_eq_false h, cond_false, ← right_iff l.D 0]
    constructor
    · intro h2; exact ⟨by omega, by simpa using h2⟩
    · rintro ⟨_, h2⟩; rw [h2]; rfl
theorem cand_iff (l : List Op) (p : Point) (k : Nat) (x : Op) : cand l p k x = true ↔ mHas p.done (k : Int) = false ∧ (x.write = true ∨ (x.ended ≠ 0 ∧ x.value = p.value)) ∧ firstSO (sr l) (k : Int) p.done = true := by
  unfold cand sr
  simp only [Bool.and_eq_true, Bool.or_eq_true, Bool.not_eq_true', beq_eq_false_iff_ne, ne_eq, strBeq]
def pair (value told : ByteArray) (b : Int) : List Op := [Op.mk true value 0 b (b + 1), Op.mk false told 0 (b + 2) (b + 3)]
theorem has00 : mHas 0 ((0 : Nat) : Int) = false := by kernel_rfl
theorem has10 : mHas (mWith 0 ((0 : Nat) : Int)) ((0 : Nat) : Int) = true := by kernel_rfl
theorem has11 : mHas (mWith 0 ((0 : Nat) : Int)) ((1 : Nat) : Int) = false := by kernel_rfl
theorem has20 : mHas (mWith (mWith 0 ((0 : Nat) : Int)) ((1 : Nat) : Int)) ((0 : Nat) : Int) = true := by kernel_rfl
theorem has21 : mHas (mWith (mWith 0 ((0 : Nat) : Int)) ((1 : Nat) : Int)) ((1 : Nat) : Int) = true := by kernel_rfl
theorem pair_get {value told : ByteArray} {b : Int} {k : Nat} {x : Op} (h : (pair value told b)[k]? = some x) : (k = 0 ∧ x = Op.mk true value 0 b (b + 1)) ∨ (k = 1 ∧ x = Op.mk false told 0 (b + 2) (b + 3)) := by
  unfold pair at h
  match k with
  | 0 => exact .inl ⟨rfl, by simpa using h.symm⟩
  | 1 => exact .inr ⟨rfl, by simpa using h.symm⟩
  | k + 2 => simp at h
theorem over_pos {o : Op} (h : o.ended ≠ 0) : over o = o.ended := by
  unfold over
  have : (o.ended == 0) = false := by simp [h]
  rw [this]; rfl
theorem pair_sol {value told : ByteArray} {b : Int} (hb : 1 ≤ b) : (∃ row, Sol (pair value told b) ⟨0, ⟨#[]⟩⟩ row) ↔ value = told := by
  have o0 : over (Op.mk true value 0 b (b + 1)) = b + 1 := over_pos (by show b + 1 ≠ 0; omega)
  have o1 : over (Op.mk false told 0 (b + 2) (b + 3)) = b + 3 := over_pos (by show b + 3 ≠ 0; omega)
  constructor
  · rintro ⟨row, h⟩
    cases row with
    | nil =>
      have h : allSO (sr (pair value told b)) 0 = true := h
      have := (allSO_iff _ _).1 h 0 _ rfl
      rw [has00] at this
      simp at this; omega
    | cons i row =>
      obtain ⟨k, x, rfl, hx, hc, hr⟩ := h
      obtain ⟨c1, c2, c3⟩ := (cand_iff _ _ _ _).1 hc
      rcases pair_get hx with ⟨rfl, rfl⟩ | ⟨rfl, rfl⟩
      · cases row with
        | nil =>
          have hr : allSO (sr (pair value told b)) (mWith 0 ((0 : Nat) : Int)) = true := hr
          have := (allSO_iff _ _).1 hr 1 _ rfl
          rw [has11] at this
          simp at this; omega
        | cons j row =>
          obtain ⟨k, x, rfl, hx, hc, hr⟩ := hr
          obtain ⟨d1, d2, d3⟩ := (cand_iff _ _ _ _).1 hc
          rcases pair_get hx with ⟨rfl, rfl⟩ | ⟨rfl, rfl⟩
          · have d1 : mHas (mWith 0 ((0 : Nat) : Int)) ((0 : Nat) : Int) = false := d1
            rw [has10] at d1; cases d1
          · rcases d2 with d2 | ⟨_, d2⟩
            · cases d2
            · exact d2.symm
      · have := (firstSO_iff _ _ _).1 c3 0 _ rfl
        unfold firstC' at this
        rw [show mHas (⟨0, ⟨#[]⟩⟩ : Point).done ((0 : Nat) : Int) = false from has00, o0] at this
        have e : decide (b + 1 < ((sr (pair value told b)).l.D[((1 : Nat) : Int).toNat]!).began) = true := decide_eq_true (by show b + 1 < b + 2; omega)
        rw [e] at this
        cases this
  · rintro rfl
    refine ⟨[0, 1], 0, _, rfl, rfl, (cand_iff _ _ _ _).2 ⟨has00, .inl rfl, (firstSO_iff _ _ _).2 fun k x hx => ?_⟩, 1, _, rfl, rfl, (cand_iff _ _ _ _).2 ⟨has11, .inr ⟨?_, rfl⟩, (firstSO_iff _ _ _).2 fun k x hx => ?_⟩, (allSO_iff _ _).2 fun k x hx => ?_⟩
    · rcases pair_get hx with ⟨rfl, rfl⟩ | ⟨rfl, rfl⟩
      · rfl
      · unfold firstC'
        rw [o1]
        have e : decide (b + 3 < ((sr (pair value value b)).l.D[((0 : Nat) : Int).toNat]!).began) = false := decide_eq_false (by show ¬ b + 3 < b; omega)
        rw [e]; simp
    · show b + 3 ≠ 0; omega
    · rcases pair_get hx with ⟨rfl, rfl⟩ | ⟨rfl, rfl⟩
      · unfold firstC'
        rw [show mHas (goOn ⟨0, ⟨#[]⟩⟩ 0 (Op.mk true value 0 b (b + 1))).done ((0 : Nat) : Int) = true from has10]; simp
      · rfl
    · rcases pair_get hx with ⟨rfl, rfl⟩ | ⟨rfl, rfl⟩
      · rw [show mHas (goOn (goOn ⟨0, ⟨#[]⟩⟩ 0 (Op.mk true value 0 b (b + 1))) 1 (Op.mk false value 0 (b + 2) (b + 3))).done ((0 : Nat) : Int) = true from has20]; simp
      · rw [show mHas (goOn (goOn ⟨0, ⟨#[]⟩⟩ 0 (Op.mk true value 0 b (b + 1))) 1 (Op.mk false value 0 (b + 2) (b + 3))).done ((1 : Nat) : Int) = true from has21]; simp
theorem pair_order {value told : ByteArray} {b : Int} (hb : 1 ≤ b) (hv : value.size ≤ 24) (ht : told.size ≤ 24) : (order (Sl.mk false (pair value told b))).2.2 = 0 ∧ (order (Sl.mk false (pair value told b))).2.1 = (value.toList == told.toList) := by
  have hr : (rightL (Sl.mk false (pair value told b)) != 0) = false := by
    rw [rightL_iff]
    refine ⟨by show (2 : Nat) ≤ 24; decide, fun x hx => ?_⟩
    unfold okR
    have hx : x ∈ pair value told b := hx
    simp only [pair, List.mem_cons, List.not_mem_nil, or_false] at hx
    rcases hx with rfl | rfl
    · exact ⟨hb, .inr (by show b < b + 1; omega), by show (0 : Int) ≤ 0; omega, by show (0 : Int) ≤ _; omega, by show (value.size : Int) ≤ 24; omega⟩
    · exact ⟨by show 1 ≤ b + 2; omega, .inr (by show b + 2 < b + 3; omega), by show (0 : Int) ≤ 0; omega, by show (0 : Int) ≤ _; omega, by show (told.size : Int) ≤ 24; omega⟩
  obtain ⟨h1, h2, h3⟩ := order_spec hr
  refine ⟨h3, bool_iff ?_⟩
  rw [strBeq, ← pair_sol (value := value) (told := told) hb]
  constructor
  · intro h; exact ⟨_, h1 h⟩
  · rintro ⟨row, h⟩
    cases hf : (order (Sl.mk false (pair value told b))).2.1
    · exact absurd h ((h2 hf).2 row)
    · rfl
theorem lawSeen_true (value told : ByteArray) (began : Int) : lawSeen value told began = true := by
  unfold lawSeen
  rw [awakeL_true]
  by_cases h1 : (value.size : Int) > 24
  · rw [decide_eq_true h1]; rfl
  · by_cases h2 : (told.size : Int) > 24
    · rw [decide_eq_false h1, decide_eq_true h2]; rfl
    · rw [decide_eq_false h1, decide_eq_false h2]
      have hu : 0 ≤ (IntKind.u64.wrap began).tmod 1000 ∧ (IntKind.u64.wrap began).tmod 1000 < 1000 := by
        have : 0 ≤ IntKind.u64.wrap began := by rw [wrap64]; omega
        rw [Int.tmod_eq_emod_of_nonneg this]
        exact ⟨Int.emod_nonneg _ (by decide), Int.emod_lt_of_pos _ (by decide)⟩
      generalize (IntKind.u64.wrap began).tmod 1000 = r at hu
      have e0 : IntKind.i64.wrap r = r := wrap_i64 hu.1 (by omega)
      have e1 : IntKind.i64.wrap (1 + r) = 1 + r := wrap_i64 (by omega) (by omega)
      have e2 : IntKind.i64.wrap (1 + r + 1) = 1 + r + 1 := wrap_i64 (by omega) (by omega)
      have e3 : IntKind.i64.wrap (1 + r + 2) = 1 + r + 2 := wrap_i64 (by omega) (by omega)
      have e4 : IntKind.i64.wrap (1 + r + 3) = 1 + r + 3 := wrap_i64 (by omega) (by omega)
      rw [e0, e1, e2, e3, e4]
      obtain ⟨h3, h4⟩ := pair_order (value := value) (told := told) (b := 1 + r) (by omega) (by omega) (by omega)
      unfold pair at h3 h4
      rw [h3, h4]
      simp
theorem linSeen_calls (value : ByteArray) (_ : value.size ≤ maxLen) (told : ByteArray) (_ : told.size ≤ maxLen) (began : Int) (_ : (Lit.int .i64 began).wf = true) : PCalls Try.prog 9 [.pv (.lit (.string value)), .pv (.lit (.string told)), .pv (.lit (.int .i64 began))] (.pv (.bool true)) := by
  have r := lawSeen_calls value told began
  rw [lawSeen_true] at r
  exact r
end Go.Proofs.Ytaoagcdljmpllaa
/- An abstract machine over the kit's calls, part 34: three rows of three numbers that are handed in. No conditions. -/
namespace Go.Am
section
variable {H : Type} {enc : TypeId × Value → H} {P : Program} {w : World} {base : Nat} {spare : Nat → Bool} {held : Bool}
end
end Go.Am
/- What all rows of this seat need: no knob is turned, the types are laid out. No conditions. -/
namespace Go.Proofs.Ytaoagcdljmpllaa
open Go.Am
theorem own : ownKnob Try.prog.godebug = none := by kernel_rfl
theorem laidOut : laidOutB Try.prog = true := by kernel_rfl
end Go.Proofs.Ytaoagcdljmpllaa
