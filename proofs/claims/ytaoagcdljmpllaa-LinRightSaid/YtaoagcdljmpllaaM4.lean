import Derived.Test.YtaoagcdljmpllaaM3
import Derived.Test.YtaoagcdljmpllaaM2
/- An order of calls. No conditions. -/
namespace Go.Proofs.Ytaoagcdljmpllaa
open Go.Am
def cloneInts (s : (Sl Int)) : (Sl Int) :=
  (bif s.nil then (Sl.mk true []) else (Sl.mk false s.D))
theorem cloneInts_calls (s : (Sl Int)) (hl1 : s.D.length ≤ 1000000) : PCalls Try.prog 47 [sS (some s.nil) (eI .i64) s.D] (sS (some (cloneInts s).nil) (eI .i64) ((cloneInts s).D)) := by
 generalize hR : cloneInts s = R
 refine PCalls.of_body tabOk Try.func47 rfl rfl rfl rfl rfl mixed fun E hP C hI => ?_
 refine Awp.consP C ?_
 refine rvP C (sS (some true) (eI .i64) []) ?_
 refine rvc_nil ?_
 refine Awp.seq ?_
 refine Awp.consP C ?_
 refine rvP C (sS (some s.nil) (eI .i64) s.D) ?_
 refine rvc_un (rexec_eqNil C (f := s.nil) rfl rfl rfl rfl ?_)
 refine rvc_nil ?_
 refine Awp.cond (b := s.nil) rfl (fun h1 => ?_) (fun h1 => ?_)
 ·
  replace hR := of_true h1 hR
  refine Awp.consP C ?_
  refine rvP C (sS (some true) (eI .i64) []) ?_
  refine rvc_nil ?_
  refine Awp.ret ?_
  subst hR
  exact ⟨.inl rfl, rfl⟩
 ·
  replace hR := of_false h1 hR
  refine Awp.skip ?_
  refine Awp.consP C ?_
  refine rvc_un (rexec_prim C (δ := { v := .sl 5 0 0 1 true, new := [(5, .cells (encC (eI .i64) []))] }) rfl rfl rfl rfl trivial rfl ?_)
  refine rvP C (sS (some s.nil) (eI .i64) s.D) ?_
  refine rvc_un (rexec_append C rfl rfl rfl rfl rfl rfl rfl rfl (fun _ h => by cases h) rfl (en := (eI .i64)) (D0 := []) (D := s.D) rfl rfl rfl rfl (by first | omega | (simp <;> omega)) (by decide) (nn := s.D.length) (by simp) ?_)
  refine rvP C (.sl 7 0 s.D.length 1 false) ?_
  refine rvc_nil ?_
  refine Awp.freezeW 7 (encL (eI .i64) s.D) ?_ [(2, sS (some false) (eI .i64) s.D)] [] ?_ ?_ ?_
  · rfl
  · exact ⟨⟨_, rfl, .inl (.inr ⟨_, _, _, rfl, rfl⟩)⟩, trivial⟩
  · exact trivial
  refine Awp.ret ?_
  subst hR
  exact ⟨.inl rfl, rfl⟩
def order (l : (Sl Op)) : (Sl Int) × Bool × Int :=
  (bif ((rightL l) != 0) then ((Sl.mk true []), false, (rightL l)) else (bif (!((fromN (Search.mk l [] (Sl.mk true [])) (Point.mk 0 ⟨#[]⟩)).2)) then ((Sl.mk true []), false, 0) else ((cloneInts ((fromN (Search.mk l [] (Sl.mk true [])) (Point.mk 0 ⟨#[]⟩)).1.row)), true, 0)))
theorem order_calls (l : (Sl Op)) (hl1 : l.D.length ≤ 9223372036854775807) : PCalls Try.prog 28 [sS (some l.nil) eOp l.D] (.tup [sS (some (order l).1.nil) (eI .i64) ((order l).1.D), .pv (.lit (.bool ((order l).2.1))), .pv (.lit (.int .i64 ((order l).2.2)))]) := by
 generalize hR : order l = R
 refine PCalls.of_body tabOk Try.func28 rfl rfl rfl rfl rfl mixed fun E hP C hI => ?_
 refine Awp.consP C ?_
 refine rvP C (sS (some true) (eI .i64) []) ?_
 refine rvP C (.pv (.lit (.bool false))) ?_
 refine rvP C (.pv (.lit (.int .i64 0))) ?_
 refine rvc_nil ?_
 refine Awp.seq ?_
 refine Awp.consP C ?_
 refine rvP C (sS (some l.nil) eOp l.D) ?_
 refine rvc_un (rexec_call hP C rfl rfl rfl (rightL_calls l hl1) ?_)
 refine rvP C (.pv (.lit (.int .i64 (rightL l)))) ?_
 refine rvc_nil ?_
 refine Awp.consP C ?_
 refine rvP C (.pv (.lit (.int .i64 (rightL l)))) ?_
 refine rvP C (.pv (.lit (.bool ((rightL l) != 0)))) ?_
 refine rvc_nil ?_
 refine Awp.cond (b := ((rightL l) != 0)) rfl (fun h1 => ?_) (fun h1 => ?_)
 ·
  replace hR := of_true h1 hR
  refine Awp.consP C ?_
  refine rvP C (.pv (.lit (.int .i64 (rightL l)))) ?_
  refine rvP C (sS (some true) (eI .i64) []) ?_
  refine rvP C (.pv (.lit (.bool false))) ?_
  refine rvP C (.pv (.lit (.int .i64 (rightL l)))) ?_
  refine rvc_nil ?_
  refine Awp.ret ?_
  subst hR
  exact ⟨.inl rfl, rfl⟩
 ·
  replace hR := of_false h1 hR
  refine Awp.skip ?_
  refine Awp.consP C ?_
  refine rvP C (sS (some l.nil) eOp l.D) ?_
  refine rvc_un (rexec_makeMap C rfl rfl kPoint vBool ?_)
  refine rvP C (.agg [sS (some l.nil) eOp l.D, .mp 13, sS (some true) (eI .i64) []]) ?_
  refine rvc_un (rexec_prim C (δ := { v := .ptr 15 0, new := [(15, .cells [sS (some l.nil) eOp l.D, .mp 13, sS (some true) (eI .i64) []])] }) rfl rfl rfl rfl trivial rfl ?_)
  refine rvP C (.ptr 15 0) ?_
  refine rvc_nil ?_
  refine Awp.seq ?_
  refine Awp.cons C (fun _ => .writer) (by kernel_rfl) ?_
  refine rvP C (.ptr 15 0) ?_
  refine rvP C (.agg [.pv (.lit (.int .u64 0)), .pv (.lit (.string ⟨#[]⟩))]) ?_
  refine rvc_un (rexec_callObj hP C (fun b => bif b == 0 then 15 else bif b == 1 then 13 else b) [] rfl rfl rfl (fromN_calls (Search.mk l [] (Sl.mk true [])) (Point.mk 0 ⟨#[]⟩) (right_len (by assumption)) ⟨by decide, by decide⟩ hl1) rfl rfl ⟨rfl, trivial⟩ (of_decide_eq_true rfl) rfl (of_decide_eq_true rfl) (of_decide_eq_true rfl) allB_nil allB_nil (allB_cons rfl allB_nil) ?_ rfl (allB_cons rfl allB_nil))
  refine rvP C (.pv (.lit (.bool (!((fromN (Search.mk l [] (Sl.mk true [])) (Point.mk 0 ⟨#[]⟩)).2))))) ?_
  refine rvc_nil ?_
  refine Awp.cond (b := (!((fromN (Search.mk l [] (Sl.mk true [])) (Point.mk 0 ⟨#[]⟩)).2))) rfl (fun h2 => ?_) (fun h2 => ?_)
  ·
   replace hR := of_true h2 hR
   refine Awp.consP C ?_
   refine rvP C (sS (some true) (eI .i64) []) ?_
   refine rvP C (.pv (.lit (.bool false))) ?_
   refine rvP C (.pv (.lit (.int .i64 0))) ?_
   refine rvc_nil ?_
   refine Awp.ret ?_
   subst hR
   exact ⟨.inl rfl, rfl⟩
  ·
   replace hR := of_false h2 hR
   refine Awp.skip ?_
   refine Awp.consP C ?_
   refine rvP C (.ptr 15 0) ?_
   refine rvP C (.ptr 15 0) ?_
   refine rvP C (.ptr 15 2) ?_
   refine rvP C (sS (some (fromN (Search.mk l [] (Sl.mk true [])) (Point.mk 0 ⟨#[]⟩)).1.row.nil) (eI .i64) ((fromN (Search.mk l [] (Sl.mk true [])) (Point.mk 0 ⟨#[]⟩)).1.row.D)) ?_
   refine rvc_un (rexec_call hP C rfl rfl rfl (cloneInts_calls ((fromN (Search.mk l [] (Sl.mk true [])) (Point.mk 0 ⟨#[]⟩)).1.row) (Nat.le_trans (fromN_len _ rfl _) (by decide))) ?_)
   refine rvP C (sS (some (cloneInts ((fromN (Search.mk l [] (Sl.mk true [])) (Point.mk 0 ⟨#[]⟩)).1.row)).nil) (eI .i64) ((cloneInts ((fromN (Search.mk l [] (Sl.mk true [])) (Point.mk 0 ⟨#[]⟩)).1.row)).D)) ?_
   refine rvP C (.pv (.lit (.bool true))) ?_
   refine rvP C (.pv (.lit (.int .i64 0))) ?_
   refine rvc_nil ?_
   refine Awp.ret ?_
   subst hR
   exact ⟨.inl rfl, rfl⟩
end Go.Proofs.Ytaoagcdljmpllaa
/- What the reference asks. No conditions. -/
namespace Go.Proofs.Ytaoagcdljmpllaa
open Go.Am
def refRight_l0 : List Op → Nat → Int
  | [], _ => 0
  | x :: xs, i => (bif (decide (x.began < 1)) then 70 else (bif (decide (x.ended < 0)) then 70 else (bif (decide (x.ended > 0)) then (bif (decide (x.ended ≤ x.began)) then 70 else (bif (decide (x.ver < 0)) then 70 else (bif (decide (x.ver > 1099511627776)) then 70 else (bif (decide ((x.value.size : Int) > 24)) then 70 else refRight_l0 xs (i + 1) )))) else (bif (decide (x.ver < 0)) then 70 else (bif (decide (x.ver > 1099511627776)) then 70 else (bif (decide ((x.value.size : Int) > 24)) then 70 else refRight_l0 xs (i + 1) ))))))
def refRight (l : (Sl Op)) : Int :=
  (bif (decide ((l.D.length : Int) > 24)) then 4 else refRight_l0 l.D 0 )
theorem refRight_calls (l : (Sl Op)) (hl1 : l.D.length ≤ 9223372036854775807) : PCalls Try.prog 26 [sS (some l.nil) eOp l.D] (.pv (.lit (.int .i64 (refRight l)))) := by
 generalize hR : refRight l = R
 refine PCalls.of_body tabOk Try.func26 rfl rfl rfl rfl rfl mixed fun E hP C hI => ?_
 refine Awp.consP C ?_
 refine rvP C (.pv (.lit (.int .i64 0))) ?_
 refine rvc_nil ?_
 refine Awp.seq ?_
 refine Awp.consP C ?_
 refine rvP C (sS (some l.nil) eOp l.D) ?_
 refine rvP C (.pv (.lit (.int .i64 (l.D.length : Int)))) ?_
 refine rvP C (.pv (.lit (.bool (decide ((l.D.length : Int) > 24))))) ?_
 refine rvc_nil ?_
 refine Awp.cond (b := (decide ((l.D.length : Int) > 24))) rfl (fun h1 => ?_) (fun h1 => ?_)
 ·
  replace hR := of_true h1 hR
  refine Awp.consP C ?_
  refine rvP C (.pv (.lit (.int .i64 4))) ?_
  refine rvc_nil ?_
  refine Awp.ret ?_
  subst hR
  exact ⟨.inl rfl, rfl⟩
 ·
  replace hR := of_false h1 hR
  refine Awp.skip ?_
  refine Awp.seq ?_
  refine Awp.consP C ?_
  refine rvP C (sS (some l.nil) eOp l.D) ?_
  refine rvP C (.pv (.lit (.int .i64 (l.D.length : Int)))) ?_
  refine rvP C (.pv (.lit (.int .i64 0))) ?_
  refine rvc_nil ?_
  refine Awp.block ?_
  refine Awp.forR (σ := Unit) (l.D.length) (fun i _v => [(8, sS (some l.nil) eOp l.D), (9, .pv (.lit (.int .i64 (l.D.length : Int)))), (10, .pv (.lit (.int .i64 (i : Int))))]) (fun i _v => []) [] (fun i _v => refRight_l0 (l.D.drop i) i  = R) () ?_ ?_ (fun i _v h2 hR => ?_)
  · exact hR
  · exact ⟨fun b => b, WeakerR.ofL (Ks := []) hI ⟨⟨rfl, rfl⟩, ⟨rfl, rfl⟩, ⟨rfl, rfl⟩, trivial⟩ (okH_nil) rfl⟩
  refine Awp.consP C ?_
  refine rvP C (.pv (.lit (.bool (decide ((i : Int) < (l.D.length : Int)))))) ?_
  refine rvc_nil ?_
  refine Awp.seq ?_
  refine Awp.cond (b := (decide ((i : Int) < (l.D.length : Int)))) rfl (fun h3 => ?_) (fun h3 => ?_)
  ·
   have h4 : i < l.D.length := by have := of_decide_eq_true h3; omega
   obtain ⟨x, h5⟩ := getX h4
   rw [drop_at h5] at hR
   refine Awp.skip ?_
   refine Awp.seq ?_
   refine Awp.block ?_
   refine Awp.consP C ?_
   refine rvc_un (rexec_idxS C rfl rfl rfl rfl rfl rfl x (Int.natCast_nonneg _) h5 ?_)
   refine rvP C (.agg [.pv (.lit (.bool x.write)), .pv (.lit (.string x.value)), .pv (.lit (.int .i64 x.ver)), .pv (.lit (.int .i64 x.began)), .pv (.lit (.int .i64 x.ended))]) ?_
   refine rvc_un (rexec_prim C (δ := { v := .ptr 4 0, new := [(4, .cells [.pv (.lit (.bool false)), .pv (.lit (.string ⟨#[]⟩)), .pv (.lit (.int .i64 0)), .pv (.lit (.int .i64 0)), .pv (.lit (.int .i64 0))])] }) rfl rfl rfl rfl trivial rfl ?_)
   refine rvc_un (rexec_prim C (δ := { v := .undef, wr := [(4, some (.cells [.pv (.lit (.bool x.write)), .pv (.lit (.string x.value)), .pv (.lit (.int .i64 x.ver)), .pv (.lit (.int .i64 x.began)), .pv (.lit (.int .i64 x.ended))]))] }) rfl rfl rfl rfl trivial rfl ?_)
   refine rvc_nil ?_
   refine Awp.consP C ?_
   refine rvP C (.ptr 4 3) ?_
   refine rvP C (.pv (.lit (.int .i64 x.began))) ?_
   refine rvP C (.pv (.lit (.bool (decide (x.began < 1))))) ?_
   refine rvP C (.pv (.lit (.bool (decide (x.began < 1))))) ?_
   refine rvc_case 17 (decide (x.began < 1)) rfl (fun h6 => ?_) (fun h6 => ?_)
   ·
    replace hR := of_true h6 hR
    refine rvS ?_
    refine rvS ?_
    refine rvS ?_
    refine rvP C (.pv (.lit (.bool true))) ?_
    refine rvP C (.pv (.lit (.bool true))) ?_
    refine rvS ?_
    refine rvS ?_
    refine rvS ?_
    refine rvS ?_
    refine rvc_shutU rfl rfl rfl ?_
    refine rvc_shutU rfl rfl rfl ?_
    refine rvc_shutU rfl rfl rfl ?_
    refine rvc_shutU rfl rfl rfl ?_
    refine rvc_shutU rfl rfl rfl ?_
    refine rvS ?_
    refine rvP C (.pv (.lit (.bool true))) ?_
    refine rvP C (.pv (.lit (.bool true))) ?_
    refine rvS ?_
    refine rvS ?_
    refine rvS ?_
    refine rvP C (.pv (.lit (.bool true))) ?_
    refine rvP C (.pv (.lit (.bool true))) ?_
    refine rvS ?_
    refine rvS ?_
    refine rvS ?_
    refine rvP C (.pv (.lit (.bool true))) ?_
    refine rvP C (.pv (.lit (.bool true))) ?_
    refine rvS ?_
    refine rvS ?_
    refine rvS ?_
    refine rvS ?_
    refine rvP C (.pv (.lit (.bool true))) ?_
    refine rvc_nil ?_
    refine Awp.condT (b := true) rfl rfl ?_
    refine Awp.consP C ?_
    refine rvP C (.pv (.lit (.int .i64 70))) ?_
    refine rvc_nil ?_
    refine Awp.ret ?_
    subst hR
    exact ⟨.inl rfl, rfl⟩
   ·
    replace hR := of_false h6 hR
    refine rvO C (.ptr 4 4) ?_
    refine rvO C (.pv (.lit (.int .i64 x.ended))) ?_
    refine rvO C (.pv (.lit (.bool (decide (x.ended < 0))))) ?_
    refine rvP C (.pv (.lit (.bool (decide (x.ended < 0))))) ?_
    refine rvP C (.pv (.lit (.bool (decide (x.ended < 0))))) ?_
    refine rvc_case 22 (decide (x.ended < 0)) rfl (fun h7 => ?_) (fun h7 => ?_)
    ·
     replace hR := of_true h7 hR
     refine rvS ?_
     refine rvS ?_
     refine rvS ?_
     refine rvS ?_
     refine rvc_shutU rfl rfl rfl ?_
     refine rvc_shutU rfl rfl rfl ?_
     refine rvc_shutU rfl rfl rfl ?_
     refine rvc_shutU rfl rfl rfl ?_
     refine rvc_shutU rfl rfl rfl ?_
     refine rvS ?_
     refine rvP C (.pv (.lit (.bool true))) ?_
     refine rvP C (.pv (.lit (.bool true))) ?_
     refine rvS ?_
     refine rvS ?_
     refine rvS ?_
     refine rvP C (.pv (.lit (.bool true))) ?_
     refine rvP C (.pv (.lit (.bool true))) ?_
     refine rvS ?_
     refine rvS ?_
     refine rvS ?_
     refine rvP C (.pv (.lit (.bool true))) ?_
     refine rvP C (.pv (.lit (.bool true))) ?_
     refine rvS ?_
     refine rvS ?_
     refine rvS ?_
     refine rvS ?_
     refine rvP C (.pv (.lit (.bool true))) ?_
     refine rvc_nil ?_
     refine Awp.condT (b := true) rfl rfl ?_
     refine Awp.consP C ?_
     refine rvP C (.pv (.lit (.int .i64 70))) ?_
     refine rvc_nil ?_
     refine Awp.ret ?_
     subst hR
     exact ⟨.inl rfl, rfl⟩
    ·
     replace hR := of_false h7 hR
     refine rvO C (.ptr 4 4) ?_
     refine rvO C (.pv (.lit (.int .i64 x.ended))) ?_
     refine rvO C (.pv (.lit (.bool (decide (x.ended > 0))))) ?_
     refine rvO C (.pv (.lit (.bool (decide (x.ended > 0))))) ?_
     refine rvc_case 26 (decide (x.ended > 0)) rfl (fun h8 => ?_) (fun h8 => ?_)
     ·
      replace hR := of_true h8 hR
      refine rvO C (.ptr 4 4) ?_
      refine rvO C (.pv (.lit (.int .i64 x.ended))) ?_
      refine rvO C (.ptr 4 3) ?_
      refine rvO C (.pv (.lit (.int .i64 x.began))) ?_
      refine rvO C (.pv (.lit (.bool (decide (x.ended ≤ x.began))))) ?_
      refine rvO C (.pv (.lit (.bool (decide (x.ended ≤ x.began))))) ?_
      refine rvP C (.pv (.lit (.bool (decide (x.ended ≤ x.began))))) ?_
      refine rvP C (.pv (.lit (.bool (decide (x.ended ≤ x.began))))) ?_
      refine rvc_case 34 (decide (x.ended ≤ x.began)) rfl (fun h9 => ?_) (fun h9 => ?_)
      ·
       replace hR := of_true h9 hR
       refine rvS ?_
       refine rvS ?_
       refine rvS ?_
       refine rvP C (.pv (.lit (.bool true))) ?_
       refine rvP C (.pv (.lit (.bool true))) ?_
       refine rvS ?_
       refine rvS ?_
       refine rvS ?_
       refine rvP C (.pv (.lit (.bool true))) ?_
       refine rvP C (.pv (.lit (.bool true))) ?_
       refine rvS ?_
       refine rvS ?_
       refine rvS ?_
       refine rvS ?_
       refine rvP C (.pv (.lit (.bool true))) ?_
       refine rvc_nil ?_
       refine Awp.condT (b := true) rfl rfl ?_
       refine Awp.consP C ?_
       refine rvP C (.pv (.lit (.int .i64 70))) ?_
       refine rvc_nil ?_
       refine Awp.ret ?_
       subst hR
       exact ⟨.inl rfl, rfl⟩
      ·
       replace hR := of_false h9 hR
       refine rvO C (.ptr 4 2) ?_
       refine rvO C (.pv (.lit (.int .i64 x.ver))) ?_
       refine rvO C (.pv (.lit (.bool (decide (x.ver < 0))))) ?_
       refine rvP C (.pv (.lit (.bool (decide (x.ver < 0))))) ?_
       refine rvP C (.pv (.lit (.bool (decide (x.ver < 0))))) ?_
       refine rvc_case 39 (decide (x.ver < 0)) rfl (fun h10 => ?_) (fun h10 => ?_)
       ·
        replace hR := of_true h10 hR
        refine rvS ?_
        refine rvS ?_
        refine rvS ?_
        refine rvP C (.pv (.lit (.bool true))) ?_
        refine rvP C (.pv (.lit (.bool true))) ?_
        refine rvS ?_
        refine rvS ?_
        refine rvS ?_
        refine rvS ?_
        refine rvP C (.pv (.lit (.bool true))) ?_
        refine rvc_nil ?_
        refine Awp.condT (b := true) rfl rfl ?_
        refine Awp.consP C ?_
        refine rvP C (.pv (.lit (.int .i64 70))) ?_
        refine rvc_nil ?_
        refine Awp.ret ?_
        subst hR
        exact ⟨.inl rfl, rfl⟩
       ·
        replace hR := of_false h10 hR
        refine rvO C (.ptr 4 2) ?_
        refine rvO C (.pv (.lit (.int .i64 x.ver))) ?_
        refine rvO C (.pv (.lit (.bool (decide (x.ver > 1099511627776))))) ?_
        refine rvP C (.pv (.lit (.bool (decide (x.ver > 1099511627776))))) ?_
        refine rvP C (.pv (.lit (.bool (decide (x.ver > 1099511627776))))) ?_
        refine rvc_case 44 (decide (x.ver > 1099511627776)) rfl (fun h11 => ?_) (fun h11 => ?_)
        ·
         replace hR := of_true h11 hR
         refine rvS ?_
         refine rvS ?_
         refine rvS ?_
         refine rvS ?_
         refine rvP C (.pv (.lit (.bool true))) ?_
         refine rvc_nil ?_
         refine Awp.condT (b := true) rfl rfl ?_
         refine Awp.consP C ?_
         refine rvP C (.pv (.lit (.int .i64 70))) ?_
         refine rvc_nil ?_
         refine Awp.ret ?_
         subst hR
         exact ⟨.inl rfl, rfl⟩
        ·
         replace hR := of_false h11 hR
         refine rvO C (.ptr 4 1) ?_
         refine rvO C (.pv (.lit (.string x.value))) ?_
         refine rvO C (.pv (.lit (.int .i64 (x.value.size : Int)))) ?_
         refine rvO C (.pv (.lit (.bool (decide ((x.value.size : Int) > 24))))) ?_
         refine rvP C (.pv (.lit (.bool (decide ((x.value.size : Int) > 24))))) ?_
         refine rvc_nil ?_
         refine Awp.cond (b := (decide ((x.value.size : Int) > 24))) rfl (fun h12 => ?_) (fun h12 => ?_)
         ·
          replace hR := of_true h12 hR
          refine Awp.consP C ?_
          refine rvP C (.pv (.lit (.int .i64 70))) ?_
          refine rvc_nil ?_
          refine Awp.ret ?_
          subst hR
          exact ⟨.inl rfl, rfl⟩
         ·
          replace hR := of_false h12 hR
          refine Awp.skip ?_
          refine Awp.regionP C ?_
          refine rvP C (.pv (.lit (.int .i64 (IntKind.i64.wrap ((i : Int) + 1))))) ?_
          refine rvP C (.pv (.lit (.int .i64 (IntKind.i64.wrap ((i : Int) + 1))))) ?_
          refine rvc_nil ?_
          refine ⟨h4, (), ?_, ?_⟩
          · exact hR
          · exact ⟨fun b => b, WeakerR.ofL (Ks := []) hI ⟨⟨rfl, rfl⟩, ⟨rfl, rfl⟩, ⟨lit_cast (wrap_i64 (by omega) (by omega)), rfl⟩, trivial⟩ (okH_nil) rfl⟩
     ·
      replace hR := of_false h8 hR
      refine rvS ?_
      refine rvS ?_
      refine rvS ?_
      refine rvS ?_
      refine rvS ?_
      refine rvO C (.pv (.lit (.bool false))) ?_
      refine rvP C (.pv (.lit (.bool false))) ?_
      refine rvP C (.pv (.lit (.bool false))) ?_
      refine rvO C (.ptr 4 2) ?_
      refine rvO C (.pv (.lit (.int .i64 x.ver))) ?_
      refine rvO C (.pv (.lit (.bool (decide (x.ver < 0))))) ?_
      refine rvP C (.pv (.lit (.bool (decide (x.ver < 0))))) ?_
      refine rvP C (.pv (.lit (.bool (decide (x.ver < 0))))) ?_
      refine rvc_case 39 (decide (x.ver < 0)) rfl (fun h13 => ?_) (fun h13 => ?_)
      ·
       replace hR := of_true h13 hR
       refine rvS ?_
       refine rvS ?_
       refine rvS ?_
       refine rvP C (.pv (.lit (.bool true))) ?_
       refine rvP C (.pv (.lit (.bool true))) ?_
       refine rvS ?_
       refine rvS ?_
       refine rvS ?_
       refine rvS ?_
       refine rvP C (.pv (.lit (.bool true))) ?_
       refine rvc_nil ?_
       refine Awp.condT (b := true) rfl rfl ?_
       refine Awp.consP C ?_
       refine rvP C (.pv (.lit (.int .i64 70))) ?_
       refine rvc_nil ?_
       refine Awp.ret ?_
       subst hR
       exact ⟨.inl rfl, rfl⟩
      ·
       replace hR := of_false h13 hR
       refine rvO C (.ptr 4 2) ?_
       refine rvO C (.pv (.lit (.int .i64 x.ver))) ?_
       refine rvO C (.pv (.lit (.bool (decide (x.ver > 1099511627776))))) ?_
       refine rvP C (.pv (.lit (.bool (decide (x.ver > 1099511627776))))) ?_
       refine rvP C (.pv (.lit (.bool (decide (x.ver > 1099511627776))))) ?_
       refine rvc_case 44 (decide (x.ver > 1099511627776)) rfl (fun h14 => ?_) (fun h14 => ?_)
       ·
        replace hR := of_true h14 hR
        refine rvS ?_
        refine rvS ?_
        refine rvS ?_
        refine rvS ?_
        refine rvP C (.pv (.lit (.bool true))) ?_
        refine rvc_nil ?_
        refine Awp.condT (b := true) rfl rfl ?_
        refine Awp.consP C ?_
        refine rvP C (.pv (.lit (.int .i64 70))) ?_
        refine rvc_nil ?_
        refine Awp.ret ?_
        subst hR
        exact ⟨.inl rfl, rfl⟩
       ·
        replace hR := of_false h14 hR
        refine rvO C (.ptr 4 1) ?_
        refine rvO C (.pv (.lit (.string x.value))) ?_
        refine rvO C (.pv (.lit (.int .i64 (x.value.size : Int)))) ?_
        refine rvO C (.pv (.lit (.bool (decide ((x.value.size : Int) > 24))))) ?_
        refine rvP C (.pv (.lit (.bool (decide ((x.value.size : Int) > 24))))) ?_
        refine rvc_nil ?_
        refine Awp.cond (b := (decide ((x.value.size : Int) > 24))) rfl (fun h15 => ?_) (fun h15 => ?_)
        ·
         replace hR := of_true h15 hR
         refine Awp.consP C ?_
         refine rvP C (.pv (.lit (.int .i64 70))) ?_
         refine rvc_nil ?_
         refine Awp.ret ?_
         subst hR
         exact ⟨.inl rfl, rfl⟩
        ·
         replace hR := of_false h15 hR
         refine Awp.skip ?_
         refine Awp.regionP C ?_
         refine rvP C (.pv (.lit (.int .i64 (IntKind.i64.wrap ((i : Int) + 1))))) ?_
         refine rvP C (.pv (.lit (.int .i64 (IntKind.i64.wrap ((i : Int) + 1))))) ?_
         refine rvc_nil ?_
         refine ⟨h4, (), ?_, ?_⟩
         · exact hR
         · exact ⟨fun b => b, WeakerR.ofL (Ks := []) hI ⟨⟨rfl, rfl⟩, ⟨rfl, rfl⟩, ⟨lit_cast (wrap_i64 (by omega) (by omega)), rfl⟩, trivial⟩ (okH_nil) rfl⟩
  ·
   have h4 : ¬ i < l.D.length := by have := of_decide_eq_false h3; omega
   rw [drop_end h4] at hR
   refine Awp.exit ?_
   refine Awp.consP C ?_
   refine rvP C (.pv (.lit (.int .i64 0))) ?_
   refine rvc_nil ?_
   refine Awp.ret ?_
   subst hR
   exact ⟨.inl rfl, rfl⟩
def eqInts_l0 (s2 : (Sl Int)) : List Int → Nat → Bool
  | [], _ => true
  | x :: xs, i => (bif (x != (s2.D[(i : Int).toNat]!)) then false else eqInts_l0 s2 xs (i + 1) )
def eqInts (s1 : (Sl Int)) (s2 : (Sl Int)) : Bool :=
  (bif ((s1.D.length : Int) != (s2.D.length : Int)) then false else eqInts_l0 s2 s1.D 0 )
theorem eqInts_calls (s1 : (Sl Int)) (s2 : (Sl Int)) (hl1 : s1.D.length ≤ 9223372036854775807) : PCalls Try.prog 45 [sS (some s1.nil) (eI .i64) s1.D, sS (some s2.nil) (eI .i64) s2.D] (.pv (.lit (.bool (eqInts s1 s2)))) := by
 generalize hR : eqInts s1 s2 = R
 refine PCalls.of_body tabOk Try.func45 rfl rfl rfl rfl rfl mixed fun E hP C hI => ?_
 refine Awp.consP C ?_
 refine rvP C (.pv (.lit (.bool false))) ?_
 refine rvc_nil ?_
 refine Awp.seq ?_
 refine Awp.consP C ?_
 refine rvP C (sS (some s1.nil) (eI .i64) s1.D) ?_
 refine rvP C (.pv (.lit (.int .i64 (s1.D.length : Int)))) ?_
 refine rvP C (sS (some s2.nil) (eI .i64) s2.D) ?_
 refine rvP C (.pv (.lit (.int .i64 (s2.D.length : Int)))) ?_
 refine rvP C (.pv (.lit (.bool ((s1.D.length : Int) != (s2.D.length : Int))))) ?_
 refine rvc_nil ?_
 refine Awp.cond (b := ((s1.D.length : Int) != (s2.D.length : Int))) rfl (fun h1 => ?_) (fun h1 => ?_)
 ·
  replace hR := of_true h1 hR
  refine Awp.consP C ?_
  refine rvP C (.pv (.lit (.bool false))) ?_
  refine rvc_nil ?_
  refine Awp.ret ?_
  subst hR
  exact ⟨.inl rfl, rfl⟩
 ·
  replace hR := of_false h1 hR
  refine Awp.skip ?_
  refine Awp.seq ?_
  refine Awp.consP C ?_
  refine rvP C (sS (some s1.nil) (eI .i64) s1.D) ?_
  refine rvP C (.pv (.lit (.int .i64 (s1.D.length : Int)))) ?_
  refine rvP C (.pv (.lit (.int .i64 0))) ?_
  refine rvc_nil ?_
  refine Awp.block ?_
  refine Awp.forR (σ := Unit) (s1.D.length) (fun i _v => [(0, sS (some s1.nil) (eI .i64) s1.D), (1, sS (some s2.nil) (eI .i64) s2.D), (12, .pv (.lit (.int .i64 (s1.D.length : Int)))), (13, .pv (.lit (.int .i64 (i : Int))))]) (fun i _v => []) [] (fun i _v => eqInts_l0 s2 (s1.D.drop i) i  = R) () ?_ ?_ (fun i _v h2 hR => ?_)
  · exact hR
  · exact ⟨fun b => b, WeakerR.ofL (Ks := []) hI ⟨⟨rfl, rfl⟩, ⟨rfl, rfl⟩, ⟨rfl, rfl⟩, ⟨rfl, rfl⟩, trivial⟩ (okH_nil) rfl⟩
  refine Awp.consP C ?_
  refine rvP C (.pv (.lit (.bool (decide ((i : Int) < (s1.D.length : Int)))))) ?_
  refine rvc_nil ?_
  refine Awp.seq ?_
  refine Awp.cond (b := (decide ((i : Int) < (s1.D.length : Int)))) rfl (fun h3 => ?_) (fun h3 => ?_)
  ·
   have h4 : i < s1.D.length := by have := of_decide_eq_true h3; omega
   obtain ⟨x, h5⟩ := getX h4
   rw [drop_at h5] at hR
   refine Awp.skip ?_
   refine Awp.seq ?_
   refine Awp.block ?_
   refine Awp.consP C ?_
   refine rvP C (.pv (.lit (.int .i64 (i : Int)))) ?_
   refine rvP C (.pv (.lit (.int .i64 (i : Int)))) ?_
   refine rvc_nil ?_
   refine Awp.consP C ?_
   refine rvP C (sS (some s1.nil) (eI .i64) s1.D) ?_
   refine rvP C (.pv (.lit (.int .i64 (i : Int)))) ?_
   refine rvc_un (rexec_idxS C rfl rfl rfl rfl rfl rfl x (Int.natCast_nonneg _) h5 ?_)
   refine rvP C (.pv (.lit (.int .i64 x))) ?_
   refine rvP C (sS (some s2.nil) (eI .i64) s2.D) ?_
   refine rvP C (.pv (.lit (.int .i64 (i : Int)))) ?_
   have h6 : s2.D[(i : Int).toNat]? = some s2.D[(i : Int).toNat]! := getE (by have := eq_of_bne_false h1; have := of_decide_eq_true h3; omega)
   refine rvc_un (rexec_idxS C rfl rfl rfl rfl rfl rfl (s2.D[(i : Int).toNat]!) (Int.natCast_nonneg _) h6 ?_)
   refine rvP C (.pv (.lit (.int .i64 (s2.D[(i : Int).toNat]!)))) ?_
   refine rvP C (.pv (.lit (.bool (x != (s2.D[(i : Int).toNat]!))))) ?_
   refine rvc_nil ?_
   refine Awp.cond (b := (x != (s2.D[(i : Int).toNat]!))) rfl (fun h7 => ?_) (fun h7 => ?_)
   ·
    replace hR := of_true h7 hR
    refine Awp.consP C ?_
    refine rvP C (.pv (.lit (.bool false))) ?_
    refine rvc_nil ?_
    refine Awp.ret ?_
    subst hR
    exact ⟨.inl rfl, rfl⟩
   ·
    replace hR := of_false h7 hR
    refine Awp.skip ?_
    refine Awp.regionP C ?_
    refine rvP C (.pv (.lit (.int .i64 (IntKind.i64.wrap ((i : Int) + 1))))) ?_
    refine rvP C (.pv (.lit (.int .i64 (IntKind.i64.wrap ((i : Int) + 1))))) ?_
    refine rvc_nil ?_
    refine ⟨h4, (), ?_, ?_⟩
    · exact hR
    · exact ⟨fun b => b, WeakerR.ofL (Ks := []) hI ⟨⟨rfl, rfl⟩, ⟨rfl, rfl⟩, ⟨rfl, rfl⟩, ⟨lit_cast (wrap_i64 (by omega) (by omega)), rfl⟩, trivial⟩ (okH_nil) rfl⟩
  ·
   have h4 : ¬ i < s1.D.length := by have := of_decide_eq_false h3; omega
   rw [drop_end h4] at hR
   refine Awp.exit ?_
   refine Awp.consP C ?_
   refine rvP C (.pv (.lit (.bool true))) ?_
   refine rvc_nil ?_
   refine Awp.ret ?_
   subst hR
   exact ⟨.inl rfl, rfl⟩
end Go.Proofs.Ytaoagcdljmpllaa
/- Fewer are left. No conditions. -/
namespace Go.Proofs.Ytaoagcdljmpllaa
open Go.Am
end Go.Proofs.Ytaoagcdljmpllaa
/- Is there an order, one step. No conditions. -/
namespace Go.Proofs.Ytaoagcdljmpllaa
open Go.Am
end Go.Proofs.Ytaoagcdljmpllaa
/- Is there an order: by rounds. No conditions. -/
namespace Go.Proofs.Ytaoagcdljmpllaa
open Go.Am
end Go.Proofs.Ytaoagcdljmpllaa
/- Does a row fit. No conditions. -/
namespace Go.Proofs.Ytaoagcdljmpllaa
open Go.Am
end Go.Proofs.Ytaoagcdljmpllaa
/- The examples. No conditions. -/
namespace Go.Proofs.Ytaoagcdljmpllaa
open Go.Am
def awakeL  : Bool :=
  (bif (order (Sl.mk false [(Op.mk true ⟨#[97]⟩ 1 1 2), (Op.mk false ⟨#[97]⟩ 1 3 4)])).2.1 then (bif (((order (Sl.mk false [(Op.mk true ⟨#[97]⟩ 1 1 2), (Op.mk false ⟨#[97]⟩ 1 3 4)])).2.2) == 0) then (bif (eqInts ((order (Sl.mk false [(Op.mk true ⟨#[97]⟩ 1 1 2), (Op.mk false ⟨#[97]⟩ 1 3 4)])).1) (Sl.mk false [0, 1])) then (bif (!((order (Sl.mk false [(Op.mk true ⟨#[97]⟩ 1 1 2), (Op.mk false ⟨#[]⟩ 0 3 4)])).2.1)) then (bif (((order (Sl.mk false [(Op.mk true ⟨#[97]⟩ 1 1 2), (Op.mk false ⟨#[]⟩ 0 3 4)])).2.2) == 0) then (bif (!((order (Sl.mk false [(Op.mk true ⟨#[97]⟩ 1 1 0), (Op.mk false ⟨#[97]⟩ 0 3 4), (Op.mk false ⟨#[]⟩ 0 5 6)])).2.1)) then (bif (((order (Sl.mk false [(Op.mk true ⟨#[97]⟩ 1 1 0), (Op.mk false ⟨#[97]⟩ 0 3 4), (Op.mk false ⟨#[]⟩ 0 5 6)])).2.2) == 0) then ((rightL (Sl.mk false [(Op.mk false ⟨#[]⟩ 0 0 0)])) == 70) else false) else false) else false) else false) else false) else false) else false)
theorem awakeL_calls   : PCalls Try.prog 27 [] (.pv (.lit (.bool (awakeL )))) := by
 generalize hR : awakeL  = R
 refine PCalls.of_body tabOk Try.func27 rfl rfl rfl rfl rfl mixed fun E hP C hI => ?_
 refine Awp.consP C ?_
 refine rvP C (.pv (.lit (.bool false))) ?_
 refine rvc_nil ?_
 refine Awp.consP C ?_
 refine rvP C (.agg [.pv (.lit (.bool true)), .pv (.lit (.string ⟨#[97]⟩)), .pv (.lit (.int .i64 1)), .pv (.lit (.int .i64 1)), .pv (.lit (.int .i64 2))]) ?_
 refine rvc_un (rexec_prim C (δ := { v := .ptr 1 0, new := [(1, .cells [.pv (.lit (.bool false)), .pv (.lit (.string ⟨#[]⟩)), .pv (.lit (.int .i64 0)), .pv (.lit (.int .i64 0)), .pv (.lit (.int .i64 0))])] }) rfl rfl rfl rfl trivial rfl ?_)
 refine rvc_un (rexec_prim C (δ := { v := .undef, wr := [(1, some (.cells [.pv (.lit (.bool true)), .pv (.lit (.string ⟨#[97]⟩)), .pv (.lit (.int .i64 1)), .pv (.lit (.int .i64 1)), .pv (.lit (.int .i64 2))]))] }) rfl rfl rfl rfl trivial rfl ?_)
 refine rvc_nil ?_
 refine Awp.consP C ?_
 refine rvP C (.agg [.pv (.lit (.bool true)), .pv (.lit (.string ⟨#[97]⟩)), .pv (.lit (.int .i64 1)), .pv (.lit (.int .i64 1)), .pv (.lit (.int .i64 2))]) ?_
 refine rvP C (.agg [.pv (.lit (.bool false)), .pv (.lit (.string ⟨#[97]⟩)), .pv (.lit (.int .i64 1)), .pv (.lit (.int .i64 3)), .pv (.lit (.int .i64 4))]) ?_
 refine rvc_un (rexec_buildSliceF C eOp [(Op.mk true ⟨#[97]⟩ 1 1 2), (Op.mk false ⟨#[97]⟩ 1 3 4)] rfl rfl rfl rfl rfl rfl rfl (by decide) rfl ?_)
 refine rvc_un (rexec_call hP C rfl rfl rfl (order_calls (Sl.mk false [(Op.mk true ⟨#[97]⟩ 1 1 2), (Op.mk false ⟨#[97]⟩ 1 3 4)]) (of_decide_eq_true (by kernel_rfl))) ?_)
 refine rvP C (.tup [sS (some (order (Sl.mk false [(Op.mk true ⟨#[97]⟩ 1 1 2), (Op.mk false ⟨#[97]⟩ 1 3 4)])).1.nil) (eI .i64) ((order (Sl.mk false [(Op.mk true ⟨#[97]⟩ 1 1 2), (Op.mk false ⟨#[97]⟩ 1 3 4)])).1.D), .pv (.lit (.bool ((order (Sl.mk false [(Op.mk true ⟨#[97]⟩ 1 1 2), (Op.mk false ⟨#[97]⟩ 1 3 4)])).2.1))), .pv (.lit (.int .i64 ((order (Sl.mk false [(Op.mk true ⟨#[97]⟩ 1 1 2), (Op.mk false ⟨#[97]⟩ 1 3 4)])).2.2)))]) ?_
 refine rvP C (sS (some (order (Sl.mk false [(Op.mk true ⟨#[97]⟩ 1 1 2), (Op.mk false ⟨#[97]⟩ 1 3 4)])).1.nil) (eI .i64) ((order (Sl.mk false [(Op.mk true ⟨#[97]⟩ 1 1 2), (Op.mk false ⟨#[97]⟩ 1 3 4)])).1.D)) ?_
 refine rvP C (.pv (.lit (.bool ((order (Sl.mk false [(Op.mk true ⟨#[97]⟩ 1 1 2), (Op.mk false ⟨#[97]⟩ 1 3 4)])).2.1)))) ?_
 refine rvP C (.pv (.lit (.int .i64 ((order (Sl.mk false [(Op.mk true ⟨#[97]⟩ 1 1 2), (Op.mk false ⟨#[97]⟩ 1 3 4)])).2.2)))) ?_
 refine rvP C (sS (some (order (Sl.mk false [(Op.mk true ⟨#[97]⟩ 1 1 2), (Op.mk false ⟨#[97]⟩ 1 3 4)])).1.nil) (eI .i64) ((order (Sl.mk false [(Op.mk true ⟨#[97]⟩ 1 1 2), (Op.mk false ⟨#[97]⟩ 1 3 4)])).1.D)) ?_
 refine rvP C (.pv (.lit (.bool ((order (Sl.mk false [(Op.mk true ⟨#[97]⟩ 1 1 2), (Op.mk false ⟨#[97]⟩ 1 3 4)])).2.1)))) ?_
 refine rvP C (.pv (.lit (.int .i64 ((order (Sl.mk false [(Op.mk true ⟨#[97]⟩ 1 1 2), (Op.mk false ⟨#[97]⟩ 1 3 4)])).2.2)))) ?_
 refine rvc_nil ?_
 refine Awp.consP C ?_
 refine rvP C (.agg [.pv (.lit (.bool true)), .pv (.lit (.string ⟨#[97]⟩)), .pv (.lit (.int .i64 1)), .pv (.lit (.int .i64 1)), .pv (.lit (.int .i64 2))]) ?_
 refine rvP C (.agg [.pv (.lit (.bool false)), .pv (.lit (.string ⟨#[]⟩)), .pv (.lit (.int .i64 0)), .pv (.lit (.int .i64 3)), .pv (.lit (.int .i64 4))]) ?_
 refine rvc_un (rexec_buildSliceF C eOp [(Op.mk true ⟨#[97]⟩ 1 1 2), (Op.mk false ⟨#[]⟩ 0 3 4)] rfl rfl rfl rfl rfl rfl rfl (by decide) rfl ?_)
 refine rvc_un (rexec_call hP C rfl rfl rfl (order_calls (Sl.mk false [(Op.mk true ⟨#[97]⟩ 1 1 2), (Op.mk false ⟨#[]⟩ 0 3 4)]) (of_decide_eq_true (by kernel_rfl))) ?_)
 refine rvP C (.tup [sS (some (order (Sl.mk false [(Op.mk true ⟨#[97]⟩ 1 1 2), (Op.mk false ⟨#[]⟩ 0 3 4)])).1.nil) (eI .i64) ((order (Sl.mk false [(Op.mk true ⟨#[97]⟩ 1 1 2), (Op.mk false ⟨#[]⟩ 0 3 4)])).1.D), .pv (.lit (.bool ((order (Sl.mk false [(Op.mk true ⟨#[97]⟩ 1 1 2), (Op.mk false ⟨#[]⟩ 0 3 4)])).2.1))), .pv (.lit (.int .i64 ((order (Sl.mk false [(Op.mk true ⟨#[97]⟩ 1 1 2), (Op.mk false ⟨#[]⟩ 0 3 4)])).2.2)))]) ?_
 refine rvP C (sS (some (order (Sl.mk false [(Op.mk true ⟨#[97]⟩ 1 1 2), (Op.mk false ⟨#[]⟩ 0 3 4)])).1.nil) (eI .i64) ((order (Sl.mk false [(Op.mk true ⟨#[97]⟩ 1 1 2), (Op.mk false ⟨#[]⟩ 0 3 4)])).1.D)) ?_
 refine rvP C (.pv (.lit (.bool ((order (Sl.mk false [(Op.mk true ⟨#[97]⟩ 1 1 2), (Op.mk false ⟨#[]⟩ 0 3 4)])).2.1)))) ?_
 refine rvP C (.pv (.lit (.int .i64 ((order (Sl.mk false [(Op.mk true ⟨#[97]⟩ 1 1 2), (Op.mk false ⟨#[]⟩ 0 3 4)])).2.2)))) ?_
 refine rvP C (sS (some (order (Sl.mk false [(Op.mk true ⟨#[97]⟩ 1 1 2), (Op.mk false ⟨#[]⟩ 0 3 4)])).1.nil) (eI .i64) ((order (Sl.mk false [(Op.mk true ⟨#[97]⟩ 1 1 2), (Op.mk false ⟨#[]⟩ 0 3 4)])).1.D)) ?_
 refine rvP C (.pv (.lit (.bool ((order (Sl.mk false [(Op.mk true ⟨#[97]⟩ 1 1 2), (Op.mk false ⟨#[]⟩ 0 3 4)])).2.1)))) ?_
 refine rvP C (.pv (.lit (.int .i64 ((order (Sl.mk false [(Op.mk true ⟨#[97]⟩ 1 1 2), (Op.mk false ⟨#[]⟩ 0 3 4)])).2.2)))) ?_
 refine rvc_nil ?_
 refine Awp.consP C ?_
 refine rvP C (.ptr 1 4) ?_
 refine rvc_un (rexec_prim C (δ := { v := .undef, wr := [(1, some (.cells [.pv (.lit (.bool true)), .pv (.lit (.string ⟨#[97]⟩)), .pv (.lit (.int .i64 1)), .pv (.lit (.int .i64 1)), .pv (.lit (.int .i64 0))]))] }) rfl rfl rfl rfl trivial rfl ?_)
 refine rvc_nil ?_
 refine Awp.consP C ?_
 refine rvP C (.agg [.pv (.lit (.bool true)), .pv (.lit (.string ⟨#[97]⟩)), .pv (.lit (.int .i64 1)), .pv (.lit (.int .i64 1)), .pv (.lit (.int .i64 0))]) ?_
 refine rvP C (.agg [.pv (.lit (.bool false)), .pv (.lit (.string ⟨#[97]⟩)), .pv (.lit (.int .i64 0)), .pv (.lit (.int .i64 3)), .pv (.lit (.int .i64 4))]) ?_
 refine rvP C (.agg [.pv (.lit (.bool false)), .pv (.lit (.string ⟨#[]⟩)), .pv (.lit (.int .i64 0)), .pv (.lit (.int .i64 5)), .pv (.lit (.int .i64 6))]) ?_
 refine rvc_un (rexec_buildSliceF C eOp [(Op.mk true ⟨#[97]⟩ 1 1 0), (Op.mk false ⟨#[97]⟩ 0 3 4), (Op.mk false ⟨#[]⟩ 0 5 6)] rfl rfl rfl rfl rfl rfl rfl (by decide) rfl ?_)
 refine rvc_un (rexec_call hP C rfl rfl rfl (order_calls (Sl.mk false [(Op.mk true ⟨#[97]⟩ 1 1 0), (Op.mk false ⟨#[97]⟩ 0 3 4), (Op.mk false ⟨#[]⟩ 0 5 6)]) (of_decide_eq_true (by kernel_rfl))) ?_)
 refine rvP C (.tup [sS (some (order (Sl.mk false [(Op.mk true ⟨#[97]⟩ 1 1 0), (Op.mk false ⟨#[97]⟩ 0 3 4), (Op.mk false ⟨#[]⟩ 0 5 6)])).1.nil) (eI .i64) ((order (Sl.mk false [(Op.mk true ⟨#[97]⟩ 1 1 0), (Op.mk false ⟨#[97]⟩ 0 3 4), (Op.mk false ⟨#[]⟩ 0 5 6)])).1.D), .pv (.lit (.bool ((order (Sl.mk false [(Op.mk true ⟨#[97]⟩ 1 1 0), (Op.mk false ⟨#[97]⟩ 0 3 4), (Op.mk false ⟨#[]⟩ 0 5 6)])).2.1))), .pv (.lit (.int .i64 ((order (Sl.mk false [(Op.mk true ⟨#[97]⟩ 1 1 0), (Op.mk false ⟨#[97]⟩ 0 3 4), (Op.mk false ⟨#[]⟩ 0 5 6)])).2.2)))]) ?_
 refine rvP C (sS (some (order (Sl.mk false [(Op.mk true ⟨#[97]⟩ 1 1 0), (Op.mk false ⟨#[97]⟩ 0 3 4), (Op.mk false ⟨#[]⟩ 0 5 6)])).1.nil) (eI .i64) ((order (Sl.mk false [(Op.mk true ⟨#[97]⟩ 1 1 0), (Op.mk false ⟨#[97]⟩ 0 3 4), (Op.mk false ⟨#[]⟩ 0 5 6)])).1.D)) ?_
 refine rvP C (.pv (.lit (.bool ((order (Sl.mk false [(Op.mk true ⟨#[97]⟩ 1 1 0), (Op.mk false ⟨#[97]⟩ 0 3 4), (Op.mk false ⟨#[]⟩ 0 5 6)])).2.1)))) ?_
 refine rvP C (.pv (.lit (.int .i64 ((order (Sl.mk false [(Op.mk true ⟨#[97]⟩ 1 1 0), (Op.mk false ⟨#[97]⟩ 0 3 4), (Op.mk false ⟨#[]⟩ 0 5 6)])).2.2)))) ?_
 refine rvP C (sS (some (order (Sl.mk false [(Op.mk true ⟨#[97]⟩ 1 1 0), (Op.mk false ⟨#[97]⟩ 0 3 4), (Op.mk false ⟨#[]⟩ 0 5 6)])).1.nil) (eI .i64) ((order (Sl.mk false [(Op.mk true ⟨#[97]⟩ 1 1 0), (Op.mk false ⟨#[97]⟩ 0 3 4), (Op.mk false ⟨#[]⟩ 0 5 6)])).1.D)) ?_
 refine rvP C (.pv (.lit (.bool ((order (Sl.mk false [(Op.mk true ⟨#[97]⟩ 1 1 0), (Op.mk false ⟨#[97]⟩ 0 3 4), (Op.mk false ⟨#[]⟩ 0 5 6)])).2.1)))) ?_
 refine rvP C (.pv (.lit (.int .i64 ((order (Sl.mk false [(Op.mk true ⟨#[97]⟩ 1 1 0), (Op.mk false ⟨#[97]⟩ 0 3 4), (Op.mk false ⟨#[]⟩ 0 5 6)])).2.2)))) ?_
 refine rvc_nil ?_
 refine Awp.consP C ?_
 refine rvP C (.pv (.lit (.bool ((order (Sl.mk false [(Op.mk true ⟨#[97]⟩ 1 1 2), (Op.mk false ⟨#[97]⟩ 1 3 4)])).2.1)))) ?_
 refine rvP C (.pv (.lit (.bool ((order (Sl.mk false [(Op.mk true ⟨#[97]⟩ 1 1 2), (Op.mk false ⟨#[97]⟩ 1 3 4)])).2.1)))) ?_
 refine rvc_case 39 ((order (Sl.mk false [(Op.mk true ⟨#[97]⟩ 1 1 2), (Op.mk false ⟨#[97]⟩ 1 3 4)])).2.1) rfl (fun h1 => ?_) (fun h1 => ?_)
 ·
  replace hR := of_true h1 hR
  refine rvO C (.pv (.lit (.int .i64 ((order (Sl.mk false [(Op.mk true ⟨#[97]⟩ 1 1 2), (Op.mk false ⟨#[97]⟩ 1 3 4)])).2.2)))) ?_
  refine rvO C (.pv (.lit (.bool (((order (Sl.mk false [(Op.mk true ⟨#[97]⟩ 1 1 2), (Op.mk false ⟨#[97]⟩ 1 3 4)])).2.2) == 0)))) ?_
  refine rvP C (.pv (.lit (.bool (((order (Sl.mk false [(Op.mk true ⟨#[97]⟩ 1 1 2), (Op.mk false ⟨#[97]⟩ 1 3 4)])).2.2) == 0)))) ?_
  refine rvP C (.pv (.lit (.bool (((order (Sl.mk false [(Op.mk true ⟨#[97]⟩ 1 1 2), (Op.mk false ⟨#[97]⟩ 1 3 4)])).2.2) == 0)))) ?_
  refine rvc_case 43 (((order (Sl.mk false [(Op.mk true ⟨#[97]⟩ 1 1 2), (Op.mk false ⟨#[97]⟩ 1 3 4)])).2.2) == 0) rfl (fun h2 => ?_) (fun h2 => ?_)
  ·
   replace hR := of_true h2 hR
   refine rvO C (sS (some (order (Sl.mk false [(Op.mk true ⟨#[97]⟩ 1 1 2), (Op.mk false ⟨#[97]⟩ 1 3 4)])).1.nil) (eI .i64) ((order (Sl.mk false [(Op.mk true ⟨#[97]⟩ 1 1 2), (Op.mk false ⟨#[97]⟩ 1 3 4)])).1.D)) ?_
   refine rvc_open rfl rfl rfl (rexec_buildSliceF C (eI .i64) [0, 1] rfl rfl rfl rfl rfl rfl rfl (by decide) rfl ?_)
   refine rvc_open rfl rfl rfl (rexec_call hP C rfl rfl rfl (eqInts_calls ((order (Sl.mk false [(Op.mk true ⟨#[97]⟩ 1 1 2), (Op.mk false ⟨#[97]⟩ 1 3 4)])).1) (Sl.mk false [0, 1]) (of_decide_eq_true (by kernel_rfl))) ?_)
   refine rvP C (.pv (.lit (.bool (eqInts ((order (Sl.mk false [(Op.mk true ⟨#[97]⟩ 1 1 2), (Op.mk false ⟨#[97]⟩ 1 3 4)])).1) (Sl.mk false [0, 1]))))) ?_
   refine rvP C (.pv (.lit (.bool (eqInts ((order (Sl.mk false [(Op.mk true ⟨#[97]⟩ 1 1 2), (Op.mk false ⟨#[97]⟩ 1 3 4)])).1) (Sl.mk false [0, 1]))))) ?_
   refine rvc_case 48 (eqInts ((order (Sl.mk false [(Op.mk true ⟨#[97]⟩ 1 1 2), (Op.mk false ⟨#[97]⟩ 1 3 4)])).1) (Sl.mk false [0, 1])) rfl (fun h3 => ?_) (fun h3 => ?_)
   ·
    replace hR := of_true h3 hR
    refine rvO C (.pv (.lit (.bool ((order (Sl.mk false [(Op.mk true ⟨#[97]⟩ 1 1 2), (Op.mk false ⟨#[]⟩ 0 3 4)])).2.1)))) ?_
    refine rvO C (.pv (.lit (.bool (!((order (Sl.mk false [(Op.mk true ⟨#[97]⟩ 1 1 2), (Op.mk false ⟨#[]⟩ 0 3 4)])).2.1))))) ?_
    refine rvP C (.pv (.lit (.bool (!((order (Sl.mk false [(Op.mk true ⟨#[97]⟩ 1 1 2), (Op.mk false ⟨#[]⟩ 0 3 4)])).2.1))))) ?_
    refine rvP C (.pv (.lit (.bool (!((order (Sl.mk false [(Op.mk true ⟨#[97]⟩ 1 1 2), (Op.mk false ⟨#[]⟩ 0 3 4)])).2.1))))) ?_
    refine rvc_case 52 (!((order (Sl.mk false [(Op.mk true ⟨#[97]⟩ 1 1 2), (Op.mk false ⟨#[]⟩ 0 3 4)])).2.1)) rfl (fun h4 => ?_) (fun h4 => ?_)
    ·
     replace hR := of_true h4 hR
     refine rvO C (.pv (.lit (.int .i64 ((order (Sl.mk false [(Op.mk true ⟨#[97]⟩ 1 1 2), (Op.mk false ⟨#[]⟩ 0 3 4)])).2.2)))) ?_
     refine rvO C (.pv (.lit (.bool (((order (Sl.mk false [(Op.mk true ⟨#[97]⟩ 1 1 2), (Op.mk false ⟨#[]⟩ 0 3 4)])).2.2) == 0)))) ?_
     refine rvP C (.pv (.lit (.bool (((order (Sl.mk false [(Op.mk true ⟨#[97]⟩ 1 1 2), (Op.mk false ⟨#[]⟩ 0 3 4)])).2.2) == 0)))) ?_
     refine rvP C (.pv (.lit (.bool (((order (Sl.mk false [(Op.mk true ⟨#[97]⟩ 1 1 2), (Op.mk false ⟨#[]⟩ 0 3 4)])).2.2) == 0)))) ?_
     refine rvc_case 56 (((order (Sl.mk false [(Op.mk true ⟨#[97]⟩ 1 1 2), (Op.mk false ⟨#[]⟩ 0 3 4)])).2.2) == 0) rfl (fun h5 => ?_) (fun h5 => ?_)
     ·
      replace hR := of_true h5 hR
      refine rvO C (.pv (.lit (.bool ((order (Sl.mk false [(Op.mk true ⟨#[97]⟩ 1 1 0), (Op.mk false ⟨#[97]⟩ 0 3 4), (Op.mk false ⟨#[]⟩ 0 5 6)])).2.1)))) ?_
      refine rvO C (.pv (.lit (.bool (!((order (Sl.mk false [(Op.mk true ⟨#[97]⟩ 1 1 0), (Op.mk false ⟨#[97]⟩ 0 3 4), (Op.mk false ⟨#[]⟩ 0 5 6)])).2.1))))) ?_
      refine rvP C (.pv (.lit (.bool (!((order (Sl.mk false [(Op.mk true ⟨#[97]⟩ 1 1 0), (Op.mk false ⟨#[97]⟩ 0 3 4), (Op.mk false ⟨#[]⟩ 0 5 6)])).2.1))))) ?_
      refine rvP C (.pv (.lit (.bool (!((order (Sl.mk false [(Op.mk true ⟨#[97]⟩ 1 1 0), (Op.mk false ⟨#[97]⟩ 0 3 4), (Op.mk false ⟨#[]⟩ 0 5 6)])).2.1))))) ?_
      refine rvc_case 60 (!((order (Sl.mk false [(Op.mk true ⟨#[97]⟩ 1 1 0), (Op.mk false ⟨#[97]⟩ 0 3 4), (Op.mk false ⟨#[]⟩ 0 5 6)])).2.1)) rfl (fun h6 => ?_) (fun h6 => ?_)
      ·
       replace hR := of_true h6 hR
       refine rvO C (.pv (.lit (.int .i64 ((order (Sl.mk false [(Op.mk true ⟨#[97]⟩ 1 1 0), (Op.mk false ⟨#[97]⟩ 0 3 4), (Op.mk false ⟨#[]⟩ 0 5 6)])).2.2)))) ?_
       refine rvO C (.pv (.lit (.bool (((order (Sl.mk false [(Op.mk true ⟨#[97]⟩ 1 1 0), (Op.mk false ⟨#[97]⟩ 0 3 4), (Op.mk false ⟨#[]⟩ 0 5 6)])).2.2) == 0)))) ?_
       refine rvP C (.pv (.lit (.bool (((order (Sl.mk false [(Op.mk true ⟨#[97]⟩ 1 1 0), (Op.mk false ⟨#[97]⟩ 0 3 4), (Op.mk false ⟨#[]⟩ 0 5 6)])).2.2) == 0)))) ?_
       refine rvP C (.pv (.lit (.bool (((order (Sl.mk false [(Op.mk true ⟨#[97]⟩ 1 1 0), (Op.mk false ⟨#[97]⟩ 0 3 4), (Op.mk false ⟨#[]⟩ 0 5 6)])).2.2) == 0)))) ?_
       refine rvc_case 64 (((order (Sl.mk false [(Op.mk true ⟨#[97]⟩ 1 1 0), (Op.mk false ⟨#[97]⟩ 0 3 4), (Op.mk false ⟨#[]⟩ 0 5 6)])).2.2) == 0) rfl (fun h7 => ?_) (fun h7 => ?_)
       ·
        replace hR := of_true h7 hR
        refine rvO C (.agg [.pv (.lit (.bool false)), .pv (.lit (.string ⟨#[]⟩)), .pv (.lit (.int .i64 0)), .pv (.lit (.int .i64 0)), .pv (.lit (.int .i64 0))]) ?_
        refine rvc_open rfl rfl rfl (rexec_buildSliceF C eOp [(Op.mk false ⟨#[]⟩ 0 0 0)] rfl rfl rfl rfl rfl rfl rfl (by decide) rfl ?_)
        refine rvc_open rfl rfl rfl (rexec_call hP C rfl rfl rfl (rightL_calls (Sl.mk false [(Op.mk false ⟨#[]⟩ 0 0 0)]) (of_decide_eq_true (by kernel_rfl))) ?_)
        refine rvO C (.pv (.lit (.bool ((rightL (Sl.mk false [(Op.mk false ⟨#[]⟩ 0 0 0)])) == 70)))) ?_
        refine rvP C (.pv (.lit (.bool ((rightL (Sl.mk false [(Op.mk false ⟨#[]⟩ 0 0 0)])) == 70)))) ?_
        refine rvP C (.pv (.lit (.bool ((rightL (Sl.mk false [(Op.mk false ⟨#[]⟩ 0 0 0)])) == 70)))) ?_
        refine rvc_nil ?_
        refine Awp.ret ?_
        subst hR
        exact ⟨.inl rfl, rfl⟩
       ·
        replace hR := of_false h7 hR
        refine rvS ?_
        refine rvS ?_
        refine rvS ?_
        refine rvS ?_
        refine rvP C (.pv (.lit (.bool false))) ?_
        refine rvP C (.pv (.lit (.bool false))) ?_
        refine rvc_nil ?_
        refine Awp.ret ?_
        subst hR
        exact ⟨.inl rfl, rfl⟩
      ·
       replace hR := of_false h6 hR
       refine rvS ?_
       refine rvS ?_
       refine rvP C (.pv (.lit (.bool false))) ?_
       refine rvP C (.pv (.lit (.bool false))) ?_
       refine rvS ?_
       refine rvS ?_
       refine rvS ?_
       refine rvS ?_
       refine rvP C (.pv (.lit (.bool false))) ?_
       refine rvP C (.pv (.lit (.bool false))) ?_
       refine rvc_nil ?_
       refine Awp.ret ?_
       subst hR
       exact ⟨.inl rfl, rfl⟩
     ·
      replace hR := of_false h5 hR
      refine rvS ?_
      refine rvS ?_
      refine rvP C (.pv (.lit (.bool false))) ?_
      refine rvP C (.pv (.lit (.bool false))) ?_
      refine rvS ?_
      refine rvS ?_
      refine rvP C (.pv (.lit (.bool false))) ?_
      refine rvP C (.pv (.lit (.bool false))) ?_
      refine rvS ?_
      refine rvS ?_
      refine rvS ?_
      refine rvS ?_
      refine rvP C (.pv (.lit (.bool false))) ?_
      refine rvP C (.pv (.lit (.bool false))) ?_
      refine rvc_nil ?_
      refine Awp.ret ?_
      subst hR
      exact ⟨.inl rfl, rfl⟩
    ·
     replace hR := of_false h4 hR
     refine rvS ?_
     refine rvS ?_
     refine rvP C (.pv (.lit (.bool false))) ?_
     refine rvP C (.pv (.lit (.bool false))) ?_
     refine rvS ?_
     refine rvS ?_
     refine rvP C (.pv (.lit (.bool false))) ?_
     refine rvP C (.pv (.lit (.bool false))) ?_
     refine rvS ?_
     refine rvS ?_
     refine rvP C (.pv (.lit (.bool false))) ?_
     refine rvP C (.pv (.lit (.bool false))) ?_
     refine rvS ?_
     refine rvS ?_
     refine rvS ?_
     refine rvS ?_
     refine rvP C (.pv (.lit (.bool false))) ?_
     refine rvP C (.pv (.lit (.bool false))) ?_
     refine rvc_nil ?_
     refine Awp.ret ?_
     subst hR
     exact ⟨.inl rfl, rfl⟩
   ·
    replace hR := of_false h3 hR
    refine rvS ?_
    refine rvS ?_
    refine rvP C (.pv (.lit (.bool false))) ?_
    refine rvP C (.pv (.lit (.bool false))) ?_
    refine rvS ?_
    refine rvS ?_
    refine rvP C (.pv (.lit (.bool false))) ?_
    refine rvP C (.pv (.lit (.bool false))) ?_
    refine rvS ?_
    refine rvS ?_
    refine rvP C (.pv (.lit (.bool false))) ?_
    refine rvP C (.pv (.lit (.bool false))) ?_
    refine rvS ?_
    refine rvS ?_
    refine rvP C (.pv (.lit (.bool false))) ?_
    refine rvP C (.pv (.lit (.bool false))) ?_
    refine rvS ?_
    refine rvS ?_
    refine rvS ?_
    refine rvS ?_
    refine rvP C (.pv (.lit (.bool false))) ?_
    refine rvP C (.pv (.lit (.bool false))) ?_
    refine rvc_nil ?_
    refine Awp.ret ?_
    subst hR
    exact ⟨.inl rfl, rfl⟩
  ·
   replace hR := of_false h2 hR
   refine rvS ?_
   refine rvS ?_
   refine rvS ?_
   refine rvP C (.pv (.lit (.bool false))) ?_
   refine rvP C (.pv (.lit (.bool false))) ?_
   refine rvS ?_
   refine rvS ?_
   refine rvP C (.pv (.lit (.bool false))) ?_
   refine rvP C (.pv (.lit (.bool false))) ?_
   refine rvS ?_
   refine rvS ?_
   refine rvP C (.pv (.lit (.bool false))) ?_
   refine rvP C (.pv (.lit (.bool false))) ?_
   refine rvS ?_
   refine rvS ?_
   refine rvP C (.pv (.lit (.bool false))) ?_
   refine rvP C (.pv (.lit (.bool false))) ?_
   refine rvS ?_
   refine rvS ?_
   refine rvP C (.pv (.lit (.bool false))) ?_
   refine rvP C (.pv (.lit (.bool false))) ?_
   refine rvS ?_
   refine rvS ?_
   refine rvS ?_
   refine rvS ?_
   refine rvP C (.pv (.lit (.bool false))) ?_
   refine rvP C (.pv (.lit (.bool false))) ?_
   refine rvc_nil ?_
   refine Awp.ret ?_
   subst hR
   exact ⟨.inl rfl, rfl⟩
 ·
  replace hR := of_false h1 hR
  refine rvS ?_
  refine rvS ?_
  refine rvP C (.pv (.lit (.bool false))) ?_
  refine rvP C (.pv (.lit (.bool false))) ?_
  refine rvS ?_
  refine rvS ?_
  refine rvS ?_
  refine rvP C (.pv (.lit (.bool false))) ?_
  refine rvP C (.pv (.lit (.bool false))) ?_
  refine rvS ?_
  refine rvS ?_
  refine rvP C (.pv (.lit (.bool false))) ?_
  refine rvP C (.pv (.lit (.bool false))) ?_
  refine rvS ?_
  refine rvS ?_
  refine rvP C (.pv (.lit (.bool false))) ?_
  refine rvP C (.pv (.lit (.bool false))) ?_
  refine rvS ?_
  refine rvS ?_
  refine rvP C (.pv (.lit (.bool false))) ?_
  refine rvP C (.pv (.lit (.bool false))) ?_
  refine rvS ?_
  refine rvS ?_
  refine rvP C (.pv (.lit (.bool false))) ?_
  refine rvP C (.pv (.lit (.bool false))) ?_
  refine rvS ?_
  refine rvS ?_
  refine rvS ?_
  refine rvS ?_
  refine rvP C (.pv (.lit (.bool false))) ?_
  refine rvP C (.pv (.lit (.bool false))) ?_
  refine rvc_nil ?_
  refine Awp.ret ?_
  subst hR
  exact ⟨.inl rfl, rfl⟩
end Go.Proofs.Ytaoagcdljmpllaa
/- The laws. No conditions. -/
namespace Go.Proofs.Ytaoagcdljmpllaa
open Go.Am
def lawRight (l : (Sl Op)) : Bool :=
  (bif (decide ((l.D.length : Int) > 60)) then (awakeL ) else (bif ((rightL l) == (refRight l)) then (awakeL ) else false))
theorem lawRight_calls (l : (Sl Op)) (hl1 : l.D.length ≤ 9223372036854775807) : PCalls Try.prog 8 [sS (some l.nil) eOp l.D] (.pv (.lit (.bool (lawRight l)))) := by
 generalize hR : lawRight l = R
 refine PCalls.of_body tabOk Try.func8 rfl rfl rfl rfl rfl mixed fun E hP C hI => ?_
 refine Awp.consP C ?_
 refine rvP C (.pv (.lit (.bool false))) ?_
 refine rvc_nil ?_
 refine Awp.consP C ?_
 refine rvP C (sS (some l.nil) eOp l.D) ?_
 refine rvP C (.pv (.lit (.int .i64 (l.D.length : Int)))) ?_
 refine rvP C (.pv (.lit (.bool (decide ((l.D.length : Int) > 60))))) ?_
 refine rvP C (.pv (.lit (.bool (decide ((l.D.length : Int) > 60))))) ?_
 refine rvc_case 6 (decide ((l.D.length : Int) > 60)) rfl (fun h1 => ?_) (fun h1 => ?_)
 ·
  replace hR := of_true h1 hR
  refine rvS ?_
  refine rvS ?_
  refine rvS ?_
  refine rvS ?_
  refine rvS ?_
  refine rvP C (.pv (.lit (.bool true))) ?_
  refine rvP C (.pv (.lit (.bool true))) ?_
  refine rvc_open rfl rfl rfl (rexec_call hP C rfl rfl rfl (awakeL_calls ) ?_)
  refine rvP C (.pv (.lit (.bool (awakeL )))) ?_
  refine rvP C (.pv (.lit (.bool (awakeL )))) ?_
  refine rvc_nil ?_
  refine Awp.ret ?_
  subst hR
  exact ⟨.inl rfl, rfl⟩
 ·
  replace hR := of_false h1 hR
  refine rvO C (sS (some l.nil) eOp l.D) ?_
  refine rvc_open rfl rfl rfl (rexec_call hP C rfl rfl rfl (rightL_calls l hl1) ?_)
  refine rvO C (sS (some l.nil) eOp l.D) ?_
  refine rvc_open rfl rfl rfl (rexec_call hP C rfl rfl rfl (refRight_calls l hl1) ?_)
  refine rvO C (.pv (.lit (.bool ((rightL l) == (refRight l))))) ?_
  refine rvP C (.pv (.lit (.bool ((rightL l) == (refRight l))))) ?_
  refine rvP C (.pv (.lit (.bool ((rightL l) == (refRight l))))) ?_
  refine rvc_case 13 ((rightL l) == (refRight l)) rfl (fun h2 => ?_) (fun h2 => ?_)
  ·
   replace hR := of_true h2 hR
   refine rvc_open rfl rfl rfl (rexec_call hP C rfl rfl rfl (awakeL_calls ) ?_)
   refine rvP C (.pv (.lit (.bool (awakeL )))) ?_
   refine rvP C (.pv (.lit (.bool (awakeL )))) ?_
   refine rvc_nil ?_
   refine Awp.ret ?_
   subst hR
   exact ⟨.inl rfl, rfl⟩
  ·
   replace hR := of_false h2 hR
   refine rvS ?_
   refine rvP C (.pv (.lit (.bool false))) ?_
   refine rvP C (.pv (.lit (.bool false))) ?_
   refine rvc_nil ?_
   refine Awp.ret ?_
   subst hR
   exact ⟨.inl rfl, rfl⟩
end Go.Proofs.Ytaoagcdljmpllaa
/- The examples go through; what may be. No conditions. -/
namespace Go.Proofs.Ytaoagcdljmpllaa
open Go.Am
theorem awakeL_true : awakeL = true := by kernel_rfl
theorem right_l : ∀ (l : List Op) (i : Nat), rightL_l0 l i = refRight_l0 l i
  | [], _ => rfl
  | x :: xs, i => by
    unfold rightL_l0 refRight_l0
    rw [right_l xs (i + 1)]
    by_cases h1 : x.began < 1
    · rw [decide_eq_true h1]; rfl
    · rw [decide_eq_false h1]
      simp only [cond_false]
      rcases Int.lt_trichotomy x.ended 0 with h | h | h
      · have e1 : (x.ended != 0) = true := by simp; omega
        rw [e1, decide_eq_true (p := x.ended ≤ x.began) (by omega), decide_eq_true h]; rfl
      · have e1 : (x.ended != 0) = false := by rw [h]; rfl
        rw [e1, decide_eq_false (p := x.ended < 0) (by omega), decide_eq_false (p := x.ended > 0) (by omega)]; rfl
      · have e1 : (x.ended != 0) = true := by simp; omega
        rw [e1, decide_eq_false (p := x.ended < 0) (by omega), decide_eq_true (p := x.ended > 0) (by omega)]; rfl
theorem right_eq (l : Sl Op) : rightL l = refRight l := by unfold rightL refRight; rw [right_l]
theorem lawRight_true (l : Sl Op) : lawRight l = true := by
  unfold lawRight
  rw [right_eq, awakeL_true]
  cases decide ((l.D.length : Int) > 60) <;> simp
end Go.Proofs.Ytaoagcdljmpllaa
/- Inputs of chapter 07, as plain values. No conditions. -/
namespace Go.Proofs.Ytaoagcdljmpllaa
open Go.Am
set_option maxRecDepth 100000 in
theorem flat4 {m : Nat} {ps : List PV} (h : Flat Try.prog (m + 1) 4 ps) : ∃ b, ps = [.lit (.bool b)] ∧ True := by
  unfold Flat at h
  rw [Try.underlying4] at h
  obtain ⟨b, h⟩ := h
  exact ⟨b, h, trivial⟩
set_option maxRecDepth 100000 in
theorem flat9 {m : Nat} {ps : List PV} (h : Flat Try.prog (m + 1) 9 ps) : ∃ s, ps = [.lit (.string s)] ∧ s.size ≤ maxLen := by
  unfold Flat at h
  rw [Try.underlying9] at h
  exact h
set_option maxRecDepth 100000 in
theorem flat3 {m : Nat} {ps : List PV} (h : Flat Try.prog (m + 1) 3 ps) : ∃ n, ps = [.lit (.int .i64 n)] ∧ (Lit.int .i64 n).wf = true := by
  unfold Flat at h
  rw [Try.underlying3] at h
  exact h
def WT47 (x : Op) : Prop := True ∧ x.value.size ≤ maxLen ∧ (Lit.int .i64 x.ver).wf = true ∧ (Lit.int .i64 x.began).wf = true ∧ (Lit.int .i64 x.ended).wf = true
set_option maxRecDepth 100000 in
theorem flat47 {m : Nat} {ps : List PV} (h : Flat Try.prog (m + 2) 47 ps) : ∃ x : Op, ps = eOp.enc x ∧ WT47 x := by
  unfold Flat at h
  rw [Try.underlying47] at h
  obtain ⟨a0, b0, e0, h0, a1, b1, e1, h1, a2, b2, e2, h2, a3, b3, e3, h3, a4, b4, e4, h4, el⟩ := h
  obtain ⟨x0, rfl, w0⟩ := flat4 (m := m + 0) h0
  obtain ⟨x1, rfl, w1⟩ := flat9 (m := m + 0) h1
  obtain ⟨x2, rfl, w2⟩ := flat3 (m := m + 0) h2
  obtain ⟨x3, rfl, w3⟩ := flat3 (m := m + 0) h3
  obtain ⟨x4, rfl, w4⟩ := flat3 (m := m + 0) h4
  subst el
  subst e4
  subst e3
  subst e2
  subst e1
  subst e0
  exact ⟨⟨x0, x1, x2, x3, x4⟩, rfl, w0, w1, w2, w3, w4⟩
def WT40 (s : Sl Op) : Prop := s.D.length ≤ maxLen ∧ (s.nil = true → s.D = []) ∧ ∀ x ∈ s.D, WT47 x
set_option maxRecDepth 100000 in
theorem flat40 {m : Nat} {ps : List PV} (h : Flat Try.prog (m + 3) 40 ps) : ∃ s : Sl Op, ps = [.sl (some s.nil) s.D.length (encL eOp s.D)] ∧ WT40 s := by
  unfold Flat at h
  rw [Try.underlying40] at h
  obtain ⟨b, D, rfl, h1, h2, h3⟩ := h
  obtain ⟨D2, e1, e2, e3⟩ := enc_list (e := eOp) (W := fun x => WT47 x) D fun y hy => flat47 (h3 y hy)
  rw [e2, ← e1]
  exact ⟨⟨b, D2⟩, rfl, (by show D2.length ≤ _; rw [e1]; exact h1), (fun hb => by have := h2 hb; rw [this] at e1; exact List.eq_nil_of_length_eq_zero e1), e3⟩
end Go.Proofs.Ytaoagcdljmpllaa
/- LinRight: its contract. No conditions. -/
namespace Go.Proofs.Ytaoagcdljmpllaa
open Go.Am
theorem linRight_calls (l : Sl Op) (w : WT40 l) : PCalls Try.prog 8 [sS (some l.nil) eOp l.D] (.pv (.bool true)) := by
  have r := lawRight_calls l (Nat.le_trans w.1 (by decide))
  rw [lawRight_true l] at r
  exact r
end Go.Proofs.Ytaoagcdljmpllaa
/- An abstract machine over the kit's calls, part 34: three rows of three numbers that are handed in. No conditions. -/
namespace Go.Am
section
variable {H : Type} {enc : TypeId × Value → H} {P : Program} {w : World} {base : Nat} {spare : Nat → Bool} {held : Bool}
end
end Go.Am
/- What all rows of this seat need: no knob is turned, the types are laid out. No conditions. -/
namespace Go.Proofs.Ytaoagcdljmpllaa
open Go.Am
theorem own : ownKnob Try.prog.godebug = none := by kernel_rfl
theorem laidOut : laidOutB Try.prog = true := by kernel_rfl
end Go.Proofs.Ytaoagcdljmpllaa
