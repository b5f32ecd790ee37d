import Derived.Test.YtaoagcdljmpllaaM1
import Derived.Test.YtaoagcdljmpllaaM2
import Derived.Test.YtaoagcdljmpllaaM3
/- A search from a point, with no row as yet. No conditions. -/
namespace Go.Proofs.Ytaoagcdljmpllaa
open Go.Am
def fromN_l0B (s : Search) (p : Point) : List Op → Nat → (List Int) → (List (Point × Bool)) → Search × Bool
  | [], _, vc, vc1 => ((Search.mk s.l vc1 (Sl.mk false vc)), false)
  | x :: xs, i, vc, vc1 => (bif (mHas p.done (i : Int)) then fromN_l0B s p xs (i + 1) vc vc1 else (bif (!x.write) then (bif (x.ended == 0) then fromN_l0B s p xs (i + 1) vc vc1 else (bif (!(x.value.toList == p.value.toList)) then fromN_l0B s p xs (i + 1) vc vc1 else (bif (!(firstSO (Search.mk s.l vc1 (Sl.mk false vc)) (i : Int) p.done)) then fromN_l0B s p xs (i + 1) vc vc1 else (bif x.write then (bif (fromO 65 (Search.mk s.l vc1 (Sl.mk false (vc ++ [(i : Int)]))) (Point.mk (mWith p.done (i : Int)) x.value)).2 then ((Search.mk s.l (fromO 65 (Search.mk s.l vc1 (Sl.mk false (vc ++ [(i : Int)]))) (Point.mk (mWith p.done (i : Int)) x.value)).1.been (Sl.mk false (fromO 65 (Search.mk s.l vc1 (Sl.mk false (vc ++ [(i : Int)]))) (Point.mk (mWith p.done (i : Int)) x.value)).1.row.D)), true) else fromN_l0B s p xs (i + 1) ((fromO 65 (Search.mk s.l vc1 (Sl.mk false (vc ++ [(i : Int)]))) (Point.mk (mWith p.done (i : Int)) x.value)).1.row.D.dropLast) (fromO 65 (Search.mk s.l vc1 (Sl.mk false (vc ++ [(i : Int)]))) (Point.mk (mWith p.done (i : Int)) x.value)).1.been) else (bif (fromO 65 (Search.mk s.l vc1 (Sl.mk false (vc ++ [(i : Int)]))) (Point.mk (mWith p.done (i : Int)) p.value)).2 then ((Search.mk s.l (fromO 65 (Search.mk s.l vc1 (Sl.mk false (vc ++ [(i : Int)]))) (Point.mk (mWith p.done (i : Int)) p.value)).1.been (Sl.mk false (fromO 65 (Search.mk s.l vc1 (Sl.mk false (vc ++ [(i : Int)]))) (Point.mk (mWith p.done (i : Int)) p.value)).1.row.D)), true) else fromN_l0B s p xs (i + 1) ((fromO 65 (Search.mk s.l vc1 (Sl.mk false (vc ++ [(i : Int)]))) (Point.mk (mWith p.done (i : Int)) p.value)).1.row.D.dropLast) (fromO 65 (Search.mk s.l vc1 (Sl.mk false (vc ++ [(i : Int)]))) (Point.mk (mWith p.done (i : Int)) p.value)).1.been))))) else (bif (!(firstSO (Search.mk s.l vc1 (Sl.mk false vc)) (i : Int) p.done)) then fromN_l0B s p xs (i + 1) vc vc1 else (bif x.write then (bif (fromO 65 (Search.mk s.l vc1 (Sl.mk false (vc ++ [(i : Int)]))) (Point.mk (mWith p.done (i : Int)) x.value)).2 then ((Search.mk s.l (fromO 65 (Search.mk s.l vc1 (Sl.mk false (vc ++ [(i : Int)]))) (Point.mk (mWith p.done (i : Int)) x.value)).1.been (Sl.mk false (fromO 65 (Search.mk s.l vc1 (Sl.mk false (vc ++ [(i : Int)]))) (Point.mk (mWith p.done (i : Int)) x.value)).1.row.D)), true) else fromN_l0B s p xs (i + 1) ((fromO 65 (Search.mk s.l vc1 (Sl.mk false (vc ++ [(i : Int)]))) (Point.mk (mWith p.done (i : Int)) x.value)).1.row.D.dropLast) (fromO 65 (Search.mk s.l vc1 (Sl.mk false (vc ++ [(i : Int)]))) (Point.mk (mWith p.done (i : Int)) x.value)).1.been) else (bif (fromO 65 (Search.mk s.l vc1 (Sl.mk false (vc ++ [(i : Int)]))) (Point.mk (mWith p.done (i : Int)) p.value)).2 then ((Search.mk s.l (fromO 65 (Search.mk s.l vc1 (Sl.mk false (vc ++ [(i : Int)]))) (Point.mk (mWith p.done (i : Int)) p.value)).1.been (Sl.mk false (fromO 65 (Search.mk s.l vc1 (Sl.mk false (vc ++ [(i : Int)]))) (Point.mk (mWith p.done (i : Int)) p.value)).1.row.D)), true) else fromN_l0B s p xs (i + 1) ((fromO 65 (Search.mk s.l vc1 (Sl.mk false (vc ++ [(i : Int)]))) (Point.mk (mWith p.done (i : Int)) p.value)).1.row.D.dropLast) (fromO 65 (Search.mk s.l vc1 (Sl.mk false (vc ++ [(i : Int)]))) (Point.mk (mWith p.done (i : Int)) p.value)).1.been)))))
def fromN_l0 (s : Search) (p : Point) : List Op → Nat → Search × Bool
  | [], _ => ((Search.mk s.l (mSet kPoint p true s.been) (Sl.mk true [])), false)
  | x1 :: x1s, i => (bif (mHas p.done (i : Int)) then fromN_l0 s p x1s (i + 1)  else (bif (!x1.write) then (bif (x1.ended == 0) then fromN_l0 s p x1s (i + 1)  else (bif (!(x1.value.toList == p.value.toList)) then fromN_l0 s p x1s (i + 1)  else (bif (!(firstSN (Search.mk s.l (mSet kPoint p true s.been) (Sl.mk true [])) (i : Int) p.done)) then fromN_l0 s p x1s (i + 1)  else (bif x1.write then (bif (fromO 65 (Search.mk s.l (mSet kPoint p true s.been) (Sl.mk false [(i : Int)])) (Point.mk (mWith p.done (i : Int)) x1.value)).2 then ((Search.mk s.l (fromO 65 (Search.mk s.l (mSet kPoint p true s.been) (Sl.mk false [(i : Int)])) (Point.mk (mWith p.done (i : Int)) x1.value)).1.been (Sl.mk false (fromO 65 (Search.mk s.l (mSet kPoint p true s.been) (Sl.mk false [(i : Int)])) (Point.mk (mWith p.done (i : Int)) x1.value)).1.row.D)), true) else fromN_l0B s p x1s (i + 1) ((fromO 65 (Search.mk s.l (mSet kPoint p true s.been) (Sl.mk false [(i : Int)])) (Point.mk (mWith p.done (i : Int)) x1.value)).1.row.D.dropLast) (fromO 65 (Search.mk s.l (mSet kPoint p true s.been) (Sl.mk false [(i : Int)])) (Point.mk (mWith p.done (i : Int)) x1.value)).1.been) else (bif (fromO 65 (Search.mk s.l (mSet kPoint p true s.been) (Sl.mk false [(i : Int)])) (Point.mk (mWith p.done (i : Int)) p.value)).2 then ((Search.mk s.l (fromO 65 (Search.mk s.l (mSet kPoint p true s.been) (Sl.mk false [(i : Int)])) (Point.mk (mWith p.done (i : Int)) p.value)).1.been (Sl.mk false (fromO 65 (Search.mk s.l (mSet kPoint p true s.been) (Sl.mk false [(i : Int)])) (Point.mk (mWith p.done (i : Int)) p.value)).1.row.D)), true) else fromN_l0B s p x1s (i + 1) ((fromO 65 (Search.mk s.l (mSet kPoint p true s.been) (Sl.mk false [(i : Int)])) (Point.mk (mWith p.done (i : Int)) p.value)).1.row.D.dropLast) (fromO 65 (Search.mk s.l (mSet kPoint p true s.been) (Sl.mk false [(i : Int)])) (Point.mk (mWith p.done (i : Int)) p.value)).1.been))))) else (bif (!(firstSN (Search.mk s.l (mSet kPoint p true s.been) (Sl.mk true [])) (i : Int) p.done)) then fromN_l0 s p x1s (i + 1)  else (bif x1.write then (bif (fromO 65 (Search.mk s.l (mSet kPoint p true s.been) (Sl.mk false [(i : Int)])) (Point.mk (mWith p.done (i : Int)) x1.value)).2 then ((Search.mk s.l (fromO 65 (Search.mk s.l (mSet kPoint p true s.been) (Sl.mk false [(i : Int)])) (Point.mk (mWith p.done (i : Int)) x1.value)).1.been (Sl.mk false (fromO 65 (Search.mk s.l (mSet kPoint p true s.been) (Sl.mk false [(i : Int)])) (Point.mk (mWith p.done (i : Int)) x1.value)).1.row.D)), true) else fromN_l0B s p x1s (i + 1) ((fromO 65 (Search.mk s.l (mSet kPoint p true s.been) (Sl.mk false [(i : Int)])) (Point.mk (mWith p.done (i : Int)) x1.value)).1.row.D.dropLast) (fromO 65 (Search.mk s.l (mSet kPoint p true s.been) (Sl.mk false [(i : Int)])) (Point.mk (mWith p.done (i : Int)) x1.value)).1.been) else (bif (fromO 65 (Search.mk s.l (mSet kPoint p true s.been) (Sl.mk false [(i : Int)])) (Point.mk (mWith p.done (i : Int)) p.value)).2 then ((Search.mk s.l (fromO 65 (Search.mk s.l (mSet kPoint p true s.been) (Sl.mk false [(i : Int)])) (Point.mk (mWith p.done (i : Int)) p.value)).1.been (Sl.mk false (fromO 65 (Search.mk s.l (mSet kPoint p true s.been) (Sl.mk false [(i : Int)])) (Point.mk (mWith p.done (i : Int)) p.value)).1.row.D)), true) else fromN_l0B s p x1s (i + 1) ((fromO 65 (Search.mk s.l (mSet kPoint p true s.been) (Sl.mk false [(i : Int)])) (Point.mk (mWith p.done (i : Int)) p.value)).1.row.D.dropLast) (fromO 65 (Search.mk s.l (mSet kPoint p true s.been) (Sl.mk false [(i : Int)])) (Point.mk (mWith p.done (i : Int)) p.value)).1.been)))))
def fromN (s : Search) (p : Point) : Search × Bool :=
  (bif (allSN (Search.mk s.l s.been (Sl.mk true [])) p.done) then ((Search.mk s.l s.been (Sl.mk true [])), true) else (bif ((mGet kPoint p s.been).getD false) then ((Search.mk s.l s.been (Sl.mk true [])), false) else fromN_l0 s p s.l.D 0 ))
set_option maxRecDepth 20000 in
theorem fromN_calls (s : Search) (p : Point) (hl64 : s.l.D.length ≤ 64) (hd : okD p.done) (hl1 : s.l.D.length ≤ 9223372036854775807) : ObjCalls Try.prog 46 [.ptr 0 0, .agg [.pv (.lit (.int .u64 p.done)), .pv (.lit (.string p.value))]] [sS (some s.l.nil) eOp s.l.D, .mp 1, sS (some true) (eI .i64) []] [(1, mapE kPoint vBool.enc s.been)] (.pv (.lit (.bool ((fromN s p).2)))) [sS (some s.l.nil) eOp s.l.D, .mp 1, sS (some (fromN s p).1.row.nil) (eI .i64) ((fromN s p).1.row.D)] [(1, mapE kPoint vBool.enc ((fromN s p).1.been))] := by
 generalize hR : fromN s p = R
 refine ObjCalls.of_body tabOk Try.func46 rfl rfl rfl rfl rfl (allB_cons (mapE_within _ _) allB_nil) (of_decide_eq_true rfl) rfl rfl (allB_cons (mapE_within _ _) allB_nil) (of_decide_eq_true rfl) mixed fun E hP C hI => ?_
 refine Awp.consP C ?_
 refine rvc_un (rexec_prim C (δ := { v := .ptr 3 0, new := [(3, .cells [.pv (.lit (.int .u64 p.done)), .pv (.lit (.string p.value))])] }) rfl rfl rfl rfl trivial rfl ?_)
 refine rvP C (.pv (.lit (.bool false))) ?_
 refine rvc_nil ?_
 refine Awp.seq ?_
 refine Awp.cons C (fun _ => .writer) (by kernel_rfl) ?_
 refine rvP C (.ptr 0 0) ?_
 refine rvP C (.ptr 3 0) ?_
 refine rvP C (.pv (.lit (.int .u64 p.done))) ?_
 refine rvc_un (rexec_callObj hP C (fun b => bif b == 0 then 0 else bif b == 1 then 1 else b) [] rfl rfl rfl (allSN_calls (Search.mk s.l s.been (Sl.mk true [])) p.done hl1) rfl rfl ⟨rfl, trivial⟩ (of_decide_eq_true rfl) rfl (of_decide_eq_true rfl) (of_decide_eq_true rfl) allB_nil allB_nil (allB_cons rfl allB_nil) ?_ rfl (allB_cons rfl allB_nil))
 refine rvc_nil ?_
 refine Awp.cond (b := (allSN (Search.mk s.l s.been (Sl.mk true [])) p.done)) rfl (fun h1 => ?_) (fun h1 => ?_)
 ·
  replace hR := of_true h1 hR
  refine Awp.consP C ?_
  refine rvP C (.pv (.lit (.bool true))) ?_
  refine rvc_nil ?_
  refine Awp.ret ?_
  subst hR
  exact ⟨.inl rfl, rfl, rfl, ⟨rfl, trivial⟩⟩
 ·
  replace hR := of_false h1 hR
  refine Awp.skip ?_
  refine Awp.seq ?_
  refine Awp.consP C ?_
  refine rvP C (.ptr 0 0) ?_
  refine rvP C (.ptr 0 0) ?_
  refine rvP C (.ptr 0 1) ?_
  refine rvP C (.mp 1) ?_
  refine rvP C (.agg [.pv (.lit (.int .u64 p.done)), .pv (.lit (.string p.value))]) ?_
  refine rvc_un (rexec_lookup hP C rfl p false rfl rfl rfl rfl rfl rfl kPoint_ok rfl (.pv (.lit (.bool ((mGet kPoint p s.been).getD false)))) rfl ?_)
  refine rvc_nil ?_
  refine Awp.cond (b := ((mGet kPoint p s.been).getD false)) rfl (fun h2 => ?_) (fun h2 => ?_)
  ·
   replace hR := of_true h2 hR
   refine Awp.consP C ?_
   refine rvP C (.pv (.lit (.bool false))) ?_
   refine rvc_nil ?_
   refine Awp.ret ?_
   subst hR
   exact ⟨.inl rfl, rfl, rfl, ⟨rfl, trivial⟩⟩
  ·
   replace hR := of_false h2 hR
   refine Awp.skip ?_
   refine Awp.consP C ?_
   refine rvP C (.ptr 0 0) ?_
   refine rvP C (.ptr 0 0) ?_
   refine rvP C (.ptr 0 1) ?_
   refine rvP C (.mp 1) ?_
   refine rvP C (.agg [.pv (.lit (.int .u64 p.done)), .pv (.lit (.string p.value))]) ?_
   refine rvc_un (rexec_mapUpdate hP C p true rfl rfl rfl rfl rfl rfl kPoint_ok ?_)
   refine rvc_nil ?_
   refine Awp.seq ?_
   refine Awp.consP C ?_
   refine rvP C (.ptr 0 0) ?_
   refine rvP C (.ptr 0 0) ?_
   refine rvP C (.ptr 0 0) ?_
   refine rvP C (sS (some s.l.nil) eOp s.l.D) ?_
   refine rvP C (.pv (.lit (.int .i64 (s.l.D.length : Int)))) ?_
   refine rvP C (.pv (.lit (.int .i64 0))) ?_
   refine rvc_nil ?_
   refine Awp.block ?_
   refine Awp.forR2 (σA := Unit) (σB := ((List Int)) × ((List (Point × Bool)))) (s.l.D.length) (fun i v => [(0, .ptr 0 0), (3, .ptr 3 0), (26, sS (some s.l.nil) eOp s.l.D), (27, .pv (.lit (.int .i64 (s.l.D.length : Int)))), (28, .pv (.lit (.int .i64 (i : Int))))]) (fun i v => [(0, .ptr 0 0), (3, .ptr 3 0), (26, sS (some s.l.nil) eOp s.l.D), (27, .pv (.lit (.int .i64 (s.l.D.length : Int)))), (28, .pv (.lit (.int .i64 (i : Int))))]) (fun i v => [(0, .cells [sS (some s.l.nil) eOp s.l.D, .mp 1, sS (some true) (eI .i64) []]), (1, mapE kPoint vBool.enc (mSet kPoint p true s.been)), (3, .cells [.pv (.lit (.int .u64 p.done)), .pv (.lit (.string p.value))])]) (fun i v => [(0, .cells [sS (some s.l.nil) eOp s.l.D, .mp 1, .sl 900 0 v.1.length 1 false]), (1, mapE kPoint vBool.enc v.2), (3, .cells [.pv (.lit (.int .u64 p.done)), .pv (.lit (.string p.value))]), (900, .cells (encC (eI .i64) v.1))]) [0, 1, 3, 900] (fun i v => fromN_l0 s p (s.l.D.drop i) i  = R) (fun i v => (fromN_l0B s p (s.l.D.drop i) i v.1 v.2 = R) ∧ (v.1.length = 0)) () ?_ ?_ (fun i v h19 hR => ?_) (fun i v h3 hR => ?_)
   · exact hR
   · exact ⟨fun b => b, WeakerR.ofLI (I := [0, 1]) (Ks := [0, 1, 3]) hI ⟨⟨rfl, rfl⟩, ⟨rfl, rfl⟩, ⟨rfl, rfl⟩, ⟨rfl, rfl⟩, ⟨rfl, rfl⟩, trivial⟩ (okH_cons rfl rfl rfl rfl (okH_map rfl rfl rfl (okH_cons rfl rfl rfl rfl (okH_nil)))) rfl rfl⟩
   ·
    refine Awp.consP C ?_
    refine rvP C (.pv (.lit (.bool (decide ((i : Int) < (s.l.D.length : Int)))))) ?_
    refine rvc_nil ?_
    refine Awp.seq ?_
    refine Awp.cond (b := (decide ((i : Int) < (s.l.D.length : Int)))) rfl (fun h20 => ?_) (fun h20 => ?_)
    ·
     have h21 : i < s.l.D.length := by have := of_decide_eq_true h20; omega
     obtain ⟨x1, h22⟩ := getX h21
     rw [drop_at h22] at hR
     refine Awp.skip ?_
     refine Awp.seq ?_
     refine Awp.block ?_
     refine Awp.consP C ?_
     refine rvP C (.pv (.lit (.int .i64 (i : Int)))) ?_
     refine rvc_un (rexec_idxS C rfl rfl rfl rfl rfl rfl x1 (Int.natCast_nonneg _) h22 ?_)
     refine rvP C (.agg [.pv (.lit (.bool x1.write)), .pv (.lit (.string x1.value)), .pv (.lit (.int .i64 x1.ver)), .pv (.lit (.int .i64 x1.began)), .pv (.lit (.int .i64 x1.ended))]) ?_
     refine rvc_un (rexec_prim C (δ := { v := .ptr 6 0, new := [(6, .cells [.pv (.lit (.bool false)), .pv (.lit (.string ⟨#[]⟩)), .pv (.lit (.int .i64 0)), .pv (.lit (.int .i64 0)), .pv (.lit (.int .i64 0))])] }) rfl rfl rfl rfl trivial rfl ?_)
     refine rvP C (.pv (.lit (.int .i64 (i : Int)))) ?_
     refine rvc_un (rexec_prim C (δ := { v := .undef, wr := [(6, some (.cells [.pv (.lit (.bool x1.write)), .pv (.lit (.string x1.value)), .pv (.lit (.int .i64 x1.ver)), .pv (.lit (.int .i64 x1.began)), .pv (.lit (.int .i64 x1.ended))]))] }) rfl rfl rfl rfl trivial rfl ?_)
     refine rvc_nil ?_
     refine Awp.seq ?_
     refine Awp.cons C (fun _ => .writer) (by kernel_rfl) ?_
     refine rvP C (.ptr 3 0) ?_
     refine rvP C (.pv (.lit (.int .u64 p.done))) ?_
     refine rvP C (.pv (.lit (.int .i64 (i : Int)))) ?_
     refine rvc_un (rexec_call hP C rfl rfl rfl (mHas_calls p.done (i : Int)) ?_)
     refine rvP C (.pv (.lit (.bool (mHas p.done (i : Int))))) ?_
     refine rvc_case 37 (mHas p.done (i : Int)) rfl (fun h23 => ?_) (fun h23 => ?_)
     ·
      replace hR := of_true h23 hR
      refine rvS ?_
      refine rvS ?_
      refine rvS ?_
      refine rvS ?_
      refine rvc_shutU rfl rfl rfl ?_
      refine rvc_shutU rfl rfl rfl ?_
      refine rvc_shutU rfl rfl rfl ?_
      refine rvc_shutU rfl rfl rfl ?_
      refine rvc_shutU rfl rfl rfl ?_
      refine rvc_shutU rfl rfl rfl ?_
      refine rvc_shutU rfl rfl rfl ?_
      refine rvc_shutU rfl rfl rfl ?_
      refine rvc_shutU rfl rfl rfl ?_
      refine rvc_shutU rfl rfl rfl ?_
      refine rvS ?_
      refine rvP C (.pv (.lit (.bool true))) ?_
      refine rvP C (.pv (.lit (.bool true))) ?_
      refine rvS ?_
      refine rvS ?_
      refine rvS ?_
      refine rvS ?_
      refine rvS ?_
      refine rvS ?_
      refine rvP C (.pv (.lit (.bool true))) ?_
      refine rvc_nil ?_
      refine Awp.condT (b := true) rfl rfl ?_
      refine Awp.exit ?_
      refine Awp.regionP C ?_
      refine rvP C (.pv (.lit (.int .i64 (IntKind.i64.wrap ((i : Int) + 1))))) ?_
      refine rvP C (.pv (.lit (.int .i64 (IntKind.i64.wrap ((i : Int) + 1))))) ?_
      refine rvc_nil ?_
      refine ⟨h21, .inl ⟨(), ?_, ?_⟩⟩
      · exact hR
      · exact ⟨fun b => b, WeakerR.ofLI (I := [0, 1]) (Ks := [0, 1, 3]) hI ⟨⟨rfl, rfl⟩, ⟨rfl, rfl⟩, ⟨rfl, rfl⟩, ⟨rfl, rfl⟩, ⟨lit_cast (wrap_i64 (by omega) (by omega)), rfl⟩, trivial⟩ (okH_cons rfl rfl rfl rfl (okH_map rfl rfl rfl (okH_cons rfl rfl rfl rfl (okH_nil)))) rfl rfl⟩
     ·
      replace hR := of_false h23 hR
      refine rvO C (.ptr 6 0) ?_
      refine rvO C (.pv (.lit (.bool x1.write))) ?_
      refine rvO C (.pv (.lit (.bool (!x1.write)))) ?_
      refine rvO C (.pv (.lit (.bool (!x1.write)))) ?_
      refine rvc_case 41 (!x1.write) rfl (fun h24 => ?_) (fun h24 => ?_)
      ·
       replace hR := of_true h24 hR
       refine rvO C (.ptr 6 4) ?_
       refine rvO C (.pv (.lit (.int .i64 x1.ended))) ?_
       refine rvO C (.pv (.lit (.bool (x1.ended == 0)))) ?_
       refine rvO C (.pv (.lit (.bool (x1.ended == 0)))) ?_
       refine rvc_case 45 (x1.ended == 0) rfl (fun h25 => ?_) (fun h25 => ?_)
       ·
        replace hR := of_true h25 hR
        refine rvS ?_
        refine rvS ?_
        refine rvS ?_
        refine rvS ?_
        refine rvS ?_
        refine rvO C (.pv (.lit (.bool true))) ?_
        refine rvO C (.pv (.lit (.bool true))) ?_
        refine rvP C (.pv (.lit (.bool true))) ?_
        refine rvP C (.pv (.lit (.bool true))) ?_
        refine rvS ?_
        refine rvS ?_
        refine rvS ?_
        refine rvS ?_
        refine rvS ?_
        refine rvS ?_
        refine rvP C (.pv (.lit (.bool true))) ?_
        refine rvc_nil ?_
        refine Awp.condT (b := true) rfl rfl ?_
        refine Awp.exit ?_
        refine Awp.regionP C ?_
        refine rvP C (.pv (.lit (.int .i64 (IntKind.i64.wrap ((i : Int) + 1))))) ?_
        refine rvP C (.pv (.lit (.int .i64 (IntKind.i64.wrap ((i : Int) + 1))))) ?_
        refine rvc_nil ?_
        refine ⟨h21, .inl ⟨(), ?_, ?_⟩⟩
        · exact hR
        · exact ⟨fun b => b, WeakerR.ofLI (I := [0, 1]) (Ks := [0, 1, 3]) hI ⟨⟨rfl, rfl⟩, ⟨rfl, rfl⟩, ⟨rfl, rfl⟩, ⟨rfl, rfl⟩, ⟨lit_cast (wrap_i64 (by omega) (by omega)), rfl⟩, trivial⟩ (okH_cons rfl rfl rfl rfl (okH_map rfl rfl rfl (okH_cons rfl rfl rfl rfl (okH_nil)))) rfl rfl⟩
       ·
        replace hR := of_false h25 hR
        refine rvO C (.ptr 6 1) ?_
        refine rvO C (.pv (.lit (.string x1.value))) ?_
        refine rvO C (.ptr 3 1) ?_
        refine rvO C (.pv (.lit (.string p.value))) ?_
        refine rvO C (.pv (.lit (.bool (!(x1.value.toList == p.value.toList))))) ?_
        refine rvO C (.pv (.lit (.bool (!(x1.value.toList == p.value.toList))))) ?_
        refine rvO C (.pv (.lit (.bool (!(x1.value.toList == p.value.toList))))) ?_
        refine rvP C (.pv (.lit (.bool (!(x1.value.toList == p.value.toList))))) ?_
        refine rvP C (.pv (.lit (.bool (!(x1.value.toList == p.value.toList))))) ?_
        refine rvc_case 54 (!(x1.value.toList == p.value.toList)) rfl (fun h26 => ?_) (fun h26 => ?_)
        ·
         replace hR := of_true h26 hR
         refine rvS ?_
         refine rvS ?_
         refine rvS ?_
         refine rvS ?_
         refine rvS ?_
         refine rvS ?_
         refine rvP C (.pv (.lit (.bool true))) ?_
         refine rvc_nil ?_
         refine Awp.condT (b := true) rfl rfl ?_
         refine Awp.exit ?_
         refine Awp.regionP C ?_
         refine rvP C (.pv (.lit (.int .i64 (IntKind.i64.wrap ((i : Int) + 1))))) ?_
         refine rvP C (.pv (.lit (.int .i64 (IntKind.i64.wrap ((i : Int) + 1))))) ?_
         refine rvc_nil ?_
         refine ⟨h21, .inl ⟨(), ?_, ?_⟩⟩
         · exact hR
         · exact ⟨fun b => b, WeakerR.ofLI (I := [0, 1]) (Ks := [0, 1, 3]) hI ⟨⟨rfl, rfl⟩, ⟨rfl, rfl⟩, ⟨rfl, rfl⟩, ⟨rfl, rfl⟩, ⟨lit_cast (wrap_i64 (by omega) (by omega)), rfl⟩, trivial⟩ (okH_cons rfl rfl rfl rfl (okH_map rfl rfl rfl (okH_cons rfl rfl rfl rfl (okH_nil)))) rfl rfl⟩
        ·
         replace hR := of_false h26 hR
         refine rvO C (.ptr 0 0) ?_
         refine rvO C (.pv (.lit (.int .i64 (i : Int)))) ?_
         refine rvO C (.ptr 3 0) ?_
         refine rvO C (.pv (.lit (.int .u64 p.done))) ?_
         refine rvc_open rfl rfl rfl (rexec_callObj hP C (fun b => bif b == 0 then 0 else bif b == 1 then 1 else b) [] rfl rfl rfl (firstSN_calls (Search.mk s.l (mSet kPoint p true s.been) (Sl.mk true [])) (i : Int) p.done ⟨by omega, by show (i : Int) < (s.l.D.length : Int); omega⟩ hl1) rfl rfl ⟨rfl, trivial⟩ (of_decide_eq_true rfl) rfl (of_decide_eq_true rfl) (of_decide_eq_true rfl) allB_nil allB_nil (allB_cons rfl allB_nil) ?_ rfl (allB_cons rfl allB_nil))
         refine rvO C (.pv (.lit (.bool (!(firstSN (Search.mk s.l (mSet kPoint p true s.been) (Sl.mk true [])) (i : Int) p.done))))) ?_
         refine rvP C (.pv (.lit (.bool (!(firstSN (Search.mk s.l (mSet kPoint p true s.been) (Sl.mk true [])) (i : Int) p.done))))) ?_
         refine rvc_nil ?_
         refine Awp.cond (b := (!(firstSN (Search.mk s.l (mSet kPoint p true s.been) (Sl.mk true [])) (i : Int) p.done))) rfl (fun h27 => ?_) (fun h27 => ?_)
         ·
          replace hR := of_true h27 hR
          refine Awp.exit ?_
          refine Awp.regionP C ?_
          refine rvP C (.pv (.lit (.int .i64 (IntKind.i64.wrap ((i : Int) + 1))))) ?_
          refine rvP C (.pv (.lit (.int .i64 (IntKind.i64.wrap ((i : Int) + 1))))) ?_
          refine rvc_nil ?_
          refine ⟨h21, .inl ⟨(), ?_, ?_⟩⟩
          · exact hR
          · exact ⟨fun b => b, WeakerR.ofLI (I := [0, 1]) (Ks := [0, 1, 3]) hI ⟨⟨rfl, rfl⟩, ⟨rfl, rfl⟩, ⟨rfl, rfl⟩, ⟨rfl, rfl⟩, ⟨lit_cast (wrap_i64 (by omega) (by omega)), rfl⟩, trivial⟩ (okH_cons rfl rfl rfl rfl (okH_map rfl rfl rfl (okH_cons rfl rfl rfl rfl (okH_nil)))) rfl rfl⟩
         ·
          replace hR := of_false h27 hR
          refine Awp.skip ?_
          refine Awp.consP C ?_
          refine rvP C (.ptr 3 0) ?_
          refine rvP C (.pv (.lit (.int .u64 p.done))) ?_
          refine rvP C (.pv (.lit (.int .i64 (i : Int)))) ?_
          refine rvc_un (rexec_call hP C rfl rfl rfl (mWith_calls p.done (i : Int)) ?_)
          refine rvP C (.ptr 3 1) ?_
          refine rvP C (.pv (.lit (.string p.value))) ?_
          refine rvP C (.agg [.pv (.lit (.int .u64 (mWith p.done (i : Int)))), .pv (.lit (.string p.value))]) ?_
          refine rvc_un (rexec_prim C (δ := { v := .ptr 7 0, new := [(7, .cells [.pv (.lit (.int .u64 0)), .pv (.lit (.string ⟨#[]⟩))])] }) rfl rfl rfl rfl trivial rfl ?_)
          refine rvc_un (rexec_prim C (δ := { v := .undef, wr := [(7, some (.cells [.pv (.lit (.int .u64 (mWith p.done (i : Int)))), .pv (.lit (.string p.value))]))] }) rfl rfl rfl rfl trivial rfl ?_)
          refine rvc_nil ?_
          refine Awp.seq ?_
          refine Awp.consP C ?_
          refine rvP C (.ptr 6 0) ?_
          refine rvP C (.pv (.lit (.bool x1.write))) ?_
          refine rvc_nil ?_
          refine Awp.cond (b := x1.write) rfl (fun h28 => ?_) (fun h28 => ?_)
          ·
           replace hR := of_true h28 hR
           refine Awp.regionP C ?_
           refine rvP C (.ptr 6 1) ?_
           refine rvP C (.pv (.lit (.string x1.value))) ?_
           refine rvP C (.ptr 7 1) ?_
           refine rvc_un (rexec_prim C (δ := { v := .undef, wr := [(7, some (.cells [.pv (.lit (.int .u64 (mWith p.done (i : Int)))), .pv (.lit (.string x1.value))]))] }) rfl rfl rfl rfl trivial rfl ?_)
           refine rvc_nil ?_
           refine Awp.consP C ?_
           refine rvP C (.ptr 0 0) ?_
           refine rvP C (.ptr 0 0) ?_
           refine rvP C (.ptr 0 0) ?_
           refine rvP C (.ptr 0 2) ?_
           refine rvP C (sS (some true) (eI .i64) []) ?_
           refine rvP C (.pv (.lit (.int .i64 (i : Int)))) ?_
           refine rvc_un (rexec_buildSliceF C (eI .i64) [(i : Int)] rfl rfl rfl rfl rfl rfl rfl (by decide) rfl ?_)
           refine rvc_un (rexec_appendN C rfl rfl rfl rfl rfl rfl rfl rfl (fun _ h => by cases h) rfl (en := (eI .i64)) (D := [(i : Int)]) rfl rfl (by simp) (by have := of_decide_eq_true h20; have := ne_of_beq_false h25; first | omega | (simp <;> omega)) (by decide) (nn := [(i : Int)].length) rfl ?_)
           refine rvP C (.ptr 0 0) ?_
           refine rvP C (.ptr 0 2) ?_
           refine rvc_un (rexec_prim C (δ := { v := .undef, wr := [(0, some (.cells [sS (some s.l.nil) eOp s.l.D, .mp 1, .sl 81 0 ([(i : Int)].length) 1 false]))] }) rfl rfl rfl rfl trivial rfl ?_)
           refine rvc_nil ?_
           refine Awp.seq ?_
           refine Awp.cons C (fun _ => .writer) (by kernel_rfl) ?_
           refine rvP C (.ptr 0 0) ?_
           refine rvP C (.agg [.pv (.lit (.int .u64 (mWith p.done (i : Int)))), .pv (.lit (.string x1.value))]) ?_
           obtain ⟨r4, hq_r4⟩ : ∃ q_, q_ = (fromO 65 (Search.mk s.l (mSet kPoint p true s.been) (Sl.mk false [(i : Int)])) (Point.mk (mWith p.done (i : Int)) x1.value)) := ⟨_, rfl⟩
           have hc_r4 := (fromO_calls 65 (Search.mk s.l (mSet kPoint p true s.been) (Sl.mk false [(i : Int)])) (Point.mk (mWith p.done (i : Int)) x1.value) hl64 (with_okD hd (by omega)) (by have h_ := mu_le s.l.D (mWith p.done (i : Int)); show (_ : List Int).length + mu s.l.D (mWith p.done (i : Int)) ≤ 1000000; first | (rw [List.length_append, List.length_singleton]; omega) | (show 1 + _ ≤ _; omega)) (by have h_ := mu_le s.l.D (mWith p.done (i : Int)); show mu s.l.D (mWith p.done (i : Int)) < 65; omega))
           first | rw [← hq_r4] at hR hc_r4 | (unfold fromN at hR; rw [← hq_r4] at hR hc_r4) | (unfold fromN_l0 at hR; rw [← hq_r4] at hR hc_r4)
           have hf0_r4 := fromO_row 65 (Search.mk s.l (mSet kPoint p true s.been) (Sl.mk false [(i : Int)])) (Point.mk (mWith p.done (i : Int)) x1.value)
           rw [← hq_r4] at hf0_r4
           refine rvc_un (rexec_callObj hP C (fun b => bif b == 0 then 0 else bif b == 1 then 1 else bif b == 2 then 81 else b) [(86, 3)] rfl rfl rfl hc_r4 rfl rfl ⟨rfl, rfl, trivial⟩ (of_decide_eq_true rfl) rfl (of_decide_eq_true rfl) (of_decide_eq_true rfl) (allB_cons rfl allB_nil) (allB_cons rfl allB_nil) (allB_cons rfl (allB_cons rfl allB_nil)) ?_ rfl (allB_cons rfl (allB_cons rfl allB_nil)))
           refine rvc_nil ?_
           refine Awp.cond (b := r4.2) rfl (fun h29 => ?_) (fun h29 => ?_)
           ·
            replace hR := of_true h29 hR
            refine Awp.consP C ?_
            refine rvP C (.pv (.lit (.bool true))) ?_
            refine rvc_nil ?_
            refine Awp.freezeW 86 (encL (eI .i64) r4.1.row.D) ?_ [(4, .pv (.lit (.bool true)))] [(0, .cells [sS (some s.l.nil) eOp s.l.D, .mp 1, sS (some false) (eI .i64) r4.1.row.D]), (1, mapE kPoint vBool.enc r4.1.been), (3, .cells [.pv (.lit (.int .u64 p.done)), .pv (.lit (.string p.value))]), (6, .cells [.pv (.lit (.bool x1.write)), .pv (.lit (.string x1.value)), .pv (.lit (.int .i64 x1.ver)), .pv (.lit (.int .i64 x1.began)), .pv (.lit (.int .i64 x1.ended))]), (7, .cells [.pv (.lit (.int .u64 (mWith p.done (i : Int)))), .pv (.lit (.string x1.value))])] ?_ ?_ ?_
            · rfl
            · exact ⟨⟨_, rfl, .inl (.inl rfl)⟩, trivial⟩
            · exact ⟨⟨(by show (0 : Nat) ≠ 86; decide), .inr ⟨_, _, rfl, rfl, ⟨.inl rfl, .inl rfl, .inr ⟨_, _, _, rfl, rfl⟩, trivial⟩⟩⟩, ⟨(by show (1 : Nat) ≠ 86; decide), .inl rfl⟩, ⟨(by show (3 : Nat) ≠ 86; decide), .inl rfl⟩, ⟨(by show (6 : Nat) ≠ 86; decide), .inl rfl⟩, ⟨(by show (7 : Nat) ≠ 86; decide), .inl rfl⟩, trivial⟩
            refine Awp.ret ?_
            subst hR
            exact ⟨.inl rfl, rfl, rfl, ⟨rfl, trivial⟩⟩
           ·
            replace hR := of_false h29 hR
            refine Awp.skip ?_
            refine Awp.regionP C ?_
            refine rvP C (.ptr 0 0) ?_
            refine rvP C (.ptr 0 0) ?_
            refine rvP C (.ptr 0 0) ?_
            refine rvP C (.ptr 0 2) ?_
            refine rvP C (.sl 86 0 r4.1.row.D.length 1 false) ?_
            refine rvP C (.ptr 0 0) ?_
            refine rvP C (.ptr 0 0) ?_
            refine rvP C (.ptr 0 2) ?_
            refine rvP C (.sl 86 0 r4.1.row.D.length 1 false) ?_
            refine rvP C (.pv (.lit (.int .i64 (r4.1.row.D.length : Int)))) ?_
            refine rvP C (.pv (.lit (.int .i64 (IntKind.i64.wrap ((r4.1.row.D.length : Int) - 1))))) ?_
            refine rvc_un (rexec_cutOwn C ((r4.1.row.D.dropLast).length) rfl rfl rfl rfl rfl rfl rfl ⟨(by have h_ : 1 ≤ r4.1.row.D.length ∧ r4.1.row.D.length ≤ 9000000000000000000 := (by (first | have h_ := hf0_r (by assumption) | have h_ := hf0_r1 (by assumption) | have h_ := hf0_r2 (by assumption) | have h_ := hf0_r3 (by assumption) | have h_ := hf0_r4 (by assumption) | have h_ := hf0_r5 (by assumption) | have h_ := hf0_r6 (by assumption) | have h_ := hf0_r7 (by assumption) | have h_ := hf0_r8 (by assumption) | have h_ := hf0_r9 (by assumption) | have h_ := hf0_r10 (by assumption) | have h_ := hf0_r11 (by assumption) | have h_ := hf0_r12 (by assumption) | have h_ := hf0_r13 (by assumption) | have h_ := hf0_r14 (by assumption) | have h_ := hf0_r15 (by assumption)); simp at h_; omega); rw [wrap_i64 (by omega) (by omega)]; omega), (by have h_ : 1 ≤ r4.1.row.D.length ∧ r4.1.row.D.length ≤ 9000000000000000000 := (by (first | have h_ := hf0_r (by assumption) | have h_ := hf0_r1 (by assumption) | have h_ := hf0_r2 (by assumption) | have h_ := hf0_r3 (by assumption) | have h_ := hf0_r4 (by assumption) | have h_ := hf0_r5 (by assumption) | have h_ := hf0_r6 (by assumption) | have h_ := hf0_r7 (by assumption) | have h_ := hf0_r8 (by assumption) | have h_ := hf0_r9 (by assumption) | have h_ := hf0_r10 (by assumption) | have h_ := hf0_r11 (by assumption) | have h_ := hf0_r12 (by assumption) | have h_ := hf0_r13 (by assumption) | have h_ := hf0_r14 (by assumption) | have h_ := hf0_r15 (by assumption)); simp at h_; omega); rw [wrap_i64 (by omega) (by omega)]; omega)⟩ (by have h_ : 1 ≤ r4.1.row.D.length ∧ r4.1.row.D.length ≤ 9000000000000000000 := (by (first | have h_ := hf0_r (by assumption) | have h_ := hf0_r1 (by assumption) | have h_ := hf0_r2 (by assumption) | have h_ := hf0_r3 (by assumption) | have h_ := hf0_r4 (by assumption) | have h_ := hf0_r5 (by assumption) | have h_ := hf0_r6 (by assumption) | have h_ := hf0_r7 (by assumption) | have h_ := hf0_r8 (by assumption) | have h_ := hf0_r9 (by assumption) | have h_ := hf0_r10 (by assumption) | have h_ := hf0_r11 (by assumption) | have h_ := hf0_r12 (by assumption) | have h_ := hf0_r13 (by assumption) | have h_ := hf0_r14 (by assumption) | have h_ := hf0_r15 (by assumption)); simp at h_; omega); rw [wrap_i64 (by omega) (by omega)]; rw [List.length_dropLast]; omega) ?_)
            refine rvP C (.ptr 0 0) ?_
            refine rvP C (.ptr 0 2) ?_
            refine rvc_un (rexec_prim C (δ := { v := .undef, wr := [(0, some (.cells [sS (some s.l.nil) eOp s.l.D, .mp 1, .sl 86 0 ((r4.1.row.D.dropLast).length) 1 false]))] }) rfl rfl rfl rfl trivial rfl ?_)
            refine rvc_nil ?_
            refine Awp.cutB 86 ((r4.1.row.D.length - 1) * (eI .i64).sz) _ rfl (encC (eI .i64) (r4.1.row.D.dropLast)) (encC_dropLast _) ?_
            refine Awp.regionP C ?_
            refine rvP C (.pv (.lit (.int .i64 (IntKind.i64.wrap ((i : Int) + 1))))) ?_
            refine rvP C (.pv (.lit (.int .i64 (IntKind.i64.wrap ((i : Int) + 1))))) ?_
            refine rvc_nil ?_
            refine ⟨h21, .inr ⟨((r4.1.row.D.dropLast), r4.1.been), ?_, ?_⟩⟩
            · exact ⟨hR, (by first | rfl | omega | ((first | have h_ := hf0_r (by assumption) | have h_ := hf0_r1 (by assumption) | have h_ := hf0_r2 (by assumption) | have h_ := hf0_r3 (by assumption) | have h_ := hf0_r4 (by assumption) | have h_ := hf0_r5 (by assumption) | have h_ := hf0_r6 (by assumption) | have h_ := hf0_r7 (by assumption) | have h_ := hf0_r8 (by assumption) | have h_ := hf0_r9 (by assumption) | have h_ := hf0_r10 (by assumption) | have h_ := hf0_r11 (by assumption) | have h_ := hf0_r12 (by assumption) | have h_ := hf0_r13 (by assumption) | have h_ := hf0_r14 (by assumption) | have h_ := hf0_r15 (by assumption)); simp at h_; simp; omega))⟩
            · exact ⟨fun b => bif b == 900 then 86 else (fun b => b) b, WeakerR.ofLI (I := [0, 1]) (Ks := [0, 1, 3, 900]) hI ⟨⟨rfl, rfl⟩, ⟨rfl, rfl⟩, ⟨rfl, rfl⟩, ⟨rfl, rfl⟩, ⟨lit_cast (wrap_i64 (by omega) (by omega)), rfl⟩, trivial⟩ (okH_cons rfl rfl rfl rfl (okH_map rfl rfl rfl (okH_cons rfl rfl rfl rfl (okH_list rfl rfl rfl (okH_nil))))) rfl rfl⟩
          ·
           replace hR := of_false h28 hR
           refine Awp.skip ?_
           refine Awp.consP C ?_
           refine rvP C (.ptr 0 0) ?_
           refine rvP C (.ptr 0 0) ?_
           refine rvP C (.ptr 0 0) ?_
           refine rvP C (.ptr 0 2) ?_
           refine rvP C (sS (some true) (eI .i64) []) ?_
           refine rvP C (.pv (.lit (.int .i64 (i : Int)))) ?_
           refine rvc_un (rexec_buildSliceF C (eI .i64) [(i : Int)] rfl rfl rfl rfl rfl rfl rfl (by decide) rfl ?_)
           refine rvc_un (rexec_appendN C rfl rfl rfl rfl rfl rfl rfl rfl (fun _ h => by cases h) rfl (en := (eI .i64)) (D := [(i : Int)]) rfl rfl (by simp) (by have := of_decide_eq_true h20; have := ne_of_beq_false h25; first | omega | (simp <;> omega)) (by decide) (nn := [(i : Int)].length) rfl ?_)
           refine rvP C (.ptr 0 0) ?_
           refine rvP C (.ptr 0 2) ?_
           refine rvc_un (rexec_prim C (δ := { v := .undef, wr := [(0, some (.cells [sS (some s.l.nil) eOp s.l.D, .mp 1, .sl 81 0 ([(i : Int)].length) 1 false]))] }) rfl rfl rfl rfl trivial rfl ?_)
           refine rvc_nil ?_
           refine Awp.seq ?_
           refine Awp.cons C (fun _ => .writer) (by kernel_rfl) ?_
           refine rvP C (.ptr 0 0) ?_
           refine rvP C (.agg [.pv (.lit (.int .u64 (mWith p.done (i : Int)))), .pv (.lit (.string p.value))]) ?_
           obtain ⟨r5, hq_r5⟩ : ∃ q_, q_ = (fromO 65 (Search.mk s.l (mSet kPoint p true s.been) (Sl.mk false [(i : Int)])) (Point.mk (mWith p.done (i : Int)) p.value)) := ⟨_, rfl⟩
           have hc_r5 := (fromO_calls 65 (Search.mk s.l (mSet kPoint p true s.been) (Sl.mk false [(i : Int)])) (Point.mk (mWith p.done (i : Int)) p.value) hl64 (with_okD hd (by omega)) (by have h_ := mu_le s.l.D (mWith p.done (i : Int)); show (_ : List Int).length + mu s.l.D (mWith p.done (i : Int)) ≤ 1000000; first | (rw [List.length_append, List.length_singleton]; omega) | (show 1 + _ ≤ _; omega)) (by have h_ := mu_le s.l.D (mWith p.done (i : Int)); show mu s.l.D (mWith p.done (i : Int)) < 65; omega))
           first | rw [← hq_r5] at hR hc_r5 | (unfold fromN at hR; rw [← hq_r5] at hR hc_r5) | (unfold fromN_l0 at hR; rw [← hq_r5] at hR hc_r5)
           have hf0_r5 := fromO_row 65 (Search.mk s.l (mSet kPoint p true s.been) (Sl.mk false [(i : Int)])) (Point.mk (mWith p.done (i : Int)) p.value)
           rw [← hq_r5] at hf0_r5
           refine rvc_un (rexec_callObj hP C (fun b => bif b == 0 then 0 else bif b == 1 then 1 else bif b == 2 then 81 else b) [(86, 3)] rfl rfl rfl hc_r5 rfl rfl ⟨rfl, rfl, trivial⟩ (of_decide_eq_true rfl) rfl (of_decide_eq_true rfl) (of_decide_eq_true rfl) (allB_cons rfl allB_nil) (allB_cons rfl allB_nil) (allB_cons rfl (allB_cons rfl allB_nil)) ?_ rfl (allB_cons rfl (allB_cons rfl allB_nil)))
           refine rvc_nil ?_
           refine Awp.cond (b := r5.2) rfl (fun h30 => ?_) (fun h30 => ?_)
           ·
            replace hR := of_true h30 hR
            refine Awp.consP C ?_
            refine rvP C (.pv (.lit (.bool true))) ?_
            refine rvc_nil ?_
            refine Awp.freezeW 86 (encL (eI .i64) r5.1.row.D) ?_ [(4, .pv (.lit (.bool true)))] [(0, .cells [sS (some s.l.nil) eOp s.l.D, .mp 1, sS (some false) (eI .i64) r5.1.row.D]), (1, mapE kPoint vBool.enc r5.1.been), (3, .cells [.pv (.lit (.int .u64 p.done)), .pv (.lit (.string p.value))]), (6, .cells [.pv (.lit (.bool x1.write)), .pv (.lit (.string x1.value)), .pv (.lit (.int .i64 x1.ver)), .pv (.lit (.int .i64 x1.began)), .pv (.lit (.int .i64 x1.ended))]), (7, .cells [.pv (.lit (.int .u64 (mWith p.done (i : Int)))), .pv (.lit (.string p.value))])] ?_ ?_ ?_
            · rfl
            · exact ⟨⟨_, rfl, .inl (.inl rfl)⟩, trivial⟩
            · exact ⟨⟨(by show (0 : Nat) ≠ 86; decide), .inr ⟨_, _, rfl, rfl, ⟨.inl rfl, .inl rfl, .inr ⟨_, _, _, rfl, rfl⟩, trivial⟩⟩⟩, ⟨(by show (1 : Nat) ≠ 86; decide), .inl rfl⟩, ⟨(by show (3 : Nat) ≠ 86; decide), .inl rfl⟩, ⟨(by show (6 : Nat) ≠ 86; decide), .inl rfl⟩, ⟨(by show (7 : Nat) ≠ 86; decide), .inl rfl⟩, trivial⟩
            refine Awp.ret ?_
            subst hR
            exact ⟨.inl rfl, rfl, rfl, ⟨rfl, trivial⟩⟩
           ·
            replace hR := of_false h30 hR
            refine Awp.skip ?_
            refine Awp.regionP C ?_
            refine rvP C (.ptr 0 0) ?_
            refine rvP C (.ptr 0 0) ?_
            refine rvP C (.ptr 0 0) ?_
            refine rvP C (.ptr 0 2) ?_
            refine rvP C (.sl 86 0 r5.1.row.D.length 1 false) ?_
            refine rvP C (.ptr 0 0) ?_
            refine rvP C (.ptr 0 0) ?_
            refine rvP C (.ptr 0 2) ?_
            refine rvP C (.sl 86 0 r5.1.row.D.length 1 false) ?_
            refine rvP C (.pv (.lit (.int .i64 (r5.1.row.D.length : Int)))) ?_
            refine rvP C (.pv (.lit (.int .i64 (IntKind.i64.wrap ((r5.1.row.D.length : Int) - 1))))) ?_
            refine rvc_un (rexec_cutOwn C ((r5.1.row.D.dropLast).length) rfl rfl rfl rfl rfl rfl rfl ⟨(by have h_ : 1 ≤ r5.1.row.D.length ∧ r5.1.row.D.length ≤ 9000000000000000000 := (by (first | have h_ := hf0_r (by assumption) | have h_ := hf0_r1 (by assumption) | have h_ := hf0_r2 (by assumption) | have h_ := hf0_r3 (by assumption) | have h_ := hf0_r4 (by assumption) | have h_ := hf0_r5 (by assumption) | have h_ := hf0_r6 (by assumption) | have h_ := hf0_r7 (by assumption) | have h_ := hf0_r8 (by assumption) | have h_ := hf0_r9 (by assumption) | have h_ := hf0_r10 (by assumption) | have h_ := hf0_r11 (by assumption) | have h_ := hf0_r12 (by assumption) | have h_ := hf0_r13 (by assumption) | have h_ := hf0_r14 (by assumption) | have h_ := hf0_r15 (by assumption)); simp at h_; omega); rw [wrap_i64 (by omega) (by omega)]; omega), (by have h_ : 1 ≤ r5.1.row.D.length ∧ r5.1.row.D.length ≤ 9000000000000000000 := (by (first | have h_ := hf0_r (by assumption) | have h_ := hf0_r1 (by assumption) | have h_ := hf0_r2 (by assumption) | have h_ := hf0_r3 (by assumption) | have h_ := hf0_r4 (by assumption) | have h_ := hf0_r5 (by assumption) | have h_ := hf0_r6 (by assumption) | have h_ := hf0_r7 (by assumption) | have h_ := hf0_r8 (by assumption) | have h_ := hf0_r9 (by assumption) | have h_ := hf0_r10 (by assumption) | have h_ := hf0_r11 (by assumption) | have h_ := hf0_r12 (by assumption) | have h_ := hf0_r13 (by assumption) | have h_ := hf0_r14 (by assumption) | have h_ := hf0_r15 (by assumption)); simp at h_; omega); rw [wrap_i64 (by omega) (by omega)]; omega)⟩ (by have h_ : 1 ≤ r5.1.row.D.length ∧ r5.1.row.D.length ≤ 9000000000000000000 := (by (first | have h_ := hf0_r (by assumption) | have h_ := hf0_r1 (by assumption) | have h_ := hf0_r2 (by assumption) | have h_ := hf0_r3 (by assumption) | have h_ := hf0_r4 (by assumption) | have h_ := hf0_r5 (by assumption) | have h_ := hf0_r6 (by assumption) | have h_ := hf0_r7 (by assumption) | have h_ := hf0_r8 (by assumption) | have h_ := hf0_r9 (by assumption) | have h_ := hf0_r10 (by assumption) | have h_ := hf0_r11 (by assumption) | have h_ := hf0_r12 (by assumption) | have h_ := hf0_r13 (by assumption) | have h_ := hf0_r14 (by assumption) | have h_ := hf0_r15 (by assumption)); simp at h_; omega); rw [wrap_i64 (by omega) (by omega)]; rw [List.length_dropLast]; omega) ?_)
            refine rvP C (.ptr 0 0) ?_
            refine rvP C (.ptr 0 2) ?_
            refine rvc_un (rexec_prim C (δ := { v := .undef, wr := [(0, some (.cells [sS (some s.l.nil) eOp s.l.D, .mp 1, .sl 86 0 ((r5.1.row.D.dropLast).length) 1 false]))] }) rfl rfl rfl rfl trivial rfl ?_)
            refine rvc_nil ?_
            refine Awp.cutB 86 ((r5.1.row.D.length - 1) * (eI .i64).sz) _ rfl (encC (eI .i64) (r5.1.row.D.dropLast)) (encC_dropLast _) ?_
            refine Awp.regionP C ?_
            refine rvP C (.pv (.lit (.int .i64 (IntKind.i64.wrap ((i : Int) + 1))))) ?_
            refine rvP C (.pv (.lit (.int .i64 (IntKind.i64.wrap ((i : Int) + 1))))) ?_
            refine rvc_nil ?_
            refine ⟨h21, .inr ⟨((r5.1.row.D.dropLast), r5.1.been), ?_, ?_⟩⟩
            · exact ⟨hR, (by first | rfl | omega | ((first | have h_ := hf0_r (by assumption) | have h_ := hf0_r1 (by assumption) | have h_ := hf0_r2 (by assumption) | have h_ := hf0_r3 (by assumption) | have h_ := hf0_r4 (by assumption) | have h_ := hf0_r5 (by assumption) | have h_ := hf0_r6 (by assumption) | have h_ := hf0_r7 (by assumption) | have h_ := hf0_r8 (by assumption) | have h_ := hf0_r9 (by assumption) | have h_ := hf0_r10 (by assumption) | have h_ := hf0_r11 (by assumption) | have h_ := hf0_r12 (by assumption) | have h_ := hf0_r13 (by assumption) | have h_ := hf0_r14 (by assumption) | have h_ := hf0_r15 (by assumption)); simp at h_; simp; omega))⟩
            · exact ⟨fun b => bif b == 900 then 86 else (fun b => b) b, WeakerR.ofLI (I := [0, 1]) (Ks := [0, 1, 3, 900]) hI ⟨⟨rfl, rfl⟩, ⟨rfl, rfl⟩, ⟨rfl, rfl⟩, ⟨rfl, rfl⟩, ⟨lit_cast (wrap_i64 (by omega) (by omega)), rfl⟩, trivial⟩ (okH_cons rfl rfl rfl rfl (okH_map rfl rfl rfl (okH_cons rfl rfl rfl rfl (okH_list rfl rfl rfl (okH_nil))))) rfl rfl⟩
      ·
       replace hR := of_false h24 hR
       refine rvS ?_
       refine rvS ?_
       refine rvS ?_
       refine rvS ?_
       refine rvc_shutU rfl rfl rfl ?_
       refine rvc_shutU rfl rfl rfl ?_
       refine rvc_shutU rfl rfl rfl ?_
       refine rvc_shutU rfl rfl rfl ?_
       refine rvc_shutU rfl rfl rfl ?_
       refine rvS ?_
       refine rvO C (.pv (.lit (.bool false))) ?_
       refine rvP C (.pv (.lit (.bool false))) ?_
       refine rvP C (.pv (.lit (.bool false))) ?_
       refine rvO C (.ptr 0 0) ?_
       refine rvO C (.pv (.lit (.int .i64 (i : Int)))) ?_
       refine rvO C (.ptr 3 0) ?_
       refine rvO C (.pv (.lit (.int .u64 p.done))) ?_
       refine rvc_open rfl rfl rfl (rexec_callObj hP C (fun b => bif b == 0 then 0 else bif b == 1 then 1 else b) [] rfl rfl rfl (firstSN_calls (Search.mk s.l (mSet kPoint p true s.been) (Sl.mk true [])) (i : Int) p.done ⟨by omega, by show (i : Int) < (s.l.D.length : Int); omega⟩ hl1) rfl rfl ⟨rfl, trivial⟩ (of_decide_eq_true rfl) rfl (of_decide_eq_true rfl) (of_decide_eq_true rfl) allB_nil allB_nil (allB_cons rfl allB_nil) ?_ rfl (allB_cons rfl allB_nil))
       refine rvO C (.pv (.lit (.bool (!(firstSN (Search.mk s.l (mSet kPoint p true s.been) (Sl.mk true [])) (i : Int) p.done))))) ?_
       refine rvP C (.pv (.lit (.bool (!(firstSN (Search.mk s.l (mSet kPoint p true s.been) (Sl.mk true [])) (i : Int) p.done))))) ?_
       refine rvc_nil ?_
       refine Awp.cond (b := (!(firstSN (Search.mk s.l (mSet kPoint p true s.been) (Sl.mk true [])) (i : Int) p.done))) rfl (fun h31 => ?_) (fun h31 => ?_)
       ·
        replace hR := of_true h31 hR
        refine Awp.exit ?_
        refine Awp.regionP C ?_
        refine rvP C (.pv (.lit (.int .i64 (IntKind.i64.wrap ((i : Int) + 1))))) ?_
        refine rvP C (.pv (.lit (.int .i64 (IntKind.i64.wrap ((i : Int) + 1))))) ?_
        refine rvc_nil ?_
        refine ⟨h21, .inl ⟨(), ?_, ?_⟩⟩
        · exact hR
        · exact ⟨fun b => b, WeakerR.ofLI (I := [0, 1]) (Ks := [0, 1, 3]) hI ⟨⟨rfl, rfl⟩, ⟨rfl, rfl⟩, ⟨rfl, rfl⟩, ⟨rfl, rfl⟩, ⟨lit_cast (wrap_i64 (by omega) (by omega)), rfl⟩, trivial⟩ (okH_cons rfl rfl rfl rfl (okH_map rfl rfl rfl (okH_cons rfl rfl rfl rfl (okH_nil)))) rfl rfl⟩
       ·
        replace hR := of_false h31 hR
        refine Awp.skip ?_
        refine Awp.consP C ?_
        refine rvP C (.ptr 3 0) ?_
        refine rvP C (.pv (.lit (.int .u64 p.done))) ?_
        refine rvP C (.pv (.lit (.int .i64 (i : Int)))) ?_
        refine rvc_un (rexec_call hP C rfl rfl rfl (mWith_calls p.done (i : Int)) ?_)
        refine rvP C (.ptr 3 1) ?_
        refine rvP C (.pv (.lit (.string p.value))) ?_
        refine rvP C (.agg [.pv (.lit (.int .u64 (mWith p.done (i : Int)))), .pv (.lit (.string p.value))]) ?_
        refine rvc_un (rexec_prim C (δ := { v := .ptr 7 0, new := [(7, .cells [.pv (.lit (.int .u64 0)), .pv (.lit (.string ⟨#[]⟩))])] }) rfl rfl rfl rfl trivial rfl ?_)
        refine rvc_un (rexec_prim C (δ := { v := .undef, wr := [(7, some (.cells [.pv (.lit (.int .u64 (mWith p.done (i : Int)))), .pv (.lit (.string p.value))]))] }) rfl rfl rfl rfl trivial rfl ?_)
        refine rvc_nil ?_
        refine Awp.seq ?_
        refine Awp.consP C ?_
        refine rvP C (.ptr 6 0) ?_
        refine rvP C (.pv (.lit (.bool x1.write))) ?_
        refine rvc_nil ?_
        refine Awp.cond (b := x1.write) rfl (fun h32 => ?_) (fun h32 => ?_)
        ·
         replace hR := of_true h32 hR
         refine Awp.regionP C ?_
         refine rvP C (.ptr 6 1) ?_
         refine rvP C (.pv (.lit (.string x1.value))) ?_
         refine rvP C (.ptr 7 1) ?_
         refine rvc_un (rexec_prim C (δ := { v := .undef, wr := [(7, some (.cells [.pv (.lit (.int .u64 (mWith p.done (i : Int)))), .pv (.lit (.string x1.value))]))] }) rfl rfl rfl rfl trivial rfl ?_)
         refine rvc_nil ?_
         refine Awp.consP C ?_
         refine rvP C (.ptr 0 0) ?_
         refine rvP C (.ptr 0 0) ?_
         refine rvP C (.ptr 0 0) ?_
         refine rvP C (.ptr 0 2) ?_
         refine rvP C (sS (some true) (eI .i64) []) ?_
         refine rvP C (.pv (.lit (.int .i64 (i : Int)))) ?_
         refine rvc_un (rexec_buildSliceF C (eI .i64) [(i : Int)] rfl rfl rfl rfl rfl rfl rfl (by decide) rfl ?_)
         refine rvc_un (rexec_appendN C rfl rfl rfl rfl rfl rfl rfl rfl (fun _ h => by cases h) rfl (en := (eI .i64)) (D := [(i : Int)]) rfl rfl (by simp) (by have := of_decide_eq_true h20; first | omega | (simp <;> omega)) (by decide) (nn := [(i : Int)].length) rfl ?_)
         refine rvP C (.ptr 0 0) ?_
         refine rvP C (.ptr 0 2) ?_
         refine rvc_un (rexec_prim C (δ := { v := .undef, wr := [(0, some (.cells [sS (some s.l.nil) eOp s.l.D, .mp 1, .sl 81 0 ([(i : Int)].length) 1 false]))] }) rfl rfl rfl rfl trivial rfl ?_)
         refine rvc_nil ?_
         refine Awp.seq ?_
         refine Awp.cons C (fun _ => .writer) (by kernel_rfl) ?_
         refine rvP C (.ptr 0 0) ?_
         refine rvP C (.agg [.pv (.lit (.int .u64 (mWith p.done (i : Int)))), .pv (.lit (.string x1.value))]) ?_
         obtain ⟨r6, hq_r6⟩ : ∃ q_, q_ = (fromO 65 (Search.mk s.l (mSet kPoint p true s.been) (Sl.mk false [(i : Int)])) (Point.mk (mWith p.done (i : Int)) x1.value)) := ⟨_, rfl⟩
         have hc_r6 := (fromO_calls 65 (Search.mk s.l (mSet kPoint p true s.been) (Sl.mk false [(i : Int)])) (Point.mk (mWith p.done (i : Int)) x1.value) hl64 (with_okD hd (by omega)) (by have h_ := mu_le s.l.D (mWith p.done (i : Int)); show (_ : List Int).length + mu s.l.D (mWith p.done (i : Int)) ≤ 1000000; first | (rw [List.length_append, List.length_singleton]; omega) | (show 1 + _ ≤ _; omega)) (by have h_ := mu_le s.l.D (mWith p.done (i : Int)); show mu s.l.D (mWith p.done (i : Int)) < 65; omega))
         first | rw [← hq_r6] at hR hc_r6 | (unfold fromN at hR; rw [← hq_r6] at hR hc_r6) | (unfold fromN_l0 at hR; rw [← hq_r6] at hR hc_r6)
         have hf0_r6 := fromO_row 65 (Search.mk s.l (mSet kPoint p true s.been) (Sl.mk false [(i : Int)])) (Point.mk (mWith p.done (i : Int)) x1.value)
         rw [← hq_r6] at hf0_r6
         refine rvc_un (rexec_callObj hP C (fun b => bif b == 0 then 0 else bif b == 1 then 1 else bif b == 2 then 81 else b) [(86, 3)] rfl rfl rfl hc_r6 rfl rfl ⟨rfl, rfl, trivial⟩ (of_decide_eq_true rfl) rfl (of_decide_eq_true rfl) (of_decide_eq_true rfl) (allB_cons rfl allB_nil) (allB_cons rfl allB_nil) (allB_cons rfl (allB_cons rfl allB_nil)) ?_ rfl (allB_cons rfl (allB_cons rfl allB_nil)))
         refine rvc_nil ?_
         refine Awp.cond (b := r6.2) rfl (fun h33 => ?_) (fun h33 => ?_)
         ·
          replace hR := of_true h33 hR
          refine Awp.consP C ?_
          refine rvP C (.pv (.lit (.bool true))) ?_
          refine rvc_nil ?_
          refine Awp.freezeW 86 (encL (eI .i64) r6.1.row.D) ?_ [(4, .pv (.lit (.bool true)))] [(0, .cells [sS (some s.l.nil) eOp s.l.D, .mp 1, sS (some false) (eI .i64) r6.1.row.D]), (1, mapE kPoint vBool.enc r6.1.been), (3, .cells [.pv (.lit (.int .u64 p.done)), .pv (.lit (.string p.value))]), (6, .cells [.pv (.lit (.bool x1.write)), .pv (.lit (.string x1.value)), .pv (.lit (.int .i64 x1.ver)), .pv (.lit (.int .i64 x1.began)), .pv (.lit (.int .i64 x1.ended))]), (7, .cells [.pv (.lit (.int .u64 (mWith p.done (i : Int)))), .pv (.lit (.string x1.value))])] ?_ ?_ ?_
          · rfl
          · exact ⟨⟨_, rfl, .inl (.inl rfl)⟩, trivial⟩
          · exact ⟨⟨(by show (0 : Nat) ≠ 86; decide), .inr ⟨_, _, rfl, rfl, ⟨.inl rfl, .inl rfl, .inr ⟨_, _, _, rfl, rfl⟩, trivial⟩⟩⟩, ⟨(by show (1 : Nat) ≠ 86; decide), .inl rfl⟩, ⟨(by show (3 : Nat) ≠ 86; decide), .inl rfl⟩, ⟨(by show (6 : Nat) ≠ 86; decide), .inl rfl⟩, ⟨(by show (7 : Nat) ≠ 86; decide), .inl rfl⟩, trivial⟩
          refine Awp.ret ?_
          subst hR
          exact ⟨.inl rfl, rfl, rfl, ⟨rfl, trivial⟩⟩
         ·
          replace hR := of_false h33 hR
          refine Awp.skip ?_
          refine Awp.regionP C ?_
          refine rvP C (.ptr 0 0) ?_
          refine rvP C (.ptr 0 0) ?_
          refine rvP C (.ptr 0 0) ?_
          refine rvP C (.ptr 0 2) ?_
          refine rvP C (.sl 86 0 r6.1.row.D.length 1 false) ?_
          refine rvP C (.ptr 0 0) ?_
          refine rvP C (.ptr 0 0) ?_
          refine rvP C (.ptr 0 2) ?_
          refine rvP C (.sl 86 0 r6.1.row.D.length 1 false) ?_
          refine rvP C (.pv (.lit (.int .i64 (r6.1.row.D.length : Int)))) ?_
          refine rvP C (.pv (.lit (.int .i64 (IntKind.i64.wrap ((r6.1.row.D.length : Int) - 1))))) ?_
          refine rvc_un (rexec_cutOwn C ((r6.1.row.D.dropLast).length) rfl rfl rfl rfl rfl rfl rfl ⟨(by have h_ : 1 ≤ r6.1.row.D.length ∧ r6.1.row.D.length ≤ 9000000000000000000 := (by (first | have h_ := hf0_r (by assumption) | have h_ := hf0_r1 (by assumption) | have h_ := hf0_r2 (by assumption) | have h_ := hf0_r3 (by assumption) | have h_ := hf0_r4 (by assumption) | have h_ := hf0_r5 (by assumption) | have h_ := hf0_r6 (by assumption) | have h_ := hf0_r7 (by assumption) | have h_ := hf0_r8 (by assumption) | have h_ := hf0_r9 (by assumption) | have h_ := hf0_r10 (by assumption) | have h_ := hf0_r11 (by assumption) | have h_ := hf0_r12 (by assumption) | have h_ := hf0_r13 (by assumption) | have h_ := hf0_r14 (by assumption) | have h_ := hf0_r15 (by assumption)); simp at h_; omega); rw [wrap_i64 (by omega) (by omega)]; omega), (by have h_ : 1 ≤ r6.1.row.D.length ∧ r6.1.row.D.length ≤ 9000000000000000000 := (by (first | have h_ := hf0_r (by assumption) | have h_ := hf0_r1 (by assumption) | have h_ := hf0_r2 (by assumption) | have h_ := hf0_r3 (by assumption) | have h_ := hf0_r4 (by assumption) | have h_ := hf0_r5 (by assumption) | have h_ := hf0_r6 (by assumption) | have h_ := hf0_r7 (by assumption) | have h_ := hf0_r8 (by assumption) | have h_ := hf0_r9 (by assumption) | have h_ := hf0_r10 (by assumption) | have h_ := hf0_r11 (by assumption) | have h_ := hf0_r12 (by assumption) | have h_ := hf0_r13 (by assumption) | have h_ := hf0_r14 (by assumption) | have h_ := hf0_r15 (by assumption)); simp at h_; omega); rw [wrap_i64 (by omega) (by omega)]; omega)⟩ (by have h_ : 1 ≤ r6.1.row.D.length ∧ r6.1.row.D.length ≤ 9000000000000000000 := (by (first | have h_ := hf0_r (by assumption) | have h_ := hf0_r1 (by assumption) | have h_ := hf0_r2 (by assumption) | have h_ := hf0_r3 (by assumption) | have h_ := hf0_r4 (by assumption) | have h_ := hf0_r5 (by assumption) | have h_ := hf0_r6 (by assumption) | have h_ := hf0_r7 (by assumption) | have h_ := hf0_r8 (by assumption) | have h_ := hf0_r9 (by assumption) | have h_ := hf0_r10 (by assumption) | have h_ := hf0_r11 (by assumption) | have h_ := hf0_r12 (by assumption) | have h_ := hf0_r13 (by assumption) | have h_ := hf0_r14 (by assumption) | have h_ := hf0_r15 (by assumption)); simp at h_; omega); rw [wrap_i64 (by omega) (by omega)]; rw [List.length_dropLast]; omega) ?_)
          refine rvP C (.ptr 0 0) ?_
          refine rvP C (.ptr 0 2) ?_
          refine rvc_un (rexec_prim C (δ := { v := .undef, wr := [(0, some (.cells [sS (some s.l.nil) eOp s.l.D, .mp 1, .sl 86 0 ((r6.1.row.D.dropLast).length) 1 false]))] }) rfl rfl rfl rfl trivial rfl ?_)
          refine rvc_nil ?_
          refine Awp.cutB 86 ((r6.1.row.D.length - 1) * (eI .i64).sz) _ rfl (encC (eI .i64) (r6.1.row.D.dropLast)) (encC_dropLast _) ?_
          refine Awp.regionP C ?_
          refine rvP C (.pv (.lit (.int .i64 (IntKind.i64.wrap ((i : Int) + 1))))) ?_
          refine rvP C (.pv (.lit (.int .i64 (IntKind.i64.wrap ((i : Int) + 1))))) ?_
          refine rvc_nil ?_
          refine ⟨h21, .inr ⟨((r6.1.row.D.dropLast), r6.1.been), ?_, ?_⟩⟩
          · exact ⟨hR, (by first | rfl | omega | ((first | have h_ := hf0_r (by assumption) | have h_ := hf0_r1 (by assumption) | have h_ := hf0_r2 (by assumption) | have h_ := hf0_r3 (by assumption) | have h_ := hf0_r4 (by assumption) | have h_ := hf0_r5 (by assumption) | have h_ := hf0_r6 (by assumption) | have h_ := hf0_r7 (by assumption) | have h_ := hf0_r8 (by assumption) | have h_ := hf0_r9 (by assumption) | have h_ := hf0_r10 (by assumption) | have h_ := hf0_r11 (by assumption) | have h_ := hf0_r12 (by assumption) | have h_ := hf0_r13 (by assumption) | have h_ := hf0_r14 (by assumption) | have h_ := hf0_r15 (by assumption)); simp at h_; simp; omega))⟩
          · exact ⟨fun b => bif b == 900 then 86 else (fun b => b) b, WeakerR.ofLI (I := [0, 1]) (Ks := [0, 1, 3, 900]) hI ⟨⟨rfl, rfl⟩, ⟨rfl, rfl⟩, ⟨rfl, rfl⟩, ⟨rfl, rfl⟩, ⟨lit_cast (wrap_i64 (by omega) (by omega)), rfl⟩, trivial⟩ (okH_cons rfl rfl rfl rfl (okH_map rfl rfl rfl (okH_cons rfl rfl rfl rfl (okH_list rfl rfl rfl (okH_nil))))) rfl rfl⟩
        ·
         replace hR := of_false h32 hR
         refine Awp.skip ?_
         refine Awp.consP C ?_
         refine rvP C (.ptr 0 0) ?_
         refine rvP C (.ptr 0 0) ?_
         refine rvP C (.ptr 0 0) ?_
         refine rvP C (.ptr 0 2) ?_
         refine rvP C (sS (some true) (eI .i64) []) ?_
         refine rvP C (.pv (.lit (.int .i64 (i : Int)))) ?_
         refine rvc_un (rexec_buildSliceF C (eI .i64) [(i : Int)] rfl rfl rfl rfl rfl rfl rfl (by decide) rfl ?_)
         refine rvc_un (rexec_appendN C rfl rfl rfl rfl rfl rfl rfl rfl (fun _ h => by cases h) rfl (en := (eI .i64)) (D := [(i : Int)]) rfl rfl (by simp) (by have := of_decide_eq_true h20; first | omega | (simp <;> omega)) (by decide) (nn := [(i : Int)].length) rfl ?_)
         refine rvP C (.ptr 0 0) ?_
         refine rvP C (.ptr 0 2) ?_
         refine rvc_un (rexec_prim C (δ := { v := .undef, wr := [(0, some (.cells [sS (some s.l.nil) eOp s.l.D, .mp 1, .sl 81 0 ([(i : Int)].length) 1 false]))] }) rfl rfl rfl rfl trivial rfl ?_)
         refine rvc_nil ?_
         refine Awp.seq ?_
         refine Awp.cons C (fun _ => .writer) (by kernel_rfl) ?_
         refine rvP C (.ptr 0 0) ?_
         refine rvP C (.agg [.pv (.lit (.int .u64 (mWith p.done (i : Int)))), .pv (.lit (.string p.value))]) ?_
         obtain ⟨r7, hq_r7⟩ : ∃ q_, q_ = (fromO 65 (Search.mk s.l (mSet kPoint p true s.been) (Sl.mk false [(i : Int)])) (Point.mk (mWith p.done (i : Int)) p.value)) := ⟨_, rfl⟩
         have hc_r7 := (fromO_calls 65 (Search.mk s.l (mSet kPoint p true s.been) (Sl.mk false [(i : Int)])) (Point.mk (mWith p.done (i : Int)) p.value) hl64 (with_okD hd (by omega)) (by have h_ := mu_le s.l.D (mWith p.done (i : Int)); show (_ : List Int).length + mu s.l.D (mWith p.done (i : Int)) ≤ 1000000; first | (rw [List.length_append, List.length_singleton]; omega) | (show 1 + _ ≤ _; omega)) (by have h_ := mu_le s.l.D (mWith p.done (i : Int)); show mu s.l.D (mWith p.done (i : Int)) < 65; omega))
         first | rw [← hq_r7] at hR hc_r7 | (unfold fromN at hR; rw [← hq_r7] at hR hc_r7) | (unfold fromN_l0 at hR; rw [← hq_r7] at hR hc_r7)
         have hf0_r7 := fromO_row 65 (Search.mk s.l (mSet kPoint p true s.been) (Sl.mk false [(i : Int)])) (Point.mk (mWith p.done (i : Int)) p.value)
         rw [← hq_r7] at hf0_r7
         refine rvc_un (rexec_callObj hP C (fun b => bif b == 0 then 0 else bif b == 1 then 1 else bif b == 2 then 81 else b) [(86, 3)] rfl rfl rfl hc_r7 rfl rfl ⟨rfl, rfl, trivial⟩ (of_decide_eq_true rfl) rfl (of_decide_eq_true rfl) (of_decide_eq_true rfl) (allB_cons rfl allB_nil) (allB_cons rfl allB_nil) (allB_cons rfl (allB_cons rfl allB_nil)) ?_ rfl (allB_cons rfl (allB_cons rfl allB_nil)))
         refine rvc_nil ?_
         refine Awp.cond (b := r7.2) rfl (fun h34 => ?_) (fun h34 => ?_)
         ·
          replace hR := of_true h34 hR
          refine Awp.consP C ?_
          refine rvP C (.pv (.lit (.bool true))) ?_
          refine rvc_nil ?_
          refine Awp.freezeW 86 (encL (eI .i64) r7.1.row.D) ?_ [(4, .pv (.lit (.bool true)))] [(0, .cells [sS (some s.l.nil) eOp s.l.D, .mp 1, sS (some false) (eI .i64) r7.1.row.D]), (1, mapE kPoint vBool.enc r7.1.been), (3, .cells [.pv (.lit (.int .u64 p.done)), .pv (.lit (.string p.value))]), (6, .cells [.pv (.lit (.bool x1.write)), .pv (.lit (.string x1.value)), .pv (.lit (.int .i64 x1.ver)), .pv (.lit (.int .i64 x1.began)), .pv (.lit (.int .i64 x1.ended))]), (7, .cells [.pv (.lit (.int .u64 (mWith p.done (i : Int)))), .pv (.lit (.string p.value))])] ?_ ?_ ?_
          · rfl
          · exact ⟨⟨_, rfl, .inl (.inl rfl)⟩, trivial⟩
          · exact ⟨⟨(by show (0 : Nat) ≠ 86; decide), .inr ⟨_, _, rfl, rfl, ⟨.inl rfl, .inl rfl, .inr ⟨_, _, _, rfl, rfl⟩, trivial⟩⟩⟩, ⟨(by show (1 : Nat) ≠ 86; decide), .inl rfl⟩, ⟨(by show (3 : Nat) ≠ 86; decide), .inl rfl⟩, ⟨(by show (6 : Nat) ≠ 86; decide), .inl rfl⟩, ⟨(by show (7 : Nat) ≠ 86; decide), .inl rfl⟩, trivial⟩
          refine Awp.ret ?_
          subst hR
          exact ⟨.inl rfl, rfl, rfl, ⟨rfl, trivial⟩⟩
         ·
          replace hR := of_false h34 hR
          refine Awp.skip ?_
          refine Awp.regionP C ?_
          refine rvP C (.ptr 0 0) ?_
          refine rvP C (.ptr 0 0) ?_
          refine rvP C (.ptr 0 0) ?_
          refine rvP C (.ptr 0 2) ?_
          refine rvP C (.sl 86 0 r7.1.row.D.length 1 false) ?_
          refine rvP C (.ptr 0 0) ?_
          refine rvP C (.ptr 0 0) ?_
          refine rvP C (.ptr 0 2) ?_
          refine rvP C (.sl 86 0 r7.1.row.D.length 1 false) ?_
          refine rvP C (.pv (.lit (.int .i64 (r7.1.row.D.length : Int)))) ?_
          refine rvP C (.pv (.lit (.int .i64 (IntKind.i64.wrap ((r7.1.row.D.length : Int) - 1))))) ?_
          refine rvc_un (rexec_cutOwn C ((r7.1.row.D.dropLast).length) rfl rfl rfl rfl rfl rfl rfl ⟨(by have h_ : 1 ≤ r7.1.row.D.length ∧ r7.1.row.D.length ≤ 9000000000000000000 := (by (first | have h_ := hf0_r (by assumption) | have h_ := hf0_r1 (by assumption) | have h_ := hf0_r2 (by assumption) | have h_ := hf0_r3 (by assumption) | have h_ := hf0_r4 (by assumption) | have h_ := hf0_r5 (by assumption) | have h_ := hf0_r6 (by assumption) | have h_ := hf0_r7 (by assumption) | have h_ := hf0_r8 (by assumption) | have h_ := hf0_r9 (by assumption) | have h_ := hf0_r10 (by assumption) | have h_ := hf0_r11 (by assumption) | have h_ := hf0_r12 (by assumption) | have h_ := hf0_r13 (by assumption) | have h_ := hf0_r14 (by assumption) | have h_ := hf0_r15 (by assumption)); simp at h_; omega); rw [wrap_i64 (by omega) (by omega)]; omega), (by have h_ : 1 ≤ r7.1.row.D.length ∧ r7.1.row.D.length ≤ 9000000000000000000 := (by (first | have h_ := hf0_r (by assumption) | have h_ := hf0_r1 (by assumption) | have h_ := hf0_r2 (by assumption) | have h_ := hf0_r3 (by assumption) | have h_ := hf0_r4 (by assumption) | have h_ := hf0_r5 (by assumption) | have h_ := hf0_r6 (by assumption) | have h_ := hf0_r7 (by assumption) | have h_ := hf0_r8 (by assumption) | have h_ := hf0_r9 (by assumption) | have h_ := hf0_r10 (by assumption) | have h_ := hf0_r11 (by assumption) | have h_ := hf0_r12 (by assumption) | have h_ := hf0_r13 (by assumption) | have h_ := hf0_r14 (by assumption) | have h_ := hf0_r15 (by assumption)); simp at h_; omega); rw [wrap_i64 (by omega) (by omega)]; omega)⟩ (by have h_ : 1 ≤ r7.1.row.D.length ∧ r7.1.row.D.length ≤ 9000000000000000000 := (by (first | have h_ := hf0_r (by assumption) | have h_ := hf0_r1 (by assumption) | have h_ := hf0_r2 (by assumption) | have h_ := hf0_r3 (by assumption) | have h_ := hf0_r4 (by assumption) | have h_ := hf0_r5 (by assumption) | have h_ := hf0_r6 (by assumption) | have h_ := hf0_r7 (by assumption) | have h_ := hf0_r8 (by assumption) | have h_ := hf0_r9 (by assumption) | have h_ := hf0_r10 (by assumption) | have h_ := hf0_r11 (by assumption) | have h_ := hf0_r12 (by assumption) | have h_ := hf0_r13 (by assumption) | have h_ := hf0_r14 (by assumption) | have h_ := hf0_r15 (by assumption)); simp at h_; omega); rw [wrap_i64 (by omega) (by omega)]; rw [List.length_dropLast]; omega) ?_)
          refine rvP C (.ptr 0 0) ?_
          refine rvP C (.ptr 0 2) ?_
          refine rvc_un (rexec_prim C (δ := { v := .undef, wr := [(0, some (.cells [sS (some s.l.nil) eOp s.l.D, .mp 1, .sl 86 0 ((r7.1.row.D.dropLast).length) 1 false]))] }) rfl rfl rfl rfl trivial rfl ?_)
          refine rvc_nil ?_
          refine Awp.cutB 86 ((r7.1.row.D.length - 1) * (eI .i64).sz) _ rfl (encC (eI .i64) (r7.1.row.D.dropLast)) (encC_dropLast _) ?_
          refine Awp.regionP C ?_
          refine rvP C (.pv (.lit (.int .i64 (IntKind.i64.wrap ((i : Int) + 1))))) ?_
          refine rvP C (.pv (.lit (.int .i64 (IntKind.i64.wrap ((i : Int) + 1))))) ?_
          refine rvc_nil ?_
          refine ⟨h21, .inr ⟨((r7.1.row.D.dropLast), r7.1.been), ?_, ?_⟩⟩
          · exact ⟨hR, (by first | rfl | omega | ((first | have h_ := hf0_r (by assumption) | have h_ := hf0_r1 (by assumption) | have h_ := hf0_r2 (by assumption) | have h_ := hf0_r3 (by assumption) | have h_ := hf0_r4 (by assumption) | have h_ := hf0_r5 (by assumption) | have h_ := hf0_r6 (by assumption) | have h_ := hf0_r7 (by assumption) | have h_ := hf0_r8 (by assumption) | have h_ := hf0_r9 (by assumption) | have h_ := hf0_r10 (by assumption) | have h_ := hf0_r11 (by assumption) | have h_ := hf0_r12 (by assumption) | have h_ := hf0_r13 (by assumption) | have h_ := hf0_r14 (by assumption) | have h_ := hf0_r15 (by assumption)); simp at h_; simp; omega))⟩
          · exact ⟨fun b => bif b == 900 then 86 else (fun b => b) b, WeakerR.ofLI (I := [0, 1]) (Ks := [0, 1, 3, 900]) hI ⟨⟨rfl, rfl⟩, ⟨rfl, rfl⟩, ⟨rfl, rfl⟩, ⟨rfl, rfl⟩, ⟨lit_cast (wrap_i64 (by omega) (by omega)), rfl⟩, trivial⟩ (okH_cons rfl rfl rfl rfl (okH_map rfl rfl rfl (okH_cons rfl rfl rfl rfl (okH_list rfl rfl rfl (okH_nil))))) rfl rfl⟩
    ·
     have h21 : ¬ i < s.l.D.length := by have := of_decide_eq_false h20; omega
     rw [drop_end h21] at hR
     refine Awp.exit ?_
     refine Awp.consP C ?_
     refine rvP C (.pv (.lit (.bool false))) ?_
     refine rvc_nil ?_
     refine Awp.ret ?_
     subst hR
     exact ⟨.inl rfl, rfl, rfl, ⟨rfl, trivial⟩⟩
   ·
    obtain ⟨vc, vc1⟩ := v
    obtain ⟨hR, hi_vc⟩ := hR
    replace hi_vc : vc.length = 0 := hi_vc
    refine Awp.consP C ?_
    refine rvP C (.pv (.lit (.bool (decide ((i : Int) < (s.l.D.length : Int)))))) ?_
    refine rvc_nil ?_
    refine Awp.seq ?_
    refine Awp.cond (b := (decide ((i : Int) < (s.l.D.length : Int)))) rfl (fun h4 => ?_) (fun h4 => ?_)
    ·
     have h5 : i < s.l.D.length := by have := of_decide_eq_true h4; omega
     obtain ⟨x, h6⟩ := getX h5
     rw [drop_at h6] at hR
     refine Awp.skip ?_
     refine Awp.seq ?_
     refine Awp.block ?_
     refine Awp.consP C ?_
     refine rvP C (.pv (.lit (.int .i64 (i : Int)))) ?_
     refine rvc_un (rexec_idxS C rfl rfl rfl rfl rfl rfl x (Int.natCast_nonneg _) h6 ?_)
     refine rvP C (.agg [.pv (.lit (.bool x.write)), .pv (.lit (.string x.value)), .pv (.lit (.int .i64 x.ver)), .pv (.lit (.int .i64 x.began)), .pv (.lit (.int .i64 x.ended))]) ?_
     refine rvc_un (rexec_prim C (δ := { v := .ptr 6 0, new := [(6, .cells [.pv (.lit (.bool false)), .pv (.lit (.string ⟨#[]⟩)), .pv (.lit (.int .i64 0)), .pv (.lit (.int .i64 0)), .pv (.lit (.int .i64 0))])] }) rfl rfl rfl rfl trivial rfl ?_)
     refine rvP C (.pv (.lit (.int .i64 (i : Int)))) ?_
     refine rvc_un (rexec_prim C (δ := { v := .undef, wr := [(6, some (.cells [.pv (.lit (.bool x.write)), .pv (.lit (.string x.value)), .pv (.lit (.int .i64 x.ver)), .pv (.lit (.int .i64 x.began)), .pv (.lit (.int .i64 x.ended))]))] }) rfl rfl rfl rfl trivial rfl ?_)
     refine rvc_nil ?_
     refine Awp.seq ?_
     refine Awp.cons C (fun _ => .writer) (by kernel_rfl) ?_
     refine rvP C (.ptr 3 0) ?_
     refine rvP C (.pv (.lit (.int .u64 p.done))) ?_
     refine rvP C (.pv (.lit (.int .i64 (i : Int)))) ?_
     refine rvc_un (rexec_call hP C rfl rfl rfl (mHas_calls p.done (i : Int)) ?_)
     refine rvP C (.pv (.lit (.bool (mHas p.done (i : Int))))) ?_
     refine rvc_case 37 (mHas p.done (i : Int)) rfl (fun h7 => ?_) (fun h7 => ?_)
     ·
      replace hR := of_true h7 hR
      refine rvS ?_
      refine rvS ?_
      refine rvS ?_
      refine rvS ?_
      refine rvc_shutU rfl rfl rfl ?_
      refine rvc_shutU rfl rfl rfl ?_
      refine rvc_shutU rfl rfl rfl ?_
      refine rvc_shutU rfl rfl rfl ?_
      refine rvc_shutU rfl rfl rfl ?_
      refine rvc_shutU rfl rfl rfl ?_
      refine rvc_shutU rfl rfl rfl ?_
      refine rvc_shutU rfl rfl rfl ?_
      refine rvc_shutU rfl rfl rfl ?_
      refine rvc_shutU rfl rfl rfl ?_
      refine rvS ?_
      refine rvP C (.pv (.lit (.bool true))) ?_
      refine rvP C (.pv (.lit (.bool true))) ?_
      refine rvS ?_
      refine rvS ?_
      refine rvS ?_
      refine rvS ?_
      refine rvS ?_
      refine rvS ?_
      refine rvP C (.pv (.lit (.bool true))) ?_
      refine rvc_nil ?_
      refine Awp.condT (b := true) rfl rfl ?_
      refine Awp.exit ?_
      refine Awp.regionP C ?_
      refine rvP C (.pv (.lit (.int .i64 (IntKind.i64.wrap ((i : Int) + 1))))) ?_
      refine rvP C (.pv (.lit (.int .i64 (IntKind.i64.wrap ((i : Int) + 1))))) ?_
      refine rvc_nil ?_
      refine ⟨h5, .inr ⟨(vc, vc1), ?_, ?_⟩⟩
      · exact ⟨hR, (by first | rfl | omega | ((first | have h_ := hf0_r (by assumption) | have h_ := hf0_r1 (by assumption) | have h_ := hf0_r2 (by assumption) | have h_ := hf0_r3 (by assumption) | have h_ := hf0_r4 (by assumption) | have h_ := hf0_r5 (by assumption) | have h_ := hf0_r6 (by assumption) | have h_ := hf0_r7 (by assumption) | have h_ := hf0_r8 (by assumption) | have h_ := hf0_r9 (by assumption) | have h_ := hf0_r10 (by assumption) | have h_ := hf0_r11 (by assumption) | have h_ := hf0_r12 (by assumption) | have h_ := hf0_r13 (by assumption) | have h_ := hf0_r14 (by assumption) | have h_ := hf0_r15 (by assumption)); simp at h_; simp; omega))⟩
      · exact ⟨fun b => b, WeakerR.ofLI (I := [0, 1]) (Ks := [0, 1, 3, 900]) hI ⟨⟨rfl, rfl⟩, ⟨rfl, rfl⟩, ⟨rfl, rfl⟩, ⟨rfl, rfl⟩, ⟨lit_cast (wrap_i64 (by omega) (by omega)), rfl⟩, trivial⟩ (okH_cons rfl rfl rfl rfl (okH_map rfl rfl rfl (okH_cons rfl rfl rfl rfl (okH_list rfl rfl rfl (okH_nil))))) rfl rfl⟩
     ·
      replace hR := of_false h7 hR
      refine rvO C (.ptr 6 0) ?_
      refine rvO C (.pv (.lit (.bool x.write))) ?_
      refine rvO C (.pv (.lit (.bool (!x.write)))) ?_
      refine rvO C (.pv (.lit (.bool (!x.write)))) ?_
      refine rvc_case 41 (!x.write) rfl (fun h8 => ?_) (fun h8 => ?_)
      ·
       replace hR := of_true h8 hR
       refine rvO C (.ptr 6 4) ?_
       refine rvO C (.pv (.lit (.int .i64 x.ended))) ?_
       refine rvO C (.pv (.lit (.bool (x.ended == 0)))) ?_
       refine rvO C (.pv (.lit (.bool (x.ended == 0)))) ?_
       refine rvc_case 45 (x.ended == 0) rfl (fun h9 => ?_) (fun h9 => ?_)
       ·
        replace hR := of_true h9 hR
        refine rvS ?_
        refine rvS ?_
        refine rvS ?_
        refine rvS ?_
        refine rvS ?_
        refine rvO C (.pv (.lit (.bool true))) ?_
        refine rvO C (.pv (.lit (.bool true))) ?_
        refine rvP C (.pv (.lit (.bool true))) ?_
        refine rvP C (.pv (.lit (.bool true))) ?_
        refine rvS ?_
        refine rvS ?_
        refine rvS ?_
        refine rvS ?_
        refine rvS ?_
        refine rvS ?_
        refine rvP C (.pv (.lit (.bool true))) ?_
        refine rvc_nil ?_
        refine Awp.condT (b := true) rfl rfl ?_
        refine Awp.exit ?_
        refine Awp.regionP C ?_
        refine rvP C (.pv (.lit (.int .i64 (IntKind.i64.wrap ((i : Int) + 1))))) ?_
        refine rvP C (.pv (.lit (.int .i64 (IntKind.i64.wrap ((i : Int) + 1))))) ?_
        refine rvc_nil ?_
        refine ⟨h5, .inr ⟨(vc, vc1), ?_, ?_⟩⟩
        · exact ⟨hR, (by first | rfl | omega | ((first | have h_ := hf0_r (by assumption) | have h_ := hf0_r1 (by assumption) | have h_ := hf0_r2 (by assumption) | have h_ := hf0_r3 (by assumption) | have h_ := hf0_r4 (by assumption) | have h_ := hf0_r5 (by assumption) | have h_ := hf0_r6 (by assumption) | have h_ := hf0_r7 (by assumption) | have h_ := hf0_r8 (by assumption) | have h_ := hf0_r9 (by assumption) | have h_ := hf0_r10 (by assumption) | have h_ := hf0_r11 (by assumption) | have h_ := hf0_r12 (by assumption) | have h_ := hf0_r13 (by assumption) | have h_ := hf0_r14 (by assumption) | have h_ := hf0_r15 (by assumption)); simp at h_; simp; omega))⟩
        · exact ⟨fun b => b, WeakerR.ofLI (I := [0, 1]) (Ks := [0, 1, 3, 900]) hI ⟨⟨rfl, rfl⟩, ⟨rfl, rfl⟩, ⟨rfl, rfl⟩, ⟨rfl, rfl⟩, ⟨lit_cast (wrap_i64 (by omega) (by omega)), rfl⟩, trivial⟩ (okH_cons rfl rfl rfl rfl (okH_map rfl rfl rfl (okH_cons rfl rfl rfl rfl (okH_list rfl rfl rfl (okH_nil))))) rfl rfl⟩
       ·
        replace hR := of_false h9 hR
        refine rvO C (.ptr 6 1) ?_
        refine rvO C (.pv (.lit (.string x.value))) ?_
        refine rvO C (.ptr 3 1) ?_
        refine rvO C (.pv (.lit (.string p.value))) ?_
        refine rvO C (.pv (.lit (.bool (!(x.value.toList == p.value.toList))))) ?_
        refine rvO C (.pv (.lit (.bool (!(x.value.toList == p.value.toList))))) ?_
        refine rvO C (.pv (.lit (.bool (!(x.value.toList == p.value.toList))))) ?_
        refine rvP C (.pv (.lit (.bool (!(x.value.toList == p.value.toList))))) ?_
        refine rvP C (.pv (.lit (.bool (!(x.value.toList == p.value.toList))))) ?_
        refine rvc_case 54 (!(x.value.toList == p.value.toList)) rfl (fun h10 => ?_) (fun h10 => ?_)
        ·
         replace hR := of_true h10 hR
         refine rvS ?_
         refine rvS ?_
         refine rvS ?_
         refine rvS ?_
         refine rvS ?_
         refine rvS ?_
         refine rvP C (.pv (.lit (.bool true))) ?_
         refine rvc_nil ?_
         refine Awp.condT (b := true) rfl rfl ?_
         refine Awp.exit ?_
         refine Awp.regionP C ?_
         refine rvP C (.pv (.lit (.int .i64 (IntKind.i64.wrap ((i : Int) + 1))))) ?_
         refine rvP C (.pv (.lit (.int .i64 (IntKind.i64.wrap ((i : Int) + 1))))) ?_
         refine rvc_nil ?_
         refine ⟨h5, .inr ⟨(vc, vc1), ?_, ?_⟩⟩
         · exact ⟨hR, (by first | rfl | omega | ((first | have h_ := hf0_r (by assumption) | have h_ := hf0_r1 (by assumption) | have h_ := hf0_r2 (by assumption) | have h_ := hf0_r3 (by assumption) | have h_ := hf0_r4 (by assumption) | have h_ := hf0_r5 (by assumption) | have h_ := hf0_r6 (by assumption) | have h_ := hf0_r7 (by assumption) | have h_ := hf0_r8 (by assumption) | have h_ := hf0_r9 (by assumption) | have h_ := hf0_r10 (by assumption) | have h_ := hf0_r11 (by assumption) | have h_ := hf0_r12 (by assumption) | have h_ := hf0_r13 (by assumption) | have h_ := hf0_r14 (by assumption) | have h_ := hf0_r15 (by assumption)); simp at h_; simp; omega))⟩
         · exact ⟨fun b => b, WeakerR.ofLI (I := [0, 1]) (Ks := [0, 1, 3, 900]) hI ⟨⟨rfl, rfl⟩, ⟨rfl, rfl⟩, ⟨rfl, rfl⟩, ⟨rfl, rfl⟩, ⟨lit_cast (wrap_i64 (by omega) (by omega)), rfl⟩, trivial⟩ (okH_cons rfl rfl rfl rfl (okH_map rfl rfl rfl (okH_cons rfl rfl rfl rfl (okH_list rfl rfl rfl (okH_nil))))) rfl rfl⟩
        ·
         replace hR := of_false h10 hR
         refine rvO C (.ptr 0 0) ?_
         refine rvO C (.pv (.lit (.int .i64 (i : Int)))) ?_
         refine rvO C (.ptr 3 0) ?_
         refine rvO C (.pv (.lit (.int .u64 p.done))) ?_
         refine rvc_open rfl rfl rfl (rexec_callObj hP C (fun b => bif b == 0 then 0 else bif b == 1 then 1 else bif b == 2 then 900 else b) [] rfl rfl rfl (firstSO_calls (Search.mk s.l vc1 (Sl.mk false vc)) (i : Int) p.done ⟨by omega, by show (i : Int) < (s.l.D.length : Int); omega⟩ hl1) rfl rfl ⟨rfl, rfl, trivial⟩ (of_decide_eq_true rfl) rfl (of_decide_eq_true rfl) (of_decide_eq_true rfl) allB_nil allB_nil (allB_cons rfl (allB_cons rfl allB_nil)) ?_ rfl (allB_cons rfl (allB_cons rfl allB_nil)))
         refine rvO C (.pv (.lit (.bool (!(firstSO (Search.mk s.l vc1 (Sl.mk false vc)) (i : Int) p.done))))) ?_
         refine rvP C (.pv (.lit (.bool (!(firstSO (Search.mk s.l vc1 (Sl.mk false vc)) (i : Int) p.done))))) ?_
         refine rvc_nil ?_
         refine Awp.cond (b := (!(firstSO (Search.mk s.l vc1 (Sl.mk false vc)) (i : Int) p.done))) rfl (fun h11 => ?_) (fun h11 => ?_)
         ·
          replace hR := of_true h11 hR
          refine Awp.exit ?_
          refine Awp.regionP C ?_
          refine rvP C (.pv (.lit (.int .i64 (IntKind.i64.wrap ((i : Int) + 1))))) ?_
          refine rvP C (.pv (.lit (.int .i64 (IntKind.i64.wrap ((i : Int) + 1))))) ?_
          refine rvc_nil ?_
          refine ⟨h5, .inr ⟨(vc, vc1), ?_, ?_⟩⟩
          · exact ⟨hR, (by first | rfl | omega | ((first | have h_ := hf0_r (by assumption) | have h_ := hf0_r1 (by assumption) | have h_ := hf0_r2 (by assumption) | have h_ := hf0_r3 (by assumption) | have h_ := hf0_r4 (by assumption) | have h_ := hf0_r5 (by assumption) | have h_ := hf0_r6 (by assumption) | have h_ := hf0_r7 (by assumption) | have h_ := hf0_r8 (by assumption) | have h_ := hf0_r9 (by assumption) | have h_ := hf0_r10 (by assumption) | have h_ := hf0_r11 (by assumption) | have h_ := hf0_r12 (by assumption) | have h_ := hf0_r13 (by assumption) | have h_ := hf0_r14 (by assumption) | have h_ := hf0_r15 (by assumption)); simp at h_; simp; omega))⟩
          · exact ⟨fun b => b, WeakerR.ofLI (I := [0, 1]) (Ks := [0, 1, 3, 900]) hI ⟨⟨rfl, rfl⟩, ⟨rfl, rfl⟩, ⟨rfl, rfl⟩, ⟨rfl, rfl⟩, ⟨lit_cast (wrap_i64 (by omega) (by omega)), rfl⟩, trivial⟩ (okH_cons rfl rfl rfl rfl (okH_map rfl rfl rfl (okH_cons rfl rfl rfl rfl (okH_list rfl rfl rfl (okH_nil))))) rfl rfl⟩
         ·
          replace hR := of_false h11 hR
          refine Awp.skip ?_
          refine Awp.consP C ?_
          refine rvP C (.ptr 3 0) ?_
          refine rvP C (.pv (.lit (.int .u64 p.done))) ?_
          refine rvP C (.pv (.lit (.int .i64 (i : Int)))) ?_
          refine rvc_un (rexec_call hP C rfl rfl rfl (mWith_calls p.done (i : Int)) ?_)
          refine rvP C (.ptr 3 1) ?_
          refine rvP C (.pv (.lit (.string p.value))) ?_
          refine rvP C (.agg [.pv (.lit (.int .u64 (mWith p.done (i : Int)))), .pv (.lit (.string p.value))]) ?_
          refine rvc_un (rexec_prim C (δ := { v := .ptr 7 0, new := [(7, .cells [.pv (.lit (.int .u64 0)), .pv (.lit (.string ⟨#[]⟩))])] }) rfl rfl rfl rfl trivial rfl ?_)
          refine rvc_un (rexec_prim C (δ := { v := .undef, wr := [(7, some (.cells [.pv (.lit (.int .u64 (mWith p.done (i : Int)))), .pv (.lit (.string p.value))]))] }) rfl rfl rfl rfl trivial rfl ?_)
          refine rvc_nil ?_
          refine Awp.seq ?_
          refine Awp.consP C ?_
          refine rvP C (.ptr 6 0) ?_
          refine rvP C (.pv (.lit (.bool x.write))) ?_
          refine rvc_nil ?_
          refine Awp.cond (b := x.write) rfl (fun h12 => ?_) (fun h12 => ?_)
          ·
           replace hR := of_true h12 hR
           refine Awp.regionP C ?_
           refine rvP C (.ptr 6 1) ?_
           refine rvP C (.pv (.lit (.string x.value))) ?_
           refine rvP C (.ptr 7 1) ?_
           refine rvc_un (rexec_prim C (δ := { v := .undef, wr := [(7, some (.cells [.pv (.lit (.int .u64 (mWith p.done (i : Int)))), .pv (.lit (.string x.value))]))] }) rfl rfl rfl rfl trivial rfl ?_)
           refine rvc_nil ?_
           refine Awp.consP C ?_
           refine rvP C (.ptr 0 0) ?_
           refine rvP C (.ptr 0 0) ?_
           refine rvP C (.ptr 0 0) ?_
           refine rvP C (.ptr 0 2) ?_
           refine rvP C (.sl 900 0 vc.length 1 false) ?_
           refine rvP C (.pv (.lit (.int .i64 (i : Int)))) ?_
           refine rvc_un (rexec_buildSliceF C (eI .i64) [(i : Int)] rfl rfl rfl rfl rfl rfl rfl (by decide) rfl ?_)
           refine rvc_un (rexec_append C rfl rfl rfl rfl rfl rfl rfl rfl (fun _ h => by cases h) rfl (en := (eI .i64)) (D0 := vc) (D := [(i : Int)]) rfl rfl rfl rfl (by have := of_decide_eq_true h4; have := ne_of_beq_false h9; first | omega | (simp <;> omega)) (by decide) (nn := (vc ++ [(i : Int)]).length) (by simp) ?_)
           refine rvP C (.ptr 0 0) ?_
           refine rvP C (.ptr 0 2) ?_
           refine rvc_un (rexec_prim C (δ := { v := .undef, wr := [(0, some (.cells [sS (some s.l.nil) eOp s.l.D, .mp 1, .sl 81 0 ((vc ++ [(i : Int)]).length) 1 false]))] }) rfl rfl rfl rfl trivial rfl ?_)
           refine rvc_nil ?_
           refine Awp.seq ?_
           refine Awp.cons C (fun _ => .writer) (by kernel_rfl) ?_
           refine rvP C (.ptr 0 0) ?_
           refine rvP C (.agg [.pv (.lit (.int .u64 (mWith p.done (i : Int)))), .pv (.lit (.string x.value))]) ?_
           obtain ⟨r, hq_r⟩ : ∃ q_, q_ = (fromO 65 (Search.mk s.l vc1 (Sl.mk false (vc ++ [(i : Int)]))) (Point.mk (mWith p.done (i : Int)) x.value)) := ⟨_, rfl⟩
           have hc_r := (fromO_calls 65 (Search.mk s.l vc1 (Sl.mk false (vc ++ [(i : Int)]))) (Point.mk (mWith p.done (i : Int)) x.value) hl64 (with_okD hd (by omega)) (by have h_ := mu_le s.l.D (mWith p.done (i : Int)); show (_ : List Int).length + mu s.l.D (mWith p.done (i : Int)) ≤ 1000000; first | (rw [List.length_append, List.length_singleton]; omega) | (show 1 + _ ≤ _; omega)) (by have h_ := mu_le s.l.D (mWith p.done (i : Int)); show mu s.l.D (mWith p.done (i : Int)) < 65; omega))
           first | rw [← hq_r] at hR hc_r | (unfold fromN at hR; rw [← hq_r] at hR hc_r) | (unfold fromN_l0 at hR; rw [← hq_r] at hR hc_r)
           have hf0_r := fromO_row 65 (Search.mk s.l vc1 (Sl.mk false (vc ++ [(i : Int)]))) (Point.mk (mWith p.done (i : Int)) x.value)
           rw [← hq_r] at hf0_r
           refine rvc_un (rexec_callObj hP C (fun b => bif b == 0 then 0 else bif b == 1 then 1 else bif b == 2 then 81 else b) [(86, 3)] rfl rfl rfl hc_r rfl rfl ⟨rfl, rfl, trivial⟩ (of_decide_eq_true rfl) rfl (of_decide_eq_true rfl) (of_decide_eq_true rfl) (allB_cons rfl allB_nil) (allB_cons rfl allB_nil) (allB_cons rfl (allB_cons rfl allB_nil)) ?_ rfl (allB_cons rfl (allB_cons rfl allB_nil)))
           refine rvc_nil ?_
           refine Awp.cond (b := r.2) rfl (fun h13 => ?_) (fun h13 => ?_)
           ·
            replace hR := of_true h13 hR
            refine Awp.consP C ?_
            refine rvP C (.pv (.lit (.bool true))) ?_
            refine rvc_nil ?_
            refine Awp.freezeW 86 (encL (eI .i64) r.1.row.D) ?_ [(4, .pv (.lit (.bool true)))] [(0, .cells [sS (some s.l.nil) eOp s.l.D, .mp 1, sS (some false) (eI .i64) r.1.row.D]), (1, mapE kPoint vBool.enc r.1.been), (3, .cells [.pv (.lit (.int .u64 p.done)), .pv (.lit (.string p.value))]), (6, .cells [.pv (.lit (.bool x.write)), .pv (.lit (.string x.value)), .pv (.lit (.int .i64 x.ver)), .pv (.lit (.int .i64 x.began)), .pv (.lit (.int .i64 x.ended))]), (7, .cells [.pv (.lit (.int .u64 (mWith p.done (i : Int)))), .pv (.lit (.string x.value))])] ?_ ?_ ?_
            · rfl
            · exact ⟨⟨_, rfl, .inl (.inl rfl)⟩, trivial⟩
            · exact ⟨⟨(by show (0 : Nat) ≠ 86; decide), .inr ⟨_, _, rfl, rfl, ⟨.inl rfl, .inl rfl, .inr ⟨_, _, _, rfl, rfl⟩, trivial⟩⟩⟩, ⟨(by show (1 : Nat) ≠ 86; decide), .inl rfl⟩, ⟨(by show (3 : Nat) ≠ 86; decide), .inl rfl⟩, ⟨(by show (6 : Nat) ≠ 86; decide), .inl rfl⟩, ⟨(by show (7 : Nat) ≠ 86; decide), .inl rfl⟩, trivial⟩
            refine Awp.ret ?_
            subst hR
            exact ⟨.inl rfl, rfl, rfl, ⟨rfl, trivial⟩⟩
           ·
            replace hR := of_false h13 hR
            refine Awp.skip ?_
            refine Awp.regionP C ?_
            refine rvP C (.ptr 0 0) ?_
            refine rvP C (.ptr 0 0) ?_
            refine rvP C (.ptr 0 0) ?_
            refine rvP C (.ptr 0 2) ?_
            refine rvP C (.sl 86 0 r.1.row.D.length 1 false) ?_
            refine rvP C (.ptr 0 0) ?_
            refine rvP C (.ptr 0 0) ?_
            refine rvP C (.ptr 0 2) ?_
            refine rvP C (.sl 86 0 r.1.row.D.length 1 false) ?_
            refine rvP C (.pv (.lit (.int .i64 (r.1.row.D.length : Int)))) ?_
            refine rvP C (.pv (.lit (.int .i64 (IntKind.i64.wrap ((r.1.row.D.length : Int) - 1))))) ?_
            refine rvc_un (rexec_cutOwn C ((r.1.row.D.dropLast).length) rfl rfl rfl rfl rfl rfl rfl ⟨(by have h_ : 1 ≤ r.1.row.D.length ∧ r.1.row.D.length ≤ 9000000000000000000 := (by (first | have h_ := hf0_r (by assumption) | have h_ := hf0_r1 (by assumption) | have h_ := hf0_r2 (by assumption) | have h_ := hf0_r3 (by assumption) | have h_ := hf0_r4 (by assumption) | have h_ := hf0_r5 (by assumption) | have h_ := hf0_r6 (by assumption) | have h_ := hf0_r7 (by assumption) | have h_ := hf0_r8 (by assumption) | have h_ := hf0_r9 (by assumption) | have h_ := hf0_r10 (by assumption) | have h_ := hf0_r11 (by assumption) | have h_ := hf0_r12 (by assumption) | have h_ := hf0_r13 (by assumption) | have h_ := hf0_r14 (by assumption) | have h_ := hf0_r15 (by assumption)); simp at h_; omega); rw [wrap_i64 (by omega) (by omega)]; omega), (by have h_ : 1 ≤ r.1.row.D.length ∧ r.1.row.D.length ≤ 9000000000000000000 := (by (first | have h_ := hf0_r (by assumption) | have h_ := hf0_r1 (by assumption) | have h_ := hf0_r2 (by assumption) | have h_ := hf0_r3 (by assumption) | have h_ := hf0_r4 (by assumption) | have h_ := hf0_r5 (by assumption) | have h_ := hf0_r6 (by assumption) | have h_ := hf0_r7 (by assumption) | have h_ := hf0_r8 (by assumption) | have h_ := hf0_r9 (by assumption) | have h_ := hf0_r10 (by assumption) | have h_ := hf0_r11 (by assumption) | have h_ := hf0_r12 (by assumption) | have h_ := hf0_r13 (by assumption) | have h_ := hf0_r14 (by assumption) | have h_ := hf0_r15 (by assumption)); simp at h_; omega); rw [wrap_i64 (by omega) (by omega)]; omega)⟩ (by have h_ : 1 ≤ r.1.row.D.length ∧ r.1.row.D.length ≤ 9000000000000000000 := (by (first | have h_ := hf0_r (by assumption) | have h_ := hf0_r1 (by assumption) | have h_ := hf0_r2 (by assumption) | have h_ := hf0_r3 (by assumption) | have h_ := hf0_r4 (by assumption) | have h_ := hf0_r5 (by assumption) | have h_ := hf0_r6 (by assumption) | have h_ := hf0_r7 (by assumption) | have h_ := hf0_r8 (by assumption) | have h_ := hf0_r9 (by assumption) | have h_ := hf0_r10 (by assumption) | have h_ := hf0_r11 (by assumption) | have h_ := hf0_r12 (by assumption) | have h_ := hf0_r13 (by assumption) | have h_ := hf0_r14 (by assumption) | have h_ := hf0_r15 (by assumption)); simp at h_; omega); rw [wrap_i64 (by omega) (by omega)]; rw [List.length_dropLast]; omega) ?_)
            refine rvP C (.ptr 0 0) ?_
            refine rvP C (.ptr 0 2) ?_
            refine rvc_un (rexec_prim C (δ := { v := .undef, wr := [(0, some (.cells [sS (some s.l.nil) eOp s.l.D, .mp 1, .sl 86 0 ((r.1.row.D.dropLast).length) 1 false]))] }) rfl rfl rfl rfl trivial rfl ?_)
            refine rvc_nil ?_
            refine Awp.cutB 86 ((r.1.row.D.length - 1) * (eI .i64).sz) _ rfl (encC (eI .i64) (r.1.row.D.dropLast)) (encC_dropLast _) ?_
            refine Awp.regionP C ?_
            refine rvP C (.pv (.lit (.int .i64 (IntKind.i64.wrap ((i : Int) + 1))))) ?_
            refine rvP C (.pv (.lit (.int .i64 (IntKind.i64.wrap ((i : Int) + 1))))) ?_
            refine rvc_nil ?_
            refine ⟨h5, .inr ⟨((r.1.row.D.dropLast), r.1.been), ?_, ?_⟩⟩
            · exact ⟨hR, (by first | rfl | omega | ((first | have h_ := hf0_r (by assumption) | have h_ := hf0_r1 (by assumption) | have h_ := hf0_r2 (by assumption) | have h_ := hf0_r3 (by assumption) | have h_ := hf0_r4 (by assumption) | have h_ := hf0_r5 (by assumption) | have h_ := hf0_r6 (by assumption) | have h_ := hf0_r7 (by assumption) | have h_ := hf0_r8 (by assumption) | have h_ := hf0_r9 (by assumption) | have h_ := hf0_r10 (by assumption) | have h_ := hf0_r11 (by assumption) | have h_ := hf0_r12 (by assumption) | have h_ := hf0_r13 (by assumption) | have h_ := hf0_r14 (by assumption) | have h_ := hf0_r15 (by assumption)); simp at h_; simp; omega))⟩
            · exact ⟨fun b => bif b == 900 then 86 else (fun b => b) b, WeakerR.ofLI (I := [0, 1]) (Ks := [0, 1, 3, 900]) hI ⟨⟨rfl, rfl⟩, ⟨rfl, rfl⟩, ⟨rfl, rfl⟩, ⟨rfl, rfl⟩, ⟨lit_cast (wrap_i64 (by omega) (by omega)), rfl⟩, trivial⟩ (okH_cons rfl rfl rfl rfl (okH_map rfl rfl rfl (okH_cons rfl rfl rfl rfl (okH_list rfl rfl rfl (okH_nil))))) rfl rfl⟩
          ·
           replace hR := of_false h12 hR
           refine Awp.skip ?_
           refine Awp.consP C ?_
           refine rvP C (.ptr 0 0) ?_
           refine rvP C (.ptr 0 0) ?_
           refine rvP C (.ptr 0 0) ?_
           refine rvP C (.ptr 0 2) ?_
           refine rvP C (.sl 900 0 vc.length 1 false) ?_
           refine rvP C (.pv (.lit (.int .i64 (i : Int)))) ?_
           refine rvc_un (rexec_buildSliceF C (eI .i64) [(i : Int)] rfl rfl rfl rfl rfl rfl rfl (by decide) rfl ?_)
           refine rvc_un (rexec_append C rfl rfl rfl rfl rfl rfl rfl rfl (fun _ h => by cases h) rfl (en := (eI .i64)) (D0 := vc) (D := [(i : Int)]) rfl rfl rfl rfl (by have := of_decide_eq_true h4; have := ne_of_beq_false h9; first | omega | (simp <;> omega)) (by decide) (nn := (vc ++ [(i : Int)]).length) (by simp) ?_)
           refine rvP C (.ptr 0 0) ?_
           refine rvP C (.ptr 0 2) ?_
           refine rvc_un (rexec_prim C (δ := { v := .undef, wr := [(0, some (.cells [sS (some s.l.nil) eOp s.l.D, .mp 1, .sl 81 0 ((vc ++ [(i : Int)]).length) 1 false]))] }) rfl rfl rfl rfl trivial rfl ?_)
           refine rvc_nil ?_
           refine Awp.seq ?_
           refine Awp.cons C (fun _ => .writer) (by kernel_rfl) ?_
           refine rvP C (.ptr 0 0) ?_
           refine rvP C (.agg [.pv (.lit (.int .u64 (mWith p.done (i : Int)))), .pv (.lit (.string p.value))]) ?_
           obtain ⟨r1, hq_r1⟩ : ∃ q_, q_ = (fromO 65 (Search.mk s.l vc1 (Sl.mk false (vc ++ [(i : Int)]))) (Point.mk (mWith p.done (i : Int)) p.value)) := ⟨_, rfl⟩
           have hc_r1 := (fromO_calls 65 (Search.mk s.l vc1 (Sl.mk false (vc ++ [(i : Int)]))) (Point.mk (mWith p.done (i : Int)) p.value) hl64 (with_okD hd (by omega)) (by have h_ := mu_le s.l.D (mWith p.done (i : Int)); show (_ : List Int).length + mu s.l.D (mWith p.done (i : Int)) ≤ 1000000; first | (rw [List.length_append, List.length_singleton]; omega) | (show 1 + _ ≤ _; omega)) (by have h_ := mu_le s.l.D (mWith p.done (i : Int)); show mu s.l.D (mWith p.done (i : Int)) < 65; omega))
           first | rw [← hq_r1] at hR hc_r1 | (unfold fromN at hR; rw [← hq_r1] at hR hc_r1) | (unfold fromN_l0 at hR; rw [← hq_r1] at hR hc_r1)
           have hf0_r1 := fromO_row 65 (Search.mk s.l vc1 (Sl.mk false (vc ++ [(i : Int)]))) (Point.mk (mWith p.done (i : Int)) p.value)
           rw [← hq_r1] at hf0_r1
           refine rvc_un (rexec_callObj hP C (fun b => bif b == 0 then 0 else bif b == 1 then 1 else bif b == 2 then 81 else b) [(86, 3)] rfl rfl rfl hc_r1 rfl rfl ⟨rfl, rfl, trivial⟩ (of_decide_eq_true rfl) rfl (of_decide_eq_true rfl) (of_decide_eq_true rfl) (allB_cons rfl allB_nil) (allB_cons rfl allB_nil) (allB_cons rfl (allB_cons rfl allB_nil)) ?_ rfl (allB_cons rfl (allB_cons rfl allB_nil)))
           refine rvc_nil ?_
           refine Awp.cond (b := r1.2) rfl (fun h14 => ?_) (fun h14 => ?_)
           ·
            replace hR := of_true h14 hR
            refine Awp.consP C ?_
            refine rvP C (.pv (.lit (.bool true))) ?_
            refine rvc_nil ?_
            refine Awp.freezeW 86 (encL (eI .i64) r1.1.row.D) ?_ [(4, .pv (.lit (.bool true)))] [(0, .cells [sS (some s.l.nil) eOp s.l.D, .mp 1, sS (some false) (eI .i64) r1.1.row.D]), (1, mapE kPoint vBool.enc r1.1.been), (3, .cells [.pv (.lit (.int .u64 p.done)), .pv (.lit (.string p.value))]), (6, .cells [.pv (.lit (.bool x.write)), .pv (.lit (.string x.value)), .pv (.lit (.int .i64 x.ver)), .pv (.lit (.int .i64 x.began)), .pv (.lit (.int .i64 x.ended))]), (7, .cells [.pv (.lit (.int .u64 (mWith p.done (i : Int)))), .pv (.lit (.string p.value))])] ?_ ?_ ?_
            · rfl
            · exact ⟨⟨_, rfl, .inl (.inl rfl)⟩, trivial⟩
            · exact ⟨⟨(by show (0 : Nat) ≠ 86; decide), .inr ⟨_, _, rfl, rfl, ⟨.inl rfl, .inl rfl, .inr ⟨_, _, _, rfl, rfl⟩, trivial⟩⟩⟩, ⟨(by show (1 : Nat) ≠ 86; decide), .inl rfl⟩, ⟨(by show (3 : Nat) ≠ 86; decide), .inl rfl⟩, ⟨(by show (6 : Nat) ≠ 86; decide), .inl rfl⟩, ⟨(by show (7 : Nat) ≠ 86; decide), .inl rfl⟩, trivial⟩
            refine Awp.ret ?_
            subst hR
            exact ⟨.inl rfl, rfl, rfl, ⟨rfl, trivial⟩⟩
           ·
            replace hR := of_false h14 hR
            refine Awp.skip ?_
            refine Awp.regionP C ?_
            refine rvP C (.ptr 0 0) ?_
            refine rvP C (.ptr 0 0) ?_
            refine rvP C (.ptr 0 0) ?_
            refine rvP C (.ptr 0 2) ?_
            refine rvP C (.sl 86 0 r1.1.row.D.length 1 false) ?_
            refine rvP C (.ptr 0 0) ?_
            refine rvP C (.ptr 0 0) ?_
            refine rvP C (.ptr 0 2) ?_
            refine rvP C (.sl 86 0 r1.1.row.D.length 1 false) ?_
            refine rvP C (.pv (.lit (.int .i64 (r1.1.row.D.length : Int)))) ?_
            refine rvP C (.pv (.lit (.int .i64 (IntKind.i64.wrap ((r1.1.row.D.length : Int) - 1))))) ?_
            refine rvc_un (rexec_cutOwn C ((r1.1.row.D.dropLast).length) rfl rfl rfl rfl rfl rfl rfl ⟨(by have h_ : 1 ≤ r1.1.row.D.length ∧ r1.1.row.D.length ≤ 9000000000000000000 := (by (first | have h_ := hf0_r (by assumption) | have h_ := hf0_r1 (by assumption) | have h_ := hf0_r2 (by assumption) | have h_ := hf0_r3 (by assumption) | have h_ := hf0_r4 (by assumption) | have h_ := hf0_r5 (by assumption) | have h_ := hf0_r6 (by assumption) | have h_ := hf0_r7 (by assumption) | have h_ := hf0_r8 (by assumption) | have h_ := hf0_r9 (by assumption) | have h_ := hf0_r10 (by assumption) | have h_ := hf0_r11 (by assumption) | have h_ := hf0_r12 (by assumption) | have h_ := hf0_r13 (by assumption) | have h_ := hf0_r14 (by assumption) | have h_ := hf0_r15 (by assumption)); simp at h_; omega); rw [wrap_i64 (by omega) (by omega)]; omega), (by have h_ : 1 ≤ r1.1.row.D.length ∧ r1.1.row.D.length ≤ 9000000000000000000 := (by (first | have h_ := hf0_r (by assumption) | have h_ := hf0_r1 (by assumption) | have h_ := hf0_r2 (by assumption) | have h_ := hf0_r3 (by assumption) | have h_ := hf0_r4 (by assumption) | have h_ := hf0_r5 (by assumption) | have h_ := hf0_r6 (by assumption) | have h_ := hf0_r7 (by assumption) | have h_ := hf0_r8 (by assumption) | have h_ := hf0_r9 (by assumption) | have h_ := hf0_r10 (by assumption) | have h_ := hf0_r11 (by assumption) | have h_ := hf0_r12 (by assumption) | have h_ := hf0_r13 (by assumption) | have h_ := hf0_r14 (by assumption) | have h_ := hf0_r15 (by assumption)); simp at h_; omega); rw [wrap_i64 (by omega) (by omega)]; omega)⟩ (by have h_ : 1 ≤ r1.1.row.D.length ∧ r1.1.row.D.length ≤ 9000000000000000000 := (by (first | have h_ := hf0_r (by assumption) | have h_ := hf0_r1 (by assumption) | have h_ := hf0_r2 (by assumption) | have h_ := hf0_r3 (by assumption) | have h_ := hf0_r4 (by assumption) | have h_ := hf0_r5 (by assumption) | have h_ := hf0_r6 (by assumption) | have h_ := hf0_r7 (by assumption) | have h_ := hf0_r8 (by assumption) | have h_ := hf0_r9 (by assumption) | have h_ := hf0_r10 (by assumption) | have h_ := hf0_r11 (by assumption) | have h_ := hf0_r12 (by assumption) | have h_ := hf0_r13 (by assumption) | have h_ := hf0_r14 (by assumption) | have h_ := hf0_r15 (by assumption)); simp at h_; omega); rw [wrap_i64 (by omega) (by omega)]; rw [List.length_dropLast]; omega) ?_)
            refine rvP C (.ptr 0 0) ?_
            refine rvP C (.ptr 0 2) ?_
            refine rvc_un (rexec_prim C (δ := { v := .undef, wr := [(0, some (.cells [sS (some s.l.nil) eOp s.l.D, .mp 1, .sl 86 0 ((r1.1.row.D.dropLast).length) 1 false]))] }) rfl rfl rfl rfl trivial rfl ?_)
            refine rvc_nil ?_
            refine Awp.cutB 86 ((r1.1.row.D.length - 1) * (eI .i64).sz) _ rfl (encC (eI .i64) (r1.1.row.D.dropLast)) (encC_dropLast _) ?_
            refine Awp.regionP C ?_
            refine rvP C (.pv (.lit (.int .i64 (IntKind.i64.wrap ((i : Int) + 1))))) ?_
            refine rvP C (.pv (.lit (.int .i64 (IntKind.i64.wrap ((i : Int) + 1))))) ?_
            refine rvc_nil ?_
            refine ⟨h5, .inr ⟨((r1.1.row.D.dropLast), r1.1.been), ?_, ?_⟩⟩
            · exact ⟨hR, (by first | rfl | omega | ((first | have h_ := hf0_r (by assumption) | have h_ := hf0_r1 (by assumption) | have h_ := hf0_r2 (by assumption) | have h_ := hf0_r3 (by assumption) | have h_ := hf0_r4 (by assumption) | have h_ := hf0_r5 (by assumption) | have h_ := hf0_r6 (by assumption) | have h_ := hf0_r7 (by assumption) | have h_ := hf0_r8 (by assumption) | have h_ := hf0_r9 (by assumption) | have h_ := hf0_r10 (by assumption) | have h_ := hf0_r11 (by assumption) | have h_ := hf0_r12 (by assumption) | have h_ := hf0_r13 (by assumption) | have h_ := hf0_r14 (by assumption) | have h_ := hf0_r15 (by assumption)); simp at h_; simp; omega))⟩
            · exact ⟨fun b => bif b == 900 then 86 else (fun b => b) b, WeakerR.ofLI (I := [0, 1]) (Ks := [0, 1, 3, 900]) hI ⟨⟨rfl, rfl⟩, ⟨rfl, rfl⟩, ⟨rfl, rfl⟩, ⟨rfl, rfl⟩, ⟨lit_cast (wrap_i64 (by omega) (by omega)), rfl⟩, trivial⟩ (okH_cons rfl rfl rfl rfl (okH_map rfl rfl rfl (okH_cons rfl rfl rfl rfl (okH_list rfl rfl rfl (okH_nil))))) rfl rfl⟩
      ·
       replace hR := of_false h8 hR
       refine rvS ?_
       refine rvS ?_
       refine rvS ?_
       refine rvS ?_
       refine rvc_shutU rfl rfl rfl ?_
       refine rvc_shutU rfl rfl rfl ?_
       refine rvc_shutU rfl rfl rfl ?_
       refine rvc_shutU rfl rfl rfl ?_
       refine rvc_shutU rfl rfl rfl ?_
       refine rvS ?_
       refine rvO C (.pv (.lit (.bool false))) ?_
       refine rvP C (.pv (.lit (.bool false))) ?_
       refine rvP C (.pv (.lit (.bool false))) ?_
       refine rvO C (.ptr 0 0) ?_
       refine rvO C (.pv (.lit (.int .i64 (i : Int)))) ?_
       refine rvO C (.ptr 3 0) ?_
       refine rvO C (.pv (.lit (.int .u64 p.done))) ?_
       refine rvc_open rfl rfl rfl (rexec_callObj hP C (fun b => bif b == 0 then 0 else bif b == 1 then 1 else bif b == 2 then 900 else b) [] rfl rfl rfl (firstSO_calls (Search.mk s.l vc1 (Sl.mk false vc)) (i : Int) p.done ⟨by omega, by show (i : Int) < (s.l.D.length : Int); omega⟩ hl1) rfl rfl ⟨rfl, rfl, trivial⟩ (of_decide_eq_true rfl) rfl (of_decide_eq_true rfl) (of_decide_eq_true rfl) allB_nil allB_nil (allB_cons rfl (allB_cons rfl allB_nil)) ?_ rfl (allB_cons rfl (allB_cons rfl allB_nil)))
       refine rvO C (.pv (.lit (.bool (!(firstSO (Search.mk s.l vc1 (Sl.mk false vc)) (i : Int) p.done))))) ?_
       refine rvP C (.pv (.lit (.bool (!(firstSO (Search.mk s.l vc1 (Sl.mk false vc)) (i : Int) p.done))))) ?_
       refine rvc_nil ?_
       refine Awp.cond (b := (!(firstSO (Search.mk s.l vc1 (Sl.mk false vc)) (i : Int) p.done))) rfl (fun h15 => ?_) (fun h15 => ?_)
       ·
        replace hR := of_true h15 hR
        refine Awp.exit ?_
        refine Awp.regionP C ?_
        refine rvP C (.pv (.lit (.int .i64 (IntKind.i64.wrap ((i : Int) + 1))))) ?_
        refine rvP C (.pv (.lit (.int .i64 (IntKind.i64.wrap ((i : Int) + 1))))) ?_
        refine rvc_nil ?_
        refine ⟨h5, .inr ⟨(vc, vc1), ?_, ?_⟩⟩
        · exact ⟨hR, (by first | rfl | omega | ((first | have h_ := hf0_r (by assumption) | have h_ := hf0_r1 (by assumption) | have h_ := hf0_r2 (by assumption) | have h_ := hf0_r3 (by assumption) | have h_ := hf0_r4 (by assumption) | have h_ := hf0_r5 (by assumption) | have h_ := hf0_r6 (by assumption) | have h_ := hf0_r7 (by assumption) | have h_ := hf0_r8 (by assumption) | have h_ := hf0_r9 (by assumption) | have h_ := hf0_r10 (by assumption) | have h_ := hf0_r11 (by assumption) | have h_ := hf0_r12 (by assumption) | have h_ := hf0_r13 (by assumption) | have h_ := hf0_r14 (by assumption) | have h_ := hf0_r15 (by assumption)); simp at h_; simp; omega))⟩
        · exact ⟨fun b => b, WeakerR.ofLI (I := [0, 1]) (Ks := [0, 1, 3, 900]) hI ⟨⟨rfl, rfl⟩, ⟨rfl, rfl⟩, ⟨rfl, rfl⟩, ⟨rfl, rfl⟩, ⟨lit_cast (wrap_i64 (by omega) (by omega)), rfl⟩, trivial⟩ (okH_cons rfl rfl rfl rfl (okH_map rfl rfl rfl (okH_cons rfl rfl rfl rfl (okH_list rfl rfl rfl (okH_nil))))) rfl rfl⟩
       ·
        replace hR := of_false h15 hR
        refine Awp.skip ?_
        refine Awp.consP C ?_
        refine rvP C (.ptr 3 0) ?_
        refine rvP C (.pv (.lit (.int .u64 p.done))) ?_
        refine rvP C (.pv (.lit (.int .i64 (i : Int)))) ?_
        refine rvc_un (rexec_call hP C rfl rfl rfl (mWith_calls p.done (i : Int)) ?_)
        refine rvP C (.ptr 3 1) ?_
        refine rvP C (.pv (.lit (.string p.value))) ?_
        refine rvP C (.agg [.pv (.lit (.int .u64 (mWith p.done (i : Int)))), .pv (.lit (.string p.value))]) ?_
        refine rvc_un (rexec_prim C (δ := { v := .ptr 7 0, new := [(7, .cells [.pv (.lit (.int .u64 0)), .pv (.lit (.string ⟨#[]⟩))])] }) rfl rfl rfl rfl trivial rfl ?_)
        refine rvc_un (rexec_prim C (δ := { v := .undef, wr := [(7, some (.cells [.pv (.lit (.int .u64 (mWith p.done (i : Int)))), .pv (.lit (.string p.value))]))] }) rfl rfl rfl rfl trivial rfl ?_)
        refine rvc_nil ?_
        refine Awp.seq ?_
        refine Awp.consP C ?_
        refine rvP C (.ptr 6 0) ?_
        refine rvP C (.pv (.lit (.bool x.write))) ?_
        refine rvc_nil ?_
        refine Awp.cond (b := x.write) rfl (fun h16 => ?_) (fun h16 => ?_)
        ·
         replace hR := of_true h16 hR
         refine Awp.regionP C ?_
         refine rvP C (.ptr 6 1) ?_
         refine rvP C (.pv (.lit (.string x.value))) ?_
         refine rvP C (.ptr 7 1) ?_
         refine rvc_un (rexec_prim C (δ := { v := .undef, wr := [(7, some (.cells [.pv (.lit (.int .u64 (mWith p.done (i : Int)))), .pv (.lit (.string x.value))]))] }) rfl rfl rfl rfl trivial rfl ?_)
         refine rvc_nil ?_
         refine Awp.consP C ?_
         refine rvP C (.ptr 0 0) ?_
         refine rvP C (.ptr 0 0) ?_
         refine rvP C (.ptr 0 0) ?_
         refine rvP C (.ptr 0 2) ?_
         refine rvP C (.sl 900 0 vc.length 1 false) ?_
         refine rvP C (.pv (.lit (.int .i64 (i : Int)))) ?_
         refine rvc_un (rexec_buildSliceF C (eI .i64) [(i : Int)] rfl rfl rfl rfl rfl rfl rfl (by decide) rfl ?_)
         refine rvc_un (rexec_append C rfl rfl rfl rfl rfl rfl rfl rfl (fun _ h => by cases h) rfl (en := (eI .i64)) (D0 := vc) (D := [(i : Int)]) rfl rfl rfl rfl (by have := of_decide_eq_true h4; first | omega | (simp <;> omega)) (by decide) (nn := (vc ++ [(i : Int)]).length) (by simp) ?_)
         refine rvP C (.ptr 0 0) ?_
         refine rvP C (.ptr 0 2) ?_
         refine rvc_un (rexec_prim C (δ := { v := .undef, wr := [(0, some (.cells [sS (some s.l.nil) eOp s.l.D, .mp 1, .sl 81 0 ((vc ++ [(i : Int)]).length) 1 false]))] }) rfl rfl rfl rfl trivial rfl ?_)
         refine rvc_nil ?_
         refine Awp.seq ?_
         refine Awp.cons C (fun _ => .writer) (by kernel_rfl) ?_
         refine rvP C (.ptr 0 0) ?_
         refine rvP C (.agg [.pv (.lit (.int .u64 (mWith p.done (i : Int)))), .pv (.lit (.string x.value))]) ?_
         obtain ⟨r2, hq_r2⟩ : ∃ q_, q_ = (fromO 65 (Search.mk s.l vc1 (Sl.mk false (vc ++ [(i : Int)]))) (Point.mk (mWith p.done (i : Int)) x.value)) := ⟨_, rfl⟩
         have hc_r2 := (fromO_calls 65 (Search.mk s.l vc1 (Sl.mk false (vc ++ [(i : Int)]))) (Point.mk (mWith p.done (i : Int)) x.value) hl64 (with_okD hd (by omega)) (by have h_ := mu_le s.l.D (mWith p.done (i : Int)); show (_ : List Int).length + mu s.l.D (mWith p.done (i : Int)) ≤ 1000000; first | (rw [List.length_append, List.length_singleton]; omega) | (show 1 + _ ≤ _; omega)) (by have h_ := mu_le s.l.D (mWith p.done (i : Int)); show mu s.l.D (mWith p.done (i : Int)) < 65; omega))
         first | rw [← hq_r2] at hR hc_r2 | (unfold fromN at hR; rw [← hq_r2] at hR hc_r2) | (unfold fromN_l0 at hR; rw [← hq_r2] at hR hc_r2)
         have hf0_r2 := fromO_row 65 (Search.mk s.l vc1 (Sl.mk false (vc ++ [(i : Int)]))) (Point.mk (mWith p.done (i : Int)) x.value)
         rw [← hq_r2] at hf0_r2
         refine rvc_un (rexec_callObj hP C (fun b => bif b == 0 then 0 else bif b == 1 then 1 else bif b == 2 then 81 else b) [(86, 3)] rfl rfl rfl hc_r2 rfl rfl ⟨rfl, rfl, trivial⟩ (of_decide_eq_true rfl) rfl (of_decide_eq_true rfl) (of_decide_eq_true rfl) (allB_cons rfl allB_nil) (allB_cons rfl allB_nil) (allB_cons rfl (allB_cons rfl allB_nil)) ?_ rfl (allB_cons rfl (allB_cons rfl allB_nil)))
         refine rvc_nil ?_
         refine Awp.cond (b := r2.2) rfl (fun h17 => ?_) (fun h17 => ?_)
         ·
          replace hR := of_true h17 hR
          refine Awp.consP C ?_
          refine rvP C (.pv (.lit (.bool true))) ?_
          refine rvc_nil ?_
          refine Awp.freezeW 86 (encL (eI .i64) r2.1.row.D) ?_ [(4, .pv (.lit (.bool true)))] [(0, .cells [sS (some s.l.nil) eOp s.l.D, .mp 1, sS (some false) (eI .i64) r2.1.row.D]), (1, mapE kPoint vBool.enc r2.1.been), (3, .cells [.pv (.lit (.int .u64 p.done)), .pv (.lit (.string p.value))]), (6, .cells [.pv (.lit (.bool x.write)), .pv (.lit (.string x.value)), .pv (.lit (.int .i64 x.ver)), .pv (.lit (.int .i64 x.began)), .pv (.lit (.int .i64 x.ended))]), (7, .cells [.pv (.lit (.int .u64 (mWith p.done (i : Int)))), .pv (.lit (.string x.value))])] ?_ ?_ ?_
          · rfl
          · exact ⟨⟨_, rfl, .inl (.inl rfl)⟩, trivial⟩
          · exact ⟨⟨(by show (0 : Nat) ≠ 86; decide), .inr ⟨_, _, rfl, rfl, ⟨.inl rfl, .inl rfl, .inr ⟨_, _, _, rfl, rfl⟩, trivial⟩⟩⟩, ⟨(by show (1 : Nat) ≠ 86; decide), .inl rfl⟩, ⟨(by show (3 : Nat) ≠ 86; decide), .inl rfl⟩, ⟨(by show (6 : Nat) ≠ 86; decide), .inl rfl⟩, ⟨(by show (7 : Nat) ≠ 86; decide), .inl rfl⟩, trivial⟩
          refine Awp.ret ?_
          subst hR
          exact ⟨.inl rfl, rfl, rfl, ⟨rfl, trivial⟩⟩
         ·
          replace hR := of_false h17 hR
          refine Awp.skip ?_
          refine Awp.regionP C ?_
          refine rvP C (.ptr 0 0) ?_
          refine rvP C (.ptr 0 0) ?_
          refine rvP C (.ptr 0 0) ?_
          refine rvP C (.ptr 0 2) ?_
          refine rvP C (.sl 86 0 r2.1.row.D.length 1 false) ?_
          refine rvP C (.ptr 0 0) ?_
          refine rvP C (.ptr 0 0) ?_
          refine rvP C (.ptr 0 2) ?_
          refine rvP C (.sl 86 0 r2.1.row.D.length 1 false) ?_
          refine rvP C (.pv (.lit (.int .i64 (r2.1.row.D.length : Int)))) ?_
          refine rvP C (.pv (.lit (.int .i64 (IntKind.i64.wrap ((r2.1.row.D.length : Int) - 1))))) ?_
          refine rvc_un (rexec_cutOwn C ((r2.1.row.D.dropLast).length) rfl rfl rfl rfl rfl rfl rfl ⟨(by have h_ : 1 ≤ r2.1.row.D.length ∧ r2.1.row.D.length ≤ 9000000000000000000 := (by (first | have h_ := hf0_r (by assumption) | have h_ := hf0_r1 (by assumption) | have h_ := hf0_r2 (by assumption) | have h_ := hf0_r3 (by assumption) | have h_ := hf0_r4 (by assumption) | have h_ := hf0_r5 (by assumption) | have h_ := hf0_r6 (by assumption) | have h_ := hf0_r7 (by assumption) | have h_ := hf0_r8 (by assumption) | have h_ := hf0_r9 (by assumption) | have h_ := hf0_r10 (by assumption) | have h_ := hf0_r11 (by assumption) | have h_ := hf0_r12 (by assumption) | have h_ := hf0_r13 (by assumption) | have h_ := hf0_r14 (by assumption) | have h_ := hf0_r15 (by assumption)); simp at h_; omega); rw [wrap_i64 (by omega) (by omega)]; omega), (by have h_ : 1 ≤ r2.1.row.D.length ∧ r2.1.row.D.length ≤ 9000000000000000000 := (by (first | have h_ := hf0_r (by assumption) | have h_ := hf0_r1 (by assumption) | have h_ := hf0_r2 (by assumption) | have h_ := hf0_r3 (by assumption) | have h_ := hf0_r4 (by assumption) | have h_ := hf0_r5 (by assumption) | have h_ := hf0_r6 (by assumption) | have h_ := hf0_r7 (by assumption) | have h_ := hf0_r8 (by assumption) | have h_ := hf0_r9 (by assumption) | have h_ := hf0_r10 (by assumption) | have h_ := hf0_r11 (by assumption) | have h_ := hf0_r12 (by assumption) | have h_ := hf0_r13 (by assumption) | have h_ := hf0_r14 (by assumption) | have h_ := hf0_r15 (by assumption)); simp at h_; omega); rw [wrap_i64 (by omega) (by omega)]; omega)⟩ (by have h_ : 1 ≤ r2.1.row.D.length ∧ r2.1.row.D.length ≤ 9000000000000000000 := (by (first | have h_ := hf0_r (by assumption) | have h_ := hf0_r1 (by assumption) | have h_ := hf0_r2 (by assumption) | have h_ := hf0_r3 (by assumption) | have h_ := hf0_r4 (by assumption) | have h_ := hf0_r5 (by assumption) | have h_ := hf0_r6 (by assumption) | have h_ := hf0_r7 (by assumption) | have h_ := hf0_r8 (by assumption) | have h_ := hf0_r9 (by assumption) | have h_ := hf0_r10 (by assumption) | have h_ := hf0_r11 (by assumption) | have h_ := hf0_r12 (by assumption) | have h_ := hf0_r13 (by assumption) | have h_ := hf0_r14 (by assumption) | have h_ := hf0_r15 (by assumption)); simp at h_; omega); rw [wrap_i64 (by omega) (by omega)]; rw [List.length_dropLast]; omega) ?_)
          refine rvP C (.ptr 0 0) ?_
          refine rvP C (.ptr 0 2) ?_
          refine rvc_un (rexec_prim C (δ := { v := .undef, wr := [(0, some (.cells [sS (some s.l.nil) eOp s.l.D, .mp 1, .sl 86 0 ((r2.1.row.D.dropLast).length) 1 false]))] }) rfl rfl rfl rfl trivial rfl ?_)
          refine rvc_nil ?_
          refine Awp.cutB 86 ((r2.1.row.D.length - 1) * (eI .i64).sz) _ rfl (encC (eI .i64) (r2.1.row.D.dropLast)) (encC_dropLast _) ?_
          refine Awp.regionP C ?_
          refine rvP C (.pv (.lit (.int .i64 (IntKind.i64.wrap ((i : Int) + 1))))) ?_
          refine rvP C (.pv (.lit (.int .i64 (IntKind.i64.wrap ((i : Int) + 1))))) ?_
          refine rvc_nil ?_
          refine ⟨h5, .inr ⟨((r2.1.row.D.dropLast), r2.1.been), ?_, ?_⟩⟩
          · exact ⟨hR, (by first | rfl | omega | ((first | have h_ := hf0_r (by assumption) | have h_ := hf0_r1 (by assumption) | have h_ := hf0_r2 (by assumption) | have h_ := hf0_r3 (by assumption) | have h_ := hf0_r4 (by assumption) | have h_ := hf0_r5 (by assumption) | have h_ := hf0_r6 (by assumption) | have h_ := hf0_r7 (by assumption) | have h_ := hf0_r8 (by assumption) | have h_ := hf0_r9 (by assumption) | have h_ := hf0_r10 (by assumption) | have h_ := hf0_r11 (by assumption) | have h_ := hf0_r12 (by assumption) | have h_ := hf0_r13 (by assumption) | have h_ := hf0_r14 (by assumption) | have h_ := hf0_r15 (by assumption)); simp at h_; simp; omega))⟩
          · exact ⟨fun b => bif b == 900 then 86 else (fun b => b) b, WeakerR.ofLI (I := [0, 1]) (Ks := [0, 1, 3, 900]) hI ⟨⟨rfl, rfl⟩, ⟨rfl, rfl⟩, ⟨rfl, rfl⟩, ⟨rfl, rfl⟩, ⟨lit_cast (wrap_i64 (by omega) (by omega)), rfl⟩, trivial⟩ (okH_cons rfl rfl rfl rfl (okH_map rfl rfl rfl (okH_cons rfl rfl rfl rfl (okH_list rfl rfl rfl (okH_nil))))) rfl rfl⟩
        ·
         replace hR := of_false h16 hR
         refine Awp.skip ?_
         refine Awp.consP C ?_
         refine rvP C (.ptr 0 0) ?_
         refine rvP C (.ptr 0 0) ?_
         refine rvP C (.ptr 0 0) ?_
         refine rvP C (.ptr 0 2) ?_
         refine rvP C (.sl 900 0 vc.length 1 false) ?_
         refine rvP C (.pv (.lit (.int .i64 (i : Int)))) ?_
         refine rvc_un (rexec_buildSliceF C (eI .i64) [(i : Int)] rfl rfl rfl rfl rfl rfl rfl (by decide) rfl ?_)
         refine rvc_un (rexec_append C rfl rfl rfl rfl rfl rfl rfl rfl (fun _ h => by cases h) rfl (en := (eI .i64)) (D0 := vc) (D := [(i : Int)]) rfl rfl rfl rfl (by have := of_decide_eq_true h4; first | omega | (simp <;> omega)) (by decide) (nn := (vc ++ [(i : Int)]).length) (by simp) ?_)
         refine rvP C (.ptr 0 0) ?_
         refine rvP C (.ptr 0 2) ?_
         refine rvc_un (rexec_prim C (δ := { v := .undef, wr := [(0, some (.cells [sS (some s.l.nil) eOp s.l.D, .mp 1, .sl 81 0 ((vc ++ [(i : Int)]).length) 1 false]))] }) rfl rfl rfl rfl trivial rfl ?_)
         refine rvc_nil ?_
         refine Awp.seq ?_
         refine Awp.cons C (fun _ => .writer) (by kernel_rfl) ?_
         refine rvP C (.ptr 0 0) ?_
         refine rvP C (.agg [.pv (.lit (.int .u64 (mWith p.done (i : Int)))), .pv (.lit (.string p.value))]) ?_
         obtain ⟨r3, hq_r3⟩ : ∃ q_, q_ = (fromO 65 (Search.mk s.l vc1 (Sl.mk false (vc ++ [(i : Int)]))) (Point.mk (mWith p.done (i : Int)) p.value)) := ⟨_, rfl⟩
         have hc_r3 := (fromO_calls 65 (Search.mk s.l vc1 (Sl.mk false (vc ++ [(i : Int)]))) (Point.mk (mWith p.done (i : Int)) p.value) hl64 (with_okD hd (by omega)) (by have h_ := mu_le s.l.D (mWith p.done (i : Int)); show (_ : List Int).length + mu s.l.D (mWith p.done (i : Int)) ≤ 1000000; first | (rw [List.length_append, List.length_singleton]; omega) | (show 1 + _ ≤ _; omega)) (by have h_ := mu_le s.l.D (mWith p.done (i : Int)); show mu s.l.D (mWith p.done (i : Int)) < 65; omega))
         first | rw [← hq_r3] at hR hc_r3 | (unfold fromN at hR; rw [← hq_r3] at hR hc_r3) | (unfold fromN_l0 at hR; rw [← hq_r3] at hR hc_r3)
         have hf0_r3 := fromO_row 65 (Search.mk s.l vc1 (Sl.mk false (vc ++ [(i : Int)]))) (Point.mk (mWith p.done (i : Int)) p.value)
         rw [← hq_r3] at hf0_r3
         refine rvc_un (rexec_callObj hP C (fun b => bif b == 0 then 0 else bif b == 1 then 1 else bif b == 2 then 81 else b) [(86, 3)] rfl rfl rfl hc_r3 rfl rfl ⟨rfl, rfl, trivial⟩ (of_decide_eq_true rfl) rfl (of_decide_eq_true rfl) (of_decide_eq_true rfl) (allB_cons rfl allB_nil) (allB_cons rfl allB_nil) (allB_cons rfl (allB_cons rfl allB_nil)) ?_ rfl (allB_cons rfl (allB_cons rfl allB_nil)))
         refine rvc_nil ?_
         refine Awp.cond (b := r3.2) rfl (fun h18 => ?_) (fun h18 => ?_)
         ·
          replace hR := of_true h18 hR
          refine Awp.consP C ?_
          refine rvP C (.pv (.lit (.bool true))) ?_
          refine rvc_nil ?_
          refine Awp.freezeW 86 (encL (eI .i64) r3.1.row.D) ?_ [(4, .pv (.lit (.bool true)))] [(0, .cells [sS (some s.l.nil) eOp s.l.D, .mp 1, sS (some false) (eI .i64) r3.1.row.D]), (1, mapE kPoint vBool.enc r3.1.been), (3, .cells [.pv (.lit (.int .u64 p.done)), .pv (.lit (.string p.value))]), (6, .cells [.pv (.lit (.bool x.write)), .pv (.lit (.string x.value)), .pv (.lit (.int .i64 x.ver)), .pv (.lit (.int .i64 x.began)), .pv (.lit (.int .i64 x.ended))]), (7, .cells [.pv (.lit (.int .u64 (mWith p.done (i : Int)))), .pv (.lit (.string p.value))])] ?_ ?_ ?_
          · rfl
          · exact ⟨⟨_, rfl, .inl (.inl rfl)⟩, trivial⟩
          · exact ⟨⟨(by show (0 : Nat) ≠ 86; decide), .inr ⟨_, _, rfl, rfl, ⟨.inl rfl, .inl rfl, .inr ⟨_, _, _, rfl, rfl⟩, trivial⟩⟩⟩, ⟨(by show (1 : Nat) ≠ 86; decide), .inl rfl⟩, ⟨(by show (3 : Nat) ≠ 86; decide), .inl rfl⟩, ⟨(by show (6 : Nat) ≠ 86; decide), .inl rfl⟩, ⟨(by show (7 : Nat) ≠ 86; decide), .inl rfl⟩, trivial⟩
          refine Awp.ret ?_
          subst hR
          exact ⟨.inl rfl, rfl, rfl, ⟨rfl, trivial⟩⟩
         ·
          replace hR := of_false h18 hR
          refine Awp.skip ?_
          refine Awp.regionP C ?_
          refine rvP C (.ptr 0 0) ?_
          refine rvP C (.ptr 0 0) ?_
          refine rvP C (.ptr 0 0) ?_
          refine rvP C (.ptr 0 2) ?_
          refine rvP C (.sl 86 0 r3.1.row.D.length 1 false) ?_
          refine rvP C (.ptr 0 0) ?_
          refine rvP C (.ptr 0 0) ?_
          refine rvP C (.ptr 0 2) ?_
          refine rvP C (.sl 86 0 r3.1.row.D.length 1 false) ?_
          refine rvP C (.pv (.lit (.int .i64 (r3.1.row.D.length : Int)))) ?_
          refine rvP C (.pv (.lit (.int .i64 (IntKind.i64.wrap ((r3.1.row.D.length : Int) - 1))))) ?_
          refine rvc_un (rexec_cutOwn C ((r3.1.row.D.dropLast).length) rfl rfl rfl rfl rfl rfl rfl ⟨(by have h_ : 1 ≤ r3.1.row.D.length ∧ r3.1.row.D.length ≤ 9000000000000000000 := (by (first | have h_ := hf0_r (by assumption) | have h_ := hf0_r1 (by assumption) | have h_ := hf0_r2 (by assumption) | have h_ := hf0_r3 (by assumption) | have h_ := hf0_r4 (by assumption) | have h_ := hf0_r5 (by assumption) | have h_ := hf0_r6 (by assumption) | have h_ := hf0_r7 (by assumption) | have h_ := hf0_r8 (by assumption) | have h_ := hf0_r9 (by assumption) | have h_ := hf0_r10 (by assumption) | have h_ := hf0_r11 (by assumption) | have h_ := hf0_r12 (by assumption) | have h_ := hf0_r13 (by assumption) | have h_ := hf0_r14 (by assumption) | have h_ := hf0_r15 (by assumption)); simp at h_; omega); rw [wrap_i64 (by omega) (by omega)]; omega), (by have h_ : 1 ≤ r3.1.row.D.length ∧ r3.1.row.D.length ≤ 9000000000000000000 := (by (first | have h_ := hf0_r (by assumption) | have h_ := hf0_r1 (by assumption) | have h_ := hf0_r2 (by assumption) | have h_ := hf0_r3 (by assumption) | have h_ := hf0_r4 (by assumption) | have h_ := hf0_r5 (by assumption) | have h_ := hf0_r6 (by assumption) | have h_ := hf0_r7 (by assumption) | have h_ := hf0_r8 (by assumption) | have h_ := hf0_r9 (by assumption) | have h_ := hf0_r10 (by assumption) | have h_ := hf0_r11 (by assumption) | have h_ := hf0_r12 (by assumption) | have h_ := hf0_r13 (by assumption) | have h_ := hf0_r14 (by assumption) | have h_ := hf0_r15 (by assumption)); simp at h_; omega); rw [wrap_i64 (by omega) (by omega)]; omega)⟩ (by have h_ : 1 ≤ r3.1.row.D.length ∧ r3.1.row.D.length ≤ 9000000000000000000 := (by (first | have h_ := hf0_r (by assumption) | have h_ := hf0_r1 (by assumption) | have h_ := hf0_r2 (by assumption) | have h_ := hf0_r3 (by assumption) | have h_ := hf0_r4 (by assumption) | have h_ := hf0_r5 (by assumption) | have h_ := hf0_r6 (by assumption) | have h_ := hf0_r7 (by assumption) | have h_ := hf0_r8 (by assumption) | have h_ := hf0_r9 (by assumption) | have h_ := hf0_r10 (by assumption) | have h_ := hf0_r11 (by assumption) | have h_ := hf0_r12 (by assumption) | have h_ := hf0_r13 (by assumption) | have h_ := hf0_r14 (by assumption) | have h_ := hf0_r15 (by assumption)); simp at h_; omega); rw [wrap_i64 (by omega) (by omega)]; rw [List.length_dropLast]; omega) ?_)
          refine rvP C (.ptr 0 0) ?_
          refine rvP C (.ptr 0 2) ?_
          refine rvc_un (rexec_prim C (δ := { v := .undef, wr := [(0, some (.cells [sS (some s.l.nil) eOp s.l.D, .mp 1, .sl 86 0 ((r3.1.row.D.dropLast).length) 1 false]))] }) rfl rfl rfl rfl trivial rfl ?_)
          refine rvc_nil ?_
          refine Awp.cutB 86 ((r3.1.row.D.length - 1) * (eI .i64).sz) _ rfl (encC (eI .i64) (r3.1.row.D.dropLast)) (encC_dropLast _) ?_
          refine Awp.regionP C ?_
          refine rvP C (.pv (.lit (.int .i64 (IntKind.i64.wrap ((i : Int) + 1))))) ?_
          refine rvP C (.pv (.lit (.int .i64 (IntKind.i64.wrap ((i : Int) + 1))))) ?_
          refine rvc_nil ?_
          refine ⟨h5, .inr ⟨((r3.1.row.D.dropLast), r3.1.been), ?_, ?_⟩⟩
          · exact ⟨hR, (by first | rfl | omega | ((first | have h_ := hf0_r (by assumption) | have h_ := hf0_r1 (by assumption) | have h_ := hf0_r2 (by assumption) | have h_ := hf0_r3 (by assumption) | have h_ := hf0_r4 (by assumption) | have h_ := hf0_r5 (by assumption) | have h_ := hf0_r6 (by assumption) | have h_ := hf0_r7 (by assumption) | have h_ := hf0_r8 (by assumption) | have h_ := hf0_r9 (by assumption) | have h_ := hf0_r10 (by assumption) | have h_ := hf0_r11 (by assumption) | have h_ := hf0_r12 (by assumption) | have h_ := hf0_r13 (by assumption) | have h_ := hf0_r14 (by assumption) | have h_ := hf0_r15 (by assumption)); simp at h_; simp; omega))⟩
          · exact ⟨fun b => bif b == 900 then 86 else (fun b => b) b, WeakerR.ofLI (I := [0, 1]) (Ks := [0, 1, 3, 900]) hI ⟨⟨rfl, rfl⟩, ⟨rfl, rfl⟩, ⟨rfl, rfl⟩, ⟨rfl, rfl⟩, ⟨lit_cast (wrap_i64 (by omega) (by omega)), rfl⟩, trivial⟩ (okH_cons rfl rfl rfl rfl (okH_map rfl rfl rfl (okH_cons rfl rfl rfl rfl (okH_list rfl rfl rfl (okH_nil))))) rfl rfl⟩
    ·
     have h5 : ¬ i < s.l.D.length := by have := of_decide_eq_false h4; omega
     rw [drop_end h5] at hR
     refine Awp.exit ?_
     refine Awp.consP C ?_
     refine rvP C (.pv (.lit (.bool false))) ?_
     refine rvc_nil ?_
     refine Awp.freezeW 900 (encL (eI .i64) vc) ?_ [(4, .pv (.lit (.bool false)))] [(0, .cells [sS (some s.l.nil) eOp s.l.D, .mp 1, sS (some false) (eI .i64) vc]), (1, mapE kPoint vBool.enc vc1), (3, .cells [.pv (.lit (.int .u64 p.done)), .pv (.lit (.string p.value))])] ?_ ?_ ?_
     · rfl
     · exact ⟨⟨_, rfl, .inl (.inl rfl)⟩, trivial⟩
     · exact ⟨⟨(by show (0 : Nat) ≠ 900; decide), .inr ⟨_, _, rfl, rfl, ⟨.inl rfl, .inl rfl, .inr ⟨_, _, _, rfl, rfl⟩, trivial⟩⟩⟩, ⟨(by show (1 : Nat) ≠ 900; decide), .inl rfl⟩, ⟨(by show (3 : Nat) ≠ 900; decide), .inl rfl⟩, trivial⟩
     refine Awp.ret ?_
     subst hR
     exact ⟨.inl rfl, rfl, rfl, ⟨rfl, trivial⟩⟩
theorem right_len {l : Sl Op} (h : (rightL l != 0) = false) : l.D.length ≤ 64 := by
  unfold rightL at h
  cases h1 : decide ((l.D.length : Int) > 24)
  · have := of_decide_eq_false h1; omega
  · rw [h1] at h; cases h
theorem firstSN_eq (s : Search) (i d : Int) : firstSN s i d = firstSO s i d := by
  unfold firstSN firstSO
  suffices hh : ∀ (ys : List Op) (j : Nat), firstSN_l0 s i d ys j = firstSO_l0 s i d ys j from hh _ 0
  intro ys
  induction ys with
  | nil => intro j; rfl
  | cons y ys ih => intro j; unfold firstSN_l0 firstSO_l0; rw [ih]
theorem allSN_eq (s : Search) (d : Int) : allSN s d = allSO s d := by
  unfold allSN allSO
  suffices hh : ∀ (ys : List Op) (j : Nat), allSN_l0 d ys j = allSO_l0 d ys j from hh _ 0
  intro ys
  induction ys with
  | nil => intro j; rfl
  | cons y ys ih => intro j; unfold allSN_l0 allSO_l0; rw [ih]
theorem allSO_eq (s s' : Search) (h : s.l.D = s'.l.D) (d : Int) : allSO s d = allSO s' d := by unfold allSO; rw [h]
theorem fromN_B (s : Search) (p : Point) : ∀ (l : List Op) (i : Nat) (vc : List Int) (been : List (Point × Bool)), fromN_l0B s p l i vc been = fromB_l0 (fromO 65) s p l i vc been
  | [], _, _, _ => rfl
  | x :: xs, i, vc, been => by unfold fromN_l0B fromB_l0; simp only [fromN_B s p xs]
theorem fromN_step (s : Search) (p : Point) (x : Op) (xs : List Op) (i : Nat) :
    fromN_l0 s p (x :: xs) i = bif cand s.l.D p i x then fromStep (fromO 65) s p xs i (fromO 65 (Search.mk s.l (mSet kPoint p true s.been) (Sl.mk false [(i : Int)])) (goOn p i x)) else fromN_l0 s p xs (i + 1) := by
  conv => lhs; unfold fromN_l0
  unfold cand goOn fromStep
  simp only [fromN_B, firstSN_eq]
  rw [firstSO_eq (Search.mk (Sl.mk false s.l.D) [] (Sl.mk false [])) (Search.mk s.l (mSet kPoint p true s.been) (Sl.mk true [])) rfl]
  cases mHas p.done (i : Int) <;> cases x.write <;> cases (x.ended == 0) <;> cases (x.value.toList == p.value.toList) <;> cases firstSO (Search.mk s.l (mSet kPoint p true s.been) (Sl.mk true [])) (i : Int) p.done <;> rfl
theorem fromN_l (s : Search) (p : Point) : ∀ (l : List Op) (i : Nat), (fromN_l0 s p l i).2 = (fromB_l0 (fromO 65) s p l i [] (mSet kPoint p true s.been)).2 ∧ (fromN_l0 s p l i).1.row.D = (fromB_l0 (fromO 65) s p l i [] (mSet kPoint p true s.been)).1.row.D
  | [], _ => ⟨rfl, rfl⟩
  | x :: xs, i => by
    rw [fromN_step, fromB_step]
    cases cand s.l.D p i x
    · exact fromN_l s p xs (i + 1)
    · exact ⟨rfl, rfl⟩
theorem fromN_eq (s : Search) (hs : s.row.D = []) (p : Point) : (fromN s p).2 = (fromO 66 s p).2 ∧ (fromN s p).1.row.D = (fromO 66 s p).1.row.D := by
  change (fromN s p).2 = (fromB (fromO 65) s p).2 ∧ (fromN s p).1.row.D = (fromB (fromO 65) s p).1.row.D
  unfold fromN fromB
  rw [allSN_eq, allSO_eq (Search.mk s.l s.been (Sl.mk true [])) (Search.mk s.l s.been (Sl.mk false s.row.D)) rfl, hs]
  cases allSO (Search.mk s.l s.been (Sl.mk false [])) p.done
  · cases (mGet kPoint p s.been).getD false
    · exact fromN_l s p s.l.D 0
    · exact ⟨rfl, rfl⟩
  · exact ⟨rfl, rfl⟩
theorem fromB_len {rec : Search → Point → Search × Bool} {k : Nat} (hrec : ∀ s p, (rec s p).1.row.D.length ≤ s.row.D.length + k) (hrow : ∀ s p, (rec s p).2 = false → (rec s p).1.row.D = s.row.D) (s : Search) (p : Point) : ∀ (l : List Op) (i : Nat) (row : List Int) (been : List (Point × Bool)), (fromB_l0 rec s p l i row been).1.row.D.length ≤ row.length + (k + 1)
  | [], _, row, _ => by show row.length ≤ _; omega
  | x :: xs, i, row, been => by
    rw [fromB_step]
    cases cand s.l.D p i x
    · exact fromB_len hrec hrow s p xs (i + 1) row been
    · rw [cond_true]
      unfold fromStep
      have h1 := hrec (Search.mk s.l been (Sl.mk false (row ++ [(i : Int)]))) (goOn p i x)
      have h2 := hrow (Search.mk s.l been (Sl.mk false (row ++ [(i : Int)]))) (goOn p i x)
      generalize rec (Search.mk s.l been (Sl.mk false (row ++ [(i : Int)]))) (goOn p i x) = q at h1 h2 ⊢
      have h1 : q.1.row.D.length ≤ (row ++ [(i : Int)]).length + k := h1
      rw [List.length_append, List.length_singleton] at h1
      cases h3 : q.2
      · rw [cond_false]
        have h4 : q.1.row.D = row ++ [(i : Int)] := h2 h3
        rw [h4, List.dropLast_concat]
        exact fromB_len hrec hrow s p xs (i + 1) row _
      · rw [cond_true]; show q.1.row.D.length ≤ _; omega
theorem fromO_len : ∀ (k : Nat) (s : Search) (p : Point), (fromO k s p).1.row.D.length ≤ s.row.D.length + k
  | 0, _, _ => Nat.le_refl _
  | k + 1, s, p => by
    change (fromB (fromO k) s p).1.row.D.length ≤ _
    unfold fromB
    cases allSO (Search.mk s.l s.been (Sl.mk false s.row.D)) p.done
    · cases (mGet kPoint p s.been).getD false
      · exact fromB_len (fromO_len k) (fromO_rowD k) s p _ _ _ _
      · show s.row.D.length ≤ _; omega
    · show s.row.D.length ≤ _; omega
theorem fromN_len (s : Search) (hs : s.row.D = []) (p : Point) : (fromN s p).1.row.D.length ≤ 66 := by
  rw [(fromN_eq s hs p).2]
  have := fromO_len 66 s p
  rw [hs] at this
  simpa using this
def cloneInts (s : (Sl Int)) : (Sl Int) :=
  (bif s.nil then (Sl.mk true []) else (Sl.mk false s.D))
theorem cloneInts_calls (s : (Sl Int)) (hl1 : s.D.length ≤ 1000000) : PCalls Try.prog 47 [sS (some s.nil) (eI .i64) s.D] (sS (some (cloneInts s).nil) (eI .i64) ((cloneInts s).D)) := by
 generalize hR : cloneInts s = R
 refine PCalls.of_body tabOk Try.func47 rfl rfl rfl rfl rfl mixed fun E hP C hI => ?_
 refine Awp.consP C ?_
 refine rvP C (sS (some true) (eI .i64) []) ?_
 refine rvc_nil ?_
 refine Awp.seq ?_
 refine Awp.consP C ?_
 refine rvP C (sS (some s.nil) (eI .i64) s.D) ?_
 refine rvc_un (rexec_eqNil C (f := s.nil) rfl rfl rfl rfl ?_)
 refine rvc_nil ?_
 refine Awp.cond (b := s.nil) rfl (fun h1 => ?_) (fun h1 => ?_)
 ·
  replace hR := of_true h1 hR
  refine Awp.consP C ?_
  refine rvP C (sS (some true) (eI .i64) []) ?_
  refine rvc_nil ?_
  refine Awp.ret ?_
  subst hR
  exact ⟨.inl rfl, rfl⟩
 ·
  replace hR := of_false h1 hR
  refine Awp.skip ?_
  refine Awp.consP C ?_
  refine rvc_un (rexec_prim C (δ := { v := .sl 5 0 0 1 true, new := [(5, .cells (encC (eI .i64) []))] }) rfl rfl rfl rfl trivial rfl ?_)
  refine rvP C (sS (some s.nil) (eI .i64) s.D) ?_
  refine rvc_un (rexec_append C rfl rfl rfl rfl rfl rfl rfl rfl (fun _ h => by cases h) rfl (en := (eI .i64)) (D0 := []) (D := s.D) rfl rfl rfl rfl (by first | omega | (simp <;> omega)) (by decide) (nn := s.D.length) (by simp) ?_)
  refine rvP C (.sl 7 0 s.D.length 1 false) ?_
  refine rvc_nil ?_
  refine Awp.freezeW 7 (encL (eI .i64) s.D) ?_ [(2, sS (some false) (eI .i64) s.D)] [] ?_ ?_ ?_
  · rfl
  · exact ⟨⟨_, rfl, .inl (.inr ⟨_, _, _, rfl, rfl⟩)⟩, trivial⟩
  · exact trivial
  refine Awp.ret ?_
  subst hR
  exact ⟨.inl rfl, rfl⟩
def order (l : (Sl Op)) : (Sl Int) × Bool × Int :=
  (bif ((rightL l) != 0) then ((Sl.mk true []), false, (rightL l)) else (bif (!((fromN (Search.mk l [] (Sl.mk true [])) (Point.mk 0 ⟨#[]⟩)).2)) then ((Sl.mk true []), false, 0) else ((cloneInts ((fromN (Search.mk l [] (Sl.mk true [])) (Point.mk 0 ⟨#[]⟩)).1.row)), true, 0)))
theorem order_calls (l : (Sl Op)) (hl1 : l.D.length ≤ 9223372036854775807) : PCalls Try.prog 28 [sS (some l.nil) eOp l.D] (.tup [sS (some (order l).1.nil) (eI .i64) ((order l).1.D), .pv (.lit (.bool ((order l).2.1))), .pv (.lit (.int .i64 ((order l).2.2)))]) := by
 generalize hR : order l = R
 refine PCalls.of_body tabOk Try.func28 rfl rfl rfl rfl rfl mixed fun E hP C hI => ?_
 refine Awp.consP C ?_
 refine rvP C (sS (some true) (eI .i64) []) ?_
 refine rvP C (.pv (.lit (.bool false))) ?_
 refine rvP C (.pv (.lit (.int .i64 0))) ?_
 refine rvc_nil ?_
 refine Awp.seq ?_
 refine Awp.consP C ?_
 refine rvP C (sS (some l.nil) eOp l.D) ?_
 refine rvc_un (rexec_call hP C rfl rfl rfl (rightL_calls l hl1) ?_)
 refine rvP C (.pv (.lit (.int .i64 (rightL l)))) ?_
 refine rvc_nil ?_
 refine Awp.consP C ?_
 refine rvP C (.pv (.lit (.int .i64 (rightL l)))) ?_
 refine rvP C (.pv (.lit (.bool ((rightL l) != 0)))) ?_
 refine rvc_nil ?_
 refine Awp.cond (b := ((rightL l) != 0)) rfl (fun h1 => ?_) (fun h1 => ?_)
 ·
  replace hR := of_true h1 hR
  refine Awp.consP C ?_
  refine rvP C (.pv (.lit (.int .i64 (rightL l)))) ?_
  refine rvP C (sS (some true) (eI .i64) []) ?_
  refine rvP C (.pv (.lit (.bool false))) ?_
  refine rvP C (.pv (.lit (.int .i64 (rightL l)))) ?_
  refine rvc_nil ?_
  refine Awp.ret ?_
  subst hR
  exact ⟨.inl rfl, rfl⟩
 ·
  replace hR := of_false h1 hR
  refine Awp.skip ?_
  refine Awp.consP C ?_
  refine rvP C (sS (some l.nil) eOp l.D) ?_
  refine rvc_un (rexec_makeMap C rfl rfl kPoint vBool ?_)
  refine rvP C (.agg [sS (some l.nil) eOp l.D, .mp 13, sS (some true) (eI .i64) []]) ?_
  refine rvc_un (rexec_prim C (δ := { v := .ptr 15 0, new := [(15, .cells [sS (some l.nil) eOp l.D, .mp 13, sS (some true) (eI .i64) []])] }) rfl rfl rfl rfl trivial rfl ?_)
  refine rvP C (.ptr 15 0) ?_
  refine rvc_nil ?_
  refine Awp.seq ?_
  refine Awp.cons C (fun _ => .writer) (by kernel_rfl) ?_
  refine rvP C (.ptr 15 0) ?_
  refine rvP C (.agg [.pv (.lit (.int .u64 0)), .pv (.lit (.string ⟨#[]⟩))]) ?_
  refine rvc_un (rexec_callObj hP C (fun b => bif b == 0 then 15 else bif b == 1 then 13 else b) [] rfl rfl rfl (fromN_calls (Search.mk l [] (Sl.mk true [])) (Point.mk 0 ⟨#[]⟩) (right_len (by assumption)) ⟨by decide, by decide⟩ hl1) rfl rfl ⟨rfl, trivial⟩ (of_decide_eq_true rfl) rfl (of_decide_eq_true rfl) (of_decide_eq_true rfl) allB_nil allB_nil (allB_cons rfl allB_nil) ?_ rfl (allB_cons rfl allB_nil))
  refine rvP C (.pv (.lit (.bool (!((fromN (Search.mk l [] (Sl.mk true [])) (Point.mk 0 ⟨#[]⟩)).2))))) ?_
  refine rvc_nil ?_
  refine Awp.cond (b := (!((fromN (Search.mk l [] (Sl.mk true [])) (Point.mk 0 ⟨#[]⟩)).2))) rfl (fun h2 => ?_) (fun h2 => ?_)
  ·
   replace hR := of_true h2 hR
   refine Awp.consP C ?_
   refine rvP C (sS (some true) (eI .i64) []) ?_
   refine rvP C (.pv (.lit (.bool false))) ?_
   refine rvP C (.pv (.lit (.int .i64 0))) ?_
   refine rvc_nil ?_
   refine Awp.ret ?_
   subst hR
   exact ⟨.inl rfl, rfl⟩
  ·
   replace hR := of_false h2 hR
   refine Awp.skip ?_
   refine Awp.consP C ?_
   refine rvP C (.ptr 15 0) ?_
   refine rvP C (.ptr 15 0) ?_
   refine rvP C (.ptr 15 2) ?_
   refine rvP C (sS (some (fromN (Search.mk l [] (Sl.mk true [])) (Point.mk 0 ⟨#[]⟩)).1.row.nil) (eI .i64) ((fromN (Search.mk l [] (Sl.mk true [])) (Point.mk 0 ⟨#[]⟩)).1.row.D)) ?_
   refine rvc_un (rexec_call hP C rfl rfl rfl (cloneInts_calls ((fromN (Search.mk l [] (Sl.mk true [])) (Point.mk 0 ⟨#[]⟩)).1.row) (Nat.le_trans (fromN_len _ rfl _) (by decide))) ?_)
   refine rvP C (sS (some (cloneInts ((fromN (Search.mk l [] (Sl.mk true [])) (Point.mk 0 ⟨#[]⟩)).1.row)).nil) (eI .i64) ((cloneInts ((fromN (Search.mk l [] (Sl.mk true [])) (Point.mk 0 ⟨#[]⟩)).1.row)).D)) ?_
   refine rvP C (.pv (.lit (.bool true))) ?_
   refine rvP C (.pv (.lit (.int .i64 0))) ?_
   refine rvc_nil ?_
   refine Awp.ret ?_
   subst hR
   exact ⟨.inl rfl, rfl⟩
def refRight_l0 : List Op → Nat → Int
  | [], _ => 0
  | x :: xs, i => (bif (decide (x.began < 1)) then 70 else (bif (decide (x.ended < 0)) then 70 else (bif (decide (x.ended > 0)) then (bif (decide (x.ended ≤ x.began)) then 70 else (bif (decide (x.ver < 0)) then 70 else (bif (decide (x.ver > 1099511627776)) then 70 else (bif (decide ((x.value.size : Int) > 24)) then 70 else refRight_l0 xs (i + 1) )))) else (bif (decide (x.ver < 0)) then 70 else (bif (decide (x.ver > 1099511627776)) then 70 else (bif (decide ((x.value.size : Int) > 24)) then 70 else refRight_l0 xs (i + 1) ))))))
def refRight (l : (Sl Op)) : Int :=
  (bif (decide ((l.D.length : Int) > 24)) then 4 else refRight_l0 l.D 0 )
theorem refRight_calls (l : (Sl Op)) (hl1 : l.D.length ≤ 9223372036854775807) : PCalls Try.prog 26 [sS (some l.nil) eOp l.D] (.pv (.lit (.int .i64 (refRight l)))) := by
 generalize hR : refRight l = R
 refine PCalls.of_body tabOk Try.func26 rfl rfl rfl rfl rfl mixed fun E hP C hI => ?_
 refine Awp.consP C ?_
 refine rvP C (.pv (.lit (.int .i64 0))) ?_
 refine rvc_nil ?_
 refine Awp.seq ?_
 refine Awp.consP C ?_
 refine rvP C (sS (some l.nil) eOp l.D) ?_
 refine rvP C (.pv (.lit (.int .i64 (l.D.length : Int)))) ?_
 refine rvP C (.pv (.lit (.bool (decide ((l.D.length : Int) > 24))))) ?_
 refine rvc_nil ?_
 refine Awp.cond (b := (decide ((l.D.length : Int) > 24))) rfl (fun h1 => ?_) (fun h1 => ?_)
 ·
  replace hR := of_true h1 hR
  refine Awp.consP C ?_
  refine rvP C (.pv (.lit (.int .i64 4))) ?_
  refine rvc_nil ?_
  refine Awp.ret ?_
  subst hR
  exact ⟨.inl rfl, rfl⟩
 ·
  replace hR := of_false h1 hR
  refine Awp.skip ?_
  refine Awp.seq ?_
  refine Awp.consP C ?_
  refine rvP C (sS (some l.nil) eOp l.D) ?_
  refine rvP C (.pv (.lit (.int .i64 (l.D.length : Int)))) ?_
  refine rvP C (.pv (.lit (.int .i64 0))) ?_
  refine rvc_nil ?_
  refine Awp.block ?_
  refine Awp.forR (σ := Unit) (l.D.length) (fun i _v => [(8, sS (some l.nil) eOp l.D), (9, .pv (.lit (.int .i64 (l.D.length : Int)))), (10, .pv (.lit (.int .i64 (i : Int))))]) (fun i _v => []) [] (fun i _v => refRight_l0 (l.D.drop i) i  = R) () ?_ ?_ (fun i _v h2 hR => ?_)
  · exact hR
  · exact ⟨fun b => b, WeakerR.ofL (Ks := []) hI ⟨⟨rfl, rfl⟩, ⟨rfl, rfl⟩, ⟨rfl, rfl⟩, trivial⟩ (okH_nil) rfl⟩
  refine Awp.consP C ?_
  refine rvP C (.pv (.lit (.bool (decide ((i : Int) < (l.D.length : Int)))))) ?_
  refine rvc_nil ?_
  refine Awp.seq ?_
  refine Awp.cond (b := (decide ((i : Int) < (l.D.length : Int)))) rfl (fun h3 => ?_) (fun h3 => ?_)
  ·
   have h4 : i < l.D.length := by have := of_decide_eq_true h3; omega
   obtain ⟨x, h5⟩ := getX h4
   rw [drop_at h5] at hR
   refine Awp.skip ?_
   refine Awp.seq ?_
   refine Awp.block ?_
   refine Awp.consP C ?_
   refine rvc_un (rexec_idxS C rfl rfl rfl rfl rfl rfl x (Int.natCast_nonneg _) h5 ?_)
   refine rvP C (.agg [.pv (.lit (.bool x.write)), .pv (.lit (.string x.value)), .pv (.lit (.int .i64 x.ver)), .pv (.lit (.int .i64 x.began)), .pv (.lit (.int .i64 x.ended))]) ?_
   refine rvc_un (rexec_prim C (δ := { v := .ptr 4 0, new := [(4, .cells [.pv (.lit (.bool false)), .pv (.lit (.string ⟨#[]⟩)), .pv (.lit (.int .i64 0)), .pv (.lit (.int .i64 0)), .pv (.lit (.int .i64 0))])] }) rfl rfl rfl rfl trivial rfl ?_)
   refine rvc_un (rexec_prim C (δ := { v := .undef, wr := [(4, some (.cells [.pv (.lit (.bool x.write)), .pv (.lit (.string x.value)), .pv (.lit (.int .i64 x.ver)), .pv (.lit (.int .i64 x.began)), .pv (.lit (.int .i64 x.ended))]))] }) rfl rfl rfl rfl trivial rfl ?_)
   refine rvc_nil ?_
   refine Awp.consP C ?_
   refine rvP C (.ptr 4 3) ?_
   refine rvP C (.pv (.lit (.int .i64 x.began))) ?_
   refine rvP C (.pv (.lit (.bool (decide (x.began < 1))))) ?_
   refine rvP C (.pv (.lit (.bool (decide (x.began < 1))))) ?_
   refine rvc_case 17 (decide (x.began < 1)) rfl (fun h6 => ?_) (fun h6 => ?_)
   ·
    replace hR := of_true h6 hR
    refine rvS ?_
    refine rvS ?_
    refine rvS ?_
    refine rvP C (.pv (.lit (.bool true))) ?_
    refine rvP C (.pv (.lit (.bool true))) ?_
    refine rvS ?_
    refine rvS ?_
    refine rvS ?_
    refine rvS ?_
    refine rvc_shutU rfl rfl rfl ?_
    refine rvc_shutU rfl rfl rfl ?_
    refine rvc_shutU rfl rfl rfl ?_
    refine rvc_shutU rfl rfl rfl ?_
    refine rvc_shutU rfl rfl rfl ?_
    refine rvS ?_
    refine rvP C (.pv (.lit (.bool true))) ?_
    refine rvP C (.pv (.lit (.bool true))) ?_
    refine rvS ?_
    refine rvS ?_
    refine rvS ?_
    refine rvP C (.pv (.lit (.bool true))) ?_
    refine rvP C (.pv (.lit (.bool true))) ?_
    refine rvS ?_
    refine rvS ?_
    refine rvS ?_
    refine rvP C (.pv (.lit (.bool true))) ?_
    refine rvP C (.pv (.lit (.bool true))) ?_
    refine rvS ?_
    refine rvS ?_
    refine rvS ?_
    refine rvS ?_
    refine rvP C (.pv (.lit (.bool true))) ?_
    refine rvc_nil ?_
    refine Awp.condT (b := true) rfl rfl ?_
    refine Awp.consP C ?_
    refine rvP C (.pv (.lit (.int .i64 70))) ?_
    refine rvc_nil ?_
    refine Awp.ret ?_
    subst hR
    exact ⟨.inl rfl, rfl⟩
   ·
    replace hR := of_false h6 hR
    refine rvO C (.ptr 4 4) ?_
    refine rvO C (.pv (.lit (.int .i64 x.ended))) ?_
    refine rvO C (.pv (.lit (.bool (decide (x.ended < 0))))) ?_
    refine rvP C (.pv (.lit (.bool (decide (x.ended < 0))))) ?_
    refine rvP C (.pv (.lit (.bool (decide (x.ended < 0))))) ?_
    refine rvc_case 22 (decide (x.ended < 0)) rfl (fun h7 => ?_) (fun h7 => ?_)
    ·
     replace hR := of_true h7 hR
     refine rvS ?_
     refine rvS ?_
     refine rvS ?_
     refine rvS ?_
     refine rvc_shutU rfl rfl rfl ?_
     refine rvc_shutU rfl rfl rfl ?_
     refine rvc_shutU rfl rfl rfl ?_
     refine rvc_shutU rfl rfl rfl ?_
     refine rvc_shutU rfl rfl rfl ?_
     refine rvS ?_
     refine rvP C (.pv (.lit (.bool true))) ?_
     refine rvP C (.pv (.lit (.bool true))) ?_
     refine rvS ?_
     refine rvS ?_
     refine rvS ?_
     refine rvP C (.pv (.lit (.bool true))) ?_
     refine rvP C (.pv (.lit (.bool true))) ?_
     refine rvS ?_
     refine rvS ?_
     refine rvS ?_
     refine rvP C (.pv (.lit (.bool true))) ?_
     refine rvP C (.pv (.lit (.bool true))) ?_
     refine rvS ?_
     refine rvS ?_
     refine rvS ?_
     refine rvS ?_
     refine rvP C (.pv (.lit (.bool true))) ?_
     refine rvc_nil ?_
     refine Awp.condT (b := true) rfl rfl ?_
     refine Awp.consP C ?_
     refine rvP C (.pv (.lit (.int .i64 70))) ?_
     refine rvc_nil ?_
     refine Awp.ret ?_
     subst hR
     exact ⟨.inl rfl, rfl⟩
    ·
     replace hR := of_false h7 hR
     refine rvO C (.ptr 4 4) ?_
     refine rvO C (.pv (.lit (.int .i64 x.ended))) ?_
     refine rvO C (.pv (.lit (.bool (decide (x.ended > 0))))) ?_
     refine rvO C (.pv (.lit (.bool (decide (x.ended > 0))))) ?_
     refine rvc_case 26 (decide (x.ended > 0)) rfl (fun h8 => ?_) (fun h8 => ?_)
     ·
      replace hR := of_true h8 hR
      refine rvO C (.ptr 4 4) ?_
      refine rvO C (.pv (.lit (.int .i64 x.ended))) ?_
      refine rvO C (.ptr 4 3) ?_
      refine rvO C (.pv (.lit (.int .i64 x.began))) ?_
      refine rvO C (.pv (.lit (.bool (decide (x.ended ≤ x.began))))) ?_
      refine rvO C (.pv (.lit (.bool (decide (x.ended ≤ x.began))))) ?_
      refine rvP C (.pv (.lit (.bool (decide (x.ended ≤ x.began))))) ?_
      refine rvP C (.pv (.lit (.bool (decide (x.ended ≤ x.began))))) ?_
      refine rvc_case 34 (decide (x.ended ≤ x.began)) rfl (fun h9 => ?_) (fun h9 => ?_)
      ·
       replace hR := of_true h9 hR
       refine rvS ?_
       refine rvS ?_
       refine rvS ?_
       refine rvP C (.pv (.lit (.bool true))) ?_
       refine rvP C (.pv (.lit (.bool true))) ?_
       refine rvS ?_
       refine rvS ?_
       refine rvS ?_
       refine rvP C (.pv (.lit (.bool true))) ?_
       refine rvP C (.pv (.lit (.bool true))) ?_
       refine rvS ?_
       refine rvS ?_
       refine rvS ?_
       refine rvS ?_
       refine rvP C (.pv (.lit (.bool true))) ?_
       refine rvc_nil ?_
       refine Awp.condT (b := true) rfl rfl ?_
       refine Awp.consP C ?_
       refine rvP C (.pv (.lit (.int .i64 70))) ?_
       refine rvc_nil ?_
       refine Awp.ret ?_
       subst hR
       exact ⟨.inl rfl, rfl⟩
      ·
       replace hR := of_false h9 hR
       refine rvO C (.ptr 4 2) ?_
       refine rvO C (.pv (.lit (.int .i64 x.ver))) ?_
       refine rvO C (.pv (.lit (.bool (decide (x.ver < 0))))) ?_
       refine rvP C (.pv (.lit (.bool (decide (x.ver < 0))))) ?_
       refine rvP C (.pv (.lit (.bool (decide (x.ver < 0))))) ?_
       refine rvc_case 39 (decide (x.ver < 0)) rfl (fun h10 => ?_) (fun h10 => ?_)
       ·
        replace hR := of_true h10 hR
        refine rvS ?_
        refine rvS ?_
        refine rvS ?_
        refine rvP C (.pv (.lit (.bool true))) ?_
        refine rvP C (.pv (.lit (.bool true))) ?_
        refine rvS ?_
        refine rvS ?_
        refine rvS ?_
        refine rvS ?_
        refine rvP C (.pv (.lit (.bool true))) ?_
        refine rvc_nil ?_
        refine Awp.condT (b := true) rfl rfl ?_
        refine Awp.consP C ?_
        refine rvP C (.pv (.lit (.int .i64 70))) ?_
        refine rvc_nil ?_
        refine Awp.ret ?_
        subst hR
        exact ⟨.inl rfl, rfl⟩
       ·
        replace hR := of_false h10 hR
        refine rvO C (.ptr 4 2) ?_
        refine rvO C (.pv (.lit (.int .i64 x.ver))) ?_
        refine rvO C (.pv (.lit (.bool (decide (x.ver > 1099511627776))))) ?_
        refine rvP C (.pv (.lit (.bool (decide (x.ver > 1099511627776))))) ?_
        refine rvP C (.pv (.lit (.bool (decide (x.ver > 1099511627776))))) ?_
        refine rvc_case 44 (decide (x.ver > 1099511627776)) rfl (fun h11 => ?_) (fun h11 => ?_)
        ·
         replace hR := of_true h11 hR
         refine rvS ?_
         refine rvS ?_
         refine rvS ?_
         refine rvS ?_
         refine rvP C (.pv (.lit (.bool true))) ?_
         refine rvc_nil ?_
         refine Awp.condT (b := true) rfl rfl ?_
         refine Awp.consP C ?_
         refine rvP C (.pv (.lit (.int .i64 70))) ?_
         refine rvc_nil ?_
         refine Awp.ret ?_
         subst hR
         exact ⟨.inl rfl, rfl⟩
        ·
         replace hR := of_false h11 hR
         refine rvO C (.ptr 4 1) ?_
         refine rvO C (.pv (.lit (.string x.value))) ?_
         refine rvO C (.pv (.lit (.int .i64 (x.value.size : Int)))) ?_
         refine rvO C (.pv (.lit (.bool (decide ((x.value.size : Int) > 24))))) ?_
         refine rvP C (.pv (.lit (.bool (decide ((x.value.size : Int) > 24))))) ?_
         refine rvc_nil ?_
         refine Awp.cond (b := (decide ((x.value.size : Int) > 24))) rfl (fun h12 => ?_) (fun h12 => ?_)
         ·
          replace hR := of_true h12 hR
          refine Awp.consP C ?_
          refine rvP C (.pv (.lit (.int .i64 70))) ?_
          refine rvc_nil ?_
          refine Awp.ret ?_
          subst hR
          exact ⟨.inl rfl, rfl⟩
         ·
          replace hR := of_false h12 hR
          refine Awp.skip ?_
          refine Awp.regionP C ?_
          refine rvP C (.pv (.lit (.int .i64 (IntKind.i64.wrap ((i : Int) + 1))))) ?_
          refine rvP C (.pv (.lit (.int .i64 (IntKind.i64.wrap ((i : Int) + 1))))) ?_
          refine rvc_nil ?_
          refine ⟨h4, (), ?_, ?_⟩
          · exact hR
          · exact ⟨fun b => b, WeakerR.ofL (Ks := []) hI ⟨⟨rfl, rfl⟩, ⟨rfl, rfl⟩, ⟨lit_cast (wrap_i64 (by omega) (by omega)), rfl⟩, trivial⟩ (okH_nil) rfl⟩
     ·
      replace hR := of_false h8 hR
      refine rvS ?_
      refine rvS ?_
      refine rvS ?_
      refine rvS ?_
      refine rvS ?_
      refine rvO C (.pv (.lit (.bool false))) ?_
      refine rvP C (.pv (.lit (.bool false))) ?_
      refine rvP C (.pv (.lit (.bool false))) ?_
      refine rvO C (.ptr 4 2) ?_
      refine rvO C (.pv (.lit (.int .i64 x.ver))) ?_
      refine rvO C (.pv (.lit (.bool (decide (x.ver < 0))))) ?_
      refine rvP C (.pv (.lit (.bool (decide (x.ver < 0))))) ?_
      refine rvP C (.pv (.lit (.bool (decide (x.ver < 0))))) ?_
      refine rvc_case 39 (decide (x.ver < 0)) rfl (fun h13 => ?_) (fun h13 => ?_)
      ·
       replace hR := of_true h13 hR
       refine rvS ?_
       refine rvS ?_
       refine rvS ?_
       refine rvP C (.pv (.lit (.bool true))) ?_
       refine rvP C (.pv (.lit (.bool true))) ?_
       refine rvS ?_
       refine rvS ?_
       refine rvS ?_
       refine rvS ?_
       refine rvP C (.pv (.lit (.bool true))) ?_
       refine rvc_nil ?_
       refine Awp.condT (b := true) rfl rfl ?_
       refine Awp.consP C ?_
       refine rvP C (.pv (.lit (.int .i64 70))) ?_
       refine rvc_nil ?_
       refine Awp.ret ?_
       subst hR
       exact ⟨.inl rfl, rfl⟩
      ·
       replace hR := of_false h13 hR
       refine rvO C (.ptr 4 2) ?_
       refine rvO C (.pv (.lit (.int .i64 x.ver))) ?_
       refine rvO C (.pv (.lit (.bool (decide (x.ver > 1099511627776))))) ?_
       refine rvP C (.pv (.lit (.bool (decide (x.ver > 1099511627776))))) ?_
       refine rvP C (.pv (.lit (.bool (decide (x.ver > 1099511627776))))) ?_
       refine rvc_case 44 (decide (x.ver > 1099511627776)) rfl (fun h14 => ?_) (fun h14 => ?_)
       ·
        replace hR := of_true h14 hR
        refine rvS ?_
        refine rvS ?_
        refine rvS ?_
        refine rvS ?_
        refine rvP C (.pv (.lit (.bool true))) ?_
        refine rvc_nil ?_
        refine Awp.condT (b := true) rfl rfl ?_
        refine Awp.consP C ?_
        refine rvP C (.pv (.lit (.int .i64 70))) ?_
        refine rvc_nil ?_
        refine Awp.ret ?_
        subst hR
        exact ⟨.inl rfl, rfl⟩
       ·
        replace hR := of_false h14 hR
        refine rvO C (.ptr 4 1) ?_
        refine rvO C (.pv (.lit (.string x.value))) ?_
        refine rvO C (.pv (.lit (.int .i64 (x.value.size : Int)))) ?_
        refine rvO C (.pv (.lit (.bool (decide ((x.value.size : Int) > 24))))) ?_
        refine rvP C (.pv (.lit (.bool (decide ((x.value.size : Int) > 24))))) ?_
        refine rvc_nil ?_
        refine Awp.cond (b := (decide ((x.value.size : Int) > 24))) rfl (fun h15 => ?_) (fun h15 => ?_)
        ·
         replace hR := of_true h15 hR
         refine Awp.consP C ?_
         refine rvP C (.pv (.lit (.int .i64 70))) ?_
         refine rvc_nil ?_
         refine Awp.ret ?_
         subst hR
         exact ⟨.inl rfl, rfl⟩
        ·
         replace hR := of_false h15 hR
         refine Awp.skip ?_
         refine Awp.regionP C ?_
         refine rvP C (.pv (.lit (.int .i64 (IntKind.i64.wrap ((i : Int) + 1))))) ?_
         refine rvP C (.pv (.lit (.int .i64 (IntKind.i64.wrap ((i : Int) + 1))))) ?_
         refine rvc_nil ?_
         refine ⟨h4, (), ?_, ?_⟩
         · exact hR
         · exact ⟨fun b => b, WeakerR.ofL (Ks := []) hI ⟨⟨rfl, rfl⟩, ⟨rfl, rfl⟩, ⟨lit_cast (wrap_i64 (by omega) (by omega)), rfl⟩, trivial⟩ (okH_nil) rfl⟩
  ·
   have h4 : ¬ i < l.D.length := by have := of_decide_eq_false h3; omega
   rw [drop_end h4] at hR
   refine Awp.exit ?_
   refine Awp.consP C ?_
   refine rvP C (.pv (.lit (.int .i64 0))) ?_
   refine rvc_nil ?_
   refine Awp.ret ?_
   subst hR
   exact ⟨.inl rfl, rfl⟩
def eqInts_l0 (s2 : (Sl Int)) : List Int → Nat → Bool
  | [], _ => true
  | x :: xs, i => (bif (x != (s2.D[(i : Int).toNat]!)) then false else eqInts_l0 s2 xs (i + 1) )
def eqInts (s1 : (Sl Int)) (s2 : (Sl Int)) : Bool :=
  (bif ((s1.D.length : Int) != (s2.D.length : Int)) then false else eqInts_l0 s2 s1.D 0 )
theorem eqInts_calls (s1 : (Sl Int)) (s2 : (Sl Int)) (hl1 : s1.D.length ≤ 9223372036854775807) : PCalls Try.prog 45 [sS (some s1.nil) (eI .i64) s1.D, sS (some s2.nil) (eI .i64) s2.D] (.pv (.lit (.bool (eqInts s1 s2)))) := by
 generalize hR : eqInts s1 s2 = R
 refine PCalls.of_body tabOk Try.func45 rfl rfl rfl rfl rfl mixed fun E hP C hI => ?_
 refine Awp.consP C ?_
 refine rvP C (.pv (.lit (.bool false))) ?_
 refine rvc_nil ?_
 refine Awp.seq ?_
 refine Awp.consP C ?_
 refine rvP C (sS (some s1.nil) (eI .i64) s1.D) ?_
 refine rvP C (.pv (.lit (.int .i64 (s1.D.length : Int)))) ?_
 refine rvP C (sS (some s2.nil) (eI .i64) s2.D) ?_
 refine rvP C (.pv (.lit (.int .i64 (s2.D.length : Int)))) ?_
 refine rvP C (.pv (.lit (.bool ((s1.D.length : Int) != (s2.D.length : Int))))) ?_
 refine rvc_nil ?_
 refine Awp.cond (b := ((s1.D.length : Int) != (s2.D.length : Int))) rfl (fun h1 => ?_) (fun h1 => ?_)
 ·
  replace hR := of_true h1 hR
  refine Awp.consP C ?_
  refine rvP C (.pv (.lit (.bool false))) ?_
  refine rvc_nil ?_
  refine Awp.ret ?_
  subst hR
  exact ⟨.inl rfl, rfl⟩
 ·
  replace hR := of_false h1 hR
  refine Awp.skip ?_
  refine Awp.seq ?_
  refine Awp.consP C ?_
  refine rvP C (sS (some s1.nil) (eI .i64) s1.D) ?_
  refine rvP C (.pv (.lit (.int .i64 (s1.D.length : Int)))) ?_
  refine rvP C (.pv (.lit (.int .i64 0))) ?_
  refine rvc_nil ?_
  refine Awp.block ?_
  refine Awp.forR (σ := Unit) (s1.D.length) (fun i _v => [(0, sS (some s1.nil) (eI .i64) s1.D), (1, sS (some s2.nil) (eI .i64) s2.D), (12, .pv (.lit (.int .i64 (s1.D.length : Int)))), (13, .pv (.lit (.int .i64 (i : Int))))]) (fun i _v => []) [] (fun i _v => eqInts_l0 s2 (s1.D.drop i) i  = R) () ?_ ?_ (fun i _v h2 hR => ?_)
  · exact hR
  · exact ⟨fun b => b, WeakerR.ofL (Ks := []) hI ⟨⟨rfl, rfl⟩, ⟨rfl, rfl⟩, ⟨rfl, rfl⟩, ⟨rfl, rfl⟩, trivial⟩ (okH_nil) rfl⟩
  refine Awp.consP C ?_
  refine rvP C (.pv (.lit (.bool (decide ((i : Int) < (s1.D.length : Int)))))) ?_
  refine rvc_nil ?_
  refine Awp.seq ?_
  refine Awp.cond (b := (decide ((i : Int) < (s1.D.length : Int)))) rfl (fun h3 => ?_) (fun h3 => ?_)
  ·
   have h4 : i < s1.D.length := by have := of_decide_eq_true h3; omega
   obtain ⟨x, h5⟩ := getX h4
   rw [drop_at h5] at hR
   refine Awp.skip ?_
   refine Awp.seq ?_
   refine Awp.block ?_
   refine Awp.consP C ?_
   refine rvP C (.pv (.lit (.int .i64 (i : Int)))) ?_
   refine rvP C (.pv (.lit (.int .i64 (i : Int)))) ?_
   refine rvc_nil ?_
   refine Awp.consP C ?_
   refine rvP C (sS (some s1.nil) (eI .i64) s1.D) ?_
   refine rvP C (.pv (.lit (.int .i64 (i : Int)))) ?_
   refine rvc_un (rexec_idxS C rfl rfl rfl rfl rfl rfl x (Int.natCast_nonneg _) h5 ?_)
   refine rvP C (.pv (.lit (.int .i64 x))) ?_
   refine rvP C (sS (some s2.nil) (eI .i64) s2.D) ?_
   refine rvP C (.pv (.lit (.int .i64 (i : Int)))) ?_
   have h6 : s2.D[(i : Int).toNat]? = some s2.D[(i : Int).toNat]! := getE (by have := eq_of_bne_false h1; have := of_decide_eq_true h3; omega)
   refine rvc_un (rexec_idxS C rfl rfl rfl rfl rfl rfl (s2.D[(i : Int).toNat]!) (Int.natCast_nonneg _) h6 ?_)
   refine rvP C (.pv (.lit (.int .i64 (s2.D[(i : Int).toNat]!)))) ?_
   refine rvP C (.pv (.lit (.bool (x != (s2.D[(i : Int).toNat]!))))) ?_
   refine rvc_nil ?_
   refine Awp.cond (b := (x != (s2.D[(i : Int).toNat]!))) rfl (fun h7 => ?_) (fun h7 => ?_)
   ·
    replace hR := of_true h7 hR
    refine Awp.consP C ?_
    refine rvP C (.pv (.lit (.bool false))) ?_
    refine rvc_nil ?_
    refine Awp.ret ?_
    subst hR
    exact ⟨.inl rfl, rfl⟩
   ·
    replace hR := of_false h7 hR
    refine Awp.skip ?_
    refine Awp.regionP C ?_
    refine rvP C (.pv (.lit (.int .i64 (IntKind.i64.wrap ((i : Int) + 1))))) ?_
    refine rvP C (.pv (.lit (.int .i64 (IntKind.i64.wrap ((i : Int) + 1))))) ?_
    refine rvc_nil ?_
    refine ⟨h4, (), ?_, ?_⟩
    · exact hR
    · exact ⟨fun b => b, WeakerR.ofL (Ks := []) hI ⟨⟨rfl, rfl⟩, ⟨rfl, rfl⟩, ⟨rfl, rfl⟩, ⟨lit_cast (wrap_i64 (by omega) (by omega)), rfl⟩, trivial⟩ (okH_nil) rfl⟩
  ·
   have h4 : ¬ i < s1.D.length := by have := of_decide_eq_false h3; omega
   rw [drop_end h4] at hR
   refine Awp.exit ?_
   refine Awp.consP C ?_
   refine rvP C (.pv (.lit (.bool true))) ?_
   refine rvc_nil ?_
   refine Awp.ret ?_
   subst hR
   exact ⟨.inl rfl, rfl⟩
theorem ref_len {l : Sl Op} (h : (refRight l != 0) = false) : l.D.length ≤ 64 := by
  unfold refRight at h
  cases h1 : decide ((l.D.length : Int) > 24)
  · have := of_decide_eq_false h1; omega
  · rw [h1] at h; cases h
def nextW_l0 (l : (Sl Op)) (left : (Sl Bool)) (i : Int) : List Op → Nat → Bool
  | [], _ => true
  | x :: xs, i1 => (bif left.D[i1]! then (bif ((i1 : Int) != i) then (bif (before x (l.D[i.toNat]!)) then false else nextW_l0 l left i xs (i1 + 1) ) else nextW_l0 l left i xs (i1 + 1) ) else nextW_l0 l left i xs (i1 + 1) )
def nextW (l : (Sl Op)) (left : (Sl Bool)) (i : Int) : Bool :=
  nextW_l0 l left i l.D 0
theorem nextW_calls (l : (Sl Op)) (left : (Sl Bool)) (i : Int) (n_ : Nat) (tt_ : Bool) (hn_ : n_ = left.D.length) (hl : left.D.length = l.D.length) (hi : 0 ≤ i ∧ i < (l.D.length : Int)) (hl1 : l.D.length ≤ 9223372036854775807) : MCalls Try.prog 48 [sS (some l.nil) eOp l.D, .sl 0 0 n_ 1 tt_, .pv (.lit (.int .i64 i))] (.cells (encC eB left.D)) (.pv (.lit (.bool (nextW l left i)))) (.cells (encC eB left.D)) := by
 generalize hR : nextW l left i = R
 subst hn_
 refine MCalls.of_body tabOk Try.func48 rfl rfl rfl rfl rfl (encC_within _ _) (encC_within _ _) mixed fun E hP C hI => ?_
 refine Awp.consP C ?_
 refine rvP C (.pv (.lit (.bool false))) ?_
 refine rvc_nil ?_
 refine Awp.seq ?_
 refine Awp.consP C ?_
 refine rvP C (sS (some l.nil) eOp l.D) ?_
 refine rvP C (.pv (.lit (.int .i64 (l.D.length : Int)))) ?_
 refine rvP C (.pv (.lit (.int .i64 0))) ?_
 refine rvc_nil ?_
 refine Awp.block ?_
 refine Awp.forR (σ := Unit) (l.D.length) (fun i1 _v => [(0, sS (some l.nil) eOp l.D), (1, .sl 0 0 left.D.length 1 tt_), (2, .pv (.lit (.int .i64 i))), (9, sS (some l.nil) eOp l.D), (10, .pv (.lit (.int .i64 (l.D.length : Int)))), (11, .pv (.lit (.int .i64 (i1 : Int))))]) (fun i1 _v => [(0, .cells (encC eB left.D))]) [0] (fun i1 _v => nextW_l0 l left i (l.D.drop i1) i1  = R) () ?_ ?_ (fun i1 _v h1 hR => ?_)
 · exact hR
 · exact ⟨fun b => b, WeakerR.ofLI (I := [0]) (Ks := [0]) hI ⟨⟨rfl, rfl⟩, ⟨rfl, rfl⟩, ⟨rfl, rfl⟩, ⟨rfl, rfl⟩, ⟨rfl, rfl⟩, ⟨rfl, rfl⟩, trivial⟩ (okH_list rfl rfl rfl (okH_nil)) rfl rfl⟩
 refine Awp.consP C ?_
 refine rvP C (.pv (.lit (.bool (decide ((i1 : Int) < (l.D.length : Int)))))) ?_
 refine rvc_nil ?_
 refine Awp.seq ?_
 refine Awp.cond (b := (decide ((i1 : Int) < (l.D.length : Int)))) rfl (fun h2 => ?_) (fun h2 => ?_)
 ·
  have h3 : i1 < l.D.length := by have := of_decide_eq_true h2; omega
  obtain ⟨x, h4⟩ := getX h3
  rw [drop_at h4] at hR
  refine Awp.skip ?_
  refine Awp.seq ?_
  refine Awp.block ?_
  refine Awp.consP C ?_
  refine rvP C (.pv (.lit (.int .i64 (i1 : Int)))) ?_
  refine rvc_un (rexec_idxS C rfl rfl rfl rfl rfl rfl x (Int.natCast_nonneg _) h4 ?_)
  refine rvP C (.agg [.pv (.lit (.bool x.write)), .pv (.lit (.string x.value)), .pv (.lit (.int .i64 x.ver)), .pv (.lit (.int .i64 x.began)), .pv (.lit (.int .i64 x.ended))]) ?_
  refine rvc_un (rexec_prim C (δ := { v := .ptr 8 0, new := [(8, .cells [.pv (.lit (.bool false)), .pv (.lit (.string ⟨#[]⟩)), .pv (.lit (.int .i64 0)), .pv (.lit (.int .i64 0)), .pv (.lit (.int .i64 0))])] }) rfl rfl rfl rfl trivial rfl ?_)
  refine rvP C (.pv (.lit (.int .i64 (i1 : Int)))) ?_
  refine rvc_un (rexec_prim C (δ := { v := .undef, wr := [(8, some (.cells [.pv (.lit (.bool x.write)), .pv (.lit (.string x.value)), .pv (.lit (.int .i64 x.ver)), .pv (.lit (.int .i64 x.began)), .pv (.lit (.int .i64 x.ended))]))] }) rfl rfl rfl rfl trivial rfl ?_)
  refine rvc_nil ?_
  refine Awp.consP C ?_
  refine rvP C (.sl 0 0 left.D.length 1 tt_) ?_
  refine rvP C (.pv (.lit (.int .i64 (i1 : Int)))) ?_
  have h5 : left.D[i1]? = some left.D[i1]! := getE (by have := of_decide_eq_true h2; omega)
  refine rvc_un (rexec_prim C (δ := { v := .ptr 0 (0 + i1 * 1) }) rfl rfl rfl rfl ⟨(by have := of_decide_eq_true h2; omega), getlt h5 (by first | rfl | omega | (have := of_decide_eq_true h2; omega)) (by first | rfl | omega | simp)⟩ rfl ?_)
  refine rvc_un (rexec_loadE C (e := eB) i1 0 (left.D[i1]!) (.pv (.lit (.bool (left.D[i1]!)))) rfl rfl rfl rfl h5 (by simp [eB]) (by decide) (by decide) rfl ?_)
  refine rvP C (.pv (.lit (.bool (left.D[i1]!)))) ?_
  refine rvc_case 20 (left.D[i1]!) rfl (fun h6 => ?_) (fun h6 => ?_)
  ·
   replace hR := of_true h6 hR
   refine rvO C (.pv (.lit (.int .i64 (i1 : Int)))) ?_
   refine rvO C (.pv (.lit (.int .i64 i))) ?_
   refine rvO C (.pv (.lit (.bool ((i1 : Int) != i)))) ?_
   refine rvP C (.pv (.lit (.bool ((i1 : Int) != i)))) ?_
   refine rvP C (.pv (.lit (.bool ((i1 : Int) != i)))) ?_
   refine rvc_case 25 ((i1 : Int) != i) rfl (fun h7 => ?_) (fun h7 => ?_)
   ·
    replace hR := of_true h7 hR
    refine rvO C (.agg [.pv (.lit (.bool x.write)), .pv (.lit (.string x.value)), .pv (.lit (.int .i64 x.ver)), .pv (.lit (.int .i64 x.began)), .pv (.lit (.int .i64 x.ended))]) ?_
    refine rvO C (sS (some l.nil) eOp l.D) ?_
    refine rvO C (.pv (.lit (.int .i64 i))) ?_
    have h8 : l.D[i.toNat]? = some l.D[i.toNat]! := getE (by have := of_decide_eq_true h2; have := bne_iff_ne.1 h7; omega)
    refine rvc_open rfl rfl rfl (rexec_idxS C rfl rfl rfl rfl rfl rfl (l.D[i.toNat]!) (by have := of_decide_eq_true h2; have := bne_iff_ne.1 h7; omega) h8 ?_)
    refine rvO C (.agg [.pv (.lit (.bool (l.D[i.toNat]!.write))), .pv (.lit (.string (l.D[i.toNat]!.value))), .pv (.lit (.int .i64 (l.D[i.toNat]!.ver))), .pv (.lit (.int .i64 (l.D[i.toNat]!.began))), .pv (.lit (.int .i64 (l.D[i.toNat]!.ended)))]) ?_
    refine rvc_open rfl rfl rfl (rexec_call hP C rfl rfl rfl (before_calls x (l.D[i.toNat]!)) ?_)
    refine rvP C (.pv (.lit (.bool (before x (l.D[i.toNat]!))))) ?_
    refine rvc_nil ?_
    refine Awp.cond (b := (before x (l.D[i.toNat]!))) rfl (fun h9 => ?_) (fun h9 => ?_)
    ·
     replace hR := of_true h9 hR
     refine Awp.consP C ?_
     refine rvP C (.pv (.lit (.bool false))) ?_
     refine rvc_nil ?_
     refine Awp.ret ?_
     subst hR
     exact ⟨.inl rfl, rfl, rfl⟩
    ·
     replace hR := of_false h9 hR
     refine Awp.skip ?_
     refine Awp.regionP C ?_
     refine rvP C (.pv (.lit (.int .i64 (IntKind.i64.wrap ((i1 : Int) + 1))))) ?_
     refine rvP C (.pv (.lit (.int .i64 (IntKind.i64.wrap ((i1 : Int) + 1))))) ?_
     refine rvc_nil ?_
     refine ⟨h3, (), ?_, ?_⟩
     · exact hR
     · exact ⟨fun b => b, WeakerR.ofLI (I := [0]) (Ks := [0]) hI ⟨⟨rfl, rfl⟩, ⟨rfl, rfl⟩, ⟨rfl, rfl⟩, ⟨rfl, rfl⟩, ⟨rfl, rfl⟩, ⟨lit_cast (wrap_i64 (by omega) (by omega)), rfl⟩, trivial⟩ (okH_list rfl rfl rfl (okH_nil)) rfl rfl⟩
   ·
    replace hR := of_false h7 hR
    refine rvS ?_
    refine rvS ?_
    refine rvS ?_
    refine rvS ?_
    refine rvS ?_
    refine rvS ?_
    refine rvP C (.pv (.lit (.bool false))) ?_
    refine rvc_nil ?_
    refine Awp.condF (b := false) rfl rfl ?_
    refine Awp.skip ?_
    refine Awp.regionP C ?_
    refine rvP C (.pv (.lit (.int .i64 (IntKind.i64.wrap ((i1 : Int) + 1))))) ?_
    refine rvP C (.pv (.lit (.int .i64 (IntKind.i64.wrap ((i1 : Int) + 1))))) ?_
    refine rvc_nil ?_
    refine ⟨h3, (), ?_, ?_⟩
    · exact hR
    · exact ⟨fun b => b, WeakerR.ofLI (I := [0]) (Ks := [0]) hI ⟨⟨rfl, rfl⟩, ⟨rfl, rfl⟩, ⟨rfl, rfl⟩, ⟨rfl, rfl⟩, ⟨rfl, rfl⟩, ⟨lit_cast (wrap_i64 (by omega) (by omega)), rfl⟩, trivial⟩ (okH_list rfl rfl rfl (okH_nil)) rfl rfl⟩
  ·
   replace hR := of_false h6 hR
   refine rvS ?_
   refine rvS ?_
   refine rvS ?_
   refine rvP C (.pv (.lit (.bool false))) ?_
   refine rvP C (.pv (.lit (.bool false))) ?_
   refine rvS ?_
   refine rvS ?_
   refine rvS ?_
   refine rvS ?_
   refine rvS ?_
   refine rvS ?_
   refine rvP C (.pv (.lit (.bool false))) ?_
   refine rvc_nil ?_
   refine Awp.condF (b := false) rfl rfl ?_
   refine Awp.skip ?_
   refine Awp.regionP C ?_
   refine rvP C (.pv (.lit (.int .i64 (IntKind.i64.wrap ((i1 : Int) + 1))))) ?_
   refine rvP C (.pv (.lit (.int .i64 (IntKind.i64.wrap ((i1 : Int) + 1))))) ?_
   refine rvc_nil ?_
   refine ⟨h3, (), ?_, ?_⟩
   · exact hR
   · exact ⟨fun b => b, WeakerR.ofLI (I := [0]) (Ks := [0]) hI ⟨⟨rfl, rfl⟩, ⟨rfl, rfl⟩, ⟨rfl, rfl⟩, ⟨rfl, rfl⟩, ⟨rfl, rfl⟩, ⟨lit_cast (wrap_i64 (by omega) (by omega)), rfl⟩, trivial⟩ (okH_list rfl rfl rfl (okH_nil)) rfl rfl⟩
 ·
  have h3 : ¬ i1 < l.D.length := by have := of_decide_eq_false h2; omega
  rw [drop_end h3] at hR
  refine Awp.exit ?_
  refine Awp.consP C ?_
  refine rvP C (.pv (.lit (.bool true))) ?_
  refine rvc_nil ?_
  refine Awp.ret ?_
  subst hR
  exact ⟨.inl rfl, rfl, rfl⟩
def allSM_l0 (done : Int) : List Op → Nat → Bool
  | [], _ => true
  | x :: xs, i => (bif (x.ended != 0) then (bif (!(mHas done (i : Int))) then false else allSM_l0 done xs (i + 1) ) else allSM_l0 done xs (i + 1) )
def allSM (s : Search) (done : Int) : Bool :=
  allSM_l0 done s.l.D 0
theorem allSM_calls (s : Search) (done : Int) (hl1 : s.l.D.length ≤ 9223372036854775807) : ObjCalls Try.prog 52 [.ptr 0 0, .pv (.lit (.int .u64 done))] [sS (some s.l.nil) eOp s.l.D, .pv (.lit (.map none)), sS (some true) (eI .i64) []] [] (.pv (.lit (.bool (allSM s done)))) [sS (some s.l.nil) eOp s.l.D, .pv (.lit (.map none)), sS (some true) (eI .i64) []] [] := by
 generalize hR : allSM s done = R
 refine ObjCalls.of_body tabOk Try.func52 rfl rfl rfl rfl rfl allB_nil (of_decide_eq_true rfl) rfl rfl allB_nil (of_decide_eq_true rfl) mixed fun E hP C hI => ?_
 refine Awp.consP C ?_
 refine rvP C (.pv (.lit (.bool false))) ?_
 refine rvc_nil ?_
 refine Awp.seq ?_
 refine Awp.consP C ?_
 refine rvP C (.ptr 0 0) ?_
 refine rvP C (.ptr 0 0) ?_
 refine rvP C (.ptr 0 0) ?_
 refine rvP C (sS (some s.l.nil) eOp s.l.D) ?_
 refine rvP C (.pv (.lit (.int .i64 (s.l.D.length : Int)))) ?_
 refine rvP C (.pv (.lit (.int .i64 0))) ?_
 refine rvc_nil ?_
 refine Awp.block ?_
 refine Awp.forR (σ := Unit) (s.l.D.length) (fun i _v => [(0, .ptr 0 0), (1, .pv (.lit (.int .u64 done))), (10, sS (some s.l.nil) eOp s.l.D), (11, .pv (.lit (.int .i64 (s.l.D.length : Int)))), (12, .pv (.lit (.int .i64 (i : Int))))]) (fun i _v => [(0, .cells [sS (some s.l.nil) eOp s.l.D, .pv (.lit (.map none)), sS (some true) (eI .i64) []])]) [0] (fun i _v => allSM_l0 done (s.l.D.drop i) i  = R) () ?_ ?_ (fun i _v h1 hR => ?_)
 · exact hR
 · exact ⟨fun b => b, WeakerR.ofLI (I := [0]) (Ks := [0]) hI ⟨⟨rfl, rfl⟩, ⟨rfl, rfl⟩, ⟨rfl, rfl⟩, ⟨rfl, rfl⟩, ⟨rfl, rfl⟩, trivial⟩ (okH_cons rfl rfl rfl rfl (okH_nil)) rfl rfl⟩
 refine Awp.consP C ?_
 refine rvP C (.pv (.lit (.bool (decide ((i : Int) < (s.l.D.length : Int)))))) ?_
 refine rvc_nil ?_
 refine Awp.seq ?_
 refine Awp.cond (b := (decide ((i : Int) < (s.l.D.length : Int)))) rfl (fun h2 => ?_) (fun h2 => ?_)
 ·
  have h3 : i < s.l.D.length := by have := of_decide_eq_true h2; omega
  obtain ⟨x, h4⟩ := getX h3
  rw [drop_at h4] at hR
  refine Awp.skip ?_
  refine Awp.seq ?_
  refine Awp.block ?_
  refine Awp.consP C ?_
  refine rvP C (.pv (.lit (.int .i64 (i : Int)))) ?_
  refine rvc_un (rexec_idxS C rfl rfl rfl rfl rfl rfl x (Int.natCast_nonneg _) h4 ?_)
  refine rvP C (.agg [.pv (.lit (.bool x.write)), .pv (.lit (.string x.value)), .pv (.lit (.int .i64 x.ver)), .pv (.lit (.int .i64 x.began)), .pv (.lit (.int .i64 x.ended))]) ?_
  refine rvc_un (rexec_prim C (δ := { v := .ptr 6 0, new := [(6, .cells [.pv (.lit (.bool false)), .pv (.lit (.string ⟨#[]⟩)), .pv (.lit (.int .i64 0)), .pv (.lit (.int .i64 0)), .pv (.lit (.int .i64 0))])] }) rfl rfl rfl rfl trivial rfl ?_)
  refine rvP C (.pv (.lit (.int .i64 (i : Int)))) ?_
  refine rvc_un (rexec_prim C (δ := { v := .undef, wr := [(6, some (.cells [.pv (.lit (.bool x.write)), .pv (.lit (.string x.value)), .pv (.lit (.int .i64 x.ver)), .pv (.lit (.int .i64 x.began)), .pv (.lit (.int .i64 x.ended))]))] }) rfl rfl rfl rfl trivial rfl ?_)
  refine rvc_nil ?_
  refine Awp.consP C ?_
  refine rvP C (.ptr 6 4) ?_
  refine rvP C (.pv (.lit (.int .i64 x.ended))) ?_
  refine rvP C (.pv (.lit (.bool (x.ended != 0)))) ?_
  refine rvP C (.pv (.lit (.bool (x.ended != 0)))) ?_
  refine rvc_case 20 (x.ended != 0) rfl (fun h5 => ?_) (fun h5 => ?_)
  ·
   replace hR := of_true h5 hR
   refine rvO C (.pv (.lit (.int .u64 done))) ?_
   refine rvO C (.pv (.lit (.int .i64 (i : Int)))) ?_
   refine rvc_open rfl rfl rfl (rexec_call hP C rfl rfl rfl (mHas_calls done (i : Int)) ?_)
   refine rvO C (.pv (.lit (.bool (!(mHas done (i : Int)))))) ?_
   refine rvP C (.pv (.lit (.bool (!(mHas done (i : Int)))))) ?_
   refine rvc_nil ?_
   refine Awp.cond (b := (!(mHas done (i : Int)))) rfl (fun h6 => ?_) (fun h6 => ?_)
   ·
    replace hR := of_true h6 hR
    refine Awp.consP C ?_
    refine rvP C (.pv (.lit (.bool false))) ?_
    refine rvc_nil ?_
    refine Awp.ret ?_
    subst hR
    exact ⟨.inl rfl, rfl, rfl, trivial⟩
   ·
    replace hR := of_false h6 hR
    refine Awp.skip ?_
    refine Awp.regionP C ?_
    refine rvP C (.pv (.lit (.int .i64 (IntKind.i64.wrap ((i : Int) + 1))))) ?_
    refine rvP C (.pv (.lit (.int .i64 (IntKind.i64.wrap ((i : Int) + 1))))) ?_
    refine rvc_nil ?_
    refine ⟨h3, (), ?_, ?_⟩
    · exact hR
    · exact ⟨fun b => b, WeakerR.ofLI (I := [0]) (Ks := [0]) hI ⟨⟨rfl, rfl⟩, ⟨rfl, rfl⟩, ⟨rfl, rfl⟩, ⟨rfl, rfl⟩, ⟨lit_cast (wrap_i64 (by omega) (by omega)), rfl⟩, trivial⟩ (okH_cons rfl rfl rfl rfl (okH_nil)) rfl rfl⟩
  ·
   replace hR := of_false h5 hR
   refine rvS ?_
   refine rvS ?_
   refine rvS ?_
   refine rvS ?_
   refine rvP C (.pv (.lit (.bool false))) ?_
   refine rvc_nil ?_
   refine Awp.condF (b := false) rfl rfl ?_
   refine Awp.skip ?_
   refine Awp.regionP C ?_
   refine rvP C (.pv (.lit (.int .i64 (IntKind.i64.wrap ((i : Int) + 1))))) ?_
   refine rvP C (.pv (.lit (.int .i64 (IntKind.i64.wrap ((i : Int) + 1))))) ?_
   refine rvc_nil ?_
   refine ⟨h3, (), ?_, ?_⟩
   · exact hR
   · exact ⟨fun b => b, WeakerR.ofLI (I := [0]) (Ks := [0]) hI ⟨⟨rfl, rfl⟩, ⟨rfl, rfl⟩, ⟨rfl, rfl⟩, ⟨rfl, rfl⟩, ⟨lit_cast (wrap_i64 (by omega) (by omega)), rfl⟩, trivial⟩ (okH_cons rfl rfl rfl rfl (okH_nil)) rfl rfl⟩
 ·
  have h3 : ¬ i < s.l.D.length := by have := of_decide_eq_false h2; omega
  rw [drop_end h3] at hR
  refine Awp.exit ?_
  refine Awp.consP C ?_
  refine rvP C (.pv (.lit (.bool true))) ?_
  refine rvc_nil ?_
  refine Awp.ret ?_
  subst hR
  exact ⟨.inl rfl, rfl, rfl, trivial⟩
def firstSM_l0 (s : Search) (i : Int) (done : Int) : List Op → Nat → Bool
  | [], _ => true
  | x :: xs, i1 => (bif ((i1 : Int) != i) then (bif (!(mHas done (i1 : Int))) then (bif (decide ((over x) < (s.l.D[i.toNat]!.began))) then false else firstSM_l0 s i done xs (i1 + 1) ) else firstSM_l0 s i done xs (i1 + 1) ) else firstSM_l0 s i done xs (i1 + 1) )
def firstSM (s : Search) (i : Int) (done : Int) : Bool :=
  firstSM_l0 s i done s.l.D 0
theorem firstSM_calls (s : Search) (i : Int) (done : Int) (hi : 0 ≤ i ∧ i < (s.l.D.length : Int)) (hl1 : s.l.D.length ≤ 9223372036854775807) : ObjCalls Try.prog 50 [.ptr 0 0, .pv (.lit (.int .i64 i)), .pv (.lit (.int .u64 done))] [sS (some s.l.nil) eOp s.l.D, .pv (.lit (.map none)), sS (some true) (eI .i64) []] [] (.pv (.lit (.bool (firstSM s i done)))) [sS (some s.l.nil) eOp s.l.D, .pv (.lit (.map none)), sS (some true) (eI .i64) []] [] := by
 generalize hR : firstSM s i done = R
 refine ObjCalls.of_body tabOk Try.func50 rfl rfl rfl rfl rfl allB_nil (of_decide_eq_true rfl) rfl rfl allB_nil (of_decide_eq_true rfl) mixed fun E hP C hI => ?_
 refine Awp.consP C ?_
 refine rvP C (.pv (.lit (.bool false))) ?_
 refine rvc_nil ?_
 refine Awp.seq ?_
 refine Awp.consP C ?_
 refine rvP C (.ptr 0 0) ?_
 refine rvP C (.ptr 0 0) ?_
 refine rvP C (.ptr 0 0) ?_
 refine rvP C (sS (some s.l.nil) eOp s.l.D) ?_
 refine rvP C (.pv (.lit (.int .i64 (s.l.D.length : Int)))) ?_
 refine rvP C (.pv (.lit (.int .i64 0))) ?_
 refine rvc_nil ?_
 refine Awp.block ?_
 refine Awp.forR (σ := Unit) (s.l.D.length) (fun i1 _v => [(0, .ptr 0 0), (1, .pv (.lit (.int .i64 i))), (2, .pv (.lit (.int .u64 done))), (12, sS (some s.l.nil) eOp s.l.D), (13, .pv (.lit (.int .i64 (s.l.D.length : Int)))), (14, .pv (.lit (.int .i64 (i1 : Int))))]) (fun i1 _v => [(0, .cells [sS (some s.l.nil) eOp s.l.D, .pv (.lit (.map none)), sS (some true) (eI .i64) []])]) [0] (fun i1 _v => firstSM_l0 s i done (s.l.D.drop i1) i1  = R) () ?_ ?_ (fun i1 _v h1 hR => ?_)
 · exact hR
 · exact ⟨fun b => b, WeakerR.ofLI (I := [0]) (Ks := [0]) hI ⟨⟨rfl, rfl⟩, ⟨rfl, rfl⟩, ⟨rfl, rfl⟩, ⟨rfl, rfl⟩, ⟨rfl, rfl⟩, ⟨rfl, rfl⟩, trivial⟩ (okH_cons rfl rfl rfl rfl (okH_nil)) rfl rfl⟩
 refine Awp.consP C ?_
 refine rvP C (.pv (.lit (.bool (decide ((i1 : Int) < (s.l.D.length : Int)))))) ?_
 refine rvc_nil ?_
 refine Awp.seq ?_
 refine Awp.cond (b := (decide ((i1 : Int) < (s.l.D.length : Int)))) rfl (fun h2 => ?_) (fun h2 => ?_)
 ·
  have h3 : i1 < s.l.D.length := by have := of_decide_eq_true h2; omega
  obtain ⟨x, h4⟩ := getX h3
  rw [drop_at h4] at hR
  refine Awp.skip ?_
  refine Awp.seq ?_
  refine Awp.block ?_
  refine Awp.consP C ?_
  refine rvP C (.pv (.lit (.int .i64 (i1 : Int)))) ?_
  refine rvc_un (rexec_idxS C rfl rfl rfl rfl rfl rfl x (Int.natCast_nonneg _) h4 ?_)
  refine rvP C (.agg [.pv (.lit (.bool x.write)), .pv (.lit (.string x.value)), .pv (.lit (.int .i64 x.ver)), .pv (.lit (.int .i64 x.began)), .pv (.lit (.int .i64 x.ended))]) ?_
  refine rvc_un (rexec_prim C (δ := { v := .ptr 8 0, new := [(8, .cells [.pv (.lit (.bool false)), .pv (.lit (.string ⟨#[]⟩)), .pv (.lit (.int .i64 0)), .pv (.lit (.int .i64 0)), .pv (.lit (.int .i64 0))])] }) rfl rfl rfl rfl trivial rfl ?_)
  refine rvP C (.pv (.lit (.int .i64 (i1 : Int)))) ?_
  refine rvc_un (rexec_prim C (δ := { v := .undef, wr := [(8, some (.cells [.pv (.lit (.bool x.write)), .pv (.lit (.string x.value)), .pv (.lit (.int .i64 x.ver)), .pv (.lit (.int .i64 x.began)), .pv (.lit (.int .i64 x.ended))]))] }) rfl rfl rfl rfl trivial rfl ?_)
  refine rvc_nil ?_
  refine Awp.consP C ?_
  refine rvP C (.pv (.lit (.int .i64 (i1 : Int)))) ?_
  refine rvP C (.pv (.lit (.int .i64 i))) ?_
  refine rvP C (.pv (.lit (.bool ((i1 : Int) != i)))) ?_
  refine rvP C (.pv (.lit (.bool ((i1 : Int) != i)))) ?_
  refine rvc_case 22 ((i1 : Int) != i) rfl (fun h5 => ?_) (fun h5 => ?_)
  ·
   replace hR := of_true h5 hR
   refine rvO C (.pv (.lit (.int .u64 done))) ?_
   refine rvO C (.pv (.lit (.int .i64 (i1 : Int)))) ?_
   refine rvc_open rfl rfl rfl (rexec_call hP C rfl rfl rfl (mHas_calls done (i1 : Int)) ?_)
   refine rvO C (.pv (.lit (.bool (!(mHas done (i1 : Int)))))) ?_
   refine rvP C (.pv (.lit (.bool (!(mHas done (i1 : Int)))))) ?_
   refine rvP C (.pv (.lit (.bool (!(mHas done (i1 : Int)))))) ?_
   refine rvc_case 28 (!(mHas done (i1 : Int))) rfl (fun h6 => ?_) (fun h6 => ?_)
   ·
    replace hR := of_true h6 hR
    refine rvO C (.agg [.pv (.lit (.bool x.write)), .pv (.lit (.string x.value)), .pv (.lit (.int .i64 x.ver)), .pv (.lit (.int .i64 x.began)), .pv (.lit (.int .i64 x.ended))]) ?_
    refine rvc_open rfl rfl rfl (rexec_call hP C rfl rfl rfl (over_calls x) ?_)
    refine rvO C (.ptr 0 0) ?_
    refine rvO C (.ptr 0 0) ?_
    refine rvO C (.ptr 0 0) ?_
    refine rvO C (sS (some s.l.nil) eOp s.l.D) ?_
    refine rvO C (.pv (.lit (.int .i64 i))) ?_
    have h7 : s.l.D[i.toNat]? = some s.l.D[i.toNat]! := getE (by have := of_decide_eq_true h2; have := bne_iff_ne.1 h5; omega)
    refine rvc_open rfl rfl rfl (rexec_idxS C rfl rfl rfl rfl rfl rfl (s.l.D[i.toNat]!) (by have := of_decide_eq_true h2; have := bne_iff_ne.1 h5; omega) h7 ?_)
    refine rvO C (.rp [.lit (.int .i64 (s.l.D[i.toNat]!.began))]) ?_
    refine rvO C (.pv (.lit (.int .i64 (s.l.D[i.toNat]!.began)))) ?_
    refine rvO C (.pv (.lit (.bool (decide ((over x) < (s.l.D[i.toNat]!.began)))))) ?_
    refine rvP C (.pv (.lit (.bool (decide ((over x) < (s.l.D[i.toNat]!.began)))))) ?_
    refine rvc_nil ?_
    refine Awp.cond (b := (decide ((over x) < (s.l.D[i.toNat]!.began)))) rfl (fun h8 => ?_) (fun h8 => ?_)
    ·
     replace hR := of_true h8 hR
     refine Awp.consP C ?_
     refine rvP C (.pv (.lit (.bool false))) ?_
     refine rvc_nil ?_
     refine Awp.ret ?_
     subst hR
     exact ⟨.inl rfl, rfl, rfl, trivial⟩
    ·
     replace hR := of_false h8 hR
     refine Awp.skip ?_
     refine Awp.regionP C ?_
     refine rvP C (.pv (.lit (.int .i64 (IntKind.i64.wrap ((i1 : Int) + 1))))) ?_
     refine rvP C (.pv (.lit (.int .i64 (IntKind.i64.wrap ((i1 : Int) + 1))))) ?_
     refine rvc_nil ?_
     refine ⟨h3, (), ?_, ?_⟩
     · exact hR
     · exact ⟨fun b => b, WeakerR.ofLI (I := [0]) (Ks := [0]) hI ⟨⟨rfl, rfl⟩, ⟨rfl, rfl⟩, ⟨rfl, rfl⟩, ⟨rfl, rfl⟩, ⟨rfl, rfl⟩, ⟨lit_cast (wrap_i64 (by omega) (by omega)), rfl⟩, trivial⟩ (okH_cons rfl rfl rfl rfl (okH_nil)) rfl rfl⟩
   ·
    replace hR := of_false h6 hR
    refine rvS ?_
    refine rvS ?_
    refine rvS ?_
    refine rvS ?_
    refine rvS ?_
    refine rvS ?_
    refine rvS ?_
    refine rvS ?_
    refine rvS ?_
    refine rvS ?_
    refine rvS ?_
    refine rvP C (.pv (.lit (.bool false))) ?_
    refine rvc_nil ?_
    refine Awp.condF (b := false) rfl rfl ?_
    refine Awp.skip ?_
    refine Awp.regionP C ?_
    refine rvP C (.pv (.lit (.int .i64 (IntKind.i64.wrap ((i1 : Int) + 1))))) ?_
    refine rvP C (.pv (.lit (.int .i64 (IntKind.i64.wrap ((i1 : Int) + 1))))) ?_
    refine rvc_nil ?_
    refine ⟨h3, (), ?_, ?_⟩
    · exact hR
    · exact ⟨fun b => b, WeakerR.ofLI (I := [0]) (Ks := [0]) hI ⟨⟨rfl, rfl⟩, ⟨rfl, rfl⟩, ⟨rfl, rfl⟩, ⟨rfl, rfl⟩, ⟨rfl, rfl⟩, ⟨lit_cast (wrap_i64 (by omega) (by omega)), rfl⟩, trivial⟩ (okH_cons rfl rfl rfl rfl (okH_nil)) rfl rfl⟩
  ·
   replace hR := of_false h5 hR
   refine rvS ?_
   refine rvS ?_
   refine rvS ?_
   refine rvS ?_
   refine rvP C (.pv (.lit (.bool false))) ?_
   refine rvP C (.pv (.lit (.bool false))) ?_
   refine rvS ?_
   refine rvS ?_
   refine rvS ?_
   refine rvS ?_
   refine rvS ?_
   refine rvS ?_
   refine rvS ?_
   refine rvS ?_
   refine rvS ?_
   refine rvS ?_
   refine rvS ?_
   refine rvP C (.pv (.lit (.bool false))) ?_
   refine rvc_nil ?_
   refine Awp.condF (b := false) rfl rfl ?_
   refine Awp.skip ?_
   refine Awp.regionP C ?_
   refine rvP C (.pv (.lit (.int .i64 (IntKind.i64.wrap ((i1 : Int) + 1))))) ?_
   refine rvP C (.pv (.lit (.int .i64 (IntKind.i64.wrap ((i1 : Int) + 1))))) ?_
   refine rvc_nil ?_
   refine ⟨h3, (), ?_, ?_⟩
   · exact hR
   · exact ⟨fun b => b, WeakerR.ofLI (I := [0]) (Ks := [0]) hI ⟨⟨rfl, rfl⟩, ⟨rfl, rfl⟩, ⟨rfl, rfl⟩, ⟨rfl, rfl⟩, ⟨rfl, rfl⟩, ⟨lit_cast (wrap_i64 (by omega) (by omega)), rfl⟩, trivial⟩ (okH_cons rfl rfl rfl rfl (okH_nil)) rfl rfl⟩
 ·
  have h3 : ¬ i1 < s.l.D.length := by have := of_decide_eq_false h2; omega
  rw [drop_end h3] at hR
  refine Awp.exit ?_
  refine Awp.consP C ?_
  refine rvP C (.pv (.lit (.bool true))) ?_
  refine rvc_nil ?_
  refine Awp.ret ?_
  subst hR
  exact ⟨.inl rfl, rfl, rfl, trivial⟩
def fitsL_l0 (l : (Sl Op)) : List Int → Nat → Int → ByteArray → Bool
  | [], _, done, _ => (allSM (Search.mk l [] (Sl.mk true [])) done)
  | x :: xs, i, done, value => (bif (decide (x < 0)) then false else (bif (decide (x ≥ (l.D.length : Int))) then false else (bif (mHas done x) then false else (bif (!(firstSM (Search.mk l [] (Sl.mk true [])) x done)) then false else (bif (!(l.D[x.toNat]!.write)) then (bif (!((l.D[x.toNat]!.value).toList == value.toList)) then false else (bif l.D[x.toNat]!.write then fitsL_l0 l xs (i + 1) (mWith done x) (l.D[x.toNat]!.value) else fitsL_l0 l xs (i + 1) (mWith done x) value)) else (bif l.D[x.toNat]!.write then fitsL_l0 l xs (i + 1) (mWith done x) (l.D[x.toNat]!.value) else fitsL_l0 l xs (i + 1) (mWith done x) value))))))
def fitsL (row : (Sl Int)) (l : (Sl Op)) : Bool :=
  (bif ((rightL l) != 0) then false else fitsL_l0 l row.D 0 0 ⟨#[]⟩)
theorem fitsL_calls (row : (Sl Int)) (l : (Sl Op)) (hl1 : l.D.length ≤ 9223372036854775807) (hl2 : row.D.length ≤ 9223372036854775807) : PCalls Try.prog 33 [sS (some row.nil) (eI .i64) row.D, sS (some l.nil) eOp l.D] (.pv (.lit (.bool (fitsL row l)))) := by
 generalize hR : fitsL row l = R
 refine PCalls.of_body tabOk Try.func33 rfl rfl rfl rfl rfl mixed fun E hP C hI => ?_
 refine Awp.consP C ?_
 refine rvP C (.pv (.lit (.bool false))) ?_
 refine rvc_nil ?_
 refine Awp.seq ?_
 refine Awp.consP C ?_
 refine rvP C (sS (some l.nil) eOp l.D) ?_
 refine rvc_un (rexec_call hP C rfl rfl rfl (rightL_calls l hl1) ?_)
 refine rvP C (.pv (.lit (.bool ((rightL l) != 0)))) ?_
 refine rvc_nil ?_
 refine Awp.cond (b := ((rightL l) != 0)) rfl (fun h1 => ?_) (fun h1 => ?_)
 ·
  replace hR := of_true h1 hR
  refine Awp.consP C ?_
  refine rvP C (.pv (.lit (.bool false))) ?_
  refine rvc_nil ?_
  refine Awp.ret ?_
  subst hR
  exact ⟨.inl rfl, rfl⟩
 ·
  replace hR := of_false h1 hR
  refine Awp.skip ?_
  refine Awp.consP C ?_
  refine rvP C (sS (some l.nil) eOp l.D) ?_
  refine rvP C (.agg [sS (some l.nil) eOp l.D, .pv (.lit (.map none)), sS (some true) (eI .i64) []]) ?_
  refine rvc_un (rexec_prim C (δ := { v := .ptr 15 0, new := [(15, .cells [sS (some l.nil) eOp l.D, .pv (.lit (.map none)), sS (some true) (eI .i64) []])] }) rfl rfl rfl rfl trivial rfl ?_)
  refine rvP C (.ptr 15 0) ?_
  refine rvc_nil ?_
  refine Awp.consP C ?_
  refine rvP C (.pv (.lit (.int .u64 0))) ?_
  refine rvc_nil ?_
  refine Awp.consP C ?_
  refine rvP C (.pv (.lit (.string ⟨#[]⟩))) ?_
  refine rvc_nil ?_
  refine Awp.seq ?_
  refine Awp.consP C ?_
  refine rvP C (sS (some row.nil) (eI .i64) row.D) ?_
  refine rvP C (.pv (.lit (.int .i64 (row.D.length : Int)))) ?_
  refine rvP C (.pv (.lit (.int .i64 0))) ?_
  refine rvc_nil ?_
  refine Awp.block ?_
  refine Awp.forR (σ := Int × ByteArray) (row.D.length) (fun i v => [(1, sS (some l.nil) eOp l.D), (5, .ptr 15 0), (6, .pv (.lit (.int .u64 v.1))), (7, .pv (.lit (.string v.2))), (16, sS (some row.nil) (eI .i64) row.D), (17, .pv (.lit (.int .i64 (row.D.length : Int)))), (18, .pv (.lit (.int .i64 (i : Int))))]) (fun i v => [(15, .cells [sS (some l.nil) eOp l.D, .pv (.lit (.map none)), sS (some true) (eI .i64) []])]) [15] (fun i v => fitsL_l0 l (row.D.drop i) i v.1 v.2 = R) (0, ⟨#[]⟩) ?_ ?_ (fun i v h2 hR => ?_)
  · exact hR
  · exact ⟨fun b => b, WeakerR.ofL (Ks := [15]) hI ⟨⟨rfl, rfl⟩, ⟨rfl, rfl⟩, ⟨rfl, rfl⟩, ⟨rfl, rfl⟩, ⟨rfl, rfl⟩, ⟨rfl, rfl⟩, ⟨rfl, rfl⟩, trivial⟩ (okH_cons rfl rfl rfl rfl (okH_nil)) rfl⟩
  obtain ⟨done, value⟩ := v
  refine Awp.consP C ?_
  refine rvP C (.pv (.lit (.bool (decide ((i : Int) < (row.D.length : Int)))))) ?_
  refine rvc_nil ?_
  refine Awp.seq ?_
  refine Awp.cond (b := (decide ((i : Int) < (row.D.length : Int)))) rfl (fun h3 => ?_) (fun h3 => ?_)
  ·
   have h4 : i < row.D.length := by have := of_decide_eq_true h3; omega
   obtain ⟨x, h5⟩ := getX h4
   rw [drop_at h5] at hR
   refine Awp.skip ?_
   refine Awp.seq ?_
   refine Awp.block ?_
   refine Awp.consP C ?_
   refine rvc_un (rexec_idxS C rfl rfl rfl rfl rfl rfl x (Int.natCast_nonneg _) h5 ?_)
   refine rvP C (.pv (.lit (.int .i64 x))) ?_
   refine rvP C (.pv (.lit (.int .i64 x))) ?_
   refine rvc_nil ?_
   refine Awp.seq ?_
   refine Awp.cons C (fun _ => .writer) (by kernel_rfl) ?_
   refine rvP C (.pv (.lit (.int .i64 x))) ?_
   refine rvP C (.pv (.lit (.bool (decide (x < 0))))) ?_
   refine rvP C (.pv (.lit (.bool (decide (x < 0))))) ?_
   refine rvc_case 24 (decide (x < 0)) rfl (fun h6 => ?_) (fun h6 => ?_)
   ·
    replace hR := of_true h6 hR
    refine rvS ?_
    refine rvS ?_
    refine rvS ?_
    refine rvS ?_
    refine rvP C (.pv (.lit (.bool true))) ?_
    refine rvP C (.pv (.lit (.bool true))) ?_
    refine rvS ?_
    refine rvS ?_
    refine rvS ?_
    refine rvP C (.pv (.lit (.bool true))) ?_
    refine rvP C (.pv (.lit (.bool true))) ?_
    refine rvS ?_
    refine rvS ?_
    refine rvS ?_
    refine rvS ?_
    refine rvS ?_
    refine rvP C (.pv (.lit (.bool true))) ?_
    refine rvP C (.pv (.lit (.bool true))) ?_
    refine rvS ?_
    refine rvS ?_
    refine rvS ?_
    refine rvS ?_
    refine rvS ?_
    refine rvS ?_
    refine rvS ?_
    refine rvc_shutU rfl rfl rfl ?_
    refine rvc_shutU rfl rfl rfl ?_
    refine rvc_shutU rfl rfl rfl ?_
    refine rvc_shutU rfl rfl rfl ?_
    refine rvc_shutU rfl rfl rfl ?_
    refine rvc_shutU rfl rfl rfl ?_
    refine rvc_shutU rfl rfl rfl ?_
    refine rvS ?_
    refine rvP C (.pv (.lit (.bool true))) ?_
    refine rvc_nil ?_
    refine Awp.condT (b := true) rfl rfl ?_
    refine Awp.consP C ?_
    refine rvP C (.pv (.lit (.bool false))) ?_
    refine rvc_nil ?_
    refine Awp.ret ?_
    subst hR
    exact ⟨.inl rfl, rfl⟩
   ·
    replace hR := of_false h6 hR
    refine rvO C (.pv (.lit (.int .i64 x))) ?_
    refine rvO C (sS (some l.nil) eOp l.D) ?_
    refine rvO C (.pv (.lit (.int .i64 (l.D.length : Int)))) ?_
    refine rvO C (.pv (.lit (.bool (decide (x ≥ (l.D.length : Int)))))) ?_
    refine rvP C (.pv (.lit (.bool (decide (x ≥ (l.D.length : Int)))))) ?_
    refine rvP C (.pv (.lit (.bool (decide (x ≥ (l.D.length : Int)))))) ?_
    refine rvc_case 30 (decide (x ≥ (l.D.length : Int))) rfl (fun h7 => ?_) (fun h7 => ?_)
    ·
     replace hR := of_true h7 hR
     refine rvS ?_
     refine rvS ?_
     refine rvS ?_
     refine rvP C (.pv (.lit (.bool true))) ?_
     refine rvP C (.pv (.lit (.bool true))) ?_
     refine rvS ?_
     refine rvS ?_
     refine rvS ?_
     refine rvS ?_
     refine rvS ?_
     refine rvP C (.pv (.lit (.bool true))) ?_
     refine rvP C (.pv (.lit (.bool true))) ?_
     refine rvS ?_
     refine rvS ?_
     refine rvS ?_
     refine rvS ?_
     refine rvS ?_
     refine rvS ?_
     refine rvS ?_
     refine rvc_shutU rfl rfl rfl ?_
     refine rvc_shutU rfl rfl rfl ?_
     refine rvc_shutU rfl rfl rfl ?_
     refine rvc_shutU rfl rfl rfl ?_
     refine rvc_shutU rfl rfl rfl ?_
     refine rvc_shutU rfl rfl rfl ?_
     refine rvc_shutU rfl rfl rfl ?_
     refine rvS ?_
     refine rvP C (.pv (.lit (.bool true))) ?_
     refine rvc_nil ?_
     refine Awp.condT (b := true) rfl rfl ?_
     refine Awp.consP C ?_
     refine rvP C (.pv (.lit (.bool false))) ?_
     refine rvc_nil ?_
     refine Awp.ret ?_
     subst hR
     exact ⟨.inl rfl, rfl⟩
    ·
     replace hR := of_false h7 hR
     refine rvO C (.pv (.lit (.int .u64 done))) ?_
     refine rvO C (.pv (.lit (.int .i64 x))) ?_
     refine rvc_open rfl rfl rfl (rexec_call hP C rfl rfl rfl (mHas_calls done x) ?_)
     refine rvP C (.pv (.lit (.bool (mHas done x)))) ?_
     refine rvP C (.pv (.lit (.bool (mHas done x)))) ?_
     refine rvc_case 35 (mHas done x) rfl (fun h8 => ?_) (fun h8 => ?_)
     ·
      replace hR := of_true h8 hR
      refine rvS ?_
      refine rvS ?_
      refine rvS ?_
      refine rvS ?_
      refine rvS ?_
      refine rvP C (.pv (.lit (.bool true))) ?_
      refine rvP C (.pv (.lit (.bool true))) ?_
      refine rvS ?_
      refine rvS ?_
      refine rvS ?_
      refine rvS ?_
      refine rvS ?_
      refine rvS ?_
      refine rvS ?_
      refine rvc_shutU rfl rfl rfl ?_
      refine rvc_shutU rfl rfl rfl ?_
      refine rvc_shutU rfl rfl rfl ?_
      refine rvc_shutU rfl rfl rfl ?_
      refine rvc_shutU rfl rfl rfl ?_
      refine rvc_shutU rfl rfl rfl ?_
      refine rvc_shutU rfl rfl rfl ?_
      refine rvS ?_
      refine rvP C (.pv (.lit (.bool true))) ?_
      refine rvc_nil ?_
      refine Awp.condT (b := true) rfl rfl ?_
      refine Awp.consP C ?_
      refine rvP C (.pv (.lit (.bool false))) ?_
      refine rvc_nil ?_
      refine Awp.ret ?_
      subst hR
      exact ⟨.inl rfl, rfl⟩
     ·
      replace hR := of_false h8 hR
      refine rvO C (.ptr 15 0) ?_
      refine rvO C (.pv (.lit (.int .i64 x))) ?_
      refine rvO C (.pv (.lit (.int .u64 done))) ?_
      refine rvc_open rfl rfl rfl (rexec_callObj hP C (fun b => bif b == 0 then 15 else b) [] rfl rfl rfl (firstSM_calls (Search.mk l [] (Sl.mk true [])) x done ⟨by have h_ := of_decide_eq_false (show decide (x < 0) = false by assumption); omega, by have h_ := of_decide_eq_false (show decide (x ≥ (l.D.length : Int)) = false by assumption); show _ < (l.D.length : Int); omega⟩ hl1) rfl rfl trivial (of_decide_eq_true rfl) rfl (of_decide_eq_true rfl) (of_decide_eq_true rfl) allB_nil allB_nil allB_nil ?_ rfl allB_nil)
      refine rvO C (.pv (.lit (.bool (!(firstSM (Search.mk l [] (Sl.mk true [])) x done))))) ?_
      refine rvP C (.pv (.lit (.bool (!(firstSM (Search.mk l [] (Sl.mk true [])) x done))))) ?_
      refine rvP C (.pv (.lit (.bool (!(firstSM (Search.mk l [] (Sl.mk true [])) x done))))) ?_
      refine rvc_case 42 (!(firstSM (Search.mk l [] (Sl.mk true [])) x done)) rfl (fun h9 => ?_) (fun h9 => ?_)
      ·
       replace hR := of_true h9 hR
       refine rvS ?_
       refine rvS ?_
       refine rvS ?_
       refine rvS ?_
       refine rvS ?_
       refine rvS ?_
       refine rvS ?_
       refine rvc_shutU rfl rfl rfl ?_
       refine rvc_shutU rfl rfl rfl ?_
       refine rvc_shutU rfl rfl rfl ?_
       refine rvc_shutU rfl rfl rfl ?_
       refine rvc_shutU rfl rfl rfl ?_
       refine rvc_shutU rfl rfl rfl ?_
       refine rvc_shutU rfl rfl rfl ?_
       refine rvS ?_
       refine rvP C (.pv (.lit (.bool true))) ?_
       refine rvc_nil ?_
       refine Awp.condT (b := true) rfl rfl ?_
       refine Awp.consP C ?_
       refine rvP C (.pv (.lit (.bool false))) ?_
       refine rvc_nil ?_
       refine Awp.ret ?_
       subst hR
       exact ⟨.inl rfl, rfl⟩
      ·
       replace hR := of_false h9 hR
       refine rvO C (sS (some l.nil) eOp l.D) ?_
       refine rvO C (.pv (.lit (.int .i64 x))) ?_
       have h10 : l.D[x.toNat]? = some l.D[x.toNat]! := getE (by have := eq_of_bne_false h1; have := of_decide_eq_true h3; have := of_decide_eq_false h6; have := of_decide_eq_false h7; omega)
       refine rvc_open rfl rfl rfl (rexec_idxS C rfl rfl rfl rfl rfl rfl (l.D[x.toNat]!) (by have := eq_of_bne_false h1; have := of_decide_eq_true h3; have := of_decide_eq_false h6; have := of_decide_eq_false h7; omega) h10 ?_)
       refine rvO C (.rp [.lit (.bool (l.D[x.toNat]!.write))]) ?_
       refine rvO C (.pv (.lit (.bool (l.D[x.toNat]!.write)))) ?_
       refine rvO C (.pv (.lit (.bool (!(l.D[x.toNat]!.write))))) ?_
       refine rvO C (.pv (.lit (.bool (!(l.D[x.toNat]!.write))))) ?_
       refine rvc_case 49 (!(l.D[x.toNat]!.write)) rfl (fun h11 => ?_) (fun h11 => ?_)
       ·
        replace hR := of_true h11 hR
        refine rvO C (sS (some l.nil) eOp l.D) ?_
        refine rvO C (.pv (.lit (.int .i64 x))) ?_
        refine rvc_open rfl rfl rfl (rexec_idxS C rfl rfl rfl rfl rfl rfl (l.D[x.toNat]!) (by have := eq_of_bne_false h1; have := of_decide_eq_true h3; have := of_decide_eq_false h6; have := of_decide_eq_false h7; omega) h10 ?_)
        refine rvO C (.rp [.lit (.string (l.D[x.toNat]!.value))]) ?_
        refine rvO C (.pv (.lit (.string (l.D[x.toNat]!.value)))) ?_
        refine rvO C (.pv (.lit (.string value))) ?_
        refine rvO C (.pv (.lit (.bool (!((l.D[x.toNat]!.value).toList == value.toList))))) ?_
        refine rvO C (.pv (.lit (.bool (!((l.D[x.toNat]!.value).toList == value.toList))))) ?_
        refine rvP C (.pv (.lit (.bool (!((l.D[x.toNat]!.value).toList == value.toList))))) ?_
        refine rvc_nil ?_
        refine Awp.cond (b := (!((l.D[x.toNat]!.value).toList == value.toList))) rfl (fun h12 => ?_) (fun h12 => ?_)
        ·
         replace hR := of_true h12 hR
         refine Awp.consP C ?_
         refine rvP C (.pv (.lit (.bool false))) ?_
         refine rvc_nil ?_
         refine Awp.ret ?_
         subst hR
         exact ⟨.inl rfl, rfl⟩
        ·
         replace hR := of_false h12 hR
         refine Awp.skip ?_
         refine Awp.seq ?_
         refine Awp.consP C ?_
         refine rvP C (sS (some l.nil) eOp l.D) ?_
         refine rvP C (.pv (.lit (.int .i64 x))) ?_
         refine rvc_un (rexec_idxS C rfl rfl rfl rfl rfl rfl (l.D[x.toNat]!) (by have := eq_of_bne_false h1; have := of_decide_eq_true h3; have := of_decide_eq_false h6; have := of_decide_eq_false h7; omega) h10 ?_)
         refine rvP C (.rp [.lit (.bool (l.D[x.toNat]!.write))]) ?_
         refine rvP C (.pv (.lit (.bool (l.D[x.toNat]!.write)))) ?_
         refine rvc_nil ?_
         refine Awp.cond (b := l.D[x.toNat]!.write) rfl (fun h13 => ?_) (fun h13 => ?_)
         ·
          replace hR := of_true h13 hR
          refine Awp.regionP C ?_
          refine rvP C (sS (some l.nil) eOp l.D) ?_
          refine rvP C (.pv (.lit (.int .i64 x))) ?_
          refine rvc_un (rexec_idxS C rfl rfl rfl rfl rfl rfl (l.D[x.toNat]!) (by have := eq_of_bne_false h1; have := of_decide_eq_true h3; have := of_decide_eq_false h6; have := of_decide_eq_false h7; omega) h10 ?_)
          refine rvP C (.rp [.lit (.string (l.D[x.toNat]!.value))]) ?_
          refine rvP C (.pv (.lit (.string (l.D[x.toNat]!.value)))) ?_
          refine rvP C (.pv (.lit (.string (l.D[x.toNat]!.value)))) ?_
          refine rvc_nil ?_
          refine Awp.regionP C ?_
          refine rvP C (.pv (.lit (.int .u64 done))) ?_
          refine rvP C (.pv (.lit (.int .i64 x))) ?_
          refine rvc_un (rexec_call hP C rfl rfl rfl (mWith_calls done x) ?_)
          refine rvP C (.pv (.lit (.int .u64 (mWith done x)))) ?_
          refine rvc_nil ?_
          refine Awp.regionP C ?_
          refine rvP C (.pv (.lit (.int .i64 (IntKind.i64.wrap ((i : Int) + 1))))) ?_
          refine rvP C (.pv (.lit (.int .i64 (IntKind.i64.wrap ((i : Int) + 1))))) ?_
          refine rvc_nil ?_
          refine ⟨h4, ((mWith done x), l.D[x.toNat]!.value), ?_, ?_⟩
          · exact hR
          · exact ⟨fun b => b, WeakerR.ofL (Ks := [15]) hI ⟨⟨rfl, rfl⟩, ⟨rfl, rfl⟩, ⟨rfl, rfl⟩, ⟨rfl, rfl⟩, ⟨rfl, rfl⟩, ⟨rfl, rfl⟩, ⟨lit_cast (wrap_i64 (by omega) (by omega)), rfl⟩, trivial⟩ (okH_cons rfl rfl rfl rfl (okH_nil)) rfl⟩
         ·
          replace hR := of_false h13 hR
          refine Awp.skip ?_
          refine Awp.regionP C ?_
          refine rvP C (.pv (.lit (.int .u64 done))) ?_
          refine rvP C (.pv (.lit (.int .i64 x))) ?_
          refine rvc_un (rexec_call hP C rfl rfl rfl (mWith_calls done x) ?_)
          refine rvP C (.pv (.lit (.int .u64 (mWith done x)))) ?_
          refine rvc_nil ?_
          refine Awp.regionP C ?_
          refine rvP C (.pv (.lit (.int .i64 (IntKind.i64.wrap ((i : Int) + 1))))) ?_
          refine rvP C (.pv (.lit (.int .i64 (IntKind.i64.wrap ((i : Int) + 1))))) ?_
          refine rvc_nil ?_
          refine ⟨h4, ((mWith done x), value), ?_, ?_⟩
          · exact hR
          · exact ⟨fun b => b, WeakerR.ofL (Ks := [15]) hI ⟨⟨rfl, rfl⟩, ⟨rfl, rfl⟩, ⟨rfl, rfl⟩, ⟨rfl, rfl⟩, ⟨rfl, rfl⟩, ⟨rfl, rfl⟩, ⟨lit_cast (wrap_i64 (by omega) (by omega)), rfl⟩, trivial⟩ (okH_cons rfl rfl rfl rfl (okH_nil)) rfl⟩
       ·
        replace hR := of_false h11 hR
        refine rvS ?_
        refine rvS ?_
        refine rvS ?_
        refine rvS ?_
        refine rvS ?_
        refine rvS ?_
        refine rvS ?_
        refine rvO C (.pv (.lit (.bool false))) ?_
        refine rvP C (.pv (.lit (.bool false))) ?_
        refine rvc_nil ?_
        refine Awp.condF (b := false) rfl rfl ?_
        refine Awp.skip ?_
        refine Awp.seq ?_
        refine Awp.consP C ?_
        refine rvP C (sS (some l.nil) eOp l.D) ?_
        refine rvP C (.pv (.lit (.int .i64 x))) ?_
        refine rvc_un (rexec_idxS C rfl rfl rfl rfl rfl rfl (l.D[x.toNat]!) (by have := eq_of_bne_false h1; have := of_decide_eq_true h3; have := of_decide_eq_false h6; have := of_decide_eq_false h7; omega) h10 ?_)
        refine rvP C (.rp [.lit (.bool (l.D[x.toNat]!.write))]) ?_
        refine rvP C (.pv (.lit (.bool (l.D[x.toNat]!.write)))) ?_
        refine rvc_nil ?_
        refine Awp.cond (b := l.D[x.toNat]!.write) rfl (fun h14 => ?_) (fun h14 => ?_)
        ·
         replace hR := of_true h14 hR
         refine Awp.regionP C ?_
         refine rvP C (sS (some l.nil) eOp l.D) ?_
         refine rvP C (.pv (.lit (.int .i64 x))) ?_
         refine rvc_un (rexec_idxS C rfl rfl rfl rfl rfl rfl (l.D[x.toNat]!) (by have := eq_of_bne_false h1; have := of_decide_eq_true h3; have := of_decide_eq_false h6; have := of_decide_eq_false h7; omega) h10 ?_)
         refine rvP C (.rp [.lit (.string (l.D[x.toNat]!.value))]) ?_
         refine rvP C (.pv (.lit (.string (l.D[x.toNat]!.value)))) ?_
         refine rvP C (.pv (.lit (.string (l.D[x.toNat]!.value)))) ?_
         refine rvc_nil ?_
         refine Awp.regionP C ?_
         refine rvP C (.pv (.lit (.int .u64 done))) ?_
         refine rvP C (.pv (.lit (.int .i64 x))) ?_
         refine rvc_un (rexec_call hP C rfl rfl rfl (mWith_calls done x) ?_)
         refine rvP C (.pv (.lit (.int .u64 (mWith done x)))) ?_
         refine rvc_nil ?_
         refine Awp.regionP C ?_
         refine rvP C (.pv (.lit (.int .i64 (IntKind.i64.wrap ((i : Int) + 1))))) ?_
         refine rvP C (.pv (.lit (.int .i64 (IntKind.i64.wrap ((i : Int) + 1))))) ?_
         refine rvc_nil ?_
         refine ⟨h4, ((mWith done x), l.D[x.toNat]!.value), ?_, ?_⟩
         · exact hR
         · exact ⟨fun b => b, WeakerR.ofL (Ks := [15]) hI ⟨⟨rfl, rfl⟩, ⟨rfl, rfl⟩, ⟨rfl, rfl⟩, ⟨rfl, rfl⟩, ⟨rfl, rfl⟩, ⟨rfl, rfl⟩, ⟨lit_cast (wrap_i64 (by omega) (by omega)), rfl⟩, trivial⟩ (okH_cons rfl rfl rfl rfl (okH_nil)) rfl⟩
        ·
         replace hR := of_false h14 hR
         refine Awp.skip ?_
         refine Awp.regionP C ?_
         refine rvP C (.pv (.lit (.int .u64 done))) ?_
         refine rvP C (.pv (.lit (.int .i64 x))) ?_
         refine rvc_un (rexec_call hP C rfl rfl rfl (mWith_calls done x) ?_)
         refine rvP C (.pv (.lit (.int .u64 (mWith done x)))) ?_
         refine rvc_nil ?_
         refine Awp.regionP C ?_
         refine rvP C (.pv (.lit (.int .i64 (IntKind.i64.wrap ((i : Int) + 1))))) ?_
         refine rvP C (.pv (.lit (.int .i64 (IntKind.i64.wrap ((i : Int) + 1))))) ?_
         refine rvc_nil ?_
         refine ⟨h4, ((mWith done x), value), ?_, ?_⟩
         · exact hR
         · exact ⟨fun b => b, WeakerR.ofL (Ks := [15]) hI ⟨⟨rfl, rfl⟩, ⟨rfl, rfl⟩, ⟨rfl, rfl⟩, ⟨rfl, rfl⟩, ⟨rfl, rfl⟩, ⟨rfl, rfl⟩, ⟨lit_cast (wrap_i64 (by omega) (by omega)), rfl⟩, trivial⟩ (okH_cons rfl rfl rfl rfl (okH_nil)) rfl⟩
  ·
   have h4 : ¬ i < row.D.length := by have := of_decide_eq_false h3; omega
   rw [drop_end h4] at hR
   refine Awp.exit ?_
   refine Awp.cons C (fun _ => .writer) (by kernel_rfl) ?_
   refine rvP C (.ptr 15 0) ?_
   refine rvP C (.pv (.lit (.int .u64 done))) ?_
   refine rvc_un (rexec_callObj hP C (fun b => bif b == 0 then 15 else b) [] rfl rfl rfl (allSM_calls (Search.mk l [] (Sl.mk true [])) done hl1) rfl rfl trivial (of_decide_eq_true rfl) rfl (of_decide_eq_true rfl) (of_decide_eq_true rfl) allB_nil allB_nil allB_nil ?_ rfl allB_nil)
   refine rvP C (.pv (.lit (.bool (allSM (Search.mk l [] (Sl.mk true [])) done)))) ?_
   refine rvc_nil ?_
   refine Awp.ret ?_
   subst hR
   exact ⟨.inl rfl, rfl⟩
def rFits_l2 (vc1 : (List Bool)) : List Op → Nat → Bool
  | [], _ => true
  | x2 :: x2s, i2 => (bif vc1[i2]! then (bif (decide (x2.ended > 0)) then false else rFits_l2 vc1 x2s (i2 + 1) ) else rFits_l2 vc1 x2s (i2 + 1) )
def rFits_l1 (l : (Sl Op)) : List Int → Nat → ByteArray → (List Bool) → Bool
  | [], _, _, vc1 => rFits_l2 vc1 l.D 0 
  | x1 :: x1s, i1, value, vc1 => (bif (decide (x1 < 0)) then false else (bif (decide (x1 ≥ (l.D.length : Int))) then false else (bif (!(vc1[x1.toNat]!)) then false else (bif (!(nextW l (Sl.mk false vc1) x1)) then false else (bif l.D[x1.toNat]!.write then rFits_l1 l x1s (i1 + 1) (l.D[x1.toNat]!.value) (vc1.set x1.toNat false) else (bif (!((l.D[x1.toNat]!.value).toList == value.toList)) then false else rFits_l1 l x1s (i1 + 1) value (vc1.set x1.toNat false)))))))
def rFits_l0 (row : (Sl Int)) (l : (Sl Op)) : List Op → Nat → (List Bool) → Bool
  | [], _, vc => rFits_l1 l row.D 0 ⟨#[]⟩ vc
  | _ :: xs, i, vc => rFits_l0 row l xs (i + 1) (vc.set i true)
def rFits (row : (Sl Int)) (l : (Sl Op)) : Bool :=
  (bif ((refRight l) != 0) then false else rFits_l0 row l l.D 0 (List.replicate l.D.length false))
theorem rFits_calls (row : (Sl Int)) (l : (Sl Op)) (hl1 : l.D.length ≤ 9223372036854775807) (hl2 : row.D.length ≤ 9223372036854775807) : PCalls Try.prog 32 [sS (some row.nil) (eI .i64) row.D, sS (some l.nil) eOp l.D] (.pv (.lit (.bool (rFits row l)))) := by
 generalize hR : rFits row l = R
 refine PCalls.of_body tabOk Try.func32 rfl rfl rfl rfl rfl mixed fun E hP C hI => ?_
 refine Awp.consP C ?_
 refine rvP C (.pv (.lit (.bool false))) ?_
 refine rvc_nil ?_
 refine Awp.seq ?_
 refine Awp.consP C ?_
 refine rvP C (sS (some l.nil) eOp l.D) ?_
 refine rvc_un (rexec_call hP C rfl rfl rfl (refRight_calls l hl1) ?_)
 refine rvP C (.pv (.lit (.bool ((refRight l) != 0)))) ?_
 refine rvc_nil ?_
 refine Awp.cond (b := ((refRight l) != 0)) rfl (fun h1 => ?_) (fun h1 => ?_)
 ·
  replace hR := of_true h1 hR
  refine Awp.consP C ?_
  refine rvP C (.pv (.lit (.bool false))) ?_
  refine rvc_nil ?_
  refine Awp.ret ?_
  subst hR
  exact ⟨.inl rfl, rfl⟩
 ·
  replace hR := of_false h1 hR
  refine Awp.skip ?_
  refine Awp.consP C ?_
  refine rvP C (sS (some l.nil) eOp l.D) ?_
  refine rvP C (.pv (.lit (.int .i64 (l.D.length : Int)))) ?_
  refine rvc_un (rexec_makeSlice C eB false l.D.length rfl rfl rfl rfl rfl rfl ⟨by omega, by have := ref_len (by assumption); omega, by have := ref_len (by assumption); show (1 : Int) * (l.D.length : Int) ≤ 140737488355328; omega⟩ rfl rfl rfl rfl ?_)
  refine rvP C (.sl 17 0 l.D.length 1 true) ?_
  refine rvc_nil ?_
  refine Awp.seq ?_
  refine Awp.consP C ?_
  refine rvP C (sS (some l.nil) eOp l.D) ?_
  refine rvP C (.pv (.lit (.int .i64 (l.D.length : Int)))) ?_
  refine rvP C (.pv (.lit (.int .i64 0))) ?_
  refine rvc_nil ?_
  refine Awp.block ?_
  refine Awp.forR (σ := ((List Bool))) (l.D.length) (fun i v => [(0, sS (some row.nil) (eI .i64) row.D), (1, sS (some l.nil) eOp l.D), (5, .sl 17 0 l.D.length 1 true), (19, .pv (.lit (.int .i64 (l.D.length : Int)))), (20, .pv (.lit (.int .i64 (i : Int))))]) (fun i v => [(17, .cells (encC eB v))]) [17] (fun i v => (rFits_l0 row l (l.D.drop i) i v = R) ∧ (v.length = l.D.length)) (List.replicate l.D.length false) ?_ ?_ (fun i vc h2 hR => ?_)
  · exact ⟨hR, (by first | omega | (simp <;> omega))⟩
  · exact ⟨fun b => b, WeakerR.ofL (Ks := [17]) hI ⟨⟨rfl, rfl⟩, ⟨rfl, rfl⟩, ⟨rfl, rfl⟩, ⟨rfl, rfl⟩, ⟨rfl, rfl⟩, trivial⟩ (okH_list rfl rfl rfl (okH_nil)) rfl⟩
  obtain ⟨hR, hi_vc⟩ := hR
  replace hi_vc : vc.length = l.D.length := hi_vc
  refine Awp.consP C ?_
  refine rvP C (.pv (.lit (.bool (decide ((i : Int) < (l.D.length : Int)))))) ?_
  refine rvc_nil ?_
  refine Awp.seq ?_
  refine Awp.cond (b := (decide ((i : Int) < (l.D.length : Int)))) rfl (fun h3 => ?_) (fun h3 => ?_)
  ·
   have h4 : i < l.D.length := by have := of_decide_eq_true h3; omega
   obtain ⟨x, h5⟩ := getX h4
   rw [drop_at h5] at hR
   refine Awp.skip ?_
   refine Awp.seq ?_
   refine Awp.block ?_
   refine Awp.consP C ?_
   refine rvP C (.pv (.lit (.int .i64 (i : Int)))) ?_
   refine rvP C (.pv (.lit (.int .i64 (i : Int)))) ?_
   refine rvc_nil ?_
   refine Awp.regionP C ?_
   refine rvP C (.sl 17 0 l.D.length 1 true) ?_
   refine rvP C (.pv (.lit (.int .i64 (i : Int)))) ?_
   have h6 : vc[i]? = some vc[i]! := getE (by have := eq_of_bne_false h1; have := of_decide_eq_true h3; omega)
   refine rvc_un (rexec_prim C (δ := { v := .ptr 17 (0 + i * 1) }) rfl rfl rfl rfl ⟨(by have := eq_of_bne_false h1; have := of_decide_eq_true h3; omega), getlt h6 (by first | rfl | omega | (have := eq_of_bne_false h1; have := of_decide_eq_true h3; omega)) (by first | rfl | omega | simp)⟩ rfl ?_)
   refine rvc_un (rexec_storeE C (e := eB) i 0 (vc[i]!) true rfl rfl rfl rfl h6 (by simp [eB]) rfl rfl rfl (of_decide_eq_true rfl) rfl ?_)
   refine rvc_nil ?_
   refine Awp.regionP C ?_
   refine rvP C (.pv (.lit (.int .i64 (IntKind.i64.wrap ((i : Int) + 1))))) ?_
   refine rvP C (.pv (.lit (.int .i64 (IntKind.i64.wrap ((i : Int) + 1))))) ?_
   refine rvc_nil ?_
   refine ⟨h4, (vc.set i true), ?_, ?_⟩
   · exact ⟨hR, (by first | omega | (simp <;> omega))⟩
   · exact ⟨fun b => b, WeakerR.ofL (Ks := [17]) hI ⟨⟨rfl, rfl⟩, ⟨rfl, rfl⟩, ⟨rfl, rfl⟩, ⟨rfl, rfl⟩, ⟨lit_cast (wrap_i64 (by omega) (by omega)), rfl⟩, trivial⟩ (okH_list rfl rfl rfl (okH_nil)) rfl⟩
  ·
   have h4 : ¬ i < l.D.length := by have := of_decide_eq_false h3; omega
   rw [drop_end h4] at hR
   refine Awp.exit ?_
   refine Awp.consP C ?_
   refine rvP C (.pv (.lit (.string ⟨#[]⟩))) ?_
   refine rvc_nil ?_
   refine Awp.seq ?_
   refine Awp.consP C ?_
   refine rvP C (sS (some row.nil) (eI .i64) row.D) ?_
   refine rvP C (.pv (.lit (.int .i64 (row.D.length : Int)))) ?_
   refine rvP C (.pv (.lit (.int .i64 0))) ?_
   refine rvc_nil ?_
   refine Awp.block ?_
   refine Awp.forR (σ := ByteArray × ((List Bool))) (row.D.length) (fun i1 v => [(1, sS (some l.nil) eOp l.D), (5, .sl 17 0 l.D.length 1 true), (7, .pv (.lit (.string v.1))), (27, sS (some row.nil) (eI .i64) row.D), (28, .pv (.lit (.int .i64 (row.D.length : Int)))), (29, .pv (.lit (.int .i64 (i1 : Int))))]) (fun i1 v => [(17, .cells (encC eB v.2))]) [17] (fun i1 v => (rFits_l1 l (row.D.drop i1) i1 v.1 v.2 = R) ∧ (v.2.length = l.D.length)) (⟨#[]⟩, vc) ?_ ?_ (fun i1 v h7 hR => ?_)
   · exact ⟨hR, (by first | omega | (simp <;> omega))⟩
   · exact ⟨fun b => b, WeakerR.ofL (Ks := [17]) hI ⟨⟨rfl, rfl⟩, ⟨rfl, rfl⟩, ⟨rfl, rfl⟩, ⟨rfl, rfl⟩, ⟨rfl, rfl⟩, ⟨rfl, rfl⟩, trivial⟩ (okH_list rfl rfl rfl (okH_nil)) rfl⟩
   obtain ⟨value, vc1⟩ := v
   obtain ⟨hR, hi_vc1⟩ := hR
   replace hi_vc1 : vc1.length = l.D.length := hi_vc1
   refine Awp.consP C ?_
   refine rvP C (.pv (.lit (.bool (decide ((i1 : Int) < (row.D.length : Int)))))) ?_
   refine rvc_nil ?_
   refine Awp.seq ?_
   refine Awp.cond (b := (decide ((i1 : Int) < (row.D.length : Int)))) rfl (fun h8 => ?_) (fun h8 => ?_)
   ·
    have h9 : i1 < row.D.length := by have := of_decide_eq_true h8; omega
    obtain ⟨x1, h10⟩ := getX h9
    rw [drop_at h10] at hR
    refine Awp.skip ?_
    refine Awp.seq ?_
    refine Awp.block ?_
    refine Awp.consP C ?_
    refine rvc_un (rexec_idxS C rfl rfl rfl rfl rfl rfl x1 (Int.natCast_nonneg _) h10 ?_)
    refine rvP C (.pv (.lit (.int .i64 x1))) ?_
    refine rvP C (.pv (.lit (.int .i64 x1))) ?_
    refine rvc_nil ?_
    refine Awp.seq ?_
    refine Awp.cons C (fun _ => .writer) (by kernel_rfl) ?_
    refine rvP C (.pv (.lit (.int .i64 x1))) ?_
    refine rvP C (.pv (.lit (.bool (decide (x1 < 0))))) ?_
    refine rvP C (.pv (.lit (.bool (decide (x1 < 0))))) ?_
    refine rvc_case 35 (decide (x1 < 0)) rfl (fun h11 => ?_) (fun h11 => ?_)
    ·
     replace hR := of_true h11 hR
     refine rvS ?_
     refine rvS ?_
     refine rvS ?_
     refine rvS ?_
     refine rvP C (.pv (.lit (.bool true))) ?_
     refine rvP C (.pv (.lit (.bool true))) ?_
     refine rvS ?_
     refine rvS ?_
     refine rvS ?_
     refine rvS ?_
     refine rvS ?_
     refine rvP C (.pv (.lit (.bool true))) ?_
     refine rvP C (.pv (.lit (.bool true))) ?_
     refine rvS ?_
     refine rvS ?_
     refine rvS ?_
     refine rvS ?_
     refine rvS ?_
     refine rvP C (.pv (.lit (.bool true))) ?_
     refine rvc_nil ?_
     refine Awp.condT (b := true) rfl rfl ?_
     refine Awp.consP C ?_
     refine rvP C (.pv (.lit (.bool false))) ?_
     refine rvc_nil ?_
     refine Awp.ret ?_
     subst hR
     exact ⟨.inl rfl, rfl⟩
    ·
     replace hR := of_false h11 hR
     refine rvO C (.pv (.lit (.int .i64 x1))) ?_
     refine rvO C (sS (some l.nil) eOp l.D) ?_
     refine rvO C (.pv (.lit (.int .i64 (l.D.length : Int)))) ?_
     refine rvO C (.pv (.lit (.bool (decide (x1 ≥ (l.D.length : Int)))))) ?_
     refine rvP C (.pv (.lit (.bool (decide (x1 ≥ (l.D.length : Int)))))) ?_
     refine rvP C (.pv (.lit (.bool (decide (x1 ≥ (l.D.length : Int)))))) ?_
     refine rvc_case 41 (decide (x1 ≥ (l.D.length : Int))) rfl (fun h12 => ?_) (fun h12 => ?_)
     ·
      replace hR := of_true h12 hR
      refine rvS ?_
      refine rvS ?_
      refine rvS ?_
      refine rvS ?_
      refine rvS ?_
      refine rvP C (.pv (.lit (.bool true))) ?_
      refine rvP C (.pv (.lit (.bool true))) ?_
      refine rvS ?_
      refine rvS ?_
      refine rvS ?_
      refine rvS ?_
      refine rvS ?_
      refine rvP C (.pv (.lit (.bool true))) ?_
      refine rvc_nil ?_
      refine Awp.condT (b := true) rfl rfl ?_
      refine Awp.consP C ?_
      refine rvP C (.pv (.lit (.bool false))) ?_
      refine rvc_nil ?_
      refine Awp.ret ?_
      subst hR
      exact ⟨.inl rfl, rfl⟩
     ·
      replace hR := of_false h12 hR
      refine rvO C (.sl 17 0 l.D.length 1 true) ?_
      refine rvO C (.pv (.lit (.int .i64 x1))) ?_
      have h13 : vc1[x1.toNat]? = some vc1[x1.toNat]! := getE (by have := eq_of_bne_false h1; have := of_decide_eq_false h3; have := of_decide_eq_true h8; have := of_decide_eq_false h11; have := of_decide_eq_false h12; omega)
      refine rvc_open rfl rfl rfl (rexec_prim C (δ := { v := .ptr 17 (0 + x1.toNat * 1) }) rfl rfl rfl rfl ⟨(by have := eq_of_bne_false h1; have := of_decide_eq_false h3; have := of_decide_eq_true h8; have := of_decide_eq_false h11; have := of_decide_eq_false h12; omega), getlt h13 (by first | rfl | omega | (have := eq_of_bne_false h1; have := of_decide_eq_false h3; have := of_decide_eq_true h8; have := of_decide_eq_false h11; have := of_decide_eq_false h12; omega)) (by first | rfl | omega | simp)⟩ rfl ?_)
      refine rvc_open rfl rfl rfl (rexec_loadE C (e := eB) x1.toNat 0 (vc1[x1.toNat]!) (.pv (.lit (.bool (vc1[x1.toNat]!)))) rfl rfl rfl rfl h13 (by simp [eB]) (by decide) (by decide) rfl ?_)
      refine rvO C (.pv (.lit (.bool (!(vc1[x1.toNat]!))))) ?_
      refine rvP C (.pv (.lit (.bool (!(vc1[x1.toNat]!))))) ?_
      refine rvP C (.pv (.lit (.bool (!(vc1[x1.toNat]!))))) ?_
      refine rvc_case 48 (!(vc1[x1.toNat]!)) rfl (fun h14 => ?_) (fun h14 => ?_)
      ·
       replace hR := of_true h14 hR
       refine rvS ?_
       refine rvS ?_
       refine rvS ?_
       refine rvS ?_
       refine rvS ?_
       refine rvP C (.pv (.lit (.bool true))) ?_
       refine rvc_nil ?_
       refine Awp.condT (b := true) rfl rfl ?_
       refine Awp.consP C ?_
       refine rvP C (.pv (.lit (.bool false))) ?_
       refine rvc_nil ?_
       refine Awp.ret ?_
       subst hR
       exact ⟨.inl rfl, rfl⟩
      ·
       replace hR := of_false h14 hR
       refine rvO C (sS (some l.nil) eOp l.D) ?_
       refine rvO C (.sl 17 0 l.D.length 1 true) ?_
       refine rvO C (.pv (.lit (.int .i64 x1))) ?_
       refine rvc_open rfl rfl rfl (rexec_callM hP C (b := 17) rfl rfl rfl (nextW_calls l (Sl.mk false vc1) x1 l.D.length true (by first | rfl | omega | (simp <;> omega)) (by have := eq_of_bne_false h1; have := of_decide_eq_false h3; have := of_decide_eq_true h8; have := of_decide_eq_false h11; have := of_decide_eq_false h12; omega) (by have := eq_of_bne_false h1; have := of_decide_eq_false h3; have := of_decide_eq_true h8; have := of_decide_eq_false h11; have := of_decide_eq_false h12; omega) hl1) rfl rfl ?_)
       refine rvO C (.pv (.lit (.bool (!(nextW l (Sl.mk false vc1) x1))))) ?_
       refine rvP C (.pv (.lit (.bool (!(nextW l (Sl.mk false vc1) x1))))) ?_
       refine rvc_nil ?_
       refine Awp.cond (b := (!(nextW l (Sl.mk false vc1) x1))) rfl (fun h15 => ?_) (fun h15 => ?_)
       ·
        replace hR := of_true h15 hR
        refine Awp.consP C ?_
        refine rvP C (.pv (.lit (.bool false))) ?_
        refine rvc_nil ?_
        refine Awp.ret ?_
        subst hR
        exact ⟨.inl rfl, rfl⟩
       ·
        replace hR := of_false h15 hR
        refine Awp.skip ?_
        refine Awp.seq ?_
        refine Awp.consP C ?_
        refine rvP C (sS (some l.nil) eOp l.D) ?_
        refine rvP C (.pv (.lit (.int .i64 x1))) ?_
        have h16 : l.D[x1.toNat]? = some l.D[x1.toNat]! := getE (by have := eq_of_bne_false h1; have := of_decide_eq_false h3; have := of_decide_eq_true h8; have := of_decide_eq_false h11; have := of_decide_eq_false h12; omega)
        refine rvc_un (rexec_idxS C rfl rfl rfl rfl rfl rfl (l.D[x1.toNat]!) (by have := eq_of_bne_false h1; have := of_decide_eq_false h3; have := of_decide_eq_true h8; have := of_decide_eq_false h11; have := of_decide_eq_false h12; omega) h16 ?_)
        refine rvP C (.rp [.lit (.bool (l.D[x1.toNat]!.write))]) ?_
        refine rvP C (.pv (.lit (.bool (l.D[x1.toNat]!.write)))) ?_
        refine rvc_nil ?_
        refine Awp.cond (b := l.D[x1.toNat]!.write) rfl (fun h17 => ?_) (fun h17 => ?_)
        ·
         replace hR := of_true h17 hR
         refine Awp.regionP C ?_
         refine rvP C (sS (some l.nil) eOp l.D) ?_
         refine rvP C (.pv (.lit (.int .i64 x1))) ?_
         refine rvc_un (rexec_idxS C rfl rfl rfl rfl rfl rfl (l.D[x1.toNat]!) (by have := eq_of_bne_false h1; have := of_decide_eq_false h3; have := of_decide_eq_true h8; have := of_decide_eq_false h11; have := of_decide_eq_false h12; omega) h16 ?_)
         refine rvP C (.rp [.lit (.string (l.D[x1.toNat]!.value))]) ?_
         refine rvP C (.pv (.lit (.string (l.D[x1.toNat]!.value)))) ?_
         refine rvP C (.pv (.lit (.string (l.D[x1.toNat]!.value)))) ?_
         refine rvc_nil ?_
         refine Awp.regionP C ?_
         refine rvP C (.sl 17 0 l.D.length 1 true) ?_
         refine rvP C (.pv (.lit (.int .i64 x1))) ?_
         refine rvc_un (rexec_prim C (δ := { v := .ptr 17 (0 + x1.toNat * 1) }) rfl rfl rfl rfl ⟨(by have := eq_of_bne_false h1; have := of_decide_eq_false h3; have := of_decide_eq_true h8; have := of_decide_eq_false h11; have := of_decide_eq_false h12; omega), getlt h13 (by first | rfl | omega | (have := eq_of_bne_false h1; have := of_decide_eq_false h3; have := of_decide_eq_true h8; have := of_decide_eq_false h11; have := of_decide_eq_false h12; omega)) (by first | rfl | omega | simp)⟩ rfl ?_)
         refine rvc_un (rexec_storeE C (e := eB) x1.toNat 0 (vc1[x1.toNat]!) false rfl rfl rfl rfl h13 (by simp [eB]) rfl rfl rfl (of_decide_eq_true rfl) rfl ?_)
         refine rvc_nil ?_
         refine Awp.regionP C ?_
         refine rvP C (.pv (.lit (.int .i64 (IntKind.i64.wrap ((i1 : Int) + 1))))) ?_
         refine rvP C (.pv (.lit (.int .i64 (IntKind.i64.wrap ((i1 : Int) + 1))))) ?_
         refine rvc_nil ?_
         refine ⟨h9, (l.D[x1.toNat]!.value, (vc1.set x1.toNat false)), ?_, ?_⟩
         · exact ⟨hR, (by first | omega | (simp <;> omega))⟩
         · exact ⟨fun b => b, WeakerR.ofL (Ks := [17]) hI ⟨⟨rfl, rfl⟩, ⟨rfl, rfl⟩, ⟨rfl, rfl⟩, ⟨rfl, rfl⟩, ⟨rfl, rfl⟩, ⟨lit_cast (wrap_i64 (by omega) (by omega)), rfl⟩, trivial⟩ (okH_list rfl rfl rfl (okH_nil)) rfl⟩
        ·
         replace hR := of_false h17 hR
         refine Awp.consP C ?_
         refine rvP C (sS (some l.nil) eOp l.D) ?_
         refine rvP C (.pv (.lit (.int .i64 x1))) ?_
         refine rvc_un (rexec_idxS C rfl rfl rfl rfl rfl rfl (l.D[x1.toNat]!) (by have := eq_of_bne_false h1; have := of_decide_eq_false h3; have := of_decide_eq_true h8; have := of_decide_eq_false h11; have := of_decide_eq_false h12; omega) h16 ?_)
         refine rvP C (.rp [.lit (.string (l.D[x1.toNat]!.value))]) ?_
         refine rvP C (.pv (.lit (.string (l.D[x1.toNat]!.value)))) ?_
         refine rvP C (.pv (.lit (.string value))) ?_
         refine rvP C (.pv (.lit (.bool (!((l.D[x1.toNat]!.value).toList == value.toList))))) ?_
         refine rvc_nil ?_
         refine Awp.cond (b := (!((l.D[x1.toNat]!.value).toList == value.toList))) rfl (fun h18 => ?_) (fun h18 => ?_)
         ·
          replace hR := of_true h18 hR
          refine Awp.consP C ?_
          refine rvP C (.pv (.lit (.bool false))) ?_
          refine rvc_nil ?_
          refine Awp.ret ?_
          subst hR
          exact ⟨.inl rfl, rfl⟩
         ·
          replace hR := of_false h18 hR
          refine Awp.skip ?_
          refine Awp.regionP C ?_
          refine rvP C (.sl 17 0 l.D.length 1 true) ?_
          refine rvP C (.pv (.lit (.int .i64 x1))) ?_
          refine rvc_un (rexec_prim C (δ := { v := .ptr 17 (0 + x1.toNat * 1) }) rfl rfl rfl rfl ⟨(by have := eq_of_bne_false h1; have := of_decide_eq_false h3; have := of_decide_eq_true h8; have := of_decide_eq_false h11; have := of_decide_eq_false h12; omega), getlt h13 (by first | rfl | omega | (have := eq_of_bne_false h1; have := of_decide_eq_false h3; have := of_decide_eq_true h8; have := of_decide_eq_false h11; have := of_decide_eq_false h12; omega)) (by first | rfl | omega | simp)⟩ rfl ?_)
          refine rvc_un (rexec_storeE C (e := eB) x1.toNat 0 (vc1[x1.toNat]!) false rfl rfl rfl rfl h13 (by simp [eB]) rfl rfl rfl (of_decide_eq_true rfl) rfl ?_)
          refine rvc_nil ?_
          refine Awp.regionP C ?_
          refine rvP C (.pv (.lit (.int .i64 (IntKind.i64.wrap ((i1 : Int) + 1))))) ?_
          refine rvP C (.pv (.lit (.int .i64 (IntKind.i64.wrap ((i1 : Int) + 1))))) ?_
          refine rvc_nil ?_
          refine ⟨h9, (value, (vc1.set x1.toNat false)), ?_, ?_⟩
          · exact ⟨hR, (by first | omega | (simp <;> omega))⟩
          · exact ⟨fun b => b, WeakerR.ofL (Ks := [17]) hI ⟨⟨rfl, rfl⟩, ⟨rfl, rfl⟩, ⟨rfl, rfl⟩, ⟨rfl, rfl⟩, ⟨rfl, rfl⟩, ⟨lit_cast (wrap_i64 (by omega) (by omega)), rfl⟩, trivial⟩ (okH_list rfl rfl rfl (okH_nil)) rfl⟩
   ·
    have h9 : ¬ i1 < row.D.length := by have := of_decide_eq_false h8; omega
    rw [drop_end h9] at hR
    refine Awp.exit ?_
    refine Awp.seq ?_
    refine Awp.consP C ?_
    refine rvP C (sS (some l.nil) eOp l.D) ?_
    refine rvP C (.pv (.lit (.int .i64 (l.D.length : Int)))) ?_
    refine rvP C (.pv (.lit (.int .i64 0))) ?_
    refine rvc_nil ?_
    refine Awp.block ?_
    refine Awp.forR (σ := Unit) (l.D.length) (fun i2 _v => [(5, .sl 17 0 l.D.length 1 true), (76, sS (some l.nil) eOp l.D), (77, .pv (.lit (.int .i64 (l.D.length : Int)))), (78, .pv (.lit (.int .i64 (i2 : Int))))]) (fun i2 _v => [(17, .cells (encC eB vc1))]) [17] (fun i2 _v => rFits_l2 vc1 (l.D.drop i2) i2  = R) () ?_ ?_ (fun i2 _v h19 hR => ?_)
    · exact hR
    · exact ⟨fun b => b, WeakerR.ofL (Ks := [17]) hI ⟨⟨rfl, rfl⟩, ⟨rfl, rfl⟩, ⟨rfl, rfl⟩, ⟨rfl, rfl⟩, trivial⟩ (okH_list rfl rfl rfl (okH_nil)) rfl⟩
    refine Awp.consP C ?_
    refine rvP C (.pv (.lit (.bool (decide ((i2 : Int) < (l.D.length : Int)))))) ?_
    refine rvc_nil ?_
    refine Awp.seq ?_
    refine Awp.cond (b := (decide ((i2 : Int) < (l.D.length : Int)))) rfl (fun h20 => ?_) (fun h20 => ?_)
    ·
     have h21 : i2 < l.D.length := by have := of_decide_eq_true h20; omega
     obtain ⟨x2, h22⟩ := getX h21
     rw [drop_at h22] at hR
     refine Awp.skip ?_
     refine Awp.seq ?_
     refine Awp.block ?_
     refine Awp.consP C ?_
     refine rvP C (.pv (.lit (.int .i64 (i2 : Int)))) ?_
     refine rvc_un (rexec_idxS C rfl rfl rfl rfl rfl rfl x2 (Int.natCast_nonneg _) h22 ?_)
     refine rvP C (.agg [.pv (.lit (.bool x2.write)), .pv (.lit (.string x2.value)), .pv (.lit (.int .i64 x2.ver)), .pv (.lit (.int .i64 x2.began)), .pv (.lit (.int .i64 x2.ended))]) ?_
     refine rvc_un (rexec_prim C (δ := { v := .ptr 11 0, new := [(11, .cells [.pv (.lit (.bool false)), .pv (.lit (.string ⟨#[]⟩)), .pv (.lit (.int .i64 0)), .pv (.lit (.int .i64 0)), .pv (.lit (.int .i64 0))])] }) rfl rfl rfl rfl trivial rfl ?_)
     refine rvP C (.pv (.lit (.int .i64 (i2 : Int)))) ?_
     refine rvc_un (rexec_prim C (δ := { v := .undef, wr := [(11, some (.cells [.pv (.lit (.bool x2.write)), .pv (.lit (.string x2.value)), .pv (.lit (.int .i64 x2.ver)), .pv (.lit (.int .i64 x2.began)), .pv (.lit (.int .i64 x2.ended))]))] }) rfl rfl rfl rfl trivial rfl ?_)
     refine rvc_nil ?_
     refine Awp.consP C ?_
     refine rvP C (.sl 17 0 l.D.length 1 true) ?_
     refine rvP C (.pv (.lit (.int .i64 (i2 : Int)))) ?_
     have h23 : vc1[i2]? = some vc1[i2]! := getE (by have := eq_of_bne_false h1; have := of_decide_eq_false h3; have := of_decide_eq_false h8; have := of_decide_eq_true h20; omega)
     refine rvc_un (rexec_prim C (δ := { v := .ptr 17 (0 + i2 * 1) }) rfl rfl rfl rfl ⟨(by have := eq_of_bne_false h1; have := of_decide_eq_false h3; have := of_decide_eq_false h8; have := of_decide_eq_true h20; omega), getlt h23 (by first | rfl | omega | (have := eq_of_bne_false h1; have := of_decide_eq_false h3; have := of_decide_eq_false h8; have := of_decide_eq_true h20; omega)) (by first | rfl | omega | simp)⟩ rfl ?_)
     refine rvc_un (rexec_loadE C (e := eB) i2 0 (vc1[i2]!) (.pv (.lit (.bool (vc1[i2]!)))) rfl rfl rfl rfl h23 (by simp [eB]) (by decide) (by decide) rfl ?_)
     refine rvP C (.pv (.lit (.bool (vc1[i2]!)))) ?_
     refine rvc_case 87 (vc1[i2]!) rfl (fun h24 => ?_) (fun h24 => ?_)
     ·
      replace hR := of_true h24 hR
      refine rvO C (.ptr 11 4) ?_
      refine rvO C (.pv (.lit (.int .i64 x2.ended))) ?_
      refine rvO C (.pv (.lit (.bool (decide (x2.ended > 0))))) ?_
      refine rvP C (.pv (.lit (.bool (decide (x2.ended > 0))))) ?_
      refine rvc_nil ?_
      refine Awp.cond (b := (decide (x2.ended > 0))) rfl (fun h25 => ?_) (fun h25 => ?_)
      ·
       replace hR := of_true h25 hR
       refine Awp.consP C ?_
       refine rvP C (.pv (.lit (.bool false))) ?_
       refine rvc_nil ?_
       refine Awp.ret ?_
       subst hR
       exact ⟨.inl rfl, rfl⟩
      ·
       replace hR := of_false h25 hR
       refine Awp.skip ?_
       refine Awp.regionP C ?_
       refine rvP C (.pv (.lit (.int .i64 (IntKind.i64.wrap ((i2 : Int) + 1))))) ?_
       refine rvP C (.pv (.lit (.int .i64 (IntKind.i64.wrap ((i2 : Int) + 1))))) ?_
       refine rvc_nil ?_
       refine ⟨h21, (), ?_, ?_⟩
       · exact hR
       · exact ⟨fun b => b, WeakerR.ofL (Ks := [17]) hI ⟨⟨rfl, rfl⟩, ⟨rfl, rfl⟩, ⟨rfl, rfl⟩, ⟨lit_cast (wrap_i64 (by omega) (by omega)), rfl⟩, trivial⟩ (okH_list rfl rfl rfl (okH_nil)) rfl⟩
     ·
      replace hR := of_false h24 hR
      refine rvS ?_
      refine rvS ?_
      refine rvS ?_
      refine rvP C (.pv (.lit (.bool false))) ?_
      refine rvc_nil ?_
      refine Awp.condF (b := false) rfl rfl ?_
      refine Awp.skip ?_
      refine Awp.regionP C ?_
      refine rvP C (.pv (.lit (.int .i64 (IntKind.i64.wrap ((i2 : Int) + 1))))) ?_
      refine rvP C (.pv (.lit (.int .i64 (IntKind.i64.wrap ((i2 : Int) + 1))))) ?_
      refine rvc_nil ?_
      refine ⟨h21, (), ?_, ?_⟩
      · exact hR
      · exact ⟨fun b => b, WeakerR.ofL (Ks := [17]) hI ⟨⟨rfl, rfl⟩, ⟨rfl, rfl⟩, ⟨rfl, rfl⟩, ⟨lit_cast (wrap_i64 (by omega) (by omega)), rfl⟩, trivial⟩ (okH_list rfl rfl rfl (okH_nil)) rfl⟩
    ·
     have h21 : ¬ i2 < l.D.length := by have := of_decide_eq_false h20; omega
     rw [drop_end h21] at hR
     refine Awp.exit ?_
     refine Awp.consP C ?_
     refine rvP C (.pv (.lit (.bool true))) ?_
     refine rvc_nil ?_
     refine Awp.ret ?_
     subst hR
     exact ⟨.inl rfl, rfl⟩
def awakeL  : Bool :=
  (bif (order (Sl.mk false [(Op.mk true ⟨#[97]⟩ 1 1 2), (Op.mk false ⟨#[97]⟩ 1 3 4)])).2.1 then (bif (((order (Sl.mk false [(Op.mk true ⟨#[97]⟩ 1 1 2), (Op.mk false ⟨#[97]⟩ 1 3 4)])).2.2) == 0) then (bif (eqInts ((order (Sl.mk false [(Op.mk true ⟨#[97]⟩ 1 1 2), (Op.mk false ⟨#[97]⟩ 1 3 4)])).1) (Sl.mk false [0, 1])) then (bif (!((order (Sl.mk false [(Op.mk true ⟨#[97]⟩ 1 1 2), (Op.mk false ⟨#[]⟩ 0 3 4)])).2.1)) then (bif (((order (Sl.mk false [(Op.mk true ⟨#[97]⟩ 1 1 2), (Op.mk false ⟨#[]⟩ 0 3 4)])).2.2) == 0) then (bif (!((order (Sl.mk false [(Op.mk true ⟨#[97]⟩ 1 1 0), (Op.mk false ⟨#[97]⟩ 0 3 4), (Op.mk false ⟨#[]⟩ 0 5 6)])).2.1)) then (bif (((order (Sl.mk false [(Op.mk true ⟨#[97]⟩ 1 1 0), (Op.mk false ⟨#[97]⟩ 0 3 4), (Op.mk false ⟨#[]⟩ 0 5 6)])).2.2) == 0) then ((rightL (Sl.mk false [(Op.mk false ⟨#[]⟩ 0 0 0)])) == 70) else false) else false) else false) else false) else false) else false) else false)
theorem awakeL_calls   : PCalls Try.prog 27 [] (.pv (.lit (.bool (awakeL )))) := by
 generalize hR : awakeL  = R
 refine PCalls.of_body tabOk Try.func27 rfl rfl rfl rfl rfl mixed fun E hP C hI => ?_
 refine Awp.consP C ?_
 refine rvP C (.pv (.lit (.bool false))) ?_
 refine rvc_nil ?_
 refine Awp.consP C ?_
 refine rvP C (.agg [.pv (.lit (.bool true)), .pv (.lit (.string ⟨#[97]⟩)), .pv (.lit (.int .i64 1)), .pv (.lit (.int .i64 1)), .pv (.lit (.int .i64 2))]) ?_
 refine rvc_un (rexec_prim C (δ := { v := .ptr 1 0, new := [(1, .cells [.pv (.lit (.bool false)), .pv (.lit (.string ⟨#[]⟩)), .pv (.lit (.int .i64 0)), .pv (.lit (.int .i64 0)), .pv (.lit (.int .i64 0))])] }) rfl rfl rfl rfl trivial rfl ?_)
 refine rvc_un (rexec_prim C (δ := { v := .undef, wr := [(1, some (.cells [.pv (.lit (.bool true)), .pv (.lit (.string ⟨#[97]⟩)), .pv (.lit (.int .i64 1)), .pv (.lit (.int .i64 1)), .pv (.lit (.int .i64 2))]))] }) rfl rfl rfl rfl trivial rfl ?_)
 refine rvc_nil ?_
 refine Awp.consP C ?_
 refine rvP C (.agg [.pv (.lit (.bool true)), .pv (.lit (.string ⟨#[97]⟩)), .pv (.lit (.int .i64 1)), .pv (.lit (.int .i64 1)), .pv (.lit (.int .i64 2))]) ?_
 refine rvP C (.agg [.pv (.lit (.bool false)), .pv (.lit (.string ⟨#[97]⟩)), .pv (.lit (.int .i64 1)), .pv (.lit (.int .i64 3)), .pv (.lit (.int .i64 4))]) ?_
 refine rvc_un (rexec_buildSliceF C eOp [(Op.mk true ⟨#[97]⟩ 1 1 2), (Op.mk false ⟨#[97]⟩ 1 3 4)] rfl rfl rfl rfl rfl rfl rfl (by decide) rfl ?_)
 refine rvc_un (rexec_call hP C rfl rfl rfl (order_calls (Sl.mk false [(Op.mk true ⟨#[97]⟩ 1 1 2), (Op.mk false ⟨#[97]⟩ 1 3 4)]) (of_decide_eq_true (by kernel_rfl))) ?_)
 refine rvP C (.tup [sS (some (order (Sl.mk false [(Op.mk true ⟨#[97]⟩ 1 1 2), (Op.mk false ⟨#[97]⟩ 1 3 4)])).1.nil) (eI .i64) ((order (Sl.mk false [(Op.mk true ⟨#[97]⟩ 1 1 2), (Op.mk false ⟨#[97]⟩ 1 3 4)])).1.D), .pv (.lit (.bool ((order (Sl.mk false [(Op.mk true ⟨#[97]⟩ 1 1 2), (Op.mk false ⟨#[97]⟩ 1 3 4)])).2.1))), .pv (.lit (.int .i64 ((order (Sl.mk false [(Op.mk true ⟨#[97]⟩ 1 1 2), (Op.mk false ⟨#[97]⟩ 1 3 4)])).2.2)))]) ?_
 refine rvP C (sS (some (order (Sl.mk false [(Op.mk true ⟨#[97]⟩ 1 1 2), (Op.mk false ⟨#[97]⟩ 1 3 4)])).1.nil) (eI .i64) ((order (Sl.mk false [(Op.mk true ⟨#[97]⟩ 1 1 2), (Op.mk false ⟨#[97]⟩ 1 3 4)])).1.D)) ?_
 refine rvP C (.pv (.lit (.bool ((order (Sl.mk false [(Op.mk true ⟨#[97]⟩ 1 1 2), (Op.mk false ⟨#[97]⟩ 1 3 4)])).2.1)))) ?_
 refine rvP C (.pv (.lit (.int .i64 ((order (Sl.mk false [(Op.mk true ⟨#[97]⟩ 1 1 2), (Op.mk false ⟨#[97]⟩ 1 3 4)])).2.2)))) ?_
 refine rvP C (sS (some (order (Sl.mk false [(Op.mk true ⟨#[97]⟩ 1 1 2), (Op.mk false ⟨#[97]⟩ 1 3 4)])).1.nil) (eI .i64) ((order (Sl.mk false [(Op.mk true ⟨#[97]⟩ 1 1 2), (Op.mk false ⟨#[97]⟩ 1 3 4)])).1.D)) ?_
 refine rvP C (.pv (.lit (.bool ((order (Sl.mk false [(Op.mk true ⟨#[97]⟩ 1 1 2), (Op.mk false ⟨#[97]⟩ 1 3 4)])).2.1)))) ?_
 refine rvP C (.pv (.lit (.int .i64 ((order (Sl.mk false [(Op.mk true ⟨#[97]⟩ 1 1 2), (Op.mk false ⟨#[97]⟩ 1 3 4)])).2.2)))) ?_
 refine rvc_nil ?_
 refine Awp.consP C ?_
 refine rvP C (.agg [.pv (.lit (.bool true)), .pv (.lit (.string ⟨#[97]⟩)), .pv (.lit (.int .i64 1)), .pv (.lit (.int .i64 1)), .pv (.lit (.int .i64 2))]) ?_
 refine rvP C (.agg [.pv (.lit (.bool false)), .pv (.lit (.string ⟨#[]⟩)), .pv (.lit (.int .i64 0)), .pv (.lit (.int .i64 3)), .pv (.lit (.int .i64 4))]) ?_
 refine rvc_un (rexec_buildSliceF C eOp [(Op.mk true ⟨#[97]⟩ 1 1 2), (Op.mk false ⟨#[]⟩ 0 3 4)] rfl rfl rfl rfl rfl rfl rfl (by decide) rfl ?_)
 refine rvc_un (rexec_call hP C rfl rfl rfl (order_calls (Sl.mk false [(Op.mk true ⟨#[97]⟩ 1 1 2), (Op.mk false ⟨#[]⟩ 0 3 4)]) (of_decide_eq_true (by kernel_rfl))) ?_)
 refine rvP C (.tup [sS (some (order (Sl.mk false [(Op.mk true ⟨#[97]⟩ 1 1 2), (Op.mk false ⟨#[]⟩ 0 3 4)])).1.nil) (eI .i64) ((order (Sl.mk false [(Op.mk true ⟨#[97]⟩ 1 1 2), (Op.mk false ⟨#[]⟩ 0 3 4)])).1.D), .pv (.lit (.bool ((order (Sl.mk false [(Op.mk true ⟨#[97]⟩ 1 1 2), (Op.mk false ⟨#[]⟩ 0 3 4)])).2.1))), .pv (.lit (.int .i64 ((order (Sl.mk false [(Op.mk true ⟨#[97]⟩ 1 1 2), (Op.mk false ⟨#[]⟩ 0 3 4)])).2.2)))]) ?_
 refine rvP C (sS (some (order (Sl.mk false [(Op.mk true ⟨#[97]⟩ 1 1 2), (Op.mk false ⟨#[]⟩ 0 3 4)])).1.nil) (eI .i64) ((order (Sl.mk false [(Op.mk true ⟨#[97]⟩ 1 1 2), (Op.mk false ⟨#[]⟩ 0 3 4)])).1.D)) ?_
 refine rvP C (.pv (.lit (.bool ((order (Sl.mk false [(Op.mk true ⟨#[97]⟩ 1 1 2), (Op.mk false ⟨#[]⟩ 0 3 4)])).2.1)))) ?_
 refine rvP C (.pv (.lit (.int .i64 ((order (Sl.mk false [(Op.mk true ⟨#[97]⟩ 1 1 2), (Op.mk false ⟨#[]⟩ 0 3 4)])).2.2)))) ?_
 refine rvP C (sS (some (order (Sl.mk false [(Op.mk true ⟨#[97]⟩ 1 1 2), (Op.mk false ⟨#[]⟩ 0 3 4)])).1.nil) (eI .i64) ((order (Sl.mk false [(Op.mk true ⟨#[97]⟩ 1 1 2), (Op.mk false ⟨#[]⟩ 0 3 4)])).1.D)) ?_
 refine rvP C (.pv (.lit (.bool ((order (Sl.mk false [(Op.mk true ⟨#[97]⟩ 1 1 2), (Op.mk false ⟨#[]⟩ 0 3 4)])).2.1)))) ?_
 refine rvP C (.pv (.lit (.int .i64 ((order (Sl.mk false [(Op.mk true ⟨#[97]⟩ 1 1 2), (Op.mk false ⟨#[]⟩ 0 3 4)])).2.2)))) ?_
 refine rvc_nil ?_
 refine Awp.consP C ?_
 refine rvP C (.ptr 1 4) ?_
 refine rvc_un (rexec_prim C (δ := { v := .undef, wr := [(1, some (.cells [.pv (.lit (.bool true)), .pv (.lit (.string ⟨#[97]⟩)), .pv (.lit (.int .i64 1)), .pv (.lit (.int .i64 1)), .pv (.lit (.int .i64 0))]))] }) rfl rfl rfl rfl trivial rfl ?_)
 refine rvc_nil ?_
 refine Awp.consP C ?_
 refine rvP C (.agg [.pv (.lit (.bool true)), .pv (.lit (.string ⟨#[97]⟩)), .pv (.lit (.int .i64 1)), .pv (.lit (.int .i64 1)), .pv (.lit (.int .i64 0))]) ?_
 refine rvP C (.agg [.pv (.lit (.bool false)), .pv (.lit (.string ⟨#[97]⟩)), .pv (.lit (.int .i64 0)), .pv (.lit (.int .i64 3)), .pv (.lit (.int .i64 4))]) ?_
 refine rvP C (.agg [.pv (.lit (.bool false)), .pv (.lit (.string ⟨#[]⟩)), .pv (.lit (.int .i64 0)), .pv (.lit (.int .i64 5)), .pv (.lit (.int .i64 6))]) ?_
 refine rvc_un (rexec_buildSliceF C eOp [(Op.mk true ⟨#[97]⟩ 1 1 0), (Op.mk false ⟨#[97]⟩ 0 3 4), (Op.mk false ⟨#[]⟩ 0 5 6)] rfl rfl rfl rfl rfl rfl rfl (by decide) rfl ?_)
 refine rvc_un (rexec_call hP C rfl rfl rfl (order_calls (Sl.mk false [(Op.mk true ⟨#[97]⟩ 1 1 0), (Op.mk false ⟨#[97]⟩ 0 3 4), (Op.mk false ⟨#[]⟩ 0 5 6)]) (of_decide_eq_true (by kernel_rfl))) ?_)
 refine rvP C (.tup [sS (some (order (Sl.mk false [(Op.mk true ⟨#[97]⟩ 1 1 0), (Op.mk false ⟨#[97]⟩ 0 3 4), (Op.mk false ⟨#[]⟩ 0 5 6)])).1.nil) (eI .i64) ((order (Sl.mk false [(Op.mk true ⟨#[97]⟩ 1 1 0), (Op.mk false ⟨#[97]⟩ 0 3 4), (Op.mk false ⟨#[]⟩ 0 5 6)])).1.D), .pv (.lit (.bool ((order (Sl.mk false [(Op.mk true ⟨#[97]⟩ 1 1 0), (Op.mk false ⟨#[97]⟩ 0 3 4), (Op.mk false ⟨#[]⟩ 0 5 6)])).2.1))), .pv (.lit (.int .i64 ((order (Sl.mk false [(Op.mk true ⟨#[97]⟩ 1 1 0), (Op.mk false ⟨#[97]⟩ 0 3 4), (Op.mk false ⟨#[]⟩ 0 5 6)])).2.2)))]) ?_
 refine rvP C (sS (some (order (Sl.mk false [(Op.mk true ⟨#[97]⟩ 1 1 0), (Op.mk false ⟨#[97]⟩ 0 3 4), (Op.mk false ⟨#[]⟩ 0 5 6)])).1.nil) (eI .i64) ((order (Sl.mk false [(Op.mk true ⟨#[97]⟩ 1 1 0), (Op.mk false ⟨#[97]⟩ 0 3 4), (Op.mk false ⟨#[]⟩ 0 5 6)])).1.D)) ?_
 refine rvP C (.pv (.lit (.bool ((order (Sl.mk false [(Op.mk true ⟨#[97]⟩ 1 1 0), (Op.mk false ⟨#[97]⟩ 0 3 4), (Op.mk false ⟨#[]⟩ 0 5 6)])).2.1)))) ?_
 refine rvP C (.pv (.lit (.int .i64 ((order (Sl.mk false [(Op.mk true ⟨#[97]⟩ 1 1 0), (Op.mk false ⟨#[97]⟩ 0 3 4), (Op.mk false ⟨#[]⟩ 0 5 6)])).2.2)))) ?_
 refine rvP C (sS (some (order (Sl.mk false [(Op.mk true ⟨#[97]⟩ 1 1 0), (Op.mk false ⟨#[97]⟩ 0 3 4), (Op.mk false ⟨#[]⟩ 0 5 6)])).1.nil) (eI .i64) ((order (Sl.mk false [(Op.mk true ⟨#[97]⟩ 1 1 0), (Op.mk false ⟨#[97]⟩ 0 3 4), (Op.mk false ⟨#[]⟩ 0 5 6)])).1.D)) ?_
 refine rvP C (.pv (.lit (.bool ((order (Sl.mk false [(Op.mk true ⟨#[97]⟩ 1 1 0), (Op.mk false ⟨#[97]⟩ 0 3 4), (Op.mk false ⟨#[]⟩ 0 5 6)])).2.1)))) ?_
 refine rvP C (.pv (.lit (.int .i64 ((order (Sl.mk false [(Op.mk true ⟨#[97]⟩ 1 1 0), (Op.mk false ⟨#[97]⟩ 0 3 4), (Op.mk false ⟨#[]⟩ 0 5 6)])).2.2)))) ?_
 refine rvc_nil ?_
 refine Awp.consP C ?_
 refine rvP C (.pv (.lit (.bool ((order (Sl.mk false [(Op.mk true ⟨#[97]⟩ 1 1 2), (Op.mk false ⟨#[97]⟩ 1 3 4)])).2.1)))) ?_
 refine rvP C (.pv (.lit (.bool ((order (Sl.mk false [(Op.mk true ⟨#[97]⟩ 1 1 2), (Op.mk false ⟨#[97]⟩ 1 3 4)])).2.1)))) ?_
 refine rvc_case 39 ((order (Sl.mk false [(Op.mk true ⟨#[97]⟩ 1 1 2), (Op.mk false ⟨#[97]⟩ 1 3 4)])).2.1) rfl (fun h1 => ?_) (fun h1 => ?_)
 ·
  replace hR := of_true h1 hR
  refine rvO C (.pv (.lit (.int .i64 ((order (Sl.mk false [(Op.mk true ⟨#[97]⟩ 1 1 2), (Op.mk false ⟨#[97]⟩ 1 3 4)])).2.2)))) ?_
  refine rvO C (.pv (.lit (.bool (((order (Sl.mk false [(Op.mk true ⟨#[97]⟩ 1 1 2), (Op.mk false ⟨#[97]⟩ 1 3 4)])).2.2) == 0)))) ?_
  refine rvP C (.pv (.lit (.bool (((order (Sl.mk false [(Op.mk true ⟨#[97]⟩ 1 1 2), (Op.mk false ⟨#[97]⟩ 1 3 4)])).2.2) == 0)))) ?_
  refine rvP C (.pv (.lit (.bool (((order (Sl.mk false [(Op.mk true ⟨#[97]⟩ 1 1 2), (Op.mk false ⟨#[97]⟩ 1 3 4)])).2.2) == 0)))) ?_
  refine rvc_case 43 (((order (Sl.mk false [(Op.mk true ⟨#[97]⟩ 1 1 2), (Op.mk false ⟨#[97]⟩ 1 3 4)])).2.2) == 0) rfl (fun h2 => ?_) (fun h2 => ?_)
  ·
   replace hR := of_true h2 hR
   refine rvO C (sS (some (order (Sl.mk false [(Op.mk true ⟨#[97]⟩ 1 1 2), (Op.mk false ⟨#[97]⟩ 1 3 4)])).1.nil) (eI .i64) ((order (Sl.mk false [(Op.mk true ⟨#[97]⟩ 1 1 2), (Op.mk false ⟨#[97]⟩ 1 3 4)])).1.D)) ?_
   refine rvc_open rfl rfl rfl (rexec_buildSliceF C (eI .i64) [0, 1] rfl rfl rfl rfl rfl rfl rfl (by decide) rfl ?_)
   refine rvc_open rfl rfl rfl (rexec_call hP C rfl rfl rfl (eqInts_calls ((order (Sl.mk false [(Op.mk true ⟨#[97]⟩ 1 1 2), (Op.mk false ⟨#[97]⟩ 1 3 4)])).1) (Sl.mk false [0, 1]) (of_decide_eq_true (by kernel_rfl))) ?_)
   refine rvP C (.pv (.lit (.bool (eqInts ((order (Sl.mk false [(Op.mk true ⟨#[97]⟩ 1 1 2), (Op.mk false ⟨#[97]⟩ 1 3 4)])).1) (Sl.mk false [0, 1]))))) ?_
   refine rvP C (.pv (.lit (.bool (eqInts ((order (Sl.mk false [(Op.mk true ⟨#[97]⟩ 1 1 2), (Op.mk false ⟨#[97]⟩ 1 3 4)])).1) (Sl.mk false [0, 1]))))) ?_
   refine rvc_case 48 (eqInts ((order (Sl.mk false [(Op.mk true ⟨#[97]⟩ 1 1 2), (Op.mk false ⟨#[97]⟩ 1 3 4)])).1) (Sl.mk false [0, 1])) rfl (fun h3 => ?_) (fun h3 => ?_)
   ·
    replace hR := of_true h3 hR
    refine rvO C (.pv (.lit (.bool ((order (Sl.mk false [(Op.mk true ⟨#[97]⟩ 1 1 2), (Op.mk false ⟨#[]⟩ 0 3 4)])).2.1)))) ?_
    refine rvO C (.pv (.lit (.bool (!((order (Sl.mk false [(Op.mk true ⟨#[97]⟩ 1 1 2), (Op.mk false ⟨#[]⟩ 0 3 4)])).2.1))))) ?_
    refine rvP C (.pv (.lit (.bool (!((order (Sl.mk false [(Op.mk true ⟨#[97]⟩ 1 1 2), (Op.mk false ⟨#[]⟩ 0 3 4)])).2.1))))) ?_
    refine rvP C (.pv (.lit (.bool (!((order (Sl.mk false [(Op.mk true ⟨#[97]⟩ 1 1 2), (Op.mk false ⟨#[]⟩ 0 3 4)])).2.1))))) ?_
    refine rvc_case 52 (!((order (Sl.mk false [(Op.mk true ⟨#[97]⟩ 1 1 2), (Op.mk false ⟨#[]⟩ 0 3 4)])).2.1)) rfl (fun h4 => ?_) (fun h4 => ?_)
    ·
     replace hR := of_true h4 hR
     refine rvO C (.pv (.lit (.int .i64 ((order (Sl.mk false [(Op.mk true ⟨#[97]⟩ 1 1 2), (Op.mk false ⟨#[]⟩ 0 3 4)])).2.2)))) ?_
     refine rvO C (.pv (.lit (.bool (((order (Sl.mk false [(Op.mk true ⟨#[97]⟩ 1 1 2), (Op.mk false ⟨#[]⟩ 0 3 4)])).2.2) == 0)))) ?_
     refine rvP C (.pv (.lit (.bool (((order (Sl.mk false [(Op.mk true ⟨#[97]⟩ 1 1 2), (Op.mk false ⟨#[]⟩ 0 3 4)])).2.2) == 0)))) ?_
     refine rvP C (.pv (.lit (.bool (((order (Sl.mk false [(Op.mk true ⟨#[97]⟩ 1 1 2), (Op.mk false ⟨#[]⟩ 0 3 4)])).2.2) == 0)))) ?_
     refine rvc_case 56 (((order (Sl.mk false [(Op.mk true ⟨#[97]⟩ 1 1 2), (Op.mk false ⟨#[]⟩ 0 3 4)])).2.2) == 0) rfl (fun h5 => ?_) (fun h5 => ?_)
     ·
      replace hR := of_true h5 hR
      refine rvO C (.pv (.lit (.bool ((order (Sl.mk false [(Op.mk true ⟨#[97]⟩ 1 1 0), (Op.mk false ⟨#[97]⟩ 0 3 4), (Op.mk false ⟨#[]⟩ 0 5 6)])).2.1)))) ?_
      refine rvO C (.pv (.lit (.bool (!((order (Sl.mk false [(Op.mk true ⟨#[97]⟩ 1 1 0), (Op.mk false ⟨#[97]⟩ 0 3 4), (Op.mk false ⟨#[]⟩ 0 5 6)])).2.1))))) ?_
      refine rvP C (.pv (.lit (.bool (!((order (Sl.mk false [(Op.mk true ⟨#[97]⟩ 1 1 0), (Op.mk false ⟨#[97]⟩ 0 3 4), (Op.mk false ⟨#[]⟩ 0 5 6)])).2.1))))) ?_
      refine rvP C (.pv (.lit (.bool (!((order (Sl.mk false [(Op.mk true ⟨#[97]⟩ 1 1 0), (Op.mk false ⟨#[97]⟩ 0 3 4), (Op.mk false ⟨#[]⟩ 0 5 6)])).2.1))))) ?_
      refine rvc_case 60 (!((order (Sl.mk false [(Op.mk true ⟨#[97]⟩ 1 1 0), (Op.mk false ⟨#[97]⟩ 0 3 4), (Op.mk false ⟨#[]⟩ 0 5 6)])).2.1)) rfl (fun h6 => ?_) (fun h6 => ?_)
      ·
       replace hR := of_true h6 hR
       refine rvO C (.pv (.lit (.int .i64 ((order (Sl.mk false [(Op.mk true ⟨#[97]⟩ 1 1 0), (Op.mk false ⟨#[97]⟩ 0 3 4), (Op.mk false ⟨#[]⟩ 0 5 6)])).2.2)))) ?_
       refine rvO C (.pv (.lit (.bool (((order (Sl.mk false [(Op.mk true ⟨#[97]⟩ 1 1 0), (Op.mk false ⟨#[97]⟩ 0 3 4), (Op.mk false ⟨#[]⟩ 0 5 6)])).2.2) == 0)))) ?_
       refine rvP C (.pv (.lit (.bool (((order (Sl.mk false [(Op.mk true ⟨#[97]⟩ 1 1 0), (Op.mk false ⟨#[97]⟩ 0 3 4), (Op.mk false ⟨#[]⟩ 0 5 6)])).2.2) == 0)))) ?_
       refine rvP C (.pv (.lit (.bool (((order (Sl.mk false [(Op.mk true ⟨#[97]⟩ 1 1 0), (Op.mk false ⟨#[97]⟩ 0 3 4), (Op.mk false ⟨#[]⟩ 0 5 6)])).2.2) == 0)))) ?_
       refine rvc_case 64 (((order (Sl.mk false [(Op.mk true ⟨#[97]⟩ 1 1 0), (Op.mk false ⟨#[97]⟩ 0 3 4), (Op.mk false ⟨#[]⟩ 0 5 6)])).2.2) == 0) rfl (fun h7 => ?_) (fun h7 => ?_)
       ·
        replace hR := of_true h7 hR
        refine rvO C (.agg [.pv (.lit (.bool false)), .pv (.lit (.string ⟨#[]⟩)), .pv (.lit (.int .i64 0)), .pv (.lit (.int .i64 0)), .pv (.lit (.int .i64 0))]) ?_
        refine rvc_open rfl rfl rfl (rexec_buildSliceF C eOp [(Op.mk false ⟨#[]⟩ 0 0 0)] rfl rfl rfl rfl rfl rfl rfl (by decide) rfl ?_)
        refine rvc_open rfl rfl rfl (rexec_call hP C rfl rfl rfl (rightL_calls (Sl.mk false [(Op.mk false ⟨#[]⟩ 0 0 0)]) (of_decide_eq_true (by kernel_rfl))) ?_)
        refine rvO C (.pv (.lit (.bool ((rightL (Sl.mk false [(Op.mk false ⟨#[]⟩ 0 0 0)])) == 70)))) ?_
        refine rvP C (.pv (.lit (.bool ((rightL (Sl.mk false [(Op.mk false ⟨#[]⟩ 0 0 0)])) == 70)))) ?_
        refine rvP C (.pv (.lit (.bool ((rightL (Sl.mk false [(Op.mk false ⟨#[]⟩ 0 0 0)])) == 70)))) ?_
        refine rvc_nil ?_
        refine Awp.ret ?_
        subst hR
        exact ⟨.inl rfl, rfl⟩
       ·
        replace hR := of_false h7 hR
        refine rvS ?_
        refine rvS ?_
        refine rvS ?_
        refine rvS ?_
        refine rvP C (.pv (.lit (.bool false))) ?_
        refine rvP C (.pv (.lit (.bool false))) ?_
        refine rvc_nil ?_
        refine Awp.ret ?_
        subst hR
        exact ⟨.inl rfl, rfl⟩
      ·
       replace hR := of_false h6 hR
       refine rvS ?_
       refine rvS ?_
       refine rvP C (.pv (.lit (.bool false))) ?_
       refine rvP C (.pv (.lit (.bool false))) ?_
       refine rvS ?_
       refine rvS ?_
       refine rvS ?_
       refine rvS ?_
       refine rvP C (.pv (.lit (.bool false))) ?_
       refine rvP C (.pv (.lit (.bool false))) ?_
       refine rvc_nil ?_
       refine Awp.ret ?_
       subst hR
       exact ⟨.inl rfl, rfl⟩
     ·
      replace hR := of_false h5 hR
      refine rvS ?_
      refine rvS ?_
      refine rvP C (.pv (.lit (.bool false))) ?_
      refine rvP C (.pv (.lit (.bool false))) ?_
      refine rvS ?_
      refine rvS ?_
      refine rvP C (.pv (.lit (.bool false))) ?_
      refine rvP C (.pv (.lit (.bool false))) ?_
      refine rvS ?_
      refine rvS ?_
      refine rvS ?_
      refine rvS ?_
      refine rvP C (.pv (.lit (.bool false))) ?_
      refine rvP C (.pv (.lit (.bool false))) ?_
      refine rvc_nil ?_
      refine Awp.ret ?_
      subst hR
      exact ⟨.inl rfl, rfl⟩
    ·
     replace hR := of_false h4 hR
     refine rvS ?_
     refine rvS ?_
     refine rvP C (.pv (.lit (.bool false))) ?_
     refine rvP C (.pv (.lit (.bool false))) ?_
     refine rvS ?_
     refine rvS ?_
     refine rvP C (.pv (.lit (.bool false))) ?_
     refine rvP C (.pv (.lit (.bool false))) ?_
     refine rvS ?_
     refine rvS ?_
     refine rvP C (.pv (.lit (.bool false))) ?_
     refine rvP C (.pv (.lit (.bool false))) ?_
     refine rvS ?_
     refine rvS ?_
     refine rvS ?_
     refine rvS ?_
     refine rvP C (.pv (.lit (.bool false))) ?_
     refine rvP C (.pv (.lit (.bool false))) ?_
     refine rvc_nil ?_
     refine Awp.ret ?_
     subst hR
     exact ⟨.inl rfl, rfl⟩
   ·
    replace hR := of_false h3 hR
    refine rvS ?_
    refine rvS ?_
    refine rvP C (.pv (.lit (.bool false))) ?_
    refine rvP C (.pv (.lit (.bool false))) ?_
    refine rvS ?_
    refine rvS ?_
    refine rvP C (.pv (.lit (.bool false))) ?_
    refine rvP C (.pv (.lit (.bool false))) ?_
    refine rvS ?_
    refine rvS ?_
    refine rvP C (.pv (.lit (.bool false))) ?_
    refine rvP C (.pv (.lit (.bool false))) ?_
    refine rvS ?_
    refine rvS ?_
    refine rvP C (.pv (.lit (.bool false))) ?_
    refine rvP C (.pv (.lit (.bool false))) ?_
    refine rvS ?_
    refine rvS ?_
    refine rvS ?_
    refine rvS ?_
    refine rvP C (.pv (.lit (.bool false))) ?_
    refine rvP C (.pv (.lit (.bool false))) ?_
    refine rvc_nil ?_
    refine Awp.ret ?_
    subst hR
    exact ⟨.inl rfl, rfl⟩
  ·
   replace hR := of_false h2 hR
   refine rvS ?_
   refine rvS ?_
   refine rvS ?_
   refine rvP C (.pv (.lit (.bool false))) ?_
   refine rvP C (.pv (.lit (.bool false))) ?_
   refine rvS ?_
   refine rvS ?_
   refine rvP C (.pv (.lit (.bool false))) ?_
   refine rvP C (.pv (.lit (.bool false))) ?_
   refine rvS ?_
   refine rvS ?_
   refine rvP C (.pv (.lit (.bool false))) ?_
   refine rvP C (.pv (.lit (.bool false))) ?_
   refine rvS ?_
   refine rvS ?_
   refine rvP C (.pv (.lit (.bool false))) ?_
   refine rvP C (.pv (.lit (.bool false))) ?_
   refine rvS ?_
   refine rvS ?_
   refine rvP C (.pv (.lit (.bool false))) ?_
   refine rvP C (.pv (.lit (.bool false))) ?_
   refine rvS ?_
   refine rvS ?_
   refine rvS ?_
   refine rvS ?_
   refine rvP C (.pv (.lit (.bool false))) ?_
   refine rvP C (.pv (.lit (.bool false))) ?_
   refine rvc_nil ?_
   refine Awp.ret ?_
   subst hR
   exact ⟨.inl rfl, rfl⟩
 ·
  replace hR := of_false h1 hR
  refine rvS ?_
  refine rvS ?_
  refine rvP C (.pv (.lit (.bool false))) ?_
  refine rvP C (.pv (.lit (.bool false))) ?_
  refine rvS ?_
  refine rvS ?_
  refine rvS ?_
  refine rvP C (.pv (.lit (.bool false))) ?_
  refine rvP C (.pv (.lit (.bool false))) ?_
  refine rvS ?_
  refine rvS ?_
  refine rvP C (.pv (.lit (.bool false))) ?_
  refine rvP C (.pv (.lit (.bool false))) ?_
  refine rvS ?_
  refine rvS ?_
  refine rvP C (.pv (.lit (.bool false))) ?_
  refine rvP C (.pv (.lit (.bool false))) ?_
  refine rvS ?_
  refine rvS ?_
  refine rvP C (.pv (.lit (.bool false))) ?_
  refine rvP C (.pv (.lit (.bool false))) ?_
  refine rvS ?_
  refine rvS ?_
  refine rvP C (.pv (.lit (.bool false))) ?_
  refine rvP C (.pv (.lit (.bool false))) ?_
  refine rvS ?_
  refine rvS ?_
  refine rvS ?_
  refine rvS ?_
  refine rvP C (.pv (.lit (.bool false))) ?_
  refine rvP C (.pv (.lit (.bool false))) ?_
  refine rvc_nil ?_
  refine Awp.ret ?_
  subst hR
  exact ⟨.inl rfl, rfl⟩
theorem at_mem {α : Type} [Inhabited α] {D : List α} {n : Nat} (h : n < D.length) : D[n]! ∈ D := by
  rw [getElem!_pos D n h]; exact List.getElem_mem h
theorem swap_mem {α : Type} {P : α → Prop} {D : List α} (h : ∀ x ∈ D, P x) {i j : Nat} {x y : α} (hx : x ∈ D) (hy : y ∈ D) : ∀ z ∈ (D.set i x).set j y, P z := fun z hz => by
  rcases List.mem_or_eq_of_mem_set hz with hz | rfl
  · rcases List.mem_or_eq_of_mem_set hz with hz | rfl
    · exact h z hz
    · exact h _ hx
  · exact h _ hy
end Go.Proofs.Ytaoagcdljmpllaa
