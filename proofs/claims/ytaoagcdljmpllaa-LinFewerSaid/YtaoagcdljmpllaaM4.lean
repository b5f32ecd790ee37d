import Derived.Test.YtaoagcdljmpllaaM3
import Derived.Test.YtaoagcdljmpllaaM2
/- A search from a point, with no row as yet. No conditions. -/
namespace Go.Proofs.Ytaoagcdljmpllaa
open Go.Am
def fromN_l0B (s : Search) (p : Point) : List Op → Nat → (List Int) → (List (Point × Bool)) → Search × Bool
  | [], _, vc, vc1 => ((Search.mk s.l vc1 (Sl.mk false vc)), false)
  | x :: xs, i, vc, vc1 => (bif (mHas p.done (i : Int)) then fromN_l0B s p xs (i + 1) vc vc1 else (bif (!x.write) then (bif (x.ended == 0) then fromN_l0B s p xs (i + 1) vc vc1 else (bif (!(x.value.toList == p.value.toList)) then fromN_l0B s p xs (i + 1) vc vc1 else (bif (!(firstSO (Search.mk s.l vc1 (Sl.mk false vc)) (i : Int) p.done)) then fromN_l0B s p xs (i + 1) vc vc1 else (bif x.write then (bif (fromO 65 (Search.mk s.l vc1 (Sl.mk false (vc ++ [(i : Int)]))) (Point.mk (mWith p.done (i : Int)) x.value)).2 then ((Search.mk s.l (fromO 65 (Search.mk s.l vc1 (Sl.mk false (vc ++ [(i : Int)]))) (Point.mk (mWith p.done (i : Int)) x.value)).1.been (Sl.mk false (fromO 65 (Search.mk s.l vc1 (Sl.mk false (vc ++ [(i : Int)]))) (Point.mk (mWith p.done (i : Int)) x.value)).1.row.D)), true) else fromN_l0B s p xs (i + 1) ((fromO 65 (Search.mk s.l vc1 (Sl.mk false (vc ++ [(i : Int)]))) (Point.mk (mWith p.done (i : Int)) x.value)).1.row.D.dropLast) (fromO 65 (Search.mk s.l vc1 (Sl.mk false (vc ++ [(i : Int)]))) (Point.mk (mWith p.done (i : Int)) x.value)).1.been) else (bif (fromO 65 (Search.mk s.l vc1 (Sl.mk false (vc ++ [(i : Int)]))) (Point.mk (mWith p.done (i : Int)) p.value)).2 then ((Search.mk s.l (fromO 65 (Search.mk s.l vc1 (Sl.mk false (vc ++ [(i : Int)]))) (Point.mk (mWith p.done (i : Int)) p.value)).1.been (Sl.mk false (fromO 65 (Search.mk s.l vc1 (Sl.mk false (vc ++ [(i : Int)]))) (Point.mk (mWith p.done (i : Int)) p.value)).1.row.D)), true) else fromN_l0B s p xs (i + 1) ((fromO 65 (Search.mk s.l vc1 (Sl.mk false (vc ++ [(i : Int)]))) (Point.mk (mWith p.done (i : Int)) p.value)).1.row.D.dropLast) (fromO 65 (Search.mk s.l vc1 (Sl.mk false (vc ++ [(i : Int)]))) (Point.mk (mWith p.done (i : Int)) p.value)).1.been))))) else (bif (!(firstSO (Search.mk s.l vc1 (Sl.mk false vc)) (i : Int) p.done)) then fromN_l0B s p xs (i + 1) vc vc1 else (bif x.write then (bif (fromO 65 (Search.mk s.l vc1 (Sl.mk false (vc ++ [(i : Int)]))) (Point.mk (mWith p.done (i : Int)) x.value)).2 then ((Search.mk s.l (fromO 65 (Search.mk s.l vc1 (Sl.mk false (vc ++ [(i : Int)]))) (Point.mk (mWith p.done (i : Int)) x.value)).1.been (Sl.mk false (fromO 65 (Search.mk s.l vc1 (Sl.mk false (vc ++ [(i : Int)]))) (Point.mk (mWith p.done (i : Int)) x.value)).1.row.D)), true) else fromN_l0B s p xs (i + 1) ((fromO 65 (Search.mk s.l vc1 (Sl.mk false (vc ++ [(i : Int)]))) (Point.mk (mWith p.done (i : Int)) x.value)).1.row.D.dropLast) (fromO 65 (Search.mk s.l vc1 (Sl.mk false (vc ++ [(i : Int)]))) (Point.mk (mWith p.done (i : Int)) x.value)).1.been) else (bif (fromO 65 (Search.mk s.l vc1 (Sl.mk false (vc ++ [(i : Int)]))) (Point.mk (mWith p.done (i : Int)) p.value)).2 then ((Search.mk s.l (fromO 65 (Search.mk s.l vc1 (Sl.mk false (vc ++ [(i : Int)]))) (Point.mk (mWith p.done (i : Int)) p.value)).1.been (Sl.mk false (fromO 65 (Search.mk s.l vc1 (Sl.mk false (vc ++ [(i : Int)]))) (Point.mk (mWith p.done (i : Int)) p.value)).1.row.D)), true) else fromN_l0B s p xs (i + 1) ((fromO 65 (Search.mk s.l vc1 (Sl.mk false (vc ++ [(i : Int)]))) (Point.mk (mWith p.done (i : Int)) p.value)).1.row.D.dropLast) (fromO 65 (Search.mk s.l vc1 (Sl.mk false (vc ++ [(i : Int)]))) (Point.mk (mWith p.done (i : Int)) p.value)).1.been)))))
def fromN_l0 (s : Search) (p : Point) : List Op → Nat → Search × Bool
  | [], _ => ((Search.mk s.l (mSet kPoint p true s.been) (Sl.mk true [])), false)
  | x1 :: x1s, i => (bif (mHas p.done (i : Int)) then fromN_l0 s p x1s (i + 1)  else (bif (!x1.write) then (bif (x1.ended == 0) then fromN_l0 s p x1s (i + 1)  else (bif (!(x1.value.toList == p.value.toList)) then fromN_l0 s p x1s (i + 1)  else (bif (!(firstSN (Search.mk s.l (mSet kPoint p true s.been) (Sl.mk true [])) (i : Int) p.done)) then fromN_l0 s p x1s (i + 1)  else (bif x1.write then (bif (fromO 65 (Search.mk s.l (mSet kPoint p true s.been) (Sl.mk false [(i : Int)])) (Point.mk (mWith p.done (i : Int)) x1.value)).2 then ((Search.mk s.l (fromO 65 (Search.mk s.l (mSet kPoint p true s.been) (Sl.mk false [(i : Int)])) (Point.mk (mWith p.done (i : Int)) x1.value)).1.been (Sl.mk false (fromO 65 (Search.mk s.l (mSet kPoint p true s.been) (Sl.mk false [(i : Int)])) (Point.mk (mWith p.done (i : Int)) x1.value)).1.row.D)), true) else fromN_l0B s p x1s (i + 1) ((fromO 65 (Search.mk s.l (mSet kPoint p true s.been) (Sl.mk false [(i : Int)])) (Point.mk (mWith p.done (i : Int)) x1.value)).1.row.D.dropLast) (fromO 65 (Search.mk s.l (mSet kPoint p true s.been) (Sl.mk false [(i : Int)])) (Point.mk (mWith p.done (i : Int)) x1.value)).1.been) else (bif (fromO 65 (Search.mk s.l (mSet kPoint p true s.been) (Sl.mk false [(i : Int)])) (Point.mk (mWith p.done (i : Int)) p.value)).2 then ((Search.mk s.l (fromO 65 (Search.mk s.l (mSet kPoint p true s.been) (Sl.mk false [(i : Int)])) (Point.mk (mWith p.done (i : Int)) p.value)).1.been (Sl.mk false (fromO 65 (Search.mk s.l (mSet kPoint p true s.been) (Sl.mk false [(i : Int)])) (Point.mk (mWith p.done (i : Int)) p.value)).1.row.D)), true) else fromN_l0B s p x1s (i + 1) ((fromO 65 (Search.mk s.l (mSet kPoint p true s.been) (Sl.mk false [(i : Int)])) (Point.mk (mWith p.done (i : Int)) p.value)).1.row.D.dropLast) (fromO 65 (Search.mk s.l (mSet kPoint p true s.been) (Sl.mk false [(i : Int)])) (Point.mk (mWith p.done (i : Int)) p.value)).1.been))))) else (bif (!(firstSN (Search.mk s.l (mSet kPoint p true s.been) (Sl.mk true [])) (i : Int) p.done)) then fromN_l0 s p x1s (i + 1)  else (bif x1.write then (bif (fromO 65 (Search.mk s.l (mSet kPoint p true s.been) (Sl.mk false [(i : Int)])) (Point.mk (mWith p.done (i : Int)) x1.value)).2 then ((Search.mk s.l (fromO 65 (Search.mk s.l (mSet kPoint p true s.been) (Sl.mk false [(i : Int)])) (Point.mk (mWith p.done (i : Int)) x1.value)).1.been (Sl.mk false (fromO 65 (Search.mk s.l (mSet kPoint p true s.been) (Sl.mk false [(i : Int)])) (Point.mk (mWith p.done (i : Int)) x1.value)).1.row.D)), true) else fromN_l0B s p x1s (i + 1) ((fromO 65 (Search.mk s.l (mSet kPoint p true s.been) (Sl.mk false [(i : Int)])) (Point.mk (mWith p.done (i : Int)) x1.value)).1.row.D.dropLast) (fromO 65 (Search.mk s.l (mSet kPoint p true s.been) (Sl.mk false [(i : Int)])) (Point.mk (mWith p.done (i : Int)) x1.value)).1.been) else (bif (fromO 65 (Search.mk s.l (mSet kPoint p true s.been) (Sl.mk false [(i : Int)])) (Point.mk (mWith p.done (i : Int)) p.value)).2 then ((Search.mk s.l (fromO 65 (Search.mk s.l (mSet kPoint p true s.been) (Sl.mk false [(i : Int)])) (Point.mk (mWith p.done (i : Int)) p.value)).1.been (Sl.mk false (fromO 65 (Search.mk s.l (mSet kPoint p true s.been) (Sl.mk false [(i : Int)])) (Point.mk (mWith p.done (i : Int)) p.value)).1.row.D)), true) else fromN_l0B s p x1s (i + 1) ((fromO 65 (Search.mk s.l (mSet kPoint p true s.been) (Sl.mk false [(i : Int)])) (Point.mk (mWith p.done (i : Int)) p.value)).1.row.D.dropLast) (fromO 65 (Search.mk s.l (mSet kPoint p true s.been) (Sl.mk false [(i : Int)])) (Point.mk (mWith p.done (i : Int)) p.value)).1.been)))))
def fromN (s : Search) (p : Point) : Search × Bool :=
  (bif (allSN (Search.mk s.l s.been (Sl.mk true [])) p.done) then ((Search.mk s.l s.been (Sl.mk true [])), true) else (bif ((mGet kPoint p s.been).getD false) then ((Search.mk s.l s.been (Sl.mk true [])), false) else fromN_l0 s p s.l.D 0 ))
set_option maxRecDepth 20000 in
theorem fromN_calls (s : Search) (p : Point) (hl64 : s.l.D.length ≤ 64) (hd : okD p.done) (hl1 : s.l.D.length ≤ 9223372036854775807) : ObjCalls Try.prog 46 [.ptr 0 0, .agg [.pv (.lit (.int .u64 p.done)), .pv (.lit (.string p.value))]] [sS (some s.l.nil) eOp s.l.D, .mp 1, sS (some true) (eI .i64) []] [(1, mapE kPoint vBool.enc s.been)] (.pv (.lit (.bool ((fromN s p).2)))) [sS (some s.l.nil) eOp s.l.D, .mp 1, sS (some (fromN s p).1.row.nil) (eI .i64) ((fromN s p).1.row.D)] [(1, mapE kPoint vBool.enc ((fromN s p).1.been))] := by
 generalize hR : fromN s p = R
 refine ObjCalls.of_body tabOk Try.func46 rfl rfl rfl rfl rfl (allB_cons (mapE_within _ _) allB_nil) (of_decide_eq_true rfl) rfl rfl (allB_cons (mapE_within _ _) allB_nil) (of_decide_eq_true rfl) mixed fun E hP C hI => ?_
 refine Awp.consP C ?_
 refine rvc_un (rexec_prim C (δ := { v := .ptr 3 0, new := [(3, .cells [.pv (.lit (.int .u64 p.done)), .pv (.lit (.string p.value))])] }) rfl rfl rfl rfl trivial rfl ?_)
 refine rvP C (.pv (.lit (.bool false))) ?_
 refine rvc_nil ?_
 refine Awp.seq ?_
 refine Awp.cons C (fun _ => .writer) (by kernel_rfl) ?_
 refine rvP C (.ptr 0 0) ?_
 refine rvP C (.ptr 3 0) ?_
 refine rvP C (.pv (.lit (.int .u64 p.done))) ?_
 refine rvc_un (rexec_callObj hP C (fun b => bif b == 0 then 0 else bif b == 1 then 1 else b) [] rfl rfl rfl (allSN_calls (Search.mk s.l s.been (Sl.mk true [])) p.done hl1) rfl rfl ⟨rfl, trivial⟩ (of_decide_eq_true rfl) rfl (of_decide_eq_true rfl) (of_decide_eq_true rfl) allB_nil allB_nil (allB_cons rfl allB_nil) ?_ rfl (allB_cons rfl allB_nil))
 refine rvc_nil ?_
 refine Awp.cond (b := (allSN (Search.mk s.l s.been (Sl.mk true [])) p.done)) rfl (fun h1 => ?_) (fun h1 => ?_)
 ·
  replace hR := of_true h1 hR
  refine Awp.consP C ?_
  refine rvP C (.pv (.lit (.bool true))) ?_
  refine rvc_nil ?_
  refine Awp.ret ?_
  subst hR
  exact ⟨.inl rfl, rfl, rfl, ⟨rfl, trivial⟩⟩
 ·
  replace hR := of_false h1 hR
  refine Awp.skip ?_
  refine Awp.seq ?_
  refine Awp.consP C ?_
  refine rvP C (.ptr 0 0) ?_
  refine rvP C (.ptr 0 0) ?_
  refine rvP C (.ptr 0 1) ?_
  refine rvP C (.mp 1) ?_
  refine rvP C (.agg [.pv (.lit (.int .u64 p.done)), .pv (.lit (.string p.value))]) ?_
  refine rvc_un (rexec_lookup hP C rfl p false rfl rfl rfl rfl rfl rfl kPoint_ok rfl (.pv (.lit (.bool ((mGet kPoint p s.been).getD false)))) rfl ?_)
  refine rvc_nil ?_
  refine Awp.cond (b := ((mGet kPoint p s.been).getD false)) rfl (fun h2 => ?_) (fun h2 => ?_)
  ·
   replace hR := of_true h2 hR
   refine Awp.consP C ?_
   refine rvP C (.pv (.lit (.bool false))) ?_
   refine rvc_nil ?_
   refine Awp.ret ?_
   subst hR
   exact ⟨.inl rfl, rfl, rfl, ⟨rfl, trivial⟩⟩
  ·
   replace hR := of_false h2 hR
   refine Awp.skip ?_
   refine Awp.consP C ?_
   refine rvP C (.ptr 0 0) ?_
   refine rvP C (.ptr 0 0) ?_
   refine rvP C (.ptr 0 1) ?_
   refine rvP C (.mp 1) ?_
   refine rvP C (.agg [.pv (.lit (.int .u64 p.done)), .pv (.lit (.string p.value))]) ?_
   refine rvc_un (rexec_mapUpdate hP C p true rfl rfl rfl rfl rfl rfl kPoint_ok ?_)
   refine rvc_nil ?_
   refine Awp.seq ?_
   refine Awp.consP C ?_
   refine rvP C (.ptr 0 0) ?_
   refine rvP C (.ptr 0 0) ?_
   refine rvP C (.ptr 0 0) ?_
   refine rvP C (sS (some s.l.nil) eOp s.l.D) ?_
   refine rvP C (.pv (.lit (.int .i64 (s.l.D.length : Int)))) ?_
   refine rvP C (.pv (.lit (.int .i64 0))) ?_
   refine rvc_nil ?_
   refine Awp.block ?_
   refine Awp.forR2 (σA := Unit) (σB := ((List Int)) × ((List (Point × Bool)))) (s.l.D.length) (fun i v => [(0, .ptr 0 0), (3, .ptr 3 0), (26, sS (some s.l.nil) eOp s.l.D), (27, .pv (.lit (.int .i64 (s.l.D.length : Int)))), (28, .pv (.lit (.int .i64 (i : Int))))]) (fun i v => [(0, .ptr 0 0), (3, .ptr 3 0), (26, sS (some s.l.nil) eOp s.l.D), (27, .pv (.lit (.int .i64 (s.l.D.length : Int)))), (28, .pv (.lit (.int .i64 (i : Int))))]) (fun i v => [(0, .cells [sS (some s.l.nil) eOp s.l.D, .mp 1, sS (some true) (eI .i64) []]), (1, mapE kPoint vBool.enc (mSet kPoint p true s.been)), (3, .cells [.pv (.lit (.int .u64 p.done)), .pv (.lit (.string p.value))])]) (fun i v => [(0, .cells [sS (some s.l.nil) eOp s.l.D, .mp 1, .sl 900 0 v.1.length 1 false]), (1, mapE kPoint vBool.enc v.2), (3, .cells [.pv (.lit (.int .u64 p.done)), .pv (.lit (.string p.value))]), (900, .cells (encC (eI .i64) v.1))]) [0, 1, 3, 900] (fun i v => fromN_l0 s p (s.l.D.drop i) i  = R) (fun i v => (fromN_l0B s p (s.l.D.drop i) i v.1 v.2 = R) ∧ (v.1.length = 0)) () ?_ ?_ (fun i v h19 hR => ?_) (fun i v h3 hR => ?_)
   · exact hR
   · exact ⟨fun b => b, WeakerR.ofLI (I := [0, 1]) (Ks := [0, 1, 3]) hI ⟨⟨rfl, rfl⟩, ⟨rfl, rfl⟩, ⟨rfl, rfl⟩, ⟨rfl, rfl⟩, ⟨rfl, rfl⟩, trivial⟩ (okH_cons rfl rfl rfl rfl (okH_map rfl rfl rfl (okH_cons rfl rfl rfl rfl (okH_nil)))) rfl rfl⟩
   ·
    refine Awp.consP C ?_
    refine rvP C (.pv (.lit (.bool (decide ((i : Int) < (s.l.D.length : Int)))))) ?_
    refine rvc_nil ?_
    refine Awp.seq ?_
    refine Awp.cond (b := (decide ((i : Int) < (s.l.D.length : Int)))) rfl (fun h20 => ?_) (fun h20 => ?_)
    ·
     have h21 : i < s.l.D.length := by have := of_decide_eq_true h20; omega
     obtain ⟨x1, h22⟩ := getX h21
     rw [drop_at h22] at hR
     refine Awp.skip ?_
     refine Awp.seq ?_
     refine Awp.block ?_
     refine Awp.consP C ?_
     refine rvP C (.pv (.lit (.int .i64 (i : Int)))) ?_
     refine rvc_un (rexec_idxS C rfl rfl rfl rfl rfl rfl x1 (Int.natCast_nonneg _) h22 ?_)
     refine rvP C (.agg [.pv (.lit (.bool x1.write)), .pv (.lit (.string x1.value)), .pv (.lit (.int .i64 x1.ver)), .pv (.lit (.int .i64 x1.began)), .pv (.lit (.int .i64 x1.ended))]) ?_
     refine rvc_un (rexec_prim C (δ := { v := .ptr 6 0, new := [(6, .cells [.pv (.lit (.bool false)), .pv (.lit (.string ⟨#[]⟩)), .pv (.lit (.int .i64 0)), .pv (.lit (.int .i64 0)), .pv (.lit (.int .i64 0))])] }) rfl rfl rfl rfl trivial rfl ?_)
     refine rvP C (.pv (.lit (.int .i64 (i : Int)))) ?_
     refine rvc_un (rexec_prim C (δ := { v := .undef, wr := [(6, some (.cells [.pv (.lit (.bool x1.write)), .pv (.lit (.string x1.value)), .pv (.lit (.int .i64 x1.ver)), .pv (.lit (.int .i64 x1.began)), .pv (.lit (.int .i64 x1.ended))]))] }) rfl rfl rfl rfl trivial rfl ?_)
     refine rvc_nil ?_
     refine Awp.seq ?_
     refine Awp.cons C (fun _ => .writer) (by kernel_rfl) ?_
     refine rvP C (.ptr 3 0) ?_
     refine rvP C (.pv (.lit (.int .u64 p.done))) ?_
     refine rvP C (.pv (.lit (.int .i64 (i : Int)))) ?_
     refine rvc_un (rexec_call hP C rfl rfl rfl (mHas_calls p.done (i : Int)) ?_)
     refine rvP C (.pv (.lit (.bool (mHas p.done (i : Int))))) ?_
     refine rvc_case 37 (mHas p.done (i : Int)) rfl (fun h23 => ?_) (fun h23 => ?_)
     ·
      replace hR := of_true h23 hR
      refine rvS ?_
      refine rvS ?_
      refine rvS ?_
      refine rvS ?_
      refine rvc_shutU rfl rfl rfl ?_
      refine rvc_shutU rfl rfl rfl ?_
      refine rvc_shutU rfl rfl rfl ?_
      refine rvc_shutU rfl rfl rfl ?_
      refine rvc_shutU rfl rfl rfl ?_
      refine rvc_shutU rfl rfl rfl ?_
      refine rvc_shutU rfl rfl rfl ?_
      refine rvc_shutU rfl rfl rfl ?_
      refine rvc_shutU rfl rfl rfl ?_
      refine rvc_shutU rfl rfl rfl ?_
      refine rvS ?_
      refine rvP C (.pv (.lit (.bool true))) ?_
      refine rvP C (.pv (.lit (.bool true))) ?_
      refine rvS ?_
      refine rvS ?_
      refine rvS ?_
      refine rvS ?_
      refine rvS ?_
      refine rvS ?_
      refine rvP C (.pv (.lit (.bool true))) ?_
      refine rvc_nil ?_
      refine Awp.condT (b := true) rfl rfl ?_
      refine Awp.exit ?_
      refine Awp.regionP C ?_
      refine rvP C (.pv (.lit (.int .i64 (IntKind.i64.wrap ((i : Int) + 1))))) ?_
      refine rvP C (.pv (.lit (.int .i64 (IntKind.i64.wrap ((i : Int) + 1))))) ?_
      refine rvc_nil ?_
      refine ⟨h21, .inl ⟨(), ?_, ?_⟩⟩
      · exact hR
      · exact ⟨fun b => b, WeakerR.ofLI (I := [0, 1]) (Ks := [0, 1, 3]) hI ⟨⟨rfl, rfl⟩, ⟨rfl, rfl⟩, ⟨rfl, rfl⟩, ⟨rfl, rfl⟩, ⟨lit_cast (wrap_i64 (by omega) (by omega)), rfl⟩, trivial⟩ (okH_cons rfl rfl rfl rfl (okH_map rfl rfl rfl (okH_cons rfl rfl rfl rfl (okH_nil)))) rfl rfl⟩
     ·
      replace hR := of_false h23 hR
      refine rvO C (.ptr 6 0) ?_
      refine rvO C (.pv (.lit (.bool x1.write))) ?_
      refine rvO C (.pv (.lit (.bool (!x1.write)))) ?_
      refine rvO C (.pv (.lit (.bool (!x1.write)))) ?_
      refine rvc_case 41 (!x1.write) rfl (fun h24 => ?_) (fun h24 => ?_)
      ·
       replace hR := of_true h24 hR
       refine rvO C (.ptr 6 4) ?_
       refine rvO C (.pv (.lit (.int .i64 x1.ended))) ?_
       refine rvO C (.pv (.lit (.bool (x1.ended == 0)))) ?_
       refine rvO C (.pv (.lit (.bool (x1.ended == 0)))) ?_
       refine rvc_case 45 (x1.ended == 0) rfl (fun h25 => ?_) (fun h25 => ?_)
       ·
        replace hR := of_true h25 hR
        refine rvS ?_
        refine rvS ?_
        refine rvS ?_
        refine rvS ?_
        refine rvS ?_
        refine rvO C (.pv (.lit (.bool true))) ?_
        refine rvO C (.pv (.lit (.bool true))) ?_
        refine rvP C (.pv (.lit (.bool true))) ?_
        refine rvP C (.pv (.lit (.bool true))) ?_
        refine rvS ?_
        refine rvS ?_
        refine rvS ?_
        refine rvS ?_
        refine rvS ?_
        refine rvS ?_
        refine rvP C (.pv (.lit (.bool true))) ?_
        refine rvc_nil ?_
        refine Awp.condT (b := true) rfl rfl ?_
        refine Awp.exit ?_
        refine Awp.regionP C ?_
        refine rvP C (.pv (.lit (.int .i64 (IntKind.i64.wrap ((i : Int) + 1))))) ?_
        refine rvP C (.pv (.lit (.int .i64 (IntKind.i64.wrap ((i : Int) + 1))))) ?_
        refine rvc_nil ?_
        refine ⟨h21, .inl ⟨(), ?_, ?_⟩⟩
        · exact hR
        · exact ⟨fun b => b, WeakerR.ofLI (I := [0, 1]) (Ks := [0, 1, 3]) hI ⟨⟨rfl, rfl⟩, ⟨rfl, rfl⟩, ⟨rfl, rfl⟩, ⟨rfl, rfl⟩, ⟨lit_cast (wrap_i64 (by omega) (by omega)), rfl⟩, trivial⟩ (okH_cons rfl rfl rfl rfl (okH_map rfl rfl rfl (okH_cons rfl rfl rfl rfl (okH_nil)))) rfl rfl⟩
       ·
        replace hR := of_false h25 hR
        refine rvO C (.ptr 6 1) ?_
        refine rvO C (.pv (.lit (.string x1.value))) ?_
        refine rvO C (.ptr 3 1) ?_
        refine rvO C (.pv (.lit (.string p.value))) ?_
        refine rvO C (.pv (.lit (.bool (!(x1.value.toList == p.value.toList))))) ?_
        refine rvO C (.pv (.lit (.bool (!(x1.value.toList == p.value.toList))))) ?_
        refine rvO C (.pv (.lit (.bool (!(x1.value.toList == p.value.toList))))) ?_
        refine rvP C (.pv (.lit (.bool (!(x1.value.toList == p.value.toList))))) ?_
        refine rvP C (.pv (.lit (.bool (!(x1.value.toList == p.value.toList))))) ?_
        refine rvc_case 54 (!(x1.value.toList == p.value.toList)) rfl (fun h26 => ?_) (fun h26 => ?_)
        ·
         replace hR := of_true h26 hR
         refine rvS ?_
         refine rvS ?_
         refine rvS ?_
         refine rvS ?_
         refine rvS ?_
         refine rvS ?_
         refine rvP C (.pv (.lit (.bool true))) ?_
         refine rvc_nil ?_
         refine Awp.condT (b := true) rfl rfl ?_
         refine Awp.exit ?_
         refine Awp.regionP C ?_
         refine rvP C (.pv (.lit (.int .i64 (IntKind.i64.wrap ((i : Int) + 1))))) ?_
         refine rvP C (.pv (.lit (.int .i64 (IntKind.i64.wrap ((i : Int) + 1))))) ?_
         refine rvc_nil ?_
         refine ⟨h21, .inl ⟨(), ?_, ?_⟩⟩
         · exact hR
         · exact ⟨fun b => b, WeakerR.ofLI (I := [0, 1]) (Ks := [0, 1, 3]) hI ⟨⟨rfl, rfl⟩, ⟨rfl, rfl⟩, ⟨rfl, rfl⟩, ⟨rfl, rfl⟩, ⟨lit_cast (wrap_i64 (by omega) (by omega)), rfl⟩, trivial⟩ (okH_cons rfl rfl rfl rfl (okH_map rfl rfl rfl (okH_cons rfl rfl rfl rfl (okH_nil)))) rfl rfl⟩
        ·
         replace hR := of_false h26 hR
         refine rvO C (.ptr 0 0) ?_
         refine rvO C (.pv (.lit (.int .i64 (i : Int)))) ?_
         refine rvO C (.ptr 3 0) ?_
         refine rvO C (.pv (.lit (.int .u64 p.done))) ?_
         refine rvc_open rfl rfl rfl (rexec_callObj hP C (fun b => bif b == 0 then 0 else bif b == 1 then 1 else b) [] rfl rfl rfl (firstSN_calls (Search.mk s.l (mSet kPoint p true s.been) (Sl.mk true [])) (i : Int) p.done ⟨by omega, by show (i : Int) < (s.l.D.length : Int); omega⟩ hl1) rfl rfl ⟨rfl, trivial⟩ (of_decide_eq_true rfl) rfl (of_decide_eq_true rfl) (of_decide_eq_true rfl) allB_nil allB_nil (allB_cons rfl allB_nil) ?_ rfl (allB_cons rfl allB_nil))
         refine rvO C (.pv (.lit (.bool (!(firstSN (Search.mk s.l (mSet kPoint p true s.been) (Sl.mk true [])) (i : Int) p.done))))) ?_
         refine rvP C (.pv (.lit (.bool (!(firstSN (Search.mk s.l (mSet kPoint p true s.been) (Sl.mk true [])) (i : Int) p.done))))) ?_
         refine rvc_nil ?_
         refine Awp.cond (b := (!(firstSN (Search.mk s.l (mSet kPoint p true s.been) (Sl.mk true [])) (i : Int) p.done))) rfl (fun h27 => ?_) (fun h27 => ?_)
         ·
          replace hR := of_true h27 hR
          refine Awp.exit ?_
          refine Awp.regionP C ?_
          refine rvP C (.pv (.lit (.int .i64 (IntKind.i64.wrap ((i : Int) + 1))))) ?_
          refine rvP C (.pv (.lit (.int .i64 (IntKind.i64.wrap ((i : Int) + 1))))) ?_
          refine rvc_nil ?_
          refine ⟨h21, .inl ⟨(), ?_, ?_⟩⟩
          · exact hR
          · exact ⟨fun b => b, WeakerR.ofLI (I := [0, 1]) (Ks := [0, 1, 3]) hI ⟨⟨rfl, rfl⟩, ⟨rfl, rfl⟩, ⟨rfl, rfl⟩, ⟨rfl, rfl⟩, ⟨lit_cast (wrap_i64 (by omega) (by omega)), rfl⟩, trivial⟩ (okH_cons rfl rfl rfl rfl (okH_map rfl rfl rfl (okH_cons rfl rfl rfl rfl (okH_nil)))) rfl rfl⟩
         ·
          replace hR := of_false h27 hR
          refine Awp.skip ?_
          refine Awp.consP C ?_
          refine rvP C (.ptr 3 0) ?_
          refine rvP C (.pv (.lit (.int .u64 p.done))) ?_
          refine rvP C (.pv (.lit (.int .i64 (i : Int)))) ?_
          refine rvc_un (rexec_call hP C rfl rfl rfl (mWith_calls p.done (i : Int)) ?_)
          refine rvP C (.ptr 3 1) ?_
          refine rvP C (.pv (.lit (.string p.value))) ?_
          refine rvP C (.agg [.pv (.lit (.int .u64 (mWith p.done (i : Int)))), .pv (.lit (.string p.value))]) ?_
          refine rvc_un (rexec_prim C (δ := { v := .ptr 7 0, new := [(7, .cells [.pv (.lit (.int .u64 0)), .pv (.lit (.string ⟨#[]⟩))])] }) rfl rfl rfl rfl trivial rfl ?_)
          refine rvc_un (rexec_prim C (δ := { v := .undef, wr := [(7, some (.cells [.pv (.lit (.int .u64 (mWith p.done (i : Int)))), .pv (.lit (.string p.value))]))] }) rfl rfl rfl rfl trivial rfl ?_)
          refine rvc_nil ?_
          refine Awp.seq ?_
          refine Awp.consP C ?_
          refine rvP C (.ptr 6 0) ?_
          refine rvP C (.pv (.lit (.bool x1.write))) ?_
          refine rvc_nil ?_
          refine Awp.cond (b := x1.write) rfl (fun h28 => ?_) (fun h28 => ?_)
          ·
           replace hR := of_true h28 hR
           refine Awp.regionP C ?_
           refine rvP C (.ptr 6 1) ?_
           refine rvP C (.pv (.lit (.string x1.value))) ?_
           refine rvP C (.ptr 7 1) ?_
           refine rvc_un (rexec_prim C (δ := { v := .undef, wr := [(7, some (.cells [.pv (.lit (.int .u64 (mWith p.done (i : Int)))), .pv (.lit (.string x1.value))]))] }) rfl rfl rfl rfl trivial rfl ?_)
           refine rvc_nil ?_
           refine Awp.consP C ?_
           refine rvP C (.ptr 0 0) ?_
           refine rvP C (.ptr 0 0) ?_
           refine rvP C (.ptr 0 0) ?_
           refine rvP C (.ptr 0 2) ?_
           refine rvP C (sS (some true) (eI .i64) []) ?_
           refine rvP C (.pv (.lit (.int .i64 (i : Int)))) ?_
           refine rvc_un (rexec_buildSliceF C (eI .i64) [(i : Int)] rfl rfl rfl rfl rfl rfl rfl (by decide) rfl ?_)
           refine rvc_un (rexec_appendN C rfl rfl rfl rfl rfl rfl rfl rfl (fun _ h => by cases h) rfl (en := (eI .i64)) (D := [(i : Int)]) rfl rfl (by simp) (by have := of_decide_eq_true h20; have := ne_of_beq_false h25; first | omega | (simp <;> omega)) (by decide) (nn := [(i : Int)].length) rfl ?_)
           refine rvP C (.ptr 0 0) ?_
           refine rvP C (.ptr 0 2) ?_
           refine rvc_un (rexec_prim C (δ := { v := .undef, wr := [(0, some (.cells [sS (some s.l.nil) eOp s.l.D, .mp 1, .sl 81 0 ([(i : Int)].length) 1 false]))] }) rfl rfl rfl rfl trivial rfl ?_)
           refine rvc_nil ?_
           refine Awp.seq ?_
           refine Awp.cons C (fun _ => .writer) (by kernel_rfl) ?_
           refine rvP C (.ptr 0 0) ?_
           refine rvP C (.agg [.pv (.lit (.int .u64 (mWith p.done (i : Int)))), .pv (.lit (.string x1.value))]) ?_
           obtain ⟨r4, hq_r4⟩ : ∃ q_, q_ = (fromO 65 (Search.mk s.l (mSet kPoint p true s.been) (Sl.mk false [(i : Int)])) (Point.mk (mWith p.done (i : Int)) x1.value)) := ⟨_, rfl⟩
           have hc_r4 := (fromO_calls 65 (Search.mk s.l (mSet kPoint p true s.been) (Sl.mk false [(i : Int)])) (Point.mk (mWith p.done (i : Int)) x1.value) hl64 (with_okD hd (by omega)) (by have h_ := mu_le s.l.D (mWith p.done (i : Int)); show (_ : List Int).length + mu s.l.D (mWith p.done (i : Int)) ≤ 1000000; first | (rw [List.length_append, List.length_singleton]; omega) | (show 1 + _ ≤ _; omega)) (by have h_ := mu_le s.l.D (mWith p.done (i : Int)); show mu s.l.D (mWith p.done (i : Int)) < 65; omega))
           first | rw [← hq_r4] at hR hc_r4 | (unfold fromN at hR; rw [← hq_r4] at hR hc_r4) | (unfold fromN_l0 at hR; rw [← hq_r4] at hR hc_r4)
           have hf0_r4 := fromO_row 65 (Search.mk s.l (mSet kPoint p true s.been) (Sl.mk false [(i : Int)])) (Point.mk (mWith p.done (i : Int)) x1.value)
           rw [← hq_r4] at hf0_r4
           refine rvc_un (rexec_callObj hP C (fun b => bif b == 0 then 0 else bif b == 1 then 1 else bif b == 2 then 81 else b) [(86, 3)] rfl rfl rfl hc_r4 rfl rfl ⟨rfl, rfl, trivial⟩ (of_decide_eq_true rfl) rfl (of_decide_eq_true rfl) (of_decide_eq_true rfl) (allB_cons rfl allB_nil) (allB_cons rfl allB_nil) (allB_cons rfl (allB_cons rfl allB_nil)) ?_ rfl (allB_cons rfl (allB_cons rfl allB_nil)))
           refine rvc_nil ?_
           refine Awp.cond (b := r4.2) rfl (fun h29 => ?_) (fun h29 => ?_)
           ·
            replace hR := of_true h29 hR
            refine Awp.consP C ?_
            refine rvP C (.pv (.lit (.bool true))) ?_
            refine rvc_nil ?_
            refine Awp.freezeW 86 (encL (eI .i64) r4.1.row.D) ?_ [(4, .pv (.lit (.bool true)))] [(0, .cells [sS (some s.l.nil) eOp s.l.D, .mp 1, sS (some false) (eI .i64) r4.1.row.D]), (1, mapE kPoint vBool.enc r4.1.been), (3, .cells [.pv (.lit (.int .u64 p.done)), .pv (.lit (.string p.value))]), (6, .cells [.pv (.lit (.bool x1.write)), .pv (.lit (.string x1.value)), .pv (.lit (.int .i64 x1.ver)), .pv (.lit (.int .i64 x1.began)), .pv (.lit (.int .i64 x1.ended))]), (7, .cells [.pv (.lit (.int .u64 (mWith p.done (i : Int)))), .pv (.lit (.string x1.value))])] ?_ ?_ ?_
            · rfl
            · exact ⟨⟨_, rfl, .inl (.inl rfl)⟩, trivial⟩
            · exact ⟨⟨(by show (0 : Nat) ≠ 86; decide), .inr ⟨_, _, rfl, rfl, ⟨.inl rfl, .inl rfl, .inr ⟨_, _, _, rfl, rfl⟩, trivial⟩⟩⟩, ⟨(by show (1 : Nat) ≠ 86; decide), .inl rfl⟩, ⟨(by show (3 : Nat) ≠ 86; decide), .inl rfl⟩, ⟨(by show (6 : Nat) ≠ 86; decide), .inl rfl⟩, ⟨(by show (7 : Nat) ≠ 86; decide), .inl rfl⟩, trivial⟩
            refine Awp.ret ?_
            subst hR
            exact ⟨.inl rfl, rfl, rfl, ⟨rfl, trivial⟩⟩
           ·
            replace hR := of_false h29 hR
            refine Awp.skip ?_
            refine Awp.regionP C ?_
            refine rvP C (.ptr 0 0) ?_
            refine rvP C (.ptr 0 0) ?_
            refine rvP C (.ptr 0 0) ?_
            refine rvP C (.ptr 0 2) ?_
            refine rvP C (.sl 86 0 r4.1.row.D.length 1 false) ?_
            refine rvP C (.ptr 0 0) ?_
            refine rvP C (.ptr 0 0) ?_
            refine rvP C (.ptr 0 2) ?_
            refine rvP C (.sl 86 0 r4.1.row.D.length 1 false) ?_
            refine rvP C (.pv (.lit (.int .i64 (r4.1.row.D.length : Int)))) ?_
            refine rvP C (.pv (.lit (.int .i64 (IntKind.i64.wrap ((r4.1.row.D.length : Int) - 1))))) ?_
            refine rvc_un (rexec_cutOwn C ((r4.1.row.D.dropLast).length) rfl rfl rfl rfl rfl rfl rfl ⟨(by have h_ : 1 ≤ r4.1.row.D.length ∧ r4.1.row.D.length ≤ 9000000000000000000 := (by (first | have h_ := hf0_r (by assumption) | have h_ := hf0_r1 (by assumption) | have h_ := hf0_r2 (by assumption) | have h_ := hf0_r3 (by assumption) | have h_ := hf0_r4 (by assumption) | have h_ := hf0_r5 (by assumption) | have h_ := hf0_r6 (by assumption) | have h_ := hf0_r7 (by assumption) | have h_ := hf0_r8 (by assumption) | have h_ := hf0_r9 (by assumption) | have h_ := hf0_r10 (by assumption) | have h_ := hf0_r11 (by assumption) | have h_ := hf0_r12 (by assumption) | have h_ := hf0_r13 (by assumption) | have h_ := hf0_r14 (by assumption) | have h_ := hf0_r15 (by assumption)); simp at h_; omega); rw [wrap_i64 (by omega) (by omega)]; omega), (by have h_ : 1 ≤ r4.1.row.D.length ∧ r4.1.row.D.length ≤ 9000000000000000000 := (by (first | have h_ := hf0_r (by assumption) | have h_ := hf0_r1 (by assumption) | have h_ := hf0_r2 (by assumption) | have h_ := hf0_r3 (by assumption) | have h_ := hf0_r4 (by assumption) | have h_ := hf0_r5 (by assumption) | have h_ := hf0_r6 (by assumption) | have h_ := hf0_r7 (by assumption) | have h_ := hf0_r8 (by assumption) | have h_ := hf0_r9 (by assumption) | have h_ := hf0_r10 (by assumption) | have h_ := hf0_r11 (by assumption) | have h_ := hf0_r12 (by assumption) | have h_ := hf0_r13 (by assumption) | have h_ := hf0_r14 (by assumption) | have h_ := hf0_r15 (by assumption)); simp at h_; omega); rw [wrap_i64 (by omega) (by omega)]; omega)⟩ (by have h_ : 1 ≤ r4.1.row.D.length ∧ r4.1.row.D.length ≤ 9000000000000000000 := (by (first | have h_ := hf0_r (by assumption) | have h_ := hf0_r1 (by assumption) | have h_ := hf0_r2 (by assumption) | have h_ := hf0_r3 (by assumption) | have h_ := hf0_r4 (by assumption) | have h_ := hf0_r5 (by assumption) | have h_ := hf0_r6 (by assumption) | have h_ := hf0_r7 (by assumption) | have h_ := hf0_r8 (by assumption) | have h_ := hf0_r9 (by assumption) | have h_ := hf0_r10 (by assumption) | have h_ := hf0_r11 (by assumption) | have h_ := hf0_r12 (by assumption) | have h_ := hf0_r13 (by assumption) | have h_ := hf0_r14 (by assumption) | have h_ := hf0_r15 (by assumption)); simp at h_; omega); rw [wrap_i64 (by omega) (by omega)]; rw [List.length_dropLast]; omega) ?_)
            refine rvP C (.ptr 0 0) ?_
            refine rvP C (.ptr 0 2) ?_
            refine rvc_un (rexec_prim C (δ := { v := .undef, wr := [(0, some (.cells [sS (some s.l.nil) eOp s.l.D, .mp 1, .sl 86 0 ((r4.1.row.D.dropLast).length) 1 false]))] }) rfl rfl rfl rfl trivial rfl ?_)
            refine rvc_nil ?_
            refine Awp.cutB 86 ((r4.1.row.D.length - 1) * (eI .i64).sz) _ rfl (encC (eI .i64) (r4.1.row.D.dropLast)) (encC_dropLast _) ?_
            refine Awp.regionP C ?_
            refine rvP C (.pv (.lit (.int .i64 (IntKind.i64.wrap ((i : Int) + 1))))) ?_
            refine rvP C (.pv (.lit (.int .i64 (IntKind.i64.wrap ((i : Int) + 1))))) ?_
            refine rvc_nil ?_
            refine ⟨h21, .inr ⟨((r4.1.row.D.dropLast), r4.1.been), ?_, ?_⟩⟩
            · exact ⟨hR, (by first | rfl | omega | ((first | have h_ := hf0_r (by assumption) | have h_ := hf0_r1 (by assumption) | have h_ := hf0_r2 (by assumption) | have h_ := hf0_r3 (by assumption) | have h_ := hf0_r4 (by assumption) | have h_ := hf0_r5 (by assumption) | have h_ := hf0_r6 (by assumption) | have h_ := hf0_r7 (by assumption) | have h_ := hf0_r8 (by assumption) | have h_ := hf0_r9 (by assumption) | have h_ := hf0_r10 (by assumption) | have h_ := hf0_r11 (by assumption) | have h_ := hf0_r12 (by assumption) | have h_ := hf0_r13 (by assumption) | have h_ := hf0_r14 (by assumption) | have h_ := hf0_r15 (by assumption)); simp at h_; simp; omega))⟩
            · exact ⟨fun b => bif b == 900 then 86 else (fun b => b) b, WeakerR.ofLI (I := [0, 1]) (Ks := [0, 1, 3, 900]) hI ⟨⟨rfl, rfl⟩, ⟨rfl, rfl⟩, ⟨rfl, rfl⟩, ⟨rfl, rfl⟩, ⟨lit_cast (wrap_i64 (by omega) (by omega)), rfl⟩, trivial⟩ (okH_cons rfl rfl rfl rfl (okH_map rfl rfl rfl (okH_cons rfl rfl rfl rfl (okH_list rfl rfl rfl (okH_nil))))) rfl rfl⟩
          ·
           replace hR := of_false h28 hR
           refine Awp.skip ?_
           refine Awp.consP C ?_
           refine rvP C (.ptr 0 0) ?_
           refine rvP C (.ptr 0 0) ?_
           refine rvP C (.ptr 0 0) ?_
           refine rvP C (.ptr 0 2) ?_
           refine rvP C (sS (some true) (eI .i64) []) ?_
           refine rvP C (.pv (.lit (.int .i64 (i : Int)))) ?_
           refine rvc_un (rexec_buildSliceF C (eI .i64) [(i : Int)] rfl rfl rfl rfl rfl rfl rfl (by decide) rfl ?_)
           refine rvc_un (rexec_appendN C rfl rfl rfl rfl rfl rfl rfl rfl (fun _ h => by cases h) rfl (en := (eI .i64)) (D := [(i : Int)]) rfl rfl (by simp) (by have := of_decide_eq_true h20; have := ne_of_beq_false h25; first | omega | (simp <;> omega)) (by decide) (nn := [(i : Int)].length) rfl ?_)
           refine rvP C (.ptr 0 0) ?_
           refine rvP C (.ptr 0 2) ?_
           refine rvc_un (rexec_prim C (δ := { v := .undef, wr := [(0, some (.cells [sS (some s.l.nil) eOp s.l.D, .mp 1, .sl 81 0 ([(i : Int)].length) 1 false]))] }) rfl rfl rfl rfl trivial rfl ?_)
           refine rvc_nil ?_
           refine Awp.seq ?_
           refine Awp.cons C (fun _ => .writer) (by kernel_rfl) ?_
           refine rvP C (.ptr 0 0) ?_
           refine rvP C (.agg [.pv (.lit (.int .u64 (mWith p.done (i : Int)))), .pv (.lit (.string p.value))]) ?_
           obtain ⟨r5, hq_r5⟩ : ∃ q_, q_ = (fromO 65 (Search.mk s.l (mSet kPoint p true s.been) (Sl.mk false [(i : Int)])) (Point.mk (mWith p.done (i : Int)) p.value)) := ⟨_, rfl⟩
           have hc_r5 := (fromO_calls 65 (Search.mk s.l (mSet kPoint p true s.been) (Sl.mk false [(i : Int)])) (Point.mk (mWith p.done (i : Int)) p.value) hl64 (with_okD hd (by omega)) (by have h_ := mu_le s.l.D (mWith p.done (i : Int)); show (_ : List Int).length + mu s.l.D (mWith p.done (i : Int)) ≤ 1000000; first | (rw [List.length_append, List.length_singleton]; omega) | (show 1 + _ ≤ _; omega)) (by have h_ := mu_le s.l.D (mWith p.done (i : Int)); show mu s.l.D (mWith p.done (i : Int)) < 65; omega))
           first | rw [← hq_r5] at hR hc_r5 | (unfold fromN at hR; rw [← hq_r5] at hR hc_r5) | (unfold fromN_l0 at hR; rw [← hq_r5] at hR hc_r5)
           have hf0_r5 := fromO_row 65 (Search.mk s.l (mSet kPoint p true s.been) (Sl.mk false [(i : Int)])) (Point.mk (mWith p.done (i : Int)) p.value)
           rw [← hq_r5] at hf0_r5
           refine rvc_un (rexec_callObj hP C (fun b => bif b == 0 then 0 else bif b == 1 then 1 else bif b == 2 then 81 else b) [(86, 3)] rfl rfl rfl hc_r5 rfl rfl ⟨rfl, rfl, trivial⟩ (of_decide_eq_true rfl) rfl (of_decide_eq_true rfl) (of_decide_eq_true rfl) (allB_cons rfl allB_nil) (allB_cons rfl allB_nil) (allB_cons rfl (allB_cons rfl allB_nil)) ?_ rfl (allB_cons rfl (allB_cons rfl allB_nil)))
           refine rvc_nil ?_
           refine Awp.cond (b := r5.2) rfl (fun h30 => ?_) (fun h30 => ?_)
           ·
            replace hR := of_true h30 hR
            refine Awp.consP C ?_
            refine rvP C (.pv (.lit (.bool true))) ?_
            refine rvc_nil ?_
            refine Awp.freezeW 86 (encL (eI .i64) r5.1.row.D) ?_ [(4, .pv (.lit (.bool true)))] [(0, .cells [sS (some s.l.nil) eOp s.l.D, .mp 1, sS (some false) (eI .i64) r5.1.row.D]), (1, mapE kPoint vBool.enc r5.1.been), (3, .cells [.pv (.lit (.int .u64 p.done)), .pv (.lit (.string p.value))]), (6, .cells [.pv (.lit (.bool x1.write)), .pv (.lit (.string x1.value)), .pv (.lit (.int .i64 x1.ver)), .pv (.lit (.int .i64 x1.began)), .pv (.lit (.int .i64 x1.ended))]), (7, .cells [.pv (.lit (.int .u64 (mWith p.done (i : Int)))), .pv (.lit (.string p.value))])] ?_ ?_ ?_
            · rfl
            · exact ⟨⟨_, rfl, .inl (.inl rfl)⟩, trivial⟩
            · exact ⟨⟨(by show (0 : Nat) ≠ 86; decide), .inr ⟨_, _, rfl, rfl, ⟨.inl rfl, .inl rfl, .inr ⟨_, _, _, rfl, rfl⟩, trivial⟩⟩⟩, ⟨(by show (1 : Nat) ≠ 86; decide), .inl rfl⟩, ⟨(by show (3 : Nat) ≠ 86; decide), .inl rfl⟩, ⟨(by show (6 : Nat) ≠ 86; decide), .inl rfl⟩, ⟨(by show (7 : Nat) ≠ 86; decide), .inl rfl⟩, trivial⟩
            refine Awp.ret ?_
            subst hR
            exact ⟨.inl rfl, rfl, rfl, ⟨rfl, trivial⟩⟩
           ·
            replace hR := of_false h30 hR
            refine Awp.skip ?_
            refine Awp.regionP C ?_
            refine rvP C (.ptr 0 0) ?_
            refine rvP C (.ptr 0 0) ?_
            refine rvP C (.ptr 0 0) ?_
            refine rvP C (.ptr 0 2) ?_
            refine rvP C (.sl 86 0 r5.1.row.D.length 1 false) ?_
            refine rvP C (.ptr 0 0) ?_
            refine rvP C (.ptr 0 0) ?_
            refine rvP C (.ptr 0 2) ?_
            refine rvP C (.sl 86 0 r5.1.row.D.length 1 false) ?_
            refine rvP C (.pv (.lit (.int .i64 (r5.1.row.D.length : Int)))) ?_
            refine rvP C (.pv (.lit (.int .i64 (IntKind.i64.wrap ((r5.1.row.D.length : Int) - 1))))) ?_
            refine rvc_un (rexec_cutOwn C ((r5.1.row.D.dropLast).length) rfl rfl rfl rfl rfl rfl rfl ⟨(by have h_ : 1 ≤ r5.1.row.D.length ∧ r5.1.row.D.length ≤ 9000000000000000000 := (by (first | have h_ := hf0_r (by assumption) | have h_ := hf0_r1 (by assumption) | have h_ := hf0_r2 (by assumption) | have h_ := hf0_r3 (by assumption) | have h_ := hf0_r4 (by assumption) | have h_ := hf0_r5 (by assumption) | have h_ := hf0_r6 (by assumption) | have h_ := hf0_r7 (by assumption) | have h_ := hf0_r8 (by assumption) | have h_ := hf0_r9 (by assumption) | have h_ := hf0_r10 (by assumption) | have h_ := hf0_r11 (by assumption) | have h_ := hf0_r12 (by assumption) | have h_ := hf0_r13 (by assumption) | have h_ := hf0_r14 (by assumption) | have h_ := hf0_r15 (by assumption)); simp at h_; omega); rw [wrap_i64 (by omega) (by omega)]; omega), (by have h_ : 1 ≤ r5.1.row.D.length ∧ r5.1.row.D.length ≤ 9000000000000000000 := (by (first | have h_ := hf0_r (by assumption) | have h_ := hf0_r1 (by assumption) | have h_ := hf0_r2 (by assumption) | have h_ := hf0_r3 (by assumption) | have h_ := hf0_r4 (by assumption) | have h_ := hf0_r5 (by assumption) | have h_ := hf0_r6 (by assumption) | have h_ := hf0_r7 (by assumption) | have h_ := hf0_r8 (by assumption) | have h_ := hf0_r9 (by assumption) | have h_ := hf0_r10 (by assumption) | have h_ := hf0_r11 (by assumption) | have h_ := hf0_r12 (by assumption) | have h_ := hf0_r13 (by assumption) | have h_ := hf0_r14 (by assumption) | have h_ := hf0_r15 (by assumption)); simp at h_; omega); rw [wrap_i64 (by omega) (by omega)]; omega)⟩ (by have h_ : 1 ≤ r5.1.row.D.length ∧ r5.1.row.D.length ≤ 9000000000000000000 := (by (first | have h_ := hf0_r (by assumption) | have h_ := hf0_r1 (by assumption) | have h_ := hf0_r2 (by assumption) | have h_ := hf0_r3 (by assumption) | have h_ := hf0_r4 (by assumption) | have h_ := hf0_r5 (by assumption) | have h_ := hf0_r6 (by assumption) | have h_ := hf0_r7 (by assumption) | have h_ := hf0_r8 (by assumption) | have h_ := hf0_r9 (by assumption) | have h_ := hf0_r10 (by assumption) | have h_ := hf0_r11 (by assumption) | have h_ := hf0_r12 (by assumption) | have h_ := hf0_r13 (by assumption) | have h_ := hf0_r14 (by assumption) | have h_ := hf0_r15 (by assumption)); simp at h_; omega); rw [wrap_i64 (by omega) (by omega)]; rw [List.length_dropLast]; omega) ?_)
            refine rvP C (.ptr 0 0) ?_
            refine rvP C (.ptr 0 2) ?_
            refine rvc_un (rexec_prim C (δ := { v := .undef, wr := [(0, some (.cells [sS (some s.l.nil) eOp s.l.D, .mp 1, .sl 86 0 ((r5.1.row.D.dropLast).length) 1 false]))] }) rfl rfl rfl rfl trivial rfl ?_)
            refine rvc_nil ?_
            refine Awp.cutB 86 ((r5.1.row.D.length - 1) * (eI .i64).sz) _ rfl (encC (eI .i64) (r5.1.row.D.dropLast)) (encC_dropLast _) ?_
            refine Awp.regionP C ?_
            refine rvP C (.pv (.lit (.int .i64 (IntKind.i64.wrap ((i : Int) + 1))))) ?_
            refine rvP C (.pv (.lit (.int .i64 (IntKind.i64.wrap ((i : Int) + 1))))) ?_
            refine rvc_nil ?_
            refine ⟨h21, .inr ⟨((r5.1.row.D.dropLast), r5.1.been), ?_, ?_⟩⟩
            · exact ⟨hR, (by first | rfl | omega | ((first | have h_ := hf0_r (by assumption) | have h_ := hf0_r1 (by assumption) | have h_ := hf0_r2 (by assumption) | have h_ := hf0_r3 (by assumption) | have h_ := hf0_r4 (by assumption) | have h_ := hf0_r5 (by assumption) | have h_ := hf0_r6 (by assumption) | have h_ := hf0_r7 (by assumption) | have h_ := hf0_r8 (by assumption) | have h_ := hf0_r9 (by assumption) | have h_ := hf0_r10 (by assumption) | have h_ := hf0_r11 (by assumption) | have h_ := hf0_r12 (by assumption) | have h_ := hf0_r13 (by assumption) | have h_ := hf0_r14 (by assumption) | have h_ := hf0_r15 (by assumption)); simp at h_; simp; omega))⟩
            · exact ⟨fun b => bif b == 900 then 86 else (fun b => b) b, WeakerR.ofLI (I := [0, 1]) (Ks := [0, 1, 3, 900]) hI ⟨⟨rfl, rfl⟩, ⟨rfl, rfl⟩, ⟨rfl, rfl⟩, ⟨rfl, rfl⟩, ⟨lit_cast (wrap_i64 (by omega) (by omega)), rfl⟩, trivial⟩ (okH_cons rfl rfl rfl rfl (okH_map rfl rfl rfl (okH_cons rfl rfl rfl rfl (okH_list rfl rfl rfl (okH_nil))))) rfl rfl⟩
      ·
       replace hR := of_false h24 hR
       refine rvS ?_
       refine rvS ?_
       refine rvS ?_
       refine rvS ?_
       refine rvc_shutU rfl rfl rfl ?_
       refine rvc_shutU rfl rfl rfl ?_
       refine rvc_shutU rfl rfl rfl ?_
       refine rvc_shutU rfl rfl rfl ?_
       refine rvc_shutU rfl rfl rfl ?_
       refine rvS ?_
       refine rvO C (.pv (.lit (.bool false))) ?_
       refine rvP C (.pv (.lit (.bool false))) ?_
       refine rvP C (.pv (.lit (.bool false))) ?_
       refine rvO C (.ptr 0 0) ?_
       refine rvO C (.pv (.lit (.int .i64 (i : Int)))) ?_
       refine rvO C (.ptr 3 0) ?_
       refine rvO C (.pv (.lit (.int .u64 p.done))) ?_
       refine rvc_open rfl rfl rfl (rexec_callObj hP C (fun b => bif b == 0 then 0 else bif b == 1 then 1 else b) [] rfl rfl rfl (firstSN_calls (Search.mk s.l (mSet kPoint p true s.been) (Sl.mk true [])) (i : Int) p.done ⟨by omega, by show (i : Int) < (s.l.D.length : Int); omega⟩ hl1) rfl rfl ⟨rfl, trivial⟩ (of_decide_eq_true rfl) rfl (of_decide_eq_true rfl) (of_decide_eq_true rfl) allB_nil allB_nil (allB_cons rfl allB_nil) ?_ rfl (allB_cons rfl allB_nil))
       refine rvO C (.pv (.lit (.bool (!(firstSN (Search.mk s.l (mSet kPoint p true s.been) (Sl.mk true [])) (i : Int) p.done))))) ?_
       refine rvP C (.pv (.lit (.bool (!(firstSN (Search.mk s.l (mSet kPoint p true s.been) (Sl.mk true [])) (i : Int) p.done))))) ?_
       refine rvc_nil ?_
       refine Awp.cond (b := (!(firstSN (Search.mk s.l (mSet kPoint p true s.been) (Sl.mk true [])) (i : Int) p.done))) rfl (fun h31 => ?_) (fun h31 => ?_)
       ·
        replace hR := of_true h31 hR
        refine Awp.exit ?_
        refine Awp.regionP C ?_
        refine rvP C (.pv (.lit (.int .i64 (IntKind.i64.wrap ((i : Int) + 1))))) ?_
        refine rvP C (.pv (.lit (.int .i64 (IntKind.i64.wrap ((i : Int) + 1))))) ?_
        refine rvc_nil ?_
        refine ⟨h21, .inl ⟨(), ?_, ?_⟩⟩
        · exact hR
        · exact ⟨fun b => b, WeakerR.ofLI (I := [0, 1]) (Ks := [0, 1, 3]) hI ⟨⟨rfl, rfl⟩, ⟨rfl, rfl⟩, ⟨rfl, rfl⟩, ⟨rfl, rfl⟩, ⟨lit_cast (wrap_i64 (by omega) (by omega)), rfl⟩, trivial⟩ (okH_cons rfl rfl rfl rfl (okH_map rfl rfl rfl (okH_cons rfl rfl rfl rfl (okH_nil)))) rfl rfl⟩
       ·
        replace hR := of_false h31 hR
        refine Awp.skip ?_
        refine Awp.consP C ?_
        refine rvP C (.ptr 3 0) ?_
        refine rvP C (.pv (.lit (.int .u64 p.done))) ?_
        refine rvP C (.pv (.lit (.int .i64 (i : Int)))) ?_
        refine rvc_un (rexec_call hP C rfl rfl rfl (mWith_calls p.done (i : Int)) ?_)
        refine rvP C (.ptr 3 1) ?_
        refine rvP C (.pv (.lit (.string p.value))) ?_
        refine rvP C (.agg [.pv (.lit (.int .u64 (mWith p.done (i : Int)))), .pv (.lit (.string p.value))]) ?_
        refine rvc_un (rexec_prim C (δ := { v := .ptr 7 0, new := [(7, .cells [.pv (.lit (.int .u64 0)), .pv (.lit (.string ⟨#[]⟩))])] }) rfl rfl rfl rfl trivial rfl ?_)
        refine rvc_un (rexec_prim C (δ := { v := .undef, wr := [(7, some (.cells [.pv (.lit (.int .u64 (mWith p.done (i : Int)))), .pv (.lit (.string p.value))]))] }) rfl rfl rfl rfl trivial rfl ?_)
        refine rvc_nil ?_
        refine Awp.seq ?_
        refine Awp.consP C ?_
        refine rvP C (.ptr 6 0) ?_
        refine rvP C (.pv (.lit (.bool x1.write))) ?_
        refine rvc_nil ?_
        refine Awp.cond (b := x1.write) rfl (fun h32 => ?_) (fun h32 => ?_)
        ·
         replace hR := of_true h32 hR
         refine Awp.regionP C ?_
         refine rvP C (.ptr 6 1) ?_
         refine rvP C (.pv (.lit (.string x1.value))) ?_
         refine rvP C (.ptr 7 1) ?_
         refine rvc_un (rexec_prim C (δ := { v := .undef, wr := [(7, some (.cells [.pv (.lit (.int .u64 (mWith p.done (i : Int)))), .pv (.lit (.string x1.value))]))] }) rfl rfl rfl rfl trivial rfl ?_)
         refine rvc_nil ?_
         refine Awp.consP C ?_
         refine rvP C (.ptr 0 0) ?_
         refine rvP C (.ptr 0 0) ?_
         refine rvP C (.ptr 0 0) ?_
         refine rvP C (.ptr 0 2) ?_
         refine rvP C (sS (some true) (eI .i64) []) ?_
         refine rvP C (.pv (.lit (.int .i64 (i : Int)))) ?_
         refine rvc_un (rexec_buildSliceF C (eI .i64) [(i : Int)] rfl rfl rfl rfl rfl rfl rfl (by decide) rfl ?_)
         refine rvc_un (rexec_appendN C rfl rfl rfl rfl rfl rfl rfl rfl (fun _ h => by cases h) rfl (en := (eI .i64)) (D := [(i : Int)]) rfl rfl (by simp) (by have := of_decide_eq_true h20; first | omega | (simp <;> omega)) (by decide) (nn := [(i : Int)].length) rfl ?_)
         refine rvP C (.ptr 0 0) ?_
         refine rvP C (.ptr 0 2) ?_
         refine rvc_un (rexec_prim C (δ := { v := .undef, wr := [(0, some (.cells [sS (some s.l.nil) eOp s.l.D, .mp 1, .sl 81 0 ([(i : Int)].length) 1 false]))] }) rfl rfl rfl rfl trivial rfl ?_)
         refine rvc_nil ?_
         refine Awp.seq ?_
         refine Awp.cons C (fun _ => .writer) (by kernel_rfl) ?_
         refine rvP C (.ptr 0 0) ?_
         refine rvP C (.agg [.pv (.lit (.int .u64 (mWith p.done (i : Int)))), .pv (.lit (.string x1.value))]) ?_
         obtain ⟨r6, hq_r6⟩ : ∃ q_, q_ = (fromO 65 (Search.mk s.l (mSet kPoint p true s.been) (Sl.mk false [(i : Int)])) (Point.mk (mWith p.done (i : Int)) x1.value)) := ⟨_, rfl⟩
         have hc_r6 := (fromO_calls 65 (Search.mk s.l (mSet kPoint p true s.been) (Sl.mk false [(i : Int)])) (Point.mk (mWith p.done (i : Int)) x1.value) hl64 (with_okD hd (by omega)) (by have h_ := mu_le s.l.D (mWith p.done (i : Int)); show (_ : List Int).length + mu s.l.D (mWith p.done (i : Int)) ≤ 1000000; first | (rw [List.length_append, List.length_singleton]; omega) | (show 1 + _ ≤ _; omega)) (by have h_ := mu_le s.l.D (mWith p.done (i : Int)); show mu s.l.D (mWith p.done (i : Int)) < 65; omega))
         first | rw [← hq_r6] at hR hc_r6 | (unfold fromN at hR; rw [← hq_r6] at hR hc_r6) | (unfold fromN_l0 at hR; rw [← hq_r6] at hR hc_r6)
         have hf0_r6 := fromO_row 65 (Search.mk s.l (mSet kPoint p true s.been) (Sl.mk false [(i : Int)])) (Point.mk (mWith p.done (i : Int)) x1.value)
         rw [← hq_r6] at hf0_r6
         refine rvc_un (rexec_callObj hP C (fun b => bif b == 0 then 0 else bif b == 1 then 1 else bif b == 2 then 81 else b) [(86, 3)] rfl rfl rfl hc_r6 rfl rfl ⟨rfl, rfl, trivial⟩ (of_decide_eq_true rfl) rfl (of_decide_eq_true rfl) (of_decide_eq_true rfl) (allB_cons rfl allB_nil) (allB_cons rfl allB_nil) (allB_cons rfl (allB_cons rfl allB_nil)) ?_ rfl (allB_cons rfl (allB_cons rfl allB_nil)))
         refine rvc_nil ?_
         refine Awp.cond (b := r6.2) rfl (fun h33 => ?_) (fun h33 => ?_)
         ·
          replace hR := of_true h33 hR
          refine Awp.consP C ?_
          refine rvP C (.pv (.lit (.bool true))) ?_
          refine rvc_nil ?_
          refine Awp.freezeW 86 (encL (eI .i64) r6.1.row.D) ?_ [(4, .pv (.lit (.bool true)))] [(0, .cells [sS (some s.l.nil) eOp s.l.D, .mp 1, sS (some false) (eI .i64) r6.1.row.D]), (1, mapE kPoint vBool.enc r6.1.been), (3, .cells [.pv (.lit (.int .u64 p.done)), .pv (.lit (.string p.value))]), (6, .cells [.pv (.lit (.bool x1.write)), .pv (.lit (.string x1.value)), .pv (.lit (.int .i64 x1.ver)), .pv (.lit (.int .i64 x1.began)), .pv (.lit (.int .i64 x1.ended))]), (7, .cells [.pv (.lit (.int .u64 (mWith p.done (i : Int)))), .pv (.lit (.string x1.value))])] ?_ ?_ ?_
          · rfl
          · exact ⟨⟨_, rfl, .inl (.inl rfl)⟩, trivial⟩
          · exact ⟨⟨(by show (0 : Nat) ≠ 86; decide), .inr ⟨_, _, rfl, rfl, ⟨.inl rfl, .inl rfl, .inr ⟨_, _, _, rfl, rfl⟩, trivial⟩⟩⟩, ⟨(by show (1 : Nat) ≠ 86; decide), .inl rfl⟩, ⟨(by show (3 : Nat) ≠ 86; decide), .inl rfl⟩, ⟨(by show (6 : Nat) ≠ 86; decide), .inl rfl⟩, ⟨(by show (7 : Nat) ≠ 86; decide), .inl rfl⟩, trivial⟩
          refine Awp.ret ?_
          subst hR
          exact ⟨.inl rfl, rfl, rfl, ⟨rfl, trivial⟩⟩
         ·
          replace hR := of_false h33 hR
          refine Awp.skip ?_
          refine Awp.regionP C ?_
          refine rvP C (.ptr 0 0) ?_
          refine rvP C (.ptr 0 0) ?_
          refine rvP C (.ptr 0 0) ?_
          refine rvP C (.ptr 0 2) ?_
          refine rvP C (.sl 86 0 r6.1.row.D.length 1 false) ?_
          refine rvP C (.ptr 0 0) ?_
          refine rvP C (.ptr 0 0) ?_
          refine rvP C (.ptr 0 2) ?_
          refine rvP C (.sl 86 0 r6.1.row.D.length 1 false) ?_
          refine rvP C (.pv (.lit (.int .i64 (r6.1.row.D.length : Int)))) ?_
          refine rvP C (.pv (.lit (.int .i64 (IntKind.i64.wrap ((r6.1.row.D.length : Int) - 1))))) ?_
          refine rvc_un (rexec_cutOwn C ((r6.1.row.D.dropLast).length) rfl rfl rfl rfl rfl rfl rfl ⟨(by have h_ : 1 ≤ r6.1.row.D.length ∧ r6.1.row.D.length ≤ 9000000000000000000 := (by (first | have h_ := hf0_r (by assumption) | have h_ := hf0_r1 (by assumption) | have h_ := hf0_r2 (by assumption) | have h_ := hf0_r3 (by assumption) | have h_ := hf0_r4 (by assumption) | have h_ := hf0_r5 (by assumption) | have h_ := hf0_r6 (by assumption) | have h_ := hf0_r7 (by assumption) | have h_ := hf0_r8 (by assumption) | have h_ := hf0_r9 (by assumption) | have h_ := hf0_r10 (by assumption) | have h_ := hf0_r11 (by assumption) | have h_ := hf0_r12 (by assumption) | have h_ := hf0_r13 (by assumption) | have h_ := hf0_r14 (by assumption) | have h_ := hf0_r15 (by assumption)); simp at h_; omega); rw [wrap_i64 (by omega) (by omega)]; omega), (by have h_ : 1 ≤ r6.1.row.D.length ∧ r6.1.row.D.length ≤ 9000000000000000000 := (by (first | have h_ := hf0_r (by assumption) | have h_ := hf0_r1 (by assumption) | have h_ := hf0_r2 (by assumption) | have h_ := hf0_r3 (by assumption) | have h_ := hf0_r4 (by assumption) | have h_ := hf0_r5 (by assumption) | have h_ := hf0_r6 (by assumption) | have h_ := hf0_r7 (by assumption) | have h_ := hf0_r8 (by assumption) | have h_ := hf0_r9 (by assumption) | have h_ := hf0_r10 (by assumption) | have h_ := hf0_r11 (by assumption) | have h_ := hf0_r12 (by assumption) | have h_ := hf0_r13 (by assumption) | have h_ := hf0_r14 (by assumption) | have h_ := hf0_r15 (by assumption)); simp at h_; omega); rw [wrap_i64 (by omega) (by omega)]; omega)⟩ (by have h_ : 1 ≤ r6.1.row.D.length ∧ r6.1.row.D.length ≤ 9000000000000000000 := (by (first | have h_ := hf0_r (by assumption) | have h_ := hf0_r1 (by assumption) | have h_ := hf0_r2 (by assumption) | have h_ := hf0_r3 (by assumption) | have h_ := hf0_r4 (by assumption) | have h_ := hf0_r5 (by assumption) | have h_ := hf0_r6 (by assumption) | have h_ := hf0_r7 (by assumption) | have h_ := hf0_r8 (by assumption) | have h_ := hf0_r9 (by assumption) | have h_ := hf0_r10 (by assumption) | have h_ := hf0_r11 (by assumption) | have h_ := hf0_r12 (by assumption) | have h_ := hf0_r13 (by assumption) | have h_ := hf0_r14 (by assumption) | have h_ := hf0_r15 (by assumption)); simp at h_; omega); rw [wrap_i64 (by omega) (by omega)]; rw [List.length_dropLast]; omega) ?_)
          refine rvP C (.ptr 0 0) ?_
          refine rvP C (.ptr 0 2) ?_
          refine rvc_un (rexec_prim C (δ := { v := .undef, wr := [(0, some (.cells [sS (some s.l.nil) eOp s.l.D, .mp 1, .sl 86 0 ((r6.1.row.D.dropLast).length) 1 false]))] }) rfl rfl rfl rfl trivial rfl ?_)
          refine rvc_nil ?_
          refine Awp.cutB 86 ((r6.1.row.D.length - 1) * (eI .i64).sz) _ rfl (encC (eI .i64) (r6.1.row.D.dropLast)) (encC_dropLast _) ?_
          refine Awp.regionP C ?_
          refine rvP C (.pv (.lit (.int .i64 (IntKind.i64.wrap ((i : Int) + 1))))) ?_
          refine rvP C (.pv (.lit (.int .i64 (IntKind.i64.wrap ((i : Int) + 1))))) ?_
          refine rvc_nil ?_
          refine ⟨h21, .inr ⟨((r6.1.row.D.dropLast), r6.1.been), ?_, ?_⟩⟩
          · exact ⟨hR, (by first | rfl | omega | ((first | have h_ := hf0_r (by assumption) | have h_ := hf0_r1 (by assumption) | have h_ := hf0_r2 (by assumption) | have h_ := hf0_r3 (by assumption) | have h_ := hf0_r4 (by assumption) | have h_ := hf0_r5 (by assumption) | have h_ := hf0_r6 (by assumption) | have h_ := hf0_r7 (by assumption) | have h_ := hf0_r8 (by assumption) | have h_ := hf0_r9 (by assumption) | have h_ := hf0_r10 (by assumption) | have h_ := hf0_r11 (by assumption) | have h_ := hf0_r12 (by assumption) | have h_ := hf0_r13 (by assumption) | have h_ := hf0_r14 (by assumption) | have h_ := hf0_r15 (by assumption)); simp at h_; simp; omega))⟩
          · exact ⟨fun b => bif b == 900 then 86 else (fun b => b) b, WeakerR.ofLI (I := [0, 1]) (Ks := [0, 1, 3, 900]) hI ⟨⟨rfl, rfl⟩, ⟨rfl, rfl⟩, ⟨rfl, rfl⟩, ⟨rfl, rfl⟩, ⟨lit_cast (wrap_i64 (by omega) (by omega)), rfl⟩, trivial⟩ (okH_cons rfl rfl rfl rfl (okH_map rfl rfl rfl (okH_cons rfl rfl rfl rfl (okH_list rfl rfl rfl (okH_nil))))) rfl rfl⟩
        ·
         replace hR := of_false h32 hR
         refine Awp.skip ?_
         refine Awp.consP C ?_
         refine rvP C (.ptr 0 0) ?_
         refine rvP C (.ptr 0 0) ?_
         refine rvP C (.ptr 0 0) ?_
         refine rvP C (.ptr 0 2) ?_
         refine rvP C (sS (some true) (eI .i64) []) ?_
         refine rvP C (.pv (.lit (.int .i64 (i : Int)))) ?_
         refine rvc_un (rexec_buildSliceF C (eI .i64) [(i : Int)] rfl rfl rfl rfl rfl rfl rfl (by decide) rfl ?_)
         refine rvc_un (rexec_appendN C rfl rfl rfl rfl rfl rfl rfl rfl (fun _ h => by cases h) rfl (en := (eI .i64)) (D := [(i : Int)]) rfl rfl (by simp) (by have := of_decide_eq_true h20; first | omega | (simp <;> omega)) (by decide) (nn := [(i : Int)].length) rfl ?_)
         refine rvP C (.ptr 0 0) ?_
         refine rvP C (.ptr 0 2) ?_
         refine rvc_un (rexec_prim C (δ := { v := .undef, wr := [(0, some (.cells [sS (some s.l.nil) eOp s.l.D, .mp 1, .sl 81 0 ([(i : Int)].length) 1 false]))] }) rfl rfl rfl rfl trivial rfl ?_)
         refine rvc_nil ?_
         refine Awp.seq ?_
         refine Awp.cons C (fun _ => .writer) (by kernel_rfl) ?_
         refine rvP C (.ptr 0 0) ?_
         refine rvP C (.agg [.pv (.lit (.int .u64 (mWith p.done (i : Int)))), .pv (.lit (.string p.value))]) ?_
         obtain ⟨r7, hq_r7⟩ : ∃ q_, q_ = (fromO 65 (Search.mk s.l (mSet kPoint p true s.been) (Sl.mk false [(i : Int)])) (Point.mk (mWith p.done (i : Int)) p.value)) := ⟨_, rfl⟩
         have hc_r7 := (fromO_calls 65 (Search.mk s.l (mSet kPoint p true s.been) (Sl.mk false [(i : Int)])) (Point.mk (mWith p.done (i : Int)) p.value) hl64 (with_okD hd (by omega)) (by have h_ := mu_le s.l.D (mWith p.done (i : Int)); show (_ : List Int).length + mu s.l.D (mWith p.done (i : Int)) ≤ 1000000; first | (rw [List.length_append, List.length_singleton]; omega) | (show 1 + _ ≤ _; omega)) (by have h_ := mu_le s.l.D (mWith p.done (i : Int)); show mu s.l.D (mWith p.done (i : Int)) < 65; omega))
         first | rw [← hq_r7] at hR hc_r7 | (unfold fromN at hR; rw [← hq_r7] at hR hc_r7) | (unfold fromN_l0 at hR; rw [← hq_r7] at hR hc_r7)
         have hf0_r7 := fromO_row 65 (Search.mk s.l (mSet kPoint p true s.been) (Sl.mk false [(i : Int)])) (Point.mk (mWith p.done (i : Int)) p.value)
         rw [← hq_r7] at hf0_r7
         refine rvc_un (rexec_callObj hP C (fun b => bif b == 0 then 0 else bif b == 1 then 1 else bif b == 2 then 81 else b) [(86, 3)] rfl rfl rfl hc_r7 rfl rfl ⟨rfl, rfl, trivial⟩ (of_decide_eq_true rfl) rfl (of_decide_eq_true rfl) (of_decide_eq_true rfl) (allB_cons rfl allB_nil) (allB_cons rfl allB_nil) (allB_cons rfl (allB_cons rfl allB_nil)) ?_ rfl (allB_cons rfl (allB_cons rfl allB_nil)))
         refine rvc_nil ?_
         refine Awp.cond (b := r7.2) rfl (fun h34 => ?_) (fun h34 => ?_)
         ·
          replace hR := of_true h34 hR
          refine Awp.consP C ?_
          refine rvP C (.pv (.lit (.bool true))) ?_
          refine rvc_nil ?_
          refine Awp.freezeW 86 (encL (eI .i64) r7.1.row.D) ?_ [(4, .pv (.lit (.bool true)))] [(0, .cells [sS (some s.l.nil) eOp s.l.D, .mp 1, sS (some false) (eI .i64) r7.1.row.D]), (1, mapE kPoint vBool.enc r7.1.been), (3, .cells [.pv (.lit (.int .u64 p.done)), .pv (.lit (.string p.value))]), (6, .cells [.pv (.lit (.bool x1.write)), .pv (.lit (.string x1.value)), .pv (.lit (.int .i64 x1.ver)), .pv (.lit (.int .i64 x1.began)), .pv (.lit (.int .i64 x1.ended))]), (7, .cells [.pv (.lit (.int .u64 (mWith p.done (i : Int)))), .pv (.lit (.string p.value))])] ?_ ?_ ?_
          · rfl
          · exact ⟨⟨_, rfl, .inl (.inl rfl)⟩, trivial⟩
          · exact ⟨⟨(by show (0 : Nat) ≠ 86; decide), .inr ⟨_, _, rfl, rfl, ⟨.inl rfl, .inl rfl, .inr ⟨_, _, _, rfl, rfl⟩, trivial⟩⟩⟩, ⟨(by show (1 : Nat) ≠ 86; decide), .inl rfl⟩, ⟨(by show (3 : Nat) ≠ 86; decide), .inl rfl⟩, ⟨(by show (6 : Nat) ≠ 86; decide), .inl rfl⟩, ⟨(by show (7 : Nat) ≠ 86; decide), .inl rfl⟩, trivial⟩
          refine Awp.ret ?_
          subst hR
          exact ⟨.inl rfl, rfl, rfl, ⟨rfl, trivial⟩⟩
         ·
          replace hR := of_false h34 hR
          refine Awp.skip ?_
          refine Awp.regionP C ?_
          refine rvP C (.ptr 0 0) ?_
          refine rvP C (.ptr 0 0) ?_
          refine rvP C (.ptr 0 0) ?_
          refine rvP C (.ptr 0 2) ?_
          refine rvP C (.sl 86 0 r7.1.row.D.length 1 false) ?_
          refine rvP C (.ptr 0 0) ?_
          refine rvP C (.ptr 0 0) ?_
          refine rvP C (.ptr 0 2) ?_
          refine rvP C (.sl 86 0 r7.1.row.D.length 1 false) ?_
          refine rvP C (.pv (.lit (.int .i64 (r7.1.row.D.length : Int)))) ?_
          refine rvP C (.pv (.lit (.int .i64 (IntKind.i64.wrap ((r7.1.row.D.length : Int) - 1))))) ?_
          refine rvc_un (rexec_cutOwn C ((r7.1.row.D.dropLast).length) rfl rfl rfl rfl rfl rfl rfl ⟨(by have h_ : 1 ≤ r7.1.row.D.length ∧ r7.1.row.D.length ≤ 9000000000000000000 := (by (first | have h_ := hf0_r (by assumption) | have h_ := hf0_r1 (by assumption) | have h_ := hf0_r2 (by assumption) | have h_ := hf0_r3 (by assumption) | have h_ := hf0_r4 (by assumption) | have h_ := hf0_r5 (by assumption) | have h_ := hf0_r6 (by assumption) | have h_ := hf0_r7 (by assumption) | have h_ := hf0_r8 (by assumption) | have h_ := hf0_r9 (by assumption) | have h_ := hf0_r10 (by assumption) | have h_ := hf0_r11 (by assumption) | have h_ := hf0_r12 (by assumption) | have h_ := hf0_r13 (by assumption) | have h_ := hf0_r14 (by assumption) | have h_ := hf0_r15 (by assumption)); simp at h_; omega); rw [wrap_i64 (by omega) (by omega)]; omega), (by have h_ : 1 ≤ r7.1.row.D.length ∧ r7.1.row.D.length ≤ 9000000000000000000 := (by (first | have h_ := hf0_r (by assumption) | have h_ := hf0_r1 (by assumption) | have h_ := hf0_r2 (by assumption) | have h_ := hf0_r3 (by assumption) | have h_ := hf0_r4 (by assumption) | have h_ := hf0_r5 (by assumption) | have h_ := hf0_r6 (by assumption) | have h_ := hf0_r7 (by assumption) | have h_ := hf0_r8 (by assumption) | have h_ := hf0_r9 (by assumption) | have h_ := hf0_r10 (by assumption) | have h_ := hf0_r11 (by assumption) | have h_ := hf0_r12 (by assumption) | have h_ := hf0_r13 (by assumption) | have h_ := hf0_r14 (by assumption) | have h_ := hf0_r15 (by assumption)); simp at h_; omega); rw [wrap_i64 (by omega) (by omega)]; omega)⟩ (by have h_ : 1 ≤ r7.1.row.D.length ∧ r7.1.row.D.length ≤ 9000000000000000000 := (by (first | have h_ := hf0_r (by assumption) | have h_ := hf0_r1 (by assumption) | have h_ := hf0_r2 (by assumption) | have h_ := hf0_r3 (by assumption) | have h_ := hf0_r4 (by assumption) | have h_ := hf0_r5 (by assumption) | have h_ := hf0_r6 (by assumption) | have h_ := hf0_r7 (by assumption) | have h_ := hf0_r8 (by assumption) | have h_ := hf0_r9 (by assumption) | have h_ := hf0_r10 (by assumption) | have h_ := hf0_r11 (by assumption) | have h_ := hf0_r12 (by assumption) | have h_ := hf0_r13 (by assumption) | have h_ := hf0_r14 (by assumption) | have h_ := hf0_r15 (by assumption)); simp at h_; omega); rw [wrap_i64 (by omega) (by omega)]; rw [List.length_dropLast]; omega) ?_)
          refine rvP C (.ptr 0 0) ?_
          refine rvP C (.ptr 0 2) ?_
          refine rvc_un (rexec_prim C (δ := { v := .undef, wr := [(0, some (.cells [sS (some s.l.nil) eOp s.l.D, .mp 1, .sl 86 0 ((r7.1.row.D.dropLast).length) 1 false]))] }) rfl rfl rfl rfl trivial rfl ?_)
          refine rvc_nil ?_
          refine Awp.cutB 86 ((r7.1.row.D.length - 1) * (eI .i64).sz) _ rfl (encC (eI .i64) (r7.1.row.D.dropLast)) (encC_dropLast _) ?_
          refine Awp.regionP C ?_
          refine rvP C (.pv (.lit (.int .i64 (IntKind.i64.wrap ((i : Int) + 1))))) ?_
          refine rvP C (.pv (.lit (.int .i64 (IntKind.i64.wrap ((i : Int) + 1))))) ?_
          refine rvc_nil ?_
          refine ⟨h21, .inr ⟨((r7.1.row.D.dropLast), r7.1.been), ?_, ?_⟩⟩
          · exact ⟨hR, (by first | rfl | omega | ((first | have h_ := hf0_r (by assumption) | have h_ := hf0_r1 (by assumption) | have h_ := hf0_r2 (by assumption) | have h_ := hf0_r3 (by assumption) | have h_ := hf0_r4 (by assumption) | have h_ := hf0_r5 (by assumption) | have h_ := hf0_r6 (by assumption) | have h_ := hf0_r7 (by assumption) | have h_ := hf0_r8 (by assumption) | have h_ := hf0_r9 (by assumption) | have h_ := hf0_r10 (by assumption) | have h_ := hf0_r11 (by assumption) | have h_ := hf0_r12 (by assumption) | have h_ := hf0_r13 (by assumption) | have h_ := hf0_r14 (by assumption) | have h_ := hf0_r15 (by assumption)); simp at h_; simp; omega))⟩
          · exact ⟨fun b => bif b == 900 then 86 else (fun b => b) b, WeakerR.ofLI (I := [0, 1]) (Ks := [0, 1, 3, 900]) hI ⟨⟨rfl, rfl⟩, ⟨rfl, rfl⟩, ⟨rfl, rfl⟩, ⟨rfl, rfl⟩, ⟨lit_cast (wrap_i64 (by omega) (by omega)), rfl⟩, trivial⟩ (okH_cons rfl rfl rfl rfl (okH_map rfl rfl rfl (okH_cons rfl rfl rfl rfl (okH_list rfl rfl rfl (okH_nil))))) rfl rfl⟩
    ·
     have h21 : ¬ i < s.l.D.length := by have := of_decide_eq_false h20; omega
     rw [drop_end h21] at hR
     refine Awp.exit ?_
     refine Awp.consP C ?_
     refine rvP C (.pv (.lit (.bool false))) ?_
     refine rvc_nil ?_
     refine Awp.ret ?_
     subst hR
     exact ⟨.inl rfl, rfl, rfl, ⟨rfl, trivial⟩⟩
   ·
    obtain ⟨vc, vc1⟩ := v
    obtain ⟨hR, hi_vc⟩ := hR
    replace hi_vc : vc.length = 0 := hi_vc
    refine Awp.consP C ?_
    refine rvP C (.pv (.lit (.bool (decide ((i : Int) < (s.l.D.length : Int)))))) ?_
    refine rvc_nil ?_
    refine Awp.seq ?_
    refine Awp.cond (b := (decide ((i : Int) < (s.l.D.length : Int)))) rfl (fun h4 => ?_) (fun h4 => ?_)
    ·
     have h5 : i < s.l.D.length := by have := of_decide_eq_true h4; omega
     obtain ⟨x, h6⟩ := getX h5
     rw [drop_at h6] at hR
     refine Awp.skip ?_
     refine Awp.seq ?_
     refine Awp.block ?_
     refine Awp.consP C ?_
     refine rvP C (.pv (.lit (.int .i64 (i : Int)))) ?_
     refine rvc_un (rexec_idxS C rfl rfl rfl rfl rfl rfl x (Int.natCast_nonneg _) h6 ?_)
     refine rvP C (.agg [.pv (.lit (.bool x.write)), .pv (.lit (.string x.value)), .pv (.lit (.int .i64 x.ver)), .pv (.lit (.int .i64 x.began)), .pv (.lit (.int .i64 x.ended))]) ?_
     refine rvc_un (rexec_prim C (δ := { v := .ptr 6 0, new := [(6, .cells [.pv (.lit (.bool false)), .pv (.lit (.string ⟨#[]⟩)), .pv (.lit (.int .i64 0)), .pv (.lit (.int .i64 0)), .pv (.lit (.int .i64 0))])] }) rfl rfl rfl rfl trivial rfl ?_)
     refine rvP C (.pv (.lit (.int .i64 (i : Int)))) ?_
     refine rvc_un (rexec_prim C (δ := { v := .undef, wr := [(6, some (.cells [.pv (.lit (.bool x.write)), .pv (.lit (.string x.value)), .pv (.lit (.int .i64 x.ver)), .pv (.lit (.int .i64 x.began)), .pv (.lit (.int .i64 x.ended))]))] }) rfl rfl rfl rfl trivial rfl ?_)
     refine rvc_nil ?_
     refine Awp.seq ?_
     refine Awp.cons C (fun _ => .writer) (by kernel_rfl) ?_
     refine rvP C (.ptr 3 0) ?_
     refine rvP C (.pv (.lit (.int .u64 p.done))) ?_
     refine rvP C (.pv (.lit (.int .i64 (i : Int)))) ?_
     refine rvc_un (rexec_call hP C rfl rfl rfl (mHas_calls p.done (i : Int)) ?_)
     refine rvP C (.pv (.lit (.bool (mHas p.done (i : Int))))) ?_
     refine rvc_case 37 (mHas p.done (i : Int)) rfl (fun h7 => ?_) (fun h7 => ?_)
     ·
      replace hR := of_true h7 hR
      refine rvS ?_
      refine rvS ?_
      refine rvS ?_
      refine rvS ?_
      refine rvc_shutU rfl rfl rfl ?_
      refine rvc_shutU rfl rfl rfl ?_
      refine rvc_shutU rfl rfl rfl ?_
      refine rvc_shutU rfl rfl rfl ?_
      refine rvc_shutU rfl rfl rfl ?_
      refine rvc_shutU rfl rfl rfl ?_
      refine rvc_shutU rfl rfl rfl ?_
      refine rvc_shutU rfl rfl rfl ?_
      refine rvc_shutU rfl rfl rfl ?_
      refine rvc_shutU rfl rfl rfl ?_
      refine rvS ?_
      refine rvP C (.pv (.lit (.bool true))) ?_
      refine rvP C (.pv (.lit (.bool true))) ?_
      refine rvS ?_
      refine rvS ?_
      refine rvS ?_
      refine rvS ?_
      refine rvS ?_
      refine rvS ?_
      refine rvP C (.pv (.lit (.bool true))) ?_
      refine rvc_nil ?_
      refine Awp.condT (b := true) rfl rfl ?_
      refine Awp.exit ?_
      refine Awp.regionP C ?_
      refine rvP C (.pv (.lit (.int .i64 (IntKind.i64.wrap ((i : Int) + 1))))) ?_
      refine rvP C (.pv (.lit (.int .i64 (IntKind.i64.wrap ((i : Int) + 1))))) ?_
      refine rvc_nil ?_
      refine ⟨h5, .inr ⟨(vc, vc1), ?_, ?_⟩⟩
      · exact ⟨hR, (by first | rfl | omega | ((first | have h_ := hf0_r (by assumption) | have h_ := hf0_r1 (by assumption) | have h_ := hf0_r2 (by assumption) | have h_ := hf0_r3 (by assumption) | have h_ := hf0_r4 (by assumption) | have h_ := hf0_r5 (by assumption) | have h_ := hf0_r6 (by assumption) | have h_ := hf0_r7 (by assumption) | have h_ := hf0_r8 (by assumption) | have h_ := hf0_r9 (by assumption) | have h_ := hf0_r10 (by assumption) | have h_ := hf0_r11 (by assumption) | have h_ := hf0_r12 (by assumption) | have h_ := hf0_r13 (by assumption) | have h_ := hf0_r14 (by assumption) | have h_ := hf0_r15 (by assumption)); simp at h_; simp; omega))⟩
      · exact ⟨fun b => b, WeakerR.ofLI (I := [0, 1]) (Ks := [0, 1, 3, 900]) hI ⟨⟨rfl, rfl⟩, ⟨rfl, rfl⟩, ⟨rfl, rfl⟩, ⟨rfl, rfl⟩, ⟨lit_cast (wrap_i64 (by omega) (by omega)), rfl⟩, trivial⟩ (okH_cons rfl rfl rfl rfl (okH_map rfl rfl rfl (okH_cons rfl rfl rfl rfl (okH_list rfl rfl rfl (okH_nil))))) rfl rfl⟩
     ·
      replace hR := of_false h7 hR
      refine rvO C (.ptr 6 0) ?_
      refine rvO C (.pv (.lit (.bool x.write))) ?_
      refine rvO C (.pv (.lit (.bool (!x.write)))) ?_
      refine rvO C (.pv (.lit (.bool (!x.write)))) ?_
      refine rvc_case 41 (!x.write) rfl (fun h8 => ?_) (fun h8 => ?_)
      ·
       replace hR := of_true h8 hR
       refine rvO C (.ptr 6 4) ?_
       refine rvO C (.pv (.lit (.int .i64 x.ended))) ?_
       refine rvO C (.pv (.lit (.bool (x.ended == 0)))) ?_
       refine rvO C (.pv (.lit (.bool (x.ended == 0)))) ?_
       refine rvc_case 45 (x.ended == 0) rfl (fun h9 => ?_) (fun h9 => ?_)
       ·
        replace hR := of_true h9 hR
        refine rvS ?_
        refine rvS ?_
        refine rvS ?_
        refine rvS ?_
        refine rvS ?_
        refine rvO C (.pv (.lit (.bool true))) ?_
        refine rvO C (.pv (.lit (.bool true))) ?_
        refine rvP C (.pv (.lit (.bool true))) ?_
        refine rvP C (.pv (.lit (.bool true))) ?_
        refine rvS ?_
        refine rvS ?_
        refine rvS ?_
        refine rvS ?_
        refine rvS ?_
        refine rvS ?_
        refine rvP C (.pv (.lit (.bool true))) ?_
        refine rvc_nil ?_
        refine Awp.condT (b := true) rfl rfl ?_
        refine Awp.exit ?_
        refine Awp.regionP C ?_
        refine rvP C (.pv (.lit (.int .i64 (IntKind.i64.wrap ((i : Int) + 1))))) ?_
        refine rvP C (.pv (.lit (.int .i64 (IntKind.i64.wrap ((i : Int) + 1))))) ?_
        refine rvc_nil ?_
        refine ⟨h5, .inr ⟨(vc, vc1), ?_, ?_⟩⟩
        · exact ⟨hR, (by first | rfl | omega | ((first | have h_ := hf0_r (by assumption) | have h_ := hf0_r1 (by assumption) | have h_ := hf0_r2 (by assumption) | have h_ := hf0_r3 (by assumption) | have h_ := hf0_r4 (by assumption) | have h_ := hf0_r5 (by assumption) | have h_ := hf0_r6 (by assumption) | have h_ := hf0_r7 (by assumption) | have h_ := hf0_r8 (by assumption) | have h_ := hf0_r9 (by assumption) | have h_ := hf0_r10 (by assumption) | have h_ := hf0_r11 (by assumption) | have h_ := hf0_r12 (by assumption) | have h_ := hf0_r13 (by assumption) | have h_ := hf0_r14 (by assumption) | have h_ := hf0_r15 (by assumption)); simp at h_; simp; omega))⟩
        · exact ⟨fun b => b, WeakerR.ofLI (I := [0, 1]) (Ks := [0, 1, 3, 900]) hI ⟨⟨rfl, rfl⟩, ⟨rfl, rfl⟩, ⟨rfl, rfl⟩, ⟨rfl, rfl⟩, ⟨lit_cast (wrap_i64 (by omega) (by omega)), rfl⟩, trivial⟩ (okH_cons rfl rfl rfl rfl (okH_map rfl rfl rfl (okH_cons rfl rfl rfl rfl (okH_list rfl rfl rfl (okH_nil))))) rfl rfl⟩
       ·
        replace hR := of_false h9 hR
        refine rvO C (.ptr 6 1) ?_
        refine rvO C (.pv (.lit (.string x.value))) ?_
        refine rvO C (.ptr 3 1) ?_
        refine rvO C (.pv (.lit (.string p.value))) ?_
        refine rvO C (.pv (.lit (.bool (!(x.value.toList == p.value.toList))))) ?_
        refine rvO C (.pv (.lit (.bool (!(x.value.toList == p.value.toList))))) ?_
        refine rvO C (.pv (.lit (.bool (!(x.value.toList == p.value.toList))))) ?_
        refine rvP C (.pv (.lit (.bool (!(x.value.toList == p.value.toList))))) ?_
        refine rvP C (.pv (.lit (.bool (!(x.value.toList == p.value.toList))))) ?_
        refine rvc_case 54 (!(x.value.toList == p.value.toList)) rfl (fun h10 => ?_) (fun h10 => ?_)
        ·
         replace hR := of_true h10 hR
         refine rvS ?_
         refine rvS ?_
         refine rvS ?_
         refine rvS ?_
         refine rvS ?_
         refine rvS ?_
         refine rvP C (.pv (.lit (.bool true))) ?_
         refine rvc_nil ?_
         refine Awp.condT (b := true) rfl rfl ?_
         refine Awp.exit ?_
         refine Awp.regionP C ?_
         refine rvP C (.pv (.lit (.int .i64 (IntKind.i64.wrap ((i : Int) + 1))))) ?_
         refine rvP C (.pv (.lit (.int .i64 (IntKind.i64.wrap ((i : Int) + 1))))) ?_
         refine rvc_nil ?_
         refine ⟨h5, .inr ⟨(vc, vc1), ?_, ?_⟩⟩
         · exact ⟨hR, (by first | rfl | omega | ((first | have h_ := hf0_r (by assumption) | have h_ := hf0_r1 (by assumption) | have h_ := hf0_r2 (by assumption) | have h_ := hf0_r3 (by assumption) | have h_ := hf0_r4 (by assumption) | have h_ := hf0_r5 (by assumption) | have h_ := hf0_r6 (by assumption) | have h_ := hf0_r7 (by assumption) | have h_ := hf0_r8 (by assumption) | have h_ := hf0_r9 (by assumption) | have h_ := hf0_r10 (by assumption) | have h_ := hf0_r11 (by assumption) | have h_ := hf0_r12 (by assumption) | have h_ := hf0_r13 (by assumption) | have h_ := hf0_r14 (by assumption) | have h_ := hf0_r15 (by assumption)); simp at h_; simp; omega))⟩
         · exact ⟨fun b => b, WeakerR.ofLI (I := [0, 1]) (Ks := [0, 1, 3, 900]) hI ⟨⟨rfl, rfl⟩, ⟨rfl, rfl⟩, ⟨rfl, rfl⟩, ⟨rfl, rfl⟩, ⟨lit_cast (wrap_i64 (by omega) (by omega)), rfl⟩, trivial⟩ (okH_cons rfl rfl rfl rfl (okH_map rfl rfl rfl (okH_cons rfl rfl rfl rfl (okH_list rfl rfl rfl (okH_nil))))) rfl rfl⟩
        ·
         replace hR := of_false h10 hR
         refine rvO C (.ptr 0 0) ?_
         refine rvO C (.pv (.lit (.int .i64 (i : Int)))) ?_
         refine rvO C (.ptr 3 0) ?_
         refine rvO C (.pv (.lit (.int .u64 p.done))) ?_
         refine rvc_open rfl rfl rfl (rexec_callObj hP C (fun b => bif b == 0 then 0 else bif b == 1 then 1 else bif b == 2 then 900 else b) [] rfl rfl rfl (firstSO_calls (Search.mk s.l vc1 (Sl.mk false vc)) (i : Int) p.done ⟨by omega, by show (i : Int) < (s.l.D.length : Int); omega⟩ hl1) rfl rfl ⟨rfl, rfl, trivial⟩ (of_decide_eq_true rfl) rfl (of_decide_eq_true rfl) (of_decide_eq_true rfl) allB_nil allB_nil (allB_cons rfl (allB_cons rfl allB_nil)) ?_ rfl (allB_cons rfl (allB_cons rfl allB_nil)))
         refine rvO C (.pv (.lit (.bool (!(firstSO (Search.mk s.l vc1 (Sl.mk false vc)) (i : Int) p.done))))) ?_
         refine rvP C (.pv (.lit (.bool (!(firstSO (Search.mk s.l vc1 (Sl.mk false vc)) (i : Int) p.done))))) ?_
         refine rvc_nil ?_
         refine Awp.cond (b := (!(firstSO (Search.mk s.l vc1 (Sl.mk false vc)) (i : Int) p.done))) rfl (fun h11 => ?_) (fun h11 => ?_)
         ·
          replace hR := of_true h11 hR
          refine Awp.exit ?_
          refine Awp.regionP C ?_
          refine rvP C (.pv (.lit (.int .i64 (IntKind.i64.wrap ((i : Int) + 1))))) ?_
          refine rvP C (.pv (.lit (.int .i64 (IntKind.i64.wrap ((i : Int) + 1))))) ?_
          refine rvc_nil ?_
          refine ⟨h5, .inr ⟨(vc, vc1), ?_, ?_⟩⟩
          · exact ⟨hR, (by first | rfl | omega | ((first | have h_ := hf0_r (by assumption) | have h_ := hf0_r1 (by assumption) | have h_ := hf0_r2 (by assumption) | have h_ := hf0_r3 (by assumption) | have h_ := hf0_r4 (by assumption) | have h_ := hf0_r5 (by assumption) | have h_ := hf0_r6 (by assumption) | have h_ := hf0_r7 (by assumption) | have h_ := hf0_r8 (by assumption) | have h_ := hf0_r9 (by assumption) | have h_ := hf0_r10 (by assumption) | have h_ := hf0_r11 (by assumption) | have h_ := hf0_r12 (by assumption) | have h_ := hf0_r13 (by assumption) | have h_ := hf0_r14 (by assumption) | have h_ := hf0_r15 (by assumption)); simp at h_; simp; omega))⟩
          · exact ⟨fun b => b, WeakerR.ofLI (I := [0, 1]) (Ks := [0, 1, 3, 900]) hI ⟨⟨rfl, rfl⟩, ⟨rfl, rfl⟩, ⟨rfl, rfl⟩, ⟨rfl, rfl⟩, ⟨lit_cast (wrap_i64 (by omega) (by omega)), rfl⟩, trivial⟩ (okH_cons rfl rfl rfl rfl (okH_map rfl rfl rfl (okH_cons rfl rfl rfl rfl (okH_list rfl rfl rfl (okH_nil))))) rfl rfl⟩
         ·
          replace hR := of_false h11 hR
          refine Awp.skip ?_
          refine Awp.consP C ?_
          refine rvP C (.ptr 3 0) ?_
          refine rvP C (.pv (.lit (.int .u64 p.done))) ?_
          refine rvP C (.pv (.lit (.int .i64 (i : Int)))) ?_
          refine rvc_un (rexec_call hP C rfl rfl rfl (mWith_calls p.done (i : Int)) ?_)
          refine rvP C (.ptr 3 1) ?_
          refine rvP C (.pv (.lit (.string p.value))) ?_
          refine rvP C (.agg [.pv (.lit (.int .u64 (mWith p.done (i : Int)))), .pv (.lit (.string p.value))]) ?_
          refine rvc_un (rexec_prim C (δ := { v := .ptr 7 0, new := [(7, .cells [.pv (.lit (.int .u64 0)), .pv (.lit (.string ⟨#[]⟩))])] }) rfl rfl rfl rfl trivial rfl ?_)
          refine rvc_un (rexec_prim C (δ := { v := .undef, wr := [(7, some (.cells [.pv (.lit (.int .u64 (mWith p.done (i : Int)))), .pv (.lit (.string p.value))]))] }) rfl rfl rfl rfl trivial rfl ?_)
          refine rvc_nil ?_
          refine Awp.seq ?_
          refine Awp.consP C ?_
          refine rvP C (.ptr 6 0) ?_
          refine rvP C (.pv (.lit (.bool x.write))) ?_
          refine rvc_nil ?_
          refine Awp.cond (b := x.write) rfl (fun h12 => ?_) (fun h12 => ?_)
          ·
           replace hR := of_true h12 hR
           refine Awp.regionP C ?_
           refine rvP C (.ptr 6 1) ?_
           refine rvP C (.pv (.lit (.string x.value))) ?_
           refine rvP C (.ptr 7 1) ?_
           refine rvc_un (rexec_prim C (δ := { v := .undef, wr := [(7, some (.cells [.pv (.lit (.int .u64 (mWith p.done (i : Int)))), .pv (.lit (.string x.value))]))] }) rfl rfl rfl rfl trivial rfl ?_)
           refine rvc_nil ?_
           refine Awp.consP C ?_
           refine rvP C (.ptr 0 0) ?_
           refine rvP C (.ptr 0 0) ?_
           refine rvP C (.ptr 0 0) ?_
           refine rvP C (.ptr 0 2) ?_
           refine rvP C (.sl 900 0 vc.length 1 false) ?_
           refine rvP C (.pv (.lit (.int .i64 (i : Int)))) ?_
           refine rvc_un (rexec_buildSliceF C (eI .i64) [(i : Int)] rfl rfl rfl rfl rfl rfl rfl (by decide) rfl ?_)
           refine rvc_un (rexec_append C rfl rfl rfl rfl rfl rfl rfl rfl (fun _ h => by cases h) rfl (en := (eI .i64)) (D0 := vc) (D := [(i : Int)]) rfl rfl rfl rfl (by have := of_decide_eq_true h4; have := ne_of_beq_false h9; first | omega | (simp <;> omega)) (by decide) (nn := (vc ++ [(i : Int)]).length) (by simp) ?_)
           refine rvP C (.ptr 0 0) ?_
           refine rvP C (.ptr 0 2) ?_
           refine rvc_un (rexec_prim C (δ := { v := .undef, wr := [(0, some (.cells [sS (some s.l.nil) eOp s.l.D, .mp 1, .sl 81 0 ((vc ++ [(i : Int)]).length) 1 false]))] }) rfl rfl rfl rfl trivial rfl ?_)
           refine rvc_nil ?_
           refine Awp.seq ?_
           refine Awp.cons C (fun _ => .writer) (by kernel_rfl) ?_
           refine rvP C (.ptr 0 0) ?_
           refine rvP C (.agg [.pv (.lit (.int .u64 (mWith p.done (i : Int)))), .pv (.lit (.string x.value))]) ?_
           obtain ⟨r, hq_r⟩ : ∃ q_, q_ = (fromO 65 (Search.mk s.l vc1 (Sl.mk false (vc ++ [(i : Int)]))) (Point.mk (mWith p.done (i : Int)) x.value)) := ⟨_, rfl⟩
           have hc_r := (fromO_calls 65 (Search.mk s.l vc1 (Sl.mk false (vc ++ [(i : Int)]))) (Point.mk (mWith p.done (i : Int)) x.value) hl64 (with_okD hd (by omega)) (by have h_ := mu_le s.l.D (mWith p.done (i : Int)); show (_ : List Int).length + mu s.l.D (mWith p.done (i : Int)) ≤ 1000000; first | (rw [List.length_append, List.length_singleton]; omega) | (show 1 + _ ≤ _; omega)) (by have h_ := mu_le s.l.D (mWith p.done (i : Int)); show mu s.l.D (mWith p.done (i : Int)) < 65; omega))
           first | rw [← hq_r] at hR hc_r | (unfold fromN at hR; rw [← hq_r] at hR hc_r) | (unfold fromN_l0 at hR; rw [← hq_r] at hR hc_r)
           have hf0_r := fromO_row 65 (Search.mk s.l vc1 (Sl.mk false (vc ++ [(i : Int)]))) (Point.mk (mWith p.done (i : Int)) x.value)
           rw [← hq_r] at hf0_r
           refine rvc_un (rexec_callObj hP C (fun b => bif b == 0 then 0 else bif b == 1 then 1 else bif b == 2 then 81 else b) [(86, 3)] rfl rfl rfl hc_r rfl rfl ⟨rfl, rfl, trivial⟩ (of_decide_eq_true rfl) rfl (of_decide_eq_true rfl) (of_decide_eq_true rfl) (allB_cons rfl allB_nil) (allB_cons rfl allB_nil) (allB_cons rfl (allB_cons rfl allB_nil)) ?_ rfl (allB_cons rfl (allB_cons rfl allB_nil)))
           refine rvc_nil ?_
           refine Awp.cond (b := r.2) rfl (fun h13 => ?_) (fun h13 => ?_)
           ·
            replace hR := of_true h13 hR
            refine Awp.consP C ?_
            refine rvP C (.pv (.lit (.bool true))) ?_
            refine rvc_nil ?_
            refine Awp.freezeW 86 (encL (eI .i64) r.1.row.D) ?_ [(4, .pv (.lit (.bool true)))] [(0, .cells [sS (some s.l.nil) eOp s.l.D, .mp 1, sS (some false) (eI .i64) r.1.row.D]), (1, mapE kPoint vBool.enc r.1.been), (3, .cells [.pv (.lit (.int .u64 p.done)), .pv (.lit (.string p.value))]), (6, .cells [.pv (.lit (.bool x.write)), .pv (.lit (.string x.value)), .pv (.lit (.int .i64 x.ver)), .pv (.lit (.int .i64 x.began)), .pv (.lit (.int .i64 x.ended))]), (7, .cells [.pv (.lit (.int .u64 (mWith p.done (i : Int)))), .pv (.lit (.string x.value))])] ?_ ?_ ?_
            · rfl
            · exact ⟨⟨_, rfl, .inl (.inl rfl)⟩, trivial⟩
            · exact ⟨⟨(by show (0 : Nat) ≠ 86; decide), .inr ⟨_, _, rfl, rfl, ⟨.inl rfl, .inl rfl, .inr ⟨_, _, _, rfl, rfl⟩, trivial⟩⟩⟩, ⟨(by show (1 : Nat) ≠ 86; decide), .inl rfl⟩, ⟨(by show (3 : Nat) ≠ 86; decide), .inl rfl⟩, ⟨(by show (6 : Nat) ≠ 86; decide), .inl rfl⟩, ⟨(by show (7 : Nat) ≠ 86; decide), .inl rfl⟩, trivial⟩
            refine Awp.ret ?_
            subst hR
            exact ⟨.inl rfl, rfl, rfl, ⟨rfl, trivial⟩⟩
           ·
            replace hR := of_false h13 hR
            refine Awp.skip ?_
            refine Awp.regionP C ?_
            refine rvP C (.ptr 0 0) ?_
            refine rvP C (.ptr 0 0) ?_
            refine rvP C (.ptr 0 0) ?_
            refine rvP C (.ptr 0 2) ?_
            refine rvP C (.sl 86 0 r.1.row.D.length 1 false) ?_
            refine rvP C (.ptr 0 0) ?_
            refine rvP C (.ptr 0 0) ?_
            refine rvP C (.ptr 0 2) ?_
            refine rvP C (.sl 86 0 r.1.row.D.length 1 false) ?_
            refine rvP C (.pv (.lit (.int .i64 (r.1.row.D.length : Int)))) ?_
            refine rvP C (.pv (.lit (.int .i64 (IntKind.i64.wrap ((r.1.row.D.length : Int) - 1))))) ?_
            refine rvc_un (rexec_cutOwn C ((r.1.row.D.dropLast).length) rfl rfl rfl rfl rfl rfl rfl ⟨(by have h_ : 1 ≤ r.1.row.D.length ∧ r.1.row.D.length ≤ 9000000000000000000 := (by (first | have h_ := hf0_r (by assumption) | have h_ := hf0_r1 (by assumption) | have h_ := hf0_r2 (by assumption) | have h_ := hf0_r3 (by assumption) | have h_ := hf0_r4 (by assumption) | have h_ := hf0_r5 (by assumption) | have h_ := hf0_r6 (by assumption) | have h_ := hf0_r7 (by assumption) | have h_ := hf0_r8 (by assumption) | have h_ := hf0_r9 (by assumption) | have h_ := hf0_r10 (by assumption) | have h_ := hf0_r11 (by assumption) | have h_ := hf0_r12 (by assumption) | have h_ := hf0_r13 (by assumption) | have h_ := hf0_r14 (by assumption) | have h_ := hf0_r15 (by assumption)); simp at h_; omega); rw [wrap_i64 (by omega) (by omega)]; omega), (by have h_ : 1 ≤ r.1.row.D.length ∧ r.1.row.D.length ≤ 9000000000000000000 := (by (first | have h_ := hf0_r (by assumption) | have h_ := hf0_r1 (by assumption) | have h_ := hf0_r2 (by assumption) | have h_ := hf0_r3 (by assumption) | have h_ := hf0_r4 (by assumption) | have h_ := hf0_r5 (by assumption) | have h_ := hf0_r6 (by assumption) | have h_ := hf0_r7 (by assumption) | have h_ := hf0_r8 (by assumption) | have h_ := hf0_r9 (by assumption) | have h_ := hf0_r10 (by assumption) | have h_ := hf0_r11 (by assumption) | have h_ := hf0_r12 (by assumption) | have h_ := hf0_r13 (by assumption) | have h_ := hf0_r14 (by assumption) | have h_ := hf0_r15 (by assumption)); simp at h_; omega); rw [wrap_i64 (by omega) (by omega)]; omega)⟩ (by have h_ : 1 ≤ r.1.row.D.length ∧ r.1.row.D.length ≤ 9000000000000000000 := (by (first | have h_ := hf0_r (by assumption) | have h_ := hf0_r1 (by assumption) | have h_ := hf0_r2 (by assumption) | have h_ := hf0_r3 (by assumption) | have h_ := hf0_r4 (by assumption) | have h_ := hf0_r5 (by assumption) | have h_ := hf0_r6 (by assumption) | have h_ := hf0_r7 (by assumption) | have h_ := hf0_r8 (by assumption) | have h_ := hf0_r9 (by assumption) | have h_ := hf0_r10 (by assumption) | have h_ := hf0_r11 (by assumption) | have h_ := hf0_r12 (by assumption) | have h_ := hf0_r13 (by assumption) | have h_ := hf0_r14 (by assumption) | have h_ := hf0_r15 (by assumption)); simp at h_; omega); rw [wrap_i64 (by omega) (by omega)]; rw [List.length_dropLast]; omega) ?_)
            refine rvP C (.ptr 0 0) ?_
            refine rvP C (.ptr 0 2) ?_
            refine rvc_un (rexec_prim C (δ := { v := .undef, wr := [(0, some (.cells [sS (some s.l.nil) eOp s.l.D, .mp 1, .sl 86 0 ((r.1.row.D.dropLast).length) 1 false]))] }) rfl rfl rfl rfl trivial rfl ?_)
            refine rvc_nil ?_
            refine Awp.cutB 86 ((r.1.row.D.length - 1) * (eI .i64).sz) _ rfl (encC (eI .i64) (r.1.row.D.dropLast)) (encC_dropLast _) ?_
            refine Awp.regionP C ?_
            refine rvP C (.pv (.lit (.int .i64 (IntKind.i64.wrap ((i : Int) + 1))))) ?_
            refine rvP C (.pv (.lit (.int .i64 (IntKind.i64.wrap ((i : Int) + 1))))) ?_
            refine rvc_nil ?_
            refine ⟨h5, .inr ⟨((r.1.row.D.dropLast), r.1.been), ?_, ?_⟩⟩
            · exact ⟨hR, (by first | rfl | omega | ((first | have h_ := hf0_r (by assumption) | have h_ := hf0_r1 (by assumption) | have h_ := hf0_r2 (by assumption) | have h_ := hf0_r3 (by assumption) | have h_ := hf0_r4 (by assumption) | have h_ := hf0_r5 (by assumption) | have h_ := hf0_r6 (by assumption) | have h_ := hf0_r7 (by assumption) | have h_ := hf0_r8 (by assumption) | have h_ := hf0_r9 (by assumption) | have h_ := hf0_r10 (by assumption) | have h_ := hf0_r11 (by assumption) | have h_ := hf0_r12 (by assumption) | have h_ := hf0_r13 (by assumption) | have h_ := hf0_r14 (by assumption) | have h_ := hf0_r15 (by assumption)); simp at h_; simp; omega))⟩
            · exact ⟨fun b => bif b == 900 then 86 else (fun b => b) b, WeakerR.ofLI (I := [0, 1]) (Ks := [0, 1, 3, 900]) hI ⟨⟨rfl, rfl⟩, ⟨rfl, rfl⟩, ⟨rfl, rfl⟩, ⟨rfl, rfl⟩, ⟨lit_cast (wrap_i64 (by omega) (by omega)), rfl⟩, trivial⟩ (okH_cons rfl rfl rfl rfl (okH_map rfl rfl rfl (okH_cons rfl rfl rfl rfl (okH_list rfl rfl rfl (okH_nil))))) rfl rfl⟩
          ·
           replace hR := of_false h12 hR
           refine Awp.skip ?_
           refine Awp.consP C ?_
           refine rvP C (.ptr 0 0) ?_
           refine rvP C (.ptr 0 0) ?_
           refine rvP C (.ptr 0 0) ?_
           refine rvP C (.ptr 0 2) ?_
           refine rvP C (.sl 900 0 vc.length 1 false) ?_
           refine rvP C (.pv (.lit (.int .i64 (i : Int)))) ?_
           refine rvc_un (rexec_buildSliceF C (eI .i64) [(i : Int)] rfl rfl rfl rfl rfl rfl rfl (by decide) rfl ?_)
           refine rvc_un (rexec_append C rfl rfl rfl rfl rfl rfl rfl rfl (fun _ h => by cases h) rfl (en := (eI .i64)) (D0 := vc) (D := [(i : Int)]) rfl rfl rfl rfl (by have := of_decide_eq_true h4; have := ne_of_beq_false h9; first | omega | (simp <;> omega)) (by decide) (nn := (vc ++ [(i : Int)]).length) (by simp) ?_)
           refine rvP C (.ptr 0 0) ?_
           refine rvP C (.ptr 0 2) ?_
           refine rvc_un (rexec_prim C (δ := { v := .undef, wr := [(0, some (.cells [sS (some s.l.nil) eOp s.l.D, .mp 1, .sl 81 0 ((vc ++ [(i : Int)]).length) 1 false]))] }) rfl rfl rfl rfl trivial rfl ?_)
           refine rvc_nil ?_
           refine Awp.seq ?_
           refine Awp.cons C (fun _ => .writer) (by kernel_rfl) ?_
           refine rvP C (.ptr 0 0) ?_
           refine rvP C (.agg [.pv (.lit (.int .u64 (mWith p.done (i : Int)))), .pv (.lit (.string p.value))]) ?_
           obtain ⟨r1, hq_r1⟩ : ∃ q_, q_ = (fromO 65 (Search.mk s.l vc1 (Sl.mk false (vc ++ [(i : Int)]))) (Point.mk (mWith p.done (i : Int)) p.value)) := ⟨_, rfl⟩
           have hc_r1 := (fromO_calls 65 (Search.mk s.l vc1 (Sl.mk false (vc ++ [(i : Int)]))) (Point.mk (mWith p.done (i : Int)) p.value) hl64 (with_okD hd (by omega)) (by have h_ := mu_le s.l.D (mWith p.done (i : Int)); show (_ : List Int).length + mu s.l.D (mWith p.done (i : Int)) ≤ 1000000; first | (rw [List.length_append, List.length_singleton]; omega) | (show 1 + _ ≤ _; omega)) (by have h_ := mu_le s.l.D (mWith p.done (i : Int)); show mu s.l.D (mWith p.done (i : Int)) < 65; omega))
           first | rw [← hq_r1] at hR hc_r1 | (unfold fromN at hR; rw [← hq_r1] at hR hc_r1) | (unfold fromN_l0 at hR; rw [← hq_r1] at hR hc_r1)
           have hf0_r1 := fromO_row 65 (Search.mk s.l vc1 (Sl.mk false (vc ++ [(i : Int)]))) (Point.mk (mWith p.done (i : Int)) p.value)
           rw [← hq_r1] at hf0_r1
           refine rvc_un (rexec_callObj hP C (fun b => bif b == 0 then 0 else bif b == 1 then 1 else bif b == 2 then 81 else b) [(86, 3)] rfl rfl rfl hc_r1 rfl rfl ⟨rfl, rfl, trivial⟩ (of_decide_eq_true rfl) rfl (of_decide_eq_true rfl) (of_decide_eq_true rfl) (allB_cons rfl allB_nil) (allB_cons rfl allB_nil) (allB_cons rfl (allB_cons rfl allB_nil)) ?_ rfl (allB_cons rfl (allB_cons rfl allB_nil)))
           refine rvc_nil ?_
           refine Awp.cond (b := r1.2) rfl (fun h14 => ?_) (fun h14 => ?_)
           ·
            replace hR := of_true h14 hR
            refine Awp.consP C ?_
            refine rvP C (.pv (.lit (.bool true))) ?_
            refine rvc_nil ?_
            refine Awp.freezeW 86 (encL (eI .i64) r1.1.row.D) ?_ [(4, .pv (.lit (.bool true)))] [(0, .cells [sS (some s.l.nil) eOp s.l.D, .mp 1, sS (some false) (eI .i64) r1.1.row.D]), (1, mapE kPoint vBool.enc r1.1.been), (3, .cells [.pv (.lit (.int .u64 p.done)), .pv (.lit (.string p.value))]), (6, .cells [.pv (.lit (.bool x.write)), .pv (.lit (.string x.value)), .pv (.lit (.int .i64 x.ver)), .pv (.lit (.int .i64 x.began)), .pv (.lit (.int .i64 x.ended))]), (7, .cells [.pv (.lit (.int .u64 (mWith p.done (i : Int)))), .pv (.lit (.string p.value))])] ?_ ?_ ?_
            · rfl
            · exact ⟨⟨_, rfl, .inl (.inl rfl)⟩, trivial⟩
            · exact ⟨⟨(by show (0 : Nat) ≠ 86; decide), .inr ⟨_, _, rfl, rfl, ⟨.inl rfl, .inl rfl, .inr ⟨_, _, _, rfl, rfl⟩, trivial⟩⟩⟩, ⟨(by show (1 : Nat) ≠ 86; decide), .inl rfl⟩, ⟨(by show (3 : Nat) ≠ 86; decide), .inl rfl⟩, ⟨(by show (6 : Nat) ≠ 86; decide), .inl rfl⟩, ⟨(by show (7 : Nat) ≠ 86; decide), .inl rfl⟩, trivial⟩
            refine Awp.ret ?_
            subst hR
            exact ⟨.inl rfl, rfl, rfl, ⟨rfl, trivial⟩⟩
           ·
            replace hR := of_false h14 hR
            refine Awp.skip ?_
            refine Awp.regionP C ?_
            refine rvP C (.ptr 0 0) ?_
            refine rvP C (.ptr 0 0) ?_
            refine rvP C (.ptr 0 0) ?_
            refine rvP C (.ptr 0 2) ?_
            refine rvP C (.sl 86 0 r1.1.row.D.length 1 false) ?_
            refine rvP C (.ptr 0 0) ?_
            refine rvP C (.ptr 0 0) ?_
            refine rvP C (.ptr 0 2) ?_
            refine rvP C (.sl 86 0 r1.1.row.D.length 1 false) ?_
            refine rvP C (.pv (.lit (.int .i64 (r1.1.row.D.length : Int)))) ?_
            refine rvP C (.pv (.lit (.int .i64 (IntKind.i64.wrap ((r1.1.row.D.length : Int) - 1))))) ?_
            refine rvc_un (rexec_cutOwn C ((r1.1.row.D.dropLast).length) rfl rfl rfl rfl rfl rfl rfl ⟨(by have h_ : 1 ≤ r1.1.row.D.length ∧ r1.1.row.D.length ≤ 9000000000000000000 := (by (first | have h_ := hf0_r (by assumption) | have h_ := hf0_r1 (by assumption) | have h_ := hf0_r2 (by assumption) | have h_ := hf0_r3 (by assumption) | have h_ := hf0_r4 (by assumption) | have h_ := hf0_r5 (by assumption) | have h_ := hf0_r6 (by assumption) | have h_ := hf0_r7 (by assumption) | have h_ := hf0_r8 (by assumption) | have h_ := hf0_r9 (by assumption) | have h_ := hf0_r10 (by assumption) | have h_ := hf0_r11 (by assumption) | have h_ := hf0_r12 (by assumption) | have h_ := hf0_r13 (by assumption) | have h_ := hf0_r14 (by assumption) | have h_ := hf0_r15 (by assumption)); simp at h_; omega); rw [wrap_i64 (by omega) (by omega)]; omega), (by have h_ : 1 ≤ r1.1.row.D.length ∧ r1.1.row.D.length ≤ 9000000000000000000 := (by (first | have h_ := hf0_r (by assumption) | have h_ := hf0_r1 (by assumption) | have h_ := hf0_r2 (by assumption) | have h_ := hf0_r3 (by assumption) | have h_ := hf0_r4 (by assumption) | have h_ := hf0_r5 (by assumption) | have h_ := hf0_r6 (by assumption) | have h_ := hf0_r7 (by assumption) | have h_ := hf0_r8 (by assumption) | have h_ := hf0_r9 (by assumption) | have h_ := hf0_r10 (by assumption) | have h_ := hf0_r11 (by assumption) | have h_ := hf0_r12 (by assumption) | have h_ := hf0_r13 (by assumption) | have h_ := hf0_r14 (by assumption) | have h_ := hf0_r15 (by assumption)); simp at h_; omega); rw [wrap_i64 (by omega) (by omega)]; omega)⟩ (by have h_ : 1 ≤ r1.1.row.D.length ∧ r1.1.row.D.length ≤ 9000000000000000000 := (by (first | have h_ := hf0_r (by assumption) | have h_ := hf0_r1 (by assumption) | have h_ := hf0_r2 (by assumption) | have h_ := hf0_r3 (by assumption) | have h_ := hf0_r4 (by assumption) | have h_ := hf0_r5 (by assumption) | have h_ := hf0_r6 (by assumption) | have h_ := hf0_r7 (by assumption) | have h_ := hf0_r8 (by assumption) | have h_ := hf0_r9 (by assumption) | have h_ := hf0_r10 (by assumption) | have h_ := hf0_r11 (by assumption) | have h_ := hf0_r12 (by assumption) | have h_ := hf0_r13 (by assumption) | have h_ := hf0_r14 (by assumption) | have h_ := hf0_r15 (by assumption)); simp at h_; omega); rw [wrap_i64 (by omega) (by omega)]; rw [List.length_dropLast]; omega) ?_)
            refine rvP C (.ptr 0 0) ?_
            refine rvP C (.ptr 0 2) ?_
            refine rvc_un (rexec_prim C (δ := { v := .undef, wr := [(0, some (.cells [sS (some s.l.nil) eOp s.l.D, .mp 1, .sl 86 0 ((r1.1.row.D.dropLast).length) 1 false]))] }) rfl rfl rfl rfl trivial rfl ?_)
            refine rvc_nil ?_
            refine Awp.cutB 86 ((r1.1.row.D.length - 1) * (eI .i64).sz) _ rfl (encC (eI .i64) (r1.1.row.D.dropLast)) (encC_dropLast _) ?_
            refine Awp.regionP C ?_
            refine rvP C (.pv (.lit (.int .i64 (IntKind.i64.wrap ((i : Int) + 1))))) ?_
            refine rvP C (.pv (.lit (.int .i64 (IntKind.i64.wrap ((i : Int) + 1))))) ?_
            refine rvc_nil ?_
            refine ⟨h5, .inr ⟨((r1.1.row.D.dropLast), r1.1.been), ?_, ?_⟩⟩
            · exact ⟨hR, (by first | rfl | omega | ((first | have h_ := hf0_r (by assumption) | have h_ := hf0_r1 (by assumption) | have h_ := hf0_r2 (by assumption) | have h_ := hf0_r3 (by assumption) | have h_ := hf0_r4 (by assumption) | have h_ := hf0_r5 (by assumption) | have h_ := hf0_r6 (by assumption) | have h_ := hf0_r7 (by assumption) | have h_ := hf0_r8 (by assumption) | have h_ := hf0_r9 (by assumption) | have h_ := hf0_r10 (by assumption) | have h_ := hf0_r11 (by assumption) | have h_ := hf0_r12 (by assumption) | have h_ := hf0_r13 (by assumption) | have h_ := hf0_r14 (by assumption) | have h_ := hf0_r15 (by assumption)); simp at h_; simp; omega))⟩
            · exact ⟨fun b => bif b == 900 then 86 else (fun b => b) b, WeakerR.ofLI (I := [0, 1]) (Ks := [0, 1, 3, 900]) hI ⟨⟨rfl, rfl⟩, ⟨rfl, rfl⟩, ⟨rfl, rfl⟩, ⟨rfl, rfl⟩, ⟨lit_cast (wrap_i64 (by omega) (by omega)), rfl⟩, trivial⟩ (okH_cons rfl rfl rfl rfl (okH_map rfl rfl rfl (okH_cons rfl rfl rfl rfl (okH_list rfl rfl rfl (okH_nil))))) rfl rfl⟩
      ·
       replace hR := of_false h8 hR
       refine rvS ?_
       refine rvS ?_
       refine rvS ?_
       refine rvS ?_
       refine rvc_shutU rfl rfl rfl ?_
       refine rvc_shutU rfl rfl rfl ?_
       refine rvc_shutU rfl rfl rfl ?_
       refine rvc_shutU rfl rfl rfl ?_
       refine rvc_shutU rfl rfl rfl ?_
       refine rvS ?_
       refine rvO C (.pv (.lit (.bool false))) ?_
       refine rvP C (.pv (.lit (.bool false))) ?_
       refine rvP C (.pv (.lit (.bool false))) ?_
       refine rvO C (.ptr 0 0) ?_
       refine rvO C (.pv (.lit (.int .i64 (i : Int)))) ?_
       refine rvO C (.ptr 3 0) ?_
       refine rvO C (.pv (.lit (.int .u64 p.done))) ?_
       refine rvc_open rfl rfl rfl (rexec_callObj hP C (fun b => bif b == 0 then 0 else bif b == 1 then 1 else bif b == 2 then 900 else b) [] rfl rfl rfl (firstSO_calls (Search.mk s.l vc1 (Sl.mk false vc)) (i : Int) p.done ⟨by omega, by show (i : Int) < (s.l.D.length : Int); omega⟩ hl1) rfl rfl ⟨rfl, rfl, trivial⟩ (of_decide_eq_true rfl) rfl (of_decide_eq_true rfl) (of_decide_eq_true rfl) allB_nil allB_nil (allB_cons rfl (allB_cons rfl allB_nil)) ?_ rfl (allB_cons rfl (allB_cons rfl allB_nil)))
       refine rvO C (.pv (.lit (.bool (!(firstSO (Search.mk s.l vc1 (Sl.mk false vc)) (i : Int) p.done))))) ?_
       refine rvP C (.pv (.lit (.bool (!(firstSO (Search.mk s.l vc1 (Sl.mk false vc)) (i : Int) p.done))))) ?_
       refine rvc_nil ?_
       refine Awp.cond (b := (!(firstSO (Search.mk s.l vc1 (Sl.mk false vc)) (i : Int) p.done))) rfl (fun h15 => ?_) (fun h15 => ?_)
       ·
        replace hR := of_true h15 hR
        refine Awp.exit ?_
        refine Awp.regionP C ?_
        refine rvP C (.pv (.lit (.int .i64 (IntKind.i64.wrap ((i : Int) + 1))))) ?_
        refine rvP C (.pv (.lit (.int .i64 (IntKind.i64.wrap ((i : Int) + 1))))) ?_
        refine rvc_nil ?_
        refine ⟨h5, .inr ⟨(vc, vc1), ?_, ?_⟩⟩
        · exact ⟨hR, (by first | rfl | omega | ((first | have h_ := hf0_r (by assumption) | have h_ := hf0_r1 (by assumption) | have h_ := hf0_r2 (by assumption) | have h_ := hf0_r3 (by assumption) | have h_ := hf0_r4 (by assumption) | have h_ := hf0_r5 (by assumption) | have h_ := hf0_r6 (by assumption) | have h_ := hf0_r7 (by assumption) | have h_ := hf0_r8 (by assumption) | have h_ := hf0_r9 (by assumption) | have h_ := hf0_r10 (by assumption) | have h_ := hf0_r11 (by assumption) | have h_ := hf0_r12 (by assumption) | have h_ := hf0_r13 (by assumption) | have h_ := hf0_r14 (by assumption) | have h_ := hf0_r15 (by assumption)); simp at h_; simp; omega))⟩
        · exact ⟨fun b => b, WeakerR.ofLI (I := [0, 1]) (Ks := [0, 1, 3, 900]) hI ⟨⟨rfl, rfl⟩, ⟨rfl, rfl⟩, ⟨rfl, rfl⟩, ⟨rfl, rfl⟩, ⟨lit_cast (wrap_i64 (by omega) (by omega)), rfl⟩, trivial⟩ (okH_cons rfl rfl rfl rfl (okH_map rfl rfl rfl (okH_cons rfl rfl rfl rfl (okH_list rfl rfl rfl (okH_nil))))) rfl rfl⟩
       ·
        replace hR := of_false h15 hR
        refine Awp.skip ?_
        refine Awp.consP C ?_
        refine rvP C (.ptr 3 0) ?_
        refine rvP C (.pv (.lit (.int .u64 p.done))) ?_
        refine rvP C (.pv (.lit (.int .i64 (i : Int)))) ?_
        refine rvc_un (rexec_call hP C rfl rfl rfl (mWith_calls p.done (i : Int)) ?_)
        refine rvP C (.ptr 3 1) ?_
        refine rvP C (.pv (.lit (.string p.value))) ?_
        refine rvP C (.agg [.pv (.lit (.int .u64 (mWith p.done (i : Int)))), .pv (.lit (.string p.value))]) ?_
        refine rvc_un (rexec_prim C (δ := { v := .ptr 7 0, new := [(7, .cells [.pv (.lit (.int .u64 0)), .pv (.lit (.string ⟨#[]⟩))])] }) rfl rfl rfl rfl trivial rfl ?_)
        refine rvc_un (rexec_prim C (δ := { v := .undef, wr := [(7, some (.cells [.pv (.lit (.int .u64 (mWith p.done (i : Int)))), .pv (.lit (.string p.value))]))] }) rfl rfl rfl rfl trivial rfl ?_)
        refine rvc_nil ?_
        refine Awp.seq ?_
        refine Awp.consP C ?_
        refine rvP C (.ptr 6 0) ?_
        refine rvP C (.pv (.lit (.bool x.write))) ?_
        refine rvc_nil ?_
        refine Awp.cond (b := x.write) rfl (fun h16 => ?_) (fun h16 => ?_)
        ·
         replace hR := of_true h16 hR
         refine Awp.regionP C ?_
         refine rvP C (.ptr 6 1) ?_
         refine rvP C (.pv (.lit (.string x.value))) ?_
         refine rvP C (.ptr 7 1) ?_
         refine rvc_un (rexec_prim C (δ := { v := .undef, wr := [(7, some (.cells [.pv (.lit (.int .u64 (mWith p.done (i : Int)))), .pv (.lit (.string x.value))]))] }) rfl rfl rfl rfl trivial rfl ?_)
         refine rvc_nil ?_
         refine Awp.consP C ?_
         refine rvP C (.ptr 0 0) ?_
         refine rvP C (.ptr 0 0) ?_
         refine rvP C (.ptr 0 0) ?_
         refine rvP C (.ptr 0 2) ?_
         refine rvP C (.sl 900 0 vc.length 1 false) ?_
         refine rvP C (.pv (.lit (.int .i64 (i : Int)))) ?_
         refine rvc_un (rexec_buildSliceF C (eI .i64) [(i : Int)] rfl rfl rfl rfl rfl rfl rfl (by decide) rfl ?_)
         refine rvc_un (rexec_append C rfl rfl rfl rfl rfl rfl rfl rfl (fun _ h => by cases h) rfl (en := (eI .i64)) (D0 := vc) (D := [(i : Int)]) rfl rfl rfl rfl (by have := of_decide_eq_true h4; first | omega | (simp <;> omega)) (by decide) (nn := (vc ++ [(i : Int)]).length) (by simp) ?_)
         refine rvP C (.ptr 0 0) ?_
         refine rvP C (.ptr 0 2) ?_
         refine rvc_un (rexec_prim C (δ := { v := .undef, wr := [(0, some (.cells [sS (some s.l.nil) eOp s.l.D, .mp 1, .sl 81 0 ((vc ++ [(i : Int)]).length) 1 false]))] }) rfl rfl rfl rfl trivial rfl ?_)
         refine rvc_nil ?_
         refine Awp.seq ?_
         refine Awp.cons C (fun _ => .writer) (by kernel_rfl) ?_
         refine rvP C (.ptr 0 0) ?_
         refine rvP C (.agg [.pv (.lit (.int .u64 (mWith p.done (i : Int)))), .pv (.lit (.string x.value))]) ?_
         obtain ⟨r2, hq_r2⟩ : ∃ q_, q_ = (fromO 65 (Search.mk s.l vc1 (Sl.mk false (vc ++ [(i : Int)]))) (Point.mk (mWith p.done (i : Int)) x.value)) := ⟨_, rfl⟩
         have hc_r2 := (fromO_calls 65 (Search.mk s.l vc1 (Sl.mk false (vc ++ [(i : Int)]))) (Point.mk (mWith p.done (i : Int)) x.value) hl64 (with_okD hd (by omega)) (by have h_ := mu_le s.l.D (mWith p.done (i : Int)); show (_ : List Int).length + mu s.l.D (mWith p.done (i : Int)) ≤ 1000000; first | (rw [List.length_append, List.length_singleton]; omega) | (show 1 + _ ≤ _; omega)) (by have h_ := mu_le s.l.D (mWith p.done (i : Int)); show mu s.l.D (mWith p.done (i : Int)) < 65; omega))
         first | rw [← hq_r2] at hR hc_r2 | (unfold fromN at hR; rw [← hq_r2] at hR hc_r2) | (unfold fromN_l0 at hR; rw [← hq_r2] at hR hc_r2)
         have hf0_r2 := fromO_row 65 (Search.mk s.l vc1 (Sl.mk false (vc ++ [(i : Int)]))) (Point.mk (mWith p.done (i : Int)) x.value)
         rw [← hq_r2] at hf0_r2
         refine rvc_un (rexec_callObj hP C (fun b => bif b == 0 then 0 else bif b == 1 then 1 else bif b == 2 then 81 else b) [(86, 3)] rfl rfl rfl hc_r2 rfl rfl ⟨rfl, rfl, trivial⟩ (of_decide_eq_true rfl) rfl (of_decide_eq_true rfl) (of_decide_eq_true rfl) (allB_cons rfl allB_nil) (allB_cons rfl allB_nil) (allB_cons rfl (allB_cons rfl allB_nil)) ?_ rfl (allB_cons rfl (allB_cons rfl allB_nil)))
         refine rvc_nil ?_
         refine Awp.cond (b := r2.2) rfl (fun h17 => ?_) (fun h17 => ?_)
         ·
          replace hR := of_true h17 hR
          refine Awp.consP C ?_
          refine rvP C (.pv (.lit (.bool true))) ?_
          refine rvc_nil ?_
          refine Awp.freezeW 86 (encL (eI .i64) r2.1.row.D) ?_ [(4, .pv (.lit (.bool true)))] [(0, .cells [sS (some s.l.nil) eOp s.l.D, .mp 1, sS (some false) (eI .i64) r2.1.row.D]), (1, mapE kPoint vBool.enc r2.1.been), (3, .cells [.pv (.lit (.int .u64 p.done)), .pv (.lit (.string p.value))]), (6, .cells [.pv (.lit (.bool x.write)), .pv (.lit (.string x.value)), .pv (.lit (.int .i64 x.ver)), .pv (.lit (.int .i64 x.began)), .pv (.lit (.int .i64 x.ended))]), (7, .cells [.pv (.lit (.int .u64 (mWith p.done (i : Int)))), .pv (.lit (.string x.value))])] ?_ ?_ ?_
          · rfl
          · exact ⟨⟨_, rfl, .inl (.inl rfl)⟩, trivial⟩
          · exact ⟨⟨(by show (0 : Nat) ≠ 86; decide), .inr ⟨_, _, rfl, rfl, ⟨.inl rfl, .inl rfl, .inr ⟨_, _, _, rfl, rfl⟩, trivial⟩⟩⟩, ⟨(by show (1 : Nat) ≠ 86; decide), .inl rfl⟩, ⟨(by show (3 : Nat) ≠ 86; decide), .inl rfl⟩, ⟨(by show (6 : Nat) ≠ 86; decide), .inl rfl⟩, ⟨(by show (7 : Nat) ≠ 86; decide), .inl rfl⟩, trivial⟩
          refine Awp.ret ?_
          subst hR
          exact ⟨.inl rfl, rfl, rfl, ⟨rfl, trivial⟩⟩
         ·
          replace hR := of_false h17 hR
          refine Awp.skip ?_
          refine Awp.regionP C ?_
          refine rvP C (.ptr 0 0) ?_
          refine rvP C (.ptr 0 0) ?_
          refine rvP C (.ptr 0 0) ?_
          refine rvP C (.ptr 0 2) ?_
          refine rvP C (.sl 86 0 r2.1.row.D.length 1 false) ?_
          refine rvP C (.ptr 0 0) ?_
          refine rvP C (.ptr 0 0) ?_
          refine rvP C (.ptr 0 2) ?_
          refine rvP C (.sl 86 0 r2.1.row.D.length 1 false) ?_
          refine rvP C (.pv (.lit (.int .i64 (r2.1.row.D.length : Int)))) ?_
          refine rvP C (.pv (.lit (.int .i64 (IntKind.i64.wrap ((r2.1.row.D.length : Int) - 1))))) ?_
          refine rvc_un (rexec_cutOwn C ((r2.1.row.D.dropLast).length) rfl rfl rfl rfl rfl rfl rfl ⟨(by have h_ : 1 ≤ r2.1.row.D.length ∧ r2.1.row.D.length ≤ 9000000000000000000 := (by (first | have h_ := hf0_r (by assumption) | have h_ := hf0_r1 (by assumption) | have h_ := hf0_r2 (by assumption) | have h_ := hf0_r3 (by assumption) | have h_ := hf0_r4 (by assumption) | have h_ := hf0_r5 (by assumption) | have h_ := hf0_r6 (by assumption) | have h_ := hf0_r7 (by assumption) | have h_ := hf0_r8 (by assumption) | have h_ := hf0_r9 (by assumption) | have h_ := hf0_r10 (by assumption) | have h_ := hf0_r11 (by assumption) | have h_ := hf0_r12 (by assumption) | have h_ := hf0_r13 (by assumption) | have h_ := hf0_r14 (by assumption) | have h_ := hf0_r15 (by assumption)); simp at h_; omega); rw [wrap_i64 (by omega) (by omega)]; omega), (by have h_ : 1 ≤ r2.1.row.D.length ∧ r2.1.row.D.length ≤ 9000000000000000000 := (by (first | have h_ := hf0_r (by assumption) | have h_ := hf0_r1 (by assumption) | have h_ := hf0_r2 (by assumption) | have h_ := hf0_r3 (by assumption) | have h_ := hf0_r4 (by assumption) | have h_ := hf0_r5 (by assumption) | have h_ := hf0_r6 (by assumption) | have h_ := hf0_r7 (by assumption) | have h_ := hf0_r8 (by assumption) | have h_ := hf0_r9 (by assumption) | have h_ := hf0_r10 (by assumption) | have h_ := hf0_r11 (by assumption) | have h_ := hf0_r12 (by assumption) | have h_ := hf0_r13 (by assumption) | have h_ := hf0_r14 (by assumption) | have h_ := hf0_r15 (by assumption)); simp at h_; omega); rw [wrap_i64 (by omega) (by omega)]; omega)⟩ (by have h_ : 1 ≤ r2.1.row.D.length ∧ r2.1.row.D.length ≤ 9000000000000000000 := (by (first | have h_ := hf0_r (by assumption) | have h_ := hf0_r1 (by assumption) | have h_ := hf0_r2 (by assumption) | have h_ := hf0_r3 (by assumption) | have h_ := hf0_r4 (by assumption) | have h_ := hf0_r5 (by assumption) | have h_ := hf0_r6 (by assumption) | have h_ := hf0_r7 (by assumption) | have h_ := hf0_r8 (by assumption) | have h_ := hf0_r9 (by assumption) | have h_ := hf0_r10 (by assumption) | have h_ := hf0_r11 (by assumption) | have h_ := hf0_r12 (by assumption) | have h_ := hf0_r13 (by assumption) | have h_ := hf0_r14 (by assumption) | have h_ := hf0_r15 (by assumption)); simp at h_; omega); rw [wrap_i64 (by omega) (by omega)]; rw [List.length_dropLast]; omega) ?_)
          refine rvP C (.ptr 0 0) ?_
          refine rvP C (.ptr 0 2) ?_
          refine rvc_un (rexec_prim C (δ := { v := .undef, wr := [(0, some (.cells [sS (some s.l.nil) eOp s.l.D, .mp 1, .sl 86 0 ((r2.1.row.D.dropLast).length) 1 false]))] }) rfl rfl rfl rfl trivial rfl ?_)
          refine rvc_nil ?_
          refine Awp.cutB 86 ((r2.1.row.D.length - 1) * (eI .i64).sz) _ rfl (encC (eI .i64) (r2.1.row.D.dropLast)) (encC_dropLast _) ?_
          refine Awp.regionP C ?_
          refine rvP C (.pv (.lit (.int .i64 (IntKind.i64.wrap ((i : Int) + 1))))) ?_
          refine rvP C (.pv (.lit (.int .i64 (IntKind.i64.wrap ((i : Int) + 1))))) ?_
          refine rvc_nil ?_
          refine ⟨h5, .inr ⟨((r2.1.row.D.dropLast), r2.1.been), ?_, ?_⟩⟩
          · exact ⟨hR, (by first | rfl | omega | ((first | have h_ := hf0_r (by assumption) | have h_ := hf0_r1 (by assumption) | have h_ := hf0_r2 (by assumption) | have h_ := hf0_r3 (by assumption) | have h_ := hf0_r4 (by assumption) | have h_ := hf0_r5 (by assumption) | have h_ := hf0_r6 (by assumption) | have h_ := hf0_r7 (by assumption) | have h_ := hf0_r8 (by assumption) | have h_ := hf0_r9 (by assumption) | have h_ := hf0_r10 (by assumption) | have h_ := hf0_r11 (by assumption) | have h_ := hf0_r12 (by assumption) | have h_ := hf0_r13 (by assumption) | have h_ := hf0_r14 (by assumption) | have h_ := hf0_r15 (by assumption)); simp at h_; simp; omega))⟩
          · exact ⟨fun b => bif b == 900 then 86 else (fun b => b) b, WeakerR.ofLI (I := [0, 1]) (Ks := [0, 1, 3, 900]) hI ⟨⟨rfl, rfl⟩, ⟨rfl, rfl⟩, ⟨rfl, rfl⟩, ⟨rfl, rfl⟩, ⟨lit_cast (wrap_i64 (by omega) (by omega)), rfl⟩, trivial⟩ (okH_cons rfl rfl rfl rfl (okH_map rfl rfl rfl (okH_cons rfl rfl rfl rfl (okH_list rfl rfl rfl (okH_nil))))) rfl rfl⟩
        ·
         replace hR := of_false h16 hR
         refine Awp.skip ?_
         refine Awp.consP C ?_
         refine rvP C (.ptr 0 0) ?_
         refine rvP C (.ptr 0 0) ?_
         refine rvP C (.ptr 0 0) ?_
         refine rvP C (.ptr 0 2) ?_
         refine rvP C (.sl 900 0 vc.length 1 false) ?_
         refine rvP C (.pv (.lit (.int .i64 (i : Int)))) ?_
         refine rvc_un (rexec_buildSliceF C (eI .i64) [(i : Int)] rfl rfl rfl rfl rfl rfl rfl (by decide) rfl ?_)
         refine rvc_un (rexec_append C rfl rfl rfl rfl rfl rfl rfl rfl (fun _ h => by cases h) rfl (en := (eI .i64)) (D0 := vc) (D := [(i : Int)]) rfl rfl rfl rfl (by have := of_decide_eq_true h4; first | omega | (simp <;> omega)) (by decide) (nn := (vc ++ [(i : Int)]).length) (by simp) ?_)
         refine rvP C (.ptr 0 0) ?_
         refine rvP C (.ptr 0 2) ?_
         refine rvc_un (rexec_prim C (δ := { v := .undef, wr := [(0, some (.cells [sS (some s.l.nil) eOp s.l.D, .mp 1, .sl 81 0 ((vc ++ [(i : Int)]).length) 1 false]))] }) rfl rfl rfl rfl trivial rfl ?_)
         refine rvc_nil ?_
         refine Awp.seq ?_
         refine Awp.cons C (fun _ => .writer) (by kernel_rfl) ?_
         refine rvP C (.ptr 0 0) ?_
         refine rvP C (.agg [.pv (.lit (.int .u64 (mWith p.done (i : Int)))), .pv (.lit (.string p.value))]) ?_
         obtain ⟨r3, hq_r3⟩ : ∃ q_, q_ = (fromO 65 (Search.mk s.l vc1 (Sl.mk false (vc ++ [(i : Int)]))) (Point.mk (mWith p.done (i : Int)) p.value)) := ⟨_, rfl⟩
         have hc_r3 := (fromO_calls 65 (Search.mk s.l vc1 (Sl.mk false (vc ++ [(i : Int)]))) (Point.mk (mWith p.done (i : Int)) p.value) hl64 (with_okD hd (by omega)) (by have h_ := mu_le s.l.D (mWith p.done (i : Int)); show (_ : List Int).length + mu s.l.D (mWith p.done (i : Int)) ≤ 1000000; first | (rw [List.length_append, List.length_singleton]; omega) | (show 1 + _ ≤ _; omega)) (by have h_ := mu_le s.l.D (mWith p.done (i : Int)); show mu s.l.D (mWith p.done (i : Int)) < 65; omega))
         first | rw [← hq_r3] at hR hc_r3 | (unfold fromN at hR; rw [← hq_r3] at hR hc_r3) | (unfold fromN_l0 at hR; rw [← hq_r3] at hR hc_r3)
         have hf0_r3 := fromO_row 65 (Search.mk s.l vc1 (Sl.mk false (vc ++ [(i : Int)]))) (Point.mk (mWith p.done (i : Int)) p.value)
         rw [← hq_r3] at hf0_r3
         refine rvc_un (rexec_callObj hP C (fun b => bif b == 0 then 0 else bif b == 1 then 1 else bif b == 2 then 81 else b) [(86, 3)] rfl rfl rfl hc_r3 rfl rfl ⟨rfl, rfl, trivial⟩ (of_decide_eq_true rfl) rfl (of_decide_eq_true rfl) (of_decide_eq_true rfl) (allB_cons rfl allB_nil) (allB_cons rfl allB_nil) (allB_cons rfl (allB_cons rfl allB_nil)) ?_ rfl (allB_cons rfl (allB_cons rfl allB_nil)))
         refine rvc_nil ?_
         refine Awp.cond (b := r3.2) rfl (fun h18 => ?_) (fun h18 => ?_)
         ·
          replace hR := of_true h18 hR
          refine Awp.consP C ?_
          refine rvP C (.pv (.lit (.bool true))) ?_
          refine rvc_nil ?_
          refine Awp.freezeW 86 (encL (eI .i64) r3.1.row.D) ?_ [(4, .pv (.lit (.bool true)))] [(0, .cells [sS (some s.l.nil) eOp s.l.D, .mp 1, sS (some false) (eI .i64) r3.1.row.D]), (1, mapE kPoint vBool.enc r3.1.been), (3, .cells [.pv (.lit (.int .u64 p.done)), .pv (.lit (.string p.value))]), (6, .cells [.pv (.lit (.bool x.write)), .pv (.lit (.string x.value)), .pv (.lit (.int .i64 x.ver)), .pv (.lit (.int .i64 x.began)), .pv (.lit (.int .i64 x.ended))]), (7, .cells [.pv (.lit (.int .u64 (mWith p.done (i : Int)))), .pv (.lit (.string p.value))])] ?_ ?_ ?_
          · rfl
          · exact ⟨⟨_, rfl, .inl (.inl rfl)⟩, trivial⟩
          · exact ⟨⟨(by show (0 : Nat) ≠ 86; decide), .inr ⟨_, _, rfl, rfl, ⟨.inl rfl, .inl rfl, .inr ⟨_, _, _, rfl, rfl⟩, trivial⟩⟩⟩, ⟨(by show (1 : Nat) ≠ 86; decide), .inl rfl⟩, ⟨(by show (3 : Nat) ≠ 86; decide), .inl rfl⟩, ⟨(by show (6 : Nat) ≠ 86; decide), .inl rfl⟩, ⟨(by show (7 : Nat) ≠ 86; decide), .inl rfl⟩, trivial⟩
          refine Awp.ret ?_
          subst hR
          exact ⟨.inl rfl, rfl, rfl, ⟨rfl, trivial⟩⟩
         ·
          replace hR := of_false h18 hR
          refine Awp.skip ?_
          refine Awp.regionP C ?_
          refine rvP C (.ptr 0 0) ?_
          refine rvP C (.ptr 0 0) ?_
          refine rvP C (.ptr 0 0) ?_
          refine rvP C (.ptr 0 2) ?_
          refine rvP C (.sl 86 0 r3.1.row.D.length 1 false) ?_
          refine rvP C (.ptr 0 0) ?_
          refine rvP C (.ptr 0 0) ?_
          refine rvP C (.ptr 0 2) ?_
          refine rvP C (.sl 86 0 r3.1.row.D.length 1 false) ?_
          refine rvP C (.pv (.lit (.int .i64 (r3.1.row.D.length : Int)))) ?_
          refine rvP C (.pv (.lit (.int .i64 (IntKind.i64.wrap ((r3.1.row.D.length : Int) - 1))))) ?_
          refine rvc_un (rexec_cutOwn C ((r3.1.row.D.dropLast).length) rfl rfl rfl rfl rfl rfl rfl ⟨(by have h_ : 1 ≤ r3.1.row.D.length ∧ r3.1.row.D.length ≤ 9000000000000000000 := (by (first | have h_ := hf0_r (by assumption) | have h_ := hf0_r1 (by assumption) | have h_ := hf0_r2 (by assumption) | have h_ := hf0_r3 (by assumption) | have h_ := hf0_r4 (by assumption) | have h_ := hf0_r5 (by assumption) | have h_ := hf0_r6 (by assumption) | have h_ := hf0_r7 (by assumption) | have h_ := hf0_r8 (by assumption) | have h_ := hf0_r9 (by assumption) | have h_ := hf0_r10 (by assumption) | have h_ := hf0_r11 (by assumption) | have h_ := hf0_r12 (by assumption) | have h_ := hf0_r13 (by assumption) | have h_ := hf0_r14 (by assumption) | have h_ := hf0_r15 (by assumption)); simp at h_; omega); rw [wrap_i64 (by omega) (by omega)]; omega), (by have h_ : 1 ≤ r3.1.row.D.length ∧ r3.1.row.D.length ≤ 9000000000000000000 := (by (first | have h_ := hf0_r (by assumption) | have h_ := hf0_r1 (by assumption) | have h_ := hf0_r2 (by assumption) | have h_ := hf0_r3 (by assumption) | have h_ := hf0_r4 (by assumption) | have h_ := hf0_r5 (by assumption) | have h_ := hf0_r6 (by assumption) | have h_ := hf0_r7 (by assumption) | have h_ := hf0_r8 (by assumption) | have h_ := hf0_r9 (by assumption) | have h_ := hf0_r10 (by assumption) | have h_ := hf0_r11 (by assumption) | have h_ := hf0_r12 (by assumption) | have h_ := hf0_r13 (by assumption) | have h_ := hf0_r14 (by assumption) | have h_ := hf0_r15 (by assumption)); simp at h_; omega); rw [wrap_i64 (by omega) (by omega)]; omega)⟩ (by have h_ : 1 ≤ r3.1.row.D.length ∧ r3.1.row.D.length ≤ 9000000000000000000 := (by (first | have h_ := hf0_r (by assumption) | have h_ := hf0_r1 (by assumption) | have h_ := hf0_r2 (by assumption) | have h_ := hf0_r3 (by assumption) | have h_ := hf0_r4 (by assumption) | have h_ := hf0_r5 (by assumption) | have h_ := hf0_r6 (by assumption) | have h_ := hf0_r7 (by assumption) | have h_ := hf0_r8 (by assumption) | have h_ := hf0_r9 (by assumption) | have h_ := hf0_r10 (by assumption) | have h_ := hf0_r11 (by assumption) | have h_ := hf0_r12 (by assumption) | have h_ := hf0_r13 (by assumption) | have h_ := hf0_r14 (by assumption) | have h_ := hf0_r15 (by assumption)); simp at h_; omega); rw [wrap_i64 (by omega) (by omega)]; rw [List.length_dropLast]; omega) ?_)
          refine rvP C (.ptr 0 0) ?_
          refine rvP C (.ptr 0 2) ?_
          refine rvc_un (rexec_prim C (δ := { v := .undef, wr := [(0, some (.cells [sS (some s.l.nil) eOp s.l.D, .mp 1, .sl 86 0 ((r3.1.row.D.dropLast).length) 1 false]))] }) rfl rfl rfl rfl trivial rfl ?_)
          refine rvc_nil ?_
          refine Awp.cutB 86 ((r3.1.row.D.length - 1) * (eI .i64).sz) _ rfl (encC (eI .i64) (r3.1.row.D.dropLast)) (encC_dropLast _) ?_
          refine Awp.regionP C ?_
          refine rvP C (.pv (.lit (.int .i64 (IntKind.i64.wrap ((i : Int) + 1))))) ?_
          refine rvP C (.pv (.lit (.int .i64 (IntKind.i64.wrap ((i : Int) + 1))))) ?_
          refine rvc_nil ?_
          refine ⟨h5, .inr ⟨((r3.1.row.D.dropLast), r3.1.been), ?_, ?_⟩⟩
          · exact ⟨hR, (by first | rfl | omega | ((first | have h_ := hf0_r (by assumption) | have h_ := hf0_r1 (by assumption) | have h_ := hf0_r2 (by assumption) | have h_ := hf0_r3 (by assumption) | have h_ := hf0_r4 (by assumption) | have h_ := hf0_r5 (by assumption) | have h_ := hf0_r6 (by assumption) | have h_ := hf0_r7 (by assumption) | have h_ := hf0_r8 (by assumption) | have h_ := hf0_r9 (by assumption) | have h_ := hf0_r10 (by assumption) | have h_ := hf0_r11 (by assumption) | have h_ := hf0_r12 (by assumption) | have h_ := hf0_r13 (by assumption) | have h_ := hf0_r14 (by assumption) | have h_ := hf0_r15 (by assumption)); simp at h_; simp; omega))⟩
          · exact ⟨fun b => bif b == 900 then 86 else (fun b => b) b, WeakerR.ofLI (I := [0, 1]) (Ks := [0, 1, 3, 900]) hI ⟨⟨rfl, rfl⟩, ⟨rfl, rfl⟩, ⟨rfl, rfl⟩, ⟨rfl, rfl⟩, ⟨lit_cast (wrap_i64 (by omega) (by omega)), rfl⟩, trivial⟩ (okH_cons rfl rfl rfl rfl (okH_map rfl rfl rfl (okH_cons rfl rfl rfl rfl (okH_list rfl rfl rfl (okH_nil))))) rfl rfl⟩
    ·
     have h5 : ¬ i < s.l.D.length := by have := of_decide_eq_false h4; omega
     rw [drop_end h5] at hR
     refine Awp.exit ?_
     refine Awp.consP C ?_
     refine rvP C (.pv (.lit (.bool false))) ?_
     refine rvc_nil ?_
     refine Awp.freezeW 900 (encL (eI .i64) vc) ?_ [(4, .pv (.lit (.bool false)))] [(0, .cells [sS (some s.l.nil) eOp s.l.D, .mp 1, sS (some false) (eI .i64) vc]), (1, mapE kPoint vBool.enc vc1), (3, .cells [.pv (.lit (.int .u64 p.done)), .pv (.lit (.string p.value))])] ?_ ?_ ?_
     · rfl
     · exact ⟨⟨_, rfl, .inl (.inl rfl)⟩, trivial⟩
     · exact ⟨⟨(by show (0 : Nat) ≠ 900; decide), .inr ⟨_, _, rfl, rfl, ⟨.inl rfl, .inl rfl, .inr ⟨_, _, _, rfl, rfl⟩, trivial⟩⟩⟩, ⟨(by show (1 : Nat) ≠ 900; decide), .inl rfl⟩, ⟨(by show (3 : Nat) ≠ 900; decide), .inl rfl⟩, trivial⟩
     refine Awp.ret ?_
     subst hR
     exact ⟨.inl rfl, rfl, rfl, ⟨rfl, trivial⟩⟩
end Go.Proofs.Ytaoagcdljmpllaa
/- Calls that may be are few; a search with no row as yet is one with an empty one. No conditions. -/
namespace Go.Proofs.Ytaoagcdljmpllaa
open Go.Am
theorem right_len {l : Sl Op} (h : (rightL l != 0) = false) : l.D.length ≤ 64 := by
  unfold rightL at h
  cases h1 : decide ((l.D.length : Int) > 24)
  · have := of_decide_eq_false h1; omega
  · rw [h1] at h; cases h
theorem firstSN_eq (s : Search) (i d : Int) : firstSN s i d = firstSO s i d := by
  unfold firstSN firstSO
  suffices hh : ∀ (ys : List Op) (j : Nat), firstSN_l0 s i d ys j = firstSO_l0 s i d ys j from hh _ 0
  intro ys
  induction ys with
  | nil => intro j; rfl
  | cons y ys ih => intro j; unfold firstSN_l0 firstSO_l0; rw [ih]
theorem allSN_eq (s : Search) (d : Int) : allSN s d = allSO s d := by
  unfold allSN allSO
  suffices hh : ∀ (ys : List Op) (j : Nat), allSN_l0 d ys j = allSO_l0 d ys j from hh _ 0
  intro ys
  induction ys with
  | nil => intro j; rfl
  | cons y ys ih => intro j; unfold allSN_l0 allSO_l0; rw [ih]
theorem allSO_eq (s s' : Search) (h : s.l.D = s'.l.D) (d : Int) : allSO s d = allSO s' d := by unfold allSO; rw [h]
theorem fromN_B (s : Search) (p : Point) : ∀ (l : List Op) (i : Nat) (vc : List Int) (been : List (Point × Bool)), fromN_l0B s p l i vc been = fromB_l0 (fromO 65) s p l i vc been
  | [], _, _, _ => rfl
  | x :: xs, i, vc, been => by unfold fromN_l0B fromB_l0; simp only [fromN_B s p xs]
theorem fromN_step (s : Search) (p : Point) (x : Op) (xs : List Op) (i : Nat) :
    fromN_l0 s p (x :: xs) i = bif cand s.l.D p i x then fromStep (fromO 65) s p xs i (fromO 65 (Search.mk s.l (mSet kPoint p true s.been) (Sl.mk false [(i : Int)])) (goOn p i x)) else fromN_l0 s p xs (i + 1) := by
  conv => lhs; unfold fromN_l0
  unfold cand goOn fromStep
  simp only [fromN_B, firstSN_eq]
  rw [firstSO_eq (Search.mk (Sl.mk false s.l.D) [] (Sl.mk false [])) (Search.mk s.l (mSet kPoint p true s.been) (Sl.mk true [])) rfl]
  cases mHas p.done (i : Int) <;> cases x.write <;> cases (x.ended == 0) <;> cases (x.value.toList == p.value.toList) <;> cases firstSO (Search.mk s.l (mSet kPoint p true s.been) (Sl.mk true [])) (i : Int) p.done <;> rfl
theorem fromN_l (s : Search) (p : Point) : ∀ (l : List Op) (i : Nat), (fromN_l0 s p l i).2 = (fromB_l0 (fromO 65) s p l i [] (mSet kPoint p true s.been)).2 ∧ (fromN_l0 s p l i).1.row.D = (fromB_l0 (fromO 65) s p l i [] (mSet kPoint p true s.been)).1.row.D
  | [], _ => ⟨rfl, rfl⟩
  | x :: xs, i => by
    rw [fromN_step, fromB_step]
    cases cand s.l.D p i x
    · exact fromN_l s p xs (i + 1)
    · exact ⟨rfl, rfl⟩
theorem fromN_eq (s : Search) (hs : s.row.D = []) (p : Point) : (fromN s p).2 = (fromO 66 s p).2 ∧ (fromN s p).1.row.D = (fromO 66 s p).1.row.D := by
  change (fromN s p).2 = (fromB (fromO 65) s p).2 ∧ (fromN s p).1.row.D = (fromB (fromO 65) s p).1.row.D
  unfold fromN fromB
  rw [allSN_eq, allSO_eq (Search.mk s.l s.been (Sl.mk true [])) (Search.mk s.l s.been (Sl.mk false s.row.D)) rfl, hs]
  cases allSO (Search.mk s.l s.been (Sl.mk false [])) p.done
  · cases (mGet kPoint p s.been).getD false
    · exact fromN_l s p s.l.D 0
    · exact ⟨rfl, rfl⟩
  · exact ⟨rfl, rfl⟩
theorem fromB_len {rec : Search → Point → Search × Bool} {k : Nat} (hrec : ∀ s p, (rec s p).1.row.D.length ≤ s.row.D.length + k) (hrow : ∀ s p, (rec s p).2 = false → (rec s p).1.row.D = s.row.D) (s : Search) (p : Point) : ∀ (l : List Op) (i : Nat) (row : List Int) (been : List (Point × Bool)), (fromB_l0 rec s p l i row been).1.row.D.length ≤ row.length + (k + 1)
  | [], _, row, _ => by show row.length ≤ _; omega
  | x :: xs, i, row, been => by
    rw [fromB_step]
    cases cand s.l.D p i x
    · exact fromB_len hrec hrow s p xs (i + 1) row been
    · rw [cond_true]
      unfold fromStep
      have h1 := hrec (Search.mk s.l been (Sl.mk false (row ++ [(i : Int)]))) (goOn p i x)
      have h2 := hrow (Search.mk s.l been (Sl.mk false (row ++ [(i : Int)]))) (goOn p i x)
      generalize rec (Search.mk s.l been (Sl.mk false (row ++ [(i : Int)]))) (goOn p i x) = q at h1 h2 ⊢
      have h1 : q.1.row.D.length ≤ (row ++ [(i : Int)]).length + k := h1
      rw [List.length_append, List.length_singleton] at h1
      cases h3 : q.2
      · rw [cond_false]
        have h4 : q.1.row.D = row ++ [(i : Int)] := h2 h3
        rw [h4, List.dropLast_concat]
        exact fromB_len hrec hrow s p xs (i + 1) row _
      · rw [cond_true]; show q.1.row.D.length ≤ _; omega
theorem fromO_len : ∀ (k : Nat) (s : Search) (p : Point), (fromO k s p).1.row.D.length ≤ s.row.D.length + k
  | 0, _, _ => Nat.le_refl _
  | k + 1, s, p => by
    change (fromB (fromO k) s p).1.row.D.length ≤ _
    unfold fromB
    cases allSO (Search.mk s.l s.been (Sl.mk false s.row.D)) p.done
    · cases (mGet kPoint p s.been).getD false
      · exact fromB_len (fromO_len k) (fromO_rowD k) s p _ _ _ _
      · show s.row.D.length ≤ _; omega
    · show s.row.D.length ≤ _; omega
theorem fromN_len (s : Search) (hs : s.row.D = []) (p : Point) : (fromN s p).1.row.D.length ≤ 66 := by
  rw [(fromN_eq s hs p).2]
  have := fromO_len 66 s p
  rw [hs] at this
  simpa using this
end Go.Proofs.Ytaoagcdljmpllaa
/- An order of calls. No conditions. -/
namespace Go.Proofs.Ytaoagcdljmpllaa
open Go.Am
def cloneInts (s : (Sl Int)) : (Sl Int) :=
  (bif s.nil then (Sl.mk true []) else (Sl.mk false s.D))
theorem cloneInts_calls (s : (Sl Int)) (hl1 : s.D.length ≤ 1000000) : PCalls Try.prog 47 [sS (some s.nil) (eI .i64) s.D] (sS (some (cloneInts s).nil) (eI .i64) ((cloneInts s).D)) := by
 generalize hR : cloneInts s = R
 refine PCalls.of_body tabOk Try.func47 rfl rfl rfl rfl rfl mixed fun E hP C hI => ?_
 refine Awp.consP C ?_
 refine rvP C (sS (some true) (eI .i64) []) ?_
 refine rvc_nil ?_
 refine Awp.seq ?_
 refine Awp.consP C ?_
 refine rvP C (sS (some s.nil) (eI .i64) s.D) ?_
 refine rvc_un (rexec_eqNil C (f := s.nil) rfl rfl rfl rfl ?_)
 refine rvc_nil ?_
 refine Awp.cond (b := s.nil) rfl (fun h1 => ?_) (fun h1 => ?_)
 ·
  replace hR := of_true h1 hR
  refine Awp.consP C ?_
  refine rvP C (sS (some true) (eI .i64) []) ?_
  refine rvc_nil ?_
  refine Awp.ret ?_
  subst hR
  exact ⟨.inl rfl, rfl⟩
 ·
  replace hR := of_false h1 hR
  refine Awp.skip ?_
  refine Awp.consP C ?_
  refine rvc_un (rexec_prim C (δ := { v := .sl 5 0 0 1 true, new := [(5, .cells (encC (eI .i64) []))] }) rfl rfl rfl rfl trivial rfl ?_)
  refine rvP C (sS (some s.nil) (eI .i64) s.D) ?_
  refine rvc_un (rexec_append C rfl rfl rfl rfl rfl rfl rfl rfl (fun _ h => by cases h) rfl (en := (eI .i64)) (D0 := []) (D := s.D) rfl rfl rfl rfl (by first | omega | (simp <;> omega)) (by decide) (nn := s.D.length) (by simp) ?_)
  refine rvP C (.sl 7 0 s.D.length 1 false) ?_
  refine rvc_nil ?_
  refine Awp.freezeW 7 (encL (eI .i64) s.D) ?_ [(2, sS (some false) (eI .i64) s.D)] [] ?_ ?_ ?_
  · rfl
  · exact ⟨⟨_, rfl, .inl (.inr ⟨_, _, _, rfl, rfl⟩)⟩, trivial⟩
  · exact trivial
  refine Awp.ret ?_
  subst hR
  exact ⟨.inl rfl, rfl⟩
def order (l : (Sl Op)) : (Sl Int) × Bool × Int :=
  (bif ((rightL l) != 0) then ((Sl.mk true []), false, (rightL l)) else (bif (!((fromN (Search.mk l [] (Sl.mk true [])) (Point.mk 0 ⟨#[]⟩)).2)) then ((Sl.mk true []), false, 0) else ((cloneInts ((fromN (Search.mk l [] (Sl.mk true [])) (Point.mk 0 ⟨#[]⟩)).1.row)), true, 0)))
theorem order_calls (l : (Sl Op)) (hl1 : l.D.length ≤ 9223372036854775807) : PCalls Try.prog 28 [sS (some l.nil) eOp l.D] (.tup [sS (some (order l).1.nil) (eI .i64) ((order l).1.D), .pv (.lit (.bool ((order l).2.1))), .pv (.lit (.int .i64 ((order l).2.2)))]) := by
 generalize hR : order l = R
 refine PCalls.of_body tabOk Try.func28 rfl rfl rfl rfl rfl mixed fun E hP C hI => ?_
 refine Awp.consP C ?_
 refine rvP C (sS (some true) (eI .i64) []) ?_
 refine rvP C (.pv (.lit (.bool false))) ?_
 refine rvP C (.pv (.lit (.int .i64 0))) ?_
 refine rvc_nil ?_
 refine Awp.seq ?_
 refine Awp.consP C ?_
 refine rvP C (sS (some l.nil) eOp l.D) ?_
 refine rvc_un (rexec_call hP C rfl rfl rfl (rightL_calls l hl1) ?_)
 refine rvP C (.pv (.lit (.int .i64 (rightL l)))) ?_
 refine rvc_nil ?_
 refine Awp.consP C ?_
 refine rvP C (.pv (.lit (.int .i64 (rightL l)))) ?_
 refine rvP C (.pv (.lit (.bool ((rightL l) != 0)))) ?_
 refine rvc_nil ?_
 refine Awp.cond (b := ((rightL l) != 0)) rfl (fun h1 => ?_) (fun h1 => ?_)
 ·
  replace hR := of_true h1 hR
  refine Awp.consP C ?_
  refine rvP C (.pv (.lit (.int .i64 (rightL l)))) ?_
  refine rvP C (sS (some true) (eI .i64) []) ?_
  refine rvP C (.pv (.lit (.bool false))) ?_
  refine rvP C (.pv (.lit (.int .i64 (rightL l)))) ?_
  refine rvc_nil ?_
  refine Awp.ret ?_
  subst hR
  exact ⟨.inl rfl, rfl⟩
 ·
  replace hR := of_false h1 hR
  refine Awp.skip ?_
  refine Awp.consP C ?_
  refine rvP C (sS (some l.nil) eOp l.D) ?_
  refine rvc_un (rexec_makeMap C rfl rfl kPoint vBool ?_)
  refine rvP C (.agg [sS (some l.nil) eOp l.D, .mp 13, sS (some true) (eI .i64) []]) ?_
  refine rvc_un (rexec_prim C (δ := { v := .ptr 15 0, new := [(15, .cells [sS (some l.nil) eOp l.D, .mp 13, sS (some true) (eI .i64) []])] }) rfl rfl rfl rfl trivial rfl ?_)
  refine rvP C (.ptr 15 0) ?_
  refine rvc_nil ?_
  refine Awp.seq ?_
  refine Awp.cons C (fun _ => .writer) (by kernel_rfl) ?_
  refine rvP C (.ptr 15 0) ?_
  refine rvP C (.agg [.pv (.lit (.int .u64 0)), .pv (.lit (.string ⟨#[]⟩))]) ?_
  refine rvc_un (rexec_callObj hP C (fun b => bif b == 0 then 15 else bif b == 1 then 13 else b) [] rfl rfl rfl (fromN_calls (Search.mk l [] (Sl.mk true [])) (Point.mk 0 ⟨#[]⟩) (right_len (by assumption)) ⟨by decide, by decide⟩ hl1) rfl rfl ⟨rfl, trivial⟩ (of_decide_eq_true rfl) rfl (of_decide_eq_true rfl) (of_decide_eq_true rfl) allB_nil allB_nil (allB_cons rfl allB_nil) ?_ rfl (allB_cons rfl allB_nil))
  refine rvP C (.pv (.lit (.bool (!((fromN (Search.mk l [] (Sl.mk true [])) (Point.mk 0 ⟨#[]⟩)).2))))) ?_
  refine rvc_nil ?_
  refine Awp.cond (b := (!((fromN (Search.mk l [] (Sl.mk true [])) (Point.mk 0 ⟨#[]⟩)).2))) rfl (fun h2 => ?_) (fun h2 => ?_)
  ·
   replace hR := of_true h2 hR
   refine Awp.consP C ?_
   refine rvP C (sS (some true) (eI .i64) []) ?_
   refine rvP C (.pv (.lit (.bool false))) ?_
   refine rvP C (.pv (.lit (.int .i64 0))) ?_
   refine rvc_nil ?_
   refine Awp.ret ?_
   subst hR
   exact ⟨.inl rfl, rfl⟩
  ·
   replace hR := of_false h2 hR
   refine Awp.skip ?_
   refine Awp.consP C ?_
   refine rvP C (.ptr 15 0) ?_
   refine rvP C (.ptr 15 0) ?_
   refine rvP C (.ptr 15 2) ?_
   refine rvP C (sS (some (fromN (Search.mk l [] (Sl.mk true [])) (Point.mk 0 ⟨#[]⟩)).1.row.nil) (eI .i64) ((fromN (Search.mk l [] (Sl.mk true [])) (Point.mk 0 ⟨#[]⟩)).1.row.D)) ?_
   refine rvc_un (rexec_call hP C rfl rfl rfl (cloneInts_calls ((fromN (Search.mk l [] (Sl.mk true [])) (Point.mk 0 ⟨#[]⟩)).1.row) (Nat.le_trans (fromN_len _ rfl _) (by decide))) ?_)
   refine rvP C (sS (some (cloneInts ((fromN (Search.mk l [] (Sl.mk true [])) (Point.mk 0 ⟨#[]⟩)).1.row)).nil) (eI .i64) ((cloneInts ((fromN (Search.mk l [] (Sl.mk true [])) (Point.mk 0 ⟨#[]⟩)).1.row)).D)) ?_
   refine rvP C (.pv (.lit (.bool true))) ?_
   refine rvP C (.pv (.lit (.int .i64 0))) ?_
   refine rvc_nil ?_
   refine Awp.ret ?_
   subst hR
   exact ⟨.inl rfl, rfl⟩
end Go.Proofs.Ytaoagcdljmpllaa
/- What the reference asks. No conditions. -/
namespace Go.Proofs.Ytaoagcdljmpllaa
open Go.Am
def eqInts_l0 (s2 : (Sl Int)) : List Int → Nat → Bool
  | [], _ => true
  | x :: xs, i => (bif (x != (s2.D[(i : Int).toNat]!)) then false else eqInts_l0 s2 xs (i + 1) )
def eqInts (s1 : (Sl Int)) (s2 : (Sl Int)) : Bool :=
  (bif ((s1.D.length : Int) != (s2.D.length : Int)) then false else eqInts_l0 s2 s1.D 0 )
theorem eqInts_calls (s1 : (Sl Int)) (s2 : (Sl Int)) (hl1 : s1.D.length ≤ 9223372036854775807) : PCalls Try.prog 45 [sS (some s1.nil) (eI .i64) s1.D, sS (some s2.nil) (eI .i64) s2.D] (.pv (.lit (.bool (eqInts s1 s2)))) := by
 generalize hR : eqInts s1 s2 = R
 refine PCalls.of_body tabOk Try.func45 rfl rfl rfl rfl rfl mixed fun E hP C hI => ?_
 refine Awp.consP C ?_
 refine rvP C (.pv (.lit (.bool false))) ?_
 refine rvc_nil ?_
 refine Awp.seq ?_
 refine Awp.consP C ?_
 refine rvP C (sS (some s1.nil) (eI .i64) s1.D) ?_
 refine rvP C (.pv (.lit (.int .i64 (s1.D.length : Int)))) ?_
 refine rvP C (sS (some s2.nil) (eI .i64) s2.D) ?_
 refine rvP C (.pv (.lit (.int .i64 (s2.D.length : Int)))) ?_
 refine rvP C (.pv (.lit (.bool ((s1.D.length : Int) != (s2.D.length : Int))))) ?_
 refine rvc_nil ?_
 refine Awp.cond (b := ((s1.D.length : Int) != (s2.D.length : Int))) rfl (fun h1 => ?_) (fun h1 => ?_)
 ·
  replace hR := of_true h1 hR
  refine Awp.consP C ?_
  refine rvP C (.pv (.lit (.bool false))) ?_
  refine rvc_nil ?_
  refine Awp.ret ?_
  subst hR
  exact ⟨.inl rfl, rfl⟩
 ·
  replace hR := of_false h1 hR
  refine Awp.skip ?_
  refine Awp.seq ?_
  refine Awp.consP C ?_
  refine rvP C (sS (some s1.nil) (eI .i64) s1.D) ?_
  refine rvP C (.pv (.lit (.int .i64 (s1.D.length : Int)))) ?_
  refine rvP C (.pv (.lit (.int .i64 0))) ?_
  refine rvc_nil ?_
  refine Awp.block ?_
  refine Awp.forR (σ := Unit) (s1.D.length) (fun i _v => [(0, sS (some s1.nil) (eI .i64) s1.D), (1, sS (some s2.nil) (eI .i64) s2.D), (12, .pv (.lit (.int .i64 (s1.D.length : Int)))), (13, .pv (.lit (.int .i64 (i : Int))))]) (fun i _v => []) [] (fun i _v => eqInts_l0 s2 (s1.D.drop i) i  = R) () ?_ ?_ (fun i _v h2 hR => ?_)
  · exact hR
  · exact ⟨fun b => b, WeakerR.ofL (Ks := []) hI ⟨⟨rfl, rfl⟩, ⟨rfl, rfl⟩, ⟨rfl, rfl⟩, ⟨rfl, rfl⟩, trivial⟩ (okH_nil) rfl⟩
  refine Awp.consP C ?_
  refine rvP C (.pv (.lit (.bool (decide ((i : Int) < (s1.D.length : Int)))))) ?_
  refine rvc_nil ?_
  refine Awp.seq ?_
  refine Awp.cond (b := (decide ((i : Int) < (s1.D.length : Int)))) rfl (fun h3 => ?_) (fun h3 => ?_)
  ·
   have h4 : i < s1.D.length := by have := of_decide_eq_true h3; omega
   obtain ⟨x, h5⟩ := getX h4
   rw [drop_at h5] at hR
   refine Awp.skip ?_
   refine Awp.seq ?_
   refine Awp.block ?_
   refine Awp.consP C ?_
   refine rvP C (.pv (.lit (.int .i64 (i : Int)))) ?_
   refine rvP C (.pv (.lit (.int .i64 (i : Int)))) ?_
   refine rvc_nil ?_
   refine Awp.consP C ?_
   refine rvP C (sS (some s1.nil) (eI .i64) s1.D) ?_
   refine rvP C (.pv (.lit (.int .i64 (i : Int)))) ?_
   refine rvc_un (rexec_idxS C rfl rfl rfl rfl rfl rfl x (Int.natCast_nonneg _) h5 ?_)
   refine rvP C (.pv (.lit (.int .i64 x))) ?_
   refine rvP C (sS (some s2.nil) (eI .i64) s2.D) ?_
   refine rvP C (.pv (.lit (.int .i64 (i : Int)))) ?_
   have h6 : s2.D[(i : Int).toNat]? = some s2.D[(i : Int).toNat]! := getE (by have := eq_of_bne_false h1; have := of_decide_eq_true h3; omega)
   refine rvc_un (rexec_idxS C rfl rfl rfl rfl rfl rfl (s2.D[(i : Int).toNat]!) (Int.natCast_nonneg _) h6 ?_)
   refine rvP C (.pv (.lit (.int .i64 (s2.D[(i : Int).toNat]!)))) ?_
   refine rvP C (.pv (.lit (.bool (x != (s2.D[(i : Int).toNat]!))))) ?_
   refine rvc_nil ?_
   refine Awp.cond (b := (x != (s2.D[(i : Int).toNat]!))) rfl (fun h7 => ?_) (fun h7 => ?_)
   ·
    replace hR := of_true h7 hR
    refine Awp.consP C ?_
    refine rvP C (.pv (.lit (.bool false))) ?_
    refine rvc_nil ?_
    refine Awp.ret ?_
    subst hR
    exact ⟨.inl rfl, rfl⟩
   ·
    replace hR := of_false h7 hR
    refine Awp.skip ?_
    refine Awp.regionP C ?_
    refine rvP C (.pv (.lit (.int .i64 (IntKind.i64.wrap ((i : Int) + 1))))) ?_
    refine rvP C (.pv (.lit (.int .i64 (IntKind.i64.wrap ((i : Int) + 1))))) ?_
    refine rvc_nil ?_
    refine ⟨h4, (), ?_, ?_⟩
    · exact hR
    · exact ⟨fun b => b, WeakerR.ofL (Ks := []) hI ⟨⟨rfl, rfl⟩, ⟨rfl, rfl⟩, ⟨rfl, rfl⟩, ⟨lit_cast (wrap_i64 (by omega) (by omega)), rfl⟩, trivial⟩ (okH_nil) rfl⟩
  ·
   have h4 : ¬ i < s1.D.length := by have := of_decide_eq_false h3; omega
   rw [drop_end h4] at hR
   refine Awp.exit ?_
   refine Awp.consP C ?_
   refine rvP C (.pv (.lit (.bool true))) ?_
   refine rvc_nil ?_
   refine Awp.ret ?_
   subst hR
   exact ⟨.inl rfl, rfl⟩
end Go.Proofs.Ytaoagcdljmpllaa
/- Fewer are left. No conditions. -/
namespace Go.Proofs.Ytaoagcdljmpllaa
open Go.Am
end Go.Proofs.Ytaoagcdljmpllaa
/- Is there an order, one step. No conditions. -/
namespace Go.Proofs.Ytaoagcdljmpllaa
open Go.Am
end Go.Proofs.Ytaoagcdljmpllaa
/- Is there an order: by rounds. No conditions. -/
namespace Go.Proofs.Ytaoagcdljmpllaa
open Go.Am
end Go.Proofs.Ytaoagcdljmpllaa
/- Does a row fit. No conditions. -/
namespace Go.Proofs.Ytaoagcdljmpllaa
open Go.Am
end Go.Proofs.Ytaoagcdljmpllaa
/- The examples. No conditions. -/
namespace Go.Proofs.Ytaoagcdljmpllaa
open Go.Am
def awakeL  : Bool :=
  (bif (order (Sl.mk false [(Op.mk true ⟨#[97]⟩ 1 1 2), (Op.mk false ⟨#[97]⟩ 1 3 4)])).2.1 then (bif (((order (Sl.mk false [(Op.mk true ⟨#[97]⟩ 1 1 2), (Op.mk false ⟨#[97]⟩ 1 3 4)])).2.2) == 0) then (bif (eqInts ((order (Sl.mk false [(Op.mk true ⟨#[97]⟩ 1 1 2), (Op.mk false ⟨#[97]⟩ 1 3 4)])).1) (Sl.mk false [0, 1])) then (bif (!((order (Sl.mk false [(Op.mk true ⟨#[97]⟩ 1 1 2), (Op.mk false ⟨#[]⟩ 0 3 4)])).2.1)) then (bif (((order (Sl.mk false [(Op.mk true ⟨#[97]⟩ 1 1 2), (Op.mk false ⟨#[]⟩ 0 3 4)])).2.2) == 0) then (bif (!((order (Sl.mk false [(Op.mk true ⟨#[97]⟩ 1 1 0), (Op.mk false ⟨#[97]⟩ 0 3 4), (Op.mk false ⟨#[]⟩ 0 5 6)])).2.1)) then (bif (((order (Sl.mk false [(Op.mk true ⟨#[97]⟩ 1 1 0), (Op.mk false ⟨#[97]⟩ 0 3 4), (Op.mk false ⟨#[]⟩ 0 5 6)])).2.2) == 0) then ((rightL (Sl.mk false [(Op.mk false ⟨#[]⟩ 0 0 0)])) == 70) else false) else false) else false) else false) else false) else false) else false)
theorem awakeL_calls   : PCalls Try.prog 27 [] (.pv (.lit (.bool (awakeL )))) := by
 generalize hR : awakeL  = R
 refine PCalls.of_body tabOk Try.func27 rfl rfl rfl rfl rfl mixed fun E hP C hI => ?_
 refine Awp.consP C ?_
 refine rvP C (.pv (.lit (.bool false))) ?_
 refine rvc_nil ?_
 refine Awp.consP C ?_
 refine rvP C (.agg [.pv (.lit (.bool true)), .pv (.lit (.string ⟨#[97]⟩)), .pv (.lit (.int .i64 1)), .pv (.lit (.int .i64 1)), .pv (.lit (.int .i64 2))]) ?_
 refine rvc_un (rexec_prim C (δ := { v := .ptr 1 0, new := [(1, .cells [.pv (.lit (.bool false)), .pv (.lit (.string ⟨#[]⟩)), .pv (.lit (.int .i64 0)), .pv (.lit (.int .i64 0)), .pv (.lit (.int .i64 0))])] }) rfl rfl rfl rfl trivial rfl ?_)
 refine rvc_un (rexec_prim C (δ := { v := .undef, wr := [(1, some (.cells [.pv (.lit (.bool true)), .pv (.lit (.string ⟨#[97]⟩)), .pv (.lit (.int .i64 1)), .pv (.lit (.int .i64 1)), .pv (.lit (.int .i64 2))]))] }) rfl rfl rfl rfl trivial rfl ?_)
 refine rvc_nil ?_
 refine Awp.consP C ?_
 refine rvP C (.agg [.pv (.lit (.bool true)), .pv (.lit (.string ⟨#[97]⟩)), .pv (.lit (.int .i64 1)), .pv (.lit (.int .i64 1)), .pv (.lit (.int .i64 2))]) ?_
 refine rvP C (.agg [.pv (.lit (.bool false)), .pv (.lit (.string ⟨#[97]⟩)), .pv (.lit (.int .i64 1)), .pv (.lit (.int .i64 3)), .pv (.lit (.int .i64 4))]) ?_
 refine rvc_un (rexec_buildSliceF C eOp [(Op.mk true ⟨#[97]⟩ 1 1 2), (Op.mk false ⟨#[97]⟩ 1 3 4)] rfl rfl rfl rfl rfl rfl rfl (by decide) rfl ?_)
 refine rvc_un (rexec_call hP C rfl rfl rfl (order_calls (Sl.mk false [(Op.mk true ⟨#[97]⟩ 1 1 2), (Op.mk false ⟨#[97]⟩ 1 3 4)]) (of_decide_eq_true (by kernel_rfl))) ?_)
 refine rvP C (.tup [sS (some (order (Sl.mk false [(Op.mk true ⟨#[97]⟩ 1 1 2), (Op.mk false ⟨#[97]⟩ 1 3 4)])).1.nil) (eI .i64) ((order (Sl.mk false [(Op.mk true ⟨#[97]⟩ 1 1 2), (Op.mk false ⟨#[97]⟩ 1 3 4)])).1.D), .pv (.lit (.bool ((order (Sl.mk false [(Op.mk true ⟨#[97]⟩ 1 1 2), (Op.mk false ⟨#[97]⟩ 1 3 4)])).2.1))), .pv (.lit (.int .i64 ((order (Sl.mk false [(Op.mk true ⟨#[97]⟩ 1 1 2), (Op.mk false ⟨#[97]⟩ 1 3 4)])).2.2)))]) ?_
 refine rvP C (sS (some (order (Sl.mk false [(Op.mk true ⟨#[97]⟩ 1 1 2), (Op.mk false ⟨#[97]⟩ 1 3 4)])).1.nil) (eI .i64) ((order (Sl.mk false [(Op.mk true ⟨#[97]⟩ 1 1 2), (Op.mk false ⟨#[97]⟩ 1 3 4)])).1.D)) ?_
 refine rvP C (.pv (.lit (.bool ((order (Sl.mk false [(Op.mk true ⟨#[97]⟩ 1 1 2), (Op.mk false ⟨#[97]⟩ 1 3 4)])).2.1)))) ?_
 refine rvP C (.pv (.lit (.int .i64 ((order (Sl.mk false [(Op.mk true ⟨#[97]⟩ 1 1 2), (Op.mk false ⟨#[97]⟩ 1 3 4)])).2.2)))) ?_
 refine rvP C (sS (some (order (Sl.mk false [(Op.mk true ⟨#[97]⟩ 1 1 2), (Op.mk false ⟨#[97]⟩ 1 3 4)])).1.nil) (eI .i64) ((order (Sl.mk false [(Op.mk true ⟨#[97]⟩ 1 1 2), (Op.mk false ⟨#[97]⟩ 1 3 4)])).1.D)) ?_
 refine rvP C (.pv (.lit (.bool ((order (Sl.mk false [(Op.mk true ⟨#[97]⟩ 1 1 2), (Op.mk false ⟨#[97]⟩ 1 3 4)])).2.1)))) ?_
 refine rvP C (.pv (.lit (.int .i64 ((order (Sl.mk false [(Op.mk true ⟨#[97]⟩ 1 1 2), (Op.mk false ⟨#[97]⟩ 1 3 4)])).2.2)))) ?_
 refine rvc_nil ?_
 refine Awp.consP C ?_
 refine rvP C (.agg [.pv (.lit (.bool true)), .pv (.lit (.string ⟨#[97]⟩)), .pv (.lit (.int .i64 1)), .pv (.lit (.int .i64 1)), .pv (.lit (.int .i64 2))]) ?_
 refine rvP C (.agg [.pv (.lit (.bool false)), .pv (.lit (.string ⟨#[]⟩)), .pv (.lit (.int .i64 0)), .pv (.lit (.int .i64 3)), .pv (.lit (.int .i64 4))]) ?_
 refine rvc_un (rexec_buildSliceF C eOp [(Op.mk true ⟨#[97]⟩ 1 1 2), (Op.mk false ⟨#[]⟩ 0 3 4)] rfl rfl rfl rfl rfl rfl rfl (by decide) rfl ?_)
 refine rvc_un (rexec_call hP C rfl rfl rfl (order_calls (Sl.mk false [(Op.mk true ⟨#[97]⟩ 1 1 2), (Op.mk false ⟨#[]⟩ 0 3 4)]) (of_decide_eq_true (by kernel_rfl))) ?_)
 refine rvP C (.tup [sS (some (order (Sl.mk false [(Op.mk true ⟨#[97]⟩ 1 1 2), (Op.mk false ⟨#[]⟩ 0 3 4)])).1.nil) (eI .i64) ((order (Sl.mk false [(Op.mk true ⟨#[97]⟩ 1 1 2), (Op.mk false ⟨#[]⟩ 0 3 4)])).1.D), .pv (.lit (.bool ((order (Sl.mk false [(Op.mk true ⟨#[97]⟩ 1 1 2), (Op.mk false ⟨#[]⟩ 0 3 4)])).2.1))), .pv (.lit (.int .i64 ((order (Sl.mk false [(Op.mk true ⟨#[97]⟩ 1 1 2), (Op.mk false ⟨#[]⟩ 0 3 4)])).2.2)))]) ?_
 refine rvP C (sS (some (order (Sl.mk false [(Op.mk true ⟨#[97]⟩ 1 1 2), (Op.mk false ⟨#[]⟩ 0 3 4)])).1.nil) (eI .i64) ((order (Sl.mk false [(Op.mk true ⟨#[97]⟩ 1 1 2), (Op.mk false ⟨#[]⟩ 0 3 4)])).1.D)) ?_
 refine rvP C (.pv (.lit (.bool ((order (Sl.mk false [(Op.mk true ⟨#[97]⟩ 1 1 2), (Op.mk false ⟨#[]⟩ 0 3 4)])).2.1)))) ?_
 refine rvP C (.pv (.lit (.int .i64 ((order (Sl.mk false [(Op.mk true ⟨#[97]⟩ 1 1 2), (Op.mk false ⟨#[]⟩ 0 3 4)])).2.2)))) ?_
 refine rvP C (sS (some (order (Sl.mk false [(Op.mk true ⟨#[97]⟩ 1 1 2), (Op.mk false ⟨#[]⟩ 0 3 4)])).1.nil) (eI .i64) ((order (Sl.mk false [(Op.mk true ⟨#[97]⟩ 1 1 2), (Op.mk false ⟨#[]⟩ 0 3 4)])).1.D)) ?_
 refine rvP C (.pv (.lit (.bool ((order (Sl.mk false [(Op.mk true ⟨#[97]⟩ 1 1 2), (Op.mk false ⟨#[]⟩ 0 3 4)])).2.1)))) ?_
 refine rvP C (.pv (.lit (.int .i64 ((order (Sl.mk false [(Op.mk true ⟨#[97]⟩ 1 1 2), (Op.mk false ⟨#[]⟩ 0 3 4)])).2.2)))) ?_
 refine rvc_nil ?_
 refine Awp.consP C ?_
 refine rvP C (.ptr 1 4) ?_
 refine rvc_un (rexec_prim C (δ := { v := .undef, wr := [(1, some (.cells [.pv (.lit (.bool true)), .pv (.lit (.string ⟨#[97]⟩)), .pv (.lit (.int .i64 1)), .pv (.lit (.int .i64 1)), .pv (.lit (.int .i64 0))]))] }) rfl rfl rfl rfl trivial rfl ?_)
 refine rvc_nil ?_
 refine Awp.consP C ?_
 refine rvP C (.agg [.pv (.lit (.bool true)), .pv (.lit (.string ⟨#[97]⟩)), .pv (.lit (.int .i64 1)), .pv (.lit (.int .i64 1)), .pv (.lit (.int .i64 0))]) ?_
 refine rvP C (.agg [.pv (.lit (.bool false)), .pv (.lit (.string ⟨#[97]⟩)), .pv (.lit (.int .i64 0)), .pv (.lit (.int .i64 3)), .pv (.lit (.int .i64 4))]) ?_
 refine rvP C (.agg [.pv (.lit (.bool false)), .pv (.lit (.string ⟨#[]⟩)), .pv (.lit (.int .i64 0)), .pv (.lit (.int .i64 5)), .pv (.lit (.int .i64 6))]) ?_
 refine rvc_un (rexec_buildSliceF C eOp [(Op.mk true ⟨#[97]⟩ 1 1 0), (Op.mk false ⟨#[97]⟩ 0 3 4), (Op.mk false ⟨#[]⟩ 0 5 6)] rfl rfl rfl rfl rfl rfl rfl (by decide) rfl ?_)
 refine rvc_un (rexec_call hP C rfl rfl rfl (order_calls (Sl.mk false [(Op.mk true ⟨#[97]⟩ 1 1 0), (Op.mk false ⟨#[97]⟩ 0 3 4), (Op.mk false ⟨#[]⟩ 0 5 6)]) (of_decide_eq_true (by kernel_rfl))) ?_)
 refine rvP C (.tup [sS (some (order (Sl.mk false [(Op.mk true ⟨#[97]⟩ 1 1 0), (Op.mk false ⟨#[97]⟩ 0 3 4), (Op.mk false ⟨#[]⟩ 0 5 6)])).1.nil) (eI .i64) ((order (Sl.mk false [(Op.mk true ⟨#[97]⟩ 1 1 0), (Op.mk false ⟨#[97]⟩ 0 3 4), (Op.mk false ⟨#[]⟩ 0 5 6)])).1.D), .pv (.lit (.bool ((order (Sl.mk false [(Op.mk true ⟨#[97]⟩ 1 1 0), (Op.mk false ⟨#[97]⟩ 0 3 4), (Op.mk false ⟨#[]⟩ 0 5 6)])).2.1))), .pv (.lit (.int .i64 ((order (Sl.mk false [(Op.mk true ⟨#[97]⟩ 1 1 0), (Op.mk false ⟨#[97]⟩ 0 3 4), (Op.mk false ⟨#[]⟩ 0 5 6)])).2.2)))]) ?_
 refine rvP C (sS (some (order (Sl.mk false [(Op.mk true ⟨#[97]⟩ 1 1 0), (Op.mk false ⟨#[97]⟩ 0 3 4), (Op.mk false ⟨#[]⟩ 0 5 6)])).1.nil) (eI .i64) ((order (Sl.mk false [(Op.mk true ⟨#[97]⟩ 1 1 0), (Op.mk false ⟨#[97]⟩ 0 3 4), (Op.mk false ⟨#[]⟩ 0 5 6)])).1.D)) ?_
 refine rvP C (.pv (.lit (.bool ((order (Sl.mk false [(Op.mk true ⟨#[97]⟩ 1 1 0), (Op.mk false ⟨#[97]⟩ 0 3 4), (Op.mk false ⟨#[]⟩ 0 5 6)])).2.1)))) ?_
 refine rvP C (.pv (.lit (.int .i64 ((order (Sl.mk false [(Op.mk true ⟨#[97]⟩ 1 1 0), (Op.mk false ⟨#[97]⟩ 0 3 4), (Op.mk false ⟨#[]⟩ 0 5 6)])).2.2)))) ?_
 refine rvP C (sS (some (order (Sl.mk false [(Op.mk true ⟨#[97]⟩ 1 1 0), (Op.mk false ⟨#[97]⟩ 0 3 4), (Op.mk false ⟨#[]⟩ 0 5 6)])).1.nil) (eI .i64) ((order (Sl.mk false [(Op.mk true ⟨#[97]⟩ 1 1 0), (Op.mk false ⟨#[97]⟩ 0 3 4), (Op.mk false ⟨#[]⟩ 0 5 6)])).1.D)) ?_
 refine rvP C (.pv (.lit (.bool ((order (Sl.mk false [(Op.mk true ⟨#[97]⟩ 1 1 0), (Op.mk false ⟨#[97]⟩ 0 3 4), (Op.mk false ⟨#[]⟩ 0 5 6)])).2.1)))) ?_
 refine rvP C (.pv (.lit (.int .i64 ((order (Sl.mk false [(Op.mk true ⟨#[97]⟩ 1 1 0), (Op.mk false ⟨#[97]⟩ 0 3 4), (Op.mk false ⟨#[]⟩ 0 5 6)])).2.2)))) ?_
 refine rvc_nil ?_
 refine Awp.consP C ?_
 refine rvP C (.pv (.lit (.bool ((order (Sl.mk false [(Op.mk true ⟨#[97]⟩ 1 1 2), (Op.mk false ⟨#[97]⟩ 1 3 4)])).2.1)))) ?_
 refine rvP C (.pv (.lit (.bool ((order (Sl.mk false [(Op.mk true ⟨#[97]⟩ 1 1 2), (Op.mk false ⟨#[97]⟩ 1 3 4)])).2.1)))) ?_
 refine rvc_case 39 ((order (Sl.mk false [(Op.mk true ⟨#[97]⟩ 1 1 2), (Op.mk false ⟨#[97]⟩ 1 3 4)])).2.1) rfl (fun h1 => ?_) (fun h1 => ?_)
 ·
  replace hR := of_true h1 hR
  refine rvO C (.pv (.lit (.int .i64 ((order (Sl.mk false [(Op.mk true ⟨#[97]⟩ 1 1 2), (Op.mk false ⟨#[97]⟩ 1 3 4)])).2.2)))) ?_
  refine rvO C (.pv (.lit (.bool (((order (Sl.mk false [(Op.mk true ⟨#[97]⟩ 1 1 2), (Op.mk false ⟨#[97]⟩ 1 3 4)])).2.2) == 0)))) ?_
  refine rvP C (.pv (.lit (.bool (((order (Sl.mk false [(Op.mk true ⟨#[97]⟩ 1 1 2), (Op.mk false ⟨#[97]⟩ 1 3 4)])).2.2) == 0)))) ?_
  refine rvP C (.pv (.lit (.bool (((order (Sl.mk false [(Op.mk true ⟨#[97]⟩ 1 1 2), (Op.mk false ⟨#[97]⟩ 1 3 4)])).2.2) == 0)))) ?_
  refine rvc_case 43 (((order (Sl.mk false [(Op.mk true ⟨#[97]⟩ 1 1 2), (Op.mk false ⟨#[97]⟩ 1 3 4)])).2.2) == 0) rfl (fun h2 => ?_) (fun h2 => ?_)
  ·
   replace hR := of_true h2 hR
   refine rvO C (sS (some (order (Sl.mk false [(Op.mk true ⟨#[97]⟩ 1 1 2), (Op.mk false ⟨#[97]⟩ 1 3 4)])).1.nil) (eI .i64) ((order (Sl.mk false [(Op.mk true ⟨#[97]⟩ 1 1 2), (Op.mk false ⟨#[97]⟩ 1 3 4)])).1.D)) ?_
   refine rvc_open rfl rfl rfl (rexec_buildSliceF C (eI .i64) [0, 1] rfl rfl rfl rfl rfl rfl rfl (by decide) rfl ?_)
   refine rvc_open rfl rfl rfl (rexec_call hP C rfl rfl rfl (eqInts_calls ((order (Sl.mk false [(Op.mk true ⟨#[97]⟩ 1 1 2), (Op.mk false ⟨#[97]⟩ 1 3 4)])).1) (Sl.mk false [0, 1]) (of_decide_eq_true (by kernel_rfl))) ?_)
   refine rvP C (.pv (.lit (.bool (eqInts ((order (Sl.mk false [(Op.mk true ⟨#[97]⟩ 1 1 2), (Op.mk false ⟨#[97]⟩ 1 3 4)])).1) (Sl.mk false [0, 1]))))) ?_
   refine rvP C (.pv (.lit (.bool (eqInts ((order (Sl.mk false [(Op.mk true ⟨#[97]⟩ 1 1 2), (Op.mk false ⟨#[97]⟩ 1 3 4)])).1) (Sl.mk false [0, 1]))))) ?_
   refine rvc_case 48 (eqInts ((order (Sl.mk false [(Op.mk true ⟨#[97]⟩ 1 1 2), (Op.mk false ⟨#[97]⟩ 1 3 4)])).1) (Sl.mk false [0, 1])) rfl (fun h3 => ?_) (fun h3 => ?_)
   ·
    replace hR := of_true h3 hR
    refine rvO C (.pv (.lit (.bool ((order (Sl.mk false [(Op.mk true ⟨#[97]⟩ 1 1 2), (Op.mk false ⟨#[]⟩ 0 3 4)])).2.1)))) ?_
    refine rvO C (.pv (.lit (.bool (!((order (Sl.mk false [(Op.mk true ⟨#[97]⟩ 1 1 2), (Op.mk false ⟨#[]⟩ 0 3 4)])).2.1))))) ?_
    refine rvP C (.pv (.lit (.bool (!((order (Sl.mk false [(Op.mk true ⟨#[97]⟩ 1 1 2), (Op.mk false ⟨#[]⟩ 0 3 4)])).2.1))))) ?_
    refine rvP C (.pv (.lit (.bool (!((order (Sl.mk false [(Op.mk true ⟨#[97]⟩ 1 1 2), (Op.mk false ⟨#[]⟩ 0 3 4)])).2.1))))) ?_
    refine rvc_case 52 (!((order (Sl.mk false [(Op.mk true ⟨#[97]⟩ 1 1 2), (Op.mk false ⟨#[]⟩ 0 3 4)])).2.1)) rfl (fun h4 => ?_) (fun h4 => ?_)
    ·
     replace hR := of_true h4 hR
     refine rvO C (.pv (.lit (.int .i64 ((order (Sl.mk false [(Op.mk true ⟨#[97]⟩ 1 1 2), (Op.mk false ⟨#[]⟩ 0 3 4)])).2.2)))) ?_
     refine rvO C (.pv (.lit (.bool (((order (Sl.mk false [(Op.mk true ⟨#[97]⟩ 1 1 2), (Op.mk false ⟨#[]⟩ 0 3 4)])).2.2) == 0)))) ?_
     refine rvP C (.pv (.lit (.bool (((order (Sl.mk false [(Op.mk true ⟨#[97]⟩ 1 1 2), (Op.mk false ⟨#[]⟩ 0 3 4)])).2.2) == 0)))) ?_
     refine rvP C (.pv (.lit (.bool (((order (Sl.mk false [(Op.mk true ⟨#[97]⟩ 1 1 2), (Op.mk false ⟨#[]⟩ 0 3 4)])).2.2) == 0)))) ?_
     refine rvc_case 56 (((order (Sl.mk false [(Op.mk true ⟨#[97]⟩ 1 1 2), (Op.mk false ⟨#[]⟩ 0 3 4)])).2.2) == 0) rfl (fun h5 => ?_) (fun h5 => ?_)
     ·
      replace hR := of_true h5 hR
      refine rvO C (.pv (.lit (.bool ((order (Sl.mk false [(Op.mk true ⟨#[97]⟩ 1 1 0), (Op.mk false ⟨#[97]⟩ 0 3 4), (Op.mk false ⟨#[]⟩ 0 5 6)])).2.1)))) ?_
      refine rvO C (.pv (.lit (.bool (!((order (Sl.mk false [(Op.mk true ⟨#[97]⟩ 1 1 0), (Op.mk false ⟨#[97]⟩ 0 3 4), (Op.mk false ⟨#[]⟩ 0 5 6)])).2.1))))) ?_
      refine rvP C (.pv (.lit (.bool (!((order (Sl.mk false [(Op.mk true ⟨#[97]⟩ 1 1 0), (Op.mk false ⟨#[97]⟩ 0 3 4), (Op.mk false ⟨#[]⟩ 0 5 6)])).2.1))))) ?_
      refine rvP C (.pv (.lit (.bool (!((order (Sl.mk false [(Op.mk true ⟨#[97]⟩ 1 1 0), (Op.mk false ⟨#[97]⟩ 0 3 4), (Op.mk false ⟨#[]⟩ 0 5 6)])).2.1))))) ?_
      refine rvc_case 60 (!((order (Sl.mk false [(Op.mk true ⟨#[97]⟩ 1 1 0), (Op.mk false ⟨#[97]⟩ 0 3 4), (Op.mk false ⟨#[]⟩ 0 5 6)])).2.1)) rfl (fun h6 => ?_) (fun h6 => ?_)
      ·
       replace hR := of_true h6 hR
       refine rvO C (.pv (.lit (.int .i64 ((order (Sl.mk false [(Op.mk true ⟨#[97]⟩ 1 1 0), (Op.mk false ⟨#[97]⟩ 0 3 4), (Op.mk false ⟨#[]⟩ 0 5 6)])).2.2)))) ?_
       refine rvO C (.pv (.lit (.bool (((order (Sl.mk false [(Op.mk true ⟨#[97]⟩ 1 1 0), (Op.mk false ⟨#[97]⟩ 0 3 4), (Op.mk false ⟨#[]⟩ 0 5 6)])).2.2) == 0)))) ?_
       refine rvP C (.pv (.lit (.bool (((order (Sl.mk false [(Op.mk true ⟨#[97]⟩ 1 1 0), (Op.mk false ⟨#[97]⟩ 0 3 4), (Op.mk false ⟨#[]⟩ 0 5 6)])).2.2) == 0)))) ?_
       refine rvP C (.pv (.lit (.bool (((order (Sl.mk false [(Op.mk true ⟨#[97]⟩ 1 1 0), (Op.mk false ⟨#[97]⟩ 0 3 4), (Op.mk false ⟨#[]⟩ 0 5 6)])).2.2) == 0)))) ?_
       refine rvc_case 64 (((order (Sl.mk false [(Op.mk true ⟨#[97]⟩ 1 1 0), (Op.mk false ⟨#[97]⟩ 0 3 4), (Op.mk false ⟨#[]⟩ 0 5 6)])).2.2) == 0) rfl (fun h7 => ?_) (fun h7 => ?_)
       ·
        replace hR := of_true h7 hR
        refine rvO C (.agg [.pv (.lit (.bool false)), .pv (.lit (.string ⟨#[]⟩)), .pv (.lit (.int .i64 0)), .pv (.lit (.int .i64 0)), .pv (.lit (.int .i64 0))]) ?_
        refine rvc_open rfl rfl rfl (rexec_buildSliceF C eOp [(Op.mk false ⟨#[]⟩ 0 0 0)] rfl rfl rfl rfl rfl rfl rfl (by decide) rfl ?_)
        refine rvc_open rfl rfl rfl (rexec_call hP C rfl rfl rfl (rightL_calls (Sl.mk false [(Op.mk false ⟨#[]⟩ 0 0 0)]) (of_decide_eq_true (by kernel_rfl))) ?_)
        refine rvO C (.pv (.lit (.bool ((rightL (Sl.mk false [(Op.mk false ⟨#[]⟩ 0 0 0)])) == 70)))) ?_
        refine rvP C (.pv (.lit (.bool ((rightL (Sl.mk false [(Op.mk false ⟨#[]⟩ 0 0 0)])) == 70)))) ?_
        refine rvP C (.pv (.lit (.bool ((rightL (Sl.mk false [(Op.mk false ⟨#[]⟩ 0 0 0)])) == 70)))) ?_
        refine rvc_nil ?_
        refine Awp.ret ?_
        subst hR
        exact ⟨.inl rfl, rfl⟩
       ·
        replace hR := of_false h7 hR
        refine rvS ?_
        refine rvS ?_
        refine rvS ?_
        refine rvS ?_
        refine rvP C (.pv (.lit (.bool false))) ?_
        refine rvP C (.pv (.lit (.bool false))) ?_
        refine rvc_nil ?_
        refine Awp.ret ?_
        subst hR
        exact ⟨.inl rfl, rfl⟩
      ·
       replace hR := of_false h6 hR
       refine rvS ?_
       refine rvS ?_
       refine rvP C (.pv (.lit (.bool false))) ?_
       refine rvP C (.pv (.lit (.bool false))) ?_
       refine rvS ?_
       refine rvS ?_
       refine rvS ?_
       refine rvS ?_
       refine rvP C (.pv (.lit (.bool false))) ?_
       refine rvP C (.pv (.lit (.bool false))) ?_
       refine rvc_nil ?_
       refine Awp.ret ?_
       subst hR
       exact ⟨.inl rfl, rfl⟩
     ·
      replace hR := of_false h5 hR
      refine rvS ?_
      refine rvS ?_
      refine rvP C (.pv (.lit (.bool false))) ?_
      refine rvP C (.pv (.lit (.bool false))) ?_
      refine rvS ?_
      refine rvS ?_
      refine rvP C (.pv (.lit (.bool false))) ?_
      refine rvP C (.pv (.lit (.bool false))) ?_
      refine rvS ?_
      refine rvS ?_
      refine rvS ?_
      refine rvS ?_
      refine rvP C (.pv (.lit (.bool false))) ?_
      refine rvP C (.pv (.lit (.bool false))) ?_
      refine rvc_nil ?_
      refine Awp.ret ?_
      subst hR
      exact ⟨.inl rfl, rfl⟩
    ·
     replace hR := of_false h4 hR
     refine rvS ?_
     refine rvS ?_
     refine rvP C (.pv (.lit (.bool false))) ?_
     refine rvP C (.pv (.lit (.bool false))) ?_
     refine rvS ?_
     refine rvS ?_
     refine rvP C (.pv (.lit (.bool false))) ?_
     refine rvP C (.pv (.lit (.bool false))) ?_
     refine rvS ?_
     refine rvS ?_
     refine rvP C (.pv (.lit (.bool false))) ?_
     refine rvP C (.pv (.lit (.bool false))) ?_
     refine rvS ?_
     refine rvS ?_
     refine rvS ?_
     refine rvS ?_
     refine rvP C (.pv (.lit (.bool false))) ?_
     refine rvP C (.pv (.lit (.bool false))) ?_
     refine rvc_nil ?_
     refine Awp.ret ?_
     subst hR
     exact ⟨.inl rfl, rfl⟩
   ·
    replace hR := of_false h3 hR
    refine rvS ?_
    refine rvS ?_
    refine rvP C (.pv (.lit (.bool false))) ?_
    refine rvP C (.pv (.lit (.bool false))) ?_
    refine rvS ?_
    refine rvS ?_
    refine rvP C (.pv (.lit (.bool false))) ?_
    refine rvP C (.pv (.lit (.bool false))) ?_
    refine rvS ?_
    refine rvS ?_
    refine rvP C (.pv (.lit (.bool false))) ?_
    refine rvP C (.pv (.lit (.bool false))) ?_
    refine rvS ?_
    refine rvS ?_
    refine rvP C (.pv (.lit (.bool false))) ?_
    refine rvP C (.pv (.lit (.bool false))) ?_
    refine rvS ?_
    refine rvS ?_
    refine rvS ?_
    refine rvS ?_
    refine rvP C (.pv (.lit (.bool false))) ?_
    refine rvP C (.pv (.lit (.bool false))) ?_
    refine rvc_nil ?_
    refine Awp.ret ?_
    subst hR
    exact ⟨.inl rfl, rfl⟩
  ·
   replace hR := of_false h2 hR
   refine rvS ?_
   refine rvS ?_
   refine rvS ?_
   refine rvP C (.pv (.lit (.bool false))) ?_
   refine rvP C (.pv (.lit (.bool false))) ?_
   refine rvS ?_
   refine rvS ?_
   refine rvP C (.pv (.lit (.bool false))) ?_
   refine rvP C (.pv (.lit (.bool false))) ?_
   refine rvS ?_
   refine rvS ?_
   refine rvP C (.pv (.lit (.bool false))) ?_
   refine rvP C (.pv (.lit (.bool false))) ?_
   refine rvS ?_
   refine rvS ?_
   refine rvP C (.pv (.lit (.bool false))) ?_
   refine rvP C (.pv (.lit (.bool false))) ?_
   refine rvS ?_
   refine rvS ?_
   refine rvP C (.pv (.lit (.bool false))) ?_
   refine rvP C (.pv (.lit (.bool false))) ?_
   refine rvS ?_
   refine rvS ?_
   refine rvS ?_
   refine rvS ?_
   refine rvP C (.pv (.lit (.bool false))) ?_
   refine rvP C (.pv (.lit (.bool false))) ?_
   refine rvc_nil ?_
   refine Awp.ret ?_
   subst hR
   exact ⟨.inl rfl, rfl⟩
 ·
  replace hR := of_false h1 hR
  refine rvS ?_
  refine rvS ?_
  refine rvP C (.pv (.lit (.bool false))) ?_
  refine rvP C (.pv (.lit (.bool false))) ?_
  refine rvS ?_
  refine rvS ?_
  refine rvS ?_
  refine rvP C (.pv (.lit (.bool false))) ?_
  refine rvP C (.pv (.lit (.bool false))) ?_
  refine rvS ?_
  refine rvS ?_
  refine rvP C (.pv (.lit (.bool false))) ?_
  refine rvP C (.pv (.lit (.bool false))) ?_
  refine rvS ?_
  refine rvS ?_
  refine rvP C (.pv (.lit (.bool false))) ?_
  refine rvP C (.pv (.lit (.bool false))) ?_
  refine rvS ?_
  refine rvS ?_
  refine rvP C (.pv (.lit (.bool false))) ?_
  refine rvP C (.pv (.lit (.bool false))) ?_
  refine rvS ?_
  refine rvS ?_
  refine rvP C (.pv (.lit (.bool false))) ?_
  refine rvP C (.pv (.lit (.bool false))) ?_
  refine rvS ?_
  refine rvS ?_
  refine rvS ?_
  refine rvS ?_
  refine rvP C (.pv (.lit (.bool false))) ?_
  refine rvP C (.pv (.lit (.bool false))) ?_
  refine rvc_nil ?_
  refine Awp.ret ?_
  subst hR
  exact ⟨.inl rfl, rfl⟩
end Go.Proofs.Ytaoagcdljmpllaa
/- The laws. No conditions. -/
namespace Go.Proofs.Ytaoagcdljmpllaa
open Go.Am
end Go.Proofs.Ytaoagcdljmpllaa
/- The examples go through; what may be. No conditions. -/
namespace Go.Proofs.Ytaoagcdljmpllaa
open Go.Am
theorem awakeL_true : awakeL = true := by kernel_rfl
end Go.Proofs.Ytaoagcdljmpllaa
/- Inputs of chapter 07, as plain values. No conditions. -/
namespace Go.Proofs.Ytaoagcdljmpllaa
open Go.Am
set_option maxRecDepth 100000 in
theorem flat4 {m : Nat} {ps : List PV} (h : Flat Try.prog (m + 1) 4 ps) : ∃ b, ps = [.lit (.bool b)] ∧ True := by
  unfold Flat at h
  rw [Try.underlying4] at h
  obtain ⟨b, h⟩ := h
  exact ⟨b, h, trivial⟩
set_option maxRecDepth 100000 in
theorem flat9 {m : Nat} {ps : List PV} (h : Flat Try.prog (m + 1) 9 ps) : ∃ s, ps = [.lit (.string s)] ∧ s.size ≤ maxLen := by
  unfold Flat at h
  rw [Try.underlying9] at h
  exact h
set_option maxRecDepth 100000 in
theorem flat3 {m : Nat} {ps : List PV} (h : Flat Try.prog (m + 1) 3 ps) : ∃ n, ps = [.lit (.int .i64 n)] ∧ (Lit.int .i64 n).wf = true := by
  unfold Flat at h
  rw [Try.underlying3] at h
  exact h
def WT47 (x : Op) : Prop := True ∧ x.value.size ≤ maxLen ∧ (Lit.int .i64 x.ver).wf = true ∧ (Lit.int .i64 x.began).wf = true ∧ (Lit.int .i64 x.ended).wf = true
set_option maxRecDepth 100000 in
theorem flat47 {m : Nat} {ps : List PV} (h : Flat Try.prog (m + 2) 47 ps) : ∃ x : Op, ps = eOp.enc x ∧ WT47 x := by
  unfold Flat at h
  rw [Try.underlying47] at h
  obtain ⟨a0, b0, e0, h0, a1, b1, e1, h1, a2, b2, e2, h2, a3, b3, e3, h3, a4, b4, e4, h4, el⟩ := h
  obtain ⟨x0, rfl, w0⟩ := flat4 (m := m + 0) h0
  obtain ⟨x1, rfl, w1⟩ := flat9 (m := m + 0) h1
  obtain ⟨x2, rfl, w2⟩ := flat3 (m := m + 0) h2
  obtain ⟨x3, rfl, w3⟩ := flat3 (m := m + 0) h3
  obtain ⟨x4, rfl, w4⟩ := flat3 (m := m + 0) h4
  subst el
  subst e4
  subst e3
  subst e2
  subst e1
  subst e0
  exact ⟨⟨x0, x1, x2, x3, x4⟩, rfl, w0, w1, w2, w3, w4⟩
def WT40 (s : Sl Op) : Prop := s.D.length ≤ maxLen ∧ (s.nil = true → s.D = []) ∧ ∀ x ∈ s.D, WT47 x
set_option maxRecDepth 100000 in
theorem flat40 {m : Nat} {ps : List PV} (h : Flat Try.prog (m + 3) 40 ps) : ∃ s : Sl Op, ps = [.sl (some s.nil) s.D.length (encL eOp s.D)] ∧ WT40 s := by
  unfold Flat at h
  rw [Try.underlying40] at h
  obtain ⟨b, D, rfl, h1, h2, h3⟩ := h
  obtain ⟨D2, e1, e2, e3⟩ := enc_list (e := eOp) (W := fun x => WT47 x) D fun y hy => flat47 (h3 y hy)
  rw [e2, ← e1]
  exact ⟨⟨b, D2⟩, rfl, (by show D2.length ≤ _; rw [e1]; exact h1), (fun hb => by have := h2 hb; rw [this] at e1; exact List.eq_nil_of_length_eq_zero e1), e3⟩
end Go.Proofs.Ytaoagcdljmpllaa
/- What the search asks, in plain words; a row fits here if it does there. No conditions. -/
namespace Go.Proofs.Ytaoagcdljmpllaa
open Go.Am
theorem loop_iff {α : Type} {f : List α → Nat → Bool} {c : Nat → α → Bool} (h0 : ∀ j, f [] j = true) (h1 : ∀ x xs j, f (x :: xs) j = bif c j x then false else f xs (j + 1)) : ∀ (ys : List α) (j : Nat), f ys j = true ↔ ∀ k x, ys[k]? = some x → c (j + k) x = false
  | [], j => by simp [h0]
  | y :: ys, j => by
    rw [h1]
    cases hc : c j y
    · rw [cond_false, loop_iff h0 h1 ys (j + 1)]
      constructor
      · intro h k x hk
        cases k with
        | zero => simp only [List.getElem?_cons_zero, Option.some.injEq] at hk; subst hk; exact hc
        | succ k => rw [List.getElem?_cons_succ] at hk; have := h k x hk; rwa [Nat.add_right_comm] at this
      · intro h k x hk
        have := h (k + 1) x (by rw [List.getElem?_cons_succ]; exact hk)
        rwa [show j + (k + 1) = j + 1 + k by omega] at this
    · rw [cond_true]
      constructor
      · intro h; cases h
      · intro h
        have := h 0 y rfl
        rw [Nat.add_zero, hc] at this; cases this
def firstC' (l : List Op) (i done : Int) (k : Nat) (x : Op) : Bool := ((k : Int) != i) && (!(mHas done (k : Int)) && decide (over x < (l[i.toNat]!.began)))
theorem firstSO_iff (s : Search) (i d : Int) : firstSO s i d = true ↔ ∀ k x, s.l.D[k]? = some x → firstC' s.l.D i d k x = false := by
  have := loop_iff (f := firstSO_l0 s i d) (c := firstC' s.l.D i d) (fun _ => rfl) (fun x xs j => by
    conv => lhs; unfold firstSO_l0
    unfold firstC'
    cases ((j : Int) != i) <;> cases (mHas d (j : Int)) <;> cases decide (over x < (s.l.D[i.toNat]!.began)) <;> rfl) s.l.D 0
  simp only [Nat.zero_add] at this
  exact this
theorem allSO_iff (s : Search) (d : Int) : allSO s d = true ↔ ∀ (k : Nat) (x : Op), s.l.D[k]? = some x → ((x.ended != 0) && !(mHas d (k : Int))) = false := by
  have := loop_iff (f := allSO_l0 d) (c := fun (k : Nat) (x : Op) => (x.ended != 0) && !(mHas d (k : Int))) (fun _ => rfl) (fun x xs j => by
    conv => lhs; unfold allSO_l0
    cases (x.ended != 0) <;> cases (mHas d (j : Int)) <;> rfl) s.l.D 0
  simp only [Nat.zero_add] at this
  exact this
/-- What is done, and what is left. -/
def Rel (l : List Op) (done : Int) (left : List Bool) : Prop := left.length = l.length ∧ ∀ k, k < l.length → left[k]! = !(mHas done (k : Int))
theorem getI {α : Type} [Inhabited α] {l : List α} {i : Nat} {x : α} (h : l[i]? = some x) : l[i]! = x := by
  rw [List.getElem!_eq_getElem?_getD, h]; rfl
theorem getO {α : Type} [Inhabited α] {l : List α} {i : Nat} (h : i < l.length) : l[i]? = some (l[i]!) := by
  rw [List.getElem!_eq_getElem?_getD, List.getElem?_eq_getElem h]; rfl
theorem lt_of_get {α : Type} {l : List α} {i : Nat} {x : α} (h : l[i]? = some x) : i < l.length := by
  rcases Nat.lt_or_ge i l.length with h1 | h1
  · exact h1
  · rw [List.getElem?_eq_none h1] at h; cases h
theorem Rel.zero (l : List Op) (hl : l.length ≤ 64) : Rel l 0 (List.replicate l.length true) := by
  refine ⟨by simp, fun k hk => ?_⟩
  have e : mHas 0 (k : Int) = false := by
    have := has_nat (S := 0) (n := k) (by decide) (by omega)
    rw [Nat.zero_testBit] at this
    exact this
  rw [e, List.getElem!_eq_getElem?_getD, List.getElem?_replicate, if_pos hk]; rfl
theorem okD0 : okD 0 := ⟨by decide, by decide⟩
end Go.Proofs.Ytaoagcdljmpllaa
/- A search finds an order if there is one. No conditions. -/
namespace Go.Proofs.Ytaoagcdljmpllaa
open Go.Am
theorem kPoint_eq (a b : Point) : kPoint.eq a b = true ↔ a = b := by
  cases a; cases b
  show ((_ == _) && ((ByteArray.toList _ == ByteArray.toList _) && true)) = true ↔ _
  simp only [Bool.and_eq_true, beq_iff_eq, strEq, Point.mk.injEq, and_true]
def beenOf (been : List (Point × Bool)) (q : Point) : Bool := (mGet kPoint q been).getD false
theorem mGet_set (p q : Point) (b : Bool) : ∀ (D : List (Point × Bool)), mGet kPoint q (mSet kPoint p b D) = if kPoint.eq q p = true then some b else mGet kPoint q D
  | [] => rfl
  | e :: D => by
    unfold mSet
    by_cases h : p = e.1
    · rw [if_pos ((kPoint_eq p e.1).2 h)]
      unfold mGet
      by_cases h2 : q = p
      · rw [if_pos ((kPoint_eq q p).2 h2), if_pos ((kPoint_eq q e.1).2 (h2.trans h))]
      · rw [if_neg (fun e' => h2 ((kPoint_eq q p).1 e')), if_neg (fun e' => h2 (((kPoint_eq q e.1).1 e').trans h.symm)), if_neg (fun e' => h2 (((kPoint_eq q e.1).1 e').trans h.symm))]
    · rw [if_neg (fun e' => h ((kPoint_eq p e.1).1 e'))]
      unfold mGet
      by_cases h2 : q = e.1
      · rw [if_pos ((kPoint_eq q e.1).2 h2), if_pos ((kPoint_eq q e.1).2 h2), if_neg (fun e' => h (((kPoint_eq q p).1 e').symm.trans h2))]
      · rw [if_neg (fun e' => h2 ((kPoint_eq q e.1).1 e')), if_neg (fun e' => h2 ((kPoint_eq q e.1).1 e')), mGet_set p q b D]
theorem been_set {p q : Point} {D : List (Point × Bool)} (h : beenOf (mSet kPoint p true D) q = true) : q = p ∨ beenOf D q = true := by
  unfold beenOf at h
  rw [mGet_set] at h
  by_cases e : kPoint.eq q p = true
  · exact .inl ((kPoint_eq q p).1 e)
  · rw [if_neg e] at h; exact .inr h
def sr (l : List Op) : Search := Search.mk (Sl.mk false l) [] (Sl.mk false [])
/-- An order of the rest, from a point on. -/
def Sol (l : List Op) : Point → List Int → Prop
  | p, [] => allSO (sr l) p.done = true
  | p, i :: row => ∃ (k : Nat) (x : Op), i = (k : Int) ∧ l[k]? = some x ∧ cand l p k x = true ∧ Sol l (goOn p k x) row
def bad (l : List Op) (p : Point) : Prop := ∀ row, ¬ Sol l p row
theorem loop_spec {l : List Op} (h64 : l.length ≤ 64) {k : Nat} {s : Search} {p : Point} (hs : s.l.D = l) (hp : okD p.done) (hk : mu l p.done < k + 1)
    (rec_ : ∀ (s' : Search) (p' : Point), s'.l.D = l → okD p'.done → mu l p'.done < k → (∀ q, beenOf s'.been q = true → mu l q.done ≤ mu l p'.done → bad l q) →
      ((fromO k s' p').2 = true → ∃ row', Sol l p' row' ∧ (fromO k s' p').1.row.D = s'.row.D ++ row') ∧ ((fromO k s' p').2 = false → bad l p' ∧ ∀ q, beenOf (fromO k s' p').1.been q = true → beenOf s'.been q = true ∨ bad l q))
    (hpre : ∀ q, beenOf s.been q = true → mu l q.done ≤ mu l p.done → bad l q) :
    ∀ (ys : List Op) (i : Nat) (row : List Int) (been : List (Point × Bool)), ys = l.drop i → (∀ q, beenOf been q = true → beenOf s.been q = true ∨ q = p ∨ bad l q) →
      ((fromB_l0 (fromO k) s p ys i row been).2 = true → ∃ row', Sol l p row' ∧ (fromB_l0 (fromO k) s p ys i row been).1.row.D = row ++ row') ∧
      ((fromB_l0 (fromO k) s p ys i row been).2 = false → (∀ (j : Nat) (x : Op), i ≤ j → l[j]? = some x → cand l p j x = true → bad l (goOn p j x)) ∧ ∀ q, beenOf (fromB_l0 (fromO k) s p ys i row been).1.been q = true → beenOf s.been q = true ∨ q = p ∨ bad l q)
  | [], i, row, been, hys, hb => by
    refine ⟨fun h => (by unfold fromB_l0 at h; cases h), fun _ => ⟨fun j x hj hx _ => ?_, hb⟩⟩
    have h1 : l.length ≤ i := by
      have := congrArg List.length hys
      rw [List.length_drop] at this
      simp only [List.length_nil] at this; omega
    have h2 := lt_of_get hx
    omega
  | x :: xs, i, row, been, hys, hb => by
    have hx : l[i]? = some x := by
      have := congrArg (fun z => z[0]?) hys
      rw [List.getElem?_drop] at this
      exact this.symm
    have hxs : xs = l.drop (i + 1) := by
      have := congrArg List.tail hys
      rw [List.tail_drop] at this
      exact this
    have hi := lt_of_get hx
    have ih := fun row been => loop_spec h64 hs hp hk rec_ hpre xs (i + 1) row been hxs
    rw [fromB_step, hs]
    cases hc : cand l p i x
    · rw [cond_false]
      obtain ⟨h1, h2⟩ := ih row been hb
      refine ⟨h1, fun hf => ?_⟩
      obtain ⟨h3, h4⟩ := h2 hf
      refine ⟨fun j y hj hy hcy => ?_, h4⟩
      by_cases e : j = i
      · subst e
        rw [hx] at hy; injection hy with hy; subst hy
        rw [hc] at hcy; cases hcy
      · exact h3 j y (by omega) hy hcy
    · rw [cond_true]
      have hnd : mHas p.done (i : Int) = false := by
        unfold cand at hc
        simp only [Bool.and_eq_true, Bool.not_eq_true'] at hc
        exact hc.1
      have hmu : mu l (goOn p i x).done < mu l p.done := mu_with h64 hp hi hnd
      have hd' : okD (goOn p i x).done := with_okD hp (by omega)
      obtain ⟨r1, r2⟩ := rec_ (Search.mk s.l been (Sl.mk false (row ++ [(i : Int)]))) (goOn p i x) hs hd' (by omega) (fun q hq hm => by
        rcases hb q hq with h | rfl | h
        · exact hpre q h (by omega)
        · omega
        · exact h)
      have r3 := fromO_rowD k (Search.mk s.l been (Sl.mk false (row ++ [(i : Int)]))) (goOn p i x)
      generalize fromO k (Search.mk s.l been (Sl.mk false (row ++ [(i : Int)]))) (goOn p i x) = r at r1 r2 r3 ⊢
      unfold fromStep
      cases h2 : r.2
      · rw [cond_false]
        have e1 : r.1.row.D = row ++ [(i : Int)] := r3 h2
        obtain ⟨hbad, hbb⟩ := r2 h2
        rw [e1, List.dropLast_concat]
        obtain ⟨h3, h4⟩ := ih row r.1.been (fun q hq => by
          rcases hbb q hq with h | h
          · exact hb q h
          · exact .inr (.inr h))
        refine ⟨h3, fun hf => ?_⟩
        obtain ⟨h5, h6⟩ := h4 hf
        refine ⟨fun j y hj hy hcy => ?_, h6⟩
        by_cases e : j = i
        · subst e
          rw [hx] at hy; injection hy with hy; subst hy
          exact hbad
        · exact h5 j y (by omega) hy hcy
      · rw [cond_true]
        refine ⟨fun _ => ?_, fun h => by cases h⟩
        obtain ⟨row', h3, h4⟩ := r1 h2
        have h4 : r.1.row.D = (row ++ [(i : Int)]) ++ row' := h4
        exact ⟨(i : Int) :: row', ⟨i, x, rfl, hx, hc, h3⟩, by show r.1.row.D = _; rw [h4, List.append_assoc]; rfl⟩
theorem from_spec {l : List Op} (h64 : l.length ≤ 64) : ∀ (k : Nat) (s : Search) (p : Point), s.l.D = l → okD p.done → mu l p.done < k → (∀ q, beenOf s.been q = true → mu l q.done ≤ mu l p.done → bad l q) →
      ((fromO k s p).2 = true → ∃ row', Sol l p row' ∧ (fromO k s p).1.row.D = s.row.D ++ row') ∧ ((fromO k s p).2 = false → bad l p ∧ ∀ q, beenOf (fromO k s p).1.been q = true → beenOf s.been q = true ∨ bad l q)
  | 0, _, _, _, _, h, _ => absurd h (Nat.not_lt_zero _)
  | k + 1, s, p, hs, hp, hk, hpre => by
    have hl := loop_spec h64 hs hp hk (from_spec h64 k) hpre s.l.D 0 s.row.D (mSet kPoint p true s.been) (by rw [hs, List.drop_zero]) (fun q hq => by
      rcases been_set hq with h | h
      · exact .inr (.inl h)
      · exact .inl h)
    change ((fromB (fromO k) s p).2 = true → ∃ row', Sol l p row' ∧ (fromB (fromO k) s p).1.row.D = s.row.D ++ row') ∧ ((fromB (fromO k) s p).2 = false → bad l p ∧ ∀ q, beenOf (fromB (fromO k) s p).1.been q = true → beenOf s.been q = true ∨ bad l q)
    unfold fromB
    rw [allSO_eq (Search.mk s.l s.been (Sl.mk false s.row.D)) (sr l) hs]
    cases h1 : allSO (sr l) p.done
    · rw [cond_false]
      cases h2 : (mGet kPoint p s.been).getD false
      · rw [cond_false]
        refine ⟨hl.1, fun hf => ?_⟩
        obtain ⟨h3, h4⟩ := hl.2 hf
        have hbad : bad l p := fun row hrow => by
          cases row with
          | nil => have hrow : allSO (sr l) p.done = true := hrow; rw [h1] at hrow; cases hrow
          | cons i row =>
            obtain ⟨j, x, _, hx, hc, hr⟩ := hrow
            exact h3 j x (Nat.zero_le _) hx hc row hr
        refine ⟨hbad, fun q hq => ?_⟩
        rcases h4 q hq with h | rfl | h
        · exact .inl h
        · exact .inr hbad
        · exact .inr h
      · rw [cond_true]
        exact ⟨fun h => (by cases h), fun _ => ⟨hpre p h2 (Nat.le_refl _), fun q hq => .inl hq⟩⟩
    · rw [cond_true]
      exact ⟨fun _ => ⟨[], h1, (List.append_nil _).symm⟩, fun h => by cases h⟩
theorem fromB_nil (rec : Search → Point → Search × Bool) (s : Search) (p : Point) : ∀ (ys : List Op) (i : Nat) (row : List Int) (been : List (Point × Bool)), (fromB_l0 rec s p ys i row been).1.row.nil = false
  | [], _, _, _ => rfl
  | x :: xs, i, row, been => by
    rw [fromB_step]
    cases cand s.l.D p i x
    · exact fromB_nil rec s p xs _ _ _
    · rw [cond_true]
      unfold fromStep
      cases (rec (Search.mk s.l been (Sl.mk false (row ++ [(i : Int)]))) (goOn p i x)).2
      · exact fromB_nil rec s p xs _ _ _
      · rfl
theorem fromN_l0_nil (s : Search) (p : Point) : ∀ (ys : List Op) (i : Nat), (fromN_l0 s p ys i).1.row.nil = true → (fromN_l0 s p ys i).1.row.D = []
  | [], _, _ => rfl
  | x :: xs, i, h => by
    rw [fromN_step] at h ⊢
    cases hc : cand s.l.D p i x
    · rw [hc] at h; exact fromN_l0_nil s p xs _ h
    · rw [hc, cond_true] at h
      unfold fromStep at h
      revert h
      cases (fromO 65 (Search.mk s.l (mSet kPoint p true s.been) (Sl.mk false [(i : Int)])) (goOn p i x)).2
      · rw [cond_false, fromB_nil]; intro h; cases h
      · intro h; cases h
theorem fromN_nil (s : Search) (p : Point) : (fromN s p).1.row.nil = true → (fromN s p).1.row.D = [] := by
  unfold fromN
  cases allSN (Search.mk s.l s.been (Sl.mk true [])) p.done
  · cases (mGet kPoint p s.been).getD false
    · exact fromN_l0_nil s p _ _
    · exact fun _ => rfl
  · exact fun _ => rfl
theorem cloneInts_D {s : Sl Int} (h : s.nil = true → s.D = []) : (cloneInts s).D = s.D := by
  unfold cloneInts
  cases hn : s.nil
  · rfl
  · rw [h hn]; rfl
theorem order_spec {l : Sl Op} (h : (rightL l != 0) = false) : ((order l).2.1 = true → Sol l.D ⟨0, ⟨#[]⟩⟩ (order l).1.D) ∧ ((order l).2.1 = false → (order l).1.D = [] ∧ bad l.D ⟨0, ⟨#[]⟩⟩) ∧ (order l).2.2 = 0 := by
  have h64 := right_len h
  obtain ⟨e1, e2⟩ := fromN_eq (Search.mk l [] (Sl.mk true [])) rfl ⟨0, ⟨#[]⟩⟩
  obtain ⟨s1, s2⟩ := from_spec h64 66 (Search.mk l [] (Sl.mk true [])) ⟨0, ⟨#[]⟩⟩ rfl okD0 (by have := mu_le l.D 0; show mu l.D 0 < 66; omega) (fun q hq => by cases hq)
  unfold order
  rw [h, cond_false, e1]
  cases hf : (fromO 66 (Search.mk l [] (Sl.mk true [])) ⟨0, ⟨#[]⟩⟩).2
  · exact ⟨fun h => (by cases h), fun _ => ⟨rfl, (s2 hf).1⟩, rfl⟩
  · refine ⟨fun _ => ?_, fun h => (by cases h), rfl⟩
    obtain ⟨row', h1, h2⟩ := s1 hf
    have e3 : (cloneInts (fromN (Search.mk l [] (Sl.mk true [])) ⟨0, ⟨#[]⟩⟩).1.row).D = row' := by
      rw [cloneInts_D (fromN_nil _ _), e2, h2]; rfl
    show Sol l.D _ (cloneInts _).D
    rw [e3]; exact h1
end Go.Proofs.Ytaoagcdljmpllaa
/- LinSeen. No conditions. -/
namespace Go.Proofs.Ytaoagcdljmpllaa
open Go.Am
def okR (x : Op) : Prop := 1 ≤ x.began ∧ (x.ended = 0 ∨ x.began < x.ended) ∧ 0 ≤ x.ver ∧ x.ver ≤ 1099511627776 ∧ (x.value.size : Int) ≤ 24
theorem right_iff : ∀ (l : List Op) (i : Nat), rightL_l0 l i = 0 ↔ ∀ x ∈ l, okR x
  | [], _ => by simp [rightL_l0]
  | y :: ys, i => by
    have ih := right_iff ys (i + 1)
    have e : rightL_l0 (y :: ys) i = 0 ↔ okR y ∧ rightL_l0 ys (i + 1) = 0 := by
      conv => lhs; lhs; unfold rightL_l0
      unfold okR
      by_cases h1 : y.began < 1
      · rw [decide_eq_true h1]; simp; omega
      · by_cases h3 : y.ver < 0
        · rw [decide_eq_false h1, decide_eq_true h3]; cases (y.ended != 0) <;> cases decide (y.ended ≤ y.began) <;> simp <;> omega
        · by_cases h4 : y.ver > 1099511627776
          · rw [decide_eq_false h1, decide_eq_false h3, decide_eq_true h4]; cases (y.ended != 0) <;> cases decide (y.ended ≤ y.began) <;> simp <;> omega
          · by_cases h5 : (y.value.size : Int) > 24
            · rw [decide_eq_false h1, decide_eq_false h3, decide_eq_false h4, decide_eq_true h5]; cases (y.ended != 0) <;> cases decide (y.ended ≤ y.began) <;> simp <;> omega
            · rw [decide_eq_false h1, decide_eq_false h3, decide_eq_false h4, decide_eq_false h5]
              by_cases h2 : y.ended = 0
              · have e1 : (y.ended != 0) = false := by simp [h2]
                rw [e1]; simp; omega
              · have e1 : (y.ended != 0) = true := by simp [h2]
                rw [e1]
                by_cases h6 : y.ended ≤ y.began
                · rw [decide_eq_true h6]; simp; omega
                · rw [decide_eq_false h6]; simp; omega
    rw [e, ih]
    simp
theorem rightL_iff (l : Sl Op) : (rightL l != 0) = false ↔ l.D.length ≤ 24 ∧ ∀ x ∈ l.D, okR x := by
  unfold rightL
  by_cases h : (l.D.length : Int) > 24
  · rw [decide_eq_true h, cond_true]
    constructor
    · intro h; cases h
    · rintro ⟨h1, _⟩; omega
  · rw [decide_eq_false h, cond_false, ← right_iff l.D 0]
    constructor
    · intro h2; exact ⟨by omega, by simpa using h2⟩
    · rintro ⟨_, h2⟩; rw [h2]; rfl
theorem cand_iff (l : List Op) (p : Point) (k : Nat) (x : Op) : cand l p k x = true ↔ mHas p.done (k : Int) = false ∧ (x.write = true ∨ (x.ended ≠ 0 ∧ x.value = p.value)) ∧ firstSO (sr l) (k : Int) p.done = true := by
  unfold cand sr
  simp only [Bool.and_eq_true, Bool.or_eq_true, Bool.not_eq_true', beq_eq_false_iff_ne, ne_eq, strBeq]
end Go.Proofs.Ytaoagcdljmpllaa
/- Copies are the same; an order is short. No conditions. -/
namespace Go.Proofs.Ytaoagcdljmpllaa
open Go.Am
theorem nil_no {l : Sl Op} (hw : l.nil = true → l.D = []) (h : ((l.D.length : Int) == 0) = false) : l.nil = false := by
  cases hn : l.nil
  · rfl
  · rw [hw hn] at h; simp at h
theorem len_wrap {l : Sl Op} (h7 : decide ((l.D.length : Int) > 7) = false) : IntKind.u64.wrap (l.D.length : Int) = (l.D.length : Int) := by
  have := of_decide_eq_false h7
  rw [wrap64]; omega
theorem ix_eq (i : Int) {l : Sl Op} (h7 : decide ((l.D.length : Int) > 7) = false) (h0 : ((l.D.length : Int) == 0) = false) : 0 ≤ (IntKind.u64.wrap i).tmod (IntKind.u64.wrap (l.D.length : Int)) ∧ (IntKind.u64.wrap i).tmod (IntKind.u64.wrap (l.D.length : Int)) < (l.D.length : Int) := by
  have hp : 0 < (l.D.length : Int) := by
    have : (l.D.length : Int) ≠ 0 := by simpa using h0
    omega
  have hu : 0 ≤ IntKind.u64.wrap i := by rw [wrap64]; omega
  rw [len_wrap h7, Int.tmod_eq_emod_of_nonneg hu]
  exact ⟨Int.emod_nonneg _ (by omega), Int.emod_lt_of_pos _ hp⟩
theorem ix_ok (i : Int) {l : Sl Op} (h7 : decide ((l.D.length : Int) > 7) = false) (h0 : ((l.D.length : Int) == 0) = false) : 0 ≤ IntKind.i64.wrap ((IntKind.u64.wrap i).tmod (IntKind.u64.wrap (l.D.length : Int))) ∧ IntKind.i64.wrap ((IntKind.u64.wrap i).tmod (IntKind.u64.wrap (l.D.length : Int))) < (l.D.length : Int) := by
  obtain ⟨h1, h2⟩ := ix_eq i h7 h0
  have := of_decide_eq_false h7
  rw [wrap_i64 h1 (by omega)]
  exact ⟨h1, h2⟩
theorem ix_ne {l : Sl Op} (h7 : decide ((l.D.length : Int) > 7) = false) (h0 : ((l.D.length : Int) == 0) = false) : IntKind.u64.wrap (l.D.length : Int) ≠ 0 := by
  rw [len_wrap h7]; simpa using h0
end Go.Proofs.Ytaoagcdljmpllaa
/- An abstract machine over the kit's calls, part 45: elements taken out of a row. No conditions. -/
namespace Go.Am
section ops
variable {E : Env} {T : Tab}
theorem does_slice3C (hT : TabOk E.P T) {o : Oper} {t : TypeId} {x y1 y2 y3 : Operand} (ho : o.op = .slice t x (some y1) (some y2) (some y3)) (hd : ∀ d, o.dst = some d → d < E.n) {r re : TyRow} (hr : T.lookup t = some r) {e : TypeId} (hdesc : r.desc = .slice e) (hre : T.lookup e = some re) {b n c : Nat} {k1 k2 k3 : IntKind} {l h m : Nat} (hl : l ≤ h) (hh : h ≤ m) (hm : m ≤ c) :
    Does E o [.slc b 0 n re.size c, .pv (.lit (.int k1 (l : Int))), .pv (.lit (.int k2 (h : Int))), .pv (.lit (.int k3 (m : Int)))] [] { v := .undef } := by
  refine Does.value hd fun ι imm st a w hsr hv _ => ?_
  rw [ho] at hv
  have hv' : VHs ι imm w [.slc b 0 n re.size c, .pv (.lit (.int k1 (l : Int))), .pv (.lit (.int k2 (h : Int))), .pv (.lit (.int k3 (m : Int)))] [a.eval x, a.eval y1, a.eval y2, a.eval y3] := by simpa [Op.operands] using hv
  obtain ⟨v1, us, he, h1, h2⟩ := hv'
  obtain ⟨v2, us2, he2, h3, h4⟩ := h2
  obtain ⟨v3, us3, he3, h5, h6⟩ := h4
  obtain ⟨v4, us4, he4, h7, h8⟩ := h6
  simp only [VHs] at h8
  subst h8 he4 he3 he2
  simp only [List.cons.injEq, and_true] at he
  obtain ⟨rfl, rfl, rfl, rfl⟩ := he
  simp only [VH] at h1
  obtain ⟨q, z, i1, i2, i3, cc, ee, ff, g1, g2⟩ := h1
  simp only [VH, PH] at h3 h5 h7
  have hrun := run_sliceBounds (P := E.P) (w := w) (isSlice := true) (len := n) (cap := c) (lo := some (.int k1 (l : Int))) (hi := some (.int k2 (h : Int))) (mx := some (.int k3 (m : Int))) (l := l) (h := h) (m := m) (.inr ⟨k1, rfl⟩) (.inr ⟨k2, rfl⟩) (.inr ⟨k3, rfl⟩) (by omega) (by omega) (by omega) (by omega)
  refine ⟨_, by
    simp only [execOp, ho, i2, h3.1, h5.1, h7.1, Option.map_some, Instr.sliceAt, Instr.slice, run_bind', run_pure', run_underlying hT hr, hdesc, hrun, run_sizeOf hT hre]
    rfl, trivial⟩
theorem does_sliceC_from (hT : TabOk E.P T) {o : Oper} {t : TypeId} {x y : Operand} (ho : o.op = .slice t x (some y) none none) (hd : ∀ d, o.dst = some d → d < E.n) {r re : TyRow} (hr : T.lookup t = some r) {e : TypeId} (hdesc : r.desc = .slice e) (hre : T.lookup e = some re) {b n c : Nat} {k : IntKind} {l : Nat} (hl : l < n) :
    Does E o [.slc b 0 n re.size c, .pv (.lit (.int k (l : Int)))] [] { v := .sl b (l * re.size) (n - l) re.size false } := by
  refine Does.value hd fun ι imm st a w hsr hv _ => ?_
  rw [ho] at hv
  have hv' : VHs ι imm w [.slc b 0 n re.size c, .pv (.lit (.int k (l : Int)))] [a.eval x, a.eval y] := by simpa [Op.operands] using hv
  obtain ⟨v1, us, he, h1, h2⟩ := hv'
  obtain ⟨v2, us2, he2, h3, h4⟩ := h2
  simp only [VHs] at h4
  subst h4 he2
  simp only [List.cons.injEq, and_true] at he
  obtain ⟨rfl, rfl⟩ := he
  simp only [VH] at h1
  obtain ⟨q, z, i1, i2, i3, cc, ee, ff, g1, g2⟩ := h1
  simp only [VH, PH] at h3
  have hrun := run_sliceBounds (P := E.P) (w := w) (isSlice := true) (len := n) (cap := c) (lo := some (.int k (l : Int))) (hi := none) (mx := none) (l := l) (h := n) (m := c) (.inr ⟨k, rfl⟩) (.inl ⟨rfl, rfl, rfl⟩) (.inl ⟨rfl, rfl⟩) (by omega) (by omega) (by omega) (Int.le_refl _)
  have hmul : l * re.size + (c - l) * re.size = c * re.size := by rw [← Nat.add_mul]; congr 1; omega
  refine ⟨.slice (some ⟨q, z + l * re.size, none⟩) (n - l) (c - l), ?_, ⟨q, z, c - l, i1, rfl, by omega, fun h => (by cases h), cc, ee, ff, g1, by omega⟩⟩
  simp only [execOp, ho, i2, h3.1, Option.map_none, Option.map_some, Instr.sliceAt, Instr.slice, run_bind', run_pure', run_underlying hT hr, hdesc, hrun, run_sizeOf hT hre]
  simp
  rw [if_neg (by omega), add_none]
theorem does_sliceC_end (hT : TabOk E.P T) {o : Oper} {t : TypeId} {x y : Operand} (ho : o.op = .slice t x (some y) none none) (hd : ∀ d, o.dst = some d → d < E.n) {r re : TyRow} (hr : T.lookup t = some r) {e : TypeId} (hdesc : r.desc = .slice e) (hre : T.lookup e = some re) {b n c : Nat} {k : IntKind} :
    Does E o [.slc b 0 n re.size c, .pv (.lit (.int k (n : Int)))] [] { v := .pv (.sl (some false) 0 []) } := by
  refine Does.value hd fun ι imm st a w hsr hv _ => ?_
  rw [ho] at hv
  have hv' : VHs ι imm w [.slc b 0 n re.size c, .pv (.lit (.int k (n : Int)))] [a.eval x, a.eval y] := by simpa [Op.operands] using hv
  obtain ⟨v1, us, he, h1, h2⟩ := hv'
  obtain ⟨v2, us2, he2, h3, h4⟩ := h2
  simp only [VHs] at h4
  subst h4 he2
  simp only [List.cons.injEq, and_true] at he
  obtain ⟨rfl, rfl⟩ := he
  simp only [VH] at h1
  obtain ⟨q, z, i1, i2, i3, cc, ee, ff, g1, g2⟩ := h1
  simp only [VH, PH] at h3
  have hrun := run_sliceBounds (P := E.P) (w := w) (isSlice := true) (len := n) (cap := c) (lo := some (.int k (n : Int))) (hi := none) (mx := none) (l := n) (h := n) (m := c) (.inr ⟨k, rfl⟩) (.inl ⟨rfl, rfl, rfl⟩) (.inl ⟨rfl, rfl⟩) (by omega) (by omega) (by omega) (Int.le_refl _)
  by_cases hc : c = n
  · refine ⟨.slice (some ⟨q, z, none⟩) 0 (c - n), ?_, ?_⟩
    · simp only [execOp, ho, i2, h3.1, Option.map_none, Option.map_some, Instr.sliceAt, Instr.slice, run_bind', run_pure', run_underlying hT hr, hdesc, hrun, run_sizeOf hT hre]
      simp
      intro h; exact absurd hc h
    · simp only [VH, PH]
      exact ⟨_, _, rfl, by simp, by simp, by simp, by simp, fun _ _ h => absurd rfl h⟩
  · refine ⟨.slice (some ⟨q, z + n * re.size, none⟩) 0 (c - n), ?_, ?_⟩
    · simp only [execOp, ho, i2, h3.1, Option.map_none, Option.map_some, Instr.sliceAt, Instr.slice, run_bind', run_pure', run_underlying hT hr, hdesc, hrun, run_sizeOf hT hre]
      simp
      rw [if_neg hc, add_none]
    · simp only [VH, PH]
      exact ⟨_, _, rfl, by simp, by simp, by simp, by simp, fun _ _ h => absurd rfl h⟩
theorem does_sliceC_mid (hT : TabOk E.P T) {o : Oper} {t : TypeId} {x y y2 : Operand} (ho : o.op = .slice t x (some y) (some y2) none) (hd : ∀ d, o.dst = some d → d < E.n) {r re : TyRow} (hr : T.lookup t = some r) {e : TypeId} (hdesc : r.desc = .slice e) (hre : T.lookup e = some re) {b n c : Nat} {k k2 : IntKind} {l h : Nat} (hl : l < h) (hh : h ≤ c) :
    Does E o [.slc b 0 n re.size c, .pv (.lit (.int k (l : Int))), .pv (.lit (.int k2 (h : Int)))] [] { v := .slc b (l * re.size) (h - l) re.size (c - l) } := by
  refine Does.value hd fun ι imm st a w hsr hv _ => ?_
  rw [ho] at hv
  have hv' : VHs ι imm w [.slc b 0 n re.size c, .pv (.lit (.int k (l : Int))), .pv (.lit (.int k2 (h : Int)))] [a.eval x, a.eval y, a.eval y2] := by simpa [Op.operands] using hv
  obtain ⟨v1, us, he, h1, h2⟩ := hv'
  obtain ⟨v2, us2, he2, h3, h4⟩ := h2
  obtain ⟨v3, us3, he3, h5, h6⟩ := h4
  simp only [VHs] at h6
  subst h6 he3 he2
  simp only [List.cons.injEq, and_true] at he
  obtain ⟨rfl, rfl, rfl⟩ := he
  simp only [VH] at h1
  obtain ⟨q, z, i1, i2, i3, cc, ee, ff, g1, g2⟩ := h1
  simp only [VH, PH] at h3 h5
  have hrun := run_sliceBounds (P := E.P) (w := w) (isSlice := true) (len := n) (cap := c) (lo := some (.int k (l : Int))) (hi := some (.int k2 (h : Int))) (mx := none) (l := l) (h := h) (m := c) (.inr ⟨k, rfl⟩) (.inr ⟨k2, rfl⟩) (.inl ⟨rfl, rfl⟩) (by omega) (by omega) (by omega) (Int.le_refl _)
  have hmul : l * re.size + (c - l) * re.size = c * re.size := by rw [← Nat.add_mul]; congr 1; omega
  refine ⟨.slice (some ⟨q, z + l * re.size, none⟩) (h - l) (c - l), ?_, ⟨q, z, i1, rfl, by omega, cc, ee, ff, g1, by omega⟩⟩
  simp only [execOp, ho, i2, h3.1, h5.1, Option.map_none, Option.map_some, Instr.sliceAt, Instr.slice, run_bind', run_pure', run_underlying hT hr, hdesc, hrun, run_sizeOf hT hre]
  simp
  rw [if_neg (by omega), add_none]
/-- An append to a part of an own row, where there is room for it. -/
theorem does_appendIn (hT : TabOk E.P T) {o : Oper} {c : Call} {t t2 : TypeId} (ho : o.op = .call c) (hc : c.callee = .builtin .append) (hty : c.argTypes = #[t, t2]) (hd : ∀ d, o.dst = some d → d < E.n) {r re r2 : TyRow} (hr : T.lookup t = some r) {e : TypeId} (hdesc : r.desc = .slice e) (hre : T.lookup e = some re) (hr2 : T.lookup t2 = some r2) (hd2 : ∀ k, r2.desc ≠ .int k)
    {b n cap : Nat} {cs : List AV} {y : AV} {H : Nat → Option Blk} {m : Nat} {hd' : List (Nat × Blk)} {ys : List AV} (hsrc : srcAV H re.size y = some (m, hd', ys)) (hlen : ys.length = m * re.size) (hin : n + m ≤ cap) (hfit : (n + m) * re.size ≤ cs.length) (hflat : ys.all flatCell = true) (hnm : n + m ≤ 9223372036854775807) :
    Does E o [.slc b 0 n re.size cap, y] ((b, .cells cs) :: hd') { v := .slc b 0 (n + m) re.size cap, wr := [(b, some (.cells (setRange cs (n * re.size) ys)))] } := by
  intro ι imm st a w Q hs hv hh _
  have hvs := hs.evls hv
  have hops : o.op.operands.toList = c.args.toList := by rw [ho]; simp [Op.operands, Call.operands, hc]
  rw [hops] at hvs
  obtain ⟨v1, us1, he, hv1, hvs⟩ := hvs
  obtain ⟨v2, us2, he2, hv2, hvs⟩ := hvs
  simp only [VHs] at hvs
  subst hvs
  subst he2
  have hargs : c.args.map a.eval = #[v1, v2] := by apply Array.ext'; simpa using he
  simp only [VH] at hv1
  obtain ⟨q, z, hi, rfl, hncap, cS, eS, fS, hS, hSz⟩ := hv1
  have hb := hh _ (List.mem_cons_self ..)
  obtain ⟨cc, ee, f, h1, h2, h3, h4, _⟩ := hs.heap.cells hb hi
  rw [h1] at hS
  simp only [Option.some.injEq, Obj.cells.injEq] at hS
  obtain ⟨rfl, rfl, rfl⟩ := hS
  rw [Nat.add_mul] at hfit
  obtain ⟨vs, g1, g2, g3⟩ := run_src hs hsrc (fun x hx => hh x (List.mem_cons_of_mem _ hx)) hlen hv2
  have hl := g2.length
  have hO : CellsH ι imm w cc (cs.take (n * re.size)) z := h4.take
  have hOl : (cs.take (n * re.size)).length = n * re.size := by rw [List.length_take]; omega
  obtain ⟨vsO, o1, o2⟩ := hO.vals
  have hlO := o1.length
  have hold : ∀ w' : World, (∀ x, w'.cell? x = w.cell? x) → (Builtin.firstCells re.size n (.slice (some ⟨q, z + 0, none⟩) n cap)).run E.P w' = .ok (List.toArray vsO) w' := fun w' hw' => by
    have := run_loadCells (P := E.P) (w := w') (r := q) (o := z) vsO (fun i hi => by rw [hw', cell_of_heap h1, o2 i hi])
    rw [hlO, hOl] at this
    simpa [Builtin.firstCells] using this
  have hnew : ∀ w' : World, (∀ x, w'.cell? x = w.cell? x) → (Builtin.firstCells re.size m v2).run E.P w' = .ok (List.toArray vs) w' := fun w' hw' => by
    have := g3 m (Nat.le_refl _) w' hw'
    rwa [List.take_of_length_le (by rw [hl, hlen]; exact Nat.le_refl _)] at this
  have hsing : ∀ v ∈ vs, single v := VHs.singles _ _ g2 (flatCell_spec hflat)
  obtain ⟨inplace, _⟩ := run_append' hT hr hdesc hre hr2 hd2 (ty := o.type) (t := t) g1 hnew hold (fun h => absurd h (by omega)) hnm
  obtain ⟨s, hrun, rfl⟩ := inplace hin
  obtain ⟨w', h5, h6⟩ := run_storeCells (P := E.P) vs (z + n * re.size) 0 h1 (by rw [hl, hlen]; omega) (fun o _ => h3 o) hsing
  have hput := CellsH.put (k := n * re.size) (c' := putCells cc (z + n * re.size + 0) vs) h4 g2 (by rw [hlen]; omega) (by rw [Nat.add_zero]) h2
  have hsr := hs.write hb hi h1 h6 (putCells_size _ _ _) (by rw [setRange_length (by rw [hlen]; omega)]; exact h2) hput (.slc b 0 (n + m) re.size cap)
  simp only [add_none, Nat.add_zero, run_bind', h5, run_pure'] at hrun
  have hexec : (execOp a.eval o).run E.P w = .ok (.value (.slice (some ⟨q, z + 0, none⟩) (n + m) cap)) w' := by
    simp only [execOp, ho, resolve, hc, run_bind', run_pure', invoke, builtin, hargs, hty, Nat.add_zero, hrun]
  unfold Oper.wp
  rw [hexec, Oper.upon_value]
  refine ⟨ι, imm, hsr.put o.dst hd (show VH ι imm w' (.slc b 0 (n + m) re.size cap) (.slice (some ⟨q, z + 0, none⟩) (n + m) cap) from ⟨q, z, hi, rfl, hin, _, _, _, h6.row, ?_⟩)⟩
  rw [putCells_size]; exact hSz
/-- clear of what lies behind a place of an own row: what lies ahead of it stays. -/
theorem does_clearEnd (hT : TabOk E.P T) {o : Oper} {c : Call} {t : TypeId} (ho : o.op = .call c) (hc : c.callee = .builtin .clear) (hty : c.argTypes = #[t]) (hd : ∀ d, o.dst = some d → d < E.n) {r re : TyRow} (hr : T.lookup t = some r) {e : TypeId} (hdesc : r.desc = .slice e) (hre : T.lookup e = some re)
    {b k n cap : Nat} {cs : List AV} (hfit : k + n * re.size = cs.length) (hzs : re.zero.cells.size = re.size) (hzf : ∀ v ∈ re.zero.cells.toList, single v) (hn : 0 < n) :
    Does E o [.slc b k n re.size cap] [(b, .cells cs)] { v := .tup [], wr := [(b, some (.cells (cs.take k)))] } := by
  intro ι imm st a w Q hs hv hh _
  have hvs := hs.evls hv
  have hops : o.op.operands.toList = c.args.toList := by rw [ho]; simp [Op.operands, Call.operands, hc]
  rw [hops] at hvs
  obtain ⟨v1, us1, he, hv1, hvs⟩ := hvs
  simp only [VHs] at hvs
  subst hvs
  have hargs : c.args.map a.eval = #[v1] := by apply Array.ext'; simpa using he
  simp only [VH] at hv1
  obtain ⟨q, z, hi, rfl, hncap, cS, eS, fS, hS, hSz⟩ := hv1
  have hb := hh _ (List.mem_cons_self ..)
  obtain ⟨cc, ee, f, h1, h2, h3, h4, _⟩ := hs.heap.cells hb hi
  have hzl : (Builtin.zeroCells re.zero.cells n).toList.length = n * re.size := by simp [Builtin.zeroCells, hzs]
  have hsing : ∀ v ∈ (Builtin.zeroCells re.zero.cells n).toList, single v := fun v hv => by
    simp only [Builtin.zeroCells, Array.toList_map, List.mem_map] at hv
    obtain ⟨j, hj, rfl⟩ := hv
    have hlt : j < n * re.zero.cells.size := by simpa using hj
    have hpos : 0 < re.zero.cells.size := Nat.pos_of_ne_zero fun h0 => by rw [h0] at hlt; simp at hlt
    have hm : j % re.zero.cells.size < re.zero.cells.size := Nat.mod_lt _ hpos
    rw [getElem!_pos re.zero.cells _ hm]
    exact hzf _ (Array.mem_toList_iff.2 (Array.getElem_mem hm))
  obtain ⟨w', h5, h6⟩ := run_storeCells (P := E.P) (Builtin.zeroCells re.zero.cells n).toList (z + k) 0 h1 (by rw [hzl]; omega) (fun o _ => h3 o) hsing
  have hexec : (execOp a.eval o).run E.P w = .ok (.value (.tuple #[])) w' := by
    have h7 : (Builtin.clear_ #[t] o.type #[.slice (some ⟨q, z + k, none⟩) n cap]).run E.P w = .ok (.tuple #[]) w' := by
      simp only [Builtin.clear_, List.getElem?_toArray, List.getElem?_cons_zero]
      rw [run_bind', run_underlying hT hr]
      simp only [hdesc]
      obtain ⟨n', rfl⟩ : ∃ n', n = n' + 1 := ⟨n - 1, by omega⟩
      simp only [run_bind', run_zeroValue hT hre, h5, run_pure']
    simp only [execOp, ho, resolve, hc, run_bind', run_pure', invoke, builtin, hargs, hty, h7]
  unfold Oper.wp
  rw [hexec, Oper.upon_value]
  have hund : ∀ us : List Value, VHs ι imm w (List.replicate us.length AV.undef) us := fun us => by
    induction us with
    | nil => rfl
    | cons u us ih => exact ⟨u, us, rfl, trivial, ih⟩
  have hput := CellsH.put (k := k) (c' := putCells cc (z + k + 0) (Builtin.zeroCells re.zero.cells n).toList) h4 (hund _) (by rw [List.length_replicate, hzl]; omega) (by rw [Nat.add_zero]) h2
  have hput2 : CellsH ι imm w (putCells cc (z + k + 0) (Builtin.zeroCells re.zero.cells n).toList) (cs.take k) z := by
    unfold setRange at hput
    rw [List.append_assoc] at hput
    exact hput.left
  have hsr := hs.write hb hi h1 h6 (putCells_size _ _ _) (by rw [List.length_take]; omega) hput2 (.tup [])
  exact ⟨ι, imm, hsr.put o.dst hd (show VH ι imm w' (.tup []) (.tuple #[]) from ⟨[], rfl, rfl⟩)⟩
end ops
section steps
variable {E : Env} {T : Tab} {cq : Oper → Cls} {n : Nat}
theorem rexec_slice3C (C : Cx E T n) {d : Option Nat} {t : TypeId} {x y1 y2 y3 : Operand} {ty : TypeId} {pos : String} {af : Array Edge} {g : Option (Nat × Bool)} {st : St} {K : St → Prop} {b m s c l h q : Nat} {k1 k2 k3 : IntKind} {r re : TyRow} {te : TypeId} (h1 : dstB n ⟨d, .slice t x (some y1) (some y2) (some y3), ty, pos, af, g⟩ = true)
    (h2 : evls st.S [x, y1, y2, y3] = some [.slc b 0 m s c, .pv (.lit (.int k1 (l : Int))), .pv (.lit (.int k2 (h : Int))), .pv (.lit (.int k3 (q : Int)))]) (hr : T.lookup t = some r) (hdesc : r.desc = .slice te) (hre : T.lookup te = some re) (hs : re.size = s) (hl : l ≤ h) (hh : h ≤ q) (hq : q ≤ c) (h7 : K (st.after d { v := .undef })) : rexec E cq n ⟨d, .slice t x (some y1) (some y2) (some y3), ty, pos, af, g⟩ st K := by
  subst hs
  exact rexec_value C h1 rfl h2 (fun hd => does_slice3C C.tab rfl hd hr hdesc hre hl hh hq) (fun _ _ => rfl) h7
theorem rexec_sliceC_from (C : Cx E T n) {d : Option Nat} {t : TypeId} {x y : Operand} {ty : TypeId} {pos : String} {af : Array Edge} {g : Option (Nat × Bool)} {st : St} {K : St → Prop} {b m s c l : Nat} {kk : IntKind} {r re : TyRow} {te : TypeId} (h1 : dstB n ⟨d, .slice t x (some y) none none, ty, pos, af, g⟩ = true)
    (h2 : evls st.S [x, y] = some [.slc b 0 m s c, .pv (.lit (.int kk (l : Int)))]) (hr : T.lookup t = some r) (hdesc : r.desc = .slice te) (hre : T.lookup te = some re) (hs : re.size = s) (hl : l < m) (h7 : K (st.after d { v := .sl b (l * s) (m - l) s false })) : rexec E cq n ⟨d, .slice t x (some y) none none, ty, pos, af, g⟩ st K := by
  subst hs
  exact rexec_value C h1 rfl h2 (fun hd => does_sliceC_from C.tab rfl hd hr hdesc hre hl) (fun U hU => by simp only [AV.withinL, AV.within, Bool.and_eq_true] at hU ⊢; exact hU.1) h7
theorem rexec_sliceC_end (C : Cx E T n) {d : Option Nat} {t : TypeId} {x y : Operand} {ty : TypeId} {pos : String} {af : Array Edge} {g : Option (Nat × Bool)} {st : St} {K : St → Prop} {b m s c l : Nat} {kk : IntKind} {r re : TyRow} {te : TypeId} (h1 : dstB n ⟨d, .slice t x (some y) none none, ty, pos, af, g⟩ = true)
    (h2 : evls st.S [x, y] = some [.slc b 0 m s c, .pv (.lit (.int kk (l : Int)))]) (hr : T.lookup t = some r) (hdesc : r.desc = .slice te) (hre : T.lookup te = some re) (hs : re.size = s) (hl : l = m) (h7 : K (st.after d { v := .pv (.sl (some false) 0 []) })) : rexec E cq n ⟨d, .slice t x (some y) none none, ty, pos, af, g⟩ st K := by
  subst hs hl
  exact rexec_value C h1 rfl h2 (fun hd => does_sliceC_end C.tab rfl hd hr hdesc hre) (fun _ _ => rfl) h7
theorem rexec_sliceC_mid (C : Cx E T n) {d : Option Nat} {t : TypeId} {x y y2 : Operand} {ty : TypeId} {pos : String} {af : Array Edge} {g : Option (Nat × Bool)} {st : St} {K : St → Prop} {b m s c l h : Nat} {k k2 : IntKind} {r re : TyRow} {te : TypeId} (h1 : dstB n ⟨d, .slice t x (some y) (some y2) none, ty, pos, af, g⟩ = true)
    (h2 : evls st.S [x, y, y2] = some [.slc b 0 m s c, .pv (.lit (.int k (l : Int))), .pv (.lit (.int k2 (h : Int)))]) (hr : T.lookup t = some r) (hdesc : r.desc = .slice te) (hre : T.lookup te = some re) (hs : re.size = s) (hl : l < h) (hh : h ≤ c) (h7 : K (st.after d { v := .slc b (l * s) (h - l) s (c - l) })) : rexec E cq n ⟨d, .slice t x (some y) (some y2) none, ty, pos, af, g⟩ st K := by
  subst hs
  exact rexec_value C h1 rfl h2 (fun hd => does_sliceC_mid C.tab rfl hd hr hdesc hre hl hh) (fun U hU => by simp only [AV.withinL, AV.within, Bool.and_eq_true] at hU ⊢; exact hU.1) h7
theorem rexec_appendIn (C : Cx E T n) {d : Option Nat} {c : Call} {t t2 : TypeId} {ty : TypeId} {pos : String} {af : Array Edge} {g : Option (Nat × Bool)} {st : St} {K : St → Prop} (hc : c.callee = .builtin .append) (hty : c.argTypes = #[t, t2]) (h1 : dstB n ⟨d, .call c, ty, pos, af, g⟩ = true) {r re r2 : TyRow} (hr : T.lookup t = some r) {e : TypeId} (hdesc : r.desc = .slice e) (hre : T.lookup e = some re) (hr2 : T.lookup t2 = some r2) (hd2 : ∀ k, r2.desc ≠ .int k)
    {b m cap : Nat} {cs : List AV} {y : AV} {m' : Nat} {hs' : List (Nat × Blk)} {ys : List AV} (cs' : List AV) (hv : evls st.S c.args.toList = some [.slc b 0 m re.size cap, y]) (hb : st.H b = some (.cells cs)) (hsrc : srcAV st.H re.size y = some (m', hs', ys)) (hdeps : ∀ x ∈ hs', st.H x.1 = some x.2) (hlen : ys.length = m' * re.size) (hin : m + m' ≤ cap) (hfit : (m + m') * re.size ≤ cs.length) (hnm : m + m' ≤ 9223372036854775807) (hflat : ys.all flatCell = true) (hyw : ∀ U, (∀ x ∈ hs', Blk.within U x.2 = true) → AV.withinL U ys = true)
    (hcs' : setRange cs (m * re.size) ys = cs')
    (h7 : K (st.after d { v := .slc b 0 (m + m') re.size cap, wr := [(b, some (.cells cs'))] })) (hre' : reachB [.slc b 0 m re.size cap, y] [] ((b, .cells cs) :: hs') = true) (hcl : clsOf cq ⟨d, .call c, ty, pos, af, g⟩ = .writer := by rfl) : rexec E cq n ⟨d, .call c, ty, pos, af, g⟩ st K := by
  subst hcs'
  have hd : ∀ x, d = some x → x < E.n := fun x e => by
    simp only [dstB, e, decide_eq_true_eq] at h1
    exact C.n ▸ h1
  have hdo := does_appendIn C.tab (o := ⟨d, .call c, ty, pos, af, g⟩) rfl hc hty hd hr hdesc hre hr2 hd2 (b := b) (n := m) (cap := cap) (cs := cs) (y := y) (H := st.H) (m := m') (hd' := hs') (ys := ys) hsrc hlen hin hfit hflat hnm
  have hops : (Op.operands (.call c)).toList = c.args.toList := by simp [Op.operands, Call.operands, hc]
  have hself : ∀ x ∈ ((b, Blk.cells cs) :: hs'), x.2.within (fun b' => refs [.slc b 0 m re.size cap, y] ((b, .cells cs) :: hs') b') = true := fun x hx => within_self_blk _ _ x hx
  refine ⟨h1, _, _, _, { vals := ?_, deps := ?_, fresh := ?_, does := hdo, reach := hre', inV := ?_, inN := ?_, inW := ?_, wr := ?_, pure := fun h => ?_, quiet := fun h => ?_, foot := by rw [hcl]; rfl }, h7⟩
  · show evls st.S (Op.operands (.call c)).toList = _
    rw [hops]; exact hv
  · intro x hx
    cases hx with
    | head => exact hb
    | tail _ hm => exact hdeps x hm
  · intro x hx; cases hx
  · simp [refs, AV.withinL, AV.within]
  · intro x hx; cases hx
  · intro x hx k' hk
    simp only [List.mem_singleton] at hx
    subst hx
    simp only [Option.some.injEq] at hk
    subst hk
    simp only [Blk.within]
    refine within_setRange ?_ ?_
    · refine AV.withinL_mono (U := fun b' => refs [.slc b 0 m re.size cap, y] ((b, .cells cs) :: hs') b') (fun b hb => by simp [hb]) cs ?_
      exact hself (b, .cells cs) (List.mem_cons_self ..)
    · refine AV.withinL_mono (U := fun b' => refs [.slc b 0 m re.size cap, y] ((b, .cells cs) :: hs') b') (fun b hb => by simp [hb]) ys ?_
      exact hyw _ fun x hx => hself x (List.mem_cons_of_mem _ hx)
  · intro x hx
    simp only [List.mem_singleton] at hx
    subst hx
    simp [refs, AV.withinL, AV.within]
  · rw [hcl] at h; cases h
  · rw [hcl] at h; cases h
theorem rexec_clearEnd (C : Cx E T n) {d : Option Nat} {c : Call} {t : TypeId} {ty : TypeId} {pos : String} {af : Array Edge} {g : Option (Nat × Bool)} {st : St} {K : St → Prop} (hc : c.callee = .builtin .clear) (hty : c.argTypes = #[t]) (h1 : dstB n ⟨d, .call c, ty, pos, af, g⟩ = true) {r re : TyRow} (hr : T.lookup t = some r) {e : TypeId} (hdesc : r.desc = .slice e) (hre : T.lookup e = some re)
    {b k m cap : Nat} {cs : List AV} (cs' : List AV) (hv : evls st.S c.args.toList = some [.slc b k m re.size cap]) (hb : st.H b = some (.cells cs)) (hfit : k + m * re.size = cs.length) (hzs : re.zero.cells.size = re.size) (hzf : ∀ v ∈ re.zero.cells.toList, single v) (hn : 0 < m)
    (hcs' : cs.take k = cs')
    (h7 : K (st.after d { v := .tup [], wr := [(b, some (.cells cs'))] })) (hre' : reachB [.slc b k m re.size cap] [] [(b, .cells cs)] = true) (hcl : clsOf cq ⟨d, .call c, ty, pos, af, g⟩ = .writer := by rfl) : rexec E cq n ⟨d, .call c, ty, pos, af, g⟩ st K := by
  subst hcs'
  have hd : ∀ x, d = some x → x < E.n := fun x e => by
    simp only [dstB, e, decide_eq_true_eq] at h1
    exact C.n ▸ h1
  have hdo := does_clearEnd C.tab (o := ⟨d, .call c, ty, pos, af, g⟩) rfl hc hty hd hr hdesc hre (b := b) (k := k) (n := m) (cap := cap) (cs := cs) hfit hzs hzf hn
  have hops : (Op.operands (.call c)).toList = c.args.toList := by simp [Op.operands, Call.operands, hc]
  have hself : ∀ x ∈ [(b, Blk.cells cs)], x.2.within (fun b' => refs [.slc b k m re.size cap] [(b, .cells cs)] b') = true := fun x hx => within_self_blk _ _ x hx
  refine ⟨h1, _, _, _, { vals := ?_, deps := ?_, fresh := ?_, does := hdo, reach := hre', inV := rfl, inN := ?_, inW := ?_, wr := ?_, pure := fun h => ?_, quiet := fun h => ?_, foot := by rw [hcl]; rfl }, h7⟩
  · show evls st.S (Op.operands (.call c)).toList = _
    rw [hops]; exact hv
  · intro x hx
    simp only [List.mem_singleton] at hx
    subst hx; exact hb
  · intro x hx; cases hx
  · intro x hx; cases hx
  · intro x hx k' hk
    simp only [List.mem_singleton] at hx
    subst hx
    simp only [Option.some.injEq] at hk
    subst hk
    simp only [Blk.within]
    refine within_sub ?_ fun x hx => List.mem_of_mem_take hx
    refine AV.withinL_mono (U := fun b' => refs [.slc b k m re.size cap] [(b, .cells cs)] b') (fun b hb => by simp [hb]) cs ?_
    exact hself (b, .cells cs) (List.mem_cons_self ..)
  · intro x hx
    simp only [List.mem_singleton] at hx
    subst hx
    simp [refs, AV.withinL, AV.within]
  · rw [hcl] at h; cases h
  · rw [hcl] at h; cases h
end steps
end Go.Am
/- slices.Delete of one element of a row of one's own: its contract. No conditions. -/
namespace Go.Proofs.Ytaoagcdljmpllaa
open Go.Am
theorem eraseIdx_eq {α : Type} (D : List α) (n : Nat) : D.eraseIdx n = D.take n ++ D.drop (n + 1) := List.eraseIdx_eq_take_drop_succ D n
theorem del_take (D : List Op) (n : Nat) (hn : n < D.length) : (setRange (encC eOp D) (n * 5) (encC eOp (D.drop (n + 1)))).take ((n + (D.length - (n + 1))) * 5) = encC eOp (D.eraseIdx n) := by
  unfold setRange
  rw [eraseIdx_eq, show n * 5 = n * eOp.sz from rfl, encC_takeN, ← encC_append, List.take_left' (by rw [encC_len]; simp only [List.length_append, List.length_take, List.length_drop]; show _ * 5 = _ * 5; omega)]
theorem del_last (D : List Op) (n : Nat) (hn : n + 1 = D.length) : (setRange (encC eOp D) (n * 5) []).take ((n + 0) * 5) = encC eOp (D.eraseIdx n) := by
  unfold setRange
  rw [eraseIdx_eq, show n * 5 = n * eOp.sz from rfl, encC_takeN, List.append_nil, show D.drop (n + 1) = [] from List.drop_of_length_le (by omega), List.append_nil]
  exact List.take_left' (by rw [encC_len]; simp only [List.length_take]; show _ * 5 = _ * 5; omega)
theorem zeroOp : ∀ v ∈ ((tab.lookup 47).get rfl).zero.cells.toList, single v := by
  intro v hv
  have e : ((tab.lookup 47).get rfl).zero.cells.toList = [.bool false, .string ⟨#[]⟩, .int .i64 0, .int .i64 0, .int .i64 0] := by kernel_rfl
  rw [e] at hv
  simp only [List.mem_cons, List.not_mem_nil, or_false] at hv
  rcases hv with rfl | rfl | rfl | rfl | rfl <;> exact ⟨fun c h => (by cases h), fun c h => (by cases h)⟩
theorem delOp_calls (D : List Op) (i j : Int) (hi : 0 ≤ i ∧ i < (D.length : Int)) (hj : j = i + 1) (hl : D.length ≤ 1000000) : XCalls Try.prog 30 [.sl 0 0 D.length 5 false, .pv (.lit (.int .i64 i)), .pv (.lit (.int .i64 j))] (.cells (encC eOp D)) (sS (some false) eOp (D.eraseIdx i.toNat)) := by
 subst hj
 obtain ⟨n, rfl⟩ : ∃ n : Nat, i = (n : Int) := ⟨i.toNat, by omega⟩
 have hn : n < D.length := by omega
 rw [Int.toNat_natCast, show (n : Int) + 1 = ((n + 1 : Nat) : Int) by omega]
 have hne : ((n : Int) == ((n + 1 : Nat) : Int)) = false := by simp; omega
 have hys : ((encC eOp D).drop ((n + 1) * 5)).take ((D.length - (n + 1)) * 5) = encC eOp (D.drop (n + 1)) := by
  rw [show (n + 1) * 5 = (n + 1) * eOp.sz from rfl, encC_dropN, encC_takeAll _ (by rw [List.length_drop]; exact Nat.le_refl _)]
 refine XCalls.of_body tabOk Try.func30 rfl rfl rfl rfl rfl (encC_within _ _) mixed fun E hP C hI => ?_
 refine Awp.capOf 0 0 D.length 5 false (encC eOp D) rfl rfl (by rw [encC_len]; rfl) fun c hc0 => ?_
 refine Awp.consP C ?_
 refine rvc_prim C rfl rfl rfl rfl trivial rfl ?_
 refine rvc_nil ?_
 refine Awp.consP C ?_
 refine rvc_prim C rfl rfl rfl rfl trivial rfl ?_
 refine rvc_prim C rfl rfl rfl rfl trivial rfl ?_
 refine rvc_prim C rfl rfl rfl rfl trivial rfl ?_
 refine rvc_prim C rfl rfl rfl rfl trivial rfl ?_
 refine rvc_un (rexec_lenC C rfl rfl rfl rfl rfl rfl ?_)
 refine rvc_un (rexec_slice3C C (l := n) (h := n + 1) (q := D.length) rfl rfl rfl rfl rfl rfl (by omega) (by omega) (by omega) ?_)
 refine rvc_nil ?_
 refine Awp.seq ?_
 refine Awp.consP C ?_
 refine rvc_prim C rfl rfl rfl rfl trivial rfl ?_
 refine rvc_prim C rfl rfl rfl rfl trivial rfl ?_
 refine rvc_prim C rfl rfl rfl rfl trivial rfl ?_
 refine rvc_nil ?_
 refine Awp.condF rfl hne ?_
 refine Awp.skip ?_
 refine Awp.consP C ?_
 refine rvc_prim C rfl rfl rfl rfl trivial rfl ?_
 refine rvc_un (rexec_lenC C rfl rfl rfl rfl rfl rfl ?_)
 refine rvc_prim C rfl rfl rfl rfl trivial rfl ?_
 refine rvc_nil ?_
 by_cases hlast : n + 1 < D.length
 ·
  refine Awp.cons C (fun o => match o.dst with | some 26 => .writer | _ => .pure) (by kernel_rfl) ?_
  refine rvc_prim C rfl rfl rfl rfl trivial rfl ?_
  refine rvc_prim C rfl rfl rfl rfl trivial rfl ?_
  refine rvc_un (rexec_sliceHiC C n rfl rfl rfl rfl rfl rfl (by omega) ?_)
  refine rvc_prim C rfl rfl rfl rfl trivial rfl ?_
  refine rvc_prim C rfl rfl rfl rfl trivial rfl ?_
  refine rvc_un (rexec_sliceC_from C (l := n + 1) rfl rfl rfl rfl rfl rfl (by omega) ?_)
  refine rvc_un (rexec_appendIn C rfl rfl rfl rfl rfl rfl rfl (fun _ h => by cases h) (m := n) (m' := D.length - (n + 1)) (ys := (encC eOp (D.drop (n + 1)))) (setRange (encC eOp D) (n * 5) (encC eOp (D.drop (n + 1)))) rfl rfl (by show some (_, _, ((encC eOp D).drop ((n + 1) * 5)).take ((D.length - (n + 1)) * 5)) = _; rw [hys]) (fun x hx => by simp only [List.mem_singleton] at hx; subst hx; rfl) (by rw [encC_len, List.length_drop]; rfl) (by omega) (by rw [encC_len]; show _ * 5 ≤ _ * 5; omega) (by omega) (pv_flat _) (fun U _ => within_pvs _ _) rfl ?_ rfl)
  refine rvc_prim C rfl rfl rfl rfl trivial rfl ?_
  refine rvc_nil ?_
  refine Awp.cons C (fun o => match o.dst with | none => .writer | _ => .pure) (by kernel_rfl) ?_
  refine rvc_prim C rfl rfl rfl rfl trivial rfl ?_
  refine rvc_prim C rfl rfl rfl rfl trivial rfl ?_
  refine rvc_un (rexec_lenC C rfl rfl rfl rfl rfl rfl ?_)
  refine rvc_prim C rfl rfl rfl rfl trivial rfl ?_
  refine rvc_un (rexec_sliceC_mid C (l := n + (D.length - (n + 1))) (h := D.length) rfl rfl rfl rfl rfl rfl (by omega) (by omega) ?_)
  refine rvc_un (rexec_clearEnd C rfl rfl rfl rfl rfl rfl (encC eOp (D.eraseIdx n)) rfl rfl (by rw [setRange_length (by simp only [encC_len, List.length_drop, List.length_nil]; show n * 5 + _ ≤ _ * 5; first | omega | (show n * 5 + _ * 5 ≤ _ * 5; omega))]; rw [encC_len]; show _ * 5 + _ * 5 = _ * 5; omega) rfl zeroOp (by omega) (del_take D n hn) ?_ rfl)
  refine rvc_nil ?_
  refine Awp.consP C ?_
  refine rvc_prim C rfl rfl rfl rfl trivial rfl ?_
  refine rvc_prim C rfl rfl rfl rfl trivial rfl ?_
  refine rvc_nil ?_
  refine Awp.dropCap 6 0 0 (n + (D.length - (n + 1))) 5 c rfl ?_
  refine Awp.freezeW 0 (encL eOp (D.eraseIdx n)) ?_ [(6, sS (some false) eOp (D.eraseIdx n))] [] ?_ ?_ ?_
  · rfl
  · exact ⟨⟨_, rfl, .inl (.inr ⟨_, _, _, rfl, by simp only [sS]; congr 2; rw [List.length_eraseIdx_of_lt hn]; omega⟩)⟩, trivial⟩
  · exact trivial
  refine Awp.ret ?_
  exact ⟨.inl rfl, rfl⟩
 ·
  refine Awp.cons C (fun o => match o.dst with | some 26 => .writer | _ => .pure) (by kernel_rfl) ?_
  refine rvc_prim C rfl rfl rfl rfl trivial rfl ?_
  refine rvc_prim C rfl rfl rfl rfl trivial rfl ?_
  refine rvc_un (rexec_sliceHiC C n rfl rfl rfl rfl rfl rfl (by omega) ?_)
  refine rvc_prim C rfl rfl rfl rfl trivial rfl ?_
  refine rvc_prim C rfl rfl rfl rfl trivial rfl ?_
  refine rvc_un (rexec_sliceC_end C (l := n + 1) rfl rfl rfl rfl rfl rfl (by omega) ?_)
  refine rvc_un (rexec_appendIn C rfl rfl rfl rfl rfl rfl rfl (fun _ h => by cases h) (m := n) (m' := 0) (ys := []) (setRange (encC eOp D) (n * 5) []) rfl rfl rfl (fun x hx => by cases hx) (by simp) (by omega) (by rw [encC_len]; show _ * 5 ≤ _ * 5; omega) (by omega) rfl (fun U _ => rfl) rfl ?_ rfl)
  refine rvc_prim C rfl rfl rfl rfl trivial rfl ?_
  refine rvc_nil ?_
  refine Awp.cons C (fun o => match o.dst with | none => .writer | _ => .pure) (by kernel_rfl) ?_
  refine rvc_prim C rfl rfl rfl rfl trivial rfl ?_
  refine rvc_prim C rfl rfl rfl rfl trivial rfl ?_
  refine rvc_un (rexec_lenC C rfl rfl rfl rfl rfl rfl ?_)
  refine rvc_prim C rfl rfl rfl rfl trivial rfl ?_
  refine rvc_un (rexec_sliceC_mid C (l := n + (0)) (h := D.length) rfl rfl rfl rfl rfl rfl (by omega) (by omega) ?_)
  refine rvc_un (rexec_clearEnd C rfl rfl rfl rfl rfl rfl (encC eOp (D.eraseIdx n)) rfl rfl (by rw [setRange_length (by simp only [encC_len, List.length_drop, List.length_nil]; show n * 5 + _ ≤ _ * 5; first | omega | (show n * 5 + _ * 5 ≤ _ * 5; omega))]; rw [encC_len]; show _ * 5 + _ * 5 = _ * 5; omega) rfl zeroOp (by omega) (del_last D n (by omega)) ?_ rfl)
  refine rvc_nil ?_
  refine Awp.consP C ?_
  refine rvc_prim C rfl rfl rfl rfl trivial rfl ?_
  refine rvc_prim C rfl rfl rfl rfl trivial rfl ?_
  refine rvc_nil ?_
  refine Awp.dropCap 6 0 0 (n + (0)) 5 c rfl ?_
  refine Awp.freezeW 0 (encL eOp (D.eraseIdx n)) ?_ [(6, sS (some false) eOp (D.eraseIdx n))] [] ?_ ?_ ?_
  · rfl
  · exact ⟨⟨_, rfl, .inl (.inr ⟨_, _, _, rfl, by simp only [sS]; congr 2; rw [List.length_eraseIdx_of_lt hn]; omega⟩)⟩, trivial⟩
  · exact trivial
  refine Awp.ret ?_
  exact ⟨.inl rfl, rfl⟩
end Go.Proofs.Ytaoagcdljmpllaa
/- LinFewer. No conditions. -/
namespace Go.Proofs.Ytaoagcdljmpllaa
open Go.Am
def cloneOpsO (s : (Sl Op)) : List Op :=
  s.D
theorem cloneOpsO_calls (s : (Sl Op)) (hn : s.nil = false) (hl1 : s.D.length ≤ 2932031007317) : OCalls Try.prog 29 [sS (some s.nil) eOp s.D] (.sl 0 0 (cloneOpsO s).length 5 false) (.cells (encC eOp (cloneOpsO s))) := by
 generalize hR : cloneOpsO s = R
 refine OCalls.of_body tabOk Try.func29 rfl rfl rfl rfl rfl (encC_within _ _) mixed fun E hP C hI => ?_
 refine Awp.consP C ?_
 refine rvP C (sS (some true) eOp []) ?_
 refine rvc_nil ?_
 refine Awp.seq ?_
 refine Awp.consP C ?_
 refine rvP C (sS (some s.nil) eOp s.D) ?_
 refine rvc_un (rexec_eqNil C (f := s.nil) rfl rfl rfl rfl ?_)
 refine rvc_nil ?_
 refine Awp.condF (b := s.nil) rfl hn ?_
 refine Awp.skip ?_
 refine Awp.consP C ?_
 refine rvc_un (rexec_prim C (δ := { v := .sl 5 0 0 5 true, new := [(5, .cells (encC eOp []))] }) rfl rfl rfl rfl trivial rfl ?_)
 refine rvP C (sS (some s.nil) eOp s.D) ?_
 refine rvc_un (rexec_append0 C rfl rfl rfl rfl rfl rfl rfl rfl (fun _ h => by cases h) rfl (en := eOp) (D := s.D) rfl rfl rfl (by show s.D.length * 48 ≤ 281474976710656; omega) (by decide) (nn := s.D.length) rfl ?_)
 refine rvP C (.sl 7 0 s.D.length 5 false) ?_
 refine rvc_nil ?_
 refine Awp.weakenR (S := [(2, .sl 0 0 s.D.length 5 false)]) (H := [(0, .cells (encC eOp s.D))]) (U := [0]) (fun x => bif x == 0 then 7 else x) (WeakerR.ofL (Ks := [0]) hI ⟨⟨rfl, rfl⟩, trivial⟩ (okH_list rfl rfl rfl okH_nil) rfl) ?_
 refine Awp.ret ?_
 subst hR
 exact ⟨.inl rfl, rfl, rfl⟩
def lawFewer (l : (Sl Op)) (i : Int) : Bool :=
  (bif (decide ((l.D.length : Int) > 7)) then (awakeL ) else (bif ((l.D.length : Int) == 0) then (awakeL ) else (bif (!((order l).2.1)) then (awakeL ) else (bif l.D[(IntKind.i64.wrap ((IntKind.u64.wrap i).tmod (IntKind.u64.wrap (l.D.length : Int)))).toNat]!.write then (bif (order (Sl.mk false (l.D.set ((IntKind.i64.wrap ((IntKind.u64.wrap i).tmod (IntKind.u64.wrap (l.D.length : Int)))).toNat) (Op.mk (l.D[(IntKind.i64.wrap ((IntKind.u64.wrap i).tmod (IntKind.u64.wrap (l.D.length : Int)))).toNat]!.write) (l.D[(IntKind.i64.wrap ((IntKind.u64.wrap i).tmod (IntKind.u64.wrap (l.D.length : Int)))).toNat]!.value) (l.D[(IntKind.i64.wrap ((IntKind.u64.wrap i).tmod (IntKind.u64.wrap (l.D.length : Int)))).toNat]!.ver) (l.D[(IntKind.i64.wrap ((IntKind.u64.wrap i).tmod (IntKind.u64.wrap (l.D.length : Int)))).toNat]!.began) 0)))).2.1 then (bif (((order (Sl.mk false (l.D.set ((IntKind.i64.wrap ((IntKind.u64.wrap i).tmod (IntKind.u64.wrap (l.D.length : Int)))).toNat) (Op.mk (l.D[(IntKind.i64.wrap ((IntKind.u64.wrap i).tmod (IntKind.u64.wrap (l.D.length : Int)))).toNat]!.write) (l.D[(IntKind.i64.wrap ((IntKind.u64.wrap i).tmod (IntKind.u64.wrap (l.D.length : Int)))).toNat]!.value) (l.D[(IntKind.i64.wrap ((IntKind.u64.wrap i).tmod (IntKind.u64.wrap (l.D.length : Int)))).toNat]!.ver) (l.D[(IntKind.i64.wrap ((IntKind.u64.wrap i).tmod (IntKind.u64.wrap (l.D.length : Int)))).toNat]!.began) 0)))).2.2) == 0) then (awakeL ) else false) else false) else (bif (order (Sl.mk false (List.eraseIdx l.D ((IntKind.i64.wrap ((IntKind.u64.wrap i).tmod (IntKind.u64.wrap (l.D.length : Int))))).toNat))).2.1 then (bif (((order (Sl.mk false (List.eraseIdx l.D ((IntKind.i64.wrap ((IntKind.u64.wrap i).tmod (IntKind.u64.wrap (l.D.length : Int))))).toNat))).2.2) == 0) then (awakeL ) else false) else false)))))
theorem lawFewer_calls (l : (Sl Op)) (i : Int) (hw : l.nil = true → l.D = []) (hl1 : l.D.length ≤ 2932031007317) : PCalls Try.prog 10 [sS (some l.nil) eOp l.D, .pv (.lit (.int .i64 i))] (.pv (.lit (.bool (lawFewer l i)))) := by
 generalize hR : lawFewer l i = R
 refine PCalls.of_body tabOk Try.func10 rfl rfl rfl rfl rfl mixed fun E hP C hI => ?_
 refine Awp.consP C ?_
 refine rvP C (.pv (.lit (.bool false))) ?_
 refine rvc_nil ?_
 refine Awp.seq ?_
 refine Awp.consP C ?_
 refine rvP C (sS (some l.nil) eOp l.D) ?_
 refine rvP C (.pv (.lit (.int .i64 (l.D.length : Int)))) ?_
 refine rvP C (.pv (.lit (.bool (decide ((l.D.length : Int) > 7))))) ?_
 refine rvP C (.pv (.lit (.bool (decide ((l.D.length : Int) > 7))))) ?_
 refine rvc_case 15 (decide ((l.D.length : Int) > 7)) rfl (fun h1 => ?_) (fun h1 => ?_)
 ·
  replace hR := of_true h1 hR
  refine rvS ?_
  refine rvS ?_
  refine rvS ?_
  refine rvP C (.pv (.lit (.bool true))) ?_
  refine rvc_nil ?_
  refine Awp.condT (b := true) rfl rfl ?_
  refine Awp.consP C ?_
  refine rvc_un (rexec_call hP C rfl rfl rfl (awakeL_calls ) ?_)
  refine rvP C (.pv (.lit (.bool (awakeL )))) ?_
  refine rvc_nil ?_
  refine Awp.ret ?_
  subst hR
  exact ⟨.inl rfl, rfl⟩
 ·
  replace hR := of_false h1 hR
  refine rvO C (sS (some l.nil) eOp l.D) ?_
  refine rvO C (.pv (.lit (.int .i64 (l.D.length : Int)))) ?_
  refine rvO C (.pv (.lit (.bool ((l.D.length : Int) == 0)))) ?_
  refine rvP C (.pv (.lit (.bool ((l.D.length : Int) == 0)))) ?_
  refine rvc_nil ?_
  refine Awp.cond (b := ((l.D.length : Int) == 0)) rfl (fun h2 => ?_) (fun h2 => ?_)
  ·
   replace hR := of_true h2 hR
   refine Awp.consP C ?_
   refine rvc_un (rexec_call hP C rfl rfl rfl (awakeL_calls ) ?_)
   refine rvP C (.pv (.lit (.bool (awakeL )))) ?_
   refine rvc_nil ?_
   refine Awp.ret ?_
   subst hR
   exact ⟨.inl rfl, rfl⟩
  ·
   replace hR := of_false h2 hR
   refine Awp.skip ?_
   refine Awp.consP C ?_
   refine rvP C (sS (some l.nil) eOp l.D) ?_
   refine rvc_un (rexec_call hP C rfl rfl rfl (order_calls l (Nat.le_trans hl1 (by decide))) ?_)
   refine rvP C (.tup [sS (some (order l).1.nil) (eI .i64) ((order l).1.D), .pv (.lit (.bool ((order l).2.1))), .pv (.lit (.int .i64 ((order l).2.2)))]) ?_
   refine rvP C (sS (some (order l).1.nil) (eI .i64) ((order l).1.D)) ?_
   refine rvP C (.pv (.lit (.bool ((order l).2.1)))) ?_
   refine rvP C (.pv (.lit (.int .i64 ((order l).2.2)))) ?_
   refine rvP C (sS (some (order l).1.nil) (eI .i64) ((order l).1.D)) ?_
   refine rvP C (.pv (.lit (.bool ((order l).2.1)))) ?_
   refine rvP C (.pv (.lit (.int .i64 ((order l).2.2)))) ?_
   refine rvc_nil ?_
   refine Awp.seq ?_
   refine Awp.consP C ?_
   refine rvP C (.pv (.lit (.bool ((order l).2.1)))) ?_
   refine rvP C (.pv (.lit (.bool (!((order l).2.1))))) ?_
   refine rvc_nil ?_
   refine Awp.cond (b := (!((order l).2.1))) rfl (fun h3 => ?_) (fun h3 => ?_)
   ·
    replace hR := of_true h3 hR
    refine Awp.consP C ?_
    refine rvc_un (rexec_call hP C rfl rfl rfl (awakeL_calls ) ?_)
    refine rvP C (.pv (.lit (.bool (awakeL )))) ?_
    refine rvc_nil ?_
    refine Awp.ret ?_
    subst hR
    exact ⟨.inl rfl, rfl⟩
   ·
    replace hR := of_false h3 hR
    refine Awp.skip ?_
    refine Awp.consP C ?_
    refine rvP C (.pv (.lit (.int .i64 i))) ?_
    refine rvP C (.pv (.lit (.int .u64 (IntKind.u64.wrap i)))) ?_
    refine rvP C (sS (some l.nil) eOp l.D) ?_
    refine rvP C (.pv (.lit (.int .i64 (l.D.length : Int)))) ?_
    refine rvP C (.pv (.lit (.int .u64 (IntKind.u64.wrap (l.D.length : Int))))) ?_
    refine rvc_un (rexec_prim C (δ := { v := .pv (.lit (.int .u64 ((IntKind.u64.wrap i).tmod (IntKind.u64.wrap (l.D.length : Int))))) }) rfl rfl rfl rfl (ix_ne (by assumption) (by assumption)) rfl ?_)
    refine rvP C (.pv (.lit (.int .i64 (IntKind.i64.wrap ((IntKind.u64.wrap i).tmod (IntKind.u64.wrap (l.D.length : Int))))))) ?_
    refine rvP C (.pv (.lit (.int .i64 (IntKind.i64.wrap ((IntKind.u64.wrap i).tmod (IntKind.u64.wrap (l.D.length : Int))))))) ?_
    refine rvc_nil ?_
    refine Awp.cons C (fun _ => .quiet) (by kernel_rfl) ?_
    refine rvP C (sS (some l.nil) eOp l.D) ?_
    have hx_ := ix_ok i (l := l) (by assumption) (by assumption)
    have h7_ := of_decide_eq_false (show decide ((l.D.length : Int) > 7) = false by assumption)
    refine rvc_un (rexec_callO hP C rfl rfl rfl rfl (cloneOpsO_calls l (nil_no hw (by assumption)) hl1) ?_)
    refine rvP C (.sl 38 0 l.D.length 5 false) ?_
    refine rvc_nil ?_
    refine Awp.seq ?_
    refine Awp.consP C ?_
    refine rvP C (.sl 38 0 l.D.length 5 false) ?_
    refine rvP C (.pv (.lit (.int .i64 (IntKind.i64.wrap ((IntKind.u64.wrap i).tmod (IntKind.u64.wrap (l.D.length : Int))))))) ?_
    have h4 : l.D[(IntKind.i64.wrap ((IntKind.u64.wrap i).tmod (IntKind.u64.wrap (l.D.length : Int)))).toNat]? = some l.D[(IntKind.i64.wrap ((IntKind.u64.wrap i).tmod (IntKind.u64.wrap (l.D.length : Int)))).toNat]! := getE (by have := wrapI ((IntKind.u64.wrap i).tmod (IntKind.u64.wrap (l.D.length : Int))); have := of_decide_eq_false h1; have := ne_of_beq_false h2; omega)
    refine rvc_un (rexec_prim C (δ := { v := .ptr 38 (0 + (IntKind.i64.wrap ((IntKind.u64.wrap i).tmod (IntKind.u64.wrap (l.D.length : Int)))).toNat * 5) }) rfl rfl rfl rfl ⟨(by have := wrapI ((IntKind.u64.wrap i).tmod (IntKind.u64.wrap (l.D.length : Int))); have := of_decide_eq_false h1; have := ne_of_beq_false h2; omega), getlt h4 (by first | rfl | omega | (have := wrapI ((IntKind.u64.wrap i).tmod (IntKind.u64.wrap (l.D.length : Int))); have := of_decide_eq_false h1; have := ne_of_beq_false h2; omega)) (by first | rfl | omega | simp)⟩ rfl ?_)
    refine rvP C (.ptr 38 (0 + (IntKind.i64.wrap ((IntKind.u64.wrap i).tmod (IntKind.u64.wrap (l.D.length : Int)))).toNat * 5 + 0)) ?_
    refine rvc_un (rexec_loadE C (e := eOp) ((IntKind.i64.wrap ((IntKind.u64.wrap i).tmod (IntKind.u64.wrap (l.D.length : Int)))).toNat) 0 (l.D[(IntKind.i64.wrap ((IntKind.u64.wrap i).tmod (IntKind.u64.wrap (l.D.length : Int)))).toNat]!) (.pv (.lit (.bool (l.D[(IntKind.i64.wrap ((IntKind.u64.wrap i).tmod (IntKind.u64.wrap (l.D.length : Int)))).toNat]!.write)))) rfl rfl rfl rfl h4 (by simp [eOp]) (by decide) (by decide) rfl ?_)
    refine rvc_nil ?_
    refine Awp.cond (b := l.D[(IntKind.i64.wrap ((IntKind.u64.wrap i).tmod (IntKind.u64.wrap (l.D.length : Int)))).toNat]!.write) rfl (fun h5 => ?_) (fun h5 => ?_)
    ·
     replace hR := of_true h5 hR
     refine Awp.regionP C ?_
     refine rvP C (.sl 38 0 l.D.length 5 false) ?_
     refine rvP C (.pv (.lit (.int .i64 (IntKind.i64.wrap ((IntKind.u64.wrap i).tmod (IntKind.u64.wrap (l.D.length : Int))))))) ?_
     refine rvc_un (rexec_prim C (δ := { v := .ptr 38 (0 + (IntKind.i64.wrap ((IntKind.u64.wrap i).tmod (IntKind.u64.wrap (l.D.length : Int)))).toNat * 5) }) rfl rfl rfl rfl ⟨(by have := wrapI ((IntKind.u64.wrap i).tmod (IntKind.u64.wrap (l.D.length : Int))); have := of_decide_eq_false h1; have := ne_of_beq_false h2; omega), getlt h4 (by first | rfl | omega | (have := wrapI ((IntKind.u64.wrap i).tmod (IntKind.u64.wrap (l.D.length : Int))); have := of_decide_eq_false h1; have := ne_of_beq_false h2; omega)) (by first | rfl | omega | simp)⟩ rfl ?_)
     refine rvP C (.ptr 38 (0 + (IntKind.i64.wrap ((IntKind.u64.wrap i).tmod (IntKind.u64.wrap (l.D.length : Int)))).toNat * 5 + 4)) ?_
     refine rvc_un (rexec_storeE C (e := eOp) ((IntKind.i64.wrap ((IntKind.u64.wrap i).tmod (IntKind.u64.wrap (l.D.length : Int)))).toNat) 4 (l.D[(IntKind.i64.wrap ((IntKind.u64.wrap i).tmod (IntKind.u64.wrap (l.D.length : Int)))).toNat]!) (Op.mk (l.D[(IntKind.i64.wrap ((IntKind.u64.wrap i).tmod (IntKind.u64.wrap (l.D.length : Int)))).toNat]!.write) (l.D[(IntKind.i64.wrap ((IntKind.u64.wrap i).tmod (IntKind.u64.wrap (l.D.length : Int)))).toNat]!.value) (l.D[(IntKind.i64.wrap ((IntKind.u64.wrap i).tmod (IntKind.u64.wrap (l.D.length : Int)))).toNat]!.ver) (l.D[(IntKind.i64.wrap ((IntKind.u64.wrap i).tmod (IntKind.u64.wrap (l.D.length : Int)))).toNat]!.began) 0) rfl rfl rfl rfl h4 (by simp [eOp]) rfl rfl rfl (of_decide_eq_true rfl) rfl ?_)
     refine rvc_nil ?_
     refine Awp.freezeW 38 (encL eOp (l.D.set ((IntKind.i64.wrap ((IntKind.u64.wrap i).tmod (IntKind.u64.wrap (l.D.length : Int)))).toNat) (Op.mk (l.D[(IntKind.i64.wrap ((IntKind.u64.wrap i).tmod (IntKind.u64.wrap (l.D.length : Int)))).toNat]!.write) (l.D[(IntKind.i64.wrap ((IntKind.u64.wrap i).tmod (IntKind.u64.wrap (l.D.length : Int)))).toNat]!.value) (l.D[(IntKind.i64.wrap ((IntKind.u64.wrap i).tmod (IntKind.u64.wrap (l.D.length : Int)))).toNat]!.ver) (l.D[(IntKind.i64.wrap ((IntKind.u64.wrap i).tmod (IntKind.u64.wrap (l.D.length : Int)))).toNat]!.began) 0))) ?_ [(4, .pv (.lit (.bool false))), (8, sS (some false) eOp (l.D.set ((IntKind.i64.wrap ((IntKind.u64.wrap i).tmod (IntKind.u64.wrap (l.D.length : Int)))).toNat) (Op.mk (l.D[(IntKind.i64.wrap ((IntKind.u64.wrap i).tmod (IntKind.u64.wrap (l.D.length : Int)))).toNat]!.write) (l.D[(IntKind.i64.wrap ((IntKind.u64.wrap i).tmod (IntKind.u64.wrap (l.D.length : Int)))).toNat]!.value) (l.D[(IntKind.i64.wrap ((IntKind.u64.wrap i).tmod (IntKind.u64.wrap (l.D.length : Int)))).toNat]!.ver) (l.D[(IntKind.i64.wrap ((IntKind.u64.wrap i).tmod (IntKind.u64.wrap (l.D.length : Int)))).toNat]!.began) 0)))] [] ?_ ?_ ?_
     · rfl
     · exact ⟨⟨_, rfl, .inl (.inl rfl)⟩, ⟨_, rfl, .inl (.inr ⟨_, _, _, rfl, by simp [sS] <;> omega⟩)⟩, trivial⟩
     · exact trivial
     refine Awp.consP C ?_
     refine rvP C (sS (some false) eOp (l.D.set ((IntKind.i64.wrap ((IntKind.u64.wrap i).tmod (IntKind.u64.wrap (l.D.length : Int)))).toNat) (Op.mk (l.D[(IntKind.i64.wrap ((IntKind.u64.wrap i).tmod (IntKind.u64.wrap (l.D.length : Int)))).toNat]!.write) (l.D[(IntKind.i64.wrap ((IntKind.u64.wrap i).tmod (IntKind.u64.wrap (l.D.length : Int)))).toNat]!.value) (l.D[(IntKind.i64.wrap ((IntKind.u64.wrap i).tmod (IntKind.u64.wrap (l.D.length : Int)))).toNat]!.ver) (l.D[(IntKind.i64.wrap ((IntKind.u64.wrap i).tmod (IntKind.u64.wrap (l.D.length : Int)))).toNat]!.began) 0))) ?_
     refine rvc_un (rexec_call hP C rfl rfl rfl (order_calls (Sl.mk false (l.D.set ((IntKind.i64.wrap ((IntKind.u64.wrap i).tmod (IntKind.u64.wrap (l.D.length : Int)))).toNat) (Op.mk (l.D[(IntKind.i64.wrap ((IntKind.u64.wrap i).tmod (IntKind.u64.wrap (l.D.length : Int)))).toNat]!.write) (l.D[(IntKind.i64.wrap ((IntKind.u64.wrap i).tmod (IntKind.u64.wrap (l.D.length : Int)))).toNat]!.value) (l.D[(IntKind.i64.wrap ((IntKind.u64.wrap i).tmod (IntKind.u64.wrap (l.D.length : Int)))).toNat]!.ver) (l.D[(IntKind.i64.wrap ((IntKind.u64.wrap i).tmod (IntKind.u64.wrap (l.D.length : Int)))).toNat]!.began) 0))) (by first | (show (l.D.set _ _).length ≤ _; rw [List.length_set]; omega) | exact Nat.le_trans (List.length_eraseIdx_le _ _) (by omega))) ?_)
     refine rvP C (.tup [sS (some (order (Sl.mk false (l.D.set ((IntKind.i64.wrap ((IntKind.u64.wrap i).tmod (IntKind.u64.wrap (l.D.length : Int)))).toNat) (Op.mk (l.D[(IntKind.i64.wrap ((IntKind.u64.wrap i).tmod (IntKind.u64.wrap (l.D.length : Int)))).toNat]!.write) (l.D[(IntKind.i64.wrap ((IntKind.u64.wrap i).tmod (IntKind.u64.wrap (l.D.length : Int)))).toNat]!.value) (l.D[(IntKind.i64.wrap ((IntKind.u64.wrap i).tmod (IntKind.u64.wrap (l.D.length : Int)))).toNat]!.ver) (l.D[(IntKind.i64.wrap ((IntKind.u64.wrap i).tmod (IntKind.u64.wrap (l.D.length : Int)))).toNat]!.began) 0)))).1.nil) (eI .i64) ((order (Sl.mk false (l.D.set ((IntKind.i64.wrap ((IntKind.u64.wrap i).tmod (IntKind.u64.wrap (l.D.length : Int)))).toNat) (Op.mk (l.D[(IntKind.i64.wrap ((IntKind.u64.wrap i).tmod (IntKind.u64.wrap (l.D.length : Int)))).toNat]!.write) (l.D[(IntKind.i64.wrap ((IntKind.u64.wrap i).tmod (IntKind.u64.wrap (l.D.length : Int)))).toNat]!.value) (l.D[(IntKind.i64.wrap ((IntKind.u64.wrap i).tmod (IntKind.u64.wrap (l.D.length : Int)))).toNat]!.ver) (l.D[(IntKind.i64.wrap ((IntKind.u64.wrap i).tmod (IntKind.u64.wrap (l.D.length : Int)))).toNat]!.began) 0)))).1.D), .pv (.lit (.bool ((order (Sl.mk false (l.D.set ((IntKind.i64.wrap ((IntKind.u64.wrap i).tmod (IntKind.u64.wrap (l.D.length : Int)))).toNat) (Op.mk (l.D[(IntKind.i64.wrap ((IntKind.u64.wrap i).tmod (IntKind.u64.wrap (l.D.length : Int)))).toNat]!.write) (l.D[(IntKind.i64.wrap ((IntKind.u64.wrap i).tmod (IntKind.u64.wrap (l.D.length : Int)))).toNat]!.value) (l.D[(IntKind.i64.wrap ((IntKind.u64.wrap i).tmod (IntKind.u64.wrap (l.D.length : Int)))).toNat]!.ver) (l.D[(IntKind.i64.wrap ((IntKind.u64.wrap i).tmod (IntKind.u64.wrap (l.D.length : Int)))).toNat]!.began) 0)))).2.1))), .pv (.lit (.int .i64 ((order (Sl.mk false (l.D.set ((IntKind.i64.wrap ((IntKind.u64.wrap i).tmod (IntKind.u64.wrap (l.D.length : Int)))).toNat) (Op.mk (l.D[(IntKind.i64.wrap ((IntKind.u64.wrap i).tmod (IntKind.u64.wrap (l.D.length : Int)))).toNat]!.write) (l.D[(IntKind.i64.wrap ((IntKind.u64.wrap i).tmod (IntKind.u64.wrap (l.D.length : Int)))).toNat]!.value) (l.D[(IntKind.i64.wrap ((IntKind.u64.wrap i).tmod (IntKind.u64.wrap (l.D.length : Int)))).toNat]!.ver) (l.D[(IntKind.i64.wrap ((IntKind.u64.wrap i).tmod (IntKind.u64.wrap (l.D.length : Int)))).toNat]!.began) 0)))).2.2)))]) ?_
     refine rvP C (sS (some (order (Sl.mk false (l.D.set ((IntKind.i64.wrap ((IntKind.u64.wrap i).tmod (IntKind.u64.wrap (l.D.length : Int)))).toNat) (Op.mk (l.D[(IntKind.i64.wrap ((IntKind.u64.wrap i).tmod (IntKind.u64.wrap (l.D.length : Int)))).toNat]!.write) (l.D[(IntKind.i64.wrap ((IntKind.u64.wrap i).tmod (IntKind.u64.wrap (l.D.length : Int)))).toNat]!.value) (l.D[(IntKind.i64.wrap ((IntKind.u64.wrap i).tmod (IntKind.u64.wrap (l.D.length : Int)))).toNat]!.ver) (l.D[(IntKind.i64.wrap ((IntKind.u64.wrap i).tmod (IntKind.u64.wrap (l.D.length : Int)))).toNat]!.began) 0)))).1.nil) (eI .i64) ((order (Sl.mk false (l.D.set ((IntKind.i64.wrap ((IntKind.u64.wrap i).tmod (IntKind.u64.wrap (l.D.length : Int)))).toNat) (Op.mk (l.D[(IntKind.i64.wrap ((IntKind.u64.wrap i).tmod (IntKind.u64.wrap (l.D.length : Int)))).toNat]!.write) (l.D[(IntKind.i64.wrap ((IntKind.u64.wrap i).tmod (IntKind.u64.wrap (l.D.length : Int)))).toNat]!.value) (l.D[(IntKind.i64.wrap ((IntKind.u64.wrap i).tmod (IntKind.u64.wrap (l.D.length : Int)))).toNat]!.ver) (l.D[(IntKind.i64.wrap ((IntKind.u64.wrap i).tmod (IntKind.u64.wrap (l.D.length : Int)))).toNat]!.began) 0)))).1.D)) ?_
     refine rvP C (.pv (.lit (.bool ((order (Sl.mk false (l.D.set ((IntKind.i64.wrap ((IntKind.u64.wrap i).tmod (IntKind.u64.wrap (l.D.length : Int)))).toNat) (Op.mk (l.D[(IntKind.i64.wrap ((IntKind.u64.wrap i).tmod (IntKind.u64.wrap (l.D.length : Int)))).toNat]!.write) (l.D[(IntKind.i64.wrap ((IntKind.u64.wrap i).tmod (IntKind.u64.wrap (l.D.length : Int)))).toNat]!.value) (l.D[(IntKind.i64.wrap ((IntKind.u64.wrap i).tmod (IntKind.u64.wrap (l.D.length : Int)))).toNat]!.ver) (l.D[(IntKind.i64.wrap ((IntKind.u64.wrap i).tmod (IntKind.u64.wrap (l.D.length : Int)))).toNat]!.began) 0)))).2.1)))) ?_
     refine rvP C (.pv (.lit (.int .i64 ((order (Sl.mk false (l.D.set ((IntKind.i64.wrap ((IntKind.u64.wrap i).tmod (IntKind.u64.wrap (l.D.length : Int)))).toNat) (Op.mk (l.D[(IntKind.i64.wrap ((IntKind.u64.wrap i).tmod (IntKind.u64.wrap (l.D.length : Int)))).toNat]!.write) (l.D[(IntKind.i64.wrap ((IntKind.u64.wrap i).tmod (IntKind.u64.wrap (l.D.length : Int)))).toNat]!.value) (l.D[(IntKind.i64.wrap ((IntKind.u64.wrap i).tmod (IntKind.u64.wrap (l.D.length : Int)))).toNat]!.ver) (l.D[(IntKind.i64.wrap ((IntKind.u64.wrap i).tmod (IntKind.u64.wrap (l.D.length : Int)))).toNat]!.began) 0)))).2.2)))) ?_
     refine rvP C (sS (some (order (Sl.mk false (l.D.set ((IntKind.i64.wrap ((IntKind.u64.wrap i).tmod (IntKind.u64.wrap (l.D.length : Int)))).toNat) (Op.mk (l.D[(IntKind.i64.wrap ((IntKind.u64.wrap i).tmod (IntKind.u64.wrap (l.D.length : Int)))).toNat]!.write) (l.D[(IntKind.i64.wrap ((IntKind.u64.wrap i).tmod (IntKind.u64.wrap (l.D.length : Int)))).toNat]!.value) (l.D[(IntKind.i64.wrap ((IntKind.u64.wrap i).tmod (IntKind.u64.wrap (l.D.length : Int)))).toNat]!.ver) (l.D[(IntKind.i64.wrap ((IntKind.u64.wrap i).tmod (IntKind.u64.wrap (l.D.length : Int)))).toNat]!.began) 0)))).1.nil) (eI .i64) ((order (Sl.mk false (l.D.set ((IntKind.i64.wrap ((IntKind.u64.wrap i).tmod (IntKind.u64.wrap (l.D.length : Int)))).toNat) (Op.mk (l.D[(IntKind.i64.wrap ((IntKind.u64.wrap i).tmod (IntKind.u64.wrap (l.D.length : Int)))).toNat]!.write) (l.D[(IntKind.i64.wrap ((IntKind.u64.wrap i).tmod (IntKind.u64.wrap (l.D.length : Int)))).toNat]!.value) (l.D[(IntKind.i64.wrap ((IntKind.u64.wrap i).tmod (IntKind.u64.wrap (l.D.length : Int)))).toNat]!.ver) (l.D[(IntKind.i64.wrap ((IntKind.u64.wrap i).tmod (IntKind.u64.wrap (l.D.length : Int)))).toNat]!.began) 0)))).1.D)) ?_
     refine rvP C (.pv (.lit (.bool ((order (Sl.mk false (l.D.set ((IntKind.i64.wrap ((IntKind.u64.wrap i).tmod (IntKind.u64.wrap (l.D.length : Int)))).toNat) (Op.mk (l.D[(IntKind.i64.wrap ((IntKind.u64.wrap i).tmod (IntKind.u64.wrap (l.D.length : Int)))).toNat]!.write) (l.D[(IntKind.i64.wrap ((IntKind.u64.wrap i).tmod (IntKind.u64.wrap (l.D.length : Int)))).toNat]!.value) (l.D[(IntKind.i64.wrap ((IntKind.u64.wrap i).tmod (IntKind.u64.wrap (l.D.length : Int)))).toNat]!.ver) (l.D[(IntKind.i64.wrap ((IntKind.u64.wrap i).tmod (IntKind.u64.wrap (l.D.length : Int)))).toNat]!.began) 0)))).2.1)))) ?_
     refine rvP C (.pv (.lit (.int .i64 ((order (Sl.mk false (l.D.set ((IntKind.i64.wrap ((IntKind.u64.wrap i).tmod (IntKind.u64.wrap (l.D.length : Int)))).toNat) (Op.mk (l.D[(IntKind.i64.wrap ((IntKind.u64.wrap i).tmod (IntKind.u64.wrap (l.D.length : Int)))).toNat]!.write) (l.D[(IntKind.i64.wrap ((IntKind.u64.wrap i).tmod (IntKind.u64.wrap (l.D.length : Int)))).toNat]!.value) (l.D[(IntKind.i64.wrap ((IntKind.u64.wrap i).tmod (IntKind.u64.wrap (l.D.length : Int)))).toNat]!.ver) (l.D[(IntKind.i64.wrap ((IntKind.u64.wrap i).tmod (IntKind.u64.wrap (l.D.length : Int)))).toNat]!.began) 0)))).2.2)))) ?_
     refine rvc_nil ?_
     refine Awp.consP C ?_
     refine rvP C (.pv (.lit (.bool ((order (Sl.mk false (l.D.set ((IntKind.i64.wrap ((IntKind.u64.wrap i).tmod (IntKind.u64.wrap (l.D.length : Int)))).toNat) (Op.mk (l.D[(IntKind.i64.wrap ((IntKind.u64.wrap i).tmod (IntKind.u64.wrap (l.D.length : Int)))).toNat]!.write) (l.D[(IntKind.i64.wrap ((IntKind.u64.wrap i).tmod (IntKind.u64.wrap (l.D.length : Int)))).toNat]!.value) (l.D[(IntKind.i64.wrap ((IntKind.u64.wrap i).tmod (IntKind.u64.wrap (l.D.length : Int)))).toNat]!.ver) (l.D[(IntKind.i64.wrap ((IntKind.u64.wrap i).tmod (IntKind.u64.wrap (l.D.length : Int)))).toNat]!.began) 0)))).2.1)))) ?_
     refine rvP C (.pv (.lit (.bool ((order (Sl.mk false (l.D.set ((IntKind.i64.wrap ((IntKind.u64.wrap i).tmod (IntKind.u64.wrap (l.D.length : Int)))).toNat) (Op.mk (l.D[(IntKind.i64.wrap ((IntKind.u64.wrap i).tmod (IntKind.u64.wrap (l.D.length : Int)))).toNat]!.write) (l.D[(IntKind.i64.wrap ((IntKind.u64.wrap i).tmod (IntKind.u64.wrap (l.D.length : Int)))).toNat]!.value) (l.D[(IntKind.i64.wrap ((IntKind.u64.wrap i).tmod (IntKind.u64.wrap (l.D.length : Int)))).toNat]!.ver) (l.D[(IntKind.i64.wrap ((IntKind.u64.wrap i).tmod (IntKind.u64.wrap (l.D.length : Int)))).toNat]!.began) 0)))).2.1)))) ?_
     refine rvc_case 60 ((order (Sl.mk false (l.D.set ((IntKind.i64.wrap ((IntKind.u64.wrap i).tmod (IntKind.u64.wrap (l.D.length : Int)))).toNat) (Op.mk (l.D[(IntKind.i64.wrap ((IntKind.u64.wrap i).tmod (IntKind.u64.wrap (l.D.length : Int)))).toNat]!.write) (l.D[(IntKind.i64.wrap ((IntKind.u64.wrap i).tmod (IntKind.u64.wrap (l.D.length : Int)))).toNat]!.value) (l.D[(IntKind.i64.wrap ((IntKind.u64.wrap i).tmod (IntKind.u64.wrap (l.D.length : Int)))).toNat]!.ver) (l.D[(IntKind.i64.wrap ((IntKind.u64.wrap i).tmod (IntKind.u64.wrap (l.D.length : Int)))).toNat]!.began) 0)))).2.1) rfl (fun h6 => ?_) (fun h6 => ?_)
     ·
      replace hR := of_true h6 hR
      refine rvO C (.pv (.lit (.int .i64 ((order (Sl.mk false (l.D.set ((IntKind.i64.wrap ((IntKind.u64.wrap i).tmod (IntKind.u64.wrap (l.D.length : Int)))).toNat) (Op.mk (l.D[(IntKind.i64.wrap ((IntKind.u64.wrap i).tmod (IntKind.u64.wrap (l.D.length : Int)))).toNat]!.write) (l.D[(IntKind.i64.wrap ((IntKind.u64.wrap i).tmod (IntKind.u64.wrap (l.D.length : Int)))).toNat]!.value) (l.D[(IntKind.i64.wrap ((IntKind.u64.wrap i).tmod (IntKind.u64.wrap (l.D.length : Int)))).toNat]!.ver) (l.D[(IntKind.i64.wrap ((IntKind.u64.wrap i).tmod (IntKind.u64.wrap (l.D.length : Int)))).toNat]!.began) 0)))).2.2)))) ?_
      refine rvO C (.pv (.lit (.bool (((order (Sl.mk false (l.D.set ((IntKind.i64.wrap ((IntKind.u64.wrap i).tmod (IntKind.u64.wrap (l.D.length : Int)))).toNat) (Op.mk (l.D[(IntKind.i64.wrap ((IntKind.u64.wrap i).tmod (IntKind.u64.wrap (l.D.length : Int)))).toNat]!.write) (l.D[(IntKind.i64.wrap ((IntKind.u64.wrap i).tmod (IntKind.u64.wrap (l.D.length : Int)))).toNat]!.value) (l.D[(IntKind.i64.wrap ((IntKind.u64.wrap i).tmod (IntKind.u64.wrap (l.D.length : Int)))).toNat]!.ver) (l.D[(IntKind.i64.wrap ((IntKind.u64.wrap i).tmod (IntKind.u64.wrap (l.D.length : Int)))).toNat]!.began) 0)))).2.2) == 0)))) ?_
      refine rvP C (.pv (.lit (.bool (((order (Sl.mk false (l.D.set ((IntKind.i64.wrap ((IntKind.u64.wrap i).tmod (IntKind.u64.wrap (l.D.length : Int)))).toNat) (Op.mk (l.D[(IntKind.i64.wrap ((IntKind.u64.wrap i).tmod (IntKind.u64.wrap (l.D.length : Int)))).toNat]!.write) (l.D[(IntKind.i64.wrap ((IntKind.u64.wrap i).tmod (IntKind.u64.wrap (l.D.length : Int)))).toNat]!.value) (l.D[(IntKind.i64.wrap ((IntKind.u64.wrap i).tmod (IntKind.u64.wrap (l.D.length : Int)))).toNat]!.ver) (l.D[(IntKind.i64.wrap ((IntKind.u64.wrap i).tmod (IntKind.u64.wrap (l.D.length : Int)))).toNat]!.began) 0)))).2.2) == 0)))) ?_
      refine rvP C (.pv (.lit (.bool (((order (Sl.mk false (l.D.set ((IntKind.i64.wrap ((IntKind.u64.wrap i).tmod (IntKind.u64.wrap (l.D.length : Int)))).toNat) (Op.mk (l.D[(IntKind.i64.wrap ((IntKind.u64.wrap i).tmod (IntKind.u64.wrap (l.D.length : Int)))).toNat]!.write) (l.D[(IntKind.i64.wrap ((IntKind.u64.wrap i).tmod (IntKind.u64.wrap (l.D.length : Int)))).toNat]!.value) (l.D[(IntKind.i64.wrap ((IntKind.u64.wrap i).tmod (IntKind.u64.wrap (l.D.length : Int)))).toNat]!.ver) (l.D[(IntKind.i64.wrap ((IntKind.u64.wrap i).tmod (IntKind.u64.wrap (l.D.length : Int)))).toNat]!.began) 0)))).2.2) == 0)))) ?_
      refine rvc_case 64 (((order (Sl.mk false (l.D.set ((IntKind.i64.wrap ((IntKind.u64.wrap i).tmod (IntKind.u64.wrap (l.D.length : Int)))).toNat) (Op.mk (l.D[(IntKind.i64.wrap ((IntKind.u64.wrap i).tmod (IntKind.u64.wrap (l.D.length : Int)))).toNat]!.write) (l.D[(IntKind.i64.wrap ((IntKind.u64.wrap i).tmod (IntKind.u64.wrap (l.D.length : Int)))).toNat]!.value) (l.D[(IntKind.i64.wrap ((IntKind.u64.wrap i).tmod (IntKind.u64.wrap (l.D.length : Int)))).toNat]!.ver) (l.D[(IntKind.i64.wrap ((IntKind.u64.wrap i).tmod (IntKind.u64.wrap (l.D.length : Int)))).toNat]!.began) 0)))).2.2) == 0) rfl (fun h7 => ?_) (fun h7 => ?_)
      ·
       replace hR := of_true h7 hR
       refine rvc_open rfl rfl rfl (rexec_call hP C rfl rfl rfl (awakeL_calls ) ?_)
       refine rvP C (.pv (.lit (.bool (awakeL )))) ?_
       refine rvP C (.pv (.lit (.bool (awakeL )))) ?_
       refine rvc_nil ?_
       refine Awp.ret ?_
       subst hR
       exact ⟨.inl rfl, rfl⟩
      ·
       replace hR := of_false h7 hR
       refine rvS ?_
       refine rvP C (.pv (.lit (.bool false))) ?_
       refine rvP C (.pv (.lit (.bool false))) ?_
       refine rvc_nil ?_
       refine Awp.ret ?_
       subst hR
       exact ⟨.inl rfl, rfl⟩
     ·
      replace hR := of_false h6 hR
      refine rvS ?_
      refine rvS ?_
      refine rvP C (.pv (.lit (.bool false))) ?_
      refine rvP C (.pv (.lit (.bool false))) ?_
      refine rvS ?_
      refine rvP C (.pv (.lit (.bool false))) ?_
      refine rvP C (.pv (.lit (.bool false))) ?_
      refine rvc_nil ?_
      refine Awp.ret ?_
      subst hR
      exact ⟨.inl rfl, rfl⟩
    ·
     replace hR := of_false h5 hR
     refine Awp.region C (fun _ => .writer) (by kernel_rfl) ?_
     refine rvP C (.sl 38 0 l.D.length 5 false) ?_
     refine rvP C (.pv (.lit (.int .i64 (IntKind.i64.wrap ((IntKind.u64.wrap i).tmod (IntKind.u64.wrap (l.D.length : Int))))))) ?_
     refine rvP C (.pv (.lit (.int .i64 (IntKind.i64.wrap ((IntKind.u64.wrap i).tmod (IntKind.u64.wrap (l.D.length : Int))))))) ?_
     refine rvP C (.pv (.lit (.int .i64 (IntKind.i64.wrap ((IntKind.i64.wrap ((IntKind.u64.wrap i).tmod (IntKind.u64.wrap (l.D.length : Int)))) + 1))))) ?_
     refine rvc_un (rexec_callX hP C (b := 38) rfl rfl rfl (delOp_calls l.D (IntKind.i64.wrap ((IntKind.u64.wrap i).tmod (IntKind.u64.wrap (l.D.length : Int)))) (IntKind.i64.wrap ((IntKind.i64.wrap ((IntKind.u64.wrap i).tmod (IntKind.u64.wrap (l.D.length : Int)))) + 1)) hx_ (wrap_i64 (by omega) (by omega)) (by omega)) rfl rfl ?_)
     refine rvP C (sS (some false) eOp (List.eraseIdx l.D ((IntKind.i64.wrap ((IntKind.u64.wrap i).tmod (IntKind.u64.wrap (l.D.length : Int))))).toNat)) ?_
     refine rvc_nil ?_
     refine Awp.consP C ?_
     refine rvP C (sS (some false) eOp (List.eraseIdx l.D ((IntKind.i64.wrap ((IntKind.u64.wrap i).tmod (IntKind.u64.wrap (l.D.length : Int))))).toNat)) ?_
     refine rvc_un (rexec_call hP C rfl rfl rfl (order_calls (Sl.mk false (List.eraseIdx l.D ((IntKind.i64.wrap ((IntKind.u64.wrap i).tmod (IntKind.u64.wrap (l.D.length : Int))))).toNat)) (by first | (show (l.D.set _ _).length ≤ _; rw [List.length_set]; omega) | exact Nat.le_trans (List.length_eraseIdx_le _ _) (by omega))) ?_)
     refine rvP C (.tup [sS (some (order (Sl.mk false (List.eraseIdx l.D ((IntKind.i64.wrap ((IntKind.u64.wrap i).tmod (IntKind.u64.wrap (l.D.length : Int))))).toNat))).1.nil) (eI .i64) ((order (Sl.mk false (List.eraseIdx l.D ((IntKind.i64.wrap ((IntKind.u64.wrap i).tmod (IntKind.u64.wrap (l.D.length : Int))))).toNat))).1.D), .pv (.lit (.bool ((order (Sl.mk false (List.eraseIdx l.D ((IntKind.i64.wrap ((IntKind.u64.wrap i).tmod (IntKind.u64.wrap (l.D.length : Int))))).toNat))).2.1))), .pv (.lit (.int .i64 ((order (Sl.mk false (List.eraseIdx l.D ((IntKind.i64.wrap ((IntKind.u64.wrap i).tmod (IntKind.u64.wrap (l.D.length : Int))))).toNat))).2.2)))]) ?_
     refine rvP C (sS (some (order (Sl.mk false (List.eraseIdx l.D ((IntKind.i64.wrap ((IntKind.u64.wrap i).tmod (IntKind.u64.wrap (l.D.length : Int))))).toNat))).1.nil) (eI .i64) ((order (Sl.mk false (List.eraseIdx l.D ((IntKind.i64.wrap ((IntKind.u64.wrap i).tmod (IntKind.u64.wrap (l.D.length : Int))))).toNat))).1.D)) ?_
     refine rvP C (.pv (.lit (.bool ((order (Sl.mk false (List.eraseIdx l.D ((IntKind.i64.wrap ((IntKind.u64.wrap i).tmod (IntKind.u64.wrap (l.D.length : Int))))).toNat))).2.1)))) ?_
     refine rvP C (.pv (.lit (.int .i64 ((order (Sl.mk false (List.eraseIdx l.D ((IntKind.i64.wrap ((IntKind.u64.wrap i).tmod (IntKind.u64.wrap (l.D.length : Int))))).toNat))).2.2)))) ?_
     refine rvP C (sS (some (order (Sl.mk false (List.eraseIdx l.D ((IntKind.i64.wrap ((IntKind.u64.wrap i).tmod (IntKind.u64.wrap (l.D.length : Int))))).toNat))).1.nil) (eI .i64) ((order (Sl.mk false (List.eraseIdx l.D ((IntKind.i64.wrap ((IntKind.u64.wrap i).tmod (IntKind.u64.wrap (l.D.length : Int))))).toNat))).1.D)) ?_
     refine rvP C (.pv (.lit (.bool ((order (Sl.mk false (List.eraseIdx l.D ((IntKind.i64.wrap ((IntKind.u64.wrap i).tmod (IntKind.u64.wrap (l.D.length : Int))))).toNat))).2.1)))) ?_
     refine rvP C (.pv (.lit (.int .i64 ((order (Sl.mk false (List.eraseIdx l.D ((IntKind.i64.wrap ((IntKind.u64.wrap i).tmod (IntKind.u64.wrap (l.D.length : Int))))).toNat))).2.2)))) ?_
     refine rvc_nil ?_
     refine Awp.consP C ?_
     refine rvP C (.pv (.lit (.bool ((order (Sl.mk false (List.eraseIdx l.D ((IntKind.i64.wrap ((IntKind.u64.wrap i).tmod (IntKind.u64.wrap (l.D.length : Int))))).toNat))).2.1)))) ?_
     refine rvP C (.pv (.lit (.bool ((order (Sl.mk false (List.eraseIdx l.D ((IntKind.i64.wrap ((IntKind.u64.wrap i).tmod (IntKind.u64.wrap (l.D.length : Int))))).toNat))).2.1)))) ?_
     refine rvc_case 60 ((order (Sl.mk false (List.eraseIdx l.D ((IntKind.i64.wrap ((IntKind.u64.wrap i).tmod (IntKind.u64.wrap (l.D.length : Int))))).toNat))).2.1) rfl (fun h8 => ?_) (fun h8 => ?_)
     ·
      replace hR := of_true h8 hR
      refine rvO C (.pv (.lit (.int .i64 ((order (Sl.mk false (List.eraseIdx l.D ((IntKind.i64.wrap ((IntKind.u64.wrap i).tmod (IntKind.u64.wrap (l.D.length : Int))))).toNat))).2.2)))) ?_
      refine rvO C (.pv (.lit (.bool (((order (Sl.mk false (List.eraseIdx l.D ((IntKind.i64.wrap ((IntKind.u64.wrap i).tmod (IntKind.u64.wrap (l.D.length : Int))))).toNat))).2.2) == 0)))) ?_
      refine rvP C (.pv (.lit (.bool (((order (Sl.mk false (List.eraseIdx l.D ((IntKind.i64.wrap ((IntKind.u64.wrap i).tmod (IntKind.u64.wrap (l.D.length : Int))))).toNat))).2.2) == 0)))) ?_
      refine rvP C (.pv (.lit (.bool (((order (Sl.mk false (List.eraseIdx l.D ((IntKind.i64.wrap ((IntKind.u64.wrap i).tmod (IntKind.u64.wrap (l.D.length : Int))))).toNat))).2.2) == 0)))) ?_
      refine rvc_case 64 (((order (Sl.mk false (List.eraseIdx l.D ((IntKind.i64.wrap ((IntKind.u64.wrap i).tmod (IntKind.u64.wrap (l.D.length : Int))))).toNat))).2.2) == 0) rfl (fun h9 => ?_) (fun h9 => ?_)
      ·
       replace hR := of_true h9 hR
       refine rvc_open rfl rfl rfl (rexec_call hP C rfl rfl rfl (awakeL_calls ) ?_)
       refine rvP C (.pv (.lit (.bool (awakeL )))) ?_
       refine rvP C (.pv (.lit (.bool (awakeL )))) ?_
       refine rvc_nil ?_
       refine Awp.ret ?_
       subst hR
       exact ⟨.inl rfl, rfl⟩
      ·
       replace hR := of_false h9 hR
       refine rvS ?_
       refine rvP C (.pv (.lit (.bool false))) ?_
       refine rvP C (.pv (.lit (.bool false))) ?_
       refine rvc_nil ?_
       refine Awp.ret ?_
       subst hR
       exact ⟨.inl rfl, rfl⟩
     ·
      replace hR := of_false h8 hR
      refine rvS ?_
      refine rvS ?_
      refine rvP C (.pv (.lit (.bool false))) ?_
      refine rvP C (.pv (.lit (.bool false))) ?_
      refine rvS ?_
      refine rvP C (.pv (.lit (.bool false))) ?_
      refine rvP C (.pv (.lit (.bool false))) ?_
      refine rvc_nil ?_
      refine Awp.ret ?_
      subst hR
      exact ⟨.inl rfl, rfl⟩
end Go.Proofs.Ytaoagcdljmpllaa
