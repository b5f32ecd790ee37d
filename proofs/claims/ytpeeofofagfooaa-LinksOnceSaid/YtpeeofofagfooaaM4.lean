import Derived.Test.YtpeeofofagfooaaM3
import Derived.Test.YtpeeofofagfooaaM2
import Derived.Sort.Row
import Derived.Sort.Grow
import Derived.Deep.Draws
import Derived.Shelf.GgSortFunc.RowK
import Derived.Shelf.SlSortCmp.WholeK
/- A call is done. No conditions. -/
namespace Go.Proofs.Ytpeeofofagfooaa
open Go.Am
structure Do where
  op : Int
  i : Int
  l : Link
  b : (Sl Int)
  side : Int
  deriving Inhabited
def eDo : Enc Do := ⟨6, fun x => [.lit (.int .i64 x.op), .lit (.int .i64 x.i), .lit (.int .i64 x.l.from_), .lit (.int .i64 x.l.to), .sl (some x.b.nil) x.b.D.length (encL (eI .u8) x.b.D), .lit (.int .u64 x.side)], fun _ => rfl⟩
def does (n : Net) (k : Do) : Net × (Sl Int) × Bool × Int :=
  (bif ((IntKind.i64.wrap ((IntKind.u64.wrap k.op).tmod 9)) == 3) then ((nTake n k.l k.i).1, (nTake n k.l k.i).2.1, (nTake n k.l k.i).2.2.1, (nTake n k.l k.i).2.2.2) else (bif ((IntKind.i64.wrap ((IntKind.u64.wrap k.op).tmod 9)) == 4) then ((nTake n k.l k.i).1, (nTake n k.l k.i).2.1, (nTake n k.l k.i).2.2.1, (nTake n k.l k.i).2.2.2) else (bif ((IntKind.i64.wrap ((IntKind.u64.wrap k.op).tmod 9)) == 5) then ((nLose n k.l k.i).1, (Sl.mk true []), false, (nLose n k.l k.i).2) else (bif ((IntKind.i64.wrap ((IntKind.u64.wrap k.op).tmod 9)) == 6) then ((nDouble n k.l k.i).1, (Sl.mk true []), false, (nDouble n k.l k.i).2) else (bif ((IntKind.i64.wrap ((IntKind.u64.wrap k.op).tmod 9)) == 7) then ((nWall n k.side).1, (Sl.mk true []), false, (nWall n k.side).2) else (bif ((IntKind.i64.wrap ((IntKind.u64.wrap k.op).tmod 9)) == 8) then ((nForget n k.i).1, (Sl.mk true []), false, (nForget n k.i).2) else ((nSend n k.l k.b).1, (Sl.mk true []), false, (nSend n k.l k.b).2)))))))
theorem does_calls (n : Net) (k : Do) (ho : okN n) (hl1 : k.b.D.length ≤ 1000000) : ObjCalls Try.prog 13 [.ptr 0 0, .agg [.pv (.lit (.int .i64 k.op)), .pv (.lit (.int .i64 k.i)), .pv (.lit (.int .i64 k.l.from_)), .pv (.lit (.int .i64 k.l.to)), sS (some k.b.nil) (eI .u8) k.b.D, .pv (.lit (.int .u64 k.side))]] [.mp 1, .pv (.lit (.int .u64 n.side)), .pv (.lit (.int .i64 n.lost)), .pv (.lit (.bool n.made))] [(1, mapE kLink vT77.enc n.of_)] (.tup [sS (some (does n k).2.1.nil) (eI .u8) ((does n k).2.1.D), .pv (.lit (.bool ((does n k).2.2.1))), .pv (.lit (.int .i64 ((does n k).2.2.2)))]) [.mp 1, .pv (.lit (.int .u64 ((does n k).1.side))), .pv (.lit (.int .i64 ((does n k).1.lost))), .pv (.lit (.bool ((does n k).1.made)))] [(1, mapE kLink vT77.enc ((does n k).1.of_))] := by
 generalize hR : does n k = R
 refine ObjCalls.of_body tabOk Try.func13 rfl rfl rfl rfl rfl (allB_cons (mapE_within _ _) allB_nil) (of_decide_eq_true rfl) rfl rfl (allB_cons (mapE_within _ _) allB_nil) (of_decide_eq_true rfl) mixed fun E hP C hI => ?_
 refine Awp.consP C ?_
 refine rvc_un (rexec_prim C (δ := { v := .ptr 3 0, new := [(3, .cells [.pv (.lit (.int .i64 k.op)), .pv (.lit (.int .i64 k.i)), .pv (.lit (.int .i64 k.l.from_)), .pv (.lit (.int .i64 k.l.to)), sS (some k.b.nil) (eI .u8) k.b.D, .pv (.lit (.int .u64 k.side))])] }) rfl rfl rfl rfl trivial rfl ?_)
 refine rvP C (sS (some true) (eI .u8) []) ?_
 refine rvP C (.pv (.lit (.bool false))) ?_
 refine rvP C (.pv (.lit (.int .i64 0))) ?_
 refine rvc_nil ?_
 refine Awp.seq ?_
 refine Awp.consP C ?_
 refine rvP C (.ptr 3 0) ?_
 refine rvP C (.pv (.lit (.int .i64 k.op))) ?_
 refine rvP C (.pv (.lit (.int .u64 (IntKind.u64.wrap k.op)))) ?_
 refine rvc_un (rexec_prim C (δ := { v := .pv (.lit (.int .u64 ((IntKind.u64.wrap k.op).tmod 9))) }) rfl rfl rfl rfl (by first | decide | omega) rfl ?_)
 refine rvP C (.pv (.lit (.int .i64 (IntKind.i64.wrap ((IntKind.u64.wrap k.op).tmod 9))))) ?_
 refine rvc_nil ?_
 refine Awp.block ?_
 refine Awp.seq ?_
 refine Awp.consP C ?_
 refine rvP C (.pv (.lit (.bool ((IntKind.i64.wrap ((IntKind.u64.wrap k.op).tmod 9)) == 3)))) ?_
 refine rvP C (.pv (.lit (.bool ((IntKind.i64.wrap ((IntKind.u64.wrap k.op).tmod 9)) == 3)))) ?_
 refine rvc_nil ?_
 refine Awp.cond (b := ((IntKind.i64.wrap ((IntKind.u64.wrap k.op).tmod 9)) == 3)) rfl (fun h1 => ?_) (fun h1 => ?_)
 ·
  replace hR := of_true h1 hR
  refine Awp.skip ?_
  refine Awp.condT (b := ((IntKind.i64.wrap ((IntKind.u64.wrap k.op).tmod 9)) == 3)) rfl h1 ?_
  refine Awp.cons C (fun _ => .writer) (by kernel_rfl) ?_
  refine rvP C (.ptr 0 0) ?_
  refine rvP C (.ptr 3 2) ?_
  refine rvP C (.agg [.pv (.lit (.int .i64 k.l.from_)), .pv (.lit (.int .i64 k.l.to))]) ?_
  refine rvP C (.ptr 3 1) ?_
  refine rvP C (.pv (.lit (.int .i64 k.i))) ?_
  refine rvc_un (rexec_callObj hP C (fun b => bif b == 0 then 0 else bif b == 1 then 1 else b) [] rfl rfl rfl (nTake_calls n k.l k.i ho) rfl rfl ⟨rfl, trivial⟩ (of_decide_eq_true rfl) rfl (of_decide_eq_true rfl) (of_decide_eq_true rfl) allB_nil allB_nil (allB_cons rfl allB_nil) ?_ rfl (allB_cons rfl allB_nil))
  refine rvP C (sS (some (nTake n k.l k.i).2.1.nil) (eI .u8) ((nTake n k.l k.i).2.1.D)) ?_
  refine rvP C (.pv (.lit (.bool ((nTake n k.l k.i).2.2.1)))) ?_
  refine rvP C (.pv (.lit (.int .i64 ((nTake n k.l k.i).2.2.2)))) ?_
  refine rvP C (sS (some (nTake n k.l k.i).2.1.nil) (eI .u8) ((nTake n k.l k.i).2.1.D)) ?_
  refine rvP C (.pv (.lit (.bool ((nTake n k.l k.i).2.2.1)))) ?_
  refine rvP C (.pv (.lit (.int .i64 ((nTake n k.l k.i).2.2.2)))) ?_
  refine rvc_nil ?_
  refine Awp.ret ?_
  subst hR
  exact ⟨.inl rfl, rfl, rfl, ⟨rfl, trivial⟩⟩
 ·
  replace hR := of_false h1 hR
  refine Awp.regionP C ?_
  refine rvP C (.pv (.lit (.bool ((IntKind.i64.wrap ((IntKind.u64.wrap k.op).tmod 9)) == 4)))) ?_
  refine rvP C (.pv (.lit (.bool ((IntKind.i64.wrap ((IntKind.u64.wrap k.op).tmod 9)) == 4)))) ?_
  refine rvc_nil ?_
  refine Awp.cond (b := ((IntKind.i64.wrap ((IntKind.u64.wrap k.op).tmod 9)) == 4)) rfl (fun h2 => ?_) (fun h2 => ?_)
  ·
   replace hR := of_true h2 hR
   refine Awp.cons C (fun _ => .writer) (by kernel_rfl) ?_
   refine rvP C (.ptr 0 0) ?_
   refine rvP C (.ptr 3 2) ?_
   refine rvP C (.agg [.pv (.lit (.int .i64 k.l.from_)), .pv (.lit (.int .i64 k.l.to))]) ?_
   refine rvP C (.ptr 3 1) ?_
   refine rvP C (.pv (.lit (.int .i64 k.i))) ?_
   refine rvc_un (rexec_callObj hP C (fun b => bif b == 0 then 0 else bif b == 1 then 1 else b) [] rfl rfl rfl (nTake_calls n k.l k.i ho) rfl rfl ⟨rfl, trivial⟩ (of_decide_eq_true rfl) rfl (of_decide_eq_true rfl) (of_decide_eq_true rfl) allB_nil allB_nil (allB_cons rfl allB_nil) ?_ rfl (allB_cons rfl allB_nil))
   refine rvP C (sS (some (nTake n k.l k.i).2.1.nil) (eI .u8) ((nTake n k.l k.i).2.1.D)) ?_
   refine rvP C (.pv (.lit (.bool ((nTake n k.l k.i).2.2.1)))) ?_
   refine rvP C (.pv (.lit (.int .i64 ((nTake n k.l k.i).2.2.2)))) ?_
   refine rvP C (sS (some (nTake n k.l k.i).2.1.nil) (eI .u8) ((nTake n k.l k.i).2.1.D)) ?_
   refine rvP C (.pv (.lit (.bool ((nTake n k.l k.i).2.2.1)))) ?_
   refine rvP C (.pv (.lit (.int .i64 ((nTake n k.l k.i).2.2.2)))) ?_
   refine rvc_nil ?_
   refine Awp.ret ?_
   subst hR
   exact ⟨.inl rfl, rfl, rfl, ⟨rfl, trivial⟩⟩
  ·
   replace hR := of_false h2 hR
   refine Awp.consP C ?_
   refine rvP C (.pv (.lit (.bool ((IntKind.i64.wrap ((IntKind.u64.wrap k.op).tmod 9)) == 5)))) ?_
   refine rvP C (.pv (.lit (.bool ((IntKind.i64.wrap ((IntKind.u64.wrap k.op).tmod 9)) == 5)))) ?_
   refine rvc_nil ?_
   refine Awp.cond (b := ((IntKind.i64.wrap ((IntKind.u64.wrap k.op).tmod 9)) == 5)) rfl (fun h3 => ?_) (fun h3 => ?_)
   ·
    replace hR := of_true h3 hR
    refine Awp.cons C (fun _ => .writer) (by kernel_rfl) ?_
    refine rvP C (.ptr 0 0) ?_
    refine rvP C (.ptr 3 2) ?_
    refine rvP C (.agg [.pv (.lit (.int .i64 k.l.from_)), .pv (.lit (.int .i64 k.l.to))]) ?_
    refine rvP C (.ptr 3 1) ?_
    refine rvP C (.pv (.lit (.int .i64 k.i))) ?_
    refine rvc_un (rexec_callObj hP C (fun b => bif b == 0 then 0 else bif b == 1 then 1 else b) [] rfl rfl rfl (nLose_calls n k.l k.i ho) rfl rfl ⟨rfl, trivial⟩ (of_decide_eq_true rfl) rfl (of_decide_eq_true rfl) (of_decide_eq_true rfl) allB_nil allB_nil (allB_cons rfl allB_nil) ?_ rfl (allB_cons rfl allB_nil))
    refine rvP C (sS (some true) (eI .u8) []) ?_
    refine rvP C (.pv (.lit (.bool false))) ?_
    refine rvP C (.pv (.lit (.int .i64 ((nLose n k.l k.i).2)))) ?_
    refine rvc_nil ?_
    refine Awp.ret ?_
    subst hR
    exact ⟨.inl rfl, rfl, rfl, ⟨rfl, trivial⟩⟩
   ·
    replace hR := of_false h3 hR
    refine Awp.consP C ?_
    refine rvP C (.pv (.lit (.bool ((IntKind.i64.wrap ((IntKind.u64.wrap k.op).tmod 9)) == 6)))) ?_
    refine rvP C (.pv (.lit (.bool ((IntKind.i64.wrap ((IntKind.u64.wrap k.op).tmod 9)) == 6)))) ?_
    refine rvc_nil ?_
    refine Awp.cond (b := ((IntKind.i64.wrap ((IntKind.u64.wrap k.op).tmod 9)) == 6)) rfl (fun h4 => ?_) (fun h4 => ?_)
    ·
     replace hR := of_true h4 hR
     refine Awp.cons C (fun _ => .writer) (by kernel_rfl) ?_
     refine rvP C (.ptr 0 0) ?_
     refine rvP C (.ptr 3 2) ?_
     refine rvP C (.agg [.pv (.lit (.int .i64 k.l.from_)), .pv (.lit (.int .i64 k.l.to))]) ?_
     refine rvP C (.ptr 3 1) ?_
     refine rvP C (.pv (.lit (.int .i64 k.i))) ?_
     refine rvc_un (rexec_callObj hP C (fun b => bif b == 0 then 0 else bif b == 1 then 1 else b) [] rfl rfl rfl (nDouble_calls n k.l k.i ho) rfl rfl ⟨rfl, trivial⟩ (of_decide_eq_true rfl) rfl (of_decide_eq_true rfl) (of_decide_eq_true rfl) allB_nil allB_nil (allB_cons rfl allB_nil) ?_ rfl (allB_cons rfl allB_nil))
     refine rvP C (sS (some true) (eI .u8) []) ?_
     refine rvP C (.pv (.lit (.bool false))) ?_
     refine rvP C (.pv (.lit (.int .i64 ((nDouble n k.l k.i).2)))) ?_
     refine rvc_nil ?_
     refine Awp.ret ?_
     subst hR
     exact ⟨.inl rfl, rfl, rfl, ⟨rfl, trivial⟩⟩
    ·
     replace hR := of_false h4 hR
     refine Awp.consP C ?_
     refine rvP C (.pv (.lit (.bool ((IntKind.i64.wrap ((IntKind.u64.wrap k.op).tmod 9)) == 7)))) ?_
     refine rvP C (.pv (.lit (.bool ((IntKind.i64.wrap ((IntKind.u64.wrap k.op).tmod 9)) == 7)))) ?_
     refine rvc_nil ?_
     refine Awp.cond (b := ((IntKind.i64.wrap ((IntKind.u64.wrap k.op).tmod 9)) == 7)) rfl (fun h5 => ?_) (fun h5 => ?_)
     ·
      replace hR := of_true h5 hR
      refine Awp.cons C (fun _ => .writer) (by kernel_rfl) ?_
      refine rvP C (.ptr 0 0) ?_
      refine rvP C (.ptr 3 5) ?_
      refine rvP C (.pv (.lit (.int .u64 k.side))) ?_
      refine rvc_un (rexec_callObj hP C (fun b => bif b == 0 then 0 else bif b == 1 then 1 else b) [] rfl rfl rfl (nWall_calls n k.side) rfl rfl ⟨rfl, trivial⟩ (of_decide_eq_true rfl) rfl (of_decide_eq_true rfl) (of_decide_eq_true rfl) allB_nil allB_nil (allB_cons rfl allB_nil) ?_ rfl (allB_cons rfl allB_nil))
      refine rvP C (sS (some true) (eI .u8) []) ?_
      refine rvP C (.pv (.lit (.bool false))) ?_
      refine rvP C (.pv (.lit (.int .i64 ((nWall n k.side).2)))) ?_
      refine rvc_nil ?_
      refine Awp.ret ?_
      subst hR
      exact ⟨.inl rfl, rfl, rfl, ⟨rfl, trivial⟩⟩
     ·
      replace hR := of_false h5 hR
      refine Awp.consP C ?_
      refine rvP C (.pv (.lit (.bool ((IntKind.i64.wrap ((IntKind.u64.wrap k.op).tmod 9)) == 8)))) ?_
      refine rvP C (.pv (.lit (.bool ((IntKind.i64.wrap ((IntKind.u64.wrap k.op).tmod 9)) == 8)))) ?_
      refine rvc_nil ?_
      refine Awp.cond (b := ((IntKind.i64.wrap ((IntKind.u64.wrap k.op).tmod 9)) == 8)) rfl (fun h6 => ?_) (fun h6 => ?_)
      ·
       replace hR := of_true h6 hR
       refine Awp.cons C (fun _ => .writer) (by kernel_rfl) ?_
       refine rvP C (.ptr 0 0) ?_
       refine rvP C (.ptr 3 1) ?_
       refine rvP C (.pv (.lit (.int .i64 k.i))) ?_
       refine rvc_un (rexec_callObj hP C (fun b => bif b == 0 then 0 else bif b == 1 then 1 else b) [] rfl rfl rfl (nForget_calls n k.i) rfl rfl ⟨rfl, trivial⟩ (of_decide_eq_true rfl) rfl (of_decide_eq_true rfl) (of_decide_eq_true rfl) allB_nil allB_nil (allB_cons rfl allB_nil) ?_ rfl (allB_cons rfl allB_nil))
       refine rvP C (sS (some true) (eI .u8) []) ?_
       refine rvP C (.pv (.lit (.bool false))) ?_
       refine rvP C (.pv (.lit (.int .i64 ((nForget n k.i).2)))) ?_
       refine rvc_nil ?_
       refine Awp.ret ?_
       subst hR
       exact ⟨.inl rfl, rfl, rfl, ⟨rfl, trivial⟩⟩
      ·
       replace hR := of_false h6 hR
       refine Awp.skip ?_
       refine Awp.cons C (fun _ => .writer) (by kernel_rfl) ?_
       refine rvP C (.ptr 0 0) ?_
       refine rvP C (.ptr 3 2) ?_
       refine rvP C (.agg [.pv (.lit (.int .i64 k.l.from_)), .pv (.lit (.int .i64 k.l.to))]) ?_
       refine rvP C (.ptr 3 4) ?_
       refine rvP C (sS (some k.b.nil) (eI .u8) k.b.D) ?_
       refine rvc_un (rexec_callObj hP C (fun b => bif b == 0 then 0 else bif b == 1 then 1 else b) [] rfl rfl rfl (nSend_calls n k.l k.b hl1) rfl rfl ⟨rfl, trivial⟩ (of_decide_eq_true rfl) rfl (of_decide_eq_true rfl) (of_decide_eq_true rfl) allB_nil allB_nil (allB_cons rfl allB_nil) ?_ rfl (allB_cons rfl allB_nil))
       refine rvP C (sS (some true) (eI .u8) []) ?_
       refine rvP C (.pv (.lit (.bool false))) ?_
       refine rvP C (.pv (.lit (.int .i64 ((nSend n k.l k.b).2)))) ?_
       refine rvc_nil ?_
       refine Awp.ret ?_
       subst hR
       exact ⟨.inl rfl, rfl, rfl, ⟨rfl, trivial⟩⟩
def short_l1 (x : (Sl Do)) (kk : Int → Int → Int → Bool) : Nat → Int → Int → Int → Bool
  | 0, _, _, _ => default
  | nn + 1, n1, acts1, i1 => (bif (decide (i1 < (x.D.length : Int))) then (bif (decide (acts1 ≤ 150)) then (bif (decide (n1 ≤ 16384)) then short_l1 x kk nn (IntKind.i64.wrap (n1 + (bif (decide ((16385 : Int) < ((x.D[i1.toNat]!.b.D).length : Int))) then (16385 : Int) else ((x.D[i1.toNat]!.b.D).length : Int)))) (IntKind.i64.wrap (acts1 + 1)) (IntKind.i64.wrap (i1 + 1)) else kk n1 acts1 i1) else kk n1 acts1 i1) else kk n1 acts1 i1)
def short_l0 : List (Sl Do) → Nat → Int → Int → Bool
  | [], _, n, acts => (bif (decide (acts ≤ 150)) then (decide (n ≤ 16384)) else false)
  | x :: xs, i, n, acts => short_l1 x (fun n1 acts1 _ => short_l0 xs (i + 1) n1 acts1) ((x.D.length - (0 : Int).toNat) + 1) n acts 0
def short (lists : (Sl (Sl Do))) : Bool :=
  short_l0 lists.D 0 0 0
theorem short_calls (lists : (Sl (Sl Do))) (hl1 : lists.D.length ≤ 9223372036854775807) : PCalls Try.prog 10 [sS (some lists.nil) (eSl eDo) lists.D] (.pv (.lit (.bool (short lists)))) := by
 generalize hR : short lists = R
 refine PCalls.of_body tabOk Try.func10 rfl rfl rfl rfl rfl mixed fun E hP C hI => ?_
 refine Awp.consP C ?_
 refine rvP C (.pv (.lit (.bool false))) ?_
 refine rvc_nil ?_
 refine Awp.consP C ?_
 refine rvP C (.pv (.lit (.int .i64 0))) ?_
 refine rvP C (.pv (.lit (.int .i64 0))) ?_
 refine rvc_nil ?_
 refine Awp.seq ?_
 refine Awp.consP C ?_
 refine rvP C (sS (some lists.nil) (eSl eDo) lists.D) ?_
 refine rvP C (.pv (.lit (.int .i64 (lists.D.length : Int)))) ?_
 refine rvP C (.pv (.lit (.int .i64 0))) ?_
 refine rvc_nil ?_
 refine Awp.block ?_
 refine Awp.forR (σ := Int × Int) (lists.D.length) (fun i v => [(3, .pv (.lit (.int .i64 v.1))), (4, .pv (.lit (.int .i64 v.2))), (8, sS (some lists.nil) (eSl eDo) lists.D), (9, .pv (.lit (.int .i64 (lists.D.length : Int)))), (10, .pv (.lit (.int .i64 (i : Int))))]) (fun i v => []) [] (fun i v => (short_l0 (lists.D.drop i) i v.1 v.2 = R) ∧ ((0 ≤ v.2 ∧ v.2 ≤ 151) ∧ (0 ≤ v.1 ∧ v.1 ≤ 32769))) (0, 0) ?_ ?_ (fun i v h1 hR => ?_)
 · exact ⟨hR, (by dsimp only; omega)⟩
 · exact ⟨fun b => b, WeakerR.ofL (Ks := []) hI ⟨⟨rfl, rfl⟩, ⟨rfl, rfl⟩, ⟨rfl, rfl⟩, ⟨rfl, rfl⟩, ⟨rfl, rfl⟩, trivial⟩ (okH_nil) rfl⟩
 obtain ⟨n, acts⟩ := v
 obtain ⟨hR, hV⟩ := hR
 replace hV : (0 ≤ acts ∧ acts ≤ 151) ∧ (0 ≤ n ∧ n ≤ 32769) := hV
 refine Awp.consP C ?_
 refine rvP C (.pv (.lit (.bool (decide ((i : Int) < (lists.D.length : Int)))))) ?_
 refine rvc_nil ?_
 refine Awp.seq ?_
 refine Awp.cond (b := (decide ((i : Int) < (lists.D.length : Int)))) rfl (fun h2 => ?_) (fun h2 => ?_)
 ·
  have h3 : i < lists.D.length := by have := of_decide_eq_true h2; omega
  obtain ⟨x, h4⟩ := getX h3
  rw [drop_at h4] at hR
  refine Awp.skip ?_
  refine Awp.seq ?_
  refine Awp.block ?_
  refine Awp.consP C ?_
  refine rvc_un (rexec_idxS C rfl rfl rfl rfl rfl rfl x (Int.natCast_nonneg _) h4 ?_)
  refine rvP C (sS (some x.nil) eDo x.D) ?_
  refine rvP C (sS (some x.nil) eDo x.D) ?_
  refine rvc_nil ?_
  refine Awp.consP C ?_
  refine rvP C (.pv (.lit (.int .i64 0))) ?_
  refine rvc_nil ?_
  refine Awp.block ?_
  refine Awp.forM (σ := Int × Int × Int) (fun v => [(3, .pv (.lit (.int .i64 v.1))), (4, .pv (.lit (.int .i64 v.2.1))), (6, sS (some x.nil) eDo x.D), (7, .pv (.lit (.int .i64 v.2.2))), (8, sS (some lists.nil) (eSl eDo) lists.D), (9, .pv (.lit (.int .i64 (lists.D.length : Int)))), (10, .pv (.lit (.int .i64 (i : Int))))]) (fun v => []) [] (fun n v => n = (x.D.length - (v.2.2 : Int).toNat) ∧ short_l1 x (fun n1 acts1 _ => short_l0 (lists.D.drop (i + 1)) (i + 1) n1 acts1) ((x.D.length - (v.2.2 : Int).toNat) + 1) v.1 v.2.1 v.2.2 = R ∧ (((0 ≤ v.2.1 ∧ v.2.1 ≤ 151) ∧ (0 ≤ v.1 ∧ v.1 ≤ 32769)) ∧ 0 ≤ v.2.2 ∧ v.2.2 ≤ (x.D.length : Int) ∧ v.2.2 ≤ v.2.1)) ((x.D.length - (0 : Int).toNat)) (n, acts, 0) ?_ ?_ (fun _ v h5 => ?_)
  · exact ⟨rfl, hR, (by dsimp only; omega)⟩
  · exact ⟨fun b => b, WeakerR.ofL (Ks := []) hI ⟨⟨rfl, rfl⟩, ⟨rfl, rfl⟩, ⟨rfl, rfl⟩, ⟨rfl, rfl⟩, ⟨rfl, rfl⟩, ⟨rfl, rfl⟩, ⟨rfl, rfl⟩, trivial⟩ (okH_nil) rfl⟩
  obtain ⟨n1, acts1, i1⟩ := v
  obtain ⟨rfl, hR, hW⟩ := h5
  replace hW : ((0 ≤ acts1 ∧ acts1 ≤ 151) ∧ (0 ≤ n1 ∧ n1 ≤ 32769)) ∧ 0 ≤ i1 ∧ i1 ≤ (x.D.length : Int) ∧ i1 ≤ acts1 := hW
  refine Awp.seq ?_
  refine Awp.consP C ?_
  refine rvP C (.pv (.lit (.int .i64 i1))) ?_
  refine rvP C (sS (some x.nil) eDo x.D) ?_
  refine rvP C (.pv (.lit (.int .i64 (x.D.length : Int)))) ?_
  refine rvP C (.pv (.lit (.bool (decide (i1 < (x.D.length : Int)))))) ?_
  refine rvP C (.pv (.lit (.bool (decide (i1 < (x.D.length : Int)))))) ?_
  refine rvc_case 18 (decide (i1 < (x.D.length : Int))) rfl (fun h7 => ?_) (fun h7 => ?_)
  ·
   replace hR := of_true h7 hR
   refine rvO C (.pv (.lit (.int .i64 acts1))) ?_
   refine rvO C (.pv (.lit (.bool (decide (acts1 ≤ 150))))) ?_
   refine rvP C (.pv (.lit (.bool (decide (acts1 ≤ 150))))) ?_
   refine rvP C (.pv (.lit (.bool (decide (acts1 ≤ 150))))) ?_
   refine rvc_case 22 (decide (acts1 ≤ 150)) rfl (fun h8 => ?_) (fun h8 => ?_)
   ·
    replace hR := of_true h8 hR
    refine rvO C (.pv (.lit (.int .i64 n1))) ?_
    refine rvO C (.pv (.lit (.bool (decide (n1 ≤ 16384))))) ?_
    refine rvP C (.pv (.lit (.bool (decide (n1 ≤ 16384))))) ?_
    refine rvc_nil ?_
    refine Awp.cond (b := (decide (n1 ≤ 16384))) rfl (fun h9 => ?_) (fun h9 => ?_)
    ·
     replace hR := of_true h9 hR
     refine Awp.skip ?_
     refine Awp.seq ?_
     refine Awp.block ?_
     refine Awp.consP C ?_
     refine rvP C (.pv (.lit (.int .i64 acts1))) ?_
     refine rvP C (.pv (.lit (.int .i64 (IntKind.i64.wrap (acts1 + 1))))) ?_
     refine rvP C (.pv (.lit (.int .i64 (IntKind.i64.wrap (acts1 + 1))))) ?_
     refine rvc_nil ?_
     refine Awp.regionP C ?_
     refine rvP C (.pv (.lit (.int .i64 n1))) ?_
     refine rvP C (sS (some x.nil) eDo x.D) ?_
     refine rvP C (.pv (.lit (.int .i64 i1))) ?_
     have h10 : x.D[i1.toNat]? = some x.D[i1.toNat]! := getE (by have := of_decide_eq_true h2; have := of_decide_eq_true h7; have := of_decide_eq_true h8; have := of_decide_eq_true h9; omega)
     refine rvc_un (rexec_idxS C rfl rfl rfl rfl rfl rfl (x.D[i1.toNat]!) (by have := of_decide_eq_true h2; have := of_decide_eq_true h7; have := of_decide_eq_true h8; have := of_decide_eq_true h9; omega) h10 ?_)
     refine rvP C (.rp [.sl (some x.D[i1.toNat]!.b.nil) (x.D[i1.toNat]!.b.D).length (encL (eI .u8) (x.D[i1.toNat]!.b.D))]) ?_
     refine rvP C (sS (some x.D[i1.toNat]!.b.nil) (eI .u8) (x.D[i1.toNat]!.b.D)) ?_
     refine rvP C (.pv (.lit (.int .i64 ((x.D[i1.toNat]!.b.D).length : Int)))) ?_
     refine rvc_un (rexec_min C rfl rfl rfl ?_)
     refine rvP C (.pv (.lit (.int .i64 (IntKind.i64.wrap (n1 + (bif (decide ((16385 : Int) < ((x.D[i1.toNat]!.b.D).length : Int))) then (16385 : Int) else ((x.D[i1.toNat]!.b.D).length : Int))))))) ?_
     refine rvP C (.pv (.lit (.int .i64 (IntKind.i64.wrap (n1 + (bif (decide ((16385 : Int) < ((x.D[i1.toNat]!.b.D).length : Int))) then (16385 : Int) else ((x.D[i1.toNat]!.b.D).length : Int))))))) ?_
     refine rvc_nil ?_
     refine Awp.regionP C ?_
     refine rvP C (.pv (.lit (.int .i64 i1))) ?_
     refine rvP C (.pv (.lit (.int .i64 (IntKind.i64.wrap (i1 + 1))))) ?_
     refine rvP C (.pv (.lit (.int .i64 (IntKind.i64.wrap (i1 + 1))))) ?_
     refine rvc_nil ?_
     refine ⟨_, ((IntKind.i64.wrap (n1 + (bif (decide ((16385 : Int) < ((x.D[i1.toNat]!.b.D).length : Int))) then (16385 : Int) else ((x.D[i1.toNat]!.b.D).length : Int)))), (IntKind.i64.wrap (acts1 + 1)), (IntKind.i64.wrap (i1 + 1))), ?_, ⟨rfl, (by rw [show (x.D.length - ((IntKind.i64.wrap (i1 + 1)) : Int).toNat) + 1 = (x.D.length - (i1 : Int).toNat) by have := wrapI (n1 + (bif (decide ((16385 : Int) < ((x.D[i1.toNat]!.b.D).length : Int))) then (16385 : Int) else ((x.D[i1.toNat]!.b.D).length : Int))); have := wrapI (acts1 + 1); have := wrapI (i1 + 1); have := of_decide_eq_true h2; have := of_decide_eq_true h7; have := of_decide_eq_true h8; have := of_decide_eq_true h9; first | omega | (simp only [List.length_drop]; omega)]; exact hR), (by have hm_ := min85 ((x.D[i1.toNat]!.b.D).length : Int); have := wrapI (n1 + (bif (decide ((16385 : Int) < ((x.D[i1.toNat]!.b.D).length : Int))) then (16385 : Int) else ((x.D[i1.toNat]!.b.D).length : Int))); have := wrapI (acts1 + 1); have := wrapI (i1 + 1); have := of_decide_eq_true ‹decide (i1 < (x.D.length : Int)) = true›; have := of_decide_eq_true ‹decide (acts1 ≤ 150) = true›; have := of_decide_eq_true ‹decide (n1 ≤ 16384) = true›; have := hm_ (Int.natCast_nonneg _); dsimp only; omega)⟩, ?_⟩
     · show (x.D.length - ((IntKind.i64.wrap (i1 + 1)) : Int).toNat) < (x.D.length - (i1 : Int).toNat); have := wrapI (n1 + (bif (decide ((16385 : Int) < ((x.D[i1.toNat]!.b.D).length : Int))) then (16385 : Int) else ((x.D[i1.toNat]!.b.D).length : Int))); have := wrapI (acts1 + 1); have := wrapI (i1 + 1); have := of_decide_eq_true h2; have := of_decide_eq_true h7; have := of_decide_eq_true h8; have := of_decide_eq_true h9; first | omega | (simp only [List.length_drop]; omega)
     · exact ⟨fun b => b, WeakerR.ofL (Ks := []) hI ⟨⟨rfl, rfl⟩, ⟨rfl, rfl⟩, ⟨rfl, rfl⟩, ⟨rfl, rfl⟩, ⟨rfl, rfl⟩, ⟨rfl, rfl⟩, ⟨rfl, rfl⟩, trivial⟩ (okH_nil) rfl⟩
    ·
     replace hR := of_false h9 hR
     refine Awp.exit ?_
     refine Awp.regionP C ?_
     refine rvP C (.pv (.lit (.int .i64 (IntKind.i64.wrap ((i : Int) + 1))))) ?_
     refine rvP C (.pv (.lit (.int .i64 (IntKind.i64.wrap ((i : Int) + 1))))) ?_
     refine rvc_nil ?_
     refine ⟨h3, (n1, acts1), ?_, ?_⟩
     · exact ⟨hR, hW.1⟩
     · exact ⟨fun b => b, WeakerR.ofL (Ks := []) hI ⟨⟨rfl, rfl⟩, ⟨rfl, rfl⟩, ⟨rfl, rfl⟩, ⟨rfl, rfl⟩, ⟨lit_cast (wrap_i64 (by omega) (by omega)), rfl⟩, trivial⟩ (okH_nil) rfl⟩
   ·
    replace hR := of_false h8 hR
    refine rvS ?_
    refine rvS ?_
    refine rvP C (.pv (.lit (.bool false))) ?_
    refine rvc_nil ?_
    refine Awp.condF (b := false) rfl rfl ?_
    refine Awp.exit ?_
    refine Awp.regionP C ?_
    refine rvP C (.pv (.lit (.int .i64 (IntKind.i64.wrap ((i : Int) + 1))))) ?_
    refine rvP C (.pv (.lit (.int .i64 (IntKind.i64.wrap ((i : Int) + 1))))) ?_
    refine rvc_nil ?_
    refine ⟨h3, (n1, acts1), ?_, ?_⟩
    · exact ⟨hR, hW.1⟩
    · exact ⟨fun b => b, WeakerR.ofL (Ks := []) hI ⟨⟨rfl, rfl⟩, ⟨rfl, rfl⟩, ⟨rfl, rfl⟩, ⟨rfl, rfl⟩, ⟨lit_cast (wrap_i64 (by omega) (by omega)), rfl⟩, trivial⟩ (okH_nil) rfl⟩
  ·
   replace hR := of_false h7 hR
   refine rvS ?_
   refine rvS ?_
   refine rvP C (.pv (.lit (.bool false))) ?_
   refine rvP C (.pv (.lit (.bool false))) ?_
   refine rvS ?_
   refine rvS ?_
   refine rvP C (.pv (.lit (.bool false))) ?_
   refine rvc_nil ?_
   refine Awp.condF (b := false) rfl rfl ?_
   refine Awp.exit ?_
   refine Awp.regionP C ?_
   refine rvP C (.pv (.lit (.int .i64 (IntKind.i64.wrap ((i : Int) + 1))))) ?_
   refine rvP C (.pv (.lit (.int .i64 (IntKind.i64.wrap ((i : Int) + 1))))) ?_
   refine rvc_nil ?_
   refine ⟨h3, (n1, acts1), ?_, ?_⟩
   · exact ⟨hR, hW.1⟩
   · exact ⟨fun b => b, WeakerR.ofL (Ks := []) hI ⟨⟨rfl, rfl⟩, ⟨rfl, rfl⟩, ⟨rfl, rfl⟩, ⟨rfl, rfl⟩, ⟨lit_cast (wrap_i64 (by omega) (by omega)), rfl⟩, trivial⟩ (okH_nil) rfl⟩
 ·
  have h3 : ¬ i < lists.D.length := by have := of_decide_eq_false h2; omega
  rw [drop_end h3] at hR
  refine Awp.exit ?_
  refine Awp.consP C ?_
  refine rvP C (.pv (.lit (.int .i64 acts))) ?_
  refine rvP C (.pv (.lit (.bool (decide (acts ≤ 150))))) ?_
  refine rvP C (.pv (.lit (.bool (decide (acts ≤ 150))))) ?_
  refine rvc_case 42 (decide (acts ≤ 150)) rfl (fun h11 => ?_) (fun h11 => ?_)
  ·
   replace hR := of_true h11 hR
   refine rvO C (.pv (.lit (.int .i64 n))) ?_
   refine rvO C (.pv (.lit (.bool (decide (n ≤ 16384))))) ?_
   refine rvP C (.pv (.lit (.bool (decide (n ≤ 16384))))) ?_
   refine rvP C (.pv (.lit (.bool (decide (n ≤ 16384))))) ?_
   refine rvc_nil ?_
   refine Awp.ret ?_
   subst hR
   exact ⟨.inl rfl, rfl⟩
  ·
   replace hR := of_false h11 hR
   refine rvS ?_
   refine rvS ?_
   refine rvP C (.pv (.lit (.bool false))) ?_
   refine rvP C (.pv (.lit (.bool false))) ?_
   refine rvc_nil ?_
   refine Awp.ret ?_
   subst hR
   exact ⟨.inl rfl, rfl⟩
end Go.Proofs.Ytpeeofofagfooaa
/- An abstract machine over the kit's calls, part 57: the bytes of a constant: a row that was just made bears the mark of a string's bytes, and will not change. No conditions. -/
namespace Go.Am
section
variable {E : Env} {T : Tab}
theorem freeze_other (w : World) (r n : Nat) {k : Nat} (h : k ≠ r) : (w.freeze ⟨r, n, none⟩ 1).heap[k]? = w.heap[k]? := by
  unfold World.freeze
  rw [if_neg (by decide)]
  simp only [Array.getElem?_modify]
  rw [if_neg (Ne.symm h)]
theorem freeze_this (w : World) (r n : Nat) {c : Array Value} {e : TypeId} {f : Nat × Nat} (h : w.heap[r]? = some (.cells c e f)) : ∃ f', (w.freeze ⟨r, n, none⟩ 1).heap[r]? = some (.cells c e f') := by
  unfold World.freeze
  rw [if_neg (by decide)]
  simp only [Array.getElem?_modify, if_true, h, Option.map_some]
  exact ⟨_, rfl⟩
theorem freeze_rest (w : World) (r n : Nat) : (w.freeze ⟨r, n, none⟩ 1).heap.size = w.heap.size ∧ (w.freeze ⟨r, n, none⟩ 1).os = w.os ∧ (w.freeze ⟨r, n, none⟩ 1).tape = w.tape ∧ (w.freeze ⟨r, n, none⟩ 1).output = w.output ∧ (w.freeze ⟨r, n, none⟩ 1).drawn = w.drawn := by
  unfold World.freeze
  rw [if_neg (by decide)]
  exact ⟨by simp, rfl, rfl, rfl, rfl⟩
theorem does_convOwn (hT : TabOk E.P T) {o : Oper} {t : TypeId} {x : Operand} (ho : o.op = .convert t t x) (hd : ∀ d, o.dst = some d → d < E.n) {r re : TyRow} (hr : T.lookup t = some r) {e : TypeId} (hdesc : r.desc = .slice e) (hre : T.lookup e = some re) (hu : re.desc = .int .u8) {b m s : Nat} {tt : Bool} {ps : List PV} :
    Does E o [.sl b 0 m s tt] [(b, .cells (ps.map .pv))] { v := .pv (.sl (some false) m ps), wr := [(b, none)] } := by
  intro ι imm st a w Q h hv hh _
  have hv := h.evls hv
  rw [ho] at hv
  simp only [Op.operands, List.map_cons, List.map_nil] at hv
  have hv1 := hv.one
  have hb := hh _ (List.mem_cons_self ..)
  obtain ⟨r0, z, q1, q2, q3, c, ec, f, q4, q5, q6, q7⟩ := h.heap.blk b _ hb
  simp only [VH] at hv1
  obtain ⟨r', z', cap, i1, i2, i3, _⟩ := hv1
  rw [q1] at i1
  simp only [Option.some.injEq, Prod.mk.injEq] at i1
  obtain ⟨rfl, rfl⟩ := i1
  have hlt : r0 < w.heap.size := by
    rcases Nat.lt_or_ge r0 w.heap.size with h' | h'
    · exact h'
    · rw [Array.getElem?_eq_none h'] at q4; cases q4
  have hsh : w.shape? r0 = some (ec, c.size) := by unfold World.shape?; rw [q4]
  have hun := run_underlying hT hr w
  have hue := run_underlying hT hre w
  rw [hdesc] at hun
  rw [hu] at hue
  have hrun : (execOp a.eval o).run E.P w = .ok (.value (.slice (some ⟨r0, z + 0, none⟩) m cap)) (w.freeze ⟨r0, c.size, none⟩ 1) := by
    simp only [execOp, ho, convert, i2, run_bind', hun, hue, beq_self_eq_true, markStringish, shape, freeze, Sem.run, hsh, run_pure']
  obtain ⟨f', p1⟩ := freeze_this w r0 c.size q4
  have p2 : ∀ k, k ≠ r0 → (w.freeze ⟨r0, c.size, none⟩ 1).heap[k]? = w.heap[k]? := fun k hk => freeze_other w r0 c.size hk
  obtain ⟨p3, p4, p5, p6, p7⟩ := freeze_rest w r0 c.size
  generalize w.freeze ⟨r0, c.size, none⟩ 1 = w' at hrun p1 p2 p3 p4 p5 p6 p7
  let imm' : Nat → Prop := fun k => imm k ∨ k = r0
  have stay : Stays imm imm' w w' := ⟨fun _ hk => .inl hk, fun k hk => p2 k (fun e => q2 (e ▸ hk))⟩
  have g : Grows ι ι imm imm' w w' := ⟨fun _ _ h => h, stay, fun r c1 e1 f1 hr => by
    by_cases hrr : r = r0
    · subst hrr; rw [q4] at hr; cases hr; exact ⟨c, f', p1, rfl⟩
    · exact ⟨c1, f1, (p2 r hrr).trans hr, rfl⟩⟩
  have hH : ∀ x k, (Delta.mk (.pv (.sl (some false) m ps)) [] [(b, none)]).H st.H x = some k → x ≠ b ∧ st.H x = some k := fun x k hx => by
    rw [Delta.H_wr] at hx
    dsimp only at hx
    split at hx
    · cases hx
    · rename_i hne; exact ⟨hne, hx⟩
  have hs : SR E ι imm' ⟨st.S, (Delta.mk (.pv (.sl (some false) m ps)) [] [(b, none)]).H st.H, (Delta.mk (.pv (.sl (some false) m ps)) [] [(b, none)]).U st.U⟩ a w' := by
    refine h.turn g p4 p5 p6 (by omega) (by omega) (fun k _ hM => p2 k (fun e => hM (e ▸ q3))) ⟨fun x k hx => ?_, fun x x' k k' r z z' hx hx' => h.heap.inj x x' k k' r z z' (hH x k hx).2 (hH x' k' hx').2⟩ (fun x y hx => ?_) (fun k hk => ?_) (fun k hk => ?_)
    · obtain ⟨hne, hx⟩ := hH x k hx
      obtain ⟨r', z', p1', p2', p3', p4'⟩ := h.heap.blk x k hx
      have hrr : r' ≠ r0 := fun e => by
        subst e
        exact hne (h.heap.inj x b k _ r' z' z hx hb p1' q1)
      exact ⟨r', z', p1', fun hi => hi.elim p2' hrr, p3', p4'.grows g (p2 r' hrr)⟩
    · simp only [Delta.U, List.lookup, Option.isSome_none, Bool.false_or]; exact h.used x y hx
    · rcases hk with hk | rfl
      · exact .inl hk
      · exact .inr q3
    · rw [p3]
      rcases hk with hk | rfl
      · exact h.immlt k hk
      · exact hlt
  unfold Oper.wp
  rw [hrun, Oper.upon_value]
  refine ⟨ι, imm', hs.put o.dst hd ?_⟩
  simp only [VH, PH]
  refine ⟨_, cap, rfl, i3, fun h => (by simp at h), fun _ h => (by simp at h), fun h => (by simp at h), fun A hA _ => ?_⟩
  simp only [Option.some.injEq] at hA
  subst hA
  exact ⟨rfl, .inr rfl, PHs.of_cells (i := imm) (ι := ι) (w := w) stay (fun o => cell_of_heap p1 o) q7⟩
variable {cq : Oper → Cls} {n : Nat}
theorem rexec_convOwn (C : Cx E T n) {d : Nat} {t ty : TypeId} {x : Operand} {pos : String} {af : Array Edge} {g : Option (Nat × Bool)} {st : St} {K : St → Prop} (h1 : dstB n ⟨some d, .convert t t x, ty, pos, af, g⟩ = true) {b m s : Nat} {tt : Bool} (D : List Int)
    (hx : evl st.S x = some (.sl b 0 m s tt)) (hb : st.H b = some (.cells (encC (eI .u8) D))) (hm : m = D.length) {r re : TyRow} (hr : T.lookup t = some r) {e : TypeId} (hdesc : r.desc = .slice e) (hre : T.lookup e = some re) (hu : re.desc = .int .u8)
    (h7 : K (st.after (some d) { v := sS (some false) (eI .u8) D, wr := [(b, none)] }))
    (hp : clsOf cq ⟨some d, .convert t t x, ty, pos, af, g⟩ ≠ .pure := by decide) (hq : clsOf cq ⟨some d, .convert t t x, ty, pos, af, g⟩ ≠ .quiet := by decide) (hft : footB (clsOf cq ⟨some d, .convert t t x, ty, pos, af, g⟩) [(b, .cells (encC (eI .u8) D))] { v := sS (some false) (eI .u8) D, wr := [(b, none)] } = true := by rfl) : rexec E cq n ⟨some d, .convert t t x, ty, pos, af, g⟩ st K := by
  subst hm
  refine ⟨h1, [.sl b 0 D.length s tt], [(b, .cells (encC (eI .u8) D))], _, { vals := ?_, deps := ?_, fresh := fun _ h => (by cases h), does := does_convOwn C.tab rfl (dst_lt C h1) hr hdesc hre hu (ps := encL (eI .u8) D), reach := ?_, inV := rfl, inN := fun _ h => (by cases h), inW := ?_, wr := ?_, pure := fun h => absurd h hp, quiet := fun h => absurd h hq, foot := hft }, h7⟩
  · show evls st.S [x] = _
    simp only [evls, hx]
  · intro q hq; simp only [List.mem_singleton] at hq; subst hq; exact hb
  · simp [reachB, refs, AV.withinL, AV.within]
  · intro q hq k' hk'
    simp only [List.mem_singleton] at hq
    subst hq
    cases hk'
  · intro q hq
    simp only [List.mem_singleton] at hq
    subst hq
    simp [refs, AV.withinL, AV.within]
end
end Go.Am
/- The example. No conditions. -/
namespace Go.Proofs.Ytpeeofofagfooaa
open Go.Am
def awake  : Bool :=
  (bif (((nSend newN (Link.mk 0 1) (Sl.mk false [97])).2) != 0) then false else (bif (((nSend ((nSend newN (Link.mk 0 1) (Sl.mk false [97])).1) (Link.mk 0 1) (Sl.mk false [98])).2) != 0) then false else (bif ((strOf ((nTake ((nSend ((nSend newN (Link.mk 0 1) (Sl.mk false [97])).1) (Link.mk 0 1) (Sl.mk false [98])).1) (Link.mk 0 1) 1).2.1.D)).toList == (⟨#[98]⟩ : ByteArray).toList) then (bif (nTake ((nSend ((nSend newN (Link.mk 0 1) (Sl.mk false [97])).1) (Link.mk 0 1) (Sl.mk false [98])).1) (Link.mk 0 1) 1).2.2.1 then (bif (((nTake ((nSend ((nSend newN (Link.mk 0 1) (Sl.mk false [97])).1) (Link.mk 0 1) (Sl.mk false [98])).1) (Link.mk 0 1) 1).2.2.2) == 0) then (bif (!((nTake ((nWall ((nTake ((nSend ((nSend newN (Link.mk 0 1) (Sl.mk false [97])).1) (Link.mk 0 1) (Sl.mk false [98])).1) (Link.mk 0 1) 1).1) (maskOf (Sl.mk false [1]))).1) (Link.mk 0 1) 0).2.2.1)) then (bif (((nTake ((nWall ((nTake ((nSend ((nSend newN (Link.mk 0 1) (Sl.mk false [97])).1) (Link.mk 0 1) (Sl.mk false [98])).1) (Link.mk 0 1) 1).1) (maskOf (Sl.mk false [1]))).1) (Link.mk 0 1) 0).2.2.2) == 0) then (bif ((nLen ((nTake ((nWall ((nTake ((nSend ((nSend newN (Link.mk 0 1) (Sl.mk false [97])).1) (Link.mk 0 1) (Sl.mk false [98])).1) (Link.mk 0 1) 1).1) (maskOf (Sl.mk false [1]))).1) (Link.mk 0 1) 0).1) (Link.mk 0 1)) == 0) then (((nSend ((nTake ((nWall ((nTake ((nSend ((nSend newN (Link.mk 0 1) (Sl.mk false [97])).1) (Link.mk 0 1) (Sl.mk false [98])).1) (Link.mk 0 1) 1).1) (maskOf (Sl.mk false [1]))).1) (Link.mk 0 1) 0).1) (Link.mk 0 0) (Sl.mk true [])).2) == 40) else false) else false) else false) else false) else false) else false)))
theorem awake_calls   : PCalls Try.prog 11 [] (.pv (.lit (.bool (awake )))) := by
 generalize hR : awake  = R
 refine PCalls.of_body tabOk Try.func11 rfl rfl rfl rfl rfl mixed fun E hP C hI => ?_
 refine Awp.consP C ?_
 refine rvP C (.pv (.lit (.bool false))) ?_
 refine rvc_nil ?_
 refine Awp.cons C (fun _ => .quiet) (by kernel_rfl) ?_
 refine rvc_un (rexec_callNew hP C 509 rfl rfl rfl rfl rfl rfl newN_calls ?_)
 refine rvP C (.ptr 9 0) ?_
 refine rvc_nil ?_
 refine Awp.consP C ?_
 refine rvP C (.agg [.pv (.lit (.int .i64 0)), .pv (.lit (.int .i64 1))]) ?_
 refine rvc_un (rexec_prim C (δ := { v := .ptr 2 0, new := [(2, .cells [.pv (.lit (.int .i64 0)), .pv (.lit (.int .i64 0))])] }) rfl rfl rfl rfl trivial rfl ?_)
 refine rvc_un (rexec_prim C (δ := { v := .undef, wr := [(2, some (.cells [.pv (.lit (.int .i64 0)), .pv (.lit (.int .i64 1))]))] }) rfl rfl rfl rfl trivial rfl ?_)
 refine rvc_nil ?_
 refine Awp.seq ?_
 refine Awp.cons C (fun o => match o.dst with | some 14 => .writes [13] | some 21 => .writes [20] | _ => .writer) (by kernel_rfl) ?_
 refine rvP C (.ptr 9 0) ?_
 refine rvP C (.agg [.pv (.lit (.int .i64 0)), .pv (.lit (.int .i64 1))]) ?_
 refine rvc_un (rexec_prim C (δ := { v := .sl 13 0 ([97].length) 1 true, new := [(13, .cells (encC (eI .u8) [97]))] }) rfl rfl rfl rfl trivial rfl ?_)
 refine rvc_un (rexec_convOwn C rfl [97] rfl rfl rfl rfl rfl rfl rfl ?_)
 refine rvc_un (rexec_callObj hP C (fun b => bif b == 0 then 9 else bif b == 1 then 509 else b) [] rfl rfl rfl (nSend_calls newN (Link.mk 0 1) (Sl.mk false [97]) (by decide)) rfl rfl ⟨rfl, trivial⟩ (of_decide_eq_true rfl) rfl (of_decide_eq_true rfl) (of_decide_eq_true rfl) allB_nil allB_nil (allB_cons rfl allB_nil) ?_ rfl (allB_cons rfl allB_nil))
 refine rvP C (.pv (.lit (.bool (((nSend newN (Link.mk 0 1) (Sl.mk false [97])).2) != 0)))) ?_
 refine rvP C (.pv (.lit (.bool (((nSend newN (Link.mk 0 1) (Sl.mk false [97])).2) != 0)))) ?_
 refine rvc_case 17 (((nSend newN (Link.mk 0 1) (Sl.mk false [97])).2) != 0) rfl (fun h1 => ?_) (fun h1 => ?_)
 ·
  replace hR := of_true h1 hR
  refine rvS ?_
  refine rvS ?_
  refine rvS ?_
  refine rvS ?_
  refine rvS ?_
  refine rvS ?_
  refine rvP C (.pv (.lit (.bool true))) ?_
  refine rvc_nil ?_
  refine Awp.condT (b := true) rfl rfl ?_
  refine Awp.consP C ?_
  refine rvP C (.pv (.lit (.bool false))) ?_
  refine rvc_nil ?_
  refine Awp.ret ?_
  subst hR
  exact ⟨.inl rfl, rfl⟩
 ·
  replace hR := of_false h1 hR
  refine rvO C (.ptr 9 0) ?_
  refine rvO C (.agg [.pv (.lit (.int .i64 0)), .pv (.lit (.int .i64 1))]) ?_
  refine rvc_open rfl rfl rfl (rexec_prim C (δ := { v := .sl 20 0 ([98].length) 1 true, new := [(20, .cells (encC (eI .u8) [98]))] }) rfl rfl rfl rfl trivial rfl ?_)
  refine rvc_open rfl rfl rfl (rexec_convOwn C rfl [98] rfl rfl rfl rfl rfl rfl rfl ?_)
  refine rvc_open rfl rfl rfl (rexec_callObj hP C (fun b => bif b == 0 then 9 else bif b == 1 then 509 else b) [] rfl rfl rfl (nSend_calls ((nSend newN (Link.mk 0 1) (Sl.mk false [97])).1) (Link.mk 0 1) (Sl.mk false [98]) (by decide)) rfl rfl ⟨rfl, trivial⟩ (of_decide_eq_true rfl) rfl (of_decide_eq_true rfl) (of_decide_eq_true rfl) allB_nil allB_nil (allB_cons rfl allB_nil) ?_ rfl (allB_cons rfl allB_nil))
  refine rvO C (.pv (.lit (.bool (((nSend ((nSend newN (Link.mk 0 1) (Sl.mk false [97])).1) (Link.mk 0 1) (Sl.mk false [98])).2) != 0)))) ?_
  refine rvP C (.pv (.lit (.bool (((nSend ((nSend newN (Link.mk 0 1) (Sl.mk false [97])).1) (Link.mk 0 1) (Sl.mk false [98])).2) != 0)))) ?_
  refine rvc_nil ?_
  refine Awp.cond (b := (((nSend ((nSend newN (Link.mk 0 1) (Sl.mk false [97])).1) (Link.mk 0 1) (Sl.mk false [98])).2) != 0)) rfl (fun h2 => ?_) (fun h2 => ?_)
  ·
   replace hR := of_true h2 hR
   refine Awp.consP C ?_
   refine rvP C (.pv (.lit (.bool false))) ?_
   refine rvc_nil ?_
   refine Awp.ret ?_
   subst hR
   exact ⟨.inl rfl, rfl⟩
  ·
   replace hR := of_false h2 hR
   refine Awp.skip ?_
   refine Awp.cons C (fun _ => .writer) (by kernel_rfl) ?_
   refine rvP C (.ptr 9 0) ?_
   refine rvP C (.agg [.pv (.lit (.int .i64 0)), .pv (.lit (.int .i64 1))]) ?_
   refine rvc_un (rexec_callObj hP C (fun b => bif b == 0 then 9 else bif b == 1 then 509 else b) [] rfl rfl rfl (nTake_calls ((nSend ((nSend newN (Link.mk 0 1) (Sl.mk false [97])).1) (Link.mk 0 1) (Sl.mk false [98])).1) (Link.mk 0 1) 1 (send_ok (send_ok newN_ok _ _) _ _)) rfl rfl ⟨rfl, trivial⟩ (of_decide_eq_true rfl) rfl (of_decide_eq_true rfl) (of_decide_eq_true rfl) allB_nil allB_nil (allB_cons rfl allB_nil) ?_ rfl (allB_cons rfl allB_nil))
   refine rvP C (.tup [sS (some (nTake ((nSend ((nSend newN (Link.mk 0 1) (Sl.mk false [97])).1) (Link.mk 0 1) (Sl.mk false [98])).1) (Link.mk 0 1) 1).2.1.nil) (eI .u8) ((nTake ((nSend ((nSend newN (Link.mk 0 1) (Sl.mk false [97])).1) (Link.mk 0 1) (Sl.mk false [98])).1) (Link.mk 0 1) 1).2.1.D), .pv (.lit (.bool ((nTake ((nSend ((nSend newN (Link.mk 0 1) (Sl.mk false [97])).1) (Link.mk 0 1) (Sl.mk false [98])).1) (Link.mk 0 1) 1).2.2.1))), .pv (.lit (.int .i64 ((nTake ((nSend ((nSend newN (Link.mk 0 1) (Sl.mk false [97])).1) (Link.mk 0 1) (Sl.mk false [98])).1) (Link.mk 0 1) 1).2.2.2)))]) ?_
   refine rvP C (sS (some (nTake ((nSend ((nSend newN (Link.mk 0 1) (Sl.mk false [97])).1) (Link.mk 0 1) (Sl.mk false [98])).1) (Link.mk 0 1) 1).2.1.nil) (eI .u8) ((nTake ((nSend ((nSend newN (Link.mk 0 1) (Sl.mk false [97])).1) (Link.mk 0 1) (Sl.mk false [98])).1) (Link.mk 0 1) 1).2.1.D)) ?_
   refine rvP C (.pv (.lit (.bool ((nTake ((nSend ((nSend newN (Link.mk 0 1) (Sl.mk false [97])).1) (Link.mk 0 1) (Sl.mk false [98])).1) (Link.mk 0 1) 1).2.2.1)))) ?_
   refine rvP C (.pv (.lit (.int .i64 ((nTake ((nSend ((nSend newN (Link.mk 0 1) (Sl.mk false [97])).1) (Link.mk 0 1) (Sl.mk false [98])).1) (Link.mk 0 1) 1).2.2.2)))) ?_
   refine rvP C (sS (some (nTake ((nSend ((nSend newN (Link.mk 0 1) (Sl.mk false [97])).1) (Link.mk 0 1) (Sl.mk false [98])).1) (Link.mk 0 1) 1).2.1.nil) (eI .u8) ((nTake ((nSend ((nSend newN (Link.mk 0 1) (Sl.mk false [97])).1) (Link.mk 0 1) (Sl.mk false [98])).1) (Link.mk 0 1) 1).2.1.D)) ?_
   refine rvP C (.pv (.lit (.bool ((nTake ((nSend ((nSend newN (Link.mk 0 1) (Sl.mk false [97])).1) (Link.mk 0 1) (Sl.mk false [98])).1) (Link.mk 0 1) 1).2.2.1)))) ?_
   refine rvP C (.pv (.lit (.int .i64 ((nTake ((nSend ((nSend newN (Link.mk 0 1) (Sl.mk false [97])).1) (Link.mk 0 1) (Sl.mk false [98])).1) (Link.mk 0 1) 1).2.2.2)))) ?_
   refine rvc_nil ?_
   refine Awp.cons C (fun _ => .writer) (by kernel_rfl) ?_
   refine rvP C (.ptr 9 0) ?_
   refine rvc_un (rexec_buildSliceF C (eI .i64) [1] rfl rfl rfl rfl rfl rfl rfl (by decide) rfl ?_)
   refine rvc_un (rexec_call hP C rfl rfl rfl (maskOf_calls (Sl.mk false [1]) (of_decide_eq_true (by kernel_rfl))) ?_)
   refine rvc_un (rexec_callObj hP C (fun b => bif b == 0 then 9 else bif b == 1 then 509 else b) [] rfl rfl rfl (nWall_calls ((nTake ((nSend ((nSend newN (Link.mk 0 1) (Sl.mk false [97])).1) (Link.mk 0 1) (Sl.mk false [98])).1) (Link.mk 0 1) 1).1) (maskOf (Sl.mk false [1]))) rfl rfl ⟨rfl, trivial⟩ (of_decide_eq_true rfl) rfl (of_decide_eq_true rfl) (of_decide_eq_true rfl) allB_nil allB_nil (allB_cons rfl allB_nil) ?_ rfl (allB_cons rfl allB_nil))
   refine rvc_nil ?_
   refine Awp.cons C (fun _ => .writer) (by kernel_rfl) ?_
   refine rvP C (.ptr 9 0) ?_
   refine rvP C (.agg [.pv (.lit (.int .i64 0)), .pv (.lit (.int .i64 1))]) ?_
   refine rvc_un (rexec_callObj hP C (fun b => bif b == 0 then 9 else bif b == 1 then 509 else b) [] rfl rfl rfl (nTake_calls ((nWall ((nTake ((nSend ((nSend newN (Link.mk 0 1) (Sl.mk false [97])).1) (Link.mk 0 1) (Sl.mk false [98])).1) (Link.mk 0 1) 1).1) (maskOf (Sl.mk false [1]))).1) (Link.mk 0 1) 0 (wall_ok (take_ok (send_ok (send_ok newN_ok _ _) _ _) _ _) _)) rfl rfl ⟨rfl, trivial⟩ (of_decide_eq_true rfl) rfl (of_decide_eq_true rfl) (of_decide_eq_true rfl) allB_nil allB_nil (allB_cons rfl allB_nil) ?_ rfl (allB_cons rfl allB_nil))
   refine rvP C (.tup [sS (some (nTake ((nWall ((nTake ((nSend ((nSend newN (Link.mk 0 1) (Sl.mk false [97])).1) (Link.mk 0 1) (Sl.mk false [98])).1) (Link.mk 0 1) 1).1) (maskOf (Sl.mk false [1]))).1) (Link.mk 0 1) 0).2.1.nil) (eI .u8) ((nTake ((nWall ((nTake ((nSend ((nSend newN (Link.mk 0 1) (Sl.mk false [97])).1) (Link.mk 0 1) (Sl.mk false [98])).1) (Link.mk 0 1) 1).1) (maskOf (Sl.mk false [1]))).1) (Link.mk 0 1) 0).2.1.D), .pv (.lit (.bool ((nTake ((nWall ((nTake ((nSend ((nSend newN (Link.mk 0 1) (Sl.mk false [97])).1) (Link.mk 0 1) (Sl.mk false [98])).1) (Link.mk 0 1) 1).1) (maskOf (Sl.mk false [1]))).1) (Link.mk 0 1) 0).2.2.1))), .pv (.lit (.int .i64 ((nTake ((nWall ((nTake ((nSend ((nSend newN (Link.mk 0 1) (Sl.mk false [97])).1) (Link.mk 0 1) (Sl.mk false [98])).1) (Link.mk 0 1) 1).1) (maskOf (Sl.mk false [1]))).1) (Link.mk 0 1) 0).2.2.2)))]) ?_
   refine rvP C (sS (some (nTake ((nWall ((nTake ((nSend ((nSend newN (Link.mk 0 1) (Sl.mk false [97])).1) (Link.mk 0 1) (Sl.mk false [98])).1) (Link.mk 0 1) 1).1) (maskOf (Sl.mk false [1]))).1) (Link.mk 0 1) 0).2.1.nil) (eI .u8) ((nTake ((nWall ((nTake ((nSend ((nSend newN (Link.mk 0 1) (Sl.mk false [97])).1) (Link.mk 0 1) (Sl.mk false [98])).1) (Link.mk 0 1) 1).1) (maskOf (Sl.mk false [1]))).1) (Link.mk 0 1) 0).2.1.D)) ?_
   refine rvP C (.pv (.lit (.bool ((nTake ((nWall ((nTake ((nSend ((nSend newN (Link.mk 0 1) (Sl.mk false [97])).1) (Link.mk 0 1) (Sl.mk false [98])).1) (Link.mk 0 1) 1).1) (maskOf (Sl.mk false [1]))).1) (Link.mk 0 1) 0).2.2.1)))) ?_
   refine rvP C (.pv (.lit (.int .i64 ((nTake ((nWall ((nTake ((nSend ((nSend newN (Link.mk 0 1) (Sl.mk false [97])).1) (Link.mk 0 1) (Sl.mk false [98])).1) (Link.mk 0 1) 1).1) (maskOf (Sl.mk false [1]))).1) (Link.mk 0 1) 0).2.2.2)))) ?_
   refine rvP C (sS (some (nTake ((nWall ((nTake ((nSend ((nSend newN (Link.mk 0 1) (Sl.mk false [97])).1) (Link.mk 0 1) (Sl.mk false [98])).1) (Link.mk 0 1) 1).1) (maskOf (Sl.mk false [1]))).1) (Link.mk 0 1) 0).2.1.nil) (eI .u8) ((nTake ((nWall ((nTake ((nSend ((nSend newN (Link.mk 0 1) (Sl.mk false [97])).1) (Link.mk 0 1) (Sl.mk false [98])).1) (Link.mk 0 1) 1).1) (maskOf (Sl.mk false [1]))).1) (Link.mk 0 1) 0).2.1.D)) ?_
   refine rvP C (.pv (.lit (.bool ((nTake ((nWall ((nTake ((nSend ((nSend newN (Link.mk 0 1) (Sl.mk false [97])).1) (Link.mk 0 1) (Sl.mk false [98])).1) (Link.mk 0 1) 1).1) (maskOf (Sl.mk false [1]))).1) (Link.mk 0 1) 0).2.2.1)))) ?_
   refine rvP C (.pv (.lit (.int .i64 ((nTake ((nWall ((nTake ((nSend ((nSend newN (Link.mk 0 1) (Sl.mk false [97])).1) (Link.mk 0 1) (Sl.mk false [98])).1) (Link.mk 0 1) 1).1) (maskOf (Sl.mk false [1]))).1) (Link.mk 0 1) 0).2.2.2)))) ?_
   refine rvc_nil ?_
   refine Awp.cons C (fun _ => .writer) (by kernel_rfl) ?_
   refine rvP C (sS (some (nTake ((nSend ((nSend newN (Link.mk 0 1) (Sl.mk false [97])).1) (Link.mk 0 1) (Sl.mk false [98])).1) (Link.mk 0 1) 1).2.1.nil) (eI .u8) ((nTake ((nSend ((nSend newN (Link.mk 0 1) (Sl.mk false [97])).1) (Link.mk 0 1) (Sl.mk false [98])).1) (Link.mk 0 1) 1).2.1.D)) ?_
   refine rvc_un (rexec_convS C rfl rfl rfl rfl rfl rfl rfl rfl ?_)
   refine rvP C (.pv (.lit (.bool ((strOf ((nTake ((nSend ((nSend newN (Link.mk 0 1) (Sl.mk false [97])).1) (Link.mk 0 1) (Sl.mk false [98])).1) (Link.mk 0 1) 1).2.1.D)).toList == (⟨#[98]⟩ : ByteArray).toList)))) ?_
   refine rvP C (.pv (.lit (.bool ((strOf ((nTake ((nSend ((nSend newN (Link.mk 0 1) (Sl.mk false [97])).1) (Link.mk 0 1) (Sl.mk false [98])).1) (Link.mk 0 1) 1).2.1.D)).toList == (⟨#[98]⟩ : ByteArray).toList)))) ?_
   refine rvc_case 46 ((strOf ((nTake ((nSend ((nSend newN (Link.mk 0 1) (Sl.mk false [97])).1) (Link.mk 0 1) (Sl.mk false [98])).1) (Link.mk 0 1) 1).2.1.D)).toList == (⟨#[98]⟩ : ByteArray).toList) rfl (fun h3 => ?_) (fun h3 => ?_)
   ·
    replace hR := of_true h3 hR
    refine rvO C (.pv (.lit (.bool ((nTake ((nSend ((nSend newN (Link.mk 0 1) (Sl.mk false [97])).1) (Link.mk 0 1) (Sl.mk false [98])).1) (Link.mk 0 1) 1).2.2.1)))) ?_
    refine rvP C (.pv (.lit (.bool ((nTake ((nSend ((nSend newN (Link.mk 0 1) (Sl.mk false [97])).1) (Link.mk 0 1) (Sl.mk false [98])).1) (Link.mk 0 1) 1).2.2.1)))) ?_
    refine rvP C (.pv (.lit (.bool ((nTake ((nSend ((nSend newN (Link.mk 0 1) (Sl.mk false [97])).1) (Link.mk 0 1) (Sl.mk false [98])).1) (Link.mk 0 1) 1).2.2.1)))) ?_
    refine rvc_case 49 ((nTake ((nSend ((nSend newN (Link.mk 0 1) (Sl.mk false [97])).1) (Link.mk 0 1) (Sl.mk false [98])).1) (Link.mk 0 1) 1).2.2.1) rfl (fun h4 => ?_) (fun h4 => ?_)
    ·
     replace hR := of_true h4 hR
     refine rvO C (.pv (.lit (.int .i64 ((nTake ((nSend ((nSend newN (Link.mk 0 1) (Sl.mk false [97])).1) (Link.mk 0 1) (Sl.mk false [98])).1) (Link.mk 0 1) 1).2.2.2)))) ?_
     refine rvO C (.pv (.lit (.bool (((nTake ((nSend ((nSend newN (Link.mk 0 1) (Sl.mk false [97])).1) (Link.mk 0 1) (Sl.mk false [98])).1) (Link.mk 0 1) 1).2.2.2) == 0)))) ?_
     refine rvP C (.pv (.lit (.bool (((nTake ((nSend ((nSend newN (Link.mk 0 1) (Sl.mk false [97])).1) (Link.mk 0 1) (Sl.mk false [98])).1) (Link.mk 0 1) 1).2.2.2) == 0)))) ?_
     refine rvP C (.pv (.lit (.bool (((nTake ((nSend ((nSend newN (Link.mk 0 1) (Sl.mk false [97])).1) (Link.mk 0 1) (Sl.mk false [98])).1) (Link.mk 0 1) 1).2.2.2) == 0)))) ?_
     refine rvc_case 53 (((nTake ((nSend ((nSend newN (Link.mk 0 1) (Sl.mk false [97])).1) (Link.mk 0 1) (Sl.mk false [98])).1) (Link.mk 0 1) 1).2.2.2) == 0) rfl (fun h5 => ?_) (fun h5 => ?_)
     ·
      replace hR := of_true h5 hR
      refine rvO C (.pv (.lit (.bool ((nTake ((nWall ((nTake ((nSend ((nSend newN (Link.mk 0 1) (Sl.mk false [97])).1) (Link.mk 0 1) (Sl.mk false [98])).1) (Link.mk 0 1) 1).1) (maskOf (Sl.mk false [1]))).1) (Link.mk 0 1) 0).2.2.1)))) ?_
      refine rvO C (.pv (.lit (.bool (!((nTake ((nWall ((nTake ((nSend ((nSend newN (Link.mk 0 1) (Sl.mk false [97])).1) (Link.mk 0 1) (Sl.mk false [98])).1) (Link.mk 0 1) 1).1) (maskOf (Sl.mk false [1]))).1) (Link.mk 0 1) 0).2.2.1))))) ?_
      refine rvP C (.pv (.lit (.bool (!((nTake ((nWall ((nTake ((nSend ((nSend newN (Link.mk 0 1) (Sl.mk false [97])).1) (Link.mk 0 1) (Sl.mk false [98])).1) (Link.mk 0 1) 1).1) (maskOf (Sl.mk false [1]))).1) (Link.mk 0 1) 0).2.2.1))))) ?_
      refine rvP C (.pv (.lit (.bool (!((nTake ((nWall ((nTake ((nSend ((nSend newN (Link.mk 0 1) (Sl.mk false [97])).1) (Link.mk 0 1) (Sl.mk false [98])).1) (Link.mk 0 1) 1).1) (maskOf (Sl.mk false [1]))).1) (Link.mk 0 1) 0).2.2.1))))) ?_
      refine rvc_case 57 (!((nTake ((nWall ((nTake ((nSend ((nSend newN (Link.mk 0 1) (Sl.mk false [97])).1) (Link.mk 0 1) (Sl.mk false [98])).1) (Link.mk 0 1) 1).1) (maskOf (Sl.mk false [1]))).1) (Link.mk 0 1) 0).2.2.1)) rfl (fun h6 => ?_) (fun h6 => ?_)
      ·
       replace hR := of_true h6 hR
       refine rvO C (.pv (.lit (.int .i64 ((nTake ((nWall ((nTake ((nSend ((nSend newN (Link.mk 0 1) (Sl.mk false [97])).1) (Link.mk 0 1) (Sl.mk false [98])).1) (Link.mk 0 1) 1).1) (maskOf (Sl.mk false [1]))).1) (Link.mk 0 1) 0).2.2.2)))) ?_
       refine rvO C (.pv (.lit (.bool (((nTake ((nWall ((nTake ((nSend ((nSend newN (Link.mk 0 1) (Sl.mk false [97])).1) (Link.mk 0 1) (Sl.mk false [98])).1) (Link.mk 0 1) 1).1) (maskOf (Sl.mk false [1]))).1) (Link.mk 0 1) 0).2.2.2) == 0)))) ?_
       refine rvP C (.pv (.lit (.bool (((nTake ((nWall ((nTake ((nSend ((nSend newN (Link.mk 0 1) (Sl.mk false [97])).1) (Link.mk 0 1) (Sl.mk false [98])).1) (Link.mk 0 1) 1).1) (maskOf (Sl.mk false [1]))).1) (Link.mk 0 1) 0).2.2.2) == 0)))) ?_
       refine rvP C (.pv (.lit (.bool (((nTake ((nWall ((nTake ((nSend ((nSend newN (Link.mk 0 1) (Sl.mk false [97])).1) (Link.mk 0 1) (Sl.mk false [98])).1) (Link.mk 0 1) 1).1) (maskOf (Sl.mk false [1]))).1) (Link.mk 0 1) 0).2.2.2) == 0)))) ?_
       refine rvc_case 61 (((nTake ((nWall ((nTake ((nSend ((nSend newN (Link.mk 0 1) (Sl.mk false [97])).1) (Link.mk 0 1) (Sl.mk false [98])).1) (Link.mk 0 1) 1).1) (maskOf (Sl.mk false [1]))).1) (Link.mk 0 1) 0).2.2.2) == 0) rfl (fun h7 => ?_) (fun h7 => ?_)
       ·
        replace hR := of_true h7 hR
        refine rvO C (.ptr 9 0) ?_
        refine rvO C (.agg [.pv (.lit (.int .i64 0)), .pv (.lit (.int .i64 1))]) ?_
        refine rvc_open rfl rfl rfl (rexec_callObj hP C (fun b => bif b == 0 then 9 else bif b == 1 then 509 else b) [] rfl rfl rfl (nLen_calls ((nTake ((nWall ((nTake ((nSend ((nSend newN (Link.mk 0 1) (Sl.mk false [97])).1) (Link.mk 0 1) (Sl.mk false [98])).1) (Link.mk 0 1) 1).1) (maskOf (Sl.mk false [1]))).1) (Link.mk 0 1) 0).1) (Link.mk 0 1)) rfl rfl ⟨rfl, trivial⟩ (of_decide_eq_true rfl) rfl (of_decide_eq_true rfl) (of_decide_eq_true rfl) allB_nil allB_nil (allB_cons rfl allB_nil) ?_ rfl (allB_cons rfl allB_nil))
        refine rvO C (.pv (.lit (.bool ((nLen ((nTake ((nWall ((nTake ((nSend ((nSend newN (Link.mk 0 1) (Sl.mk false [97])).1) (Link.mk 0 1) (Sl.mk false [98])).1) (Link.mk 0 1) 1).1) (maskOf (Sl.mk false [1]))).1) (Link.mk 0 1) 0).1) (Link.mk 0 1)) == 0)))) ?_
        refine rvP C (.pv (.lit (.bool ((nLen ((nTake ((nWall ((nTake ((nSend ((nSend newN (Link.mk 0 1) (Sl.mk false [97])).1) (Link.mk 0 1) (Sl.mk false [98])).1) (Link.mk 0 1) 1).1) (maskOf (Sl.mk false [1]))).1) (Link.mk 0 1) 0).1) (Link.mk 0 1)) == 0)))) ?_
        refine rvP C (.pv (.lit (.bool ((nLen ((nTake ((nWall ((nTake ((nSend ((nSend newN (Link.mk 0 1) (Sl.mk false [97])).1) (Link.mk 0 1) (Sl.mk false [98])).1) (Link.mk 0 1) 1).1) (maskOf (Sl.mk false [1]))).1) (Link.mk 0 1) 0).1) (Link.mk 0 1)) == 0)))) ?_
        refine rvc_case 67 ((nLen ((nTake ((nWall ((nTake ((nSend ((nSend newN (Link.mk 0 1) (Sl.mk false [97])).1) (Link.mk 0 1) (Sl.mk false [98])).1) (Link.mk 0 1) 1).1) (maskOf (Sl.mk false [1]))).1) (Link.mk 0 1) 0).1) (Link.mk 0 1)) == 0) rfl (fun h8 => ?_) (fun h8 => ?_)
        ·
         replace hR := of_true h8 hR
         refine rvO C (.ptr 9 0) ?_
         refine rvO C (.agg [.pv (.lit (.int .i64 0)), .pv (.lit (.int .i64 0))]) ?_
         refine rvc_open rfl rfl rfl (rexec_callObj hP C (fun b => bif b == 0 then 9 else bif b == 1 then 509 else b) [] rfl rfl rfl (nSend_calls ((nTake ((nWall ((nTake ((nSend ((nSend newN (Link.mk 0 1) (Sl.mk false [97])).1) (Link.mk 0 1) (Sl.mk false [98])).1) (Link.mk 0 1) 1).1) (maskOf (Sl.mk false [1]))).1) (Link.mk 0 1) 0).1) (Link.mk 0 0) (Sl.mk true []) (by decide)) rfl rfl ⟨rfl, trivial⟩ (of_decide_eq_true rfl) rfl (of_decide_eq_true rfl) (of_decide_eq_true rfl) allB_nil allB_nil (allB_cons rfl allB_nil) ?_ rfl (allB_cons rfl allB_nil))
         refine rvO C (.pv (.lit (.bool (((nSend ((nTake ((nWall ((nTake ((nSend ((nSend newN (Link.mk 0 1) (Sl.mk false [97])).1) (Link.mk 0 1) (Sl.mk false [98])).1) (Link.mk 0 1) 1).1) (maskOf (Sl.mk false [1]))).1) (Link.mk 0 1) 0).1) (Link.mk 0 0) (Sl.mk true [])).2) == 40)))) ?_
         refine rvP C (.pv (.lit (.bool (((nSend ((nTake ((nWall ((nTake ((nSend ((nSend newN (Link.mk 0 1) (Sl.mk false [97])).1) (Link.mk 0 1) (Sl.mk false [98])).1) (Link.mk 0 1) 1).1) (maskOf (Sl.mk false [1]))).1) (Link.mk 0 1) 0).1) (Link.mk 0 0) (Sl.mk true [])).2) == 40)))) ?_
         refine rvP C (.pv (.lit (.bool (((nSend ((nTake ((nWall ((nTake ((nSend ((nSend newN (Link.mk 0 1) (Sl.mk false [97])).1) (Link.mk 0 1) (Sl.mk false [98])).1) (Link.mk 0 1) 1).1) (maskOf (Sl.mk false [1]))).1) (Link.mk 0 1) 0).1) (Link.mk 0 0) (Sl.mk true [])).2) == 40)))) ?_
         refine rvc_nil ?_
         refine Awp.ret ?_
         subst hR
         exact ⟨.inl rfl, rfl⟩
        ·
         replace hR := of_false h8 hR
         refine rvS ?_
         refine rvS ?_
         refine rvS ?_
         refine rvS ?_
         refine rvP C (.pv (.lit (.bool false))) ?_
         refine rvP C (.pv (.lit (.bool false))) ?_
         refine rvc_nil ?_
         refine Awp.ret ?_
         subst hR
         exact ⟨.inl rfl, rfl⟩
       ·
        replace hR := of_false h7 hR
        refine rvS ?_
        refine rvS ?_
        refine rvS ?_
        refine rvS ?_
        refine rvP C (.pv (.lit (.bool false))) ?_
        refine rvP C (.pv (.lit (.bool false))) ?_
        refine rvS ?_
        refine rvS ?_
        refine rvS ?_
        refine rvS ?_
        refine rvP C (.pv (.lit (.bool false))) ?_
        refine rvP C (.pv (.lit (.bool false))) ?_
        refine rvc_nil ?_
        refine Awp.ret ?_
        subst hR
        exact ⟨.inl rfl, rfl⟩
      ·
       replace hR := of_false h6 hR
       refine rvS ?_
       refine rvS ?_
       refine rvP C (.pv (.lit (.bool false))) ?_
       refine rvP C (.pv (.lit (.bool false))) ?_
       refine rvS ?_
       refine rvS ?_
       refine rvS ?_
       refine rvS ?_
       refine rvP C (.pv (.lit (.bool false))) ?_
       refine rvP C (.pv (.lit (.bool false))) ?_
       refine rvS ?_
       refine rvS ?_
       refine rvS ?_
       refine rvS ?_
       refine rvP C (.pv (.lit (.bool false))) ?_
       refine rvP C (.pv (.lit (.bool false))) ?_
       refine rvc_nil ?_
       refine Awp.ret ?_
       subst hR
       exact ⟨.inl rfl, rfl⟩
     ·
      replace hR := of_false h5 hR
      refine rvS ?_
      refine rvS ?_
      refine rvP C (.pv (.lit (.bool false))) ?_
      refine rvP C (.pv (.lit (.bool false))) ?_
      refine rvS ?_
      refine rvS ?_
      refine rvP C (.pv (.lit (.bool false))) ?_
      refine rvP C (.pv (.lit (.bool false))) ?_
      refine rvS ?_
      refine rvS ?_
      refine rvS ?_
      refine rvS ?_
      refine rvP C (.pv (.lit (.bool false))) ?_
      refine rvP C (.pv (.lit (.bool false))) ?_
      refine rvS ?_
      refine rvS ?_
      refine rvS ?_
      refine rvS ?_
      refine rvP C (.pv (.lit (.bool false))) ?_
      refine rvP C (.pv (.lit (.bool false))) ?_
      refine rvc_nil ?_
      refine Awp.ret ?_
      subst hR
      exact ⟨.inl rfl, rfl⟩
    ·
     replace hR := of_false h4 hR
     refine rvS ?_
     refine rvS ?_
     refine rvP C (.pv (.lit (.bool false))) ?_
     refine rvP C (.pv (.lit (.bool false))) ?_
     refine rvS ?_
     refine rvS ?_
     refine rvP C (.pv (.lit (.bool false))) ?_
     refine rvP C (.pv (.lit (.bool false))) ?_
     refine rvS ?_
     refine rvS ?_
     refine rvP C (.pv (.lit (.bool false))) ?_
     refine rvP C (.pv (.lit (.bool false))) ?_
     refine rvS ?_
     refine rvS ?_
     refine rvS ?_
     refine rvS ?_
     refine rvP C (.pv (.lit (.bool false))) ?_
     refine rvP C (.pv (.lit (.bool false))) ?_
     refine rvS ?_
     refine rvS ?_
     refine rvS ?_
     refine rvS ?_
     refine rvP C (.pv (.lit (.bool false))) ?_
     refine rvP C (.pv (.lit (.bool false))) ?_
     refine rvc_nil ?_
     refine Awp.ret ?_
     subst hR
     exact ⟨.inl rfl, rfl⟩
   ·
    replace hR := of_false h3 hR
    refine rvS ?_
    refine rvP C (.pv (.lit (.bool false))) ?_
    refine rvP C (.pv (.lit (.bool false))) ?_
    refine rvS ?_
    refine rvS ?_
    refine rvP C (.pv (.lit (.bool false))) ?_
    refine rvP C (.pv (.lit (.bool false))) ?_
    refine rvS ?_
    refine rvS ?_
    refine rvP C (.pv (.lit (.bool false))) ?_
    refine rvP C (.pv (.lit (.bool false))) ?_
    refine rvS ?_
    refine rvS ?_
    refine rvP C (.pv (.lit (.bool false))) ?_
    refine rvP C (.pv (.lit (.bool false))) ?_
    refine rvS ?_
    refine rvS ?_
    refine rvS ?_
    refine rvS ?_
    refine rvP C (.pv (.lit (.bool false))) ?_
    refine rvP C (.pv (.lit (.bool false))) ?_
    refine rvS ?_
    refine rvS ?_
    refine rvS ?_
    refine rvS ?_
    refine rvP C (.pv (.lit (.bool false))) ?_
    refine rvP C (.pv (.lit (.bool false))) ?_
    refine rvc_nil ?_
    refine Awp.ret ?_
    subst hR
    exact ⟨.inl rfl, rfl⟩
end Go.Proofs.Ytpeeofofagfooaa
/- Links compared. No conditions. -/
namespace Go.Proofs.Ytpeeofofagfooaa
open Go.Am
end Go.Proofs.Ytpeeofofagfooaa
/- An abstract machine over the kit's calls, part 46: the worlds that a sort of Go's library passes through. No conditions. -/
namespace Go.Am
open Go.Sort
section
variable {α : Type} [Inhabited α] {enc : α → Value} {w : World} {blk off m : Nat} {d : Array α} {os : Array Obj}
end
end Go.Am
/- An abstract machine over the kit's calls, part 48: a row of one's own is sorted by Go's library: elements of several cells. No conditions. -/
namespace Go.Am
end Go.Am
/- Links sorted: slices.SortFunc's contract off the shelf of Go's library. No conditions. -/
namespace Go.Proofs.Ytpeeofofagfooaa
open Go.Am
open Go.Shelf (Ren)
/-- Links that may be. -/
abbrev FL := { l : Link // fitsL l = true }
instance : Inhabited FL := ⟨⟨⟨0, 1⟩, rfl⟩⟩
end Go.Proofs.Ytpeeofofagfooaa
/- All links with messages, in order. No conditions. -/
namespace Go.Proofs.Ytpeeofofagfooaa
open Go.Am
theorem link_eq {a b : Link} : (kLink.eq a b = true) ↔ a = b := by
  obtain ⟨a1, a2⟩ := a
  obtain ⟨b1, b2⟩ := b
  simp [kLink]
end Go.Proofs.Ytpeeofofagfooaa
/- Calls that may be gone through are few. No conditions. -/
namespace Go.Proofs.Ytpeeofofagfooaa
open Go.Am
theorem short_l1_ok (x : Sl Do) (kk : Int → Int → Int → Bool) (hk : ∀ n a i, 0 ≤ a → a ≤ 151 → 0 ≤ n → n ≤ 32769 → kk n a i = true → a ≤ 150 ∧ n ≤ 16384) : ∀ (f : Nat) (n a i : Int), f = x.D.length - i.toNat + 1 → 0 ≤ i → i ≤ (x.D.length : Int) → i ≤ a → a ≤ 151 → 0 ≤ n → n ≤ 32769 → short_l1 x kk f n a i = true →
    (a ≤ 150 ∧ n ≤ 16384) ∧ (x.D.length : Int) - i + a ≤ 150 ∧ ∀ j, i.toNat ≤ j → ∀ y, x.D[j]? = some y → y.b.D.length ≤ 16384
  | 0, _, _, _, hf, _, _, _, _, _, _, _ => by omega
  | f + 1, n, a, i, hf, h0, h1, h2, h3, h4, h5, h => by
    unfold short_l1 at h
    cases e1 : decide (i < (x.D.length : Int))
    · rw [e1] at h
      have h6 := of_decide_eq_false e1
      have h7 := hk n a i (by omega) h3 h4 h5 h
      refine ⟨h7, by omega, fun j hj y hy => ?_⟩
      rw [List.getElem?_eq_none (by omega)] at hy; cases hy
    · have h6 := of_decide_eq_true e1
      rw [e1] at h
      simp only [cond_true] at h
      cases e2 : decide (a ≤ 150)
      · rw [e2] at h
        have := of_decide_eq_false e2
        have := (hk n a i (by omega) h3 h4 h5 h).1
        omega
      · have h7 := of_decide_eq_true e2
        rw [e2] at h
        simp only [cond_true] at h
        cases e3 : decide (n ≤ 16384)
        · rw [e3] at h
          have := of_decide_eq_false e3
          have := (hk n a i (by omega) h3 h4 h5 h).2
          omega
        · have h8 := of_decide_eq_true e3
          rw [e3] at h
          simp only [cond_true] at h
          have hm := min85 ((x.D[i.toNat]!.b.D).length : Int) (Int.natCast_nonneg _)
          have hw1 := wrapI (n + (bif (decide ((16385 : Int) < ((x.D[i.toNat]!.b.D).length : Int))) then (16385 : Int) else ((x.D[i.toNat]!.b.D).length : Int)))
          have hw2 := wrapI (a + 1)
          have hw3 := wrapI (i + 1)
          have ih := short_l1_ok x kk hk f _ _ _ (by omega) (by omega) (by omega) (by omega) (by omega) (by omega) (by omega) h
          obtain ⟨⟨i1, i2⟩, i3, i4⟩ := ih
          refine ⟨⟨h7, h8⟩, by omega, fun j hj y hy => ?_⟩
          rcases Nat.lt_or_ge i.toNat j with hlt | hge
          · exact i4 j (by omega) y hy
          · have hji : j = i.toNat := by omega
            subst hji
            have hy2 : x.D[i.toNat]! = y := by
              rw [getElem!_def, hy]
            rw [hy2] at hw1 hm i2
            cases e4 : decide ((16385 : Int) < (y.b.D.length : Int))
            · have := of_decide_eq_false e4
              rw [e4] at hw1 i2
              simp only [cond_false] at hw1 i2
              omega
            · rw [e4] at hw1 i2
              simp only [cond_true] at hw1 i2
              omega
theorem short_l0_ok : ∀ (l : List (Sl Do)) (i : Nat) (n a : Int), 0 ≤ a → a ≤ 151 → 0 ≤ n → n ≤ 32769 → short_l0 l i n a = true → (a ≤ 150 ∧ n ≤ 16384) ∧ ∀ x ∈ l, x.D.length ≤ 150 ∧ ∀ y ∈ x.D, y.b.D.length ≤ 16384
  | [], _, n, a, _, _, _, _, h => by
    unfold short_l0 at h
    cases e1 : decide (a ≤ 150)
    · rw [e1] at h; cases h
    · rw [e1] at h
      exact ⟨⟨of_decide_eq_true e1, of_decide_eq_true h⟩, fun x hx => by cases hx⟩
  | x :: l, i, n, a, h0, h1, h2, h3, h => by
    unfold short_l0 at h
    -- what follows holds of what the rounds leave
    by_cases hx : (a ≤ 150 ∧ n ≤ 16384) ∧ (x.D.length : Int) - 0 + a ≤ 150 ∧ ∀ j, (0 : Int).toNat ≤ j → ∀ y, x.D[j]? = some y → y.b.D.length ≤ 16384
    · obtain ⟨p1, p2, p3⟩ := hx
      have hx1 : x.D.length ≤ 150 ∧ ∀ y ∈ x.D, y.b.D.length ≤ 16384 := ⟨by omega, fun y hy => by
        obtain ⟨j, hj⟩ := List.getElem?_of_mem hy
        exact p3 j (Nat.zero_le _) y hj⟩
      refine ⟨p1, fun z hz => ?_⟩
      cases hz with
      | head => exact hx1
      | tail _ hz =>
        -- the rest
        have key : ∀ (f : Nat) (n a i' : Int), 0 ≤ i' → i' ≤ a → a ≤ 151 → 0 ≤ n → n ≤ 32769 → f = x.D.length - i'.toNat + 1 → i' ≤ (x.D.length : Int) → short_l1 x (fun n1 acts1 _ => short_l0 l (i + 1) n1 acts1) f n a i' = true → ∃ n1 a1, 0 ≤ a1 ∧ a1 ≤ 151 ∧ 0 ≤ n1 ∧ n1 ≤ 32769 ∧ short_l0 l (i + 1) n1 a1 = true := by
          intro f
          induction f with
          | zero => intro n a i' _ _ _ _ _ hf; omega
          | succ f ih =>
            intro n a i' q0 q1 q2 q3 q4 q5 q6 q
            unfold short_l1 at q
            cases e1 : decide (i' < (x.D.length : Int))
            · rw [e1] at q; exact ⟨n, a, by omega, q2, q3, q4, q⟩
            · have h6 := of_decide_eq_true e1
              rw [e1] at q
              simp only [cond_true] at q
              cases e2 : decide (a ≤ 150)
              · rw [e2] at q; exact ⟨n, a, by omega, q2, q3, q4, q⟩
              · have h7 := of_decide_eq_true e2
                rw [e2] at q
                simp only [cond_true] at q
                cases e3 : decide (n ≤ 16384)
                · rw [e3] at q; exact ⟨n, a, by omega, q2, q3, q4, q⟩
                · have h8 := of_decide_eq_true e3
                  rw [e3] at q
                  simp only [cond_true] at q
                  have hm := min85 ((x.D[i'.toNat]!.b.D).length : Int) (Int.natCast_nonneg _)
                  have hw1 := wrapI (n + (bif (decide ((16385 : Int) < ((x.D[i'.toNat]!.b.D).length : Int))) then (16385 : Int) else ((x.D[i'.toNat]!.b.D).length : Int)))
                  have hw2 := wrapI (a + 1)
                  have hw3 := wrapI (i' + 1)
                  exact ih _ _ _ (by omega) (by omega) (by omega) (by omega) (by omega) (by omega) (by omega) q
        obtain ⟨n1, a1, k1, k2, k3, k4, k5⟩ := key _ n a 0 (Int.le_refl _) h0 h1 h2 h3 rfl (by omega) h
        exact (short_l0_ok l (i + 1) n1 a1 k1 k2 k3 k4 k5).2 z hz
    · exact absurd (short_l1_ok x _ (fun n1 a1 _ g0 g1 g2 g3 hh => (short_l0_ok l (i + 1) n1 a1 g0 g1 g2 g3 hh).1) _ n a 0 rfl (Int.le_refl _) (by omega) h0 h1 h2 h3 h) hx
theorem short_ok {ls : Sl (Sl Do)} (h : (!(short ls)) = false) (l : Sl Do) (hl : l ∈ ls.D) : l.D.length ≤ 150 ∧ ∀ y ∈ l.D, y.b.D.length ≤ 16384 :=
  (short_l0_ok ls.D 0 0 0 (Int.le_refl _) (by decide) (Int.le_refl _) (by decide) (by simpa [short] using h)).2 l hl
theorem does_ok {n : Net} (h : okN n) (k : Do) : okN (does n k).1 := by
  unfold does
  generalize (IntKind.i64.wrap ((IntKind.u64.wrap k.op).tmod 9)) = o
  cases o == 3
  case true => exact take_ok h _ _
  rw [cond_false]
  cases o == 4
  case true => exact take_ok h _ _
  rw [cond_false]
  cases o == 5
  case true => exact lose_ok h _ _
  rw [cond_false]
  cases o == 6
  case true => exact double_ok h _ _
  rw [cond_false]
  cases o == 7
  case true => exact wall_ok h _
  rw [cond_false]
  cases o == 8
  case true => exact forget_ok h _
  exact send_ok h _ _
end Go.Proofs.Ytpeeofofagfooaa
/- An abstract machine over the kit's calls, part 58: a region that draws its order, in which two operations (a lookup, and the making of an entry) do not wait for one another: it is gone through in both orders. No conditions. -/
namespace Go.Am
/-- As okDrawn, but of two operations nothing is asked. -/
def okDrawnX (ops : Array Oper) (cl : Oper → Cls) (B : List Nat) (x y : Nat) : Bool :=
  (List.range ops.size).all fun i => match ops[i]? with
    | none => false
    | some o => (o.after.toList.all fun e => !Region.binds .any e || decide (e.on < i)) && (B.getD i 0 == befOf B o) &&
      (List.range i).all fun k => (B.getD i 0).testBit k || freePair ops cl k i || (k == x && i == y)
theorem okX_at {ops : Array Oper} {cl : Oper → Cls} {B : List Nat} {x y : Nat} (hok : okDrawnX ops cl B x y = true) : ∀ i, i < ops.size → ∃ o, ops[i]? = some o ∧ (∀ e ∈ o.after.toList, Region.binds .any e = true → e.on < i) ∧ B.getD i 0 = befOf B o ∧ ∀ k, k < i → (B.getD i 0).testBit k = true ∨ freePair ops cl k i = true ∨ (k = x ∧ i = y) := by
  intro i hi
  have h := List.all_eq_true.1 hok i (List.mem_range.2 hi)
  split at h
  · cases h
  · rename_i o ho
    simp only [Bool.and_eq_true, beq_iff_eq] at h
    obtain ⟨⟨h1, h2⟩, h3⟩ := h
    refine ⟨o, ho, fun e he hb => ?_, h2, fun k hk => ?_⟩
    · have := List.all_eq_true.1 h1 e he
      simpa [hb] using this
    · have := List.all_eq_true.1 h3 k (List.mem_range.2 hk)
      simp only [Bool.or_eq_true, Bool.and_eq_true, beq_iff_eq] at this
      rcases this with (h | h) | h
      · exact .inl h
      · exact .inr (.inl h)
      · exact .inr (.inr h)
theorem ready_iff {ops : Array Oper} {listed : Array Bool} (i : Nat) : i ∈ Region.ready .any ops listed ↔ i < ops.size ∧ listed.getD i true = false ∧ ∀ o, ops[i]? = some o → ∀ e ∈ o.after.toList, Region.binds .any e = true → listed.getD e.on false = true := by
  simp only [Region.ready, List.mem_filter, List.mem_range, Bool.and_eq_true, Bool.not_eq_true']
  constructor
  · rintro ⟨h1, h2, h3⟩
    refine ⟨h1, h2, fun o ho e he hb => ?_⟩
    simp only [ho, Option.map_some, Option.getD_some] at h3
    have := (Array.all_eq_true'.1 h3) e (Array.mem_toList_iff.1 he)
    simpa [hb] using this
  · rintro ⟨h1, h2, h3⟩
    refine ⟨h1, h2, ?_⟩
    have ho : ops[i]? = some ops[i] := Array.getElem?_eq_getElem h1
    simp only [ho, Option.map_some, Option.getD_some]
    refine Array.all_eq_true'.2 fun e he => ?_
    cases hb : Region.binds .any e with
    | false => rfl
    | true => simpa [hb] using h3 _ ho e (Array.mem_toList_iff.2 he) hb
theorem listed_of {listed : Array Bool} {k : Nat} (hk : k < listed.size) (h : listed.getD k false = true) : listed.getD k true = true := by
  simpa [Array.getD_eq_getD_getElem?, Array.getElem?_eq_getElem hk] using h
theorem listed_of' {listed : Array Bool} {k : Nat} (hk : k < listed.size) (h : listed.getD k true = true) : listed.getD k false = true := by
  simpa [Array.getD_eq_getD_getElem?, Array.getElem?_eq_getElem hk] using h
/-- What a ready operation waits for is done. -/
theorem bits_done {ops : Array Oper} {cl : Oper → Cls} {B : List Nat} {x y : Nat} (hok : okDrawnX ops cl B x y = true) {listed : Array Bool} (hsz : listed.size = ops.size) (hcl : ∀ i, i < ops.size → listed.getD i true = true → ∀ k, (B.getD i 0).testBit k = true → listed.getD k true = true) {i : Nat} (hi : i ∈ Region.ready .any ops listed) :
    ∀ k, (B.getD i 0).testBit k = true → listed.getD k true = true := by
  obtain ⟨hi1, _, hi3⟩ := (ready_iff i).1 hi
  obtain ⟨o, ho, he, hB, _⟩ := okX_at hok i hi1
  intro k hk
  rw [hB] at hk
  obtain ⟨e, hee, hb, hx⟩ := befOf_bit hk
  have hlt := he e hee hb
  have hl' := listed_of (by omega) (hi3 o ho e hee hb)
  rcases hx with rfl | hx
  · exact hl'
  · exact hcl e.on (by omega) hl' k hx
theorem set_get {listed : Array Bool} {i : Nat} (hi : i < listed.size) (k : Nat) : (listed.setIfInBounds i true).getD k true = (if k = i then true else listed.getD k true) := by
  simp only [Array.getD_eq_getD_getElem?, Array.getElem?_setIfInBounds]
  by_cases hki : k = i
  · subst hki; rw [if_pos rfl, if_pos rfl, if_pos hi]; rfl
  · rw [if_neg hki, if_neg (Ne.symm hki)]
theorem closed_set {ops : Array Oper} {B : List Nat} {listed : Array Bool} {i : Nat} (hi : i < listed.size) (hcl : ∀ i, i < ops.size → listed.getD i true = true → ∀ k, (B.getD i 0).testBit k = true → listed.getD k true = true) (bits : ∀ k, (B.getD i 0).testBit k = true → listed.getD k true = true) :
    ∀ j, j < ops.size → (listed.setIfInBounds i true).getD j true = true → ∀ k, (B.getD j 0).testBit k = true → (listed.setIfInBounds i true).getD k true = true := by
  intro j hj hl k hk
  rw [set_get hi] at hl ⊢
  by_cases hki : k = i
  · rw [if_pos hki]
  · rw [if_neg hki]
    by_cases hji : j = i
    · subst hji; exact bits k hk
    · rw [if_neg hji] at hl; exact hcl j hj hl k hk
theorem rem_set {n : Nat} {listed : Array Bool} {i : Nat} (hi : i < listed.size) {rem rem' : List Nat} (hrem : ∀ k, k ∈ rem ↔ k < n ∧ listed.getD k true = false) (h : ∀ k, k ∈ rem' ↔ k ∈ rem ∧ k ≠ i) : ∀ k, k ∈ rem' ↔ k < n ∧ (listed.setIfInBounds i true).getD k true = false := by
  intro k
  rw [h, hrem, set_get hi]
  by_cases hki : k = i
  · subst hki; simp
  · simp [hki]
theorem mem_drop_mid {pre post : List Nat} {i : Nat} (hpw : (pre ++ i :: post).Pairwise (· < ·)) (k : Nat) : k ∈ pre ++ post ↔ k ∈ pre ++ i :: post ∧ k ≠ i := by
  have h1 := (List.pairwise_append.1 hpw).2.2
  have h2 := (List.pairwise_cons.1 (List.pairwise_append.1 hpw).2.1).1
  simp only [List.mem_append, List.mem_cons]
  constructor
  · rintro (h | h)
    · exact ⟨.inl h, fun e => by have := h1 k h i (List.mem_cons_self ..); omega⟩
    · exact ⟨.inr (.inr h), fun e => by have := h2 k h; omega⟩
  · rintro ⟨h | h | h, hne⟩
    · exact .inl h
    · exact absurd h hne
    · exact .inr h
theorem none_ready {ops : Array Oper} {cl : Oper → Cls} {B : List Nat} {x y : Nat} (hok : okDrawnX ops cl B x y = true) {listed : Array Bool} (hsz : listed.size = ops.size) {rem : List Nat} (hpw : rem.Pairwise (· < ·)) (hrem : ∀ i, i ∈ rem ↔ i < ops.size ∧ listed.getD i true = false) (h : Region.ready .any ops listed = []) : rem = [] := by
  cases rem with
  | nil => rfl
  | cons j rem =>
    exfalso
    have hj := (hrem j).1 (List.mem_cons_self ..)
    obtain ⟨o, ho, he, _, _⟩ := okX_at hok j hj.1
    have : j ∈ Region.ready .any ops listed := (ready_iff j).2 ⟨hj.1, hj.2, fun o' ho' e hee hb => by
      obtain rfl : o = o' := Option.some.inj (ho.symm.trans ho')
      have hlt := he e hee hb
      cases hl : listed.getD e.on true with
      | true => exact listed_of' (by omega) hl
      | false =>
        have hm := (hrem e.on).2 ⟨by omega, hl⟩
        cases hm with
        | head => omega
        | tail _ hm => have := (List.pairwise_cons.1 hpw).1 _ hm; omega⟩
    rw [h] at this
    cases this
theorem ready_nil {ops : Array Oper} {listed : Array Bool} (hrem : ∀ i : Nat, i ∈ ([] : List Nat) ↔ i < ops.size ∧ listed.getD i true = false) : Region.ready .any ops listed = [] := by
  apply List.eq_nil_iff_forall_not_mem.2
  intro i hi
  obtain ⟨h1, h2, _⟩ := (ready_iff i).1 hi
  have := (hrem i).2 ⟨h1, h2⟩
  cases this
section
variable {E : Env} {ops : Array Oper} {cl : Oper → Cls} {B : List Nat} {Q : Exit → Act → World → Prop} {x y : Nat}
/-- One of the two is done: any order of the rest. -/
theorem run_wpAnyX (hok : okDrawnX ops cl B x y = true) {sn : St} (hq : ∀ a w, At E sn a w → Q .normal a w) :
    ∀ (fuel : Nat) (listed : Array Bool) (rem : List Nat) (st : St) (a : Act) (w : World), listed.size = ops.size → rem.length ≤ fuel → rem.Pairwise (· < ·) → (∀ i, i ∈ rem ↔ i < ops.size ∧ listed.getD i true = false) →
      (∀ i, i < ops.size → listed.getD i true = true → ∀ k, (B.getD i 0).testBit k = true → listed.getD k true = true) → ¬ (x ∈ rem ∧ y ∈ rem) → Run E ops cl rem st sn → At E st a w → wpAny E.P .any ops Q fuel listed a w := by
  intro fuel
  induction fuel with
  | zero =>
    intro listed rem st a w hsz hlen hpw hrem hcl hxy hrun hat
    obtain rfl : rem = [] := List.eq_nil_of_length_eq_zero (by omega)
    cases hrun
    exact ⟨ready_nil hrem, hq a w hat⟩
  | succ fuel ih =>
    intro listed rem st a w hsz hlen hpw hrem hcl hxy hrun hat
    refine ⟨fun hnil => ?_, fun i hi => ?_⟩
    · obtain rfl := none_ready hok hsz hpw hrem hnil
      cases hrun; exact hq a w hat
    · obtain ⟨hi1, hi2, _⟩ := (ready_iff i).1 hi
      have bits := bits_done hok hsz hcl hi
      have him := (hrem i).2 ⟨hi1, hi2⟩
      obtain ⟨pre, post, rfl⟩ := List.append_of_mem him
      obtain ⟨_, _, _, _, hfree⟩ := okX_at hok i hi1
      have hpre : ∀ k ∈ pre, k < i := fun k hk => (List.pairwise_append.1 hpw).2.2 k hk i (List.mem_cons_self ..)
      have hfp : ∀ k ∈ pre, freePair ops cl k i = true := fun k hk => by
        rcases hfree k (hpre k hk) with h | h | ⟨rfl, rfl⟩
        · have h1 := bits k h
          have h2 := ((hrem k).1 (List.mem_append_left _ hk)).2
          rw [h1] at h2; cases h2
        · exact h
        · exact absurd ⟨List.mem_append_left _ hk, him⟩ hxy
      obtain ⟨ι, imm, hsr⟩ := hat
      obtain ⟨o', s, ho', hstep, hrun'⟩ := hrun.front hsr.wf hfp
      have hmd := mem_drop_mid hpw
      refine wpOp_mono (fun a' w' hat' => ih _ (pre ++ post) s a' w' (by simp [hsz]) ?_ (hpw.sublist (by simp)) (rem_set (by omega) hrem hmd) (closed_set (by omega) hcl bits) (fun hh => hxy ⟨((hmd x).1 hh.1).1, ((hmd y).1 hh.2).1⟩) hrun' hat') (hstep.wpOp ho' ⟨ι, imm, hsr⟩)
      simp only [List.length_append, List.length_cons] at hlen ⊢; omega
theorem Run.append {A R : List Nat} {st s sn : St} (h : Run E ops cl A st s) (h' : Run E ops cl R s sn) : Run E ops cl (A ++ R) st sn := by
  induction h with
  | nil => exact h'
  | cons ho hs _ ih => exact .cons ho hs (ih h')
/-- None of the two is done. -/
theorem run_wpAny2 (hok : okDrawnX ops cl B x y = true) (hxy : x < y) (hdep : ∀ i, x < i → i ≠ y → i < ops.size → (B.getD i 0).testBit x = true ∨ (B.getD i 0).testBit y = true) {sn1 sn2 s0 : St} (hq1 : ∀ a w, At E sn1 a w → Q .normal a w) (hq2 : ∀ a w, At E sn2 a w → Q .normal a w) (R1 : List Nat) (hy : y ∈ R1)
    (h1 : Run E ops cl (x :: R1) s0 sn1) (h2 : Run E ops cl (y :: x :: R1.filter (· != y)) s0 sn2) :
    ∀ (fuel : Nat) (listed : Array Bool) (A : List Nat) (st : St) (a : Act) (w : World), listed.size = ops.size → (A ++ x :: R1).length ≤ fuel → (A ++ x :: R1).Pairwise (· < ·) → (∀ i, i ∈ A ++ x :: R1 ↔ i < ops.size ∧ listed.getD i true = false) →
      (∀ i, i < ops.size → listed.getD i true = true → ∀ k, (B.getD i 0).testBit k = true → listed.getD k true = true) → Run E ops cl A st s0 → At E st a w → wpAny E.P .any ops Q fuel listed a w := by
  intro fuel
  induction fuel with
  | zero => intro listed A st a w _ hlen; simp at hlen
  | succ fuel ih =>
    intro listed A st a w hsz hlen hpw hrem hcl hrun hat
    refine ⟨fun hnil => ?_, fun i hi => ?_⟩
    · have := none_ready hok hsz hpw hrem hnil
      simp at this
    · obtain ⟨hi1, hi2, _⟩ := (ready_iff i).1 hi
      have bits := bits_done hok hsz hcl hi
      have him := (hrem i).2 ⟨hi1, hi2⟩
      have hAx : ∀ k ∈ A, k < x := fun k hk => (List.pairwise_append.1 hpw).2.2 k hk x (List.mem_cons_self ..)
      have hxR : ∀ k ∈ R1, x < k := (List.pairwise_cons.1 (List.pairwise_append.1 hpw).2.1).1
      have hxm : x ∈ A ++ x :: R1 := by simp
      have hym : y ∈ A ++ x :: R1 := by simp [hy]
      have notdone : ∀ k, k ∈ A ++ x :: R1 → ¬ (B.getD i 0).testBit k = true := fun k hk hb => by
        have h1 := bits k hb
        have h2 := ((hrem k).1 hk).2
        rw [h1] at h2; cases h2
      have hfree : ∀ k ∈ A, k < i → (k ≠ x ∨ i ≠ y) → freePair ops cl k i = true := fun k hk hlt hne => by
        obtain ⟨_, _, _, _, hf⟩ := okX_at hok i hi1
        rcases hf k hlt with h | h | ⟨rfl, rfl⟩
        · exact absurd h (notdone k (List.mem_append_left _ hk))
        · exact h
        · rcases hne with h | h <;> exact absurd rfl h
      obtain ⟨ι, imm, hsr⟩ := hat
      by_cases hix : i = x
      · subst hix
        obtain ⟨o', s, ho', hstep, hrun'⟩ := (hrun.append h1).front hsr.wf fun k hk => hfree k hk (hAx k hk) (.inl (by have := hAx k hk; omega))
        have hmd := mem_drop_mid hpw
        refine wpOp_mono (fun a' w' hat' => run_wpAnyX hok hq1 _ _ (A ++ R1) s a' w' (by simp [hsz]) ?_ (hpw.sublist (by simp)) (rem_set (by omega) hrem hmd) (closed_set (by omega) hcl bits) (fun hh => ((hmd i).1 hh.1).2 rfl) hrun' hat') (hstep.wpOp ho' ⟨ι, imm, hsr⟩)
        simp only [List.length_append, List.length_cons] at hlen ⊢; omega
      by_cases hiy : i = y
      · subst hiy
        obtain ⟨o', s, ho', hstep, hrun'⟩ := (hrun.append h2).front hsr.wf fun k hk => hfree k hk (by have := hAx k hk; omega) (.inl (by have := hAx k hk; omega))
        have hmd : ∀ k, k ∈ A ++ x :: R1.filter (· != i) ↔ k ∈ A ++ x :: R1 ∧ k ≠ i := fun k => by
          simp only [List.mem_append, List.mem_cons, List.mem_filter, bne_iff_ne, ne_eq]
          constructor
          · rintro (h | rfl | ⟨h, hne⟩)
            · exact ⟨.inl h, by have := hAx k h; omega⟩
            · exact ⟨.inr (.inl rfl), by omega⟩
            · exact ⟨.inr (.inr h), hne⟩
          · rintro ⟨h | h | h, hne⟩
            · exact .inl h
            · exact .inr (.inl h)
            · exact .inr (.inr ⟨h, hne⟩)
        refine wpOp_mono (fun a' w' hat' => run_wpAnyX hok hq2 _ _ (A ++ x :: R1.filter (· != i)) s a' w' (by simp [hsz]) ?_ (hpw.sublist ((List.filter_sublist.cons_cons x).append_left A)) (rem_set (by omega) hrem hmd) (closed_set (by omega) hcl bits) (fun hh => ((hmd i).1 hh.2).2 rfl) hrun' hat') (hstep.wpOp ho' ⟨ι, imm, hsr⟩)
        have : (R1.filter (· != i)).length < R1.length := List.length_filter_lt_length_iff_exists.2 ⟨i, hy, by simp⟩
        simp only [List.length_append, List.length_cons] at hlen ⊢; omega
      have hiA : i ∈ A := by
        rcases List.mem_append.1 him with h | h
        · exact h
        · rcases List.mem_cons.1 h with h | h
          · exact absurd h hix
          · rcases hdep i (hxR i h) hiy hi1 with h | h
            · exact absurd h (notdone x hxm)
            · exact absurd h (notdone y hym)
      obtain ⟨pre, post, rfl⟩ := List.append_of_mem hiA
      have hpw' : (pre ++ i :: (post ++ x :: R1)).Pairwise (· < ·) := by simpa using hpw
      have hpre : ∀ k ∈ pre, k < i := fun k hk => (List.pairwise_append.1 hpw').2.2 k hk i (List.mem_cons_self ..)
      obtain ⟨o', s, ho', hstep, hrun'⟩ := hrun.front hsr.wf fun k hk => hfree k (List.mem_append_left _ hk) (hpre k hk) (.inr hiy)
      have hmd : ∀ k, k ∈ (pre ++ post) ++ x :: R1 ↔ k ∈ (pre ++ i :: post) ++ x :: R1 ∧ k ≠ i := fun k => by
        have := mem_drop_mid hpw' k
        simpa using this
      refine wpOp_mono (fun a' w' hat' => ih _ (pre ++ post) s a' w' (by simp [hsz]) ?_ (by have := hpw'.sublist (l₁ := pre ++ (post ++ x :: R1)) (by simp); simpa using this) (rem_set (by omega) hrem hmd) (closed_set (by omega) hcl bits) hrun' hat') (hstep.wpOp ho' ⟨ι, imm, hsr⟩)
      simp only [List.length_append, List.length_cons] at hlen ⊢; omega
end
/-- A run of operations by their numbers. -/
theorem run_of_rvcI {E : Env} {cq : Oper → Cls} {n : Nat} {ops : Array Oper} (hn : E.n = n) : ∀ (is : List Nat) (l : List Oper) (st : St) (K : St → Prop), is.map (ops[·]?) = l.map some → rvc E cq n ops l st K → ∃ sn, Run E ops (clsOf cq) is st sn ∧ K sn
  | [], [], st, K, _, h => ⟨st, .nil st, h⟩
  | [], _ :: _, _, _, hl, _ => by cases hl
  | _ :: _, [], _, _, hl, _ => by cases hl
  | k :: is, o :: l, st, K, hl, h => by
    simp only [List.map_cons, List.cons.injEq] at hl
    obtain ⟨ho, hl'⟩ := hl
    have hD : dstB n o = true → ∀ d, o.dst = some d → d < E.n := fun hd d e => by simp only [dstB, e, decide_eq_true_eq] at hd; exact hn ▸ hd
    simp only [rvc] at h
    split at h
    · rename_i hg
      obtain ⟨hd, vs, hs, δ, m, h2⟩ := h
      obtain ⟨sn, h3, h4⟩ := run_of_rvcI hn is l _ K hl' h2
      exact ⟨sn, .cons ho (.exec (by simp [guardV, hg]) (hD hd) vs hs δ m) h3, h4⟩
    · rename_i j want hg
      split at h
      · exact h.elim
      · rename_i t ht
        split at h
        · rename_i b hb
          obtain ⟨hyes, hno⟩ := h
          have hgv : guardV ops st.S o = some (b == want) := by simp only [guardV, hg, ht, Option.bind_some, hb]
          by_cases hbw : b = want
          · obtain ⟨hd, vs, hs, δ, m, h2⟩ := hyes hbw
            obtain ⟨sn, h3, h4⟩ := run_of_rvcI hn is l _ K hl' h2
            exact ⟨sn, .cons ho (.exec (by rw [hgv, hbw]; simp) (hD hd) vs hs δ m) h3, h4⟩
          · have hbn : b = !want := by cases b <;> cases want <;> simp_all
            obtain ⟨hd, h2⟩ := hno hbn
            obtain ⟨sn, h3, h4⟩ := run_of_rvcI hn is l _ K hl' h2
            exact ⟨sn, .cons ho (.skip (by rw [hgv, hbn]; cases want <;> rfl) (hD hd)) h3, h4⟩
        · rename_i hb
          obtain ⟨hd, h2⟩ := h
          have hgv : guardV ops st.S o = some false := by simp only [guardV, hg, ht, Option.bind_some, hb]
          obtain ⟨sn, h3, h4⟩ := run_of_rvcI hn is l _ K hl' h2
          exact ⟨sn, .cons ho (.skip hgv (hD hd)) h3, h4⟩
        · exact h.elim
/-- A region that draws its order, in which operations x and y do not wait for one another: A ahead of both, then both ways. -/
theorem Awp.region2 {E : Env} {T : Tab} {n : Nat} {st : St} {Q : Exit → St → Prop} (C : Cx E T n) (cq : Oper → Cls) {id : Nat} {ops : Array Oper} (x y : Nat) (lA l1 l2 : List Oper) (hok : okDrawnX ops (clsOf cq) (befs ops.toList []) x y = true) (hxy : decide (x < y) = true) (hys : decide (y < ops.size) = true)
    (hdep : ((List.range ops.size).all fun i => !(decide (x < i) && i != y) || ((befs ops.toList []).getD i 0).testBit x || ((befs ops.toList []).getD i 0).testBit y) = true)
    (hA : (List.range x).map (ops[·]?) = lA.map some) (hl1 : (x :: List.range' (x + 1) (ops.size - (x + 1))).map (ops[·]?) = l1.map some) (hl2 : (y :: x :: (List.range' (x + 1) (ops.size - (x + 1))).filter (· != y)).map (ops[·]?) = l2.map some)
    (h : rvc E cq n ops lA st fun s0 => (rvc E cq n ops l1 s0 fun st' => Q .normal st') ∧ (rvc E cq n ops l2 s0 fun st' => Q .normal st')) : Awp E (.region id ops true) st Q := by
  intro a w hat
  obtain ⟨s0, r0, h1, h2⟩ := run_of_rvcI C.n _ _ _ _ hA h
  obtain ⟨sn1, r1, k1⟩ := run_of_rvcI C.n _ _ _ _ hl1 h1
  obtain ⟨sn2, r2, k2⟩ := run_of_rvcI C.n _ _ _ _ hl2 h2
  have hxy := of_decide_eq_true hxy
  have hys := of_decide_eq_true hys
  have hsplit : List.range x ++ x :: List.range' (x + 1) (ops.size - (x + 1)) = List.range ops.size := by
    rw [List.range_eq_range', List.range_eq_range']
    have e1 : x :: List.range' (x + 1) (ops.size - (x + 1)) = List.range' x (ops.size - x) := by
      rw [show ops.size - x = (ops.size - (x + 1)) + 1 by omega, List.range'_succ]
    rw [e1]
    have := List.range'_append (s := 0) (m := x) (n := ops.size - x) (step := 1)
    simp only [Nat.one_mul, Nat.zero_add] at this
    rw [this]
    congr 1; omega
  have hdep' : ∀ i, x < i → i ≠ y → i < ops.size → ((befs ops.toList []).getD i 0).testBit x = true ∨ ((befs ops.toList []).getD i 0).testBit y = true := fun i q1 q2 q3 => by
    have := List.all_eq_true.1 hdep i (List.mem_range.2 q3)
    simpa [q1, q2] using this
  refine wp_region_any C.mixed (run_wpAny2 hok hxy hdep' (fun a w h3 => ⟨sn1, k1, h3⟩) (fun a w h3 => ⟨sn2, k2, h3⟩) _ (List.mem_range'_1.2 (by omega)) r1 r2 ops.size _ (List.range x) st a _ (by simp) ?_ ?_ ?_ ?_ r0 hat.drew)
  · rw [hsplit, List.length_range]; exact Nat.le_refl _
  · rw [hsplit]; exact List.pairwise_lt_range
  · intro i
    rw [hsplit]
    simp only [List.mem_range]
    constructor
    · intro hi; exact ⟨hi, by simp [Array.getD_eq_getD_getElem?, hi]⟩
    · exact fun h => h.1
  · intro i hi hl
    simp [Array.getD_eq_getD_getElem?, hi] at hl
end Go.Am
/- An abstract machine over the kit's calls, part 59: regions of so many operations in two orders; what a lookup answers behind the making of an entry. No conditions. -/
namespace Go.Am
theorem xEnt_look {κ β : Type} {KE : KEnc κ} {k : κ} {z : β} {X : List ((κ × β) × Nat)} {q : Nat} : (mGet KE k ((xEntX KE k z X q).map (·.1))).getD z = (mGet KE k (X.map (·.1))).getD z := by
  unfold xEntX
  cases hg : xGet KE k X with
  | some p => rfl
  | none =>
    have h1 : mGet KE k (X.map (·.1)) = none := by rw [← xGet_map, hg]; rfl
    have key : ∀ (D : List (κ × β)), mGet KE k D = none → mGet KE k (D ++ [(k, z)]) = some z := by
      intro D
      induction D with
      | nil => intro _; simp [mGet, (KE.spec k k).2 rfl]
      | cons e D ih =>
        intro h
        unfold mGet at h
        split at h
        · cases h
        · rename_i hk
          rw [List.cons_append, mGet, if_neg hk]
          exact ih h
    rw [h1]
    show (mGet KE k ((X ++ [((k, z), q)]).map (·.1))).getD z = z
    rw [List.map_append]
    show (mGet KE k (X.map (·.1) ++ [(k, z)])).getD z = z
    rw [key _ h1]; rfl
theorem Awp.region2_12 {E : Env} {T : Tab} {n : Nat} {st : St} {Q : Exit → St → Prop} (C : Cx E T n) (cq : Oper → Cls) {id : Nat} {a0 a1 a2 a3 a4 a5 a6 a7 a8 a9 a10 a11 : Oper} (hok : okDrawnX #[a0, a1, a2, a3, a4, a5, a6, a7, a8, a9, a10, a11] (clsOf cq) (befs [a0, a1, a2, a3, a4, a5, a6, a7, a8, a9, a10, a11] []) 7 9 = true)
    (hdep : ((List.range 12).all fun i => !(decide (7 < i) && i != 9) || ((befs [a0, a1, a2, a3, a4, a5, a6, a7, a8, a9, a10, a11] []).getD i 0).testBit 7 || ((befs [a0, a1, a2, a3, a4, a5, a6, a7, a8, a9, a10, a11] []).getD i 0).testBit 9) = true)
    (h : rvc E cq n #[a0, a1, a2, a3, a4, a5, a6, a7, a8, a9, a10, a11] [a0, a1, a2, a3, a4, a5, a6] st fun s0 => (rvc E cq n #[a0, a1, a2, a3, a4, a5, a6, a7, a8, a9, a10, a11] [a7, a8, a9, a10, a11] s0 fun st' => Q .normal st') ∧ (rvc E cq n #[a0, a1, a2, a3, a4, a5, a6, a7, a8, a9, a10, a11] [a9, a7, a8, a10, a11] s0 fun st' => Q .normal st')) : Awp E (.region id #[a0, a1, a2, a3, a4, a5, a6, a7, a8, a9, a10, a11] true) st Q :=
  Awp.region2 C cq 7 9 [a0, a1, a2, a3, a4, a5, a6] [a7, a8, a9, a10, a11] [a9, a7, a8, a10, a11] hok rfl rfl hdep rfl rfl rfl h
theorem Awp.region2_11 {E : Env} {T : Tab} {n : Nat} {st : St} {Q : Exit → St → Prop} (C : Cx E T n) (cq : Oper → Cls) {id : Nat} {a0 a1 a2 a3 a4 a5 a6 a7 a8 a9 a10 : Oper} (hok : okDrawnX #[a0, a1, a2, a3, a4, a5, a6, a7, a8, a9, a10] (clsOf cq) (befs [a0, a1, a2, a3, a4, a5, a6, a7, a8, a9, a10] []) 6 8 = true)
    (hdep : ((List.range 11).all fun i => !(decide (6 < i) && i != 8) || ((befs [a0, a1, a2, a3, a4, a5, a6, a7, a8, a9, a10] []).getD i 0).testBit 6 || ((befs [a0, a1, a2, a3, a4, a5, a6, a7, a8, a9, a10] []).getD i 0).testBit 8) = true)
    (h : rvc E cq n #[a0, a1, a2, a3, a4, a5, a6, a7, a8, a9, a10] [a0, a1, a2, a3, a4, a5] st fun s0 => (rvc E cq n #[a0, a1, a2, a3, a4, a5, a6, a7, a8, a9, a10] [a6, a7, a8, a9, a10] s0 fun st' => Q .normal st') ∧ (rvc E cq n #[a0, a1, a2, a3, a4, a5, a6, a7, a8, a9, a10] [a8, a6, a7, a9, a10] s0 fun st' => Q .normal st')) : Awp E (.region id #[a0, a1, a2, a3, a4, a5, a6, a7, a8, a9, a10] true) st Q :=
  Awp.region2 C cq 6 8 [a0, a1, a2, a3, a4, a5] [a6, a7, a8, a9, a10] [a8, a6, a7, a9, a10] hok rfl rfl hdep rfl rfl rfl h
theorem Awp.region2_7 {E : Env} {T : Tab} {n : Nat} {st : St} {Q : Exit → St → Prop} (C : Cx E T n) (cq : Oper → Cls) {id : Nat} {a0 a1 a2 a3 a4 a5 a6 : Oper} (hok : okDrawnX #[a0, a1, a2, a3, a4, a5, a6] (clsOf cq) (befs [a0, a1, a2, a3, a4, a5, a6] []) 2 4 = true)
    (hdep : ((List.range 7).all fun i => !(decide (2 < i) && i != 4) || ((befs [a0, a1, a2, a3, a4, a5, a6] []).getD i 0).testBit 2 || ((befs [a0, a1, a2, a3, a4, a5, a6] []).getD i 0).testBit 4) = true)
    (h : rvc E cq n #[a0, a1, a2, a3, a4, a5, a6] [a0, a1] st fun s0 => (rvc E cq n #[a0, a1, a2, a3, a4, a5, a6] [a2, a3, a4, a5, a6] s0 fun st' => Q .normal st') ∧ (rvc E cq n #[a0, a1, a2, a3, a4, a5, a6] [a4, a2, a3, a5, a6] s0 fun st' => Q .normal st')) : Awp E (.region id #[a0, a1, a2, a3, a4, a5, a6] true) st Q :=
  Awp.region2 C cq 2 4 [a0, a1] [a2, a3, a4, a5, a6] [a4, a2, a3, a5, a6] hok rfl rfl hdep rfl rfl rfl h
end Go.Am
/- A law: once. No conditions. -/
namespace Go.Proofs.Ytpeeofofagfooaa
open Go.Am
structure Sent where
  l : Link
  b : ByteArray
  deriving Inhabited
def kSent : KEnc Sent := ⟨fun x => .agg [.pv (.lit (.int .i64 x.l.from_)), .pv (.lit (.int .i64 x.l.to)), .pv (.lit (.string x.b))], fun a b => (((a.l.from_ == b.l.from_) && ((a.l.to == b.l.to) && true)) && ((a.b.toList == b.b.toList) && true)), fun _ => rfl, fun _ => Nat.le_of_ble_eq_true rfl, fun a b => by simp only [Bool.and_eq_true, beq_iff_eq, strEq, AV.agg.injEq, List.cons.injEq, AV.pv.injEq, PV.lit.injEq, Value.int.injEq, Value.string.injEq, and_true, and_assoc, true_and]⟩
theorem kSent_ok : KeyOk Try.prog 39 kSent := KeyOk.agg tabOk (r := (tab.lookup 39).get rfl) rfl rfl (fun _ _ => rfl) (fun _ => rfl)
def vI64 : VEnc Int := ⟨fun x => .pv (.lit (.int .i64 x)), fun _ _ => rfl⟩
def lawOnce_l0 : List Do → Nat → Net → (List (Sent × Int)) → Bool
  | [], _, _, _ => (awake )
  | x :: xs, i, vc, vc1 => (bif (decide ((IntKind.i64.wrap ((IntKind.u64.wrap x.op).tmod 9)) < 3)) then (bif ((does vc x).2.2.2 == 0) then lawOnce_l0 xs (i + 1) (does vc x).1 (mSet kSent (Sent.mk x.l (strOf x.b.D)) (IntKind.i64.wrap (((mGet kSent (Sent.mk x.l (strOf x.b.D)) vc1).getD 0) + 1)) vc1) else (bif ((IntKind.i64.wrap ((IntKind.u64.wrap x.op).tmod 9)) == 6) then (bif (does vc x).2.2.1 then (bif (decide (((mGet kSent (Sent.mk x.l (strOf (does vc x).2.1.D)) (mSet kSent (Sent.mk x.l (strOf (does vc x).2.1.D)) (IntKind.i64.wrap (((mGet kSent (Sent.mk x.l (strOf (does vc x).2.1.D)) vc1).getD 0) - 1)) vc1)).getD 0) < 0)) then false else lawOnce_l0 xs (i + 1) (does vc x).1 (mSet kSent (Sent.mk x.l (strOf (does vc x).2.1.D)) (IntKind.i64.wrap (((mGet kSent (Sent.mk x.l (strOf (does vc x).2.1.D)) vc1).getD 0) - 1)) vc1)) else lawOnce_l0 xs (i + 1) (does vc x).1 vc1) else (bif (does vc x).2.2.1 then (bif (decide (((mGet kSent (Sent.mk x.l (strOf (does vc x).2.1.D)) (mSet kSent (Sent.mk x.l (strOf (does vc x).2.1.D)) (IntKind.i64.wrap (((mGet kSent (Sent.mk x.l (strOf (does vc x).2.1.D)) vc1).getD 0) - 1)) vc1)).getD 0) < 0)) then false else lawOnce_l0 xs (i + 1) (does vc x).1 (mSet kSent (Sent.mk x.l (strOf (does vc x).2.1.D)) (IntKind.i64.wrap (((mGet kSent (Sent.mk x.l (strOf (does vc x).2.1.D)) vc1).getD 0) - 1)) vc1)) else lawOnce_l0 xs (i + 1) (does vc x).1 vc1))) else (bif ((IntKind.i64.wrap ((IntKind.u64.wrap x.op).tmod 9)) == 6) then (bif ((does vc x).2.2.2 == 0) then lawOnce_l0 xs (i + 1) (does vc x).1 (mSet kSent (Sent.mk x.l (strOf ((nPeek (does vc x).1 x.l x.i).1.D))) (IntKind.i64.wrap (((mGet kSent (Sent.mk x.l (strOf ((nPeek (does vc x).1 x.l x.i).1.D))) vc1).getD 0) + 1)) vc1) else (bif (does vc x).2.2.1 then (bif (decide (((mGet kSent (Sent.mk x.l (strOf (does vc x).2.1.D)) (mSet kSent (Sent.mk x.l (strOf (does vc x).2.1.D)) (IntKind.i64.wrap (((mGet kSent (Sent.mk x.l (strOf (does vc x).2.1.D)) vc1).getD 0) - 1)) vc1)).getD 0) < 0)) then false else lawOnce_l0 xs (i + 1) (does vc x).1 (mSet kSent (Sent.mk x.l (strOf (does vc x).2.1.D)) (IntKind.i64.wrap (((mGet kSent (Sent.mk x.l (strOf (does vc x).2.1.D)) vc1).getD 0) - 1)) vc1)) else lawOnce_l0 xs (i + 1) (does vc x).1 vc1)) else (bif (does vc x).2.2.1 then (bif (decide (((mGet kSent (Sent.mk x.l (strOf (does vc x).2.1.D)) (mSet kSent (Sent.mk x.l (strOf (does vc x).2.1.D)) (IntKind.i64.wrap (((mGet kSent (Sent.mk x.l (strOf (does vc x).2.1.D)) vc1).getD 0) - 1)) vc1)).getD 0) < 0)) then false else lawOnce_l0 xs (i + 1) (does vc x).1 (mSet kSent (Sent.mk x.l (strOf (does vc x).2.1.D)) (IntKind.i64.wrap (((mGet kSent (Sent.mk x.l (strOf (does vc x).2.1.D)) vc1).getD 0) - 1)) vc1)) else lawOnce_l0 xs (i + 1) (does vc x).1 vc1)))
def lawOnce (l : (Sl Do)) : Bool :=
  (bif (!(short (Sl.mk false [l]))) then (awake ) else lawOnce_l0 l.D 0 newN [])
theorem lawOnce_calls (l : (Sl Do)) (hl1 : l.D.length ≤ 9223372036854775807) : PCalls Try.prog 3 [sS (some l.nil) eDo l.D] (.pv (.lit (.bool (lawOnce l)))) := by
 generalize hR : lawOnce l = R
 refine PCalls.of_body tabOk Try.func3 rfl rfl rfl rfl rfl mixed fun E hP C hI => ?_
 refine Awp.consP C ?_
 refine rvP C (.pv (.lit (.bool false))) ?_
 refine rvc_nil ?_
 refine Awp.seq ?_
 refine Awp.consP C ?_
 refine rvP C (sS (some l.nil) eDo l.D) ?_
 refine rvc_un (rexec_buildSliceF C (eSl eDo) [l] rfl rfl rfl rfl rfl rfl rfl (by decide) rfl ?_)
 refine rvc_un (rexec_call hP C rfl rfl rfl (short_calls (Sl.mk false [l]) (by simp)) ?_)
 refine rvP C (.pv (.lit (.bool (!(short (Sl.mk false [l])))))) ?_
 refine rvc_nil ?_
 refine Awp.cond (b := (!(short (Sl.mk false [l])))) rfl (fun h1 => ?_) (fun h1 => ?_)
 ·
  replace hR := of_true h1 hR
  refine Awp.consP C ?_
  refine rvc_un (rexec_call hP C rfl rfl rfl (awake_calls ) ?_)
  refine rvP C (.pv (.lit (.bool (awake )))) ?_
  refine rvc_nil ?_
  refine Awp.ret ?_
  subst hR
  exact ⟨.inl rfl, rfl⟩
 ·
  replace hR := of_false h1 hR
  refine Awp.skip ?_
  refine Awp.cons C (fun _ => .quiet) (by kernel_rfl) ?_
  refine rvc_un (rexec_callNew hP C 519 rfl rfl rfl rfl rfl rfl newN_calls ?_)
  refine rvP C (.ptr 19 0) ?_
  refine rvc_nil ?_
  refine Awp.consP C ?_
  refine rvc_un (rexec_makeMap C rfl rfl kSent vI64 ?_)
  refine rvP C (.mp 20) ?_
  refine rvc_nil ?_
  refine Awp.seq ?_
  refine Awp.consP C ?_
  refine rvP C (sS (some l.nil) eDo l.D) ?_
  refine rvP C (.pv (.lit (.int .i64 (l.D.length : Int)))) ?_
  refine rvP C (.pv (.lit (.int .i64 0))) ?_
  refine rvc_nil ?_
  refine Awp.block ?_
  refine Awp.forR (σ := Net × ((List (Sent × Int)))) (l.D.length) (fun i v => [(3, .ptr 19 0), (4, .mp 20), (21, sS (some l.nil) eDo l.D), (22, .pv (.lit (.int .i64 (l.D.length : Int)))), (23, .pv (.lit (.int .i64 (i : Int))))]) (fun i v => [(519, mapE kLink vT77.enc v.1.of_), (19, .cells [.mp 519, .pv (.lit (.int .u64 v.1.side)), .pv (.lit (.int .i64 v.1.lost)), .pv (.lit (.bool v.1.made))]), (20, mapE kSent vI64.enc v.2)]) [19, 20, 519] (fun i v => (lawOnce_l0 (l.D.drop i) i v.1 v.2 = R) ∧ (okN v.1)) (newN, []) ?_ ?_ (fun i v h2 hR => ?_)
  · exact ⟨hR, newN_ok⟩
  · exact ⟨fun b => b, WeakerR.ofL (Ks := [19, 20, 519]) hI ⟨⟨rfl, rfl⟩, ⟨rfl, rfl⟩, ⟨rfl, rfl⟩, ⟨rfl, rfl⟩, ⟨rfl, rfl⟩, trivial⟩ (okH_map rfl rfl rfl (okH_cons rfl rfl rfl rfl (okH_map rfl rfl rfl (okH_nil)))) rfl⟩
  obtain ⟨vc, vc1⟩ := v
  obtain ⟨hR, hVo⟩ := hR
  refine Awp.consP C ?_
  refine rvP C (.pv (.lit (.bool (decide ((i : Int) < (l.D.length : Int)))))) ?_
  refine rvc_nil ?_
  refine Awp.seq ?_
  refine Awp.cond (b := (decide ((i : Int) < (l.D.length : Int)))) rfl (fun h3 => ?_) (fun h3 => ?_)
  ·
   have h4 : i < l.D.length := by have := of_decide_eq_true h3; omega
   obtain ⟨x, h5⟩ := getX h4
   rw [drop_at h5] at hR
   refine Awp.skip ?_
   refine Awp.seq ?_
   refine Awp.block ?_
   refine Awp.consP C ?_
   refine rvc_un (rexec_idxS C rfl rfl rfl rfl rfl rfl x (Int.natCast_nonneg _) h5 ?_)
   refine rvP C (.agg [.pv (.lit (.int .i64 x.op)), .pv (.lit (.int .i64 x.i)), .pv (.lit (.int .i64 x.l.from_)), .pv (.lit (.int .i64 x.l.to)), sS (some x.b.nil) (eI .u8) x.b.D, .pv (.lit (.int .u64 x.side))]) ?_
   refine rvc_un (rexec_prim C (δ := { v := .ptr 6 0, new := [(6, .cells [.pv (.lit (.int .i64 0)), .pv (.lit (.int .i64 0)), .pv (.lit (.int .i64 0)), .pv (.lit (.int .i64 0)), sS (some true) (eI .u8) [], .pv (.lit (.int .u64 0))])] }) rfl rfl rfl rfl trivial rfl ?_)
   refine rvc_un (rexec_prim C (δ := { v := .undef, wr := [(6, some (.cells [.pv (.lit (.int .i64 x.op)), .pv (.lit (.int .i64 x.i)), .pv (.lit (.int .i64 x.l.from_)), .pv (.lit (.int .i64 x.l.to)), sS (some x.b.nil) (eI .u8) x.b.D, .pv (.lit (.int .u64 x.side))]))] }) rfl rfl rfl rfl trivial rfl ?_)
   refine rvc_nil ?_
   refine Awp.cons C (fun _ => .writer) (by kernel_rfl) ?_
   refine rvP C (.ptr 19 0) ?_
   refine rvP C (.agg [.pv (.lit (.int .i64 x.op)), .pv (.lit (.int .i64 x.i)), .pv (.lit (.int .i64 x.l.from_)), .pv (.lit (.int .i64 x.l.to)), sS (some x.b.nil) (eI .u8) x.b.D, .pv (.lit (.int .u64 x.side))]) ?_
   obtain ⟨dn, hq_dn⟩ : ∃ q_, q_ = (does vc x) := ⟨_, rfl⟩
   have hc_dn := (does_calls vc x hVo (Nat.le_trans ((short_ok ‹(!(short (Sl.mk false [l]))) = false› l (by simp)).2 x (List.mem_of_getElem? (by assumption))) (by decide)))
   first | rw [← hq_dn] at hR hc_dn | (unfold lawOnce at hR; rw [← hq_dn] at hR hc_dn) | (unfold lawOnce_l0 at hR; rw [← hq_dn] at hR hc_dn)
   have hf0_dn := does_ok (n := vc) hVo x
   rw [← hq_dn] at hf0_dn
   refine rvc_un (rexec_callObj hP C (fun b => bif b == 0 then 19 else bif b == 1 then 519 else b) [] rfl rfl rfl hc_dn rfl rfl ⟨rfl, trivial⟩ (of_decide_eq_true rfl) rfl (of_decide_eq_true rfl) (of_decide_eq_true rfl) allB_nil allB_nil (allB_cons rfl allB_nil) ?_ rfl (allB_cons rfl allB_nil))
   refine rvP C (.tup [sS (some dn.2.1.nil) (eI .u8) dn.2.1.D, .pv (.lit (.bool dn.2.2.1)), .pv (.lit (.int .i64 dn.2.2.2))]) ?_
   refine rvP C (sS (some dn.2.1.nil) (eI .u8) dn.2.1.D) ?_
   refine rvP C (.pv (.lit (.bool dn.2.2.1))) ?_
   refine rvP C (.pv (.lit (.int .i64 dn.2.2.2))) ?_
   refine rvP C (sS (some dn.2.1.nil) (eI .u8) dn.2.1.D) ?_
   refine rvP C (.pv (.lit (.bool dn.2.2.1))) ?_
   refine rvP C (.pv (.lit (.int .i64 dn.2.2.2))) ?_
   refine rvc_nil ?_
   refine Awp.consP C ?_
   refine rvP C (.ptr 6 0) ?_
   refine rvP C (.pv (.lit (.int .i64 x.op))) ?_
   refine rvP C (.pv (.lit (.int .u64 (IntKind.u64.wrap x.op)))) ?_
   refine rvc_un (rexec_prim C (δ := { v := .pv (.lit (.int .u64 ((IntKind.u64.wrap x.op).tmod 9))) }) rfl rfl rfl rfl (by first | decide | omega) rfl ?_)
   refine rvP C (.pv (.lit (.int .i64 (IntKind.i64.wrap ((IntKind.u64.wrap x.op).tmod 9))))) ?_
   refine rvP C (.pv (.lit (.int .i64 (IntKind.i64.wrap ((IntKind.u64.wrap x.op).tmod 9))))) ?_
   refine rvc_nil ?_
   refine Awp.block ?_
   refine Awp.consP C ?_
   refine rvP C (.pv (.lit (.int .i64 (IntKind.i64.wrap ((IntKind.u64.wrap x.op).tmod 9))))) ?_
   refine rvP C (.pv (.lit (.bool (decide ((IntKind.i64.wrap ((IntKind.u64.wrap x.op).tmod 9)) < 3))))) ?_
   refine rvP C (.pv (.lit (.bool (decide ((IntKind.i64.wrap ((IntKind.u64.wrap x.op).tmod 9)) < 3))))) ?_
   refine rvc_case 42 (decide ((IntKind.i64.wrap ((IntKind.u64.wrap x.op).tmod 9)) < 3)) rfl (fun h6 => ?_) (fun h6 => ?_)
   ·
    replace hR := of_true h6 hR
    refine rvO C (.pv (.lit (.int .i64 dn.2.2.2))) ?_
    refine rvO C (.pv (.lit (.bool (dn.2.2.2 == 0)))) ?_
    refine rvP C (.pv (.lit (.bool (dn.2.2.2 == 0)))) ?_
    refine rvP C (.pv (.lit (.bool (dn.2.2.2 == 0)))) ?_
    refine rvc_nil ?_
    refine Awp.cond (b := (dn.2.2.2 == 0)) rfl (fun h7 => ?_) (fun h7 => ?_)
    ·
     replace hR := of_true h7 hR
     refine Awp.openMap (KE := kSent) (VE := vI64) (b := 20) (D := vc1) rfl (fun X_ q_ hp_ ho_ hn_ hl_ => ?_)
     refine Awp.region2_12 C (fun o => match o.dst with | some 48 => .reads [6] | some 50 => .reads [6] | some 53 => .reads [20] | none => .writer | _ => .pure) (by kernel_rfl) (by kernel_rfl) ?_
     refine rvP C (.mp 20) ?_
     refine rvP C (.ptr 6 2) ?_
     refine rvP C (.agg [.pv (.lit (.int .i64 x.l.from_)), .pv (.lit (.int .i64 x.l.to))]) ?_
     refine rvP C (.ptr 6 4) ?_
     refine rvP C (sS (some x.b.nil) (eI .u8) x.b.D) ?_
     refine rvc_un (rexec_convS C rfl rfl rfl rfl rfl rfl rfl rfl ?_)
     refine rvP C (.agg [.pv (.lit (.int .i64 x.l.from_)), .pv (.lit (.int .i64 x.l.to)), .pv (.lit (.string (strOf x.b.D)))]) ?_
     refine rvc_nil ?_
     refine ⟨?_, ?_⟩
     ·
      refine rvc_un (rexec_lookupX hP C rfl (Sent.mk x.l (strOf x.b.D)) 0 rfl rfl rfl rfl rfl rfl kSent_ok rfl ((mGet kSent (Sent.mk x.l (strOf x.b.D)) vc1).getD 0) (by rw [mGet_perm hp_ (ho_.perm hp_.symm)]) ?_)
      refine rvP C (.pv (.lit (.int .i64 (IntKind.i64.wrap (((mGet kSent (Sent.mk x.l (strOf x.b.D)) vc1).getD 0) + 1))))) ?_
      refine rvc_un (rexec_mapEntryX hP C rfl (Sent.mk x.l (strOf x.b.D)) 0 rfl rfl rfl rfl rfl rfl kSent_ok rfl ?_)
      refine rvP C (.pv (.lit (.int .i64 ((xEntN kSent (Sent.mk x.l (strOf x.b.D)) X_ q_ : Nat) : Int)))) ?_
      refine rvc_un (rexec_entryStoreX C (IntKind.i64.wrap (((mGet kSent (Sent.mk x.l (strOf x.b.D)) vc1).getD 0) + 1)) xEnt_there rfl rfl rfl rfl ?_)
      refine rvc_nil ?_
      refine Awp.closeMap (KE := kSent) (VE := vI64) (b := 20) (X := (xPut (xEntN kSent (Sent.mk x.l (strOf x.b.D)) X_ q_) (IntKind.i64.wrap (((mGet kSent (Sent.mk x.l (strOf x.b.D)) vc1).getD 0) + 1)) (xEntX kSent (Sent.mk x.l (strOf x.b.D)) 0 X_ q_))) rfl (mSet kSent (Sent.mk x.l (strOf x.b.D)) (IntKind.i64.wrap (((mGet kSent (Sent.mk x.l (strOf x.b.D)) vc1).getD 0) + 1)) vc1) (by rw [xEnt_set hn_ hl_]; exact mSet_perm hp_ (ho_.perm hp_.symm)) ?_
      refine Awp.regionP C ?_
      refine rvP C (.pv (.lit (.int .i64 (IntKind.i64.wrap ((i : Int) + 1))))) ?_
      refine rvP C (.pv (.lit (.int .i64 (IntKind.i64.wrap ((i : Int) + 1))))) ?_
      refine rvc_nil ?_
      refine ⟨h4, (dn.1, (mSet kSent (Sent.mk x.l (strOf x.b.D)) (IntKind.i64.wrap (((mGet kSent (Sent.mk x.l (strOf x.b.D)) vc1).getD 0) + 1)) vc1)), ?_, ?_⟩
      · exact ⟨hR, hf0_dn⟩
      · exact ⟨fun b => b, WeakerR.ofL (Ks := [19, 20, 519]) hI ⟨⟨rfl, rfl⟩, ⟨rfl, rfl⟩, ⟨rfl, rfl⟩, ⟨rfl, rfl⟩, ⟨lit_cast (wrap_i64 (by omega) (by omega)), rfl⟩, trivial⟩ (okH_map rfl rfl rfl (okH_cons rfl rfl rfl rfl (okH_map rfl rfl rfl (okH_nil)))) rfl⟩
     ·
      refine rvc_un (rexec_mapEntryX hP C rfl (Sent.mk x.l (strOf x.b.D)) 0 rfl rfl rfl rfl rfl rfl kSent_ok rfl ?_)
      refine rvc_un (rexec_lookupX hP C rfl (Sent.mk x.l (strOf x.b.D)) 0 rfl rfl rfl rfl rfl rfl kSent_ok rfl ((mGet kSent (Sent.mk x.l (strOf x.b.D)) vc1).getD 0) (by rw [xEnt_look]; rw [mGet_perm hp_ (ho_.perm hp_.symm)]) ?_)
      refine rvP C (.pv (.lit (.int .i64 (IntKind.i64.wrap (((mGet kSent (Sent.mk x.l (strOf x.b.D)) vc1).getD 0) + 1))))) ?_
      refine rvP C (.pv (.lit (.int .i64 ((xEntN kSent (Sent.mk x.l (strOf x.b.D)) X_ q_ : Nat) : Int)))) ?_
      refine rvc_un (rexec_entryStoreX C (IntKind.i64.wrap (((mGet kSent (Sent.mk x.l (strOf x.b.D)) vc1).getD 0) + 1)) xEnt_there rfl rfl rfl rfl ?_)
      refine rvc_nil ?_
      refine Awp.closeMap (KE := kSent) (VE := vI64) (b := 20) (X := (xPut (xEntN kSent (Sent.mk x.l (strOf x.b.D)) X_ q_) (IntKind.i64.wrap (((mGet kSent (Sent.mk x.l (strOf x.b.D)) vc1).getD 0) + 1)) (xEntX kSent (Sent.mk x.l (strOf x.b.D)) 0 X_ q_))) rfl (mSet kSent (Sent.mk x.l (strOf x.b.D)) (IntKind.i64.wrap (((mGet kSent (Sent.mk x.l (strOf x.b.D)) vc1).getD 0) + 1)) vc1) (by rw [xEnt_set hn_ hl_]; exact mSet_perm hp_ (ho_.perm hp_.symm)) ?_
      refine Awp.regionP C ?_
      refine rvP C (.pv (.lit (.int .i64 (IntKind.i64.wrap ((i : Int) + 1))))) ?_
      refine rvP C (.pv (.lit (.int .i64 (IntKind.i64.wrap ((i : Int) + 1))))) ?_
      refine rvc_nil ?_
      refine ⟨h4, (dn.1, (mSet kSent (Sent.mk x.l (strOf x.b.D)) (IntKind.i64.wrap (((mGet kSent (Sent.mk x.l (strOf x.b.D)) vc1).getD 0) + 1)) vc1)), ?_, ?_⟩
      · exact ⟨hR, hf0_dn⟩
      · exact ⟨fun b => b, WeakerR.ofL (Ks := [19, 20, 519]) hI ⟨⟨rfl, rfl⟩, ⟨rfl, rfl⟩, ⟨rfl, rfl⟩, ⟨rfl, rfl⟩, ⟨lit_cast (wrap_i64 (by omega) (by omega)), rfl⟩, trivial⟩ (okH_map rfl rfl rfl (okH_cons rfl rfl rfl rfl (okH_map rfl rfl rfl (okH_nil)))) rfl⟩
    ·
     replace hR := of_false h7 hR
     refine Awp.consP C ?_
     refine rvP C (.pv (.lit (.int .i64 (IntKind.i64.wrap ((IntKind.u64.wrap x.op).tmod 9))))) ?_
     refine rvP C (.pv (.lit (.bool ((IntKind.i64.wrap ((IntKind.u64.wrap x.op).tmod 9)) == 6)))) ?_
     refine rvP C (.pv (.lit (.bool ((IntKind.i64.wrap ((IntKind.u64.wrap x.op).tmod 9)) == 6)))) ?_
     refine rvc_case 60 ((IntKind.i64.wrap ((IntKind.u64.wrap x.op).tmod 9)) == 6) rfl (fun h8 => ?_) (fun h8 => ?_)
     ·
      replace hR := of_true h8 hR
      refine rvO C (.pv (.lit (.int .i64 dn.2.2.2))) ?_
      refine rvO C (.pv (.lit (.bool (dn.2.2.2 == 0)))) ?_
      refine rvP C (.pv (.lit (.bool (dn.2.2.2 == 0)))) ?_
      refine rvP C (.pv (.lit (.bool (dn.2.2.2 == 0)))) ?_
      refine rvc_nil ?_
      refine Awp.condF (b := (dn.2.2.2 == 0)) rfl h7 ?_
      refine Awp.consP C ?_
      refine rvP C (.pv (.lit (.bool dn.2.2.1))) ?_
      refine rvP C (.pv (.lit (.bool dn.2.2.1))) ?_
      refine rvc_nil ?_
      refine Awp.cond (b := dn.2.2.1) rfl (fun h9 => ?_) (fun h9 => ?_)
      ·
       replace hR := of_true h9 hR
       refine Awp.consP C ?_
       refine rvP C (.ptr 6 2) ?_
       refine rvP C (.agg [.pv (.lit (.int .i64 x.l.from_)), .pv (.lit (.int .i64 x.l.to))]) ?_
       refine rvP C (sS (some dn.2.1.nil) (eI .u8) dn.2.1.D) ?_
       refine rvc_un (rexec_convS C rfl rfl rfl rfl rfl rfl rfl rfl ?_)
       refine rvP C (.agg [.pv (.lit (.int .i64 x.l.from_)), .pv (.lit (.int .i64 x.l.to)), .pv (.lit (.string (strOf dn.2.1.D)))]) ?_
       refine rvc_un (rexec_prim C (δ := { v := .ptr 13 0, new := [(13, .cells [.pv (.lit (.int .i64 0)), .pv (.lit (.int .i64 0)), .pv (.lit (.string ⟨#[]⟩))])] }) rfl rfl rfl rfl trivial rfl ?_)
       refine rvc_un (rexec_prim C (δ := { v := .undef, wr := [(13, some (.cells [.pv (.lit (.int .i64 x.l.from_)), .pv (.lit (.int .i64 x.l.to)), .pv (.lit (.string (strOf dn.2.1.D)))]))] }) rfl rfl rfl rfl trivial rfl ?_)
       refine rvc_nil ?_
       refine Awp.openMap (KE := kSent) (VE := vI64) (b := 20) (D := vc1) rfl (fun X_1 q_1 hp_1 ho_1 hn_1 hl_1 => ?_)
       refine Awp.seq ?_
       refine Awp.region2_7 C (fun o => match o.dst with | some 91 => .reads [13] | some 92 => .reads [20] | none => .writer | _ => .pure) (by kernel_rfl) (by kernel_rfl) ?_
       refine rvP C (.mp 20) ?_
       refine rvP C (.agg [.pv (.lit (.int .i64 x.l.from_)), .pv (.lit (.int .i64 x.l.to)), .pv (.lit (.string (strOf dn.2.1.D)))]) ?_
       refine rvc_nil ?_
       refine ⟨?_, ?_⟩
       ·
        refine rvc_un (rexec_lookupX hP C rfl (Sent.mk x.l (strOf dn.2.1.D)) 0 rfl rfl rfl rfl rfl rfl kSent_ok rfl ((mGet kSent (Sent.mk x.l (strOf dn.2.1.D)) vc1).getD 0) (by rw [mGet_perm hp_1 (ho_1.perm hp_1.symm)]) ?_)
        refine rvP C (.pv (.lit (.int .i64 (IntKind.i64.wrap (((mGet kSent (Sent.mk x.l (strOf dn.2.1.D)) vc1).getD 0) - 1))))) ?_
        refine rvc_un (rexec_mapEntryX hP C rfl (Sent.mk x.l (strOf dn.2.1.D)) 0 rfl rfl rfl rfl rfl rfl kSent_ok rfl ?_)
        refine rvP C (.pv (.lit (.int .i64 ((xEntN kSent (Sent.mk x.l (strOf dn.2.1.D)) X_1 q_1 : Nat) : Int)))) ?_
        refine rvc_un (rexec_entryStoreX C (IntKind.i64.wrap (((mGet kSent (Sent.mk x.l (strOf dn.2.1.D)) vc1).getD 0) - 1)) xEnt_there rfl rfl rfl rfl ?_)
        refine rvc_nil ?_
        refine Awp.closeMap (KE := kSent) (VE := vI64) (b := 20) (X := (xPut (xEntN kSent (Sent.mk x.l (strOf dn.2.1.D)) X_1 q_1) (IntKind.i64.wrap (((mGet kSent (Sent.mk x.l (strOf dn.2.1.D)) vc1).getD 0) - 1)) (xEntX kSent (Sent.mk x.l (strOf dn.2.1.D)) 0 X_1 q_1))) rfl (mSet kSent (Sent.mk x.l (strOf dn.2.1.D)) (IntKind.i64.wrap (((mGet kSent (Sent.mk x.l (strOf dn.2.1.D)) vc1).getD 0) - 1)) vc1) (by rw [xEnt_set hn_1 hl_1]; exact mSet_perm hp_1 (ho_1.perm hp_1.symm)) ?_
        refine Awp.consP C ?_
        refine rvP C (.mp 20) ?_
        refine rvP C (.agg [.pv (.lit (.int .i64 x.l.from_)), .pv (.lit (.int .i64 x.l.to)), .pv (.lit (.string (strOf dn.2.1.D)))]) ?_
        refine rvc_un (rexec_lookup hP C rfl (Sent.mk x.l (strOf dn.2.1.D)) 0 rfl rfl rfl rfl rfl rfl kSent_ok rfl (.pv (.lit (.int .i64 ((mGet kSent (Sent.mk x.l (strOf dn.2.1.D)) (mSet kSent (Sent.mk x.l (strOf dn.2.1.D)) (IntKind.i64.wrap (((mGet kSent (Sent.mk x.l (strOf dn.2.1.D)) vc1).getD 0) - 1)) vc1)).getD 0)))) rfl ?_)
        refine rvP C (.pv (.lit (.bool (decide (((mGet kSent (Sent.mk x.l (strOf dn.2.1.D)) (mSet kSent (Sent.mk x.l (strOf dn.2.1.D)) (IntKind.i64.wrap (((mGet kSent (Sent.mk x.l (strOf dn.2.1.D)) vc1).getD 0) - 1)) vc1)).getD 0) < 0))))) ?_
        refine rvc_nil ?_
        refine Awp.cond (b := (decide (((mGet kSent (Sent.mk x.l (strOf dn.2.1.D)) (mSet kSent (Sent.mk x.l (strOf dn.2.1.D)) (IntKind.i64.wrap (((mGet kSent (Sent.mk x.l (strOf dn.2.1.D)) vc1).getD 0) - 1)) vc1)).getD 0) < 0))) rfl (fun h10 => ?_) (fun h10 => ?_)
        ·
         replace hR := of_true h10 hR
         refine Awp.consP C ?_
         refine rvP C (.pv (.lit (.bool false))) ?_
         refine rvc_nil ?_
         refine Awp.ret ?_
         subst hR
         exact ⟨.inl rfl, rfl⟩
        ·
         replace hR := of_false h10 hR
         refine Awp.skip ?_
         refine Awp.regionP C ?_
         refine rvP C (.pv (.lit (.int .i64 (IntKind.i64.wrap ((i : Int) + 1))))) ?_
         refine rvP C (.pv (.lit (.int .i64 (IntKind.i64.wrap ((i : Int) + 1))))) ?_
         refine rvc_nil ?_
         refine ⟨h4, (dn.1, (mSet kSent (Sent.mk x.l (strOf dn.2.1.D)) (IntKind.i64.wrap (((mGet kSent (Sent.mk x.l (strOf dn.2.1.D)) vc1).getD 0) - 1)) vc1)), ?_, ?_⟩
         · exact ⟨hR, hf0_dn⟩
         · exact ⟨fun b => b, WeakerR.ofL (Ks := [19, 20, 519]) hI ⟨⟨rfl, rfl⟩, ⟨rfl, rfl⟩, ⟨rfl, rfl⟩, ⟨rfl, rfl⟩, ⟨lit_cast (wrap_i64 (by omega) (by omega)), rfl⟩, trivial⟩ (okH_map rfl rfl rfl (okH_cons rfl rfl rfl rfl (okH_map rfl rfl rfl (okH_nil)))) rfl⟩
       ·
        refine rvc_un (rexec_mapEntryX hP C rfl (Sent.mk x.l (strOf dn.2.1.D)) 0 rfl rfl rfl rfl rfl rfl kSent_ok rfl ?_)
        refine rvc_un (rexec_lookupX hP C rfl (Sent.mk x.l (strOf dn.2.1.D)) 0 rfl rfl rfl rfl rfl rfl kSent_ok rfl ((mGet kSent (Sent.mk x.l (strOf dn.2.1.D)) vc1).getD 0) (by rw [xEnt_look]; rw [mGet_perm hp_1 (ho_1.perm hp_1.symm)]) ?_)
        refine rvP C (.pv (.lit (.int .i64 (IntKind.i64.wrap (((mGet kSent (Sent.mk x.l (strOf dn.2.1.D)) vc1).getD 0) - 1))))) ?_
        refine rvP C (.pv (.lit (.int .i64 ((xEntN kSent (Sent.mk x.l (strOf dn.2.1.D)) X_1 q_1 : Nat) : Int)))) ?_
        refine rvc_un (rexec_entryStoreX C (IntKind.i64.wrap (((mGet kSent (Sent.mk x.l (strOf dn.2.1.D)) vc1).getD 0) - 1)) xEnt_there rfl rfl rfl rfl ?_)
        refine rvc_nil ?_
        refine Awp.closeMap (KE := kSent) (VE := vI64) (b := 20) (X := (xPut (xEntN kSent (Sent.mk x.l (strOf dn.2.1.D)) X_1 q_1) (IntKind.i64.wrap (((mGet kSent (Sent.mk x.l (strOf dn.2.1.D)) vc1).getD 0) - 1)) (xEntX kSent (Sent.mk x.l (strOf dn.2.1.D)) 0 X_1 q_1))) rfl (mSet kSent (Sent.mk x.l (strOf dn.2.1.D)) (IntKind.i64.wrap (((mGet kSent (Sent.mk x.l (strOf dn.2.1.D)) vc1).getD 0) - 1)) vc1) (by rw [xEnt_set hn_1 hl_1]; exact mSet_perm hp_1 (ho_1.perm hp_1.symm)) ?_
        refine Awp.consP C ?_
        refine rvP C (.mp 20) ?_
        refine rvP C (.agg [.pv (.lit (.int .i64 x.l.from_)), .pv (.lit (.int .i64 x.l.to)), .pv (.lit (.string (strOf dn.2.1.D)))]) ?_
        refine rvc_un (rexec_lookup hP C rfl (Sent.mk x.l (strOf dn.2.1.D)) 0 rfl rfl rfl rfl rfl rfl kSent_ok rfl (.pv (.lit (.int .i64 ((mGet kSent (Sent.mk x.l (strOf dn.2.1.D)) (mSet kSent (Sent.mk x.l (strOf dn.2.1.D)) (IntKind.i64.wrap (((mGet kSent (Sent.mk x.l (strOf dn.2.1.D)) vc1).getD 0) - 1)) vc1)).getD 0)))) rfl ?_)
        refine rvP C (.pv (.lit (.bool (decide (((mGet kSent (Sent.mk x.l (strOf dn.2.1.D)) (mSet kSent (Sent.mk x.l (strOf dn.2.1.D)) (IntKind.i64.wrap (((mGet kSent (Sent.mk x.l (strOf dn.2.1.D)) vc1).getD 0) - 1)) vc1)).getD 0) < 0))))) ?_
        refine rvc_nil ?_
        refine Awp.cond (b := (decide (((mGet kSent (Sent.mk x.l (strOf dn.2.1.D)) (mSet kSent (Sent.mk x.l (strOf dn.2.1.D)) (IntKind.i64.wrap (((mGet kSent (Sent.mk x.l (strOf dn.2.1.D)) vc1).getD 0) - 1)) vc1)).getD 0) < 0))) rfl (fun h11 => ?_) (fun h11 => ?_)
        ·
         replace hR := of_true h11 hR
         refine Awp.consP C ?_
         refine rvP C (.pv (.lit (.bool false))) ?_
         refine rvc_nil ?_
         refine Awp.ret ?_
         subst hR
         exact ⟨.inl rfl, rfl⟩
        ·
         replace hR := of_false h11 hR
         refine Awp.skip ?_
         refine Awp.regionP C ?_
         refine rvP C (.pv (.lit (.int .i64 (IntKind.i64.wrap ((i : Int) + 1))))) ?_
         refine rvP C (.pv (.lit (.int .i64 (IntKind.i64.wrap ((i : Int) + 1))))) ?_
         refine rvc_nil ?_
         refine ⟨h4, (dn.1, (mSet kSent (Sent.mk x.l (strOf dn.2.1.D)) (IntKind.i64.wrap (((mGet kSent (Sent.mk x.l (strOf dn.2.1.D)) vc1).getD 0) - 1)) vc1)), ?_, ?_⟩
         · exact ⟨hR, hf0_dn⟩
         · exact ⟨fun b => b, WeakerR.ofL (Ks := [19, 20, 519]) hI ⟨⟨rfl, rfl⟩, ⟨rfl, rfl⟩, ⟨rfl, rfl⟩, ⟨rfl, rfl⟩, ⟨lit_cast (wrap_i64 (by omega) (by omega)), rfl⟩, trivial⟩ (okH_map rfl rfl rfl (okH_cons rfl rfl rfl rfl (okH_map rfl rfl rfl (okH_nil)))) rfl⟩
      ·
       replace hR := of_false h9 hR
       refine Awp.skip ?_
       refine Awp.regionP C ?_
       refine rvP C (.pv (.lit (.int .i64 (IntKind.i64.wrap ((i : Int) + 1))))) ?_
       refine rvP C (.pv (.lit (.int .i64 (IntKind.i64.wrap ((i : Int) + 1))))) ?_
       refine rvc_nil ?_
       refine ⟨h4, (dn.1, vc1), ?_, ?_⟩
       · exact ⟨hR, hf0_dn⟩
       · exact ⟨fun b => b, WeakerR.ofL (Ks := [19, 20, 519]) hI ⟨⟨rfl, rfl⟩, ⟨rfl, rfl⟩, ⟨rfl, rfl⟩, ⟨rfl, rfl⟩, ⟨lit_cast (wrap_i64 (by omega) (by omega)), rfl⟩, trivial⟩ (okH_map rfl rfl rfl (okH_cons rfl rfl rfl rfl (okH_map rfl rfl rfl (okH_nil)))) rfl⟩
     ·
      replace hR := of_false h8 hR
      refine rvS ?_
      refine rvS ?_
      refine rvP C (.pv (.lit (.bool false))) ?_
      refine rvP C (.pv (.lit (.bool false))) ?_
      refine rvc_nil ?_
      refine Awp.condF (b := false) rfl rfl ?_
      refine Awp.consP C ?_
      refine rvP C (.pv (.lit (.bool dn.2.2.1))) ?_
      refine rvP C (.pv (.lit (.bool dn.2.2.1))) ?_
      refine rvc_nil ?_
      refine Awp.cond (b := dn.2.2.1) rfl (fun h12 => ?_) (fun h12 => ?_)
      ·
       replace hR := of_true h12 hR
       refine Awp.consP C ?_
       refine rvP C (.ptr 6 2) ?_
       refine rvP C (.agg [.pv (.lit (.int .i64 x.l.from_)), .pv (.lit (.int .i64 x.l.to))]) ?_
       refine rvP C (sS (some dn.2.1.nil) (eI .u8) dn.2.1.D) ?_
       refine rvc_un (rexec_convS C rfl rfl rfl rfl rfl rfl rfl rfl ?_)
       refine rvP C (.agg [.pv (.lit (.int .i64 x.l.from_)), .pv (.lit (.int .i64 x.l.to)), .pv (.lit (.string (strOf dn.2.1.D)))]) ?_
       refine rvc_un (rexec_prim C (δ := { v := .ptr 13 0, new := [(13, .cells [.pv (.lit (.int .i64 0)), .pv (.lit (.int .i64 0)), .pv (.lit (.string ⟨#[]⟩))])] }) rfl rfl rfl rfl trivial rfl ?_)
       refine rvc_un (rexec_prim C (δ := { v := .undef, wr := [(13, some (.cells [.pv (.lit (.int .i64 x.l.from_)), .pv (.lit (.int .i64 x.l.to)), .pv (.lit (.string (strOf dn.2.1.D)))]))] }) rfl rfl rfl rfl trivial rfl ?_)
       refine rvc_nil ?_
       refine Awp.openMap (KE := kSent) (VE := vI64) (b := 20) (D := vc1) rfl (fun X_2 q_2 hp_2 ho_2 hn_2 hl_2 => ?_)
       refine Awp.seq ?_
       refine Awp.region2_7 C (fun o => match o.dst with | some 91 => .reads [13] | some 92 => .reads [20] | none => .writer | _ => .pure) (by kernel_rfl) (by kernel_rfl) ?_
       refine rvP C (.mp 20) ?_
       refine rvP C (.agg [.pv (.lit (.int .i64 x.l.from_)), .pv (.lit (.int .i64 x.l.to)), .pv (.lit (.string (strOf dn.2.1.D)))]) ?_
       refine rvc_nil ?_
       refine ⟨?_, ?_⟩
       ·
        refine rvc_un (rexec_lookupX hP C rfl (Sent.mk x.l (strOf dn.2.1.D)) 0 rfl rfl rfl rfl rfl rfl kSent_ok rfl ((mGet kSent (Sent.mk x.l (strOf dn.2.1.D)) vc1).getD 0) (by rw [mGet_perm hp_2 (ho_2.perm hp_2.symm)]) ?_)
        refine rvP C (.pv (.lit (.int .i64 (IntKind.i64.wrap (((mGet kSent (Sent.mk x.l (strOf dn.2.1.D)) vc1).getD 0) - 1))))) ?_
        refine rvc_un (rexec_mapEntryX hP C rfl (Sent.mk x.l (strOf dn.2.1.D)) 0 rfl rfl rfl rfl rfl rfl kSent_ok rfl ?_)
        refine rvP C (.pv (.lit (.int .i64 ((xEntN kSent (Sent.mk x.l (strOf dn.2.1.D)) X_2 q_2 : Nat) : Int)))) ?_
        refine rvc_un (rexec_entryStoreX C (IntKind.i64.wrap (((mGet kSent (Sent.mk x.l (strOf dn.2.1.D)) vc1).getD 0) - 1)) xEnt_there rfl rfl rfl rfl ?_)
        refine rvc_nil ?_
        refine Awp.closeMap (KE := kSent) (VE := vI64) (b := 20) (X := (xPut (xEntN kSent (Sent.mk x.l (strOf dn.2.1.D)) X_2 q_2) (IntKind.i64.wrap (((mGet kSent (Sent.mk x.l (strOf dn.2.1.D)) vc1).getD 0) - 1)) (xEntX kSent (Sent.mk x.l (strOf dn.2.1.D)) 0 X_2 q_2))) rfl (mSet kSent (Sent.mk x.l (strOf dn.2.1.D)) (IntKind.i64.wrap (((mGet kSent (Sent.mk x.l (strOf dn.2.1.D)) vc1).getD 0) - 1)) vc1) (by rw [xEnt_set hn_2 hl_2]; exact mSet_perm hp_2 (ho_2.perm hp_2.symm)) ?_
        refine Awp.consP C ?_
        refine rvP C (.mp 20) ?_
        refine rvP C (.agg [.pv (.lit (.int .i64 x.l.from_)), .pv (.lit (.int .i64 x.l.to)), .pv (.lit (.string (strOf dn.2.1.D)))]) ?_
        refine rvc_un (rexec_lookup hP C rfl (Sent.mk x.l (strOf dn.2.1.D)) 0 rfl rfl rfl rfl rfl rfl kSent_ok rfl (.pv (.lit (.int .i64 ((mGet kSent (Sent.mk x.l (strOf dn.2.1.D)) (mSet kSent (Sent.mk x.l (strOf dn.2.1.D)) (IntKind.i64.wrap (((mGet kSent (Sent.mk x.l (strOf dn.2.1.D)) vc1).getD 0) - 1)) vc1)).getD 0)))) rfl ?_)
        refine rvP C (.pv (.lit (.bool (decide (((mGet kSent (Sent.mk x.l (strOf dn.2.1.D)) (mSet kSent (Sent.mk x.l (strOf dn.2.1.D)) (IntKind.i64.wrap (((mGet kSent (Sent.mk x.l (strOf dn.2.1.D)) vc1).getD 0) - 1)) vc1)).getD 0) < 0))))) ?_
        refine rvc_nil ?_
        refine Awp.cond (b := (decide (((mGet kSent (Sent.mk x.l (strOf dn.2.1.D)) (mSet kSent (Sent.mk x.l (strOf dn.2.1.D)) (IntKind.i64.wrap (((mGet kSent (Sent.mk x.l (strOf dn.2.1.D)) vc1).getD 0) - 1)) vc1)).getD 0) < 0))) rfl (fun h13 => ?_) (fun h13 => ?_)
        ·
         replace hR := of_true h13 hR
         refine Awp.consP C ?_
         refine rvP C (.pv (.lit (.bool false))) ?_
         refine rvc_nil ?_
         refine Awp.ret ?_
         subst hR
         exact ⟨.inl rfl, rfl⟩
        ·
         replace hR := of_false h13 hR
         refine Awp.skip ?_
         refine Awp.regionP C ?_
         refine rvP C (.pv (.lit (.int .i64 (IntKind.i64.wrap ((i : Int) + 1))))) ?_
         refine rvP C (.pv (.lit (.int .i64 (IntKind.i64.wrap ((i : Int) + 1))))) ?_
         refine rvc_nil ?_
         refine ⟨h4, (dn.1, (mSet kSent (Sent.mk x.l (strOf dn.2.1.D)) (IntKind.i64.wrap (((mGet kSent (Sent.mk x.l (strOf dn.2.1.D)) vc1).getD 0) - 1)) vc1)), ?_, ?_⟩
         · exact ⟨hR, hf0_dn⟩
         · exact ⟨fun b => b, WeakerR.ofL (Ks := [19, 20, 519]) hI ⟨⟨rfl, rfl⟩, ⟨rfl, rfl⟩, ⟨rfl, rfl⟩, ⟨rfl, rfl⟩, ⟨lit_cast (wrap_i64 (by omega) (by omega)), rfl⟩, trivial⟩ (okH_map rfl rfl rfl (okH_cons rfl rfl rfl rfl (okH_map rfl rfl rfl (okH_nil)))) rfl⟩
       ·
        refine rvc_un (rexec_mapEntryX hP C rfl (Sent.mk x.l (strOf dn.2.1.D)) 0 rfl rfl rfl rfl rfl rfl kSent_ok rfl ?_)
        refine rvc_un (rexec_lookupX hP C rfl (Sent.mk x.l (strOf dn.2.1.D)) 0 rfl rfl rfl rfl rfl rfl kSent_ok rfl ((mGet kSent (Sent.mk x.l (strOf dn.2.1.D)) vc1).getD 0) (by rw [xEnt_look]; rw [mGet_perm hp_2 (ho_2.perm hp_2.symm)]) ?_)
        refine rvP C (.pv (.lit (.int .i64 (IntKind.i64.wrap (((mGet kSent (Sent.mk x.l (strOf dn.2.1.D)) vc1).getD 0) - 1))))) ?_
        refine rvP C (.pv (.lit (.int .i64 ((xEntN kSent (Sent.mk x.l (strOf dn.2.1.D)) X_2 q_2 : Nat) : Int)))) ?_
        refine rvc_un (rexec_entryStoreX C (IntKind.i64.wrap (((mGet kSent (Sent.mk x.l (strOf dn.2.1.D)) vc1).getD 0) - 1)) xEnt_there rfl rfl rfl rfl ?_)
        refine rvc_nil ?_
        refine Awp.closeMap (KE := kSent) (VE := vI64) (b := 20) (X := (xPut (xEntN kSent (Sent.mk x.l (strOf dn.2.1.D)) X_2 q_2) (IntKind.i64.wrap (((mGet kSent (Sent.mk x.l (strOf dn.2.1.D)) vc1).getD 0) - 1)) (xEntX kSent (Sent.mk x.l (strOf dn.2.1.D)) 0 X_2 q_2))) rfl (mSet kSent (Sent.mk x.l (strOf dn.2.1.D)) (IntKind.i64.wrap (((mGet kSent (Sent.mk x.l (strOf dn.2.1.D)) vc1).getD 0) - 1)) vc1) (by rw [xEnt_set hn_2 hl_2]; exact mSet_perm hp_2 (ho_2.perm hp_2.symm)) ?_
        refine Awp.consP C ?_
        refine rvP C (.mp 20) ?_
        refine rvP C (.agg [.pv (.lit (.int .i64 x.l.from_)), .pv (.lit (.int .i64 x.l.to)), .pv (.lit (.string (strOf dn.2.1.D)))]) ?_
        refine rvc_un (rexec_lookup hP C rfl (Sent.mk x.l (strOf dn.2.1.D)) 0 rfl rfl rfl rfl rfl rfl kSent_ok rfl (.pv (.lit (.int .i64 ((mGet kSent (Sent.mk x.l (strOf dn.2.1.D)) (mSet kSent (Sent.mk x.l (strOf dn.2.1.D)) (IntKind.i64.wrap (((mGet kSent (Sent.mk x.l (strOf dn.2.1.D)) vc1).getD 0) - 1)) vc1)).getD 0)))) rfl ?_)
        refine rvP C (.pv (.lit (.bool (decide (((mGet kSent (Sent.mk x.l (strOf dn.2.1.D)) (mSet kSent (Sent.mk x.l (strOf dn.2.1.D)) (IntKind.i64.wrap (((mGet kSent (Sent.mk x.l (strOf dn.2.1.D)) vc1).getD 0) - 1)) vc1)).getD 0) < 0))))) ?_
        refine rvc_nil ?_
        refine Awp.cond (b := (decide (((mGet kSent (Sent.mk x.l (strOf dn.2.1.D)) (mSet kSent (Sent.mk x.l (strOf dn.2.1.D)) (IntKind.i64.wrap (((mGet kSent (Sent.mk x.l (strOf dn.2.1.D)) vc1).getD 0) - 1)) vc1)).getD 0) < 0))) rfl (fun h14 => ?_) (fun h14 => ?_)
        ·
         replace hR := of_true h14 hR
         refine Awp.consP C ?_
         refine rvP C (.pv (.lit (.bool false))) ?_
         refine rvc_nil ?_
         refine Awp.ret ?_
         subst hR
         exact ⟨.inl rfl, rfl⟩
        ·
         replace hR := of_false h14 hR
         refine Awp.skip ?_
         refine Awp.regionP C ?_
         refine rvP C (.pv (.lit (.int .i64 (IntKind.i64.wrap ((i : Int) + 1))))) ?_
         refine rvP C (.pv (.lit (.int .i64 (IntKind.i64.wrap ((i : Int) + 1))))) ?_
         refine rvc_nil ?_
         refine ⟨h4, (dn.1, (mSet kSent (Sent.mk x.l (strOf dn.2.1.D)) (IntKind.i64.wrap (((mGet kSent (Sent.mk x.l (strOf dn.2.1.D)) vc1).getD 0) - 1)) vc1)), ?_, ?_⟩
         · exact ⟨hR, hf0_dn⟩
         · exact ⟨fun b => b, WeakerR.ofL (Ks := [19, 20, 519]) hI ⟨⟨rfl, rfl⟩, ⟨rfl, rfl⟩, ⟨rfl, rfl⟩, ⟨rfl, rfl⟩, ⟨lit_cast (wrap_i64 (by omega) (by omega)), rfl⟩, trivial⟩ (okH_map rfl rfl rfl (okH_cons rfl rfl rfl rfl (okH_map rfl rfl rfl (okH_nil)))) rfl⟩
      ·
       replace hR := of_false h12 hR
       refine Awp.skip ?_
       refine Awp.regionP C ?_
       refine rvP C (.pv (.lit (.int .i64 (IntKind.i64.wrap ((i : Int) + 1))))) ?_
       refine rvP C (.pv (.lit (.int .i64 (IntKind.i64.wrap ((i : Int) + 1))))) ?_
       refine rvc_nil ?_
       refine ⟨h4, (dn.1, vc1), ?_, ?_⟩
       · exact ⟨hR, hf0_dn⟩
       · exact ⟨fun b => b, WeakerR.ofL (Ks := [19, 20, 519]) hI ⟨⟨rfl, rfl⟩, ⟨rfl, rfl⟩, ⟨rfl, rfl⟩, ⟨rfl, rfl⟩, ⟨lit_cast (wrap_i64 (by omega) (by omega)), rfl⟩, trivial⟩ (okH_map rfl rfl rfl (okH_cons rfl rfl rfl rfl (okH_map rfl rfl rfl (okH_nil)))) rfl⟩
   ·
    replace hR := of_false h6 hR
    refine rvS ?_
    refine rvS ?_
    refine rvP C (.pv (.lit (.bool false))) ?_
    refine rvP C (.pv (.lit (.bool false))) ?_
    refine rvc_nil ?_
    refine Awp.condF (b := false) rfl rfl ?_
    refine Awp.consP C ?_
    refine rvP C (.pv (.lit (.int .i64 (IntKind.i64.wrap ((IntKind.u64.wrap x.op).tmod 9))))) ?_
    refine rvP C (.pv (.lit (.bool ((IntKind.i64.wrap ((IntKind.u64.wrap x.op).tmod 9)) == 6)))) ?_
    refine rvP C (.pv (.lit (.bool ((IntKind.i64.wrap ((IntKind.u64.wrap x.op).tmod 9)) == 6)))) ?_
    refine rvc_case 60 ((IntKind.i64.wrap ((IntKind.u64.wrap x.op).tmod 9)) == 6) rfl (fun h15 => ?_) (fun h15 => ?_)
    ·
     replace hR := of_true h15 hR
     refine rvO C (.pv (.lit (.int .i64 dn.2.2.2))) ?_
     refine rvO C (.pv (.lit (.bool (dn.2.2.2 == 0)))) ?_
     refine rvP C (.pv (.lit (.bool (dn.2.2.2 == 0)))) ?_
     refine rvP C (.pv (.lit (.bool (dn.2.2.2 == 0)))) ?_
     refine rvc_nil ?_
     refine Awp.cond (b := (dn.2.2.2 == 0)) rfl (fun h16 => ?_) (fun h16 => ?_)
     ·
      replace hR := of_true h16 hR
      refine Awp.cons C (fun _ => .writer) (by kernel_rfl) ?_
      refine rvP C (.ptr 19 0) ?_
      refine rvP C (.ptr 6 2) ?_
      refine rvP C (.agg [.pv (.lit (.int .i64 x.l.from_)), .pv (.lit (.int .i64 x.l.to))]) ?_
      refine rvP C (.ptr 6 1) ?_
      refine rvP C (.pv (.lit (.int .i64 x.i))) ?_
      refine rvc_un (rexec_callObj hP C (fun b => bif b == 0 then 19 else bif b == 1 then 519 else b) [] rfl rfl rfl (nPeek_calls dn.1 x.l x.i hf0_dn) rfl rfl ⟨rfl, trivial⟩ (of_decide_eq_true rfl) rfl (of_decide_eq_true rfl) (of_decide_eq_true rfl) allB_nil allB_nil (allB_cons rfl allB_nil) ?_ rfl (allB_cons rfl allB_nil))
      refine rvP C (.tup [sS (some (nPeek dn.1 x.l x.i).1.nil) (eI .u8) ((nPeek dn.1 x.l x.i).1.D), .pv (.lit (.int .i64 ((nPeek dn.1 x.l x.i).2)))]) ?_
      refine rvP C (sS (some (nPeek dn.1 x.l x.i).1.nil) (eI .u8) ((nPeek dn.1 x.l x.i).1.D)) ?_
      refine rvP C (.pv (.lit (.int .i64 ((nPeek dn.1 x.l x.i).2)))) ?_
      refine rvP C (sS (some (nPeek dn.1 x.l x.i).1.nil) (eI .u8) ((nPeek dn.1 x.l x.i).1.D)) ?_
      refine rvP C (.pv (.lit (.int .i64 ((nPeek dn.1 x.l x.i).2)))) ?_
      refine rvc_nil ?_
      refine Awp.openMap (KE := kSent) (VE := vI64) (b := 20) (D := vc1) rfl (fun X_3 q_3 hp_3 ho_3 hn_3 hl_3 => ?_)
      refine Awp.region2_11 C (fun o => match o.dst with | some 75 => .reads [6] | some 79 => .reads [20] | none => .writer | _ => .pure) (by kernel_rfl) (by kernel_rfl) ?_
      refine rvP C (.mp 20) ?_
      refine rvP C (.ptr 6 2) ?_
      refine rvP C (.agg [.pv (.lit (.int .i64 x.l.from_)), .pv (.lit (.int .i64 x.l.to))]) ?_
      refine rvP C (sS (some (nPeek dn.1 x.l x.i).1.nil) (eI .u8) ((nPeek dn.1 x.l x.i).1.D)) ?_
      refine rvc_un (rexec_convS C rfl rfl rfl rfl rfl rfl rfl rfl ?_)
      refine rvP C (.agg [.pv (.lit (.int .i64 x.l.from_)), .pv (.lit (.int .i64 x.l.to)), .pv (.lit (.string (strOf ((nPeek dn.1 x.l x.i).1.D))))]) ?_
      refine rvc_nil ?_
      refine ⟨?_, ?_⟩
      ·
       refine rvc_un (rexec_lookupX hP C rfl (Sent.mk x.l (strOf ((nPeek dn.1 x.l x.i).1.D))) 0 rfl rfl rfl rfl rfl rfl kSent_ok rfl ((mGet kSent (Sent.mk x.l (strOf ((nPeek dn.1 x.l x.i).1.D))) vc1).getD 0) (by rw [mGet_perm hp_3 (ho_3.perm hp_3.symm)]) ?_)
       refine rvP C (.pv (.lit (.int .i64 (IntKind.i64.wrap (((mGet kSent (Sent.mk x.l (strOf ((nPeek dn.1 x.l x.i).1.D))) vc1).getD 0) + 1))))) ?_
       refine rvc_un (rexec_mapEntryX hP C rfl (Sent.mk x.l (strOf ((nPeek dn.1 x.l x.i).1.D))) 0 rfl rfl rfl rfl rfl rfl kSent_ok rfl ?_)
       refine rvP C (.pv (.lit (.int .i64 ((xEntN kSent (Sent.mk x.l (strOf ((nPeek dn.1 x.l x.i).1.D))) X_3 q_3 : Nat) : Int)))) ?_
       refine rvc_un (rexec_entryStoreX C (IntKind.i64.wrap (((mGet kSent (Sent.mk x.l (strOf ((nPeek dn.1 x.l x.i).1.D))) vc1).getD 0) + 1)) xEnt_there rfl rfl rfl rfl ?_)
       refine rvc_nil ?_
       refine Awp.closeMap (KE := kSent) (VE := vI64) (b := 20) (X := (xPut (xEntN kSent (Sent.mk x.l (strOf ((nPeek dn.1 x.l x.i).1.D))) X_3 q_3) (IntKind.i64.wrap (((mGet kSent (Sent.mk x.l (strOf ((nPeek dn.1 x.l x.i).1.D))) vc1).getD 0) + 1)) (xEntX kSent (Sent.mk x.l (strOf ((nPeek dn.1 x.l x.i).1.D))) 0 X_3 q_3))) rfl (mSet kSent (Sent.mk x.l (strOf ((nPeek dn.1 x.l x.i).1.D))) (IntKind.i64.wrap (((mGet kSent (Sent.mk x.l (strOf ((nPeek dn.1 x.l x.i).1.D))) vc1).getD 0) + 1)) vc1) (by rw [xEnt_set hn_3 hl_3]; exact mSet_perm hp_3 (ho_3.perm hp_3.symm)) ?_
       refine Awp.regionP C ?_
       refine rvP C (.pv (.lit (.int .i64 (IntKind.i64.wrap ((i : Int) + 1))))) ?_
       refine rvP C (.pv (.lit (.int .i64 (IntKind.i64.wrap ((i : Int) + 1))))) ?_
       refine rvc_nil ?_
       refine ⟨h4, (dn.1, (mSet kSent (Sent.mk x.l (strOf ((nPeek dn.1 x.l x.i).1.D))) (IntKind.i64.wrap (((mGet kSent (Sent.mk x.l (strOf ((nPeek dn.1 x.l x.i).1.D))) vc1).getD 0) + 1)) vc1)), ?_, ?_⟩
       · exact ⟨hR, hf0_dn⟩
       · exact ⟨fun b => b, WeakerR.ofL (Ks := [19, 20, 519]) hI ⟨⟨rfl, rfl⟩, ⟨rfl, rfl⟩, ⟨rfl, rfl⟩, ⟨rfl, rfl⟩, ⟨lit_cast (wrap_i64 (by omega) (by omega)), rfl⟩, trivial⟩ (okH_map rfl rfl rfl (okH_cons rfl rfl rfl rfl (okH_map rfl rfl rfl (okH_nil)))) rfl⟩
      ·
       refine rvc_un (rexec_mapEntryX hP C rfl (Sent.mk x.l (strOf ((nPeek dn.1 x.l x.i).1.D))) 0 rfl rfl rfl rfl rfl rfl kSent_ok rfl ?_)
       refine rvc_un (rexec_lookupX hP C rfl (Sent.mk x.l (strOf ((nPeek dn.1 x.l x.i).1.D))) 0 rfl rfl rfl rfl rfl rfl kSent_ok rfl ((mGet kSent (Sent.mk x.l (strOf ((nPeek dn.1 x.l x.i).1.D))) vc1).getD 0) (by rw [xEnt_look]; rw [mGet_perm hp_3 (ho_3.perm hp_3.symm)]) ?_)
       refine rvP C (.pv (.lit (.int .i64 (IntKind.i64.wrap (((mGet kSent (Sent.mk x.l (strOf ((nPeek dn.1 x.l x.i).1.D))) vc1).getD 0) + 1))))) ?_
       refine rvP C (.pv (.lit (.int .i64 ((xEntN kSent (Sent.mk x.l (strOf ((nPeek dn.1 x.l x.i).1.D))) X_3 q_3 : Nat) : Int)))) ?_
       refine rvc_un (rexec_entryStoreX C (IntKind.i64.wrap (((mGet kSent (Sent.mk x.l (strOf ((nPeek dn.1 x.l x.i).1.D))) vc1).getD 0) + 1)) xEnt_there rfl rfl rfl rfl ?_)
       refine rvc_nil ?_
       refine Awp.closeMap (KE := kSent) (VE := vI64) (b := 20) (X := (xPut (xEntN kSent (Sent.mk x.l (strOf ((nPeek dn.1 x.l x.i).1.D))) X_3 q_3) (IntKind.i64.wrap (((mGet kSent (Sent.mk x.l (strOf ((nPeek dn.1 x.l x.i).1.D))) vc1).getD 0) + 1)) (xEntX kSent (Sent.mk x.l (strOf ((nPeek dn.1 x.l x.i).1.D))) 0 X_3 q_3))) rfl (mSet kSent (Sent.mk x.l (strOf ((nPeek dn.1 x.l x.i).1.D))) (IntKind.i64.wrap (((mGet kSent (Sent.mk x.l (strOf ((nPeek dn.1 x.l x.i).1.D))) vc1).getD 0) + 1)) vc1) (by rw [xEnt_set hn_3 hl_3]; exact mSet_perm hp_3 (ho_3.perm hp_3.symm)) ?_
       refine Awp.regionP C ?_
       refine rvP C (.pv (.lit (.int .i64 (IntKind.i64.wrap ((i : Int) + 1))))) ?_
       refine rvP C (.pv (.lit (.int .i64 (IntKind.i64.wrap ((i : Int) + 1))))) ?_
       refine rvc_nil ?_
       refine ⟨h4, (dn.1, (mSet kSent (Sent.mk x.l (strOf ((nPeek dn.1 x.l x.i).1.D))) (IntKind.i64.wrap (((mGet kSent (Sent.mk x.l (strOf ((nPeek dn.1 x.l x.i).1.D))) vc1).getD 0) + 1)) vc1)), ?_, ?_⟩
       · exact ⟨hR, hf0_dn⟩
       · exact ⟨fun b => b, WeakerR.ofL (Ks := [19, 20, 519]) hI ⟨⟨rfl, rfl⟩, ⟨rfl, rfl⟩, ⟨rfl, rfl⟩, ⟨rfl, rfl⟩, ⟨lit_cast (wrap_i64 (by omega) (by omega)), rfl⟩, trivial⟩ (okH_map rfl rfl rfl (okH_cons rfl rfl rfl rfl (okH_map rfl rfl rfl (okH_nil)))) rfl⟩
     ·
      replace hR := of_false h16 hR
      refine Awp.consP C ?_
      refine rvP C (.pv (.lit (.bool dn.2.2.1))) ?_
      refine rvP C (.pv (.lit (.bool dn.2.2.1))) ?_
      refine rvc_nil ?_
      refine Awp.cond (b := dn.2.2.1) rfl (fun h17 => ?_) (fun h17 => ?_)
      ·
       replace hR := of_true h17 hR
       refine Awp.consP C ?_
       refine rvP C (.ptr 6 2) ?_
       refine rvP C (.agg [.pv (.lit (.int .i64 x.l.from_)), .pv (.lit (.int .i64 x.l.to))]) ?_
       refine rvP C (sS (some dn.2.1.nil) (eI .u8) dn.2.1.D) ?_
       refine rvc_un (rexec_convS C rfl rfl rfl rfl rfl rfl rfl rfl ?_)
       refine rvP C (.agg [.pv (.lit (.int .i64 x.l.from_)), .pv (.lit (.int .i64 x.l.to)), .pv (.lit (.string (strOf dn.2.1.D)))]) ?_
       refine rvc_un (rexec_prim C (δ := { v := .ptr 13 0, new := [(13, .cells [.pv (.lit (.int .i64 0)), .pv (.lit (.int .i64 0)), .pv (.lit (.string ⟨#[]⟩))])] }) rfl rfl rfl rfl trivial rfl ?_)
       refine rvc_un (rexec_prim C (δ := { v := .undef, wr := [(13, some (.cells [.pv (.lit (.int .i64 x.l.from_)), .pv (.lit (.int .i64 x.l.to)), .pv (.lit (.string (strOf dn.2.1.D)))]))] }) rfl rfl rfl rfl trivial rfl ?_)
       refine rvc_nil ?_
       refine Awp.openMap (KE := kSent) (VE := vI64) (b := 20) (D := vc1) rfl (fun X_4 q_4 hp_4 ho_4 hn_4 hl_4 => ?_)
       refine Awp.seq ?_
       refine Awp.region2_7 C (fun o => match o.dst with | some 91 => .reads [13] | some 92 => .reads [20] | none => .writer | _ => .pure) (by kernel_rfl) (by kernel_rfl) ?_
       refine rvP C (.mp 20) ?_
       refine rvP C (.agg [.pv (.lit (.int .i64 x.l.from_)), .pv (.lit (.int .i64 x.l.to)), .pv (.lit (.string (strOf dn.2.1.D)))]) ?_
       refine rvc_nil ?_
       refine ⟨?_, ?_⟩
       ·
        refine rvc_un (rexec_lookupX hP C rfl (Sent.mk x.l (strOf dn.2.1.D)) 0 rfl rfl rfl rfl rfl rfl kSent_ok rfl ((mGet kSent (Sent.mk x.l (strOf dn.2.1.D)) vc1).getD 0) (by rw [mGet_perm hp_4 (ho_4.perm hp_4.symm)]) ?_)
        refine rvP C (.pv (.lit (.int .i64 (IntKind.i64.wrap (((mGet kSent (Sent.mk x.l (strOf dn.2.1.D)) vc1).getD 0) - 1))))) ?_
        refine rvc_un (rexec_mapEntryX hP C rfl (Sent.mk x.l (strOf dn.2.1.D)) 0 rfl rfl rfl rfl rfl rfl kSent_ok rfl ?_)
        refine rvP C (.pv (.lit (.int .i64 ((xEntN kSent (Sent.mk x.l (strOf dn.2.1.D)) X_4 q_4 : Nat) : Int)))) ?_
        refine rvc_un (rexec_entryStoreX C (IntKind.i64.wrap (((mGet kSent (Sent.mk x.l (strOf dn.2.1.D)) vc1).getD 0) - 1)) xEnt_there rfl rfl rfl rfl ?_)
        refine rvc_nil ?_
        refine Awp.closeMap (KE := kSent) (VE := vI64) (b := 20) (X := (xPut (xEntN kSent (Sent.mk x.l (strOf dn.2.1.D)) X_4 q_4) (IntKind.i64.wrap (((mGet kSent (Sent.mk x.l (strOf dn.2.1.D)) vc1).getD 0) - 1)) (xEntX kSent (Sent.mk x.l (strOf dn.2.1.D)) 0 X_4 q_4))) rfl (mSet kSent (Sent.mk x.l (strOf dn.2.1.D)) (IntKind.i64.wrap (((mGet kSent (Sent.mk x.l (strOf dn.2.1.D)) vc1).getD 0) - 1)) vc1) (by rw [xEnt_set hn_4 hl_4]; exact mSet_perm hp_4 (ho_4.perm hp_4.symm)) ?_
        refine Awp.consP C ?_
        refine rvP C (.mp 20) ?_
        refine rvP C (.agg [.pv (.lit (.int .i64 x.l.from_)), .pv (.lit (.int .i64 x.l.to)), .pv (.lit (.string (strOf dn.2.1.D)))]) ?_
        refine rvc_un (rexec_lookup hP C rfl (Sent.mk x.l (strOf dn.2.1.D)) 0 rfl rfl rfl rfl rfl rfl kSent_ok rfl (.pv (.lit (.int .i64 ((mGet kSent (Sent.mk x.l (strOf dn.2.1.D)) (mSet kSent (Sent.mk x.l (strOf dn.2.1.D)) (IntKind.i64.wrap (((mGet kSent (Sent.mk x.l (strOf dn.2.1.D)) vc1).getD 0) - 1)) vc1)).getD 0)))) rfl ?_)
        refine rvP C (.pv (.lit (.bool (decide (((mGet kSent (Sent.mk x.l (strOf dn.2.1.D)) (mSet kSent (Sent.mk x.l (strOf dn.2.1.D)) (IntKind.i64.wrap (((mGet kSent (Sent.mk x.l (strOf dn.2.1.D)) vc1).getD 0) - 1)) vc1)).getD 0) < 0))))) ?_
        refine rvc_nil ?_
        refine Awp.cond (b := (decide (((mGet kSent (Sent.mk x.l (strOf dn.2.1.D)) (mSet kSent (Sent.mk x.l (strOf dn.2.1.D)) (IntKind.i64.wrap (((mGet kSent (Sent.mk x.l (strOf dn.2.1.D)) vc1).getD 0) - 1)) vc1)).getD 0) < 0))) rfl (fun h18 => ?_) (fun h18 => ?_)
        ·
         replace hR := of_true h18 hR
         refine Awp.consP C ?_
         refine rvP C (.pv (.lit (.bool false))) ?_
         refine rvc_nil ?_
         refine Awp.ret ?_
         subst hR
         exact ⟨.inl rfl, rfl⟩
        ·
         replace hR := of_false h18 hR
         refine Awp.skip ?_
         refine Awp.regionP C ?_
         refine rvP C (.pv (.lit (.int .i64 (IntKind.i64.wrap ((i : Int) + 1))))) ?_
         refine rvP C (.pv (.lit (.int .i64 (IntKind.i64.wrap ((i : Int) + 1))))) ?_
         refine rvc_nil ?_
         refine ⟨h4, (dn.1, (mSet kSent (Sent.mk x.l (strOf dn.2.1.D)) (IntKind.i64.wrap (((mGet kSent (Sent.mk x.l (strOf dn.2.1.D)) vc1).getD 0) - 1)) vc1)), ?_, ?_⟩
         · exact ⟨hR, hf0_dn⟩
         · exact ⟨fun b => b, WeakerR.ofL (Ks := [19, 20, 519]) hI ⟨⟨rfl, rfl⟩, ⟨rfl, rfl⟩, ⟨rfl, rfl⟩, ⟨rfl, rfl⟩, ⟨lit_cast (wrap_i64 (by omega) (by omega)), rfl⟩, trivial⟩ (okH_map rfl rfl rfl (okH_cons rfl rfl rfl rfl (okH_map rfl rfl rfl (okH_nil)))) rfl⟩
       ·
        refine rvc_un (rexec_mapEntryX hP C rfl (Sent.mk x.l (strOf dn.2.1.D)) 0 rfl rfl rfl rfl rfl rfl kSent_ok rfl ?_)
        refine rvc_un (rexec_lookupX hP C rfl (Sent.mk x.l (strOf dn.2.1.D)) 0 rfl rfl rfl rfl rfl rfl kSent_ok rfl ((mGet kSent (Sent.mk x.l (strOf dn.2.1.D)) vc1).getD 0) (by rw [xEnt_look]; rw [mGet_perm hp_4 (ho_4.perm hp_4.symm)]) ?_)
        refine rvP C (.pv (.lit (.int .i64 (IntKind.i64.wrap (((mGet kSent (Sent.mk x.l (strOf dn.2.1.D)) vc1).getD 0) - 1))))) ?_
        refine rvP C (.pv (.lit (.int .i64 ((xEntN kSent (Sent.mk x.l (strOf dn.2.1.D)) X_4 q_4 : Nat) : Int)))) ?_
        refine rvc_un (rexec_entryStoreX C (IntKind.i64.wrap (((mGet kSent (Sent.mk x.l (strOf dn.2.1.D)) vc1).getD 0) - 1)) xEnt_there rfl rfl rfl rfl ?_)
        refine rvc_nil ?_
        refine Awp.closeMap (KE := kSent) (VE := vI64) (b := 20) (X := (xPut (xEntN kSent (Sent.mk x.l (strOf dn.2.1.D)) X_4 q_4) (IntKind.i64.wrap (((mGet kSent (Sent.mk x.l (strOf dn.2.1.D)) vc1).getD 0) - 1)) (xEntX kSent (Sent.mk x.l (strOf dn.2.1.D)) 0 X_4 q_4))) rfl (mSet kSent (Sent.mk x.l (strOf dn.2.1.D)) (IntKind.i64.wrap (((mGet kSent (Sent.mk x.l (strOf dn.2.1.D)) vc1).getD 0) - 1)) vc1) (by rw [xEnt_set hn_4 hl_4]; exact mSet_perm hp_4 (ho_4.perm hp_4.symm)) ?_
        refine Awp.consP C ?_
        refine rvP C (.mp 20) ?_
        refine rvP C (.agg [.pv (.lit (.int .i64 x.l.from_)), .pv (.lit (.int .i64 x.l.to)), .pv (.lit (.string (strOf dn.2.1.D)))]) ?_
        refine rvc_un (rexec_lookup hP C rfl (Sent.mk x.l (strOf dn.2.1.D)) 0 rfl rfl rfl rfl rfl rfl kSent_ok rfl (.pv (.lit (.int .i64 ((mGet kSent (Sent.mk x.l (strOf dn.2.1.D)) (mSet kSent (Sent.mk x.l (strOf dn.2.1.D)) (IntKind.i64.wrap (((mGet kSent (Sent.mk x.l (strOf dn.2.1.D)) vc1).getD 0) - 1)) vc1)).getD 0)))) rfl ?_)
        refine rvP C (.pv (.lit (.bool (decide (((mGet kSent (Sent.mk x.l (strOf dn.2.1.D)) (mSet kSent (Sent.mk x.l (strOf dn.2.1.D)) (IntKind.i64.wrap (((mGet kSent (Sent.mk x.l (strOf dn.2.1.D)) vc1).getD 0) - 1)) vc1)).getD 0) < 0))))) ?_
        refine rvc_nil ?_
        refine Awp.cond (b := (decide (((mGet kSent (Sent.mk x.l (strOf dn.2.1.D)) (mSet kSent (Sent.mk x.l (strOf dn.2.1.D)) (IntKind.i64.wrap (((mGet kSent (Sent.mk x.l (strOf dn.2.1.D)) vc1).getD 0) - 1)) vc1)).getD 0) < 0))) rfl (fun h19 => ?_) (fun h19 => ?_)
        ·
         replace hR := of_true h19 hR
         refine Awp.consP C ?_
         refine rvP C (.pv (.lit (.bool false))) ?_
         refine rvc_nil ?_
         refine Awp.ret ?_
         subst hR
         exact ⟨.inl rfl, rfl⟩
        ·
         replace hR := of_false h19 hR
         refine Awp.skip ?_
         refine Awp.regionP C ?_
         refine rvP C (.pv (.lit (.int .i64 (IntKind.i64.wrap ((i : Int) + 1))))) ?_
         refine rvP C (.pv (.lit (.int .i64 (IntKind.i64.wrap ((i : Int) + 1))))) ?_
         refine rvc_nil ?_
         refine ⟨h4, (dn.1, (mSet kSent (Sent.mk x.l (strOf dn.2.1.D)) (IntKind.i64.wrap (((mGet kSent (Sent.mk x.l (strOf dn.2.1.D)) vc1).getD 0) - 1)) vc1)), ?_, ?_⟩
         · exact ⟨hR, hf0_dn⟩
         · exact ⟨fun b => b, WeakerR.ofL (Ks := [19, 20, 519]) hI ⟨⟨rfl, rfl⟩, ⟨rfl, rfl⟩, ⟨rfl, rfl⟩, ⟨rfl, rfl⟩, ⟨lit_cast (wrap_i64 (by omega) (by omega)), rfl⟩, trivial⟩ (okH_map rfl rfl rfl (okH_cons rfl rfl rfl rfl (okH_map rfl rfl rfl (okH_nil)))) rfl⟩
      ·
       replace hR := of_false h17 hR
       refine Awp.skip ?_
       refine Awp.regionP C ?_
       refine rvP C (.pv (.lit (.int .i64 (IntKind.i64.wrap ((i : Int) + 1))))) ?_
       refine rvP C (.pv (.lit (.int .i64 (IntKind.i64.wrap ((i : Int) + 1))))) ?_
       refine rvc_nil ?_
       refine ⟨h4, (dn.1, vc1), ?_, ?_⟩
       · exact ⟨hR, hf0_dn⟩
       · exact ⟨fun b => b, WeakerR.ofL (Ks := [19, 20, 519]) hI ⟨⟨rfl, rfl⟩, ⟨rfl, rfl⟩, ⟨rfl, rfl⟩, ⟨rfl, rfl⟩, ⟨lit_cast (wrap_i64 (by omega) (by omega)), rfl⟩, trivial⟩ (okH_map rfl rfl rfl (okH_cons rfl rfl rfl rfl (okH_map rfl rfl rfl (okH_nil)))) rfl⟩
    ·
     replace hR := of_false h15 hR
     refine rvS ?_
     refine rvS ?_
     refine rvP C (.pv (.lit (.bool false))) ?_
     refine rvP C (.pv (.lit (.bool false))) ?_
     refine rvc_nil ?_
     refine Awp.condF (b := false) rfl rfl ?_
     refine Awp.consP C ?_
     refine rvP C (.pv (.lit (.bool dn.2.2.1))) ?_
     refine rvP C (.pv (.lit (.bool dn.2.2.1))) ?_
     refine rvc_nil ?_
     refine Awp.cond (b := dn.2.2.1) rfl (fun h20 => ?_) (fun h20 => ?_)
     ·
      replace hR := of_true h20 hR
      refine Awp.consP C ?_
      refine rvP C (.ptr 6 2) ?_
      refine rvP C (.agg [.pv (.lit (.int .i64 x.l.from_)), .pv (.lit (.int .i64 x.l.to))]) ?_
      refine rvP C (sS (some dn.2.1.nil) (eI .u8) dn.2.1.D) ?_
      refine rvc_un (rexec_convS C rfl rfl rfl rfl rfl rfl rfl rfl ?_)
      refine rvP C (.agg [.pv (.lit (.int .i64 x.l.from_)), .pv (.lit (.int .i64 x.l.to)), .pv (.lit (.string (strOf dn.2.1.D)))]) ?_
      refine rvc_un (rexec_prim C (δ := { v := .ptr 13 0, new := [(13, .cells [.pv (.lit (.int .i64 0)), .pv (.lit (.int .i64 0)), .pv (.lit (.string ⟨#[]⟩))])] }) rfl rfl rfl rfl trivial rfl ?_)
      refine rvc_un (rexec_prim C (δ := { v := .undef, wr := [(13, some (.cells [.pv (.lit (.int .i64 x.l.from_)), .pv (.lit (.int .i64 x.l.to)), .pv (.lit (.string (strOf dn.2.1.D)))]))] }) rfl rfl rfl rfl trivial rfl ?_)
      refine rvc_nil ?_
      refine Awp.openMap (KE := kSent) (VE := vI64) (b := 20) (D := vc1) rfl (fun X_5 q_5 hp_5 ho_5 hn_5 hl_5 => ?_)
      refine Awp.seq ?_
      refine Awp.region2_7 C (fun o => match o.dst with | some 91 => .reads [13] | some 92 => .reads [20] | none => .writer | _ => .pure) (by kernel_rfl) (by kernel_rfl) ?_
      refine rvP C (.mp 20) ?_
      refine rvP C (.agg [.pv (.lit (.int .i64 x.l.from_)), .pv (.lit (.int .i64 x.l.to)), .pv (.lit (.string (strOf dn.2.1.D)))]) ?_
      refine rvc_nil ?_
      refine ⟨?_, ?_⟩
      ·
       refine rvc_un (rexec_lookupX hP C rfl (Sent.mk x.l (strOf dn.2.1.D)) 0 rfl rfl rfl rfl rfl rfl kSent_ok rfl ((mGet kSent (Sent.mk x.l (strOf dn.2.1.D)) vc1).getD 0) (by rw [mGet_perm hp_5 (ho_5.perm hp_5.symm)]) ?_)
       refine rvP C (.pv (.lit (.int .i64 (IntKind.i64.wrap (((mGet kSent (Sent.mk x.l (strOf dn.2.1.D)) vc1).getD 0) - 1))))) ?_
       refine rvc_un (rexec_mapEntryX hP C rfl (Sent.mk x.l (strOf dn.2.1.D)) 0 rfl rfl rfl rfl rfl rfl kSent_ok rfl ?_)
       refine rvP C (.pv (.lit (.int .i64 ((xEntN kSent (Sent.mk x.l (strOf dn.2.1.D)) X_5 q_5 : Nat) : Int)))) ?_
       refine rvc_un (rexec_entryStoreX C (IntKind.i64.wrap (((mGet kSent (Sent.mk x.l (strOf dn.2.1.D)) vc1).getD 0) - 1)) xEnt_there rfl rfl rfl rfl ?_)
       refine rvc_nil ?_
       refine Awp.closeMap (KE := kSent) (VE := vI64) (b := 20) (X := (xPut (xEntN kSent (Sent.mk x.l (strOf dn.2.1.D)) X_5 q_5) (IntKind.i64.wrap (((mGet kSent (Sent.mk x.l (strOf dn.2.1.D)) vc1).getD 0) - 1)) (xEntX kSent (Sent.mk x.l (strOf dn.2.1.D)) 0 X_5 q_5))) rfl (mSet kSent (Sent.mk x.l (strOf dn.2.1.D)) (IntKind.i64.wrap (((mGet kSent (Sent.mk x.l (strOf dn.2.1.D)) vc1).getD 0) - 1)) vc1) (by rw [xEnt_set hn_5 hl_5]; exact mSet_perm hp_5 (ho_5.perm hp_5.symm)) ?_
       refine Awp.consP C ?_
       refine rvP C (.mp 20) ?_
       refine rvP C (.agg [.pv (.lit (.int .i64 x.l.from_)), .pv (.lit (.int .i64 x.l.to)), .pv (.lit (.string (strOf dn.2.1.D)))]) ?_
       refine rvc_un (rexec_lookup hP C rfl (Sent.mk x.l (strOf dn.2.1.D)) 0 rfl rfl rfl rfl rfl rfl kSent_ok rfl (.pv (.lit (.int .i64 ((mGet kSent (Sent.mk x.l (strOf dn.2.1.D)) (mSet kSent (Sent.mk x.l (strOf dn.2.1.D)) (IntKind.i64.wrap (((mGet kSent (Sent.mk x.l (strOf dn.2.1.D)) vc1).getD 0) - 1)) vc1)).getD 0)))) rfl ?_)
       refine rvP C (.pv (.lit (.bool (decide (((mGet kSent (Sent.mk x.l (strOf dn.2.1.D)) (mSet kSent (Sent.mk x.l (strOf dn.2.1.D)) (IntKind.i64.wrap (((mGet kSent (Sent.mk x.l (strOf dn.2.1.D)) vc1).getD 0) - 1)) vc1)).getD 0) < 0))))) ?_
       refine rvc_nil ?_
       refine Awp.cond (b := (decide (((mGet kSent (Sent.mk x.l (strOf dn.2.1.D)) (mSet kSent (Sent.mk x.l (strOf dn.2.1.D)) (IntKind.i64.wrap (((mGet kSent (Sent.mk x.l (strOf dn.2.1.D)) vc1).getD 0) - 1)) vc1)).getD 0) < 0))) rfl (fun h21 => ?_) (fun h21 => ?_)
       ·
        replace hR := of_true h21 hR
        refine Awp.consP C ?_
        refine rvP C (.pv (.lit (.bool false))) ?_
        refine rvc_nil ?_
        refine Awp.ret ?_
        subst hR
        exact ⟨.inl rfl, rfl⟩
       ·
        replace hR := of_false h21 hR
        refine Awp.skip ?_
        refine Awp.regionP C ?_
        refine rvP C (.pv (.lit (.int .i64 (IntKind.i64.wrap ((i : Int) + 1))))) ?_
        refine rvP C (.pv (.lit (.int .i64 (IntKind.i64.wrap ((i : Int) + 1))))) ?_
        refine rvc_nil ?_
        refine ⟨h4, (dn.1, (mSet kSent (Sent.mk x.l (strOf dn.2.1.D)) (IntKind.i64.wrap (((mGet kSent (Sent.mk x.l (strOf dn.2.1.D)) vc1).getD 0) - 1)) vc1)), ?_, ?_⟩
        · exact ⟨hR, hf0_dn⟩
        · exact ⟨fun b => b, WeakerR.ofL (Ks := [19, 20, 519]) hI ⟨⟨rfl, rfl⟩, ⟨rfl, rfl⟩, ⟨rfl, rfl⟩, ⟨rfl, rfl⟩, ⟨lit_cast (wrap_i64 (by omega) (by omega)), rfl⟩, trivial⟩ (okH_map rfl rfl rfl (okH_cons rfl rfl rfl rfl (okH_map rfl rfl rfl (okH_nil)))) rfl⟩
      ·
       refine rvc_un (rexec_mapEntryX hP C rfl (Sent.mk x.l (strOf dn.2.1.D)) 0 rfl rfl rfl rfl rfl rfl kSent_ok rfl ?_)
       refine rvc_un (rexec_lookupX hP C rfl (Sent.mk x.l (strOf dn.2.1.D)) 0 rfl rfl rfl rfl rfl rfl kSent_ok rfl ((mGet kSent (Sent.mk x.l (strOf dn.2.1.D)) vc1).getD 0) (by rw [xEnt_look]; rw [mGet_perm hp_5 (ho_5.perm hp_5.symm)]) ?_)
       refine rvP C (.pv (.lit (.int .i64 (IntKind.i64.wrap (((mGet kSent (Sent.mk x.l (strOf dn.2.1.D)) vc1).getD 0) - 1))))) ?_
       refine rvP C (.pv (.lit (.int .i64 ((xEntN kSent (Sent.mk x.l (strOf dn.2.1.D)) X_5 q_5 : Nat) : Int)))) ?_
       refine rvc_un (rexec_entryStoreX C (IntKind.i64.wrap (((mGet kSent (Sent.mk x.l (strOf dn.2.1.D)) vc1).getD 0) - 1)) xEnt_there rfl rfl rfl rfl ?_)
       refine rvc_nil ?_
       refine Awp.closeMap (KE := kSent) (VE := vI64) (b := 20) (X := (xPut (xEntN kSent (Sent.mk x.l (strOf dn.2.1.D)) X_5 q_5) (IntKind.i64.wrap (((mGet kSent (Sent.mk x.l (strOf dn.2.1.D)) vc1).getD 0) - 1)) (xEntX kSent (Sent.mk x.l (strOf dn.2.1.D)) 0 X_5 q_5))) rfl (mSet kSent (Sent.mk x.l (strOf dn.2.1.D)) (IntKind.i64.wrap (((mGet kSent (Sent.mk x.l (strOf dn.2.1.D)) vc1).getD 0) - 1)) vc1) (by rw [xEnt_set hn_5 hl_5]; exact mSet_perm hp_5 (ho_5.perm hp_5.symm)) ?_
       refine Awp.consP C ?_
       refine rvP C (.mp 20) ?_
       refine rvP C (.agg [.pv (.lit (.int .i64 x.l.from_)), .pv (.lit (.int .i64 x.l.to)), .pv (.lit (.string (strOf dn.2.1.D)))]) ?_
       refine rvc_un (rexec_lookup hP C rfl (Sent.mk x.l (strOf dn.2.1.D)) 0 rfl rfl rfl rfl rfl rfl kSent_ok rfl (.pv (.lit (.int .i64 ((mGet kSent (Sent.mk x.l (strOf dn.2.1.D)) (mSet kSent (Sent.mk x.l (strOf dn.2.1.D)) (IntKind.i64.wrap (((mGet kSent (Sent.mk x.l (strOf dn.2.1.D)) vc1).getD 0) - 1)) vc1)).getD 0)))) rfl ?_)
       refine rvP C (.pv (.lit (.bool (decide (((mGet kSent (Sent.mk x.l (strOf dn.2.1.D)) (mSet kSent (Sent.mk x.l (strOf dn.2.1.D)) (IntKind.i64.wrap (((mGet kSent (Sent.mk x.l (strOf dn.2.1.D)) vc1).getD 0) - 1)) vc1)).getD 0) < 0))))) ?_
       refine rvc_nil ?_
       refine Awp.cond (b := (decide (((mGet kSent (Sent.mk x.l (strOf dn.2.1.D)) (mSet kSent (Sent.mk x.l (strOf dn.2.1.D)) (IntKind.i64.wrap (((mGet kSent (Sent.mk x.l (strOf dn.2.1.D)) vc1).getD 0) - 1)) vc1)).getD 0) < 0))) rfl (fun h22 => ?_) (fun h22 => ?_)
       ·
        replace hR := of_true h22 hR
        refine Awp.consP C ?_
        refine rvP C (.pv (.lit (.bool false))) ?_
        refine rvc_nil ?_
        refine Awp.ret ?_
        subst hR
        exact ⟨.inl rfl, rfl⟩
       ·
        replace hR := of_false h22 hR
        refine Awp.skip ?_
        refine Awp.regionP C ?_
        refine rvP C (.pv (.lit (.int .i64 (IntKind.i64.wrap ((i : Int) + 1))))) ?_
        refine rvP C (.pv (.lit (.int .i64 (IntKind.i64.wrap ((i : Int) + 1))))) ?_
        refine rvc_nil ?_
        refine ⟨h4, (dn.1, (mSet kSent (Sent.mk x.l (strOf dn.2.1.D)) (IntKind.i64.wrap (((mGet kSent (Sent.mk x.l (strOf dn.2.1.D)) vc1).getD 0) - 1)) vc1)), ?_, ?_⟩
        · exact ⟨hR, hf0_dn⟩
        · exact ⟨fun b => b, WeakerR.ofL (Ks := [19, 20, 519]) hI ⟨⟨rfl, rfl⟩, ⟨rfl, rfl⟩, ⟨rfl, rfl⟩, ⟨rfl, rfl⟩, ⟨lit_cast (wrap_i64 (by omega) (by omega)), rfl⟩, trivial⟩ (okH_map rfl rfl rfl (okH_cons rfl rfl rfl rfl (okH_map rfl rfl rfl (okH_nil)))) rfl⟩
     ·
      replace hR := of_false h20 hR
      refine Awp.skip ?_
      refine Awp.regionP C ?_
      refine rvP C (.pv (.lit (.int .i64 (IntKind.i64.wrap ((i : Int) + 1))))) ?_
      refine rvP C (.pv (.lit (.int .i64 (IntKind.i64.wrap ((i : Int) + 1))))) ?_
      refine rvc_nil ?_
      refine ⟨h4, (dn.1, vc1), ?_, ?_⟩
      · exact ⟨hR, hf0_dn⟩
      · exact ⟨fun b => b, WeakerR.ofL (Ks := [19, 20, 519]) hI ⟨⟨rfl, rfl⟩, ⟨rfl, rfl⟩, ⟨rfl, rfl⟩, ⟨rfl, rfl⟩, ⟨lit_cast (wrap_i64 (by omega) (by omega)), rfl⟩, trivial⟩ (okH_map rfl rfl rfl (okH_cons rfl rfl rfl rfl (okH_map rfl rfl rfl (okH_nil)))) rfl⟩
  ·
   have h4 : ¬ i < l.D.length := by have := of_decide_eq_false h3; omega
   rw [drop_end h4] at hR
   refine Awp.exit ?_
   refine Awp.consP C ?_
   refine rvc_un (rexec_call hP C rfl rfl rfl (awake_calls ) ?_)
   refine rvP C (.pv (.lit (.bool (awake )))) ?_
   refine rvc_nil ?_
   refine Awp.ret ?_
   subst hR
   exact ⟨.inl rfl, rfl⟩
end Go.Proofs.Ytpeeofofagfooaa
/- A law: room. No conditions. -/
namespace Go.Proofs.Ytpeeofofagfooaa
open Go.Am
end Go.Proofs.Ytpeeofofagfooaa
/- The law LinksRoom: no link ever has more than eight. No conditions. -/
namespace Go.Proofs.Ytpeeofofagfooaa
open Go.Am
theorem awake_true : awake = true := by decide +kernel
end Go.Proofs.Ytpeeofofagfooaa
/- The law LinksOnce: what comes was sent, and no oftener. No conditions. -/
namespace Go.Proofs.Ytpeeofofagfooaa
open Go.Am
instance : DecidableEq Link := fun a b => decidable_of_iff (kLink.eq a b = true) link_eq
theorem wrapU (x : Int) : IntKind.u64.wrap x = x % 18446744073709551616 := rfl
section maps
variable {κ β : Type} {KE : KEnc κ}
theorem mGet_mSet (k k' : κ) (x : β) : ∀ (D : List (κ × β)), mGet KE k' (mSet KE k x D) = if KE.eq k' k = true then some x else mGet KE k' D
  | [] => by simp only [mSet, mGet]
  | e :: D => by
    unfold mSet
    by_cases h : KE.eq k e.1 = true
    · rw [if_pos h]
      have he := (KE.spec _ _).1 h
      simp only [mGet]
      by_cases h2 : KE.eq k' e.1 = true
      · have : KE.eq k' k = true := (KE.spec _ _).2 (((KE.spec _ _).1 h2).trans he.symm)
        rw [if_pos h2, if_pos this]
      · have : ¬ KE.eq k' k = true := fun h3 => h2 ((KE.spec _ _).2 (((KE.spec _ _).1 h3).trans he))
        rw [if_neg h2, if_neg this, if_neg h2]
    · rw [if_neg h]
      simp only [mGet]
      by_cases h2 : KE.eq k' e.1 = true
      · have : ¬ KE.eq k' k = true := fun h3 => h ((KE.spec _ _).2 (((KE.spec _ _).1 h3).symm.trans ((KE.spec _ _).1 h2)))
        rw [if_pos h2, if_neg this, if_pos h2]
      · rw [if_neg h2, if_neg h2, mGet_mSet k k' x D]
theorem mGet_none_of {k : κ} : ∀ {D : List (κ × β)}, (∀ e ∈ D, ¬ KE.eq k e.1 = true) → mGet KE k D = none
  | [], _ => rfl
  | e :: D, h => by
    unfold mGet
    rw [if_neg (h e (List.mem_cons_self ..))]
    exact mGet_none_of fun e he => h e (List.mem_cons_of_mem _ he)
theorem mGet_mDel (k k' : κ) : ∀ (D : List (κ × β)), mOnce KE D → mGet KE k' (mDel KE k D) = if KE.eq k' k = true then none else mGet KE k' D
  | [], _ => by simp [mDel, mGet]
  | e :: D, h => by
    unfold mDel
    by_cases h1 : KE.eq k e.1 = true
    · rw [if_pos h1]
      have he := (KE.spec _ _).1 h1
      by_cases h2 : KE.eq k' k = true
      · rw [if_pos h2]
        refine mGet_none_of fun f hf h3 => ?_
        unfold mOnce at h
        rw [List.map_cons, List.nodup_cons] at h
        refine h.1 (List.mem_map.2 ⟨f, hf, ?_⟩)
        rw [← he, ← (KE.spec _ _).1 h2, (KE.spec _ _).1 h3]
      · have : ¬ KE.eq k' e.1 = true := fun h3 => h2 ((KE.spec _ _).2 (((KE.spec _ _).1 h3).trans he.symm))
        rw [if_neg h2, mGet, if_neg this]
    · rw [if_neg h1]
      simp only [mGet]
      by_cases h2 : KE.eq k' e.1 = true
      · have : ¬ KE.eq k' k = true := fun h3 => h1 ((KE.spec _ _).2 (((KE.spec _ _).1 h3).symm.trans ((KE.spec _ _).1 h2)))
        rw [if_pos h2, if_neg this, if_pos h2]
      · rw [if_neg h2, if_neg h2, mGet_mDel k k' D h.tail]
theorem mGet_filter {p : κ → Bool} (hp : ∀ a b, KE.eq a b = true → p a = p b) (k : κ) : ∀ (D : List (κ × β)), mGet KE k (D.filter fun e => p e.1) = if p k then mGet KE k D else none
  | [] => by simp [mGet]
  | e :: D => by
    rw [List.filter_cons]
    by_cases h1 : KE.eq k e.1 = true
    · have := hp _ _ h1
      by_cases h2 : p e.1 = true
      · rw [if_pos h2, this, if_pos h2, mGet, if_pos h1, mGet, if_pos h1]
      · rw [if_neg h2, mGet_filter hp k D, this, if_neg h2, if_neg h2]
    · by_cases h2 : p e.1 = true
      · rw [if_pos h2, mGet, if_neg h1, mGet_filter hp k D, mGet, if_neg h1]
      · rw [if_neg h2, mGet_filter hp k D, mGet, if_neg h1]
end maps
theorem qOf_set (D : List (Link × Que)) (l l' : Link) (q : Que) : qOf (mSet kLink l q D) l' = if l' = l then q else qOf D l' := by
  unfold qOf
  rw [mGet_mSet]
  by_cases h : l' = l
  · rw [if_pos (link_eq.2 h), if_pos h]; rfl
  · rw [if_neg (fun h2 => h (link_eq.1 h2)), if_neg h]
theorem qOf_del {D : List (Link × Que)} (hD : mOnce kLink D) (l l' : Link) : qOf (mDel kLink l D) l' = if l' = l then Sl.mk true [] else qOf D l' := by
  unfold qOf
  rw [mGet_mDel _ _ _ hD]
  by_cases h : l' = l
  · rw [if_pos (link_eq.2 h), if_pos h]; rfl
  · rw [if_neg (fun h2 => h (link_eq.1 h2)), if_neg h]
theorem qOf_filter (D : List (Link × Que)) (p : Link → Bool) (l : Link) : qOf (D.filter fun e => p e.1) l = if p l then qOf D l else Sl.mk true [] := by
  unfold qOf
  rw [mGet_filter (fun a b h => by rw [link_eq.1 h])]
  cases p l <;> rfl
/-- How often these bytes are on a link. -/
def occ (D : List (Link × Que)) (l : Link) (b : ByteArray) : Nat := (qOf D l).D.countP fun x => decide (strOf x.D = b)
def cnt (C : List (Sent × Int)) (l : Link) (b : ByteArray) : Int := (mGet kSent ⟨l, b⟩ C).getD 0
theorem sent_eq {a b : Sent} : (kSent.eq a b = true) ↔ a = b := by
  rw [kSent.spec]
  obtain ⟨⟨a1, a2⟩, a3⟩ := a
  obtain ⟨⟨b1, b2⟩, b3⟩ := b
  simp [kSent, and_assoc]
theorem cnt_set (C : List (Sent × Int)) (l l' : Link) (b b' : ByteArray) (v : Int) : cnt (mSet kSent ⟨l, b⟩ v C) l' b' = if l' = l ∧ b' = b then v else cnt C l' b' := by
  unfold cnt
  rw [mGet_mSet]
  by_cases h : l' = l ∧ b' = b
  · obtain ⟨rfl, rfl⟩ := h
    rw [if_pos (sent_eq.2 rfl), if_pos ⟨rfl, rfl⟩]; rfl
  · rw [if_neg (fun h2 => h (by have := sent_eq.1 h2; injection this with h3 h4; exact ⟨h3, h4⟩)), if_neg h]
structure Inv (n : Net) (C : List (Sent × Int)) (N : Nat) : Prop where
  ok : okN n
  le : ∀ l b, (occ n.of_ l b : Int) ≤ cnt C l b
  hi : ∀ l b, cnt C l b ≤ (N : Int)
theorem Inv.more {n n' : Net} {C : List (Sent × Int)} {N : Nat} (h : Inv n C N) (hN : N ≤ 1000000) (ho : okN n') (l : Link) (b : ByteArray) (hq : ∀ l' b', occ n'.of_ l' b' ≤ occ n.of_ l' b' + if l' = l ∧ b' = b then 1 else 0) : Inv n' (mSet kSent ⟨l, b⟩ (IntKind.i64.wrap ((mGet kSent ⟨l, b⟩ C).getD 0 + 1)) C) (N + 1) := by
  have e : IntKind.i64.wrap ((mGet kSent ⟨l, b⟩ C).getD 0 + 1) = cnt C l b + 1 := by
    have h1 := h.le l b
    have h2 := h.hi l b
    exact wrapI _ (by show -9223372036854775808 ≤ cnt C l b + 1 ∧ cnt C l b + 1 ≤ 9223372036854775807; omega)
  rw [e]
  refine ⟨ho, fun l' b' => ?_, fun l' b' => ?_⟩
  · rw [cnt_set]
    have h1 := hq l' b'
    have h2 := h.le l' b'
    by_cases hh : l' = l ∧ b' = b
    · rw [if_pos hh] at h1 ⊢
      rw [hh.1, hh.2] at h1 h2 ⊢
      omega
    · rw [if_neg hh] at h1 ⊢; omega
  · rw [cnt_set]
    have h2 := h.hi l' b'
    have h3 := h.hi l b
    split <;> omega
theorem Inv.less {n n' : Net} {C : List (Sent × Int)} {N : Nat} (h : Inv n C N) (ho : okN n') (hq : ∀ l' b', occ n'.of_ l' b' ≤ occ n.of_ l' b') : Inv n' C (N + 1) :=
  ⟨ho, fun l b => by have h1 := h.le l b; have h2 := hq l b; omega, fun l b => by have h2 := h.hi l b; omega⟩
theorem Inv.take {n n' : Net} {C : List (Sent × Int)} {N : Nat} (h : Inv n C N) (hN : N ≤ 1000000) (ho : okN n') (l : Link) (b : ByteArray) (hq : ∀ l' b', (occ n'.of_ l' b' + if l' = l ∧ b' = b then 1 else 0) ≤ occ n.of_ l' b') :
    decide ((mGet kSent ⟨l, b⟩ (mSet kSent ⟨l, b⟩ (IntKind.i64.wrap ((mGet kSent ⟨l, b⟩ C).getD 0 - 1)) C)).getD 0 < 0) = false ∧ Inv n' (mSet kSent ⟨l, b⟩ (IntKind.i64.wrap ((mGet kSent ⟨l, b⟩ C).getD 0 - 1)) C) (N + 1) := by
  have h1 := h.le l b
  have h2 := h.hi l b
  have h3 := hq l b
  rw [if_pos ⟨rfl, rfl⟩] at h3
  have e : IntKind.i64.wrap ((mGet kSent ⟨l, b⟩ C).getD 0 - 1) = cnt C l b - 1 :=
    wrapI _ (by show -9223372036854775808 ≤ cnt C l b - 1 ∧ cnt C l b - 1 ≤ 9223372036854775807; omega)
  rw [e]
  refine ⟨?_, ho, fun l' b' => ?_, fun l' b' => ?_⟩
  · have := cnt_set C l l b b (cnt C l b - 1)
    rw [if_pos ⟨rfl, rfl⟩] at this
    exact decide_eq_false (by show ¬ cnt (mSet kSent ⟨l, b⟩ (cnt C l b - 1) C) l b < 0; rw [this]; omega)
  · rw [cnt_set]
    have g1 := hq l' b'
    have g2 := h.le l' b'
    by_cases hh : l' = l ∧ b' = b
    · rw [if_pos hh] at g1 ⊢
      rw [hh.1, hh.2] at g1 g2 ⊢
      omega
    · rw [if_neg hh] at g1 ⊢; omega
  · rw [cnt_set]
    have g2 := h.hi l' b'
    split <;> omega
theorem countP_erase {α : Type} [Inhabited α] (p : α → Bool) (D : List α) (i : Nat) (hi : i < D.length) : (D.eraseIdx i).countP p + (if p D[i]! = true then 1 else 0) = D.countP p := by
  rw [getElem!_pos D i hi]
  conv => rhs; rw [← List.take_append_drop i D, List.drop_eq_getElem_cons hi]
  rw [List.eraseIdx_eq_take_drop_succ, List.countP_append, List.countP_append, List.countP_cons]
  omega
theorem occ_set (D : List (Link × Que)) (l l' : Link) (q : Que) (b : ByteArray) : occ (mSet kLink l q D) l' b = if l' = l then q.D.countP (fun x => decide (strOf x.D = b)) else occ D l' b := by
  unfold occ
  rw [qOf_set]
  split <;> rfl
theorem cut_occ {n : Net} (ho : okN n) {l : Link} {i : Int} (hi : 0 ≤ i ∧ i < ((qOf n.of_ l).D.length : Int)) (l' : Link) (b' : ByteArray) : (occ (nCut n l i).1.of_ l' b' + if l' = l ∧ b' = strOf (nCut n l i).2.D then 1 else 0) ≤ occ n.of_ l' b' := by
  have key := countP_erase (fun x => decide (strOf x.D = b')) (qOf n.of_ l).D i.toNat (by omega)
  unfold nCut
  cases h1 : ((List.eraseIdx (((mGet kLink l n.of_).getD (Sl.mk true [])).D) (i).toNat).length : Int) == 0
  · show (occ (mSet kLink l _ n.of_) l' b' + if l' = l ∧ b' = strOf ((qOf n.of_ l).D[i.toNat]!).D then 1 else 0) ≤ _
    rw [occ_set]
    by_cases hl : l' = l
    · subst hl
      rw [if_pos rfl]
      show ((qOf n.of_ l').D.eraseIdx i.toNat).countP _ + _ ≤ (qOf n.of_ l').D.countP _
      by_cases hb : b' = strOf ((qOf n.of_ l').D[i.toNat]!).D
      · rw [if_pos ⟨rfl, hb⟩]
        rw [if_pos (by rw [hb]; simp)] at key
        omega
      · rw [if_neg (fun h => hb h.2)]
        omega
    · rw [if_neg hl, if_neg (fun h => hl h.1)]
      exact Nat.le_refl _
  · have h0 : ((qOf n.of_ l).D.eraseIdx i.toNat) = [] := by
      have : (List.eraseIdx (((mGet kLink l n.of_).getD (Sl.mk true [])).D) (i).toNat).length = 0 := by simpa using h1
      exact List.eq_nil_of_length_eq_zero this
    rw [h0] at key
    show (occ (mDel kLink l n.of_) l' b' + if l' = l ∧ b' = strOf ((qOf n.of_ l).D[i.toNat]!).D then 1 else 0) ≤ _
    have hd : occ (mDel kLink l n.of_) l' b' = if l' = l then 0 else occ n.of_ l' b' := by
      unfold occ
      rw [qOf_del ho.1]
      split <;> rfl
    rw [hd]
    by_cases hl : l' = l
    · subst hl
      rw [if_pos rfl]
      show _ ≤ (qOf n.of_ l').D.countP _
      by_cases hb : b' = strOf ((qOf n.of_ l').D[i.toNat]!).D
      · rw [if_pos ⟨rfl, hb⟩]
        rw [if_pos (by rw [hb]; simp)] at key
        simp at key
        omega
      · rw [if_neg (fun h => hb h.2)]
        omega
    · rw [if_neg hl, if_neg (fun h => hl h.1)]
      exact Nat.le_refl _
theorem clone_D {b : Sl Int} (h : b.nil = true → b.D = []) : (cloneBytes b).D = b.D := by
  unfold cloneBytes
  cases hb : b.nil
  · rfl
  · rw [h hb]; rfl
theorem more_occ {n : Net} (l : Link) (x : Sl Int) (D : List (Sl Int)) (hD : D = (qOf n.of_ l).D ++ [x]) (f : Bool) (l' : Link) (b' : ByteArray) : occ (mSet kLink l (Sl.mk f D) n.of_) l' b' ≤ occ n.of_ l' b' + if l' = l ∧ b' = strOf x.D then 1 else 0 := by
  rw [occ_set]
  by_cases hl : l' = l
  · subst hl
    rw [if_pos rfl, hD]
    show ((qOf n.of_ l').D ++ [x]).countP _ ≤ (qOf n.of_ l').D.countP _ + _
    rw [List.countP_append, List.countP_cons, List.countP_nil]
    by_cases hb : strOf x.D = b'
    · rw [if_pos (by simp [hb]), if_pos ⟨rfl, hb.symm⟩]; omega
    · rw [if_neg (by simpa using hb), if_neg (fun h => hb h.2.symm)]; omega
  · rw [if_neg hl]; omega
theorem send_occ {n : Net} (ho : okN n) (l : Link) (b : Sl Int) (hb : b.nil = true → b.D = []) : ((nSend n l b).2 = 0 ∧ ∀ l' b', occ (nSend n l b).1.of_ l' b' ≤ occ n.of_ l' b' + if l' = l ∧ b' = strOf b.D then 1 else 0) ∨ ((nSend n l b).2 ≠ 0 ∧ (nSend n l b).1.of_ = n.of_) := by
  have hq := (ho.q l).1
  unfold nSend
  cases nDead n
  case true => exact .inr ⟨(by decide : (6 : Int) ≠ 0), rfl⟩
  rw [cond_false]
  cases !(fitsL l)
  case true => exact .inr ⟨(by decide : (40 : Int) ≠ 0), rfl⟩
  rw [cond_false]
  cases decide ((b.D.length : Int) > 8192)
  case true => exact .inr ⟨(by decide : (4 : Int) ≠ 0), rfl⟩
  rw [cond_false]
  cases decide (((((mGet kLink l n.of_).getD (Sl.mk true [])).D).length : Int) ≥ 8)
  case true => exact .inr ⟨(by decide : (7 : Int) ≠ 0), rfl⟩
  rw [cond_false]
  rw [← clone_D hb]
  cases h5 : ((mGet kLink l n.of_).getD (Sl.mk true [])).nil
  · exact .inl ⟨rfl, fun l' b' => more_occ l (cloneBytes b) _ rfl false l' b'⟩
  · exact .inl ⟨rfl, fun l' b' => more_occ l (cloneBytes b) _ (by rw [hq h5]; rfl) false l' b'⟩
theorem double_occ {n : Net} (ho : okN n) (l : Link) (i : Int) : ((nDouble n l i).2 = 0 ∧ ∀ l' b', occ (nDouble n l i).1.of_ l' b' ≤ occ n.of_ l' b' + if l' = l ∧ b' = strOf (nPeek (nDouble n l i).1 l i).1.D then 1 else 0) ∨ ((nDouble n l i).2 ≠ 0 ∧ (nDouble n l i).1.of_ = n.of_) := by
  have ho2 := double_ok ho l i
  revert ho2
  unfold nDouble
  cases h1 : able n l i != 0
  case true => exact fun _ => .inr ⟨by simpa using h1, rfl⟩
  rw [cond_false]
  obtain ⟨ha, hnil⟩ := able_q ho h1
  cases decide (((((mGet kLink l n.of_).getD (Sl.mk true [])).D).length : Int) ≥ 8)
  case true => exact fun _ => .inr ⟨(by decide : (7 : Int) ≠ 0), rfl⟩
  rw [cond_false]
  intro ho2
  refine .inl ⟨rfl, fun l' b' => ?_⟩
  have hp : strOf (nPeek (Net.mk (mSet kLink l (Sl.mk false ((((mGet kLink l n.of_).getD (Sl.mk true [])).D) ++ [(((mGet kLink l n.of_).getD (Sl.mk true [])).D)[i.toNat]!])) n.of_) n.side n.lost n.made) l i).1.D = strOf (((mGet kLink l n.of_).getD (Sl.mk true [])).D[i.toNat]!).D := by
    have e0 : able n l i = 0 := eq_of_bne_false h1
    have hq : (mGet kLink l (mSet kLink l (Sl.mk false ((((mGet kLink l n.of_).getD (Sl.mk true [])).D) ++ [(((mGet kLink l n.of_).getD (Sl.mk true [])).D)[i.toNat]!])) n.of_)).getD (Sl.mk true []) = Sl.mk false ((((mGet kLink l n.of_).getD (Sl.mk true [])).D) ++ [(((mGet kLink l n.of_).getD (Sl.mk true [])).D)[i.toNat]!]) := by
      rw [mGet_mSet, if_pos (link_eq.2 rfl)]; rfl
    have hok : okB (((mGet kLink l n.of_).getD (Sl.mk true [])).D[i.toNat]!) := by
      rw [getElem!_pos _ i.toNat (by omega)]
      exact (ho.q l).2.2 _ (List.getElem_mem _)
    unfold nPeek able
    unfold able at e0
    simp only [nDead] at e0 ⊢
    cases hm : n.made
    · rw [hm] at e0; cases e0
    · rw [hm] at e0
      simp only [Bool.not_true, cond_false] at e0 ⊢
      cases hf : fitsL l
      · rw [hf] at e0; cases e0
      · simp only [Bool.not_true, cond_false]
        rw [hq]
        rw [decide_eq_false (by omega), cond_false]
        rw [decide_eq_false (by show ¬ i ≥ (((((mGet kLink l n.of_).getD (Sl.mk true [])).D) ++ [_]).length : Int); rw [List.length_append, List.length_singleton]; omega), cond_false]
        rw [show ((0 : Int) != 0) = false from rfl, cond_false]
        have e1 : (((((mGet kLink l n.of_).getD (Sl.mk true [])).D) ++ [(((mGet kLink l n.of_).getD (Sl.mk true [])).D)[i.toNat]!]))[i.toNat]! = (((mGet kLink l n.of_).getD (Sl.mk true [])).D)[i.toNat]! := by
          rw [getElem!_pos (((((mGet kLink l n.of_).getD (Sl.mk true [])).D) ++ [(((mGet kLink l n.of_).getD (Sl.mk true [])).D)[i.toNat]!])) i.toNat (by rw [List.length_append, List.length_singleton]; omega), List.getElem_append_left (by omega), getElem!_pos _ i.toNat (by omega)]
        show strOf (cloneBytes ((((((mGet kLink l n.of_).getD (Sl.mk true [])).D) ++ [(((mGet kLink l n.of_).getD (Sl.mk true [])).D)[i.toNat]!]))[i.toNat]!)).D = _
        rw [e1, clone_D hok.1]
  rw [hp]
  exact more_occ l _ _ rfl false l' b'
theorem lawOnce_l0_true : ∀ (l : List Do) (i : Nat) (n : Net) (C : List (Sent × Int)) (N : Nat), Inv n C N → N + l.length ≤ 1000000 → (∀ x ∈ l, x.b.nil = true → x.b.D = []) → lawOnce_l0 l i n C = true
  | [], _, _, _, _, _, _, _ => awake_true
  | x :: xs, i, n, C, N, h, hN, hw => by
    rw [List.length_cons] at hN
    have ih := fun n' C' (h' : Inv n' C' (N + 1)) => lawOnce_l0_true xs (i + 1) n' C' (N + 1) h' (by omega) fun y hy => hw y (List.mem_cons_of_mem _ hy)
    have ho := does_ok h.ok x
    have hwx := hw x (List.mem_cons_self ..)
    have same : ∀ r : Net × (Sl Int) × Bool × Int, r.1.of_ = n.of_ → ∀ l' b', occ r.1.of_ l' b' ≤ occ n.of_ l' b' := fun r e l' b' => by rw [e]; exact Nat.le_refl _
    unfold lawOnce_l0
    have hrange : 0 ≤ (IntKind.i64.wrap ((IntKind.u64.wrap x.op).tmod 9)) ∧ (IntKind.i64.wrap ((IntKind.u64.wrap x.op).tmod 9)) ≤ 8 := by
      have h1 : 0 ≤ IntKind.u64.wrap x.op := by rw [wrapU]; omega
      have h2 : (IntKind.u64.wrap x.op).tmod 9 = IntKind.u64.wrap x.op % 9 := Int.tmod_eq_emod_of_nonneg h1
      rw [h2]
      have := wrapI (IntKind.u64.wrap x.op % 9)
      omega
    -- what a call does
    have hdoes : (decide ((IntKind.i64.wrap ((IntKind.u64.wrap x.op).tmod 9)) < 3) = true → does n x = ((nSend n x.l x.b).1, Sl.mk true [], false, (nSend n x.l x.b).2)) ∧
        ((IntKind.i64.wrap ((IntKind.u64.wrap x.op).tmod 9) == 6) = true → does n x = ((nDouble n x.l x.i).1, Sl.mk true [], false, (nDouble n x.l x.i).2)) ∧
        (decide ((IntKind.i64.wrap ((IntKind.u64.wrap x.op).tmod 9)) < 3) = false → (IntKind.i64.wrap ((IntKind.u64.wrap x.op).tmod 9) == 6) = false → ((does n x).2.2.1 = true ∧ ∀ l' b', (occ (does n x).1.of_ l' b' + if l' = x.l ∧ b' = strOf (does n x).2.1.D then 1 else 0) ≤ occ n.of_ l' b') ∨ ((does n x).2.2.1 = false ∧ ∀ l' b', occ (does n x).1.of_ l' b' ≤ occ n.of_ l' b')) := by
      unfold does
      generalize IntKind.i64.wrap ((IntKind.u64.wrap x.op).tmod 9) = o at hrange
      have htake : ((nTake n x.l x.i).2.2.1 = true ∧ ∀ l' b', (occ (nTake n x.l x.i).1.of_ l' b' + if l' = x.l ∧ b' = strOf (nTake n x.l x.i).2.1.D then 1 else 0) ≤ occ n.of_ l' b') ∨ ((nTake n x.l x.i).2.2.1 = false ∧ ∀ l' b', occ (nTake n x.l x.i).1.of_ l' b' ≤ occ n.of_ l' b') := by
        unfold nTake
        cases h1 : able n x.l x.i != 0
        · rw [cond_false]
          have hc := cut_occ h.ok (able_q h.ok h1).1
          cases !((mHas ((nCut n x.l x.i).1.side) x.l.from_) == (mHas ((nCut n x.l x.i).1.side) x.l.to))
          · have hm : okB (nCut n x.l x.i).2 := by
              have hr := (able_q h.ok h1).1
              have e : (nCut n x.l x.i).2 = (qOf n.of_ x.l).D[x.i.toNat]! := by
                unfold nCut
                cases ((List.eraseIdx (((mGet kLink x.l n.of_).getD (Sl.mk true [])).D) (x.i).toNat).length : Int) == 0 <;> rfl
              rw [e, getElem!_pos _ x.i.toNat (by unfold qOf; omega)]
              exact (h.ok.q x.l).2.2 _ (List.getElem_mem _)
            refine .inl ⟨rfl, fun l' b' => ?_⟩
            have := hc l' b'
            show (occ (nCut n x.l x.i).1.of_ l' b' + if l' = x.l ∧ b' = strOf (cloneBytes (nCut n x.l x.i).2).D then 1 else 0) ≤ _
            rw [clone_D hm.1]; exact this
          · exact .inr ⟨rfl, fun l' b' => Nat.le_trans (Nat.le_add_right _ _) (hc l' b')⟩
        · exact .inr ⟨rfl, fun _ _ => Nat.le_refl _⟩
      have hlose : ∀ l' b', occ (nLose n x.l x.i).1.of_ l' b' ≤ occ n.of_ l' b' := fun l' b' => by
        unfold nLose
        cases h1 : able n x.l x.i != 0
        · exact Nat.le_trans (Nat.le_add_right _ _) (cut_occ h.ok (able_q h.ok h1).1 l' b')
        · exact Nat.le_refl _
      have hwall : ∀ l' b', occ (nWall n x.side).1.of_ l' b' ≤ occ n.of_ l' b' := fun l' b' => by
        unfold nWall
        cases nDead n <;> exact Nat.le_refl _
      have hforget : ∀ l' b', occ (nForget n x.i).1.of_ l' b' ≤ occ n.of_ l' b' := fun l' b' => by
        unfold nForget
        cases nDead n
        · show occ (n.of_.filter fun e => keepF x.i e.1) l' b' ≤ _
          unfold occ
          rw [qOf_filter]
          split
          · exact Nat.le_refl _
          · exact Nat.zero_le _
        · exact Nat.le_refl _
      refine ⟨fun h1 => ?_, fun h1 => ?_, fun h1 h2 => ?_⟩
      · have h1 := of_decide_eq_true h1
        rw [show (o == 3) = false by simp; omega, show (o == 4) = false by simp; omega, show (o == 5) = false by simp; omega, show (o == 6) = false by simp; omega, show (o == 7) = false by simp; omega, show (o == 8) = false by simp; omega]
        rfl
      · have h1 : o = 6 := by simpa using h1
        subst h1; rfl
      · have h1 := of_decide_eq_false h1
        have h2 : o ≠ 6 := by simpa using h2
        by_cases o3 : o = 3
        · subst o3; exact htake
        by_cases o4 : o = 4
        · subst o4; exact htake
        by_cases o5 : o = 5
        · subst o5; exact .inr ⟨rfl, hlose⟩
        by_cases o7 : o = 7
        · subst o7; exact .inr ⟨rfl, hwall⟩
        have o8 : o = 8 := by omega
        subst o8; exact .inr ⟨rfl, hforget⟩
    obtain ⟨d1, d2, d3⟩ := hdoes
    generalize hr : does n x = r at *
    generalize IntKind.i64.wrap ((IntKind.u64.wrap x.op).tmod 9) = o at *
    cases c1 : decide (o < 3)
    · rw [cond_false]
      cases c2 : o == 6
      · rw [cond_false]
        rcases d3 c1 c2 with ⟨e1, e2⟩ | ⟨e1, e2⟩
        · rw [e1, cond_true]
          obtain ⟨q1, q2⟩ := h.take (by omega) ho x.l _ e2
          rw [q1, cond_false]
          exact ih _ _ q2
        · rw [e1, cond_false]
          exact ih _ _ (h.less ho e2)
      · rw [cond_true]
        have e := d2 c2
        rcases double_occ h.ok x.l x.i with ⟨e1, e2⟩ | ⟨e1, e2⟩
        · rw [e] at ho ⊢
          rw [show (((nDouble n x.l x.i).1, Sl.mk true [], false, (nDouble n x.l x.i).2) : Net × (Sl Int) × Bool × Int).2.2.2 = 0 from e1]
          exact ih _ _ (h.more (by omega) ho x.l _ e2)
        · rw [e] at ho ⊢
          rw [show ((((nDouble n x.l x.i).1, Sl.mk true [], false, (nDouble n x.l x.i).2) : Net × (Sl Int) × Bool × Int).2.2.2 == 0) = false by simpa using e1, cond_false]
          exact ih _ _ (h.less ho (same _ e2))
    · rw [cond_true]
      have e := d1 c1
      have c2 : (o == 6) = false := by have := of_decide_eq_true c1; simp; omega
      rcases send_occ h.ok x.l x.b hwx with ⟨e1, e2⟩ | ⟨e1, e2⟩
      · rw [e] at ho ⊢
        rw [show (((nSend n x.l x.b).1, Sl.mk true [], false, (nSend n x.l x.b).2) : Net × (Sl Int) × Bool × Int).2.2.2 = 0 from e1]
        exact ih _ _ (h.more (by omega) ho x.l _ e2)
      · rw [e] at ho ⊢
        rw [show ((((nSend n x.l x.b).1, Sl.mk true [], false, (nSend n x.l x.b).2) : Net × (Sl Int) × Bool × Int).2.2.2 == 0) = false by simpa using e1, cond_false, c2, cond_false]
        exact ih _ _ (h.less ho (same _ e2))
theorem lawOnce_true (l : Sl Do) (hw : ∀ x ∈ l.D, x.b.nil = true → x.b.D = []) : lawOnce l = true := by
  unfold lawOnce
  cases h : !(short (Sl.mk false [l]))
  · rw [cond_false]
    have hl := (short_ok h l (by simp)).1
    refine lawOnce_l0_true l.D 0 newN [] 0 ⟨newN_ok, fun l b => ?_, fun l b => ?_⟩ (by omega) hw
    · exact Int.le_refl _
    · exact Int.le_refl _
  · rw [cond_true]; exact awake_true
end Go.Proofs.Ytpeeofofagfooaa
/- Inputs of chapter 4, as plain values. No conditions. -/
namespace Go.Proofs.Ytpeeofofagfooaa
open Go.Am
set_option maxRecDepth 100000 in
theorem flat3 {m : Nat} {ps : List PV} (h : Flat Try.prog (m + 1) 3 ps) : ∃ n, ps = [.lit (.int .i64 n)] ∧ (Lit.int .i64 n).wf = true := by
  unfold Flat at h
  rw [Try.underlying3] at h
  exact h
def WT29 (x : Link) : Prop := (Lit.int .i64 x.from_).wf = true ∧ (Lit.int .i64 x.to).wf = true
set_option maxRecDepth 100000 in
theorem flat29 {m : Nat} {ps : List PV} (h : Flat Try.prog (m + 2) 29 ps) : ∃ x : Link, ps = eLink.enc x ∧ WT29 x := by
  unfold Flat at h
  rw [Try.underlying29] at h
  obtain ⟨a0, b0, e0, h0, a1, b1, e1, h1, el⟩ := h
  obtain ⟨x0, rfl, w0⟩ := flat3 (m := m + 0) h0
  obtain ⟨x1, rfl, w1⟩ := flat3 (m := m + 0) h1
  subst el
  subst e1
  subst e0
  exact ⟨⟨x0, x1⟩, rfl, w0, w1⟩
set_option maxRecDepth 100000 in
theorem flat5 {m : Nat} {ps : List PV} (h : Flat Try.prog (m + 1) 5 ps) : ∃ n, ps = [.lit (.int .u8 n)] ∧ (Lit.int .u8 n).wf = true := by
  unfold Flat at h
  rw [Try.underlying5] at h
  exact h
def WT30 (s : Sl Int) : Prop := s.D.length ≤ maxLen ∧ (s.nil = true → s.D = []) ∧ ∀ x ∈ s.D, (Lit.int .u8 x).wf = true
set_option maxRecDepth 100000 in
theorem flat30 {m : Nat} {ps : List PV} (h : Flat Try.prog (m + 2) 30 ps) : ∃ s : Sl Int, ps = [.sl (some s.nil) s.D.length (encL (eI .u8) s.D)] ∧ WT30 s := by
  unfold Flat at h
  rw [Try.underlying30] at h
  obtain ⟨b, D, rfl, h1, h2, h3⟩ := h
  obtain ⟨D2, e1, e2, e3⟩ := enc_list (e := (eI .u8)) (W := fun x => (Lit.int .u8 x).wf = true) D fun y hy => flat5 (h3 y hy)
  rw [e2, ← e1]
  exact ⟨⟨b, D2⟩, rfl, (by show D2.length ≤ _; rw [e1]; exact h1), (fun hb => by have := h2 hb; rw [this] at e1; exact List.eq_nil_of_length_eq_zero e1), e3⟩
set_option maxRecDepth 100000 in
theorem flat31 {m : Nat} {ps : List PV} (h : Flat Try.prog (m + 1) 31 ps) : ∃ n, ps = [.lit (.int .u64 n)] ∧ (Lit.int .u64 n).wf = true := by
  unfold Flat at h
  rw [Try.underlying31] at h
  exact h
def WT33 (x : Do) : Prop := (Lit.int .i64 x.op).wf = true ∧ (Lit.int .i64 x.i).wf = true ∧ WT29 x.l ∧ WT30 x.b ∧ (Lit.int .u64 x.side).wf = true
set_option maxRecDepth 100000 in
theorem flat33 {m : Nat} {ps : List PV} (h : Flat Try.prog (m + 3) 33 ps) : ∃ x : Do, ps = eDo.enc x ∧ WT33 x := by
  unfold Flat at h
  rw [Try.underlying33] at h
  obtain ⟨a0, b0, e0, h0, a1, b1, e1, h1, a2, b2, e2, h2, a3, b3, e3, h3, a4, b4, e4, h4, el⟩ := h
  obtain ⟨x0, rfl, w0⟩ := flat3 (m := m + 1) h0
  obtain ⟨x1, rfl, w1⟩ := flat3 (m := m + 1) h1
  obtain ⟨x2, rfl, w2⟩ := flat29 (m := m + 0) h2
  obtain ⟨x3, rfl, w3⟩ := flat30 (m := m + 0) h3
  obtain ⟨x4, rfl, w4⟩ := flat31 (m := m + 1) h4
  subst el
  subst e4
  subst e3
  subst e2
  subst e1
  subst e0
  exact ⟨⟨x0, x1, x2, x3, x4⟩, rfl, w0, w1, w2, w3, w4⟩
def WT22 (s : Sl Do) : Prop := s.D.length ≤ maxLen ∧ (s.nil = true → s.D = []) ∧ ∀ x ∈ s.D, WT33 x
set_option maxRecDepth 100000 in
theorem flat22 {m : Nat} {ps : List PV} (h : Flat Try.prog (m + 4) 22 ps) : ∃ s : Sl Do, ps = [.sl (some s.nil) s.D.length (encL eDo s.D)] ∧ WT22 s := by
  unfold Flat at h
  rw [Try.underlying22] at h
  obtain ⟨b, D, rfl, h1, h2, h3⟩ := h
  obtain ⟨D2, e1, e2, e3⟩ := enc_list (e := eDo) (W := fun x => WT33 x) D fun y hy => flat33 (h3 y hy)
  rw [e2, ← e1]
  exact ⟨⟨b, D2⟩, rfl, (by show D2.length ≤ _; rw [e1]; exact h1), (fun hb => by have := h2 hb; rw [this] at e1; exact List.eq_nil_of_length_eq_zero e1), e3⟩
end Go.Proofs.Ytpeeofofagfooaa
/- The contract of the law LinksOnce: it is true, whatever the input. No conditions. -/
namespace Go.Proofs.Ytpeeofofagfooaa
open Go.Am
theorem linksOnce_calls (l : Sl Do) (w : WT22 l) : PCalls Try.prog 3 [sS (some l.nil) eDo l.D] (.pv (.bool true)) := by
  have r := lawOnce_calls l (Nat.le_trans w.1 (by decide))
  rw [lawOnce_true l fun x hx => (w.2.2 x hx).2.2.2.1.2.1] at r
  exact r
end Go.Proofs.Ytpeeofofagfooaa
/- An abstract machine over the kit's calls, part 34: three rows of three numbers that are handed in. No conditions. -/
namespace Go.Am
section
variable {H : Type} {enc : TypeId × Value → H} {P : Program} {w : World} {base : Nat} {spare : Nat → Bool} {held : Bool}
end
end Go.Am
/- What all rows of this seat need: no knob is turned, the types are laid out. No conditions. -/
namespace Go.Proofs.Ytpeeofofagfooaa
open Go.Am
theorem own : ownKnob Try.prog.godebug = none := by kernel_rfl
theorem laidOut : laidOutB Try.prog = true := by kernel_rfl
end Go.Proofs.Ytpeeofofagfooaa
