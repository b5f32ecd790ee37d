import Derived.Test.YthnghkkbnhjlgaaDoorM1
import Derived.Test.YthnghkkbnhjlgaaDoorM2
import Derived.Test.YthnghkkbnhjlgaaDoorM3
import Derived.Test.YthnghkkbnhjlgaaDoorM4
import Derived.KernelRfl
/- Where a key stands. No conditions. -/
namespace Go.Proofs.YthnghkkbnhjlgaaDoor
open Go.Am
def bsearch_l0 (x : (Sl Seen)) (target : (Nat → Int)) (cmp : Seen → (Nat → Int) → Int) : Nat → Int → Int → Int × Bool
  | 0, _, _ => default
  | nn + 1, i, j => (bif (decide (i < j)) then (bif (decide ((cmp (Seen.mk (ofL [(x.D[(IntKind.i64.wrap (shrI .u64 (IntKind.u64.wrap (IntKind.i64.wrap (i + j))) 1)).toNat]!.key 0), (x.D[(IntKind.i64.wrap (shrI .u64 (IntKind.u64.wrap (IntKind.i64.wrap (i + j))) 1)).toNat]!.key 1), (x.D[(IntKind.i64.wrap (shrI .u64 (IntKind.u64.wrap (IntKind.i64.wrap (i + j))) 1)).toNat]!.key 2), (x.D[(IntKind.i64.wrap (shrI .u64 (IntKind.u64.wrap (IntKind.i64.wrap (i + j))) 1)).toNat]!.key 3), (x.D[(IntKind.i64.wrap (shrI .u64 (IntKind.u64.wrap (IntKind.i64.wrap (i + j))) 1)).toNat]!.key 4), (x.D[(IntKind.i64.wrap (shrI .u64 (IntKind.u64.wrap (IntKind.i64.wrap (i + j))) 1)).toNat]!.key 5), (x.D[(IntKind.i64.wrap (shrI .u64 (IntKind.u64.wrap (IntKind.i64.wrap (i + j))) 1)).toNat]!.key 6), (x.D[(IntKind.i64.wrap (shrI .u64 (IntKind.u64.wrap (IntKind.i64.wrap (i + j))) 1)).toNat]!.key 7)]) (x.D[(IntKind.i64.wrap (shrI .u64 (IntKind.u64.wrap (IntKind.i64.wrap (i + j))) 1)).toNat]!.ver)) target) < 0)) then bsearch_l0 x target cmp nn (IntKind.i64.wrap ((IntKind.i64.wrap (shrI .u64 (IntKind.u64.wrap (IntKind.i64.wrap (i + j))) 1)) + 1)) j else bsearch_l0 x target cmp nn i (IntKind.i64.wrap (shrI .u64 (IntKind.u64.wrap (IntKind.i64.wrap (i + j))) 1))) else (bif (decide (i < (x.D.length : Int))) then (i, ((cmp (Seen.mk (ofL [(x.D[i.toNat]!.key 0), (x.D[i.toNat]!.key 1), (x.D[i.toNat]!.key 2), (x.D[i.toNat]!.key 3), (x.D[i.toNat]!.key 4), (x.D[i.toNat]!.key 5), (x.D[i.toNat]!.key 6), (x.D[i.toNat]!.key 7)]) (x.D[i.toNat]!.ver)) target) == 0)) else (i, false)))
def bsearch (x : (Sl Seen)) (target : (Nat → Int)) (cmp : Seen → (Nat → Int) → Int) : Int × Bool :=
  bsearch_l0 x target cmp (((x.D.length : Int) - 0).toNat + 1) 0 (x.D.length : Int)
theorem bsearch_calls (x : (Sl Seen)) (target : (Nat → Int)) (cmp : Seen → (Nat → Int) → Int) (g2 : Nat) (caps2 : List AV) (hp2 : ∀ (x0 : Seen) (x1 : (Nat → Int)), PCalls Tryd.prog g2 ([.agg [.pv (.lit (.int .u8 (x0.key 0))), .pv (.lit (.int .u8 (x0.key 1))), .pv (.lit (.int .u8 (x0.key 2))), .pv (.lit (.int .u8 (x0.key 3))), .pv (.lit (.int .u8 (x0.key 4))), .pv (.lit (.int .u8 (x0.key 5))), .pv (.lit (.int .u8 (x0.key 6))), .pv (.lit (.int .u8 (x0.key 7))), .pv (.lit (.int .i64 x0.ver))], .agg [.pv (.lit (.int .u8 (x1 0))), .pv (.lit (.int .u8 (x1 1))), .pv (.lit (.int .u8 (x1 2))), .pv (.lit (.int .u8 (x1 3))), .pv (.lit (.int .u8 (x1 4))), .pv (.lit (.int .u8 (x1 5))), .pv (.lit (.int .u8 (x1 6))), .pv (.lit (.int .u8 (x1 7)))]] ++ caps2) (.pv (.lit (.int .i64 (cmp x0 x1))))) (hw2 : AV.withinL (fun _ => false) caps2 = true) (hn : x.D.length ≤ 1000000) : PCalls Tryd.prog 62 [sS (some x.nil) eSeen x.D, .agg [.pv (.lit (.int .u8 (target 0))), .pv (.lit (.int .u8 (target 1))), .pv (.lit (.int .u8 (target 2))), .pv (.lit (.int .u8 (target 3))), .pv (.lit (.int .u8 (target 4))), .pv (.lit (.int .u8 (target 5))), .pv (.lit (.int .u8 (target 6))), .pv (.lit (.int .u8 (target 7)))], .fn g2 [] caps2] (.tup [.pv (.lit (.int .i64 ((bsearch x target cmp).1))), .pv (.lit (.bool ((bsearch x target cmp).2)))]) := by
 generalize hR : bsearch x target cmp = R
 refine PCalls.of_body tabOk Tryd.func62 rfl rfl rfl (by simp [AV.withinL, AV.within, sS, hw2]) rfl mixed fun E hP C hI => ?_
 refine Awp.consP C ?_
 refine rvc_un (rexec_prim C (δ := { v := .ptr 4 0, new := [(4, .cells [.pv (.lit (.int .u8 (target 0))), .pv (.lit (.int .u8 (target 1))), .pv (.lit (.int .u8 (target 2))), .pv (.lit (.int .u8 (target 3))), .pv (.lit (.int .u8 (target 4))), .pv (.lit (.int .u8 (target 5))), .pv (.lit (.int .u8 (target 6))), .pv (.lit (.int .u8 (target 7)))])] }) rfl rfl rfl rfl trivial rfl ?_)
 refine rvP C (.pv (.lit (.int .i64 0))) ?_
 refine rvP C (.pv (.lit (.bool false))) ?_
 refine rvc_nil ?_
 refine Awp.consP C ?_
 refine rvP C (sS (some x.nil) eSeen x.D) ?_
 refine rvP C (.pv (.lit (.int .i64 (x.D.length : Int)))) ?_
 refine rvP C (.pv (.lit (.int .i64 (x.D.length : Int)))) ?_
 refine rvc_nil ?_
 refine Awp.consP C ?_
 refine rvP C (.pv (.lit (.int .i64 (x.D.length : Int)))) ?_
 refine rvP C (.pv (.lit (.int .i64 0))) ?_
 refine rvP C (.pv (.lit (.int .i64 (x.D.length : Int)))) ?_
 refine rvc_nil ?_
 refine Awp.seq ?_
 refine Awp.block ?_
 refine Awp.forM (σ := Int × Int) (fun v => [(0, sS (some x.nil) eSeen x.D), (2, .fn g2 [] caps2), (4, .ptr 4 0), (8, .pv (.lit (.int .i64 (x.D.length : Int)))), (9, .pv (.lit (.int .i64 v.1))), (10, .pv (.lit (.int .i64 v.2)))]) (fun v => [(4, .cells [.pv (.lit (.int .u8 (target 0))), .pv (.lit (.int .u8 (target 1))), .pv (.lit (.int .u8 (target 2))), .pv (.lit (.int .u8 (target 3))), .pv (.lit (.int .u8 (target 4))), .pv (.lit (.int .u8 (target 5))), .pv (.lit (.int .u8 (target 6))), .pv (.lit (.int .u8 (target 7)))])]) [4] (fun n v => (v.2 - v.1).toNat ≤ n ∧ bsearch_l0 x target cmp (n + 1) v.1 v.2 = R ∧ (0 ≤ v.1 ∧ v.1 ≤ v.2 ∧ v.2 ≤ (x.D.length : Int))) (((x.D.length : Int) - 0).toNat) (0, (x.D.length : Int)) ?_ ?_ (fun n_ v h1 => ?_)
 · exact ⟨Nat.le_refl _, hR, (by dsimp only; omega)⟩
 · exact ⟨fun b => b, WeakerR.ofL (Ks := [4]) hI ⟨⟨rfl, rfl⟩, ⟨fn_to rfl hw2, fn_win hw2⟩, ⟨rfl, rfl⟩, ⟨rfl, rfl⟩, ⟨rfl, rfl⟩, ⟨rfl, rfl⟩, trivial⟩ (okH_cons rfl rfl rfl rfl (okH_nil)) rfl⟩
 obtain ⟨i, j⟩ := v
 obtain ⟨hm_, hR, hV⟩ := h1
 replace hm_ : (j - i).toNat ≤ n_ := hm_
 replace hV : 0 ≤ i ∧ i ≤ j ∧ j ≤ (x.D.length : Int) := hV
 have hm_ := mid_eq hV.1 hV.2.1 (by omega)
 refine Awp.seq ?_
 refine Awp.consP C ?_
 refine rvP C (.pv (.lit (.int .i64 i))) ?_
 refine rvP C (.pv (.lit (.int .i64 j))) ?_
 refine rvP C (.pv (.lit (.bool (decide (i < j))))) ?_
 refine rvc_nil ?_
 refine Awp.cond (b := (decide (i < j))) rfl (fun h3 => ?_) (fun h3 => ?_)
 ·
  replace hR := of_true h3 hR
  refine Awp.skip ?_
  refine Awp.block ?_
  refine Awp.consP C ?_
  refine rvP C (.pv (.lit (.int .i64 i))) ?_
  refine rvP C (.pv (.lit (.int .i64 j))) ?_
  refine rvP C (.pv (.lit (.int .i64 (IntKind.i64.wrap (i + j))))) ?_
  refine rvP C (.pv (.lit (.int .u64 (IntKind.u64.wrap (IntKind.i64.wrap (i + j)))))) ?_
  refine rvc_un (rexec_prim C (δ := { v := .pv (.lit (.int .u64 (shrI .u64 (IntKind.u64.wrap (IntKind.i64.wrap (i + j))) 1))) }) rfl rfl rfl rfl (by first | decide | assumption | omega) rfl ?_)
  refine rvP C (.pv (.lit (.int .i64 (IntKind.i64.wrap (shrI .u64 (IntKind.u64.wrap (IntKind.i64.wrap (i + j))) 1))))) ?_
  refine rvP C (.pv (.lit (.int .i64 (IntKind.i64.wrap (shrI .u64 (IntKind.u64.wrap (IntKind.i64.wrap (i + j))) 1))))) ?_
  refine rvc_nil ?_
  refine Awp.consP C ?_
  refine rvP C (.fn g2 [] caps2) ?_
  refine rvP C (sS (some x.nil) eSeen x.D) ?_
  refine rvP C (.pv (.lit (.int .i64 (IntKind.i64.wrap (shrI .u64 (IntKind.u64.wrap (IntKind.i64.wrap (i + j))) 1))))) ?_
  have h4 : x.D[(IntKind.i64.wrap (shrI .u64 (IntKind.u64.wrap (IntKind.i64.wrap (i + j))) 1)).toNat]? = some x.D[(IntKind.i64.wrap (shrI .u64 (IntKind.u64.wrap (IntKind.i64.wrap (i + j))) 1)).toNat]! := getE (by have := wrapI (shrI .u64 (IntKind.u64.wrap (IntKind.i64.wrap (i + j))) 1); have := wrapI (i + j); have := of_decide_eq_true h3; omega)
  refine rvc_un (rexec_idxS C rfl rfl rfl rfl rfl rfl (x.D[(IntKind.i64.wrap (shrI .u64 (IntKind.u64.wrap (IntKind.i64.wrap (i + j))) 1)).toNat]!) (by have := wrapI (shrI .u64 (IntKind.u64.wrap (IntKind.i64.wrap (i + j))) 1); have := wrapI (i + j); have := of_decide_eq_true h3; omega) h4 ?_)
  refine rvP C (.agg [.pv (.lit (.int .u8 (x.D[(IntKind.i64.wrap (shrI .u64 (IntKind.u64.wrap (IntKind.i64.wrap (i + j))) 1)).toNat]!.key 0))), .pv (.lit (.int .u8 (x.D[(IntKind.i64.wrap (shrI .u64 (IntKind.u64.wrap (IntKind.i64.wrap (i + j))) 1)).toNat]!.key 1))), .pv (.lit (.int .u8 (x.D[(IntKind.i64.wrap (shrI .u64 (IntKind.u64.wrap (IntKind.i64.wrap (i + j))) 1)).toNat]!.key 2))), .pv (.lit (.int .u8 (x.D[(IntKind.i64.wrap (shrI .u64 (IntKind.u64.wrap (IntKind.i64.wrap (i + j))) 1)).toNat]!.key 3))), .pv (.lit (.int .u8 (x.D[(IntKind.i64.wrap (shrI .u64 (IntKind.u64.wrap (IntKind.i64.wrap (i + j))) 1)).toNat]!.key 4))), .pv (.lit (.int .u8 (x.D[(IntKind.i64.wrap (shrI .u64 (IntKind.u64.wrap (IntKind.i64.wrap (i + j))) 1)).toNat]!.key 5))), .pv (.lit (.int .u8 (x.D[(IntKind.i64.wrap (shrI .u64 (IntKind.u64.wrap (IntKind.i64.wrap (i + j))) 1)).toNat]!.key 6))), .pv (.lit (.int .u8 (x.D[(IntKind.i64.wrap (shrI .u64 (IntKind.u64.wrap (IntKind.i64.wrap (i + j))) 1)).toNat]!.key 7))), .pv (.lit (.int .i64 (x.D[(IntKind.i64.wrap (shrI .u64 (IntKind.u64.wrap (IntKind.i64.wrap (i + j))) 1)).toNat]!.ver)))]) ?_
  refine rvP C (.agg [.pv (.lit (.int .u8 (target 0))), .pv (.lit (.int .u8 (target 1))), .pv (.lit (.int .u8 (target 2))), .pv (.lit (.int .u8 (target 3))), .pv (.lit (.int .u8 (target 4))), .pv (.lit (.int .u8 (target 5))), .pv (.lit (.int .u8 (target 6))), .pv (.lit (.int .u8 (target 7)))]) ?_
  refine rvc_un (rexec_callV hP C rfl rfl rfl rfl (hp2 (Seen.mk (ofL [(x.D[(IntKind.i64.wrap (shrI .u64 (IntKind.u64.wrap (IntKind.i64.wrap (i + j))) 1)).toNat]!.key 0), (x.D[(IntKind.i64.wrap (shrI .u64 (IntKind.u64.wrap (IntKind.i64.wrap (i + j))) 1)).toNat]!.key 1), (x.D[(IntKind.i64.wrap (shrI .u64 (IntKind.u64.wrap (IntKind.i64.wrap (i + j))) 1)).toNat]!.key 2), (x.D[(IntKind.i64.wrap (shrI .u64 (IntKind.u64.wrap (IntKind.i64.wrap (i + j))) 1)).toNat]!.key 3), (x.D[(IntKind.i64.wrap (shrI .u64 (IntKind.u64.wrap (IntKind.i64.wrap (i + j))) 1)).toNat]!.key 4), (x.D[(IntKind.i64.wrap (shrI .u64 (IntKind.u64.wrap (IntKind.i64.wrap (i + j))) 1)).toNat]!.key 5), (x.D[(IntKind.i64.wrap (shrI .u64 (IntKind.u64.wrap (IntKind.i64.wrap (i + j))) 1)).toNat]!.key 6), (x.D[(IntKind.i64.wrap (shrI .u64 (IntKind.u64.wrap (IntKind.i64.wrap (i + j))) 1)).toNat]!.key 7)]) (x.D[(IntKind.i64.wrap (shrI .u64 (IntKind.u64.wrap (IntKind.i64.wrap (i + j))) 1)).toNat]!.ver)) target) rfl ?_)
  refine rvP C (.pv (.lit (.bool (decide ((cmp (Seen.mk (ofL [(x.D[(IntKind.i64.wrap (shrI .u64 (IntKind.u64.wrap (IntKind.i64.wrap (i + j))) 1)).toNat]!.key 0), (x.D[(IntKind.i64.wrap (shrI .u64 (IntKind.u64.wrap (IntKind.i64.wrap (i + j))) 1)).toNat]!.key 1), (x.D[(IntKind.i64.wrap (shrI .u64 (IntKind.u64.wrap (IntKind.i64.wrap (i + j))) 1)).toNat]!.key 2), (x.D[(IntKind.i64.wrap (shrI .u64 (IntKind.u64.wrap (IntKind.i64.wrap (i + j))) 1)).toNat]!.key 3), (x.D[(IntKind.i64.wrap (shrI .u64 (IntKind.u64.wrap (IntKind.i64.wrap (i + j))) 1)).toNat]!.key 4), (x.D[(IntKind.i64.wrap (shrI .u64 (IntKind.u64.wrap (IntKind.i64.wrap (i + j))) 1)).toNat]!.key 5), (x.D[(IntKind.i64.wrap (shrI .u64 (IntKind.u64.wrap (IntKind.i64.wrap (i + j))) 1)).toNat]!.key 6), (x.D[(IntKind.i64.wrap (shrI .u64 (IntKind.u64.wrap (IntKind.i64.wrap (i + j))) 1)).toNat]!.key 7)]) (x.D[(IntKind.i64.wrap (shrI .u64 (IntKind.u64.wrap (IntKind.i64.wrap (i + j))) 1)).toNat]!.ver)) target) < 0))))) ?_
  refine rvc_nil ?_
  refine Awp.cond (b := (decide ((cmp (Seen.mk (ofL [(x.D[(IntKind.i64.wrap (shrI .u64 (IntKind.u64.wrap (IntKind.i64.wrap (i + j))) 1)).toNat]!.key 0), (x.D[(IntKind.i64.wrap (shrI .u64 (IntKind.u64.wrap (IntKind.i64.wrap (i + j))) 1)).toNat]!.key 1), (x.D[(IntKind.i64.wrap (shrI .u64 (IntKind.u64.wrap (IntKind.i64.wrap (i + j))) 1)).toNat]!.key 2), (x.D[(IntKind.i64.wrap (shrI .u64 (IntKind.u64.wrap (IntKind.i64.wrap (i + j))) 1)).toNat]!.key 3), (x.D[(IntKind.i64.wrap (shrI .u64 (IntKind.u64.wrap (IntKind.i64.wrap (i + j))) 1)).toNat]!.key 4), (x.D[(IntKind.i64.wrap (shrI .u64 (IntKind.u64.wrap (IntKind.i64.wrap (i + j))) 1)).toNat]!.key 5), (x.D[(IntKind.i64.wrap (shrI .u64 (IntKind.u64.wrap (IntKind.i64.wrap (i + j))) 1)).toNat]!.key 6), (x.D[(IntKind.i64.wrap (shrI .u64 (IntKind.u64.wrap (IntKind.i64.wrap (i + j))) 1)).toNat]!.key 7)]) (x.D[(IntKind.i64.wrap (shrI .u64 (IntKind.u64.wrap (IntKind.i64.wrap (i + j))) 1)).toNat]!.ver)) target) < 0))) rfl (fun h5 => ?_) (fun h5 => ?_)
  ·
   replace hR := of_true h5 hR
   refine Awp.regionP C ?_
   refine rvP C (.pv (.lit (.int .i64 (IntKind.i64.wrap (shrI .u64 (IntKind.u64.wrap (IntKind.i64.wrap (i + j))) 1))))) ?_
   refine rvP C (.pv (.lit (.int .i64 (IntKind.i64.wrap ((IntKind.i64.wrap (shrI .u64 (IntKind.u64.wrap (IntKind.i64.wrap (i + j))) 1)) + 1))))) ?_
   refine rvP C (.pv (.lit (.int .i64 (IntKind.i64.wrap ((IntKind.i64.wrap (shrI .u64 (IntKind.u64.wrap (IntKind.i64.wrap (i + j))) 1)) + 1))))) ?_
   refine rvc_nil ?_
   have h6 : (j - (IntKind.i64.wrap ((IntKind.i64.wrap (shrI .u64 (IntKind.u64.wrap (IntKind.i64.wrap (i + j))) 1)) + 1))).toNat < (j - i).toNat := by have := wrapI ((IntKind.i64.wrap (shrI .u64 (IntKind.u64.wrap (IntKind.i64.wrap (i + j))) 1)) + 1); have := wrapI (shrI .u64 (IntKind.u64.wrap (IntKind.i64.wrap (i + j))) 1); have := wrapI (i + j); have := of_decide_eq_true h3; have := of_decide_eq_true h5; omega
   obtain ⟨nn, rfl⟩ : ∃ nn, n_ = nn + 1 := ⟨n_ - 1, by omega⟩
   refine ⟨nn, ((IntKind.i64.wrap ((IntKind.i64.wrap (shrI .u64 (IntKind.u64.wrap (IntKind.i64.wrap (i + j))) 1)) + 1)), j), by omega, ⟨by show (j - (IntKind.i64.wrap ((IntKind.i64.wrap (shrI .u64 (IntKind.u64.wrap (IntKind.i64.wrap (i + j))) 1)) + 1))).toNat ≤ nn; omega, hR, (by have := wrapI ((IntKind.i64.wrap (shrI .u64 (IntKind.u64.wrap (IntKind.i64.wrap (i + j))) 1)) + 1); have := wrapI (shrI .u64 (IntKind.u64.wrap (IntKind.i64.wrap (i + j))) 1); have := wrapI (i + j); have := of_decide_eq_true h3; have := of_decide_eq_true h5; omega)⟩, ?_⟩
   · exact ⟨fun b => b, WeakerR.ofL (Ks := [4]) hI ⟨⟨rfl, rfl⟩, ⟨fn_to rfl hw2, fn_win hw2⟩, ⟨rfl, rfl⟩, ⟨rfl, rfl⟩, ⟨rfl, rfl⟩, ⟨rfl, rfl⟩, trivial⟩ (okH_cons rfl rfl rfl rfl (okH_nil)) rfl⟩
  ·
   replace hR := of_false h5 hR
   refine Awp.regionP C ?_
   refine rvP C (.pv (.lit (.int .i64 (IntKind.i64.wrap (shrI .u64 (IntKind.u64.wrap (IntKind.i64.wrap (i + j))) 1))))) ?_
   refine rvP C (.pv (.lit (.int .i64 (IntKind.i64.wrap (shrI .u64 (IntKind.u64.wrap (IntKind.i64.wrap (i + j))) 1))))) ?_
   refine rvc_nil ?_
   have h7 : ((IntKind.i64.wrap (shrI .u64 (IntKind.u64.wrap (IntKind.i64.wrap (i + j))) 1)) - i).toNat < (j - i).toNat := by have := wrapI (shrI .u64 (IntKind.u64.wrap (IntKind.i64.wrap (i + j))) 1); have := wrapI (i + j); have := of_decide_eq_true h3; have := of_decide_eq_false h5; omega
   obtain ⟨nn, rfl⟩ : ∃ nn, n_ = nn + 1 := ⟨n_ - 1, by omega⟩
   refine ⟨nn, (i, (IntKind.i64.wrap (shrI .u64 (IntKind.u64.wrap (IntKind.i64.wrap (i + j))) 1))), by omega, ⟨by show ((IntKind.i64.wrap (shrI .u64 (IntKind.u64.wrap (IntKind.i64.wrap (i + j))) 1)) - i).toNat ≤ nn; omega, hR, (by have := wrapI (shrI .u64 (IntKind.u64.wrap (IntKind.i64.wrap (i + j))) 1); have := wrapI (i + j); have := of_decide_eq_true h3; have := of_decide_eq_false h5; omega)⟩, ?_⟩
   · exact ⟨fun b => b, WeakerR.ofL (Ks := [4]) hI ⟨⟨rfl, rfl⟩, ⟨fn_to rfl hw2, fn_win hw2⟩, ⟨rfl, rfl⟩, ⟨rfl, rfl⟩, ⟨rfl, rfl⟩, ⟨rfl, rfl⟩, trivial⟩ (okH_cons rfl rfl rfl rfl (okH_nil)) rfl⟩
 ·
  replace hR := of_false h3 hR
  refine Awp.exit ?_
  refine Awp.consP C ?_
  refine rvP C (.pv (.lit (.int .i64 i))) ?_
  refine rvP C (.pv (.lit (.int .i64 i))) ?_
  refine rvP C (.pv (.lit (.int .i64 (x.D.length : Int)))) ?_
  refine rvP C (.pv (.lit (.bool (decide (i < (x.D.length : Int)))))) ?_
  refine rvP C (.pv (.lit (.bool (decide (i < (x.D.length : Int)))))) ?_
  refine rvc_case 39 (decide (i < (x.D.length : Int))) rfl (fun h8 => ?_) (fun h8 => ?_)
  ·
   replace hR := of_true h8 hR
   refine rvO C (.fn g2 [] caps2) ?_
   refine rvO C (sS (some x.nil) eSeen x.D) ?_
   refine rvO C (.pv (.lit (.int .i64 i))) ?_
   have h9 : x.D[i.toNat]? = some x.D[i.toNat]! := getE (by have := of_decide_eq_false h3; have := of_decide_eq_true h8; omega)
   refine rvc_open rfl rfl rfl (rexec_idxS C rfl rfl rfl rfl rfl rfl (x.D[i.toNat]!) (by have := of_decide_eq_false h3; have := of_decide_eq_true h8; omega) h9 ?_)
   refine rvO C (.agg [.pv (.lit (.int .u8 (x.D[i.toNat]!.key 0))), .pv (.lit (.int .u8 (x.D[i.toNat]!.key 1))), .pv (.lit (.int .u8 (x.D[i.toNat]!.key 2))), .pv (.lit (.int .u8 (x.D[i.toNat]!.key 3))), .pv (.lit (.int .u8 (x.D[i.toNat]!.key 4))), .pv (.lit (.int .u8 (x.D[i.toNat]!.key 5))), .pv (.lit (.int .u8 (x.D[i.toNat]!.key 6))), .pv (.lit (.int .u8 (x.D[i.toNat]!.key 7))), .pv (.lit (.int .i64 (x.D[i.toNat]!.ver)))]) ?_
   refine rvO C (.agg [.pv (.lit (.int .u8 (target 0))), .pv (.lit (.int .u8 (target 1))), .pv (.lit (.int .u8 (target 2))), .pv (.lit (.int .u8 (target 3))), .pv (.lit (.int .u8 (target 4))), .pv (.lit (.int .u8 (target 5))), .pv (.lit (.int .u8 (target 6))), .pv (.lit (.int .u8 (target 7)))]) ?_
   refine rvc_open rfl rfl rfl (rexec_callV hP C rfl rfl rfl rfl (hp2 (Seen.mk (ofL [(x.D[i.toNat]!.key 0), (x.D[i.toNat]!.key 1), (x.D[i.toNat]!.key 2), (x.D[i.toNat]!.key 3), (x.D[i.toNat]!.key 4), (x.D[i.toNat]!.key 5), (x.D[i.toNat]!.key 6), (x.D[i.toNat]!.key 7)]) (x.D[i.toNat]!.ver)) target) rfl ?_)
   refine rvO C (.pv (.lit (.bool ((cmp (Seen.mk (ofL [(x.D[i.toNat]!.key 0), (x.D[i.toNat]!.key 1), (x.D[i.toNat]!.key 2), (x.D[i.toNat]!.key 3), (x.D[i.toNat]!.key 4), (x.D[i.toNat]!.key 5), (x.D[i.toNat]!.key 6), (x.D[i.toNat]!.key 7)]) (x.D[i.toNat]!.ver)) target) == 0)))) ?_
   refine rvP C (.pv (.lit (.bool ((cmp (Seen.mk (ofL [(x.D[i.toNat]!.key 0), (x.D[i.toNat]!.key 1), (x.D[i.toNat]!.key 2), (x.D[i.toNat]!.key 3), (x.D[i.toNat]!.key 4), (x.D[i.toNat]!.key 5), (x.D[i.toNat]!.key 6), (x.D[i.toNat]!.key 7)]) (x.D[i.toNat]!.ver)) target) == 0)))) ?_
   refine rvP C (.pv (.lit (.int .i64 i))) ?_
   refine rvP C (.pv (.lit (.bool ((cmp (Seen.mk (ofL [(x.D[i.toNat]!.key 0), (x.D[i.toNat]!.key 1), (x.D[i.toNat]!.key 2), (x.D[i.toNat]!.key 3), (x.D[i.toNat]!.key 4), (x.D[i.toNat]!.key 5), (x.D[i.toNat]!.key 6), (x.D[i.toNat]!.key 7)]) (x.D[i.toNat]!.ver)) target) == 0)))) ?_
   refine rvc_nil ?_
   refine Awp.ret ?_
   subst hR
   exact ⟨.inl rfl, rfl⟩
  ·
   replace hR := of_false h8 hR
   refine rvS ?_
   refine rvS ?_
   refine rvS ?_
   refine rvS ?_
   refine rvS ?_
   refine rvS ?_
   refine rvS ?_
   refine rvS ?_
   refine rvP C (.pv (.lit (.bool false))) ?_
   refine rvP C (.pv (.lit (.int .i64 i))) ?_
   refine rvP C (.pv (.lit (.bool false))) ?_
   refine rvc_nil ?_
   refine Awp.ret ?_
   subst hR
   exact ⟨.inl rfl, rfl⟩
def place (l : (Sl Seen)) (k : (Nat → Int)) : Int × Bool :=
  ((bsearch l k (fun x0 x1 => placeF x0 x1)).1, (bsearch l k (fun x0 x1 => placeF x0 x1)).2)
theorem place_calls (l : (Sl Seen)) (k : (Nat → Int)) (hn : l.D.length ≤ 1000000) : PCalls Tryd.prog 45 [sS (some l.nil) eSeen l.D, .agg [.pv (.lit (.int .u8 (k 0))), .pv (.lit (.int .u8 (k 1))), .pv (.lit (.int .u8 (k 2))), .pv (.lit (.int .u8 (k 3))), .pv (.lit (.int .u8 (k 4))), .pv (.lit (.int .u8 (k 5))), .pv (.lit (.int .u8 (k 6))), .pv (.lit (.int .u8 (k 7)))]] (.tup [.pv (.lit (.int .i64 ((place l k).1))), .pv (.lit (.bool ((place l k).2)))]) := by
 generalize hR : place l k = R
 refine PCalls.of_body tabOk Tryd.func45 rfl rfl rfl rfl rfl mixed fun E hP C hI => ?_
 refine Awp.consP C ?_
 refine rvc_un (rexec_prim C (δ := { v := .ptr 3 0, new := [(3, .cells [.pv (.lit (.int .u8 (k 0))), .pv (.lit (.int .u8 (k 1))), .pv (.lit (.int .u8 (k 2))), .pv (.lit (.int .u8 (k 3))), .pv (.lit (.int .u8 (k 4))), .pv (.lit (.int .u8 (k 5))), .pv (.lit (.int .u8 (k 6))), .pv (.lit (.int .u8 (k 7)))])] }) rfl rfl rfl rfl trivial rfl ?_)
 refine rvP C (.pv (.lit (.int .i64 0))) ?_
 refine rvP C (.pv (.lit (.bool false))) ?_
 refine rvc_nil ?_
 refine Awp.consP C ?_
 refine rvP C (sS (some l.nil) eSeen l.D) ?_
 refine rvP C (.agg [.pv (.lit (.int .u8 (k 0))), .pv (.lit (.int .u8 (k 1))), .pv (.lit (.int .u8 (k 2))), .pv (.lit (.int .u8 (k 3))), .pv (.lit (.int .u8 (k 4))), .pv (.lit (.int .u8 (k 5))), .pv (.lit (.int .u8 (k 6))), .pv (.lit (.int .u8 (k 7)))]) ?_
 refine rvc_un (rexec_call hP C rfl rfl rfl (bsearch_calls l k (fun x0 x1 => placeF x0 x1) 63 [] (fun x0 x1 => placeF_calls x0 x1) rfl hn) ?_)
 refine rvP C (.pv (.lit (.int .i64 ((bsearch l k (fun x0 x1 => placeF x0 x1)).1)))) ?_
 refine rvP C (.pv (.lit (.bool ((bsearch l k (fun x0 x1 => placeF x0 x1)).2)))) ?_
 refine rvP C (.pv (.lit (.int .i64 ((bsearch l k (fun x0 x1 => placeF x0 x1)).1)))) ?_
 refine rvP C (.pv (.lit (.bool ((bsearch l k (fun x0 x1 => placeF x0 x1)).2)))) ?_
 refine rvc_nil ?_
 refine Awp.ret ?_
 subst hR
 exact ⟨.inl rfl, rfl⟩
end Go.Proofs.YthnghkkbnhjlgaaDoor
/- One version more, floors, and both together, in plain words. No conditions. -/
namespace Go.Proofs.YthnghkkbnhjlgaaDoor
open Go.Am
/-- What was seen, and one version more. -/
def insS (k : Nat → Int) (v : Int) : List Seen → List Seen
  | [] => [Seen.mk k v]
  | x :: xs => if ll (kL x.key) (kL k) = true then x :: insS k v xs else if kL x.key = kL k then Seen.mk x.key (max x.ver v) :: xs else Seen.mk k v :: x :: xs
/-- The floor of a key. -/
def flr (q : List Int) : List Seen → Int
  | [] => 0
  | x :: xs => if kL x.key = q then x.ver else flr q xs
theorem flr_cons (q : List Int) (x : Seen) (xs : List Seen) : flr q (x :: xs) = if kL x.key = q then x.ver else flr q xs := by rw [flr]
/-- What it reads as. -/
def rd (x : Seen) : List Int × Int := (kL x.key, x.ver)
theorem sOk_congr {x y : Seen} (h : rd x = rd y) : shRight x.key = shRight y.key := by
  have h1 : kL x.key = kL y.key := congrArg Prod.fst h
  have e := eq8 x.key y.key
  have hn : nameL x.key = nameL y.key := by
    have t : ∀ n, n ≤ 8 → trimN x.key n = trimN y.key n := fun n => by
      induction n with
      | zero => intro _; rfl
      | succ n ih =>
        intro hn
        have hk : x.key n = y.key n := by
          have := congrArg (fun q => q[n]?) h1
          have ex := tbF_get x.key 8 0 n (by omega)
          have ey := tbF_get y.key 8 0 n (by omega)
          simp only [kL] at this
          rw [ex, ey] at this
          simpa using this
        unfold trimN
        rw [hk, ih (by omega)]
    unfold nameL
    rw [t 8 (Nat.le_refl _)]
    show (kL x.key).take _ = (kL y.key).take _
    rw [h1]
  unfold shRight
  rw [eq8, eq8, hn, h1]
theorem ver_ok {x : Seen} (h : sOk x = true) : 1 ≤ x.ver ∧ x.ver ≤ 1099511627776 ∧ shRight x.key = 0 := by
  unfold sOk at h
  simp only [Bool.and_eq_true, beq_iff_eq, decide_eq_true_eq] at h
  exact ⟨h.2.1, h.2.2, h.1⟩
theorem sOk_mk {x : Seen} (h1 : 1 ≤ x.ver) (h2 : x.ver ≤ 1099511627776) (h3 : shRight x.key = 0) : sOk x = true := by
  unfold sOk
  simp only [Bool.and_eq_true, beq_iff_eq, decide_eq_true_eq]
  exact ⟨h3, h1, h2⟩
theorem rt_mem : ∀ {l : List Seen}, rt none l = true → ∀ x ∈ l, sOk x = true
  | [], _, _, h => nomatch h
  | y :: ys, h, x, hx => by
    obtain ⟨h1, h2, _⟩ := rt_cons.1 h
    rcases List.mem_cons.1 hx with rfl | hx
    · exact h1
    · exact rt_mem h2 x hx
theorem insS_keys {k : Nat → Int} {v : Int} : ∀ {l : List Seen} {y : Seen}, y ∈ insS k v l → kL y.key = kL k ∨ ∃ x ∈ l, kL y.key = kL x.key
  | [], y, h => by
    unfold insS at h
    rw [List.mem_singleton.1 h]; exact .inl rfl
  | x :: xs, y, h => by
    unfold insS at h
    split at h
    · rcases List.mem_cons.1 h with rfl | h
      · exact .inr ⟨y, by simp, rfl⟩
      · rcases insS_keys h with h | ⟨z, hz, h⟩
        · exact .inl h
        · exact .inr ⟨z, by simp [hz], h⟩
    · split at h
      · rcases List.mem_cons.1 h with rfl | h
        · exact .inr ⟨x, by simp, rfl⟩
        · exact .inr ⟨y, by simp [h], rfl⟩
      · rcases List.mem_cons.1 h with rfl | h
        · exact .inl rfl
        · exact .inr ⟨y, h, rfl⟩
theorem insS_KB {k : Nat → Int} {v : Int} (hk : KeyB k) : ∀ {l : List Seen}, KB l → KB (insS k v l)
  | [], _, y, h => by
    unfold insS at h
    rw [List.mem_singleton.1 h]; exact hk
  | x :: xs, hl, y, h => by
    unfold insS at h
    split at h
    · rcases List.mem_cons.1 h with rfl | h
      · exact hl.cons.1
      · exact insS_KB hk hl.cons.2 y h
    · split at h
      · rcases List.mem_cons.1 h with rfl | h
        · exact hl.cons.1
        · exact hl.cons.2 y h
      · rcases List.mem_cons.1 h with rfl | h
        · exact hk
        · exact hl y h
theorem insS_rt {k : Nat → Int} {v : Int} (hv : 1 ≤ v) (hv2 : v ≤ 1099511627776) (hk : shRight k = 0) : ∀ {l : List Seen}, rt none l = true → rt none (insS k v l) = true
  | [], _ => by
    unfold insS
    exact rt_cons.2 ⟨sOk_mk hv hv2 hk, rfl, fun y hy => nomatch hy⟩
  | x :: xs, h => by
    obtain ⟨h1, h2, h3⟩ := rt_cons.1 h
    unfold insS
    split
    · rename_i hlt
      refine rt_cons.2 ⟨h1, insS_rt hv hv2 hk h2, fun y hy => ?_⟩
      rcases insS_keys hy with e | ⟨z, hz, e⟩
      · rw [e]; exact hlt
      · rw [e]; exact h3 z hz
    · rename_i hlt
      split
      · obtain ⟨a, b, c⟩ := ver_ok h1
        exact rt_cons.2 ⟨sOk_mk (by dsimp only; omega) (by dsimp only; omega) c, h2, h3⟩
      · rename_i hne
        have hgt : ll (kL k) (kL x.key) = true := ll_tri (by simpa using hlt) hne
        refine rt_cons.2 ⟨sOk_mk hv hv2 hk, h, fun y hy => ?_⟩
        rcases List.mem_cons.1 hy with rfl | hy
        · exact hgt
        · exact ll_trans hgt (h3 y hy)
theorem flr_none {q : List Int} : ∀ {l : List Seen}, (∀ x ∈ l, ll q (kL x.key) = true) → flr q l = 0
  | [], _ => rfl
  | x :: xs, h => by
    unfold flr
    rw [if_neg (fun e => ll_ne (h x (by simp)) e.symm), flr_none fun y hy => h y (by simp [hy])]
theorem flr_insS {k : Nat → Int} {v : Int} (hv : 0 ≤ v) : ∀ {l : List Seen}, rt none l = true → flr (kL k) (insS k v l) = max v (flr (kL k) l)
  | [], _ => by
    unfold insS
    rw [flr_cons, if_pos rfl]
    show v = max v 0
    omega
  | x :: xs, h => by
    obtain ⟨h1, h2, h3⟩ := rt_cons.1 h
    unfold insS
    split
    · rename_i hlt
      unfold flr
      rw [if_neg (ll_ne hlt), if_neg (ll_ne hlt), flr_insS hv h2]
    · rename_i hlt
      split
      · rename_i he
        unfold flr
        rw [if_pos he, if_pos he]
        show max x.ver v = max v x.ver
        omega
      · rename_i hne
        have hgt : ll (kL k) (kL x.key) = true := ll_tri (by simpa using hlt) hne
        have : flr (kL k) (x :: xs) = 0 := flr_none fun y hy => by
          rcases List.mem_cons.1 hy with rfl | hy
          · exact hgt
          · exact ll_trans hgt (h3 y hy)
        rw [this]
        unfold flr
        rw [if_pos rfl]
        show v = max v 0
        omega
theorem flr_insS_ne {k : Nat → Int} {v : Int} {q : List Int} (hq : q ≠ kL k) : ∀ {l : List Seen}, flr q (insS k v l) = flr q l
  | [] => by
    unfold insS
    rw [flr_cons, if_neg (fun e => hq e.symm)]
  | x :: xs => by
    unfold insS
    split
    · unfold flr
      rw [flr_insS_ne hq]
    · split
      · rename_i he
        unfold flr
        rw [if_neg (fun e => hq (by rw [← e]; exact he)), if_neg (fun e => hq (by rw [← e]; exact he))]
      · rw [flr_cons, if_neg (fun e => hq e.symm)]
theorem flr_nonneg {q : List Int} : ∀ {l : List Seen}, rt none l = true → 0 ≤ flr q l
  | [], _ => Int.le_refl _
  | x :: xs, h => by
    obtain ⟨h1, h2, _⟩ := rt_cons.1 h
    unfold flr
    split
    · have := ver_ok h1; omega
    · exact flr_nonneg h2
/-- Rising lists with the same floors read the same. -/
theorem rd_ext : ∀ {a b : List Seen}, rt none a = true → rt none b = true → (∀ x ∈ a, flr (kL x.key) a = flr (kL x.key) b) → (∀ x ∈ b, flr (kL x.key) a = flr (kL x.key) b) → a.map rd = b.map rd
  | [], [], _, _, _, _ => rfl
  | [], y :: ys, _, hb, _, h2 => by
    have := h2 y (by simp)
    unfold flr at this
    rw [if_pos rfl] at this
    have := ver_ok (rt_cons.1 hb).1
    omega
  | x :: xs, [], ha, _, h1, _ => by
    have := h1 x (by simp)
    unfold flr at this
    rw [if_pos rfl] at this
    have := ver_ok (rt_cons.1 ha).1
    omega
  | x :: xs, y :: ys, ha, hb, h1, h2 => by
    obtain ⟨a1, a2, a3⟩ := rt_cons.1 ha
    obtain ⟨b1, b2, b3⟩ := rt_cons.1 hb
    have va := ver_ok a1
    have vb := ver_ok b1
    have hxy : kL x.key = kL y.key := by
      cases hlt : ll (kL x.key) (kL y.key)
      · by_cases he : kL x.key = kL y.key
        · exact he
        · have hgt := ll_tri hlt he
          have := h2 y (by simp)
          rw [flr_none (q := kL y.key) (l := x :: xs) (fun z hz => by
            rcases List.mem_cons.1 hz with rfl | hz
            · exact hgt
            · exact ll_trans hgt (a3 z hz))] at this
          unfold flr at this
          rw [if_pos rfl] at this
          omega
      · have := h1 x (by simp)
        rw [flr_none (q := kL x.key) (l := y :: ys) (fun z hz => by
          rcases List.mem_cons.1 hz with rfl | hz
          · exact hlt
          · exact ll_trans hlt (b3 z hz))] at this
        unfold flr at this
        rw [if_pos rfl] at this
        omega
    have hv : x.ver = y.ver := by
      have := h1 x (by simp)
      unfold flr at this
      rwa [if_pos rfl, if_pos hxy.symm] at this
    rw [List.map_cons, List.map_cons]
    congr 1
    · unfold rd; rw [hxy, hv]
    · refine rd_ext a2 b2 (fun z hz => ?_) fun z hz => ?_
      · have h := h1 z (by simp [hz])
        have n1 : kL x.key ≠ kL z.key := ll_ne (a3 z hz)
        unfold flr at h
        rwa [if_neg n1, if_neg (by rw [← hxy]; exact n1)] at h
      · have h := h2 z (by simp [hz])
        have n1 : kL y.key ≠ kL z.key := ll_ne (b3 z hz)
        unfold flr at h
        rwa [if_neg (by rw [hxy]; exact n1), if_neg n1] at h
theorem flr_rd {q : List Int} : ∀ {a b : List Seen}, a.map rd = b.map rd → flr q a = flr q b
  | [], [], _ => rfl
  | [], _ :: _, h => by simp at h
  | _ :: _, [], h => by simp at h
  | x :: xs, y :: ys, h => by
    simp only [List.map_cons, List.cons.injEq] at h
    have h1 : kL x.key = kL y.key := congrArg Prod.fst h.1
    have h2 : x.ver = y.ver := congrArg Prod.snd h.1
    unfold flr
    rw [h1, h2, flr_rd h.2]
/-- What both have seen. -/
def joinS (a : List Seen) : List Seen → List Seen
  | [] => a
  | x :: xs => joinS (insS x.key x.ver a) xs
theorem joinS_ok : ∀ {b a : List Seen}, rt none a = true → KB a → KB b → rt none b = true → rt none (joinS a b) = true ∧ KB (joinS a b)
  | [], a, ha, ka, _, _ => ⟨ha, ka⟩
  | x :: xs, a, ha, ka, kb, hb => by
    obtain ⟨b1, b2, _⟩ := rt_cons.1 hb
    obtain ⟨v1, v2, v3⟩ := ver_ok b1
    show rt none (joinS (insS x.key x.ver a) xs) = true ∧ KB (joinS (insS x.key x.ver a) xs)
    exact joinS_ok (insS_rt v1 v2 v3 ha) (insS_KB kb.cons.1 ka) kb.cons.2 b2
theorem flr_joinS {q : List Int} : ∀ {b a : List Seen}, rt none a = true → rt none b = true → flr q (joinS a b) = max (flr q a) (flr q b)
  | [], a, ha, _ => by
    have := flr_nonneg (q := q) ha
    show flr q a = max (flr q a) 0
    omega
  | x :: xs, a, ha, hb => by
    obtain ⟨b1, b2, b3⟩ := rt_cons.1 hb
    obtain ⟨v1, v2, v3⟩ := ver_ok b1
    show flr q (joinS (insS x.key x.ver a) xs) = _
    rw [flr_joinS (insS_rt v1 v2 v3 ha) b2]
    by_cases e : q = kL x.key
    · subst e
      rw [flr_insS (by omega) ha]
      have hn : flr (kL x.key) xs = 0 := flr_none b3
      rw [hn]
      rw [flr_cons, if_pos rfl]
      have := flr_nonneg (q := kL x.key) ha
      omega
    · rw [flr_insS_ne e]
      rw [flr_cons, if_neg (fun h => e h.symm)]
theorem insS_len {k : Nat → Int} {v : Int} : ∀ {l : List Seen}, l.length ≤ (insS k v l).length ∧ (insS k v l).length ≤ l.length + 1
  | [] => by unfold insS; exact ⟨Nat.zero_le _, Nat.le_refl _⟩
  | x :: xs => by
    have := insS_len (k := k) (v := v) (l := xs)
    unfold insS
    split
    · simp only [List.length_cons]; omega
    · split <;> (simp only [List.length_cons]; omega)
theorem joinS_len : ∀ {b a : List Seen}, a.length ≤ (joinS a b).length
  | [], _ => Nat.le_refl _
  | x :: xs, a => Nat.le_trans insS_len.1 (joinS_len (b := xs))
theorem joinS_comm {a b : List Seen} (ka : KB a) (kb : KB b) (ha : rt none a = true) (hb : rt none b = true) : (joinS a b).map rd = (joinS b a).map rd := by
  have h1 := (joinS_ok ha ka kb hb).1
  have h2 := (joinS_ok hb kb ka ha).1
  refine rd_ext h1 h2 (fun x _ => ?_) (fun x _ => ?_) <;> (rw [flr_joinS ha hb, flr_joinS hb ha]; omega)
theorem joinS_idem {a b : List Seen} (ka : KB a) (kb : KB b) (ha : rt none a = true) (hb : rt none b = true) : (joinS (joinS a b) b).map rd = (joinS a b).map rd := by
  have h1 := joinS_ok ha ka kb hb
  have h2 := (joinS_ok h1.1 h1.2 kb hb).1
  refine rd_ext h2 h1.1 (fun x _ => ?_) (fun x _ => ?_) <;> (rw [flr_joinS h1.1 hb, flr_joinS ha hb]; omega)
end Go.Proofs.YthnghkkbnhjlgaaDoor
/- Where a key stands, in plain words. No conditions. -/
namespace Go.Proofs.YthnghkkbnhjlgaaDoor
open Go.Am
theorem placeF_mk (e : Seen) (k : Nat → Int) : placeF (Seen.mk (ofL [e.key 0, e.key 1, e.key 2, e.key 3, e.key 4, e.key 5, e.key 6, e.key 7]) e.ver) k = placeF e k := rfl
theorem placeF_val {e : Seen} {k : Nat → Int} (he : KeyB e.key) (hk : KeyB k) : placeF e k = if ll (kL e.key) (kL k) then -1 else if kL e.key = kL k then 0 else 1 := cmpI_eq he.b8 hk.b8
theorem bs_spec (x : Sl Seen) (k : Nat → Int) (hn : x.D.length ≤ 1000000) : ∀ (f i j : Nat), j - i < f → i ≤ j → j ≤ x.D.length →
    ∃ p : Nat, (bsearch_l0 x k (fun x0 x1 => placeF x0 x1) f (i : Int) (j : Int)).1 = (p : Int) ∧ i ≤ p ∧ p ≤ j ∧
      (bsearch_l0 x k (fun x0 x1 => placeF x0 x1) f (i : Int) (j : Int)).2 = (decide (p < x.D.length) && (placeF x.D[p]! k == 0)) ∧
      ((∀ s t : Nat, s ≤ t → t < x.D.length → placeF x.D[t]! k < 0 → placeF x.D[s]! k < 0) → (∀ t, t < i → placeF x.D[t]! k < 0) → (∀ t, j ≤ t → t < x.D.length → ¬ placeF x.D[t]! k < 0) →
        (∀ t, t < p → placeF x.D[t]! k < 0) ∧ ∀ t, p ≤ t → t < x.D.length → ¬ placeF x.D[t]! k < 0)
  | 0, i, j, h, _, _ => by omega
  | f + 1, i, j, h, hij, hj => by
    have hm : IntKind.i64.wrap (shrI .u64 (IntKind.u64.wrap (IntKind.i64.wrap ((i : Int) + (j : Int)))) 1) = (((i + j) / 2 : Nat) : Int) := by
      rw [mid_eq (by omega) (by omega) (by omega)]; omega
    unfold bsearch_l0
    rw [hm, Int.toNat_natCast]
    by_cases hlt : i < j
    · rw [decide_eq_true (show (i : Int) < (j : Int) by omega), cond_true]
      rw [placeF_mk]
      generalize hmid : (i + j) / 2 = m
      have m1 : i ≤ m := by omega
      have m2 : m < j := by omega
      cases hc : decide (placeF x.D[m]! k < 0)
      · rw [cond_false]
        have hc' := of_decide_eq_false hc
        obtain ⟨p, p1, p2, p3, p4, p5⟩ := bs_spec x k hn f i m (by omega) m1 (by omega)
        refine ⟨p, p1, p2, by omega, p4, fun mono lo hi => p5 mono lo fun t ht htn hneg => ?_⟩
        exact hc' (mono m t ht htn hneg)
      · rw [cond_true]
        have hc' := of_decide_eq_true hc
        have e1 : IntKind.i64.wrap ((m : Int) + 1) = ((m + 1 : Nat) : Int) := by rw [wrapP (by omega)]; omega
        rw [e1]
        obtain ⟨p, p1, p2, p3, p4, p5⟩ := bs_spec x k hn f (m + 1) j (by omega) (by omega) hj
        refine ⟨p, p1, by omega, p3, p4, fun mono lo hi => p5 mono (fun t ht => ?_) hi⟩
        exact mono t m (by omega) (by omega) hc'
    · have hij' : i = j := by omega
      subst hij'
      rw [decide_eq_false (show ¬ (i : Int) < (i : Int) by omega), cond_false, Int.toNat_natCast]
      rw [placeF_mk]
      by_cases hin : i < x.D.length
      · rw [decide_eq_true (show (i : Int) < (x.D.length : Int) by omega), cond_true]
        exact ⟨i, rfl, Nat.le_refl _, Nat.le_refl _, by rw [decide_eq_true hin]; rfl, fun _ lo hi => ⟨lo, hi⟩⟩
      · rw [decide_eq_false (show ¬ (i : Int) < (x.D.length : Int) by omega), cond_false]
        exact ⟨i, rfl, Nat.le_refl _, Nat.le_refl _, by rw [decide_eq_false hin]; rfl, fun _ lo hi => ⟨lo, hi⟩⟩
theorem place_all (l : Sl Seen) (k : Nat → Int) (hn : l.D.length ≤ 1000000) : ∃ p : Nat, (place l k).1 = (p : Int) ∧ p ≤ l.D.length ∧ (place l k).2 = (decide (p < l.D.length) && (placeF l.D[p]! k == 0)) ∧
    ((∀ s t : Nat, s ≤ t → t < l.D.length → placeF l.D[t]! k < 0 → placeF l.D[s]! k < 0) → (∀ t, t < p → placeF l.D[t]! k < 0) ∧ ∀ t, p ≤ t → t < l.D.length → ¬ placeF l.D[t]! k < 0) := by
  obtain ⟨p, p1, p2, p3, p4, p5⟩ := bs_spec l k hn (l.D.length + 1) 0 l.D.length (by omega) (Nat.zero_le _) (Nat.le_refl _)
  have e : bsearch l k (fun x0 x1 => placeF x0 x1) = bsearch_l0 l k (fun x0 x1 => placeF x0 x1) (l.D.length + 1) ((0 : Nat) : Int) (l.D.length : Int) := by
    unfold bsearch
    rw [show ((l.D.length : Int) - 0).toNat + 1 = l.D.length + 1 by omega]; rfl
  refine ⟨p, ?_, p3, ?_, fun mono => p5 mono (fun t ht => absurd ht (Nat.not_lt_zero t)) (fun t ht h2 => by omega)⟩
  · show (bsearch l k _).1 = _
    rw [e]; exact p1
  · show (bsearch l k _).2 = _
    rw [e]; exact p4
theorem place_lt {l : Sl Seen} {k : Nat → Int} (hn : l.D.length ≤ 1000000) (h : (place l k).2 = true) : 0 ≤ (place l k).1 ∧ (place l k).1 < (l.D.length : Int) := by
  obtain ⟨p, p1, p2, p3, _⟩ := place_all l k hn
  rw [p3, Bool.and_eq_true, decide_eq_true_eq] at h
  omega
theorem place_le (l : Sl Seen) (k : Nat → Int) (hn : l.D.length ≤ 1000000) : 0 ≤ (place l k).1 ∧ (place l k).1 ≤ (l.D.length : Int) := by
  obtain ⟨p, p1, p2, p3, _⟩ := place_all l k hn
  omega
/-- In a rising list: what stands ahead, and what stands there. -/
theorem place_split {l : Sl Seen} {k : Nat → Int} (hn : l.D.length ≤ 1000000) (hl : KB l.D) (hk : KeyB k) (hr : rt none l.D = true) : ∃ A B : List Seen, l.D = A ++ B ∧ (place l k).1 = (A.length : Int) ∧ (∀ x ∈ A, ll (kL x.key) (kL k) = true) ∧
    ((∃ y ys, B = y :: ys ∧ kL y.key = kL k ∧ (place l k).2 = true) ∨ ((place l k).2 = false ∧ ∀ y ∈ B, ll (kL k) (kL y.key) = true)) := by
  obtain ⟨p, p1, p2, p3, p4⟩ := place_all l k hn
  have hat : ∀ t, t < l.D.length → placeF l.D[t]! k = if ll (kL l.D[t]!.key) (kL k) then -1 else if kL l.D[t]!.key = kL k then 0 else 1 := fun t ht => placeF_val (hl.at ht) hk
  have hneg : ∀ t, t < l.D.length → (placeF l.D[t]! k < 0 ↔ ll (kL l.D[t]!.key) (kL k) = true) := fun t ht => by
    rw [hat t ht]
    cases ll (kL l.D[t]!.key) (kL k)
    · by_cases e : kL l.D[t]!.key = kL k
      · rw [if_neg (by decide), if_pos e]; decide
      · rw [if_neg (by decide), if_neg e]; decide
    · rw [if_pos rfl]; decide
  have hpw : ∀ (D : List Seen), rt none D = true → ∀ s t : Nat, s < t → t < D.length → ll (kL D[s]!.key) (kL D[t]!.key) = true := by
    intro D
    induction D with
    | nil => intro _ s t _ h; simp at h
    | cons x xs ih =>
      intro h s t hst ht
      obtain ⟨h1, h2, h3⟩ := rt_cons.1 h
      obtain ⟨t', rfl⟩ : ∃ t', t = t' + 1 := ⟨t - 1, by omega⟩
      have ht' : t' < xs.length := by simpa using ht
      have e2 : (x :: xs)[t' + 1]! = xs[t']! := by simp
      rw [e2]
      cases s with
      | zero =>
        show ll (kL x.key) _ = true
        rw [getElem!_pos xs t' ht']
        exact h3 _ (List.getElem_mem ht')
      | succ s' =>
        have e1 : (x :: xs)[s' + 1]! = xs[s']! := by simp
        rw [e1]
        exact ih h2 s' t' (by omega) ht'
  obtain ⟨q1, q2⟩ := p4 fun s t hst ht hlt => by
    rcases Nat.lt_or_ge s t with h | h
    · exact (hneg s (by omega)).2 (ll_trans (hpw l.D hr s t h ht) ((hneg t ht).1 hlt))
    · have : s = t := by omega
      rw [this]; exact hlt
  refine ⟨l.D.take p, l.D.drop p, (List.take_append_drop p l.D).symm, by rw [List.length_take, Nat.min_eq_left p2]; exact p1, fun x hx => ?_, ?_⟩
  · obtain ⟨t, ht, rfl⟩ := List.getElem_of_mem hx
    have htp : t < p := by rw [List.length_take] at ht; omega
    have htn : t < l.D.length := by omega
    have := (hneg t htn).1 (q1 t htp)
    rw [List.getElem_take]
    rwa [getElem!_pos l.D t htn] at this
  · by_cases hpn : p < l.D.length
    · have hd : l.D.drop p = l.D[p] :: l.D.drop (p + 1) := List.drop_eq_getElem_cons hpn
      have hnot := (not_congr (hneg p hpn)).1 (q2 p (Nat.le_refl _) hpn)
      rw [getElem!_pos l.D p hpn] at hnot
      by_cases e : kL l.D[p].key = kL k
      · refine .inl ⟨l.D[p], l.D.drop (p + 1), hd, e, ?_⟩
        have hz := hat p hpn
        rw [getElem!_pos l.D p hpn, if_neg hnot, if_pos e] at hz
        rw [p3, getElem!_pos l.D p hpn, decide_eq_true hpn, hz]; rfl
      · refine .inr ⟨?_, fun y hy => ?_⟩
        · have hz := hat p hpn
          rw [getElem!_pos l.D p hpn, if_neg hnot, if_neg e] at hz
          rw [p3, getElem!_pos l.D p hpn, decide_eq_true hpn, hz]; rfl
        · have hgt : ll (kL k) (kL l.D[p].key) = true := ll_tri (by simpa using hnot) e
          rw [hd] at hy
          rcases List.mem_cons.1 hy with rfl | hy
          · exact hgt
          · obtain ⟨t, ht, rfl⟩ := List.getElem_of_mem hy
            have ht2 : p + 1 + t < l.D.length := by rw [List.length_drop] at ht; omega
            have := hpw l.D hr p (p + 1 + t) (by omega) ht2
            rw [getElem!_pos l.D p hpn, getElem!_pos l.D _ ht2] at this
            rw [List.getElem_drop]
            exact ll_trans hgt this
    · refine .inr ⟨by rw [p3, decide_eq_false hpn]; rfl, fun y hy => ?_⟩
      rw [List.drop_of_length_le (by omega)] at hy
      cases hy
theorem insS_split {k : Nat → Int} {v : Int} : ∀ {A B : List Seen}, (∀ x ∈ A, ll (kL x.key) (kL k) = true) → insS k v (A ++ B) = A ++ insS k v B
  | [], _, _ => rfl
  | x :: A, B, h => by
    show insS k v (x :: (A ++ B)) = x :: (A ++ insS k v B)
    rw [insS, if_pos (h x (by simp)), insS_split fun y hy => h y (by simp [hy])]
theorem flr_split {q : List Int} : ∀ {A B : List Seen}, (∀ x ∈ A, ll (kL x.key) q = true) → flr q (A ++ B) = flr q B
  | [], _, _ => rfl
  | x :: A, B, h => by
    show flr q (x :: (A ++ B)) = _
    rw [flr_cons, if_neg (ll_ne (h x (by simp))), flr_split fun y hy => h y (by simp [hy])]
end Go.Proofs.YthnghkkbnhjlgaaDoor
/- Floors. No conditions. -/
namespace Go.Proofs.YthnghkkbnhjlgaaDoor
open Go.Am
def pFloor (l : (Sl Seen)) (k : (Nat → Int)) : Int :=
  (bif (place l k).2 then (bif ((pRight l) == 0) then l.D[((place l k).1).toNat]!.ver else 0) else 0)
theorem pFloor_calls (l : (Sl Seen)) (k : (Nat → Int)) (hl : ∀ x ∈ l.D, KeyB x.key) (hl1 : l.D.length ≤ 1000000) : PCalls Tryd.prog 24 [sS (some l.nil) eSeen l.D, .agg [.pv (.lit (.int .u8 (k 0))), .pv (.lit (.int .u8 (k 1))), .pv (.lit (.int .u8 (k 2))), .pv (.lit (.int .u8 (k 3))), .pv (.lit (.int .u8 (k 4))), .pv (.lit (.int .u8 (k 5))), .pv (.lit (.int .u8 (k 6))), .pv (.lit (.int .u8 (k 7)))]] (.pv (.lit (.int .i64 (pFloor l k)))) := by
 generalize hR : pFloor l k = R
 refine PCalls.of_body tabOk Tryd.func24 rfl rfl rfl rfl rfl mixed fun E hP C hI => ?_
 refine Awp.consP C ?_
 refine rvc_un (rexec_prim C (δ := { v := .ptr 3 0, new := [(3, .cells [.pv (.lit (.int .u8 (k 0))), .pv (.lit (.int .u8 (k 1))), .pv (.lit (.int .u8 (k 2))), .pv (.lit (.int .u8 (k 3))), .pv (.lit (.int .u8 (k 4))), .pv (.lit (.int .u8 (k 5))), .pv (.lit (.int .u8 (k 6))), .pv (.lit (.int .u8 (k 7)))])] }) rfl rfl rfl rfl trivial rfl ?_)
 refine rvP C (.pv (.lit (.int .i64 0))) ?_
 refine rvc_nil ?_
 refine Awp.seq ?_
 refine Awp.consP C ?_
 refine rvP C (sS (some l.nil) eSeen l.D) ?_
 refine rvP C (.agg [.pv (.lit (.int .u8 (k 0))), .pv (.lit (.int .u8 (k 1))), .pv (.lit (.int .u8 (k 2))), .pv (.lit (.int .u8 (k 3))), .pv (.lit (.int .u8 (k 4))), .pv (.lit (.int .u8 (k 5))), .pv (.lit (.int .u8 (k 6))), .pv (.lit (.int .u8 (k 7)))]) ?_
 refine rvc_un (rexec_call hP C rfl rfl rfl (place_calls l k hl1) ?_)
 refine rvP C (.tup [.pv (.lit (.int .i64 ((place l k).1))), .pv (.lit (.bool ((place l k).2)))]) ?_
 refine rvP C (.pv (.lit (.int .i64 ((place l k).1)))) ?_
 refine rvP C (.pv (.lit (.bool ((place l k).2)))) ?_
 refine rvP C (.pv (.lit (.int .i64 ((place l k).1)))) ?_
 refine rvP C (.pv (.lit (.bool ((place l k).2)))) ?_
 refine rvc_nil ?_
 refine Awp.consP C ?_
 refine rvP C (.pv (.lit (.bool ((place l k).2)))) ?_
 refine rvP C (.pv (.lit (.bool ((place l k).2)))) ?_
 refine rvc_case 14 ((place l k).2) rfl (fun h1 => ?_) (fun h1 => ?_)
 ·
  replace hR := of_true h1 hR
  refine rvO C (sS (some l.nil) eSeen l.D) ?_
  refine rvc_open rfl rfl rfl (rexec_call hP C rfl rfl rfl (pRight_calls l hl hl1) ?_)
  refine rvO C (.pv (.lit (.bool ((pRight l) == 0)))) ?_
  refine rvP C (.pv (.lit (.bool ((pRight l) == 0)))) ?_
  refine rvc_nil ?_
  refine Awp.cond (b := ((pRight l) == 0)) rfl (fun h2 => ?_) (fun h2 => ?_)
  ·
   replace hR := of_true h2 hR
   refine Awp.consP C ?_
   refine rvP C (sS (some l.nil) eSeen l.D) ?_
   refine rvP C (.pv (.lit (.int .i64 ((place l k).1)))) ?_
   have h3 : l.D[((place l k).1).toNat]? = some l.D[((place l k).1).toNat]! := getE (by have h_ := place_lt (k := k) hl1 ‹(place l k).2 = true›; omega)
   refine rvc_un (rexec_idxS C rfl rfl rfl rfl rfl rfl (l.D[((place l k).1).toNat]!) (by have h_ := place_lt (k := k) hl1 ‹(place l k).2 = true›; omega) h3 ?_)
   refine rvP C (.rp [.lit (.int .i64 (l.D[((place l k).1).toNat]!.ver))]) ?_
   refine rvP C (.pv (.lit (.int .i64 (l.D[((place l k).1).toNat]!.ver)))) ?_
   refine rvP C (.pv (.lit (.int .i64 (l.D[((place l k).1).toNat]!.ver)))) ?_
   refine rvc_nil ?_
   refine Awp.ret ?_
   subst hR
   exact ⟨.inl rfl, rfl⟩
  ·
   replace hR := of_false h2 hR
   refine Awp.skip ?_
   refine Awp.consP C ?_
   refine rvP C (.pv (.lit (.int .i64 0))) ?_
   refine rvc_nil ?_
   refine Awp.ret ?_
   subst hR
   exact ⟨.inl rfl, rfl⟩
 ·
  replace hR := of_false h1 hR
  refine rvS ?_
  refine rvS ?_
  refine rvS ?_
  refine rvP C (.pv (.lit (.bool false))) ?_
  refine rvc_nil ?_
  refine Awp.condF (b := false) rfl rfl ?_
  refine Awp.skip ?_
  refine Awp.consP C ?_
  refine rvP C (.pv (.lit (.int .i64 0))) ?_
  refine rvc_nil ?_
  refine Awp.ret ?_
  subst hR
  exact ⟨.inl rfl, rfl⟩
end Go.Proofs.YthnghkkbnhjlgaaDoor
/- slices.Insert over a row of one's own: its contract. No conditions. -/
namespace Go.Proofs.YthnghkkbnhjlgaaDoor
open Go.Am
theorem insertS_calls (D : List Seen) (i : Nat) (v : Sl Seen) (hi : i ≤ D.length) (hv : 0 < v.D.length) (hl1 : D.length ≤ 1000000) (hl2 : v.D.length ≤ 1000000) : TCalls Tryd.prog 46 [.sl 0 0 D.length 9 false, .pv (.lit (.int .i64 (i : Int))), sS (some v.nil) eSeen v.D] (.cells (encC eSeen D)) (.sl 1 0 (insertL D i v.D).length 9 false) (.cells (encC eSeen (insertL D i v.D))) := by
 have hm0 : ((v.D.length : Int) == 0) = false := by simp; intro h; rw [h] at hv; simp at hv
 have hrep : D.take i ++ List.replicate (D.length + v.D.length - i) (Seen.mk (fun _ => 0) 0) = D.take i ++ List.replicate v.D.length (Seen.mk (fun _ => 0) 0) ++ List.replicate (D.length - i) (Seen.mk (fun _ => 0) 0) := by
  rw [List.append_assoc, List.replicate_append_replicate]; congr 2; omega
 refine TCalls.of_body tabOk Tryd.func46 rfl rfl rfl rfl rfl (encC_within _ _) (encC_within _ _) mixed fun E hP C hI => ?_
 refine Awp.capOf 0 0 D.length 9 false (encC eSeen D) rfl rfl (by rw [encC_len]; rfl) fun c hc0 => ?_
 refine Awp.cons C (fun _ => .pure) (by kernel_rfl) ?_ -- region 0 false
 refine rvc_prim C rfl rfl rfl rfl (trivial) rfl ?_
 refine rvc_nil ?_
 refine Awp.cons C (fun _ => .pure) (by kernel_rfl) ?_ -- region 1 false
 refine rvc_prim C rfl rfl rfl rfl (trivial) rfl ?_
 refine rvc_prim C rfl rfl rfl rfl (trivial) rfl ?_
 refine rvc_un (rexec_sliceLoC C rfl rfl rfl rfl rfl rfl hi ?_)
 refine rvc_nil ?_
 refine Awp.cons C (fun _ => .pure) (by kernel_rfl) ?_ -- region 2 false
 refine rvc_prim C rfl rfl rfl rfl (trivial) rfl ?_
 refine rvc_prim C rfl rfl rfl rfl (trivial) rfl ?_
 refine rvc_prim C rfl rfl rfl rfl (trivial) rfl ?_
 refine rvc_nil ?_
 refine Awp.seq ?_
 refine Awp.cons C (fun _ => .pure) (by kernel_rfl) ?_ -- region 3 false
 refine rvc_prim C rfl rfl rfl rfl (trivial) rfl ?_
 refine rvc_prim C rfl rfl rfl rfl (trivial) rfl ?_
 refine rvc_nil ?_
 refine Awp.condF rfl (hm0) ?_
 refine Awp.skip ?_
 refine Awp.cons C (fun _ => .pure) (by kernel_rfl) ?_ -- region 5 false
 refine rvc_prim C rfl rfl rfl rfl (trivial) rfl ?_
 refine rvc_un (rexec_lenC C rfl rfl rfl rfl rfl rfl ?_)
 refine rvc_prim C rfl rfl rfl rfl (trivial) rfl ?_
 refine rvc_nil ?_
 refine Awp.seq ?_
 refine Awp.cons C (fun _ => .pure) (by kernel_rfl) ?_ -- region 6 false
 refine rvc_prim C rfl rfl rfl rfl (trivial) rfl ?_
 refine rvc_prim C rfl rfl rfl rfl (trivial) rfl ?_
 refine rvc_prim C rfl rfl rfl rfl (trivial) rfl ?_
 refine rvc_nil ?_
 refine Awp.cond rfl (fun hc => ?_) (fun hc => ?_)
 ·
  refine Awp.dropCap 0 0 0 D.length 9 c rfl ?_
  have hin : i = D.length := by have := beq_iff_eq.1 hc; omega
  refine Awp.cons C (fun _ => .pure) (by kernel_rfl) ?_ -- region 7 false
  refine rvc_prim C rfl rfl rfl rfl (trivial) rfl ?_
  refine rvc_prim C rfl rfl rfl rfl (trivial) rfl ?_
  refine rvc_un (rexec_append C rfl rfl rfl rfl rfl rfl rfl rfl (fun _ h => by cases h) rfl (en := eSeen) (D0 := D) (D := v.D) rfl rfl rfl rfl (by show (2 * (D.length + v.D.length) + 192) * 16 ≤ _; omega) (by decide) (nn := (D ++ v.D).length) (by simp) ?_)
  refine rvc_prim C rfl rfl rfl rfl (trivial) rfl ?_
  refine rvc_nil ?_
  rw [show insertL D i v.D = D ++ v.D by subst hin; simp [insertL]]
  refine Awp.weakenR (S := [(6, .sl 1 0 (D ++ v.D).length 9 false)]) (H := [(1, .cells (encC eSeen (D ++ v.D)))]) (U := [0, 1]) (fun x => bif x == 1 then 25 else x) (WeakerR.ofLI (I := [0]) (Ks := [1]) hI ⟨⟨sl_to rfl rfl (by rfl), rfl⟩, trivial⟩ (okH_list rfl rfl rfl okH_nil) rfl rfl) ?_
  refine Awp.ret ?_
  exact ⟨.inl rfl, rfl, rfl⟩
 ·
  have hne : i ≠ D.length := by have := ne_of_beq_false hc; omega
  refine Awp.skip ?_
  refine Awp.seq ?_
  refine Awp.cons C (fun _ => .pure) (by kernel_rfl) ?_ -- region 8 false
  refine rvc_prim C rfl rfl rfl rfl (trivial) rfl ?_
  refine rvc_prim C rfl rfl rfl rfl (trivial) rfl ?_
  refine rvc_un (rexec_primv C { v := .pv (.lit (.int .i64 ((D.length + v.D.length : Nat) : Int))) } rfl rfl rfl rfl trivial (delta_int (by rw [wrapI _ (by omega)]; omega)) rfl ?_)
  refine rvc_prim C rfl rfl rfl rfl (trivial) rfl ?_
  refine rvc_un (rexec_capC C rfl rfl rfl rfl rfl rfl ?_)
  refine rvc_prim C rfl rfl rfl rfl (trivial) rfl ?_
  refine rvc_nil ?_
  refine Awp.cond rfl (fun hc => ?_) (fun hc => ?_)
  ·
   have hgt : c < D.length + v.D.length := by have := of_decide_eq_true hc; omega
   refine Awp.cons C (fun _ => .pure) (by kernel_rfl) ?_ -- region 9 false
   refine rvc_prim C rfl rfl rfl rfl (trivial) rfl ?_
   refine rvc_prim C rfl rfl rfl rfl (trivial) rfl ?_
   refine rvc_un (rexec_sliceHiC C i rfl rfl rfl rfl rfl rfl (by omega) ?_)
   refine rvc_prim C rfl rfl rfl rfl (trivial) rfl ?_
   refine rvc_prim C rfl rfl rfl rfl (trivial) rfl ?_
   refine rvc_un (rexec_primv C { v := .pv (.lit (.int .i64 ((D.length + v.D.length : Nat) : Int))) } rfl rfl rfl rfl trivial (delta_int (by rw [wrapI _ (by omega)]; omega)) rfl ?_)
   refine rvc_prim C rfl rfl rfl rfl (trivial) rfl ?_
   refine rvc_un (rexec_primv C { v := .pv (.lit (.int .i64 ((D.length + v.D.length - i : Nat) : Int))) } rfl rfl rfl rfl trivial (delta_int (by rw [wrapI _ (by omega)]; omega)) rfl ?_)
   refine rvc_un (rexec_appendZ C rfl rfl rfl rfl rfl rfl rfl rfl rfl (Seen.mk (fun _ => 0) 0) D i (D.length + v.D.length - i) rfl rfl rfl hi (by omega) (by omega) (by show (2 * (i + (D.length + v.D.length - i)) + 192) * 16 ≤ _; omega) (by decide) (by decide) rfl rfl ?_)
   refine rvc_prim C rfl rfl rfl rfl (trivial) rfl ?_
   refine rvc_nil ?_
   refine Awp.cons C (fun _ => .pure) (by kernel_rfl) ?_ -- region 10 false
   refine rvc_prim C rfl rfl rfl rfl (trivial) rfl ?_
   refine rvc_prim C rfl rfl rfl rfl (trivial) rfl ?_
   refine rvc_un (rexec_sliceOwn C (l := i) rfl rfl rfl rfl rfl rfl (by omega) ?_)
   refine rvc_prim C rfl rfl rfl rfl (trivial) rfl ?_
   refine rvc_un (rexec_copyS C rfl rfl rfl rfl rfl rfl (e := eSeen) v.D (encC eSeen (D.take i ++ v.D ++ List.replicate (D.length - i) (Seen.mk (fun _ => 0) 0))) rfl rfl rfl (by omega) (by rw [encC_len]; simp [eSeen]; omega) (by rw [hrep]; exact set_mid (by simp) (by simp [eSeen]; omega)) ?_)
   refine rvc_nil ?_
   refine Awp.dropCap 0 0 0 D.length 9 c rfl ?_
   refine Awp.consP C ?_
   refine rvc_prim C rfl rfl rfl rfl (trivial) rfl ?_
   refine rvc_prim C rfl rfl rfl rfl (trivial) rfl ?_
   refine rvc_prim C rfl rfl rfl rfl (trivial) rfl ?_
   refine rvc_un (rexec_primv C { v := .pv (.lit (.int .i64 ((i + v.D.length : Nat) : Int))) } rfl rfl rfl rfl trivial (delta_int (by rw [wrapI _ (by omega)]; omega)) rfl ?_)
   refine rvc_un (rexec_sliceOwn C (l := i + v.D.length) rfl rfl rfl rfl rfl rfl (by omega) ?_)
   refine rvc_prim C rfl rfl rfl rfl (trivial) rfl ?_
   refine rvc_prim C rfl rfl rfl rfl (trivial) rfl ?_
   refine rvc_un (rexec_sliceOwn C (l := i) rfl rfl rfl rfl rfl rfl (by omega) ?_)
   refine rvc_un (rexec_copyO C rfl rfl rfl rfl rfl rfl (e := eSeen) (D.drop i) (encC eSeen (insertL D i v.D)) rfl rfl rfl rfl (by rw [encC_len]; simp [eSeen]; omega) (by have := tail_of (e := eSeen) (D := D) (Z := []) (i := i) (k := D.length - i) (j := (D.drop i).length * 9) hi (Nat.le_refl _) (by simp [eSeen]); simpa [eSeen] using this) (by simp; omega) (by rw [encC_len]; simp [eSeen]; omega) (by have := set_mid (e := eSeen) (A := D.take i ++ v.D) (B := List.replicate (D.length - i) (Seen.mk (fun _ => 0) 0)) (B' := D.drop i) (C := []) (k := (i + v.D.length) * 9) (by simp) (by simp [eSeen]; omega); simpa [insertL] using this) ?_ rfl)
   refine rvc_nil ?_
   refine Awp.cons C (fun _ => .pure) (by kernel_rfl) ?_ -- region 12 false
   refine rvc_prim C rfl rfl rfl rfl (trivial) rfl ?_
   refine rvc_prim C rfl rfl rfl rfl (trivial) rfl ?_
   refine rvc_nil ?_
   refine Awp.weakenR (S := [(6, .sl 1 0 (insertL D i v.D).length 9 false)]) (H := [(1, .cells (encC eSeen (insertL D i v.D)))]) (U := [0, 1]) (fun x => bif x == 1 then 40 else x) (WeakerR.ofLI (I := [0]) (Ks := [1]) hI ⟨⟨sl_to rfl rfl (by rw [insertL_len (D := D) (M := v.D) hi] <;> omega), rfl⟩, trivial⟩ (okH_list rfl rfl rfl okH_nil) rfl rfl) ?_
   refine Awp.ret ?_
   exact ⟨.inl rfl, rfl, rfl⟩
  ·
   have hle : D.length + v.D.length ≤ c := by have := of_decide_eq_false hc; omega
   refine Awp.skip ?_
   refine Awp.cons C (fun _ => .pure) (by kernel_rfl) ?_ -- region 13 false
   refine rvc_prim C rfl rfl rfl rfl (trivial) rfl ?_
   refine rvc_prim C rfl rfl rfl rfl (trivial) rfl ?_
   refine rvc_prim C rfl rfl rfl rfl (trivial) rfl ?_
   refine rvc_un (rexec_primv C { v := .pv (.lit (.int .i64 ((D.length + v.D.length : Nat) : Int))) } rfl rfl rfl rfl trivial (delta_int (by rw [wrapI _ (by omega)]; omega)) rfl ?_)
   refine rvc_un (rexec_sliceHiC C (D.length + v.D.length) rfl rfl rfl rfl rfl rfl (by omega) ?_)
   refine rvc_prim C rfl rfl rfl rfl (trivial) rfl ?_
   refine rvc_nil ?_
   refine Awp.seq ?_
   refine Awp.extend 0 0 (D.length + v.D.length) 9 c (encC eSeen D) rfl rfl (by rw [encC_len]; simp [eSeen]; omega) ?_
   refine Awp.dropCap 0 0 0 (D.length + v.D.length) 9 c rfl ?_
   refine Awp.cons C (fun _ => .writer) (by kernel_rfl) ?_ -- region 14 false
   refine rvc_prim C rfl rfl rfl rfl (trivial) rfl ?_
   refine rvc_prim C rfl rfl rfl rfl (trivial) rfl ?_
   refine rvc_prim C rfl rfl rfl rfl (trivial) rfl ?_
   refine rvc_prim C rfl rfl rfl rfl (trivial) rfl ?_
   refine rvc_un (rexec_primv C { v := .pv (.lit (.int .i64 ((i + v.D.length : Nat) : Int))) } rfl rfl rfl rfl trivial (delta_int (by rw [wrapI _ (by omega)]; omega)) rfl ?_)
   refine rvc_un (rexec_sliceOwn C (l := i + v.D.length) rfl rfl rfl rfl rfl rfl (by omega) ?_)
   refine rvc_un (rexec_overlaps C (fn := Tryd.f64) (t := 22) (tR := 4) rfl rfl (by rw [hP]; exact Tryd.func64) rfl rfl rfl (by kernel_rfl) rfl rfl rfl (fl := some v.nil) (m := v.D.length) (ps := encL eSeen v.D) rfl rfl (encL_ne hv (by decide)) (encC_ne (by omega) (by decide)) ?_)
   refine rvc_prim C rfl rfl rfl rfl (trivial) rfl ?_
   refine rvc_nil ?_
   refine Awp.condT rfl (rfl) ?_
   refine Awp.consP C ?_
   refine rvc_prim C rfl rfl rfl rfl (trivial) rfl ?_
   refine rvc_prim C rfl rfl rfl rfl (trivial) rfl ?_
   refine rvc_prim C rfl rfl rfl rfl (trivial) rfl ?_
   refine rvc_un (rexec_primv C { v := .pv (.lit (.int .i64 ((i + v.D.length : Nat) : Int))) } rfl rfl rfl rfl trivial (delta_int (by rw [wrapI _ (by omega)]; omega)) rfl ?_)
   refine rvc_un (rexec_sliceOwn C (l := i + v.D.length) rfl rfl rfl rfl rfl rfl (by omega) ?_)
   refine rvc_prim C rfl rfl rfl rfl (trivial) rfl ?_
   refine rvc_prim C rfl rfl rfl rfl (trivial) rfl ?_
   refine rvc_un (rexec_sliceOwn C (l := i) rfl rfl rfl rfl rfl rfl (by omega) ?_)
   refine rvc_un (rexec_copyO C rfl rfl rfl rfl rfl rfl (e := eSeen) (D.drop i) (setRange (encC eSeen D ++ List.replicate (c * 9 - (encC eSeen D).length) AV.undef) ((i + v.D.length) * 9) (encC eSeen (D.drop i))) rfl rfl rfl rfl (by rw [List.length_append, encC_len, List.length_replicate]; simp [eSeen]; omega) (by have := tail_of (e := eSeen) (D := D) (Z := List.replicate (c * 9 - (encC eSeen D).length) AV.undef) (i := i) (k := D.length + v.D.length - i) (j := (D.drop i).length * 9) hi (by omega) (by simp [eSeen]); simpa [eSeen] using this) (by simp; omega) (by rw [List.length_append, encC_len, List.length_replicate]; simp [eSeen]; omega) (by congr 1; simp) ?_ rfl)
   refine rvc_nil ?_
   refine Awp.cons C (fun _ => .pure) (by kernel_rfl) ?_ -- region 16 false
   refine rvc_prim C rfl rfl rfl rfl (trivial) rfl ?_
   refine rvc_prim C rfl rfl rfl rfl (trivial) rfl ?_
   refine rvc_un (rexec_sliceOwn C (l := i) rfl rfl rfl rfl rfl rfl (by omega) ?_)
   refine rvc_prim C rfl rfl rfl rfl (trivial) rfl ?_
   refine rvc_un (rexec_copyS C rfl rfl rfl rfl rfl rfl (e := eSeen) v.D (encC eSeen (insertL D i v.D) ++ (List.replicate (c * 9 - (encC eSeen D).length) AV.undef).drop (v.D.length * 9)) rfl rfl rfl (by omega) (by rw [setRange_length (by simp only [encC_len, List.length_append, List.length_replicate, List.length_drop, show eSeen.sz = 9 from rfl]; omega)]; simp only [encC_len, List.length_append, List.length_replicate, show eSeen.sz = 9 from rfl]; omega) (by have := insert_inplace (e := eSeen) (D := D) (M := v.D) (Z := List.replicate (c * 9 - (encC eSeen D).length) AV.undef) (i := i) hi (by rw [List.length_replicate, encC_len]; simp [eSeen]; omega); simpa [eSeen] using this) ?_)
   refine rvc_nil ?_
   refine Awp.cons C (fun _ => .pure) (by kernel_rfl) ?_ -- region 17 false
   refine rvc_prim C rfl rfl rfl rfl (trivial) rfl ?_
   refine rvc_prim C rfl rfl rfl rfl (trivial) rfl ?_
   refine rvc_nil ?_
   refine Awp.trim 0 (encC eSeen (insertL D i v.D)) ((List.replicate (c * 9 - (encC eSeen D).length) AV.undef).drop (v.D.length * 9)) rfl ?_
   refine Awp.weakenR (S := [(6, .sl 1 0 (insertL D i v.D).length 9 false)]) (H := [(1, .cells (encC eSeen (insertL D i v.D)))]) (U := [0, 1]) (fun x => bif x == 1 then 0 else x) (WeakerR.ofLI (I := [0]) (Ks := [1]) hI ⟨⟨sl_to rfl rfl (by rw [insertL_len (D := D) (M := v.D) hi] <;> omega), rfl⟩, trivial⟩ (okH_list rfl rfl rfl okH_nil) rfl rfl) ?_
   refine Awp.ret ?_
   exact ⟨.inl rfl, rfl, rfl⟩
end Go.Proofs.YthnghkkbnhjlgaaDoor
/- Lists of what was seen, cloned; into a list that is nil. No conditions. -/
namespace Go.Proofs.YthnghkkbnhjlgaaDoor
open Go.Am
def cloneSeen (s : (Sl Seen)) : (Sl Seen) :=
  (bif s.nil then (Sl.mk true []) else (Sl.mk false s.D))
theorem cloneSeen_calls (s : (Sl Seen)) (hl1 : s.D.length ≤ 1000000) : PCalls Tryd.prog 14 [sS (some s.nil) eSeen s.D] (sS (some (cloneSeen s).nil) eSeen ((cloneSeen s).D)) := by
 generalize hR : cloneSeen s = R
 refine PCalls.of_body tabOk Tryd.func14 rfl rfl rfl rfl rfl mixed fun E hP C hI => ?_
 refine Awp.consP C ?_
 refine rvP C (sS (some true) eSeen []) ?_
 refine rvc_nil ?_
 refine Awp.seq ?_
 refine Awp.consP C ?_
 refine rvP C (sS (some s.nil) eSeen s.D) ?_
 refine rvc_un (rexec_eqNil C (f := s.nil) rfl rfl rfl rfl ?_)
 refine rvc_nil ?_
 refine Awp.cond (b := s.nil) rfl (fun h1 => ?_) (fun h1 => ?_)
 ·
  replace hR := of_true h1 hR
  refine Awp.consP C ?_
  refine rvP C (sS (some true) eSeen []) ?_
  refine rvc_nil ?_
  refine Awp.ret ?_
  subst hR
  exact ⟨.inl rfl, rfl⟩
 ·
  replace hR := of_false h1 hR
  refine Awp.skip ?_
  refine Awp.consP C ?_
  refine rvc_un (rexec_prim C (δ := { v := .sl 5 0 0 9 true, new := [(5, .cells (encC eSeen []))] }) rfl rfl rfl rfl trivial rfl ?_)
  refine rvP C (sS (some s.nil) eSeen s.D) ?_
  refine rvc_un (rexec_append C rfl rfl rfl rfl rfl rfl rfl rfl (fun _ h => by cases h) rfl (en := eSeen) (D0 := []) (D := s.D) rfl rfl rfl rfl (by first | omega | (simp <;> omega)) (by decide) (nn := s.D.length) (by simp) ?_)
  refine rvP C (.sl 7 0 s.D.length 9 false) ?_
  refine rvc_nil ?_
  refine Awp.freezeW 7 (encL eSeen s.D) ?_ [(2, sS (some false) eSeen s.D)] [] ?_ ?_ ?_
  · rfl
  · exact ⟨⟨_, rfl, .inl (.inr ⟨_, _, _, rfl, rfl⟩)⟩, trivial⟩
  · exact trivial
  refine Awp.ret ?_
  subst hR
  exact ⟨.inl rfl, rfl⟩
def cloneSeenO (s : (Sl Seen)) : List Seen :=
  s.D
theorem cloneSeenO_calls (s : (Sl Seen)) (hn : s.nil = false) (hl1 : s.D.length ≤ 1000000) : OCalls Tryd.prog 14 [sS (some s.nil) eSeen s.D] (.sl 0 0 (cloneSeenO s).length 9 false) (.cells (encC eSeen (cloneSeenO s))) := by
 generalize hR : cloneSeenO s = R
 refine OCalls.of_body tabOk Tryd.func14 rfl rfl rfl rfl rfl (encC_within _ _) mixed fun E hP C hI => ?_
 refine Awp.consP C ?_
 refine rvP C (sS (some true) eSeen []) ?_
 refine rvc_nil ?_
 refine Awp.seq ?_
 refine Awp.consP C ?_
 refine rvP C (sS (some s.nil) eSeen s.D) ?_
 refine rvc_un (rexec_eqNil C (f := s.nil) rfl rfl rfl rfl ?_)
 refine rvc_nil ?_
 refine Awp.condF (b := s.nil) rfl hn ?_
 refine Awp.skip ?_
 refine Awp.consP C ?_
 refine rvc_un (rexec_prim C (δ := { v := .sl 5 0 0 9 true, new := [(5, .cells (encC eSeen []))] }) rfl rfl rfl rfl trivial rfl ?_)
 refine rvP C (sS (some s.nil) eSeen s.D) ?_
 refine rvc_un (rexec_append C rfl rfl rfl rfl rfl rfl rfl rfl (fun _ h => by cases h) rfl (en := eSeen) (D0 := []) (D := s.D) rfl rfl rfl rfl (by first | omega | (simp <;> omega)) (by decide) (nn := s.D.length) (by simp) ?_)
 refine rvP C (.sl 7 0 s.D.length 9 false) ?_
 refine rvc_nil ?_
 refine Awp.weakenR (S := [(2, .sl 0 0 s.D.length 9 false)]) (H := [(0, .cells (encC eSeen s.D))]) (U := [0]) (fun x => bif x == 0 then 7 else x) (WeakerR.ofL (Ks := [0]) hI ⟨⟨rfl, rfl⟩, trivial⟩ (okH_list rfl rfl rfl okH_nil) rfl) ?_
 refine Awp.ret ?_
 subst hR
 exact ⟨.inl rfl, rfl, rfl⟩
theorem cloneSeenO_nil (s : Sl Seen) (h : s.nil = true) (hl : s.D.length ≤ 1000000) : PCalls Tryd.prog 14 [sS (some s.nil) eSeen s.D] (sS (some true) eSeen []) := by
  have r := cloneSeen_calls s hl
  rw [show cloneSeen s = Sl.mk true [] by unfold cloneSeen; rw [h]; rfl] at r
  exact r
theorem ne0_of {D : List Seen} (h : 0 < D.length) : ((D.length : Int) == 0) = false := by simp; intro e; rw [e] at h; simp at h
def insNil   (v : (Sl Seen)) : List Seen :=
  v.D
theorem insNil_calls   (v : (Sl Seen)) (hv : 0 < v.D.length) (hl1 : v.D.length ≤ 1000000) : OCalls Tryd.prog 46 [sS (some true) eSeen [], .pv (.lit (.int .i64 0)), sS (some v.nil) eSeen v.D] (.sl 0 0 (insNil   v).length 9 false) (.cells (encC eSeen (insNil   v))) := by
 generalize hR : insNil   v = R
 refine OCalls.of_body tabOk Tryd.func46 rfl rfl rfl rfl rfl (encC_within _ _) mixed fun E hP C hI => ?_
 refine Awp.consP C ?_
 refine rvP C (sS (some true) eSeen []) ?_
 refine rvc_nil ?_
 refine Awp.consP C ?_
 refine rvP C (sS (some true) eSeen []) ?_
 refine rvP C (.pv (.lit (.int .i64 0))) ?_
 refine rvc_un (rexec_sliceS C (e := eSeen) (D := []) 0 0 rfl rfl rfl rfl rfl rfl rfl rfl rfl rfl (by have := ne_of_beq_false (ne0_of hv); omega) (by have := ne_of_beq_false (ne0_of hv); omega) [] (by simp) ?_)
 refine rvc_nil ?_
 refine Awp.consP C ?_
 refine rvP C (sS (some v.nil) eSeen v.D) ?_
 refine rvP C (.pv (.lit (.int .i64 (v.D.length : Int)))) ?_
 refine rvP C (.pv (.lit (.int .i64 (v.D.length : Int)))) ?_
 refine rvc_nil ?_
 refine Awp.seq ?_
 refine Awp.consP C ?_
 refine rvP C (.pv (.lit (.int .i64 (v.D.length : Int)))) ?_
 refine rvP C (.pv (.lit (.bool ((v.D.length : Int) == 0)))) ?_
 refine rvc_nil ?_
 refine Awp.condF (b := ((v.D.length : Int) == 0)) rfl (ne0_of hv) ?_
 refine Awp.skip ?_
 refine Awp.consP C ?_
 refine rvP C (sS (some true) eSeen []) ?_
 refine rvP C (.pv (.lit (.int .i64 0))) ?_
 refine rvP C (.pv (.lit (.int .i64 0))) ?_
 refine rvc_nil ?_
 refine Awp.seq ?_
 refine Awp.consP C ?_
 refine rvP C (.pv (.lit (.int .i64 0))) ?_
 refine rvP C (.pv (.lit (.int .i64 0))) ?_
 refine rvP C (.pv (.lit (.bool true))) ?_
 refine rvc_nil ?_
 refine Awp.condT (b := true) rfl rfl ?_
 refine Awp.consP C ?_
 refine rvP C (sS (some true) eSeen []) ?_
 refine rvP C (sS (some v.nil) eSeen v.D) ?_
 refine rvc_un (rexec_appendN C rfl rfl rfl rfl rfl rfl rfl rfl (fun _ h => by cases h) rfl (en := eSeen) (D := v.D) rfl rfl hv (by have := ne_of_beq_false (ne0_of hv); first | omega | (simp <;> omega)) (by decide) (nn := v.D.length) rfl ?_)
 refine rvP C (.sl 25 0 v.D.length 9 false) ?_
 refine rvc_nil ?_
 refine Awp.weakenR (S := [(6, .sl 0 0 v.D.length 9 false)]) (H := [(0, .cells (encC eSeen v.D))]) (U := [0]) (fun x => bif x == 0 then 25 else x) (WeakerR.ofL (Ks := [0]) hI ⟨⟨rfl, rfl⟩, trivial⟩ (okH_list rfl rfl rfl okH_nil) rfl) ?_
 refine Awp.ret ?_
 subst hR
 exact ⟨.inl rfl, rfl, rfl⟩
end Go.Proofs.YthnghkkbnhjlgaaDoor
/- Into a list of what was seen, at a place that is told. No conditions. -/
namespace Go.Proofs.YthnghkkbnhjlgaaDoor
open Go.Am
theorem insertSI_calls (D : List Seen) (i : Int) (v : Sl Seen) (hi : 0 ≤ i ∧ i ≤ (D.length : Int)) (hv : 0 < v.D.length) (hl1 : D.length ≤ 1000000) (hl2 : v.D.length ≤ 1000000) : TCalls Tryd.prog 46 [.sl 0 0 D.length 9 false, .pv (.lit (.int .i64 i)), sS (some v.nil) eSeen v.D] (.cells (encC eSeen D)) (.sl 1 0 (insertL D i.toNat v.D).length 9 false) (.cells (encC eSeen (insertL D i.toNat v.D))) := by
  have r := insertS_calls D i.toNat v (by omega) hv hl1 hl2
  rw [Int.toNat_of_nonneg hi.1] at r
  exact r
theorem insNilI_calls (i : Int) (v : Sl Seen) (hi : i = 0) (hv : 0 < v.D.length) (hl : v.D.length ≤ 1000000) : OCalls Tryd.prog 46 [sS (some true) eSeen [], .pv (.lit (.int .i64 i)), sS (some v.nil) eSeen v.D] (.sl 0 0 v.D.length 9 false) (.cells (encC eSeen v.D)) := by
  subst hi
  exact insNil_calls v hv hl
theorem place_nil {l : Sl Seen} {k : Nat → Int} (hn : l.D.length ≤ 1000000) (h : l.D = []) : (place l k).1 = 0 := by
  have := place_le l k hn
  rw [h] at this
  simp at this
  omega
theorem place_nil2 {l : Sl Seen} {k : Nat → Int} (hn : l.D.length ≤ 1000000) (h : l.D = []) : (place l k).2 = false := by
  cases e : (place l k).2
  · rfl
  · have := place_lt hn e
    rw [h] at this
    simp at this
    omega
theorem place_toNat {l : Sl Seen} {k : Nat → Int} (hn : l.D.length ≤ 1000000) : ((place l k).1).toNat ≤ l.D.length := by
  have := place_le l k hn
  omega
theorem KB_nil : ∀ x ∈ ([] : List Seen), KeyB x.key := fun _ h => nomatch h
theorem KB_one {k : Nat → Int} {v : Int} (hk : KeyB k) : ∀ x ∈ [Seen.mk k v], KeyB x.key := fun x h => by rw [List.mem_singleton.1 h]; exact hk
theorem K8 {k : Nat → Int} (h : KeyB k) : KeyB (ofL [k 0, k 1, k 2, k 3, k 4, k 5, k 6, k 7]) := fun j hj => by
  rcases (by omega : j = 0 ∨ j = 1 ∨ j = 2 ∨ j = 3 ∨ j = 4 ∨ j = 5 ∨ j = 6 ∨ j = 7) with rfl | rfl | rfl | rfl | rfl | rfl | rfl | rfl <;> exact h _ (by decide)
theorem KB_setk {D : List Seen} {i : Nat} {k : Nat → Int} {v : Int} (h : ∀ x ∈ D, KeyB x.key) (hk : KeyB k) : ∀ x ∈ D.set i (Seen.mk k v), KeyB x.key := fun x hx => by
  rcases List.mem_or_eq_of_mem_set hx with hx | rfl
  · exact h x hx
  · exact hk
theorem KB_ins {D : List Seen} {i : Nat} {k : Nat → Int} {v : Int} (h : ∀ x ∈ D, KeyB x.key) (hk : KeyB k) : ∀ x ∈ insertL D i [Seen.mk k v], KeyB x.key := fun x hx => by
  unfold insertL at hx
  rcases List.mem_append.1 hx with hx | hx
  · rcases List.mem_append.1 hx with hx | hx
    · exact h x (List.mem_of_mem_take hx)
    · exact KB_one hk x hx
  · exact h x (List.mem_of_mem_drop hx)
end Go.Proofs.YthnghkkbnhjlgaaDoor
/- One version more. No conditions. -/
namespace Go.Proofs.YthnghkkbnhjlgaaDoor
open Go.Am
def pSee (l : (Sl Seen)) (k : (Nat → Int)) (ver : Int) : (Sl Seen) × Int :=
  (bif ((pRight l) != 0) then ((Sl.mk true []), (pRight l)) else (bif ((shRight k) != 0) then ((Sl.mk true []), 100) else (bif (decide (ver < 0)) then ((Sl.mk true []), 100) else (bif (decide (ver > 1099511627776)) then ((Sl.mk true []), 100) else (bif l.nil then (bif (ver == 0) then (bif ((pRight (Sl.mk true [])) != 0) then ((Sl.mk true []), (pRight (Sl.mk true []))) else ((Sl.mk true []), 0)) else (bif ((pRight (Sl.mk false [(Seen.mk k ver)])) != 0) then ((Sl.mk true []), (pRight (Sl.mk false [(Seen.mk k ver)]))) else ((Sl.mk false [(Seen.mk k ver)]), 0))) else (bif (place l k).2 then (bif ((pRight (Sl.mk false (l.D.set (((place l k).1).toNat) (Seen.mk (ofL [(l.D[((place l k).1).toNat]!.key 0), (l.D[((place l k).1).toNat]!.key 1), (l.D[((place l k).1).toNat]!.key 2), (l.D[((place l k).1).toNat]!.key 3), (l.D[((place l k).1).toNat]!.key 4), (l.D[((place l k).1).toNat]!.key 5), (l.D[((place l k).1).toNat]!.key 6), (l.D[((place l k).1).toNat]!.key 7)]) (bif (decide ((l.D[((place l k).1).toNat]!.ver) < ver)) then ver else (l.D[((place l k).1).toNat]!.ver)))))) != 0) then ((Sl.mk true []), (pRight (Sl.mk false (l.D.set (((place l k).1).toNat) (Seen.mk (ofL [(l.D[((place l k).1).toNat]!.key 0), (l.D[((place l k).1).toNat]!.key 1), (l.D[((place l k).1).toNat]!.key 2), (l.D[((place l k).1).toNat]!.key 3), (l.D[((place l k).1).toNat]!.key 4), (l.D[((place l k).1).toNat]!.key 5), (l.D[((place l k).1).toNat]!.key 6), (l.D[((place l k).1).toNat]!.key 7)]) (bif (decide ((l.D[((place l k).1).toNat]!.ver) < ver)) then ver else (l.D[((place l k).1).toNat]!.ver))))))) else ((Sl.mk false (l.D.set (((place l k).1).toNat) (Seen.mk (ofL [(l.D[((place l k).1).toNat]!.key 0), (l.D[((place l k).1).toNat]!.key 1), (l.D[((place l k).1).toNat]!.key 2), (l.D[((place l k).1).toNat]!.key 3), (l.D[((place l k).1).toNat]!.key 4), (l.D[((place l k).1).toNat]!.key 5), (l.D[((place l k).1).toNat]!.key 6), (l.D[((place l k).1).toNat]!.key 7)]) (bif (decide ((l.D[((place l k).1).toNat]!.ver) < ver)) then ver else (l.D[((place l k).1).toNat]!.ver))))), 0)) else (bif (ver == 0) then (bif ((pRight (Sl.mk false l.D)) != 0) then ((Sl.mk true []), (pRight (Sl.mk false l.D))) else ((Sl.mk false l.D), 0)) else (bif ((pRight (Sl.mk false (insertL l.D (((place l k).1).toNat) [(Seen.mk k ver)]))) != 0) then ((Sl.mk true []), (pRight (Sl.mk false (insertL l.D (((place l k).1).toNat) [(Seen.mk k ver)])))) else ((Sl.mk false (insertL l.D (((place l k).1).toNat) [(Seen.mk k ver)])), 0)))))))))
theorem pSee_calls (l : (Sl Seen)) (k : (Nat → Int)) (ver : Int) (hl : ∀ x ∈ l.D, KeyB x.key) (hk : KeyB k) (hn : l.nil = true → l.D = []) (hl1 : l.D.length ≤ 1000) : PCalls Tryd.prog 22 [sS (some l.nil) eSeen l.D, .agg [.pv (.lit (.int .u8 (k 0))), .pv (.lit (.int .u8 (k 1))), .pv (.lit (.int .u8 (k 2))), .pv (.lit (.int .u8 (k 3))), .pv (.lit (.int .u8 (k 4))), .pv (.lit (.int .u8 (k 5))), .pv (.lit (.int .u8 (k 6))), .pv (.lit (.int .u8 (k 7)))], .pv (.lit (.int .i64 ver))] (.tup [sS (some (pSee l k ver).1.nil) eSeen ((pSee l k ver).1.D), .pv (.lit (.int .i64 ((pSee l k ver).2)))]) := by
 generalize hR : pSee l k ver = R
 refine PCalls.of_body tabOk Tryd.func22 rfl rfl rfl rfl rfl mixed fun E hP C hI => ?_
 refine Awp.consP C ?_
 refine rvc_un (rexec_prim C (δ := { v := .ptr 4 0, new := [(4, .cells [.pv (.lit (.int .u8 (k 0))), .pv (.lit (.int .u8 (k 1))), .pv (.lit (.int .u8 (k 2))), .pv (.lit (.int .u8 (k 3))), .pv (.lit (.int .u8 (k 4))), .pv (.lit (.int .u8 (k 5))), .pv (.lit (.int .u8 (k 6))), .pv (.lit (.int .u8 (k 7)))])] }) rfl rfl rfl rfl trivial rfl ?_)
 refine rvP C (sS (some true) eSeen []) ?_
 refine rvP C (.pv (.lit (.int .i64 0))) ?_
 refine rvc_nil ?_
 refine Awp.seq ?_
 refine Awp.consP C ?_
 refine rvP C (sS (some l.nil) eSeen l.D) ?_
 refine rvc_un (rexec_call hP C rfl rfl rfl (pRight_calls l hl (Nat.le_trans hl1 (by decide))) ?_)
 refine rvP C (.pv (.lit (.int .i64 (pRight l)))) ?_
 refine rvc_nil ?_
 refine Awp.consP C ?_
 refine rvP C (.pv (.lit (.int .i64 (pRight l)))) ?_
 refine rvP C (.pv (.lit (.bool ((pRight l) != 0)))) ?_
 refine rvc_nil ?_
 refine Awp.cond (b := ((pRight l) != 0)) rfl (fun h1 => ?_) (fun h1 => ?_)
 ·
  replace hR := of_true h1 hR
  refine Awp.consP C ?_
  refine rvP C (.pv (.lit (.int .i64 (pRight l)))) ?_
  refine rvP C (sS (some true) eSeen []) ?_
  refine rvP C (.pv (.lit (.int .i64 (pRight l)))) ?_
  refine rvc_nil ?_
  refine Awp.ret ?_
  subst hR
  exact ⟨.inl rfl, rfl⟩
 ·
  replace hR := of_false h1 hR
  refine Awp.skip ?_
  refine Awp.seq ?_
  refine Awp.consP C ?_
  refine rvP C (.agg [.pv (.lit (.int .u8 (k 0))), .pv (.lit (.int .u8 (k 1))), .pv (.lit (.int .u8 (k 2))), .pv (.lit (.int .u8 (k 3))), .pv (.lit (.int .u8 (k 4))), .pv (.lit (.int .u8 (k 5))), .pv (.lit (.int .u8 (k 6))), .pv (.lit (.int .u8 (k 7)))]) ?_
  refine rvc_un (rexec_call hP C rfl rfl rfl (shRight_calls k hk) ?_)
  refine rvP C (.pv (.lit (.bool ((shRight k) != 0)))) ?_
  refine rvP C (.pv (.lit (.bool ((shRight k) != 0)))) ?_
  refine rvc_case 21 ((shRight k) != 0) rfl (fun h2 => ?_) (fun h2 => ?_)
  ·
   replace hR := of_true h2 hR
   refine rvS ?_
   refine rvS ?_
   refine rvP C (.pv (.lit (.bool true))) ?_
   refine rvP C (.pv (.lit (.bool true))) ?_
   refine rvS ?_
   refine rvS ?_
   refine rvP C (.pv (.lit (.bool true))) ?_
   refine rvc_nil ?_
   refine Awp.condT (b := true) rfl rfl ?_
   refine Awp.consP C ?_
   refine rvP C (sS (some true) eSeen []) ?_
   refine rvP C (.pv (.lit (.int .i64 100))) ?_
   refine rvc_nil ?_
   refine Awp.ret ?_
   subst hR
   exact ⟨.inl rfl, rfl⟩
  ·
   replace hR := of_false h2 hR
   refine rvO C (.pv (.lit (.int .i64 ver))) ?_
   refine rvO C (.pv (.lit (.bool (decide (ver < 0))))) ?_
   refine rvP C (.pv (.lit (.bool (decide (ver < 0))))) ?_
   refine rvP C (.pv (.lit (.bool (decide (ver < 0))))) ?_
   refine rvc_case 25 (decide (ver < 0)) rfl (fun h3 => ?_) (fun h3 => ?_)
   ·
    replace hR := of_true h3 hR
    refine rvS ?_
    refine rvS ?_
    refine rvP C (.pv (.lit (.bool true))) ?_
    refine rvc_nil ?_
    refine Awp.condT (b := true) rfl rfl ?_
    refine Awp.consP C ?_
    refine rvP C (sS (some true) eSeen []) ?_
    refine rvP C (.pv (.lit (.int .i64 100))) ?_
    refine rvc_nil ?_
    refine Awp.ret ?_
    subst hR
    exact ⟨.inl rfl, rfl⟩
   ·
    replace hR := of_false h3 hR
    refine rvO C (.pv (.lit (.int .i64 ver))) ?_
    refine rvO C (.pv (.lit (.bool (decide (ver > 1099511627776))))) ?_
    refine rvP C (.pv (.lit (.bool (decide (ver > 1099511627776))))) ?_
    refine rvc_nil ?_
    refine Awp.cond (b := (decide (ver > 1099511627776))) rfl (fun h4 => ?_) (fun h4 => ?_)
    ·
     replace hR := of_true h4 hR
     refine Awp.consP C ?_
     refine rvP C (sS (some true) eSeen []) ?_
     refine rvP C (.pv (.lit (.int .i64 100))) ?_
     refine rvc_nil ?_
     refine Awp.ret ?_
     subst hR
     exact ⟨.inl rfl, rfl⟩
    ·
     replace hR := of_false h4 hR
     refine Awp.skip ?_
     refine Awp.cons C (fun _ => .quiet) (by kernel_rfl) ?_
     refine rvP C (sS (some l.nil) eSeen l.D) ?_
     rcases Bool.eq_false_or_eq_true l.nil with h5 | h5
     ·
      replace hR := of_true h5 hR
      refine rvc_un (rexec_call hP C rfl rfl rfl (cloneSeenO_nil l h5 (by have := eq_of_bne_false h1; have := eq_of_bne_false h2; have := of_decide_eq_false h3; have := of_decide_eq_false h4; omega)) ?_)
      refine rvP C (sS (some true) eSeen []) ?_
      refine rvc_nil ?_
      refine Awp.consP C ?_
      refine rvP C (sS (some l.nil) eSeen l.D) ?_
      refine rvP C (.agg [.pv (.lit (.int .u8 (k 0))), .pv (.lit (.int .u8 (k 1))), .pv (.lit (.int .u8 (k 2))), .pv (.lit (.int .u8 (k 3))), .pv (.lit (.int .u8 (k 4))), .pv (.lit (.int .u8 (k 5))), .pv (.lit (.int .u8 (k 6))), .pv (.lit (.int .u8 (k 7)))]) ?_
      refine rvc_un (rexec_call hP C rfl rfl rfl (place_calls l k (Nat.le_trans hl1 (by decide))) ?_)
      refine rvP C (.tup [.pv (.lit (.int .i64 ((place l k).1))), .pv (.lit (.bool ((place l k).2)))]) ?_
      refine rvP C (.pv (.lit (.int .i64 ((place l k).1)))) ?_
      refine rvP C (.pv (.lit (.bool ((place l k).2)))) ?_
      refine rvP C (.pv (.lit (.int .i64 ((place l k).1)))) ?_
      refine rvP C (.pv (.lit (.bool ((place l k).2)))) ?_
      refine rvc_nil ?_
      refine Awp.seq ?_
      refine Awp.block ?_
      refine Awp.consP C ?_
      refine rvP C (.pv (.lit (.bool ((place l k).2)))) ?_
      refine rvP C (.pv (.lit (.bool ((place l k).2)))) ?_
      refine rvc_nil ?_
      refine Awp.condF (b := (place l k).2) rfl (place_nil2 (Nat.le_trans hl1 (by decide)) (hn h5)) ?_
      refine Awp.consP C ?_
      refine rvP C (.pv (.lit (.int .i64 ver))) ?_
      refine rvP C (.pv (.lit (.bool (ver == 0)))) ?_
      refine rvP C (.pv (.lit (.bool (ver == 0)))) ?_
      refine rvc_nil ?_
      refine Awp.cond (b := (ver == 0)) rfl (fun h6 => ?_) (fun h6 => ?_)
      ·
       replace hR := of_true h6 hR
       refine Awp.skip ?_
       refine Awp.seq ?_
       refine Awp.consP C ?_
       refine rvP C (sS (some true) eSeen []) ?_
       refine rvc_un (rexec_call hP C rfl rfl rfl (pRight_calls (Sl.mk true []) (by first | exact hl | exact KB_nil | exact KB_ins hl hk | exact KB_one hk | exact KB_setk hl (K8 (KB.at hl (by omega)))) (by first | (show _ ≤ 1000000; simp; done) | (show l.D.length ≤ 1000000; exact (Nat.le_trans hl1 (by decide))) | (rw [List.length_set]; exact (Nat.le_trans hl1 (by decide))) | (rw [insertL_len (place_toNat (Nat.le_trans hl1 (by decide)))]; simp; omega))) ?_)
       refine rvP C (.pv (.lit (.int .i64 (pRight (Sl.mk true []))))) ?_
       refine rvc_nil ?_
       refine Awp.consP C ?_
       refine rvP C (.pv (.lit (.int .i64 (pRight (Sl.mk true []))))) ?_
       refine rvP C (.pv (.lit (.bool ((pRight (Sl.mk true [])) != 0)))) ?_
       refine rvc_nil ?_
       refine Awp.cond (b := ((pRight (Sl.mk true [])) != 0)) rfl (fun h7 => ?_) (fun h7 => ?_)
       ·
        replace hR := of_true h7 hR
        refine Awp.consP C ?_
        refine rvP C (.pv (.lit (.int .i64 (pRight (Sl.mk true []))))) ?_
        refine rvP C (sS (some true) eSeen []) ?_
        refine rvP C (.pv (.lit (.int .i64 (pRight (Sl.mk true []))))) ?_
        refine rvc_nil ?_
        refine Awp.ret ?_
        subst hR
        exact ⟨.inl rfl, rfl⟩
       ·
        replace hR := of_false h7 hR
        refine Awp.skip ?_
        refine Awp.consP C ?_
        refine rvP C (sS (some true) eSeen []) ?_
        refine rvP C (sS (some true) eSeen []) ?_
        refine rvP C (.pv (.lit (.int .i64 0))) ?_
        refine rvc_nil ?_
        refine Awp.ret ?_
        subst hR
        exact ⟨.inl rfl, rfl⟩
      ·
       replace hR := of_false h6 hR
       refine Awp.region C (fun _ => .writer) (by kernel_rfl) ?_
       refine rvP C (sS (some true) eSeen []) ?_
       refine rvP C (.pv (.lit (.int .i64 ((place l k).1)))) ?_
       refine rvP C (.agg [.pv (.lit (.int .u8 (k 0))), .pv (.lit (.int .u8 (k 1))), .pv (.lit (.int .u8 (k 2))), .pv (.lit (.int .u8 (k 3))), .pv (.lit (.int .u8 (k 4))), .pv (.lit (.int .u8 (k 5))), .pv (.lit (.int .u8 (k 6))), .pv (.lit (.int .u8 (k 7)))]) ?_
       refine rvP C (.pv (.lit (.int .i64 ver))) ?_
       refine rvP C (.agg [.pv (.lit (.int .u8 (k 0))), .pv (.lit (.int .u8 (k 1))), .pv (.lit (.int .u8 (k 2))), .pv (.lit (.int .u8 (k 3))), .pv (.lit (.int .u8 (k 4))), .pv (.lit (.int .u8 (k 5))), .pv (.lit (.int .u8 (k 6))), .pv (.lit (.int .u8 (k 7))), .pv (.lit (.int .i64 ver))]) ?_
       refine rvc_un (rexec_buildSliceF C eSeen [(Seen.mk k ver)] rfl rfl rfl rfl rfl rfl rfl (by decide) rfl ?_)
       refine rvc_un (rexec_callO hP C rfl rfl rfl rfl (insNilI_calls ((place l k).1) (Sl.mk false [(Seen.mk k ver)]) (place_nil (Nat.le_trans hl1 (by decide)) (hn ‹l.nil = true›)) (by simp) (by simp)) ?_)
       refine rvP C (.sl 43 0 ([(Seen.mk k ver)].length) 9 false) ?_
       refine rvc_nil ?_
       refine Awp.seq ?_
       refine Awp.freezeW 43 (encL eSeen [(Seen.mk k ver)]) ?_ [(6, sS (some true) eSeen []), (7, .pv (.lit (.int .i64 0))), (9, sS (some false) eSeen [(Seen.mk k ver)])] [(4, .cells [.pv (.lit (.int .u8 (k 0))), .pv (.lit (.int .u8 (k 1))), .pv (.lit (.int .u8 (k 2))), .pv (.lit (.int .u8 (k 3))), .pv (.lit (.int .u8 (k 4))), .pv (.lit (.int .u8 (k 5))), .pv (.lit (.int .u8 (k 6))), .pv (.lit (.int .u8 (k 7)))])] ?_ ?_ ?_
       · rfl
       · exact ⟨⟨_, rfl, .inl (.inl rfl)⟩, ⟨_, rfl, .inl (.inl rfl)⟩, ⟨_, rfl, .inl (.inr ⟨_, _, _, rfl, rfl⟩)⟩, trivial⟩
       · exact ⟨⟨(by show (4 : Nat) ≠ 43; decide), .inl rfl⟩, trivial⟩
       refine Awp.consP C ?_
       refine rvP C (sS (some false) eSeen [(Seen.mk k ver)]) ?_
       refine rvc_un (rexec_call hP C rfl rfl rfl (pRight_calls (Sl.mk false [(Seen.mk k ver)]) (by first | exact hl | exact KB_nil | exact KB_ins hl hk | exact KB_one hk | exact KB_setk hl (K8 (KB.at hl (by omega)))) (by first | (show _ ≤ 1000000; simp; done) | (show l.D.length ≤ 1000000; exact (Nat.le_trans hl1 (by decide))) | (rw [List.length_set]; exact (Nat.le_trans hl1 (by decide))) | (rw [insertL_len (place_toNat (Nat.le_trans hl1 (by decide)))]; simp; omega))) ?_)
       refine rvP C (.pv (.lit (.int .i64 (pRight (Sl.mk false [(Seen.mk k ver)]))))) ?_
       refine rvc_nil ?_
       refine Awp.consP C ?_
       refine rvP C (.pv (.lit (.int .i64 (pRight (Sl.mk false [(Seen.mk k ver)]))))) ?_
       refine rvP C (.pv (.lit (.bool ((pRight (Sl.mk false [(Seen.mk k ver)])) != 0)))) ?_
       refine rvc_nil ?_
       refine Awp.cond (b := ((pRight (Sl.mk false [(Seen.mk k ver)])) != 0)) rfl (fun h8 => ?_) (fun h8 => ?_)
       ·
        replace hR := of_true h8 hR
        refine Awp.consP C ?_
        refine rvP C (.pv (.lit (.int .i64 (pRight (Sl.mk false [(Seen.mk k ver)]))))) ?_
        refine rvP C (sS (some true) eSeen []) ?_
        refine rvP C (.pv (.lit (.int .i64 (pRight (Sl.mk false [(Seen.mk k ver)]))))) ?_
        refine rvc_nil ?_
        refine Awp.ret ?_
        subst hR
        exact ⟨.inl rfl, rfl⟩
       ·
        replace hR := of_false h8 hR
        refine Awp.skip ?_
        refine Awp.consP C ?_
        refine rvP C (sS (some false) eSeen [(Seen.mk k ver)]) ?_
        refine rvP C (sS (some false) eSeen [(Seen.mk k ver)]) ?_
        refine rvP C (.pv (.lit (.int .i64 0))) ?_
        refine rvc_nil ?_
        refine Awp.ret ?_
        subst hR
        exact ⟨.inl rfl, rfl⟩
     ·
      replace hR := of_false h5 hR
      refine rvc_un (rexec_callO hP C rfl rfl rfl rfl (cloneSeenO_calls l h5 (by have := eq_of_bne_false h1; have := eq_of_bne_false h2; have := of_decide_eq_false h3; have := of_decide_eq_false h4; omega)) ?_)
      refine rvP C (.sl 30 0 l.D.length 9 false) ?_
      refine rvc_nil ?_
      refine Awp.consP C ?_
      refine rvP C (sS (some l.nil) eSeen l.D) ?_
      refine rvP C (.agg [.pv (.lit (.int .u8 (k 0))), .pv (.lit (.int .u8 (k 1))), .pv (.lit (.int .u8 (k 2))), .pv (.lit (.int .u8 (k 3))), .pv (.lit (.int .u8 (k 4))), .pv (.lit (.int .u8 (k 5))), .pv (.lit (.int .u8 (k 6))), .pv (.lit (.int .u8 (k 7)))]) ?_
      refine rvc_un (rexec_call hP C rfl rfl rfl (place_calls l k (Nat.le_trans hl1 (by decide))) ?_)
      refine rvP C (.tup [.pv (.lit (.int .i64 ((place l k).1))), .pv (.lit (.bool ((place l k).2)))]) ?_
      refine rvP C (.pv (.lit (.int .i64 ((place l k).1)))) ?_
      refine rvP C (.pv (.lit (.bool ((place l k).2)))) ?_
      refine rvP C (.pv (.lit (.int .i64 ((place l k).1)))) ?_
      refine rvP C (.pv (.lit (.bool ((place l k).2)))) ?_
      refine rvc_nil ?_
      refine Awp.seq ?_
      refine Awp.block ?_
      refine Awp.consP C ?_
      refine rvP C (.pv (.lit (.bool ((place l k).2)))) ?_
      refine rvP C (.pv (.lit (.bool ((place l k).2)))) ?_
      refine rvc_nil ?_
      refine Awp.cond (b := (place l k).2) rfl (fun h9 => ?_) (fun h9 => ?_)
      ·
       replace hR := of_true h9 hR
       refine Awp.regionP C ?_
       refine rvP C (.sl 30 0 l.D.length 9 false) ?_
       refine rvP C (.pv (.lit (.int .i64 ((place l k).1)))) ?_
       refine rvP C (.sl 30 0 l.D.length 9 false) ?_
       refine rvP C (.pv (.lit (.int .i64 ((place l k).1)))) ?_
       have hpl_ := place_lt (k := k) (Nat.le_trans hl1 (by decide)) ‹(place l k).2 = true›
       have h10 : l.D[((place l k).1).toNat]? = some l.D[((place l k).1).toNat]! := getE (by have h_ := place_lt (k := k) (Nat.le_trans hl1 (by decide)) ‹(place l k).2 = true›; omega)
       refine rvc_un (rexec_prim C (δ := { v := .ptr 30 (0 + ((place l k).1).toNat * 9) }) rfl rfl rfl rfl ⟨(by have := eq_of_bne_false h1; have := eq_of_bne_false h2; have := of_decide_eq_false h3; have := of_decide_eq_false h4; omega), getlt h10 (by first | rfl | omega | (have := eq_of_bne_false h1; have := eq_of_bne_false h2; have := of_decide_eq_false h3; have := of_decide_eq_false h4; omega)) (by first | rfl | omega | simp)⟩ rfl ?_)
       refine rvP C (.ptr 30 (0 + ((place l k).1).toNat * 9 + 8)) ?_
       refine rvc_un (rexec_loadE C (e := eSeen) (((place l k).1).toNat) 8 (l.D[((place l k).1).toNat]!) (.pv (.lit (.int .i64 (l.D[((place l k).1).toNat]!.ver)))) rfl rfl rfl rfl h10 (by simp [eSeen]) (by decide) (by decide) rfl ?_)
       refine rvP C (.pv (.lit (.int .i64 ver))) ?_
       refine rvc_un (rexec_max C rfl rfl rfl ?_)
       refine rvc_un (rexec_prim C (δ := { v := .ptr 30 (0 + ((place l k).1).toNat * 9) }) rfl rfl rfl rfl ⟨(by have := eq_of_bne_false h1; have := eq_of_bne_false h2; have := of_decide_eq_false h3; have := of_decide_eq_false h4; omega), getlt h10 (by first | rfl | omega | (have := eq_of_bne_false h1; have := eq_of_bne_false h2; have := of_decide_eq_false h3; have := of_decide_eq_false h4; omega)) (by first | rfl | omega | simp)⟩ rfl ?_)
       refine rvP C (.ptr 30 (0 + ((place l k).1).toNat * 9 + 8)) ?_
       refine rvc_un (rexec_storeE C (e := eSeen) (((place l k).1).toNat) 8 (l.D[((place l k).1).toNat]!) (Seen.mk (ofL [(l.D[((place l k).1).toNat]!.key 0), (l.D[((place l k).1).toNat]!.key 1), (l.D[((place l k).1).toNat]!.key 2), (l.D[((place l k).1).toNat]!.key 3), (l.D[((place l k).1).toNat]!.key 4), (l.D[((place l k).1).toNat]!.key 5), (l.D[((place l k).1).toNat]!.key 6), (l.D[((place l k).1).toNat]!.key 7)]) (bif (decide ((l.D[((place l k).1).toNat]!.ver) < ver)) then ver else (l.D[((place l k).1).toNat]!.ver))) rfl rfl rfl rfl h10 (by simp [eSeen]) rfl rfl rfl (of_decide_eq_true rfl) rfl ?_)
       refine rvc_nil ?_
       refine Awp.seq ?_
       refine Awp.freezeW 30 (encL eSeen (l.D.set (((place l k).1).toNat) (Seen.mk (ofL [(l.D[((place l k).1).toNat]!.key 0), (l.D[((place l k).1).toNat]!.key 1), (l.D[((place l k).1).toNat]!.key 2), (l.D[((place l k).1).toNat]!.key 3), (l.D[((place l k).1).toNat]!.key 4), (l.D[((place l k).1).toNat]!.key 5), (l.D[((place l k).1).toNat]!.key 6), (l.D[((place l k).1).toNat]!.key 7)]) (bif (decide ((l.D[((place l k).1).toNat]!.ver) < ver)) then ver else (l.D[((place l k).1).toNat]!.ver))))) ?_ [(6, sS (some true) eSeen []), (7, .pv (.lit (.int .i64 0))), (9, sS (some false) eSeen (l.D.set (((place l k).1).toNat) (Seen.mk (ofL [(l.D[((place l k).1).toNat]!.key 0), (l.D[((place l k).1).toNat]!.key 1), (l.D[((place l k).1).toNat]!.key 2), (l.D[((place l k).1).toNat]!.key 3), (l.D[((place l k).1).toNat]!.key 4), (l.D[((place l k).1).toNat]!.key 5), (l.D[((place l k).1).toNat]!.key 6), (l.D[((place l k).1).toNat]!.key 7)]) (bif (decide ((l.D[((place l k).1).toNat]!.ver) < ver)) then ver else (l.D[((place l k).1).toNat]!.ver)))))] [(4, .cells [.pv (.lit (.int .u8 (k 0))), .pv (.lit (.int .u8 (k 1))), .pv (.lit (.int .u8 (k 2))), .pv (.lit (.int .u8 (k 3))), .pv (.lit (.int .u8 (k 4))), .pv (.lit (.int .u8 (k 5))), .pv (.lit (.int .u8 (k 6))), .pv (.lit (.int .u8 (k 7)))])] ?_ ?_ ?_
       · rfl
       · exact ⟨⟨_, rfl, .inl (.inl rfl)⟩, ⟨_, rfl, .inl (.inl rfl)⟩, ⟨_, rfl, .inl (.inr ⟨_, _, _, rfl, by simp [sS] <;> omega⟩)⟩, trivial⟩
       · exact ⟨⟨(by show (4 : Nat) ≠ 30; decide), .inl rfl⟩, trivial⟩
       refine Awp.consP C ?_
       refine rvP C (sS (some false) eSeen (l.D.set (((place l k).1).toNat) (Seen.mk (ofL [(l.D[((place l k).1).toNat]!.key 0), (l.D[((place l k).1).toNat]!.key 1), (l.D[((place l k).1).toNat]!.key 2), (l.D[((place l k).1).toNat]!.key 3), (l.D[((place l k).1).toNat]!.key 4), (l.D[((place l k).1).toNat]!.key 5), (l.D[((place l k).1).toNat]!.key 6), (l.D[((place l k).1).toNat]!.key 7)]) (bif (decide ((l.D[((place l k).1).toNat]!.ver) < ver)) then ver else (l.D[((place l k).1).toNat]!.ver))))) ?_
       refine rvc_un (rexec_call hP C rfl rfl rfl (pRight_calls (Sl.mk false (l.D.set (((place l k).1).toNat) (Seen.mk (ofL [(l.D[((place l k).1).toNat]!.key 0), (l.D[((place l k).1).toNat]!.key 1), (l.D[((place l k).1).toNat]!.key 2), (l.D[((place l k).1).toNat]!.key 3), (l.D[((place l k).1).toNat]!.key 4), (l.D[((place l k).1).toNat]!.key 5), (l.D[((place l k).1).toNat]!.key 6), (l.D[((place l k).1).toNat]!.key 7)]) (bif (decide ((l.D[((place l k).1).toNat]!.ver) < ver)) then ver else (l.D[((place l k).1).toNat]!.ver))))) (by first | exact hl | exact KB_nil | exact KB_ins hl hk | exact KB_one hk | exact KB_setk hl (K8 (KB.at hl (by omega)))) (by first | (show _ ≤ 1000000; simp; done) | (show l.D.length ≤ 1000000; exact (Nat.le_trans hl1 (by decide))) | (rw [List.length_set]; exact (Nat.le_trans hl1 (by decide))) | (rw [insertL_len (place_toNat (Nat.le_trans hl1 (by decide)))]; simp; omega))) ?_)
       refine rvP C (.pv (.lit (.int .i64 (pRight (Sl.mk false (l.D.set (((place l k).1).toNat) (Seen.mk (ofL [(l.D[((place l k).1).toNat]!.key 0), (l.D[((place l k).1).toNat]!.key 1), (l.D[((place l k).1).toNat]!.key 2), (l.D[((place l k).1).toNat]!.key 3), (l.D[((place l k).1).toNat]!.key 4), (l.D[((place l k).1).toNat]!.key 5), (l.D[((place l k).1).toNat]!.key 6), (l.D[((place l k).1).toNat]!.key 7)]) (bif (decide ((l.D[((place l k).1).toNat]!.ver) < ver)) then ver else (l.D[((place l k).1).toNat]!.ver))))))))) ?_
       refine rvc_nil ?_
       refine Awp.consP C ?_
       refine rvP C (.pv (.lit (.int .i64 (pRight (Sl.mk false (l.D.set (((place l k).1).toNat) (Seen.mk (ofL [(l.D[((place l k).1).toNat]!.key 0), (l.D[((place l k).1).toNat]!.key 1), (l.D[((place l k).1).toNat]!.key 2), (l.D[((place l k).1).toNat]!.key 3), (l.D[((place l k).1).toNat]!.key 4), (l.D[((place l k).1).toNat]!.key 5), (l.D[((place l k).1).toNat]!.key 6), (l.D[((place l k).1).toNat]!.key 7)]) (bif (decide ((l.D[((place l k).1).toNat]!.ver) < ver)) then ver else (l.D[((place l k).1).toNat]!.ver))))))))) ?_
       refine rvP C (.pv (.lit (.bool ((pRight (Sl.mk false (l.D.set (((place l k).1).toNat) (Seen.mk (ofL [(l.D[((place l k).1).toNat]!.key 0), (l.D[((place l k).1).toNat]!.key 1), (l.D[((place l k).1).toNat]!.key 2), (l.D[((place l k).1).toNat]!.key 3), (l.D[((place l k).1).toNat]!.key 4), (l.D[((place l k).1).toNat]!.key 5), (l.D[((place l k).1).toNat]!.key 6), (l.D[((place l k).1).toNat]!.key 7)]) (bif (decide ((l.D[((place l k).1).toNat]!.ver) < ver)) then ver else (l.D[((place l k).1).toNat]!.ver)))))) != 0)))) ?_
       refine rvc_nil ?_
       refine Awp.cond (b := ((pRight (Sl.mk false (l.D.set (((place l k).1).toNat) (Seen.mk (ofL [(l.D[((place l k).1).toNat]!.key 0), (l.D[((place l k).1).toNat]!.key 1), (l.D[((place l k).1).toNat]!.key 2), (l.D[((place l k).1).toNat]!.key 3), (l.D[((place l k).1).toNat]!.key 4), (l.D[((place l k).1).toNat]!.key 5), (l.D[((place l k).1).toNat]!.key 6), (l.D[((place l k).1).toNat]!.key 7)]) (bif (decide ((l.D[((place l k).1).toNat]!.ver) < ver)) then ver else (l.D[((place l k).1).toNat]!.ver)))))) != 0)) rfl (fun h11 => ?_) (fun h11 => ?_)
       ·
        replace hR := of_true h11 hR
        refine Awp.consP C ?_
        refine rvP C (.pv (.lit (.int .i64 (pRight (Sl.mk false (l.D.set (((place l k).1).toNat) (Seen.mk (ofL [(l.D[((place l k).1).toNat]!.key 0), (l.D[((place l k).1).toNat]!.key 1), (l.D[((place l k).1).toNat]!.key 2), (l.D[((place l k).1).toNat]!.key 3), (l.D[((place l k).1).toNat]!.key 4), (l.D[((place l k).1).toNat]!.key 5), (l.D[((place l k).1).toNat]!.key 6), (l.D[((place l k).1).toNat]!.key 7)]) (bif (decide ((l.D[((place l k).1).toNat]!.ver) < ver)) then ver else (l.D[((place l k).1).toNat]!.ver))))))))) ?_
        refine rvP C (sS (some true) eSeen []) ?_
        refine rvP C (.pv (.lit (.int .i64 (pRight (Sl.mk false (l.D.set (((place l k).1).toNat) (Seen.mk (ofL [(l.D[((place l k).1).toNat]!.key 0), (l.D[((place l k).1).toNat]!.key 1), (l.D[((place l k).1).toNat]!.key 2), (l.D[((place l k).1).toNat]!.key 3), (l.D[((place l k).1).toNat]!.key 4), (l.D[((place l k).1).toNat]!.key 5), (l.D[((place l k).1).toNat]!.key 6), (l.D[((place l k).1).toNat]!.key 7)]) (bif (decide ((l.D[((place l k).1).toNat]!.ver) < ver)) then ver else (l.D[((place l k).1).toNat]!.ver))))))))) ?_
        refine rvc_nil ?_
        refine Awp.ret ?_
        subst hR
        exact ⟨.inl rfl, rfl⟩
       ·
        replace hR := of_false h11 hR
        refine Awp.skip ?_
        refine Awp.consP C ?_
        refine rvP C (sS (some false) eSeen (l.D.set (((place l k).1).toNat) (Seen.mk (ofL [(l.D[((place l k).1).toNat]!.key 0), (l.D[((place l k).1).toNat]!.key 1), (l.D[((place l k).1).toNat]!.key 2), (l.D[((place l k).1).toNat]!.key 3), (l.D[((place l k).1).toNat]!.key 4), (l.D[((place l k).1).toNat]!.key 5), (l.D[((place l k).1).toNat]!.key 6), (l.D[((place l k).1).toNat]!.key 7)]) (bif (decide ((l.D[((place l k).1).toNat]!.ver) < ver)) then ver else (l.D[((place l k).1).toNat]!.ver))))) ?_
        refine rvP C (sS (some false) eSeen (l.D.set (((place l k).1).toNat) (Seen.mk (ofL [(l.D[((place l k).1).toNat]!.key 0), (l.D[((place l k).1).toNat]!.key 1), (l.D[((place l k).1).toNat]!.key 2), (l.D[((place l k).1).toNat]!.key 3), (l.D[((place l k).1).toNat]!.key 4), (l.D[((place l k).1).toNat]!.key 5), (l.D[((place l k).1).toNat]!.key 6), (l.D[((place l k).1).toNat]!.key 7)]) (bif (decide ((l.D[((place l k).1).toNat]!.ver) < ver)) then ver else (l.D[((place l k).1).toNat]!.ver))))) ?_
        refine rvP C (.pv (.lit (.int .i64 0))) ?_
        refine rvc_nil ?_
        refine Awp.ret ?_
        subst hR
        exact ⟨.inl rfl, rfl⟩
      ·
       replace hR := of_false h9 hR
       refine Awp.consP C ?_
       refine rvP C (.pv (.lit (.int .i64 ver))) ?_
       refine rvP C (.pv (.lit (.bool (ver == 0)))) ?_
       refine rvP C (.pv (.lit (.bool (ver == 0)))) ?_
       refine rvc_nil ?_
       refine Awp.cond (b := (ver == 0)) rfl (fun h12 => ?_) (fun h12 => ?_)
       ·
        replace hR := of_true h12 hR
        refine Awp.skip ?_
        refine Awp.seq ?_
        refine Awp.freezeW 30 (encL eSeen l.D) ?_ [(6, sS (some true) eSeen []), (7, .pv (.lit (.int .i64 0))), (9, sS (some false) eSeen l.D)] [(4, .cells [.pv (.lit (.int .u8 (k 0))), .pv (.lit (.int .u8 (k 1))), .pv (.lit (.int .u8 (k 2))), .pv (.lit (.int .u8 (k 3))), .pv (.lit (.int .u8 (k 4))), .pv (.lit (.int .u8 (k 5))), .pv (.lit (.int .u8 (k 6))), .pv (.lit (.int .u8 (k 7)))])] ?_ ?_ ?_
        · rfl
        · exact ⟨⟨_, rfl, .inl (.inl rfl)⟩, ⟨_, rfl, .inl (.inl rfl)⟩, ⟨_, rfl, .inl (.inr ⟨_, _, _, rfl, rfl⟩)⟩, trivial⟩
        · exact ⟨⟨(by show (4 : Nat) ≠ 30; decide), .inl rfl⟩, trivial⟩
        refine Awp.consP C ?_
        refine rvP C (sS (some false) eSeen l.D) ?_
        refine rvc_un (rexec_call hP C rfl rfl rfl (pRight_calls (Sl.mk false l.D) (by first | exact hl | exact KB_nil | exact KB_ins hl hk | exact KB_one hk | exact KB_setk hl (K8 (KB.at hl (by omega)))) (by first | (show _ ≤ 1000000; simp; done) | (show l.D.length ≤ 1000000; exact (Nat.le_trans hl1 (by decide))) | (rw [List.length_set]; exact (Nat.le_trans hl1 (by decide))) | (rw [insertL_len (place_toNat (Nat.le_trans hl1 (by decide)))]; simp; omega))) ?_)
        refine rvP C (.pv (.lit (.int .i64 (pRight (Sl.mk false l.D))))) ?_
        refine rvc_nil ?_
        refine Awp.consP C ?_
        refine rvP C (.pv (.lit (.int .i64 (pRight (Sl.mk false l.D))))) ?_
        refine rvP C (.pv (.lit (.bool ((pRight (Sl.mk false l.D)) != 0)))) ?_
        refine rvc_nil ?_
        refine Awp.cond (b := ((pRight (Sl.mk false l.D)) != 0)) rfl (fun h13 => ?_) (fun h13 => ?_)
        ·
         replace hR := of_true h13 hR
         refine Awp.consP C ?_
         refine rvP C (.pv (.lit (.int .i64 (pRight (Sl.mk false l.D))))) ?_
         refine rvP C (sS (some true) eSeen []) ?_
         refine rvP C (.pv (.lit (.int .i64 (pRight (Sl.mk false l.D))))) ?_
         refine rvc_nil ?_
         refine Awp.ret ?_
         subst hR
         exact ⟨.inl rfl, rfl⟩
        ·
         replace hR := of_false h13 hR
         refine Awp.skip ?_
         refine Awp.consP C ?_
         refine rvP C (sS (some false) eSeen l.D) ?_
         refine rvP C (sS (some false) eSeen l.D) ?_
         refine rvP C (.pv (.lit (.int .i64 0))) ?_
         refine rvc_nil ?_
         refine Awp.ret ?_
         subst hR
         exact ⟨.inl rfl, rfl⟩
       ·
        replace hR := of_false h12 hR
        refine Awp.region C (fun _ => .writer) (by kernel_rfl) ?_
        refine rvP C (.sl 30 0 l.D.length 9 false) ?_
        refine rvP C (.pv (.lit (.int .i64 ((place l k).1)))) ?_
        refine rvP C (.agg [.pv (.lit (.int .u8 (k 0))), .pv (.lit (.int .u8 (k 1))), .pv (.lit (.int .u8 (k 2))), .pv (.lit (.int .u8 (k 3))), .pv (.lit (.int .u8 (k 4))), .pv (.lit (.int .u8 (k 5))), .pv (.lit (.int .u8 (k 6))), .pv (.lit (.int .u8 (k 7)))]) ?_
        refine rvP C (.pv (.lit (.int .i64 ver))) ?_
        refine rvP C (.agg [.pv (.lit (.int .u8 (k 0))), .pv (.lit (.int .u8 (k 1))), .pv (.lit (.int .u8 (k 2))), .pv (.lit (.int .u8 (k 3))), .pv (.lit (.int .u8 (k 4))), .pv (.lit (.int .u8 (k 5))), .pv (.lit (.int .u8 (k 6))), .pv (.lit (.int .u8 (k 7))), .pv (.lit (.int .i64 ver))]) ?_
        refine rvc_un (rexec_buildSliceF C eSeen [(Seen.mk k ver)] rfl rfl rfl rfl rfl rfl rfl (by decide) rfl ?_)
        refine rvc_un (rexec_callT hP C (b := 30) rfl rfl rfl rfl (insertSI_calls l.D ((place l k).1) (Sl.mk false [(Seen.mk k ver)]) (place_le l k (Nat.le_trans hl1 (by decide))) (by simp) (Nat.le_trans hl1 (by decide)) (by simp)) rfl rfl ?_)
        refine rvP C (.sl 43 0 ((insertL l.D (((place l k).1).toNat) [(Seen.mk k ver)]).length) 9 false) ?_
        refine rvc_nil ?_
        refine Awp.seq ?_
        refine Awp.freezeW 43 (encL eSeen (insertL l.D (((place l k).1).toNat) [(Seen.mk k ver)])) ?_ [(6, sS (some true) eSeen []), (7, .pv (.lit (.int .i64 0))), (9, sS (some false) eSeen (insertL l.D (((place l k).1).toNat) [(Seen.mk k ver)]))] [(4, .cells [.pv (.lit (.int .u8 (k 0))), .pv (.lit (.int .u8 (k 1))), .pv (.lit (.int .u8 (k 2))), .pv (.lit (.int .u8 (k 3))), .pv (.lit (.int .u8 (k 4))), .pv (.lit (.int .u8 (k 5))), .pv (.lit (.int .u8 (k 6))), .pv (.lit (.int .u8 (k 7)))])] ?_ ?_ ?_
        · rfl
        · exact ⟨⟨_, rfl, .inl (.inl rfl)⟩, ⟨_, rfl, .inl (.inl rfl)⟩, ⟨_, rfl, .inl (.inr ⟨_, _, _, rfl, rfl⟩)⟩, trivial⟩
        · exact ⟨⟨(by show (4 : Nat) ≠ 43; decide), .inl rfl⟩, trivial⟩
        refine Awp.consP C ?_
        refine rvP C (sS (some false) eSeen (insertL l.D (((place l k).1).toNat) [(Seen.mk k ver)])) ?_
        refine rvc_un (rexec_call hP C rfl rfl rfl (pRight_calls (Sl.mk false (insertL l.D (((place l k).1).toNat) [(Seen.mk k ver)])) (by first | exact hl | exact KB_nil | exact KB_ins hl hk | exact KB_one hk | exact KB_setk hl (K8 (KB.at hl (by omega)))) (by first | (show _ ≤ 1000000; simp; done) | (show l.D.length ≤ 1000000; exact (Nat.le_trans hl1 (by decide))) | (rw [List.length_set]; exact (Nat.le_trans hl1 (by decide))) | (rw [insertL_len (place_toNat (Nat.le_trans hl1 (by decide)))]; simp; omega))) ?_)
        refine rvP C (.pv (.lit (.int .i64 (pRight (Sl.mk false (insertL l.D (((place l k).1).toNat) [(Seen.mk k ver)])))))) ?_
        refine rvc_nil ?_
        refine Awp.consP C ?_
        refine rvP C (.pv (.lit (.int .i64 (pRight (Sl.mk false (insertL l.D (((place l k).1).toNat) [(Seen.mk k ver)])))))) ?_
        refine rvP C (.pv (.lit (.bool ((pRight (Sl.mk false (insertL l.D (((place l k).1).toNat) [(Seen.mk k ver)]))) != 0)))) ?_
        refine rvc_nil ?_
        refine Awp.cond (b := ((pRight (Sl.mk false (insertL l.D (((place l k).1).toNat) [(Seen.mk k ver)]))) != 0)) rfl (fun h14 => ?_) (fun h14 => ?_)
        ·
         replace hR := of_true h14 hR
         refine Awp.consP C ?_
         refine rvP C (.pv (.lit (.int .i64 (pRight (Sl.mk false (insertL l.D (((place l k).1).toNat) [(Seen.mk k ver)])))))) ?_
         refine rvP C (sS (some true) eSeen []) ?_
         refine rvP C (.pv (.lit (.int .i64 (pRight (Sl.mk false (insertL l.D (((place l k).1).toNat) [(Seen.mk k ver)])))))) ?_
         refine rvc_nil ?_
         refine Awp.ret ?_
         subst hR
         exact ⟨.inl rfl, rfl⟩
        ·
         replace hR := of_false h14 hR
         refine Awp.skip ?_
         refine Awp.consP C ?_
         refine rvP C (sS (some false) eSeen (insertL l.D (((place l k).1).toNat) [(Seen.mk k ver)])) ?_
         refine rvP C (sS (some false) eSeen (insertL l.D (((place l k).1).toNat) [(Seen.mk k ver)])) ?_
         refine rvP C (.pv (.lit (.int .i64 0))) ?_
         refine rvc_nil ?_
         refine Awp.ret ?_
         subst hR
         exact ⟨.inl rfl, rfl⟩
end Go.Proofs.YthnghkkbnhjlgaaDoor
/- The reference: one version more. No conditions. -/
namespace Go.Proofs.YthnghkkbnhjlgaaDoor
open Go.Am
end Go.Proofs.YthnghkkbnhjlgaaDoor
/- One version more, in plain words: the library's and the document's. No conditions. -/
namespace Go.Proofs.YthnghkkbnhjlgaaDoor
open Go.Am
theorem sOk_rd {x y : Seen} (h : rd x = rd y) : sOk x = sOk y := by
  have h2 : x.ver = y.ver := congrArg Prod.snd h
  unfold sOk
  rw [sOk_congr h, h2]
theorem rt_rd : ∀ {a b : List Seen} (o : Option (List Int)), a.map rd = b.map rd → rt o a = rt o b
  | [], [], _, _ => rfl
  | [], _ :: _, _, h => by simp at h
  | _ :: _, [], _, h => by simp at h
  | x :: xs, y :: ys, o, h => by
    simp only [List.map_cons, List.cons.injEq] at h
    have h1 : kL x.key = kL y.key := congrArg Prod.fst h.1
    cases o with
    | none => rw [rt_c0, rt_c0, sOk_rd h.1, h1, rt_rd _ h.2]
    | some q => rw [rt_c1, rt_c1, sOk_rd h.1, h1, rt_rd _ h.2]
theorem len_rd {a b : List Seen} (h : a.map rd = b.map rd) : a.length = b.length := by
  have := congrArg List.length h
  simpa using this
theorem pRight_rd {X Y : Sl Seen} (hX : KB X.D) (hY : KB Y.D) (hn : X.D.length ≤ 1000000) (h : X.D.map rd = Y.D.map rd) : pRight X = pRight Y := by
  rw [pRight_eq hX hn, pRight_eq hY (by rw [← len_rd h]; exact hn), len_rd h, rt_rd none h]
theorem insS_rd {k : Nat → Int} {v : Int} : ∀ {a b : List Seen}, a.map rd = b.map rd → (insS k v a).map rd = (insS k v b).map rd
  | [], [], _ => rfl
  | [], _ :: _, h => by simp at h
  | _ :: _, [], h => by simp at h
  | x :: xs, y :: ys, h => by
    have h' := h
    simp only [List.map_cons, List.cons.injEq] at h
    have h1 : kL x.key = kL y.key := congrArg Prod.fst h.1
    have h2 : x.ver = y.ver := congrArg Prod.snd h.1
    rw [insS, insS, h1]
    split
    · rw [List.map_cons, List.map_cons, h.1, insS_rd h.2]
    · split
      · rw [List.map_cons, List.map_cons, h.2]
        congr 1
        show (kL x.key, max x.ver v) = (kL y.key, max y.ver v)
        rw [h1, h2]
      · rw [List.map_cons, List.map_cons (f := rd) (a := Seen.mk k v), h']
/-- What is handed back, if it may be. -/
def chk (X : Sl Seen) : Sl Seen × Int := bif (pRight X) != 0 then (Sl.mk true [], pRight X) else (X, 0)
def Good (r : Sl Seen × Int) : Prop := KB r.1.D ∧ (r.1.nil = true → r.1.D = []) ∧ r.1.D.length ≤ 6
theorem good_nil (e : Int) : Good (Sl.mk true [], e) := ⟨(fun _ h => nomatch h), fun _ => rfl, Nat.zero_le _⟩
theorem chk_good {X : Sl Seen} (hX : KB X.D) (hn : X.nil = true → X.D = []) (hl : X.D.length ≤ 1000000) : Good (chk X) := by
  unfold chk
  cases e : (pRight X != 0)
  · have e0 : pRight X = 0 := by simpa using e
    exact ⟨hX, hn, ((pRight_zero hX hl).1 e0).1⟩
  · exact good_nil _
/-- The list that See makes. -/
def seeX (l : Sl Seen) (k : Nat → Int) (v : Int) : Sl Seen :=
  bif l.nil then (bif v == 0 then Sl.mk true [] else Sl.mk false [Seen.mk k v])
  else bif (place l k).2 then Sl.mk false (l.D.set ((place l k).1).toNat (Seen.mk (ofL [(l.D[((place l k).1).toNat]!.key 0), (l.D[((place l k).1).toNat]!.key 1), (l.D[((place l k).1).toNat]!.key 2), (l.D[((place l k).1).toNat]!.key 3), (l.D[((place l k).1).toNat]!.key 4), (l.D[((place l k).1).toNat]!.key 5), (l.D[((place l k).1).toNat]!.key 6), (l.D[((place l k).1).toNat]!.key 7)]) (bif (decide ((l.D[((place l k).1).toNat]!.ver) < v)) then v else (l.D[((place l k).1).toNat]!.ver))))
  else bif v == 0 then Sl.mk false l.D else Sl.mk false (insertL l.D ((place l k).1).toNat [Seen.mk k v])
def badKV (k : Nat → Int) (v : Int) : Bool := (shRight k != 0) || (decide (v < 0) || decide (v > 1099511627776))
theorem pSee_eq (l : Sl Seen) (k : Nat → Int) (v : Int) : pSee l k v = bif (pRight l) != 0 then (Sl.mk true [], pRight l) else bif badKV k v then (Sl.mk true [], 100) else chk (seeX l k v) := by
  unfold pSee badKV
  cases (pRight l != 0)
  · cases (shRight k != 0)
    · cases decide (v < 0)
      · cases decide (v > 1099511627776)
        · unfold seeX
          cases l.nil
          · cases (place l k).2
            · cases (v == 0) <;> rfl
            · rfl
          · cases (v == 0) <;> rfl
        · rfl
      · rfl
    · rfl
  · rfl
theorem seeX_ok {l : Sl Seen} {k : Nat → Int} (v : Int) (hl : KB l.D) (hk : KeyB k) (hl1 : l.D.length ≤ 1000) : KB (seeX l k v).D ∧ ((seeX l k v).nil = true → (seeX l k v).D = []) ∧ (seeX l k v).D.length ≤ 1001 := by
  have h6 : l.D.length ≤ 1000000 := by omega
  unfold seeX
  cases l.nil
  · rw [cond_false]
    cases e : (place l k).2
    · rw [cond_false]
      cases (v == 0)
      · exact ⟨KB_ins hl hk, (fun h => nomatch h), by show (insertL _ _ _).length ≤ _; rw [insertL_len (place_toNat h6)]; simp; omega⟩
      · exact ⟨hl, (fun h => nomatch h), by show l.D.length ≤ _; omega⟩
    · have := place_lt h6 e
      exact ⟨KB_setk hl (K8 (KB.at hl (by omega))), (fun h => nomatch h), by show (l.D.set _ _).length ≤ _; rw [List.length_set]; omega⟩
  · rw [cond_true]
    cases (v == 0)
    · exact ⟨KB_one hk, (fun h => nomatch h), by show ([_] : List Seen).length ≤ _; simp⟩
    · exact ⟨KB_nil, (fun _ => rfl), Nat.zero_le _⟩
theorem pSee_good {l : Sl Seen} {k : Nat → Int} {v : Int} (hl : KB l.D) (hk : KeyB k) (hl1 : l.D.length ≤ 1000) : Good (pSee l k v) := by
  rw [pSee_eq]
  cases (pRight l != 0)
  · cases badKV k v
    · obtain ⟨h1, h2, h3⟩ := seeX_ok v hl hk hl1
      exact chk_good h1 h2 (by omega)
    · exact good_nil _
  · exact good_nil _
theorem pSee_ok {l : Sl Seen} {k : Nat → Int} {v : Int} (hl : KB l.D) (hk : KeyB k) (_hn : l.nil = true → l.D = []) (hl1 : l.D.length ≤ 1000) : KB (pSee l k v).1.D ∧ ((pSee l k v).1.nil = true → (pSee l k v).1.D = []) ∧ (pSee l k v).1.D.length ≤ 1000 := by
  obtain ⟨h1, h2, h3⟩ := pSee_good (v := v) hl hk hl1
  exact ⟨h1, h2, by omega⟩
theorem clone_ok {a : Sl Seen} (ha : KB a.D) (_hn : a.nil = true → a.D = []) (hl : a.D.length ≤ 1000) : KB (cloneSeen a).D ∧ ((cloneSeen a).nil = true → (cloneSeen a).D = []) ∧ (cloneSeen a).D.length ≤ 1000 := by
  unfold cloneSeen
  cases a.nil
  · exact ⟨ha, (fun h => nomatch h), hl⟩
  · exact ⟨KB_nil, (fun _ => rfl), Nat.zero_le _⟩
/-- What it comes to. -/
def seeL (k : Nat → Int) (v : Int) (l : List Seen) : List Seen := if v = 0 then l else insS k v l
theorem seeX_rd {l : Sl Seen} {k : Nat → Int} {v : Int} (hl : KB l.D) (hk : KeyB k) (hn : l.nil = true → l.D = []) (h6 : l.D.length ≤ 1000000) (hr : rt none l.D = true) : (seeX l k v).D.map rd = (seeL k v l.D).map rd := by
  unfold seeX seeL
  cases en : l.nil
  · rw [cond_false]
    obtain ⟨A, B, e, hp, hA, hB⟩ := place_split h6 hl hk hr
    have hpn : ((place l k).1).toNat = A.length := by omega
    rcases hB with ⟨y, ys, rfl, hy, h2⟩ | ⟨h2, hB⟩
    · rw [h2, cond_true, hpn]
      have hget : l.D[A.length]! = y := by rw [e]; simp
      rw [hget]
      have hset : ∀ Y : Seen, l.D.set A.length Y = A ++ Y :: ys := fun Y => by
        rw [e, List.set_append_right _ _ (Nat.le_refl _), Nat.sub_self]; rfl
      dsimp only
      rw [hset, List.map_append, List.map_cons]
      have hY : rd (Seen.mk (ofL [y.key 0, y.key 1, y.key 2, y.key 3, y.key 4, y.key 5, y.key 6, y.key 7]) (bif decide (y.ver < v) then v else y.ver)) = (kL y.key, max y.ver v) := by
        show (kL y.key, (bif decide (y.ver < v) then v else y.ver)) = _
        congr 1
        cases ed : decide (y.ver < v)
        · have := of_decide_eq_false ed
          rw [cond_false]; omega
        · have := of_decide_eq_true ed
          rw [cond_true]; omega
      rw [hY]
      by_cases hv0 : v = 0
      · rw [if_pos hv0, e, List.map_append, List.map_cons]
        have hvy : 1 ≤ y.ver := (ver_ok (rt_mem hr y (by rw [e]; simp))).1
        congr 2
        show (kL y.key, max y.ver v) = (kL y.key, y.ver)
        congr 1; omega
      · rw [if_neg hv0, e, insS_split hA]
        have : insS k v (y :: ys) = Seen.mk y.key (max y.ver v) :: ys := by
          rw [insS, if_neg (by rw [hy, ll_irrefl]; decide), if_pos hy]
        rw [this, List.map_append, List.map_cons]; rfl
    · rw [h2, cond_false]
      by_cases hv0 : v = 0
      · rw [if_pos hv0, hv0]; rfl
      · rw [if_neg hv0, show (v == 0) = false by simpa using hv0, cond_false, hpn]
        dsimp only
        rw [e, insS_split hA]
        have : insS k v B = Seen.mk k v :: B := by
          cases B with
          | nil => rfl
          | cons y ys =>
            have h := hB y (by simp)
            rw [insS, if_neg (by rw [ll_asym h]; decide), if_neg (fun q => ll_ne h q.symm)]
        rw [this]
        unfold insertL
        rw [List.take_left, List.drop_left, List.append_assoc]; rfl
  · rw [cond_true, hn en]
    by_cases hv0 : v = 0
    · rw [if_pos hv0, hv0]; rfl
    · rw [if_neg hv0, show (v == 0) = false by simpa using hv0, cond_false]; rfl
theorem badKV_false {k : Nat → Int} {v : Int} (h : badKV k v = false) : shRight k = 0 ∧ 0 ≤ v ∧ v ≤ 1099511627776 := by
  unfold badKV at h
  simp only [Bool.or_eq_false_iff, decide_eq_false_iff_not] at h
  have h1 : shRight k = 0 := by simpa using h.1
  omega
theorem seeL_rt {k : Nat → Int} {v : Int} {l : List Seen} (hb : badKV k v = false) (hr : rt none l = true) : rt none (seeL k v l) = true := by
  obtain ⟨h1, h2, h3⟩ := badKV_false hb
  unfold seeL
  split
  · exact hr
  · exact insS_rt (by omega) h3 h1 hr
/-- What See answers. -/
structure SeeSpec (r : Sl Seen × Int) (l : Sl Seen) (k : Nat → Int) (v : Int) : Prop where
  bad : pRight l ≠ 0 → r = (Sl.mk true [], pRight l)
  arg : pRight l = 0 → badKV k v = true → r = (Sl.mk true [], 100)
  full : pRight l = 0 → badKV k v = false → 6 < (seeL k v l.D).length → r = (Sl.mk true [], 7)
  good : pRight l = 0 → badKV k v = false → (seeL k v l.D).length ≤ 6 → r.2 = 0 ∧ r.1.D.map rd = (seeL k v l.D).map rd
theorem pSee_spec {l : Sl Seen} {k : Nat → Int} (v : Int) (hl : KB l.D) (hk : KeyB k) (hn : l.nil = true → l.D = []) (hl1 : l.D.length ≤ 1000) : SeeSpec (pSee l k v) l k v := by
  have h6 : l.D.length ≤ 1000000 := by omega
  obtain ⟨x1, x2, x3⟩ := seeX_ok v hl hk hl1
  have key : pRight l = 0 → badKV k v = false → rt none l.D = true ∧ (seeX l k v).D.map rd = (seeL k v l.D).map rd ∧ pRight (seeX l k v) = bif decide ((seeL k v l.D).length ≤ 6) then 0 else 7 := fun h0 hb => by
    have hr := ((pRight_zero hl h6).1 h0).2
    have hrd := seeX_rd (v := v) hl hk hn h6 hr
    refine ⟨hr, hrd, ?_⟩
    rw [pRight_eq x1 (by omega), len_rd hrd, rt_rd none hrd, seeL_rt hb hr]; rfl
  refine ⟨fun h => ?_, fun h hb => ?_, fun h hb hlen => ?_, fun h hb hlen => ?_⟩
  · rw [pSee_eq, show (pRight l != 0) = true by simpa using h]; rfl
  · rw [pSee_eq, show (pRight l != 0) = false by simpa using h, hb]; rfl
  · rw [pSee_eq, show (pRight l != 0) = false by simpa using h, hb, cond_false, cond_false]
    unfold chk
    rw [(key h hb).2.2, decide_eq_false (by omega)]; rfl
  · rw [pSee_eq, show (pRight l != 0) = false by simpa using h, hb, cond_false, cond_false]
    unfold chk
    rw [(key h hb).2.2, decide_eq_true hlen]
    exact ⟨rfl, (key h hb).2.1⟩
end Go.Proofs.YthnghkkbnhjlgaaDoor
/- The document's See, and floors, in plain words. No conditions. -/
namespace Go.Proofs.YthnghkkbnhjlgaaDoor
open Go.Am
theorem pFloor_eq {l : Sl Seen} {k : Nat → Int} (hl : KB l.D) (hk : KeyB k) (h6 : l.D.length ≤ 1000000) : pFloor l k = if pRight l = 0 then flr (kL k) l.D else 0 := by
  unfold pFloor
  by_cases h : pRight l = 0
  · have hr := ((pRight_zero hl h6).1 h).2
    obtain ⟨A, B, e, hp, hA, hB⟩ := place_split h6 hl hk hr
    rw [if_pos h, h]
    rcases hB with ⟨y, ys, rfl, hy, h2⟩ | ⟨h2, hB⟩
    · rw [h2, hp, Int.toNat_natCast]
      have hget : l.D[A.length]! = y := by rw [e]; simp
      rw [hget, e, flr_split hA, flr_cons, if_pos hy]; rfl
    · rw [h2, e, flr_split hA, flr_none hB]; rfl
  · rw [if_neg h, show (pRight l == 0) = false by simpa using h]
    cases (place l k).2 <;> rfl
end Go.Proofs.YthnghkkbnhjlgaaDoor
/- The reference: both together. No conditions. -/
namespace Go.Proofs.YthnghkkbnhjlgaaDoor
open Go.Am
end Go.Proofs.YthnghkkbnhjlgaaDoor
/- Both together. No conditions. -/
namespace Go.Proofs.YthnghkkbnhjlgaaDoor
open Go.Am
def pJoin_l0 : List Seen → Nat → (Sl Seen) → Int → (Sl Seen) × Int
  | [], _, out, e_ => (bif (e_ != 0) then ((Sl.mk true []), e_) else (out, 0))
  | x :: xs, i, out, e_ => (bif (e_ == 0) then pJoin_l0 xs (i + 1) ((pSee out x.key x.ver).1) ((pSee out x.key x.ver).2) else pJoin_l0 xs (i + 1) out e_)
def pJoin (a : (Sl Seen)) (b : (Sl Seen)) : (Sl Seen) × Int :=
  (bif ((pRight b) != 0) then ((Sl.mk true []), (pRight b)) else pJoin_l0 b.D 0 (cloneSeen a) (pRight a))
theorem pJoin_calls (a : (Sl Seen)) (b : (Sl Seen)) (ha : ∀ x ∈ a.D, KeyB x.key) (hb : ∀ x ∈ b.D, KeyB x.key) (hn : a.nil = true → a.D = []) (hl1 : b.D.length ≤ 1000) (hl2 : a.D.length ≤ 1000) : PCalls Tryd.prog 26 [sS (some a.nil) eSeen a.D, sS (some b.nil) eSeen b.D] (.tup [sS (some (pJoin a b).1.nil) eSeen ((pJoin a b).1.D), .pv (.lit (.int .i64 ((pJoin a b).2)))]) := by
 generalize hR : pJoin a b = R
 refine PCalls.of_body tabOk Tryd.func26 rfl rfl rfl rfl rfl mixed fun E hP C hI => ?_
 refine Awp.consP C ?_
 refine rvP C (sS (some true) eSeen []) ?_
 refine rvP C (.pv (.lit (.int .i64 0))) ?_
 refine rvc_nil ?_
 refine Awp.seq ?_
 refine Awp.consP C ?_
 refine rvP C (sS (some b.nil) eSeen b.D) ?_
 refine rvc_un (rexec_call hP C rfl rfl rfl (pRight_calls b hb (by show b.D.length ≤ 1000000; omega)) ?_)
 refine rvP C (.pv (.lit (.int .i64 (pRight b)))) ?_
 refine rvc_nil ?_
 refine Awp.consP C ?_
 refine rvP C (.pv (.lit (.int .i64 (pRight b)))) ?_
 refine rvP C (.pv (.lit (.bool ((pRight b) != 0)))) ?_
 refine rvc_nil ?_
 refine Awp.cond (b := ((pRight b) != 0)) rfl (fun h1 => ?_) (fun h1 => ?_)
 ·
  replace hR := of_true h1 hR
  refine Awp.consP C ?_
  refine rvP C (.pv (.lit (.int .i64 (pRight b)))) ?_
  refine rvP C (sS (some true) eSeen []) ?_
  refine rvP C (.pv (.lit (.int .i64 (pRight b)))) ?_
  refine rvc_nil ?_
  refine Awp.ret ?_
  subst hR
  exact ⟨.inl rfl, rfl⟩
 ·
  replace hR := of_false h1 hR
  refine Awp.skip ?_
  refine Awp.consP C ?_
  refine rvP C (sS (some a.nil) eSeen a.D) ?_
  refine rvc_un (rexec_call hP C rfl rfl rfl (cloneSeen_calls a (Nat.le_trans hl2 (by decide))) ?_)
  refine rvP C (sS (some a.nil) eSeen a.D) ?_
  refine rvc_un (rexec_call hP C rfl rfl rfl (pRight_calls a ha (by show a.D.length ≤ 1000000; omega)) ?_)
  refine rvP C (sS (some (cloneSeen a).nil) eSeen ((cloneSeen a).D)) ?_
  refine rvP C (.pv (.lit (.int .i64 (pRight a)))) ?_
  refine rvc_nil ?_
  refine Awp.seq ?_
  refine Awp.consP C ?_
  refine rvP C (sS (some b.nil) eSeen b.D) ?_
  refine rvP C (.pv (.lit (.int .i64 (b.D.length : Int)))) ?_
  refine rvP C (.pv (.lit (.int .i64 0))) ?_
  refine rvc_nil ?_
  refine Awp.block ?_
  refine Awp.forR (σ := ((Sl Seen)) × Int) (b.D.length) (fun i v => [(7, sS (some v.1.nil) eSeen v.1.D), (8, .pv (.lit (.int .i64 v.2))), (20, sS (some b.nil) eSeen b.D), (21, .pv (.lit (.int .i64 (b.D.length : Int)))), (22, .pv (.lit (.int .i64 (i : Int))))]) (fun i v => []) [] (fun i v => (pJoin_l0 (b.D.drop i) i v.1 v.2 = R) ∧ (KB v.1.D ∧ (v.1.nil = true → v.1.D = []) ∧ v.1.D.length ≤ 1000)) ((cloneSeen a), (pRight a)) ?_ ?_ (fun i v h2 hR => ?_)
  · exact ⟨hR, (clone_ok ha hn (by omega))⟩
  · exact ⟨fun b => b, WeakerR.ofL (Ks := []) hI ⟨⟨rfl, rfl⟩, ⟨rfl, rfl⟩, ⟨rfl, rfl⟩, ⟨rfl, rfl⟩, ⟨rfl, rfl⟩, trivial⟩ (okH_nil) rfl⟩
  obtain ⟨out, e_⟩ := v
  obtain ⟨hR, hV⟩ := hR
  refine Awp.consP C ?_
  refine rvP C (.pv (.lit (.bool (decide ((i : Int) < (b.D.length : Int)))))) ?_
  refine rvc_nil ?_
  refine Awp.seq ?_
  refine Awp.cond (b := (decide ((i : Int) < (b.D.length : Int)))) rfl (fun h3 => ?_) (fun h3 => ?_)
  ·
   have h4 : i < b.D.length := by have := of_decide_eq_true h3; omega
   obtain ⟨x, h5⟩ := getX h4
   rw [drop_at h5] at hR
   refine Awp.skip ?_
   refine Awp.seq ?_
   refine Awp.block ?_
   refine Awp.consP C ?_
   refine rvc_un (rexec_idxS C rfl rfl rfl rfl rfl rfl x (Int.natCast_nonneg _) h5 ?_)
   refine rvP C (.agg [.pv (.lit (.int .u8 (x.key 0))), .pv (.lit (.int .u8 (x.key 1))), .pv (.lit (.int .u8 (x.key 2))), .pv (.lit (.int .u8 (x.key 3))), .pv (.lit (.int .u8 (x.key 4))), .pv (.lit (.int .u8 (x.key 5))), .pv (.lit (.int .u8 (x.key 6))), .pv (.lit (.int .u8 (x.key 7))), .pv (.lit (.int .i64 x.ver))]) ?_
   refine rvc_un (rexec_prim C (δ := { v := .ptr 10 0, new := [(10, .cells [.pv (.lit (.int .u8 0)), .pv (.lit (.int .u8 0)), .pv (.lit (.int .u8 0)), .pv (.lit (.int .u8 0)), .pv (.lit (.int .u8 0)), .pv (.lit (.int .u8 0)), .pv (.lit (.int .u8 0)), .pv (.lit (.int .u8 0)), .pv (.lit (.int .i64 0))])] }) rfl rfl rfl rfl trivial rfl ?_)
   refine rvc_un (rexec_prim C (δ := { v := .undef, wr := [(10, some (.cells [.pv (.lit (.int .u8 (x.key 0))), .pv (.lit (.int .u8 (x.key 1))), .pv (.lit (.int .u8 (x.key 2))), .pv (.lit (.int .u8 (x.key 3))), .pv (.lit (.int .u8 (x.key 4))), .pv (.lit (.int .u8 (x.key 5))), .pv (.lit (.int .u8 (x.key 6))), .pv (.lit (.int .u8 (x.key 7))), .pv (.lit (.int .i64 x.ver))]))] }) rfl rfl rfl rfl trivial rfl ?_)
   refine rvc_nil ?_
   refine Awp.consP C ?_
   refine rvP C (.pv (.lit (.int .i64 e_))) ?_
   refine rvP C (.pv (.lit (.bool (e_ == 0)))) ?_
   refine rvc_nil ?_
   refine Awp.cond (b := (e_ == 0)) rfl (fun h6 => ?_) (fun h6 => ?_)
   ·
    replace hR := of_true h6 hR
    refine Awp.regionP C ?_
    refine rvP C (sS (some out.nil) eSeen out.D) ?_
    refine rvP C (.ptr 10 0) ?_
    refine rvP C (.agg [.pv (.lit (.int .u8 (x.key 0))), .pv (.lit (.int .u8 (x.key 1))), .pv (.lit (.int .u8 (x.key 2))), .pv (.lit (.int .u8 (x.key 3))), .pv (.lit (.int .u8 (x.key 4))), .pv (.lit (.int .u8 (x.key 5))), .pv (.lit (.int .u8 (x.key 6))), .pv (.lit (.int .u8 (x.key 7)))]) ?_
    refine rvP C (.ptr 10 8) ?_
    refine rvP C (.pv (.lit (.int .i64 x.ver))) ?_
    refine rvc_un (rexec_call hP C rfl rfl rfl (pSee_calls out x.key x.ver hV.1 (hb _ (List.mem_of_getElem? (by assumption))) hV.2.1 (by exact hV.2.2)) ?_)
    refine rvP C (.tup [sS (some (pSee out x.key x.ver).1.nil) eSeen ((pSee out x.key x.ver).1.D), .pv (.lit (.int .i64 ((pSee out x.key x.ver).2)))]) ?_
    refine rvP C (sS (some (pSee out x.key x.ver).1.nil) eSeen ((pSee out x.key x.ver).1.D)) ?_
    refine rvP C (.pv (.lit (.int .i64 ((pSee out x.key x.ver).2)))) ?_
    refine rvP C (sS (some (pSee out x.key x.ver).1.nil) eSeen ((pSee out x.key x.ver).1.D)) ?_
    refine rvP C (.pv (.lit (.int .i64 ((pSee out x.key x.ver).2)))) ?_
    refine rvc_nil ?_
    refine Awp.regionP C ?_
    refine rvP C (.pv (.lit (.int .i64 (IntKind.i64.wrap ((i : Int) + 1))))) ?_
    refine rvP C (.pv (.lit (.int .i64 (IntKind.i64.wrap ((i : Int) + 1))))) ?_
    refine rvc_nil ?_
    refine ⟨h4, ((pSee out x.key x.ver).1, (pSee out x.key x.ver).2), ?_, ?_⟩
    · exact ⟨hR, (by first | exact hV | exact pSee_ok hV.1 (hb _ (List.mem_of_getElem? (by assumption))) hV.2.1 hV.2.2)⟩
    · exact ⟨fun b => b, WeakerR.ofL (Ks := []) hI ⟨⟨rfl, rfl⟩, ⟨rfl, rfl⟩, ⟨rfl, rfl⟩, ⟨rfl, rfl⟩, ⟨lit_cast (wrap_i64 (by omega) (by omega)), rfl⟩, trivial⟩ (okH_nil) rfl⟩
   ·
    replace hR := of_false h6 hR
    refine Awp.skip ?_
    refine Awp.regionP C ?_
    refine rvP C (.pv (.lit (.int .i64 (IntKind.i64.wrap ((i : Int) + 1))))) ?_
    refine rvP C (.pv (.lit (.int .i64 (IntKind.i64.wrap ((i : Int) + 1))))) ?_
    refine rvc_nil ?_
    refine ⟨h4, (out, e_), ?_, ?_⟩
    · exact ⟨hR, (by first | exact hV | exact pSee_ok hV.1 (hb _ (List.mem_of_getElem? (by assumption))) hV.2.1 hV.2.2)⟩
    · exact ⟨fun b => b, WeakerR.ofL (Ks := []) hI ⟨⟨rfl, rfl⟩, ⟨rfl, rfl⟩, ⟨rfl, rfl⟩, ⟨rfl, rfl⟩, ⟨lit_cast (wrap_i64 (by omega) (by omega)), rfl⟩, trivial⟩ (okH_nil) rfl⟩
  ·
   have h4 : ¬ i < b.D.length := by have := of_decide_eq_false h3; omega
   rw [drop_end h4] at hR
   refine Awp.exit ?_
   refine Awp.seq ?_
   refine Awp.consP C ?_
   refine rvP C (.pv (.lit (.int .i64 e_))) ?_
   refine rvP C (.pv (.lit (.bool (e_ != 0)))) ?_
   refine rvc_nil ?_
   refine Awp.cond (b := (e_ != 0)) rfl (fun h7 => ?_) (fun h7 => ?_)
   ·
    replace hR := of_true h7 hR
    refine Awp.consP C ?_
    refine rvP C (.pv (.lit (.int .i64 e_))) ?_
    refine rvP C (sS (some true) eSeen []) ?_
    refine rvP C (.pv (.lit (.int .i64 e_))) ?_
    refine rvc_nil ?_
    refine Awp.ret ?_
    subst hR
    exact ⟨.inl rfl, rfl⟩
   ·
    replace hR := of_false h7 hR
    refine Awp.skip ?_
    refine Awp.consP C ?_
    refine rvP C (sS (some out.nil) eSeen out.D) ?_
    refine rvP C (sS (some out.nil) eSeen out.D) ?_
    refine rvP C (.pv (.lit (.int .i64 0))) ?_
    refine rvc_nil ?_
    refine Awp.ret ?_
    subst hR
    exact ⟨.inl rfl, rfl⟩
end Go.Proofs.YthnghkkbnhjlgaaDoor
/- What both have seen, in plain words: the library's and the document's. No conditions. -/
namespace Go.Proofs.YthnghkkbnhjlgaaDoor
open Go.Am
/-- What Join answers. -/
structure JoinSpec (r : Sl Seen × Int) (a b : Sl Seen) : Prop where
  badB : pRight b ≠ 0 → r = (Sl.mk true [], pRight b)
  badA : pRight b = 0 → pRight a ≠ 0 → r = (Sl.mk true [], pRight a)
  full : pRight b = 0 → pRight a = 0 → 6 < (joinS a.D b.D).length → r = (Sl.mk true [], 7)
  good : pRight b = 0 → pRight a = 0 → (joinS a.D b.D).length ≤ 6 → r.2 = 0 ∧ r.1.D.map rd = (joinS a.D b.D).map rd
theorem joinS_rd : ∀ {b : List Seen} {a a' : List Seen}, a.map rd = a'.map rd → (joinS a b).map rd = (joinS a' b).map rd
  | [], _, _, h => h
  | _ :: xs, _, _, h => joinS_rd (b := xs) (insS_rd h)
theorem insS_seeL {k : Nat → Int} {v : Int} {l : List Seen} (h : 1 ≤ v) : seeL k v l = insS k v l := by
  unfold seeL
  rw [if_neg (by omega)]
theorem badKV_of {x : Seen} (h : sOk x = true) : badKV x.key x.ver = false := by
  obtain ⟨h1, h2, h3⟩ := ver_ok h
  unfold badKV
  rw [h3, decide_eq_false (show ¬ x.ver < 0 by omega), decide_eq_false (show ¬ x.ver > 1099511627776 by omega)]; rfl
theorem pJoin_l0_err {e : Int} (he : e ≠ 0) : ∀ (xs : List Seen) (i : Nat) (out : Sl Seen), pJoin_l0 xs i out e = (Sl.mk true [], e)
  | [], i, out => by
    unfold pJoin_l0
    rw [show (e != 0) = true by simpa using he]; rfl
  | x :: xs, i, out => by
    unfold pJoin_l0
    rw [show (e == 0) = false by simpa using he]
    exact pJoin_l0_err he xs (i + 1) out
theorem pJoin_l0_eq : ∀ (xs : List Seen) (i : Nat) (out : Sl Seen), KB xs → rt none xs = true → KB out.D → (out.nil = true → out.D = []) → out.D.length ≤ 1000 → pRight out = 0 →
    ((joinS out.D xs).length ≤ 6 → (pJoin_l0 xs i out 0).2 = 0 ∧ (pJoin_l0 xs i out 0).1.D.map rd = (joinS out.D xs).map rd) ∧ (6 < (joinS out.D xs).length → pJoin_l0 xs i out 0 = (Sl.mk true [], 7))
  | [], i, out, _, _, ho, _, hl, h0 => by
    unfold pJoin_l0
    have h6 := ((pRight_zero ho (by omega)).1 h0).1
    exact ⟨fun _ => ⟨rfl, rfl⟩, fun h => by
      have : 6 < out.D.length := h
      omega⟩
  | x :: xs, i, out, hx, hr, ho, hn, hl, h0 => by
    obtain ⟨hx1, hx2⟩ := hx.cons
    obtain ⟨r1, r2, _⟩ := rt_cons.1 hr
    obtain ⟨v1, v2, v3⟩ := ver_ok r1
    have hs := pSee_spec x.ver ho hx1 hn hl
    have hb := badKV_of r1
    have hok := pSee_ok (v := x.ver) ho hx1 hn hl
    unfold pJoin_l0
    rw [show ((0 : Int) == 0) = true from rfl, cond_true]
    show ((joinS (insS x.key x.ver out.D) xs).length ≤ 6 → _) ∧ (6 < (joinS (insS x.key x.ver out.D) xs).length → _)
    rcases Nat.lt_or_ge 6 (insS x.key x.ver out.D).length with h7 | h7
    · have hf := hs.full h0 hb (by rw [insS_seeL v1]; exact h7)
      have hlen := joinS_len (b := xs) (a := insS x.key x.ver out.D)
      rw [hf]
      dsimp only
      rw [pJoin_l0_err (by decide)]
      exact ⟨fun h => by omega, fun _ => rfl⟩
    · obtain ⟨g1, g2⟩ := hs.good h0 hb (by rw [insS_seeL v1]; exact h7)
      rw [insS_seeL v1] at g2
      rw [g1]
      have hr0 := ((pRight_zero ho (by omega)).1 h0).2
      have hp : pRight (pSee out x.key x.ver).1 = 0 := by
        refine (pRight_zero hok.1 (by omega)).2 ⟨by rw [len_rd g2]; exact h7, ?_⟩
        rw [rt_rd none g2]; exact insS_rt v1 v2 v3 hr0
      have ih := pJoin_l0_eq xs (i + 1) (pSee out x.key x.ver).1 hx2 r2 hok.1 hok.2.1 hok.2.2 hp
      have hj := joinS_rd (b := xs) g2
      rw [len_rd hj, hj] at ih
      exact ih
theorem pJoin_spec {a b : Sl Seen} (ha : KB a.D) (hb : KB b.D) (hn : a.nil = true → a.D = []) (hl1 : a.D.length ≤ 1000) (hl2 : b.D.length ≤ 1000) : JoinSpec (pJoin a b) a b := by
  have hc : (cloneSeen a).D = a.D := by
    unfold cloneSeen
    cases e : a.nil
    · rfl
    · exact (hn e).symm
  have hcn : (cloneSeen a).nil = true → (cloneSeen a).D = [] := by
    unfold cloneSeen
    cases e : a.nil
    · exact fun h => nomatch h
    · exact fun _ => rfl
  have hpc : pRight (cloneSeen a) = pRight a := pRight_rd (by rw [hc]; exact ha) ha (by rw [hc]; omega) (by rw [hc])
  have e : pJoin a b = bif (pRight b != 0) then (Sl.mk true [], pRight b) else pJoin_l0 b.D 0 (cloneSeen a) (pRight a) := rfl
  have hmain : pRight b = 0 → pRight a = 0 → ((joinS a.D b.D).length ≤ 6 → (pJoin a b).2 = 0 ∧ (pJoin a b).1.D.map rd = (joinS a.D b.D).map rd) ∧ (6 < (joinS a.D b.D).length → pJoin a b = (Sl.mk true [], 7)) := fun h1 h2 => by
    have hr := ((pRight_zero hb (by omega)).1 h1).2
    have := pJoin_l0_eq b.D 0 (cloneSeen a) hb hr (by rw [hc]; exact ha) hcn (by rw [hc]; exact hl1) (by rw [hpc]; exact h2)
    rw [hc] at this
    rw [e, h1, h2]
    exact this
  refine ⟨fun h => ?_, fun h1 h2 => ?_, fun h1 h2 h => (hmain h1 h2).2 h, fun h1 h2 h => (hmain h1 h2).1 h⟩
  · rw [e, show (pRight b != 0) = true by simpa using h]; rfl
  · rw [e, h1]
    exact pJoin_l0_err h2 b.D 0 (cloneSeen a)
theorem JoinSpec.same {r r' : Sl Seen × Int} {a b : Sl Seen} (h : JoinSpec r a b) (h' : JoinSpec r' a b) : r.2 = r'.2 ∧ r.1.D.map rd = r'.1.D.map rd := by
  by_cases hb : pRight b = 0
  · by_cases ha : pRight a = 0
    · rcases Nat.lt_or_ge 6 (joinS a.D b.D).length with h7 | h7
      · rw [h.full hb ha h7, h'.full hb ha h7]; exact ⟨rfl, rfl⟩
      · obtain ⟨q1, q2⟩ := h.good hb ha h7
        obtain ⟨q3, q4⟩ := h'.good hb ha h7
        exact ⟨q1.trans q3.symm, q2.trans q4.symm⟩
    · rw [h.badA hb ha, h'.badA hb ha]; exact ⟨rfl, rfl⟩
  · rw [h.badB hb, h'.badB hb]; exact ⟨rfl, rfl⟩
theorem SeeSpec.same {r r' : Sl Seen × Int} {l : Sl Seen} {k : Nat → Int} {v : Int} (h : SeeSpec r l k v) (h' : SeeSpec r' l k v) : r.2 = r'.2 ∧ r.1.D.map rd = r'.1.D.map rd := by
  by_cases hb : pRight l = 0
  · cases ha : badKV k v
    · rcases Nat.lt_or_ge 6 (seeL k v l.D).length with h7 | h7
      · rw [h.full hb ha h7, h'.full hb ha h7]; exact ⟨rfl, rfl⟩
      · obtain ⟨q1, q2⟩ := h.good hb ha h7
        obtain ⟨q3, q4⟩ := h'.good hb ha h7
        exact ⟨q1.trans q3.symm, q2.trans q4.symm⟩
    · rw [h.arg hb ha, h'.arg hb ha]; exact ⟨rfl, rfl⟩
  · rw [h.bad hb, h'.bad hb]; exact ⟨rfl, rfl⟩
end Go.Proofs.YthnghkkbnhjlgaaDoor
/- Names; lists told apart. No conditions. -/
namespace Go.Proofs.YthnghkkbnhjlgaaDoor
open Go.Am
def nameK (D : List Int) : (Nat → Int) :=
  (cpF D 8 (ofL [(0 : Int), 0, 0, 0, 0, 0, 0, 0]))
theorem nameK_calls (D : List Int) (hD : ∀ x ∈ D, 0 ≤ x ∧ x < 256) : PCalls Tryd.prog 32 [.pv (.lit (.string (strOf D)))] (.agg [.pv (.lit (.int .u8 ((nameK D) 0))), .pv (.lit (.int .u8 ((nameK D) 1))), .pv (.lit (.int .u8 ((nameK D) 2))), .pv (.lit (.int .u8 ((nameK D) 3))), .pv (.lit (.int .u8 ((nameK D) 4))), .pv (.lit (.int .u8 ((nameK D) 5))), .pv (.lit (.int .u8 ((nameK D) 6))), .pv (.lit (.int .u8 ((nameK D) 7)))]) := by
 generalize hR : nameK D = R
 refine PCalls.of_body tabOk Tryd.func32 rfl rfl rfl rfl rfl mixed fun E hP C hI => ?_
 refine Awp.consP C ?_
 refine rvc_un (rexec_prim C (δ := { v := .ptr 2 0, new := [(2, .cells [.pv (.lit (.int .u8 0)), .pv (.lit (.int .u8 0)), .pv (.lit (.int .u8 0)), .pv (.lit (.int .u8 0)), .pv (.lit (.int .u8 0)), .pv (.lit (.int .u8 0)), .pv (.lit (.int .u8 0)), .pv (.lit (.int .u8 0))])] }) rfl rfl rfl rfl trivial rfl ?_)
 refine rvc_nil ?_
 refine Awp.consP C ?_
 refine rvc_un (rexec_prim C (δ := { v := .ptr 3 0, new := [(3, .cells [.pv (.lit (.int .u8 0)), .pv (.lit (.int .u8 0)), .pv (.lit (.int .u8 0)), .pv (.lit (.int .u8 0)), .pv (.lit (.int .u8 0)), .pv (.lit (.int .u8 0)), .pv (.lit (.int .u8 0)), .pv (.lit (.int .u8 0))])] }) rfl rfl rfl rfl trivial rfl ?_)
 refine rvc_nil ?_
 refine Awp.consP C ?_
 refine rvc_un (rexec_prim C (δ := { v := .sl 3 0 8 1 true }) rfl rfl rfl rfl ⟨by decide, Nat.le_of_ble_eq_true rfl, .inl rfl⟩ rfl ?_)
 refine rvP C (.pv (.lit (.string (strOf D)))) ?_
 refine rvc_un (rexec_copyStr C rfl rfl rfl rfl rfl rfl rfl (f := (ofL [(0 : Int), 0, 0, 0, 0, 0, 0, 0])) (D := D) hD rfl rfl ?_)
 refine rvc_nil ?_
 refine Awp.consP C ?_
 refine rvP C (.agg [.pv (.lit (.int .u8 ((cpF D 8 (ofL [(0 : Int), 0, 0, 0, 0, 0, 0, 0])) 0))), .pv (.lit (.int .u8 ((cpF D 8 (ofL [(0 : Int), 0, 0, 0, 0, 0, 0, 0])) 1))), .pv (.lit (.int .u8 ((cpF D 8 (ofL [(0 : Int), 0, 0, 0, 0, 0, 0, 0])) 2))), .pv (.lit (.int .u8 ((cpF D 8 (ofL [(0 : Int), 0, 0, 0, 0, 0, 0, 0])) 3))), .pv (.lit (.int .u8 ((cpF D 8 (ofL [(0 : Int), 0, 0, 0, 0, 0, 0, 0])) 4))), .pv (.lit (.int .u8 ((cpF D 8 (ofL [(0 : Int), 0, 0, 0, 0, 0, 0, 0])) 5))), .pv (.lit (.int .u8 ((cpF D 8 (ofL [(0 : Int), 0, 0, 0, 0, 0, 0, 0])) 6))), .pv (.lit (.int .u8 ((cpF D 8 (ofL [(0 : Int), 0, 0, 0, 0, 0, 0, 0])) 7)))]) ?_
 refine rvc_un (rexec_prim C (δ := { v := .undef, wr := [(2, some (.cells [.pv (.lit (.int .u8 ((cpF D 8 (ofL [(0 : Int), 0, 0, 0, 0, 0, 0, 0])) 0))), .pv (.lit (.int .u8 ((cpF D 8 (ofL [(0 : Int), 0, 0, 0, 0, 0, 0, 0])) 1))), .pv (.lit (.int .u8 ((cpF D 8 (ofL [(0 : Int), 0, 0, 0, 0, 0, 0, 0])) 2))), .pv (.lit (.int .u8 ((cpF D 8 (ofL [(0 : Int), 0, 0, 0, 0, 0, 0, 0])) 3))), .pv (.lit (.int .u8 ((cpF D 8 (ofL [(0 : Int), 0, 0, 0, 0, 0, 0, 0])) 4))), .pv (.lit (.int .u8 ((cpF D 8 (ofL [(0 : Int), 0, 0, 0, 0, 0, 0, 0])) 5))), .pv (.lit (.int .u8 ((cpF D 8 (ofL [(0 : Int), 0, 0, 0, 0, 0, 0, 0])) 6))), .pv (.lit (.int .u8 ((cpF D 8 (ofL [(0 : Int), 0, 0, 0, 0, 0, 0, 0])) 7)))]))] }) rfl rfl rfl rfl trivial rfl ?_)
 refine rvc_nil ?_
 refine Awp.ret ?_
 subst hR
 exact ⟨.inl rfl, rfl⟩
def eqSeen_l0 (s2 : (Sl Seen)) : List Seen → Nat → Bool
  | [], _ => true
  | x :: xs, i => (bif (!((((x.key 0) == (s2.D[(i : Int).toNat]!.key 0)) && (((x.key 1) == (s2.D[(i : Int).toNat]!.key 1)) && (((x.key 2) == (s2.D[(i : Int).toNat]!.key 2)) && (((x.key 3) == (s2.D[(i : Int).toNat]!.key 3)) && (((x.key 4) == (s2.D[(i : Int).toNat]!.key 4)) && (((x.key 5) == (s2.D[(i : Int).toNat]!.key 5)) && (((x.key 6) == (s2.D[(i : Int).toNat]!.key 6)) && (((x.key 7) == (s2.D[(i : Int).toNat]!.key 7)) && true)))))))) && ((x.ver == (s2.D[(i : Int).toNat]!.ver)) && true))) then false else eqSeen_l0 s2 xs (i + 1) )
def eqSeen (s1 : (Sl Seen)) (s2 : (Sl Seen)) : Bool :=
  (bif ((s1.D.length : Int) != (s2.D.length : Int)) then false else eqSeen_l0 s2 s1.D 0 )
theorem eqSeen_calls (s1 : (Sl Seen)) (s2 : (Sl Seen)) (hl1 : s1.D.length ≤ 1000000) : PCalls Tryd.prog 18 [sS (some s1.nil) eSeen s1.D, sS (some s2.nil) eSeen s2.D] (.pv (.lit (.bool (eqSeen s1 s2)))) := by
 generalize hR : eqSeen s1 s2 = R
 refine PCalls.of_body tabOk Tryd.func18 rfl rfl rfl rfl rfl mixed fun E hP C hI => ?_
 refine Awp.consP C ?_
 refine rvP C (.pv (.lit (.bool false))) ?_
 refine rvc_nil ?_
 refine Awp.seq ?_
 refine Awp.consP C ?_
 refine rvP C (sS (some s1.nil) eSeen s1.D) ?_
 refine rvP C (.pv (.lit (.int .i64 (s1.D.length : Int)))) ?_
 refine rvP C (sS (some s2.nil) eSeen s2.D) ?_
 refine rvP C (.pv (.lit (.int .i64 (s2.D.length : Int)))) ?_
 refine rvP C (.pv (.lit (.bool ((s1.D.length : Int) != (s2.D.length : Int))))) ?_
 refine rvc_nil ?_
 refine Awp.cond (b := ((s1.D.length : Int) != (s2.D.length : Int))) rfl (fun h1 => ?_) (fun h1 => ?_)
 ·
  replace hR := of_true h1 hR
  refine Awp.consP C ?_
  refine rvP C (.pv (.lit (.bool false))) ?_
  refine rvc_nil ?_
  refine Awp.ret ?_
  subst hR
  exact ⟨.inl rfl, rfl⟩
 ·
  replace hR := of_false h1 hR
  refine Awp.skip ?_
  refine Awp.seq ?_
  refine Awp.consP C ?_
  refine rvP C (sS (some s1.nil) eSeen s1.D) ?_
  refine rvP C (.pv (.lit (.int .i64 (s1.D.length : Int)))) ?_
  refine rvP C (.pv (.lit (.int .i64 0))) ?_
  refine rvc_nil ?_
  refine Awp.block ?_
  refine Awp.forR (σ := Unit) (s1.D.length) (fun i _v => [(0, sS (some s1.nil) eSeen s1.D), (1, sS (some s2.nil) eSeen s2.D), (12, .pv (.lit (.int .i64 (s1.D.length : Int)))), (13, .pv (.lit (.int .i64 (i : Int))))]) (fun i _v => []) [] (fun i _v => eqSeen_l0 s2 (s1.D.drop i) i  = R) () ?_ ?_ (fun i _v h2 hR => ?_)
  · exact hR
  · exact ⟨fun b => b, WeakerR.ofL (Ks := []) hI ⟨⟨rfl, rfl⟩, ⟨rfl, rfl⟩, ⟨rfl, rfl⟩, ⟨rfl, rfl⟩, trivial⟩ (okH_nil) rfl⟩
  refine Awp.consP C ?_
  refine rvP C (.pv (.lit (.bool (decide ((i : Int) < (s1.D.length : Int)))))) ?_
  refine rvc_nil ?_
  refine Awp.seq ?_
  refine Awp.cond (b := (decide ((i : Int) < (s1.D.length : Int)))) rfl (fun h3 => ?_) (fun h3 => ?_)
  ·
   have h4 : i < s1.D.length := by have := of_decide_eq_true h3; omega
   obtain ⟨x, h5⟩ := getX h4
   rw [drop_at h5] at hR
   refine Awp.skip ?_
   refine Awp.seq ?_
   refine Awp.block ?_
   refine Awp.consP C ?_
   refine rvP C (.pv (.lit (.int .i64 (i : Int)))) ?_
   refine rvP C (.pv (.lit (.int .i64 (i : Int)))) ?_
   refine rvc_nil ?_
   refine Awp.consP C ?_
   refine rvP C (sS (some s1.nil) eSeen s1.D) ?_
   refine rvP C (.pv (.lit (.int .i64 (i : Int)))) ?_
   refine rvc_un (rexec_idxS C rfl rfl rfl rfl rfl rfl x (Int.natCast_nonneg _) h5 ?_)
   refine rvP C (.agg [.pv (.lit (.int .u8 (x.key 0))), .pv (.lit (.int .u8 (x.key 1))), .pv (.lit (.int .u8 (x.key 2))), .pv (.lit (.int .u8 (x.key 3))), .pv (.lit (.int .u8 (x.key 4))), .pv (.lit (.int .u8 (x.key 5))), .pv (.lit (.int .u8 (x.key 6))), .pv (.lit (.int .u8 (x.key 7))), .pv (.lit (.int .i64 x.ver))]) ?_
   refine rvP C (sS (some s2.nil) eSeen s2.D) ?_
   refine rvP C (.pv (.lit (.int .i64 (i : Int)))) ?_
   have h6 : s2.D[(i : Int).toNat]? = some s2.D[(i : Int).toNat]! := getE (by have := eq_of_bne_false h1; have := of_decide_eq_true h3; omega)
   refine rvc_un (rexec_idxS C rfl rfl rfl rfl rfl rfl (s2.D[(i : Int).toNat]!) (Int.natCast_nonneg _) h6 ?_)
   refine rvP C (.agg [.pv (.lit (.int .u8 (s2.D[(i : Int).toNat]!.key 0))), .pv (.lit (.int .u8 (s2.D[(i : Int).toNat]!.key 1))), .pv (.lit (.int .u8 (s2.D[(i : Int).toNat]!.key 2))), .pv (.lit (.int .u8 (s2.D[(i : Int).toNat]!.key 3))), .pv (.lit (.int .u8 (s2.D[(i : Int).toNat]!.key 4))), .pv (.lit (.int .u8 (s2.D[(i : Int).toNat]!.key 5))), .pv (.lit (.int .u8 (s2.D[(i : Int).toNat]!.key 6))), .pv (.lit (.int .u8 (s2.D[(i : Int).toNat]!.key 7))), .pv (.lit (.int .i64 (s2.D[(i : Int).toNat]!.ver)))]) ?_
   refine rvP C (.pv (.lit (.bool (!((((x.key 0) == (s2.D[(i : Int).toNat]!.key 0)) && (((x.key 1) == (s2.D[(i : Int).toNat]!.key 1)) && (((x.key 2) == (s2.D[(i : Int).toNat]!.key 2)) && (((x.key 3) == (s2.D[(i : Int).toNat]!.key 3)) && (((x.key 4) == (s2.D[(i : Int).toNat]!.key 4)) && (((x.key 5) == (s2.D[(i : Int).toNat]!.key 5)) && (((x.key 6) == (s2.D[(i : Int).toNat]!.key 6)) && (((x.key 7) == (s2.D[(i : Int).toNat]!.key 7)) && true)))))))) && ((x.ver == (s2.D[(i : Int).toNat]!.ver)) && true)))))) ?_
   refine rvc_nil ?_
   refine Awp.cond (b := (!((((x.key 0) == (s2.D[(i : Int).toNat]!.key 0)) && (((x.key 1) == (s2.D[(i : Int).toNat]!.key 1)) && (((x.key 2) == (s2.D[(i : Int).toNat]!.key 2)) && (((x.key 3) == (s2.D[(i : Int).toNat]!.key 3)) && (((x.key 4) == (s2.D[(i : Int).toNat]!.key 4)) && (((x.key 5) == (s2.D[(i : Int).toNat]!.key 5)) && (((x.key 6) == (s2.D[(i : Int).toNat]!.key 6)) && (((x.key 7) == (s2.D[(i : Int).toNat]!.key 7)) && true)))))))) && ((x.ver == (s2.D[(i : Int).toNat]!.ver)) && true)))) rfl (fun h7 => ?_) (fun h7 => ?_)
   ·
    replace hR := of_true h7 hR
    refine Awp.consP C ?_
    refine rvP C (.pv (.lit (.bool false))) ?_
    refine rvc_nil ?_
    refine Awp.ret ?_
    subst hR
    exact ⟨.inl rfl, rfl⟩
   ·
    replace hR := of_false h7 hR
    refine Awp.skip ?_
    refine Awp.regionP C ?_
    refine rvP C (.pv (.lit (.int .i64 (IntKind.i64.wrap ((i : Int) + 1))))) ?_
    refine rvP C (.pv (.lit (.int .i64 (IntKind.i64.wrap ((i : Int) + 1))))) ?_
    refine rvc_nil ?_
    refine ⟨h4, (), ?_, ?_⟩
    · exact hR
    · exact ⟨fun b => b, WeakerR.ofL (Ks := []) hI ⟨⟨rfl, rfl⟩, ⟨rfl, rfl⟩, ⟨rfl, rfl⟩, ⟨lit_cast (wrap_i64 (by omega) (by omega)), rfl⟩, trivial⟩ (okH_nil) rfl⟩
  ·
   have h4 : ¬ i < s1.D.length := by have := of_decide_eq_false h3; omega
   rw [drop_end h4] at hR
   refine Awp.exit ?_
   refine Awp.consP C ?_
   refine rvP C (.pv (.lit (.bool true))) ?_
   refine rvc_nil ?_
   refine Awp.ret ?_
   subst hR
   exact ⟨.inl rfl, rfl⟩
end Go.Proofs.YthnghkkbnhjlgaaDoor
/- Names of one letter. No conditions. -/
namespace Go.Proofs.YthnghkkbnhjlgaaDoor
open Go.Am
theorem name1_B (c : Int) (h : 0 ≤ c ∧ c < 256) : KeyB (nameK [c]) := fun j hj => by
  rcases (by omega : j = 0 ∨ j = 1 ∨ j = 2 ∨ j = 3 ∨ j = 4 ∨ j = 5 ∨ j = 6 ∨ j = 7) with rfl | rfl | rfl | rfl | rfl | rfl | rfl | rfl
  · exact h
  all_goals (show (0 : Int) ≤ 0 ∧ (0 : Int) < 256; decide)
theorem rng8 (c : Int) (h : 0 ≤ c ∧ c < 256) : ∀ x ∈ [c], 0 ≤ x ∧ x < 256 := fun x hx => by rw [List.mem_singleton.1 hx]; exact h
end Go.Proofs.YthnghkkbnhjlgaaDoor
/- Passes read. No conditions. -/
namespace Go.Proofs.YthnghkkbnhjlgaaDoor
open Go.Am
def pRead_l0 : Nat → Nat → (List Seen) → Reader → (Sl Seen) × Int
  | 0, _, l, vc => (bif ((rdEnd vc) != 0) then ((Sl.mk true []), 100) else (bif ((pRight (Sl.mk l.isEmpty l)) != 0) then ((Sl.mk true []), 100) else ((Sl.mk l.isEmpty l), 0)))
  | k + 1, i, l, vc => pRead_l0 k (i + 1) (l ++ [(Seen.mk (unword ((rdNum vc).2)) ((rdIn ((rdNum vc).1) 1 1099511627776).2))]) ((rdIn ((rdNum vc).1) 1 1099511627776).1)
def pRead (key : (Sl Int)) (b : (Sl Int)) : (Sl Seen) × Int :=
  (bif ((key.D.length : Int) != 16) then ((Sl.mk true []), 1) else (bif ((b.D.length : Int) == 0) then ((Sl.mk true []), 0) else (bif (decide ((b.D.length : Int) > 120)) then ((Sl.mk true []), 100) else (bif (decide ((b.D.length : Int) < 8)) then ((Sl.mk true []), 100) else (bif (((mark key (Sl.mk b.nil (b.D.take ((IntKind.i64.wrap ((b.D.length : Int) - 8)).toNat)))).2) != 0) then ((Sl.mk true []), 100) else (bif (!(eqBytes ((mark key (Sl.mk b.nil (b.D.take ((IntKind.i64.wrap ((b.D.length : Int) - 8)).toNat)))).1) (Sl.mk b.nil (b.D.drop ((IntKind.i64.wrap ((b.D.length : Int) - 8)).toNat))))) then ((Sl.mk true []), 100) else pRead_l0 (rdIn (rdNew (Sl.mk b.nil (b.D.take ((IntKind.i64.wrap ((b.D.length : Int) - 8)).toNat)))) 1 6).2.toNat 0 [] (rdIn (rdNew (Sl.mk b.nil (b.D.take ((IntKind.i64.wrap ((b.D.length : Int) - 8)).toNat)))) 1 6).1))))))
theorem pRead_calls (key : (Sl Int)) (b : (Sl Int))  : PCalls Tryd.prog 20 [sS (some key.nil) (eI .u8) key.D, sS (some b.nil) (eI .u8) b.D] (.tup [sS (some (pRead key b).1.nil) eSeen ((pRead key b).1.D), .pv (.lit (.int .i64 ((pRead key b).2)))]) := by
 generalize hR : pRead key b = R
 refine PCalls.of_body tabOk Tryd.func20 rfl rfl rfl rfl rfl mixed fun E hP C hI => ?_
 refine Awp.consP C ?_
 refine rvP C (sS (some true) eSeen []) ?_
 refine rvP C (.pv (.lit (.int .i64 0))) ?_
 refine rvc_nil ?_
 refine Awp.seq ?_
 refine Awp.consP C ?_
 refine rvP C (sS (some key.nil) (eI .u8) key.D) ?_
 refine rvP C (.pv (.lit (.int .i64 (key.D.length : Int)))) ?_
 refine rvP C (.pv (.lit (.bool ((key.D.length : Int) != 16)))) ?_
 refine rvc_nil ?_
 refine Awp.cond (b := ((key.D.length : Int) != 16)) rfl (fun h1 => ?_) (fun h1 => ?_)
 ·
  replace hR := of_true h1 hR
  refine Awp.consP C ?_
  refine rvP C (sS (some true) eSeen []) ?_
  refine rvP C (.pv (.lit (.int .i64 1))) ?_
  refine rvc_nil ?_
  refine Awp.ret ?_
  subst hR
  exact ⟨.inl rfl, rfl⟩
 ·
  replace hR := of_false h1 hR
  refine Awp.skip ?_
  refine Awp.seq ?_
  refine Awp.consP C ?_
  refine rvP C (sS (some b.nil) (eI .u8) b.D) ?_
  refine rvP C (.pv (.lit (.int .i64 (b.D.length : Int)))) ?_
  refine rvP C (.pv (.lit (.bool ((b.D.length : Int) == 0)))) ?_
  refine rvc_nil ?_
  refine Awp.cond (b := ((b.D.length : Int) == 0)) rfl (fun h2 => ?_) (fun h2 => ?_)
  ·
   replace hR := of_true h2 hR
   refine Awp.consP C ?_
   refine rvP C (sS (some true) eSeen []) ?_
   refine rvP C (.pv (.lit (.int .i64 0))) ?_
   refine rvc_nil ?_
   refine Awp.ret ?_
   subst hR
   exact ⟨.inl rfl, rfl⟩
  ·
   replace hR := of_false h2 hR
   refine Awp.skip ?_
   refine Awp.seq ?_
   refine Awp.consP C ?_
   refine rvP C (sS (some b.nil) (eI .u8) b.D) ?_
   refine rvP C (.pv (.lit (.int .i64 (b.D.length : Int)))) ?_
   refine rvP C (.pv (.lit (.bool (decide ((b.D.length : Int) > 120))))) ?_
   refine rvP C (.pv (.lit (.bool (decide ((b.D.length : Int) > 120))))) ?_
   refine rvc_case 20 (decide ((b.D.length : Int) > 120)) rfl (fun h3 => ?_) (fun h3 => ?_)
   ·
    replace hR := of_true h3 hR
    refine rvS ?_
    refine rvS ?_
    refine rvS ?_
    refine rvP C (.pv (.lit (.bool true))) ?_
    refine rvc_nil ?_
    refine Awp.condT (b := true) rfl rfl ?_
    refine Awp.consP C ?_
    refine rvP C (sS (some true) eSeen []) ?_
    refine rvP C (.pv (.lit (.int .i64 100))) ?_
    refine rvc_nil ?_
    refine Awp.ret ?_
    subst hR
    exact ⟨.inl rfl, rfl⟩
   ·
    replace hR := of_false h3 hR
    refine rvO C (sS (some b.nil) (eI .u8) b.D) ?_
    refine rvO C (.pv (.lit (.int .i64 (b.D.length : Int)))) ?_
    refine rvO C (.pv (.lit (.bool (decide ((b.D.length : Int) < 8))))) ?_
    refine rvP C (.pv (.lit (.bool (decide ((b.D.length : Int) < 8))))) ?_
    refine rvc_nil ?_
    refine Awp.cond (b := (decide ((b.D.length : Int) < 8))) rfl (fun h4 => ?_) (fun h4 => ?_)
    ·
     replace hR := of_true h4 hR
     refine Awp.consP C ?_
     refine rvP C (sS (some true) eSeen []) ?_
     refine rvP C (.pv (.lit (.int .i64 100))) ?_
     refine rvc_nil ?_
     refine Awp.ret ?_
     subst hR
     exact ⟨.inl rfl, rfl⟩
    ·
     replace hR := of_false h4 hR
     refine Awp.skip ?_
     refine Awp.consP C ?_
     refine rvP C (sS (some b.nil) (eI .u8) b.D) ?_
     refine rvP C (.pv (.lit (.int .i64 (b.D.length : Int)))) ?_
     refine rvP C (.pv (.lit (.int .i64 (IntKind.i64.wrap ((b.D.length : Int) - 8))))) ?_
     refine rvP C (.pv (.lit (.int .i64 (IntKind.i64.wrap ((b.D.length : Int) - 8))))) ?_
     refine rvc_nil ?_
     refine Awp.consP C ?_
     refine rvP C (sS (some key.nil) (eI .u8) key.D) ?_
     refine rvP C (sS (some b.nil) (eI .u8) b.D) ?_
     refine rvP C (.pv (.lit (.int .i64 (IntKind.i64.wrap ((b.D.length : Int) - 8))))) ?_
     have ha_ := wrapI ((b.D.length : Int) - 8)
     have h8_ := of_decide_eq_false ‹decide ((b.D.length : Int) < 8) = false›
     have h120_ := of_decide_eq_false ‹decide ((b.D.length : Int) > 120) = false›
     refine rvc_un (rexec_sliceS C (e := (eI .u8)) (D := b.D) 0 ((IntKind.i64.wrap ((b.D.length : Int) - 8)).toNat) rfl rfl rfl rfl rfl rfl rfl rfl rfl (by simp; omega) (by omega) (by omega) (b.D.take ((IntKind.i64.wrap ((b.D.length : Int) - 8)).toNat)) (by simp) ?_)
     refine rvc_un (rexec_call hP C rfl rfl rfl (mark_calls key (Sl.mk b.nil (b.D.take ((IntKind.i64.wrap ((b.D.length : Int) - 8)).toNat))) (by simp; omega)) ?_)
     refine rvP C (.tup [sS (some (mark key (Sl.mk b.nil (b.D.take ((IntKind.i64.wrap ((b.D.length : Int) - 8)).toNat)))).1.nil) (eI .u8) ((mark key (Sl.mk b.nil (b.D.take ((IntKind.i64.wrap ((b.D.length : Int) - 8)).toNat)))).1.D), .pv (.lit (.int .i64 ((mark key (Sl.mk b.nil (b.D.take ((IntKind.i64.wrap ((b.D.length : Int) - 8)).toNat)))).2)))]) ?_
     refine rvP C (sS (some (mark key (Sl.mk b.nil (b.D.take ((IntKind.i64.wrap ((b.D.length : Int) - 8)).toNat)))).1.nil) (eI .u8) ((mark key (Sl.mk b.nil (b.D.take ((IntKind.i64.wrap ((b.D.length : Int) - 8)).toNat)))).1.D)) ?_
     refine rvP C (.pv (.lit (.int .i64 ((mark key (Sl.mk b.nil (b.D.take ((IntKind.i64.wrap ((b.D.length : Int) - 8)).toNat)))).2)))) ?_
     refine rvP C (sS (some (mark key (Sl.mk b.nil (b.D.take ((IntKind.i64.wrap ((b.D.length : Int) - 8)).toNat)))).1.nil) (eI .u8) ((mark key (Sl.mk b.nil (b.D.take ((IntKind.i64.wrap ((b.D.length : Int) - 8)).toNat)))).1.D)) ?_
     refine rvP C (.pv (.lit (.int .i64 ((mark key (Sl.mk b.nil (b.D.take ((IntKind.i64.wrap ((b.D.length : Int) - 8)).toNat)))).2)))) ?_
     refine rvc_nil ?_
     refine Awp.seq ?_
     refine Awp.consP C ?_
     refine rvP C (.pv (.lit (.int .i64 ((mark key (Sl.mk b.nil (b.D.take ((IntKind.i64.wrap ((b.D.length : Int) - 8)).toNat)))).2)))) ?_
     refine rvP C (.pv (.lit (.bool (((mark key (Sl.mk b.nil (b.D.take ((IntKind.i64.wrap ((b.D.length : Int) - 8)).toNat)))).2) != 0)))) ?_
     refine rvP C (.pv (.lit (.bool (((mark key (Sl.mk b.nil (b.D.take ((IntKind.i64.wrap ((b.D.length : Int) - 8)).toNat)))).2) != 0)))) ?_
     refine rvc_case 38 (((mark key (Sl.mk b.nil (b.D.take ((IntKind.i64.wrap ((b.D.length : Int) - 8)).toNat)))).2) != 0) rfl (fun h5 => ?_) (fun h5 => ?_)
     ·
      replace hR := of_true h5 hR
      refine rvS ?_
      refine rvS ?_
      refine rvS ?_
      refine rvS ?_
      refine rvS ?_
      refine rvS ?_
      refine rvP C (.pv (.lit (.bool true))) ?_
      refine rvc_nil ?_
      refine Awp.condT (b := true) rfl rfl ?_
      refine Awp.consP C ?_
      refine rvP C (sS (some true) eSeen []) ?_
      refine rvP C (.pv (.lit (.int .i64 100))) ?_
      refine rvc_nil ?_
      refine Awp.ret ?_
      subst hR
      exact ⟨.inl rfl, rfl⟩
     ·
      replace hR := of_false h5 hR
      refine rvO C (sS (some (mark key (Sl.mk b.nil (b.D.take ((IntKind.i64.wrap ((b.D.length : Int) - 8)).toNat)))).1.nil) (eI .u8) ((mark key (Sl.mk b.nil (b.D.take ((IntKind.i64.wrap ((b.D.length : Int) - 8)).toNat)))).1.D)) ?_
      refine rvO C (sS (some b.nil) (eI .u8) b.D) ?_
      refine rvO C (.pv (.lit (.int .i64 (IntKind.i64.wrap ((b.D.length : Int) - 8))))) ?_
      refine rvc_open rfl rfl rfl (rexec_sliceS C (e := (eI .u8)) (D := b.D) ((IntKind.i64.wrap ((b.D.length : Int) - 8)).toNat) b.D.length rfl rfl rfl rfl rfl rfl rfl rfl (by simp; omega) rfl (by omega) (by omega) (b.D.drop ((IntKind.i64.wrap ((b.D.length : Int) - 8)).toNat)) (by rw [List.take_of_length_le (by simp)]) ?_)
      refine rvc_open rfl rfl rfl (rexec_call hP C rfl rfl rfl (eqBytes_calls ((mark key (Sl.mk b.nil (b.D.take ((IntKind.i64.wrap ((b.D.length : Int) - 8)).toNat)))).1) (Sl.mk b.nil (b.D.drop ((IntKind.i64.wrap ((b.D.length : Int) - 8)).toNat)))) ?_)
      refine rvO C (.pv (.lit (.bool (!(eqBytes ((mark key (Sl.mk b.nil (b.D.take ((IntKind.i64.wrap ((b.D.length : Int) - 8)).toNat)))).1) (Sl.mk b.nil (b.D.drop ((IntKind.i64.wrap ((b.D.length : Int) - 8)).toNat)))))))) ?_
      refine rvP C (.pv (.lit (.bool (!(eqBytes ((mark key (Sl.mk b.nil (b.D.take ((IntKind.i64.wrap ((b.D.length : Int) - 8)).toNat)))).1) (Sl.mk b.nil (b.D.drop ((IntKind.i64.wrap ((b.D.length : Int) - 8)).toNat)))))))) ?_
      refine rvc_nil ?_
      refine Awp.cond (b := (!(eqBytes ((mark key (Sl.mk b.nil (b.D.take ((IntKind.i64.wrap ((b.D.length : Int) - 8)).toNat)))).1) (Sl.mk b.nil (b.D.drop ((IntKind.i64.wrap ((b.D.length : Int) - 8)).toNat)))))) rfl (fun h6 => ?_) (fun h6 => ?_)
      ·
       replace hR := of_true h6 hR
       refine Awp.consP C ?_
       refine rvP C (sS (some true) eSeen []) ?_
       refine rvP C (.pv (.lit (.int .i64 100))) ?_
       refine rvc_nil ?_
       refine Awp.ret ?_
       subst hR
       exact ⟨.inl rfl, rfl⟩
      ·
       replace hR := of_false h6 hR
       refine Awp.skip ?_
       refine Awp.cons C (fun _ => .quiet) (by kernel_rfl) ?_
       refine rvP C (sS (some b.nil) (eI .u8) b.D) ?_
       refine rvP C (.pv (.lit (.int .i64 (IntKind.i64.wrap ((b.D.length : Int) - 8))))) ?_
       refine rvc_un (rexec_sliceS C (e := (eI .u8)) (D := b.D) 0 ((IntKind.i64.wrap ((b.D.length : Int) - 8)).toNat) rfl rfl rfl rfl rfl rfl rfl rfl rfl (by simp; omega) (by omega) (by omega) (b.D.take ((IntKind.i64.wrap ((b.D.length : Int) - 8)).toNat)) (by simp) ?_)
       refine rvc_un (rexec_callO hP C rfl rfl rfl rfl (rdNew_calls (Sl.mk b.nil (b.D.take ((IntKind.i64.wrap ((b.D.length : Int) - 8)).toNat))) (by simp; omega)) ?_)
       refine rvP C (.ptr 49 0) ?_
       refine rvc_nil ?_
       refine Awp.consP C ?_
       refine rvP C (sS (some true) eSeen []) ?_
       refine rvc_nil ?_
       refine Awp.seq ?_
       refine Awp.cons C (fun _ => .writer) (by kernel_rfl) ?_
       refine rvP C (.ptr 49 0) ?_
       obtain ⟨q0, hq_q0⟩ : ∃ q_, q_ = (rdIn (rdNew (Sl.mk b.nil (b.D.take ((IntKind.i64.wrap ((b.D.length : Int) - 8)).toNat)))) 1 6) := ⟨_, rfl⟩
       have hc_q0 := (rdIn_calls (rdNew (Sl.mk b.nil (b.D.take ((IntKind.i64.wrap ((b.D.length : Int) - 8)).toNat)))) 1 6 (rdNew_ok _ (by simp; omega)))
       first | rw [← hq_q0] at hR hc_q0 | (unfold pRead at hR; rw [← hq_q0] at hR hc_q0)
       have hf0_q0 := rdIn_ok (rdNew (Sl.mk b.nil (b.D.take ((IntKind.i64.wrap ((b.D.length : Int) - 8)).toNat)))) 1 6 (rdNew_ok _ (by simp; omega))
       rw [← hq_q0] at hf0_q0
       have hf1_q0 := rdIn_hi (rdNew (Sl.mk b.nil (b.D.take ((IntKind.i64.wrap ((b.D.length : Int) - 8)).toNat)))) 1 6 (by decide)
       rw [← hq_q0] at hf1_q0
       refine rvc_un (rexec_callM hP C (b := 49) rfl rfl rfl hc_q0 rfl rfl ?_)
       refine rvP C (.pv (.lit (.int .i64 0))) ?_
       refine rvc_nil ?_
       refine Awp.block ?_
       refine Awp.forR (σ := ((List Seen)) × Reader) (q0.2.toNat) (fun i v => [(9, .ptr 49 0), (10, grow 900 eSeen v.1), (51, .pv (.lit (.int .i64 q0.2))), (52, .pv (.lit (.int .i64 (i : Int))))]) (fun i v => (growH 900 eSeen v.1 ++ ([(49, .cells [sS (some v.2.b.nil) (eI .u8) v.2.b.D, .pv (.lit (.int .i64 v.2.at_)), .pv (.lit (.int .i64 v.2.err)), .pv (.lit (.bool v.2.made))])]))) [49, 900] (fun i v => (pRead_l0 (q0.2.toNat - i) i v.1 v.2 = R) ∧ (okR v.2 ∧ KB v.1) ∧ (v.1.length ≤ i)) ([], q0.1) ?_ ?_ (fun i v h7 hR => ?_)
       · exact ⟨hR, ⟨hf0_q0, (fun _ h => nomatch h)⟩, (by first | omega | (simp <;> omega))⟩
       · exact ⟨fun b => b, WeakerR.ofL (Ks := [49, 900]) hI ⟨⟨rfl, rfl⟩, ⟨rfl, rfl⟩, ⟨rfl, rfl⟩, ⟨rfl, rfl⟩, trivial⟩ (okH_grow (fun hne => absurd rfl hne) rfl rfl (okH_cons rfl rfl rfl rfl (okH_nil))) rfl⟩
       obtain ⟨l, vc⟩ := v
       obtain ⟨hR, hV, hi_l⟩ := hR
       replace hi_l : l.length ≤ i := hi_l
       by_cases h8 : l = []
       ·
        refine Awp.wordsR [(9, .ptr 49 0), (10, sS (some l.isEmpty) eSeen l), (51, .pv (.lit (.int .i64 q0.2))), (52, .pv (.lit (.int .i64 (i : Int))))] [(49, .cells [sS (some vc.b.nil) (eI .u8) vc.b.D, .pv (.lit (.int .i64 vc.at_)), .pv (.lit (.int .i64 vc.err)), .pv (.lit (.bool vc.made))])] [49] (WeakerR.ofL (Ks := [49]) hI ⟨⟨rfl, rfl⟩, ⟨(by exact grow_at_nil (b := 900) (e := eSeen) (l := l) rfl h8), rfl⟩, ⟨rfl, rfl⟩, ⟨rfl, rfl⟩, trivial⟩ (okH_cons (look_nil h8 rfl) rfl rfl rfl (okH_nil)) rfl) ?_
        refine Awp.consP C ?_
        refine rvP C (.pv (.lit (.bool (decide ((i : Int) < q0.2))))) ?_
        refine rvc_nil ?_
        refine Awp.seq ?_
        refine Awp.cond (b := (decide ((i : Int) < q0.2))) rfl (fun h9 => ?_) (fun h9 => ?_)
        ·
         have h10 : i < q0.2.toNat := by have := of_decide_eq_true h9; omega
         obtain ⟨k, h11⟩ : ∃ k, q0.2.toNat - i = k + 1 := ⟨q0.2.toNat - i - 1, by omega⟩
         rw [h11] at hR
         refine Awp.skip ?_
         refine Awp.seq ?_
         refine Awp.block ?_
         refine Awp.region C (fun _ => .writer) (by kernel_rfl) ?_
         refine rvP C (sS (some l.isEmpty) eSeen l) ?_
         refine rvP C (.ptr 49 0) ?_
         refine rvc_un (rexec_callM hP C (b := 49) rfl rfl rfl (rdNum_calls vc hV.1) rfl rfl ?_)
         refine rvc_un (rexec_call hP C rfl rfl rfl (unword_calls ((rdNum vc).2)) ?_)
         refine rvP C (.ptr 49 0) ?_
         refine rvc_un (rexec_callM hP C (b := 49) rfl rfl rfl (rdIn_calls ((rdNum vc).1) 1 1099511627776 (rdNum_ok _ hV.1)) rfl rfl ?_)
         refine rvP C (.agg [.pv (.lit (.int .u8 ((unword ((rdNum vc).2)) 0))), .pv (.lit (.int .u8 ((unword ((rdNum vc).2)) 1))), .pv (.lit (.int .u8 ((unword ((rdNum vc).2)) 2))), .pv (.lit (.int .u8 ((unword ((rdNum vc).2)) 3))), .pv (.lit (.int .u8 ((unword ((rdNum vc).2)) 4))), .pv (.lit (.int .u8 ((unword ((rdNum vc).2)) 5))), .pv (.lit (.int .u8 ((unword ((rdNum vc).2)) 6))), .pv (.lit (.int .u8 ((unword ((rdNum vc).2)) 7))), .pv (.lit (.int .i64 ((rdIn ((rdNum vc).1) 1 1099511627776).2)))]) ?_
         refine rvc_un (rexec_buildSliceF C eSeen [(Seen.mk (unword ((rdNum vc).2)) ((rdIn ((rdNum vc).1) 1 1099511627776).2))] rfl rfl rfl rfl rfl rfl rfl (by decide) rfl ?_)
         refine rvc_un (rexec_appendG C rfl rfl rfl rfl rfl rfl rfl rfl (fun _ h => by cases h) rfl (en := eSeen) (l := l) (D := [(Seen.mk (unword ((rdNum vc).2)) ((rdIn ((rdNum vc).1) 1 1099511627776).2))]) rfl rfl h8 (by rw [h8]; rfl) (by simp) (by have := wrapI ((b.D.length : Int) - 8); have := eq_of_bne_false h1; have := ne_of_beq_false h2; have := of_decide_eq_false h3; have := of_decide_eq_false h4; have := eq_of_bne_false h5; have := of_decide_eq_true h9; first | omega | (simp <;> omega)) (by decide) (nn := (l ++ [(Seen.mk (unword ((rdNum vc).2)) ((rdIn ((rdNum vc).1) 1 1099511627776).2))]).length) (by simp) ?_)
         refine rvP C (.sl 62 0 ((l ++ [(Seen.mk (unword ((rdNum vc).2)) ((rdIn ((rdNum vc).1) 1 1099511627776).2))]).length) 9 false) ?_
         refine rvc_nil ?_
         refine Awp.regionP C ?_
         refine rvP C (.pv (.lit (.int .i64 (IntKind.i64.wrap ((i : Int) + 1))))) ?_
         refine rvP C (.pv (.lit (.int .i64 (IntKind.i64.wrap ((i : Int) + 1))))) ?_
         refine rvc_nil ?_
         refine ⟨h10, ((l ++ [(Seen.mk (unword ((rdNum vc).2)) ((rdIn ((rdNum vc).1) 1 1099511627776).2))]), (rdIn ((rdNum vc).1) 1 1099511627776).1), ?_, ?_⟩
         · exact ⟨(by rw [show q0.2.toNat - (i + 1) = k by omega]; exact hR), ⟨(rdIn_ok _ _ _ (rdNum_ok _ hV.1)), (KB_snoc hV.2 (unword_B _))⟩, (by first | omega | (simp <;> omega))⟩
         · exact ⟨fun b => bif b == 900 then 62 else (fun b => b) b, WeakerR.ofL (Ks := [49, 900]) hI ⟨⟨rfl, rfl⟩, ⟨grow_to rfl rfl app_ne rfl rfl, grow_within rfl⟩, ⟨rfl, rfl⟩, ⟨lit_cast (wrap_i64 (by omega) (by omega)), rfl⟩, trivial⟩ (okH_grow (fun _ => rfl) rfl rfl (okH_cons rfl rfl rfl rfl (okH_nil))) rfl⟩
        ·
         rw [show q0.2.toNat - i = 0 by have := of_decide_eq_false h9; omega] at hR
         refine Awp.exit ?_
         refine Awp.seq ?_
         refine Awp.cons C (fun _ => .writer) (by kernel_rfl) ?_
         refine rvP C (.ptr 49 0) ?_
         refine rvc_un (rexec_callM hP C (b := 49) rfl rfl rfl (rdEnd_calls vc) rfl rfl ?_)
         refine rvP C (.pv (.lit (.bool ((rdEnd vc) != 0)))) ?_
         refine rvP C (.pv (.lit (.bool ((rdEnd vc) != 0)))) ?_
         refine rvc_case 67 ((rdEnd vc) != 0) rfl (fun h12 => ?_) (fun h12 => ?_)
         ·
          replace hR := of_true h12 hR
          refine rvS ?_
          refine rvS ?_
          refine rvS ?_
          refine rvP C (.pv (.lit (.bool true))) ?_
          refine rvc_nil ?_
          refine Awp.condT (b := true) rfl rfl ?_
          refine Awp.consP C ?_
          refine rvP C (sS (some true) eSeen []) ?_
          refine rvP C (.pv (.lit (.int .i64 100))) ?_
          refine rvc_nil ?_
          refine Awp.ret ?_
          subst hR
          exact ⟨.inl rfl, rfl⟩
         ·
          replace hR := of_false h12 hR
          refine rvO C (sS (some l.isEmpty) eSeen l) ?_
          refine rvc_open rfl rfl rfl (rexec_call hP C rfl rfl rfl (pRight_calls (Sl.mk l.isEmpty l) hV.2 (by show l.length ≤ 1000000; have := wrapI ((b.D.length : Int) - 8); have := eq_of_bne_false h1; have := ne_of_beq_false h2; have := of_decide_eq_false h3; have := of_decide_eq_false h4; have := eq_of_bne_false h5; have := of_decide_eq_false h9; have := eq_of_bne_false h12; omega)) ?_)
          refine rvO C (.pv (.lit (.bool ((pRight (Sl.mk l.isEmpty l)) != 0)))) ?_
          refine rvP C (.pv (.lit (.bool ((pRight (Sl.mk l.isEmpty l)) != 0)))) ?_
          refine rvc_nil ?_
          refine Awp.cond (b := ((pRight (Sl.mk l.isEmpty l)) != 0)) rfl (fun h13 => ?_) (fun h13 => ?_)
          ·
           replace hR := of_true h13 hR
           refine Awp.consP C ?_
           refine rvP C (sS (some true) eSeen []) ?_
           refine rvP C (.pv (.lit (.int .i64 100))) ?_
           refine rvc_nil ?_
           refine Awp.ret ?_
           subst hR
           exact ⟨.inl rfl, rfl⟩
          ·
           replace hR := of_false h13 hR
           refine Awp.skip ?_
           refine Awp.consP C ?_
           refine rvP C (sS (some l.isEmpty) eSeen l) ?_
           refine rvP C (sS (some l.isEmpty) eSeen l) ?_
           refine rvP C (.pv (.lit (.int .i64 0))) ?_
           refine rvc_nil ?_
           refine Awp.ret ?_
           subst hR
           exact ⟨.inl rfl, rfl⟩
       ·
        refine Awp.wordsR [(9, .ptr 49 0), (10, .sl 900 0 l.length 9 false), (51, .pv (.lit (.int .i64 q0.2))), (52, .pv (.lit (.int .i64 (i : Int))))] [(900, .cells (encC eSeen l)), (49, .cells [sS (some vc.b.nil) (eI .u8) vc.b.D, .pv (.lit (.int .i64 vc.at_)), .pv (.lit (.int .i64 vc.err)), .pv (.lit (.bool vc.made))])] [49, 900] (WeakerR.ofL (Ks := [49, 900]) hI ⟨⟨rfl, rfl⟩, ⟨(by exact grow_at_cons (b := 900) (b' := 900) (e := eSeen) (l := l) rfl h8 rfl rfl rfl), rfl⟩, ⟨rfl, rfl⟩, ⟨rfl, rfl⟩, trivial⟩ (okH_list (look_cons h8 rfl) rfl rfl (okH_cons (look_cons h8 rfl) rfl rfl rfl (okH_nil))) rfl) ?_
        refine Awp.consP C ?_
        refine rvP C (.pv (.lit (.bool (decide ((i : Int) < q0.2))))) ?_
        refine rvc_nil ?_
        refine Awp.seq ?_
        refine Awp.cond (b := (decide ((i : Int) < q0.2))) rfl (fun h14 => ?_) (fun h14 => ?_)
        ·
         have h15 : i < q0.2.toNat := by have := of_decide_eq_true h14; omega
         obtain ⟨k, h16⟩ : ∃ k, q0.2.toNat - i = k + 1 := ⟨q0.2.toNat - i - 1, by omega⟩
         rw [h16] at hR
         refine Awp.skip ?_
         refine Awp.seq ?_
         refine Awp.block ?_
         refine Awp.region C (fun _ => .writer) (by kernel_rfl) ?_
         refine rvP C (.sl 900 0 l.length 9 false) ?_
         refine rvP C (.ptr 49 0) ?_
         refine rvc_un (rexec_callM hP C (b := 49) rfl rfl rfl (rdNum_calls vc hV.1) rfl rfl ?_)
         refine rvc_un (rexec_call hP C rfl rfl rfl (unword_calls ((rdNum vc).2)) ?_)
         refine rvP C (.ptr 49 0) ?_
         refine rvc_un (rexec_callM hP C (b := 49) rfl rfl rfl (rdIn_calls ((rdNum vc).1) 1 1099511627776 (rdNum_ok _ hV.1)) rfl rfl ?_)
         refine rvP C (.agg [.pv (.lit (.int .u8 ((unword ((rdNum vc).2)) 0))), .pv (.lit (.int .u8 ((unword ((rdNum vc).2)) 1))), .pv (.lit (.int .u8 ((unword ((rdNum vc).2)) 2))), .pv (.lit (.int .u8 ((unword ((rdNum vc).2)) 3))), .pv (.lit (.int .u8 ((unword ((rdNum vc).2)) 4))), .pv (.lit (.int .u8 ((unword ((rdNum vc).2)) 5))), .pv (.lit (.int .u8 ((unword ((rdNum vc).2)) 6))), .pv (.lit (.int .u8 ((unword ((rdNum vc).2)) 7))), .pv (.lit (.int .i64 ((rdIn ((rdNum vc).1) 1 1099511627776).2)))]) ?_
         refine rvc_un (rexec_buildSliceF C eSeen [(Seen.mk (unword ((rdNum vc).2)) ((rdIn ((rdNum vc).1) 1 1099511627776).2))] rfl rfl rfl rfl rfl rfl rfl (by decide) rfl ?_)
         refine rvc_un (rexec_append C rfl rfl rfl rfl rfl rfl rfl rfl (fun _ h => by cases h) rfl (en := eSeen) (D0 := l) (D := [(Seen.mk (unword ((rdNum vc).2)) ((rdIn ((rdNum vc).1) 1 1099511627776).2))]) rfl rfl rfl rfl (by have := wrapI ((b.D.length : Int) - 8); have := eq_of_bne_false h1; have := ne_of_beq_false h2; have := of_decide_eq_false h3; have := of_decide_eq_false h4; have := eq_of_bne_false h5; have := of_decide_eq_true h14; first | omega | (simp <;> omega)) (by decide) (nn := (l ++ [(Seen.mk (unword ((rdNum vc).2)) ((rdIn ((rdNum vc).1) 1 1099511627776).2))]).length) (by simp) ?_)
         refine rvP C (.sl 62 0 ((l ++ [(Seen.mk (unword ((rdNum vc).2)) ((rdIn ((rdNum vc).1) 1 1099511627776).2))]).length) 9 false) ?_
         refine rvc_nil ?_
         refine Awp.regionP C ?_
         refine rvP C (.pv (.lit (.int .i64 (IntKind.i64.wrap ((i : Int) + 1))))) ?_
         refine rvP C (.pv (.lit (.int .i64 (IntKind.i64.wrap ((i : Int) + 1))))) ?_
         refine rvc_nil ?_
         refine ⟨h15, ((l ++ [(Seen.mk (unword ((rdNum vc).2)) ((rdIn ((rdNum vc).1) 1 1099511627776).2))]), (rdIn ((rdNum vc).1) 1 1099511627776).1), ?_, ?_⟩
         · exact ⟨(by rw [show q0.2.toNat - (i + 1) = k by omega]; exact hR), ⟨(rdIn_ok _ _ _ (rdNum_ok _ hV.1)), (KB_snoc hV.2 (unword_B _))⟩, (by first | omega | (simp <;> omega))⟩
         · exact ⟨fun b => bif b == 900 then 62 else (fun b => b) b, WeakerR.ofL (Ks := [49, 900]) hI ⟨⟨rfl, rfl⟩, ⟨grow_to rfl rfl app_ne rfl rfl, grow_within rfl⟩, ⟨rfl, rfl⟩, ⟨lit_cast (wrap_i64 (by omega) (by omega)), rfl⟩, trivial⟩ (okH_grow (fun _ => rfl) rfl rfl (okH_cons rfl rfl rfl rfl (okH_nil))) rfl⟩
        ·
         rw [show q0.2.toNat - i = 0 by have := of_decide_eq_false h14; omega] at hR
         refine Awp.exit ?_
         refine Awp.seq ?_
         refine Awp.freezeW 900 (encL eSeen l) ?_ [(9, .ptr 49 0), (10, sS (some l.isEmpty) eSeen l)] [(49, .cells [sS (some vc.b.nil) (eI .u8) vc.b.D, .pv (.lit (.int .i64 vc.at_)), .pv (.lit (.int .i64 vc.err)), .pv (.lit (.bool vc.made))])] ?_ ?_ ?_
         · rfl
         · exact ⟨⟨_, rfl, .inl (.inl rfl)⟩, ⟨_, rfl, .inl (.inr ⟨_, _, _, rfl, by rw [ne_isEmpty h8]; rfl⟩)⟩, trivial⟩
         · exact ⟨⟨(by show (49 : Nat) ≠ 900; decide), .inl rfl⟩, trivial⟩
         refine Awp.cons C (fun _ => .writer) (by kernel_rfl) ?_
         refine rvP C (.ptr 49 0) ?_
         refine rvc_un (rexec_callM hP C (b := 49) rfl rfl rfl (rdEnd_calls vc) rfl rfl ?_)
         refine rvP C (.pv (.lit (.bool ((rdEnd vc) != 0)))) ?_
         refine rvP C (.pv (.lit (.bool ((rdEnd vc) != 0)))) ?_
         refine rvc_case 67 ((rdEnd vc) != 0) rfl (fun h17 => ?_) (fun h17 => ?_)
         ·
          replace hR := of_true h17 hR
          refine rvS ?_
          refine rvS ?_
          refine rvS ?_
          refine rvP C (.pv (.lit (.bool true))) ?_
          refine rvc_nil ?_
          refine Awp.condT (b := true) rfl rfl ?_
          refine Awp.consP C ?_
          refine rvP C (sS (some true) eSeen []) ?_
          refine rvP C (.pv (.lit (.int .i64 100))) ?_
          refine rvc_nil ?_
          refine Awp.ret ?_
          subst hR
          exact ⟨.inl rfl, rfl⟩
         ·
          replace hR := of_false h17 hR
          refine rvO C (sS (some l.isEmpty) eSeen l) ?_
          refine rvc_open rfl rfl rfl (rexec_call hP C rfl rfl rfl (pRight_calls (Sl.mk l.isEmpty l) hV.2 (by show l.length ≤ 1000000; have := wrapI ((b.D.length : Int) - 8); have := eq_of_bne_false h1; have := ne_of_beq_false h2; have := of_decide_eq_false h3; have := of_decide_eq_false h4; have := eq_of_bne_false h5; have := of_decide_eq_false h14; have := eq_of_bne_false h17; omega)) ?_)
          refine rvO C (.pv (.lit (.bool ((pRight (Sl.mk l.isEmpty l)) != 0)))) ?_
          refine rvP C (.pv (.lit (.bool ((pRight (Sl.mk l.isEmpty l)) != 0)))) ?_
          refine rvc_nil ?_
          refine Awp.cond (b := ((pRight (Sl.mk l.isEmpty l)) != 0)) rfl (fun h18 => ?_) (fun h18 => ?_)
          ·
           replace hR := of_true h18 hR
           refine Awp.consP C ?_
           refine rvP C (sS (some true) eSeen []) ?_
           refine rvP C (.pv (.lit (.int .i64 100))) ?_
           refine rvc_nil ?_
           refine Awp.ret ?_
           subst hR
           exact ⟨.inl rfl, rfl⟩
          ·
           replace hR := of_false h18 hR
           refine Awp.skip ?_
           refine Awp.consP C ?_
           refine rvP C (sS (some l.isEmpty) eSeen l) ?_
           refine rvP C (sS (some l.isEmpty) eSeen l) ?_
           refine rvP C (.pv (.lit (.int .i64 0))) ?_
           refine rvc_nil ?_
           refine Awp.ret ?_
           subst hR
           exact ⟨.inl rfl, rfl⟩
end Go.Proofs.YthnghkkbnhjlgaaDoor
/- The reference: passes read. No conditions. -/
namespace Go.Proofs.YthnghkkbnhjlgaaDoor
open Go.Am
end Go.Proofs.YthnghkkbnhjlgaaDoor
/- What a pass says, in plain words. No conditions. -/
namespace Go.Proofs.YthnghkkbnhjlgaaDoor
open Go.Am
theorem u8_inj : ∀ {A B : List Int}, B8 A → B8 B → A.map u8 = B.map u8 → A = B
  | [], [], _, _, _ => rfl
  | [], _ :: _, _, _, h => by simp at h
  | _ :: _, [], _, _, h => by simp at h
  | a :: x, b :: y, hA, hB, h => by
    obtain ⟨h1, h2⟩ := hA.cons
    obtain ⟨h3, h4⟩ := hB.cons
    simp only [List.map_cons, List.cons.injEq] at h
    rw [(u8_eq h1 h3).1 h.1, u8_inj h2 h4 h.2]
theorem str_eq {A B : List Int} (hA : B8 A) (hB : B8 B) : ((strOf A).toList == (strOf B).toList) = decide (A = B) := by
  rw [ByteArray.toList_eq, ByteArray.toList_eq, strOf_L, strOf_L, Bool.eq_iff_iff, beq_iff_eq, decide_eq_true_eq]
  exact ⟨u8_inj hA hB, fun h => by rw [h]⟩
theorem rd_unword (w v : Int) : rd (Seen.mk (unword w) v) = rd (Seen.mk (unw w) v) := by
  show (kL (unword w), v) = (kL (unw w), v)
  rw [kL_unword]
end Go.Proofs.YthnghkkbnhjlgaaDoor
/- Passes made and read, in plain words. No conditions. -/
namespace Go.Proofs.YthnghkkbnhjlgaaDoor
open Go.Am
/-- The seal of bytes. -/
def sealL (key : Sl Int) (D : List Int) : List Int := tbF (digF key (Sl.mk false D)) 8 0
theorem markR_D (key : Sl Int) (D : List Int) : (markR key (Sl.mk false D)).1.D = sealL key D := by
  have h := fun i hi => sh_byte (fun t => digF_R8 key (Sl.mk false D) t) i hi
  show [_, _, _, _, _, _, _, _] = [_, _, _, _, _, _, _, _]
  simp only [List.cons.injEq, and_true]
  exact ⟨h 0 (by decide), h 1 (by decide), h 2 (by decide), h 3 (by decide), h 4 (by decide), h 5 (by decide), h 6 (by decide), h 7 (by decide)⟩
theorem mark_D (key b : Sl Int) : (mark key b).1.D = sealL key b.D := markR_D key b.D
theorem sealL_len (key : Sl Int) (D : List Int) : (sealL key D).length = 8 := rfl
theorem sealL_B8 (key : Sl Int) (D : List Int) : B8 (sealL key D) := fun x hx => by
  obtain ⟨i, _, _, rfl⟩ := mem_tbF hx
  exact digF_R8 key (Sl.mk false D) i
/-- The pass of what was seen. -/
def passL (key : Sl Int) (l : List Seen) : List Int := encB l ++ sealL key (encB l)
def mkSpec (key : Sl Int) (l : Sl Seen) : Sl Int × Int :=
  bif (pRight l) != 0 then (Sl.mk true [], pRight l) else bif decide (key.D.length = 16) then (bif l.D.isEmpty then (Sl.mk true [], 0) else (Sl.mk false (passL key l.D), 0)) else (Sl.mk true [], 1)
theorem isEmpty_len {α : Type} (l : List α) : ((l.length : Int) == 0) = l.isEmpty := by
  cases l with
  | nil => rfl
  | cons x xs => simp; omega
theorem pMake_eq (key : Sl Int) (l : Sl Seen) : pMake key l = mkSpec key l := by
  unfold pMake mkSpec
  rw [isEmpty_len]
  have h2 : (markR key (Sl.mk false (bodyO l))).2 = if key.D.length = 16 then 0 else 1 := rfl
  rw [h2, markR_D, bodyO_eq]
  cases (pRight l != 0)
  · by_cases h : key.D.length = 16
    · rw [if_pos h, decide_eq_true h]
      cases l.D.isEmpty <;> rfl
    · rw [if_neg h, decide_eq_false h]; rfl
  · rfl
end Go.Proofs.YthnghkkbnhjlgaaDoor
/- Passes read, in plain words: the library's and the document's. No conditions. -/
namespace Go.Proofs.YthnghkkbnhjlgaaDoor
open Go.Am
def badR : Sl Seen × Int := (Sl.mk true [], 100)
/-- What a pass's reader hands back. -/
def pfin (L : List Seen) : Sl Seen × Int := bif (pRight (Sl.mk L.isEmpty L)) != 0 then badR else (Sl.mk L.isEmpty L, 0)
theorem pRead_l0_err : ∀ (k i : Nat) (l : List Seen) (vc : Reader), rdErr vc ≠ 0 → pRead_l0 k i l vc = badR
  | 0, i, l, vc, h => by
    unfold pRead_l0
    rw [rdEnd_err h]; rfl
  | k + 1, i, l, vc, h => by
    unfold pRead_l0
    have e : (rdErr vc != 0) = true := by simpa using h
    rw [rdNum_err vc e]
    exact pRead_l0_err k (i + 1) _ _ (rdIn_err _ _ h)
theorem pRead_l0_at {D : List Int} (hD : B8 D) (hl : D.length ≤ 1000000) : ∀ (k i : Nat) (l : List Seen) (vc : Reader) (rest : List Int), RdAt vc D rest →
    (∀ xs, decS k rest = some (xs, []) → ∃ ys : List Seen, ys.map rd = xs.map rd ∧ KB ys ∧ pRead_l0 k i l vc = pfin (l ++ ys)) ∧ ((∀ xs, decS k rest ≠ some (xs, [])) → pRead_l0 k i l vc = badR)
  | 0, i, l, vc, rest, h => by
    have he := rdEnd_at h
    unfold pRead_l0 decS
    rw [he]
    cases rest with
    | nil =>
      refine ⟨fun xs hx => ⟨[], ?_, (fun _ h => nomatch h), ?_⟩, fun hno => absurd rfl (hno [])⟩
      · injection hx with hx; injection hx with hx _; rw [← hx]
      · rw [List.append_nil]; rfl
    | cons y ys =>
      exact ⟨fun xs hx => (by injection hx with hx; injection hx with _ hx; cases hx), fun _ => rfl⟩
  | k + 1, i, l, vc, rest, h => by
    have h1 := rdNum_at h hD hl
    have hsub : ∀ x ∈ rest, 0 ≤ x ∧ x < 256 := fun x hx => hD x (h.suf.subset hx)
    unfold pRead_l0 decS
    cases e1 : vd 0 rest with
    | none =>
      rw [e1] at h1
      exact ⟨fun xs hx => (by cases hx), fun _ => pRead_l0_err k (i + 1) _ _ (rdIn_err _ _ h1)⟩
    | some q =>
      obtain ⟨w, r1⟩ := q
      rw [e1] at h1
      dsimp only at h1 ⊢
      have h2 := rdIn_at 1 1099511627776 h1.1 hD hl
      cases e2 : rin 1 1099511627776 r1 with
      | none =>
        rw [e2] at h2
        exact ⟨fun xs hx => (by cases hx), fun _ => pRead_l0_err k (i + 1) _ _ h2⟩
      | some q =>
        obtain ⟨v, r2⟩ := q
        rw [e2] at h2
        dsimp only at h2 ⊢
        rw [h1.2, h2.2]
        obtain ⟨ih1, ih2⟩ := pRead_l0_at hD hl k (i + 1) (l ++ [Seen.mk (unword (w : Int)) (v : Int)]) _ r2 h2.1
        cases e3 : decS k r2 with
        | none =>
          rw [e3] at ih2
          exact ⟨fun xs hx => (by cases hx), fun _ => ih2 fun xs hx => (by cases hx)⟩
        | some q =>
          obtain ⟨zs, r3⟩ := q
          rw [e3] at ih1 ih2
          dsimp only
          refine ⟨fun xs hx => ?_, fun hno => ih2 fun xs hx => ?_⟩
          · injection hx with hx; injection hx with hx hr
            subst hr
            obtain ⟨ys, p1, p2, p3⟩ := ih1 zs rfl
            refine ⟨Seen.mk (unword (w : Int)) (v : Int) :: ys, ?_, ?_, ?_⟩
            · rw [← hx, List.map_cons, List.map_cons, p1, rd_unword]
            · intro x hx'
              rcases List.mem_cons.1 hx' with rfl | hx'
              · exact unword_B _
              · exact p2 x hx'
            · rw [p3, List.append_assoc]; rfl
          · injection hx with hx; injection hx with _ hr
            subst hr
            exact hno _ rfl
/-- What bytes without their seal say. -/
def parse (D : List Int) : Option (List Seen) := match rin 1 6 D with
  | none => none
  | some (n, r) => match decS n r with
    | some (xs, []) => some xs
    | _ => none
theorem rdNew_at (b : Sl Int) : RdAt (rdNew b) b.D b.D := ⟨rfl, rfl, rfl, List.suffix_refl _, by show (0 : Int) = _; omega⟩
theorem pRead_parse (b : Sl Int) (hB : B8 b.D) (hl : b.D.length ≤ 1000000) :
    (∀ xs, parse b.D = some xs → ∃ ys : List Seen, ys.map rd = xs.map rd ∧ KB ys ∧ pRead_l0 (rdIn (rdNew b) 1 6).2.toNat 0 [] (rdIn (rdNew b) 1 6).1 = pfin ys) ∧ (parse b.D = none → pRead_l0 (rdIn (rdNew b) 1 6).2.toNat 0 [] (rdIn (rdNew b) 1 6).1 = badR) := by
  have h1 := rdIn_at 1 6 (rdNew_at b) hB hl
  unfold parse
  cases e1 : rin 1 6 b.D with
  | none =>
    rw [e1] at h1
    exact ⟨fun xs hx => (by cases hx), fun _ => pRead_l0_err _ _ _ _ h1⟩
  | some q =>
    obtain ⟨n, r⟩ := q
    rw [e1] at h1
    dsimp only at h1 ⊢
    rw [h1.2, Int.toNat_natCast]
    obtain ⟨i1, i2⟩ := pRead_l0_at hB hl n 0 [] _ r h1.1
    cases e2 : decS n r with
    | none =>
      rw [e2] at i2
      exact ⟨fun xs hx => (by cases hx), fun _ => i2 fun xs hx => (by cases hx)⟩
    | some q =>
      obtain ⟨zs, r3⟩ := q
      rw [e2] at i1 i2
      cases r3 with
      | nil =>
        refine ⟨fun xs hx => ?_, fun hx => (by cases hx)⟩
        injection hx with hx
        subst hx
        exact i1 zs rfl
      | cons y ys => exact ⟨fun xs hx => (by cases hx), fun _ => i2 fun xs hx => (by injection hx with hx; injection hx with _ hx; cases hx)⟩
end Go.Proofs.YthnghkkbnhjlgaaDoor
/- What a pass says, in plain words: both the same, and what was seen comes back. No conditions. -/
namespace Go.Proofs.YthnghkkbnhjlgaaDoor
open Go.Am
theorem parse_enc {D : List Int} {xs : List Seen} (hD : B8 D) (h : parse D = some xs) : D = encB xs ∧ (1 ≤ xs.length ∧ xs.length ≤ 6) ∧ KB xs := by
  unfold parse at h
  cases e1 : rin 1 6 D with
  | none => rw [e1] at h; cases h
  | some q =>
    obtain ⟨n, r⟩ := q
    rw [e1] at h
    dsimp only at h
    obtain ⟨g1, _, g3, g4⟩ := rin_some e1
    obtain ⟨f1, _, _⟩ := vd_vb 0 D n r hD g1
    cases e2 : decS n r with
    | none => rw [e2] at h; cases h
    | some q =>
      obtain ⟨zs, r3⟩ := q
      rw [e2] at h
      cases r3 with
      | cons y ys => cases h
      | nil =>
        injection h with h
        subst h
        obtain ⟨i1, i2, i3, _, _⟩ := enc_decS n r zs [] (fun x hx => hD x (by rw [f1]; simp [hx])) e2
        refine ⟨?_, by omega, i3⟩
        unfold encB
        have e : (IntKind.u64.wrap (zs.length : Int)).toNat = n := by rw [wrapU]; omega
        rw [e]
        rw [List.append_nil] at i1
        rw [← i1]; exact f1
theorem parse_encB {l : List Seen} (h1 : 1 ≤ l.length) (h6 : l.length ≤ 6) (hv : ∀ x ∈ l, 1 ≤ x.ver ∧ x.ver ≤ 1099511627776) : parse (encB l) = some (l.map back) := by
  have e : (IntKind.u64.wrap (l.length : Int)).toNat = l.length := by rw [wrapU]; omega
  have e1 : vd 0 (encB l) = some (l.length, encS l) := by
    unfold encB
    rw [e]
    exact vb_vd _ 0 _ (by omega) (fun q => absurd q (Nat.lt_irrefl 0))
  have e2 : rin 1 6 (encB l) = some (l.length, encS l) := by
    unfold rin
    rw [e1]
    dsimp only
    rw [if_pos (by omega)]
  have e3 := decS_enc l [] hv
  rw [List.append_nil] at e3
  unfold parse
  rw [e2]
  dsimp only
  rw [e3]
theorem back_rd : ∀ {l : List Seen}, KB l → (l.map back).map rd = l.map rd
  | [], _ => rfl
  | x :: xs, h => by
    obtain ⟨h1, h2⟩ := h.cons
    rw [List.map_cons, List.map_cons, List.map_cons, back_rd h2]
    congr 1
    show (kL (unw (word x.key)), x.ver) = (kL x.key, x.ver)
    rw [unw_word h1]
/-- Bytes, cut ahead of their seal. -/
def cutB (b : Sl Int) : Sl Int := Sl.mk b.nil (b.D.take (b.D.length - 8))
def cutT (b : Sl Int) : List Int := b.D.drop (b.D.length - 8)
theorem cutB_B8 {b : Sl Int} (h : B8 b.D) : B8 (cutB b).D := fun x hx => h x (List.mem_of_mem_take hx)
theorem cutT_B8 {b : Sl Int} (h : B8 b.D) : B8 (cutT b) := fun x hx => h x (List.mem_of_mem_drop hx)
theorem wrap8c {n : Nat} (h : n ≤ 1000000) (h8 : 8 ≤ n) : (IntKind.i64.wrap ((n : Int) - 8)).toNat = n - 8 := by
  rw [wrapP (by omega)]; omega
/-- May the bytes be looked at? -/
def lookR (key b : Sl Int) : Option (Sl Seen × Int) := if key.D.length ≠ 16 then some (Sl.mk true [], 1) else if b.D = [] then some (Sl.mk true [], 0) else if 120 < b.D.length ∨ b.D.length < 8 then some badR else none
theorem look_chain {key b : Sl Int} (S : Sl Seen × Int) : (bif ((key.D.length : Int) != 16) then (Sl.mk true [], 1) else (bif ((b.D.length : Int) == 0) then (Sl.mk true [], 0) else (bif (decide ((b.D.length : Int) > 120)) then badR else (bif (decide ((b.D.length : Int) < 8)) then badR else S)))) = match lookR key b with
    | some r => r
    | none => S := by
  have e16 : ((key.D.length : Int) != 16) = !decide (key.D.length = 16) := by
    rw [Bool.eq_iff_iff]; simp; omega
  rw [e16, isEmpty_len]
  by_cases h : key.D.length = 16
  · by_cases hb : b.D = []
    · have e : lookR key b = some (Sl.mk true [], 0) := by unfold lookR; rw [if_neg (fun q => q h), if_pos hb]
      rw [e, decide_eq_true h, hb]; rfl
    · by_cases hn : 120 < b.D.length ∨ b.D.length < 8
      · have e : lookR key b = some badR := by unfold lookR; rw [if_neg (fun q => q h), if_neg hb, if_pos hn]
        rw [e, decide_eq_true h, show b.D.isEmpty = false by simpa using hb]
        by_cases h1 : 120 < b.D.length
        · rw [decide_eq_true (show (b.D.length : Int) > 120 by omega)]; rfl
        · rw [decide_eq_false (show ¬ (b.D.length : Int) > 120 by omega), decide_eq_true (show (b.D.length : Int) < 8 by omega)]; rfl
      · have e : lookR key b = none := by unfold lookR; rw [if_neg (fun q => q h), if_neg hb, if_neg hn]
        rw [e, decide_eq_true h, show b.D.isEmpty = false by simpa using hb, decide_eq_false (show ¬ (b.D.length : Int) > 120 by omega), decide_eq_false (show ¬ (b.D.length : Int) < 8 by omega)]; rfl
  · have e : lookR key b = some (Sl.mk true [], 1) := by unfold lookR; rw [if_pos h]
    rw [e, decide_eq_false h]; rfl
theorem lookR_none {key b : Sl Int} (h : lookR key b = none) : key.D.length = 16 ∧ b.D ≠ [] ∧ b.D.length ≤ 120 ∧ 8 ≤ b.D.length := by
  unfold lookR at h
  split at h
  · cases h
  · split at h
    · cases h
    · split at h
      · cases h
      · rename_i h1 h2 h3
        refine ⟨Classical.byContradiction h1, h2, ?_, ?_⟩ <;> omega
theorem pRead_eq {key b : Sl Int} (hB : B8 b.D) : pRead key b = match lookR key b with
    | some r => r
    | none => if sealL key (cutB b).D = cutT b then pRead_l0 (rdIn (rdNew (cutB b)) 1 6).2.toNat 0 [] (rdIn (rdNew (cutB b)) 1 6).1 else badR := by
  unfold pRead
  refine (look_chain _).trans ?_
  cases e : lookR key b with
  | some r => rfl
  | none =>
    obtain ⟨k16, hne, h120, h8⟩ := lookR_none e
    dsimp only
    rw [wrap8c (by omega) (by omega)]
    have e1 : (mark key (Sl.mk b.nil (b.D.take (b.D.length - 8)))).2 = if key.D.length = 16 then 0 else 1 := rfl
    have e2 : eqBytes (mark key (Sl.mk b.nil (b.D.take (b.D.length - 8)))).1 (Sl.mk b.nil (b.D.drop (b.D.length - 8))) = decide (sealL key (cutB b).D = cutT b) := by
      unfold eqBytes
      rw [mark_D]
      exact str_eq (sealL_B8 _ _) (cutT_B8 hB)
    rw [e1, if_pos k16, e2]
    show (bif !decide (sealL key (cutB b).D = cutT b) then badR else pRead_l0 (rdIn (rdNew (cutB b)) 1 6).2.toNat 0 [] (rdIn (rdNew (cutB b)) 1 6).1) = _
    generalize pRead_l0 (rdIn (rdNew (cutB b)) 1 6).2.toNat 0 [] (rdIn (rdNew (cutB b)) 1 6).1 = X
    by_cases hs : sealL key (cutB b).D = cutT b
    · rw [decide_eq_true hs, if_pos hs]; rfl
    · rw [decide_eq_false hs, if_neg hs]; rfl
theorem passL_B8 (key : Sl Int) (l : List Seen) : B8 (passL key l) := fun x hx => by
  rcases List.mem_append.1 hx with hx | hx
  · exact encB_B8 l x hx
  · exact sealL_B8 _ _ x hx
end Go.Proofs.YthnghkkbnhjlgaaDoor
/- What was seen comes back out of its pass. No conditions. -/
namespace Go.Proofs.YthnghkkbnhjlgaaDoor
open Go.Am
theorem pfin_len {ys : List Seen} (hk : KB ys) (hl : ys.length ≤ 1000000) : (pfin ys).1.D.length ≤ 6 := by
  unfold pfin
  cases e : (pRight (Sl.mk ys.isEmpty ys) != 0)
  · have e0 : pRight (Sl.mk ys.isEmpty ys) = 0 := by simpa using e
    exact ((pRight_zero (l := Sl.mk ys.isEmpty ys) hk hl).1 e0).1
  · exact Nat.zero_le _
theorem pRead_len {key b : Sl Int} (hB : B8 b.D) : (pRead key b).1.D.length ≤ 6 := by
  rw [pRead_eq hB]
  cases e : lookR key b with
  | some r =>
    unfold lookR at e
    dsimp only
    split at e
    · injection e with e; rw [← e]; exact Nat.zero_le _
    · split at e
      · injection e with e; rw [← e]; exact Nat.zero_le _
      · split at e
        · injection e with e; rw [← e]; exact Nat.zero_le _
        · cases e
  | none =>
    obtain ⟨k16, hne, h120, h8⟩ := lookR_none e
    have hcl : (cutB b).D.length ≤ 1000000 := by
      show (b.D.take _).length ≤ _
      rw [List.length_take]; omega
    have hp := pRead_parse (cutB b) (cutB_B8 hB) hcl
    dsimp only
    split
    · cases ep : parse (cutB b).D with
      | none => rw [hp.2 ep]; exact Nat.zero_le _
      | some xs =>
        obtain ⟨ys, p1, p2, p3⟩ := hp.1 xs ep
        obtain ⟨c1, c2, c3⟩ := parse_enc (cutB_B8 hB) ep
        rw [p3]
        exact pfin_len p2 (by rw [len_rd p1]; omega)
    · exact Nat.zero_le _
theorem make_B8 (key : Sl Int) (l : Sl Seen) : B8 (pMake key l).1.D := by
  rw [pMake_eq]
  unfold mkSpec
  cases (pRight l != 0)
  · cases decide (key.D.length = 16)
    · exact fun x (h : x ∈ ([] : List Int)) => nomatch h
    · cases l.D.isEmpty
      · exact passL_B8 key l.D
      · exact fun x (h : x ∈ ([] : List Int)) => nomatch h
  · exact fun x (h : x ∈ ([] : List Int)) => nomatch h
theorem vb_len_le : ∀ (k n : Nat), n < 128 ^ (k + 1) → (vb n).length ≤ k + 1
  | 0, n, h => by rw [vb_lt (by simpa using h)]; exact Nat.le_refl _
  | k + 1, n, h => by
    rcases Nat.lt_or_ge n 128 with h1 | h1
    · rw [vb_lt h1]; show 1 ≤ _; omega
    · rw [vb_ge h1]
      have : n / 128 < 128 ^ (k + 1) := Nat.div_lt_of_lt_mul (by rw [Nat.pow_succ, Nat.mul_comm] at h; exact h)
      have := vb_len_le k (n / 128) this
      show (vb (n / 128)).length + 1 ≤ _
      omega
theorem encS_len16 : ∀ {l : List Seen}, (∀ x ∈ l, 1 ≤ x.ver ∧ x.ver ≤ 1099511627776) → (encS l).length ≤ 16 * l.length
  | [], _ => Nat.le_refl _
  | x :: xs, h => by
    have hx := h x (by simp)
    have h1 := vb_len (n := (word x.key).toNat) (by have := (word_ok x.key); omega)
    have e : IntKind.u64.wrap x.ver = x.ver := by rw [wrapU]; omega
    have hp : (128 : Nat) ^ (5 + 1) = 4398046511104 := by decide
    have h2 := vb_len_le 5 x.ver.toNat (by omega)
    have := encS_len16 (l := xs) fun y hy => h y (by simp [hy])
    unfold encS
    rw [e, List.length_append, List.length_append, List.length_cons]; omega
theorem encB_len6 {l : List Seen} (h6 : l.length ≤ 6) (hv : ∀ x ∈ l, 1 ≤ x.ver ∧ x.ver ≤ 1099511627776) : (encB l).length ≤ 97 := by
  have := encS_len16 hv
  have e : (IntKind.u64.wrap (l.length : Int)).toNat = l.length := by rw [wrapU]; omega
  unfold encB
  rw [e, vb_lt (by omega)]
  show (encS l).length + 1 ≤ _
  omega
theorem passL_cut (key : Sl Int) (l : List Seen) : (cutB (Sl.mk false (passL key l))).D = encB l ∧ cutT (Sl.mk false (passL key l)) = sealL key (encB l) := by
  have hl : (passL key l).length - 8 = (encB l).length := by
    unfold passL
    rw [List.length_append, sealL_len]; omega
  constructor
  · show (passL key l).take ((passL key l).length - 8) = _
    rw [hl]; exact List.take_left
  · show (passL key l).drop ((passL key l).length - 8) = _
    rw [hl]; exact List.drop_left
theorem pass_back {key : Sl Int} {l : Sl Seen} (hk : key.D.length = 16) (hl : KB l.D) (hl1 : l.D.length ≤ 1000000) (h0 : pRight l = 0) :
    (pMake key l).2 = 0 ∧ (pRead key (pMake key l).1).2 = 0 ∧ (pRead key (pMake key l).1).1.D.map rd = l.D.map rd ∧ (pMake key l).1.D.length ≤ 120 ∧ (pMake key l).1.D.isEmpty = l.D.isEmpty ∧ B8 (pMake key l).1.D := by
  obtain ⟨h6, hr⟩ := (pRight_zero hl hl1).1 h0
  rw [pMake_eq]
  unfold mkSpec
  rw [show (pRight l != 0) = false by simpa using h0, decide_eq_true hk, cond_false, cond_true]
  cases he : l.D.isEmpty
  · rw [cond_false]
    dsimp only
    have hv : ∀ x ∈ l.D, 1 ≤ x.ver ∧ x.ver ≤ 1099511627776 := fun x hx => by
      have := ver_ok (rt_mem hr x hx)
      omega
    have h1 : 1 ≤ l.D.length := by
      cases hD : l.D with
      | nil => rw [hD] at he; simp at he
      | cons x xs => simp
    have hlen := encB_len6 h6 hv
    have hpl : (passL key l.D).length = (encB l.D).length + 8 := by
      unfold passL
      rw [List.length_append, sealL_len]
    have hB : B8 (Sl.mk false (passL key l.D)).D := passL_B8 key l.D
    obtain ⟨c1, c2⟩ := passL_cut key l.D
    have hlook : lookR key (Sl.mk false (passL key l.D)) = none := by
      unfold lookR
      rw [if_neg (fun q => q hk), if_neg, if_neg]
      · show ¬ (120 < (passL key l.D).length ∨ (passL key l.D).length < 8)
        omega
      · intro q
        have : (passL key l.D).length = 0 := by
          have := congrArg List.length q
          exact this
        omega
    have hcl : (cutB (Sl.mk false (passL key l.D))).D.length ≤ 1000000 := by rw [c1]; omega
    have hp := pRead_parse (cutB (Sl.mk false (passL key l.D))) (cutB_B8 hB) hcl
    have hparse : parse (cutB (Sl.mk false (passL key l.D))).D = some (l.D.map back) := by
      rw [c1]; exact parse_encB h1 h6 hv
    obtain ⟨ys, p1, p2, p3⟩ := hp.1 _ hparse
    have hyr : ys.map rd = l.D.map rd := p1.trans (back_rd hl)
    have hread : pRead key (Sl.mk false (passL key l.D)) = pfin ys := by
      rw [pRead_eq hB, hlook]
      dsimp only
      rw [if_pos (by rw [c1, c2]), p3]
    have hpy : pRight (Sl.mk ys.isEmpty ys) = 0 := by
      rw [← h0]
      exact pRight_rd (X := Sl.mk ys.isEmpty ys) (Y := l) p2 hl (by show ys.length ≤ _; rw [len_rd hyr]; exact hl1) hyr
    have hfin : pfin ys = (Sl.mk ys.isEmpty ys, 0) := by
      unfold pfin
      rw [hpy]; rfl
    rw [hread, hfin]
    refine ⟨rfl, rfl, hyr, by omega, ?_, hB⟩
    cases hP : passL key l.D with
    | nil => rw [hP] at hpl; simp at hpl
    | cons a tl => rfl
  · rw [cond_true]
    have hD : l.D = [] := by simpa using he
    have hlook : lookR key (Sl.mk true []) = some (Sl.mk true [], 0) := by
      unfold lookR
      rw [if_neg (fun q => q hk), if_pos rfl]
    have hread : pRead key (Sl.mk true []) = (Sl.mk true [], 0) := by
      rw [pRead_eq (b := Sl.mk true []) (fun x (h : x ∈ ([] : List Int)) => nomatch h), hlook]
    dsimp only
    rw [hread, hD]
    exact ⟨rfl, rfl, rfl, Nat.zero_le _, rfl, fun x (h : x ∈ ([] : List Int)) => nomatch h⟩
end Go.Proofs.YthnghkkbnhjlgaaDoor
/- The example. No conditions. -/
namespace Go.Proofs.YthnghkkbnhjlgaaDoor
open Go.Am
def awake  : Bool :=
  (bif ((pSee (Sl.mk true []) (nameK [(97 : Int)]) 3).2 == 0) then (bif ((pSee (pSee (Sl.mk true []) (nameK [(97 : Int)]) 3).1 (nameK [(98 : Int)]) 1).2 == 0) then (bif ((pSee (pSee (pSee (Sl.mk true []) (nameK [(97 : Int)]) 3).1 (nameK [(98 : Int)]) 1).1 (nameK [(97 : Int)]) 2).2 == 0) then (bif (((pMake (Sl.mk false [48, 49, 50, 51, 52, 53, 54, 55, 56, 57, 97, 98, 99, 100, 101, 102]) (pSee (pSee (pSee (Sl.mk true []) (nameK [(97 : Int)]) 3).1 (nameK [(98 : Int)]) 1).1 (nameK [(97 : Int)]) 2).1).2) == 0) then (bif (((pRead (Sl.mk false [48, 49, 50, 51, 52, 53, 54, 55, 56, 57, 97, 98, 99, 100, 101, 102]) ((pMake (Sl.mk false [48, 49, 50, 51, 52, 53, 54, 55, 56, 57, 97, 98, 99, 100, 101, 102]) (pSee (pSee (pSee (Sl.mk true []) (nameK [(97 : Int)]) 3).1 (nameK [(98 : Int)]) 1).1 (nameK [(97 : Int)]) 2).1).1)).2) == 0) then (bif (((pRead (Sl.mk false [48, 49, 50, 51, 52, 53, 54, 55, 56, 57, 97, 98, 99, 100, 101, 102]) (Sl.mk false (List.replicate 7 0))).2) == 100) then (bif (eqSeen (pSee (pSee (pSee (Sl.mk true []) (nameK [(97 : Int)]) 3).1 (nameK [(98 : Int)]) 1).1 (nameK [(97 : Int)]) 2).1 (Sl.mk false [(Seen.mk (nameK [(97 : Int)]) 3), (Seen.mk (nameK [(98 : Int)]) 1)])) then (eqSeen ((pRead (Sl.mk false [48, 49, 50, 51, 52, 53, 54, 55, 56, 57, 97, 98, 99, 100, 101, 102]) ((pMake (Sl.mk false [48, 49, 50, 51, 52, 53, 54, 55, 56, 57, 97, 98, 99, 100, 101, 102]) (pSee (pSee (pSee (Sl.mk true []) (nameK [(97 : Int)]) 3).1 (nameK [(98 : Int)]) 1).1 (nameK [(97 : Int)]) 2).1).1)).1) (pSee (pSee (pSee (Sl.mk true []) (nameK [(97 : Int)]) 3).1 (nameK [(98 : Int)]) 1).1 (nameK [(97 : Int)]) 2).1) else false) else false) else false) else false) else false) else false) else false)
theorem awake_calls   : PCalls Tryd.prog 13 [] (.pv (.lit (.bool (awake )))) := by
 generalize hR : awake  = R
 refine PCalls.of_body tabOk Tryd.func13 rfl rfl rfl rfl rfl mixed fun E hP C hI => ?_
 refine Awp.consP C ?_
 refine rvP C (.pv (.lit (.bool false))) ?_
 refine rvc_nil ?_
 refine Awp.cons C (fun o => match o.dst with | some 13 => .writes [12] | _ => .writer) (by kernel_rfl) ?_
 refine rvc_un (rexec_prim C (δ := { v := .sl 12 0 ([48, 49, 50, 51, 52, 53, 54, 55, 56, 57, 97, 98, 99, 100, 101, 102].length) 1 true, new := [(12, .cells (encC (eI .u8) [48, 49, 50, 51, 52, 53, 54, 55, 56, 57, 97, 98, 99, 100, 101, 102]))] }) rfl rfl rfl rfl trivial rfl ?_)
 refine rvc_un (rexec_convOwn C rfl [48, 49, 50, 51, 52, 53, 54, 55, 56, 57, 97, 98, 99, 100, 101, 102] rfl rfl rfl rfl rfl rfl rfl ?_)
 refine rvP C (sS (some false) (eI .u8) [48, 49, 50, 51, 52, 53, 54, 55, 56, 57, 97, 98, 99, 100, 101, 102]) ?_
 refine rvc_nil ?_
 refine Awp.consP C ?_
 refine rvc_un (rexec_call hP C rfl rfl rfl (nameK_calls [(97 : Int)] (rng8 97 (by decide))) ?_)
 obtain ⟨s1, hq_s1⟩ : ∃ q_, q_ = (pSee (Sl.mk true []) (nameK [(97 : Int)]) 3) := ⟨_, rfl⟩
 have hc_s1 := (pSee_calls (Sl.mk true []) (nameK [(97 : Int)]) 3 KB_nil (name1_B 97 (by decide)) (fun _ => rfl) (Nat.zero_le _))
 first | rw [← hq_s1] at hR hc_s1 | (unfold awake at hR; rw [← hq_s1] at hR hc_s1)
 have hf0_s1 := pSee_ok (l := (Sl.mk true [])) (k := (nameK [(97 : Int)])) (v := 3) KB_nil (name1_B 97 (by decide)) (fun _ => rfl) (Nat.zero_le _)
 rw [← hq_s1] at hf0_s1
 refine rvc_un (rexec_call hP C rfl rfl rfl hc_s1 ?_)
 refine rvP C (.tup [sS (some s1.1.nil) eSeen s1.1.D, .pv (.lit (.int .i64 s1.2))]) ?_
 refine rvP C (sS (some s1.1.nil) eSeen s1.1.D) ?_
 refine rvP C (.pv (.lit (.int .i64 s1.2))) ?_
 refine rvP C (sS (some s1.1.nil) eSeen s1.1.D) ?_
 refine rvP C (.pv (.lit (.int .i64 s1.2))) ?_
 refine rvc_nil ?_
 refine Awp.consP C ?_
 refine rvP C (sS (some s1.1.nil) eSeen s1.1.D) ?_
 refine rvc_un (rexec_call hP C rfl rfl rfl (nameK_calls [(98 : Int)] (rng8 98 (by decide))) ?_)
 obtain ⟨s2, hq_s2⟩ : ∃ q_, q_ = (pSee s1.1 (nameK [(98 : Int)]) 1) := ⟨_, rfl⟩
 have hc_s2 := (pSee_calls s1.1 (nameK [(98 : Int)]) 1 hf0_s1.1 (name1_B 98 (by decide)) hf0_s1.2.1 hf0_s1.2.2)
 first | rw [← hq_s2] at hR hc_s2 | (unfold awake at hR; rw [← hq_s2] at hR hc_s2)
 have hf0_s2 := pSee_ok (l := s1.1) (k := (nameK [(98 : Int)])) (v := 1) hf0_s1.1 (name1_B 98 (by decide)) hf0_s1.2.1 hf0_s1.2.2
 rw [← hq_s2] at hf0_s2
 refine rvc_un (rexec_call hP C rfl rfl rfl hc_s2 ?_)
 refine rvP C (.tup [sS (some s2.1.nil) eSeen s2.1.D, .pv (.lit (.int .i64 s2.2))]) ?_
 refine rvP C (sS (some s2.1.nil) eSeen s2.1.D) ?_
 refine rvP C (.pv (.lit (.int .i64 s2.2))) ?_
 refine rvP C (sS (some s2.1.nil) eSeen s2.1.D) ?_
 refine rvP C (.pv (.lit (.int .i64 s2.2))) ?_
 refine rvc_nil ?_
 refine Awp.consP C ?_
 refine rvP C (sS (some s2.1.nil) eSeen s2.1.D) ?_
 refine rvc_un (rexec_call hP C rfl rfl rfl (nameK_calls [(97 : Int)] (rng8 97 (by decide))) ?_)
 obtain ⟨s3, hq_s3⟩ : ∃ q_, q_ = (pSee s2.1 (nameK [(97 : Int)]) 2) := ⟨_, rfl⟩
 have hc_s3 := (pSee_calls s2.1 (nameK [(97 : Int)]) 2 hf0_s2.1 (name1_B 97 (by decide)) hf0_s2.2.1 hf0_s2.2.2)
 first | rw [← hq_s3] at hR hc_s3 | (unfold awake at hR; rw [← hq_s3] at hR hc_s3)
 have hf0_s3 := pSee_ok (l := s2.1) (k := (nameK [(97 : Int)])) (v := 2) hf0_s2.1 (name1_B 97 (by decide)) hf0_s2.2.1 hf0_s2.2.2
 rw [← hq_s3] at hf0_s3
 refine rvc_un (rexec_call hP C rfl rfl rfl hc_s3 ?_)
 refine rvP C (.tup [sS (some s3.1.nil) eSeen s3.1.D, .pv (.lit (.int .i64 s3.2))]) ?_
 refine rvP C (sS (some s3.1.nil) eSeen s3.1.D) ?_
 refine rvP C (.pv (.lit (.int .i64 s3.2))) ?_
 refine rvP C (sS (some s3.1.nil) eSeen s3.1.D) ?_
 refine rvP C (.pv (.lit (.int .i64 s3.2))) ?_
 refine rvc_nil ?_
 refine Awp.consP C ?_
 refine rvP C (sS (some false) (eI .u8) [48, 49, 50, 51, 52, 53, 54, 55, 56, 57, 97, 98, 99, 100, 101, 102]) ?_
 refine rvP C (sS (some s3.1.nil) eSeen s3.1.D) ?_
 refine rvc_un (rexec_call hP C rfl rfl rfl (pMake_calls (Sl.mk false [48, 49, 50, 51, 52, 53, 54, 55, 56, 57, 97, 98, 99, 100, 101, 102]) s3.1 hf0_s3.1 hf0_s3.2.2) ?_)
 refine rvP C (.tup [sS (some (pMake (Sl.mk false [48, 49, 50, 51, 52, 53, 54, 55, 56, 57, 97, 98, 99, 100, 101, 102]) s3.1).1.nil) (eI .u8) ((pMake (Sl.mk false [48, 49, 50, 51, 52, 53, 54, 55, 56, 57, 97, 98, 99, 100, 101, 102]) s3.1).1.D), .pv (.lit (.int .i64 ((pMake (Sl.mk false [48, 49, 50, 51, 52, 53, 54, 55, 56, 57, 97, 98, 99, 100, 101, 102]) s3.1).2)))]) ?_
 refine rvP C (sS (some (pMake (Sl.mk false [48, 49, 50, 51, 52, 53, 54, 55, 56, 57, 97, 98, 99, 100, 101, 102]) s3.1).1.nil) (eI .u8) ((pMake (Sl.mk false [48, 49, 50, 51, 52, 53, 54, 55, 56, 57, 97, 98, 99, 100, 101, 102]) s3.1).1.D)) ?_
 refine rvP C (.pv (.lit (.int .i64 ((pMake (Sl.mk false [48, 49, 50, 51, 52, 53, 54, 55, 56, 57, 97, 98, 99, 100, 101, 102]) s3.1).2)))) ?_
 refine rvP C (sS (some (pMake (Sl.mk false [48, 49, 50, 51, 52, 53, 54, 55, 56, 57, 97, 98, 99, 100, 101, 102]) s3.1).1.nil) (eI .u8) ((pMake (Sl.mk false [48, 49, 50, 51, 52, 53, 54, 55, 56, 57, 97, 98, 99, 100, 101, 102]) s3.1).1.D)) ?_
 refine rvP C (.pv (.lit (.int .i64 ((pMake (Sl.mk false [48, 49, 50, 51, 52, 53, 54, 55, 56, 57, 97, 98, 99, 100, 101, 102]) s3.1).2)))) ?_
 refine rvc_nil ?_
 refine Awp.consP C ?_
 refine rvP C (sS (some false) (eI .u8) [48, 49, 50, 51, 52, 53, 54, 55, 56, 57, 97, 98, 99, 100, 101, 102]) ?_
 refine rvP C (sS (some (pMake (Sl.mk false [48, 49, 50, 51, 52, 53, 54, 55, 56, 57, 97, 98, 99, 100, 101, 102]) s3.1).1.nil) (eI .u8) ((pMake (Sl.mk false [48, 49, 50, 51, 52, 53, 54, 55, 56, 57, 97, 98, 99, 100, 101, 102]) s3.1).1.D)) ?_
 refine rvc_un (rexec_call hP C rfl rfl rfl (pRead_calls (Sl.mk false [48, 49, 50, 51, 52, 53, 54, 55, 56, 57, 97, 98, 99, 100, 101, 102]) ((pMake (Sl.mk false [48, 49, 50, 51, 52, 53, 54, 55, 56, 57, 97, 98, 99, 100, 101, 102]) s3.1).1)) ?_)
 refine rvP C (.tup [sS (some (pRead (Sl.mk false [48, 49, 50, 51, 52, 53, 54, 55, 56, 57, 97, 98, 99, 100, 101, 102]) ((pMake (Sl.mk false [48, 49, 50, 51, 52, 53, 54, 55, 56, 57, 97, 98, 99, 100, 101, 102]) s3.1).1)).1.nil) eSeen ((pRead (Sl.mk false [48, 49, 50, 51, 52, 53, 54, 55, 56, 57, 97, 98, 99, 100, 101, 102]) ((pMake (Sl.mk false [48, 49, 50, 51, 52, 53, 54, 55, 56, 57, 97, 98, 99, 100, 101, 102]) s3.1).1)).1.D), .pv (.lit (.int .i64 ((pRead (Sl.mk false [48, 49, 50, 51, 52, 53, 54, 55, 56, 57, 97, 98, 99, 100, 101, 102]) ((pMake (Sl.mk false [48, 49, 50, 51, 52, 53, 54, 55, 56, 57, 97, 98, 99, 100, 101, 102]) s3.1).1)).2)))]) ?_
 refine rvP C (sS (some (pRead (Sl.mk false [48, 49, 50, 51, 52, 53, 54, 55, 56, 57, 97, 98, 99, 100, 101, 102]) ((pMake (Sl.mk false [48, 49, 50, 51, 52, 53, 54, 55, 56, 57, 97, 98, 99, 100, 101, 102]) s3.1).1)).1.nil) eSeen ((pRead (Sl.mk false [48, 49, 50, 51, 52, 53, 54, 55, 56, 57, 97, 98, 99, 100, 101, 102]) ((pMake (Sl.mk false [48, 49, 50, 51, 52, 53, 54, 55, 56, 57, 97, 98, 99, 100, 101, 102]) s3.1).1)).1.D)) ?_
 refine rvP C (.pv (.lit (.int .i64 ((pRead (Sl.mk false [48, 49, 50, 51, 52, 53, 54, 55, 56, 57, 97, 98, 99, 100, 101, 102]) ((pMake (Sl.mk false [48, 49, 50, 51, 52, 53, 54, 55, 56, 57, 97, 98, 99, 100, 101, 102]) s3.1).1)).2)))) ?_
 refine rvP C (sS (some (pRead (Sl.mk false [48, 49, 50, 51, 52, 53, 54, 55, 56, 57, 97, 98, 99, 100, 101, 102]) ((pMake (Sl.mk false [48, 49, 50, 51, 52, 53, 54, 55, 56, 57, 97, 98, 99, 100, 101, 102]) s3.1).1)).1.nil) eSeen ((pRead (Sl.mk false [48, 49, 50, 51, 52, 53, 54, 55, 56, 57, 97, 98, 99, 100, 101, 102]) ((pMake (Sl.mk false [48, 49, 50, 51, 52, 53, 54, 55, 56, 57, 97, 98, 99, 100, 101, 102]) s3.1).1)).1.D)) ?_
 refine rvP C (.pv (.lit (.int .i64 ((pRead (Sl.mk false [48, 49, 50, 51, 52, 53, 54, 55, 56, 57, 97, 98, 99, 100, 101, 102]) ((pMake (Sl.mk false [48, 49, 50, 51, 52, 53, 54, 55, 56, 57, 97, 98, 99, 100, 101, 102]) s3.1).1)).2)))) ?_
 refine rvc_nil ?_
 refine Awp.consP C ?_
 refine rvP C (sS (some false) (eI .u8) [48, 49, 50, 51, 52, 53, 54, 55, 56, 57, 97, 98, 99, 100, 101, 102]) ?_
 refine rvc_un (rexec_makeSliceF C (encL (eI .u8) (List.replicate 7 0)) (List.replicate 7 0).length rfl rfl rfl rfl rfl (by decide) rfl rfl ?_)
 refine rvc_un (rexec_call hP C rfl rfl rfl (pRead_calls (Sl.mk false [48, 49, 50, 51, 52, 53, 54, 55, 56, 57, 97, 98, 99, 100, 101, 102]) (Sl.mk false (List.replicate 7 0))) ?_)
 refine rvP C (.tup [sS (some (pRead (Sl.mk false [48, 49, 50, 51, 52, 53, 54, 55, 56, 57, 97, 98, 99, 100, 101, 102]) (Sl.mk false (List.replicate 7 0))).1.nil) eSeen ((pRead (Sl.mk false [48, 49, 50, 51, 52, 53, 54, 55, 56, 57, 97, 98, 99, 100, 101, 102]) (Sl.mk false (List.replicate 7 0))).1.D), .pv (.lit (.int .i64 ((pRead (Sl.mk false [48, 49, 50, 51, 52, 53, 54, 55, 56, 57, 97, 98, 99, 100, 101, 102]) (Sl.mk false (List.replicate 7 0))).2)))]) ?_
 refine rvP C (sS (some (pRead (Sl.mk false [48, 49, 50, 51, 52, 53, 54, 55, 56, 57, 97, 98, 99, 100, 101, 102]) (Sl.mk false (List.replicate 7 0))).1.nil) eSeen ((pRead (Sl.mk false [48, 49, 50, 51, 52, 53, 54, 55, 56, 57, 97, 98, 99, 100, 101, 102]) (Sl.mk false (List.replicate 7 0))).1.D)) ?_
 refine rvP C (.pv (.lit (.int .i64 ((pRead (Sl.mk false [48, 49, 50, 51, 52, 53, 54, 55, 56, 57, 97, 98, 99, 100, 101, 102]) (Sl.mk false (List.replicate 7 0))).2)))) ?_
 refine rvP C (sS (some (pRead (Sl.mk false [48, 49, 50, 51, 52, 53, 54, 55, 56, 57, 97, 98, 99, 100, 101, 102]) (Sl.mk false (List.replicate 7 0))).1.nil) eSeen ((pRead (Sl.mk false [48, 49, 50, 51, 52, 53, 54, 55, 56, 57, 97, 98, 99, 100, 101, 102]) (Sl.mk false (List.replicate 7 0))).1.D)) ?_
 refine rvP C (.pv (.lit (.int .i64 ((pRead (Sl.mk false [48, 49, 50, 51, 52, 53, 54, 55, 56, 57, 97, 98, 99, 100, 101, 102]) (Sl.mk false (List.replicate 7 0))).2)))) ?_
 refine rvc_nil ?_
 refine Awp.consP C ?_
 refine rvP C (.pv (.lit (.int .i64 s1.2))) ?_
 refine rvP C (.pv (.lit (.bool (s1.2 == 0)))) ?_
 refine rvP C (.pv (.lit (.bool (s1.2 == 0)))) ?_
 refine rvc_case 51 (s1.2 == 0) rfl (fun h1 => ?_) (fun h1 => ?_)
 ·
  replace hR := of_true h1 hR
  refine rvO C (.pv (.lit (.int .i64 s2.2))) ?_
  refine rvO C (.pv (.lit (.bool (s2.2 == 0)))) ?_
  refine rvP C (.pv (.lit (.bool (s2.2 == 0)))) ?_
  refine rvP C (.pv (.lit (.bool (s2.2 == 0)))) ?_
  refine rvc_case 55 (s2.2 == 0) rfl (fun h2 => ?_) (fun h2 => ?_)
  ·
   replace hR := of_true h2 hR
   refine rvO C (.pv (.lit (.int .i64 s3.2))) ?_
   refine rvO C (.pv (.lit (.bool (s3.2 == 0)))) ?_
   refine rvP C (.pv (.lit (.bool (s3.2 == 0)))) ?_
   refine rvP C (.pv (.lit (.bool (s3.2 == 0)))) ?_
   refine rvc_case 59 (s3.2 == 0) rfl (fun h3 => ?_) (fun h3 => ?_)
   ·
    replace hR := of_true h3 hR
    refine rvO C (.pv (.lit (.int .i64 ((pMake (Sl.mk false [48, 49, 50, 51, 52, 53, 54, 55, 56, 57, 97, 98, 99, 100, 101, 102]) s3.1).2)))) ?_
    refine rvO C (.pv (.lit (.bool (((pMake (Sl.mk false [48, 49, 50, 51, 52, 53, 54, 55, 56, 57, 97, 98, 99, 100, 101, 102]) s3.1).2) == 0)))) ?_
    refine rvP C (.pv (.lit (.bool (((pMake (Sl.mk false [48, 49, 50, 51, 52, 53, 54, 55, 56, 57, 97, 98, 99, 100, 101, 102]) s3.1).2) == 0)))) ?_
    refine rvP C (.pv (.lit (.bool (((pMake (Sl.mk false [48, 49, 50, 51, 52, 53, 54, 55, 56, 57, 97, 98, 99, 100, 101, 102]) s3.1).2) == 0)))) ?_
    refine rvc_case 63 (((pMake (Sl.mk false [48, 49, 50, 51, 52, 53, 54, 55, 56, 57, 97, 98, 99, 100, 101, 102]) s3.1).2) == 0) rfl (fun h4 => ?_) (fun h4 => ?_)
    ·
     replace hR := of_true h4 hR
     refine rvO C (.pv (.lit (.int .i64 ((pRead (Sl.mk false [48, 49, 50, 51, 52, 53, 54, 55, 56, 57, 97, 98, 99, 100, 101, 102]) ((pMake (Sl.mk false [48, 49, 50, 51, 52, 53, 54, 55, 56, 57, 97, 98, 99, 100, 101, 102]) s3.1).1)).2)))) ?_
     refine rvO C (.pv (.lit (.bool (((pRead (Sl.mk false [48, 49, 50, 51, 52, 53, 54, 55, 56, 57, 97, 98, 99, 100, 101, 102]) ((pMake (Sl.mk false [48, 49, 50, 51, 52, 53, 54, 55, 56, 57, 97, 98, 99, 100, 101, 102]) s3.1).1)).2) == 0)))) ?_
     refine rvP C (.pv (.lit (.bool (((pRead (Sl.mk false [48, 49, 50, 51, 52, 53, 54, 55, 56, 57, 97, 98, 99, 100, 101, 102]) ((pMake (Sl.mk false [48, 49, 50, 51, 52, 53, 54, 55, 56, 57, 97, 98, 99, 100, 101, 102]) s3.1).1)).2) == 0)))) ?_
     refine rvP C (.pv (.lit (.bool (((pRead (Sl.mk false [48, 49, 50, 51, 52, 53, 54, 55, 56, 57, 97, 98, 99, 100, 101, 102]) ((pMake (Sl.mk false [48, 49, 50, 51, 52, 53, 54, 55, 56, 57, 97, 98, 99, 100, 101, 102]) s3.1).1)).2) == 0)))) ?_
     refine rvc_case 67 (((pRead (Sl.mk false [48, 49, 50, 51, 52, 53, 54, 55, 56, 57, 97, 98, 99, 100, 101, 102]) ((pMake (Sl.mk false [48, 49, 50, 51, 52, 53, 54, 55, 56, 57, 97, 98, 99, 100, 101, 102]) s3.1).1)).2) == 0) rfl (fun h5 => ?_) (fun h5 => ?_)
     ·
      replace hR := of_true h5 hR
      refine rvO C (.pv (.lit (.int .i64 ((pRead (Sl.mk false [48, 49, 50, 51, 52, 53, 54, 55, 56, 57, 97, 98, 99, 100, 101, 102]) (Sl.mk false (List.replicate 7 0))).2)))) ?_
      refine rvO C (.pv (.lit (.bool (((pRead (Sl.mk false [48, 49, 50, 51, 52, 53, 54, 55, 56, 57, 97, 98, 99, 100, 101, 102]) (Sl.mk false (List.replicate 7 0))).2) == 100)))) ?_
      refine rvP C (.pv (.lit (.bool (((pRead (Sl.mk false [48, 49, 50, 51, 52, 53, 54, 55, 56, 57, 97, 98, 99, 100, 101, 102]) (Sl.mk false (List.replicate 7 0))).2) == 100)))) ?_
      refine rvP C (.pv (.lit (.bool (((pRead (Sl.mk false [48, 49, 50, 51, 52, 53, 54, 55, 56, 57, 97, 98, 99, 100, 101, 102]) (Sl.mk false (List.replicate 7 0))).2) == 100)))) ?_
      refine rvc_case 71 (((pRead (Sl.mk false [48, 49, 50, 51, 52, 53, 54, 55, 56, 57, 97, 98, 99, 100, 101, 102]) (Sl.mk false (List.replicate 7 0))).2) == 100) rfl (fun h6 => ?_) (fun h6 => ?_)
      ·
       replace hR := of_true h6 hR
       refine rvO C (sS (some s3.1.nil) eSeen s3.1.D) ?_
       refine rvc_open rfl rfl rfl (rexec_call hP C rfl rfl rfl (nameK_calls [(97 : Int)] (rng8 97 (by decide))) ?_)
       refine rvO C (.agg [.pv (.lit (.int .u8 ((nameK [(97 : Int)]) 0))), .pv (.lit (.int .u8 ((nameK [(97 : Int)]) 1))), .pv (.lit (.int .u8 ((nameK [(97 : Int)]) 2))), .pv (.lit (.int .u8 ((nameK [(97 : Int)]) 3))), .pv (.lit (.int .u8 ((nameK [(97 : Int)]) 4))), .pv (.lit (.int .u8 ((nameK [(97 : Int)]) 5))), .pv (.lit (.int .u8 ((nameK [(97 : Int)]) 6))), .pv (.lit (.int .u8 ((nameK [(97 : Int)]) 7))), .pv (.lit (.int .i64 3))]) ?_
       refine rvc_open rfl rfl rfl (rexec_call hP C rfl rfl rfl (nameK_calls [(98 : Int)] (rng8 98 (by decide))) ?_)
       refine rvO C (.agg [.pv (.lit (.int .u8 ((nameK [(98 : Int)]) 0))), .pv (.lit (.int .u8 ((nameK [(98 : Int)]) 1))), .pv (.lit (.int .u8 ((nameK [(98 : Int)]) 2))), .pv (.lit (.int .u8 ((nameK [(98 : Int)]) 3))), .pv (.lit (.int .u8 ((nameK [(98 : Int)]) 4))), .pv (.lit (.int .u8 ((nameK [(98 : Int)]) 5))), .pv (.lit (.int .u8 ((nameK [(98 : Int)]) 6))), .pv (.lit (.int .u8 ((nameK [(98 : Int)]) 7))), .pv (.lit (.int .i64 1))]) ?_
       refine rvc_open rfl rfl rfl (rexec_buildSliceF C eSeen [(Seen.mk (nameK [(97 : Int)]) 3), (Seen.mk (nameK [(98 : Int)]) 1)] rfl rfl rfl rfl rfl rfl rfl (by decide) rfl ?_)
       refine rvc_open rfl rfl rfl (rexec_call hP C rfl rfl rfl (eqSeen_calls s3.1 (Sl.mk false [(Seen.mk (nameK [(97 : Int)]) 3), (Seen.mk (nameK [(98 : Int)]) 1)]) (Nat.le_trans hf0_s3.2.2 (by decide))) ?_)
       refine rvP C (.pv (.lit (.bool (eqSeen s3.1 (Sl.mk false [(Seen.mk (nameK [(97 : Int)]) 3), (Seen.mk (nameK [(98 : Int)]) 1)]))))) ?_
       refine rvP C (.pv (.lit (.bool (eqSeen s3.1 (Sl.mk false [(Seen.mk (nameK [(97 : Int)]) 3), (Seen.mk (nameK [(98 : Int)]) 1)]))))) ?_
       refine rvc_case 80 (eqSeen s3.1 (Sl.mk false [(Seen.mk (nameK [(97 : Int)]) 3), (Seen.mk (nameK [(98 : Int)]) 1)])) rfl (fun h7 => ?_) (fun h7 => ?_)
       ·
        replace hR := of_true h7 hR
        refine rvO C (sS (some (pRead (Sl.mk false [48, 49, 50, 51, 52, 53, 54, 55, 56, 57, 97, 98, 99, 100, 101, 102]) ((pMake (Sl.mk false [48, 49, 50, 51, 52, 53, 54, 55, 56, 57, 97, 98, 99, 100, 101, 102]) s3.1).1)).1.nil) eSeen ((pRead (Sl.mk false [48, 49, 50, 51, 52, 53, 54, 55, 56, 57, 97, 98, 99, 100, 101, 102]) ((pMake (Sl.mk false [48, 49, 50, 51, 52, 53, 54, 55, 56, 57, 97, 98, 99, 100, 101, 102]) s3.1).1)).1.D)) ?_
        refine rvO C (sS (some s3.1.nil) eSeen s3.1.D) ?_
        refine rvc_open rfl rfl rfl (rexec_call hP C rfl rfl rfl (eqSeen_calls ((pRead (Sl.mk false [48, 49, 50, 51, 52, 53, 54, 55, 56, 57, 97, 98, 99, 100, 101, 102]) ((pMake (Sl.mk false [48, 49, 50, 51, 52, 53, 54, 55, 56, 57, 97, 98, 99, 100, 101, 102]) s3.1).1)).1) s3.1 (Nat.le_trans (pRead_len (make_B8 _ _)) (by decide))) ?_)
        refine rvP C (.pv (.lit (.bool (eqSeen ((pRead (Sl.mk false [48, 49, 50, 51, 52, 53, 54, 55, 56, 57, 97, 98, 99, 100, 101, 102]) ((pMake (Sl.mk false [48, 49, 50, 51, 52, 53, 54, 55, 56, 57, 97, 98, 99, 100, 101, 102]) s3.1).1)).1) s3.1)))) ?_
        refine rvP C (.pv (.lit (.bool (eqSeen ((pRead (Sl.mk false [48, 49, 50, 51, 52, 53, 54, 55, 56, 57, 97, 98, 99, 100, 101, 102]) ((pMake (Sl.mk false [48, 49, 50, 51, 52, 53, 54, 55, 56, 57, 97, 98, 99, 100, 101, 102]) s3.1).1)).1) s3.1)))) ?_
        refine rvc_nil ?_
        refine Awp.ret ?_
        subst hR
        exact ⟨.inl rfl, rfl⟩
       ·
        replace hR := of_false h7 hR
        refine rvS ?_
        refine rvS ?_
        refine rvS ?_
        refine rvP C (.pv (.lit (.bool false))) ?_
        refine rvP C (.pv (.lit (.bool false))) ?_
        refine rvc_nil ?_
        refine Awp.ret ?_
        subst hR
        exact ⟨.inl rfl, rfl⟩
      ·
       replace hR := of_false h6 hR
       refine rvS ?_
       refine rvS ?_
       refine rvS ?_
       refine rvS ?_
       refine rvS ?_
       refine rvS ?_
       refine rvS ?_
       refine rvP C (.pv (.lit (.bool false))) ?_
       refine rvP C (.pv (.lit (.bool false))) ?_
       refine rvS ?_
       refine rvS ?_
       refine rvS ?_
       refine rvP C (.pv (.lit (.bool false))) ?_
       refine rvP C (.pv (.lit (.bool false))) ?_
       refine rvc_nil ?_
       refine Awp.ret ?_
       subst hR
       exact ⟨.inl rfl, rfl⟩
     ·
      replace hR := of_false h5 hR
      refine rvS ?_
      refine rvS ?_
      refine rvP C (.pv (.lit (.bool false))) ?_
      refine rvP C (.pv (.lit (.bool false))) ?_
      refine rvS ?_
      refine rvS ?_
      refine rvS ?_
      refine rvS ?_
      refine rvS ?_
      refine rvS ?_
      refine rvS ?_
      refine rvP C (.pv (.lit (.bool false))) ?_
      refine rvP C (.pv (.lit (.bool false))) ?_
      refine rvS ?_
      refine rvS ?_
      refine rvS ?_
      refine rvP C (.pv (.lit (.bool false))) ?_
      refine rvP C (.pv (.lit (.bool false))) ?_
      refine rvc_nil ?_
      refine Awp.ret ?_
      subst hR
      exact ⟨.inl rfl, rfl⟩
    ·
     replace hR := of_false h4 hR
     refine rvS ?_
     refine rvS ?_
     refine rvP C (.pv (.lit (.bool false))) ?_
     refine rvP C (.pv (.lit (.bool false))) ?_
     refine rvS ?_
     refine rvS ?_
     refine rvP C (.pv (.lit (.bool false))) ?_
     refine rvP C (.pv (.lit (.bool false))) ?_
     refine rvS ?_
     refine rvS ?_
     refine rvS ?_
     refine rvS ?_
     refine rvS ?_
     refine rvS ?_
     refine rvS ?_
     refine rvP C (.pv (.lit (.bool false))) ?_
     refine rvP C (.pv (.lit (.bool false))) ?_
     refine rvS ?_
     refine rvS ?_
     refine rvS ?_
     refine rvP C (.pv (.lit (.bool false))) ?_
     refine rvP C (.pv (.lit (.bool false))) ?_
     refine rvc_nil ?_
     refine Awp.ret ?_
     subst hR
     exact ⟨.inl rfl, rfl⟩
   ·
    replace hR := of_false h3 hR
    refine rvS ?_
    refine rvS ?_
    refine rvP C (.pv (.lit (.bool false))) ?_
    refine rvP C (.pv (.lit (.bool false))) ?_
    refine rvS ?_
    refine rvS ?_
    refine rvP C (.pv (.lit (.bool false))) ?_
    refine rvP C (.pv (.lit (.bool false))) ?_
    refine rvS ?_
    refine rvS ?_
    refine rvP C (.pv (.lit (.bool false))) ?_
    refine rvP C (.pv (.lit (.bool false))) ?_
    refine rvS ?_
    refine rvS ?_
    refine rvS ?_
    refine rvS ?_
    refine rvS ?_
    refine rvS ?_
    refine rvS ?_
    refine rvP C (.pv (.lit (.bool false))) ?_
    refine rvP C (.pv (.lit (.bool false))) ?_
    refine rvS ?_
    refine rvS ?_
    refine rvS ?_
    refine rvP C (.pv (.lit (.bool false))) ?_
    refine rvP C (.pv (.lit (.bool false))) ?_
    refine rvc_nil ?_
    refine Awp.ret ?_
    subst hR
    exact ⟨.inl rfl, rfl⟩
  ·
   replace hR := of_false h2 hR
   refine rvS ?_
   refine rvS ?_
   refine rvP C (.pv (.lit (.bool false))) ?_
   refine rvP C (.pv (.lit (.bool false))) ?_
   refine rvS ?_
   refine rvS ?_
   refine rvP C (.pv (.lit (.bool false))) ?_
   refine rvP C (.pv (.lit (.bool false))) ?_
   refine rvS ?_
   refine rvS ?_
   refine rvP C (.pv (.lit (.bool false))) ?_
   refine rvP C (.pv (.lit (.bool false))) ?_
   refine rvS ?_
   refine rvS ?_
   refine rvP C (.pv (.lit (.bool false))) ?_
   refine rvP C (.pv (.lit (.bool false))) ?_
   refine rvS ?_
   refine rvS ?_
   refine rvS ?_
   refine rvS ?_
   refine rvS ?_
   refine rvS ?_
   refine rvS ?_
   refine rvP C (.pv (.lit (.bool false))) ?_
   refine rvP C (.pv (.lit (.bool false))) ?_
   refine rvS ?_
   refine rvS ?_
   refine rvS ?_
   refine rvP C (.pv (.lit (.bool false))) ?_
   refine rvP C (.pv (.lit (.bool false))) ?_
   refine rvc_nil ?_
   refine Awp.ret ?_
   subst hR
   exact ⟨.inl rfl, rfl⟩
 ·
  replace hR := of_false h1 hR
  refine rvS ?_
  refine rvS ?_
  refine rvP C (.pv (.lit (.bool false))) ?_
  refine rvP C (.pv (.lit (.bool false))) ?_
  refine rvS ?_
  refine rvS ?_
  refine rvP C (.pv (.lit (.bool false))) ?_
  refine rvP C (.pv (.lit (.bool false))) ?_
  refine rvS ?_
  refine rvS ?_
  refine rvP C (.pv (.lit (.bool false))) ?_
  refine rvP C (.pv (.lit (.bool false))) ?_
  refine rvS ?_
  refine rvS ?_
  refine rvP C (.pv (.lit (.bool false))) ?_
  refine rvP C (.pv (.lit (.bool false))) ?_
  refine rvS ?_
  refine rvS ?_
  refine rvP C (.pv (.lit (.bool false))) ?_
  refine rvP C (.pv (.lit (.bool false))) ?_
  refine rvS ?_
  refine rvS ?_
  refine rvS ?_
  refine rvS ?_
  refine rvS ?_
  refine rvS ?_
  refine rvS ?_
  refine rvP C (.pv (.lit (.bool false))) ?_
  refine rvP C (.pv (.lit (.bool false))) ?_
  refine rvS ?_
  refine rvS ?_
  refine rvS ?_
  refine rvP C (.pv (.lit (.bool false))) ?_
  refine rvP C (.pv (.lit (.bool false))) ?_
  refine rvc_nil ?_
  refine Awp.ret ?_
  subst hR
  exact ⟨.inl rfl, rfl⟩
end Go.Proofs.YthnghkkbnhjlgaaDoor
/- The example is so; lists told apart, in plain words. No conditions. -/
namespace Go.Proofs.YthnghkkbnhjlgaaDoor
open Go.Am
theorem eqSeen_l0_eq (s2 : Sl Seen) : ∀ (xs : List Seen) (i : Nat), xs.length + i = s2.D.length → eqSeen_l0 s2 xs i = decide (xs.map rd = (s2.D.drop i).map rd)
  | [], i, h => by
    have : s2.D.drop i = [] := List.drop_of_length_le (by simp at h; omega)
    rw [this]; rfl
  | x :: xs, i, h => by
    have hi : i < s2.D.length := by simp at h; omega
    have ih := eqSeen_l0_eq s2 xs (i + 1) (by simp at h; omega)
    rw [List.drop_eq_getElem_cons hi]
    unfold eqSeen_l0
    rw [ih, Int.toNat_natCast, getElem!_pos s2.D i hi]
    have e : ((((x.key 0) == (s2.D[i].key 0)) && (((x.key 1) == (s2.D[i].key 1)) && (((x.key 2) == (s2.D[i].key 2)) && (((x.key 3) == (s2.D[i].key 3)) && (((x.key 4) == (s2.D[i].key 4)) && (((x.key 5) == (s2.D[i].key 5)) && (((x.key 6) == (s2.D[i].key 6)) && (((x.key 7) == (s2.D[i].key 7)) && true)))))))) && ((x.ver == s2.D[i].ver) && true)) = decide (rd x = rd s2.D[i]) := by
      rw [eq8]
      unfold rd
      rw [Bool.eq_iff_iff]
      simp
    rw [e]
    by_cases h1 : rd x = rd s2.D[i]
    · rw [decide_eq_true h1]
      show decide _ = _
      rw [decide_eq_decide, List.map_cons, List.map_cons, h1]
      simp only [List.cons.injEq, true_and]
    · rw [decide_eq_false h1]
      show false = _
      exact (decide_eq_false fun q => h1 (List.cons.inj q).1).symm
theorem eqSeen_eq (s1 s2 : Sl Seen) : eqSeen s1 s2 = decide (s1.D.map rd = s2.D.map rd) := by
  unfold eqSeen
  by_cases h : s1.D.length = s2.D.length
  · rw [show ((s1.D.length : Int) != (s2.D.length : Int)) = false by simp; omega, cond_false, eqSeen_l0_eq s2 s1.D 0 (by omega), List.drop_zero]
  · rw [show ((s1.D.length : Int) != (s2.D.length : Int)) = true by simp; omega, cond_true]
    exact (decide_eq_false fun q => h (len_rd q)).symm
def ex1 : Sl Seen × Int := pSee (Sl.mk true []) (nameK [(97 : Int)]) 3
def ex2 : Sl Seen × Int := pSee ex1.1 (nameK [(98 : Int)]) 1
def ex3 : Sl Seen × Int := pSee ex2.1 (nameK [(97 : Int)]) 2
theorem ex1_e : ex1.2 = 0 := by kernel_rfl
theorem ex2_e : ex2.2 = 0 := by kernel_rfl
theorem ex3_e : ex3.2 = 0 := by kernel_rfl
theorem ex3_r : pRight ex3.1 = 0 := by kernel_rfl
theorem ex3_rd : ex3.1.D.map rd = (Sl.mk false [(Seen.mk (nameK [(97 : Int)]) 3), (Seen.mk (nameK [(98 : Int)]) 1)]).D.map rd := by kernel_rfl
def exK : Sl Int := Sl.mk false [48, 49, 50, 51, 52, 53, 54, 55, 56, 57, 97, 98, 99, 100, 101, 102]
theorem ex_bad : (pRead exK (Sl.mk false (List.replicate 7 0))).2 = 100 := by
  rw [pRead_eq (b := Sl.mk false (List.replicate 7 0)) (fun x hx => by rw [List.eq_of_mem_replicate hx]; decide)]; rfl
theorem ex3_ok : KB ex3.1.D ∧ ex3.1.D.length ≤ 1000000 := by
  have h1 := pSee_ok (l := Sl.mk true []) (v := 3) KB_nil (name1_B 97 (by decide)) (fun _ => rfl) (Nat.zero_le _)
  have h2 := pSee_ok (v := 1) h1.1 (name1_B 98 (by decide)) h1.2.1 h1.2.2
  have h3 := pSee_ok (v := 2) h2.1 (name1_B 97 (by decide)) h2.2.1 h2.2.2
  exact ⟨h3.1, Nat.le_trans h3.2.2 (by decide)⟩
theorem awake_true : awake = true := by
  obtain ⟨k1, k2⟩ := ex3_ok
  obtain ⟨b1, b2, b3, _, _, _⟩ := pass_back (key := exK) rfl k1 k2 ex3_r
  have e : awake = bif (ex1.2 == 0) then (bif (ex2.2 == 0) then (bif (ex3.2 == 0) then (bif ((pMake exK ex3.1).2 == 0) then (bif ((pRead exK (pMake exK ex3.1).1).2 == 0) then (bif ((pRead exK (Sl.mk false (List.replicate 7 0))).2 == 100) then (bif eqSeen ex3.1 (Sl.mk false [(Seen.mk (nameK [(97 : Int)]) 3), (Seen.mk (nameK [(98 : Int)]) 1)]) then eqSeen (pRead exK (pMake exK ex3.1).1).1 ex3.1 else false) else false) else false) else false) else false) else false) else false := rfl
  rw [e, ex1_e, ex2_e, ex3_e, b1, b2, ex_bad, eqSeen_eq, eqSeen_eq, decide_eq_true ex3_rd, decide_eq_true b3]; rfl
end Go.Proofs.YthnghkkbnhjlgaaDoor
/- What the laws ask of lists that are handed on. No conditions. -/
namespace Go.Proofs.YthnghkkbnhjlgaaDoor
open Go.Am
theorem pJoin_l0_ok : ∀ (xs : List Seen) (i : Nat) (out : Sl Seen) (e : Int), KB xs → KB out.D → (out.nil = true → out.D = []) → out.D.length ≤ 1000 → KB (pJoin_l0 xs i out e).1.D ∧ ((pJoin_l0 xs i out e).1.nil = true → (pJoin_l0 xs i out e).1.D = []) ∧ (pJoin_l0 xs i out e).1.D.length ≤ 1000
  | [], i, out, e, _, h1, h2, h3 => by
    unfold pJoin_l0
    cases (e != 0)
    · exact ⟨h1, h2, h3⟩
    · exact ⟨KB_nil, (fun _ => rfl), Nat.zero_le _⟩
  | x :: xs, i, out, e, hx, h1, h2, h3 => by
    obtain ⟨hx1, hx2⟩ := hx.cons
    unfold pJoin_l0
    cases (e == 0)
    · exact pJoin_l0_ok xs (i + 1) out e hx2 h1 h2 h3
    · have hok := pSee_ok (v := x.ver) h1 hx1 h2 h3
      exact pJoin_l0_ok xs (i + 1) _ _ hx2 hok.1 hok.2.1 hok.2.2
theorem pJoin_ok {a b : Sl Seen} (ha : KB a.D) (hb : KB b.D) (hn : a.nil = true → a.D = []) (hl : a.D.length ≤ 1000) : KB (pJoin a b).1.D ∧ ((pJoin a b).1.nil = true → (pJoin a b).1.D = []) ∧ (pJoin a b).1.D.length ≤ 1000 := by
  unfold pJoin
  cases (pRight b != 0)
  · obtain ⟨c1, c2, c3⟩ := clone_ok ha hn hl
    exact pJoin_l0_ok b.D 0 _ _ hb c1 c2 c3
  · exact ⟨KB_nil, (fun _ => rfl), Nat.zero_le _⟩
end Go.Proofs.YthnghkkbnhjlgaaDoor
/- Law: joined floors. No conditions. -/
namespace Go.Proofs.YthnghkkbnhjlgaaDoor
open Go.Am
def lawJoined (a : (Sl Seen)) (b : (Sl Seen)) (k : (Nat → Int)) : Bool :=
  (bif (decide ((a.D.length : Int) > 1000)) then (awake ) else (bif (decide ((b.D.length : Int) > 1000)) then (awake ) else (bif ((pJoin a b).2 != 0) then (bif (((pJoin a b).2 == 0) == ((pJoin b a).2 == 0)) then (awake ) else false) else (bif ((pJoin b a).2 != 0) then (bif (((pJoin a b).2 == 0) == ((pJoin b a).2 == 0)) then (awake ) else false) else (bif (eqSeen (pJoin a b).1 (pJoin b a).1) then (bif ((pJoin (pJoin a b).1 b).2 == 0) then (bif (eqSeen (pJoin a b).1 (pJoin (pJoin a b).1 b).1) then (bif ((pFloor (pJoin a b).1 k) == (bif (decide ((pFloor a k) < (pFloor b k))) then (pFloor b k) else (pFloor a k))) then (awake ) else false) else false) else false) else false)))))
set_option maxHeartbeats 2000000 in
theorem lawJoined_calls (a : (Sl Seen)) (b : (Sl Seen)) (k : (Nat → Int)) (ha : ∀ x ∈ a.D, KeyB x.key) (hb : ∀ x ∈ b.D, KeyB x.key) (hn : a.nil = true → a.D = []) (hm : b.nil = true → b.D = []) (hl1 : b.D.length ≤ 9223372036854775807) (hl2 : a.D.length ≤ 9223372036854775807) : PCalls Tryd.prog 10 [sS (some a.nil) eSeen a.D, sS (some b.nil) eSeen b.D, .agg [.pv (.lit (.int .u8 (k 0))), .pv (.lit (.int .u8 (k 1))), .pv (.lit (.int .u8 (k 2))), .pv (.lit (.int .u8 (k 3))), .pv (.lit (.int .u8 (k 4))), .pv (.lit (.int .u8 (k 5))), .pv (.lit (.int .u8 (k 6))), .pv (.lit (.int .u8 (k 7)))]] (.pv (.lit (.bool (lawJoined a b k)))) := by
 generalize hR : lawJoined a b k = R
 refine PCalls.of_body tabOk Tryd.func10 rfl rfl rfl rfl rfl mixed fun E hP C hI => ?_
 refine Awp.consP C ?_
 refine rvc_un (rexec_prim C (δ := { v := .ptr 5 0, new := [(5, .cells [.pv (.lit (.int .u8 (k 0))), .pv (.lit (.int .u8 (k 1))), .pv (.lit (.int .u8 (k 2))), .pv (.lit (.int .u8 (k 3))), .pv (.lit (.int .u8 (k 4))), .pv (.lit (.int .u8 (k 5))), .pv (.lit (.int .u8 (k 6))), .pv (.lit (.int .u8 (k 7)))])] }) rfl rfl rfl rfl trivial rfl ?_)
 refine rvP C (.pv (.lit (.bool false))) ?_
 refine rvc_nil ?_
 refine Awp.seq ?_
 refine Awp.consP C ?_
 refine rvP C (sS (some a.nil) eSeen a.D) ?_
 refine rvP C (.pv (.lit (.int .i64 (a.D.length : Int)))) ?_
 refine rvP C (.pv (.lit (.bool (decide ((a.D.length : Int) > 1000))))) ?_
 refine rvP C (.pv (.lit (.bool (decide ((a.D.length : Int) > 1000))))) ?_
 refine rvc_case 16 (decide ((a.D.length : Int) > 1000)) rfl (fun h1 => ?_) (fun h1 => ?_)
 ·
  replace hR := of_true h1 hR
  refine rvS ?_
  refine rvS ?_
  refine rvS ?_
  refine rvP C (.pv (.lit (.bool true))) ?_
  refine rvc_nil ?_
  refine Awp.condT (b := true) rfl rfl ?_
  refine Awp.consP C ?_
  refine rvc_un (rexec_call hP C rfl rfl rfl (awake_calls ) ?_)
  refine rvP C (.pv (.lit (.bool (awake )))) ?_
  refine rvc_nil ?_
  refine Awp.ret ?_
  subst hR
  exact ⟨.inl rfl, rfl⟩
 ·
  replace hR := of_false h1 hR
  refine rvO C (sS (some b.nil) eSeen b.D) ?_
  refine rvO C (.pv (.lit (.int .i64 (b.D.length : Int)))) ?_
  refine rvO C (.pv (.lit (.bool (decide ((b.D.length : Int) > 1000))))) ?_
  refine rvP C (.pv (.lit (.bool (decide ((b.D.length : Int) > 1000))))) ?_
  refine rvc_nil ?_
  refine Awp.cond (b := (decide ((b.D.length : Int) > 1000))) rfl (fun h2 => ?_) (fun h2 => ?_)
  ·
   replace hR := of_true h2 hR
   refine Awp.consP C ?_
   refine rvc_un (rexec_call hP C rfl rfl rfl (awake_calls ) ?_)
   refine rvP C (.pv (.lit (.bool (awake )))) ?_
   refine rvc_nil ?_
   refine Awp.ret ?_
   subst hR
   exact ⟨.inl rfl, rfl⟩
  ·
   replace hR := of_false h2 hR
   refine Awp.skip ?_
   refine Awp.consP C ?_
   refine rvP C (sS (some a.nil) eSeen a.D) ?_
   refine rvP C (sS (some b.nil) eSeen b.D) ?_
   obtain ⟨s1, hq_s1⟩ : ∃ q_, q_ = (pJoin a b) := ⟨_, rfl⟩
   have hc_s1 := (pJoin_calls a b ha hb hn (by show b.D.length ≤ 1000; have := of_decide_eq_false h1; have := of_decide_eq_false h2; omega) (by show a.D.length ≤ 1000; have := of_decide_eq_false h1; have := of_decide_eq_false h2; omega))
   first | rw [← hq_s1] at hR hc_s1 | (unfold lawJoined at hR; rw [← hq_s1] at hR hc_s1)
   have hf0_s1 := pJoin_ok (a := a) (b := b) ha hb hn (by have := of_decide_eq_false ‹decide ((a.D.length : Int) > 1000) = false›; omega)
   rw [← hq_s1] at hf0_s1
   refine rvc_un (rexec_call hP C rfl rfl rfl hc_s1 ?_)
   refine rvP C (.tup [sS (some s1.1.nil) eSeen s1.1.D, .pv (.lit (.int .i64 s1.2))]) ?_
   refine rvP C (sS (some s1.1.nil) eSeen s1.1.D) ?_
   refine rvP C (.pv (.lit (.int .i64 s1.2))) ?_
   refine rvP C (sS (some s1.1.nil) eSeen s1.1.D) ?_
   refine rvP C (.pv (.lit (.int .i64 s1.2))) ?_
   refine rvc_nil ?_
   refine Awp.consP C ?_
   refine rvP C (sS (some b.nil) eSeen b.D) ?_
   refine rvP C (sS (some a.nil) eSeen a.D) ?_
   obtain ⟨s2, hq_s2⟩ : ∃ q_, q_ = (pJoin b a) := ⟨_, rfl⟩
   have hc_s2 := (pJoin_calls b a hb ha hm (by show a.D.length ≤ 1000; have := of_decide_eq_false h1; have := of_decide_eq_false h2; omega) (by show b.D.length ≤ 1000; have := of_decide_eq_false h1; have := of_decide_eq_false h2; omega))
   first | rw [← hq_s2] at hR hc_s2 | (unfold lawJoined at hR; rw [← hq_s2] at hR hc_s2)
   have hf0_s2 := pJoin_ok (a := b) (b := a) hb ha hm (by have := of_decide_eq_false ‹decide ((b.D.length : Int) > 1000) = false›; omega)
   rw [← hq_s2] at hf0_s2
   refine rvc_un (rexec_call hP C rfl rfl rfl hc_s2 ?_)
   refine rvP C (.tup [sS (some s2.1.nil) eSeen s2.1.D, .pv (.lit (.int .i64 s2.2))]) ?_
   refine rvP C (sS (some s2.1.nil) eSeen s2.1.D) ?_
   refine rvP C (.pv (.lit (.int .i64 s2.2))) ?_
   refine rvP C (sS (some s2.1.nil) eSeen s2.1.D) ?_
   refine rvP C (.pv (.lit (.int .i64 s2.2))) ?_
   refine rvc_nil ?_
   refine Awp.seq ?_
   refine Awp.consP C ?_
   refine rvP C (.pv (.lit (.int .i64 s1.2))) ?_
   refine rvP C (.pv (.lit (.bool (s1.2 != 0)))) ?_
   refine rvP C (.pv (.lit (.bool (s1.2 != 0)))) ?_
   refine rvc_case 36 (s1.2 != 0) rfl (fun h3 => ?_) (fun h3 => ?_)
   ·
    replace hR := of_true h3 hR
    refine rvS ?_
    refine rvS ?_
    refine rvP C (.pv (.lit (.bool true))) ?_
    refine rvc_nil ?_
    refine Awp.condT (b := true) rfl rfl ?_
    refine Awp.consP C ?_
    refine rvP C (.pv (.lit (.int .i64 s1.2))) ?_
    refine rvP C (.pv (.lit (.bool (s1.2 == 0)))) ?_
    refine rvP C (.pv (.lit (.int .i64 s2.2))) ?_
    refine rvP C (.pv (.lit (.bool (s2.2 == 0)))) ?_
    refine rvP C (.pv (.lit (.bool ((s1.2 == 0) == (s2.2 == 0))))) ?_
    refine rvP C (.pv (.lit (.bool ((s1.2 == 0) == (s2.2 == 0))))) ?_
    refine rvc_case 45 ((s1.2 == 0) == (s2.2 == 0)) rfl (fun h4 => ?_) (fun h4 => ?_)
    ·
     replace hR := of_true h4 hR
     refine rvc_open rfl rfl rfl (rexec_call hP C rfl rfl rfl (awake_calls ) ?_)
     refine rvP C (.pv (.lit (.bool (awake )))) ?_
     refine rvP C (.pv (.lit (.bool (awake )))) ?_
     refine rvc_nil ?_
     refine Awp.ret ?_
     subst hR
     exact ⟨.inl rfl, rfl⟩
    ·
     replace hR := of_false h4 hR
     refine rvS ?_
     refine rvP C (.pv (.lit (.bool false))) ?_
     refine rvP C (.pv (.lit (.bool false))) ?_
     refine rvc_nil ?_
     refine Awp.ret ?_
     subst hR
     exact ⟨.inl rfl, rfl⟩
   ·
    replace hR := of_false h3 hR
    refine rvO C (.pv (.lit (.int .i64 s2.2))) ?_
    refine rvO C (.pv (.lit (.bool (s2.2 != 0)))) ?_
    refine rvP C (.pv (.lit (.bool (s2.2 != 0)))) ?_
    refine rvc_nil ?_
    refine Awp.cond (b := (s2.2 != 0)) rfl (fun h5 => ?_) (fun h5 => ?_)
    ·
     replace hR := of_true h5 hR
     refine Awp.consP C ?_
     refine rvP C (.pv (.lit (.int .i64 s1.2))) ?_
     refine rvP C (.pv (.lit (.bool (s1.2 == 0)))) ?_
     refine rvP C (.pv (.lit (.int .i64 s2.2))) ?_
     refine rvP C (.pv (.lit (.bool (s2.2 == 0)))) ?_
     refine rvP C (.pv (.lit (.bool ((s1.2 == 0) == (s2.2 == 0))))) ?_
     refine rvP C (.pv (.lit (.bool ((s1.2 == 0) == (s2.2 == 0))))) ?_
     refine rvc_case 45 ((s1.2 == 0) == (s2.2 == 0)) rfl (fun h6 => ?_) (fun h6 => ?_)
     ·
      replace hR := of_true h6 hR
      refine rvc_open rfl rfl rfl (rexec_call hP C rfl rfl rfl (awake_calls ) ?_)
      refine rvP C (.pv (.lit (.bool (awake )))) ?_
      refine rvP C (.pv (.lit (.bool (awake )))) ?_
      refine rvc_nil ?_
      refine Awp.ret ?_
      subst hR
      exact ⟨.inl rfl, rfl⟩
     ·
      replace hR := of_false h6 hR
      refine rvS ?_
      refine rvP C (.pv (.lit (.bool false))) ?_
      refine rvP C (.pv (.lit (.bool false))) ?_
      refine rvc_nil ?_
      refine Awp.ret ?_
      subst hR
      exact ⟨.inl rfl, rfl⟩
    ·
     replace hR := of_false h5 hR
     refine Awp.skip ?_
     refine Awp.consP C ?_
     refine rvP C (sS (some s1.1.nil) eSeen s1.1.D) ?_
     refine rvP C (sS (some b.nil) eSeen b.D) ?_
     obtain ⟨s3, hq_s3⟩ : ∃ q_, q_ = (pJoin s1.1 b) := ⟨_, rfl⟩
     have hc_s3 := (pJoin_calls s1.1 b hf0_s1.1 hb hf0_s1.2.1 (by have := of_decide_eq_false ‹decide ((b.D.length : Int) > 1000) = false›; omega) hf0_s1.2.2)
     first | rw [← hq_s3] at hR hc_s3 | (unfold lawJoined at hR; rw [← hq_s3] at hR hc_s3)
     have hf0_s3 := pJoin_ok (a := s1.1) (b := b) hf0_s1.1 hb hf0_s1.2.1 hf0_s1.2.2
     rw [← hq_s3] at hf0_s3
     refine rvc_un (rexec_call hP C rfl rfl rfl hc_s3 ?_)
     refine rvP C (.tup [sS (some s3.1.nil) eSeen s3.1.D, .pv (.lit (.int .i64 s3.2))]) ?_
     refine rvP C (sS (some s3.1.nil) eSeen s3.1.D) ?_
     refine rvP C (.pv (.lit (.int .i64 s3.2))) ?_
     refine rvP C (sS (some s3.1.nil) eSeen s3.1.D) ?_
     refine rvP C (.pv (.lit (.int .i64 s3.2))) ?_
     refine rvc_nil ?_
     refine Awp.consP C ?_
     refine rvP C (sS (some s1.1.nil) eSeen s1.1.D) ?_
     refine rvP C (sS (some s2.1.nil) eSeen s2.1.D) ?_
     refine rvc_un (rexec_call hP C rfl rfl rfl (eqSeen_calls s1.1 s2.1 (Nat.le_trans hf0_s1.2.2 (by decide))) ?_)
     refine rvP C (.pv (.lit (.bool (eqSeen s1.1 s2.1)))) ?_
     refine rvc_case 57 (eqSeen s1.1 s2.1) rfl (fun h7 => ?_) (fun h7 => ?_)
     ·
      replace hR := of_true h7 hR
      refine rvO C (.pv (.lit (.int .i64 s3.2))) ?_
      refine rvO C (.pv (.lit (.bool (s3.2 == 0)))) ?_
      refine rvP C (.pv (.lit (.bool (s3.2 == 0)))) ?_
      refine rvP C (.pv (.lit (.bool (s3.2 == 0)))) ?_
      refine rvc_case 61 (s3.2 == 0) rfl (fun h8 => ?_) (fun h8 => ?_)
      ·
       replace hR := of_true h8 hR
       refine rvO C (sS (some s1.1.nil) eSeen s1.1.D) ?_
       refine rvO C (sS (some s3.1.nil) eSeen s3.1.D) ?_
       refine rvc_open rfl rfl rfl (rexec_call hP C rfl rfl rfl (eqSeen_calls s1.1 s3.1 (Nat.le_trans hf0_s1.2.2 (by decide))) ?_)
       refine rvP C (.pv (.lit (.bool (eqSeen s1.1 s3.1)))) ?_
       refine rvP C (.pv (.lit (.bool (eqSeen s1.1 s3.1)))) ?_
       refine rvc_case 66 (eqSeen s1.1 s3.1) rfl (fun h9 => ?_) (fun h9 => ?_)
       ·
        replace hR := of_true h9 hR
        refine rvO C (sS (some s1.1.nil) eSeen s1.1.D) ?_
        refine rvO C (.agg [.pv (.lit (.int .u8 (k 0))), .pv (.lit (.int .u8 (k 1))), .pv (.lit (.int .u8 (k 2))), .pv (.lit (.int .u8 (k 3))), .pv (.lit (.int .u8 (k 4))), .pv (.lit (.int .u8 (k 5))), .pv (.lit (.int .u8 (k 6))), .pv (.lit (.int .u8 (k 7)))]) ?_
        obtain ⟨f1, hq_f1⟩ : ∃ q_, q_ = (pFloor s1.1 k) := ⟨_, rfl⟩
        have hc_f1 := (pFloor_calls s1.1 k hf0_s1.1 (Nat.le_trans hf0_s1.2.2 (by decide)))
        first | rw [← hq_f1] at hR hc_f1 | (unfold lawJoined at hR; rw [← hq_f1] at hR hc_f1)
        refine rvc_open rfl rfl rfl (rexec_call hP C rfl rfl rfl hc_f1 ?_)
        refine rvO C (sS (some a.nil) eSeen a.D) ?_
        refine rvO C (.agg [.pv (.lit (.int .u8 (k 0))), .pv (.lit (.int .u8 (k 1))), .pv (.lit (.int .u8 (k 2))), .pv (.lit (.int .u8 (k 3))), .pv (.lit (.int .u8 (k 4))), .pv (.lit (.int .u8 (k 5))), .pv (.lit (.int .u8 (k 6))), .pv (.lit (.int .u8 (k 7)))]) ?_
        obtain ⟨f2, hq_f2⟩ : ∃ q_, q_ = (pFloor a k) := ⟨_, rfl⟩
        have hc_f2 := (pFloor_calls a k ha (by show a.D.length ≤ 1000000; have := of_decide_eq_false h1; have := of_decide_eq_false h2; have := eq_of_bne_false h3; have := eq_of_bne_false h5; have := beq_iff_eq.1 h8; omega))
        first | rw [← hq_f2] at hR hc_f2 | (unfold lawJoined at hR; rw [← hq_f2] at hR hc_f2)
        refine rvc_open rfl rfl rfl (rexec_call hP C rfl rfl rfl hc_f2 ?_)
        refine rvO C (sS (some b.nil) eSeen b.D) ?_
        refine rvO C (.agg [.pv (.lit (.int .u8 (k 0))), .pv (.lit (.int .u8 (k 1))), .pv (.lit (.int .u8 (k 2))), .pv (.lit (.int .u8 (k 3))), .pv (.lit (.int .u8 (k 4))), .pv (.lit (.int .u8 (k 5))), .pv (.lit (.int .u8 (k 6))), .pv (.lit (.int .u8 (k 7)))]) ?_
        obtain ⟨f3, hq_f3⟩ : ∃ q_, q_ = (pFloor b k) := ⟨_, rfl⟩
        have hc_f3 := (pFloor_calls b k hb (by show b.D.length ≤ 1000000; have := of_decide_eq_false h1; have := of_decide_eq_false h2; have := eq_of_bne_false h3; have := eq_of_bne_false h5; have := beq_iff_eq.1 h8; omega))
        first | rw [← hq_f3] at hR hc_f3 | (unfold lawJoined at hR; rw [← hq_f3] at hR hc_f3)
        refine rvc_open rfl rfl rfl (rexec_call hP C rfl rfl rfl hc_f3 ?_)
        refine rvc_open rfl rfl rfl (rexec_max C rfl rfl rfl ?_)
        refine rvO C (.pv (.lit (.bool (f1 == (bif (decide (f2 < f3)) then f3 else f2))))) ?_
        refine rvP C (.pv (.lit (.bool (f1 == (bif (decide (f2 < f3)) then f3 else f2))))) ?_
        refine rvP C (.pv (.lit (.bool (f1 == (bif (decide (f2 < f3)) then f3 else f2))))) ?_
        refine rvc_case 79 (f1 == (bif (decide (f2 < f3)) then f3 else f2)) rfl (fun h10 => ?_) (fun h10 => ?_)
        ·
         replace hR := of_true h10 hR
         refine rvc_open rfl rfl rfl (rexec_call hP C rfl rfl rfl (awake_calls ) ?_)
         refine rvP C (.pv (.lit (.bool (awake )))) ?_
         refine rvP C (.pv (.lit (.bool (awake )))) ?_
         refine rvc_nil ?_
         refine Awp.ret ?_
         subst hR
         exact ⟨.inl rfl, rfl⟩
        ·
         replace hR := of_false h10 hR
         refine rvS ?_
         refine rvP C (.pv (.lit (.bool false))) ?_
         refine rvP C (.pv (.lit (.bool false))) ?_
         refine rvc_nil ?_
         refine Awp.ret ?_
         subst hR
         exact ⟨.inl rfl, rfl⟩
       ·
        replace hR := of_false h9 hR
        refine rvS ?_
        refine rvS ?_
        refine rvS ?_
        refine rvS ?_
        refine rvS ?_
        refine rvS ?_
        refine rvS ?_
        refine rvS ?_
        refine rvS ?_
        refine rvS ?_
        refine rvS ?_
        refine rvP C (.pv (.lit (.bool false))) ?_
        refine rvP C (.pv (.lit (.bool false))) ?_
        refine rvS ?_
        refine rvP C (.pv (.lit (.bool false))) ?_
        refine rvP C (.pv (.lit (.bool false))) ?_
        refine rvc_nil ?_
        refine Awp.ret ?_
        subst hR
        exact ⟨.inl rfl, rfl⟩
      ·
       replace hR := of_false h8 hR
       refine rvS ?_
       refine rvS ?_
       refine rvS ?_
       refine rvP C (.pv (.lit (.bool false))) ?_
       refine rvP C (.pv (.lit (.bool false))) ?_
       refine rvS ?_
       refine rvS ?_
       refine rvS ?_
       refine rvS ?_
       refine rvS ?_
       refine rvS ?_
       refine rvS ?_
       refine rvS ?_
       refine rvS ?_
       refine rvS ?_
       refine rvS ?_
       refine rvP C (.pv (.lit (.bool false))) ?_
       refine rvP C (.pv (.lit (.bool false))) ?_
       refine rvS ?_
       refine rvP C (.pv (.lit (.bool false))) ?_
       refine rvP C (.pv (.lit (.bool false))) ?_
       refine rvc_nil ?_
       refine Awp.ret ?_
       subst hR
       exact ⟨.inl rfl, rfl⟩
     ·
      replace hR := of_false h7 hR
      refine rvS ?_
      refine rvS ?_
      refine rvP C (.pv (.lit (.bool false))) ?_
      refine rvP C (.pv (.lit (.bool false))) ?_
      refine rvS ?_
      refine rvS ?_
      refine rvS ?_
      refine rvP C (.pv (.lit (.bool false))) ?_
      refine rvP C (.pv (.lit (.bool false))) ?_
      refine rvS ?_
      refine rvS ?_
      refine rvS ?_
      refine rvS ?_
      refine rvS ?_
      refine rvS ?_
      refine rvS ?_
      refine rvS ?_
      refine rvS ?_
      refine rvS ?_
      refine rvS ?_
      refine rvP C (.pv (.lit (.bool false))) ?_
      refine rvP C (.pv (.lit (.bool false))) ?_
      refine rvS ?_
      refine rvP C (.pv (.lit (.bool false))) ?_
      refine rvP C (.pv (.lit (.bool false))) ?_
      refine rvc_nil ?_
      refine Awp.ret ?_
      subst hR
      exact ⟨.inl rfl, rfl⟩
end Go.Proofs.YthnghkkbnhjlgaaDoor
/- Inputs of chapter 10, as plain values. No conditions. -/
namespace Go.Proofs.YthnghkkbnhjlgaaDoor
open Go.Am
set_option maxRecDepth 100000 in
theorem flat5 {m : Nat} {ps : List PV} (h : FlatA Tryd.prog (m + 1) 5 ps) : ∃ n, ps = [.lit (.int .u8 n)] ∧ (Lit.int .u8 n).wf = true := by
  unfold FlatA at h
  rw [Tryd.underlying5] at h
  exact h
def WT30 (f : Nat → Int) : Prop := ∀ j, j < 8 → (Lit.int .u8 (f j)).wf = true
set_option maxRecDepth 100000 in
theorem flat30 {m : Nat} {ps : List PV} (h : FlatA Tryd.prog (m + 2) 30 ps) : ∃ f : Nat → Int, ps = [.lit (.int .u8 (f 0)), .lit (.int .u8 (f 1)), .lit (.int .u8 (f 2)), .lit (.int .u8 (f 3)), .lit (.int .u8 (f 4)), .lit (.int .u8 (f 5)), .lit (.int .u8 (f 6)), .lit (.int .u8 (f 7))] ∧ WT30 f := by
  unfold FlatA at h
  rw [Tryd.underlying30] at h
  obtain ⟨D, rfl, h1, h2⟩ := h
  obtain ⟨a0, a1, a2, a3, a4, a5, a6, a7, rfl⟩ := len8 h1
  obtain ⟨x0, rfl, w0⟩ := flat5 (m := m) (h2 a0 (by simp))
  obtain ⟨x1, rfl, w1⟩ := flat5 (m := m) (h2 a1 (by simp))
  obtain ⟨x2, rfl, w2⟩ := flat5 (m := m) (h2 a2 (by simp))
  obtain ⟨x3, rfl, w3⟩ := flat5 (m := m) (h2 a3 (by simp))
  obtain ⟨x4, rfl, w4⟩ := flat5 (m := m) (h2 a4 (by simp))
  obtain ⟨x5, rfl, w5⟩ := flat5 (m := m) (h2 a5 (by simp))
  obtain ⟨x6, rfl, w6⟩ := flat5 (m := m) (h2 a6 (by simp))
  obtain ⟨x7, rfl, w7⟩ := flat5 (m := m) (h2 a7 (by simp))
  refine ⟨ofL [x0, x1, x2, x3, x4, x5, x6, x7], rfl, fun j hj => ?_⟩
  rcases (by omega : j = 0 ∨ j = 1 ∨ j = 2 ∨ j = 3 ∨ j = 4 ∨ j = 5 ∨ j = 6 ∨ j = 7) with rfl | rfl | rfl | rfl | rfl | rfl | rfl | rfl
  · exact w0
  · exact w1
  · exact w2
  · exact w3
  · exact w4
  · exact w5
  · exact w6
  · exact w7
set_option maxRecDepth 100000 in
theorem flat3 {m : Nat} {ps : List PV} (h : FlatA Tryd.prog (m + 1) 3 ps) : ∃ n, ps = [.lit (.int .i64 n)] ∧ (Lit.int .i64 n).wf = true := by
  unfold FlatA at h
  rw [Tryd.underlying3] at h
  exact h
def WT32 (x : Seen) : Prop := WT30 x.key ∧ (Lit.int .i64 x.ver).wf = true
set_option maxRecDepth 100000 in
theorem flat32 {m : Nat} {ps : List PV} (h : FlatA Tryd.prog (m + 3) 32 ps) : ∃ x : Seen, ps = eSeen.enc x ∧ WT32 x := by
  unfold FlatA at h
  rw [Tryd.underlying32] at h
  obtain ⟨a0, b0, e0, h0, a1, b1, e1, h1, el⟩ := h
  obtain ⟨x0, rfl, w0⟩ := flat30 (m := m + 0) h0
  obtain ⟨x1, rfl, w1⟩ := flat3 (m := m + 1) h1
  subst el
  subst e1
  subst e0
  exact ⟨⟨x0, x1⟩, rfl, w0, w1⟩
def WT22 (s : Sl Seen) : Prop := s.D.length ≤ maxLen ∧ (s.nil = true → s.D = []) ∧ ∀ x ∈ s.D, WT32 x
set_option maxRecDepth 100000 in
theorem flat22 {m : Nat} {ps : List PV} (h : FlatA Tryd.prog (m + 4) 22 ps) : ∃ s : Sl Seen, ps = [.sl (some s.nil) s.D.length (encL eSeen s.D)] ∧ WT22 s := by
  unfold FlatA at h
  rw [Tryd.underlying22] at h
  obtain ⟨b, D, rfl, h1, h2, h3⟩ := h
  obtain ⟨D2, e1, e2, e3⟩ := enc_list (e := eSeen) (W := fun x => WT32 x) D fun y hy => flat32 (h3 y hy)
  rw [e2, ← e1]
  exact ⟨⟨b, D2⟩, rfl, (by show D2.length ≤ _; rw [e1]; exact h1), (fun hb => by have := h2 hb; rw [this] at e1; exact List.eq_nil_of_length_eq_zero e1), e3⟩
def WT27 (s : Sl Int) : Prop := s.D.length ≤ maxLen ∧ (s.nil = true → s.D = []) ∧ ∀ x ∈ s.D, (Lit.int .u8 x).wf = true
end Go.Proofs.YthnghkkbnhjlgaaDoor
/- The inputs of chapter 10's laws. No conditions. -/
namespace Go.Proofs.YthnghkkbnhjlgaaDoor
open Go.Am
theorem wf8 {n : Int} (h : (Lit.int .u8 n).wf = true) : 0 ≤ n ∧ n < 256 := by
  have h' : (decide (IntKind.u8.min ≤ n) && decide (n ≤ IntKind.u8.max)) = true := h
  simp only [Bool.and_eq_true, decide_eq_true_eq] at h'
  have e1 : IntKind.u8.min = 0 := rfl
  have e2 : IntKind.u8.max = 255 := rfl
  omega
theorem R8.arr {f : Nat → Int} {n : Nat} (h1 : ∀ i, i < n → (Lit.int .u8 (f i)).wf = true) (h2 : ∀ i, ¬ i < n → f i = 0) (t : Nat) : R8 (f t) := by
  by_cases h : t < n
  · exact wf8 (h1 t h)
  · rw [h2 t h]; exact ⟨by decide, by decide⟩
theorem WT22.kb {l : Sl Seen} (h : WT22 l) : KB l.D := fun x hx j hj => wf8 ((h.2.2 x hx).1 j hj)
theorem WT27.b8 {b : Sl Int} (h : WT27 b) : B8 b.D := fun x hx => wf8 (h.2.2 x hx)
theorem big_le {n : Nat} (h : n ≤ maxLen) : n ≤ 9223372036854775807 := Nat.le_trans h (by decide)
theorem max_bif (a b : Int) : (bif decide (a < b) then b else a) = max a b := by
  cases e : decide (a < b)
  · have := of_decide_eq_false e; rw [cond_false]; omega
  · have := of_decide_eq_true e; rw [cond_true]; omega
end Go.Proofs.YthnghkkbnhjlgaaDoor
/- PassJoined: the law answers true. No conditions. -/
namespace Go.Proofs.YthnghkkbnhjlgaaDoor
open Go.Am
theorem lawJoined_true {a b : Sl Seen} {k : Nat → Int} (wa : WT22 a) (wb : WT22 b) (hk : KeyB k) : lawJoined a b k = true := by
  unfold lawJoined
  rw [awake_true]
  cases e1 : decide ((a.D.length : Int) > 1000)
  · cases e2 : decide ((b.D.length : Int) > 1000)
    · have h1 := of_decide_eq_false e1
      have h2 := of_decide_eq_false e2
      have sx := pJoin_spec wa.kb wb.kb wa.2.1 (by omega) (by omega)
      have sy := pJoin_spec wb.kb wa.kb wb.2.1 (by omega) (by omega)
      have ox := pJoin_ok wa.kb wb.kb wa.2.1 (by omega)
      rw [cond_false, cond_false]
      by_cases hb : pRight b = 0
      · by_cases ha : pRight a = 0
        · have ra := ((pRight_zero wa.kb (by omega)).1 ha).2
          have rb := ((pRight_zero wb.kb (by omega)).1 hb).2
          have hcomm := joinS_comm wa.kb wb.kb ra rb
          have hlen := len_rd hcomm
          rcases Nat.lt_or_ge 6 (joinS a.D b.D).length with h7 | h7
          · rw [sx.full hb ha h7, sy.full ha hb (by omega)]; rfl
          · obtain ⟨x1, x2⟩ := sx.good hb ha h7
            obtain ⟨y1, y2⟩ := sy.good ha hb (by omega)
            have hj := joinS_ok ra wa.kb wb.kb rb
            have hpx : pRight (pJoin a b).1 = 0 := by
              refine (pRight_zero ox.1 (by omega)).2 ⟨by rw [len_rd x2]; exact h7, ?_⟩
              rw [rt_rd none x2]; exact hj.1
            have sz := pJoin_spec ox.1 wb.kb ox.2.1 ox.2.2 (by omega)
            have hz : (joinS (pJoin a b).1.D b.D).map rd = (joinS a.D b.D).map rd := (joinS_rd (b := b.D) x2).trans (joinS_idem wa.kb wb.kb ra rb)
            obtain ⟨z1, z2⟩ := sz.good hb hpx (by rw [len_rd hz]; exact h7)
            have f1 : pFloor (pJoin a b).1 k = max (flr (kL k) a.D) (flr (kL k) b.D) := by
              rw [pFloor_eq ox.1 hk (by omega), if_pos hpx, flr_rd x2, flr_joinS ra rb]
            have f2 : pFloor a k = flr (kL k) a.D := by rw [pFloor_eq wa.kb hk (by omega), if_pos ha]
            have f3 : pFloor b k = flr (kL k) b.D := by rw [pFloor_eq wb.kb hk (by omega), if_pos hb]
            rw [x1, y1, z1, eqSeen_eq, eqSeen_eq, decide_eq_true (x2.trans (hcomm.trans y2.symm)), decide_eq_true (x2.trans (hz.symm.trans z2.symm)), f1, f2, f3, max_bif]; simp
        · rw [sx.badA hb ha, sy.badB ha]
          have : (pRight a != 0) = true := by simpa using ha
          show (bif (pRight a != 0) then (bif ((pRight a == 0) == (pRight a == 0)) then true else false) else _) = true
          rw [this, beq_self_eq_true]; rfl
      · rw [sx.badB hb]
        have hb1 : (pRight b != 0) = true := by simpa using hb
        have hb2 : (pRight b == 0) = false := by simpa using hb
        have hy : ((pJoin b a).2 == 0) = false := by
          by_cases ha : pRight a = 0
          · rw [sy.badA ha hb]; exact hb2
          · rw [sy.badB ha]; simpa using ha
        show (bif (pRight b != 0) then (bif ((pRight b == 0) == ((pJoin b a).2 == 0)) then true else false) else _) = true
        rw [hb1, hb2, hy]; rfl
    · rfl
  · rfl
theorem passJoined_calls (a : Sl Seen) (wa : WT22 a) (b : Sl Seen) (wb : WT22 b) (k : Nat → Int) (hk : ∀ t, R8 (k t)) : PCalls Tryd.prog 10 [sS (some a.nil) eSeen a.D, sS (some b.nil) eSeen b.D, .agg (cI .u8 (tb 8 k))] (.pv (.lit (.bool true))) := by
  have h := lawJoined_calls a b k wa.kb wb.kb wa.2.1 wb.2.1 (big_le wb.1) (big_le wa.1)
  rw [lawJoined_true wa wb (fun j _ => hk j)] at h
  exact h
end Go.Proofs.YthnghkkbnhjlgaaDoor
/- What all rows of this seat need: no knob is turned, the types are laid out. No conditions. -/
namespace Go.Proofs.YthnghkkbnhjlgaaDoor
open Go.Am
theorem own : ownKnob Tryd.prog.godebug = none := by kernel_rfl
theorem laidOut : laidOutB Tryd.prog = true := by kernel_rfl
end Go.Proofs.YthnghkkbnhjlgaaDoor
