import Derived.Test.YtaoagcdljmpllaaM1
import Derived.Test.YtaoagcdljmpllaaM2
import Derived.Test.YtaoagcdljmpllaaM4
/- Sorting by insertion, in place; two ranges exchanged. No conditions. -/
namespace Go.Proofs.Ytaoagcdljmpllaa
open Go.Am
variable {P_ : Int → Prop}
def insSort_l1 (a : Int) (cmp : Int → Int → Int) (kk : Int → (List Int) → List Int) : Nat → Int → (List Int) → List Int
  | 0, _, _ => default
  | nn + 1, j, vc1 => (bif (decide (j > a)) then (bif (decide ((cmp (vc1[j.toNat]!) (vc1[(IntKind.i64.wrap (j - 1)).toNat]!)) < 0)) then insSort_l1 a cmp kk nn (IntKind.i64.wrap (j - 1)) ((vc1.set j.toNat (vc1[(IntKind.i64.wrap (j - 1)).toNat]!)).set ((IntKind.i64.wrap (j - 1)).toNat) (vc1[j.toNat]!)) else kk j vc1) else kk j vc1)
def insSort_l0 (a : Int) (b : Int) (cmp : Int → Int → Int) : Nat → Int → (List Int) → List Int
  | 0, _, _ => default
  | nn + 1, i, vc => (bif (decide (i < b)) then insSort_l1 a cmp (fun _ vc1 => insSort_l0 a b cmp nn (IntKind.i64.wrap (i + 1)) vc1) ((i - a).toNat + 1) i vc else vc)
def insSort (data : List Int) (a : Int) (b : Int) (cmp : Int → Int → Int) : List Int :=
  insSort_l0 a b cmp ((b - (IntKind.i64.wrap (a + 1))).toNat + 1) (IntKind.i64.wrap (a + 1)) data
theorem insSort_calls (data : List Int) (a : Int) (b : Int) (cmp : Int → Int → Int) (g3 : Nat) (caps3 : List AV) (hp3 : ∀ (x0 : Int) (x1 : Int), P_ x0 → P_ x1 → PCalls Try.prog g3 ([.pv (.lit (.int .i64 x0)), .pv (.lit (.int .i64 x1))] ++ caps3) (.pv (.lit (.int .i64 (cmp x0 x1))))) (hw3 : AV.withinL (fun _ => false) caps3 = true) (hab : 0 ≤ a ∧ a ≤ b ∧ b ≤ (data.length : Int)) (hL : data.length ≤ 1000000) (hs : ∀ x ∈ data, P_ x) : MCalls Try.prog 62 [.sl 0 0 data.length 1 false, .pv (.lit (.int .i64 a)), .pv (.lit (.int .i64 b)), .fn g3 [] caps3] (.cells (encC (eI .i64) data)) (.tup []) (.cells (encC (eI .i64) (insSort data a b cmp))) := by
 generalize hR : insSort data a b cmp = R
 refine MCalls.of_body tabOk Try.func62 rfl rfl rfl (by simp [AV.withinL, AV.within, withinL0 hw3]) rfl (encC_within _ _) (encC_within _ _) mixed fun E hP C hI => ?_
 refine Awp.consP C ?_
 refine rvP C (.pv (.lit (.int .i64 a))) ?_
 refine rvP C (.pv (.lit (.int .i64 (IntKind.i64.wrap (a + 1))))) ?_
 refine rvP C (.pv (.lit (.int .i64 (IntKind.i64.wrap (a + 1))))) ?_
 refine rvc_nil ?_
 refine Awp.block ?_
 refine Awp.forM (σ := Int × ((List Int))) (fun v => [(0, .sl 0 0 data.length 1 false), (1, .pv (.lit (.int .i64 a))), (2, .pv (.lit (.int .i64 b))), (3, .fn g3 [] caps3), (8, .pv (.lit (.int .i64 v.1)))]) (fun v => [(0, .cells (encC (eI .i64) v.2))]) [0] (fun n v => n = (b - v.1).toNat ∧ insSort_l0 a b cmp ((b - v.1).toNat + 1) v.1 v.2 = R ∧ (a + 1 ≤ v.1 ∧ v.2.length = data.length ∧ ∀ x ∈ v.2, P_ x)) ((b - (IntKind.i64.wrap (a + 1))).toNat) ((IntKind.i64.wrap (a + 1)), data) ?_ ?_ (fun _ v h1 => ?_)
 · exact ⟨rfl, hR, ⟨(by show a + 1 ≤ IntKind.i64.wrap (a + 1); have := wrapI (a + 1); omega), rfl, hs⟩⟩
 · exact ⟨fun b => b, WeakerR.ofLI (I := [0]) (Ks := [0]) hI ⟨⟨rfl, rfl⟩, ⟨rfl, rfl⟩, ⟨rfl, rfl⟩, ⟨fn_to rfl hw3, fn_win hw3⟩, ⟨rfl, rfl⟩, trivial⟩ (okH_list rfl rfl rfl (okH_nil)) rfl rfl⟩
 obtain ⟨i, vc⟩ := v
 obtain ⟨rfl, hR, ⟨hVa, hVn, hVs⟩⟩ := h1
 replace hVa : a + 1 ≤ i := hVa
 replace hVn : vc.length = data.length := hVn
 replace hVs : ∀ x ∈ vc, P_ x := hVs
 refine Awp.seq ?_
 refine Awp.consP C ?_
 refine rvP C (.pv (.lit (.int .i64 i))) ?_
 refine rvP C (.pv (.lit (.int .i64 b))) ?_
 refine rvP C (.pv (.lit (.bool (decide (i < b))))) ?_
 refine rvc_nil ?_
 refine Awp.cond (b := (decide (i < b))) rfl (fun h3 => ?_) (fun h3 => ?_)
 ·
  replace hR := of_true h3 hR
  refine Awp.skip ?_
  refine Awp.seq ?_
  refine Awp.block ?_
  refine Awp.consP C ?_
  refine rvP C (.pv (.lit (.int .i64 i))) ?_
  refine rvP C (.pv (.lit (.int .i64 i))) ?_
  refine rvc_nil ?_
  refine Awp.block ?_
  refine Awp.forM (σ := Int × ((List Int))) (fun v => [(0, .sl 0 0 data.length 1 false), (1, .pv (.lit (.int .i64 a))), (2, .pv (.lit (.int .i64 b))), (3, .fn g3 [] caps3), (8, .pv (.lit (.int .i64 i))), (9, .pv (.lit (.int .i64 v.1)))]) (fun v => [(0, .cells (encC (eI .i64) v.2))]) [0] (fun n v => n = (v.1 - a).toNat ∧ insSort_l1 a cmp (fun _ vc1 => insSort_l0 a b cmp ((b - i).toNat) (IntKind.i64.wrap (i + 1)) vc1) ((v.1 - a).toNat + 1) v.1 v.2 = R ∧ ((a ≤ v.1 ∧ v.1 < (data.length : Int)) ∧ v.2.length = data.length ∧ ∀ x ∈ v.2, P_ x)) ((i - a).toNat) (i, vc) ?_ ?_ (fun _ v h4 => ?_)
  · exact ⟨rfl, hR, ⟨(by have := of_decide_eq_true ‹decide (i < b) = true›; dsimp only; omega), hVn, hVs⟩⟩
  · exact ⟨fun b => b, WeakerR.ofLI (I := [0]) (Ks := [0]) hI ⟨⟨rfl, rfl⟩, ⟨rfl, rfl⟩, ⟨rfl, rfl⟩, ⟨fn_to rfl hw3, fn_win hw3⟩, ⟨rfl, rfl⟩, ⟨rfl, rfl⟩, trivial⟩ (okH_list rfl rfl rfl (okH_nil)) rfl rfl⟩
  obtain ⟨j, vc1⟩ := v
  obtain ⟨rfl, hR, ⟨hWa, hWn, hWs⟩⟩ := h4
  replace hWa : a ≤ j ∧ j < (data.length : Int) := hWa
  replace hWn : vc1.length = data.length := hWn
  replace hWs : ∀ x ∈ vc1, P_ x := hWs
  refine Awp.seq ?_
  refine Awp.consP C ?_
  refine rvP C (.pv (.lit (.int .i64 j))) ?_
  refine rvP C (.pv (.lit (.int .i64 a))) ?_
  refine rvP C (.pv (.lit (.bool (decide (j > a))))) ?_
  refine rvP C (.pv (.lit (.bool (decide (j > a))))) ?_
  refine rvc_case 21 (decide (j > a)) rfl (fun h6 => ?_) (fun h6 => ?_)
  ·
   replace hR := of_true h6 hR
   refine rvO C (.fn g3 [] caps3) ?_
   refine rvO C (.sl 0 0 data.length 1 false) ?_
   refine rvO C (.pv (.lit (.int .i64 j))) ?_
   have h7 : vc1[j.toNat]? = some vc1[j.toNat]! := getE (by omega)
   refine rvc_open rfl rfl rfl (rexec_prim C (δ := { v := .ptr 0 (0 + j.toNat * 1) }) rfl rfl rfl rfl ⟨(by omega), (by omega)⟩ rfl ?_)
   refine rvc_open rfl rfl rfl (rexec_loadE C (e := (eI .i64)) j.toNat 0 (vc1[j.toNat]!) (.pv (.lit (.int .i64 (vc1[j.toNat]!)))) rfl rfl rfl rfl h7 (by simp [eI]) (by decide) (by decide) rfl ?_)
   refine rvO C (.sl 0 0 data.length 1 false) ?_
   refine rvO C (.pv (.lit (.int .i64 j))) ?_
   refine rvO C (.pv (.lit (.int .i64 (IntKind.i64.wrap (j - 1))))) ?_
   have h8 : vc1[(IntKind.i64.wrap (j - 1)).toNat]? = some vc1[(IntKind.i64.wrap (j - 1)).toNat]! := getE (by have := wrapI (j - 1); have := of_decide_eq_true ‹decide (j > a) = true›; omega)
   refine rvc_open rfl rfl rfl (rexec_prim C (δ := { v := .ptr 0 (0 + (IntKind.i64.wrap (j - 1)).toNat * 1) }) rfl rfl rfl rfl ⟨(by have := wrapI (j - 1); have := of_decide_eq_true ‹decide (j > a) = true›; omega), (by have := wrapI (j - 1); have := of_decide_eq_true ‹decide (j > a) = true›; omega)⟩ rfl ?_)
   refine rvc_open rfl rfl rfl (rexec_loadE C (e := (eI .i64)) ((IntKind.i64.wrap (j - 1)).toNat) 0 (vc1[(IntKind.i64.wrap (j - 1)).toNat]!) (.pv (.lit (.int .i64 (vc1[(IntKind.i64.wrap (j - 1)).toNat]!)))) rfl rfl rfl rfl h8 (by simp [eI]) (by decide) (by decide) rfl ?_)
   refine rvc_open rfl rfl rfl (rexec_callV hP C rfl rfl rfl rfl (hp3 (vc1[j.toNat]!) (vc1[(IntKind.i64.wrap (j - 1)).toNat]!) (hWs _ (at_mem (by omega))) (hWs _ (at_mem (by have := wrapI (j - 1); have := of_decide_eq_true ‹decide (j > a) = true›; omega)))) rfl ?_)
   refine rvO C (.pv (.lit (.bool (decide ((cmp (vc1[j.toNat]!) (vc1[(IntKind.i64.wrap (j - 1)).toNat]!)) < 0))))) ?_
   refine rvP C (.pv (.lit (.bool (decide ((cmp (vc1[j.toNat]!) (vc1[(IntKind.i64.wrap (j - 1)).toNat]!)) < 0))))) ?_
   refine rvc_nil ?_
   refine Awp.cond (b := (decide ((cmp (vc1[j.toNat]!) (vc1[(IntKind.i64.wrap (j - 1)).toNat]!)) < 0))) rfl (fun h9 => ?_) (fun h9 => ?_)
   ·
    replace hR := of_true h9 hR
    refine Awp.skip ?_
    refine Awp.seq ?_
    refine Awp.block ?_
    refine Awp.regionP C ?_
    refine rvP C (.sl 0 0 data.length 1 false) ?_
    refine rvP C (.pv (.lit (.int .i64 j))) ?_
    refine rvP C (.sl 0 0 data.length 1 false) ?_
    refine rvP C (.pv (.lit (.int .i64 j))) ?_
    refine rvP C (.pv (.lit (.int .i64 (IntKind.i64.wrap (j - 1))))) ?_
    refine rvP C (.sl 0 0 data.length 1 false) ?_
    refine rvP C (.pv (.lit (.int .i64 j))) ?_
    refine rvP C (.pv (.lit (.int .i64 (IntKind.i64.wrap (j - 1))))) ?_
    refine rvc_un (rexec_prim C (δ := { v := .ptr 0 (0 + (IntKind.i64.wrap (j - 1)).toNat * 1) }) rfl rfl rfl rfl ⟨(by have := wrapI (j - 1); have := of_decide_eq_true ‹decide (j > a) = true›; omega), (by have := wrapI (j - 1); have := of_decide_eq_true ‹decide (j > a) = true›; omega)⟩ rfl ?_)
    refine rvc_un (rexec_loadE C (e := (eI .i64)) ((IntKind.i64.wrap (j - 1)).toNat) 0 (vc1[(IntKind.i64.wrap (j - 1)).toNat]!) (.pv (.lit (.int .i64 (vc1[(IntKind.i64.wrap (j - 1)).toNat]!)))) rfl rfl rfl rfl h8 (by simp [eI]) (by decide) (by decide) rfl ?_)
    refine rvP C (.sl 0 0 data.length 1 false) ?_
    refine rvP C (.pv (.lit (.int .i64 j))) ?_
    refine rvc_un (rexec_prim C (δ := { v := .ptr 0 (0 + j.toNat * 1) }) rfl rfl rfl rfl ⟨(by omega), (by omega)⟩ rfl ?_)
    refine rvc_un (rexec_loadE C (e := (eI .i64)) j.toNat 0 (vc1[j.toNat]!) (.pv (.lit (.int .i64 (vc1[j.toNat]!)))) rfl rfl rfl rfl h7 (by simp [eI]) (by decide) (by decide) rfl ?_)
    refine rvc_un (rexec_prim C (δ := { v := .ptr 0 (0 + j.toNat * 1) }) rfl rfl rfl rfl ⟨(by omega), (by omega)⟩ rfl ?_)
    refine rvc_un (rexec_storeE C (e := (eI .i64)) j.toNat 0 (vc1[j.toNat]!) (vc1[(IntKind.i64.wrap (j - 1)).toNat]!) rfl rfl rfl rfl h7 (by simp [eI]) rfl rfl rfl (of_decide_eq_true rfl) rfl ?_)
    have h10 : (vc1.set j.toNat (vc1[(IntKind.i64.wrap (j - 1)).toNat]!))[(IntKind.i64.wrap (j - 1)).toNat]? = some (vc1.set j.toNat (vc1[(IntKind.i64.wrap (j - 1)).toNat]!))[(IntKind.i64.wrap (j - 1)).toNat]! := getE (by rw [List.length_set]; have := wrapI (j - 1); have := of_decide_eq_true ‹decide (j > a) = true›; omega)
    refine rvc_un (rexec_prim C (δ := { v := .ptr 0 (0 + (IntKind.i64.wrap (j - 1)).toNat * 1) }) rfl rfl rfl rfl ⟨(by have := wrapI (j - 1); have := of_decide_eq_true ‹decide (j > a) = true›; omega), (by have := wrapI (j - 1); have := of_decide_eq_true ‹decide (j > a) = true›; omega)⟩ rfl ?_)
    refine rvc_un (rexec_storeE C (e := (eI .i64)) ((IntKind.i64.wrap (j - 1)).toNat) 0 ((vc1.set j.toNat (vc1[(IntKind.i64.wrap (j - 1)).toNat]!))[(IntKind.i64.wrap (j - 1)).toNat]!) (vc1[j.toNat]!) rfl rfl rfl rfl h10 (by simp [eI]) rfl rfl rfl (of_decide_eq_true rfl) rfl ?_)
    refine rvc_nil ?_
    refine Awp.regionP C ?_
    refine rvP C (.pv (.lit (.int .i64 j))) ?_
    refine rvP C (.pv (.lit (.int .i64 (IntKind.i64.wrap (j - 1))))) ?_
    refine rvP C (.pv (.lit (.int .i64 (IntKind.i64.wrap (j - 1))))) ?_
    refine rvc_nil ?_
    refine ⟨_, ((IntKind.i64.wrap (j - 1)), ((vc1.set j.toNat (vc1[(IntKind.i64.wrap (j - 1)).toNat]!)).set ((IntKind.i64.wrap (j - 1)).toNat) (vc1[j.toNat]!))), ?_, ⟨rfl, (by rw [show (((IntKind.i64.wrap (j - 1)) - a).toNat) + 1 = ((j - a).toNat) by (have := wrapI (j - 1); have := of_decide_eq_true ‹decide (j > a) = true›; omega)]; exact hR), ⟨(by dsimp only; have := wrapI (j - 1); have := of_decide_eq_true ‹decide (j > a) = true›; omega), (by simpa using hWn), (swap_mem hWs (at_mem (by have := wrapI (j - 1); have := of_decide_eq_true ‹decide (j > a) = true›; omega)) (at_mem (by omega)))⟩⟩, ?_⟩
    · show ((IntKind.i64.wrap (j - 1)) - a).toNat < (j - a).toNat; (have := wrapI (j - 1); have := of_decide_eq_true ‹decide (j > a) = true›; omega)
    · exact ⟨fun b => b, WeakerR.ofLI (I := [0]) (Ks := [0]) hI ⟨⟨rfl, rfl⟩, ⟨rfl, rfl⟩, ⟨rfl, rfl⟩, ⟨fn_to rfl hw3, fn_win hw3⟩, ⟨rfl, rfl⟩, ⟨rfl, rfl⟩, trivial⟩ (okH_list rfl rfl rfl (okH_nil)) rfl rfl⟩
   ·
    replace hR := of_false h9 hR
    refine Awp.exit ?_
    refine Awp.regionP C ?_
    refine rvP C (.pv (.lit (.int .i64 i))) ?_
    refine rvP C (.pv (.lit (.int .i64 (IntKind.i64.wrap (i + 1))))) ?_
    refine rvP C (.pv (.lit (.int .i64 (IntKind.i64.wrap (i + 1))))) ?_
    refine rvc_nil ?_
    refine ⟨_, ((IntKind.i64.wrap (i + 1)), vc1), ?_, ⟨rfl, (by rw [show ((b - (IntKind.i64.wrap (i + 1))).toNat) + 1 = ((b - i).toNat) by (have := wrapI (i + 1); have := of_decide_eq_true ‹decide (i < b) = true›; omega)]; exact hR), ⟨(by dsimp only; have := wrapI (i + 1); have := of_decide_eq_true ‹decide (i < b) = true›; omega), hWn, hWs⟩⟩, ?_⟩
    · show (b - (IntKind.i64.wrap (i + 1))).toNat < (b - i).toNat; (have := wrapI (i + 1); have := of_decide_eq_true ‹decide (i < b) = true›; omega)
    · exact ⟨fun b => b, WeakerR.ofLI (I := [0]) (Ks := [0]) hI ⟨⟨rfl, rfl⟩, ⟨rfl, rfl⟩, ⟨rfl, rfl⟩, ⟨fn_to rfl hw3, fn_win hw3⟩, ⟨rfl, rfl⟩, trivial⟩ (okH_list rfl rfl rfl (okH_nil)) rfl rfl⟩
  ·
   replace hR := of_false h6 hR
   refine rvS ?_
   refine rvS ?_
   refine rvS ?_
   refine rvS ?_
   refine rvS ?_
   refine rvS ?_
   refine rvS ?_
   refine rvS ?_
   refine rvS ?_
   refine rvS ?_
   refine rvS ?_
   refine rvS ?_
   refine rvP C (.pv (.lit (.bool false))) ?_
   refine rvc_nil ?_
   refine Awp.condF (b := false) rfl rfl ?_
   refine Awp.exit ?_
   refine Awp.regionP C ?_
   refine rvP C (.pv (.lit (.int .i64 i))) ?_
   refine rvP C (.pv (.lit (.int .i64 (IntKind.i64.wrap (i + 1))))) ?_
   refine rvP C (.pv (.lit (.int .i64 (IntKind.i64.wrap (i + 1))))) ?_
   refine rvc_nil ?_
   refine ⟨_, ((IntKind.i64.wrap (i + 1)), vc1), ?_, ⟨rfl, (by rw [show ((b - (IntKind.i64.wrap (i + 1))).toNat) + 1 = ((b - i).toNat) by (have := wrapI (i + 1); have := of_decide_eq_true ‹decide (i < b) = true›; omega)]; exact hR), ⟨(by dsimp only; have := wrapI (i + 1); have := of_decide_eq_true ‹decide (i < b) = true›; omega), hWn, hWs⟩⟩, ?_⟩
   · show (b - (IntKind.i64.wrap (i + 1))).toNat < (b - i).toNat; (have := wrapI (i + 1); have := of_decide_eq_true ‹decide (i < b) = true›; omega)
   · exact ⟨fun b => b, WeakerR.ofLI (I := [0]) (Ks := [0]) hI ⟨⟨rfl, rfl⟩, ⟨rfl, rfl⟩, ⟨rfl, rfl⟩, ⟨fn_to rfl hw3, fn_win hw3⟩, ⟨rfl, rfl⟩, trivial⟩ (okH_list rfl rfl rfl (okH_nil)) rfl rfl⟩
 ·
  replace hR := of_false h3 hR
  refine Awp.exit ?_
  subst hR
  exact ⟨.inr rfl, rfl, rfl⟩
def swapRange_l0 (a : Int) (b : Int) (n : Int) : Nat → Int → (List Int) → List Int
  | 0, _, _ => default
  | nn + 1, i, vc => (bif (decide (i < n)) then swapRange_l0 a b n nn (IntKind.i64.wrap (i + 1)) ((vc.set ((IntKind.i64.wrap (a + i)).toNat) (vc[(IntKind.i64.wrap (b + i)).toNat]!)).set ((IntKind.i64.wrap (b + i)).toNat) (vc[(IntKind.i64.wrap (a + i)).toNat]!)) else vc)
def swapRange (data : List Int) (a : Int) (b : Int) (n : Int) (_cmp : Int → Int → Int) : List Int :=
  swapRange_l0 a b n ((n - 0).toNat + 1) 0 data
theorem swapRange_calls (data : List Int) (a : Int) (b : Int) (n : Int) (cmp : Int → Int → Int) (g4 : Nat) (caps4 : List AV) (_hp4 : ∀ (x0 : Int) (x1 : Int), P_ x0 → P_ x1 → PCalls Try.prog g4 ([.pv (.lit (.int .i64 x0)), .pv (.lit (.int .i64 x1))] ++ caps4) (.pv (.lit (.int .i64 (cmp x0 x1))))) (hw4 : AV.withinL (fun _ => false) caps4 = true) (hab : 0 ≤ a ∧ 0 ≤ b ∧ a + n ≤ (data.length : Int) ∧ b + n ≤ (data.length : Int)) (hL : data.length ≤ 1000000) : MCalls Try.prog 65 [.sl 0 0 data.length 1 false, .pv (.lit (.int .i64 a)), .pv (.lit (.int .i64 b)), .pv (.lit (.int .i64 n)), .fn g4 [] caps4] (.cells (encC (eI .i64) data)) (.tup []) (.cells (encC (eI .i64) (swapRange data a b n cmp))) := by
 generalize hR : swapRange data a b n cmp = R
 refine MCalls.of_body tabOk Try.func65 rfl rfl rfl (by simp [AV.withinL, AV.within, withinL0 hw4]) rfl (encC_within _ _) (encC_within _ _) mixed fun E hP C hI => ?_
 refine Awp.consP C ?_
 refine rvP C (.pv (.lit (.int .i64 0))) ?_
 refine rvc_nil ?_
 refine Awp.block ?_
 refine Awp.forM (σ := Int × ((List Int))) (fun v => [(0, .sl 0 0 data.length 1 false), (1, .pv (.lit (.int .i64 a))), (2, .pv (.lit (.int .i64 b))), (3, .pv (.lit (.int .i64 n))), (10, .pv (.lit (.int .i64 v.1)))]) (fun v => [(0, .cells (encC (eI .i64) v.2))]) [0] (fun m__ v => m__ = (n - v.1).toNat ∧ swapRange_l0 a b n ((n - v.1).toNat + 1) v.1 v.2 = R ∧ (0 ≤ v.1 ∧ v.2.length = data.length)) ((n - 0).toNat) (0, data) ?_ ?_ (fun _ v h1 => ?_)
 · exact ⟨rfl, hR, ⟨Int.le_refl _, rfl⟩⟩
 · exact ⟨fun b => b, WeakerR.ofLI (I := [0]) (Ks := [0]) hI ⟨⟨rfl, rfl⟩, ⟨rfl, rfl⟩, ⟨rfl, rfl⟩, ⟨rfl, rfl⟩, ⟨rfl, rfl⟩, trivial⟩ (okH_list rfl rfl rfl (okH_nil)) rfl rfl⟩
 obtain ⟨i, vc⟩ := v
 obtain ⟨rfl, hR, ⟨hVa, hVn⟩⟩ := h1
 replace hVa : 0 ≤ i := hVa
 replace hVn : vc.length = data.length := hVn
 refine Awp.seq ?_
 refine Awp.consP C ?_
 refine rvP C (.pv (.lit (.int .i64 i))) ?_
 refine rvP C (.pv (.lit (.int .i64 n))) ?_
 refine rvP C (.pv (.lit (.bool (decide (i < n))))) ?_
 refine rvc_nil ?_
 refine Awp.cond (b := (decide (i < n))) rfl (fun h3 => ?_) (fun h3 => ?_)
 ·
  replace hR := of_true h3 hR
  refine Awp.skip ?_
  refine Awp.seq ?_
  refine Awp.block ?_
  refine Awp.regionP C ?_
  refine rvP C (.sl 0 0 data.length 1 false) ?_
  refine rvP C (.pv (.lit (.int .i64 a))) ?_
  refine rvP C (.pv (.lit (.int .i64 i))) ?_
  refine rvP C (.pv (.lit (.int .i64 (IntKind.i64.wrap (a + i))))) ?_
  refine rvP C (.sl 0 0 data.length 1 false) ?_
  refine rvP C (.pv (.lit (.int .i64 b))) ?_
  refine rvP C (.pv (.lit (.int .i64 i))) ?_
  refine rvP C (.pv (.lit (.int .i64 (IntKind.i64.wrap (b + i))))) ?_
  refine rvP C (.sl 0 0 data.length 1 false) ?_
  refine rvP C (.pv (.lit (.int .i64 b))) ?_
  refine rvP C (.pv (.lit (.int .i64 i))) ?_
  refine rvP C (.pv (.lit (.int .i64 (IntKind.i64.wrap (b + i))))) ?_
  have h4 : vc[(IntKind.i64.wrap (b + i)).toNat]? = some vc[(IntKind.i64.wrap (b + i)).toNat]! := getE (by have := wrapI (i + 1); have := wrapI (a + i); have := wrapI (b + i); have := of_decide_eq_true ‹decide (i < n) = true›; omega)
  refine rvc_un (rexec_prim C (δ := { v := .ptr 0 (0 + (IntKind.i64.wrap (b + i)).toNat * 1) }) rfl rfl rfl rfl ⟨(by have := wrapI (i + 1); have := wrapI (a + i); have := wrapI (b + i); have := of_decide_eq_true ‹decide (i < n) = true›; omega), (by have := wrapI (i + 1); have := wrapI (a + i); have := wrapI (b + i); have := of_decide_eq_true ‹decide (i < n) = true›; omega)⟩ rfl ?_)
  refine rvc_un (rexec_loadE C (e := (eI .i64)) ((IntKind.i64.wrap (b + i)).toNat) 0 (vc[(IntKind.i64.wrap (b + i)).toNat]!) (.pv (.lit (.int .i64 (vc[(IntKind.i64.wrap (b + i)).toNat]!)))) rfl rfl rfl rfl h4 (by simp [eI]) (by decide) (by decide) rfl ?_)
  refine rvP C (.sl 0 0 data.length 1 false) ?_
  refine rvP C (.pv (.lit (.int .i64 a))) ?_
  refine rvP C (.pv (.lit (.int .i64 i))) ?_
  refine rvP C (.pv (.lit (.int .i64 (IntKind.i64.wrap (a + i))))) ?_
  have h5 : vc[(IntKind.i64.wrap (a + i)).toNat]? = some vc[(IntKind.i64.wrap (a + i)).toNat]! := getE (by have := wrapI (i + 1); have := wrapI (a + i); have := wrapI (b + i); have := of_decide_eq_true ‹decide (i < n) = true›; omega)
  refine rvc_un (rexec_prim C (δ := { v := .ptr 0 (0 + (IntKind.i64.wrap (a + i)).toNat * 1) }) rfl rfl rfl rfl ⟨(by have := wrapI (i + 1); have := wrapI (a + i); have := wrapI (b + i); have := of_decide_eq_true ‹decide (i < n) = true›; omega), (by have := wrapI (i + 1); have := wrapI (a + i); have := wrapI (b + i); have := of_decide_eq_true ‹decide (i < n) = true›; omega)⟩ rfl ?_)
  refine rvc_un (rexec_loadE C (e := (eI .i64)) ((IntKind.i64.wrap (a + i)).toNat) 0 (vc[(IntKind.i64.wrap (a + i)).toNat]!) (.pv (.lit (.int .i64 (vc[(IntKind.i64.wrap (a + i)).toNat]!)))) rfl rfl rfl rfl h5 (by simp [eI]) (by decide) (by decide) rfl ?_)
  refine rvc_un (rexec_prim C (δ := { v := .ptr 0 (0 + (IntKind.i64.wrap (a + i)).toNat * 1) }) rfl rfl rfl rfl ⟨(by have := wrapI (i + 1); have := wrapI (a + i); have := wrapI (b + i); have := of_decide_eq_true ‹decide (i < n) = true›; omega), (by have := wrapI (i + 1); have := wrapI (a + i); have := wrapI (b + i); have := of_decide_eq_true ‹decide (i < n) = true›; omega)⟩ rfl ?_)
  refine rvc_un (rexec_storeE C (e := (eI .i64)) ((IntKind.i64.wrap (a + i)).toNat) 0 (vc[(IntKind.i64.wrap (a + i)).toNat]!) (vc[(IntKind.i64.wrap (b + i)).toNat]!) rfl rfl rfl rfl h5 (by simp [eI]) rfl rfl rfl (of_decide_eq_true rfl) rfl ?_)
  have h6 : (vc.set ((IntKind.i64.wrap (a + i)).toNat) (vc[(IntKind.i64.wrap (b + i)).toNat]!))[(IntKind.i64.wrap (b + i)).toNat]? = some (vc.set ((IntKind.i64.wrap (a + i)).toNat) (vc[(IntKind.i64.wrap (b + i)).toNat]!))[(IntKind.i64.wrap (b + i)).toNat]! := getE (by rw [List.length_set]; have := wrapI (i + 1); have := wrapI (a + i); have := wrapI (b + i); have := of_decide_eq_true ‹decide (i < n) = true›; omega)
  refine rvc_un (rexec_prim C (δ := { v := .ptr 0 (0 + (IntKind.i64.wrap (b + i)).toNat * 1) }) rfl rfl rfl rfl ⟨(by have := wrapI (i + 1); have := wrapI (a + i); have := wrapI (b + i); have := of_decide_eq_true ‹decide (i < n) = true›; omega), (by have := wrapI (i + 1); have := wrapI (a + i); have := wrapI (b + i); have := of_decide_eq_true ‹decide (i < n) = true›; omega)⟩ rfl ?_)
  refine rvc_un (rexec_storeE C (e := (eI .i64)) ((IntKind.i64.wrap (b + i)).toNat) 0 ((vc.set ((IntKind.i64.wrap (a + i)).toNat) (vc[(IntKind.i64.wrap (b + i)).toNat]!))[(IntKind.i64.wrap (b + i)).toNat]!) (vc[(IntKind.i64.wrap (a + i)).toNat]!) rfl rfl rfl rfl h6 (by simp [eI]) rfl rfl rfl (of_decide_eq_true rfl) rfl ?_)
  refine rvc_nil ?_
  refine Awp.regionP C ?_
  refine rvP C (.pv (.lit (.int .i64 i))) ?_
  refine rvP C (.pv (.lit (.int .i64 (IntKind.i64.wrap (i + 1))))) ?_
  refine rvP C (.pv (.lit (.int .i64 (IntKind.i64.wrap (i + 1))))) ?_
  refine rvc_nil ?_
  refine ⟨_, ((IntKind.i64.wrap (i + 1)), ((vc.set ((IntKind.i64.wrap (a + i)).toNat) (vc[(IntKind.i64.wrap (b + i)).toNat]!)).set ((IntKind.i64.wrap (b + i)).toNat) (vc[(IntKind.i64.wrap (a + i)).toNat]!))), ?_, ⟨rfl, (by rw [show ((n - (IntKind.i64.wrap (i + 1))).toNat) + 1 = ((n - i).toNat) by (have := wrapI (i + 1); have := wrapI (a + i); have := wrapI (b + i); have := of_decide_eq_true ‹decide (i < n) = true›; omega)]; exact hR), ⟨(by dsimp only; have := wrapI (i + 1); have := wrapI (a + i); have := wrapI (b + i); have := of_decide_eq_true ‹decide (i < n) = true›; omega), (by simpa using hVn)⟩⟩, ?_⟩
  · show (n - (IntKind.i64.wrap (i + 1))).toNat < (n - i).toNat; (have := wrapI (i + 1); have := wrapI (a + i); have := wrapI (b + i); have := of_decide_eq_true ‹decide (i < n) = true›; omega)
  · exact ⟨fun b => b, WeakerR.ofLI (I := [0]) (Ks := [0]) hI ⟨⟨rfl, rfl⟩, ⟨rfl, rfl⟩, ⟨rfl, rfl⟩, ⟨rfl, rfl⟩, ⟨rfl, rfl⟩, trivial⟩ (okH_list rfl rfl rfl (okH_nil)) rfl rfl⟩
 ·
  replace hR := of_false h3 hR
  refine Awp.exit ?_
  subst hR
  exact ⟨.inr rfl, rfl, rfl⟩
end Go.Proofs.Ytaoagcdljmpllaa
namespace Go.Proofs.Ytaoagcdljmpllaa
open Go.Am
theorem swap_perm {D : List Int} {i j : Nat} (hi : i < D.length) (hj : j < D.length) : ((D.set i D[j]!).set j D[i]!).Perm D := by
  rw [getElem!_pos D i hi, getElem!_pos D j hj]
  exact List.set_set_perm hi hj
theorem get_set! {D : List Int} {i k : Nat} {x : Int} (hk : k < D.length) : (D.set i x)[k]! = if i = k then x else D[k]! := by
  rw [getElem!_pos _ k (by rw [List.length_set]; exact hk), List.getElem_set, getElem!_pos D k hk]
theorem swap_get {D : List Int} {i j k : Nat} (hk : k < D.length) : ((D.set i D[j]!).set j D[i]!)[k]! = if j = k then D[i]! else if i = k then D[j]! else D[k]! := by
  rw [get_set! (by rw [List.length_set]; exact hk), get_set! hk]
theorem swapRange_l0_perm {a b n : Int} : ∀ (k : Nat) (i : Int) (vc : List Int), (n - i).toNat = k → 0 ≤ i → 0 ≤ a → 0 ≤ b → a + n ≤ (vc.length : Int) → b + n ≤ (vc.length : Int) → vc.length ≤ 1000000 → (swapRange_l0 a b n (k + 1) i vc).Perm vc
  | k, i, vc, hk, hi, ha, hb, h1, h2, hL => by
    unfold swapRange_l0
    by_cases h : i < n
    · rw [decide_eq_true h, cond_true]
      obtain ⟨k, rfl⟩ : ∃ q, k = q + 1 := ⟨k - 1, by omega⟩
      rw [wrapI (i + 1) (by omega), wrapI (a + i) (by omega), wrapI (b + i) (by omega)]
      refine (swapRange_l0_perm k (i + 1) _ (by omega) (by omega) ha hb (by simpa using h1) (by simpa using h2) (by simpa using hL)).trans ?_
      exact swap_perm (by omega) (by omega)
    · rw [decide_eq_false h, cond_false]
theorem swapRange_perm {data : List Int} {a b n : Int} {cmp : Int → Int → Int} (hab : 0 ≤ a ∧ 0 ≤ b ∧ a + n ≤ (data.length : Int) ∧ b + n ≤ (data.length : Int)) (hL : data.length ≤ 1000000) : (swapRange data a b n cmp).Perm data :=
  swapRange_l0_perm _ _ _ rfl (Int.le_refl _) hab.1 hab.2.1 hab.2.2.1 hab.2.2.2 hL
def swapF (a b n : Nat) (f : Nat → Int) (k : Nat) : Int := if a ≤ k ∧ k < a + n then f (k - a + b) else if b ≤ k ∧ k < b + n then f (k - b + a) else f k
theorem swapRange_l0_get {a b n L : Nat} (hab : a + n ≤ b) (hbn : b + n ≤ L) (hL : L ≤ 1000000) : ∀ (j : Nat) (i : Nat) (vc : List Int), n - i = j → i ≤ n → vc.length = L → ∀ k, k < L → (swapRange_l0 a b n (j + 1) i vc)[k]! = swapF (a + i) (b + i) (n - i) (fun q => vc[q]!) k
  | j, i, vc, hj, hi, hv, k, hk => by
    unfold swapRange_l0
    by_cases h : (i : Int) < n
    · rw [decide_eq_true h, cond_true]
      obtain ⟨j, rfl⟩ : ∃ q, j = q + 1 := ⟨j - 1, by omega⟩
      rw [wrapI (i + 1) (by omega), wrapI (a + i) (by omega), wrapI (b + i) (by omega)]
      rw [show (i : Int) + 1 = ((i + 1 : Nat) : Int) from rfl, show (a : Int) + i = ((a + i : Nat) : Int) from rfl, show (b : Int) + i = ((b + i : Nat) : Int) from rfl, Int.toNat_natCast, Int.toNat_natCast]
      rw [swapRange_l0_get hab hbn hL j (i + 1) _ (by omega) (by omega) (by simpa using hv) k hk]
      have hg : ∀ q, q < L → ((vc.set (a + i) vc[b + i]!).set (b + i) vc[a + i]!)[q]! = if b + i = q then vc[a + i]! else if a + i = q then vc[b + i]! else vc[q]! := fun q hq => swap_get (by omega)
      generalize hw : ((vc.set (a + i) vc[b + i]!).set (b + i) vc[a + i]!) = w at hg
      unfold swapF
      dsimp only
      by_cases c1 : a + i ≤ k ∧ k < a + i + (n - i)
      · rw [if_pos c1]
        by_cases c2 : k = a + i
        · subst c2
          rw [if_neg (by omega), if_neg (by omega), hg _ (by omega), if_neg (by omega), if_pos rfl, show a + i - (a + i) + (b + i) = b + i by omega]
        · rw [if_pos (by omega), show k - (a + (i + 1)) + (b + (i + 1)) = k - (a + i) + (b + i) by omega, hg _ (by omega), if_neg (by omega), if_neg (by omega)]
      · rw [if_neg c1]
        by_cases c3 : b + i ≤ k ∧ k < b + i + (n - i)
        · rw [if_pos c3]
          by_cases c2 : k = b + i
          · subst c2
            rw [if_neg (by omega), if_neg (by omega), hg _ (by omega), if_pos rfl, show b + i - (b + i) + (a + i) = a + i by omega]
          · rw [if_neg (by omega), if_pos (by omega), show k - (b + (i + 1)) + (a + (i + 1)) = k - (b + i) + (a + i) by omega, hg _ (by omega), if_neg (by omega), if_neg (by omega)]
        · rw [if_neg c3, if_neg (by omega), if_neg (by omega), hg _ hk, if_neg (by omega), if_neg (by omega)]
    · rw [decide_eq_false h, cond_false]
      have : i = n := by omega
      subst this
      unfold swapF
      rw [if_neg (by omega), if_neg (by omega)]
theorem swapRange_get {data : List Int} {a b n : Nat} {cmp : Int → Int → Int} (hab : a + n ≤ b) (hbn : b + n ≤ data.length) (hL : data.length ≤ 1000000) {k : Nat} (hk : k < data.length) : (swapRange data a b n cmp)[k]! = swapF a b n (fun q => data[q]!) k := by
  have := swapRange_l0_get hab hbn hL n 0 data rfl (Nat.zero_le _) rfl k hk
  unfold swapRange
  rw [show (((n : Int) - 0).toNat) = n by omega]
  exact this
theorem rot_stepA {data vc : List Int} {a m b i j : Int} {cmp : Int → Int → Int} (hab : 0 ≤ a ∧ a < m ∧ m < b ∧ b ≤ (data.length : Int)) (hL : data.length ≤ 1000000) (hVa : 0 < i ∧ i ≤ m - a ∧ 0 < j ∧ j ≤ b - m) (hVp : vc.Perm data) (h4 : decide (i > j) = true) : (0 < IntKind.i64.wrap (i - j) ∧ IntKind.i64.wrap (i - j) ≤ m - a ∧ 0 < j ∧ j ≤ b - m) ∧ (swapRange vc (IntKind.i64.wrap (m - i)) m j cmp).Perm data := by
  have h := of_decide_eq_true h4
  have hn := hVp.length_eq
  rw [wrapI (i - j) (by omega), wrapI (m - i) (by omega)]
  exact ⟨by omega, (swapRange_perm (by omega) (by omega)).trans hVp⟩
theorem rot_stepB {data vc : List Int} {a m b i j : Int} {cmp : Int → Int → Int} (hab : 0 ≤ a ∧ a < m ∧ m < b ∧ b ≤ (data.length : Int)) (hL : data.length ≤ 1000000) (hVa : 0 < i ∧ i ≤ m - a ∧ 0 < j ∧ j ≤ b - m) (hVp : vc.Perm data) (h3 : (i != j) = true) (h4 : decide (i > j) = false) : (0 < i ∧ i ≤ m - a ∧ 0 < IntKind.i64.wrap (j - i) ∧ IntKind.i64.wrap (j - i) ≤ b - m) ∧ (swapRange vc (IntKind.i64.wrap (m - i)) (IntKind.i64.wrap (IntKind.i64.wrap (m + j) - i)) i cmp).Perm data := by
  have h := of_decide_eq_false h4
  have h' := bne_iff_ne.1 h3
  have hn := hVp.length_eq
  rw [wrapI (j - i) (by omega), wrapI (m - i) (by omega), wrapI (m + j) (by omega), wrapI (m + j - i) (by omega)]
  exact ⟨by omega, (swapRange_perm (by omega) (by omega)).trans hVp⟩
end Go.Proofs.Ytaoagcdljmpllaa
namespace Go.Proofs.Ytaoagcdljmpllaa
open Go.Am
variable {P_ : Int → Prop}
def rotate_l0 (m : Int) (cmp : Int → Int → Int) : Nat → Int → Int → (List Int) → List Int
  | 0, _, _, _ => default
  | nn + 1, i, j, vc => (bif (i != j) then (bif (decide (i > j)) then rotate_l0 m cmp nn (IntKind.i64.wrap (i - j)) j (swapRange vc (IntKind.i64.wrap (m - i)) m j cmp) else rotate_l0 m cmp nn i (IntKind.i64.wrap (j - i)) (swapRange vc (IntKind.i64.wrap (m - i)) (IntKind.i64.wrap ((IntKind.i64.wrap (m + j)) - i)) i cmp)) else (swapRange vc (IntKind.i64.wrap (m - i)) m i cmp))
def rotate (data : List Int) (a : Int) (m : Int) (b : Int) (cmp : Int → Int → Int) : List Int :=
  rotate_l0 m cmp (((IntKind.i64.wrap (m - a)) + (IntKind.i64.wrap (b - m))).toNat + 1) (IntKind.i64.wrap (m - a)) (IntKind.i64.wrap (b - m)) data
theorem rotate_calls (data : List Int) (a : Int) (m : Int) (b : Int) (cmp : Int → Int → Int) (g4 : Nat) (caps4 : List AV) (hp4 : ∀ (x0 : Int) (x1 : Int), P_ x0 → P_ x1 → PCalls Try.prog g4 ([.pv (.lit (.int .i64 x0)), .pv (.lit (.int .i64 x1))] ++ caps4) (.pv (.lit (.int .i64 (cmp x0 x1))))) (hw4 : AV.withinL (fun _ => false) caps4 = true) (hab : 0 ≤ a ∧ a < m ∧ m < b ∧ b ≤ (data.length : Int)) (hL : data.length ≤ 1000000) (_hs : ∀ x ∈ data, P_ x) : MCalls Try.prog 64 [.sl 0 0 data.length 1 false, .pv (.lit (.int .i64 a)), .pv (.lit (.int .i64 m)), .pv (.lit (.int .i64 b)), .fn g4 [] caps4] (.cells (encC (eI .i64) data)) (.tup []) (.cells (encC (eI .i64) (rotate data a m b cmp))) := by
 generalize hR : rotate data a m b cmp = R
 refine MCalls.of_body tabOk Try.func64 rfl rfl rfl (by simp [AV.withinL, AV.within, withinL0 hw4]) rfl (encC_within _ _) (encC_within _ _) mixed fun E hP C hI => ?_
 refine Awp.consP C ?_
 refine rvP C (.pv (.lit (.int .i64 m))) ?_
 refine rvP C (.pv (.lit (.int .i64 a))) ?_
 refine rvP C (.pv (.lit (.int .i64 (IntKind.i64.wrap (m - a))))) ?_
 refine rvP C (.pv (.lit (.int .i64 (IntKind.i64.wrap (m - a))))) ?_
 refine rvc_nil ?_
 refine Awp.consP C ?_
 refine rvP C (.pv (.lit (.int .i64 b))) ?_
 refine rvP C (.pv (.lit (.int .i64 m))) ?_
 refine rvP C (.pv (.lit (.int .i64 (IntKind.i64.wrap (b - m))))) ?_
 refine rvP C (.pv (.lit (.int .i64 (IntKind.i64.wrap (b - m))))) ?_
 refine rvc_nil ?_
 refine Awp.seq ?_
 refine Awp.block ?_
 refine Awp.forM (σ := Int × Int × ((List Int))) (fun v => [(0, .sl 0 0 data.length 1 false), (2, .pv (.lit (.int .i64 m))), (4, .fn g4 [] caps4), (10, .pv (.lit (.int .i64 v.1))), (11, .pv (.lit (.int .i64 v.2.1)))]) (fun v => [(0, .cells (encC (eI .i64) v.2.2))]) [0] (fun n v => (v.1 + v.2.1).toNat ≤ n ∧ rotate_l0 m cmp (n + 1) v.1 v.2.1 v.2.2 = R ∧ ((0 < v.1 ∧ v.1 ≤ m - a ∧ 0 < v.2.1 ∧ v.2.1 ≤ b - m) ∧ v.2.2.Perm data)) (((IntKind.i64.wrap (m - a)) + (IntKind.i64.wrap (b - m))).toNat) ((IntKind.i64.wrap (m - a)), (IntKind.i64.wrap (b - m)), data) ?_ ?_ (fun n_ v h1 => ?_)
 · exact ⟨Nat.le_refl _, hR, ⟨(by dsimp only; have := wrapI (m - a); have := wrapI (b - m); omega), List.Perm.refl _⟩⟩
 · exact ⟨fun b => b, WeakerR.ofLI (I := [0]) (Ks := [0]) hI ⟨⟨rfl, rfl⟩, ⟨rfl, rfl⟩, ⟨fn_to rfl hw4, fn_win hw4⟩, ⟨rfl, rfl⟩, ⟨rfl, rfl⟩, trivial⟩ (okH_list rfl rfl rfl (okH_nil)) rfl rfl⟩
 obtain ⟨i, j, vc⟩ := v
 obtain ⟨hm_, hR, ⟨hVa, hVp⟩⟩ := h1
 replace hm_ : (i + j).toNat ≤ n_ := hm_
 replace hVa : 0 < i ∧ i ≤ m - a ∧ 0 < j ∧ j ≤ b - m := hVa
 replace hVp : vc.Perm data := hVp
 refine Awp.seq ?_
 refine Awp.consP C ?_
 refine rvP C (.pv (.lit (.int .i64 i))) ?_
 refine rvP C (.pv (.lit (.int .i64 j))) ?_
 refine rvP C (.pv (.lit (.bool (i != j)))) ?_
 refine rvc_nil ?_
 refine Awp.cond (b := (i != j)) rfl (fun h3 => ?_) (fun h3 => ?_)
 ·
  replace hR := of_true h3 hR
  refine Awp.skip ?_
  refine Awp.block ?_
  refine Awp.consP C ?_
  refine rvP C (.pv (.lit (.int .i64 i))) ?_
  refine rvP C (.pv (.lit (.int .i64 j))) ?_
  refine rvP C (.pv (.lit (.bool (decide (i > j))))) ?_
  refine rvc_nil ?_
  refine Awp.cond (b := (decide (i > j))) rfl (fun h4 => ?_) (fun h4 => ?_)
  ·
   replace hR := of_true h4 hR
   refine Awp.cons C (fun _ => .writer) (by kernel_rfl) ?_
   refine rvP C (.sl 0 0 data.length 1 false) ?_
   refine rvP C (.pv (.lit (.int .i64 m))) ?_
   refine rvP C (.pv (.lit (.int .i64 i))) ?_
   refine rvP C (.pv (.lit (.int .i64 (IntKind.i64.wrap (m - i))))) ?_
   refine rvP C (.pv (.lit (.int .i64 m))) ?_
   refine rvP C (.pv (.lit (.int .i64 j))) ?_
   refine rvP C (.fn g4 [] caps4) ?_
   refine rvc_un (rexec_callM hP C (b := 0) rfl rfl rfl (swapRange_calls vc (IntKind.i64.wrap (m - i)) m j cmp g4 caps4 hp4 hw4 (by have hn_ := hVp.length_eq; have := bne_iff_ne.1 ‹(i != j) = true›; have := of_decide_eq_true ‹decide (i > j) = true›; rw [wrapI (m - i) (by omega)]; omega) (by have hn_ := hVp.length_eq; omega)) (by have hl_ : vc.length = data.length := hVp.length_eq; simp only [AV.renL, AV.ren, hl_, AV.renL_none _ hw4]) rfl ?_)
   refine rvc_nil ?_
   refine Awp.regionP C ?_
   refine rvP C (.pv (.lit (.int .i64 i))) ?_
   refine rvP C (.pv (.lit (.int .i64 j))) ?_
   refine rvP C (.pv (.lit (.int .i64 (IntKind.i64.wrap (i - j))))) ?_
   refine rvP C (.pv (.lit (.int .i64 (IntKind.i64.wrap (i - j))))) ?_
   refine rvc_nil ?_
   have h5 : ((IntKind.i64.wrap (i - j)) + j).toNat < (i + j).toNat := by (first | (have := wrapI (i - j); have := wrapI (j - i); have := wrapI (m - i); have := wrapI (m + j); have := wrapI (m + j - i); have hn_ := hVp.length_eq; have := bne_iff_ne.1 ‹(i != j) = true›; have := of_decide_eq_true ‹decide (i > j) = true›; omega) | (have := wrapI (i - j); have := wrapI (j - i); have := wrapI (m - i); have := wrapI (m + j); have := wrapI (m + j - i); have hn_ := hVp.length_eq; have := bne_iff_ne.1 ‹(i != j) = true›; have := of_decide_eq_false ‹decide (i > j) = false›; omega))
   obtain ⟨nn, rfl⟩ : ∃ nn, n_ = nn + 1 := ⟨n_ - 1, by omega⟩
   refine ⟨nn, ((IntKind.i64.wrap (i - j)), j, (swapRange vc (IntKind.i64.wrap (m - i)) m j cmp)), by omega, ⟨by show ((IntKind.i64.wrap (i - j)) + j).toNat ≤ nn; omega, hR, (by first | (have h_ := rot_stepA (cmp := cmp) hab hL hVa hVp (by assumption); exact h_) | (have h_ := rot_stepB (cmp := cmp) hab hL hVa hVp (by assumption) (by assumption); exact h_))⟩, ?_⟩
   · exact ⟨fun b => b, WeakerR.ofLI (I := [0]) (Ks := [0]) hI ⟨⟨rfl, rfl⟩, ⟨rfl, rfl⟩, ⟨fn_to rfl hw4, fn_win hw4⟩, ⟨rfl, rfl⟩, ⟨rfl, rfl⟩, trivial⟩ (okH_list rfl rfl rfl (okH_nil)) rfl rfl⟩
  ·
   replace hR := of_false h4 hR
   refine Awp.cons C (fun _ => .writer) (by kernel_rfl) ?_
   refine rvP C (.sl 0 0 data.length 1 false) ?_
   refine rvP C (.pv (.lit (.int .i64 m))) ?_
   refine rvP C (.pv (.lit (.int .i64 i))) ?_
   refine rvP C (.pv (.lit (.int .i64 (IntKind.i64.wrap (m - i))))) ?_
   refine rvP C (.pv (.lit (.int .i64 m))) ?_
   refine rvP C (.pv (.lit (.int .i64 j))) ?_
   refine rvP C (.pv (.lit (.int .i64 (IntKind.i64.wrap (m + j))))) ?_
   refine rvP C (.pv (.lit (.int .i64 i))) ?_
   refine rvP C (.pv (.lit (.int .i64 (IntKind.i64.wrap ((IntKind.i64.wrap (m + j)) - i))))) ?_
   refine rvP C (.pv (.lit (.int .i64 i))) ?_
   refine rvP C (.fn g4 [] caps4) ?_
   refine rvc_un (rexec_callM hP C (b := 0) rfl rfl rfl (swapRange_calls vc (IntKind.i64.wrap (m - i)) (IntKind.i64.wrap ((IntKind.i64.wrap (m + j)) - i)) i cmp g4 caps4 hp4 hw4 (by have hn_ := hVp.length_eq; have := bne_iff_ne.1 ‹(i != j) = true›; have := of_decide_eq_false ‹decide (i > j) = false›; rw [wrapI (m - i) (by omega), wrapI (m + j) (by omega), wrapI (m + j - i) (by omega)]; omega) (by have hn_ := hVp.length_eq; omega)) (by have hl_ : vc.length = data.length := hVp.length_eq; simp only [AV.renL, AV.ren, hl_, AV.renL_none _ hw4]) rfl ?_)
   refine rvc_nil ?_
   refine Awp.regionP C ?_
   refine rvP C (.pv (.lit (.int .i64 j))) ?_
   refine rvP C (.pv (.lit (.int .i64 i))) ?_
   refine rvP C (.pv (.lit (.int .i64 (IntKind.i64.wrap (j - i))))) ?_
   refine rvP C (.pv (.lit (.int .i64 (IntKind.i64.wrap (j - i))))) ?_
   refine rvc_nil ?_
   have h6 : (i + (IntKind.i64.wrap (j - i))).toNat < (i + j).toNat := by (first | (have := wrapI (i - j); have := wrapI (j - i); have := wrapI (m - i); have := wrapI (m + j); have := wrapI (m + j - i); have hn_ := hVp.length_eq; have := bne_iff_ne.1 ‹(i != j) = true›; have := of_decide_eq_true ‹decide (i > j) = true›; omega) | (have := wrapI (i - j); have := wrapI (j - i); have := wrapI (m - i); have := wrapI (m + j); have := wrapI (m + j - i); have hn_ := hVp.length_eq; have := bne_iff_ne.1 ‹(i != j) = true›; have := of_decide_eq_false ‹decide (i > j) = false›; omega))
   obtain ⟨nn, rfl⟩ : ∃ nn, n_ = nn + 1 := ⟨n_ - 1, by omega⟩
   refine ⟨nn, (i, (IntKind.i64.wrap (j - i)), (swapRange vc (IntKind.i64.wrap (m - i)) (IntKind.i64.wrap ((IntKind.i64.wrap (m + j)) - i)) i cmp)), by omega, ⟨by show (i + (IntKind.i64.wrap (j - i))).toNat ≤ nn; omega, hR, (by first | (have h_ := rot_stepA (cmp := cmp) hab hL hVa hVp (by assumption); exact h_) | (have h_ := rot_stepB (cmp := cmp) hab hL hVa hVp (by assumption) (by assumption); exact h_))⟩, ?_⟩
   · exact ⟨fun b => b, WeakerR.ofLI (I := [0]) (Ks := [0]) hI ⟨⟨rfl, rfl⟩, ⟨rfl, rfl⟩, ⟨fn_to rfl hw4, fn_win hw4⟩, ⟨rfl, rfl⟩, ⟨rfl, rfl⟩, trivial⟩ (okH_list rfl rfl rfl (okH_nil)) rfl rfl⟩
 ·
  replace hR := of_false h3 hR
  refine Awp.exit ?_
  refine Awp.region C (fun _ => .writer) (by kernel_rfl) ?_
  refine rvP C (.sl 0 0 data.length 1 false) ?_
  refine rvP C (.pv (.lit (.int .i64 m))) ?_
  refine rvP C (.pv (.lit (.int .i64 i))) ?_
  refine rvP C (.pv (.lit (.int .i64 (IntKind.i64.wrap (m - i))))) ?_
  refine rvP C (.pv (.lit (.int .i64 m))) ?_
  refine rvP C (.pv (.lit (.int .i64 i))) ?_
  refine rvP C (.fn g4 [] caps4) ?_
  refine rvc_un (rexec_callM hP C (b := 0) rfl rfl rfl (swapRange_calls vc (IntKind.i64.wrap (m - i)) m i cmp g4 caps4 hp4 hw4 (by have hn_ := hVp.length_eq; have := eq_of_bne_false ‹(i != j) = false›; rw [wrapI (m - i) (by omega)]; omega) (by have hn_ := hVp.length_eq; omega)) (by have hl_ : vc.length = data.length := hVp.length_eq; simp only [AV.renL, AV.ren, hl_, AV.renL_none _ hw4]) rfl ?_)
  refine rvc_nil ?_
  subst hR
  exact ⟨.inr rfl, rfl, rfl⟩
end Go.Proofs.Ytaoagcdljmpllaa
namespace Go.Proofs.Ytaoagcdljmpllaa
open Go.Am
theorem half_eq {x : Int} (h : 0 ≤ x ∧ x ≤ 4000000) : 2 * (IntKind.i64.wrap (shrI .u64 (IntKind.u64.wrap (IntKind.i64.wrap x)) 1)) ≤ x ∧ x < 2 * (IntKind.i64.wrap (shrI .u64 (IntKind.u64.wrap (IntKind.i64.wrap x)) 1)) + 2 := by
  rw [wrapI x (by omega)]
  have e : IntKind.u64.wrap x = x := by
    show x % 18446744073709551616 = x
    omega
  rw [e]
  have e2 : shrI .u64 x 1 = x / 2 := rfl
  rw [e2, wrapI (x / 2) (by omega)]
  omega
theorem rotate_l0_perm {data : List Int} {a m b : Int} {cmp : Int → Int → Int} (hab : 0 ≤ a ∧ a < m ∧ m < b ∧ b ≤ (data.length : Int)) (hL : data.length ≤ 1000000) : ∀ (k : Nat) (i j : Int) (vc : List Int), (i + j).toNat ≤ k → (0 < i ∧ i ≤ m - a ∧ 0 < j ∧ j ≤ b - m) → vc.Perm data → (rotate_l0 m cmp (k + 1) i j vc).Perm data
  | k, i, j, vc, hk, hVa, hVp => by
    unfold rotate_l0
    have hn := hVp.length_eq
    by_cases h : i = j
    · rw [bne_self h, cond_false, wrapI (m - i) (by omega)]
      exact (swapRange_perm (by omega) (by omega)).trans hVp
    · have h3 : (i != j) = true := bne_iff_ne.2 h
      rw [h3, cond_true]
      obtain ⟨k, rfl⟩ : ∃ q, k = q + 1 := ⟨k - 1, by omega⟩
      by_cases h4 : i > j
      · rw [decide_eq_true h4, cond_true]
        have hs := rot_stepA (cmp := cmp) hab hL hVa hVp (decide_eq_true h4)
        refine rotate_l0_perm hab hL k _ _ _ ?_ hs.1 hs.2
        rw [wrapI (i - j) (by omega)]; omega
      · rw [decide_eq_false h4, cond_false]
        have hs := rot_stepB (cmp := cmp) hab hL hVa hVp h3 (decide_eq_false h4)
        refine rotate_l0_perm hab hL k _ _ _ ?_ hs.1 hs.2
        rw [wrapI (j - i) (by omega)]; omega
where bne_self {i j : Int} (h : i = j) : (i != j) = false := by subst h; simp
theorem rotate_perm {data : List Int} {a m b : Int} {cmp : Int → Int → Int} (hab : 0 ≤ a ∧ a < m ∧ m < b ∧ b ≤ (data.length : Int)) (hL : data.length ≤ 1000000) : (rotate data a m b cmp).Perm data := by
  unfold rotate
  rw [wrapI (m - a) (by omega), wrapI (b - m) (by omega)]
  exact rotate_l0_perm hab hL _ _ _ _ (Nat.le_refl _) (by omega) (List.Perm.refl _)
theorem swap_permI {vc data : List Int} {i j : Int} (h : vc.Perm data) (hi : 0 ≤ i ∧ i < (data.length : Int)) (hj : 0 ≤ j ∧ j < (data.length : Int)) : ((vc.set i.toNat vc[j.toNat]!).set j.toNat vc[i.toNat]!).Perm data := by
  have := h.length_eq
  exact (swap_perm (by omega) (by omega)).trans h
theorem mem_perm {P : Int → Prop} {vc data : List Int} (h : vc.Perm data) (hs : ∀ x ∈ data, P x) : ∀ x ∈ vc, P x := fun x hx => hs x (h.mem_iff.1 hx)
end Go.Proofs.Ytaoagcdljmpllaa
