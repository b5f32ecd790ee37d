import Derived.Test.YtoieegmebadfkaaM1
import Derived.Test.YtoieegmebadfkaaM2
import Derived.Test.YtoieegmebadfkaaM3
import Derived.Test.YtoieegmebadfkaaM6
import Derived.Test.YtoieegmebadfkaaM4
import Derived.Test.YtoieegmebadfkaaM5
/- The stable sort. No conditions. -/
namespace Go.Proofs.Ytoieegmebadfkaa
open Go.Am
variable {P_ : Int → Prop}
def stableS_l2 (n : Int) (cmp : Int → Int → Int) (blockSize : Int) (kk : Int → Int → (List Int) → List Int) : Nat → Int → Int → (List Int) → List Int
  | 0, _, _, _ => default
  | nn + 1, a1, b1, vc2 => (bif (decide (b1 ≤ n)) then stableS_l2 n cmp blockSize kk nn b1 (IntKind.i64.wrap (b1 + (IntKind.i64.wrap (2 * blockSize)))) (symMergeO 24 vc2 a1 (IntKind.i64.wrap (a1 + blockSize)) b1 cmp) else kk a1 b1 vc2)
def stableS_l1 (n : Int) (cmp : Int → Int → Int) : Nat → Int → (List Int) → List Int
  | 0, _, _ => default
  | nn + 1, blockSize, vc1 => (bif (decide (blockSize < n)) then stableS_l2 n cmp blockSize (fun a1 _ vc2 => (bif (decide ((IntKind.i64.wrap (a1 + blockSize)) < n)) then stableS_l1 n cmp nn (IntKind.i64.wrap (blockSize * 2)) (symMergeO 24 vc2 a1 (IntKind.i64.wrap (a1 + blockSize)) n cmp) else stableS_l1 n cmp nn (IntKind.i64.wrap (blockSize * 2)) vc2)) ((n + 2 * blockSize - (IntKind.i64.wrap (2 * blockSize))).toNat + 1) 0 (IntKind.i64.wrap (2 * blockSize)) vc1 else vc1)
def stableS_l0 (n : Int) (cmp : Int → Int → Int) : Nat → Int → Int → (List Int) → List Int
  | 0, _, _, _ => default
  | nn + 1, a, b, vc => (bif (decide (b ≤ n)) then stableS_l0 n cmp nn b (IntKind.i64.wrap (b + 20)) (insSort vc a b cmp) else stableS_l1 n cmp ((((40 : Int) - 20) / 20).toNat + 1) 20 (insSort vc a n cmp))
def stableS (data : List Int) (n : Int) (cmp : Int → Int → Int) : List Int :=
  stableS_l0 n cmp ((n + 20 - 20).toNat + 1) 0 20 data
theorem stableS_calls (data : List Int) (n : Int) (cmp : Int → Int → Int) (g2 : Nat) (caps2 : List AV) (hp2 : ∀ (x0 : Int) (x1 : Int), P_ x0 → P_ x1 → PCalls Try.prog g2 ([.pv (.lit (.int .i64 x0)), .pv (.lit (.int .i64 x1))] ++ caps2) (.pv (.lit (.int .i64 (cmp x0 x1))))) (hw2 : AV.withinL (fun _ => false) caps2 = true) (hn : n = (data.length : Int)) (h24 : data.length ≤ 24) (hs : ∀ x ∈ data, P_ x) (ok : LeOk cmp) : MCalls Try.prog 63 [.sl 0 0 data.length 1 false, .pv (.lit (.int .i64 n)), .fn g2 [] caps2] (.cells (encC (eI .i64) data)) (.tup []) (.cells (encC (eI .i64) (stableS data n cmp))) := by
 generalize hR : stableS data n cmp = R
 refine MCalls.of_body tabOk Try.func63 rfl rfl rfl (by simp [AV.withinL, AV.within, withinL0 hw2]) rfl (encC_within _ _) (encC_within _ _) mixed fun E hP C hI => ?_
 refine Awp.consP C ?_
 refine rvP C (.pv (.lit (.int .i64 20))) ?_
 refine rvc_nil ?_
 refine Awp.consP C ?_
 refine rvP C (.pv (.lit (.int .i64 20))) ?_
 refine rvP C (.pv (.lit (.int .i64 0))) ?_
 refine rvP C (.pv (.lit (.int .i64 20))) ?_
 refine rvc_nil ?_
 refine Awp.seq ?_
 refine Awp.block ?_
 refine Awp.forM (σ := Int × Int × ((List Int))) (fun v => [(0, .sl 0 0 data.length 1 false), (1, .pv (.lit (.int .i64 n))), (2, .fn g2 [] caps2), (6, .pv (.lit (.int .i64 20))), (7, .pv (.lit (.int .i64 v.1))), (8, .pv (.lit (.int .i64 v.2.1)))]) (fun v => [(0, .cells (encC (eI .i64) v.2.2))]) [0] (fun m__ v => (n + 20 - v.2.1).toNat ≤ m__ ∧ stableS_l0 n cmp (m__ + 1) v.1 v.2.1 v.2.2 = R ∧ ((0 ≤ v.1 ∧ v.1 ≤ n ∧ v.1 + 20 = v.2.1) ∧ v.2.2.Perm data)) ((n + 20 - 20).toNat) (0, 20, data) ?_ ?_ (fun n_ v h1 => ?_)
 · exact ⟨Nat.le_refl _, hR, ⟨(by dsimp only; omega), List.Perm.refl _⟩⟩
 · exact ⟨fun b => b, WeakerR.ofLI (I := [0]) (Ks := [0]) hI ⟨⟨rfl, rfl⟩, ⟨rfl, rfl⟩, ⟨fn_to rfl hw2, fn_win hw2⟩, ⟨rfl, rfl⟩, ⟨rfl, rfl⟩, ⟨rfl, rfl⟩, trivial⟩ (okH_list rfl rfl rfl (okH_nil)) rfl rfl⟩
 obtain ⟨a, b, vc⟩ := v
 obtain ⟨hm_, hR, ⟨hVa, hVp⟩⟩ := h1
 replace hm_ : (n + 20 - b).toNat ≤ n_ := hm_
 replace hVa : 0 ≤ a ∧ a ≤ n ∧ a + 20 = b := hVa
 replace hVp : vc.Perm data := hVp
 refine Awp.seq ?_
 refine Awp.consP C ?_
 refine rvP C (.pv (.lit (.int .i64 b))) ?_
 refine rvP C (.pv (.lit (.int .i64 n))) ?_
 refine rvP C (.pv (.lit (.bool (decide (b ≤ n))))) ?_
 refine rvc_nil ?_
 refine Awp.cond (b := (decide (b ≤ n))) rfl (fun h3 => ?_) (fun h3 => ?_)
 ·
  replace hR := of_true h3 hR
  refine Awp.skip ?_
  refine Awp.block ?_
  refine Awp.cons C (fun _ => .writer) (by kernel_rfl) ?_
  refine rvP C (.sl 0 0 data.length 1 false) ?_
  refine rvP C (.pv (.lit (.int .i64 a))) ?_
  refine rvP C (.pv (.lit (.int .i64 b))) ?_
  refine rvP C (.fn g2 [] caps2) ?_
  refine rvc_un (rexec_callM hP C (b := 0) rfl rfl rfl (insSort_calls vc a b cmp g2 caps2 hp2 hw2 (by have hn_ := hVp.length_eq; have hl_ := of_decide_eq_true ‹decide (b ≤ n) = true›; omega) (by have hn_ := hVp.length_eq; omega) (mem_perm hVp hs)) (by have hl_ : vc.length = data.length := (by first | exact hYp.length_eq | exact hVp.length_eq); simp only [AV.renL, AV.ren, hl_, AV.renL_none _ hw2]) rfl ?_)
  refine rvc_nil ?_
  refine Awp.consP C ?_
  refine rvP C (.pv (.lit (.int .i64 b))) ?_
  refine rvP C (.pv (.lit (.int .i64 b))) ?_
  refine rvc_nil ?_
  refine Awp.regionP C ?_
  refine rvP C (.pv (.lit (.int .i64 b))) ?_
  refine rvP C (.pv (.lit (.int .i64 20))) ?_
  refine rvP C (.pv (.lit (.int .i64 (IntKind.i64.wrap (b + 20))))) ?_
  refine rvP C (.pv (.lit (.int .i64 (IntKind.i64.wrap (b + 20))))) ?_
  refine rvc_nil ?_
  have h4 : (n + 20 - (IntKind.i64.wrap (b + 20))).toNat < (n + 20 - b).toNat := by (have hw_ := wrapI (b + 20) (by omega); have hl_ := of_decide_eq_true ‹decide (b ≤ n) = true›; omega)
  obtain ⟨nn, rfl⟩ : ∃ nn, n_ = nn + 1 := ⟨n_ - 1, by omega⟩
  refine ⟨nn, (b, (IntKind.i64.wrap (b + 20)), (insSort vc a b cmp)), by omega, ⟨by show (n + 20 - (IntKind.i64.wrap (b + 20))).toNat ≤ nn; omega, hR, (by have h_ := ins_permI (vc := vc) (a := a) (b := b) ok (by have hn_ := hVp.length_eq; have hl_ := of_decide_eq_true ‹decide (b ≤ n) = true›; omega) (by have hn_ := hVp.length_eq; omega); exact ⟨(by dsimp only; have hw_ := wrapI (b + 20) (by omega); have hl_ := of_decide_eq_true ‹decide (b ≤ n) = true›; omega), h_.trans hVp⟩)⟩, ?_⟩
  · exact ⟨fun b => b, WeakerR.ofLI (I := [0]) (Ks := [0]) hI ⟨⟨rfl, rfl⟩, ⟨rfl, rfl⟩, ⟨fn_to rfl hw2, fn_win hw2⟩, ⟨rfl, rfl⟩, ⟨rfl, rfl⟩, ⟨rfl, rfl⟩, trivial⟩ (okH_list rfl rfl rfl (okH_nil)) rfl rfl⟩
 ·
  replace hR := of_false h3 hR
  refine Awp.exit ?_
  refine Awp.cons C (fun _ => .writer) (by kernel_rfl) ?_
  refine rvP C (.sl 0 0 data.length 1 false) ?_
  refine rvP C (.pv (.lit (.int .i64 a))) ?_
  refine rvP C (.pv (.lit (.int .i64 n))) ?_
  refine rvP C (.fn g2 [] caps2) ?_
  refine rvc_un (rexec_callM hP C (b := 0) rfl rfl rfl (insSort_calls vc a n cmp g2 caps2 hp2 hw2 (by have hn_ := hVp.length_eq; omega) (by have hn_ := hVp.length_eq; omega) (mem_perm hVp hs)) (by have hl_ : vc.length = data.length := (by first | exact hYp.length_eq | exact hVp.length_eq); simp only [AV.renL, AV.ren, hl_, AV.renL_none _ hw2]) rfl ?_)
  refine rvc_nil ?_
  refine Awp.block ?_
  refine Awp.forM (σ := Int × ((List Int))) (fun v => [(0, .sl 0 0 data.length 1 false), (1, .pv (.lit (.int .i64 n))), (2, .fn g2 [] caps2), (6, .pv (.lit (.int .i64 v.1)))]) (fun v => [(0, .cells (encC (eI .i64) v.2))]) [0] (fun m__ v => m__ = (((40 : Int) - v.1) / 20).toNat ∧ stableS_l1 n cmp ((((40 : Int) - v.1) / 20).toNat + 1) v.1 v.2 = R ∧ ((v.1 = 20 ∨ v.1 = 40) ∧ v.2.Perm data)) ((((40 : Int) - 20) / 20).toNat) (20, (insSort vc a n cmp)) ?_ ?_ (fun _ v h5 => ?_)
  · exact ⟨rfl, hR, ⟨(by dsimp only; omega), (by have h_ := ins_permI (vc := vc) (a := a) (b := n) ok (by have hn_ := hVp.length_eq; omega) (by have hn_ := hVp.length_eq; omega); exact h_.trans hVp)⟩⟩
  · exact ⟨fun b => b, WeakerR.ofLI (I := [0]) (Ks := [0]) hI ⟨⟨rfl, rfl⟩, ⟨rfl, rfl⟩, ⟨fn_to rfl hw2, fn_win hw2⟩, ⟨rfl, rfl⟩, trivial⟩ (okH_list rfl rfl rfl (okH_nil)) rfl rfl⟩
  obtain ⟨blockSize, vc1⟩ := v
  obtain ⟨rfl, hR, ⟨hXa, hXp⟩⟩ := h5
  replace hXa : blockSize = 20 ∨ blockSize = 40 := hXa
  replace hXp : vc1.Perm data := hXp
  refine Awp.seq ?_
  refine Awp.consP C ?_
  refine rvP C (.pv (.lit (.int .i64 blockSize))) ?_
  refine rvP C (.pv (.lit (.int .i64 n))) ?_
  refine rvP C (.pv (.lit (.bool (decide (blockSize < n))))) ?_
  refine rvc_nil ?_
  refine Awp.cond (b := (decide (blockSize < n))) rfl (fun h7 => ?_) (fun h7 => ?_)
  ·
   replace hR := of_true h7 hR
   refine Awp.skip ?_
   refine Awp.block ?_
   refine Awp.consP C ?_
   refine rvP C (.pv (.lit (.int .i64 blockSize))) ?_
   refine rvP C (.pv (.lit (.int .i64 (IntKind.i64.wrap (2 * blockSize))))) ?_
   refine rvP C (.pv (.lit (.int .i64 0))) ?_
   refine rvP C (.pv (.lit (.int .i64 (IntKind.i64.wrap (2 * blockSize))))) ?_
   refine rvc_nil ?_
   refine Awp.seq ?_
   refine Awp.block ?_
   refine Awp.forM (σ := Int × Int × ((List Int))) (fun v => [(0, .sl 0 0 data.length 1 false), (1, .pv (.lit (.int .i64 n))), (2, .fn g2 [] caps2), (6, .pv (.lit (.int .i64 blockSize))), (7, .pv (.lit (.int .i64 v.1))), (8, .pv (.lit (.int .i64 v.2.1)))]) (fun v => [(0, .cells (encC (eI .i64) v.2.2))]) [0] (fun m__ v => (n + 2 * blockSize - v.2.1).toNat ≤ m__ ∧ stableS_l2 n cmp blockSize (fun a1 _ vc2 => (bif (decide ((IntKind.i64.wrap (a1 + blockSize)) < n)) then stableS_l1 n cmp ((((40 : Int) - blockSize) / 20).toNat) (IntKind.i64.wrap (blockSize * 2)) (symMergeO 24 vc2 a1 (IntKind.i64.wrap (a1 + blockSize)) n cmp) else stableS_l1 n cmp ((((40 : Int) - blockSize) / 20).toNat) (IntKind.i64.wrap (blockSize * 2)) vc2)) (m__ + 1) v.1 v.2.1 v.2.2 = R ∧ ((0 ≤ v.1 ∧ v.1 ≤ n ∧ v.1 + 2 * blockSize = v.2.1) ∧ v.2.2.Perm data)) ((n + 2 * blockSize - (IntKind.i64.wrap (2 * blockSize))).toNat) (0, (IntKind.i64.wrap (2 * blockSize)), vc1) ?_ ?_ (fun n_ v h8 => ?_)
   · exact ⟨Nat.le_refl _, hR, ⟨(by dsimp only; have hl_ := of_decide_eq_true ‹decide (blockSize < n) = true›; have hw_ := wrapI (2 * blockSize) (by omega); omega), hXp⟩⟩
   · exact ⟨fun b => b, WeakerR.ofLI (I := [0]) (Ks := [0]) hI ⟨⟨rfl, rfl⟩, ⟨rfl, rfl⟩, ⟨fn_to rfl hw2, fn_win hw2⟩, ⟨rfl, rfl⟩, ⟨rfl, rfl⟩, ⟨rfl, rfl⟩, trivial⟩ (okH_list rfl rfl rfl (okH_nil)) rfl rfl⟩
   obtain ⟨a1, b1, vc2⟩ := v
   obtain ⟨hm_, hR, ⟨hYa, hYp⟩⟩ := h8
   replace hm_ : (n + 2 * blockSize - b1).toNat ≤ n_ := hm_
   replace hYa : 0 ≤ a1 ∧ a1 ≤ n ∧ a1 + 2 * blockSize = b1 := hYa
   replace hYp : vc2.Perm data := hYp
   refine Awp.seq ?_
   refine Awp.consP C ?_
   refine rvP C (.pv (.lit (.int .i64 b1))) ?_
   refine rvP C (.pv (.lit (.int .i64 n))) ?_
   refine rvP C (.pv (.lit (.bool (decide (b1 ≤ n))))) ?_
   refine rvc_nil ?_
   refine Awp.cond (b := (decide (b1 ≤ n))) rfl (fun h10 => ?_) (fun h10 => ?_)
   ·
    replace hR := of_true h10 hR
    refine Awp.skip ?_
    refine Awp.block ?_
    refine Awp.cons C (fun _ => .writer) (by kernel_rfl) ?_
    refine rvP C (.sl 0 0 data.length 1 false) ?_
    refine rvP C (.pv (.lit (.int .i64 a1))) ?_
    refine rvP C (.pv (.lit (.int .i64 a1))) ?_
    refine rvP C (.pv (.lit (.int .i64 blockSize))) ?_
    refine rvP C (.pv (.lit (.int .i64 (IntKind.i64.wrap (a1 + blockSize))))) ?_
    refine rvP C (.pv (.lit (.int .i64 b1))) ?_
    refine rvP C (.fn g2 [] caps2) ?_
    refine rvc_un (rexec_callM hP C (b := 0) rfl rfl rfl (symO_calls 24 vc2 a1 (IntKind.i64.wrap (a1 + blockSize)) b1 cmp g2 caps2 hp2 hw2 (by have hn_ := hYp.length_eq; have hl_ := of_decide_eq_true ‹decide (blockSize < n) = true›; have hw_ := wrapI (a1 + blockSize) (by omega); have hm_ := of_decide_eq_true ‹decide (b1 ≤ n) = true›; have hw1_ := wrapI (2 * blockSize) (by omega); have hw2_ := wrapI (b1 + IntKind.i64.wrap (2 * blockSize)) (by omega); omega) (by have hn_ := hYp.length_eq; omega) (mem_perm hYp hs) (by have hl_ := of_decide_eq_true ‹decide (blockSize < n) = true›; have hw_ := wrapI (a1 + blockSize) (by omega); have hm_ := of_decide_eq_true ‹decide (b1 ≤ n) = true›; have hw1_ := wrapI (2 * blockSize) (by omega); have hw2_ := wrapI (b1 + IntKind.i64.wrap (2 * blockSize)) (by omega); omega)) (by have hl_ : vc2.length = data.length := (by first | exact hYp.length_eq | exact hVp.length_eq); simp only [AV.renL, AV.ren, hl_, AV.renL_none _ hw2]) rfl ?_)
    refine rvc_nil ?_
    refine Awp.consP C ?_
    refine rvP C (.pv (.lit (.int .i64 b1))) ?_
    refine rvP C (.pv (.lit (.int .i64 b1))) ?_
    refine rvc_nil ?_
    refine Awp.regionP C ?_
    refine rvP C (.pv (.lit (.int .i64 b1))) ?_
    refine rvP C (.pv (.lit (.int .i64 blockSize))) ?_
    refine rvP C (.pv (.lit (.int .i64 (IntKind.i64.wrap (2 * blockSize))))) ?_
    refine rvP C (.pv (.lit (.int .i64 (IntKind.i64.wrap (b1 + (IntKind.i64.wrap (2 * blockSize))))))) ?_
    refine rvP C (.pv (.lit (.int .i64 (IntKind.i64.wrap (b1 + (IntKind.i64.wrap (2 * blockSize))))))) ?_
    refine rvc_nil ?_
    have h11 : (n + 2 * blockSize - (IntKind.i64.wrap (b1 + (IntKind.i64.wrap (2 * blockSize))))).toNat < (n + 2 * blockSize - b1).toNat := by (have hl_ := of_decide_eq_true ‹decide (blockSize < n) = true›; have hw_ := wrapI (a1 + blockSize) (by omega); have hm_ := of_decide_eq_true ‹decide (b1 ≤ n) = true›; have hw1_ := wrapI (2 * blockSize) (by omega); have hw2_ := wrapI (b1 + IntKind.i64.wrap (2 * blockSize)) (by omega); omega)
    obtain ⟨nn, rfl⟩ : ∃ nn, n_ = nn + 1 := ⟨n_ - 1, by omega⟩
    refine ⟨nn, (b1, (IntKind.i64.wrap (b1 + (IntKind.i64.wrap (2 * blockSize)))), (symMergeO 24 vc2 a1 (IntKind.i64.wrap (a1 + blockSize)) b1 cmp)), by omega, ⟨by show (n + 2 * blockSize - (IntKind.i64.wrap (b1 + (IntKind.i64.wrap (2 * blockSize))))).toNat ≤ nn; omega, hR, (by have h_ := symO_permI (n := 24) (vc := vc2) (a := a1) (m := IntKind.i64.wrap (a1 + blockSize)) (b := b1) (cmp := cmp) (by have hn_ := hYp.length_eq; have hl_ := of_decide_eq_true ‹decide (blockSize < n) = true›; have hw_ := wrapI (a1 + blockSize) (by omega); have hm_ := of_decide_eq_true ‹decide (b1 ≤ n) = true›; have hw1_ := wrapI (2 * blockSize) (by omega); have hw2_ := wrapI (b1 + IntKind.i64.wrap (2 * blockSize)) (by omega); omega) (by have hn_ := hYp.length_eq; omega); exact ⟨(by dsimp only; have hl_ := of_decide_eq_true ‹decide (blockSize < n) = true›; have hw_ := wrapI (a1 + blockSize) (by omega); have hm_ := of_decide_eq_true ‹decide (b1 ≤ n) = true›; have hw1_ := wrapI (2 * blockSize) (by omega); have hw2_ := wrapI (b1 + IntKind.i64.wrap (2 * blockSize)) (by omega); omega), h_.trans hYp⟩)⟩, ?_⟩
    · exact ⟨fun b => b, WeakerR.ofLI (I := [0]) (Ks := [0]) hI ⟨⟨rfl, rfl⟩, ⟨rfl, rfl⟩, ⟨fn_to rfl hw2, fn_win hw2⟩, ⟨rfl, rfl⟩, ⟨rfl, rfl⟩, ⟨rfl, rfl⟩, trivial⟩ (okH_list rfl rfl rfl (okH_nil)) rfl rfl⟩
   ·
    replace hR := of_false h10 hR
    refine Awp.exit ?_
    refine Awp.seq ?_
    refine Awp.consP C ?_
    refine rvP C (.pv (.lit (.int .i64 a1))) ?_
    refine rvP C (.pv (.lit (.int .i64 blockSize))) ?_
    refine rvP C (.pv (.lit (.int .i64 (IntKind.i64.wrap (a1 + blockSize))))) ?_
    refine rvP C (.pv (.lit (.int .i64 (IntKind.i64.wrap (a1 + blockSize))))) ?_
    refine rvc_nil ?_
    refine Awp.consP C ?_
    refine rvP C (.pv (.lit (.int .i64 (IntKind.i64.wrap (a1 + blockSize))))) ?_
    refine rvP C (.pv (.lit (.int .i64 n))) ?_
    refine rvP C (.pv (.lit (.bool (decide ((IntKind.i64.wrap (a1 + blockSize)) < n))))) ?_
    refine rvc_nil ?_
    refine Awp.cond (b := (decide ((IntKind.i64.wrap (a1 + blockSize)) < n))) rfl (fun h12 => ?_) (fun h12 => ?_)
    ·
     replace hR := of_true h12 hR
     refine Awp.region C (fun _ => .writer) (by kernel_rfl) ?_
     refine rvP C (.sl 0 0 data.length 1 false) ?_
     refine rvP C (.pv (.lit (.int .i64 a1))) ?_
     refine rvP C (.pv (.lit (.int .i64 (IntKind.i64.wrap (a1 + blockSize))))) ?_
     refine rvP C (.pv (.lit (.int .i64 n))) ?_
     refine rvP C (.fn g2 [] caps2) ?_
     refine rvc_un (rexec_callM hP C (b := 0) rfl rfl rfl (symO_calls 24 vc2 a1 (IntKind.i64.wrap (a1 + blockSize)) n cmp g2 caps2 hp2 hw2 (by have hn_ := hYp.length_eq; have hl_ := of_decide_eq_true ‹decide (blockSize < n) = true›; have hw_ := wrapI (a1 + blockSize) (by omega); have hm_ := of_decide_eq_true ‹decide (IntKind.i64.wrap (a1 + blockSize) < n) = true›; omega) (by have hn_ := hYp.length_eq; omega) (mem_perm hYp hs) (by omega)) (by have hl_ : vc2.length = data.length := (by first | exact hYp.length_eq | exact hVp.length_eq); simp only [AV.renL, AV.ren, hl_, AV.renL_none _ hw2]) rfl ?_)
     refine rvc_nil ?_
     refine Awp.regionP C ?_
     refine rvP C (.pv (.lit (.int .i64 blockSize))) ?_
     refine rvP C (.pv (.lit (.int .i64 (IntKind.i64.wrap (blockSize * 2))))) ?_
     refine rvP C (.pv (.lit (.int .i64 (IntKind.i64.wrap (blockSize * 2))))) ?_
     refine rvc_nil ?_
     refine ⟨_, ((IntKind.i64.wrap (blockSize * 2)), (symMergeO 24 vc2 a1 (IntKind.i64.wrap (a1 + blockSize)) n cmp)), ?_, ⟨rfl, (by rw [show ((((40 : Int) - (IntKind.i64.wrap (blockSize * 2))) / 20).toNat) + 1 = ((((40 : Int) - blockSize) / 20).toNat) by (have hl_ := of_decide_eq_true ‹decide (blockSize < n) = true›; have hw_ := wrapI (blockSize * 2) (by omega); omega)]; exact hR), (by first | (have h_ := symO_permI (n := 24) (vc := vc2) (a := a1) (m := IntKind.i64.wrap (a1 + blockSize)) (b := n) (cmp := cmp) (by have hn_ := hYp.length_eq; have hl_ := of_decide_eq_true ‹decide (blockSize < n) = true›; have hw_ := wrapI (a1 + blockSize) (by omega); have hm_ := of_decide_eq_true ‹decide (IntKind.i64.wrap (a1 + blockSize) < n) = true›; omega) (by have hn_ := hYp.length_eq; omega); exact ⟨(by dsimp only; have hl_ := of_decide_eq_true ‹decide (blockSize < n) = true›; have hw_ := wrapI (blockSize * 2) (by omega); omega), h_.trans hYp⟩) | exact ⟨(by dsimp only; have hl_ := of_decide_eq_true ‹decide (blockSize < n) = true›; have hw_ := wrapI (blockSize * 2) (by omega); omega), hYp⟩)⟩, ?_⟩
     · show (((40 : Int) - (IntKind.i64.wrap (blockSize * 2))) / 20).toNat < (((40 : Int) - blockSize) / 20).toNat; (have hl_ := of_decide_eq_true ‹decide (blockSize < n) = true›; have hw_ := wrapI (blockSize * 2) (by omega); omega)
     · exact ⟨fun b => b, WeakerR.ofLI (I := [0]) (Ks := [0]) hI ⟨⟨rfl, rfl⟩, ⟨rfl, rfl⟩, ⟨fn_to rfl hw2, fn_win hw2⟩, ⟨rfl, rfl⟩, trivial⟩ (okH_list rfl rfl rfl (okH_nil)) rfl rfl⟩
    ·
     replace hR := of_false h12 hR
     refine Awp.skip ?_
     refine Awp.regionP C ?_
     refine rvP C (.pv (.lit (.int .i64 blockSize))) ?_
     refine rvP C (.pv (.lit (.int .i64 (IntKind.i64.wrap (blockSize * 2))))) ?_
     refine rvP C (.pv (.lit (.int .i64 (IntKind.i64.wrap (blockSize * 2))))) ?_
     refine rvc_nil ?_
     refine ⟨_, ((IntKind.i64.wrap (blockSize * 2)), vc2), ?_, ⟨rfl, (by rw [show ((((40 : Int) - (IntKind.i64.wrap (blockSize * 2))) / 20).toNat) + 1 = ((((40 : Int) - blockSize) / 20).toNat) by (have hl_ := of_decide_eq_true ‹decide (blockSize < n) = true›; have hw_ := wrapI (blockSize * 2) (by omega); omega)]; exact hR), (by first | (have h_ := symO_permI (n := 24) (vc := vc2) (a := a1) (m := IntKind.i64.wrap (a1 + blockSize)) (b := n) (cmp := cmp) (by have hn_ := hYp.length_eq; have hl_ := of_decide_eq_true ‹decide (blockSize < n) = true›; have hw_ := wrapI (a1 + blockSize) (by omega); have hm_ := of_decide_eq_true ‹decide (IntKind.i64.wrap (a1 + blockSize) < n) = true›; omega) (by have hn_ := hYp.length_eq; omega); exact ⟨(by dsimp only; have hl_ := of_decide_eq_true ‹decide (blockSize < n) = true›; have hw_ := wrapI (blockSize * 2) (by omega); omega), h_.trans hYp⟩) | exact ⟨(by dsimp only; have hl_ := of_decide_eq_true ‹decide (blockSize < n) = true›; have hw_ := wrapI (blockSize * 2) (by omega); omega), hYp⟩)⟩, ?_⟩
     · show (((40 : Int) - (IntKind.i64.wrap (blockSize * 2))) / 20).toNat < (((40 : Int) - blockSize) / 20).toNat; (have hl_ := of_decide_eq_true ‹decide (blockSize < n) = true›; have hw_ := wrapI (blockSize * 2) (by omega); omega)
     · exact ⟨fun b => b, WeakerR.ofLI (I := [0]) (Ks := [0]) hI ⟨⟨rfl, rfl⟩, ⟨rfl, rfl⟩, ⟨fn_to rfl hw2, fn_win hw2⟩, ⟨rfl, rfl⟩, trivial⟩ (okH_list rfl rfl rfl (okH_nil)) rfl rfl⟩
  ·
   replace hR := of_false h7 hR
   refine Awp.exit ?_
   subst hR
   exact ⟨.inr rfl, rfl, rfl⟩
def sortStable (x : List Int) (cmp : Int → Int → Int) : List Int :=
  (stableS x (x.length : Int) cmp)
theorem sortStable_calls (x : List Int) (cmp : Int → Int → Int) (g1 : Nat) (caps1 : List AV) (hp1 : ∀ (x0 : Int) (x1 : Int), P_ x0 → P_ x1 → PCalls Try.prog g1 ([.pv (.lit (.int .i64 x0)), .pv (.lit (.int .i64 x1))] ++ caps1) (.pv (.lit (.int .i64 (cmp x0 x1))))) (hw1 : AV.withinL (fun _ => false) caps1 = true) (h24 : x.length ≤ 24) (hs : ∀ y ∈ x, P_ y) (ok : LeOk cmp) : MCalls Try.prog 54 [.sl 0 0 x.length 1 false, .fn g1 [] caps1] (.cells (encC (eI .i64) x)) (.tup []) (.cells (encC (eI .i64) (sortStable x cmp))) := by
 generalize hR : sortStable x cmp = R
 refine MCalls.of_body tabOk Try.func54 rfl rfl rfl (by simp [AV.withinL, AV.within, withinL0 hw1]) rfl (encC_within _ _) (encC_within _ _) mixed fun E hP C hI => ?_
 refine Awp.region C (fun _ => .writer) (by kernel_rfl) ?_
 refine rvP C (.sl 0 0 x.length 1 false) ?_
 refine rvP C (.sl 0 0 x.length 1 false) ?_
 refine rvP C (.pv (.lit (.int .i64 (x.length : Int)))) ?_
 refine rvP C (.fn g1 [] caps1) ?_
 refine rvc_un (rexec_callM hP C (b := 0) rfl rfl rfl (stableS_calls x (x.length : Int) cmp g1 caps1 hp1 hw1 rfl h24 hs ok) (by simp only [AV.renL, AV.ren, AV.renL_none _ hw1]) rfl ?_)
 refine rvc_nil ?_
 subst hR
 exact ⟨.inr rfl, rfl, rfl⟩
end Go.Proofs.Ytoieegmebadfkaa
namespace Go.Proofs.Ytoieegmebadfkaa
open Go.Am
theorem stable_sorts {cmp : Int → Int → Int} (ok : LeOk cmp) {data : List Int} (h : data.length ≤ 24) : (stableS data data.length cmp).Perm data ∧ Srt cmp (gt (stableS data data.length cmp)) 0 data.length := by
  unfold stableS
  rw [show (((data.length : Int) + 20 - 20).toNat) = data.length by omega]
  unfold stableS_l0
  by_cases h1 : 20 ≤ data.length
  · rw [decide_eq_true (by omega : (20 : Int) ≤ (data.length : Int)), cond_true]
    obtain ⟨k, hk⟩ : ∃ k, data.length = k + 1 := ⟨data.length - 1, by omega⟩
    obtain ⟨p1, o1, s1⟩ := ins_sorts ok (a := 0) (b := 20) (data := data) (by omega) (by omega)
    rw [show ((20 : Nat) : Int) = 20 from rfl, show ((0 : Nat) : Int) = 0 from rfl] at p1 o1 s1
    rw [show IntKind.i64.wrap (20 + 20) = 40 by decide]
    generalize insSort data 0 20 cmp = w at p1 o1 s1 ⊢
    have hw := p1.length_eq
    obtain ⟨p2, o2, s2⟩ := ins_sorts ok (a := 20) (b := data.length) (data := w) (by omega) (by omega)
    rw [show ((20 : Nat) : Int) = 20 from rfl] at p2 o2 s2
    have e1 : stableS_l0 (data.length : Int) cmp data.length 20 40 w = stableS_l1 (data.length : Int) cmp (((40 : Int) - 20) / 20).toNat.succ 20 (insSort w 20 data.length cmp) := by
      conv => lhs; rw [show stableS_l0 (data.length : Int) cmp data.length 20 40 w = stableS_l0 (data.length : Int) cmp (k + 1) 20 40 w by rw [← hk]]; unfold stableS_l0
      rw [decide_eq_false (by omega : ¬ (40 : Int) ≤ (data.length : Int)), cond_false]
    rw [e1]
    generalize insSort w 20 data.length cmp = v at p2 o2 s2 ⊢
    have hv := p2.length_eq
    have t1 : Srt cmp (gt v) 0 20 := fun p q r1 r2 r3 => by rw [o2 p (by omega), o2 q (by omega)]; exact s1 p q r1 r2 r3
    unfold stableS_l1
    by_cases h2 : data.length = 20
    · rw [decide_eq_false (by omega : ¬ (20 : Int) < (data.length : Int)), cond_false]
      exact ⟨p2.trans p1, by rw [h2]; exact t1⟩
    · rw [decide_eq_true (by omega : (20 : Int) < (data.length : Int)), cond_true, show IntKind.i64.wrap (2 * 20) = 40 by decide]
      unfold stableS_l2
      rw [decide_eq_false (by omega : ¬ (40 : Int) ≤ (data.length : Int)), cond_false]
      rw [show IntKind.i64.wrap (0 + 20) = 20 by decide, decide_eq_true (by omega : (20 : Int) < (data.length : Int)), cond_true, show IntKind.i64.wrap (20 * 2) = 40 by decide]
      have hp := symO_perm 24 v 0 20 data.length cmp (by omega) (by omega)
      have hs := symO_post ok 24 v 0 20 data.length (by omega) (by omega) (by omega) t1 s2
      rw [show ((20 : Nat) : Int) = 20 from rfl, show ((0 : Nat) : Int) = 0 from rfl] at hp hs
      have e2 : ∀ x, stableS_l1 (data.length : Int) cmp (((40 : Int) - 20) / 20).toNat 40 x = x := fun x => by
        rw [show (((40 : Int) - 20) / 20).toNat = 0 + 1 by decide]
        unfold stableS_l1
        rw [decide_eq_false (by omega : ¬ (40 : Int) < (data.length : Int)), cond_false]
      rw [e2]
      exact ⟨(hp.trans p2).trans p1, hs.2.2⟩
  · rw [decide_eq_false (by omega : ¬ (20 : Int) ≤ (data.length : Int)), cond_false]
    unfold stableS_l1
    rw [decide_eq_false (by omega : ¬ (20 : Int) < (data.length : Int)), cond_false]
    obtain ⟨p1, _, s1⟩ := ins_sorts ok (a := 0) (b := data.length) (data := data) (by omega) (by omega)
    exact ⟨p1, s1⟩
end Go.Proofs.Ytoieegmebadfkaa
namespace Go.Proofs.Ytoieegmebadfkaa
open Go.Am
def mIn (n : Int) : Bool :=
  (bif (decide (n ≥ 0)) then (decide (n < 64)) else false)
theorem mIn_calls (n : Int)  : PCalls Try.prog 61 [.pv (.lit (.int .i64 n))] (.pv (.lit (.bool (mIn n)))) := by
 generalize hR : mIn n = R
 refine PCalls.of_body tabOk Try.func61 rfl rfl rfl rfl rfl mixed fun E hP C hI => ?_
 refine Awp.consP C ?_
 refine rvP C (.pv (.lit (.bool false))) ?_
 refine rvc_nil ?_
 refine Awp.consP C ?_
 refine rvP C (.pv (.lit (.int .i64 n))) ?_
 refine rvP C (.pv (.lit (.bool (decide (n ≥ 0))))) ?_
 refine rvP C (.pv (.lit (.bool (decide (n ≥ 0))))) ?_
 refine rvc_case 5 (decide (n ≥ 0)) rfl (fun h1 => ?_) (fun h1 => ?_)
 ·
  replace hR := of_true h1 hR
  refine rvO C (.pv (.lit (.int .i64 n))) ?_
  refine rvO C (.pv (.lit (.bool (decide (n < 64))))) ?_
  refine rvP C (.pv (.lit (.bool (decide (n < 64))))) ?_
  refine rvP C (.pv (.lit (.bool (decide (n < 64))))) ?_
  refine rvc_nil ?_
  refine Awp.ret ?_
  subst hR
  exact ⟨.inl rfl, rfl⟩
 ·
  replace hR := of_false h1 hR
  refine rvS ?_
  refine rvS ?_
  refine rvP C (.pv (.lit (.bool false))) ?_
  refine rvP C (.pv (.lit (.bool false))) ?_
  refine rvc_nil ?_
  refine Awp.ret ?_
  subst hR
  exact ⟨.inl rfl, rfl⟩
def mHas (s : Int) (n : Int) : Bool :=
  (bif (mIn n) then ((bitI .and .u64 (shrI .u64 s n) 1) == 1) else false)
theorem mHas_calls (s : Int) (n : Int)  : PCalls Try.prog 50 [.pv (.lit (.int .u64 s)), .pv (.lit (.int .i64 n))] (.pv (.lit (.bool (mHas s n)))) := by
 generalize hR : mHas s n = R
 refine PCalls.of_body tabOk Try.func50 rfl rfl rfl rfl rfl mixed fun E hP C hI => ?_
 refine Awp.consP C ?_
 refine rvP C (.pv (.lit (.bool false))) ?_
 refine rvc_nil ?_
 refine Awp.consP C ?_
 refine rvP C (.pv (.lit (.int .i64 n))) ?_
 refine rvc_un (rexec_call hP C rfl rfl rfl (mIn_calls n) ?_)
 refine rvP C (.pv (.lit (.bool (mIn n)))) ?_
 refine rvc_case 7 (mIn n) rfl (fun h1 => ?_) (fun h1 => ?_)
 ·
  replace hR := of_true h1 hR
  refine rvO C (.pv (.lit (.int .u64 s))) ?_
  refine rvO C (.pv (.lit (.int .i64 n))) ?_
  refine rvc_open rfl rfl rfl (rexec_prim C (δ := { v := .pv (.lit (.int .u64 (shrI .u64 s n))) }) rfl rfl rfl rfl (by simp [mIn] at h1; omega) rfl ?_)
  refine rvO C (.pv (.lit (.int .u64 (bitI .and .u64 (shrI .u64 s n) 1)))) ?_
  refine rvO C (.pv (.lit (.bool ((bitI .and .u64 (shrI .u64 s n) 1) == 1)))) ?_
  refine rvP C (.pv (.lit (.bool ((bitI .and .u64 (shrI .u64 s n) 1) == 1)))) ?_
  refine rvP C (.pv (.lit (.bool ((bitI .and .u64 (shrI .u64 s n) 1) == 1)))) ?_
  refine rvc_nil ?_
  refine Awp.ret ?_
  subst hR
  exact ⟨.inl rfl, rfl⟩
 ·
  replace hR := of_false h1 hR
  refine rvS ?_
  refine rvS ?_
  refine rvS ?_
  refine rvS ?_
  refine rvS ?_
  refine rvP C (.pv (.lit (.bool false))) ?_
  refine rvP C (.pv (.lit (.bool false))) ?_
  refine rvc_nil ?_
  refine Awp.ret ?_
  subst hR
  exact ⟨.inl rfl, rfl⟩
def mWith (s : Int) (n : Int) : Int :=
  (bif (!(mIn n)) then s else (bitI .or .u64 s (shlI .u64 1 n)))
theorem mWith_calls (s : Int) (n : Int)  : PCalls Try.prog 52 [.pv (.lit (.int .u64 s)), .pv (.lit (.int .i64 n))] (.pv (.lit (.int .u64 (mWith s n)))) := by
 generalize hR : mWith s n = R
 refine PCalls.of_body tabOk Try.func52 rfl rfl rfl rfl rfl mixed fun E hP C hI => ?_
 refine Awp.consP C ?_
 refine rvP C (.pv (.lit (.int .u64 0))) ?_
 refine rvc_nil ?_
 refine Awp.seq ?_
 refine Awp.consP C ?_
 refine rvP C (.pv (.lit (.int .i64 n))) ?_
 refine rvc_un (rexec_call hP C rfl rfl rfl (mIn_calls n) ?_)
 refine rvP C (.pv (.lit (.bool (!(mIn n))))) ?_
 refine rvc_nil ?_
 refine Awp.cond (b := (!(mIn n))) rfl (fun h1 => ?_) (fun h1 => ?_)
 ·
  replace hR := of_true h1 hR
  refine Awp.consP C ?_
  refine rvP C (.pv (.lit (.int .u64 s))) ?_
  refine rvP C (.pv (.lit (.int .u64 s))) ?_
  refine rvc_nil ?_
  refine Awp.ret ?_
  subst hR
  exact ⟨.inl rfl, rfl⟩
 ·
  replace hR := of_false h1 hR
  refine Awp.skip ?_
  refine Awp.consP C ?_
  refine rvP C (.pv (.lit (.int .u64 s))) ?_
  refine rvP C (.pv (.lit (.int .i64 n))) ?_
  refine rvc_un (rexec_prim C (δ := { v := .pv (.lit (.int .u64 (shlI .u64 1 n))) }) rfl rfl rfl rfl (by simp [mIn] at h1; omega) rfl ?_)
  refine rvP C (.pv (.lit (.int .u64 (bitI .or .u64 s (shlI .u64 1 n))))) ?_
  refine rvP C (.pv (.lit (.int .u64 (bitI .or .u64 s (shlI .u64 1 n))))) ?_
  refine rvc_nil ?_
  refine Awp.ret ?_
  subst hR
  exact ⟨.inl rfl, rfl⟩
def over (o : Op) : Int :=
  (bif (o.ended == 0) then 9223372036854775807 else o.ended)
theorem over_calls (o : Op)  : PCalls Try.prog 62 [.agg [.pv (.lit (.bool o.write)), .pv (.lit (.string o.value)), .pv (.lit (.int .i64 o.ver)), .pv (.lit (.int .i64 o.began)), .pv (.lit (.int .i64 o.ended))]] (.pv (.lit (.int .i64 (over o)))) := by
 generalize hR : over o = R
 refine PCalls.of_body tabOk Try.func62 rfl rfl rfl rfl rfl mixed fun E hP C hI => ?_
 refine Awp.consP C ?_
 refine rvc_un (rexec_prim C (δ := { v := .ptr 1 0, new := [(1, .cells [.pv (.lit (.bool o.write)), .pv (.lit (.string o.value)), .pv (.lit (.int .i64 o.ver)), .pv (.lit (.int .i64 o.began)), .pv (.lit (.int .i64 o.ended))])] }) rfl rfl rfl rfl trivial rfl ?_)
 refine rvP C (.pv (.lit (.int .i64 0))) ?_
 refine rvc_nil ?_
 refine Awp.seq ?_
 refine Awp.consP C ?_
 refine rvP C (.ptr 1 4) ?_
 refine rvP C (.pv (.lit (.int .i64 o.ended))) ?_
 refine rvP C (.pv (.lit (.bool (o.ended == 0)))) ?_
 refine rvc_nil ?_
 refine Awp.cond (b := (o.ended == 0)) rfl (fun h1 => ?_) (fun h1 => ?_)
 ·
  replace hR := of_true h1 hR
  refine Awp.consP C ?_
  refine rvP C (.pv (.lit (.int .i64 9223372036854775807))) ?_
  refine rvc_nil ?_
  refine Awp.ret ?_
  subst hR
  exact ⟨.inl rfl, rfl⟩
 ·
  replace hR := of_false h1 hR
  refine Awp.skip ?_
  refine Awp.consP C ?_
  refine rvP C (.ptr 1 4) ?_
  refine rvP C (.pv (.lit (.int .i64 o.ended))) ?_
  refine rvP C (.pv (.lit (.int .i64 o.ended))) ?_
  refine rvc_nil ?_
  refine Awp.ret ?_
  subst hR
  exact ⟨.inl rfl, rfl⟩
def rightL_l0 : List Op → Nat → Int
  | [], _ => 0
  | x :: xs, i => (bif (decide (x.began < 1)) then 70 else (bif (x.ended != 0) then (bif (decide (x.ended ≤ x.began)) then 70 else (bif (decide (x.ver < 0)) then 70 else (bif (decide (x.ver > 1099511627776)) then 70 else (bif (decide ((x.value.size : Int) > 24)) then 70 else rightL_l0 xs (i + 1) )))) else (bif (decide (x.ver < 0)) then 70 else (bif (decide (x.ver > 1099511627776)) then 70 else (bif (decide ((x.value.size : Int) > 24)) then 70 else rightL_l0 xs (i + 1) )))))
def rightL (l : (Sl Op)) : Int :=
  (bif (decide ((l.D.length : Int) > 24)) then 4 else rightL_l0 l.D 0 )
theorem rightL_calls (l : (Sl Op)) (hl1 : l.D.length ≤ 9223372036854775807) : PCalls Try.prog 29 [sS (some l.nil) eOp l.D] (.pv (.lit (.int .i64 (rightL l)))) := by
 generalize hR : rightL l = R
 refine PCalls.of_body tabOk Try.func29 rfl rfl rfl rfl rfl mixed fun E hP C hI => ?_
 refine Awp.consP C ?_
 refine rvP C (.pv (.lit (.int .i64 0))) ?_
 refine rvc_nil ?_
 refine Awp.seq ?_
 refine Awp.consP C ?_
 refine rvP C (sS (some l.nil) eOp l.D) ?_
 refine rvP C (.pv (.lit (.int .i64 (l.D.length : Int)))) ?_
 refine rvP C (.pv (.lit (.bool (decide ((l.D.length : Int) > 24))))) ?_
 refine rvc_nil ?_
 refine Awp.cond (b := (decide ((l.D.length : Int) > 24))) rfl (fun h1 => ?_) (fun h1 => ?_)
 ·
  replace hR := of_true h1 hR
  refine Awp.consP C ?_
  refine rvP C (.pv (.lit (.int .i64 4))) ?_
  refine rvc_nil ?_
  refine Awp.ret ?_
  subst hR
  exact ⟨.inl rfl, rfl⟩
 ·
  replace hR := of_false h1 hR
  refine Awp.skip ?_
  refine Awp.seq ?_
  refine Awp.consP C ?_
  refine rvP C (sS (some l.nil) eOp l.D) ?_
  refine rvP C (.pv (.lit (.int .i64 (l.D.length : Int)))) ?_
  refine rvP C (.pv (.lit (.int .i64 0))) ?_
  refine rvc_nil ?_
  refine Awp.block ?_
  refine Awp.forR (σ := Unit) (l.D.length) (fun i _v => [(8, sS (some l.nil) eOp l.D), (9, .pv (.lit (.int .i64 (l.D.length : Int)))), (10, .pv (.lit (.int .i64 (i : Int))))]) (fun i _v => []) [] (fun i _v => rightL_l0 (l.D.drop i) i  = R) () ?_ ?_ (fun i _v h2 hR => ?_)
  · exact hR
  · exact ⟨fun b => b, WeakerR.ofL (Ks := []) hI ⟨⟨rfl, rfl⟩, ⟨rfl, rfl⟩, ⟨rfl, rfl⟩, trivial⟩ (okH_nil) rfl⟩
  refine Awp.consP C ?_
  refine rvP C (.pv (.lit (.bool (decide ((i : Int) < (l.D.length : Int)))))) ?_
  refine rvc_nil ?_
  refine Awp.seq ?_
  refine Awp.cond (b := (decide ((i : Int) < (l.D.length : Int)))) rfl (fun h3 => ?_) (fun h3 => ?_)
  ·
   have h4 : i < l.D.length := by have := of_decide_eq_true h3; omega
   obtain ⟨x, h5⟩ := getX h4
   rw [drop_at h5] at hR
   refine Awp.skip ?_
   refine Awp.seq ?_
   refine Awp.block ?_
   refine Awp.consP C ?_
   refine rvc_un (rexec_idxS C rfl rfl rfl rfl rfl rfl x (Int.natCast_nonneg _) h5 ?_)
   refine rvP C (.agg [.pv (.lit (.bool x.write)), .pv (.lit (.string x.value)), .pv (.lit (.int .i64 x.ver)), .pv (.lit (.int .i64 x.began)), .pv (.lit (.int .i64 x.ended))]) ?_
   refine rvc_un (rexec_prim C (δ := { v := .ptr 4 0, new := [(4, .cells [.pv (.lit (.bool false)), .pv (.lit (.string ⟨#[]⟩)), .pv (.lit (.int .i64 0)), .pv (.lit (.int .i64 0)), .pv (.lit (.int .i64 0))])] }) rfl rfl rfl rfl trivial rfl ?_)
   refine rvc_un (rexec_prim C (δ := { v := .undef, wr := [(4, some (.cells [.pv (.lit (.bool x.write)), .pv (.lit (.string x.value)), .pv (.lit (.int .i64 x.ver)), .pv (.lit (.int .i64 x.began)), .pv (.lit (.int .i64 x.ended))]))] }) rfl rfl rfl rfl trivial rfl ?_)
   refine rvc_nil ?_
   refine Awp.consP C ?_
   refine rvP C (.ptr 4 3) ?_
   refine rvP C (.pv (.lit (.int .i64 x.began))) ?_
   refine rvP C (.pv (.lit (.bool (decide (x.began < 1))))) ?_
   refine rvP C (.pv (.lit (.bool (decide (x.began < 1))))) ?_
   refine rvc_case 17 (decide (x.began < 1)) rfl (fun h6 => ?_) (fun h6 => ?_)
   ·
    replace hR := of_true h6 hR
    refine rvS ?_
    refine rvS ?_
    refine rvS ?_
    refine rvS ?_
    refine rvc_shutU rfl rfl rfl ?_
    refine rvc_shutU rfl rfl rfl ?_
    refine rvc_shutU rfl rfl rfl ?_
    refine rvc_shutU rfl rfl rfl ?_
    refine rvc_shutU rfl rfl rfl ?_
    refine rvS ?_
    refine rvP C (.pv (.lit (.bool true))) ?_
    refine rvP C (.pv (.lit (.bool true))) ?_
    refine rvS ?_
    refine rvS ?_
    refine rvS ?_
    refine rvP C (.pv (.lit (.bool true))) ?_
    refine rvP C (.pv (.lit (.bool true))) ?_
    refine rvS ?_
    refine rvS ?_
    refine rvS ?_
    refine rvP C (.pv (.lit (.bool true))) ?_
    refine rvP C (.pv (.lit (.bool true))) ?_
    refine rvS ?_
    refine rvS ?_
    refine rvS ?_
    refine rvS ?_
    refine rvP C (.pv (.lit (.bool true))) ?_
    refine rvc_nil ?_
    refine Awp.condT (b := true) rfl rfl ?_
    refine Awp.consP C ?_
    refine rvP C (.pv (.lit (.int .i64 70))) ?_
    refine rvc_nil ?_
    refine Awp.ret ?_
    subst hR
    exact ⟨.inl rfl, rfl⟩
   ·
    replace hR := of_false h6 hR
    refine rvO C (.ptr 4 4) ?_
    refine rvO C (.pv (.lit (.int .i64 x.ended))) ?_
    refine rvO C (.pv (.lit (.bool (x.ended != 0)))) ?_
    refine rvO C (.pv (.lit (.bool (x.ended != 0)))) ?_
    refine rvc_case 21 (x.ended != 0) rfl (fun h7 => ?_) (fun h7 => ?_)
    ·
     replace hR := of_true h7 hR
     refine rvO C (.ptr 4 4) ?_
     refine rvO C (.pv (.lit (.int .i64 x.ended))) ?_
     refine rvO C (.ptr 4 3) ?_
     refine rvO C (.pv (.lit (.int .i64 x.began))) ?_
     refine rvO C (.pv (.lit (.bool (decide (x.ended ≤ x.began))))) ?_
     refine rvO C (.pv (.lit (.bool (decide (x.ended ≤ x.began))))) ?_
     refine rvP C (.pv (.lit (.bool (decide (x.ended ≤ x.began))))) ?_
     refine rvP C (.pv (.lit (.bool (decide (x.ended ≤ x.began))))) ?_
     refine rvc_case 29 (decide (x.ended ≤ x.began)) rfl (fun h8 => ?_) (fun h8 => ?_)
     ·
      replace hR := of_true h8 hR
      refine rvS ?_
      refine rvS ?_
      refine rvS ?_
      refine rvP C (.pv (.lit (.bool true))) ?_
      refine rvP C (.pv (.lit (.bool true))) ?_
      refine rvS ?_
      refine rvS ?_
      refine rvS ?_
      refine rvP C (.pv (.lit (.bool true))) ?_
      refine rvP C (.pv (.lit (.bool true))) ?_
      refine rvS ?_
      refine rvS ?_
      refine rvS ?_
      refine rvS ?_
      refine rvP C (.pv (.lit (.bool true))) ?_
      refine rvc_nil ?_
      refine Awp.condT (b := true) rfl rfl ?_
      refine Awp.consP C ?_
      refine rvP C (.pv (.lit (.int .i64 70))) ?_
      refine rvc_nil ?_
      refine Awp.ret ?_
      subst hR
      exact ⟨.inl rfl, rfl⟩
     ·
      replace hR := of_false h8 hR
      refine rvO C (.ptr 4 2) ?_
      refine rvO C (.pv (.lit (.int .i64 x.ver))) ?_
      refine rvO C (.pv (.lit (.bool (decide (x.ver < 0))))) ?_
      refine rvP C (.pv (.lit (.bool (decide (x.ver < 0))))) ?_
      refine rvP C (.pv (.lit (.bool (decide (x.ver < 0))))) ?_
      refine rvc_case 34 (decide (x.ver < 0)) rfl (fun h9 => ?_) (fun h9 => ?_)
      ·
       replace hR := of_true h9 hR
       refine rvS ?_
       refine rvS ?_
       refine rvS ?_
       refine rvP C (.pv (.lit (.bool true))) ?_
       refine rvP C (.pv (.lit (.bool true))) ?_
       refine rvS ?_
       refine rvS ?_
       refine rvS ?_
       refine rvS ?_
       refine rvP C (.pv (.lit (.bool true))) ?_
       refine rvc_nil ?_
       refine Awp.condT (b := true) rfl rfl ?_
       refine Awp.consP C ?_
       refine rvP C (.pv (.lit (.int .i64 70))) ?_
       refine rvc_nil ?_
       refine Awp.ret ?_
       subst hR
       exact ⟨.inl rfl, rfl⟩
      ·
       replace hR := of_false h9 hR
       refine rvO C (.ptr 4 2) ?_
       refine rvO C (.pv (.lit (.int .i64 x.ver))) ?_
       refine rvO C (.pv (.lit (.bool (decide (x.ver > 1099511627776))))) ?_
       refine rvP C (.pv (.lit (.bool (decide (x.ver > 1099511627776))))) ?_
       refine rvP C (.pv (.lit (.bool (decide (x.ver > 1099511627776))))) ?_
       refine rvc_case 39 (decide (x.ver > 1099511627776)) rfl (fun h10 => ?_) (fun h10 => ?_)
       ·
        replace hR := of_true h10 hR
        refine rvS ?_
        refine rvS ?_
        refine rvS ?_
        refine rvS ?_
        refine rvP C (.pv (.lit (.bool true))) ?_
        refine rvc_nil ?_
        refine Awp.condT (b := true) rfl rfl ?_
        refine Awp.consP C ?_
        refine rvP C (.pv (.lit (.int .i64 70))) ?_
        refine rvc_nil ?_
        refine Awp.ret ?_
        subst hR
        exact ⟨.inl rfl, rfl⟩
       ·
        replace hR := of_false h10 hR
        refine rvO C (.ptr 4 1) ?_
        refine rvO C (.pv (.lit (.string x.value))) ?_
        refine rvO C (.pv (.lit (.int .i64 (x.value.size : Int)))) ?_
        refine rvO C (.pv (.lit (.bool (decide ((x.value.size : Int) > 24))))) ?_
        refine rvP C (.pv (.lit (.bool (decide ((x.value.size : Int) > 24))))) ?_
        refine rvc_nil ?_
        refine Awp.cond (b := (decide ((x.value.size : Int) > 24))) rfl (fun h11 => ?_) (fun h11 => ?_)
        ·
         replace hR := of_true h11 hR
         refine Awp.consP C ?_
         refine rvP C (.pv (.lit (.int .i64 70))) ?_
         refine rvc_nil ?_
         refine Awp.ret ?_
         subst hR
         exact ⟨.inl rfl, rfl⟩
        ·
         replace hR := of_false h11 hR
         refine Awp.skip ?_
         refine Awp.regionP C ?_
         refine rvP C (.pv (.lit (.int .i64 (IntKind.i64.wrap ((i : Int) + 1))))) ?_
         refine rvP C (.pv (.lit (.int .i64 (IntKind.i64.wrap ((i : Int) + 1))))) ?_
         refine rvc_nil ?_
         refine ⟨h4, (), ?_, ?_⟩
         · exact hR
         · exact ⟨fun b => b, WeakerR.ofL (Ks := []) hI ⟨⟨rfl, rfl⟩, ⟨rfl, rfl⟩, ⟨lit_cast (wrap_i64 (by omega) (by omega)), rfl⟩, trivial⟩ (okH_nil) rfl⟩
    ·
     replace hR := of_false h7 hR
     refine rvS ?_
     refine rvS ?_
     refine rvS ?_
     refine rvS ?_
     refine rvS ?_
     refine rvO C (.pv (.lit (.bool false))) ?_
     refine rvP C (.pv (.lit (.bool false))) ?_
     refine rvP C (.pv (.lit (.bool false))) ?_
     refine rvO C (.ptr 4 2) ?_
     refine rvO C (.pv (.lit (.int .i64 x.ver))) ?_
     refine rvO C (.pv (.lit (.bool (decide (x.ver < 0))))) ?_
     refine rvP C (.pv (.lit (.bool (decide (x.ver < 0))))) ?_
     refine rvP C (.pv (.lit (.bool (decide (x.ver < 0))))) ?_
     refine rvc_case 34 (decide (x.ver < 0)) rfl (fun h12 => ?_) (fun h12 => ?_)
     ·
      replace hR := of_true h12 hR
      refine rvS ?_
      refine rvS ?_
      refine rvS ?_
      refine rvP C (.pv (.lit (.bool true))) ?_
      refine rvP C (.pv (.lit (.bool true))) ?_
      refine rvS ?_
      refine rvS ?_
      refine rvS ?_
      refine rvS ?_
      refine rvP C (.pv (.lit (.bool true))) ?_
      refine rvc_nil ?_
      refine Awp.condT (b := true) rfl rfl ?_
      refine Awp.consP C ?_
      refine rvP C (.pv (.lit (.int .i64 70))) ?_
      refine rvc_nil ?_
      refine Awp.ret ?_
      subst hR
      exact ⟨.inl rfl, rfl⟩
     ·
      replace hR := of_false h12 hR
      refine rvO C (.ptr 4 2) ?_
      refine rvO C (.pv (.lit (.int .i64 x.ver))) ?_
      refine rvO C (.pv (.lit (.bool (decide (x.ver > 1099511627776))))) ?_
      refine rvP C (.pv (.lit (.bool (decide (x.ver > 1099511627776))))) ?_
      refine rvP C (.pv (.lit (.bool (decide (x.ver > 1099511627776))))) ?_
      refine rvc_case 39 (decide (x.ver > 1099511627776)) rfl (fun h13 => ?_) (fun h13 => ?_)
      ·
       replace hR := of_true h13 hR
       refine rvS ?_
       refine rvS ?_
       refine rvS ?_
       refine rvS ?_
       refine rvP C (.pv (.lit (.bool true))) ?_
       refine rvc_nil ?_
       refine Awp.condT (b := true) rfl rfl ?_
       refine Awp.consP C ?_
       refine rvP C (.pv (.lit (.int .i64 70))) ?_
       refine rvc_nil ?_
       refine Awp.ret ?_
       subst hR
       exact ⟨.inl rfl, rfl⟩
      ·
       replace hR := of_false h13 hR
       refine rvO C (.ptr 4 1) ?_
       refine rvO C (.pv (.lit (.string x.value))) ?_
       refine rvO C (.pv (.lit (.int .i64 (x.value.size : Int)))) ?_
       refine rvO C (.pv (.lit (.bool (decide ((x.value.size : Int) > 24))))) ?_
       refine rvP C (.pv (.lit (.bool (decide ((x.value.size : Int) > 24))))) ?_
       refine rvc_nil ?_
       refine Awp.cond (b := (decide ((x.value.size : Int) > 24))) rfl (fun h14 => ?_) (fun h14 => ?_)
       ·
        replace hR := of_true h14 hR
        refine Awp.consP C ?_
        refine rvP C (.pv (.lit (.int .i64 70))) ?_
        refine rvc_nil ?_
        refine Awp.ret ?_
        subst hR
        exact ⟨.inl rfl, rfl⟩
       ·
        replace hR := of_false h14 hR
        refine Awp.skip ?_
        refine Awp.regionP C ?_
        refine rvP C (.pv (.lit (.int .i64 (IntKind.i64.wrap ((i : Int) + 1))))) ?_
        refine rvP C (.pv (.lit (.int .i64 (IntKind.i64.wrap ((i : Int) + 1))))) ?_
        refine rvc_nil ?_
        refine ⟨h4, (), ?_, ?_⟩
        · exact hR
        · exact ⟨fun b => b, WeakerR.ofL (Ks := []) hI ⟨⟨rfl, rfl⟩, ⟨rfl, rfl⟩, ⟨lit_cast (wrap_i64 (by omega) (by omega)), rfl⟩, trivial⟩ (okH_nil) rfl⟩
  ·
   have h4 : ¬ i < l.D.length := by have := of_decide_eq_false h3; omega
   rw [drop_end h4] at hR
   refine Awp.exit ?_
   refine Awp.consP C ?_
   refine rvP C (.pv (.lit (.int .i64 0))) ?_
   refine rvc_nil ?_
   refine Awp.ret ?_
   subst hR
   exact ⟨.inl rfl, rfl⟩
end Go.Proofs.Ytoieegmebadfkaa
namespace Go.Proofs.Ytoieegmebadfkaa
open Go.Am
structure Point where
  done : Int
  value : ByteArray
  deriving Inhabited
structure Search where
  l : (Sl Op)
  been : (List (Point × Bool))
  row : (Sl Int)
  deriving Inhabited
def allSM_l0 (done : Int) : List Op → Nat → Bool
  | [], _ => true
  | x :: xs, i => (bif (x.ended != 0) then (bif (!(mHas done (i : Int))) then false else allSM_l0 done xs (i + 1) ) else allSM_l0 done xs (i + 1) )
def allSM (s : Search) (done : Int) : Bool :=
  allSM_l0 done s.l.D 0
theorem allSM_calls (s : Search) (done : Int) (hl1 : s.l.D.length ≤ 9223372036854775807) : ObjCalls Try.prog 53 [.ptr 0 0, .pv (.lit (.int .u64 done))] [sS (some s.l.nil) eOp s.l.D, .pv (.lit (.map none)), sS (some true) (eI .i64) []] [] (.pv (.lit (.bool (allSM s done)))) [sS (some s.l.nil) eOp s.l.D, .pv (.lit (.map none)), sS (some true) (eI .i64) []] [] := by
 generalize hR : allSM s done = R
 refine ObjCalls.of_body tabOk Try.func53 rfl rfl rfl rfl rfl allB_nil (of_decide_eq_true rfl) rfl rfl allB_nil (of_decide_eq_true rfl) mixed fun E hP C hI => ?_
 refine Awp.consP C ?_
 refine rvP C (.pv (.lit (.bool false))) ?_
 refine rvc_nil ?_
 refine Awp.seq ?_
 refine Awp.consP C ?_
 refine rvP C (.ptr 0 0) ?_
 refine rvP C (.ptr 0 0) ?_
 refine rvP C (.ptr 0 0) ?_
 refine rvP C (sS (some s.l.nil) eOp s.l.D) ?_
 refine rvP C (.pv (.lit (.int .i64 (s.l.D.length : Int)))) ?_
 refine rvP C (.pv (.lit (.int .i64 0))) ?_
 refine rvc_nil ?_
 refine Awp.block ?_
 refine Awp.forR (σ := Unit) (s.l.D.length) (fun i _v => [(0, .ptr 0 0), (1, .pv (.lit (.int .u64 done))), (10, sS (some s.l.nil) eOp s.l.D), (11, .pv (.lit (.int .i64 (s.l.D.length : Int)))), (12, .pv (.lit (.int .i64 (i : Int))))]) (fun i _v => [(0, .cells [sS (some s.l.nil) eOp s.l.D, .pv (.lit (.map none)), sS (some true) (eI .i64) []])]) [0] (fun i _v => allSM_l0 done (s.l.D.drop i) i  = R) () ?_ ?_ (fun i _v h1 hR => ?_)
 · exact hR
 · exact ⟨fun b => b, WeakerR.ofLI (I := [0]) (Ks := [0]) hI ⟨⟨rfl, rfl⟩, ⟨rfl, rfl⟩, ⟨rfl, rfl⟩, ⟨rfl, rfl⟩, ⟨rfl, rfl⟩, trivial⟩ (okH_cons rfl rfl rfl rfl (okH_nil)) rfl rfl⟩
 refine Awp.consP C ?_
 refine rvP C (.pv (.lit (.bool (decide ((i : Int) < (s.l.D.length : Int)))))) ?_
 refine rvc_nil ?_
 refine Awp.seq ?_
 refine Awp.cond (b := (decide ((i : Int) < (s.l.D.length : Int)))) rfl (fun h2 => ?_) (fun h2 => ?_)
 ·
  have h3 : i < s.l.D.length := by have := of_decide_eq_true h2; omega
  obtain ⟨x, h4⟩ := getX h3
  rw [drop_at h4] at hR
  refine Awp.skip ?_
  refine Awp.seq ?_
  refine Awp.block ?_
  refine Awp.consP C ?_
  refine rvP C (.pv (.lit (.int .i64 (i : Int)))) ?_
  refine rvc_un (rexec_idxS C rfl rfl rfl rfl rfl rfl x (Int.natCast_nonneg _) h4 ?_)
  refine rvP C (.agg [.pv (.lit (.bool x.write)), .pv (.lit (.string x.value)), .pv (.lit (.int .i64 x.ver)), .pv (.lit (.int .i64 x.began)), .pv (.lit (.int .i64 x.ended))]) ?_
  refine rvc_un (rexec_prim C (δ := { v := .ptr 6 0, new := [(6, .cells [.pv (.lit (.bool false)), .pv (.lit (.string ⟨#[]⟩)), .pv (.lit (.int .i64 0)), .pv (.lit (.int .i64 0)), .pv (.lit (.int .i64 0))])] }) rfl rfl rfl rfl trivial rfl ?_)
  refine rvP C (.pv (.lit (.int .i64 (i : Int)))) ?_
  refine rvc_un (rexec_prim C (δ := { v := .undef, wr := [(6, some (.cells [.pv (.lit (.bool x.write)), .pv (.lit (.string x.value)), .pv (.lit (.int .i64 x.ver)), .pv (.lit (.int .i64 x.began)), .pv (.lit (.int .i64 x.ended))]))] }) rfl rfl rfl rfl trivial rfl ?_)
  refine rvc_nil ?_
  refine Awp.consP C ?_
  refine rvP C (.ptr 6 4) ?_
  refine rvP C (.pv (.lit (.int .i64 x.ended))) ?_
  refine rvP C (.pv (.lit (.bool (x.ended != 0)))) ?_
  refine rvP C (.pv (.lit (.bool (x.ended != 0)))) ?_
  refine rvc_case 20 (x.ended != 0) rfl (fun h5 => ?_) (fun h5 => ?_)
  ·
   replace hR := of_true h5 hR
   refine rvO C (.pv (.lit (.int .u64 done))) ?_
   refine rvO C (.pv (.lit (.int .i64 (i : Int)))) ?_
   refine rvc_open rfl rfl rfl (rexec_call hP C rfl rfl rfl (mHas_calls done (i : Int)) ?_)
   refine rvO C (.pv (.lit (.bool (!(mHas done (i : Int)))))) ?_
   refine rvP C (.pv (.lit (.bool (!(mHas done (i : Int)))))) ?_
   refine rvc_nil ?_
   refine Awp.cond (b := (!(mHas done (i : Int)))) rfl (fun h6 => ?_) (fun h6 => ?_)
   ·
    replace hR := of_true h6 hR
    refine Awp.consP C ?_
    refine rvP C (.pv (.lit (.bool false))) ?_
    refine rvc_nil ?_
    refine Awp.ret ?_
    subst hR
    exact ⟨.inl rfl, rfl, rfl, trivial⟩
   ·
    replace hR := of_false h6 hR
    refine Awp.skip ?_
    refine Awp.regionP C ?_
    refine rvP C (.pv (.lit (.int .i64 (IntKind.i64.wrap ((i : Int) + 1))))) ?_
    refine rvP C (.pv (.lit (.int .i64 (IntKind.i64.wrap ((i : Int) + 1))))) ?_
    refine rvc_nil ?_
    refine ⟨h3, (), ?_, ?_⟩
    · exact hR
    · exact ⟨fun b => b, WeakerR.ofLI (I := [0]) (Ks := [0]) hI ⟨⟨rfl, rfl⟩, ⟨rfl, rfl⟩, ⟨rfl, rfl⟩, ⟨rfl, rfl⟩, ⟨lit_cast (wrap_i64 (by omega) (by omega)), rfl⟩, trivial⟩ (okH_cons rfl rfl rfl rfl (okH_nil)) rfl rfl⟩
  ·
   replace hR := of_false h5 hR
   refine rvS ?_
   refine rvS ?_
   refine rvS ?_
   refine rvS ?_
   refine rvP C (.pv (.lit (.bool false))) ?_
   refine rvc_nil ?_
   refine Awp.condF (b := false) rfl rfl ?_
   refine Awp.skip ?_
   refine Awp.regionP C ?_
   refine rvP C (.pv (.lit (.int .i64 (IntKind.i64.wrap ((i : Int) + 1))))) ?_
   refine rvP C (.pv (.lit (.int .i64 (IntKind.i64.wrap ((i : Int) + 1))))) ?_
   refine rvc_nil ?_
   refine ⟨h3, (), ?_, ?_⟩
   · exact hR
   · exact ⟨fun b => b, WeakerR.ofLI (I := [0]) (Ks := [0]) hI ⟨⟨rfl, rfl⟩, ⟨rfl, rfl⟩, ⟨rfl, rfl⟩, ⟨rfl, rfl⟩, ⟨lit_cast (wrap_i64 (by omega) (by omega)), rfl⟩, trivial⟩ (okH_cons rfl rfl rfl rfl (okH_nil)) rfl rfl⟩
 ·
  have h3 : ¬ i < s.l.D.length := by have := of_decide_eq_false h2; omega
  rw [drop_end h3] at hR
  refine Awp.exit ?_
  refine Awp.consP C ?_
  refine rvP C (.pv (.lit (.bool true))) ?_
  refine rvc_nil ?_
  refine Awp.ret ?_
  subst hR
  exact ⟨.inl rfl, rfl, rfl, trivial⟩
def firstSM_l0 (s : Search) (i : Int) (done : Int) : List Op → Nat → Bool
  | [], _ => true
  | x :: xs, i1 => (bif ((i1 : Int) != i) then (bif (!(mHas done (i1 : Int))) then (bif (decide ((over x) < (s.l.D[i.toNat]!.began))) then false else firstSM_l0 s i done xs (i1 + 1) ) else firstSM_l0 s i done xs (i1 + 1) ) else firstSM_l0 s i done xs (i1 + 1) )
def firstSM (s : Search) (i : Int) (done : Int) : Bool :=
  firstSM_l0 s i done s.l.D 0
theorem firstSM_calls (s : Search) (i : Int) (done : Int) (hi : 0 ≤ i ∧ i < (s.l.D.length : Int)) (hl1 : s.l.D.length ≤ 9223372036854775807) : ObjCalls Try.prog 51 [.ptr 0 0, .pv (.lit (.int .i64 i)), .pv (.lit (.int .u64 done))] [sS (some s.l.nil) eOp s.l.D, .pv (.lit (.map none)), sS (some true) (eI .i64) []] [] (.pv (.lit (.bool (firstSM s i done)))) [sS (some s.l.nil) eOp s.l.D, .pv (.lit (.map none)), sS (some true) (eI .i64) []] [] := by
 generalize hR : firstSM s i done = R
 refine ObjCalls.of_body tabOk Try.func51 rfl rfl rfl rfl rfl allB_nil (of_decide_eq_true rfl) rfl rfl allB_nil (of_decide_eq_true rfl) mixed fun E hP C hI => ?_
 refine Awp.consP C ?_
 refine rvP C (.pv (.lit (.bool false))) ?_
 refine rvc_nil ?_
 refine Awp.seq ?_
 refine Awp.consP C ?_
 refine rvP C (.ptr 0 0) ?_
 refine rvP C (.ptr 0 0) ?_
 refine rvP C (.ptr 0 0) ?_
 refine rvP C (sS (some s.l.nil) eOp s.l.D) ?_
 refine rvP C (.pv (.lit (.int .i64 (s.l.D.length : Int)))) ?_
 refine rvP C (.pv (.lit (.int .i64 0))) ?_
 refine rvc_nil ?_
 refine Awp.block ?_
 refine Awp.forR (σ := Unit) (s.l.D.length) (fun i1 _v => [(0, .ptr 0 0), (1, .pv (.lit (.int .i64 i))), (2, .pv (.lit (.int .u64 done))), (12, sS (some s.l.nil) eOp s.l.D), (13, .pv (.lit (.int .i64 (s.l.D.length : Int)))), (14, .pv (.lit (.int .i64 (i1 : Int))))]) (fun i1 _v => [(0, .cells [sS (some s.l.nil) eOp s.l.D, .pv (.lit (.map none)), sS (some true) (eI .i64) []])]) [0] (fun i1 _v => firstSM_l0 s i done (s.l.D.drop i1) i1  = R) () ?_ ?_ (fun i1 _v h1 hR => ?_)
 · exact hR
 · exact ⟨fun b => b, WeakerR.ofLI (I := [0]) (Ks := [0]) hI ⟨⟨rfl, rfl⟩, ⟨rfl, rfl⟩, ⟨rfl, rfl⟩, ⟨rfl, rfl⟩, ⟨rfl, rfl⟩, ⟨rfl, rfl⟩, trivial⟩ (okH_cons rfl rfl rfl rfl (okH_nil)) rfl rfl⟩
 refine Awp.consP C ?_
 refine rvP C (.pv (.lit (.bool (decide ((i1 : Int) < (s.l.D.length : Int)))))) ?_
 refine rvc_nil ?_
 refine Awp.seq ?_
 refine Awp.cond (b := (decide ((i1 : Int) < (s.l.D.length : Int)))) rfl (fun h2 => ?_) (fun h2 => ?_)
 ·
  have h3 : i1 < s.l.D.length := by have := of_decide_eq_true h2; omega
  obtain ⟨x, h4⟩ := getX h3
  rw [drop_at h4] at hR
  refine Awp.skip ?_
  refine Awp.seq ?_
  refine Awp.block ?_
  refine Awp.consP C ?_
  refine rvP C (.pv (.lit (.int .i64 (i1 : Int)))) ?_
  refine rvc_un (rexec_idxS C rfl rfl rfl rfl rfl rfl x (Int.natCast_nonneg _) h4 ?_)
  refine rvP C (.agg [.pv (.lit (.bool x.write)), .pv (.lit (.string x.value)), .pv (.lit (.int .i64 x.ver)), .pv (.lit (.int .i64 x.began)), .pv (.lit (.int .i64 x.ended))]) ?_
  refine rvc_un (rexec_prim C (δ := { v := .ptr 8 0, new := [(8, .cells [.pv (.lit (.bool false)), .pv (.lit (.string ⟨#[]⟩)), .pv (.lit (.int .i64 0)), .pv (.lit (.int .i64 0)), .pv (.lit (.int .i64 0))])] }) rfl rfl rfl rfl trivial rfl ?_)
  refine rvP C (.pv (.lit (.int .i64 (i1 : Int)))) ?_
  refine rvc_un (rexec_prim C (δ := { v := .undef, wr := [(8, some (.cells [.pv (.lit (.bool x.write)), .pv (.lit (.string x.value)), .pv (.lit (.int .i64 x.ver)), .pv (.lit (.int .i64 x.began)), .pv (.lit (.int .i64 x.ended))]))] }) rfl rfl rfl rfl trivial rfl ?_)
  refine rvc_nil ?_
  refine Awp.consP C ?_
  refine rvP C (.pv (.lit (.int .i64 (i1 : Int)))) ?_
  refine rvP C (.pv (.lit (.int .i64 i))) ?_
  refine rvP C (.pv (.lit (.bool ((i1 : Int) != i)))) ?_
  refine rvP C (.pv (.lit (.bool ((i1 : Int) != i)))) ?_
  refine rvc_case 22 ((i1 : Int) != i) rfl (fun h5 => ?_) (fun h5 => ?_)
  ·
   replace hR := of_true h5 hR
   refine rvO C (.pv (.lit (.int .u64 done))) ?_
   refine rvO C (.pv (.lit (.int .i64 (i1 : Int)))) ?_
   refine rvc_open rfl rfl rfl (rexec_call hP C rfl rfl rfl (mHas_calls done (i1 : Int)) ?_)
   refine rvO C (.pv (.lit (.bool (!(mHas done (i1 : Int)))))) ?_
   refine rvP C (.pv (.lit (.bool (!(mHas done (i1 : Int)))))) ?_
   refine rvP C (.pv (.lit (.bool (!(mHas done (i1 : Int)))))) ?_
   refine rvc_case 28 (!(mHas done (i1 : Int))) rfl (fun h6 => ?_) (fun h6 => ?_)
   ·
    replace hR := of_true h6 hR
    refine rvO C (.agg [.pv (.lit (.bool x.write)), .pv (.lit (.string x.value)), .pv (.lit (.int .i64 x.ver)), .pv (.lit (.int .i64 x.began)), .pv (.lit (.int .i64 x.ended))]) ?_
    refine rvc_open rfl rfl rfl (rexec_call hP C rfl rfl rfl (over_calls x) ?_)
    refine rvO C (.ptr 0 0) ?_
    refine rvO C (.ptr 0 0) ?_
    refine rvO C (.ptr 0 0) ?_
    refine rvO C (sS (some s.l.nil) eOp s.l.D) ?_
    refine rvO C (.pv (.lit (.int .i64 i))) ?_
    have h7 : s.l.D[i.toNat]? = some s.l.D[i.toNat]! := getE (by have := of_decide_eq_true h2; have := bne_iff_ne.1 h5; omega)
    refine rvc_open rfl rfl rfl (rexec_idxS C rfl rfl rfl rfl rfl rfl (s.l.D[i.toNat]!) (by have := of_decide_eq_true h2; have := bne_iff_ne.1 h5; omega) h7 ?_)
    refine rvO C (.rp [.lit (.int .i64 (s.l.D[i.toNat]!.began))]) ?_
    refine rvO C (.pv (.lit (.int .i64 (s.l.D[i.toNat]!.began)))) ?_
    refine rvO C (.pv (.lit (.bool (decide ((over x) < (s.l.D[i.toNat]!.began)))))) ?_
    refine rvP C (.pv (.lit (.bool (decide ((over x) < (s.l.D[i.toNat]!.began)))))) ?_
    refine rvc_nil ?_
    refine Awp.cond (b := (decide ((over x) < (s.l.D[i.toNat]!.began)))) rfl (fun h8 => ?_) (fun h8 => ?_)
    ·
     replace hR := of_true h8 hR
     refine Awp.consP C ?_
     refine rvP C (.pv (.lit (.bool false))) ?_
     refine rvc_nil ?_
     refine Awp.ret ?_
     subst hR
     exact ⟨.inl rfl, rfl, rfl, trivial⟩
    ·
     replace hR := of_false h8 hR
     refine Awp.skip ?_
     refine Awp.regionP C ?_
     refine rvP C (.pv (.lit (.int .i64 (IntKind.i64.wrap ((i1 : Int) + 1))))) ?_
     refine rvP C (.pv (.lit (.int .i64 (IntKind.i64.wrap ((i1 : Int) + 1))))) ?_
     refine rvc_nil ?_
     refine ⟨h3, (), ?_, ?_⟩
     · exact hR
     · exact ⟨fun b => b, WeakerR.ofLI (I := [0]) (Ks := [0]) hI ⟨⟨rfl, rfl⟩, ⟨rfl, rfl⟩, ⟨rfl, rfl⟩, ⟨rfl, rfl⟩, ⟨rfl, rfl⟩, ⟨lit_cast (wrap_i64 (by omega) (by omega)), rfl⟩, trivial⟩ (okH_cons rfl rfl rfl rfl (okH_nil)) rfl rfl⟩
   ·
    replace hR := of_false h6 hR
    refine rvS ?_
    refine rvS ?_
    refine rvS ?_
    refine rvS ?_
    refine rvS ?_
    refine rvS ?_
    refine rvS ?_
    refine rvS ?_
    refine rvS ?_
    refine rvS ?_
    refine rvS ?_
    refine rvP C (.pv (.lit (.bool false))) ?_
    refine rvc_nil ?_
    refine Awp.condF (b := false) rfl rfl ?_
    refine Awp.skip ?_
    refine Awp.regionP C ?_
    refine rvP C (.pv (.lit (.int .i64 (IntKind.i64.wrap ((i1 : Int) + 1))))) ?_
    refine rvP C (.pv (.lit (.int .i64 (IntKind.i64.wrap ((i1 : Int) + 1))))) ?_
    refine rvc_nil ?_
    refine ⟨h3, (), ?_, ?_⟩
    · exact hR
    · exact ⟨fun b => b, WeakerR.ofLI (I := [0]) (Ks := [0]) hI ⟨⟨rfl, rfl⟩, ⟨rfl, rfl⟩, ⟨rfl, rfl⟩, ⟨rfl, rfl⟩, ⟨rfl, rfl⟩, ⟨lit_cast (wrap_i64 (by omega) (by omega)), rfl⟩, trivial⟩ (okH_cons rfl rfl rfl rfl (okH_nil)) rfl rfl⟩
  ·
   replace hR := of_false h5 hR
   refine rvS ?_
   refine rvS ?_
   refine rvS ?_
   refine rvS ?_
   refine rvP C (.pv (.lit (.bool false))) ?_
   refine rvP C (.pv (.lit (.bool false))) ?_
   refine rvS ?_
   refine rvS ?_
   refine rvS ?_
   refine rvS ?_
   refine rvS ?_
   refine rvS ?_
   refine rvS ?_
   refine rvS ?_
   refine rvS ?_
   refine rvS ?_
   refine rvS ?_
   refine rvP C (.pv (.lit (.bool false))) ?_
   refine rvc_nil ?_
   refine Awp.condF (b := false) rfl rfl ?_
   refine Awp.skip ?_
   refine Awp.regionP C ?_
   refine rvP C (.pv (.lit (.int .i64 (IntKind.i64.wrap ((i1 : Int) + 1))))) ?_
   refine rvP C (.pv (.lit (.int .i64 (IntKind.i64.wrap ((i1 : Int) + 1))))) ?_
   refine rvc_nil ?_
   refine ⟨h3, (), ?_, ?_⟩
   · exact hR
   · exact ⟨fun b => b, WeakerR.ofLI (I := [0]) (Ks := [0]) hI ⟨⟨rfl, rfl⟩, ⟨rfl, rfl⟩, ⟨rfl, rfl⟩, ⟨rfl, rfl⟩, ⟨rfl, rfl⟩, ⟨lit_cast (wrap_i64 (by omega) (by omega)), rfl⟩, trivial⟩ (okH_cons rfl rfl rfl rfl (okH_nil)) rfl rfl⟩
 ·
  have h3 : ¬ i1 < s.l.D.length := by have := of_decide_eq_false h2; omega
  rw [drop_end h3] at hR
  refine Awp.exit ?_
  refine Awp.consP C ?_
  refine rvP C (.pv (.lit (.bool true))) ?_
  refine rvc_nil ?_
  refine Awp.ret ?_
  subst hR
  exact ⟨.inl rfl, rfl, rfl, trivial⟩
def fitsL_l0 (l : (Sl Op)) : List Int → Nat → Int → ByteArray → Bool
  | [], _, done, _ => (allSM (Search.mk l [] (Sl.mk true [])) done)
  | x :: xs, i, done, value => (bif (decide (x < 0)) then false else (bif (decide (x ≥ (l.D.length : Int))) then false else (bif (mHas done x) then false else (bif (!(firstSM (Search.mk l [] (Sl.mk true [])) x done)) then false else (bif (!(l.D[x.toNat]!.write)) then (bif (!((l.D[x.toNat]!.value).toList == value.toList)) then false else (bif l.D[x.toNat]!.write then fitsL_l0 l xs (i + 1) (mWith done x) (l.D[x.toNat]!.value) else fitsL_l0 l xs (i + 1) (mWith done x) value)) else (bif l.D[x.toNat]!.write then fitsL_l0 l xs (i + 1) (mWith done x) (l.D[x.toNat]!.value) else fitsL_l0 l xs (i + 1) (mWith done x) value))))))
def fitsL (row : (Sl Int)) (l : (Sl Op)) : Bool :=
  (bif ((rightL l) != 0) then false else fitsL_l0 l row.D 0 0 ⟨#[]⟩)
theorem fitsL_calls (row : (Sl Int)) (l : (Sl Op)) (hl1 : l.D.length ≤ 9223372036854775807) (hl2 : row.D.length ≤ 9223372036854775807) : PCalls Try.prog 30 [sS (some row.nil) (eI .i64) row.D, sS (some l.nil) eOp l.D] (.pv (.lit (.bool (fitsL row l)))) := by
 generalize hR : fitsL row l = R
 refine PCalls.of_body tabOk Try.func30 rfl rfl rfl rfl rfl mixed fun E hP C hI => ?_
 refine Awp.consP C ?_
 refine rvP C (.pv (.lit (.bool false))) ?_
 refine rvc_nil ?_
 refine Awp.seq ?_
 refine Awp.consP C ?_
 refine rvP C (sS (some l.nil) eOp l.D) ?_
 refine rvc_un (rexec_call hP C rfl rfl rfl (rightL_calls l hl1) ?_)
 refine rvP C (.pv (.lit (.bool ((rightL l) != 0)))) ?_
 refine rvc_nil ?_
 refine Awp.cond (b := ((rightL l) != 0)) rfl (fun h1 => ?_) (fun h1 => ?_)
 ·
  replace hR := of_true h1 hR
  refine Awp.consP C ?_
  refine rvP C (.pv (.lit (.bool false))) ?_
  refine rvc_nil ?_
  refine Awp.ret ?_
  subst hR
  exact ⟨.inl rfl, rfl⟩
 ·
  replace hR := of_false h1 hR
  refine Awp.skip ?_
  refine Awp.consP C ?_
  refine rvP C (sS (some l.nil) eOp l.D) ?_
  refine rvP C (.agg [sS (some l.nil) eOp l.D, .pv (.lit (.map none)), sS (some true) (eI .i64) []]) ?_
  refine rvc_un (rexec_prim C (δ := { v := .ptr 15 0, new := [(15, .cells [sS (some l.nil) eOp l.D, .pv (.lit (.map none)), sS (some true) (eI .i64) []])] }) rfl rfl rfl rfl trivial rfl ?_)
  refine rvP C (.ptr 15 0) ?_
  refine rvc_nil ?_
  refine Awp.consP C ?_
  refine rvP C (.pv (.lit (.int .u64 0))) ?_
  refine rvc_nil ?_
  refine Awp.consP C ?_
  refine rvP C (.pv (.lit (.string ⟨#[]⟩))) ?_
  refine rvc_nil ?_
  refine Awp.seq ?_
  refine Awp.consP C ?_
  refine rvP C (sS (some row.nil) (eI .i64) row.D) ?_
  refine rvP C (.pv (.lit (.int .i64 (row.D.length : Int)))) ?_
  refine rvP C (.pv (.lit (.int .i64 0))) ?_
  refine rvc_nil ?_
  refine Awp.block ?_
  refine Awp.forR (σ := Int × ByteArray) (row.D.length) (fun i v => [(1, sS (some l.nil) eOp l.D), (5, .ptr 15 0), (6, .pv (.lit (.int .u64 v.1))), (7, .pv (.lit (.string v.2))), (16, sS (some row.nil) (eI .i64) row.D), (17, .pv (.lit (.int .i64 (row.D.length : Int)))), (18, .pv (.lit (.int .i64 (i : Int))))]) (fun i v => [(15, .cells [sS (some l.nil) eOp l.D, .pv (.lit (.map none)), sS (some true) (eI .i64) []])]) [15] (fun i v => fitsL_l0 l (row.D.drop i) i v.1 v.2 = R) (0, ⟨#[]⟩) ?_ ?_ (fun i v h2 hR => ?_)
  · exact hR
  · exact ⟨fun b => b, WeakerR.ofL (Ks := [15]) hI ⟨⟨rfl, rfl⟩, ⟨rfl, rfl⟩, ⟨rfl, rfl⟩, ⟨rfl, rfl⟩, ⟨rfl, rfl⟩, ⟨rfl, rfl⟩, ⟨rfl, rfl⟩, trivial⟩ (okH_cons rfl rfl rfl rfl (okH_nil)) rfl⟩
  obtain ⟨done, value⟩ := v
  refine Awp.consP C ?_
  refine rvP C (.pv (.lit (.bool (decide ((i : Int) < (row.D.length : Int)))))) ?_
  refine rvc_nil ?_
  refine Awp.seq ?_
  refine Awp.cond (b := (decide ((i : Int) < (row.D.length : Int)))) rfl (fun h3 => ?_) (fun h3 => ?_)
  ·
   have h4 : i < row.D.length := by have := of_decide_eq_true h3; omega
   obtain ⟨x, h5⟩ := getX h4
   rw [drop_at h5] at hR
   refine Awp.skip ?_
   refine Awp.seq ?_
   refine Awp.block ?_
   refine Awp.consP C ?_
   refine rvc_un (rexec_idxS C rfl rfl rfl rfl rfl rfl x (Int.natCast_nonneg _) h5 ?_)
   refine rvP C (.pv (.lit (.int .i64 x))) ?_
   refine rvP C (.pv (.lit (.int .i64 x))) ?_
   refine rvc_nil ?_
   refine Awp.seq ?_
   refine Awp.cons C (fun _ => .writer) (by kernel_rfl) ?_
   refine rvP C (.pv (.lit (.int .i64 x))) ?_
   refine rvP C (.pv (.lit (.bool (decide (x < 0))))) ?_
   refine rvP C (.pv (.lit (.bool (decide (x < 0))))) ?_
   refine rvc_case 24 (decide (x < 0)) rfl (fun h6 => ?_) (fun h6 => ?_)
   ·
    replace hR := of_true h6 hR
    refine rvS ?_
    refine rvS ?_
    refine rvS ?_
    refine rvS ?_
    refine rvP C (.pv (.lit (.bool true))) ?_
    refine rvP C (.pv (.lit (.bool true))) ?_
    refine rvS ?_
    refine rvS ?_
    refine rvS ?_
    refine rvP C (.pv (.lit (.bool true))) ?_
    refine rvP C (.pv (.lit (.bool true))) ?_
    refine rvS ?_
    refine rvS ?_
    refine rvS ?_
    refine rvS ?_
    refine rvS ?_
    refine rvP C (.pv (.lit (.bool true))) ?_
    refine rvP C (.pv (.lit (.bool true))) ?_
    refine rvS ?_
    refine rvS ?_
    refine rvS ?_
    refine rvS ?_
    refine rvS ?_
    refine rvS ?_
    refine rvS ?_
    refine rvc_shutU rfl rfl rfl ?_
    refine rvc_shutU rfl rfl rfl ?_
    refine rvc_shutU rfl rfl rfl ?_
    refine rvc_shutU rfl rfl rfl ?_
    refine rvc_shutU rfl rfl rfl ?_
    refine rvc_shutU rfl rfl rfl ?_
    refine rvc_shutU rfl rfl rfl ?_
    refine rvS ?_
    refine rvP C (.pv (.lit (.bool true))) ?_
    refine rvc_nil ?_
    refine Awp.condT (b := true) rfl rfl ?_
    refine Awp.consP C ?_
    refine rvP C (.pv (.lit (.bool false))) ?_
    refine rvc_nil ?_
    refine Awp.ret ?_
    subst hR
    exact ⟨.inl rfl, rfl⟩
   ·
    replace hR := of_false h6 hR
    refine rvO C (.pv (.lit (.int .i64 x))) ?_
    refine rvO C (sS (some l.nil) eOp l.D) ?_
    refine rvO C (.pv (.lit (.int .i64 (l.D.length : Int)))) ?_
    refine rvO C (.pv (.lit (.bool (decide (x ≥ (l.D.length : Int)))))) ?_
    refine rvP C (.pv (.lit (.bool (decide (x ≥ (l.D.length : Int)))))) ?_
    refine rvP C (.pv (.lit (.bool (decide (x ≥ (l.D.length : Int)))))) ?_
    refine rvc_case 30 (decide (x ≥ (l.D.length : Int))) rfl (fun h7 => ?_) (fun h7 => ?_)
    ·
     replace hR := of_true h7 hR
     refine rvS ?_
     refine rvS ?_
     refine rvS ?_
     refine rvP C (.pv (.lit (.bool true))) ?_
     refine rvP C (.pv (.lit (.bool true))) ?_
     refine rvS ?_
     refine rvS ?_
     refine rvS ?_
     refine rvS ?_
     refine rvS ?_
     refine rvP C (.pv (.lit (.bool true))) ?_
     refine rvP C (.pv (.lit (.bool true))) ?_
     refine rvS ?_
     refine rvS ?_
     refine rvS ?_
     refine rvS ?_
     refine rvS ?_
     refine rvS ?_
     refine rvS ?_
     refine rvc_shutU rfl rfl rfl ?_
     refine rvc_shutU rfl rfl rfl ?_
     refine rvc_shutU rfl rfl rfl ?_
     refine rvc_shutU rfl rfl rfl ?_
     refine rvc_shutU rfl rfl rfl ?_
     refine rvc_shutU rfl rfl rfl ?_
     refine rvc_shutU rfl rfl rfl ?_
     refine rvS ?_
     refine rvP C (.pv (.lit (.bool true))) ?_
     refine rvc_nil ?_
     refine Awp.condT (b := true) rfl rfl ?_
     refine Awp.consP C ?_
     refine rvP C (.pv (.lit (.bool false))) ?_
     refine rvc_nil ?_
     refine Awp.ret ?_
     subst hR
     exact ⟨.inl rfl, rfl⟩
    ·
     replace hR := of_false h7 hR
     refine rvO C (.pv (.lit (.int .u64 done))) ?_
     refine rvO C (.pv (.lit (.int .i64 x))) ?_
     refine rvc_open rfl rfl rfl (rexec_call hP C rfl rfl rfl (mHas_calls done x) ?_)
     refine rvP C (.pv (.lit (.bool (mHas done x)))) ?_
     refine rvP C (.pv (.lit (.bool (mHas done x)))) ?_
     refine rvc_case 35 (mHas done x) rfl (fun h8 => ?_) (fun h8 => ?_)
     ·
      replace hR := of_true h8 hR
      refine rvS ?_
      refine rvS ?_
      refine rvS ?_
      refine rvS ?_
      refine rvS ?_
      refine rvP C (.pv (.lit (.bool true))) ?_
      refine rvP C (.pv (.lit (.bool true))) ?_
      refine rvS ?_
      refine rvS ?_
      refine rvS ?_
      refine rvS ?_
      refine rvS ?_
      refine rvS ?_
      refine rvS ?_
      refine rvc_shutU rfl rfl rfl ?_
      refine rvc_shutU rfl rfl rfl ?_
      refine rvc_shutU rfl rfl rfl ?_
      refine rvc_shutU rfl rfl rfl ?_
      refine rvc_shutU rfl rfl rfl ?_
      refine rvc_shutU rfl rfl rfl ?_
      refine rvc_shutU rfl rfl rfl ?_
      refine rvS ?_
      refine rvP C (.pv (.lit (.bool true))) ?_
      refine rvc_nil ?_
      refine Awp.condT (b := true) rfl rfl ?_
      refine Awp.consP C ?_
      refine rvP C (.pv (.lit (.bool false))) ?_
      refine rvc_nil ?_
      refine Awp.ret ?_
      subst hR
      exact ⟨.inl rfl, rfl⟩
     ·
      replace hR := of_false h8 hR
      refine rvO C (.ptr 15 0) ?_
      refine rvO C (.pv (.lit (.int .i64 x))) ?_
      refine rvO C (.pv (.lit (.int .u64 done))) ?_
      refine rvc_open rfl rfl rfl (rexec_callObj hP C (fun b => bif b == 0 then 15 else b) [] rfl rfl rfl (firstSM_calls (Search.mk l [] (Sl.mk true [])) x done ⟨by have h_ := of_decide_eq_false (show decide (x < 0) = false by assumption); omega, by have h_ := of_decide_eq_false (show decide (x ≥ (l.D.length : Int)) = false by assumption); show _ < (l.D.length : Int); omega⟩ hl1) rfl rfl trivial (of_decide_eq_true rfl) rfl (of_decide_eq_true rfl) (of_decide_eq_true rfl) allB_nil allB_nil allB_nil ?_ rfl allB_nil)
      refine rvO C (.pv (.lit (.bool (!(firstSM (Search.mk l [] (Sl.mk true [])) x done))))) ?_
      refine rvP C (.pv (.lit (.bool (!(firstSM (Search.mk l [] (Sl.mk true [])) x done))))) ?_
      refine rvP C (.pv (.lit (.bool (!(firstSM (Search.mk l [] (Sl.mk true [])) x done))))) ?_
      refine rvc_case 42 (!(firstSM (Search.mk l [] (Sl.mk true [])) x done)) rfl (fun h9 => ?_) (fun h9 => ?_)
      ·
       replace hR := of_true h9 hR
       refine rvS ?_
       refine rvS ?_
       refine rvS ?_
       refine rvS ?_
       refine rvS ?_
       refine rvS ?_
       refine rvS ?_
       refine rvc_shutU rfl rfl rfl ?_
       refine rvc_shutU rfl rfl rfl ?_
       refine rvc_shutU rfl rfl rfl ?_
       refine rvc_shutU rfl rfl rfl ?_
       refine rvc_shutU rfl rfl rfl ?_
       refine rvc_shutU rfl rfl rfl ?_
       refine rvc_shutU rfl rfl rfl ?_
       refine rvS ?_
       refine rvP C (.pv (.lit (.bool true))) ?_
       refine rvc_nil ?_
       refine Awp.condT (b := true) rfl rfl ?_
       refine Awp.consP C ?_
       refine rvP C (.pv (.lit (.bool false))) ?_
       refine rvc_nil ?_
       refine Awp.ret ?_
       subst hR
       exact ⟨.inl rfl, rfl⟩
      ·
       replace hR := of_false h9 hR
       refine rvO C (sS (some l.nil) eOp l.D) ?_
       refine rvO C (.pv (.lit (.int .i64 x))) ?_
       have h10 : l.D[x.toNat]? = some l.D[x.toNat]! := getE (by have := eq_of_bne_false h1; have := of_decide_eq_true h3; have := of_decide_eq_false h6; have := of_decide_eq_false h7; omega)
       refine rvc_open rfl rfl rfl (rexec_idxS C rfl rfl rfl rfl rfl rfl (l.D[x.toNat]!) (by have := eq_of_bne_false h1; have := of_decide_eq_true h3; have := of_decide_eq_false h6; have := of_decide_eq_false h7; omega) h10 ?_)
       refine rvO C (.rp [.lit (.bool (l.D[x.toNat]!.write))]) ?_
       refine rvO C (.pv (.lit (.bool (l.D[x.toNat]!.write)))) ?_
       refine rvO C (.pv (.lit (.bool (!(l.D[x.toNat]!.write))))) ?_
       refine rvO C (.pv (.lit (.bool (!(l.D[x.toNat]!.write))))) ?_
       refine rvc_case 49 (!(l.D[x.toNat]!.write)) rfl (fun h11 => ?_) (fun h11 => ?_)
       ·
        replace hR := of_true h11 hR
        refine rvO C (sS (some l.nil) eOp l.D) ?_
        refine rvO C (.pv (.lit (.int .i64 x))) ?_
        refine rvc_open rfl rfl rfl (rexec_idxS C rfl rfl rfl rfl rfl rfl (l.D[x.toNat]!) (by have := eq_of_bne_false h1; have := of_decide_eq_true h3; have := of_decide_eq_false h6; have := of_decide_eq_false h7; omega) h10 ?_)
        refine rvO C (.rp [.lit (.string (l.D[x.toNat]!.value))]) ?_
        refine rvO C (.pv (.lit (.string (l.D[x.toNat]!.value)))) ?_
        refine rvO C (.pv (.lit (.string value))) ?_
        refine rvO C (.pv (.lit (.bool (!((l.D[x.toNat]!.value).toList == value.toList))))) ?_
        refine rvO C (.pv (.lit (.bool (!((l.D[x.toNat]!.value).toList == value.toList))))) ?_
        refine rvP C (.pv (.lit (.bool (!((l.D[x.toNat]!.value).toList == value.toList))))) ?_
        refine rvc_nil ?_
        refine Awp.cond (b := (!((l.D[x.toNat]!.value).toList == value.toList))) rfl (fun h12 => ?_) (fun h12 => ?_)
        ·
         replace hR := of_true h12 hR
         refine Awp.consP C ?_
         refine rvP C (.pv (.lit (.bool false))) ?_
         refine rvc_nil ?_
         refine Awp.ret ?_
         subst hR
         exact ⟨.inl rfl, rfl⟩
        ·
         replace hR := of_false h12 hR
         refine Awp.skip ?_
         refine Awp.seq ?_
         refine Awp.consP C ?_
         refine rvP C (sS (some l.nil) eOp l.D) ?_
         refine rvP C (.pv (.lit (.int .i64 x))) ?_
         refine rvc_un (rexec_idxS C rfl rfl rfl rfl rfl rfl (l.D[x.toNat]!) (by have := eq_of_bne_false h1; have := of_decide_eq_true h3; have := of_decide_eq_false h6; have := of_decide_eq_false h7; omega) h10 ?_)
         refine rvP C (.rp [.lit (.bool (l.D[x.toNat]!.write))]) ?_
         refine rvP C (.pv (.lit (.bool (l.D[x.toNat]!.write)))) ?_
         refine rvc_nil ?_
         refine Awp.cond (b := l.D[x.toNat]!.write) rfl (fun h13 => ?_) (fun h13 => ?_)
         ·
          replace hR := of_true h13 hR
          refine Awp.regionP C ?_
          refine rvP C (sS (some l.nil) eOp l.D) ?_
          refine rvP C (.pv (.lit (.int .i64 x))) ?_
          refine rvc_un (rexec_idxS C rfl rfl rfl rfl rfl rfl (l.D[x.toNat]!) (by have := eq_of_bne_false h1; have := of_decide_eq_true h3; have := of_decide_eq_false h6; have := of_decide_eq_false h7; omega) h10 ?_)
          refine rvP C (.rp [.lit (.string (l.D[x.toNat]!.value))]) ?_
          refine rvP C (.pv (.lit (.string (l.D[x.toNat]!.value)))) ?_
          refine rvP C (.pv (.lit (.string (l.D[x.toNat]!.value)))) ?_
          refine rvc_nil ?_
          refine Awp.regionP C ?_
          refine rvP C (.pv (.lit (.int .u64 done))) ?_
          refine rvP C (.pv (.lit (.int .i64 x))) ?_
          refine rvc_un (rexec_call hP C rfl rfl rfl (mWith_calls done x) ?_)
          refine rvP C (.pv (.lit (.int .u64 (mWith done x)))) ?_
          refine rvc_nil ?_
          refine Awp.regionP C ?_
          refine rvP C (.pv (.lit (.int .i64 (IntKind.i64.wrap ((i : Int) + 1))))) ?_
          refine rvP C (.pv (.lit (.int .i64 (IntKind.i64.wrap ((i : Int) + 1))))) ?_
          refine rvc_nil ?_
          refine ⟨h4, ((mWith done x), l.D[x.toNat]!.value), ?_, ?_⟩
          · exact hR
          · exact ⟨fun b => b, WeakerR.ofL (Ks := [15]) hI ⟨⟨rfl, rfl⟩, ⟨rfl, rfl⟩, ⟨rfl, rfl⟩, ⟨rfl, rfl⟩, ⟨rfl, rfl⟩, ⟨rfl, rfl⟩, ⟨lit_cast (wrap_i64 (by omega) (by omega)), rfl⟩, trivial⟩ (okH_cons rfl rfl rfl rfl (okH_nil)) rfl⟩
         ·
          replace hR := of_false h13 hR
          refine Awp.skip ?_
          refine Awp.regionP C ?_
          refine rvP C (.pv (.lit (.int .u64 done))) ?_
          refine rvP C (.pv (.lit (.int .i64 x))) ?_
          refine rvc_un (rexec_call hP C rfl rfl rfl (mWith_calls done x) ?_)
          refine rvP C (.pv (.lit (.int .u64 (mWith done x)))) ?_
          refine rvc_nil ?_
          refine Awp.regionP C ?_
          refine rvP C (.pv (.lit (.int .i64 (IntKind.i64.wrap ((i : Int) + 1))))) ?_
          refine rvP C (.pv (.lit (.int .i64 (IntKind.i64.wrap ((i : Int) + 1))))) ?_
          refine rvc_nil ?_
          refine ⟨h4, ((mWith done x), value), ?_, ?_⟩
          · exact hR
          · exact ⟨fun b => b, WeakerR.ofL (Ks := [15]) hI ⟨⟨rfl, rfl⟩, ⟨rfl, rfl⟩, ⟨rfl, rfl⟩, ⟨rfl, rfl⟩, ⟨rfl, rfl⟩, ⟨rfl, rfl⟩, ⟨lit_cast (wrap_i64 (by omega) (by omega)), rfl⟩, trivial⟩ (okH_cons rfl rfl rfl rfl (okH_nil)) rfl⟩
       ·
        replace hR := of_false h11 hR
        refine rvS ?_
        refine rvS ?_
        refine rvS ?_
        refine rvS ?_
        refine rvS ?_
        refine rvS ?_
        refine rvS ?_
        refine rvO C (.pv (.lit (.bool false))) ?_
        refine rvP C (.pv (.lit (.bool false))) ?_
        refine rvc_nil ?_
        refine Awp.condF (b := false) rfl rfl ?_
        refine Awp.skip ?_
        refine Awp.seq ?_
        refine Awp.consP C ?_
        refine rvP C (sS (some l.nil) eOp l.D) ?_
        refine rvP C (.pv (.lit (.int .i64 x))) ?_
        refine rvc_un (rexec_idxS C rfl rfl rfl rfl rfl rfl (l.D[x.toNat]!) (by have := eq_of_bne_false h1; have := of_decide_eq_true h3; have := of_decide_eq_false h6; have := of_decide_eq_false h7; omega) h10 ?_)
        refine rvP C (.rp [.lit (.bool (l.D[x.toNat]!.write))]) ?_
        refine rvP C (.pv (.lit (.bool (l.D[x.toNat]!.write)))) ?_
        refine rvc_nil ?_
        refine Awp.cond (b := l.D[x.toNat]!.write) rfl (fun h14 => ?_) (fun h14 => ?_)
        ·
         replace hR := of_true h14 hR
         refine Awp.regionP C ?_
         refine rvP C (sS (some l.nil) eOp l.D) ?_
         refine rvP C (.pv (.lit (.int .i64 x))) ?_
         refine rvc_un (rexec_idxS C rfl rfl rfl rfl rfl rfl (l.D[x.toNat]!) (by have := eq_of_bne_false h1; have := of_decide_eq_true h3; have := of_decide_eq_false h6; have := of_decide_eq_false h7; omega) h10 ?_)
         refine rvP C (.rp [.lit (.string (l.D[x.toNat]!.value))]) ?_
         refine rvP C (.pv (.lit (.string (l.D[x.toNat]!.value)))) ?_
         refine rvP C (.pv (.lit (.string (l.D[x.toNat]!.value)))) ?_
         refine rvc_nil ?_
         refine Awp.regionP C ?_
         refine rvP C (.pv (.lit (.int .u64 done))) ?_
         refine rvP C (.pv (.lit (.int .i64 x))) ?_
         refine rvc_un (rexec_call hP C rfl rfl rfl (mWith_calls done x) ?_)
         refine rvP C (.pv (.lit (.int .u64 (mWith done x)))) ?_
         refine rvc_nil ?_
         refine Awp.regionP C ?_
         refine rvP C (.pv (.lit (.int .i64 (IntKind.i64.wrap ((i : Int) + 1))))) ?_
         refine rvP C (.pv (.lit (.int .i64 (IntKind.i64.wrap ((i : Int) + 1))))) ?_
         refine rvc_nil ?_
         refine ⟨h4, ((mWith done x), l.D[x.toNat]!.value), ?_, ?_⟩
         · exact hR
         · exact ⟨fun b => b, WeakerR.ofL (Ks := [15]) hI ⟨⟨rfl, rfl⟩, ⟨rfl, rfl⟩, ⟨rfl, rfl⟩, ⟨rfl, rfl⟩, ⟨rfl, rfl⟩, ⟨rfl, rfl⟩, ⟨lit_cast (wrap_i64 (by omega) (by omega)), rfl⟩, trivial⟩ (okH_cons rfl rfl rfl rfl (okH_nil)) rfl⟩
        ·
         replace hR := of_false h14 hR
         refine Awp.skip ?_
         refine Awp.regionP C ?_
         refine rvP C (.pv (.lit (.int .u64 done))) ?_
         refine rvP C (.pv (.lit (.int .i64 x))) ?_
         refine rvc_un (rexec_call hP C rfl rfl rfl (mWith_calls done x) ?_)
         refine rvP C (.pv (.lit (.int .u64 (mWith done x)))) ?_
         refine rvc_nil ?_
         refine Awp.regionP C ?_
         refine rvP C (.pv (.lit (.int .i64 (IntKind.i64.wrap ((i : Int) + 1))))) ?_
         refine rvP C (.pv (.lit (.int .i64 (IntKind.i64.wrap ((i : Int) + 1))))) ?_
         refine rvc_nil ?_
         refine ⟨h4, ((mWith done x), value), ?_, ?_⟩
         · exact hR
         · exact ⟨fun b => b, WeakerR.ofL (Ks := [15]) hI ⟨⟨rfl, rfl⟩, ⟨rfl, rfl⟩, ⟨rfl, rfl⟩, ⟨rfl, rfl⟩, ⟨rfl, rfl⟩, ⟨rfl, rfl⟩, ⟨lit_cast (wrap_i64 (by omega) (by omega)), rfl⟩, trivial⟩ (okH_cons rfl rfl rfl rfl (okH_nil)) rfl⟩
  ·
   have h4 : ¬ i < row.D.length := by have := of_decide_eq_false h3; omega
   rw [drop_end h4] at hR
   refine Awp.exit ?_
   refine Awp.cons C (fun _ => .writer) (by kernel_rfl) ?_
   refine rvP C (.ptr 15 0) ?_
   refine rvP C (.pv (.lit (.int .u64 done))) ?_
   refine rvc_un (rexec_callObj hP C (fun b => bif b == 0 then 15 else b) [] rfl rfl rfl (allSM_calls (Search.mk l [] (Sl.mk true [])) done hl1) rfl rfl trivial (of_decide_eq_true rfl) rfl (of_decide_eq_true rfl) (of_decide_eq_true rfl) allB_nil allB_nil allB_nil ?_ rfl allB_nil)
   refine rvP C (.pv (.lit (.bool (allSM (Search.mk l [] (Sl.mk true [])) done)))) ?_
   refine rvc_nil ?_
   refine Awp.ret ?_
   subst hR
   exact ⟨.inl rfl, rfl⟩
end Go.Proofs.Ytoieegmebadfkaa
namespace Go.Proofs.Ytoieegmebadfkaa
open Go.Am
def byLess (x : Int) (y : Int) (c0 : (Sl Op)) : Int :=
  (bif (decide ((c0.D[x.toNat]!.ver) < (c0.D[y.toNat]!.ver))) then (-1) else (bif (decide ((c0.D[x.toNat]!.ver) > (c0.D[y.toNat]!.ver))) then 1 else (bif (!((c0.D[x.toNat]!.write) == (c0.D[y.toNat]!.write))) then (bif c0.D[x.toNat]!.write then (-1) else 1) else (bif (decide ((c0.D[x.toNat]!.began) < (c0.D[y.toNat]!.began))) then (-1) else (bif (decide ((c0.D[x.toNat]!.began) > (c0.D[y.toNat]!.began))) then 1 else 0)))))
theorem byLess_calls (x : Int) (y : Int) (c0 : (Sl Op)) (hx : 0 ≤ x ∧ x < (c0.D.length : Int)) (hy : 0 ≤ y ∧ y < (c0.D.length : Int)) : PCalls Try.prog 55 [.pv (.lit (.int .i64 x)), .pv (.lit (.int .i64 y)), .rp [.sl (some c0.nil) c0.D.length (encL eOp c0.D)]] (.pv (.lit (.int .i64 (byLess x y c0)))) := by
 generalize hR : byLess x y c0 = R
 refine PCalls.of_body tabOk Try.func55 rfl rfl rfl rfl rfl mixed fun E hP C hI => ?_
 refine Awp.consP C ?_
 refine rvP C (.pv (.lit (.int .i64 0))) ?_
 refine rvc_nil ?_
 refine Awp.cons C (fun o => match o.dst with | some 8 => .reads [] | some 11 => .reads [] | some 12 => .reads [] | some 15 => .reads [] | some 6 => .writes [6] | some 7 => .writes [7] | none => .writes [6, 7] | _ => .pure) (by kernel_rfl) ?_
 refine rvP C (sS (some c0.nil) eOp c0.D) ?_
 refine rvP C (.pv (.lit (.int .i64 x))) ?_
 have h1 : c0.D[x.toNat]? = some c0.D[x.toNat]! := getE (by omega)
 refine rvc_un (rexec_idxS C rfl rfl rfl rfl rfl rfl (c0.D[x.toNat]!) (by omega) h1 ?_)
 refine rvP C (.agg [.pv (.lit (.bool (c0.D[x.toNat]!.write))), .pv (.lit (.string (c0.D[x.toNat]!.value))), .pv (.lit (.int .i64 (c0.D[x.toNat]!.ver))), .pv (.lit (.int .i64 (c0.D[x.toNat]!.began))), .pv (.lit (.int .i64 (c0.D[x.toNat]!.ended)))]) ?_
 refine rvP C (sS (some c0.nil) eOp c0.D) ?_
 refine rvP C (.pv (.lit (.int .i64 y))) ?_
 have h2 : c0.D[y.toNat]? = some c0.D[y.toNat]! := getE (by omega)
 refine rvc_un (rexec_idxS C rfl rfl rfl rfl rfl rfl (c0.D[y.toNat]!) (by omega) h2 ?_)
 refine rvP C (.agg [.pv (.lit (.bool (c0.D[y.toNat]!.write))), .pv (.lit (.string (c0.D[y.toNat]!.value))), .pv (.lit (.int .i64 (c0.D[y.toNat]!.ver))), .pv (.lit (.int .i64 (c0.D[y.toNat]!.began))), .pv (.lit (.int .i64 (c0.D[y.toNat]!.ended)))]) ?_
 refine rvc_un (rexec_prim C (δ := { v := .ptr 6 0, new := [(6, .cells [.pv (.lit (.bool false)), .pv (.lit (.string ⟨#[]⟩)), .pv (.lit (.int .i64 0)), .pv (.lit (.int .i64 0)), .pv (.lit (.int .i64 0))])] }) rfl rfl rfl rfl trivial rfl ?_)
 refine rvc_un (rexec_prim C (δ := { v := .ptr 7 0, new := [(7, .cells [.pv (.lit (.bool false)), .pv (.lit (.string ⟨#[]⟩)), .pv (.lit (.int .i64 0)), .pv (.lit (.int .i64 0)), .pv (.lit (.int .i64 0))])] }) rfl rfl rfl rfl trivial rfl ?_)
 refine rvc_un (rexec_prim C (δ := { v := .undef, wr := [(6, some (.cells [.pv (.lit (.bool (c0.D[x.toNat]!.write))), .pv (.lit (.string (c0.D[x.toNat]!.value))), .pv (.lit (.int .i64 (c0.D[x.toNat]!.ver))), .pv (.lit (.int .i64 (c0.D[x.toNat]!.began))), .pv (.lit (.int .i64 (c0.D[x.toNat]!.ended)))]))] }) rfl rfl rfl rfl trivial rfl ?_)
 refine rvc_un (rexec_prim C (δ := { v := .undef, wr := [(7, some (.cells [.pv (.lit (.bool (c0.D[y.toNat]!.write))), .pv (.lit (.string (c0.D[y.toNat]!.value))), .pv (.lit (.int .i64 (c0.D[y.toNat]!.ver))), .pv (.lit (.int .i64 (c0.D[y.toNat]!.began))), .pv (.lit (.int .i64 (c0.D[y.toNat]!.ended)))]))] }) rfl rfl rfl rfl trivial rfl ?_)
 refine rvc_nil ?_
 refine Awp.seq ?_
 refine Awp.block ?_
 refine Awp.consP C ?_
 refine rvP C (.ptr 6 2) ?_
 refine rvP C (.pv (.lit (.int .i64 (c0.D[x.toNat]!.ver)))) ?_
 refine rvP C (.ptr 7 2) ?_
 refine rvP C (.pv (.lit (.int .i64 (c0.D[y.toNat]!.ver)))) ?_
 refine rvP C (.pv (.lit (.bool (decide ((c0.D[x.toNat]!.ver) < (c0.D[y.toNat]!.ver)))))) ?_
 refine rvP C (.pv (.lit (.bool (decide ((c0.D[x.toNat]!.ver) < (c0.D[y.toNat]!.ver)))))) ?_
 refine rvc_nil ?_
 refine Awp.cond (b := (decide ((c0.D[x.toNat]!.ver) < (c0.D[y.toNat]!.ver)))) rfl (fun h3 => ?_) (fun h3 => ?_)
 ·
  replace hR := of_true h3 hR
  refine Awp.consP C ?_
  refine rvP C (.pv (.lit (.int .i64 (-1)))) ?_
  refine rvc_nil ?_
  refine Awp.ret ?_
  subst hR
  exact ⟨.inl rfl, rfl⟩
 ·
  replace hR := of_false h3 hR
  refine Awp.consP C ?_
  refine rvP C (.ptr 6 2) ?_
  refine rvP C (.pv (.lit (.int .i64 (c0.D[x.toNat]!.ver)))) ?_
  refine rvP C (.ptr 7 2) ?_
  refine rvP C (.pv (.lit (.int .i64 (c0.D[y.toNat]!.ver)))) ?_
  refine rvP C (.pv (.lit (.bool (decide ((c0.D[x.toNat]!.ver) > (c0.D[y.toNat]!.ver)))))) ?_
  refine rvP C (.pv (.lit (.bool (decide ((c0.D[x.toNat]!.ver) > (c0.D[y.toNat]!.ver)))))) ?_
  refine rvc_nil ?_
  refine Awp.cond (b := (decide ((c0.D[x.toNat]!.ver) > (c0.D[y.toNat]!.ver)))) rfl (fun h4 => ?_) (fun h4 => ?_)
  ·
   replace hR := of_true h4 hR
   refine Awp.consP C ?_
   refine rvP C (.pv (.lit (.int .i64 1))) ?_
   refine rvc_nil ?_
   refine Awp.ret ?_
   subst hR
   exact ⟨.inl rfl, rfl⟩
  ·
   replace hR := of_false h4 hR
   refine Awp.consP C ?_
   refine rvP C (.ptr 6 0) ?_
   refine rvP C (.pv (.lit (.bool (c0.D[x.toNat]!.write)))) ?_
   refine rvP C (.ptr 7 0) ?_
   refine rvP C (.pv (.lit (.bool (c0.D[y.toNat]!.write)))) ?_
   refine rvP C (.pv (.lit (.bool (!((c0.D[x.toNat]!.write) == (c0.D[y.toNat]!.write)))))) ?_
   refine rvP C (.pv (.lit (.bool (!((c0.D[x.toNat]!.write) == (c0.D[y.toNat]!.write)))))) ?_
   refine rvc_case 34 (!((c0.D[x.toNat]!.write) == (c0.D[y.toNat]!.write))) rfl (fun h5 => ?_) (fun h5 => ?_)
   ·
    replace hR := of_true h5 hR
    refine rvO C (.ptr 6 0) ?_
    refine rvO C (.pv (.lit (.bool (c0.D[x.toNat]!.write)))) ?_
    refine rvP C (.pv (.lit (.bool (c0.D[x.toNat]!.write)))) ?_
    refine rvP C (.pv (.lit (.bool (c0.D[x.toNat]!.write)))) ?_
    refine rvc_nil ?_
    refine Awp.cond (b := c0.D[x.toNat]!.write) rfl (fun h6 => ?_) (fun h6 => ?_)
    ·
     replace hR := of_true h6 hR
     refine Awp.consP C ?_
     refine rvP C (.pv (.lit (.int .i64 (-1)))) ?_
     refine rvc_nil ?_
     refine Awp.ret ?_
     subst hR
     exact ⟨.inl rfl, rfl⟩
    ·
     replace hR := of_false h6 hR
     refine Awp.consP C ?_
     refine rvP C (.ptr 6 0) ?_
     refine rvP C (.pv (.lit (.bool (c0.D[x.toNat]!.write)))) ?_
     refine rvP C (.ptr 7 0) ?_
     refine rvP C (.pv (.lit (.bool (c0.D[y.toNat]!.write)))) ?_
     refine rvP C (.pv (.lit (.bool (!((c0.D[x.toNat]!.write) == (c0.D[y.toNat]!.write)))))) ?_
     refine rvP C (.pv (.lit (.bool (!((c0.D[x.toNat]!.write) == (c0.D[y.toNat]!.write)))))) ?_
     refine rvc_nil ?_
     refine Awp.condT (b := (!((c0.D[x.toNat]!.write) == (c0.D[y.toNat]!.write)))) rfl h5 ?_
     refine Awp.consP C ?_
     refine rvP C (.pv (.lit (.int .i64 1))) ?_
     refine rvc_nil ?_
     refine Awp.ret ?_
     subst hR
     exact ⟨.inl rfl, rfl⟩
   ·
    replace hR := of_false h5 hR
    refine rvS ?_
    refine rvS ?_
    refine rvP C (.pv (.lit (.bool false))) ?_
    refine rvP C (.pv (.lit (.bool false))) ?_
    refine rvc_nil ?_
    refine Awp.condF (b := false) rfl rfl ?_
    refine Awp.consP C ?_
    refine rvP C (.ptr 6 0) ?_
    refine rvP C (.pv (.lit (.bool (c0.D[x.toNat]!.write)))) ?_
    refine rvP C (.ptr 7 0) ?_
    refine rvP C (.pv (.lit (.bool (c0.D[y.toNat]!.write)))) ?_
    refine rvP C (.pv (.lit (.bool (!((c0.D[x.toNat]!.write) == (c0.D[y.toNat]!.write)))))) ?_
    refine rvP C (.pv (.lit (.bool (!((c0.D[x.toNat]!.write) == (c0.D[y.toNat]!.write)))))) ?_
    refine rvc_nil ?_
    refine Awp.condF (b := (!((c0.D[x.toNat]!.write) == (c0.D[y.toNat]!.write)))) rfl h5 ?_
    refine Awp.consP C ?_
    refine rvP C (.ptr 6 3) ?_
    refine rvP C (.pv (.lit (.int .i64 (c0.D[x.toNat]!.began)))) ?_
    refine rvP C (.ptr 7 3) ?_
    refine rvP C (.pv (.lit (.int .i64 (c0.D[y.toNat]!.began)))) ?_
    refine rvP C (.pv (.lit (.bool (decide ((c0.D[x.toNat]!.began) < (c0.D[y.toNat]!.began)))))) ?_
    refine rvP C (.pv (.lit (.bool (decide ((c0.D[x.toNat]!.began) < (c0.D[y.toNat]!.began)))))) ?_
    refine rvc_nil ?_
    refine Awp.cond (b := (decide ((c0.D[x.toNat]!.began) < (c0.D[y.toNat]!.began)))) rfl (fun h7 => ?_) (fun h7 => ?_)
    ·
     replace hR := of_true h7 hR
     refine Awp.consP C ?_
     refine rvP C (.pv (.lit (.int .i64 (-1)))) ?_
     refine rvc_nil ?_
     refine Awp.ret ?_
     subst hR
     exact ⟨.inl rfl, rfl⟩
    ·
     replace hR := of_false h7 hR
     refine Awp.consP C ?_
     refine rvP C (.ptr 6 3) ?_
     refine rvP C (.pv (.lit (.int .i64 (c0.D[x.toNat]!.began)))) ?_
     refine rvP C (.ptr 7 3) ?_
     refine rvP C (.pv (.lit (.int .i64 (c0.D[y.toNat]!.began)))) ?_
     refine rvP C (.pv (.lit (.bool (decide ((c0.D[x.toNat]!.began) > (c0.D[y.toNat]!.began)))))) ?_
     refine rvP C (.pv (.lit (.bool (decide ((c0.D[x.toNat]!.began) > (c0.D[y.toNat]!.began)))))) ?_
     refine rvc_nil ?_
     refine Awp.cond (b := (decide ((c0.D[x.toNat]!.began) > (c0.D[y.toNat]!.began)))) rfl (fun h8 => ?_) (fun h8 => ?_)
     ·
      replace hR := of_true h8 hR
      refine Awp.consP C ?_
      refine rvP C (.pv (.lit (.int .i64 1))) ?_
      refine rvc_nil ?_
      refine Awp.ret ?_
      subst hR
      exact ⟨.inl rfl, rfl⟩
     ·
      replace hR := of_false h8 hR
      refine Awp.skip ?_
      refine Awp.consP C ?_
      refine rvP C (.pv (.lit (.int .i64 0))) ?_
      refine rvc_nil ?_
      refine Awp.ret ?_
      subst hR
      exact ⟨.inl rfl, rfl⟩
end Go.Proofs.Ytoieegmebadfkaa
namespace Go.Proofs.Ytoieegmebadfkaa
open Go.Am
def InL (l : Sl Op) (x : Int) : Prop := 0 ≤ x ∧ x < (l.D.length : Int)
/-- Versions, writes first, then who began first. -/
def wk (a : Op) : Nat := bif a.write then 0 else 1
def aheadO (a b : Op) : Prop := a.ver < b.ver ∨ a.ver = b.ver ∧ (wk a < wk b ∨ wk a = wk b ∧ a.began < b.began)
theorem byLess_lt (x y : Int) (l : Sl Op) : byLess x y l < 0 ↔ aheadO l.D[x.toNat]! l.D[y.toNat]! := by
  unfold byLess aheadO wk
  generalize l.D[x.toNat]! = a
  generalize l.D[y.toNat]! = b
  by_cases h1 : a.ver < b.ver
  · rw [decide_eq_true h1, cond_true]; exact ⟨fun _ => .inl h1, fun _ => by decide⟩
  · rw [decide_eq_false h1, cond_false]
    by_cases h2 : a.ver > b.ver
    · rw [decide_eq_true h2, cond_true]; exact ⟨fun h => absurd h (by decide), fun h => by omega⟩
    · rw [decide_eq_false h2, cond_false]
      have h3 : a.ver = b.ver := by omega
      cases ha : a.write <;> cases hb : b.write
      · by_cases h4 : a.began < b.began
        · rw [decide_eq_true h4]; simp [h3, h4]
        · rw [decide_eq_false h4]
          by_cases h5 : a.began > b.began
          · rw [decide_eq_true h5]; simp [h3, h4]
          · rw [decide_eq_false h5]; simp [h3, h4]
      · simp [h3]
      · simp [h3]
      · by_cases h4 : a.began < b.began
        · rw [decide_eq_true h4]; simp [h3, h4]
        · rw [decide_eq_false h4]
          by_cases h5 : a.began > b.began
          · rw [decide_eq_true h5]; simp [h3, h4]
          · rw [decide_eq_false h5]; simp [h3, h4]
theorem ahead_asym {a b : Op} (h : aheadO a b) : ¬ aheadO b a := by
  unfold aheadO at *
  omega
theorem ahead_trans {a b c : Op} (h1 : ¬ aheadO b a) (h2 : ¬ aheadO c b) : ¬ aheadO c a := by
  unfold aheadO at *
  omega
theorem byLess_ok (l : Sl Op) : LeOk (fun x y => byLess x y l) where
  asym := fun x y h => by
    rw [byLess_lt] at *
    exact ahead_asym h
  trans := fun x y z h1 h2 => by
    rw [byLess_lt] at *
    exact ahead_trans h1 h2
theorem byLess_callsP (l : Sl Op) (x0 x1 : Int) (hx : InL l x0) (hy : InL l x1) : PCalls Try.prog 55 ([.pv (.lit (.int .i64 x0)), .pv (.lit (.int .i64 x1))] ++ [.rp [.sl (some l.nil) l.D.length (encL eOp l.D)]]) (.pv (.lit (.int .i64 (byLess x0 x1 l)))) := byLess_calls x0 x1 l hx hy
theorem in_app {row : List Int} {i : Nat} (h : ∀ y ∈ row, 0 ≤ y ∧ y < (i : Int)) : ∀ y ∈ row ++ [(i : Int)], 0 ≤ y ∧ y < ((i + 1 : Nat) : Int) := fun y hy => by
  rcases List.mem_append.1 hy with hy | hy
  · have := h y hy; omega
  · have := List.mem_singleton.1 hy; omega
theorem in_keep {row : List Int} {i : Nat} (h : ∀ y ∈ row, 0 ≤ y ∧ y < (i : Int)) : ∀ y ∈ row, 0 ≤ y ∧ y < ((i + 1 : Nat) : Int) := fun y hy => by
  have := h y hy; omega
theorem in_all {row : List Int} {i : Nat} {l : Sl Op} (h : ∀ y ∈ row, 0 ≤ y ∧ y < (i : Int)) (hi : i ≤ l.D.length) : ∀ y ∈ row, InL l y := fun y hy => by
  have := h y hy; exact ⟨this.1, by omega⟩
theorem sort_len {row : List Int} {l : Sl Op} (h : row.length ≤ 24) : (sortStable row fun x0 x1 => byLess x0 x1 l).length = row.length := (stable_sorts (byLess_ok l) h).1.length_eq
theorem sort_ne {row : List Int} {l : Sl Op} (h : row.length ≤ 24) (hn : ¬ row = []) : ¬ (sortStable row fun x0 x1 => byLess x0 x1 l) = [] := fun e => hn (List.length_eq_zero_iff.1 (by rw [← sort_len (l := l) h, e]; rfl))
theorem right_len24 {l : Sl Op} (h : (rightL l != 0) = false) : l.D.length ≤ 24 := by
  unfold rightL at h
  cases h1 : decide ((l.D.length : Int) > 24)
  · have := of_decide_eq_false h1; omega
  · rw [h1] at h; cases h
end Go.Proofs.Ytoieegmebadfkaa
namespace Go.Proofs.Ytoieegmebadfkaa
open Go.Am
variable {P_ : Int → Prop}
def insSort0 (_data : (Sl Int)) (_a : Int) (_b : Int) (_cmp : Int → Int → Int) : Unit :=
  ()
theorem insSort0_calls (data : (Sl Int)) (a : Int) (b : Int) (cmp : Int → Int → Int) (g3 : Nat) (caps3 : List AV) (_hp3 : ∀ (x0 : Int) (x1 : Int), P_ x0 → P_ x1 → PCalls Try.prog g3 ([.pv (.lit (.int .i64 x0)), .pv (.lit (.int .i64 x1))] ++ caps3) (.pv (.lit (.int .i64 (cmp x0 x1))))) (hw3 : AV.withinL (fun _ => false) caps3 = true) (hq : (decide ((IntKind.i64.wrap (a + 1)) < b)) = false) : PCalls Try.prog 75 [sS (some data.nil) (eI .i64) data.D, .pv (.lit (.int .i64 a)), .pv (.lit (.int .i64 b)), .fn g3 [] caps3] (.tup []) := by
 generalize hR : insSort0 data a b cmp = R
 refine PCalls.of_body tabOk Try.func75 rfl rfl rfl (by simp [AV.withinL, AV.within, sS, hw3]) rfl mixed fun E hP C hI => ?_
 refine Awp.consP C ?_
 refine rvP C (.pv (.lit (.int .i64 a))) ?_
 refine rvP C (.pv (.lit (.int .i64 (IntKind.i64.wrap (a + 1))))) ?_
 refine rvP C (.pv (.lit (.int .i64 (IntKind.i64.wrap (a + 1))))) ?_
 refine rvc_nil ?_
 refine Awp.block ?_
 refine Awp.once ?_
 refine Awp.seq ?_
 refine Awp.consP C ?_
 refine rvP C (.pv (.lit (.int .i64 (IntKind.i64.wrap (a + 1))))) ?_
 refine rvP C (.pv (.lit (.int .i64 b))) ?_
 refine rvP C (.pv (.lit (.bool (decide ((IntKind.i64.wrap (a + 1)) < b))))) ?_
 refine rvc_nil ?_
 refine Awp.condF (b := (decide ((IntKind.i64.wrap (a + 1)) < b))) rfl hq ?_
 refine Awp.exit ?_
 subst hR
 exact ⟨.inr rfl, rfl⟩
def stableS0 (_data : (Sl Int)) (_n : Int) (_cmp : Int → Int → Int) : Unit :=
  ()
theorem stableS0_calls (data : (Sl Int)) (n : Int) (cmp : Int → Int → Int) (g2 : Nat) (caps2 : List AV) (hp2 : ∀ (x0 : Int) (x1 : Int), P_ x0 → P_ x1 → PCalls Try.prog g2 ([.pv (.lit (.int .i64 x0)), .pv (.lit (.int .i64 x1))] ++ caps2) (.pv (.lit (.int .i64 (cmp x0 x1))))) (hw2 : AV.withinL (fun _ => false) caps2 = true) (hn : n = 0) (h20 : (decide ((20 : Int) ≤ n)) = false) (h21 : (decide ((20 : Int) < n)) = false) : PCalls Try.prog 63 [sS (some data.nil) (eI .i64) data.D, .pv (.lit (.int .i64 n)), .fn g2 [] caps2] (.tup []) := by
 generalize hR : stableS0 data n cmp = R
 refine PCalls.of_body tabOk Try.func63 rfl rfl rfl (by simp [AV.withinL, AV.within, sS, hw2]) rfl mixed fun E hP C hI => ?_
 refine Awp.consP C ?_
 refine rvP C (.pv (.lit (.int .i64 20))) ?_
 refine rvc_nil ?_
 refine Awp.consP C ?_
 refine rvP C (.pv (.lit (.int .i64 20))) ?_
 refine rvP C (.pv (.lit (.int .i64 0))) ?_
 refine rvP C (.pv (.lit (.int .i64 20))) ?_
 refine rvc_nil ?_
 refine Awp.seq ?_
 refine Awp.block ?_
 refine Awp.once ?_
 refine Awp.seq ?_
 refine Awp.consP C ?_
 refine rvP C (.pv (.lit (.int .i64 20))) ?_
 refine rvP C (.pv (.lit (.int .i64 n))) ?_
 refine rvP C (.pv (.lit (.bool (decide ((20 : Int) ≤ n))))) ?_
 refine rvc_nil ?_
 refine Awp.condF (b := (decide ((20 : Int) ≤ n))) rfl h20 ?_
 refine Awp.exit ?_
 refine Awp.consP C ?_
 refine rvP C (sS (some data.nil) (eI .i64) data.D) ?_
 refine rvP C (.pv (.lit (.int .i64 0))) ?_
 refine rvP C (.pv (.lit (.int .i64 n))) ?_
 refine rvP C (.fn g2 [] caps2) ?_
 refine rvc_un (rexec_call hP C rfl rfl rfl (insSort0_calls data 0 n cmp g2 caps2 hp2 hw2 (by subst hn; decide)) ?_)
 refine rvc_nil ?_
 refine Awp.block ?_
 refine Awp.once ?_
 refine Awp.seq ?_
 refine Awp.consP C ?_
 refine rvP C (.pv (.lit (.int .i64 20))) ?_
 refine rvP C (.pv (.lit (.int .i64 n))) ?_
 refine rvP C (.pv (.lit (.bool (decide ((20 : Int) < n))))) ?_
 refine rvc_nil ?_
 refine Awp.condF (b := (decide ((20 : Int) < n))) rfl h21 ?_
 refine Awp.exit ?_
 subst hR
 exact ⟨.inr rfl, rfl⟩
def sortStable0 (_x : (Sl Int)) (_cmp : Int → Int → Int) : Unit :=
  ()
theorem sortStable0_calls (x : (Sl Int)) (cmp : Int → Int → Int) (g1 : Nat) (caps1 : List AV) (hp1 : ∀ (x0 : Int) (x1 : Int), P_ x0 → P_ x1 → PCalls Try.prog g1 ([.pv (.lit (.int .i64 x0)), .pv (.lit (.int .i64 x1))] ++ caps1) (.pv (.lit (.int .i64 (cmp x0 x1))))) (hw1 : AV.withinL (fun _ => false) caps1 = true) (hx0 : x.D = []) : PCalls Try.prog 54 [sS (some x.nil) (eI .i64) x.D, .fn g1 [] caps1] (.tup []) := by
 generalize hR : sortStable0 x cmp = R
 refine PCalls.of_body tabOk Try.func54 rfl rfl rfl (by simp [AV.withinL, AV.within, sS, hw1]) rfl mixed fun E hP C hI => ?_
 refine Awp.regionP C ?_
 refine rvP C (sS (some x.nil) (eI .i64) x.D) ?_
 refine rvP C (sS (some x.nil) (eI .i64) x.D) ?_
 refine rvP C (.pv (.lit (.int .i64 (x.D.length : Int)))) ?_
 refine rvP C (.fn g1 [] caps1) ?_
 refine rvc_un (rexec_call hP C rfl rfl rfl (stableS0_calls x (x.D.length : Int) cmp g1 caps1 hp1 hw1 (by rw [hx0]; rfl) (by rw [hx0]; rfl) (by rw [hx0]; rfl)) ?_)
 refine rvc_nil ?_
 subst hR
 exact ⟨.inr rfl, rfl⟩
end Go.Proofs.Ytoieegmebadfkaa
namespace Go.Proofs.Ytoieegmebadfkaa
open Go.Am
def byV_l0 (l : (Sl Op)) : List Op → Nat → (List Int) → (Sl Int)
  | [], _, row => (Sl.mk ((sortStable row (fun x0 x1 => byLess x0 x1 l)).isEmpty) (sortStable row (fun x0 x1 => byLess x0 x1 l)))
  | x :: xs, i, row => (bif (x.ended != 0) then byV_l0 l xs (i + 1) (row ++ [(i : Int)]) else (bif x.write then (bif (decide (x.ver > 0)) then byV_l0 l xs (i + 1) (row ++ [(i : Int)]) else byV_l0 l xs (i + 1) row) else byV_l0 l xs (i + 1) row))
def byV (l : (Sl Op)) : (Sl Int) :=
  byV_l0 l l.D 0 []
theorem byV_calls (l : (Sl Op)) (h24 : l.D.length ≤ 24) (_hl1 : l.D.length ≤ 1000000) : PCalls Try.prog 31 [sS (some l.nil) eOp l.D] (sS (some (byV l).nil) (eI .i64) ((byV l).D)) := by
 generalize hR : byV l = R
 refine PCalls.of_body tabOk Try.func31 rfl rfl rfl rfl rfl mixed fun E hP C hI => ?_
 refine Awp.consP C ?_
 refine rvc_un (rexec_boxF C [.sl (some l.nil) l.D.length (encL eOp l.D)] rfl rfl rfl rfl ?_)
 refine rvP C (sS (some true) (eI .i64) []) ?_
 refine rvc_nil ?_
 refine Awp.consP C ?_
 refine rvP C (sS (some true) (eI .i64) []) ?_
 refine rvc_nil ?_
 refine Awp.seq ?_
 refine Awp.consP C ?_
 refine rvP C (sS (some l.nil) eOp l.D) ?_
 refine rvP C (.pv (.lit (.int .i64 (l.D.length : Int)))) ?_
 refine rvP C (.pv (.lit (.int .i64 0))) ?_
 refine rvc_nil ?_
 refine Awp.block ?_
 refine Awp.forR (σ := ((List Int))) (l.D.length) (fun i v => [(1, .rp [.sl (some l.nil) l.D.length (encL eOp l.D)]), (3, grow 900 (eI .i64) v), (6, sS (some l.nil) eOp l.D), (7, .pv (.lit (.int .i64 (l.D.length : Int)))), (8, .pv (.lit (.int .i64 (i : Int))))]) (fun i v => (growH 900 (eI .i64) v ++ ([]))) [900] (fun i v => (byV_l0 l (l.D.drop i) i v = R) ∧ (∀ y ∈ v, 0 ≤ y ∧ y < (i : Int)) ∧ (v.length ≤ i)) [] ?_ ?_ (fun i row h1 hR => ?_)
 · exact ⟨hR, (fun y hy => by cases hy), (by first | omega | (simp <;> omega))⟩
 · exact ⟨fun b => b, WeakerR.ofL (Ks := [900]) hI ⟨⟨rfl, rfl⟩, ⟨rfl, rfl⟩, ⟨rfl, rfl⟩, ⟨rfl, rfl⟩, ⟨rfl, rfl⟩, trivial⟩ (okH_grow (fun hne => absurd rfl hne) rfl rfl (okH_nil)) rfl⟩
 obtain ⟨hR, hV, hi_row⟩ := hR
 replace hi_row : row.length ≤ i := hi_row
 by_cases h2 : row = []
 ·
  refine Awp.wordsR [(1, .rp [.sl (some l.nil) l.D.length (encL eOp l.D)]), (3, sS (some row.isEmpty) (eI .i64) row), (6, sS (some l.nil) eOp l.D), (7, .pv (.lit (.int .i64 (l.D.length : Int)))), (8, .pv (.lit (.int .i64 (i : Int))))] [] [] (WeakerR.ofL (Ks := []) hI ⟨⟨rfl, rfl⟩, ⟨(by exact grow_at_nil (b := 900) (e := (eI .i64)) (l := row) rfl h2), rfl⟩, ⟨rfl, rfl⟩, ⟨rfl, rfl⟩, ⟨rfl, rfl⟩, trivial⟩ (okH_nil) rfl) ?_
  refine Awp.consP C ?_
  refine rvP C (.pv (.lit (.bool (decide ((i : Int) < (l.D.length : Int)))))) ?_
  refine rvc_nil ?_
  refine Awp.seq ?_
  refine Awp.cond (b := (decide ((i : Int) < (l.D.length : Int)))) rfl (fun h3 => ?_) (fun h3 => ?_)
  ·
   have h4 : i < l.D.length := by have := of_decide_eq_true h3; omega
   obtain ⟨x, h5⟩ := getX h4
   rw [drop_at h5] at hR
   refine Awp.skip ?_
   refine Awp.seq ?_
   refine Awp.block ?_
   refine Awp.consP C ?_
   refine rvP C (.pv (.lit (.int .i64 (i : Int)))) ?_
   refine rvc_un (rexec_idxS C rfl rfl rfl rfl rfl rfl x (Int.natCast_nonneg _) h5 ?_)
   refine rvP C (.agg [.pv (.lit (.bool x.write)), .pv (.lit (.string x.value)), .pv (.lit (.int .i64 x.ver)), .pv (.lit (.int .i64 x.began)), .pv (.lit (.int .i64 x.ended))]) ?_
   refine rvc_un (rexec_prim C (δ := { v := .ptr 5 0, new := [(5, .cells [.pv (.lit (.bool false)), .pv (.lit (.string ⟨#[]⟩)), .pv (.lit (.int .i64 0)), .pv (.lit (.int .i64 0)), .pv (.lit (.int .i64 0))])] }) rfl rfl rfl rfl trivial rfl ?_)
   refine rvP C (.pv (.lit (.int .i64 (i : Int)))) ?_
   refine rvc_un (rexec_prim C (δ := { v := .undef, wr := [(5, some (.cells [.pv (.lit (.bool x.write)), .pv (.lit (.string x.value)), .pv (.lit (.int .i64 x.ver)), .pv (.lit (.int .i64 x.began)), .pv (.lit (.int .i64 x.ended))]))] }) rfl rfl rfl rfl trivial rfl ?_)
   refine rvc_nil ?_
   refine Awp.consP C ?_
   refine rvP C (.ptr 5 4) ?_
   refine rvP C (.pv (.lit (.int .i64 x.ended))) ?_
   refine rvP C (.pv (.lit (.bool (x.ended != 0)))) ?_
   refine rvP C (.pv (.lit (.bool (x.ended != 0)))) ?_
   refine rvc_case 16 (x.ended != 0) rfl (fun h6 => ?_) (fun h6 => ?_)
   ·
    replace hR := of_true h6 hR
    refine rvS ?_
    refine rvS ?_
    refine rvS ?_
    refine rvc_shutU rfl rfl rfl ?_
    refine rvc_shutU rfl rfl rfl ?_
    refine rvc_shutU rfl rfl rfl ?_
    refine rvS ?_
    refine rvP C (.pv (.lit (.bool true))) ?_
    refine rvc_nil ?_
    refine Awp.condT (b := true) rfl rfl ?_
    refine Awp.regionP C ?_
    refine rvP C (sS (some row.isEmpty) (eI .i64) row) ?_
    refine rvP C (.pv (.lit (.int .i64 (i : Int)))) ?_
    refine rvc_un (rexec_buildSliceF C (eI .i64) [(i : Int)] rfl rfl rfl rfl rfl rfl rfl (by decide) rfl ?_)
    refine rvc_un (rexec_appendG C rfl rfl rfl rfl rfl rfl rfl rfl (fun _ h => by cases h) rfl (en := (eI .i64)) (l := row) (D := [(i : Int)]) rfl rfl h2 (by rw [h2]; rfl) (by simp) (by have := of_decide_eq_true h3; have := bne_iff_ne.1 h6; first | omega | (simp <;> omega)) (by decide) (nn := (row ++ [(i : Int)]).length) (by simp <;> omega) ?_)
    refine rvP C (.sl 28 0 ((row ++ [(i : Int)]).length) 1 false) ?_
    refine rvc_nil ?_
    refine Awp.regionP C ?_
    refine rvP C (.pv (.lit (.int .i64 (IntKind.i64.wrap ((i : Int) + 1))))) ?_
    refine rvP C (.pv (.lit (.int .i64 (IntKind.i64.wrap ((i : Int) + 1))))) ?_
    refine rvc_nil ?_
    refine ⟨h4, (row ++ [(i : Int)]), ?_, ?_⟩
    · exact ⟨hR, (by first | exact in_app hV | exact in_keep hV), (by first | omega | (simp <;> omega))⟩
    · exact ⟨fun b => bif b == 900 then 28 else (fun b => b) b, WeakerR.ofL (Ks := [900]) hI ⟨⟨rfl, rfl⟩, ⟨grow_to rfl rfl app_ne rfl rfl, grow_within rfl⟩, ⟨rfl, rfl⟩, ⟨rfl, rfl⟩, ⟨lit_cast (wrap_i64 (by omega) (by omega)), rfl⟩, trivial⟩ (okH_grow (fun _ => rfl) rfl rfl (okH_nil)) rfl⟩
   ·
    replace hR := of_false h6 hR
    refine rvO C (.ptr 5 0) ?_
    refine rvO C (.pv (.lit (.bool x.write))) ?_
    refine rvO C (.pv (.lit (.bool x.write))) ?_
    refine rvc_case 19 x.write rfl (fun h7 => ?_) (fun h7 => ?_)
    ·
     replace hR := of_true h7 hR
     refine rvO C (.ptr 5 2) ?_
     refine rvO C (.pv (.lit (.int .i64 x.ver))) ?_
     refine rvO C (.pv (.lit (.bool (decide (x.ver > 0))))) ?_
     refine rvO C (.pv (.lit (.bool (decide (x.ver > 0))))) ?_
     refine rvP C (.pv (.lit (.bool (decide (x.ver > 0))))) ?_
     refine rvc_nil ?_
     refine Awp.cond (b := (decide (x.ver > 0))) rfl (fun h8 => ?_) (fun h8 => ?_)
     ·
      replace hR := of_true h8 hR
      refine Awp.regionP C ?_
      refine rvP C (sS (some row.isEmpty) (eI .i64) row) ?_
      refine rvP C (.pv (.lit (.int .i64 (i : Int)))) ?_
      refine rvc_un (rexec_buildSliceF C (eI .i64) [(i : Int)] rfl rfl rfl rfl rfl rfl rfl (by decide) rfl ?_)
      refine rvc_un (rexec_appendG C rfl rfl rfl rfl rfl rfl rfl rfl (fun _ h => by cases h) rfl (en := (eI .i64)) (l := row) (D := [(i : Int)]) rfl rfl h2 (by rw [h2]; rfl) (by simp) (by have := of_decide_eq_true h3; have := eq_of_bne_false h6; have := of_decide_eq_true h8; first | omega | (simp <;> omega)) (by decide) (nn := (row ++ [(i : Int)]).length) (by simp <;> omega) ?_)
      refine rvP C (.sl 28 0 ((row ++ [(i : Int)]).length) 1 false) ?_
      refine rvc_nil ?_
      refine Awp.regionP C ?_
      refine rvP C (.pv (.lit (.int .i64 (IntKind.i64.wrap ((i : Int) + 1))))) ?_
      refine rvP C (.pv (.lit (.int .i64 (IntKind.i64.wrap ((i : Int) + 1))))) ?_
      refine rvc_nil ?_
      refine ⟨h4, (row ++ [(i : Int)]), ?_, ?_⟩
      · exact ⟨hR, (by first | exact in_app hV | exact in_keep hV), (by first | omega | (simp <;> omega))⟩
      · exact ⟨fun b => bif b == 900 then 28 else (fun b => b) b, WeakerR.ofL (Ks := [900]) hI ⟨⟨rfl, rfl⟩, ⟨grow_to rfl rfl app_ne rfl rfl, grow_within rfl⟩, ⟨rfl, rfl⟩, ⟨rfl, rfl⟩, ⟨lit_cast (wrap_i64 (by omega) (by omega)), rfl⟩, trivial⟩ (okH_grow (fun _ => rfl) rfl rfl (okH_nil)) rfl⟩
     ·
      replace hR := of_false h8 hR
      refine Awp.skip ?_
      refine Awp.regionP C ?_
      refine rvP C (.pv (.lit (.int .i64 (IntKind.i64.wrap ((i : Int) + 1))))) ?_
      refine rvP C (.pv (.lit (.int .i64 (IntKind.i64.wrap ((i : Int) + 1))))) ?_
      refine rvc_nil ?_
      refine ⟨h4, row, ?_, ?_⟩
      · exact ⟨hR, (by first | exact in_app hV | exact in_keep hV), (by first | omega | (simp <;> omega))⟩
      · exact ⟨fun b => b, WeakerR.ofL (Ks := [900]) hI ⟨⟨rfl, rfl⟩, ⟨grow_to_nil rfl h2 (.inr rfl), grow_within rfl⟩, ⟨rfl, rfl⟩, ⟨rfl, rfl⟩, ⟨lit_cast (wrap_i64 (by omega) (by omega)), rfl⟩, trivial⟩ (okH_grow (fun hne => absurd h2 hne) rfl rfl (okH_nil)) rfl⟩
    ·
     replace hR := of_false h7 hR
     refine rvS ?_
     refine rvS ?_
     refine rvS ?_
     refine rvO C (.pv (.lit (.bool false))) ?_
     refine rvP C (.pv (.lit (.bool false))) ?_
     refine rvc_nil ?_
     refine Awp.condF (b := false) rfl rfl ?_
     refine Awp.skip ?_
     refine Awp.regionP C ?_
     refine rvP C (.pv (.lit (.int .i64 (IntKind.i64.wrap ((i : Int) + 1))))) ?_
     refine rvP C (.pv (.lit (.int .i64 (IntKind.i64.wrap ((i : Int) + 1))))) ?_
     refine rvc_nil ?_
     refine ⟨h4, row, ?_, ?_⟩
     · exact ⟨hR, (by first | exact in_app hV | exact in_keep hV), (by first | omega | (simp <;> omega))⟩
     · exact ⟨fun b => b, WeakerR.ofL (Ks := [900]) hI ⟨⟨rfl, rfl⟩, ⟨grow_to_nil rfl h2 (.inr rfl), grow_within rfl⟩, ⟨rfl, rfl⟩, ⟨rfl, rfl⟩, ⟨lit_cast (wrap_i64 (by omega) (by omega)), rfl⟩, trivial⟩ (okH_grow (fun hne => absurd h2 hne) rfl rfl (okH_nil)) rfl⟩
  ·
   have h4 : ¬ i < l.D.length := by have := of_decide_eq_false h3; omega
   rw [drop_end h4] at hR
   refine Awp.exit ?_
   refine Awp.cons C (fun _ => .writer) (by kernel_rfl) ?_
   refine rvP C (sS (some row.isEmpty) (eI .i64) row) ?_
   refine rvP C (.fn 55 [] [.rp [.sl (some l.nil) l.D.length (encL eOp l.D)]]) ?_
   refine rvc_un (rexec_call hP C rfl rfl rfl (sortStable0_calls (Sl.mk row.isEmpty row) (fun x0 x1 => byLess x0 x1 l) 55 [.rp [.sl (some l.nil) l.D.length (encL eOp l.D)]] (byLess_callsP l) rfl (by assumption)) ?_)
   refine rvc_nil ?_
   refine Awp.consP C ?_
   refine rvP C (sS (some row.isEmpty) (eI .i64) row) ?_
   refine rvP C (sS (some row.isEmpty) (eI .i64) row) ?_
   refine rvc_nil ?_
   refine Awp.ret ?_
   subst hR
   subst h2
   exact ⟨.inl rfl, rfl⟩
 ·
  refine Awp.wordsR [(1, .rp [.sl (some l.nil) l.D.length (encL eOp l.D)]), (3, .sl 900 0 row.length 1 false), (6, sS (some l.nil) eOp l.D), (7, .pv (.lit (.int .i64 (l.D.length : Int)))), (8, .pv (.lit (.int .i64 (i : Int))))] [(900, .cells (encC (eI .i64) row))] [900] (WeakerR.ofL (Ks := [900]) hI ⟨⟨rfl, rfl⟩, ⟨(by exact grow_at_cons (b := 900) (b' := 900) (e := (eI .i64)) (l := row) rfl h2 rfl rfl rfl), rfl⟩, ⟨rfl, rfl⟩, ⟨rfl, rfl⟩, ⟨rfl, rfl⟩, trivial⟩ (okH_list (look_cons h2 rfl) rfl rfl (okH_nil)) rfl) ?_
  refine Awp.consP C ?_
  refine rvP C (.pv (.lit (.bool (decide ((i : Int) < (l.D.length : Int)))))) ?_
  refine rvc_nil ?_
  refine Awp.seq ?_
  refine Awp.cond (b := (decide ((i : Int) < (l.D.length : Int)))) rfl (fun h9 => ?_) (fun h9 => ?_)
  ·
   have h10 : i < l.D.length := by have := of_decide_eq_true h9; omega
   obtain ⟨x, h11⟩ := getX h10
   rw [drop_at h11] at hR
   refine Awp.skip ?_
   refine Awp.seq ?_
   refine Awp.block ?_
   refine Awp.consP C ?_
   refine rvP C (.pv (.lit (.int .i64 (i : Int)))) ?_
   refine rvc_un (rexec_idxS C rfl rfl rfl rfl rfl rfl x (Int.natCast_nonneg _) h11 ?_)
   refine rvP C (.agg [.pv (.lit (.bool x.write)), .pv (.lit (.string x.value)), .pv (.lit (.int .i64 x.ver)), .pv (.lit (.int .i64 x.began)), .pv (.lit (.int .i64 x.ended))]) ?_
   refine rvc_un (rexec_prim C (δ := { v := .ptr 5 0, new := [(5, .cells [.pv (.lit (.bool false)), .pv (.lit (.string ⟨#[]⟩)), .pv (.lit (.int .i64 0)), .pv (.lit (.int .i64 0)), .pv (.lit (.int .i64 0))])] }) rfl rfl rfl rfl trivial rfl ?_)
   refine rvP C (.pv (.lit (.int .i64 (i : Int)))) ?_
   refine rvc_un (rexec_prim C (δ := { v := .undef, wr := [(5, some (.cells [.pv (.lit (.bool x.write)), .pv (.lit (.string x.value)), .pv (.lit (.int .i64 x.ver)), .pv (.lit (.int .i64 x.began)), .pv (.lit (.int .i64 x.ended))]))] }) rfl rfl rfl rfl trivial rfl ?_)
   refine rvc_nil ?_
   refine Awp.consP C ?_
   refine rvP C (.ptr 5 4) ?_
   refine rvP C (.pv (.lit (.int .i64 x.ended))) ?_
   refine rvP C (.pv (.lit (.bool (x.ended != 0)))) ?_
   refine rvP C (.pv (.lit (.bool (x.ended != 0)))) ?_
   refine rvc_case 16 (x.ended != 0) rfl (fun h12 => ?_) (fun h12 => ?_)
   ·
    replace hR := of_true h12 hR
    refine rvS ?_
    refine rvS ?_
    refine rvS ?_
    refine rvc_shutU rfl rfl rfl ?_
    refine rvc_shutU rfl rfl rfl ?_
    refine rvc_shutU rfl rfl rfl ?_
    refine rvS ?_
    refine rvP C (.pv (.lit (.bool true))) ?_
    refine rvc_nil ?_
    refine Awp.condT (b := true) rfl rfl ?_
    refine Awp.regionP C ?_
    refine rvP C (.sl 900 0 row.length 1 false) ?_
    refine rvP C (.pv (.lit (.int .i64 (i : Int)))) ?_
    refine rvc_un (rexec_buildSliceF C (eI .i64) [(i : Int)] rfl rfl rfl rfl rfl rfl rfl (by decide) rfl ?_)
    refine rvc_un (rexec_append C rfl rfl rfl rfl rfl rfl rfl rfl (fun _ h => by cases h) rfl (en := (eI .i64)) (D0 := row) (D := [(i : Int)]) rfl rfl rfl rfl (by have := of_decide_eq_true h9; have := bne_iff_ne.1 h12; first | omega | (simp <;> omega)) (by decide) (nn := (row ++ [(i : Int)]).length) (by simp <;> omega) ?_)
    refine rvP C (.sl 28 0 ((row ++ [(i : Int)]).length) 1 false) ?_
    refine rvc_nil ?_
    refine Awp.regionP C ?_
    refine rvP C (.pv (.lit (.int .i64 (IntKind.i64.wrap ((i : Int) + 1))))) ?_
    refine rvP C (.pv (.lit (.int .i64 (IntKind.i64.wrap ((i : Int) + 1))))) ?_
    refine rvc_nil ?_
    refine ⟨h10, (row ++ [(i : Int)]), ?_, ?_⟩
    · exact ⟨hR, (by first | exact in_app hV | exact in_keep hV), (by first | omega | (simp <;> omega))⟩
    · exact ⟨fun b => bif b == 900 then 28 else (fun b => b) b, WeakerR.ofL (Ks := [900]) hI ⟨⟨rfl, rfl⟩, ⟨grow_to rfl rfl app_ne rfl rfl, grow_within rfl⟩, ⟨rfl, rfl⟩, ⟨rfl, rfl⟩, ⟨lit_cast (wrap_i64 (by omega) (by omega)), rfl⟩, trivial⟩ (okH_grow (fun _ => rfl) rfl rfl (okH_nil)) rfl⟩
   ·
    replace hR := of_false h12 hR
    refine rvO C (.ptr 5 0) ?_
    refine rvO C (.pv (.lit (.bool x.write))) ?_
    refine rvO C (.pv (.lit (.bool x.write))) ?_
    refine rvc_case 19 x.write rfl (fun h13 => ?_) (fun h13 => ?_)
    ·
     replace hR := of_true h13 hR
     refine rvO C (.ptr 5 2) ?_
     refine rvO C (.pv (.lit (.int .i64 x.ver))) ?_
     refine rvO C (.pv (.lit (.bool (decide (x.ver > 0))))) ?_
     refine rvO C (.pv (.lit (.bool (decide (x.ver > 0))))) ?_
     refine rvP C (.pv (.lit (.bool (decide (x.ver > 0))))) ?_
     refine rvc_nil ?_
     refine Awp.cond (b := (decide (x.ver > 0))) rfl (fun h14 => ?_) (fun h14 => ?_)
     ·
      replace hR := of_true h14 hR
      refine Awp.regionP C ?_
      refine rvP C (.sl 900 0 row.length 1 false) ?_
      refine rvP C (.pv (.lit (.int .i64 (i : Int)))) ?_
      refine rvc_un (rexec_buildSliceF C (eI .i64) [(i : Int)] rfl rfl rfl rfl rfl rfl rfl (by decide) rfl ?_)
      refine rvc_un (rexec_append C rfl rfl rfl rfl rfl rfl rfl rfl (fun _ h => by cases h) rfl (en := (eI .i64)) (D0 := row) (D := [(i : Int)]) rfl rfl rfl rfl (by have := of_decide_eq_true h9; have := eq_of_bne_false h12; have := of_decide_eq_true h14; first | omega | (simp <;> omega)) (by decide) (nn := (row ++ [(i : Int)]).length) (by simp <;> omega) ?_)
      refine rvP C (.sl 28 0 ((row ++ [(i : Int)]).length) 1 false) ?_
      refine rvc_nil ?_
      refine Awp.regionP C ?_
      refine rvP C (.pv (.lit (.int .i64 (IntKind.i64.wrap ((i : Int) + 1))))) ?_
      refine rvP C (.pv (.lit (.int .i64 (IntKind.i64.wrap ((i : Int) + 1))))) ?_
      refine rvc_nil ?_
      refine ⟨h10, (row ++ [(i : Int)]), ?_, ?_⟩
      · exact ⟨hR, (by first | exact in_app hV | exact in_keep hV), (by first | omega | (simp <;> omega))⟩
      · exact ⟨fun b => bif b == 900 then 28 else (fun b => b) b, WeakerR.ofL (Ks := [900]) hI ⟨⟨rfl, rfl⟩, ⟨grow_to rfl rfl app_ne rfl rfl, grow_within rfl⟩, ⟨rfl, rfl⟩, ⟨rfl, rfl⟩, ⟨lit_cast (wrap_i64 (by omega) (by omega)), rfl⟩, trivial⟩ (okH_grow (fun _ => rfl) rfl rfl (okH_nil)) rfl⟩
     ·
      replace hR := of_false h14 hR
      refine Awp.skip ?_
      refine Awp.regionP C ?_
      refine rvP C (.pv (.lit (.int .i64 (IntKind.i64.wrap ((i : Int) + 1))))) ?_
      refine rvP C (.pv (.lit (.int .i64 (IntKind.i64.wrap ((i : Int) + 1))))) ?_
      refine rvc_nil ?_
      refine ⟨h10, row, ?_, ?_⟩
      · exact ⟨hR, (by first | exact in_app hV | exact in_keep hV), (by first | omega | (simp <;> omega))⟩
      · exact ⟨fun b => b, WeakerR.ofL (Ks := [900]) hI ⟨⟨rfl, rfl⟩, ⟨grow_to rfl rfl h2 rfl rfl, grow_within rfl⟩, ⟨rfl, rfl⟩, ⟨rfl, rfl⟩, ⟨lit_cast (wrap_i64 (by omega) (by omega)), rfl⟩, trivial⟩ (okH_grow (fun _ => rfl) rfl rfl (okH_nil)) rfl⟩
    ·
     replace hR := of_false h13 hR
     refine rvS ?_
     refine rvS ?_
     refine rvS ?_
     refine rvO C (.pv (.lit (.bool false))) ?_
     refine rvP C (.pv (.lit (.bool false))) ?_
     refine rvc_nil ?_
     refine Awp.condF (b := false) rfl rfl ?_
     refine Awp.skip ?_
     refine Awp.regionP C ?_
     refine rvP C (.pv (.lit (.int .i64 (IntKind.i64.wrap ((i : Int) + 1))))) ?_
     refine rvP C (.pv (.lit (.int .i64 (IntKind.i64.wrap ((i : Int) + 1))))) ?_
     refine rvc_nil ?_
     refine ⟨h10, row, ?_, ?_⟩
     · exact ⟨hR, (by first | exact in_app hV | exact in_keep hV), (by first | omega | (simp <;> omega))⟩
     · exact ⟨fun b => b, WeakerR.ofL (Ks := [900]) hI ⟨⟨rfl, rfl⟩, ⟨grow_to rfl rfl h2 rfl rfl, grow_within rfl⟩, ⟨rfl, rfl⟩, ⟨rfl, rfl⟩, ⟨lit_cast (wrap_i64 (by omega) (by omega)), rfl⟩, trivial⟩ (okH_grow (fun _ => rfl) rfl rfl (okH_nil)) rfl⟩
  ·
   have h10 : ¬ i < l.D.length := by have := of_decide_eq_false h9; omega
   rw [drop_end h10] at hR
   refine Awp.exit ?_
   refine Awp.cons C (fun _ => .writer) (by kernel_rfl) ?_
   refine rvP C (.sl 900 0 row.length 1 false) ?_
   refine rvP C (.fn 55 [] [.rp [.sl (some l.nil) l.D.length (encL eOp l.D)]]) ?_
   refine rvc_un (rexec_callM hP C (b := 900) rfl rfl rfl (sortStable_calls row (fun x0 x1 => byLess x0 x1 l) 55 [.rp [.sl (some l.nil) l.D.length (encL eOp l.D)]] (byLess_callsP l) rfl (by omega) (in_all hV (by omega)) (byLess_ok l)) rfl rfl ?_)
   refine rvc_nil ?_
   refine Awp.consP C ?_
   refine rvP C (.sl 900 0 row.length 1 false) ?_
   refine rvP C (.sl 900 0 row.length 1 false) ?_
   refine rvc_nil ?_
   refine Awp.freezeW 900 (encL (eI .i64) (sortStable row (fun x0 x1 => byLess x0 x1 l))) ?_ [(2, sS (some (sortStable row (fun x0 x1 => byLess x0 x1 l)).isEmpty) (eI .i64) (sortStable row (fun x0 x1 => byLess x0 x1 l)))] [] ?_ ?_ ?_
   · rfl
   · exact ⟨⟨_, rfl, .inl (.inr ⟨_, _, _, rfl, by rw [ne_isEmpty (sort_ne (l := l) (by omega) h2), ← sort_len (l := l) (row := row) (by omega)]; rfl⟩)⟩, trivial⟩
   · exact trivial
   refine Awp.ret ?_
   subst hR
   exact ⟨.inl rfl, rfl⟩
 -- !! two models: ('(Sl.mk row.isEmpty row)', '(bif (x.ended != 0) then byV_l0 l (l.D.drop (i + 1)) (i + 1) (row ++ [(i : Int)]) else (bif x.write then (bif (decide (x.ver > 0)) then byV_l0 l (l.D.drop (i + 1)) (i + 1) (row ++ [(i : Int)]) else byV_l0 l (l.D.drop (i + 1)) (i + 1) row) else byV_l0 l (l.D.drop (i + 1)) (i + 1) row))') ||| ('(Sl.mk ((sortStable row (fun x0 x1 => byLess x0 x1 l)).isEmpty) (sortStable row (fun x0 x1 => byLess x0 x1 l)))', '(bif (x.ended != 0) then byV_l0 l (l.D.drop (i + 1)) (i + 1) (row ++ [(i : Int)]) else (bif x.write then (bif (decide (x.ver > 0)) then byV_l0 l (l.D.drop (i + 1)) (i + 1) (row ++ [(i : Int)]) else byV_l0 l (l.D.drop (i + 1)) (i + 1) row) else byV_l0 l (l.D.drop (i + 1)) (i + 1) row))')
end Go.Proofs.Ytoieegmebadfkaa
namespace Go.Proofs.Ytoieegmebadfkaa
open Go.Am
def inBy (x : Op) : Bool := (x.ended != 0) || (x.write && decide (x.ver > 0))
def byRow : List Op → Nat → List Int
  | [], _ => []
  | x :: xs, i => if inBy x = true then (i : Int) :: byRow xs (i + 1) else byRow xs (i + 1)
theorem byV_row (l : Sl Op) : ∀ (xs : List Op) (i : Nat) (row : List Int), (byV_l0 l xs i row).D = sortStable (row ++ byRow xs i) fun x0 x1 => byLess x0 x1 l
  | [], i, row => by unfold byV_l0 byRow; rw [List.append_nil]
  | x :: xs, i, row => by
    unfold byV_l0 byRow
    unfold inBy
    cases h1 : (x.ended != 0)
    · cases h2 : x.write
      · rw [if_neg (by simp)]; exact byV_row l xs (i + 1) row
      · cases h3 : decide (x.ver > 0)
        · rw [if_neg (by simp)]; exact byV_row l xs (i + 1) row
        · rw [if_pos (by simp)]; simp only [cond_false, cond_true]; rw [byV_row l xs (i + 1), List.append_assoc]; rfl
    · rw [if_pos (by simp)]; simp only [cond_true]; rw [byV_row l xs (i + 1), List.append_assoc]; rfl
theorem byRow_len : ∀ (xs : List Op) (i : Nat), (byRow xs i).length ≤ xs.length
  | [], _ => Nat.le_refl _
  | x :: xs, i => by
    unfold byRow
    have := byRow_len xs (i + 1)
    split
    · simp only [List.length_cons]; omega
    · simp only [List.length_cons]; omega
theorem byRow_mem : ∀ (xs : List Op) (i : Nat) (z : Int), z ∈ byRow xs i ↔ ∃ k x, xs[k]? = some x ∧ inBy x = true ∧ z = ((i + k : Nat) : Int)
  | [], i, z => by simp [byRow]
  | x :: xs, i, z => by
    unfold byRow
    have ih := byRow_mem xs (i + 1) z
    constructor
    · intro h
      split at h
      · rcases List.mem_cons.1 h with rfl | h
        · exact ⟨0, x, rfl, by assumption, rfl⟩
        · obtain ⟨k, y, h1, h2, h3⟩ := ih.1 h
          exact ⟨k + 1, y, h1, h2, by rw [h3]; omega⟩
      · obtain ⟨k, y, h1, h2, h3⟩ := ih.1 h
        exact ⟨k + 1, y, h1, h2, by rw [h3]; omega⟩
    · rintro ⟨k, y, h1, h2, h3⟩
      cases k with
      | zero =>
        simp only [List.getElem?_cons_zero, Option.some.injEq] at h1
        subst h1
        rw [if_pos h2, h3]; exact List.mem_cons_self ..
      | succ k =>
        rw [List.getElem?_cons_succ] at h1
        have := ih.2 ⟨k, y, h1, h2, by rw [h3]; omega⟩
        split
        · exact List.mem_cons_of_mem _ this
        · exact this
theorem byRow_nodup : ∀ (xs : List Op) (i : Nat), (byRow xs i).Nodup
  | [], _ => List.nodup_nil
  | x :: xs, i => by
    unfold byRow
    split
    · refine List.nodup_cons.2 ⟨fun h => ?_, byRow_nodup xs (i + 1)⟩
      obtain ⟨k, y, _, _, h3⟩ := (byRow_mem xs (i + 1) _).1 h
      omega
    · exact byRow_nodup xs (i + 1)
/-- The row: the same calls, sorted. -/
theorem byV_spec {l : Sl Op} (h : l.D.length ≤ 24) : (byV l).D.Perm (byRow l.D 0) ∧ Srt (fun x y => byLess x y l) (gt (byV l).D) 0 (byV l).D.length := by
  unfold byV
  rw [byV_row, List.nil_append]
  have := stable_sorts (byLess_ok l) (data := byRow l.D 0) (Nat.le_trans (byRow_len _ _) h)
  have hs : (sortStable (byRow l.D 0) fun x0 x1 => byLess x0 x1 l) = stableS (byRow l.D 0) (byRow l.D 0).length fun x0 x1 => byLess x0 x1 l := rfl
  rw [hs]
  refine ⟨this.1, ?_⟩
  rw [this.1.length_eq]
  exact this.2
theorem byV_len {l : Sl Op} (h : l.D.length ≤ 24) : (byV l).D.length ≤ 9223372036854775807 := by
  rw [(byV_spec h).1.length_eq]
  exact Nat.le_trans (byRow_len _ _) (Nat.le_trans h (by decide))
end Go.Proofs.Ytoieegmebadfkaa
namespace Go.Proofs.Ytoieegmebadfkaa
open Go.Am
def lawProves_l0 (calls : (Sl Call)) (recs : (Sl Record)) : List (Nat → Int) → Nat → Bool
  | [], _ => (awake )
  | x :: xs, i => (bif ((rightL (jOps x calls recs)) == 0) then (bif (!(fitsL (byV (jOps x calls recs)) (jOps x calls recs))) then false else lawProves_l0 calls recs xs (i + 1) ) else lawProves_l0 calls recs xs (i + 1) )
def lawProves (calls : (Sl Call)) (recs : (Sl Record)) : Bool :=
  (bif (decide ((calls.D.length : Int) > 60)) then (awake ) else (bif (decide ((recs.D.length : Int) > 60)) then (awake ) else (bif (!(jStrong calls recs)) then (awake ) else lawProves_l0 calls recs ((jKeys calls).D) 0 )))
theorem lawProves_calls (calls : (Sl Call)) (recs : (Sl Record)) (hl1 : calls.D.length ≤ 9223372036854775807) (hl2 : recs.D.length ≤ 9223372036854775807) : PCalls Try.prog 7 [sS (some calls.nil) eCall calls.D, sS (some recs.nil) eRecord recs.D] (.pv (.lit (.bool (lawProves calls recs)))) := by
 generalize hR : lawProves calls recs = R
 refine PCalls.of_body tabOk Try.func7 rfl rfl rfl rfl rfl mixed fun E hP C hI => ?_
 refine Awp.consP C ?_
 refine rvP C (.pv (.lit (.bool false))) ?_
 refine rvc_nil ?_
 refine Awp.seq ?_
 refine Awp.consP C ?_
 refine rvP C (sS (some calls.nil) eCall calls.D) ?_
 refine rvP C (.pv (.lit (.int .i64 (calls.D.length : Int)))) ?_
 refine rvP C (.pv (.lit (.bool (decide ((calls.D.length : Int) > 60))))) ?_
 refine rvP C (.pv (.lit (.bool (decide ((calls.D.length : Int) > 60))))) ?_
 refine rvc_case 11 (decide ((calls.D.length : Int) > 60)) rfl (fun h1 => ?_) (fun h1 => ?_)
 ·
  replace hR := of_true h1 hR
  refine rvS ?_
  refine rvS ?_
  refine rvS ?_
  refine rvP C (.pv (.lit (.bool true))) ?_
  refine rvP C (.pv (.lit (.bool true))) ?_
  refine rvS ?_
  refine rvS ?_
  refine rvS ?_
  refine rvS ?_
  refine rvP C (.pv (.lit (.bool true))) ?_
  refine rvc_nil ?_
  refine Awp.condT (b := true) rfl rfl ?_
  refine Awp.consP C ?_
  refine rvc_un (rexec_call hP C rfl rfl rfl (awake_calls ) ?_)
  refine rvP C (.pv (.lit (.bool (awake )))) ?_
  refine rvc_nil ?_
  refine Awp.ret ?_
  subst hR
  exact ⟨.inl rfl, rfl⟩
 ·
  replace hR := of_false h1 hR
  refine rvO C (sS (some recs.nil) eRecord recs.D) ?_
  refine rvO C (.pv (.lit (.int .i64 (recs.D.length : Int)))) ?_
  refine rvO C (.pv (.lit (.bool (decide ((recs.D.length : Int) > 60))))) ?_
  refine rvP C (.pv (.lit (.bool (decide ((recs.D.length : Int) > 60))))) ?_
  refine rvP C (.pv (.lit (.bool (decide ((recs.D.length : Int) > 60))))) ?_
  refine rvc_case 16 (decide ((recs.D.length : Int) > 60)) rfl (fun h2 => ?_) (fun h2 => ?_)
  ·
   replace hR := of_true h2 hR
   refine rvS ?_
   refine rvS ?_
   refine rvS ?_
   refine rvS ?_
   refine rvP C (.pv (.lit (.bool true))) ?_
   refine rvc_nil ?_
   refine Awp.condT (b := true) rfl rfl ?_
   refine Awp.consP C ?_
   refine rvc_un (rexec_call hP C rfl rfl rfl (awake_calls ) ?_)
   refine rvP C (.pv (.lit (.bool (awake )))) ?_
   refine rvc_nil ?_
   refine Awp.ret ?_
   subst hR
   exact ⟨.inl rfl, rfl⟩
  ·
   replace hR := of_false h2 hR
   refine rvO C (sS (some calls.nil) eCall calls.D) ?_
   refine rvO C (sS (some recs.nil) eRecord recs.D) ?_
   refine rvc_open rfl rfl rfl (rexec_call hP C rfl rfl rfl (jStrong_calls calls recs (by show calls.D.length ≤ 1000000; have := of_decide_eq_false h1; have := of_decide_eq_false h2; omega) (by show recs.D.length ≤ 1000000; have := of_decide_eq_false h1; have := of_decide_eq_false h2; omega)) ?_)
   refine rvO C (.pv (.lit (.bool (!(jStrong calls recs))))) ?_
   refine rvP C (.pv (.lit (.bool (!(jStrong calls recs))))) ?_
   refine rvc_nil ?_
   refine Awp.cond (b := (!(jStrong calls recs))) rfl (fun h3 => ?_) (fun h3 => ?_)
   ·
    replace hR := of_true h3 hR
    refine Awp.consP C ?_
    refine rvc_un (rexec_call hP C rfl rfl rfl (awake_calls ) ?_)
    refine rvP C (.pv (.lit (.bool (awake )))) ?_
    refine rvc_nil ?_
    refine Awp.ret ?_
    subst hR
    exact ⟨.inl rfl, rfl⟩
   ·
    replace hR := of_false h3 hR
    refine Awp.skip ?_
    refine Awp.seq ?_
    refine Awp.consP C ?_
    refine rvP C (sS (some calls.nil) eCall calls.D) ?_
    refine rvc_un (rexec_call hP C rfl rfl rfl (jKeys_calls calls (by show calls.D.length ≤ 1000000; have := of_decide_eq_false h1; have := of_decide_eq_false h2; omega)) ?_)
    refine rvP C (.pv (.lit (.int .i64 (((jKeys calls).D).length : Int)))) ?_
    refine rvP C (.pv (.lit (.int .i64 0))) ?_
    refine rvc_nil ?_
    refine Awp.block ?_
    refine Awp.forR (σ := Unit) (((jKeys calls).D).length) (fun i _v => [(0, sS (some calls.nil) eCall calls.D), (1, sS (some recs.nil) eRecord recs.D), (24, sS (some (jKeys calls).nil) (eA8 .u8) ((jKeys calls).D)), (25, .pv (.lit (.int .i64 (((jKeys calls).D).length : Int)))), (26, .pv (.lit (.int .i64 (i : Int))))]) (fun i _v => []) [] (fun i _v => lawProves_l0 calls recs (((jKeys calls).D).drop i) i  = R) () ?_ ?_ (fun i _v h4 hR => ?_)
    · exact hR
    · exact ⟨fun b => b, WeakerR.ofL (Ks := []) hI ⟨⟨rfl, rfl⟩, ⟨rfl, rfl⟩, ⟨rfl, rfl⟩, ⟨rfl, rfl⟩, ⟨rfl, rfl⟩, trivial⟩ (okH_nil) rfl⟩
    have hk_ := jKeys_len (calls := calls) (by have c60_ := of_decide_eq_false ‹decide ((calls.D.length : Int) > 60) = false›; have r60_ := of_decide_eq_false ‹decide ((recs.D.length : Int) > 60) = false›; omega)
    have c60_ := of_decide_eq_false ‹decide ((calls.D.length : Int) > 60) = false›
    have r60_ := of_decide_eq_false ‹decide ((recs.D.length : Int) > 60) = false›
    refine Awp.consP C ?_
    refine rvP C (.pv (.lit (.bool (decide ((i : Int) < (((jKeys calls).D).length : Int)))))) ?_
    refine rvc_nil ?_
    refine Awp.seq ?_
    refine Awp.cond (b := (decide ((i : Int) < (((jKeys calls).D).length : Int)))) rfl (fun h5 => ?_) (fun h5 => ?_)
    ·
     have h6 : i < ((jKeys calls).D).length := by have := of_decide_eq_true h5; omega
     obtain ⟨x, h7⟩ := getX h6
     rw [drop_at h7] at hR
     refine Awp.skip ?_
     refine Awp.seq ?_
     refine Awp.block ?_
     refine Awp.consP C ?_
     refine rvc_un (rexec_idxS C rfl rfl rfl rfl rfl rfl x (Int.natCast_nonneg _) h7 ?_)
     refine rvP C (.agg [.pv (.lit (.int .u8 (x 0))), .pv (.lit (.int .u8 (x 1))), .pv (.lit (.int .u8 (x 2))), .pv (.lit (.int .u8 (x 3))), .pv (.lit (.int .u8 (x 4))), .pv (.lit (.int .u8 (x 5))), .pv (.lit (.int .u8 (x 6))), .pv (.lit (.int .u8 (x 7)))]) ?_
     refine rvc_un (rexec_prim C (δ := { v := .ptr 6 0, new := [(6, .cells [.pv (.lit (.int .u8 0)), .pv (.lit (.int .u8 0)), .pv (.lit (.int .u8 0)), .pv (.lit (.int .u8 0)), .pv (.lit (.int .u8 0)), .pv (.lit (.int .u8 0)), .pv (.lit (.int .u8 0)), .pv (.lit (.int .u8 0))])] }) rfl rfl rfl rfl trivial rfl ?_)
     refine rvc_un (rexec_prim C (δ := { v := .undef, wr := [(6, some (.cells [.pv (.lit (.int .u8 (x 0))), .pv (.lit (.int .u8 (x 1))), .pv (.lit (.int .u8 (x 2))), .pv (.lit (.int .u8 (x 3))), .pv (.lit (.int .u8 (x 4))), .pv (.lit (.int .u8 (x 5))), .pv (.lit (.int .u8 (x 6))), .pv (.lit (.int .u8 (x 7)))]))] }) rfl rfl rfl rfl trivial rfl ?_)
     refine rvc_nil ?_
     refine Awp.consP C ?_
     refine rvP C (.agg [.pv (.lit (.int .u8 (x 0))), .pv (.lit (.int .u8 (x 1))), .pv (.lit (.int .u8 (x 2))), .pv (.lit (.int .u8 (x 3))), .pv (.lit (.int .u8 (x 4))), .pv (.lit (.int .u8 (x 5))), .pv (.lit (.int .u8 (x 6))), .pv (.lit (.int .u8 (x 7)))]) ?_
     refine rvP C (sS (some calls.nil) eCall calls.D) ?_
     refine rvP C (sS (some recs.nil) eRecord recs.D) ?_
     refine rvc_un (rexec_call hP C rfl rfl rfl (jOps_calls x calls recs (by have c60_ := of_decide_eq_false ‹decide ((calls.D.length : Int) > 60) = false›; have r60_ := of_decide_eq_false ‹decide ((recs.D.length : Int) > 60) = false›; omega) (by have c60_ := of_decide_eq_false ‹decide ((calls.D.length : Int) > 60) = false›; have r60_ := of_decide_eq_false ‹decide ((recs.D.length : Int) > 60) = false›; omega)) ?_)
     refine rvP C (sS (some (jOps x calls recs).nil) eOp ((jOps x calls recs).D)) ?_
     refine rvc_nil ?_
     refine Awp.consP C ?_
     refine rvP C (sS (some (jOps x calls recs).nil) eOp ((jOps x calls recs).D)) ?_
     refine rvc_un (rexec_call hP C rfl rfl rfl (rightL_calls (jOps x calls recs) (Nat.le_trans jOps_len (by have c60_ := of_decide_eq_false ‹decide ((calls.D.length : Int) > 60) = false›; have r60_ := of_decide_eq_false ‹decide ((recs.D.length : Int) > 60) = false›; omega))) ?_)
     refine rvP C (.pv (.lit (.bool ((rightL (jOps x calls recs)) == 0)))) ?_
     refine rvP C (.pv (.lit (.bool ((rightL (jOps x calls recs)) == 0)))) ?_
     refine rvc_case 37 ((rightL (jOps x calls recs)) == 0) rfl (fun h8 => ?_) (fun h8 => ?_)
     ·
      replace hR := of_true h8 hR
      refine rvO C (sS (some (jOps x calls recs).nil) eOp ((jOps x calls recs).D)) ?_
      refine rvc_open rfl rfl rfl (rexec_call hP C rfl rfl rfl (byV_calls (jOps x calls recs) (right_len24 (bne_of_beq (by assumption))) (Nat.le_trans jOps_len (by have c60_ := of_decide_eq_false ‹decide ((calls.D.length : Int) > 60) = false›; have r60_ := of_decide_eq_false ‹decide ((recs.D.length : Int) > 60) = false›; omega))) ?_)
      refine rvO C (sS (some (jOps x calls recs).nil) eOp ((jOps x calls recs).D)) ?_
      refine rvc_open rfl rfl rfl (rexec_call hP C rfl rfl rfl (fitsL_calls (byV (jOps x calls recs)) (jOps x calls recs) (Nat.le_trans jOps_len (by have c60_ := of_decide_eq_false ‹decide ((calls.D.length : Int) > 60) = false›; have r60_ := of_decide_eq_false ‹decide ((recs.D.length : Int) > 60) = false›; omega)) (byV_len (right_len24 (bne_of_beq (by assumption))))) ?_)
      refine rvO C (.pv (.lit (.bool (!(fitsL (byV (jOps x calls recs)) (jOps x calls recs)))))) ?_
      refine rvP C (.pv (.lit (.bool (!(fitsL (byV (jOps x calls recs)) (jOps x calls recs)))))) ?_
      refine rvc_nil ?_
      refine Awp.cond (b := (!(fitsL (byV (jOps x calls recs)) (jOps x calls recs)))) rfl (fun h9 => ?_) (fun h9 => ?_)
      ·
       replace hR := of_true h9 hR
       refine Awp.consP C ?_
       refine rvP C (.pv (.lit (.bool false))) ?_
       refine rvc_nil ?_
       refine Awp.ret ?_
       subst hR
       exact ⟨.inl rfl, rfl⟩
      ·
       replace hR := of_false h9 hR
       refine Awp.skip ?_
       refine Awp.regionP C ?_
       refine rvP C (.pv (.lit (.int .i64 (IntKind.i64.wrap ((i : Int) + 1))))) ?_
       refine rvP C (.pv (.lit (.int .i64 (IntKind.i64.wrap ((i : Int) + 1))))) ?_
       refine rvc_nil ?_
       refine ⟨h6, (), ?_, ?_⟩
       · exact hR
       · exact ⟨fun b => b, WeakerR.ofL (Ks := []) hI ⟨⟨rfl, rfl⟩, ⟨rfl, rfl⟩, ⟨rfl, rfl⟩, ⟨rfl, rfl⟩, ⟨lit_cast (wrap_i64 (by omega) (by omega)), rfl⟩, trivial⟩ (okH_nil) rfl⟩
     ·
      replace hR := of_false h8 hR
      refine rvS ?_
      refine rvS ?_
      refine rvS ?_
      refine rvS ?_
      refine rvS ?_
      refine rvP C (.pv (.lit (.bool false))) ?_
      refine rvc_nil ?_
      refine Awp.condF (b := false) rfl rfl ?_
      refine Awp.skip ?_
      refine Awp.regionP C ?_
      refine rvP C (.pv (.lit (.int .i64 (IntKind.i64.wrap ((i : Int) + 1))))) ?_
      refine rvP C (.pv (.lit (.int .i64 (IntKind.i64.wrap ((i : Int) + 1))))) ?_
      refine rvc_nil ?_
      refine ⟨h6, (), ?_, ?_⟩
      · exact hR
      · exact ⟨fun b => b, WeakerR.ofL (Ks := []) hI ⟨⟨rfl, rfl⟩, ⟨rfl, rfl⟩, ⟨rfl, rfl⟩, ⟨rfl, rfl⟩, ⟨lit_cast (wrap_i64 (by omega) (by omega)), rfl⟩, trivial⟩ (okH_nil) rfl⟩
    ·
     have h6 : ¬ i < ((jKeys calls).D).length := by have := of_decide_eq_false h5; omega
     rw [drop_end h6] at hR
     refine Awp.exit ?_
     refine Awp.consP C ?_
     refine rvc_un (rexec_call hP C rfl rfl rfl (awake_calls ) ?_)
     refine rvP C (.pv (.lit (.bool (awake )))) ?_
     refine rvc_nil ?_
     refine Awp.ret ?_
     subst hR
     exact ⟨.inl rfl, rfl⟩
end Go.Proofs.Ytoieegmebadfkaa
namespace Go.Proofs.Ytoieegmebadfkaa
open Go.Am
def before (a : Op) (b : Op) : Bool :=
  (bif (decide (a.ended > 0)) then (decide (a.ended < b.began)) else false)
def allSO_l0 (done : Int) : List Op → Nat → Bool
  | [], _ => true
  | x :: xs, i => (bif (x.ended != 0) then (bif (!(mHas done (i : Int))) then false else allSO_l0 done xs (i + 1) ) else allSO_l0 done xs (i + 1) )
def allSO (s : Search) (done : Int) : Bool :=
  allSO_l0 done s.l.D 0
def firstSO_l0 (s : Search) (i : Int) (done : Int) : List Op → Nat → Bool
  | [], _ => true
  | x :: xs, i1 => (bif ((i1 : Int) != i) then (bif (!(mHas done (i1 : Int))) then (bif (decide ((over x) < (s.l.D[i.toNat]!.began))) then false else firstSO_l0 s i done xs (i1 + 1) ) else firstSO_l0 s i done xs (i1 + 1) ) else firstSO_l0 s i done xs (i1 + 1) )
def firstSO (s : Search) (i : Int) (done : Int) : Bool :=
  firstSO_l0 s i done s.l.D 0
theorem wrap64L (n : Int) : IntKind.u64.wrap n = n % 18446744073709551616 := by
  simp [IntKind.wrap, IntKind.bits, IntKind.signed]
theorem bv64 (a : Nat) (h : a < 18446744073709551616) : (BitVec.ofInt 64 (a : Int)).toNat = a := by
  rw [BitVec.toNat_ofInt]
  have : ((2 ^ 64 : Nat) : Int) = 18446744073709551616 := by decide
  rw [this]; omega
theorem or64 {a b : Nat} (ha : a < 18446744073709551616) (hb : b < 18446744073709551616) : bitI .or .u64 a b = ((a ||| b : Nat) : Int) := by
  have : a ||| b < 18446744073709551616 := Nat.or_lt_two_pow (n := 64) ha hb
  show IntKind.u64.wrap (((BitVec.ofInt 64 (a : Int) ||| BitVec.ofInt 64 (b : Int) : BitVec 64).toNat : Nat) : Int) = _
  rw [BitVec.toNat_or, bv64 a ha, bv64 b hb, wrap64L]; omega
theorem and64 {a b : Nat} (ha : a < 18446744073709551616) (hb : b < 18446744073709551616) : bitI .and .u64 a b = ((a &&& b : Nat) : Int) := by
  have : a &&& b < 18446744073709551616 := Nat.lt_of_le_of_lt Nat.and_le_left ha
  show IntKind.u64.wrap (((BitVec.ofInt 64 (a : Int) &&& BitVec.ofInt 64 (b : Int) : BitVec 64).toNat : Nat) : Int) = _
  rw [BitVec.toNat_and, bv64 a ha, bv64 b hb, wrap64L]; omega
theorem shr64 {a n : Nat} (hn : n < 64) : shrI .u64 (a : Int) (n : Int) = ((a >>> n : Nat) : Int) := by
  show (a : Int) / 2 ^ (min ((n : Int).toNat) 64) = _
  rw [Int.toNat_natCast, Nat.min_eq_left (by omega), Nat.shiftRight_eq_div_pow]
  simp
theorem shl64 {n : Nat} (hn : n < 64) : shlI .u64 1 (n : Int) = ((2 ^ n : Nat) : Int) := by
  show IntKind.u64.wrap (1 * 2 ^ (min ((n : Int).toNat) 64)) = _
  have h : 2 ^ n < 2 ^ 64 := Nat.pow_lt_pow_right (by decide) hn
  have h' : (2 : Nat) ^ 64 = 18446744073709551616 := by decide
  rw [Int.toNat_natCast, Nat.min_eq_left (by omega), wrap64L, Int.one_mul]
  have e : (2 : Int) ^ n = ((2 ^ n : Nat) : Int) := by simp
  rw [e]
  rw [h'] at h
  clear e h'
  generalize (2 : Nat) ^ n = p at h ⊢
  omega
theorem in_nat {n : Nat} : mIn (n : Int) = decide (n < 64) := by
  unfold mIn
  have h0 : decide ((n : Int) ≥ 0) = true := by simp
  rw [h0]
  simp only [cond_true]
  congr 1
  exact propext ⟨fun h => by omega, fun h => by omega⟩
theorem has_nat {S n : Nat} (hS : S < 18446744073709551616) (hn : n < 64) : mHas (S : Int) (n : Int) = S.testBit n := by
  unfold mHas
  have hlt : S >>> n < 18446744073709551616 := Nat.lt_of_le_of_lt (Nat.shiftRight_le _ _) hS
  have h1 : (1 : Int) = ((1 : Nat) : Int) := rfl
  rw [in_nat, decide_eq_true hn, cond_true, shr64 hn, h1, and64 hlt (by decide)]
  rw [Nat.testBit_eq_decide_div_mod_eq, Nat.and_one_is_mod, Nat.shiftRight_eq_div_pow]
  by_cases h : S / 2 ^ n % 2 = 1
  · simp [h]
  · have : S / 2 ^ n % 2 = 0 := by omega
    simp [this]
theorem with_nat {S n : Nat} (hS : S < 18446744073709551616) (hn : n < 64) : mWith (S : Int) (n : Int) = ((S ||| 2 ^ n : Nat) : Int) := by
  unfold mWith
  have h : 2 ^ n < 2 ^ 64 := Nat.pow_lt_pow_right (by decide) hn
  have h' : (2 : Nat) ^ 64 = 18446744073709551616 := by decide
  rw [in_nat, decide_eq_true hn, Bool.not_true, cond_false, shl64 hn, or64 hS (by omega)]
theorem with_lt {S n : Nat} (hS : S < 18446744073709551616) (hn : n < 64) : S ||| 2 ^ n < 18446744073709551616 :=
  Nat.or_lt_two_pow (n := 64) hS (Nat.pow_lt_pow_right (by decide) hn)
theorem has_with {S n m : Nat} (hS : S < 18446744073709551616) (hn : n < 64) (hm : m < 64) : mHas (mWith (S : Int) (n : Int)) (m : Int) = (mHas (S : Int) (m : Int) || decide (n = m)) := by
  rw [with_nat hS hn, has_nat (with_lt hS hn) hm, has_nat hS hm, Nat.testBit_or, Nat.testBit_two_pow]
def okD (d : Int) : Prop := 0 ≤ d ∧ d < 18446744073709551616
theorem okD_nat {d : Int} (h : okD d) : ∃ S : Nat, d = (S : Int) ∧ S < 18446744073709551616 := ⟨d.toNat, by obtain ⟨h1, h2⟩ := h; omega, by obtain ⟨h1, h2⟩ := h; omega⟩
theorem okD_cast {S : Nat} (h : S < 18446744073709551616) : okD (S : Int) := ⟨by omega, by omega⟩
theorem with_okD {d : Int} (h : okD d) {n : Nat} (hn : n < 64) : okD (mWith d (n : Int)) := by
  obtain ⟨S, rfl, hS⟩ := okD_nat h
  rw [with_nat hS hn]
  exact okD_cast (with_lt hS hn)
theorem has_withD {d : Int} (h : okD d) {n m : Nat} (hn : n < 64) (hm : m < 64) : mHas (mWith d (n : Int)) (m : Int) = (mHas d (m : Int) || decide (n = m)) := by
  obtain ⟨S, rfl, hS⟩ := okD_nat h
  exact has_with hS hn hm
def refRight_l0 : List Op → Nat → Int
  | [], _ => 0
  | x :: xs, i => (bif (decide (x.began < 1)) then 70 else (bif (decide (x.ended < 0)) then 70 else (bif (decide (x.ended > 0)) then (bif (decide (x.ended ≤ x.began)) then 70 else (bif (decide (x.ver < 0)) then 70 else (bif (decide (x.ver > 1099511627776)) then 70 else (bif (decide ((x.value.size : Int) > 24)) then 70 else refRight_l0 xs (i + 1) )))) else (bif (decide (x.ver < 0)) then 70 else (bif (decide (x.ver > 1099511627776)) then 70 else (bif (decide ((x.value.size : Int) > 24)) then 70 else refRight_l0 xs (i + 1) ))))))
def refRight (l : (Sl Op)) : Int :=
  (bif (decide ((l.D.length : Int) > 24)) then 4 else refRight_l0 l.D 0 )
theorem ref_len {l : Sl Op} (h : (refRight l != 0) = false) : l.D.length ≤ 64 := by
  unfold refRight at h
  cases h1 : decide ((l.D.length : Int) > 24)
  · have := of_decide_eq_false h1; omega
  · rw [h1] at h; cases h
def nextW_l0 (l : (Sl Op)) (left : (Sl Bool)) (i : Int) : List Op → Nat → Bool
  | [], _ => true
  | x :: xs, i1 => (bif left.D[i1]! then (bif ((i1 : Int) != i) then (bif (before x (l.D[i.toNat]!)) then false else nextW_l0 l left i xs (i1 + 1) ) else nextW_l0 l left i xs (i1 + 1) ) else nextW_l0 l left i xs (i1 + 1) )
def nextW (l : (Sl Op)) (left : (Sl Bool)) (i : Int) : Bool :=
  nextW_l0 l left i l.D 0
def rFits_l2 (vc1 : (List Bool)) : List Op → Nat → Bool
  | [], _ => true
  | x2 :: x2s, i2 => (bif vc1[i2]! then (bif (decide (x2.ended > 0)) then false else rFits_l2 vc1 x2s (i2 + 1) ) else rFits_l2 vc1 x2s (i2 + 1) )
def rFits_l1 (l : (Sl Op)) : List Int → Nat → ByteArray → (List Bool) → Bool
  | [], _, _, vc1 => rFits_l2 vc1 l.D 0 
  | x1 :: x1s, i1, value, vc1 => (bif (decide (x1 < 0)) then false else (bif (decide (x1 ≥ (l.D.length : Int))) then false else (bif (!(vc1[x1.toNat]!)) then false else (bif (!(nextW l (Sl.mk false vc1) x1)) then false else (bif l.D[x1.toNat]!.write then rFits_l1 l x1s (i1 + 1) (l.D[x1.toNat]!.value) (vc1.set x1.toNat false) else (bif (!((l.D[x1.toNat]!.value).toList == value.toList)) then false else rFits_l1 l x1s (i1 + 1) value (vc1.set x1.toNat false)))))))
def rFits_l0 (row : (Sl Int)) (l : (Sl Op)) : List Op → Nat → (List Bool) → Bool
  | [], _, vc => rFits_l1 l row.D 0 ⟨#[]⟩ vc
  | _ :: xs, i, vc => rFits_l0 row l xs (i + 1) (vc.set i true)
def rFits (row : (Sl Int)) (l : (Sl Op)) : Bool :=
  (bif ((refRight l) != 0) then false else rFits_l0 row l l.D 0 (List.replicate l.D.length false))
theorem right_l : ∀ (l : List Op) (i : Nat), rightL_l0 l i = refRight_l0 l i
  | [], _ => rfl
  | x :: xs, i => by
    unfold rightL_l0 refRight_l0
    rw [right_l xs (i + 1)]
    by_cases h1 : x.began < 1
    · rw [decide_eq_true h1]; rfl
    · rw [decide_eq_false h1]
      simp only [cond_false]
      rcases Int.lt_trichotomy x.ended 0 with h | h | h
      · have e1 : (x.ended != 0) = true := by simp; omega
        rw [e1, decide_eq_true (p := x.ended ≤ x.began) (by omega), decide_eq_true h]; rfl
      · have e1 : (x.ended != 0) = false := by rw [h]; rfl
        rw [e1, decide_eq_false (p := x.ended < 0) (by omega), decide_eq_false (p := x.ended > 0) (by omega)]; rfl
      · have e1 : (x.ended != 0) = true := by simp; omega
        rw [e1, decide_eq_false (p := x.ended < 0) (by omega), decide_eq_true (p := x.ended > 0) (by omega)]; rfl
theorem right_eqL (l : Sl Op) : rightL l = refRight l := by unfold rightL refRight; rw [right_l]
def WT47 (x : Op) : Prop := True ∧ x.value.size ≤ maxLen ∧ (Lit.int .i64 x.ver).wf = true ∧ (Lit.int .i64 x.began).wf = true ∧ (Lit.int .i64 x.ended).wf = true
def WT40 (s : Sl Op) : Prop := s.D.length ≤ maxLen ∧ (s.nil = true → s.D = []) ∧ ∀ x ∈ s.D, WT47 x
theorem loop_iff {α : Type} {f : List α → Nat → Bool} {c : Nat → α → Bool} (h0 : ∀ j, f [] j = true) (h1 : ∀ x xs j, f (x :: xs) j = bif c j x then false else f xs (j + 1)) : ∀ (ys : List α) (j : Nat), f ys j = true ↔ ∀ k x, ys[k]? = some x → c (j + k) x = false
  | [], j => by simp [h0]
  | y :: ys, j => by
    rw [h1]
    cases hc : c j y
    · rw [cond_false, loop_iff h0 h1 ys (j + 1)]
      constructor
      · intro h k x hk
        cases k with
        | zero => simp only [List.getElem?_cons_zero, Option.some.injEq] at hk; subst hk; exact hc
        | succ k => rw [List.getElem?_cons_succ] at hk; have := h k x hk; rwa [Nat.add_right_comm] at this
      · intro h k x hk
        have := h (k + 1) x (by rw [List.getElem?_cons_succ]; exact hk)
        rwa [show j + (k + 1) = j + 1 + k by omega] at this
    · rw [cond_true]
      constructor
      · intro h; cases h
      · intro h
        have := h 0 y rfl
        rw [Nat.add_zero, hc] at this; cases this
def firstC' (l : List Op) (i done : Int) (k : Nat) (x : Op) : Bool := ((k : Int) != i) && (!(mHas done (k : Int)) && decide (over x < (l[i.toNat]!.began)))
theorem firstSO_iff (s : Search) (i d : Int) : firstSO s i d = true ↔ ∀ k x, s.l.D[k]? = some x → firstC' s.l.D i d k x = false := by
  have := loop_iff (f := firstSO_l0 s i d) (c := firstC' s.l.D i d) (fun _ => rfl) (fun x xs j => by
    conv => lhs; unfold firstSO_l0
    unfold firstC'
    cases ((j : Int) != i) <;> cases (mHas d (j : Int)) <;> cases decide (over x < (s.l.D[i.toNat]!.began)) <;> rfl) s.l.D 0
  simp only [Nat.zero_add] at this
  exact this
theorem firstSM_eq (s : Search) (i d : Int) : firstSM s i d = firstSO s i d := by
  unfold firstSM firstSO
  suffices hh : ∀ (ys : List Op) (j : Nat), firstSM_l0 s i d ys j = firstSO_l0 s i d ys j from hh _ 0
  intro ys
  induction ys with
  | nil => intro j; rfl
  | cons y ys ih => intro j; unfold firstSM_l0 firstSO_l0; rw [ih]
theorem allSM_eq (s : Search) (d : Int) : allSM s d = allSO s d := by
  unfold allSM allSO
  suffices hh : ∀ (ys : List Op) (j : Nat), allSM_l0 d ys j = allSO_l0 d ys j from hh _ 0
  intro ys
  induction ys with
  | nil => intro j; rfl
  | cons y ys ih => intro j; unfold allSM_l0 allSO_l0; rw [ih]
theorem allSO_iff (s : Search) (d : Int) : allSO s d = true ↔ ∀ (k : Nat) (x : Op), s.l.D[k]? = some x → ((x.ended != 0) && !(mHas d (k : Int))) = false := by
  have := loop_iff (f := allSO_l0 d) (c := fun (k : Nat) (x : Op) => (x.ended != 0) && !(mHas d (k : Int))) (fun _ => rfl) (fun x xs j => by
    conv => lhs; unfold allSO_l0
    cases (x.ended != 0) <;> cases (mHas d (j : Int)) <;> rfl) s.l.D 0
  simp only [Nat.zero_add] at this
  exact this
def nextC (l : List Op) (left : List Bool) (i : Int) (k : Nat) (x : Op) : Bool := left[k]! && (((k : Int) != i) && before x (l[i.toNat]!))
theorem nextW_iff (l : Sl Op) (left : Sl Bool) (i : Int) : nextW l left i = true ↔ ∀ k x, l.D[k]? = some x → nextC l.D left.D i k x = false := by
  have := loop_iff (f := nextW_l0 l left i) (c := nextC l.D left.D i) (fun _ => rfl) (fun x xs j => by
    conv => lhs; unfold nextW_l0
    unfold nextC
    cases left.D[j]! <;> cases ((j : Int) != i) <;> cases before x (l.D[i.toNat]!) <;> rfl) l.D 0
  simp only [Nat.zero_add] at this
  exact this
theorem rFits2_iff (left : List Bool) (l : List Op) : rFits_l2 left l 0 = true ↔ ∀ (k : Nat) (x : Op), l[k]? = some x → (left[k]! && decide (x.ended > 0)) = false := by
  have := loop_iff (f := rFits_l2 left) (c := fun (k : Nat) (x : Op) => left[k]! && decide (x.ended > 0)) (fun _ => rfl) (fun x xs j => by
    conv => lhs; unfold rFits_l2
    cases left[j]! <;> cases decide (x.ended > 0) <;> rfl) l 0
  simp only [Nat.zero_add] at this
  exact this
/-- What is done, and what is left. -/
def Rel (l : List Op) (done : Int) (left : List Bool) : Prop := left.length = l.length ∧ ∀ k, k < l.length → left[k]! = !(mHas done (k : Int))
def okOp (x : Op) : Prop := 0 ≤ x.ended ∧ x.began ≤ 9223372036854775807
theorem over_before {a b : Op} (h : okOp a) (hb : okOp b) : decide (over a < b.began) = before a b := by
  obtain ⟨h1, _⟩ := h
  obtain ⟨_, h2⟩ := hb
  unfold over before
  by_cases e : a.ended = 0
  · have e1 : (a.ended == 0) = true := by simp [e]
    rw [e1, decide_eq_false (p := a.ended > 0) (by omega), cond_true, cond_false]
    exact decide_eq_false (by omega)
  · have e1 : (a.ended == 0) = false := by simp [e]
    rw [e1, decide_eq_true (p := a.ended > 0) (by omega), cond_true, cond_false]
theorem bool_iff {a b : Bool} (h : a = true ↔ b = true) : a = b := by
  cases a <;> cases b <;> simp_all
theorem getI {α : Type} [Inhabited α] {l : List α} {i : Nat} {x : α} (h : l[i]? = some x) : l[i]! = x := by
  rw [List.getElem!_eq_getElem?_getD, h]; rfl
theorem getO {α : Type} [Inhabited α] {l : List α} {i : Nat} (h : i < l.length) : l[i]? = some (l[i]!) := by
  rw [List.getElem!_eq_getElem?_getD, List.getElem?_eq_getElem h]; rfl
theorem lt_of_get {α : Type} {l : List α} {i : Nat} {x : α} (h : l[i]? = some x) : i < l.length := by
  rcases Nat.lt_or_ge i l.length with h1 | h1
  · exact h1
  · rw [List.getElem?_eq_none h1] at h; cases h
theorem next_first {l : Sl Op} (hl : ∀ x ∈ l.D, okOp x) {done : Int} {left : Sl Bool} (h : Rel l.D done left.D) {i : Int} (hi : 0 ≤ i ∧ i < (l.D.length : Int)) (s : Search) (hs : s.l.D = l.D) : firstSO s i done = nextW l left i := by
  apply bool_iff
  rw [firstSO_iff, nextW_iff, hs]
  have key : ∀ k x, l.D[k]? = some x → firstC' l.D i done k x = nextC l.D left.D i k x := fun k x hk => by
    unfold firstC' nextC
    have hlt := lt_of_get hk
    have hm : x ∈ l.D := List.mem_of_getElem? hk
    have hm2 : l.D[i.toNat]! ∈ l.D := List.mem_of_getElem? (getO (by omega))
    rw [h.2 k hlt, over_before (hl x hm) (hl _ hm2)]
    cases ((k : Int) != i) <;> cases mHas done (k : Int) <;> cases before x l.D[i.toNat]! <;> rfl
  constructor
  · intro hh k x hk; rw [← key k x hk]; exact hh k x hk
  · intro hh k x hk; rw [key k x hk]; exact hh k x hk
theorem all_left {l : List Op} (hl : ∀ x ∈ l, okOp x) {done : Int} {left : List Bool} (h : Rel l done left) (s : Search) (hs : s.l.D = l) : allSO s done = rFits_l2 left l 0 := by
  apply bool_iff
  rw [allSO_iff, rFits2_iff, hs]
  have key : ∀ (k : Nat) (x : Op), l[k]? = some x → ((x.ended != 0) && !(mHas done (k : Int))) = (left[k]! && decide (x.ended > 0)) := fun k x hk => by
    have hx := (hl x (List.mem_of_getElem? hk)).1
    rw [h.2 k (lt_of_get hk)]
    by_cases e : x.ended = 0
    · have e1 : (x.ended != 0) = false := by simp [e]
      rw [e1, decide_eq_false (p := x.ended > 0) (by omega)]; simp
    · have e1 : (x.ended != 0) = true := by simp [e]
      rw [e1, decide_eq_true (p := x.ended > 0) (by omega)]; simp
  constructor
  · intro hh k x hk; rw [← key k x hk]; exact hh k x hk
  · intro hh k x hk; rw [key k x hk]; exact hh k x hk
theorem set_get (left : List Bool) (n k : Nat) (hk : k < left.length) : (left.set n false)[k]! = (left[k]! && !(decide (n = k))) := by
  rw [List.getElem!_eq_getElem?_getD, List.getElem!_eq_getElem?_getD, List.getElem?_set]
  by_cases e : n = k
  · subst e
    rw [if_pos rfl, if_pos hk]; simp
  · rw [if_neg e]; simp [e]
theorem Rel.step {l : List Op} {done : Int} {left : List Bool} (hl : l.length ≤ 64) (hd : okD done) (h : Rel l done left) {n : Nat} (hn : n < l.length) : Rel l (mWith done (n : Int)) (left.set n false) := by
  refine ⟨by rw [List.length_set]; exact h.1, fun k hk => ?_⟩
  rw [set_get _ _ _ (by rw [h.1]; exact hk), h.2 k hk, has_withD hd (by omega) (by omega)]
  cases mHas done (k : Int) <;> simp
theorem Rel.zero (l : List Op) (hl : l.length ≤ 64) : Rel l 0 (List.replicate l.length true) := by
  refine ⟨by simp, fun k hk => ?_⟩
  have e : mHas 0 (k : Int) = false := by
    have := has_nat (S := 0) (n := k) (by decide) (by omega)
    rw [Nat.zero_testBit] at this
    exact this
  rw [e, List.getElem!_eq_getElem?_getD, List.getElem?_replicate, if_pos hk]; rfl
theorem okD0 : okD 0 := ⟨by decide, by decide⟩
theorem rep_set (i k : Nat) : (List.replicate i true ++ List.replicate (k + 1) false).set i true = List.replicate (i + 1) true ++ List.replicate k false := by
  rw [List.set_append_right _ _ (by simp)]
  simp only [List.length_replicate, Nat.sub_self, List.replicate_succ, List.set_cons_zero]
  rw [← List.replicate_succ, List.replicate_succ', List.append_assoc]; rfl
theorem rFits0_eq (row : Sl Int) (l : Sl Op) : ∀ (ys : List Op) (i : Nat), rFits_l0 row l ys i (List.replicate i true ++ List.replicate ys.length false) = rFits_l1 l row.D 0 ⟨#[]⟩ (List.replicate (i + ys.length) true)
  | [], i => by unfold rFits_l0; simp
  | y :: ys, i => by
    unfold rFits_l0
    rw [List.length_cons, rep_set, rFits0_eq row l ys (i + 1), show i + 1 + ys.length = i + (ys.length + 1) by omega]
theorem fits_l {l : Sl Op} (hl : ∀ x ∈ l.D, okOp x) (h64 : l.D.length ≤ 64) : ∀ (xs : List Int) (i j : Nat) (done : Int) (left : List Bool) (v : ByteArray), okD done → Rel l.D done left → fitsL_l0 l xs i done v = rFits_l1 l xs j v left
  | [], i, j, done, left, v, hd, hr => by
    unfold fitsL_l0 rFits_l1
    rw [allSM_eq, all_left hl hr _ rfl]
  | x :: xs, i, j, done, left, v, hd, hr => by
    unfold fitsL_l0 rFits_l1
    by_cases h1 : x < 0
    · rw [decide_eq_true h1]; rfl
    · by_cases h2 : x ≥ (l.D.length : Int)
      · rw [decide_eq_true h2, decide_eq_false h1]; rfl
      · rw [decide_eq_false h2, decide_eq_false h1]
        have hn : x.toNat < l.D.length := by omega
        have hx : x = ((x.toNat : Nat) : Int) := by omega
        have e1 := hr.2 _ hn
        rw [← hx] at e1
        rw [e1, firstSM_eq, next_first hl (left := Sl.mk false left) hr (by omega) _ rfl]
        have hs := hr.step h64 hd hn
        rw [← hx] at hs
        have hd' := with_okD hd (n := x.toNat) (by omega)
        rw [← hx] at hd'
        rw [fits_l hl h64 xs (i + 1) (j + 1) _ _ (l.D[x.toNat]!.value) hd' hs, fits_l hl h64 xs (i + 1) (j + 1) _ _ v hd' hs]
        cases mHas done x <;> cases nextW l (Sl.mk false left) x <;> cases l.D[x.toNat]!.write <;> cases (l.D[x.toNat]!.value.toList == v.toList) <;> rfl
theorem right_ended : ∀ (l : List Op) (i : Nat), refRight_l0 l i = 0 → ∀ x ∈ l, 0 ≤ x.ended
  | [], _, _, x, hx => by cases hx
  | y :: ys, i, h, x, hx => by
    unfold refRight_l0 at h
    by_cases h1 : y.ended < 0
    · rw [decide_eq_true h1] at h
      cases hb : decide (y.began < 1) <;> rw [hb] at h <;> cases h
    · rcases List.mem_cons.1 hx with rfl | hx
      · omega
      · refine right_ended ys (i + 1) ?_ x hx
        rw [decide_eq_false h1] at h
        revert h
        cases decide (y.began < 1) <;> cases decide (y.ended > 0) <;> cases decide (y.ended ≤ y.began) <;> cases decide (y.ver < 0) <;> cases decide (y.ver > 1099511627776) <;> cases decide ((y.value.size : Int) > 24) <;> intro h <;> first | exact h | cases h
theorem ok_of {l : Sl Op} (w : WT40 l) (h : (refRight l != 0) = false) : ∀ x ∈ l.D, okOp x := fun x hx => by
  have h0 : refRight l = 0 := by simpa using h
  unfold refRight at h0
  cases h1 : decide ((l.D.length : Int) > 24)
  · rw [h1, cond_false] at h0
    refine ⟨right_ended _ _ h0 x hx, ?_⟩
    have hw := (w.2.2 x hx)
    have hb := hw.2.2.2.1
    simp [Lit.wf, IntKind.min, IntKind.max, IntKind.signed, IntKind.bits] at hb
    omega
  · rw [h1] at h0; cases h0
theorem fits_eq (row : Sl Int) (l : Sl Op) (w : WT40 l) : fitsL row l = rFits row l := by
  unfold fitsL rFits
  rw [right_eqL]
  cases h : (refRight l != 0)
  · rw [cond_false, cond_false]
    have h64 := ref_len h
    have := rFits0_eq row l l.D 0
    simp only [List.replicate_zero, List.nil_append, Nat.zero_add] at this
    rw [this]
    exact fits_l (ok_of w h) h64 row.D 0 0 0 _ _ okD0 (Rel.zero _ h64)
  · rfl
structure VOk (L : List Op) : Prop where
  be : ∀ x ∈ L, 0 ≤ x.ended ∧ (x.ended ≠ 0 → x.began < x.ended) ∧ 0 ≤ x.ver
  one : ∀ (i j : Nat) (x y : Op), L[i]? = some x → L[j]? = some y → x.write = true → y.write = true → x.ver ≠ 0 → x.ver = y.ver → i = j
  rd0 : ∀ x ∈ L, x.ended ≠ 0 → x.ver = 0 → x.write = false ∧ x.value.toList = (⟨#[]⟩ : ByteArray).toList
  rd1 : ∀ x ∈ L, x.ended ≠ 0 → x.ver ≠ 0 → x.write = false → ∃ (k : Nat) (w : Op), L[k]? = some w ∧ w.write = true ∧ w.ver = x.ver ∧ w.value.toList = x.value.toList
  ris : ∀ a ∈ L, ∀ b ∈ L, a.ended ≠ 0 → ¬ (b.ver = 0 ∧ b.write = true) → a.ended < b.began → ¬ (b.ended = 0 ∧ b.write = false) → a.ver ≤ b.ver ∧ (b.ver ≠ 0 → b.write = true → a.ver ≠ b.ver)
theorem right_be : ∀ (xs : List Op) (i : Nat), rightL_l0 xs i = 0 → ∀ x ∈ xs, (x.ended ≠ 0 → x.began < x.ended) ∧ 0 ≤ x.ver
  | [], _, _, x, hx => by cases hx
  | y :: ys, i, h, x, hx => by
    unfold rightL_l0 at h
    cases h1 : decide (y.began < 1)
    · rw [h1, cond_false] at h
      have hv : (y.ended ≠ 0 → y.began < y.ended) ∧ 0 ≤ y.ver ∧ rightL_l0 ys (i + 1) = 0 := by
        revert h
        by_cases h2 : y.ended = 0
        · rw [show (y.ended != 0) = false by simp [h2], cond_false]
          intro h
          refine ⟨fun e => absurd h2 e, ?_⟩
          revert h
          cases h4 : decide (y.ver < 0)
          · cases h5 : decide (y.ver > 1099511627776)
            · cases h6 : decide ((y.value.size : Int) > 24)
              · intro h; exact ⟨by have := of_decide_eq_false h4; omega, h⟩
              · intro h; cases h
            · intro h; cases h
          · intro h; cases h
        · rw [show (y.ended != 0) = true from bne_iff_ne.2 h2, cond_true]
          cases h3 : decide (y.ended ≤ y.began)
          · intro h
            refine ⟨fun _ => by have := of_decide_eq_false h3; omega, ?_⟩
            revert h
            cases h4 : decide (y.ver < 0)
            · cases h5 : decide (y.ver > 1099511627776)
              · cases h6 : decide ((y.value.size : Int) > 24)
                · intro h; exact ⟨by have := of_decide_eq_false h4; omega, h⟩
                · intro h; cases h
              · intro h; cases h
            · intro h; cases h
          · intro h; cases h
      rcases List.mem_cons.1 hx with rfl | hx
      · exact ⟨hv.1, hv.2.1⟩
      · exact right_be ys (i + 1) hv.2.2 x hx
    · rw [h1] at h; cases h
/-- What the table of writes says of the calls seen. -/
structure TabOk (vc : List (Int × Stand)) (P : List Op) : Prop where
  t1 : ∀ k s, mGet kI64 k vc = some s → s.there = true ∧ ∃ (j : Nat) (w : Op), P[j]? = some w ∧ w.write = true ∧ w.ver = k ∧ w.value = s.value
  t2 : ∀ (j : Nat) (w : Op), P[j]? = some w → w.write = true → w.ver ≠ 0 → ∃ s, mGet kI64 w.ver vc = some s
  t3 : ∀ (i j : Nat) (x y : Op), P[i]? = some x → P[j]? = some y → x.write = true → y.write = true → x.ver ≠ 0 → x.ver = y.ver → i = j
theorem app_get {P : List Op} {x : Op} {j : Nat} {w : Op} (h : (P ++ [x])[j]? = some w) : P[j]? = some w ∨ (j = P.length ∧ w = x) := by
  by_cases hj : j < P.length
  · rw [List.getElem?_append_left hj] at h; exact .inl h
  · rw [List.getElem?_append_right (by omega)] at h
    obtain ⟨q, hq⟩ : ∃ q, j - P.length = q := ⟨_, rfl⟩
    rw [hq] at h
    cases q with
    | zero => right; simp only [List.getElem?_cons_zero, Option.some.injEq] at h; exact ⟨by omega, h.symm⟩
    | succ q => simp at h
theorem TabOk.skip {vc : List (Int × Stand)} {P : List Op} {x : Op} (h : TabOk vc P) (hx : x.write = false ∨ x.ver = 0) : TabOk vc (P ++ [x]) where
  t1 := fun k s e => by
    obtain ⟨a, j, w, b, c⟩ := h.t1 k s e
    exact ⟨a, j, w, by rw [List.getElem?_append_left (lt_of_get b)]; exact b, c⟩
  t2 := fun j w e h1 h2 => by
    rcases app_get e with e | ⟨_, rfl⟩
    · exact h.t2 j w e h1 h2
    · rcases hx with hx | hx
      · rw [hx] at h1; cases h1
      · exact absurd hx h2
  t3 := fun i j y z e1 e2 h1 h2 h3 h4 => by
    rcases app_get e1 with e1 | ⟨_, rfl⟩
    · rcases app_get e2 with e2 | ⟨_, rfl⟩
      · exact h.t3 i j y z e1 e2 h1 h2 h3 h4
      · rcases hx with hx | hx
        · rw [hx] at h2; cases h2
        · omega
    · rcases hx with hx | hx
      · rw [hx] at h1; cases h1
      · omega
theorem TabOk.add {vc : List (Int × Stand)} {P : List Op} {x : Op} (h : TabOk vc P) (hw : x.write = true) (hn : mGet kI64 x.ver vc = none) : TabOk (mSet kI64 x.ver (Stand.mk x.value x.began true) vc) (P ++ [x]) where
  t1 := fun k s e => by
    rw [mGet_setI] at e
    by_cases hk : k = x.ver
    · rw [if_pos hk] at e
      cases e
      exact ⟨rfl, P.length, x, by rw [List.getElem?_append_right (Nat.le_refl _), Nat.sub_self]; rfl, hw, hk.symm, rfl⟩
    · rw [if_neg hk] at e
      obtain ⟨a, j, w, b, c⟩ := h.t1 k s e
      exact ⟨a, j, w, by rw [List.getElem?_append_left (lt_of_get b)]; exact b, c⟩
  t2 := fun j w e h1 h2 => by
    rw [mGet_setI]
    by_cases hk : w.ver = x.ver
    · rw [if_pos hk]; exact ⟨_, rfl⟩
    · rw [if_neg hk]
      rcases app_get e with e | ⟨_, rfl⟩
      · exact h.t2 j w e h1 h2
      · exact absurd rfl hk
  t3 := fun i j y z e1 e2 h1 h2 h3 h4 => by
    rcases app_get e1 with f1 | ⟨i1, g1⟩
    · rcases app_get e2 with f2 | ⟨_, g2⟩
      · exact h.t3 i j y z f1 f2 h1 h2 h3 h4
      · obtain ⟨s, hs⟩ := h.t2 i y f1 h1 h3
        rw [h4, g2, hn] at hs; cases hs
    · rcases app_get e2 with f2 | ⟨i2, g2⟩
      · obtain ⟨s, hs⟩ := h.t2 j z f2 h2 (by omega)
        rw [← h4, g1, hn] at hs; cases hs
      · omega
theorem versions_tab {l : Sl Op} : ∀ (xs : List Op) (i : Nat) (vc : List (Int × Stand)) (P : List Op), versions_l0 l xs i vc = true → TabOk vc P → ∃ vc', TabOk vc' (P ++ xs) ∧ versions_l1 l vc' l.D 0 = true
  | [], i, vc, P, h, ht => ⟨vc, by rw [List.append_nil]; exact ht, h⟩
  | x :: xs, i, vc, P, h, ht => by
    unfold versions_l0 at h
    rw [show P ++ x :: xs = (P ++ [x]) ++ xs by rw [List.append_assoc]; rfl]
    cases hw : x.write
    · rw [hw] at h
      exact versions_tab xs (i + 1) vc (P ++ [x]) h (ht.skip (.inl hw))
    · rw [hw, Bool.not_true, cond_false] at h
      by_cases hv : x.ver = 0
      · rw [show (x.ver == 0) = true by simp [hv], cond_true] at h
        exact versions_tab xs (i + 1) vc (P ++ [x]) h (ht.skip (.inr hv))
      · rw [show (x.ver == 0) = false by simp [hv], cond_false] at h
        cases hg : mGet kI64 x.ver vc with
        | none =>
          rw [hg] at h
          exact versions_tab xs (i + 1) _ (P ++ [x]) h (ht.add hw hg)
        | some s =>
          rw [hg] at h
          rw [show ((some s).getD (Stand.mk ⟨#[]⟩ 0 false)).there = true from (ht.t1 _ _ hg).1] at h
          cases h
theorem versions_reads {l : Sl Op} {vc : List (Int × Stand)} {P : List Op} (ht : TabOk vc P) : ∀ (xs : List Op) (i : Nat), versions_l1 l vc xs i = true → rising l = true ∧ ∀ x ∈ xs, x.ended ≠ 0 → (x.ver = 0 → x.write = false ∧ x.value.toList = (⟨#[]⟩ : ByteArray).toList) ∧ (x.ver ≠ 0 → x.write = false → ∃ (k : Nat) (w : Op), P[k]? = some w ∧ w.write = true ∧ w.ver = x.ver ∧ w.value.toList = x.value.toList)
  | [], _, h => ⟨h, fun x hx => by cases hx⟩
  | y :: ys, i, h => by
    unfold versions_l1 at h
    have key : versions_l1 l vc ys (i + 1) = true ∧ (y.ended ≠ 0 → (y.ver = 0 → y.write = false ∧ y.value.toList = (⟨#[]⟩ : ByteArray).toList) ∧ (y.ver ≠ 0 → y.write = false → ∃ (k : Nat) (w : Op), P[k]? = some w ∧ w.write = true ∧ w.ver = y.ver ∧ w.value.toList = y.value.toList)) := by
      by_cases he : y.ended = 0
      · rw [show (y.ended == 0) = true by simp [he], cond_true] at h
        exact ⟨h, fun e => absurd he e⟩
      · rw [show (y.ended == 0) = false by simp [he], cond_false] at h
        by_cases hv : y.ver = 0
        · rw [show (y.ver == 0) = true by simp [hv], cond_true] at h
          cases hw : y.write
          · rw [hw, cond_false] at h
            cases hq : (y.value.toList == (⟨#[]⟩ : ByteArray).toList)
            · rw [hq] at h; cases h
            · rw [hq, Bool.not_true, cond_false, show (y.ver != 0) = false by simp [hv], cond_false] at h
              exact ⟨h, fun _ => ⟨fun _ => ⟨rfl, beq_iff_eq.1 hq⟩, fun e => absurd hv e⟩⟩
          · rw [hw] at h; cases h
        · rw [show (y.ver == 0) = false by simp [hv], cond_false, show (y.ver != 0) = true from bne_iff_ne.2 hv, cond_true] at h
          cases hw : y.write
          · rw [hw, Bool.not_false, cond_true] at h
            cases hg : mGet kI64 y.ver vc with
            | none =>
              rw [hg] at h
              exact Bool.noConfusion h
            | some s =>
              obtain ⟨hs, j, w, w1, w2, w3, w4⟩ := ht.t1 _ _ hg
              rw [hg] at h
              rw [show ((some s).getD (Stand.mk ⟨#[]⟩ 0 false)) = s from rfl, hs, Bool.not_true, cond_false] at h
              cases hq : (s.value.toList == y.value.toList)
              · rw [hq] at h; cases h
              · rw [hq, Bool.not_true, cond_false] at h
                cases hb : decide (s.began ≥ y.ended)
                · rw [hb, cond_false] at h
                  exact ⟨h, fun _ => ⟨fun e => absurd e hv, fun _ _ => ⟨j, w, w1, w2, w3, by rw [w4]; exact beq_iff_eq.1 hq⟩⟩⟩
                · rw [hb] at h; cases h
          · rw [hw, Bool.not_true, cond_false] at h
            exact ⟨h, fun _ => ⟨fun e => absurd e hv, fun _ e => by cases e⟩⟩
    obtain ⟨r, hr⟩ := versions_reads ht ys (i + 1) key.1
    refine ⟨r, fun x hx => ?_⟩
    rcases List.mem_cons.1 hx with rfl | hx
    · exact key.2
    · exact hr x hx
theorem rising_one {a : Op} {kk : Bool} : ∀ (xs : List Op) (i : Nat), rising_l1 a kk xs i = true → kk = true ∧ ∀ b ∈ xs, a.ended ≠ 0 → ¬ (b.ver = 0 ∧ b.write = true) → a.ended < b.began → ¬ (b.ended = 0 ∧ b.write = false) → a.ver ≤ b.ver ∧ (b.ver ≠ 0 → b.write = true → a.ver ≠ b.ver)
  | [], _, h => ⟨h, fun b hb => by cases hb⟩
  | y :: ys, i, h => by
    unfold rising_l1 at h
    have key : rising_l1 a kk ys (i + 1) = true ∧ (a.ended ≠ 0 → ¬ (y.ver = 0 ∧ y.write = true) → a.ended < y.began → ¬ (y.ended = 0 ∧ y.write = false) → a.ver ≤ y.ver ∧ (y.ver ≠ 0 → y.write = true → a.ver ≠ y.ver)) := by
      by_cases h1 : a.ended = 0
      · rw [show (a.ended == 0) = true by simp [h1], cond_true] at h
        exact ⟨h, fun e => absurd h1 e⟩
      · rw [show (a.ended == 0) = false by simp [h1], cond_false] at h
        by_cases h3 : a.ended < y.began
        · rw [decide_eq_false (by omega : ¬ a.ended ≥ y.began)] at h
          by_cases h4 : a.ver > y.ver
          · rw [decide_eq_true h4] at h
            revert h
            cases hv0 : (y.ver == 0) <;> cases hw : y.write <;> cases he : (y.ended == 0) <;> intro h <;> first | exact Bool.noConfusion h | refine ⟨h, fun _ q1 _ q2 => ?_⟩ <;> simp_all
          · rw [decide_eq_false h4] at h
            by_cases h5 : a.ver = y.ver
            · revert h
              rw [show (a.ver == y.ver) = true by simp [h5]]
              by_cases h6 : y.ver = 0
              · rw [show (y.ver == 0) = true by simp [h6]]
                cases hw : y.write <;> cases he : (y.ended == 0) <;> intro h <;> exact ⟨h, fun _ _ _ _ => ⟨by omega, fun e => absurd h6 e⟩⟩
              · rw [show (y.ver == 0) = false by simp [h6]]
                cases hw : y.write <;> cases he : (y.ended == 0) <;> intro h <;> first | exact Bool.noConfusion h | exact ⟨h, fun _ _ _ _ => ⟨by omega, fun _ e => by cases e⟩⟩
            · revert h
              rw [show (a.ver == y.ver) = false by simp [h5]]
              cases (y.ver == 0) <;> cases hw : y.write <;> cases he : (y.ended == 0) <;> intro h <;> exact ⟨h, fun _ _ _ _ => ⟨by omega, fun _ _ => h5⟩⟩
        · rw [decide_eq_true (by omega : a.ended ≥ y.began)] at h
          revert h
          cases (y.ver == 0) <;> cases y.write <;> intro h <;> exact ⟨h, fun _ _ e => absurd e h3⟩
    obtain ⟨r, hr⟩ := rising_one ys (i + 1) key.1
    refine ⟨r, fun x hx => ?_⟩
    rcases List.mem_cons.1 hx with rfl | hx
    · exact key.2
    · exact hr x hx
theorem rising_all {l : Sl Op} : ∀ (xs : List Op) (i : Nat), rising_l0 l xs i = true → ∀ a ∈ xs, ∀ b ∈ l.D, a.ended ≠ 0 → ¬ (b.ver = 0 ∧ b.write = true) → a.ended < b.began → ¬ (b.ended = 0 ∧ b.write = false) → a.ver ≤ b.ver ∧ (b.ver ≠ 0 → b.write = true → a.ver ≠ b.ver)
  | [], _, _, a, ha => by cases ha
  | x :: xs, i, h, a, ha => by
    unfold rising_l0 at h
    obtain ⟨h1, h2⟩ := rising_one _ _ h
    rcases List.mem_cons.1 ha with rfl | ha
    · exact h2
    · exact rising_all xs (i + 1) h1 a ha
theorem vok_of {l : Sl Op} (w : WT40 l) (hr : (rightL l != 0) = false) (hv : versions l = true) : VOk l.D := by
  have hr' : (refRight l != 0) = false := by rw [← right_eqL]; exact hr
  have hok := ok_of w hr'
  have hb : rightL_l0 l.D 0 = 0 := by
    have h0 : rightL l = 0 := by simpa using hr
    unfold rightL at h0
    cases h1 : decide ((l.D.length : Int) > 24)
    · rw [h1, cond_false] at h0; exact h0
    · rw [h1] at h0; cases h0
  have hbe := right_be _ _ hb
  unfold versions at hv
  obtain ⟨vc, ht, h1⟩ := versions_tab l.D 0 [] [] hv ⟨(fun k s e => by cases e), (fun j w e => by simp at e), (fun i j x y e => by simp at e)⟩
  rw [List.nil_append] at ht
  obtain ⟨h2, h3⟩ := versions_reads ht _ _ h1
  exact ⟨fun x hx => ⟨(hok x hx).1, hbe x hx⟩, ht.t3, fun x hx he => (h3 x hx he).1, fun x hx he => (h3 x hx he).2, fun a ha => rising_all _ _ h2 a ha⟩
abbrev opI (L : List Op) (z : Int) : Op := L[z.toNat]!
theorem opI_mem {L : List Op} {k : Nat} {x : Op} (h : L[k]? = some x) : opI L (k : Int) = x := by
  show L[(k : Int).toNat]! = x
  rw [Int.toNat_natCast]; exact getI h
theorem fits_by {l : Sl Op} (ok : VOk l.D) : ∀ (X P : List Int) (j : Nat) (left : List Bool) (v : ByteArray),
    (∀ z, z ∈ P ++ X ↔ ∃ (k : Nat) (x : Op), l.D[k]? = some x ∧ inBy x = true ∧ z = (k : Int)) → (P ++ X).Nodup →
    (P ++ X).Pairwise (fun x y => ¬ aheadO (opI l.D y) (opI l.D x)) →
    left.length = l.D.length → (∀ k, k < l.D.length → (left[k]! = true ↔ (k : Int) ∉ P)) →
    ((∃ q ∈ P, (opI l.D q).write = true ∧ v.toList = (opI l.D q).value.toList ∧ ∀ w ∈ P, (opI l.D w).write = true → (opI l.D w).ver ≤ (opI l.D q).ver) ∨ ((∀ q ∈ P, (opI l.D q).write = false) ∧ v.toList = (⟨#[]⟩ : ByteArray).toList)) →
    rFits_l1 l X j v left = true
  | [], P, j, left, v, hT, hnd, hpw, hl, hf, hv => by
    unfold rFits_l1
    rw [rFits2_iff]
    intro k x hk
    have hlt := lt_of_get hk
    cases h1 : left[k]!
    · rfl
    · rw [Bool.true_and]
      refine decide_eq_false fun he => ?_
      have hn := (hf k hlt).1 h1
      refine hn ?_
      have := (hT (k : Int)).2 ⟨k, x, hk, by unfold inBy; rw [show (x.ended != 0) = true from bne_iff_ne.2 (by omega)]; rfl, rfl⟩
      rwa [List.append_nil] at this
  | z :: X, P, j, left, v, hT, hnd, hpw, hl, hf, hv => by
    obtain ⟨k, x, hk, hb, rfl⟩ := (hT z).1 (List.mem_append_right _ (List.mem_cons_self ..))
    have hlt := lt_of_get hk
    have hx : opI l.D (k : Int) = x := opI_mem hk
    have hxm : x ∈ l.D := List.mem_of_getElem? hk
    have hnd' := List.nodup_append.1 hnd
    have hkP : (k : Int) ∉ P := fun h => hnd'.2.2 _ h _ (List.mem_cons_self ..) rfl
    have hkX : (k : Int) ∉ X := (List.nodup_cons.1 hnd'.2.1).1
    have hpw' := List.pairwise_append.1 hpw
    have hPx : ∀ p ∈ P, ¬ aheadO x (opI l.D p) := fun p hp => by rw [← hx]; exact hpw'.2.2 p hp _ (List.mem_cons_self ..)
    have hXx : ∀ q ∈ X, ¬ aheadO (opI l.D q) x := fun q hq => by rw [← hx]; exact (List.pairwise_cons.1 hpw'.2.1).1 q hq
    have hmem : ∀ p ∈ P, ∃ (i : Nat) (y : Op), l.D[i]? = some y ∧ inBy y = true ∧ p = (i : Int) := fun p hp => (hT p).1 (List.mem_append_left _ hp)
    -- a write in the row has a version above nought
    have hwv : ∀ y ∈ l.D, inBy y = true → y.write = true → 0 < y.ver := fun y hy h1 h2 => by
      unfold inBy at h1
      rw [Bool.or_eq_true, Bool.and_eq_true, decide_eq_true_eq, bne_iff_ne] at h1
      rcases h1 with h1 | h1
      · have := (ok.be y hy).2.2
        rcases Int.lt_or_eq_of_le this with h3 | h3
        · exact h3
        · have := (ok.rd0 y hy h1 h3.symm).1
          rw [this] at h2; cases h2
      · exact h1.2
    have hxe : x.write = false → x.ended ≠ 0 := fun h => by
      have := hb
      unfold inBy at this
      rw [h, Bool.false_and, Bool.or_false, bne_iff_ne] at this
      exact this
    unfold rFits_l1
    rw [decide_eq_false (by omega : ¬ (k : Int) < 0), decide_eq_false (by omega : ¬ (k : Int) ≥ (l.D.length : Int)), cond_false, cond_false, Int.toNat_natCast, (hf k hlt).2 hkP, Bool.not_true, cond_false, getI hk]
    have hnext : nextW l (Sl.mk false left) (k : Int) = true := by
      rw [nextW_iff]
      intro i y hi
      unfold nextC
      rw [Int.toNat_natCast, getI hk]
      cases h1 : left[i]!
      · rfl
      · cases h2 : ((i : Int) != (k : Int))
        · rfl
        · show before y x = false
          cases h3 : before y x
          · rfl
          · exfalso
            unfold before at h3
            have hye : y.ended > 0 := by
              cases h4 : decide (y.ended > 0)
              · rw [h4] at h3; cases h3
              · exact of_decide_eq_true h4
            rw [decide_eq_true hye, cond_true] at h3
            have hlt3 := of_decide_eq_true h3
            have hym : y ∈ l.D := List.mem_of_getElem? hi
            have hiP := (hf i (lt_of_get hi)).1 h1
            have hiT := (hT (i : Int)).2 ⟨i, y, hi, by unfold inBy; rw [show (y.ended != 0) = true from bne_iff_ne.2 (by omega)]; rfl, rfl⟩
            have hiX : (i : Int) ∈ X := by
              rcases List.mem_append.1 hiT with h | h
              · exact absurd h hiP
              · rcases List.mem_cons.1 h with h | h
                · exact absurd h (bne_iff_ne.1 h2)
                · exact h
            have hna := hXx _ hiX
            rw [opI_mem hi] at hna
            have hyb := (ok.be y hym).2.1 (by omega)
            have hr := ok.ris y hym x hxm (by omega) (fun h => by have := hwv x hxm hb h.2; omega) hlt3 (fun h => hxe h.2 h.1)
            unfold aheadO at hna
            have hr1 := hr.1
            have hge : ¬ y.ver < x.ver := fun h => hna (.inl h)
            have heq : y.ver = x.ver := by omega
            cases hw : x.write
            · refine hna (.inr ⟨heq, ?_⟩)
              unfold wk
              cases hwy : y.write
              · rw [hw]; exact .inr ⟨rfl, by omega⟩
              · rw [hw]; exact .inl (by decide)
            · have := hr.2 (by have := hwv x hxm hb hw; omega) hw
              omega
    rw [hnext, Bool.not_true, cond_false]
    have hT' : ∀ z, z ∈ (P ++ [(k : Int)]) ++ X ↔ ∃ (k : Nat) (x : Op), l.D[k]? = some x ∧ inBy x = true ∧ z = (k : Int) := fun z => by
      rw [List.append_assoc]; exact hT z
    have hnd2 : ((P ++ [(k : Int)]) ++ X).Nodup := by rw [List.append_assoc]; exact hnd
    have hpw2 : ((P ++ [(k : Int)]) ++ X).Pairwise (fun x y => ¬ aheadO (opI l.D y) (opI l.D x)) := by rw [List.append_assoc]; exact hpw
    have hl' : (left.set k false).length = l.D.length := by rw [List.length_set]; exact hl
    have hf' : ∀ i, i < l.D.length → ((left.set k false)[i]! = true ↔ (i : Int) ∉ P ++ [(k : Int)]) := fun i hi => by
      rw [set_get _ _ _ (by rw [hl]; exact hi), List.mem_append, List.mem_singleton]
      by_cases e : k = i
      · subst e; simp
      · have := hf i hi
        rw [decide_eq_false e, Bool.not_false, Bool.and_true, this]
        constructor
        · intro h h'
          rcases h' with h' | h'
          · exact h h'
          · omega
        · intro h h'; exact h (.inl h')
    have hle : ∀ p ∈ P, (opI l.D p).ver ≤ x.ver := fun p hp => by
      have := hPx p hp
      unfold aheadO at this
      omega
    cases hw : x.write
    · rw [cond_false]
      have hval : x.value.toList = v.toList := by
        have hne := hxe hw
        by_cases hv0 : x.ver = 0
        · have h0 := (ok.rd0 x hxm hne hv0).2
          rcases hv with ⟨q, hq, hqw, _, _⟩ | ⟨_, hv⟩
          · exfalso
            obtain ⟨i, y, hi, hiy, rfl⟩ := hmem q hq
            have h1 := hle _ hq
            rw [opI_mem hi] at h1 hqw
            have := hwv y (List.mem_of_getElem? hi) hiy hqw
            omega
          · rw [h0, hv]
        · obtain ⟨i, w, hi, hww, hwver, hwval⟩ := ok.rd1 x hxm hne hv0 hw
          have hwm : w ∈ l.D := List.mem_of_getElem? hi
          have hxv := (ok.be x hxm).2.2
          have hiT := (hT (i : Int)).2 ⟨i, w, hi, by unfold inBy; rw [hww, Bool.true_and, decide_eq_true (by omega : w.ver > 0), Bool.or_true], rfl⟩
          have hik : i ≠ k := fun e => by
            subst e
            rw [hi] at hk; cases hk
            rw [hww] at hw; cases hw
          have hiP : (i : Int) ∈ P := by
            rcases List.mem_append.1 hiT with h | h
            · exact h
            · exfalso
              rcases List.mem_cons.1 h with h | h
              · omega
              · have := hXx _ h
                rw [opI_mem hi] at this
                refine this ?_
                unfold aheadO wk
                rw [hww, hw]
                exact .inr ⟨hwver, .inl (by decide)⟩
          rcases hv with ⟨q, hq, hqw, hqv, hqm⟩ | ⟨hv, _⟩
          · have h1 := hqm _ hiP (by rw [opI_mem hi]; exact hww)
            have h2 := hle _ hq
            rw [opI_mem hi] at h1
            obtain ⟨i', y, hi', hiy, rfl⟩ := hmem q hq
            rw [opI_mem hi'] at h1 h2 hqw hqv
            have := ok.one i i' w y hi hi' hww hqw (by omega) (by omega)
            subst this
            rw [hi] at hi'; cases hi'
            rw [hqv, hwval]
          · exfalso
            have := hv _ hiP
            rw [opI_mem hi, hww] at this; cases this
      rw [show (x.value.toList == v.toList) = true from beq_iff_eq.2 hval, Bool.not_true, cond_false]
      refine fits_by ok X (P ++ [(k : Int)]) (j + 1) (left.set k false) v hT' hnd2 hpw2 hl' hf' ?_
      rcases hv with ⟨q, hq, hqw, hqv, hqm⟩ | ⟨hv, hv'⟩
      · refine .inl ⟨q, List.mem_append_left _ hq, hqw, hqv, fun w hw1 hw2 => ?_⟩
        rcases List.mem_append.1 hw1 with h | h
        · exact hqm w h hw2
        · rw [List.mem_singleton.1 h, hx, hw] at hw2; cases hw2
      · refine .inr ⟨fun q hq => ?_, hv'⟩
        rcases List.mem_append.1 hq with h | h
        · exact hv q h
        · rw [List.mem_singleton.1 h, hx]; exact hw
    · rw [cond_true]
      refine fits_by ok X (P ++ [(k : Int)]) (j + 1) (left.set k false) x.value hT' hnd2 hpw2 hl' hf' (.inl ⟨(k : Int), List.mem_append_right _ (List.mem_cons_self ..), by rw [hx]; exact hw, by rw [hx], fun w hw1 hw2 => ?_⟩)
      rw [hx]
      rcases List.mem_append.1 hw1 with h | h
      · exact hle w h
      · rw [List.mem_singleton.1 h, hx]; exact Int.le_refl _
theorem by_fits {l : Sl Op} (w : WT40 l) (hr : (rightL l != 0) = false) (hv : versions l = true) : rFits (byV l) l = true := by
  have ok := vok_of w hr hv
  obtain ⟨hp, hs⟩ := byV_spec (right_len24 hr)
  unfold rFits
  rw [show (refRight l != 0) = false by rw [← right_eqL]; exact hr, cond_false]
  have := rFits0_eq (byV l) l l.D 0
  simp only [List.replicate_zero, List.nil_append, Nat.zero_add] at this
  rw [this]
  refine fits_by ok (byV l).D [] 0 _ _ (fun z => ?_) ?_ ?_ List.length_replicate (fun k hk => ?_) (.inr ⟨(fun q hq => by cases hq), rfl⟩)
  · rw [List.nil_append, hp.mem_iff, byRow_mem]
    simp only [Nat.zero_add]
  · rw [List.nil_append]; exact hp.nodup_iff.2 (byRow_nodup _ _)
  · rw [List.nil_append]
    refine List.pairwise_iff_getElem.2 fun i j hi hj hij => ?_
    have h1 := hs i j (Nat.zero_le _) hij hj
    unfold Lq at h1
    rw [byLess_lt] at h1
    show ¬ aheadO l.D[(byV l).D[j].toNat]! l.D[(byV l).D[i].toNat]!
    have e1 : gt (byV l).D i = (byV l).D[i] := getElem!_pos _ i hi
    have e2 : gt (byV l).D j = (byV l).D[j] := getElem!_pos _ j hj
    rw [e1, e2] at h1
    exact h1
  · rw [List.getElem!_eq_getElem?_getD, List.getElem?_replicate, if_pos hk]
    simp
end Go.Proofs.Ytoieegmebadfkaa
namespace Go.Proofs.Ytoieegmebadfkaa
open Go.Am
theorem lastP_wf {p : Record → Bool} {recs : Sl Record} (w : WT22 recs) : (Lit.int .i64 ((lastP p recs.D none).getD zeroR).ver).wf = true := by
  cases h : lastP p recs.D none with
  | none => rfl
  | some r =>
    rcases lastP_mem p recs.D none r h with e | e
    · cases e
    · exact (w.2.2 r e.1).2.2.2.1
theorem ops_wf {calls : Sl Call} {recs : Sl Record} (w : WT27 calls) (w2 : WT22 recs) (k : Nat → Int) : WT40 (jOps k calls recs) := by
  rw [jOps_eq]
  refine ⟨Nat.le_trans (opsOf_len _ _ _) w.1, fun h => List.isEmpty_iff.1 h, fun o ho => ?_⟩
  obtain ⟨x, hx, rfl⟩ := List.mem_map.1 (show o ∈ (calls.D.filter (sel (kL k))).map (opOf recs) from ho)
  have wx := w.2.2 x (List.mem_filter.1 hx).1
  obtain ⟨_, _, _, _, v5, _, _, v8, v9, v10, _⟩ := wx
  unfold opOf
  split
  · exact ⟨trivial, v5, lastP_wf w2, v8, rfl⟩
  · exact ⟨trivial, v5, v10, v8, v9⟩
theorem lawProves_l0_true {calls : Sl Call} {recs : Sl Record} (w : WT27 calls) (w2 : WT22 recs) : ∀ (xs : List (Nat → Int)) (i : Nat), (∀ k ∈ xs, versions (jOps k calls recs) = true) → lawProves_l0 calls recs xs i = true
  | [], _, _ => by unfold lawProves_l0; exact awake_true
  | k :: xs, i, h => by
    unfold lawProves_l0
    have ih := lawProves_l0_true w w2 xs (i + 1) fun k hk => h k (List.mem_cons_of_mem _ hk)
    rw [ih]
    cases hr : (rightL (jOps k calls recs) == 0)
    · rfl
    · have hw := ops_wf w w2 k
      rw [fits_eq _ _ hw, by_fits hw (bne_of_beq hr) (h k List.mem_cons_self)]; rfl
theorem lawProves_true {calls : Sl Call} {recs : Sl Record} (w : WT27 calls) (w2 : WT22 recs) : lawProves calls recs = true := by
  unfold lawProves
  rw [awake_true]
  cases h1 : decide ((calls.D.length : Int) > 60)
  · cases h2 : decide ((recs.D.length : Int) > 60)
    · cases h3 : jStrong calls recs
      · rfl
      · rw [lawProves_l0_true w w2 (jKeys calls).D 0 fun k hk => ?_]; rfl
        unfold jStrong at h3
        rw [jStrong_l0_eq] at h3
        have := List.all_eq_true.1 h3 (kL k) (List.mem_map_of_mem hk)
        rw [versions_D (m := Sl.mk false (opsOf (kL k) recs calls.D)) (by rw [jOps_eq])]
        exact this
    · rfl
  · rfl
theorem judgeProves_calls (calls : Sl Call) (w : WT27 calls) (recs : Sl Record) (w2 : WT22 recs) : PCalls Try.prog 7 [sS (some calls.nil) eCall calls.D, sS (some recs.nil) eRecord recs.D] (.pv (.lit (.bool true))) := by
  have h := lawProves_calls calls recs (big_le w.1) (big_le w2.1)
  rw [lawProves_true w w2] at h
  exact h
end Go.Proofs.Ytoieegmebadfkaa
namespace Go.Proofs.Ytoieegmebadfkaa
open Go.Am
theorem own : ownKnob Try.prog.godebug = none := by kernel_rfl
theorem laidOut : laidOutB Try.prog = true := by kernel_rfl
end Go.Proofs.Ytoieegmebadfkaa
