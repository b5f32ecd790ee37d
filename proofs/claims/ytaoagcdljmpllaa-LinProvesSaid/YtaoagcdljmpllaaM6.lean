import Derived.Test.YtaoagcdljmpllaaM1
import Derived.Test.YtaoagcdljmpllaaM2
import Derived.Test.YtaoagcdljmpllaaM5
/- The merge in place, one step. No conditions. -/
namespace Go.Proofs.Ytaoagcdljmpllaa
open Go.Am
variable {P_ : Int → Prop}
def symMergeB_l1 (i : Int) : Nat → Int → (List Int) → List Int
  | 0, _, _ => default
  | nn + 1, k, vc => (bif (decide (k < (IntKind.i64.wrap (i - 1)))) then symMergeB_l1 i nn (IntKind.i64.wrap (k + 1)) ((vc.set k.toNat (vc[(IntKind.i64.wrap (k + 1)).toNat]!)).set ((IntKind.i64.wrap (k + 1)).toNat) (vc[k.toNat]!)) else vc)
def symMergeB_l0 (data : List Int) (a : Int) (cmp : Int → Int → Int) : Nat → Int → Int → List Int
  | 0, _, _ => default
  | nn + 1, i, j => (bif (decide (i < j)) then (bif (decide ((cmp (data[(IntKind.i64.wrap (shrI .u64 (IntKind.u64.wrap (IntKind.i64.wrap (i + j))) 1)).toNat]!) (data[a.toNat]!)) < 0)) then symMergeB_l0 data a cmp nn (IntKind.i64.wrap ((IntKind.i64.wrap (shrI .u64 (IntKind.u64.wrap (IntKind.i64.wrap (i + j))) 1)) + 1)) j else symMergeB_l0 data a cmp nn i (IntKind.i64.wrap (shrI .u64 (IntKind.u64.wrap (IntKind.i64.wrap (i + j))) 1))) else symMergeB_l1 i ((IntKind.i64.wrap (i - 1) - a).toNat + 1) a data)
def symMergeB_l3 (i1 : Int) : Nat → Int → (List Int) → List Int
  | 0, _, _ => default
  | nn + 1, k1, vc1 => (bif (decide (k1 > i1)) then symMergeB_l3 i1 nn (IntKind.i64.wrap (k1 - 1)) ((vc1.set k1.toNat (vc1[(IntKind.i64.wrap (k1 - 1)).toNat]!)).set ((IntKind.i64.wrap (k1 - 1)).toNat) (vc1[k1.toNat]!)) else vc1)
def symMergeB_l2 (data : List Int) (m : Int) (cmp : Int → Int → Int) : Nat → Int → Int → List Int
  | 0, _, _ => default
  | nn + 1, i1, j1 => (bif (decide (i1 < j1)) then (bif (!(decide ((cmp (data[m.toNat]!) (data[(IntKind.i64.wrap (shrI .u64 (IntKind.u64.wrap (IntKind.i64.wrap (i1 + j1))) 1)).toNat]!)) < 0))) then symMergeB_l2 data m cmp nn (IntKind.i64.wrap ((IntKind.i64.wrap (shrI .u64 (IntKind.u64.wrap (IntKind.i64.wrap (i1 + j1))) 1)) + 1)) j1 else symMergeB_l2 data m cmp nn i1 (IntKind.i64.wrap (shrI .u64 (IntKind.u64.wrap (IntKind.i64.wrap (i1 + j1))) 1))) else symMergeB_l3 i1 ((m - i1).toNat + 1) m data)
def symMergeB_l4 (rec : List Int → Int → Int → Int → (Int → Int → Int) → List Int) (data : List Int) (a : Int) (m : Int) (b : Int) (cmp : Int → Int → Int) : Nat → Int → Int → List Int
  | 0, _, _ => default
  | nn + 1, start, r => (bif (decide (start < r)) then (bif (!(decide ((cmp (data[(IntKind.i64.wrap ((IntKind.i64.wrap ((IntKind.i64.wrap ((IntKind.i64.wrap (shrI .u64 (IntKind.u64.wrap (IntKind.i64.wrap (a + b))) 1)) + m)) - 1)) - (IntKind.i64.wrap (shrI .u64 (IntKind.u64.wrap (IntKind.i64.wrap (start + r))) 1)))).toNat]!) (data[(IntKind.i64.wrap (shrI .u64 (IntKind.u64.wrap (IntKind.i64.wrap (start + r))) 1)).toNat]!)) < 0))) then symMergeB_l4 rec data a m b cmp nn (IntKind.i64.wrap ((IntKind.i64.wrap (shrI .u64 (IntKind.u64.wrap (IntKind.i64.wrap (start + r))) 1)) + 1)) r else symMergeB_l4 rec data a m b cmp nn start (IntKind.i64.wrap (shrI .u64 (IntKind.u64.wrap (IntKind.i64.wrap (start + r))) 1))) else (bif (decide (start < m)) then (bif (decide (m < (IntKind.i64.wrap ((IntKind.i64.wrap ((IntKind.i64.wrap (shrI .u64 (IntKind.u64.wrap (IntKind.i64.wrap (a + b))) 1)) + m)) - start)))) then (bif (decide (a < start)) then (bif (decide (start < (IntKind.i64.wrap (shrI .u64 (IntKind.u64.wrap (IntKind.i64.wrap (a + b))) 1)))) then (bif (decide ((IntKind.i64.wrap (shrI .u64 (IntKind.u64.wrap (IntKind.i64.wrap (a + b))) 1)) < (IntKind.i64.wrap ((IntKind.i64.wrap ((IntKind.i64.wrap (shrI .u64 (IntKind.u64.wrap (IntKind.i64.wrap (a + b))) 1)) + m)) - start)))) then (bif (decide ((IntKind.i64.wrap ((IntKind.i64.wrap ((IntKind.i64.wrap (shrI .u64 (IntKind.u64.wrap (IntKind.i64.wrap (a + b))) 1)) + m)) - start)) < b)) then (rec (rec (rotate data start m (IntKind.i64.wrap ((IntKind.i64.wrap ((IntKind.i64.wrap (shrI .u64 (IntKind.u64.wrap (IntKind.i64.wrap (a + b))) 1)) + m)) - start)) cmp) a start (IntKind.i64.wrap (shrI .u64 (IntKind.u64.wrap (IntKind.i64.wrap (a + b))) 1)) cmp) (IntKind.i64.wrap (shrI .u64 (IntKind.u64.wrap (IntKind.i64.wrap (a + b))) 1)) (IntKind.i64.wrap ((IntKind.i64.wrap ((IntKind.i64.wrap (shrI .u64 (IntKind.u64.wrap (IntKind.i64.wrap (a + b))) 1)) + m)) - start)) b cmp) else (rec (rotate data start m (IntKind.i64.wrap ((IntKind.i64.wrap ((IntKind.i64.wrap (shrI .u64 (IntKind.u64.wrap (IntKind.i64.wrap (a + b))) 1)) + m)) - start)) cmp) a start (IntKind.i64.wrap (shrI .u64 (IntKind.u64.wrap (IntKind.i64.wrap (a + b))) 1)) cmp)) else (rec (rotate data start m (IntKind.i64.wrap ((IntKind.i64.wrap ((IntKind.i64.wrap (shrI .u64 (IntKind.u64.wrap (IntKind.i64.wrap (a + b))) 1)) + m)) - start)) cmp) a start (IntKind.i64.wrap (shrI .u64 (IntKind.u64.wrap (IntKind.i64.wrap (a + b))) 1)) cmp)) else (bif (decide ((IntKind.i64.wrap (shrI .u64 (IntKind.u64.wrap (IntKind.i64.wrap (a + b))) 1)) < (IntKind.i64.wrap ((IntKind.i64.wrap ((IntKind.i64.wrap (shrI .u64 (IntKind.u64.wrap (IntKind.i64.wrap (a + b))) 1)) + m)) - start)))) then (bif (decide ((IntKind.i64.wrap ((IntKind.i64.wrap ((IntKind.i64.wrap (shrI .u64 (IntKind.u64.wrap (IntKind.i64.wrap (a + b))) 1)) + m)) - start)) < b)) then (rec (rotate data start m (IntKind.i64.wrap ((IntKind.i64.wrap ((IntKind.i64.wrap (shrI .u64 (IntKind.u64.wrap (IntKind.i64.wrap (a + b))) 1)) + m)) - start)) cmp) (IntKind.i64.wrap (shrI .u64 (IntKind.u64.wrap (IntKind.i64.wrap (a + b))) 1)) (IntKind.i64.wrap ((IntKind.i64.wrap ((IntKind.i64.wrap (shrI .u64 (IntKind.u64.wrap (IntKind.i64.wrap (a + b))) 1)) + m)) - start)) b cmp) else (rotate data start m (IntKind.i64.wrap ((IntKind.i64.wrap ((IntKind.i64.wrap (shrI .u64 (IntKind.u64.wrap (IntKind.i64.wrap (a + b))) 1)) + m)) - start)) cmp)) else (rotate data start m (IntKind.i64.wrap ((IntKind.i64.wrap ((IntKind.i64.wrap (shrI .u64 (IntKind.u64.wrap (IntKind.i64.wrap (a + b))) 1)) + m)) - start)) cmp))) else (bif (decide ((IntKind.i64.wrap (shrI .u64 (IntKind.u64.wrap (IntKind.i64.wrap (a + b))) 1)) < (IntKind.i64.wrap ((IntKind.i64.wrap ((IntKind.i64.wrap (shrI .u64 (IntKind.u64.wrap (IntKind.i64.wrap (a + b))) 1)) + m)) - start)))) then (bif (decide ((IntKind.i64.wrap ((IntKind.i64.wrap ((IntKind.i64.wrap (shrI .u64 (IntKind.u64.wrap (IntKind.i64.wrap (a + b))) 1)) + m)) - start)) < b)) then (rec (rotate data start m (IntKind.i64.wrap ((IntKind.i64.wrap ((IntKind.i64.wrap (shrI .u64 (IntKind.u64.wrap (IntKind.i64.wrap (a + b))) 1)) + m)) - start)) cmp) (IntKind.i64.wrap (shrI .u64 (IntKind.u64.wrap (IntKind.i64.wrap (a + b))) 1)) (IntKind.i64.wrap ((IntKind.i64.wrap ((IntKind.i64.wrap (shrI .u64 (IntKind.u64.wrap (IntKind.i64.wrap (a + b))) 1)) + m)) - start)) b cmp) else (rotate data start m (IntKind.i64.wrap ((IntKind.i64.wrap ((IntKind.i64.wrap (shrI .u64 (IntKind.u64.wrap (IntKind.i64.wrap (a + b))) 1)) + m)) - start)) cmp)) else (rotate data start m (IntKind.i64.wrap ((IntKind.i64.wrap ((IntKind.i64.wrap (shrI .u64 (IntKind.u64.wrap (IntKind.i64.wrap (a + b))) 1)) + m)) - start)) cmp))) else (bif (decide (a < start)) then (bif (decide (start < (IntKind.i64.wrap (shrI .u64 (IntKind.u64.wrap (IntKind.i64.wrap (a + b))) 1)))) then (bif (decide ((IntKind.i64.wrap (shrI .u64 (IntKind.u64.wrap (IntKind.i64.wrap (a + b))) 1)) < (IntKind.i64.wrap ((IntKind.i64.wrap ((IntKind.i64.wrap (shrI .u64 (IntKind.u64.wrap (IntKind.i64.wrap (a + b))) 1)) + m)) - start)))) then (bif (decide ((IntKind.i64.wrap ((IntKind.i64.wrap ((IntKind.i64.wrap (shrI .u64 (IntKind.u64.wrap (IntKind.i64.wrap (a + b))) 1)) + m)) - start)) < b)) then (rec (rec data a start (IntKind.i64.wrap (shrI .u64 (IntKind.u64.wrap (IntKind.i64.wrap (a + b))) 1)) cmp) (IntKind.i64.wrap (shrI .u64 (IntKind.u64.wrap (IntKind.i64.wrap (a + b))) 1)) (IntKind.i64.wrap ((IntKind.i64.wrap ((IntKind.i64.wrap (shrI .u64 (IntKind.u64.wrap (IntKind.i64.wrap (a + b))) 1)) + m)) - start)) b cmp) else (rec data a start (IntKind.i64.wrap (shrI .u64 (IntKind.u64.wrap (IntKind.i64.wrap (a + b))) 1)) cmp)) else (rec data a start (IntKind.i64.wrap (shrI .u64 (IntKind.u64.wrap (IntKind.i64.wrap (a + b))) 1)) cmp)) else (bif (decide ((IntKind.i64.wrap (shrI .u64 (IntKind.u64.wrap (IntKind.i64.wrap (a + b))) 1)) < (IntKind.i64.wrap ((IntKind.i64.wrap ((IntKind.i64.wrap (shrI .u64 (IntKind.u64.wrap (IntKind.i64.wrap (a + b))) 1)) + m)) - start)))) then (bif (decide ((IntKind.i64.wrap ((IntKind.i64.wrap ((IntKind.i64.wrap (shrI .u64 (IntKind.u64.wrap (IntKind.i64.wrap (a + b))) 1)) + m)) - start)) < b)) then (rec data (IntKind.i64.wrap (shrI .u64 (IntKind.u64.wrap (IntKind.i64.wrap (a + b))) 1)) (IntKind.i64.wrap ((IntKind.i64.wrap ((IntKind.i64.wrap (shrI .u64 (IntKind.u64.wrap (IntKind.i64.wrap (a + b))) 1)) + m)) - start)) b cmp) else data) else data)) else (bif (decide ((IntKind.i64.wrap (shrI .u64 (IntKind.u64.wrap (IntKind.i64.wrap (a + b))) 1)) < (IntKind.i64.wrap ((IntKind.i64.wrap ((IntKind.i64.wrap (shrI .u64 (IntKind.u64.wrap (IntKind.i64.wrap (a + b))) 1)) + m)) - start)))) then (bif (decide ((IntKind.i64.wrap ((IntKind.i64.wrap ((IntKind.i64.wrap (shrI .u64 (IntKind.u64.wrap (IntKind.i64.wrap (a + b))) 1)) + m)) - start)) < b)) then (rec data (IntKind.i64.wrap (shrI .u64 (IntKind.u64.wrap (IntKind.i64.wrap (a + b))) 1)) (IntKind.i64.wrap ((IntKind.i64.wrap ((IntKind.i64.wrap (shrI .u64 (IntKind.u64.wrap (IntKind.i64.wrap (a + b))) 1)) + m)) - start)) b cmp) else data) else data))) else (bif (decide (a < start)) then (bif (decide (start < (IntKind.i64.wrap (shrI .u64 (IntKind.u64.wrap (IntKind.i64.wrap (a + b))) 1)))) then (bif (decide ((IntKind.i64.wrap (shrI .u64 (IntKind.u64.wrap (IntKind.i64.wrap (a + b))) 1)) < (IntKind.i64.wrap ((IntKind.i64.wrap ((IntKind.i64.wrap (shrI .u64 (IntKind.u64.wrap (IntKind.i64.wrap (a + b))) 1)) + m)) - start)))) then (bif (decide ((IntKind.i64.wrap ((IntKind.i64.wrap ((IntKind.i64.wrap (shrI .u64 (IntKind.u64.wrap (IntKind.i64.wrap (a + b))) 1)) + m)) - start)) < b)) then (rec (rec data a start (IntKind.i64.wrap (shrI .u64 (IntKind.u64.wrap (IntKind.i64.wrap (a + b))) 1)) cmp) (IntKind.i64.wrap (shrI .u64 (IntKind.u64.wrap (IntKind.i64.wrap (a + b))) 1)) (IntKind.i64.wrap ((IntKind.i64.wrap ((IntKind.i64.wrap (shrI .u64 (IntKind.u64.wrap (IntKind.i64.wrap (a + b))) 1)) + m)) - start)) b cmp) else (rec data a start (IntKind.i64.wrap (shrI .u64 (IntKind.u64.wrap (IntKind.i64.wrap (a + b))) 1)) cmp)) else (rec data a start (IntKind.i64.wrap (shrI .u64 (IntKind.u64.wrap (IntKind.i64.wrap (a + b))) 1)) cmp)) else (bif (decide ((IntKind.i64.wrap (shrI .u64 (IntKind.u64.wrap (IntKind.i64.wrap (a + b))) 1)) < (IntKind.i64.wrap ((IntKind.i64.wrap ((IntKind.i64.wrap (shrI .u64 (IntKind.u64.wrap (IntKind.i64.wrap (a + b))) 1)) + m)) - start)))) then (bif (decide ((IntKind.i64.wrap ((IntKind.i64.wrap ((IntKind.i64.wrap (shrI .u64 (IntKind.u64.wrap (IntKind.i64.wrap (a + b))) 1)) + m)) - start)) < b)) then (rec data (IntKind.i64.wrap (shrI .u64 (IntKind.u64.wrap (IntKind.i64.wrap (a + b))) 1)) (IntKind.i64.wrap ((IntKind.i64.wrap ((IntKind.i64.wrap (shrI .u64 (IntKind.u64.wrap (IntKind.i64.wrap (a + b))) 1)) + m)) - start)) b cmp) else data) else data)) else (bif (decide ((IntKind.i64.wrap (shrI .u64 (IntKind.u64.wrap (IntKind.i64.wrap (a + b))) 1)) < (IntKind.i64.wrap ((IntKind.i64.wrap ((IntKind.i64.wrap (shrI .u64 (IntKind.u64.wrap (IntKind.i64.wrap (a + b))) 1)) + m)) - start)))) then (bif (decide ((IntKind.i64.wrap ((IntKind.i64.wrap ((IntKind.i64.wrap (shrI .u64 (IntKind.u64.wrap (IntKind.i64.wrap (a + b))) 1)) + m)) - start)) < b)) then (rec data (IntKind.i64.wrap (shrI .u64 (IntKind.u64.wrap (IntKind.i64.wrap (a + b))) 1)) (IntKind.i64.wrap ((IntKind.i64.wrap ((IntKind.i64.wrap (shrI .u64 (IntKind.u64.wrap (IntKind.i64.wrap (a + b))) 1)) + m)) - start)) b cmp) else data) else data))))
def symMergeB (rec : List Int → Int → Int → Int → (Int → Int → Int) → List Int) (data : List Int) (a : Int) (m : Int) (b : Int) (cmp : Int → Int → Int) : List Int :=
  (bif ((IntKind.i64.wrap (m - a)) == 1) then symMergeB_l0 data a cmp ((b - m).toNat + 1) m b else (bif ((IntKind.i64.wrap (b - m)) == 1) then symMergeB_l2 data m cmp ((m - a).toNat + 1) a m else (bif (decide (m > (IntKind.i64.wrap (shrI .u64 (IntKind.u64.wrap (IntKind.i64.wrap (a + b))) 1)))) then symMergeB_l4 rec data a m b cmp (((IntKind.i64.wrap (shrI .u64 (IntKind.u64.wrap (IntKind.i64.wrap (a + b))) 1)) - (IntKind.i64.wrap ((IntKind.i64.wrap ((IntKind.i64.wrap (shrI .u64 (IntKind.u64.wrap (IntKind.i64.wrap (a + b))) 1)) + m)) - b))).toNat + 1) (IntKind.i64.wrap ((IntKind.i64.wrap ((IntKind.i64.wrap (shrI .u64 (IntKind.u64.wrap (IntKind.i64.wrap (a + b))) 1)) + m)) - b)) (IntKind.i64.wrap (shrI .u64 (IntKind.u64.wrap (IntKind.i64.wrap (a + b))) 1)) else symMergeB_l4 rec data a m b cmp ((m - a).toNat + 1) a m)))
set_option maxHeartbeats 8000000 in
theorem symMergeB_calls (rec : List Int → Int → Int → Int → (Int → Int → Int) → List Int) (data : List Int) (a : Int) (m : Int) (b : Int) (cmp : Int → Int → Int) (hrec : ∀ (d_ : List Int) (a_ m_ b_ : Int) (cmp_ : Int → Int → Int) (g_ : Nat) (caps_ : List AV) (_ : ∀ (x0 : Int) (x1 : Int), P_ x0 → P_ x1 → PCalls Try.prog g_ ([.pv (.lit (.int .i64 x0)), .pv (.lit (.int .i64 x1))] ++ caps_) (.pv (.lit (.int .i64 (cmp_ x0 x1))))) (_ : AV.withinL (fun _ => false) caps_ = true), 0 ≤ a_ ∧ a_ < m_ ∧ m_ < b_ ∧ b_ ≤ (data.length : Int) → b_ - a_ < b - a → d_.Perm data → MCalls Try.prog 63 [.sl 0 0 d_.length 1 false, .pv (.lit (.int .i64 a_)), .pv (.lit (.int .i64 m_)), .pv (.lit (.int .i64 b_)), .fn g_ [] caps_] (.cells (encC (eI .i64) d_)) (.tup []) (.cells (encC (eI .i64) (rec d_ a_ m_ b_ cmp_)))) (g4 : Nat) (caps4 : List AV) (hp4 : ∀ (x0 : Int) (x1 : Int), P_ x0 → P_ x1 → PCalls Try.prog g4 ([.pv (.lit (.int .i64 x0)), .pv (.lit (.int .i64 x1))] ++ caps4) (.pv (.lit (.int .i64 (cmp x0 x1))))) (hw4 : AV.withinL (fun _ => false) caps4 = true) (hab : 0 ≤ a ∧ a < m ∧ m < b ∧ b ≤ (data.length : Int)) (hL : data.length ≤ 1000000) (hs : ∀ x ∈ data, P_ x) (hrp : ∀ (d_ : List Int) (a_ m_ b_ : Int) (cmp_ : Int → Int → Int), 0 ≤ a_ ∧ a_ < m_ ∧ m_ < b_ ∧ b_ ≤ (data.length : Int) → b_ - a_ < b - a → d_.Perm data → (rec d_ a_ m_ b_ cmp_).Perm data) : MCalls Try.prog 63 [.sl 0 0 data.length 1 false, .pv (.lit (.int .i64 a)), .pv (.lit (.int .i64 m)), .pv (.lit (.int .i64 b)), .fn g4 [] caps4] (.cells (encC (eI .i64) data)) (.tup []) (.cells (encC (eI .i64) (symMergeB rec data a m b cmp))) := by
 generalize hR : symMergeB rec data a m b cmp = R
 refine MCalls.of_body tabOk Try.func63 rfl rfl rfl (by simp [AV.withinL, AV.within, withinL0 hw4]) rfl (encC_within _ _) (encC_within _ _) mixed fun E hP C hI => ?_
 refine Awp.seq ?_
 refine Awp.consP C ?_
 refine rvP C (.pv (.lit (.int .i64 m))) ?_
 refine rvP C (.pv (.lit (.int .i64 a))) ?_
 refine rvP C (.pv (.lit (.int .i64 (IntKind.i64.wrap (m - a))))) ?_
 refine rvP C (.pv (.lit (.bool ((IntKind.i64.wrap (m - a)) == 1)))) ?_
 refine rvc_nil ?_
 refine Awp.cond (b := ((IntKind.i64.wrap (m - a)) == 1)) rfl (fun h1 => ?_) (fun h1 => ?_)
 ·
  replace hR := of_true h1 hR
  refine Awp.consP C ?_
  refine rvP C (.pv (.lit (.int .i64 m))) ?_
  refine rvP C (.pv (.lit (.int .i64 m))) ?_
  refine rvc_nil ?_
  refine Awp.consP C ?_
  refine rvP C (.pv (.lit (.int .i64 b))) ?_
  refine rvP C (.pv (.lit (.int .i64 b))) ?_
  refine rvc_nil ?_
  refine Awp.seq ?_
  refine Awp.block ?_
  refine Awp.forM (σ := Int × Int) (fun v => [(0, .sl 0 0 data.length 1 false), (1, .pv (.lit (.int .i64 a))), (4, .fn g4 [] caps4), (10, .pv (.lit (.int .i64 v.1))), (11, .pv (.lit (.int .i64 v.2)))]) (fun v => [(0, .cells (encC (eI .i64) data))]) [0] (fun n v => (v.2 - v.1).toNat ≤ n ∧ symMergeB_l0 data a cmp (n + 1) v.1 v.2 = R ∧ (m ≤ v.1 ∧ v.1 ≤ v.2 ∧ v.2 ≤ b)) ((b - m).toNat) (m, b) ?_ ?_ (fun n_ v h2 => ?_)
  · exact ⟨Nat.le_refl _, hR, ⟨Int.le_refl _, (by dsimp only; omega), Int.le_refl _⟩⟩
  · exact ⟨fun b => b, WeakerR.ofLI (I := [0]) (Ks := [0]) hI ⟨⟨rfl, rfl⟩, ⟨rfl, rfl⟩, ⟨fn_to rfl hw4, fn_win hw4⟩, ⟨rfl, rfl⟩, ⟨rfl, rfl⟩, trivial⟩ (okH_list rfl rfl rfl (okH_nil)) rfl rfl⟩
  obtain ⟨i, j⟩ := v
  obtain ⟨hm_, hR, hVa⟩ := h2
  replace hm_ : (j - i).toNat ≤ n_ := hm_
  replace hVa : m ≤ i ∧ i ≤ j ∧ j ≤ b := hVa
  refine Awp.seq ?_
  refine Awp.consP C ?_
  refine rvP C (.pv (.lit (.int .i64 i))) ?_
  refine rvP C (.pv (.lit (.int .i64 j))) ?_
  refine rvP C (.pv (.lit (.bool (decide (i < j))))) ?_
  refine rvc_nil ?_
  refine Awp.cond (b := (decide (i < j))) rfl (fun h4 => ?_) (fun h4 => ?_)
  ·
   replace hR := of_true h4 hR
   refine Awp.skip ?_
   refine Awp.block ?_
   refine Awp.consP C ?_
   refine rvP C (.pv (.lit (.int .i64 i))) ?_
   refine rvP C (.pv (.lit (.int .i64 j))) ?_
   refine rvP C (.pv (.lit (.int .i64 (IntKind.i64.wrap (i + j))))) ?_
   refine rvP C (.pv (.lit (.int .u64 (IntKind.u64.wrap (IntKind.i64.wrap (i + j)))))) ?_
   refine rvc_un (rexec_prim C (δ := { v := .pv (.lit (.int .u64 (shrI .u64 (IntKind.u64.wrap (IntKind.i64.wrap (i + j))) 1))) }) rfl rfl rfl rfl (by first | decide | assumption | omega) rfl ?_)
   refine rvP C (.pv (.lit (.int .i64 (IntKind.i64.wrap (shrI .u64 (IntKind.u64.wrap (IntKind.i64.wrap (i + j))) 1))))) ?_
   refine rvP C (.pv (.lit (.int .i64 (IntKind.i64.wrap (shrI .u64 (IntKind.u64.wrap (IntKind.i64.wrap (i + j))) 1))))) ?_
   refine rvc_nil ?_
   refine Awp.consP C ?_
   refine rvP C (.fn g4 [] caps4) ?_
   refine rvP C (.sl 0 0 data.length 1 false) ?_
   refine rvP C (.pv (.lit (.int .i64 (IntKind.i64.wrap (shrI .u64 (IntKind.u64.wrap (IntKind.i64.wrap (i + j))) 1))))) ?_
   have h5 : data[(IntKind.i64.wrap (shrI .u64 (IntKind.u64.wrap (IntKind.i64.wrap (i + j))) 1)).toNat]? = some data[(IntKind.i64.wrap (shrI .u64 (IntKind.u64.wrap (IntKind.i64.wrap (i + j))) 1)).toNat]! := getE (by have hl_ := of_decide_eq_true ‹decide (i < j) = true›; have hh_ := half_eq (x := i + j) (by omega); have hw_ := wrapI ((IntKind.i64.wrap (shrI .u64 (IntKind.u64.wrap (IntKind.i64.wrap (i + j))) 1)) + 1) (by omega); omega)
   refine rvc_un (rexec_prim C (δ := { v := .ptr 0 (0 + (IntKind.i64.wrap (shrI .u64 (IntKind.u64.wrap (IntKind.i64.wrap (i + j))) 1)).toNat * 1) }) rfl rfl rfl rfl ⟨(by have hl_ := of_decide_eq_true ‹decide (i < j) = true›; have hh_ := half_eq (x := i + j) (by omega); have hw_ := wrapI ((IntKind.i64.wrap (shrI .u64 (IntKind.u64.wrap (IntKind.i64.wrap (i + j))) 1)) + 1) (by omega); omega), (by have hl_ := of_decide_eq_true ‹decide (i < j) = true›; have hh_ := half_eq (x := i + j) (by omega); have hw_ := wrapI ((IntKind.i64.wrap (shrI .u64 (IntKind.u64.wrap (IntKind.i64.wrap (i + j))) 1)) + 1) (by omega); omega)⟩ rfl ?_)
   refine rvc_un (rexec_loadE C (e := (eI .i64)) ((IntKind.i64.wrap (shrI .u64 (IntKind.u64.wrap (IntKind.i64.wrap (i + j))) 1)).toNat) 0 (data[(IntKind.i64.wrap (shrI .u64 (IntKind.u64.wrap (IntKind.i64.wrap (i + j))) 1)).toNat]!) (.pv (.lit (.int .i64 (data[(IntKind.i64.wrap (shrI .u64 (IntKind.u64.wrap (IntKind.i64.wrap (i + j))) 1)).toNat]!)))) rfl rfl rfl rfl h5 (by simp [eI]) (by decide) (by decide) rfl ?_)
   refine rvP C (.sl 0 0 data.length 1 false) ?_
   refine rvP C (.pv (.lit (.int .i64 a))) ?_
   have h6 : data[a.toNat]? = some data[a.toNat]! := getE (by omega)
   refine rvc_un (rexec_prim C (δ := { v := .ptr 0 (0 + a.toNat * 1) }) rfl rfl rfl rfl ⟨(by omega), (by omega)⟩ rfl ?_)
   refine rvc_un (rexec_loadE C (e := (eI .i64)) a.toNat 0 (data[a.toNat]!) (.pv (.lit (.int .i64 (data[a.toNat]!)))) rfl rfl rfl rfl h6 (by simp [eI]) (by decide) (by decide) rfl ?_)
   refine rvc_un (rexec_callV hP C rfl rfl rfl rfl (hp4 (data[(IntKind.i64.wrap (shrI .u64 (IntKind.u64.wrap (IntKind.i64.wrap (i + j))) 1)).toNat]!) (data[a.toNat]!) (hs _ (at_mem (by have hl_ := of_decide_eq_true ‹decide (i < j) = true›; have hh_ := half_eq (x := i + j) (by omega); have hw_ := wrapI ((IntKind.i64.wrap (shrI .u64 (IntKind.u64.wrap (IntKind.i64.wrap (i + j))) 1)) + 1) (by omega); omega))) (hs _ (at_mem (by omega)))) rfl ?_)
   refine rvP C (.pv (.lit (.bool (decide ((cmp (data[(IntKind.i64.wrap (shrI .u64 (IntKind.u64.wrap (IntKind.i64.wrap (i + j))) 1)).toNat]!) (data[a.toNat]!)) < 0))))) ?_
   refine rvc_nil ?_
   refine Awp.cond (b := (decide ((cmp (data[(IntKind.i64.wrap (shrI .u64 (IntKind.u64.wrap (IntKind.i64.wrap (i + j))) 1)).toNat]!) (data[a.toNat]!)) < 0))) rfl (fun h7 => ?_) (fun h7 => ?_)
   ·
    replace hR := of_true h7 hR
    refine Awp.regionP C ?_
    refine rvP C (.pv (.lit (.int .i64 (IntKind.i64.wrap (shrI .u64 (IntKind.u64.wrap (IntKind.i64.wrap (i + j))) 1))))) ?_
    refine rvP C (.pv (.lit (.int .i64 (IntKind.i64.wrap ((IntKind.i64.wrap (shrI .u64 (IntKind.u64.wrap (IntKind.i64.wrap (i + j))) 1)) + 1))))) ?_
    refine rvP C (.pv (.lit (.int .i64 (IntKind.i64.wrap ((IntKind.i64.wrap (shrI .u64 (IntKind.u64.wrap (IntKind.i64.wrap (i + j))) 1)) + 1))))) ?_
    refine rvc_nil ?_
    have h8 : (j - (IntKind.i64.wrap ((IntKind.i64.wrap (shrI .u64 (IntKind.u64.wrap (IntKind.i64.wrap (i + j))) 1)) + 1))).toNat < (j - i).toNat := by (have hl_ := of_decide_eq_true ‹decide (i < j) = true›; have hh_ := half_eq (x := i + j) (by omega); have hw_ := wrapI ((IntKind.i64.wrap (shrI .u64 (IntKind.u64.wrap (IntKind.i64.wrap (i + j))) 1)) + 1) (by omega); omega)
    obtain ⟨nn, rfl⟩ : ∃ nn, n_ = nn + 1 := ⟨n_ - 1, by omega⟩
    refine ⟨nn, ((IntKind.i64.wrap ((IntKind.i64.wrap (shrI .u64 (IntKind.u64.wrap (IntKind.i64.wrap (i + j))) 1)) + 1)), j), by omega, ⟨by show (j - (IntKind.i64.wrap ((IntKind.i64.wrap (shrI .u64 (IntKind.u64.wrap (IntKind.i64.wrap (i + j))) 1)) + 1))).toNat ≤ nn; omega, hR, (by dsimp only; have hl_ := of_decide_eq_true ‹decide (i < j) = true›; have hh_ := half_eq (x := i + j) (by omega); have hw_ := wrapI ((IntKind.i64.wrap (shrI .u64 (IntKind.u64.wrap (IntKind.i64.wrap (i + j))) 1)) + 1) (by omega); omega)⟩, ?_⟩
    · exact ⟨fun b => b, WeakerR.ofLI (I := [0]) (Ks := [0]) hI ⟨⟨rfl, rfl⟩, ⟨rfl, rfl⟩, ⟨fn_to rfl hw4, fn_win hw4⟩, ⟨rfl, rfl⟩, ⟨rfl, rfl⟩, trivial⟩ (okH_list rfl rfl rfl (okH_nil)) rfl rfl⟩
   ·
    replace hR := of_false h7 hR
    refine Awp.regionP C ?_
    refine rvP C (.pv (.lit (.int .i64 (IntKind.i64.wrap (shrI .u64 (IntKind.u64.wrap (IntKind.i64.wrap (i + j))) 1))))) ?_
    refine rvP C (.pv (.lit (.int .i64 (IntKind.i64.wrap (shrI .u64 (IntKind.u64.wrap (IntKind.i64.wrap (i + j))) 1))))) ?_
    refine rvc_nil ?_
    have h9 : ((IntKind.i64.wrap (shrI .u64 (IntKind.u64.wrap (IntKind.i64.wrap (i + j))) 1)) - i).toNat < (j - i).toNat := by (have hl_ := of_decide_eq_true ‹decide (i < j) = true›; have hh_ := half_eq (x := i + j) (by omega); have hw_ := wrapI ((IntKind.i64.wrap (shrI .u64 (IntKind.u64.wrap (IntKind.i64.wrap (i + j))) 1)) + 1) (by omega); omega)
    obtain ⟨nn, rfl⟩ : ∃ nn, n_ = nn + 1 := ⟨n_ - 1, by omega⟩
    refine ⟨nn, (i, (IntKind.i64.wrap (shrI .u64 (IntKind.u64.wrap (IntKind.i64.wrap (i + j))) 1))), by omega, ⟨by show ((IntKind.i64.wrap (shrI .u64 (IntKind.u64.wrap (IntKind.i64.wrap (i + j))) 1)) - i).toNat ≤ nn; omega, hR, (by dsimp only; have hl_ := of_decide_eq_true ‹decide (i < j) = true›; have hh_ := half_eq (x := i + j) (by omega); have hw_ := wrapI ((IntKind.i64.wrap (shrI .u64 (IntKind.u64.wrap (IntKind.i64.wrap (i + j))) 1)) + 1) (by omega); omega)⟩, ?_⟩
    · exact ⟨fun b => b, WeakerR.ofLI (I := [0]) (Ks := [0]) hI ⟨⟨rfl, rfl⟩, ⟨rfl, rfl⟩, ⟨fn_to rfl hw4, fn_win hw4⟩, ⟨rfl, rfl⟩, ⟨rfl, rfl⟩, trivial⟩ (okH_list rfl rfl rfl (okH_nil)) rfl rfl⟩
  ·
   replace hR := of_false h4 hR
   refine Awp.exit ?_
   refine Awp.seq ?_
   refine Awp.consP C ?_
   refine rvP C (.pv (.lit (.int .i64 a))) ?_
   refine rvP C (.pv (.lit (.int .i64 a))) ?_
   refine rvc_nil ?_
   refine Awp.block ?_
   refine Awp.forM (σ := Int × ((List Int))) (fun v => [(0, .sl 0 0 data.length 1 false), (10, .pv (.lit (.int .i64 i))), (13, .pv (.lit (.int .i64 v.1)))]) (fun v => [(0, .cells (encC (eI .i64) v.2))]) [0] (fun n v => n = (IntKind.i64.wrap (i - 1) - v.1).toNat ∧ symMergeB_l1 i ((IntKind.i64.wrap (i - 1) - v.1).toNat + 1) v.1 v.2 = R ∧ (a ≤ v.1 ∧ v.2.Perm data)) ((IntKind.i64.wrap (i - 1) - a).toNat) (a, data) ?_ ?_ (fun _ v h10 => ?_)
   · exact ⟨rfl, hR, ⟨Int.le_refl _, List.Perm.refl _⟩⟩
   · exact ⟨fun b => b, WeakerR.ofLI (I := [0]) (Ks := [0]) hI ⟨⟨rfl, rfl⟩, ⟨rfl, rfl⟩, ⟨rfl, rfl⟩, trivial⟩ (okH_list rfl rfl rfl (okH_nil)) rfl rfl⟩
   obtain ⟨k, vc⟩ := v
   obtain ⟨rfl, hR, ⟨hVk, hVp⟩⟩ := h10
   replace hVk : a ≤ k := hVk
   replace hVp : vc.Perm data := hVp
   refine Awp.seq ?_
   refine Awp.consP C ?_
   refine rvP C (.pv (.lit (.int .i64 k))) ?_
   refine rvP C (.pv (.lit (.int .i64 i))) ?_
   refine rvP C (.pv (.lit (.int .i64 (IntKind.i64.wrap (i - 1))))) ?_
   refine rvP C (.pv (.lit (.bool (decide (k < (IntKind.i64.wrap (i - 1))))))) ?_
   refine rvc_nil ?_
   refine Awp.cond (b := (decide (k < (IntKind.i64.wrap (i - 1))))) rfl (fun h12 => ?_) (fun h12 => ?_)
   ·
    replace hR := of_true h12 hR
    refine Awp.skip ?_
    refine Awp.seq ?_
    refine Awp.block ?_
    refine Awp.regionP C ?_
    refine rvP C (.sl 0 0 data.length 1 false) ?_
    refine rvP C (.pv (.lit (.int .i64 k))) ?_
    refine rvP C (.sl 0 0 data.length 1 false) ?_
    refine rvP C (.pv (.lit (.int .i64 k))) ?_
    refine rvP C (.pv (.lit (.int .i64 (IntKind.i64.wrap (k + 1))))) ?_
    refine rvP C (.sl 0 0 data.length 1 false) ?_
    refine rvP C (.pv (.lit (.int .i64 k))) ?_
    refine rvP C (.pv (.lit (.int .i64 (IntKind.i64.wrap (k + 1))))) ?_
    have h13 : vc[(IntKind.i64.wrap (k + 1)).toNat]? = some vc[(IntKind.i64.wrap (k + 1)).toNat]! := getE (by have hn_ := hVp.length_eq; have hi_ := wrapI (i - 1) (by omega); have hl_ := of_decide_eq_true ‹decide (k < IntKind.i64.wrap (i - 1)) = true›; have hk_ := wrapI (k + 1) (by omega); omega)
    refine rvc_un (rexec_prim C (δ := { v := .ptr 0 (0 + (IntKind.i64.wrap (k + 1)).toNat * 1) }) rfl rfl rfl rfl ⟨(by have hn_ := hVp.length_eq; have hi_ := wrapI (i - 1) (by omega); have hl_ := of_decide_eq_true ‹decide (k < IntKind.i64.wrap (i - 1)) = true›; have hk_ := wrapI (k + 1) (by omega); omega), (by have hn_ := hVp.length_eq; have hi_ := wrapI (i - 1) (by omega); have hl_ := of_decide_eq_true ‹decide (k < IntKind.i64.wrap (i - 1)) = true›; have hk_ := wrapI (k + 1) (by omega); omega)⟩ rfl ?_)
    refine rvc_un (rexec_loadE C (e := (eI .i64)) ((IntKind.i64.wrap (k + 1)).toNat) 0 (vc[(IntKind.i64.wrap (k + 1)).toNat]!) (.pv (.lit (.int .i64 (vc[(IntKind.i64.wrap (k + 1)).toNat]!)))) rfl rfl rfl rfl h13 (by simp [eI]) (by decide) (by decide) rfl ?_)
    refine rvP C (.sl 0 0 data.length 1 false) ?_
    refine rvP C (.pv (.lit (.int .i64 k))) ?_
    have h14 : vc[k.toNat]? = some vc[k.toNat]! := getE (by have hn_ := hVp.length_eq; have hi_ := wrapI (i - 1) (by omega); have hl_ := of_decide_eq_true ‹decide (k < IntKind.i64.wrap (i - 1)) = true›; have hk_ := wrapI (k + 1) (by omega); omega)
    refine rvc_un (rexec_prim C (δ := { v := .ptr 0 (0 + k.toNat * 1) }) rfl rfl rfl rfl ⟨(by have hn_ := hVp.length_eq; have hi_ := wrapI (i - 1) (by omega); have hl_ := of_decide_eq_true ‹decide (k < IntKind.i64.wrap (i - 1)) = true›; have hk_ := wrapI (k + 1) (by omega); omega), (by have hn_ := hVp.length_eq; have hi_ := wrapI (i - 1) (by omega); have hl_ := of_decide_eq_true ‹decide (k < IntKind.i64.wrap (i - 1)) = true›; have hk_ := wrapI (k + 1) (by omega); omega)⟩ rfl ?_)
    refine rvc_un (rexec_loadE C (e := (eI .i64)) k.toNat 0 (vc[k.toNat]!) (.pv (.lit (.int .i64 (vc[k.toNat]!)))) rfl rfl rfl rfl h14 (by simp [eI]) (by decide) (by decide) rfl ?_)
    refine rvc_un (rexec_prim C (δ := { v := .ptr 0 (0 + k.toNat * 1) }) rfl rfl rfl rfl ⟨(by have hn_ := hVp.length_eq; have hi_ := wrapI (i - 1) (by omega); have hl_ := of_decide_eq_true ‹decide (k < IntKind.i64.wrap (i - 1)) = true›; have hk_ := wrapI (k + 1) (by omega); omega), (by have hn_ := hVp.length_eq; have hi_ := wrapI (i - 1) (by omega); have hl_ := of_decide_eq_true ‹decide (k < IntKind.i64.wrap (i - 1)) = true›; have hk_ := wrapI (k + 1) (by omega); omega)⟩ rfl ?_)
    refine rvc_un (rexec_storeE C (e := (eI .i64)) k.toNat 0 (vc[k.toNat]!) (vc[(IntKind.i64.wrap (k + 1)).toNat]!) rfl rfl rfl rfl h14 (by simp [eI]) rfl rfl rfl (of_decide_eq_true rfl) rfl ?_)
    have h15 : (vc.set k.toNat (vc[(IntKind.i64.wrap (k + 1)).toNat]!))[(IntKind.i64.wrap (k + 1)).toNat]? = some (vc.set k.toNat (vc[(IntKind.i64.wrap (k + 1)).toNat]!))[(IntKind.i64.wrap (k + 1)).toNat]! := getE (by rw [List.length_set]; have hn_ := hVp.length_eq; have hi_ := wrapI (i - 1) (by omega); have hl_ := of_decide_eq_true ‹decide (k < IntKind.i64.wrap (i - 1)) = true›; have hk_ := wrapI (k + 1) (by omega); omega)
    refine rvc_un (rexec_prim C (δ := { v := .ptr 0 (0 + (IntKind.i64.wrap (k + 1)).toNat * 1) }) rfl rfl rfl rfl ⟨(by have hn_ := hVp.length_eq; have hi_ := wrapI (i - 1) (by omega); have hl_ := of_decide_eq_true ‹decide (k < IntKind.i64.wrap (i - 1)) = true›; have hk_ := wrapI (k + 1) (by omega); omega), (by have hn_ := hVp.length_eq; have hi_ := wrapI (i - 1) (by omega); have hl_ := of_decide_eq_true ‹decide (k < IntKind.i64.wrap (i - 1)) = true›; have hk_ := wrapI (k + 1) (by omega); omega)⟩ rfl ?_)
    refine rvc_un (rexec_storeE C (e := (eI .i64)) ((IntKind.i64.wrap (k + 1)).toNat) 0 ((vc.set k.toNat (vc[(IntKind.i64.wrap (k + 1)).toNat]!))[(IntKind.i64.wrap (k + 1)).toNat]!) (vc[k.toNat]!) rfl rfl rfl rfl h15 (by simp [eI]) rfl rfl rfl (of_decide_eq_true rfl) rfl ?_)
    refine rvc_nil ?_
    refine Awp.regionP C ?_
    refine rvP C (.pv (.lit (.int .i64 k))) ?_
    refine rvP C (.pv (.lit (.int .i64 (IntKind.i64.wrap (k + 1))))) ?_
    refine rvP C (.pv (.lit (.int .i64 (IntKind.i64.wrap (k + 1))))) ?_
    refine rvc_nil ?_
    refine ⟨_, ((IntKind.i64.wrap (k + 1)), ((vc.set k.toNat (vc[(IntKind.i64.wrap (k + 1)).toNat]!)).set ((IntKind.i64.wrap (k + 1)).toNat) (vc[k.toNat]!))), ?_, ⟨rfl, (by rw [show ((IntKind.i64.wrap (i - 1) - (IntKind.i64.wrap (k + 1))).toNat) + 1 = ((IntKind.i64.wrap (i - 1) - k).toNat) by (have hn_ := hVp.length_eq; have hi_ := wrapI (i - 1) (by omega); have hl_ := of_decide_eq_true ‹decide (k < IntKind.i64.wrap (i - 1)) = true›; have hk_ := wrapI (k + 1) (by omega); omega)]; exact hR), ⟨(by dsimp only; have hn_ := hVp.length_eq; have hi_ := wrapI (i - 1) (by omega); have hl_ := of_decide_eq_true ‹decide (k < IntKind.i64.wrap (i - 1)) = true›; have hk_ := wrapI (k + 1) (by omega); omega), (by have hq_ := swap_permI (i := k) (j := IntKind.i64.wrap (k + 1)) hVp (by have hn_ := hVp.length_eq; have hi_ := wrapI (i - 1) (by omega); have hl_ := of_decide_eq_true ‹decide (k < IntKind.i64.wrap (i - 1)) = true›; have hk_ := wrapI (k + 1) (by omega); omega) (by have hn_ := hVp.length_eq; have hi_ := wrapI (i - 1) (by omega); have hl_ := of_decide_eq_true ‹decide (k < IntKind.i64.wrap (i - 1)) = true›; have hk_ := wrapI (k + 1) (by omega); omega); exact hq_)⟩⟩, ?_⟩
    · show (IntKind.i64.wrap (i - 1) - (IntKind.i64.wrap (k + 1))).toNat < (IntKind.i64.wrap (i - 1) - k).toNat; (have hn_ := hVp.length_eq; have hi_ := wrapI (i - 1) (by omega); have hl_ := of_decide_eq_true ‹decide (k < IntKind.i64.wrap (i - 1)) = true›; have hk_ := wrapI (k + 1) (by omega); omega)
    · exact ⟨fun b => b, WeakerR.ofLI (I := [0]) (Ks := [0]) hI ⟨⟨rfl, rfl⟩, ⟨rfl, rfl⟩, ⟨rfl, rfl⟩, trivial⟩ (okH_list rfl rfl rfl (okH_nil)) rfl rfl⟩
   ·
    replace hR := of_false h12 hR
    refine Awp.exit ?_
    refine Awp.ret ?_
    subst hR
    exact ⟨.inl rfl, rfl, rfl⟩
 ·
  replace hR := of_false h1 hR
  refine Awp.skip ?_
  refine Awp.seq ?_
  refine Awp.consP C ?_
  refine rvP C (.pv (.lit (.int .i64 b))) ?_
  refine rvP C (.pv (.lit (.int .i64 m))) ?_
  refine rvP C (.pv (.lit (.int .i64 (IntKind.i64.wrap (b - m))))) ?_
  refine rvP C (.pv (.lit (.bool ((IntKind.i64.wrap (b - m)) == 1)))) ?_
  refine rvc_nil ?_
  refine Awp.cond (b := ((IntKind.i64.wrap (b - m)) == 1)) rfl (fun h16 => ?_) (fun h16 => ?_)
  ·
   replace hR := of_true h16 hR
   refine Awp.consP C ?_
   refine rvP C (.pv (.lit (.int .i64 a))) ?_
   refine rvP C (.pv (.lit (.int .i64 a))) ?_
   refine rvc_nil ?_
   refine Awp.consP C ?_
   refine rvP C (.pv (.lit (.int .i64 m))) ?_
   refine rvP C (.pv (.lit (.int .i64 m))) ?_
   refine rvc_nil ?_
   refine Awp.seq ?_
   refine Awp.block ?_
   refine Awp.forM (σ := Int × Int) (fun v => [(0, .sl 0 0 data.length 1 false), (2, .pv (.lit (.int .i64 m))), (4, .fn g4 [] caps4), (14, .pv (.lit (.int .i64 v.1))), (15, .pv (.lit (.int .i64 v.2)))]) (fun v => [(0, .cells (encC (eI .i64) data))]) [0] (fun n v => (v.2 - v.1).toNat ≤ n ∧ symMergeB_l2 data m cmp (n + 1) v.1 v.2 = R ∧ (a ≤ v.1 ∧ v.1 ≤ v.2 ∧ v.2 ≤ m)) ((m - a).toNat) (a, m) ?_ ?_ (fun n_ v h17 => ?_)
   · exact ⟨Nat.le_refl _, hR, ⟨Int.le_refl _, (by dsimp only; omega), Int.le_refl _⟩⟩
   · exact ⟨fun b => b, WeakerR.ofLI (I := [0]) (Ks := [0]) hI ⟨⟨rfl, rfl⟩, ⟨rfl, rfl⟩, ⟨fn_to rfl hw4, fn_win hw4⟩, ⟨rfl, rfl⟩, ⟨rfl, rfl⟩, trivial⟩ (okH_list rfl rfl rfl (okH_nil)) rfl rfl⟩
   obtain ⟨i1, j1⟩ := v
   obtain ⟨hm_, hR, hVa⟩ := h17
   replace hm_ : (j1 - i1).toNat ≤ n_ := hm_
   replace hVa : a ≤ i1 ∧ i1 ≤ j1 ∧ j1 ≤ m := hVa
   refine Awp.seq ?_
   refine Awp.consP C ?_
   refine rvP C (.pv (.lit (.int .i64 i1))) ?_
   refine rvP C (.pv (.lit (.int .i64 j1))) ?_
   refine rvP C (.pv (.lit (.bool (decide (i1 < j1))))) ?_
   refine rvc_nil ?_
   refine Awp.cond (b := (decide (i1 < j1))) rfl (fun h19 => ?_) (fun h19 => ?_)
   ·
    replace hR := of_true h19 hR
    refine Awp.skip ?_
    refine Awp.block ?_
    refine Awp.consP C ?_
    refine rvP C (.pv (.lit (.int .i64 i1))) ?_
    refine rvP C (.pv (.lit (.int .i64 j1))) ?_
    refine rvP C (.pv (.lit (.int .i64 (IntKind.i64.wrap (i1 + j1))))) ?_
    refine rvP C (.pv (.lit (.int .u64 (IntKind.u64.wrap (IntKind.i64.wrap (i1 + j1)))))) ?_
    refine rvc_un (rexec_prim C (δ := { v := .pv (.lit (.int .u64 (shrI .u64 (IntKind.u64.wrap (IntKind.i64.wrap (i1 + j1))) 1))) }) rfl rfl rfl rfl (by first | decide | assumption | omega) rfl ?_)
    refine rvP C (.pv (.lit (.int .i64 (IntKind.i64.wrap (shrI .u64 (IntKind.u64.wrap (IntKind.i64.wrap (i1 + j1))) 1))))) ?_
    refine rvP C (.pv (.lit (.int .i64 (IntKind.i64.wrap (shrI .u64 (IntKind.u64.wrap (IntKind.i64.wrap (i1 + j1))) 1))))) ?_
    refine rvc_nil ?_
    refine Awp.consP C ?_
    refine rvP C (.fn g4 [] caps4) ?_
    refine rvP C (.sl 0 0 data.length 1 false) ?_
    refine rvP C (.pv (.lit (.int .i64 m))) ?_
    have h20 : data[m.toNat]? = some data[m.toNat]! := getE (by omega)
    refine rvc_un (rexec_prim C (δ := { v := .ptr 0 (0 + m.toNat * 1) }) rfl rfl rfl rfl ⟨(by omega), (by omega)⟩ rfl ?_)
    refine rvc_un (rexec_loadE C (e := (eI .i64)) m.toNat 0 (data[m.toNat]!) (.pv (.lit (.int .i64 (data[m.toNat]!)))) rfl rfl rfl rfl h20 (by simp [eI]) (by decide) (by decide) rfl ?_)
    refine rvP C (.sl 0 0 data.length 1 false) ?_
    refine rvP C (.pv (.lit (.int .i64 (IntKind.i64.wrap (shrI .u64 (IntKind.u64.wrap (IntKind.i64.wrap (i1 + j1))) 1))))) ?_
    have h21 : data[(IntKind.i64.wrap (shrI .u64 (IntKind.u64.wrap (IntKind.i64.wrap (i1 + j1))) 1)).toNat]? = some data[(IntKind.i64.wrap (shrI .u64 (IntKind.u64.wrap (IntKind.i64.wrap (i1 + j1))) 1)).toNat]! := getE (by have hl_ := of_decide_eq_true ‹decide (i1 < j1) = true›; have hh_ := half_eq (x := i1 + j1) (by omega); have hw_ := wrapI ((IntKind.i64.wrap (shrI .u64 (IntKind.u64.wrap (IntKind.i64.wrap (i1 + j1))) 1)) + 1) (by omega); omega)
    refine rvc_un (rexec_prim C (δ := { v := .ptr 0 (0 + (IntKind.i64.wrap (shrI .u64 (IntKind.u64.wrap (IntKind.i64.wrap (i1 + j1))) 1)).toNat * 1) }) rfl rfl rfl rfl ⟨(by have hl_ := of_decide_eq_true ‹decide (i1 < j1) = true›; have hh_ := half_eq (x := i1 + j1) (by omega); have hw_ := wrapI ((IntKind.i64.wrap (shrI .u64 (IntKind.u64.wrap (IntKind.i64.wrap (i1 + j1))) 1)) + 1) (by omega); omega), (by have hl_ := of_decide_eq_true ‹decide (i1 < j1) = true›; have hh_ := half_eq (x := i1 + j1) (by omega); have hw_ := wrapI ((IntKind.i64.wrap (shrI .u64 (IntKind.u64.wrap (IntKind.i64.wrap (i1 + j1))) 1)) + 1) (by omega); omega)⟩ rfl ?_)
    refine rvc_un (rexec_loadE C (e := (eI .i64)) ((IntKind.i64.wrap (shrI .u64 (IntKind.u64.wrap (IntKind.i64.wrap (i1 + j1))) 1)).toNat) 0 (data[(IntKind.i64.wrap (shrI .u64 (IntKind.u64.wrap (IntKind.i64.wrap (i1 + j1))) 1)).toNat]!) (.pv (.lit (.int .i64 (data[(IntKind.i64.wrap (shrI .u64 (IntKind.u64.wrap (IntKind.i64.wrap (i1 + j1))) 1)).toNat]!)))) rfl rfl rfl rfl h21 (by simp [eI]) (by decide) (by decide) rfl ?_)
    refine rvc_un (rexec_callV hP C rfl rfl rfl rfl (hp4 (data[m.toNat]!) (data[(IntKind.i64.wrap (shrI .u64 (IntKind.u64.wrap (IntKind.i64.wrap (i1 + j1))) 1)).toNat]!) (hs _ (at_mem (by omega))) (hs _ (at_mem (by have hl_ := of_decide_eq_true ‹decide (i1 < j1) = true›; have hh_ := half_eq (x := i1 + j1) (by omega); have hw_ := wrapI ((IntKind.i64.wrap (shrI .u64 (IntKind.u64.wrap (IntKind.i64.wrap (i1 + j1))) 1)) + 1) (by omega); omega)))) rfl ?_)
    refine rvP C (.pv (.lit (.bool (decide ((cmp (data[m.toNat]!) (data[(IntKind.i64.wrap (shrI .u64 (IntKind.u64.wrap (IntKind.i64.wrap (i1 + j1))) 1)).toNat]!)) < 0))))) ?_
    refine rvP C (.pv (.lit (.bool (!(decide ((cmp (data[m.toNat]!) (data[(IntKind.i64.wrap (shrI .u64 (IntKind.u64.wrap (IntKind.i64.wrap (i1 + j1))) 1)).toNat]!)) < 0)))))) ?_
    refine rvc_nil ?_
    refine Awp.cond (b := (!(decide ((cmp (data[m.toNat]!) (data[(IntKind.i64.wrap (shrI .u64 (IntKind.u64.wrap (IntKind.i64.wrap (i1 + j1))) 1)).toNat]!)) < 0)))) rfl (fun h22 => ?_) (fun h22 => ?_)
    ·
     replace hR := of_true h22 hR
     refine Awp.regionP C ?_
     refine rvP C (.pv (.lit (.int .i64 (IntKind.i64.wrap (shrI .u64 (IntKind.u64.wrap (IntKind.i64.wrap (i1 + j1))) 1))))) ?_
     refine rvP C (.pv (.lit (.int .i64 (IntKind.i64.wrap ((IntKind.i64.wrap (shrI .u64 (IntKind.u64.wrap (IntKind.i64.wrap (i1 + j1))) 1)) + 1))))) ?_
     refine rvP C (.pv (.lit (.int .i64 (IntKind.i64.wrap ((IntKind.i64.wrap (shrI .u64 (IntKind.u64.wrap (IntKind.i64.wrap (i1 + j1))) 1)) + 1))))) ?_
     refine rvc_nil ?_
     have h23 : (j1 - (IntKind.i64.wrap ((IntKind.i64.wrap (shrI .u64 (IntKind.u64.wrap (IntKind.i64.wrap (i1 + j1))) 1)) + 1))).toNat < (j1 - i1).toNat := by (have hl_ := of_decide_eq_true ‹decide (i1 < j1) = true›; have hh_ := half_eq (x := i1 + j1) (by omega); have hw_ := wrapI ((IntKind.i64.wrap (shrI .u64 (IntKind.u64.wrap (IntKind.i64.wrap (i1 + j1))) 1)) + 1) (by omega); omega)
     obtain ⟨nn, rfl⟩ : ∃ nn, n_ = nn + 1 := ⟨n_ - 1, by omega⟩
     refine ⟨nn, ((IntKind.i64.wrap ((IntKind.i64.wrap (shrI .u64 (IntKind.u64.wrap (IntKind.i64.wrap (i1 + j1))) 1)) + 1)), j1), by omega, ⟨by show (j1 - (IntKind.i64.wrap ((IntKind.i64.wrap (shrI .u64 (IntKind.u64.wrap (IntKind.i64.wrap (i1 + j1))) 1)) + 1))).toNat ≤ nn; omega, hR, (by dsimp only; have hl_ := of_decide_eq_true ‹decide (i1 < j1) = true›; have hh_ := half_eq (x := i1 + j1) (by omega); have hw_ := wrapI ((IntKind.i64.wrap (shrI .u64 (IntKind.u64.wrap (IntKind.i64.wrap (i1 + j1))) 1)) + 1) (by omega); omega)⟩, ?_⟩
     · exact ⟨fun b => b, WeakerR.ofLI (I := [0]) (Ks := [0]) hI ⟨⟨rfl, rfl⟩, ⟨rfl, rfl⟩, ⟨fn_to rfl hw4, fn_win hw4⟩, ⟨rfl, rfl⟩, ⟨rfl, rfl⟩, trivial⟩ (okH_list rfl rfl rfl (okH_nil)) rfl rfl⟩
    ·
     replace hR := of_false h22 hR
     refine Awp.regionP C ?_
     refine rvP C (.pv (.lit (.int .i64 (IntKind.i64.wrap (shrI .u64 (IntKind.u64.wrap (IntKind.i64.wrap (i1 + j1))) 1))))) ?_
     refine rvP C (.pv (.lit (.int .i64 (IntKind.i64.wrap (shrI .u64 (IntKind.u64.wrap (IntKind.i64.wrap (i1 + j1))) 1))))) ?_
     refine rvc_nil ?_
     have h24 : ((IntKind.i64.wrap (shrI .u64 (IntKind.u64.wrap (IntKind.i64.wrap (i1 + j1))) 1)) - i1).toNat < (j1 - i1).toNat := by (have hl_ := of_decide_eq_true ‹decide (i1 < j1) = true›; have hh_ := half_eq (x := i1 + j1) (by omega); have hw_ := wrapI ((IntKind.i64.wrap (shrI .u64 (IntKind.u64.wrap (IntKind.i64.wrap (i1 + j1))) 1)) + 1) (by omega); omega)
     obtain ⟨nn, rfl⟩ : ∃ nn, n_ = nn + 1 := ⟨n_ - 1, by omega⟩
     refine ⟨nn, (i1, (IntKind.i64.wrap (shrI .u64 (IntKind.u64.wrap (IntKind.i64.wrap (i1 + j1))) 1))), by omega, ⟨by show ((IntKind.i64.wrap (shrI .u64 (IntKind.u64.wrap (IntKind.i64.wrap (i1 + j1))) 1)) - i1).toNat ≤ nn; omega, hR, (by dsimp only; have hl_ := of_decide_eq_true ‹decide (i1 < j1) = true›; have hh_ := half_eq (x := i1 + j1) (by omega); have hw_ := wrapI ((IntKind.i64.wrap (shrI .u64 (IntKind.u64.wrap (IntKind.i64.wrap (i1 + j1))) 1)) + 1) (by omega); omega)⟩, ?_⟩
     · exact ⟨fun b => b, WeakerR.ofLI (I := [0]) (Ks := [0]) hI ⟨⟨rfl, rfl⟩, ⟨rfl, rfl⟩, ⟨fn_to rfl hw4, fn_win hw4⟩, ⟨rfl, rfl⟩, ⟨rfl, rfl⟩, trivial⟩ (okH_list rfl rfl rfl (okH_nil)) rfl rfl⟩
   ·
    replace hR := of_false h19 hR
    refine Awp.exit ?_
    refine Awp.seq ?_
    refine Awp.consP C ?_
    refine rvP C (.pv (.lit (.int .i64 m))) ?_
    refine rvP C (.pv (.lit (.int .i64 m))) ?_
    refine rvc_nil ?_
    refine Awp.block ?_
    refine Awp.forM (σ := Int × ((List Int))) (fun v => [(0, .sl 0 0 data.length 1 false), (14, .pv (.lit (.int .i64 i1))), (17, .pv (.lit (.int .i64 v.1)))]) (fun v => [(0, .cells (encC (eI .i64) v.2))]) [0] (fun n v => n = (v.1 - i1).toNat ∧ symMergeB_l3 i1 ((v.1 - i1).toNat + 1) v.1 v.2 = R ∧ ((i1 ≤ v.1 ∧ v.1 ≤ m) ∧ v.2.Perm data)) ((m - i1).toNat) (m, data) ?_ ?_ (fun _ v h25 => ?_)
    · exact ⟨rfl, hR, ⟨(by dsimp only; omega), List.Perm.refl _⟩⟩
    · exact ⟨fun b => b, WeakerR.ofLI (I := [0]) (Ks := [0]) hI ⟨⟨rfl, rfl⟩, ⟨rfl, rfl⟩, ⟨rfl, rfl⟩, trivial⟩ (okH_list rfl rfl rfl (okH_nil)) rfl rfl⟩
    obtain ⟨k1, vc1⟩ := v
    obtain ⟨rfl, hR, ⟨hVk, hVp⟩⟩ := h25
    replace hVk : i1 ≤ k1 ∧ k1 ≤ m := hVk
    replace hVp : vc1.Perm data := hVp
    refine Awp.seq ?_
    refine Awp.consP C ?_
    refine rvP C (.pv (.lit (.int .i64 k1))) ?_
    refine rvP C (.pv (.lit (.int .i64 i1))) ?_
    refine rvP C (.pv (.lit (.bool (decide (k1 > i1))))) ?_
    refine rvc_nil ?_
    refine Awp.cond (b := (decide (k1 > i1))) rfl (fun h27 => ?_) (fun h27 => ?_)
    ·
     replace hR := of_true h27 hR
     refine Awp.skip ?_
     refine Awp.seq ?_
     refine Awp.block ?_
     refine Awp.regionP C ?_
     refine rvP C (.sl 0 0 data.length 1 false) ?_
     refine rvP C (.pv (.lit (.int .i64 k1))) ?_
     refine rvP C (.sl 0 0 data.length 1 false) ?_
     refine rvP C (.pv (.lit (.int .i64 k1))) ?_
     refine rvP C (.pv (.lit (.int .i64 (IntKind.i64.wrap (k1 - 1))))) ?_
     refine rvP C (.sl 0 0 data.length 1 false) ?_
     refine rvP C (.pv (.lit (.int .i64 k1))) ?_
     refine rvP C (.pv (.lit (.int .i64 (IntKind.i64.wrap (k1 - 1))))) ?_
     have h28 : vc1[(IntKind.i64.wrap (k1 - 1)).toNat]? = some vc1[(IntKind.i64.wrap (k1 - 1)).toNat]! := getE (by have hn_ := hVp.length_eq; have hk_ := wrapI (k1 - 1) (by omega); have hl_ := of_decide_eq_true ‹decide (k1 > i1) = true›; omega)
     refine rvc_un (rexec_prim C (δ := { v := .ptr 0 (0 + (IntKind.i64.wrap (k1 - 1)).toNat * 1) }) rfl rfl rfl rfl ⟨(by have hn_ := hVp.length_eq; have hk_ := wrapI (k1 - 1) (by omega); have hl_ := of_decide_eq_true ‹decide (k1 > i1) = true›; omega), (by have hn_ := hVp.length_eq; have hk_ := wrapI (k1 - 1) (by omega); have hl_ := of_decide_eq_true ‹decide (k1 > i1) = true›; omega)⟩ rfl ?_)
     refine rvc_un (rexec_loadE C (e := (eI .i64)) ((IntKind.i64.wrap (k1 - 1)).toNat) 0 (vc1[(IntKind.i64.wrap (k1 - 1)).toNat]!) (.pv (.lit (.int .i64 (vc1[(IntKind.i64.wrap (k1 - 1)).toNat]!)))) rfl rfl rfl rfl h28 (by simp [eI]) (by decide) (by decide) rfl ?_)
     refine rvP C (.sl 0 0 data.length 1 false) ?_
     refine rvP C (.pv (.lit (.int .i64 k1))) ?_
     have h29 : vc1[k1.toNat]? = some vc1[k1.toNat]! := getE (by have hn_ := hVp.length_eq; have hk_ := wrapI (k1 - 1) (by omega); have hl_ := of_decide_eq_true ‹decide (k1 > i1) = true›; omega)
     refine rvc_un (rexec_prim C (δ := { v := .ptr 0 (0 + k1.toNat * 1) }) rfl rfl rfl rfl ⟨(by have hn_ := hVp.length_eq; have hk_ := wrapI (k1 - 1) (by omega); have hl_ := of_decide_eq_true ‹decide (k1 > i1) = true›; omega), (by have hn_ := hVp.length_eq; have hk_ := wrapI (k1 - 1) (by omega); have hl_ := of_decide_eq_true ‹decide (k1 > i1) = true›; omega)⟩ rfl ?_)
     refine rvc_un (rexec_loadE C (e := (eI .i64)) k1.toNat 0 (vc1[k1.toNat]!) (.pv (.lit (.int .i64 (vc1[k1.toNat]!)))) rfl rfl rfl rfl h29 (by simp [eI]) (by decide) (by decide) rfl ?_)
     refine rvc_un (rexec_prim C (δ := { v := .ptr 0 (0 + k1.toNat * 1) }) rfl rfl rfl rfl ⟨(by have hn_ := hVp.length_eq; have hk_ := wrapI (k1 - 1) (by omega); have hl_ := of_decide_eq_true ‹decide (k1 > i1) = true›; omega), (by have hn_ := hVp.length_eq; have hk_ := wrapI (k1 - 1) (by omega); have hl_ := of_decide_eq_true ‹decide (k1 > i1) = true›; omega)⟩ rfl ?_)
     refine rvc_un (rexec_storeE C (e := (eI .i64)) k1.toNat 0 (vc1[k1.toNat]!) (vc1[(IntKind.i64.wrap (k1 - 1)).toNat]!) rfl rfl rfl rfl h29 (by simp [eI]) rfl rfl rfl (of_decide_eq_true rfl) rfl ?_)
     have h30 : (vc1.set k1.toNat (vc1[(IntKind.i64.wrap (k1 - 1)).toNat]!))[(IntKind.i64.wrap (k1 - 1)).toNat]? = some (vc1.set k1.toNat (vc1[(IntKind.i64.wrap (k1 - 1)).toNat]!))[(IntKind.i64.wrap (k1 - 1)).toNat]! := getE (by rw [List.length_set]; have hn_ := hVp.length_eq; have hk_ := wrapI (k1 - 1) (by omega); have hl_ := of_decide_eq_true ‹decide (k1 > i1) = true›; omega)
     refine rvc_un (rexec_prim C (δ := { v := .ptr 0 (0 + (IntKind.i64.wrap (k1 - 1)).toNat * 1) }) rfl rfl rfl rfl ⟨(by have hn_ := hVp.length_eq; have hk_ := wrapI (k1 - 1) (by omega); have hl_ := of_decide_eq_true ‹decide (k1 > i1) = true›; omega), (by have hn_ := hVp.length_eq; have hk_ := wrapI (k1 - 1) (by omega); have hl_ := of_decide_eq_true ‹decide (k1 > i1) = true›; omega)⟩ rfl ?_)
     refine rvc_un (rexec_storeE C (e := (eI .i64)) ((IntKind.i64.wrap (k1 - 1)).toNat) 0 ((vc1.set k1.toNat (vc1[(IntKind.i64.wrap (k1 - 1)).toNat]!))[(IntKind.i64.wrap (k1 - 1)).toNat]!) (vc1[k1.toNat]!) rfl rfl rfl rfl h30 (by simp [eI]) rfl rfl rfl (of_decide_eq_true rfl) rfl ?_)
     refine rvc_nil ?_
     refine Awp.regionP C ?_
     refine rvP C (.pv (.lit (.int .i64 k1))) ?_
     refine rvP C (.pv (.lit (.int .i64 (IntKind.i64.wrap (k1 - 1))))) ?_
     refine rvP C (.pv (.lit (.int .i64 (IntKind.i64.wrap (k1 - 1))))) ?_
     refine rvc_nil ?_
     refine ⟨_, ((IntKind.i64.wrap (k1 - 1)), ((vc1.set k1.toNat (vc1[(IntKind.i64.wrap (k1 - 1)).toNat]!)).set ((IntKind.i64.wrap (k1 - 1)).toNat) (vc1[k1.toNat]!))), ?_, ⟨rfl, (by rw [show (((IntKind.i64.wrap (k1 - 1)) - i1).toNat) + 1 = ((k1 - i1).toNat) by (have hn_ := hVp.length_eq; have hk_ := wrapI (k1 - 1) (by omega); have hl_ := of_decide_eq_true ‹decide (k1 > i1) = true›; omega)]; exact hR), ⟨(by dsimp only; have hn_ := hVp.length_eq; have hk_ := wrapI (k1 - 1) (by omega); have hl_ := of_decide_eq_true ‹decide (k1 > i1) = true›; omega), (by have hq_ := swap_permI (i := k1) (j := IntKind.i64.wrap (k1 - 1)) hVp (by have hn_ := hVp.length_eq; have hk_ := wrapI (k1 - 1) (by omega); have hl_ := of_decide_eq_true ‹decide (k1 > i1) = true›; omega) (by have hn_ := hVp.length_eq; have hk_ := wrapI (k1 - 1) (by omega); have hl_ := of_decide_eq_true ‹decide (k1 > i1) = true›; omega); exact hq_)⟩⟩, ?_⟩
     · show ((IntKind.i64.wrap (k1 - 1)) - i1).toNat < (k1 - i1).toNat; (have hn_ := hVp.length_eq; have hk_ := wrapI (k1 - 1) (by omega); have hl_ := of_decide_eq_true ‹decide (k1 > i1) = true›; omega)
     · exact ⟨fun b => b, WeakerR.ofLI (I := [0]) (Ks := [0]) hI ⟨⟨rfl, rfl⟩, ⟨rfl, rfl⟩, ⟨rfl, rfl⟩, trivial⟩ (okH_list rfl rfl rfl (okH_nil)) rfl rfl⟩
    ·
     replace hR := of_false h27 hR
     refine Awp.exit ?_
     refine Awp.ret ?_
     subst hR
     exact ⟨.inl rfl, rfl, rfl⟩
  ·
   replace hR := of_false h16 hR
   refine Awp.skip ?_
   refine Awp.consP C ?_
   refine rvP C (.pv (.lit (.int .i64 a))) ?_
   refine rvP C (.pv (.lit (.int .i64 b))) ?_
   refine rvP C (.pv (.lit (.int .i64 (IntKind.i64.wrap (a + b))))) ?_
   refine rvP C (.pv (.lit (.int .u64 (IntKind.u64.wrap (IntKind.i64.wrap (a + b)))))) ?_
   refine rvc_un (rexec_prim C (δ := { v := .pv (.lit (.int .u64 (shrI .u64 (IntKind.u64.wrap (IntKind.i64.wrap (a + b))) 1))) }) rfl rfl rfl rfl (by first | decide | assumption | omega) rfl ?_)
   refine rvP C (.pv (.lit (.int .i64 (IntKind.i64.wrap (shrI .u64 (IntKind.u64.wrap (IntKind.i64.wrap (a + b))) 1))))) ?_
   refine rvP C (.pv (.lit (.int .i64 (IntKind.i64.wrap (shrI .u64 (IntKind.u64.wrap (IntKind.i64.wrap (a + b))) 1))))) ?_
   refine rvc_nil ?_
   refine Awp.consP C ?_
   refine rvP C (.pv (.lit (.int .i64 (IntKind.i64.wrap (shrI .u64 (IntKind.u64.wrap (IntKind.i64.wrap (a + b))) 1))))) ?_
   refine rvP C (.pv (.lit (.int .i64 m))) ?_
   refine rvP C (.pv (.lit (.int .i64 (IntKind.i64.wrap ((IntKind.i64.wrap (shrI .u64 (IntKind.u64.wrap (IntKind.i64.wrap (a + b))) 1)) + m))))) ?_
   refine rvP C (.pv (.lit (.int .i64 (IntKind.i64.wrap ((IntKind.i64.wrap (shrI .u64 (IntKind.u64.wrap (IntKind.i64.wrap (a + b))) 1)) + m))))) ?_
   refine rvc_nil ?_
   refine Awp.consP C ?_
   refine rvP C (.pv (.lit (.int .i64 0))) ?_
   refine rvP C (.pv (.lit (.int .i64 0))) ?_
   refine rvc_nil ?_
   refine Awp.seq ?_
   refine Awp.consP C ?_
   refine rvP C (.pv (.lit (.int .i64 m))) ?_
   refine rvP C (.pv (.lit (.int .i64 (IntKind.i64.wrap (shrI .u64 (IntKind.u64.wrap (IntKind.i64.wrap (a + b))) 1))))) ?_
   refine rvP C (.pv (.lit (.bool (decide (m > (IntKind.i64.wrap (shrI .u64 (IntKind.u64.wrap (IntKind.i64.wrap (a + b))) 1))))))) ?_
   refine rvc_nil ?_
   refine Awp.cond (b := (decide (m > (IntKind.i64.wrap (shrI .u64 (IntKind.u64.wrap (IntKind.i64.wrap (a + b))) 1))))) rfl (fun h31 => ?_) (fun h31 => ?_)
   ·
    replace hR := of_true h31 hR
    refine Awp.consP C ?_
    refine rvP C (.pv (.lit (.int .i64 (IntKind.i64.wrap ((IntKind.i64.wrap (shrI .u64 (IntKind.u64.wrap (IntKind.i64.wrap (a + b))) 1)) + m))))) ?_
    refine rvP C (.pv (.lit (.int .i64 b))) ?_
    refine rvP C (.pv (.lit (.int .i64 (IntKind.i64.wrap ((IntKind.i64.wrap ((IntKind.i64.wrap (shrI .u64 (IntKind.u64.wrap (IntKind.i64.wrap (a + b))) 1)) + m)) - b))))) ?_
    refine rvP C (.pv (.lit (.int .i64 (IntKind.i64.wrap ((IntKind.i64.wrap ((IntKind.i64.wrap (shrI .u64 (IntKind.u64.wrap (IntKind.i64.wrap (a + b))) 1)) + m)) - b))))) ?_
    refine rvc_nil ?_
    refine Awp.regionP C ?_
    refine rvP C (.pv (.lit (.int .i64 (IntKind.i64.wrap (shrI .u64 (IntKind.u64.wrap (IntKind.i64.wrap (a + b))) 1))))) ?_
    refine rvP C (.pv (.lit (.int .i64 (IntKind.i64.wrap (shrI .u64 (IntKind.u64.wrap (IntKind.i64.wrap (a + b))) 1))))) ?_
    refine rvc_nil ?_
    refine Awp.consP C ?_
    refine rvP C (.pv (.lit (.int .i64 (IntKind.i64.wrap ((IntKind.i64.wrap (shrI .u64 (IntKind.u64.wrap (IntKind.i64.wrap (a + b))) 1)) + m))))) ?_
    refine rvP C (.pv (.lit (.int .i64 (IntKind.i64.wrap ((IntKind.i64.wrap ((IntKind.i64.wrap (shrI .u64 (IntKind.u64.wrap (IntKind.i64.wrap (a + b))) 1)) + m)) - 1))))) ?_
    refine rvP C (.pv (.lit (.int .i64 (IntKind.i64.wrap ((IntKind.i64.wrap ((IntKind.i64.wrap (shrI .u64 (IntKind.u64.wrap (IntKind.i64.wrap (a + b))) 1)) + m)) - 1))))) ?_
    refine rvc_nil ?_
    refine Awp.seq ?_
    refine Awp.block ?_
    refine Awp.forM (σ := Int × Int) (fun v => [(0, .sl 0 0 data.length 1 false), (1, .pv (.lit (.int .i64 a))), (2, .pv (.lit (.int .i64 m))), (3, .pv (.lit (.int .i64 b))), (4, .fn g4 [] caps4), (18, .pv (.lit (.int .i64 (IntKind.i64.wrap (shrI .u64 (IntKind.u64.wrap (IntKind.i64.wrap (a + b))) 1))))), (19, .pv (.lit (.int .i64 (IntKind.i64.wrap ((IntKind.i64.wrap (shrI .u64 (IntKind.u64.wrap (IntKind.i64.wrap (a + b))) 1)) + m))))), (20, .pv (.lit (.int .i64 v.1))), (21, .pv (.lit (.int .i64 v.2))), (22, .pv (.lit (.int .i64 (IntKind.i64.wrap ((IntKind.i64.wrap ((IntKind.i64.wrap (shrI .u64 (IntKind.u64.wrap (IntKind.i64.wrap (a + b))) 1)) + m)) - 1)))))]) (fun v => [(0, .cells (encC (eI .i64) data))]) [0] (fun n v => (v.2 - v.1).toNat ≤ n ∧ symMergeB_l4 rec data a m b cmp (n + 1) v.1 v.2 = R ∧ (a ≤ v.1 ∧ (IntKind.i64.wrap ((IntKind.i64.wrap (shrI .u64 (IntKind.u64.wrap (IntKind.i64.wrap (a + b))) 1)) + m)) - b ≤ v.1 ∧ v.1 ≤ v.2 ∧ v.2 ≤ m ∧ v.2 ≤ (IntKind.i64.wrap (shrI .u64 (IntKind.u64.wrap (IntKind.i64.wrap (a + b))) 1)))) (((IntKind.i64.wrap (shrI .u64 (IntKind.u64.wrap (IntKind.i64.wrap (a + b))) 1)) - (IntKind.i64.wrap ((IntKind.i64.wrap ((IntKind.i64.wrap (shrI .u64 (IntKind.u64.wrap (IntKind.i64.wrap (a + b))) 1)) + m)) - b))).toNat) ((IntKind.i64.wrap ((IntKind.i64.wrap ((IntKind.i64.wrap (shrI .u64 (IntKind.u64.wrap (IntKind.i64.wrap (a + b))) 1)) + m)) - b)), (IntKind.i64.wrap (shrI .u64 (IntKind.u64.wrap (IntKind.i64.wrap (a + b))) 1))) ?_ ?_ (fun n_ v h32 => ?_)
    · exact ⟨Nat.le_refl _, hR, (by dsimp only; have hh_ := half_eq (x := a + b) (by omega); have hw_ := wrapI ((IntKind.i64.wrap (shrI .u64 (IntKind.u64.wrap (IntKind.i64.wrap (a + b))) 1)) + m) (by omega); have hw1_ := wrapI ((IntKind.i64.wrap ((IntKind.i64.wrap (shrI .u64 (IntKind.u64.wrap (IntKind.i64.wrap (a + b))) 1)) + m)) - b) (by omega); have hw2_ := wrapI ((IntKind.i64.wrap ((IntKind.i64.wrap (shrI .u64 (IntKind.u64.wrap (IntKind.i64.wrap (a + b))) 1)) + m)) - 1) (by omega); first | (have h_ := of_decide_eq_true ‹decide (m > (IntKind.i64.wrap (shrI .u64 (IntKind.u64.wrap (IntKind.i64.wrap (a + b))) 1))) = true›; omega) | (have h_ := of_decide_eq_false ‹decide (m > (IntKind.i64.wrap (shrI .u64 (IntKind.u64.wrap (IntKind.i64.wrap (a + b))) 1))) = false›; omega))⟩
    · exact ⟨fun b => b, WeakerR.ofLI (I := [0]) (Ks := [0]) hI ⟨⟨rfl, rfl⟩, ⟨rfl, rfl⟩, ⟨rfl, rfl⟩, ⟨rfl, rfl⟩, ⟨fn_to rfl hw4, fn_win hw4⟩, ⟨rfl, rfl⟩, ⟨rfl, rfl⟩, ⟨rfl, rfl⟩, ⟨rfl, rfl⟩, ⟨rfl, rfl⟩, trivial⟩ (okH_list rfl rfl rfl (okH_nil)) rfl rfl⟩
    obtain ⟨start, r⟩ := v
    obtain ⟨hm_, hR, hVa⟩ := h32
    replace hm_ : (r - start).toNat ≤ n_ := hm_
    replace hVa : a ≤ start ∧ (IntKind.i64.wrap ((IntKind.i64.wrap (shrI .u64 (IntKind.u64.wrap (IntKind.i64.wrap (a + b))) 1)) + m)) - b ≤ start ∧ start ≤ r ∧ r ≤ m ∧ r ≤ (IntKind.i64.wrap (shrI .u64 (IntKind.u64.wrap (IntKind.i64.wrap (a + b))) 1)) := hVa
    have hh_ := half_eq (x := a + b) (by omega)
    have hw_ := wrapI ((IntKind.i64.wrap (shrI .u64 (IntKind.u64.wrap (IntKind.i64.wrap (a + b))) 1)) + m) (by omega)
    have hw1_ := wrapI ((IntKind.i64.wrap ((IntKind.i64.wrap (shrI .u64 (IntKind.u64.wrap (IntKind.i64.wrap (a + b))) 1)) + m)) - b) (by omega)
    have hw2_ := wrapI ((IntKind.i64.wrap ((IntKind.i64.wrap (shrI .u64 (IntKind.u64.wrap (IntKind.i64.wrap (a + b))) 1)) + m)) - 1) (by omega)
    refine Awp.seq ?_
    refine Awp.consP C ?_
    refine rvP C (.pv (.lit (.int .i64 start))) ?_
    refine rvP C (.pv (.lit (.int .i64 r))) ?_
    refine rvP C (.pv (.lit (.bool (decide (start < r))))) ?_
    refine rvc_nil ?_
    refine Awp.cond (b := (decide (start < r))) rfl (fun h34 => ?_) (fun h34 => ?_)
    ·
     replace hR := of_true h34 hR
     refine Awp.skip ?_
     refine Awp.block ?_
     refine Awp.consP C ?_
     refine rvP C (.pv (.lit (.int .i64 start))) ?_
     refine rvP C (.pv (.lit (.int .i64 r))) ?_
     refine rvP C (.pv (.lit (.int .i64 (IntKind.i64.wrap (start + r))))) ?_
     refine rvP C (.pv (.lit (.int .u64 (IntKind.u64.wrap (IntKind.i64.wrap (start + r)))))) ?_
     refine rvc_un (rexec_prim C (δ := { v := .pv (.lit (.int .u64 (shrI .u64 (IntKind.u64.wrap (IntKind.i64.wrap (start + r))) 1))) }) rfl rfl rfl rfl (by first | decide | assumption | omega) rfl ?_)
     refine rvP C (.pv (.lit (.int .i64 (IntKind.i64.wrap (shrI .u64 (IntKind.u64.wrap (IntKind.i64.wrap (start + r))) 1))))) ?_
     refine rvP C (.pv (.lit (.int .i64 (IntKind.i64.wrap (shrI .u64 (IntKind.u64.wrap (IntKind.i64.wrap (start + r))) 1))))) ?_
     refine rvc_nil ?_
     refine Awp.consP C ?_
     refine rvP C (.fn g4 [] caps4) ?_
     refine rvP C (.sl 0 0 data.length 1 false) ?_
     refine rvP C (.pv (.lit (.int .i64 (IntKind.i64.wrap ((IntKind.i64.wrap ((IntKind.i64.wrap (shrI .u64 (IntKind.u64.wrap (IntKind.i64.wrap (a + b))) 1)) + m)) - 1))))) ?_
     refine rvP C (.pv (.lit (.int .i64 (IntKind.i64.wrap (shrI .u64 (IntKind.u64.wrap (IntKind.i64.wrap (start + r))) 1))))) ?_
     refine rvP C (.pv (.lit (.int .i64 (IntKind.i64.wrap ((IntKind.i64.wrap ((IntKind.i64.wrap ((IntKind.i64.wrap (shrI .u64 (IntKind.u64.wrap (IntKind.i64.wrap (a + b))) 1)) + m)) - 1)) - (IntKind.i64.wrap (shrI .u64 (IntKind.u64.wrap (IntKind.i64.wrap (start + r))) 1))))))) ?_
     have h35 : data[(IntKind.i64.wrap ((IntKind.i64.wrap ((IntKind.i64.wrap ((IntKind.i64.wrap (shrI .u64 (IntKind.u64.wrap (IntKind.i64.wrap (a + b))) 1)) + m)) - 1)) - (IntKind.i64.wrap (shrI .u64 (IntKind.u64.wrap (IntKind.i64.wrap (start + r))) 1)))).toNat]? = some data[(IntKind.i64.wrap ((IntKind.i64.wrap ((IntKind.i64.wrap ((IntKind.i64.wrap (shrI .u64 (IntKind.u64.wrap (IntKind.i64.wrap (a + b))) 1)) + m)) - 1)) - (IntKind.i64.wrap (shrI .u64 (IntKind.u64.wrap (IntKind.i64.wrap (start + r))) 1)))).toNat]! := getE (by have hl_ := of_decide_eq_true ‹decide (start < r) = true›; have hc_ := half_eq (x := start + r) (by omega); have hc1_ := wrapI ((IntKind.i64.wrap (shrI .u64 (IntKind.u64.wrap (IntKind.i64.wrap (start + r))) 1)) + 1) (by omega); have hc2_ := wrapI (IntKind.i64.wrap ((IntKind.i64.wrap ((IntKind.i64.wrap (shrI .u64 (IntKind.u64.wrap (IntKind.i64.wrap (a + b))) 1)) + m)) - 1) - (IntKind.i64.wrap (shrI .u64 (IntKind.u64.wrap (IntKind.i64.wrap (start + r))) 1))) (by omega); omega)
     refine rvc_un (rexec_prim C (δ := { v := .ptr 0 (0 + (IntKind.i64.wrap ((IntKind.i64.wrap ((IntKind.i64.wrap ((IntKind.i64.wrap (shrI .u64 (IntKind.u64.wrap (IntKind.i64.wrap (a + b))) 1)) + m)) - 1)) - (IntKind.i64.wrap (shrI .u64 (IntKind.u64.wrap (IntKind.i64.wrap (start + r))) 1)))).toNat * 1) }) rfl rfl rfl rfl ⟨(by have hl_ := of_decide_eq_true ‹decide (start < r) = true›; have hc_ := half_eq (x := start + r) (by omega); have hc1_ := wrapI ((IntKind.i64.wrap (shrI .u64 (IntKind.u64.wrap (IntKind.i64.wrap (start + r))) 1)) + 1) (by omega); have hc2_ := wrapI (IntKind.i64.wrap ((IntKind.i64.wrap ((IntKind.i64.wrap (shrI .u64 (IntKind.u64.wrap (IntKind.i64.wrap (a + b))) 1)) + m)) - 1) - (IntKind.i64.wrap (shrI .u64 (IntKind.u64.wrap (IntKind.i64.wrap (start + r))) 1))) (by omega); omega), (by have hl_ := of_decide_eq_true ‹decide (start < r) = true›; have hc_ := half_eq (x := start + r) (by omega); have hc1_ := wrapI ((IntKind.i64.wrap (shrI .u64 (IntKind.u64.wrap (IntKind.i64.wrap (start + r))) 1)) + 1) (by omega); have hc2_ := wrapI (IntKind.i64.wrap ((IntKind.i64.wrap ((IntKind.i64.wrap (shrI .u64 (IntKind.u64.wrap (IntKind.i64.wrap (a + b))) 1)) + m)) - 1) - (IntKind.i64.wrap (shrI .u64 (IntKind.u64.wrap (IntKind.i64.wrap (start + r))) 1))) (by omega); omega)⟩ rfl ?_)
     refine rvc_un (rexec_loadE C (e := (eI .i64)) ((IntKind.i64.wrap ((IntKind.i64.wrap ((IntKind.i64.wrap ((IntKind.i64.wrap (shrI .u64 (IntKind.u64.wrap (IntKind.i64.wrap (a + b))) 1)) + m)) - 1)) - (IntKind.i64.wrap (shrI .u64 (IntKind.u64.wrap (IntKind.i64.wrap (start + r))) 1)))).toNat) 0 (data[(IntKind.i64.wrap ((IntKind.i64.wrap ((IntKind.i64.wrap ((IntKind.i64.wrap (shrI .u64 (IntKind.u64.wrap (IntKind.i64.wrap (a + b))) 1)) + m)) - 1)) - (IntKind.i64.wrap (shrI .u64 (IntKind.u64.wrap (IntKind.i64.wrap (start + r))) 1)))).toNat]!) (.pv (.lit (.int .i64 (data[(IntKind.i64.wrap ((IntKind.i64.wrap ((IntKind.i64.wrap ((IntKind.i64.wrap (shrI .u64 (IntKind.u64.wrap (IntKind.i64.wrap (a + b))) 1)) + m)) - 1)) - (IntKind.i64.wrap (shrI .u64 (IntKind.u64.wrap (IntKind.i64.wrap (start + r))) 1)))).toNat]!)))) rfl rfl rfl rfl h35 (by simp [eI]) (by decide) (by decide) rfl ?_)
     refine rvP C (.sl 0 0 data.length 1 false) ?_
     refine rvP C (.pv (.lit (.int .i64 (IntKind.i64.wrap (shrI .u64 (IntKind.u64.wrap (IntKind.i64.wrap (start + r))) 1))))) ?_
     have h36 : data[(IntKind.i64.wrap (shrI .u64 (IntKind.u64.wrap (IntKind.i64.wrap (start + r))) 1)).toNat]? = some data[(IntKind.i64.wrap (shrI .u64 (IntKind.u64.wrap (IntKind.i64.wrap (start + r))) 1)).toNat]! := getE (by have hl_ := of_decide_eq_true ‹decide (start < r) = true›; have hc_ := half_eq (x := start + r) (by omega); have hc1_ := wrapI ((IntKind.i64.wrap (shrI .u64 (IntKind.u64.wrap (IntKind.i64.wrap (start + r))) 1)) + 1) (by omega); have hc2_ := wrapI (IntKind.i64.wrap ((IntKind.i64.wrap ((IntKind.i64.wrap (shrI .u64 (IntKind.u64.wrap (IntKind.i64.wrap (a + b))) 1)) + m)) - 1) - (IntKind.i64.wrap (shrI .u64 (IntKind.u64.wrap (IntKind.i64.wrap (start + r))) 1))) (by omega); omega)
     refine rvc_un (rexec_prim C (δ := { v := .ptr 0 (0 + (IntKind.i64.wrap (shrI .u64 (IntKind.u64.wrap (IntKind.i64.wrap (start + r))) 1)).toNat * 1) }) rfl rfl rfl rfl ⟨(by have hl_ := of_decide_eq_true ‹decide (start < r) = true›; have hc_ := half_eq (x := start + r) (by omega); have hc1_ := wrapI ((IntKind.i64.wrap (shrI .u64 (IntKind.u64.wrap (IntKind.i64.wrap (start + r))) 1)) + 1) (by omega); have hc2_ := wrapI (IntKind.i64.wrap ((IntKind.i64.wrap ((IntKind.i64.wrap (shrI .u64 (IntKind.u64.wrap (IntKind.i64.wrap (a + b))) 1)) + m)) - 1) - (IntKind.i64.wrap (shrI .u64 (IntKind.u64.wrap (IntKind.i64.wrap (start + r))) 1))) (by omega); omega), (by have hl_ := of_decide_eq_true ‹decide (start < r) = true›; have hc_ := half_eq (x := start + r) (by omega); have hc1_ := wrapI ((IntKind.i64.wrap (shrI .u64 (IntKind.u64.wrap (IntKind.i64.wrap (start + r))) 1)) + 1) (by omega); have hc2_ := wrapI (IntKind.i64.wrap ((IntKind.i64.wrap ((IntKind.i64.wrap (shrI .u64 (IntKind.u64.wrap (IntKind.i64.wrap (a + b))) 1)) + m)) - 1) - (IntKind.i64.wrap (shrI .u64 (IntKind.u64.wrap (IntKind.i64.wrap (start + r))) 1))) (by omega); omega)⟩ rfl ?_)
     refine rvc_un (rexec_loadE C (e := (eI .i64)) ((IntKind.i64.wrap (shrI .u64 (IntKind.u64.wrap (IntKind.i64.wrap (start + r))) 1)).toNat) 0 (data[(IntKind.i64.wrap (shrI .u64 (IntKind.u64.wrap (IntKind.i64.wrap (start + r))) 1)).toNat]!) (.pv (.lit (.int .i64 (data[(IntKind.i64.wrap (shrI .u64 (IntKind.u64.wrap (IntKind.i64.wrap (start + r))) 1)).toNat]!)))) rfl rfl rfl rfl h36 (by simp [eI]) (by decide) (by decide) rfl ?_)
     refine rvc_un (rexec_callV hP C rfl rfl rfl rfl (hp4 (data[(IntKind.i64.wrap ((IntKind.i64.wrap ((IntKind.i64.wrap ((IntKind.i64.wrap (shrI .u64 (IntKind.u64.wrap (IntKind.i64.wrap (a + b))) 1)) + m)) - 1)) - (IntKind.i64.wrap (shrI .u64 (IntKind.u64.wrap (IntKind.i64.wrap (start + r))) 1)))).toNat]!) (data[(IntKind.i64.wrap (shrI .u64 (IntKind.u64.wrap (IntKind.i64.wrap (start + r))) 1)).toNat]!) (hs _ (at_mem (by have hl_ := of_decide_eq_true ‹decide (start < r) = true›; have hc_ := half_eq (x := start + r) (by omega); have hc1_ := wrapI ((IntKind.i64.wrap (shrI .u64 (IntKind.u64.wrap (IntKind.i64.wrap (start + r))) 1)) + 1) (by omega); have hc2_ := wrapI (IntKind.i64.wrap ((IntKind.i64.wrap ((IntKind.i64.wrap (shrI .u64 (IntKind.u64.wrap (IntKind.i64.wrap (a + b))) 1)) + m)) - 1) - (IntKind.i64.wrap (shrI .u64 (IntKind.u64.wrap (IntKind.i64.wrap (start + r))) 1))) (by omega); omega))) (hs _ (at_mem (by have hl_ := of_decide_eq_true ‹decide (start < r) = true›; have hc_ := half_eq (x := start + r) (by omega); have hc1_ := wrapI ((IntKind.i64.wrap (shrI .u64 (IntKind.u64.wrap (IntKind.i64.wrap (start + r))) 1)) + 1) (by omega); have hc2_ := wrapI (IntKind.i64.wrap ((IntKind.i64.wrap ((IntKind.i64.wrap (shrI .u64 (IntKind.u64.wrap (IntKind.i64.wrap (a + b))) 1)) + m)) - 1) - (IntKind.i64.wrap (shrI .u64 (IntKind.u64.wrap (IntKind.i64.wrap (start + r))) 1))) (by omega); omega)))) rfl ?_)
     refine rvP C (.pv (.lit (.bool (decide ((cmp (data[(IntKind.i64.wrap ((IntKind.i64.wrap ((IntKind.i64.wrap ((IntKind.i64.wrap (shrI .u64 (IntKind.u64.wrap (IntKind.i64.wrap (a + b))) 1)) + m)) - 1)) - (IntKind.i64.wrap (shrI .u64 (IntKind.u64.wrap (IntKind.i64.wrap (start + r))) 1)))).toNat]!) (data[(IntKind.i64.wrap (shrI .u64 (IntKind.u64.wrap (IntKind.i64.wrap (start + r))) 1)).toNat]!)) < 0))))) ?_
     refine rvP C (.pv (.lit (.bool (!(decide ((cmp (data[(IntKind.i64.wrap ((IntKind.i64.wrap ((IntKind.i64.wrap ((IntKind.i64.wrap (shrI .u64 (IntKind.u64.wrap (IntKind.i64.wrap (a + b))) 1)) + m)) - 1)) - (IntKind.i64.wrap (shrI .u64 (IntKind.u64.wrap (IntKind.i64.wrap (start + r))) 1)))).toNat]!) (data[(IntKind.i64.wrap (shrI .u64 (IntKind.u64.wrap (IntKind.i64.wrap (start + r))) 1)).toNat]!)) < 0)))))) ?_
     refine rvc_nil ?_
     refine Awp.cond (b := (!(decide ((cmp (data[(IntKind.i64.wrap ((IntKind.i64.wrap ((IntKind.i64.wrap ((IntKind.i64.wrap (shrI .u64 (IntKind.u64.wrap (IntKind.i64.wrap (a + b))) 1)) + m)) - 1)) - (IntKind.i64.wrap (shrI .u64 (IntKind.u64.wrap (IntKind.i64.wrap (start + r))) 1)))).toNat]!) (data[(IntKind.i64.wrap (shrI .u64 (IntKind.u64.wrap (IntKind.i64.wrap (start + r))) 1)).toNat]!)) < 0)))) rfl (fun h37 => ?_) (fun h37 => ?_)
     ·
      replace hR := of_true h37 hR
      refine Awp.regionP C ?_
      refine rvP C (.pv (.lit (.int .i64 (IntKind.i64.wrap (shrI .u64 (IntKind.u64.wrap (IntKind.i64.wrap (start + r))) 1))))) ?_
      refine rvP C (.pv (.lit (.int .i64 (IntKind.i64.wrap ((IntKind.i64.wrap (shrI .u64 (IntKind.u64.wrap (IntKind.i64.wrap (start + r))) 1)) + 1))))) ?_
      refine rvP C (.pv (.lit (.int .i64 (IntKind.i64.wrap ((IntKind.i64.wrap (shrI .u64 (IntKind.u64.wrap (IntKind.i64.wrap (start + r))) 1)) + 1))))) ?_
      refine rvc_nil ?_
      have h38 : (r - (IntKind.i64.wrap ((IntKind.i64.wrap (shrI .u64 (IntKind.u64.wrap (IntKind.i64.wrap (start + r))) 1)) + 1))).toNat < (r - start).toNat := by (have hl_ := of_decide_eq_true ‹decide (start < r) = true›; have hc_ := half_eq (x := start + r) (by omega); have hc1_ := wrapI ((IntKind.i64.wrap (shrI .u64 (IntKind.u64.wrap (IntKind.i64.wrap (start + r))) 1)) + 1) (by omega); have hc2_ := wrapI (IntKind.i64.wrap ((IntKind.i64.wrap ((IntKind.i64.wrap (shrI .u64 (IntKind.u64.wrap (IntKind.i64.wrap (a + b))) 1)) + m)) - 1) - (IntKind.i64.wrap (shrI .u64 (IntKind.u64.wrap (IntKind.i64.wrap (start + r))) 1))) (by omega); omega)
      obtain ⟨nn, rfl⟩ : ∃ nn, n_ = nn + 1 := ⟨n_ - 1, by omega⟩
      refine ⟨nn, ((IntKind.i64.wrap ((IntKind.i64.wrap (shrI .u64 (IntKind.u64.wrap (IntKind.i64.wrap (start + r))) 1)) + 1)), r), by omega, ⟨by show (r - (IntKind.i64.wrap ((IntKind.i64.wrap (shrI .u64 (IntKind.u64.wrap (IntKind.i64.wrap (start + r))) 1)) + 1))).toNat ≤ nn; omega, hR, (by dsimp only; have hl_ := of_decide_eq_true ‹decide (start < r) = true›; have hc_ := half_eq (x := start + r) (by omega); have hc1_ := wrapI ((IntKind.i64.wrap (shrI .u64 (IntKind.u64.wrap (IntKind.i64.wrap (start + r))) 1)) + 1) (by omega); have hc2_ := wrapI (IntKind.i64.wrap ((IntKind.i64.wrap ((IntKind.i64.wrap (shrI .u64 (IntKind.u64.wrap (IntKind.i64.wrap (a + b))) 1)) + m)) - 1) - (IntKind.i64.wrap (shrI .u64 (IntKind.u64.wrap (IntKind.i64.wrap (start + r))) 1))) (by omega); omega)⟩, ?_⟩
      · exact ⟨fun b => b, WeakerR.ofLI (I := [0]) (Ks := [0]) hI ⟨⟨rfl, rfl⟩, ⟨rfl, rfl⟩, ⟨rfl, rfl⟩, ⟨rfl, rfl⟩, ⟨fn_to rfl hw4, fn_win hw4⟩, ⟨rfl, rfl⟩, ⟨rfl, rfl⟩, ⟨rfl, rfl⟩, ⟨rfl, rfl⟩, ⟨rfl, rfl⟩, trivial⟩ (okH_list rfl rfl rfl (okH_nil)) rfl rfl⟩
     ·
      replace hR := of_false h37 hR
      refine Awp.regionP C ?_
      refine rvP C (.pv (.lit (.int .i64 (IntKind.i64.wrap (shrI .u64 (IntKind.u64.wrap (IntKind.i64.wrap (start + r))) 1))))) ?_
      refine rvP C (.pv (.lit (.int .i64 (IntKind.i64.wrap (shrI .u64 (IntKind.u64.wrap (IntKind.i64.wrap (start + r))) 1))))) ?_
      refine rvc_nil ?_
      have h39 : ((IntKind.i64.wrap (shrI .u64 (IntKind.u64.wrap (IntKind.i64.wrap (start + r))) 1)) - start).toNat < (r - start).toNat := by (have hl_ := of_decide_eq_true ‹decide (start < r) = true›; have hc_ := half_eq (x := start + r) (by omega); have hc1_ := wrapI ((IntKind.i64.wrap (shrI .u64 (IntKind.u64.wrap (IntKind.i64.wrap (start + r))) 1)) + 1) (by omega); have hc2_ := wrapI (IntKind.i64.wrap ((IntKind.i64.wrap ((IntKind.i64.wrap (shrI .u64 (IntKind.u64.wrap (IntKind.i64.wrap (a + b))) 1)) + m)) - 1) - (IntKind.i64.wrap (shrI .u64 (IntKind.u64.wrap (IntKind.i64.wrap (start + r))) 1))) (by omega); omega)
      obtain ⟨nn, rfl⟩ : ∃ nn, n_ = nn + 1 := ⟨n_ - 1, by omega⟩
      refine ⟨nn, (start, (IntKind.i64.wrap (shrI .u64 (IntKind.u64.wrap (IntKind.i64.wrap (start + r))) 1))), by omega, ⟨by show ((IntKind.i64.wrap (shrI .u64 (IntKind.u64.wrap (IntKind.i64.wrap (start + r))) 1)) - start).toNat ≤ nn; omega, hR, (by dsimp only; have hl_ := of_decide_eq_true ‹decide (start < r) = true›; have hc_ := half_eq (x := start + r) (by omega); have hc1_ := wrapI ((IntKind.i64.wrap (shrI .u64 (IntKind.u64.wrap (IntKind.i64.wrap (start + r))) 1)) + 1) (by omega); have hc2_ := wrapI (IntKind.i64.wrap ((IntKind.i64.wrap ((IntKind.i64.wrap (shrI .u64 (IntKind.u64.wrap (IntKind.i64.wrap (a + b))) 1)) + m)) - 1) - (IntKind.i64.wrap (shrI .u64 (IntKind.u64.wrap (IntKind.i64.wrap (start + r))) 1))) (by omega); omega)⟩, ?_⟩
      · exact ⟨fun b => b, WeakerR.ofLI (I := [0]) (Ks := [0]) hI ⟨⟨rfl, rfl⟩, ⟨rfl, rfl⟩, ⟨rfl, rfl⟩, ⟨rfl, rfl⟩, ⟨fn_to rfl hw4, fn_win hw4⟩, ⟨rfl, rfl⟩, ⟨rfl, rfl⟩, ⟨rfl, rfl⟩, ⟨rfl, rfl⟩, ⟨rfl, rfl⟩, trivial⟩ (okH_list rfl rfl rfl (okH_nil)) rfl rfl⟩
    ·
     replace hR := of_false h34 hR
     refine Awp.exit ?_
     refine Awp.consP C ?_
     refine rvP C (.pv (.lit (.int .i64 (IntKind.i64.wrap ((IntKind.i64.wrap (shrI .u64 (IntKind.u64.wrap (IntKind.i64.wrap (a + b))) 1)) + m))))) ?_
     refine rvP C (.pv (.lit (.int .i64 start))) ?_
     refine rvP C (.pv (.lit (.int .i64 (IntKind.i64.wrap ((IntKind.i64.wrap ((IntKind.i64.wrap (shrI .u64 (IntKind.u64.wrap (IntKind.i64.wrap (a + b))) 1)) + m)) - start))))) ?_
     refine rvP C (.pv (.lit (.int .i64 (IntKind.i64.wrap ((IntKind.i64.wrap ((IntKind.i64.wrap (shrI .u64 (IntKind.u64.wrap (IntKind.i64.wrap (a + b))) 1)) + m)) - start))))) ?_
     refine rvc_nil ?_
     refine Awp.seq ?_
     refine Awp.consP C ?_
     refine rvP C (.pv (.lit (.int .i64 start))) ?_
     refine rvP C (.pv (.lit (.int .i64 m))) ?_
     refine rvP C (.pv (.lit (.bool (decide (start < m))))) ?_
     refine rvP C (.pv (.lit (.bool (decide (start < m))))) ?_
     refine rvc_case 181 (decide (start < m)) rfl (fun h40 => ?_) (fun h40 => ?_)
     ·
      replace hR := of_true h40 hR
      refine rvO C (.pv (.lit (.int .i64 m))) ?_
      refine rvO C (.pv (.lit (.int .i64 (IntKind.i64.wrap ((IntKind.i64.wrap ((IntKind.i64.wrap (shrI .u64 (IntKind.u64.wrap (IntKind.i64.wrap (a + b))) 1)) + m)) - start))))) ?_
      refine rvO C (.pv (.lit (.bool (decide (m < (IntKind.i64.wrap ((IntKind.i64.wrap ((IntKind.i64.wrap (shrI .u64 (IntKind.u64.wrap (IntKind.i64.wrap (a + b))) 1)) + m)) - start))))))) ?_
      refine rvP C (.pv (.lit (.bool (decide (m < (IntKind.i64.wrap ((IntKind.i64.wrap ((IntKind.i64.wrap (shrI .u64 (IntKind.u64.wrap (IntKind.i64.wrap (a + b))) 1)) + m)) - start))))))) ?_
      refine rvc_nil ?_
      refine Awp.cond (b := (decide (m < (IntKind.i64.wrap ((IntKind.i64.wrap ((IntKind.i64.wrap (shrI .u64 (IntKind.u64.wrap (IntKind.i64.wrap (a + b))) 1)) + m)) - start))))) rfl (fun h41 => ?_) (fun h41 => ?_)
      ·
       replace hR := of_true h41 hR
       refine Awp.region C (fun _ => .writer) (by kernel_rfl) ?_
       refine rvP C (.sl 0 0 data.length 1 false) ?_
       refine rvP C (.pv (.lit (.int .i64 start))) ?_
       refine rvP C (.pv (.lit (.int .i64 m))) ?_
       refine rvP C (.pv (.lit (.int .i64 (IntKind.i64.wrap ((IntKind.i64.wrap ((IntKind.i64.wrap (shrI .u64 (IntKind.u64.wrap (IntKind.i64.wrap (a + b))) 1)) + m)) - start))))) ?_
       refine rvP C (.fn g4 [] caps4) ?_
       refine rvc_un (rexec_callM hP C (b := 0) rfl rfl rfl (rotate_calls data start m (IntKind.i64.wrap ((IntKind.i64.wrap ((IntKind.i64.wrap (shrI .u64 (IntKind.u64.wrap (IntKind.i64.wrap (a + b))) 1)) + m)) - start)) cmp g4 caps4 hp4 hw4 (by have he_ := wrapI ((IntKind.i64.wrap ((IntKind.i64.wrap (shrI .u64 (IntKind.u64.wrap (IntKind.i64.wrap (a + b))) 1)) + m)) - start) (by omega); have hlt_ := of_decide_eq_true ‹decide (start < m) = true›; have hgt_ := of_decide_eq_true ‹decide (m < IntKind.i64.wrap ((IntKind.i64.wrap ((IntKind.i64.wrap (shrI .u64 (IntKind.u64.wrap (IntKind.i64.wrap (a + b))) 1)) + m)) - start)) = true›; omega) hL hs) (by simp only [AV.renL, AV.ren, AV.renL_none _ hw4]) rfl ?_)
       refine rvc_nil ?_
       refine Awp.seq ?_
       refine Awp.consP C ?_
       refine rvP C (.pv (.lit (.int .i64 a))) ?_
       refine rvP C (.pv (.lit (.int .i64 start))) ?_
       refine rvP C (.pv (.lit (.bool (decide (a < start))))) ?_
       refine rvP C (.pv (.lit (.bool (decide (a < start))))) ?_
       refine rvc_case 195 (decide (a < start)) rfl (fun h42 => ?_) (fun h42 => ?_)
       ·
        replace hR := of_true h42 hR
        refine rvO C (.pv (.lit (.int .i64 start))) ?_
        refine rvO C (.pv (.lit (.int .i64 (IntKind.i64.wrap (shrI .u64 (IntKind.u64.wrap (IntKind.i64.wrap (a + b))) 1))))) ?_
        refine rvO C (.pv (.lit (.bool (decide (start < (IntKind.i64.wrap (shrI .u64 (IntKind.u64.wrap (IntKind.i64.wrap (a + b))) 1))))))) ?_
        refine rvP C (.pv (.lit (.bool (decide (start < (IntKind.i64.wrap (shrI .u64 (IntKind.u64.wrap (IntKind.i64.wrap (a + b))) 1))))))) ?_
        refine rvc_nil ?_
        refine Awp.cond (b := (decide (start < (IntKind.i64.wrap (shrI .u64 (IntKind.u64.wrap (IntKind.i64.wrap (a + b))) 1))))) rfl (fun h43 => ?_) (fun h43 => ?_)
        ·
         replace hR := of_true h43 hR
         refine Awp.region C (fun _ => .writer) (by kernel_rfl) ?_
         refine rvP C (.sl 0 0 data.length 1 false) ?_
         refine rvP C (.pv (.lit (.int .i64 a))) ?_
         refine rvP C (.pv (.lit (.int .i64 start))) ?_
         refine rvP C (.pv (.lit (.int .i64 (IntKind.i64.wrap (shrI .u64 (IntKind.u64.wrap (IntKind.i64.wrap (a + b))) 1))))) ?_
         refine rvP C (.fn g4 [] caps4) ?_
         refine rvc_un (rexec_callM hP C (b := 0) rfl rfl rfl (hrec (rotate data start m (IntKind.i64.wrap ((IntKind.i64.wrap ((IntKind.i64.wrap (shrI .u64 (IntKind.u64.wrap (IntKind.i64.wrap (a + b))) 1)) + m)) - start)) cmp) a start (IntKind.i64.wrap (shrI .u64 (IntKind.u64.wrap (IntKind.i64.wrap (a + b))) 1)) cmp g4 caps4 hp4 hw4 (by have he_ := wrapI ((IntKind.i64.wrap ((IntKind.i64.wrap (shrI .u64 (IntKind.u64.wrap (IntKind.i64.wrap (a + b))) 1)) + m)) - start) (by omega); have hlt_ := of_decide_eq_true ‹decide (a < start) = true›; have hgt_ := of_decide_eq_true ‹decide (start < (IntKind.i64.wrap (shrI .u64 (IntKind.u64.wrap (IntKind.i64.wrap (a + b))) 1))) = true›; omega) (by have he_ := wrapI ((IntKind.i64.wrap ((IntKind.i64.wrap (shrI .u64 (IntKind.u64.wrap (IntKind.i64.wrap (a + b))) 1)) + m)) - start) (by omega); have hlt_ := of_decide_eq_true ‹decide (a < start) = true›; have hgt_ := of_decide_eq_true ‹decide (start < (IntKind.i64.wrap (shrI .u64 (IntKind.u64.wrap (IntKind.i64.wrap (a + b))) 1))) = true›; omega) (by first | exact List.Perm.refl _ | exact rotate_perm (by have he_ := wrapI ((IntKind.i64.wrap ((IntKind.i64.wrap (shrI .u64 (IntKind.u64.wrap (IntKind.i64.wrap (a + b))) 1)) + m)) - start) (by omega); have hlt_ := of_decide_eq_true ‹decide (start < m) = true›; have hgt_ := of_decide_eq_true ‹decide (m < IntKind.i64.wrap ((IntKind.i64.wrap ((IntKind.i64.wrap (shrI .u64 (IntKind.u64.wrap (IntKind.i64.wrap (a + b))) 1)) + m)) - start)) = true›; omega) hL)) (by have hl_ : (rotate data start m (IntKind.i64.wrap ((IntKind.i64.wrap ((IntKind.i64.wrap (shrI .u64 (IntKind.u64.wrap (IntKind.i64.wrap (a + b))) 1)) + m)) - start)) cmp).length = data.length := (List.Perm.length_eq (by first | exact List.Perm.refl _ | exact rotate_perm (by have he_ := wrapI ((IntKind.i64.wrap ((IntKind.i64.wrap (shrI .u64 (IntKind.u64.wrap (IntKind.i64.wrap (a + b))) 1)) + m)) - start) (by omega); have hlt_ := of_decide_eq_true ‹decide (start < m) = true›; have hgt_ := of_decide_eq_true ‹decide (m < IntKind.i64.wrap ((IntKind.i64.wrap ((IntKind.i64.wrap (shrI .u64 (IntKind.u64.wrap (IntKind.i64.wrap (a + b))) 1)) + m)) - start)) = true›; omega) hL)); simp only [AV.renL, AV.ren, hl_, AV.renL_none _ hw4]) rfl ?_)
         refine rvc_nil ?_
         refine Awp.consP C ?_
         refine rvP C (.pv (.lit (.int .i64 (IntKind.i64.wrap (shrI .u64 (IntKind.u64.wrap (IntKind.i64.wrap (a + b))) 1))))) ?_
         refine rvP C (.pv (.lit (.int .i64 (IntKind.i64.wrap ((IntKind.i64.wrap ((IntKind.i64.wrap (shrI .u64 (IntKind.u64.wrap (IntKind.i64.wrap (a + b))) 1)) + m)) - start))))) ?_
         refine rvP C (.pv (.lit (.bool (decide ((IntKind.i64.wrap (shrI .u64 (IntKind.u64.wrap (IntKind.i64.wrap (a + b))) 1)) < (IntKind.i64.wrap ((IntKind.i64.wrap ((IntKind.i64.wrap (shrI .u64 (IntKind.u64.wrap (IntKind.i64.wrap (a + b))) 1)) + m)) - start))))))) ?_
         refine rvP C (.pv (.lit (.bool (decide ((IntKind.i64.wrap (shrI .u64 (IntKind.u64.wrap (IntKind.i64.wrap (a + b))) 1)) < (IntKind.i64.wrap ((IntKind.i64.wrap ((IntKind.i64.wrap (shrI .u64 (IntKind.u64.wrap (IntKind.i64.wrap (a + b))) 1)) + m)) - start))))))) ?_
         refine rvc_case 209 (decide ((IntKind.i64.wrap (shrI .u64 (IntKind.u64.wrap (IntKind.i64.wrap (a + b))) 1)) < (IntKind.i64.wrap ((IntKind.i64.wrap ((IntKind.i64.wrap (shrI .u64 (IntKind.u64.wrap (IntKind.i64.wrap (a + b))) 1)) + m)) - start)))) rfl (fun h44 => ?_) (fun h44 => ?_)
         ·
          replace hR := of_true h44 hR
          refine rvO C (.pv (.lit (.int .i64 (IntKind.i64.wrap ((IntKind.i64.wrap ((IntKind.i64.wrap (shrI .u64 (IntKind.u64.wrap (IntKind.i64.wrap (a + b))) 1)) + m)) - start))))) ?_
          refine rvO C (.pv (.lit (.int .i64 b))) ?_
          refine rvO C (.pv (.lit (.bool (decide ((IntKind.i64.wrap ((IntKind.i64.wrap ((IntKind.i64.wrap (shrI .u64 (IntKind.u64.wrap (IntKind.i64.wrap (a + b))) 1)) + m)) - start)) < b))))) ?_
          refine rvP C (.pv (.lit (.bool (decide ((IntKind.i64.wrap ((IntKind.i64.wrap ((IntKind.i64.wrap (shrI .u64 (IntKind.u64.wrap (IntKind.i64.wrap (a + b))) 1)) + m)) - start)) < b))))) ?_
          refine rvc_nil ?_
          refine Awp.cond (b := (decide ((IntKind.i64.wrap ((IntKind.i64.wrap ((IntKind.i64.wrap (shrI .u64 (IntKind.u64.wrap (IntKind.i64.wrap (a + b))) 1)) + m)) - start)) < b))) rfl (fun h45 => ?_) (fun h45 => ?_)
          ·
           replace hR := of_true h45 hR
           refine Awp.region C (fun _ => .writer) (by kernel_rfl) ?_
           refine rvP C (.sl 0 0 data.length 1 false) ?_
           refine rvP C (.pv (.lit (.int .i64 (IntKind.i64.wrap (shrI .u64 (IntKind.u64.wrap (IntKind.i64.wrap (a + b))) 1))))) ?_
           refine rvP C (.pv (.lit (.int .i64 (IntKind.i64.wrap ((IntKind.i64.wrap ((IntKind.i64.wrap (shrI .u64 (IntKind.u64.wrap (IntKind.i64.wrap (a + b))) 1)) + m)) - start))))) ?_
           refine rvP C (.pv (.lit (.int .i64 b))) ?_
           refine rvP C (.fn g4 [] caps4) ?_
           refine rvc_un (rexec_callM hP C (b := 0) rfl rfl rfl (hrec (rec (rotate data start m (IntKind.i64.wrap ((IntKind.i64.wrap ((IntKind.i64.wrap (shrI .u64 (IntKind.u64.wrap (IntKind.i64.wrap (a + b))) 1)) + m)) - start)) cmp) a start (IntKind.i64.wrap (shrI .u64 (IntKind.u64.wrap (IntKind.i64.wrap (a + b))) 1)) cmp) (IntKind.i64.wrap (shrI .u64 (IntKind.u64.wrap (IntKind.i64.wrap (a + b))) 1)) (IntKind.i64.wrap ((IntKind.i64.wrap ((IntKind.i64.wrap (shrI .u64 (IntKind.u64.wrap (IntKind.i64.wrap (a + b))) 1)) + m)) - start)) b cmp g4 caps4 hp4 hw4 (by have he_ := wrapI ((IntKind.i64.wrap ((IntKind.i64.wrap (shrI .u64 (IntKind.u64.wrap (IntKind.i64.wrap (a + b))) 1)) + m)) - start) (by omega); have hlt_ := of_decide_eq_true ‹decide ((IntKind.i64.wrap (shrI .u64 (IntKind.u64.wrap (IntKind.i64.wrap (a + b))) 1)) < IntKind.i64.wrap ((IntKind.i64.wrap ((IntKind.i64.wrap (shrI .u64 (IntKind.u64.wrap (IntKind.i64.wrap (a + b))) 1)) + m)) - start)) = true›; have hgt_ := of_decide_eq_true ‹decide (IntKind.i64.wrap ((IntKind.i64.wrap ((IntKind.i64.wrap (shrI .u64 (IntKind.u64.wrap (IntKind.i64.wrap (a + b))) 1)) + m)) - start) < b) = true›; omega) (by have he_ := wrapI ((IntKind.i64.wrap ((IntKind.i64.wrap (shrI .u64 (IntKind.u64.wrap (IntKind.i64.wrap (a + b))) 1)) + m)) - start) (by omega); have hlt_ := of_decide_eq_true ‹decide ((IntKind.i64.wrap (shrI .u64 (IntKind.u64.wrap (IntKind.i64.wrap (a + b))) 1)) < IntKind.i64.wrap ((IntKind.i64.wrap ((IntKind.i64.wrap (shrI .u64 (IntKind.u64.wrap (IntKind.i64.wrap (a + b))) 1)) + m)) - start)) = true›; have hgt_ := of_decide_eq_true ‹decide (IntKind.i64.wrap ((IntKind.i64.wrap ((IntKind.i64.wrap (shrI .u64 (IntKind.u64.wrap (IntKind.i64.wrap (a + b))) 1)) + m)) - start) < b) = true›; omega) (by first | exact List.Perm.refl _ | exact rotate_perm (by have he_ := wrapI ((IntKind.i64.wrap ((IntKind.i64.wrap (shrI .u64 (IntKind.u64.wrap (IntKind.i64.wrap (a + b))) 1)) + m)) - start) (by omega); have hlt_ := of_decide_eq_true ‹decide (start < m) = true›; have hgt_ := of_decide_eq_true ‹decide (m < IntKind.i64.wrap ((IntKind.i64.wrap ((IntKind.i64.wrap (shrI .u64 (IntKind.u64.wrap (IntKind.i64.wrap (a + b))) 1)) + m)) - start)) = true›; omega) hL | exact hrp _ _ _ _ _ (by have he_ := wrapI ((IntKind.i64.wrap ((IntKind.i64.wrap (shrI .u64 (IntKind.u64.wrap (IntKind.i64.wrap (a + b))) 1)) + m)) - start) (by omega); have hlt_ := of_decide_eq_true ‹decide (a < start) = true›; have hgt_ := of_decide_eq_true ‹decide (start < (IntKind.i64.wrap (shrI .u64 (IntKind.u64.wrap (IntKind.i64.wrap (a + b))) 1))) = true›; omega) (by have he_ := wrapI ((IntKind.i64.wrap ((IntKind.i64.wrap (shrI .u64 (IntKind.u64.wrap (IntKind.i64.wrap (a + b))) 1)) + m)) - start) (by omega); have hlt_ := of_decide_eq_true ‹decide (a < start) = true›; have hgt_ := of_decide_eq_true ‹decide (start < (IntKind.i64.wrap (shrI .u64 (IntKind.u64.wrap (IntKind.i64.wrap (a + b))) 1))) = true›; omega) (List.Perm.refl _) | exact hrp _ _ _ _ _ (by have he_ := wrapI ((IntKind.i64.wrap ((IntKind.i64.wrap (shrI .u64 (IntKind.u64.wrap (IntKind.i64.wrap (a + b))) 1)) + m)) - start) (by omega); have hlt_ := of_decide_eq_true ‹decide (a < start) = true›; have hgt_ := of_decide_eq_true ‹decide (start < (IntKind.i64.wrap (shrI .u64 (IntKind.u64.wrap (IntKind.i64.wrap (a + b))) 1))) = true›; omega) (by have he_ := wrapI ((IntKind.i64.wrap ((IntKind.i64.wrap (shrI .u64 (IntKind.u64.wrap (IntKind.i64.wrap (a + b))) 1)) + m)) - start) (by omega); have hlt_ := of_decide_eq_true ‹decide (a < start) = true›; have hgt_ := of_decide_eq_true ‹decide (start < (IntKind.i64.wrap (shrI .u64 (IntKind.u64.wrap (IntKind.i64.wrap (a + b))) 1))) = true›; omega) (rotate_perm (by have he_ := wrapI ((IntKind.i64.wrap ((IntKind.i64.wrap (shrI .u64 (IntKind.u64.wrap (IntKind.i64.wrap (a + b))) 1)) + m)) - start) (by omega); have hlt_ := of_decide_eq_true ‹decide (start < m) = true›; have hgt_ := of_decide_eq_true ‹decide (m < IntKind.i64.wrap ((IntKind.i64.wrap ((IntKind.i64.wrap (shrI .u64 (IntKind.u64.wrap (IntKind.i64.wrap (a + b))) 1)) + m)) - start)) = true›; omega) hL))) (by have hl_ : (rec (rotate data start m (IntKind.i64.wrap ((IntKind.i64.wrap ((IntKind.i64.wrap (shrI .u64 (IntKind.u64.wrap (IntKind.i64.wrap (a + b))) 1)) + m)) - start)) cmp) a start (IntKind.i64.wrap (shrI .u64 (IntKind.u64.wrap (IntKind.i64.wrap (a + b))) 1)) cmp).length = data.length := (List.Perm.length_eq (by first | exact List.Perm.refl _ | exact rotate_perm (by have he_ := wrapI ((IntKind.i64.wrap ((IntKind.i64.wrap (shrI .u64 (IntKind.u64.wrap (IntKind.i64.wrap (a + b))) 1)) + m)) - start) (by omega); have hlt_ := of_decide_eq_true ‹decide (start < m) = true›; have hgt_ := of_decide_eq_true ‹decide (m < IntKind.i64.wrap ((IntKind.i64.wrap ((IntKind.i64.wrap (shrI .u64 (IntKind.u64.wrap (IntKind.i64.wrap (a + b))) 1)) + m)) - start)) = true›; omega) hL | exact hrp _ _ _ _ _ (by have he_ := wrapI ((IntKind.i64.wrap ((IntKind.i64.wrap (shrI .u64 (IntKind.u64.wrap (IntKind.i64.wrap (a + b))) 1)) + m)) - start) (by omega); have hlt_ := of_decide_eq_true ‹decide (a < start) = true›; have hgt_ := of_decide_eq_true ‹decide (start < (IntKind.i64.wrap (shrI .u64 (IntKind.u64.wrap (IntKind.i64.wrap (a + b))) 1))) = true›; omega) (by have he_ := wrapI ((IntKind.i64.wrap ((IntKind.i64.wrap (shrI .u64 (IntKind.u64.wrap (IntKind.i64.wrap (a + b))) 1)) + m)) - start) (by omega); have hlt_ := of_decide_eq_true ‹decide (a < start) = true›; have hgt_ := of_decide_eq_true ‹decide (start < (IntKind.i64.wrap (shrI .u64 (IntKind.u64.wrap (IntKind.i64.wrap (a + b))) 1))) = true›; omega) (List.Perm.refl _) | exact hrp _ _ _ _ _ (by have he_ := wrapI ((IntKind.i64.wrap ((IntKind.i64.wrap (shrI .u64 (IntKind.u64.wrap (IntKind.i64.wrap (a + b))) 1)) + m)) - start) (by omega); have hlt_ := of_decide_eq_true ‹decide (a < start) = true›; have hgt_ := of_decide_eq_true ‹decide (start < (IntKind.i64.wrap (shrI .u64 (IntKind.u64.wrap (IntKind.i64.wrap (a + b))) 1))) = true›; omega) (by have he_ := wrapI ((IntKind.i64.wrap ((IntKind.i64.wrap (shrI .u64 (IntKind.u64.wrap (IntKind.i64.wrap (a + b))) 1)) + m)) - start) (by omega); have hlt_ := of_decide_eq_true ‹decide (a < start) = true›; have hgt_ := of_decide_eq_true ‹decide (start < (IntKind.i64.wrap (shrI .u64 (IntKind.u64.wrap (IntKind.i64.wrap (a + b))) 1))) = true›; omega) (rotate_perm (by have he_ := wrapI ((IntKind.i64.wrap ((IntKind.i64.wrap (shrI .u64 (IntKind.u64.wrap (IntKind.i64.wrap (a + b))) 1)) + m)) - start) (by omega); have hlt_ := of_decide_eq_true ‹decide (start < m) = true›; have hgt_ := of_decide_eq_true ‹decide (m < IntKind.i64.wrap ((IntKind.i64.wrap ((IntKind.i64.wrap (shrI .u64 (IntKind.u64.wrap (IntKind.i64.wrap (a + b))) 1)) + m)) - start)) = true›; omega) hL))); simp only [AV.renL, AV.ren, hl_, AV.renL_none _ hw4]) rfl ?_)
           refine rvc_nil ?_
           subst hR
           exact ⟨.inr rfl, rfl, rfl⟩
          ·
           replace hR := of_false h45 hR
           refine Awp.skip ?_
           subst hR
           exact ⟨.inr rfl, rfl, rfl⟩
         ·
          replace hR := of_false h44 hR
          refine rvS ?_
          refine rvS ?_
          refine rvS ?_
          refine rvP C (.pv (.lit (.bool false))) ?_
          refine rvc_nil ?_
          refine Awp.condF (b := false) rfl rfl ?_
          refine Awp.skip ?_
          subst hR
          exact ⟨.inr rfl, rfl, rfl⟩
        ·
         replace hR := of_false h43 hR
         refine Awp.skip ?_
         refine Awp.consP C ?_
         refine rvP C (.pv (.lit (.int .i64 (IntKind.i64.wrap (shrI .u64 (IntKind.u64.wrap (IntKind.i64.wrap (a + b))) 1))))) ?_
         refine rvP C (.pv (.lit (.int .i64 (IntKind.i64.wrap ((IntKind.i64.wrap ((IntKind.i64.wrap (shrI .u64 (IntKind.u64.wrap (IntKind.i64.wrap (a + b))) 1)) + m)) - start))))) ?_
         refine rvP C (.pv (.lit (.bool (decide ((IntKind.i64.wrap (shrI .u64 (IntKind.u64.wrap (IntKind.i64.wrap (a + b))) 1)) < (IntKind.i64.wrap ((IntKind.i64.wrap ((IntKind.i64.wrap (shrI .u64 (IntKind.u64.wrap (IntKind.i64.wrap (a + b))) 1)) + m)) - start))))))) ?_
         refine rvP C (.pv (.lit (.bool (decide ((IntKind.i64.wrap (shrI .u64 (IntKind.u64.wrap (IntKind.i64.wrap (a + b))) 1)) < (IntKind.i64.wrap ((IntKind.i64.wrap ((IntKind.i64.wrap (shrI .u64 (IntKind.u64.wrap (IntKind.i64.wrap (a + b))) 1)) + m)) - start))))))) ?_
         refine rvc_case 209 (decide ((IntKind.i64.wrap (shrI .u64 (IntKind.u64.wrap (IntKind.i64.wrap (a + b))) 1)) < (IntKind.i64.wrap ((IntKind.i64.wrap ((IntKind.i64.wrap (shrI .u64 (IntKind.u64.wrap (IntKind.i64.wrap (a + b))) 1)) + m)) - start)))) rfl (fun h46 => ?_) (fun h46 => ?_)
         ·
          replace hR := of_true h46 hR
          refine rvO C (.pv (.lit (.int .i64 (IntKind.i64.wrap ((IntKind.i64.wrap ((IntKind.i64.wrap (shrI .u64 (IntKind.u64.wrap (IntKind.i64.wrap (a + b))) 1)) + m)) - start))))) ?_
          refine rvO C (.pv (.lit (.int .i64 b))) ?_
          refine rvO C (.pv (.lit (.bool (decide ((IntKind.i64.wrap ((IntKind.i64.wrap ((IntKind.i64.wrap (shrI .u64 (IntKind.u64.wrap (IntKind.i64.wrap (a + b))) 1)) + m)) - start)) < b))))) ?_
          refine rvP C (.pv (.lit (.bool (decide ((IntKind.i64.wrap ((IntKind.i64.wrap ((IntKind.i64.wrap (shrI .u64 (IntKind.u64.wrap (IntKind.i64.wrap (a + b))) 1)) + m)) - start)) < b))))) ?_
          refine rvc_nil ?_
          refine Awp.cond (b := (decide ((IntKind.i64.wrap ((IntKind.i64.wrap ((IntKind.i64.wrap (shrI .u64 (IntKind.u64.wrap (IntKind.i64.wrap (a + b))) 1)) + m)) - start)) < b))) rfl (fun h47 => ?_) (fun h47 => ?_)
          ·
           replace hR := of_true h47 hR
           refine Awp.region C (fun _ => .writer) (by kernel_rfl) ?_
           refine rvP C (.sl 0 0 data.length 1 false) ?_
           refine rvP C (.pv (.lit (.int .i64 (IntKind.i64.wrap (shrI .u64 (IntKind.u64.wrap (IntKind.i64.wrap (a + b))) 1))))) ?_
           refine rvP C (.pv (.lit (.int .i64 (IntKind.i64.wrap ((IntKind.i64.wrap ((IntKind.i64.wrap (shrI .u64 (IntKind.u64.wrap (IntKind.i64.wrap (a + b))) 1)) + m)) - start))))) ?_
           refine rvP C (.pv (.lit (.int .i64 b))) ?_
           refine rvP C (.fn g4 [] caps4) ?_
           refine rvc_un (rexec_callM hP C (b := 0) rfl rfl rfl (hrec (rotate data start m (IntKind.i64.wrap ((IntKind.i64.wrap ((IntKind.i64.wrap (shrI .u64 (IntKind.u64.wrap (IntKind.i64.wrap (a + b))) 1)) + m)) - start)) cmp) (IntKind.i64.wrap (shrI .u64 (IntKind.u64.wrap (IntKind.i64.wrap (a + b))) 1)) (IntKind.i64.wrap ((IntKind.i64.wrap ((IntKind.i64.wrap (shrI .u64 (IntKind.u64.wrap (IntKind.i64.wrap (a + b))) 1)) + m)) - start)) b cmp g4 caps4 hp4 hw4 (by have he_ := wrapI ((IntKind.i64.wrap ((IntKind.i64.wrap (shrI .u64 (IntKind.u64.wrap (IntKind.i64.wrap (a + b))) 1)) + m)) - start) (by omega); have hlt_ := of_decide_eq_true ‹decide ((IntKind.i64.wrap (shrI .u64 (IntKind.u64.wrap (IntKind.i64.wrap (a + b))) 1)) < IntKind.i64.wrap ((IntKind.i64.wrap ((IntKind.i64.wrap (shrI .u64 (IntKind.u64.wrap (IntKind.i64.wrap (a + b))) 1)) + m)) - start)) = true›; have hgt_ := of_decide_eq_true ‹decide (IntKind.i64.wrap ((IntKind.i64.wrap ((IntKind.i64.wrap (shrI .u64 (IntKind.u64.wrap (IntKind.i64.wrap (a + b))) 1)) + m)) - start) < b) = true›; omega) (by have he_ := wrapI ((IntKind.i64.wrap ((IntKind.i64.wrap (shrI .u64 (IntKind.u64.wrap (IntKind.i64.wrap (a + b))) 1)) + m)) - start) (by omega); have hlt_ := of_decide_eq_true ‹decide ((IntKind.i64.wrap (shrI .u64 (IntKind.u64.wrap (IntKind.i64.wrap (a + b))) 1)) < IntKind.i64.wrap ((IntKind.i64.wrap ((IntKind.i64.wrap (shrI .u64 (IntKind.u64.wrap (IntKind.i64.wrap (a + b))) 1)) + m)) - start)) = true›; have hgt_ := of_decide_eq_true ‹decide (IntKind.i64.wrap ((IntKind.i64.wrap ((IntKind.i64.wrap (shrI .u64 (IntKind.u64.wrap (IntKind.i64.wrap (a + b))) 1)) + m)) - start) < b) = true›; omega) (by first | exact List.Perm.refl _ | exact rotate_perm (by have he_ := wrapI ((IntKind.i64.wrap ((IntKind.i64.wrap (shrI .u64 (IntKind.u64.wrap (IntKind.i64.wrap (a + b))) 1)) + m)) - start) (by omega); have hlt_ := of_decide_eq_true ‹decide (start < m) = true›; have hgt_ := of_decide_eq_true ‹decide (m < IntKind.i64.wrap ((IntKind.i64.wrap ((IntKind.i64.wrap (shrI .u64 (IntKind.u64.wrap (IntKind.i64.wrap (a + b))) 1)) + m)) - start)) = true›; omega) hL | exact hrp _ _ _ _ _ (by have he_ := wrapI ((IntKind.i64.wrap ((IntKind.i64.wrap (shrI .u64 (IntKind.u64.wrap (IntKind.i64.wrap (a + b))) 1)) + m)) - start) (by omega); have hlt_ := of_decide_eq_true ‹decide (a < start) = true›; have hgt_ := of_decide_eq_true ‹decide (start < (IntKind.i64.wrap (shrI .u64 (IntKind.u64.wrap (IntKind.i64.wrap (a + b))) 1))) = true›; omega) (by have he_ := wrapI ((IntKind.i64.wrap ((IntKind.i64.wrap (shrI .u64 (IntKind.u64.wrap (IntKind.i64.wrap (a + b))) 1)) + m)) - start) (by omega); have hlt_ := of_decide_eq_true ‹decide (a < start) = true›; have hgt_ := of_decide_eq_true ‹decide (start < (IntKind.i64.wrap (shrI .u64 (IntKind.u64.wrap (IntKind.i64.wrap (a + b))) 1))) = true›; omega) (List.Perm.refl _) | exact hrp _ _ _ _ _ (by have he_ := wrapI ((IntKind.i64.wrap ((IntKind.i64.wrap (shrI .u64 (IntKind.u64.wrap (IntKind.i64.wrap (a + b))) 1)) + m)) - start) (by omega); have hlt_ := of_decide_eq_true ‹decide (a < start) = true›; have hgt_ := of_decide_eq_true ‹decide (start < (IntKind.i64.wrap (shrI .u64 (IntKind.u64.wrap (IntKind.i64.wrap (a + b))) 1))) = true›; omega) (by have he_ := wrapI ((IntKind.i64.wrap ((IntKind.i64.wrap (shrI .u64 (IntKind.u64.wrap (IntKind.i64.wrap (a + b))) 1)) + m)) - start) (by omega); have hlt_ := of_decide_eq_true ‹decide (a < start) = true›; have hgt_ := of_decide_eq_true ‹decide (start < (IntKind.i64.wrap (shrI .u64 (IntKind.u64.wrap (IntKind.i64.wrap (a + b))) 1))) = true›; omega) (rotate_perm (by have he_ := wrapI ((IntKind.i64.wrap ((IntKind.i64.wrap (shrI .u64 (IntKind.u64.wrap (IntKind.i64.wrap (a + b))) 1)) + m)) - start) (by omega); have hlt_ := of_decide_eq_true ‹decide (start < m) = true›; have hgt_ := of_decide_eq_true ‹decide (m < IntKind.i64.wrap ((IntKind.i64.wrap ((IntKind.i64.wrap (shrI .u64 (IntKind.u64.wrap (IntKind.i64.wrap (a + b))) 1)) + m)) - start)) = true›; omega) hL))) (by have hl_ : (rotate data start m (IntKind.i64.wrap ((IntKind.i64.wrap ((IntKind.i64.wrap (shrI .u64 (IntKind.u64.wrap (IntKind.i64.wrap (a + b))) 1)) + m)) - start)) cmp).length = data.length := (List.Perm.length_eq (by first | exact List.Perm.refl _ | exact rotate_perm (by have he_ := wrapI ((IntKind.i64.wrap ((IntKind.i64.wrap (shrI .u64 (IntKind.u64.wrap (IntKind.i64.wrap (a + b))) 1)) + m)) - start) (by omega); have hlt_ := of_decide_eq_true ‹decide (start < m) = true›; have hgt_ := of_decide_eq_true ‹decide (m < IntKind.i64.wrap ((IntKind.i64.wrap ((IntKind.i64.wrap (shrI .u64 (IntKind.u64.wrap (IntKind.i64.wrap (a + b))) 1)) + m)) - start)) = true›; omega) hL | exact hrp _ _ _ _ _ (by have he_ := wrapI ((IntKind.i64.wrap ((IntKind.i64.wrap (shrI .u64 (IntKind.u64.wrap (IntKind.i64.wrap (a + b))) 1)) + m)) - start) (by omega); have hlt_ := of_decide_eq_true ‹decide (a < start) = true›; have hgt_ := of_decide_eq_true ‹decide (start < (IntKind.i64.wrap (shrI .u64 (IntKind.u64.wrap (IntKind.i64.wrap (a + b))) 1))) = true›; omega) (by have he_ := wrapI ((IntKind.i64.wrap ((IntKind.i64.wrap (shrI .u64 (IntKind.u64.wrap (IntKind.i64.wrap (a + b))) 1)) + m)) - start) (by omega); have hlt_ := of_decide_eq_true ‹decide (a < start) = true›; have hgt_ := of_decide_eq_true ‹decide (start < (IntKind.i64.wrap (shrI .u64 (IntKind.u64.wrap (IntKind.i64.wrap (a + b))) 1))) = true›; omega) (List.Perm.refl _) | exact hrp _ _ _ _ _ (by have he_ := wrapI ((IntKind.i64.wrap ((IntKind.i64.wrap (shrI .u64 (IntKind.u64.wrap (IntKind.i64.wrap (a + b))) 1)) + m)) - start) (by omega); have hlt_ := of_decide_eq_true ‹decide (a < start) = true›; have hgt_ := of_decide_eq_true ‹decide (start < (IntKind.i64.wrap (shrI .u64 (IntKind.u64.wrap (IntKind.i64.wrap (a + b))) 1))) = true›; omega) (by have he_ := wrapI ((IntKind.i64.wrap ((IntKind.i64.wrap (shrI .u64 (IntKind.u64.wrap (IntKind.i64.wrap (a + b))) 1)) + m)) - start) (by omega); have hlt_ := of_decide_eq_true ‹decide (a < start) = true›; have hgt_ := of_decide_eq_true ‹decide (start < (IntKind.i64.wrap (shrI .u64 (IntKind.u64.wrap (IntKind.i64.wrap (a + b))) 1))) = true›; omega) (rotate_perm (by have he_ := wrapI ((IntKind.i64.wrap ((IntKind.i64.wrap (shrI .u64 (IntKind.u64.wrap (IntKind.i64.wrap (a + b))) 1)) + m)) - start) (by omega); have hlt_ := of_decide_eq_true ‹decide (start < m) = true›; have hgt_ := of_decide_eq_true ‹decide (m < IntKind.i64.wrap ((IntKind.i64.wrap ((IntKind.i64.wrap (shrI .u64 (IntKind.u64.wrap (IntKind.i64.wrap (a + b))) 1)) + m)) - start)) = true›; omega) hL))); simp only [AV.renL, AV.ren, hl_, AV.renL_none _ hw4]) rfl ?_)
           refine rvc_nil ?_
           subst hR
           exact ⟨.inr rfl, rfl, rfl⟩
          ·
           replace hR := of_false h47 hR
           refine Awp.skip ?_
           subst hR
           exact ⟨.inr rfl, rfl, rfl⟩
         ·
          replace hR := of_false h46 hR
          refine rvS ?_
          refine rvS ?_
          refine rvS ?_
          refine rvP C (.pv (.lit (.bool false))) ?_
          refine rvc_nil ?_
          refine Awp.condF (b := false) rfl rfl ?_
          refine Awp.skip ?_
          subst hR
          exact ⟨.inr rfl, rfl, rfl⟩
       ·
        replace hR := of_false h42 hR
        refine rvS ?_
        refine rvS ?_
        refine rvS ?_
        refine rvP C (.pv (.lit (.bool false))) ?_
        refine rvc_nil ?_
        refine Awp.condF (b := false) rfl rfl ?_
        refine Awp.skip ?_
        refine Awp.consP C ?_
        refine rvP C (.pv (.lit (.int .i64 (IntKind.i64.wrap (shrI .u64 (IntKind.u64.wrap (IntKind.i64.wrap (a + b))) 1))))) ?_
        refine rvP C (.pv (.lit (.int .i64 (IntKind.i64.wrap ((IntKind.i64.wrap ((IntKind.i64.wrap (shrI .u64 (IntKind.u64.wrap (IntKind.i64.wrap (a + b))) 1)) + m)) - start))))) ?_
        refine rvP C (.pv (.lit (.bool (decide ((IntKind.i64.wrap (shrI .u64 (IntKind.u64.wrap (IntKind.i64.wrap (a + b))) 1)) < (IntKind.i64.wrap ((IntKind.i64.wrap ((IntKind.i64.wrap (shrI .u64 (IntKind.u64.wrap (IntKind.i64.wrap (a + b))) 1)) + m)) - start))))))) ?_
        refine rvP C (.pv (.lit (.bool (decide ((IntKind.i64.wrap (shrI .u64 (IntKind.u64.wrap (IntKind.i64.wrap (a + b))) 1)) < (IntKind.i64.wrap ((IntKind.i64.wrap ((IntKind.i64.wrap (shrI .u64 (IntKind.u64.wrap (IntKind.i64.wrap (a + b))) 1)) + m)) - start))))))) ?_
        refine rvc_case 209 (decide ((IntKind.i64.wrap (shrI .u64 (IntKind.u64.wrap (IntKind.i64.wrap (a + b))) 1)) < (IntKind.i64.wrap ((IntKind.i64.wrap ((IntKind.i64.wrap (shrI .u64 (IntKind.u64.wrap (IntKind.i64.wrap (a + b))) 1)) + m)) - start)))) rfl (fun h48 => ?_) (fun h48 => ?_)
        ·
         replace hR := of_true h48 hR
         refine rvO C (.pv (.lit (.int .i64 (IntKind.i64.wrap ((IntKind.i64.wrap ((IntKind.i64.wrap (shrI .u64 (IntKind.u64.wrap (IntKind.i64.wrap (a + b))) 1)) + m)) - start))))) ?_
         refine rvO C (.pv (.lit (.int .i64 b))) ?_
         refine rvO C (.pv (.lit (.bool (decide ((IntKind.i64.wrap ((IntKind.i64.wrap ((IntKind.i64.wrap (shrI .u64 (IntKind.u64.wrap (IntKind.i64.wrap (a + b))) 1)) + m)) - start)) < b))))) ?_
         refine rvP C (.pv (.lit (.bool (decide ((IntKind.i64.wrap ((IntKind.i64.wrap ((IntKind.i64.wrap (shrI .u64 (IntKind.u64.wrap (IntKind.i64.wrap (a + b))) 1)) + m)) - start)) < b))))) ?_
         refine rvc_nil ?_
         refine Awp.cond (b := (decide ((IntKind.i64.wrap ((IntKind.i64.wrap ((IntKind.i64.wrap (shrI .u64 (IntKind.u64.wrap (IntKind.i64.wrap (a + b))) 1)) + m)) - start)) < b))) rfl (fun h49 => ?_) (fun h49 => ?_)
         ·
          replace hR := of_true h49 hR
          refine Awp.region C (fun _ => .writer) (by kernel_rfl) ?_
          refine rvP C (.sl 0 0 data.length 1 false) ?_
          refine rvP C (.pv (.lit (.int .i64 (IntKind.i64.wrap (shrI .u64 (IntKind.u64.wrap (IntKind.i64.wrap (a + b))) 1))))) ?_
          refine rvP C (.pv (.lit (.int .i64 (IntKind.i64.wrap ((IntKind.i64.wrap ((IntKind.i64.wrap (shrI .u64 (IntKind.u64.wrap (IntKind.i64.wrap (a + b))) 1)) + m)) - start))))) ?_
          refine rvP C (.pv (.lit (.int .i64 b))) ?_
          refine rvP C (.fn g4 [] caps4) ?_
          refine rvc_un (rexec_callM hP C (b := 0) rfl rfl rfl (hrec (rotate data start m (IntKind.i64.wrap ((IntKind.i64.wrap ((IntKind.i64.wrap (shrI .u64 (IntKind.u64.wrap (IntKind.i64.wrap (a + b))) 1)) + m)) - start)) cmp) (IntKind.i64.wrap (shrI .u64 (IntKind.u64.wrap (IntKind.i64.wrap (a + b))) 1)) (IntKind.i64.wrap ((IntKind.i64.wrap ((IntKind.i64.wrap (shrI .u64 (IntKind.u64.wrap (IntKind.i64.wrap (a + b))) 1)) + m)) - start)) b cmp g4 caps4 hp4 hw4 (by have he_ := wrapI ((IntKind.i64.wrap ((IntKind.i64.wrap (shrI .u64 (IntKind.u64.wrap (IntKind.i64.wrap (a + b))) 1)) + m)) - start) (by omega); have hlt_ := of_decide_eq_true ‹decide ((IntKind.i64.wrap (shrI .u64 (IntKind.u64.wrap (IntKind.i64.wrap (a + b))) 1)) < IntKind.i64.wrap ((IntKind.i64.wrap ((IntKind.i64.wrap (shrI .u64 (IntKind.u64.wrap (IntKind.i64.wrap (a + b))) 1)) + m)) - start)) = true›; have hgt_ := of_decide_eq_true ‹decide (IntKind.i64.wrap ((IntKind.i64.wrap ((IntKind.i64.wrap (shrI .u64 (IntKind.u64.wrap (IntKind.i64.wrap (a + b))) 1)) + m)) - start) < b) = true›; omega) (by have he_ := wrapI ((IntKind.i64.wrap ((IntKind.i64.wrap (shrI .u64 (IntKind.u64.wrap (IntKind.i64.wrap (a + b))) 1)) + m)) - start) (by omega); have hlt_ := of_decide_eq_true ‹decide ((IntKind.i64.wrap (shrI .u64 (IntKind.u64.wrap (IntKind.i64.wrap (a + b))) 1)) < IntKind.i64.wrap ((IntKind.i64.wrap ((IntKind.i64.wrap (shrI .u64 (IntKind.u64.wrap (IntKind.i64.wrap (a + b))) 1)) + m)) - start)) = true›; have hgt_ := of_decide_eq_true ‹decide (IntKind.i64.wrap ((IntKind.i64.wrap ((IntKind.i64.wrap (shrI .u64 (IntKind.u64.wrap (IntKind.i64.wrap (a + b))) 1)) + m)) - start) < b) = true›; omega) (by first | exact List.Perm.refl _ | exact rotate_perm (by have he_ := wrapI ((IntKind.i64.wrap ((IntKind.i64.wrap (shrI .u64 (IntKind.u64.wrap (IntKind.i64.wrap (a + b))) 1)) + m)) - start) (by omega); have hlt_ := of_decide_eq_true ‹decide (start < m) = true›; have hgt_ := of_decide_eq_true ‹decide (m < IntKind.i64.wrap ((IntKind.i64.wrap ((IntKind.i64.wrap (shrI .u64 (IntKind.u64.wrap (IntKind.i64.wrap (a + b))) 1)) + m)) - start)) = true›; omega) hL | exact hrp _ _ _ _ _ (by have he_ := wrapI ((IntKind.i64.wrap ((IntKind.i64.wrap (shrI .u64 (IntKind.u64.wrap (IntKind.i64.wrap (a + b))) 1)) + m)) - start) (by omega); have hlt_ := of_decide_eq_true ‹decide (a < start) = true›; have hgt_ := of_decide_eq_true ‹decide (start < (IntKind.i64.wrap (shrI .u64 (IntKind.u64.wrap (IntKind.i64.wrap (a + b))) 1))) = true›; omega) (by have he_ := wrapI ((IntKind.i64.wrap ((IntKind.i64.wrap (shrI .u64 (IntKind.u64.wrap (IntKind.i64.wrap (a + b))) 1)) + m)) - start) (by omega); have hlt_ := of_decide_eq_true ‹decide (a < start) = true›; have hgt_ := of_decide_eq_true ‹decide (start < (IntKind.i64.wrap (shrI .u64 (IntKind.u64.wrap (IntKind.i64.wrap (a + b))) 1))) = true›; omega) (List.Perm.refl _) | exact hrp _ _ _ _ _ (by have he_ := wrapI ((IntKind.i64.wrap ((IntKind.i64.wrap (shrI .u64 (IntKind.u64.wrap (IntKind.i64.wrap (a + b))) 1)) + m)) - start) (by omega); have hlt_ := of_decide_eq_true ‹decide (a < start) = true›; have hgt_ := of_decide_eq_true ‹decide (start < (IntKind.i64.wrap (shrI .u64 (IntKind.u64.wrap (IntKind.i64.wrap (a + b))) 1))) = true›; omega) (by have he_ := wrapI ((IntKind.i64.wrap ((IntKind.i64.wrap (shrI .u64 (IntKind.u64.wrap (IntKind.i64.wrap (a + b))) 1)) + m)) - start) (by omega); have hlt_ := of_decide_eq_true ‹decide (a < start) = true›; have hgt_ := of_decide_eq_true ‹decide (start < (IntKind.i64.wrap (shrI .u64 (IntKind.u64.wrap (IntKind.i64.wrap (a + b))) 1))) = true›; omega) (rotate_perm (by have he_ := wrapI ((IntKind.i64.wrap ((IntKind.i64.wrap (shrI .u64 (IntKind.u64.wrap (IntKind.i64.wrap (a + b))) 1)) + m)) - start) (by omega); have hlt_ := of_decide_eq_true ‹decide (start < m) = true›; have hgt_ := of_decide_eq_true ‹decide (m < IntKind.i64.wrap ((IntKind.i64.wrap ((IntKind.i64.wrap (shrI .u64 (IntKind.u64.wrap (IntKind.i64.wrap (a + b))) 1)) + m)) - start)) = true›; omega) hL))) (by have hl_ : (rotate data start m (IntKind.i64.wrap ((IntKind.i64.wrap ((IntKind.i64.wrap (shrI .u64 (IntKind.u64.wrap (IntKind.i64.wrap (a + b))) 1)) + m)) - start)) cmp).length = data.length := (List.Perm.length_eq (by first | exact List.Perm.refl _ | exact rotate_perm (by have he_ := wrapI ((IntKind.i64.wrap ((IntKind.i64.wrap (shrI .u64 (IntKind.u64.wrap (IntKind.i64.wrap (a + b))) 1)) + m)) - start) (by omega); have hlt_ := of_decide_eq_true ‹decide (start < m) = true›; have hgt_ := of_decide_eq_true ‹decide (m < IntKind.i64.wrap ((IntKind.i64.wrap ((IntKind.i64.wrap (shrI .u64 (IntKind.u64.wrap (IntKind.i64.wrap (a + b))) 1)) + m)) - start)) = true›; omega) hL | exact hrp _ _ _ _ _ (by have he_ := wrapI ((IntKind.i64.wrap ((IntKind.i64.wrap (shrI .u64 (IntKind.u64.wrap (IntKind.i64.wrap (a + b))) 1)) + m)) - start) (by omega); have hlt_ := of_decide_eq_true ‹decide (a < start) = true›; have hgt_ := of_decide_eq_true ‹decide (start < (IntKind.i64.wrap (shrI .u64 (IntKind.u64.wrap (IntKind.i64.wrap (a + b))) 1))) = true›; omega) (by have he_ := wrapI ((IntKind.i64.wrap ((IntKind.i64.wrap (shrI .u64 (IntKind.u64.wrap (IntKind.i64.wrap (a + b))) 1)) + m)) - start) (by omega); have hlt_ := of_decide_eq_true ‹decide (a < start) = true›; have hgt_ := of_decide_eq_true ‹decide (start < (IntKind.i64.wrap (shrI .u64 (IntKind.u64.wrap (IntKind.i64.wrap (a + b))) 1))) = true›; omega) (List.Perm.refl _) | exact hrp _ _ _ _ _ (by have he_ := wrapI ((IntKind.i64.wrap ((IntKind.i64.wrap (shrI .u64 (IntKind.u64.wrap (IntKind.i64.wrap (a + b))) 1)) + m)) - start) (by omega); have hlt_ := of_decide_eq_true ‹decide (a < start) = true›; have hgt_ := of_decide_eq_true ‹decide (start < (IntKind.i64.wrap (shrI .u64 (IntKind.u64.wrap (IntKind.i64.wrap (a + b))) 1))) = true›; omega) (by have he_ := wrapI ((IntKind.i64.wrap ((IntKind.i64.wrap (shrI .u64 (IntKind.u64.wrap (IntKind.i64.wrap (a + b))) 1)) + m)) - start) (by omega); have hlt_ := of_decide_eq_true ‹decide (a < start) = true›; have hgt_ := of_decide_eq_true ‹decide (start < (IntKind.i64.wrap (shrI .u64 (IntKind.u64.wrap (IntKind.i64.wrap (a + b))) 1))) = true›; omega) (rotate_perm (by have he_ := wrapI ((IntKind.i64.wrap ((IntKind.i64.wrap (shrI .u64 (IntKind.u64.wrap (IntKind.i64.wrap (a + b))) 1)) + m)) - start) (by omega); have hlt_ := of_decide_eq_true ‹decide (start < m) = true›; have hgt_ := of_decide_eq_true ‹decide (m < IntKind.i64.wrap ((IntKind.i64.wrap ((IntKind.i64.wrap (shrI .u64 (IntKind.u64.wrap (IntKind.i64.wrap (a + b))) 1)) + m)) - start)) = true›; omega) hL))); simp only [AV.renL, AV.ren, hl_, AV.renL_none _ hw4]) rfl ?_)
          refine rvc_nil ?_
          subst hR
          exact ⟨.inr rfl, rfl, rfl⟩
         ·
          replace hR := of_false h49 hR
          refine Awp.skip ?_
          subst hR
          exact ⟨.inr rfl, rfl, rfl⟩
        ·
         replace hR := of_false h48 hR
         refine rvS ?_
         refine rvS ?_
         refine rvS ?_
         refine rvP C (.pv (.lit (.bool false))) ?_
         refine rvc_nil ?_
         refine Awp.condF (b := false) rfl rfl ?_
         refine Awp.skip ?_
         subst hR
         exact ⟨.inr rfl, rfl, rfl⟩
      ·
       replace hR := of_false h41 hR
       refine Awp.skip ?_
       refine Awp.seq ?_
       refine Awp.consP C ?_
       refine rvP C (.pv (.lit (.int .i64 a))) ?_
       refine rvP C (.pv (.lit (.int .i64 start))) ?_
       refine rvP C (.pv (.lit (.bool (decide (a < start))))) ?_
       refine rvP C (.pv (.lit (.bool (decide (a < start))))) ?_
       refine rvc_case 195 (decide (a < start)) rfl (fun h50 => ?_) (fun h50 => ?_)
       ·
        replace hR := of_true h50 hR
        refine rvO C (.pv (.lit (.int .i64 start))) ?_
        refine rvO C (.pv (.lit (.int .i64 (IntKind.i64.wrap (shrI .u64 (IntKind.u64.wrap (IntKind.i64.wrap (a + b))) 1))))) ?_
        refine rvO C (.pv (.lit (.bool (decide (start < (IntKind.i64.wrap (shrI .u64 (IntKind.u64.wrap (IntKind.i64.wrap (a + b))) 1))))))) ?_
        refine rvP C (.pv (.lit (.bool (decide (start < (IntKind.i64.wrap (shrI .u64 (IntKind.u64.wrap (IntKind.i64.wrap (a + b))) 1))))))) ?_
        refine rvc_nil ?_
        refine Awp.cond (b := (decide (start < (IntKind.i64.wrap (shrI .u64 (IntKind.u64.wrap (IntKind.i64.wrap (a + b))) 1))))) rfl (fun h51 => ?_) (fun h51 => ?_)
        ·
         replace hR := of_true h51 hR
         refine Awp.region C (fun _ => .writer) (by kernel_rfl) ?_
         refine rvP C (.sl 0 0 data.length 1 false) ?_
         refine rvP C (.pv (.lit (.int .i64 a))) ?_
         refine rvP C (.pv (.lit (.int .i64 start))) ?_
         refine rvP C (.pv (.lit (.int .i64 (IntKind.i64.wrap (shrI .u64 (IntKind.u64.wrap (IntKind.i64.wrap (a + b))) 1))))) ?_
         refine rvP C (.fn g4 [] caps4) ?_
         refine rvc_un (rexec_callM hP C (b := 0) rfl rfl rfl (hrec data a start (IntKind.i64.wrap (shrI .u64 (IntKind.u64.wrap (IntKind.i64.wrap (a + b))) 1)) cmp g4 caps4 hp4 hw4 (by have he_ := wrapI ((IntKind.i64.wrap ((IntKind.i64.wrap (shrI .u64 (IntKind.u64.wrap (IntKind.i64.wrap (a + b))) 1)) + m)) - start) (by omega); have hlt_ := of_decide_eq_true ‹decide (a < start) = true›; have hgt_ := of_decide_eq_true ‹decide (start < (IntKind.i64.wrap (shrI .u64 (IntKind.u64.wrap (IntKind.i64.wrap (a + b))) 1))) = true›; omega) (by have he_ := wrapI ((IntKind.i64.wrap ((IntKind.i64.wrap (shrI .u64 (IntKind.u64.wrap (IntKind.i64.wrap (a + b))) 1)) + m)) - start) (by omega); have hlt_ := of_decide_eq_true ‹decide (a < start) = true›; have hgt_ := of_decide_eq_true ‹decide (start < (IntKind.i64.wrap (shrI .u64 (IntKind.u64.wrap (IntKind.i64.wrap (a + b))) 1))) = true›; omega) (by first | exact List.Perm.refl _ | exact rotate_perm (by have he_ := wrapI ((IntKind.i64.wrap ((IntKind.i64.wrap (shrI .u64 (IntKind.u64.wrap (IntKind.i64.wrap (a + b))) 1)) + m)) - start) (by omega); have hlt_ := of_decide_eq_true ‹decide (start < m) = true›; have hgt_ := of_decide_eq_true ‹decide (m < IntKind.i64.wrap ((IntKind.i64.wrap ((IntKind.i64.wrap (shrI .u64 (IntKind.u64.wrap (IntKind.i64.wrap (a + b))) 1)) + m)) - start)) = true›; omega) hL)) (by simp only [AV.renL, AV.ren, AV.renL_none _ hw4]) rfl ?_)
         refine rvc_nil ?_
         refine Awp.consP C ?_
         refine rvP C (.pv (.lit (.int .i64 (IntKind.i64.wrap (shrI .u64 (IntKind.u64.wrap (IntKind.i64.wrap (a + b))) 1))))) ?_
         refine rvP C (.pv (.lit (.int .i64 (IntKind.i64.wrap ((IntKind.i64.wrap ((IntKind.i64.wrap (shrI .u64 (IntKind.u64.wrap (IntKind.i64.wrap (a + b))) 1)) + m)) - start))))) ?_
         refine rvP C (.pv (.lit (.bool (decide ((IntKind.i64.wrap (shrI .u64 (IntKind.u64.wrap (IntKind.i64.wrap (a + b))) 1)) < (IntKind.i64.wrap ((IntKind.i64.wrap ((IntKind.i64.wrap (shrI .u64 (IntKind.u64.wrap (IntKind.i64.wrap (a + b))) 1)) + m)) - start))))))) ?_
         refine rvP C (.pv (.lit (.bool (decide ((IntKind.i64.wrap (shrI .u64 (IntKind.u64.wrap (IntKind.i64.wrap (a + b))) 1)) < (IntKind.i64.wrap ((IntKind.i64.wrap ((IntKind.i64.wrap (shrI .u64 (IntKind.u64.wrap (IntKind.i64.wrap (a + b))) 1)) + m)) - start))))))) ?_
         refine rvc_case 209 (decide ((IntKind.i64.wrap (shrI .u64 (IntKind.u64.wrap (IntKind.i64.wrap (a + b))) 1)) < (IntKind.i64.wrap ((IntKind.i64.wrap ((IntKind.i64.wrap (shrI .u64 (IntKind.u64.wrap (IntKind.i64.wrap (a + b))) 1)) + m)) - start)))) rfl (fun h52 => ?_) (fun h52 => ?_)
         ·
          replace hR := of_true h52 hR
          refine rvO C (.pv (.lit (.int .i64 (IntKind.i64.wrap ((IntKind.i64.wrap ((IntKind.i64.wrap (shrI .u64 (IntKind.u64.wrap (IntKind.i64.wrap (a + b))) 1)) + m)) - start))))) ?_
          refine rvO C (.pv (.lit (.int .i64 b))) ?_
          refine rvO C (.pv (.lit (.bool (decide ((IntKind.i64.wrap ((IntKind.i64.wrap ((IntKind.i64.wrap (shrI .u64 (IntKind.u64.wrap (IntKind.i64.wrap (a + b))) 1)) + m)) - start)) < b))))) ?_
          refine rvP C (.pv (.lit (.bool (decide ((IntKind.i64.wrap ((IntKind.i64.wrap ((IntKind.i64.wrap (shrI .u64 (IntKind.u64.wrap (IntKind.i64.wrap (a + b))) 1)) + m)) - start)) < b))))) ?_
          refine rvc_nil ?_
          refine Awp.cond (b := (decide ((IntKind.i64.wrap ((IntKind.i64.wrap ((IntKind.i64.wrap (shrI .u64 (IntKind.u64.wrap (IntKind.i64.wrap (a + b))) 1)) + m)) - start)) < b))) rfl (fun h53 => ?_) (fun h53 => ?_)
          ·
           replace hR := of_true h53 hR
           refine Awp.region C (fun _ => .writer) (by kernel_rfl) ?_
           refine rvP C (.sl 0 0 data.length 1 false) ?_
           refine rvP C (.pv (.lit (.int .i64 (IntKind.i64.wrap (shrI .u64 (IntKind.u64.wrap (IntKind.i64.wrap (a + b))) 1))))) ?_
           refine rvP C (.pv (.lit (.int .i64 (IntKind.i64.wrap ((IntKind.i64.wrap ((IntKind.i64.wrap (shrI .u64 (IntKind.u64.wrap (IntKind.i64.wrap (a + b))) 1)) + m)) - start))))) ?_
           refine rvP C (.pv (.lit (.int .i64 b))) ?_
           refine rvP C (.fn g4 [] caps4) ?_
           refine rvc_un (rexec_callM hP C (b := 0) rfl rfl rfl (hrec (rec data a start (IntKind.i64.wrap (shrI .u64 (IntKind.u64.wrap (IntKind.i64.wrap (a + b))) 1)) cmp) (IntKind.i64.wrap (shrI .u64 (IntKind.u64.wrap (IntKind.i64.wrap (a + b))) 1)) (IntKind.i64.wrap ((IntKind.i64.wrap ((IntKind.i64.wrap (shrI .u64 (IntKind.u64.wrap (IntKind.i64.wrap (a + b))) 1)) + m)) - start)) b cmp g4 caps4 hp4 hw4 (by have he_ := wrapI ((IntKind.i64.wrap ((IntKind.i64.wrap (shrI .u64 (IntKind.u64.wrap (IntKind.i64.wrap (a + b))) 1)) + m)) - start) (by omega); have hlt_ := of_decide_eq_true ‹decide ((IntKind.i64.wrap (shrI .u64 (IntKind.u64.wrap (IntKind.i64.wrap (a + b))) 1)) < IntKind.i64.wrap ((IntKind.i64.wrap ((IntKind.i64.wrap (shrI .u64 (IntKind.u64.wrap (IntKind.i64.wrap (a + b))) 1)) + m)) - start)) = true›; have hgt_ := of_decide_eq_true ‹decide (IntKind.i64.wrap ((IntKind.i64.wrap ((IntKind.i64.wrap (shrI .u64 (IntKind.u64.wrap (IntKind.i64.wrap (a + b))) 1)) + m)) - start) < b) = true›; omega) (by have he_ := wrapI ((IntKind.i64.wrap ((IntKind.i64.wrap (shrI .u64 (IntKind.u64.wrap (IntKind.i64.wrap (a + b))) 1)) + m)) - start) (by omega); have hlt_ := of_decide_eq_true ‹decide ((IntKind.i64.wrap (shrI .u64 (IntKind.u64.wrap (IntKind.i64.wrap (a + b))) 1)) < IntKind.i64.wrap ((IntKind.i64.wrap ((IntKind.i64.wrap (shrI .u64 (IntKind.u64.wrap (IntKind.i64.wrap (a + b))) 1)) + m)) - start)) = true›; have hgt_ := of_decide_eq_true ‹decide (IntKind.i64.wrap ((IntKind.i64.wrap ((IntKind.i64.wrap (shrI .u64 (IntKind.u64.wrap (IntKind.i64.wrap (a + b))) 1)) + m)) - start) < b) = true›; omega) (by first | exact List.Perm.refl _ | exact rotate_perm (by have he_ := wrapI ((IntKind.i64.wrap ((IntKind.i64.wrap (shrI .u64 (IntKind.u64.wrap (IntKind.i64.wrap (a + b))) 1)) + m)) - start) (by omega); have hlt_ := of_decide_eq_true ‹decide (start < m) = true›; have hgt_ := of_decide_eq_true ‹decide (m < IntKind.i64.wrap ((IntKind.i64.wrap ((IntKind.i64.wrap (shrI .u64 (IntKind.u64.wrap (IntKind.i64.wrap (a + b))) 1)) + m)) - start)) = true›; omega) hL | exact hrp _ _ _ _ _ (by have he_ := wrapI ((IntKind.i64.wrap ((IntKind.i64.wrap (shrI .u64 (IntKind.u64.wrap (IntKind.i64.wrap (a + b))) 1)) + m)) - start) (by omega); have hlt_ := of_decide_eq_true ‹decide (a < start) = true›; have hgt_ := of_decide_eq_true ‹decide (start < (IntKind.i64.wrap (shrI .u64 (IntKind.u64.wrap (IntKind.i64.wrap (a + b))) 1))) = true›; omega) (by have he_ := wrapI ((IntKind.i64.wrap ((IntKind.i64.wrap (shrI .u64 (IntKind.u64.wrap (IntKind.i64.wrap (a + b))) 1)) + m)) - start) (by omega); have hlt_ := of_decide_eq_true ‹decide (a < start) = true›; have hgt_ := of_decide_eq_true ‹decide (start < (IntKind.i64.wrap (shrI .u64 (IntKind.u64.wrap (IntKind.i64.wrap (a + b))) 1))) = true›; omega) (List.Perm.refl _) | exact hrp _ _ _ _ _ (by have he_ := wrapI ((IntKind.i64.wrap ((IntKind.i64.wrap (shrI .u64 (IntKind.u64.wrap (IntKind.i64.wrap (a + b))) 1)) + m)) - start) (by omega); have hlt_ := of_decide_eq_true ‹decide (a < start) = true›; have hgt_ := of_decide_eq_true ‹decide (start < (IntKind.i64.wrap (shrI .u64 (IntKind.u64.wrap (IntKind.i64.wrap (a + b))) 1))) = true›; omega) (by have he_ := wrapI ((IntKind.i64.wrap ((IntKind.i64.wrap (shrI .u64 (IntKind.u64.wrap (IntKind.i64.wrap (a + b))) 1)) + m)) - start) (by omega); have hlt_ := of_decide_eq_true ‹decide (a < start) = true›; have hgt_ := of_decide_eq_true ‹decide (start < (IntKind.i64.wrap (shrI .u64 (IntKind.u64.wrap (IntKind.i64.wrap (a + b))) 1))) = true›; omega) (rotate_perm (by have he_ := wrapI ((IntKind.i64.wrap ((IntKind.i64.wrap (shrI .u64 (IntKind.u64.wrap (IntKind.i64.wrap (a + b))) 1)) + m)) - start) (by omega); have hlt_ := of_decide_eq_true ‹decide (start < m) = true›; have hgt_ := of_decide_eq_true ‹decide (m < IntKind.i64.wrap ((IntKind.i64.wrap ((IntKind.i64.wrap (shrI .u64 (IntKind.u64.wrap (IntKind.i64.wrap (a + b))) 1)) + m)) - start)) = true›; omega) hL))) (by have hl_ : (rec data a start (IntKind.i64.wrap (shrI .u64 (IntKind.u64.wrap (IntKind.i64.wrap (a + b))) 1)) cmp).length = data.length := (List.Perm.length_eq (by first | exact List.Perm.refl _ | exact rotate_perm (by have he_ := wrapI ((IntKind.i64.wrap ((IntKind.i64.wrap (shrI .u64 (IntKind.u64.wrap (IntKind.i64.wrap (a + b))) 1)) + m)) - start) (by omega); have hlt_ := of_decide_eq_true ‹decide (start < m) = true›; have hgt_ := of_decide_eq_true ‹decide (m < IntKind.i64.wrap ((IntKind.i64.wrap ((IntKind.i64.wrap (shrI .u64 (IntKind.u64.wrap (IntKind.i64.wrap (a + b))) 1)) + m)) - start)) = true›; omega) hL | exact hrp _ _ _ _ _ (by have he_ := wrapI ((IntKind.i64.wrap ((IntKind.i64.wrap (shrI .u64 (IntKind.u64.wrap (IntKind.i64.wrap (a + b))) 1)) + m)) - start) (by omega); have hlt_ := of_decide_eq_true ‹decide (a < start) = true›; have hgt_ := of_decide_eq_true ‹decide (start < (IntKind.i64.wrap (shrI .u64 (IntKind.u64.wrap (IntKind.i64.wrap (a + b))) 1))) = true›; omega) (by have he_ := wrapI ((IntKind.i64.wrap ((IntKind.i64.wrap (shrI .u64 (IntKind.u64.wrap (IntKind.i64.wrap (a + b))) 1)) + m)) - start) (by omega); have hlt_ := of_decide_eq_true ‹decide (a < start) = true›; have hgt_ := of_decide_eq_true ‹decide (start < (IntKind.i64.wrap (shrI .u64 (IntKind.u64.wrap (IntKind.i64.wrap (a + b))) 1))) = true›; omega) (List.Perm.refl _) | exact hrp _ _ _ _ _ (by have he_ := wrapI ((IntKind.i64.wrap ((IntKind.i64.wrap (shrI .u64 (IntKind.u64.wrap (IntKind.i64.wrap (a + b))) 1)) + m)) - start) (by omega); have hlt_ := of_decide_eq_true ‹decide (a < start) = true›; have hgt_ := of_decide_eq_true ‹decide (start < (IntKind.i64.wrap (shrI .u64 (IntKind.u64.wrap (IntKind.i64.wrap (a + b))) 1))) = true›; omega) (by have he_ := wrapI ((IntKind.i64.wrap ((IntKind.i64.wrap (shrI .u64 (IntKind.u64.wrap (IntKind.i64.wrap (a + b))) 1)) + m)) - start) (by omega); have hlt_ := of_decide_eq_true ‹decide (a < start) = true›; have hgt_ := of_decide_eq_true ‹decide (start < (IntKind.i64.wrap (shrI .u64 (IntKind.u64.wrap (IntKind.i64.wrap (a + b))) 1))) = true›; omega) (rotate_perm (by have he_ := wrapI ((IntKind.i64.wrap ((IntKind.i64.wrap (shrI .u64 (IntKind.u64.wrap (IntKind.i64.wrap (a + b))) 1)) + m)) - start) (by omega); have hlt_ := of_decide_eq_true ‹decide (start < m) = true›; have hgt_ := of_decide_eq_true ‹decide (m < IntKind.i64.wrap ((IntKind.i64.wrap ((IntKind.i64.wrap (shrI .u64 (IntKind.u64.wrap (IntKind.i64.wrap (a + b))) 1)) + m)) - start)) = true›; omega) hL))); simp only [AV.renL, AV.ren, hl_, AV.renL_none _ hw4]) rfl ?_)
           refine rvc_nil ?_
           subst hR
           exact ⟨.inr rfl, rfl, rfl⟩
          ·
           replace hR := of_false h53 hR
           refine Awp.skip ?_
           subst hR
           exact ⟨.inr rfl, rfl, rfl⟩
         ·
          replace hR := of_false h52 hR
          refine rvS ?_
          refine rvS ?_
          refine rvS ?_
          refine rvP C (.pv (.lit (.bool false))) ?_
          refine rvc_nil ?_
          refine Awp.condF (b := false) rfl rfl ?_
          refine Awp.skip ?_
          subst hR
          exact ⟨.inr rfl, rfl, rfl⟩
        ·
         replace hR := of_false h51 hR
         refine Awp.skip ?_
         refine Awp.consP C ?_
         refine rvP C (.pv (.lit (.int .i64 (IntKind.i64.wrap (shrI .u64 (IntKind.u64.wrap (IntKind.i64.wrap (a + b))) 1))))) ?_
         refine rvP C (.pv (.lit (.int .i64 (IntKind.i64.wrap ((IntKind.i64.wrap ((IntKind.i64.wrap (shrI .u64 (IntKind.u64.wrap (IntKind.i64.wrap (a + b))) 1)) + m)) - start))))) ?_
         refine rvP C (.pv (.lit (.bool (decide ((IntKind.i64.wrap (shrI .u64 (IntKind.u64.wrap (IntKind.i64.wrap (a + b))) 1)) < (IntKind.i64.wrap ((IntKind.i64.wrap ((IntKind.i64.wrap (shrI .u64 (IntKind.u64.wrap (IntKind.i64.wrap (a + b))) 1)) + m)) - start))))))) ?_
         refine rvP C (.pv (.lit (.bool (decide ((IntKind.i64.wrap (shrI .u64 (IntKind.u64.wrap (IntKind.i64.wrap (a + b))) 1)) < (IntKind.i64.wrap ((IntKind.i64.wrap ((IntKind.i64.wrap (shrI .u64 (IntKind.u64.wrap (IntKind.i64.wrap (a + b))) 1)) + m)) - start))))))) ?_
         refine rvc_case 209 (decide ((IntKind.i64.wrap (shrI .u64 (IntKind.u64.wrap (IntKind.i64.wrap (a + b))) 1)) < (IntKind.i64.wrap ((IntKind.i64.wrap ((IntKind.i64.wrap (shrI .u64 (IntKind.u64.wrap (IntKind.i64.wrap (a + b))) 1)) + m)) - start)))) rfl (fun h54 => ?_) (fun h54 => ?_)
         ·
          replace hR := of_true h54 hR
          refine rvO C (.pv (.lit (.int .i64 (IntKind.i64.wrap ((IntKind.i64.wrap ((IntKind.i64.wrap (shrI .u64 (IntKind.u64.wrap (IntKind.i64.wrap (a + b))) 1)) + m)) - start))))) ?_
          refine rvO C (.pv (.lit (.int .i64 b))) ?_
          refine rvO C (.pv (.lit (.bool (decide ((IntKind.i64.wrap ((IntKind.i64.wrap ((IntKind.i64.wrap (shrI .u64 (IntKind.u64.wrap (IntKind.i64.wrap (a + b))) 1)) + m)) - start)) < b))))) ?_
          refine rvP C (.pv (.lit (.bool (decide ((IntKind.i64.wrap ((IntKind.i64.wrap ((IntKind.i64.wrap (shrI .u64 (IntKind.u64.wrap (IntKind.i64.wrap (a + b))) 1)) + m)) - start)) < b))))) ?_
          refine rvc_nil ?_
          refine Awp.cond (b := (decide ((IntKind.i64.wrap ((IntKind.i64.wrap ((IntKind.i64.wrap (shrI .u64 (IntKind.u64.wrap (IntKind.i64.wrap (a + b))) 1)) + m)) - start)) < b))) rfl (fun h55 => ?_) (fun h55 => ?_)
          ·
           replace hR := of_true h55 hR
           refine Awp.region C (fun _ => .writer) (by kernel_rfl) ?_
           refine rvP C (.sl 0 0 data.length 1 false) ?_
           refine rvP C (.pv (.lit (.int .i64 (IntKind.i64.wrap (shrI .u64 (IntKind.u64.wrap (IntKind.i64.wrap (a + b))) 1))))) ?_
           refine rvP C (.pv (.lit (.int .i64 (IntKind.i64.wrap ((IntKind.i64.wrap ((IntKind.i64.wrap (shrI .u64 (IntKind.u64.wrap (IntKind.i64.wrap (a + b))) 1)) + m)) - start))))) ?_
           refine rvP C (.pv (.lit (.int .i64 b))) ?_
           refine rvP C (.fn g4 [] caps4) ?_
           refine rvc_un (rexec_callM hP C (b := 0) rfl rfl rfl (hrec data (IntKind.i64.wrap (shrI .u64 (IntKind.u64.wrap (IntKind.i64.wrap (a + b))) 1)) (IntKind.i64.wrap ((IntKind.i64.wrap ((IntKind.i64.wrap (shrI .u64 (IntKind.u64.wrap (IntKind.i64.wrap (a + b))) 1)) + m)) - start)) b cmp g4 caps4 hp4 hw4 (by have he_ := wrapI ((IntKind.i64.wrap ((IntKind.i64.wrap (shrI .u64 (IntKind.u64.wrap (IntKind.i64.wrap (a + b))) 1)) + m)) - start) (by omega); have hlt_ := of_decide_eq_true ‹decide ((IntKind.i64.wrap (shrI .u64 (IntKind.u64.wrap (IntKind.i64.wrap (a + b))) 1)) < IntKind.i64.wrap ((IntKind.i64.wrap ((IntKind.i64.wrap (shrI .u64 (IntKind.u64.wrap (IntKind.i64.wrap (a + b))) 1)) + m)) - start)) = true›; have hgt_ := of_decide_eq_true ‹decide (IntKind.i64.wrap ((IntKind.i64.wrap ((IntKind.i64.wrap (shrI .u64 (IntKind.u64.wrap (IntKind.i64.wrap (a + b))) 1)) + m)) - start) < b) = true›; omega) (by have he_ := wrapI ((IntKind.i64.wrap ((IntKind.i64.wrap (shrI .u64 (IntKind.u64.wrap (IntKind.i64.wrap (a + b))) 1)) + m)) - start) (by omega); have hlt_ := of_decide_eq_true ‹decide ((IntKind.i64.wrap (shrI .u64 (IntKind.u64.wrap (IntKind.i64.wrap (a + b))) 1)) < IntKind.i64.wrap ((IntKind.i64.wrap ((IntKind.i64.wrap (shrI .u64 (IntKind.u64.wrap (IntKind.i64.wrap (a + b))) 1)) + m)) - start)) = true›; have hgt_ := of_decide_eq_true ‹decide (IntKind.i64.wrap ((IntKind.i64.wrap ((IntKind.i64.wrap (shrI .u64 (IntKind.u64.wrap (IntKind.i64.wrap (a + b))) 1)) + m)) - start) < b) = true›; omega) (by first | exact List.Perm.refl _ | exact rotate_perm (by have he_ := wrapI ((IntKind.i64.wrap ((IntKind.i64.wrap (shrI .u64 (IntKind.u64.wrap (IntKind.i64.wrap (a + b))) 1)) + m)) - start) (by omega); have hlt_ := of_decide_eq_true ‹decide (start < m) = true›; have hgt_ := of_decide_eq_true ‹decide (m < IntKind.i64.wrap ((IntKind.i64.wrap ((IntKind.i64.wrap (shrI .u64 (IntKind.u64.wrap (IntKind.i64.wrap (a + b))) 1)) + m)) - start)) = true›; omega) hL | exact hrp _ _ _ _ _ (by have he_ := wrapI ((IntKind.i64.wrap ((IntKind.i64.wrap (shrI .u64 (IntKind.u64.wrap (IntKind.i64.wrap (a + b))) 1)) + m)) - start) (by omega); have hlt_ := of_decide_eq_true ‹decide (a < start) = true›; have hgt_ := of_decide_eq_true ‹decide (start < (IntKind.i64.wrap (shrI .u64 (IntKind.u64.wrap (IntKind.i64.wrap (a + b))) 1))) = true›; omega) (by have he_ := wrapI ((IntKind.i64.wrap ((IntKind.i64.wrap (shrI .u64 (IntKind.u64.wrap (IntKind.i64.wrap (a + b))) 1)) + m)) - start) (by omega); have hlt_ := of_decide_eq_true ‹decide (a < start) = true›; have hgt_ := of_decide_eq_true ‹decide (start < (IntKind.i64.wrap (shrI .u64 (IntKind.u64.wrap (IntKind.i64.wrap (a + b))) 1))) = true›; omega) (List.Perm.refl _) | exact hrp _ _ _ _ _ (by have he_ := wrapI ((IntKind.i64.wrap ((IntKind.i64.wrap (shrI .u64 (IntKind.u64.wrap (IntKind.i64.wrap (a + b))) 1)) + m)) - start) (by omega); have hlt_ := of_decide_eq_true ‹decide (a < start) = true›; have hgt_ := of_decide_eq_true ‹decide (start < (IntKind.i64.wrap (shrI .u64 (IntKind.u64.wrap (IntKind.i64.wrap (a + b))) 1))) = true›; omega) (by have he_ := wrapI ((IntKind.i64.wrap ((IntKind.i64.wrap (shrI .u64 (IntKind.u64.wrap (IntKind.i64.wrap (a + b))) 1)) + m)) - start) (by omega); have hlt_ := of_decide_eq_true ‹decide (a < start) = true›; have hgt_ := of_decide_eq_true ‹decide (start < (IntKind.i64.wrap (shrI .u64 (IntKind.u64.wrap (IntKind.i64.wrap (a + b))) 1))) = true›; omega) (rotate_perm (by have he_ := wrapI ((IntKind.i64.wrap ((IntKind.i64.wrap (shrI .u64 (IntKind.u64.wrap (IntKind.i64.wrap (a + b))) 1)) + m)) - start) (by omega); have hlt_ := of_decide_eq_true ‹decide (start < m) = true›; have hgt_ := of_decide_eq_true ‹decide (m < IntKind.i64.wrap ((IntKind.i64.wrap ((IntKind.i64.wrap (shrI .u64 (IntKind.u64.wrap (IntKind.i64.wrap (a + b))) 1)) + m)) - start)) = true›; omega) hL))) (by simp only [AV.renL, AV.ren, AV.renL_none _ hw4]) rfl ?_)
           refine rvc_nil ?_
           subst hR
           exact ⟨.inr rfl, rfl, rfl⟩
          ·
           replace hR := of_false h55 hR
           refine Awp.skip ?_
           subst hR
           exact ⟨.inr rfl, rfl, rfl⟩
         ·
          replace hR := of_false h54 hR
          refine rvS ?_
          refine rvS ?_
          refine rvS ?_
          refine rvP C (.pv (.lit (.bool false))) ?_
          refine rvc_nil ?_
          refine Awp.condF (b := false) rfl rfl ?_
          refine Awp.skip ?_
          subst hR
          exact ⟨.inr rfl, rfl, rfl⟩
       ·
        replace hR := of_false h50 hR
        refine rvS ?_
        refine rvS ?_
        refine rvS ?_
        refine rvP C (.pv (.lit (.bool false))) ?_
        refine rvc_nil ?_
        refine Awp.condF (b := false) rfl rfl ?_
        refine Awp.skip ?_
        refine Awp.consP C ?_
        refine rvP C (.pv (.lit (.int .i64 (IntKind.i64.wrap (shrI .u64 (IntKind.u64.wrap (IntKind.i64.wrap (a + b))) 1))))) ?_
        refine rvP C (.pv (.lit (.int .i64 (IntKind.i64.wrap ((IntKind.i64.wrap ((IntKind.i64.wrap (shrI .u64 (IntKind.u64.wrap (IntKind.i64.wrap (a + b))) 1)) + m)) - start))))) ?_
        refine rvP C (.pv (.lit (.bool (decide ((IntKind.i64.wrap (shrI .u64 (IntKind.u64.wrap (IntKind.i64.wrap (a + b))) 1)) < (IntKind.i64.wrap ((IntKind.i64.wrap ((IntKind.i64.wrap (shrI .u64 (IntKind.u64.wrap (IntKind.i64.wrap (a + b))) 1)) + m)) - start))))))) ?_
        refine rvP C (.pv (.lit (.bool (decide ((IntKind.i64.wrap (shrI .u64 (IntKind.u64.wrap (IntKind.i64.wrap (a + b))) 1)) < (IntKind.i64.wrap ((IntKind.i64.wrap ((IntKind.i64.wrap (shrI .u64 (IntKind.u64.wrap (IntKind.i64.wrap (a + b))) 1)) + m)) - start))))))) ?_
        refine rvc_case 209 (decide ((IntKind.i64.wrap (shrI .u64 (IntKind.u64.wrap (IntKind.i64.wrap (a + b))) 1)) < (IntKind.i64.wrap ((IntKind.i64.wrap ((IntKind.i64.wrap (shrI .u64 (IntKind.u64.wrap (IntKind.i64.wrap (a + b))) 1)) + m)) - start)))) rfl (fun h56 => ?_) (fun h56 => ?_)
        ·
         replace hR := of_true h56 hR
         refine rvO C (.pv (.lit (.int .i64 (IntKind.i64.wrap ((IntKind.i64.wrap ((IntKind.i64.wrap (shrI .u64 (IntKind.u64.wrap (IntKind.i64.wrap (a + b))) 1)) + m)) - start))))) ?_
         refine rvO C (.pv (.lit (.int .i64 b))) ?_
         refine rvO C (.pv (.lit (.bool (decide ((IntKind.i64.wrap ((IntKind.i64.wrap ((IntKind.i64.wrap (shrI .u64 (IntKind.u64.wrap (IntKind.i64.wrap (a + b))) 1)) + m)) - start)) < b))))) ?_
         refine rvP C (.pv (.lit (.bool (decide ((IntKind.i64.wrap ((IntKind.i64.wrap ((IntKind.i64.wrap (shrI .u64 (IntKind.u64.wrap (IntKind.i64.wrap (a + b))) 1)) + m)) - start)) < b))))) ?_
         refine rvc_nil ?_
         refine Awp.cond (b := (decide ((IntKind.i64.wrap ((IntKind.i64.wrap ((IntKind.i64.wrap (shrI .u64 (IntKind.u64.wrap (IntKind.i64.wrap (a + b))) 1)) + m)) - start)) < b))) rfl (fun h57 => ?_) (fun h57 => ?_)
         ·
          replace hR := of_true h57 hR
          refine Awp.region C (fun _ => .writer) (by kernel_rfl) ?_
          refine rvP C (.sl 0 0 data.length 1 false) ?_
          refine rvP C (.pv (.lit (.int .i64 (IntKind.i64.wrap (shrI .u64 (IntKind.u64.wrap (IntKind.i64.wrap (a + b))) 1))))) ?_
          refine rvP C (.pv (.lit (.int .i64 (IntKind.i64.wrap ((IntKind.i64.wrap ((IntKind.i64.wrap (shrI .u64 (IntKind.u64.wrap (IntKind.i64.wrap (a + b))) 1)) + m)) - start))))) ?_
          refine rvP C (.pv (.lit (.int .i64 b))) ?_
          refine rvP C (.fn g4 [] caps4) ?_
          refine rvc_un (rexec_callM hP C (b := 0) rfl rfl rfl (hrec data (IntKind.i64.wrap (shrI .u64 (IntKind.u64.wrap (IntKind.i64.wrap (a + b))) 1)) (IntKind.i64.wrap ((IntKind.i64.wrap ((IntKind.i64.wrap (shrI .u64 (IntKind.u64.wrap (IntKind.i64.wrap (a + b))) 1)) + m)) - start)) b cmp g4 caps4 hp4 hw4 (by have he_ := wrapI ((IntKind.i64.wrap ((IntKind.i64.wrap (shrI .u64 (IntKind.u64.wrap (IntKind.i64.wrap (a + b))) 1)) + m)) - start) (by omega); have hlt_ := of_decide_eq_true ‹decide ((IntKind.i64.wrap (shrI .u64 (IntKind.u64.wrap (IntKind.i64.wrap (a + b))) 1)) < IntKind.i64.wrap ((IntKind.i64.wrap ((IntKind.i64.wrap (shrI .u64 (IntKind.u64.wrap (IntKind.i64.wrap (a + b))) 1)) + m)) - start)) = true›; have hgt_ := of_decide_eq_true ‹decide (IntKind.i64.wrap ((IntKind.i64.wrap ((IntKind.i64.wrap (shrI .u64 (IntKind.u64.wrap (IntKind.i64.wrap (a + b))) 1)) + m)) - start) < b) = true›; omega) (by have he_ := wrapI ((IntKind.i64.wrap ((IntKind.i64.wrap (shrI .u64 (IntKind.u64.wrap (IntKind.i64.wrap (a + b))) 1)) + m)) - start) (by omega); have hlt_ := of_decide_eq_true ‹decide ((IntKind.i64.wrap (shrI .u64 (IntKind.u64.wrap (IntKind.i64.wrap (a + b))) 1)) < IntKind.i64.wrap ((IntKind.i64.wrap ((IntKind.i64.wrap (shrI .u64 (IntKind.u64.wrap (IntKind.i64.wrap (a + b))) 1)) + m)) - start)) = true›; have hgt_ := of_decide_eq_true ‹decide (IntKind.i64.wrap ((IntKind.i64.wrap ((IntKind.i64.wrap (shrI .u64 (IntKind.u64.wrap (IntKind.i64.wrap (a + b))) 1)) + m)) - start) < b) = true›; omega) (by first | exact List.Perm.refl _ | exact rotate_perm (by have he_ := wrapI ((IntKind.i64.wrap ((IntKind.i64.wrap (shrI .u64 (IntKind.u64.wrap (IntKind.i64.wrap (a + b))) 1)) + m)) - start) (by omega); have hlt_ := of_decide_eq_true ‹decide (start < m) = true›; have hgt_ := of_decide_eq_true ‹decide (m < IntKind.i64.wrap ((IntKind.i64.wrap ((IntKind.i64.wrap (shrI .u64 (IntKind.u64.wrap (IntKind.i64.wrap (a + b))) 1)) + m)) - start)) = true›; omega) hL | exact hrp _ _ _ _ _ (by have he_ := wrapI ((IntKind.i64.wrap ((IntKind.i64.wrap (shrI .u64 (IntKind.u64.wrap (IntKind.i64.wrap (a + b))) 1)) + m)) - start) (by omega); have hlt_ := of_decide_eq_true ‹decide (a < start) = true›; have hgt_ := of_decide_eq_true ‹decide (start < (IntKind.i64.wrap (shrI .u64 (IntKind.u64.wrap (IntKind.i64.wrap (a + b))) 1))) = true›; omega) (by have he_ := wrapI ((IntKind.i64.wrap ((IntKind.i64.wrap (shrI .u64 (IntKind.u64.wrap (IntKind.i64.wrap (a + b))) 1)) + m)) - start) (by omega); have hlt_ := of_decide_eq_true ‹decide (a < start) = true›; have hgt_ := of_decide_eq_true ‹decide (start < (IntKind.i64.wrap (shrI .u64 (IntKind.u64.wrap (IntKind.i64.wrap (a + b))) 1))) = true›; omega) (List.Perm.refl _) | exact hrp _ _ _ _ _ (by have he_ := wrapI ((IntKind.i64.wrap ((IntKind.i64.wrap (shrI .u64 (IntKind.u64.wrap (IntKind.i64.wrap (a + b))) 1)) + m)) - start) (by omega); have hlt_ := of_decide_eq_true ‹decide (a < start) = true›; have hgt_ := of_decide_eq_true ‹decide (start < (IntKind.i64.wrap (shrI .u64 (IntKind.u64.wrap (IntKind.i64.wrap (a + b))) 1))) = true›; omega) (by have he_ := wrapI ((IntKind.i64.wrap ((IntKind.i64.wrap (shrI .u64 (IntKind.u64.wrap (IntKind.i64.wrap (a + b))) 1)) + m)) - start) (by omega); have hlt_ := of_decide_eq_true ‹decide (a < start) = true›; have hgt_ := of_decide_eq_true ‹decide (start < (IntKind.i64.wrap (shrI .u64 (IntKind.u64.wrap (IntKind.i64.wrap (a + b))) 1))) = true›; omega) (rotate_perm (by have he_ := wrapI ((IntKind.i64.wrap ((IntKind.i64.wrap (shrI .u64 (IntKind.u64.wrap (IntKind.i64.wrap (a + b))) 1)) + m)) - start) (by omega); have hlt_ := of_decide_eq_true ‹decide (start < m) = true›; have hgt_ := of_decide_eq_true ‹decide (m < IntKind.i64.wrap ((IntKind.i64.wrap ((IntKind.i64.wrap (shrI .u64 (IntKind.u64.wrap (IntKind.i64.wrap (a + b))) 1)) + m)) - start)) = true›; omega) hL))) (by simp only [AV.renL, AV.ren, AV.renL_none _ hw4]) rfl ?_)
          refine rvc_nil ?_
          subst hR
          exact ⟨.inr rfl, rfl, rfl⟩
         ·
          replace hR := of_false h57 hR
          refine Awp.skip ?_
          subst hR
          exact ⟨.inr rfl, rfl, rfl⟩
        ·
         replace hR := of_false h56 hR
         refine rvS ?_
         refine rvS ?_
         refine rvS ?_
         refine rvP C (.pv (.lit (.bool false))) ?_
         refine rvc_nil ?_
         refine Awp.condF (b := false) rfl rfl ?_
         refine Awp.skip ?_
         subst hR
         exact ⟨.inr rfl, rfl, rfl⟩
     ·
      replace hR := of_false h40 hR
      refine rvS ?_
      refine rvS ?_
      refine rvS ?_
      refine rvP C (.pv (.lit (.bool false))) ?_
      refine rvc_nil ?_
      refine Awp.condF (b := false) rfl rfl ?_
      refine Awp.skip ?_
      refine Awp.seq ?_
      refine Awp.consP C ?_
      refine rvP C (.pv (.lit (.int .i64 a))) ?_
      refine rvP C (.pv (.lit (.int .i64 start))) ?_
      refine rvP C (.pv (.lit (.bool (decide (a < start))))) ?_
      refine rvP C (.pv (.lit (.bool (decide (a < start))))) ?_
      refine rvc_case 195 (decide (a < start)) rfl (fun h58 => ?_) (fun h58 => ?_)
      ·
       replace hR := of_true h58 hR
       refine rvO C (.pv (.lit (.int .i64 start))) ?_
       refine rvO C (.pv (.lit (.int .i64 (IntKind.i64.wrap (shrI .u64 (IntKind.u64.wrap (IntKind.i64.wrap (a + b))) 1))))) ?_
       refine rvO C (.pv (.lit (.bool (decide (start < (IntKind.i64.wrap (shrI .u64 (IntKind.u64.wrap (IntKind.i64.wrap (a + b))) 1))))))) ?_
       refine rvP C (.pv (.lit (.bool (decide (start < (IntKind.i64.wrap (shrI .u64 (IntKind.u64.wrap (IntKind.i64.wrap (a + b))) 1))))))) ?_
       refine rvc_nil ?_
       refine Awp.cond (b := (decide (start < (IntKind.i64.wrap (shrI .u64 (IntKind.u64.wrap (IntKind.i64.wrap (a + b))) 1))))) rfl (fun h59 => ?_) (fun h59 => ?_)
       ·
        replace hR := of_true h59 hR
        refine Awp.region C (fun _ => .writer) (by kernel_rfl) ?_
        refine rvP C (.sl 0 0 data.length 1 false) ?_
        refine rvP C (.pv (.lit (.int .i64 a))) ?_
        refine rvP C (.pv (.lit (.int .i64 start))) ?_
        refine rvP C (.pv (.lit (.int .i64 (IntKind.i64.wrap (shrI .u64 (IntKind.u64.wrap (IntKind.i64.wrap (a + b))) 1))))) ?_
        refine rvP C (.fn g4 [] caps4) ?_
        refine rvc_un (rexec_callM hP C (b := 0) rfl rfl rfl (hrec data a start (IntKind.i64.wrap (shrI .u64 (IntKind.u64.wrap (IntKind.i64.wrap (a + b))) 1)) cmp g4 caps4 hp4 hw4 (by have he_ := wrapI ((IntKind.i64.wrap ((IntKind.i64.wrap (shrI .u64 (IntKind.u64.wrap (IntKind.i64.wrap (a + b))) 1)) + m)) - start) (by omega); have hlt_ := of_decide_eq_true ‹decide (a < start) = true›; have hgt_ := of_decide_eq_true ‹decide (start < (IntKind.i64.wrap (shrI .u64 (IntKind.u64.wrap (IntKind.i64.wrap (a + b))) 1))) = true›; omega) (by have he_ := wrapI ((IntKind.i64.wrap ((IntKind.i64.wrap (shrI .u64 (IntKind.u64.wrap (IntKind.i64.wrap (a + b))) 1)) + m)) - start) (by omega); have hlt_ := of_decide_eq_true ‹decide (a < start) = true›; have hgt_ := of_decide_eq_true ‹decide (start < (IntKind.i64.wrap (shrI .u64 (IntKind.u64.wrap (IntKind.i64.wrap (a + b))) 1))) = true›; omega) (by first | exact List.Perm.refl _ | exact rotate_perm (by have he_ := wrapI ((IntKind.i64.wrap ((IntKind.i64.wrap (shrI .u64 (IntKind.u64.wrap (IntKind.i64.wrap (a + b))) 1)) + m)) - start) (by omega); have hlt_ := of_decide_eq_true ‹decide (start < m) = true›; have hgt_ := of_decide_eq_true ‹decide (m < IntKind.i64.wrap ((IntKind.i64.wrap ((IntKind.i64.wrap (shrI .u64 (IntKind.u64.wrap (IntKind.i64.wrap (a + b))) 1)) + m)) - start)) = true›; omega) hL)) (by simp only [AV.renL, AV.ren, AV.renL_none _ hw4]) rfl ?_)
        refine rvc_nil ?_
        refine Awp.consP C ?_
        refine rvP C (.pv (.lit (.int .i64 (IntKind.i64.wrap (shrI .u64 (IntKind.u64.wrap (IntKind.i64.wrap (a + b))) 1))))) ?_
        refine rvP C (.pv (.lit (.int .i64 (IntKind.i64.wrap ((IntKind.i64.wrap ((IntKind.i64.wrap (shrI .u64 (IntKind.u64.wrap (IntKind.i64.wrap (a + b))) 1)) + m)) - start))))) ?_
        refine rvP C (.pv (.lit (.bool (decide ((IntKind.i64.wrap (shrI .u64 (IntKind.u64.wrap (IntKind.i64.wrap (a + b))) 1)) < (IntKind.i64.wrap ((IntKind.i64.wrap ((IntKind.i64.wrap (shrI .u64 (IntKind.u64.wrap (IntKind.i64.wrap (a + b))) 1)) + m)) - start))))))) ?_
        refine rvP C (.pv (.lit (.bool (decide ((IntKind.i64.wrap (shrI .u64 (IntKind.u64.wrap (IntKind.i64.wrap (a + b))) 1)) < (IntKind.i64.wrap ((IntKind.i64.wrap ((IntKind.i64.wrap (shrI .u64 (IntKind.u64.wrap (IntKind.i64.wrap (a + b))) 1)) + m)) - start))))))) ?_
        refine rvc_case 209 (decide ((IntKind.i64.wrap (shrI .u64 (IntKind.u64.wrap (IntKind.i64.wrap (a + b))) 1)) < (IntKind.i64.wrap ((IntKind.i64.wrap ((IntKind.i64.wrap (shrI .u64 (IntKind.u64.wrap (IntKind.i64.wrap (a + b))) 1)) + m)) - start)))) rfl (fun h60 => ?_) (fun h60 => ?_)
        ·
         replace hR := of_true h60 hR
         refine rvO C (.pv (.lit (.int .i64 (IntKind.i64.wrap ((IntKind.i64.wrap ((IntKind.i64.wrap (shrI .u64 (IntKind.u64.wrap (IntKind.i64.wrap (a + b))) 1)) + m)) - start))))) ?_
         refine rvO C (.pv (.lit (.int .i64 b))) ?_
         refine rvO C (.pv (.lit (.bool (decide ((IntKind.i64.wrap ((IntKind.i64.wrap ((IntKind.i64.wrap (shrI .u64 (IntKind.u64.wrap (IntKind.i64.wrap (a + b))) 1)) + m)) - start)) < b))))) ?_
         refine rvP C (.pv (.lit (.bool (decide ((IntKind.i64.wrap ((IntKind.i64.wrap ((IntKind.i64.wrap (shrI .u64 (IntKind.u64.wrap (IntKind.i64.wrap (a + b))) 1)) + m)) - start)) < b))))) ?_
         refine rvc_nil ?_
         refine Awp.cond (b := (decide ((IntKind.i64.wrap ((IntKind.i64.wrap ((IntKind.i64.wrap (shrI .u64 (IntKind.u64.wrap (IntKind.i64.wrap (a + b))) 1)) + m)) - start)) < b))) rfl (fun h61 => ?_) (fun h61 => ?_)
         ·
          replace hR := of_true h61 hR
          refine Awp.region C (fun _ => .writer) (by kernel_rfl) ?_
          refine rvP C (.sl 0 0 data.length 1 false) ?_
          refine rvP C (.pv (.lit (.int .i64 (IntKind.i64.wrap (shrI .u64 (IntKind.u64.wrap (IntKind.i64.wrap (a + b))) 1))))) ?_
          refine rvP C (.pv (.lit (.int .i64 (IntKind.i64.wrap ((IntKind.i64.wrap ((IntKind.i64.wrap (shrI .u64 (IntKind.u64.wrap (IntKind.i64.wrap (a + b))) 1)) + m)) - start))))) ?_
          refine rvP C (.pv (.lit (.int .i64 b))) ?_
          refine rvP C (.fn g4 [] caps4) ?_
          refine rvc_un (rexec_callM hP C (b := 0) rfl rfl rfl (hrec (rec data a start (IntKind.i64.wrap (shrI .u64 (IntKind.u64.wrap (IntKind.i64.wrap (a + b))) 1)) cmp) (IntKind.i64.wrap (shrI .u64 (IntKind.u64.wrap (IntKind.i64.wrap (a + b))) 1)) (IntKind.i64.wrap ((IntKind.i64.wrap ((IntKind.i64.wrap (shrI .u64 (IntKind.u64.wrap (IntKind.i64.wrap (a + b))) 1)) + m)) - start)) b cmp g4 caps4 hp4 hw4 (by have he_ := wrapI ((IntKind.i64.wrap ((IntKind.i64.wrap (shrI .u64 (IntKind.u64.wrap (IntKind.i64.wrap (a + b))) 1)) + m)) - start) (by omega); have hlt_ := of_decide_eq_true ‹decide ((IntKind.i64.wrap (shrI .u64 (IntKind.u64.wrap (IntKind.i64.wrap (a + b))) 1)) < IntKind.i64.wrap ((IntKind.i64.wrap ((IntKind.i64.wrap (shrI .u64 (IntKind.u64.wrap (IntKind.i64.wrap (a + b))) 1)) + m)) - start)) = true›; have hgt_ := of_decide_eq_true ‹decide (IntKind.i64.wrap ((IntKind.i64.wrap ((IntKind.i64.wrap (shrI .u64 (IntKind.u64.wrap (IntKind.i64.wrap (a + b))) 1)) + m)) - start) < b) = true›; omega) (by have he_ := wrapI ((IntKind.i64.wrap ((IntKind.i64.wrap (shrI .u64 (IntKind.u64.wrap (IntKind.i64.wrap (a + b))) 1)) + m)) - start) (by omega); have hlt_ := of_decide_eq_true ‹decide ((IntKind.i64.wrap (shrI .u64 (IntKind.u64.wrap (IntKind.i64.wrap (a + b))) 1)) < IntKind.i64.wrap ((IntKind.i64.wrap ((IntKind.i64.wrap (shrI .u64 (IntKind.u64.wrap (IntKind.i64.wrap (a + b))) 1)) + m)) - start)) = true›; have hgt_ := of_decide_eq_true ‹decide (IntKind.i64.wrap ((IntKind.i64.wrap ((IntKind.i64.wrap (shrI .u64 (IntKind.u64.wrap (IntKind.i64.wrap (a + b))) 1)) + m)) - start) < b) = true›; omega) (by first | exact List.Perm.refl _ | exact rotate_perm (by have he_ := wrapI ((IntKind.i64.wrap ((IntKind.i64.wrap (shrI .u64 (IntKind.u64.wrap (IntKind.i64.wrap (a + b))) 1)) + m)) - start) (by omega); have hlt_ := of_decide_eq_true ‹decide (start < m) = true›; have hgt_ := of_decide_eq_true ‹decide (m < IntKind.i64.wrap ((IntKind.i64.wrap ((IntKind.i64.wrap (shrI .u64 (IntKind.u64.wrap (IntKind.i64.wrap (a + b))) 1)) + m)) - start)) = true›; omega) hL | exact hrp _ _ _ _ _ (by have he_ := wrapI ((IntKind.i64.wrap ((IntKind.i64.wrap (shrI .u64 (IntKind.u64.wrap (IntKind.i64.wrap (a + b))) 1)) + m)) - start) (by omega); have hlt_ := of_decide_eq_true ‹decide (a < start) = true›; have hgt_ := of_decide_eq_true ‹decide (start < (IntKind.i64.wrap (shrI .u64 (IntKind.u64.wrap (IntKind.i64.wrap (a + b))) 1))) = true›; omega) (by have he_ := wrapI ((IntKind.i64.wrap ((IntKind.i64.wrap (shrI .u64 (IntKind.u64.wrap (IntKind.i64.wrap (a + b))) 1)) + m)) - start) (by omega); have hlt_ := of_decide_eq_true ‹decide (a < start) = true›; have hgt_ := of_decide_eq_true ‹decide (start < (IntKind.i64.wrap (shrI .u64 (IntKind.u64.wrap (IntKind.i64.wrap (a + b))) 1))) = true›; omega) (List.Perm.refl _) | exact hrp _ _ _ _ _ (by have he_ := wrapI ((IntKind.i64.wrap ((IntKind.i64.wrap (shrI .u64 (IntKind.u64.wrap (IntKind.i64.wrap (a + b))) 1)) + m)) - start) (by omega); have hlt_ := of_decide_eq_true ‹decide (a < start) = true›; have hgt_ := of_decide_eq_true ‹decide (start < (IntKind.i64.wrap (shrI .u64 (IntKind.u64.wrap (IntKind.i64.wrap (a + b))) 1))) = true›; omega) (by have he_ := wrapI ((IntKind.i64.wrap ((IntKind.i64.wrap (shrI .u64 (IntKind.u64.wrap (IntKind.i64.wrap (a + b))) 1)) + m)) - start) (by omega); have hlt_ := of_decide_eq_true ‹decide (a < start) = true›; have hgt_ := of_decide_eq_true ‹decide (start < (IntKind.i64.wrap (shrI .u64 (IntKind.u64.wrap (IntKind.i64.wrap (a + b))) 1))) = true›; omega) (rotate_perm (by have he_ := wrapI ((IntKind.i64.wrap ((IntKind.i64.wrap (shrI .u64 (IntKind.u64.wrap (IntKind.i64.wrap (a + b))) 1)) + m)) - start) (by omega); have hlt_ := of_decide_eq_true ‹decide (start < m) = true›; have hgt_ := of_decide_eq_true ‹decide (m < IntKind.i64.wrap ((IntKind.i64.wrap ((IntKind.i64.wrap (shrI .u64 (IntKind.u64.wrap (IntKind.i64.wrap (a + b))) 1)) + m)) - start)) = true›; omega) hL))) (by have hl_ : (rec data a start (IntKind.i64.wrap (shrI .u64 (IntKind.u64.wrap (IntKind.i64.wrap (a + b))) 1)) cmp).length = data.length := (List.Perm.length_eq (by first | exact List.Perm.refl _ | exact rotate_perm (by have he_ := wrapI ((IntKind.i64.wrap ((IntKind.i64.wrap (shrI .u64 (IntKind.u64.wrap (IntKind.i64.wrap (a + b))) 1)) + m)) - start) (by omega); have hlt_ := of_decide_eq_true ‹decide (start < m) = true›; have hgt_ := of_decide_eq_true ‹decide (m < IntKind.i64.wrap ((IntKind.i64.wrap ((IntKind.i64.wrap (shrI .u64 (IntKind.u64.wrap (IntKind.i64.wrap (a + b))) 1)) + m)) - start)) = true›; omega) hL | exact hrp _ _ _ _ _ (by have he_ := wrapI ((IntKind.i64.wrap ((IntKind.i64.wrap (shrI .u64 (IntKind.u64.wrap (IntKind.i64.wrap (a + b))) 1)) + m)) - start) (by omega); have hlt_ := of_decide_eq_true ‹decide (a < start) = true›; have hgt_ := of_decide_eq_true ‹decide (start < (IntKind.i64.wrap (shrI .u64 (IntKind.u64.wrap (IntKind.i64.wrap (a + b))) 1))) = true›; omega) (by have he_ := wrapI ((IntKind.i64.wrap ((IntKind.i64.wrap (shrI .u64 (IntKind.u64.wrap (IntKind.i64.wrap (a + b))) 1)) + m)) - start) (by omega); have hlt_ := of_decide_eq_true ‹decide (a < start) = true›; have hgt_ := of_decide_eq_true ‹decide (start < (IntKind.i64.wrap (shrI .u64 (IntKind.u64.wrap (IntKind.i64.wrap (a + b))) 1))) = true›; omega) (List.Perm.refl _) | exact hrp _ _ _ _ _ (by have he_ := wrapI ((IntKind.i64.wrap ((IntKind.i64.wrap (shrI .u64 (IntKind.u64.wrap (IntKind.i64.wrap (a + b))) 1)) + m)) - start) (by omega); have hlt_ := of_decide_eq_true ‹decide (a < start) = true›; have hgt_ := of_decide_eq_true ‹decide (start < (IntKind.i64.wrap (shrI .u64 (IntKind.u64.wrap (IntKind.i64.wrap (a + b))) 1))) = true›; omega) (by have he_ := wrapI ((IntKind.i64.wrap ((IntKind.i64.wrap (shrI .u64 (IntKind.u64.wrap (IntKind.i64.wrap (a + b))) 1)) + m)) - start) (by omega); have hlt_ := of_decide_eq_true ‹decide (a < start) = true›; have hgt_ := of_decide_eq_true ‹decide (start < (IntKind.i64.wrap (shrI .u64 (IntKind.u64.wrap (IntKind.i64.wrap (a + b))) 1))) = true›; omega) (rotate_perm (by have he_ := wrapI ((IntKind.i64.wrap ((IntKind.i64.wrap (shrI .u64 (IntKind.u64.wrap (IntKind.i64.wrap (a + b))) 1)) + m)) - start) (by omega); have hlt_ := of_decide_eq_true ‹decide (start < m) = true›; have hgt_ := of_decide_eq_true ‹decide (m < IntKind.i64.wrap ((IntKind.i64.wrap ((IntKind.i64.wrap (shrI .u64 (IntKind.u64.wrap (IntKind.i64.wrap (a + b))) 1)) + m)) - start)) = true›; omega) hL))); simp only [AV.renL, AV.ren, hl_, AV.renL_none _ hw4]) rfl ?_)
          refine rvc_nil ?_
          subst hR
          exact ⟨.inr rfl, rfl, rfl⟩
         ·
          replace hR := of_false h61 hR
          refine Awp.skip ?_
          subst hR
          exact ⟨.inr rfl, rfl, rfl⟩
        ·
         replace hR := of_false h60 hR
         refine rvS ?_
         refine rvS ?_
         refine rvS ?_
         refine rvP C (.pv (.lit (.bool false))) ?_
         refine rvc_nil ?_
         refine Awp.condF (b := false) rfl rfl ?_
         refine Awp.skip ?_
         subst hR
         exact ⟨.inr rfl, rfl, rfl⟩
       ·
        replace hR := of_false h59 hR
        refine Awp.skip ?_
        refine Awp.consP C ?_
        refine rvP C (.pv (.lit (.int .i64 (IntKind.i64.wrap (shrI .u64 (IntKind.u64.wrap (IntKind.i64.wrap (a + b))) 1))))) ?_
        refine rvP C (.pv (.lit (.int .i64 (IntKind.i64.wrap ((IntKind.i64.wrap ((IntKind.i64.wrap (shrI .u64 (IntKind.u64.wrap (IntKind.i64.wrap (a + b))) 1)) + m)) - start))))) ?_
        refine rvP C (.pv (.lit (.bool (decide ((IntKind.i64.wrap (shrI .u64 (IntKind.u64.wrap (IntKind.i64.wrap (a + b))) 1)) < (IntKind.i64.wrap ((IntKind.i64.wrap ((IntKind.i64.wrap (shrI .u64 (IntKind.u64.wrap (IntKind.i64.wrap (a + b))) 1)) + m)) - start))))))) ?_
        refine rvP C (.pv (.lit (.bool (decide ((IntKind.i64.wrap (shrI .u64 (IntKind.u64.wrap (IntKind.i64.wrap (a + b))) 1)) < (IntKind.i64.wrap ((IntKind.i64.wrap ((IntKind.i64.wrap (shrI .u64 (IntKind.u64.wrap (IntKind.i64.wrap (a + b))) 1)) + m)) - start))))))) ?_
        refine rvc_case 209 (decide ((IntKind.i64.wrap (shrI .u64 (IntKind.u64.wrap (IntKind.i64.wrap (a + b))) 1)) < (IntKind.i64.wrap ((IntKind.i64.wrap ((IntKind.i64.wrap (shrI .u64 (IntKind.u64.wrap (IntKind.i64.wrap (a + b))) 1)) + m)) - start)))) rfl (fun h62 => ?_) (fun h62 => ?_)
        ·
         replace hR := of_true h62 hR
         refine rvO C (.pv (.lit (.int .i64 (IntKind.i64.wrap ((IntKind.i64.wrap ((IntKind.i64.wrap (shrI .u64 (IntKind.u64.wrap (IntKind.i64.wrap (a + b))) 1)) + m)) - start))))) ?_
         refine rvO C (.pv (.lit (.int .i64 b))) ?_
         refine rvO C (.pv (.lit (.bool (decide ((IntKind.i64.wrap ((IntKind.i64.wrap ((IntKind.i64.wrap (shrI .u64 (IntKind.u64.wrap (IntKind.i64.wrap (a + b))) 1)) + m)) - start)) < b))))) ?_
         refine rvP C (.pv (.lit (.bool (decide ((IntKind.i64.wrap ((IntKind.i64.wrap ((IntKind.i64.wrap (shrI .u64 (IntKind.u64.wrap (IntKind.i64.wrap (a + b))) 1)) + m)) - start)) < b))))) ?_
         refine rvc_nil ?_
         refine Awp.cond (b := (decide ((IntKind.i64.wrap ((IntKind.i64.wrap ((IntKind.i64.wrap (shrI .u64 (IntKind.u64.wrap (IntKind.i64.wrap (a + b))) 1)) + m)) - start)) < b))) rfl (fun h63 => ?_) (fun h63 => ?_)
         ·
          replace hR := of_true h63 hR
          refine Awp.region C (fun _ => .writer) (by kernel_rfl) ?_
          refine rvP C (.sl 0 0 data.length 1 false) ?_
          refine rvP C (.pv (.lit (.int .i64 (IntKind.i64.wrap (shrI .u64 (IntKind.u64.wrap (IntKind.i64.wrap (a + b))) 1))))) ?_
          refine rvP C (.pv (.lit (.int .i64 (IntKind.i64.wrap ((IntKind.i64.wrap ((IntKind.i64.wrap (shrI .u64 (IntKind.u64.wrap (IntKind.i64.wrap (a + b))) 1)) + m)) - start))))) ?_
          refine rvP C (.pv (.lit (.int .i64 b))) ?_
          refine rvP C (.fn g4 [] caps4) ?_
          refine rvc_un (rexec_callM hP C (b := 0) rfl rfl rfl (hrec data (IntKind.i64.wrap (shrI .u64 (IntKind.u64.wrap (IntKind.i64.wrap (a + b))) 1)) (IntKind.i64.wrap ((IntKind.i64.wrap ((IntKind.i64.wrap (shrI .u64 (IntKind.u64.wrap (IntKind.i64.wrap (a + b))) 1)) + m)) - start)) b cmp g4 caps4 hp4 hw4 (by have he_ := wrapI ((IntKind.i64.wrap ((IntKind.i64.wrap (shrI .u64 (IntKind.u64.wrap (IntKind.i64.wrap (a + b))) 1)) + m)) - start) (by omega); have hlt_ := of_decide_eq_true ‹decide ((IntKind.i64.wrap (shrI .u64 (IntKind.u64.wrap (IntKind.i64.wrap (a + b))) 1)) < IntKind.i64.wrap ((IntKind.i64.wrap ((IntKind.i64.wrap (shrI .u64 (IntKind.u64.wrap (IntKind.i64.wrap (a + b))) 1)) + m)) - start)) = true›; have hgt_ := of_decide_eq_true ‹decide (IntKind.i64.wrap ((IntKind.i64.wrap ((IntKind.i64.wrap (shrI .u64 (IntKind.u64.wrap (IntKind.i64.wrap (a + b))) 1)) + m)) - start) < b) = true›; omega) (by have he_ := wrapI ((IntKind.i64.wrap ((IntKind.i64.wrap (shrI .u64 (IntKind.u64.wrap (IntKind.i64.wrap (a + b))) 1)) + m)) - start) (by omega); have hlt_ := of_decide_eq_true ‹decide ((IntKind.i64.wrap (shrI .u64 (IntKind.u64.wrap (IntKind.i64.wrap (a + b))) 1)) < IntKind.i64.wrap ((IntKind.i64.wrap ((IntKind.i64.wrap (shrI .u64 (IntKind.u64.wrap (IntKind.i64.wrap (a + b))) 1)) + m)) - start)) = true›; have hgt_ := of_decide_eq_true ‹decide (IntKind.i64.wrap ((IntKind.i64.wrap ((IntKind.i64.wrap (shrI .u64 (IntKind.u64.wrap (IntKind.i64.wrap (a + b))) 1)) + m)) - start) < b) = true›; omega) (by first | exact List.Perm.refl _ | exact rotate_perm (by have he_ := wrapI ((IntKind.i64.wrap ((IntKind.i64.wrap (shrI .u64 (IntKind.u64.wrap (IntKind.i64.wrap (a + b))) 1)) + m)) - start) (by omega); have hlt_ := of_decide_eq_true ‹decide (start < m) = true›; have hgt_ := of_decide_eq_true ‹decide (m < IntKind.i64.wrap ((IntKind.i64.wrap ((IntKind.i64.wrap (shrI .u64 (IntKind.u64.wrap (IntKind.i64.wrap (a + b))) 1)) + m)) - start)) = true›; omega) hL | exact hrp _ _ _ _ _ (by have he_ := wrapI ((IntKind.i64.wrap ((IntKind.i64.wrap (shrI .u64 (IntKind.u64.wrap (IntKind.i64.wrap (a + b))) 1)) + m)) - start) (by omega); have hlt_ := of_decide_eq_true ‹decide (a < start) = true›; have hgt_ := of_decide_eq_true ‹decide (start < (IntKind.i64.wrap (shrI .u64 (IntKind.u64.wrap (IntKind.i64.wrap (a + b))) 1))) = true›; omega) (by have he_ := wrapI ((IntKind.i64.wrap ((IntKind.i64.wrap (shrI .u64 (IntKind.u64.wrap (IntKind.i64.wrap (a + b))) 1)) + m)) - start) (by omega); have hlt_ := of_decide_eq_true ‹decide (a < start) = true›; have hgt_ := of_decide_eq_true ‹decide (start < (IntKind.i64.wrap (shrI .u64 (IntKind.u64.wrap (IntKind.i64.wrap (a + b))) 1))) = true›; omega) (List.Perm.refl _) | exact hrp _ _ _ _ _ (by have he_ := wrapI ((IntKind.i64.wrap ((IntKind.i64.wrap (shrI .u64 (IntKind.u64.wrap (IntKind.i64.wrap (a + b))) 1)) + m)) - start) (by omega); have hlt_ := of_decide_eq_true ‹decide (a < start) = true›; have hgt_ := of_decide_eq_true ‹decide (start < (IntKind.i64.wrap (shrI .u64 (IntKind.u64.wrap (IntKind.i64.wrap (a + b))) 1))) = true›; omega) (by have he_ := wrapI ((IntKind.i64.wrap ((IntKind.i64.wrap (shrI .u64 (IntKind.u64.wrap (IntKind.i64.wrap (a + b))) 1)) + m)) - start) (by omega); have hlt_ := of_decide_eq_true ‹decide (a < start) = true›; have hgt_ := of_decide_eq_true ‹decide (start < (IntKind.i64.wrap (shrI .u64 (IntKind.u64.wrap (IntKind.i64.wrap (a + b))) 1))) = true›; omega) (rotate_perm (by have he_ := wrapI ((IntKind.i64.wrap ((IntKind.i64.wrap (shrI .u64 (IntKind.u64.wrap (IntKind.i64.wrap (a + b))) 1)) + m)) - start) (by omega); have hlt_ := of_decide_eq_true ‹decide (start < m) = true›; have hgt_ := of_decide_eq_true ‹decide (m < IntKind.i64.wrap ((IntKind.i64.wrap ((IntKind.i64.wrap (shrI .u64 (IntKind.u64.wrap (IntKind.i64.wrap (a + b))) 1)) + m)) - start)) = true›; omega) hL))) (by simp only [AV.renL, AV.ren, AV.renL_none _ hw4]) rfl ?_)
          refine rvc_nil ?_
          subst hR
          exact ⟨.inr rfl, rfl, rfl⟩
         ·
          replace hR := of_false h63 hR
          refine Awp.skip ?_
          subst hR
          exact ⟨.inr rfl, rfl, rfl⟩
        ·
         replace hR := of_false h62 hR
         refine rvS ?_
         refine rvS ?_
         refine rvS ?_
         refine rvP C (.pv (.lit (.bool false))) ?_
         refine rvc_nil ?_
         refine Awp.condF (b := false) rfl rfl ?_
         refine Awp.skip ?_
         subst hR
         exact ⟨.inr rfl, rfl, rfl⟩
      ·
       replace hR := of_false h58 hR
       refine rvS ?_
       refine rvS ?_
       refine rvS ?_
       refine rvP C (.pv (.lit (.bool false))) ?_
       refine rvc_nil ?_
       refine Awp.condF (b := false) rfl rfl ?_
       refine Awp.skip ?_
       refine Awp.consP C ?_
       refine rvP C (.pv (.lit (.int .i64 (IntKind.i64.wrap (shrI .u64 (IntKind.u64.wrap (IntKind.i64.wrap (a + b))) 1))))) ?_
       refine rvP C (.pv (.lit (.int .i64 (IntKind.i64.wrap ((IntKind.i64.wrap ((IntKind.i64.wrap (shrI .u64 (IntKind.u64.wrap (IntKind.i64.wrap (a + b))) 1)) + m)) - start))))) ?_
       refine rvP C (.pv (.lit (.bool (decide ((IntKind.i64.wrap (shrI .u64 (IntKind.u64.wrap (IntKind.i64.wrap (a + b))) 1)) < (IntKind.i64.wrap ((IntKind.i64.wrap ((IntKind.i64.wrap (shrI .u64 (IntKind.u64.wrap (IntKind.i64.wrap (a + b))) 1)) + m)) - start))))))) ?_
       refine rvP C (.pv (.lit (.bool (decide ((IntKind.i64.wrap (shrI .u64 (IntKind.u64.wrap (IntKind.i64.wrap (a + b))) 1)) < (IntKind.i64.wrap ((IntKind.i64.wrap ((IntKind.i64.wrap (shrI .u64 (IntKind.u64.wrap (IntKind.i64.wrap (a + b))) 1)) + m)) - start))))))) ?_
       refine rvc_case 209 (decide ((IntKind.i64.wrap (shrI .u64 (IntKind.u64.wrap (IntKind.i64.wrap (a + b))) 1)) < (IntKind.i64.wrap ((IntKind.i64.wrap ((IntKind.i64.wrap (shrI .u64 (IntKind.u64.wrap (IntKind.i64.wrap (a + b))) 1)) + m)) - start)))) rfl (fun h64 => ?_) (fun h64 => ?_)
       ·
        replace hR := of_true h64 hR
        refine rvO C (.pv (.lit (.int .i64 (IntKind.i64.wrap ((IntKind.i64.wrap ((IntKind.i64.wrap (shrI .u64 (IntKind.u64.wrap (IntKind.i64.wrap (a + b))) 1)) + m)) - start))))) ?_
        refine rvO C (.pv (.lit (.int .i64 b))) ?_
        refine rvO C (.pv (.lit (.bool (decide ((IntKind.i64.wrap ((IntKind.i64.wrap ((IntKind.i64.wrap (shrI .u64 (IntKind.u64.wrap (IntKind.i64.wrap (a + b))) 1)) + m)) - start)) < b))))) ?_
        refine rvP C (.pv (.lit (.bool (decide ((IntKind.i64.wrap ((IntKind.i64.wrap ((IntKind.i64.wrap (shrI .u64 (IntKind.u64.wrap (IntKind.i64.wrap (a + b))) 1)) + m)) - start)) < b))))) ?_
        refine rvc_nil ?_
        refine Awp.cond (b := (decide ((IntKind.i64.wrap ((IntKind.i64.wrap ((IntKind.i64.wrap (shrI .u64 (IntKind.u64.wrap (IntKind.i64.wrap (a + b))) 1)) + m)) - start)) < b))) rfl (fun h65 => ?_) (fun h65 => ?_)
        ·
         replace hR := of_true h65 hR
         refine Awp.region C (fun _ => .writer) (by kernel_rfl) ?_
         refine rvP C (.sl 0 0 data.length 1 false) ?_
         refine rvP C (.pv (.lit (.int .i64 (IntKind.i64.wrap (shrI .u64 (IntKind.u64.wrap (IntKind.i64.wrap (a + b))) 1))))) ?_
         refine rvP C (.pv (.lit (.int .i64 (IntKind.i64.wrap ((IntKind.i64.wrap ((IntKind.i64.wrap (shrI .u64 (IntKind.u64.wrap (IntKind.i64.wrap (a + b))) 1)) + m)) - start))))) ?_
         refine rvP C (.pv (.lit (.int .i64 b))) ?_
         refine rvP C (.fn g4 [] caps4) ?_
         refine rvc_un (rexec_callM hP C (b := 0) rfl rfl rfl (hrec data (IntKind.i64.wrap (shrI .u64 (IntKind.u64.wrap (IntKind.i64.wrap (a + b))) 1)) (IntKind.i64.wrap ((IntKind.i64.wrap ((IntKind.i64.wrap (shrI .u64 (IntKind.u64.wrap (IntKind.i64.wrap (a + b))) 1)) + m)) - start)) b cmp g4 caps4 hp4 hw4 (by have he_ := wrapI ((IntKind.i64.wrap ((IntKind.i64.wrap (shrI .u64 (IntKind.u64.wrap (IntKind.i64.wrap (a + b))) 1)) + m)) - start) (by omega); have hlt_ := of_decide_eq_true ‹decide ((IntKind.i64.wrap (shrI .u64 (IntKind.u64.wrap (IntKind.i64.wrap (a + b))) 1)) < IntKind.i64.wrap ((IntKind.i64.wrap ((IntKind.i64.wrap (shrI .u64 (IntKind.u64.wrap (IntKind.i64.wrap (a + b))) 1)) + m)) - start)) = true›; have hgt_ := of_decide_eq_true ‹decide (IntKind.i64.wrap ((IntKind.i64.wrap ((IntKind.i64.wrap (shrI .u64 (IntKind.u64.wrap (IntKind.i64.wrap (a + b))) 1)) + m)) - start) < b) = true›; omega) (by have he_ := wrapI ((IntKind.i64.wrap ((IntKind.i64.wrap (shrI .u64 (IntKind.u64.wrap (IntKind.i64.wrap (a + b))) 1)) + m)) - start) (by omega); have hlt_ := of_decide_eq_true ‹decide ((IntKind.i64.wrap (shrI .u64 (IntKind.u64.wrap (IntKind.i64.wrap (a + b))) 1)) < IntKind.i64.wrap ((IntKind.i64.wrap ((IntKind.i64.wrap (shrI .u64 (IntKind.u64.wrap (IntKind.i64.wrap (a + b))) 1)) + m)) - start)) = true›; have hgt_ := of_decide_eq_true ‹decide (IntKind.i64.wrap ((IntKind.i64.wrap ((IntKind.i64.wrap (shrI .u64 (IntKind.u64.wrap (IntKind.i64.wrap (a + b))) 1)) + m)) - start) < b) = true›; omega) (by first | exact List.Perm.refl _ | exact rotate_perm (by have he_ := wrapI ((IntKind.i64.wrap ((IntKind.i64.wrap (shrI .u64 (IntKind.u64.wrap (IntKind.i64.wrap (a + b))) 1)) + m)) - start) (by omega); have hlt_ := of_decide_eq_true ‹decide (start < m) = true›; have hgt_ := of_decide_eq_true ‹decide (m < IntKind.i64.wrap ((IntKind.i64.wrap ((IntKind.i64.wrap (shrI .u64 (IntKind.u64.wrap (IntKind.i64.wrap (a + b))) 1)) + m)) - start)) = true›; omega) hL | exact hrp _ _ _ _ _ (by have he_ := wrapI ((IntKind.i64.wrap ((IntKind.i64.wrap (shrI .u64 (IntKind.u64.wrap (IntKind.i64.wrap (a + b))) 1)) + m)) - start) (by omega); have hlt_ := of_decide_eq_true ‹decide (a < start) = true›; have hgt_ := of_decide_eq_true ‹decide (start < (IntKind.i64.wrap (shrI .u64 (IntKind.u64.wrap (IntKind.i64.wrap (a + b))) 1))) = true›; omega) (by have he_ := wrapI ((IntKind.i64.wrap ((IntKind.i64.wrap (shrI .u64 (IntKind.u64.wrap (IntKind.i64.wrap (a + b))) 1)) + m)) - start) (by omega); have hlt_ := of_decide_eq_true ‹decide (a < start) = true›; have hgt_ := of_decide_eq_true ‹decide (start < (IntKind.i64.wrap (shrI .u64 (IntKind.u64.wrap (IntKind.i64.wrap (a + b))) 1))) = true›; omega) (List.Perm.refl _) | exact hrp _ _ _ _ _ (by have he_ := wrapI ((IntKind.i64.wrap ((IntKind.i64.wrap (shrI .u64 (IntKind.u64.wrap (IntKind.i64.wrap (a + b))) 1)) + m)) - start) (by omega); have hlt_ := of_decide_eq_true ‹decide (a < start) = true›; have hgt_ := of_decide_eq_true ‹decide (start < (IntKind.i64.wrap (shrI .u64 (IntKind.u64.wrap (IntKind.i64.wrap (a + b))) 1))) = true›; omega) (by have he_ := wrapI ((IntKind.i64.wrap ((IntKind.i64.wrap (shrI .u64 (IntKind.u64.wrap (IntKind.i64.wrap (a + b))) 1)) + m)) - start) (by omega); have hlt_ := of_decide_eq_true ‹decide (a < start) = true›; have hgt_ := of_decide_eq_true ‹decide (start < (IntKind.i64.wrap (shrI .u64 (IntKind.u64.wrap (IntKind.i64.wrap (a + b))) 1))) = true›; omega) (rotate_perm (by have he_ := wrapI ((IntKind.i64.wrap ((IntKind.i64.wrap (shrI .u64 (IntKind.u64.wrap (IntKind.i64.wrap (a + b))) 1)) + m)) - start) (by omega); have hlt_ := of_decide_eq_true ‹decide (start < m) = true›; have hgt_ := of_decide_eq_true ‹decide (m < IntKind.i64.wrap ((IntKind.i64.wrap ((IntKind.i64.wrap (shrI .u64 (IntKind.u64.wrap (IntKind.i64.wrap (a + b))) 1)) + m)) - start)) = true›; omega) hL))) (by simp only [AV.renL, AV.ren, AV.renL_none _ hw4]) rfl ?_)
         refine rvc_nil ?_
         subst hR
         exact ⟨.inr rfl, rfl, rfl⟩
        ·
         replace hR := of_false h65 hR
         refine Awp.skip ?_
         subst hR
         exact ⟨.inr rfl, rfl, rfl⟩
       ·
        replace hR := of_false h64 hR
        refine rvS ?_
        refine rvS ?_
        refine rvS ?_
        refine rvP C (.pv (.lit (.bool false))) ?_
        refine rvc_nil ?_
        refine Awp.condF (b := false) rfl rfl ?_
        refine Awp.skip ?_
        subst hR
        exact ⟨.inr rfl, rfl, rfl⟩
   ·
    replace hR := of_false h31 hR
    refine Awp.consP C ?_
    refine rvP C (.pv (.lit (.int .i64 a))) ?_
    refine rvP C (.pv (.lit (.int .i64 a))) ?_
    refine rvc_nil ?_
    refine Awp.regionP C ?_
    refine rvP C (.pv (.lit (.int .i64 m))) ?_
    refine rvP C (.pv (.lit (.int .i64 m))) ?_
    refine rvc_nil ?_
    refine Awp.consP C ?_
    refine rvP C (.pv (.lit (.int .i64 (IntKind.i64.wrap ((IntKind.i64.wrap (shrI .u64 (IntKind.u64.wrap (IntKind.i64.wrap (a + b))) 1)) + m))))) ?_
    refine rvP C (.pv (.lit (.int .i64 (IntKind.i64.wrap ((IntKind.i64.wrap ((IntKind.i64.wrap (shrI .u64 (IntKind.u64.wrap (IntKind.i64.wrap (a + b))) 1)) + m)) - 1))))) ?_
    refine rvP C (.pv (.lit (.int .i64 (IntKind.i64.wrap ((IntKind.i64.wrap ((IntKind.i64.wrap (shrI .u64 (IntKind.u64.wrap (IntKind.i64.wrap (a + b))) 1)) + m)) - 1))))) ?_
    refine rvc_nil ?_
    refine Awp.seq ?_
    refine Awp.block ?_
    refine Awp.forM (σ := Int × Int) (fun v => [(0, .sl 0 0 data.length 1 false), (1, .pv (.lit (.int .i64 a))), (2, .pv (.lit (.int .i64 m))), (3, .pv (.lit (.int .i64 b))), (4, .fn g4 [] caps4), (18, .pv (.lit (.int .i64 (IntKind.i64.wrap (shrI .u64 (IntKind.u64.wrap (IntKind.i64.wrap (a + b))) 1))))), (19, .pv (.lit (.int .i64 (IntKind.i64.wrap ((IntKind.i64.wrap (shrI .u64 (IntKind.u64.wrap (IntKind.i64.wrap (a + b))) 1)) + m))))), (20, .pv (.lit (.int .i64 v.1))), (21, .pv (.lit (.int .i64 v.2))), (22, .pv (.lit (.int .i64 (IntKind.i64.wrap ((IntKind.i64.wrap ((IntKind.i64.wrap (shrI .u64 (IntKind.u64.wrap (IntKind.i64.wrap (a + b))) 1)) + m)) - 1)))))]) (fun v => [(0, .cells (encC (eI .i64) data))]) [0] (fun n v => (v.2 - v.1).toNat ≤ n ∧ symMergeB_l4 rec data a m b cmp (n + 1) v.1 v.2 = R ∧ (a ≤ v.1 ∧ (IntKind.i64.wrap ((IntKind.i64.wrap (shrI .u64 (IntKind.u64.wrap (IntKind.i64.wrap (a + b))) 1)) + m)) - b ≤ v.1 ∧ v.1 ≤ v.2 ∧ v.2 ≤ m ∧ v.2 ≤ (IntKind.i64.wrap (shrI .u64 (IntKind.u64.wrap (IntKind.i64.wrap (a + b))) 1)))) ((m - a).toNat) (a, m) ?_ ?_ (fun n_ v h66 => ?_)
    · exact ⟨Nat.le_refl _, hR, (by dsimp only; have hh_ := half_eq (x := a + b) (by omega); have hw_ := wrapI ((IntKind.i64.wrap (shrI .u64 (IntKind.u64.wrap (IntKind.i64.wrap (a + b))) 1)) + m) (by omega); have hw1_ := wrapI ((IntKind.i64.wrap ((IntKind.i64.wrap (shrI .u64 (IntKind.u64.wrap (IntKind.i64.wrap (a + b))) 1)) + m)) - b) (by omega); have hw2_ := wrapI ((IntKind.i64.wrap ((IntKind.i64.wrap (shrI .u64 (IntKind.u64.wrap (IntKind.i64.wrap (a + b))) 1)) + m)) - 1) (by omega); first | (have h_ := of_decide_eq_true ‹decide (m > (IntKind.i64.wrap (shrI .u64 (IntKind.u64.wrap (IntKind.i64.wrap (a + b))) 1))) = true›; omega) | (have h_ := of_decide_eq_false ‹decide (m > (IntKind.i64.wrap (shrI .u64 (IntKind.u64.wrap (IntKind.i64.wrap (a + b))) 1))) = false›; omega))⟩
    · exact ⟨fun b => b, WeakerR.ofLI (I := [0]) (Ks := [0]) hI ⟨⟨rfl, rfl⟩, ⟨rfl, rfl⟩, ⟨rfl, rfl⟩, ⟨rfl, rfl⟩, ⟨fn_to rfl hw4, fn_win hw4⟩, ⟨rfl, rfl⟩, ⟨rfl, rfl⟩, ⟨rfl, rfl⟩, ⟨rfl, rfl⟩, ⟨rfl, rfl⟩, trivial⟩ (okH_list rfl rfl rfl (okH_nil)) rfl rfl⟩
    obtain ⟨start, r⟩ := v
    obtain ⟨hm_, hR, hVa⟩ := h66
    replace hm_ : (r - start).toNat ≤ n_ := hm_
    replace hVa : a ≤ start ∧ (IntKind.i64.wrap ((IntKind.i64.wrap (shrI .u64 (IntKind.u64.wrap (IntKind.i64.wrap (a + b))) 1)) + m)) - b ≤ start ∧ start ≤ r ∧ r ≤ m ∧ r ≤ (IntKind.i64.wrap (shrI .u64 (IntKind.u64.wrap (IntKind.i64.wrap (a + b))) 1)) := hVa
    have hh_ := half_eq (x := a + b) (by omega)
    have hw_ := wrapI ((IntKind.i64.wrap (shrI .u64 (IntKind.u64.wrap (IntKind.i64.wrap (a + b))) 1)) + m) (by omega)
    have hw1_ := wrapI ((IntKind.i64.wrap ((IntKind.i64.wrap (shrI .u64 (IntKind.u64.wrap (IntKind.i64.wrap (a + b))) 1)) + m)) - b) (by omega)
    have hw2_ := wrapI ((IntKind.i64.wrap ((IntKind.i64.wrap (shrI .u64 (IntKind.u64.wrap (IntKind.i64.wrap (a + b))) 1)) + m)) - 1) (by omega)
    refine Awp.seq ?_
    refine Awp.consP C ?_
    refine rvP C (.pv (.lit (.int .i64 start))) ?_
    refine rvP C (.pv (.lit (.int .i64 r))) ?_
    refine rvP C (.pv (.lit (.bool (decide (start < r))))) ?_
    refine rvc_nil ?_
    refine Awp.cond (b := (decide (start < r))) rfl (fun h68 => ?_) (fun h68 => ?_)
    ·
     replace hR := of_true h68 hR
     refine Awp.skip ?_
     refine Awp.block ?_
     refine Awp.consP C ?_
     refine rvP C (.pv (.lit (.int .i64 start))) ?_
     refine rvP C (.pv (.lit (.int .i64 r))) ?_
     refine rvP C (.pv (.lit (.int .i64 (IntKind.i64.wrap (start + r))))) ?_
     refine rvP C (.pv (.lit (.int .u64 (IntKind.u64.wrap (IntKind.i64.wrap (start + r)))))) ?_
     refine rvc_un (rexec_prim C (δ := { v := .pv (.lit (.int .u64 (shrI .u64 (IntKind.u64.wrap (IntKind.i64.wrap (start + r))) 1))) }) rfl rfl rfl rfl (by first | decide | assumption | omega) rfl ?_)
     refine rvP C (.pv (.lit (.int .i64 (IntKind.i64.wrap (shrI .u64 (IntKind.u64.wrap (IntKind.i64.wrap (start + r))) 1))))) ?_
     refine rvP C (.pv (.lit (.int .i64 (IntKind.i64.wrap (shrI .u64 (IntKind.u64.wrap (IntKind.i64.wrap (start + r))) 1))))) ?_
     refine rvc_nil ?_
     refine Awp.consP C ?_
     refine rvP C (.fn g4 [] caps4) ?_
     refine rvP C (.sl 0 0 data.length 1 false) ?_
     refine rvP C (.pv (.lit (.int .i64 (IntKind.i64.wrap ((IntKind.i64.wrap ((IntKind.i64.wrap (shrI .u64 (IntKind.u64.wrap (IntKind.i64.wrap (a + b))) 1)) + m)) - 1))))) ?_
     refine rvP C (.pv (.lit (.int .i64 (IntKind.i64.wrap (shrI .u64 (IntKind.u64.wrap (IntKind.i64.wrap (start + r))) 1))))) ?_
     refine rvP C (.pv (.lit (.int .i64 (IntKind.i64.wrap ((IntKind.i64.wrap ((IntKind.i64.wrap ((IntKind.i64.wrap (shrI .u64 (IntKind.u64.wrap (IntKind.i64.wrap (a + b))) 1)) + m)) - 1)) - (IntKind.i64.wrap (shrI .u64 (IntKind.u64.wrap (IntKind.i64.wrap (start + r))) 1))))))) ?_
     have h69 : data[(IntKind.i64.wrap ((IntKind.i64.wrap ((IntKind.i64.wrap ((IntKind.i64.wrap (shrI .u64 (IntKind.u64.wrap (IntKind.i64.wrap (a + b))) 1)) + m)) - 1)) - (IntKind.i64.wrap (shrI .u64 (IntKind.u64.wrap (IntKind.i64.wrap (start + r))) 1)))).toNat]? = some data[(IntKind.i64.wrap ((IntKind.i64.wrap ((IntKind.i64.wrap ((IntKind.i64.wrap (shrI .u64 (IntKind.u64.wrap (IntKind.i64.wrap (a + b))) 1)) + m)) - 1)) - (IntKind.i64.wrap (shrI .u64 (IntKind.u64.wrap (IntKind.i64.wrap (start + r))) 1)))).toNat]! := getE (by have hl_ := of_decide_eq_true ‹decide (start < r) = true›; have hc_ := half_eq (x := start + r) (by omega); have hc1_ := wrapI ((IntKind.i64.wrap (shrI .u64 (IntKind.u64.wrap (IntKind.i64.wrap (start + r))) 1)) + 1) (by omega); have hc2_ := wrapI (IntKind.i64.wrap ((IntKind.i64.wrap ((IntKind.i64.wrap (shrI .u64 (IntKind.u64.wrap (IntKind.i64.wrap (a + b))) 1)) + m)) - 1) - (IntKind.i64.wrap (shrI .u64 (IntKind.u64.wrap (IntKind.i64.wrap (start + r))) 1))) (by omega); omega)
     refine rvc_un (rexec_prim C (δ := { v := .ptr 0 (0 + (IntKind.i64.wrap ((IntKind.i64.wrap ((IntKind.i64.wrap ((IntKind.i64.wrap (shrI .u64 (IntKind.u64.wrap (IntKind.i64.wrap (a + b))) 1)) + m)) - 1)) - (IntKind.i64.wrap (shrI .u64 (IntKind.u64.wrap (IntKind.i64.wrap (start + r))) 1)))).toNat * 1) }) rfl rfl rfl rfl ⟨(by have hl_ := of_decide_eq_true ‹decide (start < r) = true›; have hc_ := half_eq (x := start + r) (by omega); have hc1_ := wrapI ((IntKind.i64.wrap (shrI .u64 (IntKind.u64.wrap (IntKind.i64.wrap (start + r))) 1)) + 1) (by omega); have hc2_ := wrapI (IntKind.i64.wrap ((IntKind.i64.wrap ((IntKind.i64.wrap (shrI .u64 (IntKind.u64.wrap (IntKind.i64.wrap (a + b))) 1)) + m)) - 1) - (IntKind.i64.wrap (shrI .u64 (IntKind.u64.wrap (IntKind.i64.wrap (start + r))) 1))) (by omega); omega), (by have hl_ := of_decide_eq_true ‹decide (start < r) = true›; have hc_ := half_eq (x := start + r) (by omega); have hc1_ := wrapI ((IntKind.i64.wrap (shrI .u64 (IntKind.u64.wrap (IntKind.i64.wrap (start + r))) 1)) + 1) (by omega); have hc2_ := wrapI (IntKind.i64.wrap ((IntKind.i64.wrap ((IntKind.i64.wrap (shrI .u64 (IntKind.u64.wrap (IntKind.i64.wrap (a + b))) 1)) + m)) - 1) - (IntKind.i64.wrap (shrI .u64 (IntKind.u64.wrap (IntKind.i64.wrap (start + r))) 1))) (by omega); omega)⟩ rfl ?_)
     refine rvc_un (rexec_loadE C (e := (eI .i64)) ((IntKind.i64.wrap ((IntKind.i64.wrap ((IntKind.i64.wrap ((IntKind.i64.wrap (shrI .u64 (IntKind.u64.wrap (IntKind.i64.wrap (a + b))) 1)) + m)) - 1)) - (IntKind.i64.wrap (shrI .u64 (IntKind.u64.wrap (IntKind.i64.wrap (start + r))) 1)))).toNat) 0 (data[(IntKind.i64.wrap ((IntKind.i64.wrap ((IntKind.i64.wrap ((IntKind.i64.wrap (shrI .u64 (IntKind.u64.wrap (IntKind.i64.wrap (a + b))) 1)) + m)) - 1)) - (IntKind.i64.wrap (shrI .u64 (IntKind.u64.wrap (IntKind.i64.wrap (start + r))) 1)))).toNat]!) (.pv (.lit (.int .i64 (data[(IntKind.i64.wrap ((IntKind.i64.wrap ((IntKind.i64.wrap ((IntKind.i64.wrap (shrI .u64 (IntKind.u64.wrap (IntKind.i64.wrap (a + b))) 1)) + m)) - 1)) - (IntKind.i64.wrap (shrI .u64 (IntKind.u64.wrap (IntKind.i64.wrap (start + r))) 1)))).toNat]!)))) rfl rfl rfl rfl h69 (by simp [eI]) (by decide) (by decide) rfl ?_)
     refine rvP C (.sl 0 0 data.length 1 false) ?_
     refine rvP C (.pv (.lit (.int .i64 (IntKind.i64.wrap (shrI .u64 (IntKind.u64.wrap (IntKind.i64.wrap (start + r))) 1))))) ?_
     have h70 : data[(IntKind.i64.wrap (shrI .u64 (IntKind.u64.wrap (IntKind.i64.wrap (start + r))) 1)).toNat]? = some data[(IntKind.i64.wrap (shrI .u64 (IntKind.u64.wrap (IntKind.i64.wrap (start + r))) 1)).toNat]! := getE (by have hl_ := of_decide_eq_true ‹decide (start < r) = true›; have hc_ := half_eq (x := start + r) (by omega); have hc1_ := wrapI ((IntKind.i64.wrap (shrI .u64 (IntKind.u64.wrap (IntKind.i64.wrap (start + r))) 1)) + 1) (by omega); have hc2_ := wrapI (IntKind.i64.wrap ((IntKind.i64.wrap ((IntKind.i64.wrap (shrI .u64 (IntKind.u64.wrap (IntKind.i64.wrap (a + b))) 1)) + m)) - 1) - (IntKind.i64.wrap (shrI .u64 (IntKind.u64.wrap (IntKind.i64.wrap (start + r))) 1))) (by omega); omega)
     refine rvc_un (rexec_prim C (δ := { v := .ptr 0 (0 + (IntKind.i64.wrap (shrI .u64 (IntKind.u64.wrap (IntKind.i64.wrap (start + r))) 1)).toNat * 1) }) rfl rfl rfl rfl ⟨(by have hl_ := of_decide_eq_true ‹decide (start < r) = true›; have hc_ := half_eq (x := start + r) (by omega); have hc1_ := wrapI ((IntKind.i64.wrap (shrI .u64 (IntKind.u64.wrap (IntKind.i64.wrap (start + r))) 1)) + 1) (by omega); have hc2_ := wrapI (IntKind.i64.wrap ((IntKind.i64.wrap ((IntKind.i64.wrap (shrI .u64 (IntKind.u64.wrap (IntKind.i64.wrap (a + b))) 1)) + m)) - 1) - (IntKind.i64.wrap (shrI .u64 (IntKind.u64.wrap (IntKind.i64.wrap (start + r))) 1))) (by omega); omega), (by have hl_ := of_decide_eq_true ‹decide (start < r) = true›; have hc_ := half_eq (x := start + r) (by omega); have hc1_ := wrapI ((IntKind.i64.wrap (shrI .u64 (IntKind.u64.wrap (IntKind.i64.wrap (start + r))) 1)) + 1) (by omega); have hc2_ := wrapI (IntKind.i64.wrap ((IntKind.i64.wrap ((IntKind.i64.wrap (shrI .u64 (IntKind.u64.wrap (IntKind.i64.wrap (a + b))) 1)) + m)) - 1) - (IntKind.i64.wrap (shrI .u64 (IntKind.u64.wrap (IntKind.i64.wrap (start + r))) 1))) (by omega); omega)⟩ rfl ?_)
     refine rvc_un (rexec_loadE C (e := (eI .i64)) ((IntKind.i64.wrap (shrI .u64 (IntKind.u64.wrap (IntKind.i64.wrap (start + r))) 1)).toNat) 0 (data[(IntKind.i64.wrap (shrI .u64 (IntKind.u64.wrap (IntKind.i64.wrap (start + r))) 1)).toNat]!) (.pv (.lit (.int .i64 (data[(IntKind.i64.wrap (shrI .u64 (IntKind.u64.wrap (IntKind.i64.wrap (start + r))) 1)).toNat]!)))) rfl rfl rfl rfl h70 (by simp [eI]) (by decide) (by decide) rfl ?_)
     refine rvc_un (rexec_callV hP C rfl rfl rfl rfl (hp4 (data[(IntKind.i64.wrap ((IntKind.i64.wrap ((IntKind.i64.wrap ((IntKind.i64.wrap (shrI .u64 (IntKind.u64.wrap (IntKind.i64.wrap (a + b))) 1)) + m)) - 1)) - (IntKind.i64.wrap (shrI .u64 (IntKind.u64.wrap (IntKind.i64.wrap (start + r))) 1)))).toNat]!) (data[(IntKind.i64.wrap (shrI .u64 (IntKind.u64.wrap (IntKind.i64.wrap (start + r))) 1)).toNat]!) (hs _ (at_mem (by have hl_ := of_decide_eq_true ‹decide (start < r) = true›; have hc_ := half_eq (x := start + r) (by omega); have hc1_ := wrapI ((IntKind.i64.wrap (shrI .u64 (IntKind.u64.wrap (IntKind.i64.wrap (start + r))) 1)) + 1) (by omega); have hc2_ := wrapI (IntKind.i64.wrap ((IntKind.i64.wrap ((IntKind.i64.wrap (shrI .u64 (IntKind.u64.wrap (IntKind.i64.wrap (a + b))) 1)) + m)) - 1) - (IntKind.i64.wrap (shrI .u64 (IntKind.u64.wrap (IntKind.i64.wrap (start + r))) 1))) (by omega); omega))) (hs _ (at_mem (by have hl_ := of_decide_eq_true ‹decide (start < r) = true›; have hc_ := half_eq (x := start + r) (by omega); have hc1_ := wrapI ((IntKind.i64.wrap (shrI .u64 (IntKind.u64.wrap (IntKind.i64.wrap (start + r))) 1)) + 1) (by omega); have hc2_ := wrapI (IntKind.i64.wrap ((IntKind.i64.wrap ((IntKind.i64.wrap (shrI .u64 (IntKind.u64.wrap (IntKind.i64.wrap (a + b))) 1)) + m)) - 1) - (IntKind.i64.wrap (shrI .u64 (IntKind.u64.wrap (IntKind.i64.wrap (start + r))) 1))) (by omega); omega)))) rfl ?_)
     refine rvP C (.pv (.lit (.bool (decide ((cmp (data[(IntKind.i64.wrap ((IntKind.i64.wrap ((IntKind.i64.wrap ((IntKind.i64.wrap (shrI .u64 (IntKind.u64.wrap (IntKind.i64.wrap (a + b))) 1)) + m)) - 1)) - (IntKind.i64.wrap (shrI .u64 (IntKind.u64.wrap (IntKind.i64.wrap (start + r))) 1)))).toNat]!) (data[(IntKind.i64.wrap (shrI .u64 (IntKind.u64.wrap (IntKind.i64.wrap (start + r))) 1)).toNat]!)) < 0))))) ?_
     refine rvP C (.pv (.lit (.bool (!(decide ((cmp (data[(IntKind.i64.wrap ((IntKind.i64.wrap ((IntKind.i64.wrap ((IntKind.i64.wrap (shrI .u64 (IntKind.u64.wrap (IntKind.i64.wrap (a + b))) 1)) + m)) - 1)) - (IntKind.i64.wrap (shrI .u64 (IntKind.u64.wrap (IntKind.i64.wrap (start + r))) 1)))).toNat]!) (data[(IntKind.i64.wrap (shrI .u64 (IntKind.u64.wrap (IntKind.i64.wrap (start + r))) 1)).toNat]!)) < 0)))))) ?_
     refine rvc_nil ?_
     refine Awp.cond (b := (!(decide ((cmp (data[(IntKind.i64.wrap ((IntKind.i64.wrap ((IntKind.i64.wrap ((IntKind.i64.wrap (shrI .u64 (IntKind.u64.wrap (IntKind.i64.wrap (a + b))) 1)) + m)) - 1)) - (IntKind.i64.wrap (shrI .u64 (IntKind.u64.wrap (IntKind.i64.wrap (start + r))) 1)))).toNat]!) (data[(IntKind.i64.wrap (shrI .u64 (IntKind.u64.wrap (IntKind.i64.wrap (start + r))) 1)).toNat]!)) < 0)))) rfl (fun h71 => ?_) (fun h71 => ?_)
     ·
      replace hR := of_true h71 hR
      refine Awp.regionP C ?_
      refine rvP C (.pv (.lit (.int .i64 (IntKind.i64.wrap (shrI .u64 (IntKind.u64.wrap (IntKind.i64.wrap (start + r))) 1))))) ?_
      refine rvP C (.pv (.lit (.int .i64 (IntKind.i64.wrap ((IntKind.i64.wrap (shrI .u64 (IntKind.u64.wrap (IntKind.i64.wrap (start + r))) 1)) + 1))))) ?_
      refine rvP C (.pv (.lit (.int .i64 (IntKind.i64.wrap ((IntKind.i64.wrap (shrI .u64 (IntKind.u64.wrap (IntKind.i64.wrap (start + r))) 1)) + 1))))) ?_
      refine rvc_nil ?_
      have h72 : (r - (IntKind.i64.wrap ((IntKind.i64.wrap (shrI .u64 (IntKind.u64.wrap (IntKind.i64.wrap (start + r))) 1)) + 1))).toNat < (r - start).toNat := by (have hl_ := of_decide_eq_true ‹decide (start < r) = true›; have hc_ := half_eq (x := start + r) (by omega); have hc1_ := wrapI ((IntKind.i64.wrap (shrI .u64 (IntKind.u64.wrap (IntKind.i64.wrap (start + r))) 1)) + 1) (by omega); have hc2_ := wrapI (IntKind.i64.wrap ((IntKind.i64.wrap ((IntKind.i64.wrap (shrI .u64 (IntKind.u64.wrap (IntKind.i64.wrap (a + b))) 1)) + m)) - 1) - (IntKind.i64.wrap (shrI .u64 (IntKind.u64.wrap (IntKind.i64.wrap (start + r))) 1))) (by omega); omega)
      obtain ⟨nn, rfl⟩ : ∃ nn, n_ = nn + 1 := ⟨n_ - 1, by omega⟩
      refine ⟨nn, ((IntKind.i64.wrap ((IntKind.i64.wrap (shrI .u64 (IntKind.u64.wrap (IntKind.i64.wrap (start + r))) 1)) + 1)), r), by omega, ⟨by show (r - (IntKind.i64.wrap ((IntKind.i64.wrap (shrI .u64 (IntKind.u64.wrap (IntKind.i64.wrap (start + r))) 1)) + 1))).toNat ≤ nn; omega, hR, (by dsimp only; have hl_ := of_decide_eq_true ‹decide (start < r) = true›; have hc_ := half_eq (x := start + r) (by omega); have hc1_ := wrapI ((IntKind.i64.wrap (shrI .u64 (IntKind.u64.wrap (IntKind.i64.wrap (start + r))) 1)) + 1) (by omega); have hc2_ := wrapI (IntKind.i64.wrap ((IntKind.i64.wrap ((IntKind.i64.wrap (shrI .u64 (IntKind.u64.wrap (IntKind.i64.wrap (a + b))) 1)) + m)) - 1) - (IntKind.i64.wrap (shrI .u64 (IntKind.u64.wrap (IntKind.i64.wrap (start + r))) 1))) (by omega); omega)⟩, ?_⟩
      · exact ⟨fun b => b, WeakerR.ofLI (I := [0]) (Ks := [0]) hI ⟨⟨rfl, rfl⟩, ⟨rfl, rfl⟩, ⟨rfl, rfl⟩, ⟨rfl, rfl⟩, ⟨fn_to rfl hw4, fn_win hw4⟩, ⟨rfl, rfl⟩, ⟨rfl, rfl⟩, ⟨rfl, rfl⟩, ⟨rfl, rfl⟩, ⟨rfl, rfl⟩, trivial⟩ (okH_list rfl rfl rfl (okH_nil)) rfl rfl⟩
     ·
      replace hR := of_false h71 hR
      refine Awp.regionP C ?_
      refine rvP C (.pv (.lit (.int .i64 (IntKind.i64.wrap (shrI .u64 (IntKind.u64.wrap (IntKind.i64.wrap (start + r))) 1))))) ?_
      refine rvP C (.pv (.lit (.int .i64 (IntKind.i64.wrap (shrI .u64 (IntKind.u64.wrap (IntKind.i64.wrap (start + r))) 1))))) ?_
      refine rvc_nil ?_
      have h73 : ((IntKind.i64.wrap (shrI .u64 (IntKind.u64.wrap (IntKind.i64.wrap (start + r))) 1)) - start).toNat < (r - start).toNat := by (have hl_ := of_decide_eq_true ‹decide (start < r) = true›; have hc_ := half_eq (x := start + r) (by omega); have hc1_ := wrapI ((IntKind.i64.wrap (shrI .u64 (IntKind.u64.wrap (IntKind.i64.wrap (start + r))) 1)) + 1) (by omega); have hc2_ := wrapI (IntKind.i64.wrap ((IntKind.i64.wrap ((IntKind.i64.wrap (shrI .u64 (IntKind.u64.wrap (IntKind.i64.wrap (a + b))) 1)) + m)) - 1) - (IntKind.i64.wrap (shrI .u64 (IntKind.u64.wrap (IntKind.i64.wrap (start + r))) 1))) (by omega); omega)
      obtain ⟨nn, rfl⟩ : ∃ nn, n_ = nn + 1 := ⟨n_ - 1, by omega⟩
      refine ⟨nn, (start, (IntKind.i64.wrap (shrI .u64 (IntKind.u64.wrap (IntKind.i64.wrap (start + r))) 1))), by omega, ⟨by show ((IntKind.i64.wrap (shrI .u64 (IntKind.u64.wrap (IntKind.i64.wrap (start + r))) 1)) - start).toNat ≤ nn; omega, hR, (by dsimp only; have hl_ := of_decide_eq_true ‹decide (start < r) = true›; have hc_ := half_eq (x := start + r) (by omega); have hc1_ := wrapI ((IntKind.i64.wrap (shrI .u64 (IntKind.u64.wrap (IntKind.i64.wrap (start + r))) 1)) + 1) (by omega); have hc2_ := wrapI (IntKind.i64.wrap ((IntKind.i64.wrap ((IntKind.i64.wrap (shrI .u64 (IntKind.u64.wrap (IntKind.i64.wrap (a + b))) 1)) + m)) - 1) - (IntKind.i64.wrap (shrI .u64 (IntKind.u64.wrap (IntKind.i64.wrap (start + r))) 1))) (by omega); omega)⟩, ?_⟩
      · exact ⟨fun b => b, WeakerR.ofLI (I := [0]) (Ks := [0]) hI ⟨⟨rfl, rfl⟩, ⟨rfl, rfl⟩, ⟨rfl, rfl⟩, ⟨rfl, rfl⟩, ⟨fn_to rfl hw4, fn_win hw4⟩, ⟨rfl, rfl⟩, ⟨rfl, rfl⟩, ⟨rfl, rfl⟩, ⟨rfl, rfl⟩, ⟨rfl, rfl⟩, trivial⟩ (okH_list rfl rfl rfl (okH_nil)) rfl rfl⟩
    ·
     replace hR := of_false h68 hR
     refine Awp.exit ?_
     refine Awp.consP C ?_
     refine rvP C (.pv (.lit (.int .i64 (IntKind.i64.wrap ((IntKind.i64.wrap (shrI .u64 (IntKind.u64.wrap (IntKind.i64.wrap (a + b))) 1)) + m))))) ?_
     refine rvP C (.pv (.lit (.int .i64 start))) ?_
     refine rvP C (.pv (.lit (.int .i64 (IntKind.i64.wrap ((IntKind.i64.wrap ((IntKind.i64.wrap (shrI .u64 (IntKind.u64.wrap (IntKind.i64.wrap (a + b))) 1)) + m)) - start))))) ?_
     refine rvP C (.pv (.lit (.int .i64 (IntKind.i64.wrap ((IntKind.i64.wrap ((IntKind.i64.wrap (shrI .u64 (IntKind.u64.wrap (IntKind.i64.wrap (a + b))) 1)) + m)) - start))))) ?_
     refine rvc_nil ?_
     refine Awp.seq ?_
     refine Awp.consP C ?_
     refine rvP C (.pv (.lit (.int .i64 start))) ?_
     refine rvP C (.pv (.lit (.int .i64 m))) ?_
     refine rvP C (.pv (.lit (.bool (decide (start < m))))) ?_
     refine rvP C (.pv (.lit (.bool (decide (start < m))))) ?_
     refine rvc_case 181 (decide (start < m)) rfl (fun h74 => ?_) (fun h74 => ?_)
     ·
      replace hR := of_true h74 hR
      refine rvO C (.pv (.lit (.int .i64 m))) ?_
      refine rvO C (.pv (.lit (.int .i64 (IntKind.i64.wrap ((IntKind.i64.wrap ((IntKind.i64.wrap (shrI .u64 (IntKind.u64.wrap (IntKind.i64.wrap (a + b))) 1)) + m)) - start))))) ?_
      refine rvO C (.pv (.lit (.bool (decide (m < (IntKind.i64.wrap ((IntKind.i64.wrap ((IntKind.i64.wrap (shrI .u64 (IntKind.u64.wrap (IntKind.i64.wrap (a + b))) 1)) + m)) - start))))))) ?_
      refine rvP C (.pv (.lit (.bool (decide (m < (IntKind.i64.wrap ((IntKind.i64.wrap ((IntKind.i64.wrap (shrI .u64 (IntKind.u64.wrap (IntKind.i64.wrap (a + b))) 1)) + m)) - start))))))) ?_
      refine rvc_nil ?_
      refine Awp.cond (b := (decide (m < (IntKind.i64.wrap ((IntKind.i64.wrap ((IntKind.i64.wrap (shrI .u64 (IntKind.u64.wrap (IntKind.i64.wrap (a + b))) 1)) + m)) - start))))) rfl (fun h75 => ?_) (fun h75 => ?_)
      ·
       replace hR := of_true h75 hR
       refine Awp.region C (fun _ => .writer) (by kernel_rfl) ?_
       refine rvP C (.sl 0 0 data.length 1 false) ?_
       refine rvP C (.pv (.lit (.int .i64 start))) ?_
       refine rvP C (.pv (.lit (.int .i64 m))) ?_
       refine rvP C (.pv (.lit (.int .i64 (IntKind.i64.wrap ((IntKind.i64.wrap ((IntKind.i64.wrap (shrI .u64 (IntKind.u64.wrap (IntKind.i64.wrap (a + b))) 1)) + m)) - start))))) ?_
       refine rvP C (.fn g4 [] caps4) ?_
       refine rvc_un (rexec_callM hP C (b := 0) rfl rfl rfl (rotate_calls data start m (IntKind.i64.wrap ((IntKind.i64.wrap ((IntKind.i64.wrap (shrI .u64 (IntKind.u64.wrap (IntKind.i64.wrap (a + b))) 1)) + m)) - start)) cmp g4 caps4 hp4 hw4 (by have he_ := wrapI ((IntKind.i64.wrap ((IntKind.i64.wrap (shrI .u64 (IntKind.u64.wrap (IntKind.i64.wrap (a + b))) 1)) + m)) - start) (by omega); have hlt_ := of_decide_eq_true ‹decide (start < m) = true›; have hgt_ := of_decide_eq_true ‹decide (m < IntKind.i64.wrap ((IntKind.i64.wrap ((IntKind.i64.wrap (shrI .u64 (IntKind.u64.wrap (IntKind.i64.wrap (a + b))) 1)) + m)) - start)) = true›; omega) hL hs) (by simp only [AV.renL, AV.ren, AV.renL_none _ hw4]) rfl ?_)
       refine rvc_nil ?_
       refine Awp.seq ?_
       refine Awp.consP C ?_
       refine rvP C (.pv (.lit (.int .i64 a))) ?_
       refine rvP C (.pv (.lit (.int .i64 start))) ?_
       refine rvP C (.pv (.lit (.bool (decide (a < start))))) ?_
       refine rvP C (.pv (.lit (.bool (decide (a < start))))) ?_
       refine rvc_case 195 (decide (a < start)) rfl (fun h76 => ?_) (fun h76 => ?_)
       ·
        replace hR := of_true h76 hR
        refine rvO C (.pv (.lit (.int .i64 start))) ?_
        refine rvO C (.pv (.lit (.int .i64 (IntKind.i64.wrap (shrI .u64 (IntKind.u64.wrap (IntKind.i64.wrap (a + b))) 1))))) ?_
        refine rvO C (.pv (.lit (.bool (decide (start < (IntKind.i64.wrap (shrI .u64 (IntKind.u64.wrap (IntKind.i64.wrap (a + b))) 1))))))) ?_
        refine rvP C (.pv (.lit (.bool (decide (start < (IntKind.i64.wrap (shrI .u64 (IntKind.u64.wrap (IntKind.i64.wrap (a + b))) 1))))))) ?_
        refine rvc_nil ?_
        refine Awp.cond (b := (decide (start < (IntKind.i64.wrap (shrI .u64 (IntKind.u64.wrap (IntKind.i64.wrap (a + b))) 1))))) rfl (fun h77 => ?_) (fun h77 => ?_)
        ·
         replace hR := of_true h77 hR
         refine Awp.region C (fun _ => .writer) (by kernel_rfl) ?_
         refine rvP C (.sl 0 0 data.length 1 false) ?_
         refine rvP C (.pv (.lit (.int .i64 a))) ?_
         refine rvP C (.pv (.lit (.int .i64 start))) ?_
         refine rvP C (.pv (.lit (.int .i64 (IntKind.i64.wrap (shrI .u64 (IntKind.u64.wrap (IntKind.i64.wrap (a + b))) 1))))) ?_
         refine rvP C (.fn g4 [] caps4) ?_
         refine rvc_un (rexec_callM hP C (b := 0) rfl rfl rfl (hrec (rotate data start m (IntKind.i64.wrap ((IntKind.i64.wrap ((IntKind.i64.wrap (shrI .u64 (IntKind.u64.wrap (IntKind.i64.wrap (a + b))) 1)) + m)) - start)) cmp) a start (IntKind.i64.wrap (shrI .u64 (IntKind.u64.wrap (IntKind.i64.wrap (a + b))) 1)) cmp g4 caps4 hp4 hw4 (by have he_ := wrapI ((IntKind.i64.wrap ((IntKind.i64.wrap (shrI .u64 (IntKind.u64.wrap (IntKind.i64.wrap (a + b))) 1)) + m)) - start) (by omega); have hlt_ := of_decide_eq_true ‹decide (a < start) = true›; have hgt_ := of_decide_eq_true ‹decide (start < (IntKind.i64.wrap (shrI .u64 (IntKind.u64.wrap (IntKind.i64.wrap (a + b))) 1))) = true›; omega) (by have he_ := wrapI ((IntKind.i64.wrap ((IntKind.i64.wrap (shrI .u64 (IntKind.u64.wrap (IntKind.i64.wrap (a + b))) 1)) + m)) - start) (by omega); have hlt_ := of_decide_eq_true ‹decide (a < start) = true›; have hgt_ := of_decide_eq_true ‹decide (start < (IntKind.i64.wrap (shrI .u64 (IntKind.u64.wrap (IntKind.i64.wrap (a + b))) 1))) = true›; omega) (by first | exact List.Perm.refl _ | exact rotate_perm (by have he_ := wrapI ((IntKind.i64.wrap ((IntKind.i64.wrap (shrI .u64 (IntKind.u64.wrap (IntKind.i64.wrap (a + b))) 1)) + m)) - start) (by omega); have hlt_ := of_decide_eq_true ‹decide (start < m) = true›; have hgt_ := of_decide_eq_true ‹decide (m < IntKind.i64.wrap ((IntKind.i64.wrap ((IntKind.i64.wrap (shrI .u64 (IntKind.u64.wrap (IntKind.i64.wrap (a + b))) 1)) + m)) - start)) = true›; omega) hL)) (by have hl_ : (rotate data start m (IntKind.i64.wrap ((IntKind.i64.wrap ((IntKind.i64.wrap (shrI .u64 (IntKind.u64.wrap (IntKind.i64.wrap (a + b))) 1)) + m)) - start)) cmp).length = data.length := (List.Perm.length_eq (by first | exact List.Perm.refl _ | exact rotate_perm (by have he_ := wrapI ((IntKind.i64.wrap ((IntKind.i64.wrap (shrI .u64 (IntKind.u64.wrap (IntKind.i64.wrap (a + b))) 1)) + m)) - start) (by omega); have hlt_ := of_decide_eq_true ‹decide (start < m) = true›; have hgt_ := of_decide_eq_true ‹decide (m < IntKind.i64.wrap ((IntKind.i64.wrap ((IntKind.i64.wrap (shrI .u64 (IntKind.u64.wrap (IntKind.i64.wrap (a + b))) 1)) + m)) - start)) = true›; omega) hL)); simp only [AV.renL, AV.ren, hl_, AV.renL_none _ hw4]) rfl ?_)
         refine rvc_nil ?_
         refine Awp.consP C ?_
         refine rvP C (.pv (.lit (.int .i64 (IntKind.i64.wrap (shrI .u64 (IntKind.u64.wrap (IntKind.i64.wrap (a + b))) 1))))) ?_
         refine rvP C (.pv (.lit (.int .i64 (IntKind.i64.wrap ((IntKind.i64.wrap ((IntKind.i64.wrap (shrI .u64 (IntKind.u64.wrap (IntKind.i64.wrap (a + b))) 1)) + m)) - start))))) ?_
         refine rvP C (.pv (.lit (.bool (decide ((IntKind.i64.wrap (shrI .u64 (IntKind.u64.wrap (IntKind.i64.wrap (a + b))) 1)) < (IntKind.i64.wrap ((IntKind.i64.wrap ((IntKind.i64.wrap (shrI .u64 (IntKind.u64.wrap (IntKind.i64.wrap (a + b))) 1)) + m)) - start))))))) ?_
         refine rvP C (.pv (.lit (.bool (decide ((IntKind.i64.wrap (shrI .u64 (IntKind.u64.wrap (IntKind.i64.wrap (a + b))) 1)) < (IntKind.i64.wrap ((IntKind.i64.wrap ((IntKind.i64.wrap (shrI .u64 (IntKind.u64.wrap (IntKind.i64.wrap (a + b))) 1)) + m)) - start))))))) ?_
         refine rvc_case 209 (decide ((IntKind.i64.wrap (shrI .u64 (IntKind.u64.wrap (IntKind.i64.wrap (a + b))) 1)) < (IntKind.i64.wrap ((IntKind.i64.wrap ((IntKind.i64.wrap (shrI .u64 (IntKind.u64.wrap (IntKind.i64.wrap (a + b))) 1)) + m)) - start)))) rfl (fun h78 => ?_) (fun h78 => ?_)
         ·
          replace hR := of_true h78 hR
          refine rvO C (.pv (.lit (.int .i64 (IntKind.i64.wrap ((IntKind.i64.wrap ((IntKind.i64.wrap (shrI .u64 (IntKind.u64.wrap (IntKind.i64.wrap (a + b))) 1)) + m)) - start))))) ?_
          refine rvO C (.pv (.lit (.int .i64 b))) ?_
          refine rvO C (.pv (.lit (.bool (decide ((IntKind.i64.wrap ((IntKind.i64.wrap ((IntKind.i64.wrap (shrI .u64 (IntKind.u64.wrap (IntKind.i64.wrap (a + b))) 1)) + m)) - start)) < b))))) ?_
          refine rvP C (.pv (.lit (.bool (decide ((IntKind.i64.wrap ((IntKind.i64.wrap ((IntKind.i64.wrap (shrI .u64 (IntKind.u64.wrap (IntKind.i64.wrap (a + b))) 1)) + m)) - start)) < b))))) ?_
          refine rvc_nil ?_
          refine Awp.cond (b := (decide ((IntKind.i64.wrap ((IntKind.i64.wrap ((IntKind.i64.wrap (shrI .u64 (IntKind.u64.wrap (IntKind.i64.wrap (a + b))) 1)) + m)) - start)) < b))) rfl (fun h79 => ?_) (fun h79 => ?_)
          ·
           replace hR := of_true h79 hR
           refine Awp.region C (fun _ => .writer) (by kernel_rfl) ?_
           refine rvP C (.sl 0 0 data.length 1 false) ?_
           refine rvP C (.pv (.lit (.int .i64 (IntKind.i64.wrap (shrI .u64 (IntKind.u64.wrap (IntKind.i64.wrap (a + b))) 1))))) ?_
           refine rvP C (.pv (.lit (.int .i64 (IntKind.i64.wrap ((IntKind.i64.wrap ((IntKind.i64.wrap (shrI .u64 (IntKind.u64.wrap (IntKind.i64.wrap (a + b))) 1)) + m)) - start))))) ?_
           refine rvP C (.pv (.lit (.int .i64 b))) ?_
           refine rvP C (.fn g4 [] caps4) ?_
           refine rvc_un (rexec_callM hP C (b := 0) rfl rfl rfl (hrec (rec (rotate data start m (IntKind.i64.wrap ((IntKind.i64.wrap ((IntKind.i64.wrap (shrI .u64 (IntKind.u64.wrap (IntKind.i64.wrap (a + b))) 1)) + m)) - start)) cmp) a start (IntKind.i64.wrap (shrI .u64 (IntKind.u64.wrap (IntKind.i64.wrap (a + b))) 1)) cmp) (IntKind.i64.wrap (shrI .u64 (IntKind.u64.wrap (IntKind.i64.wrap (a + b))) 1)) (IntKind.i64.wrap ((IntKind.i64.wrap ((IntKind.i64.wrap (shrI .u64 (IntKind.u64.wrap (IntKind.i64.wrap (a + b))) 1)) + m)) - start)) b cmp g4 caps4 hp4 hw4 (by have he_ := wrapI ((IntKind.i64.wrap ((IntKind.i64.wrap (shrI .u64 (IntKind.u64.wrap (IntKind.i64.wrap (a + b))) 1)) + m)) - start) (by omega); have hlt_ := of_decide_eq_true ‹decide ((IntKind.i64.wrap (shrI .u64 (IntKind.u64.wrap (IntKind.i64.wrap (a + b))) 1)) < IntKind.i64.wrap ((IntKind.i64.wrap ((IntKind.i64.wrap (shrI .u64 (IntKind.u64.wrap (IntKind.i64.wrap (a + b))) 1)) + m)) - start)) = true›; have hgt_ := of_decide_eq_true ‹decide (IntKind.i64.wrap ((IntKind.i64.wrap ((IntKind.i64.wrap (shrI .u64 (IntKind.u64.wrap (IntKind.i64.wrap (a + b))) 1)) + m)) - start) < b) = true›; omega) (by have he_ := wrapI ((IntKind.i64.wrap ((IntKind.i64.wrap (shrI .u64 (IntKind.u64.wrap (IntKind.i64.wrap (a + b))) 1)) + m)) - start) (by omega); have hlt_ := of_decide_eq_true ‹decide ((IntKind.i64.wrap (shrI .u64 (IntKind.u64.wrap (IntKind.i64.wrap (a + b))) 1)) < IntKind.i64.wrap ((IntKind.i64.wrap ((IntKind.i64.wrap (shrI .u64 (IntKind.u64.wrap (IntKind.i64.wrap (a + b))) 1)) + m)) - start)) = true›; have hgt_ := of_decide_eq_true ‹decide (IntKind.i64.wrap ((IntKind.i64.wrap ((IntKind.i64.wrap (shrI .u64 (IntKind.u64.wrap (IntKind.i64.wrap (a + b))) 1)) + m)) - start) < b) = true›; omega) (by first | exact List.Perm.refl _ | exact rotate_perm (by have he_ := wrapI ((IntKind.i64.wrap ((IntKind.i64.wrap (shrI .u64 (IntKind.u64.wrap (IntKind.i64.wrap (a + b))) 1)) + m)) - start) (by omega); have hlt_ := of_decide_eq_true ‹decide (start < m) = true›; have hgt_ := of_decide_eq_true ‹decide (m < IntKind.i64.wrap ((IntKind.i64.wrap ((IntKind.i64.wrap (shrI .u64 (IntKind.u64.wrap (IntKind.i64.wrap (a + b))) 1)) + m)) - start)) = true›; omega) hL | exact hrp _ _ _ _ _ (by have he_ := wrapI ((IntKind.i64.wrap ((IntKind.i64.wrap (shrI .u64 (IntKind.u64.wrap (IntKind.i64.wrap (a + b))) 1)) + m)) - start) (by omega); have hlt_ := of_decide_eq_true ‹decide (a < start) = true›; have hgt_ := of_decide_eq_true ‹decide (start < (IntKind.i64.wrap (shrI .u64 (IntKind.u64.wrap (IntKind.i64.wrap (a + b))) 1))) = true›; omega) (by have he_ := wrapI ((IntKind.i64.wrap ((IntKind.i64.wrap (shrI .u64 (IntKind.u64.wrap (IntKind.i64.wrap (a + b))) 1)) + m)) - start) (by omega); have hlt_ := of_decide_eq_true ‹decide (a < start) = true›; have hgt_ := of_decide_eq_true ‹decide (start < (IntKind.i64.wrap (shrI .u64 (IntKind.u64.wrap (IntKind.i64.wrap (a + b))) 1))) = true›; omega) (List.Perm.refl _) | exact hrp _ _ _ _ _ (by have he_ := wrapI ((IntKind.i64.wrap ((IntKind.i64.wrap (shrI .u64 (IntKind.u64.wrap (IntKind.i64.wrap (a + b))) 1)) + m)) - start) (by omega); have hlt_ := of_decide_eq_true ‹decide (a < start) = true›; have hgt_ := of_decide_eq_true ‹decide (start < (IntKind.i64.wrap (shrI .u64 (IntKind.u64.wrap (IntKind.i64.wrap (a + b))) 1))) = true›; omega) (by have he_ := wrapI ((IntKind.i64.wrap ((IntKind.i64.wrap (shrI .u64 (IntKind.u64.wrap (IntKind.i64.wrap (a + b))) 1)) + m)) - start) (by omega); have hlt_ := of_decide_eq_true ‹decide (a < start) = true›; have hgt_ := of_decide_eq_true ‹decide (start < (IntKind.i64.wrap (shrI .u64 (IntKind.u64.wrap (IntKind.i64.wrap (a + b))) 1))) = true›; omega) (rotate_perm (by have he_ := wrapI ((IntKind.i64.wrap ((IntKind.i64.wrap (shrI .u64 (IntKind.u64.wrap (IntKind.i64.wrap (a + b))) 1)) + m)) - start) (by omega); have hlt_ := of_decide_eq_true ‹decide (start < m) = true›; have hgt_ := of_decide_eq_true ‹decide (m < IntKind.i64.wrap ((IntKind.i64.wrap ((IntKind.i64.wrap (shrI .u64 (IntKind.u64.wrap (IntKind.i64.wrap (a + b))) 1)) + m)) - start)) = true›; omega) hL))) (by have hl_ : (rec (rotate data start m (IntKind.i64.wrap ((IntKind.i64.wrap ((IntKind.i64.wrap (shrI .u64 (IntKind.u64.wrap (IntKind.i64.wrap (a + b))) 1)) + m)) - start)) cmp) a start (IntKind.i64.wrap (shrI .u64 (IntKind.u64.wrap (IntKind.i64.wrap (a + b))) 1)) cmp).length = data.length := (List.Perm.length_eq (by first | exact List.Perm.refl _ | exact rotate_perm (by have he_ := wrapI ((IntKind.i64.wrap ((IntKind.i64.wrap (shrI .u64 (IntKind.u64.wrap (IntKind.i64.wrap (a + b))) 1)) + m)) - start) (by omega); have hlt_ := of_decide_eq_true ‹decide (start < m) = true›; have hgt_ := of_decide_eq_true ‹decide (m < IntKind.i64.wrap ((IntKind.i64.wrap ((IntKind.i64.wrap (shrI .u64 (IntKind.u64.wrap (IntKind.i64.wrap (a + b))) 1)) + m)) - start)) = true›; omega) hL | exact hrp _ _ _ _ _ (by have he_ := wrapI ((IntKind.i64.wrap ((IntKind.i64.wrap (shrI .u64 (IntKind.u64.wrap (IntKind.i64.wrap (a + b))) 1)) + m)) - start) (by omega); have hlt_ := of_decide_eq_true ‹decide (a < start) = true›; have hgt_ := of_decide_eq_true ‹decide (start < (IntKind.i64.wrap (shrI .u64 (IntKind.u64.wrap (IntKind.i64.wrap (a + b))) 1))) = true›; omega) (by have he_ := wrapI ((IntKind.i64.wrap ((IntKind.i64.wrap (shrI .u64 (IntKind.u64.wrap (IntKind.i64.wrap (a + b))) 1)) + m)) - start) (by omega); have hlt_ := of_decide_eq_true ‹decide (a < start) = true›; have hgt_ := of_decide_eq_true ‹decide (start < (IntKind.i64.wrap (shrI .u64 (IntKind.u64.wrap (IntKind.i64.wrap (a + b))) 1))) = true›; omega) (List.Perm.refl _) | exact hrp _ _ _ _ _ (by have he_ := wrapI ((IntKind.i64.wrap ((IntKind.i64.wrap (shrI .u64 (IntKind.u64.wrap (IntKind.i64.wrap (a + b))) 1)) + m)) - start) (by omega); have hlt_ := of_decide_eq_true ‹decide (a < start) = true›; have hgt_ := of_decide_eq_true ‹decide (start < (IntKind.i64.wrap (shrI .u64 (IntKind.u64.wrap (IntKind.i64.wrap (a + b))) 1))) = true›; omega) (by have he_ := wrapI ((IntKind.i64.wrap ((IntKind.i64.wrap (shrI .u64 (IntKind.u64.wrap (IntKind.i64.wrap (a + b))) 1)) + m)) - start) (by omega); have hlt_ := of_decide_eq_true ‹decide (a < start) = true›; have hgt_ := of_decide_eq_true ‹decide (start < (IntKind.i64.wrap (shrI .u64 (IntKind.u64.wrap (IntKind.i64.wrap (a + b))) 1))) = true›; omega) (rotate_perm (by have he_ := wrapI ((IntKind.i64.wrap ((IntKind.i64.wrap (shrI .u64 (IntKind.u64.wrap (IntKind.i64.wrap (a + b))) 1)) + m)) - start) (by omega); have hlt_ := of_decide_eq_true ‹decide (start < m) = true›; have hgt_ := of_decide_eq_true ‹decide (m < IntKind.i64.wrap ((IntKind.i64.wrap ((IntKind.i64.wrap (shrI .u64 (IntKind.u64.wrap (IntKind.i64.wrap (a + b))) 1)) + m)) - start)) = true›; omega) hL))); simp only [AV.renL, AV.ren, hl_, AV.renL_none _ hw4]) rfl ?_)
           refine rvc_nil ?_
           subst hR
           exact ⟨.inr rfl, rfl, rfl⟩
          ·
           replace hR := of_false h79 hR
           refine Awp.skip ?_
           subst hR
           exact ⟨.inr rfl, rfl, rfl⟩
         ·
          replace hR := of_false h78 hR
          refine rvS ?_
          refine rvS ?_
          refine rvS ?_
          refine rvP C (.pv (.lit (.bool false))) ?_
          refine rvc_nil ?_
          refine Awp.condF (b := false) rfl rfl ?_
          refine Awp.skip ?_
          subst hR
          exact ⟨.inr rfl, rfl, rfl⟩
        ·
         replace hR := of_false h77 hR
         refine Awp.skip ?_
         refine Awp.consP C ?_
         refine rvP C (.pv (.lit (.int .i64 (IntKind.i64.wrap (shrI .u64 (IntKind.u64.wrap (IntKind.i64.wrap (a + b))) 1))))) ?_
         refine rvP C (.pv (.lit (.int .i64 (IntKind.i64.wrap ((IntKind.i64.wrap ((IntKind.i64.wrap (shrI .u64 (IntKind.u64.wrap (IntKind.i64.wrap (a + b))) 1)) + m)) - start))))) ?_
         refine rvP C (.pv (.lit (.bool (decide ((IntKind.i64.wrap (shrI .u64 (IntKind.u64.wrap (IntKind.i64.wrap (a + b))) 1)) < (IntKind.i64.wrap ((IntKind.i64.wrap ((IntKind.i64.wrap (shrI .u64 (IntKind.u64.wrap (IntKind.i64.wrap (a + b))) 1)) + m)) - start))))))) ?_
         refine rvP C (.pv (.lit (.bool (decide ((IntKind.i64.wrap (shrI .u64 (IntKind.u64.wrap (IntKind.i64.wrap (a + b))) 1)) < (IntKind.i64.wrap ((IntKind.i64.wrap ((IntKind.i64.wrap (shrI .u64 (IntKind.u64.wrap (IntKind.i64.wrap (a + b))) 1)) + m)) - start))))))) ?_
         refine rvc_case 209 (decide ((IntKind.i64.wrap (shrI .u64 (IntKind.u64.wrap (IntKind.i64.wrap (a + b))) 1)) < (IntKind.i64.wrap ((IntKind.i64.wrap ((IntKind.i64.wrap (shrI .u64 (IntKind.u64.wrap (IntKind.i64.wrap (a + b))) 1)) + m)) - start)))) rfl (fun h80 => ?_) (fun h80 => ?_)
         ·
          replace hR := of_true h80 hR
          refine rvO C (.pv (.lit (.int .i64 (IntKind.i64.wrap ((IntKind.i64.wrap ((IntKind.i64.wrap (shrI .u64 (IntKind.u64.wrap (IntKind.i64.wrap (a + b))) 1)) + m)) - start))))) ?_
          refine rvO C (.pv (.lit (.int .i64 b))) ?_
          refine rvO C (.pv (.lit (.bool (decide ((IntKind.i64.wrap ((IntKind.i64.wrap ((IntKind.i64.wrap (shrI .u64 (IntKind.u64.wrap (IntKind.i64.wrap (a + b))) 1)) + m)) - start)) < b))))) ?_
          refine rvP C (.pv (.lit (.bool (decide ((IntKind.i64.wrap ((IntKind.i64.wrap ((IntKind.i64.wrap (shrI .u64 (IntKind.u64.wrap (IntKind.i64.wrap (a + b))) 1)) + m)) - start)) < b))))) ?_
          refine rvc_nil ?_
          refine Awp.cond (b := (decide ((IntKind.i64.wrap ((IntKind.i64.wrap ((IntKind.i64.wrap (shrI .u64 (IntKind.u64.wrap (IntKind.i64.wrap (a + b))) 1)) + m)) - start)) < b))) rfl (fun h81 => ?_) (fun h81 => ?_)
          ·
           replace hR := of_true h81 hR
           refine Awp.region C (fun _ => .writer) (by kernel_rfl) ?_
           refine rvP C (.sl 0 0 data.length 1 false) ?_
           refine rvP C (.pv (.lit (.int .i64 (IntKind.i64.wrap (shrI .u64 (IntKind.u64.wrap (IntKind.i64.wrap (a + b))) 1))))) ?_
           refine rvP C (.pv (.lit (.int .i64 (IntKind.i64.wrap ((IntKind.i64.wrap ((IntKind.i64.wrap (shrI .u64 (IntKind.u64.wrap (IntKind.i64.wrap (a + b))) 1)) + m)) - start))))) ?_
           refine rvP C (.pv (.lit (.int .i64 b))) ?_
           refine rvP C (.fn g4 [] caps4) ?_
           refine rvc_un (rexec_callM hP C (b := 0) rfl rfl rfl (hrec (rotate data start m (IntKind.i64.wrap ((IntKind.i64.wrap ((IntKind.i64.wrap (shrI .u64 (IntKind.u64.wrap (IntKind.i64.wrap (a + b))) 1)) + m)) - start)) cmp) (IntKind.i64.wrap (shrI .u64 (IntKind.u64.wrap (IntKind.i64.wrap (a + b))) 1)) (IntKind.i64.wrap ((IntKind.i64.wrap ((IntKind.i64.wrap (shrI .u64 (IntKind.u64.wrap (IntKind.i64.wrap (a + b))) 1)) + m)) - start)) b cmp g4 caps4 hp4 hw4 (by have he_ := wrapI ((IntKind.i64.wrap ((IntKind.i64.wrap (shrI .u64 (IntKind.u64.wrap (IntKind.i64.wrap (a + b))) 1)) + m)) - start) (by omega); have hlt_ := of_decide_eq_true ‹decide ((IntKind.i64.wrap (shrI .u64 (IntKind.u64.wrap (IntKind.i64.wrap (a + b))) 1)) < IntKind.i64.wrap ((IntKind.i64.wrap ((IntKind.i64.wrap (shrI .u64 (IntKind.u64.wrap (IntKind.i64.wrap (a + b))) 1)) + m)) - start)) = true›; have hgt_ := of_decide_eq_true ‹decide (IntKind.i64.wrap ((IntKind.i64.wrap ((IntKind.i64.wrap (shrI .u64 (IntKind.u64.wrap (IntKind.i64.wrap (a + b))) 1)) + m)) - start) < b) = true›; omega) (by have he_ := wrapI ((IntKind.i64.wrap ((IntKind.i64.wrap (shrI .u64 (IntKind.u64.wrap (IntKind.i64.wrap (a + b))) 1)) + m)) - start) (by omega); have hlt_ := of_decide_eq_true ‹decide ((IntKind.i64.wrap (shrI .u64 (IntKind.u64.wrap (IntKind.i64.wrap (a + b))) 1)) < IntKind.i64.wrap ((IntKind.i64.wrap ((IntKind.i64.wrap (shrI .u64 (IntKind.u64.wrap (IntKind.i64.wrap (a + b))) 1)) + m)) - start)) = true›; have hgt_ := of_decide_eq_true ‹decide (IntKind.i64.wrap ((IntKind.i64.wrap ((IntKind.i64.wrap (shrI .u64 (IntKind.u64.wrap (IntKind.i64.wrap (a + b))) 1)) + m)) - start) < b) = true›; omega) (by first | exact List.Perm.refl _ | exact rotate_perm (by have he_ := wrapI ((IntKind.i64.wrap ((IntKind.i64.wrap (shrI .u64 (IntKind.u64.wrap (IntKind.i64.wrap (a + b))) 1)) + m)) - start) (by omega); have hlt_ := of_decide_eq_true ‹decide (start < m) = true›; have hgt_ := of_decide_eq_true ‹decide (m < IntKind.i64.wrap ((IntKind.i64.wrap ((IntKind.i64.wrap (shrI .u64 (IntKind.u64.wrap (IntKind.i64.wrap (a + b))) 1)) + m)) - start)) = true›; omega) hL | exact hrp _ _ _ _ _ (by have he_ := wrapI ((IntKind.i64.wrap ((IntKind.i64.wrap (shrI .u64 (IntKind.u64.wrap (IntKind.i64.wrap (a + b))) 1)) + m)) - start) (by omega); have hlt_ := of_decide_eq_true ‹decide (a < start) = true›; have hgt_ := of_decide_eq_true ‹decide (start < (IntKind.i64.wrap (shrI .u64 (IntKind.u64.wrap (IntKind.i64.wrap (a + b))) 1))) = true›; omega) (by have he_ := wrapI ((IntKind.i64.wrap ((IntKind.i64.wrap (shrI .u64 (IntKind.u64.wrap (IntKind.i64.wrap (a + b))) 1)) + m)) - start) (by omega); have hlt_ := of_decide_eq_true ‹decide (a < start) = true›; have hgt_ := of_decide_eq_true ‹decide (start < (IntKind.i64.wrap (shrI .u64 (IntKind.u64.wrap (IntKind.i64.wrap (a + b))) 1))) = true›; omega) (List.Perm.refl _) | exact hrp _ _ _ _ _ (by have he_ := wrapI ((IntKind.i64.wrap ((IntKind.i64.wrap (shrI .u64 (IntKind.u64.wrap (IntKind.i64.wrap (a + b))) 1)) + m)) - start) (by omega); have hlt_ := of_decide_eq_true ‹decide (a < start) = true›; have hgt_ := of_decide_eq_true ‹decide (start < (IntKind.i64.wrap (shrI .u64 (IntKind.u64.wrap (IntKind.i64.wrap (a + b))) 1))) = true›; omega) (by have he_ := wrapI ((IntKind.i64.wrap ((IntKind.i64.wrap (shrI .u64 (IntKind.u64.wrap (IntKind.i64.wrap (a + b))) 1)) + m)) - start) (by omega); have hlt_ := of_decide_eq_true ‹decide (a < start) = true›; have hgt_ := of_decide_eq_true ‹decide (start < (IntKind.i64.wrap (shrI .u64 (IntKind.u64.wrap (IntKind.i64.wrap (a + b))) 1))) = true›; omega) (rotate_perm (by have he_ := wrapI ((IntKind.i64.wrap ((IntKind.i64.wrap (shrI .u64 (IntKind.u64.wrap (IntKind.i64.wrap (a + b))) 1)) + m)) - start) (by omega); have hlt_ := of_decide_eq_true ‹decide (start < m) = true›; have hgt_ := of_decide_eq_true ‹decide (m < IntKind.i64.wrap ((IntKind.i64.wrap ((IntKind.i64.wrap (shrI .u64 (IntKind.u64.wrap (IntKind.i64.wrap (a + b))) 1)) + m)) - start)) = true›; omega) hL))) (by have hl_ : (rotate data start m (IntKind.i64.wrap ((IntKind.i64.wrap ((IntKind.i64.wrap (shrI .u64 (IntKind.u64.wrap (IntKind.i64.wrap (a + b))) 1)) + m)) - start)) cmp).length = data.length := (List.Perm.length_eq (by first | exact List.Perm.refl _ | exact rotate_perm (by have he_ := wrapI ((IntKind.i64.wrap ((IntKind.i64.wrap (shrI .u64 (IntKind.u64.wrap (IntKind.i64.wrap (a + b))) 1)) + m)) - start) (by omega); have hlt_ := of_decide_eq_true ‹decide (start < m) = true›; have hgt_ := of_decide_eq_true ‹decide (m < IntKind.i64.wrap ((IntKind.i64.wrap ((IntKind.i64.wrap (shrI .u64 (IntKind.u64.wrap (IntKind.i64.wrap (a + b))) 1)) + m)) - start)) = true›; omega) hL | exact hrp _ _ _ _ _ (by have he_ := wrapI ((IntKind.i64.wrap ((IntKind.i64.wrap (shrI .u64 (IntKind.u64.wrap (IntKind.i64.wrap (a + b))) 1)) + m)) - start) (by omega); have hlt_ := of_decide_eq_true ‹decide (a < start) = true›; have hgt_ := of_decide_eq_true ‹decide (start < (IntKind.i64.wrap (shrI .u64 (IntKind.u64.wrap (IntKind.i64.wrap (a + b))) 1))) = true›; omega) (by have he_ := wrapI ((IntKind.i64.wrap ((IntKind.i64.wrap (shrI .u64 (IntKind.u64.wrap (IntKind.i64.wrap (a + b))) 1)) + m)) - start) (by omega); have hlt_ := of_decide_eq_true ‹decide (a < start) = true›; have hgt_ := of_decide_eq_true ‹decide (start < (IntKind.i64.wrap (shrI .u64 (IntKind.u64.wrap (IntKind.i64.wrap (a + b))) 1))) = true›; omega) (List.Perm.refl _) | exact hrp _ _ _ _ _ (by have he_ := wrapI ((IntKind.i64.wrap ((IntKind.i64.wrap (shrI .u64 (IntKind.u64.wrap (IntKind.i64.wrap (a + b))) 1)) + m)) - start) (by omega); have hlt_ := of_decide_eq_true ‹decide (a < start) = true›; have hgt_ := of_decide_eq_true ‹decide (start < (IntKind.i64.wrap (shrI .u64 (IntKind.u64.wrap (IntKind.i64.wrap (a + b))) 1))) = true›; omega) (by have he_ := wrapI ((IntKind.i64.wrap ((IntKind.i64.wrap (shrI .u64 (IntKind.u64.wrap (IntKind.i64.wrap (a + b))) 1)) + m)) - start) (by omega); have hlt_ := of_decide_eq_true ‹decide (a < start) = true›; have hgt_ := of_decide_eq_true ‹decide (start < (IntKind.i64.wrap (shrI .u64 (IntKind.u64.wrap (IntKind.i64.wrap (a + b))) 1))) = true›; omega) (rotate_perm (by have he_ := wrapI ((IntKind.i64.wrap ((IntKind.i64.wrap (shrI .u64 (IntKind.u64.wrap (IntKind.i64.wrap (a + b))) 1)) + m)) - start) (by omega); have hlt_ := of_decide_eq_true ‹decide (start < m) = true›; have hgt_ := of_decide_eq_true ‹decide (m < IntKind.i64.wrap ((IntKind.i64.wrap ((IntKind.i64.wrap (shrI .u64 (IntKind.u64.wrap (IntKind.i64.wrap (a + b))) 1)) + m)) - start)) = true›; omega) hL))); simp only [AV.renL, AV.ren, hl_, AV.renL_none _ hw4]) rfl ?_)
           refine rvc_nil ?_
           subst hR
           exact ⟨.inr rfl, rfl, rfl⟩
          ·
           replace hR := of_false h81 hR
           refine Awp.skip ?_
           subst hR
           exact ⟨.inr rfl, rfl, rfl⟩
         ·
          replace hR := of_false h80 hR
          refine rvS ?_
          refine rvS ?_
          refine rvS ?_
          refine rvP C (.pv (.lit (.bool false))) ?_
          refine rvc_nil ?_
          refine Awp.condF (b := false) rfl rfl ?_
          refine Awp.skip ?_
          subst hR
          exact ⟨.inr rfl, rfl, rfl⟩
       ·
        replace hR := of_false h76 hR
        refine rvS ?_
        refine rvS ?_
        refine rvS ?_
        refine rvP C (.pv (.lit (.bool false))) ?_
        refine rvc_nil ?_
        refine Awp.condF (b := false) rfl rfl ?_
        refine Awp.skip ?_
        refine Awp.consP C ?_
        refine rvP C (.pv (.lit (.int .i64 (IntKind.i64.wrap (shrI .u64 (IntKind.u64.wrap (IntKind.i64.wrap (a + b))) 1))))) ?_
        refine rvP C (.pv (.lit (.int .i64 (IntKind.i64.wrap ((IntKind.i64.wrap ((IntKind.i64.wrap (shrI .u64 (IntKind.u64.wrap (IntKind.i64.wrap (a + b))) 1)) + m)) - start))))) ?_
        refine rvP C (.pv (.lit (.bool (decide ((IntKind.i64.wrap (shrI .u64 (IntKind.u64.wrap (IntKind.i64.wrap (a + b))) 1)) < (IntKind.i64.wrap ((IntKind.i64.wrap ((IntKind.i64.wrap (shrI .u64 (IntKind.u64.wrap (IntKind.i64.wrap (a + b))) 1)) + m)) - start))))))) ?_
        refine rvP C (.pv (.lit (.bool (decide ((IntKind.i64.wrap (shrI .u64 (IntKind.u64.wrap (IntKind.i64.wrap (a + b))) 1)) < (IntKind.i64.wrap ((IntKind.i64.wrap ((IntKind.i64.wrap (shrI .u64 (IntKind.u64.wrap (IntKind.i64.wrap (a + b))) 1)) + m)) - start))))))) ?_
        refine rvc_case 209 (decide ((IntKind.i64.wrap (shrI .u64 (IntKind.u64.wrap (IntKind.i64.wrap (a + b))) 1)) < (IntKind.i64.wrap ((IntKind.i64.wrap ((IntKind.i64.wrap (shrI .u64 (IntKind.u64.wrap (IntKind.i64.wrap (a + b))) 1)) + m)) - start)))) rfl (fun h82 => ?_) (fun h82 => ?_)
        ·
         replace hR := of_true h82 hR
         refine rvO C (.pv (.lit (.int .i64 (IntKind.i64.wrap ((IntKind.i64.wrap ((IntKind.i64.wrap (shrI .u64 (IntKind.u64.wrap (IntKind.i64.wrap (a + b))) 1)) + m)) - start))))) ?_
         refine rvO C (.pv (.lit (.int .i64 b))) ?_
         refine rvO C (.pv (.lit (.bool (decide ((IntKind.i64.wrap ((IntKind.i64.wrap ((IntKind.i64.wrap (shrI .u64 (IntKind.u64.wrap (IntKind.i64.wrap (a + b))) 1)) + m)) - start)) < b))))) ?_
         refine rvP C (.pv (.lit (.bool (decide ((IntKind.i64.wrap ((IntKind.i64.wrap ((IntKind.i64.wrap (shrI .u64 (IntKind.u64.wrap (IntKind.i64.wrap (a + b))) 1)) + m)) - start)) < b))))) ?_
         refine rvc_nil ?_
         refine Awp.cond (b := (decide ((IntKind.i64.wrap ((IntKind.i64.wrap ((IntKind.i64.wrap (shrI .u64 (IntKind.u64.wrap (IntKind.i64.wrap (a + b))) 1)) + m)) - start)) < b))) rfl (fun h83 => ?_) (fun h83 => ?_)
         ·
          replace hR := of_true h83 hR
          refine Awp.region C (fun _ => .writer) (by kernel_rfl) ?_
          refine rvP C (.sl 0 0 data.length 1 false) ?_
          refine rvP C (.pv (.lit (.int .i64 (IntKind.i64.wrap (shrI .u64 (IntKind.u64.wrap (IntKind.i64.wrap (a + b))) 1))))) ?_
          refine rvP C (.pv (.lit (.int .i64 (IntKind.i64.wrap ((IntKind.i64.wrap ((IntKind.i64.wrap (shrI .u64 (IntKind.u64.wrap (IntKind.i64.wrap (a + b))) 1)) + m)) - start))))) ?_
          refine rvP C (.pv (.lit (.int .i64 b))) ?_
          refine rvP C (.fn g4 [] caps4) ?_
          refine rvc_un (rexec_callM hP C (b := 0) rfl rfl rfl (hrec (rotate data start m (IntKind.i64.wrap ((IntKind.i64.wrap ((IntKind.i64.wrap (shrI .u64 (IntKind.u64.wrap (IntKind.i64.wrap (a + b))) 1)) + m)) - start)) cmp) (IntKind.i64.wrap (shrI .u64 (IntKind.u64.wrap (IntKind.i64.wrap (a + b))) 1)) (IntKind.i64.wrap ((IntKind.i64.wrap ((IntKind.i64.wrap (shrI .u64 (IntKind.u64.wrap (IntKind.i64.wrap (a + b))) 1)) + m)) - start)) b cmp g4 caps4 hp4 hw4 (by have he_ := wrapI ((IntKind.i64.wrap ((IntKind.i64.wrap (shrI .u64 (IntKind.u64.wrap (IntKind.i64.wrap (a + b))) 1)) + m)) - start) (by omega); have hlt_ := of_decide_eq_true ‹decide ((IntKind.i64.wrap (shrI .u64 (IntKind.u64.wrap (IntKind.i64.wrap (a + b))) 1)) < IntKind.i64.wrap ((IntKind.i64.wrap ((IntKind.i64.wrap (shrI .u64 (IntKind.u64.wrap (IntKind.i64.wrap (a + b))) 1)) + m)) - start)) = true›; have hgt_ := of_decide_eq_true ‹decide (IntKind.i64.wrap ((IntKind.i64.wrap ((IntKind.i64.wrap (shrI .u64 (IntKind.u64.wrap (IntKind.i64.wrap (a + b))) 1)) + m)) - start) < b) = true›; omega) (by have he_ := wrapI ((IntKind.i64.wrap ((IntKind.i64.wrap (shrI .u64 (IntKind.u64.wrap (IntKind.i64.wrap (a + b))) 1)) + m)) - start) (by omega); have hlt_ := of_decide_eq_true ‹decide ((IntKind.i64.wrap (shrI .u64 (IntKind.u64.wrap (IntKind.i64.wrap (a + b))) 1)) < IntKind.i64.wrap ((IntKind.i64.wrap ((IntKind.i64.wrap (shrI .u64 (IntKind.u64.wrap (IntKind.i64.wrap (a + b))) 1)) + m)) - start)) = true›; have hgt_ := of_decide_eq_true ‹decide (IntKind.i64.wrap ((IntKind.i64.wrap ((IntKind.i64.wrap (shrI .u64 (IntKind.u64.wrap (IntKind.i64.wrap (a + b))) 1)) + m)) - start) < b) = true›; omega) (by first | exact List.Perm.refl _ | exact rotate_perm (by have he_ := wrapI ((IntKind.i64.wrap ((IntKind.i64.wrap (shrI .u64 (IntKind.u64.wrap (IntKind.i64.wrap (a + b))) 1)) + m)) - start) (by omega); have hlt_ := of_decide_eq_true ‹decide (start < m) = true›; have hgt_ := of_decide_eq_true ‹decide (m < IntKind.i64.wrap ((IntKind.i64.wrap ((IntKind.i64.wrap (shrI .u64 (IntKind.u64.wrap (IntKind.i64.wrap (a + b))) 1)) + m)) - start)) = true›; omega) hL | exact hrp _ _ _ _ _ (by have he_ := wrapI ((IntKind.i64.wrap ((IntKind.i64.wrap (shrI .u64 (IntKind.u64.wrap (IntKind.i64.wrap (a + b))) 1)) + m)) - start) (by omega); have hlt_ := of_decide_eq_true ‹decide (a < start) = true›; have hgt_ := of_decide_eq_true ‹decide (start < (IntKind.i64.wrap (shrI .u64 (IntKind.u64.wrap (IntKind.i64.wrap (a + b))) 1))) = true›; omega) (by have he_ := wrapI ((IntKind.i64.wrap ((IntKind.i64.wrap (shrI .u64 (IntKind.u64.wrap (IntKind.i64.wrap (a + b))) 1)) + m)) - start) (by omega); have hlt_ := of_decide_eq_true ‹decide (a < start) = true›; have hgt_ := of_decide_eq_true ‹decide (start < (IntKind.i64.wrap (shrI .u64 (IntKind.u64.wrap (IntKind.i64.wrap (a + b))) 1))) = true›; omega) (List.Perm.refl _) | exact hrp _ _ _ _ _ (by have he_ := wrapI ((IntKind.i64.wrap ((IntKind.i64.wrap (shrI .u64 (IntKind.u64.wrap (IntKind.i64.wrap (a + b))) 1)) + m)) - start) (by omega); have hlt_ := of_decide_eq_true ‹decide (a < start) = true›; have hgt_ := of_decide_eq_true ‹decide (start < (IntKind.i64.wrap (shrI .u64 (IntKind.u64.wrap (IntKind.i64.wrap (a + b))) 1))) = true›; omega) (by have he_ := wrapI ((IntKind.i64.wrap ((IntKind.i64.wrap (shrI .u64 (IntKind.u64.wrap (IntKind.i64.wrap (a + b))) 1)) + m)) - start) (by omega); have hlt_ := of_decide_eq_true ‹decide (a < start) = true›; have hgt_ := of_decide_eq_true ‹decide (start < (IntKind.i64.wrap (shrI .u64 (IntKind.u64.wrap (IntKind.i64.wrap (a + b))) 1))) = true›; omega) (rotate_perm (by have he_ := wrapI ((IntKind.i64.wrap ((IntKind.i64.wrap (shrI .u64 (IntKind.u64.wrap (IntKind.i64.wrap (a + b))) 1)) + m)) - start) (by omega); have hlt_ := of_decide_eq_true ‹decide (start < m) = true›; have hgt_ := of_decide_eq_true ‹decide (m < IntKind.i64.wrap ((IntKind.i64.wrap ((IntKind.i64.wrap (shrI .u64 (IntKind.u64.wrap (IntKind.i64.wrap (a + b))) 1)) + m)) - start)) = true›; omega) hL))) (by have hl_ : (rotate data start m (IntKind.i64.wrap ((IntKind.i64.wrap ((IntKind.i64.wrap (shrI .u64 (IntKind.u64.wrap (IntKind.i64.wrap (a + b))) 1)) + m)) - start)) cmp).length = data.length := (List.Perm.length_eq (by first | exact List.Perm.refl _ | exact rotate_perm (by have he_ := wrapI ((IntKind.i64.wrap ((IntKind.i64.wrap (shrI .u64 (IntKind.u64.wrap (IntKind.i64.wrap (a + b))) 1)) + m)) - start) (by omega); have hlt_ := of_decide_eq_true ‹decide (start < m) = true›; have hgt_ := of_decide_eq_true ‹decide (m < IntKind.i64.wrap ((IntKind.i64.wrap ((IntKind.i64.wrap (shrI .u64 (IntKind.u64.wrap (IntKind.i64.wrap (a + b))) 1)) + m)) - start)) = true›; omega) hL | exact hrp _ _ _ _ _ (by have he_ := wrapI ((IntKind.i64.wrap ((IntKind.i64.wrap (shrI .u64 (IntKind.u64.wrap (IntKind.i64.wrap (a + b))) 1)) + m)) - start) (by omega); have hlt_ := of_decide_eq_true ‹decide (a < start) = true›; have hgt_ := of_decide_eq_true ‹decide (start < (IntKind.i64.wrap (shrI .u64 (IntKind.u64.wrap (IntKind.i64.wrap (a + b))) 1))) = true›; omega) (by have he_ := wrapI ((IntKind.i64.wrap ((IntKind.i64.wrap (shrI .u64 (IntKind.u64.wrap (IntKind.i64.wrap (a + b))) 1)) + m)) - start) (by omega); have hlt_ := of_decide_eq_true ‹decide (a < start) = true›; have hgt_ := of_decide_eq_true ‹decide (start < (IntKind.i64.wrap (shrI .u64 (IntKind.u64.wrap (IntKind.i64.wrap (a + b))) 1))) = true›; omega) (List.Perm.refl _) | exact hrp _ _ _ _ _ (by have he_ := wrapI ((IntKind.i64.wrap ((IntKind.i64.wrap (shrI .u64 (IntKind.u64.wrap (IntKind.i64.wrap (a + b))) 1)) + m)) - start) (by omega); have hlt_ := of_decide_eq_true ‹decide (a < start) = true›; have hgt_ := of_decide_eq_true ‹decide (start < (IntKind.i64.wrap (shrI .u64 (IntKind.u64.wrap (IntKind.i64.wrap (a + b))) 1))) = true›; omega) (by have he_ := wrapI ((IntKind.i64.wrap ((IntKind.i64.wrap (shrI .u64 (IntKind.u64.wrap (IntKind.i64.wrap (a + b))) 1)) + m)) - start) (by omega); have hlt_ := of_decide_eq_true ‹decide (a < start) = true›; have hgt_ := of_decide_eq_true ‹decide (start < (IntKind.i64.wrap (shrI .u64 (IntKind.u64.wrap (IntKind.i64.wrap (a + b))) 1))) = true›; omega) (rotate_perm (by have he_ := wrapI ((IntKind.i64.wrap ((IntKind.i64.wrap (shrI .u64 (IntKind.u64.wrap (IntKind.i64.wrap (a + b))) 1)) + m)) - start) (by omega); have hlt_ := of_decide_eq_true ‹decide (start < m) = true›; have hgt_ := of_decide_eq_true ‹decide (m < IntKind.i64.wrap ((IntKind.i64.wrap ((IntKind.i64.wrap (shrI .u64 (IntKind.u64.wrap (IntKind.i64.wrap (a + b))) 1)) + m)) - start)) = true›; omega) hL))); simp only [AV.renL, AV.ren, hl_, AV.renL_none _ hw4]) rfl ?_)
          refine rvc_nil ?_
          subst hR
          exact ⟨.inr rfl, rfl, rfl⟩
         ·
          replace hR := of_false h83 hR
          refine Awp.skip ?_
          subst hR
          exact ⟨.inr rfl, rfl, rfl⟩
        ·
         replace hR := of_false h82 hR
         refine rvS ?_
         refine rvS ?_
         refine rvS ?_
         refine rvP C (.pv (.lit (.bool false))) ?_
         refine rvc_nil ?_
         refine Awp.condF (b := false) rfl rfl ?_
         refine Awp.skip ?_
         subst hR
         exact ⟨.inr rfl, rfl, rfl⟩
      ·
       replace hR := of_false h75 hR
       refine Awp.skip ?_
       refine Awp.seq ?_
       refine Awp.consP C ?_
       refine rvP C (.pv (.lit (.int .i64 a))) ?_
       refine rvP C (.pv (.lit (.int .i64 start))) ?_
       refine rvP C (.pv (.lit (.bool (decide (a < start))))) ?_
       refine rvP C (.pv (.lit (.bool (decide (a < start))))) ?_
       refine rvc_case 195 (decide (a < start)) rfl (fun h84 => ?_) (fun h84 => ?_)
       ·
        replace hR := of_true h84 hR
        refine rvO C (.pv (.lit (.int .i64 start))) ?_
        refine rvO C (.pv (.lit (.int .i64 (IntKind.i64.wrap (shrI .u64 (IntKind.u64.wrap (IntKind.i64.wrap (a + b))) 1))))) ?_
        refine rvO C (.pv (.lit (.bool (decide (start < (IntKind.i64.wrap (shrI .u64 (IntKind.u64.wrap (IntKind.i64.wrap (a + b))) 1))))))) ?_
        refine rvP C (.pv (.lit (.bool (decide (start < (IntKind.i64.wrap (shrI .u64 (IntKind.u64.wrap (IntKind.i64.wrap (a + b))) 1))))))) ?_
        refine rvc_nil ?_
        refine Awp.cond (b := (decide (start < (IntKind.i64.wrap (shrI .u64 (IntKind.u64.wrap (IntKind.i64.wrap (a + b))) 1))))) rfl (fun h85 => ?_) (fun h85 => ?_)
        ·
         replace hR := of_true h85 hR
         refine Awp.region C (fun _ => .writer) (by kernel_rfl) ?_
         refine rvP C (.sl 0 0 data.length 1 false) ?_
         refine rvP C (.pv (.lit (.int .i64 a))) ?_
         refine rvP C (.pv (.lit (.int .i64 start))) ?_
         refine rvP C (.pv (.lit (.int .i64 (IntKind.i64.wrap (shrI .u64 (IntKind.u64.wrap (IntKind.i64.wrap (a + b))) 1))))) ?_
         refine rvP C (.fn g4 [] caps4) ?_
         refine rvc_un (rexec_callM hP C (b := 0) rfl rfl rfl (hrec data a start (IntKind.i64.wrap (shrI .u64 (IntKind.u64.wrap (IntKind.i64.wrap (a + b))) 1)) cmp g4 caps4 hp4 hw4 (by have he_ := wrapI ((IntKind.i64.wrap ((IntKind.i64.wrap (shrI .u64 (IntKind.u64.wrap (IntKind.i64.wrap (a + b))) 1)) + m)) - start) (by omega); have hlt_ := of_decide_eq_true ‹decide (a < start) = true›; have hgt_ := of_decide_eq_true ‹decide (start < (IntKind.i64.wrap (shrI .u64 (IntKind.u64.wrap (IntKind.i64.wrap (a + b))) 1))) = true›; omega) (by have he_ := wrapI ((IntKind.i64.wrap ((IntKind.i64.wrap (shrI .u64 (IntKind.u64.wrap (IntKind.i64.wrap (a + b))) 1)) + m)) - start) (by omega); have hlt_ := of_decide_eq_true ‹decide (a < start) = true›; have hgt_ := of_decide_eq_true ‹decide (start < (IntKind.i64.wrap (shrI .u64 (IntKind.u64.wrap (IntKind.i64.wrap (a + b))) 1))) = true›; omega) (by first | exact List.Perm.refl _ | exact rotate_perm (by have he_ := wrapI ((IntKind.i64.wrap ((IntKind.i64.wrap (shrI .u64 (IntKind.u64.wrap (IntKind.i64.wrap (a + b))) 1)) + m)) - start) (by omega); have hlt_ := of_decide_eq_true ‹decide (start < m) = true›; have hgt_ := of_decide_eq_true ‹decide (m < IntKind.i64.wrap ((IntKind.i64.wrap ((IntKind.i64.wrap (shrI .u64 (IntKind.u64.wrap (IntKind.i64.wrap (a + b))) 1)) + m)) - start)) = true›; omega) hL)) (by simp only [AV.renL, AV.ren, AV.renL_none _ hw4]) rfl ?_)
         refine rvc_nil ?_
         refine Awp.consP C ?_
         refine rvP C (.pv (.lit (.int .i64 (IntKind.i64.wrap (shrI .u64 (IntKind.u64.wrap (IntKind.i64.wrap (a + b))) 1))))) ?_
         refine rvP C (.pv (.lit (.int .i64 (IntKind.i64.wrap ((IntKind.i64.wrap ((IntKind.i64.wrap (shrI .u64 (IntKind.u64.wrap (IntKind.i64.wrap (a + b))) 1)) + m)) - start))))) ?_
         refine rvP C (.pv (.lit (.bool (decide ((IntKind.i64.wrap (shrI .u64 (IntKind.u64.wrap (IntKind.i64.wrap (a + b))) 1)) < (IntKind.i64.wrap ((IntKind.i64.wrap ((IntKind.i64.wrap (shrI .u64 (IntKind.u64.wrap (IntKind.i64.wrap (a + b))) 1)) + m)) - start))))))) ?_
         refine rvP C (.pv (.lit (.bool (decide ((IntKind.i64.wrap (shrI .u64 (IntKind.u64.wrap (IntKind.i64.wrap (a + b))) 1)) < (IntKind.i64.wrap ((IntKind.i64.wrap ((IntKind.i64.wrap (shrI .u64 (IntKind.u64.wrap (IntKind.i64.wrap (a + b))) 1)) + m)) - start))))))) ?_
         refine rvc_case 209 (decide ((IntKind.i64.wrap (shrI .u64 (IntKind.u64.wrap (IntKind.i64.wrap (a + b))) 1)) < (IntKind.i64.wrap ((IntKind.i64.wrap ((IntKind.i64.wrap (shrI .u64 (IntKind.u64.wrap (IntKind.i64.wrap (a + b))) 1)) + m)) - start)))) rfl (fun h86 => ?_) (fun h86 => ?_)
         ·
          replace hR := of_true h86 hR
          refine rvO C (.pv (.lit (.int .i64 (IntKind.i64.wrap ((IntKind.i64.wrap ((IntKind.i64.wrap (shrI .u64 (IntKind.u64.wrap (IntKind.i64.wrap (a + b))) 1)) + m)) - start))))) ?_
          refine rvO C (.pv (.lit (.int .i64 b))) ?_
          refine rvO C (.pv (.lit (.bool (decide ((IntKind.i64.wrap ((IntKind.i64.wrap ((IntKind.i64.wrap (shrI .u64 (IntKind.u64.wrap (IntKind.i64.wrap (a + b))) 1)) + m)) - start)) < b))))) ?_
          refine rvP C (.pv (.lit (.bool (decide ((IntKind.i64.wrap ((IntKind.i64.wrap ((IntKind.i64.wrap (shrI .u64 (IntKind.u64.wrap (IntKind.i64.wrap (a + b))) 1)) + m)) - start)) < b))))) ?_
          refine rvc_nil ?_
          refine Awp.cond (b := (decide ((IntKind.i64.wrap ((IntKind.i64.wrap ((IntKind.i64.wrap (shrI .u64 (IntKind.u64.wrap (IntKind.i64.wrap (a + b))) 1)) + m)) - start)) < b))) rfl (fun h87 => ?_) (fun h87 => ?_)
          ·
           replace hR := of_true h87 hR
           refine Awp.region C (fun _ => .writer) (by kernel_rfl) ?_
           refine rvP C (.sl 0 0 data.length 1 false) ?_
           refine rvP C (.pv (.lit (.int .i64 (IntKind.i64.wrap (shrI .u64 (IntKind.u64.wrap (IntKind.i64.wrap (a + b))) 1))))) ?_
           refine rvP C (.pv (.lit (.int .i64 (IntKind.i64.wrap ((IntKind.i64.wrap ((IntKind.i64.wrap (shrI .u64 (IntKind.u64.wrap (IntKind.i64.wrap (a + b))) 1)) + m)) - start))))) ?_
           refine rvP C (.pv (.lit (.int .i64 b))) ?_
           refine rvP C (.fn g4 [] caps4) ?_
           refine rvc_un (rexec_callM hP C (b := 0) rfl rfl rfl (hrec (rec data a start (IntKind.i64.wrap (shrI .u64 (IntKind.u64.wrap (IntKind.i64.wrap (a + b))) 1)) cmp) (IntKind.i64.wrap (shrI .u64 (IntKind.u64.wrap (IntKind.i64.wrap (a + b))) 1)) (IntKind.i64.wrap ((IntKind.i64.wrap ((IntKind.i64.wrap (shrI .u64 (IntKind.u64.wrap (IntKind.i64.wrap (a + b))) 1)) + m)) - start)) b cmp g4 caps4 hp4 hw4 (by have he_ := wrapI ((IntKind.i64.wrap ((IntKind.i64.wrap (shrI .u64 (IntKind.u64.wrap (IntKind.i64.wrap (a + b))) 1)) + m)) - start) (by omega); have hlt_ := of_decide_eq_true ‹decide ((IntKind.i64.wrap (shrI .u64 (IntKind.u64.wrap (IntKind.i64.wrap (a + b))) 1)) < IntKind.i64.wrap ((IntKind.i64.wrap ((IntKind.i64.wrap (shrI .u64 (IntKind.u64.wrap (IntKind.i64.wrap (a + b))) 1)) + m)) - start)) = true›; have hgt_ := of_decide_eq_true ‹decide (IntKind.i64.wrap ((IntKind.i64.wrap ((IntKind.i64.wrap (shrI .u64 (IntKind.u64.wrap (IntKind.i64.wrap (a + b))) 1)) + m)) - start) < b) = true›; omega) (by have he_ := wrapI ((IntKind.i64.wrap ((IntKind.i64.wrap (shrI .u64 (IntKind.u64.wrap (IntKind.i64.wrap (a + b))) 1)) + m)) - start) (by omega); have hlt_ := of_decide_eq_true ‹decide ((IntKind.i64.wrap (shrI .u64 (IntKind.u64.wrap (IntKind.i64.wrap (a + b))) 1)) < IntKind.i64.wrap ((IntKind.i64.wrap ((IntKind.i64.wrap (shrI .u64 (IntKind.u64.wrap (IntKind.i64.wrap (a + b))) 1)) + m)) - start)) = true›; have hgt_ := of_decide_eq_true ‹decide (IntKind.i64.wrap ((IntKind.i64.wrap ((IntKind.i64.wrap (shrI .u64 (IntKind.u64.wrap (IntKind.i64.wrap (a + b))) 1)) + m)) - start) < b) = true›; omega) (by first | exact List.Perm.refl _ | exact rotate_perm (by have he_ := wrapI ((IntKind.i64.wrap ((IntKind.i64.wrap (shrI .u64 (IntKind.u64.wrap (IntKind.i64.wrap (a + b))) 1)) + m)) - start) (by omega); have hlt_ := of_decide_eq_true ‹decide (start < m) = true›; have hgt_ := of_decide_eq_true ‹decide (m < IntKind.i64.wrap ((IntKind.i64.wrap ((IntKind.i64.wrap (shrI .u64 (IntKind.u64.wrap (IntKind.i64.wrap (a + b))) 1)) + m)) - start)) = true›; omega) hL | exact hrp _ _ _ _ _ (by have he_ := wrapI ((IntKind.i64.wrap ((IntKind.i64.wrap (shrI .u64 (IntKind.u64.wrap (IntKind.i64.wrap (a + b))) 1)) + m)) - start) (by omega); have hlt_ := of_decide_eq_true ‹decide (a < start) = true›; have hgt_ := of_decide_eq_true ‹decide (start < (IntKind.i64.wrap (shrI .u64 (IntKind.u64.wrap (IntKind.i64.wrap (a + b))) 1))) = true›; omega) (by have he_ := wrapI ((IntKind.i64.wrap ((IntKind.i64.wrap (shrI .u64 (IntKind.u64.wrap (IntKind.i64.wrap (a + b))) 1)) + m)) - start) (by omega); have hlt_ := of_decide_eq_true ‹decide (a < start) = true›; have hgt_ := of_decide_eq_true ‹decide (start < (IntKind.i64.wrap (shrI .u64 (IntKind.u64.wrap (IntKind.i64.wrap (a + b))) 1))) = true›; omega) (List.Perm.refl _) | exact hrp _ _ _ _ _ (by have he_ := wrapI ((IntKind.i64.wrap ((IntKind.i64.wrap (shrI .u64 (IntKind.u64.wrap (IntKind.i64.wrap (a + b))) 1)) + m)) - start) (by omega); have hlt_ := of_decide_eq_true ‹decide (a < start) = true›; have hgt_ := of_decide_eq_true ‹decide (start < (IntKind.i64.wrap (shrI .u64 (IntKind.u64.wrap (IntKind.i64.wrap (a + b))) 1))) = true›; omega) (by have he_ := wrapI ((IntKind.i64.wrap ((IntKind.i64.wrap (shrI .u64 (IntKind.u64.wrap (IntKind.i64.wrap (a + b))) 1)) + m)) - start) (by omega); have hlt_ := of_decide_eq_true ‹decide (a < start) = true›; have hgt_ := of_decide_eq_true ‹decide (start < (IntKind.i64.wrap (shrI .u64 (IntKind.u64.wrap (IntKind.i64.wrap (a + b))) 1))) = true›; omega) (rotate_perm (by have he_ := wrapI ((IntKind.i64.wrap ((IntKind.i64.wrap (shrI .u64 (IntKind.u64.wrap (IntKind.i64.wrap (a + b))) 1)) + m)) - start) (by omega); have hlt_ := of_decide_eq_true ‹decide (start < m) = true›; have hgt_ := of_decide_eq_true ‹decide (m < IntKind.i64.wrap ((IntKind.i64.wrap ((IntKind.i64.wrap (shrI .u64 (IntKind.u64.wrap (IntKind.i64.wrap (a + b))) 1)) + m)) - start)) = true›; omega) hL))) (by have hl_ : (rec data a start (IntKind.i64.wrap (shrI .u64 (IntKind.u64.wrap (IntKind.i64.wrap (a + b))) 1)) cmp).length = data.length := (List.Perm.length_eq (by first | exact List.Perm.refl _ | exact rotate_perm (by have he_ := wrapI ((IntKind.i64.wrap ((IntKind.i64.wrap (shrI .u64 (IntKind.u64.wrap (IntKind.i64.wrap (a + b))) 1)) + m)) - start) (by omega); have hlt_ := of_decide_eq_true ‹decide (start < m) = true›; have hgt_ := of_decide_eq_true ‹decide (m < IntKind.i64.wrap ((IntKind.i64.wrap ((IntKind.i64.wrap (shrI .u64 (IntKind.u64.wrap (IntKind.i64.wrap (a + b))) 1)) + m)) - start)) = true›; omega) hL | exact hrp _ _ _ _ _ (by have he_ := wrapI ((IntKind.i64.wrap ((IntKind.i64.wrap (shrI .u64 (IntKind.u64.wrap (IntKind.i64.wrap (a + b))) 1)) + m)) - start) (by omega); have hlt_ := of_decide_eq_true ‹decide (a < start) = true›; have hgt_ := of_decide_eq_true ‹decide (start < (IntKind.i64.wrap (shrI .u64 (IntKind.u64.wrap (IntKind.i64.wrap (a + b))) 1))) = true›; omega) (by have he_ := wrapI ((IntKind.i64.wrap ((IntKind.i64.wrap (shrI .u64 (IntKind.u64.wrap (IntKind.i64.wrap (a + b))) 1)) + m)) - start) (by omega); have hlt_ := of_decide_eq_true ‹decide (a < start) = true›; have hgt_ := of_decide_eq_true ‹decide (start < (IntKind.i64.wrap (shrI .u64 (IntKind.u64.wrap (IntKind.i64.wrap (a + b))) 1))) = true›; omega) (List.Perm.refl _) | exact hrp _ _ _ _ _ (by have he_ := wrapI ((IntKind.i64.wrap ((IntKind.i64.wrap (shrI .u64 (IntKind.u64.wrap (IntKind.i64.wrap (a + b))) 1)) + m)) - start) (by omega); have hlt_ := of_decide_eq_true ‹decide (a < start) = true›; have hgt_ := of_decide_eq_true ‹decide (start < (IntKind.i64.wrap (shrI .u64 (IntKind.u64.wrap (IntKind.i64.wrap (a + b))) 1))) = true›; omega) (by have he_ := wrapI ((IntKind.i64.wrap ((IntKind.i64.wrap (shrI .u64 (IntKind.u64.wrap (IntKind.i64.wrap (a + b))) 1)) + m)) - start) (by omega); have hlt_ := of_decide_eq_true ‹decide (a < start) = true›; have hgt_ := of_decide_eq_true ‹decide (start < (IntKind.i64.wrap (shrI .u64 (IntKind.u64.wrap (IntKind.i64.wrap (a + b))) 1))) = true›; omega) (rotate_perm (by have he_ := wrapI ((IntKind.i64.wrap ((IntKind.i64.wrap (shrI .u64 (IntKind.u64.wrap (IntKind.i64.wrap (a + b))) 1)) + m)) - start) (by omega); have hlt_ := of_decide_eq_true ‹decide (start < m) = true›; have hgt_ := of_decide_eq_true ‹decide (m < IntKind.i64.wrap ((IntKind.i64.wrap ((IntKind.i64.wrap (shrI .u64 (IntKind.u64.wrap (IntKind.i64.wrap (a + b))) 1)) + m)) - start)) = true›; omega) hL))); simp only [AV.renL, AV.ren, hl_, AV.renL_none _ hw4]) rfl ?_)
           refine rvc_nil ?_
           subst hR
           exact ⟨.inr rfl, rfl, rfl⟩
          ·
           replace hR := of_false h87 hR
           refine Awp.skip ?_
           subst hR
           exact ⟨.inr rfl, rfl, rfl⟩
         ·
          replace hR := of_false h86 hR
          refine rvS ?_
          refine rvS ?_
          refine rvS ?_
          refine rvP C (.pv (.lit (.bool false))) ?_
          refine rvc_nil ?_
          refine Awp.condF (b := false) rfl rfl ?_
          refine Awp.skip ?_
          subst hR
          exact ⟨.inr rfl, rfl, rfl⟩
        ·
         replace hR := of_false h85 hR
         refine Awp.skip ?_
         refine Awp.consP C ?_
         refine rvP C (.pv (.lit (.int .i64 (IntKind.i64.wrap (shrI .u64 (IntKind.u64.wrap (IntKind.i64.wrap (a + b))) 1))))) ?_
         refine rvP C (.pv (.lit (.int .i64 (IntKind.i64.wrap ((IntKind.i64.wrap ((IntKind.i64.wrap (shrI .u64 (IntKind.u64.wrap (IntKind.i64.wrap (a + b))) 1)) + m)) - start))))) ?_
         refine rvP C (.pv (.lit (.bool (decide ((IntKind.i64.wrap (shrI .u64 (IntKind.u64.wrap (IntKind.i64.wrap (a + b))) 1)) < (IntKind.i64.wrap ((IntKind.i64.wrap ((IntKind.i64.wrap (shrI .u64 (IntKind.u64.wrap (IntKind.i64.wrap (a + b))) 1)) + m)) - start))))))) ?_
         refine rvP C (.pv (.lit (.bool (decide ((IntKind.i64.wrap (shrI .u64 (IntKind.u64.wrap (IntKind.i64.wrap (a + b))) 1)) < (IntKind.i64.wrap ((IntKind.i64.wrap ((IntKind.i64.wrap (shrI .u64 (IntKind.u64.wrap (IntKind.i64.wrap (a + b))) 1)) + m)) - start))))))) ?_
         refine rvc_case 209 (decide ((IntKind.i64.wrap (shrI .u64 (IntKind.u64.wrap (IntKind.i64.wrap (a + b))) 1)) < (IntKind.i64.wrap ((IntKind.i64.wrap ((IntKind.i64.wrap (shrI .u64 (IntKind.u64.wrap (IntKind.i64.wrap (a + b))) 1)) + m)) - start)))) rfl (fun h88 => ?_) (fun h88 => ?_)
         ·
          replace hR := of_true h88 hR
          refine rvO C (.pv (.lit (.int .i64 (IntKind.i64.wrap ((IntKind.i64.wrap ((IntKind.i64.wrap (shrI .u64 (IntKind.u64.wrap (IntKind.i64.wrap (a + b))) 1)) + m)) - start))))) ?_
          refine rvO C (.pv (.lit (.int .i64 b))) ?_
          refine rvO C (.pv (.lit (.bool (decide ((IntKind.i64.wrap ((IntKind.i64.wrap ((IntKind.i64.wrap (shrI .u64 (IntKind.u64.wrap (IntKind.i64.wrap (a + b))) 1)) + m)) - start)) < b))))) ?_
          refine rvP C (.pv (.lit (.bool (decide ((IntKind.i64.wrap ((IntKind.i64.wrap ((IntKind.i64.wrap (shrI .u64 (IntKind.u64.wrap (IntKind.i64.wrap (a + b))) 1)) + m)) - start)) < b))))) ?_
          refine rvc_nil ?_
          refine Awp.cond (b := (decide ((IntKind.i64.wrap ((IntKind.i64.wrap ((IntKind.i64.wrap (shrI .u64 (IntKind.u64.wrap (IntKind.i64.wrap (a + b))) 1)) + m)) - start)) < b))) rfl (fun h89 => ?_) (fun h89 => ?_)
          ·
           replace hR := of_true h89 hR
           refine Awp.region C (fun _ => .writer) (by kernel_rfl) ?_
           refine rvP C (.sl 0 0 data.length 1 false) ?_
           refine rvP C (.pv (.lit (.int .i64 (IntKind.i64.wrap (shrI .u64 (IntKind.u64.wrap (IntKind.i64.wrap (a + b))) 1))))) ?_
           refine rvP C (.pv (.lit (.int .i64 (IntKind.i64.wrap ((IntKind.i64.wrap ((IntKind.i64.wrap (shrI .u64 (IntKind.u64.wrap (IntKind.i64.wrap (a + b))) 1)) + m)) - start))))) ?_
           refine rvP C (.pv (.lit (.int .i64 b))) ?_
           refine rvP C (.fn g4 [] caps4) ?_
           refine rvc_un (rexec_callM hP C (b := 0) rfl rfl rfl (hrec data (IntKind.i64.wrap (shrI .u64 (IntKind.u64.wrap (IntKind.i64.wrap (a + b))) 1)) (IntKind.i64.wrap ((IntKind.i64.wrap ((IntKind.i64.wrap (shrI .u64 (IntKind.u64.wrap (IntKind.i64.wrap (a + b))) 1)) + m)) - start)) b cmp g4 caps4 hp4 hw4 (by have he_ := wrapI ((IntKind.i64.wrap ((IntKind.i64.wrap (shrI .u64 (IntKind.u64.wrap (IntKind.i64.wrap (a + b))) 1)) + m)) - start) (by omega); have hlt_ := of_decide_eq_true ‹decide ((IntKind.i64.wrap (shrI .u64 (IntKind.u64.wrap (IntKind.i64.wrap (a + b))) 1)) < IntKind.i64.wrap ((IntKind.i64.wrap ((IntKind.i64.wrap (shrI .u64 (IntKind.u64.wrap (IntKind.i64.wrap (a + b))) 1)) + m)) - start)) = true›; have hgt_ := of_decide_eq_true ‹decide (IntKind.i64.wrap ((IntKind.i64.wrap ((IntKind.i64.wrap (shrI .u64 (IntKind.u64.wrap (IntKind.i64.wrap (a + b))) 1)) + m)) - start) < b) = true›; omega) (by have he_ := wrapI ((IntKind.i64.wrap ((IntKind.i64.wrap (shrI .u64 (IntKind.u64.wrap (IntKind.i64.wrap (a + b))) 1)) + m)) - start) (by omega); have hlt_ := of_decide_eq_true ‹decide ((IntKind.i64.wrap (shrI .u64 (IntKind.u64.wrap (IntKind.i64.wrap (a + b))) 1)) < IntKind.i64.wrap ((IntKind.i64.wrap ((IntKind.i64.wrap (shrI .u64 (IntKind.u64.wrap (IntKind.i64.wrap (a + b))) 1)) + m)) - start)) = true›; have hgt_ := of_decide_eq_true ‹decide (IntKind.i64.wrap ((IntKind.i64.wrap ((IntKind.i64.wrap (shrI .u64 (IntKind.u64.wrap (IntKind.i64.wrap (a + b))) 1)) + m)) - start) < b) = true›; omega) (by first | exact List.Perm.refl _ | exact rotate_perm (by have he_ := wrapI ((IntKind.i64.wrap ((IntKind.i64.wrap (shrI .u64 (IntKind.u64.wrap (IntKind.i64.wrap (a + b))) 1)) + m)) - start) (by omega); have hlt_ := of_decide_eq_true ‹decide (start < m) = true›; have hgt_ := of_decide_eq_true ‹decide (m < IntKind.i64.wrap ((IntKind.i64.wrap ((IntKind.i64.wrap (shrI .u64 (IntKind.u64.wrap (IntKind.i64.wrap (a + b))) 1)) + m)) - start)) = true›; omega) hL | exact hrp _ _ _ _ _ (by have he_ := wrapI ((IntKind.i64.wrap ((IntKind.i64.wrap (shrI .u64 (IntKind.u64.wrap (IntKind.i64.wrap (a + b))) 1)) + m)) - start) (by omega); have hlt_ := of_decide_eq_true ‹decide (a < start) = true›; have hgt_ := of_decide_eq_true ‹decide (start < (IntKind.i64.wrap (shrI .u64 (IntKind.u64.wrap (IntKind.i64.wrap (a + b))) 1))) = true›; omega) (by have he_ := wrapI ((IntKind.i64.wrap ((IntKind.i64.wrap (shrI .u64 (IntKind.u64.wrap (IntKind.i64.wrap (a + b))) 1)) + m)) - start) (by omega); have hlt_ := of_decide_eq_true ‹decide (a < start) = true›; have hgt_ := of_decide_eq_true ‹decide (start < (IntKind.i64.wrap (shrI .u64 (IntKind.u64.wrap (IntKind.i64.wrap (a + b))) 1))) = true›; omega) (List.Perm.refl _) | exact hrp _ _ _ _ _ (by have he_ := wrapI ((IntKind.i64.wrap ((IntKind.i64.wrap (shrI .u64 (IntKind.u64.wrap (IntKind.i64.wrap (a + b))) 1)) + m)) - start) (by omega); have hlt_ := of_decide_eq_true ‹decide (a < start) = true›; have hgt_ := of_decide_eq_true ‹decide (start < (IntKind.i64.wrap (shrI .u64 (IntKind.u64.wrap (IntKind.i64.wrap (a + b))) 1))) = true›; omega) (by have he_ := wrapI ((IntKind.i64.wrap ((IntKind.i64.wrap (shrI .u64 (IntKind.u64.wrap (IntKind.i64.wrap (a + b))) 1)) + m)) - start) (by omega); have hlt_ := of_decide_eq_true ‹decide (a < start) = true›; have hgt_ := of_decide_eq_true ‹decide (start < (IntKind.i64.wrap (shrI .u64 (IntKind.u64.wrap (IntKind.i64.wrap (a + b))) 1))) = true›; omega) (rotate_perm (by have he_ := wrapI ((IntKind.i64.wrap ((IntKind.i64.wrap (shrI .u64 (IntKind.u64.wrap (IntKind.i64.wrap (a + b))) 1)) + m)) - start) (by omega); have hlt_ := of_decide_eq_true ‹decide (start < m) = true›; have hgt_ := of_decide_eq_true ‹decide (m < IntKind.i64.wrap ((IntKind.i64.wrap ((IntKind.i64.wrap (shrI .u64 (IntKind.u64.wrap (IntKind.i64.wrap (a + b))) 1)) + m)) - start)) = true›; omega) hL))) (by simp only [AV.renL, AV.ren, AV.renL_none _ hw4]) rfl ?_)
           refine rvc_nil ?_
           subst hR
           exact ⟨.inr rfl, rfl, rfl⟩
          ·
           replace hR := of_false h89 hR
           refine Awp.skip ?_
           subst hR
           exact ⟨.inr rfl, rfl, rfl⟩
         ·
          replace hR := of_false h88 hR
          refine rvS ?_
          refine rvS ?_
          refine rvS ?_
          refine rvP C (.pv (.lit (.bool false))) ?_
          refine rvc_nil ?_
          refine Awp.condF (b := false) rfl rfl ?_
          refine Awp.skip ?_
          subst hR
          exact ⟨.inr rfl, rfl, rfl⟩
       ·
        replace hR := of_false h84 hR
        refine rvS ?_
        refine rvS ?_
        refine rvS ?_
        refine rvP C (.pv (.lit (.bool false))) ?_
        refine rvc_nil ?_
        refine Awp.condF (b := false) rfl rfl ?_
        refine Awp.skip ?_
        refine Awp.consP C ?_
        refine rvP C (.pv (.lit (.int .i64 (IntKind.i64.wrap (shrI .u64 (IntKind.u64.wrap (IntKind.i64.wrap (a + b))) 1))))) ?_
        refine rvP C (.pv (.lit (.int .i64 (IntKind.i64.wrap ((IntKind.i64.wrap ((IntKind.i64.wrap (shrI .u64 (IntKind.u64.wrap (IntKind.i64.wrap (a + b))) 1)) + m)) - start))))) ?_
        refine rvP C (.pv (.lit (.bool (decide ((IntKind.i64.wrap (shrI .u64 (IntKind.u64.wrap (IntKind.i64.wrap (a + b))) 1)) < (IntKind.i64.wrap ((IntKind.i64.wrap ((IntKind.i64.wrap (shrI .u64 (IntKind.u64.wrap (IntKind.i64.wrap (a + b))) 1)) + m)) - start))))))) ?_
        refine rvP C (.pv (.lit (.bool (decide ((IntKind.i64.wrap (shrI .u64 (IntKind.u64.wrap (IntKind.i64.wrap (a + b))) 1)) < (IntKind.i64.wrap ((IntKind.i64.wrap ((IntKind.i64.wrap (shrI .u64 (IntKind.u64.wrap (IntKind.i64.wrap (a + b))) 1)) + m)) - start))))))) ?_
        refine rvc_case 209 (decide ((IntKind.i64.wrap (shrI .u64 (IntKind.u64.wrap (IntKind.i64.wrap (a + b))) 1)) < (IntKind.i64.wrap ((IntKind.i64.wrap ((IntKind.i64.wrap (shrI .u64 (IntKind.u64.wrap (IntKind.i64.wrap (a + b))) 1)) + m)) - start)))) rfl (fun h90 => ?_) (fun h90 => ?_)
        ·
         replace hR := of_true h90 hR
         refine rvO C (.pv (.lit (.int .i64 (IntKind.i64.wrap ((IntKind.i64.wrap ((IntKind.i64.wrap (shrI .u64 (IntKind.u64.wrap (IntKind.i64.wrap (a + b))) 1)) + m)) - start))))) ?_
         refine rvO C (.pv (.lit (.int .i64 b))) ?_
         refine rvO C (.pv (.lit (.bool (decide ((IntKind.i64.wrap ((IntKind.i64.wrap ((IntKind.i64.wrap (shrI .u64 (IntKind.u64.wrap (IntKind.i64.wrap (a + b))) 1)) + m)) - start)) < b))))) ?_
         refine rvP C (.pv (.lit (.bool (decide ((IntKind.i64.wrap ((IntKind.i64.wrap ((IntKind.i64.wrap (shrI .u64 (IntKind.u64.wrap (IntKind.i64.wrap (a + b))) 1)) + m)) - start)) < b))))) ?_
         refine rvc_nil ?_
         refine Awp.cond (b := (decide ((IntKind.i64.wrap ((IntKind.i64.wrap ((IntKind.i64.wrap (shrI .u64 (IntKind.u64.wrap (IntKind.i64.wrap (a + b))) 1)) + m)) - start)) < b))) rfl (fun h91 => ?_) (fun h91 => ?_)
         ·
          replace hR := of_true h91 hR
          refine Awp.region C (fun _ => .writer) (by kernel_rfl) ?_
          refine rvP C (.sl 0 0 data.length 1 false) ?_
          refine rvP C (.pv (.lit (.int .i64 (IntKind.i64.wrap (shrI .u64 (IntKind.u64.wrap (IntKind.i64.wrap (a + b))) 1))))) ?_
          refine rvP C (.pv (.lit (.int .i64 (IntKind.i64.wrap ((IntKind.i64.wrap ((IntKind.i64.wrap (shrI .u64 (IntKind.u64.wrap (IntKind.i64.wrap (a + b))) 1)) + m)) - start))))) ?_
          refine rvP C (.pv (.lit (.int .i64 b))) ?_
          refine rvP C (.fn g4 [] caps4) ?_
          refine rvc_un (rexec_callM hP C (b := 0) rfl rfl rfl (hrec data (IntKind.i64.wrap (shrI .u64 (IntKind.u64.wrap (IntKind.i64.wrap (a + b))) 1)) (IntKind.i64.wrap ((IntKind.i64.wrap ((IntKind.i64.wrap (shrI .u64 (IntKind.u64.wrap (IntKind.i64.wrap (a + b))) 1)) + m)) - start)) b cmp g4 caps4 hp4 hw4 (by have he_ := wrapI ((IntKind.i64.wrap ((IntKind.i64.wrap (shrI .u64 (IntKind.u64.wrap (IntKind.i64.wrap (a + b))) 1)) + m)) - start) (by omega); have hlt_ := of_decide_eq_true ‹decide ((IntKind.i64.wrap (shrI .u64 (IntKind.u64.wrap (IntKind.i64.wrap (a + b))) 1)) < IntKind.i64.wrap ((IntKind.i64.wrap ((IntKind.i64.wrap (shrI .u64 (IntKind.u64.wrap (IntKind.i64.wrap (a + b))) 1)) + m)) - start)) = true›; have hgt_ := of_decide_eq_true ‹decide (IntKind.i64.wrap ((IntKind.i64.wrap ((IntKind.i64.wrap (shrI .u64 (IntKind.u64.wrap (IntKind.i64.wrap (a + b))) 1)) + m)) - start) < b) = true›; omega) (by have he_ := wrapI ((IntKind.i64.wrap ((IntKind.i64.wrap (shrI .u64 (IntKind.u64.wrap (IntKind.i64.wrap (a + b))) 1)) + m)) - start) (by omega); have hlt_ := of_decide_eq_true ‹decide ((IntKind.i64.wrap (shrI .u64 (IntKind.u64.wrap (IntKind.i64.wrap (a + b))) 1)) < IntKind.i64.wrap ((IntKind.i64.wrap ((IntKind.i64.wrap (shrI .u64 (IntKind.u64.wrap (IntKind.i64.wrap (a + b))) 1)) + m)) - start)) = true›; have hgt_ := of_decide_eq_true ‹decide (IntKind.i64.wrap ((IntKind.i64.wrap ((IntKind.i64.wrap (shrI .u64 (IntKind.u64.wrap (IntKind.i64.wrap (a + b))) 1)) + m)) - start) < b) = true›; omega) (by first | exact List.Perm.refl _ | exact rotate_perm (by have he_ := wrapI ((IntKind.i64.wrap ((IntKind.i64.wrap (shrI .u64 (IntKind.u64.wrap (IntKind.i64.wrap (a + b))) 1)) + m)) - start) (by omega); have hlt_ := of_decide_eq_true ‹decide (start < m) = true›; have hgt_ := of_decide_eq_true ‹decide (m < IntKind.i64.wrap ((IntKind.i64.wrap ((IntKind.i64.wrap (shrI .u64 (IntKind.u64.wrap (IntKind.i64.wrap (a + b))) 1)) + m)) - start)) = true›; omega) hL | exact hrp _ _ _ _ _ (by have he_ := wrapI ((IntKind.i64.wrap ((IntKind.i64.wrap (shrI .u64 (IntKind.u64.wrap (IntKind.i64.wrap (a + b))) 1)) + m)) - start) (by omega); have hlt_ := of_decide_eq_true ‹decide (a < start) = true›; have hgt_ := of_decide_eq_true ‹decide (start < (IntKind.i64.wrap (shrI .u64 (IntKind.u64.wrap (IntKind.i64.wrap (a + b))) 1))) = true›; omega) (by have he_ := wrapI ((IntKind.i64.wrap ((IntKind.i64.wrap (shrI .u64 (IntKind.u64.wrap (IntKind.i64.wrap (a + b))) 1)) + m)) - start) (by omega); have hlt_ := of_decide_eq_true ‹decide (a < start) = true›; have hgt_ := of_decide_eq_true ‹decide (start < (IntKind.i64.wrap (shrI .u64 (IntKind.u64.wrap (IntKind.i64.wrap (a + b))) 1))) = true›; omega) (List.Perm.refl _) | exact hrp _ _ _ _ _ (by have he_ := wrapI ((IntKind.i64.wrap ((IntKind.i64.wrap (shrI .u64 (IntKind.u64.wrap (IntKind.i64.wrap (a + b))) 1)) + m)) - start) (by omega); have hlt_ := of_decide_eq_true ‹decide (a < start) = true›; have hgt_ := of_decide_eq_true ‹decide (start < (IntKind.i64.wrap (shrI .u64 (IntKind.u64.wrap (IntKind.i64.wrap (a + b))) 1))) = true›; omega) (by have he_ := wrapI ((IntKind.i64.wrap ((IntKind.i64.wrap (shrI .u64 (IntKind.u64.wrap (IntKind.i64.wrap (a + b))) 1)) + m)) - start) (by omega); have hlt_ := of_decide_eq_true ‹decide (a < start) = true›; have hgt_ := of_decide_eq_true ‹decide (start < (IntKind.i64.wrap (shrI .u64 (IntKind.u64.wrap (IntKind.i64.wrap (a + b))) 1))) = true›; omega) (rotate_perm (by have he_ := wrapI ((IntKind.i64.wrap ((IntKind.i64.wrap (shrI .u64 (IntKind.u64.wrap (IntKind.i64.wrap (a + b))) 1)) + m)) - start) (by omega); have hlt_ := of_decide_eq_true ‹decide (start < m) = true›; have hgt_ := of_decide_eq_true ‹decide (m < IntKind.i64.wrap ((IntKind.i64.wrap ((IntKind.i64.wrap (shrI .u64 (IntKind.u64.wrap (IntKind.i64.wrap (a + b))) 1)) + m)) - start)) = true›; omega) hL))) (by simp only [AV.renL, AV.ren, AV.renL_none _ hw4]) rfl ?_)
          refine rvc_nil ?_
          subst hR
          exact ⟨.inr rfl, rfl, rfl⟩
         ·
          replace hR := of_false h91 hR
          refine Awp.skip ?_
          subst hR
          exact ⟨.inr rfl, rfl, rfl⟩
        ·
         replace hR := of_false h90 hR
         refine rvS ?_
         refine rvS ?_
         refine rvS ?_
         refine rvP C (.pv (.lit (.bool false))) ?_
         refine rvc_nil ?_
         refine Awp.condF (b := false) rfl rfl ?_
         refine Awp.skip ?_
         subst hR
         exact ⟨.inr rfl, rfl, rfl⟩
     ·
      replace hR := of_false h74 hR
      refine rvS ?_
      refine rvS ?_
      refine rvS ?_
      refine rvP C (.pv (.lit (.bool false))) ?_
      refine rvc_nil ?_
      refine Awp.condF (b := false) rfl rfl ?_
      refine Awp.skip ?_
      refine Awp.seq ?_
      refine Awp.consP C ?_
      refine rvP C (.pv (.lit (.int .i64 a))) ?_
      refine rvP C (.pv (.lit (.int .i64 start))) ?_
      refine rvP C (.pv (.lit (.bool (decide (a < start))))) ?_
      refine rvP C (.pv (.lit (.bool (decide (a < start))))) ?_
      refine rvc_case 195 (decide (a < start)) rfl (fun h92 => ?_) (fun h92 => ?_)
      ·
       replace hR := of_true h92 hR
       refine rvO C (.pv (.lit (.int .i64 start))) ?_
       refine rvO C (.pv (.lit (.int .i64 (IntKind.i64.wrap (shrI .u64 (IntKind.u64.wrap (IntKind.i64.wrap (a + b))) 1))))) ?_
       refine rvO C (.pv (.lit (.bool (decide (start < (IntKind.i64.wrap (shrI .u64 (IntKind.u64.wrap (IntKind.i64.wrap (a + b))) 1))))))) ?_
       refine rvP C (.pv (.lit (.bool (decide (start < (IntKind.i64.wrap (shrI .u64 (IntKind.u64.wrap (IntKind.i64.wrap (a + b))) 1))))))) ?_
       refine rvc_nil ?_
       refine Awp.cond (b := (decide (start < (IntKind.i64.wrap (shrI .u64 (IntKind.u64.wrap (IntKind.i64.wrap (a + b))) 1))))) rfl (fun h93 => ?_) (fun h93 => ?_)
       ·
        replace hR := of_true h93 hR
        refine Awp.region C (fun _ => .writer) (by kernel_rfl) ?_
        refine rvP C (.sl 0 0 data.length 1 false) ?_
        refine rvP C (.pv (.lit (.int .i64 a))) ?_
        refine rvP C (.pv (.lit (.int .i64 start))) ?_
        refine rvP C (.pv (.lit (.int .i64 (IntKind.i64.wrap (shrI .u64 (IntKind.u64.wrap (IntKind.i64.wrap (a + b))) 1))))) ?_
        refine rvP C (.fn g4 [] caps4) ?_
        refine rvc_un (rexec_callM hP C (b := 0) rfl rfl rfl (hrec data a start (IntKind.i64.wrap (shrI .u64 (IntKind.u64.wrap (IntKind.i64.wrap (a + b))) 1)) cmp g4 caps4 hp4 hw4 (by have he_ := wrapI ((IntKind.i64.wrap ((IntKind.i64.wrap (shrI .u64 (IntKind.u64.wrap (IntKind.i64.wrap (a + b))) 1)) + m)) - start) (by omega); have hlt_ := of_decide_eq_true ‹decide (a < start) = true›; have hgt_ := of_decide_eq_true ‹decide (start < (IntKind.i64.wrap (shrI .u64 (IntKind.u64.wrap (IntKind.i64.wrap (a + b))) 1))) = true›; omega) (by have he_ := wrapI ((IntKind.i64.wrap ((IntKind.i64.wrap (shrI .u64 (IntKind.u64.wrap (IntKind.i64.wrap (a + b))) 1)) + m)) - start) (by omega); have hlt_ := of_decide_eq_true ‹decide (a < start) = true›; have hgt_ := of_decide_eq_true ‹decide (start < (IntKind.i64.wrap (shrI .u64 (IntKind.u64.wrap (IntKind.i64.wrap (a + b))) 1))) = true›; omega) (by first | exact List.Perm.refl _ | exact rotate_perm (by have he_ := wrapI ((IntKind.i64.wrap ((IntKind.i64.wrap (shrI .u64 (IntKind.u64.wrap (IntKind.i64.wrap (a + b))) 1)) + m)) - start) (by omega); have hlt_ := of_decide_eq_true ‹decide (start < m) = true›; have hgt_ := of_decide_eq_true ‹decide (m < IntKind.i64.wrap ((IntKind.i64.wrap ((IntKind.i64.wrap (shrI .u64 (IntKind.u64.wrap (IntKind.i64.wrap (a + b))) 1)) + m)) - start)) = true›; omega) hL)) (by simp only [AV.renL, AV.ren, AV.renL_none _ hw4]) rfl ?_)
        refine rvc_nil ?_
        refine Awp.consP C ?_
        refine rvP C (.pv (.lit (.int .i64 (IntKind.i64.wrap (shrI .u64 (IntKind.u64.wrap (IntKind.i64.wrap (a + b))) 1))))) ?_
        refine rvP C (.pv (.lit (.int .i64 (IntKind.i64.wrap ((IntKind.i64.wrap ((IntKind.i64.wrap (shrI .u64 (IntKind.u64.wrap (IntKind.i64.wrap (a + b))) 1)) + m)) - start))))) ?_
        refine rvP C (.pv (.lit (.bool (decide ((IntKind.i64.wrap (shrI .u64 (IntKind.u64.wrap (IntKind.i64.wrap (a + b))) 1)) < (IntKind.i64.wrap ((IntKind.i64.wrap ((IntKind.i64.wrap (shrI .u64 (IntKind.u64.wrap (IntKind.i64.wrap (a + b))) 1)) + m)) - start))))))) ?_
        refine rvP C (.pv (.lit (.bool (decide ((IntKind.i64.wrap (shrI .u64 (IntKind.u64.wrap (IntKind.i64.wrap (a + b))) 1)) < (IntKind.i64.wrap ((IntKind.i64.wrap ((IntKind.i64.wrap (shrI .u64 (IntKind.u64.wrap (IntKind.i64.wrap (a + b))) 1)) + m)) - start))))))) ?_
        refine rvc_case 209 (decide ((IntKind.i64.wrap (shrI .u64 (IntKind.u64.wrap (IntKind.i64.wrap (a + b))) 1)) < (IntKind.i64.wrap ((IntKind.i64.wrap ((IntKind.i64.wrap (shrI .u64 (IntKind.u64.wrap (IntKind.i64.wrap (a + b))) 1)) + m)) - start)))) rfl (fun h94 => ?_) (fun h94 => ?_)
        ·
         replace hR := of_true h94 hR
         refine rvO C (.pv (.lit (.int .i64 (IntKind.i64.wrap ((IntKind.i64.wrap ((IntKind.i64.wrap (shrI .u64 (IntKind.u64.wrap (IntKind.i64.wrap (a + b))) 1)) + m)) - start))))) ?_
         refine rvO C (.pv (.lit (.int .i64 b))) ?_
         refine rvO C (.pv (.lit (.bool (decide ((IntKind.i64.wrap ((IntKind.i64.wrap ((IntKind.i64.wrap (shrI .u64 (IntKind.u64.wrap (IntKind.i64.wrap (a + b))) 1)) + m)) - start)) < b))))) ?_
         refine rvP C (.pv (.lit (.bool (decide ((IntKind.i64.wrap ((IntKind.i64.wrap ((IntKind.i64.wrap (shrI .u64 (IntKind.u64.wrap (IntKind.i64.wrap (a + b))) 1)) + m)) - start)) < b))))) ?_
         refine rvc_nil ?_
         refine Awp.cond (b := (decide ((IntKind.i64.wrap ((IntKind.i64.wrap ((IntKind.i64.wrap (shrI .u64 (IntKind.u64.wrap (IntKind.i64.wrap (a + b))) 1)) + m)) - start)) < b))) rfl (fun h95 => ?_) (fun h95 => ?_)
         ·
          replace hR := of_true h95 hR
          refine Awp.region C (fun _ => .writer) (by kernel_rfl) ?_
          refine rvP C (.sl 0 0 data.length 1 false) ?_
          refine rvP C (.pv (.lit (.int .i64 (IntKind.i64.wrap (shrI .u64 (IntKind.u64.wrap (IntKind.i64.wrap (a + b))) 1))))) ?_
          refine rvP C (.pv (.lit (.int .i64 (IntKind.i64.wrap ((IntKind.i64.wrap ((IntKind.i64.wrap (shrI .u64 (IntKind.u64.wrap (IntKind.i64.wrap (a + b))) 1)) + m)) - start))))) ?_
          refine rvP C (.pv (.lit (.int .i64 b))) ?_
          refine rvP C (.fn g4 [] caps4) ?_
          refine rvc_un (rexec_callM hP C (b := 0) rfl rfl rfl (hrec (rec data a start (IntKind.i64.wrap (shrI .u64 (IntKind.u64.wrap (IntKind.i64.wrap (a + b))) 1)) cmp) (IntKind.i64.wrap (shrI .u64 (IntKind.u64.wrap (IntKind.i64.wrap (a + b))) 1)) (IntKind.i64.wrap ((IntKind.i64.wrap ((IntKind.i64.wrap (shrI .u64 (IntKind.u64.wrap (IntKind.i64.wrap (a + b))) 1)) + m)) - start)) b cmp g4 caps4 hp4 hw4 (by have he_ := wrapI ((IntKind.i64.wrap ((IntKind.i64.wrap (shrI .u64 (IntKind.u64.wrap (IntKind.i64.wrap (a + b))) 1)) + m)) - start) (by omega); have hlt_ := of_decide_eq_true ‹decide ((IntKind.i64.wrap (shrI .u64 (IntKind.u64.wrap (IntKind.i64.wrap (a + b))) 1)) < IntKind.i64.wrap ((IntKind.i64.wrap ((IntKind.i64.wrap (shrI .u64 (IntKind.u64.wrap (IntKind.i64.wrap (a + b))) 1)) + m)) - start)) = true›; have hgt_ := of_decide_eq_true ‹decide (IntKind.i64.wrap ((IntKind.i64.wrap ((IntKind.i64.wrap (shrI .u64 (IntKind.u64.wrap (IntKind.i64.wrap (a + b))) 1)) + m)) - start) < b) = true›; omega) (by have he_ := wrapI ((IntKind.i64.wrap ((IntKind.i64.wrap (shrI .u64 (IntKind.u64.wrap (IntKind.i64.wrap (a + b))) 1)) + m)) - start) (by omega); have hlt_ := of_decide_eq_true ‹decide ((IntKind.i64.wrap (shrI .u64 (IntKind.u64.wrap (IntKind.i64.wrap (a + b))) 1)) < IntKind.i64.wrap ((IntKind.i64.wrap ((IntKind.i64.wrap (shrI .u64 (IntKind.u64.wrap (IntKind.i64.wrap (a + b))) 1)) + m)) - start)) = true›; have hgt_ := of_decide_eq_true ‹decide (IntKind.i64.wrap ((IntKind.i64.wrap ((IntKind.i64.wrap (shrI .u64 (IntKind.u64.wrap (IntKind.i64.wrap (a + b))) 1)) + m)) - start) < b) = true›; omega) (by first | exact List.Perm.refl _ | exact rotate_perm (by have he_ := wrapI ((IntKind.i64.wrap ((IntKind.i64.wrap (shrI .u64 (IntKind.u64.wrap (IntKind.i64.wrap (a + b))) 1)) + m)) - start) (by omega); have hlt_ := of_decide_eq_true ‹decide (start < m) = true›; have hgt_ := of_decide_eq_true ‹decide (m < IntKind.i64.wrap ((IntKind.i64.wrap ((IntKind.i64.wrap (shrI .u64 (IntKind.u64.wrap (IntKind.i64.wrap (a + b))) 1)) + m)) - start)) = true›; omega) hL | exact hrp _ _ _ _ _ (by have he_ := wrapI ((IntKind.i64.wrap ((IntKind.i64.wrap (shrI .u64 (IntKind.u64.wrap (IntKind.i64.wrap (a + b))) 1)) + m)) - start) (by omega); have hlt_ := of_decide_eq_true ‹decide (a < start) = true›; have hgt_ := of_decide_eq_true ‹decide (start < (IntKind.i64.wrap (shrI .u64 (IntKind.u64.wrap (IntKind.i64.wrap (a + b))) 1))) = true›; omega) (by have he_ := wrapI ((IntKind.i64.wrap ((IntKind.i64.wrap (shrI .u64 (IntKind.u64.wrap (IntKind.i64.wrap (a + b))) 1)) + m)) - start) (by omega); have hlt_ := of_decide_eq_true ‹decide (a < start) = true›; have hgt_ := of_decide_eq_true ‹decide (start < (IntKind.i64.wrap (shrI .u64 (IntKind.u64.wrap (IntKind.i64.wrap (a + b))) 1))) = true›; omega) (List.Perm.refl _) | exact hrp _ _ _ _ _ (by have he_ := wrapI ((IntKind.i64.wrap ((IntKind.i64.wrap (shrI .u64 (IntKind.u64.wrap (IntKind.i64.wrap (a + b))) 1)) + m)) - start) (by omega); have hlt_ := of_decide_eq_true ‹decide (a < start) = true›; have hgt_ := of_decide_eq_true ‹decide (start < (IntKind.i64.wrap (shrI .u64 (IntKind.u64.wrap (IntKind.i64.wrap (a + b))) 1))) = true›; omega) (by have he_ := wrapI ((IntKind.i64.wrap ((IntKind.i64.wrap (shrI .u64 (IntKind.u64.wrap (IntKind.i64.wrap (a + b))) 1)) + m)) - start) (by omega); have hlt_ := of_decide_eq_true ‹decide (a < start) = true›; have hgt_ := of_decide_eq_true ‹decide (start < (IntKind.i64.wrap (shrI .u64 (IntKind.u64.wrap (IntKind.i64.wrap (a + b))) 1))) = true›; omega) (rotate_perm (by have he_ := wrapI ((IntKind.i64.wrap ((IntKind.i64.wrap (shrI .u64 (IntKind.u64.wrap (IntKind.i64.wrap (a + b))) 1)) + m)) - start) (by omega); have hlt_ := of_decide_eq_true ‹decide (start < m) = true›; have hgt_ := of_decide_eq_true ‹decide (m < IntKind.i64.wrap ((IntKind.i64.wrap ((IntKind.i64.wrap (shrI .u64 (IntKind.u64.wrap (IntKind.i64.wrap (a + b))) 1)) + m)) - start)) = true›; omega) hL))) (by have hl_ : (rec data a start (IntKind.i64.wrap (shrI .u64 (IntKind.u64.wrap (IntKind.i64.wrap (a + b))) 1)) cmp).length = data.length := (List.Perm.length_eq (by first | exact List.Perm.refl _ | exact rotate_perm (by have he_ := wrapI ((IntKind.i64.wrap ((IntKind.i64.wrap (shrI .u64 (IntKind.u64.wrap (IntKind.i64.wrap (a + b))) 1)) + m)) - start) (by omega); have hlt_ := of_decide_eq_true ‹decide (start < m) = true›; have hgt_ := of_decide_eq_true ‹decide (m < IntKind.i64.wrap ((IntKind.i64.wrap ((IntKind.i64.wrap (shrI .u64 (IntKind.u64.wrap (IntKind.i64.wrap (a + b))) 1)) + m)) - start)) = true›; omega) hL | exact hrp _ _ _ _ _ (by have he_ := wrapI ((IntKind.i64.wrap ((IntKind.i64.wrap (shrI .u64 (IntKind.u64.wrap (IntKind.i64.wrap (a + b))) 1)) + m)) - start) (by omega); have hlt_ := of_decide_eq_true ‹decide (a < start) = true›; have hgt_ := of_decide_eq_true ‹decide (start < (IntKind.i64.wrap (shrI .u64 (IntKind.u64.wrap (IntKind.i64.wrap (a + b))) 1))) = true›; omega) (by have he_ := wrapI ((IntKind.i64.wrap ((IntKind.i64.wrap (shrI .u64 (IntKind.u64.wrap (IntKind.i64.wrap (a + b))) 1)) + m)) - start) (by omega); have hlt_ := of_decide_eq_true ‹decide (a < start) = true›; have hgt_ := of_decide_eq_true ‹decide (start < (IntKind.i64.wrap (shrI .u64 (IntKind.u64.wrap (IntKind.i64.wrap (a + b))) 1))) = true›; omega) (List.Perm.refl _) | exact hrp _ _ _ _ _ (by have he_ := wrapI ((IntKind.i64.wrap ((IntKind.i64.wrap (shrI .u64 (IntKind.u64.wrap (IntKind.i64.wrap (a + b))) 1)) + m)) - start) (by omega); have hlt_ := of_decide_eq_true ‹decide (a < start) = true›; have hgt_ := of_decide_eq_true ‹decide (start < (IntKind.i64.wrap (shrI .u64 (IntKind.u64.wrap (IntKind.i64.wrap (a + b))) 1))) = true›; omega) (by have he_ := wrapI ((IntKind.i64.wrap ((IntKind.i64.wrap (shrI .u64 (IntKind.u64.wrap (IntKind.i64.wrap (a + b))) 1)) + m)) - start) (by omega); have hlt_ := of_decide_eq_true ‹decide (a < start) = true›; have hgt_ := of_decide_eq_true ‹decide (start < (IntKind.i64.wrap (shrI .u64 (IntKind.u64.wrap (IntKind.i64.wrap (a + b))) 1))) = true›; omega) (rotate_perm (by have he_ := wrapI ((IntKind.i64.wrap ((IntKind.i64.wrap (shrI .u64 (IntKind.u64.wrap (IntKind.i64.wrap (a + b))) 1)) + m)) - start) (by omega); have hlt_ := of_decide_eq_true ‹decide (start < m) = true›; have hgt_ := of_decide_eq_true ‹decide (m < IntKind.i64.wrap ((IntKind.i64.wrap ((IntKind.i64.wrap (shrI .u64 (IntKind.u64.wrap (IntKind.i64.wrap (a + b))) 1)) + m)) - start)) = true›; omega) hL))); simp only [AV.renL, AV.ren, hl_, AV.renL_none _ hw4]) rfl ?_)
          refine rvc_nil ?_
          subst hR
          exact ⟨.inr rfl, rfl, rfl⟩
         ·
          replace hR := of_false h95 hR
          refine Awp.skip ?_
          subst hR
          exact ⟨.inr rfl, rfl, rfl⟩
        ·
         replace hR := of_false h94 hR
         refine rvS ?_
         refine rvS ?_
         refine rvS ?_
         refine rvP C (.pv (.lit (.bool false))) ?_
         refine rvc_nil ?_
         refine Awp.condF (b := false) rfl rfl ?_
         refine Awp.skip ?_
         subst hR
         exact ⟨.inr rfl, rfl, rfl⟩
       ·
        replace hR := of_false h93 hR
        refine Awp.skip ?_
        refine Awp.consP C ?_
        refine rvP C (.pv (.lit (.int .i64 (IntKind.i64.wrap (shrI .u64 (IntKind.u64.wrap (IntKind.i64.wrap (a + b))) 1))))) ?_
        refine rvP C (.pv (.lit (.int .i64 (IntKind.i64.wrap ((IntKind.i64.wrap ((IntKind.i64.wrap (shrI .u64 (IntKind.u64.wrap (IntKind.i64.wrap (a + b))) 1)) + m)) - start))))) ?_
        refine rvP C (.pv (.lit (.bool (decide ((IntKind.i64.wrap (shrI .u64 (IntKind.u64.wrap (IntKind.i64.wrap (a + b))) 1)) < (IntKind.i64.wrap ((IntKind.i64.wrap ((IntKind.i64.wrap (shrI .u64 (IntKind.u64.wrap (IntKind.i64.wrap (a + b))) 1)) + m)) - start))))))) ?_
        refine rvP C (.pv (.lit (.bool (decide ((IntKind.i64.wrap (shrI .u64 (IntKind.u64.wrap (IntKind.i64.wrap (a + b))) 1)) < (IntKind.i64.wrap ((IntKind.i64.wrap ((IntKind.i64.wrap (shrI .u64 (IntKind.u64.wrap (IntKind.i64.wrap (a + b))) 1)) + m)) - start))))))) ?_
        refine rvc_case 209 (decide ((IntKind.i64.wrap (shrI .u64 (IntKind.u64.wrap (IntKind.i64.wrap (a + b))) 1)) < (IntKind.i64.wrap ((IntKind.i64.wrap ((IntKind.i64.wrap (shrI .u64 (IntKind.u64.wrap (IntKind.i64.wrap (a + b))) 1)) + m)) - start)))) rfl (fun h96 => ?_) (fun h96 => ?_)
        ·
         replace hR := of_true h96 hR
         refine rvO C (.pv (.lit (.int .i64 (IntKind.i64.wrap ((IntKind.i64.wrap ((IntKind.i64.wrap (shrI .u64 (IntKind.u64.wrap (IntKind.i64.wrap (a + b))) 1)) + m)) - start))))) ?_
         refine rvO C (.pv (.lit (.int .i64 b))) ?_
         refine rvO C (.pv (.lit (.bool (decide ((IntKind.i64.wrap ((IntKind.i64.wrap ((IntKind.i64.wrap (shrI .u64 (IntKind.u64.wrap (IntKind.i64.wrap (a + b))) 1)) + m)) - start)) < b))))) ?_
         refine rvP C (.pv (.lit (.bool (decide ((IntKind.i64.wrap ((IntKind.i64.wrap ((IntKind.i64.wrap (shrI .u64 (IntKind.u64.wrap (IntKind.i64.wrap (a + b))) 1)) + m)) - start)) < b))))) ?_
         refine rvc_nil ?_
         refine Awp.cond (b := (decide ((IntKind.i64.wrap ((IntKind.i64.wrap ((IntKind.i64.wrap (shrI .u64 (IntKind.u64.wrap (IntKind.i64.wrap (a + b))) 1)) + m)) - start)) < b))) rfl (fun h97 => ?_) (fun h97 => ?_)
         ·
          replace hR := of_true h97 hR
          refine Awp.region C (fun _ => .writer) (by kernel_rfl) ?_
          refine rvP C (.sl 0 0 data.length 1 false) ?_
          refine rvP C (.pv (.lit (.int .i64 (IntKind.i64.wrap (shrI .u64 (IntKind.u64.wrap (IntKind.i64.wrap (a + b))) 1))))) ?_
          refine rvP C (.pv (.lit (.int .i64 (IntKind.i64.wrap ((IntKind.i64.wrap ((IntKind.i64.wrap (shrI .u64 (IntKind.u64.wrap (IntKind.i64.wrap (a + b))) 1)) + m)) - start))))) ?_
          refine rvP C (.pv (.lit (.int .i64 b))) ?_
          refine rvP C (.fn g4 [] caps4) ?_
          refine rvc_un (rexec_callM hP C (b := 0) rfl rfl rfl (hrec data (IntKind.i64.wrap (shrI .u64 (IntKind.u64.wrap (IntKind.i64.wrap (a + b))) 1)) (IntKind.i64.wrap ((IntKind.i64.wrap ((IntKind.i64.wrap (shrI .u64 (IntKind.u64.wrap (IntKind.i64.wrap (a + b))) 1)) + m)) - start)) b cmp g4 caps4 hp4 hw4 (by have he_ := wrapI ((IntKind.i64.wrap ((IntKind.i64.wrap (shrI .u64 (IntKind.u64.wrap (IntKind.i64.wrap (a + b))) 1)) + m)) - start) (by omega); have hlt_ := of_decide_eq_true ‹decide ((IntKind.i64.wrap (shrI .u64 (IntKind.u64.wrap (IntKind.i64.wrap (a + b))) 1)) < IntKind.i64.wrap ((IntKind.i64.wrap ((IntKind.i64.wrap (shrI .u64 (IntKind.u64.wrap (IntKind.i64.wrap (a + b))) 1)) + m)) - start)) = true›; have hgt_ := of_decide_eq_true ‹decide (IntKind.i64.wrap ((IntKind.i64.wrap ((IntKind.i64.wrap (shrI .u64 (IntKind.u64.wrap (IntKind.i64.wrap (a + b))) 1)) + m)) - start) < b) = true›; omega) (by have he_ := wrapI ((IntKind.i64.wrap ((IntKind.i64.wrap (shrI .u64 (IntKind.u64.wrap (IntKind.i64.wrap (a + b))) 1)) + m)) - start) (by omega); have hlt_ := of_decide_eq_true ‹decide ((IntKind.i64.wrap (shrI .u64 (IntKind.u64.wrap (IntKind.i64.wrap (a + b))) 1)) < IntKind.i64.wrap ((IntKind.i64.wrap ((IntKind.i64.wrap (shrI .u64 (IntKind.u64.wrap (IntKind.i64.wrap (a + b))) 1)) + m)) - start)) = true›; have hgt_ := of_decide_eq_true ‹decide (IntKind.i64.wrap ((IntKind.i64.wrap ((IntKind.i64.wrap (shrI .u64 (IntKind.u64.wrap (IntKind.i64.wrap (a + b))) 1)) + m)) - start) < b) = true›; omega) (by first | exact List.Perm.refl _ | exact rotate_perm (by have he_ := wrapI ((IntKind.i64.wrap ((IntKind.i64.wrap (shrI .u64 (IntKind.u64.wrap (IntKind.i64.wrap (a + b))) 1)) + m)) - start) (by omega); have hlt_ := of_decide_eq_true ‹decide (start < m) = true›; have hgt_ := of_decide_eq_true ‹decide (m < IntKind.i64.wrap ((IntKind.i64.wrap ((IntKind.i64.wrap (shrI .u64 (IntKind.u64.wrap (IntKind.i64.wrap (a + b))) 1)) + m)) - start)) = true›; omega) hL | exact hrp _ _ _ _ _ (by have he_ := wrapI ((IntKind.i64.wrap ((IntKind.i64.wrap (shrI .u64 (IntKind.u64.wrap (IntKind.i64.wrap (a + b))) 1)) + m)) - start) (by omega); have hlt_ := of_decide_eq_true ‹decide (a < start) = true›; have hgt_ := of_decide_eq_true ‹decide (start < (IntKind.i64.wrap (shrI .u64 (IntKind.u64.wrap (IntKind.i64.wrap (a + b))) 1))) = true›; omega) (by have he_ := wrapI ((IntKind.i64.wrap ((IntKind.i64.wrap (shrI .u64 (IntKind.u64.wrap (IntKind.i64.wrap (a + b))) 1)) + m)) - start) (by omega); have hlt_ := of_decide_eq_true ‹decide (a < start) = true›; have hgt_ := of_decide_eq_true ‹decide (start < (IntKind.i64.wrap (shrI .u64 (IntKind.u64.wrap (IntKind.i64.wrap (a + b))) 1))) = true›; omega) (List.Perm.refl _) | exact hrp _ _ _ _ _ (by have he_ := wrapI ((IntKind.i64.wrap ((IntKind.i64.wrap (shrI .u64 (IntKind.u64.wrap (IntKind.i64.wrap (a + b))) 1)) + m)) - start) (by omega); have hlt_ := of_decide_eq_true ‹decide (a < start) = true›; have hgt_ := of_decide_eq_true ‹decide (start < (IntKind.i64.wrap (shrI .u64 (IntKind.u64.wrap (IntKind.i64.wrap (a + b))) 1))) = true›; omega) (by have he_ := wrapI ((IntKind.i64.wrap ((IntKind.i64.wrap (shrI .u64 (IntKind.u64.wrap (IntKind.i64.wrap (a + b))) 1)) + m)) - start) (by omega); have hlt_ := of_decide_eq_true ‹decide (a < start) = true›; have hgt_ := of_decide_eq_true ‹decide (start < (IntKind.i64.wrap (shrI .u64 (IntKind.u64.wrap (IntKind.i64.wrap (a + b))) 1))) = true›; omega) (rotate_perm (by have he_ := wrapI ((IntKind.i64.wrap ((IntKind.i64.wrap (shrI .u64 (IntKind.u64.wrap (IntKind.i64.wrap (a + b))) 1)) + m)) - start) (by omega); have hlt_ := of_decide_eq_true ‹decide (start < m) = true›; have hgt_ := of_decide_eq_true ‹decide (m < IntKind.i64.wrap ((IntKind.i64.wrap ((IntKind.i64.wrap (shrI .u64 (IntKind.u64.wrap (IntKind.i64.wrap (a + b))) 1)) + m)) - start)) = true›; omega) hL))) (by simp only [AV.renL, AV.ren, AV.renL_none _ hw4]) rfl ?_)
          refine rvc_nil ?_
          subst hR
          exact ⟨.inr rfl, rfl, rfl⟩
         ·
          replace hR := of_false h97 hR
          refine Awp.skip ?_
          subst hR
          exact ⟨.inr rfl, rfl, rfl⟩
        ·
         replace hR := of_false h96 hR
         refine rvS ?_
         refine rvS ?_
         refine rvS ?_
         refine rvP C (.pv (.lit (.bool false))) ?_
         refine rvc_nil ?_
         refine Awp.condF (b := false) rfl rfl ?_
         refine Awp.skip ?_
         subst hR
         exact ⟨.inr rfl, rfl, rfl⟩
      ·
       replace hR := of_false h92 hR
       refine rvS ?_
       refine rvS ?_
       refine rvS ?_
       refine rvP C (.pv (.lit (.bool false))) ?_
       refine rvc_nil ?_
       refine Awp.condF (b := false) rfl rfl ?_
       refine Awp.skip ?_
       refine Awp.consP C ?_
       refine rvP C (.pv (.lit (.int .i64 (IntKind.i64.wrap (shrI .u64 (IntKind.u64.wrap (IntKind.i64.wrap (a + b))) 1))))) ?_
       refine rvP C (.pv (.lit (.int .i64 (IntKind.i64.wrap ((IntKind.i64.wrap ((IntKind.i64.wrap (shrI .u64 (IntKind.u64.wrap (IntKind.i64.wrap (a + b))) 1)) + m)) - start))))) ?_
       refine rvP C (.pv (.lit (.bool (decide ((IntKind.i64.wrap (shrI .u64 (IntKind.u64.wrap (IntKind.i64.wrap (a + b))) 1)) < (IntKind.i64.wrap ((IntKind.i64.wrap ((IntKind.i64.wrap (shrI .u64 (IntKind.u64.wrap (IntKind.i64.wrap (a + b))) 1)) + m)) - start))))))) ?_
       refine rvP C (.pv (.lit (.bool (decide ((IntKind.i64.wrap (shrI .u64 (IntKind.u64.wrap (IntKind.i64.wrap (a + b))) 1)) < (IntKind.i64.wrap ((IntKind.i64.wrap ((IntKind.i64.wrap (shrI .u64 (IntKind.u64.wrap (IntKind.i64.wrap (a + b))) 1)) + m)) - start))))))) ?_
       refine rvc_case 209 (decide ((IntKind.i64.wrap (shrI .u64 (IntKind.u64.wrap (IntKind.i64.wrap (a + b))) 1)) < (IntKind.i64.wrap ((IntKind.i64.wrap ((IntKind.i64.wrap (shrI .u64 (IntKind.u64.wrap (IntKind.i64.wrap (a + b))) 1)) + m)) - start)))) rfl (fun h98 => ?_) (fun h98 => ?_)
       ·
        replace hR := of_true h98 hR
        refine rvO C (.pv (.lit (.int .i64 (IntKind.i64.wrap ((IntKind.i64.wrap ((IntKind.i64.wrap (shrI .u64 (IntKind.u64.wrap (IntKind.i64.wrap (a + b))) 1)) + m)) - start))))) ?_
        refine rvO C (.pv (.lit (.int .i64 b))) ?_
        refine rvO C (.pv (.lit (.bool (decide ((IntKind.i64.wrap ((IntKind.i64.wrap ((IntKind.i64.wrap (shrI .u64 (IntKind.u64.wrap (IntKind.i64.wrap (a + b))) 1)) + m)) - start)) < b))))) ?_
        refine rvP C (.pv (.lit (.bool (decide ((IntKind.i64.wrap ((IntKind.i64.wrap ((IntKind.i64.wrap (shrI .u64 (IntKind.u64.wrap (IntKind.i64.wrap (a + b))) 1)) + m)) - start)) < b))))) ?_
        refine rvc_nil ?_
        refine Awp.cond (b := (decide ((IntKind.i64.wrap ((IntKind.i64.wrap ((IntKind.i64.wrap (shrI .u64 (IntKind.u64.wrap (IntKind.i64.wrap (a + b))) 1)) + m)) - start)) < b))) rfl (fun h99 => ?_) (fun h99 => ?_)
        ·
         replace hR := of_true h99 hR
         refine Awp.region C (fun _ => .writer) (by kernel_rfl) ?_
         refine rvP C (.sl 0 0 data.length 1 false) ?_
         refine rvP C (.pv (.lit (.int .i64 (IntKind.i64.wrap (shrI .u64 (IntKind.u64.wrap (IntKind.i64.wrap (a + b))) 1))))) ?_
         refine rvP C (.pv (.lit (.int .i64 (IntKind.i64.wrap ((IntKind.i64.wrap ((IntKind.i64.wrap (shrI .u64 (IntKind.u64.wrap (IntKind.i64.wrap (a + b))) 1)) + m)) - start))))) ?_
         refine rvP C (.pv (.lit (.int .i64 b))) ?_
         refine rvP C (.fn g4 [] caps4) ?_
         refine rvc_un (rexec_callM hP C (b := 0) rfl rfl rfl (hrec data (IntKind.i64.wrap (shrI .u64 (IntKind.u64.wrap (IntKind.i64.wrap (a + b))) 1)) (IntKind.i64.wrap ((IntKind.i64.wrap ((IntKind.i64.wrap (shrI .u64 (IntKind.u64.wrap (IntKind.i64.wrap (a + b))) 1)) + m)) - start)) b cmp g4 caps4 hp4 hw4 (by have he_ := wrapI ((IntKind.i64.wrap ((IntKind.i64.wrap (shrI .u64 (IntKind.u64.wrap (IntKind.i64.wrap (a + b))) 1)) + m)) - start) (by omega); have hlt_ := of_decide_eq_true ‹decide ((IntKind.i64.wrap (shrI .u64 (IntKind.u64.wrap (IntKind.i64.wrap (a + b))) 1)) < IntKind.i64.wrap ((IntKind.i64.wrap ((IntKind.i64.wrap (shrI .u64 (IntKind.u64.wrap (IntKind.i64.wrap (a + b))) 1)) + m)) - start)) = true›; have hgt_ := of_decide_eq_true ‹decide (IntKind.i64.wrap ((IntKind.i64.wrap ((IntKind.i64.wrap (shrI .u64 (IntKind.u64.wrap (IntKind.i64.wrap (a + b))) 1)) + m)) - start) < b) = true›; omega) (by have he_ := wrapI ((IntKind.i64.wrap ((IntKind.i64.wrap (shrI .u64 (IntKind.u64.wrap (IntKind.i64.wrap (a + b))) 1)) + m)) - start) (by omega); have hlt_ := of_decide_eq_true ‹decide ((IntKind.i64.wrap (shrI .u64 (IntKind.u64.wrap (IntKind.i64.wrap (a + b))) 1)) < IntKind.i64.wrap ((IntKind.i64.wrap ((IntKind.i64.wrap (shrI .u64 (IntKind.u64.wrap (IntKind.i64.wrap (a + b))) 1)) + m)) - start)) = true›; have hgt_ := of_decide_eq_true ‹decide (IntKind.i64.wrap ((IntKind.i64.wrap ((IntKind.i64.wrap (shrI .u64 (IntKind.u64.wrap (IntKind.i64.wrap (a + b))) 1)) + m)) - start) < b) = true›; omega) (by first | exact List.Perm.refl _ | exact rotate_perm (by have he_ := wrapI ((IntKind.i64.wrap ((IntKind.i64.wrap (shrI .u64 (IntKind.u64.wrap (IntKind.i64.wrap (a + b))) 1)) + m)) - start) (by omega); have hlt_ := of_decide_eq_true ‹decide (start < m) = true›; have hgt_ := of_decide_eq_true ‹decide (m < IntKind.i64.wrap ((IntKind.i64.wrap ((IntKind.i64.wrap (shrI .u64 (IntKind.u64.wrap (IntKind.i64.wrap (a + b))) 1)) + m)) - start)) = true›; omega) hL | exact hrp _ _ _ _ _ (by have he_ := wrapI ((IntKind.i64.wrap ((IntKind.i64.wrap (shrI .u64 (IntKind.u64.wrap (IntKind.i64.wrap (a + b))) 1)) + m)) - start) (by omega); have hlt_ := of_decide_eq_true ‹decide (a < start) = true›; have hgt_ := of_decide_eq_true ‹decide (start < (IntKind.i64.wrap (shrI .u64 (IntKind.u64.wrap (IntKind.i64.wrap (a + b))) 1))) = true›; omega) (by have he_ := wrapI ((IntKind.i64.wrap ((IntKind.i64.wrap (shrI .u64 (IntKind.u64.wrap (IntKind.i64.wrap (a + b))) 1)) + m)) - start) (by omega); have hlt_ := of_decide_eq_true ‹decide (a < start) = true›; have hgt_ := of_decide_eq_true ‹decide (start < (IntKind.i64.wrap (shrI .u64 (IntKind.u64.wrap (IntKind.i64.wrap (a + b))) 1))) = true›; omega) (List.Perm.refl _) | exact hrp _ _ _ _ _ (by have he_ := wrapI ((IntKind.i64.wrap ((IntKind.i64.wrap (shrI .u64 (IntKind.u64.wrap (IntKind.i64.wrap (a + b))) 1)) + m)) - start) (by omega); have hlt_ := of_decide_eq_true ‹decide (a < start) = true›; have hgt_ := of_decide_eq_true ‹decide (start < (IntKind.i64.wrap (shrI .u64 (IntKind.u64.wrap (IntKind.i64.wrap (a + b))) 1))) = true›; omega) (by have he_ := wrapI ((IntKind.i64.wrap ((IntKind.i64.wrap (shrI .u64 (IntKind.u64.wrap (IntKind.i64.wrap (a + b))) 1)) + m)) - start) (by omega); have hlt_ := of_decide_eq_true ‹decide (a < start) = true›; have hgt_ := of_decide_eq_true ‹decide (start < (IntKind.i64.wrap (shrI .u64 (IntKind.u64.wrap (IntKind.i64.wrap (a + b))) 1))) = true›; omega) (rotate_perm (by have he_ := wrapI ((IntKind.i64.wrap ((IntKind.i64.wrap (shrI .u64 (IntKind.u64.wrap (IntKind.i64.wrap (a + b))) 1)) + m)) - start) (by omega); have hlt_ := of_decide_eq_true ‹decide (start < m) = true›; have hgt_ := of_decide_eq_true ‹decide (m < IntKind.i64.wrap ((IntKind.i64.wrap ((IntKind.i64.wrap (shrI .u64 (IntKind.u64.wrap (IntKind.i64.wrap (a + b))) 1)) + m)) - start)) = true›; omega) hL))) (by simp only [AV.renL, AV.ren, AV.renL_none _ hw4]) rfl ?_)
         refine rvc_nil ?_
         subst hR
         exact ⟨.inr rfl, rfl, rfl⟩
        ·
         replace hR := of_false h99 hR
         refine Awp.skip ?_
         subst hR
         exact ⟨.inr rfl, rfl, rfl⟩
       ·
        replace hR := of_false h98 hR
        refine rvS ?_
        refine rvS ?_
        refine rvS ?_
        refine rvP C (.pv (.lit (.bool false))) ?_
        refine rvc_nil ?_
        refine Awp.condF (b := false) rfl rfl ?_
        refine Awp.skip ?_
        subst hR
        exact ⟨.inr rfl, rfl, rfl⟩
end Go.Proofs.Ytaoagcdljmpllaa
